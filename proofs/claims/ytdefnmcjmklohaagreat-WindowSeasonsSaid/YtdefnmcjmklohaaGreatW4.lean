/- What functions of the program compute: plain functions, and the proofs. -/
import Derived.Test.YtdefnmcjmklohaaGreatW3
open Go Go.Proofs.YtdefnmcjmklohaaGreat.Sh Go.Proofs
namespace Go.Proofs.YtdefnmcjmklohaaGreat
set_option linter.unusedVariables false
set_option linter.unusedSimpArgs false
set_option maxRecDepth 100000
set_option maxHeartbeats 4000000
def r_played_L1 (F : Nat) (p : WiPlan) (sky : WiSky) (turns : (List WiTurn)) (K : Desk → Int → Option (Desk × Int)) : Nat → Desk → Int → Option (Desk × Int)
 | 0, _, _ => none
 | n + 1, d, i => if i < (turns.length : Int) then (Option.bind (ixO turns i) fun e2 => Option.bind (r_act F p sky d e2) fun rv3 => if rv3.2 = 0 then (r_played_L1 F p sky turns K n rv3.1 (W (i + 1))) else (some ((Desk.mk [] [] [] 0 0 [] 0 0 false 0 0 0 0), rv3.2))) else (K d i)
def r_played_L2 (F : Nat) (p : WiPlan) (sky : WiSky) (turns : (List WiTurn)) (K : Desk → Int → Option (Desk × Int)) : Nat → Desk → Int → Option (Desk × Int)
 | 0, _, _ => none
 | n + 1, d2, i2 => if i2 < (turns.length : Int) then (Option.bind (ixO turns i2) fun e4 => Option.bind (r_act F p sky d2 e4) fun rv5 => if rv5.2 = 0 then (r_played_L2 F p sky turns K n rv5.1 (W (i2 + 1))) else (some ((Desk.mk [] [] [] 0 0 [] 0 0 false 0 0 0 0), rv5.2))) else (K d2 i2)
def r_played (F : Nat) (p : WiPlan) (s : WiState) (sky : WiSky) (turns : (List WiTurn)) : Option (Desk × Int) := Option.bind (r_asked F p s sky) fun rv => if rv = 0 then (if 16 < (turns.length : Int) then (some ((Desk.mk [] [] [] 0 0 [] 0 0 false 0 0 0 0), 3)) else (if rv = 0 then (Option.bind (r_copied F s) fun rv2 => Option.bind (ixO p.windows s.next) fun e => r_played_L1 F p sky turns (fun (d : Desk) (i : Int) => some (d, 0)) F (Desk.mk rv2.used rv2.credit rv2.last rv2.next e.from_ ([] : List Int) (-1) (-1) false s.next (-1) 0 (-1)) 0) else (some ((Desk.mk [] [] [] 0 0 [] 0 0 false 0 0 0 0), rv)))) else (if rv = 0 then (Option.bind (r_copied F s) fun rv4 => Option.bind (ixO p.windows s.next) fun e3 => r_played_L2 F p sky turns (fun (d2 : Desk) (i2 : Int) => some (d2, 0)) F (Desk.mk rv4.used rv4.credit rv4.last rv4.next e3.from_ ([] : List Int) (-1) (-1) false s.next (-1) 0 (-1)) 0) else (some ((Desk.mk [] [] [] 0 0 [] 0 0 false 0 0 0 0), rv)))
theorem r_played_pc {F : Nat} {p : WiPlan} {s : WiState} {sky : WiSky} {turns : (List WiTurn)} {r : (Desk × Int)} (h : r_played F p s sky turns = some r) : PC Tryz.prog 26 [WiPlan.d p, WiState.d s, WiSky.d sky, .arr 3 ((turns).map WiTurn.d)] (.tup [Desk.d r.1, .v (.int .i64 r.2)]) := by
 rw [r_played] at h
 refine PC.of_lend ?_
 refine SC.of_sw Tryz.func26 R R R ?_
 dsimp only [argS, List.map]
 refine qG (r_box R R R R R R R (r_box R R R R R R R (r_box R R R R R R R (r_alloc tb R R R R R (r_asgD R R R (eN (qG (r_ldD (y := WiPlan.d p) tb R R R R R R R R R (r_ldD (y := WiState.d s) tb R R R R R R R R R (r_ldD (y := WiSky.d sky) tb R R R R R R R R R ?_))))))))))
 obtain ⟨rv, hrv, h⟩ := bnd h
 refine r_call (r_asked_pc hrv) (.of (by kernel_rfl)) R R R R (r_asgD R R R (eN (sw_seq (qG (r_movD R R R ?_)))))
 refine r_eql R R R R ?_ ?_
 ·intro c
  replace h := ifP c h
  refine r_movD R R R (r_movD R R R (r_lenM tb R R R R R ?_))
  refine r_gtr R R R R ?_ ?_
  ·intro c2
   replace h := ifP c2 h
   refine r_pickT R R R R (eN (sw_condT R (sw_rg (r_asgD R R R (eN (sw_seq (qG (r_movD R R R ?_))))))))
   refine r_neq R R R R ?_ ?_
   rotate_left
   ·intro c3; exact absurd c3 (by decide)
   intro _
   refine eN (sw_condT R (qG (r_build (v := .d (.agg [.v (.slice none 0 0), .v (.slice none 0 0), .v (.slice none 0 0), .v (.int .i64 0), .v (.int .i64 0), .v (.slice none 0 0), .v (.int .i64 0), .v (.int .i64 0), .v (.bool false), .v (.int .i64 0), .v (.int .i64 0), .v (.int .i64 0), .v (.int .i64 0)])) tb R R (List.cons_ne_nil _ _) (by kernel_rfl) (by kernel_rfl) (by kernel_rfl) (by kernel_rfl) R R (r_movD R R R ?_))))
   refine r_stE _ ([some ⟨4, [.d (WiPlan.d p)]⟩, some ⟨4, [.d (WiState.d s)]⟩, some ⟨2, [.d (WiSky.d sky)]⟩, some ⟨13, [.d (.agg [.v (.slice none 0 0), .v (.slice none 0 0), .v (.slice none 0 0), .v (.int .i64 0), .v (.int .i64 0), .v (.slice none 0 0), .v (.int .i64 0), .v (.int .i64 0), .v (.bool false), .v (.int .i64 0), .v (.int .i64 0), .v (.int .i64 0), .v (.int .i64 0)])]⟩]) tb R R R R R R R R R R R R (r_asgD R R R (eN (sw_ret (then_ret ?_))))
   obtain rfl := sI h
   exact (fin_S (t := .d (.tup [.agg [.v (.slice none 0 0), .v (.slice none 0 0), .v (.slice none 0 0), .v (.int .i64 0), .v (.int .i64 0), .v (.slice none 0 0), .v (.int .i64 0), .v (.int .i64 0), .v (.bool false), .v (.int .i64 0), .v (.int .i64 0), .v (.int .i64 0), .v (.int .i64 0)], .v (.int .i64 3)])) (L := []) (κ := []) R (.cons (rcell tb (u := .d (.agg [.v (.slice none 0 0), .v (.slice none 0 0), .v (.slice none 0 0), .v (.int .i64 0), .v (.int .i64 0), .v (.slice none 0 0), .v (.int .i64 0), .v (.int .i64 0), .v (.bool false), .v (.int .i64 0), .v (.int .i64 0), .v (.int .i64 0), .v (.int .i64 0)])) R R R R R R R) (.cons (.tmp 9) .nil)) (vwK R R .nil (.cons R R .nil)) ⟨_, R, (.tupDL (.cons (.aggDL (.cons .nilA (.cons .nilA (.cons .nilA (.cons (.d _) (.cons (.d _) (.cons .nilA (.cons (.d _) (.cons (.d _) (.cons (.d _) (.cons (.d _) (.cons (.d _) (.cons (.d _) (.cons (.d _) .nil)))))))))))))) (.cons (.d _) .nil)))⟩)
  intro c2
  replace h := ifN (Int.not_lt.2 c2) h
  refine r_pickT R R R R (eN (sw_condF R (sw_skip (then_norm (sw_seq (qG (r_movD R R R ?_)))))))
  refine r_neq R R R R ?_ ?_
  ·intro c4
   replace h := ifN c4 h
   refine eN (sw_condT R (qG (r_build (v := .d (.agg [.v (.slice none 0 0), .v (.slice none 0 0), .v (.slice none 0 0), .v (.int .i64 0), .v (.int .i64 0), .v (.slice none 0 0), .v (.int .i64 0), .v (.int .i64 0), .v (.bool false), .v (.int .i64 0), .v (.int .i64 0), .v (.int .i64 0), .v (.int .i64 0)])) tb R R (List.cons_ne_nil _ _) (by kernel_rfl) (by kernel_rfl) (by kernel_rfl) (by kernel_rfl) R R (r_movD R R R ?_))))
   refine r_stE _ ([some ⟨4, [.d (WiPlan.d p)]⟩, some ⟨4, [.d (WiState.d s)]⟩, some ⟨2, [.d (WiSky.d sky)]⟩, some ⟨13, [.d (.agg [.v (.slice none 0 0), .v (.slice none 0 0), .v (.slice none 0 0), .v (.int .i64 0), .v (.int .i64 0), .v (.slice none 0 0), .v (.int .i64 0), .v (.int .i64 0), .v (.bool false), .v (.int .i64 0), .v (.int .i64 0), .v (.int .i64 0), .v (.int .i64 0)])]⟩]) tb R R R R R R R R R R R R (r_asgD R R R (eN (sw_ret (then_ret ?_))))
   obtain rfl := sI h
   exact (fin_S (t := .d (.tup [.agg [.v (.slice none 0 0), .v (.slice none 0 0), .v (.slice none 0 0), .v (.int .i64 0), .v (.int .i64 0), .v (.slice none 0 0), .v (.int .i64 0), .v (.int .i64 0), .v (.bool false), .v (.int .i64 0), .v (.int .i64 0), .v (.int .i64 0), .v (.int .i64 0)], .v (.int .i64 rv)])) (L := []) (κ := []) R (.cons (rcell tb (u := .d (.agg [.v (.slice none 0 0), .v (.slice none 0 0), .v (.slice none 0 0), .v (.int .i64 0), .v (.int .i64 0), .v (.slice none 0 0), .v (.int .i64 0), .v (.int .i64 0), .v (.bool false), .v (.int .i64 0), .v (.int .i64 0), .v (.int .i64 0), .v (.int .i64 0)])) R R R R R R R) (.cons (.tmp 9) .nil)) (vwK R R .nil (.cons R R .nil)) ⟨_, R, (.tupDL (.cons (.aggDL (.cons .nilA (.cons .nilA (.cons .nilA (.cons (.d _) (.cons (.d _) (.cons .nilA (.cons (.d _) (.cons (.d _) (.cons (.d _) (.cons (.d _) (.cons (.d _) (.cons (.d _) (.cons (.d _) .nil)))))))))))))) (.cons (.d _) .nil)))⟩)
  intro c4
  replace h := ifP c4 h
  refine eN (sw_condF R (sw_skip (then_norm (sw_seq (sw_dr (by kernel_rfl) (r_ldD (y := WiState.d s) tb R R R R R R R R R ?_))))))
  obtain ⟨rv2, hrv2, h⟩ := bnd h
  refine r_callN (t' := WiState_T1 rv2 4 5 6) (news' := [(lvI rv2.used), (lvI rv2.credit), (lvI rv2.last)]) (r_copied_scr hrv2) (.of (by kernel_rfl)) R R R ((.row (.row (.row .nil)))) R R R (r_fa tb R R R R R R R (r_ldD (y := .arr 3 ((p.windows).map WiWindow.d)) tb R R R R R R R R R (r_fa tb R R R R R R R (r_ldD (y := .v (.int .i64 s.next)) tb R R R R R R R R R ?_))))
  obtain ⟨e, ie, h⟩ := bnd h
  refine r_ixE tb R R R R R R (ix0 ie) (ix1m ie) R R (r_faE tb R R R R R R R (r_ldE (y := .v (.int .i64 e.from_)) tb R R (ix2 (g := WiWindow.d) ie) R R R R (r_fa tb R R R R R R R (r_ldD (y := .v (.int .i64 s.next)) tb R R R R R R R R R (r_build (v := .d (.agg [.v (.int .i64 s.next), .v (.int .i64 (-1)), .v (.int .i64 0), .v (.int .i64 (-1))])) tb R R (List.cons_ne_nil _ _) R R R R R R ?_)))))
  refine r_build (v := .agg [.row 4 1 0 (rv2.used).length, .row 5 1 0 (rv2.credit).length, .row 6 1 0 (rv2.last).length, .d (.v (.int .i64 rv2.next)), .d (.v (.int .i64 e.from_)), .d (.v (.slice none 0 0)), .d (.v (.int .i64 (-1))), .d (.v (.int .i64 (-1))), .d (.v (.bool false)), .d (.v (.int .i64 s.next)), .d (.v (.int .i64 (-1))), .d (.v (.int .i64 0)), .d (.v (.int .i64 (-1)))]) tb R R (List.cons_ne_nil _ _) (by kernel_rfl) (by kernel_rfl) (by kernel_rfl) (by kernel_rfl) R R (r_alloc tb R R R R R ?_)
  refine r_stE _ ([some ⟨4, [.d (WiPlan.d p)]⟩, some ⟨4, [.d (WiState.d s)]⟩, some ⟨2, [.d (WiSky.d sky)]⟩, some ⟨13, [.d (.agg [.v (.slice none 0 0), .v (.slice none 0 0), .v (.slice none 0 0), .v (.int .i64 0), .v (.int .i64 0), .v (.slice none 0 0), .v (.int .i64 0), .v (.int .i64 0), .v (.bool false), .v (.int .i64 0), .v (.int .i64 0), .v (.int .i64 0), .v (.int .i64 0)])]⟩, some (lvI rv2.used), some (lvI rv2.credit), some (lvI rv2.last), some ⟨13, [.agg [.row 4 1 0 (rv2.used).length, .row 5 1 0 (rv2.credit).length, .row 6 1 0 (rv2.last).length, .d (.v (.int .i64 rv2.next)), .d (.v (.int .i64 e.from_)), .d (.v (.slice none 0 0)), .d (.v (.int .i64 (-1))), .d (.v (.int .i64 (-1))), .d (.v (.bool false)), .d (.v (.int .i64 s.next)), .d (.v (.int .i64 (-1))), .d (.v (.int .i64 0)), .d (.v (.int .i64 (-1)))]]⟩]) tb R R R R R R R R R R R R ?_
  refine ev_endD (by kernel_rfl) (then_norm (sw_seq (qG (r_asgD R R R (eN (sw_block ?_))))))
  refine SW.own (ts' := [(3, .d (.arr 3 ((turns).map WiTurn.d))), (4, .ref 0 4 0 0), (6, .ref 2 2 0 0), (8, .ref 3 13 0 0), (9, .d (.v (.int .i64 0))), (11, .ref 7 13 0 0), (12, .d (.v (.int .i64 0)))]) (L' := [some ⟨4, [.d (WiPlan.d p)]⟩, some ⟨4, [.d (WiState.d s)]⟩, some ⟨2, [.d (WiSky.d sky)]⟩, some ⟨13, [.d (.agg [.v (.slice none 0 0), .v (.slice none 0 0), .v (.slice none 0 0), .v (.int .i64 0), .v (.int .i64 0), .v (.slice none 0 0), .v (.int .i64 0), .v (.int .i64 0), .v (.bool false), .v (.int .i64 0), .v (.int .i64 0), .v (.int .i64 0), .v (.int .i64 0)])]⟩, some (lvI rv2.used), some (lvI rv2.credit), some (lvI rv2.last), some ⟨13, [Desk_T2 (Desk.mk rv2.used rv2.credit rv2.last rv2.next e.from_ ([] : List Int) (-1) (-1) false s.next (-1) 0 (-1)) 4 5 6 8]⟩]) 1 R R (.cons (.same _) (.cons (.same _) (.cons (.same _) (.cons (.same _) (.cons (.same _) (.cons (.same _) (.cons (.same _) .nil))))))) (.same (.same (.same (.same (.same (.same (.same (.cons R (.cons (.aggL (.cons (.same _) (.cons (.same _) (.cons (.same _) (.cons (.same _) (.cons (.same _) (.cons .nil (.cons (.same _) (.cons (.same _) (.cons (.same _) (.cons (.same _) (.cons (.same _) (.cons (.same _) (.cons (.same _) .nil)))))))))))))) .nil) .nil)))))))) ?_
  simp only [List.cons_append, List.nil_append]
  refine SW.fz (ts' := [(3, .d (.arr 3 ((turns).map WiTurn.d))), (4, .ref 0 4 0 0), (6, .ref 2 2 0 0), (8, .ref 3 13 0 0), (9, .d (.v (.int .i64 0))), (11, .ref 7 13 0 0), (12, .d (.v (.int .i64 0)))]) (L' := [some ⟨4, [.d (WiPlan.d p)]⟩, some ⟨4, [.d (WiState.d s)]⟩, some ⟨2, [.d (WiSky.d sky)]⟩, some ⟨13, [.d (.agg [.v (.slice none 0 0), .v (.slice none 0 0), .v (.slice none 0 0), .v (.int .i64 0), .v (.int .i64 0), .v (.slice none 0 0), .v (.int .i64 0), .v (.int .i64 0), .v (.bool false), .v (.int .i64 0), .v (.int .i64 0), .v (.int .i64 0), .v (.int .i64 0)])]⟩, none, some (lvI rv2.credit), some (lvI rv2.last), some ⟨13, [Desk_T4 (Desk.mk rv2.used rv2.credit rv2.last rv2.next e.from_ ([] : List Int) (-1) (-1) false s.next (-1) 0 (-1)) 5 6 8]⟩, some (lvI ([] : List Int))]) (w := rv2.used) (f := vI) 4 1 R (.cons (.same _) (.cons (.same _) (.cons (.same _) (.cons (.same _) (.cons (.same _) (.cons (.same _) (.cons (.same _) .nil))))))) (.same (.same (.same (.same (.same (.same (.same (.cons R (.cons (.aggL (.cons (.all (List.length_map _)) (.cons (.same _) (.cons (.same _) (.cons (.same _) (.cons (.same _) (.cons (.same _) (.cons (.same _) (.cons (.same _) (.cons (.same _) (.cons (.same _) (.cons (.same _) (.cons (.same _) (.cons (.same _) .nil)))))))))))))) .nil) (.same .nil))))))))) ?_
  refine SW.fz (ts' := [(3, .d (.arr 3 ((turns).map WiTurn.d))), (4, .ref 0 4 0 0), (6, .ref 2 2 0 0), (8, .ref 3 13 0 0), (9, .d (.v (.int .i64 0))), (11, .ref 7 13 0 0), (12, .d (.v (.int .i64 0)))]) (L' := [some ⟨4, [.d (WiPlan.d p)]⟩, some ⟨4, [.d (WiState.d s)]⟩, some ⟨2, [.d (WiSky.d sky)]⟩, some ⟨13, [.d (.agg [.v (.slice none 0 0), .v (.slice none 0 0), .v (.slice none 0 0), .v (.int .i64 0), .v (.int .i64 0), .v (.slice none 0 0), .v (.int .i64 0), .v (.int .i64 0), .v (.bool false), .v (.int .i64 0), .v (.int .i64 0), .v (.int .i64 0), .v (.int .i64 0)])]⟩, none, none, some (lvI rv2.last), some ⟨13, [Desk_T5 (Desk.mk rv2.used rv2.credit rv2.last rv2.next e.from_ ([] : List Int) (-1) (-1) false s.next (-1) 0 (-1)) 6 8]⟩, some (lvI ([] : List Int))]) (w := rv2.credit) (f := vI) 5 1 R (.cons (.same _) (.cons (.same _) (.cons (.same _) (.cons (.same _) (.cons (.same _) (.cons (.same _) (.cons (.same _) .nil))))))) (.same (.same (.same (.same (.same (.same (.same (.cons R (.cons (.aggL (.cons (.same _) (.cons (.all (List.length_map _)) (.cons (.same _) (.cons (.same _) (.cons (.same _) (.cons (.same _) (.cons (.same _) (.cons (.same _) (.cons (.same _) (.cons (.same _) (.cons (.same _) (.cons (.same _) (.cons (.same _) .nil)))))))))))))) .nil) (.same .nil))))))))) ?_
  refine SW.fz (ts' := [(3, .d (.arr 3 ((turns).map WiTurn.d))), (4, .ref 0 4 0 0), (6, .ref 2 2 0 0), (8, .ref 3 13 0 0), (9, .d (.v (.int .i64 0))), (11, .ref 7 13 0 0), (12, .d (.v (.int .i64 0)))]) (L' := [some ⟨4, [.d (WiPlan.d p)]⟩, some ⟨4, [.d (WiState.d s)]⟩, some ⟨2, [.d (WiSky.d sky)]⟩, some ⟨13, [.d (.agg [.v (.slice none 0 0), .v (.slice none 0 0), .v (.slice none 0 0), .v (.int .i64 0), .v (.int .i64 0), .v (.slice none 0 0), .v (.int .i64 0), .v (.int .i64 0), .v (.bool false), .v (.int .i64 0), .v (.int .i64 0), .v (.int .i64 0), .v (.int .i64 0)])]⟩, none, none, none, some ⟨13, [Desk_T3 (Desk.mk rv2.used rv2.credit rv2.last rv2.next e.from_ ([] : List Int) (-1) (-1) false s.next (-1) 0 (-1)) 8]⟩, some (lvI ([] : List Int))]) (w := rv2.last) (f := vI) 6 1 R (.cons (.same _) (.cons (.same _) (.cons (.same _) (.cons (.same _) (.cons (.same _) (.cons (.same _) (.cons (.same _) .nil))))))) (.same (.same (.same (.same (.same (.same (.same (.cons R (.cons (.aggL (.cons (.same _) (.cons (.same _) (.cons (.all (List.length_map _)) (.cons (.same _) (.cons (.same _) (.cons (.same _) (.cons (.same _) (.cons (.same _) (.cons (.same _) (.cons (.same _) (.cons (.same _) (.cons (.same _) (.cons (.same _) .nil)))))))))))))) .nil) (.same .nil))))))))) ?_
  refine SW.fz (ts' := [(3, .d (.arr 3 ((turns).map WiTurn.d))), (4, .ref 0 4 0 0), (6, .ref 2 2 0 0), (8, .ref 3 13 0 0), (9, .d (.v (.int .i64 0))), (11, .ref 7 13 0 0), (12, .d (.v (.int .i64 0)))]) (L' := [some ⟨4, [.d (WiPlan.d p)]⟩, some ⟨4, [.d (WiState.d s)]⟩, some ⟨2, [.d (WiSky.d sky)]⟩, some ⟨13, [.d (.agg [.v (.slice none 0 0), .v (.slice none 0 0), .v (.slice none 0 0), .v (.int .i64 0), .v (.int .i64 0), .v (.slice none 0 0), .v (.int .i64 0), .v (.int .i64 0), .v (.bool false), .v (.int .i64 0), .v (.int .i64 0), .v (.int .i64 0), .v (.int .i64 0)])]⟩, none, none, none, some ⟨13, [.d (.agg [.arr 1 ((rv2.used).map vI), .arr 1 ((rv2.credit).map vI), .arr 1 ((rv2.last).map vI), .v (.int .i64 rv2.next), .v (.int .i64 e.from_), .arr 1 ((([] : List Int)).map vI), .v (.int .i64 (-1)), .v (.int .i64 (-1)), .v (.bool false), .v (.int .i64 s.next), .v (.int .i64 (-1)), .v (.int .i64 0), .v (.int .i64 (-1))])]⟩, none]) (w := ([] : List Int)) (f := vI) 8 1 R (.cons (.same _) (.cons (.same _) (.cons (.same _) (.cons (.same _) (.cons (.same _) (.cons (.same _) (.cons (.same _) .nil))))))) (.same (.same (.same (.same (.same (.same (.same (.cons R (.cons (.aggDL (.cons (.same _) (.cons (.same _) (.cons (.same _) (.cons (.same _) (.cons (.same _) (.cons (.all (List.length_map _)) (.cons (.same _) (.cons (.same _) (.cons (.same _) (.cons (.same _) (.cons (.same _) (.cons (.same _) (.cons (.same _) .nil)))))))))))))) .nil) (.same .nil))))))))) ?_
  obtain ⟨K1, hK1, h⟩ : ∃ K, K = _ ∧ r_played_L1 F p sky turns K F (Desk.mk rv2.used rv2.credit rv2.last rv2.next e.from_ ([] : List Int) (-1) (-1) false s.next (-1) 0 (-1)) 0 = some r := ⟨_, rfl, h⟩
  refine sw_loop (st0 := ⟨[(3, .d (.arr 3 ((turns).map WiTurn.d))), (4, .ref 0 4 0 0), (6, .ref 1 2 0 0), (8, .ref 2 13 0 0), (9, .d (.v (.int .i64 0))), (11, .ref 3 13 0 0), (12, .d (.v (.int .i64 0)))], [some ⟨4, [.d (WiPlan.d p)]⟩, some ⟨2, [.d (WiSky.d sky)]⟩, some ⟨13, [.d (.agg [.v (.slice none 0 0), .v (.slice none 0 0), .v (.slice none 0 0), .v (.int .i64 0), .v (.int .i64 0), .v (.slice none 0 0), .v (.int .i64 0), .v (.int .i64 0), .v (.bool false), .v (.int .i64 0), .v (.int .i64 0), .v (.int .i64 0), .v (.int .i64 0)])]⟩, some ⟨13, [.d (.agg [.arr 1 ((rv2.used).map vI), .arr 1 ((rv2.credit).map vI), .arr 1 ((rv2.last).map vI), .v (.int .i64 rv2.next), .v (.int .i64 e.from_), .arr 1 ((([] : List Int)).map vI), .v (.int .i64 (-1)), .v (.int .i64 (-1)), .v (.bool false), .v (.int .i64 s.next), .v (.int .i64 (-1)), .v (.int .i64 0), .v (.int .i64 (-1))])]⟩]⟩) (κ := [0, 2, 3, 7]) (fun m st => ∃ (d : Desk) (i : Int), r_played_L1 F p sky turns K1 m d i = some r ∧ st = ⟨[(3, .d (.arr 3 ((turns).map WiTurn.d))), (4, .ref 0 4 0 0), (6, .ref 1 2 0 0), (8, .ref 2 13 0 0), (9, .d (.v (.int .i64 0))), (11, .ref 3 13 0 0), (12, .d (.v (.int .i64 i)))], [some ⟨4, [.d (WiPlan.d p)]⟩, some ⟨2, [.d (WiSky.d sky)]⟩, some ⟨13, [.d (.agg [.v (.slice none 0 0), .v (.slice none 0 0), .v (.slice none 0 0), .v (.int .i64 0), .v (.int .i64 0), .v (.slice none 0 0), .v (.int .i64 0), .v (.int .i64 0), .v (.bool false), .v (.int .i64 0), .v (.int .i64 0), .v (.int .i64 0), .v (.int .i64 0)])]⟩, some ⟨13, [.d (Desk.d d)]⟩]⟩) (vwK R R (.cons R R (.cons R R (.cons R R (.cons R R .nil)))) (.cons R R (.cons R R (.cons R R (.cons R R (.cons R R (.cons R R (.cons R R .nil)))))))) ⟨(Desk.mk rv2.used rv2.credit rv2.last rv2.next e.from_ ([] : List Int) (-1) (-1) false s.next (-1) 0 (-1)), 0, h, R⟩ ?_
  clear h
  rintro m1 st ⟨d, i, h, rfl⟩
  cases m1 with
  | zero => cases (show (none : Option (Desk × Int)) = some r from h)
  | succ m1 =>
  rw [r_played_L1] at h
  refine sw_seq (qG (r_movD R R R (r_movD R R R (r_lenM tb R R R R R ?_))))
  refine r_lss R R R R ?_ ?_
  ·intro c5
   replace h := ifP c5 h
   refine eN (sw_condT R (sw_skip (then_norm (sw_seq (sw_block (sw_seq (sw_dr (by kernel_rfl) (r_ldD (y := WiPlan.d p) tb R R R R R R R R R (r_ldD (y := WiSky.d sky) tb R R R R R R R R R (r_ldD (y := Desk.d d) tb R R R R R R R R R (r_movD R R R (r_movD R R R ?_))))))))))))
   obtain ⟨e2, ie2, h⟩ := bnd h
   refine r_ixE tb R R R R R R (ix0 ie2) (ix1m ie2) R R (r_ldE (y := WiTurn.d e2) tb R R (ix2 (g := WiTurn.d) ie2) R R R R ?_)
   obtain ⟨rv3, hrv3, h⟩ := bnd h
   refine r_call (r_act_pc hrv3) (.of (by kernel_rfl)) R R R R (r_movD R R R (r_extD (t := Desk.d rv3.1) R R R R (r_extD (t := .v (.int .i64 rv3.2)) R R R R ?_)))
   refine r_stE _ ([some ⟨4, [.d (WiPlan.d p)]⟩, some ⟨2, [.d (WiSky.d sky)]⟩, some ⟨13, [.d (.agg [.v (.slice none 0 0), .v (.slice none 0 0), .v (.slice none 0 0), .v (.int .i64 0), .v (.int .i64 0), .v (.slice none 0 0), .v (.int .i64 0), .v (.int .i64 0), .v (.bool false), .v (.int .i64 0), .v (.int .i64 0), .v (.int .i64 0), .v (.int .i64 0)])]⟩, some ⟨13, [.d (Desk.d rv3.1)]⟩]) tb R R R R R R R R R R R R (r_asgD R R R (ev_endD (by kernel_rfl) (then_norm (qG (r_movD R R R ?_)))))
   refine r_neq R R R R ?_ ?_
   ·intro c6
    replace h := ifN c6 h
    refine eN (sw_condT R (qG (r_build (v := .d (.agg [.v (.slice none 0 0), .v (.slice none 0 0), .v (.slice none 0 0), .v (.int .i64 0), .v (.int .i64 0), .v (.slice none 0 0), .v (.int .i64 0), .v (.int .i64 0), .v (.bool false), .v (.int .i64 0), .v (.int .i64 0), .v (.int .i64 0), .v (.int .i64 0)])) tb R R (List.cons_ne_nil _ _) (by kernel_rfl) (by kernel_rfl) (by kernel_rfl) (by kernel_rfl) R R (r_movD R R R ?_))))
    refine r_stE _ ([some ⟨4, [.d (WiPlan.d p)]⟩, some ⟨2, [.d (WiSky.d sky)]⟩, some ⟨13, [.d (.agg [.v (.slice none 0 0), .v (.slice none 0 0), .v (.slice none 0 0), .v (.int .i64 0), .v (.int .i64 0), .v (.slice none 0 0), .v (.int .i64 0), .v (.int .i64 0), .v (.bool false), .v (.int .i64 0), .v (.int .i64 0), .v (.int .i64 0), .v (.int .i64 0)])]⟩, some ⟨13, [.d (Desk.d rv3.1)]⟩]) tb R R R R R R R R R R R R (r_asgD R R R (eN (sw_ret (block_ret (then_ret (then_ret (block_ret (then_ret ?_))))))))
    obtain rfl := sI h
    exact (fin_S (t := .d (.tup [.agg [.v (.slice none 0 0), .v (.slice none 0 0), .v (.slice none 0 0), .v (.int .i64 0), .v (.int .i64 0), .v (.slice none 0 0), .v (.int .i64 0), .v (.int .i64 0), .v (.bool false), .v (.int .i64 0), .v (.int .i64 0), .v (.int .i64 0), .v (.int .i64 0)], .v (.int .i64 rv3.2)])) (L := []) (κ := []) R (.cons (rcell tb (u := .d (.agg [.v (.slice none 0 0), .v (.slice none 0 0), .v (.slice none 0 0), .v (.int .i64 0), .v (.int .i64 0), .v (.slice none 0 0), .v (.int .i64 0), .v (.int .i64 0), .v (.bool false), .v (.int .i64 0), .v (.int .i64 0), .v (.int .i64 0), .v (.int .i64 0)])) R R R R R R R) (.cons (.tmp 9) .nil)) (vwK R R .nil (.cons R R .nil)) ⟨_, R, (.tupDL (.cons (.aggDL (.cons .nilA (.cons .nilA (.cons .nilA (.cons (.d _) (.cons (.d _) (.cons .nilA (.cons (.d _) (.cons (.d _) (.cons (.d _) (.cons (.d _) (.cons (.d _) (.cons (.d _) (.cons (.d _) .nil)))))))))))))) (.cons (.d _) .nil)))⟩)
   intro c6
   replace h := ifP c6 h
   refine eN (sw_condF R (sw_skip (block_norm (then_norm (sw_rg (r_movD R R R (r_add R R R R (r_asgD R R R (eN ?_)))))))))
   exact ⟨m1, ⟨[(3, .d (.arr 3 ((turns).map WiTurn.d))), (4, .ref 0 4 0 0), (6, .ref 1 2 0 0), (8, .ref 2 13 0 0), (9, .d (.v (.int .i64 0))), (11, .ref 3 13 0 0), (12, .d (.v (.int .i64 (W (i + 1)))))], [some ⟨4, [.d (WiPlan.d p)]⟩, some ⟨2, [.d (WiSky.d sky)]⟩, some ⟨13, [.d (.agg [.v (.slice none 0 0), .v (.slice none 0 0), .v (.slice none 0 0), .v (.int .i64 0), .v (.int .i64 0), .v (.slice none 0 0), .v (.int .i64 0), .v (.int .i64 0), .v (.bool false), .v (.int .i64 0), .v (.int .i64 0), .v (.int .i64 0), .v (.int .i64 0)])]⟩, some ⟨13, [.d (Desk.d rv3.1)]⟩]⟩, [0, 1, 2, 3], Nat.lt_succ_self _, (vwK R R (.cons R R (.cons R R (.cons R R (.cons R R .nil)))) (.cons R R (.cons R R (.cons R R (.cons R R (.cons R R (.cons R R (.cons R R .nil)))))))), rv3.1, (W (i + 1)), h, R⟩
  intro c5
  replace h := ifN (Int.not_lt.2 c5) h
  refine eN (sw_condF R (sw_exit (then_exit (then_exit ?_))))
  subst hK1
  refine block_exit (then_norm (qG (r_ldD (y := Desk.d d) tb R R R R R R R R R (r_stE _ ([some ⟨4, [.d (WiPlan.d p)]⟩, some ⟨2, [.d (WiSky.d sky)]⟩, some ⟨13, [.d (Desk.d d)]⟩, some ⟨13, [.d (Desk.d d)]⟩]) tb R R R R R R R R R R R R (r_asgD R R R (eN (sw_ret ?_)))))))
  obtain rfl := sI h
  exact (fin_S (t := .d (.tup [Desk.d d, .v (.int .i64 0)])) (L := []) (κ := []) R (.cons (rcell tb (u := .d (Desk.d d)) R R R R R R R) (.cons (.tmp 9) .nil)) (vwK R R .nil (.cons R R .nil)) ⟨_, R, (.d _)⟩)
 intro c
 replace h := ifN c h
 refine r_movD R R R (r_skip R R R (r_skip R R R (r_skip R R R (r_pickF R R R R (eN (sw_condF R (sw_skip (then_norm (sw_seq (qG (r_movD R R R ?_)))))))))))
 refine r_neq R R R R ?_ ?_
 ·intro c7
  replace h := ifN c7 h
  refine eN (sw_condT R (qG (r_build (v := .d (.agg [.v (.slice none 0 0), .v (.slice none 0 0), .v (.slice none 0 0), .v (.int .i64 0), .v (.int .i64 0), .v (.slice none 0 0), .v (.int .i64 0), .v (.int .i64 0), .v (.bool false), .v (.int .i64 0), .v (.int .i64 0), .v (.int .i64 0), .v (.int .i64 0)])) tb R R (List.cons_ne_nil _ _) (by kernel_rfl) (by kernel_rfl) (by kernel_rfl) (by kernel_rfl) R R (r_movD R R R ?_))))
  refine r_stE _ ([some ⟨4, [.d (WiPlan.d p)]⟩, some ⟨4, [.d (WiState.d s)]⟩, some ⟨2, [.d (WiSky.d sky)]⟩, some ⟨13, [.d (.agg [.v (.slice none 0 0), .v (.slice none 0 0), .v (.slice none 0 0), .v (.int .i64 0), .v (.int .i64 0), .v (.slice none 0 0), .v (.int .i64 0), .v (.int .i64 0), .v (.bool false), .v (.int .i64 0), .v (.int .i64 0), .v (.int .i64 0), .v (.int .i64 0)])]⟩]) tb R R R R R R R R R R R R (r_asgD R R R (eN (sw_ret (then_ret ?_))))
  obtain rfl := sI h
  exact (fin_S (t := .d (.tup [.agg [.v (.slice none 0 0), .v (.slice none 0 0), .v (.slice none 0 0), .v (.int .i64 0), .v (.int .i64 0), .v (.slice none 0 0), .v (.int .i64 0), .v (.int .i64 0), .v (.bool false), .v (.int .i64 0), .v (.int .i64 0), .v (.int .i64 0), .v (.int .i64 0)], .v (.int .i64 rv)])) (L := []) (κ := []) R (.cons (rcell tb (u := .d (.agg [.v (.slice none 0 0), .v (.slice none 0 0), .v (.slice none 0 0), .v (.int .i64 0), .v (.int .i64 0), .v (.slice none 0 0), .v (.int .i64 0), .v (.int .i64 0), .v (.bool false), .v (.int .i64 0), .v (.int .i64 0), .v (.int .i64 0), .v (.int .i64 0)])) R R R R R R R) (.cons (.tmp 9) .nil)) (vwK R R .nil (.cons R R .nil)) ⟨_, R, (.tupDL (.cons (.aggDL (.cons .nilA (.cons .nilA (.cons .nilA (.cons (.d _) (.cons (.d _) (.cons .nilA (.cons (.d _) (.cons (.d _) (.cons (.d _) (.cons (.d _) (.cons (.d _) (.cons (.d _) (.cons (.d _) .nil)))))))))))))) (.cons (.d _) .nil)))⟩)
 intro c7
 replace h := ifP c7 h
 refine eN (sw_condF R (sw_skip (then_norm (sw_seq (sw_dr (by kernel_rfl) (r_ldD (y := WiState.d s) tb R R R R R R R R R ?_))))))
 obtain ⟨rv4, hrv4, h⟩ := bnd h
 refine r_callN (t' := WiState_T1 rv4 4 5 6) (news' := [(lvI rv4.used), (lvI rv4.credit), (lvI rv4.last)]) (r_copied_scr hrv4) (.of (by kernel_rfl)) R R R ((.row (.row (.row .nil)))) R R R (r_fa tb R R R R R R R (r_ldD (y := .arr 3 ((p.windows).map WiWindow.d)) tb R R R R R R R R R (r_fa tb R R R R R R R (r_ldD (y := .v (.int .i64 s.next)) tb R R R R R R R R R ?_))))
 obtain ⟨e3, ie3, h⟩ := bnd h
 refine r_ixE tb R R R R R R (ix0 ie3) (ix1m ie3) R R (r_faE tb R R R R R R R (r_ldE (y := .v (.int .i64 e3.from_)) tb R R (ix2 (g := WiWindow.d) ie3) R R R R (r_fa tb R R R R R R R (r_ldD (y := .v (.int .i64 s.next)) tb R R R R R R R R R (r_build (v := .d (.agg [.v (.int .i64 s.next), .v (.int .i64 (-1)), .v (.int .i64 0), .v (.int .i64 (-1))])) tb R R (List.cons_ne_nil _ _) R R R R R R ?_)))))
 refine r_build (v := .agg [.row 4 1 0 (rv4.used).length, .row 5 1 0 (rv4.credit).length, .row 6 1 0 (rv4.last).length, .d (.v (.int .i64 rv4.next)), .d (.v (.int .i64 e3.from_)), .d (.v (.slice none 0 0)), .d (.v (.int .i64 (-1))), .d (.v (.int .i64 (-1))), .d (.v (.bool false)), .d (.v (.int .i64 s.next)), .d (.v (.int .i64 (-1))), .d (.v (.int .i64 0)), .d (.v (.int .i64 (-1)))]) tb R R (List.cons_ne_nil _ _) (by kernel_rfl) (by kernel_rfl) (by kernel_rfl) (by kernel_rfl) R R (r_alloc tb R R R R R ?_)
 refine r_stE _ ([some ⟨4, [.d (WiPlan.d p)]⟩, some ⟨4, [.d (WiState.d s)]⟩, some ⟨2, [.d (WiSky.d sky)]⟩, some ⟨13, [.d (.agg [.v (.slice none 0 0), .v (.slice none 0 0), .v (.slice none 0 0), .v (.int .i64 0), .v (.int .i64 0), .v (.slice none 0 0), .v (.int .i64 0), .v (.int .i64 0), .v (.bool false), .v (.int .i64 0), .v (.int .i64 0), .v (.int .i64 0), .v (.int .i64 0)])]⟩, some (lvI rv4.used), some (lvI rv4.credit), some (lvI rv4.last), some ⟨13, [.agg [.row 4 1 0 (rv4.used).length, .row 5 1 0 (rv4.credit).length, .row 6 1 0 (rv4.last).length, .d (.v (.int .i64 rv4.next)), .d (.v (.int .i64 e3.from_)), .d (.v (.slice none 0 0)), .d (.v (.int .i64 (-1))), .d (.v (.int .i64 (-1))), .d (.v (.bool false)), .d (.v (.int .i64 s.next)), .d (.v (.int .i64 (-1))), .d (.v (.int .i64 0)), .d (.v (.int .i64 (-1)))]]⟩]) tb R R R R R R R R R R R R ?_
 refine ev_endD (by kernel_rfl) (then_norm (sw_seq (qG (r_asgD R R R (eN (sw_block ?_))))))
 refine SW.own (ts' := [(3, .d (.arr 3 ((turns).map WiTurn.d))), (4, .ref 0 4 0 0), (6, .ref 2 2 0 0), (8, .ref 3 13 0 0), (9, .d (.v (.int .i64 0))), (11, .ref 7 13 0 0), (12, .d (.v (.int .i64 0)))]) (L' := [some ⟨4, [.d (WiPlan.d p)]⟩, some ⟨4, [.d (WiState.d s)]⟩, some ⟨2, [.d (WiSky.d sky)]⟩, some ⟨13, [.d (.agg [.v (.slice none 0 0), .v (.slice none 0 0), .v (.slice none 0 0), .v (.int .i64 0), .v (.int .i64 0), .v (.slice none 0 0), .v (.int .i64 0), .v (.int .i64 0), .v (.bool false), .v (.int .i64 0), .v (.int .i64 0), .v (.int .i64 0), .v (.int .i64 0)])]⟩, some (lvI rv4.used), some (lvI rv4.credit), some (lvI rv4.last), some ⟨13, [Desk_T2 (Desk.mk rv4.used rv4.credit rv4.last rv4.next e3.from_ ([] : List Int) (-1) (-1) false s.next (-1) 0 (-1)) 4 5 6 8]⟩]) 1 R R (.cons (.same _) (.cons (.same _) (.cons (.same _) (.cons (.same _) (.cons (.same _) (.cons (.same _) (.cons (.same _) .nil))))))) (.same (.same (.same (.same (.same (.same (.same (.cons R (.cons (.aggL (.cons (.same _) (.cons (.same _) (.cons (.same _) (.cons (.same _) (.cons (.same _) (.cons .nil (.cons (.same _) (.cons (.same _) (.cons (.same _) (.cons (.same _) (.cons (.same _) (.cons (.same _) (.cons (.same _) .nil)))))))))))))) .nil) .nil)))))))) ?_
 simp only [List.cons_append, List.nil_append]
 refine SW.fz (ts' := [(3, .d (.arr 3 ((turns).map WiTurn.d))), (4, .ref 0 4 0 0), (6, .ref 2 2 0 0), (8, .ref 3 13 0 0), (9, .d (.v (.int .i64 0))), (11, .ref 7 13 0 0), (12, .d (.v (.int .i64 0)))]) (L' := [some ⟨4, [.d (WiPlan.d p)]⟩, some ⟨4, [.d (WiState.d s)]⟩, some ⟨2, [.d (WiSky.d sky)]⟩, some ⟨13, [.d (.agg [.v (.slice none 0 0), .v (.slice none 0 0), .v (.slice none 0 0), .v (.int .i64 0), .v (.int .i64 0), .v (.slice none 0 0), .v (.int .i64 0), .v (.int .i64 0), .v (.bool false), .v (.int .i64 0), .v (.int .i64 0), .v (.int .i64 0), .v (.int .i64 0)])]⟩, none, some (lvI rv4.credit), some (lvI rv4.last), some ⟨13, [Desk_T4 (Desk.mk rv4.used rv4.credit rv4.last rv4.next e3.from_ ([] : List Int) (-1) (-1) false s.next (-1) 0 (-1)) 5 6 8]⟩, some (lvI ([] : List Int))]) (w := rv4.used) (f := vI) 4 1 R (.cons (.same _) (.cons (.same _) (.cons (.same _) (.cons (.same _) (.cons (.same _) (.cons (.same _) (.cons (.same _) .nil))))))) (.same (.same (.same (.same (.same (.same (.same (.cons R (.cons (.aggL (.cons (.all (List.length_map _)) (.cons (.same _) (.cons (.same _) (.cons (.same _) (.cons (.same _) (.cons (.same _) (.cons (.same _) (.cons (.same _) (.cons (.same _) (.cons (.same _) (.cons (.same _) (.cons (.same _) (.cons (.same _) .nil)))))))))))))) .nil) (.same .nil))))))))) ?_
 refine SW.fz (ts' := [(3, .d (.arr 3 ((turns).map WiTurn.d))), (4, .ref 0 4 0 0), (6, .ref 2 2 0 0), (8, .ref 3 13 0 0), (9, .d (.v (.int .i64 0))), (11, .ref 7 13 0 0), (12, .d (.v (.int .i64 0)))]) (L' := [some ⟨4, [.d (WiPlan.d p)]⟩, some ⟨4, [.d (WiState.d s)]⟩, some ⟨2, [.d (WiSky.d sky)]⟩, some ⟨13, [.d (.agg [.v (.slice none 0 0), .v (.slice none 0 0), .v (.slice none 0 0), .v (.int .i64 0), .v (.int .i64 0), .v (.slice none 0 0), .v (.int .i64 0), .v (.int .i64 0), .v (.bool false), .v (.int .i64 0), .v (.int .i64 0), .v (.int .i64 0), .v (.int .i64 0)])]⟩, none, none, some (lvI rv4.last), some ⟨13, [Desk_T5 (Desk.mk rv4.used rv4.credit rv4.last rv4.next e3.from_ ([] : List Int) (-1) (-1) false s.next (-1) 0 (-1)) 6 8]⟩, some (lvI ([] : List Int))]) (w := rv4.credit) (f := vI) 5 1 R (.cons (.same _) (.cons (.same _) (.cons (.same _) (.cons (.same _) (.cons (.same _) (.cons (.same _) (.cons (.same _) .nil))))))) (.same (.same (.same (.same (.same (.same (.same (.cons R (.cons (.aggL (.cons (.same _) (.cons (.all (List.length_map _)) (.cons (.same _) (.cons (.same _) (.cons (.same _) (.cons (.same _) (.cons (.same _) (.cons (.same _) (.cons (.same _) (.cons (.same _) (.cons (.same _) (.cons (.same _) (.cons (.same _) .nil)))))))))))))) .nil) (.same .nil))))))))) ?_
 refine SW.fz (ts' := [(3, .d (.arr 3 ((turns).map WiTurn.d))), (4, .ref 0 4 0 0), (6, .ref 2 2 0 0), (8, .ref 3 13 0 0), (9, .d (.v (.int .i64 0))), (11, .ref 7 13 0 0), (12, .d (.v (.int .i64 0)))]) (L' := [some ⟨4, [.d (WiPlan.d p)]⟩, some ⟨4, [.d (WiState.d s)]⟩, some ⟨2, [.d (WiSky.d sky)]⟩, some ⟨13, [.d (.agg [.v (.slice none 0 0), .v (.slice none 0 0), .v (.slice none 0 0), .v (.int .i64 0), .v (.int .i64 0), .v (.slice none 0 0), .v (.int .i64 0), .v (.int .i64 0), .v (.bool false), .v (.int .i64 0), .v (.int .i64 0), .v (.int .i64 0), .v (.int .i64 0)])]⟩, none, none, none, some ⟨13, [Desk_T3 (Desk.mk rv4.used rv4.credit rv4.last rv4.next e3.from_ ([] : List Int) (-1) (-1) false s.next (-1) 0 (-1)) 8]⟩, some (lvI ([] : List Int))]) (w := rv4.last) (f := vI) 6 1 R (.cons (.same _) (.cons (.same _) (.cons (.same _) (.cons (.same _) (.cons (.same _) (.cons (.same _) (.cons (.same _) .nil))))))) (.same (.same (.same (.same (.same (.same (.same (.cons R (.cons (.aggL (.cons (.same _) (.cons (.same _) (.cons (.all (List.length_map _)) (.cons (.same _) (.cons (.same _) (.cons (.same _) (.cons (.same _) (.cons (.same _) (.cons (.same _) (.cons (.same _) (.cons (.same _) (.cons (.same _) (.cons (.same _) .nil)))))))))))))) .nil) (.same .nil))))))))) ?_
 refine SW.fz (ts' := [(3, .d (.arr 3 ((turns).map WiTurn.d))), (4, .ref 0 4 0 0), (6, .ref 2 2 0 0), (8, .ref 3 13 0 0), (9, .d (.v (.int .i64 0))), (11, .ref 7 13 0 0), (12, .d (.v (.int .i64 0)))]) (L' := [some ⟨4, [.d (WiPlan.d p)]⟩, some ⟨4, [.d (WiState.d s)]⟩, some ⟨2, [.d (WiSky.d sky)]⟩, some ⟨13, [.d (.agg [.v (.slice none 0 0), .v (.slice none 0 0), .v (.slice none 0 0), .v (.int .i64 0), .v (.int .i64 0), .v (.slice none 0 0), .v (.int .i64 0), .v (.int .i64 0), .v (.bool false), .v (.int .i64 0), .v (.int .i64 0), .v (.int .i64 0), .v (.int .i64 0)])]⟩, none, none, none, some ⟨13, [.d (.agg [.arr 1 ((rv4.used).map vI), .arr 1 ((rv4.credit).map vI), .arr 1 ((rv4.last).map vI), .v (.int .i64 rv4.next), .v (.int .i64 e3.from_), .arr 1 ((([] : List Int)).map vI), .v (.int .i64 (-1)), .v (.int .i64 (-1)), .v (.bool false), .v (.int .i64 s.next), .v (.int .i64 (-1)), .v (.int .i64 0), .v (.int .i64 (-1))])]⟩, none]) (w := ([] : List Int)) (f := vI) 8 1 R (.cons (.same _) (.cons (.same _) (.cons (.same _) (.cons (.same _) (.cons (.same _) (.cons (.same _) (.cons (.same _) .nil))))))) (.same (.same (.same (.same (.same (.same (.same (.cons R (.cons (.aggDL (.cons (.same _) (.cons (.same _) (.cons (.same _) (.cons (.same _) (.cons (.same _) (.cons (.all (List.length_map _)) (.cons (.same _) (.cons (.same _) (.cons (.same _) (.cons (.same _) (.cons (.same _) (.cons (.same _) (.cons (.same _) .nil)))))))))))))) .nil) (.same .nil))))))))) ?_
 obtain ⟨K2, hK2, h⟩ : ∃ K, K = _ ∧ r_played_L2 F p sky turns K F (Desk.mk rv4.used rv4.credit rv4.last rv4.next e3.from_ ([] : List Int) (-1) (-1) false s.next (-1) 0 (-1)) 0 = some r := ⟨_, rfl, h⟩
 refine sw_loop (st0 := ⟨[(3, .d (.arr 3 ((turns).map WiTurn.d))), (4, .ref 0 4 0 0), (6, .ref 1 2 0 0), (8, .ref 2 13 0 0), (9, .d (.v (.int .i64 0))), (11, .ref 3 13 0 0), (12, .d (.v (.int .i64 0)))], [some ⟨4, [.d (WiPlan.d p)]⟩, some ⟨2, [.d (WiSky.d sky)]⟩, some ⟨13, [.d (.agg [.v (.slice none 0 0), .v (.slice none 0 0), .v (.slice none 0 0), .v (.int .i64 0), .v (.int .i64 0), .v (.slice none 0 0), .v (.int .i64 0), .v (.int .i64 0), .v (.bool false), .v (.int .i64 0), .v (.int .i64 0), .v (.int .i64 0), .v (.int .i64 0)])]⟩, some ⟨13, [.d (.agg [.arr 1 ((rv4.used).map vI), .arr 1 ((rv4.credit).map vI), .arr 1 ((rv4.last).map vI), .v (.int .i64 rv4.next), .v (.int .i64 e3.from_), .arr 1 ((([] : List Int)).map vI), .v (.int .i64 (-1)), .v (.int .i64 (-1)), .v (.bool false), .v (.int .i64 s.next), .v (.int .i64 (-1)), .v (.int .i64 0), .v (.int .i64 (-1))])]⟩]⟩) (κ := [0, 2, 3, 7]) (fun m st => ∃ (d2 : Desk) (i2 : Int), r_played_L2 F p sky turns K2 m d2 i2 = some r ∧ st = ⟨[(3, .d (.arr 3 ((turns).map WiTurn.d))), (4, .ref 0 4 0 0), (6, .ref 1 2 0 0), (8, .ref 2 13 0 0), (9, .d (.v (.int .i64 0))), (11, .ref 3 13 0 0), (12, .d (.v (.int .i64 i2)))], [some ⟨4, [.d (WiPlan.d p)]⟩, some ⟨2, [.d (WiSky.d sky)]⟩, some ⟨13, [.d (.agg [.v (.slice none 0 0), .v (.slice none 0 0), .v (.slice none 0 0), .v (.int .i64 0), .v (.int .i64 0), .v (.slice none 0 0), .v (.int .i64 0), .v (.int .i64 0), .v (.bool false), .v (.int .i64 0), .v (.int .i64 0), .v (.int .i64 0), .v (.int .i64 0)])]⟩, some ⟨13, [.d (Desk.d d2)]⟩]⟩) (vwK R R (.cons R R (.cons R R (.cons R R (.cons R R .nil)))) (.cons R R (.cons R R (.cons R R (.cons R R (.cons R R (.cons R R (.cons R R .nil)))))))) ⟨(Desk.mk rv4.used rv4.credit rv4.last rv4.next e3.from_ ([] : List Int) (-1) (-1) false s.next (-1) 0 (-1)), 0, h, R⟩ ?_
 clear h
 rintro m2 st ⟨d2, i2, h, rfl⟩
 cases m2 with
 | zero => cases (show (none : Option (Desk × Int)) = some r from h)
 | succ m2 =>
 rw [r_played_L2] at h
 refine sw_seq (qG (r_movD R R R (r_movD R R R (r_lenM tb R R R R R ?_))))
 refine r_lss R R R R ?_ ?_
 ·intro c8
  replace h := ifP c8 h
  refine eN (sw_condT R (sw_skip (then_norm (sw_seq (sw_block (sw_seq (sw_dr (by kernel_rfl) (r_ldD (y := WiPlan.d p) tb R R R R R R R R R (r_ldD (y := WiSky.d sky) tb R R R R R R R R R (r_ldD (y := Desk.d d2) tb R R R R R R R R R (r_movD R R R (r_movD R R R ?_))))))))))))
  obtain ⟨e4, ie4, h⟩ := bnd h
  refine r_ixE tb R R R R R R (ix0 ie4) (ix1m ie4) R R (r_ldE (y := WiTurn.d e4) tb R R (ix2 (g := WiTurn.d) ie4) R R R R ?_)
  obtain ⟨rv5, hrv5, h⟩ := bnd h
  refine r_call (r_act_pc hrv5) (.of (by kernel_rfl)) R R R R (r_movD R R R (r_extD (t := Desk.d rv5.1) R R R R (r_extD (t := .v (.int .i64 rv5.2)) R R R R ?_)))
  refine r_stE _ ([some ⟨4, [.d (WiPlan.d p)]⟩, some ⟨2, [.d (WiSky.d sky)]⟩, some ⟨13, [.d (.agg [.v (.slice none 0 0), .v (.slice none 0 0), .v (.slice none 0 0), .v (.int .i64 0), .v (.int .i64 0), .v (.slice none 0 0), .v (.int .i64 0), .v (.int .i64 0), .v (.bool false), .v (.int .i64 0), .v (.int .i64 0), .v (.int .i64 0), .v (.int .i64 0)])]⟩, some ⟨13, [.d (Desk.d rv5.1)]⟩]) tb R R R R R R R R R R R R (r_asgD R R R (ev_endD (by kernel_rfl) (then_norm (qG (r_movD R R R ?_)))))
  refine r_neq R R R R ?_ ?_
  ·intro c9
   replace h := ifN c9 h
   refine eN (sw_condT R (qG (r_build (v := .d (.agg [.v (.slice none 0 0), .v (.slice none 0 0), .v (.slice none 0 0), .v (.int .i64 0), .v (.int .i64 0), .v (.slice none 0 0), .v (.int .i64 0), .v (.int .i64 0), .v (.bool false), .v (.int .i64 0), .v (.int .i64 0), .v (.int .i64 0), .v (.int .i64 0)])) tb R R (List.cons_ne_nil _ _) (by kernel_rfl) (by kernel_rfl) (by kernel_rfl) (by kernel_rfl) R R (r_movD R R R ?_))))
   refine r_stE _ ([some ⟨4, [.d (WiPlan.d p)]⟩, some ⟨2, [.d (WiSky.d sky)]⟩, some ⟨13, [.d (.agg [.v (.slice none 0 0), .v (.slice none 0 0), .v (.slice none 0 0), .v (.int .i64 0), .v (.int .i64 0), .v (.slice none 0 0), .v (.int .i64 0), .v (.int .i64 0), .v (.bool false), .v (.int .i64 0), .v (.int .i64 0), .v (.int .i64 0), .v (.int .i64 0)])]⟩, some ⟨13, [.d (Desk.d rv5.1)]⟩]) tb R R R R R R R R R R R R (r_asgD R R R (eN (sw_ret (block_ret (then_ret (then_ret (block_ret (then_ret ?_))))))))
   obtain rfl := sI h
   exact (fin_S (t := .d (.tup [.agg [.v (.slice none 0 0), .v (.slice none 0 0), .v (.slice none 0 0), .v (.int .i64 0), .v (.int .i64 0), .v (.slice none 0 0), .v (.int .i64 0), .v (.int .i64 0), .v (.bool false), .v (.int .i64 0), .v (.int .i64 0), .v (.int .i64 0), .v (.int .i64 0)], .v (.int .i64 rv5.2)])) (L := []) (κ := []) R (.cons (rcell tb (u := .d (.agg [.v (.slice none 0 0), .v (.slice none 0 0), .v (.slice none 0 0), .v (.int .i64 0), .v (.int .i64 0), .v (.slice none 0 0), .v (.int .i64 0), .v (.int .i64 0), .v (.bool false), .v (.int .i64 0), .v (.int .i64 0), .v (.int .i64 0), .v (.int .i64 0)])) R R R R R R R) (.cons (.tmp 9) .nil)) (vwK R R .nil (.cons R R .nil)) ⟨_, R, (.tupDL (.cons (.aggDL (.cons .nilA (.cons .nilA (.cons .nilA (.cons (.d _) (.cons (.d _) (.cons .nilA (.cons (.d _) (.cons (.d _) (.cons (.d _) (.cons (.d _) (.cons (.d _) (.cons (.d _) (.cons (.d _) .nil)))))))))))))) (.cons (.d _) .nil)))⟩)
  intro c9
  replace h := ifP c9 h
  refine eN (sw_condF R (sw_skip (block_norm (then_norm (sw_rg (r_movD R R R (r_add R R R R (r_asgD R R R (eN ?_)))))))))
  exact ⟨m2, ⟨[(3, .d (.arr 3 ((turns).map WiTurn.d))), (4, .ref 0 4 0 0), (6, .ref 1 2 0 0), (8, .ref 2 13 0 0), (9, .d (.v (.int .i64 0))), (11, .ref 3 13 0 0), (12, .d (.v (.int .i64 (W (i2 + 1)))))], [some ⟨4, [.d (WiPlan.d p)]⟩, some ⟨2, [.d (WiSky.d sky)]⟩, some ⟨13, [.d (.agg [.v (.slice none 0 0), .v (.slice none 0 0), .v (.slice none 0 0), .v (.int .i64 0), .v (.int .i64 0), .v (.slice none 0 0), .v (.int .i64 0), .v (.int .i64 0), .v (.bool false), .v (.int .i64 0), .v (.int .i64 0), .v (.int .i64 0), .v (.int .i64 0)])]⟩, some ⟨13, [.d (Desk.d rv5.1)]⟩]⟩, [0, 1, 2, 3], Nat.lt_succ_self _, (vwK R R (.cons R R (.cons R R (.cons R R (.cons R R .nil)))) (.cons R R (.cons R R (.cons R R (.cons R R (.cons R R (.cons R R (.cons R R .nil)))))))), rv5.1, (W (i2 + 1)), h, R⟩
 intro c8
 replace h := ifN (Int.not_lt.2 c8) h
 refine eN (sw_condF R (sw_exit (then_exit (then_exit ?_))))
 subst hK2
 refine block_exit (then_norm (qG (r_ldD (y := Desk.d d2) tb R R R R R R R R R (r_stE _ ([some ⟨4, [.d (WiPlan.d p)]⟩, some ⟨2, [.d (WiSky.d sky)]⟩, some ⟨13, [.d (Desk.d d2)]⟩, some ⟨13, [.d (Desk.d d2)]⟩]) tb R R R R R R R R R R R R (r_asgD R R R (eN (sw_ret ?_)))))))
 obtain rfl := sI h
 exact (fin_S (t := .d (.tup [Desk.d d2, .v (.int .i64 0)])) (L := []) (κ := []) R (.cons (rcell tb (u := .d (Desk.d d2)) R R R R R R R) (.cons (.tmp 9) .nil)) (vwK R R .nil (.cons R R .nil)) ⟨_, R, (.d _)⟩)
def r_Play (F : Nat) (p : WiPlan) (s : WiState) (nv : WiNight) : Option (WiState × WiUse × Int) := Option.bind (r_played F p s (WiSky.mk nv.sky_Kinds nv.sky_Wind) nv.turns) fun rv => if rv.2 = 0 then (Option.bind (r_turn F p (WiSky.mk nv.sky_Kinds nv.sky_Wind) rv.1) fun rv2 => if 0 ≤ rv2 then (some ((WiState.mk [] [] [] 0), (WiUse.mk 0 0 0 0), 2)) else (if rv.2 = 0 then (some ((WiState.mk rv.1.s_Used rv.1.s_Credit rv.1.s_Last (W (rv.1.s_Next + 1))), (WiUse.mk rv.1.use_Window rv.1.use_Team rv.1.use_At rv.1.use_By), 0)) else (some ((WiState.mk [] [] [] 0), (WiUse.mk 0 0 0 0), rv.2)))) else (if rv.2 = 0 then (some ((WiState.mk rv.1.s_Used rv.1.s_Credit rv.1.s_Last (W (rv.1.s_Next + 1))), (WiUse.mk rv.1.use_Window rv.1.use_Team rv.1.use_At rv.1.use_By), 0)) else (some ((WiState.mk [] [] [] 0), (WiUse.mk 0 0 0 0), rv.2)))
theorem r_Play_pc {F : Nat} {p : WiPlan} {s : WiState} {nv : WiNight} {r : (WiState × WiUse × Int)} (h : r_Play F p s nv = some r) : PC Tryz.prog 14 [WiPlan.d p, WiState.d s, WiNight.d nv] (.tup [WiState.d r.1, WiUse.d r.2.1, .v (.int .i64 r.2.2)]) := by
 rw [r_Play] at h
 refine PC.of_lend ?_
 refine SC.of_sw Tryz.func14 R R R ?_
 dsimp only [argS, List.map]
 refine qG (r_box R R R R R R R (r_box R R R R R R R (r_box R R R R R R R (r_alloc tb R R R R R (r_alloc tb R R R R R (r_asgD R R R (eN (qG (r_ldD (y := WiPlan.d p) tb R R R R R R R R R (r_ldD (y := WiState.d s) tb R R R R R R R R R (r_fa tb R R R R R R R (r_ldD (y := .agg [.arr 1 ((nv.sky_Kinds).map vI), .v (.int .i64 nv.sky_Wind)]) tb R R R R R R R R R (r_fa tb R R R R R R R ?_)))))))))))))
 refine r_ldD (y := .arr 3 ((nv.turns).map WiTurn.d)) tb R R R R R R R R R ?_
 obtain ⟨rv, hrv, h⟩ := bnd h
 refine r_call (r_played_pc hrv) (.of (by kernel_rfl)) R R R R (r_movD R R R (r_extD (t := Desk.d rv.1) R R R R (r_extD (t := .v (.int .i64 rv.2)) R R R R (r_alloc tb R R R R R ?_))))
 refine r_stE _ ([some ⟨4, [.d (WiPlan.d p)]⟩, some ⟨4, [.d (WiState.d s)]⟩, some ⟨3, [.d (WiNight.d nv)]⟩, some ⟨4, [.d (.agg [.v (.slice none 0 0), .v (.slice none 0 0), .v (.slice none 0 0), .v (.int .i64 0)])]⟩, some ⟨4, [.d (.agg [.v (.int .i64 0), .v (.int .i64 0), .v (.int .i64 0), .v (.int .i64 0)])]⟩, some ⟨13, [.d (Desk.d rv.1)]⟩]) tb R R R R R R R R R R R R (r_asgD R R R (eN (sw_seq (qG (r_movD R R R ?_)))))
 refine r_eql R R R R ?_ ?_
 ·intro c
  replace h := ifP c h
  refine r_movD R R R (r_ldD (y := WiPlan.d p) tb R R R R R R R R R (r_fa tb R R R R R R R (r_ldD (y := .agg [.arr 1 ((nv.sky_Kinds).map vI), .v (.int .i64 nv.sky_Wind)]) tb R R R R R R R R R (r_ldD (y := Desk.d rv.1) tb R R R R R R R R R ?_))))
  obtain ⟨rv2, hrv2, h⟩ := bnd h
  refine r_call (r_turn_pc hrv2) (.of (by kernel_rfl)) R R R R ?_
  refine r_geq R R R R ?_ ?_
  ·intro c2
   replace h := ifP c2 h
   refine r_pickT R R R R (eN (sw_condT R (sw_rg (r_asgD R R R (eN (sw_seq (qG (r_movD R R R ?_))))))))
   refine r_neq R R R R ?_ ?_
   rotate_left
   ·intro c3; exact absurd c3 (by decide)
   intro _
   refine eN (sw_condT R (qG (r_build (v := .d (.agg [.v (.slice none 0 0), .v (.slice none 0 0), .v (.slice none 0 0), .v (.int .i64 0)])) tb R R (List.cons_ne_nil _ _) R R R R R R (r_build (v := .d (.agg [.v (.int .i64 0), .v (.int .i64 0), .v (.int .i64 0), .v (.int .i64 0)])) tb R R (List.cons_ne_nil _ _) R R R R R R (r_movD R R R ?_)))))
   refine r_stE _ ([some ⟨4, [.d (WiPlan.d p)]⟩, some ⟨4, [.d (WiState.d s)]⟩, some ⟨3, [.d (WiNight.d nv)]⟩, some ⟨4, [.d (.agg [.v (.slice none 0 0), .v (.slice none 0 0), .v (.slice none 0 0), .v (.int .i64 0)])]⟩, some ⟨4, [.d (.agg [.v (.int .i64 0), .v (.int .i64 0), .v (.int .i64 0), .v (.int .i64 0)])]⟩, some ⟨13, [.d (Desk.d rv.1)]⟩]) tb R R R R R R R R R R R R ?_
   refine r_stE _ ([some ⟨4, [.d (WiPlan.d p)]⟩, some ⟨4, [.d (WiState.d s)]⟩, some ⟨3, [.d (WiNight.d nv)]⟩, some ⟨4, [.d (.agg [.v (.slice none 0 0), .v (.slice none 0 0), .v (.slice none 0 0), .v (.int .i64 0)])]⟩, some ⟨4, [.d (.agg [.v (.int .i64 0), .v (.int .i64 0), .v (.int .i64 0), .v (.int .i64 0)])]⟩, some ⟨13, [.d (Desk.d rv.1)]⟩]) tb R R R R R R R R R R R R (r_asgD R R R (eN (sw_ret (then_ret ?_))))
   obtain rfl := sI h
   exact (fin_S (t := .d (.tup [.agg [.v (.slice none 0 0), .v (.slice none 0 0), .v (.slice none 0 0), .v (.int .i64 0)], .agg [.v (.int .i64 0), .v (.int .i64 0), .v (.int .i64 0), .v (.int .i64 0)], .v (.int .i64 2)])) (L := []) (κ := []) R (.cons (rcell tb (u := .d (.agg [.v (.slice none 0 0), .v (.slice none 0 0), .v (.slice none 0 0), .v (.int .i64 0)])) R R R R R R R) (.cons (rcell tb (u := .d (.agg [.v (.int .i64 0), .v (.int .i64 0), .v (.int .i64 0), .v (.int .i64 0)])) R R R R R R R) (.cons (.tmp 8) .nil))) (vwK R R .nil (.cons R R .nil)) ⟨_, R, (.tupDL (.cons (.aggDL (.cons .nilA (.cons .nilA (.cons .nilA (.cons (.d _) .nil))))) (.cons (.d _) (.cons (.d _) .nil))))⟩)
  intro c2
  replace h := ifN (Int.not_le.2 c2) h
  refine r_pickT R R R R (eN (sw_condF R (sw_skip (then_norm (sw_seq (qG (r_movD R R R ?_)))))))
  refine r_neq R R R R ?_ ?_
  ·intro c4
   replace h := ifN c4 h
   refine eN (sw_condT R (qG (r_build (v := .d (.agg [.v (.slice none 0 0), .v (.slice none 0 0), .v (.slice none 0 0), .v (.int .i64 0)])) tb R R (List.cons_ne_nil _ _) R R R R R R (r_build (v := .d (.agg [.v (.int .i64 0), .v (.int .i64 0), .v (.int .i64 0), .v (.int .i64 0)])) tb R R (List.cons_ne_nil _ _) R R R R R R (r_movD R R R ?_)))))
   refine r_stE _ ([some ⟨4, [.d (WiPlan.d p)]⟩, some ⟨4, [.d (WiState.d s)]⟩, some ⟨3, [.d (WiNight.d nv)]⟩, some ⟨4, [.d (.agg [.v (.slice none 0 0), .v (.slice none 0 0), .v (.slice none 0 0), .v (.int .i64 0)])]⟩, some ⟨4, [.d (.agg [.v (.int .i64 0), .v (.int .i64 0), .v (.int .i64 0), .v (.int .i64 0)])]⟩, some ⟨13, [.d (Desk.d rv.1)]⟩]) tb R R R R R R R R R R R R ?_
   refine r_stE _ ([some ⟨4, [.d (WiPlan.d p)]⟩, some ⟨4, [.d (WiState.d s)]⟩, some ⟨3, [.d (WiNight.d nv)]⟩, some ⟨4, [.d (.agg [.v (.slice none 0 0), .v (.slice none 0 0), .v (.slice none 0 0), .v (.int .i64 0)])]⟩, some ⟨4, [.d (.agg [.v (.int .i64 0), .v (.int .i64 0), .v (.int .i64 0), .v (.int .i64 0)])]⟩, some ⟨13, [.d (Desk.d rv.1)]⟩]) tb R R R R R R R R R R R R (r_asgD R R R (eN (sw_ret (then_ret ?_))))
   obtain rfl := sI h
   exact (fin_S (t := .d (.tup [.agg [.v (.slice none 0 0), .v (.slice none 0 0), .v (.slice none 0 0), .v (.int .i64 0)], .agg [.v (.int .i64 0), .v (.int .i64 0), .v (.int .i64 0), .v (.int .i64 0)], .v (.int .i64 rv.2)])) (L := []) (κ := []) R (.cons (rcell tb (u := .d (.agg [.v (.slice none 0 0), .v (.slice none 0 0), .v (.slice none 0 0), .v (.int .i64 0)])) R R R R R R R) (.cons (rcell tb (u := .d (.agg [.v (.int .i64 0), .v (.int .i64 0), .v (.int .i64 0), .v (.int .i64 0)])) R R R R R R R) (.cons (.tmp 8) .nil))) (vwK R R .nil (.cons R R .nil)) ⟨_, R, (.tupDL (.cons (.aggDL (.cons .nilA (.cons .nilA (.cons .nilA (.cons (.d _) .nil))))) (.cons (.d _) (.cons (.d _) .nil))))⟩)
  intro c4
  replace h := ifP c4 h
  refine eN (sw_condF R (sw_skip (then_norm (qG (r_fa tb R R R R R R R (r_fa tb R R R R R R R (r_ldD (y := .v (.int .i64 rv.1.s_Next)) tb R R R R R R R R R (r_add R R R R (r_fa tb R R R R R R R (r_fa tb R R R R R R R ?_))))))))))
  refine r_stE _ ([some ⟨4, [.d (WiPlan.d p)]⟩, some ⟨4, [.d (WiState.d s)]⟩, some ⟨3, [.d (WiNight.d nv)]⟩, some ⟨4, [.d (.agg [.v (.slice none 0 0), .v (.slice none 0 0), .v (.slice none 0 0), .v (.int .i64 0)])]⟩, some ⟨4, [.d (.agg [.v (.int .i64 0), .v (.int .i64 0), .v (.int .i64 0), .v (.int .i64 0)])]⟩, some ⟨13, [.d (Desk.d {rv.1 with s_Next := (W (rv.1.s_Next + 1))})]⟩]) tb R R R R R R R R R R R R (eN (sw_seq (sw_dr (by kernel_rfl) (r_fa tb R R R R R R R ?_))))
  refine r_ldD (y := .agg [.arr 1 ((rv.1.s_Used).map vI), .arr 1 ((rv.1.s_Credit).map vI), .arr 1 ((rv.1.s_Last).map vI), .v (.int .i64 (W (rv.1.s_Next + 1)))]) tb R R R R R R R R R (r_fa tb R R R R R R R (r_ldD (y := .agg [.v (.int .i64 rv.1.use_Window), .v (.int .i64 rv.1.use_Team), .v (.int .i64 rv.1.use_At), .v (.int .i64 rv.1.use_By)]) tb R R R R R R R R R ?_))
  refine r_stE _ ([some ⟨4, [.d (WiPlan.d p)]⟩, some ⟨4, [.d (WiState.d s)]⟩, some ⟨3, [.d (WiNight.d nv)]⟩, some ⟨4, [.d (.agg [.arr 1 ((rv.1.s_Used).map vI), .arr 1 ((rv.1.s_Credit).map vI), .arr 1 ((rv.1.s_Last).map vI), .v (.int .i64 (W (rv.1.s_Next + 1)))])]⟩, some ⟨4, [.d (.agg [.v (.int .i64 0), .v (.int .i64 0), .v (.int .i64 0), .v (.int .i64 0)])]⟩, some ⟨13, [.d (Desk.d {rv.1 with s_Next := (W (rv.1.s_Next + 1))})]⟩]) tb R R R R R R R R R R R R ?_
  refine r_stE _ ([some ⟨4, [.d (WiPlan.d p)]⟩, some ⟨4, [.d (WiState.d s)]⟩, some ⟨3, [.d (WiNight.d nv)]⟩, some ⟨4, [.d (.agg [.arr 1 ((rv.1.s_Used).map vI), .arr 1 ((rv.1.s_Credit).map vI), .arr 1 ((rv.1.s_Last).map vI), .v (.int .i64 (W (rv.1.s_Next + 1)))])]⟩, some ⟨4, [.d (.agg [.v (.int .i64 rv.1.use_Window), .v (.int .i64 rv.1.use_Team), .v (.int .i64 rv.1.use_At), .v (.int .i64 rv.1.use_By)])]⟩, some ⟨13, [.d (Desk.d {rv.1 with s_Next := (W (rv.1.s_Next + 1))})]⟩]) tb R R R R R R R R R R R R (r_asgD R R R (ev_endD (by kernel_rfl) (then_norm ?_)))
  refine sw_ret ?_
  obtain rfl := sI h
  exact (fin_S (t := .d (.tup [.agg [.arr 1 ((rv.1.s_Used).map vI), .arr 1 ((rv.1.s_Credit).map vI), .arr 1 ((rv.1.s_Last).map vI), .v (.int .i64 (W (rv.1.s_Next + 1)))], .agg [.v (.int .i64 rv.1.use_Window), .v (.int .i64 rv.1.use_Team), .v (.int .i64 rv.1.use_At), .v (.int .i64 rv.1.use_By)], .v (.int .i64 0)])) (L := []) (κ := []) R (.cons (rcell tb (u := .d (.agg [.arr 1 ((rv.1.s_Used).map vI), .arr 1 ((rv.1.s_Credit).map vI), .arr 1 ((rv.1.s_Last).map vI), .v (.int .i64 (W (rv.1.s_Next + 1)))])) R R R R R R R) (.cons (rcell tb (u := .d (.agg [.v (.int .i64 rv.1.use_Window), .v (.int .i64 rv.1.use_Team), .v (.int .i64 rv.1.use_At), .v (.int .i64 rv.1.use_By)])) R R R R R R R) (.cons (.tmp 8) .nil))) (vwK R R .nil (.cons R R .nil)) ⟨_, R, (.d _)⟩)
 intro c
 replace h := ifN c h
 refine r_movD R R R (r_skip R R R (r_skip R R R (r_skip R R R (r_skip R R R (r_skip R R R (r_skip R R R (r_pickF R R R R (eN (sw_condF R (sw_skip (then_norm (sw_seq (qG (r_movD R R R ?_))))))))))))))
 refine r_neq R R R R ?_ ?_
 ·intro c5
  replace h := ifN c5 h
  refine eN (sw_condT R (qG (r_build (v := .d (.agg [.v (.slice none 0 0), .v (.slice none 0 0), .v (.slice none 0 0), .v (.int .i64 0)])) tb R R (List.cons_ne_nil _ _) R R R R R R (r_build (v := .d (.agg [.v (.int .i64 0), .v (.int .i64 0), .v (.int .i64 0), .v (.int .i64 0)])) tb R R (List.cons_ne_nil _ _) R R R R R R (r_movD R R R ?_)))))
  refine r_stE _ ([some ⟨4, [.d (WiPlan.d p)]⟩, some ⟨4, [.d (WiState.d s)]⟩, some ⟨3, [.d (WiNight.d nv)]⟩, some ⟨4, [.d (.agg [.v (.slice none 0 0), .v (.slice none 0 0), .v (.slice none 0 0), .v (.int .i64 0)])]⟩, some ⟨4, [.d (.agg [.v (.int .i64 0), .v (.int .i64 0), .v (.int .i64 0), .v (.int .i64 0)])]⟩, some ⟨13, [.d (Desk.d rv.1)]⟩]) tb R R R R R R R R R R R R ?_
  refine r_stE _ ([some ⟨4, [.d (WiPlan.d p)]⟩, some ⟨4, [.d (WiState.d s)]⟩, some ⟨3, [.d (WiNight.d nv)]⟩, some ⟨4, [.d (.agg [.v (.slice none 0 0), .v (.slice none 0 0), .v (.slice none 0 0), .v (.int .i64 0)])]⟩, some ⟨4, [.d (.agg [.v (.int .i64 0), .v (.int .i64 0), .v (.int .i64 0), .v (.int .i64 0)])]⟩, some ⟨13, [.d (Desk.d rv.1)]⟩]) tb R R R R R R R R R R R R (r_asgD R R R (eN (sw_ret (then_ret ?_))))
  obtain rfl := sI h
  exact (fin_S (t := .d (.tup [.agg [.v (.slice none 0 0), .v (.slice none 0 0), .v (.slice none 0 0), .v (.int .i64 0)], .agg [.v (.int .i64 0), .v (.int .i64 0), .v (.int .i64 0), .v (.int .i64 0)], .v (.int .i64 rv.2)])) (L := []) (κ := []) R (.cons (rcell tb (u := .d (.agg [.v (.slice none 0 0), .v (.slice none 0 0), .v (.slice none 0 0), .v (.int .i64 0)])) R R R R R R R) (.cons (rcell tb (u := .d (.agg [.v (.int .i64 0), .v (.int .i64 0), .v (.int .i64 0), .v (.int .i64 0)])) R R R R R R R) (.cons (.tmp 8) .nil))) (vwK R R .nil (.cons R R .nil)) ⟨_, R, (.tupDL (.cons (.aggDL (.cons .nilA (.cons .nilA (.cons .nilA (.cons (.d _) .nil))))) (.cons (.d _) (.cons (.d _) .nil))))⟩)
 intro c5
 replace h := ifP c5 h
 refine eN (sw_condF R (sw_skip (then_norm (qG (r_fa tb R R R R R R R (r_fa tb R R R R R R R (r_ldD (y := .v (.int .i64 rv.1.s_Next)) tb R R R R R R R R R (r_add R R R R (r_fa tb R R R R R R R (r_fa tb R R R R R R R ?_))))))))))
 refine r_stE _ ([some ⟨4, [.d (WiPlan.d p)]⟩, some ⟨4, [.d (WiState.d s)]⟩, some ⟨3, [.d (WiNight.d nv)]⟩, some ⟨4, [.d (.agg [.v (.slice none 0 0), .v (.slice none 0 0), .v (.slice none 0 0), .v (.int .i64 0)])]⟩, some ⟨4, [.d (.agg [.v (.int .i64 0), .v (.int .i64 0), .v (.int .i64 0), .v (.int .i64 0)])]⟩, some ⟨13, [.d (Desk.d {rv.1 with s_Next := (W (rv.1.s_Next + 1))})]⟩]) tb R R R R R R R R R R R R (eN (sw_seq (sw_dr (by kernel_rfl) (r_fa tb R R R R R R R ?_))))
 refine r_ldD (y := .agg [.arr 1 ((rv.1.s_Used).map vI), .arr 1 ((rv.1.s_Credit).map vI), .arr 1 ((rv.1.s_Last).map vI), .v (.int .i64 (W (rv.1.s_Next + 1)))]) tb R R R R R R R R R (r_fa tb R R R R R R R (r_ldD (y := .agg [.v (.int .i64 rv.1.use_Window), .v (.int .i64 rv.1.use_Team), .v (.int .i64 rv.1.use_At), .v (.int .i64 rv.1.use_By)]) tb R R R R R R R R R ?_))
 refine r_stE _ ([some ⟨4, [.d (WiPlan.d p)]⟩, some ⟨4, [.d (WiState.d s)]⟩, some ⟨3, [.d (WiNight.d nv)]⟩, some ⟨4, [.d (.agg [.arr 1 ((rv.1.s_Used).map vI), .arr 1 ((rv.1.s_Credit).map vI), .arr 1 ((rv.1.s_Last).map vI), .v (.int .i64 (W (rv.1.s_Next + 1)))])]⟩, some ⟨4, [.d (.agg [.v (.int .i64 0), .v (.int .i64 0), .v (.int .i64 0), .v (.int .i64 0)])]⟩, some ⟨13, [.d (Desk.d {rv.1 with s_Next := (W (rv.1.s_Next + 1))})]⟩]) tb R R R R R R R R R R R R ?_
 refine r_stE _ ([some ⟨4, [.d (WiPlan.d p)]⟩, some ⟨4, [.d (WiState.d s)]⟩, some ⟨3, [.d (WiNight.d nv)]⟩, some ⟨4, [.d (.agg [.arr 1 ((rv.1.s_Used).map vI), .arr 1 ((rv.1.s_Credit).map vI), .arr 1 ((rv.1.s_Last).map vI), .v (.int .i64 (W (rv.1.s_Next + 1)))])]⟩, some ⟨4, [.d (.agg [.v (.int .i64 rv.1.use_Window), .v (.int .i64 rv.1.use_Team), .v (.int .i64 rv.1.use_At), .v (.int .i64 rv.1.use_By)])]⟩, some ⟨13, [.d (Desk.d {rv.1 with s_Next := (W (rv.1.s_Next + 1))})]⟩]) tb R R R R R R R R R R R R (r_asgD R R R (ev_endD (by kernel_rfl) (then_norm ?_)))
 refine sw_ret ?_
 obtain rfl := sI h
 exact (fin_S (t := .d (.tup [.agg [.arr 1 ((rv.1.s_Used).map vI), .arr 1 ((rv.1.s_Credit).map vI), .arr 1 ((rv.1.s_Last).map vI), .v (.int .i64 (W (rv.1.s_Next + 1)))], .agg [.v (.int .i64 rv.1.use_Window), .v (.int .i64 rv.1.use_Team), .v (.int .i64 rv.1.use_At), .v (.int .i64 rv.1.use_By)], .v (.int .i64 0)])) (L := []) (κ := []) R (.cons (rcell tb (u := .d (.agg [.arr 1 ((rv.1.s_Used).map vI), .arr 1 ((rv.1.s_Credit).map vI), .arr 1 ((rv.1.s_Last).map vI), .v (.int .i64 (W (rv.1.s_Next + 1)))])) R R R R R R R) (.cons (rcell tb (u := .d (.agg [.v (.int .i64 rv.1.use_Window), .v (.int .i64 rv.1.use_Team), .v (.int .i64 rv.1.use_At), .v (.int .i64 rv.1.use_By)])) R R R R R R R) (.cons (.tmp 8) .nil))) (vwK R R .nil (.cons R R .nil)) ⟨_, R, (.d _)⟩)
def r_SameUses_L1 (F : Nat) (a : (List WiUse)) (b : (List WiUse)) (K : Int → Option Bool) : Nat → Int → Option Bool
 | 0, _ => none
 | n + 1, i => if i < (a.length : Int) then (Option.bind (ixO a i) fun e => Option.bind (ixO b i) fun e2 => if (!(WiUse.beq e e2)) = true then (some false) else (r_SameUses_L1 F a b K n (W (i + 1)))) else (K i)
def r_SameUses (F : Nat) (a : (List WiUse)) (b : (List WiUse)) : Option Bool := if (a.length : Int) = (b.length : Int) then (r_SameUses_L1 F a b (fun (i : Int) => some true) F 0) else (some false)
theorem r_SameUses_pc {F : Nat} {a : (List WiUse)} {b : (List WiUse)} {r : Bool} (h : r_SameUses F a b = some r) : PC Tryz.prog 6 [.arr 4 ((a).map WiUse.d), .arr 4 ((b).map WiUse.d)] (.v (.bool r)) := by
 rw [r_SameUses] at h
 refine SC.of_sw Tryz.func6 R R R ?_
 dsimp only [argS, List.map]
 refine qG (r_asgD R R R (eN (sw_seq (qG (r_movD R R R (r_lenM tb R R R R R (r_movD R R R (r_lenM tb R R R R R ?_))))))))
 refine r_neq R R R R ?_ ?_
 ·intro c
  replace h := ifN c h
  refine eN (sw_condT R (qG (r_asgD R R R (eN (sw_ret (then_ret ?_))))))
  obtain rfl := sI h
  exact fin_0 (t := .d (.v (.bool false))) R R R (.cons (.tmp 4) .nil)
 intro c
 replace h := ifP c h
 refine eN (sw_condF R (sw_skip (then_norm (sw_seq (qG (r_asgD R R R (eN (sw_block ?_))))))))
 obtain ⟨K2, hK2, h⟩ : ∃ K, K = _ ∧ r_SameUses_L1 F a b K F 0 = some r := ⟨_, rfl, h⟩
 refine sw_loop (st0 := ⟨[(0, .d (.arr 4 ((a).map WiUse.d))), (1, .d (.arr 4 ((b).map WiUse.d))), (4, .d (.v (.bool false))), (5, .d (.v (.int .i64 0)))], []⟩) (κ := []) (fun m st => ∃ (i : Int), r_SameUses_L1 F a b K2 m i = some r ∧ st = ⟨[(0, .d (.arr 4 ((a).map WiUse.d))), (1, .d (.arr 4 ((b).map WiUse.d))), (4, .d (.v (.bool false))), (5, .d (.v (.int .i64 i)))], []⟩) (vwK R R .nil (.cons R R (.cons R R (.cons R R (.cons R R .nil))))) ⟨0, h, R⟩ ?_
 clear h
 rintro m2 st ⟨i, h, rfl⟩
 cases m2 with
 | zero => cases (show (none : Option Bool) = some r from h)
 | succ m2 =>
 rw [r_SameUses_L1] at h
 refine sw_seq (qG (r_movD R R R (r_movD R R R (r_lenM tb R R R R R ?_))))
 refine r_lss R R R R ?_ ?_
 ·intro c2
  replace h := ifP c2 h
  refine eN (sw_condT R (sw_skip (then_norm (sw_seq (sw_block (sw_seq (sw_dr (by kernel_rfl) (r_movD R R R (r_movD R R R ?_)))))))))
  obtain ⟨e, ie, h⟩ := bnd h
  refine r_ixE tb R R R R R R (ix0 ie) (ix1m ie) R R (r_ldE (y := WiUse.d e) tb R R (ix2 (g := WiUse.d) ie) R R R R (r_movD R R R (r_movD R R R ?_)))
  obtain ⟨e2, ie2, h⟩ := bnd h
  refine r_ixE tb R R R R R R (ix0 ie2) (ix1m ie2) R R (r_ldE (y := WiUse.d e2) tb R R (ix2 (g := WiUse.d) ie2) R R R R ?_)
  refine r_neqA (p := [.int .i64 e.window, .int .i64 e.team, .int .i64 e.at_, .int .i64 e.by_]) (q := [.int .i64 e2.window, .int .i64 e2.team, .int .i64 e2.at_, .int .i64 e2.by_]) R R (fun o1 o2 w => ne48 e e2 o1 o2 w) R R ?_
  with_reducible apply ev_lit
  ·intro c3
   replace h := ifP c3 h
   refine ev_endD (by kernel_rfl) (then_norm (sw_condT R (qG (r_asgD R R R (eN (sw_ret (block_ret (then_ret (then_ret (block_ret (then_ret ?_)))))))))))
   obtain rfl := sI h
   exact fin_0 (t := .d (.v (.bool false))) R R R (.cons (.tmp 4) .nil)
  intro c3
  replace h := ifF c3 h
  refine ev_endD (by kernel_rfl) (then_norm (sw_condF R (sw_skip (block_norm (then_norm (sw_rg (r_movD R R R (r_add R R R R (r_asgD R R R (eN ?_))))))))))
  exact ⟨m2, ⟨[(0, .d (.arr 4 ((a).map WiUse.d))), (1, .d (.arr 4 ((b).map WiUse.d))), (4, .d (.v (.bool false))), (5, .d (.v (.int .i64 (W (i + 1)))))], []⟩, [], Nat.lt_succ_self _, (vwK R R .nil (.cons R R (.cons R R (.cons R R (.cons R R .nil))))), (W (i + 1)), h, R⟩
 intro c2
 replace h := ifN (Int.not_lt.2 c2) h
 refine eN (sw_condF R (sw_exit (then_exit (then_exit ?_))))
 subst hK2
 refine block_exit (then_norm (qG (r_asgD R R R (eN (sw_ret ?_)))))
 obtain rfl := sI h
 exact fin_0 (t := .d (.v (.bool true))) R R R (.cons (.tmp 4) .nil)
def r_Season_L1 (F : Nat) (t : WiPlan) (o : (List WiNight)) (K : WiState → Int → (List WiUse) → Int → Option ((List WiUse) × WiState × Int)) : Nat → WiState → Int → (List WiUse) → Int → Option ((List WiUse) × WiState × Int)
 | 0, _, _, _, _ => none
 | n + 1, a, x, lv, x2 => if x2 < (o.length : Int) then (if x = 0 then (Option.bind (ixO o x2) fun e => Option.bind (r_Play F t a e) fun rv2 => if rv2.2.2 = 0 then (if 0 ≤ rv2.2.1.team then (Option.bind (appO lv [rv2.2.1]) fun q => r_Season_L1 F t o K n rv2.1 rv2.2.2 q (W (x2 + 1))) else (r_Season_L1 F t o K n rv2.1 rv2.2.2 lv (W (x2 + 1)))) else (r_Season_L1 F t o K n rv2.1 rv2.2.2 lv (W (x2 + 1)))) else (K a x lv x2)) else (K a x lv x2)
def r_Season_L2 (F : Nat) (t : WiPlan) (o : (List WiNight)) (K : WiState → Int → (List WiUse) → Int → Option ((List WiUse) × WiState × Int)) : Nat → WiState → Int → (List WiUse) → Int → Option ((List WiUse) × WiState × Int)
 | 0, _, _, _, _ => none
 | n + 1, a2, x3, lv2, x4 => if x4 < (o.length : Int) then (if x3 = 0 then (Option.bind (ixO o x4) fun e2 => Option.bind (r_Play F t a2 e2) fun rv3 => if rv3.2.2 = 0 then (if 0 ≤ rv3.2.1.team then (Option.bind (appO lv2 [rv3.2.1]) fun q2 => r_Season_L2 F t o K n rv3.1 rv3.2.2 q2 (W (x4 + 1))) else (r_Season_L2 F t o K n rv3.1 rv3.2.2 lv2 (W (x4 + 1)))) else (r_Season_L2 F t o K n rv3.1 rv3.2.2 lv2 (W (x4 + 1)))) else (K a2 x3 lv2 x4)) else (K a2 x3 lv2 x4)
def r_Season_L3 (F : Nat) (t : WiPlan) (o : (List WiNight)) (K : WiState → Int → (List WiUse) → Int → Option ((List WiUse) × WiState × Int)) : Nat → WiState → Int → (List WiUse) → Int → Option ((List WiUse) × WiState × Int)
 | 0, _, _, _, _ => none
 | n + 1, a3, x5, lv3, x6 => if x6 < (o.length : Int) then (if x5 = 0 then (Option.bind (ixO o x6) fun e3 => Option.bind (r_Play F t a3 e3) fun rv4 => if rv4.2.2 = 0 then (if 0 ≤ rv4.2.1.team then (Option.bind (appO lv3 [rv4.2.1]) fun q3 => r_Season_L3 F t o K n rv4.1 rv4.2.2 q3 (W (x6 + 1))) else (r_Season_L3 F t o K n rv4.1 rv4.2.2 lv3 (W (x6 + 1)))) else (r_Season_L3 F t o K n rv4.1 rv4.2.2 lv3 (W (x6 + 1)))) else (K a3 x5 lv3 x6)) else (K a3 x5 lv3 x6)
def r_Season (F : Nat) (t : WiPlan) (o : (List WiNight)) : Option ((List WiUse) × WiState × Int) := Option.bind (r_Start F t) fun rv => if rv.2 = 0 then (if (t.windows.length : Int) < (o.length : Int) then (r_Season_L1 F t o (fun (a : WiState) (x : Int) (lv : (List WiUse)) (x2 : Int) => if x = 0 then (some (lv, a, 0)) else (some ([], (WiState.mk [] [] [] 0), x))) F rv.1 3 ([] : List WiUse) 0) else (r_Season_L2 F t o (fun (a2 : WiState) (x3 : Int) (lv2 : (List WiUse)) (x4 : Int) => if x3 = 0 then (some (lv2, a2, 0)) else (some ([], (WiState.mk [] [] [] 0), x3))) F rv.1 rv.2 ([] : List WiUse) 0)) else (r_Season_L3 F t o (fun (a3 : WiState) (x5 : Int) (lv3 : (List WiUse)) (x6 : Int) => if x5 = 0 then (some (lv3, a3, 0)) else (some ([], (WiState.mk [] [] [] 0), x5))) F rv.1 rv.2 ([] : List WiUse) 0)
theorem r_Season_pc {F : Nat} {t : WiPlan} {o : (List WiNight)} {r : ((List WiUse) × WiState × Int)} (h : r_Season F t o = some r) : PC Tryz.prog 5 [WiPlan.d t, .arr 3 ((o).map WiNight.d)] (.tup [.arr 4 ((r.1).map WiUse.d), WiState.d r.2.1, .v (.int .i64 r.2.2)]) := by
 rw [r_Season] at h
 refine PC.of_lend ?_
 refine SC.of_sw Tryz.func5 R R R ?_
 dsimp only [argS, List.map]
 refine qG (r_box R R R R R R R (r_asgD R R R (r_alloc tb R R R R R (r_asgD R R R (eN (qG (r_ldD (y := WiPlan.d t) tb R R R R R R R R R ?_)))))))
 obtain ⟨rv, hrv, h⟩ := bnd h
 refine r_callN (t' := .tup [WiState_T1 rv.1 2 3 4, .d (.v (.int .i64 rv.2))]) (news' := [(lvI rv.1.used), (lvI rv.1.credit), (lvI rv.1.last)]) (r_Start_scr hrv) (.of (by kernel_rfl)) R R R ((.row (.row (.row .nil)))) R R R (r_movT (.tup [WiState_T1 rv.1 2 3 4, .d (.v (.int .i64 rv.2))]) R R R (r_ext (t := WiState_T1 rv.1 2 3 4) R R R R (r_ext (t := .d (.v (.int .i64 rv.2))) R R R R (r_alloc tb R R R R R ?_))))
 refine r_stE _ ([some ⟨4, [.d (WiPlan.d t)]⟩, some ⟨4, [.d (.agg [.v (.slice none 0 0), .v (.slice none 0 0), .v (.slice none 0 0), .v (.int .i64 0)])]⟩, some (lvI rv.1.used), some (lvI rv.1.credit), some (lvI rv.1.last), some ⟨4, [WiState_T1 rv.1 2 3 4]⟩]) tb R R R R R R R R R R R R (r_asgD R R R (eN (sw_seq (qG (r_movD R R R ?_)))))
 refine r_eql R R R R ?_ ?_
 ·intro c
  replace h := ifP c h
  refine r_movD R R R (r_movD R R R (r_lenM tb R R R R R (r_fa tb R R R R R R R (r_ldD (y := .arr 3 ((t.windows).map WiWindow.d)) tb R R R R R R R R R (r_lenM tb R R R R R ?_)))))
  refine r_gtr R R R R ?_ ?_
  ·intro c2
   replace h := ifP c2 h
   refine r_pickT R R R R (eN (sw_condT R (sw_rg (r_asgD R R R (eN (qG (r_asgD R R R (eN (sw_seq (qG (r_asgD R R R (eN (sw_block ?_)))))))))))))
   refine SW.own (ts' := [(1, .d (.arr 3 ((o).map WiNight.d))), (2, .ref 0 4 0 0), (4, .d (.v (.slice none 0 0))), (5, .ref 1 4 0 0), (6, .d (.v (.int .i64 0))), (7, .ref 5 4 0 0), (8, .d (.v (.int .i64 3))), (9, .row 6 4 0 (([] : List WiUse)).length), (10, .d (.v (.int .i64 0)))]) (L' := [some ⟨4, [.d (WiPlan.d t)]⟩, some ⟨4, [.d (.agg [.v (.slice none 0 0), .v (.slice none 0 0), .v (.slice none 0 0), .v (.int .i64 0)])]⟩, some (lvI rv.1.used), some (lvI rv.1.credit), some (lvI rv.1.last), some ⟨4, [WiState_T1 rv.1 2 3 4]⟩]) 4 R R (.cons (.same _) (.cons (.same _) (.cons (.same _) (.cons (.same _) (.cons (.same _) (.cons (.same _) (.cons (.same _) (.cons .nil (.cons (.same _) .nil))))))))) (.same (.same (.same (.same (.same (.same .nil)))))) ?_
   simp only [List.cons_append, List.nil_append]
   refine SW.fz (ts' := [(1, .d (.arr 3 ((o).map WiNight.d))), (2, .ref 0 4 0 0), (4, .d (.v (.slice none 0 0))), (5, .ref 1 4 0 0), (6, .d (.v (.int .i64 0))), (7, .ref 5 4 0 0), (8, .d (.v (.int .i64 3))), (9, .row 6 4 0 (([] : List WiUse)).length), (10, .d (.v (.int .i64 0)))]) (L' := [some ⟨4, [.d (WiPlan.d t)]⟩, some ⟨4, [.d (.agg [.v (.slice none 0 0), .v (.slice none 0 0), .v (.slice none 0 0), .v (.int .i64 0)])]⟩, none, some (lvI rv.1.credit), some (lvI rv.1.last), some ⟨4, [WiState_T4 rv.1 3 4]⟩, some (lWiUsed ([] : List WiUse))]) (w := rv.1.used) (f := vI) 2 1 R (.cons (.same _) (.cons (.same _) (.cons (.same _) (.cons (.same _) (.cons (.same _) (.cons (.same _) (.cons (.same _) (.cons (.same _) (.cons (.same _) .nil))))))))) (.same (.same (.same (.same (.same (.cons R (.cons (.aggL (.cons (.all (List.length_map _)) (.cons (.same _) (.cons (.same _) (.cons (.same _) .nil))))) .nil) (.same .nil))))))) ?_
   refine SW.fz (ts' := [(1, .d (.arr 3 ((o).map WiNight.d))), (2, .ref 0 4 0 0), (4, .d (.v (.slice none 0 0))), (5, .ref 1 4 0 0), (6, .d (.v (.int .i64 0))), (7, .ref 5 4 0 0), (8, .d (.v (.int .i64 3))), (9, .row 6 4 0 (([] : List WiUse)).length), (10, .d (.v (.int .i64 0)))]) (L' := [some ⟨4, [.d (WiPlan.d t)]⟩, some ⟨4, [.d (.agg [.v (.slice none 0 0), .v (.slice none 0 0), .v (.slice none 0 0), .v (.int .i64 0)])]⟩, none, none, some (lvI rv.1.last), some ⟨4, [WiState_T5 rv.1 4]⟩, some (lWiUsed ([] : List WiUse))]) (w := rv.1.credit) (f := vI) 3 1 R (.cons (.same _) (.cons (.same _) (.cons (.same _) (.cons (.same _) (.cons (.same _) (.cons (.same _) (.cons (.same _) (.cons (.same _) (.cons (.same _) .nil))))))))) (.same (.same (.same (.same (.same (.cons R (.cons (.aggL (.cons (.same _) (.cons (.all (List.length_map _)) (.cons (.same _) (.cons (.same _) .nil))))) .nil) (.same .nil))))))) ?_
   refine SW.fz (ts' := [(1, .d (.arr 3 ((o).map WiNight.d))), (2, .ref 0 4 0 0), (4, .d (.v (.slice none 0 0))), (5, .ref 1 4 0 0), (6, .d (.v (.int .i64 0))), (7, .ref 5 4 0 0), (8, .d (.v (.int .i64 3))), (9, .row 6 4 0 (([] : List WiUse)).length), (10, .d (.v (.int .i64 0)))]) (L' := [some ⟨4, [.d (WiPlan.d t)]⟩, some ⟨4, [.d (.agg [.v (.slice none 0 0), .v (.slice none 0 0), .v (.slice none 0 0), .v (.int .i64 0)])]⟩, none, none, none, some ⟨4, [.d (WiState.d rv.1)]⟩, some (lWiUsed ([] : List WiUse))]) (w := rv.1.last) (f := vI) 4 1 R (.cons (.same _) (.cons (.same _) (.cons (.same _) (.cons (.same _) (.cons (.same _) (.cons (.same _) (.cons (.same _) (.cons (.same _) (.cons (.same _) .nil))))))))) (.same (.same (.same (.same (.same (.cons R (.cons (.aggDL (.cons (.same _) (.cons (.same _) (.cons (.all (List.length_map _)) (.cons (.same _) .nil))))) .nil) (.same .nil))))))) ?_
   obtain ⟨K1, hK1, h⟩ : ∃ K, K = _ ∧ r_Season_L1 F t o K F rv.1 3 ([] : List WiUse) 0 = some r := ⟨_, rfl, h⟩
   refine sw_loop (st0 := ⟨[(1, .d (.arr 3 ((o).map WiNight.d))), (2, .ref 0 4 0 0), (4, .d (.v (.slice none 0 0))), (5, .ref 1 4 0 0), (6, .d (.v (.int .i64 0))), (7, .ref 2 4 0 0), (8, .d (.v (.int .i64 3))), (9, .row 3 4 0 (([] : List WiUse)).length), (10, .d (.v (.int .i64 0)))], [some ⟨4, [.d (WiPlan.d t)]⟩, some ⟨4, [.d (.agg [.v (.slice none 0 0), .v (.slice none 0 0), .v (.slice none 0 0), .v (.int .i64 0)])]⟩, some ⟨4, [.d (WiState.d rv.1)]⟩, some (lWiUsed ([] : List WiUse))]⟩) (κ := [0, 1, 5, 6]) (fun m st => ∃ (a : WiState) (x : Int) (lv : (List WiUse)) (x2 : Int), r_Season_L1 F t o K1 m a x lv x2 = some r ∧ st = ⟨[(1, .d (.arr 3 ((o).map WiNight.d))), (2, .ref 0 4 0 0), (4, .d (.v (.slice none 0 0))), (5, .ref 1 4 0 0), (6, .d (.v (.int .i64 0))), (7, .ref 2 4 0 0), (8, .d (.v (.int .i64 x))), (9, .row 3 4 0 (lv).length), (10, .d (.v (.int .i64 x2)))], [some ⟨4, [.d (WiPlan.d t)]⟩, some ⟨4, [.d (.agg [.v (.slice none 0 0), .v (.slice none 0 0), .v (.slice none 0 0), .v (.int .i64 0)])]⟩, some ⟨4, [.d (WiState.d a)]⟩, some (lWiUsed lv)]⟩) (vwK R R (.cons R R (.cons R R (.cons R R (.row R .nil)))) (.cons R R (.cons R R (.cons R R (.cons R R (.cons R R (.cons R R (.cons R R (.cons R R (.cons R R .nil)))))))))) ⟨rv.1, 3, ([] : List WiUse), 0, h, R⟩ ?_
   clear h
   rintro m1 st ⟨a, x, lv, x2, h, rfl⟩
   cases m1 with
   | zero => cases (show (none : Option ((List WiUse) × WiState × Int)) = some r from h)
   | succ m1 =>
   rw [r_Season_L1] at h
   refine sw_seq (qG (r_movD R R R (r_movD R R R (r_lenM tb R R R R R ?_))))
   refine r_lss R R R R ?_ ?_
   ·intro c3
    replace h := ifP c3 h
    refine r_movD R R R (r_movD R R R ?_)
    refine r_eql R R R R ?_ ?_
    ·intro c4
     replace h := ifP c4 h
     refine r_pickT R R R R (eN (sw_condT R (sw_skip (then_norm (sw_seq (sw_block (qG (r_alloc tb R R R R R (eN (sw_seq (sw_dr (by kernel_rfl) (r_ldD (y := WiPlan.d t) tb R R R R R R R R R (r_ldD (y := WiState.d a) tb R R R R R R R R R (r_movD R R R (r_movD R R R ?_)))))))))))))))
     obtain ⟨e, ie, h⟩ := bnd h
     refine r_ixE tb R R R R R R (ix0 ie) (ix1m ie) R R (r_ldE (y := WiNight.d e) tb R R (ix2 (g := WiNight.d) ie) R R R R ?_)
     obtain ⟨rv2, hrv2, h⟩ := bnd h
     refine r_call (r_Play_pc hrv2) (.of (by kernel_rfl)) R R R R (r_movD R R R (r_extD (t := WiState.d rv2.1) R R R R (r_extD (t := WiUse.d rv2.2.1) R R R R (r_extD (t := .v (.int .i64 rv2.2.2)) R R R R ?_))))
     refine r_stE _ ([some ⟨4, [.d (WiPlan.d t)]⟩, some ⟨4, [.d (.agg [.v (.slice none 0 0), .v (.slice none 0 0), .v (.slice none 0 0), .v (.int .i64 0)])]⟩, some ⟨4, [.d (WiState.d rv2.1)]⟩, some (lWiUsed lv), some ⟨4, [.d (.agg [.v (.int .i64 0), .v (.int .i64 0), .v (.int .i64 0), .v (.int .i64 0)])]⟩]) tb R R R R R R R R R R R R ?_
     refine r_stE _ ([some ⟨4, [.d (WiPlan.d t)]⟩, some ⟨4, [.d (.agg [.v (.slice none 0 0), .v (.slice none 0 0), .v (.slice none 0 0), .v (.int .i64 0)])]⟩, some ⟨4, [.d (WiState.d rv2.1)]⟩, some (lWiUsed lv), some ⟨4, [.d (WiUse.d rv2.2.1)]⟩]) tb R R R R R R R R R R R R (r_asgD R R R (ev_endD (by kernel_rfl) (then_norm (qG (r_movD R R R ?_)))))
     refine r_eql R R R R ?_ ?_
     ·intro c5
      replace h := ifP c5 h
      refine r_movD R R R (r_fa tb R R R R R R R (r_ldD (y := .v (.int .i64 rv2.2.1.team)) tb R R R R R R R R R ?_))
      refine r_geq R R R R ?_ ?_
      ·intro c6
       replace h := ifP c6 h
       refine r_pickT R R R R (eN (sw_condT R (sw_rg (r_movW R R R (r_ldD (y := WiUse.d rv2.2.1) tb R R R R R R R R R (r_bslice tb R R R R R R R R R R R R R ?_))))))
       obtain ⟨q, iq, h⟩ := bnd h
       refine r_apM (g := WiUse.d) (w := lv) (v := [rv2.2.1]) ([some ⟨4, [.d (WiPlan.d t)]⟩, some ⟨4, [.d (.agg [.v (.slice none 0 0), .v (.slice none 0 0), .v (.slice none 0 0), .v (.int .i64 0)])]⟩, some ⟨4, [.d (WiState.d rv2.1)]⟩, none, some ⟨4, [.d (WiUse.d rv2.2.1)]⟩, some (lWiUsed [rv2.2.1])]) tb R R R R R R R R R R R iq R R R R R (r_asgW R R R (ev_end (block_norm (then_norm (sw_rg (r_movD R R R (r_add R R R R (r_asgD R R R (eN ?_)))))))))
       exact ⟨m1, ⟨[(1, .d (.arr 3 ((o).map WiNight.d))), (2, .ref 0 4 0 0), (4, .d (.v (.slice none 0 0))), (5, .ref 1 4 0 0), (6, .d (.v (.int .i64 0))), (7, .ref 2 4 0 0), (8, .d (.v (.int .i64 rv2.2.2))), (9, .row 3 4 0 (q).length), (10, .d (.v (.int .i64 (W (x2 + 1)))))], [some ⟨4, [.d (WiPlan.d t)]⟩, some ⟨4, [.d (.agg [.v (.slice none 0 0), .v (.slice none 0 0), .v (.slice none 0 0), .v (.int .i64 0)])]⟩, some ⟨4, [.d (WiState.d rv2.1)]⟩, some (lWiUsed q)]⟩, [0, 1, 2, 6], Nat.lt_succ_self _, (vwK R R (.cons R R (.cons R R (.cons R R (.row R .nil)))) (.cons R R (.cons R R (.cons R R (.cons R R (.cons R R (.cons R R (.cons R R (.cons R R (.cons R R .nil)))))))))), rv2.1, rv2.2.2, q, (W (x2 + 1)), h, R⟩
      intro c6
      replace h := ifN (Int.not_le.2 c6) h
      refine r_pickT R R R R (eN (sw_condF R (sw_skip (block_norm (then_norm (sw_rg (r_movD R R R (r_add R R R R (r_asgD R R R (eN ?_))))))))))
      exact ⟨m1, ⟨[(1, .d (.arr 3 ((o).map WiNight.d))), (2, .ref 0 4 0 0), (4, .d (.v (.slice none 0 0))), (5, .ref 1 4 0 0), (6, .d (.v (.int .i64 0))), (7, .ref 2 4 0 0), (8, .d (.v (.int .i64 rv2.2.2))), (9, .row 3 4 0 (lv).length), (10, .d (.v (.int .i64 (W (x2 + 1)))))], [some ⟨4, [.d (WiPlan.d t)]⟩, some ⟨4, [.d (.agg [.v (.slice none 0 0), .v (.slice none 0 0), .v (.slice none 0 0), .v (.int .i64 0)])]⟩, some ⟨4, [.d (WiState.d rv2.1)]⟩, some (lWiUsed lv)]⟩, [0, 1, 2, 3], Nat.lt_succ_self _, (vwK R R (.cons R R (.cons R R (.cons R R (.row R .nil)))) (.cons R R (.cons R R (.cons R R (.cons R R (.cons R R (.cons R R (.cons R R (.cons R R (.cons R R .nil)))))))))), rv2.1, rv2.2.2, lv, (W (x2 + 1)), h, R⟩
     intro c5
     replace h := ifN c5 h
     refine r_movD R R R (r_skip R R R (r_skip R R R (r_skip R R R (r_pickF R R R R (eN (sw_condF R (sw_skip (block_norm (then_norm (sw_rg (r_movD R R R (r_add R R R R (r_asgD R R R (eN ?_))))))))))))))
     exact ⟨m1, ⟨[(1, .d (.arr 3 ((o).map WiNight.d))), (2, .ref 0 4 0 0), (4, .d (.v (.slice none 0 0))), (5, .ref 1 4 0 0), (6, .d (.v (.int .i64 0))), (7, .ref 2 4 0 0), (8, .d (.v (.int .i64 rv2.2.2))), (9, .row 3 4 0 (lv).length), (10, .d (.v (.int .i64 (W (x2 + 1)))))], [some ⟨4, [.d (WiPlan.d t)]⟩, some ⟨4, [.d (.agg [.v (.slice none 0 0), .v (.slice none 0 0), .v (.slice none 0 0), .v (.int .i64 0)])]⟩, some ⟨4, [.d (WiState.d rv2.1)]⟩, some (lWiUsed lv)]⟩, [0, 1, 2, 3], Nat.lt_succ_self _, (vwK R R (.cons R R (.cons R R (.cons R R (.row R .nil)))) (.cons R R (.cons R R (.cons R R (.cons R R (.cons R R (.cons R R (.cons R R (.cons R R (.cons R R .nil)))))))))), rv2.1, rv2.2.2, lv, (W (x2 + 1)), h, R⟩
    intro c4
    replace h := ifN c4 h
    refine r_pickT R R R R (eN (sw_condF R (sw_exit (then_exit (then_exit ?_)))))
    subst hK1
    refine block_exit (then_norm (sw_seq (qG (r_movD R R R ?_))))
    refine r_neq R R R R ?_ ?_
    ·intro c7
     replace h := ifN c7 h
     refine eN (sw_condT R (qG (r_build (v := .d (.agg [.v (.slice none 0 0), .v (.slice none 0 0), .v (.slice none 0 0), .v (.int .i64 0)])) tb R R (List.cons_ne_nil _ _) R R R R R R (r_movD R R R (r_asgD R R R (r_stE _ ([some ⟨4, [.d (WiPlan.d t)]⟩, some ⟨4, [.d (.agg [.v (.slice none 0 0), .v (.slice none 0 0), .v (.slice none 0 0), .v (.int .i64 0)])]⟩, some ⟨4, [.d (WiState.d a)]⟩, some (lWiUsed lv)]) tb R R R R R R R R R R R R (r_asgD R R R (eN (sw_ret (then_ret ?_))))))))))
     obtain rfl := sI h
     exact (fin_S (t := .d (.tup [.v (.slice none 0 0), .agg [.v (.slice none 0 0), .v (.slice none 0 0), .v (.slice none 0 0), .v (.int .i64 0)], .v (.int .i64 x)])) (L := []) (κ := []) R (.cons (.tmp 4) (.cons (rcell tb (u := .d (.agg [.v (.slice none 0 0), .v (.slice none 0 0), .v (.slice none 0 0), .v (.int .i64 0)])) R R R R R R R) (.cons (.tmp 6) .nil))) (vwK R R .nil (.cons R R .nil)) ⟨_, R, (.tupDL (.cons .nilA (.cons (.aggDL (.cons .nilA (.cons .nilA (.cons .nilA (.cons (.d _) .nil))))) (.cons (.d _) .nil))))⟩)
    intro c7
    replace h := ifP c7 h
    refine eN (sw_condF R (sw_skip (then_norm (sw_seq (sw_dr (by kernel_rfl) (r_movW R R R (r_ldD (y := WiState.d a) tb R R R R R R R R R (r_asgW R R R (r_stE _ ([some ⟨4, [.d (WiPlan.d t)]⟩, some ⟨4, [.d (WiState.d a)]⟩, some ⟨4, [.d (WiState.d a)]⟩, some (lWiUsed lv)]) tb R R R R R R R R R R R R (r_asgD R R R (ev_endD (by kernel_rfl) (then_norm (sw_ret ?_)))))))))))))
    obtain rfl := sI h
    exact (fin_S (t := .tup [.row 0 4 0 (lv).length, .d (WiState.d a), .d (.v (.int .i64 0))]) (L := [some (lWiUsed lv)]) (κ := [3]) R (.cons (.tmp 4) (.cons (rcell tb (u := .d (WiState.d a)) R R R R R R R) (.cons (.tmp 6) .nil))) (vwK R R (.row R .nil) (.cons R R .nil)) ⟨_, R, (.tupL (.cons (.row R R) (.cons (.d _) (.cons (.d _) .nil))))⟩)
   intro c3
   replace h := ifN (Int.not_lt.2 c3) h
   refine r_movD R R R (r_skip R R R (r_skip R R R (r_pickF R R R R (eN (sw_condF R (sw_exit (then_exit (then_exit ?_))))))))
   subst hK1
   refine block_exit (then_norm (sw_seq (qG (r_movD R R R ?_))))
   refine r_neq R R R R ?_ ?_
   ·intro c7
    replace h := ifN c7 h
    refine eN (sw_condT R (qG (r_build (v := .d (.agg [.v (.slice none 0 0), .v (.slice none 0 0), .v (.slice none 0 0), .v (.int .i64 0)])) tb R R (List.cons_ne_nil _ _) R R R R R R (r_movD R R R (r_asgD R R R (r_stE _ ([some ⟨4, [.d (WiPlan.d t)]⟩, some ⟨4, [.d (.agg [.v (.slice none 0 0), .v (.slice none 0 0), .v (.slice none 0 0), .v (.int .i64 0)])]⟩, some ⟨4, [.d (WiState.d a)]⟩, some (lWiUsed lv)]) tb R R R R R R R R R R R R (r_asgD R R R (eN (sw_ret (then_ret ?_))))))))))
    obtain rfl := sI h
    exact (fin_S (t := .d (.tup [.v (.slice none 0 0), .agg [.v (.slice none 0 0), .v (.slice none 0 0), .v (.slice none 0 0), .v (.int .i64 0)], .v (.int .i64 x)])) (L := []) (κ := []) R (.cons (.tmp 4) (.cons (rcell tb (u := .d (.agg [.v (.slice none 0 0), .v (.slice none 0 0), .v (.slice none 0 0), .v (.int .i64 0)])) R R R R R R R) (.cons (.tmp 6) .nil))) (vwK R R .nil (.cons R R .nil)) ⟨_, R, (.tupDL (.cons .nilA (.cons (.aggDL (.cons .nilA (.cons .nilA (.cons .nilA (.cons (.d _) .nil))))) (.cons (.d _) .nil))))⟩)
   intro c7
   replace h := ifP c7 h
   refine eN (sw_condF R (sw_skip (then_norm (sw_seq (sw_dr (by kernel_rfl) (r_movW R R R (r_ldD (y := WiState.d a) tb R R R R R R R R R (r_asgW R R R (r_stE _ ([some ⟨4, [.d (WiPlan.d t)]⟩, some ⟨4, [.d (WiState.d a)]⟩, some ⟨4, [.d (WiState.d a)]⟩, some (lWiUsed lv)]) tb R R R R R R R R R R R R (r_asgD R R R (ev_endD (by kernel_rfl) (then_norm (sw_ret ?_)))))))))))))
   obtain rfl := sI h
   exact (fin_S (t := .tup [.row 0 4 0 (lv).length, .d (WiState.d a), .d (.v (.int .i64 0))]) (L := [some (lWiUsed lv)]) (κ := [3]) R (.cons (.tmp 4) (.cons (rcell tb (u := .d (WiState.d a)) R R R R R R R) (.cons (.tmp 6) .nil))) (vwK R R (.row R .nil) (.cons R R .nil)) ⟨_, R, (.tupL (.cons (.row R R) (.cons (.d _) (.cons (.d _) .nil))))⟩)
  intro c2
  replace h := ifN (Int.not_lt.2 c2) h
  refine r_pickT R R R R (eN (sw_condF R (sw_skip (then_norm (qG (r_asgD R R R (eN (sw_seq (qG (r_asgD R R R (eN (sw_block ?_))))))))))))
  refine SW.own (ts' := [(1, .d (.arr 3 ((o).map WiNight.d))), (2, .ref 0 4 0 0), (4, .d (.v (.slice none 0 0))), (5, .ref 1 4 0 0), (6, .d (.v (.int .i64 0))), (7, .ref 5 4 0 0), (8, .d (.v (.int .i64 rv.2))), (9, .row 6 4 0 (([] : List WiUse)).length), (10, .d (.v (.int .i64 0)))]) (L' := [some ⟨4, [.d (WiPlan.d t)]⟩, some ⟨4, [.d (.agg [.v (.slice none 0 0), .v (.slice none 0 0), .v (.slice none 0 0), .v (.int .i64 0)])]⟩, some (lvI rv.1.used), some (lvI rv.1.credit), some (lvI rv.1.last), some ⟨4, [WiState_T1 rv.1 2 3 4]⟩]) 4 R R (.cons (.same _) (.cons (.same _) (.cons (.same _) (.cons (.same _) (.cons (.same _) (.cons (.same _) (.cons (.same _) (.cons .nil (.cons (.same _) .nil))))))))) (.same (.same (.same (.same (.same (.same .nil)))))) ?_
  simp only [List.cons_append, List.nil_append]
  refine SW.fz (ts' := [(1, .d (.arr 3 ((o).map WiNight.d))), (2, .ref 0 4 0 0), (4, .d (.v (.slice none 0 0))), (5, .ref 1 4 0 0), (6, .d (.v (.int .i64 0))), (7, .ref 5 4 0 0), (8, .d (.v (.int .i64 rv.2))), (9, .row 6 4 0 (([] : List WiUse)).length), (10, .d (.v (.int .i64 0)))]) (L' := [some ⟨4, [.d (WiPlan.d t)]⟩, some ⟨4, [.d (.agg [.v (.slice none 0 0), .v (.slice none 0 0), .v (.slice none 0 0), .v (.int .i64 0)])]⟩, none, some (lvI rv.1.credit), some (lvI rv.1.last), some ⟨4, [WiState_T4 rv.1 3 4]⟩, some (lWiUsed ([] : List WiUse))]) (w := rv.1.used) (f := vI) 2 1 R (.cons (.same _) (.cons (.same _) (.cons (.same _) (.cons (.same _) (.cons (.same _) (.cons (.same _) (.cons (.same _) (.cons (.same _) (.cons (.same _) .nil))))))))) (.same (.same (.same (.same (.same (.cons R (.cons (.aggL (.cons (.all (List.length_map _)) (.cons (.same _) (.cons (.same _) (.cons (.same _) .nil))))) .nil) (.same .nil))))))) ?_
  refine SW.fz (ts' := [(1, .d (.arr 3 ((o).map WiNight.d))), (2, .ref 0 4 0 0), (4, .d (.v (.slice none 0 0))), (5, .ref 1 4 0 0), (6, .d (.v (.int .i64 0))), (7, .ref 5 4 0 0), (8, .d (.v (.int .i64 rv.2))), (9, .row 6 4 0 (([] : List WiUse)).length), (10, .d (.v (.int .i64 0)))]) (L' := [some ⟨4, [.d (WiPlan.d t)]⟩, some ⟨4, [.d (.agg [.v (.slice none 0 0), .v (.slice none 0 0), .v (.slice none 0 0), .v (.int .i64 0)])]⟩, none, none, some (lvI rv.1.last), some ⟨4, [WiState_T5 rv.1 4]⟩, some (lWiUsed ([] : List WiUse))]) (w := rv.1.credit) (f := vI) 3 1 R (.cons (.same _) (.cons (.same _) (.cons (.same _) (.cons (.same _) (.cons (.same _) (.cons (.same _) (.cons (.same _) (.cons (.same _) (.cons (.same _) .nil))))))))) (.same (.same (.same (.same (.same (.cons R (.cons (.aggL (.cons (.same _) (.cons (.all (List.length_map _)) (.cons (.same _) (.cons (.same _) .nil))))) .nil) (.same .nil))))))) ?_
  refine SW.fz (ts' := [(1, .d (.arr 3 ((o).map WiNight.d))), (2, .ref 0 4 0 0), (4, .d (.v (.slice none 0 0))), (5, .ref 1 4 0 0), (6, .d (.v (.int .i64 0))), (7, .ref 5 4 0 0), (8, .d (.v (.int .i64 rv.2))), (9, .row 6 4 0 (([] : List WiUse)).length), (10, .d (.v (.int .i64 0)))]) (L' := [some ⟨4, [.d (WiPlan.d t)]⟩, some ⟨4, [.d (.agg [.v (.slice none 0 0), .v (.slice none 0 0), .v (.slice none 0 0), .v (.int .i64 0)])]⟩, none, none, none, some ⟨4, [.d (WiState.d rv.1)]⟩, some (lWiUsed ([] : List WiUse))]) (w := rv.1.last) (f := vI) 4 1 R (.cons (.same _) (.cons (.same _) (.cons (.same _) (.cons (.same _) (.cons (.same _) (.cons (.same _) (.cons (.same _) (.cons (.same _) (.cons (.same _) .nil))))))))) (.same (.same (.same (.same (.same (.cons R (.cons (.aggDL (.cons (.same _) (.cons (.same _) (.cons (.all (List.length_map _)) (.cons (.same _) .nil))))) .nil) (.same .nil))))))) ?_
  obtain ⟨K2, hK2, h⟩ : ∃ K, K = _ ∧ r_Season_L2 F t o K F rv.1 rv.2 ([] : List WiUse) 0 = some r := ⟨_, rfl, h⟩
  refine sw_loop (st0 := ⟨[(1, .d (.arr 3 ((o).map WiNight.d))), (2, .ref 0 4 0 0), (4, .d (.v (.slice none 0 0))), (5, .ref 1 4 0 0), (6, .d (.v (.int .i64 0))), (7, .ref 2 4 0 0), (8, .d (.v (.int .i64 rv.2))), (9, .row 3 4 0 (([] : List WiUse)).length), (10, .d (.v (.int .i64 0)))], [some ⟨4, [.d (WiPlan.d t)]⟩, some ⟨4, [.d (.agg [.v (.slice none 0 0), .v (.slice none 0 0), .v (.slice none 0 0), .v (.int .i64 0)])]⟩, some ⟨4, [.d (WiState.d rv.1)]⟩, some (lWiUsed ([] : List WiUse))]⟩) (κ := [0, 1, 5, 6]) (fun m st => ∃ (a2 : WiState) (x3 : Int) (lv2 : (List WiUse)) (x4 : Int), r_Season_L2 F t o K2 m a2 x3 lv2 x4 = some r ∧ st = ⟨[(1, .d (.arr 3 ((o).map WiNight.d))), (2, .ref 0 4 0 0), (4, .d (.v (.slice none 0 0))), (5, .ref 1 4 0 0), (6, .d (.v (.int .i64 0))), (7, .ref 2 4 0 0), (8, .d (.v (.int .i64 x3))), (9, .row 3 4 0 (lv2).length), (10, .d (.v (.int .i64 x4)))], [some ⟨4, [.d (WiPlan.d t)]⟩, some ⟨4, [.d (.agg [.v (.slice none 0 0), .v (.slice none 0 0), .v (.slice none 0 0), .v (.int .i64 0)])]⟩, some ⟨4, [.d (WiState.d a2)]⟩, some (lWiUsed lv2)]⟩) (vwK R R (.cons R R (.cons R R (.cons R R (.row R .nil)))) (.cons R R (.cons R R (.cons R R (.cons R R (.cons R R (.cons R R (.cons R R (.cons R R (.cons R R .nil)))))))))) ⟨rv.1, rv.2, ([] : List WiUse), 0, h, R⟩ ?_
  clear h
  rintro m2 st ⟨a2, x3, lv2, x4, h, rfl⟩
  cases m2 with
  | zero => cases (show (none : Option ((List WiUse) × WiState × Int)) = some r from h)
  | succ m2 =>
  rw [r_Season_L2] at h
  refine sw_seq (qG (r_movD R R R (r_movD R R R (r_lenM tb R R R R R ?_))))
  refine r_lss R R R R ?_ ?_
  ·intro c8
   replace h := ifP c8 h
   refine r_movD R R R (r_movD R R R ?_)
   refine r_eql R R R R ?_ ?_
   ·intro c9
    replace h := ifP c9 h
    refine r_pickT R R R R (eN (sw_condT R (sw_skip (then_norm (sw_seq (sw_block (qG (r_alloc tb R R R R R (eN (sw_seq (sw_dr (by kernel_rfl) (r_ldD (y := WiPlan.d t) tb R R R R R R R R R (r_ldD (y := WiState.d a2) tb R R R R R R R R R (r_movD R R R (r_movD R R R ?_)))))))))))))))
    obtain ⟨e2, ie2, h⟩ := bnd h
    refine r_ixE tb R R R R R R (ix0 ie2) (ix1m ie2) R R (r_ldE (y := WiNight.d e2) tb R R (ix2 (g := WiNight.d) ie2) R R R R ?_)
    obtain ⟨rv3, hrv3, h⟩ := bnd h
    refine r_call (r_Play_pc hrv3) (.of (by kernel_rfl)) R R R R (r_movD R R R (r_extD (t := WiState.d rv3.1) R R R R (r_extD (t := WiUse.d rv3.2.1) R R R R (r_extD (t := .v (.int .i64 rv3.2.2)) R R R R ?_))))
    refine r_stE _ ([some ⟨4, [.d (WiPlan.d t)]⟩, some ⟨4, [.d (.agg [.v (.slice none 0 0), .v (.slice none 0 0), .v (.slice none 0 0), .v (.int .i64 0)])]⟩, some ⟨4, [.d (WiState.d rv3.1)]⟩, some (lWiUsed lv2), some ⟨4, [.d (.agg [.v (.int .i64 0), .v (.int .i64 0), .v (.int .i64 0), .v (.int .i64 0)])]⟩]) tb R R R R R R R R R R R R ?_
    refine r_stE _ ([some ⟨4, [.d (WiPlan.d t)]⟩, some ⟨4, [.d (.agg [.v (.slice none 0 0), .v (.slice none 0 0), .v (.slice none 0 0), .v (.int .i64 0)])]⟩, some ⟨4, [.d (WiState.d rv3.1)]⟩, some (lWiUsed lv2), some ⟨4, [.d (WiUse.d rv3.2.1)]⟩]) tb R R R R R R R R R R R R (r_asgD R R R (ev_endD (by kernel_rfl) (then_norm (qG (r_movD R R R ?_)))))
    refine r_eql R R R R ?_ ?_
    ·intro c10
     replace h := ifP c10 h
     refine r_movD R R R (r_fa tb R R R R R R R (r_ldD (y := .v (.int .i64 rv3.2.1.team)) tb R R R R R R R R R ?_))
     refine r_geq R R R R ?_ ?_
     ·intro c11
      replace h := ifP c11 h
      refine r_pickT R R R R (eN (sw_condT R (sw_rg (r_movW R R R (r_ldD (y := WiUse.d rv3.2.1) tb R R R R R R R R R (r_bslice tb R R R R R R R R R R R R R ?_))))))
      obtain ⟨q2, iq2, h⟩ := bnd h
      refine r_apM (g := WiUse.d) (w := lv2) (v := [rv3.2.1]) ([some ⟨4, [.d (WiPlan.d t)]⟩, some ⟨4, [.d (.agg [.v (.slice none 0 0), .v (.slice none 0 0), .v (.slice none 0 0), .v (.int .i64 0)])]⟩, some ⟨4, [.d (WiState.d rv3.1)]⟩, none, some ⟨4, [.d (WiUse.d rv3.2.1)]⟩, some (lWiUsed [rv3.2.1])]) tb R R R R R R R R R R R iq2 R R R R R (r_asgW R R R (ev_end (block_norm (then_norm (sw_rg (r_movD R R R (r_add R R R R (r_asgD R R R (eN ?_)))))))))
      exact ⟨m2, ⟨[(1, .d (.arr 3 ((o).map WiNight.d))), (2, .ref 0 4 0 0), (4, .d (.v (.slice none 0 0))), (5, .ref 1 4 0 0), (6, .d (.v (.int .i64 0))), (7, .ref 2 4 0 0), (8, .d (.v (.int .i64 rv3.2.2))), (9, .row 3 4 0 (q2).length), (10, .d (.v (.int .i64 (W (x4 + 1)))))], [some ⟨4, [.d (WiPlan.d t)]⟩, some ⟨4, [.d (.agg [.v (.slice none 0 0), .v (.slice none 0 0), .v (.slice none 0 0), .v (.int .i64 0)])]⟩, some ⟨4, [.d (WiState.d rv3.1)]⟩, some (lWiUsed q2)]⟩, [0, 1, 2, 6], Nat.lt_succ_self _, (vwK R R (.cons R R (.cons R R (.cons R R (.row R .nil)))) (.cons R R (.cons R R (.cons R R (.cons R R (.cons R R (.cons R R (.cons R R (.cons R R (.cons R R .nil)))))))))), rv3.1, rv3.2.2, q2, (W (x4 + 1)), h, R⟩
     intro c11
     replace h := ifN (Int.not_le.2 c11) h
     refine r_pickT R R R R (eN (sw_condF R (sw_skip (block_norm (then_norm (sw_rg (r_movD R R R (r_add R R R R (r_asgD R R R (eN ?_))))))))))
     exact ⟨m2, ⟨[(1, .d (.arr 3 ((o).map WiNight.d))), (2, .ref 0 4 0 0), (4, .d (.v (.slice none 0 0))), (5, .ref 1 4 0 0), (6, .d (.v (.int .i64 0))), (7, .ref 2 4 0 0), (8, .d (.v (.int .i64 rv3.2.2))), (9, .row 3 4 0 (lv2).length), (10, .d (.v (.int .i64 (W (x4 + 1)))))], [some ⟨4, [.d (WiPlan.d t)]⟩, some ⟨4, [.d (.agg [.v (.slice none 0 0), .v (.slice none 0 0), .v (.slice none 0 0), .v (.int .i64 0)])]⟩, some ⟨4, [.d (WiState.d rv3.1)]⟩, some (lWiUsed lv2)]⟩, [0, 1, 2, 3], Nat.lt_succ_self _, (vwK R R (.cons R R (.cons R R (.cons R R (.row R .nil)))) (.cons R R (.cons R R (.cons R R (.cons R R (.cons R R (.cons R R (.cons R R (.cons R R (.cons R R .nil)))))))))), rv3.1, rv3.2.2, lv2, (W (x4 + 1)), h, R⟩
    intro c10
    replace h := ifN c10 h
    refine r_movD R R R (r_skip R R R (r_skip R R R (r_skip R R R (r_pickF R R R R (eN (sw_condF R (sw_skip (block_norm (then_norm (sw_rg (r_movD R R R (r_add R R R R (r_asgD R R R (eN ?_))))))))))))))
    exact ⟨m2, ⟨[(1, .d (.arr 3 ((o).map WiNight.d))), (2, .ref 0 4 0 0), (4, .d (.v (.slice none 0 0))), (5, .ref 1 4 0 0), (6, .d (.v (.int .i64 0))), (7, .ref 2 4 0 0), (8, .d (.v (.int .i64 rv3.2.2))), (9, .row 3 4 0 (lv2).length), (10, .d (.v (.int .i64 (W (x4 + 1)))))], [some ⟨4, [.d (WiPlan.d t)]⟩, some ⟨4, [.d (.agg [.v (.slice none 0 0), .v (.slice none 0 0), .v (.slice none 0 0), .v (.int .i64 0)])]⟩, some ⟨4, [.d (WiState.d rv3.1)]⟩, some (lWiUsed lv2)]⟩, [0, 1, 2, 3], Nat.lt_succ_self _, (vwK R R (.cons R R (.cons R R (.cons R R (.row R .nil)))) (.cons R R (.cons R R (.cons R R (.cons R R (.cons R R (.cons R R (.cons R R (.cons R R (.cons R R .nil)))))))))), rv3.1, rv3.2.2, lv2, (W (x4 + 1)), h, R⟩
   intro c9
   replace h := ifN c9 h
   refine r_pickT R R R R (eN (sw_condF R (sw_exit (then_exit (then_exit ?_)))))
   subst hK2
   refine block_exit (then_norm (sw_seq (qG (r_movD R R R ?_))))
   refine r_neq R R R R ?_ ?_
   ·intro c12
    replace h := ifN c12 h
    refine eN (sw_condT R (qG (r_build (v := .d (.agg [.v (.slice none 0 0), .v (.slice none 0 0), .v (.slice none 0 0), .v (.int .i64 0)])) tb R R (List.cons_ne_nil _ _) R R R R R R (r_movD R R R (r_asgD R R R (r_stE _ ([some ⟨4, [.d (WiPlan.d t)]⟩, some ⟨4, [.d (.agg [.v (.slice none 0 0), .v (.slice none 0 0), .v (.slice none 0 0), .v (.int .i64 0)])]⟩, some ⟨4, [.d (WiState.d a2)]⟩, some (lWiUsed lv2)]) tb R R R R R R R R R R R R (r_asgD R R R (eN (sw_ret (then_ret ?_))))))))))
    obtain rfl := sI h
    exact (fin_S (t := .d (.tup [.v (.slice none 0 0), .agg [.v (.slice none 0 0), .v (.slice none 0 0), .v (.slice none 0 0), .v (.int .i64 0)], .v (.int .i64 x3)])) (L := []) (κ := []) R (.cons (.tmp 4) (.cons (rcell tb (u := .d (.agg [.v (.slice none 0 0), .v (.slice none 0 0), .v (.slice none 0 0), .v (.int .i64 0)])) R R R R R R R) (.cons (.tmp 6) .nil))) (vwK R R .nil (.cons R R .nil)) ⟨_, R, (.tupDL (.cons .nilA (.cons (.aggDL (.cons .nilA (.cons .nilA (.cons .nilA (.cons (.d _) .nil))))) (.cons (.d _) .nil))))⟩)
   intro c12
   replace h := ifP c12 h
   refine eN (sw_condF R (sw_skip (then_norm (sw_seq (sw_dr (by kernel_rfl) (r_movW R R R (r_ldD (y := WiState.d a2) tb R R R R R R R R R (r_asgW R R R (r_stE _ ([some ⟨4, [.d (WiPlan.d t)]⟩, some ⟨4, [.d (WiState.d a2)]⟩, some ⟨4, [.d (WiState.d a2)]⟩, some (lWiUsed lv2)]) tb R R R R R R R R R R R R (r_asgD R R R (ev_endD (by kernel_rfl) (then_norm (sw_ret ?_)))))))))))))
   obtain rfl := sI h
   exact (fin_S (t := .tup [.row 0 4 0 (lv2).length, .d (WiState.d a2), .d (.v (.int .i64 0))]) (L := [some (lWiUsed lv2)]) (κ := [3]) R (.cons (.tmp 4) (.cons (rcell tb (u := .d (WiState.d a2)) R R R R R R R) (.cons (.tmp 6) .nil))) (vwK R R (.row R .nil) (.cons R R .nil)) ⟨_, R, (.tupL (.cons (.row R R) (.cons (.d _) (.cons (.d _) .nil))))⟩)
  intro c8
  replace h := ifN (Int.not_lt.2 c8) h
  refine r_movD R R R (r_skip R R R (r_skip R R R (r_pickF R R R R (eN (sw_condF R (sw_exit (then_exit (then_exit ?_))))))))
  subst hK2
  refine block_exit (then_norm (sw_seq (qG (r_movD R R R ?_))))
  refine r_neq R R R R ?_ ?_
  ·intro c12
   replace h := ifN c12 h
   refine eN (sw_condT R (qG (r_build (v := .d (.agg [.v (.slice none 0 0), .v (.slice none 0 0), .v (.slice none 0 0), .v (.int .i64 0)])) tb R R (List.cons_ne_nil _ _) R R R R R R (r_movD R R R (r_asgD R R R (r_stE _ ([some ⟨4, [.d (WiPlan.d t)]⟩, some ⟨4, [.d (.agg [.v (.slice none 0 0), .v (.slice none 0 0), .v (.slice none 0 0), .v (.int .i64 0)])]⟩, some ⟨4, [.d (WiState.d a2)]⟩, some (lWiUsed lv2)]) tb R R R R R R R R R R R R (r_asgD R R R (eN (sw_ret (then_ret ?_))))))))))
   obtain rfl := sI h
   exact (fin_S (t := .d (.tup [.v (.slice none 0 0), .agg [.v (.slice none 0 0), .v (.slice none 0 0), .v (.slice none 0 0), .v (.int .i64 0)], .v (.int .i64 x3)])) (L := []) (κ := []) R (.cons (.tmp 4) (.cons (rcell tb (u := .d (.agg [.v (.slice none 0 0), .v (.slice none 0 0), .v (.slice none 0 0), .v (.int .i64 0)])) R R R R R R R) (.cons (.tmp 6) .nil))) (vwK R R .nil (.cons R R .nil)) ⟨_, R, (.tupDL (.cons .nilA (.cons (.aggDL (.cons .nilA (.cons .nilA (.cons .nilA (.cons (.d _) .nil))))) (.cons (.d _) .nil))))⟩)
  intro c12
  replace h := ifP c12 h
  refine eN (sw_condF R (sw_skip (then_norm (sw_seq (sw_dr (by kernel_rfl) (r_movW R R R (r_ldD (y := WiState.d a2) tb R R R R R R R R R (r_asgW R R R (r_stE _ ([some ⟨4, [.d (WiPlan.d t)]⟩, some ⟨4, [.d (WiState.d a2)]⟩, some ⟨4, [.d (WiState.d a2)]⟩, some (lWiUsed lv2)]) tb R R R R R R R R R R R R (r_asgD R R R (ev_endD (by kernel_rfl) (then_norm (sw_ret ?_)))))))))))))
  obtain rfl := sI h
  exact (fin_S (t := .tup [.row 0 4 0 (lv2).length, .d (WiState.d a2), .d (.v (.int .i64 0))]) (L := [some (lWiUsed lv2)]) (κ := [3]) R (.cons (.tmp 4) (.cons (rcell tb (u := .d (WiState.d a2)) R R R R R R R) (.cons (.tmp 6) .nil))) (vwK R R (.row R .nil) (.cons R R .nil)) ⟨_, R, (.tupL (.cons (.row R R) (.cons (.d _) (.cons (.d _) .nil))))⟩)
 intro c
 replace h := ifN c h
 refine r_movD R R R (r_skip R R R (r_skip R R R (r_skip R R R (r_skip R R R (r_skip R R R (r_skip R R R (r_pickF R R R R (eN (sw_condF R (sw_skip (then_norm (qG (r_asgD R R R (eN (sw_seq (qG (r_asgD R R R (eN (sw_block ?_)))))))))))))))))))
 refine SW.own (ts' := [(1, .d (.arr 3 ((o).map WiNight.d))), (2, .ref 0 4 0 0), (4, .d (.v (.slice none 0 0))), (5, .ref 1 4 0 0), (6, .d (.v (.int .i64 0))), (7, .ref 5 4 0 0), (8, .d (.v (.int .i64 rv.2))), (9, .row 6 4 0 (([] : List WiUse)).length), (10, .d (.v (.int .i64 0)))]) (L' := [some ⟨4, [.d (WiPlan.d t)]⟩, some ⟨4, [.d (.agg [.v (.slice none 0 0), .v (.slice none 0 0), .v (.slice none 0 0), .v (.int .i64 0)])]⟩, some (lvI rv.1.used), some (lvI rv.1.credit), some (lvI rv.1.last), some ⟨4, [WiState_T1 rv.1 2 3 4]⟩]) 4 R R (.cons (.same _) (.cons (.same _) (.cons (.same _) (.cons (.same _) (.cons (.same _) (.cons (.same _) (.cons (.same _) (.cons .nil (.cons (.same _) .nil))))))))) (.same (.same (.same (.same (.same (.same .nil)))))) ?_
 simp only [List.cons_append, List.nil_append]
 refine SW.fz (ts' := [(1, .d (.arr 3 ((o).map WiNight.d))), (2, .ref 0 4 0 0), (4, .d (.v (.slice none 0 0))), (5, .ref 1 4 0 0), (6, .d (.v (.int .i64 0))), (7, .ref 5 4 0 0), (8, .d (.v (.int .i64 rv.2))), (9, .row 6 4 0 (([] : List WiUse)).length), (10, .d (.v (.int .i64 0)))]) (L' := [some ⟨4, [.d (WiPlan.d t)]⟩, some ⟨4, [.d (.agg [.v (.slice none 0 0), .v (.slice none 0 0), .v (.slice none 0 0), .v (.int .i64 0)])]⟩, none, some (lvI rv.1.credit), some (lvI rv.1.last), some ⟨4, [WiState_T4 rv.1 3 4]⟩, some (lWiUsed ([] : List WiUse))]) (w := rv.1.used) (f := vI) 2 1 R (.cons (.same _) (.cons (.same _) (.cons (.same _) (.cons (.same _) (.cons (.same _) (.cons (.same _) (.cons (.same _) (.cons (.same _) (.cons (.same _) .nil))))))))) (.same (.same (.same (.same (.same (.cons R (.cons (.aggL (.cons (.all (List.length_map _)) (.cons (.same _) (.cons (.same _) (.cons (.same _) .nil))))) .nil) (.same .nil))))))) ?_
 refine SW.fz (ts' := [(1, .d (.arr 3 ((o).map WiNight.d))), (2, .ref 0 4 0 0), (4, .d (.v (.slice none 0 0))), (5, .ref 1 4 0 0), (6, .d (.v (.int .i64 0))), (7, .ref 5 4 0 0), (8, .d (.v (.int .i64 rv.2))), (9, .row 6 4 0 (([] : List WiUse)).length), (10, .d (.v (.int .i64 0)))]) (L' := [some ⟨4, [.d (WiPlan.d t)]⟩, some ⟨4, [.d (.agg [.v (.slice none 0 0), .v (.slice none 0 0), .v (.slice none 0 0), .v (.int .i64 0)])]⟩, none, none, some (lvI rv.1.last), some ⟨4, [WiState_T5 rv.1 4]⟩, some (lWiUsed ([] : List WiUse))]) (w := rv.1.credit) (f := vI) 3 1 R (.cons (.same _) (.cons (.same _) (.cons (.same _) (.cons (.same _) (.cons (.same _) (.cons (.same _) (.cons (.same _) (.cons (.same _) (.cons (.same _) .nil))))))))) (.same (.same (.same (.same (.same (.cons R (.cons (.aggL (.cons (.same _) (.cons (.all (List.length_map _)) (.cons (.same _) (.cons (.same _) .nil))))) .nil) (.same .nil))))))) ?_
 refine SW.fz (ts' := [(1, .d (.arr 3 ((o).map WiNight.d))), (2, .ref 0 4 0 0), (4, .d (.v (.slice none 0 0))), (5, .ref 1 4 0 0), (6, .d (.v (.int .i64 0))), (7, .ref 5 4 0 0), (8, .d (.v (.int .i64 rv.2))), (9, .row 6 4 0 (([] : List WiUse)).length), (10, .d (.v (.int .i64 0)))]) (L' := [some ⟨4, [.d (WiPlan.d t)]⟩, some ⟨4, [.d (.agg [.v (.slice none 0 0), .v (.slice none 0 0), .v (.slice none 0 0), .v (.int .i64 0)])]⟩, none, none, none, some ⟨4, [.d (WiState.d rv.1)]⟩, some (lWiUsed ([] : List WiUse))]) (w := rv.1.last) (f := vI) 4 1 R (.cons (.same _) (.cons (.same _) (.cons (.same _) (.cons (.same _) (.cons (.same _) (.cons (.same _) (.cons (.same _) (.cons (.same _) (.cons (.same _) .nil))))))))) (.same (.same (.same (.same (.same (.cons R (.cons (.aggDL (.cons (.same _) (.cons (.same _) (.cons (.all (List.length_map _)) (.cons (.same _) .nil))))) .nil) (.same .nil))))))) ?_
 obtain ⟨K3, hK3, h⟩ : ∃ K, K = _ ∧ r_Season_L3 F t o K F rv.1 rv.2 ([] : List WiUse) 0 = some r := ⟨_, rfl, h⟩
 refine sw_loop (st0 := ⟨[(1, .d (.arr 3 ((o).map WiNight.d))), (2, .ref 0 4 0 0), (4, .d (.v (.slice none 0 0))), (5, .ref 1 4 0 0), (6, .d (.v (.int .i64 0))), (7, .ref 2 4 0 0), (8, .d (.v (.int .i64 rv.2))), (9, .row 3 4 0 (([] : List WiUse)).length), (10, .d (.v (.int .i64 0)))], [some ⟨4, [.d (WiPlan.d t)]⟩, some ⟨4, [.d (.agg [.v (.slice none 0 0), .v (.slice none 0 0), .v (.slice none 0 0), .v (.int .i64 0)])]⟩, some ⟨4, [.d (WiState.d rv.1)]⟩, some (lWiUsed ([] : List WiUse))]⟩) (κ := [0, 1, 5, 6]) (fun m st => ∃ (a3 : WiState) (x5 : Int) (lv3 : (List WiUse)) (x6 : Int), r_Season_L3 F t o K3 m a3 x5 lv3 x6 = some r ∧ st = ⟨[(1, .d (.arr 3 ((o).map WiNight.d))), (2, .ref 0 4 0 0), (4, .d (.v (.slice none 0 0))), (5, .ref 1 4 0 0), (6, .d (.v (.int .i64 0))), (7, .ref 2 4 0 0), (8, .d (.v (.int .i64 x5))), (9, .row 3 4 0 (lv3).length), (10, .d (.v (.int .i64 x6)))], [some ⟨4, [.d (WiPlan.d t)]⟩, some ⟨4, [.d (.agg [.v (.slice none 0 0), .v (.slice none 0 0), .v (.slice none 0 0), .v (.int .i64 0)])]⟩, some ⟨4, [.d (WiState.d a3)]⟩, some (lWiUsed lv3)]⟩) (vwK R R (.cons R R (.cons R R (.cons R R (.row R .nil)))) (.cons R R (.cons R R (.cons R R (.cons R R (.cons R R (.cons R R (.cons R R (.cons R R (.cons R R .nil)))))))))) ⟨rv.1, rv.2, ([] : List WiUse), 0, h, R⟩ ?_
 clear h
 rintro m3 st ⟨a3, x5, lv3, x6, h, rfl⟩
 cases m3 with
 | zero => cases (show (none : Option ((List WiUse) × WiState × Int)) = some r from h)
 | succ m3 =>
 rw [r_Season_L3] at h
 refine sw_seq (qG (r_movD R R R (r_movD R R R (r_lenM tb R R R R R ?_))))
 refine r_lss R R R R ?_ ?_
 ·intro c13
  replace h := ifP c13 h
  refine r_movD R R R (r_movD R R R ?_)
  refine r_eql R R R R ?_ ?_
  ·intro c14
   replace h := ifP c14 h
   refine r_pickT R R R R (eN (sw_condT R (sw_skip (then_norm (sw_seq (sw_block (qG (r_alloc tb R R R R R (eN (sw_seq (sw_dr (by kernel_rfl) (r_ldD (y := WiPlan.d t) tb R R R R R R R R R (r_ldD (y := WiState.d a3) tb R R R R R R R R R (r_movD R R R (r_movD R R R ?_)))))))))))))))
   obtain ⟨e3, ie3, h⟩ := bnd h
   refine r_ixE tb R R R R R R (ix0 ie3) (ix1m ie3) R R (r_ldE (y := WiNight.d e3) tb R R (ix2 (g := WiNight.d) ie3) R R R R ?_)
   obtain ⟨rv4, hrv4, h⟩ := bnd h
   refine r_call (r_Play_pc hrv4) (.of (by kernel_rfl)) R R R R (r_movD R R R (r_extD (t := WiState.d rv4.1) R R R R (r_extD (t := WiUse.d rv4.2.1) R R R R (r_extD (t := .v (.int .i64 rv4.2.2)) R R R R ?_))))
   refine r_stE _ ([some ⟨4, [.d (WiPlan.d t)]⟩, some ⟨4, [.d (.agg [.v (.slice none 0 0), .v (.slice none 0 0), .v (.slice none 0 0), .v (.int .i64 0)])]⟩, some ⟨4, [.d (WiState.d rv4.1)]⟩, some (lWiUsed lv3), some ⟨4, [.d (.agg [.v (.int .i64 0), .v (.int .i64 0), .v (.int .i64 0), .v (.int .i64 0)])]⟩]) tb R R R R R R R R R R R R ?_
   refine r_stE _ ([some ⟨4, [.d (WiPlan.d t)]⟩, some ⟨4, [.d (.agg [.v (.slice none 0 0), .v (.slice none 0 0), .v (.slice none 0 0), .v (.int .i64 0)])]⟩, some ⟨4, [.d (WiState.d rv4.1)]⟩, some (lWiUsed lv3), some ⟨4, [.d (WiUse.d rv4.2.1)]⟩]) tb R R R R R R R R R R R R (r_asgD R R R (ev_endD (by kernel_rfl) (then_norm (qG (r_movD R R R ?_)))))
   refine r_eql R R R R ?_ ?_
   ·intro c15
    replace h := ifP c15 h
    refine r_movD R R R (r_fa tb R R R R R R R (r_ldD (y := .v (.int .i64 rv4.2.1.team)) tb R R R R R R R R R ?_))
    refine r_geq R R R R ?_ ?_
    ·intro c16
     replace h := ifP c16 h
     refine r_pickT R R R R (eN (sw_condT R (sw_rg (r_movW R R R (r_ldD (y := WiUse.d rv4.2.1) tb R R R R R R R R R (r_bslice tb R R R R R R R R R R R R R ?_))))))
     obtain ⟨q3, iq3, h⟩ := bnd h
     refine r_apM (g := WiUse.d) (w := lv3) (v := [rv4.2.1]) ([some ⟨4, [.d (WiPlan.d t)]⟩, some ⟨4, [.d (.agg [.v (.slice none 0 0), .v (.slice none 0 0), .v (.slice none 0 0), .v (.int .i64 0)])]⟩, some ⟨4, [.d (WiState.d rv4.1)]⟩, none, some ⟨4, [.d (WiUse.d rv4.2.1)]⟩, some (lWiUsed [rv4.2.1])]) tb R R R R R R R R R R R iq3 R R R R R (r_asgW R R R (ev_end (block_norm (then_norm (sw_rg (r_movD R R R (r_add R R R R (r_asgD R R R (eN ?_)))))))))
     exact ⟨m3, ⟨[(1, .d (.arr 3 ((o).map WiNight.d))), (2, .ref 0 4 0 0), (4, .d (.v (.slice none 0 0))), (5, .ref 1 4 0 0), (6, .d (.v (.int .i64 0))), (7, .ref 2 4 0 0), (8, .d (.v (.int .i64 rv4.2.2))), (9, .row 3 4 0 (q3).length), (10, .d (.v (.int .i64 (W (x6 + 1)))))], [some ⟨4, [.d (WiPlan.d t)]⟩, some ⟨4, [.d (.agg [.v (.slice none 0 0), .v (.slice none 0 0), .v (.slice none 0 0), .v (.int .i64 0)])]⟩, some ⟨4, [.d (WiState.d rv4.1)]⟩, some (lWiUsed q3)]⟩, [0, 1, 2, 6], Nat.lt_succ_self _, (vwK R R (.cons R R (.cons R R (.cons R R (.row R .nil)))) (.cons R R (.cons R R (.cons R R (.cons R R (.cons R R (.cons R R (.cons R R (.cons R R (.cons R R .nil)))))))))), rv4.1, rv4.2.2, q3, (W (x6 + 1)), h, R⟩
    intro c16
    replace h := ifN (Int.not_le.2 c16) h
    refine r_pickT R R R R (eN (sw_condF R (sw_skip (block_norm (then_norm (sw_rg (r_movD R R R (r_add R R R R (r_asgD R R R (eN ?_))))))))))
    exact ⟨m3, ⟨[(1, .d (.arr 3 ((o).map WiNight.d))), (2, .ref 0 4 0 0), (4, .d (.v (.slice none 0 0))), (5, .ref 1 4 0 0), (6, .d (.v (.int .i64 0))), (7, .ref 2 4 0 0), (8, .d (.v (.int .i64 rv4.2.2))), (9, .row 3 4 0 (lv3).length), (10, .d (.v (.int .i64 (W (x6 + 1)))))], [some ⟨4, [.d (WiPlan.d t)]⟩, some ⟨4, [.d (.agg [.v (.slice none 0 0), .v (.slice none 0 0), .v (.slice none 0 0), .v (.int .i64 0)])]⟩, some ⟨4, [.d (WiState.d rv4.1)]⟩, some (lWiUsed lv3)]⟩, [0, 1, 2, 3], Nat.lt_succ_self _, (vwK R R (.cons R R (.cons R R (.cons R R (.row R .nil)))) (.cons R R (.cons R R (.cons R R (.cons R R (.cons R R (.cons R R (.cons R R (.cons R R (.cons R R .nil)))))))))), rv4.1, rv4.2.2, lv3, (W (x6 + 1)), h, R⟩
   intro c15
   replace h := ifN c15 h
   refine r_movD R R R (r_skip R R R (r_skip R R R (r_skip R R R (r_pickF R R R R (eN (sw_condF R (sw_skip (block_norm (then_norm (sw_rg (r_movD R R R (r_add R R R R (r_asgD R R R (eN ?_))))))))))))))
   exact ⟨m3, ⟨[(1, .d (.arr 3 ((o).map WiNight.d))), (2, .ref 0 4 0 0), (4, .d (.v (.slice none 0 0))), (5, .ref 1 4 0 0), (6, .d (.v (.int .i64 0))), (7, .ref 2 4 0 0), (8, .d (.v (.int .i64 rv4.2.2))), (9, .row 3 4 0 (lv3).length), (10, .d (.v (.int .i64 (W (x6 + 1)))))], [some ⟨4, [.d (WiPlan.d t)]⟩, some ⟨4, [.d (.agg [.v (.slice none 0 0), .v (.slice none 0 0), .v (.slice none 0 0), .v (.int .i64 0)])]⟩, some ⟨4, [.d (WiState.d rv4.1)]⟩, some (lWiUsed lv3)]⟩, [0, 1, 2, 3], Nat.lt_succ_self _, (vwK R R (.cons R R (.cons R R (.cons R R (.row R .nil)))) (.cons R R (.cons R R (.cons R R (.cons R R (.cons R R (.cons R R (.cons R R (.cons R R (.cons R R .nil)))))))))), rv4.1, rv4.2.2, lv3, (W (x6 + 1)), h, R⟩
  intro c14
  replace h := ifN c14 h
  refine r_pickT R R R R (eN (sw_condF R (sw_exit (then_exit (then_exit ?_)))))
  subst hK3
  refine block_exit (then_norm (sw_seq (qG (r_movD R R R ?_))))
  refine r_neq R R R R ?_ ?_
  ·intro c17
   replace h := ifN c17 h
   refine eN (sw_condT R (qG (r_build (v := .d (.agg [.v (.slice none 0 0), .v (.slice none 0 0), .v (.slice none 0 0), .v (.int .i64 0)])) tb R R (List.cons_ne_nil _ _) R R R R R R (r_movD R R R (r_asgD R R R (r_stE _ ([some ⟨4, [.d (WiPlan.d t)]⟩, some ⟨4, [.d (.agg [.v (.slice none 0 0), .v (.slice none 0 0), .v (.slice none 0 0), .v (.int .i64 0)])]⟩, some ⟨4, [.d (WiState.d a3)]⟩, some (lWiUsed lv3)]) tb R R R R R R R R R R R R (r_asgD R R R (eN (sw_ret (then_ret ?_))))))))))
   obtain rfl := sI h
   exact (fin_S (t := .d (.tup [.v (.slice none 0 0), .agg [.v (.slice none 0 0), .v (.slice none 0 0), .v (.slice none 0 0), .v (.int .i64 0)], .v (.int .i64 x5)])) (L := []) (κ := []) R (.cons (.tmp 4) (.cons (rcell tb (u := .d (.agg [.v (.slice none 0 0), .v (.slice none 0 0), .v (.slice none 0 0), .v (.int .i64 0)])) R R R R R R R) (.cons (.tmp 6) .nil))) (vwK R R .nil (.cons R R .nil)) ⟨_, R, (.tupDL (.cons .nilA (.cons (.aggDL (.cons .nilA (.cons .nilA (.cons .nilA (.cons (.d _) .nil))))) (.cons (.d _) .nil))))⟩)
  intro c17
  replace h := ifP c17 h
  refine eN (sw_condF R (sw_skip (then_norm (sw_seq (sw_dr (by kernel_rfl) (r_movW R R R (r_ldD (y := WiState.d a3) tb R R R R R R R R R (r_asgW R R R (r_stE _ ([some ⟨4, [.d (WiPlan.d t)]⟩, some ⟨4, [.d (WiState.d a3)]⟩, some ⟨4, [.d (WiState.d a3)]⟩, some (lWiUsed lv3)]) tb R R R R R R R R R R R R (r_asgD R R R (ev_endD (by kernel_rfl) (then_norm (sw_ret ?_)))))))))))))
  obtain rfl := sI h
  exact (fin_S (t := .tup [.row 0 4 0 (lv3).length, .d (WiState.d a3), .d (.v (.int .i64 0))]) (L := [some (lWiUsed lv3)]) (κ := [3]) R (.cons (.tmp 4) (.cons (rcell tb (u := .d (WiState.d a3)) R R R R R R R) (.cons (.tmp 6) .nil))) (vwK R R (.row R .nil) (.cons R R .nil)) ⟨_, R, (.tupL (.cons (.row R R) (.cons (.d _) (.cons (.d _) .nil))))⟩)
 intro c13
 replace h := ifN (Int.not_lt.2 c13) h
 refine r_movD R R R (r_skip R R R (r_skip R R R (r_pickF R R R R (eN (sw_condF R (sw_exit (then_exit (then_exit ?_))))))))
 subst hK3
 refine block_exit (then_norm (sw_seq (qG (r_movD R R R ?_))))
 refine r_neq R R R R ?_ ?_
 ·intro c17
  replace h := ifN c17 h
  refine eN (sw_condT R (qG (r_build (v := .d (.agg [.v (.slice none 0 0), .v (.slice none 0 0), .v (.slice none 0 0), .v (.int .i64 0)])) tb R R (List.cons_ne_nil _ _) R R R R R R (r_movD R R R (r_asgD R R R (r_stE _ ([some ⟨4, [.d (WiPlan.d t)]⟩, some ⟨4, [.d (.agg [.v (.slice none 0 0), .v (.slice none 0 0), .v (.slice none 0 0), .v (.int .i64 0)])]⟩, some ⟨4, [.d (WiState.d a3)]⟩, some (lWiUsed lv3)]) tb R R R R R R R R R R R R (r_asgD R R R (eN (sw_ret (then_ret ?_))))))))))
  obtain rfl := sI h
  exact (fin_S (t := .d (.tup [.v (.slice none 0 0), .agg [.v (.slice none 0 0), .v (.slice none 0 0), .v (.slice none 0 0), .v (.int .i64 0)], .v (.int .i64 x5)])) (L := []) (κ := []) R (.cons (.tmp 4) (.cons (rcell tb (u := .d (.agg [.v (.slice none 0 0), .v (.slice none 0 0), .v (.slice none 0 0), .v (.int .i64 0)])) R R R R R R R) (.cons (.tmp 6) .nil))) (vwK R R .nil (.cons R R .nil)) ⟨_, R, (.tupDL (.cons .nilA (.cons (.aggDL (.cons .nilA (.cons .nilA (.cons .nilA (.cons (.d _) .nil))))) (.cons (.d _) .nil))))⟩)
 intro c17
 replace h := ifP c17 h
 refine eN (sw_condF R (sw_skip (then_norm (sw_seq (sw_dr (by kernel_rfl) (r_movW R R R (r_ldD (y := WiState.d a3) tb R R R R R R R R R (r_asgW R R R (r_stE _ ([some ⟨4, [.d (WiPlan.d t)]⟩, some ⟨4, [.d (WiState.d a3)]⟩, some ⟨4, [.d (WiState.d a3)]⟩, some (lWiUsed lv3)]) tb R R R R R R R R R R R R (r_asgD R R R (ev_endD (by kernel_rfl) (then_norm (sw_ret ?_)))))))))))))
 obtain rfl := sI h
 exact (fin_S (t := .tup [.row 0 4 0 (lv3).length, .d (WiState.d a3), .d (.v (.int .i64 0))]) (L := [some (lWiUsed lv3)]) (κ := [3]) R (.cons (.tmp 4) (.cons (rcell tb (u := .d (WiState.d a3)) R R R R R R R) (.cons (.tmp 6) .nil))) (vwK R R (.row R .nil) (.cons R R .nil)) ⟨_, R, (.tupL (.cons (.row R R) (.cons (.d _) (.cons (.d _) .nil))))⟩)
def r_Audit_L1 (F : Nat) (uses : (List WiUse)) (rv : ((List WiUse) × WiState × Int)) (K : Int → Option (Int × Int)) : Nat → Int → Option (Int × Int)
 | 0, _ => none
 | n + 1, i => if i < (rv.1.length : Int) then (if (rv.1.length : Int) ≤ i then (some (i, 0)) else (if (uses.length : Int) ≤ i then (some (i, 0)) else (Option.bind (ixO rv.1 i) fun e => Option.bind (ixO uses i) fun e2 => if (!(WiUse.beq e e2)) = true then (some (i, 0)) else (r_Audit_L1 F uses rv K n (W (i + 1)))))) else (if i < (uses.length : Int) then (if (rv.1.length : Int) ≤ i then (some (i, 0)) else (if (uses.length : Int) ≤ i then (some (i, 0)) else (Option.bind (ixO rv.1 i) fun e3 => Option.bind (ixO uses i) fun e4 => if (!(WiUse.beq e3 e4)) = true then (some (i, 0)) else (r_Audit_L1 F uses rv K n (W (i + 1)))))) else (K i))
def r_Audit (F : Nat) (p : WiPlan) (nights : (List WiNight)) (uses : (List WiUse)) : Option (Int × Int) := Option.bind (r_Season F p nights) fun rv => if rv.2.2 = 0 then (r_Audit_L1 F uses rv (fun (i : Int) => some ((-1), 0)) F 0) else (some (0, rv.2.2))
theorem r_Audit_pc {F : Nat} {p : WiPlan} {nights : (List WiNight)} {uses : (List WiUse)} {r : (Int × Int)} (h : r_Audit F p nights uses = some r) : PC Tryz.prog 9 [WiPlan.d p, .arr 3 ((nights).map WiNight.d), .arr 4 ((uses).map WiUse.d)] (.tup [.v (.int .i64 r.1), .v (.int .i64 r.2)]) := by
 rw [r_Audit] at h
 refine SC.of_sw Tryz.func9 R R R ?_
 dsimp only [argS, List.map]
 refine qG (r_box R R R R R R R (r_asgD R R R (r_asgD R R R (eN (qG (r_ldD (y := WiPlan.d p) tb R R R R R R R R R (r_movD R R R ?_)))))))
 obtain ⟨rv, hrv, h⟩ := bnd h
 refine r_call (r_Season_pc hrv) (.of (by kernel_rfl)) R R R R (r_movD R R R (r_extD (t := .arr 4 ((rv.1).map WiUse.d)) R R R R (r_extD (t := WiState.d rv.2.1) R R R R (r_extD (t := .v (.int .i64 rv.2.2)) R R R R (r_alloc tb R R R R R (r_asgD R R R (r_stE _ ([some ⟨4, [.d (WiPlan.d p)]⟩, some ⟨4, [.d (WiState.d rv.2.1)]⟩]) tb R R R R R R R R R R R R (r_asgD R R R (eN (sw_seq (qG (r_movD R R R ?_))))))))))))
 refine r_neq R R R R ?_ ?_
 ·intro c
  replace h := ifN c h
  refine eN (sw_condT R (qG (r_movD R R R (r_asgD R R R (r_asgD R R R (eN (sw_ret (then_ret ?_))))))))
  obtain rfl := sI h
  exact fin_0 (t := .d (.tup [.v (.int .i64 0), .v (.int .i64 rv.2.2)])) R R R (.cons (.tmp 6) (.cons (.tmp 7) .nil))
 intro c
 replace h := ifP c h
 refine eN (sw_condF R (sw_skip (then_norm (sw_seq (qG (r_asgD R R R (eN (sw_block ?_))))))))
 obtain ⟨K2, hK2, h⟩ : ∃ K, K = _ ∧ r_Audit_L1 F uses rv K F 0 = some r := ⟨_, rfl, h⟩
 refine sw_loop (st0 := ⟨[(2, .d (.arr 4 ((uses).map WiUse.d))), (6, .d (.v (.int .i64 0))), (7, .d (.v (.int .i64 0))), (8, .d (.arr 4 ((rv.1).map WiUse.d))), (11, .d (.v (.int .i64 0)))], []⟩) (κ := []) (fun m st => ∃ (i : Int), r_Audit_L1 F uses rv K2 m i = some r ∧ st = ⟨[(2, .d (.arr 4 ((uses).map WiUse.d))), (6, .d (.v (.int .i64 0))), (7, .d (.v (.int .i64 0))), (8, .d (.arr 4 ((rv.1).map WiUse.d))), (11, .d (.v (.int .i64 i)))], []⟩) (vwK R R .nil (.cons R R (.cons R R (.cons R R (.cons R R (.cons R R .nil)))))) ⟨0, h, R⟩ ?_
 clear h
 rintro m2 st ⟨i, h, rfl⟩
 cases m2 with
 | zero => cases (show (none : Option (Int × Int)) = some r from h)
 | succ m2 =>
 rw [r_Audit_L1] at h
 refine sw_seq (qG (r_movD R R R (r_movD R R R (r_lenM tb R R R R R ?_))))
 refine r_lss R R R R ?_ ?_
 ·intro c2
  replace h := ifP c2 h
  refine r_movD R R R (r_skip R R R (r_skip R R R (r_skip R R R (r_skip R R R (r_pickT R R R R (eN (sw_condT R (sw_skip (then_norm (sw_seq (sw_block (sw_seq (sw_dr (by kernel_rfl) (r_movD R R R (r_movD R R R (r_lenM tb R R R R R ?_))))))))))))))))
  refine r_geq R R R R ?_ ?_
  ·intro c3
   replace h := ifP c3 h
   refine r_movD R R R (r_skip R R R (r_skip R R R (r_skip R R R (r_skip R R R (r_pickT R R R R (r_movD R R R (r_skip R R R (r_skip R R R (r_skip R R R (r_skip R R R (r_skip R R R (r_skip R R R (r_skip R R R (r_skip R R R (r_skip R R R (r_pickT R R R R (ev_endD (by kernel_rfl) (then_norm (sw_condT R (qG (r_movD R R R (r_asgD R R R (r_asgD R R R (eN (sw_ret (block_ret (then_ret (then_ret (block_ret (then_ret ?_))))))))))))))))))))))))))))))
   obtain rfl := sI h
   exact fin_0 (t := .d (.tup [.v (.int .i64 i), .v (.int .i64 0)])) R R R (.cons (.tmp 6) (.cons (.tmp 7) .nil))
  intro c3
  replace h := ifN (Int.not_le.2 c3) h
  refine r_movD R R R (r_movD R R R (r_movD R R R (r_lenM tb R R R R R ?_)))
  refine r_geq R R R R ?_ ?_
  ·intro c4
   replace h := ifP c4 h
   refine r_pickF R R R R (r_movD R R R (r_skip R R R (r_skip R R R (r_skip R R R (r_skip R R R (r_skip R R R (r_skip R R R (r_skip R R R (r_skip R R R (r_skip R R R (r_pickT R R R R (ev_endD (by kernel_rfl) (then_norm (sw_condT R (qG (r_movD R R R (r_asgD R R R (r_asgD R R R (eN (sw_ret (block_ret (then_ret (then_ret (block_ret (then_ret ?_)))))))))))))))))))))))))
   obtain rfl := sI h
   exact fin_0 (t := .d (.tup [.v (.int .i64 i), .v (.int .i64 0)])) R R R (.cons (.tmp 6) (.cons (.tmp 7) .nil))
  intro c4
  replace h := ifN (Int.not_le.2 c4) h
  refine r_pickF R R R R (r_movD R R R (r_movD R R R (r_movD R R R ?_)))
  obtain ⟨e, ie, h⟩ := bnd h
  refine r_ixE tb R R R R R R (ix0 ie) (ix1m ie) R R (r_ldE (y := WiUse.d e) tb R R (ix2 (g := WiUse.d) ie) R R R R (r_movD R R R (r_movD R R R ?_)))
  obtain ⟨e2, ie2, h⟩ := bnd h
  refine r_ixE tb R R R R R R (ix0 ie2) (ix1m ie2) R R (r_ldE (y := WiUse.d e2) tb R R (ix2 (g := WiUse.d) ie2) R R R R ?_)
  refine r_neqA (p := [.int .i64 e.window, .int .i64 e.team, .int .i64 e.at_, .int .i64 e.by_]) (q := [.int .i64 e2.window, .int .i64 e2.team, .int .i64 e2.at_, .int .i64 e2.by_]) R R (fun o1 o2 w => ne48 e e2 o1 o2 w) R R ?_
  with_reducible apply ev_lit
  ·intro c5
   replace h := ifP c5 h
   refine r_pickF R R R R (ev_endD (by kernel_rfl) (then_norm (sw_condT R (qG (r_movD R R R (r_asgD R R R (r_asgD R R R (eN (sw_ret (block_ret (then_ret (then_ret (block_ret (then_ret ?_))))))))))))))
   obtain rfl := sI h
   exact fin_0 (t := .d (.tup [.v (.int .i64 i), .v (.int .i64 0)])) R R R (.cons (.tmp 6) (.cons (.tmp 7) .nil))
  intro c5
  replace h := ifF c5 h
  refine r_pickF R R R R (ev_endD (by kernel_rfl) (then_norm (sw_condF R (sw_skip (block_norm (then_norm (sw_rg (r_movD R R R (r_add R R R R (r_asgD R R R (eN ?_)))))))))))
  exact ⟨m2, ⟨[(2, .d (.arr 4 ((uses).map WiUse.d))), (6, .d (.v (.int .i64 0))), (7, .d (.v (.int .i64 0))), (8, .d (.arr 4 ((rv.1).map WiUse.d))), (11, .d (.v (.int .i64 (W (i + 1)))))], []⟩, [], Nat.lt_succ_self _, (vwK R R .nil (.cons R R (.cons R R (.cons R R (.cons R R (.cons R R .nil)))))), (W (i + 1)), h, R⟩
 intro c2
 replace h := ifN (Int.not_lt.2 c2) h
 refine r_movD R R R (r_movD R R R (r_movD R R R (r_lenM tb R R R R R ?_)))
 refine r_lss R R R R ?_ ?_
 ·intro c6
  replace h := ifP c6 h
  refine r_pickF R R R R (eN (sw_condT R (sw_skip (then_norm (sw_seq (sw_block (sw_seq (sw_dr (by kernel_rfl) (r_movD R R R (r_movD R R R (r_lenM tb R R R R R ?_)))))))))))
  refine r_geq R R R R ?_ ?_
  ·intro c7
   replace h := ifP c7 h
   refine r_movD R R R (r_skip R R R (r_skip R R R (r_skip R R R (r_skip R R R (r_pickT R R R R (r_movD R R R (r_skip R R R (r_skip R R R (r_skip R R R (r_skip R R R (r_skip R R R (r_skip R R R (r_skip R R R (r_skip R R R (r_skip R R R (r_pickT R R R R (ev_endD (by kernel_rfl) (then_norm (sw_condT R (qG (r_movD R R R (r_asgD R R R (r_asgD R R R (eN (sw_ret (block_ret (then_ret (then_ret (block_ret (then_ret ?_))))))))))))))))))))))))))))))
   obtain rfl := sI h
   exact fin_0 (t := .d (.tup [.v (.int .i64 i), .v (.int .i64 0)])) R R R (.cons (.tmp 6) (.cons (.tmp 7) .nil))
  intro c7
  replace h := ifN (Int.not_le.2 c7) h
  refine r_movD R R R (r_movD R R R (r_movD R R R (r_lenM tb R R R R R ?_)))
  refine r_geq R R R R ?_ ?_
  ·intro c8
   replace h := ifP c8 h
   refine r_pickF R R R R (r_movD R R R (r_skip R R R (r_skip R R R (r_skip R R R (r_skip R R R (r_skip R R R (r_skip R R R (r_skip R R R (r_skip R R R (r_skip R R R (r_pickT R R R R (ev_endD (by kernel_rfl) (then_norm (sw_condT R (qG (r_movD R R R (r_asgD R R R (r_asgD R R R (eN (sw_ret (block_ret (then_ret (then_ret (block_ret (then_ret ?_)))))))))))))))))))))))))
   obtain rfl := sI h
   exact fin_0 (t := .d (.tup [.v (.int .i64 i), .v (.int .i64 0)])) R R R (.cons (.tmp 6) (.cons (.tmp 7) .nil))
  intro c8
  replace h := ifN (Int.not_le.2 c8) h
  refine r_pickF R R R R (r_movD R R R (r_movD R R R (r_movD R R R ?_)))
  obtain ⟨e3, ie3, h⟩ := bnd h
  refine r_ixE tb R R R R R R (ix0 ie3) (ix1m ie3) R R (r_ldE (y := WiUse.d e3) tb R R (ix2 (g := WiUse.d) ie3) R R R R (r_movD R R R (r_movD R R R ?_)))
  obtain ⟨e4, ie4, h⟩ := bnd h
  refine r_ixE tb R R R R R R (ix0 ie4) (ix1m ie4) R R (r_ldE (y := WiUse.d e4) tb R R (ix2 (g := WiUse.d) ie4) R R R R ?_)
  refine r_neqA (p := [.int .i64 e3.window, .int .i64 e3.team, .int .i64 e3.at_, .int .i64 e3.by_]) (q := [.int .i64 e4.window, .int .i64 e4.team, .int .i64 e4.at_, .int .i64 e4.by_]) R R (fun o1 o2 w => ne48 e3 e4 o1 o2 w) R R ?_
  with_reducible apply ev_lit
  ·intro c9
   replace h := ifP c9 h
   refine r_pickF R R R R (ev_endD (by kernel_rfl) (then_norm (sw_condT R (qG (r_movD R R R (r_asgD R R R (r_asgD R R R (eN (sw_ret (block_ret (then_ret (then_ret (block_ret (then_ret ?_))))))))))))))
   obtain rfl := sI h
   exact fin_0 (t := .d (.tup [.v (.int .i64 i), .v (.int .i64 0)])) R R R (.cons (.tmp 6) (.cons (.tmp 7) .nil))
  intro c9
  replace h := ifF c9 h
  refine r_pickF R R R R (ev_endD (by kernel_rfl) (then_norm (sw_condF R (sw_skip (block_norm (then_norm (sw_rg (r_movD R R R (r_add R R R R (r_asgD R R R (eN ?_)))))))))))
  exact ⟨m2, ⟨[(2, .d (.arr 4 ((uses).map WiUse.d))), (6, .d (.v (.int .i64 0))), (7, .d (.v (.int .i64 0))), (8, .d (.arr 4 ((rv.1).map WiUse.d))), (11, .d (.v (.int .i64 (W (i + 1)))))], []⟩, [], Nat.lt_succ_self _, (vwK R R .nil (.cons R R (.cons R R (.cons R R (.cons R R (.cons R R .nil)))))), (W (i + 1)), h, R⟩
 intro c6
 replace h := ifN (Int.not_lt.2 c6) h
 refine r_pickF R R R R (eN (sw_condF R (sw_exit (then_exit (then_exit ?_)))))
 subst hK2
 refine block_exit (then_norm (qG (r_asgD R R R (r_asgD R R R (eN (sw_ret ?_))))))
 obtain rfl := sI h
 exact fin_0 (t := .d (.tup [.v (.int .i64 (-1)), .v (.int .i64 0)])) R R R (.cons (.tmp 6) (.cons (.tmp 7) .nil))
def l_Plan (F : Nat)  : Option WiPlan := some (WiPlan.mk [(WiTeam.mk (ByteArray.mk #[110, 111, 114, 116, 104]) 5 2 10 [1] 100 2 30 []), (WiTeam.mk (ByteArray.mk #[115, 111, 117, 116, 104]) 5 3 12 [] 200 0 60 []), (WiTeam.mk (ByteArray.mk #[103, 117, 101, 115, 116]) 1 1 0 [] 300 0 20 [(Span.mk 4 5)])] [(WiWindow.mk 1 100 400), (WiWindow.mk 2 100 200), (WiWindow.mk 4 0 60)] 5 3)
theorem l_Plan_pc {F : Nat}  {r : WiPlan} (h : l_Plan F  = some r) : PC Tryz.prog 16 [] (WiPlan.d r) := by
 rw [l_Plan] at h
 refine PC.of_lend ?_
 refine SC.of_sw Tryz.func16 R R R ?_
 dsimp only [argS, List.map]
 refine qG (r_alloc tb R R R R R (eN (qG (r_bslice tb R R R R R R R R R R R R R (r_build (v := .agg [.d (.v (.string (ByteArray.mk #[110, 111, 114, 116, 104]))), .d (.v (.int .i64 5)), .d (.v (.int .i64 2)), .d (.v (.int .i64 10)), .row 1 1 0 ([1]).length, .d (.v (.int .i64 100)), .d (.v (.int .i64 2)), .d (.v (.int .i64 30)), .d (.v (.slice none 0 0))]) tb R R (List.cons_ne_nil _ _) R R R R R R ?_)))))
 refine r_build (v := .d (.agg [.v (.string (ByteArray.mk #[115, 111, 117, 116, 104])), .v (.int .i64 5), .v (.int .i64 3), .v (.int .i64 12), .v (.slice none 0 0), .v (.int .i64 200), .v (.int .i64 0), .v (.int .i64 60), .v (.slice none 0 0)])) tb R R (List.cons_ne_nil _ _) R R R R R R (r_build (v := .d (.agg [.v (.int .i64 4), .v (.int .i64 5)])) tb R R (List.cons_ne_nil _ _) R R R R R R (r_bslice tb R R R R R R R R R R R R R ?_))
 refine r_build (v := .agg [.d (.v (.string (ByteArray.mk #[103, 117, 101, 115, 116]))), .d (.v (.int .i64 1)), .d (.v (.int .i64 1)), .d (.v (.int .i64 0)), .d (.v (.slice none 0 0)), .d (.v (.int .i64 300)), .d (.v (.int .i64 0)), .d (.v (.int .i64 20)), .row 2 2 0 ([(Span.mk 4 5)]).length]) tb R R (List.cons_ne_nil _ _) R R R R R R (r_bslice tb R R R R R R R R R R R R R (r_build (v := .d (.agg [.v (.int .i64 1), .v (.int .i64 100), .v (.int .i64 400)])) tb R R (List.cons_ne_nil _ _) R R R R R R ?_))
 refine r_build (v := .d (.agg [.v (.int .i64 2), .v (.int .i64 100), .v (.int .i64 200)])) tb R R (List.cons_ne_nil _ _) R R R R R R (r_build (v := .d (.agg [.v (.int .i64 4), .v (.int .i64 0), .v (.int .i64 60)])) tb R R (List.cons_ne_nil _ _) R R R R R R (r_bslice tb R R R R R R R R R R R R R ?_))
 refine r_build (v := .agg [.row 3 9 0 3, .row 4 3 0 ([(WiWindow.mk 1 100 400), (WiWindow.mk 2 100 200), (WiWindow.mk 4 0 60)]).length, .d (.v (.int .i64 5)), .d (.v (.int .i64 3))]) tb R R (List.cons_ne_nil _ _) R R R R R R ?_
 refine r_stE _ ([some ⟨4, [.agg [.row 3 9 0 3, .row 4 3 0 ([(WiWindow.mk 1 100 400), (WiWindow.mk 2 100 200), (WiWindow.mk 4 0 60)]).length, .d (.v (.int .i64 5)), .d (.v (.int .i64 3))]]⟩, some (lvI [1]), some (lSpand [(Span.mk 4 5)]), some ⟨9, [.agg [.d (.v (.string (ByteArray.mk #[110, 111, 114, 116, 104]))), .d (.v (.int .i64 5)), .d (.v (.int .i64 2)), .d (.v (.int .i64 10)), .row 1 1 0 ([1]).length, .d (.v (.int .i64 100)), .d (.v (.int .i64 2)), .d (.v (.int .i64 30)), .d (.v (.slice none 0 0))], .d (.agg [.v (.string (ByteArray.mk #[115, 111, 117, 116, 104])), .v (.int .i64 5), .v (.int .i64 3), .v (.int .i64 12), .v (.slice none 0 0), .v (.int .i64 200), .v (.int .i64 0), .v (.int .i64 60), .v (.slice none 0 0)]), .agg [.d (.v (.string (ByteArray.mk #[103, 117, 101, 115, 116]))), .d (.v (.int .i64 1)), .d (.v (.int .i64 1)), .d (.v (.int .i64 0)), .d (.v (.slice none 0 0)), .d (.v (.int .i64 300)), .d (.v (.int .i64 0)), .d (.v (.int .i64 20)), .row 2 2 0 ([(Span.mk 4 5)]).length]]⟩, some (lWiWindowd [(WiWindow.mk 1 100 400), (WiWindow.mk 2 100 200), (WiWindow.mk 4 0 60)])]) tb R R R R R R R R R R R R ?_
 refine eN (sw_ret ?_)
 obtain rfl := sI h
 exact (fin_S (t := .agg [.row 0 9 0 3, .row 3 3 0 ([(WiWindow.mk 1 100 400), (WiWindow.mk 2 100 200), (WiWindow.mk 4 0 60)]).length, .d (.v (.int .i64 5)), .d (.v (.int .i64 3))]) (L := [some ⟨9, [.agg [.d (.v (.string (ByteArray.mk #[110, 111, 114, 116, 104]))), .d (.v (.int .i64 5)), .d (.v (.int .i64 2)), .d (.v (.int .i64 10)), .row 1 1 0 ([1]).length, .d (.v (.int .i64 100)), .d (.v (.int .i64 2)), .d (.v (.int .i64 30)), .d (.v (.slice none 0 0))], .d (.agg [.v (.string (ByteArray.mk #[115, 111, 117, 116, 104])), .v (.int .i64 5), .v (.int .i64 3), .v (.int .i64 12), .v (.slice none 0 0), .v (.int .i64 200), .v (.int .i64 0), .v (.int .i64 60), .v (.slice none 0 0)]), .agg [.d (.v (.string (ByteArray.mk #[103, 117, 101, 115, 116]))), .d (.v (.int .i64 1)), .d (.v (.int .i64 1)), .d (.v (.int .i64 0)), .d (.v (.slice none 0 0)), .d (.v (.int .i64 300)), .d (.v (.int .i64 0)), .d (.v (.int .i64 20)), .row 2 2 0 ([(Span.mk 4 5)]).length]]⟩, some (lvI [1]), some (lSpand [(Span.mk 4 5)]), some (lWiWindowd [(WiWindow.mk 1 100 400), (WiWindow.mk 2 100 200), (WiWindow.mk 4 0 60)])]) (κ := [3, 1, 2, 4]) R (.cons (rcell tb (u := .agg [.row 3 9 0 3, .row 4 3 0 ([(WiWindow.mk 1 100 400), (WiWindow.mk 2 100 200), (WiWindow.mk 4 0 60)]).length, .d (.v (.int .i64 5)), .d (.v (.int .i64 3))]) R R R R R R R) .nil) (vwK R R (.cons R R (.row R (.row R (.row R .nil)))) (.cons R R .nil)) ⟨_, R, (.aggL (.cons (.rowL R R (.cons (.aggL (.cons (.d _) (.cons (.d _) (.cons (.d _) (.cons (.d _) (.cons (.row R R) (.cons (.d _) (.cons (.d _) (.cons (.d _) (.cons .nilA .nil)))))))))) (.cons (.aggDL (.cons (.d _) (.cons (.d _) (.cons (.d _) (.cons (.d _) (.cons .nilA (.cons (.d _) (.cons (.d _) (.cons (.d _) (.cons .nilA .nil)))))))))) (.cons (.aggL (.cons (.d _) (.cons (.d _) (.cons (.d _) (.cons (.d _) (.cons .nilA (.cons (.d _) (.cons (.d _) (.cons (.d _) (.cons (.row R R) .nil)))))))))) .nil)))) (.cons (.row R R) (.cons (.d _) (.cons (.d _) .nil)))))⟩)
def l_A (F : Nat)  : Option WiSky := some (WiSky.mk [1] 80)
theorem l_A_scr {F : Nat}  {r : WiSky} (h : l_A F  = some r) : SCR Tryz.prog 18 (List.map T.d []) [] (.agg [.row 0 1 0 (r.kinds).length, .d (.v (.int .i64 r.wind))]) (List.map some [(lvI r.kinds)]) := by
 rw [l_A] at h
 refine SC.of_sw Tryz.func18 R R R ?_
 dsimp only [argS, List.map]
 refine qG (r_alloc tb R R R R R (eN (qG (r_bslice tb R R R R R R R R R R R R R (r_build (v := .agg [.row 1 1 0 ([1]).length, .d (.v (.int .i64 80))]) tb R R (List.cons_ne_nil _ _) R R R R R R (r_stE _ ([some ⟨2, [.agg [.row 1 1 0 ([1]).length, .d (.v (.int .i64 80))]]⟩, some (lvI [1])]) tb R R R R R R R R R R R R (eN (sw_ret ?_))))))))
 obtain rfl := sI h
 exact (fin_S (t := .agg [.row 0 1 0 ([1]).length, .d (.v (.int .i64 80))]) (L := [some (lvI [1])]) (κ := [1]) R (.cons (rcell tb (u := .agg [.row 1 1 0 ([1]).length, .d (.v (.int .i64 80))]) R R R R R R R) .nil) (vwK R R (.row R .nil) (.cons R R .nil)) ⟨R, R⟩)
theorem l_A_pc {F : Nat}  {r : WiSky} (h : l_A F  = some r) : PC Tryz.prog 18 [] (WiSky.d r) := (l_A_scr h).toPC (.aggL (.cons (.row rfl rfl) (.cons (.d _) .nil)))
def l_launch (F : Nat) (atv : Int) : Option WiTurn := some (WiTurn.mk 1 atv 0)
theorem l_launch_pc {F : Nat} {atv : Int} {r : WiTurn} (h : l_launch F atv = some r) : PC Tryz.prog 20 [.v (.int .i64 atv)] (WiTurn.d r) := by
 rw [l_launch] at h
 refine SC.of_sw Tryz.func20 R R R ?_
 dsimp only [argS, List.map]
 refine qG (r_alloc tb R R R R R (eN (qG (r_movD R R R (r_build (v := .d (.agg [.v (.int .i64 1), .v (.int .i64 atv), .v (.int .i64 0)])) tb R R (List.cons_ne_nil _ _) R R R R R R (r_stE _ ([some ⟨3, [.d (.agg [.v (.int .i64 1), .v (.int .i64 atv), .v (.int .i64 0)])]⟩]) tb R R R R R R R R R R R R (eN (sw_ret ?_))))))))
 obtain rfl := sI h
 exact fin_0 (t := .d (.agg [.v (.int .i64 1), .v (.int .i64 atv), .v (.int .i64 0)])) R R R (.cons (rcell tb (u := .d (.agg [.v (.int .i64 1), .v (.int .i64 atv), .v (.int .i64 0)])) R R R R R R R) .nil)
def l_night_m (F : Nat) (lv : (List WiTurn)) : Option (WiNight × (List WiTurn)) := Option.bind (l_A F ) fun rv => some ((WiNight.mk rv.kinds rv.wind lv), lv)
theorem l_night_m_scr {F : Nat} {lv : (List WiTurn)} {r : (WiNight × (List WiTurn))} (h : l_night_m F lv = some r) : SCR Tryz.prog 19 [.row 0 3 0 (lv).length] [some (lWiTurnd lv)] (.agg [.row 1 1 0 (r.1.sky_Kinds).length, .d (.v (.int .i64 r.1.sky_Wind)), .row 0 3 0 (r.2).length]) [some (lWiTurnd r.2), some (lvI r.1.sky_Kinds)] := by
 rw [l_night_m] at h
 refine SC.of_sw Tryz.func19 R R R ?_
 dsimp only [argS, List.map]
 refine qG (r_alloc tb R R R R R (eN (qG ?_)))
 obtain ⟨rv, hrv, h⟩ := bnd h
 refine r_callN (t' := .agg [.row 2 1 0 (rv.kinds).length, .d (.v (.int .i64 rv.wind))]) (news' := [(lvI rv.kinds)]) (l_A_scr hrv) (.of (by kernel_rfl)) R R R ((.row .nil)) R R R (r_movW R R R (r_build (v := .agg [.row 2 1 0 (rv.kinds).length, .d (.v (.int .i64 rv.wind)), .row 0 3 0 (lv).length]) tb R R (List.cons_ne_nil _ _) R R R R R R (r_stE _ ([some (lWiTurnd lv), some ⟨3, [.agg [.row 2 1 0 (rv.kinds).length, .d (.v (.int .i64 rv.wind)), .row 0 3 0 (lv).length]]⟩, some (lvI rv.kinds)]) tb R R R R R R R R R R R R ?_)))
 refine eN (sw_ret ?_)
 obtain rfl := sI h
 exact (fin_S (t := .agg [.row 1 1 0 (rv.kinds).length, .d (.v (.int .i64 rv.wind)), .row 0 3 0 (lv).length]) (L := [some (lWiTurnd lv), some (lvI rv.kinds)]) (κ := [0, 2]) R (.cons (rcell tb (u := .agg [.row 2 1 0 (rv.kinds).length, .d (.v (.int .i64 rv.wind)), .row 0 3 0 (lv).length]) R R R R R R R) .nil) (vwK R R (.row R (.row R .nil)) (.cons R R .nil)) ⟨R, R⟩)
def l_Awake (F : Nat)  : Option Bool := Option.bind (l_Plan F ) fun rv => Option.bind (window_Start F rv) fun rv2 => Option.bind (l_Plan F ) fun rv3 => Option.bind (l_A F ) fun rv4 => Option.bind (window_Rights F rv3 rv2.1 (WiSky.mk rv4.kinds rv4.wind) 100) fun rv5 => Option.bind (l_Plan F ) fun rv6 => Option.bind (l_launch F 160) fun rv7 => Option.bind (l_night_m F [rv7]) fun rv8 => Option.bind (l_launch F 130) fun rv9 => Option.bind (l_night_m F [rv9]) fun rv10 => Option.bind (l_launch F 60) fun rv11 => Option.bind (l_night_m F [rv11]) fun rv12 => Option.bind (window_Season F rv6 [(WiNight.mk rv8.1.sky_Kinds rv8.1.sky_Wind rv8.2), (WiNight.mk rv10.1.sky_Kinds rv10.1.sky_Wind rv10.2), (WiNight.mk rv12.1.sky_Kinds rv12.1.sky_Wind rv12.2)]) fun rv13 => Option.bind (l_Plan F ) fun rv14 => Option.bind (l_launch F 159) fun rv15 => Option.bind (l_night_m F [rv15]) fun rv16 => Option.bind (window_Play F rv14 rv2.1 (WiNight.mk rv16.1.sky_Kinds rv16.1.sky_Wind rv16.2)) fun rv17 => if rv2.2 = 0 then (if rv5.2 = 0 then (if rv13.2.2 = 0 then (if rv17.2.2 = 7 then (Option.bind (r_Ints F rv5.1 [1, 0, 2]) fun rv18 => if rv18 = true then (Option.bind (r_SameUses F rv13.1 [(WiUse.mk 0 1 160 (-1)), (WiUse.mk 1 0 130 (-1)), (WiUse.mk 2 1 60 (-1))]) fun rv19 => some rv19) else (some false)) else (some false)) else (some false)) else (some false)) else (some false)
theorem l_Awake_pc {F : Nat}  {r : Bool} (h : l_Awake F  = some r) : PC Tryz.prog 10 [] (.v (.bool r)) := by
 rw [l_Awake] at h
 refine SC.of_sw Tryz.func10 R R R ?_
 dsimp only [argS, List.map]
 refine qG (r_asgD R R R (eN (qG ?_)))
 obtain ⟨rv, hrv, h⟩ := bnd h
 refine r_call (l_Plan_pc hrv) (.of (by kernel_rfl)) R R R R ?_
 obtain ⟨rv2, hrv2, h⟩ := bnd h
 refine r_callN (t' := .tup [WiState_T1 rv2.1 0 1 2, .d (.v (.int .i64 rv2.2))]) (news' := [(lvI rv2.1.used), (lvI rv2.1.credit), (lvI rv2.1.last)]) (window_Start_scr hrv2) (.of (by kernel_rfl)) R R R ((.row (.row (.row .nil)))) R R R (r_movT (.tup [WiState_T1 rv2.1 0 1 2, .d (.v (.int .i64 rv2.2))]) R R R (r_ext (t := WiState_T1 rv2.1 0 1 2) R R R R (r_ext (t := .d (.v (.int .i64 rv2.2))) R R R R (r_alloc tb R R R R R ?_))))
 refine r_stE _ ([some (lvI rv2.1.used), some (lvI rv2.1.credit), some (lvI rv2.1.last), some ⟨4, [WiState_T1 rv2.1 0 1 2]⟩]) tb R R R R R R R R R R R R (r_asgD R R R (eN (sw_seq (sw_dr (by kernel_rfl) ?_))))
 obtain ⟨rv3, hrv3, h⟩ := bnd h
 refine r_call (l_Plan_pc hrv3) (.of (by kernel_rfl)) R R R R (r_ldG tb R R R R R R R R R ?_)
 obtain ⟨rv4, hrv4, h⟩ := bnd h
 refine r_callN (t' := .agg [.row 4 1 0 (rv4.kinds).length, .d (.v (.int .i64 rv4.wind))]) (news' := [(lvI rv4.kinds)]) (l_A_scr hrv4) (.of (by kernel_rfl)) R R R ((.row .nil)) R R R ?_
 obtain ⟨rv5, hrv5, h⟩ := bnd h
 refine r_callLN (t' := .tup [.row 5 1 0 (rv5.1).length, .d (.v (.int .i64 rv5.2))]) (news' := [(lvI rv5.1)]) (window_Rights_scr hrv5) R ((.row (fun _ => rfl) .nil)) (.of (by kernel_rfl)) R R ((.cons (.d _) (.cons (.aggL (.cons (.row R R) (.cons (.row R R) (.cons (.row R R) (.cons (.d _) .nil))))) (.cons (.aggL (.cons (.row R R) (.cons (.d _) .nil))) (.cons (.d _) .nil))))) R ((.row .nil)) R R R ?_
 refine r_movT (.tup [.row 5 1 0 (rv5.1).length, .d (.v (.int .i64 rv5.2))]) R R R (r_ext (t := .row 5 1 0 (rv5.1).length) R R R R (r_ext (t := .d (.v (.int .i64 rv5.2))) R R R R (r_asgW R R R (r_asgD R R R (ev_endD (by kernel_rfl) (then_norm (qG ?_)))))))
 obtain ⟨rv6, hrv6, h⟩ := bnd h
 refine r_call (l_Plan_pc hrv6) (.of (by kernel_rfl)) R R R R ?_
 obtain ⟨rv7, hrv7, h⟩ := bnd h
 refine r_call (l_launch_pc hrv7) (.of (by kernel_rfl)) R R R R (r_bslice tb R R R R R R R R R R R R R ?_)
 obtain ⟨rv8, hrv8, h⟩ := bnd h
 refine r_callO (t' := .agg [.row 7 1 0 (rv8.1.sky_Kinds).length, .d (.v (.int .i64 rv8.1.sky_Wind)), .row 6 3 0 (rv8.2).length]) (ls := [some (lWiTurnd rv8.2)]) (news := [(lvI rv8.1.sky_Kinds)]) ([6]) ([some (lvI rv2.1.used), some (lvI rv2.1.credit), some (lvI rv2.1.last), some ⟨4, [WiState_T1 rv2.1 0 1 2]⟩, some (lvI rv4.kinds), some (lvI rv5.1), some (lWiTurnd rv8.2), some (lvI rv8.1.sky_Kinds)]) (l_night_m_scr hrv8) (.of (by kernel_rfl)) R (.inl ⟨R, R, R⟩) R R R R ((.row R .nil)) R R R ((.row .nil)) ((.row .nil)) R R R R ?_
 obtain ⟨rv9, hrv9, h⟩ := bnd h
 refine r_call (l_launch_pc hrv9) (.of (by kernel_rfl)) R R R R (r_bslice tb R R R R R R R R R R R R R ?_)
 obtain ⟨rv10, hrv10, h⟩ := bnd h
 refine r_callO (t' := .agg [.row 9 1 0 (rv10.1.sky_Kinds).length, .d (.v (.int .i64 rv10.1.sky_Wind)), .row 8 3 0 (rv10.2).length]) (ls := [some (lWiTurnd rv10.2)]) (news := [(lvI rv10.1.sky_Kinds)]) ([8]) ([some (lvI rv2.1.used), some (lvI rv2.1.credit), some (lvI rv2.1.last), some ⟨4, [WiState_T1 rv2.1 0 1 2]⟩, some (lvI rv4.kinds), some (lvI rv5.1), some (lWiTurnd rv8.2), some (lvI rv8.1.sky_Kinds), some (lWiTurnd rv10.2), some (lvI rv10.1.sky_Kinds)]) (l_night_m_scr hrv10) (.of (by kernel_rfl)) R (.inl ⟨R, R, R⟩) R R R R ((.row R .nil)) R R R ((.row .nil)) ((.row .nil)) R R R R ?_
 obtain ⟨rv11, hrv11, h⟩ := bnd h
 refine r_call (l_launch_pc hrv11) (.of (by kernel_rfl)) R R R R (r_bslice tb R R R R R R R R R R R R R ?_)
 obtain ⟨rv12, hrv12, h⟩ := bnd h
 refine r_callO (t' := .agg [.row 11 1 0 (rv12.1.sky_Kinds).length, .d (.v (.int .i64 rv12.1.sky_Wind)), .row 10 3 0 (rv12.2).length]) (ls := [some (lWiTurnd rv12.2)]) (news := [(lvI rv12.1.sky_Kinds)]) ([10]) ([some (lvI rv2.1.used), some (lvI rv2.1.credit), some (lvI rv2.1.last), some ⟨4, [WiState_T1 rv2.1 0 1 2]⟩, some (lvI rv4.kinds), some (lvI rv5.1), some (lWiTurnd rv8.2), some (lvI rv8.1.sky_Kinds), some (lWiTurnd rv10.2), some (lvI rv10.1.sky_Kinds), some (lWiTurnd rv12.2), some (lvI rv12.1.sky_Kinds)]) (l_night_m_scr hrv12) (.of (by kernel_rfl)) R (.inl ⟨R, R, R⟩) R R R R ((.row R .nil)) R R R ((.row .nil)) ((.row .nil)) R R R R ?_
 refine r_bslice tb R R R R R R R R R R R R R ?_
 obtain ⟨rv13, hrv13, h⟩ := bnd h
 refine r_callLN (t' := .tup [.row 13 4 0 (rv13.1).length, WiState_T1 rv13.2.1 14 15 16, .d (.v (.int .i64 rv13.2.2))]) (news' := [(lWiUsed rv13.1), (lvI rv13.2.1.used), (lvI rv13.2.1.credit), (lvI rv13.2.1.last)]) (window_Season_scr hrv13) R ((.row (fun _ => rfl) (.row (fun _ => rfl) (.row (fun _ => rfl) (.row (fun _ => rfl) .nil))))) (.of (by kernel_rfl)) R R ((.cons (.d _) (.cons (.rowL R R (.cons (.aggL (.cons (.row R R) (.cons (.d _) (.cons (.row R R) .nil)))) (.cons (.aggL (.cons (.row R R) (.cons (.d _) (.cons (.row R R) .nil)))) (.cons (.aggL (.cons (.row R R) (.cons (.d _) (.cons (.row R R) .nil)))) .nil)))) .nil))) R ((.row (.row (.row (.row .nil))))) R R R ?_
 refine r_movT (.tup [.row 13 4 0 (rv13.1).length, WiState_T1 rv13.2.1 14 15 16, .d (.v (.int .i64 rv13.2.2))]) R R R (r_ext (t := .row 13 4 0 (rv13.1).length) R R R R (r_ext (t := WiState_T1 rv13.2.1 14 15 16) R R R R (r_ext (t := .d (.v (.int .i64 rv13.2.2))) R R R R (r_alloc tb R R R R R (r_asgW R R R ?_)))))
 refine r_stE _ ([some (lvI rv2.1.used), some (lvI rv2.1.credit), some (lvI rv2.1.last), some ⟨4, [WiState_T1 rv2.1 0 1 2]⟩, some (lvI rv4.kinds), some (lvI rv5.1), some (lWiTurnd rv8.2), some (lvI rv8.1.sky_Kinds), some (lWiTurnd rv10.2), some (lvI rv10.1.sky_Kinds), some (lWiTurnd rv12.2), some (lvI rv12.1.sky_Kinds), some ⟨3, [.agg [.row 7 1 0 (rv8.1.sky_Kinds).length, .d (.v (.int .i64 rv8.1.sky_Wind)), .row 6 3 0 (rv8.2).length], .agg [.row 9 1 0 (rv10.1.sky_Kinds).length, .d (.v (.int .i64 rv10.1.sky_Wind)), .row 8 3 0 (rv10.2).length], .agg [.row 11 1 0 (rv12.1.sky_Kinds).length, .d (.v (.int .i64 rv12.1.sky_Wind)), .row 10 3 0 (rv12.2).length]]⟩, some (lWiUsed rv13.1), some (lvI rv13.2.1.used), some (lvI rv13.2.1.credit), some (lvI rv13.2.1.last), some ⟨4, [WiState_T1 rv13.2.1 14 15 16]⟩]) tb R R R R R R R R R R R R ?_
 refine r_asgD R R R (eN (sw_seq (sw_dr (by kernel_rfl) ?_)))
 obtain ⟨rv14, hrv14, h⟩ := bnd h
 refine r_call (l_Plan_pc hrv14) (.of (by kernel_rfl)) R R R R (r_ldG tb R R R R R R R R R ?_)
 obtain ⟨rv15, hrv15, h⟩ := bnd h
 refine r_call (l_launch_pc hrv15) (.of (by kernel_rfl)) R R R R (r_bslice tb R R R R R R R R R R R R R ?_)
 obtain ⟨rv16, hrv16, h⟩ := bnd h
 refine r_callO (t' := .agg [.row 19 1 0 (rv16.1.sky_Kinds).length, .d (.v (.int .i64 rv16.1.sky_Wind)), .row 18 3 0 (rv16.2).length]) (ls := [some (lWiTurnd rv16.2)]) (news := [(lvI rv16.1.sky_Kinds)]) ([18]) ([some (lvI rv2.1.used), some (lvI rv2.1.credit), some (lvI rv2.1.last), some ⟨4, [WiState_T1 rv2.1 0 1 2]⟩, some (lvI rv4.kinds), some (lvI rv5.1), some (lWiTurnd rv8.2), some (lvI rv8.1.sky_Kinds), some (lWiTurnd rv10.2), some (lvI rv10.1.sky_Kinds), some (lWiTurnd rv12.2), some (lvI rv12.1.sky_Kinds), some ⟨3, [.agg [.row 7 1 0 (rv8.1.sky_Kinds).length, .d (.v (.int .i64 rv8.1.sky_Wind)), .row 6 3 0 (rv8.2).length], .agg [.row 9 1 0 (rv10.1.sky_Kinds).length, .d (.v (.int .i64 rv10.1.sky_Wind)), .row 8 3 0 (rv10.2).length], .agg [.row 11 1 0 (rv12.1.sky_Kinds).length, .d (.v (.int .i64 rv12.1.sky_Wind)), .row 10 3 0 (rv12.2).length]]⟩, some (lWiUsed rv13.1), some (lvI rv13.2.1.used), some (lvI rv13.2.1.credit), some (lvI rv13.2.1.last), some ⟨4, [WiState_T1 rv13.2.1 14 15 16]⟩, some (lWiTurnd rv16.2), some (lvI rv16.1.sky_Kinds)]) (l_night_m_scr hrv16) (.of (by kernel_rfl)) R (.inl ⟨R, R, R⟩) R R R R ((.row R .nil)) R R R ((.row .nil)) ((.row .nil)) R R R R ?_
 obtain ⟨rv17, hrv17, h⟩ := bnd h
 refine r_callLN (t' := .tup [WiState_T1 rv17.1 20 21 22, .d (WiUse.d rv17.2.1), .d (.v (.int .i64 rv17.2.2))]) (news' := [(lvI rv17.1.used), (lvI rv17.1.credit), (lvI rv17.1.last)]) (window_Play_scr hrv17) R ((.row (fun _ => rfl) (.row (fun _ => rfl) (.row (fun _ => rfl) .nil)))) (.of (by kernel_rfl)) R R ((.cons (.d _) (.cons (.aggL (.cons (.row R R) (.cons (.row R R) (.cons (.row R R) (.cons (.d _) .nil))))) (.cons (.aggL (.cons (.row R R) (.cons (.d _) (.cons (.row R R) .nil)))) .nil)))) R ((.row (.row (.row .nil)))) R R R ?_
 refine r_movT (.tup [WiState_T1 rv17.1 20 21 22, .d (WiUse.d rv17.2.1), .d (.v (.int .i64 rv17.2.2))]) R R R (r_ext (t := WiState_T1 rv17.1 20 21 22) R R R R (r_ext (t := .d (WiUse.d rv17.2.1)) R R R R (r_ext (t := .d (.v (.int .i64 rv17.2.2))) R R R R (r_alloc tb R R R R R (r_alloc tb R R R R R ?_)))))
 refine r_stE _ ([some (lvI rv2.1.used), some (lvI rv2.1.credit), some (lvI rv2.1.last), some ⟨4, [WiState_T1 rv2.1 0 1 2]⟩, some (lvI rv4.kinds), some (lvI rv5.1), some (lWiTurnd rv8.2), some (lvI rv8.1.sky_Kinds), some (lWiTurnd rv10.2), some (lvI rv10.1.sky_Kinds), some (lWiTurnd rv12.2), some (lvI rv12.1.sky_Kinds), some ⟨3, [.agg [.row 7 1 0 (rv8.1.sky_Kinds).length, .d (.v (.int .i64 rv8.1.sky_Wind)), .row 6 3 0 (rv8.2).length], .agg [.row 9 1 0 (rv10.1.sky_Kinds).length, .d (.v (.int .i64 rv10.1.sky_Wind)), .row 8 3 0 (rv10.2).length], .agg [.row 11 1 0 (rv12.1.sky_Kinds).length, .d (.v (.int .i64 rv12.1.sky_Wind)), .row 10 3 0 (rv12.2).length]]⟩, some (lWiUsed rv13.1), some (lvI rv13.2.1.used), some (lvI rv13.2.1.credit), some (lvI rv13.2.1.last), some ⟨4, [WiState_T1 rv13.2.1 14 15 16]⟩, some (lWiTurnd rv16.2), some (lvI rv16.1.sky_Kinds), some (lvI rv17.1.used), some (lvI rv17.1.credit), some (lvI rv17.1.last), some ⟨4, [WiState_T1 rv17.1 20 21 22]⟩, some ⟨4, [.d (.agg [.v (.int .i64 0), .v (.int .i64 0), .v (.int .i64 0), .v (.int .i64 0)])]⟩]) tb R R R R R R R R R R R R ?_
 refine r_stE _ ([some (lvI rv2.1.used), some (lvI rv2.1.credit), some (lvI rv2.1.last), some ⟨4, [WiState_T1 rv2.1 0 1 2]⟩, some (lvI rv4.kinds), some (lvI rv5.1), some (lWiTurnd rv8.2), some (lvI rv8.1.sky_Kinds), some (lWiTurnd rv10.2), some (lvI rv10.1.sky_Kinds), some (lWiTurnd rv12.2), some (lvI rv12.1.sky_Kinds), some ⟨3, [.agg [.row 7 1 0 (rv8.1.sky_Kinds).length, .d (.v (.int .i64 rv8.1.sky_Wind)), .row 6 3 0 (rv8.2).length], .agg [.row 9 1 0 (rv10.1.sky_Kinds).length, .d (.v (.int .i64 rv10.1.sky_Wind)), .row 8 3 0 (rv10.2).length], .agg [.row 11 1 0 (rv12.1.sky_Kinds).length, .d (.v (.int .i64 rv12.1.sky_Wind)), .row 10 3 0 (rv12.2).length]]⟩, some (lWiUsed rv13.1), some (lvI rv13.2.1.used), some (lvI rv13.2.1.credit), some (lvI rv13.2.1.last), some ⟨4, [WiState_T1 rv13.2.1 14 15 16]⟩, some (lWiTurnd rv16.2), some (lvI rv16.1.sky_Kinds), some (lvI rv17.1.used), some (lvI rv17.1.credit), some (lvI rv17.1.last), some ⟨4, [WiState_T1 rv17.1 20 21 22]⟩, some ⟨4, [.d (WiUse.d rv17.2.1)]⟩]) tb R R R R R R R R R R R R ?_
 refine r_asgD R R R (ev_endD (by kernel_rfl) (then_norm (qG (r_movD R R R ?_))))
 refine r_eql R R R R ?_ ?_
 ·intro c
  replace h := ifP c h
  refine r_movD R R R (r_movD R R R ?_)
  refine r_eql R R R R ?_ ?_
  ·intro c2
   replace h := ifP c2 h
   refine r_pickT R R R R (r_movD R R R (r_movD R R R ?_))
   refine r_eql R R R R ?_ ?_
   ·intro c3
    replace h := ifP c3 h
    refine r_pickT R R R R (r_movD R R R (r_movD R R R ?_))
    refine r_eql R R R R ?_ ?_
    ·intro c4
     replace h := ifP c4 h
     refine r_pickT R R R R (r_movD R R R (r_movW R R R (r_bslice tb R R R R R R R R R R R R R ?_)))
     obtain ⟨rv18, hrv18, h⟩ := bnd h
     refine r_callLB (r_Ints_pc hrv18) (.of (by kernel_rfl)) R R ((.cons (.row R R) (.cons (.row R R) .nil))) R R ?_ ?_
     ·intro c5
      replace h := ifP c5 h
      refine r_pickT R R R R (r_movD R R R (r_movW R R R (r_build (v := .d (.agg [.v (.int .i64 0), .v (.int .i64 1), .v (.int .i64 160), .v (.int .i64 (-1))])) tb R R (List.cons_ne_nil _ _) R R R R R R (r_build (v := .d (.agg [.v (.int .i64 1), .v (.int .i64 0), .v (.int .i64 130), .v (.int .i64 (-1))])) tb R R (List.cons_ne_nil _ _) R R R R R R (r_build (v := .d (.agg [.v (.int .i64 2), .v (.int .i64 1), .v (.int .i64 60), .v (.int .i64 (-1))])) tb R R (List.cons_ne_nil _ _) R R R R R R ?_)))))
      refine r_bslice tb R R R R R R R R R R R R R ?_
      obtain ⟨rv19, hrv19, h⟩ := bnd h
      refine r_callL (r_SameUses_pc hrv19) R (.of (by kernel_rfl)) R R ((.cons (.row R R) (.cons (.row R R) .nil))) R R (r_pickT R R R R (r_asgD R R R (eN (sw_ret ?_))))
      obtain rfl := sI h
      exact fin_0 (t := .d (.v (.bool rv19))) R R R (.cons (.tmp 0) .nil)
     intro c5
     replace h := ifF c5 h
     refine r_pickT R R R R (r_movD R R R (r_skip R R R (r_skip R R R (r_skip R R R (r_skip R R R (r_skip R R R (r_skip R R R (r_pickF R R R R (r_asgD R R R (eN (sw_ret ?_)))))))))))
     obtain rfl := sI h
     exact fin_0 (t := .d (.v (.bool false))) R R R (.cons (.tmp 0) .nil)
    intro c4
    replace h := ifN c4 h
    refine r_pickT R R R R (r_movD R R R (r_skip R R R (r_skip R R R (r_skip R R R (r_pickF R R R R (r_movD R R R (r_skip R R R (r_skip R R R (r_skip R R R (r_skip R R R (r_skip R R R (r_skip R R R (r_pickF R R R R (r_asgD R R R (eN (sw_ret ?_))))))))))))))))
    obtain rfl := sI h
    exact fin_0 (t := .d (.v (.bool false))) R R R (.cons (.tmp 0) .nil)
   intro c3
   replace h := ifN c3 h
   refine r_pickT R R R R (r_movD R R R (r_skip R R R (r_skip R R R (r_pickF R R R R (r_movD R R R (r_skip R R R (r_skip R R R (r_skip R R R (r_pickF R R R R (r_movD R R R (r_skip R R R (r_skip R R R (r_skip R R R (r_skip R R R (r_skip R R R (r_skip R R R (r_pickF R R R R (r_asgD R R R (eN (sw_ret ?_))))))))))))))))))))
   obtain rfl := sI h
   exact fin_0 (t := .d (.v (.bool false))) R R R (.cons (.tmp 0) .nil)
  intro c2
  replace h := ifN c2 h
  refine r_pickT R R R R (r_movD R R R (r_skip R R R (r_skip R R R (r_pickF R R R R (r_movD R R R (r_skip R R R (r_skip R R R (r_pickF R R R R (r_movD R R R (r_skip R R R (r_skip R R R (r_skip R R R (r_pickF R R R R (r_movD R R R (r_skip R R R (r_skip R R R (r_skip R R R (r_skip R R R (r_skip R R R (r_skip R R R (r_pickF R R R R (r_asgD R R R (eN (sw_ret ?_))))))))))))))))))))))))
  obtain rfl := sI h
  exact fin_0 (t := .d (.v (.bool false))) R R R (.cons (.tmp 0) .nil)
 intro c
 replace h := ifN c h
 refine r_movD R R R (r_skip R R R (r_skip R R R (r_pickF R R R R (r_movD R R R (r_skip R R R (r_skip R R R (r_pickF R R R R (r_movD R R R (r_skip R R R (r_skip R R R (r_pickF R R R R (r_movD R R R (r_skip R R R (r_skip R R R (r_skip R R R (r_pickF R R R R (r_movD R R R (r_skip R R R (r_skip R R R (r_skip R R R (r_skip R R R (r_skip R R R (r_skip R R R (r_pickF R R R R (r_asgD R R R (eN ?_))))))))))))))))))))))))))
 refine sw_ret ?_
 obtain rfl := sI h
 exact fin_0 (t := .d (.v (.bool false))) R R R (.cons (.tmp 0) .nil)
def l_WindowSeasons (F : Nat) (t : WiPlan) (o : (List WiNight)) (a : (List WiUse)) : Option Bool := Option.bind (window_Season F t o) fun rv => Option.bind (r_Season F t o) fun rv2 => Option.bind (r_SameUses F rv.1 rv2.1) fun rv3 => if rv3 = true then (Option.bind (r_SameState F rv.2.1 rv2.2.1) fun rv4 => if rv4 = true then (if rv.2.2 = rv2.2.2 then (Option.bind (window_Audit F t o a) fun rv5 => Option.bind (r_Audit F t o a) fun rv6 => if rv5.1 = rv6.1 then (if rv5.2 = rv6.2 then (Option.bind (l_Awake 100 ) fun rv7 => some rv7) else (some false)) else (some false)) else (some false)) else (some false)) else (some false)
theorem l_WindowSeasons_pc {F : Nat} {t : WiPlan} {o : (List WiNight)} {a : (List WiUse)} {r : Bool} (h : l_WindowSeasons F t o a = some r) : PC Tryz.prog 3 [WiPlan.d t, .arr 3 ((o).map WiNight.d), .arr 4 ((a).map WiUse.d)] (.v (.bool r)) := by
 rw [l_WindowSeasons] at h
 refine SC.of_sw Tryz.func3 R R R ?_
 dsimp only [argS, List.map]
 refine qG (r_box R R R R R R R (r_asgD R R R (eN (qG (r_ldD (y := WiPlan.d t) tb R R R R R R R R R (r_movD R R R ?_))))))
 obtain ⟨rv, hrv, h⟩ := bnd h
 refine r_callN (t' := .tup [.row 1 4 0 (rv.1).length, WiState_T1 rv.2.1 2 3 4, .d (.v (.int .i64 rv.2.2))]) (news' := [(lWiUsed rv.1), (lvI rv.2.1.used), (lvI rv.2.1.credit), (lvI rv.2.1.last)]) (window_Season_scr hrv) (.of (by kernel_rfl)) R R R ((.row (.row (.row (.row .nil))))) R R R (r_movT (.tup [.row 1 4 0 (rv.1).length, WiState_T1 rv.2.1 2 3 4, .d (.v (.int .i64 rv.2.2))]) R R R (r_ext (t := .row 1 4 0 (rv.1).length) R R R R (r_ext (t := WiState_T1 rv.2.1 2 3 4) R R R R (r_ext (t := .d (.v (.int .i64 rv.2.2))) R R R R ?_))))
 refine r_alloc tb R R R R R (r_asgW R R R (r_stE _ ([some ⟨4, [.d (WiPlan.d t)]⟩, some (lWiUsed rv.1), some (lvI rv.2.1.used), some (lvI rv.2.1.credit), some (lvI rv.2.1.last), some ⟨4, [WiState_T1 rv.2.1 2 3 4]⟩]) tb R R R R R R R R R R R R (r_asgD R R R (eN (qG (r_ldD (y := WiPlan.d t) tb R R R R R R R R R (r_movD R R R ?_)))))))
 obtain ⟨rv2, hrv2, h⟩ := bnd h
 refine r_call (r_Season_pc hrv2) (.of (by kernel_rfl)) R R R R (r_movD R R R (r_extD (t := .arr 4 ((rv2.1).map WiUse.d)) R R R R (r_extD (t := WiState.d rv2.2.1) R R R R (r_extD (t := .v (.int .i64 rv2.2.2)) R R R R (r_alloc tb R R R R R (r_asgD R R R (r_stE _ ([some ⟨4, [.d (WiPlan.d t)]⟩, some (lWiUsed rv.1), some (lvI rv.2.1.used), some (lvI rv.2.1.credit), some (lvI rv.2.1.last), some ⟨4, [WiState_T1 rv.2.1 2 3 4]⟩, some ⟨4, [.d (WiState.d rv2.2.1)]⟩]) tb R R R R R R R R R R R R ?_)))))))
 refine r_asgD R R R (eN (sw_seq (qG (r_movW R R R (r_movD R R R ?_)))))
 obtain ⟨rv3, hrv3, h⟩ := bnd h
 refine r_callLB (r_SameUses_pc hrv3) (.of (by kernel_rfl)) R R ((.cons (.row R R) (.cons (.d _) .nil))) R R ?_ ?_
 ·intro c
  replace h := ifP c h
  refine r_notT R R R (r_movD R R R (r_ldG tb R R R R R R R R R (r_ldD (y := WiState.d rv2.2.1) tb R R R R R R R R R ?_)))
  obtain ⟨rv4, hrv4, h⟩ := bnd h
  refine r_callLB (r_SameState_pc hrv4) (.of (by kernel_rfl)) R R ((.cons (.aggL (.cons (.row R R) (.cons (.row R R) (.cons (.row R R) (.cons (.d _) .nil))))) (.cons (.d _) .nil))) R R ?_ ?_
  ·intro c2
   replace h := ifP c2 h
   refine r_notT R R R (r_pickF R R R R (r_movD R R R (r_movD R R R (r_movD R R R ?_))))
   refine r_neq R R R R ?_ ?_
   ·intro c3
    replace h := ifN c3 h
    refine r_pickF R R R R (eN (sw_condT R (qG (r_asgD R R R (eN (sw_ret (then_ret ?_)))))))
    obtain rfl := sI h
    exact fin_0 (t := .d (.v (.bool false))) R R R (.cons (.tmp 6) .nil)
   intro c3
   replace h := ifP c3 h
   refine r_pickF R R R R (eN (sw_condF R (sw_skip (then_norm (qG (r_ldD (y := WiPlan.d t) tb R R R R R R R R R (r_movD R R R (r_movD R R R ?_))))))))
   obtain ⟨rv5, hrv5, h⟩ := bnd h
   refine r_call (window_Audit_pc hrv5) (.of (by kernel_rfl)) R R R R (r_movD R R R (r_extD (t := .v (.int .i64 rv5.1)) R R R R (r_extD (t := .v (.int .i64 rv5.2)) R R R R (r_asgD R R R (r_asgD R R R (eN (qG (r_ldD (y := WiPlan.d t) tb R R R R R R R R R (r_movD R R R (r_movD R R R ?_))))))))))
   obtain ⟨rv6, hrv6, h⟩ := bnd h
   refine r_call (r_Audit_pc hrv6) (.of (by kernel_rfl)) R R R R (r_movD R R R (r_extD (t := .v (.int .i64 rv6.1)) R R R R (r_extD (t := .v (.int .i64 rv6.2)) R R R R (r_asgD R R R (r_asgD R R R (eN (qG (r_movD R R R (r_movD R R R ?_)))))))))
   refine r_eql R R R R ?_ ?_
   ·intro c4
    replace h := ifP c4 h
    refine r_movD R R R (r_movD R R R (r_movD R R R ?_))
    refine r_eql R R R R ?_ ?_
    ·intro c5
     replace h := ifP c5 h
     refine r_pickT R R R R (r_movD R R R ?_)
     obtain ⟨rv7, hrv7, h⟩ := bnd h
     refine r_call (l_Awake_pc hrv7) (.of (by kernel_rfl)) R R R R (r_pickT R R R R (r_asgD R R R (eN (sw_ret ?_))))
     obtain rfl := sI h
     exact fin_0 (t := .d (.v (.bool rv7))) R R R (.cons (.tmp 6) .nil)
    intro c5
    replace h := ifN c5 h
    refine r_pickT R R R R (r_movD R R R (r_skip R R R (r_pickF R R R R (r_asgD R R R (eN (sw_ret ?_))))))
    obtain rfl := sI h
    exact fin_0 (t := .d (.v (.bool false))) R R R (.cons (.tmp 6) .nil)
   intro c4
   replace h := ifN c4 h
   refine r_movD R R R (r_skip R R R (r_skip R R R (r_skip R R R (r_pickF R R R R (r_movD R R R (r_skip R R R (r_pickF R R R R (r_asgD R R R (eN (sw_ret ?_))))))))))
   obtain rfl := sI h
   exact fin_0 (t := .d (.v (.bool false))) R R R (.cons (.tmp 6) .nil)
  intro c2
  replace h := ifF c2 h
  refine r_notF R R R (r_pickF R R R R (r_movD R R R (r_skip R R R (r_skip R R R (r_skip R R R (r_pickT R R R R (eN (sw_condT R (qG (r_asgD R R R (eN (sw_ret (then_ret ?_)))))))))))))
  obtain rfl := sI h
  exact fin_0 (t := .d (.v (.bool false))) R R R (.cons (.tmp 6) .nil)
 intro c
 replace h := ifF c h
 refine r_notF R R R (r_movD R R R (r_skip R R R (r_skip R R R (r_skip R R R (r_skip R R R (r_pickT R R R R (r_movD R R R (r_skip R R R (r_skip R R R (r_skip R R R (r_pickT R R R R (eN (sw_condT R (qG (r_asgD R R R (eN (sw_ret (then_ret ?_))))))))))))))))))
 obtain rfl := sI h
 exact fin_0 (t := .d (.v (.bool false))) R R R (.cons (.tmp 6) .nil)
end Go.Proofs.YtdefnmcjmklohaaGreat
