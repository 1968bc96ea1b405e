/- What functions of the program compute: plain functions, and the proofs. -/
import Derived.Test.YtdefnmcjmklohaaW3
open Go Go.Proofs.Ytdefnmcjmklohaa.Sh Go.Proofs
namespace Go.Proofs.Ytdefnmcjmklohaa
set_option linter.unusedVariables false
set_option linter.unusedSimpArgs false
set_option maxRecDepth 100000
set_option maxHeartbeats 4000000
/-- hangfireref11.act -/
def r_act_L1 (F : Nat) (rv8 : (List Int)) (K : (List Int) → Int → Option (Desk × Int)) : Nat → (List Int) → Int → Option (Desk × Int)
 | 0, _, _ => none
 | n + 1, y, x => if x < (rv8.length : Int) then (Option.bind (ixO rv8 x) fun e9 => Option.bind (ixO y e9) fun e10 => Option.bind (setO y e9 (W (e10 + 1))) fun y2 => r_act_L1 F rv8 K n y2 (W (x + 1))) else (K y x)
def r_act_L2 (F : Nat) (rv11 : (List Int)) (K : (List Int) → Int → Option (Desk × Int)) : Nat → (List Int) → Int → Option (Desk × Int)
 | 0, _, _ => none
 | n + 1, y3, x2 => if x2 < (rv11.length : Int) then (Option.bind (ixO rv11 x2) fun e14 => Option.bind (ixO y3 e14) fun e15 => Option.bind (setO y3 e14 (W (e15 + 1))) fun y4 => r_act_L2 F rv11 K n y4 (W (x2 + 1))) else (K y3 x2)
def r_act (F : Nat) (t : WiPlan) (o : WiSky) (a : Desk) (rv : WiTurn) : Option (Desk × Int) := Option.bind (r_turn F t o a) fun rv2 => Option.bind (ixO t.windows a.s_Next) fun e => if rv2 < 0 then (some (a, 9)) else (Option.bind (r_in F rv.what 1 3) fun rv3 => if rv3 = true then (if rv.what = 3 then (if 0 ≤ a.given then (some (a, 5)) else (Option.bind (r_receivers F t o a) fun rv4 => Option.bind (r_has F rv4 rv.to_) fun rv5 => if rv5 = true then (if rv.at_ = a.minute then (Option.bind (r_copied F (WiState.mk a.s_Used a.s_Credit a.s_Last a.s_Next)) fun rv6 => Option.bind (ixO rv6.credit rv2) fun e2 => Option.bind (ixO rv6.credit rv.to_) fun e3 => Option.bind (setO rv6.credit rv2 (W (e2 + t.gift))) fun q => Option.bind (ixO q rv.to_) fun e4 => Option.bind (setO q rv.to_ (W (e3 - t.gift))) fun q2 => Option.bind (appO ([] : List Int) a.done) fun q3 => Option.bind (appO q3 [rv2]) fun q4 => some ((Desk.mk rv6.used q2 rv6.last rv6.next a.minute q4 rv.to_ rv2 a.over a.use_Window a.use_Team a.use_At a.use_By), 0)) else (some (a, 7))) else (some (a, 4)))) else (if rv.what = 1 then (Option.bind (ixO t.teams rv2) fun e5 => if rv.to_ = 0 then (Option.bind (r_in F rv.at_ (W (a.minute + e5.setup)) e.until_) fun rv7 => if rv7 = true then (Option.bind (appO ([] : List Int) a.done) fun q5 => Option.bind (appO q5 [rv2]) fun q6 => if rv.what = 1 then (Option.bind (r_rights F t (WiState.mk a.s_Used a.s_Credit a.s_Last a.s_Next) o a.minute q6) fun rv8 => Option.bind (r_copied F (WiState.mk a.s_Used a.s_Credit a.s_Last a.s_Next)) fun rv9 => Option.bind (ixO rv9.used rv2) fun e6 => Option.bind (ixO rv9.credit rv2) fun e7 => Option.bind (setO rv9.used rv2 (W (e6 + 1))) fun q7 => Option.bind (ixO rv9.last rv2) fun e8 => Option.bind (setO rv9.last rv2 e.day) fun q8 => Option.bind (setO rv9.credit rv2 (W (e7 - t.cost))) fun q9 => r_act_L1 F rv8 (fun (y : (List Int)) (x : Int) => if 0 ≤ a.given then (some ((Desk.mk q7 y q8 rv9.next rv.at_ q6 (-1) a.by_ true rv9.next rv2 rv.at_ a.by_), 0)) else (some ((Desk.mk q7 y q8 rv9.next rv.at_ q6 (-1) a.by_ true rv9.next rv2 rv.at_ (-1)), 0))) F q9 0) else (some ({a with minute := rv.at_, done := q6, given := (-1)}, 0))) else (some (a, 7))) else (some (a, 7))) else (if rv.to_ = 0 then (Option.bind (r_in F rv.at_ a.minute e.until_) fun rv10 => if rv10 = true then (Option.bind (appO ([] : List Int) a.done) fun q10 => Option.bind (appO q10 [rv2]) fun q11 => if rv.what = 1 then (Option.bind (r_rights F t (WiState.mk a.s_Used a.s_Credit a.s_Last a.s_Next) o a.minute q11) fun rv11 => Option.bind (r_copied F (WiState.mk a.s_Used a.s_Credit a.s_Last a.s_Next)) fun rv12 => Option.bind (ixO rv12.used rv2) fun e11 => Option.bind (ixO rv12.credit rv2) fun e12 => Option.bind (setO rv12.used rv2 (W (e11 + 1))) fun q12 => Option.bind (ixO rv12.last rv2) fun e13 => Option.bind (setO rv12.last rv2 e.day) fun q13 => Option.bind (setO rv12.credit rv2 (W (e12 - t.cost))) fun q14 => r_act_L2 F rv11 (fun (y3 : (List Int)) (x2 : Int) => if 0 ≤ a.given then (some ((Desk.mk q12 y3 q13 rv12.next rv.at_ q11 (-1) a.by_ true rv12.next rv2 rv.at_ a.by_), 0)) else (some ((Desk.mk q12 y3 q13 rv12.next rv.at_ q11 (-1) a.by_ true rv12.next rv2 rv.at_ (-1)), 0))) F q14 0) else (some ({a with minute := rv.at_, done := q11, given := (-1)}, 0))) else (some (a, 7))) else (some (a, 7))))) else (some (a, 2)))
theorem r_act_pc {F : Nat} {t : WiPlan} {o : WiSky} {a : Desk} {rv : WiTurn} {r : (Desk × Int)} (h : r_act F t o a rv = some r) : PC Try.prog 79 [WiPlan.d t, WiSky.d o, Desk.d a, WiTurn.d rv] (.tup [Desk.d r.1, .v (.int .i64 r.2)]) := by
 rw [r_act] at h
 refine PC.of_lend ?_
 refine SC.of_sw Try.func79 R R R ?_
 simp only [List.map_cons, List.map_nil, argS, Nat.zero_add, Nat.reduceAdd]
 refine qG (r_box R R R R R R R (r_box R R R R R R R (r_box R R R R R R R (r_box R R R R R R R (r_alloc tb R R R R R (r_asgD R R R (eN (qG (r_ldD (y := WiPlan.d t) tb R R R R R R R R R (r_ldD (y := WiSky.d o) tb R R R R R R R R R (r_ldD (y := Desk.d a) tb R R R R R R R R R ?_)))))))))))
 obtain ⟨rv2, hrv2, h⟩ := bnd h
 refine r_call (r_turn_pc hrv2) (.of (by kernel_rfl)) R R R R (r_asgD R R R (eN (qG (r_fa tb R R R R R R R (r_ldD (y := .arr 3 ((t.windows).map WiWindow.d)) tb R R R R R R R R R (r_fa tb R R R R R R R (r_fa tb R R R R R R R (r_ldD (y := .v (.int .i64 a.s_Next)) tb R R R R R R R R R ?_))))))))
 obtain ⟨e, ie, h⟩ := bnd h
 refine r_ixE tb R R R R R R (ix0 ie) (ix1m ie) R R (r_ldE (y := WiWindow.d e) tb R R (ix2 (g := WiWindow.d) ie) R R R R (r_alloc tb R R R R R ?_))
 refine r_stE _ ([some ⟨4, [.d (WiPlan.d t)]⟩, some ⟨2, [.d (WiSky.d o)]⟩, some ⟨13, [.d (Desk.d a)]⟩, some ⟨3, [.d (WiTurn.d rv)]⟩, some ⟨13, [.d (.agg [.v (.slice none 0 0), .v (.slice none 0 0), .v (.slice none 0 0), .v (.int .i64 0), .v (.int .i64 0), .v (.slice none 0 0), .v (.int .i64 0), .v (.int .i64 0), .v (.bool false), .v (.int .i64 0), .v (.int .i64 0), .v (.int .i64 0), .v (.int .i64 0)])]⟩, some ⟨3, [.d (WiWindow.d e)]⟩]) tb R R R R R R R R R R R R (eN (sw_seq (qG (r_movD R R R ?_))))
 refine r_lss R R R R ?_ ?_
 ·intro c
  replace h := ifP c h
  refine eN (sw_condT R (qG (r_ldD (y := Desk.d a) tb R R R R R R R R R (r_stE _ ([some ⟨4, [.d (WiPlan.d t)]⟩, some ⟨2, [.d (WiSky.d o)]⟩, some ⟨13, [.d (Desk.d a)]⟩, some ⟨3, [.d (WiTurn.d rv)]⟩, some ⟨13, [.d (Desk.d a)]⟩, some ⟨3, [.d (WiWindow.d e)]⟩]) tb R R R R R R R R R R R R (r_asgD R R R (eN (sw_ret (then_ret ?_))))))))
  obtain rfl := sI h
  exact (fin_S (t := .d (.tup [Desk.d a, .v (.int .i64 9)])) (L := []) (κ := []) R (.cons (rcell tb (u := .d (Desk.d a)) R R R R R R R) (.cons (.tmp 9) .nil)) (vwK R R .nil (.cons R R .nil)) ⟨_, R, (.d _)⟩)
 intro c
 replace h := ifN (Int.not_lt.2 c) h
 refine eN (sw_condF R (sw_skip (then_norm (sw_seq (qG (r_fa tb R R R R R R R (r_ldD (y := .v (.int .i64 rv.what)) tb R R R R R R R R R ?_)))))))
 obtain ⟨rv3, hrv3, h⟩ := bnd h
 refine r_callB (r_in_pc hrv3) (.of (by kernel_rfl)) R R R R ?_ ?_
 ·intro c2
  replace h := ifP c2 h
  refine r_notT R R R (eN (sw_condF R (sw_skip (then_norm (sw_seq (qG (r_fa tb R R R R R R R (r_ldD (y := .v (.int .i64 rv.what)) tb R R R R R R R R R ?_))))))))
  refine r_eql R R R R ?_ ?_
  ·intro c3
   replace h := ifP c3 h
   refine eN (sw_condT R (sw_seq (qG (r_fa tb R R R R R R R (r_ldD (y := .v (.int .i64 a.given)) tb R R R R R R R R R ?_)))))
   refine r_geq R R R R ?_ ?_
   ·intro c4
    replace h := ifP c4 h
    refine eN (sw_condT R (qG (r_ldD (y := Desk.d a) tb R R R R R R R R R (r_stE _ ([some ⟨4, [.d (WiPlan.d t)]⟩, some ⟨2, [.d (WiSky.d o)]⟩, some ⟨13, [.d (Desk.d a)]⟩, some ⟨3, [.d (WiTurn.d rv)]⟩, some ⟨13, [.d (Desk.d a)]⟩, some ⟨3, [.d (WiWindow.d e)]⟩]) tb R R R R R R R R R R R R (r_asgD R R R (eN (sw_ret (then_ret (then_ret ?_)))))))))
    obtain rfl := sI h
    exact (fin_S (t := .d (.tup [Desk.d a, .v (.int .i64 5)])) (L := []) (κ := []) R (.cons (rcell tb (u := .d (Desk.d a)) R R R R R R R) (.cons (.tmp 9) .nil)) (vwK R R .nil (.cons R R .nil)) ⟨_, R, (.d _)⟩)
   intro c4
   replace h := ifN (Int.not_le.2 c4) h
   refine eN (sw_condF R (sw_skip (then_norm (sw_seq (sw_seq (sw_dr (by kernel_rfl) (r_ldD (y := WiPlan.d t) tb R R R R R R R R R (r_ldD (y := WiSky.d o) tb R R R R R R R R R (r_ldD (y := Desk.d a) tb R R R R R R R R R ?_)))))))))
   obtain ⟨rv4, hrv4, h⟩ := bnd h
   refine r_callN (t' := .row 6 1 0 (rv4).length) (news' := [(lvI rv4)]) (r_receivers_scr hrv4) (.of (by kernel_rfl)) R R R ((.row .nil)) R R R (r_fa tb R R R R R R R (r_ldD (y := .v (.int .i64 rv.to_)) tb R R R R R R R R R ?_))
   obtain ⟨rv5, hrv5, h⟩ := bnd h
   refine r_callLB (r_has_pc hrv5) (.of (by kernel_rfl)) R R ((.cons (.row R R) (.cons (.d _) .nil))) R R ?_ ?_
   ·intro c5
    replace h := ifP c5 h
    refine r_notT R R R (ev_endD (by kernel_rfl) (then_norm (sw_condF R (sw_skip (then_norm (sw_seq (qG (r_fa tb R R R R R R R (r_ldD (y := .v (.int .i64 rv.at_)) tb R R R R R R R R R (r_fa tb R R R R R R R (r_ldD (y := .v (.int .i64 a.minute)) tb R R R R R R R R R ?_)))))))))))
    refine r_neq R R R R ?_ ?_
    ·intro c6
     replace h := ifN c6 h
     refine eN (sw_condT R (qG (r_ldD (y := Desk.d a) tb R R R R R R R R R (r_stE _ ([some ⟨4, [.d (WiPlan.d t)]⟩, some ⟨2, [.d (WiSky.d o)]⟩, some ⟨13, [.d (Desk.d a)]⟩, some ⟨3, [.d (WiTurn.d rv)]⟩, some ⟨13, [.d (Desk.d a)]⟩, some ⟨3, [.d (WiWindow.d e)]⟩, some (lvI rv4)]) tb R R R R R R R R R R R R (r_asgD R R R (eN (sw_ret (then_ret (then_ret ?_)))))))))
     obtain rfl := sI h
     exact (fin_S (t := .d (.tup [Desk.d a, .v (.int .i64 7)])) (L := []) (κ := []) R (.cons (rcell tb (u := .d (Desk.d a)) R R R R R R R) (.cons (.tmp 9) .nil)) (vwK R R .nil (.cons R R .nil)) ⟨_, R, (.d _)⟩)
    intro c6
    replace h := ifP c6 h
    refine eN (sw_condF R (sw_skip (then_norm (qG (r_fa tb R R R R R R R (r_ldD (y := .agg [.arr 1 ((a.s_Used).map vI), .arr 1 ((a.s_Credit).map vI), .arr 1 ((a.s_Last).map vI), .v (.int .i64 a.s_Next)]) tb R R R R R R R R R ?_))))))
    obtain ⟨rv6, hrv6, h⟩ := bnd h
    refine r_callN (t' := WiState_T1 rv6 7 8 9) (news' := [(lvI rv6.used), (lvI rv6.credit), (lvI rv6.last)]) (r_copied_scr hrv6) (.of (by kernel_rfl)) R R R ((.row (.row (.row .nil)))) R R R (r_fa tb R R R R R R R ?_)
    refine r_stE _ ([some ⟨4, [.d (WiPlan.d t)]⟩, some ⟨2, [.d (WiSky.d o)]⟩, some ⟨13, [Desk_T1 {a with s_Used := rv6.used, s_Credit := rv6.credit, s_Last := rv6.last, s_Next := rv6.next} 7 8 9]⟩, some ⟨3, [.d (WiTurn.d rv)]⟩, some ⟨13, [.d (.agg [.v (.slice none 0 0), .v (.slice none 0 0), .v (.slice none 0 0), .v (.int .i64 0), .v (.int .i64 0), .v (.slice none 0 0), .v (.int .i64 0), .v (.int .i64 0), .v (.bool false), .v (.int .i64 0), .v (.int .i64 0), .v (.int .i64 0), .v (.int .i64 0)])]⟩, some ⟨3, [.d (WiWindow.d e)]⟩, some (lvI rv4), some (lvI rv6.used), some (lvI rv6.credit), some (lvI rv6.last)]) tb R R R R R R R R R R R R ?_
    refine eN (sw_seq (sw_dr (by kernel_rfl) (r_fa tb R R R R R R R (r_fa tb R R R R R R R (r_ldW tb R R R R R R R R R (r_movD R R R (r_fa tb R R R R R R R (r_fa tb R R R R R R R (r_ldW tb R R R R R R R R R (r_fa tb R R R R R R R (r_ldD (y := .v (.int .i64 rv.to_)) tb R R R R R R R R R (r_fa tb R R R R R R R (r_fa tb R R R R R R R (r_ldW tb R R R R R R R R R (r_movD R R R ?_)))))))))))))))
    obtain ⟨e2, ie2, h⟩ := bnd h
    refine r_ixI tb R R R R R R (ix0 ie2) (ix1 ie2) R R ?_
    refine r_ldD (y := .v (.int .i64 e2)) tb R R R R (ix2 (g := fun a => T.d (vI a)) ie2) R R R R ?_
    refine r_fa tb R R R R R R R (r_ldD (y := .v (.int .i64 t.gift)) tb R R R R R R R R R (r_add R R R R (r_fa tb R R R R R R R (r_fa tb R R R R R R R (r_ldW tb R R R R R R R R R (r_fa tb R R R R R R R (r_ldD (y := .v (.int .i64 rv.to_)) tb R R R R R R R R R ?_)))))))
    obtain ⟨e3, ie3, h⟩ := bnd h
    refine r_ixI tb R R R R R R (ix0 ie3) (ix1 ie3) R R ?_
    refine r_ldD (y := .v (.int .i64 e3)) tb R R R R (ix2 (g := fun a => T.d (vI a)) ie3) R R R R ?_
    refine r_fa tb R R R R R R R (r_ldD (y := .v (.int .i64 t.gift)) tb R R R R R R R R R (r_sub R R R R (r_ixI tb R R R R R R (ix0 ie2) (ix1 ie2) R R ?_)))
    obtain ⟨q, iq, h⟩ := bnd h
    refine r_stQ (a' := (W (e2 + t.gift))) tb R R R R ie2 R R R R iq R R ?_
    dsimp only [List.set_cons_zero, List.set_cons_succ, WiState_T1, WiState_T2, WiState_T3, Table_T1, Desk_T1, Desk_T2, Desk_T3]
    first | rw [set_len iq] | skip
    obtain ⟨e4, ie4, h⟩ := bnd h
    refine r_ixI tb R R R R R R (ix0 ie4) (ix1 ie4) R R ?_
    obtain ⟨q2, iq2, h⟩ := bnd h
    refine r_stQ (a' := (W (e3 - t.gift))) tb R R R R ie4 R R R R iq2 R R ?_
    dsimp only [List.set_cons_zero, List.set_cons_succ, WiState_T1, WiState_T2, WiState_T3, Table_T1, Desk_T1, Desk_T2, Desk_T3]
    first | rw [set_len iq2] | skip
    refine ev_endD (by kernel_rfl) (then_norm (sw_seq (sw_dr (by kernel_rfl) (r_bslice tb R R R R R R R R R R R R R (r_fa tb R R R R R R R (r_ldD (y := .arr 1 ((a.done).map vI)) tb R R R R R R R R R ?_))))))
    obtain ⟨q3, iq3, h⟩ := bnd h
    refine r_apEM (g := vI) (w := ([] : List Int)) (v := a.done) ([some ⟨4, [.d (WiPlan.d t)]⟩, some ⟨2, [.d (WiSky.d o)]⟩, some ⟨13, [Desk_T1 {a with s_Used := rv6.used, s_Credit := q2, s_Last := rv6.last, s_Next := rv6.next} 7 8 9]⟩, some ⟨3, [.d (WiTurn.d rv)]⟩, some ⟨13, [.d (.agg [.v (.slice none 0 0), .v (.slice none 0 0), .v (.slice none 0 0), .v (.int .i64 0), .v (.int .i64 0), .v (.slice none 0 0), .v (.int .i64 0), .v (.int .i64 0), .v (.bool false), .v (.int .i64 0), .v (.int .i64 0), .v (.int .i64 0), .v (.int .i64 0)])]⟩, some ⟨3, [.d (WiWindow.d e)]⟩, some (lvI rv4), some (lvI rv6.used), some (lvI q2), some (lvI rv6.last), none]) tb R R R R R R R R (by intro _; exact R) iq3 R R R R R ?_
    refine r_movD R R R (r_bslice tb R R R R R R R R R R R R R ?_)
    obtain ⟨q4, iq4, h⟩ := bnd h
    refine r_apM (g := vI) (w := q3) (v := [rv2]) ([some ⟨4, [.d (WiPlan.d t)]⟩, some ⟨2, [.d (WiSky.d o)]⟩, some ⟨13, [Desk_T1 {a with s_Used := rv6.used, s_Credit := q2, s_Last := rv6.last, s_Next := rv6.next} 7 8 9]⟩, some ⟨3, [.d (WiTurn.d rv)]⟩, some ⟨13, [.d (.agg [.v (.slice none 0 0), .v (.slice none 0 0), .v (.slice none 0 0), .v (.int .i64 0), .v (.int .i64 0), .v (.slice none 0 0), .v (.int .i64 0), .v (.int .i64 0), .v (.bool false), .v (.int .i64 0), .v (.int .i64 0), .v (.int .i64 0), .v (.int .i64 0)])]⟩, some ⟨3, [.d (WiWindow.d e)]⟩, some (lvI rv4), some (lvI rv6.used), some (lvI q2), some (lvI rv6.last), none, none, some (lvI [rv2])]) tb R R R R R R R R R R R iq4 R R R R R ?_
    refine r_fa tb R R R R R R R (r_ldD (y := .v (.int .i64 rv.to_)) tb R R R R R R R R R (r_movD R R R (r_fa tb R R R R R R R ?_)))
    refine r_stE _ ([some ⟨4, [.d (WiPlan.d t)]⟩, some ⟨2, [.d (WiSky.d o)]⟩, some ⟨13, [Desk_T2 {a with s_Used := rv6.used, s_Credit := q2, s_Last := rv6.last, s_Next := rv6.next, done := q4} 7 8 9 13]⟩, some ⟨3, [.d (WiTurn.d rv)]⟩, some ⟨13, [.d (.agg [.v (.slice none 0 0), .v (.slice none 0 0), .v (.slice none 0 0), .v (.int .i64 0), .v (.int .i64 0), .v (.slice none 0 0), .v (.int .i64 0), .v (.int .i64 0), .v (.bool false), .v (.int .i64 0), .v (.int .i64 0), .v (.int .i64 0), .v (.int .i64 0)])]⟩, some ⟨3, [.d (WiWindow.d e)]⟩, some (lvI rv4), some (lvI rv6.used), some (lvI q2), some (lvI rv6.last), none, none, some (lvI [rv2]), some (lvI q4)]) tb R R R R R R R R R R R R ?_
    refine r_fa tb R R R R R R R ?_
    refine r_stE _ ([some ⟨4, [.d (WiPlan.d t)]⟩, some ⟨2, [.d (WiSky.d o)]⟩, some ⟨13, [Desk_T2 {a with s_Used := rv6.used, s_Credit := q2, s_Last := rv6.last, s_Next := rv6.next, done := q4, given := rv.to_} 7 8 9 13]⟩, some ⟨3, [.d (WiTurn.d rv)]⟩, some ⟨13, [.d (.agg [.v (.slice none 0 0), .v (.slice none 0 0), .v (.slice none 0 0), .v (.int .i64 0), .v (.int .i64 0), .v (.slice none 0 0), .v (.int .i64 0), .v (.int .i64 0), .v (.bool false), .v (.int .i64 0), .v (.int .i64 0), .v (.int .i64 0), .v (.int .i64 0)])]⟩, some ⟨3, [.d (WiWindow.d e)]⟩, some (lvI rv4), some (lvI rv6.used), some (lvI q2), some (lvI rv6.last), none, none, some (lvI [rv2]), some (lvI q4)]) tb R R R R R R R R R R R R ?_
    refine r_fa tb R R R R R R R ?_
    refine r_stE _ ([some ⟨4, [.d (WiPlan.d t)]⟩, some ⟨2, [.d (WiSky.d o)]⟩, some ⟨13, [Desk_T2 (Desk.mk rv6.used q2 rv6.last rv6.next a.minute q4 rv.to_ rv2 a.over a.use_Window a.use_Team a.use_At a.use_By) 7 8 9 13]⟩, some ⟨3, [.d (WiTurn.d rv)]⟩, some ⟨13, [.d (.agg [.v (.slice none 0 0), .v (.slice none 0 0), .v (.slice none 0 0), .v (.int .i64 0), .v (.int .i64 0), .v (.slice none 0 0), .v (.int .i64 0), .v (.int .i64 0), .v (.bool false), .v (.int .i64 0), .v (.int .i64 0), .v (.int .i64 0), .v (.int .i64 0)])]⟩, some ⟨3, [.d (WiWindow.d e)]⟩, some (lvI rv4), some (lvI rv6.used), some (lvI q2), some (lvI rv6.last), none, none, some (lvI [rv2]), some (lvI q4)]) tb R R R R R R R R R R R R ?_
    refine ev_endD (by kernel_rfl) (then_norm (qG (r_ldG tb R R R R R R R R R ?_)))
    refine r_stE _ ([some ⟨4, [.d (WiPlan.d t)]⟩, some ⟨2, [.d (WiSky.d o)]⟩, some ⟨13, [Desk_T2 (Desk.mk rv6.used q2 rv6.last rv6.next a.minute q4 rv.to_ rv2 a.over a.use_Window a.use_Team a.use_At a.use_By) 7 8 9 13]⟩, some ⟨3, [.d (WiTurn.d rv)]⟩, some ⟨13, [Desk_T2 (Desk.mk rv6.used q2 rv6.last rv6.next a.minute q4 rv.to_ rv2 a.over a.use_Window a.use_Team a.use_At a.use_By) 7 8 9 13]⟩, some ⟨3, [.d (WiWindow.d e)]⟩, some (lvI rv4), some (lvI rv6.used), some (lvI q2), some (lvI rv6.last), none, none, some (lvI [rv2]), some (lvI q4)]) tb R R R R R R R R R R R R ?_
    refine r_asgD R R R (eN (sw_ret (then_ret ?_)))
    obtain rfl := sI h
    exact (fin_S (t := .tup [Desk_T2 (Desk.mk rv6.used q2 rv6.last rv6.next a.minute q4 rv.to_ rv2 a.over a.use_Window a.use_Team a.use_At a.use_By) 0 1 2 3, .d (.v (.int .i64 0))]) (L := [some (lvI rv6.used), some (lvI q2), some (lvI rv6.last), some (lvI q4)]) (κ := [7, 8, 9, 13]) R (.cons (rcell tb (u := Desk_T2 (Desk.mk rv6.used q2 rv6.last rv6.next a.minute q4 rv.to_ rv2 a.over a.use_Window a.use_Team a.use_At a.use_By) 7 8 9 13) R R R R R R R) (.cons (.tmp 9) .nil)) (vwK R R (.row R (.row R (.row R (.row R .nil)))) (.cons R R .nil)) ⟨_, R, (.tupL (.cons (.aggL (.cons (.row R R) (.cons (.row R R) (.cons (.row R R) (.cons (.d _) (.cons (.d _) (.cons (.row R R) (.cons (.d _) (.cons (.d _) (.cons (.d _) (.cons (.d _) (.cons (.d _) (.cons (.d _) (.cons (.d _) .nil)))))))))))))) (.cons (.d _) .nil)))⟩)
   intro c5
   replace h := ifF c5 h
   refine r_notF R R R (ev_endD (by kernel_rfl) (then_norm (sw_condT R (qG (r_ldD (y := Desk.d a) tb R R R R R R R R R (r_stE _ ([some ⟨4, [.d (WiPlan.d t)]⟩, some ⟨2, [.d (WiSky.d o)]⟩, some ⟨13, [.d (Desk.d a)]⟩, some ⟨3, [.d (WiTurn.d rv)]⟩, some ⟨13, [.d (Desk.d a)]⟩, some ⟨3, [.d (WiWindow.d e)]⟩, some (lvI rv4)]) tb R R R R R R R R R R R R (r_asgD R R R (eN (sw_ret (then_ret (then_ret ?_)))))))))))
   obtain rfl := sI h
   exact (fin_S (t := .d (.tup [Desk.d a, .v (.int .i64 4)])) (L := []) (κ := []) R (.cons (rcell tb (u := .d (Desk.d a)) R R R R R R R) (.cons (.tmp 9) .nil)) (vwK R R .nil (.cons R R .nil)) ⟨_, R, (.d _)⟩)
  intro c3
  replace h := ifN c3 h
  refine eN (sw_condF R (sw_skip (then_norm (qG (r_fa tb R R R R R R R (r_ldD (y := .v (.int .i64 a.minute)) tb R R R R R R R R R (r_asgD R R R (eN (sw_seq (qG (r_fa tb R R R R R R R (r_ldD (y := .v (.int .i64 rv.what)) tb R R R R R R R R R ?_))))))))))))
  refine r_eql R R R R ?_ ?_
  ·intro c7
   replace h := ifP c7 h
   refine eN (sw_condT R (sw_rg (r_movD R R R (r_fa tb R R R R R R R (r_ldD (y := .arr 9 ((t.teams).map WiTeam.d)) tb R R R R R R R R R (r_movD R R R ?_))))))
   obtain ⟨e5, ie5, h⟩ := bnd h
   refine r_ixE tb R R R R R R (ix0 ie5) (ix1m ie5) R R (r_faE tb R R R R R R R (r_ldE (y := .v (.int .i64 e5.setup)) tb R R (ix2 (g := WiTeam.d) ie5) R R R R (r_add R R R R (r_asgD R R R (eN (sw_seq (qG (r_fa tb R R R R R R R (r_ldD (y := .v (.int .i64 rv.to_)) tb R R R R R R R R R ?_)))))))))
   refine r_neq R R R R ?_ ?_
   ·intro c8
    replace h := ifN c8 h
    refine r_movD R R R (r_skip R R R (r_skip R R R (r_skip R R R (r_skip R R R (r_skip R R R (r_skip R R R (r_skip R R R (r_pickT R R R R (eN (sw_condT R (qG (r_ldD (y := Desk.d a) tb R R R R R R R R R (r_stE _ ([some ⟨4, [.d (WiPlan.d t)]⟩, some ⟨2, [.d (WiSky.d o)]⟩, some ⟨13, [.d (Desk.d a)]⟩, some ⟨3, [.d (WiTurn.d rv)]⟩, some ⟨13, [.d (Desk.d a)]⟩, some ⟨3, [.d (WiWindow.d e)]⟩]) tb R R R R R R R R R R R R (r_asgD R R R (eN (sw_ret (then_ret ?_)))))))))))))))))
    obtain rfl := sI h
    exact (fin_S (t := .d (.tup [Desk.d a, .v (.int .i64 7)])) (L := []) (κ := []) R (.cons (rcell tb (u := .d (Desk.d a)) R R R R R R R) (.cons (.tmp 9) .nil)) (vwK R R .nil (.cons R R .nil)) ⟨_, R, (.d _)⟩)
   intro c8
   replace h := ifP c8 h
   refine r_movD R R R (r_fa tb R R R R R R R (r_ldD (y := .v (.int .i64 rv.at_)) tb R R R R R R R R R (r_movD R R R (r_fa tb R R R R R R R (r_ldD (y := .v (.int .i64 e.until_)) tb R R R R R R R R R ?_)))))
   obtain ⟨rv7, hrv7, h⟩ := bnd h
   refine r_callB (r_in_pc hrv7) (.of (by kernel_rfl)) R R R R ?_ ?_
   ·intro c9
    replace h := ifP c9 h
    refine r_notT R R R (r_pickF R R R R (eN (sw_condF R (sw_skip (then_norm (qG (r_bslice tb R R R R R R R R R R R R R (r_fa tb R R R R R R R (r_ldD (y := .arr 1 ((a.done).map vI)) tb R R R R R R R R R ?_)))))))))
    obtain ⟨q5, iq5, h⟩ := bnd h
    refine r_apEM (g := vI) (w := ([] : List Int)) (v := a.done) ([some ⟨4, [.d (WiPlan.d t)]⟩, some ⟨2, [.d (WiSky.d o)]⟩, some ⟨13, [.d (Desk.d a)]⟩, some ⟨3, [.d (WiTurn.d rv)]⟩, some ⟨13, [.d (.agg [.v (.slice none 0 0), .v (.slice none 0 0), .v (.slice none 0 0), .v (.int .i64 0), .v (.int .i64 0), .v (.slice none 0 0), .v (.int .i64 0), .v (.int .i64 0), .v (.bool false), .v (.int .i64 0), .v (.int .i64 0), .v (.int .i64 0), .v (.int .i64 0)])]⟩, some ⟨3, [.d (WiWindow.d e)]⟩, none]) tb R R R R R R R R (by intro _; exact R) iq5 R R R R R ?_
    refine r_movD R R R (r_bslice tb R R R R R R R R R R R R R ?_)
    obtain ⟨q6, iq6, h⟩ := bnd h
    refine r_apM (g := vI) (w := q5) (v := [rv2]) ([some ⟨4, [.d (WiPlan.d t)]⟩, some ⟨2, [.d (WiSky.d o)]⟩, some ⟨13, [.d (Desk.d a)]⟩, some ⟨3, [.d (WiTurn.d rv)]⟩, some ⟨13, [.d (.agg [.v (.slice none 0 0), .v (.slice none 0 0), .v (.slice none 0 0), .v (.int .i64 0), .v (.int .i64 0), .v (.slice none 0 0), .v (.int .i64 0), .v (.int .i64 0), .v (.bool false), .v (.int .i64 0), .v (.int .i64 0), .v (.int .i64 0), .v (.int .i64 0)])]⟩, some ⟨3, [.d (WiWindow.d e)]⟩, none, none, some (lvI [rv2])]) tb R R R R R R R R R R R iq6 R R R R R ?_
    refine r_asgW R R R (eN (sw_seq (qG (r_fa tb R R R R R R R (r_ldD (y := .v (.int .i64 rv.what)) tb R R R R R R R R R ?_)))))
    refine r_eql R R R R ?_ ?_
    ·intro c10
     replace h := ifP c10 h
     refine eN (sw_condT R (qG (r_ldD (y := WiPlan.d t) tb R R R R R R R R R (r_fa tb R R R R R R R (r_ldD (y := .agg [.arr 1 ((a.s_Used).map vI), .arr 1 ((a.s_Credit).map vI), .arr 1 ((a.s_Last).map vI), .v (.int .i64 a.s_Next)]) tb R R R R R R R R R (r_ldD (y := WiSky.d o) tb R R R R R R R R R (r_fa tb R R R R R R R (r_ldD (y := .v (.int .i64 a.minute)) tb R R R R R R R R R (r_movW R R R ?_)))))))))
     obtain ⟨rv8, hrv8, h⟩ := bnd h
     refine r_callLN (t' := .row 10 1 0 (rv8).length) (news' := [(lvI rv8)]) (r_rights_scr hrv8) R ((.row (fun _ => rfl) .nil)) (.of (by kernel_rfl)) R R ((.cons (.d _) (.cons (.d _) (.cons (.d _) (.cons (.d _) (.cons (.row R R) .nil)))))) R ((.row .nil)) R R R ?_
     refine r_asgW R R R (eN (qG (r_fa tb R R R R R R R (r_ldD (y := .agg [.arr 1 ((a.s_Used).map vI), .arr 1 ((a.s_Credit).map vI), .arr 1 ((a.s_Last).map vI), .v (.int .i64 a.s_Next)]) tb R R R R R R R R R ?_))))
     obtain ⟨rv9, hrv9, h⟩ := bnd h
     refine r_callN (t' := WiState_T1 rv9 11 12 13) (news' := [(lvI rv9.used), (lvI rv9.credit), (lvI rv9.last)]) (r_copied_scr hrv9) (.of (by kernel_rfl)) R R R ((.row (.row (.row .nil)))) R R R (r_fa tb R R R R R R R ?_)
     refine r_stE _ ([some ⟨4, [.d (WiPlan.d t)]⟩, some ⟨2, [.d (WiSky.d o)]⟩, some ⟨13, [Desk_T1 {a with s_Used := rv9.used, s_Credit := rv9.credit, s_Last := rv9.last, s_Next := rv9.next} 11 12 13]⟩, some ⟨3, [.d (WiTurn.d rv)]⟩, some ⟨13, [.d (.agg [.v (.slice none 0 0), .v (.slice none 0 0), .v (.slice none 0 0), .v (.int .i64 0), .v (.int .i64 0), .v (.slice none 0 0), .v (.int .i64 0), .v (.int .i64 0), .v (.bool false), .v (.int .i64 0), .v (.int .i64 0), .v (.int .i64 0), .v (.int .i64 0)])]⟩, some ⟨3, [.d (WiWindow.d e)]⟩, none, none, some (lvI [rv2]), some (lvI q6), some (lvI rv8), some (lvI rv9.used), some (lvI rv9.credit), some (lvI rv9.last)]) tb R R R R R R R R R R R R ?_
     refine eN (sw_seq (sw_dr (by kernel_rfl) (r_fa tb R R R R R R R (r_fa tb R R R R R R R (r_ldW tb R R R R R R R R R (r_movD R R R (r_fa tb R R R R R R R (r_fa tb R R R R R R R (r_ldW tb R R R R R R R R R (r_movD R R R (r_fa tb R R R R R R R (r_fa tb R R R R R R R (r_ldW tb R R R R R R R R R (r_movD R R R (r_fa tb R R R R R R R (r_fa tb R R R R R R R ?_))))))))))))))))
     refine r_ldW tb R R R R R R R R R (r_movD R R R ?_)
     obtain ⟨e6, ie6, h⟩ := bnd h
     refine r_ixI tb R R R R R R (ix0 ie6) (ix1 ie6) R R ?_
     refine r_ldD (y := .v (.int .i64 e6)) tb R R R R (ix2 (g := fun a => T.d (vI a)) ie6) R R R R ?_
     refine r_add R R R R (r_fa tb R R R R R R R (r_ldD (y := .v (.int .i64 e.day)) tb R R R R R R R R R (r_fa tb R R R R R R R (r_fa tb R R R R R R R (r_ldW tb R R R R R R R R R (r_movD R R R ?_))))))
     obtain ⟨e7, ie7, h⟩ := bnd h
     refine r_ixI tb R R R R R R (ix0 ie7) (ix1 ie7) R R ?_
     refine r_ldD (y := .v (.int .i64 e7)) tb R R R R (ix2 (g := fun a => T.d (vI a)) ie7) R R R R ?_
     refine r_fa tb R R R R R R R (r_ldD (y := .v (.int .i64 t.cost)) tb R R R R R R R R R (r_sub R R R R (r_ixI tb R R R R R R (ix0 ie6) (ix1 ie6) R R ?_)))
     obtain ⟨q7, iq7, h⟩ := bnd h
     refine r_stQ (a' := (W (e6 + 1))) tb R R R R ie6 R R R R iq7 R R ?_
     dsimp only [List.set_cons_zero, List.set_cons_succ, WiState_T1, WiState_T2, WiState_T3, Table_T1, Desk_T1, Desk_T2, Desk_T3]
     first | rw [set_len iq7] | skip
     obtain ⟨e8, ie8, h⟩ := bnd h
     refine r_ixI tb R R R R R R (ix0 ie8) (ix1 ie8) R R ?_
     obtain ⟨q8, iq8, h⟩ := bnd h
     refine r_stQ (a' := e.day) tb R R R R ie8 R R R R iq8 R R ?_
     dsimp only [List.set_cons_zero, List.set_cons_succ, WiState_T1, WiState_T2, WiState_T3, Table_T1, Desk_T1, Desk_T2, Desk_T3]
     first | rw [set_len iq8] | skip
     refine r_ixI tb R R R R R R (ix0 ie7) (ix1 ie7) R R ?_
     obtain ⟨q9, iq9, h⟩ := bnd h
     refine r_stQ (a' := (W (e7 - t.cost))) tb R R R R ie7 R R R R iq9 R R ?_
     dsimp only [List.set_cons_zero, List.set_cons_succ, WiState_T1, WiState_T2, WiState_T3, Table_T1, Desk_T1, Desk_T2, Desk_T3]
     first | rw [set_len iq9] | skip
     refine ev_endD (by kernel_rfl) (then_norm (sw_seq (qG (r_asgD R R R (eN (sw_block ?_))))))
     obtain ⟨K1, hK1, h⟩ : ∃ K, K = _ ∧ r_act_L1 F rv8 K F q9 0 = some r := ⟨_, rfl, h⟩
     refine sw_loop (st0 := ⟨[(6, .ref 0 13 0 0), (7, .ref 4 3 0 0), (8, .ref 5 13 0 0), (9, .d (.v (.int .i64 0))), (10, .d (.v (.int .i64 rv2))), (13, .row 6 1 0 (q6).length), (14, .row 7 1 0 (rv8).length), (15, .d (.v (.int .i64 0)))], [some ⟨13, [Desk_T1 {a with s_Used := q7, s_Credit := q9, s_Last := q8, s_Next := rv9.next} 1 2 3]⟩, some (lvI q7), some (lvI q9), some (lvI q8), some ⟨3, [.d (WiTurn.d rv)]⟩, some ⟨13, [.d (.agg [.v (.slice none 0 0), .v (.slice none 0 0), .v (.slice none 0 0), .v (.int .i64 0), .v (.int .i64 0), .v (.slice none 0 0), .v (.int .i64 0), .v (.int .i64 0), .v (.bool false), .v (.int .i64 0), .v (.int .i64 0), .v (.int .i64 0), .v (.int .i64 0)])]⟩, some (lvI q6), some (lvI rv8)]⟩) (κ := [2, 11, 12, 13, 3, 4, 9, 10]) (fun m st => ∃ (y : (List Int)) (x : Int), r_act_L1 F rv8 K1 m y x = some r ∧ st = ⟨[(6, .ref 0 13 0 0), (7, .ref 4 3 0 0), (8, .ref 5 13 0 0), (9, .d (.v (.int .i64 0))), (10, .d (.v (.int .i64 rv2))), (13, .row 6 1 0 (q6).length), (14, .row 7 1 0 (rv8).length), (15, .d (.v (.int .i64 x)))], [some ⟨13, [Desk_T1 {a with s_Used := q7, s_Credit := y, s_Last := q8, s_Next := rv9.next} 1 2 3]⟩, some (lvI q7), some (lvI y), some (lvI q8), some ⟨3, [.d (WiTurn.d rv)]⟩, some ⟨13, [.d (.agg [.v (.slice none 0 0), .v (.slice none 0 0), .v (.slice none 0 0), .v (.int .i64 0), .v (.int .i64 0), .v (.slice none 0 0), .v (.int .i64 0), .v (.int .i64 0), .v (.bool false), .v (.int .i64 0), .v (.int .i64 0), .v (.int .i64 0), .v (.int .i64 0)])]⟩, some (lvI q6), some (lvI rv8)]⟩) (vwK R R (.cons R R (.row R (.row R (.row R (.cons R R (.cons R R (.row R (.row R .nil)))))))) (.cons R R (.cons R R (.cons R R (.cons R R (.cons R R (.cons R R (.cons R R (.cons R R .nil))))))))) ⟨q9, 0, h, R⟩ ?_
     clear h
     rintro m1 st ⟨y, x, h, rfl⟩
     cases m1 with
     | zero => cases (show (none : Option (Desk × Int)) = some r from h)
     | succ m1 =>
     rw [r_act_L1] at h
     refine sw_seq (qG (r_movD R R R (r_movW R R R (r_lenR tb R R R R R ?_))))
     refine r_lss R R R R ?_ ?_
     ·intro c11
      replace h := ifP c11 h
      refine eN (sw_condT R (sw_skip (then_norm (sw_seq (sw_block (sw_dr (by kernel_rfl) (r_fa tb R R R R R R R (r_fa tb R R R R R R R (r_ldW tb R R R R R R R R R (r_movW R R R (r_movD R R R ?_)))))))))))
      obtain ⟨e9, ie9, h⟩ := bnd h
      refine r_ixI tb R R R R R R (ix0 ie9) (ix1 ie9) R R ?_
      refine r_ldD (y := .v (.int .i64 e9)) tb R R R R (ix2 (g := fun a => T.d (vI a)) ie9) R R R R ?_
      obtain ⟨e10, ie10, h⟩ := bnd h
      refine r_ixI tb R R R R R R (ix0 ie10) (ix1 ie10) R R ?_
      refine r_ldD (y := .v (.int .i64 e10)) tb R R R R (ix2 (g := fun a => T.d (vI a)) ie10) R R R R ?_
      refine r_add R R R R (r_ixI tb R R R R R R (ix0 ie10) (ix1 ie10) R R ?_)
      obtain ⟨y2, iy2, h⟩ := bnd h
      refine r_stQ (a' := (W (e10 + 1))) tb R R R R ie10 R R R R iy2 R R ?_
      dsimp only [List.set_cons_zero, List.set_cons_succ, WiState_T1, WiState_T2, WiState_T3, Table_T1, Desk_T1, Desk_T2, Desk_T3]
      first | rw [set_len iy2] | skip
      refine ev_endD (by kernel_rfl) (block_norm (then_norm (sw_rg (r_movD R R R (r_add R R R R (r_asgD R R R (eN ?_)))))))
      exact ⟨m1, ⟨[(6, .ref 0 13 0 0), (7, .ref 4 3 0 0), (8, .ref 5 13 0 0), (9, .d (.v (.int .i64 0))), (10, .d (.v (.int .i64 rv2))), (13, .row 6 1 0 (q6).length), (14, .row 7 1 0 (rv8).length), (15, .d (.v (.int .i64 (W (x + 1)))))], [some ⟨13, [Desk_T1 {a with s_Used := q7, s_Credit := y2, s_Last := q8, s_Next := rv9.next} 1 2 3]⟩, some (lvI q7), some (lvI y2), some (lvI q8), some ⟨3, [.d (WiTurn.d rv)]⟩, some ⟨13, [.d (.agg [.v (.slice none 0 0), .v (.slice none 0 0), .v (.slice none 0 0), .v (.int .i64 0), .v (.int .i64 0), .v (.slice none 0 0), .v (.int .i64 0), .v (.int .i64 0), .v (.bool false), .v (.int .i64 0), .v (.int .i64 0), .v (.int .i64 0), .v (.int .i64 0)])]⟩, some (lvI q6), some (lvI rv8)]⟩, [0, 1, 2, 3, 4, 5, 6, 7], Nat.lt_succ_self _, (vwK R R (.cons R R (.row R (.row R (.row R (.cons R R (.cons R R (.row R (.row R .nil)))))))) (.cons R R (.cons R R (.cons R R (.cons R R (.cons R R (.cons R R (.cons R R (.cons R R .nil))))))))), y2, (W (x + 1)), h, R⟩
     intro c11
     replace h := ifN (Int.not_lt.2 c11) h
     refine eN (sw_condF R (sw_exit (then_exit (then_exit ?_))))
     subst hK1
     refine block_exit (then_norm (sw_seq (sw_dr (by kernel_rfl) (r_fa tb R R R R R R R (r_fa tb R R R R R R R (r_ldD (y := .v (.int .i64 rv9.next)) tb R R R R R R R R R (r_movD R R R (r_fa tb R R R R R R R (r_ldD (y := .v (.int .i64 rv.at_)) tb R R R R R R R R R (r_build (v := .d (.agg [.v (.int .i64 rv9.next), .v (.int .i64 rv2), .v (.int .i64 rv.at_), .v (.int .i64 (-1))])) tb R R (List.cons_ne_nil _ _) R R R R R R (r_fa tb R R R R R R R ?_)))))))))))
     refine r_stE _ ([some ⟨13, [Desk_T1 {a with s_Used := q7, s_Credit := y, s_Last := q8, s_Next := rv9.next, over := true} 1 2 3]⟩, some (lvI q7), some (lvI y), some (lvI q8), some ⟨3, [.d (WiTurn.d rv)]⟩, some ⟨13, [.d (.agg [.v (.slice none 0 0), .v (.slice none 0 0), .v (.slice none 0 0), .v (.int .i64 0), .v (.int .i64 0), .v (.slice none 0 0), .v (.int .i64 0), .v (.int .i64 0), .v (.bool false), .v (.int .i64 0), .v (.int .i64 0), .v (.int .i64 0), .v (.int .i64 0)])]⟩, some (lvI q6), some (lvI rv8)]) tb R R R R R R R R R R R R ?_
     refine r_fa tb R R R R R R R ?_
     refine r_stE _ ([some ⟨13, [Desk_T1 (Desk.mk q7 y q8 rv9.next a.minute a.done a.given a.by_ true rv9.next rv2 rv.at_ (-1)) 1 2 3]⟩, some (lvI q7), some (lvI y), some (lvI q8), some ⟨3, [.d (WiTurn.d rv)]⟩, some ⟨13, [.d (.agg [.v (.slice none 0 0), .v (.slice none 0 0), .v (.slice none 0 0), .v (.int .i64 0), .v (.int .i64 0), .v (.slice none 0 0), .v (.int .i64 0), .v (.int .i64 0), .v (.bool false), .v (.int .i64 0), .v (.int .i64 0), .v (.int .i64 0), .v (.int .i64 0)])]⟩, some (lvI q6), some (lvI rv8)]) tb R R R R R R R R R R R R ?_
     refine ev_endD (by kernel_rfl) (then_norm (qG (r_fa tb R R R R R R R (r_ldD (y := .v (.int .i64 a.given)) tb R R R R R R R R R ?_))))
     refine r_geq R R R R ?_ ?_
     ·intro c12
      replace h := ifP c12 h
      refine eN (sw_condT R (sw_rg (r_fa tb R R R R R R R (r_ldD (y := .v (.int .i64 a.by_)) tb R R R R R R R R R (r_fa tb R R R R R R R (r_fa tb R R R R R R R ?_))))))
      refine r_stE _ ([some ⟨13, [Desk_T1 (Desk.mk q7 y q8 rv9.next a.minute a.done a.given a.by_ true rv9.next rv2 rv.at_ a.by_) 1 2 3]⟩, some (lvI q7), some (lvI y), some (lvI q8), some ⟨3, [.d (WiTurn.d rv)]⟩, some ⟨13, [.d (.agg [.v (.slice none 0 0), .v (.slice none 0 0), .v (.slice none 0 0), .v (.int .i64 0), .v (.int .i64 0), .v (.slice none 0 0), .v (.int .i64 0), .v (.int .i64 0), .v (.bool false), .v (.int .i64 0), .v (.int .i64 0), .v (.int .i64 0), .v (.int .i64 0)])]⟩, some (lvI q6), some (lvI rv8)]) tb R R R R R R R R R R R R (eN (sw_seq ?_))
      refine sw_dr (by kernel_rfl) (r_movW R R R (r_fa tb R R R R R R R (r_ldD (y := .v (.int .i64 rv.at_)) tb R R R R R R R R R (r_fa tb R R R R R R R ?_))))
      refine r_stE _ ([some ⟨13, [Desk_T2 (Desk.mk q7 y q8 rv9.next a.minute q6 a.given a.by_ true rv9.next rv2 rv.at_ a.by_) 1 2 3 6]⟩, some (lvI q7), some (lvI y), some (lvI q8), some ⟨3, [.d (WiTurn.d rv)]⟩, some ⟨13, [.d (.agg [.v (.slice none 0 0), .v (.slice none 0 0), .v (.slice none 0 0), .v (.int .i64 0), .v (.int .i64 0), .v (.slice none 0 0), .v (.int .i64 0), .v (.int .i64 0), .v (.bool false), .v (.int .i64 0), .v (.int .i64 0), .v (.int .i64 0), .v (.int .i64 0)])]⟩, some (lvI q6), some (lvI rv8)]) tb R R R R R R R R R R R R ?_
      refine r_fa tb R R R R R R R ?_
      refine r_stE _ ([some ⟨13, [Desk_T2 (Desk.mk q7 y q8 rv9.next rv.at_ q6 a.given a.by_ true rv9.next rv2 rv.at_ a.by_) 1 2 3 6]⟩, some (lvI q7), some (lvI y), some (lvI q8), some ⟨3, [.d (WiTurn.d rv)]⟩, some ⟨13, [.d (.agg [.v (.slice none 0 0), .v (.slice none 0 0), .v (.slice none 0 0), .v (.int .i64 0), .v (.int .i64 0), .v (.slice none 0 0), .v (.int .i64 0), .v (.int .i64 0), .v (.bool false), .v (.int .i64 0), .v (.int .i64 0), .v (.int .i64 0), .v (.int .i64 0)])]⟩, some (lvI q6), some (lvI rv8)]) tb R R R R R R R R R R R R ?_
      refine r_fa tb R R R R R R R ?_
      refine r_stE _ ([some ⟨13, [Desk_T2 (Desk.mk q7 y q8 rv9.next rv.at_ q6 (-1) a.by_ true rv9.next rv2 rv.at_ a.by_) 1 2 3 6]⟩, some (lvI q7), some (lvI y), some (lvI q8), some ⟨3, [.d (WiTurn.d rv)]⟩, some ⟨13, [.d (.agg [.v (.slice none 0 0), .v (.slice none 0 0), .v (.slice none 0 0), .v (.int .i64 0), .v (.int .i64 0), .v (.slice none 0 0), .v (.int .i64 0), .v (.int .i64 0), .v (.bool false), .v (.int .i64 0), .v (.int .i64 0), .v (.int .i64 0), .v (.int .i64 0)])]⟩, some (lvI q6), some (lvI rv8)]) tb R R R R R R R R R R R R (ev_endD (by kernel_rfl) ?_)
      refine then_norm (qG (r_ldG tb R R R R R R R R R (r_stE _ ([some ⟨13, [Desk_T2 (Desk.mk q7 y q8 rv9.next rv.at_ q6 (-1) a.by_ true rv9.next rv2 rv.at_ a.by_) 1 2 3 6]⟩, some (lvI q7), some (lvI y), some (lvI q8), some ⟨3, [.d (WiTurn.d rv)]⟩, some ⟨13, [Desk_T2 (Desk.mk q7 y q8 rv9.next rv.at_ q6 (-1) a.by_ true rv9.next rv2 rv.at_ a.by_) 1 2 3 6]⟩, some (lvI q6), some (lvI rv8)]) tb R R R R R R R R R R R R (r_asgD R R R (eN (sw_ret ?_))))))
      obtain rfl := sI h
      exact (fin_S (t := .tup [Desk_T2 (Desk.mk q7 y q8 rv9.next rv.at_ q6 (-1) a.by_ true rv9.next rv2 rv.at_ a.by_) 0 1 2 3, .d (.v (.int .i64 0))]) (L := [some (lvI q7), some (lvI y), some (lvI q8), some (lvI q6)]) (κ := [1, 2, 3, 6]) R (.cons (rcell tb (u := Desk_T2 (Desk.mk q7 y q8 rv9.next rv.at_ q6 (-1) a.by_ true rv9.next rv2 rv.at_ a.by_) 1 2 3 6) R R R R R R R) (.cons (.tmp 9) .nil)) (vwK R R (.row R (.row R (.row R (.row R .nil)))) (.cons R R .nil)) ⟨_, R, (.tupL (.cons (.aggL (.cons (.row R R) (.cons (.row R R) (.cons (.row R R) (.cons (.d _) (.cons (.d _) (.cons (.row R R) (.cons (.d _) (.cons (.d _) (.cons (.d _) (.cons (.d _) (.cons (.d _) (.cons (.d _) (.cons (.d _) .nil)))))))))))))) (.cons (.d _) .nil)))⟩)
     intro c12
     replace h := ifN (Int.not_le.2 c12) h
     refine eN (sw_condF R (sw_skip (then_norm (sw_seq (sw_dr (by kernel_rfl) (r_movW R R R (r_fa tb R R R R R R R (r_ldD (y := .v (.int .i64 rv.at_)) tb R R R R R R R R R (r_fa tb R R R R R R R ?_)))))))))
     refine r_stE _ ([some ⟨13, [Desk_T2 (Desk.mk q7 y q8 rv9.next a.minute q6 a.given a.by_ true rv9.next rv2 rv.at_ (-1)) 1 2 3 6]⟩, some (lvI q7), some (lvI y), some (lvI q8), some ⟨3, [.d (WiTurn.d rv)]⟩, some ⟨13, [.d (.agg [.v (.slice none 0 0), .v (.slice none 0 0), .v (.slice none 0 0), .v (.int .i64 0), .v (.int .i64 0), .v (.slice none 0 0), .v (.int .i64 0), .v (.int .i64 0), .v (.bool false), .v (.int .i64 0), .v (.int .i64 0), .v (.int .i64 0), .v (.int .i64 0)])]⟩, some (lvI q6), some (lvI rv8)]) tb R R R R R R R R R R R R ?_
     refine r_fa tb R R R R R R R ?_
     refine r_stE _ ([some ⟨13, [Desk_T2 (Desk.mk q7 y q8 rv9.next rv.at_ q6 a.given a.by_ true rv9.next rv2 rv.at_ (-1)) 1 2 3 6]⟩, some (lvI q7), some (lvI y), some (lvI q8), some ⟨3, [.d (WiTurn.d rv)]⟩, some ⟨13, [.d (.agg [.v (.slice none 0 0), .v (.slice none 0 0), .v (.slice none 0 0), .v (.int .i64 0), .v (.int .i64 0), .v (.slice none 0 0), .v (.int .i64 0), .v (.int .i64 0), .v (.bool false), .v (.int .i64 0), .v (.int .i64 0), .v (.int .i64 0), .v (.int .i64 0)])]⟩, some (lvI q6), some (lvI rv8)]) tb R R R R R R R R R R R R ?_
     refine r_fa tb R R R R R R R ?_
     refine r_stE _ ([some ⟨13, [Desk_T2 (Desk.mk q7 y q8 rv9.next rv.at_ q6 (-1) a.by_ true rv9.next rv2 rv.at_ (-1)) 1 2 3 6]⟩, some (lvI q7), some (lvI y), some (lvI q8), some ⟨3, [.d (WiTurn.d rv)]⟩, some ⟨13, [.d (.agg [.v (.slice none 0 0), .v (.slice none 0 0), .v (.slice none 0 0), .v (.int .i64 0), .v (.int .i64 0), .v (.slice none 0 0), .v (.int .i64 0), .v (.int .i64 0), .v (.bool false), .v (.int .i64 0), .v (.int .i64 0), .v (.int .i64 0), .v (.int .i64 0)])]⟩, some (lvI q6), some (lvI rv8)]) tb R R R R R R R R R R R R (ev_endD (by kernel_rfl) ?_)
     refine then_norm (qG (r_ldG tb R R R R R R R R R (r_stE _ ([some ⟨13, [Desk_T2 (Desk.mk q7 y q8 rv9.next rv.at_ q6 (-1) a.by_ true rv9.next rv2 rv.at_ (-1)) 1 2 3 6]⟩, some (lvI q7), some (lvI y), some (lvI q8), some ⟨3, [.d (WiTurn.d rv)]⟩, some ⟨13, [Desk_T2 (Desk.mk q7 y q8 rv9.next rv.at_ q6 (-1) a.by_ true rv9.next rv2 rv.at_ (-1)) 1 2 3 6]⟩, some (lvI q6), some (lvI rv8)]) tb R R R R R R R R R R R R (r_asgD R R R (eN (sw_ret ?_))))))
     obtain rfl := sI h
     exact (fin_S (t := .tup [Desk_T2 (Desk.mk q7 y q8 rv9.next rv.at_ q6 (-1) a.by_ true rv9.next rv2 rv.at_ (-1)) 0 1 2 3, .d (.v (.int .i64 0))]) (L := [some (lvI q7), some (lvI y), some (lvI q8), some (lvI q6)]) (κ := [1, 2, 3, 6]) R (.cons (rcell tb (u := Desk_T2 (Desk.mk q7 y q8 rv9.next rv.at_ q6 (-1) a.by_ true rv9.next rv2 rv.at_ (-1)) 1 2 3 6) R R R R R R R) (.cons (.tmp 9) .nil)) (vwK R R (.row R (.row R (.row R (.row R .nil)))) (.cons R R .nil)) ⟨_, R, (.tupL (.cons (.aggL (.cons (.row R R) (.cons (.row R R) (.cons (.row R R) (.cons (.d _) (.cons (.d _) (.cons (.row R R) (.cons (.d _) (.cons (.d _) (.cons (.d _) (.cons (.d _) (.cons (.d _) (.cons (.d _) (.cons (.d _) .nil)))))))))))))) (.cons (.d _) .nil)))⟩)
    intro c10
    replace h := ifN c10 h
    refine eN (sw_condF R (sw_skip (then_norm (sw_seq (sw_dr (by kernel_rfl) (r_movW R R R (r_fa tb R R R R R R R (r_ldD (y := .v (.int .i64 rv.at_)) tb R R R R R R R R R (r_fa tb R R R R R R R ?_)))))))))
    refine r_stE _ ([some ⟨4, [.d (WiPlan.d t)]⟩, some ⟨2, [.d (WiSky.d o)]⟩, some ⟨13, [Desk_T3 {a with done := q6} 9]⟩, some ⟨3, [.d (WiTurn.d rv)]⟩, some ⟨13, [.d (.agg [.v (.slice none 0 0), .v (.slice none 0 0), .v (.slice none 0 0), .v (.int .i64 0), .v (.int .i64 0), .v (.slice none 0 0), .v (.int .i64 0), .v (.int .i64 0), .v (.bool false), .v (.int .i64 0), .v (.int .i64 0), .v (.int .i64 0), .v (.int .i64 0)])]⟩, some ⟨3, [.d (WiWindow.d e)]⟩, none, none, some (lvI [rv2]), some (lvI q6)]) tb R R R R R R R R R R R R ?_
    refine r_fa tb R R R R R R R ?_
    refine r_stE _ ([some ⟨4, [.d (WiPlan.d t)]⟩, some ⟨2, [.d (WiSky.d o)]⟩, some ⟨13, [Desk_T3 {a with minute := rv.at_, done := q6} 9]⟩, some ⟨3, [.d (WiTurn.d rv)]⟩, some ⟨13, [.d (.agg [.v (.slice none 0 0), .v (.slice none 0 0), .v (.slice none 0 0), .v (.int .i64 0), .v (.int .i64 0), .v (.slice none 0 0), .v (.int .i64 0), .v (.int .i64 0), .v (.bool false), .v (.int .i64 0), .v (.int .i64 0), .v (.int .i64 0), .v (.int .i64 0)])]⟩, some ⟨3, [.d (WiWindow.d e)]⟩, none, none, some (lvI [rv2]), some (lvI q6)]) tb R R R R R R R R R R R R ?_
    refine r_fa tb R R R R R R R ?_
    refine r_stE _ ([some ⟨4, [.d (WiPlan.d t)]⟩, some ⟨2, [.d (WiSky.d o)]⟩, some ⟨13, [Desk_T3 {a with minute := rv.at_, done := q6, given := (-1)} 9]⟩, some ⟨3, [.d (WiTurn.d rv)]⟩, some ⟨13, [.d (.agg [.v (.slice none 0 0), .v (.slice none 0 0), .v (.slice none 0 0), .v (.int .i64 0), .v (.int .i64 0), .v (.slice none 0 0), .v (.int .i64 0), .v (.int .i64 0), .v (.bool false), .v (.int .i64 0), .v (.int .i64 0), .v (.int .i64 0), .v (.int .i64 0)])]⟩, some ⟨3, [.d (WiWindow.d e)]⟩, none, none, some (lvI [rv2]), some (lvI q6)]) tb R R R R R R R R R R R R ?_
    refine ev_endD (by kernel_rfl) (then_norm (qG (r_ldG tb R R R R R R R R R (r_stE _ ([some ⟨4, [.d (WiPlan.d t)]⟩, some ⟨2, [.d (WiSky.d o)]⟩, some ⟨13, [Desk_T3 {a with minute := rv.at_, done := q6, given := (-1)} 9]⟩, some ⟨3, [.d (WiTurn.d rv)]⟩, some ⟨13, [Desk_T3 {a with minute := rv.at_, done := q6, given := (-1)} 9]⟩, some ⟨3, [.d (WiWindow.d e)]⟩, none, none, some (lvI [rv2]), some (lvI q6)]) tb R R R R R R R R R R R R (r_asgD R R R (eN (sw_ret ?_)))))))
    obtain rfl := sI h
    exact (fin_S (t := .tup [Desk_T3 {a with minute := rv.at_, done := q6, given := (-1)} 0, .d (.v (.int .i64 0))]) (L := [some (lvI q6)]) (κ := [9]) R (.cons (rcell tb (u := Desk_T3 {a with minute := rv.at_, done := q6, given := (-1)} 9) R R R R R R R) (.cons (.tmp 9) .nil)) (vwK R R (.row R .nil) (.cons R R .nil)) ⟨_, R, (.tupL (.cons (.aggL (.cons (.d _) (.cons (.d _) (.cons (.d _) (.cons (.d _) (.cons (.d _) (.cons (.row R R) (.cons (.d _) (.cons (.d _) (.cons (.d _) (.cons (.d _) (.cons (.d _) (.cons (.d _) (.cons (.d _) .nil)))))))))))))) (.cons (.d _) .nil)))⟩)
   intro c9
   replace h := ifF c9 h
   refine r_notF R R R (r_pickF R R R R (eN (sw_condT R (qG (r_ldD (y := Desk.d a) tb R R R R R R R R R (r_stE _ ([some ⟨4, [.d (WiPlan.d t)]⟩, some ⟨2, [.d (WiSky.d o)]⟩, some ⟨13, [.d (Desk.d a)]⟩, some ⟨3, [.d (WiTurn.d rv)]⟩, some ⟨13, [.d (Desk.d a)]⟩, some ⟨3, [.d (WiWindow.d e)]⟩]) tb R R R R R R R R R R R R (r_asgD R R R (eN (sw_ret (then_ret ?_))))))))))
   obtain rfl := sI h
   exact (fin_S (t := .d (.tup [Desk.d a, .v (.int .i64 7)])) (L := []) (κ := []) R (.cons (rcell tb (u := .d (Desk.d a)) R R R R R R R) (.cons (.tmp 9) .nil)) (vwK R R .nil (.cons R R .nil)) ⟨_, R, (.d _)⟩)
  intro c7
  replace h := ifN c7 h
  refine eN (sw_condF R (sw_skip (then_norm (sw_seq (qG (r_fa tb R R R R R R R (r_ldD (y := .v (.int .i64 rv.to_)) tb R R R R R R R R R ?_)))))))
  refine r_neq R R R R ?_ ?_
  ·intro c13
   replace h := ifN c13 h
   refine r_movD R R R (r_skip R R R (r_skip R R R (r_skip R R R (r_skip R R R (r_skip R R R (r_skip R R R (r_skip R R R (r_pickT R R R R (eN (sw_condT R (qG (r_ldD (y := Desk.d a) tb R R R R R R R R R (r_stE _ ([some ⟨4, [.d (WiPlan.d t)]⟩, some ⟨2, [.d (WiSky.d o)]⟩, some ⟨13, [.d (Desk.d a)]⟩, some ⟨3, [.d (WiTurn.d rv)]⟩, some ⟨13, [.d (Desk.d a)]⟩, some ⟨3, [.d (WiWindow.d e)]⟩]) tb R R R R R R R R R R R R (r_asgD R R R (eN (sw_ret (then_ret ?_)))))))))))))))))
   obtain rfl := sI h
   exact (fin_S (t := .d (.tup [Desk.d a, .v (.int .i64 7)])) (L := []) (κ := []) R (.cons (rcell tb (u := .d (Desk.d a)) R R R R R R R) (.cons (.tmp 9) .nil)) (vwK R R .nil (.cons R R .nil)) ⟨_, R, (.d _)⟩)
  intro c13
  replace h := ifP c13 h
  refine r_movD R R R (r_fa tb R R R R R R R (r_ldD (y := .v (.int .i64 rv.at_)) tb R R R R R R R R R (r_movD R R R (r_fa tb R R R R R R R (r_ldD (y := .v (.int .i64 e.until_)) tb R R R R R R R R R ?_)))))
  obtain ⟨rv10, hrv10, h⟩ := bnd h
  refine r_callB (r_in_pc hrv10) (.of (by kernel_rfl)) R R R R ?_ ?_
  ·intro c14
   replace h := ifP c14 h
   refine r_notT R R R (r_pickF R R R R (eN (sw_condF R (sw_skip (then_norm (qG (r_bslice tb R R R R R R R R R R R R R (r_fa tb R R R R R R R (r_ldD (y := .arr 1 ((a.done).map vI)) tb R R R R R R R R R ?_)))))))))
   obtain ⟨q10, iq10, h⟩ := bnd h
   refine r_apEM (g := vI) (w := ([] : List Int)) (v := a.done) ([some ⟨4, [.d (WiPlan.d t)]⟩, some ⟨2, [.d (WiSky.d o)]⟩, some ⟨13, [.d (Desk.d a)]⟩, some ⟨3, [.d (WiTurn.d rv)]⟩, some ⟨13, [.d (.agg [.v (.slice none 0 0), .v (.slice none 0 0), .v (.slice none 0 0), .v (.int .i64 0), .v (.int .i64 0), .v (.slice none 0 0), .v (.int .i64 0), .v (.int .i64 0), .v (.bool false), .v (.int .i64 0), .v (.int .i64 0), .v (.int .i64 0), .v (.int .i64 0)])]⟩, some ⟨3, [.d (WiWindow.d e)]⟩, none]) tb R R R R R R R R (by intro _; exact R) iq10 R R R R R ?_
   refine r_movD R R R (r_bslice tb R R R R R R R R R R R R R ?_)
   obtain ⟨q11, iq11, h⟩ := bnd h
   refine r_apM (g := vI) (w := q10) (v := [rv2]) ([some ⟨4, [.d (WiPlan.d t)]⟩, some ⟨2, [.d (WiSky.d o)]⟩, some ⟨13, [.d (Desk.d a)]⟩, some ⟨3, [.d (WiTurn.d rv)]⟩, some ⟨13, [.d (.agg [.v (.slice none 0 0), .v (.slice none 0 0), .v (.slice none 0 0), .v (.int .i64 0), .v (.int .i64 0), .v (.slice none 0 0), .v (.int .i64 0), .v (.int .i64 0), .v (.bool false), .v (.int .i64 0), .v (.int .i64 0), .v (.int .i64 0), .v (.int .i64 0)])]⟩, some ⟨3, [.d (WiWindow.d e)]⟩, none, none, some (lvI [rv2])]) tb R R R R R R R R R R R iq11 R R R R R ?_
   refine r_asgW R R R (eN (sw_seq (qG (r_fa tb R R R R R R R (r_ldD (y := .v (.int .i64 rv.what)) tb R R R R R R R R R ?_)))))
   refine r_eql R R R R ?_ ?_
   ·intro c15
    replace h := ifP c15 h
    refine eN (sw_condT R (qG (r_ldD (y := WiPlan.d t) tb R R R R R R R R R (r_fa tb R R R R R R R (r_ldD (y := .agg [.arr 1 ((a.s_Used).map vI), .arr 1 ((a.s_Credit).map vI), .arr 1 ((a.s_Last).map vI), .v (.int .i64 a.s_Next)]) tb R R R R R R R R R (r_ldD (y := WiSky.d o) tb R R R R R R R R R (r_fa tb R R R R R R R (r_ldD (y := .v (.int .i64 a.minute)) tb R R R R R R R R R (r_movW R R R ?_)))))))))
    obtain ⟨rv11, hrv11, h⟩ := bnd h
    refine r_callLN (t' := .row 10 1 0 (rv11).length) (news' := [(lvI rv11)]) (r_rights_scr hrv11) R ((.row (fun _ => rfl) .nil)) (.of (by kernel_rfl)) R R ((.cons (.d _) (.cons (.d _) (.cons (.d _) (.cons (.d _) (.cons (.row R R) .nil)))))) R ((.row .nil)) R R R ?_
    refine r_asgW R R R (eN (qG (r_fa tb R R R R R R R (r_ldD (y := .agg [.arr 1 ((a.s_Used).map vI), .arr 1 ((a.s_Credit).map vI), .arr 1 ((a.s_Last).map vI), .v (.int .i64 a.s_Next)]) tb R R R R R R R R R ?_))))
    obtain ⟨rv12, hrv12, h⟩ := bnd h
    refine r_callN (t' := WiState_T1 rv12 11 12 13) (news' := [(lvI rv12.used), (lvI rv12.credit), (lvI rv12.last)]) (r_copied_scr hrv12) (.of (by kernel_rfl)) R R R ((.row (.row (.row .nil)))) R R R (r_fa tb R R R R R R R ?_)
    refine r_stE _ ([some ⟨4, [.d (WiPlan.d t)]⟩, some ⟨2, [.d (WiSky.d o)]⟩, some ⟨13, [Desk_T1 {a with s_Used := rv12.used, s_Credit := rv12.credit, s_Last := rv12.last, s_Next := rv12.next} 11 12 13]⟩, some ⟨3, [.d (WiTurn.d rv)]⟩, some ⟨13, [.d (.agg [.v (.slice none 0 0), .v (.slice none 0 0), .v (.slice none 0 0), .v (.int .i64 0), .v (.int .i64 0), .v (.slice none 0 0), .v (.int .i64 0), .v (.int .i64 0), .v (.bool false), .v (.int .i64 0), .v (.int .i64 0), .v (.int .i64 0), .v (.int .i64 0)])]⟩, some ⟨3, [.d (WiWindow.d e)]⟩, none, none, some (lvI [rv2]), some (lvI q11), some (lvI rv11), some (lvI rv12.used), some (lvI rv12.credit), some (lvI rv12.last)]) tb R R R R R R R R R R R R ?_
    refine eN (sw_seq (sw_dr (by kernel_rfl) (r_fa tb R R R R R R R (r_fa tb R R R R R R R (r_ldW tb R R R R R R R R R (r_movD R R R (r_fa tb R R R R R R R (r_fa tb R R R R R R R (r_ldW tb R R R R R R R R R (r_movD R R R (r_fa tb R R R R R R R (r_fa tb R R R R R R R (r_ldW tb R R R R R R R R R (r_movD R R R (r_fa tb R R R R R R R (r_fa tb R R R R R R R ?_))))))))))))))))
    refine r_ldW tb R R R R R R R R R (r_movD R R R ?_)
    obtain ⟨e11, ie11, h⟩ := bnd h
    refine r_ixI tb R R R R R R (ix0 ie11) (ix1 ie11) R R ?_
    refine r_ldD (y := .v (.int .i64 e11)) tb R R R R (ix2 (g := fun a => T.d (vI a)) ie11) R R R R ?_
    refine r_add R R R R (r_fa tb R R R R R R R (r_ldD (y := .v (.int .i64 e.day)) tb R R R R R R R R R (r_fa tb R R R R R R R (r_fa tb R R R R R R R (r_ldW tb R R R R R R R R R (r_movD R R R ?_))))))
    obtain ⟨e12, ie12, h⟩ := bnd h
    refine r_ixI tb R R R R R R (ix0 ie12) (ix1 ie12) R R ?_
    refine r_ldD (y := .v (.int .i64 e12)) tb R R R R (ix2 (g := fun a => T.d (vI a)) ie12) R R R R ?_
    refine r_fa tb R R R R R R R (r_ldD (y := .v (.int .i64 t.cost)) tb R R R R R R R R R (r_sub R R R R (r_ixI tb R R R R R R (ix0 ie11) (ix1 ie11) R R ?_)))
    obtain ⟨q12, iq12, h⟩ := bnd h
    refine r_stQ (a' := (W (e11 + 1))) tb R R R R ie11 R R R R iq12 R R ?_
    dsimp only [List.set_cons_zero, List.set_cons_succ, WiState_T1, WiState_T2, WiState_T3, Table_T1, Desk_T1, Desk_T2, Desk_T3]
    first | rw [set_len iq12] | skip
    obtain ⟨e13, ie13, h⟩ := bnd h
    refine r_ixI tb R R R R R R (ix0 ie13) (ix1 ie13) R R ?_
    obtain ⟨q13, iq13, h⟩ := bnd h
    refine r_stQ (a' := e.day) tb R R R R ie13 R R R R iq13 R R ?_
    dsimp only [List.set_cons_zero, List.set_cons_succ, WiState_T1, WiState_T2, WiState_T3, Table_T1, Desk_T1, Desk_T2, Desk_T3]
    first | rw [set_len iq13] | skip
    refine r_ixI tb R R R R R R (ix0 ie12) (ix1 ie12) R R ?_
    obtain ⟨q14, iq14, h⟩ := bnd h
    refine r_stQ (a' := (W (e12 - t.cost))) tb R R R R ie12 R R R R iq14 R R ?_
    dsimp only [List.set_cons_zero, List.set_cons_succ, WiState_T1, WiState_T2, WiState_T3, Table_T1, Desk_T1, Desk_T2, Desk_T3]
    first | rw [set_len iq14] | skip
    refine ev_endD (by kernel_rfl) (then_norm (sw_seq (qG (r_asgD R R R (eN (sw_block ?_))))))
    obtain ⟨K2, hK2, h⟩ : ∃ K, K = _ ∧ r_act_L2 F rv11 K F q14 0 = some r := ⟨_, rfl, h⟩
    refine sw_loop (st0 := ⟨[(6, .ref 0 13 0 0), (7, .ref 4 3 0 0), (8, .ref 5 13 0 0), (9, .d (.v (.int .i64 0))), (10, .d (.v (.int .i64 rv2))), (13, .row 6 1 0 (q11).length), (14, .row 7 1 0 (rv11).length), (15, .d (.v (.int .i64 0)))], [some ⟨13, [Desk_T1 {a with s_Used := q12, s_Credit := q14, s_Last := q13, s_Next := rv12.next} 1 2 3]⟩, some (lvI q12), some (lvI q14), some (lvI q13), some ⟨3, [.d (WiTurn.d rv)]⟩, some ⟨13, [.d (.agg [.v (.slice none 0 0), .v (.slice none 0 0), .v (.slice none 0 0), .v (.int .i64 0), .v (.int .i64 0), .v (.slice none 0 0), .v (.int .i64 0), .v (.int .i64 0), .v (.bool false), .v (.int .i64 0), .v (.int .i64 0), .v (.int .i64 0), .v (.int .i64 0)])]⟩, some (lvI q11), some (lvI rv11)]⟩) (κ := [2, 11, 12, 13, 3, 4, 9, 10]) (fun m st => ∃ (y3 : (List Int)) (x2 : Int), r_act_L2 F rv11 K2 m y3 x2 = some r ∧ st = ⟨[(6, .ref 0 13 0 0), (7, .ref 4 3 0 0), (8, .ref 5 13 0 0), (9, .d (.v (.int .i64 0))), (10, .d (.v (.int .i64 rv2))), (13, .row 6 1 0 (q11).length), (14, .row 7 1 0 (rv11).length), (15, .d (.v (.int .i64 x2)))], [some ⟨13, [Desk_T1 {a with s_Used := q12, s_Credit := y3, s_Last := q13, s_Next := rv12.next} 1 2 3]⟩, some (lvI q12), some (lvI y3), some (lvI q13), some ⟨3, [.d (WiTurn.d rv)]⟩, some ⟨13, [.d (.agg [.v (.slice none 0 0), .v (.slice none 0 0), .v (.slice none 0 0), .v (.int .i64 0), .v (.int .i64 0), .v (.slice none 0 0), .v (.int .i64 0), .v (.int .i64 0), .v (.bool false), .v (.int .i64 0), .v (.int .i64 0), .v (.int .i64 0), .v (.int .i64 0)])]⟩, some (lvI q11), some (lvI rv11)]⟩) (vwK R R (.cons R R (.row R (.row R (.row R (.cons R R (.cons R R (.row R (.row R .nil)))))))) (.cons R R (.cons R R (.cons R R (.cons R R (.cons R R (.cons R R (.cons R R (.cons R R .nil))))))))) ⟨q14, 0, h, R⟩ ?_
    clear h
    rintro m2 st ⟨y3, x2, h, rfl⟩
    cases m2 with
    | zero => cases (show (none : Option (Desk × Int)) = some r from h)
    | succ m2 =>
    rw [r_act_L2] at h
    refine sw_seq (qG (r_movD R R R (r_movW R R R (r_lenR tb R R R R R ?_))))
    refine r_lss R R R R ?_ ?_
    ·intro c16
     replace h := ifP c16 h
     refine eN (sw_condT R (sw_skip (then_norm (sw_seq (sw_block (sw_dr (by kernel_rfl) (r_fa tb R R R R R R R (r_fa tb R R R R R R R (r_ldW tb R R R R R R R R R (r_movW R R R (r_movD R R R ?_)))))))))))
     obtain ⟨e14, ie14, h⟩ := bnd h
     refine r_ixI tb R R R R R R (ix0 ie14) (ix1 ie14) R R ?_
     refine r_ldD (y := .v (.int .i64 e14)) tb R R R R (ix2 (g := fun a => T.d (vI a)) ie14) R R R R ?_
     obtain ⟨e15, ie15, h⟩ := bnd h
     refine r_ixI tb R R R R R R (ix0 ie15) (ix1 ie15) R R ?_
     refine r_ldD (y := .v (.int .i64 e15)) tb R R R R (ix2 (g := fun a => T.d (vI a)) ie15) R R R R ?_
     refine r_add R R R R (r_ixI tb R R R R R R (ix0 ie15) (ix1 ie15) R R ?_)
     obtain ⟨y4, iy4, h⟩ := bnd h
     refine r_stQ (a' := (W (e15 + 1))) tb R R R R ie15 R R R R iy4 R R ?_
     dsimp only [List.set_cons_zero, List.set_cons_succ, WiState_T1, WiState_T2, WiState_T3, Table_T1, Desk_T1, Desk_T2, Desk_T3]
     first | rw [set_len iy4] | skip
     refine ev_endD (by kernel_rfl) (block_norm (then_norm (sw_rg (r_movD R R R (r_add R R R R (r_asgD R R R (eN ?_)))))))
     exact ⟨m2, ⟨[(6, .ref 0 13 0 0), (7, .ref 4 3 0 0), (8, .ref 5 13 0 0), (9, .d (.v (.int .i64 0))), (10, .d (.v (.int .i64 rv2))), (13, .row 6 1 0 (q11).length), (14, .row 7 1 0 (rv11).length), (15, .d (.v (.int .i64 (W (x2 + 1)))))], [some ⟨13, [Desk_T1 {a with s_Used := q12, s_Credit := y4, s_Last := q13, s_Next := rv12.next} 1 2 3]⟩, some (lvI q12), some (lvI y4), some (lvI q13), some ⟨3, [.d (WiTurn.d rv)]⟩, some ⟨13, [.d (.agg [.v (.slice none 0 0), .v (.slice none 0 0), .v (.slice none 0 0), .v (.int .i64 0), .v (.int .i64 0), .v (.slice none 0 0), .v (.int .i64 0), .v (.int .i64 0), .v (.bool false), .v (.int .i64 0), .v (.int .i64 0), .v (.int .i64 0), .v (.int .i64 0)])]⟩, some (lvI q11), some (lvI rv11)]⟩, [0, 1, 2, 3, 4, 5, 6, 7], Nat.lt_succ_self _, (vwK R R (.cons R R (.row R (.row R (.row R (.cons R R (.cons R R (.row R (.row R .nil)))))))) (.cons R R (.cons R R (.cons R R (.cons R R (.cons R R (.cons R R (.cons R R (.cons R R .nil))))))))), y4, (W (x2 + 1)), h, R⟩
    intro c16
    replace h := ifN (Int.not_lt.2 c16) h
    refine eN (sw_condF R (sw_exit (then_exit (then_exit ?_))))
    subst hK2
    refine block_exit (then_norm (sw_seq (sw_dr (by kernel_rfl) (r_fa tb R R R R R R R (r_fa tb R R R R R R R (r_ldD (y := .v (.int .i64 rv12.next)) tb R R R R R R R R R (r_movD R R R (r_fa tb R R R R R R R (r_ldD (y := .v (.int .i64 rv.at_)) tb R R R R R R R R R (r_build (v := .d (.agg [.v (.int .i64 rv12.next), .v (.int .i64 rv2), .v (.int .i64 rv.at_), .v (.int .i64 (-1))])) tb R R (List.cons_ne_nil _ _) R R R R R R (r_fa tb R R R R R R R ?_)))))))))))
    refine r_stE _ ([some ⟨13, [Desk_T1 {a with s_Used := q12, s_Credit := y3, s_Last := q13, s_Next := rv12.next, over := true} 1 2 3]⟩, some (lvI q12), some (lvI y3), some (lvI q13), some ⟨3, [.d (WiTurn.d rv)]⟩, some ⟨13, [.d (.agg [.v (.slice none 0 0), .v (.slice none 0 0), .v (.slice none 0 0), .v (.int .i64 0), .v (.int .i64 0), .v (.slice none 0 0), .v (.int .i64 0), .v (.int .i64 0), .v (.bool false), .v (.int .i64 0), .v (.int .i64 0), .v (.int .i64 0), .v (.int .i64 0)])]⟩, some (lvI q11), some (lvI rv11)]) tb R R R R R R R R R R R R ?_
    refine r_fa tb R R R R R R R ?_
    refine r_stE _ ([some ⟨13, [Desk_T1 (Desk.mk q12 y3 q13 rv12.next a.minute a.done a.given a.by_ true rv12.next rv2 rv.at_ (-1)) 1 2 3]⟩, some (lvI q12), some (lvI y3), some (lvI q13), some ⟨3, [.d (WiTurn.d rv)]⟩, some ⟨13, [.d (.agg [.v (.slice none 0 0), .v (.slice none 0 0), .v (.slice none 0 0), .v (.int .i64 0), .v (.int .i64 0), .v (.slice none 0 0), .v (.int .i64 0), .v (.int .i64 0), .v (.bool false), .v (.int .i64 0), .v (.int .i64 0), .v (.int .i64 0), .v (.int .i64 0)])]⟩, some (lvI q11), some (lvI rv11)]) tb R R R R R R R R R R R R ?_
    refine ev_endD (by kernel_rfl) (then_norm (qG (r_fa tb R R R R R R R (r_ldD (y := .v (.int .i64 a.given)) tb R R R R R R R R R ?_))))
    refine r_geq R R R R ?_ ?_
    ·intro c17
     replace h := ifP c17 h
     refine eN (sw_condT R (sw_rg (r_fa tb R R R R R R R (r_ldD (y := .v (.int .i64 a.by_)) tb R R R R R R R R R (r_fa tb R R R R R R R (r_fa tb R R R R R R R ?_))))))
     refine r_stE _ ([some ⟨13, [Desk_T1 (Desk.mk q12 y3 q13 rv12.next a.minute a.done a.given a.by_ true rv12.next rv2 rv.at_ a.by_) 1 2 3]⟩, some (lvI q12), some (lvI y3), some (lvI q13), some ⟨3, [.d (WiTurn.d rv)]⟩, some ⟨13, [.d (.agg [.v (.slice none 0 0), .v (.slice none 0 0), .v (.slice none 0 0), .v (.int .i64 0), .v (.int .i64 0), .v (.slice none 0 0), .v (.int .i64 0), .v (.int .i64 0), .v (.bool false), .v (.int .i64 0), .v (.int .i64 0), .v (.int .i64 0), .v (.int .i64 0)])]⟩, some (lvI q11), some (lvI rv11)]) tb R R R R R R R R R R R R (eN ?_)
     refine sw_seq (sw_dr (by kernel_rfl) (r_movW R R R (r_fa tb R R R R R R R (r_ldD (y := .v (.int .i64 rv.at_)) tb R R R R R R R R R (r_fa tb R R R R R R R ?_)))))
     refine r_stE _ ([some ⟨13, [Desk_T2 (Desk.mk q12 y3 q13 rv12.next a.minute q11 a.given a.by_ true rv12.next rv2 rv.at_ a.by_) 1 2 3 6]⟩, some (lvI q12), some (lvI y3), some (lvI q13), some ⟨3, [.d (WiTurn.d rv)]⟩, some ⟨13, [.d (.agg [.v (.slice none 0 0), .v (.slice none 0 0), .v (.slice none 0 0), .v (.int .i64 0), .v (.int .i64 0), .v (.slice none 0 0), .v (.int .i64 0), .v (.int .i64 0), .v (.bool false), .v (.int .i64 0), .v (.int .i64 0), .v (.int .i64 0), .v (.int .i64 0)])]⟩, some (lvI q11), some (lvI rv11)]) tb R R R R R R R R R R R R ?_
     refine r_fa tb R R R R R R R ?_
     refine r_stE _ ([some ⟨13, [Desk_T2 (Desk.mk q12 y3 q13 rv12.next rv.at_ q11 a.given a.by_ true rv12.next rv2 rv.at_ a.by_) 1 2 3 6]⟩, some (lvI q12), some (lvI y3), some (lvI q13), some ⟨3, [.d (WiTurn.d rv)]⟩, some ⟨13, [.d (.agg [.v (.slice none 0 0), .v (.slice none 0 0), .v (.slice none 0 0), .v (.int .i64 0), .v (.int .i64 0), .v (.slice none 0 0), .v (.int .i64 0), .v (.int .i64 0), .v (.bool false), .v (.int .i64 0), .v (.int .i64 0), .v (.int .i64 0), .v (.int .i64 0)])]⟩, some (lvI q11), some (lvI rv11)]) tb R R R R R R R R R R R R ?_
     refine r_fa tb R R R R R R R ?_
     refine r_stE _ ([some ⟨13, [Desk_T2 (Desk.mk q12 y3 q13 rv12.next rv.at_ q11 (-1) a.by_ true rv12.next rv2 rv.at_ a.by_) 1 2 3 6]⟩, some (lvI q12), some (lvI y3), some (lvI q13), some ⟨3, [.d (WiTurn.d rv)]⟩, some ⟨13, [.d (.agg [.v (.slice none 0 0), .v (.slice none 0 0), .v (.slice none 0 0), .v (.int .i64 0), .v (.int .i64 0), .v (.slice none 0 0), .v (.int .i64 0), .v (.int .i64 0), .v (.bool false), .v (.int .i64 0), .v (.int .i64 0), .v (.int .i64 0), .v (.int .i64 0)])]⟩, some (lvI q11), some (lvI rv11)]) tb R R R R R R R R R R R R ?_
     refine ev_endD (by kernel_rfl) (then_norm (qG (r_ldG tb R R R R R R R R R (r_stE _ ([some ⟨13, [Desk_T2 (Desk.mk q12 y3 q13 rv12.next rv.at_ q11 (-1) a.by_ true rv12.next rv2 rv.at_ a.by_) 1 2 3 6]⟩, some (lvI q12), some (lvI y3), some (lvI q13), some ⟨3, [.d (WiTurn.d rv)]⟩, some ⟨13, [Desk_T2 (Desk.mk q12 y3 q13 rv12.next rv.at_ q11 (-1) a.by_ true rv12.next rv2 rv.at_ a.by_) 1 2 3 6]⟩, some (lvI q11), some (lvI rv11)]) tb R R R R R R R R R R R R (r_asgD R R R (eN (sw_ret ?_)))))))
     obtain rfl := sI h
     exact (fin_S (t := .tup [Desk_T2 (Desk.mk q12 y3 q13 rv12.next rv.at_ q11 (-1) a.by_ true rv12.next rv2 rv.at_ a.by_) 0 1 2 3, .d (.v (.int .i64 0))]) (L := [some (lvI q12), some (lvI y3), some (lvI q13), some (lvI q11)]) (κ := [1, 2, 3, 6]) R (.cons (rcell tb (u := Desk_T2 (Desk.mk q12 y3 q13 rv12.next rv.at_ q11 (-1) a.by_ true rv12.next rv2 rv.at_ a.by_) 1 2 3 6) R R R R R R R) (.cons (.tmp 9) .nil)) (vwK R R (.row R (.row R (.row R (.row R .nil)))) (.cons R R .nil)) ⟨_, R, (.tupL (.cons (.aggL (.cons (.row R R) (.cons (.row R R) (.cons (.row R R) (.cons (.d _) (.cons (.d _) (.cons (.row R R) (.cons (.d _) (.cons (.d _) (.cons (.d _) (.cons (.d _) (.cons (.d _) (.cons (.d _) (.cons (.d _) .nil)))))))))))))) (.cons (.d _) .nil)))⟩)
    intro c17
    replace h := ifN (Int.not_le.2 c17) h
    refine eN (sw_condF R (sw_skip (then_norm (sw_seq (sw_dr (by kernel_rfl) (r_movW R R R (r_fa tb R R R R R R R (r_ldD (y := .v (.int .i64 rv.at_)) tb R R R R R R R R R (r_fa tb R R R R R R R ?_)))))))))
    refine r_stE _ ([some ⟨13, [Desk_T2 (Desk.mk q12 y3 q13 rv12.next a.minute q11 a.given a.by_ true rv12.next rv2 rv.at_ (-1)) 1 2 3 6]⟩, some (lvI q12), some (lvI y3), some (lvI q13), some ⟨3, [.d (WiTurn.d rv)]⟩, some ⟨13, [.d (.agg [.v (.slice none 0 0), .v (.slice none 0 0), .v (.slice none 0 0), .v (.int .i64 0), .v (.int .i64 0), .v (.slice none 0 0), .v (.int .i64 0), .v (.int .i64 0), .v (.bool false), .v (.int .i64 0), .v (.int .i64 0), .v (.int .i64 0), .v (.int .i64 0)])]⟩, some (lvI q11), some (lvI rv11)]) tb R R R R R R R R R R R R ?_
    refine r_fa tb R R R R R R R ?_
    refine r_stE _ ([some ⟨13, [Desk_T2 (Desk.mk q12 y3 q13 rv12.next rv.at_ q11 a.given a.by_ true rv12.next rv2 rv.at_ (-1)) 1 2 3 6]⟩, some (lvI q12), some (lvI y3), some (lvI q13), some ⟨3, [.d (WiTurn.d rv)]⟩, some ⟨13, [.d (.agg [.v (.slice none 0 0), .v (.slice none 0 0), .v (.slice none 0 0), .v (.int .i64 0), .v (.int .i64 0), .v (.slice none 0 0), .v (.int .i64 0), .v (.int .i64 0), .v (.bool false), .v (.int .i64 0), .v (.int .i64 0), .v (.int .i64 0), .v (.int .i64 0)])]⟩, some (lvI q11), some (lvI rv11)]) tb R R R R R R R R R R R R ?_
    refine r_fa tb R R R R R R R ?_
    refine r_stE _ ([some ⟨13, [Desk_T2 (Desk.mk q12 y3 q13 rv12.next rv.at_ q11 (-1) a.by_ true rv12.next rv2 rv.at_ (-1)) 1 2 3 6]⟩, some (lvI q12), some (lvI y3), some (lvI q13), some ⟨3, [.d (WiTurn.d rv)]⟩, some ⟨13, [.d (.agg [.v (.slice none 0 0), .v (.slice none 0 0), .v (.slice none 0 0), .v (.int .i64 0), .v (.int .i64 0), .v (.slice none 0 0), .v (.int .i64 0), .v (.int .i64 0), .v (.bool false), .v (.int .i64 0), .v (.int .i64 0), .v (.int .i64 0), .v (.int .i64 0)])]⟩, some (lvI q11), some (lvI rv11)]) tb R R R R R R R R R R R R ?_
    refine ev_endD (by kernel_rfl) (then_norm (qG (r_ldG tb R R R R R R R R R (r_stE _ ([some ⟨13, [Desk_T2 (Desk.mk q12 y3 q13 rv12.next rv.at_ q11 (-1) a.by_ true rv12.next rv2 rv.at_ (-1)) 1 2 3 6]⟩, some (lvI q12), some (lvI y3), some (lvI q13), some ⟨3, [.d (WiTurn.d rv)]⟩, some ⟨13, [Desk_T2 (Desk.mk q12 y3 q13 rv12.next rv.at_ q11 (-1) a.by_ true rv12.next rv2 rv.at_ (-1)) 1 2 3 6]⟩, some (lvI q11), some (lvI rv11)]) tb R R R R R R R R R R R R (r_asgD R R R (eN (sw_ret ?_)))))))
    obtain rfl := sI h
    exact (fin_S (t := .tup [Desk_T2 (Desk.mk q12 y3 q13 rv12.next rv.at_ q11 (-1) a.by_ true rv12.next rv2 rv.at_ (-1)) 0 1 2 3, .d (.v (.int .i64 0))]) (L := [some (lvI q12), some (lvI y3), some (lvI q13), some (lvI q11)]) (κ := [1, 2, 3, 6]) R (.cons (rcell tb (u := Desk_T2 (Desk.mk q12 y3 q13 rv12.next rv.at_ q11 (-1) a.by_ true rv12.next rv2 rv.at_ (-1)) 1 2 3 6) R R R R R R R) (.cons (.tmp 9) .nil)) (vwK R R (.row R (.row R (.row R (.row R .nil)))) (.cons R R .nil)) ⟨_, R, (.tupL (.cons (.aggL (.cons (.row R R) (.cons (.row R R) (.cons (.row R R) (.cons (.d _) (.cons (.d _) (.cons (.row R R) (.cons (.d _) (.cons (.d _) (.cons (.d _) (.cons (.d _) (.cons (.d _) (.cons (.d _) (.cons (.d _) .nil)))))))))))))) (.cons (.d _) .nil)))⟩)
   intro c15
   replace h := ifN c15 h
   refine eN (sw_condF R (sw_skip (then_norm (sw_seq (sw_dr (by kernel_rfl) (r_movW R R R (r_fa tb R R R R R R R (r_ldD (y := .v (.int .i64 rv.at_)) tb R R R R R R R R R (r_fa tb R R R R R R R ?_)))))))))
   refine r_stE _ ([some ⟨4, [.d (WiPlan.d t)]⟩, some ⟨2, [.d (WiSky.d o)]⟩, some ⟨13, [Desk_T3 {a with done := q11} 9]⟩, some ⟨3, [.d (WiTurn.d rv)]⟩, some ⟨13, [.d (.agg [.v (.slice none 0 0), .v (.slice none 0 0), .v (.slice none 0 0), .v (.int .i64 0), .v (.int .i64 0), .v (.slice none 0 0), .v (.int .i64 0), .v (.int .i64 0), .v (.bool false), .v (.int .i64 0), .v (.int .i64 0), .v (.int .i64 0), .v (.int .i64 0)])]⟩, some ⟨3, [.d (WiWindow.d e)]⟩, none, none, some (lvI [rv2]), some (lvI q11)]) tb R R R R R R R R R R R R ?_
   refine r_fa tb R R R R R R R ?_
   refine r_stE _ ([some ⟨4, [.d (WiPlan.d t)]⟩, some ⟨2, [.d (WiSky.d o)]⟩, some ⟨13, [Desk_T3 {a with minute := rv.at_, done := q11} 9]⟩, some ⟨3, [.d (WiTurn.d rv)]⟩, some ⟨13, [.d (.agg [.v (.slice none 0 0), .v (.slice none 0 0), .v (.slice none 0 0), .v (.int .i64 0), .v (.int .i64 0), .v (.slice none 0 0), .v (.int .i64 0), .v (.int .i64 0), .v (.bool false), .v (.int .i64 0), .v (.int .i64 0), .v (.int .i64 0), .v (.int .i64 0)])]⟩, some ⟨3, [.d (WiWindow.d e)]⟩, none, none, some (lvI [rv2]), some (lvI q11)]) tb R R R R R R R R R R R R ?_
   refine r_fa tb R R R R R R R ?_
   refine r_stE _ ([some ⟨4, [.d (WiPlan.d t)]⟩, some ⟨2, [.d (WiSky.d o)]⟩, some ⟨13, [Desk_T3 {a with minute := rv.at_, done := q11, given := (-1)} 9]⟩, some ⟨3, [.d (WiTurn.d rv)]⟩, some ⟨13, [.d (.agg [.v (.slice none 0 0), .v (.slice none 0 0), .v (.slice none 0 0), .v (.int .i64 0), .v (.int .i64 0), .v (.slice none 0 0), .v (.int .i64 0), .v (.int .i64 0), .v (.bool false), .v (.int .i64 0), .v (.int .i64 0), .v (.int .i64 0), .v (.int .i64 0)])]⟩, some ⟨3, [.d (WiWindow.d e)]⟩, none, none, some (lvI [rv2]), some (lvI q11)]) tb R R R R R R R R R R R R ?_
   refine ev_endD (by kernel_rfl) (then_norm (qG (r_ldG tb R R R R R R R R R (r_stE _ ([some ⟨4, [.d (WiPlan.d t)]⟩, some ⟨2, [.d (WiSky.d o)]⟩, some ⟨13, [Desk_T3 {a with minute := rv.at_, done := q11, given := (-1)} 9]⟩, some ⟨3, [.d (WiTurn.d rv)]⟩, some ⟨13, [Desk_T3 {a with minute := rv.at_, done := q11, given := (-1)} 9]⟩, some ⟨3, [.d (WiWindow.d e)]⟩, none, none, some (lvI [rv2]), some (lvI q11)]) tb R R R R R R R R R R R R (r_asgD R R R (eN (sw_ret ?_)))))))
   obtain rfl := sI h
   exact (fin_S (t := .tup [Desk_T3 {a with minute := rv.at_, done := q11, given := (-1)} 0, .d (.v (.int .i64 0))]) (L := [some (lvI q11)]) (κ := [9]) R (.cons (rcell tb (u := Desk_T3 {a with minute := rv.at_, done := q11, given := (-1)} 9) R R R R R R R) (.cons (.tmp 9) .nil)) (vwK R R (.row R .nil) (.cons R R .nil)) ⟨_, R, (.tupL (.cons (.aggL (.cons (.d _) (.cons (.d _) (.cons (.d _) (.cons (.d _) (.cons (.d _) (.cons (.row R R) (.cons (.d _) (.cons (.d _) (.cons (.d _) (.cons (.d _) (.cons (.d _) (.cons (.d _) (.cons (.d _) .nil)))))))))))))) (.cons (.d _) .nil)))⟩)
  intro c14
  replace h := ifF c14 h
  refine r_notF R R R (r_pickF R R R R (eN (sw_condT R (qG (r_ldD (y := Desk.d a) tb R R R R R R R R R (r_stE _ ([some ⟨4, [.d (WiPlan.d t)]⟩, some ⟨2, [.d (WiSky.d o)]⟩, some ⟨13, [.d (Desk.d a)]⟩, some ⟨3, [.d (WiTurn.d rv)]⟩, some ⟨13, [.d (Desk.d a)]⟩, some ⟨3, [.d (WiWindow.d e)]⟩]) tb R R R R R R R R R R R R (r_asgD R R R (eN (sw_ret (then_ret ?_))))))))))
  obtain rfl := sI h
  exact (fin_S (t := .d (.tup [Desk.d a, .v (.int .i64 7)])) (L := []) (κ := []) R (.cons (rcell tb (u := .d (Desk.d a)) R R R R R R R) (.cons (.tmp 9) .nil)) (vwK R R .nil (.cons R R .nil)) ⟨_, R, (.d _)⟩)
 intro c2
 replace h := ifF c2 h
 refine r_notF R R R (eN (sw_condT R (qG (r_ldD (y := Desk.d a) tb R R R R R R R R R (r_stE _ ([some ⟨4, [.d (WiPlan.d t)]⟩, some ⟨2, [.d (WiSky.d o)]⟩, some ⟨13, [.d (Desk.d a)]⟩, some ⟨3, [.d (WiTurn.d rv)]⟩, some ⟨13, [.d (Desk.d a)]⟩, some ⟨3, [.d (WiWindow.d e)]⟩]) tb R R R R R R R R R R R R (r_asgD R R R (eN (sw_ret (then_ret ?_)))))))))
 obtain rfl := sI h
 exact (fin_S (t := .d (.tup [Desk.d a, .v (.int .i64 2)])) (L := []) (κ := []) R (.cons (rcell tb (u := .d (Desk.d a)) R R R R R R R) (.cons (.tmp 9) .nil)) (vwK R R .nil (.cons R R .nil)) ⟨_, R, (.d _)⟩)
/-- hangfireref11.played -/
def r_played_L1 (F : Nat) (p : WiPlan) (sky : WiSky) (turns : (List WiTurn)) (K : Desk → Int → Option (Desk × Int)) : Nat → Desk → Int → Option (Desk × Int)
 | 0, _, _ => none
 | n + 1, d, i => if i < (turns.length : Int) then (Option.bind (ixO turns i) fun e2 => Option.bind (r_act F p sky d e2) fun rv3 => if rv3.2 = 0 then (r_played_L1 F p sky turns K n rv3.1 (W (i + 1))) else (some ((Desk.mk [] [] [] 0 0 [] 0 0 false 0 0 0 0), rv3.2))) else (K d i)
def r_played_L2 (F : Nat) (p : WiPlan) (sky : WiSky) (turns : (List WiTurn)) (K : Desk → Int → Option (Desk × Int)) : Nat → Desk → Int → Option (Desk × Int)
 | 0, _, _ => none
 | n + 1, d2, i2 => if i2 < (turns.length : Int) then (Option.bind (ixO turns i2) fun e4 => Option.bind (r_act F p sky d2 e4) fun rv5 => if rv5.2 = 0 then (r_played_L2 F p sky turns K n rv5.1 (W (i2 + 1))) else (some ((Desk.mk [] [] [] 0 0 [] 0 0 false 0 0 0 0), rv5.2))) else (K d2 i2)
def r_played (F : Nat) (p : WiPlan) (s : WiState) (sky : WiSky) (turns : (List WiTurn)) : Option (Desk × Int) := Option.bind (r_asked F p s sky) fun rv => if rv = 0 then (if 16 < (turns.length : Int) then (some ((Desk.mk [] [] [] 0 0 [] 0 0 false 0 0 0 0), 3)) else (if rv = 0 then (Option.bind (r_copied F s) fun rv2 => Option.bind (ixO p.windows s.next) fun e => r_played_L1 F p sky turns (fun (d : Desk) (i : Int) => some (d, 0)) F (Desk.mk rv2.used rv2.credit rv2.last rv2.next e.from_ ([] : List Int) (-1) (-1) false s.next (-1) 0 (-1)) 0) else (some ((Desk.mk [] [] [] 0 0 [] 0 0 false 0 0 0 0), rv)))) else (if rv = 0 then (Option.bind (r_copied F s) fun rv4 => Option.bind (ixO p.windows s.next) fun e3 => r_played_L2 F p sky turns (fun (d2 : Desk) (i2 : Int) => some (d2, 0)) F (Desk.mk rv4.used rv4.credit rv4.last rv4.next e3.from_ ([] : List Int) (-1) (-1) false s.next (-1) 0 (-1)) 0) else (some ((Desk.mk [] [] [] 0 0 [] 0 0 false 0 0 0 0), rv)))
theorem r_played_pc {F : Nat} {p : WiPlan} {s : WiState} {sky : WiSky} {turns : (List WiTurn)} {r : (Desk × Int)} (h : r_played F p s sky turns = some r) : PC Try.prog 60 [WiPlan.d p, WiState.d s, WiSky.d sky, .arr 3 ((turns).map WiTurn.d)] (.tup [Desk.d r.1, .v (.int .i64 r.2)]) := by
 rw [r_played] at h
 refine PC.of_lend ?_
 refine SC.of_sw Try.func60 R R R ?_
 simp only [List.map_cons, List.map_nil, argS, Nat.zero_add, Nat.reduceAdd]
 refine qG (r_box R R R R R R R (r_box R R R R R R R (r_box R R R R R R R (r_alloc tb R R R R R (r_asgD R R R (eN (qG (r_ldD (y := WiPlan.d p) tb R R R R R R R R R (r_ldD (y := WiState.d s) tb R R R R R R R R R (r_ldD (y := WiSky.d sky) tb R R R R R R R R R ?_))))))))))
 obtain ⟨rv, hrv, h⟩ := bnd h
 refine r_call (r_asked_pc hrv) (.of (by kernel_rfl)) R R R R (r_asgD R R R (eN (sw_seq (qG (r_movD R R R ?_)))))
 refine r_eql R R R R ?_ ?_
 ·intro c
  replace h := ifP c h
  refine r_movD R R R (r_movD R R R (r_lenM tb R R R R R ?_))
  refine r_gtr R R R R ?_ ?_
  ·intro c2
   replace h := ifP c2 h
   refine r_pickT R R R R (eN (sw_condT R (sw_rg (r_asgD R R R (eN (sw_seq (qG (r_movD R R R ?_))))))))
   refine r_neq R R R R ?_ ?_
   rotate_left
   ·intro c3; exact absurd c3 (by decide)
   intro _
   refine eN (sw_condT R (qG (r_build (v := .d (.agg [.v (.slice none 0 0), .v (.slice none 0 0), .v (.slice none 0 0), .v (.int .i64 0), .v (.int .i64 0), .v (.slice none 0 0), .v (.int .i64 0), .v (.int .i64 0), .v (.bool false), .v (.int .i64 0), .v (.int .i64 0), .v (.int .i64 0), .v (.int .i64 0)])) tb R R (List.cons_ne_nil _ _) (by kernel_rfl) (by kernel_rfl) (by kernel_rfl) (by kernel_rfl) R R (r_movD R R R ?_))))
   refine r_stE _ ([some ⟨4, [.d (WiPlan.d p)]⟩, some ⟨4, [.d (WiState.d s)]⟩, some ⟨2, [.d (WiSky.d sky)]⟩, some ⟨13, [.d (.agg [.v (.slice none 0 0), .v (.slice none 0 0), .v (.slice none 0 0), .v (.int .i64 0), .v (.int .i64 0), .v (.slice none 0 0), .v (.int .i64 0), .v (.int .i64 0), .v (.bool false), .v (.int .i64 0), .v (.int .i64 0), .v (.int .i64 0), .v (.int .i64 0)])]⟩]) tb R R R R R R R R R R R R (r_asgD R R R (eN (sw_ret (then_ret ?_))))
   obtain rfl := sI h
   exact (fin_S (t := .d (.tup [.agg [.v (.slice none 0 0), .v (.slice none 0 0), .v (.slice none 0 0), .v (.int .i64 0), .v (.int .i64 0), .v (.slice none 0 0), .v (.int .i64 0), .v (.int .i64 0), .v (.bool false), .v (.int .i64 0), .v (.int .i64 0), .v (.int .i64 0), .v (.int .i64 0)], .v (.int .i64 3)])) (L := []) (κ := []) R (.cons (rcell tb (u := .d (.agg [.v (.slice none 0 0), .v (.slice none 0 0), .v (.slice none 0 0), .v (.int .i64 0), .v (.int .i64 0), .v (.slice none 0 0), .v (.int .i64 0), .v (.int .i64 0), .v (.bool false), .v (.int .i64 0), .v (.int .i64 0), .v (.int .i64 0), .v (.int .i64 0)])) R R R R R R R) (.cons (.tmp 9) .nil)) (vwK R R .nil (.cons R R .nil)) ⟨_, R, (.tupDL (.cons (.aggDL (.cons .nilA (.cons .nilA (.cons .nilA (.cons (.d _) (.cons (.d _) (.cons .nilA (.cons (.d _) (.cons (.d _) (.cons (.d _) (.cons (.d _) (.cons (.d _) (.cons (.d _) (.cons (.d _) .nil)))))))))))))) (.cons (.d _) .nil)))⟩)
  intro c2
  replace h := ifN (Int.not_lt.2 c2) h
  refine r_pickT R R R R (eN (sw_condF R (sw_skip (then_norm (sw_seq (qG (r_movD R R R ?_)))))))
  refine r_neq R R R R ?_ ?_
  ·intro c4
   replace h := ifN c4 h
   refine eN (sw_condT R (qG (r_build (v := .d (.agg [.v (.slice none 0 0), .v (.slice none 0 0), .v (.slice none 0 0), .v (.int .i64 0), .v (.int .i64 0), .v (.slice none 0 0), .v (.int .i64 0), .v (.int .i64 0), .v (.bool false), .v (.int .i64 0), .v (.int .i64 0), .v (.int .i64 0), .v (.int .i64 0)])) tb R R (List.cons_ne_nil _ _) (by kernel_rfl) (by kernel_rfl) (by kernel_rfl) (by kernel_rfl) R R (r_movD R R R ?_))))
   refine r_stE _ ([some ⟨4, [.d (WiPlan.d p)]⟩, some ⟨4, [.d (WiState.d s)]⟩, some ⟨2, [.d (WiSky.d sky)]⟩, some ⟨13, [.d (.agg [.v (.slice none 0 0), .v (.slice none 0 0), .v (.slice none 0 0), .v (.int .i64 0), .v (.int .i64 0), .v (.slice none 0 0), .v (.int .i64 0), .v (.int .i64 0), .v (.bool false), .v (.int .i64 0), .v (.int .i64 0), .v (.int .i64 0), .v (.int .i64 0)])]⟩]) tb R R R R R R R R R R R R (r_asgD R R R (eN (sw_ret (then_ret ?_))))
   obtain rfl := sI h
   exact (fin_S (t := .d (.tup [.agg [.v (.slice none 0 0), .v (.slice none 0 0), .v (.slice none 0 0), .v (.int .i64 0), .v (.int .i64 0), .v (.slice none 0 0), .v (.int .i64 0), .v (.int .i64 0), .v (.bool false), .v (.int .i64 0), .v (.int .i64 0), .v (.int .i64 0), .v (.int .i64 0)], .v (.int .i64 rv)])) (L := []) (κ := []) R (.cons (rcell tb (u := .d (.agg [.v (.slice none 0 0), .v (.slice none 0 0), .v (.slice none 0 0), .v (.int .i64 0), .v (.int .i64 0), .v (.slice none 0 0), .v (.int .i64 0), .v (.int .i64 0), .v (.bool false), .v (.int .i64 0), .v (.int .i64 0), .v (.int .i64 0), .v (.int .i64 0)])) R R R R R R R) (.cons (.tmp 9) .nil)) (vwK R R .nil (.cons R R .nil)) ⟨_, R, (.tupDL (.cons (.aggDL (.cons .nilA (.cons .nilA (.cons .nilA (.cons (.d _) (.cons (.d _) (.cons .nilA (.cons (.d _) (.cons (.d _) (.cons (.d _) (.cons (.d _) (.cons (.d _) (.cons (.d _) (.cons (.d _) .nil)))))))))))))) (.cons (.d _) .nil)))⟩)
  intro c4
  replace h := ifP c4 h
  refine eN (sw_condF R (sw_skip (then_norm (sw_seq (sw_dr (by kernel_rfl) (r_ldD (y := WiState.d s) tb R R R R R R R R R ?_))))))
  obtain ⟨rv2, hrv2, h⟩ := bnd h
  refine r_callN (t' := WiState_T1 rv2 4 5 6) (news' := [(lvI rv2.used), (lvI rv2.credit), (lvI rv2.last)]) (r_copied_scr hrv2) (.of (by kernel_rfl)) R R R ((.row (.row (.row .nil)))) R R R (r_fa tb R R R R R R R (r_ldD (y := .arr 3 ((p.windows).map WiWindow.d)) tb R R R R R R R R R (r_fa tb R R R R R R R (r_ldD (y := .v (.int .i64 s.next)) tb R R R R R R R R R ?_))))
  obtain ⟨e, ie, h⟩ := bnd h
  refine r_ixE tb R R R R R R (ix0 ie) (ix1m ie) R R (r_faE tb R R R R R R R (r_ldE (y := .v (.int .i64 e.from_)) tb R R (ix2 (g := WiWindow.d) ie) R R R R (r_fa tb R R R R R R R (r_ldD (y := .v (.int .i64 s.next)) tb R R R R R R R R R (r_build (v := .d (.agg [.v (.int .i64 s.next), .v (.int .i64 (-1)), .v (.int .i64 0), .v (.int .i64 (-1))])) tb R R (List.cons_ne_nil _ _) R R R R R R ?_)))))
  refine r_build (v := .agg [.row 4 1 0 (rv2.used).length, .row 5 1 0 (rv2.credit).length, .row 6 1 0 (rv2.last).length, .d (.v (.int .i64 rv2.next)), .d (.v (.int .i64 e.from_)), .d (.v (.slice none 0 0)), .d (.v (.int .i64 (-1))), .d (.v (.int .i64 (-1))), .d (.v (.bool false)), .d (.v (.int .i64 s.next)), .d (.v (.int .i64 (-1))), .d (.v (.int .i64 0)), .d (.v (.int .i64 (-1)))]) tb R R (List.cons_ne_nil _ _) (by kernel_rfl) (by kernel_rfl) (by kernel_rfl) (by kernel_rfl) R R (r_alloc tb R R R R R ?_)
  refine r_stE _ ([some ⟨4, [.d (WiPlan.d p)]⟩, some ⟨4, [.d (WiState.d s)]⟩, some ⟨2, [.d (WiSky.d sky)]⟩, some ⟨13, [.d (.agg [.v (.slice none 0 0), .v (.slice none 0 0), .v (.slice none 0 0), .v (.int .i64 0), .v (.int .i64 0), .v (.slice none 0 0), .v (.int .i64 0), .v (.int .i64 0), .v (.bool false), .v (.int .i64 0), .v (.int .i64 0), .v (.int .i64 0), .v (.int .i64 0)])]⟩, some (lvI rv2.used), some (lvI rv2.credit), some (lvI rv2.last), some ⟨13, [.agg [.row 4 1 0 (rv2.used).length, .row 5 1 0 (rv2.credit).length, .row 6 1 0 (rv2.last).length, .d (.v (.int .i64 rv2.next)), .d (.v (.int .i64 e.from_)), .d (.v (.slice none 0 0)), .d (.v (.int .i64 (-1))), .d (.v (.int .i64 (-1))), .d (.v (.bool false)), .d (.v (.int .i64 s.next)), .d (.v (.int .i64 (-1))), .d (.v (.int .i64 0)), .d (.v (.int .i64 (-1)))]]⟩]) tb R R R R R R R R R R R R ?_
  refine ev_endD (by kernel_rfl) (then_norm (sw_seq (qG (r_asgD R R R (eN (sw_block ?_))))))
  refine SW.own (ts' := [(3, .d (.arr 3 ((turns).map WiTurn.d))), (4, .ref 0 4 0 0), (6, .ref 2 2 0 0), (8, .ref 3 13 0 0), (9, .d (.v (.int .i64 0))), (11, .ref 7 13 0 0), (12, .d (.v (.int .i64 0)))]) (L' := [some ⟨4, [.d (WiPlan.d p)]⟩, some ⟨4, [.d (WiState.d s)]⟩, some ⟨2, [.d (WiSky.d sky)]⟩, some ⟨13, [.d (.agg [.v (.slice none 0 0), .v (.slice none 0 0), .v (.slice none 0 0), .v (.int .i64 0), .v (.int .i64 0), .v (.slice none 0 0), .v (.int .i64 0), .v (.int .i64 0), .v (.bool false), .v (.int .i64 0), .v (.int .i64 0), .v (.int .i64 0), .v (.int .i64 0)])]⟩, some (lvI rv2.used), some (lvI rv2.credit), some (lvI rv2.last), some ⟨13, [Desk_T2 (Desk.mk rv2.used rv2.credit rv2.last rv2.next e.from_ ([] : List Int) (-1) (-1) false s.next (-1) 0 (-1)) 4 5 6 8]⟩]) 1 R R (.cons (.same _) (.cons (.same _) (.cons (.same _) (.cons (.same _) (.cons (.same _) (.cons (.same _) (.cons (.same _) .nil))))))) (.same (.same (.same (.same (.same (.same (.same (.cons R (.cons (.aggL (.cons (.same _) (.cons (.same _) (.cons (.same _) (.cons (.same _) (.cons (.same _) (.cons .nil (.cons (.same _) (.cons (.same _) (.cons (.same _) (.cons (.same _) (.cons (.same _) (.cons (.same _) (.cons (.same _) .nil)))))))))))))) .nil) .nil)))))))) ?_
  simp only [List.cons_append, List.nil_append]
  refine SW.fz (ts' := [(3, .d (.arr 3 ((turns).map WiTurn.d))), (4, .ref 0 4 0 0), (6, .ref 2 2 0 0), (8, .ref 3 13 0 0), (9, .d (.v (.int .i64 0))), (11, .ref 7 13 0 0), (12, .d (.v (.int .i64 0)))]) (L' := [some ⟨4, [.d (WiPlan.d p)]⟩, some ⟨4, [.d (WiState.d s)]⟩, some ⟨2, [.d (WiSky.d sky)]⟩, some ⟨13, [.d (.agg [.v (.slice none 0 0), .v (.slice none 0 0), .v (.slice none 0 0), .v (.int .i64 0), .v (.int .i64 0), .v (.slice none 0 0), .v (.int .i64 0), .v (.int .i64 0), .v (.bool false), .v (.int .i64 0), .v (.int .i64 0), .v (.int .i64 0), .v (.int .i64 0)])]⟩, none, some (lvI rv2.credit), some (lvI rv2.last), some ⟨13, [Desk_T4 (Desk.mk rv2.used rv2.credit rv2.last rv2.next e.from_ ([] : List Int) (-1) (-1) false s.next (-1) 0 (-1)) 5 6 8]⟩, some (lvI ([] : List Int))]) (w := rv2.used) (f := vI) 4 1 R (.cons (.same _) (.cons (.same _) (.cons (.same _) (.cons (.same _) (.cons (.same _) (.cons (.same _) (.cons (.same _) .nil))))))) (.same (.same (.same (.same (.same (.same (.same (.cons R (.cons (.aggL (.cons (.all (List.length_map _)) (.cons (.same _) (.cons (.same _) (.cons (.same _) (.cons (.same _) (.cons (.same _) (.cons (.same _) (.cons (.same _) (.cons (.same _) (.cons (.same _) (.cons (.same _) (.cons (.same _) (.cons (.same _) .nil)))))))))))))) .nil) (.same .nil))))))))) ?_
  refine SW.fz (ts' := [(3, .d (.arr 3 ((turns).map WiTurn.d))), (4, .ref 0 4 0 0), (6, .ref 2 2 0 0), (8, .ref 3 13 0 0), (9, .d (.v (.int .i64 0))), (11, .ref 7 13 0 0), (12, .d (.v (.int .i64 0)))]) (L' := [some ⟨4, [.d (WiPlan.d p)]⟩, some ⟨4, [.d (WiState.d s)]⟩, some ⟨2, [.d (WiSky.d sky)]⟩, some ⟨13, [.d (.agg [.v (.slice none 0 0), .v (.slice none 0 0), .v (.slice none 0 0), .v (.int .i64 0), .v (.int .i64 0), .v (.slice none 0 0), .v (.int .i64 0), .v (.int .i64 0), .v (.bool false), .v (.int .i64 0), .v (.int .i64 0), .v (.int .i64 0), .v (.int .i64 0)])]⟩, none, none, some (lvI rv2.last), some ⟨13, [Desk_T5 (Desk.mk rv2.used rv2.credit rv2.last rv2.next e.from_ ([] : List Int) (-1) (-1) false s.next (-1) 0 (-1)) 6 8]⟩, some (lvI ([] : List Int))]) (w := rv2.credit) (f := vI) 5 1 R (.cons (.same _) (.cons (.same _) (.cons (.same _) (.cons (.same _) (.cons (.same _) (.cons (.same _) (.cons (.same _) .nil))))))) (.same (.same (.same (.same (.same (.same (.same (.cons R (.cons (.aggL (.cons (.same _) (.cons (.all (List.length_map _)) (.cons (.same _) (.cons (.same _) (.cons (.same _) (.cons (.same _) (.cons (.same _) (.cons (.same _) (.cons (.same _) (.cons (.same _) (.cons (.same _) (.cons (.same _) (.cons (.same _) .nil)))))))))))))) .nil) (.same .nil))))))))) ?_
  refine SW.fz (ts' := [(3, .d (.arr 3 ((turns).map WiTurn.d))), (4, .ref 0 4 0 0), (6, .ref 2 2 0 0), (8, .ref 3 13 0 0), (9, .d (.v (.int .i64 0))), (11, .ref 7 13 0 0), (12, .d (.v (.int .i64 0)))]) (L' := [some ⟨4, [.d (WiPlan.d p)]⟩, some ⟨4, [.d (WiState.d s)]⟩, some ⟨2, [.d (WiSky.d sky)]⟩, some ⟨13, [.d (.agg [.v (.slice none 0 0), .v (.slice none 0 0), .v (.slice none 0 0), .v (.int .i64 0), .v (.int .i64 0), .v (.slice none 0 0), .v (.int .i64 0), .v (.int .i64 0), .v (.bool false), .v (.int .i64 0), .v (.int .i64 0), .v (.int .i64 0), .v (.int .i64 0)])]⟩, none, none, none, some ⟨13, [Desk_T3 (Desk.mk rv2.used rv2.credit rv2.last rv2.next e.from_ ([] : List Int) (-1) (-1) false s.next (-1) 0 (-1)) 8]⟩, some (lvI ([] : List Int))]) (w := rv2.last) (f := vI) 6 1 R (.cons (.same _) (.cons (.same _) (.cons (.same _) (.cons (.same _) (.cons (.same _) (.cons (.same _) (.cons (.same _) .nil))))))) (.same (.same (.same (.same (.same (.same (.same (.cons R (.cons (.aggL (.cons (.same _) (.cons (.same _) (.cons (.all (List.length_map _)) (.cons (.same _) (.cons (.same _) (.cons (.same _) (.cons (.same _) (.cons (.same _) (.cons (.same _) (.cons (.same _) (.cons (.same _) (.cons (.same _) (.cons (.same _) .nil)))))))))))))) .nil) (.same .nil))))))))) ?_
  refine SW.fz (ts' := [(3, .d (.arr 3 ((turns).map WiTurn.d))), (4, .ref 0 4 0 0), (6, .ref 2 2 0 0), (8, .ref 3 13 0 0), (9, .d (.v (.int .i64 0))), (11, .ref 7 13 0 0), (12, .d (.v (.int .i64 0)))]) (L' := [some ⟨4, [.d (WiPlan.d p)]⟩, some ⟨4, [.d (WiState.d s)]⟩, some ⟨2, [.d (WiSky.d sky)]⟩, some ⟨13, [.d (.agg [.v (.slice none 0 0), .v (.slice none 0 0), .v (.slice none 0 0), .v (.int .i64 0), .v (.int .i64 0), .v (.slice none 0 0), .v (.int .i64 0), .v (.int .i64 0), .v (.bool false), .v (.int .i64 0), .v (.int .i64 0), .v (.int .i64 0), .v (.int .i64 0)])]⟩, none, none, none, some ⟨13, [.d (.agg [.arr 1 ((rv2.used).map vI), .arr 1 ((rv2.credit).map vI), .arr 1 ((rv2.last).map vI), .v (.int .i64 rv2.next), .v (.int .i64 e.from_), .arr 1 ((([] : List Int)).map vI), .v (.int .i64 (-1)), .v (.int .i64 (-1)), .v (.bool false), .v (.int .i64 s.next), .v (.int .i64 (-1)), .v (.int .i64 0), .v (.int .i64 (-1))])]⟩, none]) (w := ([] : List Int)) (f := vI) 8 1 R (.cons (.same _) (.cons (.same _) (.cons (.same _) (.cons (.same _) (.cons (.same _) (.cons (.same _) (.cons (.same _) .nil))))))) (.same (.same (.same (.same (.same (.same (.same (.cons R (.cons (.aggDL (.cons (.same _) (.cons (.same _) (.cons (.same _) (.cons (.same _) (.cons (.same _) (.cons (.all (List.length_map _)) (.cons (.same _) (.cons (.same _) (.cons (.same _) (.cons (.same _) (.cons (.same _) (.cons (.same _) (.cons (.same _) .nil)))))))))))))) .nil) (.same .nil))))))))) ?_
  obtain ⟨K1, hK1, h⟩ : ∃ K, K = _ ∧ r_played_L1 F p sky turns K F (Desk.mk rv2.used rv2.credit rv2.last rv2.next e.from_ ([] : List Int) (-1) (-1) false s.next (-1) 0 (-1)) 0 = some r := ⟨_, rfl, h⟩
  refine sw_loop (st0 := ⟨[(3, .d (.arr 3 ((turns).map WiTurn.d))), (4, .ref 0 4 0 0), (6, .ref 1 2 0 0), (8, .ref 2 13 0 0), (9, .d (.v (.int .i64 0))), (11, .ref 3 13 0 0), (12, .d (.v (.int .i64 0)))], [some ⟨4, [.d (WiPlan.d p)]⟩, some ⟨2, [.d (WiSky.d sky)]⟩, some ⟨13, [.d (.agg [.v (.slice none 0 0), .v (.slice none 0 0), .v (.slice none 0 0), .v (.int .i64 0), .v (.int .i64 0), .v (.slice none 0 0), .v (.int .i64 0), .v (.int .i64 0), .v (.bool false), .v (.int .i64 0), .v (.int .i64 0), .v (.int .i64 0), .v (.int .i64 0)])]⟩, some ⟨13, [.d (.agg [.arr 1 ((rv2.used).map vI), .arr 1 ((rv2.credit).map vI), .arr 1 ((rv2.last).map vI), .v (.int .i64 rv2.next), .v (.int .i64 e.from_), .arr 1 ((([] : List Int)).map vI), .v (.int .i64 (-1)), .v (.int .i64 (-1)), .v (.bool false), .v (.int .i64 s.next), .v (.int .i64 (-1)), .v (.int .i64 0), .v (.int .i64 (-1))])]⟩]⟩) (κ := [0, 2, 3, 7]) (fun m st => ∃ (d : Desk) (i : Int), r_played_L1 F p sky turns K1 m d i = some r ∧ st = ⟨[(3, .d (.arr 3 ((turns).map WiTurn.d))), (4, .ref 0 4 0 0), (6, .ref 1 2 0 0), (8, .ref 2 13 0 0), (9, .d (.v (.int .i64 0))), (11, .ref 3 13 0 0), (12, .d (.v (.int .i64 i)))], [some ⟨4, [.d (WiPlan.d p)]⟩, some ⟨2, [.d (WiSky.d sky)]⟩, some ⟨13, [.d (.agg [.v (.slice none 0 0), .v (.slice none 0 0), .v (.slice none 0 0), .v (.int .i64 0), .v (.int .i64 0), .v (.slice none 0 0), .v (.int .i64 0), .v (.int .i64 0), .v (.bool false), .v (.int .i64 0), .v (.int .i64 0), .v (.int .i64 0), .v (.int .i64 0)])]⟩, some ⟨13, [.d (Desk.d d)]⟩]⟩) (vwK R R (.cons R R (.cons R R (.cons R R (.cons R R .nil)))) (.cons R R (.cons R R (.cons R R (.cons R R (.cons R R (.cons R R (.cons R R .nil)))))))) ⟨(Desk.mk rv2.used rv2.credit rv2.last rv2.next e.from_ ([] : List Int) (-1) (-1) false s.next (-1) 0 (-1)), 0, h, R⟩ ?_
  clear h
  rintro m1 st ⟨d, i, h, rfl⟩
  cases m1 with
  | zero => cases (show (none : Option (Desk × Int)) = some r from h)
  | succ m1 =>
  rw [r_played_L1] at h
  refine sw_seq (qG (r_movD R R R (r_movD R R R (r_lenM tb R R R R R ?_))))
  refine r_lss R R R R ?_ ?_
  ·intro c5
   replace h := ifP c5 h
   refine eN (sw_condT R (sw_skip (then_norm (sw_seq (sw_block (sw_seq (sw_dr (by kernel_rfl) (r_ldD (y := WiPlan.d p) tb R R R R R R R R R (r_ldD (y := WiSky.d sky) tb R R R R R R R R R (r_ldD (y := Desk.d d) tb R R R R R R R R R (r_movD R R R (r_movD R R R ?_))))))))))))
   obtain ⟨e2, ie2, h⟩ := bnd h
   refine r_ixE tb R R R R R R (ix0 ie2) (ix1m ie2) R R (r_ldE (y := WiTurn.d e2) tb R R (ix2 (g := WiTurn.d) ie2) R R R R ?_)
   obtain ⟨rv3, hrv3, h⟩ := bnd h
   refine r_call (r_act_pc hrv3) (.of (by kernel_rfl)) R R R R (r_movD R R R (r_extD (t := Desk.d rv3.1) R R R R (r_extD (t := .v (.int .i64 rv3.2)) R R R R ?_)))
   refine r_stE _ ([some ⟨4, [.d (WiPlan.d p)]⟩, some ⟨2, [.d (WiSky.d sky)]⟩, some ⟨13, [.d (.agg [.v (.slice none 0 0), .v (.slice none 0 0), .v (.slice none 0 0), .v (.int .i64 0), .v (.int .i64 0), .v (.slice none 0 0), .v (.int .i64 0), .v (.int .i64 0), .v (.bool false), .v (.int .i64 0), .v (.int .i64 0), .v (.int .i64 0), .v (.int .i64 0)])]⟩, some ⟨13, [.d (Desk.d rv3.1)]⟩]) tb R R R R R R R R R R R R (r_asgD R R R (ev_endD (by kernel_rfl) (then_norm (qG (r_movD R R R ?_)))))
   refine r_neq R R R R ?_ ?_
   ·intro c6
    replace h := ifN c6 h
    refine eN (sw_condT R (qG (r_build (v := .d (.agg [.v (.slice none 0 0), .v (.slice none 0 0), .v (.slice none 0 0), .v (.int .i64 0), .v (.int .i64 0), .v (.slice none 0 0), .v (.int .i64 0), .v (.int .i64 0), .v (.bool false), .v (.int .i64 0), .v (.int .i64 0), .v (.int .i64 0), .v (.int .i64 0)])) tb R R (List.cons_ne_nil _ _) (by kernel_rfl) (by kernel_rfl) (by kernel_rfl) (by kernel_rfl) R R (r_movD R R R ?_))))
    refine r_stE _ ([some ⟨4, [.d (WiPlan.d p)]⟩, some ⟨2, [.d (WiSky.d sky)]⟩, some ⟨13, [.d (.agg [.v (.slice none 0 0), .v (.slice none 0 0), .v (.slice none 0 0), .v (.int .i64 0), .v (.int .i64 0), .v (.slice none 0 0), .v (.int .i64 0), .v (.int .i64 0), .v (.bool false), .v (.int .i64 0), .v (.int .i64 0), .v (.int .i64 0), .v (.int .i64 0)])]⟩, some ⟨13, [.d (Desk.d rv3.1)]⟩]) tb R R R R R R R R R R R R (r_asgD R R R (eN (sw_ret (block_ret (then_ret (then_ret (block_ret (then_ret ?_))))))))
    obtain rfl := sI h
    exact (fin_S (t := .d (.tup [.agg [.v (.slice none 0 0), .v (.slice none 0 0), .v (.slice none 0 0), .v (.int .i64 0), .v (.int .i64 0), .v (.slice none 0 0), .v (.int .i64 0), .v (.int .i64 0), .v (.bool false), .v (.int .i64 0), .v (.int .i64 0), .v (.int .i64 0), .v (.int .i64 0)], .v (.int .i64 rv3.2)])) (L := []) (κ := []) R (.cons (rcell tb (u := .d (.agg [.v (.slice none 0 0), .v (.slice none 0 0), .v (.slice none 0 0), .v (.int .i64 0), .v (.int .i64 0), .v (.slice none 0 0), .v (.int .i64 0), .v (.int .i64 0), .v (.bool false), .v (.int .i64 0), .v (.int .i64 0), .v (.int .i64 0), .v (.int .i64 0)])) R R R R R R R) (.cons (.tmp 9) .nil)) (vwK R R .nil (.cons R R .nil)) ⟨_, R, (.tupDL (.cons (.aggDL (.cons .nilA (.cons .nilA (.cons .nilA (.cons (.d _) (.cons (.d _) (.cons .nilA (.cons (.d _) (.cons (.d _) (.cons (.d _) (.cons (.d _) (.cons (.d _) (.cons (.d _) (.cons (.d _) .nil)))))))))))))) (.cons (.d _) .nil)))⟩)
   intro c6
   replace h := ifP c6 h
   refine eN (sw_condF R (sw_skip (block_norm (then_norm (sw_rg (r_movD R R R (r_add R R R R (r_asgD R R R (eN ?_)))))))))
   exact ⟨m1, ⟨[(3, .d (.arr 3 ((turns).map WiTurn.d))), (4, .ref 0 4 0 0), (6, .ref 1 2 0 0), (8, .ref 2 13 0 0), (9, .d (.v (.int .i64 0))), (11, .ref 3 13 0 0), (12, .d (.v (.int .i64 (W (i + 1)))))], [some ⟨4, [.d (WiPlan.d p)]⟩, some ⟨2, [.d (WiSky.d sky)]⟩, some ⟨13, [.d (.agg [.v (.slice none 0 0), .v (.slice none 0 0), .v (.slice none 0 0), .v (.int .i64 0), .v (.int .i64 0), .v (.slice none 0 0), .v (.int .i64 0), .v (.int .i64 0), .v (.bool false), .v (.int .i64 0), .v (.int .i64 0), .v (.int .i64 0), .v (.int .i64 0)])]⟩, some ⟨13, [.d (Desk.d rv3.1)]⟩]⟩, [0, 1, 2, 3], Nat.lt_succ_self _, (vwK R R (.cons R R (.cons R R (.cons R R (.cons R R .nil)))) (.cons R R (.cons R R (.cons R R (.cons R R (.cons R R (.cons R R (.cons R R .nil)))))))), rv3.1, (W (i + 1)), h, R⟩
  intro c5
  replace h := ifN (Int.not_lt.2 c5) h
  refine eN (sw_condF R (sw_exit (then_exit (then_exit ?_))))
  subst hK1
  refine block_exit (then_norm (qG (r_ldD (y := Desk.d d) tb R R R R R R R R R (r_stE _ ([some ⟨4, [.d (WiPlan.d p)]⟩, some ⟨2, [.d (WiSky.d sky)]⟩, some ⟨13, [.d (Desk.d d)]⟩, some ⟨13, [.d (Desk.d d)]⟩]) tb R R R R R R R R R R R R (r_asgD R R R (eN (sw_ret ?_)))))))
  obtain rfl := sI h
  exact (fin_S (t := .d (.tup [Desk.d d, .v (.int .i64 0)])) (L := []) (κ := []) R (.cons (rcell tb (u := .d (Desk.d d)) R R R R R R R) (.cons (.tmp 9) .nil)) (vwK R R .nil (.cons R R .nil)) ⟨_, R, (.d _)⟩)
 intro c
 replace h := ifN c h
 refine r_movD R R R (r_skip R R R (r_skip R R R (r_skip R R R (r_pickF R R R R (eN (sw_condF R (sw_skip (then_norm (sw_seq (qG (r_movD R R R ?_)))))))))))
 refine r_neq R R R R ?_ ?_
 ·intro c7
  replace h := ifN c7 h
  refine eN (sw_condT R (qG (r_build (v := .d (.agg [.v (.slice none 0 0), .v (.slice none 0 0), .v (.slice none 0 0), .v (.int .i64 0), .v (.int .i64 0), .v (.slice none 0 0), .v (.int .i64 0), .v (.int .i64 0), .v (.bool false), .v (.int .i64 0), .v (.int .i64 0), .v (.int .i64 0), .v (.int .i64 0)])) tb R R (List.cons_ne_nil _ _) (by kernel_rfl) (by kernel_rfl) (by kernel_rfl) (by kernel_rfl) R R (r_movD R R R ?_))))
  refine r_stE _ ([some ⟨4, [.d (WiPlan.d p)]⟩, some ⟨4, [.d (WiState.d s)]⟩, some ⟨2, [.d (WiSky.d sky)]⟩, some ⟨13, [.d (.agg [.v (.slice none 0 0), .v (.slice none 0 0), .v (.slice none 0 0), .v (.int .i64 0), .v (.int .i64 0), .v (.slice none 0 0), .v (.int .i64 0), .v (.int .i64 0), .v (.bool false), .v (.int .i64 0), .v (.int .i64 0), .v (.int .i64 0), .v (.int .i64 0)])]⟩]) tb R R R R R R R R R R R R (r_asgD R R R (eN (sw_ret (then_ret ?_))))
  obtain rfl := sI h
  exact (fin_S (t := .d (.tup [.agg [.v (.slice none 0 0), .v (.slice none 0 0), .v (.slice none 0 0), .v (.int .i64 0), .v (.int .i64 0), .v (.slice none 0 0), .v (.int .i64 0), .v (.int .i64 0), .v (.bool false), .v (.int .i64 0), .v (.int .i64 0), .v (.int .i64 0), .v (.int .i64 0)], .v (.int .i64 rv)])) (L := []) (κ := []) R (.cons (rcell tb (u := .d (.agg [.v (.slice none 0 0), .v (.slice none 0 0), .v (.slice none 0 0), .v (.int .i64 0), .v (.int .i64 0), .v (.slice none 0 0), .v (.int .i64 0), .v (.int .i64 0), .v (.bool false), .v (.int .i64 0), .v (.int .i64 0), .v (.int .i64 0), .v (.int .i64 0)])) R R R R R R R) (.cons (.tmp 9) .nil)) (vwK R R .nil (.cons R R .nil)) ⟨_, R, (.tupDL (.cons (.aggDL (.cons .nilA (.cons .nilA (.cons .nilA (.cons (.d _) (.cons (.d _) (.cons .nilA (.cons (.d _) (.cons (.d _) (.cons (.d _) (.cons (.d _) (.cons (.d _) (.cons (.d _) (.cons (.d _) .nil)))))))))))))) (.cons (.d _) .nil)))⟩)
 intro c7
 replace h := ifP c7 h
 refine eN (sw_condF R (sw_skip (then_norm (sw_seq (sw_dr (by kernel_rfl) (r_ldD (y := WiState.d s) tb R R R R R R R R R ?_))))))
 obtain ⟨rv4, hrv4, h⟩ := bnd h
 refine r_callN (t' := WiState_T1 rv4 4 5 6) (news' := [(lvI rv4.used), (lvI rv4.credit), (lvI rv4.last)]) (r_copied_scr hrv4) (.of (by kernel_rfl)) R R R ((.row (.row (.row .nil)))) R R R (r_fa tb R R R R R R R (r_ldD (y := .arr 3 ((p.windows).map WiWindow.d)) tb R R R R R R R R R (r_fa tb R R R R R R R (r_ldD (y := .v (.int .i64 s.next)) tb R R R R R R R R R ?_))))
 obtain ⟨e3, ie3, h⟩ := bnd h
 refine r_ixE tb R R R R R R (ix0 ie3) (ix1m ie3) R R (r_faE tb R R R R R R R (r_ldE (y := .v (.int .i64 e3.from_)) tb R R (ix2 (g := WiWindow.d) ie3) R R R R (r_fa tb R R R R R R R (r_ldD (y := .v (.int .i64 s.next)) tb R R R R R R R R R (r_build (v := .d (.agg [.v (.int .i64 s.next), .v (.int .i64 (-1)), .v (.int .i64 0), .v (.int .i64 (-1))])) tb R R (List.cons_ne_nil _ _) R R R R R R ?_)))))
 refine r_build (v := .agg [.row 4 1 0 (rv4.used).length, .row 5 1 0 (rv4.credit).length, .row 6 1 0 (rv4.last).length, .d (.v (.int .i64 rv4.next)), .d (.v (.int .i64 e3.from_)), .d (.v (.slice none 0 0)), .d (.v (.int .i64 (-1))), .d (.v (.int .i64 (-1))), .d (.v (.bool false)), .d (.v (.int .i64 s.next)), .d (.v (.int .i64 (-1))), .d (.v (.int .i64 0)), .d (.v (.int .i64 (-1)))]) tb R R (List.cons_ne_nil _ _) (by kernel_rfl) (by kernel_rfl) (by kernel_rfl) (by kernel_rfl) R R (r_alloc tb R R R R R ?_)
 refine r_stE _ ([some ⟨4, [.d (WiPlan.d p)]⟩, some ⟨4, [.d (WiState.d s)]⟩, some ⟨2, [.d (WiSky.d sky)]⟩, some ⟨13, [.d (.agg [.v (.slice none 0 0), .v (.slice none 0 0), .v (.slice none 0 0), .v (.int .i64 0), .v (.int .i64 0), .v (.slice none 0 0), .v (.int .i64 0), .v (.int .i64 0), .v (.bool false), .v (.int .i64 0), .v (.int .i64 0), .v (.int .i64 0), .v (.int .i64 0)])]⟩, some (lvI rv4.used), some (lvI rv4.credit), some (lvI rv4.last), some ⟨13, [.agg [.row 4 1 0 (rv4.used).length, .row 5 1 0 (rv4.credit).length, .row 6 1 0 (rv4.last).length, .d (.v (.int .i64 rv4.next)), .d (.v (.int .i64 e3.from_)), .d (.v (.slice none 0 0)), .d (.v (.int .i64 (-1))), .d (.v (.int .i64 (-1))), .d (.v (.bool false)), .d (.v (.int .i64 s.next)), .d (.v (.int .i64 (-1))), .d (.v (.int .i64 0)), .d (.v (.int .i64 (-1)))]]⟩]) tb R R R R R R R R R R R R ?_
 refine ev_endD (by kernel_rfl) (then_norm (sw_seq (qG (r_asgD R R R (eN (sw_block ?_))))))
 refine SW.own (ts' := [(3, .d (.arr 3 ((turns).map WiTurn.d))), (4, .ref 0 4 0 0), (6, .ref 2 2 0 0), (8, .ref 3 13 0 0), (9, .d (.v (.int .i64 0))), (11, .ref 7 13 0 0), (12, .d (.v (.int .i64 0)))]) (L' := [some ⟨4, [.d (WiPlan.d p)]⟩, some ⟨4, [.d (WiState.d s)]⟩, some ⟨2, [.d (WiSky.d sky)]⟩, some ⟨13, [.d (.agg [.v (.slice none 0 0), .v (.slice none 0 0), .v (.slice none 0 0), .v (.int .i64 0), .v (.int .i64 0), .v (.slice none 0 0), .v (.int .i64 0), .v (.int .i64 0), .v (.bool false), .v (.int .i64 0), .v (.int .i64 0), .v (.int .i64 0), .v (.int .i64 0)])]⟩, some (lvI rv4.used), some (lvI rv4.credit), some (lvI rv4.last), some ⟨13, [Desk_T2 (Desk.mk rv4.used rv4.credit rv4.last rv4.next e3.from_ ([] : List Int) (-1) (-1) false s.next (-1) 0 (-1)) 4 5 6 8]⟩]) 1 R R (.cons (.same _) (.cons (.same _) (.cons (.same _) (.cons (.same _) (.cons (.same _) (.cons (.same _) (.cons (.same _) .nil))))))) (.same (.same (.same (.same (.same (.same (.same (.cons R (.cons (.aggL (.cons (.same _) (.cons (.same _) (.cons (.same _) (.cons (.same _) (.cons (.same _) (.cons .nil (.cons (.same _) (.cons (.same _) (.cons (.same _) (.cons (.same _) (.cons (.same _) (.cons (.same _) (.cons (.same _) .nil)))))))))))))) .nil) .nil)))))))) ?_
 simp only [List.cons_append, List.nil_append]
 refine SW.fz (ts' := [(3, .d (.arr 3 ((turns).map WiTurn.d))), (4, .ref 0 4 0 0), (6, .ref 2 2 0 0), (8, .ref 3 13 0 0), (9, .d (.v (.int .i64 0))), (11, .ref 7 13 0 0), (12, .d (.v (.int .i64 0)))]) (L' := [some ⟨4, [.d (WiPlan.d p)]⟩, some ⟨4, [.d (WiState.d s)]⟩, some ⟨2, [.d (WiSky.d sky)]⟩, some ⟨13, [.d (.agg [.v (.slice none 0 0), .v (.slice none 0 0), .v (.slice none 0 0), .v (.int .i64 0), .v (.int .i64 0), .v (.slice none 0 0), .v (.int .i64 0), .v (.int .i64 0), .v (.bool false), .v (.int .i64 0), .v (.int .i64 0), .v (.int .i64 0), .v (.int .i64 0)])]⟩, none, some (lvI rv4.credit), some (lvI rv4.last), some ⟨13, [Desk_T4 (Desk.mk rv4.used rv4.credit rv4.last rv4.next e3.from_ ([] : List Int) (-1) (-1) false s.next (-1) 0 (-1)) 5 6 8]⟩, some (lvI ([] : List Int))]) (w := rv4.used) (f := vI) 4 1 R (.cons (.same _) (.cons (.same _) (.cons (.same _) (.cons (.same _) (.cons (.same _) (.cons (.same _) (.cons (.same _) .nil))))))) (.same (.same (.same (.same (.same (.same (.same (.cons R (.cons (.aggL (.cons (.all (List.length_map _)) (.cons (.same _) (.cons (.same _) (.cons (.same _) (.cons (.same _) (.cons (.same _) (.cons (.same _) (.cons (.same _) (.cons (.same _) (.cons (.same _) (.cons (.same _) (.cons (.same _) (.cons (.same _) .nil)))))))))))))) .nil) (.same .nil))))))))) ?_
 refine SW.fz (ts' := [(3, .d (.arr 3 ((turns).map WiTurn.d))), (4, .ref 0 4 0 0), (6, .ref 2 2 0 0), (8, .ref 3 13 0 0), (9, .d (.v (.int .i64 0))), (11, .ref 7 13 0 0), (12, .d (.v (.int .i64 0)))]) (L' := [some ⟨4, [.d (WiPlan.d p)]⟩, some ⟨4, [.d (WiState.d s)]⟩, some ⟨2, [.d (WiSky.d sky)]⟩, some ⟨13, [.d (.agg [.v (.slice none 0 0), .v (.slice none 0 0), .v (.slice none 0 0), .v (.int .i64 0), .v (.int .i64 0), .v (.slice none 0 0), .v (.int .i64 0), .v (.int .i64 0), .v (.bool false), .v (.int .i64 0), .v (.int .i64 0), .v (.int .i64 0), .v (.int .i64 0)])]⟩, none, none, some (lvI rv4.last), some ⟨13, [Desk_T5 (Desk.mk rv4.used rv4.credit rv4.last rv4.next e3.from_ ([] : List Int) (-1) (-1) false s.next (-1) 0 (-1)) 6 8]⟩, some (lvI ([] : List Int))]) (w := rv4.credit) (f := vI) 5 1 R (.cons (.same _) (.cons (.same _) (.cons (.same _) (.cons (.same _) (.cons (.same _) (.cons (.same _) (.cons (.same _) .nil))))))) (.same (.same (.same (.same (.same (.same (.same (.cons R (.cons (.aggL (.cons (.same _) (.cons (.all (List.length_map _)) (.cons (.same _) (.cons (.same _) (.cons (.same _) (.cons (.same _) (.cons (.same _) (.cons (.same _) (.cons (.same _) (.cons (.same _) (.cons (.same _) (.cons (.same _) (.cons (.same _) .nil)))))))))))))) .nil) (.same .nil))))))))) ?_
 refine SW.fz (ts' := [(3, .d (.arr 3 ((turns).map WiTurn.d))), (4, .ref 0 4 0 0), (6, .ref 2 2 0 0), (8, .ref 3 13 0 0), (9, .d (.v (.int .i64 0))), (11, .ref 7 13 0 0), (12, .d (.v (.int .i64 0)))]) (L' := [some ⟨4, [.d (WiPlan.d p)]⟩, some ⟨4, [.d (WiState.d s)]⟩, some ⟨2, [.d (WiSky.d sky)]⟩, some ⟨13, [.d (.agg [.v (.slice none 0 0), .v (.slice none 0 0), .v (.slice none 0 0), .v (.int .i64 0), .v (.int .i64 0), .v (.slice none 0 0), .v (.int .i64 0), .v (.int .i64 0), .v (.bool false), .v (.int .i64 0), .v (.int .i64 0), .v (.int .i64 0), .v (.int .i64 0)])]⟩, none, none, none, some ⟨13, [Desk_T3 (Desk.mk rv4.used rv4.credit rv4.last rv4.next e3.from_ ([] : List Int) (-1) (-1) false s.next (-1) 0 (-1)) 8]⟩, some (lvI ([] : List Int))]) (w := rv4.last) (f := vI) 6 1 R (.cons (.same _) (.cons (.same _) (.cons (.same _) (.cons (.same _) (.cons (.same _) (.cons (.same _) (.cons (.same _) .nil))))))) (.same (.same (.same (.same (.same (.same (.same (.cons R (.cons (.aggL (.cons (.same _) (.cons (.same _) (.cons (.all (List.length_map _)) (.cons (.same _) (.cons (.same _) (.cons (.same _) (.cons (.same _) (.cons (.same _) (.cons (.same _) (.cons (.same _) (.cons (.same _) (.cons (.same _) (.cons (.same _) .nil)))))))))))))) .nil) (.same .nil))))))))) ?_
 refine SW.fz (ts' := [(3, .d (.arr 3 ((turns).map WiTurn.d))), (4, .ref 0 4 0 0), (6, .ref 2 2 0 0), (8, .ref 3 13 0 0), (9, .d (.v (.int .i64 0))), (11, .ref 7 13 0 0), (12, .d (.v (.int .i64 0)))]) (L' := [some ⟨4, [.d (WiPlan.d p)]⟩, some ⟨4, [.d (WiState.d s)]⟩, some ⟨2, [.d (WiSky.d sky)]⟩, some ⟨13, [.d (.agg [.v (.slice none 0 0), .v (.slice none 0 0), .v (.slice none 0 0), .v (.int .i64 0), .v (.int .i64 0), .v (.slice none 0 0), .v (.int .i64 0), .v (.int .i64 0), .v (.bool false), .v (.int .i64 0), .v (.int .i64 0), .v (.int .i64 0), .v (.int .i64 0)])]⟩, none, none, none, some ⟨13, [.d (.agg [.arr 1 ((rv4.used).map vI), .arr 1 ((rv4.credit).map vI), .arr 1 ((rv4.last).map vI), .v (.int .i64 rv4.next), .v (.int .i64 e3.from_), .arr 1 ((([] : List Int)).map vI), .v (.int .i64 (-1)), .v (.int .i64 (-1)), .v (.bool false), .v (.int .i64 s.next), .v (.int .i64 (-1)), .v (.int .i64 0), .v (.int .i64 (-1))])]⟩, none]) (w := ([] : List Int)) (f := vI) 8 1 R (.cons (.same _) (.cons (.same _) (.cons (.same _) (.cons (.same _) (.cons (.same _) (.cons (.same _) (.cons (.same _) .nil))))))) (.same (.same (.same (.same (.same (.same (.same (.cons R (.cons (.aggDL (.cons (.same _) (.cons (.same _) (.cons (.same _) (.cons (.same _) (.cons (.same _) (.cons (.all (List.length_map _)) (.cons (.same _) (.cons (.same _) (.cons (.same _) (.cons (.same _) (.cons (.same _) (.cons (.same _) (.cons (.same _) .nil)))))))))))))) .nil) (.same .nil))))))))) ?_
 obtain ⟨K2, hK2, h⟩ : ∃ K, K = _ ∧ r_played_L2 F p sky turns K F (Desk.mk rv4.used rv4.credit rv4.last rv4.next e3.from_ ([] : List Int) (-1) (-1) false s.next (-1) 0 (-1)) 0 = some r := ⟨_, rfl, h⟩
 refine sw_loop (st0 := ⟨[(3, .d (.arr 3 ((turns).map WiTurn.d))), (4, .ref 0 4 0 0), (6, .ref 1 2 0 0), (8, .ref 2 13 0 0), (9, .d (.v (.int .i64 0))), (11, .ref 3 13 0 0), (12, .d (.v (.int .i64 0)))], [some ⟨4, [.d (WiPlan.d p)]⟩, some ⟨2, [.d (WiSky.d sky)]⟩, some ⟨13, [.d (.agg [.v (.slice none 0 0), .v (.slice none 0 0), .v (.slice none 0 0), .v (.int .i64 0), .v (.int .i64 0), .v (.slice none 0 0), .v (.int .i64 0), .v (.int .i64 0), .v (.bool false), .v (.int .i64 0), .v (.int .i64 0), .v (.int .i64 0), .v (.int .i64 0)])]⟩, some ⟨13, [.d (.agg [.arr 1 ((rv4.used).map vI), .arr 1 ((rv4.credit).map vI), .arr 1 ((rv4.last).map vI), .v (.int .i64 rv4.next), .v (.int .i64 e3.from_), .arr 1 ((([] : List Int)).map vI), .v (.int .i64 (-1)), .v (.int .i64 (-1)), .v (.bool false), .v (.int .i64 s.next), .v (.int .i64 (-1)), .v (.int .i64 0), .v (.int .i64 (-1))])]⟩]⟩) (κ := [0, 2, 3, 7]) (fun m st => ∃ (d2 : Desk) (i2 : Int), r_played_L2 F p sky turns K2 m d2 i2 = some r ∧ st = ⟨[(3, .d (.arr 3 ((turns).map WiTurn.d))), (4, .ref 0 4 0 0), (6, .ref 1 2 0 0), (8, .ref 2 13 0 0), (9, .d (.v (.int .i64 0))), (11, .ref 3 13 0 0), (12, .d (.v (.int .i64 i2)))], [some ⟨4, [.d (WiPlan.d p)]⟩, some ⟨2, [.d (WiSky.d sky)]⟩, some ⟨13, [.d (.agg [.v (.slice none 0 0), .v (.slice none 0 0), .v (.slice none 0 0), .v (.int .i64 0), .v (.int .i64 0), .v (.slice none 0 0), .v (.int .i64 0), .v (.int .i64 0), .v (.bool false), .v (.int .i64 0), .v (.int .i64 0), .v (.int .i64 0), .v (.int .i64 0)])]⟩, some ⟨13, [.d (Desk.d d2)]⟩]⟩) (vwK R R (.cons R R (.cons R R (.cons R R (.cons R R .nil)))) (.cons R R (.cons R R (.cons R R (.cons R R (.cons R R (.cons R R (.cons R R .nil)))))))) ⟨(Desk.mk rv4.used rv4.credit rv4.last rv4.next e3.from_ ([] : List Int) (-1) (-1) false s.next (-1) 0 (-1)), 0, h, R⟩ ?_
 clear h
 rintro m2 st ⟨d2, i2, h, rfl⟩
 cases m2 with
 | zero => cases (show (none : Option (Desk × Int)) = some r from h)
 | succ m2 =>
 rw [r_played_L2] at h
 refine sw_seq (qG (r_movD R R R (r_movD R R R (r_lenM tb R R R R R ?_))))
 refine r_lss R R R R ?_ ?_
 ·intro c8
  replace h := ifP c8 h
  refine eN (sw_condT R (sw_skip (then_norm (sw_seq (sw_block (sw_seq (sw_dr (by kernel_rfl) (r_ldD (y := WiPlan.d p) tb R R R R R R R R R (r_ldD (y := WiSky.d sky) tb R R R R R R R R R (r_ldD (y := Desk.d d2) tb R R R R R R R R R (r_movD R R R (r_movD R R R ?_))))))))))))
  obtain ⟨e4, ie4, h⟩ := bnd h
  refine r_ixE tb R R R R R R (ix0 ie4) (ix1m ie4) R R (r_ldE (y := WiTurn.d e4) tb R R (ix2 (g := WiTurn.d) ie4) R R R R ?_)
  obtain ⟨rv5, hrv5, h⟩ := bnd h
  refine r_call (r_act_pc hrv5) (.of (by kernel_rfl)) R R R R (r_movD R R R (r_extD (t := Desk.d rv5.1) R R R R (r_extD (t := .v (.int .i64 rv5.2)) R R R R ?_)))
  refine r_stE _ ([some ⟨4, [.d (WiPlan.d p)]⟩, some ⟨2, [.d (WiSky.d sky)]⟩, some ⟨13, [.d (.agg [.v (.slice none 0 0), .v (.slice none 0 0), .v (.slice none 0 0), .v (.int .i64 0), .v (.int .i64 0), .v (.slice none 0 0), .v (.int .i64 0), .v (.int .i64 0), .v (.bool false), .v (.int .i64 0), .v (.int .i64 0), .v (.int .i64 0), .v (.int .i64 0)])]⟩, some ⟨13, [.d (Desk.d rv5.1)]⟩]) tb R R R R R R R R R R R R (r_asgD R R R (ev_endD (by kernel_rfl) (then_norm (qG (r_movD R R R ?_)))))
  refine r_neq R R R R ?_ ?_
  ·intro c9
   replace h := ifN c9 h
   refine eN (sw_condT R (qG (r_build (v := .d (.agg [.v (.slice none 0 0), .v (.slice none 0 0), .v (.slice none 0 0), .v (.int .i64 0), .v (.int .i64 0), .v (.slice none 0 0), .v (.int .i64 0), .v (.int .i64 0), .v (.bool false), .v (.int .i64 0), .v (.int .i64 0), .v (.int .i64 0), .v (.int .i64 0)])) tb R R (List.cons_ne_nil _ _) (by kernel_rfl) (by kernel_rfl) (by kernel_rfl) (by kernel_rfl) R R (r_movD R R R ?_))))
   refine r_stE _ ([some ⟨4, [.d (WiPlan.d p)]⟩, some ⟨2, [.d (WiSky.d sky)]⟩, some ⟨13, [.d (.agg [.v (.slice none 0 0), .v (.slice none 0 0), .v (.slice none 0 0), .v (.int .i64 0), .v (.int .i64 0), .v (.slice none 0 0), .v (.int .i64 0), .v (.int .i64 0), .v (.bool false), .v (.int .i64 0), .v (.int .i64 0), .v (.int .i64 0), .v (.int .i64 0)])]⟩, some ⟨13, [.d (Desk.d rv5.1)]⟩]) tb R R R R R R R R R R R R (r_asgD R R R (eN (sw_ret (block_ret (then_ret (then_ret (block_ret (then_ret ?_))))))))
   obtain rfl := sI h
   exact (fin_S (t := .d (.tup [.agg [.v (.slice none 0 0), .v (.slice none 0 0), .v (.slice none 0 0), .v (.int .i64 0), .v (.int .i64 0), .v (.slice none 0 0), .v (.int .i64 0), .v (.int .i64 0), .v (.bool false), .v (.int .i64 0), .v (.int .i64 0), .v (.int .i64 0), .v (.int .i64 0)], .v (.int .i64 rv5.2)])) (L := []) (κ := []) R (.cons (rcell tb (u := .d (.agg [.v (.slice none 0 0), .v (.slice none 0 0), .v (.slice none 0 0), .v (.int .i64 0), .v (.int .i64 0), .v (.slice none 0 0), .v (.int .i64 0), .v (.int .i64 0), .v (.bool false), .v (.int .i64 0), .v (.int .i64 0), .v (.int .i64 0), .v (.int .i64 0)])) R R R R R R R) (.cons (.tmp 9) .nil)) (vwK R R .nil (.cons R R .nil)) ⟨_, R, (.tupDL (.cons (.aggDL (.cons .nilA (.cons .nilA (.cons .nilA (.cons (.d _) (.cons (.d _) (.cons .nilA (.cons (.d _) (.cons (.d _) (.cons (.d _) (.cons (.d _) (.cons (.d _) (.cons (.d _) (.cons (.d _) .nil)))))))))))))) (.cons (.d _) .nil)))⟩)
  intro c9
  replace h := ifP c9 h
  refine eN (sw_condF R (sw_skip (block_norm (then_norm (sw_rg (r_movD R R R (r_add R R R R (r_asgD R R R (eN ?_)))))))))
  exact ⟨m2, ⟨[(3, .d (.arr 3 ((turns).map WiTurn.d))), (4, .ref 0 4 0 0), (6, .ref 1 2 0 0), (8, .ref 2 13 0 0), (9, .d (.v (.int .i64 0))), (11, .ref 3 13 0 0), (12, .d (.v (.int .i64 (W (i2 + 1)))))], [some ⟨4, [.d (WiPlan.d p)]⟩, some ⟨2, [.d (WiSky.d sky)]⟩, some ⟨13, [.d (.agg [.v (.slice none 0 0), .v (.slice none 0 0), .v (.slice none 0 0), .v (.int .i64 0), .v (.int .i64 0), .v (.slice none 0 0), .v (.int .i64 0), .v (.int .i64 0), .v (.bool false), .v (.int .i64 0), .v (.int .i64 0), .v (.int .i64 0), .v (.int .i64 0)])]⟩, some ⟨13, [.d (Desk.d rv5.1)]⟩]⟩, [0, 1, 2, 3], Nat.lt_succ_self _, (vwK R R (.cons R R (.cons R R (.cons R R (.cons R R .nil)))) (.cons R R (.cons R R (.cons R R (.cons R R (.cons R R (.cons R R (.cons R R .nil)))))))), rv5.1, (W (i2 + 1)), h, R⟩
 intro c8
 replace h := ifN (Int.not_lt.2 c8) h
 refine eN (sw_condF R (sw_exit (then_exit (then_exit ?_))))
 subst hK2
 refine block_exit (then_norm (qG (r_ldD (y := Desk.d d2) tb R R R R R R R R R (r_stE _ ([some ⟨4, [.d (WiPlan.d p)]⟩, some ⟨2, [.d (WiSky.d sky)]⟩, some ⟨13, [.d (Desk.d d2)]⟩, some ⟨13, [.d (Desk.d d2)]⟩]) tb R R R R R R R R R R R R (r_asgD R R R (eN (sw_ret ?_)))))))
 obtain rfl := sI h
 exact (fin_S (t := .d (.tup [Desk.d d2, .v (.int .i64 0)])) (L := []) (κ := []) R (.cons (rcell tb (u := .d (Desk.d d2)) R R R R R R R) (.cons (.tmp 9) .nil)) (vwK R R .nil (.cons R R .nil)) ⟨_, R, (.d _)⟩)
/-- hangfireref11.Turns -/
def r_Turns (F : Nat) (p : WiPlan) (s : WiState) (sky : WiSky) (turns : (List WiTurn)) : Option (Int × Int × (List Int) × Int) := Option.bind (r_played F p s sky turns) fun rv => if rv.2 = 0 then (Option.bind (r_turn F p sky rv.1) fun rv2 => Option.bind (r_receivers F p sky rv.1) fun rv3 => some (rv2, rv.1.minute, rv3, 0)) else (some (0, 0, ([] : List Int), rv.2))
theorem r_Turns_scr {F : Nat} {p : WiPlan} {s : WiState} {sky : WiSky} {turns : (List WiTurn)} {r : (Int × Int × (List Int) × Int)} (h : r_Turns F p s sky turns = some r) : SCR Try.prog 33 (List.map T.d [WiPlan.d p, WiState.d s, WiSky.d sky, .arr 3 ((turns).map WiTurn.d)]) [] (.tup [.d (.v (.int .i64 r.1)), .d (.v (.int .i64 r.2.1)), .row 0 1 0 (r.2.2.1).length, .d (.v (.int .i64 r.2.2.2))]) (List.map some [(lvI r.2.2.1)]) := by
 rw [r_Turns] at h
 refine SC.of_sw Try.func33 R R R ?_
 simp only [List.map_cons, List.map_nil, argS, Nat.zero_add, Nat.reduceAdd]
 refine qG (r_box R R R R R R R (r_box R R R R R R R (r_box R R R R R R R (r_asgD R R R (r_asgD R R R (r_asgD R R R (r_asgD R R R (eN (qG (r_ldD (y := WiPlan.d p) tb R R R R R R R R R (r_ldD (y := WiState.d s) tb R R R R R R R R R (r_ldD (y := WiSky.d sky) tb R R R R R R R R R (r_movD R R R ?_)))))))))))))
 obtain ⟨rv, hrv, h⟩ := bnd h
 refine r_call (r_played_pc hrv) (.of (by kernel_rfl)) R R R R (r_movD R R R (r_extD (t := Desk.d rv.1) R R R R (r_extD (t := .v (.int .i64 rv.2)) R R R R (r_alloc tb R R R R R (r_stE _ ([some ⟨4, [.d (WiPlan.d p)]⟩, some ⟨4, [.d (WiState.d s)]⟩, some ⟨2, [.d (WiSky.d sky)]⟩, some ⟨13, [.d (Desk.d rv.1)]⟩]) tb R R R R R R R R R R R R (r_asgD R R R (eN (sw_seq (qG (r_movD R R R ?_))))))))))
 refine r_neq R R R R ?_ ?_
 ·intro c
  replace h := ifN c h
  refine eN (sw_condT R (qG (r_movD R R R (r_asgD R R R (r_asgD R R R (r_asgD R R R (r_asgD R R R (eN ?_))))))))
  refine SW.own (ts' := [(8, .d (.v (.int .i64 0))), (9, .d (.v (.int .i64 0))), (10, .row 4 1 0 (([] : List Int)).length), (11, .d (.v (.int .i64 rv.2)))]) (L' := [some ⟨4, [.d (WiPlan.d p)]⟩, some ⟨4, [.d (WiState.d s)]⟩, some ⟨2, [.d (WiSky.d sky)]⟩, some ⟨13, [.d (Desk.d rv.1)]⟩]) 1 R R (.cons (.same _) (.cons (.same _) (.cons .nil (.cons (.same _) .nil)))) (.same (.same (.same (.same .nil)))) ?_
  simp only [List.cons_append, List.nil_append]
  refine sw_ret (then_ret ?_)
  obtain rfl := sI h
  exact (fin_S (t := .tup [.d (.v (.int .i64 0)), .d (.v (.int .i64 0)), .row 0 1 0 (([] : List Int)).length, .d (.v (.int .i64 rv.2))]) (L := [some (lvI ([] : List Int))]) (κ := [4]) R (.cons (.tmp 8) (.cons (.tmp 9) (.cons (.tmp 10) (.cons (.tmp 11) .nil)))) (vwK R R (.row R .nil) (.cons R R .nil)) ⟨R, R⟩)
 intro c
 replace h := ifP c h
 refine eN (sw_condF R (sw_skip (then_norm (sw_seq (sw_dr (by kernel_rfl) (r_ldD (y := WiPlan.d p) tb R R R R R R R R R (r_ldD (y := WiSky.d sky) tb R R R R R R R R R (r_ldD (y := Desk.d rv.1) tb R R R R R R R R R ?_))))))))
 obtain ⟨rv2, hrv2, h⟩ := bnd h
 refine r_call (r_turn_pc hrv2) (.of (by kernel_rfl)) R R R R (r_fa tb R R R R R R R (r_ldD (y := .v (.int .i64 rv.1.minute)) tb R R R R R R R R R (r_ldD (y := WiPlan.d p) tb R R R R R R R R R (r_ldD (y := WiSky.d sky) tb R R R R R R R R R (r_ldD (y := Desk.d rv.1) tb R R R R R R R R R ?_)))))
 obtain ⟨rv3, hrv3, h⟩ := bnd h
 refine r_callN (t' := .row 4 1 0 (rv3).length) (news' := [(lvI rv3)]) (r_receivers_scr hrv3) (.of (by kernel_rfl)) R R R ((.row .nil)) R R R (r_asgD R R R (r_asgD R R R (r_asgW R R R (r_asgD R R R (ev_endD (by kernel_rfl) (then_norm (sw_ret ?_)))))))
 obtain rfl := sI h
 exact (fin_S (t := .tup [.d (.v (.int .i64 rv2)), .d (.v (.int .i64 rv.1.minute)), .row 0 1 0 (rv3).length, .d (.v (.int .i64 0))]) (L := [some (lvI rv3)]) (κ := [4]) R (.cons (.tmp 8) (.cons (.tmp 9) (.cons (.tmp 10) (.cons (.tmp 11) .nil)))) (vwK R R (.row R .nil) (.cons R R .nil)) ⟨R, R⟩)
theorem r_Turns_pc {F : Nat} {p : WiPlan} {s : WiState} {sky : WiSky} {turns : (List WiTurn)} {r : (Int × Int × (List Int) × Int)} (h : r_Turns F p s sky turns = some r) : PC Try.prog 33 [WiPlan.d p, WiState.d s, WiSky.d sky, .arr 3 ((turns).map WiTurn.d)] (.tup [.v (.int .i64 r.1), .v (.int .i64 r.2.1), .arr 1 ((r.2.2.1).map vI), .v (.int .i64 r.2.2.2)]) := (r_Turns_scr h).toPC (.tupL (.cons (.d _) (.cons (.d _) (.cons (.row rfl rfl) (.cons (.d _) .nil)))))
/-- hangfireref11.Play -/
def r_Play (F : Nat) (p : WiPlan) (s : WiState) (nv : WiNight) : Option (WiState × WiUse × Int) := Option.bind (r_played F p s (WiSky.mk nv.sky_Kinds nv.sky_Wind) nv.turns) fun rv => if rv.2 = 0 then (Option.bind (r_turn F p (WiSky.mk nv.sky_Kinds nv.sky_Wind) rv.1) fun rv2 => if 0 ≤ rv2 then (some ((WiState.mk [] [] [] 0), (WiUse.mk 0 0 0 0), 2)) else (if rv.2 = 0 then (some ((WiState.mk rv.1.s_Used rv.1.s_Credit rv.1.s_Last (W (rv.1.s_Next + 1))), (WiUse.mk rv.1.use_Window rv.1.use_Team rv.1.use_At rv.1.use_By), 0)) else (some ((WiState.mk [] [] [] 0), (WiUse.mk 0 0 0 0), rv.2)))) else (if rv.2 = 0 then (some ((WiState.mk rv.1.s_Used rv.1.s_Credit rv.1.s_Last (W (rv.1.s_Next + 1))), (WiUse.mk rv.1.use_Window rv.1.use_Team rv.1.use_At rv.1.use_By), 0)) else (some ((WiState.mk [] [] [] 0), (WiUse.mk 0 0 0 0), rv.2)))
theorem r_Play_pc {F : Nat} {p : WiPlan} {s : WiState} {nv : WiNight} {r : (WiState × WiUse × Int)} (h : r_Play F p s nv = some r) : PC Try.prog 25 [WiPlan.d p, WiState.d s, WiNight.d nv] (.tup [WiState.d r.1, WiUse.d r.2.1, .v (.int .i64 r.2.2)]) := by
 rw [r_Play] at h
 refine PC.of_lend ?_
 refine SC.of_sw Try.func25 R R R ?_
 simp only [List.map_cons, List.map_nil, argS, Nat.zero_add, Nat.reduceAdd]
 refine qG (r_box R R R R R R R (r_box R R R R R R R (r_box R R R R R R R (r_alloc tb R R R R R (r_alloc tb R R R R R (r_asgD R R R (eN (qG (r_ldD (y := WiPlan.d p) tb R R R R R R R R R (r_ldD (y := WiState.d s) tb R R R R R R R R R (r_fa tb R R R R R R R (r_ldD (y := .agg [.arr 1 ((nv.sky_Kinds).map vI), .v (.int .i64 nv.sky_Wind)]) tb R R R R R R R R R (r_fa tb R R R R R R R ?_)))))))))))))
 refine r_ldD (y := .arr 3 ((nv.turns).map WiTurn.d)) tb R R R R R R R R R ?_
 obtain ⟨rv, hrv, h⟩ := bnd h
 refine r_call (r_played_pc hrv) (.of (by kernel_rfl)) R R R R (r_movD R R R (r_extD (t := Desk.d rv.1) R R R R (r_extD (t := .v (.int .i64 rv.2)) R R R R (r_alloc tb R R R R R ?_))))
 refine r_stE _ ([some ⟨4, [.d (WiPlan.d p)]⟩, some ⟨4, [.d (WiState.d s)]⟩, some ⟨3, [.d (WiNight.d nv)]⟩, some ⟨4, [.d (.agg [.v (.slice none 0 0), .v (.slice none 0 0), .v (.slice none 0 0), .v (.int .i64 0)])]⟩, some ⟨4, [.d (.agg [.v (.int .i64 0), .v (.int .i64 0), .v (.int .i64 0), .v (.int .i64 0)])]⟩, some ⟨13, [.d (Desk.d rv.1)]⟩]) tb R R R R R R R R R R R R (r_asgD R R R (eN (sw_seq (qG (r_movD R R R ?_)))))
 refine r_eql R R R R ?_ ?_
 ·intro c
  replace h := ifP c h
  refine r_movD R R R (r_ldD (y := WiPlan.d p) tb R R R R R R R R R (r_fa tb R R R R R R R (r_ldD (y := .agg [.arr 1 ((nv.sky_Kinds).map vI), .v (.int .i64 nv.sky_Wind)]) tb R R R R R R R R R (r_ldD (y := Desk.d rv.1) tb R R R R R R R R R ?_))))
  obtain ⟨rv2, hrv2, h⟩ := bnd h
  refine r_call (r_turn_pc hrv2) (.of (by kernel_rfl)) R R R R ?_
  refine r_geq R R R R ?_ ?_
  ·intro c2
   replace h := ifP c2 h
   refine r_pickT R R R R (eN (sw_condT R (sw_rg (r_asgD R R R (eN (sw_seq (qG (r_movD R R R ?_))))))))
   refine r_neq R R R R ?_ ?_
   rotate_left
   ·intro c3; exact absurd c3 (by decide)
   intro _
   refine eN (sw_condT R (qG (r_build (v := .d (.agg [.v (.slice none 0 0), .v (.slice none 0 0), .v (.slice none 0 0), .v (.int .i64 0)])) tb R R (List.cons_ne_nil _ _) R R R R R R (r_build (v := .d (.agg [.v (.int .i64 0), .v (.int .i64 0), .v (.int .i64 0), .v (.int .i64 0)])) tb R R (List.cons_ne_nil _ _) R R R R R R (r_movD R R R ?_)))))
   refine r_stE _ ([some ⟨4, [.d (WiPlan.d p)]⟩, some ⟨4, [.d (WiState.d s)]⟩, some ⟨3, [.d (WiNight.d nv)]⟩, some ⟨4, [.d (.agg [.v (.slice none 0 0), .v (.slice none 0 0), .v (.slice none 0 0), .v (.int .i64 0)])]⟩, some ⟨4, [.d (.agg [.v (.int .i64 0), .v (.int .i64 0), .v (.int .i64 0), .v (.int .i64 0)])]⟩, some ⟨13, [.d (Desk.d rv.1)]⟩]) tb R R R R R R R R R R R R ?_
   refine r_stE _ ([some ⟨4, [.d (WiPlan.d p)]⟩, some ⟨4, [.d (WiState.d s)]⟩, some ⟨3, [.d (WiNight.d nv)]⟩, some ⟨4, [.d (.agg [.v (.slice none 0 0), .v (.slice none 0 0), .v (.slice none 0 0), .v (.int .i64 0)])]⟩, some ⟨4, [.d (.agg [.v (.int .i64 0), .v (.int .i64 0), .v (.int .i64 0), .v (.int .i64 0)])]⟩, some ⟨13, [.d (Desk.d rv.1)]⟩]) tb R R R R R R R R R R R R (r_asgD R R R (eN (sw_ret (then_ret ?_))))
   obtain rfl := sI h
   exact (fin_S (t := .d (.tup [.agg [.v (.slice none 0 0), .v (.slice none 0 0), .v (.slice none 0 0), .v (.int .i64 0)], .agg [.v (.int .i64 0), .v (.int .i64 0), .v (.int .i64 0), .v (.int .i64 0)], .v (.int .i64 2)])) (L := []) (κ := []) R (.cons (rcell tb (u := .d (.agg [.v (.slice none 0 0), .v (.slice none 0 0), .v (.slice none 0 0), .v (.int .i64 0)])) R R R R R R R) (.cons (rcell tb (u := .d (.agg [.v (.int .i64 0), .v (.int .i64 0), .v (.int .i64 0), .v (.int .i64 0)])) R R R R R R R) (.cons (.tmp 8) .nil))) (vwK R R .nil (.cons R R .nil)) ⟨_, R, (.tupDL (.cons (.aggDL (.cons .nilA (.cons .nilA (.cons .nilA (.cons (.d _) .nil))))) (.cons (.d _) (.cons (.d _) .nil))))⟩)
  intro c2
  replace h := ifN (Int.not_le.2 c2) h
  refine r_pickT R R R R (eN (sw_condF R (sw_skip (then_norm (sw_seq (qG (r_movD R R R ?_)))))))
  refine r_neq R R R R ?_ ?_
  ·intro c4
   replace h := ifN c4 h
   refine eN (sw_condT R (qG (r_build (v := .d (.agg [.v (.slice none 0 0), .v (.slice none 0 0), .v (.slice none 0 0), .v (.int .i64 0)])) tb R R (List.cons_ne_nil _ _) R R R R R R (r_build (v := .d (.agg [.v (.int .i64 0), .v (.int .i64 0), .v (.int .i64 0), .v (.int .i64 0)])) tb R R (List.cons_ne_nil _ _) R R R R R R (r_movD R R R ?_)))))
   refine r_stE _ ([some ⟨4, [.d (WiPlan.d p)]⟩, some ⟨4, [.d (WiState.d s)]⟩, some ⟨3, [.d (WiNight.d nv)]⟩, some ⟨4, [.d (.agg [.v (.slice none 0 0), .v (.slice none 0 0), .v (.slice none 0 0), .v (.int .i64 0)])]⟩, some ⟨4, [.d (.agg [.v (.int .i64 0), .v (.int .i64 0), .v (.int .i64 0), .v (.int .i64 0)])]⟩, some ⟨13, [.d (Desk.d rv.1)]⟩]) tb R R R R R R R R R R R R ?_
   refine r_stE _ ([some ⟨4, [.d (WiPlan.d p)]⟩, some ⟨4, [.d (WiState.d s)]⟩, some ⟨3, [.d (WiNight.d nv)]⟩, some ⟨4, [.d (.agg [.v (.slice none 0 0), .v (.slice none 0 0), .v (.slice none 0 0), .v (.int .i64 0)])]⟩, some ⟨4, [.d (.agg [.v (.int .i64 0), .v (.int .i64 0), .v (.int .i64 0), .v (.int .i64 0)])]⟩, some ⟨13, [.d (Desk.d rv.1)]⟩]) tb R R R R R R R R R R R R (r_asgD R R R (eN (sw_ret (then_ret ?_))))
   obtain rfl := sI h
   exact (fin_S (t := .d (.tup [.agg [.v (.slice none 0 0), .v (.slice none 0 0), .v (.slice none 0 0), .v (.int .i64 0)], .agg [.v (.int .i64 0), .v (.int .i64 0), .v (.int .i64 0), .v (.int .i64 0)], .v (.int .i64 rv.2)])) (L := []) (κ := []) R (.cons (rcell tb (u := .d (.agg [.v (.slice none 0 0), .v (.slice none 0 0), .v (.slice none 0 0), .v (.int .i64 0)])) R R R R R R R) (.cons (rcell tb (u := .d (.agg [.v (.int .i64 0), .v (.int .i64 0), .v (.int .i64 0), .v (.int .i64 0)])) R R R R R R R) (.cons (.tmp 8) .nil))) (vwK R R .nil (.cons R R .nil)) ⟨_, R, (.tupDL (.cons (.aggDL (.cons .nilA (.cons .nilA (.cons .nilA (.cons (.d _) .nil))))) (.cons (.d _) (.cons (.d _) .nil))))⟩)
  intro c4
  replace h := ifP c4 h
  refine eN (sw_condF R (sw_skip (then_norm (qG (r_fa tb R R R R R R R (r_fa tb R R R R R R R (r_ldD (y := .v (.int .i64 rv.1.s_Next)) tb R R R R R R R R R (r_add R R R R (r_fa tb R R R R R R R (r_fa tb R R R R R R R ?_))))))))))
  refine r_stE _ ([some ⟨4, [.d (WiPlan.d p)]⟩, some ⟨4, [.d (WiState.d s)]⟩, some ⟨3, [.d (WiNight.d nv)]⟩, some ⟨4, [.d (.agg [.v (.slice none 0 0), .v (.slice none 0 0), .v (.slice none 0 0), .v (.int .i64 0)])]⟩, some ⟨4, [.d (.agg [.v (.int .i64 0), .v (.int .i64 0), .v (.int .i64 0), .v (.int .i64 0)])]⟩, some ⟨13, [.d (Desk.d {rv.1 with s_Next := (W (rv.1.s_Next + 1))})]⟩]) tb R R R R R R R R R R R R (eN (sw_seq (sw_dr (by kernel_rfl) (r_fa tb R R R R R R R ?_))))
  refine r_ldD (y := .agg [.arr 1 ((rv.1.s_Used).map vI), .arr 1 ((rv.1.s_Credit).map vI), .arr 1 ((rv.1.s_Last).map vI), .v (.int .i64 (W (rv.1.s_Next + 1)))]) tb R R R R R R R R R (r_fa tb R R R R R R R (r_ldD (y := .agg [.v (.int .i64 rv.1.use_Window), .v (.int .i64 rv.1.use_Team), .v (.int .i64 rv.1.use_At), .v (.int .i64 rv.1.use_By)]) tb R R R R R R R R R ?_))
  refine r_stE _ ([some ⟨4, [.d (WiPlan.d p)]⟩, some ⟨4, [.d (WiState.d s)]⟩, some ⟨3, [.d (WiNight.d nv)]⟩, some ⟨4, [.d (.agg [.arr 1 ((rv.1.s_Used).map vI), .arr 1 ((rv.1.s_Credit).map vI), .arr 1 ((rv.1.s_Last).map vI), .v (.int .i64 (W (rv.1.s_Next + 1)))])]⟩, some ⟨4, [.d (.agg [.v (.int .i64 0), .v (.int .i64 0), .v (.int .i64 0), .v (.int .i64 0)])]⟩, some ⟨13, [.d (Desk.d {rv.1 with s_Next := (W (rv.1.s_Next + 1))})]⟩]) tb R R R R R R R R R R R R ?_
  refine r_stE _ ([some ⟨4, [.d (WiPlan.d p)]⟩, some ⟨4, [.d (WiState.d s)]⟩, some ⟨3, [.d (WiNight.d nv)]⟩, some ⟨4, [.d (.agg [.arr 1 ((rv.1.s_Used).map vI), .arr 1 ((rv.1.s_Credit).map vI), .arr 1 ((rv.1.s_Last).map vI), .v (.int .i64 (W (rv.1.s_Next + 1)))])]⟩, some ⟨4, [.d (.agg [.v (.int .i64 rv.1.use_Window), .v (.int .i64 rv.1.use_Team), .v (.int .i64 rv.1.use_At), .v (.int .i64 rv.1.use_By)])]⟩, some ⟨13, [.d (Desk.d {rv.1 with s_Next := (W (rv.1.s_Next + 1))})]⟩]) tb R R R R R R R R R R R R (r_asgD R R R (ev_endD (by kernel_rfl) (then_norm ?_)))
  refine sw_ret ?_
  obtain rfl := sI h
  exact (fin_S (t := .d (.tup [.agg [.arr 1 ((rv.1.s_Used).map vI), .arr 1 ((rv.1.s_Credit).map vI), .arr 1 ((rv.1.s_Last).map vI), .v (.int .i64 (W (rv.1.s_Next + 1)))], .agg [.v (.int .i64 rv.1.use_Window), .v (.int .i64 rv.1.use_Team), .v (.int .i64 rv.1.use_At), .v (.int .i64 rv.1.use_By)], .v (.int .i64 0)])) (L := []) (κ := []) R (.cons (rcell tb (u := .d (.agg [.arr 1 ((rv.1.s_Used).map vI), .arr 1 ((rv.1.s_Credit).map vI), .arr 1 ((rv.1.s_Last).map vI), .v (.int .i64 (W (rv.1.s_Next + 1)))])) R R R R R R R) (.cons (rcell tb (u := .d (.agg [.v (.int .i64 rv.1.use_Window), .v (.int .i64 rv.1.use_Team), .v (.int .i64 rv.1.use_At), .v (.int .i64 rv.1.use_By)])) R R R R R R R) (.cons (.tmp 8) .nil))) (vwK R R .nil (.cons R R .nil)) ⟨_, R, (.d _)⟩)
 intro c
 replace h := ifN c h
 refine r_movD R R R (r_skip R R R (r_skip R R R (r_skip R R R (r_skip R R R (r_skip R R R (r_skip R R R (r_pickF R R R R (eN (sw_condF R (sw_skip (then_norm (sw_seq (qG (r_movD R R R ?_))))))))))))))
 refine r_neq R R R R ?_ ?_
 ·intro c5
  replace h := ifN c5 h
  refine eN (sw_condT R (qG (r_build (v := .d (.agg [.v (.slice none 0 0), .v (.slice none 0 0), .v (.slice none 0 0), .v (.int .i64 0)])) tb R R (List.cons_ne_nil _ _) R R R R R R (r_build (v := .d (.agg [.v (.int .i64 0), .v (.int .i64 0), .v (.int .i64 0), .v (.int .i64 0)])) tb R R (List.cons_ne_nil _ _) R R R R R R (r_movD R R R ?_)))))
  refine r_stE _ ([some ⟨4, [.d (WiPlan.d p)]⟩, some ⟨4, [.d (WiState.d s)]⟩, some ⟨3, [.d (WiNight.d nv)]⟩, some ⟨4, [.d (.agg [.v (.slice none 0 0), .v (.slice none 0 0), .v (.slice none 0 0), .v (.int .i64 0)])]⟩, some ⟨4, [.d (.agg [.v (.int .i64 0), .v (.int .i64 0), .v (.int .i64 0), .v (.int .i64 0)])]⟩, some ⟨13, [.d (Desk.d rv.1)]⟩]) tb R R R R R R R R R R R R ?_
  refine r_stE _ ([some ⟨4, [.d (WiPlan.d p)]⟩, some ⟨4, [.d (WiState.d s)]⟩, some ⟨3, [.d (WiNight.d nv)]⟩, some ⟨4, [.d (.agg [.v (.slice none 0 0), .v (.slice none 0 0), .v (.slice none 0 0), .v (.int .i64 0)])]⟩, some ⟨4, [.d (.agg [.v (.int .i64 0), .v (.int .i64 0), .v (.int .i64 0), .v (.int .i64 0)])]⟩, some ⟨13, [.d (Desk.d rv.1)]⟩]) tb R R R R R R R R R R R R (r_asgD R R R (eN (sw_ret (then_ret ?_))))
  obtain rfl := sI h
  exact (fin_S (t := .d (.tup [.agg [.v (.slice none 0 0), .v (.slice none 0 0), .v (.slice none 0 0), .v (.int .i64 0)], .agg [.v (.int .i64 0), .v (.int .i64 0), .v (.int .i64 0), .v (.int .i64 0)], .v (.int .i64 rv.2)])) (L := []) (κ := []) R (.cons (rcell tb (u := .d (.agg [.v (.slice none 0 0), .v (.slice none 0 0), .v (.slice none 0 0), .v (.int .i64 0)])) R R R R R R R) (.cons (rcell tb (u := .d (.agg [.v (.int .i64 0), .v (.int .i64 0), .v (.int .i64 0), .v (.int .i64 0)])) R R R R R R R) (.cons (.tmp 8) .nil))) (vwK R R .nil (.cons R R .nil)) ⟨_, R, (.tupDL (.cons (.aggDL (.cons .nilA (.cons .nilA (.cons .nilA (.cons (.d _) .nil))))) (.cons (.d _) (.cons (.d _) .nil))))⟩)
 intro c5
 replace h := ifP c5 h
 refine eN (sw_condF R (sw_skip (then_norm (qG (r_fa tb R R R R R R R (r_fa tb R R R R R R R (r_ldD (y := .v (.int .i64 rv.1.s_Next)) tb R R R R R R R R R (r_add R R R R (r_fa tb R R R R R R R (r_fa tb R R R R R R R ?_))))))))))
 refine r_stE _ ([some ⟨4, [.d (WiPlan.d p)]⟩, some ⟨4, [.d (WiState.d s)]⟩, some ⟨3, [.d (WiNight.d nv)]⟩, some ⟨4, [.d (.agg [.v (.slice none 0 0), .v (.slice none 0 0), .v (.slice none 0 0), .v (.int .i64 0)])]⟩, some ⟨4, [.d (.agg [.v (.int .i64 0), .v (.int .i64 0), .v (.int .i64 0), .v (.int .i64 0)])]⟩, some ⟨13, [.d (Desk.d {rv.1 with s_Next := (W (rv.1.s_Next + 1))})]⟩]) tb R R R R R R R R R R R R (eN (sw_seq (sw_dr (by kernel_rfl) (r_fa tb R R R R R R R ?_))))
 refine r_ldD (y := .agg [.arr 1 ((rv.1.s_Used).map vI), .arr 1 ((rv.1.s_Credit).map vI), .arr 1 ((rv.1.s_Last).map vI), .v (.int .i64 (W (rv.1.s_Next + 1)))]) tb R R R R R R R R R (r_fa tb R R R R R R R (r_ldD (y := .agg [.v (.int .i64 rv.1.use_Window), .v (.int .i64 rv.1.use_Team), .v (.int .i64 rv.1.use_At), .v (.int .i64 rv.1.use_By)]) tb R R R R R R R R R ?_))
 refine r_stE _ ([some ⟨4, [.d (WiPlan.d p)]⟩, some ⟨4, [.d (WiState.d s)]⟩, some ⟨3, [.d (WiNight.d nv)]⟩, some ⟨4, [.d (.agg [.arr 1 ((rv.1.s_Used).map vI), .arr 1 ((rv.1.s_Credit).map vI), .arr 1 ((rv.1.s_Last).map vI), .v (.int .i64 (W (rv.1.s_Next + 1)))])]⟩, some ⟨4, [.d (.agg [.v (.int .i64 0), .v (.int .i64 0), .v (.int .i64 0), .v (.int .i64 0)])]⟩, some ⟨13, [.d (Desk.d {rv.1 with s_Next := (W (rv.1.s_Next + 1))})]⟩]) tb R R R R R R R R R R R R ?_
 refine r_stE _ ([some ⟨4, [.d (WiPlan.d p)]⟩, some ⟨4, [.d (WiState.d s)]⟩, some ⟨3, [.d (WiNight.d nv)]⟩, some ⟨4, [.d (.agg [.arr 1 ((rv.1.s_Used).map vI), .arr 1 ((rv.1.s_Credit).map vI), .arr 1 ((rv.1.s_Last).map vI), .v (.int .i64 (W (rv.1.s_Next + 1)))])]⟩, some ⟨4, [.d (.agg [.v (.int .i64 rv.1.use_Window), .v (.int .i64 rv.1.use_Team), .v (.int .i64 rv.1.use_At), .v (.int .i64 rv.1.use_By)])]⟩, some ⟨13, [.d (Desk.d {rv.1 with s_Next := (W (rv.1.s_Next + 1))})]⟩]) tb R R R R R R R R R R R R (r_asgD R R R (ev_endD (by kernel_rfl) (then_norm ?_)))
 refine sw_ret ?_
 obtain rfl := sI h
 exact (fin_S (t := .d (.tup [.agg [.arr 1 ((rv.1.s_Used).map vI), .arr 1 ((rv.1.s_Credit).map vI), .arr 1 ((rv.1.s_Last).map vI), .v (.int .i64 (W (rv.1.s_Next + 1)))], .agg [.v (.int .i64 rv.1.use_Window), .v (.int .i64 rv.1.use_Team), .v (.int .i64 rv.1.use_At), .v (.int .i64 rv.1.use_By)], .v (.int .i64 0)])) (L := []) (κ := []) R (.cons (rcell tb (u := .d (.agg [.arr 1 ((rv.1.s_Used).map vI), .arr 1 ((rv.1.s_Credit).map vI), .arr 1 ((rv.1.s_Last).map vI), .v (.int .i64 (W (rv.1.s_Next + 1)))])) R R R R R R R) (.cons (rcell tb (u := .d (.agg [.v (.int .i64 rv.1.use_Window), .v (.int .i64 rv.1.use_Team), .v (.int .i64 rv.1.use_At), .v (.int .i64 rv.1.use_By)])) R R R R R R R) (.cons (.tmp 8) .nil))) (vwK R R .nil (.cons R R .nil)) ⟨_, R, (.d _)⟩)
/-- hangfireref11.SameUses -/
def r_SameUses_L1 (F : Nat) (a : (List WiUse)) (b : (List WiUse)) (K : Int → Option Bool) : Nat → Int → Option Bool
 | 0, _ => none
 | n + 1, i => if i < (a.length : Int) then (Option.bind (ixO a i) fun e => Option.bind (ixO b i) fun e2 => if (!(WiUse.beq e e2)) = true then (some false) else (r_SameUses_L1 F a b K n (W (i + 1)))) else (K i)
def r_SameUses (F : Nat) (a : (List WiUse)) (b : (List WiUse)) : Option Bool := if (a.length : Int) = (b.length : Int) then (r_SameUses_L1 F a b (fun (i : Int) => some true) F 0) else (some false)
theorem r_SameUses_pc {F : Nat} {a : (List WiUse)} {b : (List WiUse)} {r : Bool} (h : r_SameUses F a b = some r) : PC Try.prog 29 [.arr 4 ((a).map WiUse.d), .arr 4 ((b).map WiUse.d)] (.v (.bool r)) := by
 rw [r_SameUses] at h
 refine SC.of_sw Try.func29 R R R ?_
 simp only [List.map_cons, List.map_nil, argS, Nat.zero_add, Nat.reduceAdd]
 refine qG (r_asgD R R R (eN (sw_seq (qG (r_movD R R R (r_lenM tb R R R R R (r_movD R R R (r_lenM tb R R R R R ?_))))))))
 refine r_neq R R R R ?_ ?_
 ·intro c
  replace h := ifN c h
  refine eN (sw_condT R (qG (r_asgD R R R (eN (sw_ret (then_ret ?_))))))
  obtain rfl := sI h
  exact fin_0 (t := .d (.v (.bool false))) R R R (.cons (.tmp 4) .nil)
 intro c
 replace h := ifP c h
 refine eN (sw_condF R (sw_skip (then_norm (sw_seq (qG (r_asgD R R R (eN (sw_block ?_))))))))
 obtain ⟨K2, hK2, h⟩ : ∃ K, K = _ ∧ r_SameUses_L1 F a b K F 0 = some r := ⟨_, rfl, h⟩
 refine sw_loop (st0 := ⟨[(0, .d (.arr 4 ((a).map WiUse.d))), (1, .d (.arr 4 ((b).map WiUse.d))), (4, .d (.v (.bool false))), (5, .d (.v (.int .i64 0)))], []⟩) (κ := []) (fun m st => ∃ (i : Int), r_SameUses_L1 F a b K2 m i = some r ∧ st = ⟨[(0, .d (.arr 4 ((a).map WiUse.d))), (1, .d (.arr 4 ((b).map WiUse.d))), (4, .d (.v (.bool false))), (5, .d (.v (.int .i64 i)))], []⟩) (vwK R R .nil (.cons R R (.cons R R (.cons R R (.cons R R .nil))))) ⟨0, h, R⟩ ?_
 clear h
 rintro m2 st ⟨i, h, rfl⟩
 cases m2 with
 | zero => cases (show (none : Option Bool) = some r from h)
 | succ m2 =>
 rw [r_SameUses_L1] at h
 refine sw_seq (qG (r_movD R R R (r_movD R R R (r_lenM tb R R R R R ?_))))
 refine r_lss R R R R ?_ ?_
 ·intro c2
  replace h := ifP c2 h
  refine eN (sw_condT R (sw_skip (then_norm (sw_seq (sw_block (sw_seq (sw_dr (by kernel_rfl) (r_movD R R R (r_movD R R R ?_)))))))))
  obtain ⟨e, ie, h⟩ := bnd h
  refine r_ixE tb R R R R R R (ix0 ie) (ix1m ie) R R (r_ldE (y := WiUse.d e) tb R R (ix2 (g := WiUse.d) ie) R R R R (r_movD R R R (r_movD R R R ?_)))
  obtain ⟨e2, ie2, h⟩ := bnd h
  refine r_ixE tb R R R R R R (ix0 ie2) (ix1m ie2) R R (r_ldE (y := WiUse.d e2) tb R R (ix2 (g := WiUse.d) ie2) R R R R ?_)
  refine r_neqA (p := [.int .i64 e.window, .int .i64 e.team, .int .i64 e.at_, .int .i64 e.by_]) (q := [.int .i64 e2.window, .int .i64 e2.team, .int .i64 e2.at_, .int .i64 e2.by_]) R R (fun o1 o2 w => ne44 e e2 o1 o2 w) R R ?_
  with_reducible apply ev_lit
  ·intro c3
   replace h := ifP c3 h
   refine ev_endD (by kernel_rfl) (then_norm (sw_condT R (qG (r_asgD R R R (eN (sw_ret (block_ret (then_ret (then_ret (block_ret (then_ret ?_)))))))))))
   obtain rfl := sI h
   exact fin_0 (t := .d (.v (.bool false))) R R R (.cons (.tmp 4) .nil)
  intro c3
  replace h := ifF c3 h
  refine ev_endD (by kernel_rfl) (then_norm (sw_condF R (sw_skip (block_norm (then_norm (sw_rg (r_movD R R R (r_add R R R R (r_asgD R R R (eN ?_))))))))))
  exact ⟨m2, ⟨[(0, .d (.arr 4 ((a).map WiUse.d))), (1, .d (.arr 4 ((b).map WiUse.d))), (4, .d (.v (.bool false))), (5, .d (.v (.int .i64 (W (i + 1)))))], []⟩, [], Nat.lt_succ_self _, (vwK R R .nil (.cons R R (.cons R R (.cons R R (.cons R R .nil))))), (W (i + 1)), h, R⟩
 intro c2
 replace h := ifN (Int.not_lt.2 c2) h
 refine eN (sw_condF R (sw_exit (then_exit (then_exit ?_))))
 subst hK2
 refine block_exit (then_norm (qG (r_asgD R R R (eN (sw_ret ?_)))))
 obtain rfl := sI h
 exact fin_0 (t := .d (.v (.bool true))) R R R (.cons (.tmp 4) .nil)
/-- hangfireref11.Why -/
def r_Why (F : Nat) (p : WiPlan) (s : WiState) (sky : WiSky) (team : Int) (minute : Int) : Option (Int × Int) := Option.bind (r_asked F p s sky) fun rv => if rv = 0 then (Option.bind (r_in F team 0 (W ((p.teams.length : Int) - 1))) fun rv2 => if rv2 = true then (if rv = 0 then (Option.bind (ixO p.windows s.next) fun e => Option.bind (r_in F minute e.from_ e.until_) fun rv3 => if rv3 = true then (if rv = 0 then (Option.bind (r_why F p s sky team minute) fun rv4 => some (rv4, 0)) else (some (0, rv))) else (some (0, 7))) else (if rv = 0 then (Option.bind (r_why F p s sky team minute) fun rv5 => some (rv5, 0)) else (some (0, rv)))) else (some (0, 4))) else (if rv = 0 then (Option.bind (ixO p.windows s.next) fun e2 => Option.bind (r_in F minute e2.from_ e2.until_) fun rv6 => if rv6 = true then (if rv = 0 then (Option.bind (r_why F p s sky team minute) fun rv7 => some (rv7, 0)) else (some (0, rv))) else (some (0, 7))) else (if rv = 0 then (Option.bind (r_why F p s sky team minute) fun rv8 => some (rv8, 0)) else (some (0, rv))))
theorem r_Why_pc {F : Nat} {p : WiPlan} {s : WiState} {sky : WiSky} {team : Int} {minute : Int} {r : (Int × Int)} (h : r_Why F p s sky team minute = some r) : PC Try.prog 38 [WiPlan.d p, WiState.d s, WiSky.d sky, .v (.int .i64 team), .v (.int .i64 minute)] (.tup [.v (.int .i64 r.1), .v (.int .i64 r.2)]) := by
 rw [r_Why] at h
 refine SC.of_sw Try.func38 R R R ?_
 simp only [List.map_cons, List.map_nil, argS, Nat.zero_add, Nat.reduceAdd]
 refine qG (r_box R R R R R R R (r_box R R R R R R R (r_box R R R R R R R (r_asgD R R R (r_asgD R R R (eN (qG (r_ldD (y := WiPlan.d p) tb R R R R R R R R R (r_ldD (y := WiState.d s) tb R R R R R R R R R (r_ldD (y := WiSky.d sky) tb R R R R R R R R R ?_))))))))))
 obtain ⟨rv, hrv, h⟩ := bnd h
 refine r_call (r_asked_pc hrv) (.of (by kernel_rfl)) R R R R (r_asgD R R R (eN (sw_seq (qG (r_movD R R R ?_)))))
 refine r_eql R R R R ?_ ?_
 ·intro c
  replace h := ifP c h
  refine r_movD R R R (r_movD R R R (r_fa tb R R R R R R R (r_ldD (y := .arr 9 ((p.teams).map WiTeam.d)) tb R R R R R R R R R (r_lenM tb R R R R R (r_sub R R R R ?_)))))
  obtain ⟨rv2, hrv2, h⟩ := bnd h
  refine r_callB (r_in_pc hrv2) (.of (by kernel_rfl)) R R R R ?_ ?_
  ·intro c2
   replace h := ifP c2 h
   refine r_notT R R R (r_pickT R R R R (eN (sw_condF R (sw_skip (then_norm (sw_seq (sw_seq (sw_dr (by kernel_rfl) (r_movD R R R ?_)))))))))
   refine r_eql R R R R ?_ ?_
   ·intro c3
    replace h := ifP c3 h
    refine r_movD R R R (r_movD R R R (r_fa tb R R R R R R R (r_ldD (y := .arr 3 ((p.windows).map WiWindow.d)) tb R R R R R R R R R (r_fa tb R R R R R R R (r_ldD (y := .v (.int .i64 s.next)) tb R R R R R R R R R ?_)))))
    obtain ⟨e, ie, h⟩ := bnd h
    refine r_ixE tb R R R R R R (ix0 ie) (ix1m ie) R R (r_faE tb R R R R R R R (r_ldE (y := .v (.int .i64 e.from_)) tb R R (ix2 (g := WiWindow.d) ie) R R R R (r_fa tb R R R R R R R (r_ldD (y := .arr 3 ((p.windows).map WiWindow.d)) tb R R R R R R R R R (r_fa tb R R R R R R R (r_ldD (y := .v (.int .i64 s.next)) tb R R R R R R R R R (r_ixE tb R R R R R R (ix0 ie) (ix1m ie) R R (r_faE tb R R R R R R R ?_))))))))
    refine r_ldE (y := .v (.int .i64 e.until_)) tb R R (ix2 (g := WiWindow.d) ie) R R R R ?_
    obtain ⟨rv3, hrv3, h⟩ := bnd h
    refine r_callB (r_in_pc hrv3) (.of (by kernel_rfl)) R R R R ?_ ?_
    ·intro c4
     replace h := ifP c4 h
     refine r_notT R R R (r_pickT R R R R (ev_endD (by kernel_rfl) (then_norm (sw_condF R (sw_skip (then_norm (sw_seq (qG (r_movD R R R ?_)))))))))
     refine r_neq R R R R ?_ ?_
     ·intro c5
      replace h := ifN c5 h
      refine eN (sw_condT R (qG (r_movD R R R (r_asgD R R R (r_asgD R R R (eN (sw_ret (then_ret ?_))))))))
      obtain rfl := sI h
      exact fin_0 (t := .d (.tup [.v (.int .i64 0), .v (.int .i64 rv)])) R R R (.cons (.tmp 10) (.cons (.tmp 11) .nil))
     intro c5
     replace h := ifP c5 h
     refine eN (sw_condF R (sw_skip (then_norm (qG (r_ldD (y := WiPlan.d p) tb R R R R R R R R R (r_ldD (y := WiState.d s) tb R R R R R R R R R (r_ldD (y := WiSky.d sky) tb R R R R R R R R R (r_movD R R R (r_movD R R R ?_)))))))))
     obtain ⟨rv4, hrv4, h⟩ := bnd h
     refine r_call (r_why_pc hrv4) (.of (by kernel_rfl)) R R R R (r_asgD R R R (r_asgD R R R (eN (sw_ret ?_))))
     obtain rfl := sI h
     exact fin_0 (t := .d (.tup [.v (.int .i64 rv4), .v (.int .i64 0)])) R R R (.cons (.tmp 10) (.cons (.tmp 11) .nil))
    intro c4
    replace h := ifF c4 h
    refine r_notF R R R (r_pickT R R R R (ev_endD (by kernel_rfl) (then_norm (sw_condT R (sw_rg (r_asgD R R R (eN (sw_seq (qG (r_movD R R R ?_))))))))))
    refine r_neq R R R R ?_ ?_
    rotate_left
    ·intro c6; exact absurd c6 (by decide)
    intro _
    refine eN (sw_condT R (qG (r_movD R R R (r_asgD R R R (r_asgD R R R (eN (sw_ret (then_ret ?_))))))))
    obtain rfl := sI h
    exact fin_0 (t := .d (.tup [.v (.int .i64 0), .v (.int .i64 7)])) R R R (.cons (.tmp 10) (.cons (.tmp 11) .nil))
   intro c3
   replace h := ifN c3 h
   refine r_movD R R R (r_skip R R R (r_skip R R R (r_skip R R R (r_skip R R R (r_skip R R R (r_skip R R R (r_skip R R R (r_skip R R R (r_skip R R R (r_skip R R R (r_skip R R R (r_skip R R R (r_skip R R R (r_skip R R R (r_skip R R R (r_skip R R R (r_skip R R R (r_pickF R R R R (ev_endD (by kernel_rfl) (then_norm (sw_condF R (sw_skip (then_norm (sw_seq (qG (r_movD R R R ?_))))))))))))))))))))))))))
   refine r_neq R R R R ?_ ?_
   ·intro c7
    replace h := ifN c7 h
    refine eN (sw_condT R (qG (r_movD R R R (r_asgD R R R (r_asgD R R R (eN (sw_ret (then_ret ?_))))))))
    obtain rfl := sI h
    exact fin_0 (t := .d (.tup [.v (.int .i64 0), .v (.int .i64 rv)])) R R R (.cons (.tmp 10) (.cons (.tmp 11) .nil))
   intro c7
   replace h := ifP c7 h
   refine eN (sw_condF R (sw_skip (then_norm (qG (r_ldD (y := WiPlan.d p) tb R R R R R R R R R (r_ldD (y := WiState.d s) tb R R R R R R R R R (r_ldD (y := WiSky.d sky) tb R R R R R R R R R (r_movD R R R (r_movD R R R ?_)))))))))
   obtain ⟨rv5, hrv5, h⟩ := bnd h
   refine r_call (r_why_pc hrv5) (.of (by kernel_rfl)) R R R R (r_asgD R R R (r_asgD R R R (eN (sw_ret ?_))))
   obtain rfl := sI h
   exact fin_0 (t := .d (.tup [.v (.int .i64 rv5), .v (.int .i64 0)])) R R R (.cons (.tmp 10) (.cons (.tmp 11) .nil))
  intro c2
  replace h := ifF c2 h
  refine r_notF R R R (r_pickT R R R R (eN (sw_condT R (sw_rg (r_asgD R R R (eN (sw_seq (sw_seq (sw_dr (by kernel_rfl) (r_movD R R R ?_))))))))))
  refine r_eql R R R R ?_ ?_
  ·intro c8; exact absurd c8 (by decide)
  intro _
  refine r_movD R R R (r_skip R R R (r_skip R R R (r_skip R R R (r_skip R R R (r_skip R R R (r_skip R R R (r_skip R R R (r_skip R R R (r_skip R R R (r_skip R R R (r_skip R R R (r_skip R R R (r_skip R R R (r_skip R R R (r_skip R R R (r_skip R R R (r_skip R R R (r_pickF R R R R (ev_endD (by kernel_rfl) (then_norm (sw_condF R (sw_skip (then_norm (sw_seq (qG (r_movD R R R ?_))))))))))))))))))))))))))
  refine r_neq R R R R ?_ ?_
  rotate_left
  ·intro c9; exact absurd c9 (by decide)
  intro _
  refine eN (sw_condT R (qG (r_movD R R R (r_asgD R R R (r_asgD R R R (eN (sw_ret (then_ret ?_))))))))
  obtain rfl := sI h
  exact fin_0 (t := .d (.tup [.v (.int .i64 0), .v (.int .i64 4)])) R R R (.cons (.tmp 10) (.cons (.tmp 11) .nil))
 intro c
 replace h := ifN c h
 refine r_movD R R R (r_skip R R R (r_skip R R R (r_skip R R R (r_skip R R R (r_skip R R R (r_skip R R R (r_skip R R R (r_pickF R R R R (eN (sw_condF R (sw_skip (then_norm (sw_seq (sw_seq (sw_dr (by kernel_rfl) (r_movD R R R ?_))))))))))))))))
 refine r_eql R R R R ?_ ?_
 ·intro c10
  replace h := ifP c10 h
  refine r_movD R R R (r_movD R R R (r_fa tb R R R R R R R (r_ldD (y := .arr 3 ((p.windows).map WiWindow.d)) tb R R R R R R R R R (r_fa tb R R R R R R R (r_ldD (y := .v (.int .i64 s.next)) tb R R R R R R R R R ?_)))))
  obtain ⟨e2, ie2, h⟩ := bnd h
  refine r_ixE tb R R R R R R (ix0 ie2) (ix1m ie2) R R (r_faE tb R R R R R R R (r_ldE (y := .v (.int .i64 e2.from_)) tb R R (ix2 (g := WiWindow.d) ie2) R R R R (r_fa tb R R R R R R R (r_ldD (y := .arr 3 ((p.windows).map WiWindow.d)) tb R R R R R R R R R (r_fa tb R R R R R R R (r_ldD (y := .v (.int .i64 s.next)) tb R R R R R R R R R (r_ixE tb R R R R R R (ix0 ie2) (ix1m ie2) R R (r_faE tb R R R R R R R ?_))))))))
  refine r_ldE (y := .v (.int .i64 e2.until_)) tb R R (ix2 (g := WiWindow.d) ie2) R R R R ?_
  obtain ⟨rv6, hrv6, h⟩ := bnd h
  refine r_callB (r_in_pc hrv6) (.of (by kernel_rfl)) R R R R ?_ ?_
  ·intro c11
   replace h := ifP c11 h
   refine r_notT R R R (r_pickT R R R R (ev_endD (by kernel_rfl) (then_norm (sw_condF R (sw_skip (then_norm (sw_seq (qG (r_movD R R R ?_)))))))))
   refine r_neq R R R R ?_ ?_
   ·intro c12
    replace h := ifN c12 h
    refine eN (sw_condT R (qG (r_movD R R R (r_asgD R R R (r_asgD R R R (eN (sw_ret (then_ret ?_))))))))
    obtain rfl := sI h
    exact fin_0 (t := .d (.tup [.v (.int .i64 0), .v (.int .i64 rv)])) R R R (.cons (.tmp 10) (.cons (.tmp 11) .nil))
   intro c12
   replace h := ifP c12 h
   refine eN (sw_condF R (sw_skip (then_norm (qG (r_ldD (y := WiPlan.d p) tb R R R R R R R R R (r_ldD (y := WiState.d s) tb R R R R R R R R R (r_ldD (y := WiSky.d sky) tb R R R R R R R R R (r_movD R R R (r_movD R R R ?_)))))))))
   obtain ⟨rv7, hrv7, h⟩ := bnd h
   refine r_call (r_why_pc hrv7) (.of (by kernel_rfl)) R R R R (r_asgD R R R (r_asgD R R R (eN (sw_ret ?_))))
   obtain rfl := sI h
   exact fin_0 (t := .d (.tup [.v (.int .i64 rv7), .v (.int .i64 0)])) R R R (.cons (.tmp 10) (.cons (.tmp 11) .nil))
  intro c11
  replace h := ifF c11 h
  refine r_notF R R R (r_pickT R R R R (ev_endD (by kernel_rfl) (then_norm (sw_condT R (sw_rg (r_asgD R R R (eN (sw_seq (qG (r_movD R R R ?_))))))))))
  refine r_neq R R R R ?_ ?_
  rotate_left
  ·intro c13; exact absurd c13 (by decide)
  intro _
  refine eN (sw_condT R (qG (r_movD R R R (r_asgD R R R (r_asgD R R R (eN (sw_ret (then_ret ?_))))))))
  obtain rfl := sI h
  exact fin_0 (t := .d (.tup [.v (.int .i64 0), .v (.int .i64 7)])) R R R (.cons (.tmp 10) (.cons (.tmp 11) .nil))
 intro c10
 replace h := ifN c10 h
 refine r_movD R R R (r_skip R R R (r_skip R R R (r_skip R R R (r_skip R R R (r_skip R R R (r_skip R R R (r_skip R R R (r_skip R R R (r_skip R R R (r_skip R R R (r_skip R R R (r_skip R R R (r_skip R R R (r_skip R R R (r_skip R R R (r_skip R R R (r_skip R R R (r_pickF R R R R (ev_endD (by kernel_rfl) (then_norm (sw_condF R (sw_skip (then_norm (sw_seq (qG (r_movD R R R ?_))))))))))))))))))))))))))
 refine r_neq R R R R ?_ ?_
 ·intro c14
  replace h := ifN c14 h
  refine eN (sw_condT R (qG (r_movD R R R (r_asgD R R R (r_asgD R R R (eN (sw_ret (then_ret ?_))))))))
  obtain rfl := sI h
  exact fin_0 (t := .d (.tup [.v (.int .i64 0), .v (.int .i64 rv)])) R R R (.cons (.tmp 10) (.cons (.tmp 11) .nil))
 intro c14
 replace h := ifP c14 h
 refine eN (sw_condF R (sw_skip (then_norm (qG (r_ldD (y := WiPlan.d p) tb R R R R R R R R R (r_ldD (y := WiState.d s) tb R R R R R R R R R (r_ldD (y := WiSky.d sky) tb R R R R R R R R R (r_movD R R R (r_movD R R R ?_)))))))))
 obtain ⟨rv8, hrv8, h⟩ := bnd h
 refine r_call (r_why_pc hrv8) (.of (by kernel_rfl)) R R R R (r_asgD R R R (r_asgD R R R (eN (sw_ret ?_))))
 obtain rfl := sI h
 exact fin_0 (t := .d (.tup [.v (.int .i64 rv8), .v (.int .i64 0)])) R R R (.cons (.tmp 10) (.cons (.tmp 11) .nil))
/-- hangfireref11.Rights -/
def r_Rights (F : Nat) (p : WiPlan) (s : WiState) (sky : WiSky) (minute : Int) : Option ((List Int) × Int) := Option.bind (r_asked F p s sky) fun rv => if rv = 0 then (Option.bind (ixO p.windows s.next) fun e => Option.bind (r_in F minute e.from_ e.until_) fun rv2 => if rv2 = true then (if rv = 0 then (Option.bind (r_rights F p s sky minute []) fun rv3 => some (rv3, 0)) else (some (([] : List Int), rv))) else (some (([] : List Int), 7))) else (if rv = 0 then (Option.bind (r_rights F p s sky minute []) fun rv4 => some (rv4, 0)) else (some (([] : List Int), rv)))
theorem r_Rights_scr {F : Nat} {p : WiPlan} {s : WiState} {sky : WiSky} {minute : Int} {r : ((List Int) × Int)} (h : r_Rights F p s sky minute = some r) : SCR Try.prog 39 (List.map T.d [WiPlan.d p, WiState.d s, WiSky.d sky, .v (.int .i64 minute)]) [] (.tup [.row 0 1 0 (r.1).length, .d (.v (.int .i64 r.2))]) (List.map some [(lvI r.1)]) := by
 rw [r_Rights] at h
 refine SC.of_sw Try.func39 R R R ?_
 simp only [List.map_cons, List.map_nil, argS, Nat.zero_add, Nat.reduceAdd]
 refine qG (r_box R R R R R R R (r_box R R R R R R R (r_box R R R R R R R (r_asgD R R R (r_asgD R R R (eN (qG (r_ldD (y := WiPlan.d p) tb R R R R R R R R R (r_ldD (y := WiState.d s) tb R R R R R R R R R (r_ldD (y := WiSky.d sky) tb R R R R R R R R R ?_))))))))))
 obtain ⟨rv, hrv, h⟩ := bnd h
 refine r_call (r_asked_pc hrv) (.of (by kernel_rfl)) R R R R (r_asgD R R R (eN (sw_seq (sw_seq (sw_dr (by kernel_rfl) (r_movD R R R ?_))))))
 refine r_eql R R R R ?_ ?_
 ·intro c
  replace h := ifP c h
  refine r_movD R R R (r_movD R R R (r_fa tb R R R R R R R (r_ldD (y := .arr 3 ((p.windows).map WiWindow.d)) tb R R R R R R R R R (r_fa tb R R R R R R R (r_ldD (y := .v (.int .i64 s.next)) tb R R R R R R R R R ?_)))))
  obtain ⟨e, ie, h⟩ := bnd h
  refine r_ixE tb R R R R R R (ix0 ie) (ix1m ie) R R (r_faE tb R R R R R R R (r_ldE (y := .v (.int .i64 e.from_)) tb R R (ix2 (g := WiWindow.d) ie) R R R R (r_fa tb R R R R R R R (r_ldD (y := .arr 3 ((p.windows).map WiWindow.d)) tb R R R R R R R R R (r_fa tb R R R R R R R (r_ldD (y := .v (.int .i64 s.next)) tb R R R R R R R R R (r_ixE tb R R R R R R (ix0 ie) (ix1m ie) R R (r_faE tb R R R R R R R ?_))))))))
  refine r_ldE (y := .v (.int .i64 e.until_)) tb R R (ix2 (g := WiWindow.d) ie) R R R R ?_
  obtain ⟨rv2, hrv2, h⟩ := bnd h
  refine r_callB (r_in_pc hrv2) (.of (by kernel_rfl)) R R R R ?_ ?_
  ·intro c2
   replace h := ifP c2 h
   refine r_notT R R R (r_pickT R R R R (ev_endD (by kernel_rfl) (then_norm (sw_condF R (sw_skip (then_norm (sw_seq (qG (r_movD R R R ?_)))))))))
   refine r_neq R R R R ?_ ?_
   ·intro c3
    replace h := ifN c3 h
    refine eN (sw_condT R (qG (r_movD R R R (r_asgD R R R (r_asgD R R R (eN ?_))))))
    refine SW.own (ts' := [(8, .row 3 1 0 (([] : List Int)).length), (9, .d (.v (.int .i64 rv)))]) (L' := [some ⟨4, [.d (WiPlan.d p)]⟩, some ⟨4, [.d (WiState.d s)]⟩, some ⟨2, [.d (WiSky.d sky)]⟩]) 1 R R (.cons .nil (.cons (.same _) .nil)) (.same (.same (.same .nil))) ?_
    simp only [List.cons_append, List.nil_append]
    refine sw_ret (then_ret ?_)
    obtain rfl := sI h
    exact (fin_S (t := .tup [.row 0 1 0 (([] : List Int)).length, .d (.v (.int .i64 rv))]) (L := [some (lvI ([] : List Int))]) (κ := [3]) R (.cons (.tmp 8) (.cons (.tmp 9) .nil)) (vwK R R (.row R .nil) (.cons R R .nil)) ⟨R, R⟩)
   intro c3
   replace h := ifP c3 h
   refine eN (sw_condF R (sw_skip (then_norm (qG (r_ldD (y := WiPlan.d p) tb R R R R R R R R R (r_ldD (y := WiState.d s) tb R R R R R R R R R (r_ldD (y := WiSky.d sky) tb R R R R R R R R R (r_movD R R R ?_))))))))
   obtain ⟨rv3, hrv3, h⟩ := bnd h
   refine r_callLN (t' := .row 3 1 0 (rv3).length) (news' := [(lvI rv3)]) (r_rights_scr hrv3) R ((.row (fun _ => rfl) .nil)) (.of (by kernel_rfl)) R R ((.cons (.d _) (.cons (.d _) (.cons (.d _) (.cons (.d _) (.cons .nilA .nil)))))) R ((.row .nil)) R R R ?_
   refine r_asgW R R R (r_asgD R R R (eN (sw_ret ?_)))
   obtain rfl := sI h
   exact (fin_S (t := .tup [.row 0 1 0 (rv3).length, .d (.v (.int .i64 0))]) (L := [some (lvI rv3)]) (κ := [3]) R (.cons (.tmp 8) (.cons (.tmp 9) .nil)) (vwK R R (.row R .nil) (.cons R R .nil)) ⟨R, R⟩)
  intro c2
  replace h := ifF c2 h
  refine r_notF R R R (r_pickT R R R R (ev_endD (by kernel_rfl) (then_norm (sw_condT R (sw_rg (r_asgD R R R (eN (sw_seq (qG (r_movD R R R ?_))))))))))
  refine r_neq R R R R ?_ ?_
  rotate_left
  ·intro c4; exact absurd c4 (by decide)
  intro _
  refine eN (sw_condT R (qG (r_movD R R R (r_asgD R R R (r_asgD R R R (eN ?_))))))
  refine SW.own (ts' := [(8, .row 3 1 0 (([] : List Int)).length), (9, .d (.v (.int .i64 7)))]) (L' := [some ⟨4, [.d (WiPlan.d p)]⟩, some ⟨4, [.d (WiState.d s)]⟩, some ⟨2, [.d (WiSky.d sky)]⟩]) 1 R R (.cons .nil (.cons (.same _) .nil)) (.same (.same (.same .nil))) ?_
  simp only [List.cons_append, List.nil_append]
  refine sw_ret (then_ret ?_)
  obtain rfl := sI h
  exact (fin_S (t := .tup [.row 0 1 0 (([] : List Int)).length, .d (.v (.int .i64 7))]) (L := [some (lvI ([] : List Int))]) (κ := [3]) R (.cons (.tmp 8) (.cons (.tmp 9) .nil)) (vwK R R (.row R .nil) (.cons R R .nil)) ⟨R, R⟩)
 intro c
 replace h := ifN c h
 refine r_movD R R R (r_skip R R R (r_skip R R R (r_skip R R R (r_skip R R R (r_skip R R R (r_skip R R R (r_skip R R R (r_skip R R R (r_skip R R R (r_skip R R R (r_skip R R R (r_skip R R R (r_skip R R R (r_skip R R R (r_skip R R R (r_skip R R R (r_skip R R R (r_pickF R R R R (ev_endD (by kernel_rfl) (then_norm (sw_condF R (sw_skip (then_norm (sw_seq (qG (r_movD R R R ?_))))))))))))))))))))))))))
 refine r_neq R R R R ?_ ?_
 ·intro c5
  replace h := ifN c5 h
  refine eN (sw_condT R (qG (r_movD R R R (r_asgD R R R (r_asgD R R R (eN ?_))))))
  refine SW.own (ts' := [(8, .row 3 1 0 (([] : List Int)).length), (9, .d (.v (.int .i64 rv)))]) (L' := [some ⟨4, [.d (WiPlan.d p)]⟩, some ⟨4, [.d (WiState.d s)]⟩, some ⟨2, [.d (WiSky.d sky)]⟩]) 1 R R (.cons .nil (.cons (.same _) .nil)) (.same (.same (.same .nil))) ?_
  simp only [List.cons_append, List.nil_append]
  refine sw_ret (then_ret ?_)
  obtain rfl := sI h
  exact (fin_S (t := .tup [.row 0 1 0 (([] : List Int)).length, .d (.v (.int .i64 rv))]) (L := [some (lvI ([] : List Int))]) (κ := [3]) R (.cons (.tmp 8) (.cons (.tmp 9) .nil)) (vwK R R (.row R .nil) (.cons R R .nil)) ⟨R, R⟩)
 intro c5
 replace h := ifP c5 h
 refine eN (sw_condF R (sw_skip (then_norm (qG (r_ldD (y := WiPlan.d p) tb R R R R R R R R R (r_ldD (y := WiState.d s) tb R R R R R R R R R (r_ldD (y := WiSky.d sky) tb R R R R R R R R R (r_movD R R R ?_))))))))
 obtain ⟨rv4, hrv4, h⟩ := bnd h
 refine r_callLN (t' := .row 3 1 0 (rv4).length) (news' := [(lvI rv4)]) (r_rights_scr hrv4) R ((.row (fun _ => rfl) .nil)) (.of (by kernel_rfl)) R R ((.cons (.d _) (.cons (.d _) (.cons (.d _) (.cons (.d _) (.cons .nilA .nil)))))) R ((.row .nil)) R R R ?_
 refine r_asgW R R R (r_asgD R R R (eN (sw_ret ?_)))
 obtain rfl := sI h
 exact (fin_S (t := .tup [.row 0 1 0 (rv4).length, .d (.v (.int .i64 0))]) (L := [some (lvI rv4)]) (κ := [3]) R (.cons (.tmp 8) (.cons (.tmp 9) .nil)) (vwK R R (.row R .nil) (.cons R R .nil)) ⟨R, R⟩)
theorem r_Rights_pc {F : Nat} {p : WiPlan} {s : WiState} {sky : WiSky} {minute : Int} {r : ((List Int) × Int)} (h : r_Rights F p s sky minute = some r) : PC Try.prog 39 [WiPlan.d p, WiState.d s, WiSky.d sky, .v (.int .i64 minute)] (.tup [.arr 1 ((r.1).map vI), .v (.int .i64 r.2)]) := (r_Rights_scr h).toPC (.tupL (.cons (.row rfl rfl) (.cons (.d _) .nil)))
/-- hangfirelaw11.listed -/
def l_listed_L1 (F : Nat) (lv : (List Int)) (nv : Int) (K : Int → Option Int) : Nat → Int → Option Int
 | 0, _ => none
 | n + 1, i => if i < (lv.length : Int) then (Option.bind (ixO lv i) fun e => if e = nv then (some i) else (l_listed_L1 F lv nv K n (W (i + 1)))) else (K i)
def l_listed (F : Nat) (lv : (List Int)) (nv : Int) : Option Int := l_listed_L1 F lv nv (fun (i : Int) => some (-1)) F 0
theorem l_listed_pc {F : Nat} {lv : (List Int)} {nv : Int} {r : Int} (h : l_listed F lv nv = some r) : PC Try.prog 31 [.arr 1 ((lv).map vI), .v (.int .i64 nv)] (.v (.int .i64 r)) := by
 rw [l_listed] at h
 refine SC.of_sw Try.func31 R R R ?_
 simp only [List.map_cons, List.map_nil, argS, Nat.zero_add, Nat.reduceAdd]
 refine qG (r_asgD R R R (eN (sw_seq (qG (r_asgD R R R (eN (sw_block ?_)))))))
 obtain ⟨K2, hK2, h⟩ : ∃ K, K = _ ∧ l_listed_L1 F lv nv K F 0 = some r := ⟨_, rfl, h⟩
 refine sw_loop (st0 := ⟨[(0, .d (.arr 1 ((lv).map vI))), (1, .d (.v (.int .i64 nv))), (4, .d (.v (.int .i64 0))), (5, .d (.v (.int .i64 0)))], []⟩) (κ := []) (fun m st => ∃ (i : Int), l_listed_L1 F lv nv K2 m i = some r ∧ st = ⟨[(0, .d (.arr 1 ((lv).map vI))), (1, .d (.v (.int .i64 nv))), (4, .d (.v (.int .i64 0))), (5, .d (.v (.int .i64 i)))], []⟩) (vwK R R .nil (.cons R R (.cons R R (.cons R R (.cons R R .nil))))) ⟨0, h, R⟩ ?_
 clear h
 rintro m2 st ⟨i, h, rfl⟩
 cases m2 with
 | zero => cases (show (none : Option Int) = some r from h)
 | succ m2 =>
 rw [l_listed_L1] at h
 refine sw_seq (qG (r_movD R R R (r_movD R R R (r_lenM tb R R R R R ?_))))
 refine r_lss R R R R ?_ ?_
 ·intro c
  replace h := ifP c h
  refine eN (sw_condT R (sw_skip (then_norm (sw_seq (sw_block (qG (r_movD R R R (r_movD R R R ?_))))))))
  obtain ⟨e, ie, h⟩ := bnd h
  refine r_ixE tb R R R R R R (ix0 ie) (ix1m ie) R R (r_ldE (y := .v (.int .i64 e)) tb R R (ix2 (g := vI) ie) R R R R (r_movD R R R ?_))
  refine r_eql R R R R ?_ ?_
  ·intro c2
   replace h := ifP c2 h
   refine eN (sw_condT R (qG (r_movD R R R (r_asgD R R R (eN (sw_ret (block_ret (then_ret (then_ret (block_ret (then_ret ?_)))))))))))
   obtain rfl := sI h
   exact fin_0 (t := .d (.v (.int .i64 i))) R R R (.cons (.tmp 4) .nil)
  intro c2
  replace h := ifN c2 h
  refine eN (sw_condF R (sw_skip (block_norm (then_norm (sw_rg (r_movD R R R (r_add R R R R (r_asgD R R R (eN ?_)))))))))
  exact ⟨m2, ⟨[(0, .d (.arr 1 ((lv).map vI))), (1, .d (.v (.int .i64 nv))), (4, .d (.v (.int .i64 0))), (5, .d (.v (.int .i64 (W (i + 1)))))], []⟩, [], Nat.lt_succ_self _, (vwK R R .nil (.cons R R (.cons R R (.cons R R (.cons R R .nil))))), (W (i + 1)), h, R⟩
 intro c
 replace h := ifN (Int.not_lt.2 c) h
 refine eN (sw_condF R (sw_exit (then_exit (then_exit ?_))))
 subst hK2
 refine block_exit (then_norm (qG (r_asgD R R R (eN (sw_ret ?_)))))
 obtain rfl := sI h
 exact fin_0 (t := .d (.v (.int .i64 (-1)))) R R R (.cons (.tmp 4) .nil)
/-- hangfirelaw11.Plan -/
def l_Plan (F : Nat)  : Option WiPlan := some (WiPlan.mk [(WiTeam.mk (ByteArray.mk #[110, 111, 114, 116, 104]) 5 2 10 [1] 100 2 30 []), (WiTeam.mk (ByteArray.mk #[115, 111, 117, 116, 104]) 5 3 12 [] 200 0 60 []), (WiTeam.mk (ByteArray.mk #[103, 117, 101, 115, 116]) 1 1 0 [] 300 0 20 [(Span.mk 4 5)])] [(WiWindow.mk 1 100 400), (WiWindow.mk 2 100 200), (WiWindow.mk 4 0 60)] 5 3)
theorem l_Plan_pc {F : Nat}  {r : WiPlan} (h : l_Plan F  = some r) : PC Try.prog 40 [] (WiPlan.d r) := by
 rw [l_Plan] at h
 refine PC.of_lend ?_
 refine SC.of_sw Try.func40 R R R ?_
 simp only [List.map_cons, List.map_nil, argS, Nat.zero_add, Nat.reduceAdd]
 refine qG (r_alloc tb R R R R R (eN (qG (r_bslice tb R R R R R R R R R R R R R (r_build (v := .agg [.d (.v (.string (ByteArray.mk #[110, 111, 114, 116, 104]))), .d (.v (.int .i64 5)), .d (.v (.int .i64 2)), .d (.v (.int .i64 10)), .row 1 1 0 ([1]).length, .d (.v (.int .i64 100)), .d (.v (.int .i64 2)), .d (.v (.int .i64 30)), .d (.v (.slice none 0 0))]) tb R R (List.cons_ne_nil _ _) R R R R R R ?_)))))
 refine r_build (v := .d (.agg [.v (.string (ByteArray.mk #[115, 111, 117, 116, 104])), .v (.int .i64 5), .v (.int .i64 3), .v (.int .i64 12), .v (.slice none 0 0), .v (.int .i64 200), .v (.int .i64 0), .v (.int .i64 60), .v (.slice none 0 0)])) tb R R (List.cons_ne_nil _ _) R R R R R R (r_build (v := .d (.agg [.v (.int .i64 4), .v (.int .i64 5)])) tb R R (List.cons_ne_nil _ _) R R R R R R (r_bslice tb R R R R R R R R R R R R R ?_))
 refine r_build (v := .agg [.d (.v (.string (ByteArray.mk #[103, 117, 101, 115, 116]))), .d (.v (.int .i64 1)), .d (.v (.int .i64 1)), .d (.v (.int .i64 0)), .d (.v (.slice none 0 0)), .d (.v (.int .i64 300)), .d (.v (.int .i64 0)), .d (.v (.int .i64 20)), .row 2 2 0 ([(Span.mk 4 5)]).length]) tb R R (List.cons_ne_nil _ _) R R R R R R (r_bslice tb R R R R R R R R R R R R R (r_build (v := .d (.agg [.v (.int .i64 1), .v (.int .i64 100), .v (.int .i64 400)])) tb R R (List.cons_ne_nil _ _) R R R R R R ?_))
 refine r_build (v := .d (.agg [.v (.int .i64 2), .v (.int .i64 100), .v (.int .i64 200)])) tb R R (List.cons_ne_nil _ _) R R R R R R (r_build (v := .d (.agg [.v (.int .i64 4), .v (.int .i64 0), .v (.int .i64 60)])) tb R R (List.cons_ne_nil _ _) R R R R R R (r_bslice tb R R R R R R R R R R R R R ?_))
 refine r_build (v := .agg [.row 3 9 0 3, .row 4 3 0 ([(WiWindow.mk 1 100 400), (WiWindow.mk 2 100 200), (WiWindow.mk 4 0 60)]).length, .d (.v (.int .i64 5)), .d (.v (.int .i64 3))]) tb R R (List.cons_ne_nil _ _) R R R R R R ?_
 refine r_stE _ ([some ⟨4, [.agg [.row 3 9 0 3, .row 4 3 0 ([(WiWindow.mk 1 100 400), (WiWindow.mk 2 100 200), (WiWindow.mk 4 0 60)]).length, .d (.v (.int .i64 5)), .d (.v (.int .i64 3))]]⟩, some (lvI [1]), some (lSpand [(Span.mk 4 5)]), some ⟨9, [.agg [.d (.v (.string (ByteArray.mk #[110, 111, 114, 116, 104]))), .d (.v (.int .i64 5)), .d (.v (.int .i64 2)), .d (.v (.int .i64 10)), .row 1 1 0 ([1]).length, .d (.v (.int .i64 100)), .d (.v (.int .i64 2)), .d (.v (.int .i64 30)), .d (.v (.slice none 0 0))], .d (.agg [.v (.string (ByteArray.mk #[115, 111, 117, 116, 104])), .v (.int .i64 5), .v (.int .i64 3), .v (.int .i64 12), .v (.slice none 0 0), .v (.int .i64 200), .v (.int .i64 0), .v (.int .i64 60), .v (.slice none 0 0)]), .agg [.d (.v (.string (ByteArray.mk #[103, 117, 101, 115, 116]))), .d (.v (.int .i64 1)), .d (.v (.int .i64 1)), .d (.v (.int .i64 0)), .d (.v (.slice none 0 0)), .d (.v (.int .i64 300)), .d (.v (.int .i64 0)), .d (.v (.int .i64 20)), .row 2 2 0 ([(Span.mk 4 5)]).length]]⟩, some (lWiWindowd [(WiWindow.mk 1 100 400), (WiWindow.mk 2 100 200), (WiWindow.mk 4 0 60)])]) tb R R R R R R R R R R R R ?_
 refine eN (sw_ret ?_)
 obtain rfl := sI h
 exact (fin_S (t := .agg [.row 0 9 0 3, .row 3 3 0 ([(WiWindow.mk 1 100 400), (WiWindow.mk 2 100 200), (WiWindow.mk 4 0 60)]).length, .d (.v (.int .i64 5)), .d (.v (.int .i64 3))]) (L := [some ⟨9, [.agg [.d (.v (.string (ByteArray.mk #[110, 111, 114, 116, 104]))), .d (.v (.int .i64 5)), .d (.v (.int .i64 2)), .d (.v (.int .i64 10)), .row 1 1 0 ([1]).length, .d (.v (.int .i64 100)), .d (.v (.int .i64 2)), .d (.v (.int .i64 30)), .d (.v (.slice none 0 0))], .d (.agg [.v (.string (ByteArray.mk #[115, 111, 117, 116, 104])), .v (.int .i64 5), .v (.int .i64 3), .v (.int .i64 12), .v (.slice none 0 0), .v (.int .i64 200), .v (.int .i64 0), .v (.int .i64 60), .v (.slice none 0 0)]), .agg [.d (.v (.string (ByteArray.mk #[103, 117, 101, 115, 116]))), .d (.v (.int .i64 1)), .d (.v (.int .i64 1)), .d (.v (.int .i64 0)), .d (.v (.slice none 0 0)), .d (.v (.int .i64 300)), .d (.v (.int .i64 0)), .d (.v (.int .i64 20)), .row 2 2 0 ([(Span.mk 4 5)]).length]]⟩, some (lvI [1]), some (lSpand [(Span.mk 4 5)]), some (lWiWindowd [(WiWindow.mk 1 100 400), (WiWindow.mk 2 100 200), (WiWindow.mk 4 0 60)])]) (κ := [3, 1, 2, 4]) R (.cons (rcell tb (u := .agg [.row 3 9 0 3, .row 4 3 0 ([(WiWindow.mk 1 100 400), (WiWindow.mk 2 100 200), (WiWindow.mk 4 0 60)]).length, .d (.v (.int .i64 5)), .d (.v (.int .i64 3))]) R R R R R R R) .nil) (vwK R R (.cons R R (.row R (.row R (.row R .nil)))) (.cons R R .nil)) ⟨_, R, (.aggL (.cons (.rowL R R (.cons (.aggL (.cons (.d _) (.cons (.d _) (.cons (.d _) (.cons (.d _) (.cons (.row R R) (.cons (.d _) (.cons (.d _) (.cons (.d _) (.cons .nilA .nil)))))))))) (.cons (.aggDL (.cons (.d _) (.cons (.d _) (.cons (.d _) (.cons (.d _) (.cons .nilA (.cons (.d _) (.cons (.d _) (.cons (.d _) (.cons .nilA .nil)))))))))) (.cons (.aggL (.cons (.d _) (.cons (.d _) (.cons (.d _) (.cons (.d _) (.cons .nilA (.cons (.d _) (.cons (.d _) (.cons (.d _) (.cons (.row R R) .nil)))))))))) .nil)))) (.cons (.row R R) (.cons (.d _) (.cons (.d _) .nil)))))⟩)
/-- hangfirelaw11.A -/
def l_A (F : Nat)  : Option WiSky := some (WiSky.mk [1] 80)
theorem l_A_scr {F : Nat}  {r : WiSky} (h : l_A F  = some r) : SCR Try.prog 41 (List.map T.d []) [] (.agg [.row 0 1 0 (r.kinds).length, .d (.v (.int .i64 r.wind))]) (List.map some [(lvI r.kinds)]) := by
 rw [l_A] at h
 refine SC.of_sw Try.func41 R R R ?_
 simp only [List.map_cons, List.map_nil, argS, Nat.zero_add, Nat.reduceAdd]
 refine qG (r_alloc tb R R R R R (eN (qG (r_bslice tb R R R R R R R R R R R R R (r_build (v := .agg [.row 1 1 0 ([1]).length, .d (.v (.int .i64 80))]) tb R R (List.cons_ne_nil _ _) R R R R R R (r_stE _ ([some ⟨2, [.agg [.row 1 1 0 ([1]).length, .d (.v (.int .i64 80))]]⟩, some (lvI [1])]) tb R R R R R R R R R R R R (eN (sw_ret ?_))))))))
 obtain rfl := sI h
 exact (fin_S (t := .agg [.row 0 1 0 ([1]).length, .d (.v (.int .i64 80))]) (L := [some (lvI [1])]) (κ := [1]) R (.cons (rcell tb (u := .agg [.row 1 1 0 ([1]).length, .d (.v (.int .i64 80))]) R R R R R R R) .nil) (vwK R R (.row R .nil) (.cons R R .nil)) ⟨R, R⟩)
theorem l_A_pc {F : Nat}  {r : WiSky} (h : l_A F  = some r) : PC Try.prog 41 [] (WiSky.d r) := (l_A_scr h).toPC (.aggL (.cons (.row rfl rfl) (.cons (.d _) .nil)))
/-- hangfirelaw11.launch -/
def l_launch (F : Nat) (atv : Int) : Option WiTurn := some (WiTurn.mk 1 atv 0)
theorem l_launch_pc {F : Nat} {atv : Int} {r : WiTurn} (h : l_launch F atv = some r) : PC Try.prog 26 [.v (.int .i64 atv)] (WiTurn.d r) := by
 rw [l_launch] at h
 refine SC.of_sw Try.func26 R R R ?_
 simp only [List.map_cons, List.map_nil, argS, Nat.zero_add, Nat.reduceAdd]
 refine qG (r_alloc tb R R R R R (eN (qG (r_movD R R R (r_build (v := .d (.agg [.v (.int .i64 1), .v (.int .i64 atv), .v (.int .i64 0)])) tb R R (List.cons_ne_nil _ _) R R R R R R (r_stE _ ([some ⟨3, [.d (.agg [.v (.int .i64 1), .v (.int .i64 atv), .v (.int .i64 0)])]⟩]) tb R R R R R R R R R R R R (eN (sw_ret ?_))))))))
 obtain rfl := sI h
 exact fin_0 (t := .d (.agg [.v (.int .i64 1), .v (.int .i64 atv), .v (.int .i64 0)])) R R R (.cons (rcell tb (u := .d (.agg [.v (.int .i64 1), .v (.int .i64 atv), .v (.int .i64 0)])) R R R R R R R) .nil)
/-- hangfirelaw11.night!0 -/
def l_night_m (F : Nat) (lv : (List WiTurn)) : Option (WiNight × (List WiTurn)) := Option.bind (l_A F ) fun rv => some ((WiNight.mk rv.kinds rv.wind lv), lv)
theorem l_night_m_scr {F : Nat} {lv : (List WiTurn)} {r : (WiNight × (List WiTurn))} (h : l_night_m F lv = some r) : SCR Try.prog 43 [.row 0 3 0 (lv).length] [some (lWiTurnd lv)] (.agg [.row 1 1 0 (r.1.sky_Kinds).length, .d (.v (.int .i64 r.1.sky_Wind)), .row 0 3 0 (r.2).length]) [some (lWiTurnd r.2), some (lvI r.1.sky_Kinds)] := by
 rw [l_night_m] at h
 refine SC.of_sw Try.func43 R R R ?_
 simp only [List.map_cons, List.map_nil, argS, Nat.zero_add, Nat.reduceAdd]
 refine qG (r_alloc tb R R R R R (eN (qG ?_)))
 obtain ⟨rv, hrv, h⟩ := bnd h
 refine r_callN (t' := .agg [.row 2 1 0 (rv.kinds).length, .d (.v (.int .i64 rv.wind))]) (news' := [(lvI rv.kinds)]) (l_A_scr hrv) (.of (by kernel_rfl)) R R R ((.row .nil)) R R R (r_movW R R R (r_build (v := .agg [.row 2 1 0 (rv.kinds).length, .d (.v (.int .i64 rv.wind)), .row 0 3 0 (lv).length]) tb R R (List.cons_ne_nil _ _) R R R R R R (r_stE _ ([some (lWiTurnd lv), some ⟨3, [.agg [.row 2 1 0 (rv.kinds).length, .d (.v (.int .i64 rv.wind)), .row 0 3 0 (lv).length]]⟩, some (lvI rv.kinds)]) tb R R R R R R R R R R R R ?_)))
 refine eN (sw_ret ?_)
 obtain rfl := sI h
 exact (fin_S (t := .agg [.row 1 1 0 (rv.kinds).length, .d (.v (.int .i64 rv.wind)), .row 0 3 0 (lv).length]) (L := [some (lWiTurnd lv), some (lvI rv.kinds)]) (κ := [0, 2]) R (.cons (rcell tb (u := .agg [.row 2 1 0 (rv.kinds).length, .d (.v (.int .i64 rv.wind)), .row 0 3 0 (lv).length]) R R R R R R R) .nil) (vwK R R (.row R (.row R .nil)) (.cons R R .nil)) ⟨R, R⟩)
/-- hangfirelaw11.Awake -/
def l_Awake (F : Nat)  : Option Bool := Option.bind (l_Plan F ) fun rv => Option.bind (window_Start F rv) fun rv2 => Option.bind (l_Plan F ) fun rv3 => Option.bind (l_A F ) fun rv4 => Option.bind (window_Rights F rv3 rv2.1 (WiSky.mk rv4.kinds rv4.wind) 100) fun rv5 => Option.bind (l_Plan F ) fun rv6 => Option.bind (l_launch F 160) fun rv7 => Option.bind (l_night_m F [rv7]) fun rv8 => Option.bind (l_launch F 130) fun rv9 => Option.bind (l_night_m F [rv9]) fun rv10 => Option.bind (l_launch F 60) fun rv11 => Option.bind (l_night_m F [rv11]) fun rv12 => Option.bind (window_Season F rv6 [(WiNight.mk rv8.1.sky_Kinds rv8.1.sky_Wind rv8.2), (WiNight.mk rv10.1.sky_Kinds rv10.1.sky_Wind rv10.2), (WiNight.mk rv12.1.sky_Kinds rv12.1.sky_Wind rv12.2)]) fun rv13 => Option.bind (l_Plan F ) fun rv14 => Option.bind (l_launch F 159) fun rv15 => Option.bind (l_night_m F [rv15]) fun rv16 => Option.bind (window_Play F rv14 rv2.1 (WiNight.mk rv16.1.sky_Kinds rv16.1.sky_Wind rv16.2)) fun rv17 => if rv2.2 = 0 then (if rv5.2 = 0 then (if rv13.2.2 = 0 then (if rv17.2.2 = 7 then (Option.bind (r_Ints F rv5.1 [1, 0, 2]) fun rv18 => if rv18 = true then (Option.bind (r_SameUses F rv13.1 [(WiUse.mk 0 1 160 (-1)), (WiUse.mk 1 0 130 (-1)), (WiUse.mk 2 1 60 (-1))]) fun rv19 => some rv19) else (some false)) else (some false)) else (some false)) else (some false)) else (some false)
theorem l_Awake_pc {F : Nat}  {r : Bool} (h : l_Awake F  = some r) : PC Try.prog 23 [] (.v (.bool r)) := by
 rw [l_Awake] at h
 refine SC.of_sw Try.func23 R R R ?_
 simp only [List.map_cons, List.map_nil, argS, Nat.zero_add, Nat.reduceAdd]
 refine qG (r_asgD R R R (eN (qG ?_)))
 obtain ⟨rv, hrv, h⟩ := bnd h
 refine r_call (l_Plan_pc hrv) (.of (by kernel_rfl)) R R R R ?_
 obtain ⟨rv2, hrv2, h⟩ := bnd h
 refine r_callN (t' := .tup [WiState_T1 rv2.1 0 1 2, .d (.v (.int .i64 rv2.2))]) (news' := [(lvI rv2.1.used), (lvI rv2.1.credit), (lvI rv2.1.last)]) (window_Start_scr hrv2) (.of (by kernel_rfl)) R R R ((.row (.row (.row .nil)))) R R R (r_movT (.tup [WiState_T1 rv2.1 0 1 2, .d (.v (.int .i64 rv2.2))]) R R R (r_ext (t := WiState_T1 rv2.1 0 1 2) R R R R (r_ext (t := .d (.v (.int .i64 rv2.2))) R R R R (r_alloc tb R R R R R ?_))))
 refine r_stE _ ([some (lvI rv2.1.used), some (lvI rv2.1.credit), some (lvI rv2.1.last), some ⟨4, [WiState_T1 rv2.1 0 1 2]⟩]) tb R R R R R R R R R R R R (r_asgD R R R (eN (sw_seq (sw_dr (by kernel_rfl) ?_))))
 obtain ⟨rv3, hrv3, h⟩ := bnd h
 refine r_call (l_Plan_pc hrv3) (.of (by kernel_rfl)) R R R R (r_ldG tb R R R R R R R R R ?_)
 obtain ⟨rv4, hrv4, h⟩ := bnd h
 refine r_callN (t' := .agg [.row 4 1 0 (rv4.kinds).length, .d (.v (.int .i64 rv4.wind))]) (news' := [(lvI rv4.kinds)]) (l_A_scr hrv4) (.of (by kernel_rfl)) R R R ((.row .nil)) R R R ?_
 obtain ⟨rv5, hrv5, h⟩ := bnd h
 refine r_callLN (t' := .tup [.row 5 1 0 (rv5.1).length, .d (.v (.int .i64 rv5.2))]) (news' := [(lvI rv5.1)]) (window_Rights_scr hrv5) R ((.row (fun _ => rfl) .nil)) (.of (by kernel_rfl)) R R ((.cons (.d _) (.cons (.aggL (.cons (.row R R) (.cons (.row R R) (.cons (.row R R) (.cons (.d _) .nil))))) (.cons (.aggL (.cons (.row R R) (.cons (.d _) .nil))) (.cons (.d _) .nil))))) R ((.row .nil)) R R R ?_
 refine r_movT (.tup [.row 5 1 0 (rv5.1).length, .d (.v (.int .i64 rv5.2))]) R R R (r_ext (t := .row 5 1 0 (rv5.1).length) R R R R (r_ext (t := .d (.v (.int .i64 rv5.2))) R R R R (r_asgW R R R (r_asgD R R R (ev_endD (by kernel_rfl) (then_norm (qG ?_)))))))
 obtain ⟨rv6, hrv6, h⟩ := bnd h
 refine r_call (l_Plan_pc hrv6) (.of (by kernel_rfl)) R R R R ?_
 obtain ⟨rv7, hrv7, h⟩ := bnd h
 refine r_call (l_launch_pc hrv7) (.of (by kernel_rfl)) R R R R (r_bslice tb R R R R R R R R R R R R R ?_)
 obtain ⟨rv8, hrv8, h⟩ := bnd h
 refine r_callO (t' := .agg [.row 7 1 0 (rv8.1.sky_Kinds).length, .d (.v (.int .i64 rv8.1.sky_Wind)), .row 6 3 0 (rv8.2).length]) (ls := [some (lWiTurnd rv8.2)]) (news := [(lvI rv8.1.sky_Kinds)]) ([6]) ([some (lvI rv2.1.used), some (lvI rv2.1.credit), some (lvI rv2.1.last), some ⟨4, [WiState_T1 rv2.1 0 1 2]⟩, some (lvI rv4.kinds), some (lvI rv5.1), some (lWiTurnd rv8.2), some (lvI rv8.1.sky_Kinds)]) (l_night_m_scr hrv8) (.of (by kernel_rfl)) R (.inl ⟨R, R, R⟩) R R R R ((.row R .nil)) R R R ((.row .nil)) ((.row .nil)) R R R R ?_
 obtain ⟨rv9, hrv9, h⟩ := bnd h
 refine r_call (l_launch_pc hrv9) (.of (by kernel_rfl)) R R R R (r_bslice tb R R R R R R R R R R R R R ?_)
 obtain ⟨rv10, hrv10, h⟩ := bnd h
 refine r_callO (t' := .agg [.row 9 1 0 (rv10.1.sky_Kinds).length, .d (.v (.int .i64 rv10.1.sky_Wind)), .row 8 3 0 (rv10.2).length]) (ls := [some (lWiTurnd rv10.2)]) (news := [(lvI rv10.1.sky_Kinds)]) ([8]) ([some (lvI rv2.1.used), some (lvI rv2.1.credit), some (lvI rv2.1.last), some ⟨4, [WiState_T1 rv2.1 0 1 2]⟩, some (lvI rv4.kinds), some (lvI rv5.1), some (lWiTurnd rv8.2), some (lvI rv8.1.sky_Kinds), some (lWiTurnd rv10.2), some (lvI rv10.1.sky_Kinds)]) (l_night_m_scr hrv10) (.of (by kernel_rfl)) R (.inl ⟨R, R, R⟩) R R R R ((.row R .nil)) R R R ((.row .nil)) ((.row .nil)) R R R R ?_
 obtain ⟨rv11, hrv11, h⟩ := bnd h
 refine r_call (l_launch_pc hrv11) (.of (by kernel_rfl)) R R R R (r_bslice tb R R R R R R R R R R R R R ?_)
 obtain ⟨rv12, hrv12, h⟩ := bnd h
 refine r_callO (t' := .agg [.row 11 1 0 (rv12.1.sky_Kinds).length, .d (.v (.int .i64 rv12.1.sky_Wind)), .row 10 3 0 (rv12.2).length]) (ls := [some (lWiTurnd rv12.2)]) (news := [(lvI rv12.1.sky_Kinds)]) ([10]) ([some (lvI rv2.1.used), some (lvI rv2.1.credit), some (lvI rv2.1.last), some ⟨4, [WiState_T1 rv2.1 0 1 2]⟩, some (lvI rv4.kinds), some (lvI rv5.1), some (lWiTurnd rv8.2), some (lvI rv8.1.sky_Kinds), some (lWiTurnd rv10.2), some (lvI rv10.1.sky_Kinds), some (lWiTurnd rv12.2), some (lvI rv12.1.sky_Kinds)]) (l_night_m_scr hrv12) (.of (by kernel_rfl)) R (.inl ⟨R, R, R⟩) R R R R ((.row R .nil)) R R R ((.row .nil)) ((.row .nil)) R R R R ?_
 refine r_bslice tb R R R R R R R R R R R R R ?_
 obtain ⟨rv13, hrv13, h⟩ := bnd h
 refine r_callLN (t' := .tup [.row 13 4 0 (rv13.1).length, WiState_T1 rv13.2.1 14 15 16, .d (.v (.int .i64 rv13.2.2))]) (news' := [(lWiUsed rv13.1), (lvI rv13.2.1.used), (lvI rv13.2.1.credit), (lvI rv13.2.1.last)]) (window_Season_scr hrv13) R ((.row (fun _ => rfl) (.row (fun _ => rfl) (.row (fun _ => rfl) (.row (fun _ => rfl) .nil))))) (.of (by kernel_rfl)) R R ((.cons (.d _) (.cons (.rowL R R (.cons (.aggL (.cons (.row R R) (.cons (.d _) (.cons (.row R R) .nil)))) (.cons (.aggL (.cons (.row R R) (.cons (.d _) (.cons (.row R R) .nil)))) (.cons (.aggL (.cons (.row R R) (.cons (.d _) (.cons (.row R R) .nil)))) .nil)))) .nil))) R ((.row (.row (.row (.row .nil))))) R R R ?_
 refine r_movT (.tup [.row 13 4 0 (rv13.1).length, WiState_T1 rv13.2.1 14 15 16, .d (.v (.int .i64 rv13.2.2))]) R R R (r_ext (t := .row 13 4 0 (rv13.1).length) R R R R (r_ext (t := WiState_T1 rv13.2.1 14 15 16) R R R R (r_ext (t := .d (.v (.int .i64 rv13.2.2))) R R R R (r_alloc tb R R R R R (r_asgW R R R ?_)))))
 refine r_stE _ ([some (lvI rv2.1.used), some (lvI rv2.1.credit), some (lvI rv2.1.last), some ⟨4, [WiState_T1 rv2.1 0 1 2]⟩, some (lvI rv4.kinds), some (lvI rv5.1), some (lWiTurnd rv8.2), some (lvI rv8.1.sky_Kinds), some (lWiTurnd rv10.2), some (lvI rv10.1.sky_Kinds), some (lWiTurnd rv12.2), some (lvI rv12.1.sky_Kinds), some ⟨3, [.agg [.row 7 1 0 (rv8.1.sky_Kinds).length, .d (.v (.int .i64 rv8.1.sky_Wind)), .row 6 3 0 (rv8.2).length], .agg [.row 9 1 0 (rv10.1.sky_Kinds).length, .d (.v (.int .i64 rv10.1.sky_Wind)), .row 8 3 0 (rv10.2).length], .agg [.row 11 1 0 (rv12.1.sky_Kinds).length, .d (.v (.int .i64 rv12.1.sky_Wind)), .row 10 3 0 (rv12.2).length]]⟩, some (lWiUsed rv13.1), some (lvI rv13.2.1.used), some (lvI rv13.2.1.credit), some (lvI rv13.2.1.last), some ⟨4, [WiState_T1 rv13.2.1 14 15 16]⟩]) tb R R R R R R R R R R R R ?_
 refine r_asgD R R R (eN (sw_seq (sw_dr (by kernel_rfl) ?_)))
 obtain ⟨rv14, hrv14, h⟩ := bnd h
 refine r_call (l_Plan_pc hrv14) (.of (by kernel_rfl)) R R R R (r_ldG tb R R R R R R R R R ?_)
 obtain ⟨rv15, hrv15, h⟩ := bnd h
 refine r_call (l_launch_pc hrv15) (.of (by kernel_rfl)) R R R R (r_bslice tb R R R R R R R R R R R R R ?_)
 obtain ⟨rv16, hrv16, h⟩ := bnd h
 refine r_callO (t' := .agg [.row 19 1 0 (rv16.1.sky_Kinds).length, .d (.v (.int .i64 rv16.1.sky_Wind)), .row 18 3 0 (rv16.2).length]) (ls := [some (lWiTurnd rv16.2)]) (news := [(lvI rv16.1.sky_Kinds)]) ([18]) ([some (lvI rv2.1.used), some (lvI rv2.1.credit), some (lvI rv2.1.last), some ⟨4, [WiState_T1 rv2.1 0 1 2]⟩, some (lvI rv4.kinds), some (lvI rv5.1), some (lWiTurnd rv8.2), some (lvI rv8.1.sky_Kinds), some (lWiTurnd rv10.2), some (lvI rv10.1.sky_Kinds), some (lWiTurnd rv12.2), some (lvI rv12.1.sky_Kinds), some ⟨3, [.agg [.row 7 1 0 (rv8.1.sky_Kinds).length, .d (.v (.int .i64 rv8.1.sky_Wind)), .row 6 3 0 (rv8.2).length], .agg [.row 9 1 0 (rv10.1.sky_Kinds).length, .d (.v (.int .i64 rv10.1.sky_Wind)), .row 8 3 0 (rv10.2).length], .agg [.row 11 1 0 (rv12.1.sky_Kinds).length, .d (.v (.int .i64 rv12.1.sky_Wind)), .row 10 3 0 (rv12.2).length]]⟩, some (lWiUsed rv13.1), some (lvI rv13.2.1.used), some (lvI rv13.2.1.credit), some (lvI rv13.2.1.last), some ⟨4, [WiState_T1 rv13.2.1 14 15 16]⟩, some (lWiTurnd rv16.2), some (lvI rv16.1.sky_Kinds)]) (l_night_m_scr hrv16) (.of (by kernel_rfl)) R (.inl ⟨R, R, R⟩) R R R R ((.row R .nil)) R R R ((.row .nil)) ((.row .nil)) R R R R ?_
 obtain ⟨rv17, hrv17, h⟩ := bnd h
 refine r_callLN (t' := .tup [WiState_T1 rv17.1 20 21 22, .d (WiUse.d rv17.2.1), .d (.v (.int .i64 rv17.2.2))]) (news' := [(lvI rv17.1.used), (lvI rv17.1.credit), (lvI rv17.1.last)]) (window_Play_scr hrv17) R ((.row (fun _ => rfl) (.row (fun _ => rfl) (.row (fun _ => rfl) .nil)))) (.of (by kernel_rfl)) R R ((.cons (.d _) (.cons (.aggL (.cons (.row R R) (.cons (.row R R) (.cons (.row R R) (.cons (.d _) .nil))))) (.cons (.aggL (.cons (.row R R) (.cons (.d _) (.cons (.row R R) .nil)))) .nil)))) R ((.row (.row (.row .nil)))) R R R ?_
 refine r_movT (.tup [WiState_T1 rv17.1 20 21 22, .d (WiUse.d rv17.2.1), .d (.v (.int .i64 rv17.2.2))]) R R R (r_ext (t := WiState_T1 rv17.1 20 21 22) R R R R (r_ext (t := .d (WiUse.d rv17.2.1)) R R R R (r_ext (t := .d (.v (.int .i64 rv17.2.2))) R R R R (r_alloc tb R R R R R (r_alloc tb R R R R R ?_)))))
 refine r_stE _ ([some (lvI rv2.1.used), some (lvI rv2.1.credit), some (lvI rv2.1.last), some ⟨4, [WiState_T1 rv2.1 0 1 2]⟩, some (lvI rv4.kinds), some (lvI rv5.1), some (lWiTurnd rv8.2), some (lvI rv8.1.sky_Kinds), some (lWiTurnd rv10.2), some (lvI rv10.1.sky_Kinds), some (lWiTurnd rv12.2), some (lvI rv12.1.sky_Kinds), some ⟨3, [.agg [.row 7 1 0 (rv8.1.sky_Kinds).length, .d (.v (.int .i64 rv8.1.sky_Wind)), .row 6 3 0 (rv8.2).length], .agg [.row 9 1 0 (rv10.1.sky_Kinds).length, .d (.v (.int .i64 rv10.1.sky_Wind)), .row 8 3 0 (rv10.2).length], .agg [.row 11 1 0 (rv12.1.sky_Kinds).length, .d (.v (.int .i64 rv12.1.sky_Wind)), .row 10 3 0 (rv12.2).length]]⟩, some (lWiUsed rv13.1), some (lvI rv13.2.1.used), some (lvI rv13.2.1.credit), some (lvI rv13.2.1.last), some ⟨4, [WiState_T1 rv13.2.1 14 15 16]⟩, some (lWiTurnd rv16.2), some (lvI rv16.1.sky_Kinds), some (lvI rv17.1.used), some (lvI rv17.1.credit), some (lvI rv17.1.last), some ⟨4, [WiState_T1 rv17.1 20 21 22]⟩, some ⟨4, [.d (.agg [.v (.int .i64 0), .v (.int .i64 0), .v (.int .i64 0), .v (.int .i64 0)])]⟩]) tb R R R R R R R R R R R R ?_
 refine r_stE _ ([some (lvI rv2.1.used), some (lvI rv2.1.credit), some (lvI rv2.1.last), some ⟨4, [WiState_T1 rv2.1 0 1 2]⟩, some (lvI rv4.kinds), some (lvI rv5.1), some (lWiTurnd rv8.2), some (lvI rv8.1.sky_Kinds), some (lWiTurnd rv10.2), some (lvI rv10.1.sky_Kinds), some (lWiTurnd rv12.2), some (lvI rv12.1.sky_Kinds), some ⟨3, [.agg [.row 7 1 0 (rv8.1.sky_Kinds).length, .d (.v (.int .i64 rv8.1.sky_Wind)), .row 6 3 0 (rv8.2).length], .agg [.row 9 1 0 (rv10.1.sky_Kinds).length, .d (.v (.int .i64 rv10.1.sky_Wind)), .row 8 3 0 (rv10.2).length], .agg [.row 11 1 0 (rv12.1.sky_Kinds).length, .d (.v (.int .i64 rv12.1.sky_Wind)), .row 10 3 0 (rv12.2).length]]⟩, some (lWiUsed rv13.1), some (lvI rv13.2.1.used), some (lvI rv13.2.1.credit), some (lvI rv13.2.1.last), some ⟨4, [WiState_T1 rv13.2.1 14 15 16]⟩, some (lWiTurnd rv16.2), some (lvI rv16.1.sky_Kinds), some (lvI rv17.1.used), some (lvI rv17.1.credit), some (lvI rv17.1.last), some ⟨4, [WiState_T1 rv17.1 20 21 22]⟩, some ⟨4, [.d (WiUse.d rv17.2.1)]⟩]) tb R R R R R R R R R R R R ?_
 refine r_asgD R R R (ev_endD (by kernel_rfl) (then_norm (qG (r_movD R R R ?_))))
 refine r_eql R R R R ?_ ?_
 ·intro c
  replace h := ifP c h
  refine r_movD R R R (r_movD R R R ?_)
  refine r_eql R R R R ?_ ?_
  ·intro c2
   replace h := ifP c2 h
   refine r_pickT R R R R (r_movD R R R (r_movD R R R ?_))
   refine r_eql R R R R ?_ ?_
   ·intro c3
    replace h := ifP c3 h
    refine r_pickT R R R R (r_movD R R R (r_movD R R R ?_))
    refine r_eql R R R R ?_ ?_
    ·intro c4
     replace h := ifP c4 h
     refine r_pickT R R R R (r_movD R R R (r_movW R R R (r_bslice tb R R R R R R R R R R R R R ?_)))
     obtain ⟨rv18, hrv18, h⟩ := bnd h
     refine r_callLB (r_Ints_pc hrv18) (.of (by kernel_rfl)) R R ((.cons (.row R R) (.cons (.row R R) .nil))) R R ?_ ?_
     ·intro c5
      replace h := ifP c5 h
      refine r_pickT R R R R (r_movD R R R (r_movW R R R (r_build (v := .d (.agg [.v (.int .i64 0), .v (.int .i64 1), .v (.int .i64 160), .v (.int .i64 (-1))])) tb R R (List.cons_ne_nil _ _) R R R R R R (r_build (v := .d (.agg [.v (.int .i64 1), .v (.int .i64 0), .v (.int .i64 130), .v (.int .i64 (-1))])) tb R R (List.cons_ne_nil _ _) R R R R R R (r_build (v := .d (.agg [.v (.int .i64 2), .v (.int .i64 1), .v (.int .i64 60), .v (.int .i64 (-1))])) tb R R (List.cons_ne_nil _ _) R R R R R R ?_)))))
      refine r_bslice tb R R R R R R R R R R R R R ?_
      obtain ⟨rv19, hrv19, h⟩ := bnd h
      refine r_callL (r_SameUses_pc hrv19) R (.of (by kernel_rfl)) R R ((.cons (.row R R) (.cons (.row R R) .nil))) R R (r_pickT R R R R (r_asgD R R R (eN (sw_ret ?_))))
      obtain rfl := sI h
      exact fin_0 (t := .d (.v (.bool rv19))) R R R (.cons (.tmp 0) .nil)
     intro c5
     replace h := ifF c5 h
     refine r_pickT R R R R (r_movD R R R (r_skip R R R (r_skip R R R (r_skip R R R (r_skip R R R (r_skip R R R (r_skip R R R (r_pickF R R R R (r_asgD R R R (eN (sw_ret ?_)))))))))))
     obtain rfl := sI h
     exact fin_0 (t := .d (.v (.bool false))) R R R (.cons (.tmp 0) .nil)
    intro c4
    replace h := ifN c4 h
    refine r_pickT R R R R (r_movD R R R (r_skip R R R (r_skip R R R (r_skip R R R (r_pickF R R R R (r_movD R R R (r_skip R R R (r_skip R R R (r_skip R R R (r_skip R R R (r_skip R R R (r_skip R R R (r_pickF R R R R (r_asgD R R R (eN (sw_ret ?_))))))))))))))))
    obtain rfl := sI h
    exact fin_0 (t := .d (.v (.bool false))) R R R (.cons (.tmp 0) .nil)
   intro c3
   replace h := ifN c3 h
   refine r_pickT R R R R (r_movD R R R (r_skip R R R (r_skip R R R (r_pickF R R R R (r_movD R R R (r_skip R R R (r_skip R R R (r_skip R R R (r_pickF R R R R (r_movD R R R (r_skip R R R (r_skip R R R (r_skip R R R (r_skip R R R (r_skip R R R (r_skip R R R (r_pickF R R R R (r_asgD R R R (eN (sw_ret ?_))))))))))))))))))))
   obtain rfl := sI h
   exact fin_0 (t := .d (.v (.bool false))) R R R (.cons (.tmp 0) .nil)
  intro c2
  replace h := ifN c2 h
  refine r_pickT R R R R (r_movD R R R (r_skip R R R (r_skip R R R (r_pickF R R R R (r_movD R R R (r_skip R R R (r_skip R R R (r_pickF R R R R (r_movD R R R (r_skip R R R (r_skip R R R (r_skip R R R (r_pickF R R R R (r_movD R R R (r_skip R R R (r_skip R R R (r_skip R R R (r_skip R R R (r_skip R R R (r_skip R R R (r_pickF R R R R (r_asgD R R R (eN (sw_ret ?_))))))))))))))))))))))))
  obtain rfl := sI h
  exact fin_0 (t := .d (.v (.bool false))) R R R (.cons (.tmp 0) .nil)
 intro c
 replace h := ifN c h
 refine r_movD R R R (r_skip R R R (r_skip R R R (r_pickF R R R R (r_movD R R R (r_skip R R R (r_skip R R R (r_pickF R R R R (r_movD R R R (r_skip R R R (r_skip R R R (r_pickF R R R R (r_movD R R R (r_skip R R R (r_skip R R R (r_skip R R R (r_pickF R R R R (r_movD R R R (r_skip R R R (r_skip R R R (r_skip R R R (r_skip R R R (r_skip R R R (r_skip R R R (r_pickF R R R R (r_asgD R R R (eN ?_))))))))))))))))))))))))))
 refine sw_ret ?_
 obtain rfl := sI h
 exact fin_0 (t := .d (.v (.bool false))) R R R (.cons (.tmp 0) .nil)
end Go.Proofs.Ytdefnmcjmklohaa
