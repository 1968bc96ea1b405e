/- What functions of the program compute: plain functions, and the proofs. -/
import Derived.Test.YtdefnmcjmklohaaW2
open Go Go.Proofs.Ytdefnmcjmklohaa.Sh Go.Proofs
namespace Go.Proofs.Ytdefnmcjmklohaa
set_option linter.unusedVariables false
set_option linter.unusedSimpArgs false
set_option maxRecDepth 100000
set_option maxHeartbeats 4000000
def l_WindowAudits (F : Nat) (t : WiPlan) (o : (List WiNight)) (a : Arr3Int) : Option Bool := Option.bind (window_Season F t o) fun rv => if rv.2.2 = 0 then (Option.bind (window_Audit F t o rv.1) fun rv3 => if rv3.2 = 0 then (if rv3.1 = (-1) then (Option.bind (appO ([] : List WiUse) rv.1) fun q => if 0 < (q.length : Int) then (if (q.length : Int) = 0 then none else (if (q.length : Int) = 0 then (Option.bind (appO q [(WiUse.mk (W (1 + (W a.c2))) 0 0 0)]) fun q2 => Option.bind (window_Audit F t o q2) fun rv4 => if rv4.2 = 0 then (if 0 ≤ rv4.1 then (if rv4.1 ≤ (max (W ((q2.length : Int) - 1)) (rv.1.length : Int)) then (if (Int.tmod a.c0 6) < 2 then (Option.bind (l_Awake 100 ) fun rv5 => some rv5) else (if (rv.1.length : Int) = 0 then (Option.bind (l_Awake 100 ) fun rv6 => some rv6) else (if rv4.1 = (W ((q2.length : Int) - 1)) then (Option.bind (l_Awake 100 ) fun rv7 => some rv7) else (some false)))) else (some false)) else (some false)) else (some false)) else (if (Int.tmod a.c0 6) = 0 then (Option.bind (appO q [(WiUse.mk (W (1 + (W a.c2))) 0 0 0)]) fun q3 => Option.bind (window_Audit F t o q3) fun rv8 => if rv8.2 = 0 then (if 0 ≤ rv8.1 then (if rv8.1 ≤ (max (W ((q3.length : Int) - 1)) (rv.1.length : Int)) then (if (Int.tmod a.c0 6) < 2 then (Option.bind (l_Awake 100 ) fun rv9 => some rv9) else (if (rv.1.length : Int) = 0 then (Option.bind (l_Awake 100 ) fun rv10 => some rv10) else (if rv8.1 = (W ((q3.length : Int) - 1)) then (Option.bind (l_Awake 100 ) fun rv11 => some rv11) else (some false)))) else (some false)) else (some false)) else (some false)) else (if (Int.tmod a.c0 6) = 1 then (Option.bind (natO (Int.tmod (W a.c1) (q.length : Int)) q.length) fun p => Option.bind (natO (W ((Int.tmod (W a.c1) (q.length : Int)) + 1)) q.length) fun p2 => if q.length = p2 then (Option.bind (appO (q.take p) ([] : List WiUse)) fun q4 => Option.bind (window_Audit F t o q4) fun rv12 => if rv12.2 = 0 then (if 0 ≤ rv12.1 then (if rv12.1 ≤ (max (Int.tmod (W a.c1) (q.length : Int)) (rv.1.length : Int)) then (if (Int.tmod a.c0 6) < 2 then (Option.bind (l_Awake 100 ) fun rv13 => some rv13) else (if (rv.1.length : Int) = 0 then (Option.bind (l_Awake 100 ) fun rv14 => some rv14) else (if rv12.1 = (Int.tmod (W a.c1) (q.length : Int)) then (Option.bind (l_Awake 100 ) fun rv15 => some rv15) else (some false)))) else (some false)) else (some false)) else (some false)) else (Option.bind (appO (q.take p) (q.drop p2)) fun q5 => Option.bind (window_Audit F t o q5) fun rv16 => if rv16.2 = 0 then (if 0 ≤ rv16.1 then (if rv16.1 ≤ (max (Int.tmod (W a.c1) (q.length : Int)) (rv.1.length : Int)) then (if (Int.tmod a.c0 6) < 2 then (Option.bind (l_Awake 100 ) fun rv17 => some rv17) else (if (rv.1.length : Int) = 0 then (Option.bind (l_Awake 100 ) fun rv18 => some rv18) else (if rv16.1 = (Int.tmod (W a.c1) (q.length : Int)) then (Option.bind (l_Awake 100 ) fun rv19 => some rv19) else (some false)))) else (some false)) else (some false)) else (some false))) else (if (Int.tmod a.c0 6) = 2 then (Option.bind (ixO q (Int.tmod (W a.c1) (q.length : Int))) fun e => Option.bind (setO q (Int.tmod (W a.c1) (q.length : Int)) {e with window := (W (e.window + (W (1 + (W a.c2)))))}) fun q6 => Option.bind (window_Audit F t o q6) fun rv20 => if rv20.2 = 0 then (if 0 ≤ rv20.1 then (if rv20.1 ≤ (max (Int.tmod (W a.c1) (q6.length : Int)) (rv.1.length : Int)) then (if (Int.tmod a.c0 6) < 2 then (Option.bind (l_Awake 100 ) fun rv21 => some rv21) else (if (rv.1.length : Int) = 0 then (Option.bind (l_Awake 100 ) fun rv22 => some rv22) else (if rv20.1 = (Int.tmod (W a.c1) (q6.length : Int)) then (Option.bind (l_Awake 100 ) fun rv23 => some rv23) else (some false)))) else (some false)) else (some false)) else (some false)) else (if (Int.tmod a.c0 6) = 3 then (Option.bind (ixO q (Int.tmod (W a.c1) (q.length : Int))) fun e2 => Option.bind (setO q (Int.tmod (W a.c1) (q.length : Int)) {e2 with team := (W (e2.team + (W (1 + (W a.c2)))))}) fun q7 => Option.bind (window_Audit F t o q7) fun rv24 => if rv24.2 = 0 then (if 0 ≤ rv24.1 then (if rv24.1 ≤ (max (Int.tmod (W a.c1) (q7.length : Int)) (rv.1.length : Int)) then (if (Int.tmod a.c0 6) < 2 then (Option.bind (l_Awake 100 ) fun rv25 => some rv25) else (if (rv.1.length : Int) = 0 then (Option.bind (l_Awake 100 ) fun rv26 => some rv26) else (if rv24.1 = (Int.tmod (W a.c1) (q7.length : Int)) then (Option.bind (l_Awake 100 ) fun rv27 => some rv27) else (some false)))) else (some false)) else (some false)) else (some false)) else (if (Int.tmod a.c0 6) = 4 then (Option.bind (ixO q (Int.tmod (W a.c1) (q.length : Int))) fun e3 => Option.bind (setO q (Int.tmod (W a.c1) (q.length : Int)) {e3 with at_ := (W (e3.at_ - (W (1 + (W a.c2)))))}) fun q8 => Option.bind (window_Audit F t o q8) fun rv28 => if rv28.2 = 0 then (if 0 ≤ rv28.1 then (if rv28.1 ≤ (max (Int.tmod (W a.c1) (q8.length : Int)) (rv.1.length : Int)) then (if (Int.tmod a.c0 6) < 2 then (Option.bind (l_Awake 100 ) fun rv29 => some rv29) else (if (rv.1.length : Int) = 0 then (Option.bind (l_Awake 100 ) fun rv30 => some rv30) else (if rv28.1 = (Int.tmod (W a.c1) (q8.length : Int)) then (Option.bind (l_Awake 100 ) fun rv31 => some rv31) else (some false)))) else (some false)) else (some false)) else (some false)) else (Option.bind (ixO q (Int.tmod (W a.c1) (q.length : Int))) fun e4 => Option.bind (setO q (Int.tmod (W a.c1) (q.length : Int)) {e4 with by_ := (W (e4.by_ + (W (1 + (W a.c2)))))}) fun q9 => Option.bind (window_Audit F t o q9) fun rv32 => if rv32.2 = 0 then (if 0 ≤ rv32.1 then (if rv32.1 ≤ (max (Int.tmod (W a.c1) (q9.length : Int)) (rv.1.length : Int)) then (if (Int.tmod a.c0 6) < 2 then (Option.bind (l_Awake 100 ) fun rv33 => some rv33) else (if (rv.1.length : Int) = 0 then (Option.bind (l_Awake 100 ) fun rv34 => some rv34) else (if rv32.1 = (Int.tmod (W a.c1) (q9.length : Int)) then (Option.bind (l_Awake 100 ) fun rv35 => some rv35) else (some false)))) else (some false)) else (some false)) else (some false))))))))) else (if (q.length : Int) = 0 then (Option.bind (appO q [(WiUse.mk (W (1 + (W a.c2))) 0 0 0)]) fun q10 => Option.bind (window_Audit F t o q10) fun rv36 => if rv36.2 = 0 then (if 0 ≤ rv36.1 then (if rv36.1 ≤ (max (W ((q10.length : Int) - 1)) (rv.1.length : Int)) then (if (Int.tmod a.c0 6) < 2 then (Option.bind (l_Awake 100 ) fun rv37 => some rv37) else (if (rv.1.length : Int) = 0 then (Option.bind (l_Awake 100 ) fun rv38 => some rv38) else (if rv36.1 = (W ((q10.length : Int) - 1)) then (Option.bind (l_Awake 100 ) fun rv39 => some rv39) else (some false)))) else (some false)) else (some false)) else (some false)) else (if (Int.tmod a.c0 6) = 0 then (Option.bind (appO q [(WiUse.mk (W (1 + (W a.c2))) 0 0 0)]) fun q11 => Option.bind (window_Audit F t o q11) fun rv40 => if rv40.2 = 0 then (if 0 ≤ rv40.1 then (if rv40.1 ≤ (max (W ((q11.length : Int) - 1)) (rv.1.length : Int)) then (if (Int.tmod a.c0 6) < 2 then (Option.bind (l_Awake 100 ) fun rv41 => some rv41) else (if (rv.1.length : Int) = 0 then (Option.bind (l_Awake 100 ) fun rv42 => some rv42) else (if rv40.1 = (W ((q11.length : Int) - 1)) then (Option.bind (l_Awake 100 ) fun rv43 => some rv43) else (some false)))) else (some false)) else (some false)) else (some false)) else (if (Int.tmod a.c0 6) = 1 then (Option.bind (natO 0 q.length) fun p3 => Option.bind (natO (W (0 + 1)) q.length) fun p4 => if q.length = p4 then (Option.bind (appO (q.take p3) ([] : List WiUse)) fun q12 => Option.bind (window_Audit F t o q12) fun rv44 => if rv44.2 = 0 then (if 0 ≤ rv44.1 then (if rv44.1 ≤ (max 0 (rv.1.length : Int)) then (if (Int.tmod a.c0 6) < 2 then (Option.bind (l_Awake 100 ) fun rv45 => some rv45) else (if (rv.1.length : Int) = 0 then (Option.bind (l_Awake 100 ) fun rv46 => some rv46) else (if rv44.1 = 0 then (Option.bind (l_Awake 100 ) fun rv47 => some rv47) else (some false)))) else (some false)) else (some false)) else (some false)) else (Option.bind (appO (q.take p3) (q.drop p4)) fun q13 => Option.bind (window_Audit F t o q13) fun rv48 => if rv48.2 = 0 then (if 0 ≤ rv48.1 then (if rv48.1 ≤ (max 0 (rv.1.length : Int)) then (if (Int.tmod a.c0 6) < 2 then (Option.bind (l_Awake 100 ) fun rv49 => some rv49) else (if (rv.1.length : Int) = 0 then (Option.bind (l_Awake 100 ) fun rv50 => some rv50) else (if rv48.1 = 0 then (Option.bind (l_Awake 100 ) fun rv51 => some rv51) else (some false)))) else (some false)) else (some false)) else (some false))) else (if (Int.tmod a.c0 6) = 2 then (Option.bind (ixO q 0) fun e5 => Option.bind (setO q 0 {e5 with window := (W (e5.window + (W (1 + (W a.c2)))))}) fun q14 => Option.bind (window_Audit F t o q14) fun rv52 => if rv52.2 = 0 then (if 0 ≤ rv52.1 then (if rv52.1 ≤ (max 0 (rv.1.length : Int)) then (if (Int.tmod a.c0 6) < 2 then (Option.bind (l_Awake 100 ) fun rv53 => some rv53) else (if (rv.1.length : Int) = 0 then (Option.bind (l_Awake 100 ) fun rv54 => some rv54) else (if rv52.1 = 0 then (Option.bind (l_Awake 100 ) fun rv55 => some rv55) else (some false)))) else (some false)) else (some false)) else (some false)) else (if (Int.tmod a.c0 6) = 3 then (Option.bind (ixO q 0) fun e6 => Option.bind (setO q 0 {e6 with team := (W (e6.team + (W (1 + (W a.c2)))))}) fun q15 => Option.bind (window_Audit F t o q15) fun rv56 => if rv56.2 = 0 then (if 0 ≤ rv56.1 then (if rv56.1 ≤ (max 0 (rv.1.length : Int)) then (if (Int.tmod a.c0 6) < 2 then (Option.bind (l_Awake 100 ) fun rv57 => some rv57) else (if (rv.1.length : Int) = 0 then (Option.bind (l_Awake 100 ) fun rv58 => some rv58) else (if rv56.1 = 0 then (Option.bind (l_Awake 100 ) fun rv59 => some rv59) else (some false)))) else (some false)) else (some false)) else (some false)) else (if (Int.tmod a.c0 6) = 4 then (Option.bind (ixO q 0) fun e7 => Option.bind (setO q 0 {e7 with at_ := (W (e7.at_ - (W (1 + (W a.c2)))))}) fun q16 => Option.bind (window_Audit F t o q16) fun rv60 => if rv60.2 = 0 then (if 0 ≤ rv60.1 then (if rv60.1 ≤ (max 0 (rv.1.length : Int)) then (if (Int.tmod a.c0 6) < 2 then (Option.bind (l_Awake 100 ) fun rv61 => some rv61) else (if (rv.1.length : Int) = 0 then (Option.bind (l_Awake 100 ) fun rv62 => some rv62) else (if rv60.1 = 0 then (Option.bind (l_Awake 100 ) fun rv63 => some rv63) else (some false)))) else (some false)) else (some false)) else (some false)) else (Option.bind (ixO q 0) fun e8 => Option.bind (setO q 0 {e8 with by_ := (W (e8.by_ + (W (1 + (W a.c2)))))}) fun q17 => Option.bind (window_Audit F t o q17) fun rv64 => if rv64.2 = 0 then (if 0 ≤ rv64.1 then (if rv64.1 ≤ (max 0 (rv.1.length : Int)) then (if (Int.tmod a.c0 6) < 2 then (Option.bind (l_Awake 100 ) fun rv65 => some rv65) else (if (rv.1.length : Int) = 0 then (Option.bind (l_Awake 100 ) fun rv66 => some rv66) else (if rv64.1 = 0 then (Option.bind (l_Awake 100 ) fun rv67 => some rv67) else (some false)))) else (some false)) else (some false)) else (some false))))))))) else (some false)) else (some false)) else (Option.bind (l_Awake 100 ) fun rv2 => some rv2)
theorem l_WindowAudits_pc {F : Nat} {t : WiPlan} {o : (List WiNight)} {a : Arr3Int} {r : Bool} (h : l_WindowAudits F t o a = some r) : PC Try.prog 12 [WiPlan.d t, .arr 3 ((o).map WiNight.d), Arr3Int.d a] (.v (.bool r)) := by
 rw [l_WindowAudits] at h
 refine SC.of_sw Try.func12 R R R ?_
 dsimp only [argS, List.map]
 refine qG (r_box R R R R R R R (r_box R R R R R R R (r_asgD R R R (eN (qG (r_ldD (y := WiPlan.d t) tb R R R R R R R R R (r_movD R R R ?_)))))))
 obtain ⟨rv, hrv, h⟩ := bnd h
 refine r_callN (t' := .tup [.row 2 4 0 (rv.1).length, WiState_T1 rv.2.1 3 4 5, .d (.v (.int .i64 rv.2.2))]) (news' := [(lWiUsed rv.1), (lvI rv.2.1.used), (lvI rv.2.1.credit), (lvI rv.2.1.last)]) (window_Season_scr hrv) (.of (by kernel_rfl)) R R R ((.row (.row (.row (.row .nil))))) R R R (r_movT (.tup [.row 2 4 0 (rv.1).length, WiState_T1 rv.2.1 3 4 5, .d (.v (.int .i64 rv.2.2))]) R R R (r_ext (t := .row 2 4 0 (rv.1).length) R R R R (r_ext (t := WiState_T1 rv.2.1 3 4 5) R R R R (r_ext (t := .d (.v (.int .i64 rv.2.2))) R R R R ?_))))
 refine r_alloc tb R R R R R (r_asgW R R R (r_stE _ ([some ⟨4, [.d (WiPlan.d t)]⟩, some ⟨3, [.d (Arr3Int.d a)]⟩, some (lWiUsed rv.1), some (lvI rv.2.1.used), some (lvI rv.2.1.credit), some (lvI rv.2.1.last), some ⟨4, [WiState_T1 rv.2.1 3 4 5]⟩]) tb R R R R R R R R R R R R (r_asgD R R R (eN (sw_seq (qG (r_movD R R R ?_)))))))
 refine r_neq R R R R ?_ ?_
 ·intro c
  replace h := ifN c h
  refine eN (sw_condT R (qG ?_))
  obtain ⟨rv2, hrv2, h⟩ := bnd h
  refine r_call (l_Awake_pc hrv2) (.of (by kernel_rfl)) R R R R (r_asgD R R R (eN (sw_ret (then_ret ?_))))
  obtain rfl := sI h
  exact fin_0 (t := .d (.v (.bool rv2))) R R R (.cons (.tmp 6) .nil)
 intro c
 replace h := ifP c h
 refine eN (sw_condF R (sw_skip (then_norm (qG (r_ldD (y := WiPlan.d t) tb R R R R R R R R R (r_movD R R R (r_movW R R R ?_)))))))
 obtain ⟨rv3, hrv3, h⟩ := bnd h
 refine r_callL (window_Audit_pc hrv3) R (.of (by kernel_rfl)) R R ((.cons (.d _) (.cons (.d _) (.cons (.row R R) .nil)))) R R (r_movD R R R (r_extD (t := .v (.int .i64 rv3.1)) R R R R (r_extD (t := .v (.int .i64 rv3.2)) R R R R (r_asgD R R R (r_asgD R R R (eN (sw_seq (qG (r_movD R R R ?_)))))))))
 refine r_neq R R R R ?_ ?_
 ·intro c2
  replace h := ifN c2 h
  refine r_movD R R R (r_skip R R R (r_skip R R R (r_pickT R R R R (eN (sw_condT R (qG (r_asgD R R R (eN (sw_ret (then_ret ?_))))))))))
  obtain rfl := sI h
  exact fin_0 (t := .d (.v (.bool false))) R R R (.cons (.tmp 6) .nil)
 intro c2
 replace h := ifP c2 h
 refine r_movD R R R (r_movD R R R ?_)
 refine r_neq R R R R ?_ ?_
 ·intro c3
  replace h := ifN c3 h
  refine r_pickF R R R R (eN (sw_condT R (qG (r_asgD R R R (eN (sw_ret (then_ret ?_)))))))
  obtain rfl := sI h
  exact fin_0 (t := .d (.v (.bool false))) R R R (.cons (.tmp 6) .nil)
 intro c3
 replace h := ifP c3 h
 refine r_pickF R R R R (eN (sw_condF R (sw_skip (then_norm (qG (r_bslice tb R R R R R R R R R R R R R (r_movW R R R ?_)))))))
 obtain ⟨q, iq, h⟩ := bnd h
 refine r_apM (g := WiUse.d) (w := ([] : List WiUse)) (v := rv.1) ([some ⟨4, [.d (WiPlan.d t)]⟩, some ⟨3, [.d (Arr3Int.d a)]⟩, some (lWiUsed rv.1), some (lvI rv.2.1.used), some (lvI rv.2.1.credit), some (lvI rv.2.1.last), some ⟨4, [WiState_T1 rv.2.1 3 4 5]⟩, none]) tb R R R R R R R R R R (ones_map (fun _ => rfl)) iq R R R R R ?_
 refine r_asgW R R R (eN (qG (r_asgD R R R (eN (sw_seq (qG (r_movW R R R (r_lenR tb R R R R R ?_))))))))
 refine r_gtr R R R R ?_ ?_
 ·intro c4
  replace h := ifP c4 h
  refine eN (sw_condT R (sw_rg (r_ixA tb R R R R R (by decide) (by decide) R R (r_ldD (y := .v (.int .u8 a.c1)) tb R R R R R R R R R (r_cvI (k2 := .i64) R R R R R R (r_movW R R R (r_lenR tb R R R R R ?_)))))))
  by_cases c5 : (q.length : Int) = 0
  ·cases (if_pos c5).symm.trans h
  replace h := ifN c5 h
  refine r_rem R R c5 R R (r_asgD R R R (eN (qG (r_ixA tb R R R R R (by decide) (by decide) R R (r_ldD (y := .v (.int .u8 a.c2)) tb R R R R R R R R R (r_cvI (k2 := .i64) R R R R R R (r_add R R R R (r_asgD R R R (eN (sw_seq (sw_block (qG (r_movW R R R (r_lenR tb R R R R R ?_))))))))))))))
  refine r_eql R R R R ?_ ?_
  ·intro c6
   replace h := ifP c6 h
   refine r_movD R R R (r_skip R R R (r_skip R R R (r_skip R R R (r_skip R R R (r_pickT R R R R (r_asgD R R R (eN (sw_condT R (qG (r_movW R R R (r_movD R R R (r_build (v := .d (.agg [.v (.int .i64 (W (1 + (W a.c2)))), .v (.int .i64 0), .v (.int .i64 0), .v (.int .i64 0)])) tb R R (List.cons_ne_nil _ _) R R R R R R (r_bslice tb R R R R R R R R R R R R R ?_)))))))))))))
   obtain ⟨q2, iq2, h⟩ := bnd h
   refine r_apM (g := WiUse.d) (w := q) (v := [(WiUse.mk (W (1 + (W a.c2))) 0 0 0)]) ([some ⟨4, [.d (WiPlan.d t)]⟩, some ⟨3, [.d (Arr3Int.d a)]⟩, some (lWiUsed rv.1), some (lvI rv.2.1.used), some (lvI rv.2.1.credit), some (lvI rv.2.1.last), some ⟨4, [WiState_T1 rv.2.1 3 4 5]⟩, none, none, some (lWiUsed [(WiUse.mk (W (1 + (W a.c2))) 0 0 0)])]) tb R R R R R R R R R R R iq2 R R R R R (r_asgW R R R (eN (sw_rg (r_movW R R R (r_lenR tb R R R R R (r_sub R R R R (r_asgD R R R (ev_end (block_norm (then_norm ?_))))))))))
   refine qG (r_ldD (y := WiPlan.d t) tb R R R R R R R R R (r_movD R R R (r_movW R R R ?_)))
   obtain ⟨rv4, hrv4, h⟩ := bnd h
   refine r_callL (window_Audit_pc hrv4) R (.of (by kernel_rfl)) R R ((.cons (.d _) (.cons (.d _) (.cons (.row R R) .nil)))) R R (r_movD R R R (r_extD (t := .v (.int .i64 rv4.1)) R R R R (r_extD (t := .v (.int .i64 rv4.2)) R R R R (r_asgD R R R (r_asgD R R R (eN (qG (r_movD R R R ?_))))))))
   refine r_eql R R R R ?_ ?_
   ·intro c7
    replace h := ifP c7 h
    refine r_movD R R R (r_movD R R R ?_)
    refine r_geq R R R R ?_ ?_
    ·intro c8
     replace h := ifP c8 h
     refine r_pickT R R R R (r_movD R R R (r_movD R R R (r_movD R R R (r_movW R R R (r_lenR tb R R R R R (r_max2 R R R R ?_))))))
     refine r_leq R R R R ?_ ?_
     ·intro c9
      replace h := ifP c9 h
      refine r_pickT R R R R (r_movD R R R (r_ixA tb R R R R R (by decide) (by decide) R R (r_ldD (y := .v (.int .u8 a.c0)) tb R R R R R R R R R (r_rem R R (by decide) R R ?_))))
      refine r_lss R R R R ?_ ?_
      ·intro c10
       replace h := ifP c10 h
       refine r_movD R R R (r_skip R R R (r_skip R R R (r_skip R R R (r_pickT R R R R (r_movD R R R (r_skip R R R (r_skip R R R (r_skip R R R (r_pickT R R R R (r_pickT R R R R (r_movD R R R ?_)))))))))))
       obtain ⟨rv5, hrv5, h⟩ := bnd h
       refine r_call (l_Awake_pc hrv5) (.of (by kernel_rfl)) R R R R (r_pickT R R R R (r_asgD R R R (eN (sw_ret ?_))))
       obtain rfl := sI h
       exact fin_0 (t := .d (.v (.bool rv5))) R R R (.cons (.tmp 6) .nil)
      intro c10
      replace h := ifN (Int.not_lt.2 c10) h
      refine r_movD R R R (r_movW R R R (r_lenR tb R R R R R ?_))
      refine r_eql R R R R ?_ ?_
      ·intro c11
       replace h := ifP c11 h
       refine r_pickF R R R R (r_movD R R R (r_skip R R R (r_skip R R R (r_skip R R R (r_pickT R R R R (r_pickT R R R R (r_movD R R R ?_)))))))
       obtain ⟨rv6, hrv6, h⟩ := bnd h
       refine r_call (l_Awake_pc hrv6) (.of (by kernel_rfl)) R R R R (r_pickT R R R R (r_asgD R R R (eN (sw_ret ?_))))
       obtain rfl := sI h
       exact fin_0 (t := .d (.v (.bool rv6))) R R R (.cons (.tmp 6) .nil)
      intro c11
      replace h := ifN c11 h
      refine r_pickF R R R R (r_movD R R R (r_movD R R R (r_movD R R R ?_)))
      refine r_eql R R R R ?_ ?_
      ·intro c12
       replace h := ifP c12 h
       refine r_pickF R R R R (r_pickT R R R R (r_movD R R R ?_))
       obtain ⟨rv7, hrv7, h⟩ := bnd h
       refine r_call (l_Awake_pc hrv7) (.of (by kernel_rfl)) R R R R (r_pickT R R R R (r_asgD R R R (eN (sw_ret ?_))))
       obtain rfl := sI h
       exact fin_0 (t := .d (.v (.bool rv7))) R R R (.cons (.tmp 6) .nil)
      intro c12
      replace h := ifN c12 h
      refine r_pickF R R R R (r_pickT R R R R (r_movD R R R (r_skip R R R (r_pickF R R R R (r_asgD R R R (eN (sw_ret ?_)))))))
      obtain rfl := sI h
      exact fin_0 (t := .d (.v (.bool false))) R R R (.cons (.tmp 6) .nil)
     intro c9
     replace h := ifN (Int.not_le.2 c9) h
     refine r_pickT R R R R (r_movD R R R (r_skip R R R (r_skip R R R (r_skip R R R (r_skip R R R (r_skip R R R (r_skip R R R (r_skip R R R (r_skip R R R (r_skip R R R (r_skip R R R (r_skip R R R (r_skip R R R (r_skip R R R (r_skip R R R (r_pickF R R R R (r_movD R R R (r_skip R R R (r_pickF R R R R (r_asgD R R R (eN (sw_ret ?_))))))))))))))))))))))
     obtain rfl := sI h
     exact fin_0 (t := .d (.v (.bool false))) R R R (.cons (.tmp 6) .nil)
    intro c8
    replace h := ifN (Int.not_le.2 c8) h
    refine r_pickT R R R R (r_movD R R R (r_skip R R R (r_skip R R R (r_skip R R R (r_skip R R R (r_skip R R R (r_skip R R R (r_pickF R R R R (r_movD R R R (r_skip R R R (r_skip R R R (r_skip R R R (r_skip R R R (r_skip R R R (r_skip R R R (r_skip R R R (r_skip R R R (r_skip R R R (r_skip R R R (r_skip R R R (r_skip R R R (r_skip R R R (r_skip R R R (r_pickF R R R R (r_movD R R R ?_)))))))))))))))))))))))))
    refine r_skip R R R (r_pickF R R R R (r_asgD R R R (eN (sw_ret ?_))))
    obtain rfl := sI h
    exact fin_0 (t := .d (.v (.bool false))) R R R (.cons (.tmp 6) .nil)
   intro c7
   replace h := ifN c7 h
   refine r_movD R R R (r_skip R R R (r_skip R R R (r_pickF R R R R (r_movD R R R (r_skip R R R (r_skip R R R (r_skip R R R (r_skip R R R (r_skip R R R (r_skip R R R (r_pickF R R R R (r_movD R R R (r_skip R R R (r_skip R R R (r_skip R R R (r_skip R R R (r_skip R R R (r_skip R R R (r_skip R R R (r_skip R R R (r_skip R R R (r_skip R R R (r_skip R R R (r_skip R R R (r_skip R R R (r_skip R R R ?_))))))))))))))))))))))))))
   refine r_pickF R R R R (r_movD R R R (r_skip R R R (r_pickF R R R R (r_asgD R R R (eN (sw_ret ?_))))))
   obtain rfl := sI h
   exact fin_0 (t := .d (.v (.bool false))) R R R (.cons (.tmp 6) .nil)
  intro c6
  replace h := ifN c6 h
  refine r_movD R R R (r_ixA tb R R R R R (by decide) (by decide) R R (r_ldD (y := .v (.int .u8 a.c0)) tb R R R R R R R R R (r_rem R R (by decide) R R ?_)))
  refine r_eql R R R R ?_ ?_
  ·intro c13
   replace h := ifP c13 h
   refine r_pickF R R R R (r_asgD R R R (eN (sw_condT R (qG (r_movW R R R (r_movD R R R (r_build (v := .d (.agg [.v (.int .i64 (W (1 + (W a.c2)))), .v (.int .i64 0), .v (.int .i64 0), .v (.int .i64 0)])) tb R R (List.cons_ne_nil _ _) R R R R R R (r_bslice tb R R R R R R R R R R R R R ?_))))))))
   obtain ⟨q3, iq3, h⟩ := bnd h
   refine r_apM (g := WiUse.d) (w := q) (v := [(WiUse.mk (W (1 + (W a.c2))) 0 0 0)]) ([some ⟨4, [.d (WiPlan.d t)]⟩, some ⟨3, [.d (Arr3Int.d a)]⟩, some (lWiUsed rv.1), some (lvI rv.2.1.used), some (lvI rv.2.1.credit), some (lvI rv.2.1.last), some ⟨4, [WiState_T1 rv.2.1 3 4 5]⟩, none, none, some (lWiUsed [(WiUse.mk (W (1 + (W a.c2))) 0 0 0)])]) tb R R R R R R R R R R R iq3 R R R R R (r_asgW R R R (eN (sw_rg (r_movW R R R (r_lenR tb R R R R R (r_sub R R R R (r_asgD R R R (ev_end (block_norm (then_norm ?_))))))))))
   refine qG (r_ldD (y := WiPlan.d t) tb R R R R R R R R R (r_movD R R R (r_movW R R R ?_)))
   obtain ⟨rv8, hrv8, h⟩ := bnd h
   refine r_callL (window_Audit_pc hrv8) R (.of (by kernel_rfl)) R R ((.cons (.d _) (.cons (.d _) (.cons (.row R R) .nil)))) R R (r_movD R R R (r_extD (t := .v (.int .i64 rv8.1)) R R R R (r_extD (t := .v (.int .i64 rv8.2)) R R R R (r_asgD R R R (r_asgD R R R (eN (qG (r_movD R R R ?_))))))))
   refine r_eql R R R R ?_ ?_
   ·intro c14
    replace h := ifP c14 h
    refine r_movD R R R (r_movD R R R ?_)
    refine r_geq R R R R ?_ ?_
    ·intro c15
     replace h := ifP c15 h
     refine r_pickT R R R R (r_movD R R R (r_movD R R R (r_movD R R R (r_movW R R R (r_lenR tb R R R R R (r_max2 R R R R ?_))))))
     refine r_leq R R R R ?_ ?_
     ·intro c16
      replace h := ifP c16 h
      refine r_pickT R R R R (r_movD R R R (r_ixA tb R R R R R (by decide) (by decide) R R (r_ldD (y := .v (.int .u8 a.c0)) tb R R R R R R R R R (r_rem R R (by decide) R R ?_))))
      refine r_lss R R R R ?_ ?_
      ·intro c17
       replace h := ifP c17 h
       refine r_movD R R R (r_skip R R R (r_skip R R R (r_skip R R R (r_pickT R R R R (r_movD R R R (r_skip R R R (r_skip R R R (r_skip R R R (r_pickT R R R R (r_pickT R R R R (r_movD R R R ?_)))))))))))
       obtain ⟨rv9, hrv9, h⟩ := bnd h
       refine r_call (l_Awake_pc hrv9) (.of (by kernel_rfl)) R R R R (r_pickT R R R R (r_asgD R R R (eN (sw_ret ?_))))
       obtain rfl := sI h
       exact fin_0 (t := .d (.v (.bool rv9))) R R R (.cons (.tmp 6) .nil)
      intro c17
      replace h := ifN (Int.not_lt.2 c17) h
      refine r_movD R R R (r_movW R R R (r_lenR tb R R R R R ?_))
      refine r_eql R R R R ?_ ?_
      ·intro c18
       replace h := ifP c18 h
       refine r_pickF R R R R (r_movD R R R (r_skip R R R (r_skip R R R (r_skip R R R (r_pickT R R R R (r_pickT R R R R (r_movD R R R ?_)))))))
       obtain ⟨rv10, hrv10, h⟩ := bnd h
       refine r_call (l_Awake_pc hrv10) (.of (by kernel_rfl)) R R R R (r_pickT R R R R (r_asgD R R R (eN (sw_ret ?_))))
       obtain rfl := sI h
       exact fin_0 (t := .d (.v (.bool rv10))) R R R (.cons (.tmp 6) .nil)
      intro c18
      replace h := ifN c18 h
      refine r_pickF R R R R (r_movD R R R (r_movD R R R (r_movD R R R ?_)))
      refine r_eql R R R R ?_ ?_
      ·intro c19
       replace h := ifP c19 h
       refine r_pickF R R R R (r_pickT R R R R (r_movD R R R ?_))
       obtain ⟨rv11, hrv11, h⟩ := bnd h
       refine r_call (l_Awake_pc hrv11) (.of (by kernel_rfl)) R R R R (r_pickT R R R R (r_asgD R R R (eN (sw_ret ?_))))
       obtain rfl := sI h
       exact fin_0 (t := .d (.v (.bool rv11))) R R R (.cons (.tmp 6) .nil)
      intro c19
      replace h := ifN c19 h
      refine r_pickF R R R R (r_pickT R R R R (r_movD R R R (r_skip R R R (r_pickF R R R R (r_asgD R R R (eN (sw_ret ?_)))))))
      obtain rfl := sI h
      exact fin_0 (t := .d (.v (.bool false))) R R R (.cons (.tmp 6) .nil)
     intro c16
     replace h := ifN (Int.not_le.2 c16) h
     refine r_pickT R R R R (r_movD R R R (r_skip R R R (r_skip R R R (r_skip R R R (r_skip R R R (r_skip R R R (r_skip R R R (r_skip R R R (r_skip R R R (r_skip R R R (r_skip R R R (r_skip R R R (r_skip R R R (r_skip R R R (r_skip R R R (r_pickF R R R R (r_movD R R R (r_skip R R R (r_pickF R R R R (r_asgD R R R (eN (sw_ret ?_))))))))))))))))))))))
     obtain rfl := sI h
     exact fin_0 (t := .d (.v (.bool false))) R R R (.cons (.tmp 6) .nil)
    intro c15
    replace h := ifN (Int.not_le.2 c15) h
    refine r_pickT R R R R (r_movD R R R (r_skip R R R (r_skip R R R (r_skip R R R (r_skip R R R (r_skip R R R (r_skip R R R (r_pickF R R R R (r_movD R R R (r_skip R R R (r_skip R R R (r_skip R R R (r_skip R R R (r_skip R R R (r_skip R R R (r_skip R R R (r_skip R R R (r_skip R R R (r_skip R R R (r_skip R R R (r_skip R R R (r_skip R R R (r_skip R R R (r_pickF R R R R (r_movD R R R ?_)))))))))))))))))))))))))
    refine r_skip R R R (r_pickF R R R R (r_asgD R R R (eN (sw_ret ?_))))
    obtain rfl := sI h
    exact fin_0 (t := .d (.v (.bool false))) R R R (.cons (.tmp 6) .nil)
   intro c14
   replace h := ifN c14 h
   refine r_movD R R R (r_skip R R R (r_skip R R R (r_pickF R R R R (r_movD R R R (r_skip R R R (r_skip R R R (r_skip R R R (r_skip R R R (r_skip R R R (r_skip R R R (r_pickF R R R R (r_movD R R R (r_skip R R R (r_skip R R R (r_skip R R R (r_skip R R R (r_skip R R R (r_skip R R R (r_skip R R R (r_skip R R R (r_skip R R R (r_skip R R R (r_skip R R R (r_skip R R R (r_skip R R R (r_skip R R R ?_))))))))))))))))))))))))))
   refine r_pickF R R R R (r_movD R R R (r_skip R R R (r_pickF R R R R (r_asgD R R R (eN (sw_ret ?_))))))
   obtain rfl := sI h
   exact fin_0 (t := .d (.v (.bool false))) R R R (.cons (.tmp 6) .nil)
  intro c13
  replace h := ifN c13 h
  refine r_pickF R R R R (r_asgD R R R (eN (sw_condF R (qG (r_ixA tb R R R R R (by decide) (by decide) R R (r_ldD (y := .v (.int .u8 a.c0)) tb R R R R R R R R R (r_rem R R (by decide) R R ?_)))))))
  refine r_eql R R R R ?_ ?_
  ·intro c20
   replace h := ifP c20 h
   refine r_asgD R R R (eN (sw_condT R (sw_dr (by kernel_rfl) (r_movW R R R (r_movD R R R ?_)))))
   obtain ⟨p, ip, h⟩ := bnd h
   refine r_slRowHi tb R R R R R R ((natO_eq ip).1) ((natO_eq ip).2) R R ?_
   refine r_movW R R R (r_movD R R R (r_add R R R R ?_))
   obtain ⟨p2, ip2, h⟩ := bnd h
   by_cases c21 : q.length = p2
   ·replace h := ifP c21 h
    refine r_slRowLoE tb R R R R R R ((natO_eq ip2).1) c21 R R ?_
    obtain ⟨q4, iq4, h⟩ := bnd h
    refine r_apTE (g := WiUse.d) (w := q) (v := ([] : List WiUse)) ([some ⟨4, [.d (WiPlan.d t)]⟩, some ⟨3, [.d (Arr3Int.d a)]⟩, some (lWiUsed rv.1), some (lvI rv.2.1.used), some (lvI rv.2.1.credit), some (lvI rv.2.1.last), some ⟨4, [WiState_T1 rv.2.1 3 4 5]⟩, none, none]) tb R R R R R R R ((natO_eq ip).2) (fun _ => rfl) iq4 R R R R R ?_
    refine r_asgW R R R (ev_endD (by kernel_rfl) (block_norm (then_norm (qG (r_ldD (y := WiPlan.d t) tb R R R R R R R R R (r_movD R R R (r_movW R R R ?_)))))))
    obtain ⟨rv12, hrv12, h⟩ := bnd h
    refine r_callL (window_Audit_pc hrv12) R (.of (by kernel_rfl)) R R ((.cons (.d _) (.cons (.d _) (.cons (.row R R) .nil)))) R R (r_movD R R R (r_extD (t := .v (.int .i64 rv12.1)) R R R R (r_extD (t := .v (.int .i64 rv12.2)) R R R R (r_asgD R R R (r_asgD R R R (eN (qG (r_movD R R R ?_))))))))
    refine r_eql R R R R ?_ ?_
    ·intro c22
     replace h := ifP c22 h
     refine r_movD R R R (r_movD R R R ?_)
     refine r_geq R R R R ?_ ?_
     ·intro c23
      replace h := ifP c23 h
      refine r_pickT R R R R (r_movD R R R (r_movD R R R (r_movD R R R (r_movW R R R (r_lenR tb R R R R R (r_max2 R R R R ?_))))))
      refine r_leq R R R R ?_ ?_
      ·intro c24
       replace h := ifP c24 h
       refine r_pickT R R R R (r_movD R R R (r_ixA tb R R R R R (by decide) (by decide) R R (r_ldD (y := .v (.int .u8 a.c0)) tb R R R R R R R R R (r_rem R R (by decide) R R ?_))))
       refine r_lss R R R R ?_ ?_
       ·intro c25
        replace h := ifP c25 h
        refine r_movD R R R (r_skip R R R (r_skip R R R (r_skip R R R (r_pickT R R R R (r_movD R R R (r_skip R R R (r_skip R R R (r_skip R R R (r_pickT R R R R (r_pickT R R R R (r_movD R R R ?_)))))))))))
        obtain ⟨rv13, hrv13, h⟩ := bnd h
        refine r_call (l_Awake_pc hrv13) (.of (by kernel_rfl)) R R R R (r_pickT R R R R (r_asgD R R R (eN (sw_ret ?_))))
        obtain rfl := sI h
        exact fin_0 (t := .d (.v (.bool rv13))) R R R (.cons (.tmp 6) .nil)
       intro c25
       replace h := ifN (Int.not_lt.2 c25) h
       refine r_movD R R R (r_movW R R R (r_lenR tb R R R R R ?_))
       refine r_eql R R R R ?_ ?_
       ·intro c26
        replace h := ifP c26 h
        refine r_pickF R R R R (r_movD R R R (r_skip R R R (r_skip R R R (r_skip R R R (r_pickT R R R R (r_pickT R R R R (r_movD R R R ?_)))))))
        obtain ⟨rv14, hrv14, h⟩ := bnd h
        refine r_call (l_Awake_pc hrv14) (.of (by kernel_rfl)) R R R R (r_pickT R R R R (r_asgD R R R (eN (sw_ret ?_))))
        obtain rfl := sI h
        exact fin_0 (t := .d (.v (.bool rv14))) R R R (.cons (.tmp 6) .nil)
       intro c26
       replace h := ifN c26 h
       refine r_pickF R R R R (r_movD R R R (r_movD R R R (r_movD R R R ?_)))
       refine r_eql R R R R ?_ ?_
       ·intro c27
        replace h := ifP c27 h
        refine r_pickF R R R R (r_pickT R R R R (r_movD R R R ?_))
        obtain ⟨rv15, hrv15, h⟩ := bnd h
        refine r_call (l_Awake_pc hrv15) (.of (by kernel_rfl)) R R R R (r_pickT R R R R (r_asgD R R R (eN (sw_ret ?_))))
        obtain rfl := sI h
        exact fin_0 (t := .d (.v (.bool rv15))) R R R (.cons (.tmp 6) .nil)
       intro c27
       replace h := ifN c27 h
       refine r_pickF R R R R (r_pickT R R R R (r_movD R R R (r_skip R R R (r_pickF R R R R (r_asgD R R R (eN (sw_ret ?_)))))))
       obtain rfl := sI h
       exact fin_0 (t := .d (.v (.bool false))) R R R (.cons (.tmp 6) .nil)
      intro c24
      replace h := ifN (Int.not_le.2 c24) h
      refine r_pickT R R R R (r_movD R R R (r_skip R R R (r_skip R R R (r_skip R R R (r_skip R R R (r_skip R R R (r_skip R R R (r_skip R R R (r_skip R R R (r_skip R R R (r_skip R R R (r_skip R R R (r_skip R R R (r_skip R R R (r_skip R R R (r_pickF R R R R (r_movD R R R (r_skip R R R (r_pickF R R R R (r_asgD R R R (eN (sw_ret ?_))))))))))))))))))))))
      obtain rfl := sI h
      exact fin_0 (t := .d (.v (.bool false))) R R R (.cons (.tmp 6) .nil)
     intro c23
     replace h := ifN (Int.not_le.2 c23) h
     refine r_pickT R R R R (r_movD R R R (r_skip R R R (r_skip R R R (r_skip R R R (r_skip R R R (r_skip R R R (r_skip R R R (r_pickF R R R R (r_movD R R R (r_skip R R R (r_skip R R R (r_skip R R R (r_skip R R R (r_skip R R R (r_skip R R R (r_skip R R R (r_skip R R R (r_skip R R R (r_skip R R R (r_skip R R R (r_skip R R R (r_skip R R R (r_skip R R R (r_pickF R R R R (r_movD R R R ?_)))))))))))))))))))))))))
     refine r_skip R R R (r_pickF R R R R (r_asgD R R R (eN (sw_ret ?_))))
     obtain rfl := sI h
     exact fin_0 (t := .d (.v (.bool false))) R R R (.cons (.tmp 6) .nil)
    intro c22
    replace h := ifN c22 h
    refine r_movD R R R (r_skip R R R (r_skip R R R (r_pickF R R R R (r_movD R R R (r_skip R R R (r_skip R R R (r_skip R R R (r_skip R R R (r_skip R R R (r_skip R R R (r_pickF R R R R (r_movD R R R (r_skip R R R (r_skip R R R (r_skip R R R (r_skip R R R (r_skip R R R (r_skip R R R (r_skip R R R (r_skip R R R (r_skip R R R (r_skip R R R (r_skip R R R (r_skip R R R (r_skip R R R (r_skip R R R ?_))))))))))))))))))))))))))
    refine r_pickF R R R R (r_movD R R R (r_skip R R R (r_pickF R R R R (r_asgD R R R (eN (sw_ret ?_))))))
    obtain rfl := sI h
    exact fin_0 (t := .d (.v (.bool false))) R R R (.cons (.tmp 6) .nil)
   replace h := ifN c21 h
   refine r_slRowLo tb R R R R R R ((natO_eq ip2).1) (by have := (natO_eq ip2).2; omega) R R ?_
   obtain ⟨q5, iq5, h⟩ := bnd h
   refine r_apT (g := WiUse.d) (w := q) ([some ⟨4, [.d (WiPlan.d t)]⟩, some ⟨3, [.d (Arr3Int.d a)]⟩, some (lWiUsed rv.1), some (lvI rv.2.1.used), some (lvI rv.2.1.credit), some (lvI rv.2.1.last), some ⟨4, [WiState_T1 rv.2.1 3 4 5]⟩, none, none]) tb R R R R R R R ((natO_eq ip).2) ((natO_eq ip2).2) R (fun _ => rfl) iq5 R R R R R ?_
   refine r_asgW R R R (ev_endD (by kernel_rfl) (block_norm (then_norm (qG (r_ldD (y := WiPlan.d t) tb R R R R R R R R R (r_movD R R R (r_movW R R R ?_)))))))
   obtain ⟨rv16, hrv16, h⟩ := bnd h
   refine r_callL (window_Audit_pc hrv16) R (.of (by kernel_rfl)) R R ((.cons (.d _) (.cons (.d _) (.cons (.row R R) .nil)))) R R (r_movD R R R (r_extD (t := .v (.int .i64 rv16.1)) R R R R (r_extD (t := .v (.int .i64 rv16.2)) R R R R (r_asgD R R R (r_asgD R R R (eN (qG (r_movD R R R ?_))))))))
   refine r_eql R R R R ?_ ?_
   ·intro c28
    replace h := ifP c28 h
    refine r_movD R R R (r_movD R R R ?_)
    refine r_geq R R R R ?_ ?_
    ·intro c29
     replace h := ifP c29 h
     refine r_pickT R R R R (r_movD R R R (r_movD R R R (r_movD R R R (r_movW R R R (r_lenR tb R R R R R (r_max2 R R R R ?_))))))
     refine r_leq R R R R ?_ ?_
     ·intro c30
      replace h := ifP c30 h
      refine r_pickT R R R R (r_movD R R R (r_ixA tb R R R R R (by decide) (by decide) R R (r_ldD (y := .v (.int .u8 a.c0)) tb R R R R R R R R R (r_rem R R (by decide) R R ?_))))
      refine r_lss R R R R ?_ ?_
      ·intro c31
       replace h := ifP c31 h
       refine r_movD R R R (r_skip R R R (r_skip R R R (r_skip R R R (r_pickT R R R R (r_movD R R R (r_skip R R R (r_skip R R R (r_skip R R R (r_pickT R R R R (r_pickT R R R R (r_movD R R R ?_)))))))))))
       obtain ⟨rv17, hrv17, h⟩ := bnd h
       refine r_call (l_Awake_pc hrv17) (.of (by kernel_rfl)) R R R R (r_pickT R R R R (r_asgD R R R (eN (sw_ret ?_))))
       obtain rfl := sI h
       exact fin_0 (t := .d (.v (.bool rv17))) R R R (.cons (.tmp 6) .nil)
      intro c31
      replace h := ifN (Int.not_lt.2 c31) h
      refine r_movD R R R (r_movW R R R (r_lenR tb R R R R R ?_))
      refine r_eql R R R R ?_ ?_
      ·intro c32
       replace h := ifP c32 h
       refine r_pickF R R R R (r_movD R R R (r_skip R R R (r_skip R R R (r_skip R R R (r_pickT R R R R (r_pickT R R R R (r_movD R R R ?_)))))))
       obtain ⟨rv18, hrv18, h⟩ := bnd h
       refine r_call (l_Awake_pc hrv18) (.of (by kernel_rfl)) R R R R (r_pickT R R R R (r_asgD R R R (eN (sw_ret ?_))))
       obtain rfl := sI h
       exact fin_0 (t := .d (.v (.bool rv18))) R R R (.cons (.tmp 6) .nil)
      intro c32
      replace h := ifN c32 h
      refine r_pickF R R R R (r_movD R R R (r_movD R R R (r_movD R R R ?_)))
      refine r_eql R R R R ?_ ?_
      ·intro c33
       replace h := ifP c33 h
       refine r_pickF R R R R (r_pickT R R R R (r_movD R R R ?_))
       obtain ⟨rv19, hrv19, h⟩ := bnd h
       refine r_call (l_Awake_pc hrv19) (.of (by kernel_rfl)) R R R R (r_pickT R R R R (r_asgD R R R (eN (sw_ret ?_))))
       obtain rfl := sI h
       exact fin_0 (t := .d (.v (.bool rv19))) R R R (.cons (.tmp 6) .nil)
      intro c33
      replace h := ifN c33 h
      refine r_pickF R R R R (r_pickT R R R R (r_movD R R R (r_skip R R R (r_pickF R R R R (r_asgD R R R (eN (sw_ret ?_)))))))
      obtain rfl := sI h
      exact fin_0 (t := .d (.v (.bool false))) R R R (.cons (.tmp 6) .nil)
     intro c30
     replace h := ifN (Int.not_le.2 c30) h
     refine r_pickT R R R R (r_movD R R R (r_skip R R R (r_skip R R R (r_skip R R R (r_skip R R R (r_skip R R R (r_skip R R R (r_skip R R R (r_skip R R R (r_skip R R R (r_skip R R R (r_skip R R R (r_skip R R R (r_skip R R R (r_skip R R R (r_pickF R R R R (r_movD R R R (r_skip R R R (r_pickF R R R R (r_asgD R R R (eN (sw_ret ?_))))))))))))))))))))))
     obtain rfl := sI h
     exact fin_0 (t := .d (.v (.bool false))) R R R (.cons (.tmp 6) .nil)
    intro c29
    replace h := ifN (Int.not_le.2 c29) h
    refine r_pickT R R R R (r_movD R R R (r_skip R R R (r_skip R R R (r_skip R R R (r_skip R R R (r_skip R R R (r_skip R R R (r_pickF R R R R (r_movD R R R (r_skip R R R (r_skip R R R (r_skip R R R (r_skip R R R (r_skip R R R (r_skip R R R (r_skip R R R (r_skip R R R (r_skip R R R (r_skip R R R (r_skip R R R (r_skip R R R (r_skip R R R (r_skip R R R (r_pickF R R R R (r_movD R R R ?_)))))))))))))))))))))))))
    refine r_skip R R R (r_pickF R R R R (r_asgD R R R (eN (sw_ret ?_))))
    obtain rfl := sI h
    exact fin_0 (t := .d (.v (.bool false))) R R R (.cons (.tmp 6) .nil)
   intro c28
   replace h := ifN c28 h
   refine r_movD R R R (r_skip R R R (r_skip R R R (r_pickF R R R R (r_movD R R R (r_skip R R R (r_skip R R R (r_skip R R R (r_skip R R R (r_skip R R R (r_skip R R R (r_pickF R R R R (r_movD R R R (r_skip R R R (r_skip R R R (r_skip R R R (r_skip R R R (r_skip R R R (r_skip R R R (r_skip R R R (r_skip R R R (r_skip R R R (r_skip R R R (r_skip R R R (r_skip R R R (r_skip R R R (r_skip R R R ?_))))))))))))))))))))))))))
   refine r_pickF R R R R (r_movD R R R (r_skip R R R (r_pickF R R R R (r_asgD R R R (eN (sw_ret ?_))))))
   obtain rfl := sI h
   exact fin_0 (t := .d (.v (.bool false))) R R R (.cons (.tmp 6) .nil)
  intro c20
  replace h := ifN c20 h
  refine r_asgD R R R (eN (sw_condF R (qG (r_ixA tb R R R R R (by decide) (by decide) R R (r_ldD (y := .v (.int .u8 a.c0)) tb R R R R R R R R R (r_rem R R (by decide) R R ?_))))))
  refine r_eql R R R R ?_ ?_
  ·intro c34
   replace h := ifP c34 h
   refine r_asgD R R R (eN (sw_condT R (sw_rg (r_movW R R R (r_movD R R R (r_movW R R R (r_movD R R R ?_)))))))
   obtain ⟨e, ie, h⟩ := bnd h
   refine r_ixI tb R R R R R R (ix0 ie) (ix1 ie) R R (r_fa tb R R R R R R R ?_)
   refine r_ldD (y := .v (.int .i64 e.window)) tb R R R R (ix2 (g := fun a => T.d (WiUse.d a)) ie) R R R R ?_
   refine r_movD R R R (r_add R R R R (r_ixI tb R R R R R R (ix0 ie) (ix1 ie) R R (r_fa tb R R R R R R R ?_)))
   obtain ⟨q6, iq6, h⟩ := bnd h
   refine r_stQ (a' := ({e with window := (W (e.window + (W (1 + (W a.c2)))))} : WiUse)) tb R R R R ie R R R R iq6 R R ?_
   dsimp only [List.set_cons_zero, List.set_cons_succ, WiState_T1, WiState_T2, WiState_T3, Table_T1, Desk_T1, Desk_T2, Desk_T3, Desk_T4, Desk_T5]
   first | rw [set_len iq6] | skip
   refine ev_end (block_norm (then_norm (qG (r_ldD (y := WiPlan.d t) tb R R R R R R R R R (r_movD R R R (r_movW R R R ?_))))))
   obtain ⟨rv20, hrv20, h⟩ := bnd h
   refine r_callL (window_Audit_pc hrv20) R (.of (by kernel_rfl)) R R ((.cons (.d _) (.cons (.d _) (.cons (.row R R) .nil)))) R R (r_movD R R R (r_extD (t := .v (.int .i64 rv20.1)) R R R R (r_extD (t := .v (.int .i64 rv20.2)) R R R R (r_asgD R R R (r_asgD R R R (eN (qG (r_movD R R R ?_))))))))
   refine r_eql R R R R ?_ ?_
   ·intro c35
    replace h := ifP c35 h
    refine r_movD R R R (r_movD R R R ?_)
    refine r_geq R R R R ?_ ?_
    ·intro c36
     replace h := ifP c36 h
     refine r_pickT R R R R (r_movD R R R (r_movD R R R (r_movD R R R (r_movW R R R (r_lenR tb R R R R R (r_max2 R R R R ?_))))))
     refine r_leq R R R R ?_ ?_
     ·intro c37
      replace h := ifP c37 h
      refine r_pickT R R R R (r_movD R R R (r_ixA tb R R R R R (by decide) (by decide) R R (r_ldD (y := .v (.int .u8 a.c0)) tb R R R R R R R R R (r_rem R R (by decide) R R ?_))))
      refine r_lss R R R R ?_ ?_
      ·intro c38
       replace h := ifP c38 h
       refine r_movD R R R (r_skip R R R (r_skip R R R (r_skip R R R (r_pickT R R R R (r_movD R R R (r_skip R R R (r_skip R R R (r_skip R R R (r_pickT R R R R (r_pickT R R R R (r_movD R R R ?_)))))))))))
       obtain ⟨rv21, hrv21, h⟩ := bnd h
       refine r_call (l_Awake_pc hrv21) (.of (by kernel_rfl)) R R R R (r_pickT R R R R (r_asgD R R R (eN (sw_ret ?_))))
       obtain rfl := sI h
       exact fin_0 (t := .d (.v (.bool rv21))) R R R (.cons (.tmp 6) .nil)
      intro c38
      replace h := ifN (Int.not_lt.2 c38) h
      refine r_movD R R R (r_movW R R R (r_lenR tb R R R R R ?_))
      refine r_eql R R R R ?_ ?_
      ·intro c39
       replace h := ifP c39 h
       refine r_pickF R R R R (r_movD R R R (r_skip R R R (r_skip R R R (r_skip R R R (r_pickT R R R R (r_pickT R R R R (r_movD R R R ?_)))))))
       obtain ⟨rv22, hrv22, h⟩ := bnd h
       refine r_call (l_Awake_pc hrv22) (.of (by kernel_rfl)) R R R R (r_pickT R R R R (r_asgD R R R (eN (sw_ret ?_))))
       obtain rfl := sI h
       exact fin_0 (t := .d (.v (.bool rv22))) R R R (.cons (.tmp 6) .nil)
      intro c39
      replace h := ifN c39 h
      refine r_pickF R R R R (r_movD R R R (r_movD R R R (r_movD R R R ?_)))
      refine r_eql R R R R ?_ ?_
      ·intro c40
       replace h := ifP c40 h
       refine r_pickF R R R R (r_pickT R R R R (r_movD R R R ?_))
       obtain ⟨rv23, hrv23, h⟩ := bnd h
       refine r_call (l_Awake_pc hrv23) (.of (by kernel_rfl)) R R R R (r_pickT R R R R (r_asgD R R R (eN (sw_ret ?_))))
       obtain rfl := sI h
       exact fin_0 (t := .d (.v (.bool rv23))) R R R (.cons (.tmp 6) .nil)
      intro c40
      replace h := ifN c40 h
      refine r_pickF R R R R (r_pickT R R R R (r_movD R R R (r_skip R R R (r_pickF R R R R (r_asgD R R R (eN (sw_ret ?_)))))))
      obtain rfl := sI h
      exact fin_0 (t := .d (.v (.bool false))) R R R (.cons (.tmp 6) .nil)
     intro c37
     replace h := ifN (Int.not_le.2 c37) h
     refine r_pickT R R R R (r_movD R R R (r_skip R R R (r_skip R R R (r_skip R R R (r_skip R R R (r_skip R R R (r_skip R R R (r_skip R R R (r_skip R R R (r_skip R R R (r_skip R R R (r_skip R R R (r_skip R R R (r_skip R R R (r_skip R R R (r_pickF R R R R (r_movD R R R (r_skip R R R (r_pickF R R R R (r_asgD R R R (eN (sw_ret ?_))))))))))))))))))))))
     obtain rfl := sI h
     exact fin_0 (t := .d (.v (.bool false))) R R R (.cons (.tmp 6) .nil)
    intro c36
    replace h := ifN (Int.not_le.2 c36) h
    refine r_pickT R R R R (r_movD R R R (r_skip R R R (r_skip R R R (r_skip R R R (r_skip R R R (r_skip R R R (r_skip R R R (r_pickF R R R R (r_movD R R R (r_skip R R R (r_skip R R R (r_skip R R R (r_skip R R R (r_skip R R R (r_skip R R R (r_skip R R R (r_skip R R R (r_skip R R R (r_skip R R R (r_skip R R R (r_skip R R R (r_skip R R R (r_skip R R R (r_pickF R R R R (r_movD R R R ?_)))))))))))))))))))))))))
    refine r_skip R R R (r_pickF R R R R (r_asgD R R R (eN (sw_ret ?_))))
    obtain rfl := sI h
    exact fin_0 (t := .d (.v (.bool false))) R R R (.cons (.tmp 6) .nil)
   intro c35
   replace h := ifN c35 h
   refine r_movD R R R (r_skip R R R (r_skip R R R (r_pickF R R R R (r_movD R R R (r_skip R R R (r_skip R R R (r_skip R R R (r_skip R R R (r_skip R R R (r_skip R R R (r_pickF R R R R (r_movD R R R (r_skip R R R (r_skip R R R (r_skip R R R (r_skip R R R (r_skip R R R (r_skip R R R (r_skip R R R (r_skip R R R (r_skip R R R (r_skip R R R (r_skip R R R (r_skip R R R (r_skip R R R (r_skip R R R ?_))))))))))))))))))))))))))
   refine r_pickF R R R R (r_movD R R R (r_skip R R R (r_pickF R R R R (r_asgD R R R (eN (sw_ret ?_))))))
   obtain rfl := sI h
   exact fin_0 (t := .d (.v (.bool false))) R R R (.cons (.tmp 6) .nil)
  intro c34
  replace h := ifN c34 h
  refine r_asgD R R R (eN (sw_condF R (qG (r_ixA tb R R R R R (by decide) (by decide) R R (r_ldD (y := .v (.int .u8 a.c0)) tb R R R R R R R R R (r_rem R R (by decide) R R ?_))))))
  refine r_eql R R R R ?_ ?_
  ·intro c41
   replace h := ifP c41 h
   refine r_asgD R R R (eN (sw_condT R (sw_rg (r_movW R R R (r_movD R R R (r_movW R R R (r_movD R R R ?_)))))))
   obtain ⟨e2, ie2, h⟩ := bnd h
   refine r_ixI tb R R R R R R (ix0 ie2) (ix1 ie2) R R (r_fa tb R R R R R R R ?_)
   refine r_ldD (y := .v (.int .i64 e2.team)) tb R R R R (ix2 (g := fun a => T.d (WiUse.d a)) ie2) R R R R ?_
   refine r_movD R R R (r_add R R R R (r_ixI tb R R R R R R (ix0 ie2) (ix1 ie2) R R (r_fa tb R R R R R R R ?_)))
   obtain ⟨q7, iq7, h⟩ := bnd h
   refine r_stQ (a' := ({e2 with team := (W (e2.team + (W (1 + (W a.c2)))))} : WiUse)) tb R R R R ie2 R R R R iq7 R R ?_
   dsimp only [List.set_cons_zero, List.set_cons_succ, WiState_T1, WiState_T2, WiState_T3, Table_T1, Desk_T1, Desk_T2, Desk_T3, Desk_T4, Desk_T5]
   first | rw [set_len iq7] | skip
   refine ev_end (block_norm (then_norm (qG (r_ldD (y := WiPlan.d t) tb R R R R R R R R R (r_movD R R R (r_movW R R R ?_))))))
   obtain ⟨rv24, hrv24, h⟩ := bnd h
   refine r_callL (window_Audit_pc hrv24) R (.of (by kernel_rfl)) R R ((.cons (.d _) (.cons (.d _) (.cons (.row R R) .nil)))) R R (r_movD R R R (r_extD (t := .v (.int .i64 rv24.1)) R R R R (r_extD (t := .v (.int .i64 rv24.2)) R R R R (r_asgD R R R (r_asgD R R R (eN (qG (r_movD R R R ?_))))))))
   refine r_eql R R R R ?_ ?_
   ·intro c42
    replace h := ifP c42 h
    refine r_movD R R R (r_movD R R R ?_)
    refine r_geq R R R R ?_ ?_
    ·intro c43
     replace h := ifP c43 h
     refine r_pickT R R R R (r_movD R R R (r_movD R R R (r_movD R R R (r_movW R R R (r_lenR tb R R R R R (r_max2 R R R R ?_))))))
     refine r_leq R R R R ?_ ?_
     ·intro c44
      replace h := ifP c44 h
      refine r_pickT R R R R (r_movD R R R (r_ixA tb R R R R R (by decide) (by decide) R R (r_ldD (y := .v (.int .u8 a.c0)) tb R R R R R R R R R (r_rem R R (by decide) R R ?_))))
      refine r_lss R R R R ?_ ?_
      ·intro c45
       replace h := ifP c45 h
       refine r_movD R R R (r_skip R R R (r_skip R R R (r_skip R R R (r_pickT R R R R (r_movD R R R (r_skip R R R (r_skip R R R (r_skip R R R (r_pickT R R R R (r_pickT R R R R (r_movD R R R ?_)))))))))))
       obtain ⟨rv25, hrv25, h⟩ := bnd h
       refine r_call (l_Awake_pc hrv25) (.of (by kernel_rfl)) R R R R (r_pickT R R R R (r_asgD R R R (eN (sw_ret ?_))))
       obtain rfl := sI h
       exact fin_0 (t := .d (.v (.bool rv25))) R R R (.cons (.tmp 6) .nil)
      intro c45
      replace h := ifN (Int.not_lt.2 c45) h
      refine r_movD R R R (r_movW R R R (r_lenR tb R R R R R ?_))
      refine r_eql R R R R ?_ ?_
      ·intro c46
       replace h := ifP c46 h
       refine r_pickF R R R R (r_movD R R R (r_skip R R R (r_skip R R R (r_skip R R R (r_pickT R R R R (r_pickT R R R R (r_movD R R R ?_)))))))
       obtain ⟨rv26, hrv26, h⟩ := bnd h
       refine r_call (l_Awake_pc hrv26) (.of (by kernel_rfl)) R R R R (r_pickT R R R R (r_asgD R R R (eN (sw_ret ?_))))
       obtain rfl := sI h
       exact fin_0 (t := .d (.v (.bool rv26))) R R R (.cons (.tmp 6) .nil)
      intro c46
      replace h := ifN c46 h
      refine r_pickF R R R R (r_movD R R R (r_movD R R R (r_movD R R R ?_)))
      refine r_eql R R R R ?_ ?_
      ·intro c47
       replace h := ifP c47 h
       refine r_pickF R R R R (r_pickT R R R R (r_movD R R R ?_))
       obtain ⟨rv27, hrv27, h⟩ := bnd h
       refine r_call (l_Awake_pc hrv27) (.of (by kernel_rfl)) R R R R (r_pickT R R R R (r_asgD R R R (eN (sw_ret ?_))))
       obtain rfl := sI h
       exact fin_0 (t := .d (.v (.bool rv27))) R R R (.cons (.tmp 6) .nil)
      intro c47
      replace h := ifN c47 h
      refine r_pickF R R R R (r_pickT R R R R (r_movD R R R (r_skip R R R (r_pickF R R R R (r_asgD R R R (eN (sw_ret ?_)))))))
      obtain rfl := sI h
      exact fin_0 (t := .d (.v (.bool false))) R R R (.cons (.tmp 6) .nil)
     intro c44
     replace h := ifN (Int.not_le.2 c44) h
     refine r_pickT R R R R (r_movD R R R (r_skip R R R (r_skip R R R (r_skip R R R (r_skip R R R (r_skip R R R (r_skip R R R (r_skip R R R (r_skip R R R (r_skip R R R (r_skip R R R (r_skip R R R (r_skip R R R (r_skip R R R (r_skip R R R (r_pickF R R R R (r_movD R R R (r_skip R R R (r_pickF R R R R (r_asgD R R R (eN (sw_ret ?_))))))))))))))))))))))
     obtain rfl := sI h
     exact fin_0 (t := .d (.v (.bool false))) R R R (.cons (.tmp 6) .nil)
    intro c43
    replace h := ifN (Int.not_le.2 c43) h
    refine r_pickT R R R R (r_movD R R R (r_skip R R R (r_skip R R R (r_skip R R R (r_skip R R R (r_skip R R R (r_skip R R R (r_pickF R R R R (r_movD R R R (r_skip R R R (r_skip R R R (r_skip R R R (r_skip R R R (r_skip R R R (r_skip R R R (r_skip R R R (r_skip R R R (r_skip R R R (r_skip R R R (r_skip R R R (r_skip R R R (r_skip R R R (r_skip R R R (r_pickF R R R R (r_movD R R R ?_)))))))))))))))))))))))))
    refine r_skip R R R (r_pickF R R R R (r_asgD R R R (eN (sw_ret ?_))))
    obtain rfl := sI h
    exact fin_0 (t := .d (.v (.bool false))) R R R (.cons (.tmp 6) .nil)
   intro c42
   replace h := ifN c42 h
   refine r_movD R R R (r_skip R R R (r_skip R R R (r_pickF R R R R (r_movD R R R (r_skip R R R (r_skip R R R (r_skip R R R (r_skip R R R (r_skip R R R (r_skip R R R (r_pickF R R R R (r_movD R R R (r_skip R R R (r_skip R R R (r_skip R R R (r_skip R R R (r_skip R R R (r_skip R R R (r_skip R R R (r_skip R R R (r_skip R R R (r_skip R R R (r_skip R R R (r_skip R R R (r_skip R R R (r_skip R R R ?_))))))))))))))))))))))))))
   refine r_pickF R R R R (r_movD R R R (r_skip R R R (r_pickF R R R R (r_asgD R R R (eN (sw_ret ?_))))))
   obtain rfl := sI h
   exact fin_0 (t := .d (.v (.bool false))) R R R (.cons (.tmp 6) .nil)
  intro c41
  replace h := ifN c41 h
  refine r_asgD R R R (eN (sw_condF R (qG (r_ixA tb R R R R R (by decide) (by decide) R R (r_ldD (y := .v (.int .u8 a.c0)) tb R R R R R R R R R (r_rem R R (by decide) R R ?_))))))
  refine r_eql R R R R ?_ ?_
  ·intro c48
   replace h := ifP c48 h
   refine r_asgD R R R (eN (sw_condT R (sw_rg (r_movW R R R (r_movD R R R (r_movW R R R (r_movD R R R ?_)))))))
   obtain ⟨e3, ie3, h⟩ := bnd h
   refine r_ixI tb R R R R R R (ix0 ie3) (ix1 ie3) R R (r_fa tb R R R R R R R ?_)
   refine r_ldD (y := .v (.int .i64 e3.at_)) tb R R R R (ix2 (g := fun a => T.d (WiUse.d a)) ie3) R R R R ?_
   refine r_movD R R R (r_sub R R R R (r_ixI tb R R R R R R (ix0 ie3) (ix1 ie3) R R (r_fa tb R R R R R R R ?_)))
   obtain ⟨q8, iq8, h⟩ := bnd h
   refine r_stQ (a' := ({e3 with at_ := (W (e3.at_ - (W (1 + (W a.c2)))))} : WiUse)) tb R R R R ie3 R R R R iq8 R R ?_
   dsimp only [List.set_cons_zero, List.set_cons_succ, WiState_T1, WiState_T2, WiState_T3, Table_T1, Desk_T1, Desk_T2, Desk_T3, Desk_T4, Desk_T5]
   first | rw [set_len iq8] | skip
   refine ev_end (block_norm (then_norm (qG (r_ldD (y := WiPlan.d t) tb R R R R R R R R R (r_movD R R R (r_movW R R R ?_))))))
   obtain ⟨rv28, hrv28, h⟩ := bnd h
   refine r_callL (window_Audit_pc hrv28) R (.of (by kernel_rfl)) R R ((.cons (.d _) (.cons (.d _) (.cons (.row R R) .nil)))) R R (r_movD R R R (r_extD (t := .v (.int .i64 rv28.1)) R R R R (r_extD (t := .v (.int .i64 rv28.2)) R R R R (r_asgD R R R (r_asgD R R R (eN (qG (r_movD R R R ?_))))))))
   refine r_eql R R R R ?_ ?_
   ·intro c49
    replace h := ifP c49 h
    refine r_movD R R R (r_movD R R R ?_)
    refine r_geq R R R R ?_ ?_
    ·intro c50
     replace h := ifP c50 h
     refine r_pickT R R R R (r_movD R R R (r_movD R R R (r_movD R R R (r_movW R R R (r_lenR tb R R R R R (r_max2 R R R R ?_))))))
     refine r_leq R R R R ?_ ?_
     ·intro c51
      replace h := ifP c51 h
      refine r_pickT R R R R (r_movD R R R (r_ixA tb R R R R R (by decide) (by decide) R R (r_ldD (y := .v (.int .u8 a.c0)) tb R R R R R R R R R (r_rem R R (by decide) R R ?_))))
      refine r_lss R R R R ?_ ?_
      ·intro c52
       replace h := ifP c52 h
       refine r_movD R R R (r_skip R R R (r_skip R R R (r_skip R R R (r_pickT R R R R (r_movD R R R (r_skip R R R (r_skip R R R (r_skip R R R (r_pickT R R R R (r_pickT R R R R (r_movD R R R ?_)))))))))))
       obtain ⟨rv29, hrv29, h⟩ := bnd h
       refine r_call (l_Awake_pc hrv29) (.of (by kernel_rfl)) R R R R (r_pickT R R R R (r_asgD R R R (eN (sw_ret ?_))))
       obtain rfl := sI h
       exact fin_0 (t := .d (.v (.bool rv29))) R R R (.cons (.tmp 6) .nil)
      intro c52
      replace h := ifN (Int.not_lt.2 c52) h
      refine r_movD R R R (r_movW R R R (r_lenR tb R R R R R ?_))
      refine r_eql R R R R ?_ ?_
      ·intro c53
       replace h := ifP c53 h
       refine r_pickF R R R R (r_movD R R R (r_skip R R R (r_skip R R R (r_skip R R R (r_pickT R R R R (r_pickT R R R R (r_movD R R R ?_)))))))
       obtain ⟨rv30, hrv30, h⟩ := bnd h
       refine r_call (l_Awake_pc hrv30) (.of (by kernel_rfl)) R R R R (r_pickT R R R R (r_asgD R R R (eN (sw_ret ?_))))
       obtain rfl := sI h
       exact fin_0 (t := .d (.v (.bool rv30))) R R R (.cons (.tmp 6) .nil)
      intro c53
      replace h := ifN c53 h
      refine r_pickF R R R R (r_movD R R R (r_movD R R R (r_movD R R R ?_)))
      refine r_eql R R R R ?_ ?_
      ·intro c54
       replace h := ifP c54 h
       refine r_pickF R R R R (r_pickT R R R R (r_movD R R R ?_))
       obtain ⟨rv31, hrv31, h⟩ := bnd h
       refine r_call (l_Awake_pc hrv31) (.of (by kernel_rfl)) R R R R (r_pickT R R R R (r_asgD R R R (eN (sw_ret ?_))))
       obtain rfl := sI h
       exact fin_0 (t := .d (.v (.bool rv31))) R R R (.cons (.tmp 6) .nil)
      intro c54
      replace h := ifN c54 h
      refine r_pickF R R R R (r_pickT R R R R (r_movD R R R (r_skip R R R (r_pickF R R R R (r_asgD R R R (eN (sw_ret ?_)))))))
      obtain rfl := sI h
      exact fin_0 (t := .d (.v (.bool false))) R R R (.cons (.tmp 6) .nil)
     intro c51
     replace h := ifN (Int.not_le.2 c51) h
     refine r_pickT R R R R (r_movD R R R (r_skip R R R (r_skip R R R (r_skip R R R (r_skip R R R (r_skip R R R (r_skip R R R (r_skip R R R (r_skip R R R (r_skip R R R (r_skip R R R (r_skip R R R (r_skip R R R (r_skip R R R (r_skip R R R (r_pickF R R R R (r_movD R R R (r_skip R R R (r_pickF R R R R (r_asgD R R R (eN (sw_ret ?_))))))))))))))))))))))
     obtain rfl := sI h
     exact fin_0 (t := .d (.v (.bool false))) R R R (.cons (.tmp 6) .nil)
    intro c50
    replace h := ifN (Int.not_le.2 c50) h
    refine r_pickT R R R R (r_movD R R R (r_skip R R R (r_skip R R R (r_skip R R R (r_skip R R R (r_skip R R R (r_skip R R R (r_pickF R R R R (r_movD R R R (r_skip R R R (r_skip R R R (r_skip R R R (r_skip R R R (r_skip R R R (r_skip R R R (r_skip R R R (r_skip R R R (r_skip R R R (r_skip R R R (r_skip R R R (r_skip R R R (r_skip R R R (r_skip R R R (r_pickF R R R R (r_movD R R R ?_)))))))))))))))))))))))))
    refine r_skip R R R (r_pickF R R R R (r_asgD R R R (eN (sw_ret ?_))))
    obtain rfl := sI h
    exact fin_0 (t := .d (.v (.bool false))) R R R (.cons (.tmp 6) .nil)
   intro c49
   replace h := ifN c49 h
   refine r_movD R R R (r_skip R R R (r_skip R R R (r_pickF R R R R (r_movD R R R (r_skip R R R (r_skip R R R (r_skip R R R (r_skip R R R (r_skip R R R (r_skip R R R (r_pickF R R R R (r_movD R R R (r_skip R R R (r_skip R R R (r_skip R R R (r_skip R R R (r_skip R R R (r_skip R R R (r_skip R R R (r_skip R R R (r_skip R R R (r_skip R R R (r_skip R R R (r_skip R R R (r_skip R R R (r_skip R R R ?_))))))))))))))))))))))))))
   refine r_pickF R R R R (r_movD R R R (r_skip R R R (r_pickF R R R R (r_asgD R R R (eN (sw_ret ?_))))))
   obtain rfl := sI h
   exact fin_0 (t := .d (.v (.bool false))) R R R (.cons (.tmp 6) .nil)
  intro c48
  replace h := ifN c48 h
  refine r_asgD R R R (eN (sw_condF R (sw_rg (r_movW R R R (r_movD R R R (r_movW R R R (r_movD R R R ?_)))))))
  obtain ⟨e4, ie4, h⟩ := bnd h
  refine r_ixI tb R R R R R R (ix0 ie4) (ix1 ie4) R R (r_fa tb R R R R R R R ?_)
  refine r_ldD (y := .v (.int .i64 e4.by_)) tb R R R R (ix2 (g := fun a => T.d (WiUse.d a)) ie4) R R R R ?_
  refine r_movD R R R (r_add R R R R (r_ixI tb R R R R R R (ix0 ie4) (ix1 ie4) R R (r_fa tb R R R R R R R ?_)))
  obtain ⟨q9, iq9, h⟩ := bnd h
  refine r_stQ (a' := ({e4 with by_ := (W (e4.by_ + (W (1 + (W a.c2)))))} : WiUse)) tb R R R R ie4 R R R R iq9 R R ?_
  dsimp only [List.set_cons_zero, List.set_cons_succ, WiState_T1, WiState_T2, WiState_T3, Table_T1, Desk_T1, Desk_T2, Desk_T3, Desk_T4, Desk_T5]
  first | rw [set_len iq9] | skip
  refine ev_end (block_norm (then_norm (qG (r_ldD (y := WiPlan.d t) tb R R R R R R R R R (r_movD R R R (r_movW R R R ?_))))))
  obtain ⟨rv32, hrv32, h⟩ := bnd h
  refine r_callL (window_Audit_pc hrv32) R (.of (by kernel_rfl)) R R ((.cons (.d _) (.cons (.d _) (.cons (.row R R) .nil)))) R R (r_movD R R R (r_extD (t := .v (.int .i64 rv32.1)) R R R R (r_extD (t := .v (.int .i64 rv32.2)) R R R R (r_asgD R R R (r_asgD R R R (eN (qG (r_movD R R R ?_))))))))
  refine r_eql R R R R ?_ ?_
  ·intro c55
   replace h := ifP c55 h
   refine r_movD R R R (r_movD R R R ?_)
   refine r_geq R R R R ?_ ?_
   ·intro c56
    replace h := ifP c56 h
    refine r_pickT R R R R (r_movD R R R (r_movD R R R (r_movD R R R (r_movW R R R (r_lenR tb R R R R R (r_max2 R R R R ?_))))))
    refine r_leq R R R R ?_ ?_
    ·intro c57
     replace h := ifP c57 h
     refine r_pickT R R R R (r_movD R R R (r_ixA tb R R R R R (by decide) (by decide) R R (r_ldD (y := .v (.int .u8 a.c0)) tb R R R R R R R R R (r_rem R R (by decide) R R ?_))))
     refine r_lss R R R R ?_ ?_
     ·intro c58
      replace h := ifP c58 h
      refine r_movD R R R (r_skip R R R (r_skip R R R (r_skip R R R (r_pickT R R R R (r_movD R R R (r_skip R R R (r_skip R R R (r_skip R R R (r_pickT R R R R (r_pickT R R R R (r_movD R R R ?_)))))))))))
      obtain ⟨rv33, hrv33, h⟩ := bnd h
      refine r_call (l_Awake_pc hrv33) (.of (by kernel_rfl)) R R R R (r_pickT R R R R (r_asgD R R R (eN (sw_ret ?_))))
      obtain rfl := sI h
      exact fin_0 (t := .d (.v (.bool rv33))) R R R (.cons (.tmp 6) .nil)
     intro c58
     replace h := ifN (Int.not_lt.2 c58) h
     refine r_movD R R R (r_movW R R R (r_lenR tb R R R R R ?_))
     refine r_eql R R R R ?_ ?_
     ·intro c59
      replace h := ifP c59 h
      refine r_pickF R R R R (r_movD R R R (r_skip R R R (r_skip R R R (r_skip R R R (r_pickT R R R R (r_pickT R R R R (r_movD R R R ?_)))))))
      obtain ⟨rv34, hrv34, h⟩ := bnd h
      refine r_call (l_Awake_pc hrv34) (.of (by kernel_rfl)) R R R R (r_pickT R R R R (r_asgD R R R (eN (sw_ret ?_))))
      obtain rfl := sI h
      exact fin_0 (t := .d (.v (.bool rv34))) R R R (.cons (.tmp 6) .nil)
     intro c59
     replace h := ifN c59 h
     refine r_pickF R R R R (r_movD R R R (r_movD R R R (r_movD R R R ?_)))
     refine r_eql R R R R ?_ ?_
     ·intro c60
      replace h := ifP c60 h
      refine r_pickF R R R R (r_pickT R R R R (r_movD R R R ?_))
      obtain ⟨rv35, hrv35, h⟩ := bnd h
      refine r_call (l_Awake_pc hrv35) (.of (by kernel_rfl)) R R R R (r_pickT R R R R (r_asgD R R R (eN (sw_ret ?_))))
      obtain rfl := sI h
      exact fin_0 (t := .d (.v (.bool rv35))) R R R (.cons (.tmp 6) .nil)
     intro c60
     replace h := ifN c60 h
     refine r_pickF R R R R (r_pickT R R R R (r_movD R R R (r_skip R R R (r_pickF R R R R (r_asgD R R R (eN (sw_ret ?_)))))))
     obtain rfl := sI h
     exact fin_0 (t := .d (.v (.bool false))) R R R (.cons (.tmp 6) .nil)
    intro c57
    replace h := ifN (Int.not_le.2 c57) h
    refine r_pickT R R R R (r_movD R R R (r_skip R R R (r_skip R R R (r_skip R R R (r_skip R R R (r_skip R R R (r_skip R R R (r_skip R R R (r_skip R R R (r_skip R R R (r_skip R R R (r_skip R R R (r_skip R R R (r_skip R R R (r_skip R R R (r_pickF R R R R (r_movD R R R (r_skip R R R (r_pickF R R R R (r_asgD R R R (eN (sw_ret ?_))))))))))))))))))))))
    obtain rfl := sI h
    exact fin_0 (t := .d (.v (.bool false))) R R R (.cons (.tmp 6) .nil)
   intro c56
   replace h := ifN (Int.not_le.2 c56) h
   refine r_pickT R R R R (r_movD R R R (r_skip R R R (r_skip R R R (r_skip R R R (r_skip R R R (r_skip R R R (r_skip R R R (r_pickF R R R R (r_movD R R R (r_skip R R R (r_skip R R R (r_skip R R R (r_skip R R R (r_skip R R R (r_skip R R R (r_skip R R R (r_skip R R R (r_skip R R R (r_skip R R R (r_skip R R R (r_skip R R R (r_skip R R R (r_skip R R R (r_pickF R R R R (r_movD R R R (r_skip R R R ?_))))))))))))))))))))))))))
   refine r_pickF R R R R (r_asgD R R R (eN (sw_ret ?_)))
   obtain rfl := sI h
   exact fin_0 (t := .d (.v (.bool false))) R R R (.cons (.tmp 6) .nil)
  intro c55
  replace h := ifN c55 h
  refine r_movD R R R (r_skip R R R (r_skip R R R (r_pickF R R R R (r_movD R R R (r_skip R R R (r_skip R R R (r_skip R R R (r_skip R R R (r_skip R R R (r_skip R R R (r_pickF R R R R (r_movD R R R (r_skip R R R (r_skip R R R (r_skip R R R (r_skip R R R (r_skip R R R (r_skip R R R (r_skip R R R (r_skip R R R (r_skip R R R (r_skip R R R (r_skip R R R (r_skip R R R (r_skip R R R (r_skip R R R ?_))))))))))))))))))))))))))
  refine r_pickF R R R R (r_movD R R R (r_skip R R R (r_pickF R R R R (r_asgD R R R (eN (sw_ret ?_))))))
  obtain rfl := sI h
  exact fin_0 (t := .d (.v (.bool false))) R R R (.cons (.tmp 6) .nil)
 intro c4
 replace h := ifN (Int.not_lt.2 c4) h
 refine eN (sw_condF R (sw_skip (then_norm (qG (r_ixA tb R R R R R (by decide) (by decide) R R (r_ldD (y := .v (.int .u8 a.c2)) tb R R R R R R R R R (r_cvI (k2 := .i64) R R R R R R (r_add R R R R (r_asgD R R R (eN (sw_seq (sw_block (qG (r_movW R R R (r_lenR tb R R R R R ?_)))))))))))))))
 refine r_eql R R R R ?_ ?_
 ·intro c61
  replace h := ifP c61 h
  refine r_movD R R R (r_skip R R R (r_skip R R R (r_skip R R R (r_skip R R R (r_pickT R R R R (r_asgD R R R (eN (sw_condT R (qG (r_movW R R R (r_movD R R R (r_build (v := .d (.agg [.v (.int .i64 (W (1 + (W a.c2)))), .v (.int .i64 0), .v (.int .i64 0), .v (.int .i64 0)])) tb R R (List.cons_ne_nil _ _) R R R R R R (r_bslice tb R R R R R R R R R R R R R ?_)))))))))))))
  obtain ⟨q10, iq10, h⟩ := bnd h
  refine r_apM (g := WiUse.d) (w := q) (v := [(WiUse.mk (W (1 + (W a.c2))) 0 0 0)]) ([some ⟨4, [.d (WiPlan.d t)]⟩, some ⟨3, [.d (Arr3Int.d a)]⟩, some (lWiUsed rv.1), some (lvI rv.2.1.used), some (lvI rv.2.1.credit), some (lvI rv.2.1.last), some ⟨4, [WiState_T1 rv.2.1 3 4 5]⟩, none, none, some (lWiUsed [(WiUse.mk (W (1 + (W a.c2))) 0 0 0)])]) tb R R R R R R R R R R R iq10 R R R R R (r_asgW R R R (eN (sw_rg (r_movW R R R (r_lenR tb R R R R R (r_sub R R R R (r_asgD R R R (ev_end (block_norm (then_norm ?_))))))))))
  refine qG (r_ldD (y := WiPlan.d t) tb R R R R R R R R R (r_movD R R R (r_movW R R R ?_)))
  obtain ⟨rv36, hrv36, h⟩ := bnd h
  refine r_callL (window_Audit_pc hrv36) R (.of (by kernel_rfl)) R R ((.cons (.d _) (.cons (.d _) (.cons (.row R R) .nil)))) R R (r_movD R R R (r_extD (t := .v (.int .i64 rv36.1)) R R R R (r_extD (t := .v (.int .i64 rv36.2)) R R R R (r_asgD R R R (r_asgD R R R (eN (qG (r_movD R R R ?_))))))))
  refine r_eql R R R R ?_ ?_
  ·intro c62
   replace h := ifP c62 h
   refine r_movD R R R (r_movD R R R ?_)
   refine r_geq R R R R ?_ ?_
   ·intro c63
    replace h := ifP c63 h
    refine r_pickT R R R R (r_movD R R R (r_movD R R R (r_movD R R R (r_movW R R R (r_lenR tb R R R R R (r_max2 R R R R ?_))))))
    refine r_leq R R R R ?_ ?_
    ·intro c64
     replace h := ifP c64 h
     refine r_pickT R R R R (r_movD R R R (r_ixA tb R R R R R (by decide) (by decide) R R (r_ldD (y := .v (.int .u8 a.c0)) tb R R R R R R R R R (r_rem R R (by decide) R R ?_))))
     refine r_lss R R R R ?_ ?_
     ·intro c65
      replace h := ifP c65 h
      refine r_movD R R R (r_skip R R R (r_skip R R R (r_skip R R R (r_pickT R R R R (r_movD R R R (r_skip R R R (r_skip R R R (r_skip R R R (r_pickT R R R R (r_pickT R R R R (r_movD R R R ?_)))))))))))
      obtain ⟨rv37, hrv37, h⟩ := bnd h
      refine r_call (l_Awake_pc hrv37) (.of (by kernel_rfl)) R R R R (r_pickT R R R R (r_asgD R R R (eN (sw_ret ?_))))
      obtain rfl := sI h
      exact fin_0 (t := .d (.v (.bool rv37))) R R R (.cons (.tmp 6) .nil)
     intro c65
     replace h := ifN (Int.not_lt.2 c65) h
     refine r_movD R R R (r_movW R R R (r_lenR tb R R R R R ?_))
     refine r_eql R R R R ?_ ?_
     ·intro c66
      replace h := ifP c66 h
      refine r_pickF R R R R (r_movD R R R (r_skip R R R (r_skip R R R (r_skip R R R (r_pickT R R R R (r_pickT R R R R (r_movD R R R ?_)))))))
      obtain ⟨rv38, hrv38, h⟩ := bnd h
      refine r_call (l_Awake_pc hrv38) (.of (by kernel_rfl)) R R R R (r_pickT R R R R (r_asgD R R R (eN (sw_ret ?_))))
      obtain rfl := sI h
      exact fin_0 (t := .d (.v (.bool rv38))) R R R (.cons (.tmp 6) .nil)
     intro c66
     replace h := ifN c66 h
     refine r_pickF R R R R (r_movD R R R (r_movD R R R (r_movD R R R ?_)))
     refine r_eql R R R R ?_ ?_
     ·intro c67
      replace h := ifP c67 h
      refine r_pickF R R R R (r_pickT R R R R (r_movD R R R ?_))
      obtain ⟨rv39, hrv39, h⟩ := bnd h
      refine r_call (l_Awake_pc hrv39) (.of (by kernel_rfl)) R R R R (r_pickT R R R R (r_asgD R R R (eN (sw_ret ?_))))
      obtain rfl := sI h
      exact fin_0 (t := .d (.v (.bool rv39))) R R R (.cons (.tmp 6) .nil)
     intro c67
     replace h := ifN c67 h
     refine r_pickF R R R R (r_pickT R R R R (r_movD R R R (r_skip R R R (r_pickF R R R R (r_asgD R R R (eN (sw_ret ?_)))))))
     obtain rfl := sI h
     exact fin_0 (t := .d (.v (.bool false))) R R R (.cons (.tmp 6) .nil)
    intro c64
    replace h := ifN (Int.not_le.2 c64) h
    refine r_pickT R R R R (r_movD R R R (r_skip R R R (r_skip R R R (r_skip R R R (r_skip R R R (r_skip R R R (r_skip R R R (r_skip R R R (r_skip R R R (r_skip R R R (r_skip R R R (r_skip R R R (r_skip R R R (r_skip R R R (r_skip R R R (r_pickF R R R R (r_movD R R R (r_skip R R R (r_pickF R R R R (r_asgD R R R (eN (sw_ret ?_))))))))))))))))))))))
    obtain rfl := sI h
    exact fin_0 (t := .d (.v (.bool false))) R R R (.cons (.tmp 6) .nil)
   intro c63
   replace h := ifN (Int.not_le.2 c63) h
   refine r_pickT R R R R (r_movD R R R (r_skip R R R (r_skip R R R (r_skip R R R (r_skip R R R (r_skip R R R (r_skip R R R (r_pickF R R R R (r_movD R R R (r_skip R R R (r_skip R R R (r_skip R R R (r_skip R R R (r_skip R R R (r_skip R R R (r_skip R R R (r_skip R R R (r_skip R R R (r_skip R R R (r_skip R R R (r_skip R R R (r_skip R R R (r_skip R R R (r_pickF R R R R (r_movD R R R (r_skip R R R ?_))))))))))))))))))))))))))
   refine r_pickF R R R R (r_asgD R R R (eN (sw_ret ?_)))
   obtain rfl := sI h
   exact fin_0 (t := .d (.v (.bool false))) R R R (.cons (.tmp 6) .nil)
  intro c62
  replace h := ifN c62 h
  refine r_movD R R R (r_skip R R R (r_skip R R R (r_pickF R R R R (r_movD R R R (r_skip R R R (r_skip R R R (r_skip R R R (r_skip R R R (r_skip R R R (r_skip R R R (r_pickF R R R R (r_movD R R R (r_skip R R R (r_skip R R R (r_skip R R R (r_skip R R R (r_skip R R R (r_skip R R R (r_skip R R R (r_skip R R R (r_skip R R R (r_skip R R R (r_skip R R R (r_skip R R R (r_skip R R R (r_skip R R R ?_))))))))))))))))))))))))))
  refine r_pickF R R R R (r_movD R R R (r_skip R R R (r_pickF R R R R (r_asgD R R R (eN (sw_ret ?_))))))
  obtain rfl := sI h
  exact fin_0 (t := .d (.v (.bool false))) R R R (.cons (.tmp 6) .nil)
 intro c61
 replace h := ifN c61 h
 refine r_movD R R R (r_ixA tb R R R R R (by decide) (by decide) R R (r_ldD (y := .v (.int .u8 a.c0)) tb R R R R R R R R R (r_rem R R (by decide) R R ?_)))
 refine r_eql R R R R ?_ ?_
 ·intro c68
  replace h := ifP c68 h
  refine r_pickF R R R R (r_asgD R R R (eN (sw_condT R (qG (r_movW R R R (r_movD R R R (r_build (v := .d (.agg [.v (.int .i64 (W (1 + (W a.c2)))), .v (.int .i64 0), .v (.int .i64 0), .v (.int .i64 0)])) tb R R (List.cons_ne_nil _ _) R R R R R R (r_bslice tb R R R R R R R R R R R R R ?_))))))))
  obtain ⟨q11, iq11, h⟩ := bnd h
  refine r_apM (g := WiUse.d) (w := q) (v := [(WiUse.mk (W (1 + (W a.c2))) 0 0 0)]) ([some ⟨4, [.d (WiPlan.d t)]⟩, some ⟨3, [.d (Arr3Int.d a)]⟩, some (lWiUsed rv.1), some (lvI rv.2.1.used), some (lvI rv.2.1.credit), some (lvI rv.2.1.last), some ⟨4, [WiState_T1 rv.2.1 3 4 5]⟩, none, none, some (lWiUsed [(WiUse.mk (W (1 + (W a.c2))) 0 0 0)])]) tb R R R R R R R R R R R iq11 R R R R R (r_asgW R R R (eN (sw_rg (r_movW R R R (r_lenR tb R R R R R (r_sub R R R R (r_asgD R R R (ev_end (block_norm (then_norm ?_))))))))))
  refine qG (r_ldD (y := WiPlan.d t) tb R R R R R R R R R (r_movD R R R (r_movW R R R ?_)))
  obtain ⟨rv40, hrv40, h⟩ := bnd h
  refine r_callL (window_Audit_pc hrv40) R (.of (by kernel_rfl)) R R ((.cons (.d _) (.cons (.d _) (.cons (.row R R) .nil)))) R R (r_movD R R R (r_extD (t := .v (.int .i64 rv40.1)) R R R R (r_extD (t := .v (.int .i64 rv40.2)) R R R R (r_asgD R R R (r_asgD R R R (eN (qG (r_movD R R R ?_))))))))
  refine r_eql R R R R ?_ ?_
  ·intro c69
   replace h := ifP c69 h
   refine r_movD R R R (r_movD R R R ?_)
   refine r_geq R R R R ?_ ?_
   ·intro c70
    replace h := ifP c70 h
    refine r_pickT R R R R (r_movD R R R (r_movD R R R (r_movD R R R (r_movW R R R (r_lenR tb R R R R R (r_max2 R R R R ?_))))))
    refine r_leq R R R R ?_ ?_
    ·intro c71
     replace h := ifP c71 h
     refine r_pickT R R R R (r_movD R R R (r_ixA tb R R R R R (by decide) (by decide) R R (r_ldD (y := .v (.int .u8 a.c0)) tb R R R R R R R R R (r_rem R R (by decide) R R ?_))))
     refine r_lss R R R R ?_ ?_
     ·intro c72
      replace h := ifP c72 h
      refine r_movD R R R (r_skip R R R (r_skip R R R (r_skip R R R (r_pickT R R R R (r_movD R R R (r_skip R R R (r_skip R R R (r_skip R R R (r_pickT R R R R (r_pickT R R R R (r_movD R R R ?_)))))))))))
      obtain ⟨rv41, hrv41, h⟩ := bnd h
      refine r_call (l_Awake_pc hrv41) (.of (by kernel_rfl)) R R R R (r_pickT R R R R (r_asgD R R R (eN (sw_ret ?_))))
      obtain rfl := sI h
      exact fin_0 (t := .d (.v (.bool rv41))) R R R (.cons (.tmp 6) .nil)
     intro c72
     replace h := ifN (Int.not_lt.2 c72) h
     refine r_movD R R R (r_movW R R R (r_lenR tb R R R R R ?_))
     refine r_eql R R R R ?_ ?_
     ·intro c73
      replace h := ifP c73 h
      refine r_pickF R R R R (r_movD R R R (r_skip R R R (r_skip R R R (r_skip R R R (r_pickT R R R R (r_pickT R R R R (r_movD R R R ?_)))))))
      obtain ⟨rv42, hrv42, h⟩ := bnd h
      refine r_call (l_Awake_pc hrv42) (.of (by kernel_rfl)) R R R R (r_pickT R R R R (r_asgD R R R (eN (sw_ret ?_))))
      obtain rfl := sI h
      exact fin_0 (t := .d (.v (.bool rv42))) R R R (.cons (.tmp 6) .nil)
     intro c73
     replace h := ifN c73 h
     refine r_pickF R R R R (r_movD R R R (r_movD R R R (r_movD R R R ?_)))
     refine r_eql R R R R ?_ ?_
     ·intro c74
      replace h := ifP c74 h
      refine r_pickF R R R R (r_pickT R R R R (r_movD R R R ?_))
      obtain ⟨rv43, hrv43, h⟩ := bnd h
      refine r_call (l_Awake_pc hrv43) (.of (by kernel_rfl)) R R R R (r_pickT R R R R (r_asgD R R R (eN (sw_ret ?_))))
      obtain rfl := sI h
      exact fin_0 (t := .d (.v (.bool rv43))) R R R (.cons (.tmp 6) .nil)
     intro c74
     replace h := ifN c74 h
     refine r_pickF R R R R (r_pickT R R R R (r_movD R R R (r_skip R R R (r_pickF R R R R (r_asgD R R R (eN (sw_ret ?_)))))))
     obtain rfl := sI h
     exact fin_0 (t := .d (.v (.bool false))) R R R (.cons (.tmp 6) .nil)
    intro c71
    replace h := ifN (Int.not_le.2 c71) h
    refine r_pickT R R R R (r_movD R R R (r_skip R R R (r_skip R R R (r_skip R R R (r_skip R R R (r_skip R R R (r_skip R R R (r_skip R R R (r_skip R R R (r_skip R R R (r_skip R R R (r_skip R R R (r_skip R R R (r_skip R R R (r_skip R R R (r_pickF R R R R (r_movD R R R (r_skip R R R (r_pickF R R R R (r_asgD R R R (eN (sw_ret ?_))))))))))))))))))))))
    obtain rfl := sI h
    exact fin_0 (t := .d (.v (.bool false))) R R R (.cons (.tmp 6) .nil)
   intro c70
   replace h := ifN (Int.not_le.2 c70) h
   refine r_pickT R R R R (r_movD R R R (r_skip R R R (r_skip R R R (r_skip R R R (r_skip R R R (r_skip R R R (r_skip R R R (r_pickF R R R R (r_movD R R R (r_skip R R R (r_skip R R R (r_skip R R R (r_skip R R R (r_skip R R R (r_skip R R R (r_skip R R R (r_skip R R R (r_skip R R R (r_skip R R R (r_skip R R R (r_skip R R R (r_skip R R R (r_skip R R R (r_pickF R R R R (r_movD R R R (r_skip R R R ?_))))))))))))))))))))))))))
   refine r_pickF R R R R (r_asgD R R R (eN (sw_ret ?_)))
   obtain rfl := sI h
   exact fin_0 (t := .d (.v (.bool false))) R R R (.cons (.tmp 6) .nil)
  intro c69
  replace h := ifN c69 h
  refine r_movD R R R (r_skip R R R (r_skip R R R (r_pickF R R R R (r_movD R R R (r_skip R R R (r_skip R R R (r_skip R R R (r_skip R R R (r_skip R R R (r_skip R R R (r_pickF R R R R (r_movD R R R (r_skip R R R (r_skip R R R (r_skip R R R (r_skip R R R (r_skip R R R (r_skip R R R (r_skip R R R (r_skip R R R (r_skip R R R (r_skip R R R (r_skip R R R (r_skip R R R (r_skip R R R (r_skip R R R ?_))))))))))))))))))))))))))
  refine r_pickF R R R R (r_movD R R R (r_skip R R R (r_pickF R R R R (r_asgD R R R (eN (sw_ret ?_))))))
  obtain rfl := sI h
  exact fin_0 (t := .d (.v (.bool false))) R R R (.cons (.tmp 6) .nil)
 intro c68
 replace h := ifN c68 h
 refine r_pickF R R R R (r_asgD R R R (eN (sw_condF R (qG (r_ixA tb R R R R R (by decide) (by decide) R R (r_ldD (y := .v (.int .u8 a.c0)) tb R R R R R R R R R (r_rem R R (by decide) R R ?_)))))))
 refine r_eql R R R R ?_ ?_
 ·intro c75
  replace h := ifP c75 h
  refine r_asgD R R R (eN (sw_condT R (sw_dr (by kernel_rfl) (r_movW R R R (r_movD R R R ?_)))))
  obtain ⟨p3, ip3, h⟩ := bnd h
  refine r_slRowHi tb R R R R R R ((natO_eq ip3).1) ((natO_eq ip3).2) R R ?_
  refine r_movW R R R (r_movD R R R (r_add R R R R ?_))
  obtain ⟨p4, ip4, h⟩ := bnd h
  by_cases c76 : q.length = p4
  ·replace h := ifP c76 h
   refine r_slRowLoE tb R R R R R R ((natO_eq ip4).1) c76 R R ?_
   obtain ⟨q12, iq12, h⟩ := bnd h
   refine r_apTE (g := WiUse.d) (w := q) (v := ([] : List WiUse)) ([some ⟨4, [.d (WiPlan.d t)]⟩, some ⟨3, [.d (Arr3Int.d a)]⟩, some (lWiUsed rv.1), some (lvI rv.2.1.used), some (lvI rv.2.1.credit), some (lvI rv.2.1.last), some ⟨4, [WiState_T1 rv.2.1 3 4 5]⟩, none, none]) tb R R R R R R R ((natO_eq ip3).2) (fun _ => rfl) iq12 R R R R R ?_
   refine r_asgW R R R (ev_endD (by kernel_rfl) (block_norm (then_norm (qG (r_ldD (y := WiPlan.d t) tb R R R R R R R R R (r_movD R R R (r_movW R R R ?_)))))))
   obtain ⟨rv44, hrv44, h⟩ := bnd h
   refine r_callL (window_Audit_pc hrv44) R (.of (by kernel_rfl)) R R ((.cons (.d _) (.cons (.d _) (.cons (.row R R) .nil)))) R R (r_movD R R R (r_extD (t := .v (.int .i64 rv44.1)) R R R R (r_extD (t := .v (.int .i64 rv44.2)) R R R R (r_asgD R R R (r_asgD R R R (eN (qG (r_movD R R R ?_))))))))
   refine r_eql R R R R ?_ ?_
   ·intro c77
    replace h := ifP c77 h
    refine r_movD R R R (r_movD R R R ?_)
    refine r_geq R R R R ?_ ?_
    ·intro c78
     replace h := ifP c78 h
     refine r_pickT R R R R (r_movD R R R (r_movD R R R (r_movD R R R (r_movW R R R (r_lenR tb R R R R R (r_max2 R R R R ?_))))))
     refine r_leq R R R R ?_ ?_
     ·intro c79
      replace h := ifP c79 h
      refine r_pickT R R R R (r_movD R R R (r_ixA tb R R R R R (by decide) (by decide) R R (r_ldD (y := .v (.int .u8 a.c0)) tb R R R R R R R R R (r_rem R R (by decide) R R ?_))))
      refine r_lss R R R R ?_ ?_
      ·intro c80
       replace h := ifP c80 h
       refine r_movD R R R (r_skip R R R (r_skip R R R (r_skip R R R (r_pickT R R R R (r_movD R R R (r_skip R R R (r_skip R R R (r_skip R R R (r_pickT R R R R (r_pickT R R R R (r_movD R R R ?_)))))))))))
       obtain ⟨rv45, hrv45, h⟩ := bnd h
       refine r_call (l_Awake_pc hrv45) (.of (by kernel_rfl)) R R R R (r_pickT R R R R (r_asgD R R R (eN (sw_ret ?_))))
       obtain rfl := sI h
       exact fin_0 (t := .d (.v (.bool rv45))) R R R (.cons (.tmp 6) .nil)
      intro c80
      replace h := ifN (Int.not_lt.2 c80) h
      refine r_movD R R R (r_movW R R R (r_lenR tb R R R R R ?_))
      refine r_eql R R R R ?_ ?_
      ·intro c81
       replace h := ifP c81 h
       refine r_pickF R R R R (r_movD R R R (r_skip R R R (r_skip R R R (r_skip R R R (r_pickT R R R R (r_pickT R R R R (r_movD R R R ?_)))))))
       obtain ⟨rv46, hrv46, h⟩ := bnd h
       refine r_call (l_Awake_pc hrv46) (.of (by kernel_rfl)) R R R R (r_pickT R R R R (r_asgD R R R (eN (sw_ret ?_))))
       obtain rfl := sI h
       exact fin_0 (t := .d (.v (.bool rv46))) R R R (.cons (.tmp 6) .nil)
      intro c81
      replace h := ifN c81 h
      refine r_pickF R R R R (r_movD R R R (r_movD R R R (r_movD R R R ?_)))
      refine r_eql R R R R ?_ ?_
      ·intro c82
       replace h := ifP c82 h
       refine r_pickF R R R R (r_pickT R R R R (r_movD R R R ?_))
       obtain ⟨rv47, hrv47, h⟩ := bnd h
       refine r_call (l_Awake_pc hrv47) (.of (by kernel_rfl)) R R R R (r_pickT R R R R (r_asgD R R R (eN (sw_ret ?_))))
       obtain rfl := sI h
       exact fin_0 (t := .d (.v (.bool rv47))) R R R (.cons (.tmp 6) .nil)
      intro c82
      replace h := ifN c82 h
      refine r_pickF R R R R (r_pickT R R R R (r_movD R R R (r_skip R R R (r_pickF R R R R (r_asgD R R R (eN (sw_ret ?_)))))))
      obtain rfl := sI h
      exact fin_0 (t := .d (.v (.bool false))) R R R (.cons (.tmp 6) .nil)
     intro c79
     replace h := ifN (Int.not_le.2 c79) h
     refine r_pickT R R R R (r_movD R R R (r_skip R R R (r_skip R R R (r_skip R R R (r_skip R R R (r_skip R R R (r_skip R R R (r_skip R R R (r_skip R R R (r_skip R R R (r_skip R R R (r_skip R R R (r_skip R R R (r_skip R R R (r_skip R R R (r_pickF R R R R (r_movD R R R (r_skip R R R (r_pickF R R R R (r_asgD R R R (eN (sw_ret ?_))))))))))))))))))))))
     obtain rfl := sI h
     exact fin_0 (t := .d (.v (.bool false))) R R R (.cons (.tmp 6) .nil)
    intro c78
    replace h := ifN (Int.not_le.2 c78) h
    refine r_pickT R R R R (r_movD R R R (r_skip R R R (r_skip R R R (r_skip R R R (r_skip R R R (r_skip R R R (r_skip R R R (r_pickF R R R R (r_movD R R R (r_skip R R R (r_skip R R R (r_skip R R R (r_skip R R R (r_skip R R R (r_skip R R R (r_skip R R R (r_skip R R R (r_skip R R R (r_skip R R R (r_skip R R R (r_skip R R R (r_skip R R R (r_skip R R R (r_pickF R R R R (r_movD R R R ?_)))))))))))))))))))))))))
    refine r_skip R R R (r_pickF R R R R (r_asgD R R R (eN (sw_ret ?_))))
    obtain rfl := sI h
    exact fin_0 (t := .d (.v (.bool false))) R R R (.cons (.tmp 6) .nil)
   intro c77
   replace h := ifN c77 h
   refine r_movD R R R (r_skip R R R (r_skip R R R (r_pickF R R R R (r_movD R R R (r_skip R R R (r_skip R R R (r_skip R R R (r_skip R R R (r_skip R R R (r_skip R R R (r_pickF R R R R (r_movD R R R (r_skip R R R (r_skip R R R (r_skip R R R (r_skip R R R (r_skip R R R (r_skip R R R (r_skip R R R (r_skip R R R (r_skip R R R (r_skip R R R (r_skip R R R (r_skip R R R (r_skip R R R (r_skip R R R ?_))))))))))))))))))))))))))
   refine r_pickF R R R R (r_movD R R R (r_skip R R R (r_pickF R R R R (r_asgD R R R (eN (sw_ret ?_))))))
   obtain rfl := sI h
   exact fin_0 (t := .d (.v (.bool false))) R R R (.cons (.tmp 6) .nil)
  replace h := ifN c76 h
  refine r_slRowLo tb R R R R R R ((natO_eq ip4).1) (by have := (natO_eq ip4).2; omega) R R ?_
  obtain ⟨q13, iq13, h⟩ := bnd h
  refine r_apT (g := WiUse.d) (w := q) ([some ⟨4, [.d (WiPlan.d t)]⟩, some ⟨3, [.d (Arr3Int.d a)]⟩, some (lWiUsed rv.1), some (lvI rv.2.1.used), some (lvI rv.2.1.credit), some (lvI rv.2.1.last), some ⟨4, [WiState_T1 rv.2.1 3 4 5]⟩, none, none]) tb R R R R R R R ((natO_eq ip3).2) ((natO_eq ip4).2) R (fun _ => rfl) iq13 R R R R R ?_
  refine r_asgW R R R (ev_endD (by kernel_rfl) (block_norm (then_norm (qG (r_ldD (y := WiPlan.d t) tb R R R R R R R R R (r_movD R R R (r_movW R R R ?_)))))))
  obtain ⟨rv48, hrv48, h⟩ := bnd h
  refine r_callL (window_Audit_pc hrv48) R (.of (by kernel_rfl)) R R ((.cons (.d _) (.cons (.d _) (.cons (.row R R) .nil)))) R R (r_movD R R R (r_extD (t := .v (.int .i64 rv48.1)) R R R R (r_extD (t := .v (.int .i64 rv48.2)) R R R R (r_asgD R R R (r_asgD R R R (eN (qG (r_movD R R R ?_))))))))
  refine r_eql R R R R ?_ ?_
  ·intro c83
   replace h := ifP c83 h
   refine r_movD R R R (r_movD R R R ?_)
   refine r_geq R R R R ?_ ?_
   ·intro c84
    replace h := ifP c84 h
    refine r_pickT R R R R (r_movD R R R (r_movD R R R (r_movD R R R (r_movW R R R (r_lenR tb R R R R R (r_max2 R R R R ?_))))))
    refine r_leq R R R R ?_ ?_
    ·intro c85
     replace h := ifP c85 h
     refine r_pickT R R R R (r_movD R R R (r_ixA tb R R R R R (by decide) (by decide) R R (r_ldD (y := .v (.int .u8 a.c0)) tb R R R R R R R R R (r_rem R R (by decide) R R ?_))))
     refine r_lss R R R R ?_ ?_
     ·intro c86
      replace h := ifP c86 h
      refine r_movD R R R (r_skip R R R (r_skip R R R (r_skip R R R (r_pickT R R R R (r_movD R R R (r_skip R R R (r_skip R R R (r_skip R R R (r_pickT R R R R (r_pickT R R R R (r_movD R R R ?_)))))))))))
      obtain ⟨rv49, hrv49, h⟩ := bnd h
      refine r_call (l_Awake_pc hrv49) (.of (by kernel_rfl)) R R R R (r_pickT R R R R (r_asgD R R R (eN (sw_ret ?_))))
      obtain rfl := sI h
      exact fin_0 (t := .d (.v (.bool rv49))) R R R (.cons (.tmp 6) .nil)
     intro c86
     replace h := ifN (Int.not_lt.2 c86) h
     refine r_movD R R R (r_movW R R R (r_lenR tb R R R R R ?_))
     refine r_eql R R R R ?_ ?_
     ·intro c87
      replace h := ifP c87 h
      refine r_pickF R R R R (r_movD R R R (r_skip R R R (r_skip R R R (r_skip R R R (r_pickT R R R R (r_pickT R R R R (r_movD R R R ?_)))))))
      obtain ⟨rv50, hrv50, h⟩ := bnd h
      refine r_call (l_Awake_pc hrv50) (.of (by kernel_rfl)) R R R R (r_pickT R R R R (r_asgD R R R (eN (sw_ret ?_))))
      obtain rfl := sI h
      exact fin_0 (t := .d (.v (.bool rv50))) R R R (.cons (.tmp 6) .nil)
     intro c87
     replace h := ifN c87 h
     refine r_pickF R R R R (r_movD R R R (r_movD R R R (r_movD R R R ?_)))
     refine r_eql R R R R ?_ ?_
     ·intro c88
      replace h := ifP c88 h
      refine r_pickF R R R R (r_pickT R R R R (r_movD R R R ?_))
      obtain ⟨rv51, hrv51, h⟩ := bnd h
      refine r_call (l_Awake_pc hrv51) (.of (by kernel_rfl)) R R R R (r_pickT R R R R (r_asgD R R R (eN (sw_ret ?_))))
      obtain rfl := sI h
      exact fin_0 (t := .d (.v (.bool rv51))) R R R (.cons (.tmp 6) .nil)
     intro c88
     replace h := ifN c88 h
     refine r_pickF R R R R (r_pickT R R R R (r_movD R R R (r_skip R R R (r_pickF R R R R (r_asgD R R R (eN (sw_ret ?_)))))))
     obtain rfl := sI h
     exact fin_0 (t := .d (.v (.bool false))) R R R (.cons (.tmp 6) .nil)
    intro c85
    replace h := ifN (Int.not_le.2 c85) h
    refine r_pickT R R R R (r_movD R R R (r_skip R R R (r_skip R R R (r_skip R R R (r_skip R R R (r_skip R R R (r_skip R R R (r_skip R R R (r_skip R R R (r_skip R R R (r_skip R R R (r_skip R R R (r_skip R R R (r_skip R R R (r_skip R R R (r_pickF R R R R (r_movD R R R (r_skip R R R (r_pickF R R R R (r_asgD R R R (eN (sw_ret ?_))))))))))))))))))))))
    obtain rfl := sI h
    exact fin_0 (t := .d (.v (.bool false))) R R R (.cons (.tmp 6) .nil)
   intro c84
   replace h := ifN (Int.not_le.2 c84) h
   refine r_pickT R R R R (r_movD R R R (r_skip R R R (r_skip R R R (r_skip R R R (r_skip R R R (r_skip R R R (r_skip R R R (r_pickF R R R R (r_movD R R R (r_skip R R R (r_skip R R R (r_skip R R R (r_skip R R R (r_skip R R R (r_skip R R R (r_skip R R R (r_skip R R R (r_skip R R R (r_skip R R R (r_skip R R R (r_skip R R R (r_skip R R R (r_skip R R R (r_pickF R R R R (r_movD R R R (r_skip R R R ?_))))))))))))))))))))))))))
   refine r_pickF R R R R (r_asgD R R R (eN (sw_ret ?_)))
   obtain rfl := sI h
   exact fin_0 (t := .d (.v (.bool false))) R R R (.cons (.tmp 6) .nil)
  intro c83
  replace h := ifN c83 h
  refine r_movD R R R (r_skip R R R (r_skip R R R (r_pickF R R R R (r_movD R R R (r_skip R R R (r_skip R R R (r_skip R R R (r_skip R R R (r_skip R R R (r_skip R R R (r_pickF R R R R (r_movD R R R (r_skip R R R (r_skip R R R (r_skip R R R (r_skip R R R (r_skip R R R (r_skip R R R (r_skip R R R (r_skip R R R (r_skip R R R (r_skip R R R (r_skip R R R (r_skip R R R (r_skip R R R (r_skip R R R ?_))))))))))))))))))))))))))
  refine r_pickF R R R R (r_movD R R R (r_skip R R R (r_pickF R R R R (r_asgD R R R (eN (sw_ret ?_))))))
  obtain rfl := sI h
  exact fin_0 (t := .d (.v (.bool false))) R R R (.cons (.tmp 6) .nil)
 intro c75
 replace h := ifN c75 h
 refine r_asgD R R R (eN (sw_condF R (qG (r_ixA tb R R R R R (by decide) (by decide) R R (r_ldD (y := .v (.int .u8 a.c0)) tb R R R R R R R R R (r_rem R R (by decide) R R ?_))))))
 refine r_eql R R R R ?_ ?_
 ·intro c89
  replace h := ifP c89 h
  refine r_asgD R R R (eN (sw_condT R (sw_rg (r_movW R R R (r_movD R R R (r_movW R R R (r_movD R R R ?_)))))))
  obtain ⟨e5, ie5, h⟩ := bnd h
  refine r_ixI tb R R R R R R (ix0 ie5) (ix1 ie5) R R (r_fa tb R R R R R R R ?_)
  refine r_ldD (y := .v (.int .i64 e5.window)) tb R R R R (ix2 (g := fun a => T.d (WiUse.d a)) ie5) R R R R ?_
  refine r_movD R R R (r_add R R R R (r_ixI tb R R R R R R (ix0 ie5) (ix1 ie5) R R (r_fa tb R R R R R R R ?_)))
  obtain ⟨q14, iq14, h⟩ := bnd h
  refine r_stQ (a' := ({e5 with window := (W (e5.window + (W (1 + (W a.c2)))))} : WiUse)) tb R R R R ie5 R R R R iq14 R R ?_
  dsimp only [List.set_cons_zero, List.set_cons_succ, WiState_T1, WiState_T2, WiState_T3, Table_T1, Desk_T1, Desk_T2, Desk_T3, Desk_T4, Desk_T5]
  first | rw [set_len iq14] | skip
  refine ev_end (block_norm (then_norm (qG (r_ldD (y := WiPlan.d t) tb R R R R R R R R R (r_movD R R R (r_movW R R R ?_))))))
  obtain ⟨rv52, hrv52, h⟩ := bnd h
  refine r_callL (window_Audit_pc hrv52) R (.of (by kernel_rfl)) R R ((.cons (.d _) (.cons (.d _) (.cons (.row R R) .nil)))) R R (r_movD R R R (r_extD (t := .v (.int .i64 rv52.1)) R R R R (r_extD (t := .v (.int .i64 rv52.2)) R R R R (r_asgD R R R (r_asgD R R R (eN (qG (r_movD R R R ?_))))))))
  refine r_eql R R R R ?_ ?_
  ·intro c90
   replace h := ifP c90 h
   refine r_movD R R R (r_movD R R R ?_)
   refine r_geq R R R R ?_ ?_
   ·intro c91
    replace h := ifP c91 h
    refine r_pickT R R R R (r_movD R R R (r_movD R R R (r_movD R R R (r_movW R R R (r_lenR tb R R R R R (r_max2 R R R R ?_))))))
    refine r_leq R R R R ?_ ?_
    ·intro c92
     replace h := ifP c92 h
     refine r_pickT R R R R (r_movD R R R (r_ixA tb R R R R R (by decide) (by decide) R R (r_ldD (y := .v (.int .u8 a.c0)) tb R R R R R R R R R (r_rem R R (by decide) R R ?_))))
     refine r_lss R R R R ?_ ?_
     ·intro c93
      replace h := ifP c93 h
      refine r_movD R R R (r_skip R R R (r_skip R R R (r_skip R R R (r_pickT R R R R (r_movD R R R (r_skip R R R (r_skip R R R (r_skip R R R (r_pickT R R R R (r_pickT R R R R (r_movD R R R ?_)))))))))))
      obtain ⟨rv53, hrv53, h⟩ := bnd h
      refine r_call (l_Awake_pc hrv53) (.of (by kernel_rfl)) R R R R (r_pickT R R R R (r_asgD R R R (eN (sw_ret ?_))))
      obtain rfl := sI h
      exact fin_0 (t := .d (.v (.bool rv53))) R R R (.cons (.tmp 6) .nil)
     intro c93
     replace h := ifN (Int.not_lt.2 c93) h
     refine r_movD R R R (r_movW R R R (r_lenR tb R R R R R ?_))
     refine r_eql R R R R ?_ ?_
     ·intro c94
      replace h := ifP c94 h
      refine r_pickF R R R R (r_movD R R R (r_skip R R R (r_skip R R R (r_skip R R R (r_pickT R R R R (r_pickT R R R R (r_movD R R R ?_)))))))
      obtain ⟨rv54, hrv54, h⟩ := bnd h
      refine r_call (l_Awake_pc hrv54) (.of (by kernel_rfl)) R R R R (r_pickT R R R R (r_asgD R R R (eN (sw_ret ?_))))
      obtain rfl := sI h
      exact fin_0 (t := .d (.v (.bool rv54))) R R R (.cons (.tmp 6) .nil)
     intro c94
     replace h := ifN c94 h
     refine r_pickF R R R R (r_movD R R R (r_movD R R R (r_movD R R R ?_)))
     refine r_eql R R R R ?_ ?_
     ·intro c95
      replace h := ifP c95 h
      refine r_pickF R R R R (r_pickT R R R R (r_movD R R R ?_))
      obtain ⟨rv55, hrv55, h⟩ := bnd h
      refine r_call (l_Awake_pc hrv55) (.of (by kernel_rfl)) R R R R (r_pickT R R R R (r_asgD R R R (eN (sw_ret ?_))))
      obtain rfl := sI h
      exact fin_0 (t := .d (.v (.bool rv55))) R R R (.cons (.tmp 6) .nil)
     intro c95
     replace h := ifN c95 h
     refine r_pickF R R R R (r_pickT R R R R (r_movD R R R (r_skip R R R (r_pickF R R R R (r_asgD R R R (eN (sw_ret ?_)))))))
     obtain rfl := sI h
     exact fin_0 (t := .d (.v (.bool false))) R R R (.cons (.tmp 6) .nil)
    intro c92
    replace h := ifN (Int.not_le.2 c92) h
    refine r_pickT R R R R (r_movD R R R (r_skip R R R (r_skip R R R (r_skip R R R (r_skip R R R (r_skip R R R (r_skip R R R (r_skip R R R (r_skip R R R (r_skip R R R (r_skip R R R (r_skip R R R (r_skip R R R (r_skip R R R (r_skip R R R (r_pickF R R R R (r_movD R R R (r_skip R R R (r_pickF R R R R (r_asgD R R R (eN (sw_ret ?_))))))))))))))))))))))
    obtain rfl := sI h
    exact fin_0 (t := .d (.v (.bool false))) R R R (.cons (.tmp 6) .nil)
   intro c91
   replace h := ifN (Int.not_le.2 c91) h
   refine r_pickT R R R R (r_movD R R R (r_skip R R R (r_skip R R R (r_skip R R R (r_skip R R R (r_skip R R R (r_skip R R R (r_pickF R R R R (r_movD R R R (r_skip R R R (r_skip R R R (r_skip R R R (r_skip R R R (r_skip R R R (r_skip R R R (r_skip R R R (r_skip R R R (r_skip R R R (r_skip R R R (r_skip R R R (r_skip R R R (r_skip R R R (r_skip R R R (r_pickF R R R R (r_movD R R R (r_skip R R R ?_))))))))))))))))))))))))))
   refine r_pickF R R R R (r_asgD R R R (eN (sw_ret ?_)))
   obtain rfl := sI h
   exact fin_0 (t := .d (.v (.bool false))) R R R (.cons (.tmp 6) .nil)
  intro c90
  replace h := ifN c90 h
  refine r_movD R R R (r_skip R R R (r_skip R R R (r_pickF R R R R (r_movD R R R (r_skip R R R (r_skip R R R (r_skip R R R (r_skip R R R (r_skip R R R (r_skip R R R (r_pickF R R R R (r_movD R R R (r_skip R R R (r_skip R R R (r_skip R R R (r_skip R R R (r_skip R R R (r_skip R R R (r_skip R R R (r_skip R R R (r_skip R R R (r_skip R R R (r_skip R R R (r_skip R R R (r_skip R R R (r_skip R R R ?_))))))))))))))))))))))))))
  refine r_pickF R R R R (r_movD R R R (r_skip R R R (r_pickF R R R R (r_asgD R R R (eN (sw_ret ?_))))))
  obtain rfl := sI h
  exact fin_0 (t := .d (.v (.bool false))) R R R (.cons (.tmp 6) .nil)
 intro c89
 replace h := ifN c89 h
 refine r_asgD R R R (eN (sw_condF R (qG (r_ixA tb R R R R R (by decide) (by decide) R R (r_ldD (y := .v (.int .u8 a.c0)) tb R R R R R R R R R (r_rem R R (by decide) R R ?_))))))
 refine r_eql R R R R ?_ ?_
 ·intro c96
  replace h := ifP c96 h
  refine r_asgD R R R (eN (sw_condT R (sw_rg (r_movW R R R (r_movD R R R (r_movW R R R (r_movD R R R ?_)))))))
  obtain ⟨e6, ie6, h⟩ := bnd h
  refine r_ixI tb R R R R R R (ix0 ie6) (ix1 ie6) R R (r_fa tb R R R R R R R ?_)
  refine r_ldD (y := .v (.int .i64 e6.team)) tb R R R R (ix2 (g := fun a => T.d (WiUse.d a)) ie6) R R R R ?_
  refine r_movD R R R (r_add R R R R (r_ixI tb R R R R R R (ix0 ie6) (ix1 ie6) R R (r_fa tb R R R R R R R ?_)))
  obtain ⟨q15, iq15, h⟩ := bnd h
  refine r_stQ (a' := ({e6 with team := (W (e6.team + (W (1 + (W a.c2)))))} : WiUse)) tb R R R R ie6 R R R R iq15 R R ?_
  dsimp only [List.set_cons_zero, List.set_cons_succ, WiState_T1, WiState_T2, WiState_T3, Table_T1, Desk_T1, Desk_T2, Desk_T3, Desk_T4, Desk_T5]
  first | rw [set_len iq15] | skip
  refine ev_end (block_norm (then_norm (qG (r_ldD (y := WiPlan.d t) tb R R R R R R R R R (r_movD R R R (r_movW R R R ?_))))))
  obtain ⟨rv56, hrv56, h⟩ := bnd h
  refine r_callL (window_Audit_pc hrv56) R (.of (by kernel_rfl)) R R ((.cons (.d _) (.cons (.d _) (.cons (.row R R) .nil)))) R R (r_movD R R R (r_extD (t := .v (.int .i64 rv56.1)) R R R R (r_extD (t := .v (.int .i64 rv56.2)) R R R R (r_asgD R R R (r_asgD R R R (eN (qG (r_movD R R R ?_))))))))
  refine r_eql R R R R ?_ ?_
  ·intro c97
   replace h := ifP c97 h
   refine r_movD R R R (r_movD R R R ?_)
   refine r_geq R R R R ?_ ?_
   ·intro c98
    replace h := ifP c98 h
    refine r_pickT R R R R (r_movD R R R (r_movD R R R (r_movD R R R (r_movW R R R (r_lenR tb R R R R R (r_max2 R R R R ?_))))))
    refine r_leq R R R R ?_ ?_
    ·intro c99
     replace h := ifP c99 h
     refine r_pickT R R R R (r_movD R R R (r_ixA tb R R R R R (by decide) (by decide) R R (r_ldD (y := .v (.int .u8 a.c0)) tb R R R R R R R R R (r_rem R R (by decide) R R ?_))))
     refine r_lss R R R R ?_ ?_
     ·intro c100
      replace h := ifP c100 h
      refine r_movD R R R (r_skip R R R (r_skip R R R (r_skip R R R (r_pickT R R R R (r_movD R R R (r_skip R R R (r_skip R R R (r_skip R R R (r_pickT R R R R (r_pickT R R R R (r_movD R R R ?_)))))))))))
      obtain ⟨rv57, hrv57, h⟩ := bnd h
      refine r_call (l_Awake_pc hrv57) (.of (by kernel_rfl)) R R R R (r_pickT R R R R (r_asgD R R R (eN (sw_ret ?_))))
      obtain rfl := sI h
      exact fin_0 (t := .d (.v (.bool rv57))) R R R (.cons (.tmp 6) .nil)
     intro c100
     replace h := ifN (Int.not_lt.2 c100) h
     refine r_movD R R R (r_movW R R R (r_lenR tb R R R R R ?_))
     refine r_eql R R R R ?_ ?_
     ·intro c101
      replace h := ifP c101 h
      refine r_pickF R R R R (r_movD R R R (r_skip R R R (r_skip R R R (r_skip R R R (r_pickT R R R R (r_pickT R R R R (r_movD R R R ?_)))))))
      obtain ⟨rv58, hrv58, h⟩ := bnd h
      refine r_call (l_Awake_pc hrv58) (.of (by kernel_rfl)) R R R R (r_pickT R R R R (r_asgD R R R (eN (sw_ret ?_))))
      obtain rfl := sI h
      exact fin_0 (t := .d (.v (.bool rv58))) R R R (.cons (.tmp 6) .nil)
     intro c101
     replace h := ifN c101 h
     refine r_pickF R R R R (r_movD R R R (r_movD R R R (r_movD R R R ?_)))
     refine r_eql R R R R ?_ ?_
     ·intro c102
      replace h := ifP c102 h
      refine r_pickF R R R R (r_pickT R R R R (r_movD R R R ?_))
      obtain ⟨rv59, hrv59, h⟩ := bnd h
      refine r_call (l_Awake_pc hrv59) (.of (by kernel_rfl)) R R R R (r_pickT R R R R (r_asgD R R R (eN (sw_ret ?_))))
      obtain rfl := sI h
      exact fin_0 (t := .d (.v (.bool rv59))) R R R (.cons (.tmp 6) .nil)
     intro c102
     replace h := ifN c102 h
     refine r_pickF R R R R (r_pickT R R R R (r_movD R R R (r_skip R R R (r_pickF R R R R (r_asgD R R R (eN (sw_ret ?_)))))))
     obtain rfl := sI h
     exact fin_0 (t := .d (.v (.bool false))) R R R (.cons (.tmp 6) .nil)
    intro c99
    replace h := ifN (Int.not_le.2 c99) h
    refine r_pickT R R R R (r_movD R R R (r_skip R R R (r_skip R R R (r_skip R R R (r_skip R R R (r_skip R R R (r_skip R R R (r_skip R R R (r_skip R R R (r_skip R R R (r_skip R R R (r_skip R R R (r_skip R R R (r_skip R R R (r_skip R R R (r_pickF R R R R (r_movD R R R (r_skip R R R (r_pickF R R R R (r_asgD R R R (eN (sw_ret ?_))))))))))))))))))))))
    obtain rfl := sI h
    exact fin_0 (t := .d (.v (.bool false))) R R R (.cons (.tmp 6) .nil)
   intro c98
   replace h := ifN (Int.not_le.2 c98) h
   refine r_pickT R R R R (r_movD R R R (r_skip R R R (r_skip R R R (r_skip R R R (r_skip R R R (r_skip R R R (r_skip R R R (r_pickF R R R R (r_movD R R R (r_skip R R R (r_skip R R R (r_skip R R R (r_skip R R R (r_skip R R R (r_skip R R R (r_skip R R R (r_skip R R R (r_skip R R R (r_skip R R R (r_skip R R R (r_skip R R R (r_skip R R R (r_skip R R R (r_pickF R R R R (r_movD R R R (r_skip R R R ?_))))))))))))))))))))))))))
   refine r_pickF R R R R (r_asgD R R R (eN (sw_ret ?_)))
   obtain rfl := sI h
   exact fin_0 (t := .d (.v (.bool false))) R R R (.cons (.tmp 6) .nil)
  intro c97
  replace h := ifN c97 h
  refine r_movD R R R (r_skip R R R (r_skip R R R (r_pickF R R R R (r_movD R R R (r_skip R R R (r_skip R R R (r_skip R R R (r_skip R R R (r_skip R R R (r_skip R R R (r_pickF R R R R (r_movD R R R (r_skip R R R (r_skip R R R (r_skip R R R (r_skip R R R (r_skip R R R (r_skip R R R (r_skip R R R (r_skip R R R (r_skip R R R (r_skip R R R (r_skip R R R (r_skip R R R (r_skip R R R (r_skip R R R ?_))))))))))))))))))))))))))
  refine r_pickF R R R R (r_movD R R R (r_skip R R R (r_pickF R R R R (r_asgD R R R (eN (sw_ret ?_))))))
  obtain rfl := sI h
  exact fin_0 (t := .d (.v (.bool false))) R R R (.cons (.tmp 6) .nil)
 intro c96
 replace h := ifN c96 h
 refine r_asgD R R R (eN (sw_condF R (qG (r_ixA tb R R R R R (by decide) (by decide) R R (r_ldD (y := .v (.int .u8 a.c0)) tb R R R R R R R R R (r_rem R R (by decide) R R ?_))))))
 refine r_eql R R R R ?_ ?_
 ·intro c103
  replace h := ifP c103 h
  refine r_asgD R R R (eN (sw_condT R (sw_rg (r_movW R R R (r_movD R R R (r_movW R R R (r_movD R R R ?_)))))))
  obtain ⟨e7, ie7, h⟩ := bnd h
  refine r_ixI tb R R R R R R (ix0 ie7) (ix1 ie7) R R (r_fa tb R R R R R R R ?_)
  refine r_ldD (y := .v (.int .i64 e7.at_)) tb R R R R (ix2 (g := fun a => T.d (WiUse.d a)) ie7) R R R R ?_
  refine r_movD R R R (r_sub R R R R (r_ixI tb R R R R R R (ix0 ie7) (ix1 ie7) R R (r_fa tb R R R R R R R ?_)))
  obtain ⟨q16, iq16, h⟩ := bnd h
  refine r_stQ (a' := ({e7 with at_ := (W (e7.at_ - (W (1 + (W a.c2)))))} : WiUse)) tb R R R R ie7 R R R R iq16 R R ?_
  dsimp only [List.set_cons_zero, List.set_cons_succ, WiState_T1, WiState_T2, WiState_T3, Table_T1, Desk_T1, Desk_T2, Desk_T3, Desk_T4, Desk_T5]
  first | rw [set_len iq16] | skip
  refine ev_end (block_norm (then_norm (qG (r_ldD (y := WiPlan.d t) tb R R R R R R R R R (r_movD R R R (r_movW R R R ?_))))))
  obtain ⟨rv60, hrv60, h⟩ := bnd h
  refine r_callL (window_Audit_pc hrv60) R (.of (by kernel_rfl)) R R ((.cons (.d _) (.cons (.d _) (.cons (.row R R) .nil)))) R R (r_movD R R R (r_extD (t := .v (.int .i64 rv60.1)) R R R R (r_extD (t := .v (.int .i64 rv60.2)) R R R R (r_asgD R R R (r_asgD R R R (eN (qG (r_movD R R R ?_))))))))
  refine r_eql R R R R ?_ ?_
  ·intro c104
   replace h := ifP c104 h
   refine r_movD R R R (r_movD R R R ?_)
   refine r_geq R R R R ?_ ?_
   ·intro c105
    replace h := ifP c105 h
    refine r_pickT R R R R (r_movD R R R (r_movD R R R (r_movD R R R (r_movW R R R (r_lenR tb R R R R R (r_max2 R R R R ?_))))))
    refine r_leq R R R R ?_ ?_
    ·intro c106
     replace h := ifP c106 h
     refine r_pickT R R R R (r_movD R R R (r_ixA tb R R R R R (by decide) (by decide) R R (r_ldD (y := .v (.int .u8 a.c0)) tb R R R R R R R R R (r_rem R R (by decide) R R ?_))))
     refine r_lss R R R R ?_ ?_
     ·intro c107
      replace h := ifP c107 h
      refine r_movD R R R (r_skip R R R (r_skip R R R (r_skip R R R (r_pickT R R R R (r_movD R R R (r_skip R R R (r_skip R R R (r_skip R R R (r_pickT R R R R (r_pickT R R R R (r_movD R R R ?_)))))))))))
      obtain ⟨rv61, hrv61, h⟩ := bnd h
      refine r_call (l_Awake_pc hrv61) (.of (by kernel_rfl)) R R R R (r_pickT R R R R (r_asgD R R R (eN (sw_ret ?_))))
      obtain rfl := sI h
      exact fin_0 (t := .d (.v (.bool rv61))) R R R (.cons (.tmp 6) .nil)
     intro c107
     replace h := ifN (Int.not_lt.2 c107) h
     refine r_movD R R R (r_movW R R R (r_lenR tb R R R R R ?_))
     refine r_eql R R R R ?_ ?_
     ·intro c108
      replace h := ifP c108 h
      refine r_pickF R R R R (r_movD R R R (r_skip R R R (r_skip R R R (r_skip R R R (r_pickT R R R R (r_pickT R R R R (r_movD R R R ?_)))))))
      obtain ⟨rv62, hrv62, h⟩ := bnd h
      refine r_call (l_Awake_pc hrv62) (.of (by kernel_rfl)) R R R R (r_pickT R R R R (r_asgD R R R (eN (sw_ret ?_))))
      obtain rfl := sI h
      exact fin_0 (t := .d (.v (.bool rv62))) R R R (.cons (.tmp 6) .nil)
     intro c108
     replace h := ifN c108 h
     refine r_pickF R R R R (r_movD R R R (r_movD R R R (r_movD R R R ?_)))
     refine r_eql R R R R ?_ ?_
     ·intro c109
      replace h := ifP c109 h
      refine r_pickF R R R R (r_pickT R R R R (r_movD R R R ?_))
      obtain ⟨rv63, hrv63, h⟩ := bnd h
      refine r_call (l_Awake_pc hrv63) (.of (by kernel_rfl)) R R R R (r_pickT R R R R (r_asgD R R R (eN (sw_ret ?_))))
      obtain rfl := sI h
      exact fin_0 (t := .d (.v (.bool rv63))) R R R (.cons (.tmp 6) .nil)
     intro c109
     replace h := ifN c109 h
     refine r_pickF R R R R (r_pickT R R R R (r_movD R R R (r_skip R R R (r_pickF R R R R (r_asgD R R R (eN (sw_ret ?_)))))))
     obtain rfl := sI h
     exact fin_0 (t := .d (.v (.bool false))) R R R (.cons (.tmp 6) .nil)
    intro c106
    replace h := ifN (Int.not_le.2 c106) h
    refine r_pickT R R R R (r_movD R R R (r_skip R R R (r_skip R R R (r_skip R R R (r_skip R R R (r_skip R R R (r_skip R R R (r_skip R R R (r_skip R R R (r_skip R R R (r_skip R R R (r_skip R R R (r_skip R R R (r_skip R R R (r_skip R R R (r_pickF R R R R (r_movD R R R (r_skip R R R (r_pickF R R R R (r_asgD R R R (eN (sw_ret ?_))))))))))))))))))))))
    obtain rfl := sI h
    exact fin_0 (t := .d (.v (.bool false))) R R R (.cons (.tmp 6) .nil)
   intro c105
   replace h := ifN (Int.not_le.2 c105) h
   refine r_pickT R R R R (r_movD R R R (r_skip R R R (r_skip R R R (r_skip R R R (r_skip R R R (r_skip R R R (r_skip R R R (r_pickF R R R R (r_movD R R R (r_skip R R R (r_skip R R R (r_skip R R R (r_skip R R R (r_skip R R R (r_skip R R R (r_skip R R R (r_skip R R R (r_skip R R R (r_skip R R R (r_skip R R R (r_skip R R R (r_skip R R R (r_skip R R R (r_pickF R R R R (r_movD R R R (r_skip R R R ?_))))))))))))))))))))))))))
   refine r_pickF R R R R (r_asgD R R R (eN (sw_ret ?_)))
   obtain rfl := sI h
   exact fin_0 (t := .d (.v (.bool false))) R R R (.cons (.tmp 6) .nil)
  intro c104
  replace h := ifN c104 h
  refine r_movD R R R (r_skip R R R (r_skip R R R (r_pickF R R R R (r_movD R R R (r_skip R R R (r_skip R R R (r_skip R R R (r_skip R R R (r_skip R R R (r_skip R R R (r_pickF R R R R (r_movD R R R (r_skip R R R (r_skip R R R (r_skip R R R (r_skip R R R (r_skip R R R (r_skip R R R (r_skip R R R (r_skip R R R (r_skip R R R (r_skip R R R (r_skip R R R (r_skip R R R (r_skip R R R (r_skip R R R ?_))))))))))))))))))))))))))
  refine r_pickF R R R R (r_movD R R R (r_skip R R R (r_pickF R R R R (r_asgD R R R (eN (sw_ret ?_))))))
  obtain rfl := sI h
  exact fin_0 (t := .d (.v (.bool false))) R R R (.cons (.tmp 6) .nil)
 intro c103
 replace h := ifN c103 h
 refine r_asgD R R R (eN (sw_condF R (sw_rg (r_movW R R R (r_movD R R R (r_movW R R R (r_movD R R R ?_)))))))
 obtain ⟨e8, ie8, h⟩ := bnd h
 refine r_ixI tb R R R R R R (ix0 ie8) (ix1 ie8) R R (r_fa tb R R R R R R R ?_)
 refine r_ldD (y := .v (.int .i64 e8.by_)) tb R R R R (ix2 (g := fun a => T.d (WiUse.d a)) ie8) R R R R ?_
 refine r_movD R R R (r_add R R R R (r_ixI tb R R R R R R (ix0 ie8) (ix1 ie8) R R (r_fa tb R R R R R R R ?_)))
 obtain ⟨q17, iq17, h⟩ := bnd h
 refine r_stQ (a' := ({e8 with by_ := (W (e8.by_ + (W (1 + (W a.c2)))))} : WiUse)) tb R R R R ie8 R R R R iq17 R R ?_
 dsimp only [List.set_cons_zero, List.set_cons_succ, WiState_T1, WiState_T2, WiState_T3, Table_T1, Desk_T1, Desk_T2, Desk_T3, Desk_T4, Desk_T5]
 first | rw [set_len iq17] | skip
 refine ev_end (block_norm (then_norm (qG (r_ldD (y := WiPlan.d t) tb R R R R R R R R R (r_movD R R R (r_movW R R R ?_))))))
 obtain ⟨rv64, hrv64, h⟩ := bnd h
 refine r_callL (window_Audit_pc hrv64) R (.of (by kernel_rfl)) R R ((.cons (.d _) (.cons (.d _) (.cons (.row R R) .nil)))) R R (r_movD R R R (r_extD (t := .v (.int .i64 rv64.1)) R R R R (r_extD (t := .v (.int .i64 rv64.2)) R R R R (r_asgD R R R (r_asgD R R R (eN (qG (r_movD R R R ?_))))))))
 refine r_eql R R R R ?_ ?_
 ·intro c110
  replace h := ifP c110 h
  refine r_movD R R R (r_movD R R R ?_)
  refine r_geq R R R R ?_ ?_
  ·intro c111
   replace h := ifP c111 h
   refine r_pickT R R R R (r_movD R R R (r_movD R R R (r_movD R R R (r_movW R R R (r_lenR tb R R R R R (r_max2 R R R R ?_))))))
   refine r_leq R R R R ?_ ?_
   ·intro c112
    replace h := ifP c112 h
    refine r_pickT R R R R (r_movD R R R (r_ixA tb R R R R R (by decide) (by decide) R R (r_ldD (y := .v (.int .u8 a.c0)) tb R R R R R R R R R (r_rem R R (by decide) R R ?_))))
    refine r_lss R R R R ?_ ?_
    ·intro c113
     replace h := ifP c113 h
     refine r_movD R R R (r_skip R R R (r_skip R R R (r_skip R R R (r_pickT R R R R (r_movD R R R (r_skip R R R (r_skip R R R (r_skip R R R (r_pickT R R R R (r_pickT R R R R (r_movD R R R ?_)))))))))))
     obtain ⟨rv65, hrv65, h⟩ := bnd h
     refine r_call (l_Awake_pc hrv65) (.of (by kernel_rfl)) R R R R (r_pickT R R R R (r_asgD R R R (eN (sw_ret ?_))))
     obtain rfl := sI h
     exact fin_0 (t := .d (.v (.bool rv65))) R R R (.cons (.tmp 6) .nil)
    intro c113
    replace h := ifN (Int.not_lt.2 c113) h
    refine r_movD R R R (r_movW R R R (r_lenR tb R R R R R ?_))
    refine r_eql R R R R ?_ ?_
    ·intro c114
     replace h := ifP c114 h
     refine r_pickF R R R R (r_movD R R R (r_skip R R R (r_skip R R R (r_skip R R R (r_pickT R R R R (r_pickT R R R R (r_movD R R R ?_)))))))
     obtain ⟨rv66, hrv66, h⟩ := bnd h
     refine r_call (l_Awake_pc hrv66) (.of (by kernel_rfl)) R R R R (r_pickT R R R R (r_asgD R R R (eN (sw_ret ?_))))
     obtain rfl := sI h
     exact fin_0 (t := .d (.v (.bool rv66))) R R R (.cons (.tmp 6) .nil)
    intro c114
    replace h := ifN c114 h
    refine r_pickF R R R R (r_movD R R R (r_movD R R R (r_movD R R R ?_)))
    refine r_eql R R R R ?_ ?_
    ·intro c115
     replace h := ifP c115 h
     refine r_pickF R R R R (r_pickT R R R R (r_movD R R R ?_))
     obtain ⟨rv67, hrv67, h⟩ := bnd h
     refine r_call (l_Awake_pc hrv67) (.of (by kernel_rfl)) R R R R (r_pickT R R R R (r_asgD R R R (eN (sw_ret ?_))))
     obtain rfl := sI h
     exact fin_0 (t := .d (.v (.bool rv67))) R R R (.cons (.tmp 6) .nil)
    intro c115
    replace h := ifN c115 h
    refine r_pickF R R R R (r_pickT R R R R (r_movD R R R (r_skip R R R (r_pickF R R R R (r_asgD R R R (eN (sw_ret ?_)))))))
    obtain rfl := sI h
    exact fin_0 (t := .d (.v (.bool false))) R R R (.cons (.tmp 6) .nil)
   intro c112
   replace h := ifN (Int.not_le.2 c112) h
   refine r_pickT R R R R (r_movD R R R (r_skip R R R (r_skip R R R (r_skip R R R (r_skip R R R (r_skip R R R (r_skip R R R (r_skip R R R (r_skip R R R (r_skip R R R (r_skip R R R (r_skip R R R (r_skip R R R (r_skip R R R (r_skip R R R (r_pickF R R R R (r_movD R R R (r_skip R R R (r_pickF R R R R (r_asgD R R R (eN (sw_ret ?_))))))))))))))))))))))
   obtain rfl := sI h
   exact fin_0 (t := .d (.v (.bool false))) R R R (.cons (.tmp 6) .nil)
  intro c111
  replace h := ifN (Int.not_le.2 c111) h
  refine r_pickT R R R R (r_movD R R R (r_skip R R R (r_skip R R R (r_skip R R R (r_skip R R R (r_skip R R R (r_skip R R R (r_pickF R R R R (r_movD R R R (r_skip R R R (r_skip R R R (r_skip R R R (r_skip R R R (r_skip R R R (r_skip R R R (r_skip R R R (r_skip R R R (r_skip R R R (r_skip R R R (r_skip R R R (r_skip R R R (r_skip R R R (r_skip R R R (r_pickF R R R R (r_movD R R R (r_skip R R R ?_))))))))))))))))))))))))))
  refine r_pickF R R R R (r_asgD R R R (eN (sw_ret ?_)))
  obtain rfl := sI h
  exact fin_0 (t := .d (.v (.bool false))) R R R (.cons (.tmp 6) .nil)
 intro c110
 replace h := ifN c110 h
 refine r_movD R R R (r_skip R R R (r_skip R R R (r_pickF R R R R (r_movD R R R (r_skip R R R (r_skip R R R (r_skip R R R (r_skip R R R (r_skip R R R (r_skip R R R (r_pickF R R R R (r_movD R R R (r_skip R R R (r_skip R R R (r_skip R R R (r_skip R R R (r_skip R R R (r_skip R R R (r_skip R R R (r_skip R R R (r_skip R R R (r_skip R R R (r_skip R R R (r_skip R R R (r_skip R R R (r_skip R R R ?_))))))))))))))))))))))))))
 refine r_pickF R R R R (r_movD R R R (r_skip R R R (r_pickF R R R R (r_asgD R R R (eN (sw_ret ?_))))))
 obtain rfl := sI h
 exact fin_0 (t := .d (.v (.bool false))) R R R (.cons (.tmp 6) .nil)
end Go.Proofs.Ytdefnmcjmklohaa
