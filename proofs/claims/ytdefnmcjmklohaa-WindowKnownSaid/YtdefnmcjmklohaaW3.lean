/- What functions of the program compute: plain functions, and the proofs. -/
import Derived.Test.YtdefnmcjmklohaaW2
open Go Go.Proofs.Ytdefnmcjmklohaa.Sh Go.Proofs
namespace Go.Proofs.Ytdefnmcjmklohaa
set_option linter.unusedVariables false
set_option linter.unusedSimpArgs false
set_option maxRecDepth 100000
set_option maxHeartbeats 4000000
def l_Awake (F : Nat)  : Option Bool := Option.bind (l_Plan F ) fun rv => Option.bind (window_Start F rv) fun rv2 => Option.bind (l_Plan F ) fun rv3 => Option.bind (l_A F ) fun rv4 => Option.bind (window_Rights F rv3 rv2.1 (WiSky.mk rv4.kinds rv4.wind) 100) fun rv5 => Option.bind (l_Plan F ) fun rv6 => Option.bind (l_launch F 160) fun rv7 => Option.bind (l_night_m F [rv7]) fun rv8 => Option.bind (l_launch F 130) fun rv9 => Option.bind (l_night_m F [rv9]) fun rv10 => Option.bind (l_launch F 60) fun rv11 => Option.bind (l_night_m F [rv11]) fun rv12 => Option.bind (window_Season F rv6 [(WiNight.mk rv8.1.sky_Kinds rv8.1.sky_Wind rv8.2), (WiNight.mk rv10.1.sky_Kinds rv10.1.sky_Wind rv10.2), (WiNight.mk rv12.1.sky_Kinds rv12.1.sky_Wind rv12.2)]) fun rv13 => Option.bind (l_Plan F ) fun rv14 => Option.bind (l_launch F 159) fun rv15 => Option.bind (l_night_m F [rv15]) fun rv16 => Option.bind (window_Play F rv14 rv2.1 (WiNight.mk rv16.1.sky_Kinds rv16.1.sky_Wind rv16.2)) fun rv17 => if rv2.2 = 0 then (if rv5.2 = 0 then (if rv13.2.2 = 0 then (if rv17.2.2 = 7 then (Option.bind (r_Ints F rv5.1 [1, 0, 2]) fun rv18 => if rv18 = true then (Option.bind (r_SameUses F rv13.1 [(WiUse.mk 0 1 160 (-1)), (WiUse.mk 1 0 130 (-1)), (WiUse.mk 2 1 60 (-1))]) fun rv19 => some rv19) else (some false)) else (some false)) else (some false)) else (some false)) else (some false)
theorem l_Awake_pc {F : Nat}  {r : Bool} (h : l_Awake F  = some r) : PC Try.prog 23 [] (.v (.bool r)) := by
 rw [l_Awake] at h
 refine SC.of_sw Try.func23 R R R ?_
 dsimp only [argS, List.map]
 refine qG (r_asgD R R R (eN (qG ?_)))
 obtain ⟨rv, hrv, h⟩ := bnd h
 refine r_call (l_Plan_pc hrv) (.of (by kernel_rfl)) R R R R ?_
 obtain ⟨rv2, hrv2, h⟩ := bnd h
 refine r_callN (t' := .tup [WiState_T1 rv2.1 0 1 2, .d (.v (.int .i64 rv2.2))]) (news' := [(lvI rv2.1.used), (lvI rv2.1.credit), (lvI rv2.1.last)]) (window_Start_scr hrv2) (.of (by kernel_rfl)) R R R ((.row (.row (.row .nil)))) R R R (r_movT (.tup [WiState_T1 rv2.1 0 1 2, .d (.v (.int .i64 rv2.2))]) R R R (r_ext (t := WiState_T1 rv2.1 0 1 2) R R R R (r_ext (t := .d (.v (.int .i64 rv2.2))) R R R R (r_alloc tb R R R R R ?_))))
 refine r_stE _ ([some (lvI rv2.1.used), some (lvI rv2.1.credit), some (lvI rv2.1.last), some ⟨4, [WiState_T1 rv2.1 0 1 2]⟩]) tb R R R R R R R R R R R R (r_asgD R R R (eN (sw_seq (sw_dr (by kernel_rfl) ?_))))
 obtain ⟨rv3, hrv3, h⟩ := bnd h
 refine r_call (l_Plan_pc hrv3) (.of (by kernel_rfl)) R R R R (r_ldG tb R R R R R R R R R ?_)
 obtain ⟨rv4, hrv4, h⟩ := bnd h
 refine r_callN (t' := .agg [.row 4 1 0 (rv4.kinds).length, .d (.v (.int .i64 rv4.wind))]) (news' := [(lvI rv4.kinds)]) (l_A_scr hrv4) (.of (by kernel_rfl)) R R R ((.row .nil)) R R R ?_
 obtain ⟨rv5, hrv5, h⟩ := bnd h
 refine r_callLN (t' := .tup [.row 5 1 0 (rv5.1).length, .d (.v (.int .i64 rv5.2))]) (news' := [(lvI rv5.1)]) (window_Rights_scr hrv5) R ((.row (fun _ => rfl) .nil)) (.of (by kernel_rfl)) R R ((.cons (.d _) (.cons (.aggL (.cons (.row R R) (.cons (.row R R) (.cons (.row R R) (.cons (.d _) .nil))))) (.cons (.aggL (.cons (.row R R) (.cons (.d _) .nil))) (.cons (.d _) .nil))))) R ((.row .nil)) R R R ?_
 refine r_movT (.tup [.row 5 1 0 (rv5.1).length, .d (.v (.int .i64 rv5.2))]) R R R (r_ext (t := .row 5 1 0 (rv5.1).length) R R R R (r_ext (t := .d (.v (.int .i64 rv5.2))) R R R R (r_asgW R R R (r_asgD R R R (ev_endD (by kernel_rfl) (then_norm (qG ?_)))))))
 obtain ⟨rv6, hrv6, h⟩ := bnd h
 refine r_call (l_Plan_pc hrv6) (.of (by kernel_rfl)) R R R R ?_
 obtain ⟨rv7, hrv7, h⟩ := bnd h
 refine r_call (l_launch_pc hrv7) (.of (by kernel_rfl)) R R R R (r_bslice tb R R R R R R R R R R R R R ?_)
 obtain ⟨rv8, hrv8, h⟩ := bnd h
 refine r_callO (t' := .agg [.row 7 1 0 (rv8.1.sky_Kinds).length, .d (.v (.int .i64 rv8.1.sky_Wind)), .row 6 3 0 (rv8.2).length]) (ls := [some (lWiTurnd rv8.2)]) (news := [(lvI rv8.1.sky_Kinds)]) ([6]) ([some (lvI rv2.1.used), some (lvI rv2.1.credit), some (lvI rv2.1.last), some ⟨4, [WiState_T1 rv2.1 0 1 2]⟩, some (lvI rv4.kinds), some (lvI rv5.1), some (lWiTurnd rv8.2), some (lvI rv8.1.sky_Kinds)]) (l_night_m_scr hrv8) (.of (by kernel_rfl)) R (.inl ⟨R, R, R⟩) R R R R ((.row R .nil)) R R R ((.row .nil)) ((.row .nil)) R R R R ?_
 obtain ⟨rv9, hrv9, h⟩ := bnd h
 refine r_call (l_launch_pc hrv9) (.of (by kernel_rfl)) R R R R (r_bslice tb R R R R R R R R R R R R R ?_)
 obtain ⟨rv10, hrv10, h⟩ := bnd h
 refine r_callO (t' := .agg [.row 9 1 0 (rv10.1.sky_Kinds).length, .d (.v (.int .i64 rv10.1.sky_Wind)), .row 8 3 0 (rv10.2).length]) (ls := [some (lWiTurnd rv10.2)]) (news := [(lvI rv10.1.sky_Kinds)]) ([8]) ([some (lvI rv2.1.used), some (lvI rv2.1.credit), some (lvI rv2.1.last), some ⟨4, [WiState_T1 rv2.1 0 1 2]⟩, some (lvI rv4.kinds), some (lvI rv5.1), some (lWiTurnd rv8.2), some (lvI rv8.1.sky_Kinds), some (lWiTurnd rv10.2), some (lvI rv10.1.sky_Kinds)]) (l_night_m_scr hrv10) (.of (by kernel_rfl)) R (.inl ⟨R, R, R⟩) R R R R ((.row R .nil)) R R R ((.row .nil)) ((.row .nil)) R R R R ?_
 obtain ⟨rv11, hrv11, h⟩ := bnd h
 refine r_call (l_launch_pc hrv11) (.of (by kernel_rfl)) R R R R (r_bslice tb R R R R R R R R R R R R R ?_)
 obtain ⟨rv12, hrv12, h⟩ := bnd h
 refine r_callO (t' := .agg [.row 11 1 0 (rv12.1.sky_Kinds).length, .d (.v (.int .i64 rv12.1.sky_Wind)), .row 10 3 0 (rv12.2).length]) (ls := [some (lWiTurnd rv12.2)]) (news := [(lvI rv12.1.sky_Kinds)]) ([10]) ([some (lvI rv2.1.used), some (lvI rv2.1.credit), some (lvI rv2.1.last), some ⟨4, [WiState_T1 rv2.1 0 1 2]⟩, some (lvI rv4.kinds), some (lvI rv5.1), some (lWiTurnd rv8.2), some (lvI rv8.1.sky_Kinds), some (lWiTurnd rv10.2), some (lvI rv10.1.sky_Kinds), some (lWiTurnd rv12.2), some (lvI rv12.1.sky_Kinds)]) (l_night_m_scr hrv12) (.of (by kernel_rfl)) R (.inl ⟨R, R, R⟩) R R R R ((.row R .nil)) R R R ((.row .nil)) ((.row .nil)) R R R R ?_
 refine r_bslice tb R R R R R R R R R R R R R ?_
 obtain ⟨rv13, hrv13, h⟩ := bnd h
 refine r_callLN (t' := .tup [.row 13 4 0 (rv13.1).length, WiState_T1 rv13.2.1 14 15 16, .d (.v (.int .i64 rv13.2.2))]) (news' := [(lWiUsed rv13.1), (lvI rv13.2.1.used), (lvI rv13.2.1.credit), (lvI rv13.2.1.last)]) (window_Season_scr hrv13) R ((.row (fun _ => rfl) (.row (fun _ => rfl) (.row (fun _ => rfl) (.row (fun _ => rfl) .nil))))) (.of (by kernel_rfl)) R R ((.cons (.d _) (.cons (.rowL R R (.cons (.aggL (.cons (.row R R) (.cons (.d _) (.cons (.row R R) .nil)))) (.cons (.aggL (.cons (.row R R) (.cons (.d _) (.cons (.row R R) .nil)))) (.cons (.aggL (.cons (.row R R) (.cons (.d _) (.cons (.row R R) .nil)))) .nil)))) .nil))) R ((.row (.row (.row (.row .nil))))) R R R ?_
 refine r_movT (.tup [.row 13 4 0 (rv13.1).length, WiState_T1 rv13.2.1 14 15 16, .d (.v (.int .i64 rv13.2.2))]) R R R (r_ext (t := .row 13 4 0 (rv13.1).length) R R R R (r_ext (t := WiState_T1 rv13.2.1 14 15 16) R R R R (r_ext (t := .d (.v (.int .i64 rv13.2.2))) R R R R (r_alloc tb R R R R R (r_asgW R R R ?_)))))
 refine r_stE _ ([some (lvI rv2.1.used), some (lvI rv2.1.credit), some (lvI rv2.1.last), some ⟨4, [WiState_T1 rv2.1 0 1 2]⟩, some (lvI rv4.kinds), some (lvI rv5.1), some (lWiTurnd rv8.2), some (lvI rv8.1.sky_Kinds), some (lWiTurnd rv10.2), some (lvI rv10.1.sky_Kinds), some (lWiTurnd rv12.2), some (lvI rv12.1.sky_Kinds), some ⟨3, [.agg [.row 7 1 0 (rv8.1.sky_Kinds).length, .d (.v (.int .i64 rv8.1.sky_Wind)), .row 6 3 0 (rv8.2).length], .agg [.row 9 1 0 (rv10.1.sky_Kinds).length, .d (.v (.int .i64 rv10.1.sky_Wind)), .row 8 3 0 (rv10.2).length], .agg [.row 11 1 0 (rv12.1.sky_Kinds).length, .d (.v (.int .i64 rv12.1.sky_Wind)), .row 10 3 0 (rv12.2).length]]⟩, some (lWiUsed rv13.1), some (lvI rv13.2.1.used), some (lvI rv13.2.1.credit), some (lvI rv13.2.1.last), some ⟨4, [WiState_T1 rv13.2.1 14 15 16]⟩]) tb R R R R R R R R R R R R ?_
 refine r_asgD R R R (eN (sw_seq (sw_dr (by kernel_rfl) ?_)))
 obtain ⟨rv14, hrv14, h⟩ := bnd h
 refine r_call (l_Plan_pc hrv14) (.of (by kernel_rfl)) R R R R (r_ldG tb R R R R R R R R R ?_)
 obtain ⟨rv15, hrv15, h⟩ := bnd h
 refine r_call (l_launch_pc hrv15) (.of (by kernel_rfl)) R R R R (r_bslice tb R R R R R R R R R R R R R ?_)
 obtain ⟨rv16, hrv16, h⟩ := bnd h
 refine r_callO (t' := .agg [.row 19 1 0 (rv16.1.sky_Kinds).length, .d (.v (.int .i64 rv16.1.sky_Wind)), .row 18 3 0 (rv16.2).length]) (ls := [some (lWiTurnd rv16.2)]) (news := [(lvI rv16.1.sky_Kinds)]) ([18]) ([some (lvI rv2.1.used), some (lvI rv2.1.credit), some (lvI rv2.1.last), some ⟨4, [WiState_T1 rv2.1 0 1 2]⟩, some (lvI rv4.kinds), some (lvI rv5.1), some (lWiTurnd rv8.2), some (lvI rv8.1.sky_Kinds), some (lWiTurnd rv10.2), some (lvI rv10.1.sky_Kinds), some (lWiTurnd rv12.2), some (lvI rv12.1.sky_Kinds), some ⟨3, [.agg [.row 7 1 0 (rv8.1.sky_Kinds).length, .d (.v (.int .i64 rv8.1.sky_Wind)), .row 6 3 0 (rv8.2).length], .agg [.row 9 1 0 (rv10.1.sky_Kinds).length, .d (.v (.int .i64 rv10.1.sky_Wind)), .row 8 3 0 (rv10.2).length], .agg [.row 11 1 0 (rv12.1.sky_Kinds).length, .d (.v (.int .i64 rv12.1.sky_Wind)), .row 10 3 0 (rv12.2).length]]⟩, some (lWiUsed rv13.1), some (lvI rv13.2.1.used), some (lvI rv13.2.1.credit), some (lvI rv13.2.1.last), some ⟨4, [WiState_T1 rv13.2.1 14 15 16]⟩, some (lWiTurnd rv16.2), some (lvI rv16.1.sky_Kinds)]) (l_night_m_scr hrv16) (.of (by kernel_rfl)) R (.inl ⟨R, R, R⟩) R R R R ((.row R .nil)) R R R ((.row .nil)) ((.row .nil)) R R R R ?_
 obtain ⟨rv17, hrv17, h⟩ := bnd h
 refine r_callLN (t' := .tup [WiState_T1 rv17.1 20 21 22, .d (WiUse.d rv17.2.1), .d (.v (.int .i64 rv17.2.2))]) (news' := [(lvI rv17.1.used), (lvI rv17.1.credit), (lvI rv17.1.last)]) (window_Play_scr hrv17) R ((.row (fun _ => rfl) (.row (fun _ => rfl) (.row (fun _ => rfl) .nil)))) (.of (by kernel_rfl)) R R ((.cons (.d _) (.cons (.aggL (.cons (.row R R) (.cons (.row R R) (.cons (.row R R) (.cons (.d _) .nil))))) (.cons (.aggL (.cons (.row R R) (.cons (.d _) (.cons (.row R R) .nil)))) .nil)))) R ((.row (.row (.row .nil)))) R R R ?_
 refine r_movT (.tup [WiState_T1 rv17.1 20 21 22, .d (WiUse.d rv17.2.1), .d (.v (.int .i64 rv17.2.2))]) R R R (r_ext (t := WiState_T1 rv17.1 20 21 22) R R R R (r_ext (t := .d (WiUse.d rv17.2.1)) R R R R (r_ext (t := .d (.v (.int .i64 rv17.2.2))) R R R R (r_alloc tb R R R R R (r_alloc tb R R R R R ?_)))))
 refine r_stE _ ([some (lvI rv2.1.used), some (lvI rv2.1.credit), some (lvI rv2.1.last), some ⟨4, [WiState_T1 rv2.1 0 1 2]⟩, some (lvI rv4.kinds), some (lvI rv5.1), some (lWiTurnd rv8.2), some (lvI rv8.1.sky_Kinds), some (lWiTurnd rv10.2), some (lvI rv10.1.sky_Kinds), some (lWiTurnd rv12.2), some (lvI rv12.1.sky_Kinds), some ⟨3, [.agg [.row 7 1 0 (rv8.1.sky_Kinds).length, .d (.v (.int .i64 rv8.1.sky_Wind)), .row 6 3 0 (rv8.2).length], .agg [.row 9 1 0 (rv10.1.sky_Kinds).length, .d (.v (.int .i64 rv10.1.sky_Wind)), .row 8 3 0 (rv10.2).length], .agg [.row 11 1 0 (rv12.1.sky_Kinds).length, .d (.v (.int .i64 rv12.1.sky_Wind)), .row 10 3 0 (rv12.2).length]]⟩, some (lWiUsed rv13.1), some (lvI rv13.2.1.used), some (lvI rv13.2.1.credit), some (lvI rv13.2.1.last), some ⟨4, [WiState_T1 rv13.2.1 14 15 16]⟩, some (lWiTurnd rv16.2), some (lvI rv16.1.sky_Kinds), some (lvI rv17.1.used), some (lvI rv17.1.credit), some (lvI rv17.1.last), some ⟨4, [WiState_T1 rv17.1 20 21 22]⟩, some ⟨4, [.d (.agg [.v (.int .i64 0), .v (.int .i64 0), .v (.int .i64 0), .v (.int .i64 0)])]⟩]) tb R R R R R R R R R R R R ?_
 refine r_stE _ ([some (lvI rv2.1.used), some (lvI rv2.1.credit), some (lvI rv2.1.last), some ⟨4, [WiState_T1 rv2.1 0 1 2]⟩, some (lvI rv4.kinds), some (lvI rv5.1), some (lWiTurnd rv8.2), some (lvI rv8.1.sky_Kinds), some (lWiTurnd rv10.2), some (lvI rv10.1.sky_Kinds), some (lWiTurnd rv12.2), some (lvI rv12.1.sky_Kinds), some ⟨3, [.agg [.row 7 1 0 (rv8.1.sky_Kinds).length, .d (.v (.int .i64 rv8.1.sky_Wind)), .row 6 3 0 (rv8.2).length], .agg [.row 9 1 0 (rv10.1.sky_Kinds).length, .d (.v (.int .i64 rv10.1.sky_Wind)), .row 8 3 0 (rv10.2).length], .agg [.row 11 1 0 (rv12.1.sky_Kinds).length, .d (.v (.int .i64 rv12.1.sky_Wind)), .row 10 3 0 (rv12.2).length]]⟩, some (lWiUsed rv13.1), some (lvI rv13.2.1.used), some (lvI rv13.2.1.credit), some (lvI rv13.2.1.last), some ⟨4, [WiState_T1 rv13.2.1 14 15 16]⟩, some (lWiTurnd rv16.2), some (lvI rv16.1.sky_Kinds), some (lvI rv17.1.used), some (lvI rv17.1.credit), some (lvI rv17.1.last), some ⟨4, [WiState_T1 rv17.1 20 21 22]⟩, some ⟨4, [.d (WiUse.d rv17.2.1)]⟩]) tb R R R R R R R R R R R R ?_
 refine r_asgD R R R (ev_endD (by kernel_rfl) (then_norm (qG (r_movD R R R ?_))))
 refine r_eql R R R R ?_ ?_
 ·intro c
  replace h := ifP c h
  refine r_movD R R R (r_movD R R R ?_)
  refine r_eql R R R R ?_ ?_
  ·intro c2
   replace h := ifP c2 h
   refine r_pickT R R R R (r_movD R R R (r_movD R R R ?_))
   refine r_eql R R R R ?_ ?_
   ·intro c3
    replace h := ifP c3 h
    refine r_pickT R R R R (r_movD R R R (r_movD R R R ?_))
    refine r_eql R R R R ?_ ?_
    ·intro c4
     replace h := ifP c4 h
     refine r_pickT R R R R (r_movD R R R (r_movW R R R (r_bslice tb R R R R R R R R R R R R R ?_)))
     obtain ⟨rv18, hrv18, h⟩ := bnd h
     refine r_callLB (r_Ints_pc hrv18) (.of (by kernel_rfl)) R R ((.cons (.row R R) (.cons (.row R R) .nil))) R R ?_ ?_
     ·intro c5
      replace h := ifP c5 h
      refine r_pickT R R R R (r_movD R R R (r_movW R R R (r_build (v := .d (.agg [.v (.int .i64 0), .v (.int .i64 1), .v (.int .i64 160), .v (.int .i64 (-1))])) tb R R (List.cons_ne_nil _ _) R R R R R R (r_build (v := .d (.agg [.v (.int .i64 1), .v (.int .i64 0), .v (.int .i64 130), .v (.int .i64 (-1))])) tb R R (List.cons_ne_nil _ _) R R R R R R (r_build (v := .d (.agg [.v (.int .i64 2), .v (.int .i64 1), .v (.int .i64 60), .v (.int .i64 (-1))])) tb R R (List.cons_ne_nil _ _) R R R R R R ?_)))))
      refine r_bslice tb R R R R R R R R R R R R R ?_
      obtain ⟨rv19, hrv19, h⟩ := bnd h
      refine r_callL (r_SameUses_pc hrv19) R (.of (by kernel_rfl)) R R ((.cons (.row R R) (.cons (.row R R) .nil))) R R (r_pickT R R R R (r_asgD R R R (eN (sw_ret ?_))))
      obtain rfl := sI h
      exact fin_0 (t := .d (.v (.bool rv19))) R R R (.cons (.tmp 0) .nil)
     intro c5
     replace h := ifF c5 h
     refine r_pickT R R R R (r_movD R R R (r_skip R R R (r_skip R R R (r_skip R R R (r_skip R R R (r_skip R R R (r_skip R R R (r_pickF R R R R (r_asgD R R R (eN (sw_ret ?_)))))))))))
     obtain rfl := sI h
     exact fin_0 (t := .d (.v (.bool false))) R R R (.cons (.tmp 0) .nil)
    intro c4
    replace h := ifN c4 h
    refine r_pickT R R R R (r_movD R R R (r_skip R R R (r_skip R R R (r_skip R R R (r_pickF R R R R (r_movD R R R (r_skip R R R (r_skip R R R (r_skip R R R (r_skip R R R (r_skip R R R (r_skip R R R (r_pickF R R R R (r_asgD R R R (eN (sw_ret ?_))))))))))))))))
    obtain rfl := sI h
    exact fin_0 (t := .d (.v (.bool false))) R R R (.cons (.tmp 0) .nil)
   intro c3
   replace h := ifN c3 h
   refine r_pickT R R R R (r_movD R R R (r_skip R R R (r_skip R R R (r_pickF R R R R (r_movD R R R (r_skip R R R (r_skip R R R (r_skip R R R (r_pickF R R R R (r_movD R R R (r_skip R R R (r_skip R R R (r_skip R R R (r_skip R R R (r_skip R R R (r_skip R R R (r_pickF R R R R (r_asgD R R R (eN (sw_ret ?_))))))))))))))))))))
   obtain rfl := sI h
   exact fin_0 (t := .d (.v (.bool false))) R R R (.cons (.tmp 0) .nil)
  intro c2
  replace h := ifN c2 h
  refine r_pickT R R R R (r_movD R R R (r_skip R R R (r_skip R R R (r_pickF R R R R (r_movD R R R (r_skip R R R (r_skip R R R (r_pickF R R R R (r_movD R R R (r_skip R R R (r_skip R R R (r_skip R R R (r_pickF R R R R (r_movD R R R (r_skip R R R (r_skip R R R (r_skip R R R (r_skip R R R (r_skip R R R (r_skip R R R (r_pickF R R R R (r_asgD R R R (eN (sw_ret ?_))))))))))))))))))))))))
  obtain rfl := sI h
  exact fin_0 (t := .d (.v (.bool false))) R R R (.cons (.tmp 0) .nil)
 intro c
 replace h := ifN c h
 refine r_movD R R R (r_skip R R R (r_skip R R R (r_pickF R R R R (r_movD R R R (r_skip R R R (r_skip R R R (r_pickF R R R R (r_movD R R R (r_skip R R R (r_skip R R R (r_pickF R R R R (r_movD R R R (r_skip R R R (r_skip R R R (r_skip R R R (r_pickF R R R R (r_movD R R R (r_skip R R R (r_skip R R R (r_skip R R R (r_skip R R R (r_skip R R R (r_skip R R R (r_pickF R R R R (r_asgD R R R (eN ?_))))))))))))))))))))))))))
 refine sw_ret ?_
 obtain rfl := sI h
 exact fin_0 (t := .d (.v (.bool false))) R R R (.cons (.tmp 0) .nil)
def l_WindowKnown (F : Nat)  : Option Bool := Option.bind (l_Plan F ) fun rv => Option.bind (window_Start F rv) fun rv2 => Option.bind (l_A F ) fun rv3 => Option.bind (window_Rights F rv rv2.1 (WiSky.mk rv3.kinds rv3.wind) 345) fun rv4 => Option.bind (l_B F ) fun rv5 => Option.bind (window_Rights F rv rv2.1 rv5 100) fun rv6 => if rv2.2 = 0 then (if rv4.2 = 0 then (if rv6.2 = 0 then (Option.bind (r_Ints F rv4.1 [0, 2]) fun rv7 => if rv7 = true then (Option.bind (r_Ints F rv6.1 [2]) fun rv8 => if rv8 = true then (Option.bind (l_B F ) fun rv9 => Option.bind (window_Why F rv rv2.1 rv9 1 100) fun rv10 => Option.bind (l_B F ) fun rv11 => Option.bind (window_Why F rv rv2.1 rv11 0 100) fun rv12 => if rv10.2 = 0 then (if rv12.2 = 0 then (if rv10.1 = 214 then (if rv12.1 = 213 then (Option.bind (l_A F ) fun rv13 => Option.bind (window_Turns F rv rv2.1 (WiSky.mk rv13.kinds rv13.wind) []) fun rv14 => optE rv14.2.2.1 (none) (fun t => if t.length = 0 then none else (Option.bind (l_A F ) fun rv15 => Option.bind (l_scrub F 350) fun rv16 => Option.bind (window_Turns F rv rv2.1 (WiSky.mk rv15.kinds rv15.wind) [rv16]) fun rv17 => optE rv17.2.2.1 (none) (fun t2 => if t2.length = 0 then none else (if rv14.2.2.2 = 0 then (if rv17.2.2.2 = 0 then (if rv14.1 = 1 then (if rv14.2.1 = 100 then (if rv17.1 = 0 then (if rv17.2.1 = 350 then (Option.bind (r_Ints F (t.drop 1) [0, 2]) fun rv18 => if rv18 = true then (Option.bind (r_Ints F (t2.drop 1) [2]) fun rv19 => if rv19 = true then (Option.bind (l_launch F 160) fun rv20 => Option.bind (l_night_m F [rv20]) fun rv21 => Option.bind (window_Play F rv rv2.1 (WiNight.mk rv21.1.sky_Kinds rv21.1.sky_Wind rv21.2)) fun rv22 => Option.bind (l_give F 100 2) fun rv23 => Option.bind (l_launch F 120) fun rv24 => Option.bind (l_night_m F [rv23, rv24]) fun rv25 => Option.bind (window_Play F rv rv2.1 (WiNight.mk rv25.1.sky_Kinds rv25.1.sky_Wind rv25.2)) fun rv26 => if rv22.2.2 = 0 then (if rv26.2.2 = 0 then (if (!(WiUse.beq rv22.2.1 (WiUse.mk 0 1 160 (-1)))) = true then (some false) else (if (!(WiUse.beq rv26.2.1 (WiUse.mk 0 2 120 1))) = true then (some false) else (Option.bind (r_SameState F rv22.1 (WiState.mk [0, 1, 0] [11, 7, 1] [(-1), 1, (-1)] 1)) fun rv27 => if rv27 = true then (Option.bind (r_SameState F rv26.1 (WiState.mk [0, 0, 1] [11, 15, (-8)] [(-1), (-1), 1] 1)) fun rv28 => if rv28 = true then (Option.bind (l_B F ) fun rv29 => Option.bind (l_scrub F 390) fun rv30 => Option.bind (window_Season F rv [(WiNight.mk rv29.kinds rv29.wind [rv30])]) fun rv31 => if rv31.2.2 = 0 then (if (rv31.1.length : Int) = 0 then (if rv31.2.1.next = 1 then (Option.bind (l_Awake 100 ) fun rv32 => some rv32) else (some false)) else (some false)) else (some false)) else (some false)) else (some false)))) else (some false)) else (some false)) else (some false)) else (some false)) else (some false)) else (some false)) else (some false)) else (some false)) else (some false)) else (some false)))))) else (some false)) else (some false)) else (some false)) else (some false)) else (some false)) else (some false)) else (some false)) else (some false)) else (some false)
theorem l_WindowKnown_pc {F : Nat}  {r : Bool} (h : l_WindowKnown F  = some r) : PC Try.prog 15 [] (.v (.bool r)) := by
 rw [l_WindowKnown] at h
 refine SC.of_sw Try.func15 R R R ?_
 dsimp only [argS, List.map]
 refine qG (r_asgD R R R (eN (qG ?_)))
 obtain ⟨rv, hrv, h⟩ := bnd h
 refine r_call (l_Plan_pc hrv) (.of (by kernel_rfl)) R R R R (r_alloc tb R R R R R (r_stE _ ([some ⟨4, [.d (WiPlan.d rv)]⟩]) tb R R R R R R R R R R R R (eN (qG (r_ldD (y := WiPlan.d rv) tb R R R R R R R R R ?_)))))
 obtain ⟨rv2, hrv2, h⟩ := bnd h
 refine r_callN (t' := .tup [WiState_T1 rv2.1 1 2 3, .d (.v (.int .i64 rv2.2))]) (news' := [(lvI rv2.1.used), (lvI rv2.1.credit), (lvI rv2.1.last)]) (window_Start_scr hrv2) (.of (by kernel_rfl)) R R R ((.row (.row (.row .nil)))) R R R (r_movT (.tup [WiState_T1 rv2.1 1 2 3, .d (.v (.int .i64 rv2.2))]) R R R (r_ext (t := WiState_T1 rv2.1 1 2 3) R R R R (r_ext (t := .d (.v (.int .i64 rv2.2))) R R R R (r_alloc tb R R R R R ?_))))
 refine r_stE _ ([some ⟨4, [.d (WiPlan.d rv)]⟩, some (lvI rv2.1.used), some (lvI rv2.1.credit), some (lvI rv2.1.last), some ⟨4, [WiState_T1 rv2.1 1 2 3]⟩]) tb R R R R R R R R R R R R (r_asgD R R R (eN (sw_seq (sw_dr (by kernel_rfl) (r_ldD (y := WiPlan.d rv) tb R R R R R R R R R (r_ldG tb R R R R R R R R R ?_))))))
 obtain ⟨rv3, hrv3, h⟩ := bnd h
 refine r_callN (t' := .agg [.row 5 1 0 (rv3.kinds).length, .d (.v (.int .i64 rv3.wind))]) (news' := [(lvI rv3.kinds)]) (l_A_scr hrv3) (.of (by kernel_rfl)) R R R ((.row .nil)) R R R ?_
 obtain ⟨rv4, hrv4, h⟩ := bnd h
 refine r_callLN (t' := .tup [.row 6 1 0 (rv4.1).length, .d (.v (.int .i64 rv4.2))]) (news' := [(lvI rv4.1)]) (window_Rights_scr hrv4) R ((.row (fun _ => rfl) .nil)) (.of (by kernel_rfl)) R R ((.cons (.d _) (.cons (.aggL (.cons (.row R R) (.cons (.row R R) (.cons (.row R R) (.cons (.d _) .nil))))) (.cons (.aggL (.cons (.row R R) (.cons (.d _) .nil))) (.cons (.d _) .nil))))) R ((.row .nil)) R R R ?_
 refine r_movT (.tup [.row 6 1 0 (rv4.1).length, .d (.v (.int .i64 rv4.2))]) R R R (r_ext (t := .row 6 1 0 (rv4.1).length) R R R R (r_ext (t := .d (.v (.int .i64 rv4.2))) R R R R (r_asgW R R R (r_asgD R R R (ev_endD (by kernel_rfl) (then_norm (sw_seq (sw_dr (by kernel_rfl) (r_ldD (y := WiPlan.d rv) tb R R R R R R R R R (r_ldG tb R R R R R R R R R ?_))))))))))
 obtain ⟨rv5, hrv5, h⟩ := bnd h
 refine r_call (l_B_pc hrv5) (.of (by kernel_rfl)) R R R R ?_
 obtain ⟨rv6, hrv6, h⟩ := bnd h
 refine r_callLN (t' := .tup [.row 7 1 0 (rv6.1).length, .d (.v (.int .i64 rv6.2))]) (news' := [(lvI rv6.1)]) (window_Rights_scr hrv6) R ((.row (fun _ => rfl) .nil)) (.of (by kernel_rfl)) R R ((.cons (.d _) (.cons (.aggL (.cons (.row R R) (.cons (.row R R) (.cons (.row R R) (.cons (.d _) .nil))))) (.cons (.d _) (.cons (.d _) .nil))))) R ((.row .nil)) R R R ?_
 refine r_movT (.tup [.row 7 1 0 (rv6.1).length, .d (.v (.int .i64 rv6.2))]) R R R (r_ext (t := .row 7 1 0 (rv6.1).length) R R R R (r_ext (t := .d (.v (.int .i64 rv6.2))) R R R R (r_asgW R R R (r_asgD R R R (ev_endD (by kernel_rfl) (then_norm (sw_seq (qG (r_movD R R R ?_)))))))))
 refine r_neq R R R R ?_ ?_
 ·intro c
  replace h := ifN c h
  refine r_movD R R R (r_skip R R R (r_skip R R R (r_pickT R R R R (r_movD R R R (r_skip R R R (r_skip R R R (r_pickT R R R R (r_movD R R R (r_skip R R R (r_skip R R R (r_skip R R R (r_skip R R R (r_pickT R R R R (r_movD R R R (r_skip R R R (r_skip R R R (r_skip R R R (r_skip R R R (r_pickT R R R R (eN (sw_condT R (qG (r_asgD R R R (eN (sw_ret (then_ret ?_))))))))))))))))))))))))))
  obtain rfl := sI h
  exact fin_0 (t := .d (.v (.bool false))) R R R (.cons (.tmp 0) .nil)
 intro c
 replace h := ifP c h
 refine r_movD R R R (r_movD R R R ?_)
 refine r_neq R R R R ?_ ?_
 ·intro c2
  replace h := ifN c2 h
  refine r_pickF R R R R (r_movD R R R (r_skip R R R (r_skip R R R (r_pickT R R R R (r_movD R R R (r_skip R R R (r_skip R R R (r_skip R R R (r_skip R R R (r_pickT R R R R (r_movD R R R (r_skip R R R (r_skip R R R (r_skip R R R (r_skip R R R (r_pickT R R R R (eN (sw_condT R (qG (r_asgD R R R (eN (sw_ret (then_ret ?_)))))))))))))))))))))))
  obtain rfl := sI h
  exact fin_0 (t := .d (.v (.bool false))) R R R (.cons (.tmp 0) .nil)
 intro c2
 replace h := ifP c2 h
 refine r_pickF R R R R (r_movD R R R (r_movD R R R ?_))
 refine r_neq R R R R ?_ ?_
 ·intro c3
  replace h := ifN c3 h
  refine r_pickF R R R R (r_movD R R R (r_skip R R R (r_skip R R R (r_skip R R R (r_skip R R R (r_pickT R R R R (r_movD R R R (r_skip R R R (r_skip R R R (r_skip R R R (r_skip R R R (r_pickT R R R R (eN (sw_condT R (qG (r_asgD R R R (eN (sw_ret (then_ret ?_)))))))))))))))))))
  obtain rfl := sI h
  exact fin_0 (t := .d (.v (.bool false))) R R R (.cons (.tmp 0) .nil)
 intro c3
 replace h := ifP c3 h
 refine r_pickF R R R R (r_movD R R R (r_movW R R R (r_bslice tb R R R R R R R R R R R R R ?_)))
 obtain ⟨rv7, hrv7, h⟩ := bnd h
 refine r_callLB (r_Ints_pc hrv7) (.of (by kernel_rfl)) R R ((.cons (.row R R) (.cons (.row R R) .nil))) R R ?_ ?_
 ·intro c4
  replace h := ifP c4 h
  refine r_notT R R R (r_pickF R R R R (r_movD R R R (r_movW R R R (r_bslice tb R R R R R R R R R R R R R ?_))))
  obtain ⟨rv8, hrv8, h⟩ := bnd h
  refine r_callLB (r_Ints_pc hrv8) (.of (by kernel_rfl)) R R ((.cons (.row R R) (.cons (.row R R) .nil))) R R ?_ ?_
  ·intro c5
   replace h := ifP c5 h
   refine r_notT R R R (r_pickF R R R R (eN (sw_condF R (sw_skip (then_norm (sw_seq (sw_dr (by kernel_rfl) (r_ldD (y := WiPlan.d rv) tb R R R R R R R R R (r_ldG tb R R R R R R R R R ?_)))))))))
   obtain ⟨rv9, hrv9, h⟩ := bnd h
   refine r_call (l_B_pc hrv9) (.of (by kernel_rfl)) R R R R ?_
   obtain ⟨rv10, hrv10, h⟩ := bnd h
   refine r_callL (window_Why_pc hrv10) R (.of (by kernel_rfl)) R R ((.cons (.d _) (.cons (.aggL (.cons (.row R R) (.cons (.row R R) (.cons (.row R R) (.cons (.d _) .nil))))) (.cons (.d _) (.cons (.d _) (.cons (.d _) .nil)))))) R R (r_movD R R R (r_extD (t := .v (.int .i64 rv10.1)) R R R R (r_extD (t := .v (.int .i64 rv10.2)) R R R R (r_asgD R R R (r_asgD R R R (ev_endD (by kernel_rfl) (then_norm (sw_seq (sw_dr (by kernel_rfl) (r_ldD (y := WiPlan.d rv) tb R R R R R R R R R ?_))))))))))
   refine r_ldG tb R R R R R R R R R ?_
   obtain ⟨rv11, hrv11, h⟩ := bnd h
   refine r_call (l_B_pc hrv11) (.of (by kernel_rfl)) R R R R ?_
   obtain ⟨rv12, hrv12, h⟩ := bnd h
   refine r_callL (window_Why_pc hrv12) R (.of (by kernel_rfl)) R R ((.cons (.d _) (.cons (.aggL (.cons (.row R R) (.cons (.row R R) (.cons (.row R R) (.cons (.d _) .nil))))) (.cons (.d _) (.cons (.d _) (.cons (.d _) .nil)))))) R R (r_movD R R R (r_extD (t := .v (.int .i64 rv12.1)) R R R R (r_extD (t := .v (.int .i64 rv12.2)) R R R R (r_asgD R R R (r_asgD R R R (ev_endD (by kernel_rfl) (then_norm (sw_seq (qG (r_movD R R R ?_))))))))))
   refine r_neq R R R R ?_ ?_
   ·intro c6
    replace h := ifN c6 h
    refine r_movD R R R (r_skip R R R (r_skip R R R (r_pickT R R R R (r_movD R R R (r_skip R R R (r_skip R R R (r_pickT R R R R (r_movD R R R (r_skip R R R (r_skip R R R (r_pickT R R R R (eN (sw_condT R (qG (r_asgD R R R (eN (sw_ret (then_ret ?_))))))))))))))))))
    obtain rfl := sI h
    exact fin_0 (t := .d (.v (.bool false))) R R R (.cons (.tmp 0) .nil)
   intro c6
   replace h := ifP c6 h
   refine r_movD R R R (r_movD R R R ?_)
   refine r_neq R R R R ?_ ?_
   ·intro c7
    replace h := ifN c7 h
    refine r_pickF R R R R (r_movD R R R (r_skip R R R (r_skip R R R (r_pickT R R R R (r_movD R R R (r_skip R R R (r_skip R R R (r_pickT R R R R (eN (sw_condT R (qG (r_asgD R R R (eN (sw_ret (then_ret ?_)))))))))))))))
    obtain rfl := sI h
    exact fin_0 (t := .d (.v (.bool false))) R R R (.cons (.tmp 0) .nil)
   intro c7
   replace h := ifP c7 h
   refine r_pickF R R R R (r_movD R R R (r_movD R R R ?_))
   refine r_neq R R R R ?_ ?_
   ·intro c8
    replace h := ifN c8 h
    refine r_pickF R R R R (r_movD R R R (r_skip R R R (r_skip R R R (r_pickT R R R R (eN (sw_condT R (qG (r_asgD R R R (eN (sw_ret (then_ret ?_)))))))))))
    obtain rfl := sI h
    exact fin_0 (t := .d (.v (.bool false))) R R R (.cons (.tmp 0) .nil)
   intro c8
   replace h := ifP c8 h
   refine r_pickF R R R R (r_movD R R R (r_movD R R R ?_))
   refine r_neq R R R R ?_ ?_
   ·intro c9
    replace h := ifN c9 h
    refine r_pickF R R R R (eN (sw_condT R (qG (r_asgD R R R (eN (sw_ret (then_ret ?_)))))))
    obtain rfl := sI h
    exact fin_0 (t := .d (.v (.bool false))) R R R (.cons (.tmp 0) .nil)
   intro c9
   replace h := ifP c9 h
   refine r_pickF R R R R (eN (sw_condF R (sw_skip (then_norm (sw_seq (sw_dr (by kernel_rfl) (r_ldD (y := WiPlan.d rv) tb R R R R R R R R R (r_ldG tb R R R R R R R R R ?_))))))))
   obtain ⟨rv13, hrv13, h⟩ := bnd h
   refine r_callN (t' := .agg [.row 10 1 0 (rv13.kinds).length, .d (.v (.int .i64 rv13.wind))]) (news' := [(lvI rv13.kinds)]) (l_A_scr hrv13) (.of (by kernel_rfl)) R R R ((.row .nil)) R R R ?_
   obtain ⟨rv14, hrv14, h⟩ := bnd h
   rcases Option.eq_none_or_eq_some rv14.2.2.1 with nv | ⟨t, nv⟩
   ·replace h := (optN nv).symm.trans h
    cases h
   replace h := (optS nv).symm.trans h
   by_cases c28 : t.length = 0
   ·cases (if_pos c28).symm.trans h
   replace h := ifN c28 h
   refine r_callLN (t' := .tup [.d (.v (.int .i64 rv14.1)), .d (.v (.int .i64 rv14.2.1)), .row 11 1 1 ((t).length - 1), .d (.v (.int .i64 rv14.2.2.2))]) (news' := [(lvI t)]) ((window_Turns_sco hrv14).some nv) R ((.row (fun _ => rfl) .nil)) (.of (by kernel_rfl)) R R ((.cons (.d _) (.cons (.aggL (.cons (.row R R) (.cons (.row R R) (.cons (.row R R) (.cons (.d _) .nil))))) (.cons (.aggL (.cons (.row R R) (.cons (.d _) .nil))) (.cons .nilA .nil))))) R ((.row .nil)) R R R ?_
   refine r_movT (.tup [.d (.v (.int .i64 rv14.1)), .d (.v (.int .i64 rv14.2.1)), .row 11 1 1 ((t).length - 1), .d (.v (.int .i64 rv14.2.2.2))]) R R R (r_ext (t := .d (.v (.int .i64 rv14.1))) R R R R (r_ext (t := .d (.v (.int .i64 rv14.2.1))) R R R R (r_ext (t := .row 11 1 1 ((t).length - 1)) R R R R (r_ext (t := .d (.v (.int .i64 rv14.2.2.2))) R R R R (r_asgD R R R (r_asgD R R R (r_asgW R R R (r_asgD R R R (ev_endD (by kernel_rfl) (then_norm (sw_seq (sw_dr (by kernel_rfl) ?_))))))))))))
   refine r_ldD (y := WiPlan.d rv) tb R R R R R R R R R (r_ldG tb R R R R R R R R R ?_)
   obtain ⟨rv15, hrv15, h⟩ := bnd h
   refine r_callN (t' := .agg [.row 12 1 0 (rv15.kinds).length, .d (.v (.int .i64 rv15.wind))]) (news' := [(lvI rv15.kinds)]) (l_A_scr hrv15) (.of (by kernel_rfl)) R R R ((.row .nil)) R R R ?_
   obtain ⟨rv16, hrv16, h⟩ := bnd h
   refine r_call (l_scrub_pc hrv16) (.of (by kernel_rfl)) R R R R (r_bslice tb R R R R R R R R R R R R R ?_)
   obtain ⟨rv17, hrv17, h⟩ := bnd h
   rcases Option.eq_none_or_eq_some rv17.2.2.1 with nv2 | ⟨t2, nv2⟩
   ·replace h := (optN nv2).symm.trans h
    cases h
   replace h := (optS nv2).symm.trans h
   by_cases c27 : t2.length = 0
   ·cases (if_pos c27).symm.trans h
   replace h := ifN c27 h
   refine r_callLN (t' := .tup [.d (.v (.int .i64 rv17.1)), .d (.v (.int .i64 rv17.2.1)), .row 14 1 1 ((t2).length - 1), .d (.v (.int .i64 rv17.2.2.2))]) (news' := [(lvI t2)]) ((window_Turns_sco hrv17).some nv2) R ((.row (fun _ => rfl) .nil)) (.of (by kernel_rfl)) R R ((.cons (.d _) (.cons (.aggL (.cons (.row R R) (.cons (.row R R) (.cons (.row R R) (.cons (.d _) .nil))))) (.cons (.aggL (.cons (.row R R) (.cons (.d _) .nil))) (.cons (.row R R) .nil))))) R ((.row .nil)) R R R ?_
   refine r_movT (.tup [.d (.v (.int .i64 rv17.1)), .d (.v (.int .i64 rv17.2.1)), .row 14 1 1 ((t2).length - 1), .d (.v (.int .i64 rv17.2.2.2))]) R R R (r_ext (t := .d (.v (.int .i64 rv17.1))) R R R R (r_ext (t := .d (.v (.int .i64 rv17.2.1))) R R R R (r_ext (t := .row 14 1 1 ((t2).length - 1)) R R R R (r_ext (t := .d (.v (.int .i64 rv17.2.2.2))) R R R R (r_asgD R R R (r_asgD R R R (r_asgW R R R (r_asgD R R R (ev_endD (by kernel_rfl) (then_norm (sw_seq (qG (r_movD R R R ?_)))))))))))))
   refine r_neq R R R R ?_ ?_
   ·intro c10
    replace h := ifN c10 h
    refine r_movD R R R (r_skip R R R (r_skip R R R (r_pickT R R R R (r_movD R R R (r_skip R R R (r_skip R R R (r_pickT R R R R (r_movD R R R (r_skip R R R (r_skip R R R (r_pickT R R R R (r_movD R R R (r_skip R R R (r_skip R R R (r_pickT R R R R (r_movD R R R (r_skip R R R (r_skip R R R (r_pickT R R R R (r_movD R R R (r_skip R R R (r_skip R R R (r_skip R R R (r_skip R R R (r_pickT R R R R ?_)))))))))))))))))))))))))
    refine r_movD R R R (r_skip R R R (r_skip R R R (r_skip R R R (r_skip R R R (r_pickT R R R R (eN (sw_condT R (qG (r_asgD R R R (eN (sw_ret (then_ret ?_))))))))))))
    obtain rfl := sI h
    exact fin_0 (t := .d (.v (.bool false))) R R R (.cons (.tmp 0) .nil)
   intro c10
   replace h := ifP c10 h
   refine r_movD R R R (r_movD R R R ?_)
   refine r_neq R R R R ?_ ?_
   ·intro c11
    replace h := ifN c11 h
    refine r_pickF R R R R (r_movD R R R (r_skip R R R (r_skip R R R (r_pickT R R R R (r_movD R R R (r_skip R R R (r_skip R R R (r_pickT R R R R (r_movD R R R (r_skip R R R (r_skip R R R (r_pickT R R R R (r_movD R R R (r_skip R R R (r_skip R R R (r_pickT R R R R (r_movD R R R (r_skip R R R (r_skip R R R (r_skip R R R (r_skip R R R (r_pickT R R R R (r_movD R R R (r_skip R R R (r_skip R R R ?_)))))))))))))))))))))))))
    refine r_skip R R R (r_skip R R R (r_pickT R R R R (eN (sw_condT R (qG (r_asgD R R R (eN (sw_ret (then_ret ?_)))))))))
    obtain rfl := sI h
    exact fin_0 (t := .d (.v (.bool false))) R R R (.cons (.tmp 0) .nil)
   intro c11
   replace h := ifP c11 h
   refine r_pickF R R R R (r_movD R R R (r_movD R R R ?_))
   refine r_neq R R R R ?_ ?_
   ·intro c12
    replace h := ifN c12 h
    refine r_pickF R R R R (r_movD R R R (r_skip R R R (r_skip R R R (r_pickT R R R R (r_movD R R R (r_skip R R R (r_skip R R R (r_pickT R R R R (r_movD R R R (r_skip R R R (r_skip R R R (r_pickT R R R R (r_movD R R R (r_skip R R R (r_skip R R R (r_skip R R R (r_skip R R R (r_pickT R R R R (r_movD R R R (r_skip R R R (r_skip R R R (r_skip R R R (r_skip R R R (r_pickT R R R R (eN (sw_condT R ?_))))))))))))))))))))))))))
    refine qG (r_asgD R R R (eN (sw_ret (then_ret ?_))))
    obtain rfl := sI h
    exact fin_0 (t := .d (.v (.bool false))) R R R (.cons (.tmp 0) .nil)
   intro c12
   replace h := ifP c12 h
   refine r_pickF R R R R (r_movD R R R (r_movD R R R ?_))
   refine r_neq R R R R ?_ ?_
   ·intro c13
    replace h := ifN c13 h
    refine r_pickF R R R R (r_movD R R R (r_skip R R R (r_skip R R R (r_pickT R R R R (r_movD R R R (r_skip R R R (r_skip R R R (r_pickT R R R R (r_movD R R R (r_skip R R R (r_skip R R R (r_skip R R R (r_skip R R R (r_pickT R R R R (r_movD R R R (r_skip R R R (r_skip R R R (r_skip R R R (r_skip R R R (r_pickT R R R R (eN (sw_condT R (qG (r_asgD R R R (eN (sw_ret (then_ret ?_)))))))))))))))))))))))))))
    obtain rfl := sI h
    exact fin_0 (t := .d (.v (.bool false))) R R R (.cons (.tmp 0) .nil)
   intro c13
   replace h := ifP c13 h
   refine r_pickF R R R R (r_movD R R R (r_movD R R R ?_))
   refine r_neq R R R R ?_ ?_
   ·intro c14
    replace h := ifN c14 h
    refine r_pickF R R R R (r_movD R R R (r_skip R R R (r_skip R R R (r_pickT R R R R (r_movD R R R (r_skip R R R (r_skip R R R (r_skip R R R (r_skip R R R (r_pickT R R R R (r_movD R R R (r_skip R R R (r_skip R R R (r_skip R R R (r_skip R R R (r_pickT R R R R (eN (sw_condT R (qG (r_asgD R R R (eN (sw_ret (then_ret ?_)))))))))))))))))))))))
    obtain rfl := sI h
    exact fin_0 (t := .d (.v (.bool false))) R R R (.cons (.tmp 0) .nil)
   intro c14
   replace h := ifP c14 h
   refine r_pickF R R R R (r_movD R R R (r_movD R R R ?_))
   refine r_neq R R R R ?_ ?_
   ·intro c15
    replace h := ifN c15 h
    refine r_pickF R R R R (r_movD R R R (r_skip R R R (r_skip R R R (r_skip R R R (r_skip R R R (r_pickT R R R R (r_movD R R R (r_skip R R R (r_skip R R R (r_skip R R R (r_skip R R R (r_pickT R R R R (eN (sw_condT R (qG (r_asgD R R R (eN (sw_ret (then_ret ?_)))))))))))))))))))
    obtain rfl := sI h
    exact fin_0 (t := .d (.v (.bool false))) R R R (.cons (.tmp 0) .nil)
   intro c15
   replace h := ifP c15 h
   refine r_pickF R R R R (r_movD R R R (r_movW R R R (r_bslice tb R R R R R R R R R R R R R ?_)))
   obtain ⟨rv18, hrv18, h⟩ := bnd h
   refine r_callLB (r_Ints_pc hrv18) (.of (by kernel_rfl)) R R ((.cons (.rowT R R (by omega)) (.cons (.row R R) .nil))) R R ?_ ?_
   ·intro c16
    replace h := ifP c16 h
    refine r_notT R R R (r_pickF R R R R (r_movD R R R (r_movW R R R (r_bslice tb R R R R R R R R R R R R R ?_))))
    obtain ⟨rv19, hrv19, h⟩ := bnd h
    refine r_callLB (r_Ints_pc hrv19) (.of (by kernel_rfl)) R R ((.cons (.rowT R R (by omega)) (.cons (.row R R) .nil))) R R ?_ ?_
    ·intro c17
     replace h := ifP c17 h
     refine r_notT R R R (r_pickF R R R R (eN (sw_condF R (sw_skip (then_norm (sw_seq (sw_dr (by kernel_rfl) (r_ldD (y := WiPlan.d rv) tb R R R R R R R R R (r_ldG tb R R R R R R R R R ?_)))))))))
     obtain ⟨rv20, hrv20, h⟩ := bnd h
     refine r_call (l_launch_pc hrv20) (.of (by kernel_rfl)) R R R R (r_bslice tb R R R R R R R R R R R R R ?_)
     obtain ⟨rv21, hrv21, h⟩ := bnd h
     refine r_callO (t' := .agg [.row 18 1 0 (rv21.1.sky_Kinds).length, .d (.v (.int .i64 rv21.1.sky_Wind)), .row 17 3 0 (rv21.2).length]) (ls := [some (lWiTurnd rv21.2)]) (news := [(lvI rv21.1.sky_Kinds)]) ([17]) ([some ⟨4, [.d (WiPlan.d rv)]⟩, some (lvI rv2.1.used), some (lvI rv2.1.credit), some (lvI rv2.1.last), some ⟨4, [WiState_T1 rv2.1 1 2 3]⟩, some (lvI rv3.kinds), some (lvI rv4.1), some (lvI rv6.1), some (lvI [0, 2]), some (lvI [2]), some (lvI rv13.kinds), some (lvI t), some (lvI rv15.kinds), some (lWiTurnd [rv16]), some (lvI t2), some (lvI [0, 2]), some (lvI [2]), some (lWiTurnd rv21.2), some (lvI rv21.1.sky_Kinds)]) (l_night_m_scr hrv21) (.of (by kernel_rfl)) R (.inl ⟨R, R, R⟩) R R R R ((.row R .nil)) R R R ((.row .nil)) ((.row .nil)) R R R R ?_
     obtain ⟨rv22, hrv22, h⟩ := bnd h
     refine r_callLN (t' := .tup [WiState_T1 rv22.1 19 20 21, .d (WiUse.d rv22.2.1), .d (.v (.int .i64 rv22.2.2))]) (news' := [(lvI rv22.1.used), (lvI rv22.1.credit), (lvI rv22.1.last)]) (window_Play_scr hrv22) R ((.row (fun _ => rfl) (.row (fun _ => rfl) (.row (fun _ => rfl) .nil)))) (.of (by kernel_rfl)) R R ((.cons (.d _) (.cons (.aggL (.cons (.row R R) (.cons (.row R R) (.cons (.row R R) (.cons (.d _) .nil))))) (.cons (.aggL (.cons (.row R R) (.cons (.d _) (.cons (.row R R) .nil)))) .nil)))) R ((.row (.row (.row .nil)))) R R R ?_
     refine r_movT (.tup [WiState_T1 rv22.1 19 20 21, .d (WiUse.d rv22.2.1), .d (.v (.int .i64 rv22.2.2))]) R R R (r_ext (t := WiState_T1 rv22.1 19 20 21) R R R R (r_ext (t := .d (WiUse.d rv22.2.1)) R R R R (r_ext (t := .d (.v (.int .i64 rv22.2.2))) R R R R (r_alloc tb R R R R R (r_alloc tb R R R R R ?_)))))
     refine r_stE _ ([some ⟨4, [.d (WiPlan.d rv)]⟩, some (lvI rv2.1.used), some (lvI rv2.1.credit), some (lvI rv2.1.last), some ⟨4, [WiState_T1 rv2.1 1 2 3]⟩, some (lvI rv3.kinds), some (lvI rv4.1), some (lvI rv6.1), some (lvI [0, 2]), some (lvI [2]), some (lvI rv13.kinds), some (lvI t), some (lvI rv15.kinds), some (lWiTurnd [rv16]), some (lvI t2), some (lvI [0, 2]), some (lvI [2]), some (lWiTurnd rv21.2), some (lvI rv21.1.sky_Kinds), some (lvI rv22.1.used), some (lvI rv22.1.credit), some (lvI rv22.1.last), some ⟨4, [WiState_T1 rv22.1 19 20 21]⟩, some ⟨4, [.d (.agg [.v (.int .i64 0), .v (.int .i64 0), .v (.int .i64 0), .v (.int .i64 0)])]⟩]) tb R R R R R R R R R R R R ?_
     refine r_stE _ ([some ⟨4, [.d (WiPlan.d rv)]⟩, some (lvI rv2.1.used), some (lvI rv2.1.credit), some (lvI rv2.1.last), some ⟨4, [WiState_T1 rv2.1 1 2 3]⟩, some (lvI rv3.kinds), some (lvI rv4.1), some (lvI rv6.1), some (lvI [0, 2]), some (lvI [2]), some (lvI rv13.kinds), some (lvI t), some (lvI rv15.kinds), some (lWiTurnd [rv16]), some (lvI t2), some (lvI [0, 2]), some (lvI [2]), some (lWiTurnd rv21.2), some (lvI rv21.1.sky_Kinds), some (lvI rv22.1.used), some (lvI rv22.1.credit), some (lvI rv22.1.last), some ⟨4, [WiState_T1 rv22.1 19 20 21]⟩, some ⟨4, [.d (WiUse.d rv22.2.1)]⟩]) tb R R R R R R R R R R R R ?_
     refine r_asgD R R R (ev_endD (by kernel_rfl) (then_norm (sw_seq (sw_dr (by kernel_rfl) (r_ldD (y := WiPlan.d rv) tb R R R R R R R R R (r_ldG tb R R R R R R R R R ?_))))))
     obtain ⟨rv23, hrv23, h⟩ := bnd h
     refine r_call (l_give_pc hrv23) (.of (by kernel_rfl)) R R R R ?_
     obtain ⟨rv24, hrv24, h⟩ := bnd h
     refine r_call (l_launch_pc hrv24) (.of (by kernel_rfl)) R R R R (r_bslice tb R R R R R R R R R R R R R ?_)
     obtain ⟨rv25, hrv25, h⟩ := bnd h
     refine r_callO (t' := .agg [.row 25 1 0 (rv25.1.sky_Kinds).length, .d (.v (.int .i64 rv25.1.sky_Wind)), .row 24 3 0 (rv25.2).length]) (ls := [some (lWiTurnd rv25.2)]) (news := [(lvI rv25.1.sky_Kinds)]) ([24]) ([some ⟨4, [.d (WiPlan.d rv)]⟩, some (lvI rv2.1.used), some (lvI rv2.1.credit), some (lvI rv2.1.last), some ⟨4, [WiState_T1 rv2.1 1 2 3]⟩, some (lvI rv3.kinds), some (lvI rv4.1), some (lvI rv6.1), some (lvI [0, 2]), some (lvI [2]), some (lvI rv13.kinds), some (lvI t), some (lvI rv15.kinds), some (lWiTurnd [rv16]), some (lvI t2), some (lvI [0, 2]), some (lvI [2]), some (lWiTurnd rv21.2), some (lvI rv21.1.sky_Kinds), some (lvI rv22.1.used), some (lvI rv22.1.credit), some (lvI rv22.1.last), some ⟨4, [WiState_T1 rv22.1 19 20 21]⟩, some ⟨4, [.d (WiUse.d rv22.2.1)]⟩, some (lWiTurnd rv25.2), some (lvI rv25.1.sky_Kinds)]) (l_night_m_scr hrv25) (.of (by kernel_rfl)) R (.inl ⟨R, R, R⟩) R R R R ((.row R .nil)) R R R ((.row .nil)) ((.row .nil)) R R R R ?_
     obtain ⟨rv26, hrv26, h⟩ := bnd h
     refine r_callLN (t' := .tup [WiState_T1 rv26.1 26 27 28, .d (WiUse.d rv26.2.1), .d (.v (.int .i64 rv26.2.2))]) (news' := [(lvI rv26.1.used), (lvI rv26.1.credit), (lvI rv26.1.last)]) (window_Play_scr hrv26) R ((.row (fun _ => rfl) (.row (fun _ => rfl) (.row (fun _ => rfl) .nil)))) (.of (by kernel_rfl)) R R ((.cons (.d _) (.cons (.aggL (.cons (.row R R) (.cons (.row R R) (.cons (.row R R) (.cons (.d _) .nil))))) (.cons (.aggL (.cons (.row R R) (.cons (.d _) (.cons (.row R R) .nil)))) .nil)))) R ((.row (.row (.row .nil)))) R R R ?_
     refine r_movT (.tup [WiState_T1 rv26.1 26 27 28, .d (WiUse.d rv26.2.1), .d (.v (.int .i64 rv26.2.2))]) R R R (r_ext (t := WiState_T1 rv26.1 26 27 28) R R R R (r_ext (t := .d (WiUse.d rv26.2.1)) R R R R (r_ext (t := .d (.v (.int .i64 rv26.2.2))) R R R R (r_alloc tb R R R R R (r_alloc tb R R R R R ?_)))))
     refine r_stE _ ([some ⟨4, [.d (WiPlan.d rv)]⟩, some (lvI rv2.1.used), some (lvI rv2.1.credit), some (lvI rv2.1.last), some ⟨4, [WiState_T1 rv2.1 1 2 3]⟩, some (lvI rv3.kinds), some (lvI rv4.1), some (lvI rv6.1), some (lvI [0, 2]), some (lvI [2]), some (lvI rv13.kinds), some (lvI t), some (lvI rv15.kinds), some (lWiTurnd [rv16]), some (lvI t2), some (lvI [0, 2]), some (lvI [2]), some (lWiTurnd rv21.2), some (lvI rv21.1.sky_Kinds), some (lvI rv22.1.used), some (lvI rv22.1.credit), some (lvI rv22.1.last), some ⟨4, [WiState_T1 rv22.1 19 20 21]⟩, some ⟨4, [.d (WiUse.d rv22.2.1)]⟩, some (lWiTurnd rv25.2), some (lvI rv25.1.sky_Kinds), some (lvI rv26.1.used), some (lvI rv26.1.credit), some (lvI rv26.1.last), some ⟨4, [WiState_T1 rv26.1 26 27 28]⟩, some ⟨4, [.d (.agg [.v (.int .i64 0), .v (.int .i64 0), .v (.int .i64 0), .v (.int .i64 0)])]⟩]) tb R R R R R R R R R R R R ?_
     refine r_stE _ ([some ⟨4, [.d (WiPlan.d rv)]⟩, some (lvI rv2.1.used), some (lvI rv2.1.credit), some (lvI rv2.1.last), some ⟨4, [WiState_T1 rv2.1 1 2 3]⟩, some (lvI rv3.kinds), some (lvI rv4.1), some (lvI rv6.1), some (lvI [0, 2]), some (lvI [2]), some (lvI rv13.kinds), some (lvI t), some (lvI rv15.kinds), some (lWiTurnd [rv16]), some (lvI t2), some (lvI [0, 2]), some (lvI [2]), some (lWiTurnd rv21.2), some (lvI rv21.1.sky_Kinds), some (lvI rv22.1.used), some (lvI rv22.1.credit), some (lvI rv22.1.last), some ⟨4, [WiState_T1 rv22.1 19 20 21]⟩, some ⟨4, [.d (WiUse.d rv22.2.1)]⟩, some (lWiTurnd rv25.2), some (lvI rv25.1.sky_Kinds), some (lvI rv26.1.used), some (lvI rv26.1.credit), some (lvI rv26.1.last), some ⟨4, [WiState_T1 rv26.1 26 27 28]⟩, some ⟨4, [.d (WiUse.d rv26.2.1)]⟩]) tb R R R R R R R R R R R R ?_
     refine r_asgD R R R (ev_endD (by kernel_rfl) (then_norm (sw_seq (qG (r_movD R R R ?_)))))
     refine r_neq R R R R ?_ ?_
     ·intro c18
      replace h := ifN c18 h
      refine r_movD R R R (r_skip R R R (r_skip R R R (r_pickT R R R R (r_movD R R R (r_skip R R R (r_skip R R R (r_skip R R R (r_pickT R R R R (r_movD R R R (r_skip R R R (r_skip R R R (r_skip R R R (r_pickT R R R R (eN (sw_condT R (qG (r_asgD R R R (eN (sw_ret (then_ret ?_))))))))))))))))))))
      obtain rfl := sI h
      exact fin_0 (t := .d (.v (.bool false))) R R R (.cons (.tmp 0) .nil)
     intro c18
     replace h := ifP c18 h
     refine r_movD R R R (r_movD R R R ?_)
     refine r_neq R R R R ?_ ?_
     ·intro c19
      replace h := ifN c19 h
      refine r_pickF R R R R (r_movD R R R (r_skip R R R (r_skip R R R (r_skip R R R (r_pickT R R R R (r_movD R R R (r_skip R R R (r_skip R R R (r_skip R R R (r_pickT R R R R (eN (sw_condT R (qG (r_asgD R R R (eN (sw_ret (then_ret ?_)))))))))))))))))
      obtain rfl := sI h
      exact fin_0 (t := .d (.v (.bool false))) R R R (.cons (.tmp 0) .nil)
     intro c19
     replace h := ifP c19 h
     refine r_pickF R R R R (r_movD R R R (r_ldD (y := WiUse.d rv22.2.1) tb R R R R R R R R R (r_build (v := .d (.agg [.v (.int .i64 0), .v (.int .i64 1), .v (.int .i64 160), .v (.int .i64 (-1))])) tb R R (List.cons_ne_nil _ _) R R R R R R ?_)))
     refine r_neqA (p := [.int .i64 rv22.2.1.window, .int .i64 rv22.2.1.team, .int .i64 rv22.2.1.at_, .int .i64 rv22.2.1.by_]) (q := [.int .i64 0, .int .i64 1, .int .i64 160, .int .i64 (-1)]) R R (fun o1 o2 w => ne44 rv22.2.1 (WiUse.mk 0 1 160 (-1)) o1 o2 w) R R ?_
     with_reducible apply ev_lit
     ·intro c20
      replace h := ifP c20 h
      refine r_pickF R R R R (r_movD R R R (r_skip R R R (r_skip R R R (r_skip R R R (r_pickT R R R R (eN (sw_condT R (qG (r_asgD R R R (eN (sw_ret (then_ret ?_))))))))))))
      obtain rfl := sI h
      exact fin_0 (t := .d (.v (.bool false))) R R R (.cons (.tmp 0) .nil)
     intro c20
     replace h := ifF c20 h
     refine r_pickF R R R R (r_movD R R R (r_ldD (y := WiUse.d rv26.2.1) tb R R R R R R R R R (r_build (v := .d (.agg [.v (.int .i64 0), .v (.int .i64 2), .v (.int .i64 120), .v (.int .i64 1)])) tb R R (List.cons_ne_nil _ _) R R R R R R ?_)))
     refine r_neqA (p := [.int .i64 rv26.2.1.window, .int .i64 rv26.2.1.team, .int .i64 rv26.2.1.at_, .int .i64 rv26.2.1.by_]) (q := [.int .i64 0, .int .i64 2, .int .i64 120, .int .i64 1]) R R (fun o1 o2 w => ne44 rv26.2.1 (WiUse.mk 0 2 120 1) o1 o2 w) R R ?_
     with_reducible apply ev_lit
     ·intro c21
      replace h := ifP c21 h
      refine r_pickF R R R R (eN (sw_condT R (qG (r_asgD R R R (eN (sw_ret (then_ret ?_)))))))
      obtain rfl := sI h
      exact fin_0 (t := .d (.v (.bool false))) R R R (.cons (.tmp 0) .nil)
     intro c21
     replace h := ifF c21 h
     refine r_pickF R R R R (eN (sw_condF R (sw_skip (then_norm (sw_seq (qG (r_ldG tb R R R R R R R R R (r_bslice tb R R R R R R R R R R R R R (r_bslice tb R R R R R R R R R R R R R (r_bslice tb R R R R R R R R R R R R R (r_build (v := WiState_T1 (WiState.mk [0, 1, 0] [11, 7, 1] [(-1), 1, (-1)] 1) 31 32 33) tb R R (List.cons_ne_nil _ _) R R R R R R ?_)))))))))))
     obtain ⟨rv27, hrv27, h⟩ := bnd h
     refine r_callLB (r_SameState_pc hrv27) (.of (by kernel_rfl)) R R ((.cons (.aggL (.cons (.row R R) (.cons (.row R R) (.cons (.row R R) (.cons (.d _) .nil))))) (.cons (.aggL (.cons (.row R R) (.cons (.row R R) (.cons (.row R R) (.cons (.d _) .nil))))) .nil))) R R ?_ ?_
     ·intro c22
      replace h := ifP c22 h
      refine r_notT R R R (r_movD R R R (r_ldG tb R R R R R R R R R (r_bslice tb R R R R R R R R R R R R R (r_bslice tb R R R R R R R R R R R R R (r_bslice tb R R R R R R R R R R R R R (r_build (v := WiState_T1 (WiState.mk [0, 0, 1] [11, 15, (-8)] [(-1), (-1), 1] 1) 34 35 36) tb R R (List.cons_ne_nil _ _) R R R R R R ?_))))))
      obtain ⟨rv28, hrv28, h⟩ := bnd h
      refine r_callLB (r_SameState_pc hrv28) (.of (by kernel_rfl)) R R ((.cons (.aggL (.cons (.row R R) (.cons (.row R R) (.cons (.row R R) (.cons (.d _) .nil))))) (.cons (.aggL (.cons (.row R R) (.cons (.row R R) (.cons (.row R R) (.cons (.d _) .nil))))) .nil))) R R ?_ ?_
      ·intro c23
       replace h := ifP c23 h
       refine r_notT R R R (r_pickF R R R R (eN (sw_condF R (sw_skip (then_norm (sw_seq (sw_dr (by kernel_rfl) (r_ldD (y := WiPlan.d rv) tb R R R R R R R R R ?_))))))))
       obtain ⟨rv29, hrv29, h⟩ := bnd h
       refine r_call (l_B_pc hrv29) (.of (by kernel_rfl)) R R R R ?_
       obtain ⟨rv30, hrv30, h⟩ := bnd h
       refine r_call (l_scrub_pc hrv30) (.of (by kernel_rfl)) R R R R (r_bslice tb R R R R R R R R R R R R R (r_build (v := .agg [.d (.arr 1 ((rv29.kinds).map vI)), .d (.v (.int .i64 rv29.wind)), .row 37 3 0 ([rv30]).length]) tb R R (List.cons_ne_nil _ _) R R R R R R (r_bslice tb R R R R R R R R R R R R R ?_)))
       obtain ⟨rv31, hrv31, h⟩ := bnd h
       refine r_callLN (t' := .tup [.row 39 4 0 (rv31.1).length, WiState_T1 rv31.2.1 40 41 42, .d (.v (.int .i64 rv31.2.2))]) (news' := [(lWiUsed rv31.1), (lvI rv31.2.1.used), (lvI rv31.2.1.credit), (lvI rv31.2.1.last)]) (window_Season_scr hrv31) R ((.row (fun _ => rfl) (.row (fun _ => rfl) (.row (fun _ => rfl) (.row (fun _ => rfl) .nil))))) (.of (by kernel_rfl)) R R ((.cons (.d _) (.cons (.rowL R R (.cons (.aggL (.cons (.d _) (.cons (.d _) (.cons (.row R R) .nil)))) .nil)) .nil))) R ((.row (.row (.row (.row .nil))))) R R R ?_
       refine r_movT (.tup [.row 39 4 0 (rv31.1).length, WiState_T1 rv31.2.1 40 41 42, .d (.v (.int .i64 rv31.2.2))]) R R R (r_ext (t := .row 39 4 0 (rv31.1).length) R R R R (r_ext (t := WiState_T1 rv31.2.1 40 41 42) R R R R (r_ext (t := .d (.v (.int .i64 rv31.2.2))) R R R R (r_alloc tb R R R R R (r_asgW R R R ?_)))))
       refine r_stE _ ([some ⟨4, [.d (WiPlan.d rv)]⟩, some (lvI rv2.1.used), some (lvI rv2.1.credit), some (lvI rv2.1.last), some ⟨4, [WiState_T1 rv2.1 1 2 3]⟩, some (lvI rv3.kinds), some (lvI rv4.1), some (lvI rv6.1), some (lvI [0, 2]), some (lvI [2]), some (lvI rv13.kinds), some (lvI t), some (lvI rv15.kinds), some (lWiTurnd [rv16]), some (lvI t2), some (lvI [0, 2]), some (lvI [2]), some (lWiTurnd rv21.2), some (lvI rv21.1.sky_Kinds), some (lvI rv22.1.used), some (lvI rv22.1.credit), some (lvI rv22.1.last), some ⟨4, [WiState_T1 rv22.1 19 20 21]⟩, some ⟨4, [.d (WiUse.d rv22.2.1)]⟩, some (lWiTurnd rv25.2), some (lvI rv25.1.sky_Kinds), some (lvI rv26.1.used), some (lvI rv26.1.credit), some (lvI rv26.1.last), some ⟨4, [WiState_T1 rv26.1 26 27 28]⟩, some ⟨4, [.d (WiUse.d rv26.2.1)]⟩, some (lvI [0, 1, 0]), some (lvI [11, 7, 1]), some (lvI [(-1), 1, (-1)]), some (lvI [0, 0, 1]), some (lvI [11, 15, (-8)]), some (lvI [(-1), (-1), 1]), some (lWiTurnd [rv30]), some ⟨3, [.agg [.d (.arr 1 ((rv29.kinds).map vI)), .d (.v (.int .i64 rv29.wind)), .row 37 3 0 ([rv30]).length]]⟩, some (lWiUsed rv31.1), some (lvI rv31.2.1.used), some (lvI rv31.2.1.credit), some (lvI rv31.2.1.last), some ⟨4, [WiState_T1 rv31.2.1 40 41 42]⟩]) tb R R R R R R R R R R R R ?_
       refine r_asgD R R R (ev_endD (by kernel_rfl) (then_norm (qG (r_movD R R R ?_))))
       refine r_eql R R R R ?_ ?_
       ·intro c24
        replace h := ifP c24 h
        refine r_movD R R R (r_movW R R R (r_lenR tb R R R R R ?_))
        refine r_eql R R R R ?_ ?_
        ·intro c25
         replace h := ifP c25 h
         refine r_pickT R R R R (r_movD R R R (r_fa tb R R R R R R R (r_ldD (y := .v (.int .i64 rv31.2.1.next)) tb R R R R R R R R R ?_)))
         refine r_eql R R R R ?_ ?_
         ·intro c26
          replace h := ifP c26 h
          refine r_pickT R R R R (r_movD R R R ?_)
          obtain ⟨rv32, hrv32, h⟩ := bnd h
          refine r_call (l_Awake_pc hrv32) (.of (by kernel_rfl)) R R R R (r_pickT R R R R (r_asgD R R R (eN (sw_ret ?_))))
          obtain rfl := sI h
          exact fin_0 (t := .d (.v (.bool rv32))) R R R (.cons (.tmp 0) .nil)
         intro c26
         replace h := ifN c26 h
         refine r_pickT R R R R (r_movD R R R (r_skip R R R (r_pickF R R R R (r_asgD R R R (eN (sw_ret ?_))))))
         obtain rfl := sI h
         exact fin_0 (t := .d (.v (.bool false))) R R R (.cons (.tmp 0) .nil)
        intro c25
        replace h := ifN c25 h
        refine r_pickT R R R R (r_movD R R R (r_skip R R R (r_skip R R R (r_skip R R R (r_pickF R R R R (r_movD R R R (r_skip R R R (r_pickF R R R R (r_asgD R R R (eN (sw_ret ?_)))))))))))
        obtain rfl := sI h
        exact fin_0 (t := .d (.v (.bool false))) R R R (.cons (.tmp 0) .nil)
       intro c24
       replace h := ifN c24 h
       refine r_movD R R R (r_skip R R R (r_skip R R R (r_skip R R R (r_pickF R R R R (r_movD R R R (r_skip R R R (r_skip R R R (r_skip R R R (r_pickF R R R R (r_movD R R R (r_skip R R R (r_pickF R R R R (r_asgD R R R (eN (sw_ret ?_)))))))))))))))
       obtain rfl := sI h
       exact fin_0 (t := .d (.v (.bool false))) R R R (.cons (.tmp 0) .nil)
      intro c23
      replace h := ifF c23 h
      refine r_notF R R R (r_pickF R R R R (eN (sw_condT R (qG (r_asgD R R R (eN (sw_ret (then_ret ?_))))))))
      obtain rfl := sI h
      exact fin_0 (t := .d (.v (.bool false))) R R R (.cons (.tmp 0) .nil)
     intro c22
     replace h := ifF c22 h
     refine r_notF R R R (r_movD R R R (r_skip R R R (r_skip R R R (r_skip R R R (r_skip R R R (r_skip R R R (r_skip R R R (r_skip R R R (r_pickT R R R R (eN (sw_condT R (qG (r_asgD R R R (eN (sw_ret (then_ret ?_))))))))))))))))
     obtain rfl := sI h
     exact fin_0 (t := .d (.v (.bool false))) R R R (.cons (.tmp 0) .nil)
    intro c17
    replace h := ifF c17 h
    refine r_notF R R R (r_pickF R R R R (eN (sw_condT R (qG (r_asgD R R R (eN (sw_ret (then_ret ?_))))))))
    obtain rfl := sI h
    exact fin_0 (t := .d (.v (.bool false))) R R R (.cons (.tmp 0) .nil)
   intro c16
   replace h := ifF c16 h
   refine r_notF R R R (r_pickF R R R R (r_movD R R R (r_skip R R R (r_skip R R R (r_skip R R R (r_skip R R R (r_pickT R R R R (eN (sw_condT R (qG (r_asgD R R R (eN (sw_ret (then_ret ?_))))))))))))))
   obtain rfl := sI h
   exact fin_0 (t := .d (.v (.bool false))) R R R (.cons (.tmp 0) .nil)
  intro c5
  replace h := ifF c5 h
  refine r_notF R R R (r_pickF R R R R (eN (sw_condT R (qG (r_asgD R R R (eN (sw_ret (then_ret ?_))))))))
  obtain rfl := sI h
  exact fin_0 (t := .d (.v (.bool false))) R R R (.cons (.tmp 0) .nil)
 intro c4
 replace h := ifF c4 h
 refine r_notF R R R (r_pickF R R R R (r_movD R R R (r_skip R R R (r_skip R R R (r_skip R R R (r_skip R R R (r_pickT R R R R (eN (sw_condT R (qG (r_asgD R R R (eN (sw_ret (then_ret ?_))))))))))))))
 obtain rfl := sI h
 exact fin_0 (t := .d (.v (.bool false))) R R R (.cons (.tmp 0) .nil)
end Go.Proofs.Ytdefnmcjmklohaa
