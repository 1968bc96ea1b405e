/- What functions of the program compute: plain functions, and the proofs. -/
import Derived.Test.YtdefnmcjmklohaaW2
open Go Go.Proofs.Ytdefnmcjmklohaa.Sh Go.Proofs
namespace Go.Proofs.Ytdefnmcjmklohaa
set_option linter.unusedVariables false
set_option linter.unusedSimpArgs false
set_option maxRecDepth 100000
set_option maxHeartbeats 4000000
def l_Awake (F : Nat)  : Option Bool := Option.bind (l_Plan F ) fun rv => Option.bind (window_Start F rv) fun rv2 => Option.bind (l_Plan F ) fun rv3 => Option.bind (l_A F ) fun rv4 => Option.bind (window_Rights F rv3 rv2.1 (WiSky.mk rv4.kinds rv4.wind) 100) fun rv5 => Option.bind (l_Plan F ) fun rv6 => Option.bind (l_launch F 160) fun rv7 => Option.bind (l_night_m F [rv7]) fun rv8 => Option.bind (l_launch F 130) fun rv9 => Option.bind (l_night_m F [rv9]) fun rv10 => Option.bind (l_launch F 60) fun rv11 => Option.bind (l_night_m F [rv11]) fun rv12 => Option.bind (window_Season F rv6 [(WiNight.mk rv8.1.sky_Kinds rv8.1.sky_Wind rv8.2), (WiNight.mk rv10.1.sky_Kinds rv10.1.sky_Wind rv10.2), (WiNight.mk rv12.1.sky_Kinds rv12.1.sky_Wind rv12.2)]) fun rv13 => Option.bind (l_Plan F ) fun rv14 => Option.bind (l_launch F 159) fun rv15 => Option.bind (l_night_m F [rv15]) fun rv16 => Option.bind (window_Play F rv14 rv2.1 (WiNight.mk rv16.1.sky_Kinds rv16.1.sky_Wind rv16.2)) fun rv17 => if rv2.2 = 0 then (if rv5.2 = 0 then (if rv13.2.2 = 0 then (if rv17.2.2 = 7 then (Option.bind (r_Ints F rv5.1 [1, 0, 2]) fun rv18 => if rv18 = true then (Option.bind (r_SameUses F rv13.1 [(WiUse.mk 0 1 160 (-1)), (WiUse.mk 1 0 130 (-1)), (WiUse.mk 2 1 60 (-1))]) fun rv19 => some rv19) else (some false)) else (some false)) else (some false)) else (some false)) else (some false)
theorem l_Awake_pc {F : Nat}  {r : Bool} (h : l_Awake F  = some r) : PC Try.prog 23 [] (.v (.bool r)) := by
 rw [l_Awake] at h
 refine SC.of_sw Try.func23 R R R ?_
 dsimp only [argS, List.map]
 refine qG (r_asgD R R R (eN (qG ?_)))
 obtain ⟨rv, hrv, h⟩ := bnd h
 refine r_call (l_Plan_pc hrv) (.of (by kernel_rfl)) R R R R ?_
 obtain ⟨rv2, hrv2, h⟩ := bnd h
 refine r_callN (t' := .tup [WiState_T1 rv2.1 0 1 2, .d (.v (.int .i64 rv2.2))]) (news' := [(lvI rv2.1.used), (lvI rv2.1.credit), (lvI rv2.1.last)]) (window_Start_scr hrv2) (.of (by kernel_rfl)) R R R ((.row (.row (.row .nil)))) R R R (r_movT (.tup [WiState_T1 rv2.1 0 1 2, .d (.v (.int .i64 rv2.2))]) R R R (r_ext (t := WiState_T1 rv2.1 0 1 2) R R R R (r_ext (t := .d (.v (.int .i64 rv2.2))) R R R R (r_alloc tb R R R R R ?_))))
 refine r_stE _ ([some (lvI rv2.1.used), some (lvI rv2.1.credit), some (lvI rv2.1.last), some ⟨4, [WiState_T1 rv2.1 0 1 2]⟩]) tb R R R R R R R R R R R R (r_asgD R R R (eN (sw_seq (sw_dr (by kernel_rfl) ?_))))
 obtain ⟨rv3, hrv3, h⟩ := bnd h
 refine r_call (l_Plan_pc hrv3) (.of (by kernel_rfl)) R R R R (r_ldG tb R R R R R R R R R ?_)
 obtain ⟨rv4, hrv4, h⟩ := bnd h
 refine r_callN (t' := .agg [.row 4 1 0 (rv4.kinds).length, .d (.v (.int .i64 rv4.wind))]) (news' := [(lvI rv4.kinds)]) (l_A_scr hrv4) (.of (by kernel_rfl)) R R R ((.row .nil)) R R R ?_
 obtain ⟨rv5, hrv5, h⟩ := bnd h
 refine r_callLN (t' := .tup [.row 5 1 0 (rv5.1).length, .d (.v (.int .i64 rv5.2))]) (news' := [(lvI rv5.1)]) (window_Rights_scr hrv5) R ((.row (fun _ => rfl) .nil)) (.of (by kernel_rfl)) R R ((.cons (.d _) (.cons (.aggL (.cons (.row R R) (.cons (.row R R) (.cons (.row R R) (.cons (.d _) .nil))))) (.cons (.aggL (.cons (.row R R) (.cons (.d _) .nil))) (.cons (.d _) .nil))))) R ((.row .nil)) R R R ?_
 refine r_movT (.tup [.row 5 1 0 (rv5.1).length, .d (.v (.int .i64 rv5.2))]) R R R (r_ext (t := .row 5 1 0 (rv5.1).length) R R R R (r_ext (t := .d (.v (.int .i64 rv5.2))) R R R R (r_asgW R R R (r_asgD R R R (ev_endD (by kernel_rfl) (then_norm (qG ?_)))))))
 obtain ⟨rv6, hrv6, h⟩ := bnd h
 refine r_call (l_Plan_pc hrv6) (.of (by kernel_rfl)) R R R R ?_
 obtain ⟨rv7, hrv7, h⟩ := bnd h
 refine r_call (l_launch_pc hrv7) (.of (by kernel_rfl)) R R R R (r_bslice tb R R R R R R R R R R R R R ?_)
 obtain ⟨rv8, hrv8, h⟩ := bnd h
 refine r_callO (t' := .agg [.row 7 1 0 (rv8.1.sky_Kinds).length, .d (.v (.int .i64 rv8.1.sky_Wind)), .row 6 3 0 (rv8.2).length]) (ls := [some (lWiTurnd rv8.2)]) (news := [(lvI rv8.1.sky_Kinds)]) ([6]) ([some (lvI rv2.1.used), some (lvI rv2.1.credit), some (lvI rv2.1.last), some ⟨4, [WiState_T1 rv2.1 0 1 2]⟩, some (lvI rv4.kinds), some (lvI rv5.1), some (lWiTurnd rv8.2), some (lvI rv8.1.sky_Kinds)]) (l_night_m_scr hrv8) (.of (by kernel_rfl)) R (.inl ⟨R, R, R⟩) R R R R ((.row R .nil)) R R R ((.row .nil)) ((.row .nil)) R R R R ?_
 obtain ⟨rv9, hrv9, h⟩ := bnd h
 refine r_call (l_launch_pc hrv9) (.of (by kernel_rfl)) R R R R (r_bslice tb R R R R R R R R R R R R R ?_)
 obtain ⟨rv10, hrv10, h⟩ := bnd h
 refine r_callO (t' := .agg [.row 9 1 0 (rv10.1.sky_Kinds).length, .d (.v (.int .i64 rv10.1.sky_Wind)), .row 8 3 0 (rv10.2).length]) (ls := [some (lWiTurnd rv10.2)]) (news := [(lvI rv10.1.sky_Kinds)]) ([8]) ([some (lvI rv2.1.used), some (lvI rv2.1.credit), some (lvI rv2.1.last), some ⟨4, [WiState_T1 rv2.1 0 1 2]⟩, some (lvI rv4.kinds), some (lvI rv5.1), some (lWiTurnd rv8.2), some (lvI rv8.1.sky_Kinds), some (lWiTurnd rv10.2), some (lvI rv10.1.sky_Kinds)]) (l_night_m_scr hrv10) (.of (by kernel_rfl)) R (.inl ⟨R, R, R⟩) R R R R ((.row R .nil)) R R R ((.row .nil)) ((.row .nil)) R R R R ?_
 obtain ⟨rv11, hrv11, h⟩ := bnd h
 refine r_call (l_launch_pc hrv11) (.of (by kernel_rfl)) R R R R (r_bslice tb R R R R R R R R R R R R R ?_)
 obtain ⟨rv12, hrv12, h⟩ := bnd h
 refine r_callO (t' := .agg [.row 11 1 0 (rv12.1.sky_Kinds).length, .d (.v (.int .i64 rv12.1.sky_Wind)), .row 10 3 0 (rv12.2).length]) (ls := [some (lWiTurnd rv12.2)]) (news := [(lvI rv12.1.sky_Kinds)]) ([10]) ([some (lvI rv2.1.used), some (lvI rv2.1.credit), some (lvI rv2.1.last), some ⟨4, [WiState_T1 rv2.1 0 1 2]⟩, some (lvI rv4.kinds), some (lvI rv5.1), some (lWiTurnd rv8.2), some (lvI rv8.1.sky_Kinds), some (lWiTurnd rv10.2), some (lvI rv10.1.sky_Kinds), some (lWiTurnd rv12.2), some (lvI rv12.1.sky_Kinds)]) (l_night_m_scr hrv12) (.of (by kernel_rfl)) R (.inl ⟨R, R, R⟩) R R R R ((.row R .nil)) R R R ((.row .nil)) ((.row .nil)) R R R R ?_
 refine r_bslice tb R R R R R R R R R R R R R ?_
 obtain ⟨rv13, hrv13, h⟩ := bnd h
 refine r_callLN (t' := .tup [.row 13 4 0 (rv13.1).length, WiState_T1 rv13.2.1 14 15 16, .d (.v (.int .i64 rv13.2.2))]) (news' := [(lWiUsed rv13.1), (lvI rv13.2.1.used), (lvI rv13.2.1.credit), (lvI rv13.2.1.last)]) (window_Season_scr hrv13) R ((.row (fun _ => rfl) (.row (fun _ => rfl) (.row (fun _ => rfl) (.row (fun _ => rfl) .nil))))) (.of (by kernel_rfl)) R R ((.cons (.d _) (.cons (.rowL R R (.cons (.aggL (.cons (.row R R) (.cons (.d _) (.cons (.row R R) .nil)))) (.cons (.aggL (.cons (.row R R) (.cons (.d _) (.cons (.row R R) .nil)))) (.cons (.aggL (.cons (.row R R) (.cons (.d _) (.cons (.row R R) .nil)))) .nil)))) .nil))) R ((.row (.row (.row (.row .nil))))) R R R ?_
 refine r_movT (.tup [.row 13 4 0 (rv13.1).length, WiState_T1 rv13.2.1 14 15 16, .d (.v (.int .i64 rv13.2.2))]) R R R (r_ext (t := .row 13 4 0 (rv13.1).length) R R R R (r_ext (t := WiState_T1 rv13.2.1 14 15 16) R R R R (r_ext (t := .d (.v (.int .i64 rv13.2.2))) R R R R (r_alloc tb R R R R R (r_asgW R R R ?_)))))
 refine r_stE _ ([some (lvI rv2.1.used), some (lvI rv2.1.credit), some (lvI rv2.1.last), some ⟨4, [WiState_T1 rv2.1 0 1 2]⟩, some (lvI rv4.kinds), some (lvI rv5.1), some (lWiTurnd rv8.2), some (lvI rv8.1.sky_Kinds), some (lWiTurnd rv10.2), some (lvI rv10.1.sky_Kinds), some (lWiTurnd rv12.2), some (lvI rv12.1.sky_Kinds), some ⟨3, [.agg [.row 7 1 0 (rv8.1.sky_Kinds).length, .d (.v (.int .i64 rv8.1.sky_Wind)), .row 6 3 0 (rv8.2).length], .agg [.row 9 1 0 (rv10.1.sky_Kinds).length, .d (.v (.int .i64 rv10.1.sky_Wind)), .row 8 3 0 (rv10.2).length], .agg [.row 11 1 0 (rv12.1.sky_Kinds).length, .d (.v (.int .i64 rv12.1.sky_Wind)), .row 10 3 0 (rv12.2).length]]⟩, some (lWiUsed rv13.1), some (lvI rv13.2.1.used), some (lvI rv13.2.1.credit), some (lvI rv13.2.1.last), some ⟨4, [WiState_T1 rv13.2.1 14 15 16]⟩]) tb R R R R R R R R R R R R ?_
 refine r_asgD R R R (eN (sw_seq (sw_dr (by kernel_rfl) ?_)))
 obtain ⟨rv14, hrv14, h⟩ := bnd h
 refine r_call (l_Plan_pc hrv14) (.of (by kernel_rfl)) R R R R (r_ldG tb R R R R R R R R R ?_)
 obtain ⟨rv15, hrv15, h⟩ := bnd h
 refine r_call (l_launch_pc hrv15) (.of (by kernel_rfl)) R R R R (r_bslice tb R R R R R R R R R R R R R ?_)
 obtain ⟨rv16, hrv16, h⟩ := bnd h
 refine r_callO (t' := .agg [.row 19 1 0 (rv16.1.sky_Kinds).length, .d (.v (.int .i64 rv16.1.sky_Wind)), .row 18 3 0 (rv16.2).length]) (ls := [some (lWiTurnd rv16.2)]) (news := [(lvI rv16.1.sky_Kinds)]) ([18]) ([some (lvI rv2.1.used), some (lvI rv2.1.credit), some (lvI rv2.1.last), some ⟨4, [WiState_T1 rv2.1 0 1 2]⟩, some (lvI rv4.kinds), some (lvI rv5.1), some (lWiTurnd rv8.2), some (lvI rv8.1.sky_Kinds), some (lWiTurnd rv10.2), some (lvI rv10.1.sky_Kinds), some (lWiTurnd rv12.2), some (lvI rv12.1.sky_Kinds), some ⟨3, [.agg [.row 7 1 0 (rv8.1.sky_Kinds).length, .d (.v (.int .i64 rv8.1.sky_Wind)), .row 6 3 0 (rv8.2).length], .agg [.row 9 1 0 (rv10.1.sky_Kinds).length, .d (.v (.int .i64 rv10.1.sky_Wind)), .row 8 3 0 (rv10.2).length], .agg [.row 11 1 0 (rv12.1.sky_Kinds).length, .d (.v (.int .i64 rv12.1.sky_Wind)), .row 10 3 0 (rv12.2).length]]⟩, some (lWiUsed rv13.1), some (lvI rv13.2.1.used), some (lvI rv13.2.1.credit), some (lvI rv13.2.1.last), some ⟨4, [WiState_T1 rv13.2.1 14 15 16]⟩, some (lWiTurnd rv16.2), some (lvI rv16.1.sky_Kinds)]) (l_night_m_scr hrv16) (.of (by kernel_rfl)) R (.inl ⟨R, R, R⟩) R R R R ((.row R .nil)) R R R ((.row .nil)) ((.row .nil)) R R R R ?_
 obtain ⟨rv17, hrv17, h⟩ := bnd h
 refine r_callLN (t' := .tup [WiState_T1 rv17.1 20 21 22, .d (WiUse.d rv17.2.1), .d (.v (.int .i64 rv17.2.2))]) (news' := [(lvI rv17.1.used), (lvI rv17.1.credit), (lvI rv17.1.last)]) (window_Play_scr hrv17) R ((.row (fun _ => rfl) (.row (fun _ => rfl) (.row (fun _ => rfl) .nil)))) (.of (by kernel_rfl)) R R ((.cons (.d _) (.cons (.aggL (.cons (.row R R) (.cons (.row R R) (.cons (.row R R) (.cons (.d _) .nil))))) (.cons (.aggL (.cons (.row R R) (.cons (.d _) (.cons (.row R R) .nil)))) .nil)))) R ((.row (.row (.row .nil)))) R R R ?_
 refine r_movT (.tup [WiState_T1 rv17.1 20 21 22, .d (WiUse.d rv17.2.1), .d (.v (.int .i64 rv17.2.2))]) R R R (r_ext (t := WiState_T1 rv17.1 20 21 22) R R R R (r_ext (t := .d (WiUse.d rv17.2.1)) R R R R (r_ext (t := .d (.v (.int .i64 rv17.2.2))) R R R R (r_alloc tb R R R R R (r_alloc tb R R R R R ?_)))))
 refine r_stE _ ([some (lvI rv2.1.used), some (lvI rv2.1.credit), some (lvI rv2.1.last), some ⟨4, [WiState_T1 rv2.1 0 1 2]⟩, some (lvI rv4.kinds), some (lvI rv5.1), some (lWiTurnd rv8.2), some (lvI rv8.1.sky_Kinds), some (lWiTurnd rv10.2), some (lvI rv10.1.sky_Kinds), some (lWiTurnd rv12.2), some (lvI rv12.1.sky_Kinds), some ⟨3, [.agg [.row 7 1 0 (rv8.1.sky_Kinds).length, .d (.v (.int .i64 rv8.1.sky_Wind)), .row 6 3 0 (rv8.2).length], .agg [.row 9 1 0 (rv10.1.sky_Kinds).length, .d (.v (.int .i64 rv10.1.sky_Wind)), .row 8 3 0 (rv10.2).length], .agg [.row 11 1 0 (rv12.1.sky_Kinds).length, .d (.v (.int .i64 rv12.1.sky_Wind)), .row 10 3 0 (rv12.2).length]]⟩, some (lWiUsed rv13.1), some (lvI rv13.2.1.used), some (lvI rv13.2.1.credit), some (lvI rv13.2.1.last), some ⟨4, [WiState_T1 rv13.2.1 14 15 16]⟩, some (lWiTurnd rv16.2), some (lvI rv16.1.sky_Kinds), some (lvI rv17.1.used), some (lvI rv17.1.credit), some (lvI rv17.1.last), some ⟨4, [WiState_T1 rv17.1 20 21 22]⟩, some ⟨4, [.d (.agg [.v (.int .i64 0), .v (.int .i64 0), .v (.int .i64 0), .v (.int .i64 0)])]⟩]) tb R R R R R R R R R R R R ?_
 refine r_stE _ ([some (lvI rv2.1.used), some (lvI rv2.1.credit), some (lvI rv2.1.last), some ⟨4, [WiState_T1 rv2.1 0 1 2]⟩, some (lvI rv4.kinds), some (lvI rv5.1), some (lWiTurnd rv8.2), some (lvI rv8.1.sky_Kinds), some (lWiTurnd rv10.2), some (lvI rv10.1.sky_Kinds), some (lWiTurnd rv12.2), some (lvI rv12.1.sky_Kinds), some ⟨3, [.agg [.row 7 1 0 (rv8.1.sky_Kinds).length, .d (.v (.int .i64 rv8.1.sky_Wind)), .row 6 3 0 (rv8.2).length], .agg [.row 9 1 0 (rv10.1.sky_Kinds).length, .d (.v (.int .i64 rv10.1.sky_Wind)), .row 8 3 0 (rv10.2).length], .agg [.row 11 1 0 (rv12.1.sky_Kinds).length, .d (.v (.int .i64 rv12.1.sky_Wind)), .row 10 3 0 (rv12.2).length]]⟩, some (lWiUsed rv13.1), some (lvI rv13.2.1.used), some (lvI rv13.2.1.credit), some (lvI rv13.2.1.last), some ⟨4, [WiState_T1 rv13.2.1 14 15 16]⟩, some (lWiTurnd rv16.2), some (lvI rv16.1.sky_Kinds), some (lvI rv17.1.used), some (lvI rv17.1.credit), some (lvI rv17.1.last), some ⟨4, [WiState_T1 rv17.1 20 21 22]⟩, some ⟨4, [.d (WiUse.d rv17.2.1)]⟩]) tb R R R R R R R R R R R R ?_
 refine r_asgD R R R (ev_endD (by kernel_rfl) (then_norm (qG (r_movD R R R ?_))))
 refine r_eql R R R R ?_ ?_
 ·intro c
  replace h := ifP c h
  refine r_movD R R R (r_movD R R R ?_)
  refine r_eql R R R R ?_ ?_
  ·intro c2
   replace h := ifP c2 h
   refine r_pickT R R R R (r_movD R R R (r_movD R R R ?_))
   refine r_eql R R R R ?_ ?_
   ·intro c3
    replace h := ifP c3 h
    refine r_pickT R R R R (r_movD R R R (r_movD R R R ?_))
    refine r_eql R R R R ?_ ?_
    ·intro c4
     replace h := ifP c4 h
     refine r_pickT R R R R (r_movD R R R (r_movW R R R (r_bslice tb R R R R R R R R R R R R R ?_)))
     obtain ⟨rv18, hrv18, h⟩ := bnd h
     refine r_callLB (r_Ints_pc hrv18) (.of (by kernel_rfl)) R R ((.cons (.row R R) (.cons (.row R R) .nil))) R R ?_ ?_
     ·intro c5
      replace h := ifP c5 h
      refine r_pickT R R R R (r_movD R R R (r_movW R R R (r_build (v := .d (.agg [.v (.int .i64 0), .v (.int .i64 1), .v (.int .i64 160), .v (.int .i64 (-1))])) tb R R (List.cons_ne_nil _ _) R R R R R R (r_build (v := .d (.agg [.v (.int .i64 1), .v (.int .i64 0), .v (.int .i64 130), .v (.int .i64 (-1))])) tb R R (List.cons_ne_nil _ _) R R R R R R (r_build (v := .d (.agg [.v (.int .i64 2), .v (.int .i64 1), .v (.int .i64 60), .v (.int .i64 (-1))])) tb R R (List.cons_ne_nil _ _) R R R R R R ?_)))))
      refine r_bslice tb R R R R R R R R R R R R R ?_
      obtain ⟨rv19, hrv19, h⟩ := bnd h
      refine r_callL (r_SameUses_pc hrv19) R (.of (by kernel_rfl)) R R ((.cons (.row R R) (.cons (.row R R) .nil))) R R (r_pickT R R R R (r_asgD R R R (eN (sw_ret ?_))))
      obtain rfl := sI h
      exact fin_0 (t := .d (.v (.bool rv19))) R R R (.cons (.tmp 0) .nil)
     intro c5
     replace h := ifF c5 h
     refine r_pickT R R R R (r_movD R R R (r_skip R R R (r_skip R R R (r_skip R R R (r_skip R R R (r_skip R R R (r_skip R R R (r_pickF R R R R (r_asgD R R R (eN (sw_ret ?_)))))))))))
     obtain rfl := sI h
     exact fin_0 (t := .d (.v (.bool false))) R R R (.cons (.tmp 0) .nil)
    intro c4
    replace h := ifN c4 h
    refine r_pickT R R R R (r_movD R R R (r_skip R R R (r_skip R R R (r_skip R R R (r_pickF R R R R (r_movD R R R (r_skip R R R (r_skip R R R (r_skip R R R (r_skip R R R (r_skip R R R (r_skip R R R (r_pickF R R R R (r_asgD R R R (eN (sw_ret ?_))))))))))))))))
    obtain rfl := sI h
    exact fin_0 (t := .d (.v (.bool false))) R R R (.cons (.tmp 0) .nil)
   intro c3
   replace h := ifN c3 h
   refine r_pickT R R R R (r_movD R R R (r_skip R R R (r_skip R R R (r_pickF R R R R (r_movD R R R (r_skip R R R (r_skip R R R (r_skip R R R (r_pickF R R R R (r_movD R R R (r_skip R R R (r_skip R R R (r_skip R R R (r_skip R R R (r_skip R R R (r_skip R R R (r_pickF R R R R (r_asgD R R R (eN (sw_ret ?_))))))))))))))))))))
   obtain rfl := sI h
   exact fin_0 (t := .d (.v (.bool false))) R R R (.cons (.tmp 0) .nil)
  intro c2
  replace h := ifN c2 h
  refine r_pickT R R R R (r_movD R R R (r_skip R R R (r_skip R R R (r_pickF R R R R (r_movD R R R (r_skip R R R (r_skip R R R (r_pickF R R R R (r_movD R R R (r_skip R R R (r_skip R R R (r_skip R R R (r_pickF R R R R (r_movD R R R (r_skip R R R (r_skip R R R (r_skip R R R (r_skip R R R (r_skip R R R (r_skip R R R (r_pickF R R R R (r_asgD R R R (eN (sw_ret ?_))))))))))))))))))))))))
  obtain rfl := sI h
  exact fin_0 (t := .d (.v (.bool false))) R R R (.cons (.tmp 0) .nil)
 intro c
 replace h := ifN c h
 refine r_movD R R R (r_skip R R R (r_skip R R R (r_pickF R R R R (r_movD R R R (r_skip R R R (r_skip R R R (r_pickF R R R R (r_movD R R R (r_skip R R R (r_skip R R R (r_pickF R R R R (r_movD R R R (r_skip R R R (r_skip R R R (r_skip R R R (r_pickF R R R R (r_movD R R R (r_skip R R R (r_skip R R R (r_skip R R R (r_skip R R R (r_skip R R R (r_skip R R R (r_pickF R R R R (r_asgD R R R (eN ?_))))))))))))))))))))))))))
 refine sw_ret ?_
 obtain rfl := sI h
 exact fin_0 (t := .d (.v (.bool false))) R R R (.cons (.tmp 0) .nil)
def l_WindowNamed_L1 (F : Nat) (rv4 : (Int × Int × (Option (List Int)) × Int)) (rv5 : ((List Int) × Int)) (K : Int → Int → Option Bool) : Nat → Int → Int → Option Bool
 | 0, _, _ => none
 | n + 1, x, x2 => if x2 < (rv5.1.length : Int) then (Option.bind (ixO rv5.1 x2) fun e => if e = rv4.1 then (l_WindowNamed_L1 F rv4 rv5 K n x (W (x2 + 1))) else (Option.bind (l_listed F [] e) fun rv8 => if rv8 < 0 then (Option.bind (l_listed F ([] : List Int) e) fun rv9 => if rv9 < 0 then (some false) else (l_WindowNamed_L1 F rv4 rv5 K n (W (x + 1)) (W (x2 + 1)))) else (l_WindowNamed_L1 F rv4 rv5 K n x (W (x2 + 1))))) else (K x x2)
def l_WindowNamed_L2 (F : Nat) (rv4 : (Int × Int × (Option (List Int)) × Int)) (t2 : (List Int)) (rv12 : ((List Int) × Int)) (K : Int → Int → Option Bool) : Nat → Int → Int → Option Bool
 | 0, _, _ => none
 | n + 1, x3, x4 => if x4 < (rv12.1.length : Int) then (Option.bind (ixO rv12.1 x4) fun e5 => if e5 = rv4.1 then (l_WindowNamed_L2 F rv4 t2 rv12 K n x3 (W (x4 + 1))) else (Option.bind (l_listed F [] e5) fun rv15 => if rv15 < 0 then (Option.bind (l_listed F (t2.drop 1) e5) fun rv16 => if rv16 < 0 then (some false) else (l_WindowNamed_L2 F rv4 t2 rv12 K n (W (x3 + 1)) (W (x4 + 1)))) else (l_WindowNamed_L2 F rv4 t2 rv12 K n x3 (W (x4 + 1))))) else (K x3 x4)
def l_WindowNamed_L3 (F : Nat) (rv4 : (Int × Int × (Option (List Int)) × Int)) (rv5 : ((List Int) × Int)) (K : Int → Int → Option Bool) : Nat → Int → Int → Option Bool
 | 0, _, _ => none
 | n + 1, x, x2 => if x2 < (rv5.1.length : Int) then (Option.bind (ixO rv5.1 x2) fun e => if e = rv4.1 then (l_WindowNamed_L3 F rv4 rv5 K n x (W (x2 + 1))) else (Option.bind (l_listed F ([] : List Int) e) fun rv8 => if rv8 < 0 then (Option.bind (l_listed F ([] : List Int) e) fun rv9 => if rv9 < 0 then (some false) else (l_WindowNamed_L3 F rv4 rv5 K n (W (x + 1)) (W (x2 + 1)))) else (l_WindowNamed_L3 F rv4 rv5 K n x (W (x2 + 1))))) else (K x x2)
def l_WindowNamed_L4 (F : Nat) (rv4 : (Int × Int × (Option (List Int)) × Int)) (t2 : (List Int)) (rv12 : ((List Int) × Int)) (K : Int → Int → Option Bool) : Nat → Int → Int → Option Bool
 | 0, _, _ => none
 | n + 1, x3, x4 => if x4 < (rv12.1.length : Int) then (Option.bind (ixO rv12.1 x4) fun e5 => if e5 = rv4.1 then (l_WindowNamed_L4 F rv4 t2 rv12 K n x3 (W (x4 + 1))) else (Option.bind (l_listed F ([] : List Int) e5) fun rv15 => if rv15 < 0 then (Option.bind (l_listed F (t2.drop 1) e5) fun rv16 => if rv16 < 0 then (some false) else (l_WindowNamed_L4 F rv4 t2 rv12 K n (W (x3 + 1)) (W (x4 + 1)))) else (l_WindowNamed_L4 F rv4 t2 rv12 K n x3 (W (x4 + 1))))) else (K x3 x4)
def l_WindowNamed_L5 (F : Nat) (lv : (List Int)) (x : Int) (rv4 : (Int × Int × (Option (List Int)) × Int)) (rv5 : ((List Int) × Int)) (K : Int → Int → Option Bool) : Nat → Int → Int → Option Bool
 | 0, _, _ => none
 | n + 1, x3, x4 => if x4 < (rv5.1.length : Int) then (Option.bind (ixO rv5.1 x4) fun e => if e = rv4.1 then (l_WindowNamed_L5 F lv x rv4 rv5 K n x3 (W (x4 + 1))) else (Option.bind (l_listed F lv e) fun rv8 => if rv8 < 0 then (if x < 0 then (Option.bind (l_listed F ([] : List Int) e) fun rv9 => if rv9 < 0 then (some false) else (l_WindowNamed_L5 F lv x rv4 rv5 K n (W (x3 + 1)) (W (x4 + 1)))) else (l_WindowNamed_L5 F lv x rv4 rv5 K n (W (x3 + 1)) (W (x4 + 1)))) else (l_WindowNamed_L5 F lv x rv4 rv5 K n x3 (W (x4 + 1))))) else (K x3 x4)
def l_WindowNamed_L6 (F : Nat) (lv : (List Int)) (x : Int) (rv4 : (Int × Int × (Option (List Int)) × Int)) (t2 : (List Int)) (rv14 : ((List Int) × Int)) (K : Int → Int → Option Bool) : Nat → Int → Int → Option Bool
 | 0, _, _ => none
 | n + 1, x5, x6 => if x6 < (rv14.1.length : Int) then (Option.bind (ixO rv14.1 x6) fun e7 => if e7 = rv4.1 then (l_WindowNamed_L6 F lv x rv4 t2 rv14 K n x5 (W (x6 + 1))) else (Option.bind (l_listed F lv e7) fun rv17 => if rv17 < 0 then (if x < 0 then (Option.bind (l_listed F (t2.drop 1) e7) fun rv18 => if rv18 < 0 then (some false) else (l_WindowNamed_L6 F lv x rv4 t2 rv14 K n (W (x5 + 1)) (W (x6 + 1)))) else (l_WindowNamed_L6 F lv x rv4 t2 rv14 K n (W (x5 + 1)) (W (x6 + 1)))) else (l_WindowNamed_L6 F lv x rv4 t2 rv14 K n x5 (W (x6 + 1))))) else (K x5 x6)
def l_WindowNamed_L7 (F : Nat) (t : WiPlan) (o : WiState) (a : WiNight) (rv : (WiState × WiUse × Int)) (K : (List Int) → Int → Int → Option Bool) : Nat → (List Int) → Int → Int → Option Bool
 | 0, _, _, _ => none
 | n + 1, lv, x, x2 => if x2 < (a.turns.length : Int) then (Option.bind (cutO a.turns 0 x2) fun q => Option.bind (window_Turns F t o (WiSky.mk a.sky_Kinds a.sky_Wind) q) fun rv4 => optE rv4.2.2.1 (Option.bind (window_Rights F t o (WiSky.mk a.sky_Kinds a.sky_Wind) rv4.2.1) fun rv5 => if rv4.2.2.2 = 0 then (if rv5.2 = 0 then (Option.bind (l_listed F rv5.1 rv4.1) fun rv6 => if rv6 < 0 then (some false) else (Option.bind (l_listed F lv rv4.1) fun rv7 => if 0 ≤ rv7 then (some false) else (l_WindowNamed_L5 F lv x rv4 rv5 (fun (x3 : Int) (x4 : Int) => Option.bind (ixO a.turns x2) fun e2 => if 0 ≤ x then (if x = rv4.1 then (if e2.what = 1 then (if x2 = (W ((a.turns.length : Int) - 1)) then (if rv.2.1.team = rv4.1 then (if rv.2.1.at_ = e2.at_ then (if ((decide (0 ≤ rv.2.1.by_)) != (decide (0 ≤ x))) = true then (some false) else (Option.bind (l_sum F rv.1.credit) fun rv10 => Option.bind (l_sum F o.credit) fun rv11 => if rv10 = (W ((W (rv11 - t.cost)) + x3)) then (if (rv.1.used.length : Int) ≤ rv4.1 then (some false) else (if (o.used.length : Int) ≤ rv4.1 then (some false) else (Option.bind (ixO rv.1.used rv4.1) fun e3 => Option.bind (ixO o.used rv4.1) fun e4 => if e3 = (W (e4 + 1)) then (if e2.what = 3 then (Option.bind (appO lv [rv4.1]) fun q2 => l_WindowNamed_L7 F t o a rv K n q2 e2.to_ (W (x2 + 1))) else (Option.bind (appO lv [rv4.1]) fun q3 => l_WindowNamed_L7 F t o a rv K n q3 (-1) (W (x2 + 1)))) else (some false)))) else (some false))) else (some false)) else (some false)) else (some false)) else (if e2.what = 3 then (Option.bind (appO lv [rv4.1]) fun q4 => l_WindowNamed_L7 F t o a rv K n q4 e2.to_ (W (x2 + 1))) else (Option.bind (appO lv [rv4.1]) fun q5 => l_WindowNamed_L7 F t o a rv K n q5 (-1) (W (x2 + 1))))) else (some false)) else (if e2.what = 1 then (if x2 = (W ((a.turns.length : Int) - 1)) then (if rv.2.1.team = rv4.1 then (if rv.2.1.at_ = e2.at_ then (if ((decide (0 ≤ rv.2.1.by_)) != (decide (0 ≤ x))) = true then (some false) else (Option.bind (l_sum F rv.1.credit) fun rv12 => Option.bind (l_sum F o.credit) fun rv13 => if rv12 = (W ((W (rv13 - t.cost)) + x3)) then (if (rv.1.used.length : Int) ≤ rv4.1 then (some false) else (if (o.used.length : Int) ≤ rv4.1 then (some false) else (Option.bind (ixO rv.1.used rv4.1) fun e5 => Option.bind (ixO o.used rv4.1) fun e6 => if e5 = (W (e6 + 1)) then (if e2.what = 3 then (Option.bind (appO lv [rv4.1]) fun q6 => l_WindowNamed_L7 F t o a rv K n q6 e2.to_ (W (x2 + 1))) else (Option.bind (appO lv [rv4.1]) fun q7 => l_WindowNamed_L7 F t o a rv K n q7 (-1) (W (x2 + 1)))) else (some false)))) else (some false))) else (some false)) else (some false)) else (some false)) else (if e2.what = 3 then (Option.bind (appO lv [rv4.1]) fun q8 => l_WindowNamed_L7 F t o a rv K n q8 e2.to_ (W (x2 + 1))) else (Option.bind (appO lv [rv4.1]) fun q9 => l_WindowNamed_L7 F t o a rv K n q9 (-1) (W (x2 + 1)))))) F 0 0))) else (some false)) else (some false)) (fun t2 => if t2.length = 0 then none else (Option.bind (window_Rights F t o (WiSky.mk a.sky_Kinds a.sky_Wind) rv4.2.1) fun rv14 => if rv4.2.2.2 = 0 then (if rv14.2 = 0 then (Option.bind (l_listed F rv14.1 rv4.1) fun rv15 => if rv15 < 0 then (some false) else (Option.bind (l_listed F lv rv4.1) fun rv16 => if 0 ≤ rv16 then (some false) else (l_WindowNamed_L6 F lv x rv4 t2 rv14 (fun (x5 : Int) (x6 : Int) => Option.bind (ixO a.turns x2) fun e8 => if 0 ≤ x then (if x = rv4.1 then (if e8.what = 1 then (if x2 = (W ((a.turns.length : Int) - 1)) then (if rv.2.1.team = rv4.1 then (if rv.2.1.at_ = e8.at_ then (if ((decide (0 ≤ rv.2.1.by_)) != (decide (0 ≤ x))) = true then (some false) else (Option.bind (l_sum F rv.1.credit) fun rv19 => Option.bind (l_sum F o.credit) fun rv20 => if rv19 = (W ((W (rv20 - t.cost)) + x5)) then (if (rv.1.used.length : Int) ≤ rv4.1 then (some false) else (if (o.used.length : Int) ≤ rv4.1 then (some false) else (Option.bind (ixO rv.1.used rv4.1) fun e9 => Option.bind (ixO o.used rv4.1) fun e10 => if e9 = (W (e10 + 1)) then (if e8.what = 3 then (Option.bind (appO lv [rv4.1]) fun q10 => l_WindowNamed_L7 F t o a rv K n q10 e8.to_ (W (x2 + 1))) else (Option.bind (appO lv [rv4.1]) fun q11 => l_WindowNamed_L7 F t o a rv K n q11 (-1) (W (x2 + 1)))) else (some false)))) else (some false))) else (some false)) else (some false)) else (some false)) else (if e8.what = 3 then (Option.bind (appO lv [rv4.1]) fun q12 => l_WindowNamed_L7 F t o a rv K n q12 e8.to_ (W (x2 + 1))) else (Option.bind (appO lv [rv4.1]) fun q13 => l_WindowNamed_L7 F t o a rv K n q13 (-1) (W (x2 + 1))))) else (some false)) else (if e8.what = 1 then (if x2 = (W ((a.turns.length : Int) - 1)) then (if rv.2.1.team = rv4.1 then (if rv.2.1.at_ = e8.at_ then (if ((decide (0 ≤ rv.2.1.by_)) != (decide (0 ≤ x))) = true then (some false) else (Option.bind (l_sum F rv.1.credit) fun rv21 => Option.bind (l_sum F o.credit) fun rv22 => if rv21 = (W ((W (rv22 - t.cost)) + x5)) then (if (rv.1.used.length : Int) ≤ rv4.1 then (some false) else (if (o.used.length : Int) ≤ rv4.1 then (some false) else (Option.bind (ixO rv.1.used rv4.1) fun e11 => Option.bind (ixO o.used rv4.1) fun e12 => if e11 = (W (e12 + 1)) then (if e8.what = 3 then (Option.bind (appO lv [rv4.1]) fun q14 => l_WindowNamed_L7 F t o a rv K n q14 e8.to_ (W (x2 + 1))) else (Option.bind (appO lv [rv4.1]) fun q15 => l_WindowNamed_L7 F t o a rv K n q15 (-1) (W (x2 + 1)))) else (some false)))) else (some false))) else (some false)) else (some false)) else (some false)) else (if e8.what = 3 then (Option.bind (appO lv [rv4.1]) fun q16 => l_WindowNamed_L7 F t o a rv K n q16 e8.to_ (W (x2 + 1))) else (Option.bind (appO lv [rv4.1]) fun q17 => l_WindowNamed_L7 F t o a rv K n q17 (-1) (W (x2 + 1)))))) F 0 0))) else (some false)) else (some false)))) else (K lv x x2)
def l_WindowNamed (F : Nat) (t : WiPlan) (o : WiState) (a : WiNight) : Option Bool := Option.bind (window_Play F t o a) fun rv => if rv.2.2 = 0 then (if 16 < (a.turns.length : Int) then (Option.bind (l_Awake 100 ) fun rv3 => some rv3) else (l_WindowNamed_L7 F t o a rv (fun (lv : (List Int)) (x : Int) (x2 : Int) => if 0 ≤ rv.2.1.team then (if rv.1.next = (W (o.next + 1)) then (Option.bind (l_Awake 100 ) fun rv23 => some rv23) else (some false)) else (Option.bind (l_sum F rv.1.credit) fun rv24 => Option.bind (l_sum F o.credit) fun rv25 => if rv24 = rv25 then (if rv.1.next = (W (o.next + 1)) then (Option.bind (l_Awake 100 ) fun rv26 => some rv26) else (some false)) else (some false))) F ([] : List Int) (-1) 0)) else (Option.bind (l_Awake 100 ) fun rv2 => some rv2)
theorem l_WindowNamed_pc {F : Nat} {t : WiPlan} {o : WiState} {a : WiNight} {r : Bool} (h : l_WindowNamed F t o a = some r) : PC Try.prog 9 [WiPlan.d t, WiState.d o, WiNight.d a] (.v (.bool r)) := by
 rw [l_WindowNamed] at h
 refine SC.of_sw Try.func9 R R R ?_
 dsimp only [argS, List.map]
 refine qG (r_box R R R R R R R (r_box R R R R R R R (r_box R R R R R R R (r_asgD R R R (eN (qG (r_ldD (y := WiPlan.d t) tb R R R R R R R R R (r_ldD (y := WiState.d o) tb R R R R R R R R R (r_ldD (y := WiNight.d a) tb R R R R R R R R R ?_)))))))))
 obtain ⟨rv, hrv, h⟩ := bnd h
 refine r_callN (t' := .tup [WiState_T1 rv.1 3 4 5, .d (WiUse.d rv.2.1), .d (.v (.int .i64 rv.2.2))]) (news' := [(lvI rv.1.used), (lvI rv.1.credit), (lvI rv.1.last)]) (window_Play_scr hrv) (.of (by kernel_rfl)) R R R ((.row (.row (.row .nil)))) R R R (r_movT (.tup [WiState_T1 rv.1 3 4 5, .d (WiUse.d rv.2.1), .d (.v (.int .i64 rv.2.2))]) R R R (r_ext (t := WiState_T1 rv.1 3 4 5) R R R R (r_ext (t := .d (WiUse.d rv.2.1)) R R R R (r_ext (t := .d (.v (.int .i64 rv.2.2))) R R R R (r_alloc tb R R R R R ?_)))))
 refine r_alloc tb R R R R R (r_stE _ ([some ⟨4, [.d (WiPlan.d t)]⟩, some ⟨4, [.d (WiState.d o)]⟩, some ⟨3, [.d (WiNight.d a)]⟩, some (lvI rv.1.used), some (lvI rv.1.credit), some (lvI rv.1.last), some ⟨4, [WiState_T1 rv.1 3 4 5]⟩, some ⟨4, [.d (.agg [.v (.int .i64 0), .v (.int .i64 0), .v (.int .i64 0), .v (.int .i64 0)])]⟩]) tb R R R R R R R R R R R R ?_)
 refine r_stE _ ([some ⟨4, [.d (WiPlan.d t)]⟩, some ⟨4, [.d (WiState.d o)]⟩, some ⟨3, [.d (WiNight.d a)]⟩, some (lvI rv.1.used), some (lvI rv.1.credit), some (lvI rv.1.last), some ⟨4, [WiState_T1 rv.1 3 4 5]⟩, some ⟨4, [.d (WiUse.d rv.2.1)]⟩]) tb R R R R R R R R R R R R (r_asgD R R R (eN (sw_seq (qG (r_movD R R R ?_)))))
 refine r_neq R R R R ?_ ?_
 ·intro c
  replace h := ifN c h
  refine r_movD R R R (r_skip R R R (r_skip R R R (r_skip R R R (r_skip R R R (r_pickT R R R R (eN (sw_condT R (qG ?_))))))))
  obtain ⟨rv2, hrv2, h⟩ := bnd h
  refine r_call (l_Awake_pc hrv2) (.of (by kernel_rfl)) R R R R (r_asgD R R R (eN (sw_ret (then_ret ?_))))
  obtain rfl := sI h
  exact fin_0 (t := .d (.v (.bool rv2))) R R R (.cons (.tmp 6) .nil)
 intro c
 replace h := ifP c h
 refine r_movD R R R (r_fa tb R R R R R R R (r_ldD (y := .arr 3 ((a.turns).map WiTurn.d)) tb R R R R R R R R R (r_lenM tb R R R R R ?_)))
 refine r_gtr R R R R ?_ ?_
 ·intro c2
  replace h := ifP c2 h
  refine r_pickF R R R R (eN (sw_condT R (qG ?_)))
  obtain ⟨rv3, hrv3, h⟩ := bnd h
  refine r_call (l_Awake_pc hrv3) (.of (by kernel_rfl)) R R R R (r_asgD R R R (eN (sw_ret (then_ret ?_))))
  obtain rfl := sI h
  exact fin_0 (t := .d (.v (.bool rv3))) R R R (.cons (.tmp 6) .nil)
 intro c2
 replace h := ifN (Int.not_lt.2 c2) h
 refine r_pickF R R R R (eN (sw_condF R (sw_skip (then_norm (qG (r_asgD R R R (eN (qG (r_asgD R R R (eN (sw_seq (qG (r_asgD R R R (eN (sw_block ?_)))))))))))))))
 refine SW.own (ts' := [(3, .ref 0 4 0 0), (4, .ref 1 4 0 0), (5, .ref 2 3 0 0), (6, .d (.v (.bool false))), (7, .ref 6 4 0 0), (8, .ref 7 4 0 0), (10, .row 8 1 0 (([] : List Int)).length), (11, .d (.v (.int .i64 (-1)))), (12, .d (.v (.int .i64 0)))]) (L' := [some ⟨4, [.d (WiPlan.d t)]⟩, some ⟨4, [.d (WiState.d o)]⟩, some ⟨3, [.d (WiNight.d a)]⟩, some (lvI rv.1.used), some (lvI rv.1.credit), some (lvI rv.1.last), some ⟨4, [WiState_T1 rv.1 3 4 5]⟩, some ⟨4, [.d (WiUse.d rv.2.1)]⟩]) 1 R R (.cons (.same _) (.cons (.same _) (.cons (.same _) (.cons (.same _) (.cons (.same _) (.cons (.same _) (.cons .nil (.cons (.same _) (.cons (.same _) .nil))))))))) (.same (.same (.same (.same (.same (.same (.same (.same .nil)))))))) ?_
 simp only [List.cons_append, List.nil_append]
 obtain ⟨K8, hK8, h⟩ : ∃ K, K = _ ∧ l_WindowNamed_L7 F t o a rv K F ([] : List Int) (-1) 0 = some r := ⟨_, rfl, h⟩
 refine sw_loop (st0 := ⟨[(3, .ref 0 4 0 0), (4, .ref 1 4 0 0), (5, .ref 2 3 0 0), (6, .d (.v (.bool false))), (7, .ref 3 4 0 0), (8, .ref 7 4 0 0), (10, .row 8 1 0 (([] : List Int)).length), (11, .d (.v (.int .i64 (-1)))), (12, .d (.v (.int .i64 0)))], [some ⟨4, [.d (WiPlan.d t)]⟩, some ⟨4, [.d (WiState.d o)]⟩, some ⟨3, [.d (WiNight.d a)]⟩, some ⟨4, [WiState_T1 rv.1 4 5 6]⟩, some (lvI rv.1.used), some (lvI rv.1.credit), some (lvI rv.1.last), some ⟨4, [.d (WiUse.d rv.2.1)]⟩, some (lvI ([] : List Int))]⟩) (κ := [0, 1, 2, 6, 3, 4, 5, 7, 8]) (fun m st => ∃ (lv : (List Int)) (x : Int) (x2 : Int), l_WindowNamed_L7 F t o a rv K8 m lv x x2 = some r ∧ st = ⟨[(3, .ref 0 4 0 0), (4, .ref 1 4 0 0), (5, .ref 2 3 0 0), (6, .d (.v (.bool false))), (7, .ref 3 4 0 0), (8, .ref 7 4 0 0), (10, .row 8 1 0 (lv).length), (11, .d (.v (.int .i64 x))), (12, .d (.v (.int .i64 x2)))], [some ⟨4, [.d (WiPlan.d t)]⟩, some ⟨4, [.d (WiState.d o)]⟩, some ⟨3, [.d (WiNight.d a)]⟩, some ⟨4, [WiState_T1 rv.1 4 5 6]⟩, some (lvI rv.1.used), some (lvI rv.1.credit), some (lvI rv.1.last), some ⟨4, [.d (WiUse.d rv.2.1)]⟩, some (lvI lv)]⟩) (vwK R R (.cons R R (.cons R R (.cons R R (.cons R R (.row R (.row R (.row R (.cons R R (.row R .nil))))))))) (.cons R R (.cons R R (.cons R R (.cons R R (.cons R R (.cons R R (.cons R R (.cons R R (.cons R R .nil)))))))))) ⟨([] : List Int), (-1), 0, h, R⟩ ?_
 clear h
 rintro m8 st ⟨lv, x, x2, h, rfl⟩
 cases m8 with
 | zero => cases (show (none : Option Bool) = some r from h)
 | succ m8 =>
 rw [l_WindowNamed_L7] at h
 refine sw_seq (qG (r_movD R R R (r_fa tb R R R R R R R (r_ldD (y := .arr 3 ((a.turns).map WiTurn.d)) tb R R R R R R R R R (r_lenM tb R R R R R ?_)))))
 refine r_lss R R R R ?_ ?_
 ·intro c3
  replace h := ifP c3 h
  refine eN (sw_condT R (sw_skip (then_norm (sw_seq (sw_block (sw_seq (sw_dr (by kernel_rfl) (r_ldD (y := WiPlan.d t) tb R R R R R R R R R (r_ldD (y := WiState.d o) tb R R R R R R R R R (r_fa tb R R R R R R R (r_ldD (y := .agg [.arr 1 ((a.sky_Kinds).map vI), .v (.int .i64 a.sky_Wind)]) tb R R R R R R R R R (r_fa tb R R R R R R R (r_ldD (y := .arr 3 ((a.turns).map WiTurn.d)) tb R R R R R R R R R (r_movD R R R ?_))))))))))))))
  obtain ⟨q, iq, h⟩ := bnd h
  refine r_sliceT tb R R R R R R iq R R ?_
  obtain ⟨rv4, hrv4, h⟩ := bnd h
  rcases Option.eq_none_or_eq_some rv4.2.2.1 with nv | ⟨t2, nv⟩
  ·replace h := (optN nv).symm.trans h
   refine r_callO (t' := .d (.tup [.v (.int .i64 rv4.1), .v (.int .i64 rv4.2.1), .arr 1 ((([] : List Int)).map vI), .v (.int .i64 rv4.2.2.2)])) (ls := []) (news := []) ([]) ([some ⟨4, [.d (WiPlan.d t)]⟩, some ⟨4, [.d (WiState.d o)]⟩, some ⟨3, [.d (WiNight.d a)]⟩, some ⟨4, [WiState_T1 rv.1 4 5 6]⟩, some (lvI rv.1.used), some (lvI rv.1.credit), some (lvI rv.1.last), some ⟨4, [.d (WiUse.d rv.2.1)]⟩, some (lvI lv)]) ((window_Turns_sco hrv4).none nv) (.of (by kernel_rfl)) R (.inl ⟨R, R, R⟩) R R R R .nil R R R .nil .nil R R R R (r_movD R R R ?_)
   refine r_extD (t := .v (.int .i64 rv4.1)) R R R R (r_extD (t := .v (.int .i64 rv4.2.1)) R R R R (r_extD (t := .arr 1 ((([] : List Int)).map vI)) R R R R (r_extD (t := .v (.int .i64 rv4.2.2.2)) R R R R (r_asgD R R R (r_asgD R R R (r_asgD R R R (r_asgD R R R (ev_endD (by kernel_rfl) (then_norm (qG (r_ldD (y := WiPlan.d t) tb R R R R R R R R R (r_ldD (y := WiState.d o) tb R R R R R R R R R (r_fa tb R R R R R R R ?_)))))))))))))
   refine r_ldD (y := .agg [.arr 1 ((a.sky_Kinds).map vI), .v (.int .i64 a.sky_Wind)]) tb R R R R R R R R R (r_movD R R R ?_)
   obtain ⟨rv5, hrv5, h⟩ := bnd h
   refine r_callN (t' := .tup [.row 9 1 0 (rv5.1).length, .d (.v (.int .i64 rv5.2))]) (news' := [(lvI rv5.1)]) (window_Rights_scr hrv5) (.of (by kernel_rfl)) R R R ((.row .nil)) R R R (r_movT (.tup [.row 9 1 0 (rv5.1).length, .d (.v (.int .i64 rv5.2))]) R R R (r_ext (t := .row 9 1 0 (rv5.1).length) R R R R (r_ext (t := .d (.v (.int .i64 rv5.2))) R R R R (r_asgW R R R (r_asgD R R R (eN (sw_seq (qG (r_movD R R R ?_)))))))))
   refine r_neq R R R R ?_ ?_
   ·intro c4
    replace h := ifN c4 h
    refine r_movD R R R (r_skip R R R (r_skip R R R (r_pickT R R R R (r_movD R R R (r_skip R R R (r_skip R R R (r_skip R R R (r_skip R R R (r_pickT R R R R (r_movD R R R (r_skip R R R (r_skip R R R (r_skip R R R (r_skip R R R (r_pickT R R R R (eN (sw_condT R (qG (r_asgD R R R (eN (sw_ret (then_ret (block_ret (then_ret (then_ret (block_ret (then_ret ?_)))))))))))))))))))))))))))
    obtain rfl := sI h
    exact fin_0 (t := .d (.v (.bool false))) R R R (.cons (.tmp 6) .nil)
   intro c4
   replace h := ifP c4 h
   refine r_movD R R R (r_movD R R R ?_)
   refine r_neq R R R R ?_ ?_
   ·intro c5
    replace h := ifN c5 h
    refine r_pickF R R R R (r_movD R R R (r_skip R R R (r_skip R R R (r_skip R R R (r_skip R R R (r_pickT R R R R (r_movD R R R (r_skip R R R (r_skip R R R (r_skip R R R (r_skip R R R (r_pickT R R R R (eN (sw_condT R (qG (r_asgD R R R (eN (sw_ret (then_ret (block_ret (then_ret (then_ret (block_ret (then_ret ?_))))))))))))))))))))))))
    obtain rfl := sI h
    exact fin_0 (t := .d (.v (.bool false))) R R R (.cons (.tmp 6) .nil)
   intro c5
   replace h := ifP c5 h
   refine r_pickF R R R R (r_movD R R R (r_movW R R R (r_movD R R R ?_)))
   obtain ⟨rv6, hrv6, h⟩ := bnd h
   refine r_callL (l_listed_pc hrv6) R (.of (by kernel_rfl)) R R ((.cons (.row R R) (.cons (.d _) .nil))) R R ?_
   refine r_lss R R R R ?_ ?_
   ·intro c6
    replace h := ifP c6 h
    refine r_pickF R R R R (r_movD R R R (r_skip R R R (r_skip R R R (r_skip R R R (r_skip R R R (r_pickT R R R R (eN (sw_condT R (qG (r_asgD R R R (eN (sw_ret (then_ret (block_ret (then_ret (then_ret (block_ret (then_ret ?_))))))))))))))))))
    obtain rfl := sI h
    exact fin_0 (t := .d (.v (.bool false))) R R R (.cons (.tmp 6) .nil)
   intro c6
   replace h := ifN (Int.not_lt.2 c6) h
   refine r_pickF R R R R (r_movD R R R (r_movW R R R (r_movD R R R ?_)))
   obtain ⟨rv7, hrv7, h⟩ := bnd h
   refine r_callL (l_listed_pc hrv7) R (.of (by kernel_rfl)) R R ((.cons (.row R R) (.cons (.d _) .nil))) R R ?_
   refine r_geq R R R R ?_ ?_
   ·intro c7
    replace h := ifP c7 h
    refine r_pickF R R R R (eN (sw_condT R (qG (r_asgD R R R (eN (sw_ret (then_ret (block_ret (then_ret (then_ret (block_ret (then_ret ?_))))))))))))
    obtain rfl := sI h
    exact fin_0 (t := .d (.v (.bool false))) R R R (.cons (.tmp 6) .nil)
   intro c7
   replace h := ifN (Int.not_le.2 c7) h
   refine r_pickF R R R R (eN (sw_condF R (sw_skip (then_norm (qG (r_asgD R R R (eN (sw_seq (qG (r_asgD R R R (eN (sw_block ?_))))))))))))
   obtain ⟨K9, hK9, h⟩ : ∃ K, K = _ ∧ l_WindowNamed_L5 F lv x rv4 rv5 K F 0 0 = some r := ⟨_, rfl, h⟩
   refine sw_loop (st0 := ⟨[(3, .ref 0 4 0 0), (4, .ref 1 4 0 0), (5, .ref 2 3 0 0), (6, .d (.v (.bool false))), (7, .ref 3 4 0 0), (8, .ref 7 4 0 0), (10, .row 8 1 0 (lv).length), (11, .d (.v (.int .i64 x))), (12, .d (.v (.int .i64 x2))), (13, .d (.v (.int .i64 rv4.1))), (15, .d (.arr 1 ((([] : List Int)).map vI))), (17, .row 9 1 0 (rv5.1).length), (19, .d (.v (.int .i64 0))), (20, .d (.v (.int .i64 0)))], [some ⟨4, [.d (WiPlan.d t)]⟩, some ⟨4, [.d (WiState.d o)]⟩, some ⟨3, [.d (WiNight.d a)]⟩, some ⟨4, [WiState_T1 rv.1 4 5 6]⟩, some (lvI rv.1.used), some (lvI rv.1.credit), some (lvI rv.1.last), some ⟨4, [.d (WiUse.d rv.2.1)]⟩, some (lvI lv), some (lvI rv5.1)]⟩) (κ := [0, 1, 2, 3, 4, 5, 6, 7, 8, 9]) (fun m st => ∃ (x3 : Int) (x4 : Int), l_WindowNamed_L5 F lv x rv4 rv5 K9 m x3 x4 = some r ∧ st = ⟨[(3, .ref 0 4 0 0), (4, .ref 1 4 0 0), (5, .ref 2 3 0 0), (6, .d (.v (.bool false))), (7, .ref 3 4 0 0), (8, .ref 7 4 0 0), (10, .row 8 1 0 (lv).length), (11, .d (.v (.int .i64 x))), (12, .d (.v (.int .i64 x2))), (13, .d (.v (.int .i64 rv4.1))), (15, .d (.arr 1 ((([] : List Int)).map vI))), (17, .row 9 1 0 (rv5.1).length), (19, .d (.v (.int .i64 x3))), (20, .d (.v (.int .i64 x4)))], [some ⟨4, [.d (WiPlan.d t)]⟩, some ⟨4, [.d (WiState.d o)]⟩, some ⟨3, [.d (WiNight.d a)]⟩, some ⟨4, [WiState_T1 rv.1 4 5 6]⟩, some (lvI rv.1.used), some (lvI rv.1.credit), some (lvI rv.1.last), some ⟨4, [.d (WiUse.d rv.2.1)]⟩, some (lvI lv), some (lvI rv5.1)]⟩) (vwK R R (.cons R R (.cons R R (.cons R R (.cons R R (.row R (.row R (.row R (.cons R R (.row R (.row R .nil)))))))))) (.cons R R (.cons R R (.cons R R (.cons R R (.cons R R (.cons R R (.cons R R (.cons R R (.cons R R (.cons R R (.cons R R (.cons R R (.cons R R (.cons R R .nil))))))))))))))) ⟨0, 0, h, R⟩ ?_
   clear h
   rintro m9 st ⟨x3, x4, h, rfl⟩
   cases m9 with
   | zero => cases (show (none : Option Bool) = some r from h)
   | succ m9 =>
   rw [l_WindowNamed_L5] at h
   refine sw_seq (qG (r_movD R R R (r_movW R R R (r_lenR tb R R R R R ?_))))
   refine r_lss R R R R ?_ ?_
   ·intro c8
    replace h := ifP c8 h
    refine eN (sw_condT R (sw_skip (then_norm (sw_seq (sw_block (qG (r_movW R R R (r_movD R R R ?_))))))))
    obtain ⟨e, ie, h⟩ := bnd h
    refine r_ixI tb R R R R R R (ix0 ie) (ix1 ie) R R ?_
    refine r_ldD (y := .v (.int .i64 e)) tb R R R R (ix2 (g := fun a => T.d (vI a)) ie) R R R R ?_
    refine r_movD R R R ?_
    refine r_neq R R R R ?_ ?_
    ·intro c9
     replace h := ifN c9 h
     refine r_movD R R R (r_movW R R R (r_movW R R R (r_movD R R R (r_ixI tb R R R R R R (ix0 ie) (ix1 ie) R R ?_))))
     refine r_ldD (y := .v (.int .i64 e)) tb R R R R (ix2 (g := fun a => T.d (vI a)) ie) R R R R ?_
     obtain ⟨rv8, hrv8, h⟩ := bnd h
     refine r_callL (l_listed_pc hrv8) R (.of (by kernel_rfl)) R R ((.cons (.row R R) (.cons (.d _) .nil))) R R ?_
     refine r_lss R R R R ?_ ?_
     ·intro c10
      replace h := ifP c10 h
      refine r_pickT R R R R (eN (sw_condT R (qG (r_movD R R R (r_add R R R R (r_asgD R R R (eN (qG (r_movD R R R ?_)))))))))
      refine r_lss R R R R ?_ ?_
      ·intro c11
       replace h := ifP c11 h
       refine r_movD R R R (r_movD R R R (r_movW R R R (r_movD R R R (r_ixI tb R R R R R R (ix0 ie) (ix1 ie) R R ?_))))
       refine r_ldD (y := .v (.int .i64 e)) tb R R R R (ix2 (g := fun a => T.d (vI a)) ie) R R R R ?_
       obtain ⟨rv9, hrv9, h⟩ := bnd h
       refine r_call (l_listed_pc hrv9) (.of (by kernel_rfl)) R R R R ?_
       refine r_lss R R R R ?_ ?_
       ·intro c12
        replace h := ifP c12 h
        refine r_pickT R R R R (eN (sw_condT R (qG (r_asgD R R R (eN (sw_ret (block_ret (then_ret (then_ret (block_ret (then_ret (block_ret (then_ret (then_ret (block_ret (then_ret ?_))))))))))))))))
        obtain rfl := sI h
        exact fin_0 (t := .d (.v (.bool false))) R R R (.cons (.tmp 6) .nil)
       intro c12
       replace h := ifN (Int.not_lt.2 c12) h
       refine r_pickT R R R R (eN (sw_condF R (sw_skip (block_norm (then_norm (sw_rg (r_movD R R R (r_add R R R R (r_asgD R R R (eN ?_))))))))))
       exact ⟨m9, ⟨[(3, .ref 0 4 0 0), (4, .ref 1 4 0 0), (5, .ref 2 3 0 0), (6, .d (.v (.bool false))), (7, .ref 3 4 0 0), (8, .ref 7 4 0 0), (10, .row 8 1 0 (lv).length), (11, .d (.v (.int .i64 x))), (12, .d (.v (.int .i64 x2))), (13, .d (.v (.int .i64 rv4.1))), (15, .d (.arr 1 ((([] : List Int)).map vI))), (17, .row 9 1 0 (rv5.1).length), (19, .d (.v (.int .i64 (W (x3 + 1))))), (20, .d (.v (.int .i64 (W (x4 + 1)))))], [some ⟨4, [.d (WiPlan.d t)]⟩, some ⟨4, [.d (WiState.d o)]⟩, some ⟨3, [.d (WiNight.d a)]⟩, some ⟨4, [WiState_T1 rv.1 4 5 6]⟩, some (lvI rv.1.used), some (lvI rv.1.credit), some (lvI rv.1.last), some ⟨4, [.d (WiUse.d rv.2.1)]⟩, some (lvI lv), some (lvI rv5.1)]⟩, [0, 1, 2, 3, 4, 5, 6, 7, 8, 9], Nat.lt_succ_self _, (vwK R R (.cons R R (.cons R R (.cons R R (.cons R R (.row R (.row R (.row R (.cons R R (.row R (.row R .nil)))))))))) (.cons R R (.cons R R (.cons R R (.cons R R (.cons R R (.cons R R (.cons R R (.cons R R (.cons R R (.cons R R (.cons R R (.cons R R (.cons R R (.cons R R .nil))))))))))))))), (W (x3 + 1)), (W (x4 + 1)), h, R⟩
      intro c11
      replace h := ifN (Int.not_lt.2 c11) h
      refine r_movD R R R (r_skip R R R (r_skip R R R (r_skip R R R (r_skip R R R (r_skip R R R (r_skip R R R (r_skip R R R (r_pickF R R R R (eN (sw_condF R (sw_skip (block_norm (then_norm (sw_rg (r_movD R R R (r_add R R R R (r_asgD R R R (eN ?_))))))))))))))))))
      exact ⟨m9, ⟨[(3, .ref 0 4 0 0), (4, .ref 1 4 0 0), (5, .ref 2 3 0 0), (6, .d (.v (.bool false))), (7, .ref 3 4 0 0), (8, .ref 7 4 0 0), (10, .row 8 1 0 (lv).length), (11, .d (.v (.int .i64 x))), (12, .d (.v (.int .i64 x2))), (13, .d (.v (.int .i64 rv4.1))), (15, .d (.arr 1 ((([] : List Int)).map vI))), (17, .row 9 1 0 (rv5.1).length), (19, .d (.v (.int .i64 (W (x3 + 1))))), (20, .d (.v (.int .i64 (W (x4 + 1)))))], [some ⟨4, [.d (WiPlan.d t)]⟩, some ⟨4, [.d (WiState.d o)]⟩, some ⟨3, [.d (WiNight.d a)]⟩, some ⟨4, [WiState_T1 rv.1 4 5 6]⟩, some (lvI rv.1.used), some (lvI rv.1.credit), some (lvI rv.1.last), some ⟨4, [.d (WiUse.d rv.2.1)]⟩, some (lvI lv), some (lvI rv5.1)]⟩, [0, 1, 2, 3, 4, 5, 6, 7, 8, 9], Nat.lt_succ_self _, (vwK R R (.cons R R (.cons R R (.cons R R (.cons R R (.row R (.row R (.row R (.cons R R (.row R (.row R .nil)))))))))) (.cons R R (.cons R R (.cons R R (.cons R R (.cons R R (.cons R R (.cons R R (.cons R R (.cons R R (.cons R R (.cons R R (.cons R R (.cons R R (.cons R R .nil))))))))))))))), (W (x3 + 1)), (W (x4 + 1)), h, R⟩
     intro c10
     replace h := ifN (Int.not_lt.2 c10) h
     refine r_pickT R R R R (eN (sw_condF R (sw_skip (block_norm (then_norm (sw_rg (r_movD R R R (r_add R R R R (r_asgD R R R (eN ?_))))))))))
     exact ⟨m9, ⟨[(3, .ref 0 4 0 0), (4, .ref 1 4 0 0), (5, .ref 2 3 0 0), (6, .d (.v (.bool false))), (7, .ref 3 4 0 0), (8, .ref 7 4 0 0), (10, .row 8 1 0 (lv).length), (11, .d (.v (.int .i64 x))), (12, .d (.v (.int .i64 x2))), (13, .d (.v (.int .i64 rv4.1))), (15, .d (.arr 1 ((([] : List Int)).map vI))), (17, .row 9 1 0 (rv5.1).length), (19, .d (.v (.int .i64 x3))), (20, .d (.v (.int .i64 (W (x4 + 1)))))], [some ⟨4, [.d (WiPlan.d t)]⟩, some ⟨4, [.d (WiState.d o)]⟩, some ⟨3, [.d (WiNight.d a)]⟩, some ⟨4, [WiState_T1 rv.1 4 5 6]⟩, some (lvI rv.1.used), some (lvI rv.1.credit), some (lvI rv.1.last), some ⟨4, [.d (WiUse.d rv.2.1)]⟩, some (lvI lv), some (lvI rv5.1)]⟩, [0, 1, 2, 3, 4, 5, 6, 7, 8, 9], Nat.lt_succ_self _, (vwK R R (.cons R R (.cons R R (.cons R R (.cons R R (.row R (.row R (.row R (.cons R R (.row R (.row R .nil)))))))))) (.cons R R (.cons R R (.cons R R (.cons R R (.cons R R (.cons R R (.cons R R (.cons R R (.cons R R (.cons R R (.cons R R (.cons R R (.cons R R (.cons R R .nil))))))))))))))), x3, (W (x4 + 1)), h, R⟩
    intro c9
    replace h := ifP c9 h
    refine r_movD R R R (r_skip R R R (r_skip R R R (r_skip R R R (r_skip R R R (r_skip R R R (r_skip R R R (r_skip R R R (r_pickF R R R R (eN (sw_condF R (sw_skip (block_norm (then_norm (sw_rg (r_movD R R R (r_add R R R R (r_asgD R R R (eN ?_))))))))))))))))))
    exact ⟨m9, ⟨[(3, .ref 0 4 0 0), (4, .ref 1 4 0 0), (5, .ref 2 3 0 0), (6, .d (.v (.bool false))), (7, .ref 3 4 0 0), (8, .ref 7 4 0 0), (10, .row 8 1 0 (lv).length), (11, .d (.v (.int .i64 x))), (12, .d (.v (.int .i64 x2))), (13, .d (.v (.int .i64 rv4.1))), (15, .d (.arr 1 ((([] : List Int)).map vI))), (17, .row 9 1 0 (rv5.1).length), (19, .d (.v (.int .i64 x3))), (20, .d (.v (.int .i64 (W (x4 + 1)))))], [some ⟨4, [.d (WiPlan.d t)]⟩, some ⟨4, [.d (WiState.d o)]⟩, some ⟨3, [.d (WiNight.d a)]⟩, some ⟨4, [WiState_T1 rv.1 4 5 6]⟩, some (lvI rv.1.used), some (lvI rv.1.credit), some (lvI rv.1.last), some ⟨4, [.d (WiUse.d rv.2.1)]⟩, some (lvI lv), some (lvI rv5.1)]⟩, [0, 1, 2, 3, 4, 5, 6, 7, 8, 9], Nat.lt_succ_self _, (vwK R R (.cons R R (.cons R R (.cons R R (.cons R R (.row R (.row R (.row R (.cons R R (.row R (.row R .nil)))))))))) (.cons R R (.cons R R (.cons R R (.cons R R (.cons R R (.cons R R (.cons R R (.cons R R (.cons R R (.cons R R (.cons R R (.cons R R (.cons R R (.cons R R .nil))))))))))))))), x3, (W (x4 + 1)), h, R⟩
   intro c8
   replace h := ifN (Int.not_lt.2 c8) h
   refine eN (sw_condF R (sw_exit (then_exit (then_exit ?_))))
   subst hK9
   refine block_exit (then_norm (qG (r_fa tb R R R R R R R (r_ldD (y := .arr 3 ((a.turns).map WiTurn.d)) tb R R R R R R R R R (r_movD R R R ?_)))))
   obtain ⟨e2, ie2, h⟩ := bnd h
   refine r_ixE tb R R R R R R (ix0 ie2) (ix1m ie2) R R (r_ldE (y := WiTurn.d e2) tb R R (ix2 (g := WiTurn.d) ie2) R R R R (r_alloc tb R R R R R (r_stE _ ([some ⟨4, [.d (WiPlan.d t)]⟩, some ⟨4, [.d (WiState.d o)]⟩, some ⟨3, [.d (WiNight.d a)]⟩, some ⟨4, [WiState_T1 rv.1 4 5 6]⟩, some (lvI rv.1.used), some (lvI rv.1.credit), some (lvI rv.1.last), some ⟨4, [.d (WiUse.d rv.2.1)]⟩, some (lvI lv), some (lvI rv5.1), some ⟨3, [.d (WiTurn.d e2)]⟩]) tb R R R R R R R R R R R R (eN (sw_seq (qG (r_movD R R R ?_)))))))
   refine r_geq R R R R ?_ ?_
   ·intro c13
    replace h := ifP c13 h
    refine r_movD R R R (r_movD R R R (r_movD R R R ?_))
    refine r_neq R R R R ?_ ?_
    ·intro c14
     replace h := ifN c14 h
     refine r_pickT R R R R (eN (sw_condT R (qG (r_asgD R R R (eN (sw_ret (then_ret (block_ret (then_ret (then_ret (block_ret (then_ret ?_))))))))))))
     obtain rfl := sI h
     exact fin_0 (t := .d (.v (.bool false))) R R R (.cons (.tmp 6) .nil)
    intro c14
    replace h := ifP c14 h
    refine r_pickT R R R R (eN (sw_condF R (sw_skip (then_norm (sw_seq (qG (r_fa tb R R R R R R R (r_ldD (y := .v (.int .i64 e2.what)) tb R R R R R R R R R ?_))))))))
    refine r_eql R R R R ?_ ?_
    ·intro c15
     replace h := ifP c15 h
     refine eN (sw_condT R (sw_seq (qG (r_movD R R R (r_fa tb R R R R R R R (r_ldD (y := .arr 3 ((a.turns).map WiTurn.d)) tb R R R R R R R R R (r_lenM tb R R R R R (r_sub R R R R ?_))))))))
     refine r_neq R R R R ?_ ?_
     ·intro c16
      replace h := ifN c16 h
      refine r_movD R R R (r_skip R R R (r_skip R R R (r_skip R R R (r_skip R R R (r_pickT R R R R (r_movD R R R (r_skip R R R (r_skip R R R (r_skip R R R (r_skip R R R (r_skip R R R (r_pickT R R R R (r_movD R R R (r_skip R R R (r_skip R R R (r_skip R R R (r_skip R R R (r_skip R R R (r_skip R R R (r_pickT R R R R (eN (sw_condT R (qG (r_asgD R R R (eN (sw_ret (then_ret (then_ret (block_ret (then_ret (then_ret ?_)))))))))))))))))))))))))))))))
      refine block_ret (then_ret ?_)
      obtain rfl := sI h
      exact fin_0 (t := .d (.v (.bool false))) R R R (.cons (.tmp 6) .nil)
     intro c16
     replace h := ifP c16 h
     refine r_movD R R R (r_fa tb R R R R R R R (r_ldD (y := .v (.int .i64 rv.2.1.team)) tb R R R R R R R R R (r_movD R R R ?_)))
     refine r_neq R R R R ?_ ?_
     ·intro c17
      replace h := ifN c17 h
      refine r_pickF R R R R (r_movD R R R (r_skip R R R (r_skip R R R (r_skip R R R (r_skip R R R (r_skip R R R (r_pickT R R R R (r_movD R R R (r_skip R R R (r_skip R R R (r_skip R R R (r_skip R R R (r_skip R R R (r_skip R R R (r_pickT R R R R (eN (sw_condT R (qG (r_asgD R R R (eN (sw_ret (then_ret (then_ret (block_ret (then_ret (then_ret (block_ret (then_ret ?_))))))))))))))))))))))))))))
      obtain rfl := sI h
      exact fin_0 (t := .d (.v (.bool false))) R R R (.cons (.tmp 6) .nil)
     intro c17
     replace h := ifP c17 h
     refine r_pickF R R R R (r_movD R R R (r_fa tb R R R R R R R (r_ldD (y := .v (.int .i64 rv.2.1.at_)) tb R R R R R R R R R (r_fa tb R R R R R R R (r_ldD (y := .v (.int .i64 e2.at_)) tb R R R R R R R R R ?_)))))
     refine r_neq R R R R ?_ ?_
     ·intro c18
      replace h := ifN c18 h
      refine r_pickF R R R R (r_movD R R R (r_skip R R R (r_skip R R R (r_skip R R R (r_skip R R R (r_skip R R R (r_skip R R R (r_pickT R R R R (eN (sw_condT R (qG (r_asgD R R R (eN (sw_ret (then_ret (then_ret (block_ret (then_ret (then_ret (block_ret (then_ret ?_)))))))))))))))))))))
      obtain rfl := sI h
      exact fin_0 (t := .d (.v (.bool false))) R R R (.cons (.tmp 6) .nil)
     intro c18
     replace h := ifP c18 h
     refine r_pickF R R R R (r_movD R R R (r_fa tb R R R R R R R (r_ldD (y := .v (.int .i64 rv.2.1.by_)) tb R R R R R R R R R (r_geqV R R R R (r_movD R R R (r_geqV R R R R (r_boolneq R R R R R ?_)))))))
     with_reducible apply ev_lit
     ·intro c19
      replace h := ifP c19 h
      refine r_pickF R R R R (eN (sw_condT R (qG (r_asgD R R R (eN (sw_ret (then_ret (then_ret (block_ret (then_ret (then_ret (block_ret (then_ret ?_)))))))))))))
      obtain rfl := sI h
      exact fin_0 (t := .d (.v (.bool false))) R R R (.cons (.tmp 6) .nil)
     intro c19
     replace h := ifF c19 h
     refine r_pickF R R R R (eN (sw_condF R (sw_skip (then_norm (sw_seq (sw_dr (by kernel_rfl) (r_fa tb R R R R R R R (r_ldW tb R R R R R R R R R ?_))))))))
     obtain ⟨rv10, hrv10, h⟩ := bnd h
     refine r_callL (l_sum_pc hrv10) R (.of (by kernel_rfl)) R R ((.cons (.row R R) .nil)) R R (r_fa tb R R R R R R R (r_ldD (y := .arr 1 ((o.credit).map vI)) tb R R R R R R R R R ?_))
     obtain ⟨rv11, hrv11, h⟩ := bnd h
     refine r_call (l_sum_pc hrv11) (.of (by kernel_rfl)) R R R R (r_fa tb R R R R R R R (r_ldD (y := .v (.int .i64 t.cost)) tb R R R R R R R R R (r_sub R R R R (r_movD R R R (r_add R R R R ?_)))))
     refine r_neq R R R R ?_ ?_
     ·intro c20
      replace h := ifN c20 h
      refine r_movD R R R (r_skip R R R (r_skip R R R (r_skip R R R (r_skip R R R (r_skip R R R (r_pickT R R R R (r_movD R R R (r_skip R R R (r_skip R R R (r_skip R R R (r_skip R R R (r_skip R R R (r_pickT R R R R (r_movD R R R (r_skip R R R (r_skip R R R (r_skip R R R (r_skip R R R (r_skip R R R (r_skip R R R (r_skip R R R (r_skip R R R (r_skip R R R (r_skip R R R (r_skip R R R (r_skip R R R ?_))))))))))))))))))))))))))
      refine r_pickT R R R R (ev_endD (by kernel_rfl) (then_norm (sw_condT R (qG (r_asgD R R R (eN (sw_ret (then_ret (block_ret (then_ret (then_ret (block_ret (then_ret ?_)))))))))))))
      obtain rfl := sI h
      exact fin_0 (t := .d (.v (.bool false))) R R R (.cons (.tmp 6) .nil)
     intro c20
     replace h := ifP c20 h
     refine r_movD R R R (r_movD R R R (r_fa tb R R R R R R R (r_ldW tb R R R R R R R R R (r_lenR tb R R R R R ?_))))
     refine r_geq R R R R ?_ ?_
     ·intro c21
      replace h := ifP c21 h
      refine r_pickF R R R R (r_movD R R R (r_skip R R R (r_skip R R R (r_skip R R R (r_skip R R R (r_skip R R R (r_pickT R R R R (r_movD R R R (r_skip R R R (r_skip R R R (r_skip R R R (r_skip R R R (r_skip R R R (r_skip R R R (r_skip R R R (r_skip R R R (r_skip R R R (r_skip R R R (r_skip R R R (r_skip R R R (r_pickT R R R R (ev_endD (by kernel_rfl) (then_norm (sw_condT R (qG (r_asgD R R R (eN (sw_ret ?_))))))))))))))))))))))))))))
      refine then_ret (block_ret (then_ret (then_ret (block_ret (then_ret ?_)))))
      obtain rfl := sI h
      exact fin_0 (t := .d (.v (.bool false))) R R R (.cons (.tmp 6) .nil)
     intro c21
     replace h := ifN (Int.not_le.2 c21) h
     refine r_pickF R R R R (r_movD R R R (r_movD R R R (r_fa tb R R R R R R R (r_ldD (y := .arr 1 ((o.used).map vI)) tb R R R R R R R R R (r_lenM tb R R R R R ?_)))))
     refine r_geq R R R R ?_ ?_
     ·intro c22
      replace h := ifP c22 h
      refine r_pickF R R R R (r_movD R R R (r_skip R R R (r_skip R R R (r_skip R R R (r_skip R R R (r_skip R R R (r_skip R R R (r_skip R R R (r_skip R R R (r_skip R R R (r_skip R R R (r_skip R R R (r_skip R R R (r_pickT R R R R (ev_endD (by kernel_rfl) (then_norm (sw_condT R (qG (r_asgD R R R (eN (sw_ret (then_ret (block_ret (then_ret (then_ret (block_ret (then_ret ?_)))))))))))))))))))))))))))
      obtain rfl := sI h
      exact fin_0 (t := .d (.v (.bool false))) R R R (.cons (.tmp 6) .nil)
     intro c22
     replace h := ifN (Int.not_le.2 c22) h
     refine r_pickF R R R R (r_movD R R R (r_fa tb R R R R R R R (r_ldW tb R R R R R R R R R (r_movD R R R ?_))))
     obtain ⟨e3, ie3, h⟩ := bnd h
     refine r_ixI tb R R R R R R (ix0 ie3) (ix1 ie3) R R ?_
     refine r_ldD (y := .v (.int .i64 e3)) tb R R R R (ix2 (g := fun a => T.d (vI a)) ie3) R R R R ?_
     refine r_fa tb R R R R R R R (r_ldD (y := .arr 1 ((o.used).map vI)) tb R R R R R R R R R (r_movD R R R ?_))
     obtain ⟨e4, ie4, h⟩ := bnd h
     refine r_ixE tb R R R R R R (ix0 ie4) (ix1m ie4) R R (r_ldE (y := .v (.int .i64 e4)) tb R R (ix2 (g := vI) ie4) R R R R (r_add R R R R ?_))
     refine r_neq R R R R ?_ ?_
     ·intro c23
      replace h := ifN c23 h
      refine r_pickF R R R R (ev_endD (by kernel_rfl) (then_norm (sw_condT R (qG (r_asgD R R R (eN (sw_ret (then_ret (block_ret (then_ret (then_ret (block_ret (then_ret ?_)))))))))))))
      obtain rfl := sI h
      exact fin_0 (t := .d (.v (.bool false))) R R R (.cons (.tmp 6) .nil)
     intro c23
     replace h := ifP c23 h
     refine r_pickF R R R R (ev_endD (by kernel_rfl) (then_norm (sw_condF R (sw_skip (then_norm (qG (r_asgD R R R (eN (sw_seq (qG (r_fa tb R R R R R R R (r_ldD (y := .v (.int .i64 e2.what)) tb R R R R R R R R R ?_))))))))))))
     refine r_eql R R R R ?_ ?_
     ·intro c24
      replace h := ifP c24 h
      refine eN (sw_condT R (sw_rg (r_fa tb R R R R R R R (r_ldD (y := .v (.int .i64 e2.to_)) tb R R R R R R R R R (r_asgD R R R (eN (sw_rg (r_movW R R R (r_movD R R R (r_bslice tb R R R R R R R R R R R R R ?_))))))))))
      obtain ⟨q2, iq2, h⟩ := bnd h
      refine r_apM (g := vI) (w := lv) (v := [rv4.1]) ([some ⟨4, [.d (WiPlan.d t)]⟩, some ⟨4, [.d (WiState.d o)]⟩, some ⟨3, [.d (WiNight.d a)]⟩, some ⟨4, [WiState_T1 rv.1 4 5 6]⟩, some (lvI rv.1.used), some (lvI rv.1.credit), some (lvI rv.1.last), some ⟨4, [.d (WiUse.d rv.2.1)]⟩, none, some (lvI rv5.1), some ⟨3, [.d (WiTurn.d e2)]⟩, some (lvI [rv4.1])]) tb R R R R R R R R R R R iq2 R R R R R (r_asgW R R R (ev_end (block_norm (then_norm (sw_rg (r_movD R R R (r_add R R R R (r_asgD R R R (eN ?_)))))))))
      exact ⟨m8, ⟨[(3, .ref 0 4 0 0), (4, .ref 1 4 0 0), (5, .ref 2 3 0 0), (6, .d (.v (.bool false))), (7, .ref 3 4 0 0), (8, .ref 7 4 0 0), (10, .row 8 1 0 (q2).length), (11, .d (.v (.int .i64 e2.to_))), (12, .d (.v (.int .i64 (W (x2 + 1)))))], [some ⟨4, [.d (WiPlan.d t)]⟩, some ⟨4, [.d (WiState.d o)]⟩, some ⟨3, [.d (WiNight.d a)]⟩, some ⟨4, [WiState_T1 rv.1 4 5 6]⟩, some (lvI rv.1.used), some (lvI rv.1.credit), some (lvI rv.1.last), some ⟨4, [.d (WiUse.d rv.2.1)]⟩, some (lvI q2)]⟩, [0, 1, 2, 3, 4, 5, 6, 7, 12], Nat.lt_succ_self _, (vwK R R (.cons R R (.cons R R (.cons R R (.cons R R (.row R (.row R (.row R (.cons R R (.row R .nil))))))))) (.cons R R (.cons R R (.cons R R (.cons R R (.cons R R (.cons R R (.cons R R (.cons R R (.cons R R .nil)))))))))), q2, e2.to_, (W (x2 + 1)), h, R⟩
     intro c24
     replace h := ifN c24 h
     refine eN (sw_condF R (sw_skip (then_norm (sw_rg (r_movW R R R (r_movD R R R (r_bslice tb R R R R R R R R R R R R R ?_)))))))
     obtain ⟨q3, iq3, h⟩ := bnd h
     refine r_apM (g := vI) (w := lv) (v := [rv4.1]) ([some ⟨4, [.d (WiPlan.d t)]⟩, some ⟨4, [.d (WiState.d o)]⟩, some ⟨3, [.d (WiNight.d a)]⟩, some ⟨4, [WiState_T1 rv.1 4 5 6]⟩, some (lvI rv.1.used), some (lvI rv.1.credit), some (lvI rv.1.last), some ⟨4, [.d (WiUse.d rv.2.1)]⟩, none, some (lvI rv5.1), some ⟨3, [.d (WiTurn.d e2)]⟩, some (lvI [rv4.1])]) tb R R R R R R R R R R R iq3 R R R R R (r_asgW R R R (ev_end (block_norm (then_norm (sw_rg (r_movD R R R (r_add R R R R (r_asgD R R R (eN ?_)))))))))
     exact ⟨m8, ⟨[(3, .ref 0 4 0 0), (4, .ref 1 4 0 0), (5, .ref 2 3 0 0), (6, .d (.v (.bool false))), (7, .ref 3 4 0 0), (8, .ref 7 4 0 0), (10, .row 8 1 0 (q3).length), (11, .d (.v (.int .i64 (-1)))), (12, .d (.v (.int .i64 (W (x2 + 1)))))], [some ⟨4, [.d (WiPlan.d t)]⟩, some ⟨4, [.d (WiState.d o)]⟩, some ⟨3, [.d (WiNight.d a)]⟩, some ⟨4, [WiState_T1 rv.1 4 5 6]⟩, some (lvI rv.1.used), some (lvI rv.1.credit), some (lvI rv.1.last), some ⟨4, [.d (WiUse.d rv.2.1)]⟩, some (lvI q3)]⟩, [0, 1, 2, 3, 4, 5, 6, 7, 12], Nat.lt_succ_self _, (vwK R R (.cons R R (.cons R R (.cons R R (.cons R R (.row R (.row R (.row R (.cons R R (.row R .nil))))))))) (.cons R R (.cons R R (.cons R R (.cons R R (.cons R R (.cons R R (.cons R R (.cons R R (.cons R R .nil)))))))))), q3, (-1), (W (x2 + 1)), h, R⟩
    intro c15
    replace h := ifN c15 h
    refine eN (sw_condF R (sw_skip (then_norm (qG (r_asgD R R R (eN (sw_seq (qG (r_fa tb R R R R R R R (r_ldD (y := .v (.int .i64 e2.what)) tb R R R R R R R R R ?_))))))))))
    refine r_eql R R R R ?_ ?_
    ·intro c25
     replace h := ifP c25 h
     refine eN (sw_condT R (sw_rg (r_fa tb R R R R R R R (r_ldD (y := .v (.int .i64 e2.to_)) tb R R R R R R R R R (r_asgD R R R (eN (sw_rg (r_movW R R R (r_movD R R R (r_bslice tb R R R R R R R R R R R R R ?_))))))))))
     obtain ⟨q4, iq4, h⟩ := bnd h
     refine r_apM (g := vI) (w := lv) (v := [rv4.1]) ([some ⟨4, [.d (WiPlan.d t)]⟩, some ⟨4, [.d (WiState.d o)]⟩, some ⟨3, [.d (WiNight.d a)]⟩, some ⟨4, [WiState_T1 rv.1 4 5 6]⟩, some (lvI rv.1.used), some (lvI rv.1.credit), some (lvI rv.1.last), some ⟨4, [.d (WiUse.d rv.2.1)]⟩, none, some (lvI rv5.1), some ⟨3, [.d (WiTurn.d e2)]⟩, some (lvI [rv4.1])]) tb R R R R R R R R R R R iq4 R R R R R (r_asgW R R R (ev_end (block_norm (then_norm (sw_rg (r_movD R R R (r_add R R R R (r_asgD R R R (eN ?_)))))))))
     exact ⟨m8, ⟨[(3, .ref 0 4 0 0), (4, .ref 1 4 0 0), (5, .ref 2 3 0 0), (6, .d (.v (.bool false))), (7, .ref 3 4 0 0), (8, .ref 7 4 0 0), (10, .row 8 1 0 (q4).length), (11, .d (.v (.int .i64 e2.to_))), (12, .d (.v (.int .i64 (W (x2 + 1)))))], [some ⟨4, [.d (WiPlan.d t)]⟩, some ⟨4, [.d (WiState.d o)]⟩, some ⟨3, [.d (WiNight.d a)]⟩, some ⟨4, [WiState_T1 rv.1 4 5 6]⟩, some (lvI rv.1.used), some (lvI rv.1.credit), some (lvI rv.1.last), some ⟨4, [.d (WiUse.d rv.2.1)]⟩, some (lvI q4)]⟩, [0, 1, 2, 3, 4, 5, 6, 7, 12], Nat.lt_succ_self _, (vwK R R (.cons R R (.cons R R (.cons R R (.cons R R (.row R (.row R (.row R (.cons R R (.row R .nil))))))))) (.cons R R (.cons R R (.cons R R (.cons R R (.cons R R (.cons R R (.cons R R (.cons R R (.cons R R .nil)))))))))), q4, e2.to_, (W (x2 + 1)), h, R⟩
    intro c25
    replace h := ifN c25 h
    refine eN (sw_condF R (sw_skip (then_norm (sw_rg (r_movW R R R (r_movD R R R (r_bslice tb R R R R R R R R R R R R R ?_)))))))
    obtain ⟨q5, iq5, h⟩ := bnd h
    refine r_apM (g := vI) (w := lv) (v := [rv4.1]) ([some ⟨4, [.d (WiPlan.d t)]⟩, some ⟨4, [.d (WiState.d o)]⟩, some ⟨3, [.d (WiNight.d a)]⟩, some ⟨4, [WiState_T1 rv.1 4 5 6]⟩, some (lvI rv.1.used), some (lvI rv.1.credit), some (lvI rv.1.last), some ⟨4, [.d (WiUse.d rv.2.1)]⟩, none, some (lvI rv5.1), some ⟨3, [.d (WiTurn.d e2)]⟩, some (lvI [rv4.1])]) tb R R R R R R R R R R R iq5 R R R R R (r_asgW R R R (ev_end (block_norm (then_norm (sw_rg (r_movD R R R (r_add R R R R (r_asgD R R R (eN ?_)))))))))
    exact ⟨m8, ⟨[(3, .ref 0 4 0 0), (4, .ref 1 4 0 0), (5, .ref 2 3 0 0), (6, .d (.v (.bool false))), (7, .ref 3 4 0 0), (8, .ref 7 4 0 0), (10, .row 8 1 0 (q5).length), (11, .d (.v (.int .i64 (-1)))), (12, .d (.v (.int .i64 (W (x2 + 1)))))], [some ⟨4, [.d (WiPlan.d t)]⟩, some ⟨4, [.d (WiState.d o)]⟩, some ⟨3, [.d (WiNight.d a)]⟩, some ⟨4, [WiState_T1 rv.1 4 5 6]⟩, some (lvI rv.1.used), some (lvI rv.1.credit), some (lvI rv.1.last), some ⟨4, [.d (WiUse.d rv.2.1)]⟩, some (lvI q5)]⟩, [0, 1, 2, 3, 4, 5, 6, 7, 12], Nat.lt_succ_self _, (vwK R R (.cons R R (.cons R R (.cons R R (.cons R R (.row R (.row R (.row R (.cons R R (.row R .nil))))))))) (.cons R R (.cons R R (.cons R R (.cons R R (.cons R R (.cons R R (.cons R R (.cons R R (.cons R R .nil)))))))))), q5, (-1), (W (x2 + 1)), h, R⟩
   intro c13
   replace h := ifN (Int.not_le.2 c13) h
   refine r_movD R R R (r_skip R R R (r_skip R R R (r_skip R R R (r_pickF R R R R (eN (sw_condF R (sw_skip (then_norm (sw_seq (qG (r_fa tb R R R R R R R (r_ldD (y := .v (.int .i64 e2.what)) tb R R R R R R R R R ?_))))))))))))
   refine r_eql R R R R ?_ ?_
   ·intro c26
    replace h := ifP c26 h
    refine eN (sw_condT R (sw_seq (qG (r_movD R R R (r_fa tb R R R R R R R (r_ldD (y := .arr 3 ((a.turns).map WiTurn.d)) tb R R R R R R R R R (r_lenM tb R R R R R (r_sub R R R R ?_))))))))
    refine r_neq R R R R ?_ ?_
    ·intro c27
     replace h := ifN c27 h
     refine r_movD R R R (r_skip R R R (r_skip R R R (r_skip R R R (r_skip R R R (r_pickT R R R R (r_movD R R R (r_skip R R R (r_skip R R R (r_skip R R R (r_skip R R R (r_skip R R R (r_pickT R R R R (r_movD R R R (r_skip R R R (r_skip R R R (r_skip R R R (r_skip R R R (r_skip R R R (r_skip R R R (r_pickT R R R R (eN (sw_condT R (qG (r_asgD R R R (eN (sw_ret (then_ret (then_ret (block_ret (then_ret (then_ret ?_)))))))))))))))))))))))))))))))
     refine block_ret (then_ret ?_)
     obtain rfl := sI h
     exact fin_0 (t := .d (.v (.bool false))) R R R (.cons (.tmp 6) .nil)
    intro c27
    replace h := ifP c27 h
    refine r_movD R R R (r_fa tb R R R R R R R (r_ldD (y := .v (.int .i64 rv.2.1.team)) tb R R R R R R R R R (r_movD R R R ?_)))
    refine r_neq R R R R ?_ ?_
    ·intro c28
     replace h := ifN c28 h
     refine r_pickF R R R R (r_movD R R R (r_skip R R R (r_skip R R R (r_skip R R R (r_skip R R R (r_skip R R R (r_pickT R R R R (r_movD R R R (r_skip R R R (r_skip R R R (r_skip R R R (r_skip R R R (r_skip R R R (r_skip R R R (r_pickT R R R R (eN (sw_condT R (qG (r_asgD R R R (eN (sw_ret (then_ret (then_ret (block_ret (then_ret (then_ret (block_ret (then_ret ?_))))))))))))))))))))))))))))
     obtain rfl := sI h
     exact fin_0 (t := .d (.v (.bool false))) R R R (.cons (.tmp 6) .nil)
    intro c28
    replace h := ifP c28 h
    refine r_pickF R R R R (r_movD R R R (r_fa tb R R R R R R R (r_ldD (y := .v (.int .i64 rv.2.1.at_)) tb R R R R R R R R R (r_fa tb R R R R R R R (r_ldD (y := .v (.int .i64 e2.at_)) tb R R R R R R R R R ?_)))))
    refine r_neq R R R R ?_ ?_
    ·intro c29
     replace h := ifN c29 h
     refine r_pickF R R R R (r_movD R R R (r_skip R R R (r_skip R R R (r_skip R R R (r_skip R R R (r_skip R R R (r_skip R R R (r_pickT R R R R (eN (sw_condT R (qG (r_asgD R R R (eN (sw_ret (then_ret (then_ret (block_ret (then_ret (then_ret (block_ret (then_ret ?_)))))))))))))))))))))
     obtain rfl := sI h
     exact fin_0 (t := .d (.v (.bool false))) R R R (.cons (.tmp 6) .nil)
    intro c29
    replace h := ifP c29 h
    refine r_pickF R R R R (r_movD R R R (r_fa tb R R R R R R R (r_ldD (y := .v (.int .i64 rv.2.1.by_)) tb R R R R R R R R R (r_geqV R R R R (r_movD R R R (r_geqV R R R R (r_boolneq R R R R R ?_)))))))
    with_reducible apply ev_lit
    ·intro c30
     replace h := ifP c30 h
     refine r_pickF R R R R (eN (sw_condT R (qG (r_asgD R R R (eN (sw_ret (then_ret (then_ret (block_ret (then_ret (then_ret (block_ret (then_ret ?_)))))))))))))
     obtain rfl := sI h
     exact fin_0 (t := .d (.v (.bool false))) R R R (.cons (.tmp 6) .nil)
    intro c30
    replace h := ifF c30 h
    refine r_pickF R R R R (eN (sw_condF R (sw_skip (then_norm (sw_seq (sw_dr (by kernel_rfl) (r_fa tb R R R R R R R (r_ldW tb R R R R R R R R R ?_))))))))
    obtain ⟨rv12, hrv12, h⟩ := bnd h
    refine r_callL (l_sum_pc hrv12) R (.of (by kernel_rfl)) R R ((.cons (.row R R) .nil)) R R (r_fa tb R R R R R R R (r_ldD (y := .arr 1 ((o.credit).map vI)) tb R R R R R R R R R ?_))
    obtain ⟨rv13, hrv13, h⟩ := bnd h
    refine r_call (l_sum_pc hrv13) (.of (by kernel_rfl)) R R R R (r_fa tb R R R R R R R (r_ldD (y := .v (.int .i64 t.cost)) tb R R R R R R R R R (r_sub R R R R (r_movD R R R (r_add R R R R ?_)))))
    refine r_neq R R R R ?_ ?_
    ·intro c31
     replace h := ifN c31 h
     refine r_movD R R R (r_skip R R R (r_skip R R R (r_skip R R R (r_skip R R R (r_skip R R R (r_pickT R R R R (r_movD R R R (r_skip R R R (r_skip R R R (r_skip R R R (r_skip R R R (r_skip R R R (r_pickT R R R R (r_movD R R R (r_skip R R R (r_skip R R R (r_skip R R R (r_skip R R R (r_skip R R R (r_skip R R R (r_skip R R R (r_skip R R R (r_skip R R R (r_skip R R R (r_skip R R R (r_skip R R R ?_))))))))))))))))))))))))))
     refine r_pickT R R R R (ev_endD (by kernel_rfl) (then_norm (sw_condT R (qG (r_asgD R R R (eN (sw_ret (then_ret (block_ret (then_ret (then_ret (block_ret (then_ret ?_)))))))))))))
     obtain rfl := sI h
     exact fin_0 (t := .d (.v (.bool false))) R R R (.cons (.tmp 6) .nil)
    intro c31
    replace h := ifP c31 h
    refine r_movD R R R (r_movD R R R (r_fa tb R R R R R R R (r_ldW tb R R R R R R R R R (r_lenR tb R R R R R ?_))))
    refine r_geq R R R R ?_ ?_
    ·intro c32
     replace h := ifP c32 h
     refine r_pickF R R R R (r_movD R R R (r_skip R R R (r_skip R R R (r_skip R R R (r_skip R R R (r_skip R R R (r_pickT R R R R (r_movD R R R (r_skip R R R (r_skip R R R (r_skip R R R (r_skip R R R (r_skip R R R (r_skip R R R (r_skip R R R (r_skip R R R (r_skip R R R (r_skip R R R (r_skip R R R (r_skip R R R (r_pickT R R R R (ev_endD (by kernel_rfl) (then_norm (sw_condT R (qG (r_asgD R R R (eN (sw_ret ?_))))))))))))))))))))))))))))
     refine then_ret (block_ret (then_ret (then_ret (block_ret (then_ret ?_)))))
     obtain rfl := sI h
     exact fin_0 (t := .d (.v (.bool false))) R R R (.cons (.tmp 6) .nil)
    intro c32
    replace h := ifN (Int.not_le.2 c32) h
    refine r_pickF R R R R (r_movD R R R (r_movD R R R (r_fa tb R R R R R R R (r_ldD (y := .arr 1 ((o.used).map vI)) tb R R R R R R R R R (r_lenM tb R R R R R ?_)))))
    refine r_geq R R R R ?_ ?_
    ·intro c33
     replace h := ifP c33 h
     refine r_pickF R R R R (r_movD R R R (r_skip R R R (r_skip R R R (r_skip R R R (r_skip R R R (r_skip R R R (r_skip R R R (r_skip R R R (r_skip R R R (r_skip R R R (r_skip R R R (r_skip R R R (r_skip R R R (r_pickT R R R R (ev_endD (by kernel_rfl) (then_norm (sw_condT R (qG (r_asgD R R R (eN (sw_ret (then_ret (block_ret (then_ret (then_ret (block_ret (then_ret ?_)))))))))))))))))))))))))))
     obtain rfl := sI h
     exact fin_0 (t := .d (.v (.bool false))) R R R (.cons (.tmp 6) .nil)
    intro c33
    replace h := ifN (Int.not_le.2 c33) h
    refine r_pickF R R R R (r_movD R R R (r_fa tb R R R R R R R (r_ldW tb R R R R R R R R R (r_movD R R R ?_))))
    obtain ⟨e5, ie5, h⟩ := bnd h
    refine r_ixI tb R R R R R R (ix0 ie5) (ix1 ie5) R R ?_
    refine r_ldD (y := .v (.int .i64 e5)) tb R R R R (ix2 (g := fun a => T.d (vI a)) ie5) R R R R ?_
    refine r_fa tb R R R R R R R (r_ldD (y := .arr 1 ((o.used).map vI)) tb R R R R R R R R R (r_movD R R R ?_))
    obtain ⟨e6, ie6, h⟩ := bnd h
    refine r_ixE tb R R R R R R (ix0 ie6) (ix1m ie6) R R (r_ldE (y := .v (.int .i64 e6)) tb R R (ix2 (g := vI) ie6) R R R R (r_add R R R R ?_))
    refine r_neq R R R R ?_ ?_
    ·intro c34
     replace h := ifN c34 h
     refine r_pickF R R R R (ev_endD (by kernel_rfl) (then_norm (sw_condT R (qG (r_asgD R R R (eN (sw_ret (then_ret (block_ret (then_ret (then_ret (block_ret (then_ret ?_)))))))))))))
     obtain rfl := sI h
     exact fin_0 (t := .d (.v (.bool false))) R R R (.cons (.tmp 6) .nil)
    intro c34
    replace h := ifP c34 h
    refine r_pickF R R R R (ev_endD (by kernel_rfl) (then_norm (sw_condF R (sw_skip (then_norm (qG (r_asgD R R R (eN (sw_seq (qG (r_fa tb R R R R R R R (r_ldD (y := .v (.int .i64 e2.what)) tb R R R R R R R R R ?_))))))))))))
    refine r_eql R R R R ?_ ?_
    ·intro c35
     replace h := ifP c35 h
     refine eN (sw_condT R (sw_rg (r_fa tb R R R R R R R (r_ldD (y := .v (.int .i64 e2.to_)) tb R R R R R R R R R (r_asgD R R R (eN (sw_rg (r_movW R R R (r_movD R R R (r_bslice tb R R R R R R R R R R R R R ?_))))))))))
     obtain ⟨q6, iq6, h⟩ := bnd h
     refine r_apM (g := vI) (w := lv) (v := [rv4.1]) ([some ⟨4, [.d (WiPlan.d t)]⟩, some ⟨4, [.d (WiState.d o)]⟩, some ⟨3, [.d (WiNight.d a)]⟩, some ⟨4, [WiState_T1 rv.1 4 5 6]⟩, some (lvI rv.1.used), some (lvI rv.1.credit), some (lvI rv.1.last), some ⟨4, [.d (WiUse.d rv.2.1)]⟩, none, some (lvI rv5.1), some ⟨3, [.d (WiTurn.d e2)]⟩, some (lvI [rv4.1])]) tb R R R R R R R R R R R iq6 R R R R R (r_asgW R R R (ev_end (block_norm (then_norm (sw_rg (r_movD R R R (r_add R R R R (r_asgD R R R (eN ?_)))))))))
     exact ⟨m8, ⟨[(3, .ref 0 4 0 0), (4, .ref 1 4 0 0), (5, .ref 2 3 0 0), (6, .d (.v (.bool false))), (7, .ref 3 4 0 0), (8, .ref 7 4 0 0), (10, .row 8 1 0 (q6).length), (11, .d (.v (.int .i64 e2.to_))), (12, .d (.v (.int .i64 (W (x2 + 1)))))], [some ⟨4, [.d (WiPlan.d t)]⟩, some ⟨4, [.d (WiState.d o)]⟩, some ⟨3, [.d (WiNight.d a)]⟩, some ⟨4, [WiState_T1 rv.1 4 5 6]⟩, some (lvI rv.1.used), some (lvI rv.1.credit), some (lvI rv.1.last), some ⟨4, [.d (WiUse.d rv.2.1)]⟩, some (lvI q6)]⟩, [0, 1, 2, 3, 4, 5, 6, 7, 12], Nat.lt_succ_self _, (vwK R R (.cons R R (.cons R R (.cons R R (.cons R R (.row R (.row R (.row R (.cons R R (.row R .nil))))))))) (.cons R R (.cons R R (.cons R R (.cons R R (.cons R R (.cons R R (.cons R R (.cons R R (.cons R R .nil)))))))))), q6, e2.to_, (W (x2 + 1)), h, R⟩
    intro c35
    replace h := ifN c35 h
    refine eN (sw_condF R (sw_skip (then_norm (sw_rg (r_movW R R R (r_movD R R R (r_bslice tb R R R R R R R R R R R R R ?_)))))))
    obtain ⟨q7, iq7, h⟩ := bnd h
    refine r_apM (g := vI) (w := lv) (v := [rv4.1]) ([some ⟨4, [.d (WiPlan.d t)]⟩, some ⟨4, [.d (WiState.d o)]⟩, some ⟨3, [.d (WiNight.d a)]⟩, some ⟨4, [WiState_T1 rv.1 4 5 6]⟩, some (lvI rv.1.used), some (lvI rv.1.credit), some (lvI rv.1.last), some ⟨4, [.d (WiUse.d rv.2.1)]⟩, none, some (lvI rv5.1), some ⟨3, [.d (WiTurn.d e2)]⟩, some (lvI [rv4.1])]) tb R R R R R R R R R R R iq7 R R R R R (r_asgW R R R (ev_end (block_norm (then_norm (sw_rg (r_movD R R R (r_add R R R R (r_asgD R R R (eN ?_)))))))))
    exact ⟨m8, ⟨[(3, .ref 0 4 0 0), (4, .ref 1 4 0 0), (5, .ref 2 3 0 0), (6, .d (.v (.bool false))), (7, .ref 3 4 0 0), (8, .ref 7 4 0 0), (10, .row 8 1 0 (q7).length), (11, .d (.v (.int .i64 (-1)))), (12, .d (.v (.int .i64 (W (x2 + 1)))))], [some ⟨4, [.d (WiPlan.d t)]⟩, some ⟨4, [.d (WiState.d o)]⟩, some ⟨3, [.d (WiNight.d a)]⟩, some ⟨4, [WiState_T1 rv.1 4 5 6]⟩, some (lvI rv.1.used), some (lvI rv.1.credit), some (lvI rv.1.last), some ⟨4, [.d (WiUse.d rv.2.1)]⟩, some (lvI q7)]⟩, [0, 1, 2, 3, 4, 5, 6, 7, 12], Nat.lt_succ_self _, (vwK R R (.cons R R (.cons R R (.cons R R (.cons R R (.row R (.row R (.row R (.cons R R (.row R .nil))))))))) (.cons R R (.cons R R (.cons R R (.cons R R (.cons R R (.cons R R (.cons R R (.cons R R (.cons R R .nil)))))))))), q7, (-1), (W (x2 + 1)), h, R⟩
   intro c26
   replace h := ifN c26 h
   refine eN (sw_condF R (sw_skip (then_norm (qG (r_asgD R R R (eN (sw_seq (qG (r_fa tb R R R R R R R (r_ldD (y := .v (.int .i64 e2.what)) tb R R R R R R R R R ?_))))))))))
   refine r_eql R R R R ?_ ?_
   ·intro c36
    replace h := ifP c36 h
    refine eN (sw_condT R (sw_rg (r_fa tb R R R R R R R (r_ldD (y := .v (.int .i64 e2.to_)) tb R R R R R R R R R (r_asgD R R R (eN (sw_rg (r_movW R R R (r_movD R R R (r_bslice tb R R R R R R R R R R R R R ?_))))))))))
    obtain ⟨q8, iq8, h⟩ := bnd h
    refine r_apM (g := vI) (w := lv) (v := [rv4.1]) ([some ⟨4, [.d (WiPlan.d t)]⟩, some ⟨4, [.d (WiState.d o)]⟩, some ⟨3, [.d (WiNight.d a)]⟩, some ⟨4, [WiState_T1 rv.1 4 5 6]⟩, some (lvI rv.1.used), some (lvI rv.1.credit), some (lvI rv.1.last), some ⟨4, [.d (WiUse.d rv.2.1)]⟩, none, some (lvI rv5.1), some ⟨3, [.d (WiTurn.d e2)]⟩, some (lvI [rv4.1])]) tb R R R R R R R R R R R iq8 R R R R R (r_asgW R R R (ev_end (block_norm (then_norm (sw_rg (r_movD R R R (r_add R R R R (r_asgD R R R (eN ?_)))))))))
    exact ⟨m8, ⟨[(3, .ref 0 4 0 0), (4, .ref 1 4 0 0), (5, .ref 2 3 0 0), (6, .d (.v (.bool false))), (7, .ref 3 4 0 0), (8, .ref 7 4 0 0), (10, .row 8 1 0 (q8).length), (11, .d (.v (.int .i64 e2.to_))), (12, .d (.v (.int .i64 (W (x2 + 1)))))], [some ⟨4, [.d (WiPlan.d t)]⟩, some ⟨4, [.d (WiState.d o)]⟩, some ⟨3, [.d (WiNight.d a)]⟩, some ⟨4, [WiState_T1 rv.1 4 5 6]⟩, some (lvI rv.1.used), some (lvI rv.1.credit), some (lvI rv.1.last), some ⟨4, [.d (WiUse.d rv.2.1)]⟩, some (lvI q8)]⟩, [0, 1, 2, 3, 4, 5, 6, 7, 12], Nat.lt_succ_self _, (vwK R R (.cons R R (.cons R R (.cons R R (.cons R R (.row R (.row R (.row R (.cons R R (.row R .nil))))))))) (.cons R R (.cons R R (.cons R R (.cons R R (.cons R R (.cons R R (.cons R R (.cons R R (.cons R R .nil)))))))))), q8, e2.to_, (W (x2 + 1)), h, R⟩
   intro c36
   replace h := ifN c36 h
   refine eN (sw_condF R (sw_skip (then_norm (sw_rg (r_movW R R R (r_movD R R R (r_bslice tb R R R R R R R R R R R R R ?_)))))))
   obtain ⟨q9, iq9, h⟩ := bnd h
   refine r_apM (g := vI) (w := lv) (v := [rv4.1]) ([some ⟨4, [.d (WiPlan.d t)]⟩, some ⟨4, [.d (WiState.d o)]⟩, some ⟨3, [.d (WiNight.d a)]⟩, some ⟨4, [WiState_T1 rv.1 4 5 6]⟩, some (lvI rv.1.used), some (lvI rv.1.credit), some (lvI rv.1.last), some ⟨4, [.d (WiUse.d rv.2.1)]⟩, none, some (lvI rv5.1), some ⟨3, [.d (WiTurn.d e2)]⟩, some (lvI [rv4.1])]) tb R R R R R R R R R R R iq9 R R R R R (r_asgW R R R (ev_end (block_norm (then_norm (sw_rg (r_movD R R R (r_add R R R R (r_asgD R R R (eN ?_)))))))))
   exact ⟨m8, ⟨[(3, .ref 0 4 0 0), (4, .ref 1 4 0 0), (5, .ref 2 3 0 0), (6, .d (.v (.bool false))), (7, .ref 3 4 0 0), (8, .ref 7 4 0 0), (10, .row 8 1 0 (q9).length), (11, .d (.v (.int .i64 (-1)))), (12, .d (.v (.int .i64 (W (x2 + 1)))))], [some ⟨4, [.d (WiPlan.d t)]⟩, some ⟨4, [.d (WiState.d o)]⟩, some ⟨3, [.d (WiNight.d a)]⟩, some ⟨4, [WiState_T1 rv.1 4 5 6]⟩, some (lvI rv.1.used), some (lvI rv.1.credit), some (lvI rv.1.last), some ⟨4, [.d (WiUse.d rv.2.1)]⟩, some (lvI q9)]⟩, [0, 1, 2, 3, 4, 5, 6, 7, 12], Nat.lt_succ_self _, (vwK R R (.cons R R (.cons R R (.cons R R (.cons R R (.row R (.row R (.row R (.cons R R (.row R .nil))))))))) (.cons R R (.cons R R (.cons R R (.cons R R (.cons R R (.cons R R (.cons R R (.cons R R (.cons R R .nil)))))))))), q9, (-1), (W (x2 + 1)), h, R⟩
  replace h := (optS nv).symm.trans h
  by_cases c70 : t2.length = 0
  ·cases (if_pos c70).symm.trans h
  replace h := ifN c70 h
  refine r_callO (t' := .tup [.d (.v (.int .i64 rv4.1)), .d (.v (.int .i64 rv4.2.1)), .row 9 1 1 ((t2).length - 1), .d (.v (.int .i64 rv4.2.2.2))]) (ls := []) (news := [(lvI t2)]) ([]) ([some ⟨4, [.d (WiPlan.d t)]⟩, some ⟨4, [.d (WiState.d o)]⟩, some ⟨3, [.d (WiNight.d a)]⟩, some ⟨4, [WiState_T1 rv.1 4 5 6]⟩, some (lvI rv.1.used), some (lvI rv.1.credit), some (lvI rv.1.last), some ⟨4, [.d (WiUse.d rv.2.1)]⟩, some (lvI lv), some (lvI t2)]) ((window_Turns_sco hrv4).some nv) (.of (by kernel_rfl)) R (.inl ⟨R, R, R⟩) R R R R .nil R R R .nil ((.row .nil)) R R R R ?_
  refine r_movT (.tup [.d (.v (.int .i64 rv4.1)), .d (.v (.int .i64 rv4.2.1)), .row 9 1 1 ((t2).length - 1), .d (.v (.int .i64 rv4.2.2.2))]) R R R (r_ext (t := .d (.v (.int .i64 rv4.1))) R R R R (r_ext (t := .d (.v (.int .i64 rv4.2.1))) R R R R (r_ext (t := .row 9 1 1 ((t2).length - 1)) R R R R (r_ext (t := .d (.v (.int .i64 rv4.2.2.2))) R R R R (r_asgD R R R (r_asgD R R R (r_asgW R R R (r_asgD R R R (ev_endD (by kernel_rfl) (then_norm (qG (r_ldD (y := WiPlan.d t) tb R R R R R R R R R ?_))))))))))))
  refine r_ldD (y := WiState.d o) tb R R R R R R R R R (r_fa tb R R R R R R R (r_ldD (y := .agg [.arr 1 ((a.sky_Kinds).map vI), .v (.int .i64 a.sky_Wind)]) tb R R R R R R R R R (r_movD R R R ?_)))
  obtain ⟨rv14, hrv14, h⟩ := bnd h
  refine r_callN (t' := .tup [.row 10 1 0 (rv14.1).length, .d (.v (.int .i64 rv14.2))]) (news' := [(lvI rv14.1)]) (window_Rights_scr hrv14) (.of (by kernel_rfl)) R R R ((.row .nil)) R R R (r_movT (.tup [.row 10 1 0 (rv14.1).length, .d (.v (.int .i64 rv14.2))]) R R R (r_ext (t := .row 10 1 0 (rv14.1).length) R R R R (r_ext (t := .d (.v (.int .i64 rv14.2))) R R R R (r_asgW R R R (r_asgD R R R (eN (sw_seq (qG (r_movD R R R ?_)))))))))
  refine r_neq R R R R ?_ ?_
  ·intro c37
   replace h := ifN c37 h
   refine r_movD R R R (r_skip R R R (r_skip R R R (r_pickT R R R R (r_movD R R R (r_skip R R R (r_skip R R R (r_skip R R R (r_skip R R R (r_pickT R R R R (r_movD R R R (r_skip R R R (r_skip R R R (r_skip R R R (r_skip R R R (r_pickT R R R R (eN (sw_condT R (qG (r_asgD R R R (eN (sw_ret (then_ret (block_ret (then_ret (then_ret (block_ret (then_ret ?_)))))))))))))))))))))))))))
   obtain rfl := sI h
   exact fin_0 (t := .d (.v (.bool false))) R R R (.cons (.tmp 6) .nil)
  intro c37
  replace h := ifP c37 h
  refine r_movD R R R (r_movD R R R ?_)
  refine r_neq R R R R ?_ ?_
  ·intro c38
   replace h := ifN c38 h
   refine r_pickF R R R R (r_movD R R R (r_skip R R R (r_skip R R R (r_skip R R R (r_skip R R R (r_pickT R R R R (r_movD R R R (r_skip R R R (r_skip R R R (r_skip R R R (r_skip R R R (r_pickT R R R R (eN (sw_condT R (qG (r_asgD R R R (eN (sw_ret (then_ret (block_ret (then_ret (then_ret (block_ret (then_ret ?_))))))))))))))))))))))))
   obtain rfl := sI h
   exact fin_0 (t := .d (.v (.bool false))) R R R (.cons (.tmp 6) .nil)
  intro c38
  replace h := ifP c38 h
  refine r_pickF R R R R (r_movD R R R (r_movW R R R (r_movD R R R ?_)))
  obtain ⟨rv15, hrv15, h⟩ := bnd h
  refine r_callL (l_listed_pc hrv15) R (.of (by kernel_rfl)) R R ((.cons (.row R R) (.cons (.d _) .nil))) R R ?_
  refine r_lss R R R R ?_ ?_
  ·intro c39
   replace h := ifP c39 h
   refine r_pickF R R R R (r_movD R R R (r_skip R R R (r_skip R R R (r_skip R R R (r_skip R R R (r_pickT R R R R (eN (sw_condT R (qG (r_asgD R R R (eN (sw_ret (then_ret (block_ret (then_ret (then_ret (block_ret (then_ret ?_))))))))))))))))))
   obtain rfl := sI h
   exact fin_0 (t := .d (.v (.bool false))) R R R (.cons (.tmp 6) .nil)
  intro c39
  replace h := ifN (Int.not_lt.2 c39) h
  refine r_pickF R R R R (r_movD R R R (r_movW R R R (r_movD R R R ?_)))
  obtain ⟨rv16, hrv16, h⟩ := bnd h
  refine r_callL (l_listed_pc hrv16) R (.of (by kernel_rfl)) R R ((.cons (.row R R) (.cons (.d _) .nil))) R R ?_
  refine r_geq R R R R ?_ ?_
  ·intro c40
   replace h := ifP c40 h
   refine r_pickF R R R R (eN (sw_condT R (qG (r_asgD R R R (eN (sw_ret (then_ret (block_ret (then_ret (then_ret (block_ret (then_ret ?_))))))))))))
   obtain rfl := sI h
   exact fin_0 (t := .d (.v (.bool false))) R R R (.cons (.tmp 6) .nil)
  intro c40
  replace h := ifN (Int.not_le.2 c40) h
  refine r_pickF R R R R (eN (sw_condF R (sw_skip (then_norm (qG (r_asgD R R R (eN (sw_seq (qG (r_asgD R R R (eN (sw_block ?_))))))))))))
  obtain ⟨K10, hK10, h⟩ : ∃ K, K = _ ∧ l_WindowNamed_L6 F lv x rv4 t2 rv14 K F 0 0 = some r := ⟨_, rfl, h⟩
  refine sw_loop (st0 := ⟨[(3, .ref 0 4 0 0), (4, .ref 1 4 0 0), (5, .ref 2 3 0 0), (6, .d (.v (.bool false))), (7, .ref 3 4 0 0), (8, .ref 7 4 0 0), (10, .row 8 1 0 (lv).length), (11, .d (.v (.int .i64 x))), (12, .d (.v (.int .i64 x2))), (13, .d (.v (.int .i64 rv4.1))), (15, .row 9 1 1 ((t2).length - 1)), (17, .row 10 1 0 (rv14.1).length), (19, .d (.v (.int .i64 0))), (20, .d (.v (.int .i64 0)))], [some ⟨4, [.d (WiPlan.d t)]⟩, some ⟨4, [.d (WiState.d o)]⟩, some ⟨3, [.d (WiNight.d a)]⟩, some ⟨4, [WiState_T1 rv.1 4 5 6]⟩, some (lvI rv.1.used), some (lvI rv.1.credit), some (lvI rv.1.last), some ⟨4, [.d (WiUse.d rv.2.1)]⟩, some (lvI lv), some (lvI t2), some (lvI rv14.1)]⟩) (κ := [0, 1, 2, 3, 4, 5, 6, 7, 8, 9, 10]) (fun m st => ∃ (x5 : Int) (x6 : Int), l_WindowNamed_L6 F lv x rv4 t2 rv14 K10 m x5 x6 = some r ∧ st = ⟨[(3, .ref 0 4 0 0), (4, .ref 1 4 0 0), (5, .ref 2 3 0 0), (6, .d (.v (.bool false))), (7, .ref 3 4 0 0), (8, .ref 7 4 0 0), (10, .row 8 1 0 (lv).length), (11, .d (.v (.int .i64 x))), (12, .d (.v (.int .i64 x2))), (13, .d (.v (.int .i64 rv4.1))), (15, .row 9 1 1 ((t2).length - 1)), (17, .row 10 1 0 (rv14.1).length), (19, .d (.v (.int .i64 x5))), (20, .d (.v (.int .i64 x6)))], [some ⟨4, [.d (WiPlan.d t)]⟩, some ⟨4, [.d (WiState.d o)]⟩, some ⟨3, [.d (WiNight.d a)]⟩, some ⟨4, [WiState_T1 rv.1 4 5 6]⟩, some (lvI rv.1.used), some (lvI rv.1.credit), some (lvI rv.1.last), some ⟨4, [.d (WiUse.d rv.2.1)]⟩, some (lvI lv), some (lvI t2), some (lvI rv14.1)]⟩) (vwK R R (.cons R R (.cons R R (.cons R R (.cons R R (.row R (.row R (.row R (.cons R R (.row R (.row R (.row R .nil))))))))))) (.cons R R (.cons R R (.cons R R (.cons R R (.cons R R (.cons R R (.cons R R (.cons R R (.cons R R (.cons R R (.cons R R (.cons R R (.cons R R (.cons R R .nil))))))))))))))) ⟨0, 0, h, R⟩ ?_
  clear h
  rintro m10 st ⟨x5, x6, h, rfl⟩
  cases m10 with
  | zero => cases (show (none : Option Bool) = some r from h)
  | succ m10 =>
  rw [l_WindowNamed_L6] at h
  refine sw_seq (qG (r_movD R R R (r_movW R R R (r_lenR tb R R R R R ?_))))
  refine r_lss R R R R ?_ ?_
  ·intro c41
   replace h := ifP c41 h
   refine eN (sw_condT R (sw_skip (then_norm (sw_seq (sw_block (qG (r_movW R R R (r_movD R R R ?_))))))))
   obtain ⟨e7, ie7, h⟩ := bnd h
   refine r_ixI tb R R R R R R (ix0 ie7) (ix1 ie7) R R ?_
   refine r_ldD (y := .v (.int .i64 e7)) tb R R R R (ix2 (g := fun a => T.d (vI a)) ie7) R R R R ?_
   refine r_movD R R R ?_
   refine r_neq R R R R ?_ ?_
   ·intro c42
    replace h := ifN c42 h
    refine r_movD R R R (r_movW R R R (r_movW R R R (r_movD R R R (r_ixI tb R R R R R R (ix0 ie7) (ix1 ie7) R R ?_))))
    refine r_ldD (y := .v (.int .i64 e7)) tb R R R R (ix2 (g := fun a => T.d (vI a)) ie7) R R R R ?_
    obtain ⟨rv17, hrv17, h⟩ := bnd h
    refine r_callL (l_listed_pc hrv17) R (.of (by kernel_rfl)) R R ((.cons (.row R R) (.cons (.d _) .nil))) R R ?_
    refine r_lss R R R R ?_ ?_
    ·intro c43
     replace h := ifP c43 h
     refine r_pickT R R R R (eN (sw_condT R (qG (r_movD R R R (r_add R R R R (r_asgD R R R (eN (qG (r_movD R R R ?_)))))))))
     refine r_lss R R R R ?_ ?_
     ·intro c44
      replace h := ifP c44 h
      refine r_movD R R R (r_movW R R R (r_movW R R R (r_movD R R R (r_ixI tb R R R R R R (ix0 ie7) (ix1 ie7) R R ?_))))
      refine r_ldD (y := .v (.int .i64 e7)) tb R R R R (ix2 (g := fun a => T.d (vI a)) ie7) R R R R ?_
      obtain ⟨rv18, hrv18, h⟩ := bnd h
      refine r_callL (l_listed_pc hrv18) R (.of (by kernel_rfl)) R R ((.cons (.rowT R R (by omega)) (.cons (.d _) .nil))) R R ?_
      refine r_lss R R R R ?_ ?_
      ·intro c45
       replace h := ifP c45 h
       refine r_pickT R R R R (eN (sw_condT R (qG (r_asgD R R R (eN (sw_ret (block_ret (then_ret (then_ret (block_ret (then_ret (block_ret (then_ret (then_ret (block_ret (then_ret ?_))))))))))))))))
       obtain rfl := sI h
       exact fin_0 (t := .d (.v (.bool false))) R R R (.cons (.tmp 6) .nil)
      intro c45
      replace h := ifN (Int.not_lt.2 c45) h
      refine r_pickT R R R R (eN (sw_condF R (sw_skip (block_norm (then_norm (sw_rg (r_movD R R R (r_add R R R R (r_asgD R R R (eN ?_))))))))))
      exact ⟨m10, ⟨[(3, .ref 0 4 0 0), (4, .ref 1 4 0 0), (5, .ref 2 3 0 0), (6, .d (.v (.bool false))), (7, .ref 3 4 0 0), (8, .ref 7 4 0 0), (10, .row 8 1 0 (lv).length), (11, .d (.v (.int .i64 x))), (12, .d (.v (.int .i64 x2))), (13, .d (.v (.int .i64 rv4.1))), (15, .row 9 1 1 ((t2).length - 1)), (17, .row 10 1 0 (rv14.1).length), (19, .d (.v (.int .i64 (W (x5 + 1))))), (20, .d (.v (.int .i64 (W (x6 + 1)))))], [some ⟨4, [.d (WiPlan.d t)]⟩, some ⟨4, [.d (WiState.d o)]⟩, some ⟨3, [.d (WiNight.d a)]⟩, some ⟨4, [WiState_T1 rv.1 4 5 6]⟩, some (lvI rv.1.used), some (lvI rv.1.credit), some (lvI rv.1.last), some ⟨4, [.d (WiUse.d rv.2.1)]⟩, some (lvI lv), some (lvI t2), some (lvI rv14.1)]⟩, [0, 1, 2, 3, 4, 5, 6, 7, 8, 9, 10], Nat.lt_succ_self _, (vwK R R (.cons R R (.cons R R (.cons R R (.cons R R (.row R (.row R (.row R (.cons R R (.row R (.row R (.row R .nil))))))))))) (.cons R R (.cons R R (.cons R R (.cons R R (.cons R R (.cons R R (.cons R R (.cons R R (.cons R R (.cons R R (.cons R R (.cons R R (.cons R R (.cons R R .nil))))))))))))))), (W (x5 + 1)), (W (x6 + 1)), h, R⟩
     intro c44
     replace h := ifN (Int.not_lt.2 c44) h
     refine r_movD R R R (r_skip R R R (r_skip R R R (r_skip R R R (r_skip R R R (r_skip R R R (r_skip R R R (r_skip R R R (r_pickF R R R R (eN (sw_condF R (sw_skip (block_norm (then_norm (sw_rg (r_movD R R R (r_add R R R R (r_asgD R R R (eN ?_))))))))))))))))))
     exact ⟨m10, ⟨[(3, .ref 0 4 0 0), (4, .ref 1 4 0 0), (5, .ref 2 3 0 0), (6, .d (.v (.bool false))), (7, .ref 3 4 0 0), (8, .ref 7 4 0 0), (10, .row 8 1 0 (lv).length), (11, .d (.v (.int .i64 x))), (12, .d (.v (.int .i64 x2))), (13, .d (.v (.int .i64 rv4.1))), (15, .row 9 1 1 ((t2).length - 1)), (17, .row 10 1 0 (rv14.1).length), (19, .d (.v (.int .i64 (W (x5 + 1))))), (20, .d (.v (.int .i64 (W (x6 + 1)))))], [some ⟨4, [.d (WiPlan.d t)]⟩, some ⟨4, [.d (WiState.d o)]⟩, some ⟨3, [.d (WiNight.d a)]⟩, some ⟨4, [WiState_T1 rv.1 4 5 6]⟩, some (lvI rv.1.used), some (lvI rv.1.credit), some (lvI rv.1.last), some ⟨4, [.d (WiUse.d rv.2.1)]⟩, some (lvI lv), some (lvI t2), some (lvI rv14.1)]⟩, [0, 1, 2, 3, 4, 5, 6, 7, 8, 9, 10], Nat.lt_succ_self _, (vwK R R (.cons R R (.cons R R (.cons R R (.cons R R (.row R (.row R (.row R (.cons R R (.row R (.row R (.row R .nil))))))))))) (.cons R R (.cons R R (.cons R R (.cons R R (.cons R R (.cons R R (.cons R R (.cons R R (.cons R R (.cons R R (.cons R R (.cons R R (.cons R R (.cons R R .nil))))))))))))))), (W (x5 + 1)), (W (x6 + 1)), h, R⟩
    intro c43
    replace h := ifN (Int.not_lt.2 c43) h
    refine r_pickT R R R R (eN (sw_condF R (sw_skip (block_norm (then_norm (sw_rg (r_movD R R R (r_add R R R R (r_asgD R R R (eN ?_))))))))))
    exact ⟨m10, ⟨[(3, .ref 0 4 0 0), (4, .ref 1 4 0 0), (5, .ref 2 3 0 0), (6, .d (.v (.bool false))), (7, .ref 3 4 0 0), (8, .ref 7 4 0 0), (10, .row 8 1 0 (lv).length), (11, .d (.v (.int .i64 x))), (12, .d (.v (.int .i64 x2))), (13, .d (.v (.int .i64 rv4.1))), (15, .row 9 1 1 ((t2).length - 1)), (17, .row 10 1 0 (rv14.1).length), (19, .d (.v (.int .i64 x5))), (20, .d (.v (.int .i64 (W (x6 + 1)))))], [some ⟨4, [.d (WiPlan.d t)]⟩, some ⟨4, [.d (WiState.d o)]⟩, some ⟨3, [.d (WiNight.d a)]⟩, some ⟨4, [WiState_T1 rv.1 4 5 6]⟩, some (lvI rv.1.used), some (lvI rv.1.credit), some (lvI rv.1.last), some ⟨4, [.d (WiUse.d rv.2.1)]⟩, some (lvI lv), some (lvI t2), some (lvI rv14.1)]⟩, [0, 1, 2, 3, 4, 5, 6, 7, 8, 9, 10], Nat.lt_succ_self _, (vwK R R (.cons R R (.cons R R (.cons R R (.cons R R (.row R (.row R (.row R (.cons R R (.row R (.row R (.row R .nil))))))))))) (.cons R R (.cons R R (.cons R R (.cons R R (.cons R R (.cons R R (.cons R R (.cons R R (.cons R R (.cons R R (.cons R R (.cons R R (.cons R R (.cons R R .nil))))))))))))))), x5, (W (x6 + 1)), h, R⟩
   intro c42
   replace h := ifP c42 h
   refine r_movD R R R (r_skip R R R (r_skip R R R (r_skip R R R (r_skip R R R (r_skip R R R (r_skip R R R (r_skip R R R (r_pickF R R R R (eN (sw_condF R (sw_skip (block_norm (then_norm (sw_rg (r_movD R R R (r_add R R R R (r_asgD R R R (eN ?_))))))))))))))))))
   exact ⟨m10, ⟨[(3, .ref 0 4 0 0), (4, .ref 1 4 0 0), (5, .ref 2 3 0 0), (6, .d (.v (.bool false))), (7, .ref 3 4 0 0), (8, .ref 7 4 0 0), (10, .row 8 1 0 (lv).length), (11, .d (.v (.int .i64 x))), (12, .d (.v (.int .i64 x2))), (13, .d (.v (.int .i64 rv4.1))), (15, .row 9 1 1 ((t2).length - 1)), (17, .row 10 1 0 (rv14.1).length), (19, .d (.v (.int .i64 x5))), (20, .d (.v (.int .i64 (W (x6 + 1)))))], [some ⟨4, [.d (WiPlan.d t)]⟩, some ⟨4, [.d (WiState.d o)]⟩, some ⟨3, [.d (WiNight.d a)]⟩, some ⟨4, [WiState_T1 rv.1 4 5 6]⟩, some (lvI rv.1.used), some (lvI rv.1.credit), some (lvI rv.1.last), some ⟨4, [.d (WiUse.d rv.2.1)]⟩, some (lvI lv), some (lvI t2), some (lvI rv14.1)]⟩, [0, 1, 2, 3, 4, 5, 6, 7, 8, 9, 10], Nat.lt_succ_self _, (vwK R R (.cons R R (.cons R R (.cons R R (.cons R R (.row R (.row R (.row R (.cons R R (.row R (.row R (.row R .nil))))))))))) (.cons R R (.cons R R (.cons R R (.cons R R (.cons R R (.cons R R (.cons R R (.cons R R (.cons R R (.cons R R (.cons R R (.cons R R (.cons R R (.cons R R .nil))))))))))))))), x5, (W (x6 + 1)), h, R⟩
  intro c41
  replace h := ifN (Int.not_lt.2 c41) h
  refine eN (sw_condF R (sw_exit (then_exit (then_exit ?_))))
  subst hK10
  refine block_exit (then_norm (qG (r_fa tb R R R R R R R (r_ldD (y := .arr 3 ((a.turns).map WiTurn.d)) tb R R R R R R R R R (r_movD R R R ?_)))))
  obtain ⟨e8, ie8, h⟩ := bnd h
  refine r_ixE tb R R R R R R (ix0 ie8) (ix1m ie8) R R (r_ldE (y := WiTurn.d e8) tb R R (ix2 (g := WiTurn.d) ie8) R R R R (r_alloc tb R R R R R (r_stE _ ([some ⟨4, [.d (WiPlan.d t)]⟩, some ⟨4, [.d (WiState.d o)]⟩, some ⟨3, [.d (WiNight.d a)]⟩, some ⟨4, [WiState_T1 rv.1 4 5 6]⟩, some (lvI rv.1.used), some (lvI rv.1.credit), some (lvI rv.1.last), some ⟨4, [.d (WiUse.d rv.2.1)]⟩, some (lvI lv), some (lvI t2), some (lvI rv14.1), some ⟨3, [.d (WiTurn.d e8)]⟩]) tb R R R R R R R R R R R R (eN (sw_seq (qG ?_))))))
  refine r_movD R R R ?_
  refine r_geq R R R R ?_ ?_
  ·intro c46
   replace h := ifP c46 h
   refine r_movD R R R (r_movD R R R (r_movD R R R ?_))
   refine r_neq R R R R ?_ ?_
   ·intro c47
    replace h := ifN c47 h
    refine r_pickT R R R R (eN (sw_condT R (qG (r_asgD R R R (eN (sw_ret (then_ret (block_ret (then_ret (then_ret (block_ret (then_ret ?_))))))))))))
    obtain rfl := sI h
    exact fin_0 (t := .d (.v (.bool false))) R R R (.cons (.tmp 6) .nil)
   intro c47
   replace h := ifP c47 h
   refine r_pickT R R R R (eN (sw_condF R (sw_skip (then_norm (sw_seq (qG (r_fa tb R R R R R R R (r_ldD (y := .v (.int .i64 e8.what)) tb R R R R R R R R R ?_))))))))
   refine r_eql R R R R ?_ ?_
   ·intro c48
    replace h := ifP c48 h
    refine eN (sw_condT R (sw_seq (qG (r_movD R R R (r_fa tb R R R R R R R (r_ldD (y := .arr 3 ((a.turns).map WiTurn.d)) tb R R R R R R R R R (r_lenM tb R R R R R (r_sub R R R R ?_))))))))
    refine r_neq R R R R ?_ ?_
    ·intro c49
     replace h := ifN c49 h
     refine r_movD R R R (r_skip R R R (r_skip R R R (r_skip R R R (r_skip R R R (r_pickT R R R R (r_movD R R R (r_skip R R R (r_skip R R R (r_skip R R R (r_skip R R R (r_skip R R R (r_pickT R R R R (r_movD R R R (r_skip R R R (r_skip R R R (r_skip R R R (r_skip R R R (r_skip R R R (r_skip R R R (r_pickT R R R R (eN (sw_condT R (qG (r_asgD R R R (eN (sw_ret (then_ret (then_ret (block_ret (then_ret (then_ret ?_)))))))))))))))))))))))))))))))
     refine block_ret (then_ret ?_)
     obtain rfl := sI h
     exact fin_0 (t := .d (.v (.bool false))) R R R (.cons (.tmp 6) .nil)
    intro c49
    replace h := ifP c49 h
    refine r_movD R R R (r_fa tb R R R R R R R (r_ldD (y := .v (.int .i64 rv.2.1.team)) tb R R R R R R R R R (r_movD R R R ?_)))
    refine r_neq R R R R ?_ ?_
    ·intro c50
     replace h := ifN c50 h
     refine r_pickF R R R R (r_movD R R R (r_skip R R R (r_skip R R R (r_skip R R R (r_skip R R R (r_skip R R R (r_pickT R R R R (r_movD R R R (r_skip R R R (r_skip R R R (r_skip R R R (r_skip R R R (r_skip R R R (r_skip R R R (r_pickT R R R R (eN (sw_condT R (qG (r_asgD R R R (eN (sw_ret (then_ret (then_ret (block_ret (then_ret (then_ret (block_ret (then_ret ?_))))))))))))))))))))))))))))
     obtain rfl := sI h
     exact fin_0 (t := .d (.v (.bool false))) R R R (.cons (.tmp 6) .nil)
    intro c50
    replace h := ifP c50 h
    refine r_pickF R R R R (r_movD R R R (r_fa tb R R R R R R R (r_ldD (y := .v (.int .i64 rv.2.1.at_)) tb R R R R R R R R R (r_fa tb R R R R R R R (r_ldD (y := .v (.int .i64 e8.at_)) tb R R R R R R R R R ?_)))))
    refine r_neq R R R R ?_ ?_
    ·intro c51
     replace h := ifN c51 h
     refine r_pickF R R R R (r_movD R R R (r_skip R R R (r_skip R R R (r_skip R R R (r_skip R R R (r_skip R R R (r_skip R R R (r_pickT R R R R (eN (sw_condT R (qG (r_asgD R R R (eN (sw_ret (then_ret (then_ret (block_ret (then_ret (then_ret (block_ret (then_ret ?_)))))))))))))))))))))
     obtain rfl := sI h
     exact fin_0 (t := .d (.v (.bool false))) R R R (.cons (.tmp 6) .nil)
    intro c51
    replace h := ifP c51 h
    refine r_pickF R R R R (r_movD R R R (r_fa tb R R R R R R R (r_ldD (y := .v (.int .i64 rv.2.1.by_)) tb R R R R R R R R R (r_geqV R R R R (r_movD R R R (r_geqV R R R R (r_boolneq R R R R R ?_)))))))
    with_reducible apply ev_lit
    ·intro c52
     replace h := ifP c52 h
     refine r_pickF R R R R (eN (sw_condT R (qG (r_asgD R R R (eN (sw_ret (then_ret (then_ret (block_ret (then_ret (then_ret (block_ret (then_ret ?_)))))))))))))
     obtain rfl := sI h
     exact fin_0 (t := .d (.v (.bool false))) R R R (.cons (.tmp 6) .nil)
    intro c52
    replace h := ifF c52 h
    refine r_pickF R R R R (eN (sw_condF R (sw_skip (then_norm (sw_seq (sw_dr (by kernel_rfl) (r_fa tb R R R R R R R (r_ldW tb R R R R R R R R R ?_))))))))
    obtain ⟨rv19, hrv19, h⟩ := bnd h
    refine r_callL (l_sum_pc hrv19) R (.of (by kernel_rfl)) R R ((.cons (.row R R) .nil)) R R (r_fa tb R R R R R R R (r_ldD (y := .arr 1 ((o.credit).map vI)) tb R R R R R R R R R ?_))
    obtain ⟨rv20, hrv20, h⟩ := bnd h
    refine r_call (l_sum_pc hrv20) (.of (by kernel_rfl)) R R R R (r_fa tb R R R R R R R (r_ldD (y := .v (.int .i64 t.cost)) tb R R R R R R R R R (r_sub R R R R (r_movD R R R (r_add R R R R ?_)))))
    refine r_neq R R R R ?_ ?_
    ·intro c53
     replace h := ifN c53 h
     refine r_movD R R R (r_skip R R R (r_skip R R R (r_skip R R R (r_skip R R R (r_skip R R R (r_pickT R R R R (r_movD R R R (r_skip R R R (r_skip R R R (r_skip R R R (r_skip R R R (r_skip R R R (r_pickT R R R R (r_movD R R R (r_skip R R R (r_skip R R R (r_skip R R R (r_skip R R R (r_skip R R R (r_skip R R R (r_skip R R R (r_skip R R R (r_skip R R R (r_skip R R R (r_skip R R R (r_skip R R R ?_))))))))))))))))))))))))))
     refine r_pickT R R R R (ev_endD (by kernel_rfl) (then_norm (sw_condT R (qG (r_asgD R R R (eN (sw_ret (then_ret (block_ret (then_ret (then_ret (block_ret (then_ret ?_)))))))))))))
     obtain rfl := sI h
     exact fin_0 (t := .d (.v (.bool false))) R R R (.cons (.tmp 6) .nil)
    intro c53
    replace h := ifP c53 h
    refine r_movD R R R (r_movD R R R (r_fa tb R R R R R R R (r_ldW tb R R R R R R R R R (r_lenR tb R R R R R ?_))))
    refine r_geq R R R R ?_ ?_
    ·intro c54
     replace h := ifP c54 h
     refine r_pickF R R R R (r_movD R R R (r_skip R R R (r_skip R R R (r_skip R R R (r_skip R R R (r_skip R R R (r_pickT R R R R (r_movD R R R (r_skip R R R (r_skip R R R (r_skip R R R (r_skip R R R (r_skip R R R (r_skip R R R (r_skip R R R (r_skip R R R (r_skip R R R (r_skip R R R (r_skip R R R (r_skip R R R (r_pickT R R R R (ev_endD (by kernel_rfl) (then_norm (sw_condT R (qG (r_asgD R R R (eN (sw_ret ?_))))))))))))))))))))))))))))
     refine then_ret (block_ret (then_ret (then_ret (block_ret (then_ret ?_)))))
     obtain rfl := sI h
     exact fin_0 (t := .d (.v (.bool false))) R R R (.cons (.tmp 6) .nil)
    intro c54
    replace h := ifN (Int.not_le.2 c54) h
    refine r_pickF R R R R (r_movD R R R (r_movD R R R (r_fa tb R R R R R R R (r_ldD (y := .arr 1 ((o.used).map vI)) tb R R R R R R R R R (r_lenM tb R R R R R ?_)))))
    refine r_geq R R R R ?_ ?_
    ·intro c55
     replace h := ifP c55 h
     refine r_pickF R R R R (r_movD R R R (r_skip R R R (r_skip R R R (r_skip R R R (r_skip R R R (r_skip R R R (r_skip R R R (r_skip R R R (r_skip R R R (r_skip R R R (r_skip R R R (r_skip R R R (r_skip R R R (r_pickT R R R R (ev_endD (by kernel_rfl) (then_norm (sw_condT R (qG (r_asgD R R R (eN (sw_ret (then_ret (block_ret (then_ret (then_ret (block_ret (then_ret ?_)))))))))))))))))))))))))))
     obtain rfl := sI h
     exact fin_0 (t := .d (.v (.bool false))) R R R (.cons (.tmp 6) .nil)
    intro c55
    replace h := ifN (Int.not_le.2 c55) h
    refine r_pickF R R R R (r_movD R R R (r_fa tb R R R R R R R (r_ldW tb R R R R R R R R R (r_movD R R R ?_))))
    obtain ⟨e9, ie9, h⟩ := bnd h
    refine r_ixI tb R R R R R R (ix0 ie9) (ix1 ie9) R R ?_
    refine r_ldD (y := .v (.int .i64 e9)) tb R R R R (ix2 (g := fun a => T.d (vI a)) ie9) R R R R ?_
    refine r_fa tb R R R R R R R (r_ldD (y := .arr 1 ((o.used).map vI)) tb R R R R R R R R R (r_movD R R R ?_))
    obtain ⟨e10, ie10, h⟩ := bnd h
    refine r_ixE tb R R R R R R (ix0 ie10) (ix1m ie10) R R (r_ldE (y := .v (.int .i64 e10)) tb R R (ix2 (g := vI) ie10) R R R R (r_add R R R R ?_))
    refine r_neq R R R R ?_ ?_
    ·intro c56
     replace h := ifN c56 h
     refine r_pickF R R R R (ev_endD (by kernel_rfl) (then_norm (sw_condT R (qG (r_asgD R R R (eN (sw_ret (then_ret (block_ret (then_ret (then_ret (block_ret (then_ret ?_)))))))))))))
     obtain rfl := sI h
     exact fin_0 (t := .d (.v (.bool false))) R R R (.cons (.tmp 6) .nil)
    intro c56
    replace h := ifP c56 h
    refine r_pickF R R R R (ev_endD (by kernel_rfl) (then_norm (sw_condF R (sw_skip (then_norm (qG (r_asgD R R R (eN (sw_seq (qG (r_fa tb R R R R R R R (r_ldD (y := .v (.int .i64 e8.what)) tb R R R R R R R R R ?_))))))))))))
    refine r_eql R R R R ?_ ?_
    ·intro c57
     replace h := ifP c57 h
     refine eN (sw_condT R (sw_rg (r_fa tb R R R R R R R (r_ldD (y := .v (.int .i64 e8.to_)) tb R R R R R R R R R (r_asgD R R R (eN (sw_rg (r_movW R R R (r_movD R R R (r_bslice tb R R R R R R R R R R R R R ?_))))))))))
     obtain ⟨q10, iq10, h⟩ := bnd h
     refine r_apM (g := vI) (w := lv) (v := [rv4.1]) ([some ⟨4, [.d (WiPlan.d t)]⟩, some ⟨4, [.d (WiState.d o)]⟩, some ⟨3, [.d (WiNight.d a)]⟩, some ⟨4, [WiState_T1 rv.1 4 5 6]⟩, some (lvI rv.1.used), some (lvI rv.1.credit), some (lvI rv.1.last), some ⟨4, [.d (WiUse.d rv.2.1)]⟩, none, some (lvI t2), some (lvI rv14.1), some ⟨3, [.d (WiTurn.d e8)]⟩, some (lvI [rv4.1])]) tb R R R R R R R R R R R iq10 R R R R R (r_asgW R R R (ev_end (block_norm (then_norm (sw_rg (r_movD R R R (r_add R R R R (r_asgD R R R (eN ?_)))))))))
     exact ⟨m8, ⟨[(3, .ref 0 4 0 0), (4, .ref 1 4 0 0), (5, .ref 2 3 0 0), (6, .d (.v (.bool false))), (7, .ref 3 4 0 0), (8, .ref 7 4 0 0), (10, .row 8 1 0 (q10).length), (11, .d (.v (.int .i64 e8.to_))), (12, .d (.v (.int .i64 (W (x2 + 1)))))], [some ⟨4, [.d (WiPlan.d t)]⟩, some ⟨4, [.d (WiState.d o)]⟩, some ⟨3, [.d (WiNight.d a)]⟩, some ⟨4, [WiState_T1 rv.1 4 5 6]⟩, some (lvI rv.1.used), some (lvI rv.1.credit), some (lvI rv.1.last), some ⟨4, [.d (WiUse.d rv.2.1)]⟩, some (lvI q10)]⟩, [0, 1, 2, 3, 4, 5, 6, 7, 13], Nat.lt_succ_self _, (vwK R R (.cons R R (.cons R R (.cons R R (.cons R R (.row R (.row R (.row R (.cons R R (.row R .nil))))))))) (.cons R R (.cons R R (.cons R R (.cons R R (.cons R R (.cons R R (.cons R R (.cons R R (.cons R R .nil)))))))))), q10, e8.to_, (W (x2 + 1)), h, R⟩
    intro c57
    replace h := ifN c57 h
    refine eN (sw_condF R (sw_skip (then_norm (sw_rg (r_movW R R R (r_movD R R R (r_bslice tb R R R R R R R R R R R R R ?_)))))))
    obtain ⟨q11, iq11, h⟩ := bnd h
    refine r_apM (g := vI) (w := lv) (v := [rv4.1]) ([some ⟨4, [.d (WiPlan.d t)]⟩, some ⟨4, [.d (WiState.d o)]⟩, some ⟨3, [.d (WiNight.d a)]⟩, some ⟨4, [WiState_T1 rv.1 4 5 6]⟩, some (lvI rv.1.used), some (lvI rv.1.credit), some (lvI rv.1.last), some ⟨4, [.d (WiUse.d rv.2.1)]⟩, none, some (lvI t2), some (lvI rv14.1), some ⟨3, [.d (WiTurn.d e8)]⟩, some (lvI [rv4.1])]) tb R R R R R R R R R R R iq11 R R R R R (r_asgW R R R (ev_end (block_norm (then_norm (sw_rg (r_movD R R R (r_add R R R R (r_asgD R R R (eN ?_)))))))))
    exact ⟨m8, ⟨[(3, .ref 0 4 0 0), (4, .ref 1 4 0 0), (5, .ref 2 3 0 0), (6, .d (.v (.bool false))), (7, .ref 3 4 0 0), (8, .ref 7 4 0 0), (10, .row 8 1 0 (q11).length), (11, .d (.v (.int .i64 (-1)))), (12, .d (.v (.int .i64 (W (x2 + 1)))))], [some ⟨4, [.d (WiPlan.d t)]⟩, some ⟨4, [.d (WiState.d o)]⟩, some ⟨3, [.d (WiNight.d a)]⟩, some ⟨4, [WiState_T1 rv.1 4 5 6]⟩, some (lvI rv.1.used), some (lvI rv.1.credit), some (lvI rv.1.last), some ⟨4, [.d (WiUse.d rv.2.1)]⟩, some (lvI q11)]⟩, [0, 1, 2, 3, 4, 5, 6, 7, 13], Nat.lt_succ_self _, (vwK R R (.cons R R (.cons R R (.cons R R (.cons R R (.row R (.row R (.row R (.cons R R (.row R .nil))))))))) (.cons R R (.cons R R (.cons R R (.cons R R (.cons R R (.cons R R (.cons R R (.cons R R (.cons R R .nil)))))))))), q11, (-1), (W (x2 + 1)), h, R⟩
   intro c48
   replace h := ifN c48 h
   refine eN (sw_condF R (sw_skip (then_norm (qG (r_asgD R R R (eN (sw_seq (qG (r_fa tb R R R R R R R (r_ldD (y := .v (.int .i64 e8.what)) tb R R R R R R R R R ?_))))))))))
   refine r_eql R R R R ?_ ?_
   ·intro c58
    replace h := ifP c58 h
    refine eN (sw_condT R (sw_rg (r_fa tb R R R R R R R (r_ldD (y := .v (.int .i64 e8.to_)) tb R R R R R R R R R (r_asgD R R R (eN (sw_rg (r_movW R R R (r_movD R R R (r_bslice tb R R R R R R R R R R R R R ?_))))))))))
    obtain ⟨q12, iq12, h⟩ := bnd h
    refine r_apM (g := vI) (w := lv) (v := [rv4.1]) ([some ⟨4, [.d (WiPlan.d t)]⟩, some ⟨4, [.d (WiState.d o)]⟩, some ⟨3, [.d (WiNight.d a)]⟩, some ⟨4, [WiState_T1 rv.1 4 5 6]⟩, some (lvI rv.1.used), some (lvI rv.1.credit), some (lvI rv.1.last), some ⟨4, [.d (WiUse.d rv.2.1)]⟩, none, some (lvI t2), some (lvI rv14.1), some ⟨3, [.d (WiTurn.d e8)]⟩, some (lvI [rv4.1])]) tb R R R R R R R R R R R iq12 R R R R R (r_asgW R R R (ev_end (block_norm (then_norm (sw_rg (r_movD R R R (r_add R R R R (r_asgD R R R (eN ?_)))))))))
    exact ⟨m8, ⟨[(3, .ref 0 4 0 0), (4, .ref 1 4 0 0), (5, .ref 2 3 0 0), (6, .d (.v (.bool false))), (7, .ref 3 4 0 0), (8, .ref 7 4 0 0), (10, .row 8 1 0 (q12).length), (11, .d (.v (.int .i64 e8.to_))), (12, .d (.v (.int .i64 (W (x2 + 1)))))], [some ⟨4, [.d (WiPlan.d t)]⟩, some ⟨4, [.d (WiState.d o)]⟩, some ⟨3, [.d (WiNight.d a)]⟩, some ⟨4, [WiState_T1 rv.1 4 5 6]⟩, some (lvI rv.1.used), some (lvI rv.1.credit), some (lvI rv.1.last), some ⟨4, [.d (WiUse.d rv.2.1)]⟩, some (lvI q12)]⟩, [0, 1, 2, 3, 4, 5, 6, 7, 13], Nat.lt_succ_self _, (vwK R R (.cons R R (.cons R R (.cons R R (.cons R R (.row R (.row R (.row R (.cons R R (.row R .nil))))))))) (.cons R R (.cons R R (.cons R R (.cons R R (.cons R R (.cons R R (.cons R R (.cons R R (.cons R R .nil)))))))))), q12, e8.to_, (W (x2 + 1)), h, R⟩
   intro c58
   replace h := ifN c58 h
   refine eN (sw_condF R (sw_skip (then_norm (sw_rg (r_movW R R R (r_movD R R R (r_bslice tb R R R R R R R R R R R R R ?_)))))))
   obtain ⟨q13, iq13, h⟩ := bnd h
   refine r_apM (g := vI) (w := lv) (v := [rv4.1]) ([some ⟨4, [.d (WiPlan.d t)]⟩, some ⟨4, [.d (WiState.d o)]⟩, some ⟨3, [.d (WiNight.d a)]⟩, some ⟨4, [WiState_T1 rv.1 4 5 6]⟩, some (lvI rv.1.used), some (lvI rv.1.credit), some (lvI rv.1.last), some ⟨4, [.d (WiUse.d rv.2.1)]⟩, none, some (lvI t2), some (lvI rv14.1), some ⟨3, [.d (WiTurn.d e8)]⟩, some (lvI [rv4.1])]) tb R R R R R R R R R R R iq13 R R R R R (r_asgW R R R (ev_end (block_norm (then_norm (sw_rg (r_movD R R R (r_add R R R R (r_asgD R R R (eN ?_)))))))))
   exact ⟨m8, ⟨[(3, .ref 0 4 0 0), (4, .ref 1 4 0 0), (5, .ref 2 3 0 0), (6, .d (.v (.bool false))), (7, .ref 3 4 0 0), (8, .ref 7 4 0 0), (10, .row 8 1 0 (q13).length), (11, .d (.v (.int .i64 (-1)))), (12, .d (.v (.int .i64 (W (x2 + 1)))))], [some ⟨4, [.d (WiPlan.d t)]⟩, some ⟨4, [.d (WiState.d o)]⟩, some ⟨3, [.d (WiNight.d a)]⟩, some ⟨4, [WiState_T1 rv.1 4 5 6]⟩, some (lvI rv.1.used), some (lvI rv.1.credit), some (lvI rv.1.last), some ⟨4, [.d (WiUse.d rv.2.1)]⟩, some (lvI q13)]⟩, [0, 1, 2, 3, 4, 5, 6, 7, 13], Nat.lt_succ_self _, (vwK R R (.cons R R (.cons R R (.cons R R (.cons R R (.row R (.row R (.row R (.cons R R (.row R .nil))))))))) (.cons R R (.cons R R (.cons R R (.cons R R (.cons R R (.cons R R (.cons R R (.cons R R (.cons R R .nil)))))))))), q13, (-1), (W (x2 + 1)), h, R⟩
  intro c46
  replace h := ifN (Int.not_le.2 c46) h
  refine r_movD R R R (r_skip R R R (r_skip R R R (r_skip R R R (r_pickF R R R R (eN (sw_condF R (sw_skip (then_norm (sw_seq (qG (r_fa tb R R R R R R R (r_ldD (y := .v (.int .i64 e8.what)) tb R R R R R R R R R ?_))))))))))))
  refine r_eql R R R R ?_ ?_
  ·intro c59
   replace h := ifP c59 h
   refine eN (sw_condT R (sw_seq (qG (r_movD R R R (r_fa tb R R R R R R R (r_ldD (y := .arr 3 ((a.turns).map WiTurn.d)) tb R R R R R R R R R (r_lenM tb R R R R R (r_sub R R R R ?_))))))))
   refine r_neq R R R R ?_ ?_
   ·intro c60
    replace h := ifN c60 h
    refine r_movD R R R (r_skip R R R (r_skip R R R (r_skip R R R (r_skip R R R (r_pickT R R R R (r_movD R R R (r_skip R R R (r_skip R R R (r_skip R R R (r_skip R R R (r_skip R R R (r_pickT R R R R (r_movD R R R (r_skip R R R (r_skip R R R (r_skip R R R (r_skip R R R (r_skip R R R (r_skip R R R (r_pickT R R R R (eN (sw_condT R (qG (r_asgD R R R (eN (sw_ret (then_ret (then_ret (block_ret (then_ret (then_ret ?_)))))))))))))))))))))))))))))))
    refine block_ret (then_ret ?_)
    obtain rfl := sI h
    exact fin_0 (t := .d (.v (.bool false))) R R R (.cons (.tmp 6) .nil)
   intro c60
   replace h := ifP c60 h
   refine r_movD R R R (r_fa tb R R R R R R R (r_ldD (y := .v (.int .i64 rv.2.1.team)) tb R R R R R R R R R (r_movD R R R ?_)))
   refine r_neq R R R R ?_ ?_
   ·intro c61
    replace h := ifN c61 h
    refine r_pickF R R R R (r_movD R R R (r_skip R R R (r_skip R R R (r_skip R R R (r_skip R R R (r_skip R R R (r_pickT R R R R (r_movD R R R (r_skip R R R (r_skip R R R (r_skip R R R (r_skip R R R (r_skip R R R (r_skip R R R (r_pickT R R R R (eN (sw_condT R (qG (r_asgD R R R (eN (sw_ret (then_ret (then_ret (block_ret (then_ret (then_ret (block_ret (then_ret ?_))))))))))))))))))))))))))))
    obtain rfl := sI h
    exact fin_0 (t := .d (.v (.bool false))) R R R (.cons (.tmp 6) .nil)
   intro c61
   replace h := ifP c61 h
   refine r_pickF R R R R (r_movD R R R (r_fa tb R R R R R R R (r_ldD (y := .v (.int .i64 rv.2.1.at_)) tb R R R R R R R R R (r_fa tb R R R R R R R (r_ldD (y := .v (.int .i64 e8.at_)) tb R R R R R R R R R ?_)))))
   refine r_neq R R R R ?_ ?_
   ·intro c62
    replace h := ifN c62 h
    refine r_pickF R R R R (r_movD R R R (r_skip R R R (r_skip R R R (r_skip R R R (r_skip R R R (r_skip R R R (r_skip R R R (r_pickT R R R R (eN (sw_condT R (qG (r_asgD R R R (eN (sw_ret (then_ret (then_ret (block_ret (then_ret (then_ret (block_ret (then_ret ?_)))))))))))))))))))))
    obtain rfl := sI h
    exact fin_0 (t := .d (.v (.bool false))) R R R (.cons (.tmp 6) .nil)
   intro c62
   replace h := ifP c62 h
   refine r_pickF R R R R (r_movD R R R (r_fa tb R R R R R R R (r_ldD (y := .v (.int .i64 rv.2.1.by_)) tb R R R R R R R R R (r_geqV R R R R (r_movD R R R (r_geqV R R R R (r_boolneq R R R R R ?_)))))))
   with_reducible apply ev_lit
   ·intro c63
    replace h := ifP c63 h
    refine r_pickF R R R R (eN (sw_condT R (qG (r_asgD R R R (eN (sw_ret (then_ret (then_ret (block_ret (then_ret (then_ret (block_ret (then_ret ?_)))))))))))))
    obtain rfl := sI h
    exact fin_0 (t := .d (.v (.bool false))) R R R (.cons (.tmp 6) .nil)
   intro c63
   replace h := ifF c63 h
   refine r_pickF R R R R (eN (sw_condF R (sw_skip (then_norm (sw_seq (sw_dr (by kernel_rfl) (r_fa tb R R R R R R R (r_ldW tb R R R R R R R R R ?_))))))))
   obtain ⟨rv21, hrv21, h⟩ := bnd h
   refine r_callL (l_sum_pc hrv21) R (.of (by kernel_rfl)) R R ((.cons (.row R R) .nil)) R R (r_fa tb R R R R R R R (r_ldD (y := .arr 1 ((o.credit).map vI)) tb R R R R R R R R R ?_))
   obtain ⟨rv22, hrv22, h⟩ := bnd h
   refine r_call (l_sum_pc hrv22) (.of (by kernel_rfl)) R R R R (r_fa tb R R R R R R R (r_ldD (y := .v (.int .i64 t.cost)) tb R R R R R R R R R (r_sub R R R R (r_movD R R R (r_add R R R R ?_)))))
   refine r_neq R R R R ?_ ?_
   ·intro c64
    replace h := ifN c64 h
    refine r_movD R R R (r_skip R R R (r_skip R R R (r_skip R R R (r_skip R R R (r_skip R R R (r_pickT R R R R (r_movD R R R (r_skip R R R (r_skip R R R (r_skip R R R (r_skip R R R (r_skip R R R (r_pickT R R R R (r_movD R R R (r_skip R R R (r_skip R R R (r_skip R R R (r_skip R R R (r_skip R R R (r_skip R R R (r_skip R R R (r_skip R R R (r_skip R R R (r_skip R R R (r_skip R R R (r_skip R R R ?_))))))))))))))))))))))))))
    refine r_pickT R R R R (ev_endD (by kernel_rfl) (then_norm (sw_condT R (qG (r_asgD R R R (eN (sw_ret (then_ret (block_ret (then_ret (then_ret (block_ret (then_ret ?_)))))))))))))
    obtain rfl := sI h
    exact fin_0 (t := .d (.v (.bool false))) R R R (.cons (.tmp 6) .nil)
   intro c64
   replace h := ifP c64 h
   refine r_movD R R R (r_movD R R R (r_fa tb R R R R R R R (r_ldW tb R R R R R R R R R (r_lenR tb R R R R R ?_))))
   refine r_geq R R R R ?_ ?_
   ·intro c65
    replace h := ifP c65 h
    refine r_pickF R R R R (r_movD R R R (r_skip R R R (r_skip R R R (r_skip R R R (r_skip R R R (r_skip R R R (r_pickT R R R R (r_movD R R R (r_skip R R R (r_skip R R R (r_skip R R R (r_skip R R R (r_skip R R R (r_skip R R R (r_skip R R R (r_skip R R R (r_skip R R R (r_skip R R R (r_skip R R R (r_skip R R R (r_pickT R R R R (ev_endD (by kernel_rfl) (then_norm (sw_condT R (qG (r_asgD R R R (eN (sw_ret (then_ret ?_)))))))))))))))))))))))))))))
    refine block_ret (then_ret (then_ret (block_ret (then_ret ?_))))
    obtain rfl := sI h
    exact fin_0 (t := .d (.v (.bool false))) R R R (.cons (.tmp 6) .nil)
   intro c65
   replace h := ifN (Int.not_le.2 c65) h
   refine r_pickF R R R R (r_movD R R R (r_movD R R R (r_fa tb R R R R R R R (r_ldD (y := .arr 1 ((o.used).map vI)) tb R R R R R R R R R (r_lenM tb R R R R R ?_)))))
   refine r_geq R R R R ?_ ?_
   ·intro c66
    replace h := ifP c66 h
    refine r_pickF R R R R (r_movD R R R (r_skip R R R (r_skip R R R (r_skip R R R (r_skip R R R (r_skip R R R (r_skip R R R (r_skip R R R (r_skip R R R (r_skip R R R (r_skip R R R (r_skip R R R (r_skip R R R (r_pickT R R R R (ev_endD (by kernel_rfl) (then_norm (sw_condT R (qG (r_asgD R R R (eN (sw_ret (then_ret (block_ret (then_ret (then_ret (block_ret (then_ret ?_)))))))))))))))))))))))))))
    obtain rfl := sI h
    exact fin_0 (t := .d (.v (.bool false))) R R R (.cons (.tmp 6) .nil)
   intro c66
   replace h := ifN (Int.not_le.2 c66) h
   refine r_pickF R R R R (r_movD R R R (r_fa tb R R R R R R R (r_ldW tb R R R R R R R R R (r_movD R R R ?_))))
   obtain ⟨e11, ie11, h⟩ := bnd h
   refine r_ixI tb R R R R R R (ix0 ie11) (ix1 ie11) R R ?_
   refine r_ldD (y := .v (.int .i64 e11)) tb R R R R (ix2 (g := fun a => T.d (vI a)) ie11) R R R R ?_
   refine r_fa tb R R R R R R R (r_ldD (y := .arr 1 ((o.used).map vI)) tb R R R R R R R R R (r_movD R R R ?_))
   obtain ⟨e12, ie12, h⟩ := bnd h
   refine r_ixE tb R R R R R R (ix0 ie12) (ix1m ie12) R R (r_ldE (y := .v (.int .i64 e12)) tb R R (ix2 (g := vI) ie12) R R R R (r_add R R R R ?_))
   refine r_neq R R R R ?_ ?_
   ·intro c67
    replace h := ifN c67 h
    refine r_pickF R R R R (ev_endD (by kernel_rfl) (then_norm (sw_condT R (qG (r_asgD R R R (eN (sw_ret (then_ret (block_ret (then_ret (then_ret (block_ret (then_ret ?_)))))))))))))
    obtain rfl := sI h
    exact fin_0 (t := .d (.v (.bool false))) R R R (.cons (.tmp 6) .nil)
   intro c67
   replace h := ifP c67 h
   refine r_pickF R R R R (ev_endD (by kernel_rfl) (then_norm (sw_condF R (sw_skip (then_norm (qG (r_asgD R R R (eN (sw_seq (qG (r_fa tb R R R R R R R (r_ldD (y := .v (.int .i64 e8.what)) tb R R R R R R R R R ?_))))))))))))
   refine r_eql R R R R ?_ ?_
   ·intro c68
    replace h := ifP c68 h
    refine eN (sw_condT R (sw_rg (r_fa tb R R R R R R R (r_ldD (y := .v (.int .i64 e8.to_)) tb R R R R R R R R R (r_asgD R R R (eN (sw_rg (r_movW R R R (r_movD R R R (r_bslice tb R R R R R R R R R R R R R ?_))))))))))
    obtain ⟨q14, iq14, h⟩ := bnd h
    refine r_apM (g := vI) (w := lv) (v := [rv4.1]) ([some ⟨4, [.d (WiPlan.d t)]⟩, some ⟨4, [.d (WiState.d o)]⟩, some ⟨3, [.d (WiNight.d a)]⟩, some ⟨4, [WiState_T1 rv.1 4 5 6]⟩, some (lvI rv.1.used), some (lvI rv.1.credit), some (lvI rv.1.last), some ⟨4, [.d (WiUse.d rv.2.1)]⟩, none, some (lvI t2), some (lvI rv14.1), some ⟨3, [.d (WiTurn.d e8)]⟩, some (lvI [rv4.1])]) tb R R R R R R R R R R R iq14 R R R R R (r_asgW R R R (ev_end (block_norm (then_norm (sw_rg (r_movD R R R (r_add R R R R (r_asgD R R R (eN ?_)))))))))
    exact ⟨m8, ⟨[(3, .ref 0 4 0 0), (4, .ref 1 4 0 0), (5, .ref 2 3 0 0), (6, .d (.v (.bool false))), (7, .ref 3 4 0 0), (8, .ref 7 4 0 0), (10, .row 8 1 0 (q14).length), (11, .d (.v (.int .i64 e8.to_))), (12, .d (.v (.int .i64 (W (x2 + 1)))))], [some ⟨4, [.d (WiPlan.d t)]⟩, some ⟨4, [.d (WiState.d o)]⟩, some ⟨3, [.d (WiNight.d a)]⟩, some ⟨4, [WiState_T1 rv.1 4 5 6]⟩, some (lvI rv.1.used), some (lvI rv.1.credit), some (lvI rv.1.last), some ⟨4, [.d (WiUse.d rv.2.1)]⟩, some (lvI q14)]⟩, [0, 1, 2, 3, 4, 5, 6, 7, 13], Nat.lt_succ_self _, (vwK R R (.cons R R (.cons R R (.cons R R (.cons R R (.row R (.row R (.row R (.cons R R (.row R .nil))))))))) (.cons R R (.cons R R (.cons R R (.cons R R (.cons R R (.cons R R (.cons R R (.cons R R (.cons R R .nil)))))))))), q14, e8.to_, (W (x2 + 1)), h, R⟩
   intro c68
   replace h := ifN c68 h
   refine eN (sw_condF R (sw_skip (then_norm (sw_rg (r_movW R R R (r_movD R R R (r_bslice tb R R R R R R R R R R R R R ?_)))))))
   obtain ⟨q15, iq15, h⟩ := bnd h
   refine r_apM (g := vI) (w := lv) (v := [rv4.1]) ([some ⟨4, [.d (WiPlan.d t)]⟩, some ⟨4, [.d (WiState.d o)]⟩, some ⟨3, [.d (WiNight.d a)]⟩, some ⟨4, [WiState_T1 rv.1 4 5 6]⟩, some (lvI rv.1.used), some (lvI rv.1.credit), some (lvI rv.1.last), some ⟨4, [.d (WiUse.d rv.2.1)]⟩, none, some (lvI t2), some (lvI rv14.1), some ⟨3, [.d (WiTurn.d e8)]⟩, some (lvI [rv4.1])]) tb R R R R R R R R R R R iq15 R R R R R (r_asgW R R R (ev_end (block_norm (then_norm (sw_rg (r_movD R R R (r_add R R R R (r_asgD R R R (eN ?_)))))))))
   exact ⟨m8, ⟨[(3, .ref 0 4 0 0), (4, .ref 1 4 0 0), (5, .ref 2 3 0 0), (6, .d (.v (.bool false))), (7, .ref 3 4 0 0), (8, .ref 7 4 0 0), (10, .row 8 1 0 (q15).length), (11, .d (.v (.int .i64 (-1)))), (12, .d (.v (.int .i64 (W (x2 + 1)))))], [some ⟨4, [.d (WiPlan.d t)]⟩, some ⟨4, [.d (WiState.d o)]⟩, some ⟨3, [.d (WiNight.d a)]⟩, some ⟨4, [WiState_T1 rv.1 4 5 6]⟩, some (lvI rv.1.used), some (lvI rv.1.credit), some (lvI rv.1.last), some ⟨4, [.d (WiUse.d rv.2.1)]⟩, some (lvI q15)]⟩, [0, 1, 2, 3, 4, 5, 6, 7, 13], Nat.lt_succ_self _, (vwK R R (.cons R R (.cons R R (.cons R R (.cons R R (.row R (.row R (.row R (.cons R R (.row R .nil))))))))) (.cons R R (.cons R R (.cons R R (.cons R R (.cons R R (.cons R R (.cons R R (.cons R R (.cons R R .nil)))))))))), q15, (-1), (W (x2 + 1)), h, R⟩
  intro c59
  replace h := ifN c59 h
  refine eN (sw_condF R (sw_skip (then_norm (qG (r_asgD R R R (eN (sw_seq (qG (r_fa tb R R R R R R R (r_ldD (y := .v (.int .i64 e8.what)) tb R R R R R R R R R ?_))))))))))
  refine r_eql R R R R ?_ ?_
  ·intro c69
   replace h := ifP c69 h
   refine eN (sw_condT R (sw_rg (r_fa tb R R R R R R R (r_ldD (y := .v (.int .i64 e8.to_)) tb R R R R R R R R R (r_asgD R R R (eN (sw_rg (r_movW R R R (r_movD R R R (r_bslice tb R R R R R R R R R R R R R ?_))))))))))
   obtain ⟨q16, iq16, h⟩ := bnd h
   refine r_apM (g := vI) (w := lv) (v := [rv4.1]) ([some ⟨4, [.d (WiPlan.d t)]⟩, some ⟨4, [.d (WiState.d o)]⟩, some ⟨3, [.d (WiNight.d a)]⟩, some ⟨4, [WiState_T1 rv.1 4 5 6]⟩, some (lvI rv.1.used), some (lvI rv.1.credit), some (lvI rv.1.last), some ⟨4, [.d (WiUse.d rv.2.1)]⟩, none, some (lvI t2), some (lvI rv14.1), some ⟨3, [.d (WiTurn.d e8)]⟩, some (lvI [rv4.1])]) tb R R R R R R R R R R R iq16 R R R R R (r_asgW R R R (ev_end (block_norm (then_norm (sw_rg (r_movD R R R (r_add R R R R (r_asgD R R R (eN ?_)))))))))
   exact ⟨m8, ⟨[(3, .ref 0 4 0 0), (4, .ref 1 4 0 0), (5, .ref 2 3 0 0), (6, .d (.v (.bool false))), (7, .ref 3 4 0 0), (8, .ref 7 4 0 0), (10, .row 8 1 0 (q16).length), (11, .d (.v (.int .i64 e8.to_))), (12, .d (.v (.int .i64 (W (x2 + 1)))))], [some ⟨4, [.d (WiPlan.d t)]⟩, some ⟨4, [.d (WiState.d o)]⟩, some ⟨3, [.d (WiNight.d a)]⟩, some ⟨4, [WiState_T1 rv.1 4 5 6]⟩, some (lvI rv.1.used), some (lvI rv.1.credit), some (lvI rv.1.last), some ⟨4, [.d (WiUse.d rv.2.1)]⟩, some (lvI q16)]⟩, [0, 1, 2, 3, 4, 5, 6, 7, 13], Nat.lt_succ_self _, (vwK R R (.cons R R (.cons R R (.cons R R (.cons R R (.row R (.row R (.row R (.cons R R (.row R .nil))))))))) (.cons R R (.cons R R (.cons R R (.cons R R (.cons R R (.cons R R (.cons R R (.cons R R (.cons R R .nil)))))))))), q16, e8.to_, (W (x2 + 1)), h, R⟩
  intro c69
  replace h := ifN c69 h
  refine eN (sw_condF R (sw_skip (then_norm (sw_rg (r_movW R R R (r_movD R R R (r_bslice tb R R R R R R R R R R R R R ?_)))))))
  obtain ⟨q17, iq17, h⟩ := bnd h
  refine r_apM (g := vI) (w := lv) (v := [rv4.1]) ([some ⟨4, [.d (WiPlan.d t)]⟩, some ⟨4, [.d (WiState.d o)]⟩, some ⟨3, [.d (WiNight.d a)]⟩, some ⟨4, [WiState_T1 rv.1 4 5 6]⟩, some (lvI rv.1.used), some (lvI rv.1.credit), some (lvI rv.1.last), some ⟨4, [.d (WiUse.d rv.2.1)]⟩, none, some (lvI t2), some (lvI rv14.1), some ⟨3, [.d (WiTurn.d e8)]⟩, some (lvI [rv4.1])]) tb R R R R R R R R R R R iq17 R R R R R (r_asgW R R R (ev_end (block_norm (then_norm (sw_rg (r_movD R R R (r_add R R R R (r_asgD R R R (eN ?_)))))))))
  exact ⟨m8, ⟨[(3, .ref 0 4 0 0), (4, .ref 1 4 0 0), (5, .ref 2 3 0 0), (6, .d (.v (.bool false))), (7, .ref 3 4 0 0), (8, .ref 7 4 0 0), (10, .row 8 1 0 (q17).length), (11, .d (.v (.int .i64 (-1)))), (12, .d (.v (.int .i64 (W (x2 + 1)))))], [some ⟨4, [.d (WiPlan.d t)]⟩, some ⟨4, [.d (WiState.d o)]⟩, some ⟨3, [.d (WiNight.d a)]⟩, some ⟨4, [WiState_T1 rv.1 4 5 6]⟩, some (lvI rv.1.used), some (lvI rv.1.credit), some (lvI rv.1.last), some ⟨4, [.d (WiUse.d rv.2.1)]⟩, some (lvI q17)]⟩, [0, 1, 2, 3, 4, 5, 6, 7, 13], Nat.lt_succ_self _, (vwK R R (.cons R R (.cons R R (.cons R R (.cons R R (.row R (.row R (.row R (.cons R R (.row R .nil))))))))) (.cons R R (.cons R R (.cons R R (.cons R R (.cons R R (.cons R R (.cons R R (.cons R R (.cons R R .nil)))))))))), q17, (-1), (W (x2 + 1)), h, R⟩
 intro c3
 replace h := ifN (Int.not_lt.2 c3) h
 refine eN (sw_condF R (sw_exit (then_exit (then_exit ?_))))
 subst hK8
 refine block_exit (then_norm (sw_seq (sw_dr (by kernel_rfl) (r_fa tb R R R R R R R (r_ldD (y := .v (.int .i64 rv.2.1.team)) tb R R R R R R R R R ?_)))))
 refine r_geq R R R R ?_ ?_
 ·intro c71
  replace h := ifP c71 h
  refine r_movD R R R (r_skip R R R (r_skip R R R (r_skip R R R (r_skip R R R (r_skip R R R (r_skip R R R (r_skip R R R (r_pickT R R R R (r_movD R R R (r_fa tb R R R R R R R (r_ldD (y := .v (.int .i64 rv.1.next)) tb R R R R R R R R R (r_fa tb R R R R R R R (r_ldD (y := .v (.int .i64 o.next)) tb R R R R R R R R R (r_add R R R R ?_))))))))))))))
  refine r_eql R R R R ?_ ?_
  ·intro c72
   replace h := ifP c72 h
   refine r_pickT R R R R (r_movD R R R ?_)
   obtain ⟨rv23, hrv23, h⟩ := bnd h
   refine r_call (l_Awake_pc hrv23) (.of (by kernel_rfl)) R R R R (r_pickT R R R R (r_asgD R R R (ev_endD (by kernel_rfl) (then_norm (sw_ret ?_)))))
   obtain rfl := sI h
   exact fin_0 (t := .d (.v (.bool rv23))) R R R (.cons (.tmp 6) .nil)
  intro c72
  replace h := ifN c72 h
  refine r_pickT R R R R (r_movD R R R (r_skip R R R (r_pickF R R R R (r_asgD R R R (ev_endD (by kernel_rfl) (then_norm (sw_ret ?_)))))))
  obtain rfl := sI h
  exact fin_0 (t := .d (.v (.bool false))) R R R (.cons (.tmp 6) .nil)
 intro c71
 replace h := ifN (Int.not_le.2 c71) h
 refine r_movD R R R (r_fa tb R R R R R R R (r_ldW tb R R R R R R R R R ?_))
 obtain ⟨rv24, hrv24, h⟩ := bnd h
 refine r_callL (l_sum_pc hrv24) R (.of (by kernel_rfl)) R R ((.cons (.row R R) .nil)) R R (r_fa tb R R R R R R R (r_ldD (y := .arr 1 ((o.credit).map vI)) tb R R R R R R R R R ?_))
 obtain ⟨rv25, hrv25, h⟩ := bnd h
 refine r_call (l_sum_pc hrv25) (.of (by kernel_rfl)) R R R R ?_
 refine r_eql R R R R ?_ ?_
 ·intro c73
  replace h := ifP c73 h
  refine r_pickF R R R R (r_movD R R R (r_fa tb R R R R R R R (r_ldD (y := .v (.int .i64 rv.1.next)) tb R R R R R R R R R (r_fa tb R R R R R R R (r_ldD (y := .v (.int .i64 o.next)) tb R R R R R R R R R (r_add R R R R ?_))))))
  refine r_eql R R R R ?_ ?_
  ·intro c74
   replace h := ifP c74 h
   refine r_pickT R R R R (r_movD R R R ?_)
   obtain ⟨rv26, hrv26, h⟩ := bnd h
   refine r_call (l_Awake_pc hrv26) (.of (by kernel_rfl)) R R R R (r_pickT R R R R (r_asgD R R R (ev_endD (by kernel_rfl) (then_norm (sw_ret ?_)))))
   obtain rfl := sI h
   exact fin_0 (t := .d (.v (.bool rv26))) R R R (.cons (.tmp 6) .nil)
  intro c74
  replace h := ifN c74 h
  refine r_pickT R R R R (r_movD R R R (r_skip R R R (r_pickF R R R R (r_asgD R R R (ev_endD (by kernel_rfl) (then_norm (sw_ret ?_)))))))
  obtain rfl := sI h
  exact fin_0 (t := .d (.v (.bool false))) R R R (.cons (.tmp 6) .nil)
 intro c73
 replace h := ifN c73 h
 refine r_pickF R R R R (r_movD R R R (r_skip R R R (r_skip R R R (r_skip R R R (r_skip R R R (r_skip R R R (r_skip R R R (r_pickF R R R R (r_movD R R R (r_skip R R R (r_pickF R R R R (r_asgD R R R (ev_endD (by kernel_rfl) (then_norm (sw_ret ?_)))))))))))))))
 obtain rfl := sI h
 exact fin_0 (t := .d (.v (.bool false))) R R R (.cons (.tmp 6) .nil)
end Go.Proofs.Ytdefnmcjmklohaa
