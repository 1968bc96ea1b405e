/- What functions of the program compute: plain functions, and the proofs. -/
import Derived.Test.YtdefnmcjmklohaaW2
open Go Go.Proofs.Ytdefnmcjmklohaa.Sh Go.Proofs
namespace Go.Proofs.Ytdefnmcjmklohaa
set_option linter.unusedVariables false
set_option linter.unusedSimpArgs false
set_option maxRecDepth 100000
set_option maxHeartbeats 4000000
def l_Awake (F : Nat)  : Option Bool := Option.bind (l_Plan F ) fun rv => Option.bind (window_Start F rv) fun rv2 => Option.bind (l_Plan F ) fun rv3 => Option.bind (l_A F ) fun rv4 => Option.bind (window_Rights F rv3 rv2.1 (WiSky.mk rv4.kinds rv4.wind) 100) fun rv5 => Option.bind (l_Plan F ) fun rv6 => Option.bind (l_launch F 160) fun rv7 => Option.bind (l_night_m F [rv7]) fun rv8 => Option.bind (l_launch F 130) fun rv9 => Option.bind (l_night_m F [rv9]) fun rv10 => Option.bind (l_launch F 60) fun rv11 => Option.bind (l_night_m F [rv11]) fun rv12 => Option.bind (window_Season F rv6 [(WiNight.mk rv8.1.sky_Kinds rv8.1.sky_Wind rv8.2), (WiNight.mk rv10.1.sky_Kinds rv10.1.sky_Wind rv10.2), (WiNight.mk rv12.1.sky_Kinds rv12.1.sky_Wind rv12.2)]) fun rv13 => Option.bind (l_Plan F ) fun rv14 => Option.bind (l_launch F 159) fun rv15 => Option.bind (l_night_m F [rv15]) fun rv16 => Option.bind (window_Play F rv14 rv2.1 (WiNight.mk rv16.1.sky_Kinds rv16.1.sky_Wind rv16.2)) fun rv17 => if rv2.2 = 0 then (if rv5.2 = 0 then (if rv13.2.2 = 0 then (if rv17.2.2 = 7 then (Option.bind (r_Ints F rv5.1 [1, 0, 2]) fun rv18 => if rv18 = true then (Option.bind (r_SameUses F rv13.1 [(WiUse.mk 0 1 160 (-1)), (WiUse.mk 1 0 130 (-1)), (WiUse.mk 2 1 60 (-1))]) fun rv19 => some rv19) else (some false)) else (some false)) else (some false)) else (some false)) else (some false)
theorem l_Awake_pc {F : Nat}  {r : Bool} (h : l_Awake F  = some r) : PC Try.prog 23 [] (.v (.bool r)) := by
 rw [l_Awake] at h
 refine SC.of_sw Try.func23 R R R ?_
 dsimp only [argS, List.map]
 refine qG (r_asgD R R R (eN (qG ?_)))
 obtain ⟨rv, hrv, h⟩ := bnd h
 refine r_call (l_Plan_pc hrv) (.of (by kernel_rfl)) R R R R ?_
 obtain ⟨rv2, hrv2, h⟩ := bnd h
 refine r_callN (t' := .tup [WiState_T1 rv2.1 0 1 2, .d (.v (.int .i64 rv2.2))]) (news' := [(lvI rv2.1.used), (lvI rv2.1.credit), (lvI rv2.1.last)]) (window_Start_scr hrv2) (.of (by kernel_rfl)) R R R ((.row (.row (.row .nil)))) R R R (r_movT (.tup [WiState_T1 rv2.1 0 1 2, .d (.v (.int .i64 rv2.2))]) R R R (r_ext (t := WiState_T1 rv2.1 0 1 2) R R R R (r_ext (t := .d (.v (.int .i64 rv2.2))) R R R R (r_alloc tb R R R R R ?_))))
 refine r_stE _ ([some (lvI rv2.1.used), some (lvI rv2.1.credit), some (lvI rv2.1.last), some ⟨4, [WiState_T1 rv2.1 0 1 2]⟩]) tb R R R R R R R R R R R R (r_asgD R R R (eN (sw_seq (sw_dr (by kernel_rfl) ?_))))
 obtain ⟨rv3, hrv3, h⟩ := bnd h
 refine r_call (l_Plan_pc hrv3) (.of (by kernel_rfl)) R R R R (r_ldG tb R R R R R R R R R ?_)
 obtain ⟨rv4, hrv4, h⟩ := bnd h
 refine r_callN (t' := .agg [.row 4 1 0 (rv4.kinds).length, .d (.v (.int .i64 rv4.wind))]) (news' := [(lvI rv4.kinds)]) (l_A_scr hrv4) (.of (by kernel_rfl)) R R R ((.row .nil)) R R R ?_
 obtain ⟨rv5, hrv5, h⟩ := bnd h
 refine r_callLN (t' := .tup [.row 5 1 0 (rv5.1).length, .d (.v (.int .i64 rv5.2))]) (news' := [(lvI rv5.1)]) (window_Rights_scr hrv5) R ((.row (fun _ => rfl) .nil)) (.of (by kernel_rfl)) R R ((.cons (.d _) (.cons (.aggL (.cons (.row R R) (.cons (.row R R) (.cons (.row R R) (.cons (.d _) .nil))))) (.cons (.aggL (.cons (.row R R) (.cons (.d _) .nil))) (.cons (.d _) .nil))))) R ((.row .nil)) R R R ?_
 refine r_movT (.tup [.row 5 1 0 (rv5.1).length, .d (.v (.int .i64 rv5.2))]) R R R (r_ext (t := .row 5 1 0 (rv5.1).length) R R R R (r_ext (t := .d (.v (.int .i64 rv5.2))) R R R R (r_asgW R R R (r_asgD R R R (ev_endD (by kernel_rfl) (then_norm (qG ?_)))))))
 obtain ⟨rv6, hrv6, h⟩ := bnd h
 refine r_call (l_Plan_pc hrv6) (.of (by kernel_rfl)) R R R R ?_
 obtain ⟨rv7, hrv7, h⟩ := bnd h
 refine r_call (l_launch_pc hrv7) (.of (by kernel_rfl)) R R R R (r_bslice tb R R R R R R R R R R R R R ?_)
 obtain ⟨rv8, hrv8, h⟩ := bnd h
 refine r_callO (t' := .agg [.row 7 1 0 (rv8.1.sky_Kinds).length, .d (.v (.int .i64 rv8.1.sky_Wind)), .row 6 3 0 (rv8.2).length]) (ls := [some (lWiTurnd rv8.2)]) (news := [(lvI rv8.1.sky_Kinds)]) ([6]) ([some (lvI rv2.1.used), some (lvI rv2.1.credit), some (lvI rv2.1.last), some ⟨4, [WiState_T1 rv2.1 0 1 2]⟩, some (lvI rv4.kinds), some (lvI rv5.1), some (lWiTurnd rv8.2), some (lvI rv8.1.sky_Kinds)]) (l_night_m_scr hrv8) (.of (by kernel_rfl)) R (.inl ⟨R, R, R⟩) R R R R ((.row R .nil)) R R R ((.row .nil)) ((.row .nil)) R R R R ?_
 obtain ⟨rv9, hrv9, h⟩ := bnd h
 refine r_call (l_launch_pc hrv9) (.of (by kernel_rfl)) R R R R (r_bslice tb R R R R R R R R R R R R R ?_)
 obtain ⟨rv10, hrv10, h⟩ := bnd h
 refine r_callO (t' := .agg [.row 9 1 0 (rv10.1.sky_Kinds).length, .d (.v (.int .i64 rv10.1.sky_Wind)), .row 8 3 0 (rv10.2).length]) (ls := [some (lWiTurnd rv10.2)]) (news := [(lvI rv10.1.sky_Kinds)]) ([8]) ([some (lvI rv2.1.used), some (lvI rv2.1.credit), some (lvI rv2.1.last), some ⟨4, [WiState_T1 rv2.1 0 1 2]⟩, some (lvI rv4.kinds), some (lvI rv5.1), some (lWiTurnd rv8.2), some (lvI rv8.1.sky_Kinds), some (lWiTurnd rv10.2), some (lvI rv10.1.sky_Kinds)]) (l_night_m_scr hrv10) (.of (by kernel_rfl)) R (.inl ⟨R, R, R⟩) R R R R ((.row R .nil)) R R R ((.row .nil)) ((.row .nil)) R R R R ?_
 obtain ⟨rv11, hrv11, h⟩ := bnd h
 refine r_call (l_launch_pc hrv11) (.of (by kernel_rfl)) R R R R (r_bslice tb R R R R R R R R R R R R R ?_)
 obtain ⟨rv12, hrv12, h⟩ := bnd h
 refine r_callO (t' := .agg [.row 11 1 0 (rv12.1.sky_Kinds).length, .d (.v (.int .i64 rv12.1.sky_Wind)), .row 10 3 0 (rv12.2).length]) (ls := [some (lWiTurnd rv12.2)]) (news := [(lvI rv12.1.sky_Kinds)]) ([10]) ([some (lvI rv2.1.used), some (lvI rv2.1.credit), some (lvI rv2.1.last), some ⟨4, [WiState_T1 rv2.1 0 1 2]⟩, some (lvI rv4.kinds), some (lvI rv5.1), some (lWiTurnd rv8.2), some (lvI rv8.1.sky_Kinds), some (lWiTurnd rv10.2), some (lvI rv10.1.sky_Kinds), some (lWiTurnd rv12.2), some (lvI rv12.1.sky_Kinds)]) (l_night_m_scr hrv12) (.of (by kernel_rfl)) R (.inl ⟨R, R, R⟩) R R R R ((.row R .nil)) R R R ((.row .nil)) ((.row .nil)) R R R R ?_
 refine r_bslice tb R R R R R R R R R R R R R ?_
 obtain ⟨rv13, hrv13, h⟩ := bnd h
 refine r_callLN (t' := .tup [.row 13 4 0 (rv13.1).length, WiState_T1 rv13.2.1 14 15 16, .d (.v (.int .i64 rv13.2.2))]) (news' := [(lWiUsed rv13.1), (lvI rv13.2.1.used), (lvI rv13.2.1.credit), (lvI rv13.2.1.last)]) (window_Season_scr hrv13) R ((.row (fun _ => rfl) (.row (fun _ => rfl) (.row (fun _ => rfl) (.row (fun _ => rfl) .nil))))) (.of (by kernel_rfl)) R R ((.cons (.d _) (.cons (.rowL R R (.cons (.aggL (.cons (.row R R) (.cons (.d _) (.cons (.row R R) .nil)))) (.cons (.aggL (.cons (.row R R) (.cons (.d _) (.cons (.row R R) .nil)))) (.cons (.aggL (.cons (.row R R) (.cons (.d _) (.cons (.row R R) .nil)))) .nil)))) .nil))) R ((.row (.row (.row (.row .nil))))) R R R ?_
 refine r_movT (.tup [.row 13 4 0 (rv13.1).length, WiState_T1 rv13.2.1 14 15 16, .d (.v (.int .i64 rv13.2.2))]) R R R (r_ext (t := .row 13 4 0 (rv13.1).length) R R R R (r_ext (t := WiState_T1 rv13.2.1 14 15 16) R R R R (r_ext (t := .d (.v (.int .i64 rv13.2.2))) R R R R (r_alloc tb R R R R R (r_asgW R R R ?_)))))
 refine r_stE _ ([some (lvI rv2.1.used), some (lvI rv2.1.credit), some (lvI rv2.1.last), some ⟨4, [WiState_T1 rv2.1 0 1 2]⟩, some (lvI rv4.kinds), some (lvI rv5.1), some (lWiTurnd rv8.2), some (lvI rv8.1.sky_Kinds), some (lWiTurnd rv10.2), some (lvI rv10.1.sky_Kinds), some (lWiTurnd rv12.2), some (lvI rv12.1.sky_Kinds), some ⟨3, [.agg [.row 7 1 0 (rv8.1.sky_Kinds).length, .d (.v (.int .i64 rv8.1.sky_Wind)), .row 6 3 0 (rv8.2).length], .agg [.row 9 1 0 (rv10.1.sky_Kinds).length, .d (.v (.int .i64 rv10.1.sky_Wind)), .row 8 3 0 (rv10.2).length], .agg [.row 11 1 0 (rv12.1.sky_Kinds).length, .d (.v (.int .i64 rv12.1.sky_Wind)), .row 10 3 0 (rv12.2).length]]⟩, some (lWiUsed rv13.1), some (lvI rv13.2.1.used), some (lvI rv13.2.1.credit), some (lvI rv13.2.1.last), some ⟨4, [WiState_T1 rv13.2.1 14 15 16]⟩]) tb R R R R R R R R R R R R ?_
 refine r_asgD R R R (eN (sw_seq (sw_dr (by kernel_rfl) ?_)))
 obtain ⟨rv14, hrv14, h⟩ := bnd h
 refine r_call (l_Plan_pc hrv14) (.of (by kernel_rfl)) R R R R (r_ldG tb R R R R R R R R R ?_)
 obtain ⟨rv15, hrv15, h⟩ := bnd h
 refine r_call (l_launch_pc hrv15) (.of (by kernel_rfl)) R R R R (r_bslice tb R R R R R R R R R R R R R ?_)
 obtain ⟨rv16, hrv16, h⟩ := bnd h
 refine r_callO (t' := .agg [.row 19 1 0 (rv16.1.sky_Kinds).length, .d (.v (.int .i64 rv16.1.sky_Wind)), .row 18 3 0 (rv16.2).length]) (ls := [some (lWiTurnd rv16.2)]) (news := [(lvI rv16.1.sky_Kinds)]) ([18]) ([some (lvI rv2.1.used), some (lvI rv2.1.credit), some (lvI rv2.1.last), some ⟨4, [WiState_T1 rv2.1 0 1 2]⟩, some (lvI rv4.kinds), some (lvI rv5.1), some (lWiTurnd rv8.2), some (lvI rv8.1.sky_Kinds), some (lWiTurnd rv10.2), some (lvI rv10.1.sky_Kinds), some (lWiTurnd rv12.2), some (lvI rv12.1.sky_Kinds), some ⟨3, [.agg [.row 7 1 0 (rv8.1.sky_Kinds).length, .d (.v (.int .i64 rv8.1.sky_Wind)), .row 6 3 0 (rv8.2).length], .agg [.row 9 1 0 (rv10.1.sky_Kinds).length, .d (.v (.int .i64 rv10.1.sky_Wind)), .row 8 3 0 (rv10.2).length], .agg [.row 11 1 0 (rv12.1.sky_Kinds).length, .d (.v (.int .i64 rv12.1.sky_Wind)), .row 10 3 0 (rv12.2).length]]⟩, some (lWiUsed rv13.1), some (lvI rv13.2.1.used), some (lvI rv13.2.1.credit), some (lvI rv13.2.1.last), some ⟨4, [WiState_T1 rv13.2.1 14 15 16]⟩, some (lWiTurnd rv16.2), some (lvI rv16.1.sky_Kinds)]) (l_night_m_scr hrv16) (.of (by kernel_rfl)) R (.inl ⟨R, R, R⟩) R R R R ((.row R .nil)) R R R ((.row .nil)) ((.row .nil)) R R R R ?_
 obtain ⟨rv17, hrv17, h⟩ := bnd h
 refine r_callLN (t' := .tup [WiState_T1 rv17.1 20 21 22, .d (WiUse.d rv17.2.1), .d (.v (.int .i64 rv17.2.2))]) (news' := [(lvI rv17.1.used), (lvI rv17.1.credit), (lvI rv17.1.last)]) (window_Play_scr hrv17) R ((.row (fun _ => rfl) (.row (fun _ => rfl) (.row (fun _ => rfl) .nil)))) (.of (by kernel_rfl)) R R ((.cons (.d _) (.cons (.aggL (.cons (.row R R) (.cons (.row R R) (.cons (.row R R) (.cons (.d _) .nil))))) (.cons (.aggL (.cons (.row R R) (.cons (.d _) (.cons (.row R R) .nil)))) .nil)))) R ((.row (.row (.row .nil)))) R R R ?_
 refine r_movT (.tup [WiState_T1 rv17.1 20 21 22, .d (WiUse.d rv17.2.1), .d (.v (.int .i64 rv17.2.2))]) R R R (r_ext (t := WiState_T1 rv17.1 20 21 22) R R R R (r_ext (t := .d (WiUse.d rv17.2.1)) R R R R (r_ext (t := .d (.v (.int .i64 rv17.2.2))) R R R R (r_alloc tb R R R R R (r_alloc tb R R R R R ?_)))))
 refine r_stE _ ([some (lvI rv2.1.used), some (lvI rv2.1.credit), some (lvI rv2.1.last), some ⟨4, [WiState_T1 rv2.1 0 1 2]⟩, some (lvI rv4.kinds), some (lvI rv5.1), some (lWiTurnd rv8.2), some (lvI rv8.1.sky_Kinds), some (lWiTurnd rv10.2), some (lvI rv10.1.sky_Kinds), some (lWiTurnd rv12.2), some (lvI rv12.1.sky_Kinds), some ⟨3, [.agg [.row 7 1 0 (rv8.1.sky_Kinds).length, .d (.v (.int .i64 rv8.1.sky_Wind)), .row 6 3 0 (rv8.2).length], .agg [.row 9 1 0 (rv10.1.sky_Kinds).length, .d (.v (.int .i64 rv10.1.sky_Wind)), .row 8 3 0 (rv10.2).length], .agg [.row 11 1 0 (rv12.1.sky_Kinds).length, .d (.v (.int .i64 rv12.1.sky_Wind)), .row 10 3 0 (rv12.2).length]]⟩, some (lWiUsed rv13.1), some (lvI rv13.2.1.used), some (lvI rv13.2.1.credit), some (lvI rv13.2.1.last), some ⟨4, [WiState_T1 rv13.2.1 14 15 16]⟩, some (lWiTurnd rv16.2), some (lvI rv16.1.sky_Kinds), some (lvI rv17.1.used), some (lvI rv17.1.credit), some (lvI rv17.1.last), some ⟨4, [WiState_T1 rv17.1 20 21 22]⟩, some ⟨4, [.d (.agg [.v (.int .i64 0), .v (.int .i64 0), .v (.int .i64 0), .v (.int .i64 0)])]⟩]) tb R R R R R R R R R R R R ?_
 refine r_stE _ ([some (lvI rv2.1.used), some (lvI rv2.1.credit), some (lvI rv2.1.last), some ⟨4, [WiState_T1 rv2.1 0 1 2]⟩, some (lvI rv4.kinds), some (lvI rv5.1), some (lWiTurnd rv8.2), some (lvI rv8.1.sky_Kinds), some (lWiTurnd rv10.2), some (lvI rv10.1.sky_Kinds), some (lWiTurnd rv12.2), some (lvI rv12.1.sky_Kinds), some ⟨3, [.agg [.row 7 1 0 (rv8.1.sky_Kinds).length, .d (.v (.int .i64 rv8.1.sky_Wind)), .row 6 3 0 (rv8.2).length], .agg [.row 9 1 0 (rv10.1.sky_Kinds).length, .d (.v (.int .i64 rv10.1.sky_Wind)), .row 8 3 0 (rv10.2).length], .agg [.row 11 1 0 (rv12.1.sky_Kinds).length, .d (.v (.int .i64 rv12.1.sky_Wind)), .row 10 3 0 (rv12.2).length]]⟩, some (lWiUsed rv13.1), some (lvI rv13.2.1.used), some (lvI rv13.2.1.credit), some (lvI rv13.2.1.last), some ⟨4, [WiState_T1 rv13.2.1 14 15 16]⟩, some (lWiTurnd rv16.2), some (lvI rv16.1.sky_Kinds), some (lvI rv17.1.used), some (lvI rv17.1.credit), some (lvI rv17.1.last), some ⟨4, [WiState_T1 rv17.1 20 21 22]⟩, some ⟨4, [.d (WiUse.d rv17.2.1)]⟩]) tb R R R R R R R R R R R R ?_
 refine r_asgD R R R (ev_endD (by kernel_rfl) (then_norm (qG (r_movD R R R ?_))))
 refine r_eql R R R R ?_ ?_
 ·intro c
  replace h := ifP c h
  refine r_movD R R R (r_movD R R R ?_)
  refine r_eql R R R R ?_ ?_
  ·intro c2
   replace h := ifP c2 h
   refine r_pickT R R R R (r_movD R R R (r_movD R R R ?_))
   refine r_eql R R R R ?_ ?_
   ·intro c3
    replace h := ifP c3 h
    refine r_pickT R R R R (r_movD R R R (r_movD R R R ?_))
    refine r_eql R R R R ?_ ?_
    ·intro c4
     replace h := ifP c4 h
     refine r_pickT R R R R (r_movD R R R (r_movW R R R (r_bslice tb R R R R R R R R R R R R R ?_)))
     obtain ⟨rv18, hrv18, h⟩ := bnd h
     refine r_callLB (r_Ints_pc hrv18) (.of (by kernel_rfl)) R R ((.cons (.row R R) (.cons (.row R R) .nil))) R R ?_ ?_
     ·intro c5
      replace h := ifP c5 h
      refine r_pickT R R R R (r_movD R R R (r_movW R R R (r_build (v := .d (.agg [.v (.int .i64 0), .v (.int .i64 1), .v (.int .i64 160), .v (.int .i64 (-1))])) tb R R (List.cons_ne_nil _ _) R R R R R R (r_build (v := .d (.agg [.v (.int .i64 1), .v (.int .i64 0), .v (.int .i64 130), .v (.int .i64 (-1))])) tb R R (List.cons_ne_nil _ _) R R R R R R (r_build (v := .d (.agg [.v (.int .i64 2), .v (.int .i64 1), .v (.int .i64 60), .v (.int .i64 (-1))])) tb R R (List.cons_ne_nil _ _) R R R R R R ?_)))))
      refine r_bslice tb R R R R R R R R R R R R R ?_
      obtain ⟨rv19, hrv19, h⟩ := bnd h
      refine r_callL (r_SameUses_pc hrv19) R (.of (by kernel_rfl)) R R ((.cons (.row R R) (.cons (.row R R) .nil))) R R (r_pickT R R R R (r_asgD R R R (eN (sw_ret ?_))))
      obtain rfl := sI h
      exact fin_0 (t := .d (.v (.bool rv19))) R R R (.cons (.tmp 0) .nil)
     intro c5
     replace h := ifF c5 h
     refine r_pickT R R R R (r_movD R R R (r_skip R R R (r_skip R R R (r_skip R R R (r_skip R R R (r_skip R R R (r_skip R R R (r_pickF R R R R (r_asgD R R R (eN (sw_ret ?_)))))))))))
     obtain rfl := sI h
     exact fin_0 (t := .d (.v (.bool false))) R R R (.cons (.tmp 0) .nil)
    intro c4
    replace h := ifN c4 h
    refine r_pickT R R R R (r_movD R R R (r_skip R R R (r_skip R R R (r_skip R R R (r_pickF R R R R (r_movD R R R (r_skip R R R (r_skip R R R (r_skip R R R (r_skip R R R (r_skip R R R (r_skip R R R (r_pickF R R R R (r_asgD R R R (eN (sw_ret ?_))))))))))))))))
    obtain rfl := sI h
    exact fin_0 (t := .d (.v (.bool false))) R R R (.cons (.tmp 0) .nil)
   intro c3
   replace h := ifN c3 h
   refine r_pickT R R R R (r_movD R R R (r_skip R R R (r_skip R R R (r_pickF R R R R (r_movD R R R (r_skip R R R (r_skip R R R (r_skip R R R (r_pickF R R R R (r_movD R R R (r_skip R R R (r_skip R R R (r_skip R R R (r_skip R R R (r_skip R R R (r_skip R R R (r_pickF R R R R (r_asgD R R R (eN (sw_ret ?_))))))))))))))))))))
   obtain rfl := sI h
   exact fin_0 (t := .d (.v (.bool false))) R R R (.cons (.tmp 0) .nil)
  intro c2
  replace h := ifN c2 h
  refine r_pickT R R R R (r_movD R R R (r_skip R R R (r_skip R R R (r_pickF R R R R (r_movD R R R (r_skip R R R (r_skip R R R (r_pickF R R R R (r_movD R R R (r_skip R R R (r_skip R R R (r_skip R R R (r_pickF R R R R (r_movD R R R (r_skip R R R (r_skip R R R (r_skip R R R (r_skip R R R (r_skip R R R (r_skip R R R (r_pickF R R R R (r_asgD R R R (eN (sw_ret ?_))))))))))))))))))))))))
  obtain rfl := sI h
  exact fin_0 (t := .d (.v (.bool false))) R R R (.cons (.tmp 0) .nil)
 intro c
 replace h := ifN c h
 refine r_movD R R R (r_skip R R R (r_skip R R R (r_pickF R R R R (r_movD R R R (r_skip R R R (r_skip R R R (r_pickF R R R R (r_movD R R R (r_skip R R R (r_skip R R R (r_pickF R R R R (r_movD R R R (r_skip R R R (r_skip R R R (r_skip R R R (r_pickF R R R R (r_movD R R R (r_skip R R R (r_skip R R R (r_skip R R R (r_skip R R R (r_skip R R R (r_skip R R R (r_pickF R R R R (r_asgD R R R (eN ?_))))))))))))))))))))))))))
 refine sw_ret ?_
 obtain rfl := sI h
 exact fin_0 (t := .d (.v (.bool false))) R R R (.cons (.tmp 0) .nil)
def l_WindowScrubs_L1 (F : Nat) (t : WiPlan) (o : WiState) (a : Scrubs) (e : WiWindow) (K : (List WiTurn) → Int → Int → Int → Option Bool) : Nat → (List WiTurn) → Int → Int → Int → Option Bool
 | 0, _, _, _, _ => none
 | n + 1, lv, x, x2, x3 => if x3 < 16 then (Option.bind (window_Turns F t o (WiSky.mk a.sky_Kinds a.sky_Wind) lv) fun rv5 => optE rv5.2.2.1 (if rv5.2.2.2 = 0 then (if rv5.2.1 = x then (if rv5.1 = x2 then (if 0 ≤ rv5.1 then (some false) else (if rv5.1 < 0 then (K lv x x2 x3) else (if x3 < (a.after.length : Int) then (Option.bind (ixO a.after x3) fun e2 => Option.bind (l_scrub F (min e.until_ (W (x + (Int.tmod (W e2) 60))))) fun rv10 => Option.bind (appO lv [rv10]) fun q => l_WindowScrubs_L1 F t o a e K n q (min e.until_ (W (x + (Int.tmod (W e2) 60)))) rv5.1 (W (x3 + 1))) else (Option.bind (l_scrub F x) fun rv11 => Option.bind (appO lv [rv11]) fun q2 => l_WindowScrubs_L1 F t o a e K n q2 x rv5.1 (W (x3 + 1)))))) else (if rv5.1 < 0 then (K lv x x2 x3) else (if x3 < (a.after.length : Int) then (Option.bind (ixO a.after x3) fun e2 => Option.bind (l_scrub F (min e.until_ (W (x + (Int.tmod (W e2) 60))))) fun rv10 => Option.bind (appO lv [rv10]) fun q => l_WindowScrubs_L1 F t o a e K n q (min e.until_ (W (x + (Int.tmod (W e2) 60)))) rv5.1 (W (x3 + 1))) else (Option.bind (l_scrub F x) fun rv11 => Option.bind (appO lv [rv11]) fun q2 => l_WindowScrubs_L1 F t o a e K n q2 x rv5.1 (W (x3 + 1)))))) else (some false)) else (if x3 = 0 then (Option.bind (l_Awake 100 ) fun rv6 => some rv6) else (some false))) (fun t2 => if t2.length = 0 then none else (if rv5.2.2.2 = 0 then (if rv5.2.1 = x then (if rv5.1 = x2 then (if 0 ≤ rv5.1 then (some false) else (if rv5.1 < 0 then (K lv x x2 x3) else (if x3 < (a.after.length : Int) then (Option.bind (ixO a.after x3) fun e2 => Option.bind (l_scrub F (min e.until_ (W (x + (Int.tmod (W e2) 60))))) fun rv10 => Option.bind (appO lv [rv10]) fun q => l_WindowScrubs_L1 F t o a e K n q (min e.until_ (W (x + (Int.tmod (W e2) 60)))) rv5.1 (W (x3 + 1))) else (Option.bind (l_scrub F x) fun rv11 => Option.bind (appO lv [rv11]) fun q2 => l_WindowScrubs_L1 F t o a e K n q2 x rv5.1 (W (x3 + 1)))))) else (if rv5.1 < 0 then (K lv x x2 x3) else (if x3 < (a.after.length : Int) then (Option.bind (ixO a.after x3) fun e2 => Option.bind (l_scrub F (min e.until_ (W (x + (Int.tmod (W e2) 60))))) fun rv10 => Option.bind (appO lv [rv10]) fun q => l_WindowScrubs_L1 F t o a e K n q (min e.until_ (W (x + (Int.tmod (W e2) 60)))) rv5.1 (W (x3 + 1))) else (Option.bind (l_scrub F x) fun rv11 => Option.bind (appO lv [rv11]) fun q2 => l_WindowScrubs_L1 F t o a e K n q2 x rv5.1 (W (x3 + 1)))))) else (some false)) else (if x3 = 0 then (Option.bind (l_Awake 100 ) fun rv12 => some rv12) else (some false))))) else (K lv x x2 x3)
def l_WindowScrubs (F : Nat) (t : WiPlan) (o : WiState) (a : Scrubs) : Option Bool := Option.bind (window_CheckState F t o) fun rv => if rv = 0 then (if o.next < 0 then (Option.bind (l_Awake 100 ) fun rv3 => some rv3) else (if (t.windows.length : Int) ≤ o.next then (Option.bind (l_Awake 100 ) fun rv4 => some rv4) else (Option.bind (ixO t.windows o.next) fun e => l_WindowScrubs_L1 F t o a e (fun (lv : (List WiTurn)) (x : Int) (x2 : Int) (x3 : Int) => Option.bind (window_Play F t o (WiNight.mk a.sky_Kinds a.sky_Wind lv)) fun rv7 => if rv7.2.2 = 0 then (if (!(WiUse.beq rv7.2.1 (WiUse.mk o.next (-1) 0 (-1)))) = true then (some false) else (Option.bind (r_SameState F rv7.1 {o with next := (W (o.next + 1))}) fun rv8 => if rv8 = true then (if (lv.length : Int) ≤ (t.teams.length : Int) then (Option.bind (l_Awake 100 ) fun rv9 => some rv9) else (some false)) else (some false))) else (some false)) F ([] : List WiTurn) e.from_ (-1) 0))) else (Option.bind (l_Awake 100 ) fun rv2 => some rv2)
theorem l_WindowScrubs_pc {F : Nat} {t : WiPlan} {o : WiState} {a : Scrubs} {r : Bool} (h : l_WindowScrubs F t o a = some r) : PC Try.prog 11 [WiPlan.d t, WiState.d o, Scrubs.d a] (.v (.bool r)) := by
 rw [l_WindowScrubs] at h
 refine SC.of_sw Try.func11 R R R ?_
 dsimp only [argS, List.map]
 refine qG (r_box R R R R R R R (r_box R R R R R R R (r_box R R R R R R R (r_asgD R R R (eN (sw_seq (qG (r_ldD (y := WiPlan.d t) tb R R R R R R R R R (r_ldD (y := WiState.d o) tb R R R R R R R R R ?_)))))))))
 obtain ⟨rv, hrv, h⟩ := bnd h
 refine r_call (window_CheckState_pc hrv) (.of (by kernel_rfl)) R R R R ?_
 refine r_neq R R R R ?_ ?_
 ·intro c
  replace h := ifN c h
  refine r_movD R R R (r_skip R R R (r_skip R R R (r_skip R R R (r_pickT R R R R (r_movD R R R (r_skip R R R (r_skip R R R (r_skip R R R (r_skip R R R (r_skip R R R (r_skip R R R (r_pickT R R R R (eN (sw_condT R (qG ?_)))))))))))))))
  obtain ⟨rv2, hrv2, h⟩ := bnd h
  refine r_call (l_Awake_pc hrv2) (.of (by kernel_rfl)) R R R R (r_asgD R R R (eN (sw_ret (then_ret ?_))))
  obtain rfl := sI h
  exact fin_0 (t := .d (.v (.bool rv2))) R R R (.cons (.tmp 6) .nil)
 intro c
 replace h := ifP c h
 refine r_movD R R R (r_fa tb R R R R R R R (r_ldD (y := .v (.int .i64 o.next)) tb R R R R R R R R R ?_))
 refine r_lss R R R R ?_ ?_
 ·intro c2
  replace h := ifP c2 h
  refine r_pickF R R R R (r_movD R R R (r_skip R R R (r_skip R R R (r_skip R R R (r_skip R R R (r_skip R R R (r_skip R R R (r_pickT R R R R (eN (sw_condT R (qG ?_)))))))))))
  obtain ⟨rv3, hrv3, h⟩ := bnd h
  refine r_call (l_Awake_pc hrv3) (.of (by kernel_rfl)) R R R R (r_asgD R R R (eN (sw_ret (then_ret ?_))))
  obtain rfl := sI h
  exact fin_0 (t := .d (.v (.bool rv3))) R R R (.cons (.tmp 6) .nil)
 intro c2
 replace h := ifN (Int.not_lt.2 c2) h
 refine r_pickF R R R R (r_movD R R R (r_fa tb R R R R R R R (r_ldD (y := .v (.int .i64 o.next)) tb R R R R R R R R R (r_fa tb R R R R R R R (r_ldD (y := .arr 3 ((t.windows).map WiWindow.d)) tb R R R R R R R R R (r_lenM tb R R R R R ?_))))))
 refine r_geq R R R R ?_ ?_
 ·intro c3
  replace h := ifP c3 h
  refine r_pickF R R R R (eN (sw_condT R (qG ?_)))
  obtain ⟨rv4, hrv4, h⟩ := bnd h
  refine r_call (l_Awake_pc hrv4) (.of (by kernel_rfl)) R R R R (r_asgD R R R (eN (sw_ret (then_ret ?_))))
  obtain rfl := sI h
  exact fin_0 (t := .d (.v (.bool rv4))) R R R (.cons (.tmp 6) .nil)
 intro c3
 replace h := ifN (Int.not_le.2 c3) h
 refine r_pickF R R R R (eN (sw_condF R (sw_skip (then_norm (qG (r_fa tb R R R R R R R (r_ldD (y := .arr 3 ((t.windows).map WiWindow.d)) tb R R R R R R R R R (r_fa tb R R R R R R R (r_ldD (y := .v (.int .i64 o.next)) tb R R R R R R R R R ?_)))))))))
 obtain ⟨e, ie, h⟩ := bnd h
 refine r_ixE tb R R R R R R (ix0 ie) (ix1m ie) R R (r_ldE (y := WiWindow.d e) tb R R (ix2 (g := WiWindow.d) ie) R R R R (r_alloc tb R R R R R (r_stE _ ([some ⟨4, [.d (WiPlan.d t)]⟩, some ⟨4, [.d (WiState.d o)]⟩, some ⟨3, [.d (Scrubs.d a)]⟩, some ⟨3, [.d (WiWindow.d e)]⟩]) tb R R R R R R R R R R R R (eN (qG (r_asgD R R R (eN (qG (r_fa tb R R R R R R R (r_ldD (y := .v (.int .i64 e.from_)) tb R R R R R R R R R (r_asgD R R R (r_asgD R R R (eN (sw_seq (qG ?_)))))))))))))))
 refine r_asgD R R R (eN (sw_block ?_))
 refine SW.own (ts' := [(3, .ref 0 4 0 0), (4, .ref 1 4 0 0), (5, .ref 2 3 0 0), (6, .d (.v (.bool false))), (7, .ref 3 3 0 0), (8, .row 4 3 0 (([] : List WiTurn)).length), (9, .d (.v (.int .i64 e.from_))), (10, .d (.v (.int .i64 (-1)))), (11, .d (.v (.int .i64 0)))]) (L' := [some ⟨4, [.d (WiPlan.d t)]⟩, some ⟨4, [.d (WiState.d o)]⟩, some ⟨3, [.d (Scrubs.d a)]⟩, some ⟨3, [.d (WiWindow.d e)]⟩]) 3 R R (.cons (.same _) (.cons (.same _) (.cons (.same _) (.cons (.same _) (.cons (.same _) (.cons .nil (.cons (.same _) (.cons (.same _) (.cons (.same _) .nil))))))))) (.same (.same (.same (.same .nil)))) ?_
 simp only [List.cons_append, List.nil_append]
 obtain ⟨K3, hK3, h⟩ : ∃ K, K = _ ∧ l_WindowScrubs_L1 F t o a e K F ([] : List WiTurn) e.from_ (-1) 0 = some r := ⟨_, rfl, h⟩
 refine sw_loop (st0 := ⟨[(3, .ref 0 4 0 0), (4, .ref 1 4 0 0), (5, .ref 2 3 0 0), (6, .d (.v (.bool false))), (7, .ref 3 3 0 0), (8, .row 4 3 0 (([] : List WiTurn)).length), (9, .d (.v (.int .i64 e.from_))), (10, .d (.v (.int .i64 (-1)))), (11, .d (.v (.int .i64 0)))], [some ⟨4, [.d (WiPlan.d t)]⟩, some ⟨4, [.d (WiState.d o)]⟩, some ⟨3, [.d (Scrubs.d a)]⟩, some ⟨3, [.d (WiWindow.d e)]⟩, some (lWiTurnd ([] : List WiTurn))]⟩) (κ := [0, 1, 2, 3, 4]) (fun m st => ∃ (lv : (List WiTurn)) (x : Int) (x2 : Int) (x3 : Int), l_WindowScrubs_L1 F t o a e K3 m lv x x2 x3 = some r ∧ st = ⟨[(3, .ref 0 4 0 0), (4, .ref 1 4 0 0), (5, .ref 2 3 0 0), (6, .d (.v (.bool false))), (7, .ref 3 3 0 0), (8, .row 4 3 0 (lv).length), (9, .d (.v (.int .i64 x))), (10, .d (.v (.int .i64 x2))), (11, .d (.v (.int .i64 x3)))], [some ⟨4, [.d (WiPlan.d t)]⟩, some ⟨4, [.d (WiState.d o)]⟩, some ⟨3, [.d (Scrubs.d a)]⟩, some ⟨3, [.d (WiWindow.d e)]⟩, some (lWiTurnd lv)]⟩) (vwK R R (.cons R R (.cons R R (.cons R R (.cons R R (.row R .nil))))) (.cons R R (.cons R R (.cons R R (.cons R R (.cons R R (.cons R R (.cons R R (.cons R R (.cons R R .nil)))))))))) ⟨([] : List WiTurn), e.from_, (-1), 0, h, R⟩ ?_
 clear h
 rintro m3 st ⟨lv, x, x2, x3, h, rfl⟩
 cases m3 with
 | zero => cases (show (none : Option Bool) = some r from h)
 | succ m3 =>
 rw [l_WindowScrubs_L1] at h
 refine sw_seq (qG (r_movD R R R ?_))
 refine r_lss R R R R ?_ ?_
 ·intro c4
  replace h := ifP c4 h
  refine eN (sw_condT R (sw_skip (then_norm (sw_seq (sw_block (qG (r_ldD (y := WiPlan.d t) tb R R R R R R R R R (r_ldD (y := WiState.d o) tb R R R R R R R R R (r_fa tb R R R R R R R (r_ldD (y := .agg [.arr 1 ((a.sky_Kinds).map vI), .v (.int .i64 a.sky_Wind)]) tb R R R R R R R R R (r_movW R R R ?_)))))))))))
  obtain ⟨rv5, hrv5, h⟩ := bnd h
  rcases Option.eq_none_or_eq_some rv5.2.2.1 with nv | ⟨t2, nv⟩
  ·replace h := (optN nv).symm.trans h
   refine r_callLN (t' := .d (.tup [.v (.int .i64 rv5.1), .v (.int .i64 rv5.2.1), .arr 1 ((([] : List Int)).map vI), .v (.int .i64 rv5.2.2.2)])) (news' := []) ((window_Turns_sco hrv5).none nv) R .nil (.of (by kernel_rfl)) R R ((.cons (.d _) (.cons (.d _) (.cons (.d _) (.cons (.row R R) .nil))))) R .nil R R R ?_
   simp only [List.map_nil, List.append_nil]
   refine r_movD R R R (r_extD (t := .v (.int .i64 rv5.1)) R R R R (r_extD (t := .v (.int .i64 rv5.2.1)) R R R R (r_extD (t := .arr 1 ((([] : List Int)).map vI)) R R R R (r_extD (t := .v (.int .i64 rv5.2.2.2)) R R R R (r_asgD R R R (r_asgD R R R (r_asgD R R R (r_asgD R R R (eN (sw_seq (qG (r_movD R R R ?_))))))))))))
   refine r_neq R R R R ?_ ?_
   ·intro c5
    replace h := ifN c5 h
    refine eN (sw_condT R (qG (r_movD R R R ?_)))
    refine r_eql R R R R ?_ ?_
    ·intro c6
     replace h := ifP c6 h
     refine r_movD R R R ?_
     obtain ⟨rv6, hrv6, h⟩ := bnd h
     refine r_call (l_Awake_pc hrv6) (.of (by kernel_rfl)) R R R R (r_pickT R R R R (r_asgD R R R (eN (sw_ret (then_ret (block_ret (then_ret (then_ret (block_ret (then_ret ?_))))))))))
     obtain rfl := sI h
     exact fin_0 (t := .d (.v (.bool rv6))) R R R (.cons (.tmp 6) .nil)
    intro c6
    replace h := ifN c6 h
    refine r_movD R R R (r_skip R R R (r_pickF R R R R (r_asgD R R R (eN (sw_ret (then_ret (block_ret (then_ret (then_ret (block_ret (then_ret ?_)))))))))))
    obtain rfl := sI h
    exact fin_0 (t := .d (.v (.bool false))) R R R (.cons (.tmp 6) .nil)
   intro c5
   replace h := ifP c5 h
   refine eN (sw_condF R (sw_skip (then_norm (sw_seq (qG (r_movD R R R (r_movD R R R ?_)))))))
   refine r_neq R R R R ?_ ?_
   ·intro c7
    replace h := ifN c7 h
    refine r_movD R R R (r_skip R R R (r_skip R R R (r_skip R R R (r_skip R R R (r_skip R R R (r_skip R R R (r_skip R R R (r_pickT R R R R (eN (sw_condT R (qG (r_asgD R R R (eN (sw_ret (then_ret (block_ret (then_ret (then_ret (block_ret (then_ret ?_))))))))))))))))))))
    obtain rfl := sI h
    exact fin_0 (t := .d (.v (.bool false))) R R R (.cons (.tmp 6) .nil)
   intro c7
   replace h := ifP c7 h
   refine r_movD R R R (r_movD R R R (r_movD R R R ?_))
   refine r_eql R R R R ?_ ?_
   ·intro c8
    replace h := ifP c8 h
    refine r_movD R R R (r_movD R R R ?_)
    refine r_geq R R R R ?_ ?_
    ·intro c9
     replace h := ifP c9 h
     refine r_pickT R R R R (r_pickF R R R R (eN (sw_condT R (qG (r_asgD R R R (eN (sw_ret (then_ret (block_ret (then_ret (then_ret (block_ret (then_ret ?_)))))))))))))
     obtain rfl := sI h
     exact fin_0 (t := .d (.v (.bool false))) R R R (.cons (.tmp 6) .nil)
    intro c9
    replace h := ifN (Int.not_le.2 c9) h
    refine r_pickT R R R R (r_pickF R R R R (eN (sw_condF R (sw_skip (then_norm (sw_seq (qG (r_movD R R R ?_))))))))
    refine r_lss R R R R ?_ ?_
    ·intro c10
     replace h := ifP c10 h
     refine eN (sw_condT R (sw_exit (then_exit (block_other R (then_exit (then_exit ?_))))))
     subst hK3
     refine block_exit (then_norm (qG (r_ldD (y := WiPlan.d t) tb R R R R R R R R R (r_ldD (y := WiState.d o) tb R R R R R R R R R (r_fa tb R R R R R R R (r_ldD (y := .agg [.arr 1 ((a.sky_Kinds).map vI), .v (.int .i64 a.sky_Wind)]) tb R R R R R R R R R (r_movW R R R (r_build (v := .agg [.d (.arr 1 ((a.sky_Kinds).map vI)), .d (.v (.int .i64 a.sky_Wind)), .row 4 3 0 (lv).length]) tb R R (List.cons_ne_nil _ _) R R R R R R ?_))))))))
     obtain ⟨rv7, hrv7, h⟩ := bnd h
     refine r_callLN (t' := .tup [WiState_T1 rv7.1 5 6 7, .d (WiUse.d rv7.2.1), .d (.v (.int .i64 rv7.2.2))]) (news' := [(lvI rv7.1.used), (lvI rv7.1.credit), (lvI rv7.1.last)]) (window_Play_scr hrv7) R ((.row (fun _ => rfl) (.row (fun _ => rfl) (.row (fun _ => rfl) .nil)))) (.of (by kernel_rfl)) R R ((.cons (.d _) (.cons (.d _) (.cons (.aggL (.cons (.d _) (.cons (.d _) (.cons (.row R R) .nil)))) .nil)))) R ((.row (.row (.row .nil)))) R R R ?_
     refine r_movT (.tup [WiState_T1 rv7.1 5 6 7, .d (WiUse.d rv7.2.1), .d (.v (.int .i64 rv7.2.2))]) R R R (r_ext (t := WiState_T1 rv7.1 5 6 7) R R R R (r_ext (t := .d (WiUse.d rv7.2.1)) R R R R (r_ext (t := .d (.v (.int .i64 rv7.2.2))) R R R R (r_alloc tb R R R R R (r_alloc tb R R R R R ?_)))))
     refine r_stE _ ([some ⟨4, [.d (WiPlan.d t)]⟩, some ⟨4, [.d (WiState.d o)]⟩, some ⟨3, [.d (Scrubs.d a)]⟩, some ⟨3, [.d (WiWindow.d e)]⟩, some (lWiTurnd lv), some (lvI rv7.1.used), some (lvI rv7.1.credit), some (lvI rv7.1.last), some ⟨4, [WiState_T1 rv7.1 5 6 7]⟩, some ⟨4, [.d (.agg [.v (.int .i64 0), .v (.int .i64 0), .v (.int .i64 0), .v (.int .i64 0)])]⟩]) tb R R R R R R R R R R R R ?_
     refine r_stE _ ([some ⟨4, [.d (WiPlan.d t)]⟩, some ⟨4, [.d (WiState.d o)]⟩, some ⟨3, [.d (Scrubs.d a)]⟩, some ⟨3, [.d (WiWindow.d e)]⟩, some (lWiTurnd lv), some (lvI rv7.1.used), some (lvI rv7.1.credit), some (lvI rv7.1.last), some ⟨4, [WiState_T1 rv7.1 5 6 7]⟩, some ⟨4, [.d (WiUse.d rv7.2.1)]⟩]) tb R R R R R R R R R R R R (r_asgD R R R (eN (sw_seq (qG (r_movD R R R ?_)))))
     refine r_neq R R R R ?_ ?_
     ·intro c11
      replace h := ifN c11 h
      refine r_movD R R R (r_skip R R R (r_skip R R R (r_skip R R R (r_skip R R R (r_skip R R R (r_pickT R R R R (eN (sw_condT R (qG (r_asgD R R R (eN (sw_ret (then_ret ?_)))))))))))))
      obtain rfl := sI h
      exact fin_0 (t := .d (.v (.bool false))) R R R (.cons (.tmp 6) .nil)
     intro c11
     replace h := ifP c11 h
     refine r_movD R R R (r_ldD (y := WiUse.d rv7.2.1) tb R R R R R R R R R (r_fa tb R R R R R R R (r_ldD (y := .v (.int .i64 o.next)) tb R R R R R R R R R (r_build (v := .d (.agg [.v (.int .i64 o.next), .v (.int .i64 (-1)), .v (.int .i64 0), .v (.int .i64 (-1))])) tb R R (List.cons_ne_nil _ _) R R R R R R ?_))))
     refine r_neqA (p := [.int .i64 rv7.2.1.window, .int .i64 rv7.2.1.team, .int .i64 rv7.2.1.at_, .int .i64 rv7.2.1.by_]) (q := [.int .i64 o.next, .int .i64 (-1), .int .i64 0, .int .i64 (-1)]) R R (fun o1 o2 w => ne44 rv7.2.1 (WiUse.mk o.next (-1) 0 (-1)) o1 o2 w) R R ?_
     with_reducible apply ev_lit
     ·intro c12
      replace h := ifP c12 h
      refine r_pickF R R R R (eN (sw_condT R (qG (r_asgD R R R (eN (sw_ret (then_ret ?_)))))))
      obtain rfl := sI h
      exact fin_0 (t := .d (.v (.bool false))) R R R (.cons (.tmp 6) .nil)
     intro c12
     replace h := ifF c12 h
     refine r_pickF R R R R (eN (sw_condF R (sw_skip (then_norm (qG (r_ldD (y := WiState.d o) tb R R R R R R R R R (r_alloc tb R R R R R (r_stE _ ([some ⟨4, [.d (WiPlan.d t)]⟩, some ⟨4, [.d (WiState.d o)]⟩, some ⟨3, [.d (Scrubs.d a)]⟩, some ⟨3, [.d (WiWindow.d e)]⟩, some (lWiTurnd lv), some (lvI rv7.1.used), some (lvI rv7.1.credit), some (lvI rv7.1.last), some ⟨4, [WiState_T1 rv7.1 5 6 7]⟩, some ⟨4, [.d (WiUse.d rv7.2.1)]⟩, some ⟨4, [.d (WiState.d o)]⟩]) tb R R R R R R R R R R R R (eN (qG ?_))))))))))
     refine r_fa tb R R R R R R R (r_ldD (y := .v (.int .i64 o.next)) tb R R R R R R R R R (r_add R R R R (r_fa tb R R R R R R R ?_)))
     refine r_stE _ ([some ⟨4, [.d (WiPlan.d t)]⟩, some ⟨4, [.d (WiState.d o)]⟩, some ⟨3, [.d (Scrubs.d a)]⟩, some ⟨3, [.d (WiWindow.d e)]⟩, some (lWiTurnd lv), some (lvI rv7.1.used), some (lvI rv7.1.credit), some (lvI rv7.1.last), some ⟨4, [WiState_T1 rv7.1 5 6 7]⟩, some ⟨4, [.d (WiUse.d rv7.2.1)]⟩, some ⟨4, [.d (WiState.d {o with next := (W (o.next + 1))})]⟩]) tb R R R R R R R R R R R R (eN (qG (r_ldG tb R R R R R R R R R (r_ldD (y := WiState.d {o with next := (W (o.next + 1))}) tb R R R R R R R R R ?_))))
     obtain ⟨rv8, hrv8, h⟩ := bnd h
     refine r_callLB (r_SameState_pc hrv8) (.of (by kernel_rfl)) R R ((.cons (.aggL (.cons (.row R R) (.cons (.row R R) (.cons (.row R R) (.cons (.d _) .nil))))) (.cons (.d _) .nil))) R R ?_ ?_
     ·intro c13
      replace h := ifP c13 h
      refine r_movD R R R (r_movW R R R (r_lenR tb R R R R R (r_fa tb R R R R R R R (r_ldD (y := .arr 9 ((t.teams).map WiTeam.d)) tb R R R R R R R R R (r_lenM tb R R R R R ?_)))))
      refine r_leq R R R R ?_ ?_
      ·intro c14
       replace h := ifP c14 h
       refine r_pickT R R R R (r_movD R R R ?_)
       obtain ⟨rv9, hrv9, h⟩ := bnd h
       refine r_call (l_Awake_pc hrv9) (.of (by kernel_rfl)) R R R R (r_pickT R R R R (r_asgD R R R (eN (sw_ret ?_))))
       obtain rfl := sI h
       exact fin_0 (t := .d (.v (.bool rv9))) R R R (.cons (.tmp 6) .nil)
      intro c14
      replace h := ifN (Int.not_le.2 c14) h
      refine r_pickT R R R R (r_movD R R R (r_skip R R R (r_pickF R R R R (r_asgD R R R (eN (sw_ret ?_))))))
      obtain rfl := sI h
      exact fin_0 (t := .d (.v (.bool false))) R R R (.cons (.tmp 6) .nil)
     intro c13
     replace h := ifF c13 h
     refine r_movD R R R (r_skip R R R (r_skip R R R (r_skip R R R (r_skip R R R (r_skip R R R (r_skip R R R (r_pickF R R R R (r_movD R R R (r_skip R R R (r_pickF R R R R (r_asgD R R R (eN (sw_ret ?_)))))))))))))
     obtain rfl := sI h
     exact fin_0 (t := .d (.v (.bool false))) R R R (.cons (.tmp 6) .nil)
    intro c10
    replace h := ifN (Int.not_lt.2 c10) h
    refine eN (sw_condF R (sw_skip (then_norm (sw_seq (qG (r_movD R R R (r_fa tb R R R R R R R (r_ldD (y := .arr 1 ((a.after).map v8)) tb R R R R R R R R R (r_lenM tb R R R R R ?_)))))))))
    refine r_lss R R R R ?_ ?_
    ·intro c15
     replace h := ifP c15 h
     refine eN (sw_condT R (sw_dr (by kernel_rfl) (r_fa tb R R R R R R R (r_ldD (y := .v (.int .i64 e.until_)) tb R R R R R R R R R (r_movD R R R (r_fa tb R R R R R R R (r_ldD (y := .arr 1 ((a.after).map v8)) tb R R R R R R R R R (r_movD R R R ?_))))))))
     obtain ⟨e2, ie2, h⟩ := bnd h
     refine r_ixE tb R R R R R R (ix0 ie2) (ix1m ie2) R R (r_ldE (y := .v (.int .u8 e2)) tb R R (ix2 (g := v8) ie2) R R R R (r_cvI R R R R R R (r_rem R R (by decide) R R (r_add R R R R (r_min2 R R R R (r_asgD R R R (ev_endD (by kernel_rfl) (then_norm (sw_rg (r_movW R R R (r_movD R R R ?_)))))))))))
     obtain ⟨rv10, hrv10, h⟩ := bnd h
     refine r_call (l_scrub_pc hrv10) (.of (by kernel_rfl)) R R R R (r_bslice tb R R R R R R R R R R R R R ?_)
     obtain ⟨q, iq, h⟩ := bnd h
     refine r_apM (g := WiTurn.d) (w := lv) (v := [rv10]) ([some ⟨4, [.d (WiPlan.d t)]⟩, some ⟨4, [.d (WiState.d o)]⟩, some ⟨3, [.d (Scrubs.d a)]⟩, some ⟨3, [.d (WiWindow.d e)]⟩, none, some (lWiTurnd [rv10])]) tb R R R R R R R R R R R iq R R R R R (r_movD R R R (r_asgW R R R (r_asgD R R R (ev_end (block_norm (then_norm (sw_rg (r_movD R R R (r_add R R R R (r_asgD R R R (eN ?_)))))))))))
     exact ⟨m3, ⟨[(3, .ref 0 4 0 0), (4, .ref 1 4 0 0), (5, .ref 2 3 0 0), (6, .d (.v (.bool false))), (7, .ref 3 3 0 0), (8, .row 4 3 0 (q).length), (9, .d (.v (.int .i64 (min e.until_ (W (x + (Int.tmod (W e2) 60))))))), (10, .d (.v (.int .i64 rv5.1))), (11, .d (.v (.int .i64 (W (x3 + 1)))))], [some ⟨4, [.d (WiPlan.d t)]⟩, some ⟨4, [.d (WiState.d o)]⟩, some ⟨3, [.d (Scrubs.d a)]⟩, some ⟨3, [.d (WiWindow.d e)]⟩, some (lWiTurnd q)]⟩, [0, 1, 2, 3, 6], Nat.lt_succ_self _, (vwK R R (.cons R R (.cons R R (.cons R R (.cons R R (.row R .nil))))) (.cons R R (.cons R R (.cons R R (.cons R R (.cons R R (.cons R R (.cons R R (.cons R R (.cons R R .nil)))))))))), q, (min e.until_ (W (x + (Int.tmod (W e2) 60)))), rv5.1, (W (x3 + 1)), h, R⟩
    intro c15
    replace h := ifN (Int.not_lt.2 c15) h
    refine eN (sw_condF R (sw_skip (then_norm (sw_rg (r_movW R R R (r_movD R R R ?_))))))
    obtain ⟨rv11, hrv11, h⟩ := bnd h
    refine r_call (l_scrub_pc hrv11) (.of (by kernel_rfl)) R R R R (r_bslice tb R R R R R R R R R R R R R ?_)
    obtain ⟨q2, iq2, h⟩ := bnd h
    refine r_apM (g := WiTurn.d) (w := lv) (v := [rv11]) ([some ⟨4, [.d (WiPlan.d t)]⟩, some ⟨4, [.d (WiState.d o)]⟩, some ⟨3, [.d (Scrubs.d a)]⟩, some ⟨3, [.d (WiWindow.d e)]⟩, none, some (lWiTurnd [rv11])]) tb R R R R R R R R R R R iq2 R R R R R (r_movD R R R (r_asgW R R R (r_asgD R R R (ev_end (block_norm (then_norm (sw_rg (r_movD R R R (r_add R R R R (r_asgD R R R (eN ?_)))))))))))
    exact ⟨m3, ⟨[(3, .ref 0 4 0 0), (4, .ref 1 4 0 0), (5, .ref 2 3 0 0), (6, .d (.v (.bool false))), (7, .ref 3 3 0 0), (8, .row 4 3 0 (q2).length), (9, .d (.v (.int .i64 x))), (10, .d (.v (.int .i64 rv5.1))), (11, .d (.v (.int .i64 (W (x3 + 1)))))], [some ⟨4, [.d (WiPlan.d t)]⟩, some ⟨4, [.d (WiState.d o)]⟩, some ⟨3, [.d (Scrubs.d a)]⟩, some ⟨3, [.d (WiWindow.d e)]⟩, some (lWiTurnd q2)]⟩, [0, 1, 2, 3, 6], Nat.lt_succ_self _, (vwK R R (.cons R R (.cons R R (.cons R R (.cons R R (.row R .nil))))) (.cons R R (.cons R R (.cons R R (.cons R R (.cons R R (.cons R R (.cons R R (.cons R R (.cons R R .nil)))))))))), q2, x, rv5.1, (W (x3 + 1)), h, R⟩
   intro c8
   replace h := ifN c8 h
   refine r_movD R R R (r_skip R R R (r_skip R R R (r_pickF R R R R (r_pickF R R R R (eN (sw_condF R (sw_skip (then_norm (sw_seq (qG (r_movD R R R ?_)))))))))))
   refine r_lss R R R R ?_ ?_
   ·intro c16
    replace h := ifP c16 h
    refine eN (sw_condT R (sw_exit (then_exit (block_other R (then_exit (then_exit ?_))))))
    subst hK3
    refine block_exit (then_norm (qG (r_ldD (y := WiPlan.d t) tb R R R R R R R R R (r_ldD (y := WiState.d o) tb R R R R R R R R R (r_fa tb R R R R R R R (r_ldD (y := .agg [.arr 1 ((a.sky_Kinds).map vI), .v (.int .i64 a.sky_Wind)]) tb R R R R R R R R R (r_movW R R R (r_build (v := .agg [.d (.arr 1 ((a.sky_Kinds).map vI)), .d (.v (.int .i64 a.sky_Wind)), .row 4 3 0 (lv).length]) tb R R (List.cons_ne_nil _ _) R R R R R R ?_))))))))
    obtain ⟨rv7, hrv7, h⟩ := bnd h
    refine r_callLN (t' := .tup [WiState_T1 rv7.1 5 6 7, .d (WiUse.d rv7.2.1), .d (.v (.int .i64 rv7.2.2))]) (news' := [(lvI rv7.1.used), (lvI rv7.1.credit), (lvI rv7.1.last)]) (window_Play_scr hrv7) R ((.row (fun _ => rfl) (.row (fun _ => rfl) (.row (fun _ => rfl) .nil)))) (.of (by kernel_rfl)) R R ((.cons (.d _) (.cons (.d _) (.cons (.aggL (.cons (.d _) (.cons (.d _) (.cons (.row R R) .nil)))) .nil)))) R ((.row (.row (.row .nil)))) R R R ?_
    refine r_movT (.tup [WiState_T1 rv7.1 5 6 7, .d (WiUse.d rv7.2.1), .d (.v (.int .i64 rv7.2.2))]) R R R (r_ext (t := WiState_T1 rv7.1 5 6 7) R R R R (r_ext (t := .d (WiUse.d rv7.2.1)) R R R R (r_ext (t := .d (.v (.int .i64 rv7.2.2))) R R R R (r_alloc tb R R R R R (r_alloc tb R R R R R ?_)))))
    refine r_stE _ ([some ⟨4, [.d (WiPlan.d t)]⟩, some ⟨4, [.d (WiState.d o)]⟩, some ⟨3, [.d (Scrubs.d a)]⟩, some ⟨3, [.d (WiWindow.d e)]⟩, some (lWiTurnd lv), some (lvI rv7.1.used), some (lvI rv7.1.credit), some (lvI rv7.1.last), some ⟨4, [WiState_T1 rv7.1 5 6 7]⟩, some ⟨4, [.d (.agg [.v (.int .i64 0), .v (.int .i64 0), .v (.int .i64 0), .v (.int .i64 0)])]⟩]) tb R R R R R R R R R R R R ?_
    refine r_stE _ ([some ⟨4, [.d (WiPlan.d t)]⟩, some ⟨4, [.d (WiState.d o)]⟩, some ⟨3, [.d (Scrubs.d a)]⟩, some ⟨3, [.d (WiWindow.d e)]⟩, some (lWiTurnd lv), some (lvI rv7.1.used), some (lvI rv7.1.credit), some (lvI rv7.1.last), some ⟨4, [WiState_T1 rv7.1 5 6 7]⟩, some ⟨4, [.d (WiUse.d rv7.2.1)]⟩]) tb R R R R R R R R R R R R (r_asgD R R R (eN (sw_seq (qG (r_movD R R R ?_)))))
    refine r_neq R R R R ?_ ?_
    ·intro c11
     replace h := ifN c11 h
     refine r_movD R R R (r_skip R R R (r_skip R R R (r_skip R R R (r_skip R R R (r_skip R R R (r_pickT R R R R (eN (sw_condT R (qG (r_asgD R R R (eN (sw_ret (then_ret ?_)))))))))))))
     obtain rfl := sI h
     exact fin_0 (t := .d (.v (.bool false))) R R R (.cons (.tmp 6) .nil)
    intro c11
    replace h := ifP c11 h
    refine r_movD R R R (r_ldD (y := WiUse.d rv7.2.1) tb R R R R R R R R R (r_fa tb R R R R R R R (r_ldD (y := .v (.int .i64 o.next)) tb R R R R R R R R R (r_build (v := .d (.agg [.v (.int .i64 o.next), .v (.int .i64 (-1)), .v (.int .i64 0), .v (.int .i64 (-1))])) tb R R (List.cons_ne_nil _ _) R R R R R R ?_))))
    refine r_neqA (p := [.int .i64 rv7.2.1.window, .int .i64 rv7.2.1.team, .int .i64 rv7.2.1.at_, .int .i64 rv7.2.1.by_]) (q := [.int .i64 o.next, .int .i64 (-1), .int .i64 0, .int .i64 (-1)]) R R (fun o1 o2 w => ne44 rv7.2.1 (WiUse.mk o.next (-1) 0 (-1)) o1 o2 w) R R ?_
    with_reducible apply ev_lit
    ·intro c12
     replace h := ifP c12 h
     refine r_pickF R R R R (eN (sw_condT R (qG (r_asgD R R R (eN (sw_ret (then_ret ?_)))))))
     obtain rfl := sI h
     exact fin_0 (t := .d (.v (.bool false))) R R R (.cons (.tmp 6) .nil)
    intro c12
    replace h := ifF c12 h
    refine r_pickF R R R R (eN (sw_condF R (sw_skip (then_norm (qG (r_ldD (y := WiState.d o) tb R R R R R R R R R (r_alloc tb R R R R R (r_stE _ ([some ⟨4, [.d (WiPlan.d t)]⟩, some ⟨4, [.d (WiState.d o)]⟩, some ⟨3, [.d (Scrubs.d a)]⟩, some ⟨3, [.d (WiWindow.d e)]⟩, some (lWiTurnd lv), some (lvI rv7.1.used), some (lvI rv7.1.credit), some (lvI rv7.1.last), some ⟨4, [WiState_T1 rv7.1 5 6 7]⟩, some ⟨4, [.d (WiUse.d rv7.2.1)]⟩, some ⟨4, [.d (WiState.d o)]⟩]) tb R R R R R R R R R R R R (eN (qG ?_))))))))))
    refine r_fa tb R R R R R R R (r_ldD (y := .v (.int .i64 o.next)) tb R R R R R R R R R (r_add R R R R (r_fa tb R R R R R R R ?_)))
    refine r_stE _ ([some ⟨4, [.d (WiPlan.d t)]⟩, some ⟨4, [.d (WiState.d o)]⟩, some ⟨3, [.d (Scrubs.d a)]⟩, some ⟨3, [.d (WiWindow.d e)]⟩, some (lWiTurnd lv), some (lvI rv7.1.used), some (lvI rv7.1.credit), some (lvI rv7.1.last), some ⟨4, [WiState_T1 rv7.1 5 6 7]⟩, some ⟨4, [.d (WiUse.d rv7.2.1)]⟩, some ⟨4, [.d (WiState.d {o with next := (W (o.next + 1))})]⟩]) tb R R R R R R R R R R R R (eN (qG (r_ldG tb R R R R R R R R R (r_ldD (y := WiState.d {o with next := (W (o.next + 1))}) tb R R R R R R R R R ?_))))
    obtain ⟨rv8, hrv8, h⟩ := bnd h
    refine r_callLB (r_SameState_pc hrv8) (.of (by kernel_rfl)) R R ((.cons (.aggL (.cons (.row R R) (.cons (.row R R) (.cons (.row R R) (.cons (.d _) .nil))))) (.cons (.d _) .nil))) R R ?_ ?_
    ·intro c13
     replace h := ifP c13 h
     refine r_movD R R R (r_movW R R R (r_lenR tb R R R R R (r_fa tb R R R R R R R (r_ldD (y := .arr 9 ((t.teams).map WiTeam.d)) tb R R R R R R R R R (r_lenM tb R R R R R ?_)))))
     refine r_leq R R R R ?_ ?_
     ·intro c14
      replace h := ifP c14 h
      refine r_pickT R R R R (r_movD R R R ?_)
      obtain ⟨rv9, hrv9, h⟩ := bnd h
      refine r_call (l_Awake_pc hrv9) (.of (by kernel_rfl)) R R R R (r_pickT R R R R (r_asgD R R R (eN (sw_ret ?_))))
      obtain rfl := sI h
      exact fin_0 (t := .d (.v (.bool rv9))) R R R (.cons (.tmp 6) .nil)
     intro c14
     replace h := ifN (Int.not_le.2 c14) h
     refine r_pickT R R R R (r_movD R R R (r_skip R R R (r_pickF R R R R (r_asgD R R R (eN (sw_ret ?_))))))
     obtain rfl := sI h
     exact fin_0 (t := .d (.v (.bool false))) R R R (.cons (.tmp 6) .nil)
    intro c13
    replace h := ifF c13 h
    refine r_movD R R R (r_skip R R R (r_skip R R R (r_skip R R R (r_skip R R R (r_skip R R R (r_skip R R R (r_pickF R R R R (r_movD R R R (r_skip R R R (r_pickF R R R R (r_asgD R R R (eN (sw_ret ?_)))))))))))))
    obtain rfl := sI h
    exact fin_0 (t := .d (.v (.bool false))) R R R (.cons (.tmp 6) .nil)
   intro c16
   replace h := ifN (Int.not_lt.2 c16) h
   refine eN (sw_condF R (sw_skip (then_norm (sw_seq (qG (r_movD R R R (r_fa tb R R R R R R R (r_ldD (y := .arr 1 ((a.after).map v8)) tb R R R R R R R R R (r_lenM tb R R R R R ?_)))))))))
   refine r_lss R R R R ?_ ?_
   ·intro c15
    replace h := ifP c15 h
    refine eN (sw_condT R (sw_dr (by kernel_rfl) (r_fa tb R R R R R R R (r_ldD (y := .v (.int .i64 e.until_)) tb R R R R R R R R R (r_movD R R R (r_fa tb R R R R R R R (r_ldD (y := .arr 1 ((a.after).map v8)) tb R R R R R R R R R (r_movD R R R ?_))))))))
    obtain ⟨e2, ie2, h⟩ := bnd h
    refine r_ixE tb R R R R R R (ix0 ie2) (ix1m ie2) R R (r_ldE (y := .v (.int .u8 e2)) tb R R (ix2 (g := v8) ie2) R R R R (r_cvI R R R R R R (r_rem R R (by decide) R R (r_add R R R R (r_min2 R R R R (r_asgD R R R (ev_endD (by kernel_rfl) (then_norm (sw_rg (r_movW R R R (r_movD R R R ?_)))))))))))
    obtain ⟨rv10, hrv10, h⟩ := bnd h
    refine r_call (l_scrub_pc hrv10) (.of (by kernel_rfl)) R R R R (r_bslice tb R R R R R R R R R R R R R ?_)
    obtain ⟨q, iq, h⟩ := bnd h
    refine r_apM (g := WiTurn.d) (w := lv) (v := [rv10]) ([some ⟨4, [.d (WiPlan.d t)]⟩, some ⟨4, [.d (WiState.d o)]⟩, some ⟨3, [.d (Scrubs.d a)]⟩, some ⟨3, [.d (WiWindow.d e)]⟩, none, some (lWiTurnd [rv10])]) tb R R R R R R R R R R R iq R R R R R (r_movD R R R (r_asgW R R R (r_asgD R R R (ev_end (block_norm (then_norm (sw_rg (r_movD R R R (r_add R R R R (r_asgD R R R (eN ?_)))))))))))
    exact ⟨m3, ⟨[(3, .ref 0 4 0 0), (4, .ref 1 4 0 0), (5, .ref 2 3 0 0), (6, .d (.v (.bool false))), (7, .ref 3 3 0 0), (8, .row 4 3 0 (q).length), (9, .d (.v (.int .i64 (min e.until_ (W (x + (Int.tmod (W e2) 60))))))), (10, .d (.v (.int .i64 rv5.1))), (11, .d (.v (.int .i64 (W (x3 + 1)))))], [some ⟨4, [.d (WiPlan.d t)]⟩, some ⟨4, [.d (WiState.d o)]⟩, some ⟨3, [.d (Scrubs.d a)]⟩, some ⟨3, [.d (WiWindow.d e)]⟩, some (lWiTurnd q)]⟩, [0, 1, 2, 3, 6], Nat.lt_succ_self _, (vwK R R (.cons R R (.cons R R (.cons R R (.cons R R (.row R .nil))))) (.cons R R (.cons R R (.cons R R (.cons R R (.cons R R (.cons R R (.cons R R (.cons R R (.cons R R .nil)))))))))), q, (min e.until_ (W (x + (Int.tmod (W e2) 60)))), rv5.1, (W (x3 + 1)), h, R⟩
   intro c15
   replace h := ifN (Int.not_lt.2 c15) h
   refine eN (sw_condF R (sw_skip (then_norm (sw_rg (r_movW R R R (r_movD R R R ?_))))))
   obtain ⟨rv11, hrv11, h⟩ := bnd h
   refine r_call (l_scrub_pc hrv11) (.of (by kernel_rfl)) R R R R (r_bslice tb R R R R R R R R R R R R R ?_)
   obtain ⟨q2, iq2, h⟩ := bnd h
   refine r_apM (g := WiTurn.d) (w := lv) (v := [rv11]) ([some ⟨4, [.d (WiPlan.d t)]⟩, some ⟨4, [.d (WiState.d o)]⟩, some ⟨3, [.d (Scrubs.d a)]⟩, some ⟨3, [.d (WiWindow.d e)]⟩, none, some (lWiTurnd [rv11])]) tb R R R R R R R R R R R iq2 R R R R R (r_movD R R R (r_asgW R R R (r_asgD R R R (ev_end (block_norm (then_norm (sw_rg (r_movD R R R (r_add R R R R (r_asgD R R R (eN ?_)))))))))))
   exact ⟨m3, ⟨[(3, .ref 0 4 0 0), (4, .ref 1 4 0 0), (5, .ref 2 3 0 0), (6, .d (.v (.bool false))), (7, .ref 3 3 0 0), (8, .row 4 3 0 (q2).length), (9, .d (.v (.int .i64 x))), (10, .d (.v (.int .i64 rv5.1))), (11, .d (.v (.int .i64 (W (x3 + 1)))))], [some ⟨4, [.d (WiPlan.d t)]⟩, some ⟨4, [.d (WiState.d o)]⟩, some ⟨3, [.d (Scrubs.d a)]⟩, some ⟨3, [.d (WiWindow.d e)]⟩, some (lWiTurnd q2)]⟩, [0, 1, 2, 3, 6], Nat.lt_succ_self _, (vwK R R (.cons R R (.cons R R (.cons R R (.cons R R (.row R .nil))))) (.cons R R (.cons R R (.cons R R (.cons R R (.cons R R (.cons R R (.cons R R (.cons R R (.cons R R .nil)))))))))), q2, x, rv5.1, (W (x3 + 1)), h, R⟩
  replace h := (optS nv).symm.trans h
  by_cases c16 : t2.length = 0
  ·cases (if_pos c16).symm.trans h
  replace h := ifN c16 h
  refine r_callLN (t' := .tup [.d (.v (.int .i64 rv5.1)), .d (.v (.int .i64 rv5.2.1)), .row 5 1 1 ((t2).length - 1), .d (.v (.int .i64 rv5.2.2.2))]) (news' := [(lvI t2)]) ((window_Turns_sco hrv5).some nv) R ((.row (fun _ => rfl) .nil)) (.of (by kernel_rfl)) R R ((.cons (.d _) (.cons (.d _) (.cons (.d _) (.cons (.row R R) .nil))))) R ((.row .nil)) R R R ?_
  refine r_movT (.tup [.d (.v (.int .i64 rv5.1)), .d (.v (.int .i64 rv5.2.1)), .row 5 1 1 ((t2).length - 1), .d (.v (.int .i64 rv5.2.2.2))]) R R R (r_ext (t := .d (.v (.int .i64 rv5.1))) R R R R (r_ext (t := .d (.v (.int .i64 rv5.2.1))) R R R R (r_ext (t := .row 5 1 1 ((t2).length - 1)) R R R R (r_ext (t := .d (.v (.int .i64 rv5.2.2.2))) R R R R (r_asgD R R R (r_asgD R R R (r_asgW R R R (r_asgD R R R (eN (sw_seq (qG (r_movD R R R ?_))))))))))))
  refine r_neq R R R R ?_ ?_
  ·intro c16
   replace h := ifN c16 h
   refine eN (sw_condT R (qG (r_movD R R R ?_)))
   refine r_eql R R R R ?_ ?_
   ·intro c17
    replace h := ifP c17 h
    refine r_movD R R R ?_
    obtain ⟨rv12, hrv12, h⟩ := bnd h
    refine r_call (l_Awake_pc hrv12) (.of (by kernel_rfl)) R R R R (r_pickT R R R R (r_asgD R R R (eN (sw_ret (then_ret (block_ret (then_ret (then_ret (block_ret (then_ret ?_))))))))))
    obtain rfl := sI h
    exact fin_0 (t := .d (.v (.bool rv12))) R R R (.cons (.tmp 6) .nil)
   intro c17
   replace h := ifN c17 h
   refine r_movD R R R (r_skip R R R (r_pickF R R R R (r_asgD R R R (eN (sw_ret (then_ret (block_ret (then_ret (then_ret (block_ret (then_ret ?_)))))))))))
   obtain rfl := sI h
   exact fin_0 (t := .d (.v (.bool false))) R R R (.cons (.tmp 6) .nil)
  intro c16
  replace h := ifP c16 h
  refine eN (sw_condF R (sw_skip (then_norm (sw_seq (qG (r_movD R R R (r_movD R R R ?_)))))))
  refine r_neq R R R R ?_ ?_
  ·intro c18
   replace h := ifN c18 h
   refine r_movD R R R (r_skip R R R (r_skip R R R (r_skip R R R (r_skip R R R (r_skip R R R (r_skip R R R (r_skip R R R (r_pickT R R R R (eN (sw_condT R (qG (r_asgD R R R (eN (sw_ret (then_ret (block_ret (then_ret (then_ret (block_ret (then_ret ?_))))))))))))))))))))
   obtain rfl := sI h
   exact fin_0 (t := .d (.v (.bool false))) R R R (.cons (.tmp 6) .nil)
  intro c18
  replace h := ifP c18 h
  refine r_movD R R R (r_movD R R R (r_movD R R R ?_))
  refine r_eql R R R R ?_ ?_
  ·intro c19
   replace h := ifP c19 h
   refine r_movD R R R (r_movD R R R ?_)
   refine r_geq R R R R ?_ ?_
   ·intro c20
    replace h := ifP c20 h
    refine r_pickT R R R R (r_pickF R R R R (eN (sw_condT R (qG (r_asgD R R R (eN (sw_ret (then_ret (block_ret (then_ret (then_ret (block_ret (then_ret ?_)))))))))))))
    obtain rfl := sI h
    exact fin_0 (t := .d (.v (.bool false))) R R R (.cons (.tmp 6) .nil)
   intro c20
   replace h := ifN (Int.not_le.2 c20) h
   refine r_pickT R R R R (r_pickF R R R R (eN (sw_condF R (sw_skip (then_norm (sw_seq (qG (r_movD R R R ?_))))))))
   refine r_lss R R R R ?_ ?_
   ·intro c21
    replace h := ifP c21 h
    refine eN (sw_condT R (sw_exit (then_exit (block_other R (then_exit (then_exit ?_))))))
    subst hK3
    refine block_exit (then_norm (qG (r_ldD (y := WiPlan.d t) tb R R R R R R R R R (r_ldD (y := WiState.d o) tb R R R R R R R R R (r_fa tb R R R R R R R (r_ldD (y := .agg [.arr 1 ((a.sky_Kinds).map vI), .v (.int .i64 a.sky_Wind)]) tb R R R R R R R R R (r_movW R R R (r_build (v := .agg [.d (.arr 1 ((a.sky_Kinds).map vI)), .d (.v (.int .i64 a.sky_Wind)), .row 4 3 0 (lv).length]) tb R R (List.cons_ne_nil _ _) R R R R R R ?_))))))))
    obtain ⟨rv7, hrv7, h⟩ := bnd h
    refine r_callLN (t' := .tup [WiState_T1 rv7.1 6 7 8, .d (WiUse.d rv7.2.1), .d (.v (.int .i64 rv7.2.2))]) (news' := [(lvI rv7.1.used), (lvI rv7.1.credit), (lvI rv7.1.last)]) (window_Play_scr hrv7) R ((.row (fun _ => rfl) (.row (fun _ => rfl) (.row (fun _ => rfl) .nil)))) (.of (by kernel_rfl)) R R ((.cons (.d _) (.cons (.d _) (.cons (.aggL (.cons (.d _) (.cons (.d _) (.cons (.row R R) .nil)))) .nil)))) R ((.row (.row (.row .nil)))) R R R ?_
    refine r_movT (.tup [WiState_T1 rv7.1 6 7 8, .d (WiUse.d rv7.2.1), .d (.v (.int .i64 rv7.2.2))]) R R R (r_ext (t := WiState_T1 rv7.1 6 7 8) R R R R (r_ext (t := .d (WiUse.d rv7.2.1)) R R R R (r_ext (t := .d (.v (.int .i64 rv7.2.2))) R R R R (r_alloc tb R R R R R (r_alloc tb R R R R R ?_)))))
    refine r_stE _ ([some ⟨4, [.d (WiPlan.d t)]⟩, some ⟨4, [.d (WiState.d o)]⟩, some ⟨3, [.d (Scrubs.d a)]⟩, some ⟨3, [.d (WiWindow.d e)]⟩, some (lWiTurnd lv), some (lvI t2), some (lvI rv7.1.used), some (lvI rv7.1.credit), some (lvI rv7.1.last), some ⟨4, [WiState_T1 rv7.1 6 7 8]⟩, some ⟨4, [.d (.agg [.v (.int .i64 0), .v (.int .i64 0), .v (.int .i64 0), .v (.int .i64 0)])]⟩]) tb R R R R R R R R R R R R ?_
    refine r_stE _ ([some ⟨4, [.d (WiPlan.d t)]⟩, some ⟨4, [.d (WiState.d o)]⟩, some ⟨3, [.d (Scrubs.d a)]⟩, some ⟨3, [.d (WiWindow.d e)]⟩, some (lWiTurnd lv), some (lvI t2), some (lvI rv7.1.used), some (lvI rv7.1.credit), some (lvI rv7.1.last), some ⟨4, [WiState_T1 rv7.1 6 7 8]⟩, some ⟨4, [.d (WiUse.d rv7.2.1)]⟩]) tb R R R R R R R R R R R R (r_asgD R R R (eN (sw_seq (qG (r_movD R R R ?_)))))
    refine r_neq R R R R ?_ ?_
    ·intro c11
     replace h := ifN c11 h
     refine r_movD R R R (r_skip R R R (r_skip R R R (r_skip R R R (r_skip R R R (r_skip R R R (r_pickT R R R R (eN (sw_condT R (qG (r_asgD R R R (eN (sw_ret (then_ret ?_)))))))))))))
     obtain rfl := sI h
     exact fin_0 (t := .d (.v (.bool false))) R R R (.cons (.tmp 6) .nil)
    intro c11
    replace h := ifP c11 h
    refine r_movD R R R (r_ldD (y := WiUse.d rv7.2.1) tb R R R R R R R R R (r_fa tb R R R R R R R (r_ldD (y := .v (.int .i64 o.next)) tb R R R R R R R R R (r_build (v := .d (.agg [.v (.int .i64 o.next), .v (.int .i64 (-1)), .v (.int .i64 0), .v (.int .i64 (-1))])) tb R R (List.cons_ne_nil _ _) R R R R R R ?_))))
    refine r_neqA (p := [.int .i64 rv7.2.1.window, .int .i64 rv7.2.1.team, .int .i64 rv7.2.1.at_, .int .i64 rv7.2.1.by_]) (q := [.int .i64 o.next, .int .i64 (-1), .int .i64 0, .int .i64 (-1)]) R R (fun o1 o2 w => ne44 rv7.2.1 (WiUse.mk o.next (-1) 0 (-1)) o1 o2 w) R R ?_
    with_reducible apply ev_lit
    ·intro c12
     replace h := ifP c12 h
     refine r_pickF R R R R (eN (sw_condT R (qG (r_asgD R R R (eN (sw_ret (then_ret ?_)))))))
     obtain rfl := sI h
     exact fin_0 (t := .d (.v (.bool false))) R R R (.cons (.tmp 6) .nil)
    intro c12
    replace h := ifF c12 h
    refine r_pickF R R R R (eN (sw_condF R (sw_skip (then_norm (qG (r_ldD (y := WiState.d o) tb R R R R R R R R R (r_alloc tb R R R R R (r_stE _ ([some ⟨4, [.d (WiPlan.d t)]⟩, some ⟨4, [.d (WiState.d o)]⟩, some ⟨3, [.d (Scrubs.d a)]⟩, some ⟨3, [.d (WiWindow.d e)]⟩, some (lWiTurnd lv), some (lvI t2), some (lvI rv7.1.used), some (lvI rv7.1.credit), some (lvI rv7.1.last), some ⟨4, [WiState_T1 rv7.1 6 7 8]⟩, some ⟨4, [.d (WiUse.d rv7.2.1)]⟩, some ⟨4, [.d (WiState.d o)]⟩]) tb R R R R R R R R R R R R (eN (qG ?_))))))))))
    refine r_fa tb R R R R R R R (r_ldD (y := .v (.int .i64 o.next)) tb R R R R R R R R R (r_add R R R R (r_fa tb R R R R R R R ?_)))
    refine r_stE _ ([some ⟨4, [.d (WiPlan.d t)]⟩, some ⟨4, [.d (WiState.d o)]⟩, some ⟨3, [.d (Scrubs.d a)]⟩, some ⟨3, [.d (WiWindow.d e)]⟩, some (lWiTurnd lv), some (lvI t2), some (lvI rv7.1.used), some (lvI rv7.1.credit), some (lvI rv7.1.last), some ⟨4, [WiState_T1 rv7.1 6 7 8]⟩, some ⟨4, [.d (WiUse.d rv7.2.1)]⟩, some ⟨4, [.d (WiState.d {o with next := (W (o.next + 1))})]⟩]) tb R R R R R R R R R R R R (eN (qG (r_ldG tb R R R R R R R R R (r_ldD (y := WiState.d {o with next := (W (o.next + 1))}) tb R R R R R R R R R ?_))))
    obtain ⟨rv8, hrv8, h⟩ := bnd h
    refine r_callLB (r_SameState_pc hrv8) (.of (by kernel_rfl)) R R ((.cons (.aggL (.cons (.row R R) (.cons (.row R R) (.cons (.row R R) (.cons (.d _) .nil))))) (.cons (.d _) .nil))) R R ?_ ?_
    ·intro c13
     replace h := ifP c13 h
     refine r_movD R R R (r_movW R R R (r_lenR tb R R R R R (r_fa tb R R R R R R R (r_ldD (y := .arr 9 ((t.teams).map WiTeam.d)) tb R R R R R R R R R (r_lenM tb R R R R R ?_)))))
     refine r_leq R R R R ?_ ?_
     ·intro c14
      replace h := ifP c14 h
      refine r_pickT R R R R (r_movD R R R ?_)
      obtain ⟨rv9, hrv9, h⟩ := bnd h
      refine r_call (l_Awake_pc hrv9) (.of (by kernel_rfl)) R R R R (r_pickT R R R R (r_asgD R R R (eN (sw_ret ?_))))
      obtain rfl := sI h
      exact fin_0 (t := .d (.v (.bool rv9))) R R R (.cons (.tmp 6) .nil)
     intro c14
     replace h := ifN (Int.not_le.2 c14) h
     refine r_pickT R R R R (r_movD R R R (r_skip R R R (r_pickF R R R R (r_asgD R R R (eN (sw_ret ?_))))))
     obtain rfl := sI h
     exact fin_0 (t := .d (.v (.bool false))) R R R (.cons (.tmp 6) .nil)
    intro c13
    replace h := ifF c13 h
    refine r_movD R R R (r_skip R R R (r_skip R R R (r_skip R R R (r_skip R R R (r_skip R R R (r_skip R R R (r_pickF R R R R (r_movD R R R (r_skip R R R (r_pickF R R R R (r_asgD R R R (eN (sw_ret ?_)))))))))))))
    obtain rfl := sI h
    exact fin_0 (t := .d (.v (.bool false))) R R R (.cons (.tmp 6) .nil)
   intro c21
   replace h := ifN (Int.not_lt.2 c21) h
   refine eN (sw_condF R (sw_skip (then_norm (sw_seq (qG (r_movD R R R (r_fa tb R R R R R R R (r_ldD (y := .arr 1 ((a.after).map v8)) tb R R R R R R R R R (r_lenM tb R R R R R ?_)))))))))
   refine r_lss R R R R ?_ ?_
   ·intro c15
    replace h := ifP c15 h
    refine eN (sw_condT R (sw_dr (by kernel_rfl) (r_fa tb R R R R R R R (r_ldD (y := .v (.int .i64 e.until_)) tb R R R R R R R R R (r_movD R R R (r_fa tb R R R R R R R (r_ldD (y := .arr 1 ((a.after).map v8)) tb R R R R R R R R R (r_movD R R R ?_))))))))
    obtain ⟨e2, ie2, h⟩ := bnd h
    refine r_ixE tb R R R R R R (ix0 ie2) (ix1m ie2) R R (r_ldE (y := .v (.int .u8 e2)) tb R R (ix2 (g := v8) ie2) R R R R (r_cvI R R R R R R (r_rem R R (by decide) R R (r_add R R R R (r_min2 R R R R (r_asgD R R R (ev_endD (by kernel_rfl) (then_norm (sw_rg (r_movW R R R (r_movD R R R ?_)))))))))))
    obtain ⟨rv10, hrv10, h⟩ := bnd h
    refine r_call (l_scrub_pc hrv10) (.of (by kernel_rfl)) R R R R (r_bslice tb R R R R R R R R R R R R R ?_)
    obtain ⟨q, iq, h⟩ := bnd h
    refine r_apM (g := WiTurn.d) (w := lv) (v := [rv10]) ([some ⟨4, [.d (WiPlan.d t)]⟩, some ⟨4, [.d (WiState.d o)]⟩, some ⟨3, [.d (Scrubs.d a)]⟩, some ⟨3, [.d (WiWindow.d e)]⟩, none, some (lvI t2), some (lWiTurnd [rv10])]) tb R R R R R R R R R R R iq R R R R R (r_movD R R R (r_asgW R R R (r_asgD R R R (ev_end (block_norm (then_norm (sw_rg (r_movD R R R (r_add R R R R (r_asgD R R R (eN ?_)))))))))))
    exact ⟨m3, ⟨[(3, .ref 0 4 0 0), (4, .ref 1 4 0 0), (5, .ref 2 3 0 0), (6, .d (.v (.bool false))), (7, .ref 3 3 0 0), (8, .row 4 3 0 (q).length), (9, .d (.v (.int .i64 (min e.until_ (W (x + (Int.tmod (W e2) 60))))))), (10, .d (.v (.int .i64 rv5.1))), (11, .d (.v (.int .i64 (W (x3 + 1)))))], [some ⟨4, [.d (WiPlan.d t)]⟩, some ⟨4, [.d (WiState.d o)]⟩, some ⟨3, [.d (Scrubs.d a)]⟩, some ⟨3, [.d (WiWindow.d e)]⟩, some (lWiTurnd q)]⟩, [0, 1, 2, 3, 7], Nat.lt_succ_self _, (vwK R R (.cons R R (.cons R R (.cons R R (.cons R R (.row R .nil))))) (.cons R R (.cons R R (.cons R R (.cons R R (.cons R R (.cons R R (.cons R R (.cons R R (.cons R R .nil)))))))))), q, (min e.until_ (W (x + (Int.tmod (W e2) 60)))), rv5.1, (W (x3 + 1)), h, R⟩
   intro c15
   replace h := ifN (Int.not_lt.2 c15) h
   refine eN (sw_condF R (sw_skip (then_norm (sw_rg (r_movW R R R (r_movD R R R ?_))))))
   obtain ⟨rv11, hrv11, h⟩ := bnd h
   refine r_call (l_scrub_pc hrv11) (.of (by kernel_rfl)) R R R R (r_bslice tb R R R R R R R R R R R R R ?_)
   obtain ⟨q2, iq2, h⟩ := bnd h
   refine r_apM (g := WiTurn.d) (w := lv) (v := [rv11]) ([some ⟨4, [.d (WiPlan.d t)]⟩, some ⟨4, [.d (WiState.d o)]⟩, some ⟨3, [.d (Scrubs.d a)]⟩, some ⟨3, [.d (WiWindow.d e)]⟩, none, some (lvI t2), some (lWiTurnd [rv11])]) tb R R R R R R R R R R R iq2 R R R R R (r_movD R R R (r_asgW R R R (r_asgD R R R (ev_end (block_norm (then_norm (sw_rg (r_movD R R R (r_add R R R R (r_asgD R R R (eN ?_)))))))))))
   exact ⟨m3, ⟨[(3, .ref 0 4 0 0), (4, .ref 1 4 0 0), (5, .ref 2 3 0 0), (6, .d (.v (.bool false))), (7, .ref 3 3 0 0), (8, .row 4 3 0 (q2).length), (9, .d (.v (.int .i64 x))), (10, .d (.v (.int .i64 rv5.1))), (11, .d (.v (.int .i64 (W (x3 + 1)))))], [some ⟨4, [.d (WiPlan.d t)]⟩, some ⟨4, [.d (WiState.d o)]⟩, some ⟨3, [.d (Scrubs.d a)]⟩, some ⟨3, [.d (WiWindow.d e)]⟩, some (lWiTurnd q2)]⟩, [0, 1, 2, 3, 7], Nat.lt_succ_self _, (vwK R R (.cons R R (.cons R R (.cons R R (.cons R R (.row R .nil))))) (.cons R R (.cons R R (.cons R R (.cons R R (.cons R R (.cons R R (.cons R R (.cons R R (.cons R R .nil)))))))))), q2, x, rv5.1, (W (x3 + 1)), h, R⟩
  intro c19
  replace h := ifN c19 h
  refine r_movD R R R (r_skip R R R (r_skip R R R (r_pickF R R R R (r_pickF R R R R (eN (sw_condF R (sw_skip (then_norm (sw_seq (qG (r_movD R R R ?_)))))))))))
  refine r_lss R R R R ?_ ?_
  ·intro c16
   replace h := ifP c16 h
   refine eN (sw_condT R (sw_exit (then_exit (block_other R (then_exit (then_exit ?_))))))
   subst hK3
   refine block_exit (then_norm (qG (r_ldD (y := WiPlan.d t) tb R R R R R R R R R (r_ldD (y := WiState.d o) tb R R R R R R R R R (r_fa tb R R R R R R R (r_ldD (y := .agg [.arr 1 ((a.sky_Kinds).map vI), .v (.int .i64 a.sky_Wind)]) tb R R R R R R R R R (r_movW R R R (r_build (v := .agg [.d (.arr 1 ((a.sky_Kinds).map vI)), .d (.v (.int .i64 a.sky_Wind)), .row 4 3 0 (lv).length]) tb R R (List.cons_ne_nil _ _) R R R R R R ?_))))))))
   obtain ⟨rv7, hrv7, h⟩ := bnd h
   refine r_callLN (t' := .tup [WiState_T1 rv7.1 6 7 8, .d (WiUse.d rv7.2.1), .d (.v (.int .i64 rv7.2.2))]) (news' := [(lvI rv7.1.used), (lvI rv7.1.credit), (lvI rv7.1.last)]) (window_Play_scr hrv7) R ((.row (fun _ => rfl) (.row (fun _ => rfl) (.row (fun _ => rfl) .nil)))) (.of (by kernel_rfl)) R R ((.cons (.d _) (.cons (.d _) (.cons (.aggL (.cons (.d _) (.cons (.d _) (.cons (.row R R) .nil)))) .nil)))) R ((.row (.row (.row .nil)))) R R R ?_
   refine r_movT (.tup [WiState_T1 rv7.1 6 7 8, .d (WiUse.d rv7.2.1), .d (.v (.int .i64 rv7.2.2))]) R R R (r_ext (t := WiState_T1 rv7.1 6 7 8) R R R R (r_ext (t := .d (WiUse.d rv7.2.1)) R R R R (r_ext (t := .d (.v (.int .i64 rv7.2.2))) R R R R (r_alloc tb R R R R R (r_alloc tb R R R R R ?_)))))
   refine r_stE _ ([some ⟨4, [.d (WiPlan.d t)]⟩, some ⟨4, [.d (WiState.d o)]⟩, some ⟨3, [.d (Scrubs.d a)]⟩, some ⟨3, [.d (WiWindow.d e)]⟩, some (lWiTurnd lv), some (lvI t2), some (lvI rv7.1.used), some (lvI rv7.1.credit), some (lvI rv7.1.last), some ⟨4, [WiState_T1 rv7.1 6 7 8]⟩, some ⟨4, [.d (.agg [.v (.int .i64 0), .v (.int .i64 0), .v (.int .i64 0), .v (.int .i64 0)])]⟩]) tb R R R R R R R R R R R R ?_
   refine r_stE _ ([some ⟨4, [.d (WiPlan.d t)]⟩, some ⟨4, [.d (WiState.d o)]⟩, some ⟨3, [.d (Scrubs.d a)]⟩, some ⟨3, [.d (WiWindow.d e)]⟩, some (lWiTurnd lv), some (lvI t2), some (lvI rv7.1.used), some (lvI rv7.1.credit), some (lvI rv7.1.last), some ⟨4, [WiState_T1 rv7.1 6 7 8]⟩, some ⟨4, [.d (WiUse.d rv7.2.1)]⟩]) tb R R R R R R R R R R R R (r_asgD R R R (eN (sw_seq (qG (r_movD R R R ?_)))))
   refine r_neq R R R R ?_ ?_
   ·intro c11
    replace h := ifN c11 h
    refine r_movD R R R (r_skip R R R (r_skip R R R (r_skip R R R (r_skip R R R (r_skip R R R (r_pickT R R R R (eN (sw_condT R (qG (r_asgD R R R (eN (sw_ret (then_ret ?_)))))))))))))
    obtain rfl := sI h
    exact fin_0 (t := .d (.v (.bool false))) R R R (.cons (.tmp 6) .nil)
   intro c11
   replace h := ifP c11 h
   refine r_movD R R R (r_ldD (y := WiUse.d rv7.2.1) tb R R R R R R R R R (r_fa tb R R R R R R R (r_ldD (y := .v (.int .i64 o.next)) tb R R R R R R R R R (r_build (v := .d (.agg [.v (.int .i64 o.next), .v (.int .i64 (-1)), .v (.int .i64 0), .v (.int .i64 (-1))])) tb R R (List.cons_ne_nil _ _) R R R R R R ?_))))
   refine r_neqA (p := [.int .i64 rv7.2.1.window, .int .i64 rv7.2.1.team, .int .i64 rv7.2.1.at_, .int .i64 rv7.2.1.by_]) (q := [.int .i64 o.next, .int .i64 (-1), .int .i64 0, .int .i64 (-1)]) R R (fun o1 o2 w => ne44 rv7.2.1 (WiUse.mk o.next (-1) 0 (-1)) o1 o2 w) R R ?_
   with_reducible apply ev_lit
   ·intro c12
    replace h := ifP c12 h
    refine r_pickF R R R R (eN (sw_condT R (qG (r_asgD R R R (eN (sw_ret (then_ret ?_)))))))
    obtain rfl := sI h
    exact fin_0 (t := .d (.v (.bool false))) R R R (.cons (.tmp 6) .nil)
   intro c12
   replace h := ifF c12 h
   refine r_pickF R R R R (eN (sw_condF R (sw_skip (then_norm (qG (r_ldD (y := WiState.d o) tb R R R R R R R R R (r_alloc tb R R R R R (r_stE _ ([some ⟨4, [.d (WiPlan.d t)]⟩, some ⟨4, [.d (WiState.d o)]⟩, some ⟨3, [.d (Scrubs.d a)]⟩, some ⟨3, [.d (WiWindow.d e)]⟩, some (lWiTurnd lv), some (lvI t2), some (lvI rv7.1.used), some (lvI rv7.1.credit), some (lvI rv7.1.last), some ⟨4, [WiState_T1 rv7.1 6 7 8]⟩, some ⟨4, [.d (WiUse.d rv7.2.1)]⟩, some ⟨4, [.d (WiState.d o)]⟩]) tb R R R R R R R R R R R R (eN (qG ?_))))))))))
   refine r_fa tb R R R R R R R (r_ldD (y := .v (.int .i64 o.next)) tb R R R R R R R R R (r_add R R R R (r_fa tb R R R R R R R ?_)))
   refine r_stE _ ([some ⟨4, [.d (WiPlan.d t)]⟩, some ⟨4, [.d (WiState.d o)]⟩, some ⟨3, [.d (Scrubs.d a)]⟩, some ⟨3, [.d (WiWindow.d e)]⟩, some (lWiTurnd lv), some (lvI t2), some (lvI rv7.1.used), some (lvI rv7.1.credit), some (lvI rv7.1.last), some ⟨4, [WiState_T1 rv7.1 6 7 8]⟩, some ⟨4, [.d (WiUse.d rv7.2.1)]⟩, some ⟨4, [.d (WiState.d {o with next := (W (o.next + 1))})]⟩]) tb R R R R R R R R R R R R (eN (qG (r_ldG tb R R R R R R R R R (r_ldD (y := WiState.d {o with next := (W (o.next + 1))}) tb R R R R R R R R R ?_))))
   obtain ⟨rv8, hrv8, h⟩ := bnd h
   refine r_callLB (r_SameState_pc hrv8) (.of (by kernel_rfl)) R R ((.cons (.aggL (.cons (.row R R) (.cons (.row R R) (.cons (.row R R) (.cons (.d _) .nil))))) (.cons (.d _) .nil))) R R ?_ ?_
   ·intro c13
    replace h := ifP c13 h
    refine r_movD R R R (r_movW R R R (r_lenR tb R R R R R (r_fa tb R R R R R R R (r_ldD (y := .arr 9 ((t.teams).map WiTeam.d)) tb R R R R R R R R R (r_lenM tb R R R R R ?_)))))
    refine r_leq R R R R ?_ ?_
    ·intro c14
     replace h := ifP c14 h
     refine r_pickT R R R R (r_movD R R R ?_)
     obtain ⟨rv9, hrv9, h⟩ := bnd h
     refine r_call (l_Awake_pc hrv9) (.of (by kernel_rfl)) R R R R (r_pickT R R R R (r_asgD R R R (eN (sw_ret ?_))))
     obtain rfl := sI h
     exact fin_0 (t := .d (.v (.bool rv9))) R R R (.cons (.tmp 6) .nil)
    intro c14
    replace h := ifN (Int.not_le.2 c14) h
    refine r_pickT R R R R (r_movD R R R (r_skip R R R (r_pickF R R R R (r_asgD R R R (eN (sw_ret ?_))))))
    obtain rfl := sI h
    exact fin_0 (t := .d (.v (.bool false))) R R R (.cons (.tmp 6) .nil)
   intro c13
   replace h := ifF c13 h
   refine r_movD R R R (r_skip R R R (r_skip R R R (r_skip R R R (r_skip R R R (r_skip R R R (r_skip R R R (r_pickF R R R R (r_movD R R R (r_skip R R R (r_pickF R R R R (r_asgD R R R (eN (sw_ret ?_)))))))))))))
   obtain rfl := sI h
   exact fin_0 (t := .d (.v (.bool false))) R R R (.cons (.tmp 6) .nil)
  intro c16
  replace h := ifN (Int.not_lt.2 c16) h
  refine eN (sw_condF R (sw_skip (then_norm (sw_seq (qG (r_movD R R R (r_fa tb R R R R R R R (r_ldD (y := .arr 1 ((a.after).map v8)) tb R R R R R R R R R (r_lenM tb R R R R R ?_)))))))))
  refine r_lss R R R R ?_ ?_
  ·intro c15
   replace h := ifP c15 h
   refine eN (sw_condT R (sw_dr (by kernel_rfl) (r_fa tb R R R R R R R (r_ldD (y := .v (.int .i64 e.until_)) tb R R R R R R R R R (r_movD R R R (r_fa tb R R R R R R R (r_ldD (y := .arr 1 ((a.after).map v8)) tb R R R R R R R R R (r_movD R R R ?_))))))))
   obtain ⟨e2, ie2, h⟩ := bnd h
   refine r_ixE tb R R R R R R (ix0 ie2) (ix1m ie2) R R (r_ldE (y := .v (.int .u8 e2)) tb R R (ix2 (g := v8) ie2) R R R R (r_cvI R R R R R R (r_rem R R (by decide) R R (r_add R R R R (r_min2 R R R R (r_asgD R R R (ev_endD (by kernel_rfl) (then_norm (sw_rg (r_movW R R R (r_movD R R R ?_)))))))))))
   obtain ⟨rv10, hrv10, h⟩ := bnd h
   refine r_call (l_scrub_pc hrv10) (.of (by kernel_rfl)) R R R R (r_bslice tb R R R R R R R R R R R R R ?_)
   obtain ⟨q, iq, h⟩ := bnd h
   refine r_apM (g := WiTurn.d) (w := lv) (v := [rv10]) ([some ⟨4, [.d (WiPlan.d t)]⟩, some ⟨4, [.d (WiState.d o)]⟩, some ⟨3, [.d (Scrubs.d a)]⟩, some ⟨3, [.d (WiWindow.d e)]⟩, none, some (lvI t2), some (lWiTurnd [rv10])]) tb R R R R R R R R R R R iq R R R R R (r_movD R R R (r_asgW R R R (r_asgD R R R (ev_end (block_norm (then_norm (sw_rg (r_movD R R R (r_add R R R R (r_asgD R R R (eN ?_)))))))))))
   exact ⟨m3, ⟨[(3, .ref 0 4 0 0), (4, .ref 1 4 0 0), (5, .ref 2 3 0 0), (6, .d (.v (.bool false))), (7, .ref 3 3 0 0), (8, .row 4 3 0 (q).length), (9, .d (.v (.int .i64 (min e.until_ (W (x + (Int.tmod (W e2) 60))))))), (10, .d (.v (.int .i64 rv5.1))), (11, .d (.v (.int .i64 (W (x3 + 1)))))], [some ⟨4, [.d (WiPlan.d t)]⟩, some ⟨4, [.d (WiState.d o)]⟩, some ⟨3, [.d (Scrubs.d a)]⟩, some ⟨3, [.d (WiWindow.d e)]⟩, some (lWiTurnd q)]⟩, [0, 1, 2, 3, 7], Nat.lt_succ_self _, (vwK R R (.cons R R (.cons R R (.cons R R (.cons R R (.row R .nil))))) (.cons R R (.cons R R (.cons R R (.cons R R (.cons R R (.cons R R (.cons R R (.cons R R (.cons R R .nil)))))))))), q, (min e.until_ (W (x + (Int.tmod (W e2) 60)))), rv5.1, (W (x3 + 1)), h, R⟩
  intro c15
  replace h := ifN (Int.not_lt.2 c15) h
  refine eN (sw_condF R (sw_skip (then_norm (sw_rg (r_movW R R R (r_movD R R R ?_))))))
  obtain ⟨rv11, hrv11, h⟩ := bnd h
  refine r_call (l_scrub_pc hrv11) (.of (by kernel_rfl)) R R R R (r_bslice tb R R R R R R R R R R R R R ?_)
  obtain ⟨q2, iq2, h⟩ := bnd h
  refine r_apM (g := WiTurn.d) (w := lv) (v := [rv11]) ([some ⟨4, [.d (WiPlan.d t)]⟩, some ⟨4, [.d (WiState.d o)]⟩, some ⟨3, [.d (Scrubs.d a)]⟩, some ⟨3, [.d (WiWindow.d e)]⟩, none, some (lvI t2), some (lWiTurnd [rv11])]) tb R R R R R R R R R R R iq2 R R R R R (r_movD R R R (r_asgW R R R (r_asgD R R R (ev_end (block_norm (then_norm (sw_rg (r_movD R R R (r_add R R R R (r_asgD R R R (eN ?_)))))))))))
  exact ⟨m3, ⟨[(3, .ref 0 4 0 0), (4, .ref 1 4 0 0), (5, .ref 2 3 0 0), (6, .d (.v (.bool false))), (7, .ref 3 3 0 0), (8, .row 4 3 0 (q2).length), (9, .d (.v (.int .i64 x))), (10, .d (.v (.int .i64 rv5.1))), (11, .d (.v (.int .i64 (W (x3 + 1)))))], [some ⟨4, [.d (WiPlan.d t)]⟩, some ⟨4, [.d (WiState.d o)]⟩, some ⟨3, [.d (Scrubs.d a)]⟩, some ⟨3, [.d (WiWindow.d e)]⟩, some (lWiTurnd q2)]⟩, [0, 1, 2, 3, 7], Nat.lt_succ_self _, (vwK R R (.cons R R (.cons R R (.cons R R (.cons R R (.row R .nil))))) (.cons R R (.cons R R (.cons R R (.cons R R (.cons R R (.cons R R (.cons R R (.cons R R (.cons R R .nil)))))))))), q2, x, rv5.1, (W (x3 + 1)), h, R⟩
 intro c4
 replace h := ifN (Int.not_lt.2 c4) h
 refine eN (sw_condF R (sw_exit (then_exit (then_exit ?_))))
 subst hK3
 refine block_exit (then_norm (qG (r_ldD (y := WiPlan.d t) tb R R R R R R R R R (r_ldD (y := WiState.d o) tb R R R R R R R R R (r_fa tb R R R R R R R (r_ldD (y := .agg [.arr 1 ((a.sky_Kinds).map vI), .v (.int .i64 a.sky_Wind)]) tb R R R R R R R R R (r_movW R R R (r_build (v := .agg [.d (.arr 1 ((a.sky_Kinds).map vI)), .d (.v (.int .i64 a.sky_Wind)), .row 4 3 0 (lv).length]) tb R R (List.cons_ne_nil _ _) R R R R R R ?_))))))))
 obtain ⟨rv7, hrv7, h⟩ := bnd h
 refine r_callLN (t' := .tup [WiState_T1 rv7.1 5 6 7, .d (WiUse.d rv7.2.1), .d (.v (.int .i64 rv7.2.2))]) (news' := [(lvI rv7.1.used), (lvI rv7.1.credit), (lvI rv7.1.last)]) (window_Play_scr hrv7) R ((.row (fun _ => rfl) (.row (fun _ => rfl) (.row (fun _ => rfl) .nil)))) (.of (by kernel_rfl)) R R ((.cons (.d _) (.cons (.d _) (.cons (.aggL (.cons (.d _) (.cons (.d _) (.cons (.row R R) .nil)))) .nil)))) R ((.row (.row (.row .nil)))) R R R ?_
 refine r_movT (.tup [WiState_T1 rv7.1 5 6 7, .d (WiUse.d rv7.2.1), .d (.v (.int .i64 rv7.2.2))]) R R R (r_ext (t := WiState_T1 rv7.1 5 6 7) R R R R (r_ext (t := .d (WiUse.d rv7.2.1)) R R R R (r_ext (t := .d (.v (.int .i64 rv7.2.2))) R R R R (r_alloc tb R R R R R (r_alloc tb R R R R R ?_)))))
 refine r_stE _ ([some ⟨4, [.d (WiPlan.d t)]⟩, some ⟨4, [.d (WiState.d o)]⟩, some ⟨3, [.d (Scrubs.d a)]⟩, some ⟨3, [.d (WiWindow.d e)]⟩, some (lWiTurnd lv), some (lvI rv7.1.used), some (lvI rv7.1.credit), some (lvI rv7.1.last), some ⟨4, [WiState_T1 rv7.1 5 6 7]⟩, some ⟨4, [.d (.agg [.v (.int .i64 0), .v (.int .i64 0), .v (.int .i64 0), .v (.int .i64 0)])]⟩]) tb R R R R R R R R R R R R ?_
 refine r_stE _ ([some ⟨4, [.d (WiPlan.d t)]⟩, some ⟨4, [.d (WiState.d o)]⟩, some ⟨3, [.d (Scrubs.d a)]⟩, some ⟨3, [.d (WiWindow.d e)]⟩, some (lWiTurnd lv), some (lvI rv7.1.used), some (lvI rv7.1.credit), some (lvI rv7.1.last), some ⟨4, [WiState_T1 rv7.1 5 6 7]⟩, some ⟨4, [.d (WiUse.d rv7.2.1)]⟩]) tb R R R R R R R R R R R R (r_asgD R R R (eN (sw_seq (qG (r_movD R R R ?_)))))
 refine r_neq R R R R ?_ ?_
 ·intro c11
  replace h := ifN c11 h
  refine r_movD R R R (r_skip R R R (r_skip R R R (r_skip R R R (r_skip R R R (r_skip R R R (r_pickT R R R R (eN (sw_condT R (qG (r_asgD R R R (eN (sw_ret (then_ret ?_)))))))))))))
  obtain rfl := sI h
  exact fin_0 (t := .d (.v (.bool false))) R R R (.cons (.tmp 6) .nil)
 intro c11
 replace h := ifP c11 h
 refine r_movD R R R (r_ldD (y := WiUse.d rv7.2.1) tb R R R R R R R R R (r_fa tb R R R R R R R (r_ldD (y := .v (.int .i64 o.next)) tb R R R R R R R R R (r_build (v := .d (.agg [.v (.int .i64 o.next), .v (.int .i64 (-1)), .v (.int .i64 0), .v (.int .i64 (-1))])) tb R R (List.cons_ne_nil _ _) R R R R R R ?_))))
 refine r_neqA (p := [.int .i64 rv7.2.1.window, .int .i64 rv7.2.1.team, .int .i64 rv7.2.1.at_, .int .i64 rv7.2.1.by_]) (q := [.int .i64 o.next, .int .i64 (-1), .int .i64 0, .int .i64 (-1)]) R R (fun o1 o2 w => ne44 rv7.2.1 (WiUse.mk o.next (-1) 0 (-1)) o1 o2 w) R R ?_
 with_reducible apply ev_lit
 ·intro c12
  replace h := ifP c12 h
  refine r_pickF R R R R (eN (sw_condT R (qG (r_asgD R R R (eN (sw_ret (then_ret ?_)))))))
  obtain rfl := sI h
  exact fin_0 (t := .d (.v (.bool false))) R R R (.cons (.tmp 6) .nil)
 intro c12
 replace h := ifF c12 h
 refine r_pickF R R R R (eN (sw_condF R (sw_skip (then_norm (qG (r_ldD (y := WiState.d o) tb R R R R R R R R R (r_alloc tb R R R R R (r_stE _ ([some ⟨4, [.d (WiPlan.d t)]⟩, some ⟨4, [.d (WiState.d o)]⟩, some ⟨3, [.d (Scrubs.d a)]⟩, some ⟨3, [.d (WiWindow.d e)]⟩, some (lWiTurnd lv), some (lvI rv7.1.used), some (lvI rv7.1.credit), some (lvI rv7.1.last), some ⟨4, [WiState_T1 rv7.1 5 6 7]⟩, some ⟨4, [.d (WiUse.d rv7.2.1)]⟩, some ⟨4, [.d (WiState.d o)]⟩]) tb R R R R R R R R R R R R (eN (qG ?_))))))))))
 refine r_fa tb R R R R R R R (r_ldD (y := .v (.int .i64 o.next)) tb R R R R R R R R R (r_add R R R R (r_fa tb R R R R R R R (r_stE _ ([some ⟨4, [.d (WiPlan.d t)]⟩, some ⟨4, [.d (WiState.d o)]⟩, some ⟨3, [.d (Scrubs.d a)]⟩, some ⟨3, [.d (WiWindow.d e)]⟩, some (lWiTurnd lv), some (lvI rv7.1.used), some (lvI rv7.1.credit), some (lvI rv7.1.last), some ⟨4, [WiState_T1 rv7.1 5 6 7]⟩, some ⟨4, [.d (WiUse.d rv7.2.1)]⟩, some ⟨4, [.d (WiState.d {o with next := (W (o.next + 1))})]⟩]) tb R R R R R R R R R R R R ?_))))
 refine eN (qG (r_ldG tb R R R R R R R R R (r_ldD (y := WiState.d {o with next := (W (o.next + 1))}) tb R R R R R R R R R ?_)))
 obtain ⟨rv8, hrv8, h⟩ := bnd h
 refine r_callLB (r_SameState_pc hrv8) (.of (by kernel_rfl)) R R ((.cons (.aggL (.cons (.row R R) (.cons (.row R R) (.cons (.row R R) (.cons (.d _) .nil))))) (.cons (.d _) .nil))) R R ?_ ?_
 ·intro c13
  replace h := ifP c13 h
  refine r_movD R R R (r_movW R R R (r_lenR tb R R R R R (r_fa tb R R R R R R R (r_ldD (y := .arr 9 ((t.teams).map WiTeam.d)) tb R R R R R R R R R (r_lenM tb R R R R R ?_)))))
  refine r_leq R R R R ?_ ?_
  ·intro c14
   replace h := ifP c14 h
   refine r_pickT R R R R (r_movD R R R ?_)
   obtain ⟨rv9, hrv9, h⟩ := bnd h
   refine r_call (l_Awake_pc hrv9) (.of (by kernel_rfl)) R R R R (r_pickT R R R R (r_asgD R R R (eN (sw_ret ?_))))
   obtain rfl := sI h
   exact fin_0 (t := .d (.v (.bool rv9))) R R R (.cons (.tmp 6) .nil)
  intro c14
  replace h := ifN (Int.not_le.2 c14) h
  refine r_pickT R R R R (r_movD R R R (r_skip R R R (r_pickF R R R R (r_asgD R R R (eN (sw_ret ?_))))))
  obtain rfl := sI h
  exact fin_0 (t := .d (.v (.bool false))) R R R (.cons (.tmp 6) .nil)
 intro c13
 replace h := ifF c13 h
 refine r_movD R R R (r_skip R R R (r_skip R R R (r_skip R R R (r_skip R R R (r_skip R R R (r_skip R R R (r_pickF R R R R (r_movD R R R (r_skip R R R (r_pickF R R R R (r_asgD R R R (eN (sw_ret ?_)))))))))))))
 obtain rfl := sI h
 exact fin_0 (t := .d (.v (.bool false))) R R R (.cons (.tmp 6) .nil)
end Go.Proofs.Ytdefnmcjmklohaa
