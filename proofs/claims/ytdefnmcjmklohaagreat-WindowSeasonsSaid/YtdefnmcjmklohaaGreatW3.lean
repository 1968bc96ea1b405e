/- What functions of the program compute: plain functions, and the proofs. -/
import Derived.Test.YtdefnmcjmklohaaGreatW2
open Go Go.Proofs.YtdefnmcjmklohaaGreat.Sh Go.Proofs
namespace Go.Proofs.YtdefnmcjmklohaaGreat
set_option linter.unusedVariables false
set_option linter.unusedSimpArgs false
set_option maxRecDepth 100000
set_option maxHeartbeats 4000000
def r_team_L1 (F : Nat) (e : WiTeam) (K : Int → Option Int) : Nat → Int → Option Int
 | 0, _ => none
 | n + 1, x => if x < (e.away.length : Int) then (Option.bind (ixO e.away x) fun e3 => Option.bind (r_in F e3.lo 0 3650) fun rv9 => if rv9 = true then (Option.bind (r_in F e3.hi e3.lo 3650) fun rv10 => if rv10 = true then (if 0 < x then (Option.bind (ixO e.away (W (x - 1))) fun e4 => if e3.lo ≤ e4.hi then (some 2) else (r_team_L1 F e K n (W (x + 1)))) else (r_team_L1 F e K n (W (x + 1)))) else (some 2)) else (some 2)) else (K x)
def r_team_L2 (F : Nat) (t : WiPlan) (o : Int) (e : WiTeam) (K : Int → Option Int) : Nat → Int → Option Int
 | 0, _ => none
 | n + 1, y => if y < o then (Option.bind (ixO t.teams y) fun e2 => if e2.name.toList = e.name.toList then (some 5) else (r_team_L2 F t o e K n (W (y + 1)))) else (K y)
def r_team (F : Nat) (t : WiPlan) (o : Int) : Option Int := Option.bind (ixO t.teams o) fun e => Option.bind (r1_Name F e.name) fun rv => if rv = true then (r_team_L2 F t o e (fun (y : Int) => Option.bind (r_in F e.priority 1 9) fun rv2 => if rv2 = true then (Option.bind (r_in F e.need 0 100) fun rv3 => if rv3 = true then (Option.bind (r_in F e.credit 0 100000) fun rv4 => if rv4 = true then (Option.bind (r_in F e.wind 0 1000) fun rv5 => if rv5 = true then (Option.bind (r_in F e.rest 0 100) fun rv6 => if rv6 = true then (Option.bind (r_in F e.setup 1 1440) fun rv7 => if rv7 = true then (Option.bind (r_kinds F e.kinds) fun rv8 => if rv8 = true then (if 10 < (e.away.length : Int) then (some 3) else (r_team_L1 F e (fun (x : Int) => some 0) F 0)) else (some 2)) else (some 7)) else (some 7)) else (some 7)) else (some 7)) else (some 7)) else (some 7)) F 0) else (some 6)
theorem r_team_pc {F : Nat} {t : WiPlan} {o : Int} {r : Int} (h : r_team F t o = some r) : PC Tryz.prog 42 [WiPlan.d t, .v (.int .i64 o)] (.v (.int .i64 r)) := by
 rw [r_team] at h
 refine SC.of_sw Tryz.func42 R R R ?_
 dsimp only [argS, List.map]
 refine qG (r_box R R R R R R R (r_asgD R R R (eN (qG (r_fa tb R R R R R R R (r_ldD (y := .arr 9 ((t.teams).map WiTeam.d)) tb R R R R R R R R R (r_movD R R R ?_)))))))
 obtain ⟨e, ie, h⟩ := bnd h
 refine r_ixE tb R R R R R R (ix0 ie) (ix1m ie) R R (r_ldE (y := WiTeam.d e) tb R R (ix2 (g := WiTeam.d) ie) R R R R (r_alloc tb R R R R R (r_stE _ ([some ⟨4, [.d (WiPlan.d t)]⟩, some ⟨9, [.d (WiTeam.d e)]⟩]) tb R R R R R R R R R R R R (eN (sw_seq (qG (r_fa tb R R R R R R R (r_ldD (y := .v (.string e.name)) tb R R R R R R R R R ?_))))))))
 obtain ⟨rv, hrv, h⟩ := bnd h
 refine r_callB (r1_Name_pc hrv) (.of (by kernel_rfl)) R R R R ?_ ?_
 ·intro c
  replace h := ifP c h
  refine r_notT R R R (eN (sw_condF R (sw_skip (then_norm (sw_seq (qG (r_asgD R R R (eN (sw_block ?_)))))))))
  obtain ⟨K2, hK2, h⟩ : ∃ K, K = _ ∧ r_team_L2 F t o e K F 0 = some r := ⟨_, rfl, h⟩
  refine sw_loop (st0 := ⟨[(1, .d (.v (.int .i64 o))), (2, .ref 0 4 0 0), (4, .d (.v (.int .i64 0))), (5, .ref 1 9 0 0), (6, .d (.v (.int .i64 0)))], [some ⟨4, [.d (WiPlan.d t)]⟩, some ⟨9, [.d (WiTeam.d e)]⟩]⟩) (κ := [0, 1]) (fun m st => ∃ (y : Int), r_team_L2 F t o e K2 m y = some r ∧ st = ⟨[(1, .d (.v (.int .i64 o))), (2, .ref 0 4 0 0), (4, .d (.v (.int .i64 0))), (5, .ref 1 9 0 0), (6, .d (.v (.int .i64 y)))], [some ⟨4, [.d (WiPlan.d t)]⟩, some ⟨9, [.d (WiTeam.d e)]⟩]⟩) (vwK R R (.cons R R (.cons R R .nil)) (.cons R R (.cons R R (.cons R R (.cons R R (.cons R R .nil)))))) ⟨0, h, R⟩ ?_
  clear h
  rintro m2 st ⟨y, h, rfl⟩
  cases m2 with
  | zero => cases (show (none : Option Int) = some r from h)
  | succ m2 =>
  rw [r_team_L2] at h
  refine sw_seq (qG (r_movD R R R (r_movD R R R ?_)))
  refine r_lss R R R R ?_ ?_
  ·intro c2
   replace h := ifP c2 h
   refine eN (sw_condT R (sw_skip (then_norm (sw_seq (sw_block (sw_seq (sw_dr (by kernel_rfl) (r_fa tb R R R R R R R (r_ldD (y := .arr 9 ((t.teams).map WiTeam.d)) tb R R R R R R R R R (r_movD R R R ?_))))))))))
   obtain ⟨e2, ie2, h⟩ := bnd h
   refine r_ixE tb R R R R R R (ix0 ie2) (ix1m ie2) R R (r_faE tb R R R R R R R (r_ldE (y := .v (.string e2.name)) tb R R (ix2 (g := WiTeam.d) ie2) R R R R (r_fa tb R R R R R R R (r_ldD (y := .v (.string e.name)) tb R R R R R R R R R ?_))))
   refine r_streql R R R R ?_ ?_
   ·intro c3
    replace h := ifP c3 h
    refine ev_endD (by kernel_rfl) (then_norm (sw_condT R (qG (r_asgD R R R (eN (sw_ret (block_ret (then_ret (then_ret (block_ret (then_ret ?_)))))))))))
    obtain rfl := sI h
    exact fin_0 (t := .d (.v (.int .i64 5))) R R R (.cons (.tmp 4) .nil)
   intro c3
   replace h := ifN c3 h
   refine ev_endD (by kernel_rfl) (then_norm (sw_condF R (sw_skip (block_norm (then_norm (sw_rg (r_movD R R R (r_add R R R R (r_asgD R R R (eN ?_))))))))))
   exact ⟨m2, ⟨[(1, .d (.v (.int .i64 o))), (2, .ref 0 4 0 0), (4, .d (.v (.int .i64 0))), (5, .ref 1 9 0 0), (6, .d (.v (.int .i64 (W (y + 1)))))], [some ⟨4, [.d (WiPlan.d t)]⟩, some ⟨9, [.d (WiTeam.d e)]⟩]⟩, [0, 1], Nat.lt_succ_self _, (vwK R R (.cons R R (.cons R R .nil)) (.cons R R (.cons R R (.cons R R (.cons R R (.cons R R .nil)))))), (W (y + 1)), h, R⟩
  intro c2
  replace h := ifN (Int.not_lt.2 c2) h
  refine eN (sw_condF R (sw_exit (then_exit (then_exit ?_))))
  subst hK2
  refine block_exit (then_norm (sw_seq (qG (r_fa tb R R R R R R R (r_ldD (y := .v (.int .i64 e.priority)) tb R R R R R R R R R ?_)))))
  obtain ⟨rv2, hrv2, h⟩ := bnd h
  refine r_callB (r_in_pc hrv2) (.of (by kernel_rfl)) R R R R ?_ ?_
  ·intro c4
   replace h := ifP c4 h
   refine r_notT R R R (r_movD R R R (r_fa tb R R R R R R R (r_ldD (y := .v (.int .i64 e.need)) tb R R R R R R R R R ?_)))
   obtain ⟨rv3, hrv3, h⟩ := bnd h
   refine r_callB (r_in_pc hrv3) (.of (by kernel_rfl)) R R R R ?_ ?_
   ·intro c5
    replace h := ifP c5 h
    refine r_notT R R R (r_pickF R R R R (r_movD R R R (r_fa tb R R R R R R R (r_ldD (y := .v (.int .i64 e.credit)) tb R R R R R R R R R ?_))))
    obtain ⟨rv4, hrv4, h⟩ := bnd h
    refine r_callB (r_in_pc hrv4) (.of (by kernel_rfl)) R R R R ?_ ?_
    ·intro c6
     replace h := ifP c6 h
     refine r_notT R R R (r_pickF R R R R (r_movD R R R (r_fa tb R R R R R R R (r_ldD (y := .v (.int .i64 e.wind)) tb R R R R R R R R R ?_))))
     obtain ⟨rv5, hrv5, h⟩ := bnd h
     refine r_callB (r_in_pc hrv5) (.of (by kernel_rfl)) R R R R ?_ ?_
     ·intro c7
      replace h := ifP c7 h
      refine r_notT R R R (r_pickF R R R R (r_movD R R R (r_fa tb R R R R R R R (r_ldD (y := .v (.int .i64 e.rest)) tb R R R R R R R R R ?_))))
      obtain ⟨rv6, hrv6, h⟩ := bnd h
      refine r_callB (r_in_pc hrv6) (.of (by kernel_rfl)) R R R R ?_ ?_
      ·intro c8
       replace h := ifP c8 h
       refine r_notT R R R (r_pickF R R R R (r_movD R R R (r_fa tb R R R R R R R (r_ldD (y := .v (.int .i64 e.setup)) tb R R R R R R R R R ?_))))
       obtain ⟨rv7, hrv7, h⟩ := bnd h
       refine r_callB (r_in_pc hrv7) (.of (by kernel_rfl)) R R R R ?_ ?_
       ·intro c9
        replace h := ifP c9 h
        refine r_notT R R R (r_pickF R R R R (eN (sw_condF R (sw_skip (then_norm (sw_seq (qG (r_fa tb R R R R R R R (r_ldD (y := .arr 1 ((e.kinds).map vI)) tb R R R R R R R R R ?_)))))))))
        obtain ⟨rv8, hrv8, h⟩ := bnd h
        refine r_callB (r_kinds_pc hrv8) (.of (by kernel_rfl)) R R R R ?_ ?_
        ·intro c10
         replace h := ifP c10 h
         refine r_notT R R R (eN (sw_condF R (sw_skip (then_norm (sw_seq (qG (r_fa tb R R R R R R R (r_ldD (y := .arr 2 ((e.away).map Span.d)) tb R R R R R R R R R (r_lenM tb R R R R R ?_)))))))))
         refine r_gtr R R R R ?_ ?_
         ·intro c11
          replace h := ifP c11 h
          refine eN (sw_condT R (qG (r_asgD R R R (eN (sw_ret (then_ret ?_))))))
          obtain rfl := sI h
          exact fin_0 (t := .d (.v (.int .i64 3))) R R R (.cons (.tmp 4) .nil)
         intro c11
         replace h := ifN (Int.not_lt.2 c11) h
         refine eN (sw_condF R (sw_skip (then_norm (sw_seq (qG (r_asgD R R R (eN (sw_block ?_))))))))
         obtain ⟨K4, hK4, h⟩ : ∃ K, K = _ ∧ r_team_L1 F e K F 0 = some r := ⟨_, rfl, h⟩
         refine sw_loop (st0 := ⟨[(4, .d (.v (.int .i64 0))), (5, .ref 0 9 0 0), (7, .d (.v (.int .i64 0)))], [some ⟨9, [.d (WiTeam.d e)]⟩]⟩) (κ := [1]) (fun m st => ∃ (x : Int), r_team_L1 F e K4 m x = some r ∧ st = ⟨[(4, .d (.v (.int .i64 0))), (5, .ref 0 9 0 0), (7, .d (.v (.int .i64 x)))], [some ⟨9, [.d (WiTeam.d e)]⟩]⟩) (vwK R R (.cons R R .nil) (.cons R R (.cons R R (.cons R R .nil)))) ⟨0, h, R⟩ ?_
         clear h
         rintro m4 st ⟨x, h, rfl⟩
         cases m4 with
         | zero => cases (show (none : Option Int) = some r from h)
         | succ m4 =>
         rw [r_team_L1] at h
         refine sw_seq (qG (r_movD R R R (r_fa tb R R R R R R R (r_ldD (y := .arr 2 ((e.away).map Span.d)) tb R R R R R R R R R (r_lenM tb R R R R R ?_)))))
         refine r_lss R R R R ?_ ?_
         ·intro c12
          replace h := ifP c12 h
          refine eN (sw_condT R (sw_skip (then_norm (sw_seq (sw_block (qG (r_fa tb R R R R R R R (r_ldD (y := .arr 2 ((e.away).map Span.d)) tb R R R R R R R R R (r_movD R R R ?_)))))))))
          obtain ⟨e3, ie3, h⟩ := bnd h
          refine r_ixE tb R R R R R R (ix0 ie3) (ix1m ie3) R R (r_ldE (y := Span.d e3) tb R R (ix2 (g := Span.d) ie3) R R R R (r_alloc tb R R R R R (r_stE _ ([some ⟨9, [.d (WiTeam.d e)]⟩, some ⟨2, [.d (Span.d e3)]⟩]) tb R R R R R R R R R R R R (eN (sw_seq (sw_dr (by kernel_rfl) (r_fa tb R R R R R R R (r_ldD (y := .v (.int .i64 e3.lo)) tb R R R R R R R R R ?_))))))))
          obtain ⟨rv9, hrv9, h⟩ := bnd h
          refine r_callB (r_in_pc hrv9) (.of (by kernel_rfl)) R R R R ?_ ?_
          ·intro c13
           replace h := ifP c13 h
           refine r_notT R R R (r_movD R R R (r_fa tb R R R R R R R (r_ldD (y := .v (.int .i64 e3.hi)) tb R R R R R R R R R (r_fa tb R R R R R R R (r_ldD (y := .v (.int .i64 e3.lo)) tb R R R R R R R R R ?_)))))
           obtain ⟨rv10, hrv10, h⟩ := bnd h
           refine r_callB (r_in_pc hrv10) (.of (by kernel_rfl)) R R R R ?_ ?_
           ·intro c14
            replace h := ifP c14 h
            refine r_notT R R R (r_pickF R R R R (r_movD R R R (r_movD R R R ?_)))
            refine r_gtr R R R R ?_ ?_
            ·intro c15
             replace h := ifP c15 h
             refine r_movD R R R (r_fa tb R R R R R R R (r_ldD (y := .v (.int .i64 e3.lo)) tb R R R R R R R R R (r_fa tb R R R R R R R (r_ldD (y := .arr 2 ((e.away).map Span.d)) tb R R R R R R R R R (r_movD R R R (r_sub R R R R ?_))))))
             obtain ⟨e4, ie4, h⟩ := bnd h
             refine r_ixE tb R R R R R R (ix0 ie4) (ix1m ie4) R R (r_faE tb R R R R R R R (r_ldE (y := .v (.int .i64 e4.hi)) tb R R (ix2 (g := Span.d) ie4) R R R R ?_))
             refine r_leq R R R R ?_ ?_
             ·intro c16
              replace h := ifP c16 h
              refine r_pickT R R R R (r_pickF R R R R (ev_endD (by kernel_rfl) (then_norm (sw_condT R (qG (r_asgD R R R (eN (sw_ret (block_ret (then_ret (then_ret (block_ret (then_ret ?_)))))))))))))
              obtain rfl := sI h
              exact fin_0 (t := .d (.v (.int .i64 2))) R R R (.cons (.tmp 4) .nil)
             intro c16
             replace h := ifN (Int.not_le.2 c16) h
             refine r_pickT R R R R (r_pickF R R R R (ev_endD (by kernel_rfl) (then_norm (sw_condF R (sw_skip (block_norm (then_norm (sw_rg (r_movD R R R (r_add R R R R (r_asgD R R R (eN ?_))))))))))))
             exact ⟨m4, ⟨[(4, .d (.v (.int .i64 0))), (5, .ref 0 9 0 0), (7, .d (.v (.int .i64 (W (x + 1)))))], [some ⟨9, [.d (WiTeam.d e)]⟩]⟩, [0], Nat.lt_succ_self _, (vwK R R (.cons R R .nil) (.cons R R (.cons R R (.cons R R .nil)))), (W (x + 1)), h, R⟩
            intro c15
            replace h := ifN (Int.not_lt.2 c15) h
            refine r_movD R R R (r_skip R R R (r_skip R R R (r_skip R R R (r_skip R R R (r_skip R R R (r_skip R R R (r_skip R R R (r_skip R R R (r_skip R R R (r_skip R R R (r_pickF R R R R (r_pickF R R R R (ev_endD (by kernel_rfl) (then_norm (sw_condF R (sw_skip (block_norm (then_norm (sw_rg (r_movD R R R (r_add R R R R (r_asgD R R R (eN ?_)))))))))))))))))))))))
            exact ⟨m4, ⟨[(4, .d (.v (.int .i64 0))), (5, .ref 0 9 0 0), (7, .d (.v (.int .i64 (W (x + 1)))))], [some ⟨9, [.d (WiTeam.d e)]⟩]⟩, [0], Nat.lt_succ_self _, (vwK R R (.cons R R .nil) (.cons R R (.cons R R (.cons R R .nil)))), (W (x + 1)), h, R⟩
           intro c14
           replace h := ifF c14 h
           refine r_notF R R R (r_pickF R R R R (r_movD R R R (r_skip R R R (r_skip R R R (r_skip R R R (r_skip R R R (r_skip R R R (r_skip R R R (r_skip R R R (r_skip R R R (r_skip R R R (r_skip R R R (r_skip R R R (r_skip R R R (r_skip R R R (r_skip R R R (r_pickT R R R R (ev_endD (by kernel_rfl) (then_norm (sw_condT R (qG (r_asgD R R R (eN (sw_ret (block_ret (then_ret (then_ret (block_ret (then_ret ?_)))))))))))))))))))))))))))))
           obtain rfl := sI h
           exact fin_0 (t := .d (.v (.int .i64 2))) R R R (.cons (.tmp 4) .nil)
          intro c13
          replace h := ifF c13 h
          refine r_notF R R R (r_movD R R R (r_skip R R R (r_skip R R R (r_skip R R R (r_skip R R R (r_skip R R R (r_skip R R R (r_pickT R R R R (r_movD R R R (r_skip R R R (r_skip R R R (r_skip R R R (r_skip R R R (r_skip R R R (r_skip R R R (r_skip R R R (r_skip R R R (r_skip R R R (r_skip R R R (r_skip R R R (r_skip R R R (r_skip R R R (r_skip R R R (r_pickT R R R R (ev_endD (by kernel_rfl) (then_norm ?_))))))))))))))))))))))))))
          refine sw_condT R (qG (r_asgD R R R (eN (sw_ret (block_ret (then_ret (then_ret (block_ret (then_ret ?_)))))))))
          obtain rfl := sI h
          exact fin_0 (t := .d (.v (.int .i64 2))) R R R (.cons (.tmp 4) .nil)
         intro c12
         replace h := ifN (Int.not_lt.2 c12) h
         refine eN (sw_condF R (sw_exit (then_exit (then_exit ?_))))
         subst hK4
         refine block_exit (then_norm (qG (r_asgD R R R (eN (sw_ret ?_)))))
         obtain rfl := sI h
         exact fin_0 (t := .d (.v (.int .i64 0))) R R R (.cons (.tmp 4) .nil)
        intro c10
        replace h := ifF c10 h
        refine r_notF R R R (eN (sw_condT R (qG (r_asgD R R R (eN (sw_ret (then_ret ?_)))))))
        obtain rfl := sI h
        exact fin_0 (t := .d (.v (.int .i64 2))) R R R (.cons (.tmp 4) .nil)
       intro c9
       replace h := ifF c9 h
       refine r_notF R R R (r_pickF R R R R (eN (sw_condT R (qG (r_asgD R R R (eN (sw_ret (then_ret ?_))))))))
       obtain rfl := sI h
       exact fin_0 (t := .d (.v (.int .i64 7))) R R R (.cons (.tmp 4) .nil)
      intro c8
      replace h := ifF c8 h
      refine r_notF R R R (r_pickF R R R R (r_movD R R R (r_skip R R R (r_skip R R R (r_skip R R R (r_skip R R R (r_pickT R R R R (eN (sw_condT R (qG (r_asgD R R R (eN (sw_ret (then_ret ?_))))))))))))))
      obtain rfl := sI h
      exact fin_0 (t := .d (.v (.int .i64 7))) R R R (.cons (.tmp 4) .nil)
     intro c7
     replace h := ifF c7 h
     refine r_notF R R R (r_pickF R R R R (r_movD R R R (r_skip R R R (r_skip R R R (r_skip R R R (r_skip R R R (r_pickT R R R R (r_movD R R R (r_skip R R R (r_skip R R R (r_skip R R R (r_skip R R R (r_pickT R R R R (eN (sw_condT R (qG (r_asgD R R R (eN (sw_ret (then_ret ?_))))))))))))))))))))
     obtain rfl := sI h
     exact fin_0 (t := .d (.v (.int .i64 7))) R R R (.cons (.tmp 4) .nil)
    intro c6
    replace h := ifF c6 h
    refine r_notF R R R (r_pickF R R R R (r_movD R R R (r_skip R R R (r_skip R R R (r_skip R R R (r_skip R R R (r_pickT R R R R (r_movD R R R (r_skip R R R (r_skip R R R (r_skip R R R (r_skip R R R (r_pickT R R R R (r_movD R R R (r_skip R R R (r_skip R R R (r_skip R R R (r_skip R R R (r_pickT R R R R (eN (sw_condT R (qG (r_asgD R R R (eN (sw_ret (then_ret ?_))))))))))))))))))))))))))
    obtain rfl := sI h
    exact fin_0 (t := .d (.v (.int .i64 7))) R R R (.cons (.tmp 4) .nil)
   intro c5
   replace h := ifF c5 h
   refine r_notF R R R (r_pickF R R R R (r_movD R R R (r_skip R R R (r_skip R R R (r_skip R R R (r_skip R R R (r_pickT R R R R (r_movD R R R (r_skip R R R (r_skip R R R (r_skip R R R (r_skip R R R (r_pickT R R R R (r_movD R R R (r_skip R R R (r_skip R R R (r_skip R R R (r_skip R R R (r_pickT R R R R (r_movD R R R (r_skip R R R (r_skip R R R (r_skip R R R (r_skip R R R (r_pickT R R R R (eN ?_))))))))))))))))))))))))))
   refine sw_condT R (qG (r_asgD R R R (eN (sw_ret (then_ret ?_)))))
   obtain rfl := sI h
   exact fin_0 (t := .d (.v (.int .i64 7))) R R R (.cons (.tmp 4) .nil)
  intro c4
  replace h := ifF c4 h
  refine r_notF R R R (r_movD R R R (r_skip R R R (r_skip R R R (r_skip R R R (r_skip R R R (r_pickT R R R R (r_movD R R R (r_skip R R R (r_skip R R R (r_skip R R R (r_skip R R R (r_pickT R R R R (r_movD R R R (r_skip R R R (r_skip R R R (r_skip R R R (r_skip R R R (r_pickT R R R R (r_movD R R R (r_skip R R R (r_skip R R R (r_skip R R R (r_skip R R R (r_pickT R R R R (r_movD R R R ?_)))))))))))))))))))))))))
  refine r_skip R R R (r_skip R R R (r_skip R R R (r_skip R R R (r_pickT R R R R (eN (sw_condT R (qG (r_asgD R R R (eN (sw_ret (then_ret ?_)))))))))))
  obtain rfl := sI h
  exact fin_0 (t := .d (.v (.int .i64 7))) R R R (.cons (.tmp 4) .nil)
 intro c
 replace h := ifF c h
 refine r_notF R R R (eN (sw_condT R (qG (r_asgD R R R (eN (sw_ret (then_ret ?_)))))))
 obtain rfl := sI h
 exact fin_0 (t := .d (.v (.int .i64 6))) R R R (.cons (.tmp 4) .nil)
def r_window (F : Nat) (p : WiPlan) (i : Int) : Option Int := Option.bind (ixO p.windows i) fun e => Option.bind (r_in F e.day 0 3650) fun rv => if rv = true then (Option.bind (r_in F e.from_ 0 1440) fun rv2 => if rv2 = true then (Option.bind (r_in F e.until_ (W (e.from_ + 1)) 1440) fun rv3 => if rv3 = true then (if 0 < i then (Option.bind (ixO p.windows (W (i - 1))) fun e2 => if e.day < e2.day then (some 2) else (if e.day = e2.day then (if e.from_ < e2.until_ then (some 2) else (some 0)) else (some 0))) else (some 0)) else (some 7)) else (some 7)) else (some 7)
theorem r_window_pc {F : Nat} {p : WiPlan} {i : Int} {r : Int} (h : r_window F p i = some r) : PC Tryz.prog 43 [WiPlan.d p, .v (.int .i64 i)] (.v (.int .i64 r)) := by
 rw [r_window] at h
 refine SC.of_sw Tryz.func43 R R R ?_
 dsimp only [argS, List.map]
 refine qG (r_box R R R R R R R (r_asgD R R R (eN (qG (r_fa tb R R R R R R R (r_ldD (y := .arr 3 ((p.windows).map WiWindow.d)) tb R R R R R R R R R (r_movD R R R ?_)))))))
 obtain ⟨e, ie, h⟩ := bnd h
 refine r_ixE tb R R R R R R (ix0 ie) (ix1m ie) R R (r_ldE (y := WiWindow.d e) tb R R (ix2 (g := WiWindow.d) ie) R R R R (r_alloc tb R R R R R (r_stE _ ([some ⟨4, [.d (WiPlan.d p)]⟩, some ⟨3, [.d (WiWindow.d e)]⟩]) tb R R R R R R R R R R R R (eN (sw_seq (qG (r_fa tb R R R R R R R (r_ldD (y := .v (.int .i64 e.day)) tb R R R R R R R R R ?_))))))))
 obtain ⟨rv, hrv, h⟩ := bnd h
 refine r_callB (r_in_pc hrv) (.of (by kernel_rfl)) R R R R ?_ ?_
 ·intro c
  replace h := ifP c h
  refine r_notT R R R (r_movD R R R (r_fa tb R R R R R R R (r_ldD (y := .v (.int .i64 e.from_)) tb R R R R R R R R R ?_)))
  obtain ⟨rv2, hrv2, h⟩ := bnd h
  refine r_callB (r_in_pc hrv2) (.of (by kernel_rfl)) R R R R ?_ ?_
  ·intro c2
   replace h := ifP c2 h
   refine r_notT R R R (r_pickF R R R R (r_movD R R R (r_fa tb R R R R R R R (r_ldD (y := .v (.int .i64 e.until_)) tb R R R R R R R R R (r_fa tb R R R R R R R (r_ldD (y := .v (.int .i64 e.from_)) tb R R R R R R R R R (r_add R R R R ?_)))))))
   obtain ⟨rv3, hrv3, h⟩ := bnd h
   refine r_callB (r_in_pc hrv3) (.of (by kernel_rfl)) R R R R ?_ ?_
   ·intro c3
    replace h := ifP c3 h
    refine r_notT R R R (r_pickF R R R R (eN (sw_condF R (sw_skip (then_norm (sw_seq (qG (r_movD R R R ?_))))))))
    refine r_gtr R R R R ?_ ?_
    ·intro c4
     replace h := ifP c4 h
     refine eN (sw_condT R (qG (r_fa tb R R R R R R R (r_ldD (y := .arr 3 ((p.windows).map WiWindow.d)) tb R R R R R R R R R (r_movD R R R (r_sub R R R R ?_))))))
     obtain ⟨e2, ie2, h⟩ := bnd h
     refine r_ixE tb R R R R R R (ix0 ie2) (ix1m ie2) R R (r_ldE (y := WiWindow.d e2) tb R R (ix2 (g := WiWindow.d) ie2) R R R R (r_alloc tb R R R R R (r_stE _ ([some ⟨4, [.d (WiPlan.d p)]⟩, some ⟨3, [.d (WiWindow.d e)]⟩, some ⟨3, [.d (WiWindow.d e2)]⟩]) tb R R R R R R R R R R R R (eN (qG (r_fa tb R R R R R R R (r_ldD (y := .v (.int .i64 e.day)) tb R R R R R R R R R (r_fa tb R R R R R R R (r_ldD (y := .v (.int .i64 e2.day)) tb R R R R R R R R R ?_)))))))))
     refine r_lss R R R R ?_ ?_
     ·intro c5
      replace h := ifP c5 h
      refine r_movD R R R (r_skip R R R (r_skip R R R (r_skip R R R (r_skip R R R (r_skip R R R (r_skip R R R (r_skip R R R (r_skip R R R (r_skip R R R (r_skip R R R (r_skip R R R (r_skip R R R (r_pickT R R R R (eN (sw_condT R (qG (r_asgD R R R (eN (sw_ret (then_ret ?_))))))))))))))))))))
      obtain rfl := sI h
      exact fin_0 (t := .d (.v (.int .i64 2))) R R R (.cons (.tmp 4) .nil)
     intro c5
     replace h := ifN (Int.not_lt.2 c5) h
     refine r_movD R R R (r_fa tb R R R R R R R (r_ldD (y := .v (.int .i64 e.day)) tb R R R R R R R R R (r_fa tb R R R R R R R (r_ldD (y := .v (.int .i64 e2.day)) tb R R R R R R R R R ?_))))
     refine r_eql R R R R ?_ ?_
     ·intro c6
      replace h := ifP c6 h
      refine r_movD R R R (r_fa tb R R R R R R R (r_ldD (y := .v (.int .i64 e.from_)) tb R R R R R R R R R (r_fa tb R R R R R R R (r_ldD (y := .v (.int .i64 e2.until_)) tb R R R R R R R R R ?_))))
      refine r_lss R R R R ?_ ?_
      ·intro c7
       replace h := ifP c7 h
       refine r_pickT R R R R (r_pickF R R R R (eN (sw_condT R (qG (r_asgD R R R (eN (sw_ret (then_ret ?_))))))))
       obtain rfl := sI h
       exact fin_0 (t := .d (.v (.int .i64 2))) R R R (.cons (.tmp 4) .nil)
      intro c7
      replace h := ifN (Int.not_lt.2 c7) h
      refine r_pickT R R R R (r_pickF R R R R (eN (sw_condF R (sw_skip (then_norm (qG (r_asgD R R R (eN (sw_ret ?_)))))))))
      obtain rfl := sI h
      exact fin_0 (t := .d (.v (.int .i64 0))) R R R (.cons (.tmp 4) .nil)
     intro c6
     replace h := ifN c6 h
     refine r_movD R R R (r_skip R R R (r_skip R R R (r_skip R R R (r_skip R R R (r_skip R R R (r_pickF R R R R (r_pickF R R R R (eN (sw_condF R (sw_skip (then_norm (qG (r_asgD R R R (eN (sw_ret ?_)))))))))))))))
     obtain rfl := sI h
     exact fin_0 (t := .d (.v (.int .i64 0))) R R R (.cons (.tmp 4) .nil)
    intro c4
    replace h := ifN (Int.not_lt.2 c4) h
    refine eN (sw_condF R (sw_skip (then_norm (qG (r_asgD R R R (eN (sw_ret ?_)))))))
    obtain rfl := sI h
    exact fin_0 (t := .d (.v (.int .i64 0))) R R R (.cons (.tmp 4) .nil)
   intro c3
   replace h := ifF c3 h
   refine r_notF R R R (r_pickF R R R R (eN (sw_condT R (qG (r_asgD R R R (eN (sw_ret (then_ret ?_))))))))
   obtain rfl := sI h
   exact fin_0 (t := .d (.v (.int .i64 7))) R R R (.cons (.tmp 4) .nil)
  intro c2
  replace h := ifF c2 h
  refine r_notF R R R (r_pickF R R R R (r_movD R R R (r_skip R R R (r_skip R R R (r_skip R R R (r_skip R R R (r_skip R R R (r_skip R R R (r_skip R R R (r_pickT R R R R (eN (sw_condT R (qG (r_asgD R R R (eN (sw_ret (then_ret ?_)))))))))))))))))
  obtain rfl := sI h
  exact fin_0 (t := .d (.v (.int .i64 7))) R R R (.cons (.tmp 4) .nil)
 intro c
 replace h := ifF c h
 refine r_notF R R R (r_movD R R R (r_skip R R R (r_skip R R R (r_skip R R R (r_skip R R R (r_pickT R R R R (r_movD R R R (r_skip R R R (r_skip R R R (r_skip R R R (r_skip R R R (r_skip R R R (r_skip R R R (r_skip R R R (r_pickT R R R R (eN (sw_condT R (qG (r_asgD R R R (eN (sw_ret (then_ret ?_))))))))))))))))))))))
 obtain rfl := sI h
 exact fin_0 (t := .d (.v (.int .i64 7))) R R R (.cons (.tmp 4) .nil)
def r_Check_L1 (F : Nat) (p : WiPlan) (K : Int → Option (Int × Int × Int)) : Nat → Int → Option (Int × Int × Int)
 | 0, _ => none
 | n + 1, i2 => if i2 < (p.windows.length : Int) then (Option.bind (r_window F p i2) fun rv5 => if rv5 = 0 then (r_Check_L1 F p K n (W (i2 + 1))) else (some (3, i2, rv5))) else (K i2)
def r_Check_L2 (F : Nat) (p : WiPlan) (K : Int → Option (Int × Int × Int)) : Nat → Int → Option (Int × Int × Int)
 | 0, _ => none
 | n + 1, i => if i < (p.teams.length : Int) then (Option.bind (r_team F p i) fun rv4 => if rv4 = 0 then (r_Check_L2 F p K n (W (i + 1))) else (some (2, i, rv4))) else (K i)
def r_Check (F : Nat) (p : WiPlan) : Option (Int × Int × Int) := Option.bind (r_in F (p.teams.length : Int) 1 8) fun rv => if rv = true then (Option.bind (r_in F p.cost 0 100) fun rv2 => if rv2 = true then (Option.bind (r_in F p.gift 0 100) fun rv3 => if rv3 = true then (r_Check_L2 F p (fun (i : Int) => if 60 < (p.windows.length : Int) then (some (3, 0, 3)) else (r_Check_L1 F p (fun (i2 : Int) => some (0, 0, 0)) F 0)) F 0) else (some (1, 0, 7))) else (some (1, 0, 7))) else (some (1, 0, 3))
theorem r_Check_pc {F : Nat} {p : WiPlan} {r : (Int × Int × Int)} (h : r_Check F p = some r) : PC Tryz.prog 24 [WiPlan.d p] (.tup [.v (.int .i64 r.1), .v (.int .i64 r.2.1), .v (.int .i64 r.2.2)]) := by
 rw [r_Check] at h
 refine SC.of_sw Tryz.func24 R R R ?_
 dsimp only [argS, List.map]
 refine qG (r_box R R R R R R R (r_asgD R R R (r_asgD R R R (r_asgD R R R (eN (sw_seq (qG (r_fa tb R R R R R R R (r_ldD (y := .arr 9 ((p.teams).map WiTeam.d)) tb R R R R R R R R R (r_lenM tb R R R R R ?_))))))))))
 obtain ⟨rv, hrv, h⟩ := bnd h
 refine r_callB (r_in_pc hrv) (.of (by kernel_rfl)) R R R R ?_ ?_
 ·intro c
  replace h := ifP c h
  refine r_notT R R R (eN (sw_condF R (sw_skip (then_norm (sw_seq (qG (r_fa tb R R R R R R R (r_ldD (y := .v (.int .i64 p.cost)) tb R R R R R R R R R ?_))))))))
  obtain ⟨rv2, hrv2, h⟩ := bnd h
  refine r_callB (r_in_pc hrv2) (.of (by kernel_rfl)) R R R R ?_ ?_
  ·intro c2
   replace h := ifP c2 h
   refine r_notT R R R (r_movD R R R (r_fa tb R R R R R R R (r_ldD (y := .v (.int .i64 p.gift)) tb R R R R R R R R R ?_)))
   obtain ⟨rv3, hrv3, h⟩ := bnd h
   refine r_callB (r_in_pc hrv3) (.of (by kernel_rfl)) R R R R ?_ ?_
   ·intro c3
    replace h := ifP c3 h
    refine r_notT R R R (r_pickF R R R R (eN (sw_condF R (sw_skip (then_norm (sw_seq (qG (r_asgD R R R (eN (sw_block ?_))))))))))
    obtain ⟨K2, hK2, h⟩ : ∃ K, K = _ ∧ r_Check_L2 F p K F 0 = some r := ⟨_, rfl, h⟩
    refine sw_loop (st0 := ⟨[(1, .ref 0 4 0 0), (2, .d (.v (.int .i64 0))), (3, .d (.v (.int .i64 0))), (4, .d (.v (.int .i64 0))), (5, .d (.v (.int .i64 0)))], [some ⟨4, [.d (WiPlan.d p)]⟩]⟩) (κ := [0]) (fun m st => ∃ (i : Int), r_Check_L2 F p K2 m i = some r ∧ st = ⟨[(1, .ref 0 4 0 0), (2, .d (.v (.int .i64 0))), (3, .d (.v (.int .i64 0))), (4, .d (.v (.int .i64 0))), (5, .d (.v (.int .i64 i)))], [some ⟨4, [.d (WiPlan.d p)]⟩]⟩) (vwK R R (.cons R R .nil) (.cons R R (.cons R R (.cons R R (.cons R R (.cons R R .nil)))))) ⟨0, h, R⟩ ?_
    clear h
    rintro m2 st ⟨i, h, rfl⟩
    cases m2 with
    | zero => cases (show (none : Option (Int × Int × Int)) = some r from h)
    | succ m2 =>
    rw [r_Check_L2] at h
    refine sw_seq (qG (r_movD R R R (r_fa tb R R R R R R R (r_ldD (y := .arr 9 ((p.teams).map WiTeam.d)) tb R R R R R R R R R (r_lenM tb R R R R R ?_)))))
    refine r_lss R R R R ?_ ?_
    ·intro c4
     replace h := ifP c4 h
     refine eN (sw_condT R (sw_skip (then_norm (sw_seq (sw_block (qG (r_ldD (y := WiPlan.d p) tb R R R R R R R R R (r_movD R R R ?_))))))))
     obtain ⟨rv4, hrv4, h⟩ := bnd h
     refine r_call (r_team_pc hrv4) (.of (by kernel_rfl)) R R R R (r_asgD R R R (eN (qG (r_movD R R R ?_))))
     refine r_neq R R R R ?_ ?_
     ·intro c5
      replace h := ifN c5 h
      refine eN (sw_condT R (qG (r_movD R R R (r_movD R R R (r_asgD R R R (r_asgD R R R (r_asgD R R R (eN (sw_ret (block_ret (then_ret (then_ret (block_ret (then_ret ?_))))))))))))))
      obtain rfl := sI h
      exact fin_0 (t := .d (.tup [.v (.int .i64 2), .v (.int .i64 i), .v (.int .i64 rv4)])) R R R (.cons (.tmp 2) (.cons (.tmp 3) (.cons (.tmp 4) .nil)))
     intro c5
     replace h := ifP c5 h
     refine eN (sw_condF R (sw_skip (block_norm (then_norm (sw_rg (r_movD R R R (r_add R R R R (r_asgD R R R (eN ?_)))))))))
     exact ⟨m2, ⟨[(1, .ref 0 4 0 0), (2, .d (.v (.int .i64 0))), (3, .d (.v (.int .i64 0))), (4, .d (.v (.int .i64 0))), (5, .d (.v (.int .i64 (W (i + 1)))))], [some ⟨4, [.d (WiPlan.d p)]⟩]⟩, [0], Nat.lt_succ_self _, (vwK R R (.cons R R .nil) (.cons R R (.cons R R (.cons R R (.cons R R (.cons R R .nil)))))), (W (i + 1)), h, R⟩
    intro c4
    replace h := ifN (Int.not_lt.2 c4) h
    refine eN (sw_condF R (sw_exit (then_exit (then_exit ?_))))
    subst hK2
    refine block_exit (then_norm (sw_seq (qG (r_fa tb R R R R R R R (r_ldD (y := .arr 3 ((p.windows).map WiWindow.d)) tb R R R R R R R R R (r_lenM tb R R R R R ?_))))))
    refine r_gtr R R R R ?_ ?_
    ·intro c6
     replace h := ifP c6 h
     refine eN (sw_condT R (qG (r_asgD R R R (r_asgD R R R (r_asgD R R R (eN (sw_ret (then_ret ?_))))))))
     obtain rfl := sI h
     exact fin_0 (t := .d (.tup [.v (.int .i64 3), .v (.int .i64 0), .v (.int .i64 3)])) R R R (.cons (.tmp 2) (.cons (.tmp 3) (.cons (.tmp 4) .nil)))
    intro c6
    replace h := ifN (Int.not_lt.2 c6) h
    refine eN (sw_condF R (sw_skip (then_norm (sw_seq (qG (r_asgD R R R (eN (sw_block ?_))))))))
    obtain ⟨K4, hK4, h⟩ : ∃ K, K = _ ∧ r_Check_L1 F p K F 0 = some r := ⟨_, rfl, h⟩
    refine sw_loop (st0 := ⟨[(1, .ref 0 4 0 0), (2, .d (.v (.int .i64 0))), (3, .d (.v (.int .i64 0))), (4, .d (.v (.int .i64 0))), (7, .d (.v (.int .i64 0)))], [some ⟨4, [.d (WiPlan.d p)]⟩]⟩) (κ := [0]) (fun m st => ∃ (i2 : Int), r_Check_L1 F p K4 m i2 = some r ∧ st = ⟨[(1, .ref 0 4 0 0), (2, .d (.v (.int .i64 0))), (3, .d (.v (.int .i64 0))), (4, .d (.v (.int .i64 0))), (7, .d (.v (.int .i64 i2)))], [some ⟨4, [.d (WiPlan.d p)]⟩]⟩) (vwK R R (.cons R R .nil) (.cons R R (.cons R R (.cons R R (.cons R R (.cons R R .nil)))))) ⟨0, h, R⟩ ?_
    clear h
    rintro m4 st ⟨i2, h, rfl⟩
    cases m4 with
    | zero => cases (show (none : Option (Int × Int × Int)) = some r from h)
    | succ m4 =>
    rw [r_Check_L1] at h
    refine sw_seq (qG (r_movD R R R (r_fa tb R R R R R R R (r_ldD (y := .arr 3 ((p.windows).map WiWindow.d)) tb R R R R R R R R R (r_lenM tb R R R R R ?_)))))
    refine r_lss R R R R ?_ ?_
    ·intro c7
     replace h := ifP c7 h
     refine eN (sw_condT R (sw_skip (then_norm (sw_seq (sw_block (qG (r_ldD (y := WiPlan.d p) tb R R R R R R R R R (r_movD R R R ?_))))))))
     obtain ⟨rv5, hrv5, h⟩ := bnd h
     refine r_call (r_window_pc hrv5) (.of (by kernel_rfl)) R R R R (r_asgD R R R (eN (qG (r_movD R R R ?_))))
     refine r_neq R R R R ?_ ?_
     ·intro c8
      replace h := ifN c8 h
      refine eN (sw_condT R (qG (r_movD R R R (r_movD R R R (r_asgD R R R (r_asgD R R R (r_asgD R R R (eN (sw_ret (block_ret (then_ret (then_ret (block_ret (then_ret ?_))))))))))))))
      obtain rfl := sI h
      exact fin_0 (t := .d (.tup [.v (.int .i64 3), .v (.int .i64 i2), .v (.int .i64 rv5)])) R R R (.cons (.tmp 2) (.cons (.tmp 3) (.cons (.tmp 4) .nil)))
     intro c8
     replace h := ifP c8 h
     refine eN (sw_condF R (sw_skip (block_norm (then_norm (sw_rg (r_movD R R R (r_add R R R R (r_asgD R R R (eN ?_)))))))))
     exact ⟨m4, ⟨[(1, .ref 0 4 0 0), (2, .d (.v (.int .i64 0))), (3, .d (.v (.int .i64 0))), (4, .d (.v (.int .i64 0))), (7, .d (.v (.int .i64 (W (i2 + 1)))))], [some ⟨4, [.d (WiPlan.d p)]⟩]⟩, [0], Nat.lt_succ_self _, (vwK R R (.cons R R .nil) (.cons R R (.cons R R (.cons R R (.cons R R (.cons R R .nil)))))), (W (i2 + 1)), h, R⟩
    intro c7
    replace h := ifN (Int.not_lt.2 c7) h
    refine eN (sw_condF R (sw_exit (then_exit (then_exit ?_))))
    subst hK4
    refine block_exit (then_norm (qG (r_asgD R R R (r_asgD R R R (r_asgD R R R (eN (sw_ret ?_)))))))
    obtain rfl := sI h
    exact fin_0 (t := .d (.tup [.v (.int .i64 0), .v (.int .i64 0), .v (.int .i64 0)])) R R R (.cons (.tmp 2) (.cons (.tmp 3) (.cons (.tmp 4) .nil)))
   intro c3
   replace h := ifF c3 h
   refine r_notF R R R (r_pickF R R R R (eN (sw_condT R (qG (r_asgD R R R (r_asgD R R R (r_asgD R R R (eN (sw_ret (then_ret ?_))))))))))
   obtain rfl := sI h
   exact fin_0 (t := .d (.tup [.v (.int .i64 1), .v (.int .i64 0), .v (.int .i64 7)])) R R R (.cons (.tmp 2) (.cons (.tmp 3) (.cons (.tmp 4) .nil)))
  intro c2
  replace h := ifF c2 h
  refine r_notF R R R (r_movD R R R (r_skip R R R (r_skip R R R (r_skip R R R (r_skip R R R (r_pickT R R R R (eN (sw_condT R (qG (r_asgD R R R (r_asgD R R R (r_asgD R R R (eN (sw_ret (then_ret ?_)))))))))))))))
  obtain rfl := sI h
  exact fin_0 (t := .d (.tup [.v (.int .i64 1), .v (.int .i64 0), .v (.int .i64 7)])) R R R (.cons (.tmp 2) (.cons (.tmp 3) (.cons (.tmp 4) .nil)))
 intro c
 replace h := ifF c h
 refine r_notF R R R (eN (sw_condT R (qG (r_asgD R R R (r_asgD R R R (r_asgD R R R (eN (sw_ret (then_ret ?_)))))))))
 obtain rfl := sI h
 exact fin_0 (t := .d (.tup [.v (.int .i64 1), .v (.int .i64 0), .v (.int .i64 3)])) R R R (.cons (.tmp 2) (.cons (.tmp 3) (.cons (.tmp 4) .nil)))
def r_first (F : Nat) (t : WiPlan) (o : WiState) (a : Int) (rv : Int) : Option Bool := Option.bind (ixO t.teams a) fun e => Option.bind (ixO t.teams rv) fun e2 => if e.priority = e2.priority then (Option.bind (ixO o.credit a) fun e3 => Option.bind (ixO o.credit rv) fun e4 => if e3 = e4 then (Option.bind (ixO o.used a) fun e5 => Option.bind (ixO o.used rv) fun e6 => if e5 = e6 then (Option.bind (ixO o.last a) fun e7 => Option.bind (ixO o.last rv) fun e8 => if e7 = e8 then (some (decide (a < rv))) else (some (decide (e7 < e8)))) else (some (decide (e5 < e6)))) else (some (decide (e4 < e3)))) else (some (decide (e2.priority < e.priority)))
theorem r_first_pc {F : Nat} {t : WiPlan} {o : WiState} {a : Int} {rv : Int} {r : Bool} (h : r_first F t o a rv = some r) : PC Tryz.prog 68 [WiPlan.d t, WiState.d o, .v (.int .i64 a), .v (.int .i64 rv)] (.v (.bool r)) := by
 rw [r_first] at h
 refine SC.of_sw Tryz.func68 R R R ?_
 dsimp only [argS, List.map]
 refine qG (r_box R R R R R R R (r_box R R R R R R R (r_asgD R R R (eN (sw_seq (sw_seq (sw_dr (by kernel_rfl) (r_fa tb R R R R R R R (r_ldD (y := .arr 9 ((t.teams).map WiTeam.d)) tb R R R R R R R R R (r_movD R R R ?_))))))))))
 obtain ⟨e, ie, h⟩ := bnd h
 refine r_ixE tb R R R R R R (ix0 ie) (ix1m ie) R R (r_faE tb R R R R R R R (r_ldE (y := .v (.int .i64 e.priority)) tb R R (ix2 (g := WiTeam.d) ie) R R R R (r_fa tb R R R R R R R (r_ldD (y := .arr 9 ((t.teams).map WiTeam.d)) tb R R R R R R R R R (r_movD R R R ?_)))))
 obtain ⟨e2, ie2, h⟩ := bnd h
 refine r_ixE tb R R R R R R (ix0 ie2) (ix1m ie2) R R (r_faE tb R R R R R R R (r_ldE (y := .v (.int .i64 e2.priority)) tb R R (ix2 (g := WiTeam.d) ie2) R R R R ?_))
 refine r_neq R R R R ?_ ?_
 ·intro c
  replace h := ifN c h
  refine ev_endD (by kernel_rfl) (then_norm (sw_condT R (sw_seq (sw_dr (by kernel_rfl) (r_fa tb R R R R R R R (r_ldD (y := .arr 9 ((t.teams).map WiTeam.d)) tb R R R R R R R R R (r_movD R R R (r_ixE tb R R R R R R (ix0 ie) (ix1m ie) R R (r_faE tb R R R R R R R (r_ldE (y := .v (.int .i64 e.priority)) tb R R (ix2 (g := WiTeam.d) ie) R R R R (r_fa tb R R R R R R R (r_ldD (y := .arr 9 ((t.teams).map WiTeam.d)) tb R R R R R R R R R (r_movD R R R ?_)))))))))))))
  refine r_ixE tb R R R R R R (ix0 ie2) (ix1m ie2) R R (r_faE tb R R R R R R R (r_ldE (y := .v (.int .i64 e2.priority)) tb R R (ix2 (g := WiTeam.d) ie2) R R R R (r_gtrV R R R R (r_asgD R R R (ev_endD (by kernel_rfl) (then_norm (sw_ret (then_ret ?_))))))))
  obtain rfl := sI h
  exact fin_0 (t := .d (.v (.bool (decide (e2.priority < e.priority))))) R R R (.cons (.tmp 8) .nil)
 intro c
 replace h := ifP c h
 refine ev_endD (by kernel_rfl) (then_norm (sw_condF R (sw_skip (then_norm (sw_seq (sw_seq (sw_dr (by kernel_rfl) (r_fa tb R R R R R R R (r_ldD (y := .arr 1 ((o.credit).map vI)) tb R R R R R R R R R (r_movD R R R ?_))))))))))
 obtain ⟨e3, ie3, h⟩ := bnd h
 refine r_ixE tb R R R R R R (ix0 ie3) (ix1m ie3) R R (r_ldE (y := .v (.int .i64 e3)) tb R R (ix2 (g := vI) ie3) R R R R (r_fa tb R R R R R R R (r_ldD (y := .arr 1 ((o.credit).map vI)) tb R R R R R R R R R (r_movD R R R ?_))))
 obtain ⟨e4, ie4, h⟩ := bnd h
 refine r_ixE tb R R R R R R (ix0 ie4) (ix1m ie4) R R (r_ldE (y := .v (.int .i64 e4)) tb R R (ix2 (g := vI) ie4) R R R R ?_)
 refine r_neq R R R R ?_ ?_
 ·intro c2
  replace h := ifN c2 h
  refine ev_endD (by kernel_rfl) (then_norm (sw_condT R (sw_seq (sw_dr (by kernel_rfl) (r_fa tb R R R R R R R (r_ldD (y := .arr 1 ((o.credit).map vI)) tb R R R R R R R R R (r_movD R R R (r_ixE tb R R R R R R (ix0 ie3) (ix1m ie3) R R (r_ldE (y := .v (.int .i64 e3)) tb R R (ix2 (g := vI) ie3) R R R R (r_fa tb R R R R R R R (r_ldD (y := .arr 1 ((o.credit).map vI)) tb R R R R R R R R R (r_movD R R R (r_ixE tb R R R R R R (ix0 ie4) (ix1m ie4) R R ?_)))))))))))))
  refine r_ldE (y := .v (.int .i64 e4)) tb R R (ix2 (g := vI) ie4) R R R R (r_gtrV R R R R (r_asgD R R R (ev_endD (by kernel_rfl) (then_norm (sw_ret (then_ret ?_))))))
  obtain rfl := sI h
  exact fin_0 (t := .d (.v (.bool (decide (e4 < e3))))) R R R (.cons (.tmp 8) .nil)
 intro c2
 replace h := ifP c2 h
 refine ev_endD (by kernel_rfl) (then_norm (sw_condF R (sw_skip (then_norm (sw_seq (sw_seq (sw_dr (by kernel_rfl) (r_fa tb R R R R R R R (r_ldD (y := .arr 1 ((o.used).map vI)) tb R R R R R R R R R (r_movD R R R ?_))))))))))
 obtain ⟨e5, ie5, h⟩ := bnd h
 refine r_ixE tb R R R R R R (ix0 ie5) (ix1m ie5) R R (r_ldE (y := .v (.int .i64 e5)) tb R R (ix2 (g := vI) ie5) R R R R (r_fa tb R R R R R R R (r_ldD (y := .arr 1 ((o.used).map vI)) tb R R R R R R R R R (r_movD R R R ?_))))
 obtain ⟨e6, ie6, h⟩ := bnd h
 refine r_ixE tb R R R R R R (ix0 ie6) (ix1m ie6) R R (r_ldE (y := .v (.int .i64 e6)) tb R R (ix2 (g := vI) ie6) R R R R ?_)
 refine r_neq R R R R ?_ ?_
 ·intro c3
  replace h := ifN c3 h
  refine ev_endD (by kernel_rfl) (then_norm (sw_condT R (sw_seq (sw_dr (by kernel_rfl) (r_fa tb R R R R R R R (r_ldD (y := .arr 1 ((o.used).map vI)) tb R R R R R R R R R (r_movD R R R (r_ixE tb R R R R R R (ix0 ie5) (ix1m ie5) R R (r_ldE (y := .v (.int .i64 e5)) tb R R (ix2 (g := vI) ie5) R R R R (r_fa tb R R R R R R R (r_ldD (y := .arr 1 ((o.used).map vI)) tb R R R R R R R R R (r_movD R R R (r_ixE tb R R R R R R (ix0 ie6) (ix1m ie6) R R ?_)))))))))))))
  refine r_ldE (y := .v (.int .i64 e6)) tb R R (ix2 (g := vI) ie6) R R R R (r_lssV R R R R (r_asgD R R R (ev_endD (by kernel_rfl) (then_norm (sw_ret (then_ret ?_))))))
  obtain rfl := sI h
  exact fin_0 (t := .d (.v (.bool (decide (e5 < e6))))) R R R (.cons (.tmp 8) .nil)
 intro c3
 replace h := ifP c3 h
 refine ev_endD (by kernel_rfl) (then_norm (sw_condF R (sw_skip (then_norm (sw_seq (sw_seq (sw_dr (by kernel_rfl) (r_fa tb R R R R R R R (r_ldD (y := .arr 1 ((o.last).map vI)) tb R R R R R R R R R (r_movD R R R ?_))))))))))
 obtain ⟨e7, ie7, h⟩ := bnd h
 refine r_ixE tb R R R R R R (ix0 ie7) (ix1m ie7) R R (r_ldE (y := .v (.int .i64 e7)) tb R R (ix2 (g := vI) ie7) R R R R (r_fa tb R R R R R R R (r_ldD (y := .arr 1 ((o.last).map vI)) tb R R R R R R R R R (r_movD R R R ?_))))
 obtain ⟨e8, ie8, h⟩ := bnd h
 refine r_ixE tb R R R R R R (ix0 ie8) (ix1m ie8) R R (r_ldE (y := .v (.int .i64 e8)) tb R R (ix2 (g := vI) ie8) R R R R ?_)
 refine r_neq R R R R ?_ ?_
 ·intro c4
  replace h := ifN c4 h
  refine ev_endD (by kernel_rfl) (then_norm (sw_condT R (sw_seq (sw_dr (by kernel_rfl) (r_fa tb R R R R R R R (r_ldD (y := .arr 1 ((o.last).map vI)) tb R R R R R R R R R (r_movD R R R (r_ixE tb R R R R R R (ix0 ie7) (ix1m ie7) R R (r_ldE (y := .v (.int .i64 e7)) tb R R (ix2 (g := vI) ie7) R R R R (r_fa tb R R R R R R R (r_ldD (y := .arr 1 ((o.last).map vI)) tb R R R R R R R R R (r_movD R R R (r_ixE tb R R R R R R (ix0 ie8) (ix1m ie8) R R ?_)))))))))))))
  refine r_ldE (y := .v (.int .i64 e8)) tb R R (ix2 (g := vI) ie8) R R R R (r_lssV R R R R (r_asgD R R R (ev_endD (by kernel_rfl) (then_norm (sw_ret (then_ret ?_))))))
  obtain rfl := sI h
  exact fin_0 (t := .d (.v (.bool (decide (e7 < e8))))) R R R (.cons (.tmp 8) .nil)
 intro c4
 replace h := ifP c4 h
 refine ev_endD (by kernel_rfl) (then_norm (sw_condF R (sw_skip (then_norm (qG (r_movD R R R (r_movD R R R (r_lssV R R R R (r_asgD R R R (eN (sw_ret ?_)))))))))))
 obtain rfl := sI h
 exact fin_0 (t := .d (.v (.bool (decide (a < rv))))) R R R (.cons (.tmp 8) .nil)
def r_why_L1 (F : Nat) (e : WiTeam) (e2 : WiWindow) (K : Int → Option Int) : Nat → Int → Option Int
 | 0, _ => none
 | n + 1, x => if x < (e.away.length : Int) then (Option.bind (ixO e.away x) fun e4 => Option.bind (r_in F e2.day e4.lo e4.hi) fun rv3 => if rv3 = true then (some 211) else (r_why_L1 F e e2 K n (W (x + 1)))) else (K x)
def r_why (F : Nat) (t : WiPlan) (o : WiState) (a : WiSky) (rv : Int) (rv2 : Int) : Option Int := Option.bind (ixO t.teams rv) fun e => Option.bind (ixO t.windows o.next) fun e2 => Option.bind (ixO o.used rv) fun e3 => if e.need ≤ e3 then (some 210) else (r_why_L1 F e e2 (fun (x : Int) => Option.bind (ixO o.last rv) fun e5 => if e5 = (-1) then (if 0 < (e.kinds.length : Int) then (Option.bind (r_common F e.kinds a.kinds) fun rv5 => if rv5 = true then (if e.wind < a.wind then (some 214) else (if (W (e2.until_ - rv2)) < e.setup then (some 215) else (some 0))) else (some 213)) else (if e.wind < a.wind then (some 214) else (if (W (e2.until_ - rv2)) < e.setup then (some 215) else (some 0)))) else (if (W (e2.day - e5)) < e.rest then (some 212) else (if 0 < (e.kinds.length : Int) then (Option.bind (r_common F e.kinds a.kinds) fun rv4 => if rv4 = true then (if e.wind < a.wind then (some 214) else (if (W (e2.until_ - rv2)) < e.setup then (some 215) else (some 0))) else (some 213)) else (if e.wind < a.wind then (some 214) else (if (W (e2.until_ - rv2)) < e.setup then (some 215) else (some 0)))))) F 0)
theorem r_why_pc {F : Nat} {t : WiPlan} {o : WiState} {a : WiSky} {rv : Int} {rv2 : Int} {r : Int} (h : r_why F t o a rv rv2 = some r) : PC Tryz.prog 67 [WiPlan.d t, WiState.d o, WiSky.d a, .v (.int .i64 rv), .v (.int .i64 rv2)] (.v (.int .i64 r)) := by
 rw [r_why] at h
 refine SC.of_sw Tryz.func67 R R R ?_
 dsimp only [argS, List.map]
 refine qG (r_box R R R R R R R (r_box R R R R R R R (r_box R R R R R R R (r_asgD R R R (eN (sw_seq (sw_dr (by kernel_rfl) (r_fa tb R R R R R R R (r_ldD (y := .arr 9 ((t.teams).map WiTeam.d)) tb R R R R R R R R R (r_movD R R R ?_))))))))))
 obtain ⟨e, ie, h⟩ := bnd h
 refine r_ixE tb R R R R R R (ix0 ie) (ix1m ie) R R (r_ldE (y := WiTeam.d e) tb R R (ix2 (g := WiTeam.d) ie) R R R R (r_fa tb R R R R R R R (r_ldD (y := .arr 3 ((t.windows).map WiWindow.d)) tb R R R R R R R R R (r_fa tb R R R R R R R (r_ldD (y := .v (.int .i64 o.next)) tb R R R R R R R R R ?_)))))
 obtain ⟨e2, ie2, h⟩ := bnd h
 refine r_ixE tb R R R R R R (ix0 ie2) (ix1m ie2) R R (r_ldE (y := WiWindow.d e2) tb R R (ix2 (g := WiWindow.d) ie2) R R R R (r_alloc tb R R R R R (r_alloc tb R R R R R (r_stE _ ([some ⟨4, [.d (WiPlan.d t)]⟩, some ⟨4, [.d (WiState.d o)]⟩, some ⟨2, [.d (WiSky.d a)]⟩, some ⟨9, [.d (WiTeam.d e)]⟩, some ⟨3, [.d (.agg [.v (.int .i64 0), .v (.int .i64 0), .v (.int .i64 0)])]⟩]) tb R R R R R R R R R R R R ?_))))
 refine r_stE _ ([some ⟨4, [.d (WiPlan.d t)]⟩, some ⟨4, [.d (WiState.d o)]⟩, some ⟨2, [.d (WiSky.d a)]⟩, some ⟨9, [.d (WiTeam.d e)]⟩, some ⟨3, [.d (WiWindow.d e2)]⟩]) tb R R R R R R R R R R R R (ev_endD (by kernel_rfl) (then_norm (sw_seq (sw_seq (sw_dr (by kernel_rfl) (r_fa tb R R R R R R R (r_ldD (y := .arr 1 ((o.used).map vI)) tb R R R R R R R R R (r_movD R R R ?_))))))))
 obtain ⟨e3, ie3, h⟩ := bnd h
 refine r_ixE tb R R R R R R (ix0 ie3) (ix1m ie3) R R (r_ldE (y := .v (.int .i64 e3)) tb R R (ix2 (g := vI) ie3) R R R R (r_fa tb R R R R R R R (r_ldD (y := .v (.int .i64 e.need)) tb R R R R R R R R R ?_)))
 refine r_geq R R R R ?_ ?_
 ·intro c
  replace h := ifP c h
  refine ev_endD (by kernel_rfl) (then_norm (sw_condT R (qG (r_asgD R R R (eN (sw_ret (then_ret ?_)))))))
  obtain rfl := sI h
  exact fin_0 (t := .d (.v (.int .i64 210))) R R R (.cons (.tmp 10) .nil)
 intro c
 replace h := ifN (Int.not_le.2 c) h
 refine ev_endD (by kernel_rfl) (then_norm (sw_condF R (sw_skip (then_norm (sw_seq (qG (r_asgD R R R (eN (sw_block ?_)))))))))
 obtain ⟨K2, hK2, h⟩ : ∃ K, K = _ ∧ r_why_L1 F e e2 K F 0 = some r := ⟨_, rfl, h⟩
 refine sw_loop (st0 := ⟨[(3, .d (.v (.int .i64 rv))), (4, .d (.v (.int .i64 rv2))), (6, .ref 0 4 0 0), (7, .ref 1 2 0 0), (10, .d (.v (.int .i64 0))), (11, .ref 2 9 0 0), (12, .ref 3 3 0 0), (13, .d (.v (.int .i64 0)))], [some ⟨4, [.d (WiState.d o)]⟩, some ⟨2, [.d (WiSky.d a)]⟩, some ⟨9, [.d (WiTeam.d e)]⟩, some ⟨3, [.d (WiWindow.d e2)]⟩]⟩) (κ := [1, 2, 3, 4]) (fun m st => ∃ (x : Int), r_why_L1 F e e2 K2 m x = some r ∧ st = ⟨[(3, .d (.v (.int .i64 rv))), (4, .d (.v (.int .i64 rv2))), (6, .ref 0 4 0 0), (7, .ref 1 2 0 0), (10, .d (.v (.int .i64 0))), (11, .ref 2 9 0 0), (12, .ref 3 3 0 0), (13, .d (.v (.int .i64 x)))], [some ⟨4, [.d (WiState.d o)]⟩, some ⟨2, [.d (WiSky.d a)]⟩, some ⟨9, [.d (WiTeam.d e)]⟩, some ⟨3, [.d (WiWindow.d e2)]⟩]⟩) (vwK R R (.cons R R (.cons R R (.cons R R (.cons R R .nil)))) (.cons R R (.cons R R (.cons R R (.cons R R (.cons R R (.cons R R (.cons R R (.cons R R .nil))))))))) ⟨0, h, R⟩ ?_
 clear h
 rintro m2 st ⟨x, h, rfl⟩
 cases m2 with
 | zero => cases (show (none : Option Int) = some r from h)
 | succ m2 =>
 rw [r_why_L1] at h
 refine sw_seq (qG (r_movD R R R (r_fa tb R R R R R R R (r_ldD (y := .arr 2 ((e.away).map Span.d)) tb R R R R R R R R R (r_lenM tb R R R R R ?_)))))
 refine r_lss R R R R ?_ ?_
 ·intro c2
  replace h := ifP c2 h
  refine eN (sw_condT R (sw_skip (then_norm (sw_seq (sw_block (sw_seq (sw_dr (by kernel_rfl) (r_fa tb R R R R R R R (r_ldD (y := .v (.int .i64 e2.day)) tb R R R R R R R R R (r_fa tb R R R R R R R (r_ldD (y := .arr 2 ((e.away).map Span.d)) tb R R R R R R R R R (r_movD R R R ?_))))))))))))
  obtain ⟨e4, ie4, h⟩ := bnd h
  refine r_ixE tb R R R R R R (ix0 ie4) (ix1m ie4) R R (r_faE tb R R R R R R R (r_ldE (y := .v (.int .i64 e4.lo)) tb R R (ix2 (g := Span.d) ie4) R R R R (r_fa tb R R R R R R R (r_ldD (y := .arr 2 ((e.away).map Span.d)) tb R R R R R R R R R (r_movD R R R (r_ixE tb R R R R R R (ix0 ie4) (ix1m ie4) R R (r_faE tb R R R R R R R (r_ldE (y := .v (.int .i64 e4.hi)) tb R R (ix2 (g := Span.d) ie4) R R R R ?_))))))))
  obtain ⟨rv3, hrv3, h⟩ := bnd h
  refine r_callB (r_in_pc hrv3) (.of (by kernel_rfl)) R R R R ?_ ?_
  ·intro c3
   replace h := ifP c3 h
   refine ev_endD (by kernel_rfl) (then_norm (sw_condT R (qG (r_asgD R R R (eN (sw_ret (block_ret (then_ret (then_ret (block_ret (then_ret ?_)))))))))))
   obtain rfl := sI h
   exact fin_0 (t := .d (.v (.int .i64 211))) R R R (.cons (.tmp 10) .nil)
  intro c3
  replace h := ifF c3 h
  refine ev_endD (by kernel_rfl) (then_norm (sw_condF R (sw_skip (block_norm (then_norm (sw_rg (r_movD R R R (r_add R R R R (r_asgD R R R (eN ?_))))))))))
  exact ⟨m2, ⟨[(3, .d (.v (.int .i64 rv))), (4, .d (.v (.int .i64 rv2))), (6, .ref 0 4 0 0), (7, .ref 1 2 0 0), (10, .d (.v (.int .i64 0))), (11, .ref 2 9 0 0), (12, .ref 3 3 0 0), (13, .d (.v (.int .i64 (W (x + 1)))))], [some ⟨4, [.d (WiState.d o)]⟩, some ⟨2, [.d (WiSky.d a)]⟩, some ⟨9, [.d (WiTeam.d e)]⟩, some ⟨3, [.d (WiWindow.d e2)]⟩]⟩, [0, 1, 2, 3], Nat.lt_succ_self _, (vwK R R (.cons R R (.cons R R (.cons R R (.cons R R .nil)))) (.cons R R (.cons R R (.cons R R (.cons R R (.cons R R (.cons R R (.cons R R (.cons R R .nil))))))))), (W (x + 1)), h, R⟩
 intro c2
 replace h := ifN (Int.not_lt.2 c2) h
 refine eN (sw_condF R (sw_exit (then_exit (then_exit ?_))))
 subst hK2
 refine block_exit (then_norm (sw_seq (sw_seq (sw_dr (by kernel_rfl) (r_fa tb R R R R R R R (r_ldD (y := .arr 1 ((o.last).map vI)) tb R R R R R R R R R (r_movD R R R ?_)))))))
 obtain ⟨e5, ie5, h⟩ := bnd h
 refine r_ixE tb R R R R R R (ix0 ie5) (ix1m ie5) R R (r_ldE (y := .v (.int .i64 e5)) tb R R (ix2 (g := vI) ie5) R R R R ?_)
 refine r_neq R R R R ?_ ?_
 ·intro c4
  replace h := ifN c4 h
  refine r_movD R R R (r_fa tb R R R R R R R (r_ldD (y := .v (.int .i64 e2.day)) tb R R R R R R R R R (r_fa tb R R R R R R R (r_ldD (y := .arr 1 ((o.last).map vI)) tb R R R R R R R R R (r_movD R R R (r_ixE tb R R R R R R (ix0 ie5) (ix1m ie5) R R (r_ldE (y := .v (.int .i64 e5)) tb R R (ix2 (g := vI) ie5) R R R R (r_sub R R R R (r_fa tb R R R R R R R (r_ldD (y := .v (.int .i64 e.rest)) tb R R R R R R R R R ?_))))))))))
  refine r_lss R R R R ?_ ?_
  ·intro c5
   replace h := ifP c5 h
   refine r_pickT R R R R (ev_endD (by kernel_rfl) (then_norm (sw_condT R (qG (r_asgD R R R (eN (sw_ret (then_ret ?_))))))))
   obtain rfl := sI h
   exact fin_0 (t := .d (.v (.int .i64 212))) R R R (.cons (.tmp 10) .nil)
  intro c5
  replace h := ifN (Int.not_lt.2 c5) h
  refine r_pickT R R R R (ev_endD (by kernel_rfl) (then_norm (sw_condF R (sw_skip (then_norm (sw_seq (qG (r_fa tb R R R R R R R (r_ldD (y := .arr 1 ((e.kinds).map vI)) tb R R R R R R R R R (r_lenM tb R R R R R ?_))))))))))
  refine r_gtr R R R R ?_ ?_
  ·intro c6
   replace h := ifP c6 h
   refine r_movD R R R (r_fa tb R R R R R R R (r_ldD (y := .arr 1 ((e.kinds).map vI)) tb R R R R R R R R R (r_fa tb R R R R R R R (r_ldD (y := .arr 1 ((a.kinds).map vI)) tb R R R R R R R R R ?_))))
   obtain ⟨rv4, hrv4, h⟩ := bnd h
   refine r_callB (r_common_pc hrv4) (.of (by kernel_rfl)) R R R R ?_ ?_
   ·intro c7
    replace h := ifP c7 h
    refine r_notT R R R (r_pickT R R R R (eN (sw_condF R (sw_skip (then_norm (sw_seq (qG (r_fa tb R R R R R R R (r_ldD (y := .v (.int .i64 a.wind)) tb R R R R R R R R R (r_fa tb R R R R R R R (r_ldD (y := .v (.int .i64 e.wind)) tb R R R R R R R R R ?_)))))))))))
    refine r_gtr R R R R ?_ ?_
    ·intro c8
     replace h := ifP c8 h
     refine eN (sw_condT R (qG (r_asgD R R R (eN (sw_ret (then_ret ?_))))))
     obtain rfl := sI h
     exact fin_0 (t := .d (.v (.int .i64 214))) R R R (.cons (.tmp 10) .nil)
    intro c8
    replace h := ifN (Int.not_lt.2 c8) h
    refine eN (sw_condF R (sw_skip (then_norm (sw_seq (qG (r_fa tb R R R R R R R (r_ldD (y := .v (.int .i64 e2.until_)) tb R R R R R R R R R (r_movD R R R (r_sub R R R R (r_fa tb R R R R R R R (r_ldD (y := .v (.int .i64 e.setup)) tb R R R R R R R R R ?_)))))))))))
    refine r_lss R R R R ?_ ?_
    ·intro c9
     replace h := ifP c9 h
     refine eN (sw_condT R (qG (r_asgD R R R (eN (sw_ret (then_ret ?_))))))
     obtain rfl := sI h
     exact fin_0 (t := .d (.v (.int .i64 215))) R R R (.cons (.tmp 10) .nil)
    intro c9
    replace h := ifN (Int.not_lt.2 c9) h
    refine eN (sw_condF R (sw_skip (then_norm (qG (r_asgD R R R (eN (sw_ret ?_)))))))
    obtain rfl := sI h
    exact fin_0 (t := .d (.v (.int .i64 0))) R R R (.cons (.tmp 10) .nil)
   intro c7
   replace h := ifF c7 h
   refine r_notF R R R (r_pickT R R R R (eN (sw_condT R (qG (r_asgD R R R (eN (sw_ret (then_ret ?_))))))))
   obtain rfl := sI h
   exact fin_0 (t := .d (.v (.int .i64 213))) R R R (.cons (.tmp 10) .nil)
  intro c6
  replace h := ifN (Int.not_lt.2 c6) h
  refine r_movD R R R (r_skip R R R (r_skip R R R (r_skip R R R (r_skip R R R (r_skip R R R (r_skip R R R (r_pickF R R R R (eN (sw_condF R (sw_skip (then_norm (sw_seq (qG (r_fa tb R R R R R R R (r_ldD (y := .v (.int .i64 a.wind)) tb R R R R R R R R R (r_fa tb R R R R R R R (r_ldD (y := .v (.int .i64 e.wind)) tb R R R R R R R R R ?_)))))))))))))))))
  refine r_gtr R R R R ?_ ?_
  ·intro c10
   replace h := ifP c10 h
   refine eN (sw_condT R (qG (r_asgD R R R (eN (sw_ret (then_ret ?_))))))
   obtain rfl := sI h
   exact fin_0 (t := .d (.v (.int .i64 214))) R R R (.cons (.tmp 10) .nil)
  intro c10
  replace h := ifN (Int.not_lt.2 c10) h
  refine eN (sw_condF R (sw_skip (then_norm (sw_seq (qG (r_fa tb R R R R R R R (r_ldD (y := .v (.int .i64 e2.until_)) tb R R R R R R R R R (r_movD R R R (r_sub R R R R (r_fa tb R R R R R R R (r_ldD (y := .v (.int .i64 e.setup)) tb R R R R R R R R R ?_)))))))))))
  refine r_lss R R R R ?_ ?_
  ·intro c11
   replace h := ifP c11 h
   refine eN (sw_condT R (qG (r_asgD R R R (eN (sw_ret (then_ret ?_))))))
   obtain rfl := sI h
   exact fin_0 (t := .d (.v (.int .i64 215))) R R R (.cons (.tmp 10) .nil)
  intro c11
  replace h := ifN (Int.not_lt.2 c11) h
  refine eN (sw_condF R (sw_skip (then_norm (qG (r_asgD R R R (eN (sw_ret ?_)))))))
  obtain rfl := sI h
  exact fin_0 (t := .d (.v (.int .i64 0))) R R R (.cons (.tmp 10) .nil)
 intro c4
 replace h := ifP c4 h
 refine r_movD R R R (r_skip R R R (r_skip R R R (r_skip R R R (r_skip R R R (r_skip R R R (r_skip R R R (r_skip R R R (r_skip R R R (r_skip R R R (r_skip R R R (r_skip R R R (r_pickF R R R R (ev_endD (by kernel_rfl) (then_norm (sw_condF R (sw_skip (then_norm (sw_seq (qG (r_fa tb R R R R R R R (r_ldD (y := .arr 1 ((e.kinds).map vI)) tb R R R R R R R R R (r_lenM tb R R R R R ?_))))))))))))))))))))))
 refine r_gtr R R R R ?_ ?_
 ·intro c12
  replace h := ifP c12 h
  refine r_movD R R R (r_fa tb R R R R R R R (r_ldD (y := .arr 1 ((e.kinds).map vI)) tb R R R R R R R R R (r_fa tb R R R R R R R (r_ldD (y := .arr 1 ((a.kinds).map vI)) tb R R R R R R R R R ?_))))
  obtain ⟨rv5, hrv5, h⟩ := bnd h
  refine r_callB (r_common_pc hrv5) (.of (by kernel_rfl)) R R R R ?_ ?_
  ·intro c13
   replace h := ifP c13 h
   refine r_notT R R R (r_pickT R R R R (eN (sw_condF R (sw_skip (then_norm (sw_seq (qG (r_fa tb R R R R R R R (r_ldD (y := .v (.int .i64 a.wind)) tb R R R R R R R R R (r_fa tb R R R R R R R (r_ldD (y := .v (.int .i64 e.wind)) tb R R R R R R R R R ?_)))))))))))
   refine r_gtr R R R R ?_ ?_
   ·intro c14
    replace h := ifP c14 h
    refine eN (sw_condT R (qG (r_asgD R R R (eN (sw_ret (then_ret ?_))))))
    obtain rfl := sI h
    exact fin_0 (t := .d (.v (.int .i64 214))) R R R (.cons (.tmp 10) .nil)
   intro c14
   replace h := ifN (Int.not_lt.2 c14) h
   refine eN (sw_condF R (sw_skip (then_norm (sw_seq (qG (r_fa tb R R R R R R R (r_ldD (y := .v (.int .i64 e2.until_)) tb R R R R R R R R R (r_movD R R R (r_sub R R R R (r_fa tb R R R R R R R (r_ldD (y := .v (.int .i64 e.setup)) tb R R R R R R R R R ?_)))))))))))
   refine r_lss R R R R ?_ ?_
   ·intro c15
    replace h := ifP c15 h
    refine eN (sw_condT R (qG (r_asgD R R R (eN (sw_ret (then_ret ?_))))))
    obtain rfl := sI h
    exact fin_0 (t := .d (.v (.int .i64 215))) R R R (.cons (.tmp 10) .nil)
   intro c15
   replace h := ifN (Int.not_lt.2 c15) h
   refine eN (sw_condF R (sw_skip (then_norm (qG (r_asgD R R R (eN (sw_ret ?_)))))))
   obtain rfl := sI h
   exact fin_0 (t := .d (.v (.int .i64 0))) R R R (.cons (.tmp 10) .nil)
  intro c13
  replace h := ifF c13 h
  refine r_notF R R R (r_pickT R R R R (eN (sw_condT R (qG (r_asgD R R R (eN (sw_ret (then_ret ?_))))))))
  obtain rfl := sI h
  exact fin_0 (t := .d (.v (.int .i64 213))) R R R (.cons (.tmp 10) .nil)
 intro c12
 replace h := ifN (Int.not_lt.2 c12) h
 refine r_movD R R R (r_skip R R R (r_skip R R R (r_skip R R R (r_skip R R R (r_skip R R R (r_skip R R R (r_pickF R R R R (eN (sw_condF R (sw_skip (then_norm (sw_seq (qG (r_fa tb R R R R R R R (r_ldD (y := .v (.int .i64 a.wind)) tb R R R R R R R R R (r_fa tb R R R R R R R (r_ldD (y := .v (.int .i64 e.wind)) tb R R R R R R R R R ?_)))))))))))))))))
 refine r_gtr R R R R ?_ ?_
 ·intro c16
  replace h := ifP c16 h
  refine eN (sw_condT R (qG (r_asgD R R R (eN (sw_ret (then_ret ?_))))))
  obtain rfl := sI h
  exact fin_0 (t := .d (.v (.int .i64 214))) R R R (.cons (.tmp 10) .nil)
 intro c16
 replace h := ifN (Int.not_lt.2 c16) h
 refine eN (sw_condF R (sw_skip (then_norm (sw_seq (qG (r_fa tb R R R R R R R (r_ldD (y := .v (.int .i64 e2.until_)) tb R R R R R R R R R (r_movD R R R (r_sub R R R R (r_fa tb R R R R R R R (r_ldD (y := .v (.int .i64 e.setup)) tb R R R R R R R R R ?_)))))))))))
 refine r_lss R R R R ?_ ?_
 ·intro c17
  replace h := ifP c17 h
  refine eN (sw_condT R (qG (r_asgD R R R (eN (sw_ret (then_ret ?_))))))
  obtain rfl := sI h
  exact fin_0 (t := .d (.v (.int .i64 215))) R R R (.cons (.tmp 10) .nil)
 intro c17
 replace h := ifN (Int.not_lt.2 c17) h
 refine eN (sw_condF R (sw_skip (then_norm (qG (r_asgD R R R (eN (sw_ret ?_)))))))
 obtain rfl := sI h
 exact fin_0 (t := .d (.v (.int .i64 0))) R R R (.cons (.tmp 10) .nil)
def r_Ints_L1 (F : Nat) (a : (List Int)) (b : (List Int)) (K : Int → Option Bool) : Nat → Int → Option Bool
 | 0, _ => none
 | n + 1, i => if i < (a.length : Int) then (Option.bind (ixO a i) fun e => Option.bind (ixO b i) fun e2 => if e = e2 then (r_Ints_L1 F a b K n (W (i + 1))) else (some false)) else (K i)
def r_Ints (F : Nat) (a : (List Int)) (b : (List Int)) : Option Bool := if (a.length : Int) = (b.length : Int) then (r_Ints_L1 F a b (fun (i : Int) => some true) F 0) else (some false)
theorem r_Ints_pc {F : Nat} {a : (List Int)} {b : (List Int)} {r : Bool} (h : r_Ints F a b = some r) : PC Tryz.prog 15 [.arr 1 ((a).map vI), .arr 1 ((b).map vI)] (.v (.bool r)) := by
 rw [r_Ints] at h
 refine SC.of_sw Tryz.func15 R R R ?_
 dsimp only [argS, List.map]
 refine qG (r_asgD R R R (eN (sw_seq (qG (r_movD R R R (r_lenM tb R R R R R (r_movD R R R (r_lenM tb R R R R R ?_))))))))
 refine r_neq R R R R ?_ ?_
 ·intro c
  replace h := ifN c h
  refine eN (sw_condT R (qG (r_asgD R R R (eN (sw_ret (then_ret ?_))))))
  obtain rfl := sI h
  exact fin_0 (t := .d (.v (.bool false))) R R R (.cons (.tmp 4) .nil)
 intro c
 replace h := ifP c h
 refine eN (sw_condF R (sw_skip (then_norm (sw_seq (qG (r_asgD R R R (eN (sw_block ?_))))))))
 obtain ⟨K2, hK2, h⟩ : ∃ K, K = _ ∧ r_Ints_L1 F a b K F 0 = some r := ⟨_, rfl, h⟩
 refine sw_loop (st0 := ⟨[(0, .d (.arr 1 ((a).map vI))), (1, .d (.arr 1 ((b).map vI))), (4, .d (.v (.bool false))), (5, .d (.v (.int .i64 0)))], []⟩) (κ := []) (fun m st => ∃ (i : Int), r_Ints_L1 F a b K2 m i = some r ∧ st = ⟨[(0, .d (.arr 1 ((a).map vI))), (1, .d (.arr 1 ((b).map vI))), (4, .d (.v (.bool false))), (5, .d (.v (.int .i64 i)))], []⟩) (vwK R R .nil (.cons R R (.cons R R (.cons R R (.cons R R .nil))))) ⟨0, h, R⟩ ?_
 clear h
 rintro m2 st ⟨i, h, rfl⟩
 cases m2 with
 | zero => cases (show (none : Option Bool) = some r from h)
 | succ m2 =>
 rw [r_Ints_L1] at h
 refine sw_seq (qG (r_movD R R R (r_movD R R R (r_lenM tb R R R R R ?_))))
 refine r_lss R R R R ?_ ?_
 ·intro c2
  replace h := ifP c2 h
  refine eN (sw_condT R (sw_skip (then_norm (sw_seq (sw_block (sw_seq (sw_dr (by kernel_rfl) (r_movD R R R (r_movD R R R ?_)))))))))
  obtain ⟨e, ie, h⟩ := bnd h
  refine r_ixE tb R R R R R R (ix0 ie) (ix1m ie) R R (r_ldE (y := .v (.int .i64 e)) tb R R (ix2 (g := vI) ie) R R R R (r_movD R R R (r_movD R R R ?_)))
  obtain ⟨e2, ie2, h⟩ := bnd h
  refine r_ixE tb R R R R R R (ix0 ie2) (ix1m ie2) R R (r_ldE (y := .v (.int .i64 e2)) tb R R (ix2 (g := vI) ie2) R R R R ?_)
  refine r_neq R R R R ?_ ?_
  ·intro c3
   replace h := ifN c3 h
   refine ev_endD (by kernel_rfl) (then_norm (sw_condT R (qG (r_asgD R R R (eN (sw_ret (block_ret (then_ret (then_ret (block_ret (then_ret ?_)))))))))))
   obtain rfl := sI h
   exact fin_0 (t := .d (.v (.bool false))) R R R (.cons (.tmp 4) .nil)
  intro c3
  replace h := ifP c3 h
  refine ev_endD (by kernel_rfl) (then_norm (sw_condF R (sw_skip (block_norm (then_norm (sw_rg (r_movD R R R (r_add R R R R (r_asgD R R R (eN ?_))))))))))
  exact ⟨m2, ⟨[(0, .d (.arr 1 ((a).map vI))), (1, .d (.arr 1 ((b).map vI))), (4, .d (.v (.bool false))), (5, .d (.v (.int .i64 (W (i + 1)))))], []⟩, [], Nat.lt_succ_self _, (vwK R R .nil (.cons R R (.cons R R (.cons R R (.cons R R .nil))))), (W (i + 1)), h, R⟩
 intro c2
 replace h := ifN (Int.not_lt.2 c2) h
 refine eN (sw_condF R (sw_exit (then_exit (then_exit ?_))))
 subst hK2
 refine block_exit (then_norm (qG (r_asgD R R R (eN (sw_ret ?_)))))
 obtain rfl := sI h
 exact fin_0 (t := .d (.v (.bool true))) R R R (.cons (.tmp 4) .nil)
def r_SameState (F : Nat) (a : WiState) (b : WiState) : Option Bool := Option.bind (r_Ints F a.used b.used) fun rv => if rv = true then (Option.bind (r_Ints F a.credit b.credit) fun rv2 => if rv2 = true then (Option.bind (r_Ints F a.last b.last) fun rv3 => if rv3 = true then (some (decide (a.next = b.next))) else (some false)) else (some false)) else (some false)
theorem r_SameState_pc {F : Nat} {a : WiState} {b : WiState} {r : Bool} (h : r_SameState F a b = some r) : PC Tryz.prog 7 [WiState.d a, WiState.d b] (.v (.bool r)) := by
 rw [r_SameState] at h
 refine SC.of_sw Tryz.func7 R R R ?_
 dsimp only [argS, List.map]
 refine qG (r_box R R R R R R R (r_box R R R R R R R (r_asgD R R R (eN (qG (r_fa tb R R R R R R R (r_ldD (y := .arr 1 ((a.used).map vI)) tb R R R R R R R R R (r_fa tb R R R R R R R (r_ldD (y := .arr 1 ((b.used).map vI)) tb R R R R R R R R R ?_)))))))))
 obtain ⟨rv, hrv, h⟩ := bnd h
 refine r_callB (r_Ints_pc hrv) (.of (by kernel_rfl)) R R R R ?_ ?_
 ·intro c
  replace h := ifP c h
  refine r_movD R R R (r_fa tb R R R R R R R (r_ldD (y := .arr 1 ((a.credit).map vI)) tb R R R R R R R R R (r_fa tb R R R R R R R (r_ldD (y := .arr 1 ((b.credit).map vI)) tb R R R R R R R R R ?_))))
  obtain ⟨rv2, hrv2, h⟩ := bnd h
  refine r_callB (r_Ints_pc hrv2) (.of (by kernel_rfl)) R R R R ?_ ?_
  ·intro c2
   replace h := ifP c2 h
   refine r_pickT R R R R (r_movD R R R (r_fa tb R R R R R R R (r_ldD (y := .arr 1 ((a.last).map vI)) tb R R R R R R R R R (r_fa tb R R R R R R R (r_ldD (y := .arr 1 ((b.last).map vI)) tb R R R R R R R R R ?_)))))
   obtain ⟨rv3, hrv3, h⟩ := bnd h
   refine r_callB (r_Ints_pc hrv3) (.of (by kernel_rfl)) R R R R ?_ ?_
   ·intro c3
    replace h := ifP c3 h
    refine r_pickT R R R R (r_movD R R R (r_fa tb R R R R R R R (r_ldD (y := .v (.int .i64 a.next)) tb R R R R R R R R R (r_fa tb R R R R R R R (r_ldD (y := .v (.int .i64 b.next)) tb R R R R R R R R R (r_eqlV R R R R (r_pickT R R R R (r_asgD R R R (eN (sw_ret ?_))))))))))
    obtain rfl := sI h
    exact fin_0 (t := .d (.v (.bool (decide (a.next = b.next))))) R R R (.cons (.tmp 4) .nil)
   intro c3
   replace h := ifF c3 h
   refine r_pickT R R R R (r_movD R R R (r_skip R R R (r_skip R R R (r_skip R R R (r_skip R R R (r_skip R R R (r_pickF R R R R (r_asgD R R R (eN (sw_ret ?_))))))))))
   obtain rfl := sI h
   exact fin_0 (t := .d (.v (.bool false))) R R R (.cons (.tmp 4) .nil)
  intro c2
  replace h := ifF c2 h
  refine r_pickT R R R R (r_movD R R R (r_skip R R R (r_skip R R R (r_skip R R R (r_skip R R R (r_skip R R R (r_pickF R R R R (r_movD R R R (r_skip R R R (r_skip R R R (r_skip R R R (r_skip R R R (r_skip R R R (r_pickF R R R R (r_asgD R R R (eN (sw_ret ?_)))))))))))))))))
  obtain rfl := sI h
  exact fin_0 (t := .d (.v (.bool false))) R R R (.cons (.tmp 4) .nil)
 intro c
 replace h := ifF c h
 refine r_movD R R R (r_skip R R R (r_skip R R R (r_skip R R R (r_skip R R R (r_skip R R R (r_pickF R R R R (r_movD R R R (r_skip R R R (r_skip R R R (r_skip R R R (r_skip R R R (r_skip R R R (r_pickF R R R R (r_movD R R R (r_skip R R R (r_skip R R R (r_skip R R R (r_skip R R R (r_skip R R R (r_pickF R R R R (r_asgD R R R (eN (sw_ret ?_)))))))))))))))))))))))
 obtain rfl := sI h
 exact fin_0 (t := .d (.v (.bool false))) R R R (.cons (.tmp 4) .nil)
def r_copied (F : Nat) (s : WiState) : Option WiState := Option.bind (appO ([] : List Int) s.used) fun q => Option.bind (appO ([] : List Int) s.credit) fun q2 => Option.bind (appO ([] : List Int) s.last) fun q3 => some (WiState.mk q q2 q3 s.next)
theorem r_copied_scr {F : Nat} {s : WiState} {r : WiState} (h : r_copied F s = some r) : SCR Tryz.prog 45 (List.map T.d [WiState.d s]) [] (WiState_T1 r 0 1 2) (List.map some [(lvI r.used), (lvI r.credit), (lvI r.last)]) := by
 rw [r_copied] at h
 refine SC.of_sw Tryz.func45 R R R ?_
 dsimp only [argS, List.map]
 refine qG (r_box R R R R R R R (r_alloc tb R R R R R (eN (sw_seq (sw_dr (by kernel_rfl) (r_bslice tb R R R R R R R R R R R R R (r_fa tb R R R R R R R (r_ldD (y := .arr 1 ((s.used).map vI)) tb R R R R R R R R R ?_))))))))
 obtain ⟨q, iq, h⟩ := bnd h
 refine r_apEM (g := vI) (w := ([] : List Int)) (v := s.used) ([some ⟨4, [.d (WiState.d s)]⟩, some ⟨4, [.d (.agg [.v (.slice none 0 0), .v (.slice none 0 0), .v (.slice none 0 0), .v (.int .i64 0)])]⟩, none]) tb R R R R R R R R (by intro _; exact R) iq R R R R R (r_bslice tb R R R R R R R R R R R R R (r_fa tb R R R R R R R (r_ldD (y := .arr 1 ((s.credit).map vI)) tb R R R R R R R R R ?_)))
 obtain ⟨q2, iq2, h⟩ := bnd h
 refine r_apEM (g := vI) (w := ([] : List Int)) (v := s.credit) ([some ⟨4, [.d (WiState.d s)]⟩, some ⟨4, [.d (.agg [.v (.slice none 0 0), .v (.slice none 0 0), .v (.slice none 0 0), .v (.int .i64 0)])]⟩, none, some (lvI q), none]) tb R R R R R R R R (by intro _; exact R) iq2 R R R R R (r_bslice tb R R R R R R R R R R R R R (r_fa tb R R R R R R R (r_ldD (y := .arr 1 ((s.last).map vI)) tb R R R R R R R R R ?_)))
 obtain ⟨q3, iq3, h⟩ := bnd h
 refine r_apEM (g := vI) (w := ([] : List Int)) (v := s.last) ([some ⟨4, [.d (WiState.d s)]⟩, some ⟨4, [.d (.agg [.v (.slice none 0 0), .v (.slice none 0 0), .v (.slice none 0 0), .v (.int .i64 0)])]⟩, none, some (lvI q), none, some (lvI q2), none]) tb R R R R R R R R (by intro _; exact R) iq3 R R R R R (r_fa tb R R R R R R R (r_ldD (y := .v (.int .i64 s.next)) tb R R R R R R R R R (r_build (v := WiState_T1 (WiState.mk q q2 q3 s.next) 3 5 7) tb R R (List.cons_ne_nil _ _) R R R R R R ?_)))
 refine r_stE _ ([some ⟨4, [.d (WiState.d s)]⟩, some ⟨4, [WiState_T1 (WiState.mk q q2 q3 s.next) 3 5 7]⟩, none, some (lvI q), none, some (lvI q2), none, some (lvI q3)]) tb R R R R R R R R R R R R (ev_endD (by kernel_rfl) (then_norm (sw_ret ?_)))
 obtain rfl := sI h
 exact (fin_S (t := WiState_T1 (WiState.mk q q2 q3 s.next) 0 1 2) (L := [some (lvI q), some (lvI q2), some (lvI q3)]) (κ := [3, 5, 7]) R (.cons (rcell tb (u := WiState_T1 (WiState.mk q q2 q3 s.next) 3 5 7) R R R R R R R) .nil) (vwK R R (.row R (.row R (.row R .nil))) (.cons R R .nil)) ⟨R, R⟩)
theorem r_copied_pc {F : Nat} {s : WiState} {r : WiState} (h : r_copied F s = some r) : PC Tryz.prog 45 [WiState.d s] (WiState.d r) := (r_copied_scr h).toPC (.aggL (.cons (.row rfl rfl) (.cons (.row rfl rfl) (.cons (.row rfl rfl) (.cons (.d _) .nil)))))
def r_Start (F : Nat) (p : WiPlan) : Option (WiState × Int) := Option.bind (r_Check F p) fun rv => if rv.2.2 = 0 then (Option.bind (r_start F p) fun rv2 => some (rv2, 0)) else (some ((WiState.mk ([] : List Int) ([] : List Int) ([] : List Int) 0), rv.2.2))
theorem r_Start_scr {F : Nat} {p : WiPlan} {r : (WiState × Int)} (h : r_Start F p = some r) : SCR Tryz.prog 13 (List.map T.d [WiPlan.d p]) [] (.tup [WiState_T1 r.1 0 1 2, .d (.v (.int .i64 r.2))]) (List.map some [(lvI r.1.used), (lvI r.1.credit), (lvI r.1.last)]) := by
 rw [r_Start] at h
 refine SC.of_sw Tryz.func13 R R R ?_
 dsimp only [argS, List.map]
 refine qG (r_box R R R R R R R (r_alloc tb R R R R R (r_asgD R R R (eN (qG (r_ldD (y := WiPlan.d p) tb R R R R R R R R R ?_))))))
 obtain ⟨rv, hrv, h⟩ := bnd h
 refine r_call (r_Check_pc hrv) (.of (by kernel_rfl)) R R R R (r_movD R R R (r_extD (t := .v (.int .i64 rv.1)) R R R R (r_extD (t := .v (.int .i64 rv.2.1)) R R R R (r_extD (t := .v (.int .i64 rv.2.2)) R R R R (r_asgD R R R (r_asgD R R R (r_asgD R R R (eN (sw_seq (qG (r_movD R R R ?_)))))))))))
 refine r_neq R R R R ?_ ?_
 ·intro c
  replace h := ifN c h
  refine eN (sw_condT R (qG (r_build (v := .d (.agg [.v (.slice none 0 0), .v (.slice none 0 0), .v (.slice none 0 0), .v (.int .i64 0)])) tb R R (List.cons_ne_nil _ _) R R R R R R (r_movD R R R (r_stE _ ([some ⟨4, [.d (WiPlan.d p)]⟩, some ⟨4, [.d (.agg [.v (.slice none 0 0), .v (.slice none 0 0), .v (.slice none 0 0), .v (.int .i64 0)])]⟩]) tb R R R R R R R R R R R R (r_asgD R R R (eN ?_)))))))
  refine SW.own (ts' := [(2, .ref 1 4 0 0), (3, .d (.v (.int .i64 rv.2.2)))]) (L' := [some ⟨4, [.d (WiPlan.d p)]⟩, some ⟨4, [.agg [.row 2 1 0 (([] : List Int)).length, .d (.v (.slice none 0 0)), .d (.v (.slice none 0 0)), .d (.v (.int .i64 0))]]⟩]) 1 R R (.cons (.same _) (.cons (.same _) .nil)) (.same (.cons R (.cons (.aggDL (.cons .nil (.cons (.same _) (.cons (.same _) (.cons (.same _) .nil))))) .nil) .nil)) ?_
  simp only [List.cons_append, List.nil_append]
  refine SW.own (ts' := [(2, .ref 1 4 0 0), (3, .d (.v (.int .i64 rv.2.2)))]) (L' := [some ⟨4, [.d (WiPlan.d p)]⟩, some ⟨4, [.agg [.row 2 1 0 (([] : List Int)).length, .row 3 1 0 (([] : List Int)).length, .d (.v (.slice none 0 0)), .d (.v (.int .i64 0))]]⟩, some (lvI ([] : List Int))]) 1 R R (.cons (.same _) (.cons (.same _) .nil)) (.same (.cons R (.cons (.aggL (.cons (.same _) (.cons .nil (.cons (.same _) (.cons (.same _) .nil))))) .nil) (.same .nil))) ?_
  simp only [List.cons_append, List.nil_append]
  refine SW.own (ts' := [(2, .ref 1 4 0 0), (3, .d (.v (.int .i64 rv.2.2)))]) (L' := [some ⟨4, [.d (WiPlan.d p)]⟩, some ⟨4, [WiState_T1 (WiState.mk ([] : List Int) ([] : List Int) ([] : List Int) 0) 2 3 4]⟩, some (lvI ([] : List Int)), some (lvI ([] : List Int))]) 1 R R (.cons (.same _) (.cons (.same _) .nil)) (.same (.cons R (.cons (.aggL (.cons (.same _) (.cons (.same _) (.cons .nil (.cons (.same _) .nil))))) .nil) (.same (.same .nil)))) ?_
  simp only [List.cons_append, List.nil_append]
  refine sw_ret (then_ret ?_)
  obtain rfl := sI h
  exact (fin_S (t := .tup [WiState_T1 (WiState.mk ([] : List Int) ([] : List Int) ([] : List Int) 0) 0 1 2, .d (.v (.int .i64 rv.2.2))]) (L := [some (lvI ([] : List Int)), some (lvI ([] : List Int)), some (lvI ([] : List Int))]) (κ := [2, 3, 4]) R (.cons (rcell tb (u := WiState_T1 (WiState.mk ([] : List Int) ([] : List Int) ([] : List Int) 0) 2 3 4) R R R R R R R) (.cons (.tmp 3) .nil)) (vwK R R (.row R (.row R (.row R .nil))) (.cons R R .nil)) ⟨R, R⟩)
 intro c
 replace h := ifP c h
 refine eN (sw_condF R (sw_skip (then_norm (qG (r_ldD (y := WiPlan.d p) tb R R R R R R R R R ?_)))))
 obtain ⟨rv2, hrv2, h⟩ := bnd h
 refine r_callN (t' := WiState_T1 rv2 2 3 4) (news' := [(lvI rv2.used), (lvI rv2.credit), (lvI rv2.last)]) (r_start_scr hrv2) (.of (by kernel_rfl)) R R R ((.row (.row (.row .nil)))) R R R (r_stE _ ([some ⟨4, [.d (WiPlan.d p)]⟩, some ⟨4, [WiState_T1 rv2 2 3 4]⟩, some (lvI rv2.used), some (lvI rv2.credit), some (lvI rv2.last)]) tb R R R R R R R R R R R R (r_asgD R R R (eN (sw_ret ?_))))
 obtain rfl := sI h
 exact (fin_S (t := .tup [WiState_T1 rv2 0 1 2, .d (.v (.int .i64 0))]) (L := [some (lvI rv2.used), some (lvI rv2.credit), some (lvI rv2.last)]) (κ := [2, 3, 4]) R (.cons (rcell tb (u := WiState_T1 rv2 2 3 4) R R R R R R R) (.cons (.tmp 3) .nil)) (vwK R R (.row R (.row R (.row R .nil))) (.cons R R .nil)) ⟨R, R⟩)
theorem r_Start_pc {F : Nat} {p : WiPlan} {r : (WiState × Int)} (h : r_Start F p = some r) : PC Tryz.prog 13 [WiPlan.d p] (.tup [WiState.d r.1, .v (.int .i64 r.2)]) := (r_Start_scr h).toPC (.tupL (.cons (.aggL (.cons (.row rfl rfl) (.cons (.row rfl rfl) (.cons (.row rfl rfl) (.cons (.d _) .nil))))) (.cons (.d _) .nil)))
def r_CheckState_L1 (F : Nat) (t : WiPlan) (o : WiState) (K : Bool → Int → Option Int) : Nat → Bool → Int → Option Int
 | 0, _, _ => none
 | n + 1, x2, x3 => if x3 < (t.teams.length : Int) then (if x2 = true then (Option.bind (ixO o.used x3) fun e => Option.bind (r_in F e 0 100) fun rv3 => if rv3 = true then (Option.bind (ixO o.credit x3) fun e2 => Option.bind (r_in F e2 (-100000) 200000) fun rv4 => if rv4 = true then (Option.bind (ixO o.last x3) fun e3 => Option.bind (r_in F e3 (-1) 3650) fun rv5 => if rv5 = true then (r_CheckState_L1 F t o K n true (W (x3 + 1))) else (r_CheckState_L1 F t o K n false (W (x3 + 1)))) else (r_CheckState_L1 F t o K n false (W (x3 + 1)))) else (r_CheckState_L1 F t o K n false (W (x3 + 1)))) else (r_CheckState_L1 F t o K n false (W (x3 + 1)))) else (K x2 x3)
def r_CheckState_L2 (F : Nat) (t : WiPlan) (o : WiState) (K : Bool → Int → Option Int) : Nat → Bool → Int → Option Int
 | 0, _, _ => none
 | n + 1, x4, x5 => if x5 < (t.teams.length : Int) then (if x4 = true then (Option.bind (ixO o.used x5) fun e4 => Option.bind (r_in F e4 0 100) fun rv6 => if rv6 = true then (Option.bind (ixO o.credit x5) fun e5 => Option.bind (r_in F e5 (-100000) 200000) fun rv7 => if rv7 = true then (Option.bind (ixO o.last x5) fun e6 => Option.bind (r_in F e6 (-1) 3650) fun rv8 => if rv8 = true then (r_CheckState_L2 F t o K n true (W (x5 + 1))) else (r_CheckState_L2 F t o K n false (W (x5 + 1)))) else (r_CheckState_L2 F t o K n false (W (x5 + 1)))) else (r_CheckState_L2 F t o K n false (W (x5 + 1)))) else (r_CheckState_L2 F t o K n false (W (x5 + 1)))) else (K x4 x5)
def r_CheckState (F : Nat) (t : WiPlan) (o : WiState) : Option Int := Option.bind (r_Check F t) fun rv => if rv.2.2 = 0 then (if (o.used.length : Int) = (t.teams.length : Int) then (if (o.credit.length : Int) = (t.teams.length : Int) then (if (o.last.length : Int) = (t.teams.length : Int) then (Option.bind (r_in F o.next 0 (t.windows.length : Int)) fun rv2 => if rv2 = true then (r_CheckState_L1 F t o (fun (x2 : Bool) (x3 : Int) => if x2 = true then (some 0) else (some 7)) F true 0) else (r_CheckState_L2 F t o (fun (x4 : Bool) (x5 : Int) => if x4 = true then (some 0) else (some 7)) F false 0)) else (some 2)) else (some 2)) else (some 2)) else (some rv.2.2)
theorem r_CheckState_pc {F : Nat} {t : WiPlan} {o : WiState} {r : Int} (h : r_CheckState F t o = some r) : PC Tryz.prog 64 [WiPlan.d t, WiState.d o] (.v (.int .i64 r)) := by
 rw [r_CheckState] at h
 refine SC.of_sw Tryz.func64 R R R ?_
 dsimp only [argS, List.map]
 refine qG (r_box R R R R R R R (r_box R R R R R R R (r_asgD R R R (eN (qG (r_ldD (y := WiPlan.d t) tb R R R R R R R R R ?_))))))
 obtain ⟨rv, hrv, h⟩ := bnd h
 refine r_call (r_Check_pc hrv) (.of (by kernel_rfl)) R R R R (r_movD R R R (r_extD (t := .v (.int .i64 rv.1)) R R R R (r_extD (t := .v (.int .i64 rv.2.1)) R R R R (r_extD (t := .v (.int .i64 rv.2.2)) R R R R (r_asgD R R R (r_asgD R R R (r_asgD R R R (eN (sw_seq (qG (r_movD R R R ?_)))))))))))
 refine r_neq R R R R ?_ ?_
 ·intro c
  replace h := ifN c h
  refine eN (sw_condT R (qG (r_movD R R R (r_asgD R R R (eN (sw_ret (then_ret ?_)))))))
  obtain rfl := sI h
  exact fin_0 (t := .d (.v (.int .i64 rv.2.2))) R R R (.cons (.tmp 4) .nil)
 intro c
 replace h := ifP c h
 refine eN (sw_condF R (sw_skip (then_norm (qG (r_fa tb R R R R R R R (r_ldD (y := .arr 9 ((t.teams).map WiTeam.d)) tb R R R R R R R R R (r_lenM tb R R R R R (r_asgD R R R (eN (sw_seq (qG (r_fa tb R R R R R R R (r_ldD (y := .arr 1 ((o.used).map vI)) tb R R R R R R R R R (r_lenM tb R R R R R (r_movD R R R ?_)))))))))))))))
 refine r_neq R R R R ?_ ?_
 ·intro c2
  replace h := ifN c2 h
  refine r_movD R R R (r_skip R R R (r_skip R R R (r_skip R R R (r_skip R R R (r_skip R R R (r_pickT R R R R (r_movD R R R (r_skip R R R (r_skip R R R (r_skip R R R (r_skip R R R (r_skip R R R (r_pickT R R R R (eN (sw_condT R (qG (r_asgD R R R (eN (sw_ret (then_ret ?_))))))))))))))))))))
  obtain rfl := sI h
  exact fin_0 (t := .d (.v (.int .i64 2))) R R R (.cons (.tmp 4) .nil)
 intro c2
 replace h := ifP c2 h
 refine r_movD R R R (r_fa tb R R R R R R R (r_ldD (y := .arr 1 ((o.credit).map vI)) tb R R R R R R R R R (r_lenM tb R R R R R (r_movD R R R ?_))))
 refine r_neq R R R R ?_ ?_
 ·intro c3
  replace h := ifN c3 h
  refine r_pickF R R R R (r_movD R R R (r_skip R R R (r_skip R R R (r_skip R R R (r_skip R R R (r_skip R R R (r_pickT R R R R (eN (sw_condT R (qG (r_asgD R R R (eN (sw_ret (then_ret ?_))))))))))))))
  obtain rfl := sI h
  exact fin_0 (t := .d (.v (.int .i64 2))) R R R (.cons (.tmp 4) .nil)
 intro c3
 replace h := ifP c3 h
 refine r_pickF R R R R (r_movD R R R (r_fa tb R R R R R R R (r_ldD (y := .arr 1 ((o.last).map vI)) tb R R R R R R R R R (r_lenM tb R R R R R (r_movD R R R ?_)))))
 refine r_neq R R R R ?_ ?_
 ·intro c4
  replace h := ifN c4 h
  refine r_pickF R R R R (eN (sw_condT R (qG (r_asgD R R R (eN (sw_ret (then_ret ?_)))))))
  obtain rfl := sI h
  exact fin_0 (t := .d (.v (.int .i64 2))) R R R (.cons (.tmp 4) .nil)
 intro c4
 replace h := ifP c4 h
 refine r_pickF R R R R (eN (sw_condF R (sw_skip (then_norm (qG (r_fa tb R R R R R R R (r_ldD (y := .v (.int .i64 o.next)) tb R R R R R R R R R (r_fa tb R R R R R R R (r_ldD (y := .arr 3 ((t.windows).map WiWindow.d)) tb R R R R R R R R R (r_lenM tb R R R R R ?_))))))))))
 obtain ⟨rv2, hrv2, h⟩ := bnd h
 refine r_callB (r_in_pc hrv2) (.of (by kernel_rfl)) R R R R ?_ ?_
 ·intro c5
  replace h := ifP c5 h
  refine r_asgD R R R (eN (sw_seq (qG (r_asgD R R R (eN (sw_block ?_))))))
  obtain ⟨K3, hK3, h⟩ : ∃ K, K = _ ∧ r_CheckState_L1 F t o K F true 0 = some r := ⟨_, rfl, h⟩
  refine sw_loop (st0 := ⟨[(3, .ref 0 4 0 0), (4, .d (.v (.int .i64 0))), (8, .d (.v (.int .i64 (t.teams.length : Int)))), (9, .d (.v (.bool true))), (10, .d (.v (.int .i64 0)))], [some ⟨4, [.d (WiState.d o)]⟩]⟩) (κ := [1]) (fun m st => ∃ (x2 : Bool) (x3 : Int), r_CheckState_L1 F t o K3 m x2 x3 = some r ∧ st = ⟨[(3, .ref 0 4 0 0), (4, .d (.v (.int .i64 0))), (8, .d (.v (.int .i64 (t.teams.length : Int)))), (9, .d (.v (.bool x2))), (10, .d (.v (.int .i64 x3)))], [some ⟨4, [.d (WiState.d o)]⟩]⟩) (vwK R R (.cons R R .nil) (.cons R R (.cons R R (.cons R R (.cons R R (.cons R R .nil)))))) ⟨true, 0, h, R⟩ ?_
  clear h
  rintro m3 st ⟨x2, x3, h, rfl⟩
  cases m3 with
  | zero => cases (show (none : Option Int) = some r from h)
  | succ m3 =>
  rw [r_CheckState_L1] at h
  refine sw_seq (qG (r_movD R R R (r_movD R R R ?_)))
  refine r_lss R R R R ?_ ?_
  ·intro c6
   replace h := ifP c6 h
   refine eN (sw_condT R (sw_skip (then_norm (sw_seq (sw_block (sw_rg (r_movD R R R ?_)))))))
   with_reducible apply ev_lit
   ·intro c7
    replace h := ifP c7 h
    refine r_movD R R R (r_fa tb R R R R R R R (r_ldD (y := .arr 1 ((o.used).map vI)) tb R R R R R R R R R (r_movD R R R ?_)))
    obtain ⟨e, ie, h⟩ := bnd h
    refine r_ixE tb R R R R R R (ix0 ie) (ix1m ie) R R (r_ldE (y := .v (.int .i64 e)) tb R R (ix2 (g := vI) ie) R R R R ?_)
    obtain ⟨rv3, hrv3, h⟩ := bnd h
    refine r_callB (r_in_pc hrv3) (.of (by kernel_rfl)) R R R R ?_ ?_
    ·intro c8
     replace h := ifP c8 h
     refine r_pickT R R R R (r_movD R R R (r_fa tb R R R R R R R (r_ldD (y := .arr 1 ((o.credit).map vI)) tb R R R R R R R R R (r_movD R R R ?_))))
     obtain ⟨e2, ie2, h⟩ := bnd h
     refine r_ixE tb R R R R R R (ix0 ie2) (ix1m ie2) R R (r_ldE (y := .v (.int .i64 e2)) tb R R (ix2 (g := vI) ie2) R R R R ?_)
     obtain ⟨rv4, hrv4, h⟩ := bnd h
     refine r_callB (r_in_pc hrv4) (.of (by kernel_rfl)) R R R R ?_ ?_
     ·intro c9
      replace h := ifP c9 h
      refine r_pickT R R R R (r_movD R R R (r_fa tb R R R R R R R (r_ldD (y := .arr 1 ((o.last).map vI)) tb R R R R R R R R R (r_movD R R R ?_))))
      obtain ⟨e3, ie3, h⟩ := bnd h
      refine r_ixE tb R R R R R R (ix0 ie3) (ix1m ie3) R R (r_ldE (y := .v (.int .i64 e3)) tb R R (ix2 (g := vI) ie3) R R R R ?_)
      obtain ⟨rv5, hrv5, h⟩ := bnd h
      refine r_callB (r_in_pc hrv5) (.of (by kernel_rfl)) R R R R ?_ ?_
      ·intro c10
       replace h := ifP c10 h
       refine r_pickT R R R R (r_asgD R R R (ev_end (block_norm (then_norm (sw_rg (r_movD R R R (r_add R R R R (r_asgD R R R (eN ?_)))))))))
       exact ⟨m3, ⟨[(3, .ref 0 4 0 0), (4, .d (.v (.int .i64 0))), (8, .d (.v (.int .i64 (t.teams.length : Int)))), (9, .d (.v (.bool true))), (10, .d (.v (.int .i64 (W (x3 + 1)))))], [some ⟨4, [.d (WiState.d o)]⟩]⟩, [0], Nat.lt_succ_self _, (vwK R R (.cons R R .nil) (.cons R R (.cons R R (.cons R R (.cons R R (.cons R R .nil)))))), true, (W (x3 + 1)), h, R⟩
      intro c10
      replace h := ifF c10 h
      refine r_pickT R R R R (r_asgD R R R (ev_end (block_norm (then_norm (sw_rg (r_movD R R R (r_add R R R R (r_asgD R R R (eN ?_)))))))))
      exact ⟨m3, ⟨[(3, .ref 0 4 0 0), (4, .d (.v (.int .i64 0))), (8, .d (.v (.int .i64 (t.teams.length : Int)))), (9, .d (.v (.bool false))), (10, .d (.v (.int .i64 (W (x3 + 1)))))], [some ⟨4, [.d (WiState.d o)]⟩]⟩, [0], Nat.lt_succ_self _, (vwK R R (.cons R R .nil) (.cons R R (.cons R R (.cons R R (.cons R R (.cons R R .nil)))))), false, (W (x3 + 1)), h, R⟩
     intro c9
     replace h := ifF c9 h
     refine r_pickT R R R R (r_movD R R R (r_skip R R R (r_skip R R R (r_skip R R R (r_skip R R R (r_skip R R R (r_skip R R R (r_pickF R R R R (r_asgD R R R (ev_end (block_norm (then_norm (sw_rg (r_movD R R R (r_add R R R R (r_asgD R R R (eN ?_)))))))))))))))))
     exact ⟨m3, ⟨[(3, .ref 0 4 0 0), (4, .d (.v (.int .i64 0))), (8, .d (.v (.int .i64 (t.teams.length : Int)))), (9, .d (.v (.bool false))), (10, .d (.v (.int .i64 (W (x3 + 1)))))], [some ⟨4, [.d (WiState.d o)]⟩]⟩, [0], Nat.lt_succ_self _, (vwK R R (.cons R R .nil) (.cons R R (.cons R R (.cons R R (.cons R R (.cons R R .nil)))))), false, (W (x3 + 1)), h, R⟩
    intro c8
    replace h := ifF c8 h
    refine r_pickT R R R R (r_movD R R R (r_skip R R R (r_skip R R R (r_skip R R R (r_skip R R R (r_skip R R R (r_skip R R R (r_pickF R R R R (r_movD R R R (r_skip R R R (r_skip R R R (r_skip R R R (r_skip R R R (r_skip R R R (r_skip R R R (r_pickF R R R R (r_asgD R R R (ev_end (block_norm (then_norm (sw_rg (r_movD R R R (r_add R R R R (r_asgD R R R (eN ?_)))))))))))))))))))))))))
    exact ⟨m3, ⟨[(3, .ref 0 4 0 0), (4, .d (.v (.int .i64 0))), (8, .d (.v (.int .i64 (t.teams.length : Int)))), (9, .d (.v (.bool false))), (10, .d (.v (.int .i64 (W (x3 + 1)))))], [some ⟨4, [.d (WiState.d o)]⟩]⟩, [0], Nat.lt_succ_self _, (vwK R R (.cons R R .nil) (.cons R R (.cons R R (.cons R R (.cons R R (.cons R R .nil)))))), false, (W (x3 + 1)), h, R⟩
   intro c7
   replace h := ifF c7 h
   refine r_movD R R R (r_skip R R R (r_skip R R R (r_skip R R R (r_skip R R R (r_skip R R R (r_skip R R R (r_pickF R R R R (r_movD R R R (r_skip R R R (r_skip R R R (r_skip R R R (r_skip R R R (r_skip R R R (r_skip R R R (r_pickF R R R R (r_movD R R R (r_skip R R R (r_skip R R R (r_skip R R R (r_skip R R R (r_skip R R R (r_skip R R R (r_pickF R R R R (r_asgD R R R (ev_end (block_norm (then_norm (sw_rg ?_))))))))))))))))))))))))))))
   refine r_movD R R R (r_add R R R R (r_asgD R R R (eN ?_)))
   exact ⟨m3, ⟨[(3, .ref 0 4 0 0), (4, .d (.v (.int .i64 0))), (8, .d (.v (.int .i64 (t.teams.length : Int)))), (9, .d (.v (.bool false))), (10, .d (.v (.int .i64 (W (x3 + 1)))))], [some ⟨4, [.d (WiState.d o)]⟩]⟩, [0], Nat.lt_succ_self _, (vwK R R (.cons R R .nil) (.cons R R (.cons R R (.cons R R (.cons R R (.cons R R .nil)))))), false, (W (x3 + 1)), h, R⟩
  intro c6
  replace h := ifN (Int.not_lt.2 c6) h
  refine eN (sw_condF R (sw_exit (then_exit (then_exit ?_))))
  subst hK3
  refine block_exit (then_norm (sw_seq (qG (r_movD R R R ?_))))
  with_reducible apply ev_lit
  ·intro c11
   replace h := ifP c11 h
   refine r_notT R R R (eN (sw_condF R (sw_skip (then_norm (qG (r_asgD R R R (eN (sw_ret ?_))))))))
   obtain rfl := sI h
   exact fin_0 (t := .d (.v (.int .i64 0))) R R R (.cons (.tmp 4) .nil)
  intro c11
  replace h := ifF c11 h
  refine r_notF R R R (eN (sw_condT R (qG (r_asgD R R R (eN (sw_ret (then_ret ?_)))))))
  obtain rfl := sI h
  exact fin_0 (t := .d (.v (.int .i64 7))) R R R (.cons (.tmp 4) .nil)
 intro c5
 replace h := ifF c5 h
 refine r_asgD R R R (eN (sw_seq (qG (r_asgD R R R (eN (sw_block ?_))))))
 obtain ⟨K4, hK4, h⟩ : ∃ K, K = _ ∧ r_CheckState_L2 F t o K F false 0 = some r := ⟨_, rfl, h⟩
 refine sw_loop (st0 := ⟨[(3, .ref 0 4 0 0), (4, .d (.v (.int .i64 0))), (8, .d (.v (.int .i64 (t.teams.length : Int)))), (9, .d (.v (.bool false))), (10, .d (.v (.int .i64 0)))], [some ⟨4, [.d (WiState.d o)]⟩]⟩) (κ := [1]) (fun m st => ∃ (x4 : Bool) (x5 : Int), r_CheckState_L2 F t o K4 m x4 x5 = some r ∧ st = ⟨[(3, .ref 0 4 0 0), (4, .d (.v (.int .i64 0))), (8, .d (.v (.int .i64 (t.teams.length : Int)))), (9, .d (.v (.bool x4))), (10, .d (.v (.int .i64 x5)))], [some ⟨4, [.d (WiState.d o)]⟩]⟩) (vwK R R (.cons R R .nil) (.cons R R (.cons R R (.cons R R (.cons R R (.cons R R .nil)))))) ⟨false, 0, h, R⟩ ?_
 clear h
 rintro m4 st ⟨x4, x5, h, rfl⟩
 cases m4 with
 | zero => cases (show (none : Option Int) = some r from h)
 | succ m4 =>
 rw [r_CheckState_L2] at h
 refine sw_seq (qG (r_movD R R R (r_movD R R R ?_)))
 refine r_lss R R R R ?_ ?_
 ·intro c12
  replace h := ifP c12 h
  refine eN (sw_condT R (sw_skip (then_norm (sw_seq (sw_block (sw_rg (r_movD R R R ?_)))))))
  with_reducible apply ev_lit
  ·intro c13
   replace h := ifP c13 h
   refine r_movD R R R (r_fa tb R R R R R R R (r_ldD (y := .arr 1 ((o.used).map vI)) tb R R R R R R R R R (r_movD R R R ?_)))
   obtain ⟨e4, ie4, h⟩ := bnd h
   refine r_ixE tb R R R R R R (ix0 ie4) (ix1m ie4) R R (r_ldE (y := .v (.int .i64 e4)) tb R R (ix2 (g := vI) ie4) R R R R ?_)
   obtain ⟨rv6, hrv6, h⟩ := bnd h
   refine r_callB (r_in_pc hrv6) (.of (by kernel_rfl)) R R R R ?_ ?_
   ·intro c14
    replace h := ifP c14 h
    refine r_pickT R R R R (r_movD R R R (r_fa tb R R R R R R R (r_ldD (y := .arr 1 ((o.credit).map vI)) tb R R R R R R R R R (r_movD R R R ?_))))
    obtain ⟨e5, ie5, h⟩ := bnd h
    refine r_ixE tb R R R R R R (ix0 ie5) (ix1m ie5) R R (r_ldE (y := .v (.int .i64 e5)) tb R R (ix2 (g := vI) ie5) R R R R ?_)
    obtain ⟨rv7, hrv7, h⟩ := bnd h
    refine r_callB (r_in_pc hrv7) (.of (by kernel_rfl)) R R R R ?_ ?_
    ·intro c15
     replace h := ifP c15 h
     refine r_pickT R R R R (r_movD R R R (r_fa tb R R R R R R R (r_ldD (y := .arr 1 ((o.last).map vI)) tb R R R R R R R R R (r_movD R R R ?_))))
     obtain ⟨e6, ie6, h⟩ := bnd h
     refine r_ixE tb R R R R R R (ix0 ie6) (ix1m ie6) R R (r_ldE (y := .v (.int .i64 e6)) tb R R (ix2 (g := vI) ie6) R R R R ?_)
     obtain ⟨rv8, hrv8, h⟩ := bnd h
     refine r_callB (r_in_pc hrv8) (.of (by kernel_rfl)) R R R R ?_ ?_
     ·intro c16
      replace h := ifP c16 h
      refine r_pickT R R R R (r_asgD R R R (ev_end (block_norm (then_norm (sw_rg (r_movD R R R (r_add R R R R (r_asgD R R R (eN ?_)))))))))
      exact ⟨m4, ⟨[(3, .ref 0 4 0 0), (4, .d (.v (.int .i64 0))), (8, .d (.v (.int .i64 (t.teams.length : Int)))), (9, .d (.v (.bool true))), (10, .d (.v (.int .i64 (W (x5 + 1)))))], [some ⟨4, [.d (WiState.d o)]⟩]⟩, [0], Nat.lt_succ_self _, (vwK R R (.cons R R .nil) (.cons R R (.cons R R (.cons R R (.cons R R (.cons R R .nil)))))), true, (W (x5 + 1)), h, R⟩
     intro c16
     replace h := ifF c16 h
     refine r_pickT R R R R (r_asgD R R R (ev_end (block_norm (then_norm (sw_rg (r_movD R R R (r_add R R R R (r_asgD R R R (eN ?_)))))))))
     exact ⟨m4, ⟨[(3, .ref 0 4 0 0), (4, .d (.v (.int .i64 0))), (8, .d (.v (.int .i64 (t.teams.length : Int)))), (9, .d (.v (.bool false))), (10, .d (.v (.int .i64 (W (x5 + 1)))))], [some ⟨4, [.d (WiState.d o)]⟩]⟩, [0], Nat.lt_succ_self _, (vwK R R (.cons R R .nil) (.cons R R (.cons R R (.cons R R (.cons R R (.cons R R .nil)))))), false, (W (x5 + 1)), h, R⟩
    intro c15
    replace h := ifF c15 h
    refine r_pickT R R R R (r_movD R R R (r_skip R R R (r_skip R R R (r_skip R R R (r_skip R R R (r_skip R R R (r_skip R R R (r_pickF R R R R (r_asgD R R R (ev_end (block_norm (then_norm (sw_rg (r_movD R R R (r_add R R R R (r_asgD R R R (eN ?_)))))))))))))))))
    exact ⟨m4, ⟨[(3, .ref 0 4 0 0), (4, .d (.v (.int .i64 0))), (8, .d (.v (.int .i64 (t.teams.length : Int)))), (9, .d (.v (.bool false))), (10, .d (.v (.int .i64 (W (x5 + 1)))))], [some ⟨4, [.d (WiState.d o)]⟩]⟩, [0], Nat.lt_succ_self _, (vwK R R (.cons R R .nil) (.cons R R (.cons R R (.cons R R (.cons R R (.cons R R .nil)))))), false, (W (x5 + 1)), h, R⟩
   intro c14
   replace h := ifF c14 h
   refine r_pickT R R R R (r_movD R R R (r_skip R R R (r_skip R R R (r_skip R R R (r_skip R R R (r_skip R R R (r_skip R R R (r_pickF R R R R (r_movD R R R (r_skip R R R (r_skip R R R (r_skip R R R (r_skip R R R (r_skip R R R (r_skip R R R (r_pickF R R R R (r_asgD R R R (ev_end (block_norm (then_norm (sw_rg (r_movD R R R (r_add R R R R (r_asgD R R R (eN ?_)))))))))))))))))))))))))
   exact ⟨m4, ⟨[(3, .ref 0 4 0 0), (4, .d (.v (.int .i64 0))), (8, .d (.v (.int .i64 (t.teams.length : Int)))), (9, .d (.v (.bool false))), (10, .d (.v (.int .i64 (W (x5 + 1)))))], [some ⟨4, [.d (WiState.d o)]⟩]⟩, [0], Nat.lt_succ_self _, (vwK R R (.cons R R .nil) (.cons R R (.cons R R (.cons R R (.cons R R (.cons R R .nil)))))), false, (W (x5 + 1)), h, R⟩
  intro c13
  replace h := ifF c13 h
  refine r_movD R R R (r_skip R R R (r_skip R R R (r_skip R R R (r_skip R R R (r_skip R R R (r_skip R R R (r_pickF R R R R (r_movD R R R (r_skip R R R (r_skip R R R (r_skip R R R (r_skip R R R (r_skip R R R (r_skip R R R (r_pickF R R R R (r_movD R R R (r_skip R R R (r_skip R R R (r_skip R R R (r_skip R R R (r_skip R R R (r_skip R R R (r_pickF R R R R (r_asgD R R R (ev_end (block_norm (then_norm (sw_rg ?_))))))))))))))))))))))))))))
  refine r_movD R R R (r_add R R R R (r_asgD R R R (eN ?_)))
  exact ⟨m4, ⟨[(3, .ref 0 4 0 0), (4, .d (.v (.int .i64 0))), (8, .d (.v (.int .i64 (t.teams.length : Int)))), (9, .d (.v (.bool false))), (10, .d (.v (.int .i64 (W (x5 + 1)))))], [some ⟨4, [.d (WiState.d o)]⟩]⟩, [0], Nat.lt_succ_self _, (vwK R R (.cons R R .nil) (.cons R R (.cons R R (.cons R R (.cons R R (.cons R R .nil)))))), false, (W (x5 + 1)), h, R⟩
 intro c12
 replace h := ifN (Int.not_lt.2 c12) h
 refine eN (sw_condF R (sw_exit (then_exit (then_exit ?_))))
 subst hK4
 refine block_exit (then_norm (sw_seq (qG (r_movD R R R ?_))))
 with_reducible apply ev_lit
 ·intro c17
  replace h := ifP c17 h
  refine r_notT R R R (eN (sw_condF R (sw_skip (then_norm (qG (r_asgD R R R (eN (sw_ret ?_))))))))
  obtain rfl := sI h
  exact fin_0 (t := .d (.v (.int .i64 0))) R R R (.cons (.tmp 4) .nil)
 intro c17
 replace h := ifF c17 h
 refine r_notF R R R (eN (sw_condT R (qG (r_asgD R R R (eN (sw_ret (then_ret ?_)))))))
 obtain rfl := sI h
 exact fin_0 (t := .d (.v (.int .i64 7))) R R R (.cons (.tmp 4) .nil)
def r_asked (F : Nat) (p : WiPlan) (s : WiState) (sky : WiSky) : Option Int := Option.bind (r_CheckState F p s) fun rv => if rv = 0 then (if s.next = (p.windows.length : Int) then (some 9) else (if rv = 0 then (Option.bind (r_kinds F sky.kinds) fun rv2 => if rv2 = true then (Option.bind (r_in F sky.wind 0 1000) fun rv3 => if rv3 = true then (some rv) else (some 2)) else (some 2)) else (some rv))) else (if rv = 0 then (Option.bind (r_kinds F sky.kinds) fun rv4 => if rv4 = true then (Option.bind (r_in F sky.wind 0 1000) fun rv5 => if rv5 = true then (some rv) else (some 2)) else (some 2)) else (some rv))
theorem r_asked_pc {F : Nat} {p : WiPlan} {s : WiState} {sky : WiSky} {r : Int} (h : r_asked F p s sky = some r) : PC Tryz.prog 44 [WiPlan.d p, WiState.d s, WiSky.d sky] (.v (.int .i64 r)) := by
 rw [r_asked] at h
 refine SC.of_sw Tryz.func44 R R R ?_
 dsimp only [argS, List.map]
 refine qG (r_box R R R R R R R (r_box R R R R R R R (r_box R R R R R R R (r_asgD R R R (eN (qG (r_ldD (y := WiPlan.d p) tb R R R R R R R R R (r_ldD (y := WiState.d s) tb R R R R R R R R R ?_))))))))
 obtain ⟨rv, hrv, h⟩ := bnd h
 refine r_call (r_CheckState_pc hrv) (.of (by kernel_rfl)) R R R R (r_asgD R R R (eN (sw_seq (qG (r_movD R R R ?_)))))
 refine r_eql R R R R ?_ ?_
 ·intro c
  replace h := ifP c h
  refine r_movD R R R (r_fa tb R R R R R R R (r_ldD (y := .v (.int .i64 s.next)) tb R R R R R R R R R (r_fa tb R R R R R R R (r_ldD (y := .arr 3 ((p.windows).map WiWindow.d)) tb R R R R R R R R R (r_lenM tb R R R R R ?_)))))
  refine r_eql R R R R ?_ ?_
  ·intro c2
   replace h := ifP c2 h
   refine r_pickT R R R R (eN (sw_condT R (sw_rg (r_asgD R R R (eN (sw_seq (qG (r_movD R R R ?_))))))))
   refine r_eql R R R R ?_ ?_
   ·intro c3; exact absurd c3 (by decide)
   intro _
   refine r_movD R R R (r_skip R R R (r_skip R R R (r_skip R R R (r_skip R R R (r_skip R R R (r_skip R R R (r_skip R R R (r_skip R R R (r_skip R R R (r_skip R R R (r_pickF R R R R (eN (sw_condF R (sw_skip (then_norm (qG (r_movD R R R (r_asgD R R R (eN (sw_ret ?_))))))))))))))))))))
   obtain rfl := sI h
   exact fin_0 (t := .d (.v (.int .i64 9))) R R R (.cons (.tmp 6) .nil)
  intro c2
  replace h := ifN c2 h
  refine r_pickT R R R R (eN (sw_condF R (sw_skip (then_norm (sw_seq (qG (r_movD R R R ?_)))))))
  refine r_eql R R R R ?_ ?_
  ·intro c4
   replace h := ifP c4 h
   refine r_movD R R R (r_fa tb R R R R R R R (r_ldD (y := .arr 1 ((sky.kinds).map vI)) tb R R R R R R R R R ?_))
   obtain ⟨rv2, hrv2, h⟩ := bnd h
   refine r_callB (r_kinds_pc hrv2) (.of (by kernel_rfl)) R R R R ?_ ?_
   ·intro c5
    replace h := ifP c5 h
    refine r_notT R R R (r_movD R R R (r_fa tb R R R R R R R (r_ldD (y := .v (.int .i64 sky.wind)) tb R R R R R R R R R ?_)))
    obtain ⟨rv3, hrv3, h⟩ := bnd h
    refine r_callB (r_in_pc hrv3) (.of (by kernel_rfl)) R R R R ?_ ?_
    ·intro c6
     replace h := ifP c6 h
     refine r_notT R R R (r_pickF R R R R (r_pickT R R R R (eN (sw_condF R (sw_skip (then_norm (qG (r_movD R R R (r_asgD R R R (eN (sw_ret ?_)))))))))))
     obtain rfl := sI h
     exact fin_0 (t := .d (.v (.int .i64 rv))) R R R (.cons (.tmp 6) .nil)
    intro c6
    replace h := ifF c6 h
    refine r_notF R R R (r_pickF R R R R (r_pickT R R R R (eN (sw_condT R (sw_rg (r_asgD R R R (eN (qG (r_movD R R R (r_asgD R R R (eN (sw_ret ?_))))))))))))
    obtain rfl := sI h
    exact fin_0 (t := .d (.v (.int .i64 2))) R R R (.cons (.tmp 6) .nil)
   intro c5
   replace h := ifF c5 h
   refine r_notF R R R (r_movD R R R (r_skip R R R (r_skip R R R (r_skip R R R (r_skip R R R (r_pickT R R R R (r_pickT R R R R (eN (sw_condT R (sw_rg (r_asgD R R R (eN (qG (r_movD R R R (r_asgD R R R (eN (sw_ret ?_)))))))))))))))))
   obtain rfl := sI h
   exact fin_0 (t := .d (.v (.int .i64 2))) R R R (.cons (.tmp 6) .nil)
  intro c4
  replace h := ifN c4 h
  refine r_movD R R R (r_skip R R R (r_skip R R R (r_skip R R R (r_skip R R R (r_skip R R R (r_skip R R R (r_skip R R R (r_skip R R R (r_skip R R R (r_skip R R R (r_pickF R R R R (eN (sw_condF R (sw_skip (then_norm (qG (r_movD R R R (r_asgD R R R (eN (sw_ret ?_))))))))))))))))))))
  obtain rfl := sI h
  exact fin_0 (t := .d (.v (.int .i64 rv))) R R R (.cons (.tmp 6) .nil)
 intro c
 replace h := ifN c h
 refine r_movD R R R (r_skip R R R (r_skip R R R (r_skip R R R (r_skip R R R (r_skip R R R (r_skip R R R (r_pickF R R R R (eN (sw_condF R (sw_skip (then_norm (sw_seq (qG (r_movD R R R ?_))))))))))))))
 refine r_eql R R R R ?_ ?_
 ·intro c7
  replace h := ifP c7 h
  refine r_movD R R R (r_fa tb R R R R R R R (r_ldD (y := .arr 1 ((sky.kinds).map vI)) tb R R R R R R R R R ?_))
  obtain ⟨rv4, hrv4, h⟩ := bnd h
  refine r_callB (r_kinds_pc hrv4) (.of (by kernel_rfl)) R R R R ?_ ?_
  ·intro c8
   replace h := ifP c8 h
   refine r_notT R R R (r_movD R R R (r_fa tb R R R R R R R (r_ldD (y := .v (.int .i64 sky.wind)) tb R R R R R R R R R ?_)))
   obtain ⟨rv5, hrv5, h⟩ := bnd h
   refine r_callB (r_in_pc hrv5) (.of (by kernel_rfl)) R R R R ?_ ?_
   ·intro c9
    replace h := ifP c9 h
    refine r_notT R R R (r_pickF R R R R (r_pickT R R R R (eN (sw_condF R (sw_skip (then_norm (qG (r_movD R R R (r_asgD R R R (eN (sw_ret ?_)))))))))))
    obtain rfl := sI h
    exact fin_0 (t := .d (.v (.int .i64 rv))) R R R (.cons (.tmp 6) .nil)
   intro c9
   replace h := ifF c9 h
   refine r_notF R R R (r_pickF R R R R (r_pickT R R R R (eN (sw_condT R (sw_rg (r_asgD R R R (eN (qG (r_movD R R R (r_asgD R R R (eN (sw_ret ?_))))))))))))
   obtain rfl := sI h
   exact fin_0 (t := .d (.v (.int .i64 2))) R R R (.cons (.tmp 6) .nil)
  intro c8
  replace h := ifF c8 h
  refine r_notF R R R (r_movD R R R (r_skip R R R (r_skip R R R (r_skip R R R (r_skip R R R (r_pickT R R R R (r_pickT R R R R (eN (sw_condT R (sw_rg (r_asgD R R R (eN (qG (r_movD R R R (r_asgD R R R (eN (sw_ret ?_)))))))))))))))))
  obtain rfl := sI h
  exact fin_0 (t := .d (.v (.int .i64 2))) R R R (.cons (.tmp 6) .nil)
 intro c7
 replace h := ifN c7 h
 refine r_movD R R R (r_skip R R R (r_skip R R R (r_skip R R R (r_skip R R R (r_skip R R R (r_skip R R R (r_skip R R R (r_skip R R R (r_skip R R R (r_skip R R R (r_pickF R R R R (eN (sw_condF R (sw_skip (then_norm (qG (r_movD R R R (r_asgD R R R (eN (sw_ret ?_))))))))))))))))))))
 obtain rfl := sI h
 exact fin_0 (t := .d (.v (.int .i64 rv))) R R R (.cons (.tmp 6) .nil)
def r_rights_L1 (F : Nat) (t : WiPlan) (o : WiState) (K : (List Int) → Int → Option (List Int)) : Nat → (List Int) → Int → Option (List Int)
 | 0, _, _ => none
 | n + 1, lv2, x2 => if 0 < x2 then (Option.bind (ixO lv2 x2) fun e => Option.bind (ixO lv2 (W (x2 - 1))) fun e2 => Option.bind (r_first F t o e e2) fun rv5 => if rv5 = true then (Option.bind (setO lv2 x2 e2) fun lv3 => Option.bind (ixO lv3 (W (x2 - 1))) fun e3 => Option.bind (setO lv3 (W (x2 - 1)) e) fun lv4 => r_rights_L1 F t o K n lv4 (W (x2 - 1))) else (K lv2 x2)) else (K lv2 x2)
def r_rights_L2 (F : Nat) (t : WiPlan) (o : WiState) (a : WiSky) (rv : Int) (rv2 : (List Int)) (K : (List Int) → Int → Option (List Int)) : Nat → (List Int) → Int → Option (List Int)
 | 0, _, _ => none
 | n + 1, lv, x => if x < (t.teams.length : Int) then (Option.bind (r_why F t o a x rv) fun rv3 => if rv3 = 0 then (Option.bind (r_has F rv2 x) fun rv4 => if rv4 = true then (r_rights_L2 F t o a rv rv2 K n lv (W (x + 1))) else (Option.bind (appO lv [x]) fun q => r_rights_L1 F t o (fun (lv2 : (List Int)) (x2 : Int) => r_rights_L2 F t o a rv rv2 K n lv2 (W (x + 1))) F q (W ((q.length : Int) - 1)))) else (r_rights_L2 F t o a rv rv2 K n lv (W (x + 1)))) else (K lv x)
def r_rights (F : Nat) (t : WiPlan) (o : WiState) (a : WiSky) (rv : Int) (rv2 : (List Int)) : Option (List Int) := r_rights_L2 F t o a rv rv2 (fun (lv : (List Int)) (x : Int) => some lv) F ([] : List Int) 0
theorem r_rights_scr {F : Nat} {t : WiPlan} {o : WiState} {a : WiSky} {rv : Int} {rv2 : (List Int)} {r : (List Int)} (h : r_rights F t o a rv rv2 = some r) : SCR Tryz.prog 47 (List.map T.d [WiPlan.d t, WiState.d o, WiSky.d a, .v (.int .i64 rv), .arr 1 ((rv2).map vI)]) [] (.row 0 1 0 (r).length) (List.map some [(lvI r)]) := by
 rw [r_rights] at h
 refine SC.of_sw Tryz.func47 R R R ?_
 dsimp only [argS, List.map]
 refine qG (r_box R R R R R R R (r_box R R R R R R R (r_box R R R R R R R (r_asgD R R R (eN (qG (r_asgD R R R (eN (sw_seq (qG (r_asgD R R R (eN (sw_block ?_)))))))))))))
 refine SW.own (ts' := [(3, .d (.v (.int .i64 rv))), (4, .d (.arr 1 ((rv2).map vI))), (5, .ref 0 4 0 0), (6, .ref 1 4 0 0), (7, .ref 2 2 0 0), (10, .d (.v (.slice none 0 0))), (11, .row 3 1 0 (([] : List Int)).length), (12, .d (.v (.int .i64 0)))]) (L' := [some ⟨4, [.d (WiPlan.d t)]⟩, some ⟨4, [.d (WiState.d o)]⟩, some ⟨2, [.d (WiSky.d a)]⟩]) 1 R R (.cons (.same _) (.cons (.same _) (.cons (.same _) (.cons (.same _) (.cons (.same _) (.cons (.same _) (.cons .nil (.cons (.same _) .nil)))))))) (.same (.same (.same .nil))) ?_
 simp only [List.cons_append, List.nil_append]
 obtain ⟨K1, hK1, h⟩ : ∃ K, K = _ ∧ r_rights_L2 F t o a rv rv2 K F ([] : List Int) 0 = some r := ⟨_, rfl, h⟩
 refine sw_loop (st0 := ⟨[(3, .d (.v (.int .i64 rv))), (4, .d (.arr 1 ((rv2).map vI))), (5, .ref 0 4 0 0), (6, .ref 1 4 0 0), (7, .ref 2 2 0 0), (10, .d (.v (.slice none 0 0))), (11, .row 3 1 0 (([] : List Int)).length), (12, .d (.v (.int .i64 0)))], [some ⟨4, [.d (WiPlan.d t)]⟩, some ⟨4, [.d (WiState.d o)]⟩, some ⟨2, [.d (WiSky.d a)]⟩, some (lvI ([] : List Int))]⟩) (κ := [0, 1, 2, 3]) (fun m st => ∃ (lv : (List Int)) (x : Int), r_rights_L2 F t o a rv rv2 K1 m lv x = some r ∧ st = ⟨[(3, .d (.v (.int .i64 rv))), (4, .d (.arr 1 ((rv2).map vI))), (5, .ref 0 4 0 0), (6, .ref 1 4 0 0), (7, .ref 2 2 0 0), (10, .d (.v (.slice none 0 0))), (11, .row 3 1 0 (lv).length), (12, .d (.v (.int .i64 x)))], [some ⟨4, [.d (WiPlan.d t)]⟩, some ⟨4, [.d (WiState.d o)]⟩, some ⟨2, [.d (WiSky.d a)]⟩, some (lvI lv)]⟩) (vwK R R (.cons R R (.cons R R (.cons R R (.row R .nil)))) (.cons R R (.cons R R (.cons R R (.cons R R (.cons R R (.cons R R (.cons R R (.cons R R .nil))))))))) ⟨([] : List Int), 0, h, R⟩ ?_
 clear h
 rintro m1 st ⟨lv, x, h, rfl⟩
 cases m1 with
 | zero => cases (show (none : Option (List Int)) = some r from h)
 | succ m1 =>
 rw [r_rights_L2] at h
 refine sw_seq (qG (r_movD R R R (r_fa tb R R R R R R R (r_ldD (y := .arr 9 ((t.teams).map WiTeam.d)) tb R R R R R R R R R (r_lenM tb R R R R R ?_)))))
 refine r_lss R R R R ?_ ?_
 ·intro c
  replace h := ifP c h
  refine eN (sw_condT R (sw_skip (then_norm (sw_seq (sw_block (sw_seq (qG (r_ldD (y := WiPlan.d t) tb R R R R R R R R R (r_ldD (y := WiState.d o) tb R R R R R R R R R (r_ldD (y := WiSky.d a) tb R R R R R R R R R (r_movD R R R (r_movD R R R ?_))))))))))))
  obtain ⟨rv3, hrv3, h⟩ := bnd h
  refine r_call (r_why_pc hrv3) (.of (by kernel_rfl)) R R R R ?_
  refine r_neq R R R R ?_ ?_
  ·intro c2
   replace h := ifN c2 h
   refine r_movD R R R (r_skip R R R (r_skip R R R (r_skip R R R (r_pickT R R R R (eN (sw_condT R (sw_exit (then_exit (block_exit (then_norm (sw_rg (r_movD R R R (r_add R R R R (r_asgD R R R (eN ?_)))))))))))))))
   exact ⟨m1, ⟨[(3, .d (.v (.int .i64 rv))), (4, .d (.arr 1 ((rv2).map vI))), (5, .ref 0 4 0 0), (6, .ref 1 4 0 0), (7, .ref 2 2 0 0), (10, .d (.v (.slice none 0 0))), (11, .row 3 1 0 (lv).length), (12, .d (.v (.int .i64 (W (x + 1)))))], [some ⟨4, [.d (WiPlan.d t)]⟩, some ⟨4, [.d (WiState.d o)]⟩, some ⟨2, [.d (WiSky.d a)]⟩, some (lvI lv)]⟩, [0, 1, 2, 3], Nat.lt_succ_self _, (vwK R R (.cons R R (.cons R R (.cons R R (.row R .nil)))) (.cons R R (.cons R R (.cons R R (.cons R R (.cons R R (.cons R R (.cons R R (.cons R R .nil))))))))), lv, (W (x + 1)), h, R⟩
  intro c2
  replace h := ifP c2 h
  refine r_movD R R R (r_movD R R R (r_movD R R R ?_))
  obtain ⟨rv4, hrv4, h⟩ := bnd h
  refine r_callB (r_has_pc hrv4) (.of (by kernel_rfl)) R R R R ?_ ?_
  ·intro c3
   replace h := ifP c3 h
   refine r_pickF R R R R (eN (sw_condT R (sw_exit (then_exit (block_exit (then_norm (sw_rg (r_movD R R R (r_add R R R R (r_asgD R R R (eN ?_)))))))))))
   exact ⟨m1, ⟨[(3, .d (.v (.int .i64 rv))), (4, .d (.arr 1 ((rv2).map vI))), (5, .ref 0 4 0 0), (6, .ref 1 4 0 0), (7, .ref 2 2 0 0), (10, .d (.v (.slice none 0 0))), (11, .row 3 1 0 (lv).length), (12, .d (.v (.int .i64 (W (x + 1)))))], [some ⟨4, [.d (WiPlan.d t)]⟩, some ⟨4, [.d (WiState.d o)]⟩, some ⟨2, [.d (WiSky.d a)]⟩, some (lvI lv)]⟩, [0, 1, 2, 3], Nat.lt_succ_self _, (vwK R R (.cons R R (.cons R R (.cons R R (.row R .nil)))) (.cons R R (.cons R R (.cons R R (.cons R R (.cons R R (.cons R R (.cons R R (.cons R R .nil))))))))), lv, (W (x + 1)), h, R⟩
  intro c3
  replace h := ifF c3 h
  refine r_pickF R R R R (eN (sw_condF R (sw_skip (then_norm (qG (r_movW R R R (r_movD R R R (r_bslice tb R R R R R R R R R R R R R ?_))))))))
  obtain ⟨q, iq, h⟩ := bnd h
  refine r_apM (g := vI) (w := lv) (v := [x]) ([some ⟨4, [.d (WiPlan.d t)]⟩, some ⟨4, [.d (WiState.d o)]⟩, some ⟨2, [.d (WiSky.d a)]⟩, none, some (lvI [x])]) tb R R R R R R R R R R R iq R R R R R (r_asgW R R R (eN (qG (r_movW R R R (r_lenR tb R R R R R (r_sub R R R R (r_asgD R R R (eN (sw_block ?_)))))))))
  obtain ⟨K2, hK2, h⟩ : ∃ K, K = _ ∧ r_rights_L1 F t o K F q (W ((q.length : Int) - 1)) = some r := ⟨_, rfl, h⟩
  refine sw_loop (st0 := ⟨[(3, .d (.v (.int .i64 rv))), (4, .d (.arr 1 ((rv2).map vI))), (5, .ref 0 4 0 0), (6, .ref 1 4 0 0), (7, .ref 2 2 0 0), (10, .d (.v (.slice none 0 0))), (11, .row 3 1 0 (q).length), (12, .d (.v (.int .i64 x))), (13, .d (.v (.int .i64 (W ((q.length : Int) - 1)))))], [some ⟨4, [.d (WiPlan.d t)]⟩, some ⟨4, [.d (WiState.d o)]⟩, some ⟨2, [.d (WiSky.d a)]⟩, some (lvI q)]⟩) (κ := [0, 1, 2, 5]) (fun m st => ∃ (lv2 : (List Int)) (x2 : Int), r_rights_L1 F t o K2 m lv2 x2 = some r ∧ st = ⟨[(3, .d (.v (.int .i64 rv))), (4, .d (.arr 1 ((rv2).map vI))), (5, .ref 0 4 0 0), (6, .ref 1 4 0 0), (7, .ref 2 2 0 0), (10, .d (.v (.slice none 0 0))), (11, .row 3 1 0 (lv2).length), (12, .d (.v (.int .i64 x))), (13, .d (.v (.int .i64 x2)))], [some ⟨4, [.d (WiPlan.d t)]⟩, some ⟨4, [.d (WiState.d o)]⟩, some ⟨2, [.d (WiSky.d a)]⟩, some (lvI lv2)]⟩) (vwK R R (.cons R R (.cons R R (.cons R R (.row R .nil)))) (.cons R R (.cons R R (.cons R R (.cons R R (.cons R R (.cons R R (.cons R R (.cons R R (.cons R R .nil)))))))))) ⟨q, (W ((q.length : Int) - 1)), h, R⟩ ?_
  clear h
  rintro m2 st ⟨lv2, x2, h, rfl⟩
  cases m2 with
  | zero => cases (show (none : Option (List Int)) = some r from h)
  | succ m2 =>
  rw [r_rights_L1] at h
  refine sw_seq (sw_seq (sw_dr (by kernel_rfl) (r_movD R R R ?_)))
  refine r_gtr R R R R ?_ ?_
  ·intro c4
   replace h := ifP c4 h
   refine r_movD R R R (r_ldD (y := WiPlan.d t) tb R R R R R R R R R (r_ldD (y := WiState.d o) tb R R R R R R R R R (r_movW R R R (r_movD R R R ?_))))
   obtain ⟨e, ie, h⟩ := bnd h
   refine r_ixI tb R R R R R R (ix0 ie) (ix1 ie) R R ?_
   refine r_ldD (y := .v (.int .i64 e)) tb R R R R (ix2 (g := fun a => T.d (vI a)) ie) R R R R ?_
   refine r_movW R R R (r_movD R R R (r_sub R R R R ?_))
   obtain ⟨e2, ie2, h⟩ := bnd h
   refine r_ixI tb R R R R R R (ix0 ie2) (ix1 ie2) R R ?_
   refine r_ldD (y := .v (.int .i64 e2)) tb R R R R (ix2 (g := fun a => T.d (vI a)) ie2) R R R R ?_
   obtain ⟨rv5, hrv5, h⟩ := bnd h
   refine r_callB (r_first_pc hrv5) (.of (by kernel_rfl)) R R R R ?_ ?_
   ·intro c5
    replace h := ifP c5 h
    refine r_pickT R R R R (ev_endD (by kernel_rfl) (then_norm (sw_condT R (sw_skip (then_norm (sw_seq (sw_block (sw_dr (by kernel_rfl) (r_movW R R R (r_movD R R R (r_movW R R R (r_movD R R R (r_sub R R R R (r_movW R R R (r_movD R R R (r_sub R R R R (r_ixI tb R R R R R R (ix0 ie2) (ix1 ie2) R R ?_)))))))))))))))))
    refine r_ldD (y := .v (.int .i64 e2)) tb R R R R (ix2 (g := fun a => T.d (vI a)) ie2) R R R R ?_
    refine r_movW R R R (r_movD R R R (r_ixI tb R R R R R R (ix0 ie) (ix1 ie) R R ?_))
    refine r_ldD (y := .v (.int .i64 e)) tb R R R R (ix2 (g := fun a => T.d (vI a)) ie) R R R R ?_
    refine r_ixI tb R R R R R R (ix0 ie) (ix1 ie) R R ?_
    obtain ⟨lv3, ilv3, h⟩ := bnd h
    refine r_stQ (a' := e2) tb R R R R ie R R R R ilv3 R R ?_
    dsimp only [List.set_cons_zero, List.set_cons_succ, WiState_T1, WiState_T2, WiState_T3, Table_T1]
    first | rw [set_len ilv3] | skip
    obtain ⟨e3, ie3, h⟩ := bnd h
    refine r_ixI tb R R R R R R (ix0 ie3) (ix1 ie3) R R ?_
    obtain ⟨lv4, ilv4, h⟩ := bnd h
    refine r_stQ (a' := e) tb R R R R ie3 R R R R ilv4 R R ?_
    dsimp only [List.set_cons_zero, List.set_cons_succ, WiState_T1, WiState_T2, WiState_T3, Table_T1]
    first | rw [set_len ilv4] | skip
    refine ev_endD (by kernel_rfl) (block_norm (then_norm (sw_rg (r_movD R R R (r_sub R R R R (r_asgD R R R (eN ?_)))))))
    exact ⟨m2, ⟨[(3, .d (.v (.int .i64 rv))), (4, .d (.arr 1 ((rv2).map vI))), (5, .ref 0 4 0 0), (6, .ref 1 4 0 0), (7, .ref 2 2 0 0), (10, .d (.v (.slice none 0 0))), (11, .row 3 1 0 (lv4).length), (12, .d (.v (.int .i64 x))), (13, .d (.v (.int .i64 (W (x2 - 1)))))], [some ⟨4, [.d (WiPlan.d t)]⟩, some ⟨4, [.d (WiState.d o)]⟩, some ⟨2, [.d (WiSky.d a)]⟩, some (lvI lv4)]⟩, [0, 1, 2, 3], Nat.lt_succ_self _, (vwK R R (.cons R R (.cons R R (.cons R R (.row R .nil)))) (.cons R R (.cons R R (.cons R R (.cons R R (.cons R R (.cons R R (.cons R R (.cons R R (.cons R R .nil)))))))))), lv4, (W (x2 - 1)), h, R⟩
   intro c5
   replace h := ifF c5 h
   refine r_pickT R R R R (ev_endD (by kernel_rfl) (then_norm (sw_condF R (sw_exit (then_exit (then_exit ?_))))))
   subst hK2
   refine block_exit (block_norm (then_norm (sw_rg (r_movD R R R (r_add R R R R (r_asgD R R R (eN ?_)))))))
   exact ⟨m1, ⟨[(3, .d (.v (.int .i64 rv))), (4, .d (.arr 1 ((rv2).map vI))), (5, .ref 0 4 0 0), (6, .ref 1 4 0 0), (7, .ref 2 2 0 0), (10, .d (.v (.slice none 0 0))), (11, .row 3 1 0 (lv2).length), (12, .d (.v (.int .i64 (W (x + 1)))))], [some ⟨4, [.d (WiPlan.d t)]⟩, some ⟨4, [.d (WiState.d o)]⟩, some ⟨2, [.d (WiSky.d a)]⟩, some (lvI lv2)]⟩, [0, 1, 2, 3], Nat.lt_succ_self _, (vwK R R (.cons R R (.cons R R (.cons R R (.row R .nil)))) (.cons R R (.cons R R (.cons R R (.cons R R (.cons R R (.cons R R (.cons R R (.cons R R .nil))))))))), lv2, (W (x + 1)), h, R⟩
  intro c4
  replace h := ifN (Int.not_lt.2 c4) h
  refine r_movD R R R (r_skip R R R (r_skip R R R (r_skip R R R (r_skip R R R (r_skip R R R (r_skip R R R (r_skip R R R (r_skip R R R (r_skip R R R (r_skip R R R (r_skip R R R (r_skip R R R (r_pickF R R R R (ev_endD (by kernel_rfl) (then_norm (sw_condF R (sw_exit (then_exit (then_exit ?_)))))))))))))))))))
  subst hK2
  refine block_exit (block_norm (then_norm (sw_rg (r_movD R R R (r_add R R R R (r_asgD R R R (eN ?_)))))))
  exact ⟨m1, ⟨[(3, .d (.v (.int .i64 rv))), (4, .d (.arr 1 ((rv2).map vI))), (5, .ref 0 4 0 0), (6, .ref 1 4 0 0), (7, .ref 2 2 0 0), (10, .d (.v (.slice none 0 0))), (11, .row 3 1 0 (lv2).length), (12, .d (.v (.int .i64 (W (x + 1)))))], [some ⟨4, [.d (WiPlan.d t)]⟩, some ⟨4, [.d (WiState.d o)]⟩, some ⟨2, [.d (WiSky.d a)]⟩, some (lvI lv2)]⟩, [0, 1, 2, 3], Nat.lt_succ_self _, (vwK R R (.cons R R (.cons R R (.cons R R (.row R .nil)))) (.cons R R (.cons R R (.cons R R (.cons R R (.cons R R (.cons R R (.cons R R (.cons R R .nil))))))))), lv2, (W (x + 1)), h, R⟩
 intro c
 replace h := ifN (Int.not_lt.2 c) h
 refine eN (sw_condF R (sw_exit (then_exit (then_exit ?_))))
 subst hK1
 refine block_exit (then_norm (qG (r_movW R R R (r_asgW R R R (eN (sw_ret ?_))))))
 obtain rfl := sI h
 exact (fin_S (t := .row 0 1 0 (lv).length) (L := [some (lvI lv)]) (κ := [3]) R (.cons (.tmp 10) .nil) (vwK R R (.row R .nil) (.cons R R .nil)) ⟨R, R⟩)
theorem r_rights_pc {F : Nat} {t : WiPlan} {o : WiState} {a : WiSky} {rv : Int} {rv2 : (List Int)} {r : (List Int)} (h : r_rights F t o a rv rv2 = some r) : PC Tryz.prog 47 [WiPlan.d t, WiState.d o, WiSky.d a, .v (.int .i64 rv), .arr 1 ((rv2).map vI)] (.arr 1 ((r).map vI)) := (r_rights_scr h).toPC (.row rfl rfl)
def r_turn (F : Nat) (p : WiPlan) (sky : WiSky) (d : Desk) : Option Int := if d.over = true then (some (-1)) else (if 0 ≤ d.given then (some d.given) else (Option.bind (r_rights F p (WiState.mk d.s_Used d.s_Credit d.s_Last d.s_Next) sky d.minute d.done) fun rv => if (rv.length : Int) = 0 then (some (-1)) else (Option.bind (ixO rv 0) fun e => some e)))
theorem r_turn_pc {F : Nat} {p : WiPlan} {sky : WiSky} {d : Desk} {r : Int} (h : r_turn F p sky d = some r) : PC Tryz.prog 27 [WiPlan.d p, WiSky.d sky, Desk.d d] (.v (.int .i64 r)) := by
 rw [r_turn] at h
 refine SC.of_sw Tryz.func27 R R R ?_
 dsimp only [argS, List.map]
 refine qG (r_box R R R R R R R (r_box R R R R R R R (r_box R R R R R R R (r_asgD R R R (eN (sw_seq (qG (r_fa tb R R R R R R R (r_ldD (y := .v (.bool d.over)) tb R R R R R R R R R ?_)))))))))
 with_reducible apply ev_lit
 ·intro c
  replace h := ifP c h
  refine eN (sw_condT R (qG (r_asgD R R R (eN (sw_ret (then_ret ?_))))))
  obtain rfl := sI h
  exact fin_0 (t := .d (.v (.int .i64 (-1)))) R R R (.cons (.tmp 6) .nil)
 intro c
 replace h := ifF c h
 refine eN (sw_condF R (sw_skip (then_norm (sw_seq (qG (r_fa tb R R R R R R R (r_ldD (y := .v (.int .i64 d.given)) tb R R R R R R R R R ?_)))))))
 refine r_geq R R R R ?_ ?_
 ·intro c2
  replace h := ifP c2 h
  refine eN (sw_condT R (qG (r_fa tb R R R R R R R (r_ldD (y := .v (.int .i64 d.given)) tb R R R R R R R R R (r_asgD R R R (eN (sw_ret (then_ret ?_))))))))
  obtain rfl := sI h
  exact fin_0 (t := .d (.v (.int .i64 d.given))) R R R (.cons (.tmp 6) .nil)
 intro c2
 replace h := ifN (Int.not_le.2 c2) h
 refine eN (sw_condF R (sw_skip (then_norm (qG (r_ldD (y := WiPlan.d p) tb R R R R R R R R R (r_fa tb R R R R R R R (r_ldD (y := .agg [.arr 1 ((d.s_Used).map vI), .arr 1 ((d.s_Credit).map vI), .arr 1 ((d.s_Last).map vI), .v (.int .i64 d.s_Next)]) tb R R R R R R R R R (r_ldD (y := WiSky.d sky) tb R R R R R R R R R (r_fa tb R R R R R R R (r_ldD (y := .v (.int .i64 d.minute)) tb R R R R R R R R R (r_fa tb R R R R R R R ?_)))))))))))
 refine r_ldD (y := .arr 1 ((d.done).map vI)) tb R R R R R R R R R ?_
 obtain ⟨rv, hrv, h⟩ := bnd h
 refine r_callN (t' := .row 3 1 0 (rv).length) (news' := [(lvI rv)]) (r_rights_scr hrv) (.of (by kernel_rfl)) R R R ((.row .nil)) R R R (r_asgW R R R (eN (sw_seq (qG (r_movW R R R (r_lenR tb R R R R R ?_))))))
 refine r_eql R R R R ?_ ?_
 ·intro c3
  replace h := ifP c3 h
  refine eN (sw_condT R (qG (r_asgD R R R (eN (sw_ret (then_ret ?_))))))
  obtain rfl := sI h
  exact fin_0 (t := .d (.v (.int .i64 (-1)))) R R R (.cons (.tmp 6) .nil)
 intro c3
 replace h := ifN c3 h
 refine eN (sw_condF R (sw_skip (then_norm (qG (r_movW R R R ?_)))))
 obtain ⟨e, ie, h⟩ := bnd h
 refine r_ixI tb R R R R R R (ix0 ie) (ix1 ie) R R ?_
 refine r_ldD (y := .v (.int .i64 e)) tb R R R R (ix2 (g := fun a => T.d (vI a)) ie) R R R R ?_
 refine r_asgD R R R (eN (sw_ret ?_))
 obtain rfl := sI h
 exact fin_0 (t := .d (.v (.int .i64 e))) R R R (.cons (.tmp 6) .nil)
def r_receivers (F : Nat) (p : WiPlan) (sky : WiSky) (d : Desk) : Option (List Int) := Option.bind (r_turn F p sky d) fun rv => if rv < 0 then (some ([] : List Int)) else (if 0 ≤ d.given then (some ([] : List Int)) else (Option.bind (appO ([] : List Int) d.done) fun q => Option.bind (appO q [rv]) fun q2 => Option.bind (r_rights F p (WiState.mk d.s_Used d.s_Credit d.s_Last d.s_Next) sky d.minute q2) fun rv2 => some rv2))
theorem r_receivers_scr {F : Nat} {p : WiPlan} {sky : WiSky} {d : Desk} {r : (List Int)} (h : r_receivers F p sky d = some r) : SCR Tryz.prog 66 (List.map T.d [WiPlan.d p, WiSky.d sky, Desk.d d]) [] (.row 0 1 0 (r).length) (List.map some [(lvI r)]) := by
 rw [r_receivers] at h
 refine SC.of_sw Tryz.func66 R R R ?_
 dsimp only [argS, List.map]
 refine qG (r_box R R R R R R R (r_box R R R R R R R (r_box R R R R R R R (r_asgD R R R (eN (qG (r_ldD (y := WiPlan.d p) tb R R R R R R R R R (r_ldD (y := WiSky.d sky) tb R R R R R R R R R (r_ldD (y := Desk.d d) tb R R R R R R R R R ?_)))))))))
 obtain ⟨rv, hrv, h⟩ := bnd h
 refine r_call (r_turn_pc hrv) (.of (by kernel_rfl)) R R R R (r_asgD R R R (eN (sw_seq (qG (r_movD R R R ?_)))))
 refine r_lss R R R R ?_ ?_
 ·intro c
  replace h := ifP c h
  refine r_movD R R R (r_skip R R R (r_skip R R R (r_skip R R R (r_pickT R R R R (eN (sw_condT R (qG (r_asgD R R R (eN ?_)))))))))
  refine SW.own (ts' := [(6, .row 3 1 0 (([] : List Int)).length)]) (L' := [some ⟨4, [.d (WiPlan.d p)]⟩, some ⟨2, [.d (WiSky.d sky)]⟩, some ⟨13, [.d (Desk.d d)]⟩]) 1 R R (.cons .nil .nil) (.same (.same (.same .nil))) ?_
  simp only [List.cons_append, List.nil_append]
  refine sw_ret (then_ret ?_)
  obtain rfl := sI h
  exact (fin_S (t := .row 0 1 0 (([] : List Int)).length) (L := [some (lvI ([] : List Int))]) (κ := [3]) R (.cons (.tmp 6) .nil) (vwK R R (.row R .nil) (.cons R R .nil)) ⟨R, R⟩)
 intro c
 replace h := ifN (Int.not_lt.2 c) h
 refine r_movD R R R (r_fa tb R R R R R R R (r_ldD (y := .v (.int .i64 d.given)) tb R R R R R R R R R ?_))
 refine r_geq R R R R ?_ ?_
 ·intro c2
  replace h := ifP c2 h
  refine r_pickF R R R R (eN (sw_condT R (qG (r_asgD R R R (eN ?_)))))
  refine SW.own (ts' := [(6, .row 3 1 0 (([] : List Int)).length)]) (L' := [some ⟨4, [.d (WiPlan.d p)]⟩, some ⟨2, [.d (WiSky.d sky)]⟩, some ⟨13, [.d (Desk.d d)]⟩]) 1 R R (.cons .nil .nil) (.same (.same (.same .nil))) ?_
  simp only [List.cons_append, List.nil_append]
  refine sw_ret (then_ret ?_)
  obtain rfl := sI h
  exact (fin_S (t := .row 0 1 0 (([] : List Int)).length) (L := [some (lvI ([] : List Int))]) (κ := [3]) R (.cons (.tmp 6) .nil) (vwK R R (.row R .nil) (.cons R R .nil)) ⟨R, R⟩)
 intro c2
 replace h := ifN (Int.not_le.2 c2) h
 refine r_pickF R R R R (eN (sw_condF R (sw_skip (then_norm (sw_seq (sw_dr (by kernel_rfl) (r_ldD (y := WiPlan.d p) tb R R R R R R R R R (r_fa tb R R R R R R R (r_ldD (y := .agg [.arr 1 ((d.s_Used).map vI), .arr 1 ((d.s_Credit).map vI), .arr 1 ((d.s_Last).map vI), .v (.int .i64 d.s_Next)]) tb R R R R R R R R R (r_ldD (y := WiSky.d sky) tb R R R R R R R R R (r_fa tb R R R R R R R (r_ldD (y := .v (.int .i64 d.minute)) tb R R R R R R R R R ?_))))))))))))
 refine r_bslice tb R R R R R R R R R R R R R (r_fa tb R R R R R R R (r_ldD (y := .arr 1 ((d.done).map vI)) tb R R R R R R R R R ?_))
 obtain ⟨q, iq, h⟩ := bnd h
 refine r_apEM (g := vI) (w := ([] : List Int)) (v := d.done) ([some ⟨4, [.d (WiPlan.d p)]⟩, some ⟨2, [.d (WiSky.d sky)]⟩, some ⟨13, [.d (Desk.d d)]⟩, none]) tb R R R R R R R R (by intro _; exact R) iq R R R R R (r_movD R R R (r_bslice tb R R R R R R R R R R R R R ?_))
 obtain ⟨q2, iq2, h⟩ := bnd h
 refine r_apM (g := vI) (w := q) (v := [rv]) ([some ⟨4, [.d (WiPlan.d p)]⟩, some ⟨2, [.d (WiSky.d sky)]⟩, some ⟨13, [.d (Desk.d d)]⟩, none, none, some (lvI [rv])]) tb R R R R R R R R R R R iq2 R R R R R ?_
 obtain ⟨rv2, hrv2, h⟩ := bnd h
 refine r_callLN (t' := .row 7 1 0 (rv2).length) (news' := [(lvI rv2)]) (r_rights_scr hrv2) R ((.row (fun _ => rfl) .nil)) (.of (by kernel_rfl)) R R ((.cons (.d _) (.cons (.d _) (.cons (.d _) (.cons (.d _) (.cons (.row R R) .nil)))))) R ((.row .nil)) R R R ?_
 refine r_asgW R R R (ev_endD (by kernel_rfl) (then_norm (sw_ret ?_)))
 obtain rfl := sI h
 exact (fin_S (t := .row 0 1 0 (rv2).length) (L := [some (lvI rv2)]) (κ := [7]) R (.cons (.tmp 6) .nil) (vwK R R (.row R .nil) (.cons R R .nil)) ⟨R, R⟩)
theorem r_receivers_pc {F : Nat} {p : WiPlan} {sky : WiSky} {d : Desk} {r : (List Int)} (h : r_receivers F p sky d = some r) : PC Tryz.prog 66 [WiPlan.d p, WiSky.d sky, Desk.d d] (.arr 1 ((r).map vI)) := (r_receivers_scr h).toPC (.row rfl rfl)
def r_act_L1 (F : Nat) (rv8 : (List Int)) (K : (List Int) → Int → Option (Desk × Int)) : Nat → (List Int) → Int → Option (Desk × Int)
 | 0, _, _ => none
 | n + 1, y, x => if x < (rv8.length : Int) then (Option.bind (ixO rv8 x) fun e9 => Option.bind (ixO y e9) fun e10 => Option.bind (setO y e9 (W (e10 + 1))) fun y2 => r_act_L1 F rv8 K n y2 (W (x + 1))) else (K y x)
def r_act_L2 (F : Nat) (rv11 : (List Int)) (K : (List Int) → Int → Option (Desk × Int)) : Nat → (List Int) → Int → Option (Desk × Int)
 | 0, _, _ => none
 | n + 1, y3, x2 => if x2 < (rv11.length : Int) then (Option.bind (ixO rv11 x2) fun e14 => Option.bind (ixO y3 e14) fun e15 => Option.bind (setO y3 e14 (W (e15 + 1))) fun y4 => r_act_L2 F rv11 K n y4 (W (x2 + 1))) else (K y3 x2)
def r_act (F : Nat) (t : WiPlan) (o : WiSky) (a : Desk) (rv : WiTurn) : Option (Desk × Int) := Option.bind (r_turn F t o a) fun rv2 => Option.bind (ixO t.windows a.s_Next) fun e => if rv2 < 0 then (some (a, 9)) else (Option.bind (r_in F rv.what 1 3) fun rv3 => if rv3 = true then (if rv.what = 3 then (if 0 ≤ a.given then (some (a, 5)) else (Option.bind (r_receivers F t o a) fun rv4 => Option.bind (r_has F rv4 rv.to_) fun rv5 => if rv5 = true then (if rv.at_ = a.minute then (Option.bind (r_copied F (WiState.mk a.s_Used a.s_Credit a.s_Last a.s_Next)) fun rv6 => Option.bind (ixO rv6.credit rv2) fun e2 => Option.bind (ixO rv6.credit rv.to_) fun e3 => Option.bind (setO rv6.credit rv2 (W (e2 + t.gift))) fun q => Option.bind (ixO q rv.to_) fun e4 => Option.bind (setO q rv.to_ (W (e3 - t.gift))) fun q2 => Option.bind (appO ([] : List Int) a.done) fun q3 => Option.bind (appO q3 [rv2]) fun q4 => some ((Desk.mk rv6.used q2 rv6.last rv6.next a.minute q4 rv.to_ rv2 a.over a.use_Window a.use_Team a.use_At a.use_By), 0)) else (some (a, 7))) else (some (a, 4)))) else (if rv.what = 1 then (Option.bind (ixO t.teams rv2) fun e5 => if rv.to_ = 0 then (Option.bind (r_in F rv.at_ (W (a.minute + e5.setup)) e.until_) fun rv7 => if rv7 = true then (Option.bind (appO ([] : List Int) a.done) fun q5 => Option.bind (appO q5 [rv2]) fun q6 => if rv.what = 1 then (Option.bind (r_rights F t (WiState.mk a.s_Used a.s_Credit a.s_Last a.s_Next) o a.minute q6) fun rv8 => Option.bind (r_copied F (WiState.mk a.s_Used a.s_Credit a.s_Last a.s_Next)) fun rv9 => Option.bind (ixO rv9.used rv2) fun e6 => Option.bind (ixO rv9.credit rv2) fun e7 => Option.bind (setO rv9.used rv2 (W (e6 + 1))) fun q7 => Option.bind (ixO rv9.last rv2) fun e8 => Option.bind (setO rv9.last rv2 e.day) fun q8 => Option.bind (setO rv9.credit rv2 (W (e7 - t.cost))) fun q9 => r_act_L1 F rv8 (fun (y : (List Int)) (x : Int) => if 0 ≤ a.given then (some ((Desk.mk q7 y q8 rv9.next rv.at_ q6 (-1) a.by_ true rv9.next rv2 rv.at_ a.by_), 0)) else (some ((Desk.mk q7 y q8 rv9.next rv.at_ q6 (-1) a.by_ true rv9.next rv2 rv.at_ (-1)), 0))) F q9 0) else (some ({a with minute := rv.at_, done := q6, given := (-1)}, 0))) else (some (a, 7))) else (some (a, 7))) else (if rv.to_ = 0 then (Option.bind (r_in F rv.at_ a.minute e.until_) fun rv10 => if rv10 = true then (Option.bind (appO ([] : List Int) a.done) fun q10 => Option.bind (appO q10 [rv2]) fun q11 => if rv.what = 1 then (Option.bind (r_rights F t (WiState.mk a.s_Used a.s_Credit a.s_Last a.s_Next) o a.minute q11) fun rv11 => Option.bind (r_copied F (WiState.mk a.s_Used a.s_Credit a.s_Last a.s_Next)) fun rv12 => Option.bind (ixO rv12.used rv2) fun e11 => Option.bind (ixO rv12.credit rv2) fun e12 => Option.bind (setO rv12.used rv2 (W (e11 + 1))) fun q12 => Option.bind (ixO rv12.last rv2) fun e13 => Option.bind (setO rv12.last rv2 e.day) fun q13 => Option.bind (setO rv12.credit rv2 (W (e12 - t.cost))) fun q14 => r_act_L2 F rv11 (fun (y3 : (List Int)) (x2 : Int) => if 0 ≤ a.given then (some ((Desk.mk q12 y3 q13 rv12.next rv.at_ q11 (-1) a.by_ true rv12.next rv2 rv.at_ a.by_), 0)) else (some ((Desk.mk q12 y3 q13 rv12.next rv.at_ q11 (-1) a.by_ true rv12.next rv2 rv.at_ (-1)), 0))) F q14 0) else (some ({a with minute := rv.at_, done := q11, given := (-1)}, 0))) else (some (a, 7))) else (some (a, 7))))) else (some (a, 2)))
theorem r_act_pc {F : Nat} {t : WiPlan} {o : WiSky} {a : Desk} {rv : WiTurn} {r : (Desk × Int)} (h : r_act F t o a rv = some r) : PC Tryz.prog 46 [WiPlan.d t, WiSky.d o, Desk.d a, WiTurn.d rv] (.tup [Desk.d r.1, .v (.int .i64 r.2)]) := by
 rw [r_act] at h
 refine PC.of_lend ?_
 refine SC.of_sw Tryz.func46 R R R ?_
 dsimp only [argS, List.map]
 refine qG (r_box R R R R R R R (r_box R R R R R R R (r_box R R R R R R R (r_box R R R R R R R (r_alloc tb R R R R R (r_asgD R R R (eN (qG (r_ldD (y := WiPlan.d t) tb R R R R R R R R R (r_ldD (y := WiSky.d o) tb R R R R R R R R R (r_ldD (y := Desk.d a) tb R R R R R R R R R ?_)))))))))))
 obtain ⟨rv2, hrv2, h⟩ := bnd h
 refine r_call (r_turn_pc hrv2) (.of (by kernel_rfl)) R R R R (r_asgD R R R (eN (qG (r_fa tb R R R R R R R (r_ldD (y := .arr 3 ((t.windows).map WiWindow.d)) tb R R R R R R R R R (r_fa tb R R R R R R R (r_fa tb R R R R R R R (r_ldD (y := .v (.int .i64 a.s_Next)) tb R R R R R R R R R ?_))))))))
 obtain ⟨e, ie, h⟩ := bnd h
 refine r_ixE tb R R R R R R (ix0 ie) (ix1m ie) R R (r_ldE (y := WiWindow.d e) tb R R (ix2 (g := WiWindow.d) ie) R R R R (r_alloc tb R R R R R ?_))
 refine r_stE _ ([some ⟨4, [.d (WiPlan.d t)]⟩, some ⟨2, [.d (WiSky.d o)]⟩, some ⟨13, [.d (Desk.d a)]⟩, some ⟨3, [.d (WiTurn.d rv)]⟩, some ⟨13, [.d (.agg [.v (.slice none 0 0), .v (.slice none 0 0), .v (.slice none 0 0), .v (.int .i64 0), .v (.int .i64 0), .v (.slice none 0 0), .v (.int .i64 0), .v (.int .i64 0), .v (.bool false), .v (.int .i64 0), .v (.int .i64 0), .v (.int .i64 0), .v (.int .i64 0)])]⟩, some ⟨3, [.d (WiWindow.d e)]⟩]) tb R R R R R R R R R R R R (eN (sw_seq (qG (r_movD R R R ?_))))
 refine r_lss R R R R ?_ ?_
 ·intro c
  replace h := ifP c h
  refine eN (sw_condT R (qG (r_ldD (y := Desk.d a) tb R R R R R R R R R (r_stE _ ([some ⟨4, [.d (WiPlan.d t)]⟩, some ⟨2, [.d (WiSky.d o)]⟩, some ⟨13, [.d (Desk.d a)]⟩, some ⟨3, [.d (WiTurn.d rv)]⟩, some ⟨13, [.d (Desk.d a)]⟩, some ⟨3, [.d (WiWindow.d e)]⟩]) tb R R R R R R R R R R R R (r_asgD R R R (eN (sw_ret (then_ret ?_))))))))
  obtain rfl := sI h
  exact (fin_S (t := .d (.tup [Desk.d a, .v (.int .i64 9)])) (L := []) (κ := []) R (.cons (rcell tb (u := .d (Desk.d a)) R R R R R R R) (.cons (.tmp 9) .nil)) (vwK R R .nil (.cons R R .nil)) ⟨_, R, (.d _)⟩)
 intro c
 replace h := ifN (Int.not_lt.2 c) h
 refine eN (sw_condF R (sw_skip (then_norm (sw_seq (qG (r_fa tb R R R R R R R (r_ldD (y := .v (.int .i64 rv.what)) tb R R R R R R R R R ?_)))))))
 obtain ⟨rv3, hrv3, h⟩ := bnd h
 refine r_callB (r_in_pc hrv3) (.of (by kernel_rfl)) R R R R ?_ ?_
 ·intro c2
  replace h := ifP c2 h
  refine r_notT R R R (eN (sw_condF R (sw_skip (then_norm (sw_seq (qG (r_fa tb R R R R R R R (r_ldD (y := .v (.int .i64 rv.what)) tb R R R R R R R R R ?_))))))))
  refine r_eql R R R R ?_ ?_
  ·intro c3
   replace h := ifP c3 h
   refine eN (sw_condT R (sw_seq (qG (r_fa tb R R R R R R R (r_ldD (y := .v (.int .i64 a.given)) tb R R R R R R R R R ?_)))))
   refine r_geq R R R R ?_ ?_
   ·intro c4
    replace h := ifP c4 h
    refine eN (sw_condT R (qG (r_ldD (y := Desk.d a) tb R R R R R R R R R (r_stE _ ([some ⟨4, [.d (WiPlan.d t)]⟩, some ⟨2, [.d (WiSky.d o)]⟩, some ⟨13, [.d (Desk.d a)]⟩, some ⟨3, [.d (WiTurn.d rv)]⟩, some ⟨13, [.d (Desk.d a)]⟩, some ⟨3, [.d (WiWindow.d e)]⟩]) tb R R R R R R R R R R R R (r_asgD R R R (eN (sw_ret (then_ret (then_ret ?_)))))))))
    obtain rfl := sI h
    exact (fin_S (t := .d (.tup [Desk.d a, .v (.int .i64 5)])) (L := []) (κ := []) R (.cons (rcell tb (u := .d (Desk.d a)) R R R R R R R) (.cons (.tmp 9) .nil)) (vwK R R .nil (.cons R R .nil)) ⟨_, R, (.d _)⟩)
   intro c4
   replace h := ifN (Int.not_le.2 c4) h
   refine eN (sw_condF R (sw_skip (then_norm (sw_seq (sw_seq (sw_dr (by kernel_rfl) (r_ldD (y := WiPlan.d t) tb R R R R R R R R R (r_ldD (y := WiSky.d o) tb R R R R R R R R R (r_ldD (y := Desk.d a) tb R R R R R R R R R ?_)))))))))
   obtain ⟨rv4, hrv4, h⟩ := bnd h
   refine r_callN (t' := .row 6 1 0 (rv4).length) (news' := [(lvI rv4)]) (r_receivers_scr hrv4) (.of (by kernel_rfl)) R R R ((.row .nil)) R R R (r_fa tb R R R R R R R (r_ldD (y := .v (.int .i64 rv.to_)) tb R R R R R R R R R ?_))
   obtain ⟨rv5, hrv5, h⟩ := bnd h
   refine r_callLB (r_has_pc hrv5) (.of (by kernel_rfl)) R R ((.cons (.row R R) (.cons (.d _) .nil))) R R ?_ ?_
   ·intro c5
    replace h := ifP c5 h
    refine r_notT R R R (ev_endD (by kernel_rfl) (then_norm (sw_condF R (sw_skip (then_norm (sw_seq (qG (r_fa tb R R R R R R R (r_ldD (y := .v (.int .i64 rv.at_)) tb R R R R R R R R R (r_fa tb R R R R R R R (r_ldD (y := .v (.int .i64 a.minute)) tb R R R R R R R R R ?_)))))))))))
    refine r_neq R R R R ?_ ?_
    ·intro c6
     replace h := ifN c6 h
     refine eN (sw_condT R (qG (r_ldD (y := Desk.d a) tb R R R R R R R R R (r_stE _ ([some ⟨4, [.d (WiPlan.d t)]⟩, some ⟨2, [.d (WiSky.d o)]⟩, some ⟨13, [.d (Desk.d a)]⟩, some ⟨3, [.d (WiTurn.d rv)]⟩, some ⟨13, [.d (Desk.d a)]⟩, some ⟨3, [.d (WiWindow.d e)]⟩, some (lvI rv4)]) tb R R R R R R R R R R R R (r_asgD R R R (eN (sw_ret (then_ret (then_ret ?_)))))))))
     obtain rfl := sI h
     exact (fin_S (t := .d (.tup [Desk.d a, .v (.int .i64 7)])) (L := []) (κ := []) R (.cons (rcell tb (u := .d (Desk.d a)) R R R R R R R) (.cons (.tmp 9) .nil)) (vwK R R .nil (.cons R R .nil)) ⟨_, R, (.d _)⟩)
    intro c6
    replace h := ifP c6 h
    refine eN (sw_condF R (sw_skip (then_norm (qG (r_fa tb R R R R R R R (r_ldD (y := .agg [.arr 1 ((a.s_Used).map vI), .arr 1 ((a.s_Credit).map vI), .arr 1 ((a.s_Last).map vI), .v (.int .i64 a.s_Next)]) tb R R R R R R R R R ?_))))))
    obtain ⟨rv6, hrv6, h⟩ := bnd h
    refine r_callN (t' := WiState_T1 rv6 7 8 9) (news' := [(lvI rv6.used), (lvI rv6.credit), (lvI rv6.last)]) (r_copied_scr hrv6) (.of (by kernel_rfl)) R R R ((.row (.row (.row .nil)))) R R R (r_fa tb R R R R R R R ?_)
    refine r_stE _ ([some ⟨4, [.d (WiPlan.d t)]⟩, some ⟨2, [.d (WiSky.d o)]⟩, some ⟨13, [Desk_T1 {a with s_Used := rv6.used, s_Credit := rv6.credit, s_Last := rv6.last, s_Next := rv6.next} 7 8 9]⟩, some ⟨3, [.d (WiTurn.d rv)]⟩, some ⟨13, [.d (.agg [.v (.slice none 0 0), .v (.slice none 0 0), .v (.slice none 0 0), .v (.int .i64 0), .v (.int .i64 0), .v (.slice none 0 0), .v (.int .i64 0), .v (.int .i64 0), .v (.bool false), .v (.int .i64 0), .v (.int .i64 0), .v (.int .i64 0), .v (.int .i64 0)])]⟩, some ⟨3, [.d (WiWindow.d e)]⟩, some (lvI rv4), some (lvI rv6.used), some (lvI rv6.credit), some (lvI rv6.last)]) tb R R R R R R R R R R R R ?_
    refine eN (sw_seq (sw_dr (by kernel_rfl) (r_fa tb R R R R R R R (r_fa tb R R R R R R R (r_ldW tb R R R R R R R R R (r_movD R R R (r_fa tb R R R R R R R (r_fa tb R R R R R R R (r_ldW tb R R R R R R R R R (r_fa tb R R R R R R R (r_ldD (y := .v (.int .i64 rv.to_)) tb R R R R R R R R R (r_fa tb R R R R R R R (r_fa tb R R R R R R R (r_ldW tb R R R R R R R R R (r_movD R R R ?_)))))))))))))))
    obtain ⟨e2, ie2, h⟩ := bnd h
    refine r_ixI tb R R R R R R (ix0 ie2) (ix1 ie2) R R ?_
    refine r_ldD (y := .v (.int .i64 e2)) tb R R R R (ix2 (g := fun a => T.d (vI a)) ie2) R R R R ?_
    refine r_fa tb R R R R R R R (r_ldD (y := .v (.int .i64 t.gift)) tb R R R R R R R R R (r_add R R R R (r_fa tb R R R R R R R (r_fa tb R R R R R R R (r_ldW tb R R R R R R R R R (r_fa tb R R R R R R R (r_ldD (y := .v (.int .i64 rv.to_)) tb R R R R R R R R R ?_)))))))
    obtain ⟨e3, ie3, h⟩ := bnd h
    refine r_ixI tb R R R R R R (ix0 ie3) (ix1 ie3) R R ?_
    refine r_ldD (y := .v (.int .i64 e3)) tb R R R R (ix2 (g := fun a => T.d (vI a)) ie3) R R R R ?_
    refine r_fa tb R R R R R R R (r_ldD (y := .v (.int .i64 t.gift)) tb R R R R R R R R R (r_sub R R R R (r_ixI tb R R R R R R (ix0 ie2) (ix1 ie2) R R ?_)))
    obtain ⟨q, iq, h⟩ := bnd h
    refine r_stQ (a' := (W (e2 + t.gift))) tb R R R R ie2 R R R R iq R R ?_
    dsimp only [List.set_cons_zero, List.set_cons_succ, WiState_T1, WiState_T2, WiState_T3, Table_T1, Desk_T1, Desk_T2, Desk_T3]
    first | rw [set_len iq] | skip
    obtain ⟨e4, ie4, h⟩ := bnd h
    refine r_ixI tb R R R R R R (ix0 ie4) (ix1 ie4) R R ?_
    obtain ⟨q2, iq2, h⟩ := bnd h
    refine r_stQ (a' := (W (e3 - t.gift))) tb R R R R ie4 R R R R iq2 R R ?_
    dsimp only [List.set_cons_zero, List.set_cons_succ, WiState_T1, WiState_T2, WiState_T3, Table_T1, Desk_T1, Desk_T2, Desk_T3]
    first | rw [set_len iq2] | skip
    refine ev_endD (by kernel_rfl) (then_norm (sw_seq (sw_dr (by kernel_rfl) (r_bslice tb R R R R R R R R R R R R R (r_fa tb R R R R R R R (r_ldD (y := .arr 1 ((a.done).map vI)) tb R R R R R R R R R ?_))))))
    obtain ⟨q3, iq3, h⟩ := bnd h
    refine r_apEM (g := vI) (w := ([] : List Int)) (v := a.done) ([some ⟨4, [.d (WiPlan.d t)]⟩, some ⟨2, [.d (WiSky.d o)]⟩, some ⟨13, [Desk_T1 {a with s_Used := rv6.used, s_Credit := q2, s_Last := rv6.last, s_Next := rv6.next} 7 8 9]⟩, some ⟨3, [.d (WiTurn.d rv)]⟩, some ⟨13, [.d (.agg [.v (.slice none 0 0), .v (.slice none 0 0), .v (.slice none 0 0), .v (.int .i64 0), .v (.int .i64 0), .v (.slice none 0 0), .v (.int .i64 0), .v (.int .i64 0), .v (.bool false), .v (.int .i64 0), .v (.int .i64 0), .v (.int .i64 0), .v (.int .i64 0)])]⟩, some ⟨3, [.d (WiWindow.d e)]⟩, some (lvI rv4), some (lvI rv6.used), some (lvI q2), some (lvI rv6.last), none]) tb R R R R R R R R (by intro _; exact R) iq3 R R R R R ?_
    refine r_movD R R R (r_bslice tb R R R R R R R R R R R R R ?_)
    obtain ⟨q4, iq4, h⟩ := bnd h
    refine r_apM (g := vI) (w := q3) (v := [rv2]) ([some ⟨4, [.d (WiPlan.d t)]⟩, some ⟨2, [.d (WiSky.d o)]⟩, some ⟨13, [Desk_T1 {a with s_Used := rv6.used, s_Credit := q2, s_Last := rv6.last, s_Next := rv6.next} 7 8 9]⟩, some ⟨3, [.d (WiTurn.d rv)]⟩, some ⟨13, [.d (.agg [.v (.slice none 0 0), .v (.slice none 0 0), .v (.slice none 0 0), .v (.int .i64 0), .v (.int .i64 0), .v (.slice none 0 0), .v (.int .i64 0), .v (.int .i64 0), .v (.bool false), .v (.int .i64 0), .v (.int .i64 0), .v (.int .i64 0), .v (.int .i64 0)])]⟩, some ⟨3, [.d (WiWindow.d e)]⟩, some (lvI rv4), some (lvI rv6.used), some (lvI q2), some (lvI rv6.last), none, none, some (lvI [rv2])]) tb R R R R R R R R R R R iq4 R R R R R ?_
    refine r_fa tb R R R R R R R (r_ldD (y := .v (.int .i64 rv.to_)) tb R R R R R R R R R (r_movD R R R (r_fa tb R R R R R R R ?_)))
    refine r_stE _ ([some ⟨4, [.d (WiPlan.d t)]⟩, some ⟨2, [.d (WiSky.d o)]⟩, some ⟨13, [Desk_T2 {a with s_Used := rv6.used, s_Credit := q2, s_Last := rv6.last, s_Next := rv6.next, done := q4} 7 8 9 13]⟩, some ⟨3, [.d (WiTurn.d rv)]⟩, some ⟨13, [.d (.agg [.v (.slice none 0 0), .v (.slice none 0 0), .v (.slice none 0 0), .v (.int .i64 0), .v (.int .i64 0), .v (.slice none 0 0), .v (.int .i64 0), .v (.int .i64 0), .v (.bool false), .v (.int .i64 0), .v (.int .i64 0), .v (.int .i64 0), .v (.int .i64 0)])]⟩, some ⟨3, [.d (WiWindow.d e)]⟩, some (lvI rv4), some (lvI rv6.used), some (lvI q2), some (lvI rv6.last), none, none, some (lvI [rv2]), some (lvI q4)]) tb R R R R R R R R R R R R ?_
    refine r_fa tb R R R R R R R ?_
    refine r_stE _ ([some ⟨4, [.d (WiPlan.d t)]⟩, some ⟨2, [.d (WiSky.d o)]⟩, some ⟨13, [Desk_T2 {a with s_Used := rv6.used, s_Credit := q2, s_Last := rv6.last, s_Next := rv6.next, done := q4, given := rv.to_} 7 8 9 13]⟩, some ⟨3, [.d (WiTurn.d rv)]⟩, some ⟨13, [.d (.agg [.v (.slice none 0 0), .v (.slice none 0 0), .v (.slice none 0 0), .v (.int .i64 0), .v (.int .i64 0), .v (.slice none 0 0), .v (.int .i64 0), .v (.int .i64 0), .v (.bool false), .v (.int .i64 0), .v (.int .i64 0), .v (.int .i64 0), .v (.int .i64 0)])]⟩, some ⟨3, [.d (WiWindow.d e)]⟩, some (lvI rv4), some (lvI rv6.used), some (lvI q2), some (lvI rv6.last), none, none, some (lvI [rv2]), some (lvI q4)]) tb R R R R R R R R R R R R ?_
    refine r_fa tb R R R R R R R ?_
    refine r_stE _ ([some ⟨4, [.d (WiPlan.d t)]⟩, some ⟨2, [.d (WiSky.d o)]⟩, some ⟨13, [Desk_T2 (Desk.mk rv6.used q2 rv6.last rv6.next a.minute q4 rv.to_ rv2 a.over a.use_Window a.use_Team a.use_At a.use_By) 7 8 9 13]⟩, some ⟨3, [.d (WiTurn.d rv)]⟩, some ⟨13, [.d (.agg [.v (.slice none 0 0), .v (.slice none 0 0), .v (.slice none 0 0), .v (.int .i64 0), .v (.int .i64 0), .v (.slice none 0 0), .v (.int .i64 0), .v (.int .i64 0), .v (.bool false), .v (.int .i64 0), .v (.int .i64 0), .v (.int .i64 0), .v (.int .i64 0)])]⟩, some ⟨3, [.d (WiWindow.d e)]⟩, some (lvI rv4), some (lvI rv6.used), some (lvI q2), some (lvI rv6.last), none, none, some (lvI [rv2]), some (lvI q4)]) tb R R R R R R R R R R R R ?_
    refine ev_endD (by kernel_rfl) (then_norm (qG (r_ldG tb R R R R R R R R R ?_)))
    refine r_stE _ ([some ⟨4, [.d (WiPlan.d t)]⟩, some ⟨2, [.d (WiSky.d o)]⟩, some ⟨13, [Desk_T2 (Desk.mk rv6.used q2 rv6.last rv6.next a.minute q4 rv.to_ rv2 a.over a.use_Window a.use_Team a.use_At a.use_By) 7 8 9 13]⟩, some ⟨3, [.d (WiTurn.d rv)]⟩, some ⟨13, [Desk_T2 (Desk.mk rv6.used q2 rv6.last rv6.next a.minute q4 rv.to_ rv2 a.over a.use_Window a.use_Team a.use_At a.use_By) 7 8 9 13]⟩, some ⟨3, [.d (WiWindow.d e)]⟩, some (lvI rv4), some (lvI rv6.used), some (lvI q2), some (lvI rv6.last), none, none, some (lvI [rv2]), some (lvI q4)]) tb R R R R R R R R R R R R ?_
    refine r_asgD R R R (eN (sw_ret (then_ret ?_)))
    obtain rfl := sI h
    exact (fin_S (t := .tup [Desk_T2 (Desk.mk rv6.used q2 rv6.last rv6.next a.minute q4 rv.to_ rv2 a.over a.use_Window a.use_Team a.use_At a.use_By) 0 1 2 3, .d (.v (.int .i64 0))]) (L := [some (lvI rv6.used), some (lvI q2), some (lvI rv6.last), some (lvI q4)]) (κ := [7, 8, 9, 13]) R (.cons (rcell tb (u := Desk_T2 (Desk.mk rv6.used q2 rv6.last rv6.next a.minute q4 rv.to_ rv2 a.over a.use_Window a.use_Team a.use_At a.use_By) 7 8 9 13) R R R R R R R) (.cons (.tmp 9) .nil)) (vwK R R (.row R (.row R (.row R (.row R .nil)))) (.cons R R .nil)) ⟨_, R, (.tupL (.cons (.aggL (.cons (.row R R) (.cons (.row R R) (.cons (.row R R) (.cons (.d _) (.cons (.d _) (.cons (.row R R) (.cons (.d _) (.cons (.d _) (.cons (.d _) (.cons (.d _) (.cons (.d _) (.cons (.d _) (.cons (.d _) .nil)))))))))))))) (.cons (.d _) .nil)))⟩)
   intro c5
   replace h := ifF c5 h
   refine r_notF R R R (ev_endD (by kernel_rfl) (then_norm (sw_condT R (qG (r_ldD (y := Desk.d a) tb R R R R R R R R R (r_stE _ ([some ⟨4, [.d (WiPlan.d t)]⟩, some ⟨2, [.d (WiSky.d o)]⟩, some ⟨13, [.d (Desk.d a)]⟩, some ⟨3, [.d (WiTurn.d rv)]⟩, some ⟨13, [.d (Desk.d a)]⟩, some ⟨3, [.d (WiWindow.d e)]⟩, some (lvI rv4)]) tb R R R R R R R R R R R R (r_asgD R R R (eN (sw_ret (then_ret (then_ret ?_)))))))))))
   obtain rfl := sI h
   exact (fin_S (t := .d (.tup [Desk.d a, .v (.int .i64 4)])) (L := []) (κ := []) R (.cons (rcell tb (u := .d (Desk.d a)) R R R R R R R) (.cons (.tmp 9) .nil)) (vwK R R .nil (.cons R R .nil)) ⟨_, R, (.d _)⟩)
  intro c3
  replace h := ifN c3 h
  refine eN (sw_condF R (sw_skip (then_norm (qG (r_fa tb R R R R R R R (r_ldD (y := .v (.int .i64 a.minute)) tb R R R R R R R R R (r_asgD R R R (eN (sw_seq (qG (r_fa tb R R R R R R R (r_ldD (y := .v (.int .i64 rv.what)) tb R R R R R R R R R ?_))))))))))))
  refine r_eql R R R R ?_ ?_
  ·intro c7
   replace h := ifP c7 h
   refine eN (sw_condT R (sw_rg (r_movD R R R (r_fa tb R R R R R R R (r_ldD (y := .arr 9 ((t.teams).map WiTeam.d)) tb R R R R R R R R R (r_movD R R R ?_))))))
   obtain ⟨e5, ie5, h⟩ := bnd h
   refine r_ixE tb R R R R R R (ix0 ie5) (ix1m ie5) R R (r_faE tb R R R R R R R (r_ldE (y := .v (.int .i64 e5.setup)) tb R R (ix2 (g := WiTeam.d) ie5) R R R R (r_add R R R R (r_asgD R R R (eN (sw_seq (qG (r_fa tb R R R R R R R (r_ldD (y := .v (.int .i64 rv.to_)) tb R R R R R R R R R ?_)))))))))
   refine r_neq R R R R ?_ ?_
   ·intro c8
    replace h := ifN c8 h
    refine r_movD R R R (r_skip R R R (r_skip R R R (r_skip R R R (r_skip R R R (r_skip R R R (r_skip R R R (r_skip R R R (r_pickT R R R R (eN (sw_condT R (qG (r_ldD (y := Desk.d a) tb R R R R R R R R R (r_stE _ ([some ⟨4, [.d (WiPlan.d t)]⟩, some ⟨2, [.d (WiSky.d o)]⟩, some ⟨13, [.d (Desk.d a)]⟩, some ⟨3, [.d (WiTurn.d rv)]⟩, some ⟨13, [.d (Desk.d a)]⟩, some ⟨3, [.d (WiWindow.d e)]⟩]) tb R R R R R R R R R R R R (r_asgD R R R (eN (sw_ret (then_ret ?_)))))))))))))))))
    obtain rfl := sI h
    exact (fin_S (t := .d (.tup [Desk.d a, .v (.int .i64 7)])) (L := []) (κ := []) R (.cons (rcell tb (u := .d (Desk.d a)) R R R R R R R) (.cons (.tmp 9) .nil)) (vwK R R .nil (.cons R R .nil)) ⟨_, R, (.d _)⟩)
   intro c8
   replace h := ifP c8 h
   refine r_movD R R R (r_fa tb R R R R R R R (r_ldD (y := .v (.int .i64 rv.at_)) tb R R R R R R R R R (r_movD R R R (r_fa tb R R R R R R R (r_ldD (y := .v (.int .i64 e.until_)) tb R R R R R R R R R ?_)))))
   obtain ⟨rv7, hrv7, h⟩ := bnd h
   refine r_callB (r_in_pc hrv7) (.of (by kernel_rfl)) R R R R ?_ ?_
   ·intro c9
    replace h := ifP c9 h
    refine r_notT R R R (r_pickF R R R R (eN (sw_condF R (sw_skip (then_norm (qG (r_bslice tb R R R R R R R R R R R R R (r_fa tb R R R R R R R (r_ldD (y := .arr 1 ((a.done).map vI)) tb R R R R R R R R R ?_)))))))))
    obtain ⟨q5, iq5, h⟩ := bnd h
    refine r_apEM (g := vI) (w := ([] : List Int)) (v := a.done) ([some ⟨4, [.d (WiPlan.d t)]⟩, some ⟨2, [.d (WiSky.d o)]⟩, some ⟨13, [.d (Desk.d a)]⟩, some ⟨3, [.d (WiTurn.d rv)]⟩, some ⟨13, [.d (.agg [.v (.slice none 0 0), .v (.slice none 0 0), .v (.slice none 0 0), .v (.int .i64 0), .v (.int .i64 0), .v (.slice none 0 0), .v (.int .i64 0), .v (.int .i64 0), .v (.bool false), .v (.int .i64 0), .v (.int .i64 0), .v (.int .i64 0), .v (.int .i64 0)])]⟩, some ⟨3, [.d (WiWindow.d e)]⟩, none]) tb R R R R R R R R (by intro _; exact R) iq5 R R R R R ?_
    refine r_movD R R R (r_bslice tb R R R R R R R R R R R R R ?_)
    obtain ⟨q6, iq6, h⟩ := bnd h
    refine r_apM (g := vI) (w := q5) (v := [rv2]) ([some ⟨4, [.d (WiPlan.d t)]⟩, some ⟨2, [.d (WiSky.d o)]⟩, some ⟨13, [.d (Desk.d a)]⟩, some ⟨3, [.d (WiTurn.d rv)]⟩, some ⟨13, [.d (.agg [.v (.slice none 0 0), .v (.slice none 0 0), .v (.slice none 0 0), .v (.int .i64 0), .v (.int .i64 0), .v (.slice none 0 0), .v (.int .i64 0), .v (.int .i64 0), .v (.bool false), .v (.int .i64 0), .v (.int .i64 0), .v (.int .i64 0), .v (.int .i64 0)])]⟩, some ⟨3, [.d (WiWindow.d e)]⟩, none, none, some (lvI [rv2])]) tb R R R R R R R R R R R iq6 R R R R R ?_
    refine r_asgW R R R (eN (sw_seq (qG (r_fa tb R R R R R R R (r_ldD (y := .v (.int .i64 rv.what)) tb R R R R R R R R R ?_)))))
    refine r_eql R R R R ?_ ?_
    ·intro c10
     replace h := ifP c10 h
     refine eN (sw_condT R (qG (r_ldD (y := WiPlan.d t) tb R R R R R R R R R (r_fa tb R R R R R R R (r_ldD (y := .agg [.arr 1 ((a.s_Used).map vI), .arr 1 ((a.s_Credit).map vI), .arr 1 ((a.s_Last).map vI), .v (.int .i64 a.s_Next)]) tb R R R R R R R R R (r_ldD (y := WiSky.d o) tb R R R R R R R R R (r_fa tb R R R R R R R (r_ldD (y := .v (.int .i64 a.minute)) tb R R R R R R R R R (r_movW R R R ?_)))))))))
     obtain ⟨rv8, hrv8, h⟩ := bnd h
     refine r_callLN (t' := .row 10 1 0 (rv8).length) (news' := [(lvI rv8)]) (r_rights_scr hrv8) R ((.row (fun _ => rfl) .nil)) (.of (by kernel_rfl)) R R ((.cons (.d _) (.cons (.d _) (.cons (.d _) (.cons (.d _) (.cons (.row R R) .nil)))))) R ((.row .nil)) R R R ?_
     refine r_asgW R R R (eN (qG (r_fa tb R R R R R R R (r_ldD (y := .agg [.arr 1 ((a.s_Used).map vI), .arr 1 ((a.s_Credit).map vI), .arr 1 ((a.s_Last).map vI), .v (.int .i64 a.s_Next)]) tb R R R R R R R R R ?_))))
     obtain ⟨rv9, hrv9, h⟩ := bnd h
     refine r_callN (t' := WiState_T1 rv9 11 12 13) (news' := [(lvI rv9.used), (lvI rv9.credit), (lvI rv9.last)]) (r_copied_scr hrv9) (.of (by kernel_rfl)) R R R ((.row (.row (.row .nil)))) R R R (r_fa tb R R R R R R R ?_)
     refine r_stE _ ([some ⟨4, [.d (WiPlan.d t)]⟩, some ⟨2, [.d (WiSky.d o)]⟩, some ⟨13, [Desk_T1 {a with s_Used := rv9.used, s_Credit := rv9.credit, s_Last := rv9.last, s_Next := rv9.next} 11 12 13]⟩, some ⟨3, [.d (WiTurn.d rv)]⟩, some ⟨13, [.d (.agg [.v (.slice none 0 0), .v (.slice none 0 0), .v (.slice none 0 0), .v (.int .i64 0), .v (.int .i64 0), .v (.slice none 0 0), .v (.int .i64 0), .v (.int .i64 0), .v (.bool false), .v (.int .i64 0), .v (.int .i64 0), .v (.int .i64 0), .v (.int .i64 0)])]⟩, some ⟨3, [.d (WiWindow.d e)]⟩, none, none, some (lvI [rv2]), some (lvI q6), some (lvI rv8), some (lvI rv9.used), some (lvI rv9.credit), some (lvI rv9.last)]) tb R R R R R R R R R R R R ?_
     refine eN (sw_seq (sw_dr (by kernel_rfl) (r_fa tb R R R R R R R (r_fa tb R R R R R R R (r_ldW tb R R R R R R R R R (r_movD R R R (r_fa tb R R R R R R R (r_fa tb R R R R R R R (r_ldW tb R R R R R R R R R (r_movD R R R (r_fa tb R R R R R R R (r_fa tb R R R R R R R (r_ldW tb R R R R R R R R R (r_movD R R R (r_fa tb R R R R R R R (r_fa tb R R R R R R R ?_))))))))))))))))
     refine r_ldW tb R R R R R R R R R (r_movD R R R ?_)
     obtain ⟨e6, ie6, h⟩ := bnd h
     refine r_ixI tb R R R R R R (ix0 ie6) (ix1 ie6) R R ?_
     refine r_ldD (y := .v (.int .i64 e6)) tb R R R R (ix2 (g := fun a => T.d (vI a)) ie6) R R R R ?_
     refine r_add R R R R (r_fa tb R R R R R R R (r_ldD (y := .v (.int .i64 e.day)) tb R R R R R R R R R (r_fa tb R R R R R R R (r_fa tb R R R R R R R (r_ldW tb R R R R R R R R R (r_movD R R R ?_))))))
     obtain ⟨e7, ie7, h⟩ := bnd h
     refine r_ixI tb R R R R R R (ix0 ie7) (ix1 ie7) R R ?_
     refine r_ldD (y := .v (.int .i64 e7)) tb R R R R (ix2 (g := fun a => T.d (vI a)) ie7) R R R R ?_
     refine r_fa tb R R R R R R R (r_ldD (y := .v (.int .i64 t.cost)) tb R R R R R R R R R (r_sub R R R R (r_ixI tb R R R R R R (ix0 ie6) (ix1 ie6) R R ?_)))
     obtain ⟨q7, iq7, h⟩ := bnd h
     refine r_stQ (a' := (W (e6 + 1))) tb R R R R ie6 R R R R iq7 R R ?_
     dsimp only [List.set_cons_zero, List.set_cons_succ, WiState_T1, WiState_T2, WiState_T3, Table_T1, Desk_T1, Desk_T2, Desk_T3]
     first | rw [set_len iq7] | skip
     obtain ⟨e8, ie8, h⟩ := bnd h
     refine r_ixI tb R R R R R R (ix0 ie8) (ix1 ie8) R R ?_
     obtain ⟨q8, iq8, h⟩ := bnd h
     refine r_stQ (a' := e.day) tb R R R R ie8 R R R R iq8 R R ?_
     dsimp only [List.set_cons_zero, List.set_cons_succ, WiState_T1, WiState_T2, WiState_T3, Table_T1, Desk_T1, Desk_T2, Desk_T3]
     first | rw [set_len iq8] | skip
     refine r_ixI tb R R R R R R (ix0 ie7) (ix1 ie7) R R ?_
     obtain ⟨q9, iq9, h⟩ := bnd h
     refine r_stQ (a' := (W (e7 - t.cost))) tb R R R R ie7 R R R R iq9 R R ?_
     dsimp only [List.set_cons_zero, List.set_cons_succ, WiState_T1, WiState_T2, WiState_T3, Table_T1, Desk_T1, Desk_T2, Desk_T3]
     first | rw [set_len iq9] | skip
     refine ev_endD (by kernel_rfl) (then_norm (sw_seq (qG (r_asgD R R R (eN (sw_block ?_))))))
     obtain ⟨K1, hK1, h⟩ : ∃ K, K = _ ∧ r_act_L1 F rv8 K F q9 0 = some r := ⟨_, rfl, h⟩
     refine sw_loop (st0 := ⟨[(6, .ref 0 13 0 0), (7, .ref 4 3 0 0), (8, .ref 5 13 0 0), (9, .d (.v (.int .i64 0))), (10, .d (.v (.int .i64 rv2))), (13, .row 6 1 0 (q6).length), (14, .row 7 1 0 (rv8).length), (15, .d (.v (.int .i64 0)))], [some ⟨13, [Desk_T1 {a with s_Used := q7, s_Credit := q9, s_Last := q8, s_Next := rv9.next} 1 2 3]⟩, some (lvI q7), some (lvI q9), some (lvI q8), some ⟨3, [.d (WiTurn.d rv)]⟩, some ⟨13, [.d (.agg [.v (.slice none 0 0), .v (.slice none 0 0), .v (.slice none 0 0), .v (.int .i64 0), .v (.int .i64 0), .v (.slice none 0 0), .v (.int .i64 0), .v (.int .i64 0), .v (.bool false), .v (.int .i64 0), .v (.int .i64 0), .v (.int .i64 0), .v (.int .i64 0)])]⟩, some (lvI q6), some (lvI rv8)]⟩) (κ := [2, 11, 12, 13, 3, 4, 9, 10]) (fun m st => ∃ (y : (List Int)) (x : Int), r_act_L1 F rv8 K1 m y x = some r ∧ st = ⟨[(6, .ref 0 13 0 0), (7, .ref 4 3 0 0), (8, .ref 5 13 0 0), (9, .d (.v (.int .i64 0))), (10, .d (.v (.int .i64 rv2))), (13, .row 6 1 0 (q6).length), (14, .row 7 1 0 (rv8).length), (15, .d (.v (.int .i64 x)))], [some ⟨13, [Desk_T1 {a with s_Used := q7, s_Credit := y, s_Last := q8, s_Next := rv9.next} 1 2 3]⟩, some (lvI q7), some (lvI y), some (lvI q8), some ⟨3, [.d (WiTurn.d rv)]⟩, some ⟨13, [.d (.agg [.v (.slice none 0 0), .v (.slice none 0 0), .v (.slice none 0 0), .v (.int .i64 0), .v (.int .i64 0), .v (.slice none 0 0), .v (.int .i64 0), .v (.int .i64 0), .v (.bool false), .v (.int .i64 0), .v (.int .i64 0), .v (.int .i64 0), .v (.int .i64 0)])]⟩, some (lvI q6), some (lvI rv8)]⟩) (vwK R R (.cons R R (.row R (.row R (.row R (.cons R R (.cons R R (.row R (.row R .nil)))))))) (.cons R R (.cons R R (.cons R R (.cons R R (.cons R R (.cons R R (.cons R R (.cons R R .nil))))))))) ⟨q9, 0, h, R⟩ ?_
     clear h
     rintro m1 st ⟨y, x, h, rfl⟩
     cases m1 with
     | zero => cases (show (none : Option (Desk × Int)) = some r from h)
     | succ m1 =>
     rw [r_act_L1] at h
     refine sw_seq (qG (r_movD R R R (r_movW R R R (r_lenR tb R R R R R ?_))))
     refine r_lss R R R R ?_ ?_
     ·intro c11
      replace h := ifP c11 h
      refine eN (sw_condT R (sw_skip (then_norm (sw_seq (sw_block (sw_dr (by kernel_rfl) (r_fa tb R R R R R R R (r_fa tb R R R R R R R (r_ldW tb R R R R R R R R R (r_movW R R R (r_movD R R R ?_)))))))))))
      obtain ⟨e9, ie9, h⟩ := bnd h
      refine r_ixI tb R R R R R R (ix0 ie9) (ix1 ie9) R R ?_
      refine r_ldD (y := .v (.int .i64 e9)) tb R R R R (ix2 (g := fun a => T.d (vI a)) ie9) R R R R ?_
      obtain ⟨e10, ie10, h⟩ := bnd h
      refine r_ixI tb R R R R R R (ix0 ie10) (ix1 ie10) R R ?_
      refine r_ldD (y := .v (.int .i64 e10)) tb R R R R (ix2 (g := fun a => T.d (vI a)) ie10) R R R R ?_
      refine r_add R R R R (r_ixI tb R R R R R R (ix0 ie10) (ix1 ie10) R R ?_)
      obtain ⟨y2, iy2, h⟩ := bnd h
      refine r_stQ (a' := (W (e10 + 1))) tb R R R R ie10 R R R R iy2 R R ?_
      dsimp only [List.set_cons_zero, List.set_cons_succ, WiState_T1, WiState_T2, WiState_T3, Table_T1, Desk_T1, Desk_T2, Desk_T3]
      first | rw [set_len iy2] | skip
      refine ev_endD (by kernel_rfl) (block_norm (then_norm (sw_rg (r_movD R R R (r_add R R R R (r_asgD R R R (eN ?_)))))))
      exact ⟨m1, ⟨[(6, .ref 0 13 0 0), (7, .ref 4 3 0 0), (8, .ref 5 13 0 0), (9, .d (.v (.int .i64 0))), (10, .d (.v (.int .i64 rv2))), (13, .row 6 1 0 (q6).length), (14, .row 7 1 0 (rv8).length), (15, .d (.v (.int .i64 (W (x + 1)))))], [some ⟨13, [Desk_T1 {a with s_Used := q7, s_Credit := y2, s_Last := q8, s_Next := rv9.next} 1 2 3]⟩, some (lvI q7), some (lvI y2), some (lvI q8), some ⟨3, [.d (WiTurn.d rv)]⟩, some ⟨13, [.d (.agg [.v (.slice none 0 0), .v (.slice none 0 0), .v (.slice none 0 0), .v (.int .i64 0), .v (.int .i64 0), .v (.slice none 0 0), .v (.int .i64 0), .v (.int .i64 0), .v (.bool false), .v (.int .i64 0), .v (.int .i64 0), .v (.int .i64 0), .v (.int .i64 0)])]⟩, some (lvI q6), some (lvI rv8)]⟩, [0, 1, 2, 3, 4, 5, 6, 7], Nat.lt_succ_self _, (vwK R R (.cons R R (.row R (.row R (.row R (.cons R R (.cons R R (.row R (.row R .nil)))))))) (.cons R R (.cons R R (.cons R R (.cons R R (.cons R R (.cons R R (.cons R R (.cons R R .nil))))))))), y2, (W (x + 1)), h, R⟩
     intro c11
     replace h := ifN (Int.not_lt.2 c11) h
     refine eN (sw_condF R (sw_exit (then_exit (then_exit ?_))))
     subst hK1
     refine block_exit (then_norm (sw_seq (sw_dr (by kernel_rfl) (r_fa tb R R R R R R R (r_fa tb R R R R R R R (r_ldD (y := .v (.int .i64 rv9.next)) tb R R R R R R R R R (r_movD R R R (r_fa tb R R R R R R R (r_ldD (y := .v (.int .i64 rv.at_)) tb R R R R R R R R R (r_build (v := .d (.agg [.v (.int .i64 rv9.next), .v (.int .i64 rv2), .v (.int .i64 rv.at_), .v (.int .i64 (-1))])) tb R R (List.cons_ne_nil _ _) R R R R R R (r_fa tb R R R R R R R ?_)))))))))))
     refine r_stE _ ([some ⟨13, [Desk_T1 {a with s_Used := q7, s_Credit := y, s_Last := q8, s_Next := rv9.next, over := true} 1 2 3]⟩, some (lvI q7), some (lvI y), some (lvI q8), some ⟨3, [.d (WiTurn.d rv)]⟩, some ⟨13, [.d (.agg [.v (.slice none 0 0), .v (.slice none 0 0), .v (.slice none 0 0), .v (.int .i64 0), .v (.int .i64 0), .v (.slice none 0 0), .v (.int .i64 0), .v (.int .i64 0), .v (.bool false), .v (.int .i64 0), .v (.int .i64 0), .v (.int .i64 0), .v (.int .i64 0)])]⟩, some (lvI q6), some (lvI rv8)]) tb R R R R R R R R R R R R ?_
     refine r_fa tb R R R R R R R ?_
     refine r_stE _ ([some ⟨13, [Desk_T1 (Desk.mk q7 y q8 rv9.next a.minute a.done a.given a.by_ true rv9.next rv2 rv.at_ (-1)) 1 2 3]⟩, some (lvI q7), some (lvI y), some (lvI q8), some ⟨3, [.d (WiTurn.d rv)]⟩, some ⟨13, [.d (.agg [.v (.slice none 0 0), .v (.slice none 0 0), .v (.slice none 0 0), .v (.int .i64 0), .v (.int .i64 0), .v (.slice none 0 0), .v (.int .i64 0), .v (.int .i64 0), .v (.bool false), .v (.int .i64 0), .v (.int .i64 0), .v (.int .i64 0), .v (.int .i64 0)])]⟩, some (lvI q6), some (lvI rv8)]) tb R R R R R R R R R R R R ?_
     refine ev_endD (by kernel_rfl) (then_norm (qG (r_fa tb R R R R R R R (r_ldD (y := .v (.int .i64 a.given)) tb R R R R R R R R R ?_))))
     refine r_geq R R R R ?_ ?_
     ·intro c12
      replace h := ifP c12 h
      refine eN (sw_condT R (sw_rg (r_fa tb R R R R R R R (r_ldD (y := .v (.int .i64 a.by_)) tb R R R R R R R R R (r_fa tb R R R R R R R (r_fa tb R R R R R R R ?_))))))
      refine r_stE _ ([some ⟨13, [Desk_T1 (Desk.mk q7 y q8 rv9.next a.minute a.done a.given a.by_ true rv9.next rv2 rv.at_ a.by_) 1 2 3]⟩, some (lvI q7), some (lvI y), some (lvI q8), some ⟨3, [.d (WiTurn.d rv)]⟩, some ⟨13, [.d (.agg [.v (.slice none 0 0), .v (.slice none 0 0), .v (.slice none 0 0), .v (.int .i64 0), .v (.int .i64 0), .v (.slice none 0 0), .v (.int .i64 0), .v (.int .i64 0), .v (.bool false), .v (.int .i64 0), .v (.int .i64 0), .v (.int .i64 0), .v (.int .i64 0)])]⟩, some (lvI q6), some (lvI rv8)]) tb R R R R R R R R R R R R (eN (sw_seq ?_))
      refine sw_dr (by kernel_rfl) (r_movW R R R (r_fa tb R R R R R R R (r_ldD (y := .v (.int .i64 rv.at_)) tb R R R R R R R R R (r_fa tb R R R R R R R ?_))))
      refine r_stE _ ([some ⟨13, [Desk_T2 (Desk.mk q7 y q8 rv9.next a.minute q6 a.given a.by_ true rv9.next rv2 rv.at_ a.by_) 1 2 3 6]⟩, some (lvI q7), some (lvI y), some (lvI q8), some ⟨3, [.d (WiTurn.d rv)]⟩, some ⟨13, [.d (.agg [.v (.slice none 0 0), .v (.slice none 0 0), .v (.slice none 0 0), .v (.int .i64 0), .v (.int .i64 0), .v (.slice none 0 0), .v (.int .i64 0), .v (.int .i64 0), .v (.bool false), .v (.int .i64 0), .v (.int .i64 0), .v (.int .i64 0), .v (.int .i64 0)])]⟩, some (lvI q6), some (lvI rv8)]) tb R R R R R R R R R R R R ?_
      refine r_fa tb R R R R R R R ?_
      refine r_stE _ ([some ⟨13, [Desk_T2 (Desk.mk q7 y q8 rv9.next rv.at_ q6 a.given a.by_ true rv9.next rv2 rv.at_ a.by_) 1 2 3 6]⟩, some (lvI q7), some (lvI y), some (lvI q8), some ⟨3, [.d (WiTurn.d rv)]⟩, some ⟨13, [.d (.agg [.v (.slice none 0 0), .v (.slice none 0 0), .v (.slice none 0 0), .v (.int .i64 0), .v (.int .i64 0), .v (.slice none 0 0), .v (.int .i64 0), .v (.int .i64 0), .v (.bool false), .v (.int .i64 0), .v (.int .i64 0), .v (.int .i64 0), .v (.int .i64 0)])]⟩, some (lvI q6), some (lvI rv8)]) tb R R R R R R R R R R R R ?_
      refine r_fa tb R R R R R R R ?_
      refine r_stE _ ([some ⟨13, [Desk_T2 (Desk.mk q7 y q8 rv9.next rv.at_ q6 (-1) a.by_ true rv9.next rv2 rv.at_ a.by_) 1 2 3 6]⟩, some (lvI q7), some (lvI y), some (lvI q8), some ⟨3, [.d (WiTurn.d rv)]⟩, some ⟨13, [.d (.agg [.v (.slice none 0 0), .v (.slice none 0 0), .v (.slice none 0 0), .v (.int .i64 0), .v (.int .i64 0), .v (.slice none 0 0), .v (.int .i64 0), .v (.int .i64 0), .v (.bool false), .v (.int .i64 0), .v (.int .i64 0), .v (.int .i64 0), .v (.int .i64 0)])]⟩, some (lvI q6), some (lvI rv8)]) tb R R R R R R R R R R R R (ev_endD (by kernel_rfl) ?_)
      refine then_norm (qG (r_ldG tb R R R R R R R R R (r_stE _ ([some ⟨13, [Desk_T2 (Desk.mk q7 y q8 rv9.next rv.at_ q6 (-1) a.by_ true rv9.next rv2 rv.at_ a.by_) 1 2 3 6]⟩, some (lvI q7), some (lvI y), some (lvI q8), some ⟨3, [.d (WiTurn.d rv)]⟩, some ⟨13, [Desk_T2 (Desk.mk q7 y q8 rv9.next rv.at_ q6 (-1) a.by_ true rv9.next rv2 rv.at_ a.by_) 1 2 3 6]⟩, some (lvI q6), some (lvI rv8)]) tb R R R R R R R R R R R R (r_asgD R R R (eN (sw_ret ?_))))))
      obtain rfl := sI h
      exact (fin_S (t := .tup [Desk_T2 (Desk.mk q7 y q8 rv9.next rv.at_ q6 (-1) a.by_ true rv9.next rv2 rv.at_ a.by_) 0 1 2 3, .d (.v (.int .i64 0))]) (L := [some (lvI q7), some (lvI y), some (lvI q8), some (lvI q6)]) (κ := [1, 2, 3, 6]) R (.cons (rcell tb (u := Desk_T2 (Desk.mk q7 y q8 rv9.next rv.at_ q6 (-1) a.by_ true rv9.next rv2 rv.at_ a.by_) 1 2 3 6) R R R R R R R) (.cons (.tmp 9) .nil)) (vwK R R (.row R (.row R (.row R (.row R .nil)))) (.cons R R .nil)) ⟨_, R, (.tupL (.cons (.aggL (.cons (.row R R) (.cons (.row R R) (.cons (.row R R) (.cons (.d _) (.cons (.d _) (.cons (.row R R) (.cons (.d _) (.cons (.d _) (.cons (.d _) (.cons (.d _) (.cons (.d _) (.cons (.d _) (.cons (.d _) .nil)))))))))))))) (.cons (.d _) .nil)))⟩)
     intro c12
     replace h := ifN (Int.not_le.2 c12) h
     refine eN (sw_condF R (sw_skip (then_norm (sw_seq (sw_dr (by kernel_rfl) (r_movW R R R (r_fa tb R R R R R R R (r_ldD (y := .v (.int .i64 rv.at_)) tb R R R R R R R R R (r_fa tb R R R R R R R ?_)))))))))
     refine r_stE _ ([some ⟨13, [Desk_T2 (Desk.mk q7 y q8 rv9.next a.minute q6 a.given a.by_ true rv9.next rv2 rv.at_ (-1)) 1 2 3 6]⟩, some (lvI q7), some (lvI y), some (lvI q8), some ⟨3, [.d (WiTurn.d rv)]⟩, some ⟨13, [.d (.agg [.v (.slice none 0 0), .v (.slice none 0 0), .v (.slice none 0 0), .v (.int .i64 0), .v (.int .i64 0), .v (.slice none 0 0), .v (.int .i64 0), .v (.int .i64 0), .v (.bool false), .v (.int .i64 0), .v (.int .i64 0), .v (.int .i64 0), .v (.int .i64 0)])]⟩, some (lvI q6), some (lvI rv8)]) tb R R R R R R R R R R R R ?_
     refine r_fa tb R R R R R R R ?_
     refine r_stE _ ([some ⟨13, [Desk_T2 (Desk.mk q7 y q8 rv9.next rv.at_ q6 a.given a.by_ true rv9.next rv2 rv.at_ (-1)) 1 2 3 6]⟩, some (lvI q7), some (lvI y), some (lvI q8), some ⟨3, [.d (WiTurn.d rv)]⟩, some ⟨13, [.d (.agg [.v (.slice none 0 0), .v (.slice none 0 0), .v (.slice none 0 0), .v (.int .i64 0), .v (.int .i64 0), .v (.slice none 0 0), .v (.int .i64 0), .v (.int .i64 0), .v (.bool false), .v (.int .i64 0), .v (.int .i64 0), .v (.int .i64 0), .v (.int .i64 0)])]⟩, some (lvI q6), some (lvI rv8)]) tb R R R R R R R R R R R R ?_
     refine r_fa tb R R R R R R R ?_
     refine r_stE _ ([some ⟨13, [Desk_T2 (Desk.mk q7 y q8 rv9.next rv.at_ q6 (-1) a.by_ true rv9.next rv2 rv.at_ (-1)) 1 2 3 6]⟩, some (lvI q7), some (lvI y), some (lvI q8), some ⟨3, [.d (WiTurn.d rv)]⟩, some ⟨13, [.d (.agg [.v (.slice none 0 0), .v (.slice none 0 0), .v (.slice none 0 0), .v (.int .i64 0), .v (.int .i64 0), .v (.slice none 0 0), .v (.int .i64 0), .v (.int .i64 0), .v (.bool false), .v (.int .i64 0), .v (.int .i64 0), .v (.int .i64 0), .v (.int .i64 0)])]⟩, some (lvI q6), some (lvI rv8)]) tb R R R R R R R R R R R R (ev_endD (by kernel_rfl) ?_)
     refine then_norm (qG (r_ldG tb R R R R R R R R R (r_stE _ ([some ⟨13, [Desk_T2 (Desk.mk q7 y q8 rv9.next rv.at_ q6 (-1) a.by_ true rv9.next rv2 rv.at_ (-1)) 1 2 3 6]⟩, some (lvI q7), some (lvI y), some (lvI q8), some ⟨3, [.d (WiTurn.d rv)]⟩, some ⟨13, [Desk_T2 (Desk.mk q7 y q8 rv9.next rv.at_ q6 (-1) a.by_ true rv9.next rv2 rv.at_ (-1)) 1 2 3 6]⟩, some (lvI q6), some (lvI rv8)]) tb R R R R R R R R R R R R (r_asgD R R R (eN (sw_ret ?_))))))
     obtain rfl := sI h
     exact (fin_S (t := .tup [Desk_T2 (Desk.mk q7 y q8 rv9.next rv.at_ q6 (-1) a.by_ true rv9.next rv2 rv.at_ (-1)) 0 1 2 3, .d (.v (.int .i64 0))]) (L := [some (lvI q7), some (lvI y), some (lvI q8), some (lvI q6)]) (κ := [1, 2, 3, 6]) R (.cons (rcell tb (u := Desk_T2 (Desk.mk q7 y q8 rv9.next rv.at_ q6 (-1) a.by_ true rv9.next rv2 rv.at_ (-1)) 1 2 3 6) R R R R R R R) (.cons (.tmp 9) .nil)) (vwK R R (.row R (.row R (.row R (.row R .nil)))) (.cons R R .nil)) ⟨_, R, (.tupL (.cons (.aggL (.cons (.row R R) (.cons (.row R R) (.cons (.row R R) (.cons (.d _) (.cons (.d _) (.cons (.row R R) (.cons (.d _) (.cons (.d _) (.cons (.d _) (.cons (.d _) (.cons (.d _) (.cons (.d _) (.cons (.d _) .nil)))))))))))))) (.cons (.d _) .nil)))⟩)
    intro c10
    replace h := ifN c10 h
    refine eN (sw_condF R (sw_skip (then_norm (sw_seq (sw_dr (by kernel_rfl) (r_movW R R R (r_fa tb R R R R R R R (r_ldD (y := .v (.int .i64 rv.at_)) tb R R R R R R R R R (r_fa tb R R R R R R R ?_)))))))))
    refine r_stE _ ([some ⟨4, [.d (WiPlan.d t)]⟩, some ⟨2, [.d (WiSky.d o)]⟩, some ⟨13, [Desk_T3 {a with done := q6} 9]⟩, some ⟨3, [.d (WiTurn.d rv)]⟩, some ⟨13, [.d (.agg [.v (.slice none 0 0), .v (.slice none 0 0), .v (.slice none 0 0), .v (.int .i64 0), .v (.int .i64 0), .v (.slice none 0 0), .v (.int .i64 0), .v (.int .i64 0), .v (.bool false), .v (.int .i64 0), .v (.int .i64 0), .v (.int .i64 0), .v (.int .i64 0)])]⟩, some ⟨3, [.d (WiWindow.d e)]⟩, none, none, some (lvI [rv2]), some (lvI q6)]) tb R R R R R R R R R R R R ?_
    refine r_fa tb R R R R R R R ?_
    refine r_stE _ ([some ⟨4, [.d (WiPlan.d t)]⟩, some ⟨2, [.d (WiSky.d o)]⟩, some ⟨13, [Desk_T3 {a with minute := rv.at_, done := q6} 9]⟩, some ⟨3, [.d (WiTurn.d rv)]⟩, some ⟨13, [.d (.agg [.v (.slice none 0 0), .v (.slice none 0 0), .v (.slice none 0 0), .v (.int .i64 0), .v (.int .i64 0), .v (.slice none 0 0), .v (.int .i64 0), .v (.int .i64 0), .v (.bool false), .v (.int .i64 0), .v (.int .i64 0), .v (.int .i64 0), .v (.int .i64 0)])]⟩, some ⟨3, [.d (WiWindow.d e)]⟩, none, none, some (lvI [rv2]), some (lvI q6)]) tb R R R R R R R R R R R R ?_
    refine r_fa tb R R R R R R R ?_
    refine r_stE _ ([some ⟨4, [.d (WiPlan.d t)]⟩, some ⟨2, [.d (WiSky.d o)]⟩, some ⟨13, [Desk_T3 {a with minute := rv.at_, done := q6, given := (-1)} 9]⟩, some ⟨3, [.d (WiTurn.d rv)]⟩, some ⟨13, [.d (.agg [.v (.slice none 0 0), .v (.slice none 0 0), .v (.slice none 0 0), .v (.int .i64 0), .v (.int .i64 0), .v (.slice none 0 0), .v (.int .i64 0), .v (.int .i64 0), .v (.bool false), .v (.int .i64 0), .v (.int .i64 0), .v (.int .i64 0), .v (.int .i64 0)])]⟩, some ⟨3, [.d (WiWindow.d e)]⟩, none, none, some (lvI [rv2]), some (lvI q6)]) tb R R R R R R R R R R R R ?_
    refine ev_endD (by kernel_rfl) (then_norm (qG (r_ldG tb R R R R R R R R R (r_stE _ ([some ⟨4, [.d (WiPlan.d t)]⟩, some ⟨2, [.d (WiSky.d o)]⟩, some ⟨13, [Desk_T3 {a with minute := rv.at_, done := q6, given := (-1)} 9]⟩, some ⟨3, [.d (WiTurn.d rv)]⟩, some ⟨13, [Desk_T3 {a with minute := rv.at_, done := q6, given := (-1)} 9]⟩, some ⟨3, [.d (WiWindow.d e)]⟩, none, none, some (lvI [rv2]), some (lvI q6)]) tb R R R R R R R R R R R R (r_asgD R R R (eN (sw_ret ?_)))))))
    obtain rfl := sI h
    exact (fin_S (t := .tup [Desk_T3 {a with minute := rv.at_, done := q6, given := (-1)} 0, .d (.v (.int .i64 0))]) (L := [some (lvI q6)]) (κ := [9]) R (.cons (rcell tb (u := Desk_T3 {a with minute := rv.at_, done := q6, given := (-1)} 9) R R R R R R R) (.cons (.tmp 9) .nil)) (vwK R R (.row R .nil) (.cons R R .nil)) ⟨_, R, (.tupL (.cons (.aggL (.cons (.d _) (.cons (.d _) (.cons (.d _) (.cons (.d _) (.cons (.d _) (.cons (.row R R) (.cons (.d _) (.cons (.d _) (.cons (.d _) (.cons (.d _) (.cons (.d _) (.cons (.d _) (.cons (.d _) .nil)))))))))))))) (.cons (.d _) .nil)))⟩)
   intro c9
   replace h := ifF c9 h
   refine r_notF R R R (r_pickF R R R R (eN (sw_condT R (qG (r_ldD (y := Desk.d a) tb R R R R R R R R R (r_stE _ ([some ⟨4, [.d (WiPlan.d t)]⟩, some ⟨2, [.d (WiSky.d o)]⟩, some ⟨13, [.d (Desk.d a)]⟩, some ⟨3, [.d (WiTurn.d rv)]⟩, some ⟨13, [.d (Desk.d a)]⟩, some ⟨3, [.d (WiWindow.d e)]⟩]) tb R R R R R R R R R R R R (r_asgD R R R (eN (sw_ret (then_ret ?_))))))))))
   obtain rfl := sI h
   exact (fin_S (t := .d (.tup [Desk.d a, .v (.int .i64 7)])) (L := []) (κ := []) R (.cons (rcell tb (u := .d (Desk.d a)) R R R R R R R) (.cons (.tmp 9) .nil)) (vwK R R .nil (.cons R R .nil)) ⟨_, R, (.d _)⟩)
  intro c7
  replace h := ifN c7 h
  refine eN (sw_condF R (sw_skip (then_norm (sw_seq (qG (r_fa tb R R R R R R R (r_ldD (y := .v (.int .i64 rv.to_)) tb R R R R R R R R R ?_)))))))
  refine r_neq R R R R ?_ ?_
  ·intro c13
   replace h := ifN c13 h
   refine r_movD R R R (r_skip R R R (r_skip R R R (r_skip R R R (r_skip R R R (r_skip R R R (r_skip R R R (r_skip R R R (r_pickT R R R R (eN (sw_condT R (qG (r_ldD (y := Desk.d a) tb R R R R R R R R R (r_stE _ ([some ⟨4, [.d (WiPlan.d t)]⟩, some ⟨2, [.d (WiSky.d o)]⟩, some ⟨13, [.d (Desk.d a)]⟩, some ⟨3, [.d (WiTurn.d rv)]⟩, some ⟨13, [.d (Desk.d a)]⟩, some ⟨3, [.d (WiWindow.d e)]⟩]) tb R R R R R R R R R R R R (r_asgD R R R (eN (sw_ret (then_ret ?_)))))))))))))))))
   obtain rfl := sI h
   exact (fin_S (t := .d (.tup [Desk.d a, .v (.int .i64 7)])) (L := []) (κ := []) R (.cons (rcell tb (u := .d (Desk.d a)) R R R R R R R) (.cons (.tmp 9) .nil)) (vwK R R .nil (.cons R R .nil)) ⟨_, R, (.d _)⟩)
  intro c13
  replace h := ifP c13 h
  refine r_movD R R R (r_fa tb R R R R R R R (r_ldD (y := .v (.int .i64 rv.at_)) tb R R R R R R R R R (r_movD R R R (r_fa tb R R R R R R R (r_ldD (y := .v (.int .i64 e.until_)) tb R R R R R R R R R ?_)))))
  obtain ⟨rv10, hrv10, h⟩ := bnd h
  refine r_callB (r_in_pc hrv10) (.of (by kernel_rfl)) R R R R ?_ ?_
  ·intro c14
   replace h := ifP c14 h
   refine r_notT R R R (r_pickF R R R R (eN (sw_condF R (sw_skip (then_norm (qG (r_bslice tb R R R R R R R R R R R R R (r_fa tb R R R R R R R (r_ldD (y := .arr 1 ((a.done).map vI)) tb R R R R R R R R R ?_)))))))))
   obtain ⟨q10, iq10, h⟩ := bnd h
   refine r_apEM (g := vI) (w := ([] : List Int)) (v := a.done) ([some ⟨4, [.d (WiPlan.d t)]⟩, some ⟨2, [.d (WiSky.d o)]⟩, some ⟨13, [.d (Desk.d a)]⟩, some ⟨3, [.d (WiTurn.d rv)]⟩, some ⟨13, [.d (.agg [.v (.slice none 0 0), .v (.slice none 0 0), .v (.slice none 0 0), .v (.int .i64 0), .v (.int .i64 0), .v (.slice none 0 0), .v (.int .i64 0), .v (.int .i64 0), .v (.bool false), .v (.int .i64 0), .v (.int .i64 0), .v (.int .i64 0), .v (.int .i64 0)])]⟩, some ⟨3, [.d (WiWindow.d e)]⟩, none]) tb R R R R R R R R (by intro _; exact R) iq10 R R R R R ?_
   refine r_movD R R R (r_bslice tb R R R R R R R R R R R R R ?_)
   obtain ⟨q11, iq11, h⟩ := bnd h
   refine r_apM (g := vI) (w := q10) (v := [rv2]) ([some ⟨4, [.d (WiPlan.d t)]⟩, some ⟨2, [.d (WiSky.d o)]⟩, some ⟨13, [.d (Desk.d a)]⟩, some ⟨3, [.d (WiTurn.d rv)]⟩, some ⟨13, [.d (.agg [.v (.slice none 0 0), .v (.slice none 0 0), .v (.slice none 0 0), .v (.int .i64 0), .v (.int .i64 0), .v (.slice none 0 0), .v (.int .i64 0), .v (.int .i64 0), .v (.bool false), .v (.int .i64 0), .v (.int .i64 0), .v (.int .i64 0), .v (.int .i64 0)])]⟩, some ⟨3, [.d (WiWindow.d e)]⟩, none, none, some (lvI [rv2])]) tb R R R R R R R R R R R iq11 R R R R R ?_
   refine r_asgW R R R (eN (sw_seq (qG (r_fa tb R R R R R R R (r_ldD (y := .v (.int .i64 rv.what)) tb R R R R R R R R R ?_)))))
   refine r_eql R R R R ?_ ?_
   ·intro c15
    replace h := ifP c15 h
    refine eN (sw_condT R (qG (r_ldD (y := WiPlan.d t) tb R R R R R R R R R (r_fa tb R R R R R R R (r_ldD (y := .agg [.arr 1 ((a.s_Used).map vI), .arr 1 ((a.s_Credit).map vI), .arr 1 ((a.s_Last).map vI), .v (.int .i64 a.s_Next)]) tb R R R R R R R R R (r_ldD (y := WiSky.d o) tb R R R R R R R R R (r_fa tb R R R R R R R (r_ldD (y := .v (.int .i64 a.minute)) tb R R R R R R R R R (r_movW R R R ?_)))))))))
    obtain ⟨rv11, hrv11, h⟩ := bnd h
    refine r_callLN (t' := .row 10 1 0 (rv11).length) (news' := [(lvI rv11)]) (r_rights_scr hrv11) R ((.row (fun _ => rfl) .nil)) (.of (by kernel_rfl)) R R ((.cons (.d _) (.cons (.d _) (.cons (.d _) (.cons (.d _) (.cons (.row R R) .nil)))))) R ((.row .nil)) R R R ?_
    refine r_asgW R R R (eN (qG (r_fa tb R R R R R R R (r_ldD (y := .agg [.arr 1 ((a.s_Used).map vI), .arr 1 ((a.s_Credit).map vI), .arr 1 ((a.s_Last).map vI), .v (.int .i64 a.s_Next)]) tb R R R R R R R R R ?_))))
    obtain ⟨rv12, hrv12, h⟩ := bnd h
    refine r_callN (t' := WiState_T1 rv12 11 12 13) (news' := [(lvI rv12.used), (lvI rv12.credit), (lvI rv12.last)]) (r_copied_scr hrv12) (.of (by kernel_rfl)) R R R ((.row (.row (.row .nil)))) R R R (r_fa tb R R R R R R R ?_)
    refine r_stE _ ([some ⟨4, [.d (WiPlan.d t)]⟩, some ⟨2, [.d (WiSky.d o)]⟩, some ⟨13, [Desk_T1 {a with s_Used := rv12.used, s_Credit := rv12.credit, s_Last := rv12.last, s_Next := rv12.next} 11 12 13]⟩, some ⟨3, [.d (WiTurn.d rv)]⟩, some ⟨13, [.d (.agg [.v (.slice none 0 0), .v (.slice none 0 0), .v (.slice none 0 0), .v (.int .i64 0), .v (.int .i64 0), .v (.slice none 0 0), .v (.int .i64 0), .v (.int .i64 0), .v (.bool false), .v (.int .i64 0), .v (.int .i64 0), .v (.int .i64 0), .v (.int .i64 0)])]⟩, some ⟨3, [.d (WiWindow.d e)]⟩, none, none, some (lvI [rv2]), some (lvI q11), some (lvI rv11), some (lvI rv12.used), some (lvI rv12.credit), some (lvI rv12.last)]) tb R R R R R R R R R R R R ?_
    refine eN (sw_seq (sw_dr (by kernel_rfl) (r_fa tb R R R R R R R (r_fa tb R R R R R R R (r_ldW tb R R R R R R R R R (r_movD R R R (r_fa tb R R R R R R R (r_fa tb R R R R R R R (r_ldW tb R R R R R R R R R (r_movD R R R (r_fa tb R R R R R R R (r_fa tb R R R R R R R (r_ldW tb R R R R R R R R R (r_movD R R R (r_fa tb R R R R R R R (r_fa tb R R R R R R R ?_))))))))))))))))
    refine r_ldW tb R R R R R R R R R (r_movD R R R ?_)
    obtain ⟨e11, ie11, h⟩ := bnd h
    refine r_ixI tb R R R R R R (ix0 ie11) (ix1 ie11) R R ?_
    refine r_ldD (y := .v (.int .i64 e11)) tb R R R R (ix2 (g := fun a => T.d (vI a)) ie11) R R R R ?_
    refine r_add R R R R (r_fa tb R R R R R R R (r_ldD (y := .v (.int .i64 e.day)) tb R R R R R R R R R (r_fa tb R R R R R R R (r_fa tb R R R R R R R (r_ldW tb R R R R R R R R R (r_movD R R R ?_))))))
    obtain ⟨e12, ie12, h⟩ := bnd h
    refine r_ixI tb R R R R R R (ix0 ie12) (ix1 ie12) R R ?_
    refine r_ldD (y := .v (.int .i64 e12)) tb R R R R (ix2 (g := fun a => T.d (vI a)) ie12) R R R R ?_
    refine r_fa tb R R R R R R R (r_ldD (y := .v (.int .i64 t.cost)) tb R R R R R R R R R (r_sub R R R R (r_ixI tb R R R R R R (ix0 ie11) (ix1 ie11) R R ?_)))
    obtain ⟨q12, iq12, h⟩ := bnd h
    refine r_stQ (a' := (W (e11 + 1))) tb R R R R ie11 R R R R iq12 R R ?_
    dsimp only [List.set_cons_zero, List.set_cons_succ, WiState_T1, WiState_T2, WiState_T3, Table_T1, Desk_T1, Desk_T2, Desk_T3]
    first | rw [set_len iq12] | skip
    obtain ⟨e13, ie13, h⟩ := bnd h
    refine r_ixI tb R R R R R R (ix0 ie13) (ix1 ie13) R R ?_
    obtain ⟨q13, iq13, h⟩ := bnd h
    refine r_stQ (a' := e.day) tb R R R R ie13 R R R R iq13 R R ?_
    dsimp only [List.set_cons_zero, List.set_cons_succ, WiState_T1, WiState_T2, WiState_T3, Table_T1, Desk_T1, Desk_T2, Desk_T3]
    first | rw [set_len iq13] | skip
    refine r_ixI tb R R R R R R (ix0 ie12) (ix1 ie12) R R ?_
    obtain ⟨q14, iq14, h⟩ := bnd h
    refine r_stQ (a' := (W (e12 - t.cost))) tb R R R R ie12 R R R R iq14 R R ?_
    dsimp only [List.set_cons_zero, List.set_cons_succ, WiState_T1, WiState_T2, WiState_T3, Table_T1, Desk_T1, Desk_T2, Desk_T3]
    first | rw [set_len iq14] | skip
    refine ev_endD (by kernel_rfl) (then_norm (sw_seq (qG (r_asgD R R R (eN (sw_block ?_))))))
    obtain ⟨K2, hK2, h⟩ : ∃ K, K = _ ∧ r_act_L2 F rv11 K F q14 0 = some r := ⟨_, rfl, h⟩
    refine sw_loop (st0 := ⟨[(6, .ref 0 13 0 0), (7, .ref 4 3 0 0), (8, .ref 5 13 0 0), (9, .d (.v (.int .i64 0))), (10, .d (.v (.int .i64 rv2))), (13, .row 6 1 0 (q11).length), (14, .row 7 1 0 (rv11).length), (15, .d (.v (.int .i64 0)))], [some ⟨13, [Desk_T1 {a with s_Used := q12, s_Credit := q14, s_Last := q13, s_Next := rv12.next} 1 2 3]⟩, some (lvI q12), some (lvI q14), some (lvI q13), some ⟨3, [.d (WiTurn.d rv)]⟩, some ⟨13, [.d (.agg [.v (.slice none 0 0), .v (.slice none 0 0), .v (.slice none 0 0), .v (.int .i64 0), .v (.int .i64 0), .v (.slice none 0 0), .v (.int .i64 0), .v (.int .i64 0), .v (.bool false), .v (.int .i64 0), .v (.int .i64 0), .v (.int .i64 0), .v (.int .i64 0)])]⟩, some (lvI q11), some (lvI rv11)]⟩) (κ := [2, 11, 12, 13, 3, 4, 9, 10]) (fun m st => ∃ (y3 : (List Int)) (x2 : Int), r_act_L2 F rv11 K2 m y3 x2 = some r ∧ st = ⟨[(6, .ref 0 13 0 0), (7, .ref 4 3 0 0), (8, .ref 5 13 0 0), (9, .d (.v (.int .i64 0))), (10, .d (.v (.int .i64 rv2))), (13, .row 6 1 0 (q11).length), (14, .row 7 1 0 (rv11).length), (15, .d (.v (.int .i64 x2)))], [some ⟨13, [Desk_T1 {a with s_Used := q12, s_Credit := y3, s_Last := q13, s_Next := rv12.next} 1 2 3]⟩, some (lvI q12), some (lvI y3), some (lvI q13), some ⟨3, [.d (WiTurn.d rv)]⟩, some ⟨13, [.d (.agg [.v (.slice none 0 0), .v (.slice none 0 0), .v (.slice none 0 0), .v (.int .i64 0), .v (.int .i64 0), .v (.slice none 0 0), .v (.int .i64 0), .v (.int .i64 0), .v (.bool false), .v (.int .i64 0), .v (.int .i64 0), .v (.int .i64 0), .v (.int .i64 0)])]⟩, some (lvI q11), some (lvI rv11)]⟩) (vwK R R (.cons R R (.row R (.row R (.row R (.cons R R (.cons R R (.row R (.row R .nil)))))))) (.cons R R (.cons R R (.cons R R (.cons R R (.cons R R (.cons R R (.cons R R (.cons R R .nil))))))))) ⟨q14, 0, h, R⟩ ?_
    clear h
    rintro m2 st ⟨y3, x2, h, rfl⟩
    cases m2 with
    | zero => cases (show (none : Option (Desk × Int)) = some r from h)
    | succ m2 =>
    rw [r_act_L2] at h
    refine sw_seq (qG (r_movD R R R (r_movW R R R (r_lenR tb R R R R R ?_))))
    refine r_lss R R R R ?_ ?_
    ·intro c16
     replace h := ifP c16 h
     refine eN (sw_condT R (sw_skip (then_norm (sw_seq (sw_block (sw_dr (by kernel_rfl) (r_fa tb R R R R R R R (r_fa tb R R R R R R R (r_ldW tb R R R R R R R R R (r_movW R R R (r_movD R R R ?_)))))))))))
     obtain ⟨e14, ie14, h⟩ := bnd h
     refine r_ixI tb R R R R R R (ix0 ie14) (ix1 ie14) R R ?_
     refine r_ldD (y := .v (.int .i64 e14)) tb R R R R (ix2 (g := fun a => T.d (vI a)) ie14) R R R R ?_
     obtain ⟨e15, ie15, h⟩ := bnd h
     refine r_ixI tb R R R R R R (ix0 ie15) (ix1 ie15) R R ?_
     refine r_ldD (y := .v (.int .i64 e15)) tb R R R R (ix2 (g := fun a => T.d (vI a)) ie15) R R R R ?_
     refine r_add R R R R (r_ixI tb R R R R R R (ix0 ie15) (ix1 ie15) R R ?_)
     obtain ⟨y4, iy4, h⟩ := bnd h
     refine r_stQ (a' := (W (e15 + 1))) tb R R R R ie15 R R R R iy4 R R ?_
     dsimp only [List.set_cons_zero, List.set_cons_succ, WiState_T1, WiState_T2, WiState_T3, Table_T1, Desk_T1, Desk_T2, Desk_T3]
     first | rw [set_len iy4] | skip
     refine ev_endD (by kernel_rfl) (block_norm (then_norm (sw_rg (r_movD R R R (r_add R R R R (r_asgD R R R (eN ?_)))))))
     exact ⟨m2, ⟨[(6, .ref 0 13 0 0), (7, .ref 4 3 0 0), (8, .ref 5 13 0 0), (9, .d (.v (.int .i64 0))), (10, .d (.v (.int .i64 rv2))), (13, .row 6 1 0 (q11).length), (14, .row 7 1 0 (rv11).length), (15, .d (.v (.int .i64 (W (x2 + 1)))))], [some ⟨13, [Desk_T1 {a with s_Used := q12, s_Credit := y4, s_Last := q13, s_Next := rv12.next} 1 2 3]⟩, some (lvI q12), some (lvI y4), some (lvI q13), some ⟨3, [.d (WiTurn.d rv)]⟩, some ⟨13, [.d (.agg [.v (.slice none 0 0), .v (.slice none 0 0), .v (.slice none 0 0), .v (.int .i64 0), .v (.int .i64 0), .v (.slice none 0 0), .v (.int .i64 0), .v (.int .i64 0), .v (.bool false), .v (.int .i64 0), .v (.int .i64 0), .v (.int .i64 0), .v (.int .i64 0)])]⟩, some (lvI q11), some (lvI rv11)]⟩, [0, 1, 2, 3, 4, 5, 6, 7], Nat.lt_succ_self _, (vwK R R (.cons R R (.row R (.row R (.row R (.cons R R (.cons R R (.row R (.row R .nil)))))))) (.cons R R (.cons R R (.cons R R (.cons R R (.cons R R (.cons R R (.cons R R (.cons R R .nil))))))))), y4, (W (x2 + 1)), h, R⟩
    intro c16
    replace h := ifN (Int.not_lt.2 c16) h
    refine eN (sw_condF R (sw_exit (then_exit (then_exit ?_))))
    subst hK2
    refine block_exit (then_norm (sw_seq (sw_dr (by kernel_rfl) (r_fa tb R R R R R R R (r_fa tb R R R R R R R (r_ldD (y := .v (.int .i64 rv12.next)) tb R R R R R R R R R (r_movD R R R (r_fa tb R R R R R R R (r_ldD (y := .v (.int .i64 rv.at_)) tb R R R R R R R R R (r_build (v := .d (.agg [.v (.int .i64 rv12.next), .v (.int .i64 rv2), .v (.int .i64 rv.at_), .v (.int .i64 (-1))])) tb R R (List.cons_ne_nil _ _) R R R R R R (r_fa tb R R R R R R R ?_)))))))))))
    refine r_stE _ ([some ⟨13, [Desk_T1 {a with s_Used := q12, s_Credit := y3, s_Last := q13, s_Next := rv12.next, over := true} 1 2 3]⟩, some (lvI q12), some (lvI y3), some (lvI q13), some ⟨3, [.d (WiTurn.d rv)]⟩, some ⟨13, [.d (.agg [.v (.slice none 0 0), .v (.slice none 0 0), .v (.slice none 0 0), .v (.int .i64 0), .v (.int .i64 0), .v (.slice none 0 0), .v (.int .i64 0), .v (.int .i64 0), .v (.bool false), .v (.int .i64 0), .v (.int .i64 0), .v (.int .i64 0), .v (.int .i64 0)])]⟩, some (lvI q11), some (lvI rv11)]) tb R R R R R R R R R R R R ?_
    refine r_fa tb R R R R R R R ?_
    refine r_stE _ ([some ⟨13, [Desk_T1 (Desk.mk q12 y3 q13 rv12.next a.minute a.done a.given a.by_ true rv12.next rv2 rv.at_ (-1)) 1 2 3]⟩, some (lvI q12), some (lvI y3), some (lvI q13), some ⟨3, [.d (WiTurn.d rv)]⟩, some ⟨13, [.d (.agg [.v (.slice none 0 0), .v (.slice none 0 0), .v (.slice none 0 0), .v (.int .i64 0), .v (.int .i64 0), .v (.slice none 0 0), .v (.int .i64 0), .v (.int .i64 0), .v (.bool false), .v (.int .i64 0), .v (.int .i64 0), .v (.int .i64 0), .v (.int .i64 0)])]⟩, some (lvI q11), some (lvI rv11)]) tb R R R R R R R R R R R R ?_
    refine ev_endD (by kernel_rfl) (then_norm (qG (r_fa tb R R R R R R R (r_ldD (y := .v (.int .i64 a.given)) tb R R R R R R R R R ?_))))
    refine r_geq R R R R ?_ ?_
    ·intro c17
     replace h := ifP c17 h
     refine eN (sw_condT R (sw_rg (r_fa tb R R R R R R R (r_ldD (y := .v (.int .i64 a.by_)) tb R R R R R R R R R (r_fa tb R R R R R R R (r_fa tb R R R R R R R ?_))))))
     refine r_stE _ ([some ⟨13, [Desk_T1 (Desk.mk q12 y3 q13 rv12.next a.minute a.done a.given a.by_ true rv12.next rv2 rv.at_ a.by_) 1 2 3]⟩, some (lvI q12), some (lvI y3), some (lvI q13), some ⟨3, [.d (WiTurn.d rv)]⟩, some ⟨13, [.d (.agg [.v (.slice none 0 0), .v (.slice none 0 0), .v (.slice none 0 0), .v (.int .i64 0), .v (.int .i64 0), .v (.slice none 0 0), .v (.int .i64 0), .v (.int .i64 0), .v (.bool false), .v (.int .i64 0), .v (.int .i64 0), .v (.int .i64 0), .v (.int .i64 0)])]⟩, some (lvI q11), some (lvI rv11)]) tb R R R R R R R R R R R R (eN ?_)
     refine sw_seq (sw_dr (by kernel_rfl) (r_movW R R R (r_fa tb R R R R R R R (r_ldD (y := .v (.int .i64 rv.at_)) tb R R R R R R R R R (r_fa tb R R R R R R R ?_)))))
     refine r_stE _ ([some ⟨13, [Desk_T2 (Desk.mk q12 y3 q13 rv12.next a.minute q11 a.given a.by_ true rv12.next rv2 rv.at_ a.by_) 1 2 3 6]⟩, some (lvI q12), some (lvI y3), some (lvI q13), some ⟨3, [.d (WiTurn.d rv)]⟩, some ⟨13, [.d (.agg [.v (.slice none 0 0), .v (.slice none 0 0), .v (.slice none 0 0), .v (.int .i64 0), .v (.int .i64 0), .v (.slice none 0 0), .v (.int .i64 0), .v (.int .i64 0), .v (.bool false), .v (.int .i64 0), .v (.int .i64 0), .v (.int .i64 0), .v (.int .i64 0)])]⟩, some (lvI q11), some (lvI rv11)]) tb R R R R R R R R R R R R ?_
     refine r_fa tb R R R R R R R ?_
     refine r_stE _ ([some ⟨13, [Desk_T2 (Desk.mk q12 y3 q13 rv12.next rv.at_ q11 a.given a.by_ true rv12.next rv2 rv.at_ a.by_) 1 2 3 6]⟩, some (lvI q12), some (lvI y3), some (lvI q13), some ⟨3, [.d (WiTurn.d rv)]⟩, some ⟨13, [.d (.agg [.v (.slice none 0 0), .v (.slice none 0 0), .v (.slice none 0 0), .v (.int .i64 0), .v (.int .i64 0), .v (.slice none 0 0), .v (.int .i64 0), .v (.int .i64 0), .v (.bool false), .v (.int .i64 0), .v (.int .i64 0), .v (.int .i64 0), .v (.int .i64 0)])]⟩, some (lvI q11), some (lvI rv11)]) tb R R R R R R R R R R R R ?_
     refine r_fa tb R R R R R R R ?_
     refine r_stE _ ([some ⟨13, [Desk_T2 (Desk.mk q12 y3 q13 rv12.next rv.at_ q11 (-1) a.by_ true rv12.next rv2 rv.at_ a.by_) 1 2 3 6]⟩, some (lvI q12), some (lvI y3), some (lvI q13), some ⟨3, [.d (WiTurn.d rv)]⟩, some ⟨13, [.d (.agg [.v (.slice none 0 0), .v (.slice none 0 0), .v (.slice none 0 0), .v (.int .i64 0), .v (.int .i64 0), .v (.slice none 0 0), .v (.int .i64 0), .v (.int .i64 0), .v (.bool false), .v (.int .i64 0), .v (.int .i64 0), .v (.int .i64 0), .v (.int .i64 0)])]⟩, some (lvI q11), some (lvI rv11)]) tb R R R R R R R R R R R R ?_
     refine ev_endD (by kernel_rfl) (then_norm (qG (r_ldG tb R R R R R R R R R (r_stE _ ([some ⟨13, [Desk_T2 (Desk.mk q12 y3 q13 rv12.next rv.at_ q11 (-1) a.by_ true rv12.next rv2 rv.at_ a.by_) 1 2 3 6]⟩, some (lvI q12), some (lvI y3), some (lvI q13), some ⟨3, [.d (WiTurn.d rv)]⟩, some ⟨13, [Desk_T2 (Desk.mk q12 y3 q13 rv12.next rv.at_ q11 (-1) a.by_ true rv12.next rv2 rv.at_ a.by_) 1 2 3 6]⟩, some (lvI q11), some (lvI rv11)]) tb R R R R R R R R R R R R (r_asgD R R R (eN (sw_ret ?_)))))))
     obtain rfl := sI h
     exact (fin_S (t := .tup [Desk_T2 (Desk.mk q12 y3 q13 rv12.next rv.at_ q11 (-1) a.by_ true rv12.next rv2 rv.at_ a.by_) 0 1 2 3, .d (.v (.int .i64 0))]) (L := [some (lvI q12), some (lvI y3), some (lvI q13), some (lvI q11)]) (κ := [1, 2, 3, 6]) R (.cons (rcell tb (u := Desk_T2 (Desk.mk q12 y3 q13 rv12.next rv.at_ q11 (-1) a.by_ true rv12.next rv2 rv.at_ a.by_) 1 2 3 6) R R R R R R R) (.cons (.tmp 9) .nil)) (vwK R R (.row R (.row R (.row R (.row R .nil)))) (.cons R R .nil)) ⟨_, R, (.tupL (.cons (.aggL (.cons (.row R R) (.cons (.row R R) (.cons (.row R R) (.cons (.d _) (.cons (.d _) (.cons (.row R R) (.cons (.d _) (.cons (.d _) (.cons (.d _) (.cons (.d _) (.cons (.d _) (.cons (.d _) (.cons (.d _) .nil)))))))))))))) (.cons (.d _) .nil)))⟩)
    intro c17
    replace h := ifN (Int.not_le.2 c17) h
    refine eN (sw_condF R (sw_skip (then_norm (sw_seq (sw_dr (by kernel_rfl) (r_movW R R R (r_fa tb R R R R R R R (r_ldD (y := .v (.int .i64 rv.at_)) tb R R R R R R R R R (r_fa tb R R R R R R R ?_)))))))))
    refine r_stE _ ([some ⟨13, [Desk_T2 (Desk.mk q12 y3 q13 rv12.next a.minute q11 a.given a.by_ true rv12.next rv2 rv.at_ (-1)) 1 2 3 6]⟩, some (lvI q12), some (lvI y3), some (lvI q13), some ⟨3, [.d (WiTurn.d rv)]⟩, some ⟨13, [.d (.agg [.v (.slice none 0 0), .v (.slice none 0 0), .v (.slice none 0 0), .v (.int .i64 0), .v (.int .i64 0), .v (.slice none 0 0), .v (.int .i64 0), .v (.int .i64 0), .v (.bool false), .v (.int .i64 0), .v (.int .i64 0), .v (.int .i64 0), .v (.int .i64 0)])]⟩, some (lvI q11), some (lvI rv11)]) tb R R R R R R R R R R R R ?_
    refine r_fa tb R R R R R R R ?_
    refine r_stE _ ([some ⟨13, [Desk_T2 (Desk.mk q12 y3 q13 rv12.next rv.at_ q11 a.given a.by_ true rv12.next rv2 rv.at_ (-1)) 1 2 3 6]⟩, some (lvI q12), some (lvI y3), some (lvI q13), some ⟨3, [.d (WiTurn.d rv)]⟩, some ⟨13, [.d (.agg [.v (.slice none 0 0), .v (.slice none 0 0), .v (.slice none 0 0), .v (.int .i64 0), .v (.int .i64 0), .v (.slice none 0 0), .v (.int .i64 0), .v (.int .i64 0), .v (.bool false), .v (.int .i64 0), .v (.int .i64 0), .v (.int .i64 0), .v (.int .i64 0)])]⟩, some (lvI q11), some (lvI rv11)]) tb R R R R R R R R R R R R ?_
    refine r_fa tb R R R R R R R ?_
    refine r_stE _ ([some ⟨13, [Desk_T2 (Desk.mk q12 y3 q13 rv12.next rv.at_ q11 (-1) a.by_ true rv12.next rv2 rv.at_ (-1)) 1 2 3 6]⟩, some (lvI q12), some (lvI y3), some (lvI q13), some ⟨3, [.d (WiTurn.d rv)]⟩, some ⟨13, [.d (.agg [.v (.slice none 0 0), .v (.slice none 0 0), .v (.slice none 0 0), .v (.int .i64 0), .v (.int .i64 0), .v (.slice none 0 0), .v (.int .i64 0), .v (.int .i64 0), .v (.bool false), .v (.int .i64 0), .v (.int .i64 0), .v (.int .i64 0), .v (.int .i64 0)])]⟩, some (lvI q11), some (lvI rv11)]) tb R R R R R R R R R R R R ?_
    refine ev_endD (by kernel_rfl) (then_norm (qG (r_ldG tb R R R R R R R R R (r_stE _ ([some ⟨13, [Desk_T2 (Desk.mk q12 y3 q13 rv12.next rv.at_ q11 (-1) a.by_ true rv12.next rv2 rv.at_ (-1)) 1 2 3 6]⟩, some (lvI q12), some (lvI y3), some (lvI q13), some ⟨3, [.d (WiTurn.d rv)]⟩, some ⟨13, [Desk_T2 (Desk.mk q12 y3 q13 rv12.next rv.at_ q11 (-1) a.by_ true rv12.next rv2 rv.at_ (-1)) 1 2 3 6]⟩, some (lvI q11), some (lvI rv11)]) tb R R R R R R R R R R R R (r_asgD R R R (eN (sw_ret ?_)))))))
    obtain rfl := sI h
    exact (fin_S (t := .tup [Desk_T2 (Desk.mk q12 y3 q13 rv12.next rv.at_ q11 (-1) a.by_ true rv12.next rv2 rv.at_ (-1)) 0 1 2 3, .d (.v (.int .i64 0))]) (L := [some (lvI q12), some (lvI y3), some (lvI q13), some (lvI q11)]) (κ := [1, 2, 3, 6]) R (.cons (rcell tb (u := Desk_T2 (Desk.mk q12 y3 q13 rv12.next rv.at_ q11 (-1) a.by_ true rv12.next rv2 rv.at_ (-1)) 1 2 3 6) R R R R R R R) (.cons (.tmp 9) .nil)) (vwK R R (.row R (.row R (.row R (.row R .nil)))) (.cons R R .nil)) ⟨_, R, (.tupL (.cons (.aggL (.cons (.row R R) (.cons (.row R R) (.cons (.row R R) (.cons (.d _) (.cons (.d _) (.cons (.row R R) (.cons (.d _) (.cons (.d _) (.cons (.d _) (.cons (.d _) (.cons (.d _) (.cons (.d _) (.cons (.d _) .nil)))))))))))))) (.cons (.d _) .nil)))⟩)
   intro c15
   replace h := ifN c15 h
   refine eN (sw_condF R (sw_skip (then_norm (sw_seq (sw_dr (by kernel_rfl) (r_movW R R R (r_fa tb R R R R R R R (r_ldD (y := .v (.int .i64 rv.at_)) tb R R R R R R R R R (r_fa tb R R R R R R R ?_)))))))))
   refine r_stE _ ([some ⟨4, [.d (WiPlan.d t)]⟩, some ⟨2, [.d (WiSky.d o)]⟩, some ⟨13, [Desk_T3 {a with done := q11} 9]⟩, some ⟨3, [.d (WiTurn.d rv)]⟩, some ⟨13, [.d (.agg [.v (.slice none 0 0), .v (.slice none 0 0), .v (.slice none 0 0), .v (.int .i64 0), .v (.int .i64 0), .v (.slice none 0 0), .v (.int .i64 0), .v (.int .i64 0), .v (.bool false), .v (.int .i64 0), .v (.int .i64 0), .v (.int .i64 0), .v (.int .i64 0)])]⟩, some ⟨3, [.d (WiWindow.d e)]⟩, none, none, some (lvI [rv2]), some (lvI q11)]) tb R R R R R R R R R R R R ?_
   refine r_fa tb R R R R R R R ?_
   refine r_stE _ ([some ⟨4, [.d (WiPlan.d t)]⟩, some ⟨2, [.d (WiSky.d o)]⟩, some ⟨13, [Desk_T3 {a with minute := rv.at_, done := q11} 9]⟩, some ⟨3, [.d (WiTurn.d rv)]⟩, some ⟨13, [.d (.agg [.v (.slice none 0 0), .v (.slice none 0 0), .v (.slice none 0 0), .v (.int .i64 0), .v (.int .i64 0), .v (.slice none 0 0), .v (.int .i64 0), .v (.int .i64 0), .v (.bool false), .v (.int .i64 0), .v (.int .i64 0), .v (.int .i64 0), .v (.int .i64 0)])]⟩, some ⟨3, [.d (WiWindow.d e)]⟩, none, none, some (lvI [rv2]), some (lvI q11)]) tb R R R R R R R R R R R R ?_
   refine r_fa tb R R R R R R R ?_
   refine r_stE _ ([some ⟨4, [.d (WiPlan.d t)]⟩, some ⟨2, [.d (WiSky.d o)]⟩, some ⟨13, [Desk_T3 {a with minute := rv.at_, done := q11, given := (-1)} 9]⟩, some ⟨3, [.d (WiTurn.d rv)]⟩, some ⟨13, [.d (.agg [.v (.slice none 0 0), .v (.slice none 0 0), .v (.slice none 0 0), .v (.int .i64 0), .v (.int .i64 0), .v (.slice none 0 0), .v (.int .i64 0), .v (.int .i64 0), .v (.bool false), .v (.int .i64 0), .v (.int .i64 0), .v (.int .i64 0), .v (.int .i64 0)])]⟩, some ⟨3, [.d (WiWindow.d e)]⟩, none, none, some (lvI [rv2]), some (lvI q11)]) tb R R R R R R R R R R R R ?_
   refine ev_endD (by kernel_rfl) (then_norm (qG (r_ldG tb R R R R R R R R R (r_stE _ ([some ⟨4, [.d (WiPlan.d t)]⟩, some ⟨2, [.d (WiSky.d o)]⟩, some ⟨13, [Desk_T3 {a with minute := rv.at_, done := q11, given := (-1)} 9]⟩, some ⟨3, [.d (WiTurn.d rv)]⟩, some ⟨13, [Desk_T3 {a with minute := rv.at_, done := q11, given := (-1)} 9]⟩, some ⟨3, [.d (WiWindow.d e)]⟩, none, none, some (lvI [rv2]), some (lvI q11)]) tb R R R R R R R R R R R R (r_asgD R R R (eN (sw_ret ?_)))))))
   obtain rfl := sI h
   exact (fin_S (t := .tup [Desk_T3 {a with minute := rv.at_, done := q11, given := (-1)} 0, .d (.v (.int .i64 0))]) (L := [some (lvI q11)]) (κ := [9]) R (.cons (rcell tb (u := Desk_T3 {a with minute := rv.at_, done := q11, given := (-1)} 9) R R R R R R R) (.cons (.tmp 9) .nil)) (vwK R R (.row R .nil) (.cons R R .nil)) ⟨_, R, (.tupL (.cons (.aggL (.cons (.d _) (.cons (.d _) (.cons (.d _) (.cons (.d _) (.cons (.d _) (.cons (.row R R) (.cons (.d _) (.cons (.d _) (.cons (.d _) (.cons (.d _) (.cons (.d _) (.cons (.d _) (.cons (.d _) .nil)))))))))))))) (.cons (.d _) .nil)))⟩)
  intro c14
  replace h := ifF c14 h
  refine r_notF R R R (r_pickF R R R R (eN (sw_condT R (qG (r_ldD (y := Desk.d a) tb R R R R R R R R R (r_stE _ ([some ⟨4, [.d (WiPlan.d t)]⟩, some ⟨2, [.d (WiSky.d o)]⟩, some ⟨13, [.d (Desk.d a)]⟩, some ⟨3, [.d (WiTurn.d rv)]⟩, some ⟨13, [.d (Desk.d a)]⟩, some ⟨3, [.d (WiWindow.d e)]⟩]) tb R R R R R R R R R R R R (r_asgD R R R (eN (sw_ret (then_ret ?_))))))))))
  obtain rfl := sI h
  exact (fin_S (t := .d (.tup [Desk.d a, .v (.int .i64 7)])) (L := []) (κ := []) R (.cons (rcell tb (u := .d (Desk.d a)) R R R R R R R) (.cons (.tmp 9) .nil)) (vwK R R .nil (.cons R R .nil)) ⟨_, R, (.d _)⟩)
 intro c2
 replace h := ifF c2 h
 refine r_notF R R R (eN (sw_condT R (qG (r_ldD (y := Desk.d a) tb R R R R R R R R R (r_stE _ ([some ⟨4, [.d (WiPlan.d t)]⟩, some ⟨2, [.d (WiSky.d o)]⟩, some ⟨13, [.d (Desk.d a)]⟩, some ⟨3, [.d (WiTurn.d rv)]⟩, some ⟨13, [.d (Desk.d a)]⟩, some ⟨3, [.d (WiWindow.d e)]⟩]) tb R R R R R R R R R R R R (r_asgD R R R (eN (sw_ret (then_ret ?_)))))))))
 obtain rfl := sI h
 exact (fin_S (t := .d (.tup [Desk.d a, .v (.int .i64 2)])) (L := []) (κ := []) R (.cons (rcell tb (u := .d (Desk.d a)) R R R R R R R) (.cons (.tmp 9) .nil)) (vwK R R .nil (.cons R R .nil)) ⟨_, R, (.d _)⟩)
end Go.Proofs.YtdefnmcjmklohaaGreat
