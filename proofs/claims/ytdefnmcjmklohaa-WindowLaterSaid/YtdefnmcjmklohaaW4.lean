/- What functions of the program compute: plain functions, and the proofs. -/
import Derived.Test.YtdefnmcjmklohaaW3
open Go Go.Proofs.Ytdefnmcjmklohaa.Sh Go.Proofs
namespace Go.Proofs.Ytdefnmcjmklohaa
set_option linter.unusedVariables false
set_option linter.unusedSimpArgs false
set_option maxRecDepth 100000
/-- hangfireref11.SameUses -/
def r_SameUses_L1 (F : Nat) (a : (List WiUse)) (b : (List WiUse)) (K : Int → Option Bool) : Nat → Int → Option Bool
 | 0, _ => none
 | n + 1, i => if i < (a.length : Int) then (Option.bind (ixO a i) fun e => Option.bind (ixO b i) fun e2 => if (!(WiUse.beq e e2)) = true then (some false) else (r_SameUses_L1 F a b K n (W (i + 1)))) else (K i)
def r_SameUses (F : Nat) (a : (List WiUse)) (b : (List WiUse)) : Option Bool := if (a.length : Int) = (b.length : Int) then (r_SameUses_L1 F a b (fun (i : Int) => some true) F 0) else (some false)
set_option maxHeartbeats 4000000 in
theorem r_SameUses_pc {F : Nat} {a : (List WiUse)} {b : (List WiUse)} {r : Bool} (h : r_SameUses F a b = some r) : PC Try.prog 29 [.arr 4 ((a).map WiUse.d), .arr 4 ((b).map WiUse.d)] (.v (.bool r)) := by
 rw [r_SameUses] at h
 refine SC.of_sw Try.func29 rfl rfl rfl ?_
 simp only [List.map_cons, List.map_nil, argS, Nat.zero_add, Nat.reduceAdd]
 refine sw_seq (sw_rg (r_asgD rfl rfl rfl (ev_end (then_norm (sw_seq (sw_seq (sw_rg (r_movD rfl rfl rfl (r_lenM tb rfl rfl rfl rfl rfl (r_movD rfl rfl rfl (r_lenM tb rfl rfl rfl rfl rfl ?_)))))))))))
 refine r_neq rfl rfl rfl rfl ?_ ?_
 ·intro c
  replace h := ifN c h
  refine ev_end (then_norm (sw_condT rfl (sw_seq (sw_rg (r_asgD rfl rfl rfl (ev_end (then_norm (sw_ret (then_ret ?_)))))))))
  obtain rfl := Option.some.inj h
  exact fin_0 (t := .d (.v (.bool false))) rfl rfl rfl (.cons (.tmp 4) .nil)
 intro c
 replace h := ifP c h
 refine ev_end (then_norm (sw_condF rfl (sw_skip (then_norm (sw_seq (sw_seq (sw_rg (r_asgD rfl rfl rfl (ev_end (then_norm (sw_block ?_)))))))))))
 obtain ⟨K2, hK2, h⟩ : ∃ K, K = _ ∧ r_SameUses_L1 F a b K F 0 = some r := ⟨_, rfl, h⟩
 refine sw_loop (st0 := ⟨[(0, .d (.arr 4 ((a).map WiUse.d))), (1, .d (.arr 4 ((b).map WiUse.d))), (4, .d (.v (.bool false))), (5, .d (.v (.int .i64 0)))], []⟩) (κ := []) (fun m st => ∃ (i : Int), r_SameUses_L1 F a b K2 m i = some r ∧ st = ⟨[(0, .d (.arr 4 ((a).map WiUse.d))), (1, .d (.arr 4 ((b).map WiUse.d))), (4, .d (.v (.bool false))), (5, .d (.v (.int .i64 i)))], []⟩) (vwK rfl rfl .nil (.cons rfl rfl (.cons rfl rfl (.cons rfl rfl (.cons rfl rfl .nil))))) ⟨0, h, rfl⟩ ?_
 clear h
 rintro m2 st ⟨i, h, rfl⟩
 cases m2 with
 | zero => cases (show (none : Option Bool) = some r from h)
 | succ m2 =>
 rw [r_SameUses_L1] at h
 refine sw_seq (sw_seq (sw_rg (r_movD rfl rfl rfl (r_movD rfl rfl rfl (r_lenM tb rfl rfl rfl rfl rfl ?_)))))
 refine r_lss rfl rfl rfl rfl ?_ ?_
 ·intro c2
  replace h := ifP c2 h
  refine ev_end (then_norm (sw_condT rfl (sw_skip (then_norm (sw_seq (sw_block (sw_seq (sw_dr (by kernel_rfl) (r_movD rfl rfl rfl (r_movD rfl rfl rfl ?_))))))))))
  obtain ⟨e, ie, h⟩ := bnd h
  refine r_ixE tb rfl rfl rfl rfl rfl rfl (ix0 ie) (ix1m ie) rfl rfl (r_ldE (y := WiUse.d e) tb rfl rfl (ix2 (g := WiUse.d) ie) rfl rfl rfl rfl (r_movD rfl rfl rfl (r_movD rfl rfl rfl ?_)))
  obtain ⟨e2, ie2, h⟩ := bnd h
  refine r_ixE tb rfl rfl rfl rfl rfl rfl (ix0 ie2) (ix1m ie2) rfl rfl (r_ldE (y := WiUse.d e2) tb rfl rfl (ix2 (g := WiUse.d) ie2) rfl rfl rfl rfl ?_)
  refine r_neqA (p := [.int .i64 e.window, .int .i64 e.team, .int .i64 e.at_, .int .i64 e.by_]) (q := [.int .i64 e2.window, .int .i64 e2.team, .int .i64 e2.at_, .int .i64 e2.by_]) rfl rfl (fun o1 o2 w => ne44 e e2 o1 o2 w) rfl rfl ?_
  with_reducible apply ev_lit
  ·intro c3
   replace h := ifP c3 h
   refine ev_endD (by kernel_rfl) (then_norm (sw_condT rfl (sw_seq (sw_rg (r_asgD rfl rfl rfl (ev_end (then_norm (sw_ret (block_ret (then_ret (then_ret (block_ret (then_ret ?_)))))))))))))
   obtain rfl := Option.some.inj h
   exact fin_0 (t := .d (.v (.bool false))) rfl rfl rfl (.cons (.tmp 4) .nil)
  intro c3
  replace h := ifF c3 h
  refine ev_endD (by kernel_rfl) (then_norm (sw_condF rfl (sw_skip (block_norm (then_norm (sw_rg (r_movD rfl rfl rfl (r_add rfl rfl rfl rfl (r_asgD rfl rfl rfl (ev_end (then_norm ?_)))))))))))
  exact ⟨m2, ⟨[(0, .d (.arr 4 ((a).map WiUse.d))), (1, .d (.arr 4 ((b).map WiUse.d))), (4, .d (.v (.bool false))), (5, .d (.v (.int .i64 (W (i + 1)))))], []⟩, [], Nat.lt_succ_self _, (vwK rfl rfl .nil (.cons rfl rfl (.cons rfl rfl (.cons rfl rfl (.cons rfl rfl .nil))))), (W (i + 1)), h, rfl⟩
 intro c2
 replace h := ifN (Int.not_lt.2 c2) h
 refine ev_end (then_norm (sw_condF rfl (sw_exit (then_exit (then_exit ?_)))))
 subst hK2
 refine block_exit (then_norm (sw_seq (sw_rg (r_asgD rfl rfl rfl (ev_end (then_norm (sw_ret ?_)))))))
 obtain rfl := Option.some.inj h
 exact fin_0 (t := .d (.v (.bool true))) rfl rfl rfl (.cons (.tmp 4) .nil)
/-- hangfireref11.Why -/
def r_Why (F : Nat) (p : WiPlan) (s : WiState) (sky : WiSky) (team : Int) (minute : Int) : Option (Int × Int) := Option.bind (r_asked F p s sky) fun rv => if rv = 0 then (Option.bind (r_in F team 0 (W ((p.teams.length : Int) - 1))) fun rv2 => if rv2 = true then (if rv = 0 then (Option.bind (ixO p.windows s.next) fun e => Option.bind (r_in F minute e.from_ e.until_) fun rv3 => if rv3 = true then (if rv = 0 then (Option.bind (r_why F p s sky team minute) fun rv4 => some (rv4, 0)) else (some (0, rv))) else (some (0, 7))) else (if rv = 0 then (Option.bind (r_why F p s sky team minute) fun rv5 => some (rv5, 0)) else (some (0, rv)))) else (some (0, 4))) else (if rv = 0 then (Option.bind (ixO p.windows s.next) fun e2 => Option.bind (r_in F minute e2.from_ e2.until_) fun rv6 => if rv6 = true then (if rv = 0 then (Option.bind (r_why F p s sky team minute) fun rv7 => some (rv7, 0)) else (some (0, rv))) else (some (0, 7))) else (if rv = 0 then (Option.bind (r_why F p s sky team minute) fun rv8 => some (rv8, 0)) else (some (0, rv))))
set_option maxHeartbeats 4000000 in
theorem r_Why_pc {F : Nat} {p : WiPlan} {s : WiState} {sky : WiSky} {team : Int} {minute : Int} {r : (Int × Int)} (h : r_Why F p s sky team minute = some r) : PC Try.prog 38 [WiPlan.d p, WiState.d s, WiSky.d sky, .v (.int .i64 team), .v (.int .i64 minute)] (.tup [.v (.int .i64 r.1), .v (.int .i64 r.2)]) := by
 rw [r_Why] at h
 refine SC.of_sw Try.func38 rfl rfl rfl ?_
 simp only [List.map_cons, List.map_nil, argS, Nat.zero_add, Nat.reduceAdd]
 refine sw_seq (sw_rg (r_box rfl rfl rfl rfl rfl rfl rfl (r_box rfl rfl rfl rfl rfl rfl rfl (r_box rfl rfl rfl rfl rfl rfl rfl (r_asgD rfl rfl rfl (r_asgD rfl rfl rfl (ev_end (then_norm (sw_seq (sw_rg (r_ldD (y := WiPlan.d p) tb rfl rfl rfl rfl rfl rfl rfl rfl rfl (r_ldD (y := WiState.d s) tb rfl rfl rfl rfl rfl rfl rfl rfl rfl (r_ldD (y := WiSky.d sky) tb rfl rfl rfl rfl rfl rfl rfl rfl rfl ?_)))))))))))))
 obtain ⟨rv, hrv, h⟩ := bnd h
 refine r_call (r_asked_pc hrv) (.of (by kernel_rfl)) rfl rfl rfl rfl (r_asgD rfl rfl rfl (ev_end (then_norm (sw_seq (sw_seq (sw_rg (r_movD rfl rfl rfl ?_)))))))
 refine r_eql rfl rfl rfl rfl ?_ ?_
 ·intro c
  replace h := ifP c h
  refine r_movD rfl rfl rfl (r_movD rfl rfl rfl (r_fa tb rfl rfl rfl rfl rfl rfl rfl (r_ldD (y := .arr 9 ((p.teams).map WiTeam.d)) tb rfl rfl rfl rfl rfl rfl rfl rfl rfl (r_lenM tb rfl rfl rfl rfl rfl (r_sub rfl rfl rfl rfl ?_)))))
  obtain ⟨rv2, hrv2, h⟩ := bnd h
  refine r_callB (r_in_pc hrv2) (.of (by kernel_rfl)) rfl rfl rfl rfl ?_ ?_
  ·intro c2
   replace h := ifP c2 h
   refine r_notT rfl rfl rfl (r_pickT rfl rfl rfl rfl (ev_end (then_norm (sw_condF rfl (sw_skip (then_norm (sw_seq (sw_seq (sw_dr (by kernel_rfl) (r_movD rfl rfl rfl ?_))))))))))
   refine r_eql rfl rfl rfl rfl ?_ ?_
   ·intro c3
    replace h := ifP c3 h
    refine r_movD rfl rfl rfl (r_movD rfl rfl rfl (r_fa tb rfl rfl rfl rfl rfl rfl rfl (r_ldD (y := .arr 3 ((p.windows).map WiWindow.d)) tb rfl rfl rfl rfl rfl rfl rfl rfl rfl (r_fa tb rfl rfl rfl rfl rfl rfl rfl (r_ldD (y := .v (.int .i64 s.next)) tb rfl rfl rfl rfl rfl rfl rfl rfl rfl ?_)))))
    obtain ⟨e, ie, h⟩ := bnd h
    refine r_ixE tb rfl rfl rfl rfl rfl rfl (ix0 ie) (ix1m ie) rfl rfl (r_faE tb rfl rfl rfl rfl rfl rfl rfl (r_ldE (y := .v (.int .i64 e.from_)) tb rfl rfl (ix2 (g := WiWindow.d) ie) rfl rfl rfl rfl (r_fa tb rfl rfl rfl rfl rfl rfl rfl (r_ldD (y := .arr 3 ((p.windows).map WiWindow.d)) tb rfl rfl rfl rfl rfl rfl rfl rfl rfl (r_fa tb rfl rfl rfl rfl rfl rfl rfl (r_ldD (y := .v (.int .i64 s.next)) tb rfl rfl rfl rfl rfl rfl rfl rfl rfl (r_ixE tb rfl rfl rfl rfl rfl rfl (ix0 ie) (ix1m ie) rfl rfl (r_faE tb rfl rfl rfl rfl rfl rfl rfl ?_))))))))
    refine r_ldE (y := .v (.int .i64 e.until_)) tb rfl rfl (ix2 (g := WiWindow.d) ie) rfl rfl rfl rfl ?_
    obtain ⟨rv3, hrv3, h⟩ := bnd h
    refine r_callB (r_in_pc hrv3) (.of (by kernel_rfl)) rfl rfl rfl rfl ?_ ?_
    ·intro c4
     replace h := ifP c4 h
     refine r_notT rfl rfl rfl (r_pickT rfl rfl rfl rfl (ev_endD (by kernel_rfl) (then_norm (sw_condF rfl (sw_skip (then_norm (sw_seq (sw_seq (sw_rg (r_movD rfl rfl rfl ?_))))))))))
     refine r_neq rfl rfl rfl rfl ?_ ?_
     ·intro c5
      replace h := ifN c5 h
      refine ev_end (then_norm (sw_condT rfl (sw_seq (sw_rg (r_movD rfl rfl rfl (r_asgD rfl rfl rfl (r_asgD rfl rfl rfl (ev_end (then_norm (sw_ret (then_ret ?_)))))))))))
      obtain rfl := Option.some.inj h
      exact fin_0 (t := .d (.tup [.v (.int .i64 0), .v (.int .i64 rv)])) rfl rfl rfl (.cons (.tmp 10) (.cons (.tmp 11) .nil))
     intro c5
     replace h := ifP c5 h
     refine ev_end (then_norm (sw_condF rfl (sw_skip (then_norm (sw_seq (sw_rg (r_ldD (y := WiPlan.d p) tb rfl rfl rfl rfl rfl rfl rfl rfl rfl (r_ldD (y := WiState.d s) tb rfl rfl rfl rfl rfl rfl rfl rfl rfl (r_ldD (y := WiSky.d sky) tb rfl rfl rfl rfl rfl rfl rfl rfl rfl (r_movD rfl rfl rfl (r_movD rfl rfl rfl ?_)))))))))))
     obtain ⟨rv4, hrv4, h⟩ := bnd h
     refine r_call (r_why_pc hrv4) (.of (by kernel_rfl)) rfl rfl rfl rfl (r_asgD rfl rfl rfl (r_asgD rfl rfl rfl (ev_end (then_norm (sw_ret ?_)))))
     obtain rfl := Option.some.inj h
     exact fin_0 (t := .d (.tup [.v (.int .i64 rv4), .v (.int .i64 0)])) rfl rfl rfl (.cons (.tmp 10) (.cons (.tmp 11) .nil))
    intro c4
    replace h := ifF c4 h
    refine r_notF rfl rfl rfl (r_pickT rfl rfl rfl rfl (ev_endD (by kernel_rfl) (then_norm (sw_condT rfl (sw_rg (r_asgD rfl rfl rfl (ev_end (then_norm (sw_seq (sw_seq (sw_rg (r_movD rfl rfl rfl ?_))))))))))))
    refine r_neq rfl rfl rfl rfl ?_ ?_
    rotate_left
    ·intro c6; exact absurd c6 (by decide)
    intro _
    refine ev_end (then_norm (sw_condT rfl (sw_seq (sw_rg (r_movD rfl rfl rfl (r_asgD rfl rfl rfl (r_asgD rfl rfl rfl (ev_end (then_norm (sw_ret (then_ret ?_)))))))))))
    obtain rfl := Option.some.inj h
    exact fin_0 (t := .d (.tup [.v (.int .i64 0), .v (.int .i64 7)])) rfl rfl rfl (.cons (.tmp 10) (.cons (.tmp 11) .nil))
   intro c3
   replace h := ifN c3 h
   refine r_movD rfl rfl rfl (r_skip rfl rfl rfl (r_skip rfl rfl rfl (r_skip rfl rfl rfl (r_skip rfl rfl rfl (r_skip rfl rfl rfl (r_skip rfl rfl rfl (r_skip rfl rfl rfl (r_skip rfl rfl rfl (r_skip rfl rfl rfl (r_skip rfl rfl rfl (r_skip rfl rfl rfl (r_skip rfl rfl rfl (r_skip rfl rfl rfl (r_skip rfl rfl rfl (r_skip rfl rfl rfl (r_skip rfl rfl rfl (r_skip rfl rfl rfl (r_pickF rfl rfl rfl rfl (ev_endD (by kernel_rfl) (then_norm (sw_condF rfl (sw_skip (then_norm (sw_seq (sw_seq (sw_rg (r_movD rfl rfl rfl ?_)))))))))))))))))))))))))))
   refine r_neq rfl rfl rfl rfl ?_ ?_
   ·intro c7
    replace h := ifN c7 h
    refine ev_end (then_norm (sw_condT rfl (sw_seq (sw_rg (r_movD rfl rfl rfl (r_asgD rfl rfl rfl (r_asgD rfl rfl rfl (ev_end (then_norm (sw_ret (then_ret ?_)))))))))))
    obtain rfl := Option.some.inj h
    exact fin_0 (t := .d (.tup [.v (.int .i64 0), .v (.int .i64 rv)])) rfl rfl rfl (.cons (.tmp 10) (.cons (.tmp 11) .nil))
   intro c7
   replace h := ifP c7 h
   refine ev_end (then_norm (sw_condF rfl (sw_skip (then_norm (sw_seq (sw_rg (r_ldD (y := WiPlan.d p) tb rfl rfl rfl rfl rfl rfl rfl rfl rfl (r_ldD (y := WiState.d s) tb rfl rfl rfl rfl rfl rfl rfl rfl rfl (r_ldD (y := WiSky.d sky) tb rfl rfl rfl rfl rfl rfl rfl rfl rfl (r_movD rfl rfl rfl (r_movD rfl rfl rfl ?_)))))))))))
   obtain ⟨rv5, hrv5, h⟩ := bnd h
   refine r_call (r_why_pc hrv5) (.of (by kernel_rfl)) rfl rfl rfl rfl (r_asgD rfl rfl rfl (r_asgD rfl rfl rfl (ev_end (then_norm (sw_ret ?_)))))
   obtain rfl := Option.some.inj h
   exact fin_0 (t := .d (.tup [.v (.int .i64 rv5), .v (.int .i64 0)])) rfl rfl rfl (.cons (.tmp 10) (.cons (.tmp 11) .nil))
  intro c2
  replace h := ifF c2 h
  refine r_notF rfl rfl rfl (r_pickT rfl rfl rfl rfl (ev_end (then_norm (sw_condT rfl (sw_rg (r_asgD rfl rfl rfl (ev_end (then_norm (sw_seq (sw_seq (sw_dr (by kernel_rfl) (r_movD rfl rfl rfl ?_))))))))))))
  refine r_eql rfl rfl rfl rfl ?_ ?_
  ·intro c8; exact absurd c8 (by decide)
  intro _
  refine r_movD rfl rfl rfl (r_skip rfl rfl rfl (r_skip rfl rfl rfl (r_skip rfl rfl rfl (r_skip rfl rfl rfl (r_skip rfl rfl rfl (r_skip rfl rfl rfl (r_skip rfl rfl rfl (r_skip rfl rfl rfl (r_skip rfl rfl rfl (r_skip rfl rfl rfl (r_skip rfl rfl rfl (r_skip rfl rfl rfl (r_skip rfl rfl rfl (r_skip rfl rfl rfl (r_skip rfl rfl rfl (r_skip rfl rfl rfl (r_skip rfl rfl rfl (r_pickF rfl rfl rfl rfl (ev_endD (by kernel_rfl) (then_norm (sw_condF rfl (sw_skip (then_norm (sw_seq (sw_seq (sw_rg (r_movD rfl rfl rfl ?_)))))))))))))))))))))))))))
  refine r_neq rfl rfl rfl rfl ?_ ?_
  rotate_left
  ·intro c9; exact absurd c9 (by decide)
  intro _
  refine ev_end (then_norm (sw_condT rfl (sw_seq (sw_rg (r_movD rfl rfl rfl (r_asgD rfl rfl rfl (r_asgD rfl rfl rfl (ev_end (then_norm (sw_ret (then_ret ?_)))))))))))
  obtain rfl := Option.some.inj h
  exact fin_0 (t := .d (.tup [.v (.int .i64 0), .v (.int .i64 4)])) rfl rfl rfl (.cons (.tmp 10) (.cons (.tmp 11) .nil))
 intro c
 replace h := ifN c h
 refine r_movD rfl rfl rfl (r_skip rfl rfl rfl (r_skip rfl rfl rfl (r_skip rfl rfl rfl (r_skip rfl rfl rfl (r_skip rfl rfl rfl (r_skip rfl rfl rfl (r_skip rfl rfl rfl (r_pickF rfl rfl rfl rfl (ev_end (then_norm (sw_condF rfl (sw_skip (then_norm (sw_seq (sw_seq (sw_dr (by kernel_rfl) (r_movD rfl rfl rfl ?_)))))))))))))))))
 refine r_eql rfl rfl rfl rfl ?_ ?_
 ·intro c10
  replace h := ifP c10 h
  refine r_movD rfl rfl rfl (r_movD rfl rfl rfl (r_fa tb rfl rfl rfl rfl rfl rfl rfl (r_ldD (y := .arr 3 ((p.windows).map WiWindow.d)) tb rfl rfl rfl rfl rfl rfl rfl rfl rfl (r_fa tb rfl rfl rfl rfl rfl rfl rfl (r_ldD (y := .v (.int .i64 s.next)) tb rfl rfl rfl rfl rfl rfl rfl rfl rfl ?_)))))
  obtain ⟨e2, ie2, h⟩ := bnd h
  refine r_ixE tb rfl rfl rfl rfl rfl rfl (ix0 ie2) (ix1m ie2) rfl rfl (r_faE tb rfl rfl rfl rfl rfl rfl rfl (r_ldE (y := .v (.int .i64 e2.from_)) tb rfl rfl (ix2 (g := WiWindow.d) ie2) rfl rfl rfl rfl (r_fa tb rfl rfl rfl rfl rfl rfl rfl (r_ldD (y := .arr 3 ((p.windows).map WiWindow.d)) tb rfl rfl rfl rfl rfl rfl rfl rfl rfl (r_fa tb rfl rfl rfl rfl rfl rfl rfl (r_ldD (y := .v (.int .i64 s.next)) tb rfl rfl rfl rfl rfl rfl rfl rfl rfl (r_ixE tb rfl rfl rfl rfl rfl rfl (ix0 ie2) (ix1m ie2) rfl rfl (r_faE tb rfl rfl rfl rfl rfl rfl rfl ?_))))))))
  refine r_ldE (y := .v (.int .i64 e2.until_)) tb rfl rfl (ix2 (g := WiWindow.d) ie2) rfl rfl rfl rfl ?_
  obtain ⟨rv6, hrv6, h⟩ := bnd h
  refine r_callB (r_in_pc hrv6) (.of (by kernel_rfl)) rfl rfl rfl rfl ?_ ?_
  ·intro c11
   replace h := ifP c11 h
   refine r_notT rfl rfl rfl (r_pickT rfl rfl rfl rfl (ev_endD (by kernel_rfl) (then_norm (sw_condF rfl (sw_skip (then_norm (sw_seq (sw_seq (sw_rg (r_movD rfl rfl rfl ?_))))))))))
   refine r_neq rfl rfl rfl rfl ?_ ?_
   ·intro c12
    replace h := ifN c12 h
    refine ev_end (then_norm (sw_condT rfl (sw_seq (sw_rg (r_movD rfl rfl rfl (r_asgD rfl rfl rfl (r_asgD rfl rfl rfl (ev_end (then_norm (sw_ret (then_ret ?_)))))))))))
    obtain rfl := Option.some.inj h
    exact fin_0 (t := .d (.tup [.v (.int .i64 0), .v (.int .i64 rv)])) rfl rfl rfl (.cons (.tmp 10) (.cons (.tmp 11) .nil))
   intro c12
   replace h := ifP c12 h
   refine ev_end (then_norm (sw_condF rfl (sw_skip (then_norm (sw_seq (sw_rg (r_ldD (y := WiPlan.d p) tb rfl rfl rfl rfl rfl rfl rfl rfl rfl (r_ldD (y := WiState.d s) tb rfl rfl rfl rfl rfl rfl rfl rfl rfl (r_ldD (y := WiSky.d sky) tb rfl rfl rfl rfl rfl rfl rfl rfl rfl (r_movD rfl rfl rfl (r_movD rfl rfl rfl ?_)))))))))))
   obtain ⟨rv7, hrv7, h⟩ := bnd h
   refine r_call (r_why_pc hrv7) (.of (by kernel_rfl)) rfl rfl rfl rfl (r_asgD rfl rfl rfl (r_asgD rfl rfl rfl (ev_end (then_norm (sw_ret ?_)))))
   obtain rfl := Option.some.inj h
   exact fin_0 (t := .d (.tup [.v (.int .i64 rv7), .v (.int .i64 0)])) rfl rfl rfl (.cons (.tmp 10) (.cons (.tmp 11) .nil))
  intro c11
  replace h := ifF c11 h
  refine r_notF rfl rfl rfl (r_pickT rfl rfl rfl rfl (ev_endD (by kernel_rfl) (then_norm (sw_condT rfl (sw_rg (r_asgD rfl rfl rfl (ev_end (then_norm (sw_seq (sw_seq (sw_rg (r_movD rfl rfl rfl ?_))))))))))))
  refine r_neq rfl rfl rfl rfl ?_ ?_
  rotate_left
  ·intro c13; exact absurd c13 (by decide)
  intro _
  refine ev_end (then_norm (sw_condT rfl (sw_seq (sw_rg (r_movD rfl rfl rfl (r_asgD rfl rfl rfl (r_asgD rfl rfl rfl (ev_end (then_norm (sw_ret (then_ret ?_)))))))))))
  obtain rfl := Option.some.inj h
  exact fin_0 (t := .d (.tup [.v (.int .i64 0), .v (.int .i64 7)])) rfl rfl rfl (.cons (.tmp 10) (.cons (.tmp 11) .nil))
 intro c10
 replace h := ifN c10 h
 refine r_movD rfl rfl rfl (r_skip rfl rfl rfl (r_skip rfl rfl rfl (r_skip rfl rfl rfl (r_skip rfl rfl rfl (r_skip rfl rfl rfl (r_skip rfl rfl rfl (r_skip rfl rfl rfl (r_skip rfl rfl rfl (r_skip rfl rfl rfl (r_skip rfl rfl rfl (r_skip rfl rfl rfl (r_skip rfl rfl rfl (r_skip rfl rfl rfl (r_skip rfl rfl rfl (r_skip rfl rfl rfl (r_skip rfl rfl rfl (r_skip rfl rfl rfl (r_pickF rfl rfl rfl rfl (ev_endD (by kernel_rfl) (then_norm (sw_condF rfl (sw_skip (then_norm (sw_seq (sw_seq (sw_rg (r_movD rfl rfl rfl ?_)))))))))))))))))))))))))))
 refine r_neq rfl rfl rfl rfl ?_ ?_
 ·intro c14
  replace h := ifN c14 h
  refine ev_end (then_norm (sw_condT rfl (sw_seq (sw_rg (r_movD rfl rfl rfl (r_asgD rfl rfl rfl (r_asgD rfl rfl rfl (ev_end (then_norm (sw_ret (then_ret ?_)))))))))))
  obtain rfl := Option.some.inj h
  exact fin_0 (t := .d (.tup [.v (.int .i64 0), .v (.int .i64 rv)])) rfl rfl rfl (.cons (.tmp 10) (.cons (.tmp 11) .nil))
 intro c14
 replace h := ifP c14 h
 refine ev_end (then_norm (sw_condF rfl (sw_skip (then_norm (sw_seq (sw_rg (r_ldD (y := WiPlan.d p) tb rfl rfl rfl rfl rfl rfl rfl rfl rfl (r_ldD (y := WiState.d s) tb rfl rfl rfl rfl rfl rfl rfl rfl rfl (r_ldD (y := WiSky.d sky) tb rfl rfl rfl rfl rfl rfl rfl rfl rfl (r_movD rfl rfl rfl (r_movD rfl rfl rfl ?_)))))))))))
 obtain ⟨rv8, hrv8, h⟩ := bnd h
 refine r_call (r_why_pc hrv8) (.of (by kernel_rfl)) rfl rfl rfl rfl (r_asgD rfl rfl rfl (r_asgD rfl rfl rfl (ev_end (then_norm (sw_ret ?_)))))
 obtain rfl := Option.some.inj h
 exact fin_0 (t := .d (.tup [.v (.int .i64 rv8), .v (.int .i64 0)])) rfl rfl rfl (.cons (.tmp 10) (.cons (.tmp 11) .nil))
/-- hangfireref11.Rights -/
def r_Rights (F : Nat) (p : WiPlan) (s : WiState) (sky : WiSky) (minute : Int) : Option ((List Int) × Int) := Option.bind (r_asked F p s sky) fun rv => if rv = 0 then (Option.bind (ixO p.windows s.next) fun e => Option.bind (r_in F minute e.from_ e.until_) fun rv2 => if rv2 = true then (if rv = 0 then (Option.bind (r_rights F p s sky minute []) fun rv3 => some (rv3, 0)) else (some (([] : List Int), rv))) else (some (([] : List Int), 7))) else (if rv = 0 then (Option.bind (r_rights F p s sky minute []) fun rv4 => some (rv4, 0)) else (some (([] : List Int), rv)))
set_option maxHeartbeats 4000000 in
theorem r_Rights_scr {F : Nat} {p : WiPlan} {s : WiState} {sky : WiSky} {minute : Int} {r : ((List Int) × Int)} (h : r_Rights F p s sky minute = some r) : SCR Try.prog 39 (List.map T.d [WiPlan.d p, WiState.d s, WiSky.d sky, .v (.int .i64 minute)]) [] (.tup [.row 0 1 0 (r.1).length, .d (.v (.int .i64 r.2))]) (List.map some [(lvI r.1)]) := by
 rw [r_Rights] at h
 refine SC.of_sw Try.func39 rfl rfl rfl ?_
 simp only [List.map_cons, List.map_nil, argS, Nat.zero_add, Nat.reduceAdd]
 refine sw_seq (sw_rg (r_box rfl rfl rfl rfl rfl rfl rfl (r_box rfl rfl rfl rfl rfl rfl rfl (r_box rfl rfl rfl rfl rfl rfl rfl (r_asgD rfl rfl rfl (r_asgD rfl rfl rfl (ev_end (then_norm (sw_seq (sw_rg (r_ldD (y := WiPlan.d p) tb rfl rfl rfl rfl rfl rfl rfl rfl rfl (r_ldD (y := WiState.d s) tb rfl rfl rfl rfl rfl rfl rfl rfl rfl (r_ldD (y := WiSky.d sky) tb rfl rfl rfl rfl rfl rfl rfl rfl rfl ?_)))))))))))))
 obtain ⟨rv, hrv, h⟩ := bnd h
 refine r_call (r_asked_pc hrv) (.of (by kernel_rfl)) rfl rfl rfl rfl (r_asgD rfl rfl rfl (ev_end (then_norm (sw_seq (sw_seq (sw_dr (by kernel_rfl) (r_movD rfl rfl rfl ?_)))))))
 refine r_eql rfl rfl rfl rfl ?_ ?_
 ·intro c
  replace h := ifP c h
  refine r_movD rfl rfl rfl (r_movD rfl rfl rfl (r_fa tb rfl rfl rfl rfl rfl rfl rfl (r_ldD (y := .arr 3 ((p.windows).map WiWindow.d)) tb rfl rfl rfl rfl rfl rfl rfl rfl rfl (r_fa tb rfl rfl rfl rfl rfl rfl rfl (r_ldD (y := .v (.int .i64 s.next)) tb rfl rfl rfl rfl rfl rfl rfl rfl rfl ?_)))))
  obtain ⟨e, ie, h⟩ := bnd h
  refine r_ixE tb rfl rfl rfl rfl rfl rfl (ix0 ie) (ix1m ie) rfl rfl (r_faE tb rfl rfl rfl rfl rfl rfl rfl (r_ldE (y := .v (.int .i64 e.from_)) tb rfl rfl (ix2 (g := WiWindow.d) ie) rfl rfl rfl rfl (r_fa tb rfl rfl rfl rfl rfl rfl rfl (r_ldD (y := .arr 3 ((p.windows).map WiWindow.d)) tb rfl rfl rfl rfl rfl rfl rfl rfl rfl (r_fa tb rfl rfl rfl rfl rfl rfl rfl (r_ldD (y := .v (.int .i64 s.next)) tb rfl rfl rfl rfl rfl rfl rfl rfl rfl (r_ixE tb rfl rfl rfl rfl rfl rfl (ix0 ie) (ix1m ie) rfl rfl (r_faE tb rfl rfl rfl rfl rfl rfl rfl ?_))))))))
  refine r_ldE (y := .v (.int .i64 e.until_)) tb rfl rfl (ix2 (g := WiWindow.d) ie) rfl rfl rfl rfl ?_
  obtain ⟨rv2, hrv2, h⟩ := bnd h
  refine r_callB (r_in_pc hrv2) (.of (by kernel_rfl)) rfl rfl rfl rfl ?_ ?_
  ·intro c2
   replace h := ifP c2 h
   refine r_notT rfl rfl rfl (r_pickT rfl rfl rfl rfl (ev_endD (by kernel_rfl) (then_norm (sw_condF rfl (sw_skip (then_norm (sw_seq (sw_seq (sw_rg (r_movD rfl rfl rfl ?_))))))))))
   refine r_neq rfl rfl rfl rfl ?_ ?_
   ·intro c3
    replace h := ifN c3 h
    refine ev_end (then_norm (sw_condT rfl (sw_seq (sw_rg (r_movD rfl rfl rfl (r_asgD rfl rfl rfl (r_asgD rfl rfl rfl (ev_end (then_norm ?_)))))))))
    refine SW.own (ts' := [(8, .row 3 1 0 (([] : List Int)).length), (9, .d (.v (.int .i64 rv)))]) (L' := [some ⟨4, [.d (WiPlan.d p)]⟩, some ⟨4, [.d (WiState.d s)]⟩, some ⟨2, [.d (WiSky.d sky)]⟩]) 1 rfl rfl (.cons .nil (.cons (.same _) .nil)) (.same (.same (.same .nil))) ?_
    simp only [List.cons_append, List.nil_append]
    refine sw_ret (then_ret ?_)
    obtain rfl := Option.some.inj h
    exact (fin_S (t := .tup [.row 0 1 0 (([] : List Int)).length, .d (.v (.int .i64 rv))]) (L := [some (lvI ([] : List Int))]) (κ := [3]) rfl (.cons (.tmp 8) (.cons (.tmp 9) .nil)) (vwK rfl rfl (.row rfl .nil) (.cons rfl rfl .nil)) ⟨rfl, rfl⟩)
   intro c3
   replace h := ifP c3 h
   refine ev_end (then_norm (sw_condF rfl (sw_skip (then_norm (sw_seq (sw_rg (r_ldD (y := WiPlan.d p) tb rfl rfl rfl rfl rfl rfl rfl rfl rfl (r_ldD (y := WiState.d s) tb rfl rfl rfl rfl rfl rfl rfl rfl rfl (r_ldD (y := WiSky.d sky) tb rfl rfl rfl rfl rfl rfl rfl rfl rfl (r_movD rfl rfl rfl ?_))))))))))
   obtain ⟨rv3, hrv3, h⟩ := bnd h
   refine r_callLN (t' := .row 3 1 0 (rv3).length) (news' := [(lvI rv3)]) (r_rights_scr hrv3) rfl ((.row (fun _ => rfl) .nil)) (.of (by kernel_rfl)) rfl rfl ((.cons (.d _) (.cons (.d _) (.cons (.d _) (.cons (.d _) (.cons .nilA .nil)))))) rfl ((.row .nil)) rfl rfl rfl ?_
   refine r_asgW rfl rfl rfl (r_asgD rfl rfl rfl (ev_end (then_norm (sw_ret ?_))))
   obtain rfl := Option.some.inj h
   exact (fin_S (t := .tup [.row 0 1 0 (rv3).length, .d (.v (.int .i64 0))]) (L := [some (lvI rv3)]) (κ := [3]) rfl (.cons (.tmp 8) (.cons (.tmp 9) .nil)) (vwK rfl rfl (.row rfl .nil) (.cons rfl rfl .nil)) ⟨rfl, rfl⟩)
  intro c2
  replace h := ifF c2 h
  refine r_notF rfl rfl rfl (r_pickT rfl rfl rfl rfl (ev_endD (by kernel_rfl) (then_norm (sw_condT rfl (sw_rg (r_asgD rfl rfl rfl (ev_end (then_norm (sw_seq (sw_seq (sw_rg (r_movD rfl rfl rfl ?_))))))))))))
  refine r_neq rfl rfl rfl rfl ?_ ?_
  rotate_left
  ·intro c4; exact absurd c4 (by decide)
  intro _
  refine ev_end (then_norm (sw_condT rfl (sw_seq (sw_rg (r_movD rfl rfl rfl (r_asgD rfl rfl rfl (r_asgD rfl rfl rfl (ev_end (then_norm ?_)))))))))
  refine SW.own (ts' := [(8, .row 3 1 0 (([] : List Int)).length), (9, .d (.v (.int .i64 7)))]) (L' := [some ⟨4, [.d (WiPlan.d p)]⟩, some ⟨4, [.d (WiState.d s)]⟩, some ⟨2, [.d (WiSky.d sky)]⟩]) 1 rfl rfl (.cons .nil (.cons (.same _) .nil)) (.same (.same (.same .nil))) ?_
  simp only [List.cons_append, List.nil_append]
  refine sw_ret (then_ret ?_)
  obtain rfl := Option.some.inj h
  exact (fin_S (t := .tup [.row 0 1 0 (([] : List Int)).length, .d (.v (.int .i64 7))]) (L := [some (lvI ([] : List Int))]) (κ := [3]) rfl (.cons (.tmp 8) (.cons (.tmp 9) .nil)) (vwK rfl rfl (.row rfl .nil) (.cons rfl rfl .nil)) ⟨rfl, rfl⟩)
 intro c
 replace h := ifN c h
 refine r_movD rfl rfl rfl (r_skip rfl rfl rfl (r_skip rfl rfl rfl (r_skip rfl rfl rfl (r_skip rfl rfl rfl (r_skip rfl rfl rfl (r_skip rfl rfl rfl (r_skip rfl rfl rfl (r_skip rfl rfl rfl (r_skip rfl rfl rfl (r_skip rfl rfl rfl (r_skip rfl rfl rfl (r_skip rfl rfl rfl (r_skip rfl rfl rfl (r_skip rfl rfl rfl (r_skip rfl rfl rfl (r_skip rfl rfl rfl (r_skip rfl rfl rfl (r_pickF rfl rfl rfl rfl (ev_endD (by kernel_rfl) (then_norm (sw_condF rfl (sw_skip (then_norm (sw_seq (sw_seq (sw_rg (r_movD rfl rfl rfl ?_)))))))))))))))))))))))))))
 refine r_neq rfl rfl rfl rfl ?_ ?_
 ·intro c5
  replace h := ifN c5 h
  refine ev_end (then_norm (sw_condT rfl (sw_seq (sw_rg (r_movD rfl rfl rfl (r_asgD rfl rfl rfl (r_asgD rfl rfl rfl (ev_end (then_norm ?_)))))))))
  refine SW.own (ts' := [(8, .row 3 1 0 (([] : List Int)).length), (9, .d (.v (.int .i64 rv)))]) (L' := [some ⟨4, [.d (WiPlan.d p)]⟩, some ⟨4, [.d (WiState.d s)]⟩, some ⟨2, [.d (WiSky.d sky)]⟩]) 1 rfl rfl (.cons .nil (.cons (.same _) .nil)) (.same (.same (.same .nil))) ?_
  simp only [List.cons_append, List.nil_append]
  refine sw_ret (then_ret ?_)
  obtain rfl := Option.some.inj h
  exact (fin_S (t := .tup [.row 0 1 0 (([] : List Int)).length, .d (.v (.int .i64 rv))]) (L := [some (lvI ([] : List Int))]) (κ := [3]) rfl (.cons (.tmp 8) (.cons (.tmp 9) .nil)) (vwK rfl rfl (.row rfl .nil) (.cons rfl rfl .nil)) ⟨rfl, rfl⟩)
 intro c5
 replace h := ifP c5 h
 refine ev_end (then_norm (sw_condF rfl (sw_skip (then_norm (sw_seq (sw_rg (r_ldD (y := WiPlan.d p) tb rfl rfl rfl rfl rfl rfl rfl rfl rfl (r_ldD (y := WiState.d s) tb rfl rfl rfl rfl rfl rfl rfl rfl rfl (r_ldD (y := WiSky.d sky) tb rfl rfl rfl rfl rfl rfl rfl rfl rfl (r_movD rfl rfl rfl ?_))))))))))
 obtain ⟨rv4, hrv4, h⟩ := bnd h
 refine r_callLN (t' := .row 3 1 0 (rv4).length) (news' := [(lvI rv4)]) (r_rights_scr hrv4) rfl ((.row (fun _ => rfl) .nil)) (.of (by kernel_rfl)) rfl rfl ((.cons (.d _) (.cons (.d _) (.cons (.d _) (.cons (.d _) (.cons .nilA .nil)))))) rfl ((.row .nil)) rfl rfl rfl ?_
 refine r_asgW rfl rfl rfl (r_asgD rfl rfl rfl (ev_end (then_norm (sw_ret ?_))))
 obtain rfl := Option.some.inj h
 exact (fin_S (t := .tup [.row 0 1 0 (rv4).length, .d (.v (.int .i64 0))]) (L := [some (lvI rv4)]) (κ := [3]) rfl (.cons (.tmp 8) (.cons (.tmp 9) .nil)) (vwK rfl rfl (.row rfl .nil) (.cons rfl rfl .nil)) ⟨rfl, rfl⟩)
theorem r_Rights_pc {F : Nat} {p : WiPlan} {s : WiState} {sky : WiSky} {minute : Int} {r : ((List Int) × Int)} (h : r_Rights F p s sky minute = some r) : PC Try.prog 39 [WiPlan.d p, WiState.d s, WiSky.d sky, .v (.int .i64 minute)] (.tup [.arr 1 ((r.1).map vI), .v (.int .i64 r.2)]) := (r_Rights_scr h).toPC (.tupL (.cons (.row rfl rfl) (.cons (.d _) .nil)))
/-- hangfirelaw11.listed -/
def l_listed_L1 (F : Nat) (lv : (List Int)) (nv : Int) (K : Int → Option Int) : Nat → Int → Option Int
 | 0, _ => none
 | n + 1, i => if i < (lv.length : Int) then (Option.bind (ixO lv i) fun e => if e = nv then (some i) else (l_listed_L1 F lv nv K n (W (i + 1)))) else (K i)
def l_listed (F : Nat) (lv : (List Int)) (nv : Int) : Option Int := l_listed_L1 F lv nv (fun (i : Int) => some (-1)) F 0
set_option maxHeartbeats 4000000 in
theorem l_listed_pc {F : Nat} {lv : (List Int)} {nv : Int} {r : Int} (h : l_listed F lv nv = some r) : PC Try.prog 31 [.arr 1 ((lv).map vI), .v (.int .i64 nv)] (.v (.int .i64 r)) := by
 rw [l_listed] at h
 refine SC.of_sw Try.func31 rfl rfl rfl ?_
 simp only [List.map_cons, List.map_nil, argS, Nat.zero_add, Nat.reduceAdd]
 refine sw_seq (sw_rg (r_asgD rfl rfl rfl (ev_end (then_norm (sw_seq (sw_seq (sw_rg (r_asgD rfl rfl rfl (ev_end (then_norm (sw_block ?_)))))))))))
 obtain ⟨K2, hK2, h⟩ : ∃ K, K = _ ∧ l_listed_L1 F lv nv K F 0 = some r := ⟨_, rfl, h⟩
 refine sw_loop (st0 := ⟨[(0, .d (.arr 1 ((lv).map vI))), (1, .d (.v (.int .i64 nv))), (4, .d (.v (.int .i64 0))), (5, .d (.v (.int .i64 0)))], []⟩) (κ := []) (fun m st => ∃ (i : Int), l_listed_L1 F lv nv K2 m i = some r ∧ st = ⟨[(0, .d (.arr 1 ((lv).map vI))), (1, .d (.v (.int .i64 nv))), (4, .d (.v (.int .i64 0))), (5, .d (.v (.int .i64 i)))], []⟩) (vwK rfl rfl .nil (.cons rfl rfl (.cons rfl rfl (.cons rfl rfl (.cons rfl rfl .nil))))) ⟨0, h, rfl⟩ ?_
 clear h
 rintro m2 st ⟨i, h, rfl⟩
 cases m2 with
 | zero => cases (show (none : Option Int) = some r from h)
 | succ m2 =>
 rw [l_listed_L1] at h
 refine sw_seq (sw_seq (sw_rg (r_movD rfl rfl rfl (r_movD rfl rfl rfl (r_lenM tb rfl rfl rfl rfl rfl ?_)))))
 refine r_lss rfl rfl rfl rfl ?_ ?_
 ·intro c
  replace h := ifP c h
  refine ev_end (then_norm (sw_condT rfl (sw_skip (then_norm (sw_seq (sw_block (sw_seq (sw_rg (r_movD rfl rfl rfl (r_movD rfl rfl rfl ?_))))))))))
  obtain ⟨e, ie, h⟩ := bnd h
  refine r_ixE tb rfl rfl rfl rfl rfl rfl (ix0 ie) (ix1m ie) rfl rfl (r_ldE (y := .v (.int .i64 e)) tb rfl rfl (ix2 (g := vI) ie) rfl rfl rfl rfl (r_movD rfl rfl rfl ?_))
  refine r_eql rfl rfl rfl rfl ?_ ?_
  ·intro c2
   replace h := ifP c2 h
   refine ev_end (then_norm (sw_condT rfl (sw_seq (sw_rg (r_movD rfl rfl rfl (r_asgD rfl rfl rfl (ev_end (then_norm (sw_ret (block_ret (then_ret (then_ret (block_ret (then_ret ?_))))))))))))))
   obtain rfl := Option.some.inj h
   exact fin_0 (t := .d (.v (.int .i64 i))) rfl rfl rfl (.cons (.tmp 4) .nil)
  intro c2
  replace h := ifN c2 h
  refine ev_end (then_norm (sw_condF rfl (sw_skip (block_norm (then_norm (sw_rg (r_movD rfl rfl rfl (r_add rfl rfl rfl rfl (r_asgD rfl rfl rfl (ev_end (then_norm ?_)))))))))))
  exact ⟨m2, ⟨[(0, .d (.arr 1 ((lv).map vI))), (1, .d (.v (.int .i64 nv))), (4, .d (.v (.int .i64 0))), (5, .d (.v (.int .i64 (W (i + 1)))))], []⟩, [], Nat.lt_succ_self _, (vwK rfl rfl .nil (.cons rfl rfl (.cons rfl rfl (.cons rfl rfl (.cons rfl rfl .nil))))), (W (i + 1)), h, rfl⟩
 intro c
 replace h := ifN (Int.not_lt.2 c) h
 refine ev_end (then_norm (sw_condF rfl (sw_exit (then_exit (then_exit ?_)))))
 subst hK2
 refine block_exit (then_norm (sw_seq (sw_rg (r_asgD rfl rfl rfl (ev_end (then_norm (sw_ret ?_)))))))
 obtain rfl := Option.some.inj h
 exact fin_0 (t := .d (.v (.int .i64 (-1)))) rfl rfl rfl (.cons (.tmp 4) .nil)
/-- hangfirelaw11.Plan -/
def l_Plan (F : Nat)  : Option WiPlan := some (WiPlan.mk [(WiTeam.mk (ByteArray.mk #[110, 111, 114, 116, 104]) 5 2 10 [1] 100 2 30 []), (WiTeam.mk (ByteArray.mk #[115, 111, 117, 116, 104]) 5 3 12 [] 200 0 60 []), (WiTeam.mk (ByteArray.mk #[103, 117, 101, 115, 116]) 1 1 0 [] 300 0 20 [(Span.mk 4 5)])] [(WiWindow.mk 1 100 400), (WiWindow.mk 2 100 200), (WiWindow.mk 4 0 60)] 5 3)
set_option maxHeartbeats 4000000 in
theorem l_Plan_pc {F : Nat}  {r : WiPlan} (h : l_Plan F  = some r) : PC Try.prog 40 [] (WiPlan.d r) := by
 rw [l_Plan] at h
 refine PC.of_lend ?_
 refine SC.of_sw Try.func40 rfl rfl rfl ?_
 simp only [List.map_cons, List.map_nil, argS, Nat.zero_add, Nat.reduceAdd]
 refine sw_seq (sw_rg (r_alloc tb rfl rfl rfl rfl rfl (ev_end (then_norm (sw_seq (sw_rg (r_bslice tb rfl rfl rfl rfl rfl rfl rfl rfl rfl rfl rfl rfl rfl (r_build (v := .agg [.d (.v (.string (ByteArray.mk #[110, 111, 114, 116, 104]))), .d (.v (.int .i64 5)), .d (.v (.int .i64 2)), .d (.v (.int .i64 10)), .row 1 1 0 ([1]).length, .d (.v (.int .i64 100)), .d (.v (.int .i64 2)), .d (.v (.int .i64 30)), .d (.v (.slice none 0 0))]) tb rfl rfl (List.cons_ne_nil _ _) rfl rfl rfl rfl rfl rfl ?_))))))))
 refine r_build (v := .d (.agg [.v (.string (ByteArray.mk #[115, 111, 117, 116, 104])), .v (.int .i64 5), .v (.int .i64 3), .v (.int .i64 12), .v (.slice none 0 0), .v (.int .i64 200), .v (.int .i64 0), .v (.int .i64 60), .v (.slice none 0 0)])) tb rfl rfl (List.cons_ne_nil _ _) rfl rfl rfl rfl rfl rfl (r_build (v := .d (.agg [.v (.int .i64 4), .v (.int .i64 5)])) tb rfl rfl (List.cons_ne_nil _ _) rfl rfl rfl rfl rfl rfl (r_bslice tb rfl rfl rfl rfl rfl rfl rfl rfl rfl rfl rfl rfl rfl ?_))
 refine r_build (v := .agg [.d (.v (.string (ByteArray.mk #[103, 117, 101, 115, 116]))), .d (.v (.int .i64 1)), .d (.v (.int .i64 1)), .d (.v (.int .i64 0)), .d (.v (.slice none 0 0)), .d (.v (.int .i64 300)), .d (.v (.int .i64 0)), .d (.v (.int .i64 20)), .row 2 2 0 ([(Span.mk 4 5)]).length]) tb rfl rfl (List.cons_ne_nil _ _) rfl rfl rfl rfl rfl rfl (r_bslice tb rfl rfl rfl rfl rfl rfl rfl rfl rfl rfl rfl rfl rfl (r_build (v := .d (.agg [.v (.int .i64 1), .v (.int .i64 100), .v (.int .i64 400)])) tb rfl rfl (List.cons_ne_nil _ _) rfl rfl rfl rfl rfl rfl ?_))
 refine r_build (v := .d (.agg [.v (.int .i64 2), .v (.int .i64 100), .v (.int .i64 200)])) tb rfl rfl (List.cons_ne_nil _ _) rfl rfl rfl rfl rfl rfl (r_build (v := .d (.agg [.v (.int .i64 4), .v (.int .i64 0), .v (.int .i64 60)])) tb rfl rfl (List.cons_ne_nil _ _) rfl rfl rfl rfl rfl rfl (r_bslice tb rfl rfl rfl rfl rfl rfl rfl rfl rfl rfl rfl rfl rfl ?_))
 refine r_build (v := .agg [.row 3 9 0 3, .row 4 3 0 ([(WiWindow.mk 1 100 400), (WiWindow.mk 2 100 200), (WiWindow.mk 4 0 60)]).length, .d (.v (.int .i64 5)), .d (.v (.int .i64 3))]) tb rfl rfl (List.cons_ne_nil _ _) rfl rfl rfl rfl rfl rfl ?_
 refine r_stE _ ([some ⟨4, [.agg [.row 3 9 0 3, .row 4 3 0 ([(WiWindow.mk 1 100 400), (WiWindow.mk 2 100 200), (WiWindow.mk 4 0 60)]).length, .d (.v (.int .i64 5)), .d (.v (.int .i64 3))]]⟩, some (lvI [1]), some (lSpand [(Span.mk 4 5)]), some ⟨9, [.agg [.d (.v (.string (ByteArray.mk #[110, 111, 114, 116, 104]))), .d (.v (.int .i64 5)), .d (.v (.int .i64 2)), .d (.v (.int .i64 10)), .row 1 1 0 ([1]).length, .d (.v (.int .i64 100)), .d (.v (.int .i64 2)), .d (.v (.int .i64 30)), .d (.v (.slice none 0 0))], .d (.agg [.v (.string (ByteArray.mk #[115, 111, 117, 116, 104])), .v (.int .i64 5), .v (.int .i64 3), .v (.int .i64 12), .v (.slice none 0 0), .v (.int .i64 200), .v (.int .i64 0), .v (.int .i64 60), .v (.slice none 0 0)]), .agg [.d (.v (.string (ByteArray.mk #[103, 117, 101, 115, 116]))), .d (.v (.int .i64 1)), .d (.v (.int .i64 1)), .d (.v (.int .i64 0)), .d (.v (.slice none 0 0)), .d (.v (.int .i64 300)), .d (.v (.int .i64 0)), .d (.v (.int .i64 20)), .row 2 2 0 ([(Span.mk 4 5)]).length]]⟩, some (lWiWindowd [(WiWindow.mk 1 100 400), (WiWindow.mk 2 100 200), (WiWindow.mk 4 0 60)])]) tb rfl rfl rfl rfl rfl rfl rfl rfl rfl rfl rfl rfl ?_
 refine ev_end (then_norm (sw_ret ?_))
 obtain rfl := Option.some.inj h
 exact (fin_S (t := .agg [.row 0 9 0 3, .row 3 3 0 ([(WiWindow.mk 1 100 400), (WiWindow.mk 2 100 200), (WiWindow.mk 4 0 60)]).length, .d (.v (.int .i64 5)), .d (.v (.int .i64 3))]) (L := [some ⟨9, [.agg [.d (.v (.string (ByteArray.mk #[110, 111, 114, 116, 104]))), .d (.v (.int .i64 5)), .d (.v (.int .i64 2)), .d (.v (.int .i64 10)), .row 1 1 0 ([1]).length, .d (.v (.int .i64 100)), .d (.v (.int .i64 2)), .d (.v (.int .i64 30)), .d (.v (.slice none 0 0))], .d (.agg [.v (.string (ByteArray.mk #[115, 111, 117, 116, 104])), .v (.int .i64 5), .v (.int .i64 3), .v (.int .i64 12), .v (.slice none 0 0), .v (.int .i64 200), .v (.int .i64 0), .v (.int .i64 60), .v (.slice none 0 0)]), .agg [.d (.v (.string (ByteArray.mk #[103, 117, 101, 115, 116]))), .d (.v (.int .i64 1)), .d (.v (.int .i64 1)), .d (.v (.int .i64 0)), .d (.v (.slice none 0 0)), .d (.v (.int .i64 300)), .d (.v (.int .i64 0)), .d (.v (.int .i64 20)), .row 2 2 0 ([(Span.mk 4 5)]).length]]⟩, some (lvI [1]), some (lSpand [(Span.mk 4 5)]), some (lWiWindowd [(WiWindow.mk 1 100 400), (WiWindow.mk 2 100 200), (WiWindow.mk 4 0 60)])]) (κ := [3, 1, 2, 4]) rfl (.cons (rcell tb (u := .agg [.row 3 9 0 3, .row 4 3 0 ([(WiWindow.mk 1 100 400), (WiWindow.mk 2 100 200), (WiWindow.mk 4 0 60)]).length, .d (.v (.int .i64 5)), .d (.v (.int .i64 3))]) rfl rfl rfl rfl rfl rfl rfl) .nil) (vwK rfl rfl (.cons rfl rfl (.row rfl (.row rfl (.row rfl .nil)))) (.cons rfl rfl .nil)) ⟨_, rfl, (.aggL (.cons (.rowL rfl rfl (.cons (.aggL (.cons (.d _) (.cons (.d _) (.cons (.d _) (.cons (.d _) (.cons (.row rfl rfl) (.cons (.d _) (.cons (.d _) (.cons (.d _) (.cons .nilA .nil)))))))))) (.cons (.aggDL (.cons (.d _) (.cons (.d _) (.cons (.d _) (.cons (.d _) (.cons .nilA (.cons (.d _) (.cons (.d _) (.cons (.d _) (.cons .nilA .nil)))))))))) (.cons (.aggL (.cons (.d _) (.cons (.d _) (.cons (.d _) (.cons (.d _) (.cons .nilA (.cons (.d _) (.cons (.d _) (.cons (.d _) (.cons (.row rfl rfl) .nil)))))))))) .nil)))) (.cons (.row rfl rfl) (.cons (.d _) (.cons (.d _) .nil)))))⟩)
/-- hangfirelaw11.A -/
def l_A (F : Nat)  : Option WiSky := some (WiSky.mk [1] 80)
set_option maxHeartbeats 4000000 in
theorem l_A_scr {F : Nat}  {r : WiSky} (h : l_A F  = some r) : SCR Try.prog 41 (List.map T.d []) [] (.agg [.row 0 1 0 (r.kinds).length, .d (.v (.int .i64 r.wind))]) (List.map some [(lvI r.kinds)]) := by
 rw [l_A] at h
 refine SC.of_sw Try.func41 rfl rfl rfl ?_
 simp only [List.map_cons, List.map_nil, argS, Nat.zero_add, Nat.reduceAdd]
 refine sw_seq (sw_rg (r_alloc tb rfl rfl rfl rfl rfl (ev_end (then_norm (sw_seq (sw_rg (r_bslice tb rfl rfl rfl rfl rfl rfl rfl rfl rfl rfl rfl rfl rfl (r_build (v := .agg [.row 1 1 0 ([1]).length, .d (.v (.int .i64 80))]) tb rfl rfl (List.cons_ne_nil _ _) rfl rfl rfl rfl rfl rfl (r_stE _ ([some ⟨2, [.agg [.row 1 1 0 ([1]).length, .d (.v (.int .i64 80))]]⟩, some (lvI [1])]) tb rfl rfl rfl rfl rfl rfl rfl rfl rfl rfl rfl rfl (ev_end (then_norm (sw_ret ?_))))))))))))
 obtain rfl := Option.some.inj h
 exact (fin_S (t := .agg [.row 0 1 0 ([1]).length, .d (.v (.int .i64 80))]) (L := [some (lvI [1])]) (κ := [1]) rfl (.cons (rcell tb (u := .agg [.row 1 1 0 ([1]).length, .d (.v (.int .i64 80))]) rfl rfl rfl rfl rfl rfl rfl) .nil) (vwK rfl rfl (.row rfl .nil) (.cons rfl rfl .nil)) ⟨rfl, rfl⟩)
theorem l_A_pc {F : Nat}  {r : WiSky} (h : l_A F  = some r) : PC Try.prog 41 [] (WiSky.d r) := (l_A_scr h).toPC (.aggL (.cons (.row rfl rfl) (.cons (.d _) .nil)))
/-- hangfirelaw11.launch -/
def l_launch (F : Nat) (atv : Int) : Option WiTurn := some (WiTurn.mk 1 atv 0)
set_option maxHeartbeats 4000000 in
theorem l_launch_pc {F : Nat} {atv : Int} {r : WiTurn} (h : l_launch F atv = some r) : PC Try.prog 26 [.v (.int .i64 atv)] (WiTurn.d r) := by
 rw [l_launch] at h
 refine SC.of_sw Try.func26 rfl rfl rfl ?_
 simp only [List.map_cons, List.map_nil, argS, Nat.zero_add, Nat.reduceAdd]
 refine sw_seq (sw_rg (r_alloc tb rfl rfl rfl rfl rfl (ev_end (then_norm (sw_seq (sw_rg (r_movD rfl rfl rfl (r_build (v := .d (.agg [.v (.int .i64 1), .v (.int .i64 atv), .v (.int .i64 0)])) tb rfl rfl (List.cons_ne_nil _ _) rfl rfl rfl rfl rfl rfl (r_stE _ ([some ⟨3, [.d (.agg [.v (.int .i64 1), .v (.int .i64 atv), .v (.int .i64 0)])]⟩]) tb rfl rfl rfl rfl rfl rfl rfl rfl rfl rfl rfl rfl (ev_end (then_norm (sw_ret ?_))))))))))))
 obtain rfl := Option.some.inj h
 exact fin_0 (t := .d (.agg [.v (.int .i64 1), .v (.int .i64 atv), .v (.int .i64 0)])) rfl rfl rfl (.cons (rcell tb (u := .d (.agg [.v (.int .i64 1), .v (.int .i64 atv), .v (.int .i64 0)])) rfl rfl rfl rfl rfl rfl rfl) .nil)
/-- hangfirelaw11.night!0 -/
def l_night_m (F : Nat) (lv : (List WiTurn)) : Option (WiNight × (List WiTurn)) := Option.bind (l_A F ) fun rv => some ((WiNight.mk rv.kinds rv.wind lv), lv)
set_option maxHeartbeats 4000000 in
theorem l_night_m_scr {F : Nat} {lv : (List WiTurn)} {r : (WiNight × (List WiTurn))} (h : l_night_m F lv = some r) : SCR Try.prog 43 [.row 0 3 0 (lv).length] [some (lWiTurnd lv)] (.agg [.row 1 1 0 (r.1.sky_Kinds).length, .d (.v (.int .i64 r.1.sky_Wind)), .row 0 3 0 (r.2).length]) [some (lWiTurnd r.2), some (lvI r.1.sky_Kinds)] := by
 rw [l_night_m] at h
 refine SC.of_sw Try.func43 rfl rfl rfl ?_
 simp only [List.map_cons, List.map_nil, argS, Nat.zero_add, Nat.reduceAdd]
 refine sw_seq (sw_rg (r_alloc tb rfl rfl rfl rfl rfl (ev_end (then_norm (sw_seq (sw_rg ?_))))))
 obtain ⟨rv, hrv, h⟩ := bnd h
 refine r_callN (t' := .agg [.row 2 1 0 (rv.kinds).length, .d (.v (.int .i64 rv.wind))]) (news' := [(lvI rv.kinds)]) (l_A_scr hrv) (.of (by kernel_rfl)) rfl rfl rfl ((.row .nil)) rfl rfl rfl (r_movW rfl rfl rfl (r_build (v := .agg [.row 2 1 0 (rv.kinds).length, .d (.v (.int .i64 rv.wind)), .row 0 3 0 (lv).length]) tb rfl rfl (List.cons_ne_nil _ _) rfl rfl rfl rfl rfl rfl (r_stE _ ([some (lWiTurnd lv), some ⟨3, [.agg [.row 2 1 0 (rv.kinds).length, .d (.v (.int .i64 rv.wind)), .row 0 3 0 (lv).length]]⟩, some (lvI rv.kinds)]) tb rfl rfl rfl rfl rfl rfl rfl rfl rfl rfl rfl rfl ?_)))
 refine ev_end (then_norm (sw_ret ?_))
 obtain rfl := Option.some.inj h
 exact (fin_S (t := .agg [.row 1 1 0 (rv.kinds).length, .d (.v (.int .i64 rv.wind)), .row 0 3 0 (lv).length]) (L := [some (lWiTurnd lv), some (lvI rv.kinds)]) (κ := [0, 2]) rfl (.cons (rcell tb (u := .agg [.row 2 1 0 (rv.kinds).length, .d (.v (.int .i64 rv.wind)), .row 0 3 0 (lv).length]) rfl rfl rfl rfl rfl rfl rfl) .nil) (vwK rfl rfl (.row rfl (.row rfl .nil)) (.cons rfl rfl .nil)) ⟨rfl, rfl⟩)
/-- hangfirelaw11.Awake -/
def l_Awake (F : Nat)  : Option Bool := Option.bind (l_Plan F ) fun rv => Option.bind (window_Start F rv) fun rv2 => Option.bind (l_Plan F ) fun rv3 => Option.bind (l_A F ) fun rv4 => Option.bind (window_Rights F rv3 rv2.1 (WiSky.mk rv4.kinds rv4.wind) 100) fun rv5 => Option.bind (l_Plan F ) fun rv6 => Option.bind (l_launch F 160) fun rv7 => Option.bind (l_night_m F [rv7]) fun rv8 => Option.bind (l_launch F 130) fun rv9 => Option.bind (l_night_m F [rv9]) fun rv10 => Option.bind (l_launch F 60) fun rv11 => Option.bind (l_night_m F [rv11]) fun rv12 => Option.bind (window_Season F rv6 [(WiNight.mk rv8.1.sky_Kinds rv8.1.sky_Wind rv8.2), (WiNight.mk rv10.1.sky_Kinds rv10.1.sky_Wind rv10.2), (WiNight.mk rv12.1.sky_Kinds rv12.1.sky_Wind rv12.2)]) fun rv13 => Option.bind (l_Plan F ) fun rv14 => Option.bind (l_launch F 159) fun rv15 => Option.bind (l_night_m F [rv15]) fun rv16 => Option.bind (window_Play F rv14 rv2.1 (WiNight.mk rv16.1.sky_Kinds rv16.1.sky_Wind rv16.2)) fun rv17 => if rv2.2 = 0 then (if rv5.2 = 0 then (if rv13.2.2 = 0 then (if rv17.2.2 = 7 then (Option.bind (r_Ints F rv5.1 [1, 0, 2]) fun rv18 => if rv18 = true then (Option.bind (r_SameUses F rv13.1 [(WiUse.mk 0 1 160 (-1)), (WiUse.mk 1 0 130 (-1)), (WiUse.mk 2 1 60 (-1))]) fun rv19 => some rv19) else (some false)) else (some false)) else (some false)) else (some false)) else (some false)
set_option maxHeartbeats 4000000 in
theorem l_Awake_pc {F : Nat}  {r : Bool} (h : l_Awake F  = some r) : PC Try.prog 23 [] (.v (.bool r)) := by
 rw [l_Awake] at h
 refine SC.of_sw Try.func23 rfl rfl rfl ?_
 simp only [List.map_cons, List.map_nil, argS, Nat.zero_add, Nat.reduceAdd]
 refine sw_seq (sw_rg (r_asgD rfl rfl rfl (ev_end (then_norm (sw_seq (sw_rg ?_))))))
 obtain ⟨rv, hrv, h⟩ := bnd h
 refine r_call (l_Plan_pc hrv) (.of (by kernel_rfl)) rfl rfl rfl rfl ?_
 obtain ⟨rv2, hrv2, h⟩ := bnd h
 refine r_callN (t' := .tup [WiState_T1 rv2.1 0 1 2, .d (.v (.int .i64 rv2.2))]) (news' := [(lvI rv2.1.used), (lvI rv2.1.credit), (lvI rv2.1.last)]) (window_Start_scr hrv2) (.of (by kernel_rfl)) rfl rfl rfl ((.row (.row (.row .nil)))) rfl rfl rfl (r_movT (.tup [WiState_T1 rv2.1 0 1 2, .d (.v (.int .i64 rv2.2))]) rfl rfl rfl (r_ext (t := WiState_T1 rv2.1 0 1 2) rfl rfl rfl rfl (r_ext (t := .d (.v (.int .i64 rv2.2))) rfl rfl rfl rfl (r_alloc tb rfl rfl rfl rfl rfl ?_))))
 refine r_stE _ ([some (lvI rv2.1.used), some (lvI rv2.1.credit), some (lvI rv2.1.last), some ⟨4, [WiState_T1 rv2.1 0 1 2]⟩]) tb rfl rfl rfl rfl rfl rfl rfl rfl rfl rfl rfl rfl (r_asgD rfl rfl rfl (ev_end (then_norm (sw_seq (sw_dr (by kernel_rfl) ?_)))))
 obtain ⟨rv3, hrv3, h⟩ := bnd h
 refine r_call (l_Plan_pc hrv3) (.of (by kernel_rfl)) rfl rfl rfl rfl (r_ldG tb rfl rfl rfl rfl rfl rfl rfl rfl rfl ?_)
 obtain ⟨rv4, hrv4, h⟩ := bnd h
 refine r_callN (t' := .agg [.row 4 1 0 (rv4.kinds).length, .d (.v (.int .i64 rv4.wind))]) (news' := [(lvI rv4.kinds)]) (l_A_scr hrv4) (.of (by kernel_rfl)) rfl rfl rfl ((.row .nil)) rfl rfl rfl ?_
 obtain ⟨rv5, hrv5, h⟩ := bnd h
 refine r_callLN (t' := .tup [.row 5 1 0 (rv5.1).length, .d (.v (.int .i64 rv5.2))]) (news' := [(lvI rv5.1)]) (window_Rights_scr hrv5) rfl ((.row (fun _ => rfl) .nil)) (.of (by kernel_rfl)) rfl rfl ((.cons (.d _) (.cons (.aggL (.cons (.row rfl rfl) (.cons (.row rfl rfl) (.cons (.row rfl rfl) (.cons (.d _) .nil))))) (.cons (.aggL (.cons (.row rfl rfl) (.cons (.d _) .nil))) (.cons (.d _) .nil))))) rfl ((.row .nil)) rfl rfl rfl ?_
 refine r_movT (.tup [.row 5 1 0 (rv5.1).length, .d (.v (.int .i64 rv5.2))]) rfl rfl rfl (r_ext (t := .row 5 1 0 (rv5.1).length) rfl rfl rfl rfl (r_ext (t := .d (.v (.int .i64 rv5.2))) rfl rfl rfl rfl (r_asgW rfl rfl rfl (r_asgD rfl rfl rfl (ev_endD (by kernel_rfl) (then_norm (sw_seq (sw_rg ?_))))))))
 obtain ⟨rv6, hrv6, h⟩ := bnd h
 refine r_call (l_Plan_pc hrv6) (.of (by kernel_rfl)) rfl rfl rfl rfl ?_
 obtain ⟨rv7, hrv7, h⟩ := bnd h
 refine r_call (l_launch_pc hrv7) (.of (by kernel_rfl)) rfl rfl rfl rfl (r_bslice tb rfl rfl rfl rfl rfl rfl rfl rfl rfl rfl rfl rfl rfl ?_)
 obtain ⟨rv8, hrv8, h⟩ := bnd h
 refine r_callO (t' := .agg [.row 7 1 0 (rv8.1.sky_Kinds).length, .d (.v (.int .i64 rv8.1.sky_Wind)), .row 6 3 0 (rv8.2).length]) (ls := [some (lWiTurnd rv8.2)]) (news := [(lvI rv8.1.sky_Kinds)]) ([6]) ([some (lvI rv2.1.used), some (lvI rv2.1.credit), some (lvI rv2.1.last), some ⟨4, [WiState_T1 rv2.1 0 1 2]⟩, some (lvI rv4.kinds), some (lvI rv5.1), some (lWiTurnd rv8.2), some (lvI rv8.1.sky_Kinds)]) (l_night_m_scr hrv8) (.of (by kernel_rfl)) rfl (.inl ⟨rfl, rfl, rfl⟩) rfl rfl rfl rfl ((.row rfl .nil)) rfl rfl rfl ((.row .nil)) ((.row .nil)) rfl rfl rfl rfl ?_
 obtain ⟨rv9, hrv9, h⟩ := bnd h
 refine r_call (l_launch_pc hrv9) (.of (by kernel_rfl)) rfl rfl rfl rfl (r_bslice tb rfl rfl rfl rfl rfl rfl rfl rfl rfl rfl rfl rfl rfl ?_)
 obtain ⟨rv10, hrv10, h⟩ := bnd h
 refine r_callO (t' := .agg [.row 9 1 0 (rv10.1.sky_Kinds).length, .d (.v (.int .i64 rv10.1.sky_Wind)), .row 8 3 0 (rv10.2).length]) (ls := [some (lWiTurnd rv10.2)]) (news := [(lvI rv10.1.sky_Kinds)]) ([8]) ([some (lvI rv2.1.used), some (lvI rv2.1.credit), some (lvI rv2.1.last), some ⟨4, [WiState_T1 rv2.1 0 1 2]⟩, some (lvI rv4.kinds), some (lvI rv5.1), some (lWiTurnd rv8.2), some (lvI rv8.1.sky_Kinds), some (lWiTurnd rv10.2), some (lvI rv10.1.sky_Kinds)]) (l_night_m_scr hrv10) (.of (by kernel_rfl)) rfl (.inl ⟨rfl, rfl, rfl⟩) rfl rfl rfl rfl ((.row rfl .nil)) rfl rfl rfl ((.row .nil)) ((.row .nil)) rfl rfl rfl rfl ?_
 obtain ⟨rv11, hrv11, h⟩ := bnd h
 refine r_call (l_launch_pc hrv11) (.of (by kernel_rfl)) rfl rfl rfl rfl (r_bslice tb rfl rfl rfl rfl rfl rfl rfl rfl rfl rfl rfl rfl rfl ?_)
 obtain ⟨rv12, hrv12, h⟩ := bnd h
 refine r_callO (t' := .agg [.row 11 1 0 (rv12.1.sky_Kinds).length, .d (.v (.int .i64 rv12.1.sky_Wind)), .row 10 3 0 (rv12.2).length]) (ls := [some (lWiTurnd rv12.2)]) (news := [(lvI rv12.1.sky_Kinds)]) ([10]) ([some (lvI rv2.1.used), some (lvI rv2.1.credit), some (lvI rv2.1.last), some ⟨4, [WiState_T1 rv2.1 0 1 2]⟩, some (lvI rv4.kinds), some (lvI rv5.1), some (lWiTurnd rv8.2), some (lvI rv8.1.sky_Kinds), some (lWiTurnd rv10.2), some (lvI rv10.1.sky_Kinds), some (lWiTurnd rv12.2), some (lvI rv12.1.sky_Kinds)]) (l_night_m_scr hrv12) (.of (by kernel_rfl)) rfl (.inl ⟨rfl, rfl, rfl⟩) rfl rfl rfl rfl ((.row rfl .nil)) rfl rfl rfl ((.row .nil)) ((.row .nil)) rfl rfl rfl rfl ?_
 refine r_bslice tb rfl rfl rfl rfl rfl rfl rfl rfl rfl rfl rfl rfl rfl ?_
 obtain ⟨rv13, hrv13, h⟩ := bnd h
 refine r_callLN (t' := .tup [.row 13 4 0 (rv13.1).length, WiState_T1 rv13.2.1 14 15 16, .d (.v (.int .i64 rv13.2.2))]) (news' := [(lWiUsed rv13.1), (lvI rv13.2.1.used), (lvI rv13.2.1.credit), (lvI rv13.2.1.last)]) (window_Season_scr hrv13) rfl ((.row (fun _ => rfl) (.row (fun _ => rfl) (.row (fun _ => rfl) (.row (fun _ => rfl) .nil))))) (.of (by kernel_rfl)) rfl rfl ((.cons (.d _) (.cons (.rowL rfl rfl (.cons (.aggL (.cons (.row rfl rfl) (.cons (.d _) (.cons (.row rfl rfl) .nil)))) (.cons (.aggL (.cons (.row rfl rfl) (.cons (.d _) (.cons (.row rfl rfl) .nil)))) (.cons (.aggL (.cons (.row rfl rfl) (.cons (.d _) (.cons (.row rfl rfl) .nil)))) .nil)))) .nil))) rfl ((.row (.row (.row (.row .nil))))) rfl rfl rfl ?_
 refine r_movT (.tup [.row 13 4 0 (rv13.1).length, WiState_T1 rv13.2.1 14 15 16, .d (.v (.int .i64 rv13.2.2))]) rfl rfl rfl (r_ext (t := .row 13 4 0 (rv13.1).length) rfl rfl rfl rfl (r_ext (t := WiState_T1 rv13.2.1 14 15 16) rfl rfl rfl rfl (r_ext (t := .d (.v (.int .i64 rv13.2.2))) rfl rfl rfl rfl (r_alloc tb rfl rfl rfl rfl rfl (r_asgW rfl rfl rfl ?_)))))
 refine r_stE _ ([some (lvI rv2.1.used), some (lvI rv2.1.credit), some (lvI rv2.1.last), some ⟨4, [WiState_T1 rv2.1 0 1 2]⟩, some (lvI rv4.kinds), some (lvI rv5.1), some (lWiTurnd rv8.2), some (lvI rv8.1.sky_Kinds), some (lWiTurnd rv10.2), some (lvI rv10.1.sky_Kinds), some (lWiTurnd rv12.2), some (lvI rv12.1.sky_Kinds), some ⟨3, [.agg [.row 7 1 0 (rv8.1.sky_Kinds).length, .d (.v (.int .i64 rv8.1.sky_Wind)), .row 6 3 0 (rv8.2).length], .agg [.row 9 1 0 (rv10.1.sky_Kinds).length, .d (.v (.int .i64 rv10.1.sky_Wind)), .row 8 3 0 (rv10.2).length], .agg [.row 11 1 0 (rv12.1.sky_Kinds).length, .d (.v (.int .i64 rv12.1.sky_Wind)), .row 10 3 0 (rv12.2).length]]⟩, some (lWiUsed rv13.1), some (lvI rv13.2.1.used), some (lvI rv13.2.1.credit), some (lvI rv13.2.1.last), some ⟨4, [WiState_T1 rv13.2.1 14 15 16]⟩]) tb rfl rfl rfl rfl rfl rfl rfl rfl rfl rfl rfl rfl ?_
 refine r_asgD rfl rfl rfl (ev_end (then_norm (sw_seq (sw_dr (by kernel_rfl) ?_))))
 obtain ⟨rv14, hrv14, h⟩ := bnd h
 refine r_call (l_Plan_pc hrv14) (.of (by kernel_rfl)) rfl rfl rfl rfl (r_ldG tb rfl rfl rfl rfl rfl rfl rfl rfl rfl ?_)
 obtain ⟨rv15, hrv15, h⟩ := bnd h
 refine r_call (l_launch_pc hrv15) (.of (by kernel_rfl)) rfl rfl rfl rfl (r_bslice tb rfl rfl rfl rfl rfl rfl rfl rfl rfl rfl rfl rfl rfl ?_)
 obtain ⟨rv16, hrv16, h⟩ := bnd h
 refine r_callO (t' := .agg [.row 19 1 0 (rv16.1.sky_Kinds).length, .d (.v (.int .i64 rv16.1.sky_Wind)), .row 18 3 0 (rv16.2).length]) (ls := [some (lWiTurnd rv16.2)]) (news := [(lvI rv16.1.sky_Kinds)]) ([18]) ([some (lvI rv2.1.used), some (lvI rv2.1.credit), some (lvI rv2.1.last), some ⟨4, [WiState_T1 rv2.1 0 1 2]⟩, some (lvI rv4.kinds), some (lvI rv5.1), some (lWiTurnd rv8.2), some (lvI rv8.1.sky_Kinds), some (lWiTurnd rv10.2), some (lvI rv10.1.sky_Kinds), some (lWiTurnd rv12.2), some (lvI rv12.1.sky_Kinds), some ⟨3, [.agg [.row 7 1 0 (rv8.1.sky_Kinds).length, .d (.v (.int .i64 rv8.1.sky_Wind)), .row 6 3 0 (rv8.2).length], .agg [.row 9 1 0 (rv10.1.sky_Kinds).length, .d (.v (.int .i64 rv10.1.sky_Wind)), .row 8 3 0 (rv10.2).length], .agg [.row 11 1 0 (rv12.1.sky_Kinds).length, .d (.v (.int .i64 rv12.1.sky_Wind)), .row 10 3 0 (rv12.2).length]]⟩, some (lWiUsed rv13.1), some (lvI rv13.2.1.used), some (lvI rv13.2.1.credit), some (lvI rv13.2.1.last), some ⟨4, [WiState_T1 rv13.2.1 14 15 16]⟩, some (lWiTurnd rv16.2), some (lvI rv16.1.sky_Kinds)]) (l_night_m_scr hrv16) (.of (by kernel_rfl)) rfl (.inl ⟨rfl, rfl, rfl⟩) rfl rfl rfl rfl ((.row rfl .nil)) rfl rfl rfl ((.row .nil)) ((.row .nil)) rfl rfl rfl rfl ?_
 obtain ⟨rv17, hrv17, h⟩ := bnd h
 refine r_callLN (t' := .tup [WiState_T1 rv17.1 20 21 22, .d (WiUse.d rv17.2.1), .d (.v (.int .i64 rv17.2.2))]) (news' := [(lvI rv17.1.used), (lvI rv17.1.credit), (lvI rv17.1.last)]) (window_Play_scr hrv17) rfl ((.row (fun _ => rfl) (.row (fun _ => rfl) (.row (fun _ => rfl) .nil)))) (.of (by kernel_rfl)) rfl rfl ((.cons (.d _) (.cons (.aggL (.cons (.row rfl rfl) (.cons (.row rfl rfl) (.cons (.row rfl rfl) (.cons (.d _) .nil))))) (.cons (.aggL (.cons (.row rfl rfl) (.cons (.d _) (.cons (.row rfl rfl) .nil)))) .nil)))) rfl ((.row (.row (.row .nil)))) rfl rfl rfl ?_
 refine r_movT (.tup [WiState_T1 rv17.1 20 21 22, .d (WiUse.d rv17.2.1), .d (.v (.int .i64 rv17.2.2))]) rfl rfl rfl (r_ext (t := WiState_T1 rv17.1 20 21 22) rfl rfl rfl rfl (r_ext (t := .d (WiUse.d rv17.2.1)) rfl rfl rfl rfl (r_ext (t := .d (.v (.int .i64 rv17.2.2))) rfl rfl rfl rfl (r_alloc tb rfl rfl rfl rfl rfl (r_alloc tb rfl rfl rfl rfl rfl ?_)))))
 refine r_stE _ ([some (lvI rv2.1.used), some (lvI rv2.1.credit), some (lvI rv2.1.last), some ⟨4, [WiState_T1 rv2.1 0 1 2]⟩, some (lvI rv4.kinds), some (lvI rv5.1), some (lWiTurnd rv8.2), some (lvI rv8.1.sky_Kinds), some (lWiTurnd rv10.2), some (lvI rv10.1.sky_Kinds), some (lWiTurnd rv12.2), some (lvI rv12.1.sky_Kinds), some ⟨3, [.agg [.row 7 1 0 (rv8.1.sky_Kinds).length, .d (.v (.int .i64 rv8.1.sky_Wind)), .row 6 3 0 (rv8.2).length], .agg [.row 9 1 0 (rv10.1.sky_Kinds).length, .d (.v (.int .i64 rv10.1.sky_Wind)), .row 8 3 0 (rv10.2).length], .agg [.row 11 1 0 (rv12.1.sky_Kinds).length, .d (.v (.int .i64 rv12.1.sky_Wind)), .row 10 3 0 (rv12.2).length]]⟩, some (lWiUsed rv13.1), some (lvI rv13.2.1.used), some (lvI rv13.2.1.credit), some (lvI rv13.2.1.last), some ⟨4, [WiState_T1 rv13.2.1 14 15 16]⟩, some (lWiTurnd rv16.2), some (lvI rv16.1.sky_Kinds), some (lvI rv17.1.used), some (lvI rv17.1.credit), some (lvI rv17.1.last), some ⟨4, [WiState_T1 rv17.1 20 21 22]⟩, some ⟨4, [.d (.agg [.v (.int .i64 0), .v (.int .i64 0), .v (.int .i64 0), .v (.int .i64 0)])]⟩]) tb rfl rfl rfl rfl rfl rfl rfl rfl rfl rfl rfl rfl ?_
 refine r_stE _ ([some (lvI rv2.1.used), some (lvI rv2.1.credit), some (lvI rv2.1.last), some ⟨4, [WiState_T1 rv2.1 0 1 2]⟩, some (lvI rv4.kinds), some (lvI rv5.1), some (lWiTurnd rv8.2), some (lvI rv8.1.sky_Kinds), some (lWiTurnd rv10.2), some (lvI rv10.1.sky_Kinds), some (lWiTurnd rv12.2), some (lvI rv12.1.sky_Kinds), some ⟨3, [.agg [.row 7 1 0 (rv8.1.sky_Kinds).length, .d (.v (.int .i64 rv8.1.sky_Wind)), .row 6 3 0 (rv8.2).length], .agg [.row 9 1 0 (rv10.1.sky_Kinds).length, .d (.v (.int .i64 rv10.1.sky_Wind)), .row 8 3 0 (rv10.2).length], .agg [.row 11 1 0 (rv12.1.sky_Kinds).length, .d (.v (.int .i64 rv12.1.sky_Wind)), .row 10 3 0 (rv12.2).length]]⟩, some (lWiUsed rv13.1), some (lvI rv13.2.1.used), some (lvI rv13.2.1.credit), some (lvI rv13.2.1.last), some ⟨4, [WiState_T1 rv13.2.1 14 15 16]⟩, some (lWiTurnd rv16.2), some (lvI rv16.1.sky_Kinds), some (lvI rv17.1.used), some (lvI rv17.1.credit), some (lvI rv17.1.last), some ⟨4, [WiState_T1 rv17.1 20 21 22]⟩, some ⟨4, [.d (WiUse.d rv17.2.1)]⟩]) tb rfl rfl rfl rfl rfl rfl rfl rfl rfl rfl rfl rfl ?_
 refine r_asgD rfl rfl rfl (ev_endD (by kernel_rfl) (then_norm (sw_seq (sw_rg (r_movD rfl rfl rfl ?_)))))
 refine r_eql rfl rfl rfl rfl ?_ ?_
 ·intro c
  replace h := ifP c h
  refine r_movD rfl rfl rfl (r_movD rfl rfl rfl ?_)
  refine r_eql rfl rfl rfl rfl ?_ ?_
  ·intro c2
   replace h := ifP c2 h
   refine r_pickT rfl rfl rfl rfl (r_movD rfl rfl rfl (r_movD rfl rfl rfl ?_))
   refine r_eql rfl rfl rfl rfl ?_ ?_
   ·intro c3
    replace h := ifP c3 h
    refine r_pickT rfl rfl rfl rfl (r_movD rfl rfl rfl (r_movD rfl rfl rfl ?_))
    refine r_eql rfl rfl rfl rfl ?_ ?_
    ·intro c4
     replace h := ifP c4 h
     refine r_pickT rfl rfl rfl rfl (r_movD rfl rfl rfl (r_movW rfl rfl rfl (r_bslice tb rfl rfl rfl rfl rfl rfl rfl rfl rfl rfl rfl rfl rfl ?_)))
     obtain ⟨rv18, hrv18, h⟩ := bnd h
     refine r_callLB (r_Ints_pc hrv18) (.of (by kernel_rfl)) rfl rfl ((.cons (.row rfl rfl) (.cons (.row rfl rfl) .nil))) rfl rfl ?_ ?_
     ·intro c5
      replace h := ifP c5 h
      refine r_pickT rfl rfl rfl rfl (r_movD rfl rfl rfl (r_movW rfl rfl rfl (r_build (v := .d (.agg [.v (.int .i64 0), .v (.int .i64 1), .v (.int .i64 160), .v (.int .i64 (-1))])) tb rfl rfl (List.cons_ne_nil _ _) rfl rfl rfl rfl rfl rfl (r_build (v := .d (.agg [.v (.int .i64 1), .v (.int .i64 0), .v (.int .i64 130), .v (.int .i64 (-1))])) tb rfl rfl (List.cons_ne_nil _ _) rfl rfl rfl rfl rfl rfl (r_build (v := .d (.agg [.v (.int .i64 2), .v (.int .i64 1), .v (.int .i64 60), .v (.int .i64 (-1))])) tb rfl rfl (List.cons_ne_nil _ _) rfl rfl rfl rfl rfl rfl ?_)))))
      refine r_bslice tb rfl rfl rfl rfl rfl rfl rfl rfl rfl rfl rfl rfl rfl ?_
      obtain ⟨rv19, hrv19, h⟩ := bnd h
      refine r_callL (r_SameUses_pc hrv19) rfl (.of (by kernel_rfl)) rfl rfl ((.cons (.row rfl rfl) (.cons (.row rfl rfl) .nil))) rfl rfl (r_pickT rfl rfl rfl rfl (r_asgD rfl rfl rfl (ev_end (then_norm (sw_ret ?_)))))
      obtain rfl := Option.some.inj h
      exact fin_0 (t := .d (.v (.bool rv19))) rfl rfl rfl (.cons (.tmp 0) .nil)
     intro c5
     replace h := ifF c5 h
     refine r_pickT rfl rfl rfl rfl (r_movD rfl rfl rfl (r_skip rfl rfl rfl (r_skip rfl rfl rfl (r_skip rfl rfl rfl (r_skip rfl rfl rfl (r_skip rfl rfl rfl (r_skip rfl rfl rfl (r_pickF rfl rfl rfl rfl (r_asgD rfl rfl rfl (ev_end (then_norm (sw_ret ?_))))))))))))
     obtain rfl := Option.some.inj h
     exact fin_0 (t := .d (.v (.bool false))) rfl rfl rfl (.cons (.tmp 0) .nil)
    intro c4
    replace h := ifN c4 h
    refine r_pickT rfl rfl rfl rfl (r_movD rfl rfl rfl (r_skip rfl rfl rfl (r_skip rfl rfl rfl (r_skip rfl rfl rfl (r_pickF rfl rfl rfl rfl (r_movD rfl rfl rfl (r_skip rfl rfl rfl (r_skip rfl rfl rfl (r_skip rfl rfl rfl (r_skip rfl rfl rfl (r_skip rfl rfl rfl (r_skip rfl rfl rfl (r_pickF rfl rfl rfl rfl (r_asgD rfl rfl rfl (ev_end (then_norm (sw_ret ?_)))))))))))))))))
    obtain rfl := Option.some.inj h
    exact fin_0 (t := .d (.v (.bool false))) rfl rfl rfl (.cons (.tmp 0) .nil)
   intro c3
   replace h := ifN c3 h
   refine r_pickT rfl rfl rfl rfl (r_movD rfl rfl rfl (r_skip rfl rfl rfl (r_skip rfl rfl rfl (r_pickF rfl rfl rfl rfl (r_movD rfl rfl rfl (r_skip rfl rfl rfl (r_skip rfl rfl rfl (r_skip rfl rfl rfl (r_pickF rfl rfl rfl rfl (r_movD rfl rfl rfl (r_skip rfl rfl rfl (r_skip rfl rfl rfl (r_skip rfl rfl rfl (r_skip rfl rfl rfl (r_skip rfl rfl rfl (r_skip rfl rfl rfl (r_pickF rfl rfl rfl rfl (r_asgD rfl rfl rfl (ev_end (then_norm (sw_ret ?_)))))))))))))))))))))
   obtain rfl := Option.some.inj h
   exact fin_0 (t := .d (.v (.bool false))) rfl rfl rfl (.cons (.tmp 0) .nil)
  intro c2
  replace h := ifN c2 h
  refine r_pickT rfl rfl rfl rfl (r_movD rfl rfl rfl (r_skip rfl rfl rfl (r_skip rfl rfl rfl (r_pickF rfl rfl rfl rfl (r_movD rfl rfl rfl (r_skip rfl rfl rfl (r_skip rfl rfl rfl (r_pickF rfl rfl rfl rfl (r_movD rfl rfl rfl (r_skip rfl rfl rfl (r_skip rfl rfl rfl (r_skip rfl rfl rfl (r_pickF rfl rfl rfl rfl (r_movD rfl rfl rfl (r_skip rfl rfl rfl (r_skip rfl rfl rfl (r_skip rfl rfl rfl (r_skip rfl rfl rfl (r_skip rfl rfl rfl (r_skip rfl rfl rfl (r_pickF rfl rfl rfl rfl (r_asgD rfl rfl rfl (ev_end (then_norm (sw_ret ?_)))))))))))))))))))))))))
  obtain rfl := Option.some.inj h
  exact fin_0 (t := .d (.v (.bool false))) rfl rfl rfl (.cons (.tmp 0) .nil)
 intro c
 replace h := ifN c h
 refine r_movD rfl rfl rfl (r_skip rfl rfl rfl (r_skip rfl rfl rfl (r_pickF rfl rfl rfl rfl (r_movD rfl rfl rfl (r_skip rfl rfl rfl (r_skip rfl rfl rfl (r_pickF rfl rfl rfl rfl (r_movD rfl rfl rfl (r_skip rfl rfl rfl (r_skip rfl rfl rfl (r_pickF rfl rfl rfl rfl (r_movD rfl rfl rfl (r_skip rfl rfl rfl (r_skip rfl rfl rfl (r_skip rfl rfl rfl (r_pickF rfl rfl rfl rfl (r_movD rfl rfl rfl (r_skip rfl rfl rfl (r_skip rfl rfl rfl (r_skip rfl rfl rfl (r_skip rfl rfl rfl (r_skip rfl rfl rfl (r_skip rfl rfl rfl (r_pickF rfl rfl rfl rfl (r_asgD rfl rfl rfl (ev_end ?_))))))))))))))))))))))))))
 refine then_norm (sw_ret ?_)
 obtain rfl := Option.some.inj h
 exact fin_0 (t := .d (.v (.bool false))) rfl rfl rfl (.cons (.tmp 0) .nil)
/-- hangfirelaw11.WindowLater -/
def l_WindowLater_L1 (F : Nat) (t : WiPlan) (o : Moment) (rv : ((List Int) × Int)) (rv4 : ((List Int) × Int)) (K : Int → Option Bool) : Nat → Int → Option Bool
 | 0, _ => none
 | n + 1, x => if x < (t.teams.length : Int) then (Option.bind (window_Why F t (WiState.mk o.state_Used o.state_Credit o.state_Last o.state_Next) (WiSky.mk o.sky_Kinds o.sky_Wind) x o.minute) fun rv5 => if rv5.2 = 0 then (Option.bind (l_listed F rv.1 x) fun rv6 => if ((decide (rv5.1 = 0)) != (decide (0 ≤ rv6))) = true then (some false) else (if rv4.2 = 0 then (Option.bind (l_listed F rv4.1 x) fun rv7 => if 0 ≤ rv7 then (if rv5.1 = 0 then (l_WindowLater_L1 F t o rv rv4 K n (W (x + 1))) else (some false)) else (l_WindowLater_L1 F t o rv rv4 K n (W (x + 1)))) else (l_WindowLater_L1 F t o rv rv4 K n (W (x + 1))))) else (some false)) else (K x)
def l_WindowLater (F : Nat) (t : WiPlan) (o : Moment) (a : Int) : Option Bool := Option.bind (window_Rights F t (WiState.mk o.state_Used o.state_Credit o.state_Last o.state_Next) (WiSky.mk o.sky_Kinds o.sky_Wind) o.minute) fun rv => if rv.2 = 0 then (if 8 < (t.teams.length : Int) then (Option.bind (l_Awake 100 ) fun rv3 => some rv3) else (Option.bind (window_Rights F t (WiState.mk o.state_Used o.state_Credit o.state_Last o.state_Next) (WiSky.mk o.sky_Kinds o.sky_Wind) (W (o.minute + (W a)))) fun rv4 => l_WindowLater_L1 F t o rv rv4 (fun (x : Int) => Option.bind (l_Awake 100 ) fun rv8 => some rv8) F 0)) else (Option.bind (l_Awake 100 ) fun rv2 => some rv2)
set_option maxHeartbeats 4000000 in
theorem l_WindowLater_pc {F : Nat} {t : WiPlan} {o : Moment} {a : Int} {r : Bool} (h : l_WindowLater F t o a = some r) : PC Try.prog 14 [WiPlan.d t, Moment.d o, .v (.int .u8 a)] (.v (.bool r)) := by
 rw [l_WindowLater] at h
 refine SC.of_sw Try.func14 rfl rfl rfl ?_
 simp only [List.map_cons, List.map_nil, argS, Nat.zero_add, Nat.reduceAdd]
 refine sw_seq (sw_rg (r_box rfl rfl rfl rfl rfl rfl rfl (r_box rfl rfl rfl rfl rfl rfl rfl (r_asgD rfl rfl rfl (ev_end (then_norm (sw_seq (sw_rg (r_ldD (y := WiPlan.d t) tb rfl rfl rfl rfl rfl rfl rfl rfl rfl (r_fa tb rfl rfl rfl rfl rfl rfl rfl (r_ldD (y := .agg [.arr 1 ((o.state_Used).map vI), .arr 1 ((o.state_Credit).map vI), .arr 1 ((o.state_Last).map vI), .v (.int .i64 o.state_Next)]) tb rfl rfl rfl rfl rfl rfl rfl rfl rfl (r_fa tb rfl rfl rfl rfl rfl rfl rfl ?_))))))))))))
 refine r_ldD (y := .agg [.arr 1 ((o.sky_Kinds).map vI), .v (.int .i64 o.sky_Wind)]) tb rfl rfl rfl rfl rfl rfl rfl rfl rfl (r_fa tb rfl rfl rfl rfl rfl rfl rfl (r_ldD (y := .v (.int .i64 o.minute)) tb rfl rfl rfl rfl rfl rfl rfl rfl rfl ?_))
 obtain ⟨rv, hrv, h⟩ := bnd h
 refine r_callN (t' := .tup [.row 2 1 0 (rv.1).length, .d (.v (.int .i64 rv.2))]) (news' := [(lvI rv.1)]) (window_Rights_scr hrv) (.of (by kernel_rfl)) rfl rfl rfl ((.row .nil)) rfl rfl rfl (r_movT (.tup [.row 2 1 0 (rv.1).length, .d (.v (.int .i64 rv.2))]) rfl rfl rfl (r_ext (t := .row 2 1 0 (rv.1).length) rfl rfl rfl rfl (r_ext (t := .d (.v (.int .i64 rv.2))) rfl rfl rfl rfl (r_asgW rfl rfl rfl (r_asgD rfl rfl rfl (ev_end (then_norm (sw_seq (sw_seq (sw_rg (r_movD rfl rfl rfl ?_)))))))))))
 refine r_neq rfl rfl rfl rfl ?_ ?_
 ·intro c
  replace h := ifN c h
  refine r_movD rfl rfl rfl (r_skip rfl rfl rfl (r_skip rfl rfl rfl (r_skip rfl rfl rfl (r_skip rfl rfl rfl (r_pickT rfl rfl rfl rfl (ev_end (then_norm (sw_condT rfl (sw_seq (sw_rg ?_))))))))))
  obtain ⟨rv2, hrv2, h⟩ := bnd h
  refine r_call (l_Awake_pc hrv2) (.of (by kernel_rfl)) rfl rfl rfl rfl (r_asgD rfl rfl rfl (ev_end (then_norm (sw_ret (then_ret ?_)))))
  obtain rfl := Option.some.inj h
  exact fin_0 (t := .d (.v (.bool rv2))) rfl rfl rfl (.cons (.tmp 6) .nil)
 intro c
 replace h := ifP c h
 refine r_movD rfl rfl rfl (r_fa tb rfl rfl rfl rfl rfl rfl rfl (r_ldD (y := .arr 9 ((t.teams).map WiTeam.d)) tb rfl rfl rfl rfl rfl rfl rfl rfl rfl (r_lenM tb rfl rfl rfl rfl rfl ?_)))
 refine r_gtr rfl rfl rfl rfl ?_ ?_
 ·intro c2
  replace h := ifP c2 h
  refine r_pickF rfl rfl rfl rfl (ev_end (then_norm (sw_condT rfl (sw_seq (sw_rg ?_)))))
  obtain ⟨rv3, hrv3, h⟩ := bnd h
  refine r_call (l_Awake_pc hrv3) (.of (by kernel_rfl)) rfl rfl rfl rfl (r_asgD rfl rfl rfl (ev_end (then_norm (sw_ret (then_ret ?_)))))
  obtain rfl := Option.some.inj h
  exact fin_0 (t := .d (.v (.bool rv3))) rfl rfl rfl (.cons (.tmp 6) .nil)
 intro c2
 replace h := ifN (Int.not_lt.2 c2) h
 refine r_pickF rfl rfl rfl rfl (ev_end (then_norm (sw_condF rfl (sw_skip (then_norm (sw_seq (sw_rg (r_ldD (y := WiPlan.d t) tb rfl rfl rfl rfl rfl rfl rfl rfl rfl (r_fa tb rfl rfl rfl rfl rfl rfl rfl (r_ldD (y := .agg [.arr 1 ((o.state_Used).map vI), .arr 1 ((o.state_Credit).map vI), .arr 1 ((o.state_Last).map vI), .v (.int .i64 o.state_Next)]) tb rfl rfl rfl rfl rfl rfl rfl rfl rfl (r_fa tb rfl rfl rfl rfl rfl rfl rfl (r_ldD (y := .agg [.arr 1 ((o.sky_Kinds).map vI), .v (.int .i64 o.sky_Wind)]) tb rfl rfl rfl rfl rfl rfl rfl rfl rfl ?_))))))))))))
 refine r_fa tb rfl rfl rfl rfl rfl rfl rfl (r_ldD (y := .v (.int .i64 o.minute)) tb rfl rfl rfl rfl rfl rfl rfl rfl rfl (r_movD rfl rfl rfl (r_cvI rfl rfl rfl rfl rfl rfl (r_add rfl rfl rfl rfl ?_))))
 obtain ⟨rv4, hrv4, h⟩ := bnd h
 refine r_callN (t' := .tup [.row 3 1 0 (rv4.1).length, .d (.v (.int .i64 rv4.2))]) (news' := [(lvI rv4.1)]) (window_Rights_scr hrv4) (.of (by kernel_rfl)) rfl rfl rfl ((.row .nil)) rfl rfl rfl (r_movT (.tup [.row 3 1 0 (rv4.1).length, .d (.v (.int .i64 rv4.2))]) rfl rfl rfl (r_ext (t := .row 3 1 0 (rv4.1).length) rfl rfl rfl rfl (r_ext (t := .d (.v (.int .i64 rv4.2))) rfl rfl rfl rfl (r_asgW rfl rfl rfl (r_asgD rfl rfl rfl (ev_end (then_norm (sw_seq (sw_seq (sw_rg (r_asgD rfl rfl rfl (ev_end (then_norm (sw_block ?_))))))))))))))
 obtain ⟨K2, hK2, h⟩ : ∃ K, K = _ ∧ l_WindowLater_L1 F t o rv rv4 K F 0 = some r := ⟨_, rfl, h⟩
 refine sw_loop (st0 := ⟨[(3, .ref 0 4 0 0), (4, .ref 1 8 0 0), (6, .d (.v (.bool false))), (7, .row 2 1 0 (rv.1).length), (8, .d (.v (.int .i64 rv4.2))), (9, .row 3 1 0 (rv4.1).length), (10, .d (.v (.int .i64 0)))], [some ⟨4, [.d (WiPlan.d t)]⟩, some ⟨8, [.d (Moment.d o)]⟩, some (lvI rv.1), some (lvI rv4.1)]⟩) (κ := [0, 1, 2, 3]) (fun m st => ∃ (x : Int), l_WindowLater_L1 F t o rv rv4 K2 m x = some r ∧ st = ⟨[(3, .ref 0 4 0 0), (4, .ref 1 8 0 0), (6, .d (.v (.bool false))), (7, .row 2 1 0 (rv.1).length), (8, .d (.v (.int .i64 rv4.2))), (9, .row 3 1 0 (rv4.1).length), (10, .d (.v (.int .i64 x)))], [some ⟨4, [.d (WiPlan.d t)]⟩, some ⟨8, [.d (Moment.d o)]⟩, some (lvI rv.1), some (lvI rv4.1)]⟩) (vwK rfl rfl (.cons rfl rfl (.cons rfl rfl (.row rfl (.row rfl .nil)))) (.cons rfl rfl (.cons rfl rfl (.cons rfl rfl (.cons rfl rfl (.cons rfl rfl (.cons rfl rfl (.cons rfl rfl .nil)))))))) ⟨0, h, rfl⟩ ?_
 clear h
 rintro m2 st ⟨x, h, rfl⟩
 cases m2 with
 | zero => cases (show (none : Option Bool) = some r from h)
 | succ m2 =>
 rw [l_WindowLater_L1] at h
 refine sw_seq (sw_seq (sw_rg (r_movD rfl rfl rfl (r_fa tb rfl rfl rfl rfl rfl rfl rfl (r_ldD (y := .arr 9 ((t.teams).map WiTeam.d)) tb rfl rfl rfl rfl rfl rfl rfl rfl rfl (r_lenM tb rfl rfl rfl rfl rfl ?_))))))
 refine r_lss rfl rfl rfl rfl ?_ ?_
 ·intro c3
  replace h := ifP c3 h
  refine ev_end (then_norm (sw_condT rfl (sw_skip (then_norm (sw_seq (sw_block (sw_seq (sw_rg (r_ldD (y := WiPlan.d t) tb rfl rfl rfl rfl rfl rfl rfl rfl rfl (r_fa tb rfl rfl rfl rfl rfl rfl rfl (r_ldD (y := .agg [.arr 1 ((o.state_Used).map vI), .arr 1 ((o.state_Credit).map vI), .arr 1 ((o.state_Last).map vI), .v (.int .i64 o.state_Next)]) tb rfl rfl rfl rfl rfl rfl rfl rfl rfl (r_fa tb rfl rfl rfl rfl rfl rfl rfl (r_ldD (y := .agg [.arr 1 ((o.sky_Kinds).map vI), .v (.int .i64 o.sky_Wind)]) tb rfl rfl rfl rfl rfl rfl rfl rfl rfl (r_movD rfl rfl rfl ?_))))))))))))))
  refine r_fa tb rfl rfl rfl rfl rfl rfl rfl (r_ldD (y := .v (.int .i64 o.minute)) tb rfl rfl rfl rfl rfl rfl rfl rfl rfl ?_)
  obtain ⟨rv5, hrv5, h⟩ := bnd h
  refine r_call (window_Why_pc hrv5) (.of (by kernel_rfl)) rfl rfl rfl rfl (r_movD rfl rfl rfl (r_extD (t := .v (.int .i64 rv5.1)) rfl rfl rfl rfl (r_extD (t := .v (.int .i64 rv5.2)) rfl rfl rfl rfl (r_asgD rfl rfl rfl (r_asgD rfl rfl rfl (ev_end (then_norm (sw_seq (sw_rg (r_movD rfl rfl rfl ?_))))))))))
  refine r_neq rfl rfl rfl rfl ?_ ?_
  ·intro c4
   replace h := ifN c4 h
   refine r_movD rfl rfl rfl (r_skip rfl rfl rfl (r_skip rfl rfl rfl (r_skip rfl rfl rfl (r_skip rfl rfl rfl (r_skip rfl rfl rfl (r_skip rfl rfl rfl (r_skip rfl rfl rfl (r_pickT rfl rfl rfl rfl (r_movD rfl rfl rfl (r_skip rfl rfl rfl (r_skip rfl rfl rfl (r_skip rfl rfl rfl (r_skip rfl rfl rfl (r_skip rfl rfl rfl (r_skip rfl rfl rfl (r_skip rfl rfl rfl (r_skip rfl rfl rfl (r_skip rfl rfl rfl (r_skip rfl rfl rfl (r_skip rfl rfl rfl (r_skip rfl rfl rfl (r_pickT rfl rfl rfl rfl (ev_end (then_norm (sw_condT rfl (sw_seq (sw_rg (r_asgD rfl rfl rfl (ev_end ?_)))))))))))))))))))))))))))))
   refine then_norm (sw_ret (block_ret (then_ret (then_ret (block_ret (then_ret ?_))))))
   obtain rfl := Option.some.inj h
   exact fin_0 (t := .d (.v (.bool false))) rfl rfl rfl (.cons (.tmp 6) .nil)
  intro c4
  replace h := ifP c4 h
  refine r_movD rfl rfl rfl (r_movD rfl rfl rfl (r_eqlV rfl rfl rfl rfl (r_movW rfl rfl rfl (r_movD rfl rfl rfl ?_))))
  obtain ⟨rv6, hrv6, h⟩ := bnd h
  refine r_callL (l_listed_pc hrv6) rfl (.of (by kernel_rfl)) rfl rfl ((.cons (.row rfl rfl) (.cons (.d _) .nil))) rfl rfl (r_geqV rfl rfl rfl rfl (r_boolneq rfl rfl rfl rfl rfl ?_))
  with_reducible apply ev_lit
  ·intro c5
   replace h := ifP c5 h
   refine r_pickF rfl rfl rfl rfl (r_movD rfl rfl rfl (r_skip rfl rfl rfl (r_skip rfl rfl rfl (r_skip rfl rfl rfl (r_skip rfl rfl rfl (r_skip rfl rfl rfl (r_skip rfl rfl rfl (r_skip rfl rfl rfl (r_skip rfl rfl rfl (r_skip rfl rfl rfl (r_skip rfl rfl rfl (r_skip rfl rfl rfl (r_skip rfl rfl rfl (r_pickT rfl rfl rfl rfl (ev_end (then_norm (sw_condT rfl (sw_seq (sw_rg (r_asgD rfl rfl rfl (ev_end (then_norm (sw_ret (block_ret (then_ret (then_ret (block_ret (then_ret ?_))))))))))))))))))))))))))))
   obtain rfl := Option.some.inj h
   exact fin_0 (t := .d (.v (.bool false))) rfl rfl rfl (.cons (.tmp 6) .nil)
  intro c5
  replace h := ifF c5 h
  refine r_pickF rfl rfl rfl rfl (r_movD rfl rfl rfl (r_movD rfl rfl rfl ?_))
  refine r_eql rfl rfl rfl rfl ?_ ?_
  ·intro c6
   replace h := ifP c6 h
   refine r_movD rfl rfl rfl (r_movW rfl rfl rfl (r_movD rfl rfl rfl ?_))
   obtain ⟨rv7, hrv7, h⟩ := bnd h
   refine r_callL (l_listed_pc hrv7) rfl (.of (by kernel_rfl)) rfl rfl ((.cons (.row rfl rfl) (.cons (.d _) .nil))) rfl rfl ?_
   refine r_geq rfl rfl rfl rfl ?_ ?_
   ·intro c7
    replace h := ifP c7 h
    refine r_pickT rfl rfl rfl rfl (r_movD rfl rfl rfl (r_movD rfl rfl rfl ?_))
    refine r_neq rfl rfl rfl rfl ?_ ?_
    ·intro c8
     replace h := ifN c8 h
     refine r_pickT rfl rfl rfl rfl (r_pickF rfl rfl rfl rfl (ev_end (then_norm (sw_condT rfl (sw_seq (sw_rg (r_asgD rfl rfl rfl (ev_end (then_norm (sw_ret (block_ret (then_ret (then_ret (block_ret (then_ret ?_)))))))))))))))
     obtain rfl := Option.some.inj h
     exact fin_0 (t := .d (.v (.bool false))) rfl rfl rfl (.cons (.tmp 6) .nil)
    intro c8
    replace h := ifP c8 h
    refine r_pickT rfl rfl rfl rfl (r_pickF rfl rfl rfl rfl (ev_end (then_norm (sw_condF rfl (sw_skip (block_norm (then_norm (sw_rg (r_movD rfl rfl rfl (r_add rfl rfl rfl rfl (r_asgD rfl rfl rfl (ev_end (then_norm ?_)))))))))))))
    exact ⟨m2, ⟨[(3, .ref 0 4 0 0), (4, .ref 1 8 0 0), (6, .d (.v (.bool false))), (7, .row 2 1 0 (rv.1).length), (8, .d (.v (.int .i64 rv4.2))), (9, .row 3 1 0 (rv4.1).length), (10, .d (.v (.int .i64 (W (x + 1)))))], [some ⟨4, [.d (WiPlan.d t)]⟩, some ⟨8, [.d (Moment.d o)]⟩, some (lvI rv.1), some (lvI rv4.1)]⟩, [0, 1, 2, 3], Nat.lt_succ_self _, (vwK rfl rfl (.cons rfl rfl (.cons rfl rfl (.row rfl (.row rfl .nil)))) (.cons rfl rfl (.cons rfl rfl (.cons rfl rfl (.cons rfl rfl (.cons rfl rfl (.cons rfl rfl (.cons rfl rfl .nil)))))))), (W (x + 1)), h, rfl⟩
   intro c7
   replace h := ifN (Int.not_le.2 c7) h
   refine r_pickT rfl rfl rfl rfl (r_movD rfl rfl rfl (r_skip rfl rfl rfl (r_skip rfl rfl rfl (r_pickF rfl rfl rfl rfl (r_pickF rfl rfl rfl rfl (ev_end (then_norm (sw_condF rfl (sw_skip (block_norm (then_norm (sw_rg (r_movD rfl rfl rfl (r_add rfl rfl rfl rfl (r_asgD rfl rfl rfl (ev_end (then_norm ?_)))))))))))))))))
   exact ⟨m2, ⟨[(3, .ref 0 4 0 0), (4, .ref 1 8 0 0), (6, .d (.v (.bool false))), (7, .row 2 1 0 (rv.1).length), (8, .d (.v (.int .i64 rv4.2))), (9, .row 3 1 0 (rv4.1).length), (10, .d (.v (.int .i64 (W (x + 1)))))], [some ⟨4, [.d (WiPlan.d t)]⟩, some ⟨8, [.d (Moment.d o)]⟩, some (lvI rv.1), some (lvI rv4.1)]⟩, [0, 1, 2, 3], Nat.lt_succ_self _, (vwK rfl rfl (.cons rfl rfl (.cons rfl rfl (.row rfl (.row rfl .nil)))) (.cons rfl rfl (.cons rfl rfl (.cons rfl rfl (.cons rfl rfl (.cons rfl rfl (.cons rfl rfl (.cons rfl rfl .nil)))))))), (W (x + 1)), h, rfl⟩
  intro c6
  replace h := ifN c6 h
  refine r_movD rfl rfl rfl (r_skip rfl rfl rfl (r_skip rfl rfl rfl (r_skip rfl rfl rfl (r_skip rfl rfl rfl (r_pickF rfl rfl rfl rfl (r_movD rfl rfl rfl (r_skip rfl rfl rfl (r_skip rfl rfl rfl (r_pickF rfl rfl rfl rfl (r_pickF rfl rfl rfl rfl (ev_end (then_norm (sw_condF rfl (sw_skip (block_norm (then_norm (sw_rg (r_movD rfl rfl rfl (r_add rfl rfl rfl rfl (r_asgD rfl rfl rfl (ev_end (then_norm ?_))))))))))))))))))))))
  exact ⟨m2, ⟨[(3, .ref 0 4 0 0), (4, .ref 1 8 0 0), (6, .d (.v (.bool false))), (7, .row 2 1 0 (rv.1).length), (8, .d (.v (.int .i64 rv4.2))), (9, .row 3 1 0 (rv4.1).length), (10, .d (.v (.int .i64 (W (x + 1)))))], [some ⟨4, [.d (WiPlan.d t)]⟩, some ⟨8, [.d (Moment.d o)]⟩, some (lvI rv.1), some (lvI rv4.1)]⟩, [0, 1, 2, 3], Nat.lt_succ_self _, (vwK rfl rfl (.cons rfl rfl (.cons rfl rfl (.row rfl (.row rfl .nil)))) (.cons rfl rfl (.cons rfl rfl (.cons rfl rfl (.cons rfl rfl (.cons rfl rfl (.cons rfl rfl (.cons rfl rfl .nil)))))))), (W (x + 1)), h, rfl⟩
 intro c3
 replace h := ifN (Int.not_lt.2 c3) h
 refine ev_end (then_norm (sw_condF rfl (sw_exit (then_exit (then_exit ?_)))))
 subst hK2
 refine block_exit (then_norm (sw_seq (sw_rg ?_)))
 obtain ⟨rv8, hrv8, h⟩ := bnd h
 refine r_call (l_Awake_pc hrv8) (.of (by kernel_rfl)) rfl rfl rfl rfl (r_asgD rfl rfl rfl (ev_end (then_norm (sw_ret ?_))))
 obtain rfl := Option.some.inj h
 exact fin_0 (t := .d (.v (.bool rv8))) rfl rfl rfl (.cons (.tmp 6) .nil)
end Go.Proofs.Ytdefnmcjmklohaa
