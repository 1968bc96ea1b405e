/- The plain part of the statement about windows that end unused. -/
import Derived.Test.YtdefnmcjmklohaaP15
open Go Go.Proofs.Ytdefnmcjmklohaa.Sh Go.Proofs
namespace Go.Proofs.Ytdefnmcjmklohaa
set_option linter.unusedVariables false
set_option linter.unusedSimpArgs false
section
variable {F : Nat} {p : WiPlan} {s : WiState} {n : WiNight}
theorem passed_L1 {lv : List Int} {a b : List Int × Int} (hF : 20 < F) (hlv : lv.length ≤ 20) (hb : b.1.length ≤ 20) (h : ∀ v ∈ a.1, hasP lv v = false → hasP b.1 v = false) (ha : a.1.length ≤ 8) : ∀ (m k : Nat), a.1.length < m + k → k ≤ a.1.length → l_WindowPassed_L1 F lv a b (fun _ => some true) m k = some true
 | 0, k, h1, h2 => absurd h1 (by omega)
 | m + 1, k, h1, h2 => by
  rw [l_WindowPassed_L1]
  by_cases hk : k < a.1.length
  ·obtain ⟨x, e1, e2⟩ := listed_has (F := F) (l := lv) (v := a.1[k]) (by omega) (by omega)
   obtain ⟨y, e3, e4⟩ := listed_has (F := F) (l := b.1) (v := a.1[k]) (by omega) (by omega)
   rw [if_pos (by omega), ixO_nat hk, Option.bind_some, e1, Option.bind_some, e3, Option.bind_some, W_succ (by omega), passed_L1 hF hlv hb h ha m (k + 1) (by omega) (by omega)]
   by_cases hx : x < 0
   ·have hn := h a.1[k] (List.getElem_mem hk) (by rw [← e2]; simp; omega)
    rw [← e4] at hn
    have hy : ¬ 0 ≤ y := by simpa using hn
    rw [if_pos hx, if_neg hy]
   ·rw [if_neg hx]
  ·rw [if_neg (by omega)]
theorem passed_L2 (h : PlanF F p) (hn : NightF F n) (K' : List Int → Int → Option Bool) (ha : askedE p s ⟨n.sky_Kinds, n.sky_Wind⟩ = 0) (h16 : n.turns.length ≤ 16) (h0 : (playS p ⟨n.sky_Kinds, n.sky_Wind⟩ (deskB p s) n.turns).2 = 0) (ho : (playS p ⟨n.sky_Kinds, n.sky_Wind⟩ (deskB p s) n.turns).1.over = false) : ∀ (m k : Nat), n.turns.length < m + k → k ≤ n.turns.length →
  l_WindowPassed_L2 F p s n (fun lv x _ => K' lv x) m (deskAt p ⟨n.sky_Kinds, n.sky_Wind⟩ (deskB p s) n.turns k).done (deskAt p ⟨n.sky_Kinds, n.sky_Wind⟩ (deskB p s) n.turns k).minute k = K' (playS p ⟨n.sky_Kinds, n.sky_Wind⟩ (deskB p s) n.turns).1.done (playS p ⟨n.sky_Kinds, n.sky_Wind⟩ (deskB p s) n.turns).1.minute
 | 0, k, h1, h2 => absurd h1 (by omega)
 | m + 1, k, h1, h2 => by
  have ht := hn.t
  rw [l_WindowPassed_L2]
  by_cases hk : k < n.turns.length
  ·obtain ⟨s1, s2⟩ := desk_step h0 hk
   have hov : (deskAt p ⟨n.sky_Kinds, n.sky_Wind⟩ (deskB p s) n.turns (k + 1)).over = false := over_at h0 ho (by omega)
   rw [s2] at hov
   obtain ⟨_, _, _, _, c4, _, _, _, c8, _⟩ := act_calm s1 hov
   have hpl := played_take (s := s) h hn.k ha h16 h0 k
   have hdone : (deskAt p ⟨n.sky_Kinds, n.sky_Wind⟩ (deskB p s) n.turns k).done.length < 100000 := by
    have := (desk_ok_at h hn.k ha h0 (k := k) (by omega)).n
    omega
   rw [if_pos (by omega), cut_nat (by omega), Option.bind_some, Turns_eq h hn.k (by rw [List.length_take]; omega), Option.bind_some, ixO_nat hk]
   unfold turnsO
   rw [hpl.1, if_pos hpl.2]
   dsimp only
   have ih := passed_L2 h hn K' ha h16 h0 ho m (k + 1) (by omega) (by omega)
   rw [s2, c4, c8] at ih
   simp only [if_true, app_one hdone, Option.bind_some, W_succ (show k < 9223372036854775807 by omega)]
   rw [show (playS p ⟨n.sky_Kinds, n.sky_Wind⟩ (deskB p s) (n.turns.take k)).1 = deskAt p ⟨n.sky_Kinds, n.sky_Wind⟩ (deskB p s) n.turns k from rfl]
   cases hr : recvO p ⟨n.sky_Kinds, n.sky_Wind⟩ (deskAt p ⟨n.sky_Kinds, n.sky_Wind⟩ (deskB p s) n.turns k) with
   | none => exact ih
   | some l =>
    simp only [optE]
    rw [if_neg (recvO_drop hr).1]
    exact ih
  ·have : k = n.turns.length := by omega
   subst this
   rw [if_neg (by omega), deskAt_end]
theorem passed_any (h : PlanF F p) (hn : NightF F n) (hA : l_Awake 100 = some true) : l_WindowPassed F p s n = some true := by
 have hF := h.h; have ht := hn.t
 unfold l_WindowPassed
 rw [Play_eq h hn, Option.bind_some, hA]
 by_cases h0 : (playR p s n).2.2 = 0
 ·rw [if_pos h0]
  by_cases h1 : 0 ≤ (playR p s n).2.1.team
  ·rw [if_pos h1]; rfl
  rw [if_neg h1]
  obtain ⟨p1, p2, p3⟩ := playR_ok h0
  obtain ⟨q1, q2, q3, q4⟩ := played_ok h hn.k p1
  obtain ⟨ho, hx⟩ := askedE_ok q1
  have hnx := ho.n
  rw [if_neg (show ¬ s.next < 0 by omega), if_neg (show ¬ (p.windows.length : Int) ≤ s.next by omega), if_neg (show ¬ 16 < (n.turns.length : Int) by omega), winAt_ix hnx.1 hx, Option.bind_some]
  rw [p3] at h1
  rw [q3] at p1 p2 q4 h1
  have hov := not_over p1 (show (playS p ⟨n.sky_Kinds, n.sky_Wind⟩ (deskB p s) n.turns).1.use_Team < 0 by simpa using h1)
  have hcalm := calm_at p1 rfl (Nat.le_refl _) (by rw [deskAt_end]; exact hov)
  rw [deskAt_end] at hcalm
  have hmin := minute_at h hn.k q1 p1 (k := n.turns.length) (Nat.le_refl _) (by rw [deskAt_end]; exact hov)
  rw [deskAt_end] at hmin
  have e2 := passed_L2 (s := s) h hn (fun lv x => Option.bind (window_Rights F p s ⟨n.sky_Kinds, n.sky_Wind⟩ (winAt p s.next).from_) fun rv8 => Option.bind (window_Rights F p s ⟨n.sky_Kinds, n.sky_Wind⟩ x) fun rv9 => if rv8.2 = 0 then (if rv9.2 = 0 then (l_WindowPassed_L1 F lv rv8 rv9 (fun _ => Option.bind (some true) fun rv12 => some rv12) F 0) else (some false)) else (some false)) q1 q2 p1 hov F 0 (by omega) (by omega)
  refine Eq.trans e2 ?_
  have hw := ho.po.win hnx.1 hx
  have hwf := hw.f
  have a1 : askedE p s ⟨n.sky_Kinds, n.sky_Wind⟩ = 0 := q1
  have r1 : rightsR p s ⟨n.sky_Kinds, n.sky_Wind⟩ (winAt p s.next).from_ = (rightsS p s ⟨n.sky_Kinds, n.sky_Wind⟩ (winAt p s.next).from_ [], 0) := rightsR_in a1 (by omega)
  have r2 : rightsR p s ⟨n.sky_Kinds, n.sky_Wind⟩ (playS p ⟨n.sky_Kinds, n.sky_Wind⟩ (deskB p s) n.turns).1.minute = (rightsS p s ⟨n.sky_Kinds, n.sky_Wind⟩ (playS p ⟨n.sky_Kinds, n.sky_Wind⟩ (deskB p s) n.turns).1.minute [], 0) := rightsR_in a1 hmin
  rw [Rights_eq h hn.k, Option.bind_some, Rights_eq h hn.k, Option.bind_some, r1, r2, if_pos rfl, if_pos rfl]
  have h8 := ho.po.t
  have hdl := q4.n
  refine passed_L1 hF (by omega) (Nat.le_trans rightsS_len (by omega)) (fun v _ hd => ?_) (Nat.le_trans rightsS_len (by omega)) F 0 (Nat.lt_of_le_of_lt rightsS_len (by omega)) (by omega)
  cases hv : hasP (rightsS p s ⟨n.sky_Kinds, n.sky_Wind⟩ (playS p ⟨n.sky_Kinds, n.sky_Wind⟩ (deskB p s) n.turns).1.minute []) v with
  | false => rfl
  | true =>
   exfalso
   obtain ⟨k, rfl, hk, hc⟩ := rightsS_mem.1 (hasP_iff.1 hv)
   have hwhy : whyS p s ⟨n.sky_Kinds, n.sky_Wind⟩ (playS p ⟨n.sky_Kinds, n.sky_Wind⟩ (deskB p s) n.turns).1.minute k = 0 := by simpa [canS, hasP] using hc
   have hwhy2 := whyS_calm (p := p) (sky := ⟨n.sky_Kinds, n.sky_Wind⟩) hcalm (playS p ⟨n.sky_Kinds, n.sky_Wind⟩ (deskB p s) n.turns).1.minute k
   rw [show stD (deskB p s) = s from rfl, hwhy] at hwhy2
   have hin : (k : Int) ∈ rightsS p (stD (playS p ⟨n.sky_Kinds, n.sky_Wind⟩ (deskB p s) n.turns).1) ⟨n.sky_Kinds, n.sky_Wind⟩ (playS p ⟨n.sky_Kinds, n.sky_Wind⟩ (deskB p s) n.turns).1.minute (playS p ⟨n.sky_Kinds, n.sky_Wind⟩ (deskB p s) n.turns).1.done := rightsS_mem.2 ⟨k, rfl, hk, by unfold canS; rw [hd, hwhy2]; rfl⟩
   unfold turnS at p2
   rw [if_neg (show ¬ (playS p ⟨n.sky_Kinds, n.sky_Wind⟩ (deskB p s) n.turns).1.over = true by rw [hov]; simp)] at p2
   by_cases hg : 0 ≤ (playS p ⟨n.sky_Kinds, n.sky_Wind⟩ (deskB p s) n.turns).1.given
   ·rw [if_pos hg] at p2; omega
   ·rw [if_neg hg] at p2
    cases hR : rightsS p (stD (playS p ⟨n.sky_Kinds, n.sky_Wind⟩ (deskB p s) n.turns).1) ⟨n.sky_Kinds, n.sky_Wind⟩ (playS p ⟨n.sky_Kinds, n.sky_Wind⟩ (deskB p s) n.turns).1.minute (playS p ⟨n.sky_Kinds, n.sky_Wind⟩ (deskB p s) n.turns).1.done with
    | nil => rw [hR] at hin; cases hin
    | cons t l =>
     rw [hR] at p2
     have : t ∈ rightsS p (stD (playS p ⟨n.sky_Kinds, n.sky_Wind⟩ (deskB p s) n.turns).1) ⟨n.sky_Kinds, n.sky_Wind⟩ (playS p ⟨n.sky_Kinds, n.sky_Wind⟩ (deskB p s) n.turns).1.minute (playS p ⟨n.sky_Kinds, n.sky_Wind⟩ (deskB p s) n.turns).1.done := by rw [hR]; simp
     obtain ⟨j, rfl, _, _⟩ := rightsS_mem.1 this
     have p2' : (j : Int) < 0 := p2
     omega
 ·rw [if_neg h0]
  rfl
end
end Go.Proofs.Ytdefnmcjmklohaa
