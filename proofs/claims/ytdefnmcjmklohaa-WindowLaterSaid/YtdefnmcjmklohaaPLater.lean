/- The plain part of the statement about Why, Rights, and later minutes. -/
import Derived.Test.YtdefnmcjmklohaaPList
open Go Go.Proofs.Ytdefnmcjmklohaa.Sh Go.Proofs
namespace Go.Proofs.Ytdefnmcjmklohaa
set_option linter.unusedVariables false
set_option linter.unusedSimpArgs false
theorem whyP_mono {e : WiTeam} {u la : Int} {w : WiWindow} {ks : List Int} {wi m m' : Int} (hm : m ≤ m') (h : whyP e u la w ks wi m' = 0) : whyP e u la w ks wi m = 0 := by
 unfold whyP at h ⊢
 split at h
 ·cases h
 rename_i h1
 rw [if_neg h1]
 split at h
 ·cases h
 rename_i h2
 rw [if_neg h2]
 split at h
 ·cases h
 rename_i h3
 rw [if_neg h3]
 split at h
 ·cases h
 rename_i h4
 rw [if_neg h4]
 split at h
 ·cases h
 rename_i h5
 rw [if_neg h5]
 split at h
 ·cases h
 rw [if_neg (by omega)]
theorem rightsS_has {p : WiPlan} {s : WiState} {sky : WiSky} {m : Int} {k : Nat} (hk : k < p.teams.length) : hasP (rightsS p s sky m []) (k : Int) = decide (whyS p s sky m k = 0) := by
 rw [Bool.eq_iff_iff, hasP_iff, rightsS_mem, decide_eq_true_iff]
 constructor
 ·rintro ⟨j, h1, h2, h3⟩
  obtain rfl : k = j := by omega
  simpa [canS, hasP] using h3
 ·intro h
  exact ⟨k, rfl, hk, by simpa [canS, hasP] using h⟩
theorem later_L1 {F : Nat} {p : WiPlan} {o : Moment} {l m : List Int × Int} (h : PlanF F p) (hs : SkyF F o.sky_Kinds) (hn : p.teams.length ≤ 8) (hl : l.1.length ≤ 8) (hm : m.1.length ≤ 8)
  (h1 : ∀ k, k < p.teams.length → (whyR p (WiState.mk o.state_Used o.state_Credit o.state_Last o.state_Next) (WiSky.mk o.sky_Kinds o.sky_Wind) k o.minute).2 = 0)
  (h2 : ∀ k, k < p.teams.length → hasP l.1 k = decide ((whyR p (WiState.mk o.state_Used o.state_Credit o.state_Last o.state_Next) (WiSky.mk o.sky_Kinds o.sky_Wind) k o.minute).1 = 0))
  (h3 : m.2 = 0 → ∀ k, k < p.teams.length → hasP m.1 k = true → hasP l.1 k = true) : ∀ n k : Nat, p.teams.length < n + k → k ≤ p.teams.length → l_WindowLater_L1 F p o l m (fun _ => some true) n k = some true
 | 0, k, h4, h5 => absurd h4 (by omega)
 | n + 1, k, h4, h5 => by
  have hF := h.h
  rw [l_WindowLater_L1]
  by_cases hk : k < p.teams.length
  ·have ih := later_L1 h hs hn hl hm h1 h2 h3 n (k + 1) (by omega) (by omega)
   obtain ⟨x, e1, e2⟩ := listed_has (F := F) (l := l.1) (v := k) (by omega) (by omega)
   obtain ⟨y, e3, e4⟩ := listed_has (F := F) (l := m.1) (v := k) (by omega) (by omega)
   have h2k := h2 k hk
   rw [if_pos (by omega), Why_eq h hs, Option.bind_some, if_pos (h1 k hk), e1, Option.bind_some, e2, ← h2k, if_neg (by simp), e3, Option.bind_some, W_succ (by omega), ih]
   by_cases hm2 : m.2 = 0
   ·rw [if_pos hm2]
    by_cases hy : 0 ≤ y
    ·have : hasP l.1 k = true := h3 hm2 k hk (by rw [← e4]; simp [hy])
     rw [h2k] at this
     rw [if_pos hy, if_pos (by simpa using this)]
    ·rw [if_neg hy]
   ·rw [if_neg hm2]
  ·rw [if_neg (by omega)]
theorem later_any {F : Nat} {p : WiPlan} {o : Moment} {a : Int} (h : PlanF F p) (hs : SkyF F o.sky_Kinds) (hw : 0 ≤ a ∧ a ≤ 255) (ha : l_Awake 100 = some true) : l_WindowLater F p o a = some true := by
 have := h.t; have := h.b; have hF := h.h
 unfold l_WindowLater
 rw [Rights_eq h hs, Option.bind_some, ha]
 generalize hst : WiState.mk o.state_Used o.state_Credit o.state_Last o.state_Next = s
 generalize hsk : WiSky.mk o.sky_Kinds o.sky_Wind = sky
 have hs' : SkyF F sky.kinds := by rw [← hsk]; exact hs
 by_cases h0 : (rightsR p s sky o.minute).2 = 0
 ·by_cases h8 : 8 < (p.teams.length : Int)
  ·simp [h0, h8]
  ·rw [if_pos h0, if_neg h8, Rights_eq h hs', Option.bind_some]
   have h0' := h0
   unfold rightsR at h0
   by_cases c1 : askedE p s sky ≠ 0
   ·rw [if_pos c1] at h0; exact absurd h0 c1
   rw [if_neg c1] at h0
   cases c2 : outP o.minute (winAt p s.next).from_ (winAt p s.next).until_ with
   | true => rw [c2] at h0; cases h0
   | false =>
    have hb := askAt h hs' (by omega) c2
    have hmin := hb.m
    have e0 : rightsR p s sky o.minute = (rightsS p s sky o.minute [], 0) := by unfold rightsR; rw [if_neg c1, c2]; rfl
    have hW : W (o.minute + W a) = o.minute + a := by rw [W_id (x := a), W_id]
    rw [hW, e0]
    have ew : ∀ k : Nat, k < p.teams.length → whyR p s sky k o.minute = (whyS p s sky o.minute k, 0) := fun k hk => by
     have : outP (k : Int) 0 ((p.teams.length : Int) - 1) = false := by simp [outP]; omega
     unfold whyR
     rw [if_neg c1, this, c2]
     rfl
    have e1 := later_L1 (F := F) (p := p) (o := o) (l := (rightsS p s sky o.minute [], 0)) (m := rightsR p s sky (o.minute + a)) h hs (by omega) (Nat.le_trans rightsS_len (by omega)) (by
      unfold rightsR
      split
      ·simp
      split
      ·simp
      ·exact Nat.le_trans rightsS_len (by omega))
     (fun k hk => by rw [hst, hsk, ew k hk])
     (fun k hk => by rw [hst, hsk, ew k hk]; exact rightsS_has hk)
     (fun hm k hk hh => by
      unfold rightsR at hm hh
      rw [if_neg c1] at hm hh
      cases c3 : outP (o.minute + a) (winAt p s.next).from_ (winAt p s.next).until_ with
      | true => rw [c3] at hm; cases hm
      | false =>
       rw [c3] at hh
       simp only [Bool.false_eq_true, if_false] at hh
       rw [rightsS_has hk, decide_eq_true_iff] at hh ⊢
       exact whyP_mono (by omega) hh) F 0 (by omega) (by omega)
    exact e1
 ·simp [h0]
end Go.Proofs.Ytdefnmcjmklohaa
