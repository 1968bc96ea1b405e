/- The plain part of window.Turns and window.Play. -/
import Derived.Test.YtdefnmcjmklohaaP11
open Go Go.Proofs.Ytdefnmcjmklohaa.Sh Go.Proofs
namespace Go.Proofs.Ytdefnmcjmklohaa
set_option linter.unusedVariables false
set_option linter.unusedSimpArgs false
def deskB (p : WiPlan) (s : WiState) : Desk := Desk.mk s.used s.credit s.last s.next (winAt p s.next).from_ [] (-1) (-1) false s.next (-1) 0 (-1)
def playedS (p : WiPlan) (s : WiState) (sky : WiSky) (turns : List WiTurn) : Desk × Int :=
 if askedE p s sky ≠ 0 then (deskZ, askedE p s sky) else if 16 < (turns.length : Int) then (deskZ, 3) else playS p sky (deskB p s) turns
section
variable {F : Nat} {p : WiPlan} {s : WiState} {sky : WiSky} {turns : List WiTurn}
theorem desk_ok (h : PlanF F p) (hs : SkyF F sky.kinds) (h0 : askedE p s sky = 0) : DeskOk F p sky (deskB p s) 0 := by
 obtain ⟨ho, hn⟩ := askedE_ok h0
 have hw := ho.po.win ho.n.1 hn
 have := hw.f; have := hw.u
 refine ⟨⟨h, ho.toStW, hn, hs, by show 0 ≤ (winAt p s.next).from_ ∧ (winAt p s.next).from_ ≤ 1440; omega⟩, by show (-1 : Int) ≤ -1 ∧ (-1 : Int) < _; omega, fun _ => rfl, fun _ => rfl, rfl, Nat.le_refl _, fun k hk => ?_, fun k hk => ?_⟩
 ·have := ho.us k hk; exact ⟨this.1, by show s.used.getD k 0 ≤ _; omega⟩
 ·have := ho.cs k hk; exact ⟨by show _ ≤ s.credit.getD k 0; omega, by show s.credit.getD k 0 ≤ _; omega⟩
theorem play_eq (h : PlanF F p) (hs : SkyF F sky.kinds) (ht : turns.length < F) : PlayR p sky (playedS p s sky turns) (window_play F p s sky turns) := by
 unfold window_play playedS
 rw [begin_eq h hs, Option.bind_some]
 by_cases h0 : askedE p s sky = 0
 ·rw [if_pos h0, if_neg (show ¬ askedE p s sky ≠ 0 from fun e => e h0)]
  by_cases h16 : 16 < (turns.length : Int)
  ·rw [if_pos h16]
   unfold PlayR
   rw [if_neg (show ¬ ((deskZ, (3 : Int)).2 = 0) by simp)]
   simp [optE, h16]
  ·rw [if_neg h16]
   have e1 := play_L2 (F := F) (p := p) (sky := sky) (turns := turns) (by omega) F 0 (deskB p s) [] (by omega) (by omega) (desk_ok h hs h0) (fun k => rfl)
   rw [List.drop_zero] at e1
   simp only [optE, if_true, if_neg h16]
   exact e1
 ·rw [if_neg h0, if_pos (show askedE p s sky ≠ 0 from h0)]
  unfold PlayR
  rw [if_neg (show ¬ ((deskZ, askedE p s sky).2 = 0) from h0)]
  simp [optE, h0]
theorem played_ok (h : PlanF F p) (hs : SkyF F sky.kinds) (h0 : (playedS p s sky turns).2 = 0) : askedE p s sky = 0 ∧ turns.length ≤ 16 ∧ playedS p s sky turns = playS p sky (deskB p s) turns ∧ DeskOk F p sky (playedS p s sky turns).1 (0 + turns.length) := by
 unfold playedS at h0 ⊢
 by_cases ha : askedE p s sky = 0
 ·rw [if_neg (show ¬ askedE p s sky ≠ 0 from fun e => e ha)] at h0 ⊢
  by_cases h16 : 16 < (turns.length : Int)
  ·rw [if_pos h16] at h0; cases h0
  ·rw [if_neg h16] at h0 ⊢
   exact ⟨ha, by omega, rfl, playS_ok (desk_ok h hs ha) h0⟩
 ·rw [if_pos (show askedE p s sky ≠ 0 from ha)] at h0
  exact absurd h0 ha
/-! ### Turns -/
/-! ### Play -/
def playR (p : WiPlan) (s : WiState) (n : WiNight) : WiState × WiUse × Int :=
 let r := playedS p s ⟨n.sky_Kinds, n.sky_Wind⟩ n.turns
 if r.2 = 0 then (if 0 ≤ turnS p ⟨n.sky_Kinds, n.sky_Wind⟩ r.1 then (emptyS, ⟨0, 0, 0, 0⟩, 2) else (⟨r.1.s_Used, r.1.s_Credit, r.1.s_Last, r.1.s_Next + 1⟩, ⟨r.1.use_Window, r.1.use_Team, r.1.use_At, r.1.use_By⟩, 0)) else (emptyS, ⟨0, 0, 0, 0⟩, r.2)
structure NightF (F : Nat) (n : WiNight) : Prop where
 k : SkyF F n.sky_Kinds
 t : n.turns.length < F
theorem wNext {d : Desk} {c : Nat} (h : DeskOk F p sky d c) : W (d.s_Next + 1) = d.s_Next + 1 := by
 have h1 := h.a.o.n
 have h2 := h.a.o.po.w
 have h1' : 0 ≤ d.s_Next ∧ d.s_Next ≤ p.windows.length := h1
 rw [W_id]
theorem Play_eq {n : WiNight} (h : PlanF F p) (hn : NightF F n) : window_Play F p s n = some (playR p s n) := by
 have hp := play_eq (s := s) (sky := ⟨n.sky_Kinds, n.sky_Wind⟩) h hn.k hn.t
 unfold PlayR at hp
 unfold window_Play playR
 dsimp only
 by_cases h0 : (playedS p s ⟨n.sky_Kinds, n.sky_Wind⟩ n.turns).2 = 0
 ·rw [if_pos h0] at hp
  obtain ⟨dm, hd, e⟩ := hp
  obtain ⟨_, h16, _, hok⟩ := played_ok h hn.k h0
  rw [e, Option.bind_some, if_pos h0]
  simp only [optE, if_true]
  rw [turn_eq hok hd, Option.bind_some]
  split
  ·rfl
  ·have hw := wNext hok
   simp only [tabD]
   rw [hw]
 ·rw [if_neg h0] at hp
  rw [hp, Option.bind_some, if_neg h0]
  simp only [optE, if_neg h0]
  rfl
end
end Go.Proofs.Ytdefnmcjmklohaa
