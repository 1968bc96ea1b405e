/- The plain part of window.Season. -/
import Derived.Test.YtdefnmcjmklohaaPPlays
open Go Go.Proofs.Ytdefnmcjmklohaa.Sh Go.Proofs
namespace Go.Proofs.Ytdefnmcjmklohaa
set_option linter.unusedVariables false
set_option linter.unusedSimpArgs false
structure NightsF (F : Nat) (l : List WiNight) : Prop where
 n : ∀ x ∈ l, NightF F x
 l : l.length < F ∧ l.length < 9223372036854775808
section
variable {F : Nat} {p : WiPlan} {nights : List WiNight}
theorem playR_ok {s : WiState} {n : WiNight} (h0 : (playR p s n).2.2 = 0) : (playedS p s ⟨n.sky_Kinds, n.sky_Wind⟩ n.turns).2 = 0 ∧ turnS p ⟨n.sky_Kinds, n.sky_Wind⟩ (playedS p s ⟨n.sky_Kinds, n.sky_Wind⟩ n.turns).1 < 0 ∧ playR p s n = (⟨(playedS p s ⟨n.sky_Kinds, n.sky_Wind⟩ n.turns).1.s_Used, (playedS p s ⟨n.sky_Kinds, n.sky_Wind⟩ n.turns).1.s_Credit, (playedS p s ⟨n.sky_Kinds, n.sky_Wind⟩ n.turns).1.s_Last, (playedS p s ⟨n.sky_Kinds, n.sky_Wind⟩ n.turns).1.s_Next + 1⟩, ⟨(playedS p s ⟨n.sky_Kinds, n.sky_Wind⟩ n.turns).1.use_Window, (playedS p s ⟨n.sky_Kinds, n.sky_Wind⟩ n.turns).1.use_Team, (playedS p s ⟨n.sky_Kinds, n.sky_Wind⟩ n.turns).1.use_At, (playedS p s ⟨n.sky_Kinds, n.sky_Wind⟩ n.turns).1.use_By⟩, 0) := by
 unfold playR at h0 ⊢
 dsimp only at h0 ⊢
 by_cases ha : (playedS p s ⟨n.sky_Kinds, n.sky_Wind⟩ n.turns).2 = 0
 ·rw [if_pos ha] at h0 ⊢
  by_cases h1 : 0 ≤ turnS p ⟨n.sky_Kinds, n.sky_Wind⟩ (playedS p s ⟨n.sky_Kinds, n.sky_Wind⟩ n.turns).1
  ·rw [if_pos h1] at h0; cases h0
  ·rw [if_neg h1]
   exact ⟨ha, by omega, rfl⟩
 ·rw [if_neg ha] at h0; exact absurd h0 ha
theorem actS_next (sky : WiSky) (d : Desk) (x : WiTurn) (_ : (actS p sky d x).2 = 0) : (actS p sky d x).1.s_Next = d.s_Next := by
 unfold actS
 (repeat' split) <;> rfl
theorem playS_next (sky : WiSky) : ∀ (l : List WiTurn) (d : Desk), (playS p sky d l).2 = 0 → (playS p sky d l).1.s_Next = d.s_Next
 | [], d, _ => rfl
 | x :: l, d, h => by
  rw [playS] at h ⊢
  by_cases h1 : (actS p sky d x).2 = 0
  ·rw [if_pos h1] at h ⊢
   rw [playS_next sky l _ h, actS_next sky d x h1]
  ·rw [if_neg h1] at h; exact absurd h h1
end
end Go.Proofs.Ytdefnmcjmklohaa
