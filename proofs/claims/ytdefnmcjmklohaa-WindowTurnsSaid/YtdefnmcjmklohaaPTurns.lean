/- The plain part of the statement about Turns. -/
import Derived.Test.YtdefnmcjmklohaaP12
open Go Go.Proofs.Ytdefnmcjmklohaa.Sh Go.Proofs
namespace Go.Proofs.Ytdefnmcjmklohaa
set_option linter.unusedVariables false
set_option linter.unusedSimpArgs false
theorem turns_any {F : Nat} {p : WiPlan} {s : WiState} {n : WiNight} (h : PlanF F p) (hn : NightF F n) (ha : l_Awake 100 = some true) : l_WindowTurns F p s n = some true := by
 have hF := h.h
 unfold l_WindowTurns
 rw [Turns_eq (sky := ⟨n.sky_Kinds, n.sky_Wind⟩) h hn.k hn.t, r_Turns_eq (sky := ⟨n.sky_Kinds, n.sky_Wind⟩) h hn.k hn.t, Option.bind_some]
 unfold turnsO turnsR
 by_cases h0 : (playedS p s ⟨n.sky_Kinds, n.sky_Wind⟩ n.turns).2 = 0
 ·rw [if_pos h0, if_pos h0]
  have hlen : (recvS p ⟨n.sky_Kinds, n.sky_Wind⟩ (playedS p s ⟨n.sky_Kinds, n.sky_Wind⟩ n.turns).1).length ≤ p.teams.length := by
   unfold recvS
   split
   ·simp
   split
   ·simp
   ·exact rightsS_len
  have := h.t; have := h.b
  cases hr : recvO p ⟨n.sky_Kinds, n.sky_Wind⟩ (playedS p s ⟨n.sky_Kinds, n.sky_Wind⟩ n.turns).1 with
  | none =>
   rw [recvO_none hr]
   simp only [optE, Option.bind_some, if_true]
   rw [r_Ints_eq (by simp) (by simp; omega)]
   simp [ha]
  | some t =>
   obtain ⟨h1, h2⟩ := recvO_drop hr
   simp only [optE, Option.bind_some, if_true]
   rw [if_neg h1, h2, r_Ints_eq (by omega) (by omega)]
   simp [ha]
 ·rw [if_neg h0, if_neg h0]
  simp only [optE, Option.bind_some, if_true]
  rw [r_Ints_eq (by simp) (by simp; omega)]
  simp [ha]
end Go.Proofs.Ytdefnmcjmklohaa
