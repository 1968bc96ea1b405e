/- The plain part of the statement about Play. -/
import Derived.Test.YtdefnmcjmklohaaGreatP12
open Go Go.Proofs.YtdefnmcjmklohaaGreat.Sh Go.Proofs
namespace Go.Proofs.YtdefnmcjmklohaaGreat
set_option linter.unusedVariables false
set_option linter.unusedSimpArgs false
theorem beq_use (x : WiUse) : WiUse.beq x x = true := by simp [WiUse.beq]
theorem playR_F {F : Nat} {p : WiPlan} {s : WiState} {n : WiNight} (h : PlanF F p) (hn : NightF F n) : StateF F (playR p s n).1 := by
 have hF := h.h
 have hz : StateF F emptyS := ⟨by simp [emptyS], by simp [emptyS]; omega, by simp [emptyS]; omega, by simp [emptyS]; omega⟩
 unfold playR
 dsimp only
 split
 ·rename_i h0
  split
  ·exact hz
  ·obtain ⟨_, _, _, hd⟩ := played_ok h hn.k h0
   have h1 := hd.a.o.u; have h2 := hd.a.o.c; have h3 := hd.a.o.l; have h4 := h.t; have h5 := h.b
   simp only [stD] at h1 h2 h3
   exact ⟨by dsimp only; omega, by dsimp only; omega, by dsimp only; omega, by dsimp only; omega⟩
 ·exact hz
end Go.Proofs.YtdefnmcjmklohaaGreat
