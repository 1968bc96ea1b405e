/- The plain part of the statement about Why and Rights. -/
import Derived.Test.YtdefnmcjmklohaaP6
open Go Go.Proofs.Ytdefnmcjmklohaa.Sh Go.Proofs
namespace Go.Proofs.Ytdefnmcjmklohaa
set_option linter.unusedVariables false
set_option linter.unusedSimpArgs false
theorem rightsR_len (p : WiPlan) (s : WiState) (sky : WiSky) (m : Int) : (rightsR p s sky m).1.length ≤ p.teams.length := by
 unfold rightsR
 split
 ·simp
 split
 ·simp
 ·exact rightsS_len
theorem rights_any {F : Nat} {p : WiPlan} {o : Moment} (h : PlanF F p) (hs : SkyF F o.sky_Kinds) (ha : l_Awake 100 = some true) : l_WindowRights F p o = some true := by
 have := h.t; have := h.b
 have hl := rightsR_len p (WiState.mk o.state_Used o.state_Credit o.state_Last o.state_Next) (WiSky.mk o.sky_Kinds o.sky_Wind) o.minute
 unfold l_WindowRights
 rw [Why_eq h hs, r_Why_eq h hs, Rights_eq h hs, r_Rights_eq h hs]
 simp only [Option.bind_some, if_true]
 rw [r_Ints_eq (by omega) (by omega)]
 simp [ha]
end Go.Proofs.Ytdefnmcjmklohaa
