/- The plain part of window.Why and window.Rights. -/
import Derived.Test.YtdefnmcjmklohaaP5
open Go Go.Proofs.Ytdefnmcjmklohaa.Sh Go.Proofs
namespace Go.Proofs.Ytdefnmcjmklohaa
set_option linter.unusedVariables false
set_option linter.unusedSimpArgs false
def whyS (p : WiPlan) (s : WiState) (sky : WiSky) (minute : Int) (k : Nat) : Int := whyP (p.teams.getD k default) (s.used.getD k 0) (s.last.getD k 0) (winAt p s.next) sky.kinds sky.wind minute
theorem PlanOk.win {p : WiPlan} (h : PlanOk p) {i : Int} (h1 : 0 ≤ i) (h2 : i < p.windows.length) : WinOk (winAt p i) := by
 obtain ⟨k, rfl⟩ := Int.eq_ofNat_of_zero_le h1
 unfold winAt
 rw [Int.toNat_natCast, getD_of _ (by omega)]
 exact h.ws _ (List.getElem_mem _)
/-- What is asked of the document. -/
structure Ask (F : Nat) (p : WiPlan) (s : WiState) (sky : WiSky) (m : Int) : Prop where
 f : PlanF F p
 o : StW p s
 n : s.next < p.windows.length
 k : SkyF F sky.kinds
 m : 0 ≤ m ∧ m ≤ 1440
def firstS (p : WiPlan) (s : WiState) : Int → Int → Bool := firstL p.teams s.used s.credit s.last
def canS (p : WiPlan) (s : WiState) (sky : WiSky) (m : Int) (done : List Int) (k : Nat) : Bool := !hasP done k && decide (whyS p s sky m k = 0)
def rightsS (p : WiPlan) (s : WiState) (sky : WiSky) (m : Int) (done : List Int) : List Int := sortP (firstS p s) (pickFrom (canS p s sky m done) p.teams.length 0)
/-! ### at, Why, Rights -/
theorem rightsT_S {p : WiPlan} {s : WiState} {sky : WiSky} {m : Int} {t : Table} {done : List Int} (h1 : t.p_Teams = p.teams) (h2 : t.s_Used = s.used) (h3 : t.s_Credit = s.credit) (h4 : t.s_Last = s.last) (h5 : t.w = winAt p s.next) (h6 : t.sky_Kinds = sky.kinds) (h7 : t.sky_Wind = sky.wind) (h8 : t.minute = m) (h9 : ∀ k, doneT t k = hasP done k) : rightsT t = rightsS p s sky m done := by
 have hc : canT t = canS p s sky m done := by
  funext k
  unfold canT canS whyT whyS
  rw [h9, h1, h2, h4, h5, h6, h7, h8]
 unfold rightsT rightsS firstT firstS
 rw [hc, h1, h2, h3, h4]
theorem rightsS_len {p : WiPlan} {s : WiState} {sky : WiSky} {m : Int} {done : List Int} : (rightsS p s sky m done).length ≤ p.teams.length := by
 rw [rightsS, sortP_len]
 exact pick_len _ _ _
theorem rightsS_mem {p : WiPlan} {s : WiState} {sky : WiSky} {m : Int} {done : List Int} {v : Int} : v ∈ rightsS p s sky m done ↔ ∃ k : Nat, v = k ∧ k < p.teams.length ∧ canS p s sky m done k = true := by
 rw [rightsS, sortP_mem, pick_mem]
 constructor
 ·rintro ⟨j, h1, _, h2, h3⟩; exact ⟨j, h1, by omega, h3⟩
 ·rintro ⟨j, h1, h2, h3⟩; exact ⟨j, h1, by omega, by omega, h3⟩
end Go.Proofs.Ytdefnmcjmklohaa
