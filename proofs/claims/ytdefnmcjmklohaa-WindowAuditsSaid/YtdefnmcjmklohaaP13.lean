/- The plain part of window.Season. -/
import Derived.Test.YtdefnmcjmklohaaPPlays
open Go Go.Proofs.Ytdefnmcjmklohaa.Sh Go.Proofs
namespace Go.Proofs.Ytdefnmcjmklohaa
set_option linter.unusedVariables false
set_option linter.unusedSimpArgs false
def seasonL (p : WiPlan) : List WiUse → WiState → List WiNight → List WiUse × WiState × Int
 | us, s, [] => (us, s, 0)
 | us, s, n :: l => if (playR p s n).2.2 = 0 then seasonL p (if 0 ≤ (playR p s n).2.1.team then us ++ [(playR p s n).2.1] else us) (playR p s n).1 l else ([], emptyS, (playR p s n).2.2)
def seasonR (p : WiPlan) (nights : List WiNight) : List WiUse × WiState × Int :=
 if (startR p).2 ≠ 0 then ([], emptyS, (startR p).2) else if (p.windows.length : Int) < nights.length then ([], emptyS, 3) else seasonL p [] (startP p) nights
structure NightsF (F : Nat) (l : List WiNight) : Prop where
 n : ∀ x ∈ l, NightF F x
 l : l.length < F ∧ l.length < 9223372036854775808
section
variable {F : Nat} {p : WiPlan} {nights : List WiNight}
theorem Season_L1 (h : PlanF F p) (hn : NightsF F nights) : ∀ (n k : Nat) (us : List WiUse) (s : WiState), nights.length < n + k → k ≤ nights.length → us.length ≤ k → nights.length ≤ 1000 → window_Season_L1 F p nights (fun us a b c d _ => some (us, WiState.mk a b c d, 0)) n us s.used s.credit s.last s.next k = some (seasonL p us s (nights.drop k))
 | 0, k, us, s, h1, _, _, _ => absurd h1 (by omega)
 | n + 1, k, us, s, h1, h2, h3, h4 => by
  rw [window_Season_L1]
  by_cases hk : k < nights.length
  ·rw [if_pos (by omega), ixO_nat hk, Option.bind_some, Play_eq h (hn.n _ (List.getElem_mem hk)), Option.bind_some, List.drop_eq_getElem_cons hk, seasonL, W_succ (by omega), app_one (by omega), Option.bind_some, Season_L1 h hn n (k + 1) _ (playR p s nights[k]).1 (by omega) (by omega) (by simp; omega) h4, Season_L1 h hn n (k + 1) us (playR p s nights[k]).1 (by omega) (by omega) (by omega) h4]
   by_cases h5 : (playR p s nights[k]).2.2 = 0
   ·rw [if_pos h5, if_pos h5]
    by_cases h6 : 0 ≤ (playR p s nights[k]).2.1.team
    ·rw [if_pos h6, if_pos h6]
    ·rw [if_neg h6, if_neg h6]
   ·rw [if_neg h5, if_neg h5]
    rfl
  ·rw [if_neg (by omega), List.drop_of_length_le (by omega)]
   rfl
theorem startR_ok (h0 : (startR p).2 = 0) : startR p = (startP p, 0) ∧ PlanOk p := by
 unfold startR at h0 ⊢
 by_cases hc : (checkP p).2.2 = 0
 ·rw [if_pos hc]; exact ⟨rfl, checkP_ok hc⟩
 ·rw [if_neg hc] at h0; exact absurd h0 hc
theorem Season_eq (h : PlanF F p) (hn : NightsF F nights) : window_Season F p nights = some (seasonR p nights) := by
 have hl := hn.l
 unfold window_Season seasonR
 rw [window_Start_eq h, Option.bind_some]
 by_cases h0 : (startR p).2 = 0
 ·obtain ⟨e, hp⟩ := startR_ok h0
  have hw := hp.w
  rw [if_pos h0, if_neg (show ¬ (startR p).2 ≠ 0 from fun x => x h0)]
  by_cases h1 : (p.windows.length : Int) < nights.length
  ·rw [if_pos h1, if_pos h1]; rfl
  ·rw [if_neg h1, if_neg h1, e]
   have e1 : window_Season_L1 F p nights (fun us a b c d _ => some (us, WiState.mk a b c d, 0)) F [] (startP p).used (startP p).credit (startP p).last (startP p).next 0 = _ := Season_L1 h hn F 0 [] (startP p) (by omega) (by omega) (by simp) (by omega)
   exact e1
 ·rw [if_neg h0, if_pos (show (startR p).2 ≠ 0 from h0)]
  rfl
theorem seasonR_ok (h0 : (seasonR p nights).2.2 = 0) : PlanOk p ∧ nights.length ≤ p.windows.length ∧ seasonR p nights = seasonL p [] (startP p) nights := by
 unfold seasonR at h0 ⊢
 by_cases ha : (startR p).2 = 0
 ·rw [if_neg (show ¬ (startR p).2 ≠ 0 from fun x => x ha)] at h0 ⊢
  by_cases h1 : (p.windows.length : Int) < nights.length
  ·rw [if_pos h1] at h0; cases h0
  ·rw [if_neg h1] at h0 ⊢
   exact ⟨(startR_ok ha).2, by omega, rfl⟩
 ·rw [if_pos (show (startR p).2 ≠ 0 from ha)] at h0
  exact absurd h0 ha
theorem seasonL_len : ∀ (l : List WiNight) (us : List WiUse) (s : WiState), (seasonL p us s l).1.length ≤ us.length + l.length
 | [], us, s => by simp [seasonL]
 | n :: l, us, s => by
  rw [seasonL, List.length_cons]
  split
  ·refine Nat.le_trans (seasonL_len l _ _) ?_
   split
   ·simp; omega
   ·omega
  ·simp
theorem nightsF_ex {l : List WiNight} (h1 : l.length < 9223372036854775808) (h2 : ∀ x ∈ l, x.sky_Kinds.length < 9223372036854775808) : ∃ F0, ∀ F, F0 ≤ F → NightsF F l := by
 refine ⟨l.length + (l.map fun x => x.sky_Kinds.length + x.turns.length).sum + 1, fun F hF => ⟨fun x hx => ?_, by omega, h1⟩⟩
 have := le_sum (fun x : WiNight => x.sky_Kinds.length + x.turns.length) hx
 exact ⟨⟨by omega, h2 x hx⟩, by omega⟩
end
end Go.Proofs.Ytdefnmcjmklohaa
