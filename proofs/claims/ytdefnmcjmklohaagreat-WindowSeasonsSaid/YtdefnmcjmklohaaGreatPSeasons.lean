/- The plain part of the statement about Season and Audit. -/
import Derived.Test.YtdefnmcjmklohaaGreatP13
open Go Go.Proofs.YtdefnmcjmklohaaGreat.Sh Go.Proofs
namespace Go.Proofs.YtdefnmcjmklohaaGreat
set_option linter.unusedVariables false
set_option linter.unusedSimpArgs false
section
variable {F : Nat} {p : WiPlan} {nights : List WiNight} {uses : List WiUse}
theorem rSeason_L2 (h : PlanF F p) (hn : NightsF F nights) : ∀ (n k : Nat) (us : List WiUse) (s : WiState), nights.length < n + k → k ≤ nights.length → us.length ≤ k → nights.length ≤ 1000 → r_Season_L2 F p nights (fun a e l _ => if e = 0 then some (l, a, 0) else some ([], WiState.mk [] [] [] 0, e)) n s 0 us k = some (seasonL p us s (nights.drop k))
 | 0, k, us, s, h1, _, _, _ => absurd h1 (by omega)
 | n + 1, k, us, s, h1, h2, h3, h4 => by
  rw [r_Season_L2]
  by_cases hk : k < nights.length
  ·rw [if_pos (by omega), if_pos rfl, ixO_nat hk, Option.bind_some, r_Play_eq h (hn.n _ (List.getElem_mem hk)), Option.bind_some, List.drop_eq_getElem_cons hk, seasonL, W_succ (by omega), app_one (by omega), Option.bind_some]
   by_cases h5 : (playR p s nights[k]).2.2 = 0
   ·rw [if_pos h5, if_pos h5, h5, rSeason_L2 h hn n (k + 1) _ (playR p s nights[k]).1 (by omega) (by omega) (by simp; omega) h4, rSeason_L2 h hn n (k + 1) us (playR p s nights[k]).1 (by omega) (by omega) (by omega) h4]
    by_cases h6 : 0 ≤ (playR p s nights[k]).2.1.team
    ·rw [if_pos h6, if_pos h6]
    ·rw [if_neg h6, if_neg h6]
   ·rw [if_neg h5, if_neg h5]
    cases n with
    | zero => omega
    | succ n =>
     rw [r_Season_L2, if_neg h5, if_neg h5]
     split <;> rfl
  ·rw [if_neg (by omega), List.drop_of_length_le (by omega)]
   rfl
theorem r_Season_eq (h : PlanF F p) (hn : NightsF F nights) : r_Season F p nights = some (seasonR p nights) := by
 have hl := hn.l; have hF := h.h
 obtain ⟨m, hm⟩ : ∃ m, F = m + 1 := ⟨F - 1, by omega⟩
 unfold r_Season seasonR
 rw [r_Start_eq h, Option.bind_some]
 by_cases h0 : (startR p).2 = 0
 ·obtain ⟨e, hp⟩ := startR_ok h0
  have hw := hp.w
  rw [if_pos h0, if_neg (show ¬ (startR p).2 ≠ 0 from fun x => x h0)]
  by_cases h1 : (p.windows.length : Int) < nights.length
  ·rw [if_pos h1, if_pos h1]
   have e1 : ∀ K n, r_Season_L1 F p nights K (n + 1) (startR p).1 3 [] 0 = K (startR p).1 3 [] 0 := fun K n => by
    rw [r_Season_L1]
    split
    ·rfl
    ·rfl
   have e2 := e1 (fun a x lv _ => if x = 0 then some (lv, a, 0) else some ([], WiState.mk [] [] [] 0, x)) m
   rw [← hm] at e2
   rw [e2]
   rfl
  ·rw [if_neg h1, if_neg h1, e]
   have e1 : r_Season_L2 F p nights (fun a e l _ => if e = 0 then some (l, a, 0) else some ([], WiState.mk [] [] [] 0, e)) F (startP p) 0 [] 0 = _ := rSeason_L2 h hn F 0 [] (startP p) (by omega) (by omega) (by simp) (by omega)
   exact e1
 ·rw [if_neg h0, if_pos (show (startR p).2 ≠ 0 from h0)]
  have e1 : ∀ K n, r_Season_L3 F p nights K (n + 1) (startR p).1 (startR p).2 [] 0 = K (startR p).1 (startR p).2 [] 0 := fun K n => by
   rw [r_Season_L3]
   split
   ·first | rfl | rw [if_neg h0]
   ·rfl
  have e2 := e1 (fun a x lv _ => if x = 0 then some (lv, a, 0) else some ([], WiState.mk [] [] [] 0, x)) m
  rw [← hm] at e2
  rw [e2, if_neg h0]
  rfl
theorem audit_L1 {rv : List WiUse × WiState × Int} (hu : uses.length < 9223372036854775808) (hr : rv.1.length < 9223372036854775808) : ∀ (n k : Nat), max rv.1.length uses.length < n + k → k ≤ max rv.1.length uses.length → ∃ r, window_Audit_L1 F uses rv (fun _ => some (-1, 0)) n k = some r ∧ r_Audit_L1 F uses rv (fun _ => some (-1, 0)) n k = some r
 | 0, k, h1, h2 => absurd h1 (by omega)
 | n + 1, k, h1, h2 => by
  have hmx : max (rv.1.length : Int) (uses.length : Int) = ((max rv.1.length uses.length : Nat) : Int) := by
   rcases Nat.le_total rv.1.length uses.length with hh | hh
   ·rw [Nat.max_eq_right hh, Int.max_eq_right (by omega)]
   ·rw [Nat.max_eq_left hh, Int.max_eq_left (by omega)]
  rw [window_Audit_L1, r_Audit_L1, hmx]
  by_cases ha : k < rv.1.length
  ·have c1 : (k : Int) < ((max rv.1.length uses.length : Nat) : Int) := by omega
   have c2 : ¬ (rv.1.length : Int) ≤ k := by omega
   have c3 : (k : Int) < rv.1.length := by omega
   by_cases hb : k < uses.length
   ·have c4 : ¬ (uses.length : Int) ≤ k := by omega
    obtain ⟨r, e1, e2⟩ := audit_L1 hu hr n (k + 1) (by omega) (by omega)
    simp only [if_pos c1, if_neg c2, if_pos c3, if_neg c4, ixO_nat ha, ixO_nat hb, Option.bind_some, W_succ (show k < 9223372036854775807 by omega), e1, e2]
    split
    ·exact ⟨_, rfl, rfl⟩
    ·exact ⟨_, rfl, rfl⟩
   ·have c4 : (uses.length : Int) ≤ k := by omega
    simp only [if_pos c1, if_neg c2, if_pos c3, if_pos c4]
    exact ⟨_, rfl, rfl⟩
  ·have c2 : (rv.1.length : Int) ≤ k := by omega
   have c3 : ¬ (k : Int) < rv.1.length := by omega
   by_cases hb : k < uses.length
   ·have c1 : (k : Int) < ((max rv.1.length uses.length : Nat) : Int) := by omega
    have c4 : (k : Int) < uses.length := by omega
    simp only [if_pos c1, if_pos c2, if_neg c3, if_pos c4]
    exact ⟨_, rfl, rfl⟩
   ·have c1 : ¬ (k : Int) < ((max rv.1.length uses.length : Nat) : Int) := by omega
    have c4 : ¬ (k : Int) < uses.length := by omega
    simp only [if_neg c1, if_neg c3, if_neg c4]
    exact ⟨_, rfl, rfl⟩
theorem seasonR_len : (seasonR p nights).1.length ≤ nights.length := by
 unfold seasonR
 split
 ·simp
 split
 ·simp
 ·have := seasonL_len (p := p) nights [] (startP p)
  simpa using this
theorem seasonR_F (h : PlanF F p) (hn : NightsF F nights) : StateF F (seasonR p nights).2.1 := by
 have hF := h.h; have ht := h.t; have hb := h.b
 have hz : StateF F emptyS := ⟨by simp [emptyS], by simp [emptyS]; omega, by simp [emptyS]; omega, by simp [emptyS]; omega⟩
 unfold seasonR
 split
 ·exact hz
 split
 ·exact hz
 ·exact seasonL_F h nights [] (startP p) (fun x hx => hn.n x hx) ⟨by simp [startP]; omega, by simpa [startP] using ht, by simpa [startP] using ht, by simpa [startP] using ht⟩
theorem seasons_any (h : PlanF F p) (hn : NightsF F nights) (hu : uses.length < F ∧ uses.length < 9223372036854775808) (hA : l_Awake 100 = some true) : l_WindowSeasons F p nights uses = some true := by
 have hl := hn.l
 have hsl := seasonR_len (p := p) (nights := nights)
 obtain ⟨r, e1, e2⟩ := audit_L1 (F := F) (uses := uses) (rv := seasonR p nights) hu.2 (by omega) F 0 (by omega) (by omega)
 unfold l_WindowSeasons window_Audit r_Audit
 rw [Season_eq h hn, r_Season_eq h hn, Option.bind_some, Option.bind_some, Option.bind_some, Option.bind_some, uses_self (by omega) (by omega), Option.bind_some, if_pos rfl, same_self (seasonR_F h hn), Option.bind_some, if_pos rfl, if_pos rfl, hA]
 have e1' : window_Audit_L1 F uses (seasonR p nights) (fun _ => some (-1, 0)) F 0 = some r := e1
 have e2' : r_Audit_L1 F uses (seasonR p nights) (fun _ => some (-1, 0)) F 0 = some r := e2
 rw [e1', e2']
 by_cases h0 : (seasonR p nights).2.2 = 0
 ·rw [if_pos h0, Option.bind_some, Option.bind_some, if_pos rfl, if_pos rfl]
  rfl
 ·rw [if_neg h0, Option.bind_some, Option.bind_some, if_pos rfl, if_pos rfl]
  rfl
end
end Go.Proofs.YtdefnmcjmklohaaGreat
