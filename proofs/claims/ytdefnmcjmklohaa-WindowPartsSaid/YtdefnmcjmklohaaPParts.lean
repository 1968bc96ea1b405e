/- The plain part of the statement about Season in parts. -/
import Derived.Test.YtdefnmcjmklohaaP13
open Go Go.Proofs.Ytdefnmcjmklohaa.Sh Go.Proofs
namespace Go.Proofs.Ytdefnmcjmklohaa
set_option linter.unusedVariables false
set_option linter.unusedSimpArgs false
section
variable {F : Nat} {p : WiPlan} {nights : List WiNight}
theorem parts_L1 (h : PlanF F p) (hn : NightsF F nights) (hl : nights.length ≤ 1000) (K : List WiUse → List Int → List Int → List Int → Int → Int → Option Bool) : ∀ (n k : Nat) (us : List WiUse) (s : WiState), nights.length < n + k → k ≤ nights.length → us.length ≤ k → (seasonL p us s (nights.drop k)).2.2 = 0 → ∃ x2, l_WindowParts_L1 F p nights K n us s.used s.credit s.last s.next k = K (seasonL p us s (nights.drop k)).1 (seasonL p us s (nights.drop k)).2.1.used (seasonL p us s (nights.drop k)).2.1.credit (seasonL p us s (nights.drop k)).2.1.last (seasonL p us s (nights.drop k)).2.1.next x2
 | 0, k, us, s, h1, _, _, _ => absurd h1 (by omega)
 | n + 1, k, us, s, h1, h2, h3, h0 => by
  rw [l_WindowParts_L1]
  by_cases hk : k < nights.length
  ·rw [List.drop_eq_getElem_cons hk, seasonL] at h0 ⊢
   rw [if_pos (by omega), ixO_nat hk, Option.bind_some, Play_eq h (hn.n _ (List.getElem_mem hk)), Option.bind_some, W_succ (by omega), app_one (by omega), Option.bind_some]
   by_cases h5 : (playR p s nights[k]).2.2 = 0
   ·rw [if_pos h5] at h0 ⊢
    rw [if_pos h5]
    by_cases h6 : 0 ≤ (playR p s nights[k]).2.1.team
    ·rw [if_pos h6] at h0 ⊢
     rw [if_pos h6]
     exact parts_L1 h hn hl K n (k + 1) _ (playR p s nights[k]).1 (by omega) (by omega) (by simp; omega) h0
    ·rw [if_neg h6] at h0 ⊢
     rw [if_neg h6]
     exact parts_L1 h hn hl K n (k + 1) us (playR p s nights[k]).1 (by omega) (by omega) (by omega) h0
   ·rw [if_neg h5] at h0; exact absurd h0 h5
  ·rw [if_neg (by omega), List.drop_of_length_le (by omega)]
   exact ⟨_, rfl⟩
theorem parts_any {a : Int} (h : PlanF F p) (hn : NightsF F nights) (hw : 0 ≤ a ∧ a ≤ 255) (ha : l_Awake 100 = some true) : l_WindowParts F p nights a = some true := by
 have hl := hn.l; have ht := h.t; have hF := h.h
 unfold l_WindowParts
 rw [Season_eq h hn, Option.bind_some, ha]
 by_cases h0 : (seasonR p nights).2.2 = 0
 ·obtain ⟨hp, hlw, e⟩ := seasonR_ok h0
  have hw60 := hp.w
  have hst : StateF F (startP p) := ⟨by simp [startP]; have := h.b; omega, by simpa [startP] using ht, by simpa [startP] using ht, by simpa [startP] using ht⟩
  rw [if_pos h0, if_neg (show ¬ (p.windows.length : Int) < nights.length by omega), W_id (x := a), W_id (x := (nights.length : Int) + 1)]
  obtain ⟨b, rfl⟩ := Int.eq_ofNat_of_zero_le hw.1
  have hm : Int.tmod (b : Int) ((nights.length : Int) + 1) = ((b % (nights.length + 1) : Nat) : Int) := by
   rw [Int.tmod_eq_emod_of_nonneg (by omega)]
   push_cast
   rfl
  have hk : b % (nights.length + 1) ≤ nights.length := Nat.le_of_lt_succ (Nat.mod_lt _ (Nat.succ_pos _))
  rw [hm]
  generalize b % (nights.length + 1) = k at hk ⊢
  have hnk : NightsF F (nights.take k) := ⟨fun x hx => hn.n x (List.mem_of_mem_take hx), by rw [List.length_take]; omega⟩
  rw [if_neg (show ¬ (nights.length : Int) + 1 = 0 by omega), cut_nat hk, Option.bind_some, Season_eq h hnk, Option.bind_some]
  rw [e] at h0
  have happ := seasonL_app (p := p) (nights.take k) (nights.drop k) [] (startP p) (by rw [List.take_append_drop]; exact h0)
  rw [List.take_append_drop] at happ
  have hs0 : (startR p).2 = 0 := by
   unfold seasonR at e
   by_cases hx : (startR p).2 ≠ 0
   ·rw [if_pos hx] at e; rw [← e] at h0; exact absurd h0 hx
   ·omega
  have e2 : seasonR p (nights.take k) = seasonL p [] (startP p) (nights.take k) := by
   unfold seasonR
   rw [if_neg (show ¬ (startR p).2 ≠ 0 from fun x => x hs0), if_neg (show ¬ (p.windows.length : Int) < (nights.take k).length by rw [List.length_take]; omega)]
  have hnx := seasonL_next h (nights.take k) [] (startP p) (fun x hx => hnk.n x hx) happ.1
  have hlt : (nights.take k).length = k := by rw [List.length_take]; omega
  have hlen := seasonL_len (p := p) (nights.take k) [] (startP p)
  rw [e2, if_pos happ.1, if_pos (show (seasonL p [] (startP p) (nights.take k)).2.1.next = (k : Int) by rw [hnx, hlt]; simp [startP])]
  obtain ⟨x2, e3⟩ := parts_L1 h hn (by omega) (fun lv lv2 lv3 lv4 x _ => Option.bind (r_SameUses F (seasonR p nights).1 lv) fun rv6 => if rv6 = true then (Option.bind (r_SameState F (seasonR p nights).2.1 (WiState.mk lv2 lv3 lv4 x)) fun rv7 => if rv7 = true then (Option.bind (some true) fun rv8 => some rv8) else (some false)) else (some false)) F k (seasonL p [] (startP p) (nights.take k)).1 (seasonL p [] (startP p) (nights.take k)).2.1 (by omega) hk (by simp at hlen; omega) (by rw [← happ.2]; exact h0)
  refine e3.trans ?_
  rw [← happ.2, ← e, uses_self (by rw [e]; have := seasonL_len (p := p) nights [] (startP p); simp at this; omega) (by rw [e]; have := seasonL_len (p := p) nights [] (startP p); simp at this; omega), Option.bind_some, if_pos rfl]
  have es : WiState.mk (seasonR p nights).2.1.used (seasonR p nights).2.1.credit (seasonR p nights).2.1.last (seasonR p nights).2.1.next = (seasonR p nights).2.1 := rfl
  rw [es, same_self (by rw [e]; exact seasonL_F h nights [] (startP p) (fun x hx => hn.n x hx) hst)]
  rfl
 ·rw [if_neg h0, if_neg h0]
  rfl
theorem nightsF_ex {l : List WiNight} (h1 : l.length < 9223372036854775808) (h2 : ∀ x ∈ l, x.sky_Kinds.length < 9223372036854775808) : ∃ F0, ∀ F, F0 ≤ F → NightsF F l := by
 refine ⟨l.length + (l.map fun x => x.sky_Kinds.length + x.turns.length).sum + 1, fun F hF => ⟨fun x hx => ?_, by omega, h1⟩⟩
 have := le_sum (fun x : WiNight => x.sky_Kinds.length + x.turns.length) hx
 exact ⟨⟨by omega, h2 x hx⟩, by omega⟩
end
end Go.Proofs.Ytdefnmcjmklohaa
