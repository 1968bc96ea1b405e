/- The plain part of why a team has no right. -/
import Derived.Test.YtdefnmcjmklohaaP3
open Go Go.Proofs.Ytdefnmcjmklohaa.Sh Go.Proofs
namespace Go.Proofs.Ytdefnmcjmklohaa
set_option linter.unusedVariables false
set_option linter.unusedSimpArgs false
/-! ### Whether a list has something -/
theorem IxSpan_L1 {F : Nat} {s : List Span} {f : Span → Option Bool} {p : Span → Bool} (hf : ∀ x, f x = some (p x)) (hl : s.length < 9223372036854775808) : ∀ (n k : Nat), s.length < n + k → k ≤ s.length → ∃ x, slices_IndexFunc_Span_L1 F s f (fun _ => some (-1)) n k = some x ∧ decide (0 ≤ x) = (s.drop k).any p
 | 0, k, h, h2 => absurd h (by omega)
 | n + 1, k, h, h2 => by
  rw [slices_IndexFunc_Span_L1]
  by_cases hk : k < s.length
  ·rw [if_pos (by omega), ixO_nat hk, Option.bind_some, hf, Option.bind_some, List.drop_eq_getElem_cons hk, List.any_cons, W_succ (by omega)]
   cases hp : p s[k] with
   | true => exact ⟨_, rfl, by simp⟩
   | false =>
    obtain ⟨x, e1, e2⟩ := IxSpan_L1 (F := F) hf hl n (k + 1) (by omega) (by omega)
    exact ⟨x, by simpa using e1, by simpa using e2⟩
  ·rw [if_neg (by omega), List.drop_of_length_le (by omega)]
   exact ⟨_, rfl, by simp⟩
theorem HasSpan_eq {F : Nat} {s : List Span} {f : Span → Option Bool} {p : Span → Bool} (hf : ∀ x, f x = some (p x)) (hl : s.length < 9223372036854775808) (hF : s.length < F) : slices_ContainsFunc_Span F s f = some (s.any p) := by
 obtain ⟨x, e1, e2⟩ := IxSpan_L1 (F := F) hf hl F 0 (by omega) (by omega)
 unfold slices_ContainsFunc_Span slices_IndexFunc_Span
 rw [show (0 : Int) = ((0 : Nat) : Int) from rfl, e1]
 simpa using e2
theorem IxInt_L1 {F : Nat} {s : List Int} {f : Int → Option Bool} {p : Int → Bool} (hf : ∀ x, f x = some (p x)) (hl : s.length < 9223372036854775808) : ∀ (n k : Nat), s.length < n + k → k ≤ s.length → ∃ x, slices_IndexFunc_int_L1 F s f (fun _ => some (-1)) n k = some x ∧ decide (0 ≤ x) = (s.drop k).any p
 | 0, k, h, h2 => absurd h (by omega)
 | n + 1, k, h, h2 => by
  rw [slices_IndexFunc_int_L1]
  by_cases hk : k < s.length
  ·rw [if_pos (by omega), ixO_nat hk, Option.bind_some, hf, Option.bind_some, List.drop_eq_getElem_cons hk, List.any_cons, W_succ (by omega)]
   cases hp : p s[k] with
   | true => exact ⟨_, rfl, by simp⟩
   | false =>
    obtain ⟨x, e1, e2⟩ := IxInt_L1 (F := F) hf hl n (k + 1) (by omega) (by omega)
    exact ⟨x, by simpa using e1, by simpa using e2⟩
  ·rw [if_neg (by omega), List.drop_of_length_le (by omega)]
   exact ⟨_, rfl, by simp⟩
theorem HasInt_eq {F : Nat} {s : List Int} {f : Int → Option Bool} {p : Int → Bool} (hf : ∀ x, f x = some (p x)) (hl : s.length < 9223372036854775808) (hF : s.length < F) : slices_ContainsFunc_int F s f = some (s.any p) := by
 obtain ⟨x, e1, e2⟩ := IxInt_L1 (F := F) hf hl F 0 (by omega) (by omega)
 unfold slices_ContainsFunc_int slices_IndexFunc_int
 rw [show (0 : Int) = ((0 : Nat) : Int) from rfl, e1]
 simpa using e2
def hasP (l : List Int) (v : Int) : Bool := l.any fun x => decide (v = x)
theorem Index_L1 {F : Nat} {s : List Int} {v : Int} (hl : s.length < 9223372036854775808) : ∀ (n k : Nat), s.length < n + k → k ≤ s.length → ∃ x, slices_Index_int_L1 F s v (fun _ => some (-1)) n k = some x ∧ decide (0 ≤ x) = hasP (s.drop k) v
 | 0, k, h, h2 => absurd h (by omega)
 | n + 1, k, h, h2 => by
  rw [slices_Index_int_L1]
  by_cases hk : k < s.length
  ·rw [if_pos (by omega), ixO_nat hk, Option.bind_some, List.drop_eq_getElem_cons hk, hasP, List.any_cons, W_succ (by omega)]
   by_cases hp : v = s[k]
   ·exact ⟨_, if_pos hp, by simp [hp]⟩
   ·obtain ⟨x, e1, e2⟩ := Index_L1 (F := F) (v := v) hl n (k + 1) (by omega) (by omega)
    exact ⟨x, by rw [if_neg hp]; exact e1, by simpa [hp, hasP] using e2⟩
  ·rw [if_neg (by omega), List.drop_of_length_le (by omega)]
   exact ⟨_, rfl, by simp [hasP]⟩
theorem Contains_eq {F : Nat} {s : List Int} {v : Int} (hl : s.length < 9223372036854775808) (hF : s.length < F) : slices_Contains_int F s v = some (hasP s v) := by
 obtain ⟨x, e1, e2⟩ := Index_L1 (F := F) (s := s) (v := v) hl F 0 (by omega) (by omega)
 unfold slices_Contains_int slices_Index_int
 rw [show (0 : Int) = ((0 : Nat) : Int) from rfl, e1]
 simpa using e2
/-! ### What is asked -/
def askedE (p : WiPlan) (s : WiState) (sky : WiSky) : Int :=
 if stateE p s ≠ 0 then stateE p s else if s.next = (p.windows.length : Int) then 9 else if (mixedP (-1) sky.kinds || outP sky.wind 0 1000) = true then 2 else 0
structure SkyF (F : Nat) (l : List Int) : Prop where
 k : l.length < F ∧ l.length < 9223372036854775808
/-- A state within its plan. -/
structure StW (p : WiPlan) (s : WiState) : Prop where
 po : PlanOk p
 u : s.used.length = p.teams.length
 c : s.credit.length = p.teams.length
 l : s.last.length = p.teams.length
 n : 0 ≤ s.next ∧ s.next ≤ p.windows.length
 ls : ∀ k, k < p.teams.length → -1 ≤ s.last.getD k 0 ∧ s.last.getD k 0 ≤ 3650
/-- A state that passes. -/
structure StOk (p : WiPlan) (s : WiState) : Prop extends StW p s where
 us : ∀ k, k < p.teams.length → 0 ≤ s.used.getD k 0 ∧ s.used.getD k 0 ≤ 100
 cs : ∀ k, k < p.teams.length → -100000 ≤ s.credit.getD k 0 ∧ s.credit.getD k 0 ≤ 200000
theorem badFrom_false {s : WiState} : ∀ {n k : Nat}, badFrom s n k = false → ∀ j, k ≤ j → j < k + n → badAt s j = false
 | 0, k, _, j, h1, h2 => absurd h2 (by omega)
 | n + 1, k, h, j, h1, h2 => by
  rw [badFrom, Bool.or_eq_false_iff] at h
  by_cases hj : j = k
  ·subst hj; exact h.1
  ·exact badFrom_false h.2 j (by omega) (by omega)
theorem stateE_ok {p : WiPlan} {s : WiState} (h : stateE p s = 0) : StOk p s := by
 unfold stateE at h
 split at h
 ·rename_i h1; exact absurd h h1
 rename_i h1
 split at h
 ·cases h
 rename_i h2
 split at h
 ·cases h
 rename_i h3
 split at h
 ·cases h
 rename_i h4
 have hb : ∀ k, k < p.teams.length → badAt s k = false := fun k hk => badFrom_false (by simpa using h4) k (by omega) (by omega)
 have hb' : ∀ k, k < p.teams.length → outP (s.used.getD k 0) 0 100 = false ∧ outP (s.credit.getD k 0) (-100000) 200000 = false ∧ outP (s.last.getD k 0) (-1) 3650 = false := fun k hk => by
  have := hb k hk
  rw [badAt, Bool.or_eq_false_iff, Bool.or_eq_false_iff] at this
  exact ⟨this.1.1, this.1.2, this.2⟩
 exact ⟨⟨checkP_ok (by omega), by omega, by omega, by omega, outP_false (by simpa using h3), fun k hk => outP_false (hb' k hk).2.2⟩, fun k hk => outP_false (hb' k hk).1, fun k hk => outP_false (hb' k hk).2.1⟩
theorem askedE_ok {p : WiPlan} {s : WiState} {sky : WiSky} (h : askedE p s sky = 0) : StOk p s ∧ s.next < p.windows.length := by
 unfold askedE at h
 split at h
 ·rename_i h1; exact absurd h h1
 rename_i h1
 split at h
 ·cases h
 rename_i h2
 have := stateE_ok (p := p) (s := s) (by omega)
 exact ⟨this, by have := this.n; omega⟩
/-! ### begin -/
def winAt (p : WiPlan) (i : Int) : WiWindow := p.windows.getD i.toNat default
def tableP (p : WiPlan) (s : WiState) (sky : WiSky) (w : WiWindow) : Table :=
 Table.mk p.teams p.windows p.cost p.gift s.used s.credit s.last s.next sky.kinds sky.wind w.day w.from_ w.until_ w.from_ [] (-1) (-1) false s.next (-1) 0 (-1)
theorem Clone_eq {F : Nat} {l : List Int} (h : l.length ≤ 1000) : slices_Clone_int F l = some l := by
 unfold slices_Clone_int appO
 rw [if_pos (by simp; omega)]
 rfl
theorem winAt_ix {p : WiPlan} {i : Int} (h : 0 ≤ i) (h2 : i < p.windows.length) : ixO p.windows i = some (winAt p i) := by
 obtain ⟨k, rfl⟩ := Int.eq_ofNat_of_zero_le h
 rw [ixO_nat (by omega), winAt, Int.toNat_natCast, getD_of _ (by omega)]
theorem begin_eq {F : Nat} {p : WiPlan} {s : WiState} {sky : WiSky} (h : PlanF F p) (hs : SkyF F sky.kinds) : window_begin F p s sky = some (if askedE p s sky = 0 then (some (tableP p s sky (winAt p s.next)), 0) else (none, askedE p s sky)) := by
 have := hs.k
 unfold window_begin askedE
 rw [window_CheckState_eq h, Option.bind_some, mixed_eq (by omega) (by omega), window_out_eq]
 by_cases h0 : stateE p s = 0
 ·by_cases h1 : s.next = (p.windows.length : Int)
  ·simp [h0, h1]
  ·have ho := stateE_ok h0
   have := ho.po.t; have := ho.u; have := ho.c; have := ho.l; have := ho.n
   rw [Clone_eq (by omega), Clone_eq (by omega), Clone_eq (by omega), winAt_ix (by omega) (by omega)]
   cases mixedP (-1) sky.kinds <;> cases outP sky.wind 0 1000 <;> simp [h0, h1, tableP]
 ·simp [h0]
/-! ### why -/
def whyP (e : WiTeam) (used last : Int) (w : WiWindow) (kinds : List Int) (wind minute : Int) : Int :=
 if e.need ≤ used then 210 else if (e.away.any fun a => !outP w.day a.lo a.hi) = true then 211 else if 0 ≤ last ∧ w.day - last < e.rest then 212
 else if 0 < (e.kinds.length : Int) ∧ (e.kinds.any fun x => hasP kinds x) = false then 213 else if e.wind < wind then 214 else if w.until_ - minute < e.setup then 215 else 0
/-- A table that is in order: of a plan, within its bounds. -/
structure TabOk (F : Nat) (t : Table) : Prop where
 f : ∀ e ∈ t.p_Teams, TeamF F e
 h : 20 < F
 n : t.p_Teams.length ≤ 8
 ts : ∀ e ∈ t.p_Teams, TeamOk e
 u : t.s_Used.length = t.p_Teams.length
 c : t.s_Credit.length = t.p_Teams.length
 l : t.s_Last.length = t.p_Teams.length
 ls : ∀ k, k < t.p_Teams.length → -1 ≤ t.s_Last.getD k 0 ∧ t.s_Last.getD k 0 ≤ 3650
 k : SkyF F t.sky_Kinds
 d : 0 ≤ t.w_Day ∧ t.w_Day ≤ 3650
 un : 0 ≤ t.w_Until ∧ t.w_Until ≤ 1440
 m : 0 ≤ t.minute ∧ t.minute ≤ 1440
def Table.w (t : Table) : WiWindow := ⟨t.w_Day, t.w_From, t.w_Until⟩
def whyT (t : Table) (k : Nat) : Int := whyP (t.p_Teams.getD k default) (t.s_Used.getD k 0) (t.s_Last.getD k 0) t.w t.sky_Kinds t.sky_Wind t.minute
theorem why_eq {F : Nat} {t : Table} (h : TabOk F t) {k : Nat} (hk : k < t.p_Teams.length) : window_table_why F t k = some (whyT t k) := by
 have h1 := h.f _ (List.getElem_mem hk)
 have h2 := h.ls k hk
 have := h.u; have := h.c; have := h.l; have := h.h; have := h.k.k; have := h1.k; have := h1.a; have := h.d; have := h.un; have := h.m
 unfold window_table_why window_table_why_1 window_table_why_2 window_table_why_3 window_table_why_4 window_table_why_5 window_table_why_6 whyT whyP
 rw [getD_of _ hk, getD_of _ (show k < t.s_Used.length by omega), getD_of _ (show k < t.s_Last.length by omega), ixO_nat hk, ixO_nat (show k < t.s_Used.length by omega), ixO_nat (show k < t.s_Last.length by omega)]
 rw [getD_of _ (show k < t.s_Last.length by omega)] at h2
 simp only [Option.bind_some]
 rw [HasSpan_eq (p := fun a => !outP t.w_Day a.lo a.hi) (fun a => by unfold window_table_why_2_1; rw [window_out_eq]; rfl) (by omega) (by omega), HasInt_eq (p := fun x => hasP t.sky_Kinds x) (fun a => by unfold window_table_why_4_1; rw [Contains_eq (by omega) (by omega)]; rfl) (by omega) (by omega), W_id (x := t.w_Day - t.s_Last[k]), W_id (x := t.w_Until - t.minute)]
 simp only [Option.bind_some, Table.w]
 generalize t.p_Teams[k] = e
 by_cases c1 : e.need ≤ t.s_Used[k]
 ·simp [c1]
 by_cases c2 : (e.away.any fun a => !outP t.w_Day a.lo a.hi) = true
 ·simp only [c1, c2, decide_false, Bool.false_eq_true, if_true, if_false]
 by_cases c3 : 0 ≤ t.s_Last[k] <;> by_cases c4 : t.w_Day - t.s_Last[k] < e.rest <;> by_cases c5 : 0 < e.kinds.length <;> by_cases c6 : (e.kinds.any fun x => hasP t.sky_Kinds x) = true <;> by_cases c7 : e.wind < t.sky_Wind <;> by_cases c8 : t.w_Until - t.minute < e.setup <;> simp [c1, c2, c3, c4, c5, c6, c7, c8]
end Go.Proofs.Ytdefnmcjmklohaa
