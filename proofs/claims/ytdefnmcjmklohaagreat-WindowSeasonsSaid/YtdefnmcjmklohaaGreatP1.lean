/- The plain part of window.Check, Start, CheckState: the program's and the document's answers are the same. -/
import Derived.Test.YtdefnmcjmklohaaGreatW4
open Go Go.Proofs.YtdefnmcjmklohaaGreat.Sh Go.Proofs
namespace Go.Proofs.YtdefnmcjmklohaaGreat
set_option linter.unusedVariables false
set_option linter.unusedSimpArgs false
theorem W_id {x : Int} (h : -9223372036854775808 ≤ x := by omega) (k : x < 9223372036854775808 := by omega) : W x = x := by
 unfold W IntKind.wrap
 simp [IntKind.bits, IntKind.signed]
 omega
theorem W_succ {k : Nat} (h : k < 9223372036854775807) : W ((k : Int) + 1) = ((k + 1 : Nat) : Int) := by rw [W_id]; omega
theorem W_pred {k : Nat} (h : 0 < k) (h2 : k < 9223372036854775808) : W ((k : Int) - 1) = ((k - 1 : Nat) : Int) := by rw [W_id]; omega
theorem ixO_nat {α : Type} {l : List α} {k : Nat} (h : k < l.length) : ixO l (k : Int) = some l[k] := by
 unfold ixO
 rw [if_pos (Int.natCast_nonneg k), Int.toNat_natCast, List.getElem?_eq_getElem h]
/-! ### window.out and in -/
def outP (n lo hi : Int) : Bool := decide (n < lo ∨ hi < n)
theorem window_out_eq (F : Nat) (n lo hi : Int) : window_out F n lo hi = some (outP n lo hi) := by
 unfold window_out outP
 split <;> simp [*]
theorem wind_out_eq (F : Nat) (n lo hi : Int) : wind_out F n lo hi = some (outP n lo hi) := by
 unfold wind_out outP
 split <;> simp [*]
theorem r_in_eq (F : Nat) (n lo hi : Int) : r_in F n lo hi = some (!outP n lo hi) := by
 unfold r_in outP
 by_cases h : lo ≤ n
 ·rw [if_pos h]
  have : ¬ n < lo := by omega
  by_cases h2 : n ≤ hi
  ·have : ¬ hi < n := by omega
   simp [*]
  ·have : hi < n := by omega
   simp [*]
 ·rw [if_neg h]
  have : n < lo := by omega
  simp [this]
/-! ### mixed and kinds -/
def mixedP : Int → List Int → Bool
 | _, [] => false
 | b, x :: l => outP x (b + 1) 9 || mixedP x l
theorem outP_false {n lo hi : Int} (h : outP n lo hi = false) : lo ≤ n ∧ n ≤ hi := by
 unfold outP at h
 simp at h
 omega
theorem mixed_L1 {F : Nat} {l : List Int} (hl : l.length < 9223372036854775808) : ∀ (n k : Nat) (b : Int), l.length < n + k → k ≤ l.length → -1 ≤ b → b ≤ 9 → window_mixed_L1 F l (fun _ _ => some false) n b k = some (mixedP b (l.drop k))
 | 0, k, b, h, h2, _, _ => absurd h (by omega)
 | n + 1, k, b, h, h2, h3, h4 => by
  rw [window_mixed_L1]
  by_cases hk : k < l.length
  ·rw [if_pos (by omega), ixO_nat hk, Option.bind_some, W_id, window_out_eq, Option.bind_some, List.drop_eq_getElem_cons hk, mixedP]
   cases ho : outP l[k] (b + 1) 9 with
   | true => simp
   | false =>
    have := outP_false ho
    rw [if_neg (by simp), W_succ (by omega), mixed_L1 hl n (k + 1) _ (by omega) (by omega) (by omega) (by omega)]
    simp
  ·rw [if_neg (by omega), List.drop_of_length_le (by omega)]
   rfl
theorem mixed_eq {F : Nat} {l : List Int} (hl : l.length < 9223372036854775808) (hF : l.length < F) : window_mixed F l = some (mixedP (-1) l) := by
 have := mixed_L1 (F := F) hl F 0 (-1) (by omega) (by omega) (by omega) (by omega)
 simpa [window_mixed] using this
theorem kinds_L1 {F : Nat} {l : List Int} (hl : l.length < 9223372036854775808) : ∀ (n k : Nat) (b : Int), l.length < n + k → k ≤ l.length → (k = 0 → b = -1) → (∀ h : 0 < k, ∀ h2 : k - 1 < l.length, b = l[k - 1]'h2 ∧ 0 ≤ b) → r_kinds_L1 F l (fun _ => some true) n k = some (!mixedP b (l.drop k))
 | 0, k, b, h, h2, _, _ => absurd h (by omega)
 | n + 1, k, b, h, h2, h3, h4 => by
  rw [r_kinds_L1]
  by_cases hk : k < l.length
  ·rw [if_pos (by omega), ixO_nat hk, Option.bind_some, r_in_eq, Option.bind_some, List.drop_eq_getElem_cons hk, mixedP]
   have ih := kinds_L1 (F := F) hl n (k + 1) l[k] (by omega) (by omega) (by omega)
   rw [W_succ (by omega)]
   cases ho : outP l[k] 0 9 with
   | true =>
    have hb : outP l[k] (b + 1) 9 = true := by
     simp [outP] at ho ⊢
     rcases ho with ho | ho
     ·by_cases h0 : 0 < k
      ·have := (h4 h0 (by omega)).2; omega
      ·have := h3 (by omega); omega
     ·omega
    simp [hb]
   | false =>
    have h5 := outP_false ho
    replace ih := ih (fun _ _ => ⟨rfl, h5.1⟩)
    rw [if_pos (by simp)]
    by_cases h0 : 0 < k
    ·have h6 := (h4 h0 (by omega)).1
     rw [if_pos (by omega), W_pred h0 (by omega), ixO_nat (by omega), Option.bind_some, ← h6]
     by_cases h7 : l[k] ≤ b
     ·have : outP l[k] (b + 1) 9 = true := by simp [outP]; omega
      rw [if_pos h7, this]; rfl
     ·have : outP l[k] (b + 1) 9 = false := by simp [outP]; omega
      rw [if_neg h7, this, ih]; rfl
    ·have h6 := h3 (by omega)
     subst h6
     rw [if_neg (by omega), ih, show ((-1 : Int) + 1) = 0 by rfl, ho]; rfl
  ·rw [if_neg (by omega), List.drop_of_length_le (by omega)]
   rfl
theorem kinds_eq {F : Nat} {l : List Int} (hl : l.length < 9223372036854775808) (hF : l.length < F) : r_kinds F l = some (!mixedP (-1) l) := by
 have := kinds_L1 (F := F) hl F 0 (-1) (by omega) (by omega) (by omega) (by omega)
 simpa [r_kinds] using this
/-! ### Names -/
def chOk (k : Nat) (e : Int) : Bool := (decide (97 ≤ e) && decide (e ≤ 122)) || (decide (k ≠ 0) && (decide (e = 45) || (decide (48 ≤ e) && decide (e ≤ 57))))
def charsP : Nat → List Int → Bool
 | _, [] => true
 | k, e :: l => chOk k e && charsP (k + 1) l
theorem bytesL_len (s : ByteArray) : (bytesL s).length = s.size := by simp [bytesL]
theorem ixB_nat {s : ByteArray} {k : Nat} (h : k < (bytesL s).length) : ixB s (k : Int) = some (bytesL s)[k] := by
 have h2 : k < s.size := by rwa [bytesL_len] at h
 unfold ixB
 rw [if_pos (Int.natCast_nonneg k), Int.toNat_natCast, getElem?_pos s k h2]
 simp [bytesL]
 rfl
theorem chOk_ite {α : Type} (k : Nat) (e : Int) (A B : α) (k' : Int) (hk : k' = k) : (if 97 ≤ e then (if e ≤ 122 then A else (if k' = 0 then B else (if e = 45 then A else (if 48 ≤ e then (if e ≤ 57 then A else B) else B)))) else (if k' = 0 then B else (if e = 45 then A else (if 48 ≤ e then (if e ≤ 57 then A else B) else B)))) = if chOk k e = true then A else B := by
 subst hk
 unfold chOk
 by_cases h1 : 97 ≤ e <;> by_cases h2 : e ≤ 122 <;> by_cases h3 : k = 0 <;> by_cases h4 : e = 45 <;> by_cases h5 : 48 ≤ e <;> by_cases h6 : e ≤ 57 <;> simp [*] <;> omega
theorem chOk_ite2 {α : Type} (k : Nat) (e : Int) (A B : α) (k' : Int) (hk : k' = k) : (if 97 ≤ e then (if e ≤ 122 then A else (if k' = 0 then B else (if 48 ≤ e then (if e ≤ 57 then A else (if e = 45 then A else B)) else (if e = 45 then A else B)))) else (if k' = 0 then B else (if 48 ≤ e then (if e ≤ 57 then A else (if e = 45 then A else B)) else (if e = 45 then A else B)))) = if chOk k e = true then A else B := by
 subst hk
 unfold chOk
 by_cases h1 : 97 ≤ e <;> by_cases h2 : e ≤ 122 <;> by_cases h3 : k = 0 <;> by_cases h4 : e = 45 <;> by_cases h5 : 48 ≤ e <;> by_cases h6 : e ≤ 57 <;> simp [*] <;> omega
theorem Name_L1 {F : Nat} {s : ByteArray} (hl : (bytesL s).length < 9223372036854775808) (c : Option Bool) : ∀ (n k : Nat), (bytesL s).length < n + k → k ≤ (bytesL s).length → wind_Name_L1 F s (fun _ => c) n k = if charsP k ((bytesL s).drop k) = true then c else some false
 | 0, k, h, h2 => absurd h (by omega)
 | n + 1, k, h, h2 => by
  rw [wind_Name_L1]
  by_cases hk : k < (bytesL s).length
  ·rw [if_pos (by omega), ixO_nat hk, Option.bind_some, chOk_ite k _ _ _ _ rfl, W_succ (by omega), Name_L1 hl c n (k + 1) (by omega) (by omega), List.drop_eq_getElem_cons hk, charsP]
   cases chOk k (bytesL s)[k] <;> simp
  ·rw [if_neg (by omega), List.drop_of_length_le (by omega)]
   rfl
theorem r1Name_L1 {F : Nat} {s : ByteArray} (hl : (bytesL s).length < 9223372036854775808) (c : Option Bool) : ∀ (n k : Nat), (bytesL s).length < n + k → k ≤ (bytesL s).length → r1_Name_L1 F s (fun _ => c) n k = if charsP k ((bytesL s).drop k) = true then c else some false
 | 0, k, h, h2 => absurd h (by omega)
 | n + 1, k, h, h2 => by
  have hs := bytesL_len s
  rw [r1_Name_L1]
  by_cases hk : k < (bytesL s).length
  ·rw [if_pos (by omega), ixB_nat hk, Option.bind_some, chOk_ite2 k _ _ _ _ rfl, W_succ (by omega), r1Name_L1 hl c n (k + 1) (by omega) (by omega), List.drop_eq_getElem_cons hk, charsP]
   cases chOk k (bytesL s)[k] <;> simp
  ·rw [if_neg (by omega), List.drop_of_length_le (by omega)]
   rfl
def nameP (s : ByteArray) : Bool := charsP 0 (bytesL s) && !outP s.size 1 24
theorem wind_Name_eq {F : Nat} {s : ByteArray} (hl : s.size < 9223372036854775808) (hF : s.size < F) : wind_Name F s = some (nameP s) := by
 have hs := bytesL_len s
 have := Name_L1 (F := F) (s := s) (by omega) (some (!outP s.size 1 24)) F 0 (by omega) (by omega)
 unfold wind_Name
 simp only [wind_out_eq, Option.bind_some]
 rw [show (0 : Int) = ((0 : Nat) : Int) from rfl, this, List.drop_zero, nameP]
 cases charsP 0 (bytesL s) <;> simp
theorem r1_Name_eq {F : Nat} {s : ByteArray} (hl : s.size < 9223372036854775808) (hF : s.size < F) : r1_Name F s = some (nameP s) := by
 have hs := bytesL_len s
 have := r1Name_L1 (F := F) (s := s) (by omega) (some true) F 0 (by omega) (by omega)
 unfold r1_Name
 rw [show (0 : Int) = ((0 : Nat) : Int) from rfl, this, List.drop_zero, nameP]
 by_cases h1 : (s.size : Int) < 1
 ·rw [if_pos h1]; simp [outP, h1]
 ·rw [if_neg h1]
  by_cases h2 : 24 < (s.size : Int)
  ·rw [if_pos h2]; simp [outP, h2]
  ·rw [if_neg h2]
   have : outP s.size 1 24 = false := by simp [outP]; omega
   rw [this]
   cases charsP 0 (bytesL s) <;> simp
/-! ### Spans -/
def spansP : Int → List Span → Bool
 | _, [] => false
 | b, a :: l => (outP a.lo (b + 1) 3650 || outP a.hi a.lo 3650) || spansP a.hi l
theorem Check_1_eq {F : Nat} {a : Span} {c : Int} (h : -1 ≤ c) (h2 : c ≤ 3650) : window_Check_1 F a c = some (outP a.lo (c + 1) 3650 || outP a.hi a.lo 3650, a.hi) := by
 unfold window_Check_1
 rw [W_id, window_out_eq, Option.bind_some, window_out_eq]
 cases outP a.lo (c + 1) 3650 <;> simp
theorem Spans_L1 {F : Nat} {s : List Span} (hl : s.length < 9223372036854775808) : ∀ (n k : Nat) (b : Int), s.length < n + k → k ≤ s.length → -1 ≤ b → b ≤ 3650 → ∃ f x, slices_IndexFunc_Span_window_Check_1_L1 F s (fun f _ => some (-1, f)) n b k = some (x, f) ∧ decide (0 ≤ x) = spansP b (s.drop k)
 | 0, k, b, h, h2, _, _ => absurd h (by omega)
 | n + 1, k, b, h, h2, h3, h4 => by
  rw [slices_IndexFunc_Span_window_Check_1_L1]
  by_cases hk : k < s.length
  ·rw [if_pos (by omega), ixO_nat hk, Option.bind_some, Check_1_eq h3 h4, Option.bind_some, List.drop_eq_getElem_cons hk, spansP, W_succ (by omega)]
   cases ho : outP s[k].lo (b + 1) 3650 || outP s[k].hi s[k].lo 3650 with
   | true => exact ⟨_, _, rfl, by simp⟩
   | false =>
    rw [Bool.or_eq_false_iff] at ho
    have h5 := outP_false ho.1
    have h6 := outP_false ho.2
    obtain ⟨f, x, e1, e2⟩ := Spans_L1 (F := F) hl n (k + 1) s[k].hi (by omega) (by omega) (by omega) (by omega)
    exact ⟨f, x, by simpa using e1, by simpa using e2⟩
  ·rw [if_neg (by omega), List.drop_of_length_le (by omega)]
   exact ⟨_, _, rfl, by simp [spansP]⟩
theorem Spans_eq {F : Nat} {s : List Span} (hl : s.length < 9223372036854775808) (hF : s.length < F) : ∃ f, slices_ContainsFunc_Span_window_Check_1 F s (-1) = some (spansP (-1) s, f) := by
 obtain ⟨f, x, e1, e2⟩ := Spans_L1 (F := F) hl F 0 (-1) (by omega) (by omega) (by omega) (by omega)
 refine ⟨f, ?_⟩
 unfold slices_ContainsFunc_Span_window_Check_1 slices_IndexFunc_Span_window_Check_1
 rw [show (0 : Int) = ((0 : Nat) : Int) from rfl, e1]
 simpa using e2
theorem team_L1 {F : Nat} {e : WiTeam} (hl : e.away.length < 9223372036854775808) : ∀ (n k : Nat) (b : Int), e.away.length < n + k → k ≤ e.away.length → (k = 0 → b = -1) → (∀ h : 0 < k, ∀ h2 : k - 1 < e.away.length, b = (e.away[k - 1]'h2).hi ∧ 0 ≤ b) → r_team_L1 F e (fun _ => some 0) n k = some (if spansP b (e.away.drop k) = true then 2 else 0)
 | 0, k, b, h, h2, _, _ => absurd h (by omega)
 | n + 1, k, b, h, h2, h3, h4 => by
  rw [r_team_L1]
  by_cases hk : k < e.away.length
  ·rw [if_pos (by omega), ixO_nat hk, Option.bind_some, r_in_eq, Option.bind_some, r_in_eq, Option.bind_some, List.drop_eq_getElem_cons hk, spansP, W_succ (by omega)]
   have ih := team_L1 (F := F) hl n (k + 1) e.away[k].hi (by omega) (by omega) (by omega)
   have hb : -1 ≤ b := by
    by_cases h0 : 0 < k
    ·have := (h4 h0 (by omega)).2; omega
    ·have := h3 (by omega); omega
   cases ho : outP e.away[k].lo 0 3650 with
   | true =>
    have : outP e.away[k].lo (b + 1) 3650 = true := by simp [outP] at ho ⊢; omega
    simp [this]
   | false =>
    have h5 := outP_false ho
    rw [if_pos (by simp)]
    cases ho2 : outP e.away[k].hi e.away[k].lo 3650 with
    | true => simp
    | false =>
     have h6 := outP_false ho2
     replace ih := ih (fun _ _ => ⟨rfl, by omega⟩)
     rw [if_pos (by simp)]
     by_cases h0 : 0 < k
     ·have h7 := (h4 h0 (by omega)).1
      rw [if_pos (by omega), W_pred h0 (by omega), ixO_nat (by omega), Option.bind_some, ← h7]
      by_cases h8 : e.away[k].lo ≤ b
      ·have : outP e.away[k].lo (b + 1) 3650 = true := by simp [outP]; omega
       rw [if_pos h8, this]; rfl
      ·have : outP e.away[k].lo (b + 1) 3650 = false := by simp [outP]; omega
       rw [if_neg h8, this, ih]; rfl
     ·have h7 := h3 (by omega)
      subst h7
      rw [if_neg (by omega), ih, show ((-1 : Int) + 1) = 0 by rfl, ho]; rfl
  ·rw [if_neg (by omega), List.drop_of_length_le (by omega)]
   rfl
end Go.Proofs.YtdefnmcjmklohaaGreat
