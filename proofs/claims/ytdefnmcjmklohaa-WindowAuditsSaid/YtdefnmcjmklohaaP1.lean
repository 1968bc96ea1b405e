/- The plain part of window.Check, Start, CheckState: the program's and the document's answers are the same. -/
import Derived.Test.YtdefnmcjmklohaaW3
open Go Go.Proofs.Ytdefnmcjmklohaa.Sh Go.Proofs
namespace Go.Proofs.Ytdefnmcjmklohaa
set_option linter.unusedVariables false
set_option linter.unusedSimpArgs false
theorem W_id {x : Int} (h : -9223372036854775808 ≤ x := by omega) (k : x < 9223372036854775808 := by omega) : W x = x := by
 unfold W IntKind.wrap
 simp [IntKind.bits, IntKind.signed]
 omega
theorem W_succ {k : Nat} (h : k < 9223372036854775807) : W ((k : Int) + 1) = ((k + 1 : Nat) : Int) := by rw [W_id]; omega
theorem W_pred {k : Nat} (h : 0 < k) (h2 : k < 9223372036854775808) : W ((k : Int) - 1) = ((k - 1 : Nat) : Int) := by rw [W_id]; omega
theorem ixO_nat {α : Type} {l : List α} {k : Nat} (h : k < l.length) : ixO l (k : Int) = some l[k] := by
 unfold ixO
 rw [if_pos (Int.natCast_nonneg k), Int.toNat_natCast, List.getElem?_eq_getElem h]
/-! ### window.out and in -/
def outP (n lo hi : Int) : Bool := decide (n < lo ∨ hi < n)
theorem window_out_eq (F : Nat) (n lo hi : Int) : window_out F n lo hi = some (outP n lo hi) := by
 unfold window_out outP
 split <;> simp [*]
theorem wind_out_eq (F : Nat) (n lo hi : Int) : wind_out F n lo hi = some (outP n lo hi) := by
 unfold wind_out outP
 split <;> simp [*]
/-! ### mixed and kinds -/
def mixedP : Int → List Int → Bool
 | _, [] => false
 | b, x :: l => outP x (b + 1) 9 || mixedP x l
theorem outP_false {n lo hi : Int} (h : outP n lo hi = false) : lo ≤ n ∧ n ≤ hi := by
 unfold outP at h
 simp at h
 omega
theorem mixed_L1 {F : Nat} {l : List Int} (hl : l.length < 9223372036854775808) : ∀ (n k : Nat) (b : Int), l.length < n + k → k ≤ l.length → -1 ≤ b → b ≤ 9 → window_mixed_L1 F l (fun _ _ => some false) n b k = some (mixedP b (l.drop k))
 | 0, k, b, h, h2, _, _ => absurd h (by omega)
 | n + 1, k, b, h, h2, h3, h4 => by
  rw [window_mixed_L1]
  by_cases hk : k < l.length
  ·rw [if_pos (by omega), ixO_nat hk, Option.bind_some, W_id, window_out_eq, Option.bind_some, List.drop_eq_getElem_cons hk, mixedP]
   cases ho : outP l[k] (b + 1) 9 with
   | true => simp
   | false =>
    have := outP_false ho
    rw [if_neg (by simp), W_succ (by omega), mixed_L1 hl n (k + 1) _ (by omega) (by omega) (by omega) (by omega)]
    simp
  ·rw [if_neg (by omega), List.drop_of_length_le (by omega)]
   rfl
theorem mixed_eq {F : Nat} {l : List Int} (hl : l.length < 9223372036854775808) (hF : l.length < F) : window_mixed F l = some (mixedP (-1) l) := by
 have := mixed_L1 (F := F) hl F 0 (-1) (by omega) (by omega) (by omega) (by omega)
 simpa [window_mixed] using this
/-! ### Names -/
def chOk (k : Nat) (e : Int) : Bool := (decide (97 ≤ e) && decide (e ≤ 122)) || (decide (k ≠ 0) && (decide (e = 45) || (decide (48 ≤ e) && decide (e ≤ 57))))
def charsP : Nat → List Int → Bool
 | _, [] => true
 | k, e :: l => chOk k e && charsP (k + 1) l
theorem bytesL_len (s : ByteArray) : (bytesL s).length = s.size := by simp [bytesL]
theorem chOk_ite {α : Type} (k : Nat) (e : Int) (A B : α) (k' : Int) (hk : k' = k) : (if 97 ≤ e then (if e ≤ 122 then A else (if k' = 0 then B else (if e = 45 then A else (if 48 ≤ e then (if e ≤ 57 then A else B) else B)))) else (if k' = 0 then B else (if e = 45 then A else (if 48 ≤ e then (if e ≤ 57 then A else B) else B)))) = if chOk k e = true then A else B := by
 subst hk
 unfold chOk
 by_cases h1 : 97 ≤ e <;> by_cases h2 : e ≤ 122 <;> by_cases h3 : k = 0 <;> by_cases h4 : e = 45 <;> by_cases h5 : 48 ≤ e <;> by_cases h6 : e ≤ 57 <;> simp [*] <;> omega
theorem Name_L1 {F : Nat} {s : ByteArray} (hl : (bytesL s).length < 9223372036854775808) (c : Option Bool) : ∀ (n k : Nat), (bytesL s).length < n + k → k ≤ (bytesL s).length → wind_Name_L1 F s (fun _ => c) n k = if charsP k ((bytesL s).drop k) = true then c else some false
 | 0, k, h, h2 => absurd h (by omega)
 | n + 1, k, h, h2 => by
  rw [wind_Name_L1]
  by_cases hk : k < (bytesL s).length
  ·rw [if_pos (by omega), ixO_nat hk, Option.bind_some, chOk_ite k _ _ _ _ rfl, W_succ (by omega), Name_L1 hl c n (k + 1) (by omega) (by omega), List.drop_eq_getElem_cons hk, charsP]
   cases chOk k (bytesL s)[k] <;> simp
  ·rw [if_neg (by omega), List.drop_of_length_le (by omega)]
   rfl
def nameP (s : ByteArray) : Bool := charsP 0 (bytesL s) && !outP s.size 1 24
theorem wind_Name_eq {F : Nat} {s : ByteArray} (hl : s.size < 9223372036854775808) (hF : s.size < F) : wind_Name F s = some (nameP s) := by
 have hs := bytesL_len s
 have := Name_L1 (F := F) (s := s) (by omega) (some (!outP s.size 1 24)) F 0 (by omega) (by omega)
 unfold wind_Name
 simp only [wind_out_eq, Option.bind_some]
 rw [show (0 : Int) = ((0 : Nat) : Int) from rfl, this, List.drop_zero, nameP]
 cases charsP 0 (bytesL s) <;> simp
/-! ### Spans -/
def spansP : Int → List Span → Bool
 | _, [] => false
 | b, a :: l => (outP a.lo (b + 1) 3650 || outP a.hi a.lo 3650) || spansP a.hi l
theorem Check_1_eq {F : Nat} {a : Span} {c : Int} (h : -1 ≤ c) (h2 : c ≤ 3650) : window_Check_1 F a c = some (outP a.lo (c + 1) 3650 || outP a.hi a.lo 3650, a.hi) := by
 unfold window_Check_1
 rw [W_id, window_out_eq, Option.bind_some, window_out_eq]
 cases outP a.lo (c + 1) 3650 <;> simp
theorem Spans_L1 {F : Nat} {s : List Span} (hl : s.length < 9223372036854775808) : ∀ (n k : Nat) (b : Int), s.length < n + k → k ≤ s.length → -1 ≤ b → b ≤ 3650 → ∃ f x, slices_IndexFunc_Span_window_Check_1_L1 F s (fun f _ => some (-1, f)) n b k = some (x, f) ∧ decide (0 ≤ x) = spansP b (s.drop k)
 | 0, k, b, h, h2, _, _ => absurd h (by omega)
 | n + 1, k, b, h, h2, h3, h4 => by
  rw [slices_IndexFunc_Span_window_Check_1_L1]
  by_cases hk : k < s.length
  ·rw [if_pos (by omega), ixO_nat hk, Option.bind_some, Check_1_eq h3 h4, Option.bind_some, List.drop_eq_getElem_cons hk, spansP, W_succ (by omega)]
   cases ho : outP s[k].lo (b + 1) 3650 || outP s[k].hi s[k].lo 3650 with
   | true => exact ⟨_, _, rfl, by simp⟩
   | false =>
    rw [Bool.or_eq_false_iff] at ho
    have h5 := outP_false ho.1
    have h6 := outP_false ho.2
    obtain ⟨f, x, e1, e2⟩ := Spans_L1 (F := F) hl n (k + 1) s[k].hi (by omega) (by omega) (by omega) (by omega)
    exact ⟨f, x, by simpa using e1, by simpa using e2⟩
  ·rw [if_neg (by omega), List.drop_of_length_le (by omega)]
   exact ⟨_, _, rfl, by simp [spansP]⟩
theorem Spans_eq {F : Nat} {s : List Span} (hl : s.length < 9223372036854775808) (hF : s.length < F) : ∃ f, slices_ContainsFunc_Span_window_Check_1 F s (-1) = some (spansP (-1) s, f) := by
 obtain ⟨f, x, e1, e2⟩ := Spans_L1 (F := F) hl F 0 (-1) (by omega) (by omega) (by omega) (by omega)
 refine ⟨f, ?_⟩
 unfold slices_ContainsFunc_Span_window_Check_1 slices_IndexFunc_Span_window_Check_1
 rw [show (0 : Int) = ((0 : Nat) : Int) from rfl, e1]
 simpa using e2
end Go.Proofs.Ytdefnmcjmklohaa
