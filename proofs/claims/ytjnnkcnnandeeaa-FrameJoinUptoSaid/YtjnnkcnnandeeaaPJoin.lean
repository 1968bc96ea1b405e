/- Behind frames that are decoded to the last byte, what follows is decoded as if it were alone: plain laws. -/
import Derived.Test.YtjnnkcnnandeeaaPRound
namespace Go.Proofs.Ytjnnkcnnandeeaa
open Go.RowKit
def shiftF (k : Nat) (x : FrD) : FrD := ⟨x.pos + k, x.count, x.words⟩
def shiftG (k : Nat) (g : Nat × Nat) : Nat × Nat := (g.1 + k, g.2 + k)
section
variable {f : Fmt}
theorem window_shift (pre b : List Nat) (p : Nat) : window f (pre ++ b) (pre.length + p) = window f b p := by
  unfold window
  rw [List.drop_append]
  rw [List.drop_eq_nil_of_le (by omega), List.nil_append, show pre.length + p - pre.length = p by omega]
theorem frAt_shift (pre b : List Nat) (p : Nat) : frAt f (pre ++ b) (pre.length + p) = shiftF pre.length (frAt f b p) := by
  unfold frAt shiftF
  rw [window_shift, Nat.add_comm]
theorem scan_shift (pre b : List Nat) : ∀ (k p : Nat), scan f (pre ++ b) k (pre.length + p) = (scan f b k p).map (shiftF pre.length)
  | 0, _ => rfl
  | k + 1, p => by
    have e : okAt f (pre ++ b) (pre.length + p) = okAt f b p := by unfold okAt; rw [window_shift]
    rw [scan, scan, e, frAt_shift, show pre.length + p + sizeF f = pre.length + (p + sizeF f) by omega, show pre.length + p + 1 = pre.length + (p + 1) by omega, scan_shift pre b k, scan_shift pre b k, List.length_append]
    by_cases h1 : p + sizeF f ≤ b.length
    · rw [if_pos (by omega), if_pos h1]
      split
      · rfl
      · rfl
    · rw [if_neg (by omega), if_neg h1]; rfl
theorem frames_join {ps : List (Int × List Int)} (h : ∀ p ∈ ps, FrOk f p) {b : List Nat} (hb : ∀ x ∈ b, x < 256) :
    framesOf f (cat f ps ++ b) = sentAs (sizeF f) 0 ps ++ (framesOf f b).map (shiftF (cat f ps).length) := by
  have h1 := scan_cat (f := f) (b := b) hb ps [] h (by simp)
  simp only [List.nil_append, List.length_nil, Nat.zero_add] at h1
  rw [← scanAt_zero, h1]
  congr 1
  unfold scanAt framesOf
  have h2 := scan_shift (f := f) (cat f ps) b (b.length + 1) 0
  rw [← h2, List.length_append, show (cat f ps).length + b.length + 1 - (cat f ps).length = b.length + 1 by omega]
  rfl
theorem gapsFrom_sent {z len : Nat} (rest : List FrD) : ∀ (ps : List (Int × List Int)) (a : Nat), gapsFrom z len a (sentAs z a ps ++ rest) = gapsFrom z len (a + ps.length * z) rest
  | [], a => by simp [sentAs]
  | p :: ps, a => by
    rw [sentAs, List.cons_append, gapsFrom]
    dsimp only
    rw [if_neg (by omega), List.nil_append, gapsFrom_sent rest ps (a + z), List.length_cons, Nat.succ_mul]
    congr 1
    omega
theorem gapsFrom_shift {z len k : Nat} : ∀ (xs : List FrD) (a : Nat), gapsFrom z (k + len) (k + a) (xs.map (shiftF k)) = (gapsFrom z len a xs).map (shiftG k)
  | [], a => by
    rw [List.map_nil, gapsFrom, gapsFrom]
    by_cases h : a < len
    · rw [if_pos (by omega), if_pos h]; simp [shiftG]; omega
    · rw [if_neg (by omega), if_neg h]; rfl
  | x :: xs, a => by
    rw [List.map_cons, gapsFrom, gapsFrom, List.map_append]
    have e : (shiftF k x).pos + z = k + (x.pos + z) := by simp [shiftF]; omega
    rw [e, gapsFrom_shift xs (x.pos + z)]
    congr 1
    by_cases h : a < x.pos
    · rw [if_pos (by simp [shiftF]; omega), if_pos h]; simp [shiftG, shiftF]; omega
    · rw [if_neg (by simp [shiftF]; omega), if_neg h]; rfl
theorem gaps_join {ps : List (Int × List Int)} (h : ∀ p ∈ ps, FrOk f p) {b : List Nat} (hb : ∀ x ∈ b, x < 256) :
    gapsOf f (cat f ps ++ b) = (gapsOf f b).map (shiftG (cat f ps).length) := by
  unfold gapsOf
  rw [frames_join h hb, gapsFrom_sent, List.length_append, Nat.zero_add, cat_len h]
  exact gapsFrom_shift (framesOf f b) 0
/-- Frame i of the joined bytes. -/
theorem join_at {l m : List FrD} {k i : Nat} (hi : i < l.length + m.length) : (l ++ m.map (shiftF k)).getD i default = if i < l.length then l.getD i default else shiftF k (m.getD (i - l.length) default) := by
  rw [List.getD_eq_getElem?_getD]
  by_cases h : i < l.length
  · rw [if_pos h, List.getElem?_append_left h, List.getD_eq_getElem?_getD]
  · rw [if_neg h, List.getElem?_append_right (by omega), List.getElem?_map, List.getD_eq_getElem?_getD, List.getElem?_eq_getElem (by omega)]
    rfl
end
end Go.Proofs.Ytjnnkcnnandeeaa
