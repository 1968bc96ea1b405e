/- Plain facts of a frame in which a burst of bits was turned: it is no frame. -/
import Derived.Test.YtjnnkcnnandeeaaPBurst
import Derived.Test.YtjnnkcnnandeeaaPRound
namespace Go.Proofs.Ytjnnkcnnandeeaa
open Go.RowKit
/-- The bit at a place, from the highest one of the first byte on. -/
def bt (l : List Nat) (j : Nat) : Bool := (l.getD (j / 8) 0).testBit (7 - j % 8)
def flipAt (l : List Nat) (bit : Nat) : List Nat := l.set (bit / 8) (l.getD (bit / 8) 0 ^^^ (128 >>> (bit % 8)))
/-- Whether the bit k of a burst is turned. -/
def turnB (mask k : Nat) : Bool := decide (k = 0) || decide (mask / 2 ^ k % 2 = 1)
def burst (l : List Nat) (first mask : Nat) : Nat → List Nat
  | 0 => l
  | k + 1 => if first + k < 8 * l.length ∧ turnB mask k = true then flipAt (burst l first mask k) (first + k) else burst l first mask k
theorem flipAt_len (l : List Nat) (bit : Nat) : (flipAt l bit).length = l.length := by unfold flipAt; rw [List.length_set]
theorem burst_len (l : List Nat) (first mask : Nat) : ∀ k, (burst l first mask k).length = l.length
  | 0 => rfl
  | k + 1 => by
    rw [burst]
    split
    · rw [flipAt_len, burst_len l first mask k]
    · exact burst_len l first mask k
theorem shr_lt (r : Nat) : 128 >>> r < 256 := by
  rw [Nat.shiftRight_eq_div_pow]
  exact Nat.lt_of_le_of_lt (Nat.div_le_self _ _) (by decide)
theorem flipAt_lt {l : List Nat} (h : ∀ x ∈ l, x < 256) (bit : Nat) : ∀ x ∈ flipAt l bit, x < 256 := by
  intro x hx
  unfold flipAt at hx
  rcases List.mem_or_eq_of_mem_set hx with hx | rfl
  · exact h x hx
  · exact Nat.xor_lt_two_pow (n := 8) (getD_mem_lt l _ 256 (by omega) h) (shr_lt _)
theorem burst_lt {l : List Nat} (h : ∀ x ∈ l, x < 256) (first mask : Nat) : ∀ k, ∀ x ∈ burst l first mask k, x < 256
  | 0 => h
  | k + 1 => by
    rw [burst]
    split
    · exact flipAt_lt (burst_lt h first mask k) _
    · exact burst_lt h first mask k
theorem bit_of_shr : ∀ r, r < 8 → ∀ t, t < 8 → (128 >>> r).testBit t = decide (t = 7 - r) := by decide +kernel
theorem bt_flip {l : List Nat} {bit : Nat} (h : bit < 8 * l.length) (j : Nat) : bt (flipAt l bit) j = (bt l j ^^ decide (j = bit)) := by
  unfold bt flipAt
  by_cases hi : j / 8 = bit / 8
  · have e : (l.set (bit / 8) (l.getD (bit / 8) 0 ^^^ (128 >>> (bit % 8)))).getD (j / 8) 0 = l.getD (j / 8) 0 ^^^ (128 >>> (bit % 8)) := by
      rw [hi, List.getD_eq_getElem?_getD, List.getElem?_set_self (by omega)]; rfl
    rw [e, Nat.testBit_xor, bit_of_shr _ (by omega) _ (by omega)]
    congr 1
    exact decide_eq_decide.2 (by omega)
  · have e : (l.set (bit / 8) (l.getD (bit / 8) 0 ^^^ (128 >>> (bit % 8)))).getD (j / 8) 0 = l.getD (j / 8) 0 := by
      rw [List.getD_eq_getElem?_getD, List.getElem?_set_ne (by omega), ← List.getD_eq_getElem?_getD]
    rw [e, decide_eq_false (by intro hj; exact hi (by rw [hj])), Bool.xor_false]
/-- The bits that are turned. -/
def turned (n first mask k j : Nat) : Bool := decide (first ≤ j) && decide (j < first + k) && decide (j < 8 * n) && turnB mask (j - first)
theorem bt_burst (l : List Nat) (first mask : Nat) (j : Nat) : ∀ k, bt (burst l first mask k) j = (bt l j ^^ turned l.length first mask k j)
  | 0 => by
    have : turned l.length first mask 0 j = false := by
      unfold turned
      by_cases h : first ≤ j
      · rw [decide_eq_false (by omega : ¬ j < first + 0)]; simp
      · rw [decide_eq_false h]; simp
    rw [this, Bool.xor_false]; rfl
  | k + 1 => by
    have ih := bt_burst l first mask j k
    rw [burst]
    split
    · rename_i h
      rw [bt_flip (by rw [burst_len]; exact h.1), ih, Bool.xor_assoc]
      congr 1
      unfold turned
      by_cases hj : j = first + k
      · subst hj
        rw [decide_eq_false (by omega : ¬ first + k < first + k), decide_eq_true h.1, show first + k - first = k by omega, h.2]
        simp
      · rw [decide_eq_false hj, Bool.xor_false]
        congr 2
        congr 1
        exact decide_eq_decide.2 (by omega)
    · rename_i h
      rw [ih]
      congr 1
      unfold turned
      by_cases hj : j = first + k
      · subst hj
        rw [decide_eq_false (by omega : ¬ first + k < first + k), show first + k - first = k by omega]
        by_cases h1 : first + k < 8 * l.length
        · have h2 : turnB mask k = false := by
            cases ht : turnB mask k with
            | false => rfl
            | true => exact absurd ⟨h1, ht⟩ h
          rw [h2]; simp
        · rw [decide_eq_false h1]; simp
      · congr 2
        congr 1
        exact decide_eq_decide.2 (by omega)
theorem range_add8 (n : Nat) : List.range (8 + n) = List.range 8 ++ (List.range n).map (8 + ·) := List.range_add
theorem bits_range : ∀ (l : List Nat), l.flatMap bits8 = (List.range (8 * l.length)).map (bt l)
  | [] => rfl
  | c :: l => by
    rw [List.flatMap_cons, bits_range l, List.length_cons, show 8 * (l.length + 1) = 8 + 8 * l.length by omega, range_add8, List.map_append, List.map_map]
    have e1 : bits8 c = (List.range 8).map (bt (c :: l)) := by
      unfold bits8
      apply List.map_congr_left
      intro i hi
      have := List.mem_range.1 hi
      unfold bt
      rw [Nat.div_eq_of_lt this, Nat.mod_eq_of_lt this, List.getD_cons_zero]
    have e2 : (List.range (8 * l.length)).map (bt l) = (List.range (8 * l.length)).map (bt (c :: l) ∘ (8 + ·)) := by
      apply List.map_congr_left
      intro i _
      unfold bt
      simp only [Function.comp_apply]
      rw [show (8 + i) / 8 = i / 8 + 1 by omega, show (8 + i) % 8 = i % 8 by omega, List.getD_cons_succ]
    rw [e1, e2]
theorem bt_zip {l m : List Nat} (h : l.length = m.length) (j : Nat) : bt (List.zipWith (· ^^^ ·) l m) j = (bt l j ^^ bt m j) := by
  unfold bt
  rw [← Nat.testBit_xor]
  congr 1
  simp only [List.getD_eq_getElem?_getD, List.getElem?_zipWith]
  by_cases hj : j / 8 < l.length
  · rw [List.getElem?_eq_getElem hj, List.getElem?_eq_getElem (by omega)]; rfl
  · rw [List.getElem?_eq_none (by omega), List.getElem?_eq_none (by omega)]; rfl
theorem range_cut {n first : Nat} (h : first < n) : List.range n = List.range first ++ first :: (List.range (n - first - 1)).map (first + 1 + ·) := by
  have e : n = first + (1 + (n - first - 1)) := by omega
  conv => lhs; rw [e, List.range_add, List.range_add, List.map_append, List.map_map]
  congr 1
  simp only [List.range_one, List.map_cons, List.map_nil, Nat.add_zero, List.singleton_append]
  congr 1
  apply List.map_congr_left
  intro i _
  simp only [Function.comp_apply]
  omega
theorem turned_fold {n first mask : Nat} (hf : first < 8 * n) : ((List.range (8 * n)).map (turned n first mask 16)).foldl crcB 0 ≠ 0 := by
  rw [range_cut hf, List.map_append, List.map_cons, List.map_map]
  have ht : turned n first mask 16 first = true := by
    unfold turned turnB
    rw [decide_eq_true (Nat.le_refl _), decide_eq_true (by omega : first < first + 16), decide_eq_true hf, Nat.sub_self]
    rfl
  have ha : ∀ b ∈ (List.range first).map (turned n first mask 16), b = false := by
    intro b hb
    obtain ⟨j, hj, rfl⟩ := List.mem_map.1 hb
    have := List.mem_range.1 hj
    unfold turned
    rw [decide_eq_false (by omega : ¬ first ≤ j)]
    simp
  rw [ht]
  generalize hr : (List.range (8 * n - first - 1)).map (turned n first mask 16 ∘ (first + 1 + ·)) = r
  have hz : ∀ b ∈ r.drop 15, b = false := by
    intro b hb
    rw [← hr, ← List.map_drop] at hb
    obtain ⟨j, hj, rfl⟩ := List.mem_map.1 hb
    obtain ⟨i, hi, rfl⟩ := List.getElem_of_mem hj
    simp only [Function.comp_apply, List.getElem_drop, List.getElem_range]
    unfold turned
    rw [decide_eq_false (by omega : ¬ first + 1 + (15 + i) < first + 16)]
    simp
  have e : (List.range first).map (turned n first mask 16) ++ true :: r = (List.range first).map (turned n first mask 16) ++ true :: r.take 15 ++ r.drop 15 := by
    rw [List.append_assoc, List.cons_append, List.take_append_drop]
  rw [e]
  exact fold_seen _ _ _ ha (by rw [List.length_take]; omega) hz
/-- What is left of the check sum of a burst. -/
theorem burst_seen {l : List Nat} (hl : ∀ x ∈ l, x < 256) {first mask : Nat} (hf : first < 8 * l.length) : crc (burst l first mask 16) ^^^ crc l ≠ 0 := by
  have h65 : (65535 : Nat) < 65536 := by decide
  have hb := burst_lt hl first mask 16
  have hlen := burst_len l first mask 16
  have hbt := fun j => bt_burst l first mask j 16
  generalize burst l first mask 16 = B at *
  have hd := crc_diff B l h65 h65 hlen hb hl
  have hz : ∀ x ∈ List.zipWith (· ^^^ ·) B l, x < 256 := by
    intro x hx
    obtain ⟨i, hi, rfl⟩ := List.getElem_of_mem hx
    simp only [List.getElem_zipWith]
    exact Nat.xor_lt_two_pow (n := 8) (hb _ (List.getElem_mem _)) (hl _ (List.getElem_mem _))
  have hL : (List.zipWith (· ^^^ ·) B l).length = l.length := by rw [List.length_zipWith, hlen]; omega
  have hE : ∀ j, bt (List.zipWith (· ^^^ ·) B l) j = turned l.length first mask 16 j := by
    intro j
    rw [bt_zip hlen, hbt]
    cases bt l j <;> cases turned l.length first mask 16 j <;> rfl
  have h0 : (0 : Nat) < 65536 := by decide
  have hc : (List.zipWith (· ^^^ ·) B l).foldl crcByte 0 = ((List.range (8 * l.length)).map (turned l.length first mask 16)).foldl crcB 0 := by
    rw [crc_bits _ h0 hz, bits_range, hL, List.map_congr_left (fun j _ => hE j)]
  unfold crc
  rw [hd, Nat.xor_self, hc]
  exact turned_fold hf
theorem frameOf_crc {f : Fmt} {p : Int × List Int} (h : FrOk f p) : crc (frameOf f p.1 p.2) = 0 := by
  have hb := bodyOf_lt f p.1 p.2 h.2
  have hlt := crc_lt _ hb
  have e : crc (bodyOf f p.1 p.2) = crc (bodyOf f p.1 p.2) / 256 * 256 + crc (bodyOf f p.1 p.2) % 256 := by omega
  exact (crc_closed hb (by omega) (by omega)).2 e
/-- A frame in which a burst was turned is no frame. -/
theorem burst_none {f : Fmt} {p : Int × List Int} (h : FrOk f p) {first : Nat} (mask : Nat) (hf : first < 8 * (frameOf f p.1 p.2).length) : framesOf f (burst (frameOf f p.1 p.2) first mask 16) = [] := by
  have hfl := frameOf_lt h
  have hlen := frameOf_len h
  have hs := burst_seen hfl (mask := mask) hf
  rw [frameOf_crc h, Nat.xor_zero] at hs
  have hb := burst_lt hfl first mask 16
  have hbl := burst_len (frameOf f p.1 p.2) first mask 16
  rw [hlen] at hbl
  generalize burst (frameOf f p.1 p.2) first mask 16 = B at *
  have hw : window f B 0 = B := by
    unfold window
    rw [List.drop_zero, List.take_of_length_le (by omega)]
  have hno : foundB f B 0 = false := by
    cases hfo : foundB f B 0 with
    | false => rfl
    | true =>
      exfalso
      unfold foundB at hfo
      rw [Bool.and_eq_true] at hfo
      have h2 := hfo.2
      unfold okAt at h2
      rw [Bool.and_eq_true, hw] at h2
      have h3 := eq_of_beq h2.2
      have hbd : ∀ x ∈ B.take (bodyF f), x < 256 := fun x hx => hb x (List.mem_of_mem_take hx)
      have hlt := crc_lt _ hbd
      have e : B = B.take (bodyF f) ++ [crc (B.take (bodyF f)) / 256, crc (B.take (bodyF f)) % 256] := by
        conv => lhs; rw [← List.take_append_drop (bodyF f) B, h3]
        rfl
      apply hs
      rw [e]
      exact (crc_closed hbd (by omega) (by omega)).2 (by omega)
  have hskip : ∀ k pos, 0 < pos → scan f B k pos = [] := by
    intro k
    cases k with
    | zero => intro pos _; rfl
    | succ k =>
      intro pos hp
      rw [scan, if_neg (by omega)]
  unfold framesOf
  rw [scan]
  split
  · split
    · rename_i h1 h2
      unfold foundB at hno
      rw [h2, Bool.and_true] at hno
      exact absurd h1 (of_decide_eq_false hno)
    · exact hskip _ _ (by omega)
  · rfl
end Go.Proofs.Ytjnnkcnnandeeaa
