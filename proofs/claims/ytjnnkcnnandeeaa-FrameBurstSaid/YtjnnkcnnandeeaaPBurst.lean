/- Plain facts of the check sum: it is linear, and no burst of at most 16 bits goes unseen. -/
import Derived.Test.YtjnnkcnnandeeaaCrc
namespace Go.Proofs.Ytjnnkcnnandeeaa
theorem crcBit_eq (s : Nat) (h : s < 65536) : crcBit s = (2 * s % 65536) ^^^ (if s.testBit 15 then 4129 else 0) := by
  unfold crcBit
  have hb : s.testBit 15 = decide (32768 ≤ s) := by
    rw [Nat.testBit_eq_decide_div_mod_eq]
    by_cases h1 : 32768 ≤ s
    · have : s / 2 ^ 15 = 1 := by omega
      rw [this]; simp [h1]
    · have : s / 2 ^ 15 = 0 := by omega
      rw [this]; simp [h1]
  rw [hb]
  by_cases h1 : 32768 ≤ s
  · rw [if_neg (by omega), if_pos (by simpa using h1)]
    have : 2 * s % 65536 = 2 * s - 65536 := by omega
    rw [this]
  · rw [if_pos (by omega), if_neg (by simpa using h1), Nat.xor_zero]
    omega
theorem two_xor (a b : Nat) : 2 * (a ^^^ b) % 65536 = (2 * a % 65536) ^^^ (2 * b % 65536) := by
  have h : ∀ x : Nat, 2 * x = x <<< 1 := fun x => by rw [Nat.shiftLeft_eq]; omega
  have e : (65536 : Nat) = 2 ^ 16 := rfl
  rw [h, h, h, Nat.shiftLeft_xor_distrib, e, Nat.xor_mod_two_pow]
theorem xor_lt16 {a b : Nat} (ha : a < 65536) (hb : b < 65536) : a ^^^ b < 65536 := Nat.xor_lt_two_pow (n := 16) ha hb
theorem xor_lc (a b c : Nat) : a ^^^ (b ^^^ c) = b ^^^ (a ^^^ c) := by rw [← Nat.xor_assoc, Nat.xor_comm a, Nat.xor_assoc]
theorem xor_rc (a b c : Nat) : a ^^^ b ^^^ c = a ^^^ c ^^^ b := by rw [Nat.xor_assoc, Nat.xor_comm b, Nat.xor_assoc]
theorem crcBit_xor {a b : Nat} (ha : a < 65536) (hb : b < 65536) : crcBit (a ^^^ b) = crcBit a ^^^ crcBit b := by
  rw [crcBit_eq _ (xor_lt16 ha hb), crcBit_eq _ ha, crcBit_eq _ hb, two_xor, Nat.testBit_xor]
  generalize 2 * a % 65536 = x
  generalize 2 * b % 65536 = y
  cases a.testBit 15 <;> cases b.testBit 15 <;> simp [Nat.xor_assoc, Nat.xor_comm, xor_lc]
theorem crcBits_xor {a b : Nat} (ha : a < 65536) (hb : b < 65536) : ∀ k, crcBits k (a ^^^ b) = crcBits k a ^^^ crcBits k b
  | 0 => rfl
  | k + 1 => by
    unfold crcBits
    rw [crcBits_xor ha hb k, crcBit_xor (crcBits_lt k a ha) (crcBits_lt k b hb)]
theorem crcBit_zero {s : Nat} (h : s < 65536) (hz : crcBit s = 0) : s = 0 := by
  unfold crcBit at hz
  split at hz
  · omega
  · have h1 : 2 * s - 65536 = 4129 := by
      have := congrArg (· ^^^ 4129) hz
      simpa [Nat.xor_assoc] using this
    omega
theorem crcBits_zero {s : Nat} (h : s < 65536) : ∀ k, crcBits k s = 0 → s = 0
  | 0, hz => hz
  | k + 1, hz => crcBits_zero h k (crcBit_zero (crcBits_lt k s h) hz)
theorem crcBits_add (a : Nat) : ∀ (k m : Nat), crcBits (m + k) a = crcBits m (crcBits k a)
  | _, 0 => by simp [crcBits]
  | k, m + 1 => by rw [Nat.add_right_comm, crcBits, crcBits_add a k m, crcBits]
/-- One bit more. -/
def crcB (s : Nat) (b : Bool) : Nat := crcBit (s ^^^ if b then 32768 else 0)
theorem ite_lt16 (b : Bool) : (if b then 32768 else 0) < 65536 := by cases b <;> decide
theorem crcB_lt {s : Nat} (h : s < 65536) (b : Bool) : crcB s b < 65536 := crcBit_lt _ (xor_lt16 h (ite_lt16 b))
theorem crcB_fold_lt : ∀ (l : List Bool) {s : Nat}, s < 65536 → l.foldl crcB s < 65536
  | [], _, h => h
  | b :: l, _, h => crcB_fold_lt l (crcB_lt h b)
theorem crcB_zero_false : crcB 0 false = 0 := by decide
theorem fold_false : ∀ (l : List Bool), (∀ b ∈ l, b = false) → l.foldl crcB 0 = 0
  | [], _ => rfl
  | b :: l, h => by
    rw [List.foldl_cons, h b (by simp), crcB_zero_false]
    exact fold_false l fun x hx => h x (by simp [hx])
theorem fold_false_ne : ∀ (l : List Bool) {s : Nat}, s < 65536 → s ≠ 0 → (∀ b ∈ l, b = false) → l.foldl crcB s ≠ 0
  | [], _, _, h, _ => h
  | b :: l, s, hs, hn, h => by
    rw [List.foldl_cons, h b (by simp)]
    refine fold_false_ne l (crcB_lt hs false) (fun hz => hn (crcBit_zero hs ?_)) (fun x hx => h x (by simp [hx]))
    simpa [crcB] using hz
/-- Up to 16 bits, as the highest ones of a number. -/
def bitVal : List Bool → Nat
  | [] => 0
  | b :: l => (if b then 32768 else 0) ^^^ (bitVal l / 2)
theorem bitVal_lt : ∀ l, bitVal l < 65536
  | [] => by decide
  | b :: l => by
    have := bitVal_lt l
    exact xor_lt16 (ite_lt16 b) (by omega)
theorem bitVal_even : ∀ (l : List Bool) (k : Nat), l.length + k ≤ 16 → 2 ^ k ∣ bitVal l
  | [], _, _ => Nat.dvd_zero _
  | b :: l, k, h => by
    have ih := bitVal_even l (k + 1) (by simp at h; omega)
    obtain ⟨c, hc⟩ := ih
    have h1 : bitVal l / 2 = 2 ^ k * c := by rw [hc, Nat.pow_succ]; rw [Nat.mul_assoc, Nat.mul_comm (2 ^ k), Nat.mul_assoc]; rw [Nat.mul_div_cancel_left _ (by omega)]; rw [Nat.mul_comm]
    have h2 : 2 ^ k ∣ (if b then 32768 else 0) := by
      cases b
      · exact Nat.dvd_zero _
      · exact Nat.pow_dvd_pow 2 (by simp at h; omega : k ≤ 15)
    unfold bitVal
    have h3 : 2 ^ k ∣ bitVal l / 2 := ⟨c, h1⟩
    rw [Nat.dvd_iff_mod_eq_zero] at h2 h3 ⊢
    rw [Nat.xor_mod_two_pow, h2, h3]; rfl
theorem fold_val : ∀ (l : List Bool) {s : Nat}, s < 65536 → l.length ≤ 16 → l.foldl crcB s = crcBits l.length (s ^^^ bitVal l)
  | [], s, _, _ => by simp [bitVal, crcBits]
  | b :: l, s, hs, hl => by
    simp only [List.length_cons] at hl
    have hv := bitVal_lt l
    have hx := xor_lt16 hs (ite_lt16 b)
    have h2 : crcBit (bitVal l / 2) = bitVal l := by
      obtain ⟨c, hc⟩ := bitVal_even l 1 (by omega)
      unfold crcBit
      rw [if_pos (by omega)]
      omega
    rw [List.foldl_cons, fold_val l (crcB_lt hs b) (by omega), List.length_cons, crcBits_add _ 1, bitVal]
    congr 1
    show _ = crcBit (crcBits 0 _)
    rw [crcBits, ← Nat.xor_assoc, crcBit_xor hx (by omega), h2]
    rfl
theorem fold_burst {l : List Bool} (h : l.length < 16) : (true :: l).foldl crcB 0 ≠ 0 := by
  rw [fold_val _ (by decide) (by simp; omega), Nat.zero_xor]
  intro hz
  have h1 := crcBits_zero (bitVal_lt _) _ hz
  rw [bitVal, if_pos rfl] at h1
  have h2 : bitVal l / 2 = 32768 := by
    have := congrArg (32768 ^^^ ·) h1
    simpa [← Nat.xor_assoc] using this
  have := bitVal_lt l
  omega
/-- Bits that are false, then up to 16 of which the first one is true, then false ones. -/
theorem fold_seen (a m z : List Bool) (ha : ∀ b ∈ a, b = false) (hm : m.length < 16) (hz : ∀ b ∈ z, b = false) : (a ++ true :: m ++ z).foldl crcB 0 ≠ 0 := by
  rw [List.foldl_append, List.foldl_append, fold_false a ha]
  exact fold_false_ne z (crcB_fold_lt _ (by decide)) (fold_burst hm) hz
/-- The bits of a byte, from the highest one on. -/
def bits8 (c : Nat) : List Bool := (List.range 8).map fun i => c.testBit (7 - i)
theorem byte_bits0 : ∀ c, c < 256 → crcBits 8 (c * 256) = (bits8 c).foldl crcB 0 := by decide +kernel
theorem crcB_fold_xor : ∀ (l : List Bool) {s t : Nat}, s < 65536 → t < 65536 → l.foldl crcB (s ^^^ t) = l.foldl crcB s ^^^ crcBits l.length t
  | [], _, _, _, _ => rfl
  | b :: l, s, t, hs, ht => by
    rw [List.foldl_cons, List.foldl_cons, List.length_cons, crcBits_add _ 1]
    have e : crcB (s ^^^ t) b = crcB s b ^^^ crcBit t := by
      unfold crcB
      rw [xor_rc, crcBit_xor (xor_lt16 hs (ite_lt16 b)) ht]
    rw [e, crcB_fold_xor l (crcB_lt hs b) (crcBit_lt t ht)]
    rfl
theorem byte_bits {s c : Nat} (hs : s < 65536) (hc : c < 256) : crcByte s c = (bits8 c).foldl crcB s := by
  unfold crcByte
  rw [crcBits_xor hs (by omega), byte_bits0 c hc]
  have := crcB_fold_xor (bits8 c) (s := 0) (t := s) (by decide) hs
  rw [Nat.zero_xor] at this
  rw [this, Nat.xor_comm]
  rfl
theorem crc_bits : ∀ (l : List Nat) {s : Nat}, s < 65536 → (∀ x ∈ l, x < 256) → l.foldl crcByte s = (l.flatMap bits8).foldl crcB s
  | [], _, _, _ => rfl
  | c :: l, s, hs, h => by
    have hc := h c (by simp)
    rw [List.foldl_cons, List.flatMap_cons, List.foldl_append, byte_bits hs hc]
    exact crc_bits l (crcB_fold_lt _ hs) fun x hx => h x (by simp [hx])
theorem xor_4 (a b c d : Nat) : a ^^^ b ^^^ (c ^^^ d) = a ^^^ c ^^^ (b ^^^ d) := by rw [Nat.xor_assoc, Nat.xor_assoc, xor_lc b]
theorem byte_xor (c d : Nat) : (c ^^^ d) * 256 = (c * 256) ^^^ (d * 256) := by
  have h : ∀ x : Nat, x * 256 = x <<< 8 := fun x => by rw [Nat.shiftLeft_eq]
  rw [h, h, h, Nat.shiftLeft_xor_distrib]
theorem crcByte_xor {s t c d : Nat} (hs : s < 65536) (ht : t < 65536) (hc : c < 256) (hd : d < 256) : crcByte s c ^^^ crcByte t d = crcByte (s ^^^ t) (c ^^^ d) := by
  have h1 : s ^^^ c * 256 < 65536 := xor_lt16 hs (by omega)
  have h2 : t ^^^ d * 256 < 65536 := xor_lt16 ht (by omega)
  have h3 := crcBits_xor h1 h2 8
  have h4 : s ^^^ t ^^^ (c ^^^ d) * 256 = s ^^^ c * 256 ^^^ (t ^^^ d * 256) := by
    rw [byte_xor]
    exact xor_4 ..
  unfold crcByte
  rw [h4]
  exact h3.symm
/-- Two messages, and what they differ by. -/
theorem crc_diff (l : List Nat) : ∀ (m : List Nat) {s t : Nat}, s < 65536 → t < 65536 → l.length = m.length → (∀ x ∈ l, x < 256) → (∀ x ∈ m, x < 256) →
    l.foldl crcByte s ^^^ m.foldl crcByte t = (List.zipWith (· ^^^ ·) l m).foldl crcByte (s ^^^ t) := by
  induction l with
  | nil =>
    intro m s t _ _ he _ _
    cases m with
    | nil => simp only [List.foldl_nil, List.zipWith_nil_left]
    | cons d m => simp at he
  | cons c l ih =>
    intro m s t hs ht he hl hm
    cases m with
    | nil => simp at he
    | cons d m =>
      have hc := hl c (by simp)
      have hd := hm d (by simp)
      have e := ih m (crcByte_lt s c hs hc) (crcByte_lt t d ht hd) (by simpa using he) (fun x hx => hl x (by simp [hx])) (fun x hx => hm x (by simp [hx]))
      rw [List.foldl_cons, List.foldl_cons, List.zipWith_cons_cons, List.foldl_cons, e, crcByte_xor hs ht hc hd]
/-- The check sum behind a message: nothing is left. -/
theorem crc_closed {l : List Nat} (h : ∀ x ∈ l, x < 256) {a b : Nat} (ha : a < 256) (hb : b < 256) : crc (l ++ [a, b]) = 0 ↔ crc l = a * 256 + b := by
  have hc := crc_lt l h
  have e : crc (l ++ [a, b]) = crcByte (crcByte (crc l) a) b := by simp only [crc, List.foldl_append, List.foldl_cons, List.foldl_nil]
  rw [e]
  generalize crc l = s at *
  have hb2 : crcBits 8 b = b * 256 := by
    have : ∀ b, b < 256 → crcBits 8 b = b * 256 := by decide +kernel
    exact this b hb
  have h1 : crcByte (crcByte s a) b = crcBits 16 ((s ^^^ a * 256) ^^^ b) := by
    rw [crcBits_add _ 8 8, crcBits_xor (xor_lt16 hc (by omega)) (by omega), hb2]
    rfl
  have h2 : a * 256 + b = (a * 256) ^^^ b := by
    have := Nat.two_pow_add_eq_or_of_lt (i := 8) (b := b) hb a
    have e2 : (a * 256) ||| b = (a * 256) ^^^ b := by
      apply Nat.eq_of_testBit_eq
      intro i
      rw [Nat.testBit_or, Nat.testBit_xor]
      have e3 : (a * 256).testBit i = (decide (8 ≤ i) && a.testBit (i - 8)) := by
        rw [show a * 256 = a <<< 8 by rw [Nat.shiftLeft_eq]]; rw [Nat.testBit_shiftLeft]
      rw [e3]
      by_cases hi : 8 ≤ i
      · have : b.testBit i = false := Nat.testBit_lt_two_pow (Nat.lt_of_lt_of_le hb (Nat.pow_le_pow_right (by omega) hi : 2 ^ 8 ≤ 2 ^ i))
        rw [this]; simp
      · simp [hi]
    rw [← e2, Nat.mul_comm a 256]
    exact this
  rw [h1, h2]
  clear h1 h2 e hb2
  have hx : a * 256 ^^^ b < 65536 := xor_lt16 (by omega) (by omega)
  have ez : s ^^^ a * 256 ^^^ b = s ^^^ (a * 256 ^^^ b) := Nat.xor_assoc ..
  rw [ez]
  generalize a * 256 ^^^ b = x at *
  have hz16 : crcBits 16 0 = 0 := by decide +kernel
  constructor
  · intro hz
    have hq := crcBits_zero (xor_lt16 hc hx) _ hz
    have := congrArg (· ^^^ x) hq
    simpa [Nat.xor_assoc] using this
  · intro hq
    rw [hq, Nat.xor_self]
    exact hz16
end Go.Proofs.Ytjnnkcnnandeeaa
