/- The check sum, in plain numbers. -/
namespace Go.Proofs.Ytjnnkcnnandeeaa
def crcBit (s : Nat) : Nat := if s < 32768 then 2 * s else (2 * s - 65536) ^^^ 4129
def crcBits : Nat → Nat → Nat
  | 0, s => s
  | k + 1, s => crcBit (crcBits k s)
def crcByte (s c : Nat) : Nat := crcBits 8 (s ^^^ (c * 256))
def crc (l : List Nat) : Nat := l.foldl crcByte 65535
theorem crcBit_lt (s : Nat) (h : s < 65536) : crcBit s < 65536 := by
  unfold crcBit; split
  · omega
  · exact Nat.xor_lt_two_pow (n := 16) (by omega) (by omega)
theorem crcBits_lt (k s : Nat) (h : s < 65536) : crcBits k s < 65536 := by
  induction k with
  | zero => exact h
  | succ k ih => exact crcBit_lt _ ih
theorem crcByte_lt (s c : Nat) (h : s < 65536) (hc : c < 256) : crcByte s c < 65536 :=
  crcBits_lt _ _ (Nat.xor_lt_two_pow (n := 16) (by omega) (by omega))
theorem crc_foldl_lt (l : List Nat) (s : Nat) (hs : s < 65536) (h : ∀ x ∈ l, x < 256) : l.foldl crcByte s < 65536 := by
  induction l generalizing s with
  | nil => exact hs
  | cons x l ih =>
    rw [List.foldl_cons]
    have h1 := crcByte_lt s x hs (h x (by simp))
    generalize crcByte s x = t at *
    exact ih t h1 (fun y hy => h y (by simp [hy]))
theorem crc_lt (l : List Nat) (h : ∀ x ∈ l, x < 256) : crc l < 65536 := by
  have h1 : (65535 : Nat) < 65536 := by decide
  unfold crc
  generalize 65535 = s at *
  exact crc_foldl_lt l s h1 h
theorem crc_take_succ (l : List Nat) (k : Nat) (h : k < l.length) : crc (l.take (k + 1)) = crcByte (crc (l.take k)) (l.getD k 0) := by
  unfold crc
  rw [List.take_succ_eq_append_getElem h, List.foldl_append]
  simp [List.getD_eq_getElem?_getD, h]
theorem getD_mem_lt (l : List Nat) (k : Nat) (B : Nat) (hB : 0 < B) (h : ∀ x ∈ l, x < B) : l.getD k 0 < B := by
  rw [List.getD_eq_getElem?_getD]
  by_cases hk : k < l.length
  · simp only [List.getElem?_eq_getElem hk, Option.getD_some]; exact h _ (List.getElem_mem _)
  · simp only [List.getElem?_eq_none (by omega : l.length ≤ k), Option.getD_none]; exact hB
end Go.Proofs.Ytjnnkcnnandeeaa
