/- What a window of bytes holds is a frame just where the reference says so. -/
import Derived.Test.YtjnnkcnnandeeaaWNumbers
namespace Go.Proofs.Ytjnnkcnnandeeaa
open Go.RowKit
theorem pairOf_word {a b : Nat} (hb : b < 256) : pairOf (a * 256 + b) = [a, b] := by
  unfold pairOf
  congr 1
  · omega
  · congr 1; omega
theorem wordsOf_one (x : Int) : wordsOf [x] = pairOf x.toNat := by simp [wordsOf]
theorem take_two {l : List Nat} {k : Nat} (h : k + 2 ≤ l.length) : l.take (k + 2) = l.take k ++ [l.getD k 0, l.getD (k + 1) 0] := by
  rw [List.take_succ_eq_append_getElem (by omega : k + 1 < l.length), List.take_succ_eq_append_getElem (by omega : k < l.length), List.append_assoc]
  simp [List.getD_eq_getElem?_getD, show k < l.length by omega, show k + 1 < l.length by omega]
theorem wordsOf_at {head : Nat} {own : List Nat} (hb : ∀ x ∈ own, x < 256) : ∀ k, head + 1 + 2 * k ≤ own.length → wordsOf (wordsAt head own k) = (own.drop (head + 1)).take (2 * k)
  | 0, _ => by simp [wordsAt, wordsOf]
  | k + 1, h => by
    rw [wordsAt_succ, wordsOf_append, wordsOf_at hb k (by omega), wordsOf_one]
    unfold wordAt
    rw [Int.toNat_natCast, pairOf_word (getD_mem_lt own _ 256 (by omega) hb)]
    rw [show 2 * (k + 1) = 2 * k + 2 by omega, take_two (by rw [List.length_drop]; omega)]
    congr 1
    simp only [List.getD_eq_getElem?_getD, List.getElem?_drop]
    rw [show head + 1 + (2 * k + 1) = head + 2 + 2 * k by omega]
theorem window_length {f : Fmt} {l : List Nat} {pos : Nat} (h : pos + sizeF f ≤ l.length) : (window f l pos).length = sizeF f := by
  unfold window; rw [List.length_take, List.length_drop]; omega
/-- The bytes before the check sum, where the pattern stands. -/
theorem body_window {f : Fmt} {own : List Nat} (hl : own.length = sizeF f) (hb : ∀ x ∈ own, x < 256) (hs : own.take f.sync.size = syncOf f) :
    bodyOf f (own.getD f.sync.size 0 : Nat) (wordsAt f.sync.size own f.words.toNat) = own.take (bodyF f) := by
  have hlen : own.length = f.sync.size + 1 + 2 * f.words.toNat + 2 := hl
  unfold bodyOf
  rw [wordsOf_at hb _ (by omega), ← hs]
  have hc := getD_mem_lt own f.sync.size 256 (by omega) hb
  rw [show ((own.getD f.sync.size 0 : Nat) : Int) % 256 = ((own.getD f.sync.size 0 : Nat) : Int) by omega, Int.toNat_natCast]
  unfold bodyF
  rw [show f.sync.size + 1 + 2 * f.words.toNat = (f.sync.size + 1) + 2 * f.words.toNat by omega, List.take_add, List.take_succ_eq_append_getElem (by omega : f.sync.size < own.length)]
  simp [List.getD_eq_getElem?_getD, show f.sync.size < own.length by omega]
theorem frame_window {f : Fmt} {l : List Nat} {pos : Nat} (h : pos + sizeF f ≤ l.length) (hb : ∀ x ∈ l, x < 256) :
    frameOf f ((frAt f l pos).count : Nat) (frAt f l pos).words = window f l pos ↔ okAt f l pos = true := by
  have hlen := window_length h
  have hbw : ∀ x ∈ window f l pos, x < 256 := fun x hx => hb x (List.mem_of_mem_drop (List.mem_of_mem_take hx))
  have hlen2 : (window f l pos).length = bodyF f + 2 := hlen
  have hsz : f.sync.size ≤ bodyF f := by unfold bodyF; omega
  unfold frAt okAt
  generalize window f l pos = own at *
  dsimp only
  constructor
  · intro he
    have hs : own.take f.sync.size = syncOf f := by
      rw [← he]
      unfold frameOf bodyOf
      rw [List.append_assoc, List.append_assoc]
      exact List.take_left' (syncOf_length f)
    have hbody := body_window hlen hbw hs
    unfold frameOf at he
    rw [hbody] at he
    have hd : own.drop (bodyF f) = pairOf (crc (own.take (bodyF f))) := by
      have h1 := congrArg (List.drop (bodyF f)) he
      rw [List.drop_left' (by rw [List.length_take]; omega)] at h1
      exact h1.symm
    rw [Bool.and_eq_true]
    exact ⟨by unfold syncOk; exact decide_eq_true hs, by unfold sumOk; rw [hd]; exact beq_self_eq_true _⟩
  · intro ho
    rw [Bool.and_eq_true] at ho
    obtain ⟨h1, h2⟩ := ho
    have hs : own.take f.sync.size = syncOf f := of_decide_eq_true h1
    have hd : own.drop (bodyF f) = pairOf (crc (own.take (bodyF f))) := eq_of_beq h2
    unfold frameOf
    rw [body_window hlen hbw hs, ← hd]
    exact List.take_append_drop _ _
/-- Whether there is a frame at a place. -/
def foundB (f : Fmt) (l : List Nat) (pos : Nat) : Bool := decide (pos + sizeF f ≤ l.length) && okAt f l pos
/-- The gaps, where the next byte not yet told is 'at', and then come these frames. -/
def gapsFrom (size len : Nat) : Nat → List FrD → List (Nat × Nat)
  | a, [] => if a < len then [(a, len)] else []
  | a, x :: r => (if a < x.pos then [(a, x.pos)] else []) ++ gapsFrom size len (x.pos + size) r
def gapsOf (f : Fmt) (l : List Nat) : List (Nat × Nat) := gapsFrom (sizeF f) l.length 0 (framesOf f l)
end Go.Proofs.Ytjnnkcnnandeeaa
