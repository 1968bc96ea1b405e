/- Frames and gaps, step by step; values that are owned and written in place. -/
import Derived.Test.YtjnnkcnnandeeaaWRefFound
namespace Go.Proofs.Ytjnnkcnnandeeaa
open Go.RowKit
section
variable {size len a pos : Nat}
/-- The gaps before the frames, and where the last frame ends. -/
def gapsMid (size : Nat) : Nat → List FrD → List (Nat × Nat)
  | _, [] => []
  | a, x :: r => (if a < x.pos then [(a, x.pos)] else []) ++ gapsMid size (x.pos + size) r
def lastEnd (size : Nat) : Nat → List FrD → Nat
  | a, [] => a
  | _, x :: r => lastEnd size (x.pos + size) r
theorem gapsFrom_eq : ∀ (ds : List FrD) (a : Nat), gapsFrom size len a ds = gapsMid size a ds ++ if lastEnd size a ds < len then [(lastEnd size a ds, len)] else []
  | [], a => by rw [gapsFrom, gapsMid, lastEnd, List.nil_append]
  | x :: r, a => by rw [gapsFrom, gapsMid, lastEnd, gapsFrom_eq r, List.append_assoc]
theorem lastEnd_le {at' : Nat} : ∀ (ds : List FrD) (a : Nat), a ≤ at' → (∀ x ∈ ds, x.pos + size ≤ at') → lastEnd size a ds ≤ at'
  | [], _, h, _ => h
  | x :: r, _, _, h => lastEnd_le r _ (h x (by simp)) (fun y hy => h y (by simp [hy]))
theorem mid_until : ∀ (ds : List FrD) (a : Nat), ∀ p ∈ gapsMid size a ds, ∃ x ∈ ds, p.2 = x.pos
  | [], _, p, h => by simp [gapsMid] at h
  | x :: r, a, p, h => by
    rw [gapsMid, List.mem_append] at h
    rcases h with h | h
    · split at h
      · have := List.mem_singleton.1 h
        subst this
        exact ⟨x, by simp, rfl⟩
      · simp at h
    · obtain ⟨y, hy, e⟩ := mid_until r _ p h
      exact ⟨y, by simp [hy], e⟩
theorem lastEnd_snoc (x : FrD) : ∀ (ds : List FrD) (a : Nat), lastEnd size a (ds ++ [x]) = x.pos + size
  | [], _ => rfl
  | y :: r, a => by rw [List.cons_append, lastEnd, lastEnd_snoc x r]
theorem gapsMid_snoc (x : FrD) : ∀ (ds : List FrD) (a : Nat), gapsMid size a (ds ++ [x]) = gapsMid size a ds ++ if lastEnd size a ds < x.pos then [(lastEnd size a ds, x.pos)] else []
  | [], a => by rw [List.nil_append, gapsMid, gapsMid, gapsMid, lastEnd, List.append_nil, List.nil_append]
  | y :: r, a => by rw [List.cons_append, gapsMid, gapsMid_snoc x r, gapsMid, lastEnd, List.append_assoc]
/-- A frame is found. -/
theorem gaps_hit (ds : List FrD) (x : FrD) : gapsFrom size (x.pos + size) 0 (ds ++ [x]) = gapsFrom size x.pos 0 ds := by
  rw [gapsFrom_eq, gapsFrom_eq, gapsMid_snoc, lastEnd_snoc, if_neg (Nat.lt_irrefl (x.pos + size)), List.append_nil]
/-- A byte is skipped behind a gap. -/
theorem gaps_more (ds : List FrD) (h : lastEnd size 0 ds < pos) : ∃ g, gapsFrom size pos 0 ds = g ++ [(lastEnd size 0 ds, pos)] ∧ gapsFrom size (pos + 1) 0 ds = g ++ [(lastEnd size 0 ds, pos + 1)] :=
  ⟨gapsMid size 0 ds, by rw [gapsFrom_eq, if_pos h], by rw [gapsFrom_eq, if_pos (by omega)]⟩
/-- A byte is skipped behind a frame. -/
theorem gaps_new (ds : List FrD) (hs : 0 < size) (h : lastEnd size 0 ds = pos) (hx : ∀ x ∈ ds, x.pos + size ≤ pos) :
    (∀ p ∈ gapsFrom size pos 0 ds, p.2 ≠ pos) ∧ gapsFrom size (pos + 1) 0 ds = gapsFrom size pos 0 ds ++ [(pos, pos + 1)] := by
  rw [gapsFrom_eq, gapsFrom_eq, h, if_neg (by omega), if_pos (by omega), List.append_nil]
  refine ⟨fun p hp e => ?_, rfl⟩
  obtain ⟨x, hxm, hpx⟩ := mid_until ds 0 p hp
  have := hx x hxm
  omega
end
/-- What is left of the frames, from a place on. -/
def scanAt (f : Fmt) (l : List Nat) (pos : Nat) : List FrD := scan f l (l.length + 1 - pos) pos
theorem scan_fuel (f : Fmt) (l : List Nat) : ∀ (k k' pos : Nat), l.length < k + pos → l.length < k' + pos → scan f l k pos = scan f l k' pos
  | 0, k', pos, h, h' => by
    cases k' with
    | zero => rfl
    | succ k' => rw [scan, scan_end (by unfold sizeF; omega)]
  | k + 1, 0, pos, h, h' => by rw [scan, scan_end (by unfold sizeF; omega)]
  | k + 1, k' + 1, pos, h, h' => by
    have hz : 0 < sizeF f := by unfold sizeF; omega
    rw [scan, scan]
    split
    · split
      · rw [scan_fuel f l k k' _ (by omega) (by omega)]
      · rw [scan_fuel f l k k' _ (by omega) (by omega)]
    · rfl
theorem scanAt_hit {f : Fmt} {l : List Nat} {pos : Nat} (h : foundB f l pos = true) : scanAt f l pos = frAt f l pos :: scanAt f l (pos + sizeF f) := by
  unfold foundB at h
  rw [Bool.and_eq_true] at h
  have h1 := of_decide_eq_true h.1
  unfold scanAt
  rw [show l.length + 1 - pos = (l.length - pos) + 1 by omega, scan_hit h1 h.2]
  congr 1
  have hz : 0 < sizeF f := by unfold sizeF; omega
  exact scan_fuel f l _ _ _ (by omega) (by omega)
theorem scanAt_skip {f : Fmt} {l : List Nat} {pos : Nat} (hp : pos < l.length) (h : foundB f l pos = false) : scanAt f l pos = scanAt f l (pos + 1) := by
  unfold foundB at h
  unfold scanAt
  rw [show l.length + 1 - pos = (l.length - pos) + 1 by omega]
  by_cases h1 : pos + sizeF f ≤ l.length
  · rw [decide_eq_true h1, Bool.true_and] at h
    rw [scan_skip h1 h]
    exact scan_fuel f l _ _ _ (by omega) (by omega)
  · rw [scan_end h1]
    have : ∀ k, scan f l k (pos + 1) = [] := fun k => by
      cases k with
      | zero => rfl
      | succ k => exact scan_end (by omega)
    rw [this]
theorem scanAt_end (f : Fmt) (l : List Nat) : scanAt f l l.length = [] := by
  unfold scanAt
  rw [show l.length + 1 - l.length = 0 + 1 by omega]
  exact scan_end (by unfold sizeF; omega)
theorem scanAt_zero (f : Fmt) (l : List Nat) : scanAt f l 0 = framesOf f l := rfl
/-- A cell of an owned slice is written. -/
theorem Own.write {w : World} {base : Nat} {e : TypeId} {size n g cap : Nat} {xs : List Value} (h : Own w base e size (.slice (some ⟨g, 0, none⟩) n cap) n xs) {i : Nat} (u : Value) :
    Own (w.setCell ⟨g, i, none⟩ u) base e size (.slice (some ⟨g, 0, none⟩) n cap) n (xs.set i u) := by
  refine ⟨by rw [List.length_set]; exact h.1, ?_⟩
  rcases h.2 with ⟨hv, _⟩ | ⟨g', cap', cur, lo, hi', hv, hb, hg, hnc, hm, hcs, hfz, ht⟩
  · cases hv
  · injection hv with hv1 hv2 hv3
    injection hv1 with hv1
    injection hv1 with hv1
    subst hv1 hv3
    refine .inr ⟨g, cap, cur.setIfInBounds i u, lo, hi', rfl, hb, ?_, hnc, hm, by rw [Array.size_setIfInBounds]; exact hcs, hfz, ?_⟩
    · simp [World.setCell, Array.getElem?_modify, hg]
    · rw [Array.toList_setIfInBounds, ← ht, List.take_set]
theorem Own.wcell {w : World} {base : Nat} {e : TypeId} {size n g cap : Nat} {xs : List Value} (h : Own w base e size (.slice (some ⟨g, 0, none⟩) n cap) n xs) {i : Nat} {u : Value} (hu : xs[i]? = some u) :
    w.cell? ⟨g, i, none⟩ = some u := by
  rcases h.2 with ⟨hv, _⟩ | ⟨g', cap', cur, lo, hi', hv, hb, hg, hnc, hm, hcs, hfz, ht⟩
  · cases hv
  · injection hv with hv1 hv2 hv3
    injection hv1 with hv1
    injection hv1 with hv1
    subst hv1 hv3
    rw [cell_of_row w g i cur e (lo, hi') hg]
    rw [← ht, List.getElem?_take] at hu
    split at hu
    · simpa using hu
    · cases hu
theorem Own.wfrozen {w : World} {base : Nat} {e : TypeId} {size n g cap : Nat} {xs : List Value} (h : Own w base e size (.slice (some ⟨g, 0, none⟩) n cap) n xs) {i : Nat} (hi : i < n * size) : w.frozen? ⟨g, i, none⟩ = false := by
  rcases h.2 with ⟨hv, _⟩ | ⟨g', cap', cur, lo, hi', hv, hb, hg, hnc, hm, hcs, hfz, ht⟩
  · cases hv
  · injection hv with hv1 hv2 hv3
    injection hv1 with hv1
    injection hv1 with hv1
    subst hv1 hv3
    have hle : n * size ≤ cap * size := Nat.mul_le_mul_right _ hnc
    simp only [World.frozen?, hg]
    rcases hfz with hfz | hfz <;> simp <;> omega
end Go.Proofs.Ytjnnkcnnandeeaa
