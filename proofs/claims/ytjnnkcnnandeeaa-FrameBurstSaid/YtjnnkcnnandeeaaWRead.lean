/- The walk of read. -/
import Derived.Test.YtjnnkcnnandeeaaWFrames
import Derived.Test.YtjnnkcnnandeeaaWInv
namespace Go.Proofs.Ytjnnkcnnandeeaa
open Go.RowKit Go.Shelf
attribute [local go_sem] Oper.semAt_some
/-- The number of a frame, where its count is c and it is 'next' at least. -/
def nextOf (next : Int) (c : Nat) : Int := next + ((c : Int) - next) % 256
def nums : Int → List FrD → List Int
  | _, [] => []
  | n, x :: r => nextOf n x.count :: nums (nextOf n x.count + 1) r
/-- What comes behind the frames. -/
def after : Int → List FrD → Int
  | n, [] => n
  | n, x :: r => after (nextOf n x.count + 1) r
def farB (l : List Int) : Bool := l.any fun n => decide (1000000 < n)
def readErr (first : Int) (fs : List FrD) : Int := if farB (nums first fs) = true then 7 else 0
theorem nums_append (n : Int) (a b : List FrD) : nums n (a ++ b) = nums n a ++ nums (after n a) b := by
  induction a generalizing n with
  | nil => rfl
  | cons x a ih => simp only [List.cons_append, nums, after, ih]
theorem after_append (n : Int) (a b : List FrD) : after n (a ++ b) = after (after n a) b := by
  induction a generalizing n with
  | nil => rfl
  | cons x a ih => simp only [List.cons_append, after, ih]
theorem i64_and_255 (z : Int) : bits .and .i64 z 255 = z % 256 := by
  show IntKind.i64.wrap ((BitVec.ofInt 64 z &&& BitVec.ofInt 64 255).toNat : Int) = _
  rw [BitVec.toNat_and, show (BitVec.ofInt 64 255).toNat = 2 ^ 8 - 1 from rfl, Nat.and_two_pow_sub_one_eq_mod, BitVec.toNat_ofInt, IntKind.wrap_i64]
  omega
def FrX.cells (x : FrX) : List Value := [.int .i64 x.1.pos, .int .i64 x.1.count, x.2]
def FrX.cell (x : FrX) : Nat → Value
  | 0 => .int .i64 x.1.pos
  | 1 => .int .i64 x.1.count
  | _ => x.2
instance : Inhabited FrD := ⟨⟨0, 0, []⟩⟩
instance : Inhabited FrX := ⟨(default, .slice none 0 0)⟩
/-- A slice value that reads as a list of frames. -/
def FrsV (w : World) (v : Value) (xs : List FrX) : Prop :=
  ∃ A cap, v = .slice A xs.length cap ∧ xs.length ≤ cap ∧ cap ≤ maxLen ∧ Rows2 w A xs.length 3 (fun i k => (xs.getD i default).cell k) ∧ ∀ x ∈ xs, IntsV w .i64 x.2 x.1.words
theorem flat_at (xs : List FrX) : ∀ (i k : Nat), i < xs.length → k < 3 → (xs.flatMap FrX.cells)[i * 3 + k]? = some ((xs.getD i default).cell k) := by
  induction xs with
  | nil => intro i k hi; simp at hi
  | cons x xs ih =>
    intro i k hi hk
    rw [List.flatMap_cons]
    cases i with
    | zero =>
      rw [List.getElem?_append_left (by simp [FrX.cells]; omega)]
      match k, hk with
      | 0, _ => rfl
      | 1, _ => rfl
      | 2, _ => rfl
    | succ i =>
      rw [List.getElem?_append_right (by simp [FrX.cells]; omega)]
      have : (i + 1) * 3 + k - x.cells.length = i * 3 + k := by simp [FrX.cells]; omega
      rw [this, ih i k (by simpa using hi) hk]
      rfl
theorem flat_len (xs : List FrX) : (xs.flatMap FrX.cells).length = xs.length * 3 := by
  induction xs with
  | nil => rfl
  | cons x xs ih => rw [List.flatMap_cons, List.length_append, ih]; simp [FrX.cells]; omega
theorem Own.frs {w : World} {base : Nat} {v : Value} {n : Nat} {xs : List FrX} (h : Own w base 59 3 v n (xs.flatMap FrX.cells)) (hw : ∀ x ∈ xs, IntsV w .i64 x.2 x.1.words) : FrsV w v xs := by
  have hn : n = xs.length := by have := h.1; rw [flat_len] at this; omega
  subst hn
  obtain ⟨A, cap, rfl, h1, h2, hs⟩ := h.form
  refine ⟨A, cap, rfl, h1, h2, fun hpos => ?_, hw⟩
  obtain ⟨ad, e, hc⟩ := hs.2 hpos
  rcases h.2 with ⟨hv, h0⟩ | ⟨g, cap', cur, lo, hi, hv, hb, hg, _⟩
  · omega
  · injection hv with hv
    rw [e] at hv
    injection hv with hv
    subst hv
    subst e
    refine ⟨g, 0, rfl, (Array.getElem?_eq_some_iff.1 hg).1, fun i k hi hk => ?_⟩
    have := hc (i * 3 + k) _ (flat_at xs i k hi hk)
    rw [addr_add] at this
    rw [Nat.add_assoc]
    exact this
theorem FrsV.ext {w w' : World} {v : Value} {xs : List FrX} (h : FrsV w v xs) (k : Ext w w') : FrsV w' v xs := by
  obtain ⟨A, cap, h1, h2, h3, h4, h5⟩ := h
  exact ⟨A, cap, h1, h2, h3, h4.ext k, fun x hx => (h5 x hx).ext k⟩
end Go.Proofs.Ytjnnkcnnandeeaa
