/- The walk of read. What stands while read's two appends are under way: a plain invariant and its steps. -/
import Derived.Test.YtjnnkcnnandeeaaWFrames
import Derived.Test.YtjnnkcnnandeeaaWInv
namespace Go.Proofs.Ytjnnkcnnandeeaa
open Go.RowKit Go.Shelf
attribute [local go_sem] Oper.semAt_some
/-- The number of a frame, where its count is c and it is 'next' at least. -/
def nextOf (next : Int) (c : Nat) : Int := next + ((c : Int) - next) % 256
def nums : Int → List FrD → List Int
  | _, [] => []
  | n, x :: r => nextOf n x.count :: nums (nextOf n x.count + 1) r
/-- What comes behind the frames. -/
def after : Int → List FrD → Int
  | n, [] => n
  | n, x :: r => after (nextOf n x.count + 1) r
def farB (l : List Int) : Bool := l.any fun n => decide (1000000 < n)
def readErr (first : Int) (fs : List FrD) : Int := if farB (nums first fs) = true then 7 else 0
theorem nums_append (n : Int) (a b : List FrD) : nums n (a ++ b) = nums n a ++ nums (after n a) b := by
  induction a generalizing n with
  | nil => rfl
  | cons x a ih => simp only [List.cons_append, nums, after, ih]
theorem after_append (n : Int) (a b : List FrD) : after n (a ++ b) = after (after n a) b := by
  induction a generalizing n with
  | nil => rfl
  | cons x a ih => simp only [List.cons_append, after, ih]
theorem i64_and_255 (z : Int) : bits .and .i64 z 255 = z % 256 := by
  show IntKind.i64.wrap ((BitVec.ofInt 64 z &&& BitVec.ofInt 64 255).toNat : Int) = _
  rw [BitVec.toNat_and, show (BitVec.ofInt 64 255).toNat = 2 ^ 8 - 1 from rfl, Nat.and_two_pow_sub_one_eq_mod, BitVec.toNat_ofInt, IntKind.wrap_i64]
  omega
def FrX.cells (x : FrX) : List Value := [.int .i64 x.1.pos, .int .i64 x.1.count, x.2]
def FrX.cell (x : FrX) : Nat → Value
  | 0 => .int .i64 x.1.pos
  | 1 => .int .i64 x.1.count
  | _ => x.2
instance : Inhabited FrD := ⟨⟨0, 0, []⟩⟩
instance : Inhabited FrX := ⟨(default, .slice none 0 0)⟩
/-- A slice value that reads as a list of frames. -/
def FrsV (w : World) (v : Value) (xs : List FrX) : Prop :=
  ∃ A cap, v = .slice A xs.length cap ∧ xs.length ≤ cap ∧ cap ≤ maxLen ∧ Rows2 w A xs.length 3 (fun i k => (xs.getD i default).cell k) ∧ ∀ x ∈ xs, IntsV w .i64 x.2 x.1.words
theorem flat_at (xs : List FrX) : ∀ (i k : Nat), i < xs.length → k < 3 → (xs.flatMap FrX.cells)[i * 3 + k]? = some ((xs.getD i default).cell k) := by
  induction xs with
  | nil => intro i k hi; simp at hi
  | cons x xs ih =>
    intro i k hi hk
    rw [List.flatMap_cons]
    cases i with
    | zero =>
      rw [List.getElem?_append_left (by simp [FrX.cells]; omega)]
      match k, hk with
      | 0, _ => rfl
      | 1, _ => rfl
      | 2, _ => rfl
    | succ i =>
      rw [List.getElem?_append_right (by simp [FrX.cells]; omega)]
      have : (i + 1) * 3 + k - x.cells.length = i * 3 + k := by simp [FrX.cells]; omega
      rw [this, ih i k (by simpa using hi) hk]
      rfl
theorem flat_len (xs : List FrX) : (xs.flatMap FrX.cells).length = xs.length * 3 := by
  induction xs with
  | nil => rfl
  | cons x xs ih => rw [List.flatMap_cons, List.length_append, ih]; simp [FrX.cells]; omega
theorem Own.frs {w : World} {base : Nat} {v : Value} {n : Nat} {xs : List FrX} (h : Own w base 59 3 v n (xs.flatMap FrX.cells)) (hw : ∀ x ∈ xs, IntsV w .i64 x.2 x.1.words) : FrsV w v xs := by
  have hn : n = xs.length := by have := h.1; rw [flat_len] at this; omega
  subst hn
  obtain ⟨A, cap, rfl, h1, h2, hs⟩ := h.form
  refine ⟨A, cap, rfl, h1, h2, fun hpos => ?_, hw⟩
  obtain ⟨ad, e, hc⟩ := hs.2 hpos
  rcases h.2 with ⟨hv, h0⟩ | ⟨g, cap', cur, lo, hi, hv, hb, hg, _⟩
  · omega
  · injection hv with hv
    rw [e] at hv
    injection hv with hv
    subst hv
    subst e
    refine ⟨g, 0, rfl, (Array.getElem?_eq_some_iff.1 hg).1, fun i k hi hk => ?_⟩
    have := hc (i * 3 + k) _ (flat_at xs i k hi hk)
    rw [addr_add] at this
    rw [Nat.add_assoc]
    exact this
theorem FrsV.ext {w w' : World} {v : Value} {xs : List FrX} (h : FrsV w v xs) (k : Ext w w') : FrsV w' v xs := by
  obtain ⟨A, cap, h1, h2, h3, h4, h5⟩ := h
  exact ⟨A, cap, h1, h2, h3, h4.ext k, fun x hx => (h5 x hx).ext k⟩
end Go.Proofs.Ytjnnkcnnandeeaa
namespace Go.Proofs.Ytjnnkcnnandeeaa
open Go.RowKit Go.Shelf
theorem Own.grown {w w' : World} {base : Nat} {e : TypeId} {size : Nat} {v : Value} {n : Nat} {xs : List Value} {row : Option Nat} (h : Own w base e size v n xs) (g : w.grownBy w' row) (hr : ∀ k, v.ownBlock = some k → row ≠ some k) : Own w' base e size v n xs :=
  Own.keep h fun k hk => g.block k (Own.block h k hk).2 (fun e => hr k hk e.symm)
theorem IntsV.grown {w w' : World} {k : IntKind} {v : Value} {l : List Int} {row : Option Nat} (h : IntsV w k v l) (g : w.grownBy w' row) (hr : ∀ j, v.ownBlock = some j → row ≠ some j) : IntsV w' k v l := by
  obtain ⟨A, cap, rfl, h1, h2, h3⟩ := h
  refine ⟨A, cap, rfl, h1, h2, fun hn => ?_⟩
  obtain ⟨b, off, rfl, hb, hc⟩ := h3 hn
  refine ⟨b, off, rfl, Nat.lt_of_lt_of_le hb g.size, fun j hj => ?_⟩
  have := hc j hj
  unfold World.cell? at this ⊢
  rw [show w'.heap[(⟨b, off + j, none⟩ : Addr).block]? = w.heap[b]? from g.block b hb (fun e => hr b rfl e.symm)]
  exact this
theorem Src.grown {w w' : World} {g m size : Nat} {xs : List Value} {row : Option Nat} (h : Src w (some ⟨g, 0, none⟩) m size xs) (k : w.grownBy w' row) (hr : row ≠ some g) : Src w' (some ⟨g, 0, none⟩) m size xs := by
  refine ⟨h.1, fun hm => ?_⟩
  obtain ⟨ad, e, hc⟩ := h.2 hm
  injection e with e
  subst e
  refine ⟨_, rfl, fun j u hu => ?_⟩
  have := hc j u hu
  have hb := World.block_lt_of_cell? w _ this
  rw [addr_add] at this hb ⊢
  unfold World.cell? at this ⊢
  rw [show w'.heap[(⟨g, 0 + j, none⟩ : Addr).block]? = w.heap[g]? from k.block g hb (fun e => hr e.symm)]
  exact this
def put8 (T : Array Value) (x26 x27 x28 x29 x30 x31 x32 x33 : Value) : Array Value :=
  (((((((T.setIfInBounds 26 x26).setIfInBounds 27 x27).setIfInBounds 28 x28).setIfInBounds 29 x29).setIfInBounds 30 x30).setIfInBounds 31 x31).setIfInBounds 32 x32).setIfInBounds 33 x33
/-- What the two lists hold while the region is under way. -/
structure R7 (n B sz : Nat) (G : Nat → Prop) (w W2 : World) (pre : List FrX) (x : FrX) (ms : List Int) (nx : Int) (lv nv : Value) (b : Nat → Bool) (x26 x27 x28 x29 x30 x31 x32 x33 : Value) (W : World) : Prop where
  ord : (b 7 = true → b 3 = true) ∧ (b 8 = true → b 7 = true) ∧ (b 9 = true → b 8 = true)
  from2 : KeepsFrom sz W2 W
  keepG : KeepG G W2 W
  ext : Ext w W
  size : n + 10 ≤ W.heap.size
  bL : Boxed W (n + 2) 46 (if b 8 = true then x29 else lv)
  bN : Boxed W (n + 3) 29 (if b 9 = true then x33 else nv)
  bE : Boxed W (n + 4) 30 (.int .i64 0)
  bX : Boxed W (n + 5) 3 (.int .i64 nx)
  box : b 3 = false → W.heap[B]? = some (.cells x.cells.toArray 59 (0, 0))
  v26 : b 0 = true → x26 = lv
  v27 : b 1 = true → x27 = .agg x.cells.toArray
  v30 : b 4 = true → x30 = nv
  v31 : b 5 = true → x31 = .int .i64 nx
  v28 : b 2 = true → b 3 = false → ∃ g, x28 = .slice (some ⟨g, 0, none⟩) 1 1 ∧ Src W (some ⟨g, 0, none⟩) 1 3 x.cells
  v32 : b 6 = true → b 7 = false → ∃ g, x32 = .slice (some ⟨g, 0, none⟩) 1 1 ∧ Src W (some ⟨g, 0, none⟩) 1 1 [.int .i64 nx] ∧ g < W.heap.size ∧ (if b 3 = true then x29 else lv).ownBlock ≠ some g
  ownL : Own W (n + 10) 59 3 (if b 3 = true then x29 else lv) (if b 3 = true then pre.length + 1 else pre.length) (if b 3 = true then pre.flatMap FrX.cells ++ x.cells else pre.flatMap FrX.cells)
  ownN : Own W (n + 10) 3 1 (if b 7 = true then x33 else nv) (if b 7 = true then pre.length + 1 else pre.length) (if b 7 = true then ms.map (Value.int .i64) ++ [.int .i64 nx] else ms.map (Value.int .i64))
  apart : ∀ k, (if b 3 = true then x29 else lv).ownBlock = some k → (if b 7 = true then x33 else nv).ownBlock ≠ some k
  words : ∀ y ∈ pre ++ [x], IntsV W .i64 y.2 y.1.words ∧ ∀ k, y.2.ownBlock = some k → n + 10 ≤ k ∧ k < W.heap.size ∧ (if b 3 = true then x29 else lv).ownBlock ≠ some k ∧ (if b 7 = true then x33 else nv).ownBlock ≠ some k
section
variable {n B sz : Nat} {G : Nat → Prop} {w W2 : World} {pre : List FrX} {x : FrX} {ms : List Int} {nx : Int} {lv nv : Value} {b b' : Nat → Bool} {x26 x27 x28 x29 x30 x31 x32 x33 : Value} {W W' : World}
theorem R7.s0 (h : R7 n B sz G w W2 pre x ms nx lv nv b x26 x27 x28 x29 x30 x31 x32 x33 W) (hb : ∀ j, b' j = if j = 0 then true else b j) : R7 n B sz G w W2 pre x ms nx lv nv b' lv x27 x28 x29 x30 x31 x32 x33 W := by
  have e0 : b' 0 = true := by rw [hb, if_pos rfl]
  have e1 : b' 1 = b 1 := by rw [hb, if_neg (by decide)]
  have e2 : b' 2 = b 2 := by rw [hb, if_neg (by decide)]
  have e3 : b' 3 = b 3 := by rw [hb, if_neg (by decide)]
  have e4 : b' 4 = b 4 := by rw [hb, if_neg (by decide)]
  have e5 : b' 5 = b 5 := by rw [hb, if_neg (by decide)]
  have e6 : b' 6 = b 6 := by rw [hb, if_neg (by decide)]
  have e7 : b' 7 = b 7 := by rw [hb, if_neg (by decide)]
  have e8 : b' 8 = b 8 := by rw [hb, if_neg (by decide)]
  have e9 : b' 9 = b 9 := by rw [hb, if_neg (by decide)]
  constructor
  all_goals try simp only [e0, e1, e2, e3, e4, e5, e6, e7, e8, e9]
  all_goals first
    | exact h.ord
    | exact h.from2
    | exact h.keepG
    | exact h.ext
    | exact h.size
    | exact h.bL
    | exact h.bN
    | exact h.bE
    | exact h.bX
    | exact h.box
    | exact h.v26
    | exact h.v27
    | exact h.v30
    | exact h.v31
    | exact h.v28
    | exact h.v32
    | exact h.ownL
    | exact h.ownN
    | exact h.apart
    | exact h.words
    | exact fun _ => rfl
    | exact fun _ => trivial
theorem R7.s1 (h : R7 n B sz G w W2 pre x ms nx lv nv b x26 x27 x28 x29 x30 x31 x32 x33 W) (hb : ∀ j, b' j = if j = 1 then true else b j) : R7 n B sz G w W2 pre x ms nx lv nv b' x26 (.agg x.cells.toArray) x28 x29 x30 x31 x32 x33 W := by
  have e0 : b' 0 = b 0 := by rw [hb, if_neg (by decide)]
  have e1 : b' 1 = true := by rw [hb, if_pos rfl]
  have e2 : b' 2 = b 2 := by rw [hb, if_neg (by decide)]
  have e3 : b' 3 = b 3 := by rw [hb, if_neg (by decide)]
  have e4 : b' 4 = b 4 := by rw [hb, if_neg (by decide)]
  have e5 : b' 5 = b 5 := by rw [hb, if_neg (by decide)]
  have e6 : b' 6 = b 6 := by rw [hb, if_neg (by decide)]
  have e7 : b' 7 = b 7 := by rw [hb, if_neg (by decide)]
  have e8 : b' 8 = b 8 := by rw [hb, if_neg (by decide)]
  have e9 : b' 9 = b 9 := by rw [hb, if_neg (by decide)]
  constructor
  all_goals try simp only [e0, e1, e2, e3, e4, e5, e6, e7, e8, e9]
  all_goals first
    | exact h.ord
    | exact h.from2
    | exact h.keepG
    | exact h.ext
    | exact h.size
    | exact h.bL
    | exact h.bN
    | exact h.bE
    | exact h.bX
    | exact h.box
    | exact h.v26
    | exact h.v27
    | exact h.v30
    | exact h.v31
    | exact h.v28
    | exact h.v32
    | exact h.ownL
    | exact h.ownN
    | exact h.apart
    | exact h.words
    | exact fun _ => rfl
    | exact fun _ => trivial
theorem R7.s4 (h : R7 n B sz G w W2 pre x ms nx lv nv b x26 x27 x28 x29 x30 x31 x32 x33 W) (hb : ∀ j, b' j = if j = 4 then true else b j) : R7 n B sz G w W2 pre x ms nx lv nv b' x26 x27 x28 x29 nv x31 x32 x33 W := by
  have e0 : b' 0 = b 0 := by rw [hb, if_neg (by decide)]
  have e1 : b' 1 = b 1 := by rw [hb, if_neg (by decide)]
  have e2 : b' 2 = b 2 := by rw [hb, if_neg (by decide)]
  have e3 : b' 3 = b 3 := by rw [hb, if_neg (by decide)]
  have e4 : b' 4 = true := by rw [hb, if_pos rfl]
  have e5 : b' 5 = b 5 := by rw [hb, if_neg (by decide)]
  have e6 : b' 6 = b 6 := by rw [hb, if_neg (by decide)]
  have e7 : b' 7 = b 7 := by rw [hb, if_neg (by decide)]
  have e8 : b' 8 = b 8 := by rw [hb, if_neg (by decide)]
  have e9 : b' 9 = b 9 := by rw [hb, if_neg (by decide)]
  constructor
  all_goals try simp only [e0, e1, e2, e3, e4, e5, e6, e7, e8, e9]
  all_goals first
    | exact h.ord
    | exact h.from2
    | exact h.keepG
    | exact h.ext
    | exact h.size
    | exact h.bL
    | exact h.bN
    | exact h.bE
    | exact h.bX
    | exact h.box
    | exact h.v26
    | exact h.v27
    | exact h.v30
    | exact h.v31
    | exact h.v28
    | exact h.v32
    | exact h.ownL
    | exact h.ownN
    | exact h.apart
    | exact h.words
    | exact fun _ => rfl
    | exact fun _ => trivial
theorem R7.s5 (h : R7 n B sz G w W2 pre x ms nx lv nv b x26 x27 x28 x29 x30 x31 x32 x33 W) (hb : ∀ j, b' j = if j = 5 then true else b j) : R7 n B sz G w W2 pre x ms nx lv nv b' x26 x27 x28 x29 x30 (.int .i64 nx) x32 x33 W := by
  have e0 : b' 0 = b 0 := by rw [hb, if_neg (by decide)]
  have e1 : b' 1 = b 1 := by rw [hb, if_neg (by decide)]
  have e2 : b' 2 = b 2 := by rw [hb, if_neg (by decide)]
  have e3 : b' 3 = b 3 := by rw [hb, if_neg (by decide)]
  have e4 : b' 4 = b 4 := by rw [hb, if_neg (by decide)]
  have e5 : b' 5 = true := by rw [hb, if_pos rfl]
  have e6 : b' 6 = b 6 := by rw [hb, if_neg (by decide)]
  have e7 : b' 7 = b 7 := by rw [hb, if_neg (by decide)]
  have e8 : b' 8 = b 8 := by rw [hb, if_neg (by decide)]
  have e9 : b' 9 = b 9 := by rw [hb, if_neg (by decide)]
  constructor
  all_goals try simp only [e0, e1, e2, e3, e4, e5, e6, e7, e8, e9]
  all_goals first
    | exact h.ord
    | exact h.from2
    | exact h.keepG
    | exact h.ext
    | exact h.size
    | exact h.bL
    | exact h.bN
    | exact h.bE
    | exact h.bX
    | exact h.box
    | exact h.v26
    | exact h.v27
    | exact h.v30
    | exact h.v31
    | exact h.v28
    | exact h.v32
    | exact h.ownL
    | exact h.ownN
    | exact h.apart
    | exact h.words
    | exact fun _ => rfl
    | exact fun _ => trivial
theorem R7.grow (h : R7 n B sz G w W2 pre x ms nx lv nv b x26 x27 x28 x29 x30 x31 x32 x33 W) (hx : Ext W W') (hG : ∀ k, G k → k < n + 10) : R7 n B sz G w W2 pre x ms nx lv nv b x26 x27 x28 x29 x30 x31 x32 x33 W' :=
  ⟨h.ord, h.from2.trans ⟨hx.size, fun k o _ hk _ => (Below.block hx k (Array.getElem?_eq_some_iff.1 hk).1).trans hk⟩, h.keepG.trans (fun k hk => Below.block hx k (Nat.lt_of_lt_of_le (hG k hk) h.size)), h.ext.trans hx, Nat.le_trans h.size hx.size,
    (Below.block hx _ (Boxed.lt h.bL)).trans h.bL, (Below.block hx _ (Boxed.lt h.bN)).trans h.bN, (Below.block hx _ (Boxed.lt h.bE)).trans h.bE, (Below.block hx _ (Boxed.lt h.bX)).trans h.bX,
    fun h3 => (Below.block hx _ (Array.getElem?_eq_some_iff.1 (h.box h3)).1).trans (h.box h3), h.v26, h.v27, h.v30, h.v31,
    fun h2 h3 => by obtain ⟨g, e, hs⟩ := h.v28 h2 h3; exact ⟨g, e, hs.ext hx⟩,
    fun h2 h3 => by obtain ⟨g, e, hs, hg, hn⟩ := h.v32 h2 h3; exact ⟨g, e, hs.ext hx, Nat.lt_of_lt_of_le hg hx.size, hn⟩,
    h.ownL.ext hx, h.ownN.ext hx, h.apart, fun y hy => ⟨(h.words y hy).1.ext hx, fun k hk => ⟨((h.words y hy).2 k hk).1, Nat.lt_of_lt_of_le ((h.words y hy).2 k hk).2.1 hx.size, ((h.words y hy).2 k hk).2.2⟩⟩⟩
theorem R7.s2 (h : R7 n B sz G w W2 pre x ms nx lv nv b x26 x27 x28 x29 x30 x31 x32 x33 W) {g : Nat} (hs : Src W (some ⟨g, 0, none⟩) 1 3 x.cells) (hb : ∀ j, b' j = if j = 2 then true else b j) : R7 n B sz G w W2 pre x ms nx lv nv b' x26 x27 (.slice (some ⟨g, 0, none⟩) 1 1) x29 x30 x31 x32 x33 W := by
  have e0 : b' 0 = b 0 := by rw [hb, if_neg (by decide)]
  have e1 : b' 1 = b 1 := by rw [hb, if_neg (by decide)]
  have e2 : b' 2 = true := by rw [hb, if_pos rfl]
  have e3 : b' 3 = b 3 := by rw [hb, if_neg (by decide)]
  have e4 : b' 4 = b 4 := by rw [hb, if_neg (by decide)]
  have e5 : b' 5 = b 5 := by rw [hb, if_neg (by decide)]
  have e6 : b' 6 = b 6 := by rw [hb, if_neg (by decide)]
  have e7 : b' 7 = b 7 := by rw [hb, if_neg (by decide)]
  have e8 : b' 8 = b 8 := by rw [hb, if_neg (by decide)]
  have e9 : b' 9 = b 9 := by rw [hb, if_neg (by decide)]
  constructor
  all_goals try simp only [e0, e1, e2, e3, e4, e5, e6, e7, e8, e9]
  all_goals first
    | exact h.ord
    | exact h.from2
    | exact h.keepG
    | exact h.ext
    | exact h.size
    | exact h.bL
    | exact h.bN
    | exact h.bE
    | exact h.bX
    | exact h.box
    | exact h.v26
    | exact h.v27
    | exact h.v30
    | exact h.v31
    | exact h.v28
    | exact h.v32
    | exact h.ownL
    | exact h.ownN
    | exact h.apart
    | exact h.words
    | exact fun _ _ => ⟨g, rfl, hs⟩
    | exact fun _ => ⟨g, rfl, hs⟩
theorem R7.s6 (h : R7 n B sz G w W2 pre x ms nx lv nv b x26 x27 x28 x29 x30 x31 x32 x33 W) {g : Nat} (hs : Src W (some ⟨g, 0, none⟩) 1 1 [.int .i64 nx]) (hg : g < W.heap.size) (hl : (if b 3 = true then x29 else lv).ownBlock ≠ some g) (hb : ∀ j, b' j = if j = 6 then true else b j) : R7 n B sz G w W2 pre x ms nx lv nv b' x26 x27 x28 x29 x30 x31 (.slice (some ⟨g, 0, none⟩) 1 1) x33 W := by
  have e0 : b' 0 = b 0 := by rw [hb, if_neg (by decide)]
  have e1 : b' 1 = b 1 := by rw [hb, if_neg (by decide)]
  have e2 : b' 2 = b 2 := by rw [hb, if_neg (by decide)]
  have e3 : b' 3 = b 3 := by rw [hb, if_neg (by decide)]
  have e4 : b' 4 = b 4 := by rw [hb, if_neg (by decide)]
  have e5 : b' 5 = b 5 := by rw [hb, if_neg (by decide)]
  have e6 : b' 6 = true := by rw [hb, if_pos rfl]
  have e7 : b' 7 = b 7 := by rw [hb, if_neg (by decide)]
  have e8 : b' 8 = b 8 := by rw [hb, if_neg (by decide)]
  have e9 : b' 9 = b 9 := by rw [hb, if_neg (by decide)]
  constructor
  all_goals try simp only [e0, e1, e2, e3, e4, e5, e6, e7, e8, e9]
  all_goals first
    | exact h.ord
    | exact h.from2
    | exact h.keepG
    | exact h.ext
    | exact h.size
    | exact h.bL
    | exact h.bN
    | exact h.bE
    | exact h.bX
    | exact h.box
    | exact h.v26
    | exact h.v27
    | exact h.v30
    | exact h.v31
    | exact h.v28
    | exact h.v32
    | exact h.ownL
    | exact h.ownN
    | exact h.apart
    | exact h.words
    | exact fun _ _ => ⟨g, rfl, hs, hg, hl⟩
    | exact fun _ => ⟨g, rfl, hs, hg, hl⟩
theorem keepsFrom_own {base e size m : Nat} {v : Value} {ys : List Value} (ho : Own W base e size v m ys) (hg : W.grownBy W' v.ownBlock) (k : Nat) : KeepsFrom k W W' :=
  ⟨hg.size, fun j o _ hj hc => by
    by_cases hjv : some j = v.ownBlock
    · rcases ho.2 with ⟨rfl, _⟩ | ⟨g, cap, cur, lo, hi, rfl, hb, hgc, _⟩
      · simp [Value.ownBlock] at hjv
      · simp [Value.ownBlock] at hjv
        subst hjv
        rw [hgc] at hj
        injection hj with hj
        subst hj
        cases hc
    · exact (hg.block j (Array.getElem?_eq_some_iff.1 hj).1 hjv).trans hj⟩
theorem R7.s3 (h : R7 n B sz G w W2 pre x ms nx lv nv b x26 x27 x28 x29 x30 x31 x32 x33 W) (h3 : b 3 = false) {v' : Value} (hown : Own W' (n + 10) 59 3 v' (pre.length + 1) (pre.flatMap FrX.cells ++ x.cells)) (hg : W.grownBy W' lv.ownBlock)
    (hv : v'.ownBlock = lv.ownBlock ∨ v'.ownBlock = some W.heap.size) (hG : ∀ k, G k → k < n + 10) (hwn : w.heap.size ≤ n + 10) (hb : ∀ j, b' j = if j = 3 then true else b j) : R7 n B sz G w W2 pre x ms nx lv nv b' x26 x27 x28 v' x30 x31 x32 x33 W' := by
  have h7 : b 7 = false := by cases hh : b 7 with | false => rfl | true => have := h.ord.1 hh; rw [h3] at this; exact this.symm
  have h8 : b 8 = false := by cases hh : b 8 with | false => rfl | true => have := h.ord.2.1 hh; rw [h7] at this; exact this.symm
  have h9 : b 9 = false := by cases hh : b 9 with | false => rfl | true => have := h.ord.2.2 hh; rw [h8] at this; exact this.symm
  have e3 : b' 3 = true := by rw [hb, if_pos rfl]
  have e0 : b' 0 = b 0 := by rw [hb, if_neg (by decide)]
  have e1 : b' 1 = b 1 := by rw [hb, if_neg (by decide)]
  have e4 : b' 4 = b 4 := by rw [hb, if_neg (by decide)]
  have e5 : b' 5 = b 5 := by rw [hb, if_neg (by decide)]
  have e6 : b' 6 = b 6 := by rw [hb, if_neg (by decide)]
  have e7 : b' 7 = false := by rw [hb, if_neg (by decide)]; exact h7
  have e8 : b' 8 = false := by rw [hb, if_neg (by decide)]; exact h8
  have e9 : b' 9 = false := by rw [hb, if_neg (by decide)]; exact h9
  have hL := h.ownL
  have hN := h.ownN
  have hap := h.apart
  have hwd := h.words
  have hbl := h.bL
  have hbn := h.bN
  have h32 := h.v32
  simp only [h3, h7, h8, h9, Bool.false_eq_true, if_false] at hL hN hap hwd hbl hbn h32
  have hlb : ∀ k, lv.ownBlock = some k → n + 10 ≤ k := fun k hk => (hL.block k hk).1
  have hne : ∀ k, k < n + 10 → some k ≠ lv.ownBlock := fun k hk he => by have := hlb k he.symm; omega
  have hvn : ∀ k, k < W.heap.size → lv.ownBlock ≠ some k → v'.ownBlock ≠ some k := fun k hk hl => by
    rcases hv with hv | hv
    · rw [hv]; exact hl
    · rw [hv]; intro e; injection e with e; omega
  refine ⟨?_, h.from2.trans (keepsFrom_own hL hg _), h.keepG.trans (fun k hk => hg.block k (Nat.lt_of_lt_of_le (hG k hk) h.size) (hne k (hG k hk))), h.ext.step ((Below.refl (n + 10) W).grown hg h.size hlb) hwn, Nat.le_trans h.size hg.size, ?_, ?_, Boxed.kept h.bE hg (hne _ (by omega)), Boxed.kept h.bX hg (hne _ (by omega)), ?_, ?_, ?_, ?_, ?_, ?_, ?_, ?_, ?_, ?_, ?_⟩
  · rw [e7, e8, e9, e3]; simp
  · rw [e8]; exact Boxed.kept hbl hg (hne _ (by omega))
  · rw [e9]; exact Boxed.kept hbn hg (hne _ (by omega))
  · rw [e3]; intro hh; cases hh
  · rw [e0]; exact h.v26
  · rw [e1]; exact h.v27
  · rw [e4]; exact h.v30
  · rw [e5]; exact h.v31
  · rw [e3]; intro _ hh; cases hh
  · rw [e6]
    intro hh _
    obtain ⟨g, e, hs, hgw, hgl⟩ := h32 hh trivial
    refine ⟨g, e, hs.grown hg hgl, Nat.lt_of_lt_of_le hgw hg.size, ?_⟩
    rw [e3]; exact hvn g hgw hgl
  · rw [e3]; exact hown
  · rw [e7]; exact hN.grown hg (fun k hk he => hap k he hk)
  · rw [e3, e7]
    intro k hk hnk
    have hkn := (hN.block k hnk).2
    rcases hv with hv | hv
    · exact hap k (hv ▸ hk) hnk
    · have hk' : v'.ownBlock = some k := hk
      rw [hv] at hk'; injection hk' with hk'; omega
  · rw [e3, e7]
    intro y hy
    refine ⟨(hwd y hy).1.grown hg (fun k hk => ((hwd y hy).2 k hk).2.2.1), fun k hk => ?_⟩
    have := (hwd y hy).2 k hk
    exact ⟨this.1, Nat.lt_of_lt_of_le this.2.1 hg.size, hvn k this.2.1 this.2.2.1, this.2.2.2⟩
theorem R7.s7 (h : R7 n B sz G w W2 pre x ms nx lv nv b x26 x27 x28 x29 x30 x31 x32 x33 W) (h3 : b 3 = true) (h7 : b 7 = false) {v' : Value} (hown : Own W' (n + 10) 3 1 v' (pre.length + 1) (ms.map (Value.int .i64) ++ [.int .i64 nx])) (hg : W.grownBy W' nv.ownBlock)
    (hv : v'.ownBlock = nv.ownBlock ∨ v'.ownBlock = some W.heap.size) (hG : ∀ k, G k → k < n + 10) (hwn : w.heap.size ≤ n + 10) (hb : ∀ j, b' j = if j = 7 then true else b j) : R7 n B sz G w W2 pre x ms nx lv nv b' x26 x27 x28 x29 x30 x31 x32 v' W' := by
  have h8 : b 8 = false := by cases hh : b 8 with | false => rfl | true => have := h.ord.2.1 hh; rw [h7] at this; exact this.symm
  have h9 : b 9 = false := by cases hh : b 9 with | false => rfl | true => have := h.ord.2.2 hh; rw [h8] at this; exact this.symm
  have e7 : b' 7 = true := by rw [hb, if_pos rfl]
  have e0 : b' 0 = b 0 := by rw [hb, if_neg (by decide)]
  have e1 : b' 1 = b 1 := by rw [hb, if_neg (by decide)]
  have e4 : b' 4 = b 4 := by rw [hb, if_neg (by decide)]
  have e5 : b' 5 = b 5 := by rw [hb, if_neg (by decide)]
  have e3 : b' 3 = true := by rw [hb, if_neg (by decide)]; exact h3
  have e8 : b' 8 = false := by rw [hb, if_neg (by decide)]; exact h8
  have e9 : b' 9 = false := by rw [hb, if_neg (by decide)]; exact h9
  have hL := h.ownL
  have hN := h.ownN
  have hap := h.apart
  have hwd := h.words
  have hbl := h.bL
  have hbn := h.bN
  simp only [h3, h7, h8, h9, Bool.false_eq_true, if_false, if_true] at hL hN hap hwd hbl hbn
  have hlb : ∀ k, nv.ownBlock = some k → n + 10 ≤ k := fun k hk => (hN.block k hk).1
  have hne : ∀ k, k < n + 10 → some k ≠ nv.ownBlock := fun k hk he => by have := hlb k he.symm; omega
  have hvn : ∀ k, k < W.heap.size → nv.ownBlock ≠ some k → v'.ownBlock ≠ some k := fun k hk hl => by
    rcases hv with hv | hv
    · rw [hv]; exact hl
    · rw [hv]; intro e; injection e with e; omega
  refine ⟨?_, h.from2.trans (keepsFrom_own hN hg _), h.keepG.trans (fun k hk => hg.block k (Nat.lt_of_lt_of_le (hG k hk) h.size) (hne k (hG k hk))), h.ext.step ((Below.refl (n + 10) W).grown hg h.size hlb) hwn, Nat.le_trans h.size hg.size, ?_, ?_, Boxed.kept h.bE hg (hne _ (by omega)), Boxed.kept h.bX hg (hne _ (by omega)), ?_, ?_, ?_, ?_, ?_, ?_, ?_, ?_, ?_, ?_, ?_⟩
  · rw [e7, e8, e9, e3]; simp
  · rw [e8]; exact Boxed.kept hbl hg (hne _ (by omega))
  · rw [e9]; exact Boxed.kept hbn hg (hne _ (by omega))
  · rw [e3]; intro hh; cases hh
  · rw [e0]; exact h.v26
  · rw [e1]; exact h.v27
  · rw [e4]; exact h.v30
  · rw [e5]; exact h.v31
  · rw [e3]; intro _ hh; cases hh
  · rw [e7]; intro _ hh; cases hh
  · rw [e3]; exact hL.grown hg (fun k hk he => hap k hk he)
  · rw [e7]; exact hown
  · rw [e3, e7]
    intro k hk hnk
    have hkn := (hL.block k hk).2
    rcases hv with hv | hv
    · exact hap k hk (hv ▸ hnk)
    · have hk' : v'.ownBlock = some k := hnk
      rw [hv] at hk'; injection hk' with hk'; omega
  · rw [e3, e7]
    intro y hy
    refine ⟨(hwd y hy).1.grown hg (fun k hk => ((hwd y hy).2 k hk).2.2.2), fun k hk => ?_⟩
    have := (hwd y hy).2 k hk
    exact ⟨this.1, Nat.lt_of_lt_of_le this.2.1 hg.size, this.2.2.1, hvn k this.2.1 this.2.2.2⟩
theorem R7.s8 (h : R7 n B sz G w W2 pre x ms nx lv nv b x26 x27 x28 x29 x30 x31 x32 x33 W) (h7 : b 7 = true) (h9 : b 9 = false) (hG : ∀ k, G k → k < n + 10 ∧ k ≠ n + 2) (hwn : w.heap.size ≤ n) (hb : ∀ j, b' j = if j = 8 then true else b j) : R7 n B sz G w W2 pre x ms nx lv nv b' x26 x27 x28 x29 x30 x31 x32 x33 (W.setCell ⟨n + 2, 0, none⟩ x29) := by
  have h3 : b 3 = true := h.ord.1 h7
  have e0 : b' 0 = b 0 := by rw [hb, if_neg (by decide)]
  have e1 : b' 1 = b 1 := by rw [hb, if_neg (by decide)]
  have e3 : b' 3 = true := by rw [hb, if_neg (by decide)]; exact h3
  have e4 : b' 4 = b 4 := by rw [hb, if_neg (by decide)]
  have e5 : b' 5 = b 5 := by rw [hb, if_neg (by decide)]
  have e7 : b' 7 = true := by rw [hb, if_neg (by decide)]; exact h7
  have e8 : b' 8 = true := by rw [hb, if_pos rfl]
  have e9 : b' 9 = false := by rw [hb, if_neg (by decide)]; exact h9
  have hg := grownBy_setCell' W (n + 2) x29
  have hL := h.ownL
  have hN := h.ownN
  have hap := h.apart
  have hwd := h.words
  have hbl := h.bL
  have hbn := h.bN
  simp only [h3, h7, h9, Bool.false_eq_true, if_false, if_true] at hL hN hap hwd hbl hbn
  refine ⟨?_, h.from2.trans ((KeepsOthers.setCell _ _ _).from _), h.keepG.trans (fun k hk => hg.block k (Nat.lt_of_lt_of_le (hG k hk).1 h.size) (fun e => (hG k hk).2 (by injection e))), h.ext.setCell (p := ⟨n + 2, 0, none⟩) (by show w.heap.size ≤ n + 2; omega) _, Nat.le_trans h.size hg.size, ?_, ?_, Boxed.other h.bE (by omega) _, Boxed.other h.bX (by omega) _, ?_, ?_, ?_, ?_, ?_, ?_, ?_, ?_, ?_, ?_, ?_⟩
  · rw [e7, e8, e9, e3]; simp
  · rw [e8]; exact Boxed.set _ hbl
  · rw [e9]; exact Boxed.other hbn (by omega) _
  · rw [e3]; intro hh; cases hh
  · rw [e0]; exact h.v26
  · rw [e1]; exact h.v27
  · rw [e4]; exact h.v30
  · rw [e5]; exact h.v31
  · rw [e3]; intro _ hh; cases hh
  · rw [e7]; intro _ hh; cases hh
  · rw [e3]; exact hL.grown hg (fun k hk he => by have := (hL.block k hk).1; injection he with he; omega)
  · rw [e7]; exact hN.grown hg (fun k hk he => by have := (hN.block k hk).1; injection he with he; omega)
  · rw [e3, e7]; exact hap
  · rw [e3, e7]
    intro y hy
    refine ⟨(hwd y hy).1.grown hg (fun k hk he => by have := ((hwd y hy).2 k hk).1; injection he with he; omega), fun k hk => ?_⟩
    have := (hwd y hy).2 k hk
    exact ⟨this.1, Nat.lt_of_lt_of_le this.2.1 hg.size, this.2.2⟩
theorem R7.s9 (h : R7 n B sz G w W2 pre x ms nx lv nv b x26 x27 x28 x29 x30 x31 x32 x33 W) (h7 : b 7 = true) (h8 : b 8 = true) (hG : ∀ k, G k → k < n + 10 ∧ k ≠ n + 3) (hwn : w.heap.size ≤ n) (hb : ∀ j, b' j = if j = 9 then true else b j) : R7 n B sz G w W2 pre x ms nx lv nv b' x26 x27 x28 x29 x30 x31 x32 x33 (W.setCell ⟨n + 3, 0, none⟩ x33) := by
  have h3 : b 3 = true := h.ord.1 h7
  have e0 : b' 0 = b 0 := by rw [hb, if_neg (by decide)]
  have e1 : b' 1 = b 1 := by rw [hb, if_neg (by decide)]
  have e3 : b' 3 = true := by rw [hb, if_neg (by decide)]; exact h3
  have e4 : b' 4 = b 4 := by rw [hb, if_neg (by decide)]
  have e5 : b' 5 = b 5 := by rw [hb, if_neg (by decide)]
  have e7 : b' 7 = true := by rw [hb, if_neg (by decide)]; exact h7
  have e8 : b' 8 = true := by rw [hb, if_neg (by decide)]; exact h8
  have e9 : b' 9 = true := by rw [hb, if_pos rfl]
  have hg := grownBy_setCell' W (n + 3) x33
  have hL := h.ownL
  have hN := h.ownN
  have hap := h.apart
  have hwd := h.words
  have hbl := h.bL
  have hbn := h.bN
  simp only [h3, h7, h8, if_true] at hL hN hap hwd hbl hbn
  refine ⟨?_, h.from2.trans ((KeepsOthers.setCell _ _ _).from _), h.keepG.trans (fun k hk => hg.block k (Nat.lt_of_lt_of_le (hG k hk).1 h.size) (fun e => (hG k hk).2 (by injection e))), h.ext.setCell (p := ⟨n + 3, 0, none⟩) (by show w.heap.size ≤ n + 3; omega) _, Nat.le_trans h.size hg.size, ?_, ?_, Boxed.other h.bE (by omega) _, Boxed.other h.bX (by omega) _, ?_, ?_, ?_, ?_, ?_, ?_, ?_, ?_, ?_, ?_, ?_⟩
  · rw [e7, e8, e9, e3]; simp
  · rw [e8]; exact Boxed.other hbl (by omega) _
  · rw [e9]; exact Boxed.set _ hbn
  · rw [e3]; intro hh; cases hh
  · rw [e0]; exact h.v26
  · rw [e1]; exact h.v27
  · rw [e4]; exact h.v30
  · rw [e5]; exact h.v31
  · rw [e3]; intro _ hh; cases hh
  · rw [e7]; intro _ hh; cases hh
  · rw [e3]; exact hL.grown hg (fun k hk he => by have := (hL.block k hk).1; injection he with he; omega)
  · rw [e7]; exact hN.grown hg (fun k hk he => by have := (hN.block k hk).1; injection he with he; omega)
  · rw [e3, e7]; exact hap
  · rw [e3, e7]
    intro y hy
    refine ⟨(hwd y hy).1.grown hg (fun k hk he => by have := ((hwd y hy).2 k hk).1; injection he with he; omega), fun k hk => ?_⟩
    have := (hwd y hy).2 k hk
    exact ⟨this.1, Nat.lt_of_lt_of_le this.2.1 hg.size, this.2.2⟩
end
theorem Boxed.ext {W W' : World} {B : Nat} {t : TypeId} {v : Value} (h : Boxed W B t v) (k : Ext W W') : Boxed W' B t v := (Below.block k B h.lt).trans h
theorem Boxed.turn {N : Nat} {W W' : World} {B : Nat} {t : TypeId} {v : Value} (h : Boxed W B t v) (k : Turn N W W') : Boxed W' B t v := k.block _ _ h (.inr rfl)
theorem cell_heap {W : World} {B : Nat} {c : Array Value} {t : TypeId} {fr : Nat × Nat} (h : W.heap[B]? = some (.cells c t fr)) (k : Nat) (v : Value) (hk : c[k]? = some v) : W.cell? ⟨B, k, none⟩ = some v := by
  unfold World.cell?
  rw [show W.heap[(⟨B, k, none⟩ : Addr).block]? = some (.cells c t fr) from h]
  simp [hk]
def ds (xs : List FrX) : List FrD := xs.map (·.1)
theorem nums_snoc (first : Int) (pre : List FrX) (x : FrD) (v : Value) : nums first (ds (pre ++ [(x, v)])) = nums first (ds pre) ++ [nextOf (after first (ds pre)) x.count] := by
  unfold ds
  rw [List.map_append, nums_append]; rfl
theorem after_snoc (first : Int) (pre : List FrX) (x : FrD) (v : Value) : after first (ds (pre ++ [(x, v)])) = nextOf (after first (ds pre)) x.count + 1 := by
  unfold ds
  rw [List.map_append, after_append]; rfl
theorem farB_snoc (l : List Int) (m : Int) : farB (l ++ [m]) = (farB l || decide (1000000 < m)) := by
  unfold farB; rw [List.any_append]; simp
/-- Between two rounds of read (n: the first block of its own). -/
structure RI (n : Nat) (w : World) (first : Int) (pre : List FrX) (W : World) (lv nv : Value) : Prop where
  bL : Boxed W (n + 2) 46 lv
  bN : Boxed W (n + 3) 29 nv
  bE : Boxed W (n + 4) 30 (.int .i64 0)
  bX : Boxed W (n + 5) 3 (.int .i64 (after first (ds pre)))
  far : farB (nums first (ds pre)) = false
  le : 0 ≤ after first (ds pre) ∧ after first (ds pre) ≤ 1000001
  ownL : Own W (n + 10) 59 3 lv pre.length (pre.flatMap FrX.cells)
  ownN : Own W (n + 10) 3 1 nv pre.length ((nums first (ds pre)).map (Value.int .i64))
  apart : ∀ k, lv.ownBlock = some k → nv.ownBlock ≠ some k
  words : ∀ x ∈ pre, IntsV W .i64 x.2 x.1.words ∧ ∀ k, x.2.ownBlock = some k → n + 10 ≤ k ∧ k < W.heap.size ∧ lv.ownBlock ≠ some k ∧ nv.ownBlock ≠ some k
  ext : Ext w W
theorem RI.turn {n : Nat} {w : World} {first : Int} {pre : List FrX} {W W' : World} {lv nv : Value} {B : Nat} (h : RI n w first pre W lv nv) (k : Turn B W W') (hB : w.heap.size ≤ B) : RI n w first pre W' lv nv :=
  ⟨Boxed.turn h.bL k, Boxed.turn h.bN k, Boxed.turn h.bE k, Boxed.turn h.bX k, h.far, h.le, k.own h.ownL, k.own h.ownN, h.apart, fun x hx => ⟨(h.words x hx).1.cext k.c, fun j hj => ⟨((h.words x hx).2 j hj).1, Nat.lt_of_lt_of_le ((h.words x hx).2 j hj).2.1 k.size, ((h.words x hx).2 j hj).2.2⟩⟩, k.below h.ext hB h.ext.size⟩
/-- What read leaves where a number is too great. -/
structure RX (n : Nat) (w : World) (first : Int) (c : Code) (pre : List FrX) (W : World) : Prop where
  c : c = .ret
  bL : Boxed W (n + 2) 46 (.slice none 0 0)
  bN : Boxed W (n + 3) 29 (.slice none 0 0)
  bE : Boxed W (n + 4) 30 (.int .i64 7)
  far : farB (nums first (ds pre)) = true
  ext : Ext w W
theorem RX.turn {n : Nat} {w : World} {first : Int} {c : Code} {pre : List FrX} {W W' : World} {B : Nat} (h : RX n w first c pre W) (k : Turn B W W') (hB : w.heap.size ≤ B) : RX n w first c pre W' :=
  ⟨h.c, Boxed.turn h.bL k, Boxed.turn h.bN k, Boxed.turn h.bE k, h.far, k.below h.ext hB h.ext.size⟩
section
variable {n B sz : Nat} {G : Nat → Prop} {w W2 : World} {first : Int} {pre : List FrX} {x : FrX} {nx : Int} {lv nv : Value} {b : Nat → Bool} {x26 x27 x28 x29 x30 x31 x32 x33 : Value} {W : World}
theorem R7.start (hI : RI n w first pre W2 lv nv) (hb : ∀ j, b j = false) (hG : ∀ k, G k → k < n + 10 ∧ k ≠ n + 5) (hwn : w.heap.size ≤ n) (hsz : n + 10 ≤ W2.heap.size) (hB : n + 10 ≤ B)
    (hbx : W2.heap[B]? = some (.cells x.cells.toArray 59 (0, 0))) (hx : IntsV W2 .i64 x.2 x.1.words) (hxk : ∀ k, x.2.ownBlock = some k → n + 10 ≤ k ∧ k < W2.heap.size ∧ lv.ownBlock ≠ some k ∧ nv.ownBlock ≠ some k) :
    R7 n B sz G w W2 pre x (nums first (ds pre)) nx lv nv b x26 x27 x28 x29 x30 x31 x32 x33 (W2.setCell ⟨n + 5, 0, none⟩ (.int .i64 nx)) := by
  have hg := grownBy_setCell' W2 (n + 5) (.int .i64 nx)
  refine ⟨by simp [hb], (KeepsOthers.setCell _ _ _).from _, fun k hk => hg.block k (Nat.lt_of_lt_of_le (hG k hk).1 hsz) (fun e => (hG k hk).2 (by injection e)), hI.ext.setCell (p := ⟨n + 5, 0, none⟩) (by show w.heap.size ≤ n + 5; omega) _, Nat.le_trans hsz hg.size, ?_, ?_, Boxed.other hI.bE (by omega) _, Boxed.set _ hI.bX, ?_, ?_, ?_, ?_, ?_, ?_, ?_, ?_, ?_, ?_, ?_⟩
  · rw [hb]; exact Boxed.other hI.bL (by omega) _
  · rw [hb]; exact Boxed.other hI.bN (by omega) _
  · intro _; exact (hg.block B (Array.getElem?_eq_some_iff.1 hbx).1 (fun e => by injection e with e; omega)).trans hbx
  · rw [hb]; intro h; cases h
  · rw [hb]; intro h; cases h
  · rw [hb]; intro h; cases h
  · rw [hb]; intro h; cases h
  · rw [hb]; intro h; cases h
  · rw [hb]; intro h; cases h
  · rw [hb]; exact hI.ownL.grown hg (fun k hk e => by have := (hI.ownL.block k hk).1; injection e with e; omega)
  · rw [hb]; exact hI.ownN.grown hg (fun k hk e => by have := (hI.ownN.block k hk).1; injection e with e; omega)
  · rw [hb, hb]; exact hI.apart
  · rw [hb, hb]
    intro y hy
    have hy' : IntsV W2 .i64 y.2 y.1.words ∧ ∀ k, y.2.ownBlock = some k → n + 10 ≤ k ∧ k < W2.heap.size ∧ lv.ownBlock ≠ some k ∧ nv.ownBlock ≠ some k := by
      rcases List.mem_append.1 hy with hy | hy
      · exact hI.words y hy
      · obtain rfl := List.mem_singleton.1 hy
        exact ⟨hx, hxk⟩
    refine ⟨hy'.1.grown hg (fun k hk e => by have := (hy'.2 k hk).1; injection e with e; omega), fun k hk => ?_⟩
    exact ⟨(hy'.2 k hk).1, Nat.lt_of_lt_of_le (hy'.2 k hk).2.1 hg.size, (hy'.2 k hk).2.2⟩
theorem R7.finish (h : R7 n B sz G w W2 pre x (nums first (ds pre)) nx lv nv b x26 x27 x28 x29 x30 x31 x32 x33 W) (hb : ∀ j, j < 10 → b j = true) (hnx : nextOf (after first (ds pre)) x.1.count = nx) (hfar : farB (nums first (ds pre)) = false) (h0 : 0 ≤ nx) (h1 : nx ≤ 1000000) (hwn : w.heap.size ≤ n) :
    RI n w first (pre ++ [x]) (W.setCell ⟨n + 5, 0, none⟩ (.int .i64 (nx + 1))) x29 x33 := by
  have e3 := hb 3 (by omega)
  have e7 := hb 7 (by omega)
  have e8 := hb 8 (by omega)
  have e9 := hb 9 (by omega)
  have hg := grownBy_setCell' W (n + 5) (.int .i64 (nx + 1))
  have hL := h.ownL
  have hN := h.ownN
  have hap := h.apart
  have hwd := h.words
  have hbl := h.bL
  have hbn := h.bN
  simp only [e3, e7, e8, e9, if_true] at hL hN hap hwd hbl hbn
  obtain ⟨xd, xv⟩ := x
  have hn := nums_snoc first pre xd xv
  have ha := after_snoc first pre xd xv
  dsimp only at hnx
  rw [hnx] at hn ha
  refine ⟨Boxed.other hbl (by omega) _, Boxed.other hbn (by omega) _, Boxed.other h.bE (by omega) _, ?_, ?_, ?_, ?_, ?_, hap, ?_, h.ext.setCell (p := ⟨n + 5, 0, none⟩) (by show w.heap.size ≤ n + 5; omega) _⟩
  · rw [ha]; exact Boxed.set _ h.bX
  · rw [hn, farB_snoc, hfar]; simp; omega
  · rw [ha]; omega
  · have := hL.grown hg (fun k hk e => by have := (hL.block k hk).1; injection e with e; omega)
    rw [List.flatMap_append, List.length_append]
    simpa using this
  · have := hN.grown hg (fun k hk e => by have := (hN.block k hk).1; injection e with e; omega)
    rw [hn, List.map_append, List.length_append]
    simpa using this
  · intro y hy
    refine ⟨(hwd y hy).1.grown hg (fun k hk he => by have := ((hwd y hy).2 k hk).1; injection he with he; omega), fun k hk => ?_⟩
    exact ⟨((hwd y hy).2 k hk).1, Nat.lt_of_lt_of_le ((hwd y hy).2 k hk).2.1 hg.size, ((hwd y hy).2 k hk).2.2⟩
theorem region_at {F : Fence} {m : Nat} {P : Program} {c : Code} {Q : Exit → Act → World → Prop} {a : Act} {w : World} (h : ∀ a0, a0 = a → c.wpIn F m P Q a0 w) : c.wpIn F m P Q a w := h a rfl
end
end Go.Proofs.Ytjnnkcnnandeeaa
