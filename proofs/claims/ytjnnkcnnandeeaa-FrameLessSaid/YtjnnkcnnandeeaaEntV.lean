/- Axes of a call's own, while they are built. What Axes answers, in plain words: the entries, one for each number; what a mask and a list of directions say of each other. Masks of 32 bits: the first, and one bit cleared; what a mask says of the last entry. An entry of Axes while it is built: a box with the number and a slice of its own; the bit of a mask. -/
import Derived.Test.YtjnnkcnnandeeaaWSameAxes
import Derived.Test.YtjnnkcnnandeeaaWRead
import Derived.Test.YtjnnkcnnandeeaaWTurned
import Derived.Test.YtjnnkcnnandeeaaWReps
namespace Go.Proofs.Ytjnnkcnnandeeaa
open Go.RowKit Go.Shelf
theorem axis_info : (Try.prog.info? 103).map (fun i => (i.zero, i.size, i.bytes)) = some (some (.agg #[.int .i64 0, .slice none 0 0]), 2, 32) := by kernel_rfl
def axC (x : AxX) : List Value := [.int .i64 x.1.1, x.2]
theorem axC_len (xs : List AxX) : (xs.flatMap axC).length = xs.length * 2 := by
  induction xs with
  | nil => rfl
  | cons p ps ih => rw [List.flatMap_cons, List.length_append, ih]; simp [axC]; omega
theorem axC_at (xs : List AxX) : ∀ (i k : Nat), i < xs.length → k < 2 → (xs.flatMap axC)[i * 2 + k]? = some ((xs.getD i default).cell k) := by
  induction xs with
  | nil => intro i k hi; simp at hi
  | cons p ps ih =>
    intro i k hi hk
    rw [List.flatMap_cons]
    cases i with
    | zero =>
      rw [List.getElem?_append_left (by simp [axC]; omega)]
      match k, hk with
      | 0, _ => rfl
      | 1, _ => rfl
    | succ i =>
      rw [List.getElem?_append_right (by simp [axC]; omega)]
      have : (i + 1) * 2 + k - (axC p).length = i * 2 + k := by simp [axC]; omega
      rw [this, ih i k (by simpa using hi) hk]
      rfl
/-- Axes that the call owns, each with a slice of its own. -/
def OutV (w : World) (base : Nat) (v : Value) (xs : List AxX) : Prop :=
  Own w base 103 2 v xs.length (xs.flatMap axC) ∧ ∀ x ∈ xs, Own w base 3 1 x.2 x.1.2.length (x.1.2.map (Value.int .i64)) ∧ ∀ g, x.2.ownBlock = some g → v.ownBlock ≠ some g
theorem OutV.nil (w : World) (base : Nat) : OutV w base (.slice none 0 0) [] := ⟨Own.nil w base 103 2, by simp⟩
theorem OutV.ext {w w' : World} {base : Nat} {v : Value} {xs : List AxX} (h : OutV w base v xs) (e : Ext w w') : OutV w' base v xs :=
  ⟨h.1.ext e, fun x hx => ⟨(h.2 x hx).1.ext e, (h.2 x hx).2⟩⟩
theorem OutV.more {w w' : World} {base : Nat} {v v' y : Value} {xs : List AxX} {n : Int} {l : List Int} (h : OutV w base v xs) (hy : Own w base 3 1 y l.length (l.map (Value.int .i64))) (hv : ∀ g, y.ownBlock = some g → v.ownBlock ≠ some g)
    (hown : Own w' base 103 2 v' (xs.length + 1) (xs.flatMap axC ++ [.int .i64 n, y])) (hg : w.grownBy w' v.ownBlock) (hv' : v'.ownBlock = v.ownBlock ∨ v'.ownBlock = some w.heap.size) : OutV w' base v' (xs ++ [((n, l), y)]) := by
  have hb : ∀ (z : Value) (m : List Int), Own w base 3 1 z m.length (m.map (Value.int .i64)) → (∀ g, z.ownBlock = some g → v.ownBlock ≠ some g) → Own w' base 3 1 z m.length (m.map (Value.int .i64)) ∧ ∀ g, z.ownBlock = some g → v'.ownBlock ≠ some g := by
    intro z m hz hne
    refine ⟨hz.grown hg hne, fun g hgz => ?_⟩
    rcases hv' with e | e
    · rw [e]; exact hne g hgz
    · rw [e]
      intro e2
      injection e2 with e2
      have := (hz.block g hgz).2
      omega
  refine ⟨?_, fun x hx => ?_⟩
  · rw [List.flatMap_append, List.length_append]
    exact hown
  · rcases List.mem_append.1 hx with hx | hx
    · exact hb _ _ (h.2 x hx).1 (h.2 x hx).2
    · obtain rfl := List.mem_singleton.1 hx
      exact hb _ _ hy hv
theorem OutV.axes {w : World} {base : Nat} {v : Value} {xs : List AxX} (h : OutV w base v xs) : AxesV w v xs := by
  have hi : ∀ x ∈ xs, IntsV w .i64 x.2 x.1.2 := fun x hx => (h.2 x hx).1.ints
  rcases h.1.2 with ⟨rfl, h0⟩ | ⟨g, cap, cur, lo, hi', rfl, hb, hg, hnc, hm, hcs, _, ht⟩
  · exact ⟨none, 0, by rw [h0], by omega, by simp [maxLen], (fun hp => by omega), hi⟩
  · refine ⟨_, cap, rfl, hnc, hm, fun hpos => ⟨g, 0, rfl, (Array.getElem?_eq_some_iff.1 hg).1, fun i k hi hk => ?_⟩, hi⟩
    have hu := axC_at xs i k hi hk
    rw [Nat.zero_add, cell_of_row w g (i * 2 + k) cur 103 _ hg]
    rw [← ht, List.getElem?_take] at hu
    split at hu
    · simpa using hu
    · cases hu
end Go.Proofs.Ytjnnkcnnandeeaa
namespace Go.Proofs.Ytjnnkcnnandeeaa
open Go.RowKit
/-- A number, and the directions that are left. -/
abbrev AxN := Int × List Int
instance : Inhabited AxN := ⟨(0, [])⟩
/-- The directions below n of which p holds. -/
def dirsUp (p : Nat → Bool) : Nat → List Int
  | 0 => []
  | k + 1 => if p k = true then dirsUp p k ++ [(k : Int)] else dirsUp p k
theorem dirsUp_t {p : Nat → Bool} {k : Nat} (h : p k = true) : dirsUp p (k + 1) = dirsUp p k ++ [(k : Int)] := if_pos h
theorem dirsUp_f {p : Nat → Bool} {k : Nat} (h : p k = false) : dirsUp p (k + 1) = dirsUp p k := if_neg (by rw [h]; decide)
theorem dirsUp_len (p : Nat → Bool) (k : Nat) : (dirsUp p k).length ≤ k := by
  induction k with
  | zero => simp [dirsUp]
  | succ k ih =>
    rw [dirsUp]
    split
    · rw [List.length_append, List.length_singleton]; omega
    · omega
theorem mem_dirsUp {p : Nat → Bool} {k : Nat} {x : Int} : x ∈ dirsUp p k ↔ ∃ l, l < k ∧ p l = true ∧ x = (l : Int) := by
  induction k with
  | zero => simp [dirsUp]
  | succ k ih =>
    rw [dirsUp]
    constructor
    · intro h
      split at h
      · rename_i hp
        rcases List.mem_append.1 h with h | h
        · obtain ⟨l, h1, h2, h3⟩ := ih.1 h
          exact ⟨l, by omega, h2, h3⟩
        · exact ⟨k, by omega, hp, by simpa using h⟩
      · obtain ⟨l, h1, h2, h3⟩ := ih.1 h
        exact ⟨l, by omega, h2, h3⟩
    · rintro ⟨l, h1, h2, h3⟩
      by_cases hlk : l = k
      · subst hlk
        rw [if_pos h2, h3]
        simp
      · have := ih.2 ⟨l, by omega, h2, h3⟩
        split
        · exact List.mem_append_left _ this
        · exact this
theorem dirsUp_at {p : Nat → Bool} {k i : Nat} (h : i < (dirsUp p k).length) : ∃ l, l < k ∧ p l = true ∧ (dirsUp p k).getD i 0 = (l : Int) := by
  refine mem_dirsUp.1 ?_
  rw [List.getD_eq_getElem?_getD, List.getElem?_eq_getElem h, Option.getD_some]
  exact List.getElem_mem _
theorem turnsB_dirs {s : Sky} {p : Nat → Bool} {n k : Nat} : turnsB s (dirsUp p n) k = anyB (fun l => p l && nearB s l k) n := by
  rw [Bool.eq_iff_iff]
  unfold turnsB
  rw [anyB_t, anyB_t]
  constructor
  · rintro ⟨i, h1, h2⟩
    obtain ⟨l, h3, h4, h5⟩ := dirsUp_at h1
    rw [h5, Int.toNat_natCast] at h2
    exact ⟨l, h3, by rw [h4, h2]; rfl⟩
  · rintro ⟨l, h1, h2⟩
    rw [Bool.and_eq_true] at h2
    have hm : (l : Int) ∈ dirsUp p n := mem_dirsUp.2 ⟨l, h1, h2.1, rfl⟩
    obtain ⟨i, hi, e⟩ := List.getElem_of_mem hm
    refine ⟨i, hi, ?_⟩
    rw [List.getD_eq_getElem?_getD, List.getElem?_eq_getElem hi, Option.getD_some, e, Int.toNat_natCast]
    exact h2.2
theorem anyB_congr {p q : Nat → Bool} {n : Nat} (h : ∀ j, j < n → p j = q j) : anyB p n = anyB q n := by
  rw [Bool.eq_iff_iff, anyB_t, anyB_t]
  exact ⟨fun ⟨i, h1, h2⟩ => ⟨i, h1, by rw [← h i h1]; exact h2⟩, fun ⟨i, h1, h2⟩ => ⟨i, h1, by rw [h i h1]; exact h2⟩⟩
/-- The mask says what the last entry says. -/
theorem turned_bit {s : Sky} {p : Nat → Bool} {mask k : Nat} (hp : ∀ l, l < s.dirs.length → mask.testBit l = p l) (hk : k < s.dirs.length) :
    (turnedN s mask).testBit k = turnsB s (dirsUp p s.dirs.length) k := by
  rw [turnsB_dirs]
  unfold turnedN upTo
  rw [maskOf_bit, decide_eq_true hk, Bool.true_and]
  exact anyB_congr fun l hl => by unfold hitB; rw [hp l hl]
/-- A direction is right at a number. -/
def fitN (f : Fmt) (s : Sky) (r : RepH) (n : Int) (k : Nat) : Bool := !decide (r.num = n) || r.marked || fitsB f s (s.dirs.getD k default) r
/-- A direction is reached from the last entry. -/
def fromB (s : Sky) (out : List AxN) (k : Nat) : Bool :=
  match out.getLast? with
  | none => true
  | some a => turnsB s a.2 k
def keepB (f : Fmt) (s : Sky) (r : RepH) (out : List AxN) (n : Int) (k : Nat) : Bool := fromB s out k && fitN f s r n k
/-- The entry for the number n. -/
def entry (f : Fmt) (s : Sky) (r : RepH) (out : List AxN) (n : Int) : AxN := (n, dirsUp (keepB f s r out n) s.dirs.length)
/-- c entries more, from the number n on. -/
def fillN (f : Fmt) (s : Sky) (r : RepH) (out : List AxN) (n : Int) : Nat → List AxN
  | 0 => out
  | c + 1 => fillN f s r out n c ++ [entry f s r (fillN f s r out n c) (n + c)]
def firstN (xs : List RepX) (k : Nat) : Int := if 0 < k then (repAt xs (k - 1)).num + 1 else (repAt xs k).num
/-- The entries behind k reports. -/
def axesK (f : Fmt) (s : Sky) (xs : List RepX) : Nat → List AxN
  | 0 => []
  | k + 1 => fillN f s (repAt xs k) (axesK f s xs k) (firstN xs k) ((repAt xs k).num - firstN xs k + 1).toNat
def axesOut (f : Fmt) (s : Sky) (xs : List RepX) : List AxN × Int :=
  if (skyOut f s).2 ≠ 0 then ([], (skyOut f s).2) else if repErr f xs ≠ 0 then ([], repErr f xs) else (axesK f s xs xs.length, 0)
section
variable {f : Fmt} {s : Sky} {xs : List RepX}
theorem fillN_len (r : RepH) (out : List AxN) (n : Int) (c : Nat) : (fillN f s r out n c).length = out.length + c := by
  induction c with
  | zero => rfl
  | succ c ih => rw [fillN, List.length_append, ih]; simp; omega
/-- The numbers rise. -/
def Rise (xs : List RepX) : Prop := ∀ k, k + 1 < xs.length → (repAt xs k).num < (repAt xs (k + 1)).num
theorem Rise.of (h : ∀ j, j < xs.length → argB f xs j = false) : Rise xs := by
  intro k hk
  have h1 := h (k + 1) hk
  unfold argB at h1
  rw [Bool.or_eq_false_iff, Bool.and_eq_false_iff] at h1
  rcases h1.2 with h2 | h2
  · exact absurd h2 (by simp)
  · have := of_decide_eq_false h2
    rw [show k + 1 - 1 = k from rfl] at this
    omega
theorem firstN_le (hr : Rise xs) {k : Nat} (hk : k < xs.length) : firstN xs k ≤ (repAt xs k).num := by
  unfold firstN
  split
  · have := hr (k - 1) (by omega)
    rw [show k - 1 + 1 = k by omega] at this
    omega
  · omega
theorem axesK_len (hr : Rise xs) {k : Nat} (hk : k < xs.length) : ((axesK f s xs k).length : Int) = firstN xs k - (repAt xs 0).num := by
  induction k with
  | zero => simp [axesK, firstN]
  | succ k ih =>
    have h1 := ih (by omega)
    have h2 := firstN_le hr (show k < xs.length by omega)
    rw [axesK, fillN_len]
    have h3 : firstN xs (k + 1) = (repAt xs k).num + 1 := by unfold firstN; rw [if_pos (by omega)]; rfl
    rw [h3]
    omega
theorem axesK_all (hr : Rise xs) (h0 : 0 < xs.length) : ((axesK f s xs xs.length).length : Int) = (repAt xs (xs.length - 1)).num + 1 - (repAt xs 0).num := by
  obtain ⟨k, hk⟩ : ∃ k, xs.length = k + 1 := ⟨xs.length - 1, by omega⟩
  have h1 := axesK_len (f := f) (s := s) hr (show k < xs.length by omega)
  have h2 := firstN_le hr (show k < xs.length by omega)
  rw [hk, axesK, fillN_len, show k + 1 - 1 = k from rfl]
  omega
theorem rep_le (hr : Rise xs) {j k : Nat} (hjk : j ≤ k) (hk : k < xs.length) : (repAt xs j).num ≤ (repAt xs k).num := by
  induction k with
  | zero => rw [show j = 0 by omega]; exact Int.le_refl _
  | succ k ih =>
    by_cases h : j = k + 1
    · rw [h]; exact Int.le_refl _
    · have := hr k hk
      have := ih (by omega) (by omega)
      omega
/-- What reports without an error are. -/
theorem repErr_0 (h : repErr f xs = 0) : (∀ j, j < xs.length → argB f xs j = false) ∧ (∀ j, j < xs.length → rngB (repAt xs j) = false) ∧ longB xs = false := by
  unfold repErr at h
  by_cases h1 : anyB (argB f xs) xs.length = true
  · rw [if_pos h1] at h; cases h
  · rw [if_neg h1] at h
    by_cases h2 : anyB (fun i => rngB (repAt xs i)) xs.length = true
    · rw [if_pos h2] at h; cases h
    · rw [if_neg h2] at h
      by_cases h3 : longB xs = true
      · rw [if_pos h3] at h; cases h
      · exact ⟨anyB_f.1 (by simpa using h1), anyB_f.1 (by simpa using h2), by simpa using h3⟩
theorem span_le (h : repErr f xs = 0) (h0 : 0 < xs.length) : (repAt xs (xs.length - 1)).num - (repAt xs 0).num ≤ 300 := by
  have h3 := (repErr_0 h).2.2
  unfold longB at h3
  rw [decide_eq_true h0, Bool.true_and] at h3
  have := of_decide_eq_false h3
  omega
theorem RepOk.at (h : repErr f xs = 0) {k : Nat} (hk : k < xs.length) : RepOk f (repAt xs k) := by
  obtain ⟨h1, h2, _⟩ := repErr_0 h
  have h3 := h1 k hk
  have h4 := h2 k hk
  unfold argB at h3
  unfold rngB at h4
  rw [Bool.or_eq_false_iff] at h3 h4
  have h5 := of_decide_eq_false h3.1
  have h6 := outB_f.1 h4.1
  have h7 := h4.2
  unfold badB at h7
  refine ⟨by simpa using h5, fun y hy => ?_, h6.1, h6.2⟩
  obtain ⟨i, hi, e⟩ := List.getElem_of_mem hy
  have h8 := outB_f.1 (anyB_f.1 h7 i hi)
  rw [List.getD_eq_getElem?_getD, List.getElem?_eq_getElem hi, Option.getD_some, e] at h8
  exact h8
end
end Go.Proofs.Ytjnnkcnnandeeaa
namespace Go.Proofs.Ytjnnkcnnandeeaa
open Go.RowKit
theorem mask0 (n : Nat) (hn : n < 32) : ((2 : Int) ^ n % 4294967296 - 1) % 4294967296 = ((2 ^ n - 1 : Nat) : Int) ∧ 2 ^ n - 1 < 4294967296 ∧ ∀ l, l < n → (2 ^ n - 1).testBit l = true := by
  have h := Nat.pow_lt_pow_right (a := 2) (by omega) hn
  have h0 := Nat.two_pow_pos n
  refine ⟨?_, by omega, fun l hl => by rw [Nat.testBit_two_pow_sub_one, decide_eq_true hl]⟩
  have e : ((2 : Int) ^ n) = ((2 ^ n : Nat) : Int) := by simp
  rw [e]
  generalize (2 ^ n : Nat) = z at *
  omega
theorem u32_clear (a k : Nat) (ha : a < 4294967296) (hk : k < 32) : ∃ r : Nat, bits .andNot .u32 (a : Int) (2 ^ k % 4294967296) = (r : Int) ∧ r < 4294967296 ∧ ∀ j, r.testBit j = (a.testBit j && !decide (k = j)) := by
  have h2 := Nat.pow_lt_pow_right (a := 2) (by omega) hk
  have e : ((2 : Int) ^ k % 4294967296) = ((2 ^ k : Nat) : Int) := by
    have e : ((2 : Int) ^ k) = ((2 ^ k : Nat) : Int) := by simp
    rw [e]
    generalize (2 ^ k : Nat) = z at *
    omega
  rw [e]
  refine ⟨(BitVec.ofInt 32 (a : Int) &&& ~~~ BitVec.ofInt 32 ((2 ^ k : Nat) : Int)).toNat, ?_, (BitVec.isLt _), fun j => ?_⟩
  · show IntKind.u32.wrap ((BitVec.ofInt 32 (a : Int) &&& ~~~ BitVec.ofInt 32 ((2 ^ k : Nat) : Int)).toNat : Int) = _
    have := BitVec.isLt (BitVec.ofInt 32 (a : Int) &&& ~~~ BitVec.ofInt 32 ((2 ^ k : Nat) : Int))
    rw [IntKind.wrap_u32]
    omega
  · rw [BitVec.testBit_toNat, BitVec.getLsbD_and, BitVec.getLsbD_not, ← BitVec.testBit_toNat, ← BitVec.testBit_toNat, ofInt_u32 a ha, ofInt_u32 (2 ^ k) h2, Nat.testBit_two_pow]
    by_cases hj : j < 32
    · rw [decide_eq_true hj, Bool.true_and]
    · rw [show a.testBit j = false from Nat.testBit_lt_two_pow (Nat.lt_of_lt_of_le (show a < 2 ^ 32 from ha) (Nat.pow_le_pow_right (by omega) (Nat.le_of_not_lt hj)))]
      rfl
/-- The mask tells the last entry (or that all directions are open, where there is none). -/
def MaskIs (s : Sky) (M : Nat) (out : List AxN) : Prop :=
  ∃ p : Nat → Bool, (∀ l, l < s.dirs.length → M.testBit l = p l) ∧ ((out = [] ∧ ∀ l, l < s.dirs.length → p l = true) ∨ ∃ pre n, out = pre ++ [(n, dirsUp p s.dirs.length)])
theorem MaskIs.start {s : Sky} {M : Nat} (h : ∀ l, l < s.dirs.length → M.testBit l = true) : MaskIs s M [] := ⟨fun _ => true, h, .inl ⟨rfl, fun _ _ => rfl⟩⟩
/-- Where there is no entry the mask says whence a direction comes. -/
theorem MaskIs.first {s : Sky} {M : Nat} (h : MaskIs s M []) {l : Nat} (hl : l < s.dirs.length) : M.testBit l = fromB s [] l := by
  obtain ⟨p, h1, h2⟩ := h
  rcases h2 with ⟨_, h2⟩ | ⟨pre, n, h2⟩
  · rw [h1 l hl, h2 l hl]; rfl
  · exact absurd (congrArg List.length h2) (by simp)
/-- Behind an entry the turned mask does. -/
theorem MaskIs.next {s : Sky} {M : Nat} {out : List AxN} (h : MaskIs s M out) (h0 : out ≠ []) {l : Nat} (hl : l < s.dirs.length) : (turnedN s M).testBit l = fromB s out l := by
  obtain ⟨p, h1, h2⟩ := h
  rcases h2 with ⟨h2, _⟩ | ⟨pre, n, rfl⟩
  · exact absurd h2 h0
  · rw [turned_bit h1 hl]
    unfold fromB
    rw [List.getLast?_append]
    rfl
theorem MaskIs.entry {f : Fmt} {s : Sky} {r : RepH} {M : Nat} {out : List AxN} {n : Int} (h : ∀ l, l < s.dirs.length → M.testBit l = keepB f s r out n l) : MaskIs s M (out ++ [entry f s r out n]) :=
  ⟨keepB f s r out n, h, .inr ⟨out, n, rfl⟩⟩
end Go.Proofs.Ytjnnkcnnandeeaa
namespace Go.Proofs.Ytjnnkcnnandeeaa
open Go.RowKit
/-- The entry's box at the world wr: the number N and a slice that reads as l; nothing ahead of Wx has turned. -/
def EntV (N : Int) (B : Nat) (l : List Int) (Wx wr : World) : Prop :=
  Ext Wx wr ∧ Wx.heap.size ≤ B ∧ ∃ fv : Value, wr.heap[B]? = some (.cells #[.int .i64 N, fv] 103) ∧ fv.ownBlock ≠ some B ∧ Own wr B 3 1 fv l.length (l.map (Value.int .i64))
theorem EntV.ext {N : Int} {B : Nat} {l : List Int} {Wx wr w' : World} (h : EntV N B l Wx wr) (e : Ext wr w') : EntV N B l Wx w' := by
  obtain ⟨h1, hB, fv, h2, h3, h4⟩ := h
  exact ⟨h1.trans e, hB, fv, by rw [Below.block e B (Array.getElem?_eq_some_iff.1 h2).1]; exact h2, h3, h4.ext e⟩
theorem EntV.start (Wx : World) (N : Int) : EntV N Wx.heap.size [] Wx (Wx.alloc (.cells #[.int .i64 N, .slice none 0 0] 103)) :=
  ⟨(Ext.refl _).alloc _, Nat.le_refl _, .slice none 0 0, heap_alloc_new _ _, by simp [Value.ownBlock], Own.nil _ _ _ _⟩
theorem heap_set2 (w : World) (B : Nat) (x y v : Value) (h : w.heap[B]? = some (.cells #[x, y] 103)) : (w.setCell ⟨B, 1, none⟩ v).heap[B]? = some (.cells #[x, v] 103) := by
  rw [setCell_eq_setRow w B 1 _ 103 (0, 0) v h, setRow_heap w B _ _ 103 (0, 0) h]
  rfl
theorem EntV.app {N k : Int} {B : Nat} {l : List Int} {Wx wr W w' : World} {fv v' : Value} (h : Ext Wx wr) (hB : Wx.heap.size ≤ B) (h2 : wr.heap[B]? = some (.cells #[.int .i64 N, fv] 103)) (h3 : fv.ownBlock ≠ some B)
    (h4 : Own wr B 3 1 fv l.length (l.map (Value.int .i64))) (e : Ext wr W)
    (hown : Own w' B 3 1 v' (l.length + 1) (l.map (Value.int .i64) ++ [.int .i64 k])) (hg : W.grownBy w' fv.ownBlock) (hv : v'.ownBlock = fv.ownBlock ∨ v'.ownBlock = some W.heap.size) : EntV N B (l ++ [k]) Wx (w'.setCell ⟨B, 1, none⟩ v') := by
  have hlt := (Array.getElem?_eq_some_iff.1 h2).1
  have hWB : W.heap[B]? = some (.cells #[.int .i64 N, fv] 103) := by rw [Below.block e B hlt]; exact h2
  have hltW := (Array.getElem?_eq_some_iff.1 hWB).1
  have hwB : w'.heap[B]? = some (.cells #[.int .i64 N, fv] 103) := by rw [hg.block B hltW (fun e => h3 e.symm)]; exact hWB
  have hne : v'.ownBlock ≠ some B := by
    rcases hv with hv | hv
    · rw [hv]; exact h3
    · rw [hv]; intro e; injection e with e; omega
  refine ⟨((h.trans e).grown hg (fun j hj => by have := (h4.block j hj).1; omega)).setCell hB _, hB, v', heap_set2 _ _ _ _ _ hwB, hne, ?_⟩
  have := hown.setCell (p := ⟨B, 1, none⟩) hne v'
  rw [List.length_append, List.map_append]
  exact this
/-- One bit of a mask, as Go reads it. -/
theorem u32_bit (M k : Nat) (hM : M < 4294967296) : decide ((0 : Int) < bits .and .u32 ((M : Int) / 2 ^ k) 1) = M.testBit k := by
  have h1 : ((M : Int) / 2 ^ k) = ((M / 2 ^ k : Nat) : Int) := by rw [Int.natCast_ediv]; simp
  have hq : M / 2 ^ k < 4294967296 := Nat.lt_of_le_of_lt (Nat.div_le_self _ _) hM
  rw [h1, show (1 : Int) = ((1 : Nat) : Int) from rfl, u32_and_nat _ 1 hq (by omega), Nat.and_one_is_mod, Nat.testBit_eq_decide_div_mod_eq]
  generalize M / 2 ^ k = q
  rw [Bool.eq_iff_iff]
  simp only [decide_eq_true_eq]
  omega
end Go.Proofs.Ytjnnkcnnandeeaa
