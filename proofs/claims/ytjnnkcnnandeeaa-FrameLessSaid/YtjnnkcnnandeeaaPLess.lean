/- What Axes answers, said by numbers; with one report less no set is less: plain laws. -/
import Derived.Test.YtjnnkcnnandeeaaEntV
namespace Go.Proofs.Ytjnnkcnnandeeaa
open Go.RowKit
/-- A direction is right at a number: it fits each report of that number. -/
def fitAll (f : Fmt) (s : Sky) (xs : List RepX) (n : Int) (k : Nat) : Bool := xs.all fun x => !decide (x.1.num = n) || x.1.marked || fitsB f s (s.dirs.getD k default) x.1
/-- The set at the number n0 + i. -/
def setN (f : Fmt) (s : Sky) (xs : List RepX) (n0 : Int) : Nat → Nat → Bool
  | 0, k => fitAll f s xs n0 k
  | i + 1, k => anyB (fun l => setN f s xs n0 i l && nearB s l k) s.dirs.length && fitAll f s xs (n0 + ((i + 1 : Nat) : Int)) k
/-- The first c entries. -/
def entriesN (f : Fmt) (s : Sky) (xs : List RepX) (n0 : Int) (c : Nat) : List AxN := (List.range c).map fun (i : Nat) => (n0 + (i : Int), dirsUp (setN f s xs n0 i) s.dirs.length)
section
variable {f : Fmt} {s : Sky} {xs : List RepX} {n0 : Int}
theorem repAt_mem {x : RepX} (h : x ∈ xs) : ∃ j, j < xs.length ∧ repAt xs j = x.1 := by
  obtain ⟨j, hj, e⟩ := List.getElem_of_mem h
  exact ⟨j, hj, by unfold repAt; rw [List.getD_eq_getElem?_getD, List.getElem?_eq_getElem hj, Option.getD_some, e]⟩
theorem repAt_in {j : Nat} (h : j < xs.length) : ∃ x ∈ xs, x.1 = repAt xs j := ⟨xs.getD j default, getD_in _ h, rfl⟩
theorem rep_lt (hr : Rise xs) {j k : Nat} (hjk : j < k) (hk : k < xs.length) : (repAt xs j).num < (repAt xs k).num := by
  have h1 := rep_le hr (show j ≤ k - 1 by omega) (by omega)
  have h2 := hr (k - 1) (by omega)
  rw [show k - 1 + 1 = k by omega] at h2
  omega
theorem firstN_prev {k j : Nat} (hr : Rise xs) (hjk : j < k) (hk : k < xs.length) : (repAt xs j).num < firstN xs k := by
  have h1 := rep_le hr (show j ≤ k - 1 by omega) (by omega)
  unfold firstN
  rw [if_pos (by omega)]
  omega
/-- Between two reports a number is fitted as the next one says. -/
theorem fitAll_at (hr : Rise xs) {k : Nat} (hk : k < xs.length) {n : Int} (h1 : firstN xs k ≤ n) (h2 : n ≤ (repAt xs k).num) (d : Nat) : fitAll f s xs n d = fitN f s (repAt xs k) n d := by
  rw [Bool.eq_iff_iff]
  unfold fitAll fitN
  rw [List.all_eq_true]
  constructor
  · intro h
    obtain ⟨x, hx, e⟩ := repAt_in hk
    rw [← e]; exact h x hx
  · intro h x hx
    obtain ⟨j, hj, e⟩ := repAt_mem hx
    rw [← e]
    by_cases hjk : j = k
    · rw [hjk]; exact h
    · have hne : (repAt xs j).num ≠ n := by
        by_cases h3 : j < k
        · have := firstN_prev hr h3 hk; omega
        · have := rep_lt hr (show k < j by omega) hj; omega
      rw [decide_eq_false hne]; rfl
theorem entriesN_succ (c : Nat) : entriesN f s xs n0 (c + 1) = entriesN f s xs n0 c ++ [(n0 + (c : Int), dirsUp (setN f s xs n0 c) s.dirs.length)] := by
  unfold entriesN
  rw [List.range_succ, List.map_append]; rfl
theorem entriesN_len (c : Nat) : (entriesN f s xs n0 c).length = c := by simp [entriesN]
theorem dirsUp_congr {p q : Nat → Bool} {n : Nat} (h : ∀ j, j < n → p j = q j) : dirsUp p n = dirsUp q n := by
  induction n with
  | zero => rfl
  | succ n ih => rw [dirsUp, dirsUp, ih (fun j hj => h j (by omega)), h n (by omega)]
theorem fromB_entries (c : Nat) (k : Nat) : fromB s (entriesN f s xs n0 c) k = match c with
    | 0 => true
    | c + 1 => anyB (fun l => setN f s xs n0 c l && nearB s l k) s.dirs.length := by
  cases c with
  | zero => rfl
  | succ c =>
    rw [entriesN_succ]
    unfold fromB
    rw [List.getLast?_append]
    exact turnsB_dirs
theorem entry_entries (r : RepH) (c : Nat) (h : ∀ k, fitAll f s xs (n0 + (c : Int)) k = fitN f s r (n0 + (c : Int)) k) : entry f s r (entriesN f s xs n0 c) (n0 + (c : Int)) = (n0 + (c : Int), dirsUp (setN f s xs n0 c) s.dirs.length) := by
  unfold entry
  rw [dirsUp_congr (q := setN f s xs n0 c)]
  intro k hk
  unfold keepB
  rw [fromB_entries, ← h k]
  cases c with
  | zero => simp [setN]
  | succ c => rfl
theorem fillN_entries (r : RepH) (c0 : Nat) : ∀ c : Nat, (∀ j : Nat, j < c → ∀ k, fitAll f s xs (n0 + (c0 : Int) + (j : Int)) k = fitN f s r (n0 + (c0 : Int) + (j : Int)) k) →
    fillN f s r (entriesN f s xs n0 c0) (n0 + (c0 : Int)) c = entriesN f s xs n0 (c0 + c)
  | 0, _ => rfl
  | c + 1, h => by
    have e : n0 + (c0 : Int) + (c : Int) = n0 + ((c0 + c : Nat) : Int) := by push_cast; omega
    have h2 := h c (by omega)
    rw [e] at h2
    rw [fillN, fillN_entries r c0 c (fun j hj => h j (by omega)), e, entry_entries r (c0 + c) h2, ← Nat.add_assoc, entriesN_succ]
theorem axesK_entries (hr : Rise xs) (h0 : (repAt xs 0).num = n0) : ∀ k, k ≤ xs.length → axesK f s xs k = entriesN f s xs n0 (axesK f s xs k).length
  | 0, _ => rfl
  | k + 1, hk => by
    have ih := axesK_entries hr h0 k (by omega)
    have hl := axesK_len (f := f) (s := s) hr (show k < xs.length by omega)
    have hf := firstN_le hr (show k < xs.length by omega)
    rw [h0] at hl
    generalize hL : (axesK f s xs k).length = L at *
    have e : firstN xs k = n0 + (L : Int) := by omega
    rw [axesK, ih, e, fillN_entries, entriesN_len]
    intro j hj d
    exact fitAll_at hr (by omega) (by omega) (by omega) d
theorem axes_entries (hr : Rise xs) (h0 : 0 < xs.length) : axesK f s xs xs.length = entriesN f s xs (repAt xs 0).num ((repAt xs (xs.length - 1)).num + 1 - (repAt xs 0).num).toNat := by
  have h1 := axesK_entries (f := f) (s := s) hr rfl xs.length (Nat.le_refl _)
  have h2 := axesK_all (f := f) (s := s) hr h0
  rw [h1]
  congr 1
  omega
/-- With fewer reports no set is less. -/
theorem setN_less {ys : List RepX} (hy : ∀ x ∈ ys, x ∈ xs) {m0 : Int} : ∀ (i m : Nat), n0 + (m : Int) = m0 + (i : Int) → n0 ≤ m0 → ∀ k, setN f s xs n0 m k = true → setN f s ys m0 i k = true := by
  have hfit : ∀ n k, fitAll f s xs n k = true → fitAll f s ys n k = true := by
    intro n k h
    unfold fitAll at h ⊢
    rw [List.all_eq_true] at h ⊢
    exact fun x hx => h x (hy x hx)
  have hcur : ∀ m k, setN f s xs n0 m k = true → fitAll f s xs (n0 + (m : Int)) k = true := by
    intro m k h
    cases m with
    | zero => simpa [setN] using h
    | succ m => rw [setN, Bool.and_eq_true] at h; exact h.2
  intro i
  induction i with
  | zero =>
    intro m e _ k h
    have := hfit _ _ (hcur m k h)
    rw [e] at this
    simpa [setN] using this
  | succ i ih =>
    intro m e hle k h
    obtain ⟨m', rfl⟩ : ∃ m', m = m' + 1 := ⟨m - 1, by omega⟩
    have hc := hfit _ _ (hcur _ k h)
    rw [e] at hc
    rw [setN, Bool.and_eq_true, anyB_t] at h ⊢
    obtain ⟨⟨l, hl, h1⟩, _⟩ := h
    rw [Bool.and_eq_true] at h1
    exact ⟨⟨l, hl, by rw [Bool.and_eq_true]; exact ⟨ih m' (by omega) hle l h1.1, h1.2⟩⟩, hc⟩
end
/-- The reports without one of them. -/
def lessX (xs : List RepX) (k : Nat) : List RepX := xs.take k ++ xs.drop (k + 1)
section
variable {f : Fmt} {s : Sky} {xs : List RepX} {k : Nat}
theorem lessX_len (hk : k < xs.length) : (lessX xs k).length = xs.length - 1 := by
  unfold lessX
  rw [List.length_append, List.length_take, List.length_drop]; omega
theorem lessX_mem : ∀ x ∈ lessX xs k, x ∈ xs := by
  intro x hx
  unfold lessX at hx
  rcases List.mem_append.1 hx with h | h
  · exact List.mem_of_mem_take h
  · exact List.mem_of_mem_drop h
theorem lessX_at (hk : k < xs.length) (i : Nat) : repAt (lessX xs k) i = repAt xs (if i < k then i else i + 1) := by
  unfold repAt lessX
  rw [List.getD_eq_getElem?_getD, List.getD_eq_getElem?_getD]
  by_cases h : i < k
  · rw [if_pos h, List.getElem?_append_left (by rw [List.length_take]; omega), List.getElem?_take, if_pos h]
  · rw [if_neg h, List.getElem?_append_right (by rw [List.length_take]; omega), List.getElem?_drop, List.length_take]
    congr 2
    congr 1
    omega
theorem repErr_ok (h1 : ∀ j, j < xs.length → argB f xs j = false) (h2 : ∀ j, j < xs.length → rngB (repAt xs j) = false) (h3 : longB xs = false) : repErr f xs = 0 := by
  unfold repErr
  rw [if_neg (by rw [anyB_f.2 h1]; decide), if_neg (by rw [anyB_f.2 h2]; decide), if_neg (by rw [h3]; decide)]
theorem repErr_less (h : repErr f xs = 0) (hk : k < xs.length) : repErr f (lessX xs k) = 0 := by
  obtain ⟨h1, h2, h3⟩ := repErr_0 h
  have hr := Rise.of h1
  have hl := lessX_len hk
  refine repErr_ok (fun j hj => ?_) (fun j hj => ?_) ?_
  · have hj' := h1 (if j < k then j else j + 1) (by split <;> omega)
    unfold argB at hj' ⊢
    rw [Bool.or_eq_false_iff] at hj' ⊢
    rw [lessX_at hk]
    refine ⟨hj'.1, ?_⟩
    rw [Bool.and_eq_false_iff]
    by_cases h0 : 0 < j
    · right
      rw [lessX_at hk]
      have := rep_lt hr (show (if j - 1 < k then j - 1 else j - 1 + 1) < (if j < k then j else j + 1) by split <;> split <;> omega) (by split <;> omega)
      exact decide_eq_false (by omega)
    · left; exact decide_eq_false h0
  · rw [lessX_at hk]; exact h2 _ (by split <;> omega)
  · unfold longB
    by_cases h0 : 0 < (lessX xs k).length
    · rw [decide_eq_true h0, Bool.true_and, lessX_at hk, lessX_at hk]
      have h4 := span_le h (show 0 < xs.length by omega)
      have h5 := rep_le hr (show (if (lessX xs k).length - 1 < k then (lessX xs k).length - 1 else (lessX xs k).length - 1 + 1) ≤ xs.length - 1 by split <;> omega) (by omega)
      have h6 := rep_le hr (show 0 ≤ (if 0 < k then 0 else 0 + 1) by omega) (by split <;> omega)
      exact decide_eq_false (by omega)
    · rw [decide_eq_false h0]; rfl
theorem getD_map_range {α : Type} [Inhabited α] {c i : Nat} (g : Nat → α) (h : i < c) : ((List.range c).map g).getD i default = g i := by
  rw [List.getD_eq_getElem?_getD, List.getElem?_map, List.getElem?_range h]; rfl
/-- With one report less: the answer, and that no set of a number that both have is less. -/
theorem less_all (h : (axesOut f s xs).2 = 0) (hk : k < xs.length) : (axesOut f s (lessX xs k)).2 = 0 ∧
    ∀ i m, i < (axesOut f s (lessX xs k)).1.length → m < (axesOut f s xs).1.length → ((axesOut f s xs).1.getD m default).1 = ((axesOut f s (lessX xs k)).1.getD i default).1 →
      ∀ x ∈ ((axesOut f s xs).1.getD m default).2, x ∈ ((axesOut f s (lessX xs k)).1.getD i default).2 := by
  have hs : (skyOut f s).2 = 0 := by
    unfold axesOut at h
    by_cases h0 : (skyOut f s).2 ≠ 0
    · rw [if_pos h0] at h; exact absurd h h0
    · simpa using h0
  have hr : repErr f xs = 0 := by
    unfold axesOut at h
    rw [if_neg (by simpa using hs)] at h
    by_cases h0 : repErr f xs ≠ 0
    · rw [if_pos h0] at h; exact absurd h h0
    · simpa using h0
  have hr' := repErr_less hr hk
  have e1 : axesOut f s xs = (axesK f s xs xs.length, 0) := by unfold axesOut; rw [if_neg (by simpa using hs), if_neg (by simpa using hr)]
  have e2 : axesOut f s (lessX xs k) = (axesK f s (lessX xs k) (lessX xs k).length, 0) := by unfold axesOut; rw [if_neg (by simpa using hs), if_neg (by simpa using hr')]
  rw [e1, e2]
  refine ⟨rfl, fun i m hi hm e x hx => ?_⟩
  dsimp only at hi hm e hx ⊢
  have hR := Rise.of (repErr_0 hr).1
  have hR' := Rise.of (repErr_0 hr').1
  by_cases h0 : 0 < (lessX xs k).length
  · rw [axes_entries hR (by omega)] at hm e hx
    rw [axes_entries hR' h0] at hi e ⊢
    rw [entriesN_len] at hi hm
    unfold entriesN at e hx ⊢
    rw [getD_map_range (α := AxN) _ hm] at e hx
    rw [getD_map_range (α := AxN) _ hi] at e ⊢
    dsimp only at e hx ⊢
    obtain ⟨l, h1, h2, h3⟩ := mem_dirsUp.1 hx
    have hle : (repAt xs 0).num ≤ (repAt (lessX xs k) 0).num := by
      rw [lessX_at hk]
      have hl := lessX_len hk
      exact rep_le hR (by omega) (by split <;> omega)
    exact mem_dirsUp.2 ⟨l, h1, setN_less lessX_mem i m e hle l h2, h3⟩
  · have hz : lessX xs k = [] := List.eq_nil_of_length_eq_zero (by omega)
    rw [hz] at hi
    simp [axesK] at hi
end
end Go.Proofs.Ytjnnkcnnandeeaa
