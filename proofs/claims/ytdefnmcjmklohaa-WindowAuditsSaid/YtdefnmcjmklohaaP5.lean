/- The plain part of the teams' order, and of who has a right. -/
import Derived.Test.YtdefnmcjmklohaaP4
open Go Go.Proofs.Ytdefnmcjmklohaa.Sh Go.Proofs
namespace Go.Proofs.Ytdefnmcjmklohaa
set_option linter.unusedVariables false
set_option linter.unusedSimpArgs false
/-! ### Insertion -/
def insR (lt : Int → Int → Bool) (x : Int) : List Int → List Int
 | [] => [x]
 | y :: r => if lt x y = true then y :: insR lt x r else x :: y :: r
def sortR (lt : Int → Int → Bool) : List Int → List Int → List Int
 | acc, [] => acc
 | acc, x :: l => sortR lt (insR lt x acc) l
def sortP (lt : Int → Int → Bool) (l : List Int) : List Int := (sortR lt [] l).reverse
theorem insR_len (lt : Int → Int → Bool) (x : Int) : ∀ r : List Int, (insR lt x r).length = r.length + 1
 | [] => rfl
 | y :: r => by
  rw [insR]
  split
  ·simp [insR_len lt x r]
  ·simp
theorem insR_mem {lt : Int → Int → Bool} {x v : Int} : ∀ {r : List Int}, v ∈ insR lt x r ↔ v = x ∨ v ∈ r
 | [] => by simp [insR]
 | y :: r => by
  rw [insR]
  split
  ·simp only [List.mem_cons, insR_mem (r := r)]
   constructor
   ·rintro (h | h | h) <;> simp [h]
   ·rintro (h | h | h) <;> simp [h]
  ·simp
theorem sortR_len (lt : Int → Int → Bool) : ∀ (l acc : List Int), (sortR lt acc l).length = acc.length + l.length
 | [], acc => rfl
 | x :: l, acc => by rw [sortR, sortR_len lt l, insR_len, List.length_cons]; omega
theorem sortR_mem {lt : Int → Int → Bool} {v : Int} : ∀ {l acc : List Int}, v ∈ sortR lt acc l ↔ v ∈ acc ∨ v ∈ l
 | [], acc => by simp [sortR]
 | x :: l, acc => by
  rw [sortR, sortR_mem, insR_mem, List.mem_cons]
  constructor
  ·rintro ((h | h) | h) <;> simp [h]
  ·rintro (h | h | h) <;> simp [h]
theorem sortP_len (lt : Int → Int → Bool) (l : List Int) : (sortP lt l).length = l.length := by rw [sortP, List.length_reverse, sortR_len]; simp
theorem sortP_mem {lt : Int → Int → Bool} {v : Int} {l : List Int} : v ∈ sortP lt l ↔ v ∈ l := by rw [sortP, List.mem_reverse, sortR_mem]; simp
theorem ix_app {α : Type} (A B : List α) (x : α) : ixO (A ++ x :: B) (A.length : Int) = some x := by
 unfold ixO
 rw [if_pos (Int.natCast_nonneg _), Int.toNat_natCast, List.getElem?_append_right (Nat.le_refl _), Nat.sub_self]
 rfl
theorem set_app {α : Type} (A B : List α) (x y : α) : setO (A ++ x :: B) (A.length : Int) y = some (A ++ y :: B) := by
 unfold setO
 rw [Int.toNat_natCast, List.set_append_right _ _ (Nat.le_refl _), Nat.sub_self]
 rfl
/-! ### The order -/
def cmpP : List Arr2Int → Int
 | [] => 0
 | e :: l => if e.c0 < e.c1 then -1 else if e.c1 < e.c0 then 1 else cmpP l
theorem compare_L1 {F : Nat} {s : List Arr2Int} (hl : s.length < 9223372036854775808) : ∀ (n k : Nat), s.length < n + k → k ≤ s.length → window_compare_L1 F s (fun _ => some 0) n k = some (cmpP (s.drop k))
 | 0, k, h, h2 => absurd h (by omega)
 | n + 1, k, h, h2 => by
  rw [window_compare_L1]
  by_cases hk : k < s.length
  ·rw [if_pos (by omega), ixO_nat hk, Option.bind_some, Compare_eq, Option.bind_some, List.drop_eq_getElem_cons hk, cmpP, W_succ (by omega), compare_L1 hl n (k + 1) (by omega) (by omega)]
   by_cases h3 : s[k].c0 < s[k].c1
   ·simp [h3]
   ·by_cases h4 : s[k].c1 < s[k].c0 <;> simp [h3, h4]
  ·rw [if_neg (by omega), List.drop_of_length_le (by omega)]
   rfl
/-- Whether a team is before another one. -/
def firstV (p1 p2 c1 c2 u1 u2 l1 l2 a b : Int) : Bool :=
 if p1 ≠ p2 then decide (p2 < p1) else if c1 ≠ c2 then decide (c2 < c1) else if u1 ≠ u2 then decide (u1 < u2) else if l1 ≠ l2 then decide (l1 < l2) else decide (a < b)
def firstL (ts : List WiTeam) (us cr la : List Int) (a b : Int) : Bool :=
 firstV (ts.getD a.toNat default).priority (ts.getD b.toNat default).priority (cr.getD a.toNat 0) (cr.getD b.toNat 0) (us.getD a.toNat 0) (us.getD b.toNat 0) (la.getD a.toNat 0) (la.getD b.toNat 0) a b
def firstT (t : Table) : Int → Int → Bool := firstL t.p_Teams t.s_Used t.s_Credit t.s_Last
theorem order_eq {F : Nat} {t : Table} (h : TabOk F t) {a b : Int} (ha : 0 ≤ a ∧ a < t.p_Teams.length) (hb : 0 ≤ b ∧ b < t.p_Teams.length) : ∃ c, window_table_order F t a b = some c ∧ decide (c < 0) = firstT t a b := by
 obtain ⟨a, rfl⟩ := Int.eq_ofNat_of_zero_le ha.1
 obtain ⟨b, rfl⟩ := Int.eq_ofNat_of_zero_le hb.1
 have := h.u; have := h.c; have := h.l; have := h.h; have := h.n
 unfold window_table_order firstT firstL
 simp only [Int.toNat_natCast]
 rw [getD_of _ (show a < t.p_Teams.length by omega), getD_of _ (show b < t.p_Teams.length by omega), getD_of _ (show a < t.s_Used.length by omega), getD_of _ (show b < t.s_Used.length by omega), getD_of _ (show a < t.s_Credit.length by omega), getD_of _ (show b < t.s_Credit.length by omega), getD_of _ (show a < t.s_Last.length by omega), getD_of _ (show b < t.s_Last.length by omega)]
 rw [ixO_nat (show a < t.p_Teams.length by omega), ixO_nat (show b < t.p_Teams.length by omega), ixO_nat (show a < t.s_Used.length by omega), ixO_nat (show b < t.s_Used.length by omega), ixO_nat (show a < t.s_Credit.length by omega), ixO_nat (show b < t.s_Credit.length by omega), ixO_nat (show a < t.s_Last.length by omega), ixO_nat (show b < t.s_Last.length by omega)]
 simp only [Option.bind_some]
 have e1 : ∀ l : List Arr2Int, l.length = 5 → window_compare F l = some (cmpP l) := fun l hl => compare_L1 (F := F) (s := l) (by omega) F 0 (by omega) (by omega)
 rw [e1 _ rfl]
 refine ⟨_, rfl, ?_⟩
 simp only [cmpP]
 unfold firstV
 generalize t.p_Teams[a].priority = p1
 generalize t.p_Teams[b].priority = p2
 generalize t.s_Credit[a] = c1
 generalize t.s_Credit[b] = c2
 generalize t.s_Used[a] = u1
 generalize t.s_Used[b] = u2
 generalize t.s_Last[a] = l1
 generalize t.s_Last[b] = l2
 by_cases h1 : p2 < p1
 ·have : p1 ≠ p2 := by omega
  simp [h1, this]
 by_cases h2 : p1 < p2
 ·have : p1 ≠ p2 := by omega
  simp [h1, h2, this]
 have h3 : p1 = p2 := by omega
 by_cases h4 : c2 < c1
 ·have : c1 ≠ c2 := by omega
  simp [h3, h4, this]
 by_cases h5 : c1 < c2
 ·have : c1 ≠ c2 := by omega
  simp [h3, h4, h5, this]
 have h6 : c1 = c2 := by omega
 by_cases h7 : u1 < u2
 ·have : u1 ≠ u2 := by omega
  simp [h3, h6, h7, this]
 by_cases h8 : u2 < u1
 ·have : u1 ≠ u2 := by omega
  simp [h3, h6, h7, h8, this]
 have h9 : u1 = u2 := by omega
 by_cases h10 : l1 < l2
 ·have : l1 ≠ l2 := by omega
  simp [h3, h6, h9, h10, this]
 by_cases h11 : l2 < l1
 ·have : l1 ≠ l2 := by omega
  simp [h3, h6, h9, h10, h11, this]
 have h12 : l1 = l2 := by omega
 by_cases h13 : (a : Int) < b
 ·simp [h3, h6, h9, h12]
  omega
 ·by_cases h14 : (b : Int) < a
  ·simp [h3, h6, h9, h12]
   omega
  ·simp [h3, h6, h9, h12]
   omega
/-! ### The sort -/
theorem sort_L2 {F : Nat} {t : Table} (h : TabOk F t) (K' : List Int → Option (List Int)) {x : Int} (hx : 0 ≤ x ∧ x < t.p_Teams.length) : ∀ (n : Nat) (r B : List Int), r.length < n → r.length < 1000 → (∀ v ∈ r, 0 ≤ v ∧ v < t.p_Teams.length) → slices_insertionSortCmpFunc_int_m_window_table_order_L2 F 0 t (fun d _ => K' d) n (r.reverse ++ x :: B) (r.length : Int) = K' ((insR (firstT t) x r).reverse ++ B)
 | 0, r, B, h1, _, _ => absurd h1 (by omega)
 | n + 1, [], B, h1, h2, h3 => by
  rw [slices_insertionSortCmpFunc_int_m_window_table_order_L2, if_neg (by simp)]
  rfl
 | n + 1, y :: r, B, h1, h2, h3 => by
  have hl : (y :: r).length = r.length + 1 := rfl
  rw [slices_insertionSortCmpFunc_int_m_window_table_order_L2, if_pos (by omega)]
  have e1 := ix_app (y :: r).reverse B x
  have e2 := ix_app r.reverse (x :: B) y
  have e3 := set_app (y :: r).reverse B x y
  have e4 := ix_app r.reverse (y :: B) y
  have e5 := set_app r.reverse (y :: B) y x
  rw [List.length_reverse] at e1 e2 e3 e4 e5
  rw [List.reverse_cons, List.append_assoc, List.singleton_append] at e1 e3 ⊢
  have hw : W (((y :: r).length : Int) - 1) = (r.length : Int) := by rw [W_id] <;> omega
  obtain ⟨c, o1, o2⟩ := order_eq h hx (h3 y (by simp))
  rw [e1, Option.bind_some, hw, e2, Option.bind_some, o1, Option.bind_some, insR]
  by_cases hc : c < 0
  ·have : firstT t x y = true := by rw [← o2]; simp [hc]
   rw [List.append_assoc] at e3
   rw [if_pos hc, if_pos this, e3, Option.bind_some, List.singleton_append, e4, Option.bind_some, e5, Option.bind_some, sort_L2 h K' hx n r (y :: B) (by omega) (by omega) (fun v hv => h3 v (by simp [hv])), List.reverse_cons, List.append_assoc]
   rfl
  ·have : firstT t x y = false := by rw [← o2]; simp [hc]
   rw [if_neg hc, this]
   simp
theorem sort_L3 {F : Nat} {t : Table} (h : TabOk F t) (K' : List Int → Option (List Int)) : ∀ (n : Nat) (acc l : List Int), l.length < n → acc.length + l.length < 1000 → acc.length + l.length < F → (∀ v ∈ acc, 0 ≤ v ∧ v < t.p_Teams.length) → (∀ v ∈ l, 0 ≤ v ∧ v < t.p_Teams.length) → slices_insertionSortCmpFunc_int_m_window_table_order_L3 F 0 ((acc.length + l.length : Nat) : Int) t (fun d _ => K' d) n (acc.reverse ++ l) (acc.length : Int) = K' (sortR (firstT t) acc l).reverse
 | 0, acc, l, h1, _, _, _, _ => absurd h1 (by omega)
 | n + 1, acc, [], h1, h2, _, h3, h4 => by
  rw [slices_insertionSortCmpFunc_int_m_window_table_order_L3, if_neg (by simp), List.append_nil]
  rfl
 | n + 1, acc, x :: l, h1, h2, hF, h3, h4 => by
  have hl : (x :: l).length = l.length + 1 := rfl
  have hi := insR_len (firstT t) x acc
  rw [slices_insertionSortCmpFunc_int_m_window_table_order_L3, if_pos (by omega), sort_L2 h _ (h4 x (by simp)) F acc l (by omega) (by omega) h3, W_succ (by omega)]
  have ih := sort_L3 h K' n (insR (firstT t) x acc) l (by omega) (by omega) (by omega) (fun v hv => by
   rcases insR_mem.1 hv with rfl | hv
   ·exact h4 _ (by simp)
   ·exact h3 v hv) (fun v hv => h4 v (by simp [hv]))
  rw [hi] at ih
  rw [show acc.length + (x :: l).length = acc.length + 1 + l.length by omega, ih, sortR]
theorem insertion_eq {F : Nat} {t : Table} (h : TabOk F t) {l : List Int} (hl : l.length ≤ 8) (hv : ∀ v ∈ l, 0 ≤ v ∧ v < t.p_Teams.length) : slices_insertionSortCmpFunc_int_m_window_table_order F l 0 l.length t = some (sortP (firstT t) l) := by
 have := h.h
 unfold slices_insertionSortCmpFunc_int_m_window_table_order
 cases l with
 | nil =>
  obtain ⟨m, rfl⟩ : ∃ m, F = m + 1 := ⟨F - 1, by omega⟩
  rw [slices_insertionSortCmpFunc_int_m_window_table_order_L3, if_neg (by rw [W_id] <;> simp)]
  rfl
 | cons x l =>
  have hl2 : (x :: l).length = l.length + 1 := rfl
  have e1 := sort_L3 h some F [x] l (by omega) (by simp; omega) (by simp; omega) (fun v hv' => hv v (by simp at hv'; simp [hv'])) (fun v hv' => hv v (by simp [hv']))
  rw [show W ((0 : Int) + 1) = (([x] : List Int).length : Int) from rfl, show ((x :: l).length : Int) = (([x] : List Int).length + l.length : Nat) by simp; omega]
  exact e1
theorem bitsLen_ex {F m : Nat} (h : m ≤ 8) : ∃ r, math_bits_Len F (IntKind.u64.wrap (m : Int)) = some r := by
 rcases (by omega : m = 0 ∨ m = 1 ∨ m = 2 ∨ m = 3 ∨ m = 4 ∨ m = 5 ∨ m = 6 ∨ m = 7 ∨ m = 8) with rfl | rfl | rfl | rfl | rfl | rfl | rfl | rfl | rfl <;> exact Option.isSome_iff_exists.1 (by kernel_rfl)
theorem lenO_of {α : Type} {o : Option (List α)} {l r : List α} (h : o = some r) (hl : r.length = l.length) : lenO o l = some r := by
 subst h
 simp [lenO, hl]
theorem SortFunc_eq {F : Nat} {t : Table} (h : TabOk F t) {l : List Int} (hl : l.length ≤ 8) (hv : ∀ v ∈ l, 0 ≤ v ∧ v < t.p_Teams.length) : slices_SortFunc_int_m_window_table_order F l t = some (sortP (firstT t) l) := by
 have := h.h
 obtain ⟨m, hm⟩ : ∃ m, F = m + 1 := ⟨F - 1, by omega⟩
 obtain ⟨r, hr⟩ := bitsLen_ex (F := F) hl
 have e1 := lenO_of (insertion_eq h hl hv) (sortP_len _ _)
 have e2 : slices_pdqsortCmpFunc_int_m_window_table_order F l 0 l.length r t = some (sortP (firstT t) l) := by
  unfold slices_pdqsortCmpFunc_int_m_window_table_order
  conv => lhs; arg 8; rw [hm]
  rw [slices_pdqsortCmpFunc_int_m_window_table_order_L1, if_pos (by rw [W_id] <;> omega), e1]
  rfl
 unfold slices_SortFunc_int_m_window_table_order
 rw [hr, Option.bind_some, lenO_of e2 (sortP_len _ _)]
 rfl
/-! ### Who has a right -/
def pickFrom (c : Nat → Bool) : Nat → Nat → List Int
 | 0, _ => []
 | m + 1, k => if c k = true then (k : Int) :: pickFrom c m (k + 1) else pickFrom c m (k + 1)
theorem pick_mem {c : Nat → Bool} {v : Int} : ∀ {m k : Nat}, v ∈ pickFrom c m k ↔ ∃ j : Nat, v = (j : Int) ∧ k ≤ j ∧ j < k + m ∧ c j = true
 | 0, k => by
  simp only [pickFrom, List.not_mem_nil, false_iff]
  rintro ⟨j, _, _, _, _⟩
  omega
 | m + 1, k => by
  rw [pickFrom]
  have ih := pick_mem (c := c) (v := v) (m := m) (k := k + 1)
  by_cases hc : c k = true
  ·rw [if_pos hc, List.mem_cons, ih]
   constructor
   ·rintro (rfl | ⟨j, h1, h2, h3, h4⟩)
    ·exact ⟨k, rfl, by omega, by omega, hc⟩
    ·exact ⟨j, h1, by omega, by omega, h4⟩
   ·rintro ⟨j, h1, h2, h3, h4⟩
    by_cases hj : j = k
    ·subst hj; exact .inl h1
    ·exact .inr ⟨j, h1, by omega, by omega, h4⟩
  ·rw [if_neg hc, ih]
   constructor
   ·rintro ⟨j, h1, h2, h3, h4⟩
    exact ⟨j, h1, by omega, by omega, h4⟩
   ·rintro ⟨j, h1, h2, h3, h4⟩
    by_cases hj : j = k
    ·subst hj; exact absurd h4 hc
    ·exact ⟨j, h1, by omega, by omega, h4⟩
theorem pick_len (c : Nat → Bool) : ∀ (m k : Nat), (pickFrom c m k).length ≤ m
 | 0, k => Nat.le_refl _
 | m + 1, k => by
  have := pick_len c m (k + 1)
  rw [pickFrom]
  split
  ·rw [List.length_cons]; omega
  ·omega
def doneT (t : Table) (k : Nat) : Bool := (mget t.done (k : Int)).getD false
def canT (t : Table) (k : Nat) : Bool := !doneT t k && decide (whyT t k = 0)
def rightsT (t : Table) : List Int := sortP (firstT t) (pickFrom (canT t) t.p_Teams.length 0)
theorem Seq_L1 {F : Nat} {t : Table} (h : TabOk F t) : ∀ (n k : Nat) (l : List Int), t.p_Teams.length < n + k → k ≤ t.p_Teams.length → l.length ≤ k → slices_AppendSeq_int_n_window_table_entitled_1_L1 F t (fun _ l => some l) n k l = some (l ++ pickFrom (canT t) (t.p_Teams.length - k) k)
 | 0, k, l, h1, h2, _ => absurd h1 (by omega)
 | n + 1, k, l, h1, h2, h3 => by
  have := h.n
  rw [slices_AppendSeq_int_n_window_table_entitled_1_L1]
  by_cases hk : k < t.p_Teams.length
  ·rw [if_pos (by omega), why_eq h hk, Option.bind_some, app_one (by omega), Option.bind_some, W_succ (by omega), Seq_L1 h n (k + 1) l (by omega) (by omega) (by omega), Seq_L1 h n (k + 1) (l ++ [(k : Int)]) (by omega) (by omega) (by simp; omega), show t.p_Teams.length - k = (t.p_Teams.length - (k + 1)) + 1 by omega, pickFrom]
   unfold canT doneT
   cases (mget t.done (k : Int)).getD false
   ·by_cases hw : whyT t k = 0 <;> simp [hw]
   ·simp
  ·rw [if_neg (by omega), show t.p_Teams.length - k = 0 by omega]
   simp [pickFrom]
theorem rights_eq {F : Nat} {t : Table} (h : TabOk F t) : window_table_rights F t = some (rightsT t) := by
 have := h.n; have := h.h
 have e1 : slices_AppendSeq_int_n_window_table_entitled_1 F t = _ := Seq_L1 h F 0 [] (by omega) (by omega) (by simp)
 have hp := pick_len (canT t) t.p_Teams.length 0
 have e2 := SortFunc_eq h (l := pickFrom (canT t) t.p_Teams.length 0) (by omega) fun v hv => by
  obtain ⟨j, rfl, _, hj, _⟩ := pick_mem.1 hv
  omega
 unfold window_table_rights window_table_entitled slices_SortedFunc_int_window_table_entitled_1_window_table_order slices_Collect_int_window_table_entitled_1
 rw [Option.bind_some, e1, Option.bind_some, List.nil_append, Nat.sub_zero, Option.bind_some, lenO_of e2 (sortP_len _ _)]
 rfl
end Go.Proofs.Ytdefnmcjmklohaa
