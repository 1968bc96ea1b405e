/- Slices that a call has made itself, and what 'append' and '[]byte(s)' leave: over whatever program. The formats of frames as values: channels, formats, and how they lie in memory. -/
import Derived.Test.YtjnnkcnnandeeaaBase
import Derived.Lib.ConvBytes
namespace Go.Proofs.Ytjnnkcnnandeeaa
open Go.RowKit

/-- A slice value with n elements of 'size' cells each (element type e): nil, or at the head of a block from 'base' on, whose first cells are xs; no cell up to the capacity is marked. -/
def Own (w : World) (base : Nat) (e : TypeId) (size : Nat) (v : Value) (n : Nat) (xs : List Value) : Prop :=
  xs.length = n * size ∧
  ((v = .slice none 0 0 ∧ n = 0) ∨
   ∃ g cap cur lo hi, v = .slice (some ⟨g, 0, none⟩) n cap ∧ base ≤ g ∧ w.heap[g]? = some (.cells cur e (lo, hi)) ∧ n ≤ cap ∧ cap ≤ maxLen ∧ cap * size ≤ cur.size ∧ (cap * size ≤ lo ∨ hi ≤ lo) ∧ cur.toList.take (n * size) = xs)

/-- What a slice's address reads: m elements of 'size' cells. -/
def Src (w : World) (A : Option Addr) (m size : Nat) (xs : List Value) : Prop :=
  xs.length = m * size ∧ (0 < m → ∃ ad, A = some ad ∧ ∀ j u, xs[j]? = some u → w.cell? (ad.add j) = some u)

theorem addr_add (b o j : Nat) : (⟨b, o, none⟩ : Addr).add j = ⟨b, o + j, none⟩ := by unfold Addr.add; split <;> simp_all

section
variable {w w' : World} {base : Nat} {e : TypeId} {size : Nat} {v : Value} {n : Nat} {xs : List Value}

theorem Own.nil (w : World) (base : Nat) (e : TypeId) (size : Nat) : Own w base e size (.slice none 0 0) 0 [] := ⟨by simp, .inl ⟨rfl, rfl⟩⟩
theorem Own.block (h : Own w base e size v n xs) : ∀ k, v.ownBlock = some k → base ≤ k ∧ k < w.heap.size := by
  intro k hk
  rcases h.2 with ⟨rfl, _⟩ | ⟨g, cap, cur, lo, hi, rfl, hb, hg, _⟩
  · simp [Value.ownBlock] at hk
  · simp [Value.ownBlock] at hk
    subst hk
    exact ⟨hb, (Array.getElem?_eq_some_iff.1 hg).1⟩
theorem Own.keep (h : Own w base e size v n xs) (hk : ∀ g, v.ownBlock = some g → w'.heap[g]? = w.heap[g]?) : Own w' base e size v n xs := by
  refine ⟨h.1, ?_⟩
  rcases h.2 with hn | ⟨g, cap, cur, lo, hi, rfl, hb, hg, rest⟩
  · exact .inl hn
  · exact .inr ⟨g, cap, cur, lo, hi, rfl, hb, by rw [hk g rfl]; exact hg, rest⟩
theorem Own.ext (h : Own w base e size v n xs) (k : Ext w w') : Own w' base e size v n xs :=
  h.keep fun g hg => Below.block k g (h.block g hg).2
theorem Own.drew (h : Own w base e size v n xs) : Own w.drew base e size v n xs := h
theorem Own.drewN (h : Own w base e size v n xs) (k : Nat) : Own (w.drewN k) base e size v n xs := h
theorem Own.alloc (h : Own w base e size v n xs) (o : Obj) : Own (w.alloc o) base e size v n xs := h.ext ((Ext.refl w).alloc o)
theorem Own.setCell (h : Own w base e size v n xs) {p : Addr} (hp : v.ownBlock ≠ some p.block) (u : Value) : Own (w.setCell p u) base e size v n xs :=
  h.keep fun g hg => Below.heap_setCell w p u g (fun he => hp (by rw [hg, he]))
theorem Own.mono (h : Own w base e size v n xs) {base' : Nat} (hb : base' ≤ base) : Own w base' e size v n xs := by
  refine ⟨h.1, ?_⟩
  rcases h.2 with hn | ⟨g, cap, cur, lo, hi, hv, hg, rest⟩
  · exact .inl hn
  · exact .inr ⟨g, cap, cur, lo, hi, hv, Nat.le_trans hb hg, rest⟩
/-- The value, its address under a letter. -/
theorem Own.form (h : Own w base e size v n xs) : ∃ A cap, v = .slice A n cap ∧ n ≤ cap ∧ cap ≤ maxLen ∧ Src w A n size xs := by
  rcases h.2 with ⟨rfl, rfl⟩ | ⟨g, cap, cur, lo, hi, rfl, hb, hg, hnc, hm, hcs, _, ht⟩
  · have : xs = [] := List.eq_nil_of_length_eq_zero (by simpa using h.1)
    subst this
    exact ⟨none, 0, rfl, Nat.le_refl _, by simp [maxLen], by simp, fun hh => absurd hh (by omega)⟩
  · refine ⟨_, cap, rfl, hnc, hm, h.1, fun _ => ⟨_, rfl, fun j u hu => ?_⟩⟩
    rw [addr_add, Nat.zero_add, cell_of_row w g j cur e (lo, hi) hg]
    rw [← ht, List.getElem?_take] at hu
    split at hu
    · simpa using hu
    · cases hu
theorem Src.ext {A : Option Addr} {m : Nat} (h : Src w A m size xs) (k : Ext w w') : Src w' A m size xs :=
  ⟨h.1, fun hm => by
    obtain ⟨ad, e, hc⟩ := h.2 hm
    exact ⟨ad, e, fun j u hu => k.cell (hc j u hu)⟩⟩
end

section
variable {P : Program}
theorem run_storeCells_fz (g o : Nat) (t : TypeId) (lo hi : Nat) : ∀ (vs : List Value) (i : Nat) (cur : Array Value) (w : World), w.heap[g]? = some (.cells cur t (lo, hi)) → o + i + vs.length ≤ cur.size →
    (o + i + vs.length ≤ lo ∨ hi ≤ lo) → (∀ v ∈ vs, v.oneCell' = true) →
    (storeCells ⟨g, o, none⟩ vs i).run P w = .ok () (w.setRow g (cur.toList.take (o + i) ++ vs ++ cur.toList.drop (o + i + vs.length)).toArray)
  | [], i, cur, w, hg, _, _, _ => by
    simp only [storeCells, List.append_nil, List.length_nil, Nat.add_zero, List.take_append_drop, Array.toArray_toList]
    rw [setRow_self w g cur t (lo, hi) hg]
    rfl
  | v :: rest, i, cur, w, hg, hl, hf, h1 => by
    have hi : o + i < cur.size := by simp at hl; omega
    have hadd : (⟨g, o, none⟩ : Addr).add i = ⟨g, o + i, none⟩ := addr_add g o i
    have hcell : w.cell? ⟨g, o + i, none⟩ = some cur[o + i] := by simp [World.cell?, hg, hi]
    have hfro : w.frozen? ⟨g, o + i, none⟩ = false := by
      simp only [World.frozen?, hg]
      simp at hf ⊢
      omega
    have hst : (store ((⟨g, o, none⟩ : Addr).add i) v).run P w = .ok () (w.setRow g (cur.setIfInBounds (o + i) v)) := by
      rw [hadd, run_store P w _ v _ (h1 v (by simp)), hcell]
      simp [hfro, setCell_eq_setRow w g (o + i) cur t (lo, _) v hg]
    have ih := run_storeCells_fz g o t lo _ rest (i + 1) (cur.setIfInBounds (o + i) v) (w.setRow g (cur.setIfInBounds (o + i) v)) (setRow_heap w g cur _ t _ hg) (by simp at hl ⊢; omega) (by simp at hf ⊢; omega) (fun x hx => h1 x (by simp [hx]))
    simp only [storeCells, Sem.run_bind, hst, Result.andThen_ok, ih, setRow_setRow]
    congr 3
    have e := list_seg_step cur.toList (o + i) v rest (by simp at hl ⊢; omega)
    simpa [Array.toList_setIfInBounds, Nat.add_assoc] using e

theorem run_firstCells_src (w : World) (size m : Nat) (A : Option Addr) (c : Nat) (news : List Value) (h : Src w A m size news) :
    (Builtin.firstCells size m (.slice A m c)).run P w = .ok news.toArray w := by
  cases A with
  | none =>
    have hm : m = 0 := by
      rcases Nat.eq_zero_or_pos m with h0 | h0
      · exact h0
      · obtain ⟨ad, h', _⟩ := h.2 h0; cases h'
    subst hm
    have : news = [] := List.eq_nil_of_length_eq_zero (by simpa using h.1)
    subst this
    simp [Builtin.firstCells]
  | some ad =>
    refine run_firstCells_some w size m ad m c news h.1 (fun j u hu => ?_)
    rcases Nat.eq_zero_or_pos m with h0 | h0
    · subst h0
      have : news = [] := List.eq_nil_of_length_eq_zero (by simpa using h.1)
      subst this
      simp at hu
    · obtain ⟨ad', h', hc⟩ := h.2 h0
      injection h' with h'
      subst h'
      exact hc j u hu

/-- 'append(v, x...)' onto a slice of the call's own. -/
theorem run_append_own' (w : World) (base : Nat) (t ty e : TypeId) (i : TypeInfo) (z : Value) (size bytes : Nat) (ht : P.underlying t = some (.slice e)) (hi : P.info? e = some i) (hz : i.zero = some z)
    (hsize : i.size = size) (hby : i.bytes = bytes) (hzs : z.cells.size = size)
    (v : Value) (n : Nat) (xs : List Value) (hown : Own w base e size v n xs)
    (A : Option Addr) (m c : Nat) (news : List Value) (hsrc : Src w A m size news) (h1 : ∀ u ∈ news, u.oneCell' = true)
    (h63 : n + m ≤ maxLen) (hbytes : (n + m) * bytes ≤ 140737488355328) (hbase : base ≤ w.heap.size) :
    ∃ v' w', (Builtin.append_ #[t, t] ty #[v, .slice A m c]).run P w = .ok v' w' ∧ Own w' base e size v' (n + m) (xs ++ news) ∧ w.grownBy w' v.ownBlock ∧
      (v'.ownBlock = v.ownBlock ∨ v'.ownBlock = some w.heap.size) := by
  subst hsize
  subst hby
  have hsmall : n + m ≤ 9223372036854775807 := by simp only [maxLen] at h63; omega
  have hlen : (xs ++ news).length = (n + m) * i.size := by rw [List.length_append, hown.1, hsrc.1, Nat.add_mul]
  have grown : ∀ (old : Nat), ∀ (row : Option Nat),
      Own (w.drew.alloc (.cells (xs.toArray ++ news.toArray ++ Builtin.zeroCells z.cells (grownCap w (n + m) old e - (n + m))) e)) base e i.size
        (.slice (some ⟨w.heap.size, 0, none⟩) (n + m) (grownCap w (n + m) old e)) (n + m) (xs ++ news) ∧
      w.grownBy (w.drew.alloc (.cells (xs.toArray ++ news.toArray ++ Builtin.zeroCells z.cells (grownCap w (n + m) old e - (n + m))) e)) row := by
    intro old row
    have hge := grownCap_ge w (n + m) old e
    have hcm : grownCap w (n + m) old e ≤ maxLen := grownCap_le_maxLen w (n + m) old e h63
    refine ⟨⟨hlen, .inr ⟨w.heap.size, _, _, 0, 0, rfl, hbase, heap_alloc_new w.drew _, hge, hcm, ?_, .inr (Nat.le_refl _), ?_⟩⟩, ⟨rfl, rfl, rfl, by simp, fun k hk _ => Below.heap_alloc w.drew _ k hk⟩⟩
    · simp only [Array.size_append, List.size_toArray, size_zeroCells, hzs, hown.1, hsrc.1, ← Nat.add_mul]
      exact Nat.mul_le_mul_right _ (by omega)
    · simp only [Array.toList_append, List.append_assoc]
      rw [← List.append_assoc, ← hlen]
      exact List.take_left
  rcases hown.2 with ⟨rfl, rfl⟩ | ⟨g, cap, cur, lo, hi', rfl, hbg, hg, hnc, hcm, hcs, hfz, htake⟩
  · have hx : xs = [] := List.eq_nil_of_length_eq_zero (by simpa using hown.1)
    subst hx
    by_cases hm : m = 0
    · subst hm
      have hn : news = [] := List.eq_nil_of_length_eq_zero (by simpa using hsrc.1)
      subst hn
      refine ⟨.slice none 0 0, w, ?_, Own.nil w base e i.size, ⟨rfl, rfl, rfl, Nat.le_refl _, fun _ _ _ => rfl⟩, .inl rfl⟩
      have hf := run_firstCells_src (P := P) w i.size 0 A c [] hsrc
      simp [Builtin.append_, run_underlying ht, sizeOf, typeInfo, hi, Builtin.lenOf, hf]
    · obtain ⟨ad, rfl, hc⟩ := hsrc.2 (by omega)
      have hr := run_append_nil (P := P) w t ty e i z ht hi hz ad m c news hsrc.1 hc (by omega) (by omega) (by have hb := hbytes; simp only [Nat.zero_add] at hb; omega)
      have hgr := grown 0 (Value.ownBlock (.slice none 0 0))
      simp only [Nat.zero_add, List.nil_append, Array.empty_append] at hgr ⊢
      exact ⟨_, _, hr, hgr.1, hgr.2, .inr rfl⟩
  · by_cases hroom : n + m ≤ cap
    · have hf := run_firstCells_src (P := P) w i.size m A c news hsrc
      have hle : (n + m) * i.size ≤ cap * i.size := Nat.mul_le_mul_right _ hroom
      have hnl : news.length = m * i.size := hsrc.1
      have hfit : n * i.size + news.length ≤ cur.size := by rw [hnl, ← Nat.add_mul]; omega
      have hst := run_storeCells_fz (P := P) g (n * i.size) e lo hi' news 0 cur w hg (by simpa using hfit) (by
        rcases hfz with hfz | hfz
        · left; rw [Nat.add_zero, hnl, ← Nat.add_mul]; omega
        · exact .inr hfz) h1
      simp only [Nat.add_zero] at hst
      have hr : (Builtin.append_ #[t, t] ty #[.slice (some ⟨g, 0, none⟩) n cap, .slice A m c]).run P w =
          .ok (.slice (some ⟨g, 0, none⟩) (n + m) cap) (w.setRow g (cur.toList.take (n * i.size) ++ news ++ cur.toList.drop (n * i.size + news.length)).toArray) := by
        simp [Builtin.append_, run_underlying ht, sizeOf, typeInfo, hi, Builtin.lenOf, hroom, hf, addr_add, hst]
      refine ⟨_, _, hr, ⟨hlen, .inr ⟨g, cap, _, lo, hi', rfl, hbg, setRow_heap w g cur _ e _ hg, hroom, hcm, ?_, hfz, ?_⟩⟩, ⟨rfl, rfl, rfl, by simp, fun k _ hk => setRow_other w g k _ (fun e => hk (by simp [Value.ownBlock, e]))⟩, .inl rfl⟩
      · simp only [List.size_toArray, List.length_append, List.length_take, List.length_drop, Array.length_toList]
        omega
      · rw [htake, ← hlen]
        exact List.take_left
    · have holds : ∀ j u, xs[j]? = some u → w.cell? ((⟨g, 0, none⟩ : Addr).add j) = some u := by
        intro j u hu
        rw [addr_add, Nat.zero_add, cell_of_row w g j cur e (lo, hi') hg]
        rw [← htake, List.getElem?_take] at hu
        split at hu
        · simpa using hu
        · cases hu
      have hm : 0 < m := by omega
      obtain ⟨ad, rfl, hc⟩ := hsrc.2 hm
      have hr := run_append_grow (P := P) w t ty e i z ht hi hz ⟨g, 0, none⟩ n cap xs hown.1 holds ad m c news hsrc.1 hc (by omega) (by omega) (growslice_fits (by omega) hbytes)
      have hgr := grown cap (Value.ownBlock (.slice (some ⟨g, 0, none⟩) n cap))
      exact ⟨_, _, hr, hgr.1, hgr.2, .inr rfl⟩

/-- The same as a law of the walk. -/
theorem wp_append {w : World} {o : Oper} {a : Act} {K : Act → World → Prop} {Q : Exit → Act → World → Prop} (s x : Operand) (t : TypeId)
    (ho : o.op = .call { callee := .builtin .append, args := #[s, x], argTypes := #[t, t] })
    (base : Nat) (e : TypeId) (i : TypeInfo) (z : Value) (size bytes : Nat) (ht : P.underlying t = some (.slice e)) (hi : P.info? e = some i) (hz : i.zero = some z)
    (hsize : i.size = size) (hby : i.bytes = bytes) (hzs : z.cells.size = size)
    (v : Value) (n : Nat) (xs : List Value) (hs : a.eval s = v) (hown : Own w base e size v n xs)
    (A : Option Addr) (m c : Nat) (news : List Value) (hx : a.eval x = .slice A m c) (hsrc : Src w A m size news) (h1 : ∀ u ∈ news, u.oneCell' = true)
    (h63 : n + m ≤ maxLen) (hbytes : (n + m) * bytes ≤ 140737488355328) (hbase : base ≤ w.heap.size)
    (h : ∀ v' w', Own w' base e size v' (n + m) (xs ++ news) → w.grownBy w' v.ownBlock → (v'.ownBlock = v.ownBlock ∨ v'.ownBlock = some w.heap.size) → K (a.put o.dst v') w') : o.wp P a w K Q := by
  obtain ⟨v', w', hr, h2, h3, h4⟩ := run_append_own' (P := P) w base t o.type e i z size bytes ht hi hz hsize hby hzs v n xs hown A m c news hsrc h1 h63 hbytes hbase
  unfold Oper.wp execOp
  simp only [ho, resolve, invoke, builtin, Sem.run_bind, Sem.run_pure, Result.andThen_ok, List.map_toArray, List.map_cons, List.map_nil, hs, hx, hr]
  exact h v' w' h2 h3 h4
theorem wpList_append {w : World} {ops : Array Oper} {rest : List Oper} {o : Oper} {a : Act} {Q : Exit → Act → World → Prop} (hgd : o.guard = none) (s x : Operand) (t : TypeId)
    (ho : o.op = .call { callee := .builtin .append, args := #[s, x], argTypes := #[t, t] })
    (base : Nat) (e : TypeId) (i : TypeInfo) (z : Value) (size bytes : Nat) (ht : P.underlying t = some (.slice e)) (hi : P.info? e = some i) (hz : i.zero = some z)
    (hsize : i.size = size) (hby : i.bytes = bytes) (hzs : z.cells.size = size)
    (v : Value) (n : Nat) (xs : List Value) (hs : a.eval s = v) (hown : Own w base e size v n xs)
    (A : Option Addr) (m c : Nat) (news : List Value) (hx : a.eval x = .slice A m c) (hsrc : Src w A m size news) (h1 : ∀ u ∈ news, u.oneCell' = true)
    (h63 : n + m ≤ maxLen) (hbytes : (n + m) * bytes ≤ 140737488355328) (hbase : base ≤ w.heap.size)
    (h : ∀ v' w', Own w' base e size v' (n + m) (xs ++ news) → w.grownBy w' v.ownBlock → (v'.ownBlock = v.ownBlock ∨ v'.ownBlock = some w.heap.size) → wpList P ops Q rest (a.put o.dst v') w') : wpList P ops Q (o :: rest) a w :=
  wpList_plain hgd fun _ hK => wp_append s x t ho base e i z size bytes ht hi hz hsize hby hzs v n xs hs hown A m c news hx hsrc h1 h63 hbytes hbase fun v' w' h2 h3 h4 => hK _ _ (h v' w' h2 h3 h4)
theorem step_append {w : World} {ops : Array Oper} {o : Oper} {a : Act} {K : Act → World → Prop} {Q : Exit → Act → World → Prop} {E : Prop} (hgd : o.guard = none) (s x : Operand) (t : TypeId)
    (ho : o.op = .call { callee := .builtin .append, args := #[s, x], argTypes := #[t, t] })
    (base : Nat) (e : TypeId) (i : TypeInfo) (z : Value) (size bytes : Nat) (ht : P.underlying t = some (.slice e)) (hi : P.info? e = some i) (hz : i.zero = some z)
    (hsize : i.size = size) (hby : i.bytes = bytes) (hzs : z.cells.size = size)
    (v : Value) (n : Nat) (xs : List Value) (hs : a.eval s = v) (hown : Own w base e size v n xs)
    (A : Option Addr) (m c : Nat) (news : List Value) (hx : a.eval x = .slice A m c) (hsrc : Src w A m size news) (h1 : ∀ u ∈ news, u.oneCell' = true)
    (h63 : n + m ≤ maxLen) (hbytes : (n + m) * bytes ≤ 140737488355328) (hbase : base ≤ w.heap.size)
    (h : ∀ v' w', Own w' base e size v' (n + m) (xs ++ news) → w.grownBy w' v.ownBlock → (v'.ownBlock = v.ownBlock ∨ v'.ownBlock = some w.heap.size) → K (a.put o.dst v') w') :
    if Region.wanted o (yielded ops a.tmps) = true then Oper.wp P o a w K Q else E := by
  have hw : Region.wanted o (yielded ops a.tmps) = true := by simp [Region.wanted, hgd]
  rw [if_pos hw]
  exact wp_append s x t ho base e i z size bytes ht hi hz hsize hby hzs v n xs hs hown A m c news hx hsrc h1 h63 hbytes hbase h
/-- What an append leaves, said shortly: the new slice is owned, and below 'base' nothing has turned. -/
theorem wpList_app {w : World} {ops : Array Oper} {rest : List Oper} {o : Oper} {a : Act} {Q : Exit → Act → World → Prop} (hgd : o.guard = none) (s x : Operand) (t : TypeId)
    (ho : o.op = .call { callee := .builtin .append, args := #[s, x], argTypes := #[t, t] })
    (base : Nat) (e : TypeId) (i : TypeInfo) (z : Value) (size bytes : Nat) (ht : P.underlying t = some (.slice e)) (hi : P.info? e = some i) (hz : i.zero = some z)
    (hsize : i.size = size) (hby : i.bytes = bytes) (hzs : z.cells.size = size)
    (v : Value) (n : Nat) (xs : List Value) (hs : a.eval s = v) (hown : Own w base e size v n xs)
    (A : Option Addr) (m c : Nat) (news : List Value) (hx : a.eval x = .slice A m c) (hsrc : Src w A m size news) (h1 : ∀ u ∈ news, u.oneCell' = true)
    (h63 : n + m ≤ maxLen) (hbytes : (n + m) * bytes ≤ 140737488355328) (hbase : base ≤ w.heap.size)
    (h : ∀ v' w', Own w' base e size v' (n + m) (xs ++ news) → Below base w w' → wpList P ops Q rest (a.put o.dst v') w') : wpList P ops Q (o :: rest) a w :=
  wpList_append hgd s x t ho base e i z size bytes ht hi hz hsize hby hzs v n xs hs hown A m c news hx hsrc h1 h63 hbytes hbase fun v' w' h2 h3 _ =>
    h v' w' h2 ((Below.refl base w).grown h3 hbase fun k hk => (hown.block k hk).1)
theorem step_app {w : World} {ops : Array Oper} {o : Oper} {a : Act} {K : Act → World → Prop} {Q : Exit → Act → World → Prop} {E : Prop} (hgd : o.guard = none) (s x : Operand) (t : TypeId)
    (ho : o.op = .call { callee := .builtin .append, args := #[s, x], argTypes := #[t, t] })
    (base : Nat) (e : TypeId) (i : TypeInfo) (z : Value) (size bytes : Nat) (ht : P.underlying t = some (.slice e)) (hi : P.info? e = some i) (hz : i.zero = some z)
    (hsize : i.size = size) (hby : i.bytes = bytes) (hzs : z.cells.size = size)
    (v : Value) (n : Nat) (xs : List Value) (hs : a.eval s = v) (hown : Own w base e size v n xs)
    (A : Option Addr) (m c : Nat) (news : List Value) (hx : a.eval x = .slice A m c) (hsrc : Src w A m size news) (h1 : ∀ u ∈ news, u.oneCell' = true)
    (h63 : n + m ≤ maxLen) (hbytes : (n + m) * bytes ≤ 140737488355328) (hbase : base ≤ w.heap.size)
    (h : ∀ v' w', Own w' base e size v' (n + m) (xs ++ news) → Below base w w' → K (a.put o.dst v') w') :
    if Region.wanted o (yielded ops a.tmps) = true then Oper.wp P o a w K Q else E :=
  step_append hgd s x t ho base e i z size bytes ht hi hz hsize hby hzs v n xs hs hown A m c news hx hsrc h1 h63 hbytes hbase fun v' w' h2 h3 _ =>
    h v' w' h2 ((Below.refl base w).grown h3 hbase fun k hk => (hown.block k hk).1)
/-- '[]byte(s)': a slice of the call's own. -/
theorem conv_bytes (w : World) (src dst e : TypeId) (s : ByteArray) (hs : P.underlying src = some .string) (hd : P.underlying dst = some (.slice e)) (he : P.underlying e = some (.int .u8)) (hm : s.size ≤ maxLen) :
    ∃ A cap w1, (convert src dst (.string s)).run P w = .ok (.slice A s.size cap) w1 ∧ Ext w w1 ∧ Own w1 w.heap.size e 1 (.slice A s.size cap) s.size (s.data.toList.map fun b => .int .u8 (b.toNat : Nat)) := by
  refine ⟨_, _, _, Lib.run_convert_string_bytes w src dst e s hs hd he, ⟨?_, ?_, ?_, ?_, fun k hk => Lib.bytesWorld_at_old w e s k hk⟩, ?_⟩
  · simp [Lib.bytesWorld, World.freeze, World.alloc, World.drew, -World.alloc_eq, -World.drew_eq]
  · simp [Lib.bytesWorld, World.freeze, World.alloc, World.drew, -World.alloc_eq, -World.drew_eq]
  · simp [Lib.bytesWorld, World.freeze, World.alloc, World.drew, -World.alloc_eq, -World.drew_eq]
  · rw [Lib.bytesWorld_size]; omega
  · have hge := grownCap_ge w s.size 0 e
    have hcs : (Lib.bytesCells w e s).size = grownCap w s.size 0 e := by
      simp only [Lib.bytesCells, Array.size_append, Array.size_map, Array.size_replicate]
      have : s.data.size = s.size := rfl
      omega
    refine ⟨by rw [List.length_map, Array.length_toList, Nat.mul_one]; rfl, .inr ⟨w.heap.size, _, Lib.bytesCells w e s, (Lib.bytesCells w e s).size, (Lib.bytesCells w e s).size + 1, rfl, Nat.le_refl _, Lib.bytesWorld_at_new w e s, hge, grownCap_le_maxLen w s.size 0 e hm, by omega, .inl (by omega), ?_⟩⟩
    simp only [Lib.bytesCells, Array.toList_append, Array.toList_map, Nat.mul_one]
    rw [List.take_left' (by rw [List.length_map, Array.length_toList]; rfl)]
end

/-- A new block written out, at its head. -/
theorem Own.lit (w : World) (base : Nat) (e : TypeId) (size n : Nat) (cur : Array Value) (hb : base ≤ w.heap.size) (hn : cur.size = n * size) (hm : n ≤ maxLen) :
    Own (w.alloc (.cells cur e)) base e size (.slice (some ⟨w.heap.size, 0, none⟩) n n) n cur.toList :=
  ⟨by rw [Array.length_toList, hn], .inr ⟨w.heap.size, n, cur, 0, 0, rfl, hb, heap_alloc_new w _, Nat.le_refl _, hm, by omega, .inr (Nat.le_refl _), by rw [← hn, ← Array.length_toList, List.take_length]⟩⟩
theorem Own.src {w : World} {base : Nat} {e : TypeId} {size : Nat} {A : Option Addr} {n cap : Nat} {xs : List Value} (h : Own w base e size (.slice A n cap) n xs) : Src w A n size xs := by
  obtain ⟨A', cap', he, _, _, hs⟩ := h.form
  injection he with h1
  subst h1
  exact hs
theorem getD_map_int (k : IntKind) (l : List Int) (j : Nat) (u : Value) (h : (l.map (Value.int k))[j]? = some u) : u = .int k (l.getD j 0) := by
  rw [List.getElem?_map] at h
  cases hj : l[j]? with
  | none => rw [hj] at h; cases h
  | some x => rw [hj] at h; simp at h; rw [← h, List.getD_eq_getElem?_getD, hj]; rfl
/-- A slice of the call's own, read as a list of integers. -/
theorem Own.ints {w : World} {base : Nat} {e : TypeId} {k : IntKind} {v : Value} {l : List Int} {n : Nat} (h : Own w base e 1 v n (l.map (Value.int k))) : IntsV w k v l := by
  have hn : n = l.length := by have := h.1; simpa using this.symm
  subst hn
  rcases h.2 with ⟨rfl, h0⟩ | ⟨g, cap, cur, lo, hi, rfl, hb, hg, hnc, hm, hcs, _, ht⟩
  · have : l = [] := List.eq_nil_of_length_eq_zero h0
    subst this
    exact IntsV.nil w k
  · refine ⟨_, cap, rfl, hnc, hm, fun hpos => ⟨g, 0, rfl, (Array.getElem?_eq_some_iff.1 hg).1, fun j hj => ?_⟩⟩
    rw [Nat.zero_add, cell_of_row w g j cur e (lo, hi) hg]
    have hu : (l.map (Value.int k))[j]? = some (.int k (l.getD j 0)) := by
      rw [List.getElem?_map, List.getElem?_eq_getElem hj, List.getD_eq_getElem?_getD, List.getElem?_eq_getElem hj]; rfl
    rw [← ht, List.getElem?_take] at hu
    split at hu
    · simpa using hu
    · cases hu
theorem Own.bytes {w : World} {base : Nat} {e : TypeId} {v : Value} {l : List Nat} {n : Nat} (h : Own w base e 1 v n (l.map fun b => Value.int .u8 (b : Nat))) (hl : ∀ x ∈ l, x < 256) : BytesV w v l := by
  have hn : n = l.length := by have := h.1; simpa using this.symm
  subst hn
  refine ⟨hl, ?_⟩
  rcases h.2 with ⟨rfl, h0⟩ | ⟨g, cap, cur, lo, hi, rfl, hb, hg, hnc, hm, hcs, _, ht⟩
  · have : l = [] := List.eq_nil_of_length_eq_zero h0
    subst this
    exact (BytesV.nil w).2
  · refine ⟨_, cap, rfl, hnc, hm, fun hpos => ⟨g, 0, rfl, (Array.getElem?_eq_some_iff.1 hg).1, fun j hj => ?_⟩⟩
    rw [Nat.zero_add, cell_of_row w g j cur e (lo, hi) hg]
    have hu : (l.map fun b => Value.int .u8 (b : Nat))[j]? = some (.int .u8 (l.getD j 0 : Nat)) := by
      rw [List.getElem?_map, List.getElem?_eq_getElem hj, List.getD_eq_getElem?_getD, List.getElem?_eq_getElem hj]; rfl
    rw [← ht, List.getElem?_take] at hu
    split at hu
    · simpa using hu
    · cases hu
/-- What a slice of bytes, or of integers, reads, as the source of an append. -/
theorem Row.src {w : World} {A : Option Addr} {n : Nat} {g : Nat → Value} (h : Row w A n g) : Src w A n 1 ((List.range n).map g) := by
  refine ⟨by simp, fun hn => ?_⟩
  obtain ⟨b, off, e, hb, hc⟩ := h hn
  refine ⟨_, e, fun j u hu => ?_⟩
  rw [addr_add]
  rw [List.getElem?_map] at hu
  by_cases hj : j < n
  · rw [List.getElem?_range hj] at hu
    simp at hu
    rw [hc j hj, hu]
  · rw [List.getElem?_eq_none (by simpa using hj)] at hu
    cases hu
theorem map_range_getD {α β : Type} (l : List α) (d : α) (f : α → β) : (List.range l.length).map (fun j => f (l.getD j d)) = l.map f := by
  apply List.ext_getElem
  · simp
  · intro i h1 h2
    simp at h1
    simp [List.getD_eq_getElem?_getD, h1]
end Go.Proofs.Ytjnnkcnnandeeaa
namespace Go.Proofs.Ytjnnkcnnandeeaa
open Go.RowKit
structure Chan where
  name : ByteArray
  word : Int
  every : Int
  phase : Int
instance : Inhabited Chan := ⟨⟨ByteArray.empty, 0, 0, 0⟩⟩
def Chan.val (c : Chan) : Value := .agg #[.string c.name, .int .i64 c.word, .int .i64 c.every, .int .i64 c.phase]
def Chan.cell (c : Chan) : Nat → Value
  | 0 => .string c.name
  | 1 => .int .i64 c.word
  | 2 => .int .i64 c.every
  | _ => .int .i64 c.phase
/-- A slice value that reads as a list of channels. -/
def ChansV (w : World) (v : Value) (l : List Chan) : Prop :=
  ∃ A cap, v = .slice A l.length cap ∧ l.length ≤ cap ∧ cap ≤ maxLen ∧ Rows2 w A l.length 4 (fun i f => (l.getD i default).cell f)
theorem ChansV.cext {w w' : World} {v : Value} {l : List Chan} (h : ChansV w v l) (e : CExt w w') : ChansV w' v l := by
  obtain ⟨A, cap, h1, h2, h3, h4⟩ := h
  exact ⟨A, cap, h1, h2, h3, h4.cext e⟩
theorem ChansV.ext {w w' : World} {v : Value} {l : List Chan} (h : ChansV w v l) (e : Ext w w') : ChansV w' v l := h.cext e.c
theorem chans_at {w : World} {A : Option Addr} {l : List Chan} {k : Nat} (h : Rows2 w A l.length 4 (fun i f => (l.getD i default).cell f)) (hk : k < l.length) :
    ∃ b off nm wd ev ph, A = some ⟨b, off, none⟩ ∧ b < w.heap.size ∧ w.cell? ⟨b, off + k * 4, none⟩ = some (.string nm) ∧ w.cell? ⟨b, off + k * 4 + 1, none⟩ = some (.int .i64 wd) ∧
      w.cell? ⟨b, off + k * 4 + 2, none⟩ = some (.int .i64 ev) ∧ w.cell? ⟨b, off + k * 4 + 3, none⟩ = some (.int .i64 ph) ∧ Hid (l.getD k default = ⟨nm, wd, ev, ph⟩) := by
  obtain ⟨b, off, e, hb, hc⟩ := h (by omega)
  exact ⟨b, off, _, _, _, _, e, hb, hc k 0 hk (by omega), hc k 1 hk (by omega), hc k 2 hk (by omega), hc k 3 hk (by omega), rfl⟩
theorem ChansV.take {w : World} {A : Option Addr} {l : List Chan} {k : Nat} (h : Rows2 w A l.length 4 (fun i f => (l.getD i default).cell f)) (hk : k ≤ l.length) :
    Rows2 w A (l.take k).length 4 (fun i f => ((l.take k).getD i default).cell f) := by
  intro hn
  rw [List.length_take] at hn
  obtain ⟨b, off, e, hb, hc⟩ := h (by omega)
  refine ⟨b, off, e, hb, fun i f hi hf => ?_⟩
  rw [List.length_take] at hi
  rw [hc i f (by omega) hf]
  simp only [List.getD_eq_getElem?_getD, List.getElem?_take, if_pos (show i < k by omega)]
structure Fmt where
  sync : ByteArray
  words : Int
  depth : Int
  channels : List Chan
/-- A value that reads as a format. -/
def FmtV (w : World) (v : Value) (f : Fmt) : Prop :=
  f.sync.size ≤ 9223372036854775807 ∧ (∀ c ∈ f.channels, c.name.size ≤ 9223372036854775807) ∧
  ∃ A cap, v = .agg #[.string f.sync, .int .i64 f.words, .int .i64 f.depth, .slice A f.channels.length cap] ∧ f.channels.length ≤ cap ∧ cap ≤ maxLen ∧
    Rows2 w A f.channels.length 4 (fun i k => (f.channels.getD i default).cell k)
theorem FmtV.cext {w w' : World} {v : Value} {f : Fmt} (h : FmtV w v f) (e : CExt w w') : FmtV w' v f := by
  obtain ⟨h0, h00, A, cap, h1, h2, h3, h4⟩ := h
  exact ⟨h0, h00, A, cap, h1, h2, h3, h4.cext e⟩
theorem FmtV.ext {w w' : World} {v : Value} {f : Fmt} (h : FmtV w v f) (e : Ext w w') : FmtV w' v f := h.cext e.c
end Go.Proofs.Ytjnnkcnnandeeaa
