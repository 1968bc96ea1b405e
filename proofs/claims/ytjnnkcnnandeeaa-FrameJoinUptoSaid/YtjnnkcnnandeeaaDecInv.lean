/- The walk of the reference's Decode. -/
import Derived.Test.YtjnnkcnnandeeaaGaps
namespace Go.Proofs.Ytjnnkcnnandeeaa
open Go.RowKit
def gapC (p : Nat × Nat) : List Value := [.int .i64 (p.1 : Nat), .int .i64 (p.2 : Nat)]
theorem gapC_len (gs : List (Nat × Nat)) : (gs.flatMap gapC).length = gs.length * 2 := by
  induction gs with
  | nil => rfl
  | cons p gs ih => rw [List.flatMap_cons, List.length_append, ih]; simp [gapC]; omega
/-- A slice value that reads as a list of gaps. -/
def GapsV (w : World) (v : Value) (gs : List (Nat × Nat)) : Prop :=
  ∃ A cap, v = .slice A gs.length cap ∧ gs.length ≤ cap ∧ cap ≤ maxLen ∧ Rows2 w A gs.length 2 (fun i k => if k = 0 then .int .i64 ((gs.getD i (0, 0)).1 : Nat) else .int .i64 ((gs.getD i (0, 0)).2 : Nat))
theorem gapC_at (gs : List (Nat × Nat)) : ∀ (i k : Nat), i < gs.length → k < 2 → (gs.flatMap gapC)[i * 2 + k]? = some (if k = 0 then .int .i64 ((gs.getD i (0, 0)).1 : Nat) else .int .i64 ((gs.getD i (0, 0)).2 : Nat)) := by
  induction gs with
  | nil => intro i k hi; simp at hi
  | cons p gs ih =>
    intro i k hi hk
    rw [List.flatMap_cons]
    cases i with
    | zero =>
      rw [List.getElem?_append_left (by simp [gapC]; omega)]
      match k, hk with
      | 0, _ => rfl
      | 1, _ => rfl
    | succ i =>
      rw [List.getElem?_append_right (by simp [gapC]; omega)]
      have : (i + 1) * 2 + k - (gapC p).length = i * 2 + k := by simp [gapC]; omega
      rw [this, ih i k (by simpa using hi) hk]
      rfl
theorem Own.gaps {w : World} {base : Nat} {v : Value} {n : Nat} {gs : List (Nat × Nat)} (h : Own w base 64 2 v n (gs.flatMap gapC)) : GapsV w v gs := by
  have hn : n = gs.length := by have := h.1; rw [gapC_len] at this; omega
  subst hn
  rcases h.2 with ⟨rfl, h0⟩ | ⟨g, cap, cur, lo, hi, rfl, hb, hg, hnc, hm, hcs, _, ht⟩
  · exact ⟨none, 0, by rw [h0], by omega, by simp [maxLen], fun hp => by omega⟩
  · refine ⟨_, cap, rfl, hnc, hm, fun hpos => ⟨g, 0, rfl, (Array.getElem?_eq_some_iff.1 hg).1, fun i k hi hk => ?_⟩⟩
    have hu := gapC_at gs i k hi hk
    rw [Nat.zero_add, cell_of_row w g (i * 2 + k) cur 64 _ hg]
    rw [← ht, List.getElem?_take] at hu
    split at hu
    · simpa using hu
    · cases hu
theorem GapsV.nil (w : World) : GapsV w (.slice none 0 0) [] := ⟨none, 0, rfl, Nat.le_refl _, by simp [maxLen], fun h => absurd h (by simp)⟩
theorem GapsV.ext {w w' : World} {v : Value} {gs : List (Nat × Nat)} (h : GapsV w v gs) (k : Ext w w') : GapsV w' v gs := by
  obtain ⟨A, cap, h1, h2, h3, h4⟩ := h
  exact ⟨A, cap, h1, h2, h3, h4.ext k⟩
theorem Own.apart {w : World} {b b' : Nat} {e e' : TypeId} {s s' : Nat} {v v' : Value} {n n' : Nat} {xs xs' : List Value} (h : Own w b e s v n xs) (h' : Own w b' e' s' v' n' xs') (hne : e ≠ e') : ∀ k, v.ownBlock = some k → v'.ownBlock ≠ some k := by
  intro k hk hk'
  rcases h.2 with ⟨rfl, _⟩ | ⟨g, cap, cur, lo, hi, rfl, hb, hg, _⟩
  · simp [Value.ownBlock] at hk
  · rcases h'.2 with ⟨rfl, _⟩ | ⟨g', cap', cur', lo', hi', rfl, hb', hg', _⟩
    · simp [Value.ownBlock] at hk'
    · simp [Value.ownBlock] at hk hk'
      subst hk
      subst hk'
      rw [hg] at hg'
      injection hg' with hg'
      injection hg' with _ he
      exact hne he
/-- Between two rounds of the reference's Decode. -/
structure DecI (f : Fmt) (l : List Nat) (base : Nat) (w wr : World) (v8 v9 : Value) (pos : Nat) (pre : List FrX) : Prop where
  ownL : Own wr base 59 3 v8 pre.length (pre.flatMap FrX.cells)
  ownG : Own wr base 64 2 v9 (gapsFrom (sizeF f) pos 0 (ds pre)).length ((gapsFrom (sizeF f) pos 0 (ds pre)).flatMap gapC)
  words : ∀ x ∈ pre, IntsV wr .i64 x.2 x.1.words ∧ ∀ k, x.2.ownBlock = some k → base ≤ k ∧ k < wr.heap.size ∧ v8.ownBlock ≠ some k ∧ v9.ownBlock ≠ some k
  ends : ∀ x ∈ ds pre, x.pos + sizeF f ≤ pos
  rest : ds pre ++ scanAt f l pos = framesOf f l
  le : pos ≤ l.length
  few : pre.length ≤ pos
  fewG : (gapsFrom (sizeF f) pos 0 (ds pre)).length ≤ pos
  ext : Ext w wr
  size : base ≤ wr.heap.size
section
variable {f : Fmt} {l : List Nat} {base : Nat} {w wr W : World} {v8 v9 : Value} {pos : Nat} {pre : List FrX}
theorem DecI.grow (h : DecI f l base w wr v8 v9 pos pre) (k : Ext wr W) : DecI f l base w W v8 v9 pos pre :=
  ⟨h.ownL.ext k, h.ownG.ext k, fun x hx => ⟨(h.words x hx).1.ext k, fun j hj => ⟨((h.words x hx).2 j hj).1, Nat.lt_of_lt_of_le ((h.words x hx).2 j hj).2.1 k.size, ((h.words x hx).2 j hj).2.2⟩⟩, h.ends, h.rest, h.le, h.few, h.fewG, h.ext.trans k, Nat.le_trans h.size k.size⟩
theorem DecI.hit (h : DecI f l base w wr v8 v9 pos pre) (hwb : w.heap.size ≤ base) (hf : foundB f l pos = true) {xv : Value} (hx : IntsV wr .i64 xv (frAt f l pos).words) (hxk : ∀ k, xv.ownBlock = some k → base ≤ k ∧ k < wr.heap.size ∧ v8.ownBlock ≠ some k ∧ v9.ownBlock ≠ some k)
    {v' : Value} (hown : Own W base 59 3 v' (pre.length + 1) (pre.flatMap FrX.cells ++ FrX.cells (frAt f l pos, xv))) (hg : wr.grownBy W v8.ownBlock) (hv : v'.ownBlock = v8.ownBlock ∨ v'.ownBlock = some wr.heap.size) :
    DecI f l base w W v' v9 (pos + sizeF f) (pre ++ [(frAt f l pos, xv)]) := by
  have hz : 3 ≤ sizeF f := by unfold sizeF bodyF; omega
  have hfb := hf
  unfold foundB at hfb
  rw [Bool.and_eq_true] at hfb
  have hle := of_decide_eq_true hfb.1
  have hds : ds (pre ++ [(frAt f l pos, xv)]) = ds pre ++ [frAt f l pos] := by unfold ds; rw [List.map_append]; rfl
  have hgp : gapsFrom (sizeF f) (pos + sizeF f) 0 (ds (pre ++ [(frAt f l pos, xv)])) = gapsFrom (sizeF f) pos 0 (ds pre) := by
    rw [hds]; exact gaps_hit (ds pre) (frAt f l pos)
  have hvn : ∀ k, k < wr.heap.size → v8.ownBlock ≠ some k → v'.ownBlock ≠ some k := fun k hk hl => by
    rcases hv with hv | hv
    · rw [hv]; exact hl
    · rw [hv]; intro e; injection e with e; omega
  refine ⟨?_, ?_, ?_, ?_, ?_, hle, by have := h.few; simp; omega, by rw [hgp]; have := h.fewG; omega, h.ext.step ((Below.refl base wr).grown hg h.size (fun k hk => (h.ownL.block k hk).1)) hwb, Nat.le_trans h.size hg.size⟩
  · rw [List.flatMap_append, List.length_append]
    simpa using hown
  · rw [hgp]; exact h.ownG.grown hg (fun k hk he => h.ownL.apart h.ownG (by decide) k he hk)
  · intro y hy
    have hy' : IntsV wr .i64 y.2 y.1.words ∧ ∀ k, y.2.ownBlock = some k → base ≤ k ∧ k < wr.heap.size ∧ v8.ownBlock ≠ some k ∧ v9.ownBlock ≠ some k := by
      rcases List.mem_append.1 hy with hy | hy
      · exact h.words y hy
      · obtain rfl := List.mem_singleton.1 hy
        exact ⟨hx, hxk⟩
    exact ⟨hy'.1.grown hg (fun k hk => (hy'.2 k hk).2.2.1), fun k hk => ⟨(hy'.2 k hk).1, Nat.lt_of_lt_of_le (hy'.2 k hk).2.1 hg.size, hvn k (hy'.2 k hk).2.1 (hy'.2 k hk).2.2.1, (hy'.2 k hk).2.2.2⟩⟩
  · intro x hx'
    rw [hds] at hx'
    rcases List.mem_append.1 hx' with hx' | hx'
    · have := h.ends x hx'; omega
    · obtain rfl := List.mem_singleton.1 hx'
      exact Nat.le_refl _
  · rw [hds, List.append_assoc, List.singleton_append, ← scanAt_hit hf]
    exact h.rest
theorem DecI.more (h : DecI f l base w wr v8 v9 pos pre) (hwb : w.heap.size ≤ base) (hp : pos < l.length) (hf : foundB f l pos = false) (hle : lastEnd (sizeF f) 0 (ds pre) < pos) {g cap : Nat}
    (hv : v9 = .slice (some ⟨g, 0, none⟩) (gapsFrom (sizeF f) pos 0 (ds pre)).length cap) :
    DecI f l base w (wr.setCell ⟨g, ((gapsFrom (sizeF f) pos 0 (ds pre)).length - 1) * 2 + 1, none⟩ (.int .i64 ((pos + 1 : Nat) : Int))) v8 v9 (pos + 1) pre := by
  subst hv
  obtain ⟨gs, e1, e2⟩ := gaps_more (ds pre) hle
  have hg := grownBy_setCell1 wr g (((gapsFrom (sizeF f) pos 0 (ds pre)).length - 1) * 2 + 1) (.int .i64 ((pos + 1 : Nat) : Int))
  have hgb := h.ownG.block g rfl
  have hlen : (gapsFrom (sizeF f) (pos + 1) 0 (ds pre)).length = (gapsFrom (sizeF f) pos 0 (ds pre)).length := by rw [e1, e2]; simp
  have hw := h.ownG.write (i := ((gapsFrom (sizeF f) pos 0 (ds pre)).length - 1) * 2 + 1) (.int .i64 ((pos + 1 : Nat) : Int))
  refine ⟨?_, ?_, ?_, fun x hx => by have := h.ends x hx; omega, ?_, by omega, by have := h.few; omega, by rw [hlen]; have := h.fewG; omega, h.ext.setCell (p := ⟨g, _, none⟩) (by show w.heap.size ≤ g; omega) _, Nat.le_trans h.size hg.size⟩
  · exact h.ownL.grown hg (fun k hk he => by injection he with he; subst he; exact h.ownL.apart h.ownG (by decide) _ hk rfl)
  · rw [hlen]
    refine Own.of_eq hw rfl ?_
    rw [e1, e2]
    simp only [List.length_append, List.length_cons, List.length_nil, Nat.zero_add, Nat.add_sub_cancel, List.flatMap_append, List.flatMap_cons, List.flatMap_nil, List.append_nil]
    rw [List.set_append_right _ _ (by rw [gapC_len]; omega), gapC_len, show gs.length * 2 + 1 - gs.length * 2 = 1 by omega]
    rfl
  · intro y hy
    exact ⟨(h.words y hy).1.grown hg (fun k hk he => by injection he with he; subst he; exact ((h.words y hy).2 _ hk).2.2.2 rfl), fun k hk => ⟨((h.words y hy).2 k hk).1, Nat.lt_of_lt_of_le ((h.words y hy).2 k hk).2.1 hg.size, ((h.words y hy).2 k hk).2.2⟩⟩
  · rw [← scanAt_skip hp hf]; exact h.rest
theorem DecI.fresh (h : DecI f l base w wr v8 v9 pos pre) (hwb : w.heap.size ≤ base) (hp : pos < l.length) (hf : foundB f l pos = false) (hle : lastEnd (sizeF f) 0 (ds pre) = pos) {v' : Value}
    (hown : Own W base 64 2 v' ((gapsFrom (sizeF f) pos 0 (ds pre)).length + 1) ((gapsFrom (sizeF f) pos 0 (ds pre)).flatMap gapC ++ gapC (pos, pos + 1))) (hg : wr.grownBy W v9.ownBlock) (hv : v'.ownBlock = v9.ownBlock ∨ v'.ownBlock = some wr.heap.size) :
    DecI f l base w W v8 v' (pos + 1) pre := by
  have hz : 0 < sizeF f := by unfold sizeF bodyF; omega
  obtain ⟨_, e2⟩ := gaps_new (ds pre) hz hle h.ends
  have hvn : ∀ k, k < wr.heap.size → v9.ownBlock ≠ some k → v'.ownBlock ≠ some k := fun k hk hl => by
    rcases hv with hv | hv
    · rw [hv]; exact hl
    · rw [hv]; intro e; injection e with e; omega
  refine ⟨?_, ?_, ?_, fun x hx => by have := h.ends x hx; omega, ?_, by omega, by have := h.few; omega, by rw [e2]; have := h.fewG; simp; omega, h.ext.step ((Below.refl base wr).grown hg h.size (fun k hk => (h.ownG.block k hk).1)) hwb, Nat.le_trans h.size hg.size⟩
  · exact h.ownL.grown hg (fun k hk he => h.ownL.apart h.ownG (by decide) k hk he)
  · rw [e2, List.flatMap_append, List.length_append]
    simpa using hown
  · intro y hy
    exact ⟨(h.words y hy).1.grown hg (fun k hk => ((h.words y hy).2 k hk).2.2.2), fun k hk => ⟨((h.words y hy).2 k hk).1, Nat.lt_of_lt_of_le ((h.words y hy).2 k hk).2.1 hg.size, ((h.words y hy).2 k hk).2.2.1, hvn k ((h.words y hy).2 k hk).2.1 ((h.words y hy).2 k hk).2.2.2⟩⟩
  · rw [← scanAt_skip hp hf]; exact h.rest
end
end Go.Proofs.Ytjnnkcnnandeeaa
