/- What stands between two rounds of Decode, plain; and the walk of its closure, which tells a gap. -/
import Derived.Test.YtjnnkcnnandeeaaWRefNum
namespace Go.Proofs.Ytjnnkcnnandeeaa
open Go.RowKit Go.Shelf
/-- What Decode holds: the format fv in block n, the frames' list lv in n + 1, the gaps' list gv in n + 2, in block m where the last frame ended, in m + 1 the closure. -/
structure DI (fv : Array Value) (n m b6 : Nat) (w : World) (xs : List FrX) (gs : List (Nat × Nat)) (a : Nat) (W : World) (lv gv : Value) : Prop where
  bB : W.heap[n]? = some (.cells fv 28 (0, 0))
  bL : Boxed W (n + 1) 46 lv
  bG : Boxed W (n + 2) 47 gv
  bX : Boxed W m 3 (.int .i64 (a : Nat))
  bF : Boxed W (m + 1) 135 (.func (.func 71) #[] #[.pointer (some ⟨m, 0, none⟩), .pointer (some ⟨n + 2, 0, none⟩)])
  ownL : Own W b6 59 3 lv xs.length (xs.flatMap FrX.cells)
  ownG : Own W b6 64 2 gv gs.length (gs.flatMap gapC)
  words : ∀ x ∈ xs, IntsV W .i64 x.2 x.1.words ∧ ∀ k, x.2.ownBlock = some k → b6 ≤ k ∧ k < W.heap.size ∧ lv.ownBlock ≠ some k ∧ gv.ownBlock ≠ some k
  ext : Ext w W
  lo : w.heap.size ≤ n ∧ n + 2 < m ∧ m + 1 < b6
  size : b6 ≤ W.heap.size
/-- Nothing has turned but the blocks of which S holds. -/
structure Only (S : Nat → Prop) (w w' : World) : Prop where
  os : w'.os = w.os
  tape : w'.tape = w.tape
  output : w'.output = w.output
  size : w.heap.size ≤ w'.heap.size
  block : ∀ k, k < w.heap.size → ¬ S k → w'.heap[k]? = w.heap[k]?
theorem Only.trans {S : Nat → Prop} {A B C : World} (h : Only S A B) (k : Only S B C) : Only S A C :=
  ⟨k.os.trans h.os, k.tape.trans h.tape, k.output.trans h.output, Nat.le_trans h.size k.size, fun i hi hs => (k.block i (Nat.lt_of_lt_of_le hi h.size) hs).trans (h.block i hi hs)⟩
theorem Only.of_grown {S : Nat → Prop} {A B : World} {row : Option Nat} (h : A.grownBy B row) (hs : ∀ k, row = some k → S k) : Only S A B :=
  ⟨h.os, h.tape, h.output, h.size, fun i hi hn => h.block i hi (fun e => hn (hs i e.symm))⟩
theorem Only.of_ext {S : Nat → Prop} {A B : World} (h : Ext A B) : Only S A B := ⟨h.os, h.tape, h.output, h.size, fun i hi _ => Below.block h i hi⟩
section
variable {S : Nat → Prop} {W W' : World}
theorem Only.own (k : Only S W W') {base : Nat} {e : TypeId} {size : Nat} {v : Value} {n : Nat} {xs : List Value} (h : Own W base e size v n xs) (hs : ∀ j, v.ownBlock = some j → ¬ S j) : Own W' base e size v n xs :=
  Own.keep h fun j hj => k.block j (Own.block h j hj).2 (hs j hj)
theorem Only.boxed (k : Only S W W') {B : Nat} {t : TypeId} {v : Value} (h : Boxed W B t v) (hs : ¬ S B) : Boxed W' B t v := (k.block B h.lt hs).trans h
theorem Only.heap (k : Only S W W') {B : Nat} {o : Obj} (h : W.heap[B]? = some o) (hs : ¬ S B) : W'.heap[B]? = some o := (k.block B (Array.getElem?_eq_some_iff.1 h).1 hs).trans h
theorem Only.ints (g : Only S W W') {k : IntKind} {v : Value} {l : List Int} (h : IntsV W k v l) (hr : ∀ j, v.ownBlock = some j → ¬ S j) : IntsV W' k v l := by
  obtain ⟨A, cap, rfl, h1, h2, h3⟩ := h
  refine ⟨A, cap, rfl, h1, h2, fun hn => ?_⟩
  obtain ⟨b, off, rfl, hb, hc⟩ := h3 hn
  exact ⟨b, off, rfl, Nat.lt_of_lt_of_le hb g.size, fun j hj => cell_of_block (hc j hj) (g.block b hb (hr b rfl))⟩
theorem Only.below (k : Only S W W') {base : Nat} {w : World} (h : Below base w W) (hs : ∀ j, S j → base ≤ j) (hb : base ≤ W.heap.size) : Below base w W' :=
  ⟨k.os.trans h.os, k.tape.trans h.tape, k.output.trans h.output, Nat.le_trans h.size k.size, fun i hi => (k.block i (by omega) (fun hS => by have := hs i hS; omega)).trans (h.block i hi)⟩
end
section
variable {fv : Array Value} {n m b6 a : Nat} {w W W' : World} {xs : List FrX} {gs : List (Nat × Nat)} {lv gv lv' gv' : Value}
theorem DI.turn (h : DI fv n m b6 w xs gs a W lv gv) {B : Nat} (k : Turn B W W') (hB : w.heap.size ≤ B) : DI fv n m b6 w xs gs a W' lv gv :=
  ⟨k.block _ _ h.bB (.inr rfl), Boxed.turn h.bL k, Boxed.turn h.bG k, Boxed.turn h.bX k, Boxed.turn h.bF k, k.own h.ownL, k.own h.ownG,
    fun x hx => ⟨(h.words x hx).1.cext k.c, fun j hj => ⟨((h.words x hx).2 j hj).1, Nat.lt_of_lt_of_le ((h.words x hx).2 j hj).2.1 k.size, ((h.words x hx).2 j hj).2.2⟩⟩, k.below h.ext hB h.ext.size, h.lo, Nat.le_trans h.size k.size⟩
theorem DI.grow (h : DI fv n m b6 w xs gs a W lv gv) (k : Ext W W') : DI fv n m b6 w xs gs a W' lv gv := h.turn (Turn.of_ext (B := w.heap.size) k) (Nat.le_refl _)
/-- A frame is put behind. -/
theorem DI.push (h : DI fv n m b6 w xs gs a W lv gv) {x : FrX} (hx : IntsV W .i64 x.2 x.1.words) (hxk : ∀ k, x.2.ownBlock = some k → b6 ≤ k ∧ k < W.heap.size ∧ lv.ownBlock ≠ some k ∧ gv.ownBlock ≠ some k)
    {W1 : World} (hown : Own W1 b6 59 3 lv' (xs.length + 1) (xs.flatMap FrX.cells ++ x.cells)) (hg : W.grownBy W1 lv.ownBlock) (hv : lv'.ownBlock = lv.ownBlock ∨ lv'.ownBlock = some W.heap.size) :
    DI fv n m b6 w (xs ++ [x]) gs a (W1.setCell ⟨n + 1, 0, none⟩ lv') lv' gv := by
  have hlo := h.lo
  have hk : Only (fun k => lv.ownBlock = some k ∨ k = n + 1) W (W1.setCell ⟨n + 1, 0, none⟩ lv') :=
    (Only.of_grown hg (fun k e => .inl e)).trans (Only.of_grown (grownBy_setCell' W1 (n + 1) lv') (fun k e => by injection e with e; exact .inr e.symm))
  have hne : ∀ k, k < b6 → k ≠ n + 1 → ¬ (lv.ownBlock = some k ∨ k = n + 1) := fun k hk1 hk2 hh => by
    rcases hh with hh | hh
    · have := (h.ownL.block k hh).1; omega
    · exact hk2 hh
  have hvn : ∀ k, k < W.heap.size → lv.ownBlock ≠ some k → lv'.ownBlock ≠ some k := fun k hk1 hl => by
    rcases hv with hv | hv
    · rw [hv]; exact hl
    · rw [hv]; intro e; injection e with e; omega
  have hb1 : Boxed W1 (n + 1) 46 lv := (hg.block _ h.bL.lt (fun e => by have := (h.ownL.block _ e.symm).1; omega)).trans h.bL
  refine ⟨hk.heap h.bB (hne _ (by omega) (by omega)), Boxed.set _ hb1, hk.boxed h.bG (hne _ (by omega) (by omega)), hk.boxed h.bX (hne _ (by omega) (by omega)), hk.boxed h.bF (hne _ (by omega) (by omega)), ?_, ?_, ?_, ?_, hlo, Nat.le_trans h.size hk.size⟩
  · have := hown.setCell (p := ⟨n + 1, 0, none⟩) (fun e => by have := (hown.block _ e).1; change b6 ≤ n + 1 at this; omega) lv'
    rw [List.flatMap_append, List.length_append]
    simpa using this
  · exact hk.own h.ownG (fun j hj hh => by
      rcases hh with hh | hh
      · exact h.ownL.apart h.ownG (by decide) j hh hj
      · have := (h.ownG.block j hj).1; omega)
  · intro y hy
    have hy' : IntsV W .i64 y.2 y.1.words ∧ ∀ k, y.2.ownBlock = some k → b6 ≤ k ∧ k < W.heap.size ∧ lv.ownBlock ≠ some k ∧ gv.ownBlock ≠ some k := by
      rcases List.mem_append.1 hy with hy | hy
      · exact h.words y hy
      · obtain rfl := List.mem_singleton.1 hy
        exact ⟨hx, hxk⟩
    refine ⟨hk.ints hy'.1 (fun j hj hh => ?_), fun k hk1 => ⟨(hy'.2 k hk1).1, Nat.lt_of_lt_of_le (hy'.2 k hk1).2.1 hk.size, hvn k (hy'.2 k hk1).2.1 (hy'.2 k hk1).2.2.1, (hy'.2 k hk1).2.2.2⟩⟩
    rcases hh with hh | hh
    · exact (hy'.2 j hj).2.2.1 hh
    · have := (hy'.2 j hj).1; omega
  · exact hk.below h.ext (fun j hh => by
      rcases hh with hh | hh
      · have := (h.ownL.block j hh).1; omega
      · omega) h.ext.size
/-- The closure has told a gap, or none. -/
theorem DI.gap (h : DI fv n m b6 w xs gs a W lv gv) {gs' : List (Nat × Nat)} (hb : Boxed W' (n + 2) 47 gv') (hown : Own W' b6 64 2 gv' gs'.length (gs'.flatMap gapC)) (hk : Only (fun k => gv.ownBlock = some k ∨ k = n + 2) W W')
    (hv : gv'.ownBlock = gv.ownBlock ∨ ∀ k, gv'.ownBlock = some k → W.heap.size ≤ k) : DI fv n m b6 w xs gs' a W' lv gv' := by
  have hlo := h.lo
  have hne : ∀ k, k < b6 → k ≠ n + 2 → ¬ (gv.ownBlock = some k ∨ k = n + 2) := fun k hk1 hk2 hh => by
    rcases hh with hh | hh
    · have := (h.ownG.block k hh).1; omega
    · exact hk2 hh
  have hvn : ∀ k, k < W.heap.size → gv.ownBlock ≠ some k → gv'.ownBlock ≠ some k := fun k hk1 hl => by
    rcases hv with hv | hv
    · rw [hv]; exact hl
    · intro e; have := hv k e; omega
  refine ⟨hk.heap h.bB (hne _ (by omega) (by omega)), hk.boxed h.bL (hne _ (by omega) (by omega)), hb, hk.boxed h.bX (hne _ (by omega) (by omega)), hk.boxed h.bF (hne _ (by omega) (by omega)), ?_, hown, ?_, ?_, hlo, Nat.le_trans h.size hk.size⟩
  · exact hk.own h.ownL (fun j hj hh => by
      rcases hh with hh | hh
      · exact h.ownL.apart h.ownG (by decide) j hj hh
      · have := (h.ownL.block j hj).1; omega)
  · intro y hy
    have hy' := h.words y hy
    refine ⟨hk.ints hy'.1 (fun j hj hh => ?_), fun k hk1 => ⟨(hy'.2 k hk1).1, Nat.lt_of_lt_of_le (hy'.2 k hk1).2.1 hk.size, (hy'.2 k hk1).2.2.1, hvn k (hy'.2 k hk1).2.1 (hy'.2 k hk1).2.2.2⟩⟩
    rcases hh with hh | hh
    · exact (hy'.2 j hj).2.2.2 hh
    · have := (hy'.2 j hj).1; omega
  · exact hk.below h.ext (fun j hh => by
      rcases hh with hh | hh
      · have := (h.ownG.block j hh).1; omega
      · omega) h.ext.size
/-- The lists are stored as they are. -/
theorem DI.done (h : DI fv n m b6 w xs gs a W lv gv) : DI fv n m b6 w xs gs a (((W.setCell ⟨n + 1, 0, none⟩ lv).setCell ⟨n + 2, 0, none⟩ gv).drew) lv gv := by
  have hlo := h.lo
  have hk : Only (fun k => k = n + 1 ∨ k = n + 2) W ((W.setCell ⟨n + 1, 0, none⟩ lv).setCell ⟨n + 2, 0, none⟩ gv) :=
    (Only.of_grown (grownBy_setCell' W (n + 1) _) (fun k e => by injection e with e; exact .inl e.symm)).trans (Only.of_grown (grownBy_setCell' _ (n + 2) _) (fun k e => by injection e with e; exact .inr e.symm))
  have hD : DI fv n m b6 w xs gs a ((W.setCell ⟨n + 1, 0, none⟩ lv).setCell ⟨n + 2, 0, none⟩ gv) lv gv := by
    refine ⟨hk.heap h.bB (by omega), Boxed.other (Boxed.set _ h.bL) (by omega) _, Boxed.set _ (Boxed.other h.bG (by omega) _), hk.boxed h.bX (by omega), hk.boxed h.bF (by omega), ?_, ?_, ?_, ?_, hlo, Nat.le_trans h.size hk.size⟩
    · exact hk.own h.ownL (fun j hj hh => by have := (h.ownL.block j hj).1; omega)
    · exact hk.own h.ownG (fun j hj hh => by have := (h.ownG.block j hj).1; omega)
    · intro y hy
      have hy' := h.words y hy
      exact ⟨hk.ints hy'.1 (fun j hj hh => by have := (hy'.2 j hj).1; omega), fun k hk1 => ⟨(hy'.2 k hk1).1, Nat.lt_of_lt_of_le (hy'.2 k hk1).2.1 hk.size, (hy'.2 k hk1).2.2⟩⟩
    · exact hk.below h.ext (fun j hh => by omega) h.ext.size
  exact hD.turn (Turn.of_ext (B := w.heap.size) ((Ext.refl _).drew)) (Nat.le_refl _)
/-- The place is written. -/
theorem DI.last (h : DI fv n m b6 w xs gs a W lv gv) (a' : Nat) : DI fv n m b6 w xs gs a' (W.setCell ⟨m, 0, none⟩ (.int .i64 (a' : Nat))) lv gv := by
  have hlo := h.lo
  have hk : Only (fun k => k = m) W (W.setCell ⟨m, 0, none⟩ (.int .i64 (a' : Nat))) := Only.of_grown (grownBy_setCell' W m _) (fun k e => by injection e with e; exact e.symm)
  refine ⟨hk.heap h.bB (by omega), hk.boxed h.bL (by omega), hk.boxed h.bG (by omega), Boxed.set _ h.bX, hk.boxed h.bF (by omega), ?_, ?_, ?_, ?_, hlo, Nat.le_trans h.size hk.size⟩
  · exact hk.own h.ownL (fun j hj hh => by have := (h.ownL.block j hj).1; omega)
  · exact hk.own h.ownG (fun j hj hh => by have := (h.ownG.block j hj).1; omega)
  · intro y hy
    have hy' := h.words y hy
    exact ⟨hk.ints hy'.1 (fun j hj hh => by have := (hy'.2 j hj).1; omega), fun k hk1 => ⟨(hy'.2 k hk1).1, Nat.lt_of_lt_of_le (hy'.2 k hk1).2.1 hk.size, (hy'.2 k hk1).2.2⟩⟩
  · exact hk.below h.ext (fun j hh => by omega) h.ext.size
end
/-- The gaps, once the closure was called with pos. -/
def gapTo (gs : List (Nat × Nat)) (a pos : Nat) : List (Nat × Nat) := gs ++ if a < pos then [(a, pos)] else []
set_option maxRecDepth 100000 in
set_option maxHeartbeats 800000 in
/-- frame.Decode$1 -/
theorem close_any {fv : Array Value} {n m b6 a : Nat} {w W : World} {xs : List FrX} {gs : List (Nat × Nat)} {lv gv : Value} (h : DI fv n m b6 w xs gs a W lv gv) (pos : Nat) (hg : gs.length ≤ 1000000) :
    Calls Try.prog 71 #[.int .i64 (pos : Nat), .pointer (some ⟨m, 0, none⟩), .pointer (some ⟨n + 2, 0, none⟩)] W fun e W' => (∃ v, e = .returned v) ∧ KeepsOthers W W' ∧ (∀ k, k < W.heap.size → k ≠ n + 2 → gv.ownBlock ≠ some k → W'.heap[k]? = W.heap[k]?) ∧ ∃ gv', DI fv n m b6 w xs (gapTo gs a pos) a W' lv gv' := by
  have HI := hide h
  obtain ⟨A, cap, rfl, _, _, _⟩ := h.ownG.form
  have k0 := Boxed.cell h.bX
  have k1 := Boxed.cell h.bG
  have f1 := Boxed.frozen h.bG
  clear h
  by_cases hlt : a < pos
  · have hd : decide ((a : Int) < (pos : Int)) = true := by simp; omega
    obtain ⟨iG, hiG, hzG0, hzG1, hzG2⟩ := info_parts gap_info
    have HLT := hide hlt
    have HSRC := hide ((Own.lit W 0 64 2 1 #[.int .i64 (a : Nat), .int .i64 (pos : Nat)] (Nat.zero_le _) rfl (by simp [maxLen])).src)
    have HOG := hide (HI.out.ownG.ext ((Ext.refl W).alloc (.cells #[.int .i64 (a : Nat), .int .i64 (pos : Nat)] 64)))
    have hsz := HI.out.size
    clear hlt
    go_enter Try.func71, Try.ntmps71
    go_wp2_with (
      at_builtin
      refine wpList_append rfl (.tmp 7) (.tmp 11) 47 rfl b6 64 iG _ 2 16 Try.underlying47 hiG hzG0 hzG1 hzG2 rfl _ gs.length _ rfl HOG.out _ 1 1 (gapC (a, pos)) rfl HSRC.out (by simp [gapC, Value.oneCell']) (by simp [maxLen]; omega) (by omega) (by simp; omega) ?_
      intro v3 w3 hown3 hg3 hv3
      have hlo := HI.out.lo
      have hb3 : Boxed w3 (n + 2) 47 (.slice A gs.length cap) := (hg3.block (n + 2) (by simp; have := HI.out.bG.lt; omega) (fun e => by have := (HI.out.ownG.block (n + 2) e.symm).1; omega)).trans (((Ext.refl W).alloc (.cells #[.int .i64 (a : Nat), .int .i64 (pos : Nat)] 64)).block (n + 2) HI.out.bG.lt |>.trans HI.out.bG)
      have k3 := Boxed.cell hb3
      have f3 := Boxed.frozen hb3
      have HO3 := hide hown3
      have HG3 := hide hg3
      have HV3 := hide hv3
      have HB3 := hide hb3
      obtain ⟨A3, cap3, rfl, _, _, _⟩ := hown3.form
      clear hown3 hg3 hv3 hb3)
    go_end0
    have hg3 := HG3.out
    have hlo := HI.out.lo
    have hrow : ∀ (j : Nat) (o : Obj), (Value.slice A gs.length cap).ownBlock = some j → (W.alloc (.cells #[.int .i64 (a : Nat), .int .i64 (pos : Nat)] 64)).heap[j]? = some o → o.isCells = true := fun j o hj ho => by
      rcases HOG.out.2 with ⟨hv, _⟩ | ⟨g, cap', cur, lo, hi, hv, _, hgg, _⟩
      · rw [hv] at hj; cases hj
      · rw [hv] at hj
        have hj : some g = some j := hj
        injection hj with hj
        subst hj
        rw [hgg] at ho
        injection ho with ho
        subst ho; rfl
    refine ⟨⟨_, rfl⟩, ((KeepsOthers.alloc W _).trans (KeepsOthers.of_grownBy hg3 hrow)).trans (KeepsOthers.setCell _ _ _), fun k hk hkn hkg => ?_, _, HI.out.gap (Boxed.set _ HB3.out) ?_ ?_ ?_⟩
    · rw [(grownBy_setCell' w3 (n + 2) (.slice A3 (gs.length + 1) cap3)).block k (by have := hg3.size; simp at this; omega) (fun e => hkn (by injection e with e)), hg3.block k (by simp; omega) (fun e => hkg e.symm)]
      exact ((Ext.refl W).alloc _).block k hk
    · unfold gapTo
      rw [if_pos HLT.out, List.length_append, List.flatMap_append]
      have := HO3.out.setCell (p := ⟨n + 2, 0, none⟩) (fun e => by have := (HO3.out.block _ e).1; change b6 ≤ n + 2 at this; omega) (.slice A3 (gs.length + 1) cap3)
      simpa using this
    · exact ((Only.of_ext ((Ext.refl W).alloc _)).trans (Only.of_grown hg3 (fun k e => .inl e))).trans (Only.of_grown (grownBy_setCell' w3 (n + 2) _) (fun k e => by injection e with e; exact .inr e.symm))
    · rcases HV3.out with hv | hv
      · exact .inl hv
      · exact .inr (fun k hk => by rw [hv] at hk; injection hk with hk; simp at hk; omega)
  · have hd : decide ((a : Int) < (pos : Int)) = false := by simp; omega
    have HLT := hide hlt
    clear hlt
    go_enter Try.func71, Try.ntmps71
    go_wp2
    go_end0
    refine ⟨⟨_, rfl⟩, KeepsOthers.refl _, fun k _ _ _ => rfl, .slice A gs.length cap, ?_⟩
    unfold gapTo
    rw [if_neg HLT.out, List.append_nil]
    exact HI.out
end Go.Proofs.Ytjnnkcnnandeeaa
