/- A set of strings in a map of the call's own (map[string]bool); the first thing of a list that has an error. -/
import Derived.Test.YthcnganbnbhhoaaName
import Derived.Test.YthcnganbnbhhoaaSquib
import Derived.Maps.OwnOps
import Derived.Maps.OwnSet
import Derived.Maps.Views
import Derived.StringKeys
namespace Go.Proofs.Ythcnganbnbhhoaa
open Go.RowKit Go.Shelf Go.Maps
def hasB (l : List ByteArray) (s : ByteArray) : Bool := l.any fun t => decide (t = s)
/-- Block b is a map[string]bool of at most n entries in which just the strings of l are true. -/
def SeenV (w : World) (b n : Nat) (l : List ByteArray) : Prop :=
 ∃ D : DataW Unit, w.ownsMap Try.prog 9 (plainElem Try.prog 4) b n D ∧ IsMap D ∧
   ∀ s : ByteArray, StrOk s → D.atKey (.string s.data.toList) (.lit (.bool false)) = .lit (.bool (hasB l s))
theorem strOk_max {s : ByteArray} (h : StrOk s) : s.size ≤ maxLen := by simpa [StrOk, maxLen] using h
theorem SeenV.made (w : World) : SeenV (w.alloc (.map #[] 0)) w.heap.size 0 [] :=
 ⟨.map [], World.ownsMap_made _ _ _ _, ⟨[], rfl⟩, fun s _ => by simp [DataW.atKey, hasB]⟩
theorem SeenV.lt {w : World} {b n : Nat} {l : List ByteArray} (h : SeenV w b n l) : b < w.heap.size := by
 obtain ⟨D, h1, _⟩ := h; exact h1.lt
theorem SeenV.ext {w w' : World} {b n : Nat} {l : List ByteArray} (h : SeenV w b n l) (e : Ext w w') : SeenV w' b n l := by
 obtain ⟨D, h1, h2, h3⟩ := h
 refine ⟨D, h1.kept (row := none) ⟨e.os, e.tape, e.output, e.size, fun k hk _ => Below.block e k hk⟩ (by simp), h2, h3⟩
theorem zeroBool (w : World) : (zeroValue 4).run Try.prog w = .ok (.bool false) w := by kernel_rfl
set_option maxRecDepth 100000 in
theorem SeenV.look {w : World} {b n : Nat} {l : List ByteArray} (h : SeenV w b n l) {s : ByteArray} (hs : StrOk s) :
 (Instr.lookup 123 (.map (some b)) (.string s) false).run Try.prog w = .ok (.bool (hasB l s)) w := by
 obtain ⟨D, h1, _, h3⟩ := h
 obtain ⟨v, ps, hrun, hv⟩ := h1.lookup (string_keyed Try.underlying9) Try.underlying123 (zeroBool w) (plainElem_bool Try.underlying4 false) (WideMaps.keyOf_string_mk Try.underlying9 (strOk_max hs))
 rw [h3 s hs] at hv
 rw [hrun]
 unfold plainElem at hv
 rw [Try.underlying4] at hv
 cases v <;> first | (cases hv; done) | skip
 simp only [Option.some.injEq, Prod.mk.injEq, DataW.lit.injEq, Lit.bool.injEq] at hv
 rw [hv.1]
set_option maxRecDepth 100000 in
theorem SeenV.add {w : World} {b n : Nat} {l : List ByteArray} (h : SeenV w b n l) {s : ByteArray} (hs : StrOk s) (hn : n < maxLen) :
 ∃ w', (Instr.mapUpdate 123 (.map (some b)) (.string s) (.bool true)).run Try.prog w = .ok () w' ∧ SeenV w' b (n + 1) (l ++ [s]) ∧ w.grownBy w' (some b) := by
 obtain ⟨D, h1, h2, h3⟩ := h
 obtain ⟨w', hrun, ho, hg⟩ := h1.update (string_keyed Try.underlying9) Try.underlying123 hn (WideMaps.keyOf_string_mk Try.underlying9 (strOk_max hs)) (plainElem_bool Try.underlying4 true)
 have hkl := (string_keyed (P := Try.prog) (k := 9) Try.underlying9)
 refine ⟨w', hrun, ⟨_, ho, ho.isMap, fun s' hs' => ?_⟩, hg⟩
 by_cases he : s' = s
 ·subst he
  rw [atKey_put_same h2 (by simp [WideAt.IsKeyLit])]
  simp [hasB]
 ·rw [atKey_put_other (fun e => he (by
   injection e with e
   have h4 : s'.data = s.data := by rw [← Array.toList_inj]; exact e
   exact ByteArray.ext h4))]
  rw [h3 s' hs']
  unfold hasB
  rw [List.any_append]
  have : ¬ s = s' := fun e => he e.symm
  simp [this]
theorem wpList_seen_add {w : World} {ops : Array Oper} {rest : List Oper} {o : Oper} {a : Act} {Q : Exit → Act → World → Prop}
 (hg : o.guard = none) (m x v : Operand) (hop : o.op = Op.mapUpdate 123 m x v) (b n : Nat) (l : List ByteArray) (s : ByteArray)
 (hm : a.eval m = .map (some b)) (h : SeenV w b n l) (hn : n < maxLen) (hx : a.eval x = .string s) (hs : StrOk s) (hv : a.eval v = .bool true)
 (hK : ∀ w', SeenV w' b (n + 1) (l ++ [s]) → w.grownBy w' (some b) → wpList Try.prog ops Q rest (a.put o.dst undef) w') : wpList Try.prog ops Q (o :: rest) a w := by
 refine wpList_plain hg fun K' hK' => ?_
 obtain ⟨w', hrun, r1, r2⟩ := h.add hs hn
 unfold Oper.wp
 simp [execOp, hop, hm, hx, hv, hrun, Result.andThen]
 exact hK' _ _ (hK w' r1 r2)
/-- The first index below n at which e is no 0. -/
def badAt (e : Nat → Int) : Nat → Option Nat
 | 0 => none
 | n + 1 => match badAt e n with
   | some k => some k
   | none => if e n = 0 then none else some n
theorem badAt_none {e : Nat → Int} {n : Nat} (h : ∀ j, j < n → e j = 0) : badAt e n = none := by
 induction n with
 | zero => rfl
 | succ n ih => rw [badAt, ih (fun j hj => h j (by omega))]; dsimp only; rw [if_pos (h n (by omega))]
theorem badAt_some {e : Nat → Int} {n k : Nat} (h : ∀ j, j < k → e j = 0) (hk : k < n) (hp : e k ≠ 0) : badAt e n = some k := by
 induction n with
 | zero => omega
 | succ n ih =>
   by_cases hkn : k < n
   ·rw [badAt, ih hkn]
   ·obtain rfl : k = n := by omega
    rw [badAt, badAt_none h]; dsimp only; rw [if_neg hp]
theorem badAt_inv {e : Nat → Int} {n : Nat} (h : badAt e n = none) : ∀ j, j < n → e j = 0 := by
 induction n with
 | zero => intro j hj; omega
 | succ n ih =>
   intro j hj
   rw [badAt] at h
   cases hb : badAt e n with
   | some k => rw [hb] at h; cases h
   | none =>
     rw [hb] at h
     dsimp only at h
     by_cases he : e n = 0
     ·by_cases hjn : j = n
      ·rw [hjn]; exact he
      ·exact ih hb j (by omega)
     ·rw [if_neg he] at h; cases h
/-- The error of the thing k, by its name and the rest. -/
def nameE (nm : Nat → ByteArray) (rest : Nat → Int) (k : Nat) : Int := if nameB (nm k) = false then 6 else if hasB ((List.range k).map nm) (nm k) = true then 5 else rest k
/-- The index and the error of the first of n things that has one. -/
def firstE (e : Nat → Int) (n : Nat) : Nat × Int := match badAt e n with
 | some k => (k, e k)
 | none => (0, 0)
theorem firstE_none {e : Nat → Int} {n : Nat} (h : ∀ j, j < n → e j = 0) : firstE e n = (0, 0) := by unfold firstE; rw [badAt_none h]
theorem firstE_some {e : Nat → Int} {n k : Nat} (h : ∀ j, j < k → e j = 0) (hk : k < n) (hp : e k ≠ 0) : firstE e n = (k, e k) := by unfold firstE; rw [badAt_some h hk hp]
theorem nameE_6 {nm : Nat → ByteArray} {rest : Nat → Int} {k : Nat} (h : nameB (nm k) = false) : nameE nm rest k = 6 := if_pos h
theorem nameE_5 {nm : Nat → ByteArray} {rest : Nat → Int} {k : Nat} (h : nameB (nm k) = true) (h1 : hasB ((List.range k).map nm) (nm k) = true) : nameE nm rest k = 5 := by
 unfold nameE
 rw [if_neg (by rw [h]; decide), if_pos h1]
theorem nameE_r {nm : Nat → ByteArray} {rest : Nat → Int} {k : Nat} (h : nameB (nm k) = true) (h1 : hasB ((List.range k).map nm) (nm k) = false) : nameE nm rest k = rest k := by
 unfold nameE
 rw [if_neg (by rw [h]; decide), if_neg (by rw [h1]; decide)]
end Go.Proofs.Ythcnganbnbhhoaa
