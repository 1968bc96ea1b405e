/- How long lists that come in are at most. Over whatever program. -/
import Derived.Test.YthcnganbnbhhoaaGreatSa22
import Derived.Test.YthcnganbnbhhoaaGreatSa15
namespace Go.Proofs.YthcnganbnbhhoaaGreat.Sh
set_option linter.unusedVariables false
set_option linter.unusedSimpArgs false
open Go Go.ChangeShapes Go.WideShapes Go.ChangeAt Go.RowKit Go.Joins Go.Deep
section
variable {P : Program} {H : Type} {enc : TypeId × Value → H} {W : World}
theorem row_weight {t e : TypeId} {n s b : Nat} {c : Value} {y : DataW H × List MemPlace} {l : List D} (ht : P.underlying t = some (.slice e)) (hb : P.bytesOf e = b) (h : DataW.trod enc P W 0 (fun _ => true) true n t [c] = some y) (hv : VD (gW W) (.arr s l) c) (hw : ∀ m ∈ DataW.weights P t y.1, m ≤ reachBytes) : l.length * b ≤ 140737488355328 := by
 rcases open_slice ht h with ⟨e1, _⟩ | ⟨a, len, cap, m, n', D', Pl, e1, _, hlc, hcm, hm, rfl, hel⟩
 ·injection e1 with e1
  subst e1
  cases hv <;> simp
 ·injection e1 with e1
  subst e1
  have hl : l.length = len := by cases hv <;> rfl
  subst hl
  have hlm : l.length ≤ m := by rw [hm]; split <;> omega
  have := hw ((((List.range l.length).map D').length + ((List.range (m - l.length)).map fun j => D' (l.length + j)).length) * b) (by
   simp only [DataW.weights, ht, hb]; exact List.mem_cons_self)
  simp only [List.length_map, List.length_range] at this
  have h2 : reachBytes ≤ 140737488355328 := by decide
  have h3 : l.length * b ≤ (l.length + (m - l.length)) * b := Nat.mul_le_mul_right _ (by omega)
  omega
theorem op_structW {w0 : Nat} {t : TypeId} {fs : Array Field} {v : Value} {d : DataW H} {p : List MemPlace} {r : Reach} (hs : P.underlying t = some (.struct fs)) (hval : Value.okWide P W r w0 t v) (h : DataW.Trod enc P W 0 (fun _ => true) true t v d p) :
  ∃ cs : Array Value, v = .agg cs ∧ ∃ n, DataW.trod enc P W 0 (fun _ => true) true n t cs.toList = some (d, p) := by
 obtain ⟨cs, rfl, _⟩ := okWide_struct hs hval
 obtain ⟨fuel, hf⟩ := h
 exact ⟨cs, rfl, fuel, hf⟩
end
end Go.Proofs.YthcnganbnbhhoaaGreat.Sh
