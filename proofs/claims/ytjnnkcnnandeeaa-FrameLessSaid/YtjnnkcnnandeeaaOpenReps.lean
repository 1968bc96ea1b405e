/- What reports that came in read as. -/
import Derived.Test.YtjnnkcnnandeeaaOpen
import Derived.Test.YtjnnkcnnandeeaaReps
namespace Go.Proofs.Ytjnnkcnnandeeaa
open Go.ChangeShapes Go.WideShapes Go.ChangeAt Go.RowKit Go.Joins Go.Deep
section
variable {H : Type} {enc : TypeId × Value → H} {W : World}
theorem open_rep {n : Nat} {cs : List Value} {y : DataW H × List MemPlace} (h : DataW.trod enc Try.prog W 0 (fun _ => true) true n 97 cs = some y) : ∃ d : RepX, (∀ k, k < 5 → cs[k]? = some (d.cell k)) ∧ IntsV W .i64 d.2 d.1.words := by
  obtain ⟨y0, y1, y2, y3, y4, m, hl, f0, f1, f2, f3, f4⟩ := trod_fields5 Try.underlying97 h
  have hl5 : cs.length = 5 := hl.trans (by kernel_rfl)
  have q1 : Try.prog.cellsOf 3 = 1 := by kernel_rfl
  have q2 : Try.prog.cellsOf 4 = 1 := by kernel_rfl
  have q3 : Try.prog.cellsOf 29 = 1 := by kernel_rfl
  dsimp only at f0 f1 f2 f3 f4
  rw [q1] at f0 f1 f2
  rw [q2] at f3
  rw [q3] at f4
  clear hl
  match cs, hl5 with
  | [c0, c1, c2, c3, c4], _ =>
    simp only [List.drop_zero, List.drop_succ_cons, List.take_succ_cons, List.take_zero] at f0 f1 f2 f3 f4
    obtain ⟨a0, e0, _, _⟩ := DataW.trod_int Try.underlying3 f0
    obtain ⟨a1, e1, _, _⟩ := DataW.trod_int Try.underlying3 f1
    obtain ⟨a2, e2, _, _⟩ := DataW.trod_int Try.underlying3 f2
    obtain ⟨a3, e3, _⟩ := DataW.trod_bool Try.underlying4 f3
    obtain ⟨a, len, cap, zs, rfl, hr⟩ := open_ints' (fun _ => rfl) Try.underlying29 Try.underlying3 (by kernel_rfl) f4
    injection e0 with e0
    injection e1 with e1
    injection e2 with e2
    injection e3 with e3
    subst e0 e1 e2 e3
    refine ⟨(⟨a0, a1, a2, a3, _⟩, .slice a len cap), fun k hk => ?_, hr.ints⟩
    rcases (by omega : k = 0 ∨ k = 1 ∨ k = 2 ∨ k = 3 ∨ k = 4) with rfl | rfl | rfl | rfl | rfl <;> rfl
set_option maxRecDepth 100000 in
theorem open_reps {w0 : Nat} {v : Value} {d : DataW H} {p : List MemPlace} (hval : Value.okWide Try.prog W .any w0 84 v) (h : DataW.Trod enc Try.prog W 0 (fun _ => true) true 84 v d p) : ∃ xs, RepsV W v xs := by
  obtain ⟨a0, len0, cap0, rfl⟩ := okWide_slice Try.underlying84 hval
  obtain ⟨fuel, hf⟩ := h
  obtain ⟨l, ⟨A, c, e, a1, a2, a3⟩, hg⟩ := open_rows (size := 5) RepX.cell (fun x : RepX => IntsV W .i64 x.2 x.1.words) Try.underlying84 (by kernel_rfl) (by omega) (fun _ _ _ h => open_rep h) hf
  exact ⟨l, A, c, e, a1, a2, a3, hg⟩
end
end Go.Proofs.Ytjnnkcnnandeeaa
