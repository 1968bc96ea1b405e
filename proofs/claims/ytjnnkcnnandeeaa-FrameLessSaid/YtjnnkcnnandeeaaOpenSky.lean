/- What a sky that came in reads as. -/
import Derived.Test.YtjnnkcnnandeeaaOpen
import Derived.Test.YtjnnkcnnandeeaaSky
namespace Go.Proofs.Ytjnnkcnnandeeaa
open Go.ChangeShapes Go.WideShapes Go.ChangeAt Go.RowKit Go.Joins Go.Deep
section
variable {H : Type} {enc : TypeId × Value → H} {W : World}
theorem open_dir {n : Nat} {cs : List Value} {y : DataW H × List MemPlace} (h : DataW.trod enc Try.prog W 0 (fun _ => true) true n 94 cs = some y) : ∃ d : Dir, (∀ k, k < 3 → cs[k]? = some (d.cell k)) ∧ True := by
  obtain ⟨y0, y1, y2, m, hl, f0, f1, f2⟩ := trod_fields3 Try.underlying94 h
  have hl3 : cs.length = 3 := hl.trans (by kernel_rfl)
  have q1 : Try.prog.cellsOf 3 = 1 := by kernel_rfl
  dsimp only at f0 f1 f2
  rw [q1] at f0 f1 f2
  clear hl
  match cs, hl3 with
  | [c0, c1, c2], _ =>
    simp only [List.drop_zero, List.drop_succ_cons, List.take_succ_cons, List.take_zero] at f0 f1 f2
    obtain ⟨a0, e0, _, _⟩ := DataW.trod_int Try.underlying3 f0
    obtain ⟨a1, e1, _, _⟩ := DataW.trod_int Try.underlying3 f1
    obtain ⟨a2, e2, _, _⟩ := DataW.trod_int Try.underlying3 f2
    injection e0 with e0
    injection e1 with e1
    injection e2 with e2
    subst e0 e1 e2
    refine ⟨⟨a0, a1, a2⟩, fun k hk => ?_, trivial⟩
    rcases (by omega : k = 0 ∨ k = 1 ∨ k = 2) with rfl | rfl | rfl <;> rfl
theorem open_sen {n : Nat} {cs : List Value} {y : DataW H × List MemPlace} (h : DataW.trod enc Try.prog W 0 (fun _ => true) true n 100 cs = some y) : ∃ d : Sen, (∀ k, k < 7 → cs[k]? = some (d.cell k)) ∧ True := by
  obtain ⟨y0, y1, y2, y3, y4, y5, y6, m, hl, f0, f1, f2, f3, f4, f5, f6⟩ := trod_fields7 Try.underlying100 h
  have hl7 : cs.length = 7 := hl.trans (by kernel_rfl)
  have q1 : Try.prog.cellsOf 3 = 1 := by kernel_rfl
  have q2 : Try.prog.cellsOf 4 = 1 := by kernel_rfl
  dsimp only at f0 f1 f2 f3 f4 f5 f6
  rw [q1] at f0 f1 f2 f3 f4 f5
  rw [q2] at f6
  clear hl
  match cs, hl7 with
  | [c0, c1, c2, c3, c4, c5, c6], _ =>
    simp only [List.drop_zero, List.drop_succ_cons, List.take_succ_cons, List.take_zero] at f0 f1 f2 f3 f4 f5 f6
    obtain ⟨a0, e0, _, _⟩ := DataW.trod_int Try.underlying3 f0
    obtain ⟨a1, e1, _, _⟩ := DataW.trod_int Try.underlying3 f1
    obtain ⟨a2, e2, _, _⟩ := DataW.trod_int Try.underlying3 f2
    obtain ⟨a3, e3, _, _⟩ := DataW.trod_int Try.underlying3 f3
    obtain ⟨a4, e4, _, _⟩ := DataW.trod_int Try.underlying3 f4
    obtain ⟨a5, e5, _, _⟩ := DataW.trod_int Try.underlying3 f5
    obtain ⟨a6, e6, _⟩ := DataW.trod_bool Try.underlying4 f6
    injection e0 with e0
    injection e1 with e1
    injection e2 with e2
    injection e3 with e3
    injection e4 with e4
    injection e5 with e5
    injection e6 with e6
    subst e0 e1 e2 e3 e4 e5 e6
    refine ⟨⟨a0, a1, a2, a3, a4, a5, a6⟩, fun k hk => ?_, trivial⟩
    rcases (by omega : k = 0 ∨ k = 1 ∨ k = 2 ∨ k = 3 ∨ k = 4 ∨ k = 5 ∨ k = 6) with rfl | rfl | rfl | rfl | rfl | rfl | rfl <;> rfl
set_option maxRecDepth 100000 in
theorem open_sky {w0 : Nat} {v : Value} {d : DataW H} {p : List MemPlace} (hval : Value.okWide Try.prog W .any w0 76 v) (h : DataW.Trod enc Try.prog W 0 (fun _ => true) true 76 v d p) : ∃ s, SkyV W v s ∧ (Lit.int .i64 s.turn).wf = true := by
  obtain ⟨v0, v1, v2, y0, y1, y2, n, rfl, _, _, h0, h1, h2⟩ := open_agg3 Try.underlying76 (by kernel_rfl) (by kernel_rfl) hval h
  obtain ⟨l0, ⟨A0, c0, rfl, a1, a2, a3⟩, _⟩ := open_rows (size := 3) Dir.cell (fun _ => True) Try.underlying73 (by kernel_rfl) (by omega) (fun _ _ _ h => open_dir h) h0
  obtain ⟨x1, e1, _, wx⟩ := DataW.trod_int Try.underlying3 h1
  obtain ⟨l2, ⟨A2, c2, rfl, b1, b2, b3⟩, _⟩ := open_rows (size := 7) Sen.cell (fun _ => True) Try.underlying74 (by kernel_rfl) (by omega) (fun _ _ _ h => open_sen h) h2
  injection e1 with e1
  subst e1
  exact ⟨⟨l0, x1, l2⟩, ⟨A0, c0, A2, c2, rfl, a1, a2, b1, b2, a3, b3⟩, wx⟩
end
end Go.Proofs.Ytjnnkcnnandeeaa
