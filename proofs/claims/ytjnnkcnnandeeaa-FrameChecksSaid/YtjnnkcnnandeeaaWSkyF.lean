/- The walks of CheckSky's closures, times, part, product, field. -/
import Derived.Test.YtjnnkcnnandeeaaWMeet
import Derived.Test.YtjnnkcnnandeeaaSky
namespace Go.Proofs.Ytjnnkcnnandeeaa
open Go.RowKit
set_option maxRecDepth 100000 in
set_option maxHeartbeats 400000 in
/-- CheckSky's inner closure: a number is out of the captured bound. -/
theorem farOne_any (n m : Int) (B : Nat) (w : World) (h0 : 0 ≤ m) (h1 : m ≤ 1000000) (hc : w.cell? ⟨B, 0, none⟩ = some (.int .i64 m)) :
    Calls Try.prog 82 #[.int .i64 n, .pointer (some ⟨B, 0, none⟩)] w fun e w' => e = .returned (.bool (outB n (-m) m)) ∧ Ext w w' := by
  go_enter Try.func82, Try.ntmps82
  go_wp2_with (go_at_call 69; refine (out_any _ _ _ _).mono ?_; rintro e w' ⟨rfl, rfl⟩)
  go_ret
  exact ⟨ret_bool rfl, Ext.refl _⟩
/-- Whether one of some numbers is out of a bound. -/
def farL (m : Int) (l : List Int) : Bool := anyB (fun k => outB (l.getD k 0) (-m) m) l.length
theorem farL_three (m a b c : Int) : farL m [a, b, c] = (outB a (-m) m || outB b (-m) m || outB c (-m) m) := by
  unfold farL
  rw [Bool.eq_iff_iff, anyB_t]
  simp only [List.length_cons, List.length_nil, Bool.or_eq_true]
  constructor
  · rintro ⟨j, hj, h⟩
    rcases (by omega : j = 0 ∨ j = 1 ∨ j = 2) with rfl | rfl | rfl <;> simp_all
  · rintro ((h | h) | h)
    · exact ⟨0, by omega, h⟩
    · exact ⟨1, by omega, h⟩
    · exact ⟨2, by omega, h⟩
set_option maxRecDepth 100000 in
set_option maxHeartbeats 400000 in
/-- CheckSky's closure 'far'. -/
theorem far_any (m : Int) (v : Value) (l : List Int) (w : World) (h0 : 0 ≤ m) (h1 : m ≤ 1000000) (hv : IntsV w .i64 v l) :
    Calls Try.prog 80 #[.int .i64 m, v] w fun e w' => e = .returned (.bool (farL m l)) ∧ Ext w w' := by
  have HC := hide (fun W B (hx : Ext w W) (hc : W.cell? ⟨B, 0, none⟩ = some (.int .i64 m)) => containsFunc_int 82 #[.pointer (some ⟨B, 0, none⟩)] (enters_of Try.func82 (by kernel_rfl) rfl) v l (fun k => outB (l.getD k 0) (-m) m) W
    (fun k w1 _ hx1 => farOne_any _ m B w1 h0 h1 (hx1.cell hc)) (hv.ext hx))
  have HB := hide ((Ext.refl w).alloc (.cells #[.int .i64 m] 3))
  go_enter Try.func80, Try.ntmps80
  go_wp2_with (go_at_call 81; refine Calls.mono (HC.out _ _ HB.out (by simp)) ?_; rintro e w1 ⟨rfl, hx⟩)
  go_ret
  exact ⟨ret_bool rfl, HB.out.trans hx⟩
/-- The product of two directions, as Go has it. -/
def dotW (a b : Dir) : Int := wrap64 (wrap64 (wrap64 (a.x * b.x) + wrap64 (a.y * b.y)) + wrap64 (a.z * b.z))
set_option maxRecDepth 100000 in
set_option maxHeartbeats 400000 in
/-- frame.axis.times -/
theorem times_any (a b : Dir) (w : World) :
    Calls Try.prog 83 #[a.val, b.val] w fun e w' => e = .returned (.int .i64 (dotW a b)) ∧ Ext w w' := by
  obtain ⟨x, y, z⟩ := a
  obtain ⟨x', y', z'⟩ := b
  unfold Dir.val
  dsimp only
  go_enter Try.func83, Try.ntmps83
  go_wp2
  go_ret
  exact ⟨ret_int rfl, ((Ext.refl _).alloc _).alloc _⟩
set_option maxRecDepth 100000 in
set_option maxHeartbeats 400000 in
/-- ref.product -/
theorem product_any (a b : Dir) (w : World) :
    Calls Try.prog 85 #[a.val, b.val] w fun e w' => e = .returned (.int .i64 (dotW a b)) ∧ Ext w w' := by
  obtain ⟨x, y, z⟩ := a
  obtain ⟨x', y', z'⟩ := b
  unfold Dir.val
  dsimp only
  go_enter Try.func85, Try.ntmps85
  go_wp2
  go_ret
  exact ⟨ret_int rfl, ((Ext.refl _).alloc _).alloc _⟩
set_option maxRecDepth 100000 in
set_option maxHeartbeats 400000 in
/-- ref.part -/
theorem part_any (n : Int) (w : World) :
    Calls Try.prog 84 #[.int .i64 n] w fun e w' => e = .returned (.bool (inB n (-10000) 10000)) ∧ w = w' := by
  go_enter Try.func84, Try.ntmps84
  go_wp2_with (go_at_call 70; refine (refIn_any _ _ _ _).mono ?_; rintro e w' ⟨rfl, rfl⟩)
  go_ret
  exact ⟨ret_bool rfl, rfl⟩
set_option maxRecDepth 100000 in
set_option maxHeartbeats 400000 in
/-- ref.field -/
theorem field_any (n : Int) (w : World) :
    Calls Try.prog 86 #[.int .i64 n] w fun e w' => e = .returned (.bool (inB n (-1000000) 1000000)) ∧ w = w' := by
  go_enter Try.func86, Try.ntmps86
  go_wp2_with (go_at_call 70; refine (refIn_any _ _ _ _).mono ?_; rintro e w' ⟨rfl, rfl⟩)
  go_ret
  exact ⟨ret_bool rfl, rfl⟩
end Go.Proofs.Ytjnnkcnnandeeaa
