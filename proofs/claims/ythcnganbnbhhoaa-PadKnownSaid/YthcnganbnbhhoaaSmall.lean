/- The walks of small tests of numbers, places, grades, spans. -/
import Derived.Test.YthcnganbnbhhoaaFunc
import Derived.Test.YthcnganbnbhhoaaVals
import Derived.Test.YthcnganbnbhhoaaDet
import Derived.Deep.RegionHeld3
import Derived.Deep.DeepCutAuto
namespace Go.Proofs.Ythcnganbnbhhoaa
open Go.RowKit Go.Shelf
theorem cell_mk (w : World) (cs : Array Value) (t : TypeId) (k : Nat) (u : Value) (h : cs[k]? = some u) : (w.alloc (.cells cs t)).cell? ⟨w.heap.size, k, none⟩ = some u := by
 have := cell_of_row (w.alloc (.cells cs t)) w.heap.size k cs t (0, 0) (heap_alloc_new w _)
 rw [this]; exact h
theorem size_alloc (w : World) (o : Obj) : (w.alloc o).heap.size = w.heap.size + 1 := by simp
set_option maxRecDepth 100000 in
set_option maxHeartbeats 400000 in
/-- pad.low -/
theorem low_any (n : Int) (w : World) :
 Calls Try.prog 44 #[.int .i64 n] w fun e w' => e = .returned (.bool (outB n 0 9)) ∧ w = w' := by
 go_enter Try.func44, Try.ntmps44
 go_wp2_with (go_at_call 37; refine (out_any _ _ _ _).mono ?_; rintro e w' ⟨rfl, rfl⟩)
 go_ret
 exact ⟨ret_bool rfl, rfl⟩
set_option maxRecDepth 100000 in
set_option maxHeartbeats 400000 in
/-- pad.off$1 -/
theorem offOne_any (n : Int) (w : World) :
 Calls Try.prog 97 #[.int .i64 n] w fun e w' => e = .returned (.bool (outB n (-10000000) 10000000)) ∧ w = w' := by
 go_enter Try.func97, Try.ntmps97
 go_wp2_with (go_at_call 37; refine (out_any _ _ _ _).mono ?_; rintro e w' ⟨rfl, rfl⟩)
 go_ret
 exact ⟨ret_bool rfl, rfl⟩
set_option maxRecDepth 100000 in
set_option maxHeartbeats 400000 in
/-- ref.grade -/
theorem grade_any (n : Int) (w : World) :
 Calls Try.prog 80 #[.int .i64 n] w fun e w' => e = .returned (.bool (inB n 0 9)) ∧ w = w' := by
 go_enter Try.func80, Try.ntmps80
 go_wp2_with (go_at_call 53; refine (refIn_any _ _ _ _).mono ?_; rintro e w' ⟨rfl, rfl⟩)
 go_ret
 exact ⟨ret_bool rfl, rfl⟩
set_option maxRecDepth 100000 in
set_option maxHeartbeats 400000 in
/-- ref.place -/
theorem place_any (n : Int) (w : World) :
 Calls Try.prog 82 #[.int .i64 n] w fun e w' => e = .returned (.bool (inB n (-10000000) 10000000)) ∧ w = w' := by
 go_enter Try.func82, Try.ntmps82
 go_wp2_with (go_at_call 53; refine (refIn_any _ _ _ _).mono ?_; rintro e w' ⟨rfl, rfl⟩)
 go_ret
 exact ⟨ret_bool rfl, rfl⟩
set_option maxRecDepth 100000 in
set_option maxHeartbeats 400000 in
/-- pad.off -/
theorem off_any (v : Value) (l : List Int) (w : World) (hv : IntsV w .i64 v l) :
 Calls Try.prog 75 #[v] w fun e w' => e = .returned (.bool (anyB (fun k => outB (l.getD k 0) (-10000000) 10000000) l.length)) ∧ Ext w w' := by
 have HC := hide (containsFunc_int 97 #[] (enters_of Try.func97 (by kernel_rfl) rfl) v l (fun k => outB (l.getD k 0) (-10000000) 10000000) w (fun k w1 _ _ => by
  refine (offOne_any _ _).mono ?_
  rintro e w2 ⟨rfl, rfl⟩
  exact ⟨rfl, Ext.refl _⟩) hv)
 clear hv
 go_enter Try.func75, Try.ntmps75
 go_wp2_with (go_at_call 76; refine Calls.mono HC.out ?_; rintro e w1 ⟨rfl, hx⟩)
 go_ret
 exact ⟨ret_bool rfl, hx⟩
set_option maxRecDepth 100000 in
set_option maxHeartbeats 400000 in
/-- ref.side -/
theorem side_any (lo hi : Int) (w : World) :
 Calls Try.prog 79 #[.agg #[.int .i64 lo, .int .i64 hi]] w fun e w' => e = .returned (.bool (inB lo (-10000000) 10000000 && (inB hi (-10000000) 10000000 && decide (lo ≤ hi)))) ∧ Ext w w' := by
 go_enter Try.func79, Try.ntmps79
 cases h1 : inB lo (-10000000) 10000000 <;> cases h2 : inB hi (-10000000) 10000000 <;>
  (have HA := hide (fun V => place_any lo V)
   have HB := hide (fun V => place_any hi V)
   rw [h1] at HA
   rw [h2] at HB
   clear h1 h2
   go_wp2_with first
    | (go_at_call_of 82 (Value.int IntKind.i64 lo); refine (HA.out _).mono ?_; rintro e w' ⟨rfl, rfl⟩)
    | (go_at_call_of 82 (Value.int IntKind.i64 hi); refine (HB.out _).mono ?_; rintro e w' ⟨rfl, rfl⟩)
   go_ret
   exact ⟨ret_bool (by simp), (Ext.refl _).alloc _⟩)
set_option maxRecDepth 100000 in
set_option maxHeartbeats 400000 in
/-- ref.far -/
theorem far_any (lo hi n : Int) (w : World) (h1 : -10000000 ≤ lo) (h2 : lo ≤ 10000000) (h3 : -10000000 ≤ hi) (h4 : hi ≤ 10000000) (h5 : -10000000 ≤ n) (h6 : n ≤ 10000000) :
 Calls Try.prog 83 #[.agg #[.int .i64 lo, .int .i64 hi], .int .i64 n] w fun e w' => e = .returned (.int .i64 (max (max (lo - n) (n - hi)) 0)) ∧ Ext w w' := by
 go_enter Try.func83, Try.ntmps83
 go_wp2
 all_goals
  go_ret
  exact ⟨ret_int (by omega), (Ext.refl _).alloc _⟩
end Go.Proofs.Ythcnganbnbhhoaa
