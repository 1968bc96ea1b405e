/- The walks of meet, of Check's two closures, and of bad. -/
import Derived.Test.YtjnnkcnnandeeaaWFunc
namespace Go.Proofs.Ytjnnkcnnandeeaa
open Go.RowKit
def minI (a b : Int) : Int := if a ≤ b then a else b
/-- Whether two channels are in the same frame at the same word. -/
def meetB (a b : Chan) : Bool := decide (a.word = b.word) && decide (a.phase % minI a.every b.every = b.phase % minI a.every b.every)
set_option maxRecDepth 100000 in
set_option maxHeartbeats 400000 in
/-- frame.meet -/
theorem meet_any (a b : Chan) (w : World) (ha : 1 ≤ a.every) (hb : 1 ≤ b.every) (hpa : 0 ≤ a.phase) (hpb : 0 ≤ b.phase) :
    Calls Try.prog 78 #[a.val, b.val] w fun e w' => e = .returned (.bool (meetB a b)) ∧ Ext w w' := by
  obtain ⟨na, wa, ea, pa⟩ := a
  obtain ⟨nb, wb, eb, pb⟩ := b
  unfold Chan.val
  dsimp only at *
  by_cases h : wa = wb
  · have hd : (wa == wb) = true := by simp [h]
    have H := hide h
    clear h
    go_enter Try.func78, Try.ntmps78
    go_wp2
    · have hm : minI ea eb = eb := if_neg (by omega)
      have HM := hide hm
      clear hm
      go_quiet (fail)
      go_wp2
      go_ret
      refine ⟨ret_bool ?_, (((Ext.refl _).alloc _).alloc _).drewN _⟩
      simp only [meetB, H.out, HM.out, decide_true, Bool.true_and]
      rfl
    · have hm : minI ea eb = ea := if_pos (by omega)
      have HM := hide hm
      clear hm
      go_quiet (fail)
      go_wp2
      go_ret
      refine ⟨ret_bool ?_, (((Ext.refl _).alloc _).alloc _).drewN _⟩
      simp only [meetB, H.out, HM.out, decide_true, Bool.true_and]
      rfl
  · have hd : (wa == wb) = false := by simp [h]
    have H := hide h
    clear h
    go_enter Try.func78, Try.ntmps78
    go_wp2
    all_goals
      go_quiet (fail)
      go_wp2
      go_ret
      refine ⟨ret_bool ?_, (((Ext.refl _).alloc _).alloc _).drewN _⟩
      simp [meetB, H.out]
set_option maxRecDepth 100000 in
set_option maxHeartbeats 400000 in
/-- Check's first closure: the name is the captured channel's. -/
theorem same_any (d : Chan) (nm : ByteArray) (B : Nat) (w : World) (hc : w.cell? ⟨B, 0, none⟩ = some (.string nm)) :
    Calls Try.prog 76 #[d.val, .pointer (some ⟨B, 0, none⟩)] w fun e w' => e = .returned (.bool (d.name.toList == nm.toList)) ∧ Ext w w' := by
  obtain ⟨nd, wd, ed, pd⟩ := d
  unfold Chan.val
  dsimp only at *
  have hB := World.block_lt_of_cell? w _ hc
  dsimp only at hB
  go_enter Try.func76, Try.ntmps76
  go_wp2
  go_ret
  exact ⟨ret_bool rfl, (Ext.refl _).alloc _⟩
set_option maxRecDepth 100000 in
set_option maxHeartbeats 400000 in
/-- Check's second closure: it meets the captured channel. -/
theorem meets_any (c d : Chan) (B : Nat) (w : World) (h1 : 1 ≤ c.every) (h2 : 0 ≤ c.phase) (h3 : 1 ≤ d.every) (h4 : 0 ≤ d.phase)
    (hc0 : w.cell? ⟨B, 0, none⟩ = some (.string c.name)) (hc1 : w.cell? ⟨B, 1, none⟩ = some (.int .i64 c.word)) (hc2 : w.cell? ⟨B, 2, none⟩ = some (.int .i64 c.every)) (hc3 : w.cell? ⟨B, 3, none⟩ = some (.int .i64 c.phase)) :
    Calls Try.prog 77 #[d.val, .pointer (some ⟨B, 0, none⟩)] w fun e w' => e = .returned (.bool (meetB c d)) ∧ Ext w w' := by
  have HM := hide (meet_any c d)
  obtain ⟨nd, wd, ed, pd⟩ := d
  obtain ⟨nc, wc, ec, pc⟩ := c
  unfold Chan.val at *
  dsimp only at *
  have hB := World.block_lt_of_cell? w _ hc0
  dsimp only at hB
  go_enter Try.func77, Try.ntmps77
  go_wp2_with (go_at_call 78; refine Calls.mono (HM.out _ h1 h3 h2 h4) ?_; rintro e w1 ⟨rfl, hx⟩)
  go_ret
  exact ⟨ret_bool rfl, ((Ext.refl _).alloc _).trans hx⟩
set_option maxRecDepth 100000 in
set_option maxHeartbeats 400000 in
/-- bad's closure -/
theorem badWord_any (n : Int) (w : World) :
    Calls Try.prog 101 #[.int .i64 n] w fun e w' => e = .returned (.bool (outB n 0 65535)) ∧ w = w' := by
  go_enter Try.func101, Try.ntmps101
  go_wp2_with (go_at_call 69; refine (out_any _ _ _ _).mono ?_; rintro e w' ⟨rfl, rfl⟩)
  go_ret
  exact ⟨ret_bool rfl, rfl⟩
/-- Whether one of some numbers is no word. -/
def badB (l : List Int) : Bool := anyB (fun k => outB (l.getD k 0) 0 65535) l.length
set_option maxRecDepth 100000 in
set_option maxHeartbeats 400000 in
/-- frame.bad -/
theorem bad_any (v : Value) (l : List Int) (w : World) (hv : IntsV w .i64 v l) :
    Calls Try.prog 57 #[v] w fun e w' => e = .returned (.bool (badB l)) ∧ Ext w w' := by
  have HC := hide (containsFunc_int 101 #[] (enters_of Try.func101 (by kernel_rfl) rfl) v l (fun k => outB (l.getD k 0) 0 65535) w
    (fun k w1 _ _ => (badWord_any _ w1).mono fun e w2 ⟨h1, h2⟩ => ⟨h1, by rw [← h2]; exact Ext.refl _⟩) hv)
  go_enter Try.func57, Try.ntmps57
  go_wp2_with (go_at_call 81; refine Calls.mono HC.out ?_; rintro e w1 ⟨rfl, hx⟩)
  go_ret
  exact ⟨ret_bool rfl, hx⟩
end Go.Proofs.Ytjnnkcnnandeeaa
