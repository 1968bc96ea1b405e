/- The walk of Numbers. -/
import Derived.Test.YtjnnkcnnandeeaaWNums
namespace Go.Proofs.Ytjnnkcnnandeeaa
open Go.RowKit
/-- The error of Numbers. -/
def numErr (f : Fmt) (l : List Nat) (first : Int) : Int := if tapeErr f l.length first = 0 then readErr first (framesOf f l) else tapeErr f l.length first
def numsOf (f : Fmt) (l : List Nat) (first : Int) : List Int := if numErr f l first = 0 then nums first (framesOf f l) else []
theorem tapeErr_0 {f : Fmt} {n : Nat} {first : Int} (h : tapeErr f n first = 0) : (chk f).2.2 = 0 ∧ n ≤ 4000 ∧ 0 ≤ first ∧ first ≤ 1000000 := by
  unfold tapeErr at h
  by_cases h1 : (chk f).2.2 = 0
  · rw [if_neg (by simpa using h1)] at h
    by_cases h2 : 4000 < n
    · rw [if_pos h2] at h; cases h
    · rw [if_neg h2] at h
      cases h3 : outB first 0 1000000 with
      | true => rw [h3] at h; cases h
      | false => exact ⟨h1, by omega, (outB_f.1 h3).1, (outB_f.1 h3).2⟩
  · rw [if_pos h1] at h; exact absurd h h1
/-- Every cell that was there holds what it held, in the form that the walk uses. -/
theorem Ext.cells {W w1 : World} (h : Ext W w1) : ∀ b o, b < W.heap.size → w1.cell? ⟨b, o, none⟩ = W.cell? ⟨b, o, none⟩ := fun b o hb => Below.cell (p := ⟨b, o, none⟩) h hb
set_option maxRecDepth 100000 in
set_option maxHeartbeats 400000 in
/-- frame.Numbers -/
theorem numbers_any (v b : Value) (f : Fmt) (l : List Nat) (first : Int) (w : World) (hv : FmtV w v f) (hb : BytesV w b l) :
    Calls Try.prog 27 #[v, .agg #[b, .int .i64 first]] w fun e w' => ∃ r, e = .returned (.tuple #[r, .int .i64 (numErr f l first)]) ∧ IntsV w' .i64 r (numsOf f l first) ∧ Ext w w' := by
  have HV := hide hv
  have HB := hide hb
  obtain ⟨_, _, A, cap, rfl, _, _, _⟩ := hv
  obtain ⟨_, A', cap', rfl, _, _, _⟩ := hb
  have ht := tape_any _ (.slice A' l.length cap') f l first ((w.alloc (.cells #[.string f.sync, .int .i64 f.words, .int .i64 f.depth, .slice A f.channels.length cap] 28)).alloc (.cells #[.slice A' l.length cap', .int .i64 first] 38)) (HV.out.ext (((Ext.refl w).alloc _).alloc _)) (HB.out.ext (((Ext.refl w).alloc _).alloc _))
  have HT := hide ht
  clear ht
  by_cases h : tapeErr f l.length first = 0
  · have h0 : (tapeErr f l.length first != 0) = false := by simp [h]
    have H := hide h
    clear h
    have hr := fun w1 (hx : Ext w w1) => by
      obtain ⟨h1, h2, h3, h4⟩ := tapeErr_0 H.out
      obtain ⟨c1, c2, c3, c4, c5, _⟩ := chk_ok h1
      exact read_any _ _ f l first w1 (HV.out.ext hx) (HB.out.ext hx) (by omega) (by omega) (by omega) (by omega) h3 h4
    have HR := hide hr
    have hne : numErr f l first = readErr first (framesOf f l) := if_pos H.out
    have hno : numsOf f l first = if readErr first (framesOf f l) = 0 then nums first (framesOf f l) else [] := by unfold numsOf; rw [hne]
    rw [hne]
    have HNO := hide hno
    clear hr hne hno
    generalize readErr first (framesOf f l) = re at *
    go_enter Try.func27, Try.ntmps27
    go_wp2_with first
      | (go_at_call 66; refine Calls.mono HT.out ?_; rintro e w1 ⟨rfl, hx⟩; have hcc := hx.cells; have HX := hide hx; clear hx)
      | (go_at_call 67; refine Calls.mono (HR.out _ (((((Ext.refl w).alloc _).alloc _)).trans HX.out)) ?_; rintro e w2 ⟨lv, nv, xs, rfl, h1, h2, hx2⟩)
    go_ret2
    refine ⟨nv, rfl, ?_, (((((Ext.refl w).alloc _).alloc _)).trans HX.out).trans hx2⟩
    rw [HNO.out]
    by_cases hz : re = 0
    · rw [if_pos hz]; exact (h1 hz).2.2
    · rw [if_neg hz]; obtain ⟨_, rfl⟩ := h2 hz; exact IntsV.nil _ _
  · have h0 : (tapeErr f l.length first != 0) = true := by simp [h]
    have hne : numErr f l first = tapeErr f l.length first := if_neg h
    have hno : numsOf f l first = [] := by unfold numsOf; rw [hne, if_neg h]
    rw [hne, hno]
    have H := hide h
    clear h
    go_enter Try.func27, Try.ntmps27
    go_wp2_with (go_at_call 66; refine Calls.mono HT.out ?_; rintro e w1 ⟨rfl, hx⟩; have hcc := hx.cells; have HX := hide hx; clear hx)
    go_ret2
    exact ⟨_, rfl, IntsV.nil _ _, ((((Ext.refl w).alloc _).alloc _)).trans HX.out⟩
end Go.Proofs.Ytjnnkcnnandeeaa
