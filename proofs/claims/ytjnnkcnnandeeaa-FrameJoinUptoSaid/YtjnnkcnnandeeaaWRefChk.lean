/- The walks of the reference's Check, valid and frame. -/
import Derived.Test.YtjnnkcnnandeeaaWRefChan
namespace Go.Proofs.Ytjnnkcnnandeeaa
open Go.RowKit
theorem deep_out {d : Int} (h : deepB d = true) : outB d 1 16 = false := by
  have hd' : d = 1 ∨ d = 2 ∨ d = 4 ∨ d = 8 ∨ d = 16 := by simpa [deepB] using h
  rw [outB_f]; omega
theorem deep6 (d : Int) : ((d == 1) = true ∧ deepB d = true) ∨ ((d == 1) = false ∧ (d == 2) = true ∧ deepB d = true) ∨ ((d == 1) = false ∧ (d == 2) = false ∧ (d == 4) = true ∧ deepB d = true) ∨
    ((d == 1) = false ∧ (d == 2) = false ∧ (d == 4) = false ∧ (d == 8) = true ∧ deepB d = true) ∨ ((d == 1) = false ∧ (d == 2) = false ∧ (d == 4) = false ∧ (d == 8) = false ∧ (d == 16) = true ∧ deepB d = true) ∨
    ((d == 1) = false ∧ (d == 2) = false ∧ (d == 4) = false ∧ (d == 8) = false ∧ (d == 16) = false ∧ deepB d = false) := by
  simp only [deepB, beq_iff_eq, beq_eq_false_iff_ne, ne_eq, decide_eq_true_eq, decide_eq_false_iff_not]
  omega
set_option maxRecDepth 100000 in
set_option maxHeartbeats 2000000 in
/-- ref.Check -/
theorem refCheck_any (v : Value) (f : Fmt) (w : World) (hv : FmtV w v f) :
    Calls Try.prog 39 #[v] w fun e w' => e = .returned (.tuple #[.int .i64 (chk f).1, .int .i64 (chk f).2.1, .int .i64 (chk f).2.2]) ∧ Ext w w' := by
  have HV := hide hv
  obtain ⟨hs, hn, A, cap, rfl, hcap, hmax, hrow⟩ := hv
  have hm : cap ≤ 9223372036854775807 := by simpa [maxLen] using hmax
  clear hmax hn hrow
  go_enter Try.func39, Try.ntmps39
  go_wp2_with fail
  refine (refIn_any _ _ _ _).mono ?_
  rintro e w1 ⟨rfl, rfl⟩
  have hio : inB f.sync.size 1 4 = !outB f.sync.size 1 4 := (by rw [outB_not])
  rw [hio]
  clear hio
  cases h1 : outB f.sync.size 1 4 with
  | true =>
    go_wp2_with fail
    go_ret3
    exact ⟨by rw [chk_1 (.inl h1)]; rfl, (Ext.refl _).alloc _⟩
  | false =>
    by_cases h2 : 12 < f.channels.length
    · have hd : decide ((12 : Int) < (f.channels.length : Nat)) = true := by simp; omega
      go_wp2_with fail
      go_ret3
      exact ⟨by rw [chk_1 (.inr h2)]; rfl, (Ext.refl _).alloc _⟩
    · have hd : decide ((12 : Int) < (f.channels.length : Nat)) = false := by simp; omega
      have H1 := hide h1
      have H2 := hide h2
      clear h1 h2
      rcases deep6 f.depth with ⟨q1, hB⟩ | ⟨q1, q2, hB⟩ | ⟨q1, q2, q3, hB⟩ | ⟨q1, q2, q3, q4, hB⟩ | ⟨q1, q2, q3, q4, q5, hB⟩ | ⟨q1, q2, q3, q4, q5, hB⟩
      all_goals
        have HB := hide hB
        clear hB
        go_wp2_with fail
        refine (refIn_any _ _ _ _).mono ?_
        rintro e w1 ⟨rfl, rfl⟩
        have hio : inB f.words 1 32 = !outB f.words 1 32 := (by rw [outB_not])
        rw [hio]
        clear hio
        cases h3 : outB f.words 1 32 with
        | true =>
          go_wp2_with fail
          go_ret3
          exact ⟨by rw [chk_2 H1.out H2.out (.inl h3)]; rfl, (Ext.refl _).alloc _⟩
        | false =>
          first
            | (have HBt : Hid (deepB f.depth = true) := hide HB.out
               have H3 := hide h3
               have hw1 := (outB_f.1 h3).1
               have hw2 := (outB_f.1 h3).2
               clear h3
               go_wp2_with fail
               go_loopw [6] (fun x wr => Ext (w.alloc (.cells #[.string f.sync, .int .i64 f.words, .int .i64 f.depth, .slice A f.channels.length cap] 28)) wr ∧ ∃ k : Nat, k ≤ f.channels.length ∧ x = .int .i64 k ∧ ∀ j, j < k → chanErr f j = 0) (fun x _ => f.channels.length - (intOf x).toNat)
               case atStart => exact ⟨Ext.refl _, 0, by omega, rfl, fun j hj => absurd hj (by omega)⟩
               case round =>
                 obtain ⟨hext, k, hk, rfl, hs⟩ := hrel
                 have HS := hide hs
                 have g0 : wr.cell? ⟨w.heap.size, 0, none⟩ = some (.string f.sync) := hext.cell (by simp)
                 have g1 : wr.cell? ⟨w.heap.size, 1, none⟩ = some (.int .i64 f.words) := hext.cell (by simp)
                 have g2 : wr.cell? ⟨w.heap.size, 2, none⟩ = some (.int .i64 f.depth) := hext.cell (by simp)
                 have g3 : wr.cell? ⟨w.heap.size, 3, none⟩ = some (.slice A f.channels.length cap) := hext.cell (by simp)
                 clear hs q1
                 by_cases h8 : k < f.channels.length
                 · have hc := refChannel_any _ f k wr (HV.out.ext (((Ext.refl w).alloc _).trans hext)) h8 HBt.out hw1 hw2 HS.out
                   have HC := hide hc
                   clear hc
                   go_wp2_with fail
                   refine Calls.mono HC.out ?_
                   rintro e w2 ⟨rfl, hx2⟩
                   by_cases hne : chanErr f k = 0
                   · have hz : (chanErr f k != 0) = false := by simp [hne]
                     have HNE := hide hne
                     clear hne
                     go_wp2_with fail
                     go_roundw
                     case rel =>
                       refine ⟨hext.trans hx2, k + 1, by omega, by go_num, fun j hj => ?_⟩
                       by_cases hjk : j = k
                       · rw [hjk]; exact HNE.out
                       · exact HS.out j (by omega)
                     case measure => simp [intOf]; omega
                   · have hz : (chanErr f k != 0) = true := by simp [hne]
                     have HNE := hide hne
                     clear hne
                     go_wp2_with fail
                     go_ret3
                     exact ⟨by rw [chk_3 H1.out H2.out H3.out (deep_out HBt.out) HBt.out h8 HS.out HNE.out]; rfl, ((Ext.refl w).alloc _).trans (hext.trans hx2)⟩
                 · obtain rfl : k = f.channels.length := by omega
                   go_wp2_with fail
                   go_ret3
                   exact ⟨by rw [chk_0 H1.out H2.out H3.out (deep_out HBt.out) HBt.out HS.out]; rfl, ((Ext.refl w).alloc _).trans hext⟩)
            | (have HBf : Hid (deepB f.depth = false) := hide HB.out
               go_wp2_with fail
               go_ret3
               exact ⟨by rw [chk_2 H1.out H2.out (.inr (.inr HBf.out))]; rfl, (Ext.refl _).alloc _⟩)
end Go.Proofs.Ytjnnkcnnandeeaa
