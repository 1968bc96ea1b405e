/- The walk of Sent.list: so many numbers, of the frame with an index. -/
import Derived.Test.YtjnnkcnnandeeaaWSentN
namespace Go.Proofs.Ytjnnkcnnandeeaa
open Go.RowKit
/-- The k-th number of the frame i. -/
def sWord (ws : List Int) (i many k : Nat) : Int := if ws.length = 0 then 0 else ws.getD ((i * many + k) % ws.length) 0
def sList (ws : List Int) (i many : Nat) : List Int := (List.range many).map (sWord ws i many)
theorem sList_snoc (ws : List Int) (i many k : Nat) : (List.range (k + 1)).map (sWord ws i many) = (List.range k).map (sWord ws i many) ++ [sWord ws i many k] := by
  rw [List.range_succ, List.map_append]; rfl
theorem sWord_le {ws : List Int} (h : ∀ y ∈ ws, 0 ≤ y ∧ y < 65536) (i many k : Nat) : 0 ≤ sWord ws i many k ∧ sWord ws i many k < 65536 := by
  unfold sWord
  by_cases hz : ws.length = 0
  · rw [if_pos hz]; omega
  · rw [if_neg hz]
    exact h _ (getD_mem (0 : Int) (Nat.mod_lt _ (by omega)))
set_option maxRecDepth 100000 in
set_option maxHeartbeats 1000000 in
/-- law.Sent.list -/
theorem slist_any (v : Value) (x : SentD) (i many : Nat) (w : World) (hv : SentV w v x) (hi : i ≤ 1048576) (hm : many ≤ 1000) :
    Calls Try.prog 37 #[v, .int .i64 i, .int .i64 many] w fun e w' => ∃ r, e = .returned r ∧ IntsV w' .i64 r (sList x.words i many) ∧ Ext w w' := by
  obtain ⟨first, steps, ws⟩ := x
  obtain ⟨hwb, s, u, rfl, ⟨_, As, caps, rfl, _, _, _⟩, ⟨A, cap, rfl, hcap, hmax, hrow⟩⟩ := hv
  dsimp only at *
  have hmx : cap ≤ 9223372036854775807 := by simpa [maxLen] using hmax
  have HROW := hide hrow
  have HWB := hide hwb
  have HX1 := hide ((Ext.refl w).alloc (.cells #[.int .i64 first, .slice As steps.length caps, .slice A ws.length cap] 55))
  clear hrow hmax hwb
  obtain ⟨iI, hiI, hzI0, hzI1, hzI2⟩ := info_parts int_info
  go_enter Try.func37, Try.ntmps37
  go_wp2
  have c2 : (w.alloc (.cells #[.int .i64 first, .slice As steps.length caps, .slice A ws.length cap] 55)).cell? ⟨w.heap.size, 2, none⟩ = some (.slice A ws.length cap) := cell_new w _ 55 2 _ rfl
  obtain ⟨w1, hw1⟩ : ∃ w1, w.alloc (.cells #[.int .i64 first, .slice As steps.length caps, .slice A ws.length cap] 55) = w1 := ⟨_, rfl⟩
  rw [hw1] at HX1 c2 ⊢
  clear hw1
  go_loopw [7, 8] (fun v7 v8 wr => ∃ k : Nat, k ≤ many ∧ v8 = .int .i64 k ∧ Ext w1 wr ∧ Hid (Own wr w1.heap.size 3 1 v7 k (((List.range k).map (sWord ws i many)).map (Value.int .i64)))) (fun _ v8 _ => many - (intOf v8).toNat)
  case atStart => exact ⟨0, by omega, rfl, Ext.refl _, hide (Own.nil _ _ _ _)⟩
  case round =>
    obtain ⟨k, hk, rfl, hE, HO⟩ := hrel
    have hc2 := hE.cell c2
    by_cases h8 : k < many
    · have HSN := hide (sList_snoc ws i many k)
      have HSW := hide (sWord_le HWB.out i many k)
      obtain ⟨A7, c7, rfl, _, _, _⟩ := HO.out.form
      have hsz := hE.size
      by_cases hz : ws.length = 0
      · have hd0 : ¬ 0 < ws.length := by omega
        have hsw : sWord ws i many k = 0 := by unfold sWord; rw [if_pos hz]
        rw [hsw] at HSN
        have HSRC := hide ((Own.lit wr 0 3 1 1 #[.int .i64 0] (Nat.zero_le _) rfl (by simp [maxLen])).src)
        clear hz hsw
        go_wp2_with (
          at_builtin
          refine wpList_app rfl (.tmp 33) (.tmp 35) 29 rfl w1.heap.size 3 iI _ 1 8 Try.underlying29 hiI hzI0 hzI1 hzI2 rfl _ k _ rfl (HO.out.alloc _) _ 1 1 [.int .i64 0] rfl HSRC.out (by simp [Value.oneCell']) (by simp [maxLen]; omega) (by omega) (by simp; omega) ?_
          intro v3 w3 hown3 hb3)
        go_roundw
        case rel => exact ⟨k + 1, by omega, by go_num, (hE.alloc _).step hb3 (Nat.le_refl _), by rw [HSN.out]; exact hide (Own.of_eq hown3 rfl (by rw [List.map_append]; rfl))⟩
        case measure => simp [intOf]; omega
      · have hd0 : 0 < ws.length := by omega
        have hpm : i * many ≤ 1048576 * 1000 := Nat.mul_le_mul hi hm
        obtain ⟨j, hj⟩ : ∃ j, (i * many + k) % ws.length = j := ⟨_, rfl⟩
        obtain ⟨p, hp⟩ : ∃ p, i * many + k = p := ⟨_, rfl⟩
        have HM0 : Hid (IntKind.i64.wrap ((i : Int) * (many : Int)) = (i : Int) * (many : Int)) := hide (by rw [IntKind.wrap_i64, ← Int.natCast_mul]; omega)
        have HM1 : Hid (IntKind.i64.wrap ((i : Int) * (many : Int) + (k : Int)) = (p : Int)) := hide (by rw [IntKind.wrap_i64, ← Int.natCast_mul]; omega)
        have HM3 : Hid ((p : Int).tmod (ws.length : Int) = (j : Int)) := hide (by rw [← hj, hp]; rfl)
        have hjl : j < ws.length := by rw [← hj]; exact Nat.mod_lt _ hd0
        obtain ⟨b, off, y, rfl, _, hck0, HY⟩ := ints_at (HROW.out.ext (HX1.out.trans hE)) hjl
        have hck := hck0
        have hsw : sWord ws i many k = y := by unfold sWord; rw [if_neg hz, hj]; exact HY.out
        rw [hsw] at HSN HSW
        go_wp2_with fail
        apply wp_region_det [19, 20, 21, 22, 23, 24, 25, 26, 27, 28, 29, 30, 31, 32, 9]
          [_, _, _, _, _, _, _, _, _, _, _, _, _, _, _]
        · kernel_rfl
        · decide
        · rfl
        · kernel_rfl
        · decide +kernel
        · kernel_rfl
        · kernel_rfl
        · kernel_rfl
        · repeat
            refine ⟨?_, ?_⟩
            · intro x W hd hR
              simp [Region.binds] at hd
              refine ⟨fun _ K hK => ?_, by intro g b h hn; first | (cases h; done) | (cases h; exact absurd (by simp [hd]) hn)⟩
              simp only [fill, Act.put, List.setIfInBounds_toArray, List.set_cons_succ, List.set_cons_zero, List.getD_cons_zero, List.getD_cons_succ] at hK ⊢
              try simp only [hd] at hK ⊢
              have q2 := hR.cell hc2
              have q3 := hR.cell hck
              have m0 := HM0.out
              have m1 := HM1.out
              have m3 := HM3.out
              go_simp
              exact hK _ _ rfl (Ext.refl _)
          exact trivial
        intro W hR
        simp only [fillL, List.setIfInBounds_toArray, List.set_cons_succ, List.set_cons_zero]
        have hwy : IntKind.i64.wrap y = y := by have := HSW.out; rw [IntKind.wrap_i64]; omega
        rw [hwy]
        have HRR := hide hR
        have hsz2 := (hE.trans hR).size
        have HSRC := hide ((Own.lit W 0 3 1 1 #[.int .i64 y] (Nat.zero_le _) rfl (by simp [maxLen])).src)
        go_wp2_with (
          at_builtin
          refine wpList_app rfl (.tmp 33) (.tmp 35) 29 rfl w1.heap.size 3 iI _ 1 8 Try.underlying29 hiI hzI0 hzI1 hzI2 rfl _ k _ rfl ((HO.out.ext HRR.out).alloc _) _ 1 1 [.int .i64 y] rfl HSRC.out (by simp [Value.oneCell']) (by simp [maxLen]; omega) (by omega) (by simp; omega) ?_
          intro v3 w3 hown3 hb3)
        go_roundw
        case rel => exact ⟨k + 1, by omega, by go_num, ((hE.trans HRR.out).alloc _).step hb3 (Nat.le_refl _), by rw [HSN.out]; exact hide (Own.of_eq hown3 rfl (by rw [List.map_append]; rfl))⟩
        case measure => simp [intOf]; omega
    · obtain rfl : k = many := by omega
      have HI := hide (Own.ints HO.out)
      obtain ⟨A7, c7, rfl, _, _, _⟩ := HO.out.form
      go_wp2
      go_ret
      exact ⟨_, rfl, HI.out, HX1.out.trans hE⟩
end Go.Proofs.Ytjnnkcnnandeeaa
