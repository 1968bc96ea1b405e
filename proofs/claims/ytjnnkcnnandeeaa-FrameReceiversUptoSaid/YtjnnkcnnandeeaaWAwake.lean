/- The walk of Awake: some calls return what the document says of them. -/
import Derived.Test.YtjnnkcnnandeeaaWNumbers

namespace Go.Proofs.Ytjnnkcnnandeeaa
open Go.RowKit
def exF : Fmt := ⟨⟨#[65]⟩, 1, 2, [⟨⟨#[97]⟩, 0, 2, 0⟩, ⟨⟨#[98]⟩, 0, 2, 1⟩]⟩
def exB : List Nat := [65, 1, 1, 2, 184, 171]
theorem ex_enc : encErr exF 1 [258] = 0 := by decide +kernel
theorem ex_encOf : encOf exF 1 [258] = exB := by decide +kernel
theorem ex_neg : encErr exF (-1) [] = 7 := by decide +kernel
theorem ex_num : numErr exF exB 0 = 0 := by decide +kernel
theorem ex_nums : numsOf exF exB 0 = [1] := by decide +kernel
theorem ex_sum : crc [49, 50, 51, 52, 53, 54, 55, 56, 57] = 10673 := by decide +kernel
set_option maxRecDepth 100000 in
set_option maxHeartbeats 400000 in
/-- law.second -/
theorem second_any (w : World) : Calls Try.prog 52 #[] w fun e w' => ∃ A, e = .returned (.slice A 6 6) ∧ BytesV w' (.slice A 6 6) exB ∧ Ext w w' := by
  go_enter Try.func52, Try.ntmps52
  go_wp2
  go_ret
  refine ⟨_, rfl, ?_, (Ext.refl _).alloc _⟩
  exact Own.bytes (l := exB) (Own.lit w w.heap.size 5 1 6 _ (Nat.le_refl _) rfl (by simp [maxLen])) (by decide)
set_option maxRecDepth 100000 in
set_option maxHeartbeats 400000 in
/-- law.Example -/
theorem example_any (w : World) : Calls Try.prog 50 #[] w fun e w' => ∃ A, e = .returned (.agg #[.string ⟨#[65]⟩, .int .i64 1, .int .i64 2, .slice A 2 2]) ∧ FmtV w' (.agg #[.string ⟨#[65]⟩, .int .i64 1, .int .i64 2, .slice A 2 2]) exF ∧ Ext w w' := by
  go_enter Try.func50, Try.ntmps50
  go_wp2
  refine bodyPost_ret (v := .agg #[.string ⟨#[65]⟩, .int .i64 1, .int .i64 2, .slice (some ⟨w.heap.size + 1, 0, none⟩) 2 2]) (by simp [results, Try.results50, go_sem]) rfl ⟨_, rfl, ?_, ?_⟩
  · refine ⟨by decide, by decide, _, 2, rfl, by decide, by simp [maxLen], fun _ => ⟨_, 0, rfl, by simp, ?_⟩⟩
    intro i f hi hf
    have hi2 : i < 2 := hi
    have hcn := fun k v h => cell_new (w.alloc (.cells #[.string ⟨#[65]⟩, .int .i64 1, .int .i64 2, .slice (some ⟨w.heap.size + 1, 0, none⟩) 2 2] 28)) #[.string ⟨#[97]⟩, .int .i64 0, .int .i64 2, .int .i64 0, .string ⟨#[98]⟩, .int .i64 0, .int .i64 2, .int .i64 1] 83 k v h
    rw [World.size_alloc] at hcn
    rcases (by omega : i = 0 ∨ i = 1) with rfl | rfl <;> rcases (by omega : f = 0 ∨ f = 1 ∨ f = 2 ∨ f = 3) with rfl | rfl | rfl | rfl <;> exact hcn _ _ rfl
  · exact ((Ext.refl _).alloc _).alloc _
/-- '[]byte' to string. -/
theorem conv_v {P : Program} (w : World) (src e : TypeId) (hs : P.underlying src = some (.slice e)) (he : P.underlying e = some (.int .u8)) {dst : TypeId} (hd : P.underlying dst = some .string) {v : Value} {l : List Nat} (h : BytesV w v l) :
    (convert src dst v).run P w = .ok (.string (strOf l)) w := by
  obtain ⟨_, A, cap, rfl, _, _, hr⟩ := h
  by_cases hl : 0 < l.length
  · obtain ⟨b, off, rfl, _, hc⟩ := hr hl
    exact conv_string w src e hs he hd (l := l) hc rfl
  · have : l = [] := List.eq_nil_of_length_eq_zero (by omega)
    subst this
    have h0 : (convert src dst (.slice A 0 cap)).run P w = .ok (.string ByteArray.empty) w := by
      rw [run_convert_bytes_string w src dst e _ 0 cap hs he hd]
      cases A <;> simp [Conv.bytesToString, loadCells]
      all_goals rfl
    exact h0
/-- What the operations of the last test leave. -/
def AwV (sb : ByteArray) (r2 r5 : Value) (base : Nat) : Nat → Value → World → Prop
  | 0, v, _ => v = .int .i64 0
  | 3, v, _ => v = .int .i64 0
  | 7, v, _ => v = .int .i64 7
  | 11, v, _ => v = r2
  | 12, v, _ => v = .string sb
  | 13, v, w => ∃ A, v = .slice A 6 6 ∧ BytesV w (.slice A 6 6) exB
  | 14, v, _ => v = .string sb
  | 18, v, _ => v = r5
  | 19, v, w => ∃ A, v = .slice A 1 1 ∧ IntsV w .i64 (.slice A 1 1) [1]
  | 23, v, w => ∃ b, v = .slice (some ⟨b, 0, none⟩) 9 9 ∧ base ≤ b ∧ BytesV w (.slice (some ⟨b, 0, none⟩) 9 9) [49, 50, 51, 52, 53, 54, 55, 56, 57]
  | 24, v, w => ∃ b, v = .slice (some ⟨b, 0, none⟩) 9 9 ∧ base ≤ b ∧ BytesV w (.slice (some ⟨b, 0, none⟩) 9 9) [49, 50, 51, 52, 53, 54, 55, 56, 57]
  | 25, v, _ => v = .int .i64 10673
  | _, v, _ => v = .bool true
theorem AwV.mono {sb : ByteArray} {r2 r5 : Value} {base j : Nat} {v : Value} {A B : World} (h : AwV sb r2 r5 base j v A) (k : Grow base A B) : AwV sb r2 r5 base j v B := by
  unfold AwV at h ⊢
  split at h
  all_goals first
    | exact h
    | (obtain ⟨A, e, hb⟩ := h; exact ⟨A, e, hb.cext k.c⟩)
    | (obtain ⟨b, e, h1, hb⟩ := h; exact ⟨b, e, h1, hb.cext k.c⟩)
set_option maxRecDepth 100000 in
set_option maxHeartbeats 1000000 in
/-- law.Awake -/
theorem awake_any (w : World) : Calls Try.prog 21 #[] w fun e w' => e = .returned (.bool true) ∧ Ext w w' := by
  have henc := fun W A cap A1 (hf : FmtV W (.agg #[.string ⟨#[65]⟩, .int .i64 1, .int .i64 2, .slice A1 2 2]) exF) (hi : IntsV W .i64 (.slice A 1 cap) [258]) => encode_any _ _ exF 1 [258] W hf hi
  rw [ex_enc, ex_encOf] at henc
  have hneg := fun W A1 (hf : FmtV W (.agg #[.string ⟨#[65]⟩, .int .i64 1, .int .i64 2, .slice A1 2 2]) exF) => encode_any _ _ exF (-1) [] W hf (IntsV.nil W .i64)
  rw [ex_neg] at hneg
  have hnum := fun W A cap A1 (hf : FmtV W (.agg #[.string ⟨#[65]⟩, .int .i64 1, .int .i64 2, .slice A1 2 2]) exF) (hb : BytesV W (.slice A 6 cap) exB) => numbers_any _ _ exF exB 0 W hf hb
  rw [ex_num, ex_nums] at hnum
  have HENC := hide henc
  have HNEG := hide hneg
  have HNUM := hide hnum
  clear henc hneg hnum
  go_enter Try.func21, Try.ntmps21
  go_wp2_with fail
  refine (example_any _).mono ?_
  rintro e w1 ⟨A1, rfl, hf1, hx1⟩
  have HF1 := hide hf1
  clear hf1
  go_wp2_with fail
  have hx1' := hx1.alloc (.cells #[.int .i64 258] 3)
  refine (HENC.out _ _ _ _ (HF1.out.ext ((Ext.refl _).alloc _)) (Own.ints (Own.lit w1 0 3 1 1 _ (Nat.zero_le _) rfl (by simp [maxLen])))).mono ?_
  rintro e w2 ⟨r2, rfl, hb2, hx2⟩
  have hX2 := hx1'.trans hx2
  have HB2 := hide hb2
  clear hb2 hx1' hx2 hx1
  go_wp2_with fail
  refine (example_any _).mono ?_
  rintro e w3 ⟨A3, rfl, hf3, hx3⟩
  have HF3 := hide hf3
  clear hf3
  go_wp2_with fail
  refine (second_any _).mono ?_
  rintro e w4 ⟨A4, rfl, hb4, hx4⟩
  have HB4 := hide hb4
  clear hb4
  go_wp2_with fail
  refine (HNUM.out _ _ _ _ (HF3.out.ext hx4) HB4.out).mono ?_
  rintro e w5 ⟨r5, rfl, hi5, hx5⟩
  have hX5 := ((hX2.trans hx3).trans hx4).trans hx5
  have HB5 := hide (HB2.out.ext ((hx3.trans hx4).trans hx5))
  have HI5 := hide hi5
  clear hi5 hx3 hx4 hx5 hX2
  go_wp2_with fail
  refine (example_any _).mono ?_
  rintro e w6 ⟨A6, rfl, hf6, hx6⟩
  have HF6 := hide hf6
  clear hf6
  go_wp2_with fail
  refine (HNEG.out _ _ HF6.out).mono ?_
  rintro e w7 ⟨r7, rfl, hb7, hx7⟩
  have hX7 := (hX5.trans hx6).trans hx7
  have HB7 := hide (HB5.out.ext (hx6.trans hx7))
  have HI7 := hide (HI5.out.ext (hx6.trans hx7))
  clear hb7 hx6 hx7 hX5
  go_wp2_with fail
  have hints : ∀ W A, CExt w7 W → IntsV W .i64 (.slice A 1 1) [1] → Calls Try.prog 24 #[r5, .slice A 1 1] W fun e w' => e = .returned (.bool true) ∧ Ext W w' := fun W A hx hi => ints_any _ _ [1] [1] W (HI7.out.cext hx) hi
  have hsum : ∀ W A, BytesV W (.slice A 9 9) [49, 50, 51, 52, 53, 54, 55, 56, 57] → Calls Try.prog 19 #[.slice A 9 9] W fun e w' => e = .returned (.int .i64 10673) ∧ W = w' := fun W A hb => by
    have := sum_any _ _ W hb
    rw [ex_sum] at this
    exact this
  have hl1 : ∀ W : World, IntsV (W.alloc (.cells #[.int .i64 1] 3)) .i64 (.slice (some ⟨W.heap.size, 0, none⟩) 1 1) [1] := fun W => Own.ints (Own.lit W 0 3 1 1 _ (Nat.zero_le _) rfl (by simp [maxLen]))
  have hl9 : ∀ W : World, BytesV (W.alloc (.cells #[.int .u8 49, .int .u8 50, .int .u8 51, .int .u8 52, .int .u8 53, .int .u8 54, .int .u8 55, .int .u8 56, .int .u8 57] 5)) (.slice (some ⟨W.heap.size, 0, none⟩) 9 9) [49, 50, 51, 52, 53, 54, 55, 56, 57] := fun W => Own.bytes (l := [49, 50, 51, 52, 53, 54, 55, 56, 57]) (Own.lit W 0 5 1 9 _ (Nat.zero_le _) rfl (by simp [maxLen])) (by decide)
  have HINTS := hide hints
  have HSUM := hide hsum
  have HL1 := hide hl1
  have HL9 := hide hl9
  have HSEC := hide second_any
  obtain ⟨sb, HSB⟩ : ∃ sb, Hid (strOf exB = sb) := ⟨_, rfl⟩
  clear hints hsum hl1 hl9
  refine wp_region_vals (by kernel_rfl) (fun j => if j = 28 then 0 else j + 25) (AwV sb r2 r5 w7.heap.size) [25, 26, 27, 28, 29, 30, 31, 32, 33, 34, 35, 36, 37, 38, 39, 40, 41, 42, 43, 44, 45, 46, 47, 48, 49, 50, 51, 52, 0] (by decide) (by kernel_rfl) (by decide +kernel) (by kernel_rfl) (by kernel_rfl) (by kernel_rfl)
    (Grow w7.heap.size) (Grow.of_ext ((Ext.refl w7).drew) (Nat.le_refl _)) (fun _ _ _ h k => h.trans k) (fun j v A B h k => AwV.mono h k) ?_ ?_
  · refine ⟨?_, ?_, ?_, ?_, ?_, ?_, ?_, ?_, ?_, ?_, ?_, ?_, ?_, ?_, ?_, ?_, ?_, ?_, ?_, ?_, ?_, ?_, ?_, ?_, ?_, ?_, ?_, ?_, ?_, trivial⟩
    all_goals
      intro x W hd hR
      simp [Region.binds, AwV] at hd
      refine ⟨fun _ K hK => ?_, by intro g b h hn; first | (cases h; done) | (cases h; exact absurd (by simp [hd]) hn)⟩
      simp only [fill, Act.put, List.setIfInBounds_toArray, List.set_cons_succ, List.set_cons_zero, AwV] at hK ⊢
      try simp only [hd] at hK ⊢
      go_simp
      try exact hK _ _ rfl (Grow.refl _ _)
    · have e := conv_v W 22 5 Try.underlying22 Try.underlying5 Try.underlying9 (HB7.out.cext hR.c)
      rw [HSB.out] at e
      simp only [e, go_sem]
      exact hK _ _ rfl (Grow.refl _ _)
    · refine (HSEC.out W).mono ?_
      rintro e w8 ⟨A8, rfl, hb8, hx8⟩
      exact hK _ _ ⟨A8, rfl, hb8⟩ (Grow.of_ext hx8 hR.c.size)
    · obtain ⟨⟨A, hA, hb⟩, _⟩ := hd
      have e := conv_v W 22 5 Try.underlying22 Try.underlying5 Try.underlying9 hb
      rw [HSB.out] at e
      simp only [hA] at hK ⊢
      simp only [e, go_sem]
      exact hK _ _ rfl (Grow.refl _ _)
    · exact hK _ _ ⟨_, rfl, HL1.out W⟩ (Grow.of_ext ((Ext.refl W).alloc _) hR.c.size)
    · obtain ⟨_, ⟨A, hA, hb⟩, _⟩ := hd
      simp only [hA] at hK ⊢
      refine (HINTS.out W A hR.c hb).mono ?_
      rintro e w8 ⟨rfl, hx8⟩
      exact hK _ _ rfl (Grow.of_ext hx8 hR.c.size)
    · exact hK _ _ ⟨_, rfl, hR.c.size, HL9.out W⟩ (Grow.of_ext ((Ext.refl W).alloc _) hR.c.size)
    · obtain ⟨⟨b, hA, hb1, hb⟩, _⟩ := hd
      obtain ⟨W', e, hG⟩ := conv_self (P := Try.prog) (base := w7.heap.size) W 22 5 ⟨b, 0, none⟩ 9 9 Try.underlying22 Try.underlying5 hb1
      simp only [hA] at hK ⊢
      simp only [e, go_sem]
      exact hK _ _ ⟨b, rfl, hb1, hb.cext hG.c⟩ hG
    · obtain ⟨⟨b, hA, hb1, hb⟩, _⟩ := hd
      simp only [hA] at hK ⊢
      refine (HSUM.out W _ hb).mono ?_
      rintro e w8 ⟨rfl, rfl⟩
      exact hK _ _ rfl (Grow.refl _ _)
  · intro x W hv hR
    have h0 : x 0 = .bool true := hv 28 (by decide)
    simp only [fill, List.setIfInBounds_toArray, List.set_cons_succ, List.set_cons_zero, h0]
    go_wp2
    go_ret
    exact ⟨rfl, hX7.trans hR.below⟩
end Go.Proofs.Ytjnnkcnnandeeaa
