/- The walk of the reference's Decode. -/
import Derived.Test.YtjnnkcnnandeeaaDecInv
namespace Go.Proofs.Ytjnnkcnnandeeaa
open Go.RowKit
/-- The error of Decode. -/
def decErr (f : Fmt) (n : Nat) : Int := if (chk f).2.2 ≠ 0 then (chk f).2.2 else if 4000 < n then 3 else 0
/-- What Decode hands back. -/
def DecR (f : Fmt) (l : List Nat) (w : World) (e : Ending) (w' : World) : Prop :=
  ∃ lv gv, e = .returned (.tuple #[lv, gv, .int .i64 (decErr f l.length)]) ∧
    (decErr f l.length = 0 → ∃ xs, ds xs = framesOf f l ∧ FrsV w' lv xs ∧ GapsV w' gv (gapsOf f l)) ∧ (decErr f l.length ≠ 0 → lv = .slice none 0 0 ∧ gv = .slice none 0 0) ∧ Ext w w'
theorem gap_info : (Try.prog.info? 64).map (fun i => (i.zero, i.size, i.bytes)) = some (some (.agg #[.int .i64 0, .int .i64 0]), 2, 16) := by kernel_rfl
theorem decErr_chk {f : Fmt} {n : Nat} (h : (chk f).2.2 ≠ 0) : decErr f n = (chk f).2.2 := by unfold decErr; rw [if_pos h]
theorem decErr_long {f : Fmt} {n : Nat} (h : (chk f).2.2 = 0) (hn : 4000 < n) : decErr f n = 3 := by unfold decErr; rw [if_neg (by simpa using h), if_pos hn]
theorem decErr_ok {f : Fmt} {n : Nat} (h : (chk f).2.2 = 0) (hn : ¬ 4000 < n) : decErr f n = 0 := by unfold decErr; rw [if_neg (by simpa using h), if_neg hn]
set_option maxRecDepth 100000 in
set_option maxHeartbeats 2000000 in
/-- ref.Decode -/
theorem refDecode_any (v b : Value) (f : Fmt) (l : List Nat) (w : World) (hv : FmtV w v f) (hb : BytesV w b l) : Calls Try.prog 32 #[v, b] w fun e w' => DecR f l w e w' := by
  have HV := hide hv
  have HB := hide hb
  obtain ⟨_, _, A, cap, rfl, _, _, _⟩ := hv
  obtain ⟨_, A', cap', rfl, hcap', hmax', _⟩ := hb
  have hm' : cap' ≤ 9223372036854775807 := by simpa [maxLen] using hmax'
  have HX0 := hide ((Ext.refl w).alloc (.cells #[.string f.sync, .int .i64 f.words, .int .i64 f.depth, .slice A f.channels.length cap] 28))
  have HVA := hide (valid_any _ f _ (HV.out.ext HX0.out))
  clear hmax'
  by_cases hc : (chk f).2.2 = 0
  · have HCK := hide (chk_ok hc)
    have HC := hide hc
    rw [hc] at HVA
    clear hc
    by_cases hlen : 4000 < l.length
    · have HER := hide (decErr_long HC.out hlen)
      have hd : decide ((4000 : Int) < (l.length : Int)) = true := by simp; omega
      go_enter Try.func32, Try.ntmps32
      go_wp2_with (go_at_call 59; refine Calls.mono HVA.out ?_; rintro e w1 ⟨rfl, hx⟩; have hcc := hx.cells; have HX := hide hx; clear hx)
      go_ret3
      exact ⟨_, _, by rw [HER.out]; rfl, (fun h => by rw [HER.out] at h; cases h), fun _ => ⟨rfl, rfl⟩, HX0.out.trans HX.out⟩
    · have HER := hide (decErr_ok HC.out hlen)
      have hd : decide ((4000 : Int) < (l.length : Int)) = false := by simp; omega
      obtain ⟨iF, hiF, hzF0, hzF1, hzF2⟩ := info_parts frame_info
      obtain ⟨iG, hiG, hzG0, hzG1, hzG2⟩ := info_parts gap_info
      go_enter Try.func32, Try.ntmps32
      go_wp2_with fail
      refine Calls.mono HVA.out ?_
      rintro e w1 ⟨rfl, hx⟩
      have hsz : w.heap.size + 1 ≤ w1.heap.size := by have := hx.size; simpa using this
      obtain ⟨g0, g1, g2, g3⟩ := box4 w _ _ _ _ _ hx
      have HX := hide hx
      clear hx
      go_wp2_with fail
      clear hd
      go_loopw [8, 9, 10] (fun v8 v9 x wr => ∃ (pos : Nat) (pre : List FrX), x = .int .i64 pos ∧ Hid (DecI f l w1.heap.size w1 wr v8 v9 pos pre)) (fun _ _ x _ => l.length - (intOf x).toNat)
      case atStart => exact ⟨0, [], rfl, hide ⟨Own.nil _ _ _ _, Own.nil _ _ _ _, fun x h => absurd h (by simp), fun x h => absurd h (by simp [ds]), by unfold ds; rw [scanAt_zero]; rfl, by omega, by simp, by simp [gapsFrom, ds], Ext.refl _, Nat.le_refl _⟩⟩
      case round =>
        obtain ⟨pos, pre, rfl, HI⟩ := hrel
        have hE := HI.out.ext
        have hg0 := hE.cell g0
        have hg1 := hE.cell g1
        have hg2 := hE.cell g2
        have hg3 := hE.cell g3
        have hple := HI.out.le
        by_cases h8 : pos < l.length
        · have hl4 : l.length ≤ 4000 := by omega
          have HF := hide (found_any _ _ f l pos wr (HV.out.ext (HX0.out.trans (HX.out.trans hE))) (HB.out.ext (HX0.out.trans (HX.out.trans hE))) (by have := HCK.out; omega) (by have := HCK.out; omega) (by have := HCK.out; omega) (by omega) hple)
          go_wp2_with fail
          refine Calls.mono HF.out ?_
          rintro e w2 (⟨hf, xv, rfl, hi2, hk2, hx2⟩ | ⟨hf, rfl, hx2⟩)
          · have HF2 := hide hf
            have HI2 := hide hi2
            have HK2 := hide hk2
            have HX2 := hide hx2
            have hb0 := hx2.cell hg0
            have hb1 := hx2.cell hg1
            have hb2 := hx2.cell hg2
            have hb3 := hx2.cell hg3
            obtain ⟨Ax, cx, rfl, _, _, _⟩ := hi2
            have hI3 := (HI.out.grow hx2).grow ((Ext.refl w2).alloc (.cells #[.int .i64 ((frAt f l pos).pos : Nat), .int .i64 ((frAt f l pos).count : Nat), .slice Ax (frAt f l pos).words.length cx] 59))
            have HI3 := hide hI3
            have hI4 := hI3.grow ((Ext.refl _).alloc (.cells #[.int .i64 ((frAt f l pos).pos : Nat), .int .i64 ((frAt f l pos).count : Nat), .slice Ax (frAt f l pos).words.length cx] 59))
            have HI4 := hide hI4
            have hsrc := (Own.lit (w2.alloc (.cells #[.int .i64 ((frAt f l pos).pos : Nat), .int .i64 ((frAt f l pos).count : Nat), .slice Ax (frAt f l pos).words.length cx] 59)) 0 59 3 1 #[.int .i64 ((frAt f l pos).pos : Nat), .int .i64 ((frAt f l pos).count : Nat), .slice Ax (frAt f l pos).words.length cx] (Nat.zero_le _) rfl (by simp [maxLen])).src
            rw [World.size_alloc] at hsrc
            have HSRC := hide hsrc
            have hkx : ∀ k, (Value.slice Ax (frAt f l pos).words.length cx).ownBlock = some k → w1.heap.size ≤ k ∧ k < ((w2.alloc (.cells #[.int .i64 ((frAt f l pos).pos : Nat), .int .i64 ((frAt f l pos).count : Nat), .slice Ax (frAt f l pos).words.length cx] 59)).alloc (.cells #[.int .i64 ((frAt f l pos).pos : Nat), .int .i64 ((frAt f l pos).count : Nat), .slice Ax (frAt f l pos).words.length cx] 59)).heap.size ∧ u8.ownBlock ≠ some k ∧ u9.ownBlock ≠ some k := fun k hk => by
              have h1 := HK2.out k hk
              have h2 := HI.out.size
              refine ⟨by omega, by simp; omega, fun e => ?_, fun e => ?_⟩
              · have := (HI.out.ownL.block k e).2; omega
              · have := (HI.out.ownG.block k e).2; omega
            have HKX := hide hkx
            clear hkx
            clear hsrc
            have hsz2 := hI4.size
            have hfew := hI4.few
            have G0 := hide g0
            have G1 := hide g1
            have G2 := hide g2
            have G3 := hide g3
            clear hf hk2 hg0 hg1 hg2 hg3 g0 g1 g2 g3 hI3 hI4
            unfold frV
            go_wp2_with (
              at_builtin
              refine wpList_append rfl (.tmp 37) (.tmp 39) 46 rfl w1.heap.size 59 iF _ 3 40 Try.underlying46 hiF hzF0 hzF1 hzF2 rfl _ pre.length _ rfl HI4.out.ownL _ 1 1 (FrX.cells (frAt f l pos, .slice Ax (frAt f l pos).words.length cx)) rfl HSRC.out (by simp [FrX.cells, Value.oneCell']) (by simp [maxLen]; omega) (by omega) hsz2 ?_
              intro v3 w3 hown3 hg3 hv3
              have hI5 := HI4.out.hit (Nat.le_refl _) HF2.out ((HI2.out.ext ((Ext.refl _).alloc _)).ext ((Ext.refl _).alloc _)) (fun k hk => HKX.out k hk) hown3 hg3 hv3
              have hE5 := hI5.ext
              have c0 := hE5.cell G0.out
              have c1 := hE5.cell G1.out
              have c2 := hE5.cell G2.out
              have c3 := hE5.cell G3.out
              have HI5 := hide hI5
              clear hown3 hg3 hv3 hI5 hE5)
            have hzb : sizeF f ≤ 100 := by have := HCK.out; unfold sizeF bodyF; omega
            have hzp : 0 < sizeF f := by unfold sizeF; omega
            refine (length_any _ f w3 (HV.out.ext (HX0.out.trans (HX.out.trans HI5.out.ext))) (by have := HCK.out; omega) (by have := HCK.out; omega) (by have := HCK.out; omega)).mono ?_
            rintro e w4 ⟨rfl, hx4⟩
            have HX4 := hide hx4
            clear hx4
            have HLE5 := hide HI5.out.le
            generalize hsz : sizeF f = z at *
            have HSZ := hide hsz
            clear hsz
            go_wp2_with fail
            go_roundw
            case rel => exact ⟨pos + z, pre ++ [(frAt f l pos, .slice Ax (frAt f l pos).words.length cx)], by go_num, by rw [← HSZ.out]; rw [← HSZ.out] at HI5; exact hide (HI5.out.grow HX4.out)⟩
            case measure => simp [intOf]; have := HLE5.out; omega
          · have HF2 := hide hf
            have HX2 := hide hx2
            have hI3 := (HI.out.grow hx2).grow ((Ext.refl w2).alloc (.cells #[.int .i64 0, .int .i64 0, .slice none 0 0] 59))
            have HI3 := hide hI3
            have hends : lastEnd (sizeF f) 0 (ds pre) ≤ pos := lastEnd_le _ 0 (Nat.zero_le _) HI.out.ends
            have G0 := hide g0
            have G1 := hide g1
            have G2 := hide g2
            have G3 := hide g3
            clear hf hx2 hg0 hg1 hg2 hg3 g0 g1 g2 g3
            by_cases hle : lastEnd (sizeF f) 0 (ds pre) < pos
            · obtain ⟨gs, e1, e2⟩ := gaps_more (size := sizeF f) (ds pre) hle
              have hown := hI3.ownG
              have hmore : ∀ (g cap : Nat) (hv : u9 = .slice (some ⟨g, 0, none⟩) (gapsFrom (sizeF f) pos 0 (ds pre)).length cap), _ := fun g cap hv => hI3.more (Nat.le_refl _) h8 HF2.out hle hv
              rw [e1] at hown hmore
              have hfewG := hI3.fewG
              rw [e1] at hfewG
              simp only [List.length_append, List.length_cons, List.length_nil, Nat.zero_add, Nat.add_sub_cancel] at hown hmore hfewG
              rcases hown.2 with ⟨_, h0⟩ | ⟨g, cap9, cur, lo, hi', rfl, hb9, _⟩
              · omega
              have hcell := hown.wcell (i := gs.length * 2 + 1) (u := .int .i64 (pos : Nat)) (by
                rw [List.flatMap_append, List.getElem?_append_right (by rw [gapC_len]; omega), gapC_len, show gs.length * 2 + 1 - gs.length * 2 = 1 by omega]; rfl)
              have hfro := hown.wfrozen (i := gs.length * 2 + 1) (by omega)
              have HMORE := hide (hmore g cap9 rfl)
              clear hown hmore hI3 hle e1 e2 hends
              generalize gs.length = m at *
              go_wp2_with fail
              go_roundw
              case rel => exact ⟨pos + 1, pre, by go_num, hide HMORE.out⟩
              case measure => simp [intOf]; omega
            · have heq : lastEnd (sizeF f) 0 (ds pre) = pos := by omega
              obtain ⟨hne, e2⟩ := gaps_new (size := sizeF f) (ds pre) (by unfold sizeF; omega) heq HI.out.ends
              have hI4 := hI3.grow ((Ext.refl _).alloc (.cells #[.int .i64 (pos : Nat), .int .i64 ((pos : Nat) + 1 : Int)] 64))
              have HI4 := hide hI4
              have hsrc := (Own.lit (w2.alloc (.cells #[.int .i64 0, .int .i64 0, .slice none 0 0] 59)) 0 64 2 1 #[.int .i64 (pos : Nat), .int .i64 ((pos : Nat) + 1 : Int)] (Nat.zero_le _) rfl (by simp [maxLen])).src
              rw [World.size_alloc] at hsrc
              have HSRC := hide hsrc
              have hsz2 := hI4.size
              have hfew := hI4.fewG
              have HEQ := hide heq
              by_cases hg0 : (gapsFrom (sizeF f) pos 0 (ds pre)).length = 0
              · obtain ⟨A9, cap9, rfl, _, _, _⟩ := hI3.ownG.form
                have HG0 := hide hg0
                clear hsrc hI4 hI3 hle heq hne e2 hends
                generalize hgl : (gapsFrom (sizeF f) pos 0 (ds pre)).length = m at *
                have HGL := hide hgl
                clear hgl
                have hm0 : decide (0 < m) = false := by have := HG0.out; simp; omega
                clear hg0
                go_wp2_with (
                  at_builtin
                  refine wpList_append rfl (.tmp 67) (.tmp 72) 47 rfl w1.heap.size 64 iG _ 2 16 Try.underlying47 hiG hzG0 hzG1 hzG2 rfl _ m _ rfl (HGL.out ▸ HI4.out.ownG) _ 1 1 (gapC (pos, pos + 1)) rfl HSRC.out (by simp [gapC, Value.oneCell']) (by simp [maxLen]; omega) (by omega) hsz2 ?_
                  intro v3 w3 hown3 hg3 hv3
                  have hI5 := HI4.out.fresh (Nat.le_refl _) h8 HF2.out HEQ.out (HGL.out ▸ hown3) hg3 hv3
                  have HI5 := hide hI5
                  clear hown3 hg3 hv3 hI5)
                go_roundw
                case rel => exact ⟨pos + 1, pre, by go_num, HI5⟩
                case measure => simp [intOf]; omega
              · obtain ⟨m, hm⟩ : ∃ m, (gapsFrom (sizeF f) pos 0 (ds pre)).length = m + 1 := ⟨(gapsFrom (sizeF f) pos 0 (ds pre)).length - 1, by omega⟩
                have hown := hI3.ownG
                rcases hown.2 with ⟨_, h0⟩ | ⟨g, cap9, cur, lo, hi', rfl, hb9, _⟩
                · omega
                have hcell := hown.wcell (gapC_at (gapsFrom (sizeF f) pos 0 (ds pre)) m 1 (by omega) (by omega))
                rw [if_neg (by decide)] at hcell
                have hnp : ((gapsFrom (sizeF f) pos 0 (ds pre)).getD m (0, 0)).2 ≠ pos := hne _ (by
                  rw [List.getD_eq_getElem?_getD, List.getElem?_eq_getElem (by omega), Option.getD_some]; exact List.getElem_mem _)
                generalize ((gapsFrom (sizeF f) pos 0 (ds pre)).getD m (0, 0)).2 = unt at *
                have hub : ((unt : Int) == (pos : Int)) = false := by simp; omega
                have HGL := hide hm
                rw [hm] at hown hfew
                clear hsrc hI4 hI3 hle heq hne e2 hends hg0 hown
                rw [hm]
                clear hm
                go_wp2_with (
                  at_builtin
                  refine wpList_append rfl (.tmp 67) (.tmp 72) 47 rfl w1.heap.size 64 iG _ 2 16 Try.underlying47 hiG hzG0 hzG1 hzG2 rfl _ (m + 1) _ rfl (HGL.out ▸ HI4.out.ownG) _ 1 1 (gapC (pos, pos + 1)) rfl HSRC.out (by simp [gapC, Value.oneCell']) (by simp [maxLen]; omega) (by omega) hsz2 ?_
                  intro v3 w3 hown3 hg3 hv3
                  have hI5 := HI4.out.fresh (Nat.le_refl _) h8 HF2.out HEQ.out (HGL.out ▸ hown3) hg3 hv3
                  have HI5 := hide hI5
                  clear hown3 hg3 hv3 hI5)
                go_roundw
                case rel => exact ⟨pos + 1, pre, by go_num, HI5⟩
                case measure => simp [intOf]; omega
        · obtain rfl : pos = l.length := by omega
          go_wp2_with fail
          go_ret3
          have hrest := HI.out.rest
          rw [scanAt_end, List.append_nil] at hrest
          refine ⟨_, _, by rw [HER.out]; rfl, fun _ => ⟨pre, hrest, Own.frs HI.out.ownL (fun x hx => (HI.out.words x hx).1), ?_⟩, (fun h => absurd HER.out h), (HX0.out.trans HX.out).trans hE⟩
          have hgp := Own.gaps HI.out.ownG
          rw [hrest] at hgp
          exact hgp
  · have hcb : ((chk f).2.2 == 0) = false := by simpa using hc
    have hcn : ((chk f).2.2 != 0) = true := by simpa using hc
    have HER := hide (decErr_chk (n := l.length) hc)
    have HC := hide hc
    clear hc
    go_enter Try.func32, Try.ntmps32
    go_wp2_with (go_at_call 59; refine Calls.mono HVA.out ?_; rintro e w1 ⟨rfl, hx⟩; have hcc := hx.cells; have HX := hide hx; clear hx)
    go_ret3
    exact ⟨_, _, by rw [HER.out]; rfl, fun h => absurd (by rw [← HER.out]; exact h) HC.out, fun _ => ⟨rfl, rfl⟩, HX0.out.trans HX.out⟩
end Go.Proofs.Ytjnnkcnnandeeaa
