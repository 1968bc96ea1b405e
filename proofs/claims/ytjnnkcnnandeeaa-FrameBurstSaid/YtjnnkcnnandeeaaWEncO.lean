/- The walks of frame.bytes and Encode once more: the bytes that Encode returns are its caller's own. -/
import Derived.Test.YtjnnkcnnandeeaaWTape
namespace Go.Proofs.Ytjnnkcnnandeeaa
open Go.RowKit
set_option maxRecDepth 100000 in
set_option maxHeartbeats 1000000 in
/-- frame.bytes, its result the call's own -/
theorem bytes_own (v u : Value) (f : Fmt) (n : Int) (l : List Int) (w : World) (hv : FmtV w v f) (hu : IntsV w .i64 u l) (hn0 : 0 ≤ n) (hw : ∀ x ∈ l, 0 ≤ x ∧ x ≤ 65535) (hl : l.length ≤ 1000) (hs4 : f.sync.size ≤ 1000) :
    Calls Try.prog 64 #[v, .int .i64 n, u] w fun e w' => ∃ r, e = .returned r ∧ Own w' w.heap.size 5 1 r (frameOf f n l).length ((frameOf f n l).map byteV) ∧ Ext w w' := by
  obtain ⟨hs, _, A, cap, rfl, hcap, hmax, hrow⟩ := hv
  obtain ⟨A', cap', rfl, hcap', hmax', hrow'⟩ := hu
  obtain ⟨i0, hi, hz0, hz1, hz2⟩ := info_parts u8_info
  have hm' : cap' ≤ 9223372036854775807 := by simpa [maxLen] using hmax'
  obtain ⟨A1, cap1, w1, hcv, hx1, ho1⟩ := conv_bytes (P := Try.prog) (w.alloc (.cells #[.string f.sync, .int .i64 f.words, .int .i64 f.depth, .slice A f.channels.length cap] 28)) 9 22 5 f.sync Try.underlying9 Try.underlying22 Try.underlying5 (by simp [maxLen]; omega)
  have hxa : Ext w w1 := ((Ext.refl w).alloc _).trans hx1
  have hsz : w.heap.size + 1 ≤ w1.heap.size := by have := hx1.size; simpa using this
  have ho1' : Own w1 (w.heap.size + 1) 5 1 (.slice A1 f.sync.size cap1) f.sync.size ((syncOf f).map byteV) := by
    refine Own.of_eq (ho1.mono (by simp)) rfl ?_
    unfold syncOf
    rw [List.map_map]; rfl
  clear ho1 hx1 hrow hmax hmax'
  go_enter Try.func64, Try.ntmps64
  go_wp2_with (
    at_builtin
    refine wpList_app rfl (.tmp 12) (.tmp 15) 22 rfl (w.heap.size + 1) 5 i0 _ 1 1 Try.underlying22 hi hz0 hz1 hz2 rfl (.slice A1 f.sync.size cap1) f.sync.size ((syncOf f).map byteV) rfl (ho1'.alloc _) _ 1 1 ([(n % 256).toNat].map byteV) rfl (own_byte w1 0 n hn0 (by omega)) (byteV_one _) (by simp [maxLen]; omega) (by omega) (by simp; omega) ?_
    intro v2 w2 hown2 hb2)
  have hxb : Ext w w2 := ⟨hb2.os.trans hxa.os, hb2.tape.trans hxa.tape, hb2.output.trans hxa.output, by have := hb2.size; simp at this; omega, fun k hk => (hb2.block k (by omega)).trans ((Below.heap_alloc w1 _ k (by omega)).trans (hxa.block k hk))⟩
  have hsz2 : w.heap.size + 1 ≤ w2.heap.size := by have := hb2.size; simp at this; omega
  clear hb2 ho1' hcv hxa
  go_loopw [7, 19] (fun r i wr => Ext w wr ∧ w.heap.size + 1 ≤ wr.heap.size ∧ ∃ k : Nat, k ≤ l.length ∧ i = .int .i64 k ∧ Own wr (w.heap.size + 1) 5 1 r (bodyLen f k) ((bodyOf f n (l.take k)).map byteV)) (fun _ i _ => l.length - (intOf i).toNat)
  case atStart => exact ⟨hxb, hsz2, 0, by omega, rfl, Own.of_eq hown2 (by simp [bodyLen]) (by simp [bodyOf, wordsOf])⟩
  case round =>
    obtain ⟨hext, hsz3, k, hk, rfl, hown⟩ := hrel
    clear hown2
    by_cases h8 : k < l.length
    · obtain ⟨b, off, x, rfl, _, hck, HX⟩ := ints_at (hrow'.ext hext) h8
      have hx := hw (l.getD k 0) (by rw [List.getD_eq_getElem?_getD, List.getElem?_eq_getElem h8]; exact List.getElem_mem _)
      rw [HX.out] at hx
      obtain ⟨xn, rfl⟩ := Int.eq_ofNat_of_zero_le hx.1
      have hxn : xn < 65536 := by omega
      have HW := hide hw
      have HR := hide hrow'
      have hbl : bodyLen f k ≤ 3001 := by unfold bodyLen; omega
      clear hw hrow'
      go_wp2_with fail
      refine (pair_any xn _ hxn).mono ?_
      rintro e w3 ⟨A3, rfl, ho3, hx3⟩
      have hown' := hown.ext hx3
      have hext' := hext.trans hx3
      have hsz4 : w.heap.size + 1 ≤ w3.heap.size := Nat.le_trans hsz3 hx3.size
      clear hown
      go_wp2_with (
        at_builtin
        refine wpList_app rfl (.tmp 23) (.tmp 25) 22 rfl (w.heap.size + 1) 5 i0 _ 1 1 Try.underlying22 hi hz0 hz1 hz2 rfl _ (bodyLen f k) _ rfl hown' A3 2 2 ((pairOf xn).map byteV) rfl ho3.src (byteV_one _) (by simp [maxLen]; omega) (by omega) hsz4 ?_
        intro v4 w4 hown4 hb4)
      go_roundw
      case rel =>
        refine ⟨hext'.step hb4 (by omega), Nat.le_trans hsz4 hb4.size, k + 1, by omega, by go_num, Own.of_eq hown4 (by unfold bodyLen; omega) ?_⟩
        rw [← List.map_append]
        congr 1
        unfold bodyOf
        rw [wordsOf_take l k h8, HX.out, Int.toNat_natCast, List.append_assoc]
      case measure => simp [intOf]; omega
    · obtain rfl : k = l.length := by omega
      have hbt := bodyOf_lt f n l hw
      have HB := hide hbt
      have ht : l.take l.length = l := List.take_length
      rw [ht] at hown
      have hlt := crc_lt _ hbt
      have HFr := hide (show frameOf f n l = bodyOf f n l ++ pairOf (crc (bodyOf f n l)) from rfl)
      have hbl : bodyLen f l.length ≤ 3001 := by unfold bodyLen; omega
      have hby := Own.bytes hown hbt
      clear hbt ht
      go_wp2_with fail
      refine (sum_any _ _ _ hby).mono ?_
      rintro e w3 ⟨rfl, rfl⟩
      generalize crc (bodyOf f n l) = cs at *
      go_wp2_with fail
      refine (pair_any cs _ hlt).mono ?_
      rintro e w3 ⟨A3, rfl, ho3, hx3⟩
      have hown' := hown.ext hx3
      have hext' := hext.trans hx3
      have hsz4 : w.heap.size + 1 ≤ w3.heap.size := Nat.le_trans hsz3 hx3.size
      clear hown hby
      go_wp2_with (
        at_builtin
        refine wpList_app rfl (.tmp 28) (.tmp 31) 22 rfl (w.heap.size + 1) 5 i0 _ 1 1 Try.underlying22 hi hz0 hz1 hz2 rfl _ (bodyLen f l.length) _ rfl hown' A3 2 2 ((pairOf cs).map byteV) rfl ho3.src (byteV_one _) (by simp [maxLen]; omega) (by omega) hsz4 ?_
        intro v4 w4 hown4 hb4)
      go_ret
      refine ⟨_, rfl, ?_, hext'.step hb4 (by omega)⟩
      rw [← List.map_append] at hown4
      rw [HFr.out]
      have hle : (bodyOf f n l ++ pairOf cs).length = bodyLen f l.length + 2 := by have := hown4.1; simpa using this
      exact Own.of_eq (hown4.mono (by omega)) hle.symm rfl
theorem encErr_parts {f : Fmt} {n : Int} {l : List Int} (h : encErr f n l = 0) : askErr f n = 0 ∧ (l.length : Int) = f.words ∧ badB l = false := by
  unfold encErr at h
  by_cases ha : askErr f n = 0
  · rw [if_neg (by simpa using ha)] at h
    by_cases hl : (l.length : Int) = f.words
    · rw [if_neg (by simpa using hl)] at h
      by_cases hb : badB l = true
      · rw [if_pos hb] at h; cases h
      · exact ⟨ha, hl, by simpa using hb⟩
    · rw [if_pos hl] at h; cases h
  · rw [if_pos ha] at h; exact absurd h ha
set_option maxRecDepth 100000 in
set_option maxHeartbeats 1000000 in
/-- frame.Encode, its result the call's own -/
theorem encode_own (v u : Value) (f : Fmt) (n : Int) (l : List Int) (w : World) (hv : FmtV w v f) (hu : IntsV w .i64 u l) (he : encErr f n l = 0) :
    Calls Try.prog 25 #[v, .int .i64 n, u] w fun e w' => ∃ r, e = .returned (.tuple #[r, .int .i64 0]) ∧ Own w' w.heap.size 5 1 r (frameOf f n l).length ((frameOf f n l).map byteV) ∧ Ext w w' := by
  obtain ⟨ha, hl, hbad⟩ := encErr_parts he
  have HA := hide (asked_any v f n)
  rw [ha] at HA
  have HB := hide (bytes_own v u f n l)
  have HD := hide (bad_any u l)
  rw [hbad] at HD
  obtain ⟨k1, k2, _⟩ := askErr_0 ha
  obtain ⟨c1, c2, c3, c4, c5, _⟩ := chk_ok k1
  have hbw := badB_f hbad
  have HBW := hide hbw
  have HV := hide hv
  have HU := hide hu
  have hll : l.length ≤ 1000 := by omega
  have hd2 : (((l.length : Nat) : Int) != f.words) = false := by simp [hl]
  obtain ⟨hs, _, A, cap, rfl, hcap, hmax, hrow⟩ := hv
  obtain ⟨A', cap', rfl, hcap', hmax', hrow'⟩ := hu
  clear hrow hrow' hmax hmax' he ha hl hbad hbw k1
  have hxb : Ext w (w.alloc (.cells #[.string f.sync, .int .i64 f.words, .int .i64 f.depth, .slice A f.channels.length cap] 28)) := (Ext.refl w).alloc _
  go_enter Try.func25, Try.ntmps25
  go_wp2_with fail
  refine (HA.out _ (HV.out.ext hxb)).mono ?_
  rintro e w1 ⟨rfl, hx1⟩
  have hext := hxb.trans hx1
  have hb0 := hx1.cell (p := ⟨w.heap.size, 0, none⟩) (v := .string f.sync) (by simp)
  have hb1 := hx1.cell (p := ⟨w.heap.size, 1, none⟩) (v := .int .i64 f.words) (by simp)
  have hb2 := hx1.cell (p := ⟨w.heap.size, 2, none⟩) (v := .int .i64 f.depth) (by simp)
  have hb3 := hx1.cell (p := ⟨w.heap.size, 3, none⟩) (v := .slice A f.channels.length cap) (by simp)
  clear hx1 hxb
  go_wp2_with fail
  refine (HD.out _ (HU.out.ext hext)).mono ?_
  rintro e w2 ⟨rfl, hx2⟩
  have hext2 := hext.trans hx2
  have hb0 := hx2.cell hb0
  have hb1 := hx2.cell hb1
  have hb2 := hx2.cell hb2
  have hb3 := hx2.cell hb3
  go_wp2_with fail
  refine (HB.out _ (HV.out.ext hext2) (HU.out.ext hext2) k2 HBW.out hll (by omega)).mono ?_
  rintro e w3 ⟨r, rfl, hr, hx3⟩
  have hsz := hext2.size
  go_wp2_with fail
  go_ret2
  exact ⟨_, rfl, hr.mono hsz, hext2.trans hx3⟩
end Go.Proofs.Ytjnnkcnnandeeaa
