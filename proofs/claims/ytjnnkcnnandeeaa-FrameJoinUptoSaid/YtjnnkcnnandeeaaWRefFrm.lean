/- The walks of the reference's valid and frame. -/
import Derived.Test.YtjnnkcnnandeeaaWRefChk
namespace Go.Proofs.Ytjnnkcnnandeeaa
open Go.RowKit
set_option maxRecDepth 100000 in
set_option maxHeartbeats 400000 in
/-- ref.valid -/
theorem valid_any (v : Value) (f : Fmt) (w : World) (hv : FmtV w v f) :
    Calls Try.prog 59 #[v] w fun e w' => e = .returned (.int .i64 (chk f).2.2) ∧ Ext w w' := by
  have HV := hide hv
  obtain ⟨_, _, A, cap, rfl, _, _, _⟩ := hv
  have HC := hide (refCheck_any _ f _ (HV.out.ext ((Ext.refl w).alloc (.cells #[.string f.sync, .int .i64 f.words, .int .i64 f.depth, .slice A f.channels.length cap] 28))))
  go_enter Try.func59, Try.ntmps59
  go_wp2_with (go_at_call 39; refine Calls.mono HC.out ?_; rintro e w1 ⟨rfl, hx⟩)
  go_ret
  exact ⟨rfl, ((Ext.refl w).alloc _).trans hx⟩
theorem src_two (w : World) (e : TypeId) {u v u' v' : Value} (h : Hid (u = v)) (h' : Hid (u' = v')) : Src ((w.alloc (.cells #[u, u'] e)).drew) (some ⟨w.heap.size, 0, none⟩) 2 1 [v, v'] := by
  cases h.out
  cases h'.out
  exact (Own.lit w w.heap.size e 1 2 #[u, u'] (Nat.le_refl _) rfl (by simp [maxLen])).src
theorem src_pair (w : World) (c : Nat) : Src (w.alloc (.cells #[.int .u8 ((c : Int) / 256), .int .u8 ((c : Int) % 256)] 5)) (some ⟨w.heap.size, 0, none⟩) 2 1 ((pairOf c).map byteV) :=
  (Own.lit w w.heap.size 5 1 2 #[.int .u8 ((c : Int) / 256), .int .u8 ((c : Int) % 256)] (Nat.le_refl _) rfl (by simp [maxLen])).src
theorem byte_hi {x : Nat} (h : x < 65536) : Value.int .u8 (IntKind.u8.wrap (IntKind.i64.wrap ((x : Int) / 256))) = byteV (x / 256) := by
  have e1 : IntKind.i64.wrap ((x : Int) / 256) = ((x / 256 : Nat) : Int) := by rw [IntKind.wrap_i64]; omega
  rw [e1]
  unfold byteV
  congr 1
  rw [IntKind.wrap_u8]; omega
theorem byte_lo {x : Nat} : Value.int .u8 (IntKind.u8.wrap ((x : Int).tmod 256)) = byteV (x % 256) := by
  have e1 : (x : Int).tmod 256 = ((x % 256 : Nat) : Int) := rfl
  rw [e1]
  unfold byteV
  congr 1
  rw [IntKind.wrap_u8]; omega
set_option maxRecDepth 100000 in
set_option maxHeartbeats 1000000 in
/-- ref.frame -/
theorem refFrame_any (v u : Value) (f : Fmt) (n : Int) (l : List Int) (w : World) (hv : FmtV w v f) (hu : IntsV w .i64 u l) (hn0 : 0 ≤ n) (hw : ∀ x ∈ l, 0 ≤ x ∧ x ≤ 65535) (hl : l.length ≤ 1000) (hs4 : f.sync.size ≤ 1000) :
    Calls Try.prog 65 #[v, .int .i64 n, u] w fun e w' => ∃ r, e = .returned r ∧ BytesV w' r (frameOf f n l) ∧ Ext w w' := by
  obtain ⟨hs, _, A, cap, rfl, hcap, hmax, hrow⟩ := hv
  obtain ⟨A', cap', rfl, hcap', hmax', hrow'⟩ := hu
  obtain ⟨i0, hi, hz0, hz1, hz2⟩ := info_parts u8_info
  have hm' : cap' ≤ 9223372036854775807 := by simpa [maxLen] using hmax'
  obtain ⟨A1, cap1, w1, hcv, hx1, ho1⟩ := conv_bytes (P := Try.prog) (w.alloc (.cells #[.string f.sync, .int .i64 f.words, .int .i64 f.depth, .slice A f.channels.length cap] 28)) 9 22 5 f.sync Try.underlying9 Try.underlying22 Try.underlying5 (by simp [maxLen]; omega)
  have hxa : Ext w w1 := ((Ext.refl w).alloc _).trans hx1
  have hsz : w.heap.size + 1 ≤ w1.heap.size := by have := hx1.size; simpa using this
  have ho1' : Own w1 (w.heap.size + 1) 5 1 (.slice A1 f.sync.size cap1) f.sync.size ((syncOf f).map byteV) := by
    refine Own.of_eq (ho1.mono (by simp)) rfl ?_
    unfold syncOf
    rw [List.map_map]; rfl
  clear ho1 hx1 hrow hmax hmax'
  go_enter Try.func65, Try.ntmps65
  go_wp2_with (
    at_builtin
    refine wpList_app rfl (.tmp 12) (.tmp 16) 22 rfl (w.heap.size + 1) 5 i0 _ 1 1 Try.underlying22 hi hz0 hz1 hz2 rfl (.slice A1 f.sync.size cap1) f.sync.size ((syncOf f).map byteV) rfl (ho1'.alloc _) _ 1 1 ([(n % 256).toNat].map byteV) rfl (own_byte w1 0 n hn0 (Nat.zero_le _)) (byteV_one _) (by simp [maxLen]; omega) (by omega) (by simp; omega) ?_
    intro v2 w2 hown2 hb2)
  have hxb : Ext w w2 := ⟨hb2.os.trans hxa.os, hb2.tape.trans hxa.tape, hb2.output.trans hxa.output, by have := hb2.size; simp at this; omega, fun k hk => (hb2.block k (by omega)).trans ((Below.heap_alloc w1 _ k (by omega)).trans (hxa.block k hk))⟩
  have hsz2 : w.heap.size + 1 ≤ w2.heap.size := by have := hb2.size; simp at this; omega
  clear hb2 ho1' hcv hxa
  go_loopw [7, 8] (fun r i wr => Ext w wr ∧ w.heap.size + 1 ≤ wr.heap.size ∧ ∃ k : Nat, k ≤ l.length ∧ i = .int .i64 k ∧ Own wr (w.heap.size + 1) 5 1 r (bodyLen f k) ((bodyOf f n (l.take k)).map byteV)) (fun _ i _ => l.length - (intOf i).toNat)
  case atStart => exact ⟨hxb, hsz2, 0, by omega, rfl, Own.of_eq hown2 (by simp [bodyLen]) (by simp [bodyOf, wordsOf])⟩
  case round =>
    obtain ⟨hext, hsz3, k, hk, rfl, hown⟩ := hrel
    clear hown2
    by_cases h8 : k < l.length
    · obtain ⟨b, off, x, rfl, hbl0, hck, HX⟩ := ints_at (hrow'.ext hext) h8
      have hx := hw (l.getD k 0) (by rw [List.getD_eq_getElem?_getD, List.getElem?_eq_getElem h8]; exact List.getElem_mem _)
      rw [HX.out] at hx
      obtain ⟨xn, rfl⟩ := Int.eq_ofNat_of_zero_le hx.1
      have hxn : xn < 65536 := by omega
      have HW := hide hw
      have HR := hide hrow'
      have hbl : bodyLen f k ≤ 3001 := by unfold bodyLen; omega
      have HOWN := hide hown
      have h5 : (0 : Int) ≤ (k : Int) := by omega
      have h6 : (k : Int) < (l.length : Int) := by omega
      have ha := hide (byte_hi hxn)
      have hb := hide (byte_lo (x := xn))
      clear hw hrow' hown
      go_wp2_with fail
      go_region_law (refine step_app rfl (.tmp 24) (.tmp 37) 22 (by rfl) (w.heap.size + 1) 5 i0 _ 1 1 Try.underlying22 hi hz0 hz1 hz2 rfl _ (bodyLen f k) _ (by rfl) (HOWN.out.alloc _).drew (some ⟨wr.heap.size, 0, none⟩) 2 2 ((pairOf xn).map byteV) (by rfl) (src_two wr 5 ha hb) (byteV_one _) (by simp [maxLen]; omega) (by omega) (by simp; omega) ?_; intro v4 w4 hown4 hb4)
      all_goals
        have hxs : Ext w w4 := (hext.trans ((Ext.refl _).alloc _).drew).step hb4 (by omega)
        have hsz4 : w.heap.size + 1 ≤ w4.heap.size := Nat.le_trans (by simp; omega) hb4.size
        clear hb4
        go_wp2
        go_roundw
        case rel =>
          refine ⟨hxs, hsz4, k + 1, by omega, by go_num, Own.of_eq hown4 (by unfold bodyLen; omega) ?_⟩
          rw [← List.map_append]
          congr 1
          unfold bodyOf
          rw [wordsOf_take l k h8, HX.out, Int.toNat_natCast, List.append_assoc]
        case measure => simp [intOf]; omega
    · obtain rfl : k = l.length := by omega
      have hbt := bodyOf_lt f n l hw
      have HB := hide hbt
      have ht : l.take l.length = l := List.take_length
      rw [ht] at hown
      have hlt := crc_lt _ hbt
      have HFr := hide (show frameOf f n l = bodyOf f n l ++ pairOf (crc (bodyOf f n l)) from rfl)
      have hbl : bodyLen f l.length ≤ 3001 := by unfold bodyLen; omega
      have hby := Own.bytes hown hbt
      have HOWN := hide hown
      clear hbt ht hown
      go_wp2_with fail
      refine (refSum_any _ _ _ hby).mono ?_
      rintro e w3 ⟨rfl, rfl⟩
      generalize crc (bodyOf f n l) = cs at *
      have hsrc := hide (src_pair wr cs)
      clear hby
      go_wp2_with (
        at_builtin
        refine wpList_app rfl (.tmp 41) (.tmp 48) 22 rfl (w.heap.size + 1) 5 i0 _ 1 1 Try.underlying22 hi hz0 hz1 hz2 rfl _ (bodyLen f l.length) _ rfl (HOWN.out.alloc _) _ 2 2 ((pairOf cs).map byteV) rfl hsrc.out (byteV_one _) (by simp [maxLen]; omega) (by omega) (by simp; omega) ?_
        intro v4 w4 hown4 hb4)
      go_ret
      refine ⟨_, rfl, ?_, (hext.alloc _).step hb4 (by omega)⟩
      rw [← List.map_append] at hown4
      rw [HFr.out]
      refine Own.bytes hown4 (fun b hb => ?_)
      rcases List.mem_append.1 hb with hb | hb
      · exact HB.out b hb
      · exact pairOf_lt cs hlt b hb
end Go.Proofs.Ytjnnkcnnandeeaa
