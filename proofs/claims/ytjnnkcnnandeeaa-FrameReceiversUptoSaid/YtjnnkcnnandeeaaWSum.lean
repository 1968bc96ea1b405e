/- The walks of the check sum: the program's and the reference's. -/
import Derived.Test.YtjnnkcnnandeeaaProg
import Derived.Test.YtjnnkcnnandeeaaBase
namespace Go.Proofs.Ytjnnkcnnandeeaa
open Go.RowKit
theorem u16_bits (s : Nat) (h : s < 65536) : IntKind.u16.wrap ((s : Int) * 2) = ((if s < 32768 then 2 * s else 2 * s - 65536 : Nat) : Int) := by
  rw [IntKind.wrap_u16]; split <;> omega
theorem xor_4129 (a : Nat) (h : a < 65536) : bits .xor .u16 (a : Int) 4129 = ((a ^^^ 4129 : Nat) : Int) := u16_xor_nat a 4129 h (by omega)
set_option maxRecDepth 100000 in
set_option maxHeartbeats 400000 in
theorem out_u16_yes (n lo hi : Int) (w : World) (h : n < lo ∨ hi < n) :
    Calls Try.prog 100 #[.int .u16 n, .int .u16 lo, .int .u16 hi] w fun e w' => e = .returned (.bool true) ∧ w = w' := by
  go_enter Try.func100, Try.ntmps100
  by_cases h1 : n < lo
  all_goals
    go_wp2
    go_ret
    simp <;> omega
set_option maxRecDepth 100000 in
set_option maxHeartbeats 400000 in
theorem out_u16_no (n lo hi : Int) (w : World) (h1 : lo ≤ n) (h2 : n ≤ hi) :
    Calls Try.prog 100 #[.int .u16 n, .int .u16 lo, .int .u16 hi] w fun e w' => e = .returned (.bool false) ∧ w = w' := by
  go_enter Try.func100, Try.ntmps100
  go_wp2
  go_ret
  simp <;> omega
set_option maxRecDepth 100000 in
set_option maxHeartbeats 400000 in
theorem add_any (s c : Nat) (hs : s < 65536) (hc : c < 256) (w : World) :
    Calls Try.prog 55 #[.int .u16 s, .int .u8 c] w fun e w' => e = .returned (.int .u16 (crcByte s c)) ∧ w = w' := by
  go_enter Try.func55, Try.ntmps55
  go_wp2
  go_loop [0, 11] (fun t i => ∃ k : Nat, k ≤ 8 ∧ i = .int .i64 k ∧ t = .int .u16 (crcBits k (s ^^^ (c * 256)))) (fun _ i => 8 - (intOf i).toNat)
  case atStart =>
    exact ⟨0, by omega, rfl, val_int (by rw [show ((c : Int) * 256) = ((c * 256 : Nat) : Int) by omega, u16_xor_nat _ _ hs (by omega)]; rfl)⟩
  case round =>
    obtain ⟨k, hk, rfl, rfl⟩ := hrel
    by_cases h8 : k < 8
    · have hb := crcBits_lt k (s ^^^ (c * 256)) (Nat.xor_lt_two_pow (n := 16) (by omega) (by omega))
      have hs' : crcBits (k + 1) (s ^^^ (c * 256)) = crcBit (crcBits k (s ^^^ (c * 256))) := rfl
      have HS := hide hs'; clear hs'
      generalize crcBits k (s ^^^ (c * 256)) = t at *
      by_cases ht : t < 32768
      · go_wp2_with (go_at_call 100; refine (out_u16_yes _ _ _ _ (by omega)).mono ?_; rintro e w' ⟨rfl, rfl⟩)
        go_round
        case rel =>
          refine ⟨k + 1, by omega, by go_num, val_int ?_⟩
          rw [HS.out]; unfold crcBit
          rw [if_pos ht]; omega
        case measure => simp [intOf]; omega
      · go_wp2_with (go_at_call 100; refine (out_u16_no _ _ _ _ (by omega) (by omega)).mono ?_; rintro e w' ⟨rfl, rfl⟩)
        go_round
        case rel =>
          refine ⟨k + 1, by omega, by go_num, val_int ?_⟩
          rw [u16_bits _ hb, HS.out]; unfold crcBit
          rw [if_neg ht, if_neg ht]; exact xor_4129 _ (by omega)
        case measure => simp [intOf]; omega
    · obtain rfl : k = 8 := by omega
      go_wp2
      go_ret
      exact ⟨rfl, rfl⟩
set_option maxRecDepth 100000 in
set_option maxHeartbeats 400000 in
/-- frame.Sum -/
theorem sum_any (v : Value) (l : List Nat) (w : World) (h : BytesV w v l) :
    Calls Try.prog 19 #[v] w fun e w' => e = .returned (.int .i64 (crc l)) ∧ w = w' := by
  obtain ⟨hl, A, cap, rfl, hcap, hmax, hrow⟩ := h
  have hmax' : cap ≤ 9223372036854775807 := by simpa [maxLen] using hmax
  clear hmax
  go_enter Try.func19, Try.ntmps19
  go_wp2
  go_loop [3, 9] (fun t i => ∃ k : Nat, k ≤ l.length ∧ i = .int .i64 k ∧ t = .int .u16 (crc (l.take k))) (fun _ i => l.length - (intOf i).toNat)
  case atStart => exact ⟨0, by omega, rfl, rfl⟩
  case round =>
    obtain ⟨k, hk, rfl, rfl⟩ := hrel
    by_cases h8 : k < l.length
    · have hb := crc_lt (l.take k) (fun x hx => hl x (List.mem_of_mem_take hx))
      have HS := hide (crc_take_succ l k h8)
      obtain ⟨b, off, x, rfl, _, hx, hck, HX⟩ := bytes_at hrow hl h8
      generalize crc (l.take k) = t at *
      clear hrow hl
      go_wp2_with (go_at_call 55; refine (add_any _ _ hb hx _).mono ?_; rintro e w' ⟨rfl, rfl⟩)
      go_round
      case rel => exact ⟨k + 1, by omega, by go_num, by rw [HS.out, HX.out]⟩
      case measure => simp [intOf]; omega
    · obtain rfl : k = l.length := by omega
      have hb := crc_lt l hl
      go_wp2
      go_ret
      exact ⟨ret_int rfl, rfl⟩
theorem xor_256 (t x : Nat) (h : t < 65536) (hx : x < 256) : bits .xor .i64 (t : Int) ((x : Int) * 256) = ((t ^^^ (x * 256) : Nat) : Int) := by
  rw [show ((x : Int) * 256) = ((x * 256 : Nat) : Int) by omega]
  exact i64_xor_nat t (x * 256) (by omega) (by omega)
theorem xor_i64_4129 (s : Nat) (h : s < 65536) (h2 : 32768 ≤ s) : bits .xor .i64 (2 * (s : Int) % 65536) 4129 = ((2 * s - 65536) ^^^ 4129 : Nat) := by
  rw [show (2 * (s : Int) % 65536) = ((2 * s - 65536 : Nat) : Int) by omega]
  exact i64_xor_nat _ 4129 (by omega) (by omega)
set_option maxRecDepth 100000 in
set_option maxHeartbeats 400000 in
/-- ref.Sum -/
theorem refSum_any (v : Value) (l : List Nat) (w : World) (h : BytesV w v l) :
    Calls Try.prog 20 #[v] w fun e w' => e = .returned (.int .i64 (crc l)) ∧ w = w' := by
  obtain ⟨hl, A, cap, rfl, hcap, hmax, hrow⟩ := h
  have hmax' : cap ≤ 9223372036854775807 := by simpa [maxLen] using hmax
  clear hmax
  go_enter Try.func20, Try.ntmps20
  go_wp2
  go_loop [3, 4] (fun t i => ∃ k : Nat, k ≤ l.length ∧ i = .int .i64 k ∧ t = .int .i64 (crc (l.take k))) (fun _ i => l.length - (intOf i).toNat)
  case atStart => exact ⟨0, by omega, rfl, rfl⟩
  case round =>
    obtain ⟨k, hk, rfl, rfl⟩ := hrel
    by_cases h8 : k < l.length
    · have hb := crc_lt (l.take k) (fun x hx => hl x (List.mem_of_mem_take hx))
      have HS := hide (crc_take_succ l k h8)
      obtain ⟨b, off, x, rfl, _, hx, hck, HX⟩ := bytes_at hrow hl h8
      generalize crc (l.take k) = t at *
      clear hrow hl
      go_wp2
      go_loopw [3, 5] (fun t' i wr => w = wr ∧ ∃ m : Nat, m ≤ 8 ∧ i = .int .i64 m ∧ t' = .int .i64 (crcBits m (t ^^^ (x * 256)))) (fun _ i _ => 8 - (intOf i).toNat)
      case atStart => exact ⟨rfl, 0, by omega, rfl, val_int (xor_256 t x hb hx)⟩
      case round =>
        obtain ⟨rfl, m, hm, rfl, rfl⟩ := hrel
        by_cases hm8 : m < 8
        · have hb2 := crcBits_lt m (t ^^^ (x * 256)) (Nat.xor_lt_two_pow (n := 16) (by omega) (by omega))
          have hs' : crcBits (m + 1) (t ^^^ (x * 256)) = crcBit (crcBits m (t ^^^ (x * 256))) := rfl
          have HS2 := hide hs'; clear hs'
          generalize crcBits m (t ^^^ (x * 256)) = s at *
          by_cases hs : s < 32768
          · have hd : decide ((32768 : Int) ≤ (s : Int)) = false := by simp; omega
            go_wp2
            go_roundw
            case rel =>
              refine ⟨by trivial, m + 1, by omega, by go_num, val_int ?_⟩
              rw [HS2.out]; unfold crcBit
              rw [if_pos hs]; omega
            case measure => simp [intOf]; omega
          · have hd : decide ((32768 : Int) ≤ (s : Int)) = true := by simp; omega
            go_wp2
            go_roundw
            case rel =>
              refine ⟨by trivial, m + 1, by omega, by go_num, val_int ?_⟩
              rw [HS2.out]; unfold crcBit
              rw [if_neg hs]; exact xor_i64_4129 s hb2 (by omega)
            case measure => simp [intOf]; omega
        · obtain rfl : m = 8 := by omega
          go_wp2
          go_round
          case rel => exact ⟨k + 1, by omega, by go_num, by rw [HS.out, HX.out]; rfl⟩
          case measure => simp [intOf]; omega
    · obtain rfl : k = l.length := by omega
      have hb := crc_lt l hl
      go_wp2
      go_ret
      exact ⟨ret_int rfl, rfl⟩
end Go.Proofs.Ytjnnkcnnandeeaa
