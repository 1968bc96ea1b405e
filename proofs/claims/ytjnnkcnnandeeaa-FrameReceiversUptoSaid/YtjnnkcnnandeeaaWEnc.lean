/- The walks of asked, pair, bytes, Encode. -/
import Derived.Test.YtjnnkcnnandeeaaWSum
import Derived.Test.YtjnnkcnnandeeaaWCheck
namespace Go.Proofs.Ytjnnkcnnandeeaa
open Go.RowKit
/-- The error of a format, or of a number. -/
def askErr (f : Fmt) (n : Int) : Int := if (chk f).2.2 = 0 ∧ outB n 0 1000000 = true then 7 else (chk f).2.2
def pairOf (n : Nat) : List Nat := [n / 256, n % 256]
def wordsOf : List Int → List Nat
  | [] => []
  | n :: l => pairOf n.toNat ++ wordsOf l
def syncOf (f : Fmt) : List Nat := f.sync.data.toList.map fun b => b.toNat
/-- The bytes of a frame before its check sum. -/
def bodyOf (f : Fmt) (n : Int) (l : List Int) : List Nat := syncOf f ++ [(n % 256).toNat] ++ wordsOf l
/-- The bytes of a frame. -/
def frameOf (f : Fmt) (n : Int) (l : List Int) : List Nat := bodyOf f n l ++ pairOf (crc (bodyOf f n l))
theorem u8_info : (Try.prog.info? 5).map (fun i => (i.zero, i.size, i.bytes)) = some (some (.int .u8 0), 1, 1) := by kernel_rfl
theorem int_info : (Try.prog.info? 3).map (fun i => (i.zero, i.size, i.bytes)) = some (some (.int .i64 0), 1, 8) := by kernel_rfl
set_option maxRecDepth 100000 in
set_option maxHeartbeats 400000 in
/-- frame.pair -/
theorem pair_any (n : Nat) (w : World) (h : n < 65536) :
    Calls Try.prog 102 #[.int .i64 n] w fun e w' => ∃ A, e = .returned (.slice A 2 2) ∧ Own w' w.heap.size 5 1 (.slice A 2 2) 2 ((pairOf n).map fun b => Value.int .u8 (b : Nat)) ∧ Ext w w' := by
  go_enter Try.func102, Try.ntmps102
  go_wp2
  go_ret
  refine ⟨_, rfl, ?_, (Ext.refl _).alloc _⟩
  have ho := Own.lit w w.heap.size 5 1 2 #[Value.int .u8 ((n : Int) / 256), Value.int .u8 ((n : Int) % 256)] (Nat.le_refl _) rfl (by simp [maxLen])
  exact ho
set_option maxRecDepth 100000 in
set_option maxHeartbeats 400000 in
/-- frame.asked -/
theorem asked_any (v : Value) (f : Fmt) (n : Int) (w : World) (hv : FmtV w v f) :
    Calls Try.prog 56 #[v, .int .i64 n] w fun e w' => e = .returned (.int .i64 (askErr f n)) ∧ Ext w w' := by
  have hc := check_any v f
  have hask : askErr f n = if (chk f).2.2 = 0 ∧ outB n 0 1000000 = true then 7 else (chk f).2.2 := rfl
  generalize askErr f n = r at *
  generalize chk f = ck at *
  obtain ⟨c1, c2, c3⟩ := ck
  dsimp only at hc hask
  have HC := hide hc
  have HA := hide hask
  clear hc hask
  have hv' := hv
  obtain ⟨hs, _, A, cap, rfl, hcap, hmax, hrow⟩ := hv
  go_enter Try.func56, Try.ntmps56
  go_wp2_with fail
  refine (HC.out _ (hv'.ext ((Ext.refl _).alloc _))).mono ?_
  rintro e w1 ⟨rfl, hx1⟩
  have hext := ((Ext.refl w).alloc _).trans hx1
  clear hx1 HC hv' hrow
  by_cases h0 : c3 = 0
  · have hd : (c3 == 0) = true := by simp [h0]
    have H0 := hide h0
    clear h0
    go_wp2_with fail
    refine (out_any _ _ _ _).mono ?_
    rintro e w2 ⟨rfl, rfl⟩
    cases h1 : outB n 0 1000000 with
    | true =>
      have H1 := hide h1
      clear h1
      go_wp2_with fail
      go_ret
      exact ⟨ret_int (by rw [HA.out, if_pos ⟨H0.out, H1.out⟩]), hext⟩
    | false =>
      have H1 := hide h1
      clear h1
      go_wp2_with fail
      go_ret
      exact ⟨ret_int (by rw [HA.out, if_neg (fun h => by rw [H1.out] at h; cases h.2)]), hext⟩
  · have hd : (c3 == 0) = false := by simp [h0]
    have H0 := hide h0
    clear h0
    go_wp2_with fail
    go_ret
    exact ⟨ret_int (by rw [HA.out, if_neg (fun h => H0.out h.1)]), hext⟩
def byteV (b : Nat) : Value := .int .u8 (b : Nat)
theorem byteV_one (l : List Nat) : ∀ u ∈ l.map byteV, u.oneCell' = true := by
  intro u hu
  simp at hu
  obtain ⟨b, _, rfl⟩ := hu
  rfl
theorem own_byte (w : World) (base : Nat) (n : Int) (_hn : 0 ≤ n) (hb : base ≤ w.heap.size) :
    Src (w.alloc (.cells #[.int .u8 (n % 256)] 5)) (some ⟨w.heap.size, 0, none⟩) 1 1 ([(n % 256).toNat].map byteV) := by
  have ho := Own.lit w base 5 1 1 #[.int .u8 (n % 256)] hb rfl (by simp [maxLen])
  have e : [(n % 256).toNat].map byteV = (#[Value.int .u8 (n % 256)] : Array Value).toList := by
    simp only [List.map_cons, List.map_nil, byteV]
    rw [Int.toNat_of_nonneg (by omega)]
  rw [e]
  exact ho.src
theorem wordsOf_append (a b : List Int) : wordsOf (a ++ b) = wordsOf a ++ wordsOf b := by
  induction a with
  | nil => rfl
  | cons x a ih => simp [wordsOf, ih]
theorem wordsOf_take (l : List Int) (k : Nat) (hk : k < l.length) : wordsOf (l.take (k + 1)) = wordsOf (l.take k) ++ pairOf (l.getD k 0).toNat := by
  rw [List.take_succ_eq_append_getElem hk, wordsOf_append]
  simp [wordsOf, List.getD_eq_getElem?_getD, hk]
theorem wordsOf_length (l : List Int) : (wordsOf l).length = 2 * l.length := by
  induction l with
  | nil => rfl
  | cons x l ih => simp [wordsOf, pairOf, ih]; omega
theorem wordsOf_lt (l : List Int) (h : ∀ x ∈ l, 0 ≤ x ∧ x ≤ 65535) : ∀ b ∈ wordsOf l, b < 256 := by
  induction l with
  | nil => intro b hb; cases hb
  | cons x l ih =>
    intro b hb
    simp only [wordsOf, pairOf, List.mem_append, List.mem_cons, List.not_mem_nil, or_false] at hb
    have := h x (by simp)
    rcases hb with (hb | hb) | hb
    · omega
    · omega
    · exact ih (fun y hy => h y (by simp [hy])) b hb
theorem syncOf_lt (f : Fmt) : ∀ b ∈ syncOf f, b < 256 := by
  intro b hb
  simp only [syncOf, List.mem_map] at hb
  obtain ⟨c, _, rfl⟩ := hb
  exact c.toNat_lt
theorem bodyOf_lt (f : Fmt) (n : Int) (l : List Int) (h : ∀ x ∈ l, 0 ≤ x ∧ x ≤ 65535) : ∀ b ∈ bodyOf f n l, b < 256 := by
  intro b hb
  simp only [bodyOf, List.mem_append, List.mem_cons, List.not_mem_nil, or_false] at hb
  rcases hb with (hb | hb) | hb
  · exact syncOf_lt f b hb
  · omega
  · exact wordsOf_lt l h b hb
theorem pairOf_lt (n : Nat) (h : n < 65536) : ∀ b ∈ pairOf n, b < 256 := by
  intro b hb
  simp only [pairOf, List.mem_cons, List.not_mem_nil, or_false] at hb
  omega
theorem syncOf_length (f : Fmt) : (syncOf f).length = f.sync.size := by
  unfold syncOf; rw [List.length_map, Array.length_toList]; rfl
theorem Own.of_eq {w : World} {base : Nat} {e : TypeId} {size : Nat} {v : Value} {n m : Nat} {xs ys : List Value} (h : Own w base e size v n xs) (hn : n = m) (hx : xs = ys) : Own w base e size v m ys := by
  subst hn; subst hx; exact h
/-- How many bytes a frame has, and of which the body. -/
def bodyLen (f : Fmt) (k : Nat) : Nat := f.sync.size + 1 + 2 * k
set_option maxRecDepth 100000 in
set_option maxHeartbeats 1000000 in
/-- frame.bytes -/
theorem bytes_any (v u : Value) (f : Fmt) (n : Int) (l : List Int) (w : World) (hv : FmtV w v f) (hu : IntsV w .i64 u l) (hn0 : 0 ≤ n) (hw : ∀ x ∈ l, 0 ≤ x ∧ x ≤ 65535) (hl : l.length ≤ 1000) (hs4 : f.sync.size ≤ 1000) :
    Calls Try.prog 64 #[v, .int .i64 n, u] w fun e w' => ∃ r, e = .returned r ∧ BytesV w' r (frameOf f n l) ∧ Ext w w' := by
  obtain ⟨hs, _, A, cap, rfl, hcap, hmax, hrow⟩ := hv
  obtain ⟨A', cap', rfl, hcap', hmax', hrow'⟩ := hu
  obtain ⟨i0, hi, hz0, hz1, hz2⟩ := info_parts u8_info
  have hm' : cap' ≤ 9223372036854775807 := by simpa [maxLen] using hmax'
  obtain ⟨A1, cap1, w1, hcv, hx1, ho1⟩ := conv_bytes (P := Try.prog) (w.alloc (.cells #[.string f.sync, .int .i64 f.words, .int .i64 f.depth, .slice A f.channels.length cap] 28)) 9 22 5 f.sync Try.underlying9 Try.underlying22 Try.underlying5 (by simp [maxLen]; omega)
  have hxa : Ext w w1 := ((Ext.refl w).alloc _).trans hx1
  have hsz : w.heap.size + 1 ≤ w1.heap.size := by have := hx1.size; simpa using this
  have ho1' : Own w1 (w.heap.size + 1) 5 1 (.slice A1 f.sync.size cap1) f.sync.size ((syncOf f).map byteV) := by
    refine Own.of_eq (ho1.mono (by simp)) rfl ?_
    unfold syncOf
    rw [List.map_map]; rfl
  clear ho1 hx1 hrow hmax hmax'
  go_enter Try.func64, Try.ntmps64
  go_wp2_with (
    at_builtin
    refine wpList_app rfl (.tmp 12) (.tmp 15) 22 rfl (w.heap.size + 1) 5 i0 _ 1 1 Try.underlying22 hi hz0 hz1 hz2 rfl (.slice A1 f.sync.size cap1) f.sync.size ((syncOf f).map byteV) rfl (ho1'.alloc _) _ 1 1 ([(n % 256).toNat].map byteV) rfl (own_byte w1 0 n hn0 (by omega)) (byteV_one _) (by simp [maxLen]; omega) (by omega) (by simp; omega) ?_
    intro v2 w2 hown2 hb2)
  have hxb : Ext w w2 := ⟨hb2.os.trans hxa.os, hb2.tape.trans hxa.tape, hb2.output.trans hxa.output, by have := hb2.size; simp at this; omega, fun k hk => (hb2.block k (by omega)).trans ((Below.heap_alloc w1 _ k (by omega)).trans (hxa.block k hk))⟩
  have hsz2 : w.heap.size + 1 ≤ w2.heap.size := by have := hb2.size; simp at this; omega
  clear hb2 ho1' hcv hxa
  go_loopw [7, 19] (fun r i wr => Ext w wr ∧ w.heap.size + 1 ≤ wr.heap.size ∧ ∃ k : Nat, k ≤ l.length ∧ i = .int .i64 k ∧ Own wr (w.heap.size + 1) 5 1 r (bodyLen f k) ((bodyOf f n (l.take k)).map byteV)) (fun _ i _ => l.length - (intOf i).toNat)
  case atStart => exact ⟨hxb, hsz2, 0, by omega, rfl, Own.of_eq hown2 (by simp [bodyLen]) (by simp [bodyOf, wordsOf])⟩
  case round =>
    obtain ⟨hext, hsz3, k, hk, rfl, hown⟩ := hrel
    clear hown2
    by_cases h8 : k < l.length
    · obtain ⟨b, off, x, rfl, _, hck, HX⟩ := ints_at (hrow'.ext hext) h8
      have hx := hw (l.getD k 0) (by rw [List.getD_eq_getElem?_getD, List.getElem?_eq_getElem h8]; exact List.getElem_mem _)
      rw [HX.out] at hx
      obtain ⟨xn, rfl⟩ := Int.eq_ofNat_of_zero_le hx.1
      have hxn : xn < 65536 := by omega
      have HW := hide hw
      have HR := hide hrow'
      have hbl : bodyLen f k ≤ 3001 := by unfold bodyLen; omega
      clear hw hrow'
      go_wp2_with fail
      refine (pair_any xn _ hxn).mono ?_
      rintro e w3 ⟨A3, rfl, ho3, hx3⟩
      have hown' := hown.ext hx3
      have hext' := hext.trans hx3
      have hsz4 : w.heap.size + 1 ≤ w3.heap.size := Nat.le_trans hsz3 hx3.size
      clear hown
      go_wp2_with (
        at_builtin
        refine wpList_app rfl (.tmp 23) (.tmp 25) 22 rfl (w.heap.size + 1) 5 i0 _ 1 1 Try.underlying22 hi hz0 hz1 hz2 rfl _ (bodyLen f k) _ rfl hown' A3 2 2 ((pairOf xn).map byteV) rfl ho3.src (byteV_one _) (by simp [maxLen]; omega) (by omega) hsz4 ?_
        intro v4 w4 hown4 hb4)
      go_roundw
      case rel =>
        refine ⟨hext'.step hb4 (by omega), Nat.le_trans hsz4 hb4.size, k + 1, by omega, by go_num, Own.of_eq hown4 (by unfold bodyLen; omega) ?_⟩
        rw [← List.map_append]
        congr 1
        unfold bodyOf
        rw [wordsOf_take l k h8, HX.out, Int.toNat_natCast, List.append_assoc]
      case measure => simp [intOf]; omega
    · obtain rfl : k = l.length := by omega
      have hbt := bodyOf_lt f n l hw
      have HB := hide hbt
      have ht : l.take l.length = l := List.take_length
      rw [ht] at hown
      have hlt := crc_lt _ hbt
      have HFr := hide (show frameOf f n l = bodyOf f n l ++ pairOf (crc (bodyOf f n l)) from rfl)
      have hbl : bodyLen f l.length ≤ 3001 := by unfold bodyLen; omega
      have hby := Own.bytes hown hbt
      clear hbt ht
      go_wp2_with fail
      refine (sum_any _ _ _ hby).mono ?_
      rintro e w3 ⟨rfl, rfl⟩
      generalize crc (bodyOf f n l) = cs at *
      go_wp2_with fail
      refine (pair_any cs _ hlt).mono ?_
      rintro e w3 ⟨A3, rfl, ho3, hx3⟩
      have hown' := hown.ext hx3
      have hext' := hext.trans hx3
      have hsz4 : w.heap.size + 1 ≤ w3.heap.size := Nat.le_trans hsz3 hx3.size
      clear hown hby
      go_wp2_with (
        at_builtin
        refine wpList_app rfl (.tmp 28) (.tmp 31) 22 rfl (w.heap.size + 1) 5 i0 _ 1 1 Try.underlying22 hi hz0 hz1 hz2 rfl _ (bodyLen f l.length) _ rfl hown' A3 2 2 ((pairOf cs).map byteV) rfl ho3.src (byteV_one _) (by simp [maxLen]; omega) (by omega) hsz4 ?_
        intro v4 w4 hown4 hb4)
      go_ret
      refine ⟨_, rfl, ?_, hext'.step hb4 (by omega)⟩
      rw [← List.map_append] at hown4
      rw [HFr.out]
      refine Own.bytes hown4 (fun b hb => ?_)
      rcases List.mem_append.1 hb with hb | hb
      · exact HB.out b hb
      · exact pairOf_lt cs hlt b hb
end Go.Proofs.Ytjnnkcnnandeeaa
