/- The walk of Sent.numbers, for no more than 1048576 steps. -/
import Derived.Test.YtjnnkcnnandeeaaOpenSent
import Derived.Test.YtjnnkcnnandeeaaPSent
import Derived.Test.YtjnnkcnnandeeaaDet
namespace Go.Proofs.Ytjnnkcnnandeeaa
open Go.RowKit
def sNums : Int → List Nat → List Int
  | _, [] => []
  | n, s :: r => (n + (s : Int)) :: sNums (n + (s : Int) + 1) r
def sAfter : Int → List Nat → Int
  | n, [] => n
  | n, s :: r => sAfter (n + (s : Int) + 1) r
theorem sNums_snoc (s : Nat) : ∀ (a : List Nat) (n : Int), sNums n (a ++ [s]) = sNums n a ++ [sAfter n a + (s : Int)]
  | [], n => rfl
  | x :: a, n => by rw [List.cons_append, sNums, sNums_snoc s a, sNums, sAfter, List.cons_append]
theorem sAfter_snoc (s : Nat) : ∀ (a : List Nat) (n : Int), sAfter n (a ++ [s]) = sAfter n a + (s : Int) + 1
  | [], n => rfl
  | x :: a, n => by rw [List.cons_append, sAfter, sAfter_snoc s a, sAfter]
theorem sNums_len : ∀ (a : List Nat) (n : Int), (sNums n a).length = a.length
  | [], _ => rfl
  | x :: a, n => by rw [sNums, List.length_cons, sNums_len a, List.length_cons]
theorem sAfter_le : ∀ (a : List Nat) (n : Int), (∀ x ∈ a, x < 256) → n ≤ sAfter n a ∧ sAfter n a ≤ n + 256 * a.length
  | [], n, _ => by simp [sAfter]
  | x :: a, n, h => by
    have := sAfter_le a (n + (x : Int) + 1) (fun y hy => h y (by simp [hy]))
    have hx := h x (by simp)
    rw [sAfter, List.length_cons]
    omega
/-- Whether the first number is one. -/
def sOk (x : SentD) : Bool := !outB x.first 0 1000000
def sentNums (x : SentD) : List Int := if sOk x = true then sNums x.first x.steps else []
def sentOk (x : SentD) : Bool := sOk x && decide (sAfter x.first x.steps - 1 ≤ 1000000)
set_option maxRecDepth 100000 in
set_option maxHeartbeats 1000000 in
/-- law.Sent.numbers -/
theorem snumbers_any (v : Value) (x : SentD) (w : World) (hv : SentV w v x) (hlen : x.steps.length ≤ 1048576) :
    Calls Try.prog 42 #[v] w fun e w' => ∃ r, e = .returned (.tuple #[r, .bool (sentOk x)]) ∧ IntsV w' .i64 r (sentNums x) ∧ Ext w w' := by
  obtain ⟨first, steps, words⟩ := x
  obtain ⟨_, s, u, rfl, ⟨hlt, A, cap, rfl, hcap, hmax, hrow⟩, ⟨Au, capu, rfl, _, _, _⟩⟩ := hv
  dsimp only at *
  have hmx : cap ≤ 9223372036854775807 := by simpa [maxLen] using hmax
  have HROW := hide hrow
  have HLT := hide hlt
  clear hrow hmax hlt
  cases ho : outB first 0 1000000 with
  | true =>
    have h1 : sentOk ⟨first, steps, words⟩ = false := by unfold sentOk sOk; rw [ho]; rfl
    have h2 : sentNums ⟨first, steps, words⟩ = [] := by unfold sentNums sOk; rw [ho]; rfl
    rw [h1, h2]
    have hor : first < 0 ∨ 1000000 < first := by
      have := mt outB_f.2 (by rw [ho]; decide : ¬ outB first 0 1000000 = false)
      omega
    by_cases hlt : first < 0
    · go_enter Try.func42, Try.ntmps42
      go_wp2
      go_ret2
      exact ⟨_, rfl, IntsV.nil _ _, (Ext.refl _).alloc _⟩
    · have hgt : 1000000 < first := by omega
      go_enter Try.func42, Try.ntmps42
      go_wp2
      go_ret2
      exact ⟨_, rfl, IntsV.nil _ _, (Ext.refl _).alloc _⟩
  | false =>
    have hb := outB_f.1 ho
    have H1 := hide (show sentOk ⟨first, steps, words⟩ = decide (sAfter first steps - 1 ≤ 1000000) by unfold sentOk sOk; rw [ho]; simp)
    have H2 := hide (show sentNums ⟨first, steps, words⟩ = sNums first steps by unfold sentNums sOk; rw [ho]; rfl)
    have hd1 : ¬ first < 0 := by omega
    have hd2 : ¬ 1000000 < first := by omega
    clear ho
    obtain ⟨iI, hiI, hzI0, hzI1, hzI2⟩ := info_parts int_info
    have HX1 := hide ((Ext.refl w).alloc (.cells #[.int .i64 first, .slice A steps.length cap, .slice Au words.length capu] 55))
    go_enter Try.func42, Try.ntmps42
    go_wp2
    have hcc : ∀ k u, #[Value.int .i64 first, .slice A steps.length cap, .slice Au words.length capu][k]? = some u → (w.alloc (.cells #[.int .i64 first, .slice A steps.length cap, .slice Au words.length capu] 55)).cell? ⟨w.heap.size, k, none⟩ = some u := fun k u h => cell_new w _ 55 k u h
    have c1 := hcc 1 _ rfl
    obtain ⟨w1, hw1⟩ : ∃ w1, w.alloc (.cells #[.int .i64 first, .slice A steps.length cap, .slice Au words.length capu] 55) = w1 := ⟨_, rfl⟩
    rw [hw1] at HX1 c1 ⊢
    clear hcc hw1
    go_loopw [4, 5, 6] (fun v4 v5 v6 wr => ∃ k : Nat, k ≤ steps.length ∧ v6 = .int .i64 k ∧ v5 = .int .i64 (sAfter first (steps.take k)) ∧ 0 ≤ sAfter first (steps.take k) ∧ sAfter first (steps.take k) ≤ 1000000 + 256 * k ∧ Ext w1 wr ∧ Hid (Own wr w1.heap.size 3 1 v4 k ((sNums first (steps.take k)).map (Value.int .i64)))) (fun _ _ v6 _ => steps.length - (intOf v6).toNat)
    case atStart => exact ⟨0, by omega, rfl, rfl, hb.1, by simpa [sAfter] using hb.2, Ext.refl _, hide (Own.nil _ _ _ _)⟩
    case round =>
      obtain ⟨k, hk, rfl, rfl, hn0, hn1, hE, HO⟩ := hrel
      have hc1 := hE.cell c1
      by_cases h8 : k < steps.length
      · obtain ⟨b, off, rfl, hbb, hbc⟩ := HROW.out (by omega)
        have hck : wr.cell? ⟨b, off + k, none⟩ = some (.int .u8 (steps.getD k 0 : Nat)) := (HX1.out.trans hE).cell (hbc k h8)
        have hts := take_snoc (0 : Nat) h8
        have HSN := hide (sNums_snoc (steps.getD k 0) (steps.take k) first)
        have HSA := hide (sAfter_snoc (steps.getD k 0) (steps.take k) first)
        have hs256 := HLT.out _ (getD_mem (0 : Nat) h8)
        have HTS := hide hts
        clear hts hbc
        generalize steps.getD k 0 = sk at *
        generalize hn : sAfter first (steps.take k) = n at *
        have HN := hide hn
        clear hn
        have hsz := hE.size
        obtain ⟨A4, c4, rfl, _, _, _⟩ := HO.out.form
        have HSRC := hide ((Own.lit wr 0 3 1 1 #[.int .i64 (n + (sk : Int))] (Nat.zero_le _) rfl (by simp [maxLen])).src)
        have hw1' : IntKind.i64.wrap (sk : Int) = (sk : Int) := by rw [IntKind.wrap_i64]; omega
        go_wp2_with (
          at_builtin
          refine wpList_app rfl (.tmp 32) (.tmp 34) 29 rfl w1.heap.size 3 iI _ 1 8 Try.underlying29 hiI hzI0 hzI1 hzI2 rfl _ k _ rfl (HO.out.alloc _) _ 1 1 [.int .i64 (n + (sk : Int))] rfl HSRC.out (by simp [Value.oneCell']) (by simp [maxLen]; omega) (by omega) (by simp; omega) ?_
          intro v3 w3 hown3 hb3)
        go_roundw
        case rel =>
          refine ⟨k + 1, by omega, by go_num, by rw [HTS.out, HSA.out], by rw [HTS.out, HSA.out]; omega, by rw [HTS.out, HSA.out]; omega, (hE.alloc _).step hb3 (Nat.le_refl _), ?_⟩
          rw [HTS.out, HSN.out]
          exact hide (Own.of_eq hown3 rfl (by rw [List.map_append]; rfl))
        case measure => simp [intOf]; omega
      · obtain rfl : k = steps.length := by omega
        rw [List.take_length] at hn0 hn1 HO ⊢
        have HI := hide (Own.ints HO.out)
        obtain ⟨A4, c4, rfl, _, _, _⟩ := HO.out.form
        generalize hn : sAfter first steps = n at *
        have HN := hide hn
        clear hn
        go_wp2
        go_ret2
        exact ⟨_, by rw [H1.out]; rfl, by rw [H2.out]; exact HI.out, HX1.out.trans hE⟩
end Go.Proofs.Ytjnnkcnnandeeaa
