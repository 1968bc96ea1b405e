/- The walks of Name: the program's and the reference's. -/
import Derived.Test.YtjnnkcnnandeeaaWOut
import Derived.Test.YtjnnkcnnandeeaaOwn
namespace Go.Proofs.Ytjnnkcnnandeeaa
open Go.RowKit
/-- A letter that a name may have at a place. -/
def okc (i c : Nat) : Prop := (97 ≤ c ∧ c ≤ 122) ∨ (i ≠ 0 ∧ (c = 45 ∨ (48 ≤ c ∧ c ≤ 57)))
instance (i c : Nat) : Decidable (okc i c) := by unfold okc; infer_instance
def chr (s : ByteArray) (i : Nat) : Nat := (s.data.toList.getD i 0).toNat
/-- Whether a string is a name. -/
def nameB (s : ByteArray) : Bool := decide (1 ≤ s.size ∧ s.size ≤ 24 ∧ ∀ i, i < s.size → okc i (chr s i))
theorem okc_chr {s : ByteArray} {k c : Nat} (h : Hid ((s.data.toList.map fun b => b.toNat).getD k 0 = c)) (hk : k < s.size) : chr s k = c := by
  have := h.out
  unfold chr
  rw [← this]
  have hl : k < s.data.toList.length := by rw [Array.length_toList]; exact hk
  simp only [List.getD_eq_getElem?_getD, List.getElem?_map, List.getElem?_eq_getElem hl, Option.map_some, Option.getD_some]
theorem nameB_bad {s : ByteArray} {k c : Nat} (h8 : k < s.size) (HC : Hid (chr s k = c)) (h : ¬ okc k c) : false = nameB s := by
  symm
  unfold nameB
  rw [decide_eq_false_iff_not]
  rintro ⟨_, _, h2⟩
  have := h2 k h8
  rw [HC.out] at this
  exact h this
theorem nameB_end {s : ByteArray} (h : ∀ i, i < s.size → okc i (chr s i)) : nameB s = inB s.size 1 24 := by
  rw [Bool.eq_iff_iff, inB_t]
  unfold nameB
  rw [decide_eq_true_iff]
  constructor
  · rintro ⟨h1, h2, _⟩; omega
  · rintro ⟨h1, h2⟩; exact ⟨by omega, by omega, h⟩
theorem nameB_long {s : ByteArray} (h : s.size < 1 ∨ 24 < s.size) : false = nameB s := by
  symm; unfold nameB; rw [decide_eq_false_iff_not]; omega
set_option maxRecDepth 100000 in
set_option maxHeartbeats 1000000 in
/-- wind.Name -/
theorem name_any (s : ByteArray) (w : World) (hs : s.size ≤ 9223372036854775807) :
    Calls Try.prog 74 #[.string s] w fun e w' => e = .returned (.bool (nameB s)) ∧ Ext w w' := by
  obtain ⟨A, cap, w1, hcv, hext, hown⟩ := conv_bytes (P := Try.prog) w 9 22 5 s Try.underlying9 Try.underlying22 Try.underlying5 (by simp [maxLen]; omega)
  have hb := Own.bytes (l := s.data.toList.map fun b => b.toNat) (by rw [List.map_map]; exact hown) (by intro x hx; simp at hx; obtain ⟨b, _, rfl⟩ := hx; exact b.toNat_lt)
  obtain ⟨hl, A', cap', he, _, _, hrow⟩ := hb
  have hlen : (s.data.toList.map fun b => b.toNat).length = s.size := by rw [List.length_map, Array.length_toList]; rfl
  injection he with he1 he2 he3
  subst he1
  have HLEN := hide hlen
  clear he2 he3 hlen
  go_enter Try.func74, Try.ntmps74
  go_wp2_with fail
  go_loop [8] (fun i => ∃ k : Nat, k ≤ s.size ∧ i = .int .i64 k ∧ ∀ j, j < k → okc j (chr s j)) (fun i => s.size - (intOf i).toNat)
  case atStart => exact ⟨0, by omega, rfl, fun j hj => absurd hj (by omega)⟩
  case round =>
    obtain ⟨k, hk, rfl, hsame⟩ := hrel
    have HS := hide hsame
    clear hsame
    by_cases h8 : k < s.size
    · obtain ⟨b, off, c, rfl, _, hc256, hck, HX⟩ := bytes_at hrow hl (by rw [HLEN.out]; exact h8)
      clear hrow hl hown
      have HC := hide (okc_chr HX h8)
      by_cases hk0 : k = 0
      · have d0 : ((k : Int) == 0) = true := by simp; omega
        have HK := hide hk0
        clear hk0
        rcases (by omega : c < 45 ∨ (c = 45) ∨ (45 < c ∧ c < 48) ∨ (48 ≤ c ∧ c ≤ 57) ∨ (57 < c ∧ c < 97) ∨ (97 ≤ c ∧ c ≤ 122) ∨ 122 < c) with h | h | h | h | h | h | h
        all_goals
          first | (have d1 : decide ((97 : Int) ≤ (c : Int)) = true := by simp; omega) | (have d1 : decide ((97 : Int) ≤ (c : Int)) = false := by simp; omega)
          first | (have d2 : decide ((c : Int) ≤ 122) = true := by simp; omega) | (have d2 : decide ((c : Int) ≤ 122) = false := by simp; omega)
          have H := hide h
          clear h
          go_wp2
          first
            | (go_ret; exact ⟨ret_bool (nameB_bad h8 HC (by have := HK.out; have := H.out; unfold okc; omega)), hext⟩)
            | (go_round
               case rel =>
                 refine ⟨k + 1, by omega, by go_num, fun j hj => ?_⟩
                 by_cases hjk : j = k
                 · rw [hjk, HC.out]; have := HK.out; have := H.out; unfold okc; omega
                 · exact HS.out j (by omega)
               case measure => simp [intOf]; omega)
      · have d0 : ((k : Int) == 0) = false := by simp; omega
        have HK := hide hk0
        clear hk0
        rcases (by omega : c < 45 ∨ (c = 45) ∨ (45 < c ∧ c < 48) ∨ (48 ≤ c ∧ c ≤ 57) ∨ (57 < c ∧ c < 97) ∨ (97 ≤ c ∧ c ≤ 122) ∨ 122 < c) with h | h | h | h | h | h | h
        all_goals
          first | (have d1 : decide ((97 : Int) ≤ (c : Int)) = true := by simp; omega) | (have d1 : decide ((97 : Int) ≤ (c : Int)) = false := by simp; omega)
          first | (have d2 : decide ((c : Int) ≤ 122) = true := by simp; omega) | (have d2 : decide ((c : Int) ≤ 122) = false := by simp; omega)
          first | (have d3 : ((c : Int) != 45) = true := by simp; omega) | (have d3 : ((c : Int) != 45) = false := by simp; omega)
          first | (have d4 : decide ((48 : Int) ≤ (c : Int)) = true := by simp; omega) | (have d4 : decide ((48 : Int) ≤ (c : Int)) = false := by simp; omega)
          first | (have d5 : decide ((c : Int) ≤ 57) = true := by simp; omega) | (have d5 : decide ((c : Int) ≤ 57) = false := by simp; omega)
          have H := hide h
          clear h
          go_wp2
          first
            | (go_ret; exact ⟨ret_bool (nameB_bad h8 HC (by have := HK.out; have := H.out; unfold okc; omega)), hext⟩)
            | (go_round
               case rel =>
                 refine ⟨k + 1, by omega, by go_num, fun j hj => ?_⟩
                 by_cases hjk : j = k
                 · rw [hjk, HC.out]; have := HK.out; have := H.out; unfold okc; omega
                 · exact HS.out j (by omega)
               case measure => simp [intOf]; omega)
    · obtain rfl : k = s.size := by omega
      go_wp2_with (go_at_call 105; refine (windOut_any _ _ _ _).mono ?_; rintro e w' ⟨rfl, rfl⟩)
      go_ret
      exact ⟨ret_bool (by rw [nameB_end HS.out]; exact outB_not _ _ _), hext⟩
set_option maxRecDepth 100000 in
set_option maxHeartbeats 1000000 in
/-- ref01.Name -/
theorem refName_any (s : ByteArray) (w : World) :
    Calls Try.prog 107 #[.string s] w fun e w' => e = .returned (.bool (nameB s)) ∧ w = w' := by
  by_cases h1 : 1 ≤ s.size ∧ s.size ≤ 24
  · obtain ⟨h1, h2⟩ := h1
    have e1 : decide (((s.size : Nat) : Int) < 1) = false := by simp; omega
    have e2 : decide ((24 : Int) < ((s.size : Nat) : Int)) = false := by simp; omega
    go_enter Try.func107, Try.ntmps107
    go_wp2
    go_loop [3] (fun i => ∃ k : Nat, k ≤ s.size ∧ i = .int .i64 k ∧ ∀ j, j < k → okc j (chr s j)) (fun i => s.size - (intOf i).toNat)
    case atStart => exact ⟨0, by omega, rfl, fun j hj => absurd hj (by omega)⟩
    case round =>
      obtain ⟨k, hk, rfl, hsame⟩ := hrel
      have HS := hide hsame
      clear hsame
      by_cases h8 : k < s.size
      · obtain ⟨c, hc⟩ : ∃ c, (s[k]'h8).toNat = c := ⟨_, rfl⟩
        have hc256 : c < 256 := by rw [← hc]; exact (s[k]'h8).toNat_lt
        have HC : Hid (chr s k = c) := hide (by
          unfold chr
          rw [← hc, List.getD_eq_getElem?_getD, List.getElem?_eq_getElem (by rw [Array.length_toList]; exact h8)]
          rfl)
        by_cases hk0 : k = 0
        · have d0 : ((k : Int) == 0) = true := by simp; omega
          have HK := hide hk0
          clear hk0
          rcases (by omega : c < 45 ∨ (c = 45) ∨ (45 < c ∧ c < 48) ∨ (48 ≤ c ∧ c ≤ 57) ∨ (57 < c ∧ c < 97) ∨ (97 ≤ c ∧ c ≤ 122) ∨ 122 < c) with h | h | h | h | h | h | h
          all_goals
            first | (have d1 : decide ((97 : Int) ≤ (c : Int)) = true := by simp; omega) | (have d1 : decide ((97 : Int) ≤ (c : Int)) = false := by simp; omega)
            first | (have d2 : decide ((c : Int) ≤ 122) = true := by simp; omega) | (have d2 : decide ((c : Int) ≤ 122) = false := by simp; omega)
            first | (have d3 : ((c : Int) == 45) = true := by simp; omega) | (have d3 : ((c : Int) == 45) = false := by simp; omega)
            first | (have d4 : decide ((48 : Int) ≤ (c : Int)) = true := by simp; omega) | (have d4 : decide ((48 : Int) ≤ (c : Int)) = false := by simp; omega)
            first | (have d5 : decide ((c : Int) ≤ 57) = true := by simp; omega) | (have d5 : decide ((c : Int) ≤ 57) = false := by simp; omega)
            have H := hide h
            clear h
            go_wp2
            first
              | (go_ret; exact ⟨ret_bool (nameB_bad h8 HC (by have := HK.out; have := H.out; unfold okc; omega)), rfl⟩)
              | (go_round
                 case rel =>
                   refine ⟨k + 1, by omega, by go_num, fun j hj => ?_⟩
                   by_cases hjk : j = k
                   · rw [hjk, HC.out]; have := HK.out; have := H.out; unfold okc; omega
                   · exact HS.out j (by omega)
                 case measure => simp [intOf]; omega)
        · have d0 : ((k : Int) == 0) = false := by simp; omega
          have HK := hide hk0
          clear hk0
          rcases (by omega : c < 45 ∨ (c = 45) ∨ (45 < c ∧ c < 48) ∨ (48 ≤ c ∧ c ≤ 57) ∨ (57 < c ∧ c < 97) ∨ (97 ≤ c ∧ c ≤ 122) ∨ 122 < c) with h | h | h | h | h | h | h
          all_goals
            first | (have d1 : decide ((97 : Int) ≤ (c : Int)) = true := by simp; omega) | (have d1 : decide ((97 : Int) ≤ (c : Int)) = false := by simp; omega)
            first | (have d2 : decide ((c : Int) ≤ 122) = true := by simp; omega) | (have d2 : decide ((c : Int) ≤ 122) = false := by simp; omega)
            first | (have d3 : ((c : Int) == 45) = true := by simp; omega) | (have d3 : ((c : Int) == 45) = false := by simp; omega)
            first | (have d4 : decide ((48 : Int) ≤ (c : Int)) = true := by simp; omega) | (have d4 : decide ((48 : Int) ≤ (c : Int)) = false := by simp; omega)
            first | (have d5 : decide ((c : Int) ≤ 57) = true := by simp; omega) | (have d5 : decide ((c : Int) ≤ 57) = false := by simp; omega)
            have H := hide h
            clear h
            go_wp2
            first
              | (go_ret; exact ⟨ret_bool (nameB_bad h8 HC (by have := HK.out; have := H.out; unfold okc; omega)), rfl⟩)
              | (go_round
                 case rel =>
                   refine ⟨k + 1, by omega, by go_num, fun j hj => ?_⟩
                   by_cases hjk : j = k
                   · rw [hjk, HC.out]; have := HK.out; have := H.out; unfold okc; omega
                   · exact HS.out j (by omega)
                 case measure => simp [intOf]; omega)
      · obtain rfl : k = s.size := by omega
        go_wp2
        go_ret
        exact ⟨ret_bool (by rw [nameB_end HS.out]; symm; rw [inB_t]; omega), rfl⟩
  · have h1' : s.size < 1 ∨ 24 < s.size := by omega
    by_cases h2 : s.size < 1
    · have e1 : decide (((s.size : Nat) : Int) < 1) = true := by simp; omega
      go_enter Try.func107, Try.ntmps107
      go_wp2
      go_ret
      exact ⟨ret_bool (nameB_long h1'), rfl⟩
    · have e1 : decide (((s.size : Nat) : Int) < 1) = false := by simp; omega
      have e2 : decide ((24 : Int) < ((s.size : Nat) : Int)) = true := by simp; omega
      go_enter Try.func107, Try.ntmps107
      go_wp2
      go_ret
      exact ⟨ret_bool (nameB_long h1'), rfl⟩
end Go.Proofs.Ytjnnkcnnandeeaa
