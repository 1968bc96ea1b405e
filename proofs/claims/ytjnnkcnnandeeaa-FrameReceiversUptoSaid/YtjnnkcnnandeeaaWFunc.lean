/- The walks of slices.IndexFunc and ContainsFunc, for whatever predicate that leaves memory as it is but for new blocks. -/
import Derived.Test.YtjnnkcnnandeeaaWOut
import Derived.Test.YtjnnkcnnandeeaaOwn
import Derived.Shelf.Abstract
namespace Go.Proofs.Ytjnnkcnnandeeaa
open Go.RowKit
/-- The first index below n at which p holds, or -1. -/
def firstIdx (p : Nat → Bool) : Nat → Int
  | 0 => -1
  | n + 1 => if firstIdx p n ≥ 0 then firstIdx p n else if p n then n else -1
theorem firstIdx_none {p : Nat → Bool} {n : Nat} (h : ∀ j, j < n → p j = false) : firstIdx p n = -1 := by
  induction n with
  | zero => rfl
  | succ n ih => rw [firstIdx, ih (fun j hj => h j (by omega)), h n (by omega)]; rfl
theorem firstIdx_some {p : Nat → Bool} {n k : Nat} (h : ∀ j, j < k → p j = false) (hk : k < n) (hp : p k = true) : firstIdx p n = k := by
  induction n with
  | zero => omega
  | succ n ih =>
    by_cases hkn : k < n
    · rw [firstIdx, ih hkn, if_pos (by omega)]
    · obtain rfl : k = n := by omega
      rw [firstIdx, firstIdx_none h, hp]; simp
/-- A function value that tells of each element whether p holds. -/
def Tells (w : World) (g : FuncId) (lb : Array Value) (el : Nat → Value) (n : Nat) (p : Nat → Bool) : Prop :=
  ∀ k w1, k < n → Ext w w1 → Calls Try.prog g (#[el k] ++ lb) w1 fun e w2 => e = .returned (.bool (p k)) ∧ Ext w1 w2
/-- Whether p holds at some index below n. -/
def anyB (p : Nat → Bool) (n : Nat) : Bool := decide (0 ≤ firstIdx p n)
theorem anyB_t {p : Nat → Bool} {n : Nat} : anyB p n = true ↔ ∃ j, j < n ∧ p j = true := by
  unfold anyB
  rw [decide_eq_true_iff]
  induction n with
  | zero => simp [firstIdx]
  | succ n ih =>
    rw [firstIdx]
    by_cases h : firstIdx p n ≥ 0
    · rw [if_pos h]
      constructor
      · intro _; obtain ⟨j, h1, h2⟩ := ih.1 h; exact ⟨j, by omega, h2⟩
      · intro _; exact h
    · rw [if_neg h]
      have hno : ¬ ∃ j, j < n ∧ p j = true := fun hh => h (ih.2 hh)
      cases hp : p n with
      | true => simp only [if_true]; exact ⟨fun _ => ⟨n, by omega, hp⟩, fun _ => by omega⟩
      | false =>
        simp only [Bool.false_eq_true, if_false]
        constructor
        · intro hh; omega
        · rintro ⟨j, h1, h2⟩
          by_cases hjn : j = n
          · rw [hjn, hp] at h2; cases h2
          · exact absurd ⟨j, by omega, h2⟩ hno
theorem anyB_f {p : Nat → Bool} {n : Nat} : anyB p n = false ↔ ∀ j, j < n → p j = false := by
  rw [← Bool.not_eq_true, anyB_t]
  constructor
  · intro h j hj
    cases hp : p j with
    | false => rfl
    | true => exact absurd ⟨j, hj, hp⟩ h
  · rintro h ⟨j, hj, hp⟩
    rw [h j hj] at hp; cases hp
set_option maxRecDepth 100000 in
set_option maxHeartbeats 400000 in
theorem indexFunc_int (g : FuncId) (lb : Array Value) (heg : Enters Try.prog g) (v : Value) (l : List Int) (p : Nat → Bool) (w : World) (hp : Tells w g lb (fun k => .int .i64 (l.getD k 0)) l.length p)
    (hv : IntsV w .i64 v l) :
    Calls Try.prog 108 #[v, .func (.func g) #[] lb] w fun e w' => e = .returned (.int .i64 (firstIdx p l.length)) ∧ Ext w w' := by
  obtain ⟨A, cap, rfl, hcap, hmax, hrow⟩ := hv
  have hm : cap ≤ 9223372036854775807 := by simpa [maxLen] using hmax
  have HP := hide hp
  clear hp hmax
  unfold Enters at heg
  go_enter Try.func108, Try.ntmps108
  go_wp2_with fail
  go_loopw [8] (fun i wr => Ext w wr ∧ ∃ k : Nat, k ≤ l.length ∧ i = .int .i64 k ∧ ∀ j, j < k → p j = false) (fun i _ => l.length - (intOf i).toNat)
  case atStart => exact ⟨Ext.refl _, 0, by omega, rfl, fun j hj => absurd hj (by omega)⟩
  case round =>
    obtain ⟨hext, k, hk, rfl, hsame⟩ := hrel
    have HS := hide hsame
    clear hsame
    by_cases h8 : k < l.length
    · obtain ⟨b, off, x, rfl, _, hck, HX⟩ := ints_at (hrow.ext hext) h8
      clear hrow
      have hc := HP.out k wr h8 hext
      dsimp only at hc
      rw [HX.out] at hc
      have HC := hide hc
      clear hc
      cases hpk : p k with
      | false =>
        have HPK := hide hpk
        clear hpk
        go_wp2_with fail
        refine Calls.mono HC.out ?_
        rintro e w2 ⟨rfl, hx2⟩
        rw [HPK.out]
        go_wp2_with fail
        go_roundw
        case rel =>
          refine ⟨hext.trans hx2, k + 1, by omega, by go_num, fun j hj => ?_⟩
          by_cases hjk : j = k
          · rw [hjk]; exact HPK.out
          · exact HS.out j (by omega)
        case measure => simp [intOf]; omega
      | true =>
        have HPK := hide hpk
        clear hpk
        go_wp2_with fail
        refine Calls.mono HC.out ?_
        rintro e w2 ⟨rfl, hx2⟩
        rw [HPK.out]
        go_wp2_with fail
        go_ret
        exact ⟨ret_int (firstIdx_some HS.out h8 HPK.out).symm, hext.trans hx2⟩
    · obtain rfl : k = l.length := by omega
      go_wp2_with fail
      go_ret
      exact ⟨ret_int (firstIdx_none HS.out).symm, hext⟩
set_option maxRecDepth 100000 in
set_option maxHeartbeats 400000 in
theorem indexFunc_chan (g : FuncId) (lb : Array Value) (heg : Enters Try.prog g) (v : Value) (l : List Chan) (p : Nat → Bool) (w : World) (hp : Tells w g lb (fun k => (l.getD k default).val) l.length p)
    (hv : ChansV w v l) :
    Calls Try.prog 106 #[v, .func (.func g) #[] lb] w fun e w' => e = .returned (.int .i64 (firstIdx p l.length)) ∧ Ext w w' := by
  obtain ⟨A, cap, rfl, hcap, hmax, hrow⟩ := hv
  have hm : cap ≤ 9223372036854775807 := by simpa [maxLen] using hmax
  have HP := hide hp
  clear hp hmax
  unfold Enters at heg
  go_enter Try.func106, Try.ntmps106
  go_wp2_with fail
  go_loopw [8] (fun i wr => Ext w wr ∧ ∃ k : Nat, k ≤ l.length ∧ i = .int .i64 k ∧ ∀ j, j < k → p j = false) (fun i _ => l.length - (intOf i).toNat)
  case atStart => exact ⟨Ext.refl _, 0, by omega, rfl, fun j hj => absurd hj (by omega)⟩
  case round =>
    obtain ⟨hext, k, hk, rfl, hsame⟩ := hrel
    have HS := hide hsame
    clear hsame
    by_cases h8 : k < l.length
    · obtain ⟨b, off, nm, wd, ev, ph, rfl, _, hck0, hck1, hck2, hck3, HX⟩ := chans_at (hrow.ext hext) h8
      clear hrow
      have hc := HP.out k wr h8 hext
      dsimp only at hc
      rw [HX.out] at hc
      unfold Chan.val at hc
      dsimp only at hc
      have HC := hide hc
      clear hc
      cases hpk : p k with
      | false =>
        have HPK := hide hpk
        clear hpk
        go_wp2_with fail
        refine Calls.mono HC.out ?_
        rintro e w2 ⟨rfl, hx2⟩
        rw [HPK.out]
        go_wp2_with fail
        go_roundw
        case rel =>
          refine ⟨hext.trans hx2, k + 1, by omega, by go_num, fun j hj => ?_⟩
          by_cases hjk : j = k
          · rw [hjk]; exact HPK.out
          · exact HS.out j (by omega)
        case measure => simp [intOf]; omega
      | true =>
        have HPK := hide hpk
        clear hpk
        go_wp2_with fail
        refine Calls.mono HC.out ?_
        rintro e w2 ⟨rfl, hx2⟩
        rw [HPK.out]
        go_wp2_with fail
        go_ret
        exact ⟨ret_int (firstIdx_some HS.out h8 HPK.out).symm, hext.trans hx2⟩
    · obtain rfl : k = l.length := by omega
      go_wp2_with fail
      go_ret
      exact ⟨ret_int (firstIdx_none HS.out).symm, hext⟩
set_option maxRecDepth 100000 in
set_option maxHeartbeats 400000 in
theorem containsFunc_int (g : FuncId) (lb : Array Value) (heg : Enters Try.prog g) (v : Value) (l : List Int) (p : Nat → Bool) (w : World) (hp : Tells w g lb (fun k => .int .i64 (l.getD k 0)) l.length p)
    (hv : IntsV w .i64 v l) :
    Calls Try.prog 81 #[v, .func (.func g) #[] lb] w fun e w' => e = .returned (.bool (anyB p l.length)) ∧ Ext w w' := by
  have HC := hide (indexFunc_int g lb heg v l p w hp hv)
  clear hp hv heg
  go_enter Try.func81, Try.ntmps81
  go_wp2_with (go_at_call 108; refine Calls.mono HC.out ?_; rintro e w1 ⟨rfl, hx⟩)
  go_ret
  exact ⟨ret_bool (by simp [anyB]), hx⟩
set_option maxRecDepth 100000 in
set_option maxHeartbeats 400000 in
theorem containsFunc_chan (g : FuncId) (lb : Array Value) (heg : Enters Try.prog g) (v : Value) (l : List Chan) (p : Nat → Bool) (w : World) (hp : Tells w g lb (fun k => (l.getD k default).val) l.length p)
    (hv : ChansV w v l) :
    Calls Try.prog 75 #[v, .func (.func g) #[] lb] w fun e w' => e = .returned (.bool (anyB p l.length)) ∧ Ext w w' := by
  have HC := hide (indexFunc_chan g lb heg v l p w hp hv)
  clear hp hv heg
  go_enter Try.func75, Try.ntmps75
  go_wp2_with (go_at_call 106; refine Calls.mono HC.out ?_; rintro e w1 ⟨rfl, hx⟩)
  go_ret
  exact ⟨ret_bool (by simp [anyB]), hx⟩
end Go.Proofs.Ytjnnkcnnandeeaa
