/- Sums of credits, counts of those who have a right, what is so of the one to whom a turn was given. -/
import Derived.Test.YtdefnmcjmklohaaP15
open Go Go.Proofs.Ytdefnmcjmklohaa.Sh Go.Proofs
namespace Go.Proofs.Ytdefnmcjmklohaa
set_option linter.unusedVariables false
set_option linter.unusedSimpArgs false
/-! ### Sums -/
theorem sum_set : ∀ (l : List Int) (i : Nat) (v : Int), i < l.length → (l.set i v).sum = l.sum - l.getD i 0 + v
 | [], i, v, h => by simp at h
 | x :: l, 0, v, _ => by
  simp only [List.set_cons_zero, List.sum_cons, List.getD_cons_zero]
  omega
 | x :: l, i + 1, v, h => by
  have := sum_set l i v (by simpa using h)
  simp only [List.set_cons_succ, List.sum_cons, List.getD_cons_succ]
  omega
theorem sum_bump : ∀ (l y : List Int), (∀ i ∈ l, 0 ≤ i ∧ i < y.length) → (bumpL y l).sum = y.sum + l.length
 | [], y, _ => by simp [bumpL]
 | i :: l, y, hv => by
  have h1 := hv i (by simp)
  obtain ⟨j, rfl⟩ := Int.eq_ofNat_of_zero_le h1.1
  rw [bumpL, sum_bump l _ (fun v h => by rw [List.length_set]; exact hv v (by simp [h])), Int.toNat_natCast, sum_set y j _ (by omega), List.length_cons]
  omega
theorem sum_bound : ∀ (l : List Int) (b : Int), Far b l → 0 ≤ b → -(b * l.length) ≤ l.sum ∧ l.sum ≤ b * l.length
 | [], b, _, _ => by simp
 | x :: l, b, h, hb => by
  have h0 := h 0
  simp only [List.getD_cons_zero] at h0
  have ih := sum_bound l b (fun k => by have := h (k + 1); simpa only [List.getD_cons_succ] using this) hb
  rw [List.sum_cons, List.length_cons]
  have : b * ((l.length + 1 : Nat) : Int) = b * l.length + b := by rw [Int.natCast_add, Int.mul_add]; simp
  omega
theorem take_sum (l : List Int) {k : Nat} (h : k < l.length) : (l.take (k + 1)).sum = (l.take k).sum + l[k] := by
 rw [List.take_succ_eq_append_getElem h, List.sum_append]
 simp
theorem lsum_L1 {F : Nat} {l : List Int} {b : Int} (hf : Far b l) (hb : 0 ≤ b ∧ b ≤ 1000000000) (hl : l.length ≤ 8) : ∀ (n k : Nat), l.length < n + k → k ≤ l.length → l_sum_L1 F l (fun v _ => some v) n (l.take k).sum k = some l.sum
 | 0, k, h1, h2 => absurd h1 (by omega)
 | n + 1, k, h1, h2 => by
  rw [l_sum_L1]
  by_cases hk : k < l.length
  ·have hft : Far b (l.take k) := fun j => by
    by_cases hj : j < k
    ·have := hf j
     rw [List.getD_eq_getElem?_getD, List.getElem?_take, if_pos hj, ← List.getD_eq_getElem?_getD]
     exact this
    ·rw [List.getD_eq_getElem?_getD, List.getElem?_take, if_neg hj]
     simp
     omega
   have hs := sum_bound (l.take k) b hft hb.1
   have hm : b * ((l.take k).length : Int) ≤ 8000000000 := by
    have h3 : ((l.take k).length : Int) ≤ 8 := by rw [List.length_take]; omega
    have h4 : (0 : Int) ≤ ((l.take k).length : Int) := by omega
    calc b * ((l.take k).length : Int) ≤ 1000000000 * 8 := Int.mul_le_mul hb.2 h3 h4 (by omega)
     _ = 8000000000 := by rfl
   have hx := hf k
   rw [getD_of _ hk] at hx
   rw [if_pos (by omega), ixO_nat hk, Option.bind_some, W_succ (by omega), W_id (x := (l.take k).sum + l[k]), ← take_sum l hk, lsum_L1 hf hb hl n (k + 1) (by omega) (by omega)]
  ·have : k = l.length := by omega
   subst this
   rw [if_neg (by omega), List.take_length]
theorem l_sum_eq {F : Nat} {l : List Int} {b : Int} (hf : Far b l) (hb : 0 ≤ b ∧ b ≤ 1000000000) (hl : l.length ≤ 8) (hF : 20 < F) : l_sum F l = some l.sum := by
 have e1 : l_sum_L1 F l (fun v _ => some v) F 0 0 = _ := lsum_L1 hf hb hl F 0 (by omega) (by omega)
 exact e1
/-! ### Counts -/
theorem pick_count {c : Nat → Bool} {f : Int → Bool} : ∀ (m k : Nat), (pickFrom c m k).countP f = (pickFrom (fun j => c j && f j) m k).length
 | 0, k => rfl
 | m + 1, k => by
  rw [pickFrom, pickFrom]
  have ih := pick_count (c := c) (f := f) m (k + 1)
  cases hc : c k with
  | true =>
   rw [if_pos rfl, List.countP_cons, ih]
   cases hf : f k with
   | true => simp
   | false => simp
  | false =>
   simp [ih]
section
variable {F : Nat} {p : WiPlan} {sky : WiSky} {s : WiState}
/-- Those who have a right now and had no turn, but for the one whose turn it is. -/
def leftF (done : List Int) (t : Int) (v : Int) : Bool := !decide (v = t) && !hasP done v
theorem left_count {d : Desk} {t : Int} (hw : ∀ m k, whyS p (stD d) sky m k = whyS p s sky m k) : (rightsS p s sky d.minute []).countP (leftF d.done t) = (others p sky d t).length := by
 unfold rightsS others
 rw [sortP_count, pick_count]
 congr 1
 refine pick_congr fun j _ _ => ?_
 have happ : hasP (d.done ++ [t]) (j : Int) = (hasP d.done j || decide ((j : Int) = t)) := by
  unfold hasP
  rw [List.any_append]
  simp
 unfold canS leftF
 rw [happ, hw]
 cases hasP d.done (j : Int) <;> by_cases h1 : (j : Int) = t <;> simp [hasP, h1]
/-- To whom the turn was given has a right, and had no turn; somebody gave it. -/
structure GivI (p : WiPlan) (sky : WiSky) (d : Desk) : Prop where
 c : 0 ≤ d.given → canS p (stD d) sky d.minute d.done d.given.toNat = true
 b : 0 ≤ d.given → 0 ≤ d.by_
theorem recv_can {d : Desk} {v : Int} (h : hasP (recvS p sky d) v = true) : canS p (stD d) sky d.minute (d.done ++ [turnS p sky d]) v.toNat = true := by
 rw [hasP_iff] at h
 unfold recvS at h
 split at h
 ·cases h
 split at h
 ·cases h
 obtain ⟨k, rfl, h1, h2⟩ := rightsS_mem.1 h
 rw [Int.toNat_natCast]
 exact h2
theorem act_giv {d : Desk} {x : WiTurn} (h0 : (actS p sky d x).2 = 0) (ho : (actS p sky d x).1.over = false) : GivI p sky (actS p sky d x).1 := by
 obtain ⟨ht, c1, c2, c3, c4, _, _, _, c8, c9, w1⟩ := act_calm h0 ho
 by_cases w3 : x.what = 3
 ·rw [if_pos w3] at c9
  unfold actS at h0 ⊢
  rw [if_neg ht] at h0 ⊢
  by_cases hw : outP x.what 1 3 = true
  ·rw [if_pos hw] at h0; cases h0
  rw [if_neg hw, if_pos w3] at h0 ⊢
  by_cases hg : 0 ≤ d.given
  ·rw [if_pos hg] at h0; cases h0
  rw [if_neg hg] at h0 ⊢
  by_cases hr : hasP (recvS p sky d) x.to_ = false
  ·rw [if_pos hr] at h0; cases h0
  rw [if_neg hr] at h0 ⊢
  by_cases ha : x.at_ ≠ d.minute
  ·rw [if_pos ha] at h0; cases h0
  rw [if_neg ha]
  refine ⟨fun _ => ?_, fun _ => ?_⟩
  ·have := recv_can (by simpa using hr : hasP (recvS p sky d) x.to_ = true)
   exact this
  ·show 0 ≤ turnS p sky d
   omega
 ·rw [if_neg w3] at c9
  exact ⟨fun h => by rw [c9] at h; omega, fun h => by rw [c9] at h; omega⟩
theorem giv_at {l : List WiTurn} {s : WiState} (h : (playS p sky (deskB p s) l).2 = 0) : ∀ {k : Nat}, k ≤ l.length → (deskAt p sky (deskB p s) l k).over = false → GivI p sky (deskAt p sky (deskB p s) l k)
 | 0, _, _ => ⟨fun h => absurd h (by show ¬ (0 : Int) ≤ -1; omega), fun h => absurd h (by show ¬ (0 : Int) ≤ -1; omega)⟩
 | k + 1, hk, ho => by
  obtain ⟨s1, s2⟩ := desk_step h (show k < l.length by omega)
  rw [s2] at ho ⊢
  exact act_giv s1 ho
/-- A turn that is given changes no sum. -/
theorem act_sum {c : Nat} {d : Desk} {x : WiTurn} (hd : DeskOk F p sky d c) (h0 : (actS p sky d x).2 = 0) (ho : (actS p sky d x).1.over = false) : (actS p sky d x).1.s_Credit.sum = d.s_Credit.sum := by
 obtain ⟨ht, _, _, _, _, _, _, _, _, _, w1⟩ := act_calm h0 ho
 have hcl : d.s_Credit.length = p.teams.length := hd.a.o.c
 have htl := turnS_lt hd
 unfold actS at h0 ⊢
 rw [if_neg ht] at h0 ⊢
 by_cases hw : outP x.what 1 3 = true
 ·rw [if_pos hw] at h0; cases h0
 rw [if_neg hw] at h0 ⊢
 by_cases w3 : x.what = 3
 ·rw [if_pos w3] at h0 ⊢
  by_cases hg : 0 ≤ d.given
  ·rw [if_pos hg] at h0; cases h0
  rw [if_neg hg] at h0 ⊢
  by_cases hr : hasP (recvS p sky d) x.to_ = false
  ·rw [if_pos hr] at h0; cases h0
  rw [if_neg hr] at h0 ⊢
  by_cases ha : x.at_ ≠ d.minute
  ·rw [if_pos ha] at h0; cases h0
  rw [if_neg ha]
  have hto := recvS_mem (by simpa using hr)
  show (giveC p d (turnS p sky d) x.to_).sum = _
  unfold giveC
  rw [sum_set _ _ _ (by rw [List.length_set]; omega), sum_set _ _ _ (by omega), getD_set, if_neg (by omega)]
  omega
 ·rw [if_neg w3] at h0 ⊢
  by_cases hb : x.to_ ≠ 0 ∨ outP x.at_ (if x.what = 1 then d.minute + (p.teams.getD (turnS p sky d).toNat default).setup else d.minute) (winAt p d.s_Next).until_ = true
  ·rw [if_pos hb] at h0; cases h0
  rw [if_neg hb, if_neg w1]
theorem sum_at (h : PlanF F p) (hs : SkyF F sky.kinds) (ha : askedE p s sky = 0) {l : List WiTurn} (h0 : (playS p sky (deskB p s) l).2 = 0) : ∀ {k : Nat}, k ≤ l.length → (deskAt p sky (deskB p s) l k).over = false → (deskAt p sky (deskB p s) l k).s_Credit.sum = s.credit.sum
 | 0, _, _ => rfl
 | k + 1, hk, ho => by
  obtain ⟨s1, s2⟩ := desk_step h0 (show k < l.length by omega)
  have ih := sum_at h hs ha h0 (k := k) (by omega) (over_back h0 (by omega))
  rw [s2] at ho ⊢
  rw [act_sum (desk_ok_at h hs ha h0 (by omega)) s1 ho, ih]
theorem launch_sum {c : Nat} {d : Desk} (hd : DeskOk F p sky d c) {t : Int} (ht : 0 ≤ t ∧ t < p.teams.length) : (launchC p sky d t).sum = d.s_Credit.sum + (others p sky d t).length - p.cost := by
 have hcl : d.s_Credit.length = p.teams.length := hd.a.o.c
 unfold launchC
 rw [sum_set _ _ _ (by rw [bumpL_len]; omega), sum_bump _ _ (fun i hi => by have := others_mem hi; omega)]
 omega
end
end Go.Proofs.Ytdefnmcjmklohaa
