/- The plain part of window.Why and window.Rights. -/
import Derived.Test.YtdefnmcjmklohaaGreatP5
open Go Go.Proofs.YtdefnmcjmklohaaGreat.Sh Go.Proofs
namespace Go.Proofs.YtdefnmcjmklohaaGreat
set_option linter.unusedVariables false
set_option linter.unusedSimpArgs false
def whyS (p : WiPlan) (s : WiState) (sky : WiSky) (minute : Int) (k : Nat) : Int := whyP (p.teams.getD k default) (s.used.getD k 0) (s.last.getD k 0) (winAt p s.next) sky.kinds sky.wind minute
theorem PlanOk.win {p : WiPlan} (h : PlanOk p) {i : Int} (h1 : 0 ≤ i) (h2 : i < p.windows.length) : WinOk (winAt p i) := by
 obtain ⟨k, rfl⟩ := Int.eq_ofNat_of_zero_le h1
 unfold winAt
 rw [Int.toNat_natCast, getD_of _ (by omega)]
 exact h.ws _ (List.getElem_mem _)
/-- What is asked of the document. -/
structure Ask (F : Nat) (p : WiPlan) (s : WiState) (sky : WiSky) (m : Int) : Prop where
 f : PlanF F p
 o : StW p s
 n : s.next < p.windows.length
 k : SkyF F sky.kinds
 m : 0 ≤ m ∧ m ≤ 1440
theorem r_why_eq {F : Nat} {p : WiPlan} {s : WiState} {sky : WiSky} {m : Int} (h : Ask F p s sky m) {k : Nat} (hk : k < p.teams.length) : r_why F p s sky k m = some (whyS p s sky m k) := by
 have h1 := h.f.at hk
 have hw := h.o.po.win h.o.n.1 h.n
 have h2 := h.o.ls k hk
 have := h.o.u; have := h.o.c; have := h.o.l; have := h.o.n; have := h.k.k; have := h1.k; have := h1.a; have := hw.d; have := hw.u; have := h.m; have := h.n
 unfold r_why whyS whyP
 rw [getD_of _ hk, getD_of _ (show k < s.used.length by omega), getD_of _ (show k < s.last.length by omega), ixO_nat hk, ixO_nat (show k < s.used.length by omega), ixO_nat (show k < s.last.length by omega), winAt_ix (by omega) (by omega)]
 rw [getD_of _ (show k < s.last.length by omega)] at h2
 simp only [Option.bind_some]
 generalize winAt p s.next = w at *
 generalize p.teams[k] = e at *
 generalize hL : s.last[k] = la at *
 have e1 : ∀ c, r_why_L1 F e w (fun _ => c) F 0 = _ := fun c => why_L1 (by omega) c F 0 (by omega) (by omega)
 rw [e1, List.drop_zero, common_eq (by omega) (by omega) (by omega) (by omega), W_id (x := w.day - la), W_id (x := w.until_ - m)]
 simp only [Option.bind_some]
 by_cases c1 : e.need ≤ s.used[k]
 ·simp [c1]
 by_cases c2 : (e.away.any fun a => !outP w.day a.lo a.hi) = true
 ·simp only [c1, c2, if_true, if_false]
 by_cases c3 : la = -1
 ·have c3' : ¬ 0 ≤ la := by omega
  by_cases c5 : 0 < e.kinds.length <;> by_cases c6 : (e.kinds.any fun x => hasP sky.kinds x) = true <;> by_cases c7 : e.wind < sky.wind <;> by_cases c8 : w.until_ - m < e.setup <;> simp [c1, c2, c3, c5, c6, c7, c8]
 ·have c3' : 0 ≤ la := by omega
  by_cases c4 : w.day - la < e.rest <;> by_cases c5 : 0 < e.kinds.length <;> by_cases c6 : (e.kinds.any fun x => hasP sky.kinds x) = true <;> by_cases c7 : e.wind < sky.wind <;> by_cases c8 : w.until_ - m < e.setup <;> simp [c1, c2, c3, c3', c4, c5, c6, c7, c8]
def firstS (p : WiPlan) (s : WiState) : Int → Int → Bool := firstL p.teams s.used s.credit s.last
theorem r_first_eq {F : Nat} {p : WiPlan} {s : WiState} (h : StW p s) {a b : Int} (ha : 0 ≤ a ∧ a < p.teams.length) (hb : 0 ≤ b ∧ b < p.teams.length) : r_first F p s a b = some (firstS p s a b) := by
 obtain ⟨a, rfl⟩ := Int.eq_ofNat_of_zero_le ha.1
 obtain ⟨b, rfl⟩ := Int.eq_ofNat_of_zero_le hb.1
 have := h.u; have := h.c; have := h.l
 unfold r_first firstS firstL
 simp only [Int.toNat_natCast]
 rw [getD_of _ (show a < p.teams.length by omega), getD_of _ (show b < p.teams.length by omega), getD_of _ (show a < s.used.length by omega), getD_of _ (show b < s.used.length by omega), getD_of _ (show a < s.credit.length by omega), getD_of _ (show b < s.credit.length by omega), getD_of _ (show a < s.last.length by omega), getD_of _ (show b < s.last.length by omega)]
 rw [ixO_nat (show a < p.teams.length by omega), ixO_nat (show b < p.teams.length by omega), ixO_nat (show a < s.used.length by omega), ixO_nat (show b < s.used.length by omega), ixO_nat (show a < s.credit.length by omega), ixO_nat (show b < s.credit.length by omega), ixO_nat (show a < s.last.length by omega), ixO_nat (show b < s.last.length by omega)]
 simp only [Option.bind_some]
 unfold firstV
 by_cases h1 : p.teams[a].priority = p.teams[b].priority
 ·by_cases h2 : s.credit[a] = s.credit[b]
  ·by_cases h3 : s.used[a] = s.used[b]
   ·by_cases h4 : s.last[a] = s.last[b] <;> simp [h1, h2, h3, h4]
   ·simp [h1, h2, h3]
  ·simp [h1, h2]
 ·simp [h1]
theorem rRights_L1 {F : Nat} {p : WiPlan} {s : WiState} (h : StW p s) (K' : List Int → Option (List Int)) {x : Int} (hx : 0 ≤ x ∧ x < p.teams.length) : ∀ (n : Nat) (r B : List Int), r.length < n → r.length < 1000 → (∀ v ∈ r, 0 ≤ v ∧ v < p.teams.length) → r_rights_L1 F p s (fun d _ => K' d) n (r.reverse ++ x :: B) (r.length : Int) = K' ((insR (firstS p s) x r).reverse ++ B)
 | 0, r, B, h1, _, _ => absurd h1 (by omega)
 | n + 1, [], B, h1, h2, h3 => by
  rw [r_rights_L1, if_neg (by simp)]
  rfl
 | n + 1, y :: r, B, h1, h2, h3 => by
  have hl : (y :: r).length = r.length + 1 := rfl
  rw [r_rights_L1, if_pos (by omega)]
  have e1 := ix_app (y :: r).reverse B x
  have e2 := ix_app r.reverse (x :: B) y
  have e3 := set_app (y :: r).reverse B x y
  have e4 := ix_app r.reverse (y :: B) y
  have e5 := set_app r.reverse (y :: B) y x
  rw [List.length_reverse] at e1 e2 e3 e4 e5
  rw [List.reverse_cons, List.append_assoc, List.singleton_append] at e1 e3 ⊢
  have hw : W (((y :: r).length : Int) - 1) = (r.length : Int) := by rw [W_id] <;> omega
  rw [e1, Option.bind_some, hw, e2, Option.bind_some, r_first_eq h hx (h3 y (by simp)), Option.bind_some, insR]
  cases hc : firstS p s x y with
  | true =>
   rw [List.append_assoc] at e3
   rw [if_pos rfl, if_pos rfl, e3, Option.bind_some, List.singleton_append, e4, Option.bind_some, e5, Option.bind_some, rRights_L1 h K' hx n r (y :: B) (by omega) (by omega) (fun v hv => h3 v (by simp [hv])), List.reverse_cons, List.append_assoc]
   rfl
  | false => simp
def canS (p : WiPlan) (s : WiState) (sky : WiSky) (m : Int) (done : List Int) (k : Nat) : Bool := !hasP done k && decide (whyS p s sky m k = 0)
def rightsS (p : WiPlan) (s : WiState) (sky : WiSky) (m : Int) (done : List Int) : List Int := sortP (firstS p s) (pickFrom (canS p s sky m done) p.teams.length 0)
theorem rRights_L2 {F : Nat} {p : WiPlan} {s : WiState} {sky : WiSky} {m : Int} {done : List Int} (h : Ask F p s sky m) (hd : done.length < F ∧ done.length < 9223372036854775808) : ∀ (n k : Nat) (acc : List Int), p.teams.length < n + k → k ≤ p.teams.length → acc.length ≤ k → (∀ v ∈ acc, 0 ≤ v ∧ v < p.teams.length) → r_rights_L2 F p s sky m done (fun l _ => some l) n acc.reverse k = some (sortR (firstS p s) acc (pickFrom (canS p s sky m done) (p.teams.length - k) k)).reverse
 | 0, k, acc, h1, h2, _, _ => absurd h1 (by omega)
 | n + 1, k, acc, h1, h2, h3, h4 => by
  have ht := h.o.po.t; have hF := h.f.h
  rw [r_rights_L2]
  by_cases hk : k < p.teams.length
  ·have ih := rRights_L2 h hd n (k + 1) acc (by omega) (by omega) (by omega) h4
   have ih2 := rRights_L2 h hd n (k + 1) (insR (firstS p s) k acc) (by omega) (by omega) (by rw [insR_len]; omega) (fun v hv => by
    rcases insR_mem.1 hv with rfl | hv
    ·omega
    ·exact h4 v hv)
   rw [if_pos (by omega), r_why_eq h hk, Option.bind_some, has_eq hF (by omega) (by omega), Option.bind_some, app_one (by rw [List.length_reverse]; omega), Option.bind_some, W_succ (by omega), show W (((acc.reverse ++ [(k : Int)]).length : Int) - 1) = (acc.length : Int) by rw [List.length_append, List.length_reverse, List.length_singleton, W_id] <;> omega, rRights_L1 h.o _ (by omega) F acc [] (by omega) (by omega) h4, List.append_nil, ih, ih2, show p.teams.length - k = (p.teams.length - (k + 1)) + 1 by omega, pickFrom]
   unfold canS
   cases hasP done (k : Int)
   ·by_cases hw : whyS p s sky m k = 0 <;> simp [hw, sortR]
   ·simp
  ·rw [if_neg (by omega), show p.teams.length - k = 0 by omega]
   rfl
theorem r_rights_eq {F : Nat} {p : WiPlan} {s : WiState} {sky : WiSky} {m : Int} {done : List Int} (h : Ask F p s sky m) (hd : done.length < F ∧ done.length < 9223372036854775808) : r_rights F p s sky m done = some (rightsS p s sky m done) := by
 have := h.f.t
 have e1 : r_rights_L2 F p s sky m done (fun l _ => some l) F [] 0 = _ := rRights_L2 h hd F 0 [] (by omega) (by omega) (by simp) (by simp)
 exact e1
/-! ### at, Why, Rights -/
theorem rightsT_S {p : WiPlan} {s : WiState} {sky : WiSky} {m : Int} {t : Table} {done : List Int} (h1 : t.p_Teams = p.teams) (h2 : t.s_Used = s.used) (h3 : t.s_Credit = s.credit) (h4 : t.s_Last = s.last) (h5 : t.w = winAt p s.next) (h6 : t.sky_Kinds = sky.kinds) (h7 : t.sky_Wind = sky.wind) (h8 : t.minute = m) (h9 : ∀ k, doneT t k = hasP done k) : rightsT t = rightsS p s sky m done := by
 have hc : canT t = canS p s sky m done := by
  funext k
  unfold canT canS whyT whyS
  rw [h9, h1, h2, h4, h5, h6, h7, h8]
 unfold rightsT rightsS firstT firstS
 rw [hc, h1, h2, h3, h4]
theorem rightsS_len {p : WiPlan} {s : WiState} {sky : WiSky} {m : Int} {done : List Int} : (rightsS p s sky m done).length ≤ p.teams.length := by
 rw [rightsS, sortP_len]
 exact pick_len _ _ _
theorem rightsS_mem {p : WiPlan} {s : WiState} {sky : WiSky} {m : Int} {done : List Int} {v : Int} : v ∈ rightsS p s sky m done ↔ ∃ k : Nat, v = k ∧ k < p.teams.length ∧ canS p s sky m done k = true := by
 rw [rightsS, sortP_mem, pick_mem]
 constructor
 ·rintro ⟨j, h1, _, h2, h3⟩; exact ⟨j, h1, by omega, h3⟩
 ·rintro ⟨j, h1, h2, h3⟩; exact ⟨j, h1, by omega, by omega, h3⟩
end Go.Proofs.YtdefnmcjmklohaaGreat
