/- The plain part of window.Check, Start, CheckState, continued. -/
import Derived.Test.YtdefnmcjmklohaaP1
open Go Go.Proofs.Ytdefnmcjmklohaa.Sh Go.Proofs
namespace Go.Proofs.Ytdefnmcjmklohaa
set_option linter.unusedVariables false
set_option linter.unusedSimpArgs false
/-! ### Teams -/
def sameN (a b : WiTeam) : Bool := decide (a.name.toList = b.name.toList)
theorem Check_2_eq (F : Nat) (a b : WiTeam) : window_Check_2 F a b = some (sameN a b) := by
 unfold window_Check_2 sameN
 split <;> simp [*]
theorem IxTeam_L1 {F : Nat} {s : List WiTeam} {f : WiTeam → Option Bool} {p : WiTeam → Bool} (hf : ∀ x, f x = some (p x)) (hl : s.length < 9223372036854775808) : ∀ (n k : Nat), s.length < n + k → k ≤ s.length → ∃ x, slices_IndexFunc_WiTeam_L1 F s f (fun _ => some (-1)) n k = some x ∧ decide (0 ≤ x) = (s.drop k).any p
 | 0, k, h, h2 => absurd h (by omega)
 | n + 1, k, h, h2 => by
  rw [slices_IndexFunc_WiTeam_L1]
  by_cases hk : k < s.length
  ·rw [if_pos (by omega), ixO_nat hk, Option.bind_some, hf, Option.bind_some, List.drop_eq_getElem_cons hk, List.any_cons, W_succ (by omega)]
   cases hp : p s[k] with
   | true => exact ⟨_, rfl, by simp⟩
   | false =>
    obtain ⟨x, e1, e2⟩ := IxTeam_L1 (F := F) hf hl n (k + 1) (by omega) (by omega)
    exact ⟨x, by simpa using e1, by simpa using e2⟩
  ·rw [if_neg (by omega), List.drop_of_length_le (by omega)]
   exact ⟨_, rfl, by simp⟩
theorem HasTeam_eq {F : Nat} {s : List WiTeam} {f : WiTeam → Option Bool} {p : WiTeam → Bool} (hf : ∀ x, f x = some (p x)) (hl : s.length < 9223372036854775808) (hF : s.length < F) : slices_ContainsFunc_WiTeam F s f = some (s.any p) := by
 obtain ⟨x, e1, e2⟩ := IxTeam_L1 (F := F) hf hl F 0 (by omega) (by omega)
 unfold slices_ContainsFunc_WiTeam slices_IndexFunc_WiTeam
 rw [show (0 : Int) = ((0 : Nat) : Int) from rfl, e1]
 simpa using e2
theorem cut_nat {α : Type} {l : List α} {k : Nat} (h : k ≤ l.length) : cutO l 0 (k : Int) = some (l.take k) := by
 unfold cutO
 rw [if_pos (by omega)]
 simp
def teamE (all : List WiTeam) (k : Nat) (e : WiTeam) : Int :=
 if nameP e.name = false then 6 else if (all.take k).any (fun u => sameN u e) = true then 5
 else if (outP e.priority 1 9 || outP e.need 0 100 || outP e.credit 0 100000 || outP e.wind 0 1000 || outP e.rest 0 100 || outP e.setup 1 1440) = true then 7
 else if mixedP (-1) e.kinds = true then 2 else if 10 < (e.away.length : Int) then 3 else if spansP (-1) e.away = true then 2 else 0
def teamsE (all : List WiTeam) : Nat → List WiTeam → Option (Nat × Int)
 | _, [] => none
 | k, e :: l => if teamE all k e = 0 then teamsE all (k + 1) l else some (k, teamE all k e)
/-- Lists that are not too long, for fuel F. -/
structure TeamF (F : Nat) (e : WiTeam) : Prop where
 n : e.name.size < F ∧ e.name.size < 9223372036854775808
 k : e.kinds.length < F ∧ e.kinds.length < 9223372036854775808
 a : e.away.length < F ∧ e.away.length < 9223372036854775808
structure PlanF (F : Nat) (p : WiPlan) : Prop where
 b : p.teams.length < 9223372036854775808 ∧ p.windows.length < 9223372036854775808
 t : p.teams.length < F
 w : p.windows.length < F
 f : ∀ e ∈ p.teams, TeamF F e
 h : 20 < F
theorem PlanF.at {F : Nat} {p : WiPlan} (h : PlanF F p) {k : Nat} (hk : k < p.teams.length) : TeamF F p.teams[k] := h.f _ (List.getElem_mem hk)
theorem Check_L2 {F : Nat} {p : WiPlan} (h : PlanF F p) (c : Option (Int × Int × Int)) : ∀ (n k : Nat), p.teams.length < n + k → k ≤ p.teams.length → window_Check_L2 F p (fun _ => c) n k = match teamsE p.teams k (p.teams.drop k) with | some (i, e) => some (2, i, e) | none => c
 | 0, k, h1, h2 => absurd h1 (by omega)
 | n + 1, k, h1, h2 => by
  have hb := h.b; have ht := h.t
  rw [window_Check_L2]
  by_cases hk : k < p.teams.length
  ·have h0 := h.at hk
   have := h0.n; have := h0.k; have := h0.a
   rw [if_pos (by omega), ixO_nat hk, Option.bind_some, wind_Name_eq (by omega) (by omega), Option.bind_some, cut_nat (by omega), Option.bind_some, HasTeam_eq (p := fun u => sameN u p.teams[k]) (fun x => Check_2_eq F x _) (by rw [List.length_take]; omega) (by rw [List.length_take]; omega), Option.bind_some, W_succ (by omega), Check_L2 h c n (k + 1) (by omega) (by omega), List.drop_eq_getElem_cons hk, teamsE]
   obtain ⟨f, hs⟩ := Spans_eq (F := F) (s := p.teams[k].away) (by omega) (by omega)
   simp only [window_out_eq, Option.bind_some, mixed_eq (F := F) (l := p.teams[k].kinds) (by omega) (by omega), hs]
   generalize hE : p.teams[k] = E
   unfold teamE
   cases nameP E.name
   ·rfl
   cases (List.take k p.teams).any fun u => sameN u E
   case true => rfl
   cases outP E.priority 1 9
   case true => rfl
   cases outP E.need 0 100
   case true => rfl
   cases outP E.credit 0 100000
   case true => rfl
   cases outP E.wind 0 1000
   case true => rfl
   cases outP E.rest 0 100
   case true => rfl
   cases outP E.setup 1 1440
   case true => rfl
   cases mixedP (-1) E.kinds
   case true => rfl
   by_cases ha : 10 < (E.away.length : Int)
   ·simp [ha]
   cases spansP (-1) E.away <;> simp [ha]
  ·rw [if_neg (by omega), List.drop_of_length_le (by omega)]
   rfl
/-! ### Windows -/
theorem Compare_eq (F : Nat) (x y : Int) : cmp_Compare_int F x y = some (if x < y then -1 else if y < x then 1 else 0) := by
 unfold cmp_Compare_int cmp_isNaN_int
 simp
 split
 ·rfl
 ·split <;> rfl
theorem Or2_eq {F : Nat} (hF : 20 < F) (a : Int) : cmp_Or_int F [a, 1] = some (if a = 0 then 1 else a) := by
 obtain ⟨m, rfl⟩ : ∃ m, F = m + 3 := ⟨F - 3, by omega⟩
 unfold cmp_Or_int
 rw [cmp_Or_int_L1]
 by_cases h : a = 0
 ·subst h
  rw [cmp_Or_int_L1]
  simp [ixO, W_id]
 ·simp [ixO, h]
def prevW (ws : List WiWindow) (k : Nat) (w : WiWindow) : Bool := match ws[k - 1]? with
 | some b => decide (0 < k) && (decide (w.day < b.day) || (decide (w.day = b.day) && decide (w.from_ < b.until_)))
 | none => false
def windowE (ws : List WiWindow) (k : Nat) (w : WiWindow) : Int :=
 if (outP w.day 0 3650 || outP w.until_ 0 1440 || outP w.from_ 0 (w.until_ - 1)) = true then 7 else if prevW ws k w = true then 2 else 0
def windowsE (all : List WiWindow) : Nat → List WiWindow → Option (Nat × Int)
 | _, [] => none
 | k, e :: l => if windowE all k e = 0 then windowsE all (k + 1) l else some (k, windowE all k e)
theorem Check_L1 {F : Nat} {p : WiPlan} (h : PlanF F p) (c : Option (Int × Int × Int)) : ∀ (n k : Nat), p.windows.length < n + k → k ≤ p.windows.length → window_Check_L1 F p (fun _ => c) n k = match windowsE p.windows k (p.windows.drop k) with | some (i, e) => some (3, i, e) | none => c
 | 0, k, h1, h2 => absurd h1 (by omega)
 | n + 1, k, h1, h2 => by
  have hb := h.b; have hw := h.w
  rw [window_Check_L1]
  by_cases hk : k < p.windows.length
  ·rw [if_pos (by omega), ixO_nat hk, Option.bind_some, W_succ (by omega), Check_L1 h c n (k + 1) (by omega) (by omega), List.drop_eq_getElem_cons hk, windowsE]
   simp only [window_out_eq, Option.bind_some]
   generalize hE : p.windows[k] = E
   unfold windowE
   cases h1 : outP E.day 0 3650
   case true => simp
   cases h2 : outP E.until_ 0 1440
   case true => simp
   have h3 := outP_false h2
   rw [W_id]
   cases h4 : outP E.from_ 0 (E.until_ - 1)
   case true => simp
   by_cases h0 : 0 < k
   ·simp only [Or2_eq h.h, Compare_eq, Option.bind_some]
    rw [if_neg (by simp), if_neg (by simp), if_neg (by simp), if_pos (by omega), W_pred h0 (by omega), ixO_nat (by omega), Option.bind_some]
    unfold prevW
    rw [List.getElem?_eq_getElem (by omega)]
    by_cases h6 : E.day < p.windows[k - 1].day
    ·simp [h6, h0]
    ·by_cases h7 : E.day = p.windows[k - 1].day
     ·by_cases h8 : E.from_ < p.windows[k - 1].until_ <;> simp [h7, h8, h0]
     ·have : p.windows[k - 1].day < E.day := by omega
      simp [h6, h7, this]
   ·have : k = 0 := by omega
    subst this
    unfold prevW
    cases p.windows[0 - 1]? <;> simp
  ·rw [if_neg (by omega), List.drop_of_length_le (by omega)]
   rfl
/-! ### Check -/
def checkP (p : WiPlan) : Int × Int × Int :=
 if outP p.teams.length 1 8 = true then (1, 0, 3) else if (outP p.cost 0 100 || outP p.gift 0 100) = true then (1, 0, 7)
 else match teamsE p.teams 0 p.teams with
  | some (i, e) => (2, i, e)
  | none => if 60 < (p.windows.length : Int) then (3, 0, 3) else match windowsE p.windows 0 p.windows with
   | some (i, e) => (3, i, e)
   | none => (0, 0, 0)
theorem window_Check_eq {F : Nat} {p : WiPlan} (h : PlanF F p) : window_Check F p = some (checkP p) := by
 have hb := h.b; have ht := h.t; have hw := h.w
 unfold window_Check checkP
 simp only [window_out_eq, Option.bind_some]
 have e2 : ∀ c, window_Check_L2 F p (fun _ => c) F 0 = _ := fun c => Check_L2 h c F 0 (by omega) (by omega)
 have e1 : ∀ c, window_Check_L1 F p (fun _ => c) F 0 = _ := fun c => Check_L1 h c F 0 (by omega) (by omega)
 rw [e2, e1]
 clear e1 e2
 cases outP p.teams.length 1 8
 case true => rfl
 cases outP p.cost 0 100
 case true => rfl
 cases outP p.gift 0 100
 case true => rfl
 rw [List.drop_zero, List.drop_zero]
 cases teamsE p.teams 0 p.teams with
 | some x => rfl
 | none =>
  by_cases h6 : 60 < (p.windows.length : Int)
  ·simp [h6]
  ·cases windowsE p.windows 0 p.windows <;> simp [h6]
end Go.Proofs.Ytdefnmcjmklohaa
