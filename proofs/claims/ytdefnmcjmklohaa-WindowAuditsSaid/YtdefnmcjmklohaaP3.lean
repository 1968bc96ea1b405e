/- The plain part of window.Start and CheckState, and of the statement about them. -/
import Derived.Test.YtdefnmcjmklohaaP2
open Go Go.Proofs.Ytdefnmcjmklohaa.Sh Go.Proofs
namespace Go.Proofs.Ytdefnmcjmklohaa
set_option linter.unusedVariables false
set_option linter.unusedSimpArgs false
/-! ### What a plan that passes is -/
structure TeamOk (e : WiTeam) : Prop where
 p : 1 ≤ e.priority ∧ e.priority ≤ 9
 n : 0 ≤ e.need ∧ e.need ≤ 100
 c : 0 ≤ e.credit ∧ e.credit ≤ 100000
 w : 0 ≤ e.wind ∧ e.wind ≤ 1000
 r : 0 ≤ e.rest ∧ e.rest ≤ 100
 s : 1 ≤ e.setup ∧ e.setup ≤ 1440
 a : e.away.length ≤ 10
structure WinOk (w : WiWindow) : Prop where
 d : 0 ≤ w.day ∧ w.day ≤ 3650
 u : 0 ≤ w.until_ ∧ w.until_ ≤ 1440
 f : 0 ≤ w.from_ ∧ w.from_ < w.until_
structure PlanOk (p : WiPlan) : Prop where
 t : 1 ≤ p.teams.length ∧ p.teams.length ≤ 8
 w : p.windows.length ≤ 60
 c : 0 ≤ p.cost ∧ p.cost ≤ 100
 g : 0 ≤ p.gift ∧ p.gift ≤ 100
 ts : ∀ e ∈ p.teams, TeamOk e
 ws : ∀ w ∈ p.windows, WinOk w
theorem teamE_ok {all : List WiTeam} {k : Nat} {e : WiTeam} (h : teamE all k e = 0) : TeamOk e := by
 unfold teamE at h
 split at h
 ·cases h
 split at h
 ·cases h
 split at h
 ·cases h
 rename_i h3
 simp only [Bool.or_eq_true, not_or, Bool.not_eq_true] at h3
 split at h
 ·cases h
 split at h
 ·cases h
 exact ⟨outP_false h3.1.1.1.1.1, outP_false h3.1.1.1.1.2, outP_false h3.1.1.1.2, outP_false h3.1.1.2, outP_false h3.1.2, outP_false h3.2, by omega⟩
theorem teamsE_err {all : List WiTeam} : ∀ {l : List WiTeam} {k i : Nat} {e : Int}, teamsE all k l = some (i, e) → e ≠ 0
 | [], k, i, e, h => by cases h
 | x :: l, k, i, e, h => by
  unfold teamsE at h
  split at h
  ·exact teamsE_err h
  ·injection h with h; injection h with _ h; subst h; assumption
theorem teamsE_ok {all : List WiTeam} : ∀ {l : List WiTeam} {k : Nat}, teamsE all k l = none → ∀ e ∈ l, TeamOk e
 | [], k, h, e, he => by cases he
 | x :: l, k, h, e, he => by
  unfold teamsE at h
  split at h
  ·rename_i h2
   rcases List.mem_cons.1 he with rfl | he
   ·exact teamE_ok h2
   ·exact teamsE_ok h e he
  ·cases h
theorem windowE_ok {all : List WiWindow} {k : Nat} {e : WiWindow} (h : windowE all k e = 0) : WinOk e := by
 unfold windowE at h
 split at h
 ·cases h
 rename_i h3
 simp only [Bool.or_eq_true, not_or, Bool.not_eq_true] at h3
 have := outP_false h3.2
 exact ⟨outP_false h3.1.1, outP_false h3.1.2, by omega⟩
theorem windowsE_err {all : List WiWindow} : ∀ {l : List WiWindow} {k i : Nat} {e : Int}, windowsE all k l = some (i, e) → e ≠ 0
 | [], k, i, e, h => by cases h
 | x :: l, k, i, e, h => by
  unfold windowsE at h
  split at h
  ·exact windowsE_err h
  ·injection h with h; injection h with _ h; subst h; assumption
theorem windowsE_ok {all : List WiWindow} : ∀ {l : List WiWindow} {k : Nat}, windowsE all k l = none → ∀ e ∈ l, WinOk e
 | [], k, h, e, he => by cases he
 | x :: l, k, h, e, he => by
  unfold windowsE at h
  split at h
  ·rename_i h2
   rcases List.mem_cons.1 he with rfl | he
   ·exact windowE_ok h2
   ·exact windowsE_ok h e he
  ·cases h
theorem checkP_ok {p : WiPlan} (h : (checkP p).2.2 = 0) : PlanOk p := by
 unfold checkP at h
 split at h
 ·cases h
 rename_i h1
 split at h
 ·cases h
 rename_i h2
 simp only [Bool.or_eq_true, not_or, Bool.not_eq_true] at h1 h2
 split at h
 ·rename_i h3; exact absurd h (teamsE_err h3)
 rename_i h3
 split at h
 ·cases h
 split at h
 ·rename_i h4; exact absurd h (windowsE_err h4)
 rename_i h4
 have := outP_false h1
 exact ⟨by omega, by omega, outP_false h2.1, outP_false h2.2, teamsE_ok h3, windowsE_ok h4⟩
/-! ### Start -/
def startP (p : WiPlan) : WiState := ⟨p.teams.map fun _ => 0, p.teams.map (·.credit), p.teams.map fun _ => -1, 0⟩
theorem app_one {α : Type} {l : List α} {a : α} (h : l.length < 100000) : appO l [a] = some (l ++ [a]) := by
 unfold appO
 rw [if_pos (by simp; omega)]
theorem map_take_succ {α β : Type} (f : α → β) {l : List α} {k : Nat} (h : k < l.length) : (l.take k).map f ++ [f l[k]] = (l.take (k + 1)).map f := by
 rw [List.take_succ_eq_append_getElem h, List.map_append]
 rfl
theorem Start_L1 {F : Nat} {p : WiPlan} (hl : p.teams.length ≤ 8) (K : List Int → List Int → List Int → Int → Option (WiState × Int)) : ∀ (n k : Nat), p.teams.length < n + k → k ≤ p.teams.length → window_Start_L1 F p K n ((p.teams.take k).map fun _ => 0) ((p.teams.take k).map (·.credit)) ((p.teams.take k).map fun _ => -1) k = K (startP p).used (startP p).credit (startP p).last p.teams.length
 | 0, k, h1, h2 => absurd h1 (by omega)
 | n + 1, k, h1, h2 => by
  rw [window_Start_L1]
  by_cases hk : k < p.teams.length
  ·have hk' : ∀ {β : Type} (f : WiTeam → β), ((p.teams.take k).map f).length < 100000 := fun f => by rw [List.length_map, List.length_take]; omega
   rw [if_pos (by omega), ixO_nat hk, Option.bind_some, app_one (hk' _), Option.bind_some, app_one (hk' _), Option.bind_some, app_one (hk' _), Option.bind_some, W_succ (by omega), map_take_succ (fun x => x.credit) hk, map_take_succ (fun _ => (0 : Int)) hk, map_take_succ (fun _ => (-1 : Int)) hk, Start_L1 hl K n (k + 1) (by omega) (by omega)]
  ·have : k = p.teams.length := by omega
   subst this
   rw [if_neg (by omega), List.take_length]
   rfl
def emptyS : WiState := ⟨[], [], [], 0⟩
def startR (p : WiPlan) : WiState × Int := if (checkP p).2.2 = 0 then (startP p, 0) else (emptyS, (checkP p).2.2)
theorem window_Start_eq {F : Nat} {p : WiPlan} (h : PlanF F p) : window_Start F p = some (startR p) := by
 have ht := h.t
 unfold window_Start startR
 rw [window_Check_eq h, Option.bind_some]
 by_cases hc : (checkP p).2.2 = 0
 ·have e1 : ∀ K, window_Start_L1 F p K F [] [] [] 0 = _ := fun K => Start_L1 (checkP_ok hc).t.2 K F 0 (by omega) (by omega)
  rw [if_pos hc, if_pos hc, e1]
  rfl
 ·rw [if_neg hc, if_neg hc]
  rfl
/-! ### CheckState -/
def badAt (s : WiState) (k : Nat) : Bool := outP (s.used.getD k 0) 0 100 || outP (s.credit.getD k 0) (-100000) 200000 || outP (s.last.getD k 0) (-1) 3650
def badFrom (s : WiState) : Nat → Nat → Bool
 | 0, _ => false
 | n + 1, k => badAt s k || badFrom s n (k + 1)
theorem getD_of {α : Type} {l : List α} {k : Nat} (d : α) (h : k < l.length) : l.getD k d = l[k] := by simp [List.getD_eq_getElem?_getD, List.getElem?_eq_getElem h]
theorem CS_L1 {F : Nat} {p : WiPlan} {s : WiState} (hl : p.teams.length ≤ 8) (h1 : s.used.length = p.teams.length) (h2 : s.credit.length = p.teams.length) (h3 : s.last.length = p.teams.length) : ∀ (n k : Nat), p.teams.length < n + k → k ≤ p.teams.length → window_CheckState_L1 F p s (fun _ => some 0) n k = some (if badFrom s (p.teams.length - k) k = true then 7 else 0)
 | 0, k, h4, h5 => absurd h4 (by omega)
 | n + 1, k, h4, h5 => by
  rw [window_CheckState_L1]
  by_cases hk : k < p.teams.length
  ·rw [if_pos (by omega), ixO_nat (by omega), Option.bind_some, ixO_nat (by omega), ixO_nat (by omega)]
   simp only [window_out_eq, Option.bind_some]
   rw [W_succ (by omega), CS_L1 hl h1 h2 h3 n (k + 1) (by omega) (by omega), show p.teams.length - k = (p.teams.length - (k + 1)) + 1 by omega, badFrom, badAt, getD_of _ (by omega), getD_of _ (by omega), getD_of _ (by omega)]
   cases outP s.used[k] 0 100
   case true => rfl
   cases outP s.credit[k] (-100000) 200000
   case true => rfl
   cases outP s.last[k] (-1) 3650 <;> simp
  ·rw [if_neg (by omega), show p.teams.length - k = 0 by omega]
   rfl
def stateE (p : WiPlan) (s : WiState) : Int :=
 if (checkP p).2.2 ≠ 0 then (checkP p).2.2 else if s.used.length ≠ p.teams.length ∨ s.credit.length ≠ p.teams.length ∨ s.last.length ≠ p.teams.length then 2
 else if outP s.next 0 p.windows.length = true then 7 else if badFrom s p.teams.length 0 = true then 7 else 0
theorem window_CheckState_eq {F : Nat} {p : WiPlan} (h : PlanF F p) (s : WiState) : window_CheckState F p s = some (stateE p s) := by
 have ht := h.t
 unfold window_CheckState stateE
 rw [window_Check_eq h, Option.bind_some]
 by_cases hc : (checkP p).2.2 = 0
 ·rw [if_pos hc, if_neg (show ¬ (checkP p).2.2 ≠ 0 by simp [hc])]
  by_cases h1 : s.used.length = p.teams.length
  ·by_cases h2 : s.credit.length = p.teams.length
   ·by_cases h3 : s.last.length = p.teams.length
    ·have e1 : window_CheckState_L1 F p s (fun _ => some 0) F 0 = _ := CS_L1 (checkP_ok hc).t.2 h1 h2 h3 F 0 (by omega) (by omega)
     rw [if_pos (by omega), if_pos (by omega), if_pos (by omega), if_neg (by omega), window_out_eq, Option.bind_some, e1]
     cases outP s.next 0 p.windows.length <;> simp
    ·rw [if_pos (by omega), if_pos (by omega), if_neg (by omega), if_pos (by omega)]
   ·rw [if_pos (by omega), if_neg (by omega), if_pos (by omega)]
  ·rw [if_neg (by omega), if_pos (by omega)]
 ·rw [if_neg hc, if_pos hc]
/-! ### Lists and states compared -/
structure StateF (F : Nat) (s : WiState) : Prop where
 b : s.used.length < 9223372036854775808 ∧ s.credit.length < 9223372036854775808 ∧ s.last.length < 9223372036854775808
 u : s.used.length < F
 c : s.credit.length < F
 l : s.last.length < F
/-! ### Enough fuel -/
theorem le_sum {α : Type} (f : α → Nat) : ∀ {l : List α} {e : α}, e ∈ l → f e ≤ (l.map f).sum
 | x :: l, e, h => by
  rw [List.map_cons, List.sum_cons]
  rcases List.mem_cons.1 h with rfl | h
  ·omega
  ·have := le_sum f h; omega
theorem planF_ex {p : WiPlan} (h1 : p.teams.length < 9223372036854775808) (h2 : p.windows.length < 9223372036854775808) (h3 : ∀ e ∈ p.teams, e.name.size < 9223372036854775808 ∧ e.kinds.length < 9223372036854775808 ∧ e.away.length < 9223372036854775808) : ∃ F0, ∀ F, F0 ≤ F → PlanF F p := by
 refine ⟨21 + p.teams.length + p.windows.length + (p.teams.map fun e => e.name.size + e.kinds.length + e.away.length).sum + 1, fun F hF => ⟨⟨h1, h2⟩, by omega, by omega, fun e he => ?_, by omega⟩⟩
 have := le_sum (fun e => e.name.size + e.kinds.length + e.away.length) he
 obtain ⟨a, b, c⟩ := h3 e he
 exact ⟨⟨by omega, a⟩, ⟨by omega, b⟩, ⟨by omega, c⟩⟩
end Go.Proofs.Ytdefnmcjmklohaa
