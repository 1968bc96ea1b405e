/- The plain part of window.Check, Start, CheckState: the program's and the document's answers are the same. -/
import Derived.Test.YtdefnmcjmklohaaW2
set_option linter.unusedVariables false
set_option linter.unusedSimpArgs false
open Go Go.Proofs.Ytdefnmcjmklohaa.Sh Go.Proofs
namespace Go.Proofs.Ytdefnmcjmklohaa
theorem W_id {x : Int} (h : -9223372036854775808 ≤ x := by omega) (k : x < 9223372036854775808 := by omega) : W x = x := by
 unfold W IntKind.wrap
 simp [IntKind.bits, IntKind.signed]
 omega
theorem W_succ {k : Nat} (h : k < 9223372036854775807) : W ((k : Int) + 1) = ((k + 1 : Nat) : Int) := by rw [W_id]; omega
theorem W_pred {k : Nat} (h : 0 < k) (h2 : k < 9223372036854775808) : W ((k : Int) - 1) = ((k - 1 : Nat) : Int) := by rw [W_id]; omega
theorem ixO_nat {α : Type} {l : List α} {k : Nat} (h : k < l.length) : ixO l (k : Int) = some l[k] := by
 unfold ixO
 rw [if_pos (Int.natCast_nonneg k), Int.toNat_natCast, List.getElem?_eq_getElem h]
def outP (n lo hi : Int) : Bool := decide (n < lo ∨ hi < n)
theorem window_out_eq (F : Nat) (n lo hi : Int) : window_out F n lo hi = some (outP n lo hi) := by
 unfold window_out outP
 split <;> simp [*]
theorem wind_out_eq (F : Nat) (n lo hi : Int) : wind_out F n lo hi = some (outP n lo hi) := by
 unfold wind_out outP
 split <;> simp [*]
def mixedP : Int → List Int → Bool
 | _, [] => false
 | b, x :: l => outP x (b + 1) 9 || mixedP x l
theorem outP_false {n lo hi : Int} (h : outP n lo hi = false) : lo ≤ n ∧ n ≤ hi := by
 unfold outP at h
 simp at h
 omega
theorem mixed_L1 {F : Nat} {l : List Int} (hl : l.length < 9223372036854775808) : ∀ (n k : Nat) (b : Int), l.length < n + k → k ≤ l.length → -1 ≤ b → b ≤ 9 → window_mixed_L1 F l (fun _ _ => some false) n b k = some (mixedP b (l.drop k))
 | 0, k, b, h, h2, _, _ => absurd h (by omega)
 | n + 1, k, b, h, h2, h3, h4 => by
  rw [window_mixed_L1]
  by_cases hk : k < l.length
  ·rw [if_pos (by omega), ixO_nat hk, Option.bind_some, W_id, window_out_eq, Option.bind_some, List.drop_eq_getElem_cons hk, mixedP]
   cases ho : outP l[k] (b + 1) 9 with
   | true => simp
   | false =>
    have := outP_false ho
    rw [if_neg (by simp), W_succ (by omega), mixed_L1 hl n (k + 1) _ (by omega) (by omega) (by omega) (by omega)]
    simp
  ·rw [if_neg (by omega), List.drop_of_length_le (by omega)]
   rfl
theorem mixed_eq {F : Nat} {l : List Int} (hl : l.length < 9223372036854775808) (hF : l.length < F) : window_mixed F l = some (mixedP (-1) l) := by
 have := mixed_L1 (F := F) hl F 0 (-1) (by omega) (by omega) (by omega) (by omega)
 simpa [window_mixed] using this
def chOk (k : Nat) (e : Int) : Bool := (decide (97 ≤ e) && decide (e ≤ 122)) || (decide (k ≠ 0) && (decide (e = 45) || (decide (48 ≤ e) && decide (e ≤ 57))))
def charsP : Nat → List Int → Bool
 | _, [] => true
 | k, e :: l => chOk k e && charsP (k + 1) l
theorem bytesL_len (s : ByteArray) : (bytesL s).length = s.size := by simp [bytesL]
theorem chOk_ite {α : Type} (k : Nat) (e : Int) (A B : α) (k' : Int) (hk : k' = k) : (if 97 ≤ e then (if e ≤ 122 then A else (if k' = 0 then B else (if e = 45 then A else (if 48 ≤ e then (if e ≤ 57 then A else B) else B)))) else (if k' = 0 then B else (if e = 45 then A else (if 48 ≤ e then (if e ≤ 57 then A else B) else B)))) = if chOk k e = true then A else B := by
 subst hk
 unfold chOk
 by_cases h1 : 97 ≤ e <;> by_cases h2 : e ≤ 122 <;> by_cases h3 : k = 0 <;> by_cases h4 : e = 45 <;> by_cases h5 : 48 ≤ e <;> by_cases h6 : e ≤ 57 <;> simp [*] <;> omega
theorem Name_L1 {F : Nat} {s : ByteArray} (hl : (bytesL s).length < 9223372036854775808) (c : Option Bool) : ∀ (n k : Nat), (bytesL s).length < n + k → k ≤ (bytesL s).length → wind_Name_L1 F s (fun _ => c) n k = if charsP k ((bytesL s).drop k) = true then c else some false
 | 0, k, h, h2 => absurd h (by omega)
 | n + 1, k, h, h2 => by
  rw [wind_Name_L1]
  by_cases hk : k < (bytesL s).length
  ·rw [if_pos (by omega), ixO_nat hk, Option.bind_some, chOk_ite k _ _ _ _ rfl, W_succ (by omega), Name_L1 hl c n (k + 1) (by omega) (by omega), List.drop_eq_getElem_cons hk, charsP]
   cases chOk k (bytesL s)[k] <;> simp
  ·rw [if_neg (by omega), List.drop_of_length_le (by omega)]
   rfl
def nameP (s : ByteArray) : Bool := charsP 0 (bytesL s) && !outP s.size 1 24
theorem wind_Name_eq {F : Nat} {s : ByteArray} (hl : s.size < 9223372036854775808) (hF : s.size < F) : wind_Name F s = some (nameP s) := by
 have hs := bytesL_len s
 have := Name_L1 (F := F) (s := s) (by omega) (some (!outP s.size 1 24)) F 0 (by omega) (by omega)
 unfold wind_Name
 simp only [wind_out_eq, Option.bind_some]
 rw [show (0 : Int) = ((0 : Nat) : Int) from rfl, this, List.drop_zero, nameP]
 cases charsP 0 (bytesL s) <;> simp
def spansP : Int → List Span → Bool
 | _, [] => false
 | b, a :: l => (outP a.lo (b + 1) 3650 || outP a.hi a.lo 3650) || spansP a.hi l
theorem Check_1_eq {F : Nat} {a : Span} {c : Int} (h : -1 ≤ c) (h2 : c ≤ 3650) : window_Check_1 F a c = some (outP a.lo (c + 1) 3650 || outP a.hi a.lo 3650, a.hi) := by
 unfold window_Check_1
 rw [W_id, window_out_eq, Option.bind_some, window_out_eq]
 cases outP a.lo (c + 1) 3650 <;> simp
theorem Spans_L1 {F : Nat} {s : List Span} (hl : s.length < 9223372036854775808) : ∀ (n k : Nat) (b : Int), s.length < n + k → k ≤ s.length → -1 ≤ b → b ≤ 3650 → ∃ f x, slices_IndexFunc_Span_window_Check_1_L1 F s (fun f _ => some (-1, f)) n b k = some (x, f) ∧ decide (0 ≤ x) = spansP b (s.drop k)
 | 0, k, b, h, h2, _, _ => absurd h (by omega)
 | n + 1, k, b, h, h2, h3, h4 => by
  rw [slices_IndexFunc_Span_window_Check_1_L1]
  by_cases hk : k < s.length
  ·rw [if_pos (by omega), ixO_nat hk, Option.bind_some, Check_1_eq h3 h4, Option.bind_some, List.drop_eq_getElem_cons hk, spansP, W_succ (by omega)]
   cases ho : outP s[k].lo (b + 1) 3650 || outP s[k].hi s[k].lo 3650 with
   | true => exact ⟨_, _, rfl, by simp⟩
   | false =>
    rw [Bool.or_eq_false_iff] at ho
    have h5 := outP_false ho.1
    have h6 := outP_false ho.2
    obtain ⟨f, x, e1, e2⟩ := Spans_L1 (F := F) hl n (k + 1) s[k].hi (by omega) (by omega) (by omega) (by omega)
    exact ⟨f, x, by simpa using e1, by simpa using e2⟩
  ·rw [if_neg (by omega), List.drop_of_length_le (by omega)]
   exact ⟨_, _, rfl, by simp [spansP]⟩
theorem Spans_eq {F : Nat} {s : List Span} (hl : s.length < 9223372036854775808) (hF : s.length < F) : ∃ f, slices_ContainsFunc_Span_window_Check_1 F s (-1) = some (spansP (-1) s, f) := by
 obtain ⟨f, x, e1, e2⟩ := Spans_L1 (F := F) hl F 0 (-1) (by omega) (by omega) (by omega) (by omega)
 refine ⟨f, ?_⟩
 unfold slices_ContainsFunc_Span_window_Check_1 slices_IndexFunc_Span_window_Check_1
 rw [show (0 : Int) = ((0 : Nat) : Int) from rfl, e1]
 simpa using e2
end Go.Proofs.Ytdefnmcjmklohaa
open Go Go.Proofs.Ytdefnmcjmklohaa.Sh Go.Proofs
namespace Go.Proofs.Ytdefnmcjmklohaa
def sameN (a b : WiTeam) : Bool := decide (a.name.toList = b.name.toList)
theorem Check_2_eq (F : Nat) (a b : WiTeam) : window_Check_2 F a b = some (sameN a b) := by
 unfold window_Check_2 sameN
 split <;> simp [*]
theorem IxTeam_L1 {F : Nat} {s : List WiTeam} {f : WiTeam → Option Bool} {p : WiTeam → Bool} (hf : ∀ x, f x = some (p x)) (hl : s.length < 9223372036854775808) : ∀ (n k : Nat), s.length < n + k → k ≤ s.length → ∃ x, slices_IndexFunc_WiTeam_L1 F s f (fun _ => some (-1)) n k = some x ∧ decide (0 ≤ x) = (s.drop k).any p
 | 0, k, h, h2 => absurd h (by omega)
 | n + 1, k, h, h2 => by
  rw [slices_IndexFunc_WiTeam_L1]
  by_cases hk : k < s.length
  ·rw [if_pos (by omega), ixO_nat hk, Option.bind_some, hf, Option.bind_some, List.drop_eq_getElem_cons hk, List.any_cons, W_succ (by omega)]
   cases hp : p s[k] with
   | true => exact ⟨_, rfl, by simp⟩
   | false =>
    obtain ⟨x, e1, e2⟩ := IxTeam_L1 (F := F) hf hl n (k + 1) (by omega) (by omega)
    exact ⟨x, by simpa using e1, by simpa using e2⟩
  ·rw [if_neg (by omega), List.drop_of_length_le (by omega)]
   exact ⟨_, rfl, by simp⟩
theorem HasTeam_eq {F : Nat} {s : List WiTeam} {f : WiTeam → Option Bool} {p : WiTeam → Bool} (hf : ∀ x, f x = some (p x)) (hl : s.length < 9223372036854775808) (hF : s.length < F) : slices_ContainsFunc_WiTeam F s f = some (s.any p) := by
 obtain ⟨x, e1, e2⟩ := IxTeam_L1 (F := F) hf hl F 0 (by omega) (by omega)
 unfold slices_ContainsFunc_WiTeam slices_IndexFunc_WiTeam
 rw [show (0 : Int) = ((0 : Nat) : Int) from rfl, e1]
 simpa using e2
theorem cut_nat {α : Type} {l : List α} {k : Nat} (h : k ≤ l.length) : cutO l 0 (k : Int) = some (l.take k) := by
 unfold cutO
 rw [if_pos (by omega)]
 simp
def teamE (all : List WiTeam) (k : Nat) (e : WiTeam) : Int :=
 if nameP e.name = false then 6 else if (all.take k).any (fun u => sameN u e) = true then 5
 else if (outP e.priority 1 9 || outP e.need 0 100 || outP e.credit 0 100000 || outP e.wind 0 1000 || outP e.rest 0 100 || outP e.setup 1 1440) = true then 7
 else if mixedP (-1) e.kinds = true then 2 else if 10 < (e.away.length : Int) then 3 else if spansP (-1) e.away = true then 2 else 0
def teamsE (all : List WiTeam) : Nat → List WiTeam → Option (Nat × Int)
 | _, [] => none
 | k, e :: l => if teamE all k e = 0 then teamsE all (k + 1) l else some (k, teamE all k e)
structure TeamF (F : Nat) (e : WiTeam) : Prop where
 n : e.name.size < F ∧ e.name.size < 9223372036854775808
 k : e.kinds.length < F ∧ e.kinds.length < 9223372036854775808
 a : e.away.length < F ∧ e.away.length < 9223372036854775808
structure PlanF (F : Nat) (p : WiPlan) : Prop where
 b : p.teams.length < 9223372036854775808 ∧ p.windows.length < 9223372036854775808
 t : p.teams.length < F
 w : p.windows.length < F
 f : ∀ e ∈ p.teams, TeamF F e
 h : 20 < F
theorem PlanF.at {F : Nat} {p : WiPlan} (h : PlanF F p) {k : Nat} (hk : k < p.teams.length) : TeamF F p.teams[k] := h.f _ (List.getElem_mem hk)
theorem Check_L2 {F : Nat} {p : WiPlan} (h : PlanF F p) (c : Option (Int × Int × Int)) : ∀ (n k : Nat), p.teams.length < n + k → k ≤ p.teams.length → window_Check_L2 F p (fun _ => c) n k = match teamsE p.teams k (p.teams.drop k) with | some (i, e) => some (2, i, e) | none => c
 | 0, k, h1, h2 => absurd h1 (by omega)
 | n + 1, k, h1, h2 => by
  have hb := h.b; have ht := h.t
  rw [window_Check_L2]
  by_cases hk : k < p.teams.length
  ·have h0 := h.at hk
   have := h0.n; have := h0.k; have := h0.a
   rw [if_pos (by omega), ixO_nat hk, Option.bind_some, wind_Name_eq (by omega) (by omega), Option.bind_some, cut_nat (by omega), Option.bind_some, HasTeam_eq (p := fun u => sameN u p.teams[k]) (fun x => Check_2_eq F x _) (by rw [List.length_take]; omega) (by rw [List.length_take]; omega), Option.bind_some, W_succ (by omega), Check_L2 h c n (k + 1) (by omega) (by omega), List.drop_eq_getElem_cons hk, teamsE]
   obtain ⟨f, hs⟩ := Spans_eq (F := F) (s := p.teams[k].away) (by omega) (by omega)
   simp only [window_out_eq, Option.bind_some, mixed_eq (F := F) (l := p.teams[k].kinds) (by omega) (by omega), hs]
   generalize hE : p.teams[k] = E
   unfold teamE
   cases nameP E.name
   ·rfl
   cases (List.take k p.teams).any fun u => sameN u E
   case true => rfl
   cases outP E.priority 1 9
   case true => rfl
   cases outP E.need 0 100
   case true => rfl
   cases outP E.credit 0 100000
   case true => rfl
   cases outP E.wind 0 1000
   case true => rfl
   cases outP E.rest 0 100
   case true => rfl
   cases outP E.setup 1 1440
   case true => rfl
   cases mixedP (-1) E.kinds
   case true => rfl
   by_cases ha : 10 < (E.away.length : Int)
   ·simp [ha]
   cases spansP (-1) E.away <;> simp [ha]
  ·rw [if_neg (by omega), List.drop_of_length_le (by omega)]
   rfl
theorem Compare_eq (F : Nat) (x y : Int) : cmp_Compare_int F x y = some (if x < y then -1 else if y < x then 1 else 0) := by
 unfold cmp_Compare_int cmp_isNaN_int
 simp
 split
 ·rfl
 ·split <;> rfl
theorem Or2_eq {F : Nat} (hF : 20 < F) (a : Int) : cmp_Or_int F [a, 1] = some (if a = 0 then 1 else a) := by
 obtain ⟨m, rfl⟩ : ∃ m, F = m + 3 := ⟨F - 3, by omega⟩
 unfold cmp_Or_int
 rw [cmp_Or_int_L1]
 by_cases h : a = 0
 ·subst h
  rw [cmp_Or_int_L1]
  simp [ixO, W_id]
 ·simp [ixO, h]
def prevW (ws : List WiWindow) (k : Nat) (w : WiWindow) : Bool := match ws[k - 1]? with
 | some b => decide (0 < k) && (decide (w.day < b.day) || (decide (w.day = b.day) && decide (w.from_ < b.until_)))
 | none => false
def windowE (ws : List WiWindow) (k : Nat) (w : WiWindow) : Int :=
 if (outP w.day 0 3650 || outP w.until_ 0 1440 || outP w.from_ 0 (w.until_ - 1)) = true then 7 else if prevW ws k w = true then 2 else 0
def windowsE (all : List WiWindow) : Nat → List WiWindow → Option (Nat × Int)
 | _, [] => none
 | k, e :: l => if windowE all k e = 0 then windowsE all (k + 1) l else some (k, windowE all k e)
theorem Check_L1 {F : Nat} {p : WiPlan} (h : PlanF F p) (c : Option (Int × Int × Int)) : ∀ (n k : Nat), p.windows.length < n + k → k ≤ p.windows.length → window_Check_L1 F p (fun _ => c) n k = match windowsE p.windows k (p.windows.drop k) with | some (i, e) => some (3, i, e) | none => c
 | 0, k, h1, h2 => absurd h1 (by omega)
 | n + 1, k, h1, h2 => by
  have hb := h.b; have hw := h.w
  rw [window_Check_L1]
  by_cases hk : k < p.windows.length
  ·rw [if_pos (by omega), ixO_nat hk, Option.bind_some, W_succ (by omega), Check_L1 h c n (k + 1) (by omega) (by omega), List.drop_eq_getElem_cons hk, windowsE]
   simp only [window_out_eq, Option.bind_some]
   generalize hE : p.windows[k] = E
   unfold windowE
   cases h1 : outP E.day 0 3650
   case true => simp
   cases h2 : outP E.until_ 0 1440
   case true => simp
   have h3 := outP_false h2
   rw [W_id]
   cases h4 : outP E.from_ 0 (E.until_ - 1)
   case true => simp
   by_cases h0 : 0 < k
   ·simp only [Or2_eq h.h, Compare_eq, Option.bind_some]
    rw [if_neg (by simp), if_neg (by simp), if_neg (by simp), if_pos (by omega), W_pred h0 (by omega), ixO_nat (by omega), Option.bind_some]
    unfold prevW
    rw [List.getElem?_eq_getElem (by omega)]
    by_cases h6 : E.day < p.windows[k - 1].day
    ·simp [h6, h0]
    ·by_cases h7 : E.day = p.windows[k - 1].day
     ·by_cases h8 : E.from_ < p.windows[k - 1].until_ <;> simp [h7, h8, h0]
     ·have : p.windows[k - 1].day < E.day := by omega
      simp [h6, h7, this]
   ·have : k = 0 := by omega
    subst this
    unfold prevW
    cases p.windows[0 - 1]? <;> simp
  ·rw [if_neg (by omega), List.drop_of_length_le (by omega)]
   rfl
def checkP (p : WiPlan) : Int × Int × Int :=
 if outP p.teams.length 1 8 = true then (1, 0, 3) else if (outP p.cost 0 100 || outP p.gift 0 100) = true then (1, 0, 7)
 else match teamsE p.teams 0 p.teams with
  | some (i, e) => (2, i, e)
  | none => if 60 < (p.windows.length : Int) then (3, 0, 3) else match windowsE p.windows 0 p.windows with
   | some (i, e) => (3, i, e)
   | none => (0, 0, 0)
theorem window_Check_eq {F : Nat} {p : WiPlan} (h : PlanF F p) : window_Check F p = some (checkP p) := by
 have hb := h.b; have ht := h.t; have hw := h.w
 unfold window_Check checkP
 simp only [window_out_eq, Option.bind_some]
 have e2 : ∀ c, window_Check_L2 F p (fun _ => c) F 0 = _ := fun c => Check_L2 h c F 0 (by omega) (by omega)
 have e1 : ∀ c, window_Check_L1 F p (fun _ => c) F 0 = _ := fun c => Check_L1 h c F 0 (by omega) (by omega)
 rw [e2, e1]
 clear e1 e2
 cases outP p.teams.length 1 8
 case true => rfl
 cases outP p.cost 0 100
 case true => rfl
 cases outP p.gift 0 100
 case true => rfl
 rw [List.drop_zero, List.drop_zero]
 cases teamsE p.teams 0 p.teams with
 | some x => rfl
 | none =>
  by_cases h6 : 60 < (p.windows.length : Int)
  ·simp [h6]
  ·cases windowsE p.windows 0 p.windows <;> simp [h6]
end Go.Proofs.Ytdefnmcjmklohaa
open Go Go.Proofs.Ytdefnmcjmklohaa.Sh Go.Proofs
namespace Go.Proofs.Ytdefnmcjmklohaa
structure TeamOk (e : WiTeam) : Prop where
 p : 1 ≤ e.priority ∧ e.priority ≤ 9
 n : 0 ≤ e.need ∧ e.need ≤ 100
 c : 0 ≤ e.credit ∧ e.credit ≤ 100000
 w : 0 ≤ e.wind ∧ e.wind ≤ 1000
 r : 0 ≤ e.rest ∧ e.rest ≤ 100
 s : 1 ≤ e.setup ∧ e.setup ≤ 1440
 a : e.away.length ≤ 10
structure WinOk (w : WiWindow) : Prop where
 d : 0 ≤ w.day ∧ w.day ≤ 3650
 u : 0 ≤ w.until_ ∧ w.until_ ≤ 1440
 f : 0 ≤ w.from_ ∧ w.from_ < w.until_
structure PlanOk (p : WiPlan) : Prop where
 t : 1 ≤ p.teams.length ∧ p.teams.length ≤ 8
 w : p.windows.length ≤ 60
 c : 0 ≤ p.cost ∧ p.cost ≤ 100
 g : 0 ≤ p.gift ∧ p.gift ≤ 100
 ts : ∀ e ∈ p.teams, TeamOk e
 ws : ∀ w ∈ p.windows, WinOk w
theorem teamE_ok {all : List WiTeam} {k : Nat} {e : WiTeam} (h : teamE all k e = 0) : TeamOk e := by
 unfold teamE at h
 split at h
 ·cases h
 split at h
 ·cases h
 split at h
 ·cases h
 rename_i h3
 simp only [Bool.or_eq_true, not_or, Bool.not_eq_true] at h3
 split at h
 ·cases h
 split at h
 ·cases h
 exact ⟨outP_false h3.1.1.1.1.1, outP_false h3.1.1.1.1.2, outP_false h3.1.1.1.2, outP_false h3.1.1.2, outP_false h3.1.2, outP_false h3.2, by omega⟩
theorem teamsE_err {all : List WiTeam} : ∀ {l : List WiTeam} {k i : Nat} {e : Int}, teamsE all k l = some (i, e) → e ≠ 0
 | [], k, i, e, h => by cases h
 | x :: l, k, i, e, h => by
  unfold teamsE at h
  split at h
  ·exact teamsE_err h
  ·injection h with h; injection h with _ h; subst h; assumption
theorem teamsE_ok {all : List WiTeam} : ∀ {l : List WiTeam} {k : Nat}, teamsE all k l = none → ∀ e ∈ l, TeamOk e
 | [], k, h, e, he => by cases he
 | x :: l, k, h, e, he => by
  unfold teamsE at h
  split at h
  ·rename_i h2
   rcases List.mem_cons.1 he with rfl | he
   ·exact teamE_ok h2
   ·exact teamsE_ok h e he
  ·cases h
theorem windowE_ok {all : List WiWindow} {k : Nat} {e : WiWindow} (h : windowE all k e = 0) : WinOk e := by
 unfold windowE at h
 split at h
 ·cases h
 rename_i h3
 simp only [Bool.or_eq_true, not_or, Bool.not_eq_true] at h3
 have := outP_false h3.2
 exact ⟨outP_false h3.1.1, outP_false h3.1.2, by omega⟩
theorem windowsE_err {all : List WiWindow} : ∀ {l : List WiWindow} {k i : Nat} {e : Int}, windowsE all k l = some (i, e) → e ≠ 0
 | [], k, i, e, h => by cases h
 | x :: l, k, i, e, h => by
  unfold windowsE at h
  split at h
  ·exact windowsE_err h
  ·injection h with h; injection h with _ h; subst h; assumption
theorem windowsE_ok {all : List WiWindow} : ∀ {l : List WiWindow} {k : Nat}, windowsE all k l = none → ∀ e ∈ l, WinOk e
 | [], k, h, e, he => by cases he
 | x :: l, k, h, e, he => by
  unfold windowsE at h
  split at h
  ·rename_i h2
   rcases List.mem_cons.1 he with rfl | he
   ·exact windowE_ok h2
   ·exact windowsE_ok h e he
  ·cases h
theorem checkP_ok {p : WiPlan} (h : (checkP p).2.2 = 0) : PlanOk p := by
 unfold checkP at h
 split at h
 ·cases h
 rename_i h1
 split at h
 ·cases h
 rename_i h2
 simp only [Bool.or_eq_true, not_or, Bool.not_eq_true] at h1 h2
 split at h
 ·rename_i h3; exact absurd h (teamsE_err h3)
 rename_i h3
 split at h
 ·cases h
 split at h
 ·rename_i h4; exact absurd h (windowsE_err h4)
 rename_i h4
 have := outP_false h1
 exact ⟨by omega, by omega, outP_false h2.1, outP_false h2.2, teamsE_ok h3, windowsE_ok h4⟩
def startP (p : WiPlan) : WiState := ⟨p.teams.map fun _ => 0, p.teams.map (·.credit), p.teams.map fun _ => -1, 0⟩
theorem app_one {α : Type} {l : List α} {a : α} (h : l.length < 100000) : appO l [a] = some (l ++ [a]) := by
 unfold appO
 rw [if_pos (by simp; omega)]
theorem map_take_succ {α β : Type} (f : α → β) {l : List α} {k : Nat} (h : k < l.length) : (l.take k).map f ++ [f l[k]] = (l.take (k + 1)).map f := by
 rw [List.take_succ_eq_append_getElem h, List.map_append]
 rfl
theorem Start_L1 {F : Nat} {p : WiPlan} (hl : p.teams.length ≤ 8) (K : List Int → List Int → List Int → Int → Option (WiState × Int)) : ∀ (n k : Nat), p.teams.length < n + k → k ≤ p.teams.length → window_Start_L1 F p K n ((p.teams.take k).map fun _ => 0) ((p.teams.take k).map (·.credit)) ((p.teams.take k).map fun _ => -1) k = K (startP p).used (startP p).credit (startP p).last p.teams.length
 | 0, k, h1, h2 => absurd h1 (by omega)
 | n + 1, k, h1, h2 => by
  rw [window_Start_L1]
  by_cases hk : k < p.teams.length
  ·have hk' : ∀ {β : Type} (f : WiTeam → β), ((p.teams.take k).map f).length < 100000 := fun f => by rw [List.length_map, List.length_take]; omega
   rw [if_pos (by omega), ixO_nat hk, Option.bind_some, app_one (hk' _), Option.bind_some, app_one (hk' _), Option.bind_some, app_one (hk' _), Option.bind_some, W_succ (by omega), map_take_succ (fun x => x.credit) hk, map_take_succ (fun _ => (0 : Int)) hk, map_take_succ (fun _ => (-1 : Int)) hk, Start_L1 hl K n (k + 1) (by omega) (by omega)]
  ·have : k = p.teams.length := by omega
   subst this
   rw [if_neg (by omega), List.take_length]
   rfl
def emptyS : WiState := ⟨[], [], [], 0⟩
def startR (p : WiPlan) : WiState × Int := if (checkP p).2.2 = 0 then (startP p, 0) else (emptyS, (checkP p).2.2)
theorem window_Start_eq {F : Nat} {p : WiPlan} (h : PlanF F p) : window_Start F p = some (startR p) := by
 have ht := h.t
 unfold window_Start startR
 rw [window_Check_eq h, Option.bind_some]
 by_cases hc : (checkP p).2.2 = 0
 ·have e1 : ∀ K, window_Start_L1 F p K F [] [] [] 0 = _ := fun K => Start_L1 (checkP_ok hc).t.2 K F 0 (by omega) (by omega)
  rw [if_pos hc, if_pos hc, e1]
  rfl
 ·rw [if_neg hc, if_neg hc]
  rfl
def badAt (s : WiState) (k : Nat) : Bool := outP (s.used.getD k 0) 0 100 || outP (s.credit.getD k 0) (-100000) 200000 || outP (s.last.getD k 0) (-1) 3650
def badFrom (s : WiState) : Nat → Nat → Bool
 | 0, _ => false
 | n + 1, k => badAt s k || badFrom s n (k + 1)
theorem getD_of {α : Type} {l : List α} {k : Nat} (d : α) (h : k < l.length) : l.getD k d = l[k] := by simp [List.getD_eq_getElem?_getD, List.getElem?_eq_getElem h]
theorem CS_L1 {F : Nat} {p : WiPlan} {s : WiState} (hl : p.teams.length ≤ 8) (h1 : s.used.length = p.teams.length) (h2 : s.credit.length = p.teams.length) (h3 : s.last.length = p.teams.length) : ∀ (n k : Nat), p.teams.length < n + k → k ≤ p.teams.length → window_CheckState_L1 F p s (fun _ => some 0) n k = some (if badFrom s (p.teams.length - k) k = true then 7 else 0)
 | 0, k, h4, h5 => absurd h4 (by omega)
 | n + 1, k, h4, h5 => by
  rw [window_CheckState_L1]
  by_cases hk : k < p.teams.length
  ·rw [if_pos (by omega), ixO_nat (by omega), Option.bind_some, ixO_nat (by omega), ixO_nat (by omega)]
   simp only [window_out_eq, Option.bind_some]
   rw [W_succ (by omega), CS_L1 hl h1 h2 h3 n (k + 1) (by omega) (by omega), show p.teams.length - k = (p.teams.length - (k + 1)) + 1 by omega, badFrom, badAt, getD_of _ (by omega), getD_of _ (by omega), getD_of _ (by omega)]
   cases outP s.used[k] 0 100
   case true => rfl
   cases outP s.credit[k] (-100000) 200000
   case true => rfl
   cases outP s.last[k] (-1) 3650 <;> simp
  ·rw [if_neg (by omega), show p.teams.length - k = 0 by omega]
   rfl
def stateE (p : WiPlan) (s : WiState) : Int :=
 if (checkP p).2.2 ≠ 0 then (checkP p).2.2 else if s.used.length ≠ p.teams.length ∨ s.credit.length ≠ p.teams.length ∨ s.last.length ≠ p.teams.length then 2
 else if outP s.next 0 p.windows.length = true then 7 else if badFrom s p.teams.length 0 = true then 7 else 0
theorem window_CheckState_eq {F : Nat} {p : WiPlan} (h : PlanF F p) (s : WiState) : window_CheckState F p s = some (stateE p s) := by
 have ht := h.t
 unfold window_CheckState stateE
 rw [window_Check_eq h, Option.bind_some]
 by_cases hc : (checkP p).2.2 = 0
 ·rw [if_pos hc, if_neg (show ¬ (checkP p).2.2 ≠ 0 by simp [hc])]
  by_cases h1 : s.used.length = p.teams.length
  ·by_cases h2 : s.credit.length = p.teams.length
   ·by_cases h3 : s.last.length = p.teams.length
    ·have e1 : window_CheckState_L1 F p s (fun _ => some 0) F 0 = _ := CS_L1 (checkP_ok hc).t.2 h1 h2 h3 F 0 (by omega) (by omega)
     rw [if_pos (by omega), if_pos (by omega), if_pos (by omega), if_neg (by omega), window_out_eq, Option.bind_some, e1]
     cases outP s.next 0 p.windows.length <;> simp
    ·rw [if_pos (by omega), if_pos (by omega), if_neg (by omega), if_pos (by omega)]
   ·rw [if_pos (by omega), if_neg (by omega), if_pos (by omega)]
  ·rw [if_neg (by omega), if_pos (by omega)]
 ·rw [if_neg hc, if_pos hc]
theorem Ints_L1 {F : Nat} {a b : List Int} (hl : a.length < 9223372036854775808) (hab : a.length = b.length) : ∀ (n k : Nat), a.length < n + k → k ≤ a.length → r_Ints_L1 F a b (fun _ => some true) n k = some (decide (a.drop k = b.drop k))
 | 0, k, h1, h2 => absurd h1 (by omega)
 | n + 1, k, h1, h2 => by
  rw [r_Ints_L1]
  by_cases hk : k < a.length
  ·rw [if_pos (by omega), ixO_nat hk, Option.bind_some, ixO_nat (by omega), Option.bind_some, W_succ (by omega), Ints_L1 hl hab n (k + 1) (by omega) (by omega), List.drop_eq_getElem_cons hk, List.drop_eq_getElem_cons (show k < b.length by omega)]
   by_cases he : a[k] = b[k] <;> simp only [he, if_true, if_false, List.cons.injEq, true_and, false_and, decide_false]
  ·rw [if_neg (by omega), List.drop_of_length_le (by omega), List.drop_of_length_le (by omega)]
   simp
theorem r_Ints_eq {F : Nat} {a b : List Int} (hl : a.length < 9223372036854775808) (hF : a.length < F) : r_Ints F a b = some (decide (a = b)) := by
 unfold r_Ints
 by_cases h : a.length = b.length
 ·have e1 : r_Ints_L1 F a b (fun _ => some true) F 0 = _ := Ints_L1 hl h F 0 (by omega) (by omega)
  rw [if_pos (by omega), e1]
  rfl
 ·rw [if_neg (by omega)]
  have : a ≠ b := fun e => h (by rw [e])
  simp [this]
structure StateF (F : Nat) (s : WiState) : Prop where
 b : s.used.length < 9223372036854775808 ∧ s.credit.length < 9223372036854775808 ∧ s.last.length < 9223372036854775808
 u : s.used.length < F
 c : s.credit.length < F
 l : s.last.length < F
end Go.Proofs.Ytdefnmcjmklohaa
open Go Go.Proofs.Ytdefnmcjmklohaa.Sh Go.Proofs
namespace Go.Proofs.Ytdefnmcjmklohaa
theorem IxSpan_L1 {F : Nat} {s : List Span} {f : Span → Option Bool} {p : Span → Bool} (hf : ∀ x, f x = some (p x)) (hl : s.length < 9223372036854775808) : ∀ (n k : Nat), s.length < n + k → k ≤ s.length → ∃ x, slices_IndexFunc_Span_L1 F s f (fun _ => some (-1)) n k = some x ∧ decide (0 ≤ x) = (s.drop k).any p
 | 0, k, h, h2 => absurd h (by omega)
 | n + 1, k, h, h2 => by
  rw [slices_IndexFunc_Span_L1]
  by_cases hk : k < s.length
  ·rw [if_pos (by omega), ixO_nat hk, Option.bind_some, hf, Option.bind_some, List.drop_eq_getElem_cons hk, List.any_cons, W_succ (by omega)]
   cases hp : p s[k] with
   | true => exact ⟨_, rfl, by simp⟩
   | false =>
    obtain ⟨x, e1, e2⟩ := IxSpan_L1 (F := F) hf hl n (k + 1) (by omega) (by omega)
    exact ⟨x, by simpa using e1, by simpa using e2⟩
  ·rw [if_neg (by omega), List.drop_of_length_le (by omega)]
   exact ⟨_, rfl, by simp⟩
theorem HasSpan_eq {F : Nat} {s : List Span} {f : Span → Option Bool} {p : Span → Bool} (hf : ∀ x, f x = some (p x)) (hl : s.length < 9223372036854775808) (hF : s.length < F) : slices_ContainsFunc_Span F s f = some (s.any p) := by
 obtain ⟨x, e1, e2⟩ := IxSpan_L1 (F := F) hf hl F 0 (by omega) (by omega)
 unfold slices_ContainsFunc_Span slices_IndexFunc_Span
 rw [show (0 : Int) = ((0 : Nat) : Int) from rfl, e1]
 simpa using e2
theorem IxInt_L1 {F : Nat} {s : List Int} {f : Int → Option Bool} {p : Int → Bool} (hf : ∀ x, f x = some (p x)) (hl : s.length < 9223372036854775808) : ∀ (n k : Nat), s.length < n + k → k ≤ s.length → ∃ x, slices_IndexFunc_int_L1 F s f (fun _ => some (-1)) n k = some x ∧ decide (0 ≤ x) = (s.drop k).any p
 | 0, k, h, h2 => absurd h (by omega)
 | n + 1, k, h, h2 => by
  rw [slices_IndexFunc_int_L1]
  by_cases hk : k < s.length
  ·rw [if_pos (by omega), ixO_nat hk, Option.bind_some, hf, Option.bind_some, List.drop_eq_getElem_cons hk, List.any_cons, W_succ (by omega)]
   cases hp : p s[k] with
   | true => exact ⟨_, rfl, by simp⟩
   | false =>
    obtain ⟨x, e1, e2⟩ := IxInt_L1 (F := F) hf hl n (k + 1) (by omega) (by omega)
    exact ⟨x, by simpa using e1, by simpa using e2⟩
  ·rw [if_neg (by omega), List.drop_of_length_le (by omega)]
   exact ⟨_, rfl, by simp⟩
theorem HasInt_eq {F : Nat} {s : List Int} {f : Int → Option Bool} {p : Int → Bool} (hf : ∀ x, f x = some (p x)) (hl : s.length < 9223372036854775808) (hF : s.length < F) : slices_ContainsFunc_int F s f = some (s.any p) := by
 obtain ⟨x, e1, e2⟩ := IxInt_L1 (F := F) hf hl F 0 (by omega) (by omega)
 unfold slices_ContainsFunc_int slices_IndexFunc_int
 rw [show (0 : Int) = ((0 : Nat) : Int) from rfl, e1]
 simpa using e2
def hasP (l : List Int) (v : Int) : Bool := l.any fun x => decide (v = x)
theorem Index_L1 {F : Nat} {s : List Int} {v : Int} (hl : s.length < 9223372036854775808) : ∀ (n k : Nat), s.length < n + k → k ≤ s.length → ∃ x, slices_Index_int_L1 F s v (fun _ => some (-1)) n k = some x ∧ decide (0 ≤ x) = hasP (s.drop k) v
 | 0, k, h, h2 => absurd h (by omega)
 | n + 1, k, h, h2 => by
  rw [slices_Index_int_L1]
  by_cases hk : k < s.length
  ·rw [if_pos (by omega), ixO_nat hk, Option.bind_some, List.drop_eq_getElem_cons hk, hasP, List.any_cons, W_succ (by omega)]
   by_cases hp : v = s[k]
   ·exact ⟨_, if_pos hp, by simp [hp]⟩
   ·obtain ⟨x, e1, e2⟩ := Index_L1 (F := F) (v := v) hl n (k + 1) (by omega) (by omega)
    exact ⟨x, by rw [if_neg hp]; exact e1, by simpa [hp, hasP] using e2⟩
  ·rw [if_neg (by omega), List.drop_of_length_le (by omega)]
   exact ⟨_, rfl, by simp [hasP]⟩
theorem Contains_eq {F : Nat} {s : List Int} {v : Int} (hl : s.length < 9223372036854775808) (hF : s.length < F) : slices_Contains_int F s v = some (hasP s v) := by
 obtain ⟨x, e1, e2⟩ := Index_L1 (F := F) (s := s) (v := v) hl F 0 (by omega) (by omega)
 unfold slices_Contains_int slices_Index_int
 rw [show (0 : Int) = ((0 : Nat) : Int) from rfl, e1]
 simpa using e2
def askedE (p : WiPlan) (s : WiState) (sky : WiSky) : Int :=
 if stateE p s ≠ 0 then stateE p s else if s.next = (p.windows.length : Int) then 9 else if (mixedP (-1) sky.kinds || outP sky.wind 0 1000) = true then 2 else 0
structure SkyF (F : Nat) (l : List Int) : Prop where
 k : l.length < F ∧ l.length < 9223372036854775808
structure StW (p : WiPlan) (s : WiState) : Prop where
 po : PlanOk p
 u : s.used.length = p.teams.length
 c : s.credit.length = p.teams.length
 l : s.last.length = p.teams.length
 n : 0 ≤ s.next ∧ s.next ≤ p.windows.length
 ls : ∀ k, k < p.teams.length → -1 ≤ s.last.getD k 0 ∧ s.last.getD k 0 ≤ 3650
structure StOk (p : WiPlan) (s : WiState) : Prop extends StW p s where
 us : ∀ k, k < p.teams.length → 0 ≤ s.used.getD k 0 ∧ s.used.getD k 0 ≤ 100
 cs : ∀ k, k < p.teams.length → -100000 ≤ s.credit.getD k 0 ∧ s.credit.getD k 0 ≤ 200000
theorem badFrom_false {s : WiState} : ∀ {n k : Nat}, badFrom s n k = false → ∀ j, k ≤ j → j < k + n → badAt s j = false
 | 0, k, _, j, h1, h2 => absurd h2 (by omega)
 | n + 1, k, h, j, h1, h2 => by
  rw [badFrom, Bool.or_eq_false_iff] at h
  by_cases hj : j = k
  ·subst hj; exact h.1
  ·exact badFrom_false h.2 j (by omega) (by omega)
theorem stateE_ok {p : WiPlan} {s : WiState} (h : stateE p s = 0) : StOk p s := by
 unfold stateE at h
 split at h
 ·rename_i h1; exact absurd h h1
 rename_i h1
 split at h
 ·cases h
 rename_i h2
 split at h
 ·cases h
 rename_i h3
 split at h
 ·cases h
 rename_i h4
 have hb : ∀ k, k < p.teams.length → badAt s k = false := fun k hk => badFrom_false (by simpa using h4) k (by omega) (by omega)
 have hb' : ∀ k, k < p.teams.length → outP (s.used.getD k 0) 0 100 = false ∧ outP (s.credit.getD k 0) (-100000) 200000 = false ∧ outP (s.last.getD k 0) (-1) 3650 = false := fun k hk => by
  have := hb k hk
  rw [badAt, Bool.or_eq_false_iff, Bool.or_eq_false_iff] at this
  exact ⟨this.1.1, this.1.2, this.2⟩
 exact ⟨⟨checkP_ok (by omega), by omega, by omega, by omega, outP_false (by simpa using h3), fun k hk => outP_false (hb' k hk).2.2⟩, fun k hk => outP_false (hb' k hk).1, fun k hk => outP_false (hb' k hk).2.1⟩
theorem askedE_ok {p : WiPlan} {s : WiState} {sky : WiSky} (h : askedE p s sky = 0) : StOk p s ∧ s.next < p.windows.length := by
 unfold askedE at h
 split at h
 ·rename_i h1; exact absurd h h1
 rename_i h1
 split at h
 ·cases h
 rename_i h2
 have := stateE_ok (p := p) (s := s) (by omega)
 exact ⟨this, by have := this.n; omega⟩
def winAt (p : WiPlan) (i : Int) : WiWindow := p.windows.getD i.toNat default
def tableP (p : WiPlan) (s : WiState) (sky : WiSky) (w : WiWindow) : Table :=
 Table.mk p.teams p.windows p.cost p.gift s.used s.credit s.last s.next sky.kinds sky.wind w.day w.from_ w.until_ w.from_ [] (-1) (-1) false s.next (-1) 0 (-1)
theorem Clone_eq {F : Nat} {l : List Int} (h : l.length ≤ 1000) : slices_Clone_int F l = some l := by
 unfold slices_Clone_int appI
 rw [if_pos (by simp; omega)]
 rfl
theorem winAt_ix {p : WiPlan} {i : Int} (h : 0 ≤ i) (h2 : i < p.windows.length) : ixO p.windows i = some (winAt p i) := by
 obtain ⟨k, rfl⟩ := Int.eq_ofNat_of_zero_le h
 rw [ixO_nat (by omega), winAt, Int.toNat_natCast, getD_of _ (by omega)]
theorem begin_eq {F : Nat} {p : WiPlan} {s : WiState} {sky : WiSky} (h : PlanF F p) (hs : SkyF F sky.kinds) : window_begin F p s sky = some (if askedE p s sky = 0 then (some (tableP p s sky (winAt p s.next)), 0) else (none, askedE p s sky)) := by
 have := hs.k
 unfold window_begin askedE
 rw [window_CheckState_eq h, Option.bind_some, mixed_eq (by omega) (by omega), window_out_eq]
 by_cases h0 : stateE p s = 0
 ·by_cases h1 : s.next = (p.windows.length : Int)
  ·simp [h0, h1]
  ·have ho := stateE_ok h0
   have := ho.po.t; have := ho.u; have := ho.c; have := ho.l; have := ho.n
   rw [Clone_eq (by omega), Clone_eq (by omega), Clone_eq (by omega), winAt_ix (by omega) (by omega)]
   cases mixedP (-1) sky.kinds <;> cases outP sky.wind 0 1000 <;> simp [h0, h1, tableP]
 ·simp [h0]
def whyP (e : WiTeam) (used last : Int) (w : WiWindow) (kinds : List Int) (wind minute : Int) : Int :=
 if e.need ≤ used then 210 else if (e.away.any fun a => !outP w.day a.lo a.hi) = true then 211 else if 0 ≤ last ∧ w.day - last < e.rest then 212
 else if 0 < (e.kinds.length : Int) ∧ (e.kinds.any fun x => hasP kinds x) = false then 213 else if e.wind < wind then 214 else if w.until_ - minute < e.setup then 215 else 0
structure TabOk (F : Nat) (t : Table) : Prop where
 f : ∀ e ∈ t.p_Teams, TeamF F e
 h : 20 < F
 n : t.p_Teams.length ≤ 8
 ts : ∀ e ∈ t.p_Teams, TeamOk e
 u : t.s_Used.length = t.p_Teams.length
 c : t.s_Credit.length = t.p_Teams.length
 l : t.s_Last.length = t.p_Teams.length
 ls : ∀ k, k < t.p_Teams.length → -1 ≤ t.s_Last.getD k 0 ∧ t.s_Last.getD k 0 ≤ 3650
 k : SkyF F t.sky_Kinds
 d : 0 ≤ t.w_Day ∧ t.w_Day ≤ 3650
 un : 0 ≤ t.w_Until ∧ t.w_Until ≤ 1440
 m : 0 ≤ t.minute ∧ t.minute ≤ 1440
def Table.w (t : Table) : WiWindow := ⟨t.w_Day, t.w_From, t.w_Until⟩
def whyT (t : Table) (k : Nat) : Int := whyP (t.p_Teams.getD k default) (t.s_Used.getD k 0) (t.s_Last.getD k 0) t.w t.sky_Kinds t.sky_Wind t.minute
theorem why_eq {F : Nat} {t : Table} (h : TabOk F t) {k : Nat} (hk : k < t.p_Teams.length) : window_table_why F t k = some (whyT t k) := by
 have h1 := h.f _ (List.getElem_mem hk)
 have h2 := h.ls k hk
 have := h.u; have := h.c; have := h.l; have := h.h; have := h.k.k; have := h1.k; have := h1.a; have := h.d; have := h.un; have := h.m
 unfold window_table_why window_table_why_1 window_table_why_2 window_table_why_3 window_table_why_4 window_table_why_5 window_table_why_6 whyT whyP
 rw [getD_of _ hk, getD_of _ (show k < t.s_Used.length by omega), getD_of _ (show k < t.s_Last.length by omega), ixO_nat hk, ixO_nat (show k < t.s_Used.length by omega), ixO_nat (show k < t.s_Last.length by omega)]
 rw [getD_of _ (show k < t.s_Last.length by omega)] at h2
 simp only [Option.bind_some]
 rw [HasSpan_eq (p := fun a => !outP t.w_Day a.lo a.hi) (fun a => by unfold window_table_why_2_1; rw [window_out_eq]; rfl) (by omega) (by omega), HasInt_eq (p := fun x => hasP t.sky_Kinds x) (fun a => by unfold window_table_why_4_1; rw [Contains_eq (by omega) (by omega)]; rfl) (by omega) (by omega), W_id (x := t.w_Day - t.s_Last[k]), W_id (x := t.w_Until - t.minute)]
 simp only [Option.bind_some, Table.w]
 generalize t.p_Teams[k] = e
 by_cases c1 : e.need ≤ t.s_Used[k]
 ·simp [c1]
 by_cases c2 : (e.away.any fun a => !outP t.w_Day a.lo a.hi) = true
 ·simp only [c1, c2, decide_false, Bool.false_eq_true, if_true, if_false]
 by_cases c3 : 0 ≤ t.s_Last[k] <;> by_cases c4 : t.w_Day - t.s_Last[k] < e.rest <;> by_cases c5 : 0 < e.kinds.length <;> by_cases c6 : (e.kinds.any fun x => hasP t.sky_Kinds x) = true <;> by_cases c7 : e.wind < t.sky_Wind <;> by_cases c8 : t.w_Until - t.minute < e.setup <;> simp [c1, c2, c3, c4, c5, c6, c7, c8]
end Go.Proofs.Ytdefnmcjmklohaa
open Go Go.Proofs.Ytdefnmcjmklohaa.Sh Go.Proofs
namespace Go.Proofs.Ytdefnmcjmklohaa
def insR (lt : Int → Int → Bool) (x : Int) : List Int → List Int
 | [] => [x]
 | y :: r => if lt x y = true then y :: insR lt x r else x :: y :: r
def sortR (lt : Int → Int → Bool) : List Int → List Int → List Int
 | acc, [] => acc
 | acc, x :: l => sortR lt (insR lt x acc) l
def sortP (lt : Int → Int → Bool) (l : List Int) : List Int := (sortR lt [] l).reverse
theorem insR_len (lt : Int → Int → Bool) (x : Int) : ∀ r : List Int, (insR lt x r).length = r.length + 1
 | [] => rfl
 | y :: r => by
  rw [insR]
  split
  ·simp [insR_len lt x r]
  ·simp
theorem insR_mem {lt : Int → Int → Bool} {x v : Int} : ∀ {r : List Int}, v ∈ insR lt x r ↔ v = x ∨ v ∈ r
 | [] => by simp [insR]
 | y :: r => by
  rw [insR]
  split
  ·simp only [List.mem_cons, insR_mem (r := r)]
   constructor
   ·rintro (h | h | h) <;> simp [h]
   ·rintro (h | h | h) <;> simp [h]
  ·simp
theorem sortR_len (lt : Int → Int → Bool) : ∀ (l acc : List Int), (sortR lt acc l).length = acc.length + l.length
 | [], acc => rfl
 | x :: l, acc => by rw [sortR, sortR_len lt l, insR_len, List.length_cons]; omega
theorem sortR_mem {lt : Int → Int → Bool} {v : Int} : ∀ {l acc : List Int}, v ∈ sortR lt acc l ↔ v ∈ acc ∨ v ∈ l
 | [], acc => by simp [sortR]
 | x :: l, acc => by
  rw [sortR, sortR_mem, insR_mem, List.mem_cons]
  constructor
  ·rintro ((h | h) | h) <;> simp [h]
  ·rintro (h | h | h) <;> simp [h]
theorem sortP_len (lt : Int → Int → Bool) (l : List Int) : (sortP lt l).length = l.length := by rw [sortP, List.length_reverse, sortR_len]; simp
theorem sortP_mem {lt : Int → Int → Bool} {v : Int} {l : List Int} : v ∈ sortP lt l ↔ v ∈ l := by rw [sortP, List.mem_reverse, sortR_mem]; simp
theorem ix_app {α : Type} (A B : List α) (x : α) : ixO (A ++ x :: B) (A.length : Int) = some x := by
 unfold ixO
 rw [if_pos (Int.natCast_nonneg _), Int.toNat_natCast, List.getElem?_append_right (Nat.le_refl _), Nat.sub_self]
 rfl
theorem set_app {α : Type} (A B : List α) (x y : α) : setO (A ++ x :: B) (A.length : Int) y = some (A ++ y :: B) := by
 unfold setO
 rw [Int.toNat_natCast, List.set_append_right _ _ (Nat.le_refl _), Nat.sub_self]
 rfl
def cmpP : List Arr2Int → Int
 | [] => 0
 | e :: l => if e.c0 < e.c1 then -1 else if e.c1 < e.c0 then 1 else cmpP l
theorem compare_L1 {F : Nat} {s : List Arr2Int} (hl : s.length < 9223372036854775808) : ∀ (n k : Nat), s.length < n + k → k ≤ s.length → window_compare_L1 F s (fun _ => some 0) n k = some (cmpP (s.drop k))
 | 0, k, h, h2 => absurd h (by omega)
 | n + 1, k, h, h2 => by
  rw [window_compare_L1]
  by_cases hk : k < s.length
  ·rw [if_pos (by omega), ixO_nat hk, Option.bind_some, Compare_eq, Option.bind_some, List.drop_eq_getElem_cons hk, cmpP, W_succ (by omega), compare_L1 hl n (k + 1) (by omega) (by omega)]
   by_cases h3 : s[k].c0 < s[k].c1
   ·simp [h3]
   ·by_cases h4 : s[k].c1 < s[k].c0 <;> simp [h3, h4]
  ·rw [if_neg (by omega), List.drop_of_length_le (by omega)]
   rfl
def firstV (p1 p2 c1 c2 u1 u2 l1 l2 a b : Int) : Bool :=
 if p1 ≠ p2 then decide (p2 < p1) else if c1 ≠ c2 then decide (c2 < c1) else if u1 ≠ u2 then decide (u1 < u2) else if l1 ≠ l2 then decide (l1 < l2) else decide (a < b)
def firstL (ts : List WiTeam) (us cr la : List Int) (a b : Int) : Bool :=
 firstV (ts.getD a.toNat default).priority (ts.getD b.toNat default).priority (cr.getD a.toNat 0) (cr.getD b.toNat 0) (us.getD a.toNat 0) (us.getD b.toNat 0) (la.getD a.toNat 0) (la.getD b.toNat 0) a b
def firstT (t : Table) : Int → Int → Bool := firstL t.p_Teams t.s_Used t.s_Credit t.s_Last
theorem order_eq {F : Nat} {t : Table} (h : TabOk F t) {a b : Int} (ha : 0 ≤ a ∧ a < t.p_Teams.length) (hb : 0 ≤ b ∧ b < t.p_Teams.length) : ∃ c, window_table_order F t a b = some c ∧ decide (c < 0) = firstT t a b := by
 obtain ⟨a, rfl⟩ := Int.eq_ofNat_of_zero_le ha.1
 obtain ⟨b, rfl⟩ := Int.eq_ofNat_of_zero_le hb.1
 have := h.u; have := h.c; have := h.l; have := h.h; have := h.n
 unfold window_table_order firstT firstL
 simp only [Int.toNat_natCast]
 rw [getD_of _ (show a < t.p_Teams.length by omega), getD_of _ (show b < t.p_Teams.length by omega), getD_of _ (show a < t.s_Used.length by omega), getD_of _ (show b < t.s_Used.length by omega), getD_of _ (show a < t.s_Credit.length by omega), getD_of _ (show b < t.s_Credit.length by omega), getD_of _ (show a < t.s_Last.length by omega), getD_of _ (show b < t.s_Last.length by omega)]
 rw [ixO_nat (show a < t.p_Teams.length by omega), ixO_nat (show b < t.p_Teams.length by omega), ixO_nat (show a < t.s_Used.length by omega), ixO_nat (show b < t.s_Used.length by omega), ixO_nat (show a < t.s_Credit.length by omega), ixO_nat (show b < t.s_Credit.length by omega), ixO_nat (show a < t.s_Last.length by omega), ixO_nat (show b < t.s_Last.length by omega)]
 simp only [Option.bind_some]
 have e1 : ∀ l : List Arr2Int, l.length = 5 → window_compare F l = some (cmpP l) := fun l hl => compare_L1 (F := F) (s := l) (by omega) F 0 (by omega) (by omega)
 rw [e1 _ rfl]
 refine ⟨_, rfl, ?_⟩
 simp only [cmpP]
 unfold firstV
 generalize t.p_Teams[a].priority = p1
 generalize t.p_Teams[b].priority = p2
 generalize t.s_Credit[a] = c1
 generalize t.s_Credit[b] = c2
 generalize t.s_Used[a] = u1
 generalize t.s_Used[b] = u2
 generalize t.s_Last[a] = l1
 generalize t.s_Last[b] = l2
 by_cases h1 : p2 < p1
 ·have : p1 ≠ p2 := by omega
  simp [h1, this]
 by_cases h2 : p1 < p2
 ·have : p1 ≠ p2 := by omega
  simp [h1, h2, this]
 have h3 : p1 = p2 := by omega
 by_cases h4 : c2 < c1
 ·have : c1 ≠ c2 := by omega
  simp [h3, h4, this]
 by_cases h5 : c1 < c2
 ·have : c1 ≠ c2 := by omega
  simp [h3, h4, h5, this]
 have h6 : c1 = c2 := by omega
 by_cases h7 : u1 < u2
 ·have : u1 ≠ u2 := by omega
  simp [h3, h6, h7, this]
 by_cases h8 : u2 < u1
 ·have : u1 ≠ u2 := by omega
  simp [h3, h6, h7, h8, this]
 have h9 : u1 = u2 := by omega
 by_cases h10 : l1 < l2
 ·have : l1 ≠ l2 := by omega
  simp [h3, h6, h9, h10, this]
 by_cases h11 : l2 < l1
 ·have : l1 ≠ l2 := by omega
  simp [h3, h6, h9, h10, h11, this]
 have h12 : l1 = l2 := by omega
 by_cases h13 : (a : Int) < b
 ·simp [h3, h6, h9, h12]
  omega
 ·by_cases h14 : (b : Int) < a
  ·simp [h3, h6, h9, h12]
   omega
  ·simp [h3, h6, h9, h12]
   omega
theorem sort_L2 {F : Nat} {t : Table} (h : TabOk F t) (K' : List Int → Option (List Int)) {x : Int} (hx : 0 ≤ x ∧ x < t.p_Teams.length) : ∀ (n : Nat) (r B : List Int), r.length < n → r.length < 1000 → (∀ v ∈ r, 0 ≤ v ∧ v < t.p_Teams.length) → slices_insertionSortCmpFunc_int_m_window_table_order_L1 F 0 t (fun d _ => K' d) n (r.reverse ++ x :: B) (r.length : Int) = K' ((insR (firstT t) x r).reverse ++ B)
 | 0, r, B, h1, _, _ => absurd h1 (by omega)
 | n + 1, [], B, h1, h2, h3 => by
  rw [slices_insertionSortCmpFunc_int_m_window_table_order_L1, if_neg (by simp)]
  rfl
 | n + 1, y :: r, B, h1, h2, h3 => by
  have hl : (y :: r).length = r.length + 1 := rfl
  rw [slices_insertionSortCmpFunc_int_m_window_table_order_L1, if_pos (by omega)]
  have e1 := ix_app (y :: r).reverse B x
  have e2 := ix_app r.reverse (x :: B) y
  have e3 := set_app (y :: r).reverse B x y
  have e4 := ix_app r.reverse (y :: B) y
  have e5 := set_app r.reverse (y :: B) y x
  rw [List.length_reverse] at e1 e2 e3 e4 e5
  rw [List.reverse_cons, List.append_assoc, List.singleton_append] at e1 e3 ⊢
  have hw : W (((y :: r).length : Int) - 1) = (r.length : Int) := by rw [W_id] <;> omega
  obtain ⟨c, o1, o2⟩ := order_eq h hx (h3 y (by simp))
  rw [e1, Option.bind_some, hw, e2, Option.bind_some, o1, Option.bind_some, insR]
  by_cases hc : c < 0
  ·have : firstT t x y = true := by rw [← o2]; simp [hc]
   rw [List.append_assoc] at e3
   rw [if_pos hc, if_pos this, e3, Option.bind_some, List.singleton_append, e4, Option.bind_some, e5, Option.bind_some, sort_L2 h K' hx n r (y :: B) (by omega) (by omega) (fun v hv => h3 v (by simp [hv])), List.reverse_cons, List.append_assoc]
   rfl
  ·have : firstT t x y = false := by rw [← o2]; simp [hc]
   rw [if_neg hc, this]
   simp
theorem sort_L3 {F : Nat} {t : Table} (h : TabOk F t) (K' : List Int → Option (List Int)) : ∀ (n : Nat) (acc l : List Int), l.length < n → acc.length + l.length < 1000 → acc.length + l.length < F → (∀ v ∈ acc, 0 ≤ v ∧ v < t.p_Teams.length) → (∀ v ∈ l, 0 ≤ v ∧ v < t.p_Teams.length) → slices_insertionSortCmpFunc_int_m_window_table_order_L2 F 0 ((acc.length + l.length : Nat) : Int) t (fun d _ => K' d) n (acc.reverse ++ l) (acc.length : Int) = K' (sortR (firstT t) acc l).reverse
 | 0, acc, l, h1, _, _, _, _ => absurd h1 (by omega)
 | n + 1, acc, [], h1, h2, _, h3, h4 => by
  rw [slices_insertionSortCmpFunc_int_m_window_table_order_L2, if_neg (by simp), List.append_nil]
  rfl
 | n + 1, acc, x :: l, h1, h2, hF, h3, h4 => by
  have hl : (x :: l).length = l.length + 1 := rfl
  have hi := insR_len (firstT t) x acc
  rw [slices_insertionSortCmpFunc_int_m_window_table_order_L2, if_pos (by omega), sort_L2 h _ (h4 x (by simp)) F acc l (by omega) (by omega) h3, W_succ (by omega)]
  have ih := sort_L3 h K' n (insR (firstT t) x acc) l (by omega) (by omega) (by omega) (fun v hv => by
   rcases insR_mem.1 hv with rfl | hv
   ·exact h4 _ (by simp)
   ·exact h3 v hv) (fun v hv => h4 v (by simp [hv]))
  rw [hi] at ih
  rw [show acc.length + (x :: l).length = acc.length + 1 + l.length by omega, ih, sortR]
theorem insertion_eq {F : Nat} {t : Table} (h : TabOk F t) {l : List Int} (hl : l.length ≤ 8) (hv : ∀ v ∈ l, 0 ≤ v ∧ v < t.p_Teams.length) : slices_insertionSortCmpFunc_int_m_window_table_order F l 0 l.length t = some (sortP (firstT t) l) := by
 have := h.h
 unfold slices_insertionSortCmpFunc_int_m_window_table_order
 cases l with
 | nil =>
  obtain ⟨m, rfl⟩ : ∃ m, F = m + 1 := ⟨F - 1, by omega⟩
  rw [slices_insertionSortCmpFunc_int_m_window_table_order_L2, if_neg (by rw [W_id] <;> simp)]
  rfl
 | cons x l =>
  have hl2 : (x :: l).length = l.length + 1 := rfl
  have e1 := sort_L3 h some F [x] l (by omega) (by simp; omega) (by simp; omega) (fun v hv' => hv v (by simp at hv'; simp [hv'])) (fun v hv' => hv v (by simp [hv']))
  rw [show W ((0 : Int) + 1) = (([x] : List Int).length : Int) from rfl, show ((x :: l).length : Int) = (([x] : List Int).length + l.length : Nat) by simp; omega]
  exact e1
theorem bitsLen_ex {F m : Nat} (h : m ≤ 8) : ∃ r, math_bits_Len F (IntKind.u64.wrap (m : Int)) = some r := by
 rcases (by omega : m = 0 ∨ m = 1 ∨ m = 2 ∨ m = 3 ∨ m = 4 ∨ m = 5 ∨ m = 6 ∨ m = 7 ∨ m = 8) with rfl | rfl | rfl | rfl | rfl | rfl | rfl | rfl | rfl <;> exact Option.isSome_iff_exists.1 (by kernel_rfl)
theorem lenO_of {α : Type} {o : Option (List α)} {l r : List α} (h : o = some r) (hl : r.length = l.length) : lenO o l = some r := by
 subst h
 simp [lenO, hl]
theorem SortFunc_eq {F : Nat} {t : Table} (h : TabOk F t) {l : List Int} (hl : l.length ≤ 8) (hv : ∀ v ∈ l, 0 ≤ v ∧ v < t.p_Teams.length) : slices_SortFunc_int_m_window_table_order F l t = some (sortP (firstT t) l) := by
 have := h.h
 obtain ⟨m, hm⟩ : ∃ m, F = m + 1 := ⟨F - 1, by omega⟩
 obtain ⟨r, hr⟩ := bitsLen_ex (F := F) hl
 have e1 := lenO_of (insertion_eq h hl hv) (sortP_len _ _)
 have e2 : slices_pdqsortCmpFunc_int_m_window_table_order F l 0 l.length r t = some (sortP (firstT t) l) := by
  unfold slices_pdqsortCmpFunc_int_m_window_table_order
  conv => lhs; arg 8; rw [hm]
  rw [slices_pdqsortCmpFunc_int_m_window_table_order_L1, if_pos (by rw [W_id] <;> omega), e1]
  rfl
 unfold slices_SortFunc_int_m_window_table_order
 rw [hr, Option.bind_some, lenO_of e2 (sortP_len _ _)]
 rfl
def pickFrom (c : Nat → Bool) : Nat → Nat → List Int
 | 0, _ => []
 | m + 1, k => if c k = true then (k : Int) :: pickFrom c m (k + 1) else pickFrom c m (k + 1)
theorem pick_mem {c : Nat → Bool} {v : Int} : ∀ {m k : Nat}, v ∈ pickFrom c m k ↔ ∃ j : Nat, v = (j : Int) ∧ k ≤ j ∧ j < k + m ∧ c j = true
 | 0, k => by
  simp only [pickFrom, List.not_mem_nil, false_iff]
  rintro ⟨j, _, _, _, _⟩
  omega
 | m + 1, k => by
  rw [pickFrom]
  have ih := pick_mem (c := c) (v := v) (m := m) (k := k + 1)
  by_cases hc : c k = true
  ·rw [if_pos hc, List.mem_cons, ih]
   constructor
   ·rintro (rfl | ⟨j, h1, h2, h3, h4⟩)
    ·exact ⟨k, rfl, by omega, by omega, hc⟩
    ·exact ⟨j, h1, by omega, by omega, h4⟩
   ·rintro ⟨j, h1, h2, h3, h4⟩
    by_cases hj : j = k
    ·subst hj; exact .inl h1
    ·exact .inr ⟨j, h1, by omega, by omega, h4⟩
  ·rw [if_neg hc, ih]
   constructor
   ·rintro ⟨j, h1, h2, h3, h4⟩
    exact ⟨j, h1, by omega, by omega, h4⟩
   ·rintro ⟨j, h1, h2, h3, h4⟩
    by_cases hj : j = k
    ·subst hj; exact absurd h4 hc
    ·exact ⟨j, h1, by omega, by omega, h4⟩
theorem pick_len (c : Nat → Bool) : ∀ (m k : Nat), (pickFrom c m k).length ≤ m
 | 0, k => Nat.le_refl _
 | m + 1, k => by
  have := pick_len c m (k + 1)
  rw [pickFrom]
  split
  ·rw [List.length_cons]; omega
  ·omega
def doneT (t : Table) (k : Nat) : Bool := (mget t.done (k : Int)).getD false
def canT (t : Table) (k : Nat) : Bool := !doneT t k && decide (whyT t k = 0)
def rightsT (t : Table) : List Int := sortP (firstT t) (pickFrom (canT t) t.p_Teams.length 0)
theorem Seq_L1 {F : Nat} {t : Table} (h : TabOk F t) : ∀ (n k : Nat) (l : List Int), t.p_Teams.length < n + k → k ≤ t.p_Teams.length → l.length ≤ k → slices_AppendSeq_int_n_window_table_entitled_1_L1 F t (fun _ l => some l) n k l = some (l ++ pickFrom (canT t) (t.p_Teams.length - k) k)
 | 0, k, l, h1, h2, _ => absurd h1 (by omega)
 | n + 1, k, l, h1, h2, h3 => by
  have := h.n
  rw [slices_AppendSeq_int_n_window_table_entitled_1_L1]
  by_cases hk : k < t.p_Teams.length
  ·rw [if_pos (by omega), why_eq h hk, Option.bind_some, app_one (by omega), Option.bind_some, W_succ (by omega), Seq_L1 h n (k + 1) l (by omega) (by omega) (by omega), Seq_L1 h n (k + 1) (l ++ [(k : Int)]) (by omega) (by omega) (by simp; omega), show t.p_Teams.length - k = (t.p_Teams.length - (k + 1)) + 1 by omega, pickFrom]
   unfold canT doneT
   cases (mget t.done (k : Int)).getD false
   ·by_cases hw : whyT t k = 0 <;> simp [hw]
   ·simp
  ·rw [if_neg (by omega), show t.p_Teams.length - k = 0 by omega]
   simp [pickFrom]
theorem rights_eq {F : Nat} {t : Table} (h : TabOk F t) : window_table_rights F t = some (rightsT t) := by
 have := h.n; have := h.h
 have e1 : slices_AppendSeq_int_n_window_table_entitled_1 F t = _ := Seq_L1 h F 0 [] (by omega) (by omega) (by simp)
 have hp := pick_len (canT t) t.p_Teams.length 0
 have e2 := SortFunc_eq h (l := pickFrom (canT t) t.p_Teams.length 0) (by omega) fun v hv => by
  obtain ⟨j, rfl, _, hj, _⟩ := pick_mem.1 hv
  omega
 unfold window_table_rights window_table_entitled slices_SortedFunc_int_window_table_entitled_1_window_table_order slices_Collect_int_window_table_entitled_1
 rw [Option.bind_some, e1, Option.bind_some, List.nil_append, Nat.sub_zero, Option.bind_some, lenO_of e2 (sortP_len _ _)]
 rfl
end Go.Proofs.Ytdefnmcjmklohaa
open Go Go.Proofs.Ytdefnmcjmklohaa.Sh Go.Proofs
namespace Go.Proofs.Ytdefnmcjmklohaa
def whyS (p : WiPlan) (s : WiState) (sky : WiSky) (minute : Int) (k : Nat) : Int := whyP (p.teams.getD k default) (s.used.getD k 0) (s.last.getD k 0) (winAt p s.next) sky.kinds sky.wind minute
theorem PlanOk.win {p : WiPlan} (h : PlanOk p) {i : Int} (h1 : 0 ≤ i) (h2 : i < p.windows.length) : WinOk (winAt p i) := by
 obtain ⟨k, rfl⟩ := Int.eq_ofNat_of_zero_le h1
 unfold winAt
 rw [Int.toNat_natCast, getD_of _ (by omega)]
 exact h.ws _ (List.getElem_mem _)
structure Ask (F : Nat) (p : WiPlan) (s : WiState) (sky : WiSky) (m : Int) : Prop where
 f : PlanF F p
 o : StW p s
 n : s.next < p.windows.length
 k : SkyF F sky.kinds
 m : 0 ≤ m ∧ m ≤ 1440
def firstS (p : WiPlan) (s : WiState) : Int → Int → Bool := firstL p.teams s.used s.credit s.last
def canS (p : WiPlan) (s : WiState) (sky : WiSky) (m : Int) (done : List Int) (k : Nat) : Bool := !hasP done k && decide (whyS p s sky m k = 0)
def rightsS (p : WiPlan) (s : WiState) (sky : WiSky) (m : Int) (done : List Int) : List Int := sortP (firstS p s) (pickFrom (canS p s sky m done) p.teams.length 0)
theorem rightsT_S {p : WiPlan} {s : WiState} {sky : WiSky} {m : Int} {t : Table} {done : List Int} (h1 : t.p_Teams = p.teams) (h2 : t.s_Used = s.used) (h3 : t.s_Credit = s.credit) (h4 : t.s_Last = s.last) (h5 : t.w = winAt p s.next) (h6 : t.sky_Kinds = sky.kinds) (h7 : t.sky_Wind = sky.wind) (h8 : t.minute = m) (h9 : ∀ k, doneT t k = hasP done k) : rightsT t = rightsS p s sky m done := by
 have hc : canT t = canS p s sky m done := by
  funext k
  unfold canT canS whyT whyS
  rw [h9, h1, h2, h4, h5, h6, h7, h8]
 unfold rightsT rightsS firstT firstS
 rw [hc, h1, h2, h3, h4]
theorem rightsS_len {p : WiPlan} {s : WiState} {sky : WiSky} {m : Int} {done : List Int} : (rightsS p s sky m done).length ≤ p.teams.length := by
 rw [rightsS, sortP_len]
 exact pick_len _ _ _
theorem rightsS_mem {p : WiPlan} {s : WiState} {sky : WiSky} {m : Int} {done : List Int} {v : Int} : v ∈ rightsS p s sky m done ↔ ∃ k : Nat, v = k ∧ k < p.teams.length ∧ canS p s sky m done k = true := by
 rw [rightsS, sortP_mem, pick_mem]
 constructor
 ·rintro ⟨j, h1, _, h2, h3⟩; exact ⟨j, h1, by omega, h3⟩
 ·rintro ⟨j, h1, h2, h3⟩; exact ⟨j, h1, by omega, by omega, h3⟩
end Go.Proofs.Ytdefnmcjmklohaa
open Go Go.Proofs.Ytdefnmcjmklohaa.Sh Go.Proofs
namespace Go.Proofs.Ytdefnmcjmklohaa
theorem hasP_iff {l : List Int} {v : Int} : hasP l v = true ↔ v ∈ l := by
 unfold hasP
 rw [List.any_eq_true]
 constructor
 ·rintro ⟨x, h1, h2⟩
  rw [decide_eq_true_iff] at h2
  exact h2 ▸ h1
 ·intro h
  exact ⟨v, h, by simp⟩
end Go.Proofs.Ytdefnmcjmklohaa
open Go Go.Proofs.Ytdefnmcjmklohaa.Sh Go.Proofs
namespace Go.Proofs.Ytdefnmcjmklohaa
structure Tot (lt : Int → Int → Bool) : Prop where
 asym : ∀ a b, lt a b = true → lt b a = false
 trans : ∀ a b c, lt a b = true → lt b c = true → lt a c = true
 total : ∀ a b, a ≠ b → lt a b = false → lt b a = true
theorem Tot.irr {lt : Int → Int → Bool} (h : Tot lt) (a : Int) : lt a a = false := by
 cases h1 : lt a a with
 | false => rfl
 | true => have := h.asym a a h1; rw [h1] at this; cases this
theorem firstV_asym {p q c d u v l m a b : Int} (h : firstV p q c d u v l m a b = true) : firstV q p d c v u m l b a = false := by
 unfold firstV at h ⊢
 by_cases h1 : p = q
 ·by_cases h2 : c = d
  ·by_cases h3 : u = v
   ·by_cases h4 : l = m
    ·subst h1 h2 h3 h4; simp at h ⊢; omega
    ·subst h1 h2 h3; simp [h4, Ne.symm h4] at h ⊢; omega
   ·subst h1 h2; simp [h3, Ne.symm h3] at h ⊢; omega
  ·subst h1; simp [h2, Ne.symm h2] at h ⊢; omega
 ·simp [h1, Ne.symm h1] at h ⊢; omega
theorem firstV_iff {p q c d u v l m a b : Int} : firstV p q c d u v l m a b = true ↔ q < p ∨ (p = q ∧ (d < c ∨ (c = d ∧ (u < v ∨ (u = v ∧ (l < m ∨ (l = m ∧ a < b))))))) := by
 unfold firstV
 by_cases h1 : p = q
 ·by_cases h2 : c = d
  ·by_cases h3 : u = v
   ·by_cases h4 : l = m
    ·simp [h1, h2, h3, h4]
    ·simp [h1, h2, h3, h4]
   ·simp [h1, h2, h3]
  ·simp [h1, h2]
 ·simp [h1]
theorem firstL_tot (ts : List WiTeam) (us cr la : List Int) : Tot (firstL ts us cr la) where
 asym a b h := firstV_asym h
 trans a b c h1 h2 := by
  unfold firstL at h1 h2 ⊢
  rw [firstV_iff] at h1 h2 ⊢
  omega
 total a b hab h := by
  have h' : ¬ firstL ts us cr la a b = true := by rw [h]; simp
  unfold firstL at h' ⊢
  rw [firstV_iff] at h' ⊢
  omega
theorem insR_sorted {lt : Int → Int → Bool} (ht : Tot lt) {x : Int} : ∀ {r : List Int}, r.Pairwise (fun y z => lt z y = true) → x ∉ r → (insR lt x r).Pairwise (fun y z => lt z y = true)
 | [], _, _ => by simp [insR]
 | y :: r, h, hx => by
  rw [List.pairwise_cons] at h
  simp only [List.mem_cons, not_or] at hx
  rw [insR]
  by_cases hc : lt x y = true
  ·rw [if_pos hc, List.pairwise_cons]
   refine ⟨fun z hz => ?_, insR_sorted ht h.2 hx.2⟩
   rcases insR_mem.1 hz with rfl | hz
   ·exact hc
   ·exact h.1 z hz
  ·rw [if_neg hc, List.pairwise_cons, List.pairwise_cons]
   have hyx : lt y x = true := ht.total x y hx.1 (by simpa using hc)
   refine ⟨fun z hz => ?_, h⟩
   rcases List.mem_cons.1 hz with rfl | hz
   ·exact hyx
   ·exact ht.trans z y x (h.1 z hz) hyx
theorem sortR_sorted {lt : Int → Int → Bool} (ht : Tot lt) : ∀ {l acc : List Int}, acc.Pairwise (fun y z => lt z y = true) → l.Nodup → (∀ v ∈ l, v ∉ acc) → (sortR lt acc l).Pairwise (fun y z => lt z y = true)
 | [], acc, h, _, _ => h
 | x :: l, acc, h, hn, hd => by
  rw [List.nodup_cons] at hn
  rw [sortR]
  refine sortR_sorted ht (insR_sorted ht h (hd x (by simp))) hn.2 fun v hv hm => ?_
  rcases insR_mem.1 hm with rfl | hm
  ·exact hn.1 hv
  ·exact hd v (by simp [hv]) hm
theorem sortP_sorted {lt : Int → Int → Bool} (ht : Tot lt) {l : List Int} (hn : l.Nodup) : (sortP lt l).Pairwise (fun y z => lt y z = true) := by
 rw [sortP, List.pairwise_reverse]
 exact sortR_sorted ht List.Pairwise.nil hn (by simp)
theorem sorted_unique {lt : Int → Int → Bool} (ht : Tot lt) : ∀ {l m : List Int}, l.Pairwise (fun y z => lt y z = true) → m.Pairwise (fun y z => lt y z = true) → (∀ v, v ∈ l ↔ v ∈ m) → l = m
 | [], m, _, _, h => by
  cases m with
  | nil => rfl
  | cons b m => have := (h b).2 (by simp); cases this
 | a :: l, m, hl, hm, h => by
  cases m with
  | nil => have := (h a).1 (by simp); cases this
  | cons b m =>
   rw [List.pairwise_cons] at hl hm
   have hab : a = b := by
    by_cases hab : a = b
    ·exact hab
    ·exfalso
     have h1 : a ∈ m := by have := (h a).1 (by simp); simp only [List.mem_cons] at this; exact this.resolve_left hab
     have h2 : b ∈ l := by have := (h b).2 (by simp); simp only [List.mem_cons] at this; exact this.resolve_left (fun e => hab e.symm)
     have h3 := hm.1 a h1
     have h4 := ht.asym _ _ (hl.1 b h2)
     rw [h3] at h4
     cases h4
   subst hab
   congr 1
   refine sorted_unique ht hl.2 hm.2 fun v => ?_
   have hv := h v
   simp only [List.mem_cons] at hv
   constructor
   ·intro hvl
    rcases hv.1 (.inr hvl) with rfl | h5
    ·have := hl.1 v hvl; rw [ht.irr] at this; cases this
    ·exact h5
   ·intro hvm
    rcases hv.2 (.inr hvm) with rfl | h5
    ·have := hm.1 v hvm; rw [ht.irr] at this; cases this
    ·exact h5
theorem pick_nodup (c : Nat → Bool) : ∀ (m k : Nat), (pickFrom c m k).Nodup
 | 0, k => by simp [pickFrom]
 | m + 1, k => by
  have ih := pick_nodup c m (k + 1)
  rw [pickFrom]
  split
  ·rw [List.nodup_cons]
   refine ⟨fun h => ?_, ih⟩
   obtain ⟨j, h1, h2, _⟩ := pick_mem.1 h
   omega
  ·exact ih
theorem firstS_tot (p : WiPlan) (s : WiState) : Tot (firstS p s) := firstL_tot _ _ _ _
theorem rightsS_sorted (p : WiPlan) (s : WiState) (sky : WiSky) (m : Int) (done : List Int) : (rightsS p s sky m done).Pairwise (fun y z => firstS p s y z = true) := sortP_sorted (firstL_tot _ _ _ _) (pick_nodup _ _ _)
theorem rights_tail {p : WiPlan} {s : WiState} {sky : WiSky} {m : Int} {done l : List Int} {t : Int} (h : rightsS p s sky m done = t :: l) : rightsS p s sky m (done ++ [t]) = l := by
 have hs := rightsS_sorted p s sky m done
 have hm := fun v => rightsS_mem (p := p) (s := s) (sky := sky) (m := m) (done := done) (v := v)
 rw [h] at hs hm
 rw [List.pairwise_cons] at hs
 refine sorted_unique (firstS_tot p s) (rightsS_sorted p s sky m _) hs.2 fun v => ?_
 rw [rightsS_mem]
 have hv := hm v
 rw [List.mem_cons] at hv
 have happ : ∀ k : Nat, canS p s sky m (done ++ [t]) k = (canS p s sky m done k && !decide ((k : Int) = t)) := fun k => by
  unfold canS hasP
  rw [List.any_append]
  cases done.any fun x => decide ((k : Int) = x) <;> simp [Bool.and_comm]
 constructor
 ·rintro ⟨k, h1, h2, h3⟩
  rw [happ, Bool.and_eq_true] at h3
  have h4 : ¬ (k : Int) = t := by simpa using h3.2
  exact (hv.2 ⟨k, h1, h2, h3.1⟩).resolve_left (by rw [h1]; exact h4)
 ·intro hvl
  obtain ⟨k, h1, h2, h3⟩ := hv.1 (.inr hvl)
  refine ⟨k, h1, h2, ?_⟩
  rw [happ, h3]
  have : v ≠ t := fun e => by have := hs.1 v hvl; rw [e, (firstS_tot p s).irr] at this; cases this
  rw [h1] at this
  simp [this]
end Go.Proofs.Ytdefnmcjmklohaa
open Go Go.Proofs.Ytdefnmcjmklohaa.Sh Go.Proofs
namespace Go.Proofs.Ytdefnmcjmklohaa
theorem mget_mset (v : Bool) (k j : Int) : ∀ m : List (Int × Bool), (mget (mset m k v) j).getD false = if j = k then v else (mget m j).getD false
 | [] => by
  by_cases h : j = k
  ·subst h; simp [mset, mget]
  ·have : (j == k) = false := by simp [h]
   simp [mset, mget, h]
 | p :: m => by
  have ih := mget_mset v k j m
  unfold mset
  cases hk : k == p.1 with
  | true =>
   have hk' : k = p.1 := by simpa using hk
   simp only [cond_true]
   by_cases h : j = k
   ·subst h; simp [mget]
   ·have h1 : (j == k) = false := by simp [h]
    have h2 : (j == p.1) = false := by rw [← hk']; exact h1
    simp [mget, h1, h2, h]
  | false =>
   simp only [cond_false]
   cases h1 : j == p.1 with
   | true =>
    have h2 : ¬ j = k := by
     rintro rfl
     rw [hk] at h1
     cases h1
    simp [mget, h1, h2]
   | false =>
    simp only [mget, List.find?_cons, h1] at ih ⊢
    exact ih
def stD (d : Desk) : WiState := ⟨d.s_Used, d.s_Credit, d.s_Last, d.s_Next⟩
def tabD (p : WiPlan) (sky : WiSky) (d : Desk) (dm : List (Int × Bool)) : Table :=
 Table.mk p.teams p.windows p.cost p.gift d.s_Used d.s_Credit d.s_Last d.s_Next sky.kinds sky.wind (winAt p d.s_Next).day (winAt p d.s_Next).from_ (winAt p d.s_Next).until_ d.minute dm d.given d.by_ d.over d.use_Window d.use_Team d.use_At d.use_By
def DoneR (d : Desk) (dm : List (Int × Bool)) : Prop := ∀ k : Nat, (mget dm (k : Int)).getD false = hasP d.done k
structure DeskOk (F : Nat) (p : WiPlan) (sky : WiSky) (d : Desk) (c : Nat) : Prop where
 a : Ask F p (stD d) sky d.minute
 g : -1 ≤ d.given ∧ d.given < p.teams.length
 ov : d.over = true → d.given = -1
 ub : d.over = false → d.use_By = -1
 uw : d.use_Window = d.s_Next
 n : d.done.length ≤ c
 us : ∀ k, k < p.teams.length → 0 ≤ d.s_Used.getD k 0 ∧ d.s_Used.getD k 0 ≤ 100 + c
 cs : ∀ k, k < p.teams.length → -100000 - 200 * (c : Int) ≤ d.s_Credit.getD k 0 ∧ d.s_Credit.getD k 0 ≤ 200000 + 200 * c
def turnS (p : WiPlan) (sky : WiSky) (d : Desk) : Int :=
 if d.over = true then -1 else if 0 ≤ d.given then d.given else match rightsS p (stD d) sky d.minute d.done with
 | [] => -1
 | t :: _ => t
def recvS (p : WiPlan) (sky : WiSky) (d : Desk) : List Int :=
 if turnS p sky d < 0 then [] else if 0 ≤ d.given then [] else rightsS p (stD d) sky d.minute (d.done ++ [turnS p sky d])
section
variable {F : Nat} {p : WiPlan} {sky : WiSky} {d : Desk} {c : Nat} {dm : List (Int × Bool)}
theorem tabD_ok (h : DeskOk F p sky d c) : TabOk F (tabD p sky d dm) := by
 have hw := h.a.o.po.win h.a.o.n.1 h.a.n
 exact ⟨h.a.f.f, h.a.f.h, h.a.o.po.t.2, h.a.o.po.ts, h.a.o.u, h.a.o.c, h.a.o.l, h.a.o.ls, h.a.k, hw.d, hw.u, h.a.m⟩
theorem rightsT_D (hd : DoneR d dm) : rightsT (tabD p sky d dm) = rightsS p (stD d) sky d.minute d.done := rightsT_S rfl rfl rfl rfl rfl rfl rfl rfl (fun k => hd k)
theorem turn_eq (h : DeskOk F p sky d c) (hd : DoneR d dm) : window_table_turn F (tabD p sky d dm) = some (turnS p sky d) := by
 have e1 := rights_eq (tabD_ok (dm := dm) h)
 rw [rightsT_D hd] at e1
 unfold window_table_turn turnS
 rw [e1, Option.bind_some]
 have hov := h.ov
 by_cases ho : d.over = true
 ·have h0 := hov ho
  have h1 : ¬ 0 ≤ (tabD p sky d dm).given := by show ¬ 0 ≤ d.given; omega
  have h2 : (tabD p sky d dm).over = true := ho
  rw [if_neg h1, if_pos h2, if_pos ho]
  show some d.given = some (-1)
  rw [h0]
 ·have h2 : ¬ (tabD p sky d dm).over = true := ho
  by_cases hg : 0 ≤ d.given
  ·have h1 : 0 ≤ (tabD p sky d dm).given := hg
   rw [if_pos h1, if_neg ho, if_pos hg]
   rfl
  ·have h1 : ¬ 0 ≤ (tabD p sky d dm).given := hg
   rw [if_neg h1, if_neg h2, if_neg ho, if_neg hg]
   cases rightsS p (stD d) sky d.minute d.done with
   | nil => rfl
   | cons t l =>
    have : 0 < (((t :: l).length : Nat) : Int) := by simp
    rw [if_pos this]
    rfl
theorem turnS_lt (h : DeskOk F p sky d c) : turnS p sky d < p.teams.length := by
 have := h.g
 unfold turnS
 split
 ·omega
 split
 ·omega
 split
 ·omega
 ·rename_i t l he
  have : t ∈ rightsS p (stD d) sky d.minute d.done := by rw [he]; simp
  obtain ⟨k, rfl, hk, _⟩ := rightsS_mem.1 this
  omega
theorem turn_rights (ho : ¬ turnS p sky d < 0) (hg : ¬ 0 ≤ d.given) : ∃ l, rightsS p (stD d) sky d.minute d.done = turnS p sky d :: l := by
 unfold turnS at ho ⊢
 by_cases h1 : d.over = true
 ·rw [if_pos h1] at ho; exact absurd (by omega) ho
 rw [if_neg h1, if_neg hg] at ho ⊢
 cases hr : rightsS p (stD d) sky d.minute d.done with
 | nil => rw [hr] at ho; exact absurd (show (-1 : Int) < 0 by omega) ho
 | cons t l => exact ⟨l, rfl⟩
theorem recv_tail (ho : ¬ turnS p sky d < 0) (hg : ¬ 0 ≤ d.given) : rightsS p (stD d) sky d.minute d.done = turnS p sky d :: recvS p sky d := by
 obtain ⟨l, hl⟩ := turn_rights ho hg
 unfold recvS
 rw [if_neg ho, if_neg hg, rights_tail hl, hl]
def recvO (p : WiPlan) (sky : WiSky) (d : Desk) : Option (List Int) :=
 match recvS p sky d with
 | [] => none
 | _ :: _ => some (rightsS p (stD d) sky d.minute d.done)
theorem receivers_eq (h : DeskOk F p sky d c) (hd : DoneR d dm) : window_table_receivers F (tabD p sky d dm) = some (recvO p sky d) := by
 have e1 := rights_eq (tabD_ok (dm := dm) h)
 rw [rightsT_D hd] at e1
 unfold window_table_receivers recvO
 rw [turn_eq h hd, Option.bind_some, e1, Option.bind_some]
 by_cases h1 : turnS p sky d < 0
 ·rw [if_pos h1]; unfold recvS; rw [if_pos h1]
 ·rw [if_neg h1]
  by_cases h2 : 0 ≤ d.given
  ·have h2' : 0 ≤ (tabD p sky d dm).given := h2
   rw [if_pos h2']; unfold recvS; rw [if_neg h1, if_pos h2]
  ·have h2' : ¬ 0 ≤ (tabD p sky d dm).given := h2
   rw [if_neg h2', recv_tail h1 h2]
   cases recvS p sky d with
   | nil => rfl
   | cons a l => simp
theorem recvO_drop {t : List Int} (h : recvO p sky d = some t) : t.length ≠ 0 ∧ t.drop 1 = recvS p sky d := by
 unfold recvO at h
 cases hr : recvS p sky d with
 | nil => rw [hr] at h; cases h
 | cons a l =>
  rw [hr] at h
  injection h with h
  have h1 : ¬ turnS p sky d < 0 := fun e => by unfold recvS at hr; rw [if_pos e] at hr; cases hr
  have h2 : ¬ 0 ≤ d.given := fun e => by unfold recvS at hr; rw [if_neg h1, if_pos e] at hr; cases hr
  rw [recv_tail h1 h2] at h
  subst h
  exact ⟨by simp, hr⟩
theorem recvO_none (h : recvO p sky d = none) : recvS p sky d = [] := by
 unfold recvO at h
 cases hr : recvS p sky d with
 | nil => rfl
 | cons a l => rw [hr] at h; cases h
theorem must_eq (b : Bool) (e : Int) : window_must F b e = some (if b = true then .ok () else .error e) := by
 unfold window_must
 split <;> simp [*]
end
end Go.Proofs.Ytdefnmcjmklohaa
open Go Go.Proofs.Ytdefnmcjmklohaa.Sh Go.Proofs
namespace Go.Proofs.Ytdefnmcjmklohaa
theorem getD_set (y : List Int) (i j : Nat) (v : Int) : (y.set i v).getD j 0 = if i = j ∧ i < y.length then v else y.getD j 0 := by
 simp only [List.getD_eq_getElem?_getD, List.getElem?_set]
 by_cases h : i = j
 ·subst h
  by_cases h2 : i < y.length
  ·simp [h2]
  ·simp [h2]
 ·simp [h]
theorem setO_nat (y : List Int) (i : Nat) (v : Int) : setO y (i : Int) v = some (y.set i v) := by
 unfold setO
 rw [Int.toNat_natCast]
def bumpL : List Int → List Int → List Int
 | y, [] => y
 | y, i :: l => bumpL (y.set i.toNat (y.getD i.toNat 0 + 1)) l
theorem bumpL_len : ∀ (l y : List Int), (bumpL y l).length = y.length
 | [], y => rfl
 | i :: l, y => by rw [bumpL, bumpL_len l, List.length_set]
theorem bumpL_get : ∀ {l y : List Int}, l.Nodup → (∀ i ∈ l, 0 ≤ i ∧ i < y.length) → ∀ k : Nat, (bumpL y l).getD k 0 = y.getD k 0 + if (k : Int) ∈ l then 1 else 0
 | [], y, _, _, k => by simp [bumpL]
 | i :: l, y, hn, hv, k => by
  rw [List.nodup_cons] at hn
  obtain ⟨j, rfl⟩ := Int.eq_ofNat_of_zero_le (hv i (by simp)).1
  have hj := (hv (j : Int) (by simp)).2
  rw [bumpL, bumpL_get hn.2 (fun v h => by rw [List.length_set]; exact hv v (by simp [h])) k, Int.toNat_natCast, getD_set]
  by_cases h : j = k
  ·subst h
   rw [if_pos ⟨rfl, by omega⟩, if_neg hn.1, if_pos (by simp)]
   omega
  ·rw [if_neg (fun e => h e.1)]
   have : ((k : Int) ∈ (j : Int) :: l) ↔ (k : Int) ∈ l := by
    rw [List.mem_cons]
    constructor
    ·rintro (e | e)
     ·omega
     ·exact e
    ·exact .inr
   by_cases h2 : (k : Int) ∈ l
   ·rw [if_pos h2, if_pos (this.2 h2)]
   ·rw [if_neg h2, if_neg (fun e => h2 (this.1 e))]
def Far (b : Int) (y : List Int) : Prop := ∀ k, -b ≤ y.getD k 0 ∧ y.getD k 0 ≤ b
theorem Far.set {b : Int} {y : List Int} (h : Far b y) {v : Int} (hv : -b ≤ v ∧ v ≤ b) (i : Nat) : Far b (y.set i v) := fun k => by
 rw [getD_set]
 split
 ·exact hv
 ·exact h k
theorem Far.mono {b c : Int} {y : List Int} (h : Far b y) (hb : b ≤ c) : Far c y := fun k => by have := h k; omega
theorem launch_L1 {F : Nat} {t : Table} (h : TabOk F t) (K' : List Int → Option (Except Int Table)) : ∀ (n k : Nat) (y : List Int) (b : Int), t.p_Teams.length < n + k → k ≤ t.p_Teams.length → y.length = t.p_Teams.length → Far b y → 0 ≤ b → b ≤ 1000000000 - 2 * ((t.p_Teams.length : Int) - k) → window_table_launch_m_L1 F t (fun y _ => K' y) n y k = K' (bumpL y (pickFrom (canT t) (t.p_Teams.length - k) k))
 | 0, k, y, b, h1, h2, _, _, _, _ => absurd h1 (by omega)
 | n + 1, k, y, b, h1, h2, hy, hf, hb0, hb => by
  have h8 := h.n
  rw [window_table_launch_m_L1]
  by_cases hk : k < t.p_Teams.length
  ·have hfk := hf k
   have h' : TabOk F { t with s_Credit := y } := ⟨h.f, h.h, h.n, h.ts, h.u, hy, h.l, h.ls, h.k, h.d, h.un, h.m⟩
   have e1 : window_table_why F { t with s_Credit := y } k = some (whyT t k) := why_eq h' hk
   rw [getD_of _ (show k < y.length by omega)] at hfk
   rw [if_pos (by omega), e1, Option.bind_some, ixO_nat (by omega), Option.bind_some, setO_nat, Option.bind_some, W_succ (by omega), W_id (x := y[k] + 1), launch_L1 h K' n (k + 1) y (b + 1) (by omega) (by omega) hy (hf.mono (by omega)) (by omega) (by omega), launch_L1 h K' n (k + 1) (y.set k (y[k] + 1)) (b + 1) (by omega) (by omega) (by rw [List.length_set]; exact hy) ((hf.mono (by omega)).set (by omega) k) (by omega) (by omega), show t.p_Teams.length - k = (t.p_Teams.length - (k + 1)) + 1 by omega, pickFrom]
   unfold canT doneT
   cases (mget t.done (k : Int)).getD false
   ·by_cases hw : whyT t k = 0
    ·simp [hw, bumpL, List.getElem?_eq_getElem (show k < y.length by omega)]
    ·simp [hw]
   ·simp
  ·rw [if_neg (by omega), show t.p_Teams.length - k = 0 by omega]
   rfl
def giveC (p : WiPlan) (d : Desk) (t to : Int) : List Int :=
 (d.s_Credit.set t.toNat (d.s_Credit.getD t.toNat 0 + p.gift)).set to.toNat (d.s_Credit.getD to.toNat 0 - p.gift)
def others (p : WiPlan) (sky : WiSky) (d : Desk) (t : Int) : List Int := pickFrom (canS p (stD d) sky d.minute (d.done ++ [t])) p.teams.length 0
def launchC (p : WiPlan) (sky : WiSky) (d : Desk) (t : Int) : List Int :=
 (bumpL d.s_Credit (others p sky d t)).set t.toNat ((bumpL d.s_Credit (others p sky d t)).getD t.toNat 0 - p.cost)
def launchD (p : WiPlan) (sky : WiSky) (d : Desk) (x : WiTurn) (t : Int) : Desk :=
 { d with s_Used := d.s_Used.set t.toNat (d.s_Used.getD t.toNat 0 + 1), s_Last := d.s_Last.set t.toNat (winAt p d.s_Next).day, s_Credit := launchC p sky d t, minute := x.at_, done := d.done ++ [t], given := -1, over := true, use_Team := t, use_At := x.at_, use_By := if 0 ≤ d.given then d.by_ else -1 }
def actS (p : WiPlan) (sky : WiSky) (d : Desk) (x : WiTurn) : Desk × Int :=
 if turnS p sky d < 0 then (d, 9) else if outP x.what 1 3 = true then (d, 2)
 else if x.what = 3 then
  (if 0 ≤ d.given then (d, 5) else if hasP (recvS p sky d) x.to_ = false then (d, 4) else if x.at_ ≠ d.minute then (d, 7)
  else ({ d with s_Credit := giveC p d (turnS p sky d) x.to_, done := d.done ++ [turnS p sky d], given := x.to_, by_ := turnS p sky d }, 0))
 else if x.to_ ≠ 0 ∨ outP x.at_ (if x.what = 1 then d.minute + (p.teams.getD (turnS p sky d).toNat default).setup else d.minute) (winAt p d.s_Next).until_ = true then (d, 7)
 else if x.what = 1 then (launchD p sky d x (turnS p sky d), 0) else ({ d with minute := x.at_, done := d.done ++ [turnS p sky d], given := -1 }, 0)
section
variable {F : Nat} {p : WiPlan} {sky : WiSky} {d : Desk} {c : Nat} {dm : List (Int × Bool)}
theorem recvS_mem {v : Int} (h : hasP (recvS p sky d) v = true) : 0 ≤ v ∧ v < p.teams.length ∧ v ≠ turnS p sky d := by
 rw [hasP_iff] at h
 unfold recvS at h
 split at h
 ·cases h
 split at h
 ·cases h
 obtain ⟨k, rfl, h1, h2⟩ := rightsS_mem.1 h
 refine ⟨by omega, by omega, fun e => ?_⟩
 unfold canS hasP at h2
 rw [List.any_append, e] at h2
 simp at h2
theorem others_nodup (t : Int) : (others p sky d t).Nodup := pick_nodup _ _ _
theorem others_mem {t v : Int} (h : v ∈ others p sky d t) : 0 ≤ v ∧ v < p.teams.length ∧ v ≠ t := by
 obtain ⟨j, rfl, _, h1, h2⟩ := pick_mem.1 h
 refine ⟨by omega, by omega, fun e => ?_⟩
 unfold canS hasP at h2
 rw [List.any_append, e] at h2
 simp at h2
theorem DeskOk.far (h : DeskOk F p sky d c) : Far (200000 + 200 * c) d.s_Credit := fun k => by
 by_cases hk : k < p.teams.length
 ·have := h.cs k hk; omega
 ·have hl : d.s_Credit.length = p.teams.length := h.a.o.c
  rw [List.getD_eq_getElem?_getD, List.getElem?_eq_none (by omega)]
  simp
  omega
theorem bump_far {b : Int} {y l : List Int} (hn : l.Nodup) (hv : ∀ i ∈ l, 0 ≤ i ∧ i < y.length) (h : Far b y) (hb : 0 ≤ b) : Far (b + 1) (bumpL y l) := fun k => by
 have := h k
 rw [bumpL_get hn hv k]
 split <;> omega
end
end Go.Proofs.Ytdefnmcjmklohaa
open Go Go.Proofs.Ytdefnmcjmklohaa.Sh Go.Proofs
namespace Go.Proofs.Ytdefnmcjmklohaa
section
variable {F : Nat} {p : WiPlan} {sky : WiSky} {d : Desk} {c : Nat} {dm : List (Int × Bool)}
theorem exE_ok {α β : Type} (a : α) (f : Int → β) (g : α → β) : exE (.ok a) f g = g a := rfl
theorem exE_err {α β : Type} (e : Int) (f : Int → β) (g : α → β) : exE (.error e : Except Int α) f g = f e := rfl
theorem hasP_app (l : List Int) (t v : Int) : hasP (l ++ [t]) v = (hasP l v || decide (v = t)) := by
 unfold hasP
 rw [List.any_append]
 simp
theorem doneR_step (hd : DoneR d dm) (t : Int) (k : Nat) : (mget (mset dm t true) (k : Int)).getD false = hasP (d.done ++ [t]) k := by
 rw [mget_mset, hasP_app, hd k]
 by_cases h : (k : Int) = t <;> simp [h]
theorem canT_D (hd : DoneR d dm) : canT (tabD p sky d dm) = canS p (stD d) sky d.minute d.done := by
 funext k
 unfold canT canS
 rw [show doneT (tabD p sky d dm) k = hasP d.done k from hd k]
 rfl
def actT (p : WiPlan) (sky : WiSky) (d : Desk) (dm : List (Int × Bool)) (x : WiTurn) : Except Int Table :=
 if (actS p sky d x).2 = 0 then .ok (tabD p sky (actS p sky d x).1 (mset dm (turnS p sky d) true)) else .error (actS p sky d x).2
theorem launch_eq (h : DeskOk F p sky d c) (hc : c ≤ 18) (hd : DoneR d dm) (x : WiTurn) (hov : d.over = false) {t : Nat} (ht : t < p.teams.length) : window_table_launch_m F (tabD p sky d dm) t x = some (if x.to_ ≠ 0 ∨ outP x.at_ (d.minute + (p.teams.getD t default).setup) (winAt p d.s_Next).until_ = true then .error 7 else .ok (tabD p sky (launchD p sky d x t) (mset dm t true))) := by
 have hfar := h.far; have h8 := h.a.o.po.t; have hcost := h.a.o.po.c
 have hu : d.s_Used.length = p.teams.length := h.a.o.u
 have hcl : d.s_Credit.length = p.teams.length := h.a.o.c
 have hll : d.s_Last.length = p.teams.length := h.a.o.l
 have hm := h.a.m; have hF := h.a.f.h
 have hts := h.a.o.po.ts _ (List.getElem_mem ht)
 have hsu := hts.s
 have hub := h.ub hov
 unfold window_table_launch_m
 simp only [window_out_eq, must_eq, Option.bind_some]
 by_cases h0 : x.to_ = 0
 ·have e0 : ixO (tabD p sky d dm).p_Teams (t : Int) = some p.teams[t] := ixO_nat ht
  rw [if_pos h0, e0, Option.bind_some]
  have eW : W ((tabD p sky d dm).minute + p.teams[t].setup) = d.minute + p.teams[t].setup := by
   show W (d.minute + p.teams[t].setup) = _
   rw [W_id]
  rw [eW, getD_of _ ht]
  have eU : (tabD p sky d dm).w_Until = (winAt p d.s_Next).until_ := rfl
  rw [eU]
  cases ho : outP x.at_ (d.minute + p.teams[t].setup) (winAt p d.s_Next).until_ with
  | true => simp [exE, h0]
  | false =>
   have hd' : DoneR { d with done := d.done ++ [(t : Int)] } (mset dm t true) := doneR_step hd t
   have hok : TabOk F (tabD p sky { d with done := d.done ++ [(t : Int)] } (mset dm t true)) := by
    have := tabD_ok (dm := dm) h
    exact ⟨this.f, this.h, this.n, this.ts, this.u, this.c, this.l, this.ls, this.k, this.d, this.un, this.m⟩
   have hbf : Far (200000 + 200 * c + 1) (bumpL d.s_Credit (others p sky d t)) := bump_far (others_nodup _) (fun i hi => by have := others_mem hi; omega) hfar (by omega)
   have hcan : canT (tabD p sky { d with done := d.done ++ [(t : Int)] } (mset dm t true)) = canS p (stD d) sky d.minute (d.done ++ [(t : Int)]) := canT_D hd'
   have hn0 : (tabD p sky { d with done := d.done ++ [(t : Int)] } (mset dm t true)).p_Teams.length = p.teams.length := rfl
   have eL := fun K' => launch_L1 (F := F) (t := tabD p sky { d with done := d.done ++ [(t : Int)] } (mset dm t true)) hok K' F 0 d.s_Credit (200000 + 200 * c) (by omega) (by omega) hcl hfar (by omega) (by omega)
   rw [hcan] at eL
   have hbl : (bumpL d.s_Credit (others p sky d t)).length = p.teams.length := by rw [bumpL_len]; exact hcl
   have hbt := hbf t
   rw [getD_of _ (show t < (bumpL d.s_Credit (others p sky d t)).length by omega)] at hbt
   have hut := h.us t ht
   rw [getD_of _ (show t < d.s_Used.length by omega)] at hut
   rw [if_neg (show ¬ (x.to_ ≠ 0 ∨ false = true) by simp [h0])]
   have key : ∀ by' : Int, (Option.bind (ixO d.s_Used (t : Int)) fun e3 => Option.bind (setO d.s_Used t (W (e3 + 1))) fun q => Option.bind (ixO d.s_Last (t : Int)) fun e4 => Option.bind (setO d.s_Last t (winAt p d.s_Next).day) fun q2 => Option.bind (ixO (bumpL d.s_Credit (others p sky d t)) (t : Int)) fun e5 => Option.bind (setO (bumpL d.s_Credit (others p sky d t)) t (W (e5 - p.cost))) fun lv3 => some (Except.ok (ε := Int) (tabD p sky { d with s_Used := q, s_Last := q2, s_Credit := lv3, minute := x.at_, done := d.done ++ [(t : Int)], given := -1, over := true, use_Team := t, use_At := x.at_, use_By := by' } (mset dm t true)))) = some (.ok (tabD p sky { d with s_Used := d.s_Used.set (t : Int).toNat (d.s_Used.getD (t : Int).toNat 0 + 1), s_Last := d.s_Last.set (t : Int).toNat (winAt p d.s_Next).day, s_Credit := launchC p sky d t, minute := x.at_, done := d.done ++ [(t : Int)], given := -1, over := true, use_Team := t, use_At := x.at_, use_By := by' } (mset dm t true))) := fun by' => by
    rw [ixO_nat (by omega), Option.bind_some, setO_nat, Option.bind_some, ixO_nat (by omega), Option.bind_some, setO_nat, Option.bind_some, ixO_nat (by omega), Option.bind_some, setO_nat, Option.bind_some, W_id (x := d.s_Used[t] + 1), W_id (x := (bumpL d.s_Credit (others p sky d t))[t] - p.cost)]
    unfold launchC
    rw [Int.toNat_natCast, getD_of _ (show t < d.s_Used.length by omega), getD_of _ (show t < (bumpL d.s_Credit (others p sky d t)).length by omega)]
   simp only [Bool.not_false, if_true, exE, window_table_entitled_m, Option.bind_some]
   by_cases hg : 0 ≤ d.given
   ·have k1 := key d.by_
    unfold launchD
    rw [if_pos hg, ← k1]
    refine (eL _).trans ?_
    show (Option.bind (ixO d.s_Used (t : Int)) fun e3 => Option.bind (setO d.s_Used t (W (e3 + 1))) fun q => Option.bind (ixO d.s_Last (t : Int)) fun e4 => Option.bind (setO d.s_Last t (winAt p d.s_Next).day) fun q2 => Option.bind (ixO (bumpL d.s_Credit (others p sky d t)) (t : Int)) fun e5 => Option.bind (setO (bumpL d.s_Credit (others p sky d t)) t (W (e5 - p.cost))) fun lv3 => if 0 ≤ d.given then _ else _) = _
    simp only [if_pos hg]
    rfl
   ·have k1 := key (-1)
    unfold launchD
    rw [if_neg hg, ← k1]
    refine (eL _).trans ?_
    show (Option.bind (ixO d.s_Used (t : Int)) fun e3 => Option.bind (setO d.s_Used t (W (e3 + 1))) fun q => Option.bind (ixO d.s_Last (t : Int)) fun e4 => Option.bind (setO d.s_Last t (winAt p d.s_Next).day) fun q2 => Option.bind (ixO (bumpL d.s_Credit (others p sky d t)) (t : Int)) fun e5 => Option.bind (setO (bumpL d.s_Credit (others p sky d t)) t (W (e5 - p.cost))) fun lv3 => if 0 ≤ d.given then _ else _) = _
    simp only [if_neg hg, ← hub]
    rfl
 ·rw [if_neg h0, if_pos (show x.to_ ≠ 0 ∨ outP x.at_ (d.minute + (p.teams.getD t default).setup) (winAt p d.s_Next).until_ = true from .inl h0)]
  simp [exE]
theorem scrub_eq (x : WiTurn) (t : Int) : window_table_scrub_m F (tabD p sky d dm) t x = some (if x.to_ ≠ 0 ∨ outP x.at_ d.minute (winAt p d.s_Next).until_ = true then .error 7 else .ok (tabD p sky { d with minute := x.at_, done := d.done ++ [t], given := -1 } (mset dm t true))) := by
 unfold window_table_scrub_m
 simp only [window_out_eq, must_eq, Option.bind_some]
 by_cases h0 : x.to_ = 0
 ·rw [if_pos h0]
  have e0 : outP x.at_ (tabD p sky d dm).minute (tabD p sky d dm).w_Until = outP x.at_ d.minute (winAt p d.s_Next).until_ := rfl
  rw [e0]
  cases outP x.at_ d.minute (winAt p d.s_Next).until_
  ·rw [if_neg (show ¬ (x.to_ ≠ 0 ∨ false = true) by simp [h0])]; rfl
  ·simp [exE, h0]
 ·rw [if_neg h0, if_pos (show x.to_ ≠ 0 ∨ outP x.at_ d.minute (winAt p d.s_Next).until_ = true from .inl h0)]; simp [exE]
theorem give_eq (h : DeskOk F p sky d c) (hc : c ≤ 18) (hd : DoneR d dm) (x : WiTurn) {t : Nat} (ht : turnS p sky d = t) : window_table_give_m F (tabD p sky d dm) t x = some (if 0 ≤ d.given then .error 5 else if hasP (recvS p sky d) x.to_ = false then .error 4 else if x.at_ ≠ d.minute then .error 7 else .ok (tabD p sky { d with s_Credit := giveC p d t x.to_, done := d.done ++ [(t : Int)], given := x.to_, by_ := t } (mset dm t true))) := by
 have hfar := h.far; have h8 := h.a.o.po.t; have hgift := h.a.o.po.g; have hF := h.a.f.h
 have hcl : d.s_Credit.length = p.teams.length := h.a.o.c
 have htl := turnS_lt h
 have hct := hfar t
 rw [getD_of _ (show t < d.s_Credit.length by omega)] at hct
 have hrl : (recvS p sky d).length ≤ 8 := by
  unfold recvS
  split
  ·simp
  split
  ·simp
  ·exact Nat.le_trans rightsS_len (by omega)
 unfold window_table_give_m
 rw [must_eq, Option.bind_some]
 have eg : (tabD p sky d dm).given = d.given := rfl
 have em : (tabD p sky d dm).minute = d.minute := rfl
 have ec : (tabD p sky d dm).s_Credit = d.s_Credit := rfl
 have ef : (tabD p sky d dm).p_Gift = p.gift := rfl
 rw [eg, em, ec, ef]
 by_cases hg : 0 ≤ d.given
 ·have : ¬ d.given < 0 := by omega
  simp [this, exE, hg]
 ·have hg' : d.given < 0 := by omega
  rw [if_neg hg]
  simp only [hg', decide_true, if_true, exE_ok]
  have er := receivers_eq h hd
  rw [er, Option.bind_some]
  simp only [must_eq, Option.bind_some]
  cases ho : recvO p sky d with
  | none =>
   rw [recvO_none ho]
   simp only [optE]
   rw [Contains_eq (by simp) (by simp; omega)]
   simp [hasP, exE_err]
  | some l =>
   obtain ⟨h1, h2⟩ := recvO_drop ho
   simp only [optE]
   rw [if_neg h1, h2, Contains_eq (by omega) (by omega), Option.bind_some]
   cases hr : hasP (recvS p sky d) x.to_ with
   | false => simp [exE_err]
   | true =>
    have hto := recvS_mem hr
    obtain ⟨j, hj⟩ := Int.eq_ofNat_of_zero_le hto.1
    rw [ht, hj] at hto
    have hcj := hfar j
    rw [getD_of _ (show j < d.s_Credit.length by omega)] at hcj
    simp only [if_true, Bool.true_eq_false, if_false, exE_ok]
    by_cases ha : x.at_ = d.minute
    ·have hjt : ¬ t = j := by omega
     have hget : (d.s_Credit.set t (d.s_Credit[t] + p.gift))[j]'(by rw [List.length_set]; omega) = d.s_Credit[j] := List.getElem_set_ne hjt _
     simp only [ha, decide_true, if_true, exE_ok]
     rw [if_neg (show ¬ d.minute ≠ d.minute from fun e => e rfl), hj, ixO_nat (by omega), Option.bind_some, setO_nat, Option.bind_some, W_id (x := d.s_Credit[t] + p.gift), ixO_nat (by rw [List.length_set]; omega), Option.bind_some, setO_nat, Option.bind_some, hget, W_id (x := d.s_Credit[j] - p.gift)]
     unfold giveC
     rw [Int.toNat_natCast, Int.toNat_natCast, getD_of _ (show t < d.s_Credit.length by omega), getD_of _ (show j < d.s_Credit.length by omega)]
     rfl
    ·simp [ha, exE_err]
end
end Go.Proofs.Ytdefnmcjmklohaa
open Go Go.Proofs.Ytdefnmcjmklohaa.Sh Go.Proofs
namespace Go.Proofs.Ytdefnmcjmklohaa
section
variable {F : Nat} {p : WiPlan} {sky : WiSky} {d : Desk} {c : Nat} {dm : List (Int × Bool)}
theorem turn_over (h : DeskOk F p sky d c) (ht : ¬ turnS p sky d < 0) : d.over = false := by
 cases ho : d.over with
 | false => rfl
 | true => exact absurd (show turnS p sky d < 0 by unfold turnS; rw [if_pos ho]; omega) ht
theorem act_eq (h : DeskOk F p sky d c) (hc : c ≤ 18) (hd : DoneR d dm) (x : WiTurn) : window_table_act_m F (tabD p sky d dm) x = some (actT p sky d dm x) := by
 unfold window_table_act_m actT actS
 rw [turn_eq h hd, Option.bind_some, must_eq, Option.bind_some]
 by_cases ht : turnS p sky d < 0
 ·have h1 : decide (0 ≤ turnS p sky d) = false := by simp; omega
  rw [if_pos ht, h1]
  rfl
 have h1 : decide (0 ≤ turnS p sky d) = true := by simp; omega
 have htl := turnS_lt h
 obtain ⟨t, het⟩ := Int.eq_ofNat_of_zero_le (show 0 ≤ turnS p sky d by omega)
 have htk : turnS p sky d = (t : Int) := het
 have hov := turn_over h ht
 rw [if_neg ht, h1]
 simp only [must_eq, Option.bind_some, if_true, exE_ok]
 rw [htk, launch_eq h hc hd x hov (show t < p.teams.length by omega), scrub_eq, give_eq h hc hd x htk]
 simp only [Option.bind_some, Int.toNat_natCast]
 by_cases w1 : x.what = 1
 ·have ho : outP x.what 1 3 = false := by simp [outP]; omega
  have h3 : ¬ x.what = 3 := by omega
  rw [if_pos w1, ho, if_neg (show ¬ (false = true) by simp), if_neg h3, if_pos w1]
  by_cases hb : x.to_ ≠ 0 ∨ outP x.at_ (d.minute + (p.teams.getD t default).setup) (winAt p d.s_Next).until_ = true
  ·rw [if_pos hb, if_pos hb]; rfl
  ·rw [if_neg hb, if_neg hb, if_pos w1]; rfl
 rw [if_neg w1]
 by_cases w2 : x.what = 2
 ·have ho : outP x.what 1 3 = false := by simp [outP]; omega
  have h3 : ¬ x.what = 3 := by omega
  rw [if_pos w2, ho, if_neg (show ¬ (false = true) by simp), if_neg h3, if_neg w1]
  by_cases hb : x.to_ ≠ 0 ∨ outP x.at_ d.minute (winAt p d.s_Next).until_ = true
  ·rw [if_pos hb, if_pos hb]; rfl
  ·rw [if_neg hb, if_neg hb, if_neg w1]; rfl
 rw [if_neg w2]
 by_cases w3 : x.what = 3
 ·have ho : outP x.what 1 3 = false := by simp [outP]; omega
  rw [if_pos w3, ho, if_neg (show ¬ (false = true) by simp), if_pos w3]
  by_cases hg : 0 ≤ d.given
  ·rw [if_pos hg, if_pos hg]; rfl
  rw [if_neg hg, if_neg hg]
  by_cases hr : hasP (recvS p sky d) x.to_ = false
  ·rw [if_pos hr, if_pos hr]; rfl
  rw [if_neg hr, if_neg hr]
  by_cases ha : x.at_ ≠ d.minute
  ·rw [if_pos ha, if_pos ha]; rfl
  ·rw [if_neg ha, if_neg ha]; rfl
 ·have ho : outP x.what 1 3 = true := by simp [outP]; omega
  rw [if_neg w3, ho, if_pos rfl]
  rfl
theorem stW_of {s s' : WiState} (h : StW p s) (hu : s'.used.length = s.used.length) (hc : s'.credit.length = s.credit.length) (hl : s'.last.length = s.last.length) (hn : s'.next = s.next) (hls : ∀ k, k < p.teams.length → -1 ≤ s'.last.getD k 0 ∧ s'.last.getD k 0 ≤ 3650) : StW p s' :=
 ⟨h.po, hu.trans h.u, hc.trans h.c, hl.trans h.l, by rw [hn]; exact h.n, hls⟩
theorem actS_ok (h : DeskOk F p sky d c) (x : WiTurn) (h0 : (actS p sky d x).2 = 0) : DeskOk F p sky (actS p sky d x).1 (c + 1) ∧ (actS p sky d x).1.done = d.done ++ [turnS p sky d] := by
 have hfar := h.far; have hcost := h.a.o.po.c; have hgift := h.a.o.po.g; have hn := h.n; have hm := h.a.m
 have hu : d.s_Used.length = p.teams.length := h.a.o.u
 have hcl : d.s_Credit.length = p.teams.length := h.a.o.c
 have hll : d.s_Last.length = p.teams.length := h.a.o.l
 have hw := h.a.o.po.win h.a.o.n.1 h.a.n
 have hwu : 0 ≤ (winAt p d.s_Next).until_ ∧ (winAt p d.s_Next).until_ ≤ 1440 := hw.u
 have hwd : 0 ≤ (winAt p d.s_Next).day ∧ (winAt p d.s_Next).day ≤ 3650 := hw.d
 have hub := h.ub
 have hdl : (d.done ++ [turnS p sky d]).length ≤ c + 1 := by simp; omega
 have htl := turnS_lt h
 unfold actS at h0 ⊢
 by_cases ht : turnS p sky d < 0
 ·rw [if_pos ht] at h0; cases h0
 have hov := turn_over h ht
 rw [if_neg ht] at h0 ⊢
 obtain ⟨t, het⟩ := Int.eq_ofNat_of_zero_le (show 0 ≤ turnS p sky d by omega)
 have htk : turnS p sky d = (t : Int) := het
 rw [htk] at h0 hdl htl ⊢
 by_cases ho : outP x.what 1 3 = true
 ·rw [if_pos ho] at h0; cases h0
 rw [if_neg ho] at h0 ⊢
 by_cases w3 : x.what = 3
 ·rw [if_pos w3] at h0 ⊢
  by_cases hg : 0 ≤ d.given
  ·rw [if_pos hg] at h0; cases h0
  rw [if_neg hg] at h0 ⊢
  by_cases hr : hasP (recvS p sky d) x.to_ = false
  ·rw [if_pos hr] at h0; cases h0
  rw [if_neg hr] at h0 ⊢
  by_cases ha : x.at_ ≠ d.minute
  ·rw [if_pos ha] at h0; cases h0
  rw [if_neg ha]
  have hto := recvS_mem (by simpa using hr)
  refine ⟨⟨⟨h.a.f, stW_of h.a.o rfl (by simp [giveC, stD]) rfl rfl h.a.o.ls, h.a.n, h.a.k, hm⟩, by show -1 ≤ x.to_ ∧ x.to_ < _; omega, fun e => absurd e (by rw [hov]; simp), fun _ => hub hov, h.uw, hdl, fun k hk => ?_, fun k hk => ?_⟩, rfl⟩
  ·have := h.us k hk; exact ⟨this.1, by show d.s_Used.getD k 0 ≤ _; omega⟩
  ·show _ ≤ (giveC p d t x.to_).getD k 0 ∧ (giveC p d t x.to_).getD k 0 ≤ _
   have h1 := h.cs k hk
   have h2 := h.cs t (by omega)
   have h3 := h.cs x.to_.toNat (by omega)
   unfold giveC
   rw [getD_set, getD_set, Int.toNat_natCast]
   split
   ·omega
   ·split
    ·omega
    ·omega
 rw [if_neg w3] at h0 ⊢
 by_cases hb : x.to_ ≠ 0 ∨ outP x.at_ (if x.what = 1 then d.minute + (p.teams.getD (t : Int).toNat default).setup else d.minute) (winAt p d.s_Next).until_ = true
 ·rw [if_pos hb] at h0; cases h0
 rw [if_neg hb]
 have hb2 := outP_false (show outP x.at_ (if x.what = 1 then d.minute + (p.teams.getD (t : Int).toNat default).setup else d.minute) (winAt p d.s_Next).until_ = false by
  cases he : outP x.at_ (if x.what = 1 then d.minute + (p.teams.getD (t : Int).toNat default).setup else d.minute) (winAt p d.s_Next).until_ with
  | false => rfl
  | true => exact absurd (.inr he) hb)
 have hts := (h.a.o.po.ts _ (List.getElem_mem (show t < p.teams.length by omega))).s
 rw [Int.toNat_natCast, getD_of _ (show t < p.teams.length by omega)] at hb2
 have hx : 0 ≤ x.at_ ∧ x.at_ ≤ 1440 := by
  split at hb2 <;> omega
 by_cases w1 : x.what = 1
 ·rw [if_pos w1]
  have hoc : ∀ i ∈ others p sky d t, 0 ≤ i ∧ i < d.s_Credit.length := fun i hi => by have := others_mem hi; omega
  refine ⟨⟨⟨h.a.f, stW_of h.a.o (by simp [launchD, stD]) (by simp [launchD, launchC, stD, bumpL_len]) (by simp [launchD, stD]) rfl fun k hk => ?_, h.a.n, h.a.k, hx⟩, by show (-1 : Int) ≤ -1 ∧ (-1 : Int) < _; omega, fun _ => rfl, fun e => (by cases e), h.uw, hdl, fun k hk => ?_, fun k hk => ?_⟩, rfl⟩
  ·show _ ≤ (d.s_Last.set (t : Int).toNat (winAt p d.s_Next).day).getD k 0 ∧ (d.s_Last.set (t : Int).toNat (winAt p d.s_Next).day).getD k 0 ≤ _
   rw [getD_set]
   split
   ·omega
   ·exact h.a.o.ls k hk
  ·show _ ≤ (d.s_Used.set (t : Int).toNat (d.s_Used.getD (t : Int).toNat 0 + 1)).getD k 0 ∧ (d.s_Used.set (t : Int).toNat (d.s_Used.getD (t : Int).toNat 0 + 1)).getD k 0 ≤ _
   have h1 := h.us k hk
   have h2 := h.us t (by omega)
   rw [getD_set, Int.toNat_natCast]
   split <;> omega
  ·show _ ≤ (launchC p sky d t).getD k 0 ∧ (launchC p sky d t).getD k 0 ≤ _
   have h1 := h.cs k hk
   have h2 := h.cs t (by omega)
   unfold launchC
   rw [getD_set, Int.toNat_natCast, bumpL_get (others_nodup _) hoc, bumpL_get (others_nodup _) hoc]
   split
   ·split <;> omega
   ·split <;> omega
 ·rw [if_neg w1]
  refine ⟨⟨⟨h.a.f, h.a.o, h.a.n, h.a.k, hx⟩, by show (-1 : Int) ≤ -1 ∧ (-1 : Int) < _; omega, fun _ => rfl, fun _ => hub hov, h.uw, hdl, fun k hk => ?_, fun k hk => ?_⟩, rfl⟩
  ·have := h.us k hk; exact ⟨this.1, by show d.s_Used.getD k 0 ≤ _; omega⟩
  ·have := h.cs k hk; exact ⟨by show _ ≤ d.s_Credit.getD k 0; omega, by show d.s_Credit.getD k 0 ≤ _; omega⟩
def deskZ : Desk := Desk.mk [] [] [] 0 0 [] 0 0 false 0 0 0 0
def playS (p : WiPlan) (sky : WiSky) : Desk → List WiTurn → Desk × Int
 | d, [] => (d, 0)
 | d, x :: l => if (actS p sky d x).2 = 0 then playS p sky (actS p sky d x).1 l else (deskZ, (actS p sky d x).2)
theorem playS_ok : ∀ {l : List WiTurn} {d : Desk} {c : Nat}, DeskOk F p sky d c → (playS p sky d l).2 = 0 → DeskOk F p sky (playS p sky d l).1 (c + l.length)
 | [], d, c, h, _ => h
 | x :: l, d, c, h, h0 => by
  rw [playS] at h0 ⊢
  by_cases h1 : (actS p sky d x).2 = 0
  ·rw [if_pos h1] at h0 ⊢
   have := playS_ok (actS_ok h x h1).1 h0
   rw [List.length_cons, show c + (l.length + 1) = c + 1 + l.length by omega]
   exact this
  ·rw [if_neg h1] at h0
   exact absurd h0 h1
def PlayR (p : WiPlan) (sky : WiSky) (r : Desk × Int) (o : Option (Option Table × Int)) : Prop :=
 if r.2 = 0 then ∃ dm, DoneR r.1 dm ∧ o = some (some (tabD p sky r.1 dm), 0) else o = some (none, r.2)
theorem play_L2 {turns : List WiTurn} (hl : turns.length ≤ 16) : ∀ (n k : Nat) (d : Desk) (dm : List (Int × Bool)), turns.length < n + k → k ≤ turns.length → DeskOk F p sky d k → DoneR d dm → PlayR p sky (playS p sky d (turns.drop k)) (window_play_L2 F turns (fun b b2 b3 b4 b5 b6 b7 b8 b9 b10 b11 b12 b13 b14 b15 b16 b17 b18 b19 b20 b21 b22 _ => some ((some (Table.mk b b2 b3 b4 b5 b6 b7 b8 b9 b10 b11 b12 b13 b14 b15 b16 b17 b18 b19 b20 b21 b22)), 0)) n (tabD p sky d dm).p_Teams (tabD p sky d dm).p_Windows (tabD p sky d dm).p_Cost (tabD p sky d dm).p_Gift (tabD p sky d dm).s_Used (tabD p sky d dm).s_Credit (tabD p sky d dm).s_Last (tabD p sky d dm).s_Next (tabD p sky d dm).sky_Kinds (tabD p sky d dm).sky_Wind (tabD p sky d dm).w_Day (tabD p sky d dm).w_From (tabD p sky d dm).w_Until (tabD p sky d dm).minute (tabD p sky d dm).done (tabD p sky d dm).given (tabD p sky d dm).by_ (tabD p sky d dm).over (tabD p sky d dm).use_Window (tabD p sky d dm).use_Team (tabD p sky d dm).use_At (tabD p sky d dm).use_By (k : Int))
 | 0, k, d, dm, h1, h2, _, _ => absurd h1 (by omega)
 | n + 1, k, d, dm, h1, h2, h3, h4 => by
  rw [window_play_L2]
  by_cases hk : k < turns.length
  ·have ea : window_table_act_m F (tabD p sky d dm) turns[k] = some (actT p sky d dm turns[k]) := act_eq h3 (by omega) h4 _
   rw [if_pos (by omega), ixO_nat hk, Option.bind_some, List.drop_eq_getElem_cons hk, playS, W_succ (by omega)]
   have ea' : window_table_act_m F (Table.mk (tabD p sky d dm).p_Teams (tabD p sky d dm).p_Windows (tabD p sky d dm).p_Cost (tabD p sky d dm).p_Gift (tabD p sky d dm).s_Used (tabD p sky d dm).s_Credit (tabD p sky d dm).s_Last (tabD p sky d dm).s_Next (tabD p sky d dm).sky_Kinds (tabD p sky d dm).sky_Wind (tabD p sky d dm).w_Day (tabD p sky d dm).w_From (tabD p sky d dm).w_Until (tabD p sky d dm).minute (tabD p sky d dm).done (tabD p sky d dm).given (tabD p sky d dm).by_ (tabD p sky d dm).over (tabD p sky d dm).use_Window (tabD p sky d dm).use_Team (tabD p sky d dm).use_At (tabD p sky d dm).use_By) turns[k] = _ := ea
   rw [ea', Option.bind_some]
   unfold actT
   by_cases h5 : (actS p sky d turns[k]).2 = 0
   ·have hok := actS_ok h3 turns[k] h5
    have hd' : DoneR (actS p sky d turns[k]).1 (mset dm (turnS p sky d) true) := fun j => by rw [doneR_step h4, hok.2]
    rw [if_pos h5, if_pos h5]
    exact play_L2 hl n (k + 1) _ _ (by omega) (by omega) hok.1 hd'
   ·rw [if_neg h5, if_neg h5, exE_err, if_neg h5]
    unfold PlayR
    rw [if_neg h5]
  ·rw [if_neg (by omega), List.drop_of_length_le (by omega)]
   unfold PlayR
   rw [playS, if_pos rfl]
   exact ⟨dm, h4, rfl⟩
end
end Go.Proofs.Ytdefnmcjmklohaa
open Go Go.Proofs.Ytdefnmcjmklohaa.Sh Go.Proofs
namespace Go.Proofs.Ytdefnmcjmklohaa
def deskB (p : WiPlan) (s : WiState) : Desk := Desk.mk s.used s.credit s.last s.next (winAt p s.next).from_ [] (-1) (-1) false s.next (-1) 0 (-1)
def playedS (p : WiPlan) (s : WiState) (sky : WiSky) (turns : List WiTurn) : Desk × Int :=
 if askedE p s sky ≠ 0 then (deskZ, askedE p s sky) else if 16 < (turns.length : Int) then (deskZ, 3) else playS p sky (deskB p s) turns
section
variable {F : Nat} {p : WiPlan} {s : WiState} {sky : WiSky} {turns : List WiTurn}
theorem desk_ok (h : PlanF F p) (hs : SkyF F sky.kinds) (h0 : askedE p s sky = 0) : DeskOk F p sky (deskB p s) 0 := by
 obtain ⟨ho, hn⟩ := askedE_ok h0
 have hw := ho.po.win ho.n.1 hn
 have := hw.f; have := hw.u
 refine ⟨⟨h, ho.toStW, hn, hs, by show 0 ≤ (winAt p s.next).from_ ∧ (winAt p s.next).from_ ≤ 1440; omega⟩, by show (-1 : Int) ≤ -1 ∧ (-1 : Int) < _; omega, fun _ => rfl, fun _ => rfl, rfl, Nat.le_refl _, fun k hk => ?_, fun k hk => ?_⟩
 ·have := ho.us k hk; exact ⟨this.1, by show s.used.getD k 0 ≤ _; omega⟩
 ·have := ho.cs k hk; exact ⟨by show _ ≤ s.credit.getD k 0; omega, by show s.credit.getD k 0 ≤ _; omega⟩
theorem play_eq (h : PlanF F p) (hs : SkyF F sky.kinds) (ht : turns.length < F) : PlayR p sky (playedS p s sky turns) (window_play F p s sky turns) := by
 unfold window_play playedS
 rw [begin_eq h hs, Option.bind_some]
 by_cases h0 : askedE p s sky = 0
 ·rw [if_pos h0, if_neg (show ¬ askedE p s sky ≠ 0 from fun e => e h0)]
  by_cases h16 : 16 < (turns.length : Int)
  ·rw [if_pos h16]
   unfold PlayR
   rw [if_neg (show ¬ ((deskZ, (3 : Int)).2 = 0) by simp)]
   simp [optE, h16]
  ·rw [if_neg h16]
   have e1 := play_L2 (F := F) (p := p) (sky := sky) (turns := turns) (by omega) F 0 (deskB p s) [] (by omega) (by omega) (desk_ok h hs h0) (fun k => rfl)
   rw [List.drop_zero] at e1
   simp only [optE, if_true, if_neg h16]
   exact e1
 ·rw [if_neg h0, if_pos (show askedE p s sky ≠ 0 from h0)]
  unfold PlayR
  rw [if_neg (show ¬ ((deskZ, askedE p s sky).2 = 0) from h0)]
  simp [optE, h0]
theorem played_ok (h : PlanF F p) (hs : SkyF F sky.kinds) (h0 : (playedS p s sky turns).2 = 0) : askedE p s sky = 0 ∧ turns.length ≤ 16 ∧ playedS p s sky turns = playS p sky (deskB p s) turns ∧ DeskOk F p sky (playedS p s sky turns).1 (0 + turns.length) := by
 unfold playedS at h0 ⊢
 by_cases ha : askedE p s sky = 0
 ·rw [if_neg (show ¬ askedE p s sky ≠ 0 from fun e => e ha)] at h0 ⊢
  by_cases h16 : 16 < (turns.length : Int)
  ·rw [if_pos h16] at h0; cases h0
  ·rw [if_neg h16] at h0 ⊢
   exact ⟨ha, by omega, rfl, playS_ok (desk_ok h hs ha) h0⟩
 ·rw [if_pos (show askedE p s sky ≠ 0 from ha)] at h0
  exact absurd h0 ha
def playR (p : WiPlan) (s : WiState) (n : WiNight) : WiState × WiUse × Int :=
 let r := playedS p s ⟨n.sky_Kinds, n.sky_Wind⟩ n.turns
 if r.2 = 0 then (if 0 ≤ turnS p ⟨n.sky_Kinds, n.sky_Wind⟩ r.1 then (emptyS, ⟨0, 0, 0, 0⟩, 2) else (⟨r.1.s_Used, r.1.s_Credit, r.1.s_Last, r.1.s_Next + 1⟩, ⟨r.1.use_Window, r.1.use_Team, r.1.use_At, r.1.use_By⟩, 0)) else (emptyS, ⟨0, 0, 0, 0⟩, r.2)
structure NightF (F : Nat) (n : WiNight) : Prop where
 k : SkyF F n.sky_Kinds
 t : n.turns.length < F
theorem wNext {d : Desk} {c : Nat} (h : DeskOk F p sky d c) : W (d.s_Next + 1) = d.s_Next + 1 := by
 have h1 := h.a.o.n
 have h2 := h.a.o.po.w
 have h1' : 0 ≤ d.s_Next ∧ d.s_Next ≤ p.windows.length := h1
 rw [W_id]
theorem Play_eq {n : WiNight} (h : PlanF F p) (hn : NightF F n) : window_Play F p s n = some (playR p s n) := by
 have hp := play_eq (s := s) (sky := ⟨n.sky_Kinds, n.sky_Wind⟩) h hn.k hn.t
 unfold PlayR at hp
 unfold window_Play playR
 dsimp only
 by_cases h0 : (playedS p s ⟨n.sky_Kinds, n.sky_Wind⟩ n.turns).2 = 0
 ·rw [if_pos h0] at hp
  obtain ⟨dm, hd, e⟩ := hp
  obtain ⟨_, h16, _, hok⟩ := played_ok h hn.k h0
  rw [e, Option.bind_some, if_pos h0]
  simp only [optE, if_true]
  rw [turn_eq hok hd, Option.bind_some]
  split
  ·rfl
  ·have hw := wNext hok
   simp only [tabD]
   rw [hw]
 ·rw [if_neg h0] at hp
  rw [hp, Option.bind_some, if_neg h0]
  simp only [optE, if_neg h0]
  rfl
end
end Go.Proofs.Ytdefnmcjmklohaa
open Go Go.Proofs.Ytdefnmcjmklohaa.Sh Go.Proofs
namespace Go.Proofs.Ytdefnmcjmklohaa
end Go.Proofs.Ytdefnmcjmklohaa
open Go Go.Proofs.Ytdefnmcjmklohaa.Sh Go.Proofs
namespace Go.Proofs.Ytdefnmcjmklohaa
def seasonL (p : WiPlan) : List WiUse → WiState → List WiNight → List WiUse × WiState × Int
 | us, s, [] => (us, s, 0)
 | us, s, n :: l => if (playR p s n).2.2 = 0 then seasonL p (if 0 ≤ (playR p s n).2.1.team then us ++ [(playR p s n).2.1] else us) (playR p s n).1 l else ([], emptyS, (playR p s n).2.2)
def seasonR (p : WiPlan) (nights : List WiNight) : List WiUse × WiState × Int :=
 if (startR p).2 ≠ 0 then ([], emptyS, (startR p).2) else if (p.windows.length : Int) < nights.length then ([], emptyS, 3) else seasonL p [] (startP p) nights
structure NightsF (F : Nat) (l : List WiNight) : Prop where
 n : ∀ x ∈ l, NightF F x
 l : l.length < F ∧ l.length < 9223372036854775808
section
variable {F : Nat} {p : WiPlan} {nights : List WiNight}
theorem Season_L1 (h : PlanF F p) (hn : NightsF F nights) : ∀ (n k : Nat) (us : List WiUse) (s : WiState), nights.length < n + k → k ≤ nights.length → us.length ≤ k → nights.length ≤ 1000 → window_Season_L1 F p nights (fun us a b c d _ => some (us, WiState.mk a b c d, 0)) n us s.used s.credit s.last s.next k = some (seasonL p us s (nights.drop k))
 | 0, k, us, s, h1, _, _, _ => absurd h1 (by omega)
 | n + 1, k, us, s, h1, h2, h3, h4 => by
  rw [window_Season_L1]
  by_cases hk : k < nights.length
  ·rw [if_pos (by omega), ixO_nat hk, Option.bind_some, Play_eq h (hn.n _ (List.getElem_mem hk)), Option.bind_some, List.drop_eq_getElem_cons hk, seasonL, W_succ (by omega), app_one (by omega), Option.bind_some, Season_L1 h hn n (k + 1) _ (playR p s nights[k]).1 (by omega) (by omega) (by simp; omega) h4, Season_L1 h hn n (k + 1) us (playR p s nights[k]).1 (by omega) (by omega) (by omega) h4]
   by_cases h5 : (playR p s nights[k]).2.2 = 0
   ·rw [if_pos h5, if_pos h5]
    by_cases h6 : 0 ≤ (playR p s nights[k]).2.1.team
    ·rw [if_pos h6, if_pos h6]
    ·rw [if_neg h6, if_neg h6]
   ·rw [if_neg h5, if_neg h5]
    rfl
  ·rw [if_neg (by omega), List.drop_of_length_le (by omega)]
   rfl
theorem startR_ok (h0 : (startR p).2 = 0) : startR p = (startP p, 0) ∧ PlanOk p := by
 unfold startR at h0 ⊢
 by_cases hc : (checkP p).2.2 = 0
 ·rw [if_pos hc]; exact ⟨rfl, checkP_ok hc⟩
 ·rw [if_neg hc] at h0; exact absurd h0 hc
theorem Season_eq (h : PlanF F p) (hn : NightsF F nights) : window_Season F p nights = some (seasonR p nights) := by
 have hl := hn.l
 unfold window_Season seasonR
 rw [window_Start_eq h, Option.bind_some]
 by_cases h0 : (startR p).2 = 0
 ·obtain ⟨e, hp⟩ := startR_ok h0
  have hw := hp.w
  rw [if_pos h0, if_neg (show ¬ (startR p).2 ≠ 0 from fun x => x h0)]
  by_cases h1 : (p.windows.length : Int) < nights.length
  ·rw [if_pos h1, if_pos h1]; rfl
  ·rw [if_neg h1, if_neg h1, e]
   have e1 : window_Season_L1 F p nights (fun us a b c d _ => some (us, WiState.mk a b c d, 0)) F [] (startP p).used (startP p).credit (startP p).last (startP p).next 0 = _ := Season_L1 h hn F 0 [] (startP p) (by omega) (by omega) (by simp) (by omega)
   exact e1
 ·rw [if_neg h0, if_pos (show (startR p).2 ≠ 0 from h0)]
  rfl
end
end Go.Proofs.Ytdefnmcjmklohaa
open Go Go.Proofs.Ytdefnmcjmklohaa.Sh Go.Proofs
namespace Go.Proofs.Ytdefnmcjmklohaa
section
variable {F : Nat} {p : WiPlan} {sky : WiSky}
structure Calm (d e : Desk) : Prop where
 u : e.s_Used = d.s_Used
 l : e.s_Last = d.s_Last
 n : e.s_Next = d.s_Next
 t : e.use_Team = d.use_Team
 a : e.use_At = d.use_At
 b : e.use_By = d.use_By
end
end Go.Proofs.Ytdefnmcjmklohaa
open Go Go.Proofs.Ytdefnmcjmklohaa.Sh Go.Proofs
namespace Go.Proofs.Ytdefnmcjmklohaa
section
variable {F : Nat} {p : WiPlan} {sky : WiSky} {s : WiState}
end
end Go.Proofs.Ytdefnmcjmklohaa
open Go Go.Proofs.Ytdefnmcjmklohaa.Sh Go.Proofs
namespace Go.Proofs.Ytdefnmcjmklohaa
section
variable {F : Nat} {p : WiPlan} {sky : WiSky} {s : WiState}
structure GivI (p : WiPlan) (sky : WiSky) (d : Desk) : Prop where
 c : 0 ≤ d.given → canS p (stD d) sky d.minute d.done d.given.toNat = true
 b : 0 ≤ d.given → 0 ≤ d.by_
end
end Go.Proofs.Ytdefnmcjmklohaa
open Go Go.Proofs.Ytdefnmcjmklohaa.Sh Go.Proofs
namespace Go.Proofs.Ytdefnmcjmklohaa
def fairName (i : Nat) : ByteArray := ⟨#[116, UInt8.ofNat (97 + i)]⟩
def fairT (i : Nat) : WiTeam := WiTeam.mk (fairName i) 3 100 0 [] 10 0 1 []
def fairW (i : Nat) : WiWindow := WiWindow.mk i 0 300
def fairP (n w : Nat) (c : Int) : WiPlan := WiPlan.mk ((List.range n).map fairT) ((List.range w).map fairW) c 0
def fairN (a : Int) : WiNight := WiNight.mk [] 0 [WiTurn.mk 1 (1 + a) 0]
theorem fair_teams : ∀ {n : Nat}, 1 ≤ n ∧ n ≤ 8 → teamsE ((List.range n).map fairT) 0 ((List.range n).map fairT) = none
 | 0, h => absurd h.1 (by decide)
 | 1, _ => by kernel_rfl
 | 2, _ => by kernel_rfl
 | 3, _ => by kernel_rfl
 | 4, _ => by kernel_rfl
 | 5, _ => by kernel_rfl
 | 6, _ => by kernel_rfl
 | 7, _ => by kernel_rfl
 | 8, _ => by kernel_rfl
 | n + 9, h => absurd h.2 (by omega)
theorem outF {n lo hi : Int} (h : lo ≤ n ∧ n ≤ hi) : outP n lo hi = false := by
 unfold outP
 exact decide_eq_false (by omega)
theorem windowsE_none {all : List WiWindow} : ∀ (l : List WiWindow) (k : Nat), (∀ j (hj : j < l.length), windowE all (k + j) l[j] = 0) → windowsE all k l = none
 | [], k, _ => rfl
 | e :: l, k, h => by
  rw [windowsE, if_pos (show windowE all k e = 0 from h 0 (by simp))]
  refine windowsE_none l (k + 1) fun j hj => ?_
  have := h (j + 1) (by simp only [List.length_cons]; omega)
  rw [show k + (j + 1) = k + 1 + j by omega] at this
  exact this
theorem fairW_get {w k : Nat} (h : k < w) : ((List.range w).map fairW)[k]? = some (fairW k) := by simp [h]
theorem fair_windows {w : Nat} (h : w ≤ 60) : windowsE ((List.range w).map fairW) 0 ((List.range w).map fairW) = none := by
 refine windowsE_none _ 0 fun j hj => ?_
 have hj : j < w := by simpa using hj
 rw [Nat.zero_add, show ((List.range w).map fairW)[j] = fairW j by simp]
 unfold windowE
 rw [show outP (fairW j).day 0 3650 = false from outF ⟨by show 0 ≤ (j : Int); omega, by show (j : Int) ≤ 3650; omega⟩]
 rw [if_neg (by show ¬ (outP 300 0 1440 || outP 0 0 (300 - 1)) = true; decide)]
 have : prevW ((List.range w).map fairW) j (fairW j) = false := by
  unfold prevW
  cases j with
  | zero => cases ((List.range w).map fairW)[0 - 1]? <;> rfl
  | succ i =>
   rw [fairW_get (by omega)]
   show (decide (0 < i + 1) && (decide (((i + 1 : Nat) : Int) < (i + 1 - 1 : Nat)) || (decide (((i + 1 : Nat) : Int) = (i + 1 - 1 : Nat)) && decide ((0 : Int) < 300)))) = false
   have h1 : ¬ ((i + 1 : Nat) : Int) < (i + 1 - 1 : Nat) := by omega
   have h2 : ¬ ((i + 1 : Nat) : Int) = (i + 1 - 1 : Nat) := by omega
   rw [decide_eq_false h1, decide_eq_false h2]
   simp
 rw [this, if_neg (by decide)]
section
variable {n w : Nat} {c : Int}
theorem fair_check (hn : 1 ≤ n ∧ n ≤ 8) (hw : w ≤ 60) (hc : 0 ≤ c ∧ c ≤ 100) : checkP (fairP n w c) = (0, 0, 0) := by
 unfold checkP
 rw [show (fairP n w c).teams = (List.range n).map fairT from rfl, show (fairP n w c).windows = (List.range w).map fairW from rfl, fair_teams hn]
 simp only [List.length_map, List.length_range]
 rw [show outP (n : Int) 1 8 = false from outF (by omega), if_neg (by decide), show outP (fairP n w c).cost 0 100 = false from outF hc, if_neg (by show ¬ (false || outP 0 0 100) = true; decide), if_neg (by omega), fair_windows hw]
structure FairI (n w : Nat) (c : Int) (k : Nat) (s : WiState) : Prop where
 u : s.used.length = n
 cc : s.credit.length = n
 l : s.last.length = n
 nx : s.next = k
 ur : ∀ j, j < n → 0 ≤ s.used.getD j 0 ∧ s.used.getD j 0 ≤ k
 cr : ∀ j, j < n → s.credit.getD j 0 = k - (c + 1) * s.used.getD j 0
 la : ∀ j, j < n → -1 ≤ s.last.getD j 0 ∧ s.last.getD j 0 < k
theorem map_getD {α : Type} {n j : Nat} (f : Nat → α) (d : α) (h : j < n) : ((List.range n).map f).getD j d = f j := by simp [List.getD_eq_getElem?_getD, h]
theorem fair_start : FairI n w c 0 (startP (fairP n w c)) := by
 have e : ∀ (g : WiTeam → Int) j, j < n → (((List.range n).map fairT).map g).getD j 0 = g (fairT j) := fun g j hj => by rw [List.map_map]; exact map_getD _ _ hj
 refine ⟨by simp [startP, fairP], by simp [startP, fairP], by simp [startP, fairP], rfl, fun j hj => ?_, fun j hj => ?_, fun j hj => ?_⟩
 ·show 0 ≤ (((List.range n).map fairT).map fun _ => (0 : Int)).getD j 0 ∧ (((List.range n).map fairT).map fun _ => (0 : Int)).getD j 0 ≤ _
  rw [e _ j hj]; simp
 ·show (((List.range n).map fairT).map (·.credit)).getD j 0 = _ - (c + 1) * (((List.range n).map fairT).map fun _ => (0 : Int)).getD j 0
  rw [e _ j hj, e _ j hj]; simp [fairT]
 ·show -1 ≤ (((List.range n).map fairT).map fun _ => (-1 : Int)).getD j 0 ∧ (((List.range n).map fairT).map fun _ => (-1 : Int)).getD j 0 < _
  rw [e _ j hj]; simp
theorem mul_rng {a b : Int} (h1 : 0 ≤ a ∧ a ≤ 101) (h2 : 0 ≤ b ∧ b ≤ 60) : 0 ≤ a * b ∧ a * b ≤ 6060 := by
 have h3 := Int.mul_le_mul h1.2 h2.2 h2.1 (by omega : (0 : Int) ≤ 101)
 have h4 := Int.mul_nonneg h1.1 h2.1
 omega
theorem badFrom_none {s : WiState} : ∀ (n k : Nat), (∀ j, k ≤ j → j < k + n → badAt s j = false) → badFrom s n k = false
 | 0, _, _ => rfl
 | n + 1, k, h => by
  rw [badFrom, h k (by omega) (by omega), Bool.false_or]
  exact badFrom_none n (k + 1) fun j h1 h2 => h j (by omega) (by omega)
theorem fair_state (hn : 1 ≤ n ∧ n ≤ 8) (hw : w ≤ 60) (hc : 0 ≤ c ∧ c ≤ 100) {k : Nat} {s : WiState} (h : FairI n w c k s) (hk : k ≤ w) : stateE (fairP n w c) s = 0 := by
 have ht : (fairP n w c).teams.length = n := by simp [fairP]
 have hwl : (fairP n w c).windows.length = w := by simp [fairP]
 unfold stateE
 rw [fair_check hn hw hc, if_neg (by simp), ht, hwl, h.u, h.cc, h.l, if_neg (by simp), h.nx, show outP (k : Int) 0 w = false from outF (by omega), if_neg (by decide), badFrom_none n 0 (fun j _ hj => ?_), if_neg (by decide)]
 have hj : j < n := by omega
 have h1 := h.ur j hj; have h2 := h.cr j hj; have h3 := h.la j hj
 have h4 := mul_rng (a := c + 1) (b := s.used.getD j 0) (by omega) (by omega)
 unfold badAt
 rw [outF (by omega), outF (by omega), outF (by omega)]
 rfl
theorem fair_asked (hn : 1 ≤ n ∧ n ≤ 8) (hw : w ≤ 60) (hc : 0 ≤ c ∧ c ≤ 100) {k : Nat} {s : WiState} (h : FairI n w c k s) (hk : k < w) : askedE (fairP n w c) s ⟨[], 0⟩ = 0 := by
 unfold askedE
 rw [fair_state hn hw hc h (by omega), if_neg (by simp), h.nx, show (fairP n w c).windows.length = w by simp [fairP], if_neg (by omega)]
 rfl
theorem fair_win {k : Nat} (hk : k < w) : winAt (fairP n w c) k = fairW k := by
 unfold winAt
 rw [Int.toNat_natCast]
 exact map_getD _ _ hk
theorem fair_why {k : Nat} {s : WiState} (h : FairI n w c k s) (hk : k < w) (hw : w ≤ 60) {j : Nat} (hj : j < n) : whyS (fairP n w c) s ⟨[], 0⟩ 0 j = 0 := by
 unfold whyS
 rw [h.nx, fair_win hk, show (fairP n w c).teams.getD j default = fairT j from map_getD _ _ hj]
 have h1 := h.ur j hj; have h3 := h.la j hj
 unfold whyP
 rw [if_neg (by show ¬ (100 : Int) ≤ _; omega), if_neg (by show ¬ ([].any _) = true; simp), if_neg (by show ¬ (_ ∧ (k : Int) - _ < 0); omega), if_neg (by show ¬ ((0 : Int) < (0 : Nat) ∧ _); omega), if_neg (by show ¬ (10 : Int) < 0; decide), if_neg (by show ¬ (300 : Int) - 0 < 1; decide)]
theorem fair_can {k : Nat} {s : WiState} (h : FairI n w c k s) (hk : k < w) (hw : w ≤ 60) {j : Nat} (hj : j < n) (done : List Int) : canS (fairP n w c) s ⟨[], 0⟩ 0 done j = !hasP done j := by
 unfold canS
 rw [fair_why h hk hw hj, decide_eq_true rfl, Bool.and_true]
theorem fair_turn (hn : 1 ≤ n ∧ n ≤ 8) (hw : w ≤ 60) (hc : 0 ≤ c ∧ c ≤ 100) {k : Nat} {s : WiState} (h : FairI n w c k s) (hk : k < w) : ∃ t : Nat, t < n ∧ turnS (fairP n w c) ⟨[], 0⟩ (deskB (fairP n w c) s) = t ∧ ∀ j, j < n → s.used.getD t 0 ≤ s.used.getD j 0 := by
 have ht : (fairP n w c).teams.length = n := by simp [fairP]
 have hm : (deskB (fairP n w c) s).minute = 0 := by show (winAt (fairP n w c) s.next).from_ = 0; rw [h.nx, fair_win hk]; rfl
 have e : turnS (fairP n w c) ⟨[], 0⟩ (deskB (fairP n w c) s) = match rightsS (fairP n w c) s ⟨[], 0⟩ 0 [] with
  | [] => -1
  | t :: _ => t := by
  unfold turnS
  rw [if_neg (by show ¬ false = true; decide), if_neg (by show ¬ (0 : Int) ≤ -1; decide), hm]
  rfl
 have hmem : ∀ v : Int, v ∈ rightsS (fairP n w c) s ⟨[], 0⟩ 0 [] ↔ ∃ j : Nat, v = j ∧ j < n := fun v => by
  unfold rightsS
  rw [sortP_mem, pick_mem, ht]
  constructor
  ·rintro ⟨j, rfl, _, h2, _⟩; exact ⟨j, rfl, by omega⟩
  ·rintro ⟨j, rfl, h2⟩; exact ⟨j, rfl, by omega, by omega, by rw [fair_can h hk hw h2]; rfl⟩
 have hs : (rightsS (fairP n w c) s ⟨[], 0⟩ 0 []).Pairwise (fun y z => firstS (fairP n w c) s y z = true) := sortP_sorted (firstS_tot _ _) (pick_nodup _ _ _)
 rw [e]
 generalize rightsS (fairP n w c) s ⟨[], 0⟩ 0 [] = l at hmem hs ⊢
 cases l with
 | nil => exact absurd ((hmem (0 : Nat)).2 ⟨0, rfl, by omega⟩) (by simp)
 | cons t l =>
  obtain ⟨t, rfl, htn⟩ := (hmem t).1 List.mem_cons_self
  refine ⟨t, htn, rfl, fun j hj => ?_⟩
  rcases List.mem_cons.1 ((hmem j).2 ⟨j, rfl, hj⟩) with hjt | hjt
  ·rw [show j = t by omega]; exact Int.le_refl _
  ·have hf := (List.pairwise_cons.1 hs).1 _ hjt
   unfold firstS firstL at hf
   rw [Int.toNat_natCast, Int.toNat_natCast, show (fairP n w c).teams.getD t default = fairT t from map_getD _ _ htn, show (fairP n w c).teams.getD j default = fairT j from map_getD _ _ hj, h.cr t htn, h.cr j hj] at hf
   unfold firstV at hf
   rw [if_neg (by show ¬ (3 : Int) ≠ 3; decide)] at hf
   by_cases hu : s.used.getD t 0 ≤ s.used.getD j 0
   ·exact hu
   ·exfalso
    have h5 : s.used.getD j 0 + 1 ≤ s.used.getD t 0 := by omega
    have h6 := Int.mul_le_mul_of_nonneg_left h5 (by omega : (0 : Int) ≤ c + 1)
    rw [Int.mul_add, Int.mul_one] at h6
    rw [if_pos (by omega)] at hf
    have := of_decide_eq_true hf
    omega
def fairS (n w : Nat) (c : Int) (s : WiState) (t : Nat) : WiState := ⟨s.used.set t (s.used.getD t 0 + 1), launchC (fairP n w c) ⟨[], 0⟩ (deskB (fairP n w c) s) t, s.last.set t s.next, s.next + 1⟩
theorem fair_next (hw : w ≤ 60) {k : Nat} {s : WiState} (h : FairI n w c k s) (hk : k < w) {t : Nat} (ht : t < n) : FairI n w c (k + 1) (fairS n w c s t) := by
 have htl : (fairP n w c).teams.length = n := by simp [fairP]
 have hm : (deskB (fairP n w c) s).minute = 0 := by show (winAt (fairP n w c) s.next).from_ = 0; rw [h.nx, fair_win hk]; rfl
 have hu : ∀ j, (s.used.set t (s.used.getD t 0 + 1)).getD j 0 = if t = j then s.used.getD t 0 + 1 else s.used.getD j 0 := fun j => by
  rw [getD_set, h.u]
  by_cases hj : t = j
  ·rw [if_pos ⟨hj, ht⟩, if_pos hj]
  ·rw [if_neg (fun hc => hj hc.1), if_neg hj]
 have hb : ∀ j, j < n → (bumpL s.credit (others (fairP n w c) ⟨[], 0⟩ (deskB (fairP n w c) s) t)).getD j 0 = s.credit.getD j 0 + if t = j then 0 else 1 := fun j hj => by
  rw [bumpL_get (others_nodup _) (fun i hi => by have := others_mem hi; rw [htl] at this; rw [h.cc]; omega)]
  congr 1
  have hmem : (j : Int) ∈ others (fairP n w c) ⟨[], 0⟩ (deskB (fairP n w c) s) t ↔ t ≠ j := by
   unfold others
   rw [pick_mem, htl, hm]
   constructor
   ·rintro ⟨i, h1, _, h3, h4⟩
    obtain rfl : j = i := by omega
    rw [show stD (deskB (fairP n w c) s) = s from rfl, fair_can h hk hw hj] at h4
    intro hc
    subst hc
    simp [hasP] at h4
   ·intro hne
    refine ⟨j, rfl, by omega, by omega, ?_⟩
    rw [show stD (deskB (fairP n w c) s) = s from rfl, fair_can h hk hw hj]
    show (!hasP ([] ++ [(t : Int)]) j) = true
    simp [hasP]; omega
  by_cases hj2 : t = j
  ·rw [if_pos hj2, if_neg (fun hx => hmem.1 hx hj2)]
  ·rw [if_neg hj2, if_pos (hmem.2 hj2)]
 refine ⟨by show (s.used.set _ _).length = n; rw [List.length_set]; exact h.u, ?_, by show (s.last.set _ _).length = n; rw [List.length_set]; exact h.l, by show s.next + 1 = _; rw [h.nx]; omega, fun j hj => ?_, fun j hj => ?_, fun j hj => ?_⟩
 ·show (launchC _ _ _ _).length = n
  unfold launchC
  rw [List.length_set, bumpL_len]
  exact h.cc
 ·show 0 ≤ (s.used.set t (s.used.getD t 0 + 1)).getD j 0 ∧ (s.used.set t (s.used.getD t 0 + 1)).getD j 0 ≤ _
  rw [hu]
  have := h.ur j hj; have := h.ur t ht
  split <;> omega
 ·show (launchC (fairP n w c) ⟨[], 0⟩ (deskB (fairP n w c) s) t).getD j 0 = _ - (c + 1) * (s.used.set t (s.used.getD t 0 + 1)).getD j 0
  unfold launchC
  show ((bumpL s.credit (others (fairP n w c) ⟨[], 0⟩ (deskB (fairP n w c) s) t)).set (t : Int).toNat _).getD j 0 = _
  rw [Int.toNat_natCast, getD_set, bumpL_len, h.cc, hu]
  show (if _ then (bumpL s.credit (others (fairP n w c) ⟨[], 0⟩ (deskB (fairP n w c) s) t)).getD t 0 - c else (bumpL s.credit (others (fairP n w c) ⟨[], 0⟩ (deskB (fairP n w c) s) t)).getD j 0) = _
  by_cases hj2 : t = j
  ·subst hj2
   rw [if_pos ⟨rfl, ht⟩, if_pos rfl, hb t ht, h.cr t ht, if_pos rfl, Int.mul_add, Int.mul_one]
   omega
  ·rw [if_neg (fun hx => hj2 hx.1), if_neg hj2, hb j hj, h.cr j hj, if_neg hj2]
   omega
 ·show -1 ≤ (s.last.set t s.next).getD j 0 ∧ (s.last.set t s.next).getD j 0 < _
  rw [getD_set]
  have := h.la j hj; have := h.nx
  split <;> omega
theorem fair_play (hn : 1 ≤ n ∧ n ≤ 8) (hw : w ≤ 60) (hc : 0 ≤ c ∧ c ≤ 100) {k : Nat} {s : WiState} (h : FairI n w c k s) (hk : k < w) {a : Int} (ha : 0 ≤ a ∧ a ≤ 255) {t : Nat} (ht : t < n) (hts : turnS (fairP n w c) ⟨[], 0⟩ (deskB (fairP n w c) s) = t) : playR (fairP n w c) s (fairN a) = (fairS n w c s t, ⟨s.next, t, 1 + a, -1⟩, 0) := by
 have hday : (winAt (fairP n w c) s.next) = fairW k := by rw [h.nx, fair_win hk]
 have hact : actS (fairP n w c) ⟨[], 0⟩ (deskB (fairP n w c) s) (WiTurn.mk 1 (1 + a) 0) = (launchD (fairP n w c) ⟨[], 0⟩ (deskB (fairP n w c) s) (WiTurn.mk 1 (1 + a) 0) t, 0) := by
  unfold actS
  rw [hts, if_neg (by omega), if_neg (by show ¬ outP 1 1 3 = true; decide), if_neg (by show ¬ (1 : Int) = 3; decide)]
  rw [if_neg]
  ·rfl
  ·show ¬ ((0 : Int) ≠ 0 ∨ outP (1 + a) (if (1 : Int) = 1 then (winAt (fairP n w c) s.next).from_ + ((fairP n w c).teams.getD (t : Int).toNat default).setup else (winAt (fairP n w c) s.next).from_) (winAt (fairP n w c) s.next).until_ = true)
   rw [if_pos rfl, hday, Int.toNat_natCast, show (fairP n w c).teams.getD t default = fairT t from map_getD _ _ ht]
   show ¬ ((0 : Int) ≠ 0 ∨ outP (1 + a) (0 + 1) 300 = true)
   rw [outF (by omega)]
   simp
 have hpl : playedS (fairP n w c) s ⟨[], 0⟩ [WiTurn.mk 1 (1 + a) 0] = (launchD (fairP n w c) ⟨[], 0⟩ (deskB (fairP n w c) s) (WiTurn.mk 1 (1 + a) 0) t, 0) := by
  unfold playedS
  rw [fair_asked hn hw hc h hk, if_neg (by simp), if_neg (by simp), playS, hact, if_pos rfl, playS]
 have e : playR (fairP n w c) s (fairN a) = (if (playedS (fairP n w c) s ⟨[], 0⟩ [WiTurn.mk 1 (1 + a) 0]).2 = 0 then (if 0 ≤ turnS (fairP n w c) ⟨[], 0⟩ (playedS (fairP n w c) s ⟨[], 0⟩ [WiTurn.mk 1 (1 + a) 0]).1 then (emptyS, ⟨0, 0, 0, 0⟩, 2) else (⟨(playedS (fairP n w c) s ⟨[], 0⟩ [WiTurn.mk 1 (1 + a) 0]).1.s_Used, (playedS (fairP n w c) s ⟨[], 0⟩ [WiTurn.mk 1 (1 + a) 0]).1.s_Credit, (playedS (fairP n w c) s ⟨[], 0⟩ [WiTurn.mk 1 (1 + a) 0]).1.s_Last, (playedS (fairP n w c) s ⟨[], 0⟩ [WiTurn.mk 1 (1 + a) 0]).1.s_Next + 1⟩, ⟨(playedS (fairP n w c) s ⟨[], 0⟩ [WiTurn.mk 1 (1 + a) 0]).1.use_Window, (playedS (fairP n w c) s ⟨[], 0⟩ [WiTurn.mk 1 (1 + a) 0]).1.use_Team, (playedS (fairP n w c) s ⟨[], 0⟩ [WiTurn.mk 1 (1 + a) 0]).1.use_At, (playedS (fairP n w c) s ⟨[], 0⟩ [WiTurn.mk 1 (1 + a) 0]).1.use_By⟩, 0)) else (emptyS, ⟨0, 0, 0, 0⟩, (playedS (fairP n w c) s ⟨[], 0⟩ [WiTurn.mk 1 (1 + a) 0]).2)) := rfl
 rw [e, hpl, if_pos rfl, show turnS (fairP n w c) ⟨[], 0⟩ (launchD (fairP n w c) ⟨[], 0⟩ (deskB (fairP n w c) s) (WiTurn.mk 1 (1 + a) 0) t) = -1 by unfold turnS; exact if_pos (show true = true from rfl), if_neg (by decide)]
 show ((⟨s.used.set (t : Int).toNat (s.used.getD (t : Int).toNat 0 + 1), launchC (fairP n w c) ⟨[], 0⟩ (deskB (fairP n w c) s) t, s.last.set (t : Int).toNat (winAt (fairP n w c) s.next).day, s.next + 1⟩ : WiState), (⟨s.next, t, 1 + a, -1⟩ : WiUse), (0 : Int)) = _
 rw [Int.toNat_natCast, hday]
 unfold fairS
 rw [h.nx]
 rfl
inductive FairL (n : Nat) : List Int → List WiUse → List Int → Prop
 | nil {u : List Int} (h : u.length = n) : FairL n u [] u
 | cons {u u' : List Int} {x : WiUse} {l : List WiUse} {t : Nat} (h : u.length = n) (ht : t < n) (hx : x.team = t) (hm : ∀ j, j < n → 0 ≤ u.getD j 0 ∧ u.getD j 0 ≤ 100 ∧ u.getD t 0 ≤ u.getD j 0) (k : FairL n (u.set t (u.getD t 0 + 1)) l u') : FairL n u (x :: l) u'
theorem fair_season (hn : 1 ≤ n ∧ n ≤ 8) (hw : w ≤ 60) (hc : 0 ≤ c ∧ c ≤ 100) : ∀ (l : List Int) (k : Nat) (us : List WiUse) (s : WiState), FairI n w c k s → k + l.length ≤ w → (∀ a ∈ l, 0 ≤ a ∧ a ≤ 255) → ∃ xs s', seasonL (fairP n w c) us s (l.map fairN) = (us ++ xs, s', 0) ∧ xs.length = l.length ∧ FairL n s.used xs s'.used
 | [], k, us, s, h, _, _ => ⟨[], s, by rw [List.append_nil]; rfl, rfl, .nil h.u⟩
 | a :: l, k, us, s, h, hk, ha => by
  simp only [List.length_cons] at hk
  obtain ⟨t, ht, hts, hmin⟩ := fair_turn hn hw hc h (by omega)
  have hp := fair_play hn hw hc h (by omega) (ha a (by simp)) ht hts
  obtain ⟨xs, s', e1, e2, e3⟩ := fair_season hn hw hc l (k + 1) (us ++ [⟨s.next, t, 1 + a, -1⟩]) (fairS n w c s t) (fair_next hw h (by omega) ht) (by omega) fun b hb => ha b (by simp [hb])
  refine ⟨⟨s.next, t, 1 + a, -1⟩ :: xs, s', ?_, by simp [e2], .cons h.u ht rfl (fun j hj => ?_) e3⟩
  ·rw [List.map_cons, seasonL, hp]
   show (if (0 : Int) = 0 then seasonL _ (if 0 ≤ (t : Int) then _ else _) _ _ else _) = _
   rw [if_pos rfl, if_pos (by omega)]
   show seasonL _ (us ++ [⟨s.next, t, 1 + a, -1⟩]) (fairS n w c s t) _ = _
   rw [e1, List.append_assoc]
   rfl
  ·have := h.ur j hj
   exact ⟨by omega, by omega, hmin j hj⟩
end
end Go.Proofs.Ytdefnmcjmklohaa
open Go Go.Proofs.Ytdefnmcjmklohaa.Sh Go.Proofs
namespace Go.Proofs.Ytdefnmcjmklohaa
theorem app1 {α : Type} {l : List α} {a : α} (h : l.length < 100000) : appO l [a] = some (l ++ [a]) := by
 unfold appO
 rw [if_pos (by simp; omega)]
theorem natM_small {n : Nat} (h : n ≤ 1000) : natM (n : Int) = some n := by
 unfold natM
 rw [if_pos (by omega), Int.toNat_natCast]
theorem take_map_succ {α : Type} {k : Nat} (f : Nat → α) : (List.range (k + 1)).map f = (List.range k).map f ++ [f k] := by rw [List.range_succ, List.map_append]; rfl
theorem fair_name {k : Nat} (h : k < 8) : catO (ByteArray.mk #[116]) (strL [W8 (W (97 + (k : Int)))]) = some (fairName k) := by
 have : k = 0 ∨ k = 1 ∨ k = 2 ∨ k = 3 ∨ k = 4 ∨ k = 5 ∨ k = 6 ∨ k = 7 := by omega
 rcases this with h | h | h | h | h | h | h | h <;> (subst h; rfl)
theorem fair_L4 {F : Nat} {t : Int} {n : Nat} (hn : 1 + Int.tmod t 8 = n) (ht : 0 ≤ t ∧ t ≤ 255) (h8 : n ≤ 8) {K : List WiTeam → Option Bool} : ∀ m k, n < m + k → k ≤ n → l_WindowFair_L4 F t (fun l _ => K l) m ((List.range k).map fairT) k = K ((List.range n).map fairT)
 | 0, k, h, h2 => absurd h (by omega)
 | m + 1, k, h, h2 => by
  rw [l_WindowFair_L4, W_id (x := t) (by omega) (by omega), W_id (x := 1 + Int.tmod t 8) (by omega) (by omega), hn]
  by_cases hk : k < n
  ·rw [if_pos (by omega), fair_name (by omega), Option.bind_some]
   have e : appO ((List.range k).map fairT) [WiTeam.mk (fairName k) 3 100 0 [] 10 0 1 []] = some ((List.range (k + 1)).map fairT) := by
    rw [take_map_succ, app1 (by simp; omega)]; rfl
   refine Eq.trans (congrArg (fun o => Option.bind o _) e) ?_
   rw [Option.bind_some, W_succ (by omega)]
   exact fair_L4 hn ht h8 m (k + 1) (by omega) (by omega)
  ·obtain rfl : k = n := by omega
   rw [if_neg (by omega)]
theorem fair_L3 {F : Nat} {a : List Int} (ha : ∀ x ∈ a, 0 ≤ x ∧ x ≤ 255) (hl : a.length ≤ 60) {K : List WiWindow → List WiNight → Option Bool} : ∀ m k, a.length < m + k → k ≤ a.length → l_WindowFair_L3 F a (fun l r _ => K l r) m ((List.range k).map fairW) ((a.take k).map fairN) k = K ((List.range a.length).map fairW) (a.map fairN)
 | 0, k, h, h2 => absurd h (by omega)
 | m + 1, k, h, h2 => by
  rw [l_WindowFair_L3]
  by_cases hk : k < a.length
  ·have hx := ha _ (List.getElem_mem hk)
   have e1 : appO ((List.range k).map fairW) [WiWindow.mk k 0 300] = some ((List.range (k + 1)).map fairW) := by
    rw [take_map_succ, app1 (by simp; omega)]; rfl
   have e2 : appO ((a.take k).map fairN) [WiNight.mk [] 0 [WiTurn.mk 1 (1 + a[k]) 0]] = some ((a.take (k + 1)).map fairN) := by
    rw [app1 (by simp; omega), ← List.take_append_getElem hk, List.map_append]; rfl
   rw [if_pos (by omega)]
   refine Eq.trans (congrArg (fun o => Option.bind o _) e1) ?_
   rw [Option.bind_some, ixO_nat hk, Option.bind_some, W_id (x := a[k]) (by omega) (by omega), W_id (x := 1 + a[k]) (by omega) (by omega)]
   show Option.bind (appO ((a.take k).map fairN) [WiNight.mk [] 0 [WiTurn.mk 1 (1 + a[k]) 0]]) _ = _
   rw [e2, Option.bind_some, W_succ (by omega)]
   exact fair_L3 ha hl m (k + 1) (by omega) (by omega)
  ·obtain rfl : k = a.length := by omega
   rw [if_neg (by omega), List.take_length]
theorem fair_L1 {F : Nat} {e : WiUse} {y : List Int} {t : Nat} (he : e.team = t) (ht : t < y.length) (hl : y.length ≤ 8) (hm : ∀ j, j < y.length → 0 ≤ y.getD j 0 ∧ y.getD j 0 ≤ 1000 ∧ y.getD t 0 ≤ y.getD j 0 + 1) {c : Option Bool} : ∀ m k, y.length < m + k → k ≤ y.length → l_WindowFair_L1 F e y (fun _ => c) m k = c
 | 0, k, h, h2 => absurd h (by omega)
 | m + 1, k, h, h2 => by
  rw [l_WindowFair_L1]
  by_cases hk : k < y.length
  ·have h1 := hm k hk
   rw [if_pos (by omega), he, ixO_nat ht, Option.bind_some, ixO_nat hk, Option.bind_some, ← getD_of 0 ht, ← getD_of 0 hk, W_id (by omega) (by omega), if_neg (by omega), W_succ (by omega)]
   exact fair_L1 he ht hl hm m (k + 1) (by omega) (by omega)
  ·rw [if_neg (by omega)]
theorem fair_L2 {F : Nat} (hF : 20 < F) {rv : List WiUse × WiState × Int} (hl : rv.1.length ≤ 60) {n : Nat} (hn : n ≤ 8) {u' : List Int} {K : List Int → Option Bool} (hK : ∀ x, K u' = some x → True) : ∀ m k u, rv.1.length < m + k → k ≤ rv.1.length → FairL n u (rv.1.drop k) u' → l_WindowFair_L2 F rv (fun l _ => K l) m u k = K u'
 | 0, k, u, h, h2, _ => absurd h (by omega)
 | m + 1, k, u, h, h2, hf => by
  rw [l_WindowFair_L2]
  by_cases hk : k < rv.1.length
  ·rw [List.drop_eq_getElem_cons hk] at hf
   cases hf with
   | @cons _ _ _ _ t hu ht hx hm hf =>
    have h1 := hm t ht
    rw [if_pos (by omega), ixO_nat hk, Option.bind_some, hx, if_neg (by omega), if_neg (by omega), ixO_nat (by omega), Option.bind_some, ← getD_of 0 (by omega), W_id (by omega) (by omega), setO_nat, Option.bind_some]
    have hg : ∀ j, (u.set t (u.getD t 0 + 1)).getD j 0 = if t = j then u.getD t 0 + 1 else u.getD j 0 := fun j => by
     rw [getD_set, hu]
     by_cases hj : t = j
     ·rw [if_pos ⟨hj, ht⟩, if_pos hj]
     ·rw [if_neg (fun hc => hj hc.1), if_neg hj]
    have hlen : (u.set t (u.getD t 0 + 1)).length = n := by rw [List.length_set]; exact hu
    have e1 := fair_L1 (F := F) (e := rv.1[k]) (y := u.set t (u.getD t 0 + 1)) (t := t) hx (by omega) (by omega) (fun j hj => by
      have h2 := hm j (by omega)
      rw [hg, hg, if_pos rfl]
      split <;> omega) (c := l_WindowFair_L2 F rv (fun l _ => K l) m (u.set t (u.getD t 0 + 1)) (W ((k : Int) + 1))) F 0 (by omega) (by omega)
    refine Eq.trans e1 ?_
    rw [W_succ (by omega)]
    exact fair_L2 hF hl hn hK m (k + 1) _ (by omega) (by omega) hf
  ·rw [List.drop_of_length_le (by omega)] at hf
   rw [if_neg (by omega)]
   cases hf
   rfl
theorem fair_planF {n w : Nat} {c : Int} (hn : n ≤ 8) (hw : w ≤ 60) {F : Nat} (hF : 100 < F) : PlanF F (fairP n w c) := by
 have e1 : (fairP n w c).teams.length = n := by simp [fairP]
 have e2 : (fairP n w c).windows.length = w := by simp [fairP]
 refine ⟨by rw [e1, e2]; omega, by rw [e1]; omega, by rw [e2]; omega, fun e he => ?_, by omega⟩
 obtain ⟨i, _, rfl⟩ := List.mem_map.1 he
 have hs : (fairT i).name.size = 2 := rfl
 exact ⟨by rw [hs]; omega, by show 0 < F ∧ (0 : Nat) < _; omega, by show 0 < F ∧ (0 : Nat) < _; omega⟩
theorem fair_nights {a : List Int} (hl : a.length ≤ 60) {F : Nat} (hF : 100 < F) : NightsF F (a.map fairN) := by
 refine ⟨fun x hx => ?_, by rw [List.length_map]; omega⟩
 obtain ⟨y, _, rfl⟩ := List.mem_map.1 hx
 exact ⟨⟨by show 0 < F ∧ (0 : Nat) < _; omega⟩, by show 1 < F; omega⟩
theorem fair_any {F : Nat} {t o : Int} {a : List Int} (hF : 100 < F) (ht : 0 ≤ t ∧ t ≤ 255) (ho : 0 ≤ o ∧ o ≤ 255) (ha : ∀ x ∈ a, 0 ≤ x ∧ x ≤ 255) (hA : l_Awake 100 = some true) : l_WindowFair F t o a = some true := by
 rw [l_WindowFair, hA]
 by_cases h60 : 60 < a.length
 ·rw [if_pos (by omega)]; rfl
 rw [if_neg (by omega)]
 obtain ⟨n, hn⟩ : ∃ n : Nat, 1 + Int.tmod t 8 = n := ⟨(1 + Int.tmod t 8).toNat, by have := Int.tmod_nonneg 8 ht.1; omega⟩
 have hn1 : 1 ≤ n ∧ n ≤ 8 := by
  have := Int.tmod_nonneg 8 ht.1
  have := Int.tmod_lt_of_pos t (show (0 : Int) < 8 by decide)
  omega
 have hc : 0 ≤ Int.tmod o 101 ∧ Int.tmod o 101 ≤ 100 := by
  have := Int.tmod_nonneg 101 ho.1
  have := Int.tmod_lt_of_pos o (show (0 : Int) < 101 by decide)
  omega
 have hpf := fair_planF (n := n) (w := a.length) (c := Int.tmod o 101) hn1.2 (by omega) hF
 have hnf := fair_nights (a := a) (by omega) hF
 have hck := fair_check (n := n) (w := a.length) (c := Int.tmod o 101) hn1 (by omega) hc
 obtain ⟨xs, s', e1, e2, e3⟩ := fair_season (n := n) (w := a.length) (c := Int.tmod o 101) hn1 (by omega) hc a 0 [] _ fair_start (by omega) ha
 have hse : seasonR (fairP n a.length (Int.tmod o 101)) (a.map fairN) = (xs, s', 0) := by
  unfold seasonR startR
  rw [hck, if_pos rfl, if_neg (by simp), if_neg (by simp [fairP]), e1, List.nil_append]
 have e4 := fair_L4 (F := F) hn ht hn1.2 (K := fun lv => l_WindowFair_L3 F a (fun (lv2 : (List WiWindow)) (lv3 : (List WiNight)) (x2 : Int) => Option.bind (window_Season F (WiPlan.mk lv lv2 (Int.tmod (W o) 101) 0) lv3) fun rv3 => if rv3.2.2 = 0 then (if (rv3.1.length : Int) = (lv3.length : Int) then (if (rv3.2.1.used.length : Int) = (lv.length : Int) then (Option.bind (natM (lv.length : Int)) fun q5 => l_WindowFair_L2 F rv3 (fun (lv4 : (List Int)) (x3 : Int) => Option.bind (r_Ints F lv4 rv3.2.1.used) fun rv4 => if rv4 = true then (Option.bind (some true) fun rv5 => some rv5) else (some false)) F (List.replicate q5 (0 : Int)) 0) else (some false)) else (some false)) else (some false)) F ([] : List WiWindow) ([] : List WiNight) 0) F 0 (by omega) (by omega)
 refine Eq.trans e4 ?_
 have e5 := fair_L3 (F := F) ha (by omega) (K := fun lv2 lv3 => Option.bind (window_Season F (WiPlan.mk ((List.range n).map fairT) lv2 (Int.tmod (W o) 101) 0) lv3) fun rv3 => if rv3.2.2 = 0 then (if (rv3.1.length : Int) = (lv3.length : Int) then (if (rv3.2.1.used.length : Int) = (((List.range n).map fairT).length : Int) then (Option.bind (natM (((List.range n).map fairT).length : Int)) fun q5 => l_WindowFair_L2 F rv3 (fun (lv4 : (List Int)) (x3 : Int) => Option.bind (r_Ints F lv4 rv3.2.1.used) fun rv4 => if rv4 = true then (Option.bind (some true) fun rv5 => some rv5) else (some false)) F (List.replicate q5 (0 : Int)) 0) else (some false)) else (some false)) else (some false)) F 0 (by omega) (by omega)
 refine Eq.trans e5 ?_
 rw [W_id (x := o) (by omega) (by omega)]
 show Option.bind (window_Season F (fairP n a.length (Int.tmod o 101)) (a.map fairN)) _ = _
 rw [Season_eq hpf hnf, hse, Option.bind_some]
 have hul : s'.used.length = n := by
  have : ∀ {u : List Int} {l : List WiUse} {u' : List Int}, FairL n u l u' → u'.length = n := fun h => by
   induction h with
   | nil h => exact h
   | cons _ _ _ _ _ ih => exact ih
  exact this e3
 show (if (0 : Int) = 0 then (if (xs.length : Int) = ((a.map fairN).length : Int) then (if (s'.used.length : Int) = (((List.range n).map fairT).length : Int) then _ else _) else _) else _) = _
 rw [if_pos rfl, if_pos (by rw [List.length_map, e2]), if_pos (by rw [List.length_map, List.length_range, hul]), List.length_map, List.length_range, natM_small (by omega), Option.bind_some]
 have hst : (startP (fairP n a.length (Int.tmod o 101))).used = List.replicate n 0 := by
  show (((List.range n).map fairT).map fun _ => (0 : Int)) = _
  rw [List.map_map]
  apply List.ext_getElem
  ·simp
  ·intro i h1 h2; simp
 rw [hst] at e3
 have e6 := fair_L2 (F := F) (by omega) (rv := (xs, s', (0 : Int))) (by show xs.length ≤ 60; omega) hn1.2 (u' := s'.used) (K := fun lv4 => Option.bind (r_Ints F lv4 s'.used) fun rv4 => if rv4 = true then (Option.bind (some true) fun rv5 => some rv5) else (some false)) (fun _ _ => trivial) F 0 (List.replicate n 0) (by show xs.length < F + 0; omega) (by omega) (by rw [List.drop_zero]; exact e3)
 refine Eq.trans e6 ?_
 show Option.bind (r_Ints F s'.used s'.used) _ = _
 rw [r_Ints_eq (by omega) (by omega), Option.bind_some, decide_eq_true rfl]
 rfl
end Go.Proofs.Ytdefnmcjmklohaa
