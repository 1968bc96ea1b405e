/- The plain part of the statement about audits. -/
import Derived.Test.YtdefnmcjmklohaaP13
open Go Go.Proofs.Ytdefnmcjmklohaa.Sh Go.Proofs
namespace Go.Proofs.Ytdefnmcjmklohaa
set_option linter.unusedVariables false
set_option linter.unusedSimpArgs false
/-- The first place at which two lists differ. -/
def firstD : List WiUse → List WiUse → Nat → Int
 | [], [], _ => -1
 | x :: l, y :: m, k => if WiUse.beq x y = true then firstD l m (k + 1) else (k : Int)
 | _, _, k => (k : Int)
theorem firstD_self : ∀ (l : List WiUse) (k : Nat), firstD l l k = -1
 | [], k => rfl
 | x :: l, k => by rw [firstD, if_pos (beq_use x), firstD_self l]
theorem firstD_app (u : WiUse) : ∀ (l : List WiUse) (k : Nat), firstD l (l ++ [u]) k = ((k + l.length : Nat) : Int)
 | [], k => rfl
 | x :: l, k => by
  rw [List.cons_append, firstD, if_pos (beq_use x), firstD_app u l, List.length_cons]
  congr 1
  omega
theorem firstD_len : ∀ (l m : List WiUse) (k : Nat), l.length ≠ m.length → ∃ n : Nat, firstD l m k = (n : Int) ∧ n ≤ k + l.length
 | [], [], k, h => absurd rfl h
 | x :: l, y :: m, k, h => by
  rw [firstD]
  split
  ·obtain ⟨n, h1, h2⟩ := firstD_len l m (k + 1) (by simpa using h)
   exact ⟨n, h1, by rw [List.length_cons]; omega⟩
  ·exact ⟨k, rfl, by omega⟩
 | [], y :: m, k, _ => ⟨k, rfl, by omega⟩
 | x :: l, [], k, _ => ⟨k, rfl, by omega⟩
theorem firstD_set (u : WiUse) : ∀ (l : List WiUse) (i k : Nat) (h : i < l.length), WiUse.beq l[i] u = false → firstD l (l.set i u) k = ((k + i : Nat) : Int)
 | [], i, k, h, _ => by simp at h
 | x :: l, 0, k, _, hb => by
  have hb' : ¬ WiUse.beq x u = true := by rw [show x = (x :: l)[0] from rfl, hb]; simp
  rw [List.set_cons_zero, firstD, if_neg hb']
  rfl
 | x :: l, i + 1, k, h, hb => by
  rw [List.set_cons_succ, firstD, if_pos (beq_use x), firstD_set u l i (k + 1) (by simpa using h) (by simpa using hb)]
  congr 1
  omega
section
variable {F : Nat} {p : WiPlan} {nights : List WiNight}
theorem audit_D {rv : List WiUse × WiState × Int} {m : List WiUse} (hu : m.length < 9223372036854775808) (hr : rv.1.length < 9223372036854775808) : ∀ (n k : Nat), max rv.1.length m.length < n + k → k ≤ max rv.1.length m.length → window_Audit_L1 F m rv (fun _ => some (-1, 0)) n k = some (firstD (rv.1.drop k) (m.drop k) k, 0)
 | 0, k, h1, h2 => absurd h1 (by omega)
 | n + 1, k, h1, h2 => by
  have hmx : max (rv.1.length : Int) (m.length : Int) = ((max rv.1.length m.length : Nat) : Int) := by
   rcases Nat.le_total rv.1.length m.length with hh | hh
   ·rw [Nat.max_eq_right hh, Int.max_eq_right (by omega)]
   ·rw [Nat.max_eq_left hh, Int.max_eq_left (by omega)]
  rw [window_Audit_L1, hmx]
  by_cases ha : k < rv.1.length
  ·have c1 : (k : Int) < ((max rv.1.length m.length : Nat) : Int) := by omega
   have c2 : ¬ (rv.1.length : Int) ≤ k := by omega
   rw [List.drop_eq_getElem_cons ha]
   by_cases hb : k < m.length
   ·have c4 : ¬ (m.length : Int) ≤ k := by omega
    have ih := audit_D hu hr n (k + 1) (by omega) (by omega)
    rw [List.drop_eq_getElem_cons hb, firstD]
    simp only [if_pos c1, if_neg c2, if_neg c4, ixO_nat ha, ixO_nat hb, Option.bind_some, W_succ (show k < 9223372036854775807 by omega), ih]
    cases WiUse.beq rv.1[k] m[k] <;> simp
   ·have c4 : (m.length : Int) ≤ k := by omega
    simp only [if_pos c1, if_neg c2, if_pos c4]
    rw [List.drop_of_length_le (show m.length ≤ k by omega)]
    rfl
  ·have c2 : (rv.1.length : Int) ≤ k := by omega
   rw [List.drop_of_length_le (show rv.1.length ≤ k by omega)]
   by_cases hb : k < m.length
   ·have c1 : (k : Int) < ((max rv.1.length m.length : Nat) : Int) := by omega
    rw [List.drop_eq_getElem_cons hb]
    simp only [if_pos c1, if_pos c2]
    rfl
   ·have c1 : ¬ (k : Int) < ((max rv.1.length m.length : Nat) : Int) := by omega
    simp only [if_neg c1]
    rw [List.drop_of_length_le (show m.length ≤ k by omega)]
    rfl
theorem Audit_D {m : List WiUse} (h : PlanF F p) (hn : NightsF F nights) (h0 : (seasonR p nights).2.2 = 0) (hl : (seasonR p nights).1.length < F ∧ (seasonR p nights).1.length < 9223372036854775808) (hm : m.length < F ∧ m.length < 9223372036854775808) : window_Audit F p nights m = some (firstD (seasonR p nights).1 m 0, 0) := by
 have e1 : window_Audit_L1 F m (seasonR p nights) (fun _ => some (-1, 0)) F 0 = _ := audit_D hm.2 hl.2 F 0 (by omega) (by omega)
 unfold window_Audit
 rw [Season_eq h hn, Option.bind_some, if_pos h0]
 exact e1
def tailA (F : Nat) (p : WiPlan) (nights : List WiNight) (l : List WiUse) (c0 i : Int) (m : List WiUse) : Option Bool :=
 Option.bind (window_Audit F p nights m) fun rv => if rv.2 = 0 then (if 0 ≤ rv.1 then (if rv.1 ≤ (max i (l.length : Int)) then (if (Int.tmod c0 6) < 2 then (Option.bind (l_Awake 100 ) fun r => some r) else (if (l.length : Int) = 0 then (Option.bind (l_Awake 100 ) fun r => some r) else (if rv.1 = i then (Option.bind (l_Awake 100 ) fun r => some r) else (some false)))) else (some false)) else (some false)) else (some false)
theorem tail_ok {l m : List WiUse} {c0 i v : Int} (hA : l_Awake 100 = some true) (ha : window_Audit F p nights m = some (v, 0)) (h0 : 0 ≤ v) (h1 : v ≤ i ∨ v ≤ l.length) (h2 : Int.tmod c0 6 < 2 ∨ v = i) : tailA F p nights l c0 i m = some true := by
 unfold tailA
 have hmx : v ≤ max i (l.length : Int) := by
  rcases h1 with h | h
  ·exact Int.le_trans h (Int.le_max_left _ _)
  ·exact Int.le_trans h (Int.le_max_right _ _)
 rw [ha, hA, Option.bind_some, if_pos rfl, if_pos h0, if_pos hmx]
 by_cases h3 : Int.tmod c0 6 < 2
 ·rw [if_pos h3]; rfl
 ·rw [if_neg h3, if_pos (h2.resolve_left h3)]
  split <;> rfl
theorem W_ne {x b : Int} (hb : 1 ≤ b ∧ b ≤ 256) : W (x + b) ≠ x ∧ W (x - b) ≠ x := by
 constructor
 ·intro h
  unfold W IntKind.wrap at h
  simp [IntKind.bits, IntKind.signed] at h
  omega
 ·intro h
  unfold W IntKind.wrap at h
  simp [IntKind.bits, IntKind.signed] at h
  omega
theorem audits_any {a : Arr3Int} (h : PlanF F p) (hn : NightsF F nights) (h0' : 0 ≤ a.c0 ∧ a.c0 ≤ 255) (h1' : 0 ≤ a.c1 ∧ a.c1 ≤ 255) (h2' : 0 ≤ a.c2 ∧ a.c2 ≤ 255) (hF : nights.length + 10 < F) (hA : l_Awake 100 = some true) : l_WindowAudits F p nights a = some true := by
 unfold l_WindowAudits
 rw [Season_eq h hn, Option.bind_some]
 by_cases h0 : (seasonR p nights).2.2 = 0
 ·obtain ⟨hp, hlw, e⟩ := seasonR_ok h0
  have hw60 := hp.w
  have hsl : (seasonR p nights).1.length ≤ nights.length := by
   rw [e]
   have := seasonL_len (p := p) nights [] (startP p)
   simpa using this
  have hAud : ∀ m : List WiUse, m.length ≤ 62 → m.length < F → window_Audit F p nights m = some (firstD (seasonR p nights).1 m 0, 0) := fun m hm hm2 => Audit_D h hn h0 (by omega) (by omega)
  generalize (seasonR p nights) = rv at *
  obtain ⟨l, st, er⟩ := rv
  dsimp only at h0 hsl hAud ⊢
  have eself : window_Audit F p nights l = some (-1, 0) := by rw [hAud l (by omega) (by omega), firstD_self]
  have eapp : appO ([] : List WiUse) l = some l := by
   unfold appO
   rw [if_pos (by simp; omega)]
   rfl
  have hWb : W (1 + W a.c2) = 1 + a.c2 := by rw [W_id (x := a.c2), W_id]
  have hW1 : W a.c1 = a.c1 := W_id
  rw [if_pos h0, eself, Option.bind_some, if_pos rfl, if_pos rfl, eapp, Option.bind_some]
  have hap : ∀ u, appO l [u] = some (l ++ [u]) := fun u => app_one (by omega)
  have happ : ∀ u, tailA F p nights l a.c0 (W (((l ++ [u]).length : Int) - 1)) (l ++ [u]) = some true := fun u => by
   have el : ((l ++ [u]).length : Int) = l.length + 1 := by simp
   have ew : W (((l ++ [u]).length : Int) - 1) = l.length := by rw [el, W_id] <;> omega
   refine tail_ok hA (hAud _ (by simp; omega) (by simp; omega)) (v := firstD l (l ++ [u]) 0) ?_ ?_ ?_
   ·rw [firstD_app]; omega
   ·rw [firstD_app, ew]; omega
   ·rw [firstD_app, ew]; omega
  by_cases hl : 0 < (l.length : Int)
  ·rw [if_pos hl, if_neg (show ¬ (l.length : Int) = 0 by omega), if_neg (show ¬ (l.length : Int) = 0 by omega)]
   by_cases d0 : Int.tmod a.c0 6 = 0
   ·rw [if_pos d0, hap, Option.bind_some]
    exact happ _
   rw [if_neg d0]
   obtain ⟨b, hb⟩ := Int.eq_ofNat_of_zero_le h1'.1
   have hi : Int.tmod (W a.c1) (l.length : Int) = ((b % l.length : Nat) : Int) := by
    rw [hW1, hb, Int.tmod_eq_emod_of_nonneg (by omega)]
    push_cast
    rfl
   have hib : b % l.length < l.length := Nat.mod_lt _ (by omega)
   generalize b % l.length = i at hi hib
   have hset : ∀ u : WiUse, WiUse.beq l[i] u = false → tailA F p nights l a.c0 (Int.tmod (W a.c1) ((l.set i u).length : Int)) (l.set i u) = some true := fun u hu => by
    rw [List.length_set, hi]
    refine tail_ok hA (hAud _ (by rw [List.length_set]; omega) (by rw [List.length_set]; omega)) (v := firstD l (l.set i u) 0) ?_ ?_ ?_
    ·rw [firstD_set u l i 0 hib hu]; omega
    ·rw [firstD_set u l i 0 hib hu]; omega
    ·rw [firstD_set u l i 0 hib hu]; omega
   by_cases d1 : Int.tmod a.c0 6 = 1
   ·rw [if_pos d1, hi]
    have n1 : natO (i : Int) l.length = some i := by unfold natO; rw [if_pos (by omega)]; simp
    have n2 : natO (W ((i : Int) + 1)) l.length = some (i + 1) := by
     rw [W_succ (by omega)]
     unfold natO
     rw [if_pos (by omega)]
     simp
    rw [n1, Option.bind_some, n2, Option.bind_some]
    have hdel : ∀ m : List WiUse, m.length + 1 = l.length → tailA F p nights l a.c0 (i : Int) m = some true := fun m hm => by
     obtain ⟨n, f1, f2⟩ := firstD_len l m 0 (by omega)
     refine tail_ok hA (hAud m (by omega) (by omega)) (v := firstD l m 0) ?_ ?_ ?_
     ·rw [f1]; omega
     ·rw [f1]; omega
     ·left; omega
    by_cases hlast : l.length = i + 1
    ·have ea : appO (l.take i) ([] : List WiUse) = some (l.take i ++ []) := by unfold appO; rw [if_pos (by rw [List.length_take]; simp; omega)]
     rw [if_pos hlast, ea, Option.bind_some]
     exact hdel _ (by rw [List.append_nil, List.length_take]; omega)
    ·have ea : appO (l.take i) (l.drop (i + 1)) = some (l.take i ++ l.drop (i + 1)) := by unfold appO; rw [if_pos (by rw [List.length_take, List.length_drop]; omega)]
     rw [if_neg hlast, ea, Option.bind_some]
     exact hdel _ (by rw [List.length_append, List.length_take, List.length_drop]; omega)
   rw [if_neg d1]
   have hso : ∀ u, setO l (i : Int) u = some (l.set i u) := fun u => by unfold setO; rw [Int.toNat_natCast]
   have hix : ixO l (i : Int) = some l[i] := ixO_nat hib
   have hw := fun x : Int => W_ne (x := x) (b := 1 + a.c2) (by omega)
   by_cases d2 : Int.tmod a.c0 6 = 2
   ·rw [if_pos d2]
    have hh := hset { l[i] with window := W (l[i].window + W (1 + W a.c2)) } (by
     have := (hw l[i].window).1
     rw [hWb]
     simp [WiUse.beq, Ne.symm this])
    rw [hi, hix, Option.bind_some, hso, Option.bind_some]
    exact hh
   rw [if_neg d2]
   by_cases d3 : Int.tmod a.c0 6 = 3
   ·rw [if_pos d3]
    have hh := hset { l[i] with team := W (l[i].team + W (1 + W a.c2)) } (by
     have := (hw l[i].team).1
     rw [hWb]
     simp [WiUse.beq, Ne.symm this])
    rw [hi, hix, Option.bind_some, hso, Option.bind_some]
    exact hh
   rw [if_neg d3]
   by_cases d4 : Int.tmod a.c0 6 = 4
   ·rw [if_pos d4]
    have hh := hset { l[i] with at_ := W (l[i].at_ - W (1 + W a.c2)) } (by
     have := (hw l[i].at_).2
     rw [hWb]
     simp [WiUse.beq, Ne.symm this])
    rw [hi, hix, Option.bind_some, hso, Option.bind_some]
    exact hh
   rw [if_neg d4]
   have hh := hset { l[i] with by_ := W (l[i].by_ + W (1 + W a.c2)) } (by
    have := (hw l[i].by_).1
    rw [hWb]
    simp [WiUse.beq, Ne.symm this])
   rw [hi, hix, Option.bind_some, hso, Option.bind_some]
   exact hh
  ·rw [if_neg hl, if_pos (show (l.length : Int) = 0 by omega), hap, Option.bind_some]
   exact happ _
 ·rw [if_neg h0, hA]
  rfl
end
end Go.Proofs.Ytdefnmcjmklohaa
