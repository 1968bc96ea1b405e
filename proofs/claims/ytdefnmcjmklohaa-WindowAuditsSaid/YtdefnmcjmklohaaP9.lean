/- The plain part of a turn: it is launched, scrubbed, or given. -/
import Derived.Test.YtdefnmcjmklohaaP8
open Go Go.Proofs.Ytdefnmcjmklohaa.Sh Go.Proofs
namespace Go.Proofs.Ytdefnmcjmklohaa
set_option linter.unusedVariables false
set_option linter.unusedSimpArgs false
/-! ### Numbers in a list that are raised -/
theorem getD_set (y : List Int) (i j : Nat) (v : Int) : (y.set i v).getD j 0 = if i = j ∧ i < y.length then v else y.getD j 0 := by
 simp only [List.getD_eq_getElem?_getD, List.getElem?_set]
 by_cases h : i = j
 ·subst h
  by_cases h2 : i < y.length
  ·simp [h2]
  ·simp [h2]
 ·simp [h]
theorem setO_nat (y : List Int) (i : Nat) (v : Int) : setO y (i : Int) v = some (y.set i v) := by
 unfold setO
 rw [Int.toNat_natCast]
def bumpL : List Int → List Int → List Int
 | y, [] => y
 | y, i :: l => bumpL (y.set i.toNat (y.getD i.toNat 0 + 1)) l
theorem bumpL_len : ∀ (l y : List Int), (bumpL y l).length = y.length
 | [], y => rfl
 | i :: l, y => by rw [bumpL, bumpL_len l, List.length_set]
theorem bumpL_get : ∀ {l y : List Int}, l.Nodup → (∀ i ∈ l, 0 ≤ i ∧ i < y.length) → ∀ k : Nat, (bumpL y l).getD k 0 = y.getD k 0 + if (k : Int) ∈ l then 1 else 0
 | [], y, _, _, k => by simp [bumpL]
 | i :: l, y, hn, hv, k => by
  rw [List.nodup_cons] at hn
  obtain ⟨j, rfl⟩ := Int.eq_ofNat_of_zero_le (hv i (by simp)).1
  have hj := (hv (j : Int) (by simp)).2
  rw [bumpL, bumpL_get hn.2 (fun v h => by rw [List.length_set]; exact hv v (by simp [h])) k, Int.toNat_natCast, getD_set]
  by_cases h : j = k
  ·subst h
   rw [if_pos ⟨rfl, by omega⟩, if_neg hn.1, if_pos (by simp)]
   omega
  ·rw [if_neg (fun e => h e.1)]
   have : ((k : Int) ∈ (j : Int) :: l) ↔ (k : Int) ∈ l := by
    rw [List.mem_cons]
    constructor
    ·rintro (e | e)
     ·omega
     ·exact e
    ·exact .inr
   by_cases h2 : (k : Int) ∈ l
   ·rw [if_pos h2, if_pos (this.2 h2)]
   ·rw [if_neg h2, if_neg (fun e => h2 (this.1 e))]
/-- Numbers that are far from the ends. -/
def Far (b : Int) (y : List Int) : Prop := ∀ k, -b ≤ y.getD k 0 ∧ y.getD k 0 ≤ b
theorem Far.set {b : Int} {y : List Int} (h : Far b y) {v : Int} (hv : -b ≤ v ∧ v ≤ b) (i : Nat) : Far b (y.set i v) := fun k => by
 rw [getD_set]
 split
 ·exact hv
 ·exact h k
theorem Far.mono {b c : Int} {y : List Int} (h : Far b y) (hb : b ≤ c) : Far c y := fun k => by have := h k; omega
theorem launch_L1 {F : Nat} {t : Table} (h : TabOk F t) (K' : List Int → Option (Except Int Table)) : ∀ (n k : Nat) (y : List Int) (b : Int), t.p_Teams.length < n + k → k ≤ t.p_Teams.length → y.length = t.p_Teams.length → Far b y → 0 ≤ b → b ≤ 1000000000 - 2 * ((t.p_Teams.length : Int) - k) → window_table_launch_m_L1 F t (fun y _ => K' y) n y k = K' (bumpL y (pickFrom (canT t) (t.p_Teams.length - k) k))
 | 0, k, y, b, h1, h2, _, _, _, _ => absurd h1 (by omega)
 | n + 1, k, y, b, h1, h2, hy, hf, hb0, hb => by
  have h8 := h.n
  rw [window_table_launch_m_L1]
  by_cases hk : k < t.p_Teams.length
  ·have hfk := hf k
   have h' : TabOk F { t with s_Credit := y } := ⟨h.f, h.h, h.n, h.ts, h.u, hy, h.l, h.ls, h.k, h.d, h.un, h.m⟩
   have e1 : window_table_why F { t with s_Credit := y } k = some (whyT t k) := why_eq h' hk
   rw [getD_of _ (show k < y.length by omega)] at hfk
   rw [if_pos (by omega), e1, Option.bind_some, ixO_nat (by omega), Option.bind_some, setO_nat, Option.bind_some, W_succ (by omega), W_id (x := y[k] + 1), launch_L1 h K' n (k + 1) y (b + 1) (by omega) (by omega) hy (hf.mono (by omega)) (by omega) (by omega), launch_L1 h K' n (k + 1) (y.set k (y[k] + 1)) (b + 1) (by omega) (by omega) (by rw [List.length_set]; exact hy) ((hf.mono (by omega)).set (by omega) k) (by omega) (by omega), show t.p_Teams.length - k = (t.p_Teams.length - (k + 1)) + 1 by omega, pickFrom]
   unfold canT doneT
   cases (mget t.done (k : Int)).getD false
   ·by_cases hw : whyT t k = 0
    ·simp [hw, bumpL, List.getElem?_eq_getElem (show k < y.length by omega)]
    ·simp [hw]
   ·simp
  ·rw [if_neg (by omega), show t.p_Teams.length - k = 0 by omega]
   rfl
/-! ### What a turn does -/
def giveC (p : WiPlan) (d : Desk) (t to : Int) : List Int :=
 (d.s_Credit.set t.toNat (d.s_Credit.getD t.toNat 0 + p.gift)).set to.toNat (d.s_Credit.getD to.toNat 0 - p.gift)
def others (p : WiPlan) (sky : WiSky) (d : Desk) (t : Int) : List Int := pickFrom (canS p (stD d) sky d.minute (d.done ++ [t])) p.teams.length 0
def launchC (p : WiPlan) (sky : WiSky) (d : Desk) (t : Int) : List Int :=
 (bumpL d.s_Credit (others p sky d t)).set t.toNat ((bumpL d.s_Credit (others p sky d t)).getD t.toNat 0 - p.cost)
def launchD (p : WiPlan) (sky : WiSky) (d : Desk) (x : WiTurn) (t : Int) : Desk :=
 { d with s_Used := d.s_Used.set t.toNat (d.s_Used.getD t.toNat 0 + 1), s_Last := d.s_Last.set t.toNat (winAt p d.s_Next).day, s_Credit := launchC p sky d t, minute := x.at_, done := d.done ++ [t], given := -1, over := true, use_Team := t, use_At := x.at_, use_By := if 0 ≤ d.given then d.by_ else -1 }
def actS (p : WiPlan) (sky : WiSky) (d : Desk) (x : WiTurn) : Desk × Int :=
 if turnS p sky d < 0 then (d, 9) else if outP x.what 1 3 = true then (d, 2)
 else if x.what = 3 then
  (if 0 ≤ d.given then (d, 5) else if hasP (recvS p sky d) x.to_ = false then (d, 4) else if x.at_ ≠ d.minute then (d, 7)
  else ({ d with s_Credit := giveC p d (turnS p sky d) x.to_, done := d.done ++ [turnS p sky d], given := x.to_, by_ := turnS p sky d }, 0))
 else if x.to_ ≠ 0 ∨ outP x.at_ (if x.what = 1 then d.minute + (p.teams.getD (turnS p sky d).toNat default).setup else d.minute) (winAt p d.s_Next).until_ = true then (d, 7)
 else if x.what = 1 then (launchD p sky d x (turnS p sky d), 0) else ({ d with minute := x.at_, done := d.done ++ [turnS p sky d], given := -1 }, 0)
section
variable {F : Nat} {p : WiPlan} {sky : WiSky} {d : Desk} {c : Nat} {dm : List (Int × Bool)}
theorem recvS_mem {v : Int} (h : hasP (recvS p sky d) v = true) : 0 ≤ v ∧ v < p.teams.length ∧ v ≠ turnS p sky d := by
 rw [hasP_iff] at h
 unfold recvS at h
 split at h
 ·cases h
 split at h
 ·cases h
 obtain ⟨k, rfl, h1, h2⟩ := rightsS_mem.1 h
 refine ⟨by omega, by omega, fun e => ?_⟩
 unfold canS hasP at h2
 rw [List.any_append, e] at h2
 simp at h2
theorem others_nodup (t : Int) : (others p sky d t).Nodup := pick_nodup _ _ _
theorem others_mem {t v : Int} (h : v ∈ others p sky d t) : 0 ≤ v ∧ v < p.teams.length ∧ v ≠ t := by
 obtain ⟨j, rfl, _, h1, h2⟩ := pick_mem.1 h
 refine ⟨by omega, by omega, fun e => ?_⟩
 unfold canS hasP at h2
 rw [List.any_append, e] at h2
 simp at h2
theorem DeskOk.far (h : DeskOk F p sky d c) : Far (200000 + 200 * c) d.s_Credit := fun k => by
 by_cases hk : k < p.teams.length
 ·have := h.cs k hk; omega
 ·have hl : d.s_Credit.length = p.teams.length := h.a.o.c
  rw [List.getD_eq_getElem?_getD, List.getElem?_eq_none (by omega)]
  simp
  omega
theorem bump_far {b : Int} {y l : List Int} (hn : l.Nodup) (hv : ∀ i ∈ l, 0 ≤ i ∧ i < y.length) (h : Far b y) (hb : 0 ≤ b) : Far (b + 1) (bumpL y l) := fun k => by
 have := h k
 rw [bumpL_get hn hv k]
 split <;> omega
end
end Go.Proofs.Ytdefnmcjmklohaa
