/- The plain part of a turn: it is launched, scrubbed, or given. -/
import Derived.Test.YtdefnmcjmklohaaGreatP8
open Go Go.Proofs.YtdefnmcjmklohaaGreat.Sh Go.Proofs
namespace Go.Proofs.YtdefnmcjmklohaaGreat
set_option linter.unusedVariables false
set_option linter.unusedSimpArgs false
/-! ### Numbers in a list that are raised -/
theorem getD_set (y : List Int) (i j : Nat) (v : Int) : (y.set i v).getD j 0 = if i = j ∧ i < y.length then v else y.getD j 0 := by
 simp only [List.getD_eq_getElem?_getD, List.getElem?_set]
 by_cases h : i = j
 ·subst h
  by_cases h2 : i < y.length
  ·simp [h2]
  ·simp [h2]
 ·simp [h]
theorem setO_nat (y : List Int) (i : Nat) (v : Int) : setO y (i : Int) v = some (y.set i v) := by
 unfold setO
 rw [Int.toNat_natCast]
theorem ext_getD {a b : List Int} (hl : a.length = b.length) (h : ∀ k, k < a.length → a.getD k 0 = b.getD k 0) : a = b := by
 refine List.ext_getElem hl fun k h1 h2 => ?_
 have := h k h1
 rwa [getD_of _ h1, getD_of _ h2] at this
def bumpL : List Int → List Int → List Int
 | y, [] => y
 | y, i :: l => bumpL (y.set i.toNat (y.getD i.toNat 0 + 1)) l
theorem bumpL_len : ∀ (l y : List Int), (bumpL y l).length = y.length
 | [], y => rfl
 | i :: l, y => by rw [bumpL, bumpL_len l, List.length_set]
theorem bumpL_get : ∀ {l y : List Int}, l.Nodup → (∀ i ∈ l, 0 ≤ i ∧ i < y.length) → ∀ k : Nat, (bumpL y l).getD k 0 = y.getD k 0 + if (k : Int) ∈ l then 1 else 0
 | [], y, _, _, k => by simp [bumpL]
 | i :: l, y, hn, hv, k => by
  rw [List.nodup_cons] at hn
  obtain ⟨j, rfl⟩ := Int.eq_ofNat_of_zero_le (hv i (by simp)).1
  have hj := (hv (j : Int) (by simp)).2
  rw [bumpL, bumpL_get hn.2 (fun v h => by rw [List.length_set]; exact hv v (by simp [h])) k, Int.toNat_natCast, getD_set]
  by_cases h : j = k
  ·subst h
   rw [if_pos ⟨rfl, by omega⟩, if_neg hn.1, if_pos (by simp)]
   omega
  ·rw [if_neg (fun e => h e.1)]
   have : ((k : Int) ∈ (j : Int) :: l) ↔ (k : Int) ∈ l := by
    rw [List.mem_cons]
    constructor
    ·rintro (e | e)
     ·omega
     ·exact e
    ·exact .inr
   by_cases h2 : (k : Int) ∈ l
   ·rw [if_pos h2, if_pos (this.2 h2)]
   ·rw [if_neg h2, if_neg (fun e => h2 (this.1 e))]
/-- Numbers that are far from the ends. -/
def Far (b : Int) (y : List Int) : Prop := ∀ k, -b ≤ y.getD k 0 ∧ y.getD k 0 ≤ b
theorem Far.set {b : Int} {y : List Int} (h : Far b y) {v : Int} (hv : -b ≤ v ∧ v ≤ b) (i : Nat) : Far b (y.set i v) := fun k => by
 rw [getD_set]
 split
 ·exact hv
 ·exact h k
theorem Far.mono {b c : Int} {y : List Int} (h : Far b y) (hb : b ≤ c) : Far c y := fun k => by have := h k; omega
theorem ract_L1 {F : Nat} {l : List Int} (K' : List Int → Option (Desk × Int)) : ∀ (n k : Nat) (y : List Int) (b : Int), l.length < n + k → k ≤ l.length → l.length ≤ 8 → (∀ i ∈ l, 0 ≤ i ∧ i < y.length) → Far b y → 0 ≤ b → b ≤ 1000000000 - 2 * ((l.length : Int) - k) → r_act_L1 F l (fun y _ => K' y) n y k = K' (bumpL y (l.drop k))
 | 0, k, y, b, h, h2, _, _, _, _, _ => absurd h (by omega)
 | n + 1, k, y, b, h, h2, h8, hv, hf, hb0, hb => by
  rw [r_act_L1]
  by_cases hk : k < l.length
  ·have hm := hv l[k] (List.getElem_mem hk)
   obtain ⟨j, hj⟩ := Int.eq_ofNat_of_zero_le hm.1
   have hfj := hf j
   rw [if_pos (by omega), ixO_nat hk, Option.bind_some, List.drop_eq_getElem_cons hk, bumpL, hj, ixO_nat (by omega), Option.bind_some, setO_nat, Option.bind_some, W_succ (by omega), Int.toNat_natCast, getD_of _ (show j < y.length by omega)]
   rw [getD_of _ (show j < y.length by omega)] at hfj
   rw [W_id (x := y[j] + 1), ract_L1 K' n (k + 1) (y.set j (y[j] + 1)) (b + 1) (by omega) (by omega) h8 (fun i hi => by rw [List.length_set]; exact hv i hi) ((hf.mono (by omega)).set (by omega) j) (by omega) (by omega)]
  ·rw [if_neg (by omega), List.drop_of_length_le (by omega)]
   rfl
theorem launch_L1 {F : Nat} {t : Table} (h : TabOk F t) (K' : List Int → Option (Except Int Table)) : ∀ (n k : Nat) (y : List Int) (b : Int), t.p_Teams.length < n + k → k ≤ t.p_Teams.length → y.length = t.p_Teams.length → Far b y → 0 ≤ b → b ≤ 1000000000 - 2 * ((t.p_Teams.length : Int) - k) → window_table_launch_m_L1 F t (fun y _ => K' y) n y k = K' (bumpL y (pickFrom (canT t) (t.p_Teams.length - k) k))
 | 0, k, y, b, h1, h2, _, _, _, _ => absurd h1 (by omega)
 | n + 1, k, y, b, h1, h2, hy, hf, hb0, hb => by
  have h8 := h.n
  rw [window_table_launch_m_L1]
  by_cases hk : k < t.p_Teams.length
  ·have hfk := hf k
   have h' : TabOk F { t with s_Credit := y } := ⟨h.f, h.h, h.n, h.ts, h.u, hy, h.l, h.ls, h.k, h.d, h.un, h.m⟩
   have e1 : window_table_why F { t with s_Credit := y } k = some (whyT t k) := why_eq h' hk
   rw [getD_of _ (show k < y.length by omega)] at hfk
   rw [if_pos (by omega), e1, Option.bind_some, ixO_nat (by omega), Option.bind_some, setO_nat, Option.bind_some, W_succ (by omega), W_id (x := y[k] + 1), launch_L1 h K' n (k + 1) y (b + 1) (by omega) (by omega) hy (hf.mono (by omega)) (by omega) (by omega), launch_L1 h K' n (k + 1) (y.set k (y[k] + 1)) (b + 1) (by omega) (by omega) (by rw [List.length_set]; exact hy) ((hf.mono (by omega)).set (by omega) k) (by omega) (by omega), show t.p_Teams.length - k = (t.p_Teams.length - (k + 1)) + 1 by omega, pickFrom]
   unfold canT doneT
   cases (mget t.done (k : Int)).getD false
   ·by_cases hw : whyT t k = 0
    ·simp [hw, bumpL, List.getElem?_eq_getElem (show k < y.length by omega)]
    ·simp [hw]
   ·simp
  ·rw [if_neg (by omega), show t.p_Teams.length - k = 0 by omega]
   rfl
/-! ### What a turn does -/
def giveC (p : WiPlan) (d : Desk) (t to : Int) : List Int :=
 (d.s_Credit.set t.toNat (d.s_Credit.getD t.toNat 0 + p.gift)).set to.toNat (d.s_Credit.getD to.toNat 0 - p.gift)
def others (p : WiPlan) (sky : WiSky) (d : Desk) (t : Int) : List Int := pickFrom (canS p (stD d) sky d.minute (d.done ++ [t])) p.teams.length 0
def launchC (p : WiPlan) (sky : WiSky) (d : Desk) (t : Int) : List Int :=
 (bumpL d.s_Credit (others p sky d t)).set t.toNat ((bumpL d.s_Credit (others p sky d t)).getD t.toNat 0 - p.cost)
def launchD (p : WiPlan) (sky : WiSky) (d : Desk) (x : WiTurn) (t : Int) : Desk :=
 { d with s_Used := d.s_Used.set t.toNat (d.s_Used.getD t.toNat 0 + 1), s_Last := d.s_Last.set t.toNat (winAt p d.s_Next).day, s_Credit := launchC p sky d t, minute := x.at_, done := d.done ++ [t], given := -1, over := true, use_Team := t, use_At := x.at_, use_By := if 0 ≤ d.given then d.by_ else -1 }
def actS (p : WiPlan) (sky : WiSky) (d : Desk) (x : WiTurn) : Desk × Int :=
 if turnS p sky d < 0 then (d, 9) else if outP x.what 1 3 = true then (d, 2)
 else if x.what = 3 then
  (if 0 ≤ d.given then (d, 5) else if hasP (recvS p sky d) x.to_ = false then (d, 4) else if x.at_ ≠ d.minute then (d, 7)
  else ({ d with s_Credit := giveC p d (turnS p sky d) x.to_, done := d.done ++ [turnS p sky d], given := x.to_, by_ := turnS p sky d }, 0))
 else if x.to_ ≠ 0 ∨ outP x.at_ (if x.what = 1 then d.minute + (p.teams.getD (turnS p sky d).toNat default).setup else d.minute) (winAt p d.s_Next).until_ = true then (d, 7)
 else if x.what = 1 then (launchD p sky d x (turnS p sky d), 0) else ({ d with minute := x.at_, done := d.done ++ [turnS p sky d], given := -1 }, 0)
section
variable {F : Nat} {p : WiPlan} {sky : WiSky} {d : Desk} {c : Nat} {dm : List (Int × Bool)}
theorem recvS_mem {v : Int} (h : hasP (recvS p sky d) v = true) : 0 ≤ v ∧ v < p.teams.length ∧ v ≠ turnS p sky d := by
 rw [hasP_iff] at h
 unfold recvS at h
 split at h
 ·cases h
 split at h
 ·cases h
 obtain ⟨k, rfl, h1, h2⟩ := rightsS_mem.1 h
 refine ⟨by omega, by omega, fun e => ?_⟩
 unfold canS hasP at h2
 rw [List.any_append, e] at h2
 simp at h2
theorem others_nodup (t : Int) : (others p sky d t).Nodup := pick_nodup _ _ _
theorem others_mem {t v : Int} (h : v ∈ others p sky d t) : 0 ≤ v ∧ v < p.teams.length ∧ v ≠ t := by
 obtain ⟨j, rfl, _, h1, h2⟩ := pick_mem.1 h
 refine ⟨by omega, by omega, fun e => ?_⟩
 unfold canS hasP at h2
 rw [List.any_append, e] at h2
 simp at h2
theorem DeskOk.far (h : DeskOk F p sky d c) : Far (200000 + 200 * c) d.s_Credit := fun k => by
 by_cases hk : k < p.teams.length
 ·have := h.cs k hk; omega
 ·have hl : d.s_Credit.length = p.teams.length := h.a.o.c
  rw [List.getD_eq_getElem?_getD, List.getElem?_eq_none (by omega)]
  simp
  omega
theorem bump_far {b : Int} {y l : List Int} (hn : l.Nodup) (hv : ∀ i ∈ l, 0 ≤ i ∧ i < y.length) (h : Far b y) (hb : 0 ≤ b) : Far (b + 1) (bumpL y l) := fun k => by
 have := h k
 rw [bumpL_get hn hv k]
 split <;> omega
/-- The document raises the others behind the one who launches, the program ahead of it. -/
theorem launchC_eq (h : DeskOk F p sky d c) {t : Nat} (ht : t < p.teams.length) (l : List Int) (hl : ∀ v, v ∈ l ↔ v ∈ others p sky d t) (hn : l.Nodup) : bumpL (d.s_Credit.set t (d.s_Credit.getD t 0 - p.cost)) l = launchC p sky d t := by
 have hc : d.s_Credit.length = p.teams.length := h.a.o.c
 have hv : ∀ i ∈ l, 0 ≤ i ∧ i < d.s_Credit.length := fun i hi => by have := others_mem ((hl i).1 hi); omega
 have hv2 : ∀ i ∈ others p sky d t, 0 ≤ i ∧ i < d.s_Credit.length := fun i hi => by have := others_mem hi; omega
 have hto : ¬ (t : Int) ∈ others p sky d t := fun hm => (others_mem hm).2.2 rfl
 unfold launchC
 rw [Int.toNat_natCast]
 refine ext_getD (by rw [bumpL_len, List.length_set, List.length_set, bumpL_len]) fun k _ => ?_
 rw [bumpL_get hn (by rw [List.length_set]; exact hv) k, getD_set, getD_set, bumpL_len, bumpL_get (others_nodup _) hv2 t, if_neg hto]
 by_cases hk : t = k
 ·subst hk
  rw [if_pos ⟨rfl, by omega⟩, if_neg (fun hm => hto ((hl _).1 hm)), if_pos ⟨rfl, by omega⟩]
  omega
 ·have hkk : ¬ (t = k ∧ t < d.s_Credit.length) := fun e => hk e.1
  rw [if_neg hkk, if_neg hkk, bumpL_get (others_nodup _) hv2 k]
  by_cases hm : (k : Int) ∈ l
  ·rw [if_pos hm, if_pos ((hl _).1 hm)]
  ·rw [if_neg hm, if_neg (fun e => hm ((hl _).2 e))]
theorem r_copied_eq {s : WiState} (h : StW p s) : r_copied F s = some s := by
 have := h.po.t; have := h.u; have := h.c; have := h.l
 unfold r_copied
 rw [app_nil (by omega), Option.bind_some, app_nil (by omega), Option.bind_some, app_nil (by omega), Option.bind_some]
theorem rightsS_nodup {s : WiState} {m : Int} {done : List Int} : (rightsS p s sky m done).Nodup := by
 have h := rightsS_sorted p s sky m done
 refine h.imp fun {a b} hab e => ?_
 rw [e, (firstS_tot p s).irr] at hab
 cases hab
theorem r_act_eq (h : DeskOk F p sky d c) (hc : c ≤ 18) (x : WiTurn) : r_act F p sky d x = some (actS p sky d x) := by
 have hn := h.n; have hF := h.a.f.h; have hfar := h.far
 have hu : d.s_Used.length = p.teams.length := h.a.o.u
 have hcl : d.s_Credit.length = p.teams.length := h.a.o.c
 have hll : d.s_Last.length = p.teams.length := h.a.o.l
 have h8 := h.a.o.po.t; have hcost := h.a.o.po.c; have hgift := h.a.o.po.g
 have hw := h.a.o.po.win h.a.o.n.1 h.a.n
 have hn1 : 0 ≤ d.s_Next ∧ d.s_Next ≤ p.windows.length := h.a.o.n
 have hn2 : d.s_Next < p.windows.length := h.a.n
 have hm := h.a.m
 have hcp : r_copied F (WiState.mk d.s_Used d.s_Credit d.s_Last d.s_Next) = some (stD d) := r_copied_eq h.a.o
 unfold r_act actS
 rw [r_turn_eq h (by omega), Option.bind_some, winAt_ix hn1.1 hn2, Option.bind_some]
 by_cases ht : turnS p sky d < 0
 ·rw [if_pos ht, if_pos ht]
 rw [if_neg ht, if_neg ht, r_in_eq, Option.bind_some]
 have htl := turnS_lt h
 obtain ⟨t, het⟩ := Int.eq_ofNat_of_zero_le (show 0 ≤ turnS p sky d by omega)
 rw [r_receivers_eq h (by omega), hcp]
 have e1 := r_rights_eq (done := d.done ++ [turnS p sky d]) h.a (by simp; omega)
 have e1' : r_rights F p (WiState.mk d.s_Used d.s_Credit d.s_Last d.s_Next) sky d.minute (d.done ++ [turnS p sky d]) = _ := e1
 rw [app_nil (show d.done.length ≤ 1000 by omega)]
 simp only [Option.bind_some, app_one (show d.done.length < 100000 by omega), e1']
 simp only [r_in_eq, Option.bind_some, stD, has_eq hF (show (recvS p sky d).length < 9223372036854775808 by
   unfold recvS
   split
   ·simp
   split
   ·simp
   ·exact Nat.lt_of_le_of_lt rightsS_len (by omega)) (show (recvS p sky d).length < F by
   unfold recvS
   split
   ·simp; omega
   split
   ·simp; omega
   ·exact Nat.lt_of_le_of_lt rightsS_len (by omega))]
 cases hwh : outP x.what 1 3 with
 | true => rfl
 | false =>
  simp only [Bool.not_false, if_true, Bool.false_eq_true, if_false]
  have hwr := outP_false hwh
  have htk : turnS p sky d = (t : Int) := het
  rw [htk] at e1 e1' ⊢
  rw [Int.toNat_natCast]
  have hct := hfar t
  rw [getD_of _ (show t < d.s_Credit.length by omega)] at hct
  by_cases h3 : x.what = 3
  ·rw [if_pos h3, if_pos h3]
   by_cases hg : 0 ≤ d.given
   ·rw [if_pos hg, if_pos hg]
   rw [if_neg hg, if_neg hg]
   cases hr : hasP (recvS p sky d) x.to_ with
   | false => rfl
   | true =>
    have hto := recvS_mem hr
    obtain ⟨j, hj⟩ := Int.eq_ofNat_of_zero_le hto.1
    rw [htk] at hto
    rw [hj] at hto
    have hcj := hfar j
    rw [getD_of _ (show j < d.s_Credit.length by omega)] at hcj
    simp only [if_true, Bool.true_eq_false, if_false]
    by_cases ha : x.at_ = d.minute
    ·rw [if_pos ha, if_neg (show ¬ x.at_ ≠ d.minute from fun e => e ha), hj, ixO_nat (by omega), Option.bind_some, ixO_nat (by omega), Option.bind_some, setO_nat, Option.bind_some, ixO_nat (by rw [List.length_set]; omega), Option.bind_some, setO_nat, Option.bind_some, W_id (x := d.s_Credit[t] + p.gift), W_id (x := d.s_Credit[j] - p.gift)]
     unfold giveC
     rw [Int.toNat_natCast, Int.toNat_natCast, getD_of _ (show t < d.s_Credit.length by omega), getD_of _ (show j < d.s_Credit.length by omega)]
    ·rw [if_neg ha, if_pos (show x.at_ ≠ d.minute from ha)]
  ·rw [if_neg h3, if_neg h3]
   by_cases h1 : x.what = 1
   ·rw [if_pos h1, if_pos h1, if_pos h1, ixO_nat (show t < p.teams.length by omega), Option.bind_some, getD_of _ (show t < p.teams.length by omega)]
    have hts := h.a.o.po.ts _ (List.getElem_mem (show t < p.teams.length by omega))
    have hsu := hts.s
    by_cases h0 : x.to_ = 0
    ·rw [if_pos h0, W_id (x := d.minute + p.teams[t].setup)]
     cases ho : outP x.at_ (d.minute + p.teams[t].setup) (winAt p d.s_Next).until_ with
     | true => simp [h0]
     | false =>
      have hut := h.us t (by omega)
      rw [getD_of _ (show t < d.s_Used.length by omega)] at hut
      rw [if_neg (show ¬ (x.to_ ≠ 0 ∨ false = true) by simp [h0])]
      simp only [Bool.not_false, if_true]
      rw [ixO_nat (by omega), Option.bind_some, ixO_nat (by omega), Option.bind_some, setO_nat, Option.bind_some, ixO_nat (by omega), Option.bind_some, setO_nat, Option.bind_some, setO_nat, Option.bind_some, W_id (x := d.s_Used[t] + 1), W_id (x := d.s_Credit[t] - p.cost)]
      have hlen : (rightsS p (stD d) sky d.minute (d.done ++ [(t : Int)])).length ≤ 8 := Nat.le_trans rightsS_len (by omega)
      have hmem : ∀ v, v ∈ rightsS p (stD d) sky d.minute (d.done ++ [(t : Int)]) ↔ v ∈ others p sky d t := fun v => sortP_mem
      have eL : ∀ K' : List Int → Option (Desk × Int), r_act_L1 F (rightsS p ⟨d.s_Used, d.s_Credit, d.s_Last, d.s_Next⟩ sky d.minute (d.done ++ [(t : Int)])) (fun y _ => K' y) F (d.s_Credit.set t (d.s_Credit[t] - p.cost)) 0 = _ := fun K' => ract_L1 K' F 0 (d.s_Credit.set t (d.s_Credit[t] - p.cost)) (200000 + 200 * c + 200) (by exact Nat.lt_of_le_of_lt hlen (by omega)) (by omega) hlen (fun i hi => by have := others_mem ((hmem i).1 hi); rw [List.length_set]; omega) ((hfar.mono (by omega)).set (by omega) t) (by omega) (by have h5 : ((rightsS p ⟨d.s_Used, d.s_Credit, d.s_Last, d.s_Next⟩ sky d.minute (d.done ++ [(t : Int)])).length : Int) ≤ 8 := (by exact_mod_cast hlen); omega)
      rw [eL, List.drop_zero]
      have eC := launchC_eq h (t := t) (by omega) _ hmem rightsS_nodup
      rw [getD_of _ (show t < d.s_Credit.length by omega)] at eC
      unfold launchD
      rw [← eC, Int.toNat_natCast, getD_of _ (show t < d.s_Used.length by omega), h.uw]
      by_cases hg : 0 ≤ d.given
      ·rw [if_pos hg, if_pos hg, if_pos h1]; rfl
      ·rw [if_neg hg, if_neg hg, if_pos h1]; rfl
    ·rw [if_neg h0, if_pos (.inl h0)]
   ·rw [if_neg h1, if_neg h1, if_neg h1, if_neg h1]
    by_cases h0 : x.to_ = 0
    ·rw [if_pos h0]
     cases outP x.at_ d.minute (winAt p d.s_Next).until_ <;> simp [h0]
    ·rw [if_neg h0, if_pos (.inl h0)]
end
end Go.Proofs.YtdefnmcjmklohaaGreat
