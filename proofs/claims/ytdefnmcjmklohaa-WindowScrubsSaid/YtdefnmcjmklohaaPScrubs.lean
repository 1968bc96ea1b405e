/- The plain part of the statement about scrubs. -/
import Derived.Test.YtdefnmcjmklohaaP13
open Go Go.Proofs.Ytdefnmcjmklohaa.Sh Go.Proofs
namespace Go.Proofs.Ytdefnmcjmklohaa
set_option linter.unusedVariables false
set_option linter.unusedSimpArgs false
theorem nodup_len : ∀ (n : Nat) {l : List Int}, l.Nodup → (∀ v ∈ l, 0 ≤ v ∧ v < n) → l.length ≤ n
 | 0, l, _, hv => by
  cases l with
  | nil => exact Nat.le_refl _
  | cons a l => have := hv a (by simp); omega
 | n + 1, l, hn, hv => by
  by_cases hm : (n : Int) ∈ l
  ·have h1 := nodup_len n (hn.erase (n : Int)) (fun v h => by
    have h2 := (hn.mem_erase_iff).1 h
    have h3 := hv v h2.2
    omega)
   rw [List.length_erase_of_mem hm] at h1
   omega
  ·have h1 := nodup_len n hn (fun v h => by
    have h3 := hv v h
    have : v ≠ n := fun e => hm (e ▸ h)
    omega)
   omega
section
variable {F : Nat} {p : WiPlan} {s : WiState} {sky : WiSky}
theorem playS_add : ∀ (l m : List WiTurn) (d : Desk), (playS p sky d l).2 = 0 → playS p sky d (l ++ m) = playS p sky (playS p sky d l).1 m
 | [], m, d, _ => rfl
 | x :: l, m, d, h => by
  rw [playS] at h
  rw [List.cons_append, playS, playS]
  by_cases h1 : (actS p sky d x).2 = 0
  ·rw [if_pos h1] at h ⊢
   rw [if_pos h1]
   exact playS_add l m _ h
  ·rw [if_neg h1] at h; exact absurd h h1
/-- The desk behind scrubs. -/
def dS (p : WiPlan) (s : WiState) (x : Int) (D : List Int) : Desk := { deskB p s with minute := x, done := D }
theorem scrub_act {x a : Int} {D : List Int} (ht : ¬ turnS p sky (dS p s x D) < 0) (ha : x ≤ a ∧ a ≤ (winAt p s.next).until_) : actS p sky (dS p s x D) ⟨2, a, 0⟩ = (dS p s a (D ++ [turnS p sky (dS p s x D)]), 0) := by
 have hb : ¬ ((0 : Int) ≠ 0 ∨ outP a (if (2 : Int) = 1 then (dS p s x D).minute + (p.teams.getD (turnS p sky (dS p s x D)).toNat default).setup else (dS p s x D).minute) (winAt p (dS p s x D).s_Next).until_ = true) := by
  rintro (h | h)
  ·exact h rfl
  ·rw [if_neg (by decide)] at h
   have : outP a x (winAt p s.next).until_ = true := h
   simp [outP] at this
   omega
 unfold actS
 dsimp only
 rw [if_neg ht, if_neg (show ¬ outP 2 1 3 = true by decide), if_neg (show ¬ (2 : Int) = 3 by decide), if_neg hb, if_neg (show ¬ (2 : Int) = 1 by decide)]
 rfl
theorem turn_in {x : Int} {D : List Int} (ht : ¬ turnS p sky (dS p s x D) < 0) : turnS p sky (dS p s x D) < p.teams.length ∧ turnS p sky (dS p s x D) ∉ D := by
 obtain ⟨l, hl⟩ := turn_rights ht (show ¬ 0 ≤ (dS p s x D).given by show ¬ (0 : Int) ≤ -1; omega)
 have hm : turnS p sky (dS p s x D) ∈ rightsS p (stD (dS p s x D)) sky (dS p s x D).minute (dS p s x D).done := by rw [hl]; simp
 obtain ⟨k, e, hk, hc⟩ := rightsS_mem.1 hm
 refine ⟨by omega, fun hD => ?_⟩
 rw [e] at hD
 have : hasP (dS p s x D).done (k : Int) = true := hasP_iff.2 hD
 unfold canS at hc
 rw [this] at hc
 cases hc
structure ScrI (p : WiPlan) (s : WiState) (sky : WiSky) (lv : List WiTurn) (x x2 : Int) (D : List Int) : Prop where
 d : playS p sky (deskB p s) lv = (dS p s x D, 0)
 n : lv.length = D.length
 nd : D.Nodup
 v : ∀ v ∈ D, 0 ≤ v ∧ v < p.teams.length
 l : x2 = -1 ∨ x2 ∈ D
 m : (winAt p s.next).from_ ≤ x ∧ x ≤ (winAt p s.next).until_
theorem scrubs_L1 {a : Scrubs} (h : PlanF F p) (hs : SkyF F a.sky_Kinds) (ha : askedE p s ⟨a.sky_Kinds, a.sky_Wind⟩ = 0) (haf : ∀ v ∈ a.after, 0 ≤ v ∧ v ≤ 255) (K : List WiTurn → Int → Int → Int → Option Bool) (hK : ∀ lv x x2 D k, ScrI p s ⟨a.sky_Kinds, a.sky_Wind⟩ lv x x2 D → turnS p ⟨a.sky_Kinds, a.sky_Wind⟩ (dS p s x D) < 0 → K lv x x2 k = some true) : ∀ (n : Nat) (lv : List WiTurn) (x x2 : Int) (D : List Int), ScrI p s ⟨a.sky_Kinds, a.sky_Wind⟩ lv x x2 D → 16 < n + lv.length → l_WindowScrubs_L1 F p s a (winAt p s.next) K n lv x x2 lv.length = some true
 | 0, lv, x, x2, D, hi, hn => by
  have h8 := (askedE_ok ha).1.po.t
  have := nodup_len p.teams.length hi.nd hi.v
  have := hi.n
  omega
 | n + 1, lv, x, x2, D, hi, hn => by
  have h8 := (askedE_ok ha).1.po.t
  have hdl := nodup_len p.teams.length hi.nd hi.v
  have hln := hi.n; have hF := h.h; have hm := hi.m
  obtain ⟨ho, hx⟩ := askedE_ok ha
  have hw := ho.po.win ho.n.1 hx
  have hwu := hw.u
  have hwf := hw.f
  rw [l_WindowScrubs_L1, if_pos (by omega), Turns_eq h hs (by omega), Option.bind_some]
  have hp : playedS p s ⟨a.sky_Kinds, a.sky_Wind⟩ lv = (dS p s x D, 0) := by
   unfold playedS
   rw [if_neg (show ¬ askedE p s ⟨a.sky_Kinds, a.sky_Wind⟩ ≠ 0 from fun e => e ha), if_neg (show ¬ 16 < (lv.length : Int) by omega), hi.d]
  unfold turnsO
  rw [hp, if_pos rfl]
  dsimp only
  have hmin : (dS p s x D).minute = x := rfl
  rw [hmin, if_pos rfl, if_pos rfl]
  by_cases ht : turnS p ⟨a.sky_Kinds, a.sky_Wind⟩ (dS p s x D) < 0
  ·have hk := hK lv x x2 D lv.length hi ht
   have h0 : ¬ 0 ≤ turnS p ⟨a.sky_Kinds, a.sky_Wind⟩ (dS p s x D) := by omega
   simp only [if_neg h0, if_pos ht, hk]
   cases hr : recvO p ⟨a.sky_Kinds, a.sky_Wind⟩ (dS p s x D) with
   | none => simp [optE]
   | some l => simp [optE, (recvO_drop hr).1]
  ·obtain ⟨t1, t2⟩ := turn_in ht
   have hne : ¬ turnS p ⟨a.sky_Kinds, a.sky_Wind⟩ (dS p s x D) = x2 := by
    rcases hi.l with h1 | h1
    ·omega
    ·exact fun e => t2 (e ▸ h1)
   have next : ∀ at_ : Int, x ≤ at_ ∧ at_ ≤ (winAt p s.next).until_ → l_WindowScrubs_L1 F p s a (winAt p s.next) K n (lv ++ [⟨2, at_, 0⟩]) at_ (turnS p ⟨a.sky_Kinds, a.sky_Wind⟩ (dS p s x D)) ((lv.length + 1 : Nat) : Int) = some true := fun at_ hat => by
    have e0 := scrub_act (s := s) ht hat
    have hi' : ScrI p s ⟨a.sky_Kinds, a.sky_Wind⟩ (lv ++ [⟨2, at_, 0⟩]) at_ (turnS p ⟨a.sky_Kinds, a.sky_Wind⟩ (dS p s x D)) (D ++ [turnS p ⟨a.sky_Kinds, a.sky_Wind⟩ (dS p s x D)]) := by
     refine ⟨?_, by simp [hln], ?_, fun v hv => ?_, .inr (by simp), by omega⟩
     ·rw [playS_add lv [⟨2, at_, 0⟩] _ (by rw [hi.d]), hi.d]
      show playS p _ (dS p s x D) [⟨2, at_, 0⟩] = _
      rw [playS, e0, if_pos rfl]
      rfl
     ·rw [List.nodup_append]
      refine ⟨hi.nd, by simp, fun u hu v hv e => ?_⟩
      simp only [List.mem_singleton] at hv
      exact t2 (hv ▸ e ▸ hu)
     ·rcases List.mem_append.1 hv with h1 | h1
      ·exact hi.v v h1
      ·simp only [List.mem_singleton] at h1
       rw [h1]; omega
    have := scrubs_L1 h hs ha haf K hK n (lv ++ [⟨2, at_, 0⟩]) at_ _ _ hi' (by simp; omega)
    rw [List.length_append] at this
    exact this
   have step : (if (lv.length : Int) < (a.after.length : Int) then (Option.bind (ixO a.after lv.length) fun e2 => Option.bind (l_scrub F (min (winAt p s.next).until_ (W (x + (Int.tmod (W e2) 60))))) fun rv10 => Option.bind (appO lv [rv10]) fun q => l_WindowScrubs_L1 F p s a (winAt p s.next) K n q (min (winAt p s.next).until_ (W (x + (Int.tmod (W e2) 60)))) (turnS p ⟨a.sky_Kinds, a.sky_Wind⟩ (dS p s x D)) (W ((lv.length : Int) + 1))) else (Option.bind (l_scrub F x) fun rv11 => Option.bind (appO lv [rv11]) fun q2 => l_WindowScrubs_L1 F p s a (winAt p s.next) K n q2 x (turnS p ⟨a.sky_Kinds, a.sky_Wind⟩ (dS p s x D)) (W ((lv.length : Int) + 1)))) = some true := by
    rw [W_succ (by omega)]
    have hsc : ∀ y, l_scrub F y = some ⟨2, y, 0⟩ := fun y => rfl
    by_cases hl : lv.length < a.after.length
    ·have he := haf _ (List.getElem_mem hl)
     rw [if_pos (by omega), ixO_nat hl, Option.bind_some, hsc, Option.bind_some, app_one (by omega), Option.bind_some, W_id (x := a.after[lv.length])]
     have hmod : 0 ≤ Int.tmod a.after[lv.length] 60 ∧ Int.tmod a.after[lv.length] 60 < 60 := by
      rw [Int.tmod_eq_emod_of_nonneg he.1]
      omega
     rw [W_id (x := x + Int.tmod a.after[lv.length] 60)]
     exact next _ (by omega)
    ·rw [if_neg (by omega), hsc, Option.bind_some, app_one (by omega), Option.bind_some]
     exact next x (by omega)
   simp only [if_neg hne, if_neg ht, step]
   cases hr : recvO p ⟨a.sky_Kinds, a.sky_Wind⟩ (dS p s x D) with
   | none => simp [optE]
   | some l => simp [optE, (recvO_drop hr).1]
theorem scrubs_any {a : Scrubs} (h : PlanF F p) (hs : SkyF F a.sky_Kinds) (haf : ∀ v ∈ a.after, 0 ≤ v ∧ v ≤ 255) (hA : l_Awake 100 = some true) : l_WindowScrubs F p s a = some true := by
 have hF := h.h
 unfold l_WindowScrubs
 rw [window_CheckState_eq h, Option.bind_some, hA]
 by_cases h0 : stateE p s = 0
 ·rw [if_pos h0]
  have ho := stateE_ok h0
  have hn := ho.n
  rw [if_neg (show ¬ s.next < 0 by omega)]
  by_cases h1 : (p.windows.length : Int) ≤ s.next
  ·rw [if_pos h1]; rfl
  rw [if_neg h1, winAt_ix hn.1 (by omega), Option.bind_some]
  by_cases ha : askedE p s ⟨a.sky_Kinds, a.sky_Wind⟩ = 0
  ·have hw := ho.po.win hn.1 (by omega)
   have hwf := hw.f
   refine scrubs_L1 h hs ha haf _ (fun lv x x2 D k hi ht => ?_) F [] (winAt p s.next).from_ (-1) [] ⟨rfl, rfl, by simp, by simp, .inl rfl, by omega⟩ (by simp; omega)
   have hdl := nodup_len p.teams.length hi.nd hi.v
   have hln := hi.n
   have h8 := ho.po.t
   have hpl : playR p s ⟨a.sky_Kinds, a.sky_Wind, lv⟩ = (⟨s.used, s.credit, s.last, s.next + 1⟩, ⟨s.next, -1, 0, -1⟩, 0) := by
    unfold playR
    have hp : playedS p s ⟨a.sky_Kinds, a.sky_Wind⟩ lv = (dS p s x D, 0) := by
     unfold playedS
     rw [if_neg (show ¬ askedE p s ⟨a.sky_Kinds, a.sky_Wind⟩ ≠ 0 from fun e => e ha), if_neg (show ¬ 16 < (lv.length : Int) by omega), hi.d]
    dsimp only
    rw [hp, if_pos rfl, if_neg (show ¬ 0 ≤ turnS p ⟨a.sky_Kinds, a.sky_Wind⟩ (dS p s x D) by omega)]
    rfl
   have hst : StateF F ⟨s.used, s.credit, s.last, s.next + 1⟩ := by
    have hu := ho.u; have hc := ho.c; have hll := ho.l; have ht' := h.t; have hb := h.b
    exact ⟨by dsimp only; omega, by dsimp only; omega, by dsimp only; omega, by dsimp only; omega⟩
   have hw60 := ho.po.w
   rw [Play_eq h ⟨hs, by show lv.length < F; omega⟩, Option.bind_some, hpl, if_pos rfl, W_id (x := s.next + 1)]
   have hb : WiUse.beq (⟨s.next, -1, 0, -1⟩ : WiUse) ⟨s.next, -1, 0, -1⟩ = true := beq_use _
   dsimp only
   rw [hb, if_neg (by simp), same_self hst, Option.bind_some, if_pos rfl, if_pos (by omega)]
   rfl
  ·obtain ⟨m, hm⟩ : ∃ m, F = m + 1 := ⟨F - 1, by omega⟩
   have e1 : ∀ K n, l_WindowScrubs_L1 F p s a (winAt p s.next) K (n + 1) [] (winAt p s.next).from_ (-1) 0 = some true := fun K n => by
    rw [l_WindowScrubs_L1, if_pos (by omega), Turns_eq h hs (by simp; omega), Option.bind_some]
    have hp : (playedS p s ⟨a.sky_Kinds, a.sky_Wind⟩ []).2 = askedE p s ⟨a.sky_Kinds, a.sky_Wind⟩ := by
     unfold playedS
     rw [if_pos ha]
    unfold turnsO
    rw [hp, if_neg ha]
    simp only [optE, if_neg ha, if_pos, hA]
    rfl
   have e2 := fun K => e1 K m
   rw [← hm] at e2
   exact e2 _
 ·rw [if_neg h0]; rfl
end
end Go.Proofs.Ytdefnmcjmklohaa
