/- The plain part of the statement about the order of those who have a right. -/
import Derived.Test.YtdefnmcjmklohaaP7
open Go Go.Proofs.Ytdefnmcjmklohaa.Sh Go.Proofs
namespace Go.Proofs.Ytdefnmcjmklohaa
set_option linter.unusedVariables false
set_option linter.unusedSimpArgs false
/-! ### Places in sorted lists -/
theorem idx_count {lt : Int → Int → Bool} (ht : Tot lt) {T : Int} : ∀ {l : List Int} {k : Nat}, l.Pairwise (fun y z => lt y z = true) → T ∈ l → idxP l T k = ((k + l.countP (fun y => lt y T) : Nat) : Int)
 | [], k, _, h => by cases h
 | x :: l, k, hs, h => by
  rw [List.pairwise_cons] at hs
  rw [idxP, List.countP_cons]
  by_cases hx : x = T
  ·subst hx
   have h0 : l.countP (fun y => lt y x) = 0 := by
    rw [List.countP_eq_zero]
    intro y hy
    have := ht.asym _ _ (hs.1 y hy)
    simp [this]
   rw [if_pos rfl, h0, ht.irr]
   simp
  ·have hm : T ∈ l := by simpa [Ne.symm hx] using h
   rw [if_neg hx, idx_count ht hs.2 hm, hs.1 T hm]
   simp
   omega
theorem idx_none {T : Int} : ∀ {l : List Int} {k : Nat}, ¬ T ∈ l → idxP l T k = -1
 | [], k, _ => rfl
 | x :: l, k, h => by
  simp only [List.mem_cons, not_or] at h
  rw [idxP, if_neg (fun e => h.1 e.symm), idx_none h.2]
/-! ### A plan in which a team has a greater priority -/
def upT (e : WiTeam) : WiTeam := { e with priority := min 9 (e.priority + 1) }
def upP (p : WiPlan) (t : Nat) : WiPlan := { p with teams := p.teams.set t (upT (p.teams.getD t default)) }
section
variable {F : Nat} {p : WiPlan} {s : WiState} {sky : WiSky} {t : Nat}
theorem upP_get (ht : t < p.teams.length) {k : Nat} (hk : k < p.teams.length) : (upP p t).teams[k]'(by unfold upP; rw [List.length_set]; exact hk) = if t = k then upT p.teams[k] else p.teams[k] := by
 unfold upP
 rw [List.getElem_set]
 by_cases h : t = k
 ·subst h; rw [if_pos rfl, if_pos rfl, getD_of _ ht]
 ·rw [if_neg h, if_neg h]
theorem upP_len : (upP p t).teams.length = p.teams.length := by unfold upP; rw [List.length_set]
theorem upP_F (h : PlanF F p) (ht : t < p.teams.length) : PlanF F (upP p t) := by
 refine ⟨⟨by rw [upP_len]; exact h.b.1, h.b.2⟩, by rw [upP_len]; exact h.t, h.w, fun e he => ?_, h.h⟩
 obtain ⟨k, hk, rfl⟩ := List.getElem_of_mem he
 rw [upP_len] at hk
 rw [upP_get ht hk]
 have := h.at hk
 split
 ·exact ⟨this.n, this.k, this.a⟩
 ·exact this
theorem same_names (ht : t < p.teams.length) (k : Nat) (e : WiTeam) : ((upP p t).teams.take k).any (fun u => sameN u e) = (p.teams.take k).any (fun u => sameN u e) := by
 have hm : (upP p t).teams.map (·.name) = p.teams.map (·.name) := by
  refine List.ext_getElem (by simp [upP_len]) fun i h1 h2 => ?_
  rw [List.length_map] at h2
  rw [List.getElem_map, List.getElem_map, upP_get ht h2]
  split <;> rfl
 have : ∀ l : List WiTeam, (l.take k).any (fun u => sameN u e) = ((l.map (·.name)).take k).any (fun n => decide (n.toList = e.name.toList)) := fun l => by
  rw [← List.map_take, List.any_map]
  rfl
 rw [this, this, hm]
theorem teamsE_none {all : List WiTeam} : ∀ {l : List WiTeam} {k : Nat}, teamsE all k l = none ↔ ∀ (j : Nat) (h : j < l.length), teamE all (k + j) l[j] = 0
 | [], k => by simp [teamsE]
 | x :: l, k => by
  rw [teamsE]
  constructor
  ·intro h j hj
   split at h
   ·rename_i h1
    cases j with
    | zero => exact h1
    | succ j =>
     have := teamsE_none.1 h j (by simpa using hj)
     rw [show k + (j + 1) = k + 1 + j by omega]
     exact this
   ·cases h
  ·intro h
   rw [if_pos (show teamE all k x = 0 from h 0 (by simp))]
   refine teamsE_none.2 fun j hj => ?_
   have := h (j + 1) (by simpa using hj)
   rw [show k + 1 + j = k + (j + 1) by omega]
   exact this
theorem teamE_up {all all' : List WiTeam} {k : Nat} {e : WiTeam} (hs : (all'.take k).any (fun u => sameN u e) = (all.take k).any (fun u => sameN u e)) (h : teamE all k e = 0) : teamE all' k e = 0 ∧ teamE all' k (upT e) = 0 := by
 have hok := (teamE_ok h).p
 have hp : outP (min 9 (e.priority + 1)) 1 9 = false := by simp [outP]; omega
 have hp0 : outP e.priority 1 9 = false := by simp [outP]; omega
 have h1 : teamE all' k e = 0 := by unfold teamE at h ⊢; rw [hs]; exact h
 refine ⟨h1, ?_⟩
 have hs2 : (all'.take k).any (fun u => sameN u (upT e)) = (all'.take k).any (fun u => sameN u e) := rfl
 unfold teamE at h1 ⊢
 rw [hs2]
 unfold upT
 dsimp only
 rw [hp]
 rw [hp0] at h1
 exact h1
theorem checkP_up (ht : t < p.teams.length) (h : (checkP p).2.2 = 0) : (checkP (upP p t)).2.2 = 0 := by
 unfold checkP at h ⊢
 rw [upP_len]
 split at h
 ·cases h
 rename_i h1
 rw [if_neg h1]
 split at h
 ·cases h
 rename_i h2
 have h2' : ¬ (outP (upP p t).cost 0 100 || outP (upP p t).gift 0 100) = true := h2
 rw [if_neg h2']
 split at h
 ·rename_i h3; exact absurd h (teamsE_err h3)
 rename_i h3
 have h4 : teamsE (upP p t).teams 0 (upP p t).teams = none := by
  rw [teamsE_none] at h3 ⊢
  intro j hj
  rw [upP_len] at hj
  have h5 := h3 j hj
  have := teamE_up (same_names ht (0 + j) p.teams[j]) h5
  rw [upP_get ht hj]
  split
  ·exact this.2
  ·exact this.1
 rw [h4]
 exact h
theorem askedE_up (ht : t < p.teams.length) (h : askedE p s sky = 0) : askedE (upP p t) s sky = 0 := by
 have hs : stateE p s = 0 := by
  unfold askedE at h
  by_cases hx : stateE p s ≠ 0
  ·rw [if_pos hx] at h; exact h
  ·omega
 have hc : (checkP p).2.2 = 0 := by
  unfold stateE at hs
  by_cases hx : (checkP p).2.2 ≠ 0
  ·rw [if_pos hx] at hs; exact hs
  ·omega
 have hs' : stateE (upP p t) s = 0 := by
  unfold stateE at hs ⊢
  rw [if_neg (show ¬ (checkP p).2.2 ≠ 0 from fun e => e hc)] at hs
  rw [if_neg (show ¬ (checkP (upP p t)).2.2 ≠ 0 from fun e => e (checkP_up ht hc)), upP_len]
  exact hs
 unfold askedE at h ⊢
 rw [if_neg (show ¬ stateE p s ≠ 0 from fun e => e hs)] at h
 rw [if_neg (show ¬ stateE (upP p t) s ≠ 0 from fun e => e hs')]
 exact h
theorem whyS_up (ht : t < p.teams.length) (m : Int) {k : Nat} (hk : k < p.teams.length) : whyS (upP p t) s sky m k = whyS p s sky m k := by
 unfold whyS
 rw [getD_of _ (show k < (upP p t).teams.length by rw [upP_len]; exact hk), getD_of _ hk, upP_get ht hk]
 split <;> rfl
theorem first_up (ht : t < p.teams.length) {y : Nat} (hy : y < p.teams.length) (hyt : y ≠ t) (hp : 1 ≤ p.teams[t].priority ∧ p.teams[t].priority ≤ 9) (h : firstS (upP p t) s y t = true) : firstS p s y t = true := by
 unfold firstS firstL at h ⊢
 simp only [Int.toNat_natCast] at h ⊢
 rw [getD_of _ (show y < (upP p t).teams.length by rw [upP_len]; exact hy), getD_of _ (show t < (upP p t).teams.length by rw [upP_len]; exact ht), upP_get ht hy, upP_get ht ht, if_neg (fun e => hyt e.symm), if_pos rfl] at h
 rw [getD_of _ hy, getD_of _ ht]
 rw [firstV_iff] at h ⊢
 have : (upT p.teams[t]).priority = min 9 (p.teams[t].priority + 1) := rfl
 rw [this] at h
 omega
theorem rights_up (ht : t < p.teams.length) (hp : 1 ≤ p.teams[t].priority ∧ p.teams[t].priority ≤ 9) (m : Int) : (rightsS (upP p t) s sky m []).length = (rightsS p s sky m []).length ∧ idxP (rightsS (upP p t) s sky m []) t 0 ≤ idxP (rightsS p s sky m []) t 0 ∧ ((t : Int) ∈ rightsS (upP p t) s sky m [] ↔ (t : Int) ∈ rightsS p s sky m []) := by
 have e : pickFrom (canS (upP p t) s sky m []) (upP p t).teams.length 0 = pickFrom (canS p s sky m []) p.teams.length 0 := by
  rw [upP_len]
  refine pick_congr fun j _ hj => ?_
  unfold canS
  rw [whyS_up ht m (by omega)]
 have hmem : (t : Int) ∈ rightsS (upP p t) s sky m [] ↔ (t : Int) ∈ rightsS p s sky m [] := by
  unfold rightsS
  rw [sortP_mem, sortP_mem, e]
 refine ⟨by unfold rightsS; rw [sortP_len, sortP_len, e], ?_, hmem⟩
 by_cases hT : (t : Int) ∈ rightsS p s sky m []
 ·rw [idx_count (firstS_tot _ _) (rightsS_sorted _ _ _ _ _) (hmem.2 hT), idx_count (firstS_tot _ _) (rightsS_sorted _ _ _ _ _) hT]
  unfold rightsS
  rw [sortP_count, sortP_count, e]
  have := List.countP_mono_left (l := pickFrom (canS p s sky m []) p.teams.length 0) (p := fun y => firstS (upP p t) s y t) (q := fun y => firstS p s y t) fun y hy hf => by
   obtain ⟨j, rfl, _, hj, _⟩ := pick_mem.1 hy
   by_cases hjt : j = t
   ·subst hjt; rw [(firstS_tot _ _).irr] at hf; cases hf
   ·exact first_up ht (by omega) hjt hp hf
  omega
 ·rw [idx_none hT, idx_none (fun hh => hT (hmem.1 hh))]
  omega
theorem first_L1 {o : Moment} {l : List Int × Int} (c : Option Bool) (hl : l.1.length ≤ 8) (hv : ∀ v ∈ l.1, 0 ≤ v ∧ v < p.teams.length) (hc : o.state_Credit.length = p.teams.length) (us la : List Int)
  (hs : l.1.Pairwise (fun y z => firstL p.teams us o.state_Credit la y z = true)) : ∀ (n k : Nat), l.1.length < n + k → k ≤ l.1.length → l_WindowFirst_L1 F p o l (fun _ => c) n k = c
 | 0, k, h1, h2 => absurd h1 (by omega)
 | n + 1, k, h1, h2 => by
  rw [l_WindowFirst_L1]
  by_cases hk : k < l.1.length
  ·have h3 := hv _ (List.getElem_mem hk)
   have ih := first_L1 c hl hv hc us la hs n (k + 1) (by omega) (by omega)
   rw [if_pos (by omega), ixO_nat hk, Option.bind_some, if_neg (by omega), if_neg (by omega), W_succ (by omega), ih]
   by_cases h0 : (k : Int) = 0
   ·rw [if_pos h0]
   ·have h4 := hv _ (List.getElem_mem (show k - 1 < l.1.length by omega))
    have hlt := List.pairwise_iff_getElem.1 hs (k - 1) k (by omega) hk (by omega)
    obtain ⟨a, ea⟩ := Int.eq_ofNat_of_zero_le h4.1
    obtain ⟨b, eb⟩ := Int.eq_ofNat_of_zero_le h3.1
    rw [if_neg h0, W_pred (by omega) (by omega), ixO_nat (by omega), Option.bind_some]
    rw [ea, eb] at hlt
    rw [ea] at h4 ⊢
    rw [eb] at h3 ⊢
    unfold firstL at hlt
    simp only [Int.toNat_natCast] at hlt
    rw [getD_of _ (show a < p.teams.length by omega), getD_of _ (show b < p.teams.length by omega), getD_of _ (show a < o.state_Credit.length by omega), getD_of _ (show b < o.state_Credit.length by omega), firstV_iff] at hlt
    rw [ixO_nat (show a < p.teams.length by omega), Option.bind_some, ixO_nat (show b < p.teams.length by omega), Option.bind_some, ixO_nat (show a < o.state_Credit.length by omega), Option.bind_some, ixO_nat (show b < o.state_Credit.length by omega), Option.bind_some, if_neg (by omega)]
    by_cases h5 : p.teams[a].priority = p.teams[b].priority
    ·rw [if_pos h5, if_neg (by omega)]
    ·rw [if_neg h5]
  ·rw [if_neg (by omega)]
theorem first_any {o : Moment} (h : PlanF F p) (hs : SkyF F o.sky_Kinds) (hA : l_Awake 100 = some true) : l_WindowFirst F p o = some true := by
 have hF := h.h; have hb := h.b
 unfold l_WindowFirst
 rw [Rights_eq h hs, Option.bind_some, hA]
 generalize hst : WiState.mk o.state_Used o.state_Credit o.state_Last o.state_Next = s
 generalize hsk : WiSky.mk o.sky_Kinds o.sky_Wind = sky
 have hs' : SkyF F sky.kinds := by rw [← hsk]; exact hs
 by_cases h0 : (rightsR p s sky o.minute).2 = 0
 ·rw [if_pos h0]
  have h0' := h0
  unfold rightsR at h0
  by_cases c1 : askedE p s sky ≠ 0
  ·rw [if_pos c1] at h0; exact absurd h0 c1
  rw [if_neg c1] at h0
  have a0 : askedE p s sky = 0 := by omega
  cases c2 : outP o.minute (winAt p s.next).from_ (winAt p s.next).until_ with
  | true => rw [c2] at h0; cases h0
  | false =>
   have e0 : rightsR p s sky o.minute = (rightsS p s sky o.minute [], 0) := by unfold rightsR; rw [if_neg c1, c2]; rfl
   obtain ⟨ho, hx⟩ := askedE_ok a0
   have hcl : o.state_Credit.length = p.teams.length := by have := ho.c; rw [← hst] at this; exact this
   have h8 := ho.po.t
   have hlen : (rightsS p s sky o.minute []).length ≤ p.teams.length := rightsS_len
   have hval : ∀ v ∈ rightsS p s sky o.minute [], 0 ≤ v ∧ v < p.teams.length := fun v hv => by
    obtain ⟨k, rfl, hk, _⟩ := rightsS_mem.1 hv
    omega
   have hsort := rightsS_sorted p s sky o.minute []
   have hsort' : (rightsS p s sky o.minute []).Pairwise (fun y z => firstL p.teams s.used o.state_Credit s.last y z = true) := by
    have : o.state_Credit = s.credit := by rw [← hst]
    rw [this]; exact hsort
   rw [if_neg (show ¬ (o.state_Credit.length : Int) < p.teams.length by omega), e0]
   have eL : ∀ c, l_WindowFirst_L1 F p o (rightsS p s sky o.minute [], 0) (fun _ => c) F 0 = c := fun c => first_L1 c (by show (rightsS p s sky o.minute []).length ≤ 8; omega) hval hcl s.used s.last hsort' F 0 (by show (rightsS p s sky o.minute []).length < F + 0; omega) (by omega)
   rw [eL]
   by_cases ht0 : o.team < 0
   ·rw [if_pos ht0]; rfl
   rw [if_neg ht0]
   by_cases ht1 : (p.teams.length : Int) ≤ o.team
   ·rw [if_pos ht1]; rfl
   rw [if_neg ht1]
   obtain ⟨t, et⟩ := Int.eq_ofNat_of_zero_le (show 0 ≤ o.team by omega)
   rw [et] at ht1 ⊢
   have ht : t < p.teams.length := by omega
   have hpr := (ho.po.ts _ (List.getElem_mem ht)).p
   have eapp : appO ([] : List WiTeam) p.teams = some p.teams := by
    unfold appO
    rw [if_pos (by simp; omega)]
    rfl
   have eset : setO p.teams (t : Int) { p.teams[t] with priority := min 9 (W (p.teams[t].priority + 1)) } = some (upP p t).teams := by
    unfold setO upP upT
    rw [Int.toNat_natCast, getD_of _ ht, W_id (x := p.teams[t].priority + 1)]
   rw [eapp, Option.bind_some, ixO_nat ht, Option.bind_some, Option.bind_some, eset, Option.bind_some]
   have hpF := upP_F h ht
   have e6 : window_Rights F { p with teams := (upP p t).teams } s sky o.minute = some (rightsR (upP p t) s sky o.minute) := Rights_eq (p := upP p t) hpF hs'
   have e7 : rightsR (upP p t) s sky o.minute = (rightsS (upP p t) s sky o.minute [], 0) := by
    unfold rightsR
    rw [if_neg (show ¬ askedE (upP p t) s sky ≠ 0 from fun e => e (askedE_up ht a0)), show winAt (upP p t) s.next = winAt p s.next from rfl, c2]
    rfl
   obtain ⟨u1, u2, u3⟩ := rights_up (s := s) (sky := sky) ht hpr o.minute
   have hlen' : (rightsS (upP p t) s sky o.minute []).length ≤ p.teams.length := by rw [u1]; exact hlen
   have hl1 : ∀ v, l_listed F (rightsS (upP p t) s sky o.minute []) v = _ := fun v => listed_eq (by omega) (by omega)
   have hl2 : ∀ v, l_listed F (rightsS p s sky o.minute []) v = _ := fun v => listed_eq (by omega) (by omega)
   rw [e6, e7, Option.bind_some, if_pos rfl, if_pos (by rw [u1]), hl1, Option.bind_some, hl2, Option.bind_some, if_pos u2, Option.bind_some, Option.bind_some]
   have h1 : decide (idxP (rightsS (upP p t) s sky o.minute []) t 0 < 0) = decide (idxP (rightsS p s sky o.minute []) t 0 < 0) := by
    by_cases hT : (t : Int) ∈ rightsS p s sky o.minute []
    ·rw [idx_count (firstS_tot _ _) (rightsS_sorted _ _ _ _ _) (u3.2 hT), idx_count (firstS_tot _ _) hsort hT]
     have : ∀ n : Nat, decide ((n : Int) < 0) = false := fun n => by simp
     rw [this, this]
    ·rw [idx_none hT, idx_none (fun hh => hT (u3.1 hh))]
   rw [h1]
   simp
 ·rw [if_neg h0, if_neg h0]
  rfl
end
end Go.Proofs.Ytdefnmcjmklohaa
