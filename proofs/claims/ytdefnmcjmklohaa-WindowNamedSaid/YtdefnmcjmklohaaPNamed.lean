/- The plain part of the statement about who uses a window. -/
import Derived.Test.YtdefnmcjmklohaaP16
open Go Go.Proofs.Ytdefnmcjmklohaa.Sh Go.Proofs
namespace Go.Proofs.Ytdefnmcjmklohaa
set_option linter.unusedVariables false
set_option linter.unusedSimpArgs false
section
variable {F : Nat} {p : WiPlan} {s : WiState} {n : WiNight}
theorem listed_neg {l : List Int} {v : Int} (hl : l.length < 9223372036854775808) (hF : l.length < F) : ∃ x, l_listed F l v = some x ∧ (x < 0 ↔ hasP l v = false) := by
 obtain ⟨x, e1, e2⟩ := listed_has (F := F) (l := l) (v := v) hl hF
 refine ⟨x, e1, ?_⟩
 rw [← e2]
 simp
theorem named_L5 {lv : List Int} {x : Int} {rv4 : Int × Int × Option (List Int) × Int} {rv5 : List Int × Int} (hF : 20 < F) (h8 : rv5.1.length ≤ 8) (hlv : lv.length ≤ 20) (h : x < 0 → ∀ v ∈ rv5.1, leftF lv rv4.1 v = false) (K' : Int → Option Bool) : ∀ (m k c : Nat), rv5.1.length < m + k → k ≤ rv5.1.length → c ≤ k → l_WindowNamed_L5 F lv x rv4 rv5 (fun a _ => K' a) m c k = K' ((c + (rv5.1.drop k).countP (leftF lv rv4.1) : Nat) : Int)
 | 0, k, c, h1, h2, _ => absurd h1 (by omega)
 | m + 1, k, c, h1, h2, h3 => by
  rw [l_WindowNamed_L5]
  by_cases hk : k < rv5.1.length
  ·obtain ⟨a, a1, a2⟩ := listed_neg (F := F) (l := lv) (v := rv5.1[k]) (by omega) (by omega)
   obtain ⟨b, b1, b2⟩ := listed_neg (F := F) (l := ([] : List Int)) (v := rv5.1[k]) (by simp) (by simp; omega)
   have hb : b < 0 := b2.2 (by simp [hasP])
   have ih1 := named_L5 hF h8 hlv h K' m (k + 1) c (by omega) (by omega) (by omega)
   have ih2 := named_L5 hF h8 hlv h K' m (k + 1) (c + 1) (by omega) (by omega) (by omega)
   rw [if_pos (by omega), ixO_nat hk, Option.bind_some, List.drop_eq_getElem_cons hk, List.countP_cons, a1, Option.bind_some, b1, Option.bind_some, W_succ (by omega), W_succ (by omega), ih1, ih2]
   by_cases he : rv5.1[k] = rv4.1
   ·rw [if_pos he]; simp [leftF, he]
   ·rw [if_neg he]
    by_cases ha : a < 0
    ·have hl : leftF lv rv4.1 rv5.1[k] = true := by simp [leftF, he, a2.1 ha]
     have hx : ¬ x < 0 := fun hx => by have := h hx _ (List.getElem_mem hk); rw [hl] at this; cases this
     rw [if_pos ha, if_neg hx, if_pos hl]
     congr 2
     omega
    ·have hl : leftF lv rv4.1 rv5.1[k] = false := by
      have : ¬ hasP lv rv5.1[k] = false := fun e => ha (a2.2 e)
      simp [leftF, he, show hasP lv rv5.1[k] = true by simpa using this]
     rw [if_neg ha, hl]
     simp
  ·rw [if_neg (by omega), List.drop_of_length_le (by omega)]
   rfl
theorem named_L6 {lv t2 : List Int} {x : Int} {rv4 : Int × Int × Option (List Int) × Int} {rv5 : List Int × Int} (hF : 20 < F) (h8 : rv5.1.length ≤ 8) (hlv : lv.length ≤ 20) (ht2 : (t2.drop 1).length ≤ 20) (h : x < 0 → ∀ v ∈ rv5.1, leftF lv rv4.1 v = true → hasP (t2.drop 1) v = true) (K' : Int → Option Bool) : ∀ (m k c : Nat), rv5.1.length < m + k → k ≤ rv5.1.length → c ≤ k → l_WindowNamed_L6 F lv x rv4 t2 rv5 (fun a _ => K' a) m c k = K' ((c + (rv5.1.drop k).countP (leftF lv rv4.1) : Nat) : Int)
 | 0, k, c, h1, h2, _ => absurd h1 (by omega)
 | m + 1, k, c, h1, h2, h3 => by
  rw [l_WindowNamed_L6]
  by_cases hk : k < rv5.1.length
  ·obtain ⟨a, a1, a2⟩ := listed_neg (F := F) (l := lv) (v := rv5.1[k]) (by omega) (by omega)
   obtain ⟨b, b1, b2⟩ := listed_neg (F := F) (l := t2.drop 1) (v := rv5.1[k]) (by omega) (by omega)
   have ih1 := named_L6 hF h8 hlv ht2 h K' m (k + 1) c (by omega) (by omega) (by omega)
   have ih2 := named_L6 hF h8 hlv ht2 h K' m (k + 1) (c + 1) (by omega) (by omega) (by omega)
   rw [if_pos (by omega), ixO_nat hk, Option.bind_some, List.drop_eq_getElem_cons hk, List.countP_cons, a1, Option.bind_some, b1, Option.bind_some, W_succ (by omega), W_succ (by omega), ih1, ih2]
   by_cases he : rv5.1[k] = rv4.1
   ·rw [if_pos he]; simp [leftF, he]
   ·rw [if_neg he]
    by_cases ha : a < 0
    ·have hl : leftF lv rv4.1 rv5.1[k] = true := by simp [leftF, he, a2.1 ha]
     have hcc : c + 1 + List.countP (leftF lv rv4.1) (List.drop (k + 1) rv5.1) = c + (List.countP (leftF lv rv4.1) (List.drop (k + 1) rv5.1) + 1) := by omega
     rw [if_pos ha, if_pos hl, hcc]
     by_cases hx : x < 0
     ·have hh := h hx _ (List.getElem_mem hk) hl
      have hb : ¬ b < 0 := fun e => by have := b2.1 e; rw [hh] at this; cases this
      rw [if_pos hx, if_neg hb]
     ·rw [if_neg hx]
    ·have hl : leftF lv rv4.1 rv5.1[k] = false := by
      have : ¬ hasP lv rv5.1[k] = false := fun e => ha (a2.2 e)
      simp [leftF, he, show hasP lv rv5.1[k] = true by simpa using this]
     rw [if_neg ha, hl]
     simp
  ·rw [if_neg (by omega), List.drop_of_length_le (by omega)]
   rfl
/-- What the law asks of a turn that is a launch. -/
structure LaunchL (F : Nat) (p : WiPlan) (s : WiState) (r : WiState × WiUse × Int) (len k : Nat) (t g a : Int) (c : Nat) : Prop where
 fk : (k : Int) = W ((len : Int) - 1)
 ft : r.2.1.team = t
 fa : r.2.1.at_ = a
 fb : (decide (0 ≤ r.2.1.by_) != decide (0 ≤ g)) = false
 fs : ∃ u v, l_sum F r.1.credit = some u ∧ l_sum F s.credit = some v ∧ u = W (W (v - p.cost) + (c : Int))
 fl : ¬ (r.1.used.length : Int) ≤ t ∧ ¬ (s.used.length : Int) ≤ t
 fu : ∃ e f, ixO r.1.used t = some e ∧ ixO s.used t = some f ∧ e = W (f + 1)
theorem named_L7 (h : PlanF F p) (hn : NightF F n) (ha : askedE p s ⟨n.sky_Kinds, n.sky_Wind⟩ = 0) (h16 : n.turns.length ≤ 16) (h0 : (playS p ⟨n.sky_Kinds, n.sky_Wind⟩ (deskB p s) n.turns).2 = 0) (r : WiState × WiUse × Int) (c : Option Bool)
  (hL : ∀ (k : Nat) (hk : k < n.turns.length), n.turns[k].what = 1 → LaunchL F p s r n.turns.length k (turnS p ⟨n.sky_Kinds, n.sky_Wind⟩ (deskAt p ⟨n.sky_Kinds, n.sky_Wind⟩ (deskB p s) n.turns k)) (deskAt p ⟨n.sky_Kinds, n.sky_Wind⟩ (deskB p s) n.turns k).given n.turns[k].at_ (others p ⟨n.sky_Kinds, n.sky_Wind⟩ (deskAt p ⟨n.sky_Kinds, n.sky_Wind⟩ (deskB p s) n.turns k) (turnS p ⟨n.sky_Kinds, n.sky_Wind⟩ (deskAt p ⟨n.sky_Kinds, n.sky_Wind⟩ (deskB p s) n.turns k))).length) : ∀ (m k : Nat), n.turns.length < m + k → k ≤ n.turns.length →
  l_WindowNamed_L7 F p s n r (fun _ _ _ => c) m (deskAt p ⟨n.sky_Kinds, n.sky_Wind⟩ (deskB p s) n.turns k).done (deskAt p ⟨n.sky_Kinds, n.sky_Wind⟩ (deskB p s) n.turns k).given k = c
 | 0, k, h1, h2 => absurd h1 (by omega)
 | m + 1, k, h1, h2 => by
  have ht := hn.t; have hF := h.h
  rw [l_WindowNamed_L7]
  by_cases hk : k < n.turns.length
  ·obtain ⟨s1, s2⟩ := desk_step h0 hk
   have hov := over_back h0 hk
   have hcalm := calm_at h0 rfl (by omega) hov
   have hmin := minute_at h hn.k ha h0 (by omega) hov
   have hgiv := giv_at h0 (by omega) hov
   have hdok := desk_ok_at h hn.k ha h0 (k := k) (by omega)
   have hpl := played_take (s := s) h hn.k ha h16 h0 k
   have hnext := hL k hk
   have ih := named_L7 h hn ha h16 h0 r c hL m (k + 1) (by omega) (by omega)
   have hwhy : ∀ mm kk, whyS p (stD (deskAt p ⟨n.sky_Kinds, n.sky_Wind⟩ (deskB p s) n.turns k)) ⟨n.sky_Kinds, n.sky_Wind⟩ mm kk = whyS p s ⟨n.sky_Kinds, n.sky_Wind⟩ mm kk := fun mm kk => whyS_calm (d := deskB p s) hcalm mm kk
   have hdn : (deskAt p ⟨n.sky_Kinds, n.sky_Wind⟩ (deskB p s) n.turns k).done.length ≤ 16 := by have := hdok.n; omega
   have hr1 : rightsR p s ⟨n.sky_Kinds, n.sky_Wind⟩ (deskAt p ⟨n.sky_Kinds, n.sky_Wind⟩ (deskB p s) n.turns k).minute = (rightsS p s ⟨n.sky_Kinds, n.sky_Wind⟩ (deskAt p ⟨n.sky_Kinds, n.sky_Wind⟩ (deskB p s) n.turns k).minute [], 0) := rightsR_in ha hmin
   rw [if_pos (by omega), cut_nat (by omega), Option.bind_some, Turns_eq h hn.k (by rw [List.length_take]; omega), Option.bind_some]
   unfold turnsO
   rw [hpl.1, if_pos hpl.2, show (playS p ⟨n.sky_Kinds, n.sky_Wind⟩ (deskB p s) (n.turns.take k)).1 = deskAt p ⟨n.sky_Kinds, n.sky_Wind⟩ (deskB p s) n.turns k from rfl]
   have hlt := turnS_lt hdok
   have hdone : (deskAt p ⟨n.sky_Kinds, n.sky_Wind⟩ (deskB p s) n.turns (k + 1)).done = (deskAt p ⟨n.sky_Kinds, n.sky_Wind⟩ (deskB p s) n.turns k).done ++ [turnS p ⟨n.sky_Kinds, n.sky_Wind⟩ (deskAt p ⟨n.sky_Kinds, n.sky_Wind⟩ (deskB p s) n.turns k)] := by
    rw [s2]; exact (actS_ok hdok _ s1).2
   have hgv : (deskAt p ⟨n.sky_Kinds, n.sky_Wind⟩ (deskB p s) n.turns (k + 1)).given = if n.turns[k].what = 3 then n.turns[k].to_ else -1 := by
    rw [s2]
    cases hov2 : (actS p ⟨n.sky_Kinds, n.sky_Wind⟩ (deskAt p ⟨n.sky_Kinds, n.sky_Wind⟩ (deskB p s) n.turns k) n.turns[k]).1.over with
    | false => exact (act_calm s1 hov2).2.2.2.2.2.2.2.2.2.1
    | true =>
     obtain ⟨w1, _, e⟩ := act_launch s1 hov2
     rw [e, if_neg (by omega)]
     rfl
   have htn : ¬ turnS p ⟨n.sky_Kinds, n.sky_Wind⟩ (deskAt p ⟨n.sky_Kinds, n.sky_Wind⟩ (deskB p s) n.turns k) < 0 := by
    intro hlt0
    have : actS p ⟨n.sky_Kinds, n.sky_Wind⟩ (deskAt p ⟨n.sky_Kinds, n.sky_Wind⟩ (deskB p s) n.turns k) n.turns[k] = (deskAt p ⟨n.sky_Kinds, n.sky_Wind⟩ (deskB p s) n.turns k, 9) := by unfold actS; rw [if_pos hlt0]
    rw [this] at s1
    cases s1
   rw [hdone, hgv] at ih
   generalize deskAt p ⟨n.sky_Kinds, n.sky_Wind⟩ (deskB p s) n.turns k = d at *
   generalize hT : turnS p ⟨n.sky_Kinds, n.sky_Wind⟩ d = T at *
   -- the team has a right, and had no turn
   have hcanT : canS p (stD d) ⟨n.sky_Kinds, n.sky_Wind⟩ d.minute d.done T.toNat = true := by
    by_cases hg : 0 ≤ d.given
    ·have e : T = d.given := by
      rw [← hT]
      unfold turnS
      rw [if_neg (by rw [hov]; simp), if_pos hg]
     rw [e]
     exact hgiv.c hg
    ·obtain ⟨l, hl⟩ := turn_rights (p := p) (sky := ⟨n.sky_Kinds, n.sky_Wind⟩) (d := d) (by rw [hT]; exact htn) hg
     have hm : turnS p ⟨n.sky_Kinds, n.sky_Wind⟩ d ∈ rightsS p (stD d) ⟨n.sky_Kinds, n.sky_Wind⟩ d.minute d.done := by rw [hl]; simp
     rw [hT] at hm
     obtain ⟨j, e, _, hj⟩ := rightsS_mem.1 hm
     rw [e, Int.toNat_natCast]
     exact hj
   obtain ⟨t, et⟩ := Int.eq_ofNat_of_zero_le (show 0 ≤ T by omega)
   have hTt : T = (t : Int) := et
   rw [hTt, Int.toNat_natCast] at hcanT
   have hcan2 := hcanT
   unfold canS at hcan2
   rw [Bool.and_eq_true, hwhy] at hcan2
   have hnd : hasP d.done T = false := by rw [hTt]; simpa using hcan2.1
   have hin : hasP (rightsS p s ⟨n.sky_Kinds, n.sky_Wind⟩ d.minute []) T = true := by
    rw [hasP_iff, hTt]
    exact rightsS_mem.2 ⟨t, rfl, by omega, by unfold canS; simpa [hasP] using hcan2.2⟩
   have h8 := (askedE_ok ha).1.po.t
   have hl8 : (rightsS p s ⟨n.sky_Kinds, n.sky_Wind⟩ d.minute []).length ≤ 8 := Nat.le_trans rightsS_len (by omega)
   obtain ⟨a, a1, a2⟩ := listed_neg (F := F) (l := rightsS p s ⟨n.sky_Kinds, n.sky_Wind⟩ d.minute []) (v := T) (by omega) (by omega)
   obtain ⟨b, b1, b2⟩ := listed_neg (F := F) (l := d.done) (v := T) (by omega) (by omega)
   have ha0 : ¬ a < 0 := fun e => by have := a2.1 e; rw [hin] at this; cases this
   have hb0 : ¬ 0 ≤ b := by have := b2.2 hnd; omega
   have hcount : (rightsS p s ⟨n.sky_Kinds, n.sky_Wind⟩ d.minute []).countP (leftF d.done T) = (others p ⟨n.sky_Kinds, n.sky_Wind⟩ d T).length := left_count hwhy
   have hrecv : d.given < 0 → ∀ v ∈ rightsS p s ⟨n.sky_Kinds, n.sky_Wind⟩ d.minute [], leftF d.done T v = true → hasP (recvS p ⟨n.sky_Kinds, n.sky_Wind⟩ d) v = true := fun hg v hv hl => by
    obtain ⟨j, rfl, hj, hc⟩ := rightsS_mem.1 hv
    rw [hasP_iff]
    unfold recvS
    rw [hT, if_neg htn, if_neg (by omega)]
    refine rightsS_mem.2 ⟨j, rfl, hj, ?_⟩
    unfold canS at hc ⊢
    unfold leftF at hl
    rw [hwhy]
    rw [Bool.and_eq_true] at hc hl ⊢
    refine ⟨?_, hc.2⟩
    unfold hasP
    rw [List.any_append]
    have h1 : hasP d.done (j : Int) = false := by simpa using hl.2
    have h2 : ¬ (j : Int) = T := by simpa using hl.1
    unfold hasP at h1
    rw [h1]
    simp [h2]
   have hgT : 0 ≤ d.given → d.given = T := fun hg => by
    rw [← hT]
    unfold turnS
    rw [if_neg (by rw [hov]; simp), if_pos hg]
   have happ : appO d.done [T] = some (d.done ++ [T]) := app_one (by omega)
   have hwk : W ((k : Int) + 1) = ((k + 1 : Nat) : Int) := W_succ (by omega)
   dsimp only
   rw [Rights_eq h hn.k, hr1]
   simp only [Option.bind_some, if_true, a1, b1, if_neg ha0, if_neg hb0]
   -- what stands behind the count
   have tail : (Option.bind (ixO n.turns (k : Int)) fun e2 => if 0 ≤ d.given then (if d.given = T then (if e2.what = 1 then (if (k : Int) = (W ((n.turns.length : Int) - 1)) then (if r.2.1.team = T then (if r.2.1.at_ = e2.at_ then (if ((decide (0 ≤ r.2.1.by_)) != (decide (0 ≤ d.given))) = true then (some false) else (Option.bind (l_sum F r.1.credit) fun rv10 => Option.bind (l_sum F s.credit) fun rv11 => if rv10 = (W ((W (rv11 - p.cost)) + ((0 + (rightsS p s ⟨n.sky_Kinds, n.sky_Wind⟩ d.minute []).countP (leftF d.done T) : Nat) : Int))) then (if (r.1.used.length : Int) ≤ T then (some false) else (if (s.used.length : Int) ≤ T then (some false) else (Option.bind (ixO r.1.used T) fun e3 => Option.bind (ixO s.used T) fun e4 => if e3 = (W (e4 + 1)) then (if e2.what = 3 then (Option.bind (appO d.done [T]) fun q2 => l_WindowNamed_L7 F p s n r (fun _ _ _ => c) m q2 e2.to_ (W (k + 1))) else (Option.bind (appO d.done [T]) fun q3 => l_WindowNamed_L7 F p s n r (fun _ _ _ => c) m q3 (-1) (W (k + 1)))) else (some false)))) else (some false))) else (some false)) else (some false)) else (some false)) else (if e2.what = 3 then (Option.bind (appO d.done [T]) fun q4 => l_WindowNamed_L7 F p s n r (fun _ _ _ => c) m q4 e2.to_ (W (k + 1))) else (Option.bind (appO d.done [T]) fun q5 => l_WindowNamed_L7 F p s n r (fun _ _ _ => c) m q5 (-1) (W (k + 1))))) else (some false)) else (if e2.what = 1 then (if (k : Int) = (W ((n.turns.length : Int) - 1)) then (if r.2.1.team = T then (if r.2.1.at_ = e2.at_ then (if ((decide (0 ≤ r.2.1.by_)) != (decide (0 ≤ d.given))) = true then (some false) else (Option.bind (l_sum F r.1.credit) fun rv12 => Option.bind (l_sum F s.credit) fun rv13 => if rv12 = (W ((W (rv13 - p.cost)) + ((0 + (rightsS p s ⟨n.sky_Kinds, n.sky_Wind⟩ d.minute []).countP (leftF d.done T) : Nat) : Int))) then (if (r.1.used.length : Int) ≤ T then (some false) else (if (s.used.length : Int) ≤ T then (some false) else (Option.bind (ixO r.1.used T) fun e5 => Option.bind (ixO s.used T) fun e6 => if e5 = (W (e6 + 1)) then (if e2.what = 3 then (Option.bind (appO d.done [T]) fun q6 => l_WindowNamed_L7 F p s n r (fun _ _ _ => c) m q6 e2.to_ (W (k + 1))) else (Option.bind (appO d.done [T]) fun q7 => l_WindowNamed_L7 F p s n r (fun _ _ _ => c) m q7 (-1) (W (k + 1)))) else (some false)))) else (some false))) else (some false)) else (some false)) else (some false)) else (if e2.what = 3 then (Option.bind (appO d.done [T]) fun q8 => l_WindowNamed_L7 F p s n r (fun _ _ _ => c) m q8 e2.to_ (W (k + 1))) else (Option.bind (appO d.done [T]) fun q9 => l_WindowNamed_L7 F p s n r (fun _ _ _ => c) m q9 (-1) (W (k + 1)))))) = c := by
    rw [ixO_nat hk, Option.bind_some, happ, hwk, hcount, Nat.zero_add]
    simp only [Option.bind_some]
    by_cases w1 : n.turns[k].what = 1
    ·have w3 : ¬ n.turns[k].what = 3 := by omega
     have hl := hnext w1
     obtain ⟨u, v, u1, u2, u3⟩ := hl.fs
     obtain ⟨e, f, v1, v2, v3⟩ := hl.fu
     rw [if_neg w3] at ih
     have hb := hl.fb
     have e3 : (if (decide (0 ≤ r.2.1.by_) != decide (0 ≤ d.given)) = true then some false else c) = c := by rw [hb]; rfl
     simp only [if_pos w1, if_neg w3, if_pos hl.fk, if_pos hl.ft, if_pos hl.fa, u1, u2, Option.bind_some, if_pos u3, if_neg hl.fl.1, if_neg hl.fl.2, v1, v2, if_pos v3, ih, e3]
     by_cases hg : 0 ≤ d.given
     ·rw [if_pos hg, if_pos (hgT hg)]
     ·rw [if_neg hg]
    ·simp only [if_neg w1]
     by_cases w3 : n.turns[k].what = 3
     ·rw [if_pos w3] at ih
      simp only [if_pos w3, ih]
      by_cases hg : 0 ≤ d.given
      ·rw [if_pos hg, if_pos (hgT hg)]
      ·rw [if_neg hg]
     ·rw [if_neg w3] at ih
      simp only [if_neg w3, ih]
      by_cases hg : 0 ≤ d.given
      ·rw [if_pos hg, if_pos (hgT hg)]
      ·rw [if_neg hg]
   cases hr : recvO p ⟨n.sky_Kinds, n.sky_Wind⟩ d with
   | none =>
    have hr0 := recvO_none hr
    refine Eq.trans (named_L5 (rv4 := (T, d.minute, none, 0)) (rv5 := (rightsS p s ⟨n.sky_Kinds, n.sky_Wind⟩ d.minute [], 0)) hF hl8 (by omega) (fun hg v hv => ?_) _ F 0 0 (by show (rightsS p s ⟨n.sky_Kinds, n.sky_Wind⟩ d.minute []).length < _; omega) (by omega) (by omega)) tail
    cases hl : leftF d.done T v with
    | false => rfl
    | true =>
     have := hrecv hg v hv hl
     rw [hr0] at this
     cases this
   | some t2 =>
    obtain ⟨q1, q2⟩ := recvO_drop hr
    simp only [optE]
    rw [if_neg q1]
    refine Eq.trans (named_L6 (rv4 := (T, d.minute, some t2, 0)) (rv5 := (rightsS p s ⟨n.sky_Kinds, n.sky_Wind⟩ d.minute [], 0)) hF hl8 (by omega) (by
     rw [q2]
     unfold recvS
     split
     ·simp
     split
     ·simp
     ·exact Nat.le_trans rightsS_len (by omega)) (fun hg v hv hl => by rw [q2]; exact hrecv hg v hv hl) _ F 0 0 (by show (rightsS p s ⟨n.sky_Kinds, n.sky_Wind⟩ d.minute []).length < _; omega) (by omega) (by omega)) tail
  ·rw [if_neg (by omega)]
theorem named_any (h : PlanF F p) (hn : NightF F n) (hA : l_Awake 100 = some true) : l_WindowNamed F p s n = some true := by
 have hF := h.h; have ht := hn.t
 unfold l_WindowNamed
 rw [Play_eq h hn, Option.bind_some, hA]
 by_cases h0 : (playR p s n).2.2 = 0
 ·rw [if_pos h0]
  obtain ⟨p1, p2, p3⟩ := playR_ok h0
  obtain ⟨q1, q2, q3, q4⟩ := played_ok h hn.k p1
  obtain ⟨ho, hx⟩ := askedE_ok q1
  have hnx := ho.n
  have h8 := ho.po.t
  have hcost := ho.po.c
  have hw60 := ho.po.w
  rw [if_neg (show ¬ 16 < (n.turns.length : Int) by omega)]
  rw [q3] at p1 p3 q4
  have hd0 := desk_ok h hn.k q1
  have hfar0 : Far (200000 + 200 * 16) s.credit := (hd0.far).mono (by omega)
  have hfarN : Far (200000 + 200 * 16) (playS p ⟨n.sky_Kinds, n.sky_Wind⟩ (deskB p s) n.turns).1.s_Credit := (q4.far).mono (by omega)
  have hcl : s.credit.length = p.teams.length := ho.c
  have hclN : (playS p ⟨n.sky_Kinds, n.sky_Wind⟩ (deskB p s) n.turns).1.s_Credit.length = p.teams.length := q4.a.o.c
  have hsum0 := l_sum_eq (F := F) hfar0 (by omega) (by omega) hF
  have hsumN := l_sum_eq (F := F) hfarN (by omega) (by omega) hF
  have hnext := playS_next ⟨n.sky_Kinds, n.sky_Wind⟩ n.turns (deskB p s) p1
  have hnext' : (playS p ⟨n.sky_Kinds, n.sky_Wind⟩ (deskB p s) n.turns).1.s_Next = s.next := hnext
  have b0 := sum_bound s.credit _ hfar0 (by omega)
  have b1 : ((200000 + 200 * 16 : Int) * (s.credit.length : Int)) ≤ 203200 * 8 := by
   have : (s.credit.length : Int) ≤ 8 := by omega
   omega
  have hW : W (s.next + 1) = s.next + 1 := by rw [W_id]
  have e7 := fun c => named_L7 (s := s) h hn q1 q2 p1 (playR p s n) c (fun k hk w1 => by
   obtain ⟨s1, s2⟩ := desk_step p1 hk
   have hov := over_back p1 hk
   have hcalm := calm_at p1 rfl (by omega) hov
   have hgiv := giv_at p1 (by omega) hov
   have hdok := desk_ok_at h hn.k q1 p1 (k := k) (by omega)
   have hsk := sum_at h hn.k q1 p1 (k := k) (by omega) hov
   have hov2 : (actS p ⟨n.sky_Kinds, n.sky_Wind⟩ (deskAt p ⟨n.sky_Kinds, n.sky_Wind⟩ (deskB p s) n.turns k) n.turns[k]).1.over = true := by
    cases hov2 : (actS p ⟨n.sky_Kinds, n.sky_Wind⟩ (deskAt p ⟨n.sky_Kinds, n.sky_Wind⟩ (deskB p s) n.turns k) n.turns[k]).1.over with
    | true => rfl
    | false => exact absurd w1 (act_calm s1 hov2).2.2.2.2.2.2.2.2.2.2
   obtain ⟨_, htn, el⟩ := act_launch s1 hov2
   have hlast : k + 1 = n.turns.length := by
    by_cases hl : k + 1 < n.turns.length
    ·have := over_back p1 hl
     rw [s2, hov2] at this
     cases this
    ·omega
   have hfin : (playS p ⟨n.sky_Kinds, n.sky_Wind⟩ (deskB p s) n.turns).1 = launchD p ⟨n.sky_Kinds, n.sky_Wind⟩ (deskAt p ⟨n.sky_Kinds, n.sky_Wind⟩ (deskB p s) n.turns k) n.turns[k] (turnS p ⟨n.sky_Kinds, n.sky_Wind⟩ (deskAt p ⟨n.sky_Kinds, n.sky_Wind⟩ (deskB p s) n.turns k)) := by
    rw [← deskAt_end, ← hlast, s2, el]
   have hlt := turnS_lt hdok
   rw [hfin] at hsumN p3
   generalize deskAt p ⟨n.sky_Kinds, n.sky_Wind⟩ (deskB p s) n.turns k = d at *
   obtain ⟨t, et⟩ := Int.eq_ofNat_of_zero_le (show 0 ≤ turnS p ⟨n.sky_Kinds, n.sky_Wind⟩ d by omega)
   have hTt : turnS p ⟨n.sky_Kinds, n.sky_Wind⟩ d = (t : Int) := et
   rw [hTt] at hlt htn hsumN p3 ⊢
   have hls := launch_sum hdok (t := (t : Int)) (by omega)
   have hus : d.s_Used = s.used := hcalm.u
   have hul : s.used.length = p.teams.length := ho.u
   have hol : (others p ⟨n.sky_Kinds, n.sky_Wind⟩ d t).length ≤ 8 := Nat.le_trans (pick_len _ _ _) (by omega)
   have hut := ho.us t (by omega)
   rw [p3]
   refine ⟨by rw [W_id] <;> omega, rfl, rfl, ?_, ⟨_, _, hsumN, hsum0, ?_⟩, ?_, ?_⟩
   ·show (decide (0 ≤ if 0 ≤ d.given then d.by_ else -1) != decide (0 ≤ d.given)) = false
    by_cases hg : 0 ≤ d.given
    ·have := hgiv.b hg
     simp [hg, this]
    ·simp [hg]
   ·show (launchC p ⟨n.sky_Kinds, n.sky_Wind⟩ d t).sum = _
    rw [hls, hsk, W_id (x := s.credit.sum - p.cost), W_id]
    omega
   ·constructor
    ·show ¬ ((d.s_Used.set (t : Int).toNat (d.s_Used.getD (t : Int).toNat 0 + 1)).length : Int) ≤ t
     rw [List.length_set, hus]
     omega
    ·omega
   ·refine ⟨d.s_Used.getD t 0 + 1, s.used.getD t 0, ?_, ?_, ?_⟩
    ·show ixO (d.s_Used.set (t : Int).toNat (d.s_Used.getD (t : Int).toNat 0 + 1)) t = _
     rw [Int.toNat_natCast, ixO_nat (by rw [List.length_set, hus]; omega)]
     simp
    ·rw [ixO_nat (by omega), getD_of _ (show t < s.used.length by omega)]
    ·rw [hus, W_id]) F 0 (by omega) (by omega)
  refine (e7 _).trans ?_
  rw [p3]
  dsimp only
  rw [hnext', hW]
  by_cases htm : 0 ≤ (playS p ⟨n.sky_Kinds, n.sky_Wind⟩ (deskB p s) n.turns).1.use_Team
  ·rw [if_pos htm, if_pos rfl]; rfl
  ·have hov := not_over p1 (by omega)
   have hs := sum_at h hn.k q1 p1 (k := n.turns.length) (Nat.le_refl _) (by rw [deskAt_end]; exact hov)
   rw [deskAt_end] at hs
   rw [if_neg htm, hsumN, Option.bind_some, hsum0, Option.bind_some, hs, if_pos rfl, if_pos rfl]
   rfl
 ·rw [if_neg h0]; rfl
end
end Go.Proofs.Ytdefnmcjmklohaa
