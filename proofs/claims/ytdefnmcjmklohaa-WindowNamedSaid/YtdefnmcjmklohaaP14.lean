/- Turns one by one: the desk behind the first i turns. -/
import Derived.Test.YtdefnmcjmklohaaP13
open Go Go.Proofs.Ytdefnmcjmklohaa.Sh Go.Proofs
namespace Go.Proofs.Ytdefnmcjmklohaa
set_option linter.unusedVariables false
set_option linter.unusedSimpArgs false
section
variable {F : Nat} {p : WiPlan} {sky : WiSky}
/-- What a turn that is no launch does not touch. -/
theorem act_calm {d : Desk} {x : WiTurn} (h0 : (actS p sky d x).2 = 0) (ho : (actS p sky d x).1.over = false) : ¬ turnS p sky d < 0 ∧ (actS p sky d x).1.s_Used = d.s_Used ∧ (actS p sky d x).1.s_Last = d.s_Last ∧ (actS p sky d x).1.s_Next = d.s_Next ∧ (actS p sky d x).1.minute = max d.minute x.at_ ∧ (actS p sky d x).1.use_Team = d.use_Team ∧ (actS p sky d x).1.use_At = d.use_At ∧ (actS p sky d x).1.use_By = d.use_By ∧ (actS p sky d x).1.done = d.done ++ [turnS p sky d] ∧ (actS p sky d x).1.given = (if x.what = 3 then x.to_ else -1) ∧ x.what ≠ 1 := by
 unfold actS at h0 ho ⊢
 by_cases ht : turnS p sky d < 0
 ·rw [if_pos ht] at h0; cases h0
 rw [if_neg ht] at h0 ho ⊢
 by_cases hw : outP x.what 1 3 = true
 ·rw [if_pos hw] at h0; cases h0
 rw [if_neg hw] at h0 ho ⊢
 by_cases w3 : x.what = 3
 ·rw [if_pos w3] at h0 ho ⊢
  by_cases hg : 0 ≤ d.given
  ·rw [if_pos hg] at h0; cases h0
  rw [if_neg hg] at h0 ho ⊢
  by_cases hr : hasP (recvS p sky d) x.to_ = false
  ·rw [if_pos hr] at h0; cases h0
  rw [if_neg hr] at h0 ho ⊢
  by_cases ha : x.at_ ≠ d.minute
  ·rw [if_pos ha] at h0; cases h0
  rw [if_neg ha]
  exact ⟨ht, rfl, rfl, rfl, by show d.minute = _; omega, rfl, rfl, rfl, rfl, by rw [if_pos w3], by omega⟩
 rw [if_neg w3] at h0 ho ⊢
 by_cases hb : x.to_ ≠ 0 ∨ outP x.at_ (if x.what = 1 then d.minute + (p.teams.getD (turnS p sky d).toNat default).setup else d.minute) (winAt p d.s_Next).until_ = true
 ·rw [if_pos hb] at h0; cases h0
 rw [if_neg hb] at h0 ho ⊢
 by_cases w1 : x.what = 1
 ·rw [if_pos w1] at ho; cases ho
 rw [if_neg w1]
 rw [if_neg w1] at hb
 have hb2 : outP x.at_ d.minute (winAt p d.s_Next).until_ = false := by
  cases he : outP x.at_ d.minute (winAt p d.s_Next).until_ with
  | false => rfl
  | true => exact absurd (.inr he) hb
 have := outP_false hb2
 exact ⟨ht, rfl, rfl, rfl, by show x.at_ = _; omega, rfl, rfl, rfl, rfl, by rw [if_neg w3], w1⟩
theorem act_over {d : Desk} {x : WiTurn} (h0 : (actS p sky d x).2 = 0) : d.over = false := by
 unfold actS at h0
 by_cases ht : turnS p sky d < 0
 ·rw [if_pos ht] at h0; cases h0
 cases ho : d.over with
 | false => rfl
 | true => exact absurd (show turnS p sky d < 0 by unfold turnS; rw [if_pos ho]; omega) ht
/-- A launch: the desk behind it. -/
theorem act_launch {d : Desk} {x : WiTurn} (h0 : (actS p sky d x).2 = 0) (ho : (actS p sky d x).1.over = true) : x.what = 1 ∧ ¬ turnS p sky d < 0 ∧ (actS p sky d x).1 = launchD p sky d x (turnS p sky d) := by
 have hov := act_over h0
 unfold actS at h0 ho ⊢
 by_cases ht : turnS p sky d < 0
 ·rw [if_pos ht] at h0; cases h0
 rw [if_neg ht] at h0 ho ⊢
 by_cases hw : outP x.what 1 3 = true
 ·rw [if_pos hw] at h0; cases h0
 rw [if_neg hw] at h0 ho ⊢
 by_cases w3 : x.what = 3
 ·rw [if_pos w3] at h0 ho
  by_cases hg : 0 ≤ d.given
  ·rw [if_pos hg] at h0; cases h0
  rw [if_neg hg] at h0 ho
  by_cases hr : hasP (recvS p sky d) x.to_ = false
  ·rw [if_pos hr] at h0; cases h0
  rw [if_neg hr] at h0 ho
  by_cases ha : x.at_ ≠ d.minute
  ·rw [if_pos ha] at h0; cases h0
  rw [if_neg ha] at ho
  rw [show _ = d.over from rfl] at ho
  rw [hov] at ho
  cases ho
 rw [if_neg w3] at h0 ho ⊢
 by_cases hb : x.to_ ≠ 0 ∨ outP x.at_ (if x.what = 1 then d.minute + (p.teams.getD (turnS p sky d).toNat default).setup else d.minute) (winAt p d.s_Next).until_ = true
 ·rw [if_pos hb] at h0; cases h0
 rw [if_neg hb] at h0 ho ⊢
 by_cases w1 : x.what = 1
 ·rw [if_pos w1]; exact ⟨w1, ht, rfl⟩
 ·rw [if_neg w1] at ho
  have : d.over = true := ho
  rw [hov] at this
  cases this
theorem playS_app : ∀ (l m : List WiTurn) (d : Desk), (playS p sky d (l ++ m)).2 = 0 → (playS p sky d l).2 = 0 ∧ playS p sky d (l ++ m) = playS p sky (playS p sky d l).1 m
 | [], m, d, _ => ⟨rfl, rfl⟩
 | x :: l, m, d, h => by
  rw [List.cons_append, playS] at h
  rw [List.cons_append, playS, playS]
  by_cases h1 : (actS p sky d x).2 = 0
  ·rw [if_pos h1] at h
   rw [if_pos h1, if_pos h1]
   exact playS_app l m _ h
  ·rw [if_neg h1] at h; exact absurd h h1
/-- The desk behind the first k turns. -/
def deskAt (p : WiPlan) (sky : WiSky) (d : Desk) (l : List WiTurn) (k : Nat) : Desk := (playS p sky d (l.take k)).1
theorem take_ok {l : List WiTurn} {d : Desk} (h : (playS p sky d l).2 = 0) (k : Nat) : (playS p sky d (l.take k)).2 = 0 := by
 rw [← List.take_append_drop k l] at h
 exact (playS_app _ _ _ h).1
theorem desk_step {l : List WiTurn} {d : Desk} (h : (playS p sky d l).2 = 0) {k : Nat} (hk : k < l.length) : (actS p sky (deskAt p sky d l k) l[k]).2 = 0 ∧ deskAt p sky d l (k + 1) = (actS p sky (deskAt p sky d l k) l[k]).1 := by
 have h1 := take_ok h (k + 1)
 rw [List.take_succ_eq_append_getElem hk] at h1
 obtain ⟨h2, h3⟩ := playS_app _ _ _ h1
 have h4 : playS p sky (playS p sky d (l.take k)).1 [l[k]] = if (actS p sky (deskAt p sky d l k) l[k]).2 = 0 then ((actS p sky (deskAt p sky d l k) l[k]).1, 0) else (deskZ, (actS p sky (deskAt p sky d l k) l[k]).2) := rfl
 rw [h3, h4] at h1
 by_cases h5 : (actS p sky (deskAt p sky d l k) l[k]).2 = 0
 ·refine ⟨h5, ?_⟩
  unfold deskAt
  rw [List.take_succ_eq_append_getElem hk, h3, h4, if_pos h5]
  rfl
 ·rw [if_neg h5] at h1; exact absurd h1 h5
/-- Up to a moment at which nobody has launched, nothing but credits, done and the minute has turned. -/
structure Calm (d e : Desk) : Prop where
 u : e.s_Used = d.s_Used
 l : e.s_Last = d.s_Last
 n : e.s_Next = d.s_Next
 t : e.use_Team = d.use_Team
 a : e.use_At = d.use_At
 b : e.use_By = d.use_By
theorem Calm.refl (d : Desk) : Calm d d := ⟨rfl, rfl, rfl, rfl, rfl, rfl⟩
theorem over_back {l : List WiTurn} {d : Desk} (h : (playS p sky d l).2 = 0) {k : Nat} (hk : k < l.length) : (deskAt p sky d l k).over = false := act_over (desk_step h hk).1
theorem calm_at {l : List WiTurn} {d : Desk} (h : (playS p sky d l).2 = 0) (hd : d.over = false) : ∀ {k : Nat}, k ≤ l.length → (deskAt p sky d l k).over = false → Calm d (deskAt p sky d l k)
 | 0, _, _ => .refl d
 | k + 1, hk, ho => by
  obtain ⟨h1, h2⟩ := desk_step h (show k < l.length by omega)
  have ih := calm_at h hd (k := k) (by omega) (over_back h (by omega))
  rw [h2] at ho ⊢
  obtain ⟨_, c1, c2, c3, _, c5, c6, c7, _⟩ := act_calm h1 ho
  exact ⟨c1.trans ih.u, c2.trans ih.l, c3.trans ih.n, c5.trans ih.t, c6.trans ih.a, c7.trans ih.b⟩
theorem whyS_calm {d e : Desk} (h : Calm d e) (m : Int) (k : Nat) : whyS p (stD e) sky m k = whyS p (stD d) sky m k := by
 unfold whyS stD
 dsimp only
 rw [h.u, h.l, h.n]
theorem deskAt_end (l : List WiTurn) (d : Desk) : deskAt p sky d l l.length = (playS p sky d l).1 := by
 unfold deskAt
 rw [List.take_length]
end
end Go.Proofs.Ytdefnmcjmklohaa
