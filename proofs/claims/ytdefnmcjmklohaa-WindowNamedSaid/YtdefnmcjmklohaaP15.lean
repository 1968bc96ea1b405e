/- More on the desk behind the first turns. -/
import Derived.Test.YtdefnmcjmklohaaP14
open Go Go.Proofs.Ytdefnmcjmklohaa.Sh Go.Proofs
namespace Go.Proofs.Ytdefnmcjmklohaa
set_option linter.unusedVariables false
set_option linter.unusedSimpArgs false
section
variable {F : Nat} {p : WiPlan} {sky : WiSky} {s : WiState}
theorem played_take {turns : List WiTurn} (_ : PlanF F p) (_ : SkyF F sky.kinds) (ha : askedE p s sky = 0) (h16 : turns.length ≤ 16) (h0 : (playS p sky (deskB p s) turns).2 = 0) (k : Nat) : playedS p s sky (turns.take k) = playS p sky (deskB p s) (turns.take k) ∧ (playS p sky (deskB p s) (turns.take k)).2 = 0 := by
 refine ⟨?_, take_ok h0 k⟩
 unfold playedS
 rw [if_neg (show ¬ askedE p s sky ≠ 0 from fun e => e ha), if_neg (show ¬ 16 < ((turns.take k).length : Int) by rw [List.length_take]; omega)]
theorem desk_ok_at {turns : List WiTurn} (h : PlanF F p) (hs : SkyF F sky.kinds) (ha : askedE p s sky = 0) (h0 : (playS p sky (deskB p s) turns).2 = 0) {k : Nat} (hk : k ≤ turns.length) : DeskOk F p sky (deskAt p sky (deskB p s) turns k) k := by
 have := playS_ok (desk_ok h hs ha) (take_ok h0 k)
 rw [List.length_take, Nat.min_eq_left hk, Nat.zero_add] at this
 exact this
/-- Who has launched has used the window. -/
theorem act_team {d : Desk} {x : WiTurn} (h0 : (actS p sky d x).2 = 0) (ho : (actS p sky d x).1.over = true) : 0 ≤ (actS p sky d x).1.use_Team := by
 obtain ⟨_, h1, h2⟩ := act_launch h0 ho
 rw [h2]
 show 0 ≤ turnS p sky d
 omega
theorem not_over {l : List WiTurn} {s : WiState} (h : (playS p sky (deskB p s) l).2 = 0) (ht : (playS p sky (deskB p s) l).1.use_Team < 0) : (playS p sky (deskB p s) l).1.over = false := by
 cases ho : (playS p sky (deskB p s) l).1.over with
 | false => rfl
 | true =>
  exfalso
  by_cases hl : l.length = 0
  ·have : l = [] := List.eq_nil_of_length_eq_zero hl
   rw [this] at ho
   cases ho
  ·obtain ⟨s1, s2⟩ := desk_step h (k := l.length - 1) (by omega)
   rw [show l.length - 1 + 1 = l.length by omega, deskAt_end] at s2
   rw [s2] at ho ht
   have := act_team s1 ho
   omega
theorem act_minute {d : Desk} {x : WiTurn} (h0 : (actS p sky d x).2 = 0) (ho : (actS p sky d x).1.over = false) (hd : d.minute ≤ (winAt p d.s_Next).until_) : (actS p sky d x).1.minute ≤ (winAt p d.s_Next).until_ := by
 obtain ⟨ht, _, _, _, c4, _, _, _, _, _, w1⟩ := act_calm h0 ho
 rw [c4]
 unfold actS at h0
 rw [if_neg ht] at h0
 by_cases hw : outP x.what 1 3 = true
 ·rw [if_pos hw] at h0; cases h0
 rw [if_neg hw] at h0
 by_cases w3 : x.what = 3
 ·rw [if_pos w3] at h0
  by_cases hg : 0 ≤ d.given
  ·rw [if_pos hg] at h0; cases h0
  rw [if_neg hg] at h0
  by_cases hr : hasP (recvS p sky d) x.to_ = false
  ·rw [if_pos hr] at h0; cases h0
  rw [if_neg hr] at h0
  by_cases ha : x.at_ ≠ d.minute
  ·rw [if_pos ha] at h0; cases h0
  omega
 rw [if_neg w3, if_neg w1] at h0
 by_cases hb : x.to_ ≠ 0 ∨ outP x.at_ d.minute (winAt p d.s_Next).until_ = true
 ·rw [if_pos hb] at h0; cases h0
 have hb2 : outP x.at_ d.minute (winAt p d.s_Next).until_ = false := by
  cases he : outP x.at_ d.minute (winAt p d.s_Next).until_ with
  | false => rfl
  | true => exact absurd (.inr he) hb
 have := outP_false hb2
 omega
theorem minute_at {turns : List WiTurn} (h : PlanF F p) (hs : SkyF F sky.kinds) (ha : askedE p s sky = 0) (h0 : (playS p sky (deskB p s) turns).2 = 0) : ∀ {k : Nat}, k ≤ turns.length → (deskAt p sky (deskB p s) turns k).over = false → (winAt p s.next).from_ ≤ (deskAt p sky (deskB p s) turns k).minute ∧ (deskAt p sky (deskB p s) turns k).minute ≤ (winAt p s.next).until_
 | 0, _, _ => by
  obtain ⟨ho, hx⟩ := askedE_ok ha
  have := (ho.po.win ho.n.1 hx).f
  show (winAt p s.next).from_ ≤ (winAt p s.next).from_ ∧ (winAt p s.next).from_ ≤ _
  omega
 | k + 1, hk, ho => by
  obtain ⟨s1, s2⟩ := desk_step h0 (show k < turns.length by omega)
  have hov := over_back h0 (show k < turns.length by omega)
  have ih := minute_at h hs ha h0 (k := k) (by omega) hov
  have hn : (deskAt p sky (deskB p s) turns k).s_Next = s.next := (calm_at h0 rfl (by omega) hov).n
  rw [s2] at ho ⊢
  obtain ⟨_, _, _, _, c4, _⟩ := act_calm s1 ho
  have h2 := act_minute s1 ho (by rw [hn]; exact ih.2)
  rw [hn] at h2
  refine ⟨?_, h2⟩
  rw [c4]
  omega
theorem rightsR_in {m : Int} (ha : askedE p s sky = 0) (hm : (winAt p s.next).from_ ≤ m ∧ m ≤ (winAt p s.next).until_) : rightsR p s sky m = (rightsS p s sky m [], 0) := by
 have : outP m (winAt p s.next).from_ (winAt p s.next).until_ = false := by simp [outP]; omega
 unfold rightsR
 rw [if_neg (show ¬ askedE p s sky ≠ 0 from fun e => e ha), this]
 rfl
end
end Go.Proofs.Ytdefnmcjmklohaa
