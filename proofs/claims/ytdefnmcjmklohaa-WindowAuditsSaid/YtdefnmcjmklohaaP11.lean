/- The plain part of a window that is played: turn by turn. -/
import Derived.Test.YtdefnmcjmklohaaP10
open Go Go.Proofs.Ytdefnmcjmklohaa.Sh Go.Proofs
namespace Go.Proofs.Ytdefnmcjmklohaa
set_option linter.unusedVariables false
set_option linter.unusedSimpArgs false
section
variable {F : Nat} {p : WiPlan} {sky : WiSky} {d : Desk} {c : Nat} {dm : List (Int × Bool)}
theorem turn_over (h : DeskOk F p sky d c) (ht : ¬ turnS p sky d < 0) : d.over = false := by
 cases ho : d.over with
 | false => rfl
 | true => exact absurd (show turnS p sky d < 0 by unfold turnS; rw [if_pos ho]; omega) ht
theorem act_eq (h : DeskOk F p sky d c) (hc : c ≤ 18) (hd : DoneR d dm) (x : WiTurn) : window_table_act_m F (tabD p sky d dm) x = some (actT p sky d dm x) := by
 unfold window_table_act_m actT actS
 rw [turn_eq h hd, Option.bind_some, must_eq, Option.bind_some]
 by_cases ht : turnS p sky d < 0
 ·have h1 : decide (0 ≤ turnS p sky d) = false := by simp; omega
  rw [if_pos ht, h1]
  rfl
 have h1 : decide (0 ≤ turnS p sky d) = true := by simp; omega
 have htl := turnS_lt h
 obtain ⟨t, het⟩ := Int.eq_ofNat_of_zero_le (show 0 ≤ turnS p sky d by omega)
 have htk : turnS p sky d = (t : Int) := het
 have hov := turn_over h ht
 rw [if_neg ht, h1]
 simp only [must_eq, Option.bind_some, if_true, exE_ok]
 rw [htk, launch_eq h hc hd x hov (show t < p.teams.length by omega), scrub_eq, give_eq h hc hd x htk]
 simp only [Option.bind_some, Int.toNat_natCast]
 by_cases w1 : x.what = 1
 ·have ho : outP x.what 1 3 = false := by simp [outP]; omega
  have h3 : ¬ x.what = 3 := by omega
  rw [if_pos w1, ho, if_neg (show ¬ (false = true) by simp), if_neg h3, if_pos w1]
  by_cases hb : x.to_ ≠ 0 ∨ outP x.at_ (d.minute + (p.teams.getD t default).setup) (winAt p d.s_Next).until_ = true
  ·rw [if_pos hb, if_pos hb]; rfl
  ·rw [if_neg hb, if_neg hb, if_pos w1]; rfl
 rw [if_neg w1]
 by_cases w2 : x.what = 2
 ·have ho : outP x.what 1 3 = false := by simp [outP]; omega
  have h3 : ¬ x.what = 3 := by omega
  rw [if_pos w2, ho, if_neg (show ¬ (false = true) by simp), if_neg h3, if_neg w1]
  by_cases hb : x.to_ ≠ 0 ∨ outP x.at_ d.minute (winAt p d.s_Next).until_ = true
  ·rw [if_pos hb, if_pos hb]; rfl
  ·rw [if_neg hb, if_neg hb, if_neg w1]; rfl
 rw [if_neg w2]
 by_cases w3 : x.what = 3
 ·have ho : outP x.what 1 3 = false := by simp [outP]; omega
  rw [if_pos w3, ho, if_neg (show ¬ (false = true) by simp), if_pos w3]
  by_cases hg : 0 ≤ d.given
  ·rw [if_pos hg, if_pos hg]; rfl
  rw [if_neg hg, if_neg hg]
  by_cases hr : hasP (recvS p sky d) x.to_ = false
  ·rw [if_pos hr, if_pos hr]; rfl
  rw [if_neg hr, if_neg hr]
  by_cases ha : x.at_ ≠ d.minute
  ·rw [if_pos ha, if_pos ha]; rfl
  ·rw [if_neg ha, if_neg ha]; rfl
 ·have ho : outP x.what 1 3 = true := by simp [outP]; omega
  rw [if_neg w3, ho, if_pos rfl]
  rfl
theorem stW_of {s s' : WiState} (h : StW p s) (hu : s'.used.length = s.used.length) (hc : s'.credit.length = s.credit.length) (hl : s'.last.length = s.last.length) (hn : s'.next = s.next) (hls : ∀ k, k < p.teams.length → -1 ≤ s'.last.getD k 0 ∧ s'.last.getD k 0 ≤ 3650) : StW p s' :=
 ⟨h.po, hu.trans h.u, hc.trans h.c, hl.trans h.l, by rw [hn]; exact h.n, hls⟩
theorem actS_ok (h : DeskOk F p sky d c) (x : WiTurn) (h0 : (actS p sky d x).2 = 0) : DeskOk F p sky (actS p sky d x).1 (c + 1) ∧ (actS p sky d x).1.done = d.done ++ [turnS p sky d] := by
 have hfar := h.far; have hcost := h.a.o.po.c; have hgift := h.a.o.po.g; have hn := h.n; have hm := h.a.m
 have hu : d.s_Used.length = p.teams.length := h.a.o.u
 have hcl : d.s_Credit.length = p.teams.length := h.a.o.c
 have hll : d.s_Last.length = p.teams.length := h.a.o.l
 have hw := h.a.o.po.win h.a.o.n.1 h.a.n
 have hwu : 0 ≤ (winAt p d.s_Next).until_ ∧ (winAt p d.s_Next).until_ ≤ 1440 := hw.u
 have hwd : 0 ≤ (winAt p d.s_Next).day ∧ (winAt p d.s_Next).day ≤ 3650 := hw.d
 have hub := h.ub
 have hdl : (d.done ++ [turnS p sky d]).length ≤ c + 1 := by simp; omega
 have htl := turnS_lt h
 unfold actS at h0 ⊢
 by_cases ht : turnS p sky d < 0
 ·rw [if_pos ht] at h0; cases h0
 have hov := turn_over h ht
 rw [if_neg ht] at h0 ⊢
 obtain ⟨t, het⟩ := Int.eq_ofNat_of_zero_le (show 0 ≤ turnS p sky d by omega)
 have htk : turnS p sky d = (t : Int) := het
 rw [htk] at h0 hdl htl ⊢
 by_cases ho : outP x.what 1 3 = true
 ·rw [if_pos ho] at h0; cases h0
 rw [if_neg ho] at h0 ⊢
 by_cases w3 : x.what = 3
 ·rw [if_pos w3] at h0 ⊢
  by_cases hg : 0 ≤ d.given
  ·rw [if_pos hg] at h0; cases h0
  rw [if_neg hg] at h0 ⊢
  by_cases hr : hasP (recvS p sky d) x.to_ = false
  ·rw [if_pos hr] at h0; cases h0
  rw [if_neg hr] at h0 ⊢
  by_cases ha : x.at_ ≠ d.minute
  ·rw [if_pos ha] at h0; cases h0
  rw [if_neg ha]
  have hto := recvS_mem (by simpa using hr)
  refine ⟨⟨⟨h.a.f, stW_of h.a.o rfl (by simp [giveC, stD]) rfl rfl h.a.o.ls, h.a.n, h.a.k, hm⟩, by show -1 ≤ x.to_ ∧ x.to_ < _; omega, fun e => absurd e (by rw [hov]; simp), fun _ => hub hov, h.uw, hdl, fun k hk => ?_, fun k hk => ?_⟩, rfl⟩
  ·have := h.us k hk; exact ⟨this.1, by show d.s_Used.getD k 0 ≤ _; omega⟩
  ·show _ ≤ (giveC p d t x.to_).getD k 0 ∧ (giveC p d t x.to_).getD k 0 ≤ _
   have h1 := h.cs k hk
   have h2 := h.cs t (by omega)
   have h3 := h.cs x.to_.toNat (by omega)
   unfold giveC
   rw [getD_set, getD_set, Int.toNat_natCast]
   split
   ·omega
   ·split
    ·omega
    ·omega
 rw [if_neg w3] at h0 ⊢
 by_cases hb : x.to_ ≠ 0 ∨ outP x.at_ (if x.what = 1 then d.minute + (p.teams.getD (t : Int).toNat default).setup else d.minute) (winAt p d.s_Next).until_ = true
 ·rw [if_pos hb] at h0; cases h0
 rw [if_neg hb]
 have hb2 := outP_false (show outP x.at_ (if x.what = 1 then d.minute + (p.teams.getD (t : Int).toNat default).setup else d.minute) (winAt p d.s_Next).until_ = false by
  cases he : outP x.at_ (if x.what = 1 then d.minute + (p.teams.getD (t : Int).toNat default).setup else d.minute) (winAt p d.s_Next).until_ with
  | false => rfl
  | true => exact absurd (.inr he) hb)
 have hts := (h.a.o.po.ts _ (List.getElem_mem (show t < p.teams.length by omega))).s
 rw [Int.toNat_natCast, getD_of _ (show t < p.teams.length by omega)] at hb2
 have hx : 0 ≤ x.at_ ∧ x.at_ ≤ 1440 := by
  split at hb2 <;> omega
 by_cases w1 : x.what = 1
 ·rw [if_pos w1]
  have hoc : ∀ i ∈ others p sky d t, 0 ≤ i ∧ i < d.s_Credit.length := fun i hi => by have := others_mem hi; omega
  refine ⟨⟨⟨h.a.f, stW_of h.a.o (by simp [launchD, stD]) (by simp [launchD, launchC, stD, bumpL_len]) (by simp [launchD, stD]) rfl fun k hk => ?_, h.a.n, h.a.k, hx⟩, by show (-1 : Int) ≤ -1 ∧ (-1 : Int) < _; omega, fun _ => rfl, fun e => (by cases e), h.uw, hdl, fun k hk => ?_, fun k hk => ?_⟩, rfl⟩
  ·show _ ≤ (d.s_Last.set (t : Int).toNat (winAt p d.s_Next).day).getD k 0 ∧ (d.s_Last.set (t : Int).toNat (winAt p d.s_Next).day).getD k 0 ≤ _
   rw [getD_set]
   split
   ·omega
   ·exact h.a.o.ls k hk
  ·show _ ≤ (d.s_Used.set (t : Int).toNat (d.s_Used.getD (t : Int).toNat 0 + 1)).getD k 0 ∧ (d.s_Used.set (t : Int).toNat (d.s_Used.getD (t : Int).toNat 0 + 1)).getD k 0 ≤ _
   have h1 := h.us k hk
   have h2 := h.us t (by omega)
   rw [getD_set, Int.toNat_natCast]
   split <;> omega
  ·show _ ≤ (launchC p sky d t).getD k 0 ∧ (launchC p sky d t).getD k 0 ≤ _
   have h1 := h.cs k hk
   have h2 := h.cs t (by omega)
   unfold launchC
   rw [getD_set, Int.toNat_natCast, bumpL_get (others_nodup _) hoc, bumpL_get (others_nodup _) hoc]
   split
   ·split <;> omega
   ·split <;> omega
 ·rw [if_neg w1]
  refine ⟨⟨⟨h.a.f, h.a.o, h.a.n, h.a.k, hx⟩, by show (-1 : Int) ≤ -1 ∧ (-1 : Int) < _; omega, fun _ => rfl, fun _ => hub hov, h.uw, hdl, fun k hk => ?_, fun k hk => ?_⟩, rfl⟩
  ·have := h.us k hk; exact ⟨this.1, by show d.s_Used.getD k 0 ≤ _; omega⟩
  ·have := h.cs k hk; exact ⟨by show _ ≤ d.s_Credit.getD k 0; omega, by show d.s_Credit.getD k 0 ≤ _; omega⟩
/-! ### All turns -/
def deskZ : Desk := Desk.mk [] [] [] 0 0 [] 0 0 false 0 0 0 0
def playS (p : WiPlan) (sky : WiSky) : Desk → List WiTurn → Desk × Int
 | d, [] => (d, 0)
 | d, x :: l => if (actS p sky d x).2 = 0 then playS p sky (actS p sky d x).1 l else (deskZ, (actS p sky d x).2)
theorem playS_ok : ∀ {l : List WiTurn} {d : Desk} {c : Nat}, DeskOk F p sky d c → (playS p sky d l).2 = 0 → DeskOk F p sky (playS p sky d l).1 (c + l.length)
 | [], d, c, h, _ => h
 | x :: l, d, c, h, h0 => by
  rw [playS] at h0 ⊢
  by_cases h1 : (actS p sky d x).2 = 0
  ·rw [if_pos h1] at h0 ⊢
   have := playS_ok (actS_ok h x h1).1 h0
   rw [List.length_cons, show c + (l.length + 1) = c + 1 + l.length by omega]
   exact this
  ·rw [if_neg h1] at h0
   exact absurd h0 h1
/-- What the program's table is in the end. -/
def PlayR (p : WiPlan) (sky : WiSky) (r : Desk × Int) (o : Option (Option Table × Int)) : Prop :=
 if r.2 = 0 then ∃ dm, DoneR r.1 dm ∧ o = some (some (tabD p sky r.1 dm), 0) else o = some (none, r.2)
theorem play_L2 {turns : List WiTurn} (hl : turns.length ≤ 16) : ∀ (n k : Nat) (d : Desk) (dm : List (Int × Bool)), turns.length < n + k → k ≤ turns.length → DeskOk F p sky d k → DoneR d dm → PlayR p sky (playS p sky d (turns.drop k)) (window_play_L2 F turns (fun b b2 b3 b4 b5 b6 b7 b8 b9 b10 b11 b12 b13 b14 b15 b16 b17 b18 b19 b20 b21 b22 _ => some ((some (Table.mk b b2 b3 b4 b5 b6 b7 b8 b9 b10 b11 b12 b13 b14 b15 b16 b17 b18 b19 b20 b21 b22)), 0)) n (tabD p sky d dm).p_Teams (tabD p sky d dm).p_Windows (tabD p sky d dm).p_Cost (tabD p sky d dm).p_Gift (tabD p sky d dm).s_Used (tabD p sky d dm).s_Credit (tabD p sky d dm).s_Last (tabD p sky d dm).s_Next (tabD p sky d dm).sky_Kinds (tabD p sky d dm).sky_Wind (tabD p sky d dm).w_Day (tabD p sky d dm).w_From (tabD p sky d dm).w_Until (tabD p sky d dm).minute (tabD p sky d dm).done (tabD p sky d dm).given (tabD p sky d dm).by_ (tabD p sky d dm).over (tabD p sky d dm).use_Window (tabD p sky d dm).use_Team (tabD p sky d dm).use_At (tabD p sky d dm).use_By (k : Int))
 | 0, k, d, dm, h1, h2, _, _ => absurd h1 (by omega)
 | n + 1, k, d, dm, h1, h2, h3, h4 => by
  rw [window_play_L2]
  by_cases hk : k < turns.length
  ·have ea : window_table_act_m F (tabD p sky d dm) turns[k] = some (actT p sky d dm turns[k]) := act_eq h3 (by omega) h4 _
   rw [if_pos (by omega), ixO_nat hk, Option.bind_some, List.drop_eq_getElem_cons hk, playS, W_succ (by omega)]
   have ea' : window_table_act_m F (Table.mk (tabD p sky d dm).p_Teams (tabD p sky d dm).p_Windows (tabD p sky d dm).p_Cost (tabD p sky d dm).p_Gift (tabD p sky d dm).s_Used (tabD p sky d dm).s_Credit (tabD p sky d dm).s_Last (tabD p sky d dm).s_Next (tabD p sky d dm).sky_Kinds (tabD p sky d dm).sky_Wind (tabD p sky d dm).w_Day (tabD p sky d dm).w_From (tabD p sky d dm).w_Until (tabD p sky d dm).minute (tabD p sky d dm).done (tabD p sky d dm).given (tabD p sky d dm).by_ (tabD p sky d dm).over (tabD p sky d dm).use_Window (tabD p sky d dm).use_Team (tabD p sky d dm).use_At (tabD p sky d dm).use_By) turns[k] = _ := ea
   rw [ea', Option.bind_some]
   unfold actT
   by_cases h5 : (actS p sky d turns[k]).2 = 0
   ·have hok := actS_ok h3 turns[k] h5
    have hd' : DoneR (actS p sky d turns[k]).1 (mset dm (turnS p sky d) true) := fun j => by rw [doneR_step h4, hok.2]
    rw [if_pos h5, if_pos h5]
    exact play_L2 hl n (k + 1) _ _ (by omega) (by omega) hok.1 hd'
   ·rw [if_neg h5, if_neg h5, exE_err, if_neg h5]
    unfold PlayR
    rw [if_neg h5]
  ·rw [if_neg (by omega), List.drop_of_length_le (by omega)]
   unfold PlayR
   rw [playS, if_pos rfl]
   exact ⟨dm, h4, rfl⟩
end
end Go.Proofs.Ytdefnmcjmklohaa
