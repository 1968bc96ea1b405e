/- The plain part of a turn, as the program does it; a window that is played. -/
import Derived.Test.YtdefnmcjmklohaaP9
open Go Go.Proofs.Ytdefnmcjmklohaa.Sh Go.Proofs
namespace Go.Proofs.Ytdefnmcjmklohaa
set_option linter.unusedVariables false
set_option linter.unusedSimpArgs false
section
variable {F : Nat} {p : WiPlan} {sky : WiSky} {d : Desk} {c : Nat} {dm : List (Int × Bool)}
theorem exE_ok {α β : Type} (a : α) (f : Int → β) (g : α → β) : exE (.ok a) f g = g a := rfl
theorem exE_err {α β : Type} (e : Int) (f : Int → β) (g : α → β) : exE (.error e : Except Int α) f g = f e := rfl
theorem hasP_app (l : List Int) (t v : Int) : hasP (l ++ [t]) v = (hasP l v || decide (v = t)) := by
 unfold hasP
 rw [List.any_append]
 simp
theorem doneR_step (hd : DoneR d dm) (t : Int) (k : Nat) : (mget (mset dm t true) (k : Int)).getD false = hasP (d.done ++ [t]) k := by
 rw [mget_mset, hasP_app, hd k]
 by_cases h : (k : Int) = t <;> simp [h]
theorem canT_D (hd : DoneR d dm) : canT (tabD p sky d dm) = canS p (stD d) sky d.minute d.done := by
 funext k
 unfold canT canS
 rw [show doneT (tabD p sky d dm) k = hasP d.done k from hd k]
 rfl
def actT (p : WiPlan) (sky : WiSky) (d : Desk) (dm : List (Int × Bool)) (x : WiTurn) : Except Int Table :=
 if (actS p sky d x).2 = 0 then .ok (tabD p sky (actS p sky d x).1 (mset dm (turnS p sky d) true)) else .error (actS p sky d x).2
theorem launch_eq (h : DeskOk F p sky d c) (hc : c ≤ 18) (hd : DoneR d dm) (x : WiTurn) (hov : d.over = false) {t : Nat} (ht : t < p.teams.length) : window_table_launch_m F (tabD p sky d dm) t x = some (if x.to_ ≠ 0 ∨ outP x.at_ (d.minute + (p.teams.getD t default).setup) (winAt p d.s_Next).until_ = true then .error 7 else .ok (tabD p sky (launchD p sky d x t) (mset dm t true))) := by
 have hfar := h.far; have h8 := h.a.o.po.t; have hcost := h.a.o.po.c
 have hu : d.s_Used.length = p.teams.length := h.a.o.u
 have hcl : d.s_Credit.length = p.teams.length := h.a.o.c
 have hll : d.s_Last.length = p.teams.length := h.a.o.l
 have hm := h.a.m; have hF := h.a.f.h
 have hts := h.a.o.po.ts _ (List.getElem_mem ht)
 have hsu := hts.s
 have hub := h.ub hov
 unfold window_table_launch_m
 simp only [window_out_eq, must_eq, Option.bind_some]
 by_cases h0 : x.to_ = 0
 ·have e0 : ixO (tabD p sky d dm).p_Teams (t : Int) = some p.teams[t] := ixO_nat ht
  rw [if_pos h0, e0, Option.bind_some]
  have eW : W ((tabD p sky d dm).minute + p.teams[t].setup) = d.minute + p.teams[t].setup := by
   show W (d.minute + p.teams[t].setup) = _
   rw [W_id]
  rw [eW, getD_of _ ht]
  have eU : (tabD p sky d dm).w_Until = (winAt p d.s_Next).until_ := rfl
  rw [eU]
  cases ho : outP x.at_ (d.minute + p.teams[t].setup) (winAt p d.s_Next).until_ with
  | true => simp [exE, h0]
  | false =>
   have hd' : DoneR { d with done := d.done ++ [(t : Int)] } (mset dm t true) := doneR_step hd t
   have hok : TabOk F (tabD p sky { d with done := d.done ++ [(t : Int)] } (mset dm t true)) := by
    have := tabD_ok (dm := dm) h
    exact ⟨this.f, this.h, this.n, this.ts, this.u, this.c, this.l, this.ls, this.k, this.d, this.un, this.m⟩
   have hbf : Far (200000 + 200 * c + 1) (bumpL d.s_Credit (others p sky d t)) := bump_far (others_nodup _) (fun i hi => by have := others_mem hi; omega) hfar (by omega)
   have hcan : canT (tabD p sky { d with done := d.done ++ [(t : Int)] } (mset dm t true)) = canS p (stD d) sky d.minute (d.done ++ [(t : Int)]) := canT_D hd'
   have hn0 : (tabD p sky { d with done := d.done ++ [(t : Int)] } (mset dm t true)).p_Teams.length = p.teams.length := rfl
   have eL := fun K' => launch_L1 (F := F) (t := tabD p sky { d with done := d.done ++ [(t : Int)] } (mset dm t true)) hok K' F 0 d.s_Credit (200000 + 200 * c) (by omega) (by omega) hcl hfar (by omega) (by omega)
   rw [hcan] at eL
   have hbl : (bumpL d.s_Credit (others p sky d t)).length = p.teams.length := by rw [bumpL_len]; exact hcl
   have hbt := hbf t
   rw [getD_of _ (show t < (bumpL d.s_Credit (others p sky d t)).length by omega)] at hbt
   have hut := h.us t ht
   rw [getD_of _ (show t < d.s_Used.length by omega)] at hut
   rw [if_neg (show ¬ (x.to_ ≠ 0 ∨ false = true) by simp [h0])]
   have key : ∀ by' : Int, (Option.bind (ixO d.s_Used (t : Int)) fun e3 => Option.bind (setO d.s_Used t (W (e3 + 1))) fun q => Option.bind (ixO d.s_Last (t : Int)) fun e4 => Option.bind (setO d.s_Last t (winAt p d.s_Next).day) fun q2 => Option.bind (ixO (bumpL d.s_Credit (others p sky d t)) (t : Int)) fun e5 => Option.bind (setO (bumpL d.s_Credit (others p sky d t)) t (W (e5 - p.cost))) fun lv3 => some (Except.ok (ε := Int) (tabD p sky { d with s_Used := q, s_Last := q2, s_Credit := lv3, minute := x.at_, done := d.done ++ [(t : Int)], given := -1, over := true, use_Team := t, use_At := x.at_, use_By := by' } (mset dm t true)))) = some (.ok (tabD p sky { d with s_Used := d.s_Used.set (t : Int).toNat (d.s_Used.getD (t : Int).toNat 0 + 1), s_Last := d.s_Last.set (t : Int).toNat (winAt p d.s_Next).day, s_Credit := launchC p sky d t, minute := x.at_, done := d.done ++ [(t : Int)], given := -1, over := true, use_Team := t, use_At := x.at_, use_By := by' } (mset dm t true))) := fun by' => by
    rw [ixO_nat (by omega), Option.bind_some, setO_nat, Option.bind_some, ixO_nat (by omega), Option.bind_some, setO_nat, Option.bind_some, ixO_nat (by omega), Option.bind_some, setO_nat, Option.bind_some, W_id (x := d.s_Used[t] + 1), W_id (x := (bumpL d.s_Credit (others p sky d t))[t] - p.cost)]
    unfold launchC
    rw [Int.toNat_natCast, getD_of _ (show t < d.s_Used.length by omega), getD_of _ (show t < (bumpL d.s_Credit (others p sky d t)).length by omega)]
   simp only [Bool.not_false, if_true, exE, window_table_entitled_m, Option.bind_some]
   by_cases hg : 0 ≤ d.given
   ·have k1 := key d.by_
    unfold launchD
    rw [if_pos hg, ← k1]
    refine (eL _).trans ?_
    show (Option.bind (ixO d.s_Used (t : Int)) fun e3 => Option.bind (setO d.s_Used t (W (e3 + 1))) fun q => Option.bind (ixO d.s_Last (t : Int)) fun e4 => Option.bind (setO d.s_Last t (winAt p d.s_Next).day) fun q2 => Option.bind (ixO (bumpL d.s_Credit (others p sky d t)) (t : Int)) fun e5 => Option.bind (setO (bumpL d.s_Credit (others p sky d t)) t (W (e5 - p.cost))) fun lv3 => if 0 ≤ d.given then _ else _) = _
    simp only [if_pos hg]
    rfl
   ·have k1 := key (-1)
    unfold launchD
    rw [if_neg hg, ← k1]
    refine (eL _).trans ?_
    show (Option.bind (ixO d.s_Used (t : Int)) fun e3 => Option.bind (setO d.s_Used t (W (e3 + 1))) fun q => Option.bind (ixO d.s_Last (t : Int)) fun e4 => Option.bind (setO d.s_Last t (winAt p d.s_Next).day) fun q2 => Option.bind (ixO (bumpL d.s_Credit (others p sky d t)) (t : Int)) fun e5 => Option.bind (setO (bumpL d.s_Credit (others p sky d t)) t (W (e5 - p.cost))) fun lv3 => if 0 ≤ d.given then _ else _) = _
    simp only [if_neg hg, ← hub]
    rfl
 ·rw [if_neg h0, if_pos (show x.to_ ≠ 0 ∨ outP x.at_ (d.minute + (p.teams.getD t default).setup) (winAt p d.s_Next).until_ = true from .inl h0)]
  simp [exE]
theorem scrub_eq (x : WiTurn) (t : Int) : window_table_scrub_m F (tabD p sky d dm) t x = some (if x.to_ ≠ 0 ∨ outP x.at_ d.minute (winAt p d.s_Next).until_ = true then .error 7 else .ok (tabD p sky { d with minute := x.at_, done := d.done ++ [t], given := -1 } (mset dm t true))) := by
 unfold window_table_scrub_m
 simp only [window_out_eq, must_eq, Option.bind_some]
 by_cases h0 : x.to_ = 0
 ·rw [if_pos h0]
  have e0 : outP x.at_ (tabD p sky d dm).minute (tabD p sky d dm).w_Until = outP x.at_ d.minute (winAt p d.s_Next).until_ := rfl
  rw [e0]
  cases outP x.at_ d.minute (winAt p d.s_Next).until_
  ·rw [if_neg (show ¬ (x.to_ ≠ 0 ∨ false = true) by simp [h0])]; rfl
  ·simp [exE, h0]
 ·rw [if_neg h0, if_pos (show x.to_ ≠ 0 ∨ outP x.at_ d.minute (winAt p d.s_Next).until_ = true from .inl h0)]; simp [exE]
theorem give_eq (h : DeskOk F p sky d c) (hc : c ≤ 18) (hd : DoneR d dm) (x : WiTurn) {t : Nat} (ht : turnS p sky d = t) : window_table_give_m F (tabD p sky d dm) t x = some (if 0 ≤ d.given then .error 5 else if hasP (recvS p sky d) x.to_ = false then .error 4 else if x.at_ ≠ d.minute then .error 7 else .ok (tabD p sky { d with s_Credit := giveC p d t x.to_, done := d.done ++ [(t : Int)], given := x.to_, by_ := t } (mset dm t true))) := by
 have hfar := h.far; have h8 := h.a.o.po.t; have hgift := h.a.o.po.g; have hF := h.a.f.h
 have hcl : d.s_Credit.length = p.teams.length := h.a.o.c
 have htl := turnS_lt h
 have hct := hfar t
 rw [getD_of _ (show t < d.s_Credit.length by omega)] at hct
 have hrl : (recvS p sky d).length ≤ 8 := by
  unfold recvS
  split
  ·simp
  split
  ·simp
  ·exact Nat.le_trans rightsS_len (by omega)
 unfold window_table_give_m
 rw [must_eq, Option.bind_some]
 have eg : (tabD p sky d dm).given = d.given := rfl
 have em : (tabD p sky d dm).minute = d.minute := rfl
 have ec : (tabD p sky d dm).s_Credit = d.s_Credit := rfl
 have ef : (tabD p sky d dm).p_Gift = p.gift := rfl
 rw [eg, em, ec, ef]
 by_cases hg : 0 ≤ d.given
 ·have : ¬ d.given < 0 := by omega
  simp [this, exE, hg]
 ·have hg' : d.given < 0 := by omega
  rw [if_neg hg]
  simp only [hg', decide_true, if_true, exE_ok]
  have er := receivers_eq h hd
  rw [er, Option.bind_some]
  simp only [must_eq, Option.bind_some]
  cases ho : recvO p sky d with
  | none =>
   rw [recvO_none ho]
   simp only [optE]
   rw [Contains_eq (by simp) (by simp; omega)]
   simp [hasP, exE_err]
  | some l =>
   obtain ⟨h1, h2⟩ := recvO_drop ho
   simp only [optE]
   rw [if_neg h1, h2, Contains_eq (by omega) (by omega), Option.bind_some]
   cases hr : hasP (recvS p sky d) x.to_ with
   | false => simp [exE_err]
   | true =>
    have hto := recvS_mem hr
    obtain ⟨j, hj⟩ := Int.eq_ofNat_of_zero_le hto.1
    rw [ht, hj] at hto
    have hcj := hfar j
    rw [getD_of _ (show j < d.s_Credit.length by omega)] at hcj
    simp only [if_true, Bool.true_eq_false, if_false, exE_ok]
    by_cases ha : x.at_ = d.minute
    ·have hjt : ¬ t = j := by omega
     have hget : (d.s_Credit.set t (d.s_Credit[t] + p.gift))[j]'(by rw [List.length_set]; omega) = d.s_Credit[j] := List.getElem_set_ne hjt _
     simp only [ha, decide_true, if_true, exE_ok]
     rw [if_neg (show ¬ d.minute ≠ d.minute from fun e => e rfl), hj, ixO_nat (by omega), Option.bind_some, setO_nat, Option.bind_some, W_id (x := d.s_Credit[t] + p.gift), ixO_nat (by rw [List.length_set]; omega), Option.bind_some, setO_nat, Option.bind_some, hget, W_id (x := d.s_Credit[j] - p.gift)]
     unfold giveC
     rw [Int.toNat_natCast, Int.toNat_natCast, getD_of _ (show t < d.s_Credit.length by omega), getD_of _ (show j < d.s_Credit.length by omega)]
     rfl
    ·simp [ha, exE_err]
end
end Go.Proofs.Ytdefnmcjmklohaa
