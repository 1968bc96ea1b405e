/- The plain part of a window that is played: the turns. -/
import Derived.Test.YtdefnmcjmklohaaP7
open Go Go.Proofs.Ytdefnmcjmklohaa.Sh Go.Proofs
namespace Go.Proofs.Ytdefnmcjmklohaa
set_option linter.unusedVariables false
set_option linter.unusedSimpArgs false
/-! ### Maps of truths -/
theorem mget_mset (v : Bool) (k j : Int) : ∀ m : List (Int × Bool), (mget (mset m k v) j).getD false = if j = k then v else (mget m j).getD false
 | [] => by
  by_cases h : j = k
  ·subst h; simp [mset, mget]
  ·have : (j == k) = false := by simp [h]
   simp [mset, mget, h]
 | p :: m => by
  have ih := mget_mset v k j m
  unfold mset
  cases hk : k == p.1 with
  | true =>
   have hk' : k = p.1 := by simpa using hk
   simp only [cond_true]
   by_cases h : j = k
   ·subst h; simp [mget]
   ·have h1 : (j == k) = false := by simp [h]
    have h2 : (j == p.1) = false := by rw [← hk']; exact h1
    simp [mget, h1, h2, h]
  | false =>
   simp only [cond_false]
   cases h1 : j == p.1 with
   | true =>
    have h2 : ¬ j = k := by
     rintro rfl
     rw [hk] at h1
     cases h1
    simp [mget, h1, h2]
   | false =>
    simp only [mget, List.find?_cons, h1] at ih ⊢
    exact ih
/-! ### The desk -/
def stD (d : Desk) : WiState := ⟨d.s_Used, d.s_Credit, d.s_Last, d.s_Next⟩
def tabD (p : WiPlan) (sky : WiSky) (d : Desk) (dm : List (Int × Bool)) : Table :=
 Table.mk p.teams p.windows p.cost p.gift d.s_Used d.s_Credit d.s_Last d.s_Next sky.kinds sky.wind (winAt p d.s_Next).day (winAt p d.s_Next).from_ (winAt p d.s_Next).until_ d.minute dm d.given d.by_ d.over d.use_Window d.use_Team d.use_At d.use_By
/-- The turns that have been are the same in both. -/
def DoneR (d : Desk) (dm : List (Int × Bool)) : Prop := ∀ k : Nat, (mget dm (k : Int)).getD false = hasP d.done k
structure DeskOk (F : Nat) (p : WiPlan) (sky : WiSky) (d : Desk) (c : Nat) : Prop where
 a : Ask F p (stD d) sky d.minute
 g : -1 ≤ d.given ∧ d.given < p.teams.length
 ov : d.over = true → d.given = -1
 ub : d.over = false → d.use_By = -1
 uw : d.use_Window = d.s_Next
 n : d.done.length ≤ c
 us : ∀ k, k < p.teams.length → 0 ≤ d.s_Used.getD k 0 ∧ d.s_Used.getD k 0 ≤ 100 + c
 cs : ∀ k, k < p.teams.length → -100000 - 200 * (c : Int) ≤ d.s_Credit.getD k 0 ∧ d.s_Credit.getD k 0 ≤ 200000 + 200 * c
def turnS (p : WiPlan) (sky : WiSky) (d : Desk) : Int :=
 if d.over = true then -1 else if 0 ≤ d.given then d.given else match rightsS p (stD d) sky d.minute d.done with
 | [] => -1
 | t :: _ => t
def recvS (p : WiPlan) (sky : WiSky) (d : Desk) : List Int :=
 if turnS p sky d < 0 then [] else if 0 ≤ d.given then [] else rightsS p (stD d) sky d.minute (d.done ++ [turnS p sky d])
section
variable {F : Nat} {p : WiPlan} {sky : WiSky} {d : Desk} {c : Nat} {dm : List (Int × Bool)}
theorem tabD_ok (h : DeskOk F p sky d c) : TabOk F (tabD p sky d dm) := by
 have hw := h.a.o.po.win h.a.o.n.1 h.a.n
 exact ⟨h.a.f.f, h.a.f.h, h.a.o.po.t.2, h.a.o.po.ts, h.a.o.u, h.a.o.c, h.a.o.l, h.a.o.ls, h.a.k, hw.d, hw.u, h.a.m⟩
theorem rightsT_D (hd : DoneR d dm) : rightsT (tabD p sky d dm) = rightsS p (stD d) sky d.minute d.done := rightsT_S rfl rfl rfl rfl rfl rfl rfl rfl (fun k => hd k)
theorem turn_eq (h : DeskOk F p sky d c) (hd : DoneR d dm) : window_table_turn F (tabD p sky d dm) = some (turnS p sky d) := by
 have e1 := rights_eq (tabD_ok (dm := dm) h)
 rw [rightsT_D hd] at e1
 unfold window_table_turn turnS
 rw [e1, Option.bind_some]
 have hov := h.ov
 by_cases ho : d.over = true
 ·have h0 := hov ho
  have h1 : ¬ 0 ≤ (tabD p sky d dm).given := by show ¬ 0 ≤ d.given; omega
  have h2 : (tabD p sky d dm).over = true := ho
  rw [if_neg h1, if_pos h2, if_pos ho]
  show some d.given = some (-1)
  rw [h0]
 ·have h2 : ¬ (tabD p sky d dm).over = true := ho
  by_cases hg : 0 ≤ d.given
  ·have h1 : 0 ≤ (tabD p sky d dm).given := hg
   rw [if_pos h1, if_neg ho, if_pos hg]
   rfl
  ·have h1 : ¬ 0 ≤ (tabD p sky d dm).given := hg
   rw [if_neg h1, if_neg h2, if_neg ho, if_neg hg]
   cases rightsS p (stD d) sky d.minute d.done with
   | nil => rfl
   | cons t l =>
    have : 0 < (((t :: l).length : Nat) : Int) := by simp
    rw [if_pos this]
    rfl
theorem turnS_lt (h : DeskOk F p sky d c) : turnS p sky d < p.teams.length := by
 have := h.g
 unfold turnS
 split
 ·omega
 split
 ·omega
 split
 ·omega
 ·rename_i t l he
  have : t ∈ rightsS p (stD d) sky d.minute d.done := by rw [he]; simp
  obtain ⟨k, rfl, hk, _⟩ := rightsS_mem.1 this
  omega
theorem turn_rights (ho : ¬ turnS p sky d < 0) (hg : ¬ 0 ≤ d.given) : ∃ l, rightsS p (stD d) sky d.minute d.done = turnS p sky d :: l := by
 unfold turnS at ho ⊢
 by_cases h1 : d.over = true
 ·rw [if_pos h1] at ho; exact absurd (by omega) ho
 rw [if_neg h1, if_neg hg] at ho ⊢
 cases hr : rightsS p (stD d) sky d.minute d.done with
 | nil => rw [hr] at ho; exact absurd (show (-1 : Int) < 0 by omega) ho
 | cons t l => exact ⟨l, rfl⟩
theorem recv_tail (ho : ¬ turnS p sky d < 0) (hg : ¬ 0 ≤ d.given) : rightsS p (stD d) sky d.minute d.done = turnS p sky d :: recvS p sky d := by
 obtain ⟨l, hl⟩ := turn_rights ho hg
 unfold recvS
 rw [if_neg ho, if_neg hg, rights_tail hl, hl]
def recvO (p : WiPlan) (sky : WiSky) (d : Desk) : Option (List Int) :=
 match recvS p sky d with
 | [] => none
 | _ :: _ => some (rightsS p (stD d) sky d.minute d.done)
theorem receivers_eq (h : DeskOk F p sky d c) (hd : DoneR d dm) : window_table_receivers F (tabD p sky d dm) = some (recvO p sky d) := by
 have e1 := rights_eq (tabD_ok (dm := dm) h)
 rw [rightsT_D hd] at e1
 unfold window_table_receivers recvO
 rw [turn_eq h hd, Option.bind_some, e1, Option.bind_some]
 by_cases h1 : turnS p sky d < 0
 ·rw [if_pos h1]; unfold recvS; rw [if_pos h1]
 ·rw [if_neg h1]
  by_cases h2 : 0 ≤ d.given
  ·have h2' : 0 ≤ (tabD p sky d dm).given := h2
   rw [if_pos h2']; unfold recvS; rw [if_neg h1, if_pos h2]
  ·have h2' : ¬ 0 ≤ (tabD p sky d dm).given := h2
   rw [if_neg h2', recv_tail h1 h2]
   cases recvS p sky d with
   | nil => rfl
   | cons a l => simp
theorem recvO_drop {t : List Int} (h : recvO p sky d = some t) : t.length ≠ 0 ∧ t.drop 1 = recvS p sky d := by
 unfold recvO at h
 cases hr : recvS p sky d with
 | nil => rw [hr] at h; cases h
 | cons a l =>
  rw [hr] at h
  injection h with h
  have h1 : ¬ turnS p sky d < 0 := fun e => by unfold recvS at hr; rw [if_pos e] at hr; cases hr
  have h2 : ¬ 0 ≤ d.given := fun e => by unfold recvS at hr; rw [if_neg h1, if_pos e] at hr; cases hr
  rw [recv_tail h1 h2] at h
  subst h
  exact ⟨by simp, hr⟩
theorem recvO_none (h : recvO p sky d = none) : recvS p sky d = [] := by
 unfold recvO at h
 cases hr : recvS p sky d with
 | nil => rfl
 | cons a l => rw [hr] at h; cases h
theorem must_eq (b : Bool) (e : Int) : window_must F b e = some (if b = true then .ok () else .error e) := by
 unfold window_must
 split <;> simp [*]
end
end Go.Proofs.Ytdefnmcjmklohaa
