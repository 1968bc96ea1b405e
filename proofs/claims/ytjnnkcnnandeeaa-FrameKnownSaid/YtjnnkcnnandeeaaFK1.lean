/- The examples of the document: the sort in words that the kernel reckons. -/
import Derived.Test.YtjnnkcnnandeeaaW2
set_option linter.unusedVariables false
set_option linter.unusedSimpArgs false
open Go Go.Proofs.Ytjnnkcnnandeeaa.Sh Go.Proofs
namespace Go.Proofs.Ytjnnkcnnandeeaa
def insK {β : Type} (lt : β → β → Bool) (a : β) : List β → List β
 | [] => [a]
 | b :: l => bif lt a b then a :: b :: l else b :: insK lt a l
def srtK {β : Type} (lt : β → β → Bool) : List β → List β
 | [] => []
 | a :: l => insK lt a (srtK lt l)
def chkK {β : Type} (lt : β → β → Bool) : List β → Bool
 | [] => true
 | a :: l => l.all (fun b => lt a b) && chkK lt l
theorem insK_perm {β : Type} {lt : β → β → Bool} {a : β} : ∀ l : List β, (insK lt a l).Perm (a :: l)
 | [] => .refl _
 | b :: l => by
  unfold insK
  cases lt a b with
  | true => exact .refl _
  | false => exact ((insK_perm l).cons b).trans (.swap a b l)
theorem srtK_perm {β : Type} {lt : β → β → Bool} : ∀ l : List β, (srtK lt l).Perm l
 | [] => .refl _
 | a :: l => (insK_perm _).trans ((srtK_perm l).cons a)
theorem chkK_ok {β : Type} {lt : β → β → Bool} : ∀ {l : List β}, chkK lt l = true → l.Pairwise (fun x y => lt x y = true)
 | [], _ => .nil
 | a :: l, h => by
  unfold chkK at h
  rw [Bool.and_eq_true, List.all_eq_true] at h
  exact .cons (fun b hb => h.1 b hb) (chkK_ok h.2)
def srtX {β : Type} (lt : β → β → Bool) (l : List β) : Option (List β) := bif chkK lt (srtK lt l) && Nat.blt l.length 4611686018427387904 then some (srtK lt l) else srtO lt l
theorem srtX_eq {β : Type} {lt : β → β → Bool} (ho : LtOk lt) : srtO lt = srtX lt := by
 funext l
 unfold srtX
 cases hc : chkK lt (srtK lt l) && Nat.blt l.length 4611686018427387904 with
 | false => rfl
 | true =>
  rw [Bool.and_eq_true] at hc
  have hs := chkK_ok hc.1
  have hl : l.length < 4611686018427387904 := by simpa using hc.2
  obtain ⟨m, hm⟩ : ∃ m, m = l.mergeSort fun x y => !lt y x := ⟨_, rfl⟩
  have hp : m.Perm l := by rw [hm]; exact List.mergeSort_perm _ _
  have hw : m.Pairwise fun x y => ¬ lt y x = true := by rw [hm]; exact srt_sorted ho _
  have hpart : (srtK lt l).Pairwise fun x y => lt x y = true ∨ lt y x = true := hs.imp fun {x y} h => .inl h
  have hpm : m.Perm (srtK lt l) := hp.trans (srtK_perm l).symm
  have hpart' : m.Pairwise fun x y => lt x y = true ∨ lt y x = true := (hpm.symm.pairwise_iff (fun {x y} h => h.symm)).1 hpart
  have hstrict : m.Pairwise fun x y => lt x y = true := (hw.and hpart').imp fun {x y} h => h.2.resolve_right h.1
  have h0 : srtO lt l = some m := by unfold srtO; rw [← hm, if_pos ⟨hstrict, hl⟩]
  have e := srt_one ho h0 (srtK_perm l) (hs.imp fun {x y} h => by rw [ho.asym x y h]; exact Bool.false_ne_true)
  rw [h0, cond_true, e]
theorem rpLt_k (x y : FrReport) : rpLt x y = true ↔ x.number < y.number ∨ (x.number = y.number ∧ (y.agree < x.agree ∨ (x.agree = y.agree ∧ x.from_ < y.from_))) := by simp [rpLt]
theorem rpLt_ask : LtOk rpLt where
 asym x y h := by
  rw [rpLt_k] at h
  cases h2 : rpLt y x with
  | false => rfl
  | true => rw [rpLt_k] at h2; omega
 nt x y z h1 h2 := by
  cases h3 : rpLt x z with
  | false => rfl
  | true =>
   have h1 : ¬ rpLt x y = true := by rw [h1]; exact Bool.false_ne_true
   have h2 : ¬ rpLt y z = true := by rw [h2]; exact Bool.false_ne_true
   rw [rpLt_k] at h1 h2 h3
   omega
set_option maxRecDepth 100000 in
theorem known_ok : hangfirelaw09_FrameKnown 100 = some true := by
 unfold hangfirelaw09_FrameKnown frame_Merge
 simp only [srtX_eq rpLt_ask]
 kernel_rfl
end Go.Proofs.Ytjnnkcnnandeeaa
