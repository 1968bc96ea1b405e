/- Plain facts of the frames that are decoded: their order, their gaps, and that each is what Encode returns. -/
import Derived.Test.YtjnnkcnnandeeaaWDecode
namespace Go.Proofs.Ytjnnkcnnandeeaa
open Go.RowKit
theorem scan_sorted (f : Fmt) (l : List Nat) : ∀ (k pos a i : Nat), a ≤ pos → i < (scan f l k pos).length → lastEnd (sizeF f) a ((scan f l k pos).take i) ≤ ((scan f l k pos).getD i default).pos
  | 0, _, _, i, _, hi => by simp [scan] at hi
  | k + 1, pos, a, i, ha, hi => by
    unfold scan at hi ⊢
    split
    · split
      · rename_i h1 h2
        rw [if_pos h1, if_pos h2] at hi
        cases i with
        | zero => exact ha
        | succ i =>
          rw [List.take_succ_cons, lastEnd, List.getD_cons_succ]
          exact scan_sorted f l k _ _ i (Nat.le_refl _) (by simpa using hi)
      · rename_i h1 h2
        rw [if_pos h1, if_neg h2] at hi
        exact scan_sorted f l k _ a i (by omega) hi
    · rename_i h1
      rw [if_neg h1] at hi
      simp at hi
theorem scan_is {f : Fmt} {l : List Nat} : ∀ k pos, ∀ x ∈ scan f l k pos, x = frAt f l x.pos ∧ okAt f l x.pos = true
  | 0, _, x, h => by simp [scan] at h
  | k + 1, pos, x, h => by
    unfold scan at h
    split at h
    · split at h
      · rcases List.mem_cons.1 h with rfl | h
        · rename_i h2; exact ⟨rfl, h2⟩
        · exact scan_is k _ x h
      · exact scan_is k _ x h
    · simp at h
theorem frames_sorted {f : Fmt} {l : List Nat} {i : Nat} (hi : i < (framesOf f l).length) : lastEnd (sizeF f) 0 ((framesOf f l).take i) ≤ ((framesOf f l).getD i default).pos :=
  scan_sorted f l _ _ _ _ (Nat.le_refl _) hi
theorem getD_mem {α : Type} {l : List α} {i : Nat} (d : α) (h : i < l.length) : l.getD i d ∈ l := by
  rw [List.getD_eq_getElem?_getD, List.getElem?_eq_getElem h, Option.getD_some]; exact List.getElem_mem _
theorem take_snoc {α : Type} {l : List α} {i : Nat} (d : α) (h : i < l.length) : l.take (i + 1) = l.take i ++ [l.getD i d] := by
  rw [List.take_succ_eq_append_getElem h, List.getD_eq_getElem?_getD, List.getElem?_eq_getElem h, Option.getD_some]
theorem gapsMid_append {z : Nat} : ∀ (p q : List FrD) (a : Nat), gapsMid z a (p ++ q) = gapsMid z a p ++ gapsMid z (lastEnd z a p) q
  | [], q, a => by rw [List.nil_append, gapsMid, lastEnd, List.nil_append]
  | x :: p, q, a => by rw [List.cons_append, gapsMid, gapsMid_append p q, gapsMid, lastEnd, List.append_assoc]
/-- How many gaps there are before the frame i. -/
def gapNo (f : Fmt) (l : List Nat) (i : Nat) : Nat := (gapsMid (sizeF f) 0 ((framesOf f l).take i)).length
def endNo (f : Fmt) (l : List Nat) (i : Nat) : Nat := lastEnd (sizeF f) 0 ((framesOf f l).take i)
/-- Where what comes after the frames before i ends: the frame i, or the bytes. -/
def untilNo (f : Fmt) (l : List Nat) (i : Nat) : Nat := if i < (framesOf f l).length then ((framesOf f l).getD i default).pos else l.length
section
variable {f : Fmt} {l : List Nat} {i : Nat}
theorem endNo_le : endNo f l i ≤ untilNo f l i := by
  unfold untilNo endNo
  split
  · exact frames_sorted (by assumption)
  · refine lastEnd_le _ 0 (Nat.zero_le _) (fun x hx => scan_le _ _ x (List.mem_of_mem_take hx))
/-- The gap before the frame i stands at its place. -/
theorem gap_here (h : endNo f l i < untilNo f l i) : gapNo f l i < (gapsOf f l).length ∧ (gapsOf f l).getD (gapNo f l i) (0, 0) = (endNo f l i, untilNo f l i) := by
  unfold gapsOf gapNo
  rw [gapsFrom_eq]
  unfold endNo untilNo at h
  unfold endNo untilNo
  split at h
  · rename_i hlt
    rw [if_pos hlt]
    have e : framesOf f l = (framesOf f l).take i ++ (framesOf f l).getD i default :: (framesOf f l).drop (i + 1) := by
      conv => lhs; rw [← List.take_append_drop (i + 1) (framesOf f l), take_snoc default hlt, List.append_assoc]
      rfl
    have hg : gapsMid (sizeF f) 0 (framesOf f l) = gapsMid (sizeF f) 0 ((framesOf f l).take i) ++ ((lastEnd (sizeF f) 0 ((framesOf f l).take i), ((framesOf f l).getD i default).pos) :: gapsMid (sizeF f) (((framesOf f l).getD i default).pos + sizeF f) ((framesOf f l).drop (i + 1))) := by
      conv => lhs; rw [e]
      rw [gapsMid_append, gapsMid, if_pos h, List.singleton_append]
    rw [hg]
    constructor
    · simp
    · simp [List.getD_eq_getElem?_getD]
  · rename_i hlt
    rw [if_neg hlt]
    have ei : (framesOf f l).take i = framesOf f l := List.take_of_length_le (by omega)
    rw [ei] at h ⊢
    rw [if_pos h]
    constructor
    · simp
    · simp [List.getD_eq_getElem?_getD]
theorem gapNo_zero : gapNo f l 0 = 0 := rfl
theorem endNo_zero : endNo f l 0 = 0 := rfl
theorem gapNo_succ (hi : i < (framesOf f l).length) : gapNo f l (i + 1) = gapNo f l i + if endNo f l i < untilNo f l i then 1 else 0 := by
  unfold gapNo endNo untilNo
  rw [if_pos hi, take_snoc default hi, gapsMid_snoc, List.length_append]
  split <;> rfl
theorem endNo_succ (hi : i < (framesOf f l).length) : endNo f l (i + 1) = untilNo f l i + sizeF f := by
  unfold endNo untilNo
  rw [if_pos hi, take_snoc default hi, lastEnd_snoc]
theorem gaps_all : (gapsOf f l).length = gapNo f l (framesOf f l).length + if endNo f l (framesOf f l).length < l.length then 1 else 0 := by
  unfold gapsOf gapNo endNo
  rw [gapsFrom_eq, List.take_length, List.length_append]
  split <;> rfl
/-- A frame that is decoded is what Encode returns. -/
theorem sent_again (hc : (chk f).2.2 = 0) (hb : ∀ x ∈ l, x < 256) (hi : i < (framesOf f l).length) :
    encErr f (((framesOf f l).getD i default).count : Nat) ((framesOf f l).getD i default).words = 0 ∧ encOf f (((framesOf f l).getD i default).count : Nat) ((framesOf f l).getD i default).words = window f l (untilNo f l i) ∧ untilNo f l i + sizeF f ≤ l.length := by
  have hm := getD_mem default hi
  obtain ⟨h1, h2⟩ := scan_is _ _ _ hm
  have h3 := scan_le _ _ _ hm
  have hu : untilNo f l i = ((framesOf f l).getD i default).pos := by unfold untilNo; rw [if_pos hi]
  rw [hu]
  generalize ((framesOf f l).getD i default) = x at *
  obtain ⟨c1, c2, c3, c4, c5, _⟩ := chk_ok hc
  have hwb : ∀ y ∈ window f l x.pos, y < 256 := fun y hy => hb y (List.mem_of_mem_drop (List.mem_of_mem_take hy))
  have hcnt : x.count < 256 := by rw [h1]; exact getD_mem_lt _ _ 256 (by omega) hwb
  have hwl : (x.words.length : Int) = f.words := by rw [h1]; unfold frAt wordsAt; simp; omega
  have hbad : badB x.words = false := by
    unfold badB
    rw [anyB_f]
    intro j hj
    rw [outB_f]
    rw [h1] at hj ⊢
    unfold frAt wordsAt at hj ⊢
    simp only [List.length_map, List.length_range] at hj
    simp only [List.getD_eq_getElem?_getD, List.getElem?_map, List.getElem?_range hj, Option.map_some, Option.getD_some]
    have g1 := getD_mem_lt (window f l x.pos) (f.sync.size + 1 + 2 * j) 256 (by omega) hwb
    have g2 := getD_mem_lt (window f l x.pos) (f.sync.size + 2 + 2 * j) 256 (by omega) hwb
    unfold wordAt
    omega
  have he := encErr_ok (askErr_ok hc (outB_f.2 ⟨by omega, by omega⟩ : outB (x.count : Nat) 0 1000000 = false)) hwl hbad
  refine ⟨he, ?_, h3⟩
  unfold encOf
  rw [if_pos he]
  have := (frame_window h3 hb).2 h2
  rw [← h1] at this
  exact this
end
end Go.Proofs.Ytjnnkcnnandeeaa
