/- Plain facts of frames that stand one behind the other: they are decoded as they are, and what follows as if it were alone. -/
import Derived.Test.YtjnnkcnnandeeaaPSent
namespace Go.Proofs.Ytjnnkcnnandeeaa
open Go.RowKit
/-- A frame's number and words, as they can be sent. -/
def FrOk (f : Fmt) (p : Int × List Int) : Prop := (p.2.length : Int) = f.words ∧ ∀ x ∈ p.2, 0 ≤ x ∧ x ≤ 65535
def cat (f : Fmt) (ps : List (Int × List Int)) : List Nat := ps.flatMap fun p => frameOf f p.1 p.2
/-- What they are decoded as, from a place on. -/
def sentAs (z : Nat) : Nat → List (Int × List Int) → List FrD
  | _, [] => []
  | a, p :: r => ⟨a, (p.1 % 256).toNat, p.2⟩ :: sentAs z (a + z) r
section
variable {f : Fmt}
theorem bodyOf_len {p : Int × List Int} (h : FrOk f p) : (bodyOf f p.1 p.2).length = bodyF f := by
  have := h.1
  unfold bodyOf bodyF
  simp only [List.length_append, syncOf_length, wordsOf_length, List.length_cons, List.length_nil]
  omega
theorem frameOf_len {p : Int × List Int} (h : FrOk f p) : (frameOf f p.1 p.2).length = sizeF f := by
  unfold frameOf sizeF
  rw [List.length_append, bodyOf_len h]
  rfl
theorem frameOf_lt {p : Int × List Int} (h : FrOk f p) : ∀ x ∈ frameOf f p.1 p.2, x < 256 := by
  intro x hx
  unfold frameOf at hx
  rcases List.mem_append.1 hx with hx | hx
  · exact bodyOf_lt f p.1 p.2 h.2 x hx
  · exact pairOf_lt _ (crc_lt _ (bodyOf_lt f p.1 p.2 h.2)) x hx
theorem window_frame {p : Int × List Int} (h : FrOk f p) (pre rest : List Nat) : window f (pre ++ (frameOf f p.1 p.2 ++ rest)) pre.length = frameOf f p.1 p.2 := by
  unfold window
  rw [List.drop_left' rfl, List.take_left' (frameOf_len h)]
theorem wordsOf_inj : ∀ (a b : List Int), a.length = b.length → (∀ x ∈ a, 0 ≤ x ∧ x ≤ 65535) → (∀ x ∈ b, 0 ≤ x ∧ x ≤ 65535) → wordsOf a = wordsOf b → a = b
  | [], [], _, _, _, _ => rfl
  | x :: a, y :: b, hl, ha, hb, h => by
    simp only [wordsOf, pairOf, List.cons_append, List.nil_append, List.cons.injEq] at h
    have h1 := ha x (by simp)
    have h2 := hb y (by simp)
    rw [wordsOf_inj a b (by simpa using hl) (fun z hz => ha z (by simp [hz])) (fun z hz => hb z (by simp [hz])) h.2.2]
    congr 1
    omega
  | [], y :: b, hl, _, _, _ => by simp at hl
  | x :: a, [], hl, _, _, _ => by simp at hl
theorem wordAt_ok {head : Nat} {own : List Nat} (hb : ∀ x ∈ own, x < 256) (k : Nat) : ∀ x ∈ wordsAt head own k, 0 ≤ x ∧ x ≤ 65535 := by
  intro x hx
  unfold wordsAt at hx
  obtain ⟨i, _, rfl⟩ := List.mem_map.1 hx
  have g1 := getD_mem_lt own (head + 1 + 2 * i) 256 (by omega) hb
  have g2 := getD_mem_lt own (head + 2 + 2 * i) 256 (by omega) hb
  unfold wordAt
  omega
theorem frAt_frame {p : Int × List Int} (h : FrOk f p) (pre rest : List Nat) : frAt f (pre ++ (frameOf f p.1 p.2 ++ rest)) pre.length = ⟨pre.length, (p.1 % 256).toNat, p.2⟩ := by
  have hl := frameOf_len h
  have hb := frameOf_lt h
  have hs := syncOf_length f
  have hw := wordsOf_length p.2
  have h1 := h.1
  have hwn : p.2.length = f.words.toNat := by omega
  unfold frAt
  rw [window_frame h]
  have e : frameOf f p.1 p.2 = syncOf f ++ ((p.1 % 256).toNat :: (wordsOf p.2 ++ pairOf (crc (bodyOf f p.1 p.2)))) := by
    unfold frameOf
    generalize pairOf (crc (bodyOf f p.1 p.2)) = q
    unfold bodyOf
    simp
  have hz : sizeF f = f.sync.size + 1 + 2 * f.words.toNat + 2 := rfl
  congr 1
  · rw [e, List.getD_eq_getElem?_getD, List.getElem?_append_right (by omega), hs, Nat.sub_self]
    rfl
  · refine wordsOf_inj _ _ (by unfold wordsAt; simp [hwn]) (wordAt_ok hb _) h.2 ?_
    rw [wordsOf_at hb _ (by omega), e]
    rw [show f.sync.size + 1 = (syncOf f).length + 1 by rw [hs], ← List.drop_drop, List.drop_left' rfl, List.drop_one, List.tail_cons, List.take_left' (by omega)]
theorem okAt_frame {p : Int × List Int} (h : FrOk f p) {pre rest : List Nat} (hp : ∀ x ∈ pre, x < 256) (hr : ∀ x ∈ rest, x < 256) : okAt f (pre ++ (frameOf f p.1 p.2 ++ rest)) pre.length = true := by
  refine (frame_window (by rw [List.length_append, List.length_append, frameOf_len h]; omega) ?_).1 ?_
  · intro x hx
    rcases List.mem_append.1 hx with hx | hx
    · exact hp x hx
    · rcases List.mem_append.1 hx with hx | hx
      · exact frameOf_lt h x hx
      · exact hr x hx
  · rw [frAt_frame h, window_frame h]
    dsimp only
    have : (((p.1 % 256).toNat : Nat) : Int) % 256 = p.1 % 256 := by omega
    unfold frameOf bodyOf
    rw [this]
theorem foundB_frame {p : Int × List Int} (h : FrOk f p) {pre rest : List Nat} (hp : ∀ x ∈ pre, x < 256) (hr : ∀ x ∈ rest, x < 256) : foundB f (pre ++ (frameOf f p.1 p.2 ++ rest)) pre.length = true := by
  unfold foundB
  rw [okAt_frame h hp hr, Bool.and_true]
  have := frameOf_len h
  simp only [List.length_append]
  exact decide_eq_true (by omega)
theorem cat_lt {ps : List (Int × List Int)} (h : ∀ p ∈ ps, FrOk f p) : ∀ x ∈ cat f ps, x < 256 := by
  intro x hx
  obtain ⟨p, hp, hx⟩ := List.mem_flatMap.1 hx
  exact frameOf_lt (h p hp) x hx
theorem cat_len {ps : List (Int × List Int)} (h : ∀ p ∈ ps, FrOk f p) : (cat f ps).length = ps.length * sizeF f := by
  induction ps with
  | nil => simp [cat]
  | cons p ps ih =>
    have := ih fun q hq => h q (by simp [hq])
    unfold cat at this ⊢
    rw [List.flatMap_cons, List.length_append, this, frameOf_len (h p (by simp)), List.length_cons, Nat.succ_mul, Nat.add_comm]
/-- Frames that stand one behind the other, and then what follows. -/
theorem scan_cat {b : List Nat} (hb : ∀ x ∈ b, x < 256) : ∀ (ps : List (Int × List Int)) (pre : List Nat), (∀ p ∈ ps, FrOk f p) → (∀ x ∈ pre, x < 256) →
    scanAt f (pre ++ (cat f ps ++ b)) pre.length = sentAs (sizeF f) pre.length ps ++ scanAt f (pre ++ (cat f ps ++ b)) (pre.length + (cat f ps).length)
  | [], pre, _, _ => by simp [cat, sentAs]
  | p :: ps, pre, h, hp => by
    have hk := h p (by simp)
    have ih := scan_cat hb ps (pre ++ frameOf f p.1 p.2) (fun q hq => h q (by simp [hq])) (by
      intro x hx
      rcases List.mem_append.1 hx with hx | hx
      · exact hp x hx
      · exact frameOf_lt hk x hx)
    have e : pre ++ (cat f (p :: ps) ++ b) = pre ++ (frameOf f p.1 p.2 ++ (cat f ps ++ b)) := by unfold cat; rw [List.flatMap_cons, List.append_assoc]
    have e2 : (pre ++ frameOf f p.1 p.2) ++ (cat f ps ++ b) = pre ++ (frameOf f p.1 p.2 ++ (cat f ps ++ b)) := by rw [List.append_assoc]
    have e3 : (pre ++ frameOf f p.1 p.2).length = pre.length + sizeF f := by rw [List.length_append, frameOf_len hk]
    rw [e2, e3] at ih
    have hr : ∀ x ∈ cat f ps ++ b, x < 256 := by
      intro x hx
      rcases List.mem_append.1 hx with hx | hx
      · exact cat_lt (fun q hq => h q (by simp [hq])) x hx
      · exact hb x hx
    rw [e, scanAt_hit (foundB_frame hk hp hr), frAt_frame hk, sentAs, List.cons_append, ih]
    congr 3
    unfold cat
    rw [List.flatMap_cons, List.length_append, frameOf_len hk]
    omega
theorem frames_cat {ps : List (Int × List Int)} (h : ∀ p ∈ ps, FrOk f p) : framesOf f (cat f ps) = sentAs (sizeF f) 0 ps := by
  have := scan_cat (f := f) (b := []) (by simp) ps [] h (by simp)
  simp only [List.nil_append, List.append_nil, List.length_nil, Nat.zero_add] at this
  rw [← scanAt_zero, this, scanAt_end, List.append_nil]
theorem gaps_sentAs {z len : Nat} : ∀ (ps : List (Int × List Int)) (a : Nat), len = a + ps.length * z → gapsFrom z len a (sentAs z a ps) = []
  | [], a, h => by simp [sentAs, gapsFrom]; simp at h; omega
  | p :: ps, a, h => by
    rw [sentAs, gapsFrom]
    dsimp only
    rw [if_neg (by omega), List.nil_append, gaps_sentAs ps (a + z) (by rw [h, List.length_cons, Nat.succ_mul]; omega)]
theorem gaps_cat {ps : List (Int × List Int)} (h : ∀ p ∈ ps, FrOk f p) : gapsOf f (cat f ps) = [] := by
  unfold gapsOf
  rw [frames_cat h, cat_len h]
  exact gaps_sentAs ps 0 (by omega)
theorem sentAs_len (z : Nat) : ∀ (ps : List (Int × List Int)) (a : Nat), (sentAs z a ps).length = ps.length
  | [], _ => rfl
  | p :: ps, a => by rw [sentAs, List.length_cons, sentAs_len z ps, List.length_cons]
theorem sentAs_at (z : Nat) : ∀ (ps : List (Int × List Int)) (a i : Nat), i < ps.length → (sentAs z a ps).getD i default = ⟨a + i * z, ((ps.getD i default).1 % 256).toNat, (ps.getD i default).2⟩
  | [], _, i, h => by simp at h
  | p :: ps, a, 0, _ => by rw [sentAs]; simp
  | p :: ps, a, i + 1, h => by
    rw [sentAs, List.getD_cons_succ, List.getD_cons_succ, sentAs_at z ps (a + z) i (by simpa using h), Nat.succ_mul]
    congr 1
    omega
end
end Go.Proofs.Ytjnnkcnnandeeaa
