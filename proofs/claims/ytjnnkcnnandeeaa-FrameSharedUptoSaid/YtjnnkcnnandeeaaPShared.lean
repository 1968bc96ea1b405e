/- Plain facts of frames whose words are those of channels: what Values tells of them. -/
import Derived.Test.YtjnnkcnnandeeaaWSentB
import Derived.Test.YtjnnkcnnandeeaaWRefCom
import Derived.Test.YtjnnkcnnandeeaaVals
namespace Go.Proofs.Ytjnnkcnnandeeaa
open Go.RowKit
/-- The frames of a Sent, numbered. -/
theorem nums_as (z : Nat) : ∀ (a : List Nat) (n : Int) (p : Nat) (ps : List (Int × List Int)), (∀ x ∈ a, x < 256) → ps.map (·.1) = sNums n a → nums n (sentAs z p ps) = sNums n a
  | [], n, p, ps, _, h => by
    rw [sNums, List.map_eq_nil_iff] at h
    rw [h]; rfl
  | s :: a, n, p, [], _, h => by simp [sNums] at h
  | s :: a, n, p, q :: ps, hl, h => by
    rw [sNums, List.map_cons, List.cons.injEq] at h
    have hs := hl s (by simp)
    have e : nextOf n (q.1 % 256).toNat = n + (s : Int) := by unfold nextOf; rw [h.1]; omega
    rw [sentAs, nums]
    dsimp only
    rw [e, sNums, nums_as z a _ _ ps (fun y hy => hl y (by simp [hy])) h.2]
def hList (f : Fmt) (x : SentD) (i : Nat) : List Int := sList x.words i f.channels.length
/-- The frames whose words are those of the channels. -/
def hPair (f : Fmt) (x : SentD) (i : Nat) : Int × List Int := ((sentNums x).getD i 0, comAt f ((sentNums x).getD i 0) (hList f x i) f.channels.length)
def hPairs (f : Fmt) (x : SentD) (k : Nat) : List (Int × List Int) := (List.range k).map (hPair f x)
def hBytes (f : Fmt) (x : SentD) : List Nat := cat f (hPairs f x (sentNums x).length)
theorem comAt_bd {f : Fmt} {n : Int} {l : List Int} (h : ∀ y ∈ l, 0 ≤ y ∧ y ≤ 65535) : ∀ k, ∀ y ∈ comAt f n l k, 0 ≤ y ∧ y ≤ 65535
  | 0, y, hy => by
    rw [comAt] at hy
    have := List.eq_of_mem_replicate hy
    omega
  | k + 1, y, hy => by
    rw [comAt] at hy
    split at hy
    · rcases List.mem_or_eq_of_mem_set hy with hy | rfl
      · exact comAt_bd h k y hy
      · by_cases hk : k < l.length
        · exact h _ (getD_mem (0 : Int) hk)
        · rw [List.getD_eq_getElem?_getD, List.getElem?_eq_none (by omega)]; simp
    · exact comAt_bd h k y hy
section
variable {f : Fmt} {x : SentD}
theorem hList_len (i : Nat) : (hList f x i).length = f.channels.length := sList_len _ _ _
theorem hPair_ok (hw : 1 ≤ f.words) (h : ∀ y ∈ x.words, 0 ≤ y ∧ y < 65536) (i : Nat) : FrOk f (hPair f x i) :=
  ⟨by unfold hPair; dsimp only; rw [comAt_length]; omega, comAt_bd (sList_bd h _ _) _⟩
theorem hPairs_ok (hw : 1 ≤ f.words) (h : ∀ y ∈ x.words, 0 ≤ y ∧ y < 65536) (k : Nat) : ∀ p ∈ hPairs f x k, FrOk f p := by
  intro p hp
  unfold hPairs at hp
  obtain ⟨i, _, rfl⟩ := List.mem_map.1 hp
  exact hPair_ok hw h i
theorem hPairs_snoc (k : Nat) : cat f (hPairs f x (k + 1)) = cat f (hPairs f x k) ++ frameOf f (hPair f x k).1 (hPair f x k).2 := by
  unfold hPairs cat
  rw [List.range_succ, List.map_append, List.flatMap_append]
  simp
theorem hPairs_len (k : Nat) : (hPairs f x k).length = k := by unfold hPairs; simp
theorem hPairs_fst : (hPairs f x (sentNums x).length).map (·.1) = sentNums x := by
  unfold hPairs
  rw [List.map_map]
  have := map_range_getD (sentNums x) 0 (fun y : Int => y)
  rw [List.map_id'] at this
  exact this
theorem hPairs_at {i : Nat} (hi : i < (sentNums x).length) : (hPairs f x (sentNums x).length).getD i default = hPair f x i := by
  unfold hPairs
  simp [List.getD_eq_getElem?_getD, hi]
/-- Commute and Encode of the frame i. -/
theorem com_sent (hc : (chk f).2.2 = 0) (hs : sentOk x = true) (h : ∀ y ∈ x.words, 0 ≤ y ∧ y < 65536) {i : Nat} (hi : i < (sentNums x).length) :
    comErr f ((sentNums x).getD i 0) (hList f x i) = 0 ∧ comOf f ((sentNums x).getD i 0) (hList f x i) = (hPair f x i).2 ∧
    encErr f ((sentNums x).getD i 0) (hPair f x i).2 = 0 ∧ encOf f ((sentNums x).getD i 0) (hPair f x i).2 = frameOf f (hPair f x i).1 (hPair f x i).2 := by
  obtain ⟨c1, c2, c3, c4, c5, _⟩ := chk_ok hc
  have hn := sentNums_bd hs _ (getD_mem (0 : Int) hi)
  have ha := askErr_ok hc (outB_f.2 hn)
  have hbad : ∀ l : List Int, (∀ y ∈ l, 0 ≤ y ∧ y ≤ 65535) → badB l = false := by
    intro l hl
    unfold badB
    rw [anyB_f]
    intro j hj
    rw [outB_f]
    exact hl _ (getD_mem (0 : Int) hj)
  have hk := hPair_ok (f := f) (x := x) c4 h i
  have e1 : comErr f ((sentNums x).getD i 0) (hList f x i) = 0 := by
    unfold comErr
    rw [if_neg (by simpa using ha), if_neg (by rw [hList_len]; simp), if_neg (by rw [show badB (hList f x i) = false from hbad _ (sList_bd h _ _)]; decide)]
  have e2 : encErr f ((sentNums x).getD i 0) (hPair f x i).2 = 0 := encErr_ok ha hk.1 (hbad _ hk.2)
  refine ⟨e1, ?_, e2, ?_⟩
  · unfold comOf
    rw [if_pos e1]
    rfl
  · unfold encOf
    rw [if_pos e2]
    rfl
/-- A channel that is in the frame, and no other at its word. -/
theorem comAt_get (hc : (chk f).2.2 = 0) {n : Int} {l : List Int} {c : Nat} (hcl : c < f.channels.length) (hin : n % (f.channels.getD c default).every = (f.channels.getD c default).phase) :
    ∀ k, c < k → k ≤ f.channels.length → (comAt f n l k).getD (f.channels.getD c default).word.toNat 0 = l.getD c 0
  | k + 1, hck, hk => by
    obtain ⟨c1, c2, c3, c4, c5, c6, c7, c8, c9⟩ := chk_ok hc
    obtain ⟨a1, a2, a3, a4, a5, a6, a7⟩ := chanErr_ok (c9 c hcl)
    have hw := outB_f.1 a3
    by_cases h : c = k
    · subst h
      rw [comAt, if_pos hin, List.getD_eq_getElem?_getD, List.getElem?_set_self (by rw [comAt_length]; omega)]
      rfl
    · have ih := comAt_get hc hcl hin (l := l) k (by omega) (by omega)
      rw [comAt]
      split
      · rename_i hin2
        obtain ⟨b1, b2, b3, b4, b5, b6, b7⟩ := chanErr_ok (c9 k (by omega))
        have hp1 := outB_f.1 a6
        have hp2 := outB_f.1 b6
        have hw2 := outB_f.1 b3
        have hm := anyB_f.1 b7 c (by omega)
        have hne : (f.channels.getD k default).word ≠ (f.channels.getD c default).word := by
          intro he
          rw [both_meet (deep_every c8 b4 b5) (deep_every c8 a4 a5) hp2.1 (by omega) hp1.1 (by omega)] at hm
          rw [decide_eq_true he.symm, Bool.true_and] at hm
          unfold bothB at hm
          rw [List.any_eq_false] at hm
          have h16 : ∀ e : Int, (e = 1 ∨ e = 2 ∨ e = 4 ∨ e = 8 ∨ e = 16) → (n % 16) % e = n % e := by
            intro e he
            rcases he with rfl | rfl | rfl | rfl | rfl <;> omega
          have := hm (n % 16).toNat (List.mem_range.2 (by omega))
          rw [Int.toNat_of_nonneg (by omega), h16 _ (deep_every c8 a4 a5), h16 _ (deep_every c8 b4 b5), hin, hin2] at this
          simp at this
        rw [List.getD_eq_getElem?_getD, List.getElem?_set_ne (by omega), ← List.getD_eq_getElem?_getD]
        exact ih
      · exact ih
/-- The tape, if it is short enough. -/
theorem tape_sent (hc : (chk f).2.2 = 0) (hs : sentOk x = true) (h : ∀ y ∈ x.words, 0 ≤ y ∧ y < 65536) (hst : ∀ y ∈ x.steps, y < 256) (hl : (hBytes f x).length ≤ 4000) {c : Nat} (hcl : c < f.channels.length) :
    framesOf f (hBytes f x) = sentAs (sizeF f) 0 (hPairs f x (sentNums x).length) ∧ valErr f (hBytes f x) x.first c = 0 ∧
    valsOf f (hBytes f x) x.first c = valAt (f.channels.getD c default) (sentNums x) (sentAs (sizeF f) 0 (hPairs f x (sentNums x).length)) (sentNums x).length := by
  obtain ⟨c1, c2, c3, c4, c5, _⟩ := chk_ok hc
  obtain ⟨s1, s2, s3, s4⟩ := sOk_t hs
  have hf : framesOf f (hBytes f x) = sentAs (sizeF f) 0 (hPairs f x (sentNums x).length) := frames_cat (hPairs_ok c4 h _)
  have hn : nums x.first (framesOf f (hBytes f x)) = sentNums x := by
    rw [hf]
    have e := hPairs_fst (f := f) (x := x)
    rw [s4] at e ⊢
    exact nums_as _ _ _ _ _ hst e
  have ht : tapeErr f (hBytes f x).length x.first = 0 := by
    unfold tapeErr
    rw [if_neg (by simpa using hc), if_neg (by omega), if_neg (by rw [outB_f.2 ⟨s1, s2⟩]; decide)]
  have hr : readErr x.first (framesOf f (hBytes f x)) = 0 := by
    unfold readErr
    rw [hn, if_neg]
    unfold farB
    rw [List.any_eq_true]
    rintro ⟨y, hy, hlt⟩
    have := sentNums_bd hs y hy
    have := of_decide_eq_true hlt
    omega
  have hv : valErr f (hBytes f x) x.first c = 0 := by rw [valErr_read ht (outB_f.2 ⟨by omega, by omega⟩), hr]
  refine ⟨hf, hv, ?_⟩
  rw [valsOf_ok hv, hn, hf, sentAs_len, hPairs_len, Int.toNat_natCast]
/-- What Values tells of the first frames. -/
def hVals (f : Fmt) (x : SentD) (c i : Nat) : List (Int × Int) := valAt (f.channels.getD c default) (sentNums x) (sentAs (sizeF f) 0 (hPairs f x (sentNums x).length)) i
theorem hVals_yes (hc : (chk f).2.2 = 0) {c i : Nat} (hcl : c < f.channels.length) (hi : i < (sentNums x).length) {n : Int} (hn : (sentNums x).getD i 0 = n) (hin : n % (f.channels.getD c default).every = (f.channels.getD c default).phase) :
    hVals f x c (i + 1) = hVals f x c i ++ [(n, (hList f x i).getD c 0)] := by
  refine valAt_yes hn hin ?_
  rw [sentAs_at _ _ _ _ (by rw [hPairs_len]; exact hi), hPairs_at hi]
  unfold hPair
  dsimp only
  rw [hn]
  exact comAt_get hc hcl hin _ hcl (Nat.le_refl _)
theorem hVals_no {c i : Nat} {n : Int} (hn : (sentNums x).getD i 0 = n) (hin : ¬ n % (f.channels.getD c default).every = (f.channels.getD c default).phase) : hVals f x c (i + 1) = hVals f x c i := valAt_no hn hin
theorem valAt_take (c : Chan) (ns : List Int) (fs : List FrD) : ∀ (m k : Nat), k ≤ m → ∃ r, valAt c ns fs m = valAt c ns fs k ++ r
  | 0, 0, _ => ⟨[], by simp⟩
  | m + 1, k, h => by
    by_cases hk : k = m + 1
    · subst hk; exact ⟨[], by simp⟩
    · obtain ⟨r, hr⟩ := valAt_take c ns fs m k (by omega)
      rw [valAt, hr, List.append_assoc]
      exact ⟨_, rfl⟩
/-- The value that the frame i has, where it stands. -/
theorem hVals_at (hc : (chk f).2.2 = 0) {c i : Nat} (hcl : c < f.channels.length) (hi : i < (sentNums x).length) {n : Int} (hn : (sentNums x).getD i 0 = n) (hin : n % (f.channels.getD c default).every = (f.channels.getD c default).phase) :
    (hVals f x c i).length < (hVals f x c (sentNums x).length).length ∧ (hVals f x c (sentNums x).length).getD (hVals f x c i).length (0, 0) = (n, (hList f x i).getD c 0) := by
  obtain ⟨r, hr⟩ := valAt_take (f.channels.getD c default) (sentNums x) (sentAs (sizeF f) 0 (hPairs f x (sentNums x).length)) (sentNums x).length (i + 1) (by omega)
  have e : hVals f x c (sentNums x).length = (hVals f x c i ++ [(n, (hList f x i).getD c 0)]) ++ r := by rw [← hVals_yes hc hcl hi hn hin]; exact hr
  rw [e]
  constructor
  · simp
  · simp [List.getD_eq_getElem?_getD]
end
end Go.Proofs.Ytjnnkcnnandeeaa
