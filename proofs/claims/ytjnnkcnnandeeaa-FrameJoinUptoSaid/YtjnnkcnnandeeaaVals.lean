/- The values of a channel: what Values answers, plain; and how a list of values lies in memory. -/
import Derived.Test.YtjnnkcnnandeeaaWRefNum
import Derived.Test.YtjnnkcnnandeeaaDetT
namespace Go.Proofs.Ytjnnkcnnandeeaa
open Go.RowKit
theorem value_info : (Try.prog.info? 44).map (fun i => (i.zero, i.size, i.bytes)) = some (some (.agg #[.int .i64 0, .int .i64 0]), 2, 16) := by kernel_rfl
def valC (p : Int × Int) : List Value := [.int .i64 p.1, .int .i64 p.2]
theorem valC_len (ps : List (Int × Int)) : (ps.flatMap valC).length = ps.length * 2 := by
  induction ps with
  | nil => rfl
  | cons p ps ih => rw [List.flatMap_cons, List.length_append, ih]; simp [valC]; omega
def pairAt (ps : List (Int × Int)) (i k : Nat) : Value := if k = 0 then .int .i64 (ps.getD i (0, 0)).1 else .int .i64 (ps.getD i (0, 0)).2
/-- A slice value that reads as a list of pairs of numbers. -/
def ValsV (w : World) (v : Value) (ps : List (Int × Int)) : Prop :=
  ∃ A cap, v = .slice A ps.length cap ∧ ps.length ≤ cap ∧ cap ≤ maxLen ∧ Rows2 w A ps.length 2 (pairAt ps)
theorem valC_at (ps : List (Int × Int)) : ∀ (i k : Nat), i < ps.length → k < 2 → (ps.flatMap valC)[i * 2 + k]? = some (pairAt ps i k) := by
  induction ps with
  | nil => intro i k hi; simp at hi
  | cons p ps ih =>
    intro i k hi hk
    rw [List.flatMap_cons]
    cases i with
    | zero =>
      rw [List.getElem?_append_left (by simp [valC]; omega)]
      match k, hk with
      | 0, _ => rfl
      | 1, _ => rfl
    | succ i =>
      rw [List.getElem?_append_right (by simp [valC]; omega)]
      have : (i + 1) * 2 + k - (valC p).length = i * 2 + k := by simp [valC]; omega
      rw [this, ih i k (by simpa using hi) hk]
      rfl
theorem Own.vals {w : World} {base : Nat} {v : Value} {n : Nat} {ps : List (Int × Int)} (h : Own w base 44 2 v n (ps.flatMap valC)) : ValsV w v ps := by
  have hn : n = ps.length := by have := h.1; rw [valC_len] at this; omega
  subst hn
  rcases h.2 with ⟨rfl, h0⟩ | ⟨g, cap, cur, lo, hi, rfl, hb, hg, hnc, hm, hcs, _, ht⟩
  · exact ⟨none, 0, by rw [h0], by omega, by simp [maxLen], fun hp => by omega⟩
  · refine ⟨_, cap, rfl, hnc, hm, fun hpos => ⟨g, 0, rfl, (Array.getElem?_eq_some_iff.1 hg).1, fun i k hi hk => ?_⟩⟩
    have hu := valC_at ps i k hi hk
    rw [Nat.zero_add, cell_of_row w g (i * 2 + k) cur 44 _ hg]
    rw [← ht, List.getElem?_take] at hu
    split at hu
    · simpa using hu
    · cases hu
theorem ValsV.nil (w : World) : ValsV w (.slice none 0 0) [] := ⟨none, 0, rfl, Nat.le_refl _, by simp [maxLen], fun h => absurd h (by simp)⟩
theorem ValsV.cext {w w' : World} {v : Value} {ps : List (Int × Int)} (h : ValsV w v ps) (k : CExt w w') : ValsV w' v ps := by
  obtain ⟨A, cap, h1, h2, h3, h4⟩ := h
  exact ⟨A, cap, h1, h2, h3, h4.cext k⟩
theorem ValsV.ext {w w' : World} {v : Value} {ps : List (Int × Int)} (h : ValsV w v ps) (k : Ext w w') : ValsV w' v ps := h.cext k.c
/-- The error of Values. -/
def valErr (f : Fmt) (l : List Nat) (first ch : Int) : Int :=
  if tapeErr f l.length first ≠ 0 then tapeErr f l.length first else if outB ch 0 ((f.channels.length : Int) - 1) = true then 4 else readErr first (framesOf f l)
/-- The values of the first k frames. -/
def valAt (c : Chan) (ns : List Int) (fs : List FrD) : Nat → List (Int × Int)
  | 0 => []
  | k + 1 => valAt c ns fs k ++ if ns.getD k 0 % c.every = c.phase then [(ns.getD k 0, (fs.getD k default).words.getD c.word.toNat 0)] else []
def valsOf (f : Fmt) (l : List Nat) (first ch : Int) : List (Int × Int) :=
  if valErr f l first ch = 0 then valAt (f.channels.getD ch.toNat default) (nums first (framesOf f l)) (framesOf f l) (framesOf f l).length else []
theorem valAt_len (c : Chan) (ns : List Int) (fs : List FrD) : ∀ k, (valAt c ns fs k).length ≤ k
  | 0 => Nat.le_refl _
  | k + 1 => by
    have := valAt_len c ns fs k
    unfold valAt
    rw [List.length_append]
    split
    · simp; omega
    · simp; omega
theorem valAt_yes {c : Chan} {ns : List Int} {fs : List FrD} {k : Nat} {n x : Int} (hn : ns.getD k 0 = n) (h : n % c.every = c.phase) (hx : (fs.getD k default).words.getD c.word.toNat 0 = x) :
    valAt c ns fs (k + 1) = valAt c ns fs k ++ [(n, x)] := by
  rw [valAt, hn, if_pos h, hx]
theorem valAt_no {c : Chan} {ns : List Int} {fs : List FrD} {k : Nat} {n : Int} (hn : ns.getD k 0 = n) (h : ¬ n % c.every = c.phase) : valAt c ns fs (k + 1) = valAt c ns fs k := by
  rw [valAt, hn, if_neg h, List.append_nil]
theorem valErr_tape {f : Fmt} {l : List Nat} {first ch : Int} (h : tapeErr f l.length first ≠ 0) : valErr f l first ch = tapeErr f l.length first := if_pos h
theorem valErr_chan {f : Fmt} {l : List Nat} {first ch : Int} (h : tapeErr f l.length first = 0) (ho : outB ch 0 ((f.channels.length : Int) - 1) = true) : valErr f l first ch = 4 := by
  unfold valErr; rw [if_neg (by simpa using h), if_pos ho]
theorem valErr_read {f : Fmt} {l : List Nat} {first ch : Int} (h : tapeErr f l.length first = 0) (ho : outB ch 0 ((f.channels.length : Int) - 1) = false) : valErr f l first ch = readErr first (framesOf f l) := by
  unfold valErr; rw [if_neg (by simpa using h), if_neg (by rw [ho]; decide)]
theorem valsOf_bad {f : Fmt} {l : List Nat} {first ch : Int} (h : valErr f l first ch ≠ 0) : valsOf f l first ch = [] := if_neg h
theorem valsOf_ok {f : Fmt} {l : List Nat} {first ch : Int} (h : valErr f l first ch = 0) : valsOf f l first ch = valAt (f.channels.getD ch.toNat default) (nums first (framesOf f l)) (framesOf f l) (framesOf f l).length := if_pos h
theorem scan_words (f : Fmt) (l : List Nat) : ∀ k pos, ∀ x ∈ scan f l k pos, x.words.length = f.words.toNat
  | 0, _, x, h => by simp [scan] at h
  | k + 1, pos, x, h => by
    unfold scan at h
    split at h
    · split at h
      · rcases List.mem_cons.1 h with rfl | h
        · simp [frAt, wordsAt]
        · exact scan_words f l k _ x h
      · exact scan_words f l k _ x h
    · simp at h
theorem frames_words {f : Fmt} {l : List Nat} : ∀ x ∈ framesOf f l, x.words.length = f.words.toNat := scan_words f l _ _
theorem nums_pos {first : Int} (h : 0 ≤ first) (fs : List FrD) : ∀ k, 0 ≤ (nums first fs).getD k 0 := by
  induction fs generalizing first with
  | nil => intro k; simp [nums]
  | cons x fs ih =>
    intro k
    have hn : 0 ≤ nextOf first x.count := by unfold nextOf; omega
    rw [nums]
    cases k with
    | zero => exact hn
    | succ k => exact ih (by omega) k
/-- A frame's slice of words, and the word at a place. -/
theorem frs_at {w : World} {A : Option Addr} {xs : List FrX} {k : Nat} (h : Rows2 w A xs.length 3 (fun i j => (xs.getD i default).cell j)) (hw : ∀ x ∈ xs, IntsV w .i64 x.2 x.1.words) (hk : k < xs.length) {j : Nat} (hj : j < ((ds xs).getD k default).words.length) :
    ∃ b off b2 off2 m cap x, A = some ⟨b, off, none⟩ ∧ b < w.heap.size ∧ b2 < w.heap.size ∧ j < m ∧ w.cell? ⟨b, off + k * 3 + 2, none⟩ = some (.slice (some ⟨b2, off2, none⟩) m cap) ∧ m ≤ cap ∧ cap ≤ maxLen ∧
      w.cell? ⟨b2, off2 + j, none⟩ = some (.int .i64 x) ∧ Hid (((ds xs).getD k default).words.getD j 0 = x) := by
  obtain ⟨b, off, e, hb, hc⟩ := h (by omega)
  have hc2 := hc k 2 hk (by omega)
  have hd : (ds xs).getD k default = (xs.getD k default).1 := by
    unfold ds
    simp only [List.getD_eq_getElem?_getD, List.getElem?_map, List.getElem?_eq_getElem hk, Option.map_some, Option.getD_some]
  rw [hd] at hj ⊢
  have hm : xs.getD k default ∈ xs := by
    rw [List.getD_eq_getElem?_getD, List.getElem?_eq_getElem hk, Option.getD_some]; exact List.getElem_mem _
  obtain ⟨A2, cap2, e2, h1, h2, h3⟩ := hw _ hm
  obtain ⟨b2, off2, x, rfl, hb2, hcx, hx⟩ := ints_at h3 hj
  refine ⟨b, off, b2, off2, _, cap2, x, e, hb, hb2, hj, ?_, h1, h2, hcx, hx⟩
  rw [hc2, ← e2]; rfl
end Go.Proofs.Ytjnnkcnnandeeaa
