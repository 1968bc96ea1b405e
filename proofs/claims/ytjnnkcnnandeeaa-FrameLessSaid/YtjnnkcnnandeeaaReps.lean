/- Reports as values; what a sky that is right gives; whether a report fits a direction. -/
import Derived.Test.YtjnnkcnnandeeaaWAgr
import Derived.Test.YtjnnkcnnandeeaaWTape
namespace Go.Proofs.Ytjnnkcnnandeeaa
open Go.RowKit
structure RepH where
  num : Int
  frm : Int
  agr : Int
  marked : Bool
  words : List Int
instance : Inhabited RepH := ⟨⟨0, 0, 0, false, []⟩⟩
/-- A report, and the slice value of its words. -/
abbrev RepX := RepH × Value
instance : Inhabited RepX := ⟨(default, .slice none 0 0)⟩
def RepX.val (x : RepX) : Value := .agg #[.int .i64 x.1.num, .int .i64 x.1.frm, .int .i64 x.1.agr, .bool x.1.marked, x.2]
def RepX.cell (x : RepX) : Nat → Value
  | 0 => .int .i64 x.1.num
  | 1 => .int .i64 x.1.frm
  | 2 => .int .i64 x.1.agr
  | 3 => .bool x.1.marked
  | _ => x.2
/-- A slice value that reads as reports. -/
def RepsV (w : World) (v : Value) (xs : List RepX) : Prop :=
  ∃ A cap, v = .slice A xs.length cap ∧ xs.length ≤ cap ∧ cap ≤ maxLen ∧ Rows2 w A xs.length 5 (fun i k => (xs.getD i default).cell k) ∧ ∀ x ∈ xs, IntsV w .i64 x.2 x.1.words
theorem RepsV.cext {w w' : World} {v : Value} {xs : List RepX} (h : RepsV w v xs) (e : CExt w w') : RepsV w' v xs := by
  obtain ⟨A, cap, h1, h2, h3, h4, h5⟩ := h
  exact ⟨A, cap, h1, h2, h3, h4.cext e, fun x hx => (h5 x hx).cext e⟩
theorem RepsV.ext {w w' : World} {v : Value} {xs : List RepX} (h : RepsV w v xs) (e : Ext w w') : RepsV w' v xs := h.cext e.c
theorem reps_row {w : World} {A : Option Addr} {xs : List RepX} {k : Nat} (h : Rows2 w A xs.length 5 (fun i j => (xs.getD i default).cell j)) (hw : ∀ x ∈ xs, IntsV w .i64 x.2 x.1.words) (hk : k < xs.length) :
    ∃ b off r B m cap, A = some ⟨b, off, none⟩ ∧ b < w.heap.size ∧ w.cell? ⟨b, off + k * 5, none⟩ = some (.int .i64 r.num) ∧ w.cell? ⟨b, off + k * 5 + 1, none⟩ = some (.int .i64 r.frm) ∧ w.cell? ⟨b, off + k * 5 + 2, none⟩ = some (.int .i64 r.agr) ∧
      w.cell? ⟨b, off + k * 5 + 3, none⟩ = some (.bool r.marked) ∧ w.cell? ⟨b, off + k * 5 + 4, none⟩ = some (.slice B m cap) ∧ IntsV w .i64 (.slice B m cap) r.words ∧ Hid ((xs.getD k default).1 = r) := by
  obtain ⟨b, off, e, hb, hc⟩ := h (by omega)
  have hm := hw _ (show xs.getD k default ∈ xs by rw [List.getD_eq_getElem?_getD, List.getElem?_eq_getElem hk, Option.getD_some]; exact List.getElem_mem _)
  obtain ⟨B, cap, hv, h1, h2, h3⟩ := hm
  have h4 := hc k 4 hk (by omega)
  simp only [RepX.cell] at h4
  rw [hv] at h4
  exact ⟨b, off, _, B, _, cap, e, hb, hc k 0 hk (by omega), hc k 1 hk (by omega), hc k 2 hk (by omega), hc k 3 hk (by omega), h4, ⟨B, cap, rfl, h1, h2, h3⟩, rfl⟩
theorem dirErr_0 {t : Int} {d : Dir} (h : dirErr t d = 0) : DirOk d ∧ t ≤ dotI d d := by
  unfold dirErr at h
  by_cases h1 : outB d.x (-10000) 10000 = true ∨ outB d.y (-10000) 10000 = true ∨ outB d.z (-10000) 10000 = true
  · rw [if_pos h1] at h; cases h
  · rw [if_neg h1] at h
    by_cases h2 : dotI d d < t
    · rw [if_pos h2] at h; cases h
    · simp only [not_or, Bool.not_eq_true, outB_f] at h1
      exact ⟨⟨h1.1.1, h1.1.2, h1.2.1.1, h1.2.1.2, h1.2.2.1, h1.2.2.2⟩, by omega⟩
theorem senErr_zero {n : Nat} {s : Sen} (h : senErr n s = 0) : (0 ≤ s.chan ∧ s.chan < n) ∧ SenOk s := by
  unfold senErr at h
  by_cases h1 : outB s.chan 0 ((n : Int) - 1) = true
  · rw [if_pos h1] at h; cases h
  · rw [if_neg h1] at h
    by_cases h2 : outB s.x (-1000000) 1000000 = true ∨ outB s.y (-1000000) 1000000 = true ∨ outB s.z (-1000000) 1000000 = true ∨ outB s.scale 1 1000 = true ∨ outB s.err 0 1000000 = true
    · rw [if_pos h2] at h; cases h
    · simp only [not_or, Bool.not_eq_true, outB_f] at h1 h2
      exact ⟨⟨h1.1, by omega⟩, ⟨h2.1.1, h2.1.2, h2.2.1.1, h2.2.1.2, h2.2.2.1.1, h2.2.2.1.2⟩, h2.2.2.2.1.1, h2.2.2.2.1.2, h2.2.2.2.2.1, h2.2.2.2.2.2⟩
/-- A sky that is right. -/
structure SkyOk (f : Fmt) (s : Sky) : Prop where
  fmt : (chk f).2.2 = 0
  pre : SkyPre s
  dirs : DirsOk s s.dirs.length
  sens : SensOk f.channels.length s s.sens.length
theorem SkyOk.of {f : Fmt} {s : Sky} (h : (skyOut f s).2 = 0) : SkyOk f s := by
  unfold skyOut at h
  by_cases hc : (chk f).2.2 = 0
  · rw [if_neg (by simpa using hc)] at h
    unfold skyIn at h
    by_cases h1 : outB s.dirs.length 1 30 = true ∨ 6 < s.sens.length
    · rw [if_pos h1] at h; cases h
    · rw [if_neg h1] at h
      by_cases h2 : outB s.turn (-100000000) 100000000 = true
      · rw [if_pos h2] at h; cases h
      · rw [if_neg h2] at h
        simp only [not_or, Bool.not_eq_true] at h1 h2
        have key : ∀ (e : Nat → Int) (n : Nat), (∀ k, badAt e n = some k → e k = 0 → False) ∧ (badAt e n = none → ∀ j, j < n → e j = 0) := by
          intro e n
          induction n with
          | zero => exact ⟨(fun k hk => by cases hk), fun _ j hj => absurd hj (by omega)⟩
          | succ n ih =>
            constructor
            · intro k hk h0
              rw [badAt] at hk
              cases hb : badAt e n with
              | some m => rw [hb] at hk; injection hk with hk; exact ih.1 m hb (by rw [hk]; exact h0)
              | none =>
                rw [hb] at hk
                dsimp only at hk
                by_cases he : e n = 0
                · rw [if_pos he] at hk; cases hk
                · rw [if_neg he] at hk; injection hk with hk; exact he (by rw [hk]; exact h0)
            · intro hk j hj
              rw [badAt] at hk
              cases hb : badAt e n with
              | some m => rw [hb] at hk; cases hk
              | none =>
                rw [hb] at hk
                dsimp only at hk
                by_cases he : e n = 0
                · by_cases hjn : j = n
                  · rw [hjn]; exact he
                  · exact ih.2 hb j (by omega)
                · rw [if_neg he] at hk; cases hk
        cases hd : badAt (fun i => dirErr s.turn (s.dirs.getD i default)) s.dirs.length with
        | some k => rw [hd] at h; exact absurd h ((key _ _).1 k hd)
        | none =>
          rw [hd] at h
          cases hs : badAt (fun i => senErr f.channels.length (s.sens.getD i default)) s.sens.length with
          | some k => rw [hs] at h; exact absurd h ((key _ _).1 k hs)
          | none => exact ⟨hc, ⟨h1.1, h1.2, h2⟩, (key _ _).2 hd, (key _ _).2 hs⟩
  · rw [if_pos (by simpa using hc)] at h
    exact absurd h hc
/-- Whether a direction fits the sensor k, if it is in the report. -/
def fitK (f : Fmt) (s : Sky) (d : Dir) (r : RepH) (k : Nat) : Bool :=
  !decide (r.num % (f.channels.getD (s.sens.getD k default).chan.toNat default).every = (f.channels.getD (s.sens.getD k default).chan.toNat default).phase) ||
    agreeB d (s.sens.getD k default) (r.words.getD (f.channels.getD (s.sens.getD k default).chan.toNat default).word.toNat 0)
def fitsB (f : Fmt) (s : Sky) (d : Dir) (r : RepH) : Bool := !anyB (fun k => !fitK f s d r k) s.sens.length
theorem fitsB_t {f : Fmt} {s : Sky} {d : Dir} {r : RepH} (h : ∀ k, k < s.sens.length → fitK f s d r k = true) : fitsB f s d r = true := by
  unfold fitsB
  rw [anyB_f.2 (fun j hj => by rw [h j hj]; rfl)]; rfl
theorem fitsB_f {f : Fmt} {s : Sky} {d : Dir} {r : RepH} {k : Nat} (hk : k < s.sens.length) (h : fitK f s d r k = false) : fitsB f s d r = false := by
  unfold fitsB
  rw [anyB_t.2 ⟨k, hk, by rw [h]; rfl⟩]; rfl
/-- A report that is right for the format. -/
def RepOk (f : Fmt) (r : RepH) : Prop := (r.words.length : Int) = f.words ∧ (∀ y ∈ r.words, 0 ≤ y ∧ y ≤ 65535) ∧ 0 ≤ r.num ∧ r.num ≤ 1000000
end Go.Proofs.Ytjnnkcnnandeeaa
