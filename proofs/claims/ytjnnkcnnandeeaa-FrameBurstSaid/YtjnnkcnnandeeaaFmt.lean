/- The formats of frames as values: channels, formats, and how they lie in memory. -/
import Derived.Test.YtjnnkcnnandeeaaOwn
namespace Go.Proofs.Ytjnnkcnnandeeaa
open Go.RowKit
structure Chan where
  name : ByteArray
  word : Int
  every : Int
  phase : Int
instance : Inhabited Chan := ⟨⟨ByteArray.empty, 0, 0, 0⟩⟩
def Chan.val (c : Chan) : Value := .agg #[.string c.name, .int .i64 c.word, .int .i64 c.every, .int .i64 c.phase]
def Chan.cell (c : Chan) : Nat → Value
  | 0 => .string c.name
  | 1 => .int .i64 c.word
  | 2 => .int .i64 c.every
  | _ => .int .i64 c.phase
/-- A slice value that reads as a list of channels. -/
def ChansV (w : World) (v : Value) (l : List Chan) : Prop :=
  ∃ A cap, v = .slice A l.length cap ∧ l.length ≤ cap ∧ cap ≤ maxLen ∧ Rows2 w A l.length 4 (fun i f => (l.getD i default).cell f)
theorem ChansV.cext {w w' : World} {v : Value} {l : List Chan} (h : ChansV w v l) (e : CExt w w') : ChansV w' v l := by
  obtain ⟨A, cap, h1, h2, h3, h4⟩ := h
  exact ⟨A, cap, h1, h2, h3, h4.cext e⟩
theorem ChansV.ext {w w' : World} {v : Value} {l : List Chan} (h : ChansV w v l) (e : Ext w w') : ChansV w' v l := h.cext e.c
theorem chans_at {w : World} {A : Option Addr} {l : List Chan} {k : Nat} (h : Rows2 w A l.length 4 (fun i f => (l.getD i default).cell f)) (hk : k < l.length) :
    ∃ b off nm wd ev ph, A = some ⟨b, off, none⟩ ∧ b < w.heap.size ∧ w.cell? ⟨b, off + k * 4, none⟩ = some (.string nm) ∧ w.cell? ⟨b, off + k * 4 + 1, none⟩ = some (.int .i64 wd) ∧
      w.cell? ⟨b, off + k * 4 + 2, none⟩ = some (.int .i64 ev) ∧ w.cell? ⟨b, off + k * 4 + 3, none⟩ = some (.int .i64 ph) ∧ Hid (l.getD k default = ⟨nm, wd, ev, ph⟩) := by
  obtain ⟨b, off, e, hb, hc⟩ := h (by omega)
  exact ⟨b, off, _, _, _, _, e, hb, hc k 0 hk (by omega), hc k 1 hk (by omega), hc k 2 hk (by omega), hc k 3 hk (by omega), rfl⟩
theorem ChansV.take {w : World} {A : Option Addr} {l : List Chan} {k : Nat} (h : Rows2 w A l.length 4 (fun i f => (l.getD i default).cell f)) (hk : k ≤ l.length) :
    Rows2 w A (l.take k).length 4 (fun i f => ((l.take k).getD i default).cell f) := by
  intro hn
  rw [List.length_take] at hn
  obtain ⟨b, off, e, hb, hc⟩ := h (by omega)
  refine ⟨b, off, e, hb, fun i f hi hf => ?_⟩
  rw [List.length_take] at hi
  rw [hc i f (by omega) hf]
  simp only [List.getD_eq_getElem?_getD, List.getElem?_take, if_pos (show i < k by omega)]
structure Fmt where
  sync : ByteArray
  words : Int
  depth : Int
  channels : List Chan
/-- A value that reads as a format. -/
def FmtV (w : World) (v : Value) (f : Fmt) : Prop :=
  f.sync.size ≤ 9223372036854775807 ∧ (∀ c ∈ f.channels, c.name.size ≤ 9223372036854775807) ∧
  ∃ A cap, v = .agg #[.string f.sync, .int .i64 f.words, .int .i64 f.depth, .slice A f.channels.length cap] ∧ f.channels.length ≤ cap ∧ cap ≤ maxLen ∧
    Rows2 w A f.channels.length 4 (fun i k => (f.channels.getD i default).cell k)
theorem FmtV.cext {w w' : World} {v : Value} {f : Fmt} (h : FmtV w v f) (e : CExt w w') : FmtV w' v f := by
  obtain ⟨h0, h00, A, cap, h1, h2, h3, h4⟩ := h
  exact ⟨h0, h00, A, cap, h1, h2, h3, h4.cext e⟩
theorem FmtV.ext {w w' : World} {v : Value} {f : Fmt} (h : FmtV w v f) (e : Ext w w') : FmtV w' v f := h.cext e.c
end Go.Proofs.Ytjnnkcnnandeeaa
