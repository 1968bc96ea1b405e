/- The pad as a value: zones, doors, people, keys, squibs; states and acts; how they lie in memory. -/
import Derived.Test.YthcnganbnbhhoaaBase
namespace Go.Proofs.Ythcnganbnbhhoaa
open Go.RowKit
/-- A slice value that reads as a list of elements of 'size' one-cell parts. -/
def ListV {α : Type} [Inhabited α] (size : Nat) (cell : α → Nat → Value) (w : World) (v : Value) (l : List α) : Prop :=
 ∃ A cap, v = .slice A l.length cap ∧ l.length ≤ cap ∧ cap ≤ maxLen ∧ Rows2 w A l.length size (fun i k => cell (l.getD i default) k)
section
variable {α : Type} [Inhabited α] {size : Nat} {cell : α → Nat → Value} {w w' : World} {v : Value} {l : List α}
theorem ListV.cext (h : ListV size cell w v l) (e : CExt w w') : ListV size cell w' v l := by
 obtain ⟨A, cap, h1, h2, h3, h4⟩ := h
 exact ⟨A, cap, h1, h2, h3, h4.cext e⟩
theorem ListV.ext (h : ListV size cell w v l) (e : Ext w w') : ListV size cell w' v l := h.cext e.c
theorem ListV.nil : ListV size cell w (.slice none 0 0) ([] : List α) := ⟨none, 0, rfl, by simp, by simp [maxLen], fun h => absurd h (by simp)⟩
/-- An element: where it lies. -/
theorem ListV.at {A : Option Addr} {n : Nat} (h : Rows2 w A l.length size (fun i k => cell (l.getD i default) k)) (hk : n < l.length) :
 ∃ b off, A = some ⟨b, off, none⟩ ∧ b < w.heap.size ∧ ∀ k, k < size → w.cell? ⟨b, off + n * size + k, none⟩ = some (cell (l.getD n default) k) := by
 obtain ⟨b, off, e, hb, hc⟩ := h (by omega)
 exact ⟨b, off, e, hb, fun k hk' => hc n k hk hk'⟩
end
structure Zone where
 name : ByteArray
 xlo : Int
 xhi : Int
 ylo : Int
 yhi : Int
 grade : Int
 room : Int
 pair : Bool
instance : Inhabited Zone := ⟨⟨ByteArray.empty, 0, 0, 0, 0, 0, 0, false⟩⟩
def Zone.cell (z : Zone) : Nat → Value
 | 0 => .string z.name
 | 1 => .int .i64 z.xlo
 | 2 => .int .i64 z.xhi
 | 3 => .int .i64 z.ylo
 | 4 => .int .i64 z.yhi
 | 5 => .int .i64 z.grade
 | 6 => .int .i64 z.room
 | _ => .bool z.pair
def Zone.val (z : Zone) : Value := .agg #[.string z.name, .int .i64 z.xlo, .int .i64 z.xhi, .int .i64 z.ylo, .int .i64 z.yhi, .int .i64 z.grade, .int .i64 z.room, .bool z.pair]
structure Door where
 a : Int
 b : Int
deriving DecidableEq
instance : Inhabited Door := ⟨⟨0, 0⟩⟩
def Door.cell (d : Door) : Nat → Value
 | 0 => .int .i64 d.a
 | _ => .int .i64 d.b
def Door.val (d : Door) : Value := .agg #[.int .i64 d.a, .int .i64 d.b]
structure Person where
 name : ByteArray
 grade : Int
instance : Inhabited Person := ⟨⟨ByteArray.empty, 0⟩⟩
def Person.cell (d : Person) : Nat → Value
 | 0 => .string d.name
 | _ => .int .i64 d.grade
def Person.val (d : Person) : Value := .agg #[.string d.name, .int .i64 d.grade]
structure Squib where
 name : ByteArray
 x : Int
 y : Int
 clear : Int
 grade : Int
 keys : List Int
instance : Inhabited Squib := ⟨⟨ByteArray.empty, 0, 0, 0, 0, []⟩⟩
/-- A squib, and the slice value of its keys. -/
abbrev SquibX := Squib × Value
instance : Inhabited SquibX := ⟨(default, .slice none 0 0)⟩
def SquibX.cell (q : SquibX) : Nat → Value
 | 0 => .string q.1.name
 | 1 => .int .i64 q.1.x
 | 2 => .int .i64 q.1.y
 | 3 => .int .i64 q.1.clear
 | 4 => .int .i64 q.1.grade
 | _ => q.2
def SquibX.val (q : SquibX) : Value := .agg #[.string q.1.name, .int .i64 q.1.x, .int .i64 q.1.y, .int .i64 q.1.clear, .int .i64 q.1.grade, q.2]
def keyCell (s : ByteArray) : Nat → Value := fun _ => .string s
instance : Inhabited ByteArray := ⟨ByteArray.empty⟩
structure Pad where
 zones : List Zone
 doors : List Door
 people : List Person
 keys : List ByteArray
 squibs : List SquibX
 panel : Int
 wait : Int
/-- No string is longer than Go lets it be. -/
def StrOk (s : ByteArray) : Prop := s.size ≤ 9223372036854775807
def Pad.StrsOk (p : Pad) : Prop := (∀ z ∈ p.zones, StrOk z.name) ∧ (∀ z ∈ p.people, StrOk z.name) ∧ (∀ s ∈ p.keys, StrOk s) ∧ ∀ q ∈ p.squibs, StrOk q.1.name
/-- A value that reads as a pad. -/
def PadV (w : World) (v : Value) (p : Pad) : Prop :=
 p.StrsOk ∧ (∀ q ∈ p.squibs, IntsV w .i64 q.2 q.1.keys) ∧ ∃ a b c d e, v = .agg #[a, b, c, d, e, .int .i64 p.panel, .int .i64 p.wait] ∧
  ListV 8 Zone.cell w a p.zones ∧ ListV 2 Door.cell w b p.doors ∧ ListV 2 Person.cell w c p.people ∧ ListV 1 keyCell w d p.keys ∧ ListV 6 SquibX.cell w e p.squibs
theorem PadV.cext {w w' : World} {v : Value} {p : Pad} (h : PadV w v p) (x : CExt w w') : PadV w' v p := by
 obtain ⟨h0, h1, a, b, c, d, e, h2, h3, h4, h5, h6, h7⟩ := h
 exact ⟨h0, fun q hq => (h1 q hq).cext x, a, b, c, d, e, h2, h3.cext x, h4.cext x, h5.cext x, h6.cext x, h7.cext x⟩
theorem PadV.ext {w w' : World} {v : Value} {p : Pad} (h : PadV w v p) (x : Ext w w') : PadV w' v p := h.cext x.c
structure State where
 now : Int
 zones : List Int
 holder : List Int
 squibs : List Int
 siren : Int
 storm : Bool
def StateV (w : World) (v : Value) (s : State) : Prop :=
 ∃ a b c, v = .agg #[.int .i64 s.now, a, b, c, .int .i64 s.siren, .bool s.storm] ∧ IntsV w .i64 a s.zones ∧ IntsV w .i64 b s.holder ∧ IntsV w .i64 c s.squibs
theorem StateV.cext {w w' : World} {v : Value} {s : State} (h : StateV w v s) (x : CExt w w') : StateV w' v s := by
 obtain ⟨a, b, c, h1, h2, h3, h4⟩ := h
 exact ⟨a, b, c, h1, h2.cext x, h3.cext x, h4.cext x⟩
theorem StateV.ext {w w' : World} {v : Value} {s : State} (h : StateV w v s) (x : Ext w w') : StateV w' v s := h.cext x.c
structure PAct where
 at_ : Int
 kind : Int
 who : Int
 what : Int
 with_ : Int
instance : Inhabited PAct := ⟨⟨0, 0, 0, 0, 0⟩⟩
def PAct.cell (a : PAct) : Nat → Value
 | 0 => .int .i64 a.at_
 | 1 => .int .i64 a.kind
 | 2 => .int .i64 a.who
 | 3 => .int .i64 a.what
 | _ => .int .i64 a.with_
def PAct.val (a : PAct) : Value := .agg #[.int .i64 a.at_, .int .i64 a.kind, .int .i64 a.who, .int .i64 a.what, .int .i64 a.with_]
end Go.Proofs.Ythcnganbnbhhoaa
