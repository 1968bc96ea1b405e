/- Words for values in memory, over whatever program: slices that read as lists, kept while memory only grows; small lemmas. The check sum, in plain numbers. -/
import Derived.WalkKit
import Derived.WalkSpells
import Derived.WalkLawsBesides
import Derived.Deep.Draws
namespace Go.Proofs.Ytjnnkcnnandeeaa
open Go.RowKit

theorem hide {p : Prop} (h : p) : Hid p := h

theorem ret_int {k : IntKind} {a b : Int} (h : a = b) : Ending.returned (.int k a) = .returned (.int k b) := by rw [h]
theorem ret_bool {a b : Bool} (h : a = b) : Ending.returned (.bool a) = .returned (.bool b) := by rw [h]
theorem val_int {k : IntKind} {a b : Int} (h : a = b) : Value.int k a = .int k b := by rw [h]

/-- The tests of ranges, as words of their own (the walk does not take them apart). -/
def outB (n lo hi : Int) : Bool := decide (n < lo ∨ hi < n)
def inB (n lo hi : Int) : Bool := decide (lo ≤ n ∧ n ≤ hi)
theorem outB_t {n lo hi : Int} : outB n lo hi = true ↔ n < lo ∨ hi < n := by simp [outB]
theorem outB_f {n lo hi : Int} : outB n lo hi = false ↔ lo ≤ n ∧ n ≤ hi := by simp [outB]
theorem inB_t {n lo hi : Int} : inB n lo hi = true ↔ lo ≤ n ∧ n ≤ hi := by simp [inB]
theorem inB_f {n lo hi : Int} : inB n lo hi = false ↔ n < lo ∨ hi < n := by simp [inB]; omega
theorem outB_not (n lo hi : Int) : (!outB n lo hi) = inB n lo hi := by
  rw [Bool.eq_iff_iff, inB_t]; simp [outB_f]

/-- Memory has only grown: every block that was there is as it was. -/
def Ext (w w' : World) : Prop := Below w.heap.size w w'
theorem Ext.refl (w : World) : Ext w w := Below.refl _ w
theorem Ext.size {w w' : World} (h : Ext w w') : w.heap.size ≤ w'.heap.size := Below.size h
theorem Ext.trans {a b c : World} (h : Ext a b) (k : Ext b c) : Ext a c := Below.trans h (Below.mono k h.size)
theorem Ext.drew {a b : World} (h : Ext a b) : Ext a b.drew := Below.drew h
theorem Ext.drewN {a b : World} (h : Ext a b) (n : Nat) : Ext a (b.drewN n) := ⟨h.os, h.tape, h.output, h.size, h.block⟩
theorem Ext.alloc {a b : World} (h : Ext a b) (o : Obj) : Ext a (b.alloc o) := Below.alloc h h.size o
theorem Ext.setCell {a b : World} (h : Ext a b) {p : Addr} (hp : a.heap.size ≤ p.block) (u : Value) : Ext a (b.setCell p u) := Below.setCell h hp u
theorem Ext.cell {w w' : World} (h : Ext w w') {p : Addr} {v : Value} (hc : w.cell? p = some v) : w'.cell? p = some v := by
  rw [Below.cell h (World.block_lt_of_cell? w p hc)]; exact hc
theorem Ext.grown {a b c : World} {row : Option Nat} (h : Ext a b) (hg : b.grownBy c row) (hr : ∀ k, row = some k → a.heap.size ≤ k) : Ext a c :=
  Below.grown h hg h.size hr

/-- Whatever cell was there holds what it held. -/
structure CExt (w w' : World) : Prop where
  size : w.heap.size ≤ w'.heap.size
  cell : ∀ {p : Addr} {v : Value}, w.cell? p = some v → w'.cell? p = some v
theorem Ext.c {w w' : World} (h : Ext w w') : CExt w w' := ⟨h.size, fun hc => h.cell hc⟩
/-- A step that turns nothing below 'base'. -/
theorem Ext.step {a b c : World} {base : Nat} (h : Ext a b) (hb : Below base b c) (hB : a.heap.size ≤ base) : Ext a c :=
  Below.trans h (hb.mono hB)
/-- The slice address 'A' with n elements of one cell each: element j is the value 'g j'. -/
def Row (w : World) (A : Option Addr) (n : Nat) (g : Nat → Value) : Prop :=
  0 < n → ∃ b off, A = some ⟨b, off, none⟩ ∧ b < w.heap.size ∧ ∀ j, j < n → w.cell? ⟨b, off + j, none⟩ = some (g j)
theorem Row.cext {w w' : World} {A : Option Addr} {n : Nat} {g : Nat → Value} (h : Row w A n g) (k : CExt w w') : Row w' A n g := fun hn => by
  obtain ⟨b, off, e, hb, hc⟩ := h hn
  exact ⟨b, off, e, Nat.lt_of_lt_of_le hb k.size, fun j hj => k.cell (hc j hj)⟩
theorem Row.ext {w w' : World} {A : Option Addr} {n : Nat} {g : Nat → Value} (h : Row w A n g) (k : Ext w w') : Row w' A n g := h.cext k.c
theorem Row.zero (w : World) (A : Option Addr) (g : Nat → Value) : Row w A 0 g := fun h => absurd h (by omega)
theorem Row.congr {w : World} {A : Option Addr} {n : Nat} {g g' : Nat → Value} (h : Row w A n g) (hg : ∀ j, j < n → g j = g' j) : Row w A n g' := fun hn => by
  obtain ⟨b, off, e, hb, hc⟩ := h hn
  exact ⟨b, off, e, hb, fun j hj => by rw [hc j hj, hg j hj]⟩

/-- The same for elements of 'size' cells: cell f of element i is 'g i f'. -/
def Rows2 (w : World) (A : Option Addr) (n size : Nat) (g : Nat → Nat → Value) : Prop :=
  0 < n → ∃ b off, A = some ⟨b, off, none⟩ ∧ b < w.heap.size ∧ ∀ i f, i < n → f < size → w.cell? ⟨b, off + i * size + f, none⟩ = some (g i f)
theorem Rows2.cext {w w' : World} {A : Option Addr} {n size : Nat} {g : Nat → Nat → Value} (h : Rows2 w A n size g) (k : CExt w w') : Rows2 w' A n size g := fun hn => by
  obtain ⟨b, off, e, hb, hc⟩ := h hn
  exact ⟨b, off, e, Nat.lt_of_lt_of_le hb k.size, fun i f hi hf => k.cell (hc i f hi hf)⟩

theorem Rows2.ext {w w' : World} {A : Option Addr} {n size : Nat} {g : Nat → Nat → Value} (h : Rows2 w A n size g) (k : Ext w w') : Rows2 w' A n size g := h.cext k.c

/-- A slice value that reads as a list of integers of one kind. -/
def IntsV (w : World) (k : IntKind) (v : Value) (l : List Int) : Prop :=
  ∃ A cap, v = .slice A l.length cap ∧ l.length ≤ cap ∧ cap ≤ maxLen ∧ Row w A l.length (fun j => .int k (l.getD j 0))
theorem IntsV.cext {w w' : World} {k : IntKind} {v : Value} {l : List Int} (h : IntsV w k v l) (e : CExt w w') : IntsV w' k v l := by
  obtain ⟨A, cap, h1, h2, h3, h4⟩ := h
  exact ⟨A, cap, h1, h2, h3, h4.cext e⟩
theorem IntsV.ext {w w' : World} {k : IntKind} {v : Value} {l : List Int} (h : IntsV w k v l) (e : Ext w w') : IntsV w' k v l := h.cext e.c
theorem IntsV.nil (w : World) (k : IntKind) : IntsV w k (.slice none 0 0) [] := ⟨none, 0, rfl, by simp, by simp [maxLen], Row.zero _ _ _⟩

/-- A slice of bytes. -/
def BytesV (w : World) (v : Value) (l : List Nat) : Prop :=
  (∀ x ∈ l, x < 256) ∧ ∃ A cap, v = .slice A l.length cap ∧ l.length ≤ cap ∧ cap ≤ maxLen ∧ Row w A l.length (fun j => .int .u8 (l.getD j 0 : Nat))
theorem BytesV.cext {w w' : World} {v : Value} {l : List Nat} (h : BytesV w v l) (e : CExt w w') : BytesV w' v l := by
  obtain ⟨h0, A, cap, h1, h2, h3, h4⟩ := h
  exact ⟨h0, A, cap, h1, h2, h3, h4.cext e⟩
theorem BytesV.ext {w w' : World} {v : Value} {l : List Nat} (h : BytesV w v l) (e : Ext w w') : BytesV w' v l := h.cext e.c
theorem BytesV.nil (w : World) : BytesV w (.slice none 0 0) [] := ⟨by simp, none, 0, rfl, by simp, by simp [maxLen], Row.zero _ _ _⟩

theorem ofInt_i64 (a : Nat) (ha : a < 9223372036854775808) : (BitVec.ofInt 64 (a : Int)).toNat = a := by
  rw [BitVec.ofInt_natCast, BitVec.toNat_ofNat]; exact Nat.mod_eq_of_lt (by omega)
theorem i64_and_nat (a b : Nat) (ha : a < 9223372036854775808) (hb : b < 9223372036854775808) : bits .and .i64 (a : Int) (b : Int) = ((a &&& b : Nat) : Int) := by
  have hx : a &&& b < 2 ^ 63 := Nat.and_lt_two_pow _ (by omega)
  show IntKind.i64.wrap ((BitVec.ofInt 64 (a : Int) &&& BitVec.ofInt 64 (b : Int)).toNat : Int) = _
  rw [BitVec.toNat_and, ofInt_i64 a ha, ofInt_i64 b hb, IntKind.wrap_i64]
  omega
theorem i64_or_nat (a b : Nat) (ha : a < 9223372036854775808) (hb : b < 9223372036854775808) : bits .or .i64 (a : Int) (b : Int) = ((a ||| b : Nat) : Int) := by
  have hx : a ||| b < 2 ^ 63 := Nat.or_lt_two_pow (by omega) (by omega)
  show IntKind.i64.wrap ((BitVec.ofInt 64 (a : Int) ||| BitVec.ofInt 64 (b : Int)).toNat : Int) = _
  rw [BitVec.toNat_or, ofInt_i64 a ha, ofInt_i64 b hb, IntKind.wrap_i64]
  omega
theorem i64_xor_nat (a b : Nat) (ha : a < 9223372036854775808) (hb : b < 9223372036854775808) : bits .xor .i64 (a : Int) (b : Int) = ((a ^^^ b : Nat) : Int) := by
  have hx : a ^^^ b < 2 ^ 63 := Nat.xor_lt_two_pow (by omega) (by omega)
  show IntKind.i64.wrap ((BitVec.ofInt 64 (a : Int) ^^^ BitVec.ofInt 64 (b : Int)).toNat : Int) = _
  rw [BitVec.toNat_xor, ofInt_i64 a ha, ofInt_i64 b hb, IntKind.wrap_i64]
  omega
/-- One byte of a slice, under a letter of its own. -/
theorem bytes_at {w : World} {A : Option Addr} {l : List Nat} {k : Nat} (h : Row w A l.length (fun j => .int .u8 (l.getD j 0 : Nat))) (hl : ∀ x ∈ l, x < 256) (hk : k < l.length) :
    ∃ b off x, A = some ⟨b, off, none⟩ ∧ b < w.heap.size ∧ x < 256 ∧ w.cell? ⟨b, off + k, none⟩ = some (.int .u8 (x : Nat)) ∧ Hid (l.getD k 0 = x) := by
  obtain ⟨b, off, e, hb, hc⟩ := h (by omega)
  refine ⟨b, off, l.getD k 0, e, hb, ?_, hc k hk, rfl⟩
  simp only [List.getD_eq_getElem?_getD, List.getElem?_eq_getElem hk, Option.getD_some]
  exact hl _ (List.getElem_mem _)
/-- One integer of a slice, under a letter of its own. -/
theorem ints_at {w : World} {A : Option Addr} {ik : IntKind} {l : List Int} {k : Nat} (h : Row w A l.length (fun j => .int ik (l.getD j 0))) (hk : k < l.length) :
    ∃ b off x, A = some ⟨b, off, none⟩ ∧ b < w.heap.size ∧ w.cell? ⟨b, off + k, none⟩ = some (.int ik x) ∧ Hid (l.getD k 0 = x) := by
  obtain ⟨b, off, e, hb, hc⟩ := h (by omega)
  exact ⟨b, off, l.getD k 0, e, hb, hc k hk, rfl⟩

end Go.Proofs.Ytjnnkcnnandeeaa
namespace Go.Proofs.Ytjnnkcnnandeeaa
def crcBit (s : Nat) : Nat := if s < 32768 then 2 * s else (2 * s - 65536) ^^^ 4129
def crcBits : Nat → Nat → Nat
  | 0, s => s
  | k + 1, s => crcBit (crcBits k s)
def crcByte (s c : Nat) : Nat := crcBits 8 (s ^^^ (c * 256))
def crc (l : List Nat) : Nat := l.foldl crcByte 65535
theorem crcBit_lt (s : Nat) (h : s < 65536) : crcBit s < 65536 := by
  unfold crcBit; split
  · omega
  · exact Nat.xor_lt_two_pow (n := 16) (by omega) (by omega)
theorem crcBits_lt (k s : Nat) (h : s < 65536) : crcBits k s < 65536 := by
  induction k with
  | zero => exact h
  | succ k ih => exact crcBit_lt _ ih
theorem crcByte_lt (s c : Nat) (h : s < 65536) (hc : c < 256) : crcByte s c < 65536 :=
  crcBits_lt _ _ (Nat.xor_lt_two_pow (n := 16) (by omega) (by omega))
theorem crc_foldl_lt (l : List Nat) (s : Nat) (hs : s < 65536) (h : ∀ x ∈ l, x < 256) : l.foldl crcByte s < 65536 := by
  induction l generalizing s with
  | nil => exact hs
  | cons x l ih =>
    rw [List.foldl_cons]
    have h1 := crcByte_lt s x hs (h x (by simp))
    generalize crcByte s x = t at *
    exact ih t h1 (fun y hy => h y (by simp [hy]))
theorem crc_lt (l : List Nat) (h : ∀ x ∈ l, x < 256) : crc l < 65536 := by
  have h1 : (65535 : Nat) < 65536 := by decide
  unfold crc
  generalize 65535 = s at *
  exact crc_foldl_lt l s h1 h
theorem crc_take_succ (l : List Nat) (k : Nat) (h : k < l.length) : crc (l.take (k + 1)) = crcByte (crc (l.take k)) (l.getD k 0) := by
  unfold crc
  rw [List.take_succ_eq_append_getElem h, List.foldl_append]
  simp [List.getD_eq_getElem?_getD, h]
theorem getD_mem_lt (l : List Nat) (k : Nat) (B : Nat) (hB : 0 < B) (h : ∀ x ∈ l, x < B) : l.getD k 0 < B := by
  rw [List.getD_eq_getElem?_getD]
  by_cases hk : k < l.length
  · simp only [List.getElem?_eq_getElem hk, Option.getD_some]; exact h _ (List.getElem_mem _)
  · simp only [List.getElem?_eq_none (by omega : l.length ≤ k), Option.getD_none]; exact hB
end Go.Proofs.Ytjnnkcnnandeeaa
