/- The frames of bytes, in plain words; pieces of bytes in memory. -/
import Derived.Test.YtjnnkcnnandeeaaWTape
import Derived.Laws.BytesArg
namespace Go.Proofs.Ytjnnkcnnandeeaa
open Go.RowKit
structure FrD where
  pos : Nat
  count : Nat
  words : List Int
/-- How many bytes a frame of the format has, less the two of the check sum. -/
def bodyF (f : Fmt) : Nat := f.sync.size + 1 + 2 * f.words.toNat
def sizeF (f : Fmt) : Nat := bodyF f + 2
def window (f : Fmt) (b : List Nat) (pos : Nat) : List Nat := (b.drop pos).take (sizeF f)
def syncOk (f : Fmt) (own : List Nat) : Bool := decide (own.take f.sync.size = syncOf f)
def sumOk (f : Fmt) (own : List Nat) : Bool := own.drop (bodyF f) == pairOf (crc (own.take (bodyF f)))
def okAt (f : Fmt) (b : List Nat) (pos : Nat) : Bool := syncOk f (window f b pos) && sumOk f (window f b pos)
def wordAt (head : Nat) (own : List Nat) (i : Nat) : Int := (own.getD (head + 1 + 2 * i) 0 * 256 + own.getD (head + 2 + 2 * i) 0 : Nat)
def wordsAt (head : Nat) (own : List Nat) (k : Nat) : List Int := (List.range k).map (wordAt head own)
def frAt (f : Fmt) (b : List Nat) (pos : Nat) : FrD := ⟨pos, (window f b pos).getD f.sync.size 0, wordsAt f.sync.size (window f b pos) f.words.toNat⟩
def scan (f : Fmt) (b : List Nat) : Nat → Nat → List FrD
  | 0, _ => []
  | k + 1, pos => if pos + sizeF f ≤ b.length then (if okAt f b pos then frAt f b pos :: scan f b k (pos + sizeF f) else scan f b k (pos + 1)) else []
def framesOf (f : Fmt) (b : List Nat) : List FrD := scan f b (b.length + 1) 0
theorem wordsAt_succ (head : Nat) (own : List Nat) (k : Nat) : wordsAt head own (k + 1) = wordsAt head own k ++ [wordAt head own k] := by
  unfold wordsAt; rw [List.range_succ, List.map_append]; rfl
theorem window_len {f : Fmt} {b : List Nat} {pos : Nat} (h : pos + sizeF f ≤ b.length) : (window f b pos).length = sizeF f := by
  unfold window; rw [List.length_take, List.length_drop]; omega
/-- A string of bytes. -/
def strOf (l : List Nat) : ByteArray := strOfNums (l.map fun (b : Nat) => (b : Int))
theorem strOf_eq {l : List Nat} (hl : ∀ x ∈ l, x < 256) (s : ByteArray) : strOf l = s ↔ l = s.data.toList.map (fun b => b.toNat) := by
  unfold strOf strOfNums
  constructor
  · rintro rfl
    simp only [List.map_map]
    apply List.ext_getElem
    · simp
    · intro i h1 h2
      have := hl _ (List.getElem_mem h1)
      simp only [List.getElem_map, Function.comp_apply, Int.toNat_natCast, UInt8.toNat_ofNat']
      omega
  · intro h
    subst h
    simp only [List.map_map]
    have : (s.data.toList.map ((fun n : Int => UInt8.ofNat n.toNat) ∘ (fun b : Nat => (b : Int)) ∘ fun b => b.toNat)) = s.data.toList := by
      conv => rhs; rw [← List.map_id s.data.toList]
      apply List.map_congr_left
      intro a _
      simp
    rw [this]
theorem strOf_sync {l : List Nat} (hl : ∀ x ∈ l, x < 256) (f : Fmt) : decide (strOf l = f.sync) = decide (l = syncOf f) := by
  have := strOf_eq hl f.sync
  unfold syncOf
  simp only [this]
/-- Bytes in memory, from a known place on. -/
def Bytes (w : World) (b off : Nat) (l : List Nat) : Prop := ∀ j, j < l.length → w.cell? ⟨b, off + j, none⟩ = some (.int .u8 (l.getD j 0 : Nat))
theorem Bytes.ext {w w' : World} {b off : Nat} {l : List Nat} (h : Bytes w b off l) (k : Ext w w') : Bytes w' b off l := fun j hj => k.cell (h j hj)
theorem Bytes.block {w w' : World} {b off : Nat} {l : List Nat} (h : Bytes w b off l) (k : w'.heap[b]? = w.heap[b]?) : Bytes w' b off l := fun j hj => by
  rw [← h j hj]; unfold World.cell?; rw [k]
theorem Bytes.sub {w : World} {b off : Nat} {l : List Nat} (h : Bytes w b off l) (i k : Nat) (hik : i + k ≤ l.length) : Bytes w b (off + i) ((l.drop i).take k) := fun j hj => by
  have hlen : ((l.drop i).take k).length = k := by rw [List.length_take, List.length_drop]; omega
  rw [hlen] at hj
  rw [Nat.add_assoc, h (i + j) (by omega)]
  simp only [List.getD_eq_getElem?_getD, List.getElem?_take, hj, if_true, List.getElem?_drop]
theorem Bytes.v {w : World} {b off cap : Nat} {l : List Nat} (h : Bytes w b off l) (hb : b < w.heap.size) (hl : ∀ x ∈ l, x < 256) (hc : l.length ≤ cap) (hm : cap ≤ maxLen) :
    BytesV w (.slice (some ⟨b, off, none⟩) l.length cap) l := ⟨hl, _, cap, rfl, hc, hm, fun _ => ⟨b, off, rfl, hb, h⟩⟩
theorem Bytes.v' {w : World} {b off cap n : Nat} {l : List Nat} (h : Bytes w b off l) (hb : b < w.heap.size) (hl : ∀ x ∈ l, x < 256) (hn : l.length = n) (hc : n ≤ cap) (hm : cap ≤ maxLen) :
    BytesV w (.slice (some ⟨b, off, none⟩) n cap) l := by subst hn; exact h.v hb hl hc hm
theorem conv_string {P : Program} (w : World) (src e : TypeId) (hs : P.underlying src = some (.slice e)) (he : P.underlying e = some (.int .u8)) {dst : TypeId} (hd : P.underlying dst = some .string) {b off n cap : Nat} {l : List Nat}
    (h : Bytes w b off l) (hn : l.length = n) : (convert src dst (.slice (some ⟨b, off, none⟩) n cap)).run P w = .ok (.string (strOf l)) w := by
  refine run_convert_bytes_arg w src e hs he b off n cap _ (by simpa using hn) (fun i hi => ?_) dst hd
  rw [h i (by omega)]
  simp [List.getD_eq_getElem?_getD, List.getElem?_eq_getElem (show i < l.length by omega)]
theorem mem_sub {l : List Nat} {i k : Nat} (h : ∀ x ∈ l, x < 256) : ∀ x ∈ (l.drop i).take k, x < 256 := fun x hx => h x (List.mem_of_mem_drop (List.mem_of_mem_take hx))
end Go.Proofs.Ytjnnkcnnandeeaa
