/- What a pad, a state, an act, lists of acts and numbers that came in read as. -/
import Derived.Test.YthcnganbnbhhoaaVals
import Derived.Test.YthcnganbnbhhoaaCs
import Derived.ProofKit
import Derived.OpenShut
import Derived.ShutString
import Derived.ChangeOld
import Derived.Below
import Derived.Lib.SmallJoins
import Derived.Deep.Slices
import Derived.Test.YthcnganbnbhhoaaProg
namespace Go.Proofs.Ythcnganbnbhhoaa
open Go.ChangeShapes Go.WideShapes Go.ChangeAt Go.RowKit Go.Joins Go.Deep
/-- A slice of integers that came in: it is nil; or it leads to a row of 'cap' cells, the first 'len' of which are its elements. -/
def IsRow (k : IntKind) (w : World) (a : Option Addr) (len cap : Nat) (zs : List Int) : Prop :=
 (a = none ∧ len = 0 ∧ cap = 0 ∧ zs = []) ∨
 ∃ x, a = some x ∧ len ≤ cap ∧ cap ≤ maxLen ∧ zs.length = cap ∧ (∀ i, i < zs.length → w.cell? (x.add i) = some (.int k (zs.getD i 0))) ∧ ∀ n ∈ zs, (Lit.int k n).wf = true
theorem IsRow.length {k : IntKind} {w : World} {a : Option Addr} {len cap : Nat} {zs : List Int} (h : IsRow k w a len cap zs) : (zs.take len).length = len := by
 rcases h with ⟨_, rfl, _, rfl⟩ | ⟨x, _, h1, _, h2, _⟩
 ·rfl
 ·rw [List.length_take]; omega
theorem IsRow.ints {k : IntKind} {w : World} {a : Option Addr} {len cap : Nat} {zs : List Int} (h : IsRow k w a len cap zs) : IntsV w k (.slice a len cap) (zs.take len) := by
 have hl := h.length
 rcases h with ⟨rfl, rfl, rfl, rfl⟩ | ⟨x, rfl, h1, h2, h3, h4, _⟩
 ·exact IntsV.nil w k
 ·refine ⟨some x, cap, by rw [hl], by omega, h2, fun hn => ?_⟩
  obtain ⟨b, off, rfl, hc⟩ := Go.ints_at h4 (by omega)
  refine ⟨b, off, rfl, World.block_lt_of_cell? w _ (hc 0 (by omega)), fun j hj => ?_⟩
  rw [hc j (by omega)]
  simp only [List.getD_eq_getElem?_getD, List.getElem?_take, if_pos (show j < len by omega)]
section
variable {P : Program} {H : Type} {enc : TypeId × Value → H} {W : World}
theorem open_rows {α : Type} [Inhabited α] (cell : α → Nat → Value) (good : α → Prop) {t e : TypeId} {size : Nat} {n : Nat} {v : Value} {x : DataW H × List MemPlace} (ht : P.underlying t = some (.slice e)) (hc : P.cellsOf e = size) (hs : 0 < size)
 (hread : ∀ n cs (y : DataW H × List MemPlace), DataW.trod enc P W 0 (fun _ => true) true n e cs = some y → ∃ c : α, (∀ k, k < size → cs[k]? = some (cell c k)) ∧ good c)
 (h : DataW.trod enc P W 0 (fun _ => true) true n t [v] = some x) :
 ∃ l : List α, (∃ A cap, v = .slice A l.length cap ∧ l.length ≤ cap ∧ cap ≤ maxLen ∧ Rows2 W A l.length size (fun i k => cell (l.getD i default) k)) ∧ ∀ c ∈ l, good c := by
 rcases open_slice ht h with ⟨e, _⟩ | ⟨a, len, cap, m, n', D, Pl, e, _, hlc, hcm, hm, _, hel⟩
 ·injection e with e
  subst e
  exact ⟨[], ⟨none, 0, rfl, Nat.le_refl _, by simp [maxLen], fun h => absurd h (by simp)⟩, by simp⟩
 ·injection e with e
  subst e
  rw [if_pos rfl] at hm
  subst m
  have key : ∀ i, ∃ c : α, i < len → (good c ∧ ∀ k, k < size → W.cell? ((a.add (i * size)).add k) = some (cell c k)) := by
   intro i
   by_cases hi : i < len
   ·obtain ⟨cs', h1, h2⟩ := hel i (by omega)
    rw [hc] at h1
    obtain ⟨c, hcs, hg⟩ := hread _ _ _ h2
    have hq := (World.cells?_some h1).2.2
    refine ⟨c, fun _ => ⟨hg, fun k hk => ?_⟩⟩
    rw [hq k hk]
    exact hcs k hk
   ·exact ⟨default, fun h => absurd h hi⟩
  obtain ⟨g, hg⟩ := Classical.skolem.1 key
  have hlen : ((List.range len).map g).length = len := by simp
  refine ⟨(List.range len).map g, ⟨some a, cap, by rw [hlen], by rw [hlen]; exact hlc, hcm, fun hpos => ?_⟩, fun c hc => ?_⟩
  ·rw [hlen] at hpos ⊢
   obtain ⟨b, off, spot⟩ := a
   have h0 := (hg 0 hpos).2 0 hs
   have hspot : spot = none := by simpa [Addr.add] using World.cell?_spot h0
   subst hspot
   have hblk := World.block_lt_of_cell? W _ h0
   refine ⟨b, off, rfl, by simpa [addr_add] using hblk, fun i k hi hk => ?_⟩
   have := (hg i hi).2 k hk
   rw [addr_add, addr_add] at this
   rw [this]
   simp [List.getD_eq_getElem?_getD, hi]
  ·obtain ⟨i, hi, rfl⟩ := List.mem_map.1 hc
   exact (hg i (List.mem_range.1 hi)).1
end
section
variable {H : Type} {enc : TypeId × Value → H} {W : World}
theorem open_ints' {t e : TypeId} {k : IntKind} {n : Nat} {v : Value} {x : DataW H × List MemPlace} {sp : Nat → Bool} (hsp : ∀ b, sp b = true) (ht : Try.prog.underlying t = some (.slice e)) (he : Try.prog.underlying e = some (.int k)) (hc : Try.prog.cellsOf e = 1)
 (h : DataW.trod enc Try.prog W 0 sp true n t [v] = some x) : ∃ a len cap zs, v = .slice a len cap ∧ IsRow k W a len cap zs := by
 rcases open_ints ht he hc h with ⟨hcs, _⟩ | ⟨x, l, c, zs, hcs, _, hl, hm, hz, _, hcell, hwz⟩
 ·simp at hcs
  exact ⟨none, 0, 0, [], hcs, .inl ⟨rfl, rfl, rfl, rfl⟩⟩
 ·simp at hcs
  exact ⟨some x, l, c, zs, hcs, .inr ⟨_, rfl, hl, hm, by simpa [hsp] using hz, hcell, hwz⟩⟩
theorem le_maxLen {n : Nat} (h : n ≤ maxLen) : n ≤ 9223372036854775807 := by
 unfold maxLen at h
 exact h
/-- One field of a struct. -/
theorem trod_at {t : TypeId} {fs : Array Field} {fuel : Nat} {cs : List Value} {x : DataW H × List MemPlace} (hs : Try.prog.underlying t = some (.struct fs)) (h : DataW.trod enc Try.prog W 0 (fun _ => true) true fuel t cs = some x) (i : Nat) (f : Field) (hf : fs[i]? = some f) (ds : List Value) (hd : (cs.drop f.offset).take (Try.prog.cellsOf f.type) = ds) :
 ∃ n y, DataW.trod enc Try.prog W 0 (fun _ => true) true n f.type ds = some y := by
 obtain ⟨xs, n, _, _, _, hlen, hg⟩ := DataW.trod_struct hs h
 have hi : i < xs.length := by
  have := (Array.getElem?_eq_some_iff.1 hf).1
  omega
 refine ⟨n, xs[i], ?_⟩
 rw [← hd, hg i f hf, List.getElem?_eq_getElem hi]
theorem trod_len {t : TypeId} {fs : Array Field} {fuel : Nat} {cs : List Value} {x : DataW H × List MemPlace} (hs : Try.prog.underlying t = some (.struct fs)) (h : DataW.trod enc Try.prog W 0 (fun _ => true) true fuel t cs = some x) : cs.length = Try.prog.cellsOf t := by
 obtain ⟨xs, n, _, _, hl, _, _⟩ := DataW.trod_struct hs h
 exact hl
theorem trod_i {n : Nat} {c : Value} {y : DataW H × List MemPlace} (h : DataW.trod enc Try.prog W 0 (fun _ => true) true n 3 [c] = some y) : ∃ a, c = .int .i64 a := by
 obtain ⟨a, e, _, _⟩ := DataW.trod_int Try.underlying3 h
 injection e with e
 exact ⟨a, e⟩
theorem trod_s {n : Nat} {c : Value} {y : DataW H × List MemPlace} (h : DataW.trod enc Try.prog W 0 (fun _ => true) true n 9 [c] = some y) : ∃ a : ByteArray, c = .string a ∧ StrOk a := by
 obtain ⟨a, e, _, hs⟩ := DataW.trod_string Try.underlying9 h
 injection e with e
 exact ⟨a, e, le_maxLen hs⟩
theorem trod_b {n : Nat} {c : Value} {y : DataW H × List MemPlace} (h : DataW.trod enc Try.prog W 0 (fun _ => true) true n 4 [c] = some y) : ∃ a, c = .bool a := by
 obtain ⟨a, e, _⟩ := DataW.trod_bool Try.underlying4 h
 injection e with e
 exact ⟨a, e⟩
theorem trod_ints {n : Nat} {c : Value} {y : DataW H × List MemPlace} (h : DataW.trod enc Try.prog W 0 (fun _ => true) true n 36 [c] = some y) : ∃ l, IntsV W .i64 c l := by
 obtain ⟨a, len, cap, zs, rfl, hr⟩ := open_ints' (fun _ => rfl) Try.underlying36 Try.underlying3 (by kernel_rfl) h
 exact ⟨_, hr.ints⟩
set_option maxRecDepth 100000 in
theorem open_zone {n : Nat} {cs : List Value} {y : DataW H × List MemPlace} (h : DataW.trod enc Try.prog W 0 (fun _ => true) true n 61 cs = some y) : ∃ d : Zone, (∀ k, k < 8 → cs[k]? = some (d.cell k)) ∧ StrOk d.name := by
 have hl := (trod_len Try.underlying61 h).trans (by kernel_rfl : Try.prog.cellsOf 61 = 8)
 match cs, hl with
 | [c0, c1, c2, c3, c4, c5, c6, c7], _ =>
   obtain ⟨n1, y1, f1⟩ := trod_at Try.underlying61 h 0 _ rfl [c0] (by kernel_rfl)
   obtain ⟨v0, rfl, s0⟩ := trod_s f1
   obtain ⟨n2, y2, f2⟩ := trod_at Try.underlying61 h 1 _ rfl [c1, c2, c3, c4] (by kernel_rfl)
   obtain ⟨n3, y3, f3⟩ := trod_at Try.underlying59 f2 0 _ rfl [c1, c2] (by kernel_rfl)
   obtain ⟨n4, y4, f4⟩ := trod_at Try.underlying57 f3 0 _ rfl [c1] (by kernel_rfl)
   obtain ⟨v1, rfl⟩ := trod_i f4
   obtain ⟨n5, y5, f5⟩ := trod_at Try.underlying57 f3 1 _ rfl [c2] (by kernel_rfl)
   obtain ⟨v2, rfl⟩ := trod_i f5
   obtain ⟨n6, y6, f6⟩ := trod_at Try.underlying59 f2 1 _ rfl [c3, c4] (by kernel_rfl)
   obtain ⟨n7, y7, f7⟩ := trod_at Try.underlying57 f6 0 _ rfl [c3] (by kernel_rfl)
   obtain ⟨v3, rfl⟩ := trod_i f7
   obtain ⟨n8, y8, f8⟩ := trod_at Try.underlying57 f6 1 _ rfl [c4] (by kernel_rfl)
   obtain ⟨v4, rfl⟩ := trod_i f8
   obtain ⟨n9, y9, f9⟩ := trod_at Try.underlying61 h 2 _ rfl [c5] (by kernel_rfl)
   obtain ⟨v5, rfl⟩ := trod_i f9
   obtain ⟨n10, y10, f10⟩ := trod_at Try.underlying61 h 3 _ rfl [c6] (by kernel_rfl)
   obtain ⟨v6, rfl⟩ := trod_i f10
   obtain ⟨n11, y11, f11⟩ := trod_at Try.underlying61 h 4 _ rfl [c7] (by kernel_rfl)
   obtain ⟨v7, rfl⟩ := trod_b f11
   refine ⟨⟨v0, v1, v2, v3, v4, v5, v6, v7⟩, fun k hk => ?_, s0⟩
   rcases (by omega : k = 0 ∨ k = 1 ∨ k = 2 ∨ k = 3 ∨ k = 4 ∨ k = 5 ∨ k = 6 ∨ k = 7) with rfl | rfl | rfl | rfl | rfl | rfl | rfl | rfl <;> rfl
set_option maxRecDepth 100000 in
theorem open_door {n : Nat} {cs : List Value} {y : DataW H × List MemPlace} (h : DataW.trod enc Try.prog W 0 (fun _ => true) true n 89 cs = some y) : ∃ d : Door, (∀ k, k < 2 → cs[k]? = some (d.cell k)) ∧ True := by
 have hl := (trod_len Try.underlying89 h).trans (by kernel_rfl : Try.prog.cellsOf 89 = 2)
 match cs, hl with
 | [c0, c1], _ =>
   obtain ⟨n1, y1, f1⟩ := trod_at Try.underlying89 h 0 _ rfl [c0] (by kernel_rfl)
   obtain ⟨v0, rfl⟩ := trod_i f1
   obtain ⟨n2, y2, f2⟩ := trod_at Try.underlying89 h 1 _ rfl [c1] (by kernel_rfl)
   obtain ⟨v1, rfl⟩ := trod_i f2
   refine ⟨⟨v0, v1⟩, fun k hk => ?_, trivial⟩
   rcases (by omega : k = 0 ∨ k = 1) with rfl | rfl <;> rfl
set_option maxRecDepth 100000 in
theorem open_person {n : Nat} {cs : List Value} {y : DataW H × List MemPlace} (h : DataW.trod enc Try.prog W 0 (fun _ => true) true n 72 cs = some y) : ∃ d : Person, (∀ k, k < 2 → cs[k]? = some (d.cell k)) ∧ StrOk d.name := by
 have hl := (trod_len Try.underlying72 h).trans (by kernel_rfl : Try.prog.cellsOf 72 = 2)
 match cs, hl with
 | [c0, c1], _ =>
   obtain ⟨n1, y1, f1⟩ := trod_at Try.underlying72 h 0 _ rfl [c0] (by kernel_rfl)
   obtain ⟨v0, rfl, s0⟩ := trod_s f1
   obtain ⟨n2, y2, f2⟩ := trod_at Try.underlying72 h 1 _ rfl [c1] (by kernel_rfl)
   obtain ⟨v1, rfl⟩ := trod_i f2
   refine ⟨⟨v0, v1⟩, fun k hk => ?_, s0⟩
   rcases (by omega : k = 0 ∨ k = 1) with rfl | rfl <;> rfl
set_option maxRecDepth 100000 in
theorem open_squib {n : Nat} {cs : List Value} {y : DataW H × List MemPlace} (h : DataW.trod enc Try.prog W 0 (fun _ => true) true n 55 cs = some y) : ∃ d : SquibX, (∀ k, k < 6 → cs[k]? = some (SquibX.cell d k)) ∧ (StrOk d.1.name ∧ IntsV W .i64 d.2 d.1.keys) := by
 have hl := (trod_len Try.underlying55 h).trans (by kernel_rfl : Try.prog.cellsOf 55 = 6)
 match cs, hl with
 | [c0, c1, c2, c3, c4, c5], _ =>
   obtain ⟨n1, y1, f1⟩ := trod_at Try.underlying55 h 0 _ rfl [c0] (by kernel_rfl)
   obtain ⟨v0, rfl, s0⟩ := trod_s f1
   obtain ⟨n2, y2, f2⟩ := trod_at Try.underlying55 h 1 _ rfl [c1, c2] (by kernel_rfl)
   obtain ⟨n3, y3, f3⟩ := trod_at Try.underlying53 f2 0 _ rfl [c1] (by kernel_rfl)
   obtain ⟨v1, rfl⟩ := trod_i f3
   obtain ⟨n4, y4, f4⟩ := trod_at Try.underlying53 f2 1 _ rfl [c2] (by kernel_rfl)
   obtain ⟨v2, rfl⟩ := trod_i f4
   obtain ⟨n5, y5, f5⟩ := trod_at Try.underlying55 h 2 _ rfl [c3] (by kernel_rfl)
   obtain ⟨v3, rfl⟩ := trod_i f5
   obtain ⟨n6, y6, f6⟩ := trod_at Try.underlying55 h 3 _ rfl [c4] (by kernel_rfl)
   obtain ⟨v4, rfl⟩ := trod_i f6
   obtain ⟨n7, y7, f7⟩ := trod_at Try.underlying55 h 4 _ rfl [c5] (by kernel_rfl)
   obtain ⟨v5, o5⟩ := trod_ints f7
   refine ⟨(⟨v0, v1, v2, v3, v4, v5⟩, c5), fun k hk => ?_, ⟨s0, o5⟩⟩
   rcases (by omega : k = 0 ∨ k = 1 ∨ k = 2 ∨ k = 3 ∨ k = 4 ∨ k = 5) with rfl | rfl | rfl | rfl | rfl | rfl <;> rfl
theorem open_key {n : Nat} {cs : List Value} {y : DataW H × List MemPlace} (h : DataW.trod enc Try.prog W 0 (fun _ => true) true n 9 cs = some y) : ∃ d : ByteArray, (∀ k, k < 1 → cs[k]? = some (keyCell d k)) ∧ StrOk d := by
 obtain ⟨a, e, _, hs⟩ := DataW.trod_string Try.underlying9 h
 subst e
 refine ⟨a, fun k hk => ?_, le_maxLen hs⟩
 obtain rfl : k = 0 := by omega
 rfl
set_option maxRecDepth 100000 in
/-- A struct that came in by value: its cells. -/
theorem open_struct {w0 : Nat} {t : TypeId} {fs : Array Field} {v : Value} {d : DataW H} {p : List MemPlace} {r : Reach} (hs : Try.prog.underlying t = some (.struct fs)) (hval : Value.okWide Try.prog W r w0 t v) (h : DataW.Trod enc Try.prog W 0 (fun _ => true) true t v d p) :
 ∃ cs : Array Value, v = .agg cs ∧ cs.size = Try.prog.cellsOf t ∧ ∃ n x, DataW.trod enc Try.prog W 0 (fun _ => true) true n t cs.toList = some x := by
 obtain ⟨cs, rfl, hsz⟩ := okWide_struct hs hval
 obtain ⟨fuel, hf⟩ := h
 exact ⟨cs, rfl, hsz, fuel, _, hf⟩
set_option maxRecDepth 100000 in
theorem open_pad {w0 : Nat} {v : Value} {d : DataW H} {q : List MemPlace} {r : Reach} (hval : Value.okWide Try.prog W r w0 28 v) (h : DataW.Trod enc Try.prog W 0 (fun _ => true) true 28 v d q) : ∃ p, PadV W v p := by
 obtain ⟨cs, rfl, hsz, n, x, hf⟩ := open_struct Try.underlying28 hval h
 obtain ⟨cs⟩ := cs
 have hl : cs.length = 7 := hsz.trans (by kernel_rfl)
 match cs, hl with
 | [c0, c1, c2, c3, c4, c5, c6], _ =>
   obtain ⟨n0, y0, f0⟩ := trod_at Try.underlying28 hf 0 _ rfl [c0] (by kernel_rfl)
   obtain ⟨n1, y1, f1⟩ := trod_at Try.underlying28 hf 1 _ rfl [c1] (by kernel_rfl)
   obtain ⟨n2, y2, f2⟩ := trod_at Try.underlying28 hf 2 _ rfl [c2] (by kernel_rfl)
   obtain ⟨n3, y3, f3⟩ := trod_at Try.underlying28 hf 3 _ rfl [c3] (by kernel_rfl)
   obtain ⟨n4, y4, f4⟩ := trod_at Try.underlying28 hf 4 _ rfl [c4] (by kernel_rfl)
   obtain ⟨n5, y5, f5⟩ := trod_at Try.underlying28 hf 5 _ rfl [c5] (by kernel_rfl)
   obtain ⟨n6, y6, f6⟩ := trod_at Try.underlying28 hf 6 _ rfl [c6] (by kernel_rfl)
   obtain ⟨l0, o0, g0⟩ := open_rows (size := 8) Zone.cell (fun d => StrOk d.name) Try.underlying22 (by kernel_rfl) (by omega) (fun _ _ _ h => open_zone h) f0
   obtain ⟨l1, o1, _⟩ := open_rows (size := 2) Door.cell (fun _ => True) Try.underlying23 (by kernel_rfl) (by omega) (fun _ _ _ h => open_door h) f1
   obtain ⟨l2, o2, g2⟩ := open_rows (size := 2) Person.cell (fun d => StrOk d.name) Try.underlying24 (by kernel_rfl) (by omega) (fun _ _ _ h => open_person h) f2
   obtain ⟨l3, o3, g3⟩ := open_rows (size := 1) keyCell (fun d => StrOk d) Try.underlying25 (by kernel_rfl) (by omega) (fun _ _ _ h => open_key h) f3
   obtain ⟨l4, o4, g4⟩ := open_rows (size := 6) SquibX.cell (fun d => StrOk d.1.name ∧ IntsV W .i64 d.2 d.1.keys) Try.underlying26 (by kernel_rfl) (by omega) (fun _ _ _ h => open_squib h) f4
   obtain ⟨v5, rfl⟩ := trod_i f5
   obtain ⟨v6, rfl⟩ := trod_i f6
   exact ⟨⟨l0, l1, l2, l3, l4, v5, v6⟩, ⟨g0, g2, g3, fun q hq => (g4 q hq).1⟩, fun q hq => (g4 q hq).2, c0, c1, c2, c3, c4, rfl, o0, o1, o2, o3, o4⟩
theorem trod_intsW {n : Nat} {c : Value} {y : DataW H × List MemPlace} (h : DataW.trod enc Try.prog W 0 (fun _ => true) true n 36 [c] = some y) : ∃ l, IntsV W .i64 c l ∧ ((∀ m ∈ DataW.weights Try.prog 36 y.1, m ≤ reachBytes) → l.length * 8 ≤ 140737488355328) := by
 rcases open_ints Try.underlying36 Try.underlying3 (by kernel_rfl) h with ⟨hcs, _⟩ | ⟨x, l, c', zs, hcs, _, hl, hm, hz, hy, hcell, hwz⟩
 ·simp at hcs
  subst hcs
  exact ⟨[], IntsV.nil _ _, fun _ => by simp⟩
 ·simp at hcs
  subst hcs
  have hr : IsRow .i64 W (some x) l c' zs := .inr ⟨_, rfl, hl, hm, by simpa using hz, hcell, hwz⟩
  refine ⟨zs.take l, hr.ints, fun hw => ?_⟩
  have hb : Try.prog.bytesOf 3 = 8 := by kernel_rfl
  have := hw (((lits .i64 (zs.take l)).length + (lits .i64 (zs.drop l)).length) * 8) (by rw [hy]; simp only [DataW.weights, Try.underlying36, hb]; exact List.mem_cons_self)
  simp only [lits, List.length_map, List.length_take, List.length_drop, reachBytes] at this
  rw [List.length_take]
  omega
set_option maxRecDepth 100000 in
theorem open_state {w0 : Nat} {v : Value} {d : DataW H} {q : List MemPlace} {r : Reach} (hval : Value.okWide Try.prog W r w0 38 v) (h : DataW.Trod enc Try.prog W 0 (fun _ => true) true 38 v d q) : ∃ s, StateV W v s ∧ ((∀ m ∈ DataW.weights Try.prog 38 d, m ≤ reachBytes) → s.Fits) := by
 obtain ⟨cs, rfl, hsz⟩ := okWide_struct Try.underlying38 hval
 obtain ⟨fuel, hf⟩ := h
 obtain ⟨cs⟩ := cs
 have hl : cs.length = 6 := hsz.trans (by kernel_rfl)
 obtain ⟨xs, n, _, hx, _, hlen, hg⟩ := DataW.trod_struct Try.underlying38 hf
 match cs, hl, xs, hlen with
 | [c0, c1, c2, c3, c4, c5], _, [y0, y1, y2, y3, y4, y5], _ =>
   injection hx with hx _
   obtain ⟨v0, rfl⟩ := trod_i (enc := enc) (W := W) (n := n) (c := c0) (y := y0) (hg 0 _ rfl)
   obtain ⟨l1, o1, w1⟩ := trod_intsW (enc := enc) (W := W) (n := n) (c := c1) (y := y1) (hg 1 _ rfl)
   obtain ⟨l2, o2, w2⟩ := trod_intsW (enc := enc) (W := W) (n := n) (c := c2) (y := y2) (hg 2 _ rfl)
   obtain ⟨l3, o3, w3⟩ := trod_intsW (enc := enc) (W := W) (n := n) (c := c3) (y := y3) (hg 3 _ rfl)
   obtain ⟨v4, rfl⟩ := trod_i (enc := enc) (W := W) (n := n) (c := c4) (y := y4) (hg 4 _ rfl)
   obtain ⟨v5, rfl⟩ := trod_b (enc := enc) (W := W) (n := n) (c := c5) (y := y5) (hg 5 _ rfl)
   refine ⟨⟨v0, l1, l2, l3, v4, v5⟩, ⟨c1, c2, c3, rfl, o1, o2, o3⟩, fun hw => ⟨w1 fun m hm => hw m ?_, w2 fun m hm => hw m ?_, w3 fun m hm => hw m ?_⟩⟩ <;> rw [hx] <;> simp [DataW.weights, DataW.weightsEach, Try.underlying38, hm]
end
end Go.Proofs.Ythcnganbnbhhoaa
