/- What arguments that came in read as: slices of integers and of bytes. Slices of structs that came in: what their elements read as, over whatever program. What formats, tapes and slices that came in read as. -/
import Derived.Test.YtjnnkcnnandeeaaBase
import Derived.ProofKit
import Derived.OpenShut
import Derived.ShutString
import Derived.ChangeOld
import Derived.Below
import Derived.Test.YtjnnkcnnandeeaaOwn
import Derived.Lib.SmallJoins
import Derived.Deep.Slices
import Derived.Test.YtjnnkcnnandeeaaProg
namespace Go.Proofs.Ytjnnkcnnandeeaa
open Go.ChangeShapes Go.WideShapes Go.ChangeAt Go.RowKit
/-- A slice of integers that came in: it is nil; or it leads to a row of 'cap' cells, the first 'len' of which are its elements. -/
def IsRow (k : IntKind) (w : World) (a : Option Addr) (len cap : Nat) (zs : List Int) : Prop :=
  (a = none ∧ len = 0 ∧ cap = 0 ∧ zs = []) ∨
  ∃ x, a = some x ∧ len ≤ cap ∧ cap ≤ maxLen ∧ zs.length = cap ∧ (∀ i, i < zs.length → w.cell? (x.add i) = some (.int k (zs.getD i 0))) ∧ ∀ n ∈ zs, (Lit.int k n).wf = true
theorem IsRow.length {k : IntKind} {w : World} {a : Option Addr} {len cap : Nat} {zs : List Int} (h : IsRow k w a len cap zs) : (zs.take len).length = len := by
  rcases h with ⟨_, rfl, _, rfl⟩ | ⟨x, _, h1, _, h2, _⟩
  · rfl
  · rw [List.length_take]; omega
theorem IsRow.ints {k : IntKind} {w : World} {a : Option Addr} {len cap : Nat} {zs : List Int} (h : IsRow k w a len cap zs) : IntsV w k (.slice a len cap) (zs.take len) := by
  have hl := h.length
  rcases h with ⟨rfl, rfl, rfl, rfl⟩ | ⟨x, rfl, h1, h2, h3, h4, _⟩
  · exact IntsV.nil w k
  · refine ⟨some x, cap, by rw [hl], by omega, h2, fun hn => ?_⟩
    obtain ⟨b, off, rfl, hc⟩ := Go.ints_at h4 (by omega)
    refine ⟨b, off, rfl, World.block_lt_of_cell? w _ (hc 0 (by omega)), fun j hj => ?_⟩
    rw [hc j (by omega)]
    simp only [List.getD_eq_getElem?_getD, List.getElem?_take, if_pos (show j < len by omega)]
theorem IsRow.bounds {w : World} {a : Option Addr} {len cap : Nat} {zs : List Int} (h : IsRow .u8 w a len cap zs) : ∀ n ∈ zs.take len, 0 ≤ n ∧ n < 256 := by
  intro n hn
  rcases h with ⟨_, _, _, rfl⟩ | ⟨_, _, _, _, _, _, hw⟩
  · simp at hn
  · have := bounds_u8 (hw n (List.mem_of_mem_take hn)); omega
theorem IsRow.bytes {w : World} {a : Option Addr} {len cap : Nat} {zs : List Int} (h : IsRow .u8 w a len cap zs) : BytesV w (.slice a len cap) ((zs.take len).map Int.toNat) := by
  have hb := h.bounds
  obtain ⟨A, c, he, h1, h2, h3⟩ := h.ints
  refine ⟨fun x hx => ?_, A, c, by rw [List.length_map]; exact he, by rw [List.length_map]; exact h1, h2, ?_⟩
  · obtain ⟨y, hy, rfl⟩ := List.mem_map.1 hx
    have := hb y hy; omega
  · rw [List.length_map]
    refine h3.congr fun j hj => ?_
    have e : (List.map Int.toNat (zs.take len)).getD j 0 = ((zs.take len).getD j 0).toNat := by
      simp only [List.getD_eq_getElem?_getD, List.getElem?_map, List.getElem?_eq_getElem hj, Option.map_some, Option.getD_some]
    rw [e]
    have hm : (zs.take len).getD j 0 ∈ zs.take len := by
      simp only [List.getD_eq_getElem?_getD, List.getElem?_eq_getElem hj, Option.getD_some]
      exact List.getElem_mem hj
    have := hb _ hm
    rw [Int.toNat_of_nonneg this.1]
end Go.Proofs.Ytjnnkcnnandeeaa
namespace Go.Proofs.Ytjnnkcnnandeeaa
open Go.ChangeShapes Go.WideShapes Go.ChangeAt Go.RowKit Go.Joins Go.Deep
section
variable {P : Program} {H : Type} {enc : TypeId × Value → H} {W : World}
theorem open_rows {α : Type} [Inhabited α] (cell : α → Nat → Value) (good : α → Prop) {t e : TypeId} {size : Nat} {n : Nat} {v : Value} {x : DataW H × List MemPlace} (ht : P.underlying t = some (.slice e)) (hc : P.cellsOf e = size) (hs : 0 < size)
    (hread : ∀ n cs (y : DataW H × List MemPlace), DataW.trod enc P W 0 (fun _ => true) true n e cs = some y → ∃ c : α, (∀ k, k < size → cs[k]? = some (cell c k)) ∧ good c)
    (h : DataW.trod enc P W 0 (fun _ => true) true n t [v] = some x) :
    ∃ l : List α, (∃ A cap, v = .slice A l.length cap ∧ l.length ≤ cap ∧ cap ≤ maxLen ∧ Rows2 W A l.length size (fun i k => cell (l.getD i default) k)) ∧ ∀ c ∈ l, good c := by
  rcases open_slice ht h with ⟨e, _⟩ | ⟨a, len, cap, m, n', D, Pl, e, _, hlc, hcm, hm, _, hel⟩
  · injection e with e
    subst e
    exact ⟨[], ⟨none, 0, rfl, Nat.le_refl _, by simp [maxLen], fun h => absurd h (by simp)⟩, by simp⟩
  · injection e with e
    subst e
    rw [if_pos rfl] at hm
    subst m
    have key : ∀ i, ∃ c : α, i < len → (good c ∧ ∀ k, k < size → W.cell? ((a.add (i * size)).add k) = some (cell c k)) := by
      intro i
      by_cases hi : i < len
      · obtain ⟨cs', h1, h2⟩ := hel i (by omega)
        rw [hc] at h1
        obtain ⟨c, hcs, hg⟩ := hread _ _ _ h2
        have hq := (World.cells?_some h1).2.2
        refine ⟨c, fun _ => ⟨hg, fun k hk => ?_⟩⟩
        rw [hq k hk]
        exact hcs k hk
      · exact ⟨default, fun h => absurd h hi⟩
    obtain ⟨g, hg⟩ := Classical.skolem.1 key
    have hlen : ((List.range len).map g).length = len := by simp
    refine ⟨(List.range len).map g, ⟨some a, cap, by rw [hlen], by rw [hlen]; exact hlc, hcm, fun hpos => ?_⟩, fun c hc => ?_⟩
    · rw [hlen] at hpos ⊢
      obtain ⟨b, off, spot⟩ := a
      have h0 := (hg 0 hpos).2 0 hs
      have hspot : spot = none := by simpa [Addr.add] using World.cell?_spot h0
      subst hspot
      have hblk := World.block_lt_of_cell? W _ h0
      refine ⟨b, off, rfl, by simpa [addr_add] using hblk, fun i k hi hk => ?_⟩
      have := (hg i hi).2 k hk
      rw [addr_add, addr_add] at this
      rw [this]
      simp [List.getD_eq_getElem?_getD, hi]
    · obtain ⟨i, hi, rfl⟩ := List.mem_map.1 hc
      exact (hg i (List.mem_range.1 hi)).1
/-- One field of one cell. -/
theorem field1 {cs : List Value} {k : Nat} (hk : k < cs.length) : (cs.drop k).take 1 = [cs[k]] := by
  rw [List.drop_eq_getElem_cons hk]; rfl
theorem trod_fields3 {t : TypeId} {f0 f1 f2 : Field} {fuel : Nat} {cs : List Value} {x : DataW H × List MemPlace} {base : Nat} {spare : Nat → Bool} {held : Bool} (ht : P.underlying t = some (.struct #[f0, f1, f2])) (h : DataW.trod enc P W base spare held fuel t cs = some x) :
    ∃ (y0 y1 y2 : DataW H × List MemPlace) (n : Nat), cs.length = P.cellsOf t ∧ DataW.trod enc P W base spare held n f0.type ((cs.drop f0.offset).take (P.cellsOf f0.type)) = some y0 ∧ DataW.trod enc P W base spare held n f1.type ((cs.drop f1.offset).take (P.cellsOf f1.type)) = some y1 ∧ DataW.trod enc P W base spare held n f2.type ((cs.drop f2.offset).take (P.cellsOf f2.type)) = some y2 := by
  obtain ⟨xs, n, _, rfl, hl, hlen, hf⟩ := DataW.trod_struct ht h
  match xs, hlen with
  | [y0, y1, y2], _ => exact ⟨y0, y1, y2, n, hl, by simpa using hf 0 f0 rfl, by simpa using hf 1 f1 rfl, by simpa using hf 2 f2 rfl⟩
theorem trod_fields5 {t : TypeId} {f0 f1 f2 f3 f4 : Field} {fuel : Nat} {cs : List Value} {x : DataW H × List MemPlace} {base : Nat} {spare : Nat → Bool} {held : Bool} (ht : P.underlying t = some (.struct #[f0, f1, f2, f3, f4])) (h : DataW.trod enc P W base spare held fuel t cs = some x) :
    ∃ (y0 y1 y2 y3 y4 : DataW H × List MemPlace) (n : Nat), cs.length = P.cellsOf t ∧ DataW.trod enc P W base spare held n f0.type ((cs.drop f0.offset).take (P.cellsOf f0.type)) = some y0 ∧ DataW.trod enc P W base spare held n f1.type ((cs.drop f1.offset).take (P.cellsOf f1.type)) = some y1 ∧ DataW.trod enc P W base spare held n f2.type ((cs.drop f2.offset).take (P.cellsOf f2.type)) = some y2 ∧ DataW.trod enc P W base spare held n f3.type ((cs.drop f3.offset).take (P.cellsOf f3.type)) = some y3 ∧ DataW.trod enc P W base spare held n f4.type ((cs.drop f4.offset).take (P.cellsOf f4.type)) = some y4 := by
  obtain ⟨xs, n, _, rfl, hl, hlen, hf⟩ := DataW.trod_struct ht h
  match xs, hlen with
  | [y0, y1, y2, y3, y4], _ => exact ⟨y0, y1, y2, y3, y4, n, hl, by simpa using hf 0 f0 rfl, by simpa using hf 1 f1 rfl, by simpa using hf 2 f2 rfl, by simpa using hf 3 f3 rfl, by simpa using hf 4 f4 rfl⟩
theorem trod_fields7 {t : TypeId} {f0 f1 f2 f3 f4 f5 f6 : Field} {fuel : Nat} {cs : List Value} {x : DataW H × List MemPlace} {base : Nat} {spare : Nat → Bool} {held : Bool} (ht : P.underlying t = some (.struct #[f0, f1, f2, f3, f4, f5, f6])) (h : DataW.trod enc P W base spare held fuel t cs = some x) :
    ∃ (y0 y1 y2 y3 y4 y5 y6 : DataW H × List MemPlace) (n : Nat), cs.length = P.cellsOf t ∧ DataW.trod enc P W base spare held n f0.type ((cs.drop f0.offset).take (P.cellsOf f0.type)) = some y0 ∧ DataW.trod enc P W base spare held n f1.type ((cs.drop f1.offset).take (P.cellsOf f1.type)) = some y1 ∧ DataW.trod enc P W base spare held n f2.type ((cs.drop f2.offset).take (P.cellsOf f2.type)) = some y2 ∧ DataW.trod enc P W base spare held n f3.type ((cs.drop f3.offset).take (P.cellsOf f3.type)) = some y3 ∧ DataW.trod enc P W base spare held n f4.type ((cs.drop f4.offset).take (P.cellsOf f4.type)) = some y4 ∧ DataW.trod enc P W base spare held n f5.type ((cs.drop f5.offset).take (P.cellsOf f5.type)) = some y5 ∧ DataW.trod enc P W base spare held n f6.type ((cs.drop f6.offset).take (P.cellsOf f6.type)) = some y6 := by
  obtain ⟨xs, n, _, rfl, hl, hlen, hf⟩ := DataW.trod_struct ht h
  match xs, hlen with
  | [y0, y1, y2, y3, y4, y5, y6], _ => exact ⟨y0, y1, y2, y3, y4, y5, y6, n, hl, by simpa using hf 0 f0 rfl, by simpa using hf 1 f1 rfl, by simpa using hf 2 f2 rfl, by simpa using hf 3 f3 rfl, by simpa using hf 4 f4 rfl, by simpa using hf 5 f5 rfl, by simpa using hf 6 f6 rfl⟩
end
end Go.Proofs.Ytjnnkcnnandeeaa
namespace Go.Proofs.Ytjnnkcnnandeeaa
open Go.ChangeShapes Go.WideShapes Go.ChangeAt Go.RowKit Go.Joins Go.Deep
section
variable {H : Type} {enc : TypeId × Value → H} {W : World} {base : Nat}
theorem open_ints' {t e : TypeId} {k : IntKind} {n : Nat} {v : Value} {x : DataW H × List MemPlace} {sp : Nat → Bool} (hsp : ∀ b, sp b = true) (ht : Try.prog.underlying t = some (.slice e)) (he : Try.prog.underlying e = some (.int k)) (hc : Try.prog.cellsOf e = 1)
    (h : DataW.trod enc Try.prog W 0 sp true n t [v] = some x) : ∃ a len cap zs, v = .slice a len cap ∧ IsRow k W a len cap zs := by
  rcases open_ints ht he hc h with ⟨hcs, _⟩ | ⟨x, l, c, zs, hcs, _, hl, hm, hz, _, hcell, hwz⟩
  · simp at hcs
    exact ⟨none, 0, 0, [], hcs, .inl ⟨rfl, rfl, rfl, rfl⟩⟩
  · simp at hcs
    exact ⟨some x, l, c, zs, hcs, .inr ⟨_, rfl, hl, hm, by simpa [hsp] using hz, hcell, hwz⟩⟩
theorem cells_get {a : Addr} {n : Nat} {cs : List Value} (h : W.cells? base a n = some cs) : cs.length = n ∧ ∀ i, i < n → W.cell? (a.add i) = cs[i]? := by
  exact ⟨(World.cells?_some h).2.1, (World.cells?_some h).2.2⟩
theorem open_chan {n : Nat} {cs : List Value} {x : DataW H × List MemPlace} {sp : Nat → Bool} (h : DataW.trod enc Try.prog W 0 sp true n 83 cs = some x) :
    ∃ c : Chan, cs = [.string c.name, .int .i64 c.word, .int .i64 c.every, .int .i64 c.phase] ∧ c.name.size ≤ maxLen := by
  obtain ⟨y0, y1, y2, y3, m, _, hlen, f0, f1, f2, f3⟩ := trod_struct4 Try.underlying83 h
  have hl4 : cs.length = 4 := hlen.trans (by kernel_rfl)
  have q0 : Try.prog.cellsOf 9 = 1 := by kernel_rfl
  have q1 : Try.prog.cellsOf 3 = 1 := by kernel_rfl
  dsimp only at f0 f1 f2 f3
  rw [q0] at f0
  rw [q1] at f1 f2 f3
  clear hlen
  match cs, hl4 with
  | [c0, c1, c2, c3], _ =>
    simp only [List.drop_zero, List.drop_succ_cons, List.take_succ_cons, List.take_zero] at f0 f1 f2 f3
    obtain ⟨s, e0, _, hs⟩ := DataW.trod_string Try.underlying9 f0
    obtain ⟨a1, e1, _, _⟩ := DataW.trod_int Try.underlying3 f1
    obtain ⟨a2, e2, _, _⟩ := DataW.trod_int Try.underlying3 f2
    obtain ⟨a3, e3, _, _⟩ := DataW.trod_int Try.underlying3 f3
    injection e0 with e0
    injection e1 with e1
    injection e2 with e2
    injection e3 with e3
    subst e0 e1 e2 e3
    exact ⟨⟨s, a1, a2, a3⟩, rfl, hs⟩
theorem open_chans {n : Nat} {v : Value} {x : DataW H × List MemPlace} (h : DataW.trod enc Try.prog W 0 (fun _ => true) true n 26 [v] = some x) : ∃ l, ChansV W v l ∧ ∀ c ∈ l, c.name.size ≤ maxLen := by
  have q4 : Try.prog.cellsOf 83 = 4 := by kernel_rfl
  rcases open_slice Try.underlying26 h with ⟨e, _⟩ | ⟨a, len, cap, m, n', D, Pl, e, _, hlc, hcm, hm, _, hel⟩
  · injection e with e
    subst e
    exact ⟨[], ⟨none, 0, rfl, Nat.le_refl _, by simp [maxLen], fun h => absurd h (by simp)⟩, by simp⟩
  · injection e with e
    subst e
    rw [if_pos rfl] at hm
    subst m
    have key : ∀ i, ∃ c : Chan, i < len → (c.name.size ≤ maxLen ∧ ∀ k, k < 4 → W.cell? ((a.add (i * 4)).add k) = some (c.cell k)) := by
      intro i
      by_cases hi : i < len
      · obtain ⟨cs', h1, h2⟩ := hel i (by omega)
        rw [q4] at h1
        obtain ⟨c, rfl, hs⟩ := open_chan h2
        have hg := (cells_get h1).2
        refine ⟨c, fun _ => ⟨hs, fun k hk => ?_⟩⟩
        rw [hg k hk]
        rcases (by omega : k = 0 ∨ k = 1 ∨ k = 2 ∨ k = 3) with rfl | rfl | rfl | rfl <;> rfl
      · exact ⟨default, fun h => absurd h hi⟩
    obtain ⟨g, hg⟩ := Classical.skolem.1 key
    have hlen : ((List.range len).map g).length = len := by simp
    refine ⟨(List.range len).map g, ⟨some a, cap, by rw [hlen], by rw [hlen]; exact hlc, hcm, fun hpos => ?_⟩, fun c hc => ?_⟩
    · rw [hlen] at hpos ⊢
      obtain ⟨b, off, spot⟩ := a
      have h0 := (hg 0 hpos).2 0 (by omega)
      have hspot : spot = none := by simpa [Addr.add] using World.cell?_spot h0
      subst hspot
      have hblk := World.block_lt_of_cell? W _ h0
      refine ⟨b, off, rfl, by simpa [addr_add] using hblk, fun i k hi hk => ?_⟩
      have := (hg i hi).2 k hk
      rw [addr_add, addr_add] at this
      rw [this]
      simp [List.getD_eq_getElem?_getD, hi]
    · obtain ⟨i, hi, rfl⟩ := List.mem_map.1 hc
      exact (hg i (List.mem_range.1 hi)).1
theorem le_maxLen {n : Nat} (h : n ≤ maxLen) : n ≤ 9223372036854775807 := by
  unfold maxLen at h
  exact h
set_option maxRecDepth 100000 in
theorem open_fmt {w0 : Nat} {v : Value} {d : DataW H} {p : List MemPlace} {r : Reach} (hval : Value.okWide Try.prog W r w0 28 v) (h : DataW.Trod enc Try.prog W 0 (fun _ => true) true 28 v d p) : ∃ f, FmtV W v f := by
  obtain ⟨v0, v1, v2, v3, y0, y1, y2, y3, n, rfl, _, _, h0, h1, h2, h3⟩ := open_agg4 Try.underlying28 (by kernel_rfl) (by kernel_rfl) hval h
  obtain ⟨s, e0, _, hs⟩ := DataW.trod_string Try.underlying9 h0
  obtain ⟨a1, e1, _, _⟩ := DataW.trod_int Try.underlying3 h1
  obtain ⟨a2, e2, _, _⟩ := DataW.trod_int Try.underlying3 h2
  obtain ⟨l, ⟨A, cap, rfl, hl1, hl2, hl3⟩, hl⟩ := open_chans h3
  injection e0 with e0
  injection e1 with e1
  injection e2 with e2
  subst e0 e1 e2
  exact ⟨⟨s, a1, a2, l⟩, le_maxLen hs, fun c hc => le_maxLen (hl c hc), A, cap, rfl, hl1, hl2, hl3⟩
set_option maxRecDepth 100000 in
theorem open_intV {w0 : Nat} {v : Value} {d : DataW H} {p : List MemPlace} (hval : Value.okWide Try.prog W .any w0 3 v) (h : DataW.Trod enc Try.prog W 0 (fun _ => true) true 3 v d p) : ∃ x, v = .int .i64 x ∧ (Lit.int .i64 x).wf = true := by
  obtain ⟨x, rfl, _, _, wx⟩ := open_int Try.underlying3 hval h
  exact ⟨x, rfl, wx⟩
set_option maxRecDepth 100000 in
theorem open_intsV {w0 : Nat} {v : Value} {d : DataW H} {p : List MemPlace} (hval : Value.okWide Try.prog W .any w0 29 v) (h : DataW.Trod enc Try.prog W 0 (fun _ => true) true 29 v d p) : ∃ l, IntsV W .i64 v l := by
  obtain ⟨a0, len0, cap0, rfl⟩ := okWide_slice Try.underlying29 hval
  obtain ⟨fuel, hf⟩ := h
  obtain ⟨a, len, cap, zs, e, hr⟩ := open_ints' (fun _ => rfl) Try.underlying29 Try.underlying3 (by kernel_rfl) hf
  injection e with e1 e2 e3
  subst e1 e2 e3
  exact ⟨_, hr.ints⟩
set_option maxRecDepth 100000 in
theorem open_bytesT {n : Nat} {v : Value} {x : DataW H × List MemPlace} (h : DataW.trod enc Try.prog W 0 (fun _ => true) true n 22 [v] = some x) : ∃ l, BytesV W v l := by
  obtain ⟨a, len, cap, zs, rfl, hr⟩ := open_ints' (fun _ => rfl) Try.underlying22 Try.underlying5 (by kernel_rfl) h
  exact ⟨_, hr.bytes⟩
set_option maxRecDepth 100000 in
theorem open_bytesV {w0 : Nat} {v : Value} {d : DataW H} {p : List MemPlace} (hval : Value.okWide Try.prog W .any w0 22 v) (h : DataW.Trod enc Try.prog W 0 (fun _ => true) true 22 v d p) : ∃ l, BytesV W v l := by
  obtain ⟨a0, len0, cap0, rfl⟩ := okWide_slice Try.underlying22 hval
  obtain ⟨fuel, hf⟩ := h
  exact open_bytesT hf
set_option maxRecDepth 100000 in
theorem open_tape {w0 : Nat} {v : Value} {d : DataW H} {p : List MemPlace} (hval : Value.okWide Try.prog W .any w0 38 v) (h : DataW.Trod enc Try.prog W 0 (fun _ => true) true 38 v d p) : ∃ b l first, v = .agg #[b, .int .i64 first] ∧ BytesV W b l := by
  obtain ⟨v0, v1, y0, y1, n, rfl, _, _, h0, h1⟩ := open_agg2 Try.underlying38 (by kernel_rfl) (by kernel_rfl) hval h
  obtain ⟨l, hl⟩ := open_bytesT h0
  obtain ⟨a1, e1, _, _⟩ := DataW.trod_int Try.underlying3 h1
  injection e1 with e1
  subst e1
  exact ⟨_, l, _, rfl, hl⟩
end
end Go.Proofs.Ytjnnkcnnandeeaa
