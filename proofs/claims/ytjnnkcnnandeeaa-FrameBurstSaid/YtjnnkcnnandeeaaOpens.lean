/- What formats, tapes and slices that came in read as. -/
import Derived.Test.YtjnnkcnnandeeaaOpen
import Derived.Test.YtjnnkcnnandeeaaFmt
import Derived.Test.YtjnnkcnnandeeaaProg
import Derived.Lib.SmallJoins
import Derived.Deep.Slices
namespace Go.Proofs.Ytjnnkcnnandeeaa
open Go.ChangeShapes Go.WideShapes Go.ChangeAt Go.RowKit Go.Joins Go.Deep
section
variable {H : Type} {enc : TypeId × Value → H} {W : World} {base : Nat}
theorem open_ints' {t e : TypeId} {k : IntKind} {n : Nat} {v : Value} {x : DataW H × List MemPlace} {sp : Nat → Bool} (hsp : ∀ b, sp b = true) (ht : Try.prog.underlying t = some (.slice e)) (he : Try.prog.underlying e = some (.int k)) (hc : Try.prog.cellsOf e = 1)
    (h : DataW.trod enc Try.prog W 0 sp true n t [v] = some x) : ∃ a len cap zs, v = .slice a len cap ∧ IsRow k W a len cap zs := by
  rcases open_ints ht he hc h with ⟨hcs, _⟩ | ⟨x, l, c, zs, hcs, _, hl, hm, hz, _, hcell, hwz⟩
  · simp at hcs
    exact ⟨none, 0, 0, [], hcs, .inl ⟨rfl, rfl, rfl, rfl⟩⟩
  · simp at hcs
    exact ⟨some x, l, c, zs, hcs, .inr ⟨_, rfl, hl, hm, by simpa [hsp] using hz, hcell, hwz⟩⟩
theorem cells_get {a : Addr} {n : Nat} {cs : List Value} (h : W.cells? base a n = some cs) : cs.length = n ∧ ∀ i, i < n → W.cell? (a.add i) = cs[i]? := by
  exact ⟨(World.cells?_some h).2.1, (World.cells?_some h).2.2⟩
theorem open_chan {n : Nat} {cs : List Value} {x : DataW H × List MemPlace} {sp : Nat → Bool} (h : DataW.trod enc Try.prog W 0 sp true n 83 cs = some x) :
    ∃ c : Chan, cs = [.string c.name, .int .i64 c.word, .int .i64 c.every, .int .i64 c.phase] ∧ c.name.size ≤ maxLen := by
  obtain ⟨y0, y1, y2, y3, m, _, hlen, f0, f1, f2, f3⟩ := trod_struct4 Try.underlying83 h
  have hl4 : cs.length = 4 := hlen.trans (by kernel_rfl)
  have q0 : Try.prog.cellsOf 9 = 1 := by kernel_rfl
  have q1 : Try.prog.cellsOf 3 = 1 := by kernel_rfl
  dsimp only at f0 f1 f2 f3
  rw [q0] at f0
  rw [q1] at f1 f2 f3
  clear hlen
  match cs, hl4 with
  | [c0, c1, c2, c3], _ =>
    simp only [List.drop_zero, List.drop_succ_cons, List.take_succ_cons, List.take_zero] at f0 f1 f2 f3
    obtain ⟨s, e0, _, hs⟩ := DataW.trod_string Try.underlying9 f0
    obtain ⟨a1, e1, _, _⟩ := DataW.trod_int Try.underlying3 f1
    obtain ⟨a2, e2, _, _⟩ := DataW.trod_int Try.underlying3 f2
    obtain ⟨a3, e3, _, _⟩ := DataW.trod_int Try.underlying3 f3
    injection e0 with e0
    injection e1 with e1
    injection e2 with e2
    injection e3 with e3
    subst e0 e1 e2 e3
    exact ⟨⟨s, a1, a2, a3⟩, rfl, hs⟩
theorem open_chans {n : Nat} {v : Value} {x : DataW H × List MemPlace} (h : DataW.trod enc Try.prog W 0 (fun _ => true) true n 26 [v] = some x) : ∃ l, ChansV W v l ∧ ∀ c ∈ l, c.name.size ≤ maxLen := by
  have q4 : Try.prog.cellsOf 83 = 4 := by kernel_rfl
  rcases open_slice Try.underlying26 h with ⟨e, _⟩ | ⟨a, len, cap, m, n', D, Pl, e, _, hlc, hcm, hm, _, hel⟩
  · injection e with e
    subst e
    exact ⟨[], ⟨none, 0, rfl, Nat.le_refl _, by simp [maxLen], fun h => absurd h (by simp)⟩, by simp⟩
  · injection e with e
    subst e
    rw [if_pos rfl] at hm
    subst m
    have key : ∀ i, ∃ c : Chan, i < len → (c.name.size ≤ maxLen ∧ ∀ k, k < 4 → W.cell? ((a.add (i * 4)).add k) = some (c.cell k)) := by
      intro i
      by_cases hi : i < len
      · obtain ⟨cs', h1, h2⟩ := hel i (by omega)
        rw [q4] at h1
        obtain ⟨c, rfl, hs⟩ := open_chan h2
        have hg := (cells_get h1).2
        refine ⟨c, fun _ => ⟨hs, fun k hk => ?_⟩⟩
        rw [hg k hk]
        rcases (by omega : k = 0 ∨ k = 1 ∨ k = 2 ∨ k = 3) with rfl | rfl | rfl | rfl <;> rfl
      · exact ⟨default, fun h => absurd h hi⟩
    obtain ⟨g, hg⟩ := Classical.skolem.1 key
    have hlen : ((List.range len).map g).length = len := by simp
    refine ⟨(List.range len).map g, ⟨some a, cap, by rw [hlen], by rw [hlen]; exact hlc, hcm, fun hpos => ?_⟩, fun c hc => ?_⟩
    · rw [hlen] at hpos ⊢
      obtain ⟨b, off, spot⟩ := a
      have h0 := (hg 0 hpos).2 0 (by omega)
      have hspot : spot = none := by simpa [Addr.add] using World.cell?_spot h0
      subst hspot
      have hblk := World.block_lt_of_cell? W _ h0
      refine ⟨b, off, rfl, by simpa [addr_add] using hblk, fun i k hi hk => ?_⟩
      have := (hg i hi).2 k hk
      rw [addr_add, addr_add] at this
      rw [this]
      simp [List.getD_eq_getElem?_getD, hi]
    · obtain ⟨i, hi, rfl⟩ := List.mem_map.1 hc
      exact (hg i (List.mem_range.1 hi)).1
theorem le_maxLen {n : Nat} (h : n ≤ maxLen) : n ≤ 9223372036854775807 := by
  unfold maxLen at h
  exact h
set_option maxRecDepth 100000 in
theorem open_fmt {w0 : Nat} {v : Value} {d : DataW H} {p : List MemPlace} {r : Reach} (hval : Value.okWide Try.prog W r w0 28 v) (h : DataW.Trod enc Try.prog W 0 (fun _ => true) true 28 v d p) : ∃ f, FmtV W v f := by
  obtain ⟨v0, v1, v2, v3, y0, y1, y2, y3, n, rfl, _, _, h0, h1, h2, h3⟩ := open_agg4 Try.underlying28 (by kernel_rfl) (by kernel_rfl) hval h
  obtain ⟨s, e0, _, hs⟩ := DataW.trod_string Try.underlying9 h0
  obtain ⟨a1, e1, _, _⟩ := DataW.trod_int Try.underlying3 h1
  obtain ⟨a2, e2, _, _⟩ := DataW.trod_int Try.underlying3 h2
  obtain ⟨l, ⟨A, cap, rfl, hl1, hl2, hl3⟩, hl⟩ := open_chans h3
  injection e0 with e0
  injection e1 with e1
  injection e2 with e2
  subst e0 e1 e2
  exact ⟨⟨s, a1, a2, l⟩, le_maxLen hs, fun c hc => le_maxLen (hl c hc), A, cap, rfl, hl1, hl2, hl3⟩
set_option maxRecDepth 100000 in
theorem open_intV {w0 : Nat} {v : Value} {d : DataW H} {p : List MemPlace} (hval : Value.okWide Try.prog W .any w0 3 v) (h : DataW.Trod enc Try.prog W 0 (fun _ => true) true 3 v d p) : ∃ x, v = .int .i64 x ∧ (Lit.int .i64 x).wf = true := by
  obtain ⟨x, rfl, _, _, wx⟩ := open_int Try.underlying3 hval h
  exact ⟨x, rfl, wx⟩
set_option maxRecDepth 100000 in
theorem open_intsV {w0 : Nat} {v : Value} {d : DataW H} {p : List MemPlace} (hval : Value.okWide Try.prog W .any w0 29 v) (h : DataW.Trod enc Try.prog W 0 (fun _ => true) true 29 v d p) : ∃ l, IntsV W .i64 v l := by
  obtain ⟨a0, len0, cap0, rfl⟩ := okWide_slice Try.underlying29 hval
  obtain ⟨fuel, hf⟩ := h
  obtain ⟨a, len, cap, zs, e, hr⟩ := open_ints' (fun _ => rfl) Try.underlying29 Try.underlying3 (by kernel_rfl) hf
  injection e with e1 e2 e3
  subst e1 e2 e3
  exact ⟨_, hr.ints⟩
set_option maxRecDepth 100000 in
theorem open_bytesT {n : Nat} {v : Value} {x : DataW H × List MemPlace} (h : DataW.trod enc Try.prog W 0 (fun _ => true) true n 22 [v] = some x) : ∃ l, BytesV W v l := by
  obtain ⟨a, len, cap, zs, rfl, hr⟩ := open_ints' (fun _ => rfl) Try.underlying22 Try.underlying5 (by kernel_rfl) h
  exact ⟨_, hr.bytes⟩
set_option maxRecDepth 100000 in
theorem open_bytesV {w0 : Nat} {v : Value} {d : DataW H} {p : List MemPlace} (hval : Value.okWide Try.prog W .any w0 22 v) (h : DataW.Trod enc Try.prog W 0 (fun _ => true) true 22 v d p) : ∃ l, BytesV W v l := by
  obtain ⟨a0, len0, cap0, rfl⟩ := okWide_slice Try.underlying22 hval
  obtain ⟨fuel, hf⟩ := h
  exact open_bytesT hf
set_option maxRecDepth 100000 in
theorem open_tape {w0 : Nat} {v : Value} {d : DataW H} {p : List MemPlace} (hval : Value.okWide Try.prog W .any w0 38 v) (h : DataW.Trod enc Try.prog W 0 (fun _ => true) true 38 v d p) : ∃ b l first, v = .agg #[b, .int .i64 first] ∧ BytesV W b l := by
  obtain ⟨v0, v1, y0, y1, n, rfl, _, _, h0, h1⟩ := open_agg2 Try.underlying38 (by kernel_rfl) (by kernel_rfl) hval h
  obtain ⟨l, hl⟩ := open_bytesT h0
  obtain ⟨a1, e1, _, _⟩ := DataW.trod_int Try.underlying3 h1
  injection e1 with e1
  subst e1
  exact ⟨_, l, _, rfl, hl⟩
end
end Go.Proofs.Ytjnnkcnnandeeaa
