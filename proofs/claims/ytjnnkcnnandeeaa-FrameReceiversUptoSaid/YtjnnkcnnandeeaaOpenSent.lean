/- What frames that are sent (the laws' Sent) read as when they came in, and how large they are at most. -/
import Derived.Test.YtjnnkcnnandeeaaRows
import Derived.Test.YtjnnkcnnandeeaaOpen
namespace Go.Proofs.Ytjnnkcnnandeeaa
open Go.ChangeShapes Go.WideShapes Go.ChangeAt Go.RowKit Go.Joins Go.Deep
/-- Frames that are sent: the first number, the steps, the words. -/
structure SentD where
  first : Int
  steps : List Nat
  words : List Int
def SentV (w : World) (v : Value) (x : SentD) : Prop :=
  (∀ y ∈ x.words, 0 ≤ y ∧ y < 65536) ∧ ∃ s u, v = .agg #[.int .i64 x.first, s, u] ∧ BytesV w s x.steps ∧ IntsV w .u16 u x.words
theorem SentV.cext {w w' : World} {v : Value} {x : SentD} (h : SentV w v x) (e : CExt w w') : SentV w' v x := by
  obtain ⟨h0, s, u, h1, h2, h3⟩ := h
  exact ⟨h0, s, u, h1, h2.cext e, h3.cext e⟩
theorem SentV.ext {w w' : World} {v : Value} {x : SentD} (h : SentV w v x) (e : Ext w w') : SentV w' v x := h.cext e.c
theorem bulk_lits {H : Type} (k : IntKind) (zs : List Int) : Rows.uptoBulkAll (lits (H := H) k zs) = zs.length := by
  induction zs with
  | nil => rfl
  | cons z zs ih =>
    unfold lits at ih ⊢
    rw [List.map_cons, Rows.uptoBulkAll, ih]
    simp [Rows.uptoBulk]; omega
section
variable {H : Type} {enc : TypeId × Value → H} {W : World}
theorem open_row {t e : TypeId} {k : IntKind} {n : Nat} {v : Value} {x : DataW H × List MemPlace} (ht : Try.prog.underlying t = some (.slice e)) (he : Try.prog.underlying e = some (.int k)) (hc : Try.prog.cellsOf e = 1)
    (h : DataW.trod enc Try.prog W 0 (fun _ => true) true n t [v] = some x) : ∃ a len cap zs, v = .slice a len cap ∧ IsRow k W a len cap zs ∧ len ≤ Rows.uptoBulk x.1 := by
  rcases open_ints ht he hc h with ⟨hcs, _⟩ | ⟨a, l, c, zs, hcs, _, hl, hm, hz, hx, hcell, hwz⟩
  · simp at hcs
    exact ⟨none, 0, 0, [], hcs, .inl ⟨rfl, rfl, rfl, rfl⟩, Nat.zero_le _⟩
  · simp at hcs
    simp only [if_true] at hz
    refine ⟨some a, l, c, zs, hcs, .inr ⟨_, rfl, hl, hm, hz, hcell, hwz⟩, ?_⟩
    rw [hx]
    simp only [Rows.uptoBulk, bulk_lits, List.length_take]
    omega
theorem IsRow.u16 {w : World} {a : Option Addr} {len cap : Nat} {zs : List Int} (h : IsRow .u16 w a len cap zs) : ∀ n ∈ zs.take len, 0 ≤ n ∧ n < 65536 := by
  intro n hn
  rcases h with ⟨_, _, _, rfl⟩ | ⟨_, _, _, _, _, _, hw⟩
  · simp at hn
  · have := bounds_u16 (hw n (List.mem_of_mem_take hn)); omega
set_option maxRecDepth 100000 in
theorem open_sent {w0 : Nat} {v : Value} {d : DataW H} {p : List MemPlace} (hval : Value.okWide Try.prog W .any w0 55 v) (h : DataW.Trod enc Try.prog W 0 (fun _ => true) true 55 v d p) : ∃ x, SentV W v x ∧ x.steps.length ≤ Rows.uptoBulk d ∧ x.words.length ≤ Rows.uptoBulk d := by
  obtain ⟨v0, v1, v2, y0, y1, y2, n, rfl, rfl, _, h0, h1, h2⟩ := open_agg3 Try.underlying55 (by kernel_rfl) (by kernel_rfl) hval h
  obtain ⟨z, e0, _, _⟩ := DataW.trod_int Try.underlying3 h0
  injection e0 with e0
  subst e0
  obtain ⟨a1, l1, c1, zs1, rfl, r1, b1⟩ := open_row Try.underlying22 Try.underlying5 (by kernel_rfl) h1
  obtain ⟨a2, l2, c2, zs2, rfl, r2, b2⟩ := open_row Try.underlying53 Try.underlying65 (by kernel_rfl) h2
  refine ⟨⟨z, (zs1.take l1).map Int.toNat, zs2.take l2⟩, ⟨r2.u16, _, _, rfl, r1.bytes, r2.ints⟩, ?_, ?_⟩
  · dsimp only
    rw [List.length_map, r1.length]
    simp only [Rows.uptoBulk, Rows.uptoBulkAll]
    omega
  · dsimp only
    rw [r2.length]
    simp only [Rows.uptoBulk, Rows.uptoBulkAll]
    omega
end
end Go.Proofs.Ytjnnkcnnandeeaa
