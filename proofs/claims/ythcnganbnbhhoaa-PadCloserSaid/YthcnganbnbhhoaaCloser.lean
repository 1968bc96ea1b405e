/- What PadCloser's walk wants: lists copied and one cell written, and its plain law. -/
import Derived.Test.YthcnganbnbhhoaaLawL
import Derived.Test.YthcnganbnbhhoaaAwake
import Derived.Test.YthcnganbnbhhoaaKept
import Derived.Test.YthcnganbnbhhoaaDetE
namespace Go.Proofs.Ythcnganbnbhhoaa
open Go.RowKit Go.Shelf
section
variable {P : Program} {ops : Array Oper} {Q : Exit → Act → World → Prop}
def slotD (x : Nat → Value) (d : Option Tmp) (v : Value) : Nat → Value := match d with | some k => fun j => if j = k then v else x j | none => x
/-- A drawn region: one word over all that is done so far. -/
theorem wp_region_glob {id : Nat} {T : Array Value} {df : List Deferred} {w : World} (hm : P.follows .mixedOrders = true)
 (ds : List Nat) (hds : (ops.toList.all fun o => match o.dst with | some d => ds.contains d | none => true) = true) (hlow : lowBinds ops = true)
 (fx : List (Nat × Value)) (hout : (fx.all fun p => !ds.contains p.1) = true) (hfx : fixedAt T fx)
 (hng : (ops.toList.all fun o => o.guard.isNone) = true)
 (Z : (Nat → Bool) → (Nat → Value) → World → Prop) (hZ0 : Z (fun _ => false) (fun d => T.getD d undef) w.drew)
 (hsteps : ∀ j o L x W F, ops[j]? = some o → L j = false → (∀ e ∈ o.after, Region.binds .any e = true → L e.on = true) → Z L x W → fixedAt F fx → (∀ d, d ∈ ds → d < T.size → F.getD d undef = x d) → ∀ K : Act → World → Prop, (∀ v W', Z (fun k => if k = j then true else L k) (slotD x o.dst v) W' → K (Act.put ⟨F, df⟩ o.dst v) W') → o.wp P ⟨F, df⟩ W K Q)
 (hend : ∀ L x W, (∀ j, j < ops.size → L j = true) → Z L x W → Q .normal ⟨fill T x ds, df⟩ W) : (Code.region id ops true).wp P Q ⟨T, df⟩ w := by
 have hwant : ∀ (i : Nat) (o : Oper), ops[i]? = some o → ∀ y, Region.wanted o y = true := fun i o ho y => by
  obtain ⟨hlt, rfl⟩ := Array.getElem?_eq_some_iff.1 ho
  rw [List.all_eq_true] at hng
  have h1 := hng ops[i] (by simp)
  unfold Region.wanted
  cases hg : ops[i].guard with
  | none => rfl
  | some g => rw [hg] at h1; cases h1
 refine wp_region_inv hm (fun listed a W => ∃ x, a = ⟨fill T x ds, df⟩ ∧ Z (fun j => listed.getD j false) x W) ?_ ?_ ?_
 ·refine ⟨fun d => T.getD d undef, by rw [fill_self], ?_⟩
  have : (fun j => (Array.replicate ops.size false).getD j false) = fun _ => false := funext fun j => getD_rep _ j
  rw [this]
  exact hZ0
 ·intro listed a W i hcl hInv hi
  obtain ⟨hun, o, ho, hdep⟩ := mem_ready.1 hi
  have huf : listed.getD i false = false := by
   simp only [Array.getD_eq_getD_getElem?] at hun ⊢
   cases hh : listed[i]? with
   | none => rfl
   | some v => rw [hh] at hun; exact hun
  obtain ⟨x, rfl, hz⟩ := hInv
  have h1 := hsteps i o (fun j => listed.getD j false) x W (fill T x ds) ho huf hdep hz (fixed_fill T x ds fx hout hfx) (fun d hd ht => by rw [fill_getD, if_pos ⟨hd, ht⟩]) (fun a' W' => ∃ x', a' = ⟨fill T x' ds, df⟩ ∧ Z (fun k => if k = i then true else listed.getD k false) x' W') (fun v W' hv => by
   refine ⟨slotD x o.dst v, ?_, hv⟩
   cases hdst : o.dst with
   | none => rfl
   | some d =>
    obtain ⟨hlt, ho'⟩ := Array.getElem?_eq_some_iff.1 ho
    rw [List.all_eq_true] at hds
    have h2 := hds o (by rw [← ho']; simp)
    rw [hdst] at h2
    simp only [Act.put, slotD]
    rw [fill_put _ _ _ _ (by simpa using h2)])
  have h2 : wpOp P ops Q i (fun a' W' => ∃ x', a' = ⟨fill T x' ds, df⟩ ∧ Z (fun k => if k = i then true else listed.getD k false) x' W') ⟨fill T x ds, df⟩ W := by
   unfold wpOp
   rw [ho]
   dsimp only
   rw [if_pos (hwant i o ho _)]
   exact .inl h1
  refine wpOp_mono ?_ h2
  rintro a' W' ⟨x', rfl, hz'⟩
  refine ⟨x', rfl, ?_⟩
  have : (fun j => (listed.setIfInBounds i true).getD j false) = fun k => if k = i then true else listed.getD k false := funext fun j => getD_upd hun j
  rw [this]
  exact hz'
 ·intro listed a W hls hr hInv
  have hall := all_listed' hlow hls hr
  obtain ⟨x, rfl, hz⟩ := hInv
  exact hend _ x W hall hz
end
def flatC {α : Type} (size : Nat) (cell : α → Nat → Value) (l : List α) : List Value := l.flatMap fun x => (List.range size).map (cell x)
theorem flatC_len {α : Type} {size : Nat} {cell : α → Nat → Value} {l : List α} : (flatC size cell l).length = l.length * size := by
 unfold flatC
 induction l with
 | nil => simp
 | cons a l ih => rw [List.flatMap_cons, List.length_append, ih]; simp [Nat.add_mul, Nat.add_comm]
section
variable {α : Type} [Inhabited α] {size : Nat} {cell : α → Nat → Value} {w : World} {l : List α}
theorem flatC_at {i f : Nat} (hi : i < l.length) (hf : f < size) : (flatC size cell l)[i * size + f]? = some (cell (l.getD i default) f) := flat_get size cell l i f hi hf
theorem ListV.src {A : Option Addr} {c : Nat} (h : ListV size cell w (.slice A l.length c) l) : Src w A l.length size (flatC size cell l) := by
 refine ⟨flatC_len, fun hn => ?_⟩
 obtain ⟨b, off, e, hb, hc⟩ := h.rows.2.2.2 hn
 refine ⟨_, e, fun j u hu => ?_⟩
 have hj : j < l.length * size := by
  rw [← flatC_len (cell := cell)]
  exact (List.getElem?_eq_some_iff.1 hu).1
 have hs : 0 < size := by
  rcases Nat.eq_zero_or_pos size with h0 | h0
  ·subst h0; simp at hj
  ·exact h0
 have hi : j / size < l.length := Nat.div_lt_of_lt_mul (by rw [Nat.mul_comm]; exact hj)
 have hf : j % size < size := Nat.mod_lt _ hs
 have he : j / size * size + j % size = j := by rw [Nat.mul_comm]; exact Nat.div_add_mod _ _
 have h1 := flatC_at (cell := cell) hi hf
 rw [he, hu] at h1
 injection h1 with h1
 rw [addr_add, h1]
 have h2 := hc _ _ hi hf
 rwa [Nat.add_assoc, he] at h2
/-- A copy of a list, one cell of one element written. -/
theorem own_set {base n : Nat} {e : TypeId} {v : Value} (h : Own w base e size v n (flatC size cell l)) {i f : Nat} (hi : i < l.length) (hf : f < size) :
 ∃ g c, v = .slice (some ⟨g, 0, none⟩) n c ∧ n = l.length ∧ base ≤ g ∧ g < w.heap.size ∧ n ≤ c ∧ c ≤ maxLen ∧ (∀ k, k < size → w.cell? ⟨g, i * size + k, none⟩ = some (cell (l.getD i default) k)) ∧ (∀ k, k < size → w.frozen? ⟨g, i * size + k, none⟩ = false) ∧
  ∀ (u : Value) (x : α), (∀ k, k < size → cell x k = if k = f then u else cell (l.getD i default) k) → ListV size cell (w.setCell ⟨g, i * size + f, none⟩ u) v (l.set i x) := by
 have hn : n * size = l.length * size := by rw [← flatC_len (cell := cell)]; exact h.1.symm
 have hn : n = l.length := Nat.eq_of_mul_eq_mul_right (by omega) hn
 subst hn
 rcases h.2 with ⟨rfl, h0⟩ | ⟨g, cap, cur, lo, hi', rfl, hb, hg, hc, hm, hcs, hfz, ht⟩
 ·omega
 have hall : ∀ i' k, i' < l.length → k < size → w.cell? ⟨g, i' * size + k, none⟩ = some (cell (l.getD i' default) k) := by
  intro i' k h1 h2
  refine cell_heap hg _ _ ?_
  have h3 := flatC_at (cell := cell) h1 h2
  rw [← ht, List.getElem?_take] at h3
  split at h3
  ·simpa using h3
  ·cases h3
 have hlt := (Array.getElem?_eq_some_iff.1 hg).1
 refine ⟨g, cap, rfl, rfl, hb, hlt, hc, hm, fun k hk => hall i k hi hk, fun k hk => ?_, fun u x hx => ?_⟩
 ·have a1 : (i + 1) * size ≤ l.length * size := Nat.mul_le_mul_right _ hi
  have a2 : l.length * size ≤ cap * size := Nat.mul_le_mul_right _ hc
  rw [Nat.add_mul] at a1
  simp only [World.frozen?, hg]
  rw [Bool.and_eq_false_iff]
  simp only [decide_eq_false_iff_not]
  omega
 refine ⟨_, cap, by rw [List.length_set], by rw [List.length_set]; exact hc, hm, fun _ => ⟨g, 0, rfl, by rw [World.size_setCell]; exact hlt, fun i' k h1 h2 => ?_⟩⟩
 rw [List.length_set] at h1
 rw [Nat.zero_add]
 by_cases he : i' * size + k = i * size + f
 ·have hik : i' = i := by
   have a1 : (i' * size + k) / size = i' := by rw [Nat.mul_comm, Nat.mul_add_div (by omega), Nat.div_eq_of_lt h2]; omega
   have a2 : (i * size + f) / size = i := by rw [Nat.mul_comm, Nat.mul_add_div (by omega), Nat.div_eq_of_lt hf]; omega
   rw [he, a2] at a1; exact a1.symm
  subst hik
  have hkf : k = f := by omega
  subst hkf
  rw [World.cell?_setCell_same _ _ _ (hall i' k hi hf)]
  dsimp only
  rw [getD_setX, if_pos ⟨rfl, hi⟩, hx k hf, if_pos rfl]
 ·rw [World.cell?_setCell_other _ _ _ _ (by intro hh; injection hh with _ h2; exact he h2.symm), hall i' k h1 h2]
  dsimp only
  rw [getD_setX]
  split
  ·rename_i hh
   obtain ⟨rfl, _⟩ := hh
   rw [hx k h2, if_neg (by intro hk; subst hk; exact he rfl)]
  ·rfl
end
theorem ListV.block {α : Type} [Inhabited α] {size : Nat} {cell : α → Nat → Value} {W W' : World} {l : List α} {g n c : Nat} (h : ListV size cell W (.slice (some ⟨g, 0, none⟩) n c) l) (hg : W'.heap[g]? = W.heap[g]?) (hs : g < W'.heap.size) : ListV size cell W' (.slice (some ⟨g, 0, none⟩) n c) l := by
 obtain ⟨A, cap, e, h1, h2, h3⟩ := h
 refine ⟨A, cap, e, h1, h2, fun hn => ?_⟩
 obtain ⟨b, off, eb, hb, hc⟩ := h3 hn
 have hbg : b = g := by
  rw [eb] at e
  simp only [Value.slice.injEq, Option.some.injEq, Addr.mk.injEq] at e
  exact e.1.1.symm
 subst hbg
 exact ⟨b, off, eb, hs, fun i k hi hk => cell_block (hc i k hi hk) hg⟩
theorem ListV.lt_of {α : Type} [Inhabited α] {size : Nat} {cell : α → Nat → Value} {W : World} {l : List α} {i : Nat} {x : α} {g n c q : Nat} (h : ListV size cell W (.slice (some ⟨g, 0, none⟩) n c) (l.set i x)) (hq : q < l.length) : g < W.heap.size := by
 obtain ⟨_, _, _, h3⟩ := h.rows
 obtain ⟨b, off, eb, hb, _⟩ := h3 (by rw [List.length_set]; omega)
 simp only [Option.some.injEq, Addr.mk.injEq] at eb
 rw [eb.1]; exact hb
theorem flatC_one {α : Type} {size : Nat} {cell : α → Nat → Value} {l : List α} (h : ∀ x ∈ l, ∀ k, (cell x k).oneCell' = true) : ∀ u ∈ flatC size cell l, u.oneCell' = true := by
 intro u hu
 unfold flatC at hu
 obtain ⟨x, hx, hu⟩ := List.mem_flatMap.1 hu
 obtain ⟨k, _, rfl⟩ := List.mem_map.1 hu
 exact h x hx k
theorem zone_one (z : Zone) (k : Nat) : (z.cell k).oneCell' = true := by unfold Zone.cell; split <;> rfl
theorem squib_one {w : World} (x : SquibX) (h : IntsV w .i64 x.2 x.1.keys) (k : Nat) : (SquibX.cell x k).oneCell' = true := by
 obtain ⟨A, c, e, _⟩ := h
 unfold SquibX.cell; split <;> first | rfl | (rw [e]; rfl)
theorem infoSquib : (Try.prog.info? 55).map (fun i => (i.zero, i.size, i.bytes)) = some (some (.agg #[.string .empty, .int .i64 0, .int .i64 0, .int .i64 0, .int .i64 0, .slice none 0 0]), 6, 72) := by kernel_rfl
theorem infoZone : (Try.prog.info? 61).map (fun i => (i.zero, i.size, i.bytes)) = some (some (.agg #[.string .empty, .int .i64 0, .int .i64 0, .int .i64 0, .int .i64 0, .int .i64 0, .int .i64 0, .bool false]), 8, 72) := by kernel_rfl
theorem padV_less {w : World} {p : Pad} {az : Option Addr} {cz : Nat} {ad : Option Addr} {cd : Nat} {ap : Option Addr} {cp : Nat} {ak : Option Addr} {ck : Nat} {aq : Option Addr} {cq : Nat} (h : PadAt w ⟨az, cz, ad, cd, ap, cp, ak, ck, aq, cq⟩ p) {q g cc : Nat} {c : Int} (hq : q < p.squibs.length) (hl : ListV 6 SquibX.cell w (.slice (some ⟨g, 0, none⟩) p.squibs.length cc) (p.squibs.set q ({ (p.squibs.getD q default).1 with clear := c }, (p.squibs.getD q default).2))) :
 PadV w (.agg #[.slice az p.zones.length cz, .slice ad p.doors.length cd, .slice ap p.people.length cp, .slice ak p.keys.length ck, .slice (some ⟨g, 0, none⟩) p.squibs.length cc, .int .i64 p.panel, .int .i64 p.wait]) (lessP p q c (p.squibs.getD q default).2) := by
 have hm := getD_in' (default : SquibX) hq
 refine padV_iff.2 ⟨⟨az, cz, ad, cd, ap, cp, ak, ck, some ⟨g, 0, none⟩, cc⟩, by simp [PadX.cells, lessP], ⟨⟨h.strs.1, h.strs.2.1, h.strs.2.2.1, fun x hx => ?_⟩, fun x hx => ?_, h.z, h.d, h.x, h.k, by simpa [lessP] using hl⟩⟩
 all_goals rcases List.mem_or_eq_of_mem_set hx with h1 | rfl
 ·exact h.strs.2.2.2 x h1
 ·have := h.strs.2.2.2 _ hm; exact this
 ·exact h.kv x h1
 ·have := h.kv _ hm; exact this
theorem padV_more {w : World} {p : Pad} {az : Option Addr} {cz : Nat} {ad : Option Addr} {cd : Nat} {ap : Option Addr} {cp : Nat} {ak : Option Addr} {ck : Nat} {aq : Option Addr} {cq : Nat} (h : PadAt w ⟨az, cz, ad, cd, ap, cp, ak, ck, aq, cq⟩ p) {z g cc : Nat} {c : Int} (hz : z < p.zones.length) (hl : ListV 8 Zone.cell w (.slice (some ⟨g, 0, none⟩) p.zones.length cc) (p.zones.set z { (p.zones.getD z default) with xhi := c })) :
 PadV w (.agg #[.slice (some ⟨g, 0, none⟩) p.zones.length cc, .slice ad p.doors.length cd, .slice ap p.people.length cp, .slice ak p.keys.length ck, .slice aq p.squibs.length cq, .int .i64 p.panel, .int .i64 p.wait]) (moreP p z c) := by
 have hm := getD_in' (default : Zone) hz
 refine padV_iff.2 ⟨⟨some ⟨g, 0, none⟩, cc, ad, cd, ap, cp, ak, ck, aq, cq⟩, by simp [PadX.cells, moreP], ⟨⟨fun x hx => ?_, h.strs.2.1, h.strs.2.2.1, h.strs.2.2.2⟩, h.kv, by simpa [moreP] using hl, h.d, h.x, h.k, h.q⟩⟩
 rcases List.mem_or_eq_of_mem_set hx with h1 | rfl
 ·exact h.strs.1 x h1
 ·have := h.strs.1 _ hm; exact this
section
variable {p : Pad} {z q : Nat}
theorem nearE_0 {p : Pad} {z q : Nat} (hp : (padE p).2.2 = 0) (hz : z < p.zones.length) (hq : q < p.squibs.length) : nearE p z q = 0 := by
 unfold nearE
 rw [hp, if_neg (by simp), if_neg]
 rw [Bool.not_eq_true, Bool.or_eq_false_iff]
 exact ⟨outB_f.2 (by omega), outB_f.2 (by omega)⟩
theorem nearR_q {p : Pad} {z q : Nat} (hp : (padE p).2.2 = 0) (hz : z < p.zones.length) (hq : q < p.squibs.length) : nearR p z q = nearQ p z q := by
 unfold nearR
 rw [if_pos (nearE_0 hp hz hq), Bool.eq_iff_iff, nearQ_t, near_mem hq]
theorem Less.lq {p r : Pad} (h : Less p r) : r.squibs.length = p.squibs.length := h.len
theorem closer_less {p r : Pad} (h : Less p r) (hp : (padE p).2.2 = 0) (hz : z < p.zones.length) (hq : q < p.squibs.length) : nearE r z q = 0 ∧ (nearR r z q = true → nearQ p z q = true) := by
 have hz' : z < r.zones.length := by rw [h.zones]; exact hz
 have hq' : q < r.squibs.length := by rw [h.lq]; exact hq
 refine ⟨nearE_0 (h.padE hp) hz' hq', fun hn => ?_⟩
 rw [nearR_q (h.padE hp) hz' hq', nearQ_t] at hn
 exact nearQ_t.2 (h.nears hn)
theorem closer_more {c : Int} (hz : z < p.zones.length) (hq : q < p.squibs.length) (hc : (p.zones.getD z default).xhi ≤ c) : nearE (moreP p z c) z q ≠ 0 ∨ nearR (moreP p z c) z q = true ∨ nearQ p z q = false := by
 by_cases he : nearE (moreP p z c) z q = 0
 ·right
  by_cases hn : nearQ p z q = true
  ·left
   rw [nearQ_t, near_mem hq] at hn
   unfold nearR
   rw [if_pos he]
   exact moreP_near hz hc hn
  ·right; simpa using hn
 ·exact .inl he
end
end Go.Proofs.Ythcnganbnbhhoaa
