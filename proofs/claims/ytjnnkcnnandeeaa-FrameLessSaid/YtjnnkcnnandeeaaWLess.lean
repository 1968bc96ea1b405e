/- The walk of FrameLess. -/
import Derived.Test.YtjnnkcnnandeeaaPLess
import Derived.Test.YtjnnkcnnandeeaaWAxes
import Derived.Test.YtjnnkcnnandeeaaWAwake
import Derived.Deep.RegionHeld3
namespace Go.Proofs.Ytjnnkcnnandeeaa
open Go.RowKit Go.Shelf
def repC (x : RepX) : List Value := [.int .i64 x.1.num, .int .i64 x.1.frm, .int .i64 x.1.agr, .bool x.1.marked, x.2]
theorem repC_len (xs : List RepX) : (xs.flatMap repC).length = xs.length * 5 := by
  induction xs with
  | nil => rfl
  | cons p ps ih => rw [List.flatMap_cons, List.length_append, ih]; simp [repC]; omega
theorem repC_at (xs : List RepX) : ∀ (i k : Nat), i < xs.length → k < 5 → (xs.flatMap repC)[i * 5 + k]? = some ((xs.getD i default).cell k) := by
  induction xs with
  | nil => intro i k hi; simp at hi
  | cons p ps ih =>
    intro i k hi hk
    rw [List.flatMap_cons]
    cases i with
    | zero =>
      rw [List.getElem?_append_left (by simp [repC]; omega)]
      match k, hk with
      | 0, _ => rfl
      | 1, _ => rfl
      | 2, _ => rfl
      | 3, _ => rfl
      | 4, _ => rfl
    | succ i =>
      rw [List.getElem?_append_right (by simp [repC]; omega)]
      have : (i + 1) * 5 + k - (repC p).length = i * 5 + k := by simp [repC]; omega
      rw [this, ih i k (by simpa using hi) hk]
      rfl
theorem reps_info : (Try.prog.info? 97).map (fun i => (i.zero, i.size, i.bytes)) = some (some (.agg #[.int .i64 0, .int .i64 0, .int .i64 0, .bool false, .slice none 0 0]), 5, 56) := by kernel_rfl
/-- Some of the reports that came in, as the source of an append. -/
theorem reps_src {w : World} {A : Option Addr} {xs : List RepX} (h : Rows2 w A xs.length 5 (fun i j => (xs.getD i default).cell j)) {k m : Nat} (hk : k + m ≤ xs.length) {b off : Nat} (hA : A = some ⟨b, off, none⟩) :
    Src w (some ⟨b, off + k * 5, none⟩) m 5 (((xs.drop k).take m).flatMap repC) := by
  subst hA
  have hl : ((xs.drop k).take m).length = m := by rw [List.length_take, List.length_drop]; omega
  refine ⟨by rw [repC_len, hl], fun hm => ⟨_, rfl, fun j u hu => ?_⟩⟩
  obtain ⟨b', off', e, hb, hc⟩ := h (by omega)
  injection e with e
  injection e with e1 e2
  subst e1 e2
  have hj : j < m * 5 := by
    have := (List.getElem?_eq_some_iff.1 hu).1
    rw [repC_len, hl] at this
    exact this
  have h1 := repC_at ((xs.drop k).take m) (j / 5) (j % 5) (by omega) (by omega)
  rw [show j / 5 * 5 + j % 5 = j by omega, hu] at h1
  injection h1 with h1
  have h2 : ((xs.drop k).take m).getD (j / 5) default = xs.getD (k + j / 5) default := by
    rw [List.getD_eq_getElem?_getD, List.getD_eq_getElem?_getD, List.getElem?_take, if_pos (by omega), List.getElem?_drop]
  rw [h1, h2, addr_add, ← hc (k + j / 5) (j % 5) (by omega) (by omega)]
  congr 2
  omega
theorem IntsV.one {w : World} {k : IntKind} {v : Value} {l : List Int} (h : IntsV w k v l) : v.oneCell' = true := by
  obtain ⟨A, cap, rfl, _⟩ := h; rfl
theorem repC_one (xs : List RepX) (h : ∀ x ∈ xs, x.2.oneCell' = true) : ∀ u ∈ xs.flatMap repC, u.oneCell' = true := by
  intro u hu
  obtain ⟨x, hx, hu⟩ := List.mem_flatMap.1 hu
  simp only [repC, List.mem_cons, List.not_mem_nil, or_false] at hu
  rcases hu with rfl | rfl | rfl | rfl | rfl <;> first | rfl | exact h x hx
/-- Reports that the call has put together itself. -/
theorem reps_own {w : World} {base : Nat} {v : Value} {xs : List RepX} {n : Nat} (h : Own w base 97 5 v n (xs.flatMap repC)) (hw : ∀ x ∈ xs, IntsV w .i64 x.2 x.1.words) : RepsV w v xs := by
  have hn : n = xs.length := by have := h.1; rw [repC_len] at this; omega
  subst hn
  rcases h.2 with ⟨rfl, h0⟩ | ⟨g, cap, cur, lo, hi', rfl, hb, hg, hnc, hm, hcs, _, ht⟩
  · exact ⟨none, 0, by rw [h0], by omega, by simp [maxLen], (fun hp => by omega), hw⟩
  · refine ⟨_, cap, rfl, hnc, hm, fun hpos => ⟨g, 0, rfl, (Array.getElem?_eq_some_iff.1 hg).1, fun i k hi hk => ?_⟩, hw⟩
    have hu := repC_at xs i k hi hk
    rw [Nat.zero_add, cell_of_row w g (i * 5 + k) cur 97 _ hg]
    rw [← ht, List.getElem?_take] at hu
    split at hu
    · simpa using hu
    · cases hu
theorem reps_less {w : World} {base : Nat} {v : Value} {xs : List RepX} {k n : Nat} (h : Own w base 97 5 v n ([] ++ ((xs.drop 0).take k).flatMap repC ++ ((xs.drop (k + 1)).take (xs.length - (k + 1))).flatMap repC)) (hw : ∀ x ∈ lessX xs k, IntsV w .i64 x.2 x.1.words) : RepsV w v (lessX xs k) := by
  rw [List.nil_append, ← List.flatMap_append, List.drop_zero, List.take_of_length_le (show (xs.drop (k + 1)).length ≤ xs.length - (k + 1) by rw [List.length_drop]; omega)] at h
  exact reps_own h hw
theorem reps_few {f : Fmt} {s : Sky} {xs : List RepX} (h : (axesOut f s xs).2 = 0) : xs.length ≤ 301 := by
  have hr : repErr f xs = 0 := by
    unfold axesOut at h
    by_cases h0 : (skyOut f s).2 ≠ 0
    · rw [if_pos h0] at h; exact absurd h h0
    · rw [if_neg h0] at h
      by_cases h1 : repErr f xs ≠ 0
      · rw [if_pos h1] at h; exact absurd h h1
      · simpa using h1
  have hR := Rise.of (repErr_0 hr).1
  have key : ∀ k, k < xs.length → (repAt xs 0).num + (k : Int) ≤ (repAt xs k).num := by
    intro k
    induction k with
    | zero => intro _; simp
    | succ k ih =>
      intro hk
      have h1 := ih (by omega)
      have h2 := hR k hk
      push_cast
      omega
  by_cases h0 : 0 < xs.length
  · have h1 := span_le hr h0
    have h2 := key (xs.length - 1) (by omega)
    omega
  · omega
theorem anyB_succ (p : Nat → Bool) (n : Nat) : anyB p (n + 1) = (anyB p n || p n) := by
  rw [Bool.eq_iff_iff, Bool.or_eq_true, anyB_t, anyB_t]
  constructor
  · rintro ⟨j, h1, h2⟩
    by_cases hj : j = n
    · right; rw [← hj]; exact h2
    · left; exact ⟨j, by omega, h2⟩
  · rintro (⟨j, h1, h2⟩ | h)
    · exact ⟨j, by omega, h2⟩
    · exact ⟨n, by omega, h⟩
set_option maxRecDepth 100000 in
set_option maxHeartbeats 4000000 in
theorem less_walk {v u z : Value} {f : Fmt} {s : Sky} {xs : List RepX} {wh : Nat} {w : World} (hv : FmtV w v f) (hu : SkyV w u s) (ht : RepsV w z xs) (hwh : wh < 256) :
    Calls Try.prog 15 #[v, u, .agg #[z, .int .u8 wh]] w fun e w' => e = .returned (.bool true) ∧ Below w.heap.size w w' := by
  have HV := hide hv
  have HU := hide hu
  have HT := hide ht
  obtain ⟨_, _, AF, capF, rfl, _, _, _⟩ := hv
  obtain ⟨A1, c1, A2, c2, rfl, _, _, _, _, _, _⟩ := hu
  obtain ⟨AT, capT, rfl, hcT, hmT, hrT, hwT⟩ := ht
  have hmT' : capT ≤ 9223372036854775807 := by simpa [maxLen] using hmT
  have HRT := hide hrT
  have HWT := hide hwT
  have HMT := hide hmT
  clear hmT
  obtain ⟨W0, hW0⟩ : ∃ W0, ((w.alloc (.cells #[.string f.sync, .int .i64 f.words, .int .i64 f.depth, .slice AF f.channels.length capF] 28)).alloc (.cells #[.slice A1 s.dirs.length c1, .int .i64 s.turn, .slice A2 s.sens.length c2] 76)).alloc (.cells #[.slice AT xs.length capT, .int .u8 wh] 106) = W0 := ⟨_, rfl⟩
  have hx0 : Ext w W0 := by rw [← hW0]; exact (((Ext.refl w).alloc _).alloc _).alloc _
  have hA0 : Ext (w.alloc (.cells #[.string f.sync, .int .i64 f.words, .int .i64 f.depth, .slice AF f.channels.length capF] 28)) W0 := by rw [← hW0]; exact ((Ext.refl _).alloc _).alloc _
  have g0 : W0.cell? ⟨w.heap.size, 0, none⟩ = some (.string f.sync) := by have := hA0.cell (cell_mk w _ 28 0 (.string f.sync) rfl); simpa only [size_alloc] using this
  have g1 : W0.cell? ⟨w.heap.size, 1, none⟩ = some (.int .i64 f.words) := by have := hA0.cell (cell_mk w _ 28 1 (.int .i64 f.words) rfl); simpa only [size_alloc] using this
  have g2 : W0.cell? ⟨w.heap.size, 2, none⟩ = some (.int .i64 f.depth) := by have := hA0.cell (cell_mk w _ 28 2 (.int .i64 f.depth) rfl); simpa only [size_alloc] using this
  have g3 : W0.cell? ⟨w.heap.size, 3, none⟩ = some (.slice AF f.channels.length capF) := by have := hA0.cell (cell_mk w _ 28 3 (.slice AF f.channels.length capF) rfl); simpa only [size_alloc] using this
  have hA1 : Ext ((w.alloc (.cells #[.string f.sync, .int .i64 f.words, .int .i64 f.depth, .slice AF f.channels.length capF] 28)).alloc (.cells #[.slice A1 s.dirs.length c1, .int .i64 s.turn, .slice A2 s.sens.length c2] 76)) W0 := by rw [← hW0]; exact (Ext.refl _).alloc _
  have s0 : W0.cell? ⟨w.heap.size + 1, 0, none⟩ = some (.slice A1 s.dirs.length c1) := by have := hA1.cell (cell_mk (w.alloc _) _ 76 0 (.slice A1 s.dirs.length c1) rfl); simpa only [size_alloc] using this
  have s1 : W0.cell? ⟨w.heap.size + 1, 1, none⟩ = some (.int .i64 s.turn) := by have := hA1.cell (cell_mk (w.alloc _) _ 76 1 (.int .i64 s.turn) rfl); simpa only [size_alloc] using this
  have s2 : W0.cell? ⟨w.heap.size + 1, 2, none⟩ = some (.slice A2 s.sens.length c2) := by have := hA1.cell (cell_mk (w.alloc _) _ 76 2 (.slice A2 s.sens.length c2) rfl); simpa only [size_alloc] using this
  have hA2 : Ext (((w.alloc (.cells #[.string f.sync, .int .i64 f.words, .int .i64 f.depth, .slice AF f.channels.length capF] 28)).alloc (.cells #[.slice A1 s.dirs.length c1, .int .i64 s.turn, .slice A2 s.sens.length c2] 76)).alloc (.cells #[.slice AT xs.length capT, .int .u8 wh] 106)) W0 := by rw [← hW0]; exact Ext.refl _
  have x0 : W0.cell? ⟨w.heap.size + 1 + 1, 0, none⟩ = some (.slice AT xs.length capT) := by have := hA2.cell (cell_mk ((w.alloc _).alloc _) _ 106 0 (.slice AT xs.length capT) rfl); simpa only [size_alloc] using this
  have x1 : W0.cell? ⟨w.heap.size + 1 + 1, 1, none⟩ = some (.int .u8 wh) := by have := hA2.cell (cell_mk ((w.alloc _).alloc _) _ 106 1 (.int .u8 wh) rfl); simpa only [size_alloc] using this
  clear hA0 hA1 hA2
  have HX0 := hide hx0
  have HW0 := hide hW0
  have HLS := hide (fun (k : Nat) => @less_all f s xs k)
  have HAX := hide (fun W (ys : List RepX) (t : Value) (hx : Ext w W) (h : RepsV W t ys) => axes_any _ _ t f s ys W (HV.out.ext hx) (HU.out.ext hx) h)
  have HA := hide awake_any
  clear hx0 hW0
  go_enter Try.func15, Try.ntmps15
  go_wp2_with fail
  rw [HW0.out]
  refine (HAX.out _ xs _ HX0.out (HT.out.ext HX0.out)).mono ?_
  rintro e w1 ⟨r1, ys1, rfl, hy1, hm1, hx1⟩
  have g0' := hx1.cell g0
  have g1' := hx1.cell g1
  have g2' := hx1.cell g2
  have g3' := hx1.cell g3
  have s0' := hx1.cell s0
  have s1' := hx1.cell s1
  have s2' := hx1.cell s2
  have x0' := hx1.cell x0
  have x1' := hx1.cell x1
  have HX1 := hide (HX0.out.trans hx1)
  have HY1 := hide hy1
  have HM1 := hide hm1
  have HA0 := hide (show (axesOut f s xs).2 ≠ 0 ∨ xs.length = 0 → ys1.length = 0 by
    intro h
    rw [← List.length_map (f := Prod.fst), hm1]
    unfold axesOut
    by_cases h1 : (skyOut f s).2 ≠ 0
    · rw [if_pos h1]; rfl
    · rw [if_neg h1]
      by_cases h2 : repErr f xs ≠ 0
      · rw [if_pos h2]; rfl
      · rw [if_neg h2]
        rcases h with h | h
        · exfalso
          unfold axesOut at h
          rw [if_neg h1, if_neg h2] at h
          exact h rfl
        · rw [show xs = [] from List.eq_nil_of_length_eq_zero h]; rfl)
  obtain ⟨a1, cp1, rfl, hp1, hp2, hrow1, hin1⟩ := hy1
  have hp3 : cp1 ≤ 9223372036854775807 := by simpa [maxLen] using hp2
  have HROW1 := hide hrow1
  have HIN1 := hide hin1
  clear hx1 hm1 hp2 hrow1 hin1
  obtain ⟨er, her⟩ : ∃ er, (axesOut f s xs).2 = er := ⟨_, rfl⟩
  rw [her] at HA0 ⊢
  have HER := hide her
  clear her
  by_cases he0 : er ≠ 0 ∨ xs.length = 0
  · have hz := HA0.out he0
    have hz1 : ((ys1.length : Int) == 0) = true := beq_iff_eq.2 (by omega)
    have hz2 : (ys1.length == 0) = true := beq_iff_eq.2 (by omega)
    clear hz
    by_cases he1 : er = 0
    · subst he1
      have hq1 : ((xs.length : Int) == 0) = true := beq_iff_eq.2 (by omega)
      have hq2 : (xs.length == 0) = true := beq_iff_eq.2 (by omega)
      clear he0
      go_wp2_with (go_at_call 21; refine (HA.out _).mono ?_; rintro e w5 ⟨rfl, hx5⟩)
      go_ret
      exact ⟨rfl, HX1.out.trans hx5⟩
    · have hq1 : (er != 0) = true := by simp [he1]
      clear he0
      go_wp2_with (go_at_call 21; refine (HA.out _).mono ?_; rintro e w5 ⟨rfl, hx5⟩)
      go_ret
      exact ⟨rfl, HX1.out.trans hx5⟩
  · have hlen : 0 < xs.length := by omega
    have hez : er = 0 := by omega
    subst hez
    have hq1 : ((xs.length : Int) == 0) = false := beq_eq_false_iff_ne.2 (by omega)
    have hq2 : (xs.length == 0) = false := beq_eq_false_iff_ne.2 (by omega)
    have hk := Nat.mod_lt wh hlen
    obtain ⟨k, hkk⟩ : ∃ k, wh % xs.length = k := ⟨_, rfl⟩
    rw [hkk] at hk
    have HKC := hide (show ((wh : Int) % (xs.length : Int)) = (k : Int) by rw [← Int.natCast_emod, hkk])
    obtain ⟨hl0, hl1⟩ := HLS.out k HER.out hk
    have HL0 := hide hl0
    have HL1 := hide hl1
    clear he0 hl0 hl1 hkk
    obtain ⟨b, off, hAT, _, _⟩ := hrT hlen
    subst hAT
    go_upto_region 5 with (fail)
    rw [HKC.out]
    have hb0 := World.block_lt_of_cell? _ _ g0'
    have hb1 := World.block_lt_of_cell? _ _ s0'
    have hb2 := World.block_lt_of_cell? _ _ x0'
    dsimp only at hb0 hb1 hb2
    have hk2 : (k : Int) ≤ (capT : Int) := by omega
    have hk3 : (0 : Int) ≤ (k : Int) := by omega
    have hk4 : IntKind.i64.wrap ((k : Int) + 1) = (k : Int) + 1 := by rw [IntKind.wrap_i64]; omega
    have hk5 : (0 : Int) ≤ (k : Int) + 1 := by omega
    have hk6 : (k : Int) + 1 ≤ (xs.length : Int) := by omega
    have hk7 : ((k : Int) + 1).toNat = k + 1 := by omega
    obtain ⟨iR, hiR, hzR0, hzR1, hzR2⟩ := info_parts reps_info
    have hs1 := reps_src (HRT.out.ext HX1.out) (k := 0) (m := k) (by omega) rfl
    have hs2 : Src w1 (if capT = k + 1 then some ⟨b, off, none⟩ else some ⟨b, off + (k + 1) * 5, none⟩) (xs.length - (k + 1)) 5 (((xs.drop (k + 1)).take (xs.length - (k + 1))).flatMap repC) := by
      have h := reps_src (HRT.out.ext HX1.out) (k := k + 1) (m := xs.length - (k + 1)) (by omega) rfl
      split
      · have hz : xs.length - (k + 1) = 0 := by omega
        rw [hz] at h ⊢
        exact ⟨h.1, fun h0 => absurd h0 (by omega)⟩
      · exact h
    have H1 : Hid (∀ u ∈ ((xs.drop 0).take k).flatMap repC, u.oneCell' = true) := repC_one _ (fun x hx => (HWT.out x (List.mem_of_mem_drop (List.mem_of_mem_take hx))).one)
    have H2 : Hid (∀ u ∈ ((xs.drop (k + 1)).take (xs.length - (k + 1))).flatMap repC, u.oneCell' = true) := repC_one _ (fun x hx => (HWT.out x (List.mem_of_mem_drop (List.mem_of_mem_take hx))).one)
    have HS1 := hide hs1
    have HS2 := hide hs2
    have hcl := reps_few HER.out
    have HAX2 := hide (fun W (t : Value) (hx : Ext w W) (h : RepsV W t (lessX xs k)) => HAX.out W (lessX xs k) t hx h)
    simp only [HL0.out] at HAX2
    clear hs1 hs2
    go_region_held3 (fun w' => w'.cell? ⟨w.heap.size, 0, none⟩ = some (.string f.sync) ∧ w'.cell? ⟨w.heap.size, 1, none⟩ = some (.int .i64 f.words) ∧ w'.cell? ⟨w.heap.size, 2, none⟩ = some (.int .i64 f.depth) ∧ w'.cell? ⟨w.heap.size, 3, none⟩ = some (.slice AF f.channels.length capF) ∧ w'.cell? ⟨w.heap.size + 1, 0, none⟩ = some (.slice A1 s.dirs.length c1) ∧ w'.cell? ⟨w.heap.size + 1, 1, none⟩ = some (.int .i64 s.turn) ∧ w'.cell? ⟨w.heap.size + 1, 2, none⟩ = some (.slice A2 s.sens.length c2) ∧ w'.cell? ⟨w.heap.size + 1 + 1, 0, none⟩ = some (.slice (some ⟨b, off, none⟩) xs.length capT) ∧ w'.cell? ⟨w.heap.size + 1 + 1, 1, none⟩ = some (.int .u8 wh))
      (first | go_keep | (go_split_ands; exact ⟨hE8.cell g0', hE8.cell g1', hE8.cell g2', hE8.cell g3', hE8.cell s0', hE8.cell s1', hE8.cell s2', hE8.cell x0', hE8.cell x1'⟩) | (go_split_ands; exact ⟨hx9.cell (hE8.cell g0'), hx9.cell (hE8.cell g1'), hx9.cell (hE8.cell g2'), hx9.cell (hE8.cell g3'), hx9.cell (hE8.cell s0'), hx9.cell (hE8.cell s1'), hx9.cell (hE8.cell s2'), hx9.cell (hE8.cell x0'), hx9.cell (hE8.cell x1')⟩) | (go_split_ands; exact ⟨hE7.cell g0', hE7.cell g1', hE7.cell g2', hE7.cell g3', hE7.cell s0', hE7.cell s1', hE7.cell s2', hE7.cell x0', hE7.cell x1'⟩))
      (first
        | ((refine step_app rfl (.tmp 48) (.tmp 52) 84 (by rfl) w1.heap.size 97 iR _ 5 56 Try.underlying84 hiR hzR0 hzR1 hzR2 rfl _ 0 [] (by rfl) ((Own.lit w1 w1.heap.size 97 5 0 #[] (Nat.le_refl _) rfl (by simp [maxLen])).drew) _ k _ (((xs.drop 0).take k).flatMap repC) (by rfl) (HS1.out.ext (((Ext.refl w1).alloc _).drew)) H1.out (by simp [maxLen]; omega) (by omega) (by simp) ?_; intro v7 w7 hown7 hb7; have hE7 : Ext w1 w7 := Ext.step (((Ext.refl w1).alloc _).drew) hb7 (Nat.le_refl _); have HO7 := hide hown7; clear hown7 hb7))
        | ((refine step_app rfl (.tmp 53) (.tmp 58) 84 (by rfl) w1.heap.size 97 iR _ 5 56 Try.underlying84 hiR hzR0 hzR1 hzR2 rfl _ (0 + k) _ (by rfl) HO7.out _ (xs.length - (k + 1)) _ (((xs.drop (k + 1)).take (xs.length - (k + 1))).flatMap repC) (by rfl) (HS2.out.ext hE7) H2.out (by simp [maxLen]; omega) (by omega) hE7.size ?_; intro v8 w8 hown8 hb8; have hE8 : Ext w1 w8 := Ext.step hE7 hb8 (Nat.le_refl _); have HO8 := hide hown8; clear hown8 hb8; have HLX := hide (reps_less HO8.out (fun x hx => (HWT.out x (lessX_mem x hx)).ext (HX1.out.trans hE8)))))
        | (go_at_call 43; refine (HAX2.out _ _ (HX1.out.trans hE8) HLX.out).mono ?_; rintro e w9 ⟨r9, ys9, rfl, hy9, hm9, hx9⟩; dsimp only))
    clear HS1 HS2
    generalize (if capT = k + 1 then some (⟨b, off, none⟩ : Addr) else some ⟨b, off + (k + 1) * 5, none⟩) = q58
    have HX9 := hide ((HX1.out.trans hE8).trans hx9)
    have HM9 := hide hm9
    obtain ⟨a9, cp9, rfl, hp9, hp10, hrow9, hin9⟩ := hy9
    have hp11 : cp9 ≤ 9223372036854775807 := by simpa [maxLen] using hp10
    have HROW9 := hide hrow9
    have HIN9 := hide hin9
    have HR1' := hide (HROW1.out.ext (hE8.trans hx9))
    have HI1' := hide (fun x hx => (HIN1.out x hx).ext (hE8.trans hx9))
    clear hp10 hrow9 hin9 hE8 hE7 hx9 hm9 g0' g1' g2' g3' s0' s1' s2' x0' x1' hk2 hk3 hk4 hk5 hk6 hk7 hrT hwT
    go_wp2_with fail
    go_loopw [11] (fun v11 wr => Ext w9 wr ∧ ∃ i : Nat, i ≤ ys9.length ∧ v11 = .int .i64 i) (fun v11 _ => ys9.length - (intOf v11).toNat)
    case atStart => exact ⟨Ext.refl _, 0, by omega, rfl⟩
    case round =>
      obtain ⟨hE, i, hi, rfl⟩ := hrel
      have HE := hide hE
      clear hE
      by_cases h8 : i < ys9.length
      · obtain ⟨b9, o9, n9, l9, B9, m9, c9, e9, _, p0, p1, hl9, HR9⟩ := axes_row HROW9.out HIN9.out h8
        subst e9
        obtain ⟨B9', c9', ev, hl91, hl92, hrw9⟩ := hl9
        injection ev with ev1 ev2 ev3
        subst ev1 ev2 ev3
        have hl93 : c9 ≤ 9223372036854775807 := by simpa [maxLen] using hl92
        have HP0 := hide p0
        have HP1 := hide p1
        have HRW9 := hide hrw9
        clear hl92 p0 p1 hrw9
        go_wp2_with fail
        go_loopw [12] (fun v12 wr => Ext w9 wr ∧ ∃ m : Nat, m ≤ ys1.length ∧ v12 = .int .i64 m) (fun v12 _ => ys1.length - (intOf v12).toNat)
        case atStart => exact ⟨HE.out, 0, by omega, rfl⟩
        case round =>
          obtain ⟨hE, m, hm, rfl⟩ := hrel
          have HE := hide hE
          by_cases h7 : m < ys1.length
          · obtain ⟨b2, o2, n2, l2, B2, m2, c2, e2, _, q0, q1, hl2, HR2⟩ := axes_row HR1'.out HI1'.out h7
            subst e2
            obtain ⟨B2', c2', ev, hl21, hl22, hrw2⟩ := hl2
            injection ev with ev1 ev2 ev3
            subst ev1 ev2 ev3
            have hl23 : c2 ≤ 9223372036854775807 := by simpa [maxLen] using hl22
            have HQ1 := hide q1
            have HRW2 := hide hrw2
            have y0 := hE.cell HP0.out
            have y1 := hE.cell q0
            have HGA := hide (show (axesOut f s (lessX xs k)).1.getD i default = (n9, l9) by
              rw [← HM9.out, List.getD_eq_getElem?_getD, getD_fst h8, HR9.out]; rfl)
            have HGB := hide (show (axesOut f s xs).1.getD m default = (n2, l2) by
              rw [← HM1.out, List.getD_eq_getElem?_getD, getD_fst h7, HR2.out]; rfl)
            have HSUB := hide (show n2 = n9 → ∀ x ∈ l2, x ∈ l9 by
              have h := HL1.out i m (by rw [← HM9.out, List.length_map]; exact h8) (by rw [← HM1.out, List.length_map]; exact h7)
              rw [HGA.out, HGB.out] at h
              exact h)
            clear hl22 hrw2 q0 q1 hE
            by_cases hn : n2 = n9
            · have hq3 : (n2 != n9) = false := by simp [hn]
              have HNN := hide hn
              clear hn
              go_wp2_with fail
              go_quiet (fail)
              clear hq3 y0 y1
              go_wp2_with fail
              go_loopw [13] (fun v13 wr => Ext w9 wr ∧ ∃ n : Nat, n ≤ l2.length ∧ v13 = .int .i64 n) (fun v13 _ => l2.length - (intOf v13).toNat)
              case atStart => exact ⟨HE.out.drewN _, 0, by omega, rfl⟩
              case round =>
                obtain ⟨hE, n, hnn, rfl⟩ := hrel
                have HE := hide hE
                have y1 := hE.cell HQ1.out
                clear hE
                by_cases h6 : n < l2.length
                · obtain ⟨bx, ox, x, rfl, _, hx0, HXV⟩ := ints_at HRW2.out h6
                  have HXM := hide (HSUB.out HNN.out x (by rw [← HXV.out]; exact getD_in 0 h6))
                  have HXC := hide hx0
                  clear hx0
                  go_wp2_with fail
                  go_loopw [14, 15] (fun v14 v15 wr => Ext w9 wr ∧ ∃ q : Nat, q ≤ l9.length ∧ v15 = .int .i64 q ∧ v14 = .bool (anyB (fun j => decide (l9.getD j 0 = x)) q)) (fun _ v15 _ => l9.length - (intOf v15).toNat)
                  case atStart => exact ⟨HE.out, 0, by omega, rfl, rfl⟩
                  case round =>
                    obtain ⟨hE, q, hq, rfl, rfl⟩ := hrel
                    have HE := hide hE
                    have y2 := hE.cell HP1.out
                    have y3 := hE.cell HQ1.out
                    have y4 := hE.cell HXC.out
                    by_cases h5 : q < l9.length
                    · obtain ⟨bz, oz, z, rfl, _, hz0, HZV⟩ := ints_at HRW9.out h5
                      have y5 := hE.cell hz0
                      have HSC := hide (anyB_succ (fun j => decide (l9.getD j 0 = x)) q)
                      rw [HZV.out] at HSC
                      generalize anyB (fun j => decide (l9.getD j 0 = x)) q = ao at *
                      clear hE hz0
                      cases ao with
                      | true =>
                        go_wp2_with fail
                        go_quiet (fail)
                        clear y2 y3 y4 y5
                        go_wp2_with fail
                        go_roundw
                        case rel => exact ⟨HE.out.drewN _, q + 1, by omega, by go_num, by rw [HSC.out]; rfl⟩
                        case measure => simp [intOf]; omega
                      | false =>
                        go_wp2_with fail
                        go_quiet (fail)
                        clear y2 y3 y4 y5
                        go_wp2_with fail
                        go_roundw
                        case rel => exact ⟨HE.out.drewN _, q + 1, by omega, by go_num, by rw [HSC.out]; rfl⟩
                        case measure => simp [intOf]; omega
                    · have hqq : q = l9.length := by omega
                      have hfound : anyB (fun j => decide (l9.getD j 0 = x)) q = true := by
                        obtain ⟨j, hj, e⟩ := List.getElem_of_mem HXM.out
                        exact anyB_t.2 ⟨j, by omega, by simp [List.getD_eq_getElem?_getD, List.getElem?_eq_getElem hj, e]⟩
                      rw [hfound]
                      clear hE hfound
                      go_wp2_with fail
                      go_roundw
                      case rel => exact ⟨HE.out, n + 1, by omega, by go_num⟩
                      case measure => simp [intOf]; omega
                · go_wp2_with fail
                  go_roundw
                  case rel => exact ⟨HE.out, m + 1, by omega, by go_num⟩
                  case measure => simp [intOf]; omega
            · have hq3 : (n2 != n9) = true := by simp [hn]
              go_wp2_with fail
              go_quiet (fail)
              go_wp2_with fail
              go_roundw
              case rel => exact ⟨HE.out.drewN _, m + 1, by omega, by go_num⟩
              case measure => simp [intOf]; omega
          · clear hE
            go_wp2_with fail
            go_roundw
            case rel => exact ⟨HE.out, i + 1, by omega, by go_num⟩
            case measure => simp [intOf]; omega
      · go_wp2_with (go_at_call 21; refine (HA.out _).mono ?_; rintro e w10 ⟨rfl, hx10⟩)
        go_ret
        exact ⟨rfl, HX9.out.trans (HE.out.trans hx10)⟩
end Go.Proofs.Ytjnnkcnnandeeaa

