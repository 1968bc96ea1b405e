/- The walks of pad's small functions of scenes: demand, atPanel, crowd, alone, Clone, owed. The walks of Clone, owed, atPanel, and of formed's closures. A scene of the call's own: its lists may be written. -/
import Derived.Test.YthcnganbnbhhoaaPlain
import Derived.Lib.SliceRun
namespace Go.Proofs.Ythcnganbnbhhoaa
open Go.RowKit Go.Shelf
/-- The panic of a demand that is not met. -/
def ErrP (why : Int) : List PanicEntry := [{ v := .iface 29 (.int .i64 why), recovered := false }]
def unitV : Value := .tuple #[]
set_option maxRecDepth 100000 in
set_option maxHeartbeats 400000 in
/-- pad.demand, met -/
theorem demand_ok (why : Int) (w : World) : Calls Try.prog 88 #[.bool true, .int .i64 why] w fun e w' => e = .returned unitV ∧ w = w' := by
 go_enter Try.func88, Try.ntmps88
 go_wp2
 refine bodyPost_end (results_none rfl _ _ _) rfl ?_
 exact ⟨rfl, rfl⟩
set_option maxRecDepth 100000 in
set_option maxHeartbeats 400000 in
/-- pad.demand, not met -/
theorem demand_no (why : Int) (w : World) : Calls Try.prog 88 #[.bool false, .int .i64 why] w fun e w' => e = .panicked (ErrP why) ∧ w = w' := by
 go_enter Try.func88, Try.ntmps88
 go_wp2
 exact ⟨rfl, rfl, rfl⟩
set_option maxRecDepth 100000 in
set_option maxHeartbeats 1000000 in
/-- crowd -/
theorem crowd_any (B : Nat) (X : SceneX) (p : Pad) (s : State) (z : Int) (w : World) (h : SceneAt w B X p s) :
 Calls Try.prog 92 #[.pointer (some ⟨B, 0, none⟩), .int .i64 z] w fun e w' => e = .returned (.int .i64 (manyN s.zones z)) ∧ w = w' := by
 obtain ⟨⟨az, cz, ad, cd, ap, cp, ak, ck, aq, cq⟩, sz, zc, sh, hc, sq, qc⟩ := X
 have HSC := hide h
 have k8 := h.cell 8 _ rfl
 obtain ⟨_, hc1, hc2, hrow⟩ := h.z.rows
 dsimp only [SceneX.cells] at k8
 have HROW := hide hrow
 clear hrow h
 go_enter Try.func92, Try.ntmps92
 go_wp2
 go_loop [4, 13] (fun v4 v13 => ∃ k : Nat, k ≤ s.zones.length ∧ v13 = .int .i64 k ∧ v4 = .int .i64 (manyN (s.zones.take k) z)) (fun _ v13 => s.zones.length - (intOf v13).toNat)
 case atStart => exact ⟨0, by omega, rfl, rfl⟩
 case round =>
  obtain ⟨k, hk, rfl, rfl⟩ := hrel
  have hm := manyN_le (s.zones.take k) z
  rw [List.length_take] at hm
  by_cases h8 : k < s.zones.length
  ·obtain ⟨b, off, x, hA, hb, c0, HX⟩ := ints_at HROW.out h8
   try dsimp only at hA
   have HT := hide (manyN_take s.zones z k h8)
   rw [HX.out] at HT
   by_cases hxz : x = z
   ·have hde : (x == z) = true := by simpa using hxz
    have HXZ := hide hxz
    subst hA
    clear hxz
    generalize manyN (s.zones.take k) z = m at *
    have hm' : (m : Int) + 1 ≤ 9223372036854775807 := by omega
    go_wp2
    go_round
    case rel => exact ⟨k + 1, by omega, by go_num, by rw [HT.out, if_pos HXZ.out]; go_num⟩
    case measure => simp [intOf]; omega
   ·have hde : (x == z) = false := by simpa using hxz
    have HXZ := hide hxz
    subst hA
    clear hxz
    generalize manyN (s.zones.take k) z = m at *
    go_wp2
    go_round
    case rel => exact ⟨k + 1, by omega, by go_num, by rw [HT.out, if_neg HXZ.out]; rfl⟩
    case measure => simp [intOf]; omega
  ·obtain rfl : k = s.zones.length := by omega
   rw [List.take_length]
   clear hm
   obtain ⟨m, hm⟩ : ∃ m, manyN s.zones z = m := ⟨_, rfl⟩
   have HM := hide hm
   rw [hm]
   clear hm
   go_wp2
   go_ret
   exact ⟨ret_int (by rw [HM.out]), rfl⟩
set_option maxRecDepth 100000 in
set_option maxHeartbeats 1000000 in
/-- alone -/
theorem alone_any (B : Nat) (X : SceneX) (p : Pad) (s : State) (z : Int) (w : World) (h : SceneAt w B X p s) (hz : z < p.zones.length) :
 Calls Try.prog 93 #[.pointer (some ⟨B, 0, none⟩), .int .i64 z] w fun e w' => e = .returned (.bool (aloneB p s z)) ∧ w = w' := by
 have HCR := hide (fun V => crowd_any B X p s z V)
 obtain ⟨⟨az, cz, ad, cd, ap, cp, ak, ck, aq, cq⟩, sz, zc, sh, hc, sq, qc⟩ := X
 have HSC := hide h
 have k0 := h.cell 0 _ rfl
 obtain ⟨_, hc1, hc2, hrow⟩ := h.pad.z.rows
 dsimp only [SceneX.cells] at k0 hc1 hc2
 by_cases h0 : 0 ≤ z
 ·obtain ⟨n, rfl⟩ : ∃ n : Nat, z = n := ⟨z.toNat, by omega⟩
  obtain ⟨b, off, hA, hb, hc⟩ := ListV.at hrow (n := n) (by omega)
  have c7 := hc 7 (by omega)
  try dsimp only at hA
  obtain ⟨zz, hzz⟩ : ∃ zz, p.zones.getD n default = zz := ⟨_, rfl⟩
  have HE := hide (show aloneB p s n = (zz.pair && decide (manyN s.zones n = 1)) by unfold aloneB zoneOf; rw [Int.toNat_natCast, hzz]; simp)
  rw [hzz] at c7
  obtain ⟨zn, z1, z2, z3, z4, zg, zr, zp⟩ := zz
  dsimp only [Zone.cell] at c7 HE
  have hm := manyN_le s.zones n
  have hzl := h.z.rows
  dsimp only at hzl
  subst hA
  obtain ⟨m, hm2⟩ : ∃ m, manyN s.zones n = m := ⟨_, rfl⟩
  rw [hm2] at HE HCR hm
  clear hc hrow hzz h hm2
  cases zp with
  | false =>
    go_enter Try.func93, Try.ntmps93
    go_wp2_with fail
    go_ret
    exact ⟨ret_bool (by rw [HE.out]; rfl), rfl⟩
  | true =>
    by_cases hm1 : m = 1
    ·have hde : ((m : Int) == 1) = true := by simp [hm1]
     have HM := hide hm1
     clear hm1
     go_enter Try.func93, Try.ntmps93
     go_wp2_with (go_at_call 92; refine (HCR.out _ HSC.out).mono ?_; rintro e w' ⟨rfl, rfl⟩)
     go_ret
     exact ⟨ret_bool (by rw [HE.out, HM.out]; rfl), rfl⟩
    ·have hde : ((m : Int) == 1) = false := by simp; omega
     have HM := hide hm1
     clear hm1
     go_enter Try.func93, Try.ntmps93
     go_wp2_with (go_at_call 92; refine (HCR.out _ HSC.out).mono ?_; rintro e w' ⟨rfl, rfl⟩)
     go_ret
     exact ⟨ret_bool (by rw [HE.out]; simp [HM.out]), rfl⟩
 ·have h0' : z < 0 := by omega
  have HE := hide (show aloneB p s z = false by unfold aloneB; simp [h0])
  clear hrow h h0
  go_enter Try.func93, Try.ntmps93
  go_wp2_with fail
  go_ret
  exact ⟨ret_bool (by rw [HE.out]), rfl⟩
end Go.Proofs.Ythcnganbnbhhoaa
namespace Go.Proofs.Ythcnganbnbhhoaa
open Go.RowKit Go.Shelf
theorem infoInt : (Try.prog.info? 3).map (fun i => (i.zero, i.size, i.bytes)) = some (some (.int .i64 0), 1, 8) := by kernel_rfl
theorem int_one (l : List Int) : ∀ u ∈ l.map (Value.int .i64), u.oneCell' = true := by
 intro u hu
 obtain ⟨x, _, rfl⟩ := List.mem_map.1 hu
 rfl
set_option maxRecDepth 100000 in
set_option maxHeartbeats 1000000 in
/-- slices.Clone at []int -/
theorem clone_any (A : Option Addr) (n c : Nat) (l : List Int) (w : World) (h : IntsV w .i64 (.slice A n c) l) (hb : l.length * 8 ≤ 140737488355328) :
 Calls Try.prog 86 #[.slice A n c] w fun e w' => ∃ A' c', e = .returned (.slice A' l.length c') ∧ Own w' w.heap.size 3 1 (.slice A' l.length c') l.length (l.map (Value.int .i64)) ∧ Ext w w' := by
 obtain ⟨rfl, hc1, hc2, hrow⟩ := h.rows
 obtain ⟨iI, hiI, hzI0, hzI1, hzI2⟩ := info_parts infoInt
 have HS := hide (hrow.src)
 rw [map_range_getD] at HS
 have HO := hide (int_one l)
 have HB := hide hb
 have hI := hide hiI
 have hI0 := hide hzI0
 have hI1 := hide hzI1
 have hI2 := hide hzI2
 clear hrow h hb hiI hzI0 hzI1 hzI2
 cases A with
 | none =>
   have h0 : l.length = 0 := by
    rcases Nat.eq_zero_or_pos l.length with h | h
    ·exact h
    ·obtain ⟨_, e, _⟩ := HS.out.2 h; cases e
   have hl : l = [] := List.eq_nil_of_length_eq_zero h0
   subst hl
   have hnil := fun (W : World) (n c : Nat) => Lib.run_eql_slice_nil (P := Try.prog) W 36 3 none n c 0 0 Try.underlying36
   go_enter Try.func86, Try.ntmps86
   go_wp2_with fail
   go_ret
   exact ⟨none, 0, rfl, Own.nil _ _ _ _, Ext.refl _⟩
 | some ad =>
   have hnil := fun (W : World) (n c : Nat) => Lib.run_eql_slice_nil (P := Try.prog) W 36 3 (some ad) n c 0 0 Try.underlying36
   go_enter Try.func86, Try.ntmps86
   go_wp2_with (
    at_builtin
    refine wpList_app rfl (.tmp 5) (.tmp 6) 36 rfl w.heap.size 3 iI _ 1 8 Try.underlying36 hI.out hI0.out hI1.out hI2.out rfl _ 0 [] rfl (Own.lit w w.heap.size 3 1 0 #[] (Nat.le_refl _) rfl (by simp [maxLen])) (some ad) l.length c (l.map (Value.int .i64)) rfl (HS.out.ext ((Ext.refl _).alloc _)) HO.out ?_ ?_ ?_ ?_
    ·simp only [maxLen]; omega
    ·have := HB.out; omega
    ·simp
    intro v7 w7 hown hbel
    obtain ⟨A7, c7, rfl, _, _, _⟩ := hown.form
    have HW7 := hide hown
    have HB7 := hide hbel
    clear hown hbel)
   go_ret
   refine ⟨A7, c7, by simp, ?_, ?_⟩
   ·have := HW7.out
    simpa using this
   ·exact Ext.step ((Ext.refl _).alloc _) HB7.out (Nat.le_refl _)
set_option maxRecDepth 100000 in
set_option maxHeartbeats 1000000 in
/-- formed$1 -/
theorem formed1_any (lo hi : Int) (w : World) : Calls Try.prog 90 #[.int .i64 lo, .int .i64 hi] w fun e w' => e = .returned (.func (.func 91) #[] #[.pointer (some ⟨w.heap.size, 0, none⟩), .pointer (some ⟨w.heap.size + 1, 0, none⟩)]) ∧ w' = (w.alloc (.cells #[.int .i64 lo] 3)).alloc (.cells #[.int .i64 hi] 3) := by
 go_enter Try.func90, Try.ntmps90
 go_wp2
 go_ret
 exact ⟨rfl, rfl⟩
/-- A function value that tells whether a number is not from lo to hi. -/
def NotV (lo hi : Int) (v : Value) (w : World) : Prop := ∃ a b, v = .func (.func 91) #[] #[.pointer (some ⟨a, 0, none⟩), .pointer (some ⟨b, 0, none⟩)] ∧ w.cell? ⟨a, 0, none⟩ = some (.int .i64 lo) ∧ w.cell? ⟨b, 0, none⟩ = some (.int .i64 hi)
theorem NotV.ext {lo hi : Int} {v : Value} {w w' : World} (h : NotV lo hi v w) (k : Ext w w') : NotV lo hi v w' := by
 obtain ⟨a, b, e, h1, h2⟩ := h
 exact ⟨a, b, e, k.cell h1, k.cell h2⟩
theorem formed1_not (lo hi : Int) (w : World) : Calls Try.prog 90 #[.int .i64 lo, .int .i64 hi] w fun e w' => ∃ v, e = .returned v ∧ NotV lo hi v w' ∧ Ext w w' :=
 (formed1_any lo hi w).mono fun e w' ⟨he, hw⟩ => by
   subst hw
   exact ⟨_, he, ⟨_, _, rfl, by simp, by simp⟩, ((Ext.refl _).alloc _).alloc _⟩
set_option maxRecDepth 100000 in
set_option maxHeartbeats 1000000 in
/-- formed$1$1 -/
theorem formed11_any (lo hi n : Int) (a b : Nat) (w : World) (h1 : w.cell? ⟨a, 0, none⟩ = some (.int .i64 lo)) (h2 : w.cell? ⟨b, 0, none⟩ = some (.int .i64 hi)) :
 Calls Try.prog 91 #[.int .i64 n, .pointer (some ⟨a, 0, none⟩), .pointer (some ⟨b, 0, none⟩)] w fun e w' => e = .returned (.bool (outB n lo hi)) ∧ Ext w w' := by
 have hb1 := World.block_lt_of_cell? _ _ h1
 have hb2 := World.block_lt_of_cell? _ _ h2
 go_enter Try.func91, Try.ntmps91
 go_wp2_with (go_at_call 37; refine (out_any _ _ _ _).mono ?_; rintro e w' ⟨rfl, rfl⟩)
 go_ret
 exact ⟨ret_bool rfl, by first | exact Ext.refl _ | exact (Ext.refl _).alloc _⟩
/-- ContainsFunc with such a function value. -/
theorem contains_not (lo hi : Int) (fv v : Value) (l : List Int) (w : World) (hf : NotV lo hi fv w) (hv : IntsV w .i64 v l) :
 Calls Try.prog 76 #[v, fv] w fun e w' => e = .returned (.bool (anyB (fun k => outB (l.getD k 0) lo hi) l.length)) ∧ Ext w w' := by
 obtain ⟨a, b, rfl, h1, h2⟩ := hf
 exact containsFunc_int 91 _ (enters_of Try.func91 (by kernel_rfl) rfl) v l _ w (fun k w1 _ hx => (formed11_any lo hi _ a b w1 (hx.cell h1) (hx.cell h2)).mono fun e w2 ⟨he, hw⟩ => ⟨he, hw⟩) hv
set_option maxRecDepth 100000 in
set_option maxHeartbeats 1000000 in
/-- atPanel -/
theorem atPanel_ok (B : Nat) (X : SceneX) (p : Pad) (s : State) (i : Nat) (w : World) (h : SceneAt w B X p s) (hi : i < s.zones.length) (hq : atPanelB p s i = true) :
 Calls Try.prog 114 #[.pointer (some ⟨B, 0, none⟩), .int .i64 i] w fun e w' => e = .returned unitV ∧ Ext w w' := by
 obtain ⟨⟨az, cz, ad, cd, ap, cp, ak, ck, aq, cq⟩, sz, zc, sh, hc, sq, qc⟩ := X
 have HSC := hide h
 have k8 := h.cell 8 _ rfl
 have k5 := h.cell 5 _ rfl
 obtain ⟨_, hc1, hc2, hrow⟩ := h.z.rows
 obtain ⟨b, off, x, hA, hb, c0, HX⟩ := ints_at hrow hi
 unfold atPanelB at hq
 rw [Int.toNat_natCast, HX.out] at hq
 have hqq : (x == p.panel) = true := by simpa using hq
 dsimp only [SceneX.cells] at k8 k5 hA
 subst hA
 clear hrow hq h
 go_enter Try.func114, Try.ntmps114
 apply wp_region_t 14 (4 :: 5 :: 6 :: 7 :: 8 :: 9 :: 10 :: 11 :: 12 :: 13 :: 14 :: 15 :: 16 :: 17 :: [])
  (.is _ :: .is _ :: .is _ :: .is _ :: .is _ :: .is _ :: .is _ :: .is _ :: .is _ :: .is _ :: .is _ :: .is _ :: .is _ :: .is _ :: [])
  [(0, _), (1, _)]
 ·kernel_rfl
 ·decide
 ·decide
 ·rfl
 ·kernel_rfl
 ·decide +kernel
 iterate 6 (· kernel_rfl)
 ·rfl
 ·exact keepsIs _ rfl
 ·refine ⟨?_, ?_, trivial⟩ <;> (simp; rfl)
 ·repeat
   refine ⟨?_, ?_⟩
   ·intro F W hF hd hR
    simp [fixedAt] at hF
    obtain ⟨t0, t1⟩ := hF
    simp [Region.binds, Ent.holds] at hd
    refine ⟨fun _ K hK => ?_, by intro g b h hn; first | (cases h; done) | (cases h; exact absurd (by simp [hd]) hn)⟩
    simp only [Ent.holds, List.getD_cons_zero, List.getD_cons_succ] at hK
    have k8' := hR.cell k8
    have k5' := hR.cell k5
    have c0' := hR.cell c0
    go_simp
    first
     | exact hK _ _ rfl (Ext.refl _)
  exact trivial
 intro X W hx hR
 simp only [toldX] at hx
 simp only [fillX, List.setIfInBounds_toArray, List.set_cons_succ, List.set_cons_zero]
 have k8' := hR.cell k8
 go_wp2_with (go_at_call 88; refine (demand_ok _ _).mono ?_; rintro e w' ⟨rfl, rfl⟩)
 refine bodyPost_end (results_none rfl _ _ _) rfl ?_
 exact ⟨rfl, hR⟩
set_option maxRecDepth 100000 in
set_option maxHeartbeats 1000000 in
/-- atPanel -/
theorem atPanel_no (B : Nat) (X : SceneX) (p : Pad) (s : State) (i : Nat) (w : World) (h : SceneAt w B X p s) (hi : i < s.zones.length) (hq : atPanelB p s i = false) :
 Calls Try.prog 114 #[.pointer (some ⟨B, 0, none⟩), .int .i64 i] w fun e w' => e = .panicked (ErrP 171) ∧ Ext w w' := by
 obtain ⟨⟨az, cz, ad, cd, ap, cp, ak, ck, aq, cq⟩, sz, zc, sh, hc, sq, qc⟩ := X
 have HSC := hide h
 have k8 := h.cell 8 _ rfl
 have k5 := h.cell 5 _ rfl
 obtain ⟨_, hc1, hc2, hrow⟩ := h.z.rows
 obtain ⟨b, off, x, hA, hb, c0, HX⟩ := ints_at hrow hi
 unfold atPanelB at hq
 rw [Int.toNat_natCast, HX.out] at hq
 have hqq : (x == p.panel) = false := by simpa using hq
 dsimp only [SceneX.cells] at k8 k5 hA
 subst hA
 clear hrow hq h
 go_enter Try.func114, Try.ntmps114
 apply wp_region_t 14 (4 :: 5 :: 6 :: 7 :: 8 :: 9 :: 10 :: 11 :: 12 :: 13 :: 14 :: 15 :: 16 :: 17 :: [])
  (.is _ :: .is _ :: .is _ :: .is _ :: .is _ :: .is _ :: .is _ :: .is _ :: .is _ :: .is _ :: .is _ :: .is _ :: .is _ :: .is _ :: [])
  [(0, _), (1, _)]
 ·kernel_rfl
 ·decide
 ·decide
 ·rfl
 ·kernel_rfl
 ·decide +kernel
 iterate 6 (· kernel_rfl)
 ·rfl
 ·exact keepsIs _ rfl
 ·refine ⟨?_, ?_, trivial⟩ <;> (simp; rfl)
 ·repeat
   refine ⟨?_, ?_⟩
   ·intro F W hF hd hR
    simp [fixedAt] at hF
    obtain ⟨t0, t1⟩ := hF
    simp [Region.binds, Ent.holds] at hd
    refine ⟨fun _ K hK => ?_, by intro g b h hn; first | (cases h; done) | (cases h; exact absurd (by simp [hd]) hn)⟩
    simp only [Ent.holds, List.getD_cons_zero, List.getD_cons_succ] at hK
    have k8' := hR.cell k8
    have k5' := hR.cell k5
    have c0' := hR.cell c0
    go_simp
    first
     | exact hK _ _ rfl (Ext.refl _)
  exact trivial
 intro X W hx hR
 simp only [toldX] at hx
 simp only [fillX, List.setIfInBounds_toArray, List.set_cons_succ, List.set_cons_zero]
 have k8' := hR.cell k8
 go_wp2_with (go_at_call 88; refine (demand_no _ _).mono ?_; rintro e w' ⟨rfl, rfl⟩)
 exact ⟨rfl, rfl, hR⟩
end Go.Proofs.Ythcnganbnbhhoaa
namespace Go.Proofs.Ythcnganbnbhhoaa
open Go.RowKit
theorem own_write {w : World} {base : Nat} {e : TypeId} {size n g cap : Nat} {xs : List Value} (h : Own w base e size (.slice (some ⟨g, 0, none⟩) n cap) n xs) {i : Nat} (u : Value) :
 Own (w.setCell ⟨g, i, none⟩ u) base e size (.slice (some ⟨g, 0, none⟩) n cap) n (xs.set i u) := by
 refine ⟨by rw [List.length_set]; exact h.1, ?_⟩
 rcases h.2 with ⟨hv, _⟩ | ⟨g', cap', cur, lo, hi', hv, hb, hg, hnc, hm, hcs, hfz, ht⟩
 ·cases hv
 ·injection hv with hv1 hv2 hv3
  injection hv1 with hv1
  injection hv1 with hv1
  subst hv1 hv3
  refine .inr ⟨g, cap, cur.setIfInBounds i u, lo, hi', rfl, hb, ?_, hnc, hm, by rw [Array.size_setIfInBounds]; exact hcs, hfz, ?_⟩
  ·simp [World.setCell, Array.getElem?_modify, hg]
  ·rw [Array.toList_setIfInBounds, ← ht, List.take_set]
theorem own_cell {w : World} {base : Nat} {e : TypeId} {size n g cap : Nat} {xs : List Value} (h : Own w base e size (.slice (some ⟨g, 0, none⟩) n cap) n xs) {i : Nat} {u : Value} (hu : xs[i]? = some u) :
 w.cell? ⟨g, i, none⟩ = some u := by
 rcases h.2 with ⟨hv, _⟩ | ⟨g', cap', cur, lo, hi', hv, hb, hg, hnc, hm, hcs, hfz, ht⟩
 ·cases hv
 ·injection hv with hv1 hv2 hv3
  injection hv1 with hv1
  injection hv1 with hv1
  subst hv1 hv3
  rw [cell_of_row w g i cur e (lo, hi') hg]
  rw [← ht, List.getElem?_take] at hu
  split at hu
  ·simpa using hu
  ·cases hu
theorem own_frozen {w : World} {base : Nat} {e : TypeId} {size n g cap : Nat} {xs : List Value} (h : Own w base e size (.slice (some ⟨g, 0, none⟩) n cap) n xs) {i : Nat} (hi : i < n * size) : w.frozen? ⟨g, i, none⟩ = false := by
 rcases h.2 with ⟨hv, _⟩ | ⟨g', cap', cur, lo, hi', hv, hb, hg, hnc, hm, hcs, hfz, ht⟩
 ·cases hv
 ·injection hv with hv1 hv2 hv3
  injection hv1 with hv1
  injection hv1 with hv1
  subst hv1 hv3
  have hle : n * size ≤ cap * size := Nat.mul_le_mul_right _ hnc
  simp only [World.frozen?, hg]
  rcases hfz with hfz | hfz <;> simp <;> omega
/-- Where an element of an owned slice lies. -/
theorem own_at {w : World} {base : Nat} {e : TypeId} {A : Option Addr} {n cap i : Nat} {xs : List Value} (h : Own w base e 1 (.slice A n cap) n xs) (hi : i < n) : ∃ g, A = some ⟨g, 0, none⟩ ∧ base ≤ g ∧ g < w.heap.size := by
 rcases h.2 with ⟨hv, h0⟩ | ⟨g, cap', cur, lo, hi', hv, hb, hg, _⟩
 ·omega
 ·injection hv with hv1 hv2 hv3
  exact ⟨g, hv1, hb, (Array.getElem?_eq_some_iff.1 hg).1⟩
theorem Blk.set {W : World} {B : Nat} {t : TypeId} {cs : Array Value} (h : Blk W B t cs) (k : Nat) (u : Value) : Blk (W.setCell ⟨B, k, none⟩ u) B t (cs.setIfInBounds k u) := by
 unfold Blk at h ⊢
 simp [World.setCell, Array.getElem?_modify, h]
theorem Blk.frozen {W : World} {B : Nat} {t : TypeId} {cs : Array Value} (h : Blk W B t cs) (k : Nat) : W.frozen? ⟨B, k, none⟩ = false := by simp [World.frozen?, show W.heap[B]? = _ from h]
theorem Own.turn {B : Nat} {w w' : World} {base : Nat} {e : TypeId} {size : Nat} {v : Value} {n : Nat} {xs : List Value} (k : Own w base e size v n xs) (h : Turn B w w') : Own w' base e size v n xs := h.own k
/-- A scene whose lists, and itself, lie in memory that is newer than w. -/
structure SceneS (w : World) (B : Nat) (X : SceneX) (p : Pad) (s : State) (W : World) : Prop where
 ext : Ext w W
 hB : w.heap.size ≤ B
 blk : Blk W B 114 (X.cells p s)
 pad : PadAt w X.pad p
 z : Own W w.heap.size 3 1 (.slice X.sz s.zones.length X.zc) s.zones.length (s.zones.map (Value.int .i64))
 h : Own W w.heap.size 3 1 (.slice X.sh s.holder.length X.hc) s.holder.length (s.holder.map (Value.int .i64))
 q : Own W w.heap.size 3 1 (.slice X.sq s.squibs.length X.qc) s.squibs.length (s.squibs.map (Value.int .i64))
 zB : ∀ g, X.sz.map (·.block) = some g → g ≠ B
 hb : ∀ g, X.sh.map (·.block) = some g → g ≠ B
 qB : ∀ g, X.sq.map (·.block) = some g → g ≠ B
 zh : ∀ g, X.sz.map (·.block) = some g → X.sh.map (·.block) ≠ some g
 zq : ∀ g, X.sz.map (·.block) = some g → X.sq.map (·.block) ≠ some g
 hq : ∀ g, X.sh.map (·.block) = some g → X.sq.map (·.block) ≠ some g
theorem ownBlock_slice (A : Option Addr) (n c : Nat) : (Value.slice A n c).ownBlock = A.map (·.block) := by cases A <;> rfl
section
variable {w W W' : World} {B : Nat} {X : SceneX} {p : Pad} {s : State}
theorem SceneS.at (h : SceneS w B X p s W) : SceneAt W B X p s := ⟨h.blk, h.pad.ext h.ext, h.z.ints, h.h.ints, h.q.ints⟩
theorem SceneS.ext' (h : SceneS w B X p s W) (k : Ext W W') : SceneS w B X p s W' := ⟨h.ext.trans k, h.hB, h.blk.ext k, h.pad, h.z.ext k, h.h.ext k, h.q.ext k, h.zB, h.hb, h.qB, h.zh, h.zq, h.hq⟩
theorem SceneS.turn (h : SceneS w B X p s W) {N : Nat} (k : Turn N W W') (hN : w.heap.size ≤ N) : SceneS w B X p s W' :=
 ⟨k.below h.ext hN h.ext.size, h.hB, h.blk.turn k, h.pad, h.z.turn k, h.h.turn k, h.q.turn k, h.zB, h.hb, h.qB, h.zh, h.zq, h.hq⟩
theorem SceneS.zlt (h : SceneS w B X p s W) {i : Nat} (hi : i < s.zones.length) : ∃ g, X.sz = some ⟨g, 0, none⟩ ∧ w.heap.size ≤ g ∧ W.cell? ⟨g, i, none⟩ = some (.int .i64 (s.zones.getD i 0)) ∧ W.frozen? ⟨g, i, none⟩ = false := by
 obtain ⟨g, e, h1, h2⟩ := own_at h.z hi
 have hz := h.z
 rw [e] at hz
 exact ⟨g, e, h1, own_cell hz (by rw [List.getElem?_map, List.getElem?_eq_getElem hi, List.getD_eq_getElem?_getD, List.getElem?_eq_getElem hi]; rfl), own_frozen hz (by omega)⟩
theorem SceneS.hlt (h : SceneS w B X p s W) {i : Nat} (hi : i < s.holder.length) : ∃ g, X.sh = some ⟨g, 0, none⟩ ∧ w.heap.size ≤ g ∧ W.cell? ⟨g, i, none⟩ = some (.int .i64 (s.holder.getD i 0)) ∧ W.frozen? ⟨g, i, none⟩ = false := by
 obtain ⟨g, e, h1, h2⟩ := own_at h.h hi
 have hz := h.h
 rw [e] at hz
 exact ⟨g, e, h1, own_cell hz (by rw [List.getElem?_map, List.getElem?_eq_getElem hi, List.getD_eq_getElem?_getD, List.getElem?_eq_getElem hi]; rfl), own_frozen hz (by omega)⟩
theorem SceneS.qlt (h : SceneS w B X p s W) {i : Nat} (hi : i < s.squibs.length) : ∃ g, X.sq = some ⟨g, 0, none⟩ ∧ w.heap.size ≤ g ∧ W.cell? ⟨g, i, none⟩ = some (.int .i64 (s.squibs.getD i 0)) ∧ W.frozen? ⟨g, i, none⟩ = false := by
 obtain ⟨g, e, h1, h2⟩ := own_at h.q hi
 have hz := h.q
 rw [e] at hz
 exact ⟨g, e, h1, own_cell hz (by rw [List.getElem?_map, List.getElem?_eq_getElem hi, List.getD_eq_getElem?_getD, List.getElem?_eq_getElem hi]; rfl), own_frozen hz (by omega)⟩
theorem SceneS.setZ (h : SceneS w B X p s W) {g : Nat} (hg : X.sz = some ⟨g, 0, none⟩) (hw : w.heap.size ≤ g) (i : Nat) (x : Int) : SceneS w B X p { s with zones := s.zones.set i x } (W.setCell ⟨g, i, none⟩ (.int .i64 x)) := by
 have hm : X.sz.map (·.block) = some g := by rw [hg]; rfl
 refine ⟨h.ext.setCell hw _, h.hB, ?_, h.pad, ?_, ?_, ?_, h.zB, h.hb, h.qB, h.zh, h.zq, h.hq⟩
 ·have := h.blk.other (h.zB g hm).symm i (.int .i64 x)
  simpa only [SceneX.cells, List.length_set] using this
 ·have hz := h.z
  rw [hg] at hz
  have := own_write hz (i := i) (.int .i64 x)
  rw [hg]
  simpa only [List.length_set, List.map_set] using this
 ·exact h.h.setCell (by rw [ownBlock_slice]; exact h.zh g hm) _
 ·exact h.q.setCell (by rw [ownBlock_slice]; exact h.zq g hm) _
theorem SceneS.setH (h : SceneS w B X p s W) {g : Nat} (hg : X.sh = some ⟨g, 0, none⟩) (hw : w.heap.size ≤ g) (i : Nat) (x : Int) : SceneS w B X p { s with holder := s.holder.set i x } (W.setCell ⟨g, i, none⟩ (.int .i64 x)) := by
 have hm : X.sh.map (·.block) = some g := by rw [hg]; rfl
 refine ⟨h.ext.setCell hw _, h.hB, ?_, h.pad, ?_, ?_, ?_, h.zB, h.hb, h.qB, h.zh, h.zq, h.hq⟩
 ·have := h.blk.other (h.hb g hm).symm i (.int .i64 x)
  simpa only [SceneX.cells, List.length_set] using this
 ·exact h.z.setCell (by rw [ownBlock_slice]; exact fun e => h.zh g e hm) _
 ·have hz := h.h
  rw [hg] at hz
  have := own_write hz (i := i) (.int .i64 x)
  rw [hg]
  simpa only [List.length_set, List.map_set] using this
 ·exact h.q.setCell (by rw [ownBlock_slice]; exact h.hq g hm) _
theorem SceneS.setQ (h : SceneS w B X p s W) {g : Nat} (hg : X.sq = some ⟨g, 0, none⟩) (hw : w.heap.size ≤ g) (i : Nat) (x : Int) : SceneS w B X p { s with squibs := s.squibs.set i x } (W.setCell ⟨g, i, none⟩ (.int .i64 x)) := by
 have hm : X.sq.map (·.block) = some g := by rw [hg]; rfl
 refine ⟨h.ext.setCell hw _, h.hB, ?_, h.pad, ?_, ?_, ?_, h.zB, h.hb, h.qB, h.zh, h.zq, h.hq⟩
 ·have := h.blk.other (h.qB g hm).symm i (.int .i64 x)
  simpa only [SceneX.cells, List.length_set] using this
 ·exact h.z.setCell (by rw [ownBlock_slice]; exact fun e => h.zq g e hm) _
 ·exact h.h.setCell (by rw [ownBlock_slice]; exact fun e => h.hq g e hm) _
 ·have hz := h.q
  rw [hg] at hz
  have := own_write hz (i := i) (.int .i64 x)
  rw [hg]
  simpa only [List.length_set, List.map_set] using this
/-- A cell of the scene's own block is written. -/
theorem SceneS.setB (h : SceneS w B X p s W) {s' : State} (k : Nat) (u : Value) (hz : s'.zones = s.zones) (hh : s'.holder = s.holder) (hq : s'.squibs = s.squibs) (hc : (X.cells p s).setIfInBounds k u = X.cells p s') : SceneS w B X p s' (W.setCell ⟨B, k, none⟩ u) := by
 refine ⟨h.ext.setCell h.hB _, h.hB, by rw [← hc]; exact h.blk.set k u, h.pad, ?_, ?_, ?_, h.zB, h.hb, h.qB, h.zh, h.zq, h.hq⟩
 ·rw [hz]; exact h.z.setCell (by rw [ownBlock_slice]; exact fun e => h.zB B e rfl) _
 ·rw [hh]; exact h.h.setCell (by rw [ownBlock_slice]; exact fun e => h.hb B e rfl) _
 ·rw [hq]; exact h.q.setCell (by rw [ownBlock_slice]; exact fun e => h.qB B e rfl) _
theorem SceneS.setSiren (h : SceneS w B X p s W) (x : Int) : SceneS w B X p { s with siren := x } (W.setCell ⟨B, 11, none⟩ (.int .i64 x)) := h.setB 11 _ rfl rfl rfl rfl
theorem SceneS.setStorm (h : SceneS w B X p s W) (x : Bool) : SceneS w B X p { s with storm := x } (W.setCell ⟨B, 12, none⟩ (.bool x)) := h.setB 12 _ rfl rfl rfl rfl
theorem SceneS.setNow (h : SceneS w B X p s W) (x : Int) : SceneS w B X p { s with now := x } (W.setCell ⟨B, 7, none⟩ (.int .i64 x)) := h.setB 7 _ rfl rfl rfl rfl
theorem SceneS.fz (h : SceneS w B X p s W) (k : Nat) : W.frozen? ⟨B, k, none⟩ = false := h.blk.frozen k
end
end Go.Proofs.Ythcnganbnbhhoaa
