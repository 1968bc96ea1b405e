/- The walks of SameFrames and gaps: of lists that are the same. -/
import Derived.Test.YtjnnkcnnandeeaaVals
namespace Go.Proofs.Ytjnnkcnnandeeaa
open Go.RowKit
/-- A frame of a list, in memory. -/
theorem frs_row {w : World} {A : Option Addr} {xs : List FrX} {k : Nat} (h : Rows2 w A xs.length 3 (fun i j => (xs.getD i default).cell j)) (hw : ∀ x ∈ xs, IntsV w .i64 x.2 x.1.words) (hk : k < xs.length) :
    ∃ b off B m cap, A = some ⟨b, off, none⟩ ∧ w.cell? ⟨b, off + k * 3, none⟩ = some (.int .i64 (((ds xs).getD k default).pos : Nat)) ∧ w.cell? ⟨b, off + k * 3 + 1, none⟩ = some (.int .i64 (((ds xs).getD k default).count : Nat)) ∧
      w.cell? ⟨b, off + k * 3 + 2, none⟩ = some (.slice B m cap) ∧ IntsV w .i64 (.slice B m cap) ((ds xs).getD k default).words := by
  obtain ⟨b, off, e, hb, hc⟩ := h (by omega)
  have hd : (ds xs).getD k default = (xs.getD k default).1 := by
    unfold ds
    simp only [List.getD_eq_getElem?_getD, List.getElem?_map, List.getElem?_eq_getElem hk, Option.map_some, Option.getD_some]
  rw [hd]
  have hm : xs.getD k default ∈ xs := by
    rw [List.getD_eq_getElem?_getD, List.getElem?_eq_getElem hk, Option.getD_some]; exact List.getElem_mem _
  have hi := hw _ hm
  obtain ⟨B, cap, hB, _⟩ := hi
  have hi := hw _ hm
  rw [hB] at hi
  refine ⟨b, off, B, _, cap, e, hc k 0 hk (by omega), hc k 1 hk (by omega), ?_, hi⟩
  rw [hc k 2 hk (by omega), ← hB]; rfl
def SaV (lv lv' ws ws' : Value) (p c : Int) (k b off b' off' : Nat) : Nat → Value → World → Prop
  | 0, v, _ => v = lv
  | 1, v, _ => v = .int .i64 (k : Nat)
  | 2, v, _ => v = .pointer (some ⟨b, off + k * 3, none⟩)
  | 3, v, _ => v = .pointer (some ⟨b, off + k * 3, none⟩)
  | 4, v, _ => v = .int .i64 p
  | 5, v, _ => v = lv'
  | 6, v, _ => v = .int .i64 (k : Nat)
  | 7, v, _ => v = .pointer (some ⟨b', off' + k * 3, none⟩)
  | 8, v, _ => v = .pointer (some ⟨b', off' + k * 3, none⟩)
  | 9, v, _ => v = .int .i64 p
  | 10, v, _ => v = .bool false
  | 11, v, _ => v = .bool false
  | 12, v, _ => v = lv
  | 13, v, _ => v = .int .i64 (k : Nat)
  | 14, v, _ => v = .pointer (some ⟨b, off + k * 3, none⟩)
  | 15, v, _ => v = .pointer (some ⟨b, off + k * 3 + 1, none⟩)
  | 16, v, _ => v = .int .i64 c
  | 17, v, _ => v = lv'
  | 18, v, _ => v = .int .i64 (k : Nat)
  | 19, v, _ => v = .pointer (some ⟨b', off' + k * 3, none⟩)
  | 20, v, _ => v = .pointer (some ⟨b', off' + k * 3 + 1, none⟩)
  | 21, v, _ => v = .int .i64 c
  | 25, v, _ => v = lv
  | 26, v, _ => v = .int .i64 (k : Nat)
  | 27, v, _ => v = .pointer (some ⟨b, off + k * 3, none⟩)
  | 28, v, _ => v = .pointer (some ⟨b, off + k * 3 + 2, none⟩)
  | 29, v, _ => v = ws
  | 30, v, _ => v = lv'
  | 31, v, _ => v = .int .i64 (k : Nat)
  | 32, v, _ => v = .pointer (some ⟨b', off' + k * 3, none⟩)
  | 33, v, _ => v = .pointer (some ⟨b', off' + k * 3 + 2, none⟩)
  | 34, v, _ => v = ws'
  | 35, v, _ => v = .bool true
  | _, v, _ => v = .bool false
theorem SaV.mono {lv lv' ws ws' : Value} {p c : Int} {k b off b' off' j : Nat} {v : Value} {A C : World} (h : SaV lv lv' ws ws' p c k b off b' off' j v A) : SaV lv lv' ws ws' p c k b off b' off' j v C := by
  unfold SaV at h ⊢
  split at h
  all_goals exact h
set_option maxRecDepth 100000 in
set_option maxHeartbeats 2000000 in
/-- ref.SameFrames -/
theorem sameFrames_any (v v' : Value) (xs ys : List FrX) (w : World) (hx : FrsV w v xs) (hy : FrsV w v' ys) (hds : ds xs = ds ys) :
    Calls Try.prog 33 #[v, v'] w fun e w' => e = .returned (.bool true) ∧ Ext w w' := by
  obtain ⟨A, cap, rfl, hc, hm, hr, hw⟩ := hx
  obtain ⟨A', cap', rfl, hc', hm', hr', hw'⟩ := hy
  have hmx : cap ≤ 9223372036854775807 := by simpa [maxLen] using hm
  have hmx' : cap' ≤ 9223372036854775807 := by simpa [maxLen] using hm'
  have hl : ys.length = xs.length := by
    have := congrArg List.length hds
    unfold ds at this
    simpa using this.symm
  have HR := hide hr
  have HR' := hide hr'
  have HW := hide hw
  have HW' := hide hw'
  have HDS := hide hds
  have HINTS := hide (fun W a b l m (h : IntsV W .i64 a l) (h' : IntsV W .i64 b m) => ints_any a b l m W h h')
  clear hr hr' hw hw' hm hm' hds
  rw [hl] at hc' ⊢
  go_enter Try.func33, Try.ntmps33
  go_wp2
  go_loopw [5] (fun v5 wr => ∃ k : Nat, k ≤ xs.length ∧ v5 = .int .i64 k ∧ Ext w wr) (fun v5 _ => xs.length - (intOf v5).toNat)
  case atStart => exact ⟨0, by omega, rfl, Ext.refl _⟩
  case round =>
    obtain ⟨k, hk, rfl, hE⟩ := hrel
    by_cases h8 : k < xs.length
    · obtain ⟨b, off, B, m, cp, rfl, c0, c1, c2, hi⟩ := frs_row (HR.out.ext hE) (fun y hy => (HW.out y hy).ext hE) h8
      obtain ⟨b', off', B', m', cp', rfl, c0', c1', c2', hi'⟩ := frs_row (HR'.out.ext hE) (fun y hy => (HW'.out y hy).ext hE) (by omega : k < ys.length)
      rw [← HDS.out] at c0' c1' hi'
      generalize (ds xs).getD k default = d at *
      have HI := hide (fun W (hx : Ext wr W) => HINTS.out W _ _ _ _ (hi.ext hx) (hi'.ext hx))
      clear hi hi'
      go_wp2_with fail
      refine wp_region_vals (by kernel_rfl) (fun j => j + 17) (SaV (.slice (some ⟨b, off, none⟩) xs.length cap) (.slice (some ⟨b', off', none⟩) xs.length cap') (.slice B m cp) (.slice B' m' cp') (d.pos : Nat) (d.count : Nat) k b off b' off')
        [17, 18, 19, 20, 21, 22, 23, 24, 25, 26, 27, 28, 29, 30, 31, 32, 33, 34, 35, 36, 37, 38, 39, 40, 41, 42, 43, 44, 45, 46, 47, 48, 49, 50, 51, 52, 53, 54] (by decide) (by kernel_rfl) (by decide +kernel) (by kernel_rfl) (by kernel_rfl) (by kernel_rfl)
        Ext ((Ext.refl wr).drew) (fun _ _ _ h k => h.trans k) (fun j v A B h _ => SaV.mono h) ?_ ?_
      · refine ⟨?_, ?_, ?_, ?_, ?_, ?_, ?_, ?_, ?_, ?_, ?_, ?_, ?_, ?_, ?_, ?_, ?_, ?_, ?_, ?_, ?_, ?_, ?_, ?_, ?_, ?_, ?_, ?_, ?_, ?_, ?_, ?_, ?_, ?_, ?_, ?_, ?_, ?_, trivial⟩
        all_goals
          intro x W hd hR
          simp [Region.binds, SaV] at hd
          refine ⟨fun _ K hK => ?_, by intro g b h hn; first | (cases h; done) | (cases h; exact absurd (by simp [hd]) hn)⟩
          simp only [fill, Act.put, List.setIfInBounds_toArray, List.set_cons_succ, List.set_cons_zero, SaV] at hK ⊢
          try simp only [hd] at hK ⊢
          have q0 := hR.cell c0
          have q1 := hR.cell c1
          have q2 := hR.cell c2
          have q3 := hR.cell c0'
          have q4 := hR.cell c1'
          have q5 := hR.cell c2'
          go_simp
          try exact hK _ _ rfl (Ext.refl _)
        refine (HI.out W hR).mono ?_
        rintro e w4 ⟨rfl, hx4⟩
        exact hK _ _ (by simp) hx4
      · intro X W hv hR
        have x9 : X 54 = .bool false := hv 37 (by decide)
        have HRR := hide hR
        clear hv hR
        simp only [fill, List.setIfInBounds_toArray, List.set_cons_succ, List.set_cons_zero, x9]
        go_wp2
        go_roundw
        case rel => exact ⟨k + 1, by omega, by go_num, hE.trans HRR.out⟩
        case measure => simp [intOf]; omega
    · obtain rfl : k = xs.length := by omega
      go_wp2
      go_ret
      exact ⟨rfl, hE⟩
theorem gaps_row {w : World} {A : Option Addr} {gs : List (Nat × Nat)} {k : Nat} (h : Rows2 w A gs.length 2 (fun i k => if k = 0 then .int .i64 ((gs.getD i (0, 0)).1 : Nat) else .int .i64 ((gs.getD i (0, 0)).2 : Nat))) (hk : k < gs.length) :
    ∃ b off, A = some ⟨b, off, none⟩ ∧ w.cell? ⟨b, off + k * 2, none⟩ = some (.int .i64 ((gs.getD k (0, 0)).1 : Nat)) ∧ w.cell? ⟨b, off + k * 2 + 1, none⟩ = some (.int .i64 ((gs.getD k (0, 0)).2 : Nat)) := by
  obtain ⟨b, off, e, hb, hc⟩ := h (by omega)
  exact ⟨b, off, e, hc k 0 hk (by omega), hc k 1 hk (by omega)⟩
set_option maxRecDepth 100000 in
set_option maxHeartbeats 1000000 in
/-- law.gaps -/
theorem sameGaps_any (v v' : Value) (gs : List (Nat × Nat)) (w : World) (hx : GapsV w v gs) (hy : GapsV w v' gs) :
    Calls Try.prog 34 #[v, v'] w fun e w' => e = .returned (.bool true) ∧ Ext w w' := by
  obtain ⟨A, cap, rfl, hc, hm, hr⟩ := hx
  obtain ⟨A', cap', rfl, hc', hm', hr'⟩ := hy
  have hmx : cap ≤ 9223372036854775807 := by simpa [maxLen] using hm
  have hmx' : cap' ≤ 9223372036854775807 := by simpa [maxLen] using hm'
  have HR := hide hr
  have HR' := hide hr'
  clear hr hr' hm hm'
  go_enter Try.func34, Try.ntmps34
  go_wp2
  go_loopw [5] (fun v5 wr => ∃ k : Nat, k ≤ gs.length ∧ v5 = .int .i64 k ∧ Ext w wr) (fun v5 _ => gs.length - (intOf v5).toNat)
  case atStart => exact ⟨0, by omega, rfl, Ext.refl _⟩
  case round =>
    obtain ⟨k, hk, rfl, hE⟩ := hrel
    by_cases h8 : k < gs.length
    · obtain ⟨b3, o3, rfl, c30, c31⟩ := gaps_row (HR.out.ext hE) h8
      obtain ⟨b4, o4, rfl, c40, c41⟩ := gaps_row (HR'.out.ext hE) h8
      generalize gs.getD k (0, 0) = p at *
      go_wp2
      go_quiet (fail)
      go_wp2
      go_roundw
      case rel => exact ⟨k + 1, by omega, by go_num, hE.trans ((Ext.refl _).drewN _)⟩
      case measure => simp [intOf]; omega
    · obtain rfl : k = gs.length := by omega
      go_wp2
      go_ret
      exact ⟨rfl, hE⟩
end Go.Proofs.Ytjnnkcnnandeeaa
