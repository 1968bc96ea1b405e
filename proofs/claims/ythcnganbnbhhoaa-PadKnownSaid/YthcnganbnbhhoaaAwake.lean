/- The walk of Awake, that stands in each statement of the pad: it holds. -/
import Derived.Test.YthcnganbnbhhoaaExA
import Derived.Test.YthcnganbnbhhoaaStart
import Derived.Test.YthcnganbnbhhoaaPlay
import Derived.Test.YthcnganbnbhhoaaCs
import Derived.Test.YthcnganbnbhhoaaSame
import Derived.Test.YthcnganbnbhhoaaDetE
namespace Go.Proofs.Ythcnganbnbhhoaa
open Go.RowKit Go.Shelf
/-- The block of a slice that a call owns holds elements of its type. -/
theorem Own.typed {w : World} {base : Nat} {e : TypeId} {v : Value} {n : Nat} {xs : List Value} (h : Own w base e 1 v n xs) (B : Nat) (hb : v.ownBlock = some B) : ∃ cs fr, w.heap[B]? = some (.cells cs e fr) := by
 rcases h.2 with ⟨rfl, _⟩ | ⟨g, cap, cur, lo, hi, rfl, _, hg, _⟩
 ·rw [ownBlock_slice] at hb; cases hb
 ·rw [ownBlock_slice] at hb
  injection hb with hb
  dsimp only at hb
  subst hb
  exact ⟨_, _, hg⟩
theorem ex_runs (k1 k2 : Value) : runE (exPad k1 k2) (startS (exPad k1 k2)) exActs = exWhy := by kernel_rfl
theorem ex_ok (k1 k2 : Value) : (padE (exPad k1 k2)).2.2 = 0 := by kernel_rfl
theorem ex_play (k1 k2 : Value) : playE (exPad k1 k2) (startS (exPad k1 k2)) exActs = 0 := by kernel_rfl
theorem ex_near (k1 k2 : Value) : nearE (exPad k1 k2) 3 0 = 4 := by kernel_rfl
theorem ex_start (k1 k2 : Value) : startS (exPad k1 k2) = ⟨0, [-1, -1, -1], [-1, -1, -1], [0, 0], -1, false⟩ := by kernel_rfl
theorem ex_fits : State.Fits ⟨0, [-1, -1, -1], [-1, -1, -1], [0, 0], -1, false⟩ := by unfold State.Fits; simp
def exS : State := ⟨0, [-1, -1, -1], [-1, -1, -1], [0, 0], -1, false⟩
theorem awStart {w : World} {v : Value} (h : ∃ k1 k2, PadV w v (exPad k1 k2)) : Calls Try.prog 21 #[v] w fun e w' => ∃ A1 c1 A2 c2 A3 c3, e = .returned (.tuple #[.agg #[.int .i64 0, .slice A1 3 c1, .slice A2 3 c2, .slice A3 2 c3, .int .i64 (-1), .bool false], .int .i64 0]) ∧ StateV w' (.agg #[.int .i64 0, .slice A1 3 c1, .slice A2 3 c2, .slice A3 2 c3, .int .i64 (-1), .bool false]) exS ∧ Ext w w' := by
 obtain ⟨k1, k2, h⟩ := h
 refine Calls.mono (start_any v _ w h) ?_
 rintro e w' ⟨u, rfl, hu, hx⟩
 rw [ex_ok, if_pos rfl, ex_start] at hu
 have hu' : StateV w' u exS := hu
 obtain ⟨A1, c1, A2, c2, A3, c3, rfl, _⟩ := stateV_rows.1 hu
 exact ⟨A1, c1, A2, c2, A3, c3, by rw [ex_ok]; rfl, hu', hx⟩
theorem awPlay {w : World} {v u l : Value} (h : ∃ k1 k2, PadV w v (exPad k1 k2)) (hu : StateV w u exS) (hl : ListV 5 PAct.cell w l exActs) : Calls Try.prog 24 #[v, u, l] w fun e w' => ∃ a b, e = .returned (.tuple #[a, b, .int .i64 0]) ∧ (∃ s, StateV w' a s) ∧ (∃ n, Own w' 0 29 1 b n (exWhy.map (Value.int .i64))) ∧ Ext w w' := by
 obtain ⟨k1, k2, h⟩ := h
 refine Calls.mono (play_any v u l _ _ _ w h hu hl ex_fits) ?_
 rintro e w' ⟨a, b, rfl, ha, ⟨n, hb⟩, hx⟩
 have e1 : playE (exPad k1 k2) exS exActs = 0 := by have := ex_play k1 k2; rwa [ex_start] at this
 have e2 : runE (exPad k1 k2) exS exActs = exWhy := by have := ex_runs k1 k2; rwa [ex_start] at this
 rw [e1, if_pos rfl] at ha hb
 rw [e2] at hb
 refine ⟨a, b, by rw [e1], ⟨_, ha.v⟩, ⟨n, hb.mono (Nat.zero_le _)⟩, hx⟩
theorem awNear {w : World} {v : Value} (h : ∃ k1 k2, PadV w v (exPad k1 k2)) : Calls Try.prog 19 #[v, .int .i64 3, .int .i64 0] w fun e w' => ∃ b, e = .returned (.tuple #[.bool b, .int .i64 4]) ∧ Ext w w' := by
 obtain ⟨k1, k2, h⟩ := h
 refine Calls.mono (near3_any v _ 3 0 w h) ?_
 rintro e w' ⟨rfl, hx⟩
 exact ⟨_, by rw [ex_near], hx⟩
set_option maxRecDepth 100000 in
set_option maxHeartbeats 1000000 in
/-- Awake -/
theorem awake_any (w : World) : Calls Try.prog 18 #[] w fun e w' => e = .returned (.bool true) ∧ Ext w w' := by
 go_enter Try.func18, Try.ntmps18
 go_wp2_with fail
 refine (example_any _).mono ?_
 rintro e w1 ⟨v1, k1, k2, rfl, hv1, hx1⟩
 have HX := hide hx1
 have HV := hide (⟨k1, k2, hv1⟩ : ∃ k1 k2, PadV w1 v1 (exPad k1 k2))
 clear hv1 hx1
 go_wp2_with fail
 refine Calls.mono (awStart HV.out) ?_
 rintro e w2 ⟨A1, c1, A2, c2, A3, c3, rfl, hu, hx⟩
 replace HX := hide (HX.out.trans hx)
 have HU := hide hu
 clear hx hu HV
 go_wp2_with fail
 obtain ⟨W3, hW3⟩ : ∃ V, w2.alloc (.cells #[.int .i64 0, .slice A1 3 c1, .slice A2 3 c2, .slice A3 2 c3, .int .i64 (-1), .bool false] 38) = V := ⟨_, rfl⟩
 have hx3 : Ext w2 W3 := by rw [← hW3]; exact (Ext.refl _).alloc _
 have HB := hide (show Blk W3 w2.heap.size 38 #[.int .i64 0, .slice A1 3 c1, .slice A2 3 c2, .slice A3 2 c3, .int .i64 (-1), .bool false] by rw [← hW3]; exact Blk.new _ _ _)
 rw [hW3]
 replace HX := hide (HX.out.trans hx3)
 replace HU := hide (HU.out.ext hx3)
 have b0 := cell_heap HB.out 0 _ rfl
 have b1 := cell_heap HB.out 1 _ rfl
 have b2 := cell_heap HB.out 2 _ rfl
 have b3 := cell_heap HB.out 3 _ rfl
 have b4 := cell_heap HB.out 4 _ rfl
 have b5 := cell_heap HB.out 5 _ rfl
 clear hx3 hW3
 apply wp_region_g [6, 7] 9 [14, 15, 16, 17, 13, 18, 19, 20, 3]
  [.so (fun v W => ∃ k1 k2, PadV W v (exPad k1 k2)), .is _, .so (fun v W => ListV 5 PAct.cell W v exActs), .so (fun v W => ∃ a b, v = .tuple #[a, b, .int .i64 0] ∧ (∃ s, StateV W a s) ∧ (∃ n, Own W 0 29 1 b n (exWhy.map (Value.int .i64)))), .so (fun v W => ∃ a b, v = .tuple #[a, b, .int .i64 0] ∧ (∃ s, StateV W a s) ∧ (∃ n, Own W 0 29 1 b n (exWhy.map (Value.int .i64)))), .so (fun v W => ∃ s, StateV W v s), .so (fun v W => (∃ n, Own W 0 29 1 v n (exWhy.map (Value.int .i64)))), .so (fun v _ => v = .int .i64 0), .so (fun v W => ∃ B, v = .pointer (some ⟨B, 0, none⟩) ∧ Blk W B 38 #[.int .i64 0, .slice none 0 0, .slice none 0 0, .slice none 0 0, .int .i64 0, .bool false] ∧ W3.heap.size ≤ B)]
  [(1, _)]
 ·kernel_rfl
 ·decide
 ·decide
 ·rfl
 ·kernel_rfl
 ·decide +kernel
 ·kernel_rfl
 ·kernel_rfl
 ·kernel_rfl
 ·kernel_rfl
 ·kernel_rfl
 ·kernel_rfl
 ·kernel_rfl
 ·kernel_rfl
 ·kernel_rfl
 ·rfl
 ·intro c a d v w h; cases d <;> exact h
 ·exact ⟨fun v A B h k => by obtain ⟨k1, k2, h⟩ := h; exact ⟨k1, k2, h.ext k⟩, trivial, fun v A B h k => h.ext k, fun v A B h k => by obtain ⟨a, b, h1, ⟨s, h2⟩, n, h3⟩ := h; exact ⟨a, b, h1, ⟨s, h2.ext k⟩, n, h3.ext k⟩, fun v A B h k => by obtain ⟨a, b, h1, ⟨s, h2⟩, n, h3⟩ := h; exact ⟨a, b, h1, ⟨s, h2.ext k⟩, n, h3.ext k⟩, fun v A B h k => by obtain ⟨s, h⟩ := h; exact ⟨s, h.ext k⟩, fun v A B h k => by obtain ⟨n, h⟩ := h; exact ⟨n, h.ext k⟩, fun _ _ _ h _ => h, fun v A B h k => by obtain ⟨g, h1, h2, h3⟩ := h; exact ⟨g, h1, h2.ext k, h3⟩, trivial⟩
 ·refine ⟨?_, trivial⟩ <;> (simp; rfl)
 ·repeat
   refine ⟨?_, ?_⟩
   ·intro F W4 hF hd hR
    have t1 := hF.1
    simp [Region.binds, Ent.holds] at hd
    refine ⟨fun _ K hK => ?_, by intro g b h hn; first | (cases h; done) | (cases h; exact absurd (by simp [hd]) hn)⟩
    simp only [Ent.holds, List.getD_cons_zero, List.getD_cons_succ] at hK
    have b0' := hR.cell b0
    have b1' := hR.cell b1
    have b2' := hR.cell b2
    have b3' := hR.cell b3
    have b4' := hR.cell b4
    have b5' := hR.cell b5
    go_simp
    first
     | exact hK _ _ rfl (Ext.refl _)
     | (go_at_call 35
        with_reducible refine (example_any _).mono ?_
        rintro e w' ⟨v, k1, k2, rfl, hv, hx⟩
        exact hK _ _ ⟨k1, k2, hv⟩ hx)
     | (go_at_call 36
        with_reducible refine (acts_any _).mono ?_
        rintro e w' ⟨v, rfl, hl, hx⟩
        exact hK _ _ hl hx)
     | (exact hK _ _ ⟨_, rfl, Blk.new _ _ _, hR.size⟩ ((Ext.refl _).alloc _))
     | (go_at_call 24
        obtain ⟨d14, d15, d16⟩ := hd
        with_reducible refine Calls.mono (awPlay d14 (HU.out.ext hR) d16) ?_
        rintro e w' ⟨a, b, rfl, ha, hb, hx⟩
        exact hK _ _ ⟨a, b, rfl, ha, hb⟩ hx)
     | (exact hK _ _ hd (Ext.refl _))
     | (obtain ⟨da, db, hd1, hd2, hd3⟩ := hd
        go_simp
        first | exact hK _ _ hd2 (Ext.refl _) | exact hK _ _ hd3 (Ext.refl _) | exact hK _ _ rfl (Ext.refl _))
  exact trivial
 intro X W4 hx hR
 simp only [toldX] at hx
 simp only [fillX, List.setIfInBounds_toArray, List.set_cons_succ, List.set_cons_zero]
 obtain ⟨_, _, _, _, ⟨s, h18⟩, ⟨n19, h19⟩, h20, ⟨B, e3, hB, hlt⟩, _⟩ := hx
 obtain ⟨C1, d1, C2, d2, C3, d3, e18, _⟩ := stateV_rows.1 h18
 rw [e3, e18, h20]
 have HX4 := hide (HX.out.trans hR)
 have HB4 := hide hB
 have HW := hide h19
 have HWB := hide (Nat.le_trans HX.out.size hlt)
 clear e3 e18 h20 h18 h19 hB hlt hR b0 b1 b2 b3 b4 b5 HX HU HB
 have b0 := cell_heap HB4.out 0 _ rfl
 have b1 := cell_heap HB4.out 1 _ rfl
 have b2 := cell_heap HB4.out 2 _ rfl
 have b3 := cell_heap HB4.out 3 _ rfl
 have b4 := cell_heap HB4.out 4 _ rfl
 have b5 := cell_heap HB4.out 5 _ rfl
 have g0 := HB4.out.frozen 0
 have g1 := HB4.out.frozen 1
 have g2 := HB4.out.frozen 2
 have g3 := HB4.out.frozen 3
 have g4 := HB4.out.frozen 4
 have g5 := HB4.out.frozen 5
 go_wp2_with fail
 obtain ⟨W5, hW5⟩ : ∃ V, ((((((W4.setCell ⟨B, 0, none⟩ (.int .i64 s.now)).setCell ⟨B, 1, none⟩ (.slice C1 s.zones.length d1)).setCell ⟨B, 2, none⟩ (.slice C2 s.holder.length d2)).setCell ⟨B, 3, none⟩ (.slice C3 s.squibs.length d3)).setCell ⟨B, 4, none⟩ (.int .i64 s.siren)).setCell ⟨B, 5, none⟩ (.bool s.storm)) = V := ⟨_, rfl⟩
 rw [hW5]
 have HX5 := hide (show Ext w W5 from by
  rw [← hW5]
  have h1 : w.heap.size ≤ B := HWB.out
  exact (((((HX4.out.setCell h1 _).setCell h1 _).setCell h1 _).setCell h1 _).setCell h1 _).setCell h1 _)
 have HI5 := hide (show IntsV W5 .i64 (X 19) exWhy from by
  have hne : (X 19).ownBlock ≠ some B := fun e => by
   obtain ⟨cs, fr, hc⟩ := HW.out.typed B e
   have h2 := HB4.out
   unfold Blk at h2
   rw [hc] at h2
   injection h2 with h2
   injection h2 with _ h2 _
   revert h2
   decide
  rw [← hW5]
  exact ((((((HW.out.setCell hne _).setCell hne _).setCell hne _).setCell hne _).setCell hne _).setCell hne _).ints)
 clear hW5 b0 b1 b2 b3 b4 b5 g0 g1 g2 g3 g4 g5 HW HB4 HX4 HWB
 refine (example_any _).mono ?_
 rintro e w6 ⟨v6, k3, k4, rfl, hv6, hx⟩
 have HX6 := hide (HX5.out.trans hx)
 have HI6 := hide (HI5.out.ext hx)
 have HV6 := hide (⟨k3, k4, hv6⟩ : ∃ k1 k2, PadV w6 v6 (exPad k1 k2))
 clear hx hv6 HX5 HI5
 go_wp2_with fail
 refine Calls.mono (awNear HV6.out) ?_
 rintro e w7 ⟨bn, rfl, hx⟩
 have HX7 := hide (HX6.out.trans hx)
 have HI7 := hide (HI6.out.ext hx)
 clear hx HX6 HI6 HV6
 go_wp2_with fail
 refine (reasons_any _).mono ?_
 rintro e w8 ⟨v8, rfl, hv8, hx⟩
 have HX8 := hide (HX7.out.trans hx)
 have HI8 := hide (HI7.out.ext hx)
 have HR8 := hide hv8
 clear hx HX7 HI7 hv8
 go_wp2_with fail
 refine Calls.mono (errors_self _ _ _ _ HI8.out HR8.out) ?_
 rintro e w9 ⟨rfl, hx⟩
 have HX9 := hide (HX8.out.trans hx)
 clear hx HX8 HI8 HR8
 go_wp2_with fail
 go_ret
 exact ⟨rfl, HX9.out⟩
end Go.Proofs.Ythcnganbnbhhoaa
