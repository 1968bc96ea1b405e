/- The walks of the statements' own near and holds. -/
import Derived.Test.YthcnganbnbhhoaaLawB
import Derived.Test.YthcnganbnbhhoaaSame
import Derived.Deep.RegionHeld3
import Derived.Deep.DeepCutAuto
namespace Go.Proofs.Ythcnganbnbhhoaa
open Go.RowKit Go.Shelf
theorem Blk.pairN (w : World) (t t' : TypeId) (cs ds : Array Value) : Ext w ((w.alloc (.cells cs t)).alloc (.cells ds t')) ∧ Blk ((w.alloc (.cells cs t)).alloc (.cells ds t')) w.heap.size t cs ∧ Blk ((w.alloc (.cells cs t)).alloc (.cells ds t')) (w.heap.size + 1) t' ds := by
 refine ⟨((Ext.refl _).alloc _).alloc _, (Blk.new w t cs).ext ((Ext.refl _).alloc _), ?_⟩
 have := Blk.new (w.alloc (.cells cs t)) t' ds
 rwa [World.size_alloc] at this
theorem hx_cell {w w' : World} (h : Ext w w') {a : Addr} {v : Value} (k : w.cell? a = some v) : w'.cell? a = some v := h.cell k
theorem sq_abs {a : Int} (h : -20000000 ≤ a ∧ a ≤ 20000000) : 0 ≤ a * a ∧ a * a ≤ 400000000000000 := by
 by_cases h0 : 0 ≤ a
 ·have := sq_le h0 h.2
  omega
 ·have := sq_le (a := -a) (b := 20000000) (by omega) (by omega)
  rw [Int.neg_mul_neg] at this
  omega
def NearCut (W1 : World) (xlo xhi ylo yhi qx qy qc : Int) (v7 v8 : Value) (W : World) : Prop :=
 Ext W1 W ∧ ∃ b7 b8, v7 = .pointer (some ⟨b7, 0, none⟩) ∧ v8 = .pointer (some ⟨b8, 0, none⟩) ∧ W.cell? ⟨b7, 0, none⟩ = some (.int .i64 xlo) ∧ W.cell? ⟨b7, 1, none⟩ = some (.int .i64 xhi) ∧ W.cell? ⟨b7, 2, none⟩ = some (.int .i64 ylo) ∧ W.cell? ⟨b7, 3, none⟩ = some (.int .i64 yhi) ∧ W.cell? ⟨b8, 1, none⟩ = some (.int .i64 qx) ∧ W.cell? ⟨b8, 2, none⟩ = some (.int .i64 qy) ∧ W.cell? ⟨b8, 3, none⟩ = some (.int .i64 qc)
set_option maxRecDepth 100000 in
set_option maxHeartbeats 4000000 in
/-- near -/
theorem lawNear_any (v : Value) (p : Pad) (z : Int) (q : Nat) (w : World) (hv : PadV w v p) (hp : (padE p).2.2 = 0) (hz : z < p.zones.length) :
  Calls Try.prog 25 #[v, .int .i64 z, .int .i64 q] w fun e w' => e = .returned (.bool (nearQ p z q)) ∧ Ext w w' := by
 have HPO := hide (padOk_of hp)
 have HSD := hide (pad_sides hp)
 obtain ⟨X, rfl, hX⟩ := padV_iff.1 hv
 obtain ⟨az, cz, ad, cd, ap, cp, ak, ck, aq, cq⟩ := X
 have HXX := hide hX
 have n1 := hX.z.rows.2.2.1
 have m1 := hX.z.rows.2.1
 have n2 := hX.q.rows.2.2.1
 have m2 := hX.q.rows.2.1
 have r1 := hX.z.rows.2.2.2
 have r2 := hX.q.rows.2.2.2
 unfold PadX.cells
 dsimp only
 clear hv hX hp
 by_cases z0 : z < 0
 ·have hd : decide (z < 0) = true := decide_eq_true z0
  rw [nearQ_out (.inl z0)]
  clear r1 r2 z0
  go_enter Try.func25, Try.ntmps25
  go_wp2_with fail
  go_ret
  exact ⟨rfl, (Ext.refl _).alloc _⟩
 ·obtain ⟨zn, rfl⟩ : ∃ n : Nat, z = n := ⟨z.toNat, by omega⟩
  clear z0
  have hzl : zn < p.zones.length := by omega
  by_cases hq : q < p.squibs.length
  ·have HQ := hide (nearQ_in hzl hq HSD.out)
   have HZI := hide (HPO.out.zin _ (getD_in' default hzl))
   have HQI := hide (HPO.out.qin _ (getD_in' default hq))
   obtain ⟨b1, o1, rfl, hb1, hc1⟩ := ListV.at r1 hzl
   obtain ⟨b2, o2, rfl, hb2, hc2⟩ := ListV.at r2 hq
   obtain ⟨Z, hZ⟩ : ∃ Z, p.zones.getD zn default = Z := ⟨_, rfl⟩
   obtain ⟨S, hS⟩ : ∃ S, p.squibs.getD q default = S := ⟨_, rfl⟩
   have hkv := HXX.out.kv _ (getD_in' default hq)
   rw [hS] at hkv
   rw [hZ, hS] at HQ
   rw [hZ] at HZI hc1
   rw [hS] at HQI hc2
   clear hZ hS r1 r2
   obtain ⟨nm, xlo, xhi, ylo, yhi, gr, ro, pr⟩ := Z
   obtain ⟨⟨qn, qx, qy, qc, qg, qk⟩, qv⟩ := S
   dsimp only at hkv
   obtain ⟨kA, kc, rfl, _⟩ := hkv
   have c1 := hc1 1 (by omega)
   have c2 := hc1 2 (by omega)
   have c3 := hc1 3 (by omega)
   have c4 := hc1 4 (by omega)
   have d0 := hc2 0 (by omega)
   have d1 := hc2 1 (by omega)
   have d2 := hc2 2 (by omega)
   have d3 := hc2 3 (by omega)
   have d4 := hc2 4 (by omega)
   have d5 := hc2 5 (by omega)
   simp only [Zone.cell, SquibX.cell, Nat.add_zero] at c1 c2 c3 c4 d0 d1 d2 d3 d4 d5
   obtain ⟨W1, hW1⟩ : ∃ V, w.alloc (.cells #[.slice (some ⟨b1, o1, none⟩) p.zones.length cz, .slice ad p.doors.length cd, .slice ap p.people.length cp, .slice ak p.keys.length ck, .slice (some ⟨b2, o2, none⟩) p.squibs.length cq, .int .i64 p.panel, .int .i64 p.wait] 28) = V := ⟨_, rfl⟩
   have hx1 : Ext w W1 := by rw [← hW1]; exact (Ext.refl _).alloc _
   have HP := hide (show Blk W1 w.heap.size 28 #[.slice (some ⟨b1, o1, none⟩) p.zones.length cz, .slice ad p.doors.length cd, .slice ap p.people.length cp, .slice ak p.keys.length ck, .slice (some ⟨b2, o2, none⟩) p.squibs.length cq, .int .i64 p.panel, .int .i64 p.wait] by rw [← hW1]; exact Blk.new _ _ _)
   have HC := hide (And.intro (hx1.cell c1) (And.intro (hx1.cell c2) (And.intro (hx1.cell c3) (And.intro (hx1.cell c4) (And.intro (hx1.cell d0) (And.intro (hx1.cell d1) (And.intro (hx1.cell d2) (And.intro (hx1.cell d3) (And.intro (hx1.cell d4) (hx1.cell d5))))))))))
   have HX1 := hide hx1
   have HW1 := hide hW1
   clear hc1 hc2 c1 c2 c3 c4 d0 d1 d2 d3 d4 d5 hx1 hW1
   go_enter Try.func25, Try.ntmps25
   go_wp2_with fail
   rw [HW1.out]
   go_cut [7, 8] (NearCut W1 xlo xhi ylo yhi qx qy qc)
   case first =>
    have p0 := cell_heap HP.out 0 _ rfl
    have p4 := cell_heap HP.out 4 _ rfl
    obtain ⟨c1, c2, c3, c4, d0, d1, d2, d3, d4, d5⟩ := HC.out
    have lw1 := HP.out.lt
    have lb1 := World.block_lt_of_cell? _ _ c1
    have lb2 := World.block_lt_of_cell? _ _ d0
    go_region_held3 (fun w' => w'.cell? ⟨w.heap.size, 0, none⟩ = some (.slice (some ⟨b1, o1, none⟩) p.zones.length cz) ∧ w'.cell? ⟨w.heap.size, 4, none⟩ = some (.slice (some ⟨b2, o2, none⟩) p.squibs.length cq) ∧ w'.cell? ⟨b1, o1 + zn * 8 + 1, none⟩ = some (.int .i64 xlo) ∧ w'.cell? ⟨b1, o1 + zn * 8 + 2, none⟩ = some (.int .i64 xhi) ∧ w'.cell? ⟨b1, o1 + zn * 8 + 3, none⟩ = some (.int .i64 ylo) ∧ w'.cell? ⟨b1, o1 + zn * 8 + 4, none⟩ = some (.int .i64 yhi) ∧ w'.cell? ⟨b2, o2 + q * 6, none⟩ = some (.string qn) ∧ w'.cell? ⟨b2, o2 + q * 6 + 1, none⟩ = some (.int .i64 qx) ∧ w'.cell? ⟨b2, o2 + q * 6 + 2, none⟩ = some (.int .i64 qy) ∧ w'.cell? ⟨b2, o2 + q * 6 + 3, none⟩ = some (.int .i64 qc) ∧ w'.cell? ⟨b2, o2 + q * 6 + 4, none⟩ = some (.int .i64 qg) ∧ w'.cell? ⟨b2, o2 + q * 6 + 5, none⟩ = some (.slice kA qk.length kc)) (go_keep) (fail)
    all_goals (go_wp2_with fail; go_meet)
    ·exact ⟨(((Ext.refl _).alloc _).alloc _).drew, _, _, rfl, rfl, by simp, by simp, by simp, by simp, by simp, by simp, by simp⟩
    ·exact ⟨(((Ext.refl _).alloc _).alloc _).drew, _, _, rfl, rfl, by simp, by simp, by simp, by simp, by simp, by simp, by simp⟩
   case rest =>
    obtain ⟨hx2, b7, b8, rfl, rfl, y0, y1, y2, y3, y4, y5, y6⟩ := hcut
    have HX2 := hide (HX1.out.trans hx2)
    clear hx2
    go_wp2_with fail
    go_quiet (fail)
    have BX := gapD_bound (hi := xhi) HZI.out.a HQI.out.a
    have BY := gapD_bound (hi := yhi) HZI.out.c HQI.out.b
    have BC := HQI.out.c
    dsimp only at BX BY BC
    rw [show RowKit.wrap64 (qx - max xlo (min xhi qx)) = gapD xlo xhi qx from IntWalk.wrap64_in _ (by unfold gapD at BX; omega), show RowKit.wrap64 (qy - max ylo (min yhi qy)) = gapD ylo yhi qy from IntWalk.wrap64_in _ (by unfold gapD at BY; omega)]
    obtain ⟨GX, hGX⟩ : ∃ G, gapD xlo xhi qx = G := ⟨_, rfl⟩
    obtain ⟨GY, hGY⟩ : ∃ G, gapD ylo yhi qy = G := ⟨_, rfl⟩
    rw [hGX, hGY] at HQ
    rw [hGX] at BX ⊢
    rw [hGY] at BY ⊢
    have sX := sq_abs BX
    have sY := sq_abs BY
    have sC := sq_le BC.1 BC.2
    have wX : IntKind.i64.wrap (GX * GX) = GX * GX := by rw [IntKind.wrap_i64]; omega
    have wY : IntKind.i64.wrap (GY * GY) = GY * GY := by rw [IntKind.wrap_i64]; omega
    have wC : IntKind.i64.wrap (qc * qc) = qc * qc := by rw [IntKind.wrap_i64]; omega
    have wS : IntKind.i64.wrap (GX * GX + GY * GY) = GX * GX + GY * GY := by rw [IntKind.wrap_i64]; omega
    obtain ⟨XX, hXX⟩ : ∃ XX, GX * GX = XX := ⟨_, rfl⟩
    obtain ⟨YY, hYY⟩ : ∃ YY, GY * GY = YY := ⟨_, rfl⟩
    obtain ⟨CC, hCC⟩ : ∃ CC, qc * qc = CC := ⟨_, rfl⟩
    rw [hXX, hYY, hCC] at HQ
    rw [hXX, hYY] at wS
    have w1 : IntKind.i64.wrap (GX * GX) = XX := by rw [wX, hXX]
    have w2 : IntKind.i64.wrap (GY * GY) = YY := by rw [wY, hYY]
    have w3 : IntKind.i64.wrap (qc * qc) = CC := by rw [wC, hCC]
    clear sX sY sC wX wY wC hXX hYY hCC hGX hGY BX BY BC y0 y1 y2 y3 y4 y5
    go_wp2_with fail
    go_ret
    exact ⟨by rw [HQ.out]; rfl, HX2.out.drewN _⟩
  ·have hd : decide (((p.squibs.length : Nat) : Int) ≤ ((q : Nat) : Int)) = true := decide_eq_true (by omega)
   rw [nearQ_out (.inr (by omega))]
   clear r1 r2
   go_enter Try.func25, Try.ntmps25
   go_wp2_with fail
   go_ret
   exact ⟨rfl, (Ext.refl _).alloc _⟩
end Go.Proofs.Ythcnganbnbhhoaa
