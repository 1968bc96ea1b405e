/-
 Proves that from the first state on, whatever acts are played, no squib is armed while a person is in a zone near it, and each state is sound, for any pad and acts: 'PadNeverSaid'. No conditions.
-/
import Derived.Test.YthcnganbnbhhoaaRows
import Derived.Test.YthcnganbnbhhoaaLawB
import Derived.Test.YthcnganbnbhhoaaKept
import Derived.Test.YthcnganbnbhhoaaNear4
import Derived.Test.YthcnganbnbhhoaaDanger
import Derived.Test.YthcnganbnbhhoaaAwake
import Derived.Test.YthcnganbnbhhoaaOpen
import Derived.SizedLaws
import Derived.Deep.Cut
namespace Go.Proofs.Ythcnganbnbhhoaa
open Go.ChangeShapes Go.WideShapes Go.ChangeAt Go.RowKit Go.Shelf
def BoxS (N : Nat) (v : Value) (W : World) : Prop := ∃ B, v = .pointer (some ⟨B, 0, none⟩) ∧ Blk W B 38 #[.int .i64 0, .slice none 0 0, .slice none 0 0, .slice none 0 0, .int .i64 0, .bool false] ∧ N ≤ B
theorem BoxS.ext {N : Nat} {A B : World} {v : Value} (h : BoxS N v A) (k : Ext A B) : BoxS N v B := by obtain ⟨g, h1, h2, h3⟩ := h; exact ⟨g, h1, h2.ext k, h3⟩
/-- The box b holds a sound state. -/
def StX (b : Nat) (p : Pad) (W : World) : Prop := ∃ (x : State) (C1 : Option Addr) (e1 : Nat) (C2 : Option Addr) (e2 : Nat) (C3 : Option Addr) (e3 : Nat), stateE p x = 0 ∧ Blk W b 38 #[.int .i64 x.now, .slice C1 x.zones.length e1, .slice C2 x.holder.length e2, .slice C3 x.squibs.length e3, .int .i64 x.siren, .bool x.storm] ∧ KeptS b W (.agg #[.int .i64 x.now, .slice C1 x.zones.length e1, .slice C2 x.holder.length e2, .slice C3 x.squibs.length e3, .int .i64 x.siren, .bool x.storm]) x
theorem doE_act {p : Pad} {s : State} {a : PAct} (h : doE p s a = 0) : ActOk p a := actOk_of (doE_zero h).2.1
namespace PadNeverLaw
set_option maxRecDepth 100000 in
set_option maxHeartbeats 8000000 in
theorem walk {v lv : Value} {p : Pad} {l : List PAct} {w : World} (hv : PadV w v p) (hl : ListV 5 PAct.cell w lv l) :
 Calls Try.prog 13 #[v, lv] w fun e w' => e = .returned (.bool true) ∧ Below w.heap.size w w' := by
 have HST := hide (fun V (hx : Ext w V) => start_any v p V (hv.ext hx))
 have HCS := hide (fun V (hx : Ext w V) (u : Value) (x : State) (h : StateV V u x) hfx => checkState_any v u p x V (hv.ext hx) h hfx)
 have HDG := hide (fun V (hx : Ext w V) (u : Value) (x : State) (h : StateV V u x) hfx h0 => danger_none (hv.ext hx) h hfx h0)
 have HDO := hide (fun V (hx : Ext w V) (u : Value) (x : State) (a : PAct) (h : StateV V u x) (hfx : x.Fits) => doA_any v u p x a V (hv.ext hx) h hfx)
 have HNR := hide (fun V (hx : Ext w V) hp z q hz => lawNear_any v p z q V (hv.ext hx) hp hz)
 obtain ⟨X, rfl, hX⟩ := padV_iff.1 hv
 obtain ⟨az, cz, ad, cd, ap, cp, ak, ck, aq, cq⟩ := X
 have HL := hide hl
 obtain ⟨Al, cl, rfl, hcl, hml, _⟩ := hl
 simp only [maxLen] at hml
 unfold PadX.cells at HST HCS HDG HDO HNR ⊢
 dsimp only at HST HCS HDG HDO HNR ⊢
 clear hv hX
 go_enter Try.func13, Try.ntmps13
 go_wp2_with fail
 obtain ⟨W1, hW1⟩ : ∃ V, w.alloc (.cells #[.slice az p.zones.length cz, .slice ad p.doors.length cd, .slice ap p.people.length cp, .slice ak p.keys.length ck, .slice aq p.squibs.length cq, .int .i64 p.panel, .int .i64 p.wait] 28) = V := ⟨_, rfl⟩
 have HX := hide (show Ext w W1 by rw [← hW1]; exact (Ext.refl _).alloc _)
 have HP := hide (show Blk W1 w.heap.size 28 #[.slice az p.zones.length cz, .slice ad p.doors.length cd, .slice ap p.people.length cp, .slice ak p.keys.length ck, .slice aq p.squibs.length cq, .int .i64 p.panel, .int .i64 p.wait] by rw [← hW1]; exact Blk.new _ _ _)
 rw [hW1]
 clear hW1
 refine Calls.mono (HST.out _ HX.out) ?_
 rintro e w2 ⟨u, rfl, hu, hx⟩
 obtain ⟨E, hE⟩ : ∃ E, (padE p).2.2 = E := ⟨_, rfl⟩
 have HE := hide hE
 rw [hE] at hu ⊢
 obtain ⟨S0, hS0⟩ : ∃ x, (if E = 0 then startS p else zeroS) = x := ⟨_, rfl⟩
 rw [hS0] at hu
 have HS0 := hide hS0
 have HU := hide hu
 obtain ⟨B1, d1, B2, d2, B3, d3, rfl, _⟩ := stateV_rows.1 hu
 have HX2 := hide (HX.out.trans hx)
 have HP2 := hide (HP.out.ext hx)
 clear hx hE hS0 hu HX HP HST
 go_upto_region 2 with (fail)
 obtain ⟨bs, hbs⟩ : ∃ b, w2.heap.size = b := ⟨_, rfl⟩
 obtain ⟨W3, hW3⟩ : ∃ V, w2.alloc (.cells #[.int .i64 S0.now, .slice B1 S0.zones.length d1, .slice B2 S0.holder.length d2, .slice B3 S0.squibs.length d3, .int .i64 S0.siren, .bool S0.storm] 38) = V := ⟨_, rfl⟩
 have hx3 : Ext w2 W3 := by rw [← hW3]; exact (Ext.refl _).alloc _
 have HX3 := hide (HX2.out.trans hx3)
 have HP3 := hide (HP2.out.ext hx3)
 have HB3 := hide (show Blk W3 bs 38 #[.int .i64 S0.now, .slice B1 S0.zones.length d1, .slice B2 S0.holder.length d2, .slice B3 S0.squibs.length d3, .int .i64 S0.siren, .bool S0.storm] by rw [← hbs, ← hW3]; exact Blk.new _ _ _)
 have HK3 := hide (KeptS.old (b := bs) HU.out hx3 (by omega))
 have HBS := hide (show w.heap.size ≤ bs ∧ w.heap.size ≠ bs from by have := HX2.out.size; have := HP2.out.lt; omega)
 rw [hW3, hbs]
 clear hx3 hW3 hbs HX2 HP2 HU
 by_cases e0 : E = 0
 ·subst e0
  have HPO := hide (padOk_of HE.out)
  have HNE := hide (fun V (hx : Ext w V) z q hz => HNR.out V hx HE.out z q hz)
  by_cases n60 : 60 < l.length
  ·have hd : decide ((60 : Int) < (l.length : Int)) = true := decide_eq_true (by omega)
   clear n60
   go_wp2_with fail
   refine (awake_any _).mono ?_
   rintro e w9 ⟨rfl, hx9⟩
   have HX9 := hide (HX3.out.trans hx9)
   clear hx9
   go_wp2_with fail
   go_ret
   exact ⟨rfl, HX9.out⟩
  ·have hd : decide ((60 : Int) < (l.length : Int)) = false := decide_eq_false (by omega)
   clear n60
   have HSTE := hide (show stateE p S0 = 0 by rw [← HS0.out, if_pos rfl]; exact stateE_start HE.out)
   go_wp2_with fail
   go_loopw [7, 8, 9, 10, 11, 12] (fun v7 _ _ _ _ _ wr => Hid (Ext w wr) ∧ Hid (OffB bs W3 wr) ∧ ∃ k : Nat, k ≤ l.length ∧ v7 = .int .i64 k ∧ Hid (StX bs p wr)) (fun v7 _ _ _ _ _ _ => l.length - (intOf v7).toNat)
   case atStart => exact ⟨HX3, hide ⟨Nat.le_refl _, fun _ _ _ => rfl⟩, 0, by omega, rfl, hide ⟨S0, _, _, _, _, _, _, HSTE.out, HB3.out, HK3.out⟩⟩
   case round =>
    obtain ⟨HXW, HOF, k, hk, rfl, HPX⟩ := hrel
    by_cases h8 : k < l.length
    ·have HP5 := hide (HOF.out.blk HP3.out HBS.out.2)
     obtain ⟨b9, o9, hA, hb9, hc0⟩ := ListV.at ((HL.out.ext HXW.out).rows.2.2.2) h8
     subst hA
     obtain ⟨σ, C1, e1, C2, e2, C3, e3, hst, hbx, hkx⟩ := HPX.out
     have HSTA := hide hst
     have HBX := hide hbx
     have HKX := hide hkx
     have HFIT := hide (fits_ok HPO.out (stateE_t.1 hst).2.1)
     obtain ⟨a, ha⟩ : ∃ a, l.getD k default = a := ⟨_, rfl⟩
     rw [ha] at hc0
     obtain ⟨D, hD⟩ : ∃ D, doE p σ a = D := ⟨_, rfl⟩
     obtain ⟨XD, hXD⟩ : ∃ x, doS p σ a = x := ⟨_, rfl⟩
     have HD1 := hide (show ∀ V, Ext wr V → Calls Try.prog 27 #[.agg #[.slice az p.zones.length cz, .slice ad p.doors.length cd, .slice ap p.people.length cp, .slice ak p.keys.length ck, .slice aq p.squibs.length cq, .int .i64 p.panel, .int .i64 p.wait], .agg #[.int .i64 σ.now, .slice C1 σ.zones.length e1, .slice C2 σ.holder.length e2, .slice C3 σ.squibs.length e3, .int .i64 σ.siren, .bool σ.storm], .agg #[.int .i64 a.at_, .int .i64 a.kind, .int .i64 a.who, .int .i64 a.what, .int .i64 a.with_]] V (fun e w' => ∃ b, e = .returned (.tuple #[b, .int .i64 D]) ∧ StateO w' 0 b XD ∧ Ext V w') from fun V hV => by
      refine Calls.mono (HDO.out V (HXW.out.trans hV) _ σ a (HKX.out.off (OffB.ext hV)).v HFIT.out) ?_
      rintro e w' ⟨b, rfl, hb, hx⟩
      rw [hXD] at hb
      exact ⟨b, by rw [hD], hb.mono (Nat.zero_le _), hx⟩)
     have a0 := hc0 0 (by omega)
     have a1 := hc0 1 (by omega)
     have a2 := hc0 2 (by omega)
     have a3 := hc0 3 (by omega)
     have a4 := hc0 4 (by omega)
     simp only [PAct.cell, Nat.add_zero] at a0 a1 a2 a3 a4
     have HDD := hide hD
     have HXD := hide hXD
     have p0 := cell_heap HP5.out 0 _ rfl
     have p1 := cell_heap HP5.out 1 _ rfl
     have p2 := cell_heap HP5.out 2 _ rfl
     have p3 := cell_heap HP5.out 3 _ rfl
     have p4 := cell_heap HP5.out 4 _ rfl
     have p5 := cell_heap HP5.out 5 _ rfl
     have p6 := cell_heap HP5.out 6 _ rfl
     have x0 := cell_heap HBX.out 0 _ rfl
     have x1 := cell_heap HBX.out 1 _ rfl
     have x2 := cell_heap HBX.out 2 _ rfl
     have x3 := cell_heap HBX.out 3 _ rfl
     have x4 := cell_heap HBX.out 4 _ rfl
     have x5 := cell_heap HBX.out 5 _ rfl
     clear hc0 ha hD hXD hst hbx hkx
     go_wp2_with fail
     apply wp_region_g [9] 11 [33, 34, 35, 36, 37, 38, 39, 32, 40, 41, 8]
      [.is _, .is _, .is _, .is _, .is _, .is _, .so (fun v W => ∃ a, v = .tuple #[a, .int .i64 D] ∧ StateO W 0 a XD), .so (fun v W => ∃ a, v = .tuple #[a, .int .i64 D] ∧ StateO W 0 a XD), .so (fun v W => StateO W 0 v XD), .so (fun v _ => v = .int .i64 D), .so (fun v W => BoxS wr.heap.size v W)]
      [(1, _), (2, _), (5, _), (7, _)]
     ·kernel_rfl
     ·decide
     ·decide
     ·rfl
     ·kernel_rfl
     ·decide +kernel
     ·kernel_rfl
     ·kernel_rfl
     ·kernel_rfl
     ·kernel_rfl
     ·kernel_rfl
     ·kernel_rfl
     ·kernel_rfl
     ·kernel_rfl
     ·kernel_rfl
     ·rfl
     ·intro c a d v w h; cases d <;> exact h
     ·exact ⟨trivial, trivial, trivial, trivial, trivial, trivial, fun v A B h k => by obtain ⟨a, h1, h2⟩ := h; exact ⟨a, h1, h2.ext k⟩, fun v A B h k => by obtain ⟨a, h1, h2⟩ := h; exact ⟨a, h1, h2.ext k⟩, fun v A B h k => h.ext k, fun _ _ _ h _ => h, fun v A B h k => h.ext k, trivial⟩
     ·refine ⟨?_, ?_, ?_, ?_, trivial⟩ <;> (simp; rfl)
     ·repeat
       refine ⟨?_, ?_⟩
       ·intro F W5 hF hd hR
        simp [fixedAt] at hF
        obtain ⟨t1, t2, t5, t7⟩ := hF
        simp [Region.binds, Ent.holds] at hd
        refine ⟨fun _ K hK => ?_, by intro g b h hn; first | (cases h; done) | (cases h; exact absurd (by simp [hd]) hn)⟩
        simp only [Ent.holds, List.getD_cons_zero, List.getD_cons_succ] at hK
        have p0' := hR.cell p0
        have p1' := hR.cell p1
        have p2' := hR.cell p2
        have p3' := hR.cell p3
        have p4' := hR.cell p4
        have p5' := hR.cell p5
        have p6' := hR.cell p6
        have x0' := hR.cell x0
        have x1' := hR.cell x1
        have x2' := hR.cell x2
        have x3' := hR.cell x3
        have x4' := hR.cell x4
        have x5' := hR.cell x5
        have a0' := hR.cell a0
        have a1' := hR.cell a1
        have a2' := hR.cell a2
        have a3' := hR.cell a3
        have a4' := hR.cell a4
        go_simp
        first
         | exact hK _ _ rfl (Ext.refl _)
         | (exact hK _ _ ⟨_, rfl, Blk.new _ _ _, hR.size⟩ ((Ext.refl _).alloc _))
         | (go_at_call 27
            with_reducible refine Calls.mono (HD1.out _ hR) ?_
            rintro e w' ⟨a, rfl, ha, hx⟩
            exact hK _ _ ⟨a, rfl, ha⟩ hx)
         | (exact hK _ _ hd (Ext.refl _))
         | (obtain ⟨da, hd1, hd2⟩ := hd
            go_simp
            first | exact hK _ _ hd2 (Ext.refl _) | exact hK _ _ rfl (Ext.refl _))
      exact trivial
     intro X W5 hx hR
     simp only [toldX] at hx
     simp only [fillX, List.setIfInBounds_toArray, List.set_cons_succ, List.set_cons_zero]
     obtain ⟨_, _, h36, h37, ⟨B, e8, hB, hlt⟩, _⟩ := hx
     have H36 := hide h36
     obtain ⟨K1, k1, K2, k2, K3, k3, e36, _⟩ := h36
     rw [e36] at H36
     rw [e8, e36, h37]
     have HB5 := hide hB
     have HWR5 := hide hR
     have HLTB := hide hlt
     have HLTX := hide HBX.out.lt
     clear e8 e36 h37 hB hlt hR p0 p1 p2 p3 p4 p5 p6 x0 x1 x2 x3 x4 x5 a0 a1 a2 a3 a4
     have b0 := cell_heap HB5.out 0 _ rfl
     have gb0 := HB5.out.frozen 0
     have b1 := cell_heap HB5.out 1 _ rfl
     have gb1 := HB5.out.frozen 1
     have b2 := cell_heap HB5.out 2 _ rfl
     have gb2 := HB5.out.frozen 2
     have b3 := cell_heap HB5.out 3 _ rfl
     have gb3 := HB5.out.frozen 3
     have b4 := cell_heap HB5.out 4 _ rfl
     have gb4 := HB5.out.frozen 4
     have b5 := cell_heap HB5.out 5 _ rfl
     have gb5 := HB5.out.frozen 5
     go_upto_region 8 with (fail)
     obtain ⟨W6, hW6⟩ : ∃ V, sets6 W5 B (.int .i64 XD.now) (.slice K1 XD.zones.length k1) (.slice K2 XD.holder.length k2) (.slice K3 XD.squibs.length k3) (.int .i64 XD.siren) (.bool XD.storm) = V := ⟨_, rfl⟩
     have HR6 := hide (show Ext wr W6 by rw [← hW6]; exact HWR5.out.sets HLTB.out _ _ _ _ _ _)
     have HB6 := hide (show Blk W6 B 38 #[.int .i64 XD.now, .slice K1 XD.zones.length k1, .slice K2 XD.holder.length k2, .slice K3 XD.squibs.length k3, .int .i64 XD.siren, .bool XD.storm] by rw [← hW6]; exact HB5.out.sets _ _ _ _ _ _)
     have H366 := hide (show StateO W6 0 (.agg #[.int .i64 XD.now, .slice K1 XD.zones.length k1, .slice K2 XD.holder.length k2, .slice K3 XD.squibs.length k3, .int .i64 XD.siren, .bool XD.storm]) XD by rw [← hW6]; exact H36.out.typed HB5.out (OffB.sets _ _ _ _ _ _))
     have HX6 := hide (HBX.out.ext HR6.out)
     have HKX6 := hide (HKX.out.off (OffB.ext HR6.out))
     have HP6 := hide (HP5.out.ext HR6.out)
     have HW6 := hide (HXW.out.trans HR6.out)
     unfold sets6 at hW6
     rw [hW6]
     clear hW6 HB5 HWR5 H36 b0 b1 b2 b3 b4 b5 gb0 gb1 gb2 gb3 gb4 gb5
     by_cases d0 : D = 0
     case' pos =>
      subst d0
      have HDZ := hide (doE_zero HDD.out)
      have HAO := hide (doE_act HDD.out)
      have HXS := hide (show doneS p σ a = XD by rw [← HXD.out]; exact (doS_eq HDD.out).symm)
      have HSTX := hide (stateE_done HSTA.out HAO.out HDZ.out.2.2)
      rw [HXS.out] at HSTX
      have y0 := cell_heap HB6.out 0 _ rfl
      have y1 := cell_heap HB6.out 1 _ rfl
      have y2 := cell_heap HB6.out 2 _ rfl
      have y3 := cell_heap HB6.out 3 _ rfl
      have y4 := cell_heap HB6.out 4 _ rfl
      have y5 := cell_heap HB6.out 5 _ rfl
      have x0 := cell_heap HX6.out 0 _ rfl
      have gx0 := HX6.out.frozen 0
      have x1 := cell_heap HX6.out 1 _ rfl
      have gx1 := HX6.out.frozen 1
      have x2 := cell_heap HX6.out 2 _ rfl
      have gx2 := HX6.out.frozen 2
      have x3 := cell_heap HX6.out 3 _ rfl
      have gx3 := HX6.out.frozen 3
      have x4 := cell_heap HX6.out 4 _ rfl
      have gx4 := HX6.out.frozen 4
      have x5 := cell_heap HX6.out 5 _ rfl
      have gx5 := HX6.out.frozen 5
      go_upto_region 10 with (fail)
      obtain ⟨W8, hW8⟩ : ∃ V, sets6 W6 bs (.int .i64 XD.now) (.slice K1 XD.zones.length k1) (.slice K2 XD.holder.length k2) (.slice K3 XD.squibs.length k3) (.int .i64 XD.siren) (.bool XD.storm) = V := ⟨_, rfl⟩
      have HX8 := hide (show Ext w W8 by rw [← hW8]; exact HW6.out.sets HBS.out.1 _ _ _ _ _ _)
      have HOF8 := hide (show OffB bs W3 W8 by rw [← hW8]; exact (HOF.out.trans (OffB.ext HR6.out)).trans (OffB.sets _ _ _ _ _ _))
      have HSX8 := hide (show StX bs p W8 by rw [← hW8]; exact ⟨XD, _, _, _, _, _, _, HSTX.out, HX6.out.sets _ _ _ _ _ _, (KeptS.own H366.out HX6.out).off (OffB.sets _ _ _ _ _ _)⟩)
      have HP8 := hide (show Blk W8 w.heap.size 28 #[.slice az p.zones.length cz, .slice ad p.doors.length cd, .slice ap p.people.length cp, .slice ak p.keys.length ck, .slice aq p.squibs.length cq, .int .i64 p.panel, .int .i64 p.wait] from HOF8.out.blk HP3.out HBS.out.2)
      unfold sets6 at hW8
      rw [hW8]
      clear hW8 y0 y1 y2 y3 y4 y5 x0 x1 x2 x3 x4 x5 gx0 gx1 gx2 gx3 gx4 gx5 HDZ HAO HXS HSTX HPX HSTA HBX HKX HFIT HD1 HDD HXD HR6 HB6 H366 HX6 HKX6 HP6 HW6
     case' neg =>
      have hne : (D == 0) = false := by simpa using d0
      clear d0
      go_upto_region 10 with (fail)
      have HX8 := HW6
      have HOF8 := hide (HOF.out.trans (OffB.ext HR6.out))
      have HSX8 := hide (show StX bs p W6 from ⟨σ, _, _, _, _, _, _, HSTA.out, HX6.out, HKX6.out⟩)
      have HP8 := HP6
      clear hne HPX HSTA HBX HKX HFIT HD1 HDD HXD HR6 HB6 H366 HX6 HKX6 HP6 HW6
     all_goals
      obtain ⟨τ, G1, g1, G2, g2, G3, g3, hst, hbx, hkx⟩ := HSX8.out
      have HTE := hide hst
      have HTB := hide hbx
      have HTK := hide hkx
      have HTS := hide (stateE_t.1 hst).2
      have HFT := hide (fits_ok HPO.out (stateE_t.1 hst).2.1)
      have l2 : (((τ.squibs.length : Nat) : Int) != ((p.squibs.length : Nat) : Int)) = false := by have := HTS.out.1.lq; simp [this]
      clear hst hbx hkx HSX8
      have p0 := cell_heap HP8.out 0 _ rfl
      have p1 := cell_heap HP8.out 1 _ rfl
      have p2 := cell_heap HP8.out 2 _ rfl
      have p3 := cell_heap HP8.out 3 _ rfl
      have p4 := cell_heap HP8.out 4 _ rfl
      have p5 := cell_heap HP8.out 5 _ rfl
      have p6 := cell_heap HP8.out 6 _ rfl
      have x0 := cell_heap HTB.out 0 _ rfl
      have x1 := cell_heap HTB.out 1 _ rfl
      have x2 := cell_heap HTB.out 2 _ rfl
      have x3 := cell_heap HTB.out 3 _ rfl
      have x4 := cell_heap HTB.out 4 _ rfl
      have x5 := cell_heap HTB.out 5 _ rfl
      go_wp2_with fail
      refine Calls.mono (HCS.out _ HX8.out _ τ HTK.out.v HFT.out) ?_
      rintro e w9 ⟨rfl, hx⟩
      rw [HTE.out]
      have HX9 := hide (HX8.out.trans hx)
      have HOF9 := hide (HOF8.out.trans (OffB.ext hx))
      have HP9 := hide (HP8.out.ext hx)
      have HT9 := hide (HTB.out.ext hx)
      have HK9 := hide (HTK.out.off (OffB.ext hx))
      clear hx p0 p1 p2 p3 p4 p5 p6 x0 x1 x2 x3 x4 x5 HX8 HOF8 HP8 HTB HTK
      have p0 := cell_heap HP9.out 0 _ rfl
      have p1 := cell_heap HP9.out 1 _ rfl
      have p2 := cell_heap HP9.out 2 _ rfl
      have p3 := cell_heap HP9.out 3 _ rfl
      have p4 := cell_heap HP9.out 4 _ rfl
      have p5 := cell_heap HP9.out 5 _ rfl
      have p6 := cell_heap HP9.out 6 _ rfl
      have x0 := cell_heap HT9.out 0 _ rfl
      have x1 := cell_heap HT9.out 1 _ rfl
      have x2 := cell_heap HT9.out 2 _ rfl
      have x3 := cell_heap HT9.out 3 _ rfl
      have x4 := cell_heap HT9.out 4 _ rfl
      have x5 := cell_heap HT9.out 5 _ rfl
      go_wp2_with fail
      refine Calls.mono (HDG.out _ HX9.out _ τ HK9.out.v HFT.out HTE.out) ?_
      rintro e w10 ⟨rfl, hx⟩
      have HX10 := hide (HX9.out.trans hx)
      have HOF10 := hide (HOF9.out.trans (OffB.ext hx))
      have HP10 := hide (HP9.out.ext hx)
      have HT10 := hide (HT9.out.ext hx)
      have HK10 := hide (HK9.out.off (OffB.ext hx))
      have HZX := hide (show IntsV w10 .i64 (.slice G1 τ.zones.length g1) τ.zones by obtain ⟨u1, u2, u3, hh, i1, i2, i3⟩ := HK10.out.v; simp only [Value.agg.injEq, Array.mk.injEq, List.cons.injEq] at hh; rw [hh.2.1]; exact i1)
      have HQX := hide (show IntsV w10 .i64 (.slice G3 τ.squibs.length g3) τ.squibs by obtain ⟨u1, u2, u3, hh, i1, i2, i3⟩ := HK10.out.v; simp only [Value.agg.injEq, Array.mk.injEq, List.cons.injEq] at hh; rw [hh.2.2.2.1]; exact i3)
      have i1 := HZX.out.rows.2.2.1
      have j1 := HZX.out.rows.2.1
      have i2 := HQX.out.rows.2.2.1
      have j2 := HQX.out.rows.2.1
      clear hx p0 p1 p2 p3 p4 p5 p6 x0 x1 x2 x3 x4 x5 HX9 HOF9 HP9 HT9 HK9
      go_wp2_with fail
      go_loopw [11, 12] (fun v11 _ wr2 => Hid (Ext w10 wr2) ∧ ∃ q : Nat, q ≤ τ.squibs.length ∧ v11 = .int .i64 q) (fun v11 _ _ => τ.squibs.length - (intOf v11).toNat)
      case atStart => exact ⟨hide (Ext.refl _), 0, by omega, rfl⟩
      case round =>
       obtain ⟨HXQ, q, hq, rfl⟩ := hrel
       have HB7 := hide (HT10.out.ext HXQ.out)
       have x3 := cell_heap HB7.out 3 _ rfl
       by_cases h7 : q < τ.squibs.length
       ·obtain ⟨bq, oq, sq_, rfl, hltq, hcq0, HVQ⟩ := ints_at ((HQX.out.ext HXQ.out).rows.2.2.2) h7
        go_wp2_with fail
        clear x3
        go_loopw [12] (fun v12 wr3 => Hid (Ext wr wr3) ∧ ∃ j : Nat, j ≤ τ.zones.length ∧ v12 = .int .i64 j) (fun v12 _ => τ.zones.length - (intOf v12).toNat)
        case atStart => exact ⟨hide (Ext.refl _), 0, by omega, rfl⟩
        case round =>
         obtain ⟨HXK, j, hj, rfl⟩ := hrel
         have HP7 := hide (HP10.out.ext (HXQ.out.trans HXK.out))
         have HB8 := hide (HB7.out.ext HXK.out)
         have p0 := cell_heap HP7.out 0 _ rfl
         have p1 := cell_heap HP7.out 1 _ rfl
         have p2 := cell_heap HP7.out 2 _ rfl
         have p3 := cell_heap HP7.out 3 _ rfl
         have p4 := cell_heap HP7.out 4 _ rfl
         have p5 := cell_heap HP7.out 5 _ rfl
         have p6 := cell_heap HP7.out 6 _ rfl
         have x0 := cell_heap HB8.out 0 _ rfl
         have x1 := cell_heap HB8.out 1 _ rfl
         have x2 := cell_heap HB8.out 2 _ rfl
         have x3 := cell_heap HB8.out 3 _ rfl
         have x4 := cell_heap HB8.out 4 _ rfl
         have x5 := cell_heap HB8.out 5 _ rfl
         by_cases h9 : j < τ.zones.length
         ·obtain ⟨bz, oz, zx, rfl, hltz, hcx, HVX⟩ := ints_at ((HZX.out.ext (HXQ.out.trans HXK.out)).rows.2.2.2) h9
          have hcq := HXK.out.cell hcq0
          have hzx : zx < p.zones.length := by have := (HTS.out.1.z j h9).2; rw [HVX.out] at this; exact this
          by_cases h2 : sq_ = 1
          ·have t2 : (sq_ == 1) = true := by simp [h2]
           have hnq : nearQ p zx q = false := by
            cases hn : nearQ p zx q with
            | false => rfl
            | true =>
             have := sound_far HTS.out.2 HTS.out.1.lq h9 (q := q) (by rw [HVX.out]; exact nearQ_t.1 hn)
             rw [HVQ.out] at this
             exact absurd h2 this
           clear h2
           go_wp2_with fail
           apply wp_region_f (85 :: 86 :: 87 :: 88 :: 89 :: 90 :: 91 :: 92 :: 93 :: 94 :: 95 :: 96 :: 97 :: 98 :: 99 :: 100 :: [])
            (.is _ :: .is _ :: .is _ :: .is _ :: .is _ :: .is _ :: .is _ :: .is _ :: .is _ :: .is _ :: .is _ :: .is _ :: .is _ :: .is _ :: .is _ :: .is _ :: [])
            [(2, _), (5, _), (11, _), (12, _)]
           ·kernel_rfl
           ·decide
           ·rfl
           ·kernel_rfl
           ·decide +kernel
           ·kernel_rfl
           ·kernel_rfl
           ·kernel_rfl
           ·kernel_rfl
           ·rfl
           ·exact keepsIs _ rfl
           ·refine ⟨?_, ?_, ?_, ?_, trivial⟩ <;> (simp; rfl)
           ·repeat
             refine ⟨?_, ?_⟩
             ·intro F W7 hF hd hR
              simp [fixedAt] at hF
              obtain ⟨t2, t5, t11, t12⟩ := hF
              simp [Region.binds, Ent.holds] at hd
              refine ⟨fun hgd K hK => ?_, by intro g b h hn; first | (cases h; done) | (cases h; refine absurd ?_ hn; simp [hd]; done) | (cases h; exact ⟨rfl, Ext.refl _⟩)⟩
              first
               | (refine absurd (hgd _ _ rfl) ?_; simp [hd]; done)
               | (refine absurd (hgd _ _ rfl) ?_; simp [hd]; simp [undef]; done)
               | (simp only [Ent.holds, List.getD_cons_zero, List.getD_cons_succ] at hK
                  have p0' := hR.cell p0
                  have p1' := hR.cell p1
                  have p2' := hR.cell p2
                  have p3' := hR.cell p3
                  have p4' := hR.cell p4
                  have p5' := hR.cell p5
                  have p6' := hR.cell p6
                  have x0' := hR.cell x0
                  have x1' := hR.cell x1
                  have x2' := hR.cell x2
                  have x3' := hR.cell x3
                  have x4' := hR.cell x4
                  have x5' := hR.cell x5
                  have hcx' := hR.cell hcx
                  have hcq' := hR.cell hcq
                  go_simp
                  first
                   | exact hK _ _ rfl (Ext.refl _)
                   | (go_at_call 25
                      with_reducible refine Calls.mono (HNE.out _ (HX10.out.trans (HXQ.out.trans (HXK.out.trans hR))) zx q hzx) ?_
                      rintro e w' ⟨rfl, hx⟩
                      exact hK _ _ rfl hx))
            exact trivial
           intro X W7 hx hR
           simp only [toldX] at hx
           simp only [fillX, List.setIfInBounds_toArray, List.set_cons_succ, List.set_cons_zero]
           clear p0 p1 p2 p3 p4 p5 p6 x0 x1 x2 x3 x4 x5 hcx hcq
           go_wp2_with fail
           go_roundw
           case rel => exact ⟨hide (HXK.out.trans hR), j + 1, by omega, by go_num⟩
           case measure => simp [intOf]; omega
          ·have t2 : (sq_ == 1) = false := by simpa using h2
           clear h2
           go_wp2_with fail
           apply wp_region_f (85 :: 86 :: 87 :: 88 :: 89 :: 90 :: 91 :: 92 :: 93 :: 94 :: 95 :: 96 :: 97 :: 98 :: 99 :: 100 :: [])
            (.is _ :: .is _ :: .is _ :: .is _ :: .is _ :: .is _ :: .is _ :: .is _ :: .is _ :: .is _ :: .is _ :: .is _ :: .is _ :: .is _ :: .is _ :: .is _ :: [])
            [(2, _), (5, _), (11, _), (12, _)]
           ·kernel_rfl
           ·decide
           ·rfl
           ·kernel_rfl
           ·decide +kernel
           ·kernel_rfl
           ·kernel_rfl
           ·kernel_rfl
           ·kernel_rfl
           ·rfl
           ·exact keepsIs _ rfl
           ·refine ⟨?_, ?_, ?_, ?_, trivial⟩ <;> (simp; rfl)
           ·repeat
             refine ⟨?_, ?_⟩
             ·intro F W7 hF hd hR
              simp [fixedAt] at hF
              obtain ⟨t2, t5, t11, t12⟩ := hF
              simp [Region.binds, Ent.holds] at hd
              refine ⟨fun hgd K hK => ?_, by intro g b h hn; first | (cases h; done) | (cases h; refine absurd ?_ hn; simp [hd]; done) | (cases h; exact ⟨rfl, Ext.refl _⟩)⟩
              first
               | (refine absurd (hgd _ _ rfl) ?_; simp [hd]; done)
               | (refine absurd (hgd _ _ rfl) ?_; simp [hd]; simp [undef]; done)
               | (simp only [Ent.holds, List.getD_cons_zero, List.getD_cons_succ] at hK
                  have p0' := hR.cell p0
                  have p1' := hR.cell p1
                  have p2' := hR.cell p2
                  have p3' := hR.cell p3
                  have p4' := hR.cell p4
                  have p5' := hR.cell p5
                  have p6' := hR.cell p6
                  have x0' := hR.cell x0
                  have x1' := hR.cell x1
                  have x2' := hR.cell x2
                  have x3' := hR.cell x3
                  have x4' := hR.cell x4
                  have x5' := hR.cell x5
                  have hcx' := hR.cell hcx
                  have hcq' := hR.cell hcq
                  go_simp
                  first
                   | exact hK _ _ rfl (Ext.refl _)
                   | (go_at_call 25
                      with_reducible refine Calls.mono (HNE.out _ (HX10.out.trans (HXQ.out.trans (HXK.out.trans hR))) zx q hzx) ?_
                      rintro e w' ⟨rfl, hx⟩
                      exact hK _ _ rfl hx))
            exact trivial
           intro X W7 hx hR
           simp only [toldX] at hx
           simp only [fillX, List.setIfInBounds_toArray, List.set_cons_succ, List.set_cons_zero]
           clear p0 p1 p2 p3 p4 p5 p6 x0 x1 x2 x3 x4 x5 hcx hcq
           go_wp2_with fail
           go_roundw
           case rel => exact ⟨hide (HXK.out.trans hR), j + 1, by omega, by go_num⟩
           case measure => simp [intOf]; omega
         ·obtain rfl : j = τ.zones.length := by omega
          go_wp2_with fail
          go_roundw
          case rel => exact ⟨hide (HXQ.out.trans HXK.out), q + 1, by omega, by go_num⟩
          case measure => simp [intOf]; omega
       ·obtain rfl : q = τ.squibs.length := by omega
        go_wp2_with fail
        go_roundw
        case rel => exact ⟨hide (HX10.out.trans HXQ.out), hide (HOF10.out.trans (OffB.ext HXQ.out)), k + 1, by omega, by go_num, hide ⟨τ, _, _, _, _, _, _, HTE.out, HB7.out, HK10.out.off (OffB.ext HXQ.out)⟩⟩
        case measure => simp [intOf]; omega
    ·obtain rfl : k = l.length := by omega
     go_wp2_with fail
     refine (awake_any _).mono ?_
     rintro e w9 ⟨rfl, hx9⟩
     have HX9 := hide (HXW.out.trans hx9)
     clear hx9
     go_wp2_with fail
     go_ret
     exact ⟨rfl, HX9.out⟩
 ·have hne : (E != 0) = true := by simpa using e0
  clear e0
  go_wp2_with fail
  refine (awake_any _).mono ?_
  rintro e w9 ⟨rfl, hx9⟩
  have HX9 := hide (HX3.out.trans hx9)
  clear hx9
  go_wp2_with fail
  go_ret
  exact ⟨rfl, HX9.out⟩
theorem own : ownKnob Try.prog.godebug = none := by kernel_rfl
theorem laidOut : laidOutB Try.prog = true := by kernel_rfl
set_option maxRecDepth 100000 in
theorem lifted (os : Os) (started : os.Started) (H : Type) (enc : TypeId × Value → H) :
 ReturnsInHanded {} Try.checked os 13 .any (Rows.padNeverSpec.pre6 enc Try.prog Try.f13 Rows.padNeverRow.domain false) (Rows.padNeverSpec.post enc Try.prog Try.f13 false true false false) := by
 refine returnsInHanded_of_change_sized (C := Try.checked) own started (by kernel_rfl) Try.func13
  (ChangeSpec.witness6 (enc := enc) (C := Try.checked) false ⟨#[], #[.agg #[.slice none 0 0, .slice none 0 0, .slice none 0 0, .slice none 0 0, .slice none 0 0, .int .i64 0, .int .i64 0], .slice none 0 0], []⟩ 8 (by kernel_rfl) (by kernel_rfl) (by kernel_rfl) (by kernel_rfl)) ?_
 intro W base args ds gs before hval0 hW hcnd hsz0 _
 have hval : ∀ (j : Nat) t v, Try.f13.params[j]? = some t → args[j]? = some v → Value.okWide Try.prog W .any base t v := hval0
 have hsz : (DataW.weightsEach Try.prog (Try.f13.params.toList ++ Rows.padNeverSpec.plain.varTypes Try.prog) (ds ++ gs)).all (· ≤ reachBytes) = true := hsz0
 have hW' := hW
 obtain ⟨p, q, hA0, hV, rfl, hfz, hnd⟩ := hW
 have hA : DataW.TrodAll enc Try.prog W 0 (fun _ => true) true Try.f13.params.toList args.toList ds p := hA0
 rw [Try.params13] at hA hval hsz
 obtain ⟨v0, vs0, d0, ds0, p0, q0, hargs, rfl, rfl, h0, r0⟩ := trodAll_cons hA
 obtain ⟨v1, vs1, d1, ds1, p1, q1, rfl, rfl, rfl, h1, r1⟩ := trodAll_cons r0
 obtain ⟨rfl, rfl, rfl⟩ := trodAll_nil r1
 obtain rfl : args = #[v0, v1] := by cases args; simp_all
 obtain ⟨rfl, rfl⟩ := trodVars_none hV
 have k0 := h0
 have lt0 : ∀ x ∈ p0, x.block < W.heap.size := by obtain ⟨m, hm⟩ := k0; exact DataW.trod_lt m _ _ _ hm
 obtain ⟨pd0, o0⟩ := open_pad (hval 0 28 v0 rfl rfl) h0
 have k1 := h1
 have lt1 : ∀ x ∈ p1, x.block < W.heap.size := by obtain ⟨m, hm⟩ := k1; exact DataW.trod_lt m _ _ _ hm
 obtain ⟨l1, o1⟩ := open_acts (hval 1 43 v1 rfl rfl) h1
 clear hA0 hval0 hsz0
 refine (walk o0 o1).mono fun e W' ⟨he, bel⟩ => ?_
 subst he
 exact ⟨_, rfl, _, _, _, [], _, [], hW', trodAll_mk1 (shut_bool Try.underlying4 _), (trodAll_cons_mk (Below.trod laidOut (by kernel_rfl) (of_decide_eq_true (by kernel_rfl)) k0 bel lt0) (trodAll_cons_mk (Below.trod laidOut (by kernel_rfl) (of_decide_eq_true (by kernel_rfl)) k1 bel lt1) trodAll_mk0)), rfl, bel.frame _, fun h => by cases h⟩
theorem over : Rows.padNeverRow.holds Try.pinned (OpenSpec.ofChange Rows.padNeverSpec) :=
 OpenClaim.holds_of_wide 13 Try.f13 rfl rfl rfl rfl rfl rfl rfl ⟨rfl, rfl, rfl, rfl, rfl⟩ rfl rfl rfl rfl rfl (by kernel_rfl) Try.func13 (by kernel_rfl)
  (of_decide_eq_true (by kernel_rfl)) (by unfold Func.isWrapper; first | (rw [if_pos (by decide +kernel)]; kernel_rfl) | (rw [if_neg (by decide +kernel)]; exact ⟨rfl, rfl⟩))
  (fun os started H enc _ => lifted os started H enc)
end PadNeverLaw
/-- The statement. -/
theorem never_holds : Rows.PadNeverSaid := PadNeverLaw.over
end Go.Proofs.Ythcnganbnbhhoaa
