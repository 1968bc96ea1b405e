/-
  Proves that while there is a storm no squib is armed, and nobody comes into a zone near a squib that is not fired, for any pad, state and acts: 'PadStormsSaid'. No conditions.
-/
import Derived.Test.YthcnganbnbhhoaaRows
import Derived.Test.YthcnganbnbhhoaaLawP
import Derived.Test.YthcnganbnbhhoaaKept
import Derived.Test.YthcnganbnbhhoaaNear4
import Derived.Test.YthcnganbnbhhoaaAwake
import Derived.Test.YthcnganbnbhhoaaOpen
import Derived.Test.YthcnganbnbhhoaaDetE
import Derived.SizedLaws
namespace Go.Proofs.Ythcnganbnbhhoaa
open Go.ChangeShapes Go.WideShapes Go.ChangeAt Go.RowKit Go.Shelf
theorem Blk.pairT (w : World) (t t' : TypeId) (cs ds : Array Value) : Ext w ((w.alloc (.cells cs t)).alloc (.cells ds t')) ∧ Blk ((w.alloc (.cells cs t)).alloc (.cells ds t')) w.heap.size t cs ∧ Blk ((w.alloc (.cells cs t)).alloc (.cells ds t')) (w.heap.size + 1) t' ds := by
 refine ⟨((Ext.refl _).alloc _).alloc _, (Blk.new w t cs).ext ((Ext.refl _).alloc _), ?_⟩
 have := Blk.new (w.alloc (.cells cs t)) t' ds
 rwa [World.size_alloc] at this
def BoxS (N : Nat) (v : Value) (W : World) : Prop := ∃ B, v = .pointer (some ⟨B, 0, none⟩) ∧ Blk W B 38 #[.int .i64 0, .slice none 0 0, .slice none 0 0, .slice none 0 0, .int .i64 0, .bool false] ∧ N ≤ B
theorem BoxS.ext {N : Nat} {A B : World} {v : Value} (h : BoxS N v A) (k : Ext A B) : BoxS N v B := by obtain ⟨g, h1, h2, h3⟩ := h; exact ⟨g, h1, h2.ext k, h3⟩
/-- The box b holds a sound state. -/
def StX (b : Nat) (p : Pad) (W : World) : Prop := ∃ (x : State) (C1 : Option Addr) (e1 : Nat) (C2 : Option Addr) (e2 : Nat) (C3 : Option Addr) (e3 : Nat), stateE p x = 0 ∧ Blk W b 38 #[.int .i64 x.now, .slice C1 x.zones.length e1, .slice C2 x.holder.length e2, .slice C3 x.squibs.length e3, .int .i64 x.siren, .bool x.storm] ∧ KeptS b W (.agg #[.int .i64 x.now, .slice C1 x.zones.length e1, .slice C2 x.holder.length e2, .slice C3 x.squibs.length e3, .int .i64 x.siren, .bool x.storm]) x
theorem doE_act {p : Pad} {s : State} {a : PAct} (h : doE p s a = 0) : ActOk p a := actOk_of (doE_zero h).2.1
namespace PadStormsLaw
set_option maxRecDepth 100000 in
set_option maxHeartbeats 8000000 in
theorem walk {v sv lv : Value} {p : Pad} {s : State} {l : List PAct} {w : World} (hv : PadV w v p) (hs : StateV w sv s) (hf : s.Fits) (hl : ListV 5 PAct.cell w lv l) :
  Calls Try.prog 10 #[v, sv, lv] w fun e w' => e = .returned (.bool true) ∧ Below w.heap.size w w' := by
 have HCS := hide (fun V (hx : Ext w V) => checkState_any v sv p s V (hv.ext hx) (hs.ext hx) hf)
 have HDO := hide (fun V (hx : Ext w V) (u : Value) (x : State) (a : PAct) (h : StateV V u x) (hfx : x.Fits) => doA_any v u p x a V (hv.ext hx) h hfx)
 have HNR := hide (fun V (hx : Ext w V) hp z q hz => lawNear_any v p z q V (hv.ext hx) hp hz)
 obtain ⟨X, rfl, hX⟩ := padV_iff.1 hv
 obtain ⟨az, cz, ad, cd, ap, cp, ak, ck, aq, cq⟩ := X
 obtain ⟨A1, c1, A2, c2, A3, c3, rfl, _⟩ := stateV_rows.1 hs
 have HS0 := hide hs
 have HL := hide hl
 obtain ⟨Al, cl, rfl, hcl, hml, _⟩ := hl
 simp only [maxLen] at hml
 unfold PadX.cells at HCS HDO HNR ⊢
 dsimp only at HCS HDO HNR ⊢
 clear hv hs hX hf
 go_enter Try.func10, Try.ntmps10
 go_wp2_with fail
 have HBOX := hide (Blk.pairT w 28 38 #[.slice az p.zones.length cz, .slice ad p.doors.length cd, .slice ap p.people.length cp, .slice ak p.keys.length ck, .slice aq p.squibs.length cq, .int .i64 p.panel, .int .i64 p.wait] #[.int .i64 s.now, .slice A1 s.zones.length c1, .slice A2 s.holder.length c2, .slice A3 s.squibs.length c3, .int .i64 s.siren, .bool s.storm])
 obtain ⟨W1, hW1⟩ : ∃ V, (w.alloc (.cells #[.slice az p.zones.length cz, .slice ad p.doors.length cd, .slice ap p.people.length cp, .slice ak p.keys.length ck, .slice aq p.squibs.length cq, .int .i64 p.panel, .int .i64 p.wait] 28)).alloc (.cells #[.int .i64 s.now, .slice A1 s.zones.length c1, .slice A2 s.holder.length c2, .slice A3 s.squibs.length c3, .int .i64 s.siren, .bool s.storm] 38) = V := ⟨_, rfl⟩
 rw [hW1] at HBOX ⊢
 obtain ⟨HX, HP, HS⟩ := HBOX.out
 clear HBOX hW1
 refine Calls.mono (HCS.out _ HX) ?_
 rintro e w2 ⟨rfl, hx⟩
 replace HX := hide (HX.trans hx)
 replace HP := hide (HP.ext hx)
 replace HS := hide (HS.ext hx)
 obtain ⟨E, hE⟩ : ∃ E, stateE p s = E := ⟨_, rfl⟩
 have HE := hide hE
 rw [hE]
 clear hx hE HCS
 by_cases e0 : E = 0
 ·subst e0
  have HPE := hide (stateE_t.1 HE.out).1
  have HPO := hide (padOk_of HPE.out)
  have HNE := hide (fun V (hx : Ext w V) z q hz => HNR.out V hx HPE.out z q hz)
  by_cases n60 : 60 < l.length
  ·have hd : decide ((60 : Int) < (l.length : Int)) = true := decide_eq_true (by omega)
   clear n60
   go_wp2_with fail
   refine (awake_any _).mono ?_
   rintro e w9 ⟨rfl, hx9⟩
   have HX9 := hide (HX.out.trans hx9)
   clear hx9
   go_wp2_with fail
   go_ret
   exact ⟨rfl, HX9.out⟩
  ·have hd : decide ((60 : Int) < (l.length : Int)) = false := decide_eq_false (by omega)
   clear n60
   obtain ⟨bs, hbs⟩ : ∃ b, w.heap.size + 1 = b := ⟨_, rfl⟩
   have HK2 := hide (KeptS.old (b := bs) HS0.out HX.out (by omega))
   have HBS := hide (show w.heap.size ≤ bs ∧ w.heap.size ≠ bs from by omega)
   rw [hbs] at HS ⊢
   clear hbs
   go_wp2_with fail
   go_loopw [7, 8, 9, 10, 11] (fun v7 _ _ _ _ wr => Hid (Ext w wr) ∧ Hid (OffB bs w2 wr) ∧ ∃ k : Nat, k ≤ l.length ∧ v7 = .int .i64 k ∧ Hid (StX bs p wr)) (fun v7 _ _ _ _ _ => l.length - (intOf v7).toNat)
   case atStart => exact ⟨HX, hide ⟨Nat.le_refl _, fun _ _ _ => rfl⟩, 0, by omega, rfl, hide ⟨s, _, _, _, _, _, _, HE.out, HS.out, HK2.out⟩⟩
   case round =>
    obtain ⟨HXW, HOF, k, hk, rfl, HPX⟩ := hrel
    by_cases h8 : k < l.length
    ·have HP5 := hide (HOF.out.blk HP.out HBS.out.2)
     obtain ⟨b9, o9, hA, hb9, hc0⟩ := ListV.at ((HL.out.ext HXW.out).rows.2.2.2) h8
     subst hA
     obtain ⟨σ, C1, e1, C2, e2, C3, e3, hst, hbx, hkx⟩ := HPX.out
     have HSTA := hide hst
     have HBX := hide hbx
     have HKX := hide hkx
     have HFIT := hide (fits_ok HPO.out (stateE_t.1 hst).2.1)
     obtain ⟨a, ha⟩ : ∃ a, l.getD k default = a := ⟨_, rfl⟩
     rw [ha] at hc0
     obtain ⟨D, hD⟩ : ∃ D, doE p σ a = D := ⟨_, rfl⟩
     obtain ⟨XD, hXD⟩ : ∃ x, doS p σ a = x := ⟨_, rfl⟩
     have HD1 := hide (show ∀ V, Ext wr V → Calls Try.prog 27 #[.agg #[.slice az p.zones.length cz, .slice ad p.doors.length cd, .slice ap p.people.length cp, .slice ak p.keys.length ck, .slice aq p.squibs.length cq, .int .i64 p.panel, .int .i64 p.wait], .agg #[.int .i64 σ.now, .slice C1 σ.zones.length e1, .slice C2 σ.holder.length e2, .slice C3 σ.squibs.length e3, .int .i64 σ.siren, .bool σ.storm], .agg #[.int .i64 a.at_, .int .i64 a.kind, .int .i64 a.who, .int .i64 a.what, .int .i64 a.with_]] V (fun e w' => ∃ b, e = .returned (.tuple #[b, .int .i64 D]) ∧ StateO w' 0 b XD ∧ Ext V w') from fun V hV => by
      refine Calls.mono (HDO.out V (HXW.out.trans hV) _ σ a (HKX.out.off (OffB.ext hV)).v HFIT.out) ?_
      rintro e w' ⟨b, rfl, hb, hx⟩
      rw [hXD] at hb
      exact ⟨b, by rw [hD], hb.mono (Nat.zero_le _), hx⟩)
     have a0 := hc0 0 (by omega)
     have a1 := hc0 1 (by omega)
     have a2 := hc0 2 (by omega)
     have a3 := hc0 3 (by omega)
     have a4 := hc0 4 (by omega)
     simp only [PAct.cell, Nat.add_zero] at a0 a1 a2 a3 a4
     have HDD := hide hD
     have HXD := hide hXD
     have p0 := cell_heap HP5.out 0 _ rfl
     have p1 := cell_heap HP5.out 1 _ rfl
     have p2 := cell_heap HP5.out 2 _ rfl
     have p3 := cell_heap HP5.out 3 _ rfl
     have p4 := cell_heap HP5.out 4 _ rfl
     have p5 := cell_heap HP5.out 5 _ rfl
     have p6 := cell_heap HP5.out 6 _ rfl
     have x0 := cell_heap HBX.out 0 _ rfl
     have x1 := cell_heap HBX.out 1 _ rfl
     have x2 := cell_heap HBX.out 2 _ rfl
     have x3 := cell_heap HBX.out 3 _ rfl
     have x4 := cell_heap HBX.out 4 _ rfl
     have x5 := cell_heap HBX.out 5 _ rfl
     clear hc0 ha hD hXD hst hbx hkx
     go_wp2_with fail
     apply wp_region_g [9] 11 [29, 30, 31, 32, 33, 34, 35, 28, 36, 37, 8]
       [.is _, .is _, .is _, .is _, .is _, .is _, .so (fun v W => ∃ a, v = .tuple #[a, .int .i64 D] ∧ StateO W 0 a XD), .so (fun v W => ∃ a, v = .tuple #[a, .int .i64 D] ∧ StateO W 0 a XD), .so (fun v W => StateO W 0 v XD), .so (fun v _ => v = .int .i64 D), .so (fun v W => BoxS wr.heap.size v W)]
       [(2, _), (3, _), (4, _), (7, _)]
     · kernel_rfl
     · decide
     · decide
     · rfl
     · kernel_rfl
     · decide +kernel
     · kernel_rfl
     · kernel_rfl
     · kernel_rfl
     · kernel_rfl
     · kernel_rfl
     · kernel_rfl
     · kernel_rfl
     · kernel_rfl
     · kernel_rfl
     · rfl
     · intro c a d v w h; cases d <;> exact h
     · exact ⟨trivial, trivial, trivial, trivial, trivial, trivial, fun v A B h k => by obtain ⟨a, h1, h2⟩ := h; exact ⟨a, h1, h2.ext k⟩, fun v A B h k => by obtain ⟨a, h1, h2⟩ := h; exact ⟨a, h1, h2.ext k⟩, fun v A B h k => h.ext k, fun _ _ _ h _ => h, fun v A B h k => h.ext k, trivial⟩
     · refine ⟨?_, ?_, ?_, ?_, trivial⟩ <;> (simp; rfl)
     · repeat
         refine ⟨?_, ?_⟩
         · intro F W5 hF hd hR
           simp [fixedAt] at hF
           obtain ⟨t2, t3, t4, t7⟩ := hF
           simp [Region.binds, Ent.holds] at hd
           refine ⟨fun _ K hK => ?_, by intro g b h hn; first | (cases h; done) | (cases h; exact absurd (by simp [hd]) hn)⟩
           simp only [Ent.holds, List.getD_cons_zero, List.getD_cons_succ] at hK
           have p0' := hR.cell p0
           have p1' := hR.cell p1
           have p2' := hR.cell p2
           have p3' := hR.cell p3
           have p4' := hR.cell p4
           have p5' := hR.cell p5
           have p6' := hR.cell p6
           have x0' := hR.cell x0
           have x1' := hR.cell x1
           have x2' := hR.cell x2
           have x3' := hR.cell x3
           have x4' := hR.cell x4
           have x5' := hR.cell x5
           have a0' := hR.cell a0
           have a1' := hR.cell a1
           have a2' := hR.cell a2
           have a3' := hR.cell a3
           have a4' := hR.cell a4
           go_simp
           first
             | exact hK _ _ rfl (Ext.refl _)
             | (exact hK _ _ ⟨_, rfl, Blk.new _ _ _, hR.size⟩ ((Ext.refl _).alloc _))
             | (go_at_call 27
                with_reducible refine Calls.mono (HD1.out _ hR) ?_
                rintro e w' ⟨a, rfl, ha, hx⟩
                exact hK _ _ ⟨a, rfl, ha⟩ hx)
             | (exact hK _ _ hd (Ext.refl _))
             | (obtain ⟨da, hd1, hd2⟩ := hd
                go_simp
                first | exact hK _ _ hd2 (Ext.refl _) | exact hK _ _ rfl (Ext.refl _))
       exact trivial
     intro X W5 hx hR
     simp only [toldX] at hx
     simp only [fillX, List.setIfInBounds_toArray, List.set_cons_succ, List.set_cons_zero]
     obtain ⟨_, _, h36, h37, ⟨B, e8, hB, hlt⟩, _⟩ := hx
     have H36 := hide h36
     obtain ⟨K1, k1, K2, k2, K3, k3, e36, _⟩ := h36
     rw [e36] at H36
     rw [e8, e36, h37]
     have HB5 := hide hB
     have HWR5 := hide hR
     have HLTB := hide hlt
     have HLTX := hide HBX.out.lt
     clear e8 e36 h37 hB hlt hR p0 p1 p2 p3 p4 p5 p6 x0 x1 x2 x3 x4 x5 a0 a1 a2 a3 a4
     have b0 := cell_heap HB5.out 0 _ rfl
     have gb0 := HB5.out.frozen 0
     have b1 := cell_heap HB5.out 1 _ rfl
     have gb1 := HB5.out.frozen 1
     have b2 := cell_heap HB5.out 2 _ rfl
     have gb2 := HB5.out.frozen 2
     have b3 := cell_heap HB5.out 3 _ rfl
     have gb3 := HB5.out.frozen 3
     have b4 := cell_heap HB5.out 4 _ rfl
     have gb4 := HB5.out.frozen 4
     have b5 := cell_heap HB5.out 5 _ rfl
     have gb5 := HB5.out.frozen 5
     go_upto_region 7 with (fail)
     obtain ⟨W6, hW6⟩ : ∃ V, sets6 W5 B (.int .i64 XD.now) (.slice K1 XD.zones.length k1) (.slice K2 XD.holder.length k2) (.slice K3 XD.squibs.length k3) (.int .i64 XD.siren) (.bool XD.storm) = V := ⟨_, rfl⟩
     have HR6 := hide (show Ext wr W6 by rw [← hW6]; exact HWR5.out.sets HLTB.out _ _ _ _ _ _)
     have HB6 := hide (show Blk W6 B 38 #[.int .i64 XD.now, .slice K1 XD.zones.length k1, .slice K2 XD.holder.length k2, .slice K3 XD.squibs.length k3, .int .i64 XD.siren, .bool XD.storm] by rw [← hW6]; exact HB5.out.sets _ _ _ _ _ _)
     have H366 := hide (show StateO W6 0 (.agg #[.int .i64 XD.now, .slice K1 XD.zones.length k1, .slice K2 XD.holder.length k2, .slice K3 XD.squibs.length k3, .int .i64 XD.siren, .bool XD.storm]) XD by rw [← hW6]; exact H36.out.typed HB5.out (OffB.sets _ _ _ _ _ _))
     have HX6 := hide (HBX.out.ext HR6.out)
     have HKX6 := hide (HKX.out.off (OffB.ext HR6.out))
     have HP6 := hide (HP5.out.ext HR6.out)
     have HW6 := hide (HXW.out.trans HR6.out)
     unfold sets6 at hW6
     rw [hW6]
     clear hW6 HB5 HWR5 H36 b0 b1 b2 b3 b4 b5 gb0 gb1 gb2 gb3 gb4 gb5
     by_cases d0 : D = 0
     ·subst d0
      have HDZ := hide (doE_zero HDD.out)
      have HAO := hide (doE_act HDD.out)
      have HXS := hide (show doneS p σ a = XD by rw [← HXD.out]; exact (doS_eq HDD.out).symm)
      have HMZ := hide (moves_zones HAO.out HDZ.out.2.2)
      have HMQ := hide (moves_squibs HAO.out HDZ.out.2.2)
      have HSTX := hide (stateE_done HSTA.out HAO.out HDZ.out.2.2)
      rw [HXS.out] at HMZ HMQ HSTX
      have HSO := hide (stateE_t.1 HSTA.out).2.1
      have HSX := hide (stateE_t.1 HSTX.out).2.1
      have HSTORM := hide (show XD.storm = true → _ from fun h => storm_after HSTA.out HAO.out HDZ.out.2.2 (by rw [HXS.out]; exact h))
      rw [HXS.out] at HSTORM
      obtain ⟨_, _, _, _, _, _, he, oz, _, oq⟩ := H366.out
      have HZX := hide (show IntsV W6 .i64 (.slice K1 XD.zones.length k1) XD.zones by obtain ⟨u1, u2, u3, hh, i1, i2, i3⟩ := H366.out.v; simp only [Value.agg.injEq, Array.mk.injEq, List.cons.injEq] at hh; rw [hh.2.1]; exact i1)
      have HQX := hide (show IntsV W6 .i64 (.slice K3 XD.squibs.length k3) XD.squibs by obtain ⟨u1, u2, u3, hh, i1, i2, i3⟩ := H366.out.v; simp only [Value.agg.injEq, Array.mk.injEq, List.cons.injEq] at hh; rw [hh.2.2.2.1]; exact i3)
      have HZS := hide (show IntsV W6 .i64 (.slice C1 σ.zones.length e1) σ.zones by obtain ⟨u1, u2, u3, hh, i1, i2, i3⟩ := HKX6.out.v; simp only [Value.agg.injEq, Array.mk.injEq, List.cons.injEq] at hh; rw [hh.2.1]; exact i1)
      have l1 : (((XD.zones.length : Nat) : Int) != ((σ.zones.length : Nat) : Int)) = false := by simp [HMZ.out.1]
      have l2 : (((XD.squibs.length : Nat) : Int) != ((p.squibs.length : Nat) : Int)) = false := by have := HSX.out.lq; simp [this]
      have i1 := HZX.out.rows.2.2.1
      have j1 := HZX.out.rows.2.1
      have i2 := HQX.out.rows.2.2.1
      have j2 := HQX.out.rows.2.1
      have i3 := HZS.out.rows.2.2.1
      have j3 := HZS.out.rows.2.1
      clear he oz oq
      have p0 := cell_heap HP6.out 0 _ rfl
      have p1 := cell_heap HP6.out 1 _ rfl
      have p2 := cell_heap HP6.out 2 _ rfl
      have p3 := cell_heap HP6.out 3 _ rfl
      have p4 := cell_heap HP6.out 4 _ rfl
      have p5 := cell_heap HP6.out 5 _ rfl
      have p6 := cell_heap HP6.out 6 _ rfl
      have y0 := cell_heap HB6.out 0 _ rfl
      have y1 := cell_heap HB6.out 1 _ rfl
      have y2 := cell_heap HB6.out 2 _ rfl
      have y3 := cell_heap HB6.out 3 _ rfl
      have y4 := cell_heap HB6.out 4 _ rfl
      have y5 := cell_heap HB6.out 5 _ rfl
      have z0 := cell_heap HX6.out 0 _ rfl
      have z1 := cell_heap HX6.out 1 _ rfl
      have z2 := cell_heap HX6.out 2 _ rfl
      have z3 := cell_heap HX6.out 3 _ rfl
      have z4 := cell_heap HX6.out 4 _ rfl
      have z5 := cell_heap HX6.out 5 _ rfl
      go_wp2_with fail
      go_loopw [10, 11] (fun v10 _ wr2 => Hid (Ext W6 wr2) ∧ ∃ q : Nat, q ≤ XD.squibs.length ∧ v10 = .int .i64 q) (fun v10 _ _ => XD.squibs.length - (intOf v10).toNat)
      case atStart => exact ⟨hide (Ext.refl _), 0, by omega, rfl⟩
      case round =>
       obtain ⟨HXQ, q, hq, rfl⟩ := hrel
       clear p0 p1 p2 p3 p4 p5 p6 y0 y1 y2 y3 y4 y5 z0 z1 z2 z3 z4 z5
       by_cases h7 : q < XD.squibs.length
       ·by_cases hs : XD.storm = true
        ·have HB7 := hide (HB6.out.ext HXQ.out)
         obtain ⟨bq, oq, sq_, rfl, hltq, hcq0, HVQ⟩ := ints_at ((HQX.out.ext HXQ.out).rows.2.2.2) h7
         have y3 := cell_heap HB7.out 3 _ rfl
         have y5 := cell_heap HB7.out 5 _ rfl
         have y1 := cell_heap HB7.out 1 _ rfl
         rw [hs] at y5
         have HST := hide (HSTORM.out hs)
         have hs1 : (sq_ == 1) = false := by have := HST.out.1 q h7; rw [HVQ.out] at this; simpa using this
         clear hs
         go_wp2_with fail
         clear y1 y3 y5
         go_loopw [11] (fun v11 wr3 => Hid (Ext wr wr3) ∧ ∃ j : Nat, j ≤ XD.zones.length ∧ v11 = .int .i64 j) (fun v11 _ => XD.zones.length - (intOf v11).toNat)
         case atStart => exact ⟨hide (Ext.refl _), 0, by omega, rfl⟩
         case round =>
          obtain ⟨HXK, j, hj, rfl⟩ := hrel
          have HP7 := hide (HP6.out.ext (HXQ.out.trans HXK.out))
          have HB8 := hide (HB7.out.ext HXK.out)
          have HX8 := hide (HX6.out.ext (HXQ.out.trans HXK.out))
          have p0 := cell_heap HP7.out 0 _ rfl
          have p1 := cell_heap HP7.out 1 _ rfl
          have p2 := cell_heap HP7.out 2 _ rfl
          have p3 := cell_heap HP7.out 3 _ rfl
          have p4 := cell_heap HP7.out 4 _ rfl
          have p5 := cell_heap HP7.out 5 _ rfl
          have p6 := cell_heap HP7.out 6 _ rfl
          have y0 := cell_heap HB8.out 0 _ rfl
          have y1 := cell_heap HB8.out 1 _ rfl
          have y2 := cell_heap HB8.out 2 _ rfl
          have y3 := cell_heap HB8.out 3 _ rfl
          have y4 := cell_heap HB8.out 4 _ rfl
          have y5 := cell_heap HB8.out 5 _ rfl
          have z0 := cell_heap HX8.out 0 _ rfl
          have z1 := cell_heap HX8.out 1 _ rfl
          have z2 := cell_heap HX8.out 2 _ rfl
          have z3 := cell_heap HX8.out 3 _ rfl
          have z4 := cell_heap HX8.out 4 _ rfl
          have z5 := cell_heap HX8.out 5 _ rfl
          by_cases h9 : j < XD.zones.length
          ·have h9s : j < σ.zones.length := by have := HMZ.out.1; omega
           obtain ⟨bz, oz, zx, rfl, hltz, hcx, HVX⟩ := ints_at ((HZX.out.ext (HXQ.out.trans HXK.out)).rows.2.2.2) h9
           obtain ⟨bw, ow, zs, rfl, hltw, hcs, HVS⟩ := ints_at ((HZS.out.ext (HXQ.out.trans HXK.out)).rows.2.2.2) h9s
           have hcq := HXK.out.cell hcq0
           have hzx : zx < p.zones.length := by have := (HSX.out.z j h9).2; rw [HVX.out] at this; exact this
           by_cases heq : zx = zs
           ·have t1 : (zx != zs) = false := by simp [heq]
            clear heq
            go_wp2_with fail
            apply wp_region_f (80 :: 81 :: 82 :: 83 :: 84 :: 85 :: 86 :: 87 :: 88 :: 89 :: 90 :: 91 :: 92 :: 93 :: 94 :: 95 :: 96 :: 97 :: 98 :: 99 :: 100 :: 101 :: 102 :: 103 :: 104 :: 105 :: 106 :: 107 :: 108 :: [])
              (.is _ :: .is _ :: .is _ :: .is _ :: .is _ :: .is _ :: .is _ :: .is _ :: .is _ :: .is _ :: .is _ :: .is _ :: .is _ :: .is _ :: .is _ :: .is _ :: .is _ :: .is _ :: .is _ :: .is _ :: .is _ :: .is _ :: .is _ :: .is _ :: .is _ :: .is _ :: .is _ :: .is _ :: .is _ :: [])
              [(3, _), (4, _), (8, _), (10, _), (11, _)]
            · kernel_rfl
            · decide
            · rfl
            · kernel_rfl
            · decide +kernel
            · kernel_rfl
            · kernel_rfl
            · kernel_rfl
            · kernel_rfl
            · rfl
            · exact keepsIs _ rfl
            · refine ⟨?_, ?_, ?_, ?_, ?_, trivial⟩ <;> (simp; rfl)
            · repeat
                refine ⟨?_, ?_⟩
                · intro F W7 hF hd hR
                  simp [fixedAt] at hF
                  obtain ⟨t3, t4, t8, t10, t11⟩ := hF
                  simp [Region.binds, Ent.holds] at hd
                  refine ⟨fun hgd K hK => ?_, by intro g b h hn; first | (cases h; done) | (cases h; refine absurd ?_ hn; simp [hd]; done) | (cases h; exact ⟨rfl, Ext.refl _⟩)⟩
                  first
                    | (refine absurd (hgd _ _ rfl) ?_; simp [hd]; done)
                    | (refine absurd (hgd _ _ rfl) ?_; simp [hd]; simp [undef]; done)
                    | (simp only [Ent.holds, List.getD_cons_zero, List.getD_cons_succ] at hK
                       have p0' := hR.cell p0
                       have p1' := hR.cell p1
                       have p2' := hR.cell p2
                       have p3' := hR.cell p3
                       have p4' := hR.cell p4
                       have p5' := hR.cell p5
                       have p6' := hR.cell p6
                       have y0' := hR.cell y0
                       have y1' := hR.cell y1
                       have y2' := hR.cell y2
                       have y3' := hR.cell y3
                       have y4' := hR.cell y4
                       have y5' := hR.cell y5
                       have z0' := hR.cell z0
                       have z1' := hR.cell z1
                       have z2' := hR.cell z2
                       have z3' := hR.cell z3
                       have z4' := hR.cell z4
                       have z5' := hR.cell z5
                       have hcx' := hR.cell hcx
                       have hcs' := hR.cell hcs
                       have hcq' := hR.cell hcq
                       go_simp
                       first
                         | exact hK _ _ rfl (Ext.refl _)
                         | (go_at_call 25
                            with_reducible refine Calls.mono (HNE.out _ (HW6.out.trans (HXQ.out.trans (HXK.out.trans hR))) zx q hzx) ?_
                            rintro e w' ⟨rfl, hx⟩
                            exact hK _ _ rfl hx))
              exact trivial
            intro X W7 hx hR
            simp only [toldX] at hx
            simp only [fillX, List.setIfInBounds_toArray, List.set_cons_succ, List.set_cons_zero]
            clear p0 p1 p2 p3 p4 p5 p6 y0 y1 y2 y3 y4 y5 z0 z1 z2 z3 z4 z5 hcx hcs hcq
            go_wp2_with fail
            go_roundw
            case rel => exact ⟨hide (HXK.out.trans hR), j + 1, by omega, by go_num⟩
            case measure => simp [intOf]; omega
           ·have t1 : (zx != zs) = true := by simpa using heq
            have HNEQ := hide heq
            clear heq
            by_cases h2 : sq_ = 2
            ·have t2 : (sq_ != 2) = false := by simp [h2]
             clear h2
             go_wp2_with fail
             apply wp_region_f (80 :: 81 :: 82 :: 83 :: 84 :: 85 :: 86 :: 87 :: 88 :: 89 :: 90 :: 91 :: 92 :: 93 :: 94 :: 95 :: 96 :: 97 :: 98 :: 99 :: 100 :: 101 :: 102 :: 103 :: 104 :: 105 :: 106 :: 107 :: 108 :: [])
               (.is _ :: .is _ :: .is _ :: .is _ :: .is _ :: .is _ :: .is _ :: .is _ :: .is _ :: .is _ :: .is _ :: .is _ :: .is _ :: .is _ :: .is _ :: .is _ :: .is _ :: .is _ :: .is _ :: .is _ :: .is _ :: .is _ :: .is _ :: .is _ :: .is _ :: .is _ :: .is _ :: .is _ :: .is _ :: [])
               [(3, _), (4, _), (8, _), (10, _), (11, _)]
             · kernel_rfl
             · decide
             · rfl
             · kernel_rfl
             · decide +kernel
             · kernel_rfl
             · kernel_rfl
             · kernel_rfl
             · kernel_rfl
             · rfl
             · exact keepsIs _ rfl
             · refine ⟨?_, ?_, ?_, ?_, ?_, trivial⟩ <;> (simp; rfl)
             · repeat
                 refine ⟨?_, ?_⟩
                 · intro F W7 hF hd hR
                   simp [fixedAt] at hF
                   obtain ⟨t3, t4, t8, t10, t11⟩ := hF
                   simp [Region.binds, Ent.holds] at hd
                   refine ⟨fun hgd K hK => ?_, by intro g b h hn; first | (cases h; done) | (cases h; refine absurd ?_ hn; simp [hd]; done) | (cases h; exact ⟨rfl, Ext.refl _⟩)⟩
                   first
                     | (refine absurd (hgd _ _ rfl) ?_; simp [hd]; done)
                     | (refine absurd (hgd _ _ rfl) ?_; simp [hd]; simp [undef]; done)
                     | (simp only [Ent.holds, List.getD_cons_zero, List.getD_cons_succ] at hK
                        have p0' := hR.cell p0
                        have p1' := hR.cell p1
                        have p2' := hR.cell p2
                        have p3' := hR.cell p3
                        have p4' := hR.cell p4
                        have p5' := hR.cell p5
                        have p6' := hR.cell p6
                        have y0' := hR.cell y0
                        have y1' := hR.cell y1
                        have y2' := hR.cell y2
                        have y3' := hR.cell y3
                        have y4' := hR.cell y4
                        have y5' := hR.cell y5
                        have z0' := hR.cell z0
                        have z1' := hR.cell z1
                        have z2' := hR.cell z2
                        have z3' := hR.cell z3
                        have z4' := hR.cell z4
                        have z5' := hR.cell z5
                        have hcx' := hR.cell hcx
                        have hcs' := hR.cell hcs
                        have hcq' := hR.cell hcq
                        go_simp
                        first
                          | exact hK _ _ rfl (Ext.refl _)
                          | (go_at_call 25
                             with_reducible refine Calls.mono (HNE.out _ (HW6.out.trans (HXQ.out.trans (HXK.out.trans hR))) zx q hzx) ?_
                             rintro e w' ⟨rfl, hx⟩
                             exact hK _ _ rfl hx))
               exact trivial
             intro X W7 hx hR
             simp only [toldX] at hx
             simp only [fillX, List.setIfInBounds_toArray, List.set_cons_succ, List.set_cons_zero]
             clear p0 p1 p2 p3 p4 p5 p6 y0 y1 y2 y3 y4 y5 z0 z1 z2 z3 z4 z5 hcx hcs hcq
             go_wp2_with fail
             go_roundw
             case rel => exact ⟨hide (HXK.out.trans hR), j + 1, by omega, by go_num⟩
             case measure => simp [intOf]; omega
            ·have t2 : (sq_ != 2) = true := by simpa using h2
             have hnq : nearQ p zx q = false := by
              cases hn : nearQ p zx q with
              | false => rfl
              | true =>
               have := HST.out.2 j q h9s (by rw [HVX.out, HVS.out]; exact HNEQ.out) (by rw [HVX.out]; exact nearQ_t.1 hn)
               rw [HVQ.out] at this
               exact absurd this h2
             clear h2
             go_wp2_with fail
             apply wp_region_f (80 :: 81 :: 82 :: 83 :: 84 :: 85 :: 86 :: 87 :: 88 :: 89 :: 90 :: 91 :: 92 :: 93 :: 94 :: 95 :: 96 :: 97 :: 98 :: 99 :: 100 :: 101 :: 102 :: 103 :: 104 :: 105 :: 106 :: 107 :: 108 :: [])
               (.is _ :: .is _ :: .is _ :: .is _ :: .is _ :: .is _ :: .is _ :: .is _ :: .is _ :: .is _ :: .is _ :: .is _ :: .is _ :: .is _ :: .is _ :: .is _ :: .is _ :: .is _ :: .is _ :: .is _ :: .is _ :: .is _ :: .is _ :: .is _ :: .is _ :: .is _ :: .is _ :: .is _ :: .is _ :: [])
               [(3, _), (4, _), (8, _), (10, _), (11, _)]
             · kernel_rfl
             · decide
             · rfl
             · kernel_rfl
             · decide +kernel
             · kernel_rfl
             · kernel_rfl
             · kernel_rfl
             · kernel_rfl
             · rfl
             · exact keepsIs _ rfl
             · refine ⟨?_, ?_, ?_, ?_, ?_, trivial⟩ <;> (simp; rfl)
             · repeat
                 refine ⟨?_, ?_⟩
                 · intro F W7 hF hd hR
                   simp [fixedAt] at hF
                   obtain ⟨t3, t4, t8, t10, t11⟩ := hF
                   simp [Region.binds, Ent.holds] at hd
                   refine ⟨fun hgd K hK => ?_, by intro g b h hn; first | (cases h; done) | (cases h; refine absurd ?_ hn; simp [hd]; done) | (cases h; exact ⟨rfl, Ext.refl _⟩)⟩
                   first
                     | (refine absurd (hgd _ _ rfl) ?_; simp [hd]; done)
                     | (refine absurd (hgd _ _ rfl) ?_; simp [hd]; simp [undef]; done)
                     | (simp only [Ent.holds, List.getD_cons_zero, List.getD_cons_succ] at hK
                        have p0' := hR.cell p0
                        have p1' := hR.cell p1
                        have p2' := hR.cell p2
                        have p3' := hR.cell p3
                        have p4' := hR.cell p4
                        have p5' := hR.cell p5
                        have p6' := hR.cell p6
                        have y0' := hR.cell y0
                        have y1' := hR.cell y1
                        have y2' := hR.cell y2
                        have y3' := hR.cell y3
                        have y4' := hR.cell y4
                        have y5' := hR.cell y5
                        have z0' := hR.cell z0
                        have z1' := hR.cell z1
                        have z2' := hR.cell z2
                        have z3' := hR.cell z3
                        have z4' := hR.cell z4
                        have z5' := hR.cell z5
                        have hcx' := hR.cell hcx
                        have hcs' := hR.cell hcs
                        have hcq' := hR.cell hcq
                        go_simp
                        first
                          | exact hK _ _ rfl (Ext.refl _)
                          | (go_at_call 25
                             with_reducible refine Calls.mono (HNE.out _ (HW6.out.trans (HXQ.out.trans (HXK.out.trans hR))) zx q hzx) ?_
                             rintro e w' ⟨rfl, hx⟩
                             exact hK _ _ rfl hx))
               exact trivial
             intro X W7 hx hR
             simp only [toldX] at hx
             simp only [fillX, List.setIfInBounds_toArray, List.set_cons_succ, List.set_cons_zero]
             clear p0 p1 p2 p3 p4 p5 p6 y0 y1 y2 y3 y4 y5 z0 z1 z2 z3 z4 z5 hcx hcs hcq
             go_wp2_with fail
             go_roundw
             case rel => exact ⟨hide (HXK.out.trans hR), j + 1, by omega, by go_num⟩
             case measure => simp [intOf]; omega
          ·obtain rfl : j = XD.zones.length := by omega
           go_wp2_with fail
           go_roundw
           case rel => exact ⟨hide (HXQ.out.trans HXK.out), q + 1, by omega, by go_num⟩
           case measure => simp [intOf]; omega
        ·rw [Bool.not_eq_true] at hs
         have HB7 := hide (HB6.out.ext HXQ.out)
         have y3 := cell_heap HB7.out 3 _ rfl
         have y5 := cell_heap HB7.out 5 _ rfl
         rw [hs] at y5
         clear hs
         go_upto_region 20 with (fail)
         clear y3 y5 HB7
         have HBt := hide (HB6.out.ext HXQ.out)
         have HXt := hide (HX6.out.ext HXQ.out)
         have y0 := cell_heap HBt.out 0 _ rfl
         have y1 := cell_heap HBt.out 1 _ rfl
         have y2 := cell_heap HBt.out 2 _ rfl
         have y3 := cell_heap HBt.out 3 _ rfl
         have y4 := cell_heap HBt.out 4 _ rfl
         have y5 := cell_heap HBt.out 5 _ rfl
         have x0 := cell_heap HXt.out 0 _ rfl
         have gx0 := HXt.out.frozen 0
         have x1 := cell_heap HXt.out 1 _ rfl
         have gx1 := HXt.out.frozen 1
         have x2 := cell_heap HXt.out 2 _ rfl
         have gx2 := HXt.out.frozen 2
         have x3 := cell_heap HXt.out 3 _ rfl
         have gx3 := HXt.out.frozen 3
         have x4 := cell_heap HXt.out 4 _ rfl
         have gx4 := HXt.out.frozen 4
         have x5 := cell_heap HXt.out 5 _ rfl
         have gx5 := HXt.out.frozen 5
         go_wp2_with fail
         go_roundw
         case rel =>
          refine ⟨hide ((HW6.out.trans HXQ.out).sets HBS.out.1 (.int .i64 XD.now) (.slice K1 XD.zones.length k1) (.slice K2 XD.holder.length k2) (.slice K3 XD.squibs.length k3) (.int .i64 XD.siren) (.bool XD.storm)), hide ((HOF.out.trans (OffB.ext (HR6.out.trans HXQ.out))).trans (OffB.sets (.int .i64 XD.now) (.slice K1 XD.zones.length k1) (.slice K2 XD.holder.length k2) (.slice K3 XD.squibs.length k3) (.int .i64 XD.siren) (.bool XD.storm))), k + 1, by omega, by go_num, ?_⟩
          exact hide ⟨XD, _, _, _, _, _, _, HSTX.out, HXt.out.sets _ _ _ _ _ _, (KeptS.own (H366.out.ext HXQ.out) HXt.out).off (OffB.sets _ _ _ _ _ _)⟩
         case measure => simp [intOf]; omega
       ·obtain rfl : q = XD.squibs.length := by omega
        have HB7 := hide (HB6.out.ext HXQ.out)
        have y3 := cell_heap HB7.out 3 _ rfl
        go_upto_region 20 with (fail)
        clear y3 HB7
        have HBt := hide (HB6.out.ext HXQ.out)
        have HXt := hide (HX6.out.ext HXQ.out)
        have y0 := cell_heap HBt.out 0 _ rfl
        have y1 := cell_heap HBt.out 1 _ rfl
        have y2 := cell_heap HBt.out 2 _ rfl
        have y3 := cell_heap HBt.out 3 _ rfl
        have y4 := cell_heap HBt.out 4 _ rfl
        have y5 := cell_heap HBt.out 5 _ rfl
        have x0 := cell_heap HXt.out 0 _ rfl
        have gx0 := HXt.out.frozen 0
        have x1 := cell_heap HXt.out 1 _ rfl
        have gx1 := HXt.out.frozen 1
        have x2 := cell_heap HXt.out 2 _ rfl
        have gx2 := HXt.out.frozen 2
        have x3 := cell_heap HXt.out 3 _ rfl
        have gx3 := HXt.out.frozen 3
        have x4 := cell_heap HXt.out 4 _ rfl
        have gx4 := HXt.out.frozen 4
        have x5 := cell_heap HXt.out 5 _ rfl
        have gx5 := HXt.out.frozen 5
        go_wp2_with fail
        go_roundw
        case rel =>
         refine ⟨hide ((HW6.out.trans HXQ.out).sets HBS.out.1 (.int .i64 XD.now) (.slice K1 XD.zones.length k1) (.slice K2 XD.holder.length k2) (.slice K3 XD.squibs.length k3) (.int .i64 XD.siren) (.bool XD.storm)), hide ((HOF.out.trans (OffB.ext (HR6.out.trans HXQ.out))).trans (OffB.sets (.int .i64 XD.now) (.slice K1 XD.zones.length k1) (.slice K2 XD.holder.length k2) (.slice K3 XD.squibs.length k3) (.int .i64 XD.siren) (.bool XD.storm))), k + 1, by omega, by go_num, ?_⟩
         exact hide ⟨XD, _, _, _, _, _, _, HSTX.out, HXt.out.sets _ _ _ _ _ _, (KeptS.own (H366.out.ext HXQ.out) HXt.out).off (OffB.sets _ _ _ _ _ _)⟩
        case measure => simp [intOf]; omega
     ·have hne : (D != 0) = true := by simpa using d0
      clear d0
      go_wp2_with fail
      go_roundw
      case rel => exact ⟨HW6, hide (HOF.out.trans (OffB.ext HR6.out)), k + 1, by omega, by go_num, hide ⟨σ, _, _, _, _, _, _, HSTA.out, HX6.out, HKX6.out⟩⟩
      case measure => simp [intOf]; omega
    ·obtain rfl : k = l.length := by omega
     go_wp2_with fail
     refine (awake_any _).mono ?_
     rintro e w9 ⟨rfl, hx9⟩
     have HX9 := hide (HXW.out.trans hx9)
     clear hx9
     go_wp2_with fail
     go_ret
     exact ⟨rfl, HX9.out⟩
 ·have hne : (E != 0) = true := by simpa using e0
  clear e0
  go_wp2_with fail
  refine (awake_any _).mono ?_
  rintro e w9 ⟨rfl, hx9⟩
  have HX9 := hide (HX.out.trans hx9)
  clear hx9
  go_wp2_with fail
  go_ret
  exact ⟨rfl, HX9.out⟩
theorem own : ownKnob Try.prog.godebug = none := by kernel_rfl
theorem laidOut : laidOutB Try.prog = true := by kernel_rfl
set_option maxRecDepth 100000 in
theorem lifted (os : Os) (started : os.Started) (H : Type) (enc : TypeId × Value → H) :
 ReturnsInHanded {} Try.checked os 10 .any (Rows.padStormsSpec.pre6 enc Try.prog Try.f10 Rows.padStormsRow.domain false) (Rows.padStormsSpec.post enc Try.prog Try.f10 false true false false) := by
 refine returnsInHanded_of_change_sized (C := Try.checked) own started (by kernel_rfl) Try.func10
  (ChangeSpec.witness6 (enc := enc) (C := Try.checked) false ⟨#[], #[.agg #[.slice none 0 0, .slice none 0 0, .slice none 0 0, .slice none 0 0, .slice none 0 0, .int .i64 0, .int .i64 0], .agg #[.int .i64 0, .slice none 0 0, .slice none 0 0, .slice none 0 0, .int .i64 0, .bool false], .slice none 0 0], []⟩ 8 (by kernel_rfl) (by kernel_rfl) (by kernel_rfl) (by kernel_rfl)) ?_
 intro W base args ds gs before hval0 hW hcnd hsz0 _
 have hval : ∀ (j : Nat) t v, Try.f10.params[j]? = some t → args[j]? = some v → Value.okWide Try.prog W .any base t v := hval0
 have hsz : (DataW.weightsEach Try.prog (Try.f10.params.toList ++ Rows.padStormsSpec.plain.varTypes Try.prog) (ds ++ gs)).all (· ≤ reachBytes) = true := hsz0
 have hW' := hW
 obtain ⟨p, q, hA0, hV, rfl, hfz, hnd⟩ := hW
 have hA : DataW.TrodAll enc Try.prog W 0 (fun _ => true) true Try.f10.params.toList args.toList ds p := hA0
 rw [Try.params10] at hA hval hsz
 obtain ⟨v0, vs0, d0, ds0, p0, q0, hargs, rfl, rfl, h0, r0⟩ := trodAll_cons hA
 obtain ⟨v1, vs1, d1, ds1, p1, q1, rfl, rfl, rfl, h1, r1⟩ := trodAll_cons r0
 obtain ⟨v2, vs2, d2, ds2, p2, q2, rfl, rfl, rfl, h2, r2⟩ := trodAll_cons r1
 obtain ⟨rfl, rfl, rfl⟩ := trodAll_nil r2
 obtain rfl : args = #[v0, v1, v2] := by cases args; simp_all
 obtain ⟨rfl, rfl⟩ := trodVars_none hV
 have k0 := h0
 have lt0 : ∀ x ∈ p0, x.block < W.heap.size := by obtain ⟨m, hm⟩ := k0; exact DataW.trod_lt m _ _ _ hm
 obtain ⟨pd0, o0⟩ := open_pad (hval 0 28 v0 rfl rfl) h0
 have k1 := h1
 have lt1 : ∀ x ∈ p1, x.block < W.heap.size := by obtain ⟨m, hm⟩ := k1; exact DataW.trod_lt m _ _ _ hm
 obtain ⟨s1, o1, f1⟩ := open_state (hval 1 38 v1 rfl rfl) h1
 have k2 := h2
 have lt2 : ∀ x ∈ p2, x.block < W.heap.size := by obtain ⟨m, hm⟩ := k2; exact DataW.trod_lt m _ _ _ hm
 obtain ⟨l2, o2⟩ := open_acts (hval 2 43 v2 rfl rfl) h2
 clear hA0 hval0 hsz0
 refine (walk o0 o1 (f1 fun m hm => by have := List.all_eq_true.1 hsz m (DataW.weights_mem_each (j := 1) (t := 38) rfl rfl m hm); simpa using this) o2).mono fun e W' ⟨he, bel⟩ => ?_
 subst he
 exact ⟨_, rfl, _, _, _, [], _, [], hW', trodAll_mk1 (shut_bool Try.underlying4 _), (trodAll_cons_mk (Below.trod laidOut (by kernel_rfl) (of_decide_eq_true (by kernel_rfl)) k0 bel lt0) (trodAll_cons_mk (Below.trod laidOut (by kernel_rfl) (of_decide_eq_true (by kernel_rfl)) k1 bel lt1) (trodAll_cons_mk (Below.trod laidOut (by kernel_rfl) (of_decide_eq_true (by kernel_rfl)) k2 bel lt2) trodAll_mk0))), rfl, bel.frame _, fun h => by cases h⟩
theorem over : Rows.padStormsRow.holds Try.pinned (OpenSpec.ofChange Rows.padStormsSpec) :=
 OpenClaim.holds_of_wide 10 Try.f10 rfl rfl rfl rfl rfl rfl rfl ⟨rfl, rfl, rfl, rfl, rfl⟩ rfl rfl rfl rfl rfl (by kernel_rfl) Try.func10 (by kernel_rfl)
  (of_decide_eq_true (by kernel_rfl)) (by unfold Func.isWrapper; first | (rw [if_pos (by decide +kernel)]; kernel_rfl) | (rw [if_neg (by decide +kernel)]; exact ⟨rfl, rfl⟩))
  (fun os started H enc _ => lifted os started H enc)
end PadStormsLaw
/-- The statement. -/
theorem storms_holds : Rows.PadStormsSaid := PadStormsLaw.over
end Go.Proofs.Ythcnganbnbhhoaa
