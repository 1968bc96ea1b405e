/-
  Proves that a squib can be armed exactly if it is safe, nothing is owed for it, somebody with its grade is in the zone of the panel, there is no storm, and the siren is on for Wait ticks, for any pad, state, squib, and tick: 'PadClearSaid'. No conditions.
-/
import Derived.Test.YthcnganbnbhhoaaRows
import Derived.Test.YthcnganbnbhhoaaLawP
import Derived.Test.YthcnganbnbhhoaaAsk
import Derived.Test.YthcnganbnbhhoaaAwake
import Derived.Test.YthcnganbnbhhoaaOpen
import Derived.SizedLaws
import Derived.Deep.DeepCutAuto
namespace Go.Proofs.Ythcnganbnbhhoaa
open Go.Joins Go.Deep Go.ChangeShapes Go.WideShapes Go.ChangeAt Go.RowKit Go.Shelf
theorem Blk.threeC (w : World) (t t' t'' : TypeId) (cs ds es : Array Value) : Ext w (((w.alloc (.cells cs t)).alloc (.cells ds t')).alloc (.cells es t'')) ∧ Blk (((w.alloc (.cells cs t)).alloc (.cells ds t')).alloc (.cells es t'')) w.heap.size t cs ∧ Blk (((w.alloc (.cells cs t)).alloc (.cells ds t')).alloc (.cells es t'')) (w.heap.size + 1) t' ds ∧ Blk (((w.alloc (.cells cs t)).alloc (.cells ds t')).alloc (.cells es t'')) (w.heap.size + 1 + 1) t'' es := by
 refine ⟨(((Ext.refl _).alloc _).alloc _).alloc _, (Blk.new w t cs).ext (((Ext.refl _).alloc _).alloc _), ?_, ?_⟩
 ·have := (Blk.new (w.alloc (.cells cs t)) t' ds).ext ((Ext.refl _).alloc (.cells es t''))
  rwa [World.size_alloc] at this
 ·have := Blk.new ((w.alloc (.cells cs t)).alloc (.cells ds t')) t'' es
  rwa [World.size_alloc, World.size_alloc] at this
section
variable {H : Type} {enc : TypeId × Value → H} {W : World}
set_option maxRecDepth 100000 in
theorem open_two {w0 : Nat} {v : Value} {d : DataW H} {q : List MemPlace} (hval : Value.okWide Try.prog W .any w0 68 v) (h : DataW.Trod enc Try.prog W 0 (fun _ => true) true 68 v d q) : ∃ x y, v = .agg #[.int .i64 x, .int .i64 y] := by
 have hv := hval
 simp only [Value.okWide, Try.underlying68] at hv
 obtain ⟨cs, rfl, hsz, _⟩ := hv
 obtain ⟨fuel, hf⟩ := h
 obtain ⟨cs⟩ := cs
 have hl : cs.length = 2 := hsz.trans (by kernel_rfl)
 match cs, hl with
 | [c0, c1], _ =>
  obtain ⟨xs, n, _, _, _, hlen, hg⟩ := DataW.trod_array Try.underlying68 hf
  match xs, hlen with
  | [y0, y1], _ =>
   obtain ⟨v0, rfl⟩ := trod_i (enc := enc) (W := W) (n := n) (c := c0) (y := y0) (hg 0 (by omega))
   obtain ⟨v1, rfl⟩ := trod_i (enc := enc) (W := W) (n := n) (c := c1) (y := y1) (hg 1 (by omega))
   exact ⟨v0, v1, rfl⟩
end
def canB (p : Pad) (s : State) (q t : Int) : Bool := decide (s.squibs.getD q.toNat 0 = 0) && (owedL p s q).isEmpty && !s.storm && decide (0 ≤ s.siren) && decide (p.wait ≤ t - s.siren)
def ClearCut (W : World) (b : Bool) (v : Value) (W' : World) : Prop := v = .bool b ∧ Ext W W'
namespace PadClearLaw
set_option maxRecDepth 100000 in
set_option maxHeartbeats 8000000 in
theorem walk {v sv : Value} {p : Pad} {s : State} {w : World} (hv : PadV w v p) (hs : StateV w sv s) (hf : s.Fits) (xq y : Int) :
  Calls Try.prog 11 #[v, sv, .agg #[.int .i64 xq, .int .i64 y]] w fun e w' => e = .returned (.bool true) ∧ Below w.heap.size w w' := by
 have HOW := hide (fun V (hx : Ext w V) => owedX_any v sv p s xq V (hv.ext hx) (hs.ext hx) hf)
 have HDO := hide (fun V (hx : Ext w V) (a : PAct) => doA_any v sv p s a V (hv.ext hx) (hs.ext hx) hf)
 obtain ⟨X, rfl, hX⟩ := padV_iff.1 hv
 have HXP := hide (fun V (hx : Ext w V) => hX.ext hx)
 obtain ⟨az, cz, ad, cd, ap, cp, ak, ck, aq, cq⟩ := X
 obtain ⟨A1, c1, A2, c2, A3, c3, rfl, h1, h2, h3⟩ := stateV_rows.1 hs
 have HI1 := hide h1
 have HI3 := hide h3
 have m1 := h1.rows.2.2.1
 have n1 := h1.rows.2.1
 have m3 := h3.rows.2.2.1
 have n3 := h3.rows.2.1
 have mp := hX.x.rows.2.2.1
 have np := hX.x.rows.2.1
 have mq := hX.q.rows.2.2.1
 have nq := hX.q.rows.2.1
 unfold PadX.cells at HOW HDO ⊢
 dsimp only at HOW HDO HXP mp np mq nq ⊢
 clear hv hs hX hf h1 h2 h3
 go_enter Try.func11, Try.ntmps11
 go_wp2_with fail
 have HBOX := hide (Blk.threeC w 28 38 68 #[.slice az p.zones.length cz, .slice ad p.doors.length cd, .slice ap p.people.length cp, .slice ak p.keys.length ck, .slice aq p.squibs.length cq, .int .i64 p.panel, .int .i64 p.wait] #[.int .i64 s.now, .slice A1 s.zones.length c1, .slice A2 s.holder.length c2, .slice A3 s.squibs.length c3, .int .i64 s.siren, .bool s.storm] #[.int .i64 xq, .int .i64 y])
 obtain ⟨W1, hW1⟩ : ∃ V, ((w.alloc (.cells #[.slice az p.zones.length cz, .slice ad p.doors.length cd, .slice ap p.people.length cp, .slice ak p.keys.length ck, .slice aq p.squibs.length cq, .int .i64 p.panel, .int .i64 p.wait] 28)).alloc (.cells #[.int .i64 s.now, .slice A1 s.zones.length c1, .slice A2 s.holder.length c2, .slice A3 s.squibs.length c3, .int .i64 s.siren, .bool s.storm] 38)).alloc (.cells #[.int .i64 xq, .int .i64 y] 68) = V := ⟨_, rfl⟩
 rw [hW1] at HBOX ⊢
 obtain ⟨HX, HP, HS, HA⟩ := HBOX.out
 clear HBOX hW1
 refine Calls.mono (HOW.out _ HX) ?_
 rintro e w2 ⟨u, rfl, hu, hx⟩
 replace HX := hide (HX.trans hx)
 replace HP := hide (HP.ext hx)
 replace HS := hide (HS.ext hx)
 replace HA := hide (HA.ext hx)
 obtain ⟨E, hE⟩ : ∃ E, owedE p s xq = E := ⟨_, rfl⟩
 have HE := hide hE
 rw [hE] at hu ⊢
 obtain ⟨L, hL⟩ : ∃ L, (if E = 0 then owedL p s xq else []) = L := ⟨_, rfl⟩
 rw [hL] at hu
 have HL := hide hL
 obtain ⟨Au, cu, rfl, hcu, hmu, _⟩ := hu
 simp only [maxLen] at hmu
 clear hx hE hL HOW
 have p0 := cell_heap HP.out 0 _ rfl
 have p1 := cell_heap HP.out 1 _ rfl
 have p2 := cell_heap HP.out 2 _ rfl
 have p3 := cell_heap HP.out 3 _ rfl
 have p4 := cell_heap HP.out 4 _ rfl
 have p5 := cell_heap HP.out 5 _ rfl
 have p6 := cell_heap HP.out 6 _ rfl
 have s0 := cell_heap HS.out 0 _ rfl
 have s1 := cell_heap HS.out 1 _ rfl
 have s2 := cell_heap HS.out 2 _ rfl
 have s3 := cell_heap HS.out 3 _ rfl
 have s4 := cell_heap HS.out 4 _ rfl
 have s5 := cell_heap HS.out 5 _ rfl
 have a0 := cell_heap HA.out 0 _ rfl
 have a1 := cell_heap HA.out 1 _ rfl
 by_cases e0 : E = 0
 ·subst e0
  have HLL := hide (show L = owedL p s xq by rw [← HL.out, if_pos rfl])
  have HS0 := hide (show stateE p s = 0 from by
   have h := HE.out
   unfold owedE at h
   split at h
   ·rename_i h1; exact absurd h h1
   ·rename_i h1; simpa using h1)
  have HB := hide (show 0 ≤ xq ∧ xq < p.squibs.length from by
   have h := HE.out
   unfold owedE at h
   rw [HS0.out, if_neg (by decide)] at h
   split at h
   ·cases h
   ·rename_i h1
    rw [Bool.not_eq_true] at h1
    have := outB_f.1 h1
    omega)
  have HSO := hide (stateE_t.1 HS0.out)
  have HPO := hide (padOk_of HSO.out.1)
  have hb1 := HSO.out.2.1.now
  have hb2 := HSO.out.2.1.siren
  have hb3 := HPO.out.wai
  by_cases y1 : y < s.now
  ·have hd1 : decide (y < s.now) = true := decide_eq_true y1
   clear y1
   go_wp2_with fail
   refine (awake_any _).mono ?_
   rintro e w9 ⟨rfl, hx9⟩
   have HX9 := hide (HX.out.trans hx9)
   clear hx9
   go_wp2_with fail
   go_ret
   exact ⟨rfl, HX9.out⟩
  ·have hd1 : decide (y < s.now) = false := decide_eq_false y1
   by_cases y2 : 100000 < y
   ·have hd2 : decide (100000 < y) = true := decide_eq_true y2
    clear y1 y2
    go_wp2_with fail
    refine (awake_any _).mono ?_
    rintro e w9 ⟨rfl, hx9⟩
    have HX9 := hide (HX.out.trans hx9)
    clear hx9
    go_wp2_with fail
    go_ret
    exact ⟨rfl, HX9.out⟩
   ·have hd2 : decide (100000 < y) = false := decide_eq_false y2
    have hy1 : s.now ≤ y := by omega
    have hy2 : y ≤ 100000 := by omega
    have l1 : (((s.squibs.length : Nat) : Int) != ((p.squibs.length : Nat) : Int)) = false := by have := HSO.out.2.1.lq; simp [this]
    have l2 : (((s.zones.length : Nat) : Int) != ((p.people.length : Nat) : Int)) = false := by have := HSO.out.2.1.lz; simp [this]
    have HLZ := hide HSO.out.2.1.lz
    have HLQ := hide HSO.out.2.1.lq
    obtain ⟨xn, hxn⟩ : ∃ n : Nat, xq = n := ⟨xq.toNat, by have := HB.out; omega⟩
    subst hxn
    have hxl : xn < p.squibs.length := by have := HB.out; omega
    have hxs : xn < s.squibs.length := by have := HLQ.out; omega
    clear y1 y2
    have HIFF := hide (fun (i : Nat) hi => clear_iff HS0.out (q := (xn : Int)) (t := y) (i := i) (by omega) ⟨hy1, hy2⟩ hi)
    obtain ⟨bq, oq, ys, rfl, hltq, hcq, HVQ⟩ := ints_at ((HI3.out.ext HX.out).rows.2.2.2) hxs
    obtain ⟨b5, o5, he5, hb5, hc5⟩ := ListV.at (HXP.out w2 HX.out).q.rows.2.2.2 hxl
    dsimp only at he5
    subst he5
    have d4 := hc5 4 (by omega)
    obtain ⟨qg, hqg⟩ : ∃ g, (p.squibs.getD xn default).1.grade = g := ⟨_, rfl⟩
    have HQG := hide hqg
    simp only [SquibX.cell] at d4
    rw [hqg] at d4
    clear hc5 hqg
    go_upto_region 4 with (fail)
    go_cut [9] (ClearCut w2 (canB p s xn y))
    case first =>
     have HCB := hide (show canB p s (xn : Int) y = (decide (ys = 0) && L.isEmpty && !s.storm && decide (0 ≤ s.siren) && decide (p.wait ≤ y - s.siren)) by unfold canB; rw [Int.toNat_natCast, HVQ.out, HLL.out])
     by_cases t1 : ys = 0
     ·have g1 : (ys == 0) = true := by simp [t1]
      have G1 := hide (decide_eq_true t1)
      clear t1
      cases hem : L.isEmpty with
      | true =>
       have g2 : (((L.length : Nat) : Int) == 0) = true := by rw [List.isEmpty_iff] at hem; rw [hem]; rfl
       have G2 := hide hem
       clear hem
       by_cases hst : s.storm = true
       ·have g3 : (!s.storm) = false := by rw [hst]; rfl
        have G3 := hide hst
        clear hst
        go_wp2_with fail
        go_meet
        exact ⟨by rw [HCB.out, G3.out]; simp, Ext.refl _⟩
       ·rw [Bool.not_eq_true] at hst
        have g3 : (!s.storm) = true := by rw [hst]; rfl
        have G3 := hide hst
        clear hst
        by_cases t4 : 0 ≤ s.siren
        ·have g4 : decide (0 ≤ s.siren) = true := decide_eq_true t4
         have G4 := hide t4
         by_cases t5 : p.wait ≤ y - s.siren
         ·have g5 : decide (p.wait ≤ y - s.siren) = true := decide_eq_true t5
          clear t4 t5
          go_wp2_with fail
          go_meet
          exact ⟨by rw [HCB.out, G1.out, G2.out, G3.out, g4, g5]; rfl, Ext.refl _⟩
         ·have g5 : decide (p.wait ≤ y - s.siren) = false := decide_eq_false t5
          clear t4 t5
          go_wp2_with fail
          go_meet
          exact ⟨by rw [HCB.out, G1.out, G2.out, G3.out, g4, g5]; rfl, Ext.refl _⟩
        ·have g4 : decide (0 ≤ s.siren) = false := decide_eq_false t4
         clear t4
         go_wp2_with fail
         go_meet
         exact ⟨by rw [HCB.out, G1.out, G2.out, G3.out, g4]; rfl, Ext.refl _⟩
      | false =>
       have g2 : (((L.length : Nat) : Int) == 0) = false := by
        cases L with
        | nil => cases hem
        | cons a l => simp; omega
       have G2 := hide hem
       clear hem
       go_wp2_with fail
       go_meet
       exact ⟨by rw [HCB.out, G1.out, G2.out]; simp, Ext.refl _⟩
     ·have g1 : (ys == 0) = false := by simpa using t1
      have G1 := hide (decide_eq_false t1)
      clear t1
      go_wp2_with fail
      go_meet
      exact ⟨by rw [HCB.out, G1.out]; simp, Ext.refl _⟩
    case rest =>
     obtain ⟨rfl, hxc⟩ := hcut
     have HXC := hide (HX.out.trans hxc)
     have HPC := hide (HP.out.ext hxc)
     have HSC := hide (HS.out.ext hxc)
     have HAC := hide (HA.out.ext hxc)
     have e4 := hxc.cell d4
     clear hxc hcq d4 p0 p1 p2 p3 p4 p5 p6 s0 s1 s2 s3 s4 s5 a0 a1
     have HCAN := hide (show canB p s (xn : Int) y = true ↔ (s.squibs.getD xn 0 = 0 ∧ (owedL p s (xn : Int)).isEmpty = true ∧ s.storm = false ∧ 0 ≤ s.siren ∧ p.wait ≤ y - s.siren) from by
      unfold canB
      rw [Int.toNat_natCast]
      simp only [Bool.and_eq_true, decide_eq_true_eq, Bool.not_eq_true', and_assoc])
     obtain ⟨C, hC⟩ : ∃ C, canB p s (xn : Int) y = C := ⟨_, rfl⟩
     rw [hC] at HCAN ⊢
     clear hC
     go_wp2_with fail
     go_loopw [10, 11, 12] (fun v10 _ _ wr => Hid (Ext wc wr) ∧ ∃ k : Nat, k ≤ p.people.length ∧ v10 = .int .i64 k) (fun v10 _ _ _ => p.people.length - (intOf v10).toNat)
     case atStart => exact ⟨hide (Ext.refl _), 0, by omega, rfl⟩
     case round =>
      obtain ⟨HXR, k, hk, rfl⟩ := hrel
      have HP2 := hide (HPC.out.ext HXR.out)
      have HS2 := hide (HSC.out.ext HXR.out)
      have HA2 := hide (HAC.out.ext HXR.out)
      have p0 := cell_heap HP2.out 0 _ rfl
      have p1 := cell_heap HP2.out 1 _ rfl
      have p2 := cell_heap HP2.out 2 _ rfl
      have p3 := cell_heap HP2.out 3 _ rfl
      have p4 := cell_heap HP2.out 4 _ rfl
      have p5 := cell_heap HP2.out 5 _ rfl
      have p6 := cell_heap HP2.out 6 _ rfl
      have s0 := cell_heap HS2.out 0 _ rfl
      have s1 := cell_heap HS2.out 1 _ rfl
      have s2 := cell_heap HS2.out 2 _ rfl
      have s3 := cell_heap HS2.out 3 _ rfl
      have s4 := cell_heap HS2.out 4 _ rfl
      have s5 := cell_heap HS2.out 5 _ rfl
      have a0 := cell_heap HA2.out 0 _ rfl
      have a1 := cell_heap HA2.out 1 _ rfl
      have e4x := HXR.out.cell e4
      by_cases h8 : k < p.people.length
      ·have h8z : k < s.zones.length := by have := HLZ.out; omega
       have HC := hide (HDO.out wr (HXC.out.trans HXR.out) ⟨y, 5, (k : Nat), (xn : Int), -1⟩)
       dsimp only at HC
       have HIF := hide (HIFF.out k h8)
       go_wp2_with fail
       refine Calls.mono HC.out ?_
       rintro e w3 ⟨u3, rfl, hu3, hx⟩
       obtain ⟨D, hD⟩ : ∃ D, doE p s ⟨y, 5, (k : Nat), (xn : Int), -1⟩ = D := ⟨_, rfl⟩
       have HD := hide hD
       rw [hD]
       rw [hD] at HIF
       obtain ⟨x, hxx⟩ : ∃ x, doS p s ⟨y, 5, (k : Nat), (xn : Int), -1⟩ = x := ⟨_, rfl⟩
       rw [hxx] at hu3
       obtain ⟨D1, f1, D2, f2, D3, f3, rfl, _⟩ := hu3
       have HXR3 := hide (HXR.out.trans hx)
       have e43 := hx.cell e4x
       have HP3 := hide (HP2.out.ext hx)
       have HS3 := hide (HS2.out.ext hx)
       have HA3 := hide (HA2.out.ext hx)
       clear hx hD hxx HC e4x p0 p1 p2 p3 p4 p5 p6 s0 s1 s2 s3 s4 s5 a0 a1
       go_upto_region 9 with (fail)
       obtain ⟨W4, hW4⟩ : ∃ V, w3.alloc (.cells #[.int .i64 x.now, .slice D1 x.zones.length f1, .slice D2 x.holder.length f2, .slice D3 x.squibs.length f3, .int .i64 x.siren, .bool x.storm] 38) = V := ⟨_, rfl⟩
       have hx4 : Ext w3 W4 := by rw [← hW4]; exact (Ext.refl _).alloc _
       rw [hW4]
       have e44 := hx4.cell e43
       have HXR4 := hide (HXR3.out.trans hx4)
       have HP4 := hide (HP3.out.ext hx4)
       have HS4 := hide (HS3.out.ext hx4)
       have HA4 := hide (HA3.out.ext hx4)
       clear hW4 hx4 e43
       obtain ⟨bz, oz, zi, rfl, hltz, hcz, HVZ⟩ := ints_at ((HI1.out.ext (HXC.out.trans HXR4.out)).rows.2.2.2) h8z
       obtain ⟨b6, o6, he6, hb6, hc6⟩ := ListV.at (HXP.out W4 (HXC.out.trans HXR4.out)).x.rows.2.2.2 h8
       dsimp only at he6
       subst he6
       have q1 := hc6 1 (by omega)
       simp only [Person.cell] at q1
       obtain ⟨pg, hpg⟩ : ∃ g, (p.people.getD k default).grade = g := ⟨_, rfl⟩
       rw [hpg] at q1
       rw [show personOf p k = p.people.getD k default by unfold personOf; rw [Int.toNat_natCast], hpg, show squibOf p (xn : Int) = (p.squibs.getD xn default).1 by unfold squibOf; rw [Int.toNat_natCast], HQG.out, HVZ.out, Int.toNat_natCast, ← HCAN.out] at HIF
       clear hc6 hpg
       have p0 := cell_heap HP4.out 0 _ rfl
       have p1 := cell_heap HP4.out 1 _ rfl
       have p2 := cell_heap HP4.out 2 _ rfl
       have p3 := cell_heap HP4.out 3 _ rfl
       have p4 := cell_heap HP4.out 4 _ rfl
       have p5 := cell_heap HP4.out 5 _ rfl
       have p6 := cell_heap HP4.out 6 _ rfl
       have s0 := cell_heap HS4.out 0 _ rfl
       have s1 := cell_heap HS4.out 1 _ rfl
       have s2 := cell_heap HS4.out 2 _ rfl
       have s3 := cell_heap HS4.out 3 _ rfl
       have s4 := cell_heap HS4.out 4 _ rfl
       have s5 := cell_heap HS4.out 5 _ rfl
       have a0 := cell_heap HA4.out 0 _ rfl
       have a1 := cell_heap HA4.out 1 _ rfl
       cases C with
       | false =>
        have g1 : (D == 0) = false := by
         have := HIF.out
         simpa using this
        go_quiet (fail)
        go_wp2_with fail
        go_roundw
        case rel => exact ⟨hide (HXR4.out.drewN _), k + 1, by omega, by go_num⟩
        case measure => simp [intOf]; omega
       | true =>
        by_cases c1 : zi = p.panel
        ·have g2 : (zi == p.panel) = true := by simp [c1]
         by_cases c2 : qg ≤ pg
         ·have g3 : decide (qg ≤ pg) = true := decide_eq_true c2
          have g1 : (D == 0) = true := by
           have := HIF.out.2 ⟨rfl, c1, c2⟩
           simp [this]
          clear c1 c2
          go_quiet (fail)
          go_wp2_with fail
          go_roundw
          case rel => exact ⟨hide (HXR4.out.drewN _), k + 1, by omega, by go_num⟩
          case measure => simp [intOf]; omega
         ·have g3 : decide (qg ≤ pg) = false := decide_eq_false c2
          have g1 : (D == 0) = false := by
           simp only [beq_eq_false_iff_ne]
           exact fun h => c2 (HIF.out.1 h).2.2
          clear c1 c2
          go_quiet (fail)
          go_wp2_with fail
          go_roundw
          case rel => exact ⟨hide (HXR4.out.drewN _), k + 1, by omega, by go_num⟩
          case measure => simp [intOf]; omega
        ·have g2 : (zi == p.panel) = false := by simpa using c1
         have g1 : (D == 0) = false := by
          simp only [beq_eq_false_iff_ne]
          exact fun h => c1 (HIF.out.1 h).2.1
         clear c1
         go_quiet (fail)
         go_wp2_with fail
         go_roundw
         case rel => exact ⟨hide (HXR4.out.drewN _), k + 1, by omega, by go_num⟩
         case measure => simp [intOf]; omega
      ·obtain rfl : k = p.people.length := by omega
       go_wp2_with fail
       refine (awake_any _).mono ?_
       rintro e w9 ⟨rfl, hx9⟩
       have HX9 := hide ((HXC.out.trans HXR.out).trans hx9)
       clear hx9
       go_wp2_with fail
       go_ret
       exact ⟨rfl, HX9.out⟩
 ·have hne : (E != 0) = true := by simpa using e0
  clear e0
  go_wp2_with fail
  refine (awake_any _).mono ?_
  rintro e w9 ⟨rfl, hx9⟩
  have HX9 := hide (HX.out.trans hx9)
  clear hx9
  go_wp2_with fail
  go_ret
  exact ⟨rfl, HX9.out⟩
theorem own : ownKnob Try.prog.godebug = none := by kernel_rfl
theorem laidOut : laidOutB Try.prog = true := by kernel_rfl
set_option maxRecDepth 100000 in
theorem lifted (os : Os) (started : os.Started) (H : Type) (enc : TypeId × Value → H) :
 ReturnsInHanded {} Try.checked os 11 .any (Rows.padClearSpec.pre6 enc Try.prog Try.f11 Rows.padClearRow.domain false) (Rows.padClearSpec.post enc Try.prog Try.f11 false true false false) := by
 refine returnsInHanded_of_change_sized (C := Try.checked) own started (by kernel_rfl) Try.func11
  (ChangeSpec.witness6 (enc := enc) (C := Try.checked) false ⟨#[], #[.agg #[.slice none 0 0, .slice none 0 0, .slice none 0 0, .slice none 0 0, .slice none 0 0, .int .i64 0, .int .i64 0], .agg #[.int .i64 0, .slice none 0 0, .slice none 0 0, .slice none 0 0, .int .i64 0, .bool false], .agg #[.int .i64 0, .int .i64 0]], []⟩ 8 (by kernel_rfl) (by kernel_rfl) (by kernel_rfl) (by kernel_rfl)) ?_
 intro W base args ds gs before hval0 hW hcnd hsz0 _
 have hval : ∀ (j : Nat) t v, Try.f11.params[j]? = some t → args[j]? = some v → Value.okWide Try.prog W .any base t v := hval0
 have hsz : (DataW.weightsEach Try.prog (Try.f11.params.toList ++ Rows.padClearSpec.plain.varTypes Try.prog) (ds ++ gs)).all (· ≤ reachBytes) = true := hsz0
 have hW' := hW
 obtain ⟨p, q, hA0, hV, rfl, hfz, hnd⟩ := hW
 have hA : DataW.TrodAll enc Try.prog W 0 (fun _ => true) true Try.f11.params.toList args.toList ds p := hA0
 rw [Try.params11] at hA hval hsz
 obtain ⟨v0, vs0, d0, ds0, p0, q0, hargs, rfl, rfl, h0, r0⟩ := trodAll_cons hA
 obtain ⟨v1, vs1, d1, ds1, p1, q1, rfl, rfl, rfl, h1, r1⟩ := trodAll_cons r0
 obtain ⟨v2, vs2, d2, ds2, p2, q2, rfl, rfl, rfl, h2, r2⟩ := trodAll_cons r1
 obtain ⟨rfl, rfl, rfl⟩ := trodAll_nil r2
 obtain rfl : args = #[v0, v1, v2] := by cases args; simp_all
 obtain ⟨rfl, rfl⟩ := trodVars_none hV
 have k0 := h0
 have lt0 : ∀ x ∈ p0, x.block < W.heap.size := by obtain ⟨m, hm⟩ := k0; exact DataW.trod_lt m _ _ _ hm
 obtain ⟨pd0, o0⟩ := open_pad (hval 0 28 v0 rfl rfl) h0
 have k1 := h1
 have lt1 : ∀ x ∈ p1, x.block < W.heap.size := by obtain ⟨m, hm⟩ := k1; exact DataW.trod_lt m _ _ _ hm
 obtain ⟨s1, o1, f1⟩ := open_state (hval 1 38 v1 rfl rfl) h1
 have k2 := h2
 have lt2 : ∀ x ∈ p2, x.block < W.heap.size := by obtain ⟨m, hm⟩ := k2; exact DataW.trod_lt m _ _ _ hm
 obtain ⟨x2, y2, rfl⟩ := open_two (hval 2 68 v2 rfl rfl) h2
 clear hA0 hval0 hsz0
 refine (walk o0 o1 (f1 fun m hm => by have := List.all_eq_true.1 hsz m (DataW.weights_mem_each (j := 1) (t := 38) rfl rfl m hm); simpa using this) x2 y2).mono fun e W' ⟨he, bel⟩ => ?_
 subst he
 exact ⟨_, rfl, _, _, _, [], _, [], hW', trodAll_mk1 (shut_bool Try.underlying4 _), (trodAll_cons_mk (Below.trod laidOut (by kernel_rfl) (of_decide_eq_true (by kernel_rfl)) k0 bel lt0) (trodAll_cons_mk (Below.trod laidOut (by kernel_rfl) (of_decide_eq_true (by kernel_rfl)) k1 bel lt1) (trodAll_cons_mk (Below.trod laidOut (by kernel_rfl) (of_decide_eq_true (by kernel_rfl)) k2 bel lt2) trodAll_mk0))), rfl, bel.frame _, fun h => by cases h⟩
theorem over : Rows.padClearRow.holds Try.pinned (OpenSpec.ofChange Rows.padClearSpec) :=
 OpenClaim.holds_of_wide 11 Try.f11 rfl rfl rfl rfl rfl rfl rfl ⟨rfl, rfl, rfl, rfl, rfl⟩ rfl rfl rfl rfl rfl (by kernel_rfl) Try.func11 (by kernel_rfl)
  (of_decide_eq_true (by kernel_rfl)) (by unfold Func.isWrapper; first | (rw [if_pos (by decide +kernel)]; kernel_rfl) | (rw [if_neg (by decide +kernel)]; exact ⟨rfl, rfl⟩))
  (fun os started H enc _ => lifted os started H enc)
end PadClearLaw
/-- The statement. -/
theorem clear_holds : Rows.PadClearSaid := PadClearLaw.over
end Go.Proofs.Ythcnganbnbhhoaa
