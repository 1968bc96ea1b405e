/-
  Proves that an act that is not refused changes only what it says: a key moves from the one who does the act, or from the panel; people who do not move stay; squibs that are fired stay so, for any pad, state and act: 'PadMovesSaid'. No conditions.
-/
import Derived.Test.YthcnganbnbhhoaaRows
import Derived.Test.YthcnganbnbhhoaaLawP
import Derived.Test.YthcnganbnbhhoaaAwake
import Derived.Test.YthcnganbnbhhoaaOpen
import Derived.SizedLaws
namespace Go.Proofs.Ythcnganbnbhhoaa
open Go.ChangeShapes Go.WideShapes Go.ChangeAt Go.RowKit Go.Shelf
theorem Blk.three (w : World) (t t' t'' : TypeId) (cs ds es : Array Value) : Ext w (((w.alloc (.cells cs t)).alloc (.cells ds t')).alloc (.cells es t'')) ∧ Blk (((w.alloc (.cells cs t)).alloc (.cells ds t')).alloc (.cells es t'')) w.heap.size t cs ∧ Blk (((w.alloc (.cells cs t)).alloc (.cells ds t')).alloc (.cells es t'')) (w.heap.size + 1) t' ds ∧ Blk (((w.alloc (.cells cs t)).alloc (.cells ds t')).alloc (.cells es t'')) (w.heap.size + 1 + 1) t'' es := by
 refine ⟨(((Ext.refl _).alloc _).alloc _).alloc _, (Blk.new w t cs).ext (((Ext.refl _).alloc _).alloc _), ?_, ?_⟩
 ·have := (Blk.new (w.alloc (.cells cs t)) t' ds).ext ((Ext.refl _).alloc (.cells es t''))
  rwa [World.size_alloc] at this
 ·have := Blk.new ((w.alloc (.cells cs t)).alloc (.cells ds t')) t'' es
  rwa [World.size_alloc, World.size_alloc] at this
namespace PadMovesLaw
set_option maxRecDepth 100000 in
set_option maxHeartbeats 8000000 in
theorem walk {v sv : Value} {p : Pad} {s : State} {w : World} (hv : PadV w v p) (hs : StateV w sv s) (hf : s.Fits) (a : PAct) :
  Calls Try.prog 8 #[v, sv, a.val] w fun e w' => e = .returned (.bool true) ∧ Below w.heap.size w w' := by
 have HDO := hide (fun V (hx : Ext w V) => doA_any v sv p s a V (hv.ext hx) (hs.ext hx) hf)
 obtain ⟨X, rfl, hX⟩ := padV_iff.1 hv
 obtain ⟨az, cz, ad, cd, ap, cp, ak, ck, aq, cq⟩ := X
 obtain ⟨A1, c1, A2, c2, A3, c3, rfl, h1, h2, h3⟩ := stateV_rows.1 hs
 have HI1 := hide h1
 have HI2 := hide h2
 have HI3 := hide h3
 have m1 := h1.rows.2.2.1
 have n1 := h1.rows.2.1
 have m2 := h2.rows.2.2.1
 have n2 := h2.rows.2.1
 have m3 := h3.rows.2.2.1
 have n3 := h3.rows.2.1
 unfold PadX.cells at HDO ⊢
 unfold PAct.val
 dsimp only at HDO ⊢
 clear hv hs hX hf h1 h2 h3
 go_enter Try.func8, Try.ntmps8
 go_wp2_with fail
 have HBOX := hide (Blk.three w 28 38 48 #[.slice az p.zones.length cz, .slice ad p.doors.length cd, .slice ap p.people.length cp, .slice ak p.keys.length ck, .slice aq p.squibs.length cq, .int .i64 p.panel, .int .i64 p.wait] #[.int .i64 s.now, .slice A1 s.zones.length c1, .slice A2 s.holder.length c2, .slice A3 s.squibs.length c3, .int .i64 s.siren, .bool s.storm] #[.int .i64 a.at_, .int .i64 a.kind, .int .i64 a.who, .int .i64 a.what, .int .i64 a.with_])
 obtain ⟨W1, hW1⟩ : ∃ V, ((w.alloc (.cells #[.slice az p.zones.length cz, .slice ad p.doors.length cd, .slice ap p.people.length cp, .slice ak p.keys.length ck, .slice aq p.squibs.length cq, .int .i64 p.panel, .int .i64 p.wait] 28)).alloc (.cells #[.int .i64 s.now, .slice A1 s.zones.length c1, .slice A2 s.holder.length c2, .slice A3 s.squibs.length c3, .int .i64 s.siren, .bool s.storm] 38)).alloc (.cells #[.int .i64 a.at_, .int .i64 a.kind, .int .i64 a.who, .int .i64 a.what, .int .i64 a.with_] 48) = V := ⟨_, rfl⟩
 rw [hW1] at HBOX ⊢
 obtain ⟨HX, HP, HS, HA⟩ := HBOX.out
 clear HBOX hW1
 refine Calls.mono (HDO.out _ HX) ?_
 rintro e w2 ⟨u, rfl, hu, hx⟩
 replace HX := hide (HX.trans hx)
 replace HP := hide (HP.ext hx)
 replace HS := hide (HS.ext hx)
 replace HA := hide (HA.ext hx)
 obtain ⟨E, hE⟩ : ∃ E, doE p s a = E := ⟨_, rfl⟩
 have HE := hide hE
 rw [hE]
 obtain ⟨x, hxx⟩ : ∃ x, doS p s a = x := ⟨_, rfl⟩
 have HXX := hide hxx
 rw [hxx] at hu
 obtain ⟨D1, f1, D2, f2, D3, f3, rfl, o1, o2, o3⟩ := hu
 have HO1 := hide o1.ints
 have HO2 := hide o2.ints
 have HO3 := hide o3.ints
 clear hx hE hxx HDO o1 o2 o3
 by_cases e0 : E = 0
 ·subst e0
  have HD := hide (doE_zero HE.out)
  have HXD := hide (show doneS p s a = x by rw [← HXX.out]; exact (doS_eq HE.out).symm)
  have HSO := hide (stateE_t.1 HD.out.1)
  have HAC := hide (actOk_of HD.out.2.1)
  have HMH := hide (moves_holder HSO.out.2.1 HAC.out HD.out.2.2)
  have HMZ := hide (moves_zones HAC.out HD.out.2.2)
  have HMQ := hide (moves_squibs HAC.out HD.out.2.2)
  have HMR := hide (moves_rest HAC.out HD.out.2.2)
  rw [HXD.out] at HMH HMZ HMQ HMR
  have l1 : (((x.zones.length : Nat) : Int) != ((s.zones.length : Nat) : Int)) = false := by simp [HMZ.out.1]
  have l2 : (((x.holder.length : Nat) : Int) != ((s.holder.length : Nat) : Int)) = false := by simp [HMH.out.1]
  have l3 : (((x.squibs.length : Nat) : Int) != ((s.squibs.length : Nat) : Int)) = false := by simp [HMQ.out.1]
  have i1 := HO1.out.rows.2.2.1
  have j1 := HO1.out.rows.2.1
  have i2 := HO2.out.rows.2.2.1
  have j2 := HO2.out.rows.2.1
  have i3 := HO3.out.rows.2.2.1
  have j3 := HO3.out.rows.2.1
  clear HD HXD HSO HAC HXX HE HP
  have hls := HS.out.lt
  have s0 := cell_heap HS.out 0 _ rfl
  have s1 := cell_heap HS.out 1 _ rfl
  have s2 := cell_heap HS.out 2 _ rfl
  have s3 := cell_heap HS.out 3 _ rfl
  have s4 := cell_heap HS.out 4 _ rfl
  have s5 := cell_heap HS.out 5 _ rfl
  go_wp2_with fail
  obtain ⟨W3, hW3⟩ : ∃ V, w2.alloc (.cells #[.int .i64 x.now, .slice D1 x.zones.length f1, .slice D2 x.holder.length f2, .slice D3 x.squibs.length f3, .int .i64 x.siren, .bool x.storm] 38) = V := ⟨_, rfl⟩
  have hx3 : Ext w2 W3 := by rw [← hW3]; exact (Ext.refl _).alloc _
  have HB := hide (show Blk W3 w2.heap.size 38 #[.int .i64 x.now, .slice D1 x.zones.length f1, .slice D2 x.holder.length f2, .slice D3 x.squibs.length f3, .int .i64 x.siren, .bool x.storm] by rw [← hW3]; exact Blk.new _ _ _)
  rw [hW3]
  have HX3 := hide (HX.out.trans hx3)
  replace HS := hide (HS.out.ext hx3)
  replace HA := hide (HA.out.ext hx3)
  replace HI1 := hide (HI1.out.ext HX3.out)
  replace HI2 := hide (HI2.out.ext HX3.out)
  replace HI3 := hide (HI3.out.ext HX3.out)
  replace HO1 := hide (HO1.out.ext hx3)
  replace HO2 := hide (HO2.out.ext hx3)
  replace HO3 := hide (HO3.out.ext hx3)
  clear hx3 hW3 hls HX s0 s1 s2 s3 s4 s5
  go_loopw [9] (fun v9 wr => Hid (Ext W3 wr) ∧ ∃ k : Nat, k ≤ s.holder.length ∧ v9 = .int .i64 k) (fun v9 _ => s.holder.length - (intOf v9).toNat)
  case atStart => exact ⟨hide (Ext.refl _), 0, by omega, rfl⟩
  case round =>
   obtain ⟨HXR, k, hk, rfl⟩ := hrel
   have HS2 := hide (HS.out.ext HXR.out)
   have HB2 := hide (HB.out.ext HXR.out)
   have HA2 := hide (HA.out.ext HXR.out)
   have s0 := cell_heap HS2.out 0 _ rfl
   have s1 := cell_heap HS2.out 1 _ rfl
   have s2 := cell_heap HS2.out 2 _ rfl
   have s3 := cell_heap HS2.out 3 _ rfl
   have s4 := cell_heap HS2.out 4 _ rfl
   have s5 := cell_heap HS2.out 5 _ rfl
   have x0 := cell_heap HB2.out 0 _ rfl
   have x1 := cell_heap HB2.out 1 _ rfl
   have x2 := cell_heap HB2.out 2 _ rfl
   have x3 := cell_heap HB2.out 3 _ rfl
   have x4 := cell_heap HB2.out 4 _ rfl
   have x5 := cell_heap HB2.out 5 _ rfl
   have a0 := cell_heap HA2.out 0 _ rfl
   have a1 := cell_heap HA2.out 1 _ rfl
   have a2 := cell_heap HA2.out 2 _ rfl
   have a3 := cell_heap HA2.out 3 _ rfl
   have a4 := cell_heap HA2.out 4 _ rfl
   by_cases h8 : k < s.holder.length
   ·have h8x : k < x.holder.length := by have := HMH.out.1; omega
    obtain ⟨b1, o1, hs_, rfl, hlt1, hc1, HVS⟩ := ints_at ((HI2.out.ext HXR.out).rows.2.2.2) h8
    obtain ⟨b2, o2, hx_, rfl, hlt2, hc2, HVX⟩ := ints_at ((HO2.out.ext HXR.out).rows.2.2.2) h8x
    by_cases heq : hx_ = hs_
    ·have hd1 : (hx_ != hs_) = false := by simp [heq]
     have HQ := hide heq
     clear heq
     go_wp2_with fail
     go_quiet (fail)
     go_wp2_with fail
     go_roundw
     case rel => exact ⟨hide (HXR.out.drewN _), k + 1, by omega, by go_num⟩
     case measure => simp [intOf]; omega
    ·have hd1 : (hx_ != hs_) = true := by simp [heq]
     have HF := hide (HMH.out.2 k (by rw [HVX.out, HVS.out]; exact heq))
     have hd3 : (((k : Nat) : Int) != a.what) = false := by simp [HF.out.2.1]
     have HK := hide HF.out.2.2
     have HW := hide HF.out.1
     rw [HVS.out] at HW
     clear heq HF
     by_cases hm : hs_ = -1
     ·have hd2 : (hs_ != -1) = false := by simp [hm]
      clear hm HW
      rcases HK.out with hk2 | hk2 | hk2
      ·have hd4 : (a.kind != 2) = false := by simp [hk2]
       clear hk2 HK
       go_wp2_with fail
       go_quiet (fail)
       go_wp2_with fail
       go_roundw
       case rel => exact ⟨hide (HXR.out.drewN _), k + 1, by omega, by go_num⟩
       case measure => simp [intOf]; omega
      ·have hd4 : (a.kind != 2) = true := by simp [hk2]
       have hd5 : (a.kind != 3) = false := by simp [hk2]
       clear hk2 HK
       go_wp2_with fail
       go_quiet (fail)
       go_wp2_with fail
       go_roundw
       case rel => exact ⟨hide (HXR.out.drewN _), k + 1, by omega, by go_num⟩
       case measure => simp [intOf]; omega
      ·have hd4 : (a.kind != 2) = true := by simp [hk2]
       have hd5 : (a.kind != 3) = true := by simp [hk2]
       have hd6 : (a.kind != 4) = false := by simp [hk2]
       clear hk2 HK
       go_wp2_with fail
       go_quiet (fail)
       go_wp2_with fail
       go_roundw
       case rel => exact ⟨hide (HXR.out.drewN _), k + 1, by omega, by go_num⟩
       case measure => simp [intOf]; omega
     ·have hd2 : (hs_ != -1) = true := by simp [hm]
      have hd7 : (hs_ != a.who) = false := by rcases HW.out with h | h <;> simp [h]; exact absurd h hm
      clear hm HW
      rcases HK.out with hk2 | hk2 | hk2
      ·have hd4 : (a.kind != 2) = false := by simp [hk2]
       clear hk2 HK
       go_wp2_with fail
       go_quiet (fail)
       go_wp2_with fail
       go_roundw
       case rel => exact ⟨hide (HXR.out.drewN _), k + 1, by omega, by go_num⟩
       case measure => simp [intOf]; omega
      ·have hd4 : (a.kind != 2) = true := by simp [hk2]
       have hd5 : (a.kind != 3) = false := by simp [hk2]
       clear hk2 HK
       go_wp2_with fail
       go_quiet (fail)
       go_wp2_with fail
       go_roundw
       case rel => exact ⟨hide (HXR.out.drewN _), k + 1, by omega, by go_num⟩
       case measure => simp [intOf]; omega
      ·have hd4 : (a.kind != 2) = true := by simp [hk2]
       have hd5 : (a.kind != 3) = true := by simp [hk2]
       have hd6 : (a.kind != 4) = false := by simp [hk2]
       clear hk2 HK
       go_wp2_with fail
       go_quiet (fail)
       go_wp2_with fail
       go_roundw
       case rel => exact ⟨hide (HXR.out.drewN _), k + 1, by omega, by go_num⟩
       case measure => simp [intOf]; omega
   ·obtain rfl : k = s.holder.length := by omega
    go_wp2_with fail
    clear HS2 HB2 HA2 s0 s1 s2 s3 s4 s5 x0 x1 x2 x3 x4 x5 a0 a1 a2 a3 a4
    go_loopw [10] (fun v10 wr => Hid (Ext W3 wr) ∧ ∃ k : Nat, k ≤ s.zones.length ∧ v10 = .int .i64 k) (fun v10 _ => s.zones.length - (intOf v10).toNat)
    case atStart => exact ⟨HXR, 0, by omega, rfl⟩
    case round =>
     obtain ⟨HXR, k, hk, rfl⟩ := hrel
     have HS2 := hide (HS.out.ext HXR.out)
     have HB2 := hide (HB.out.ext HXR.out)
     have HA2 := hide (HA.out.ext HXR.out)
     have s0 := cell_heap HS2.out 0 _ rfl
     have s1 := cell_heap HS2.out 1 _ rfl
     have s2 := cell_heap HS2.out 2 _ rfl
     have s3 := cell_heap HS2.out 3 _ rfl
     have s4 := cell_heap HS2.out 4 _ rfl
     have s5 := cell_heap HS2.out 5 _ rfl
     have x0 := cell_heap HB2.out 0 _ rfl
     have x1 := cell_heap HB2.out 1 _ rfl
     have x2 := cell_heap HB2.out 2 _ rfl
     have x3 := cell_heap HB2.out 3 _ rfl
     have x4 := cell_heap HB2.out 4 _ rfl
     have x5 := cell_heap HB2.out 5 _ rfl
     have a0 := cell_heap HA2.out 0 _ rfl
     have a1 := cell_heap HA2.out 1 _ rfl
     have a2 := cell_heap HA2.out 2 _ rfl
     have a3 := cell_heap HA2.out 3 _ rfl
     have a4 := cell_heap HA2.out 4 _ rfl
     by_cases h8 : k < s.zones.length
     ·have h8x : k < x.zones.length := by have := HMZ.out.1; omega
      obtain ⟨b1, o1, hs_, rfl, hlt1, hc1, HVS⟩ := ints_at ((HI1.out.ext HXR.out).rows.2.2.2) h8
      obtain ⟨b2, o2, hx_, rfl, hlt2, hc2, HVX⟩ := ints_at ((HO1.out.ext HXR.out).rows.2.2.2) h8x
      by_cases heq : hx_ = hs_
      ·have hd1 : (hx_ != hs_) = false := by simp [heq]
       have HQ := hide heq
       clear heq
       go_wp2_with fail
       go_quiet (fail)
       go_wp2_with fail
       go_roundw
       case rel => exact ⟨hide (HXR.out.drewN _), k + 1, by omega, by go_num⟩
       case measure => simp [intOf]; omega
      ·have hd1 : (hx_ != hs_) = true := by simp [heq]
       have HF := hide (HMZ.out.2 k h8 (by rw [HVX.out, HVS.out]; exact heq))
       have hd2 : (a.kind != 1) = false := by simp [HF.out.1]
       have hd3 : (hx_ != a.what) = false := by have := HF.out.2.2; rw [HVX.out] at this; simp [this]
       have HW := hide HF.out.2.1
       clear heq HF
       by_cases hm : ((k : Nat) : Int) = a.who
       ·have hd4 : (((k : Nat) : Int) != a.who) = false := by simp [hm]
        clear hm HW
        go_wp2_with fail
        go_quiet (fail)
        go_wp2_with fail
        go_roundw
        case rel => exact ⟨hide (HXR.out.drewN _), k + 1, by omega, by go_num⟩
        case measure => simp [intOf]; omega
       ·have hd4 : (((k : Nat) : Int) != a.who) = true := by simp [hm]
        have hd5 : (((k : Nat) : Int) != a.with_) = false := by rcases HW.out with h | h <;> simp [h]; exact absurd h hm
        clear hm HW
        go_wp2_with fail
        go_quiet (fail)
        go_wp2_with fail
        go_roundw
        case rel => exact ⟨hide (HXR.out.drewN _), k + 1, by omega, by go_num⟩
        case measure => simp [intOf]; omega
     ·obtain rfl : k = s.zones.length := by omega
      go_wp2_with fail
      clear HS2 HB2 HA2 s0 s1 s2 s3 s4 s5 x0 x1 x2 x3 x4 x5 a0 a1 a2 a3 a4
      go_loopw [11] (fun v11 wr => Hid (Ext W3 wr) ∧ ∃ k : Nat, k ≤ s.squibs.length ∧ v11 = .int .i64 k) (fun v11 _ => s.squibs.length - (intOf v11).toNat)
      case atStart => exact ⟨HXR, 0, by omega, rfl⟩
      case round =>
       obtain ⟨HXR, k, hk, rfl⟩ := hrel
       have HS2 := hide (HS.out.ext HXR.out)
       have HB2 := hide (HB.out.ext HXR.out)
       have HA2 := hide (HA.out.ext HXR.out)
       have s0 := cell_heap HS2.out 0 _ rfl
       have s1 := cell_heap HS2.out 1 _ rfl
       have s2 := cell_heap HS2.out 2 _ rfl
       have s3 := cell_heap HS2.out 3 _ rfl
       have s4 := cell_heap HS2.out 4 _ rfl
       have s5 := cell_heap HS2.out 5 _ rfl
       have x0 := cell_heap HB2.out 0 _ rfl
       have x1 := cell_heap HB2.out 1 _ rfl
       have x2 := cell_heap HB2.out 2 _ rfl
       have x3 := cell_heap HB2.out 3 _ rfl
       have x4 := cell_heap HB2.out 4 _ rfl
       have x5 := cell_heap HB2.out 5 _ rfl
       have a0 := cell_heap HA2.out 0 _ rfl
       have a1 := cell_heap HA2.out 1 _ rfl
       have a2 := cell_heap HA2.out 2 _ rfl
       have a3 := cell_heap HA2.out 3 _ rfl
       have a4 := cell_heap HA2.out 4 _ rfl
       by_cases h8 : k < s.squibs.length
       ·have h8x : k < x.squibs.length := by have := HMQ.out.1; omega
        obtain ⟨b1, o1, hs_, rfl, hlt1, hc1, HVS⟩ := ints_at ((HI3.out.ext HXR.out).rows.2.2.2) h8
        obtain ⟨b2, o2, hx_, rfl, hlt2, hc2, HVX⟩ := ints_at ((HO3.out.ext HXR.out).rows.2.2.2) h8x
        by_cases heq : hx_ = hs_
        ·have hd1 : (hx_ != hs_) = false := by simp [heq]
         by_cases h2 : hs_ = 2
         ·have hd2 : (hs_ == 2) = true := by simp [h2]
          have hd3 : (hx_ != 2) = false := by simp [heq, h2]
          have hd4 : (hx_ == 2) = true := by simp [heq, h2]
          have hd5 : (hs_ == 0) = false := by simp [h2]
          clear heq h2
          go_wp2_with fail
          go_quiet (fail)
          go_wp2_with fail
          go_roundw
          case rel => exact ⟨hide (HXR.out.drewN _), k + 1, by omega, by go_num⟩
          case measure => simp [intOf]; omega
         ·have hd2 : (hs_ == 2) = false := by simp [h2]
          have hd3 : (hx_ == 2) = false := by simp [heq, h2]
          clear heq h2
          go_wp2_with fail
          go_quiet (fail)
          go_wp2_with fail
          go_roundw
          case rel => exact ⟨hide (HXR.out.drewN _), k + 1, by omega, by go_num⟩
          case measure => simp [intOf]; omega
        ·have hd1 : (hx_ != hs_) = true := by simp [heq]
         have HF := hide (HMQ.out.2 k h8 (by rw [HVX.out, HVS.out]; exact heq))
         have HF2 := hide HF.out.2
         rw [HVS.out, HVX.out] at HF2
         have hd2 : (hs_ == 2) = false := by simp [HF2.out.1]
         have HW := hide HF.out.1
         clear heq HF
         by_cases h9 : a.kind = 9
         ·have hd6 : (a.kind != 9) = false := by simp [h9]
          clear h9 HW
          by_cases h2 : hx_ = 2
          ·have hd4 : (hx_ == 2) = true := by simp [h2]
           have hd5 : (hs_ == 0) = false := by simp [HF2.out.2 h2]
           clear h2 HF2
           go_wp2_with fail
           go_quiet (fail)
           go_wp2_with fail
           go_roundw
           case rel => exact ⟨hide (HXR.out.drewN _), k + 1, by omega, by go_num⟩
           case measure => simp [intOf]; omega
          ·have hd4 : (hx_ == 2) = false := by simp [h2]
           clear h2 HF2
           go_wp2_with fail
           go_quiet (fail)
           go_wp2_with fail
           go_roundw
           case rel => exact ⟨hide (HXR.out.drewN _), k + 1, by omega, by go_num⟩
           case measure => simp [intOf]; omega
         ·have hd6 : (a.kind != 9) = true := by simp [h9]
          have hd7 : (((k : Nat) : Int) != a.what) = false := by rcases HW.out with h | h <;> simp [h]; exact absurd h h9
          clear h9 HW
          by_cases h2 : hx_ = 2
          ·have hd4 : (hx_ == 2) = true := by simp [h2]
           have hd5 : (hs_ == 0) = false := by simp [HF2.out.2 h2]
           clear h2 HF2
           go_wp2_with fail
           go_quiet (fail)
           go_wp2_with fail
           go_roundw
           case rel => exact ⟨hide (HXR.out.drewN _), k + 1, by omega, by go_num⟩
           case measure => simp [intOf]; omega
          ·have hd4 : (hx_ == 2) = false := by simp [h2]
           clear h2 HF2
           go_wp2_with fail
           go_quiet (fail)
           go_wp2_with fail
           go_roundw
           case rel => exact ⟨hide (HXR.out.drewN _), k + 1, by omega, by go_num⟩
           case measure => simp [intOf]; omega
       ·obtain rfl : k = s.squibs.length := by omega
        by_cases ht : x.storm = s.storm
        ·have hd1 : (x.storm == s.storm) = true := by simp [ht]
         clear ht
         by_cases hi : x.siren = s.siren
         ·have hd2 : (x.siren == s.siren) = true := by simp [hi]
          clear hi
          go_wp2_with fail
          refine (awake_any _).mono ?_
          rintro e w9 ⟨rfl, hx9⟩
          have HX9 := hide ((HX3.out.trans HXR.out).trans hx9)
          clear hx9
          go_wp2_with fail
          go_ret
          exact ⟨rfl, HX9.out⟩
         ·have hd2 : (x.siren == s.siren) = false := by simp [hi]
          have hd3 : (a.kind == 8) = true := by rcases HMR.out.2.1 with h | h <;> simp [h]; exact absurd h hi
          clear hi
          go_wp2_with fail
          refine (awake_any _).mono ?_
          rintro e w9 ⟨rfl, hx9⟩
          have HX9 := hide ((HX3.out.trans HXR.out).trans hx9)
          clear hx9
          go_wp2_with fail
          go_ret
          exact ⟨rfl, HX9.out⟩
        ·have hd1 : (x.storm == s.storm) = false := by simpa using ht
         have hd4 : (a.kind == 9) = true := by rcases HMR.out.1 with h | h <;> simp [h]; exact absurd h ht
         clear ht
         by_cases hi : x.siren = s.siren
         ·have hd2 : (x.siren == s.siren) = true := by simp [hi]
          clear hi
          go_wp2_with fail
          refine (awake_any _).mono ?_
          rintro e w9 ⟨rfl, hx9⟩
          have HX9 := hide ((HX3.out.trans HXR.out).trans hx9)
          clear hx9
          go_wp2_with fail
          go_ret
          exact ⟨rfl, HX9.out⟩
         ·have hd2 : (x.siren == s.siren) = false := by simp [hi]
          have hd3 : (a.kind == 8) = true := by rcases HMR.out.2.1 with h | h <;> simp [h]; exact absurd h hi
          clear hi
          go_wp2_with fail
          refine (awake_any _).mono ?_
          rintro e w9 ⟨rfl, hx9⟩
          have HX9 := hide ((HX3.out.trans HXR.out).trans hx9)
          clear hx9
          go_wp2_with fail
          go_ret
          exact ⟨rfl, HX9.out⟩
 ·have hne : (E != 0) = true := by simpa using e0
  clear e0
  go_wp2_with fail
  obtain ⟨W3, hW3⟩ : ∃ V, w2.alloc (.cells #[.int .i64 x.now, .slice D1 x.zones.length f1, .slice D2 x.holder.length f2, .slice D3 x.squibs.length f3, .int .i64 x.siren, .bool x.storm] 38) = V := ⟨_, rfl⟩
  have hx3 : Ext w2 W3 := by rw [← hW3]; exact (Ext.refl _).alloc _
  rw [hW3]
  refine (awake_any _).mono ?_
  rintro e w9 ⟨rfl, hx9⟩
  have HX9 := hide ((HX.out.trans hx3).trans hx9)
  clear hx9
  go_wp2_with fail
  go_ret
  exact ⟨rfl, HX9.out⟩
theorem own : ownKnob Try.prog.godebug = none := by kernel_rfl
theorem laidOut : laidOutB Try.prog = true := by kernel_rfl
set_option maxRecDepth 100000 in
theorem lifted (os : Os) (started : os.Started) (H : Type) (enc : TypeId × Value → H) :
 ReturnsInHanded {} Try.checked os 8 .any (Rows.padMovesSpec.pre6 enc Try.prog Try.f8 Rows.padMovesRow.domain false) (Rows.padMovesSpec.post enc Try.prog Try.f8 false true false false) := by
 refine returnsInHanded_of_change_sized (C := Try.checked) own started (by kernel_rfl) Try.func8
  (ChangeSpec.witness6 (enc := enc) (C := Try.checked) false ⟨#[], #[.agg #[.slice none 0 0, .slice none 0 0, .slice none 0 0, .slice none 0 0, .slice none 0 0, .int .i64 0, .int .i64 0], .agg #[.int .i64 0, .slice none 0 0, .slice none 0 0, .slice none 0 0, .int .i64 0, .bool false], .agg #[.int .i64 0, .int .i64 0, .int .i64 0, .int .i64 0, .int .i64 0]], []⟩ 8 (by kernel_rfl) (by kernel_rfl) (by kernel_rfl) (by kernel_rfl)) ?_
 intro W base args ds gs before hval0 hW hcnd hsz0 _
 have hval : ∀ (j : Nat) t v, Try.f8.params[j]? = some t → args[j]? = some v → Value.okWide Try.prog W .any base t v := hval0
 have hsz : (DataW.weightsEach Try.prog (Try.f8.params.toList ++ Rows.padMovesSpec.plain.varTypes Try.prog) (ds ++ gs)).all (· ≤ reachBytes) = true := hsz0
 have hW' := hW
 obtain ⟨p, q, hA0, hV, rfl, hfz, hnd⟩ := hW
 have hA : DataW.TrodAll enc Try.prog W 0 (fun _ => true) true Try.f8.params.toList args.toList ds p := hA0
 rw [Try.params8] at hA hval hsz
 obtain ⟨v0, vs0, d0, ds0, p0, q0, hargs, rfl, rfl, h0, r0⟩ := trodAll_cons hA
 obtain ⟨v1, vs1, d1, ds1, p1, q1, rfl, rfl, rfl, h1, r1⟩ := trodAll_cons r0
 obtain ⟨v2, vs2, d2, ds2, p2, q2, rfl, rfl, rfl, h2, r2⟩ := trodAll_cons r1
 obtain ⟨rfl, rfl, rfl⟩ := trodAll_nil r2
 obtain rfl : args = #[v0, v1, v2] := by cases args; simp_all
 obtain ⟨rfl, rfl⟩ := trodVars_none hV
 have k0 := h0
 have lt0 : ∀ x ∈ p0, x.block < W.heap.size := by obtain ⟨m, hm⟩ := k0; exact DataW.trod_lt m _ _ _ hm
 obtain ⟨pd0, o0⟩ := open_pad (hval 0 28 v0 rfl rfl) h0
 have k1 := h1
 have lt1 : ∀ x ∈ p1, x.block < W.heap.size := by obtain ⟨m, hm⟩ := k1; exact DataW.trod_lt m _ _ _ hm
 obtain ⟨s1, o1, f1⟩ := open_state (hval 1 38 v1 rfl rfl) h1
 have k2 := h2
 have lt2 : ∀ x ∈ p2, x.block < W.heap.size := by obtain ⟨m, hm⟩ := k2; exact DataW.trod_lt m _ _ _ hm
 obtain ⟨a2, rfl⟩ := open_actV (hval 2 48 v2 rfl rfl) h2
 clear hA0 hval0 hsz0
 refine (walk o0 o1 (f1 fun m hm => by have := List.all_eq_true.1 hsz m (DataW.weights_mem_each (j := 1) (t := 38) rfl rfl m hm); simpa using this) a2).mono fun e W' ⟨he, bel⟩ => ?_
 subst he
 exact ⟨_, rfl, _, _, _, [], _, [], hW', trodAll_mk1 (shut_bool Try.underlying4 _), (trodAll_cons_mk (Below.trod laidOut (by kernel_rfl) (of_decide_eq_true (by kernel_rfl)) k0 bel lt0) (trodAll_cons_mk (Below.trod laidOut (by kernel_rfl) (of_decide_eq_true (by kernel_rfl)) k1 bel lt1) (trodAll_cons_mk (Below.trod laidOut (by kernel_rfl) (of_decide_eq_true (by kernel_rfl)) k2 bel lt2) trodAll_mk0))), rfl, bel.frame _, fun h => by cases h⟩
theorem over : Rows.padMovesRow.holds Try.pinned (OpenSpec.ofChange Rows.padMovesSpec) :=
 OpenClaim.holds_of_wide 8 Try.f8 rfl rfl rfl rfl rfl rfl rfl ⟨rfl, rfl, rfl, rfl, rfl⟩ rfl rfl rfl rfl rfl (by kernel_rfl) Try.func8 (by kernel_rfl)
  (of_decide_eq_true (by kernel_rfl)) (by unfold Func.isWrapper; first | (rw [if_pos (by decide +kernel)]; kernel_rfl) | (rw [if_neg (by decide +kernel)]; exact ⟨rfl, rfl⟩))
  (fun os started H enc _ => lifted os started H enc)
end PadMovesLaw
/-- The statement. -/
theorem moves_holds : Rows.PadMovesSaid := PadMovesLaw.over
end Go.Proofs.Ythcnganbnbhhoaa
