/-
  Proves that what Play returns for an act does not depend on acts after it, for any pad, state, acts, and number: 'PadPrefixSaid'. No conditions.
-/
import Derived.Test.YthcnganbnbhhoaaRows
import Derived.Test.YthcnganbnbhhoaaLawP
import Derived.Test.YthcnganbnbhhoaaKept
import Derived.Test.YthcnganbnbhhoaaAwake
import Derived.Test.YthcnganbnbhhoaaOpen
import Derived.Test.YthcnganbnbhhoaaDetE
import Derived.SizedLaws
namespace Go.Proofs.Ythcnganbnbhhoaa
open Go.ChangeShapes Go.WideShapes Go.ChangeAt Go.RowKit Go.Shelf
theorem Blk.pairP (w : World) (t t' : TypeId) (cs ds : Array Value) : Ext w ((w.alloc (.cells cs t)).alloc (.cells ds t')) ∧ Blk ((w.alloc (.cells cs t)).alloc (.cells ds t')) w.heap.size t cs ∧ Blk ((w.alloc (.cells cs t)).alloc (.cells ds t')) (w.heap.size + 1) t' ds := by
 refine ⟨((Ext.refl _).alloc _).alloc _, (Blk.new w t cs).ext ((Ext.refl _).alloc _), ?_⟩
 have := Blk.new (w.alloc (.cells cs t)) t' ds
 rwa [World.size_alloc] at this
/-- The box b holds the state x. -/
def PreX (b : Nat) (x : State) (W : World) : Prop := ∃ C1 e1 C2 e2 C3 e3, Blk W b 38 #[.int .i64 x.now, .slice C1 x.zones.length e1, .slice C2 x.holder.length e2, .slice C3 x.squibs.length e3, .int .i64 x.siren, .bool x.storm] ∧ KeptS b W (.agg #[.int .i64 x.now, .slice C1 x.zones.length e1, .slice C2 x.holder.length e2, .slice C3 x.squibs.length e3, .int .i64 x.siren, .bool x.storm]) x
def ErrO (W : World) (v : Value) (L : List Int) : Prop := ∃ n, Own W 0 29 1 v n (L.map (Value.int .i64))
theorem ErrO.ext {A B : World} {v : Value} {L : List Int} (h : ErrO A v L) (k : Ext A B) : ErrO B v L := by obtain ⟨n, h⟩ := h; exact ⟨n, h.ext k⟩
def BoxZ (N : Nat) (v : Value) (W : World) : Prop := ∃ B, v = .pointer (some ⟨B, 0, none⟩) ∧ Blk W B 38 #[.int .i64 0, .slice none 0 0, .slice none 0 0, .slice none 0 0, .int .i64 0, .bool false] ∧ N ≤ B
theorem BoxZ.ext {N : Nat} {A B : World} {v : Value} (h : BoxZ N v A) (k : Ext A B) : BoxZ N v B := by obtain ⟨g, h1, h2, h3⟩ := h; exact ⟨g, h1, h2.ext k, h3⟩
theorem listV_take {w : World} {A : Option Addr} {n c : Nat} {l : List PAct} (h : ListV 5 PAct.cell w (.slice A n c) l) (k : Nat) (hk : k ≤ l.length) : ListV 5 PAct.cell w (.slice A k c) (l.take k) := by
 obtain ⟨rfl, h1, h2, h3⟩ := h.rows
 have hl : (l.take k).length = k := by rw [List.length_take]; omega
 refine ⟨A, c, by rw [hl], by omega, by simpa [maxLen] using h2, fun hn => ?_⟩
 obtain ⟨b, off, e, hb, hc⟩ := h3 (by omega)
 refine ⟨b, off, e, hb, fun i f hi hf => ?_⟩
 rw [hc i f (by omega) hf]
 simp only [List.getD_eq_getElem?_getD, List.getElem?_take, if_pos (show i < k by omega)]
namespace PadPrefixLaw
set_option maxRecDepth 100000 in
set_option maxHeartbeats 8000000 in
theorem walk {v sv lv : Value} {p : Pad} {s : State} {l : List PAct} {w : World} (hv : PadV w v p) (hs : StateV w sv s) (hf : s.Fits) (hl : ListV 5 PAct.cell w lv l) :
  Calls Try.prog 9 #[v, sv, lv] w fun e w' => e = .returned (.bool true) ∧ Below w.heap.size w w' := by
 have HPL := hide (fun V (hx : Ext w V) (lv : Value) (l : List PAct) (h : ListV 5 PAct.cell V lv l) => play_any v sv lv p s l V (hv.ext hx) (hs.ext hx) h hf)
 have HDO := hide (fun V (hx : Ext w V) (u : Value) (x : State) (a : PAct) (h : StateV V u x) (hfx : x.Fits) => doA_any v u p x a V (hv.ext hx) h hfx)
 have HSV := hide (fun V (hx : Ext w V) => hs.ext hx)
 obtain ⟨X, rfl, hX⟩ := padV_iff.1 hv
 obtain ⟨az, cz, ad, cd, ap, cp, ak, ck, aq, cq⟩ := X
 obtain ⟨A1, c1, A2, c2, A3, c3, rfl, _⟩ := stateV_rows.1 hs
 have HS0 := hide hs
 have HL := hide hl
 obtain ⟨Al, cl, rfl, hcl, hml, _⟩ := hl
 simp only [maxLen] at hml
 unfold PadX.cells at HPL HDO ⊢
 dsimp only at HPL HDO ⊢
 clear hv hs hX hf
 go_enter Try.func9, Try.ntmps9
 go_wp2_with fail
 have HBOX := hide (Blk.pairP w 28 38 #[.slice az p.zones.length cz, .slice ad p.doors.length cd, .slice ap p.people.length cp, .slice ak p.keys.length ck, .slice aq p.squibs.length cq, .int .i64 p.panel, .int .i64 p.wait] #[.int .i64 s.now, .slice A1 s.zones.length c1, .slice A2 s.holder.length c2, .slice A3 s.squibs.length c3, .int .i64 s.siren, .bool s.storm])
 obtain ⟨W1, hW1⟩ : ∃ V, (w.alloc (.cells #[.slice az p.zones.length cz, .slice ad p.doors.length cd, .slice ap p.people.length cp, .slice ak p.keys.length ck, .slice aq p.squibs.length cq, .int .i64 p.panel, .int .i64 p.wait] 28)).alloc (.cells #[.int .i64 s.now, .slice A1 s.zones.length c1, .slice A2 s.holder.length c2, .slice A3 s.squibs.length c3, .int .i64 s.siren, .bool s.storm] 38) = V := ⟨_, rfl⟩
 rw [hW1] at HBOX ⊢
 obtain ⟨HX, HP, HS⟩ := HBOX.out
 clear HBOX hW1
 refine Calls.mono (HPL.out _ HX _ l (HL.out.ext HX)) ?_
 rintro e w2 ⟨u, y, rfl, hu, ⟨n, hy⟩, hx⟩
 replace HX := hide (HX.trans hx)
 replace HP := hide (HP.ext hx)
 replace HS := hide (HS.ext hx)
 obtain ⟨E, hE⟩ : ∃ E, playE p s l = E := ⟨_, rfl⟩
 have HE := hide hE
 rw [hE] at hu hy ⊢
 obtain ⟨S, hS⟩ : ∃ S, (if E = 0 then runS p s l else zeroS) = S := ⟨_, rfl⟩
 rw [hS] at hu
 obtain ⟨L, hL⟩ : ∃ L, (if E = 0 then runE p s l else []) = L := ⟨_, rfl⟩
 rw [hL] at hy
 obtain ⟨B1, d1, B2, d2, B3, d3, rfl, _⟩ := hu
 have HYO := hide (hy.mono (Nat.zero_le _))
 have hhy := hy.ints
 obtain ⟨Ay, cy, rfl, hcy, hmy, _⟩ := hhy
 simp only [maxLen] at hmy
 have HLE := hide hL
 clear hx hy hE hS hL
 by_cases e0 : E = 0
 ·subst e0
  have hL := HLE.out
  rw [if_pos rfl] at hL
  have hlen : (((L.length : Nat) : Int) != ((l.length : Nat) : Int)) = false := by rw [← hL, runE_len]; simp
  have HL1 := hide hL
  have HN := hide (show L.length = l.length by rw [← hL, runE_len])
  clear hL HLE
  have s0 := cell_heap HS.out 0 _ rfl
  have s1 := cell_heap HS.out 1 _ rfl
  have s2 := cell_heap HS.out 2 _ rfl
  have s3 := cell_heap HS.out 3 _ rfl
  have s4 := cell_heap HS.out 4 _ rfl
  have s5 := cell_heap HS.out 5 _ rfl
  have hlts := HS.out.lt
  go_wp2_with fail
  obtain ⟨W3, hW3⟩ : ∃ V, w2.alloc (.cells #[.int .i64 S.now, .slice B1 S.zones.length d1, .slice B2 S.holder.length d2, .slice B3 S.squibs.length d3, .int .i64 S.siren, .bool S.storm] 38) = V := ⟨_, rfl⟩
  have hx3 : Ext w2 W3 := by rw [← hW3]; exact (Ext.refl _).alloc _
  have hsz3 : W3.heap.size = w2.heap.size + 1 := by rw [← hW3, World.size_alloc]
  obtain ⟨W4, hW4⟩ : ∃ V, W3.alloc (.cells #[.int .i64 s.now, .slice A1 s.zones.length c1, .slice A2 s.holder.length c2, .slice A3 s.squibs.length c3, .int .i64 s.siren, .bool s.storm] 38) = V := ⟨_, rfl⟩
  have hx4 : Ext W3 W4 := by rw [← hW4]; exact (Ext.refl _).alloc _
  have HXB := hide (show Blk W4 W3.heap.size 38 #[.int .i64 s.now, .slice A1 s.zones.length c1, .slice A2 s.holder.length c2, .slice A3 s.squibs.length c3, .int .i64 s.siren, .bool s.storm] by rw [← hW4]; exact Blk.new _ _ _)
  rw [hW3, hW4, ← hsz3]
  obtain ⟨bx, hbx⟩ : ∃ b, W3.heap.size = b := ⟨_, rfl⟩
  rw [hbx] at HXB ⊢
  have HWX := hide (show w.heap.size ≤ bx by rw [← hbx]; exact (HX.out.trans hx3).size)
  have HSZP := hide (show w.heap.size ≠ bx ∧ w.heap.size + 1 ≠ bx by rw [← hbx]; have := HS.out.lt; omega)
  have HX4 := hide ((HX.out.trans hx3).trans hx4)
  have HP4 := hide ((HP.out.ext hx3).ext hx4)
  have HS4 := hide ((HS.out.ext hx3).ext hx4)
  have HY4 := hide ((HYO.out.ext hx3).ext hx4)
  have HK4 := hide (KeptS.old HS0.out HX4.out HWX.out)
  clear hW3 hW4 hx3 hx4 hbx hsz3 hlts HX HP HS HYO s0 s1 s2 s3 s4 s5
  go_loopw [11] (fun v11 wr => Hid (Ext w wr) ∧ Hid (OffB bx W4 wr) ∧ ∃ k : Nat, k ≤ l.length ∧ v11 = .int .i64 k ∧ Hid (PreX bx (runS p s (l.take k)) wr)) (fun v11 _ => l.length - (intOf v11).toNat)
  case atStart => exact ⟨HX4, hide ⟨Nat.le_refl _, fun _ _ _ => rfl⟩, 0, by omega, rfl, hide ⟨_, _, _, _, _, _, HXB.out, HK4.out⟩⟩
  case round =>
   obtain ⟨HXW, HOF, k, hk, rfl, HPX⟩ := hrel
   by_cases h8 : k < l.length
   ·have HP5 := hide (HOF.out.blk HP4.out HSZP.out.1)
    have HS5 := hide (HOF.out.blk HS4.out HSZP.out.2)
    obtain ⟨b9, o9, hA, hb9, hc0⟩ := ListV.at ((HL.out.ext HXW.out).rows.2.2.2) h8
    subst hA
    have hk1 : ((k : Nat) : Int) + 1 ≤ (cl : Int) := by omega
    have HLT := hide (show ListV 5 PAct.cell wr (.slice (some ⟨b9, o9, none⟩) (k + 1) cl) (l.take (k + 1)) from listV_take (HL.out.ext HXW.out) (k + 1) (by omega))
    obtain ⟨S1, hS1⟩ : ∃ S1, runS p s (l.take (k + 1)) = S1 := ⟨_, rfl⟩
    obtain ⟨L1, hL1⟩ : ∃ L1, runE p s (l.take (k + 1)) = L1 := ⟨_, rfl⟩
    have HP1 := hide (show ∀ V, Ext wr V → Calls Try.prog 24 #[.agg #[.slice az p.zones.length cz, .slice ad p.doors.length cd, .slice ap p.people.length cp, .slice ak p.keys.length ck, .slice aq p.squibs.length cq, .int .i64 p.panel, .int .i64 p.wait], .agg #[.int .i64 s.now, .slice A1 s.zones.length c1, .slice A2 s.holder.length c2, .slice A3 s.squibs.length c3, .int .i64 s.siren, .bool s.storm], .slice (some ⟨b9, o9, none⟩) (k + 1) cl] V (fun e w' => ∃ a b, e = .returned (.tuple #[a, b, .int .i64 0]) ∧ StateO w' 0 a S1 ∧ ErrO w' b L1 ∧ Ext V w') from fun V hV => by
     refine Calls.mono (HPL.out V (HXW.out.trans hV) _ _ (HLT.out.ext hV)) ?_
     rintro e w' ⟨a, b, rfl, ha, ⟨n, hb⟩, hx⟩
     rw [playE_take HE.out, if_pos rfl] at ha hb
     rw [hS1] at ha
     rw [hL1] at hb
     exact ⟨a, b, by rw [playE_take HE.out], ha.mono (Nat.zero_le _), ⟨n, hb.mono (Nat.zero_le _)⟩, hx⟩)
    have HS1 := hide hS1
    have HLL1 := hide hL1
    clear hS1 hL1
    have p0 := cell_heap HP5.out 0 _ rfl
    have p1 := cell_heap HP5.out 1 _ rfl
    have p2 := cell_heap HP5.out 2 _ rfl
    have p3 := cell_heap HP5.out 3 _ rfl
    have p4 := cell_heap HP5.out 4 _ rfl
    have p5 := cell_heap HP5.out 5 _ rfl
    have p6 := cell_heap HP5.out 6 _ rfl
    have s0 := cell_heap HS5.out 0 _ rfl
    have s1 := cell_heap HS5.out 1 _ rfl
    have s2 := cell_heap HS5.out 2 _ rfl
    have s3 := cell_heap HS5.out 3 _ rfl
    have s4 := cell_heap HS5.out 4 _ rfl
    have s5 := cell_heap HS5.out 5 _ rfl
    go_wp2_with fail
    have h60 := (playE_t.1 HE.out).2.1
    have hw1 : IntKind.i64.wrap (((k : Nat) : Int) + 1) = ((k : Nat) : Int) + 1 := by rw [IntKind.wrap_i64]; omega
    apply wp_region_g [9, 10] 12 [46, 47, 48, 49, 50, 51, 52, 45, 53, 54, 55, 12]
      [.is _, .is _, .is _, .is _, .is _, .is _, .so (fun v W => ∃ a b, v = .tuple #[a, b, .int .i64 0] ∧ StateO W 0 a S1 ∧ ErrO W b L1), .so (fun v W => ∃ a b, v = .tuple #[a, b, .int .i64 0] ∧ StateO W 0 a S1 ∧ ErrO W b L1), .so (fun v W => StateO W 0 v S1), .so (fun v W => ErrO W v L1), .so (fun v _ => v = .int .i64 0), .so (fun v W => BoxZ wr.heap.size v W)]
      [(2, _), (3, _), (4, _), (11, _)]
    · kernel_rfl
    · decide
    · decide
    · rfl
    · kernel_rfl
    · decide +kernel
    · kernel_rfl
    · kernel_rfl
    · kernel_rfl
    · kernel_rfl
    · kernel_rfl
    · kernel_rfl
    · kernel_rfl
    · kernel_rfl
    · kernel_rfl
    · rfl
    · intro c a d v w h; cases d <;> exact h
    · exact ⟨trivial, trivial, trivial, trivial, trivial, trivial, fun v A B h k => by obtain ⟨a, b, h1, h2, h3⟩ := h; exact ⟨a, b, h1, h2.ext k, h3.ext k⟩, fun v A B h k => by obtain ⟨a, b, h1, h2, h3⟩ := h; exact ⟨a, b, h1, h2.ext k, h3.ext k⟩, fun v A B h k => h.ext k, fun v A B h k => h.ext k, fun _ _ _ h _ => h, fun v A B h k => h.ext k, trivial⟩
    · refine ⟨?_, ?_, ?_, ?_, trivial⟩ <;> (simp; rfl)
    · repeat
        refine ⟨?_, ?_⟩
        · intro F W5 hF hd hR
          simp [fixedAt] at hF
          obtain ⟨t2, t3, t4, t11⟩ := hF
          simp [Region.binds, Ent.holds] at hd
          refine ⟨fun _ K hK => ?_, by intro g b h hn; first | (cases h; done) | (cases h; exact absurd (by simp [hd]) hn)⟩
          simp only [Ent.holds, List.getD_cons_zero, List.getD_cons_succ] at hK
          have p0' := hR.cell p0
          have p1' := hR.cell p1
          have p2' := hR.cell p2
          have p3' := hR.cell p3
          have p4' := hR.cell p4
          have p5' := hR.cell p5
          have p6' := hR.cell p6
          have s0' := hR.cell s0
          have s1' := hR.cell s1
          have s2' := hR.cell s2
          have s3' := hR.cell s3
          have s4' := hR.cell s4
          have s5' := hR.cell s5
          go_simp
          first
            | exact hK _ _ rfl (Ext.refl _)
            | (exact hK _ _ ⟨_, rfl, Blk.new _ _ _, hR.size⟩ ((Ext.refl _).alloc _))
            | (go_at_call 24
               with_reducible refine Calls.mono (HP1.out _ hR) ?_
               rintro e w' ⟨a, b, rfl, ha, hb, hx⟩
               exact hK _ _ ⟨a, b, rfl, ha, hb⟩ hx)
            | (exact hK _ _ hd (Ext.refl _))
            | (obtain ⟨da, db, hd1, hd2, hd3⟩ := hd
               go_simp
               first | exact hK _ _ hd2 (Ext.refl _) | exact hK _ _ hd3 (Ext.refl _) | exact hK _ _ rfl (Ext.refl _))
      exact trivial
    intro X W5 hx hR
    simp only [toldX] at hx
    simp only [fillX, List.setIfInBounds_toArray, List.set_cons_succ, List.set_cons_zero]
    clear hw1 p0 p1 p2 p3 p4 p5 p6 s0 s1 s2 s3 s4 s5
    obtain ⟨_, _, h53, h54, h55, ⟨By, e12, hBy, hlty⟩, _⟩ := hx
    have H53 := hide h53
    obtain ⟨G1, g1, G2, g2, G3, g3, e53, _⟩ := h53
    rw [e53] at H53
    rw [e12, e53, h55]
    have HY5 := hide h54
    have HBY := hide hBy
    have HWR5 := hide hR
    have HLTY := hide hlty
    clear e12 e53 h54 h55 hBy hlty hR
    have b0 := cell_heap HBY.out 0 _ rfl
    have gb0 := HBY.out.frozen 0
    have b1 := cell_heap HBY.out 1 _ rfl
    have gb1 := HBY.out.frozen 1
    have b2 := cell_heap HBY.out 2 _ rfl
    have gb2 := HBY.out.frozen 2
    have b3 := cell_heap HBY.out 3 _ rfl
    have gb3 := HBY.out.frozen 3
    have b4 := cell_heap HBY.out 4 _ rfl
    have gb4 := HBY.out.frozen 4
    have b5 := cell_heap HBY.out 5 _ rfl
    have gb5 := HBY.out.frozen 5
    go_upto_region 11 with (fail)
    obtain ⟨W6, hW6⟩ : ∃ V, sets6 W5 By (.int .i64 S1.now) (.slice G1 S1.zones.length g1) (.slice G2 S1.holder.length g2) (.slice G3 S1.squibs.length g3) (.int .i64 S1.siren) (.bool S1.storm) = V := ⟨_, rfl⟩
    have HWR6 := hide (show Ext wr W6 by rw [← hW6]; exact HWR5.out.sets HLTY.out _ _ _ _ _ _)
    have HBY6 := hide (show Blk W6 By 38 #[.int .i64 S1.now, .slice G1 S1.zones.length g1, .slice G2 S1.holder.length g2, .slice G3 S1.squibs.length g3, .int .i64 S1.siren, .bool S1.storm] by rw [← hW6]; exact HBY.out.sets _ _ _ _ _ _)
    have H536 := hide (show StateO W6 0 (.agg #[.int .i64 S1.now, .slice G1 S1.zones.length g1, .slice G2 S1.holder.length g2, .slice G3 S1.squibs.length g3, .int .i64 S1.siren, .bool S1.storm]) S1 by rw [← hW6]; exact H53.out.typed HBY.out (OffB.sets _ _ _ _ _ _))
    have HY6 := hide (show IntsV W6 .i64 (X 54) L1 by rw [← hW6]; obtain ⟨n, h⟩ := HY5.out; exact ((OffB.sets _ _ _ _ _ _).own h HBY.out (by decide)).ints)
    unfold sets6 at hW6
    rw [hW6]
    clear hW6 HY5 H53 HBY HWR5 HLTY b0 b1 b2 b3 b4 b5 gb0 gb1 gb2 gb3 gb4 gb5
    have HWHY := hide (show IntsV wr .i64 (.slice Ay L.length cy) L from (HOF.out.own HY4.out HXB.out (by decide)).ints)
    have HLK := hide (show L1 = L.take (k + 1) by rw [← HLL1.out, runE_pre, HL1.out])
    have hkL : k < L.length := by have := HN.out; omega
    have hky : ((k : Nat) : Int) + 1 ≤ (cy : Int) := by omega
    have HER := hide (errors_self (X 54) (.slice Ay (k + 1) cy) L1 W6 HY6.out (by rw [HLK.out]; exact (HWHY.out.ext HWR6.out).take (k + 1) (by omega)))
    have hw1 : IntKind.i64.wrap (((k : Nat) : Int) + 1) = ((k : Nat) : Int) + 1 := by rw [IntKind.wrap_i64]; omega
    go_wp2_with fail
    refine Calls.mono HER.out ?_
    rintro e w7 ⟨rfl, hx7⟩
    have HWR7 := hide (HWR6.out.trans hx7)
    have HBY7 := hide (HBY6.out.ext hx7)
    have H537 := hide (H536.out.ext hx7)
    clear hx7 HER HWR6 HBY6 H536 HY6 hw1
    obtain ⟨σ, hσ⟩ : ∃ x, runS p s (l.take k) = x := ⟨_, rfl⟩
    rw [hσ] at HPX
    obtain ⟨C1, e1, C2, e2, C3, e3, HBX, HKX⟩ := HPX.out
    have HBX7 := hide (HBX.ext HWR7.out)
    have HKW := hide HKX
    have HKX7 := hide (HKX.off (OffB.ext HWR7.out))
    have HSTA := hide (stateE_run (l := l.take k) (playE_t.1 HE.out).1 fun a ha => actOk_of ((playE_t.1 HE.out).2.2 a (List.mem_of_mem_take ha)))
    rw [hσ] at HSTA
    have HFIT := hide (fits_ok (padOk_of (stateE_t.1 HSTA.out).1) (stateE_t.1 HSTA.out).2.1)
    have HDL := hide (playE_do HE.out h8)
    rw [hσ, HS1.out, HL1.out] at HDL
    obtain ⟨a, ha⟩ : ∃ a, l.getD k default = a := ⟨_, rfl⟩
    rw [ha] at HDL hc0
    obtain ⟨D, hD⟩ : ∃ D, doE p σ a = D := ⟨_, rfl⟩
    obtain ⟨XD, hXD⟩ : ∃ x, doS p σ a = x := ⟨_, rfl⟩
    rw [hD, hXD] at HDL
    have HD1 := hide (show ∀ V, Ext w7 V → Calls Try.prog 27 #[.agg #[.slice az p.zones.length cz, .slice ad p.doors.length cd, .slice ap p.people.length cp, .slice ak p.keys.length ck, .slice aq p.squibs.length cq, .int .i64 p.panel, .int .i64 p.wait], .agg #[.int .i64 σ.now, .slice C1 σ.zones.length e1, .slice C2 σ.holder.length e2, .slice C3 σ.squibs.length e3, .int .i64 σ.siren, .bool σ.storm], .agg #[.int .i64 a.at_, .int .i64 a.kind, .int .i64 a.who, .int .i64 a.what, .int .i64 a.with_]] V (fun e w' => ∃ b, e = .returned (.tuple #[b, .int .i64 D]) ∧ StateO w' 0 b XD ∧ Ext V w') from fun V hV => by
     refine Calls.mono (HDO.out V (HXW.out.trans (HWR7.out.trans hV)) _ σ a (HKX7.out.off (OffB.ext hV)).v HFIT.out) ?_
     rintro e w' ⟨b, rfl, hb, hx⟩
     rw [hXD] at hb
     exact ⟨b, by rw [hD], hb.mono (Nat.zero_le _), hx⟩)
    have a0 := HWR7.out.cell (hc0 0 (by omega))
    have a1 := HWR7.out.cell (hc0 1 (by omega))
    have a2 := HWR7.out.cell (hc0 2 (by omega))
    have a3 := HWR7.out.cell (hc0 3 (by omega))
    have a4 := HWR7.out.cell (hc0 4 (by omega))
    simp only [PAct.cell, Nat.add_zero] at a0 a1 a2 a3 a4
    have HP7 := hide (HP5.out.ext HWR7.out)
    have p0 := cell_heap HP7.out 0 _ rfl
    have p1 := cell_heap HP7.out 1 _ rfl
    have p2 := cell_heap HP7.out 2 _ rfl
    have p3 := cell_heap HP7.out 3 _ rfl
    have p4 := cell_heap HP7.out 4 _ rfl
    have p5 := cell_heap HP7.out 5 _ rfl
    have p6 := cell_heap HP7.out 6 _ rfl
    have x0 := cell_heap HBX7.out 0 _ rfl
    have x1 := cell_heap HBX7.out 1 _ rfl
    have x2 := cell_heap HBX7.out 2 _ rfl
    have x3 := cell_heap HBX7.out 3 _ rfl
    have x4 := cell_heap HBX7.out 4 _ rfl
    have x5 := cell_heap HBX7.out 5 _ rfl
    clear hc0 ha hD hXD hσ HBX HKX HP1
    go_wp2_with fail
    apply wp_region_g [9] 11 [68, 69, 70, 71, 72, 73, 74, 67, 75, 76, 15]
      [.is _, .is _, .is _, .is _, .is _, .is _, .so (fun v W => ∃ a, v = .tuple #[a, .int .i64 D] ∧ StateO W 0 a XD), .so (fun v W => ∃ a, v = .tuple #[a, .int .i64 D] ∧ StateO W 0 a XD), .so (fun v W => StateO W 0 v XD), .so (fun v _ => v = .int .i64 D), .so (fun v W => BoxZ w7.heap.size v W)]
      [(2, _), (3, _), (10, _), (11, _)]
    · kernel_rfl
    · decide
    · decide
    · rfl
    · kernel_rfl
    · decide +kernel
    · kernel_rfl
    · kernel_rfl
    · kernel_rfl
    · kernel_rfl
    · kernel_rfl
    · kernel_rfl
    · kernel_rfl
    · kernel_rfl
    · kernel_rfl
    · rfl
    · intro c a d v w h; cases d <;> exact h
    · exact ⟨trivial, trivial, trivial, trivial, trivial, trivial, fun v A B h k => by obtain ⟨a, h1, h2⟩ := h; exact ⟨a, h1, h2.ext k⟩, fun v A B h k => by obtain ⟨a, h1, h2⟩ := h; exact ⟨a, h1, h2.ext k⟩, fun v A B h k => h.ext k, fun _ _ _ h _ => h, fun v A B h k => h.ext k, trivial⟩
    · refine ⟨?_, ?_, ?_, ?_, trivial⟩ <;> (simp; rfl)
    · repeat
        refine ⟨?_, ?_⟩
        · intro F W8 hF hd hR
          simp [fixedAt] at hF
          obtain ⟨t2, t3, t10, t11⟩ := hF
          simp [Region.binds, Ent.holds] at hd
          refine ⟨fun _ K hK => ?_, by intro g b h hn; first | (cases h; done) | (cases h; exact absurd (by simp [hd]) hn)⟩
          simp only [Ent.holds, List.getD_cons_zero, List.getD_cons_succ] at hK
          have p0' := hR.cell p0
          have p1' := hR.cell p1
          have p2' := hR.cell p2
          have p3' := hR.cell p3
          have p4' := hR.cell p4
          have p5' := hR.cell p5
          have p6' := hR.cell p6
          have x0' := hR.cell x0
          have x1' := hR.cell x1
          have x2' := hR.cell x2
          have x3' := hR.cell x3
          have x4' := hR.cell x4
          have x5' := hR.cell x5
          have a0' := hR.cell a0
          have a1' := hR.cell a1
          have a2' := hR.cell a2
          have a3' := hR.cell a3
          have a4' := hR.cell a4
          go_simp
          first
            | exact hK _ _ rfl (Ext.refl _)
            | (exact hK _ _ ⟨_, rfl, Blk.new _ _ _, hR.size⟩ ((Ext.refl _).alloc _))
            | (go_at_call 27
               with_reducible refine Calls.mono (HD1.out _ hR) ?_
               rintro e w' ⟨a, rfl, ha, hx⟩
               exact hK _ _ ⟨a, rfl, ha⟩ hx)
            | (exact hK _ _ hd (Ext.refl _))
            | (obtain ⟨da, hd1, hd2⟩ := hd
               go_simp
               first | exact hK _ _ hd2 (Ext.refl _) | exact hK _ _ rfl (Ext.refl _))
      exact trivial
    intro X W8 hx hR
    simp only [toldX] at hx
    simp only [fillX, List.setIfInBounds_toArray, List.set_cons_succ, List.set_cons_zero]
    obtain ⟨_, _, h75, h76, ⟨Bz, e15, hBz, hltz⟩, _⟩ := hx
    have H75 := hide h75
    obtain ⟨K1, k1, K2, k2, K3, k3, e75, _⟩ := h75
    rw [e75] at H75
    rw [e15, e75, h76]
    have HBZ := hide hBz
    have HWR8 := hide hR
    have HLTZ := hide hltz
    have HBY8 := hide (HBY7.out.ext hR)
    have H538 := hide (H537.out.ext hR)
    have HBX8 := hide (HBX7.out.ext hR)
    have HLTY := hide HBY7.out.lt
    have HLTX := hide HBX7.out.lt
    clear e15 e75 h76 hBz hltz hR p0 p1 p2 p3 p4 p5 p6 x0 x1 x2 x3 x4 x5 a0 a1 a2 a3 a4 HBY7 H537 HBX7 HKX7 HP7
    have b0 := cell_heap HBZ.out 0 _ rfl
    have gb0 := HBZ.out.frozen 0
    have b1 := cell_heap HBZ.out 1 _ rfl
    have gb1 := HBZ.out.frozen 1
    have b2 := cell_heap HBZ.out 2 _ rfl
    have gb2 := HBZ.out.frozen 2
    have b3 := cell_heap HBZ.out 3 _ rfl
    have gb3 := HBZ.out.frozen 3
    have b4 := cell_heap HBZ.out 4 _ rfl
    have gb4 := HBZ.out.frozen 4
    have b5 := cell_heap HBZ.out 5 _ rfl
    have gb5 := HBZ.out.frozen 5
    go_upto_region 14 with (fail)
    obtain ⟨W9, hW9⟩ : ∃ V, sets6 W8 Bz (.int .i64 XD.now) (.slice K1 XD.zones.length k1) (.slice K2 XD.holder.length k2) (.slice K3 XD.squibs.length k3) (.int .i64 XD.siren) (.bool XD.storm) = V := ⟨_, rfl⟩
    have HW79 := hide (show Ext w7 W9 by rw [← hW9]; exact HWR8.out.sets HLTZ.out _ _ _ _ _ _)
    have HBZ9 := hide (show Blk W9 Bz 38 #[.int .i64 XD.now, .slice K1 XD.zones.length k1, .slice K2 XD.holder.length k2, .slice K3 XD.squibs.length k3, .int .i64 XD.siren, .bool XD.storm] by rw [← hW9]; exact HBZ.out.sets _ _ _ _ _ _)
    have H759 := hide (show StateO W9 0 (.agg #[.int .i64 XD.now, .slice K1 XD.zones.length k1, .slice K2 XD.holder.length k2, .slice K3 XD.squibs.length k3, .int .i64 XD.siren, .bool XD.storm]) XD by rw [← hW9]; exact H75.out.typed HBZ.out (OffB.sets _ _ _ _ _ _))
    have HBY9 := hide (show Blk W9 By 38 #[.int .i64 S1.now, .slice G1 S1.zones.length g1, .slice G2 S1.holder.length g2, .slice G3 S1.squibs.length g3, .int .i64 S1.siren, .bool S1.storm] by rw [← hW9]; exact (OffB.sets _ _ _ _ _ _).blk HBY8.out (by have := HLTY.out; have := HLTZ.out; omega))
    have H539 := hide (show StateO W9 0 (.agg #[.int .i64 S1.now, .slice G1 S1.zones.length g1, .slice G2 S1.holder.length g2, .slice G3 S1.squibs.length g3, .int .i64 S1.siren, .bool S1.storm]) S1 by rw [← hW9]; exact H538.out.typed HBZ.out (OffB.sets _ _ _ _ _ _))
    have HBX9 := hide (show Blk W9 bx 38 #[.int .i64 σ.now, .slice C1 σ.zones.length e1, .slice C2 σ.holder.length e2, .slice C3 σ.squibs.length e3, .int .i64 σ.siren, .bool σ.storm] by rw [← hW9]; exact (OffB.sets _ _ _ _ _ _).blk HBX8.out (by have := HLTX.out; have := HLTZ.out; omega))
    unfold sets6 at hW9
    rw [hW9]
    have HWR9 := hide (HWR7.out.trans HW79.out)
    have HKX9 := hide (show StateV W9 (.agg #[.int .i64 σ.now, .slice C1 σ.zones.length e1, .slice C2 σ.holder.length e2, .slice C3 σ.squibs.length e3, .int .i64 σ.siren, .bool σ.storm]) σ from (HKW.out.off (OffB.ext HWR9.out)).v)
    clear hW9 b0 b1 b2 b3 b4 b5 gb0 gb1 gb2 gb3 gb4 gb5 HBZ HWR8 HBY8 H538 HBX8 H75
    obtain ⟨bw, ow, xw, rfl, hltw, hcw, HVW⟩ := ints_at ((HWHY.out.ext HWR9.out).rows.2.2.2) hkL
    have t1 : (D != xw) = false := by have := HDL.out.1; rw [HVW.out] at this; simp [this]
    have HDX := hide (show (L.getD k 0) = D from HDL.out.1.symm)
    by_cases d0 : D = 0
    ·have t2 : (D == 0) = true := by simp [d0]
     have t3 : (D != 0) = false := by simp [d0]
     have HXS := hide (show XD = S1 by have := HDL.out.2.1; rw [if_pos (by rw [HDX.out]; exact d0)] at this; exact this)
     have HSM := hide (same_self (.agg #[.int .i64 S1.now, .slice G1 S1.zones.length g1, .slice G2 S1.holder.length g2, .slice G3 S1.squibs.length g3, .int .i64 S1.siren, .bool S1.storm]) (.agg #[.int .i64 XD.now, .slice K1 XD.zones.length k1, .slice K2 XD.holder.length k2, .slice K3 XD.squibs.length k3, .int .i64 XD.siren, .bool XD.storm]) S1 W9 H539.out.v (by have := H759.out.v; rw [← HXS.out]; rw [HXS.out] at this ⊢; exact this))
     clear d0
     have x0 := cell_heap HBX9.out 0 _ rfl
     have x1 := cell_heap HBX9.out 1 _ rfl
     have x2 := cell_heap HBX9.out 2 _ rfl
     have x3 := cell_heap HBX9.out 3 _ rfl
     have x4 := cell_heap HBX9.out 4 _ rfl
     have x5 := cell_heap HBX9.out 5 _ rfl
     have y0 := cell_heap HBY9.out 0 _ rfl
     have y1 := cell_heap HBY9.out 1 _ rfl
     have y2 := cell_heap HBY9.out 2 _ rfl
     have y3 := cell_heap HBY9.out 3 _ rfl
     have y4 := cell_heap HBY9.out 4 _ rfl
     have y5 := cell_heap HBY9.out 5 _ rfl
     have z0 := cell_heap HBZ9.out 0 _ rfl
     have z1 := cell_heap HBZ9.out 1 _ rfl
     have z2 := cell_heap HBZ9.out 2 _ rfl
     have z3 := cell_heap HBZ9.out 3 _ rfl
     have z4 := cell_heap HBZ9.out 4 _ rfl
     have z5 := cell_heap HBZ9.out 5 _ rfl
     go_wp2_with fail
     refine Calls.mono HSM.out ?_
     rintro e w10 ⟨rfl, hx10⟩
     have HWR10 := hide (HWR9.out.trans hx10)
     have HBX10 := hide (HBX9.out.ext hx10)
     have HBY10 := hide (HBY9.out.ext hx10)
     have H5310 := hide (H539.out.ext hx10)
     clear hx10 HSM x0 x1 x2 x3 x4 x5 y0 y1 y2 y3 y4 y5 z0 z1 z2 z3 z4 z5
     have x0 := cell_heap HBX10.out 0 _ rfl
     have gx0 := HBX10.out.frozen 0
     have x1 := cell_heap HBX10.out 1 _ rfl
     have gx1 := HBX10.out.frozen 1
     have x2 := cell_heap HBX10.out 2 _ rfl
     have gx2 := HBX10.out.frozen 2
     have x3 := cell_heap HBX10.out 3 _ rfl
     have gx3 := HBX10.out.frozen 3
     have x4 := cell_heap HBX10.out 4 _ rfl
     have gx4 := HBX10.out.frozen 4
     have x5 := cell_heap HBX10.out 5 _ rfl
     have gx5 := HBX10.out.frozen 5
     have y0 := cell_heap HBY10.out 0 _ rfl
     have y1 := cell_heap HBY10.out 1 _ rfl
     have y2 := cell_heap HBY10.out 2 _ rfl
     have y3 := cell_heap HBY10.out 3 _ rfl
     have y4 := cell_heap HBY10.out 4 _ rfl
     have y5 := cell_heap HBY10.out 5 _ rfl
     go_wp2_with fail
     go_roundw
     case rel =>
      refine ⟨hide ((HXW.out.trans HWR10.out).sets HWX.out (.int .i64 S1.now) (.slice G1 S1.zones.length g1) (.slice G2 S1.holder.length g2) (.slice G3 S1.squibs.length g3) (.int .i64 S1.siren) (.bool S1.storm)), hide ((HOF.out.trans (OffB.ext HWR10.out)).trans (OffB.sets (.int .i64 S1.now) (.slice G1 S1.zones.length g1) (.slice G2 S1.holder.length g2) (.slice G3 S1.squibs.length g3) (.int .i64 S1.siren) (.bool S1.storm))), k + 1, by omega, by go_num, ?_⟩
      rw [HS1.out]
      exact hide ⟨_, _, _, _, _, _, HBX10.out.sets _ _ _ _ _ _, (KeptS.own H5310.out HBX10.out).off (OffB.sets _ _ _ _ _ _)⟩
     case measure => simp [intOf]; omega
    ·have t2 : (D == 0) = false := by simpa using d0
     have t3 : (D != 0) = true := by simpa using d0
     have HXS := hide (show S1 = σ from HDL.out.2.2 (by rw [HDX.out]; exact d0))
     have HSM := hide (same_self (.agg #[.int .i64 σ.now, .slice C1 σ.zones.length e1, .slice C2 σ.holder.length e2, .slice C3 σ.squibs.length e3, .int .i64 σ.siren, .bool σ.storm]) (.agg #[.int .i64 S1.now, .slice G1 S1.zones.length g1, .slice G2 S1.holder.length g2, .slice G3 S1.squibs.length g3, .int .i64 S1.siren, .bool S1.storm]) σ W9 HKX9.out (show StateV W9 (.agg #[.int .i64 S1.now, .slice G1 S1.zones.length g1, .slice G2 S1.holder.length g2, .slice G3 S1.squibs.length g3, .int .i64 S1.siren, .bool S1.storm]) σ from by rw [← HXS.out]; exact H539.out.v))
     clear d0
     have x0 := cell_heap HBX9.out 0 _ rfl
     have x1 := cell_heap HBX9.out 1 _ rfl
     have x2 := cell_heap HBX9.out 2 _ rfl
     have x3 := cell_heap HBX9.out 3 _ rfl
     have x4 := cell_heap HBX9.out 4 _ rfl
     have x5 := cell_heap HBX9.out 5 _ rfl
     have y0 := cell_heap HBY9.out 0 _ rfl
     have y1 := cell_heap HBY9.out 1 _ rfl
     have y2 := cell_heap HBY9.out 2 _ rfl
     have y3 := cell_heap HBY9.out 3 _ rfl
     have y4 := cell_heap HBY9.out 4 _ rfl
     have y5 := cell_heap HBY9.out 5 _ rfl
     have z0 := cell_heap HBZ9.out 0 _ rfl
     have z1 := cell_heap HBZ9.out 1 _ rfl
     have z2 := cell_heap HBZ9.out 2 _ rfl
     have z3 := cell_heap HBZ9.out 3 _ rfl
     have z4 := cell_heap HBZ9.out 4 _ rfl
     have z5 := cell_heap HBZ9.out 5 _ rfl
     go_wp2_with fail
     refine Calls.mono HSM.out ?_
     rintro e w10 ⟨rfl, hx10⟩
     have HWR10 := hide (HWR9.out.trans hx10)
     have HBX10 := hide (HBX9.out.ext hx10)
     have HBY10 := hide (HBY9.out.ext hx10)
     have H5310 := hide (H539.out.ext hx10)
     clear hx10 HSM x0 x1 x2 x3 x4 x5 y0 y1 y2 y3 y4 y5 z0 z1 z2 z3 z4 z5
     have x0 := cell_heap HBX10.out 0 _ rfl
     have gx0 := HBX10.out.frozen 0
     have x1 := cell_heap HBX10.out 1 _ rfl
     have gx1 := HBX10.out.frozen 1
     have x2 := cell_heap HBX10.out 2 _ rfl
     have gx2 := HBX10.out.frozen 2
     have x3 := cell_heap HBX10.out 3 _ rfl
     have gx3 := HBX10.out.frozen 3
     have x4 := cell_heap HBX10.out 4 _ rfl
     have gx4 := HBX10.out.frozen 4
     have x5 := cell_heap HBX10.out 5 _ rfl
     have gx5 := HBX10.out.frozen 5
     have y0 := cell_heap HBY10.out 0 _ rfl
     have y1 := cell_heap HBY10.out 1 _ rfl
     have y2 := cell_heap HBY10.out 2 _ rfl
     have y3 := cell_heap HBY10.out 3 _ rfl
     have y4 := cell_heap HBY10.out 4 _ rfl
     have y5 := cell_heap HBY10.out 5 _ rfl
     go_wp2_with fail
     go_roundw
     case rel =>
      refine ⟨hide ((HXW.out.trans HWR10.out).sets HWX.out (.int .i64 S1.now) (.slice G1 S1.zones.length g1) (.slice G2 S1.holder.length g2) (.slice G3 S1.squibs.length g3) (.int .i64 S1.siren) (.bool S1.storm)), hide ((HOF.out.trans (OffB.ext HWR10.out)).trans (OffB.sets (.int .i64 S1.now) (.slice G1 S1.zones.length g1) (.slice G2 S1.holder.length g2) (.slice G3 S1.squibs.length g3) (.int .i64 S1.siren) (.bool S1.storm))), k + 1, by omega, by go_num, ?_⟩
      rw [HS1.out]
      exact hide ⟨_, _, _, _, _, _, HBX10.out.sets _ _ _ _ _ _, (KeptS.own H5310.out HBX10.out).off (OffB.sets _ _ _ _ _ _)⟩
     case measure => simp [intOf]; omega
   ·obtain rfl : k = l.length := by omega
    go_wp2_with fail
    refine (awake_any _).mono ?_
    rintro e w9 ⟨rfl, hx9⟩
    have HX9 := hide (HXW.out.trans hx9)
    clear hx9
    go_wp2_with fail
    go_ret
    exact ⟨rfl, HX9.out⟩
 ·have hne : (E != 0) = true := by simpa using e0
  have HLN := hide (show L = [] by rw [← HLE.out, if_neg e0])
  have hl0 : (((L.length : Nat) : Int) == 0) = true := by rw [HLN.out]; rfl
  clear e0
  go_wp2_with fail
  obtain ⟨W3, hW3⟩ : ∃ V, w2.alloc (.cells #[.int .i64 S.now, .slice B1 S.zones.length d1, .slice B2 S.holder.length d2, .slice B3 S.squibs.length d3, .int .i64 S.siren, .bool S.storm] 38) = V := ⟨_, rfl⟩
  have hx3 : Ext w2 W3 := by rw [← hW3]; exact (Ext.refl _).alloc _
  rw [hW3]
  refine (awake_any _).mono ?_
  rintro e w9 ⟨rfl, hx9⟩
  have HX9 := hide ((HX.out.trans hx3).trans hx9)
  clear hx9
  go_wp2_with fail
  go_ret
  exact ⟨rfl, HX9.out⟩
theorem own : ownKnob Try.prog.godebug = none := by kernel_rfl
theorem laidOut : laidOutB Try.prog = true := by kernel_rfl
set_option maxRecDepth 100000 in
theorem lifted (os : Os) (started : os.Started) (H : Type) (enc : TypeId × Value → H) :
 ReturnsInHanded {} Try.checked os 9 .any (Rows.padPrefixSpec.pre6 enc Try.prog Try.f9 Rows.padPrefixRow.domain false) (Rows.padPrefixSpec.post enc Try.prog Try.f9 false true false false) := by
 refine returnsInHanded_of_change_sized (C := Try.checked) own started (by kernel_rfl) Try.func9
  (ChangeSpec.witness6 (enc := enc) (C := Try.checked) false ⟨#[], #[.agg #[.slice none 0 0, .slice none 0 0, .slice none 0 0, .slice none 0 0, .slice none 0 0, .int .i64 0, .int .i64 0], .agg #[.int .i64 0, .slice none 0 0, .slice none 0 0, .slice none 0 0, .int .i64 0, .bool false], .slice none 0 0], []⟩ 8 (by kernel_rfl) (by kernel_rfl) (by kernel_rfl) (by kernel_rfl)) ?_
 intro W base args ds gs before hval0 hW hcnd hsz0 _
 have hval : ∀ (j : Nat) t v, Try.f9.params[j]? = some t → args[j]? = some v → Value.okWide Try.prog W .any base t v := hval0
 have hsz : (DataW.weightsEach Try.prog (Try.f9.params.toList ++ Rows.padPrefixSpec.plain.varTypes Try.prog) (ds ++ gs)).all (· ≤ reachBytes) = true := hsz0
 have hW' := hW
 obtain ⟨p, q, hA0, hV, rfl, hfz, hnd⟩ := hW
 have hA : DataW.TrodAll enc Try.prog W 0 (fun _ => true) true Try.f9.params.toList args.toList ds p := hA0
 rw [Try.params9] at hA hval hsz
 obtain ⟨v0, vs0, d0, ds0, p0, q0, hargs, rfl, rfl, h0, r0⟩ := trodAll_cons hA
 obtain ⟨v1, vs1, d1, ds1, p1, q1, rfl, rfl, rfl, h1, r1⟩ := trodAll_cons r0
 obtain ⟨v2, vs2, d2, ds2, p2, q2, rfl, rfl, rfl, h2, r2⟩ := trodAll_cons r1
 obtain ⟨rfl, rfl, rfl⟩ := trodAll_nil r2
 obtain rfl : args = #[v0, v1, v2] := by cases args; simp_all
 obtain ⟨rfl, rfl⟩ := trodVars_none hV
 have k0 := h0
 have lt0 : ∀ x ∈ p0, x.block < W.heap.size := by obtain ⟨m, hm⟩ := k0; exact DataW.trod_lt m _ _ _ hm
 obtain ⟨pd0, o0⟩ := open_pad (hval 0 28 v0 rfl rfl) h0
 have k1 := h1
 have lt1 : ∀ x ∈ p1, x.block < W.heap.size := by obtain ⟨m, hm⟩ := k1; exact DataW.trod_lt m _ _ _ hm
 obtain ⟨s1, o1, f1⟩ := open_state (hval 1 38 v1 rfl rfl) h1
 have k2 := h2
 have lt2 : ∀ x ∈ p2, x.block < W.heap.size := by obtain ⟨m, hm⟩ := k2; exact DataW.trod_lt m _ _ _ hm
 obtain ⟨l2, o2⟩ := open_acts (hval 2 43 v2 rfl rfl) h2
 clear hA0 hval0 hsz0
 refine (walk o0 o1 (f1 fun m hm => by have := List.all_eq_true.1 hsz m (DataW.weights_mem_each (j := 1) (t := 38) rfl rfl m hm); simpa using this) o2).mono fun e W' ⟨he, bel⟩ => ?_
 subst he
 exact ⟨_, rfl, _, _, _, [], _, [], hW', trodAll_mk1 (shut_bool Try.underlying4 _), (trodAll_cons_mk (Below.trod laidOut (by kernel_rfl) (of_decide_eq_true (by kernel_rfl)) k0 bel lt0) (trodAll_cons_mk (Below.trod laidOut (by kernel_rfl) (of_decide_eq_true (by kernel_rfl)) k1 bel lt1) (trodAll_cons_mk (Below.trod laidOut (by kernel_rfl) (of_decide_eq_true (by kernel_rfl)) k2 bel lt2) trodAll_mk0))), rfl, bel.frame _, fun h => by cases h⟩
theorem over : Rows.padPrefixRow.holds Try.pinned (OpenSpec.ofChange Rows.padPrefixSpec) :=
 OpenClaim.holds_of_wide 9 Try.f9 rfl rfl rfl rfl rfl rfl rfl ⟨rfl, rfl, rfl, rfl, rfl⟩ rfl rfl rfl rfl rfl (by kernel_rfl) Try.func9 (by kernel_rfl)
  (of_decide_eq_true (by kernel_rfl)) (by unfold Func.isWrapper; first | (rw [if_pos (by decide +kernel)]; kernel_rfl) | (rw [if_neg (by decide +kernel)]; exact ⟨rfl, rfl⟩))
  (fun os started H enc _ => lifted os started H enc)
end PadPrefixLaw
/-- The statement. -/
theorem prefix__holds : Rows.PadPrefixSaid := PadPrefixLaw.over
end Go.Proofs.Ythcnganbnbhhoaa
