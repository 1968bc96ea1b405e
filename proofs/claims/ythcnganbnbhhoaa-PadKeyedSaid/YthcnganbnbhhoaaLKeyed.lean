/-
  Proves that in a sound state each person in a zone near a squib that is not fired holds one of its keys, and nobody can arm this squib, for any pad, state, and act to arm: 'PadKeyedSaid'. No conditions.
-/
import Derived.Test.YthcnganbnbhhoaaRows
import Derived.Test.YthcnganbnbhhoaaLawP
import Derived.Test.YthcnganbnbhhoaaNear4
import Derived.Test.YthcnganbnbhhoaaAwake
import Derived.Test.YthcnganbnbhhoaaOpen
import Derived.SizedLaws
namespace Go.Proofs.Ythcnganbnbhhoaa
open Go.ChangeShapes Go.WideShapes Go.ChangeAt Go.RowKit Go.Shelf
theorem Blk.three3 (w : World) (t t' t'' : TypeId) (cs ds es : Array Value) : Ext w (((w.alloc (.cells cs t)).alloc (.cells ds t')).alloc (.cells es t'')) ∧ Blk (((w.alloc (.cells cs t)).alloc (.cells ds t')).alloc (.cells es t'')) w.heap.size t cs ∧ Blk (((w.alloc (.cells cs t)).alloc (.cells ds t')).alloc (.cells es t'')) (w.heap.size + 1) t' ds ∧ Blk (((w.alloc (.cells cs t)).alloc (.cells ds t')).alloc (.cells es t'')) (w.heap.size + 1 + 1) t'' es := by
 refine ⟨(((Ext.refl _).alloc _).alloc _).alloc _, (Blk.new w t cs).ext (((Ext.refl _).alloc _).alloc _), ?_, ?_⟩
 ·have := (Blk.new (w.alloc (.cells cs t)) t' ds).ext ((Ext.refl _).alloc (.cells es t''))
  rwa [World.size_alloc] at this
 ·have := Blk.new ((w.alloc (.cells cs t)).alloc (.cells ds t')) t'' es
  rwa [World.size_alloc, World.size_alloc] at this
namespace PadKeyedLaw
set_option maxRecDepth 100000 in
set_option maxHeartbeats 8000000 in
theorem walk {v sv : Value} {p : Pad} {s : State} {w : World} (hv : PadV w v p) (hs : StateV w sv s) (hf : s.Fits) (a : PAct) :
  Calls Try.prog 7 #[v, sv, a.val] w fun e w' => e = .returned (.bool true) ∧ Below w.heap.size w w' := by
 have HCS := hide (fun V (hx : Ext w V) => checkState_any v sv p s V (hv.ext hx) (hs.ext hx) hf)
 have HDO := hide (fun V (hx : Ext w V) => doA_any v sv p s ⟨a.at_, 5, a.who, a.what, a.with_⟩ V (hv.ext hx) (hs.ext hx) hf)
 have HNR := hide (fun V (hx : Ext w V) hp z q hz => lawNear_any v p z q V (hv.ext hx) hp hz)
 have HHO := hide (fun V (hx : Ext w V) hp hl (i q : Nat) hq => lawHolds_any v sv p s i q V (hv.ext hx) (hs.ext hx) hp hl hq)
 obtain ⟨X, rfl, hX⟩ := padV_iff.1 hv
 obtain ⟨az, cz, ad, cd, ap, cp, ak, ck, aq, cq⟩ := X
 obtain ⟨A1, c1, A2, c2, A3, c3, rfl, h1, h2, h3⟩ := stateV_rows.1 hs
 have HI1 := hide h1
 have HI3 := hide h3
 have m1 := h1.rows.2.2.1
 have n1 := h1.rows.2.1
 have m3 := h3.rows.2.2.1
 have n3 := h3.rows.2.1
 unfold PadX.cells at HCS HDO HNR HHO ⊢
 unfold PAct.val
 dsimp only at HCS HDO HNR HHO ⊢
 clear hv hs hX hf h1 h2 h3
 go_enter Try.func7, Try.ntmps7
 go_wp2_with fail
 have HBOX := hide (Blk.three3 w 28 38 48 #[.slice az p.zones.length cz, .slice ad p.doors.length cd, .slice ap p.people.length cp, .slice ak p.keys.length ck, .slice aq p.squibs.length cq, .int .i64 p.panel, .int .i64 p.wait] #[.int .i64 s.now, .slice A1 s.zones.length c1, .slice A2 s.holder.length c2, .slice A3 s.squibs.length c3, .int .i64 s.siren, .bool s.storm] #[.int .i64 a.at_, .int .i64 a.kind, .int .i64 a.who, .int .i64 a.what, .int .i64 a.with_])
 obtain ⟨W1, hW1⟩ : ∃ V, ((w.alloc (.cells #[.slice az p.zones.length cz, .slice ad p.doors.length cd, .slice ap p.people.length cp, .slice ak p.keys.length ck, .slice aq p.squibs.length cq, .int .i64 p.panel, .int .i64 p.wait] 28)).alloc (.cells #[.int .i64 s.now, .slice A1 s.zones.length c1, .slice A2 s.holder.length c2, .slice A3 s.squibs.length c3, .int .i64 s.siren, .bool s.storm] 38)).alloc (.cells #[.int .i64 a.at_, .int .i64 a.kind, .int .i64 a.who, .int .i64 a.what, .int .i64 a.with_] 48) = V := ⟨_, rfl⟩
 rw [hW1] at HBOX ⊢
 obtain ⟨HX, HP, HS, HA⟩ := HBOX.out
 clear HBOX hW1
 refine Calls.mono (HCS.out _ HX) ?_
 rintro e w2 ⟨rfl, hx⟩
 replace HX := hide (HX.trans hx)
 replace HP := hide (HP.ext hx)
 replace HS := hide (HS.ext hx)
 replace HA := hide (HA.ext hx)
 obtain ⟨E, hE⟩ : ∃ E, stateE p s = E := ⟨_, rfl⟩
 have HE := hide hE
 rw [hE]
 clear hx hE HCS
 by_cases e0 : E = 0
 ·subst e0
  have HSO := hide (stateE_t.1 HE.out)
  have HPO := hide (padOk_of HSO.out.1)
  have HNE := hide (fun V (hx : Ext w V) z q hz => HNR.out V hx HSO.out.1 z q hz)
  have HHL := hide (fun V (hx : Ext w V) i q hq => HHO.out V hx HPO.out HSO.out.2.1.lh i q hq)
  have HLQ := hide HSO.out.2.1.lq
  have p0 := cell_heap HP.out 0 _ rfl
  have p1 := cell_heap HP.out 1 _ rfl
  have p2 := cell_heap HP.out 2 _ rfl
  have p3 := cell_heap HP.out 3 _ rfl
  have p4 := cell_heap HP.out 4 _ rfl
  have p5 := cell_heap HP.out 5 _ rfl
  have p6 := cell_heap HP.out 6 _ rfl
  have s0 := cell_heap HS.out 0 _ rfl
  have s1 := cell_heap HS.out 1 _ rfl
  have s2 := cell_heap HS.out 2 _ rfl
  have s3 := cell_heap HS.out 3 _ rfl
  have s4 := cell_heap HS.out 4 _ rfl
  have s5 := cell_heap HS.out 5 _ rfl
  have a0 := cell_heap HA.out 0 _ rfl
  have ga0 := HA.out.frozen 0
  have a1 := cell_heap HA.out 1 _ rfl
  have ga1 := HA.out.frozen 1
  have a2 := cell_heap HA.out 2 _ rfl
  have ga2 := HA.out.frozen 2
  have a3 := cell_heap HA.out 3 _ rfl
  have ga3 := HA.out.frozen 3
  have a4 := cell_heap HA.out 4 _ rfl
  have ga4 := HA.out.frozen 4
  go_wp2_with fail
  obtain ⟨W2, hW2⟩ : ∃ V, w2.setCell ⟨w.heap.size + 1 + 1, 1, none⟩ (.int .i64 5) = V := ⟨_, rfl⟩
  have hlx : Ext w W2 := by rw [← hW2]; exact HX.out.setCell (by dsimp only; omega) _
  have HP1 := hide (show Blk W2 w.heap.size 28 #[.slice az p.zones.length cz, .slice ad p.doors.length cd, .slice ap p.people.length cp, .slice ak p.keys.length ck, .slice aq p.squibs.length cq, .int .i64 p.panel, .int .i64 p.wait] by rw [← hW2]; exact HP.out.other (by omega) 1 _)
  have HS1 := hide (show Blk W2 (w.heap.size + 1) 38 #[.int .i64 s.now, .slice A1 s.zones.length c1, .slice A2 s.holder.length c2, .slice A3 s.squibs.length c3, .int .i64 s.siren, .bool s.storm] by rw [← hW2]; exact HS.out.other (by omega) 1 _)
  have HA1 := hide (show Blk W2 (w.heap.size + 1 + 1) 48 #[.int .i64 a.at_, .int .i64 5, .int .i64 a.who, .int .i64 a.what, .int .i64 a.with_] by rw [← hW2]; exact HA.out.set 1 _)
  rw [hW2]
  have HX2 := hide hlx
  clear hlx hW2 HX HP HS HA p0 p1 p2 p3 p4 p5 p6 s0 s1 s2 s3 s4 s5 a0 a1 a2 a3 a4 ga0 ga1 ga2 ga3 ga4
  refine Calls.mono (HDO.out _ HX2.out) ?_
  rintro e w3 ⟨u, rfl, hu, hx⟩
  obtain ⟨F, hF⟩ : ∃ F, doE p s ⟨a.at_, 5, a.who, a.what, a.with_⟩ = F := ⟨_, rfl⟩
  have HF := hide hF
  rw [hF]
  obtain ⟨x, hxx⟩ : ∃ x, doS p s ⟨a.at_, 5, a.who, a.what, a.with_⟩ = x := ⟨_, rfl⟩
  rw [hxx] at hu
  obtain ⟨D1, f1, D2, f2, D3, f3, rfl, _⟩ := hu
  have HX3a := hide (HX2.out.trans hx)
  have HP3a := hide (HP1.out.ext hx)
  have HS3a := hide (HS1.out.ext hx)
  have HA3a := hide (HA1.out.ext hx)
  clear hx hF hxx HX2 HP1 HS1 HA1 HDO
  go_wp2_with fail
  obtain ⟨W3, hW3⟩ : ∃ V, w3.alloc (.cells #[.int .i64 x.now, .slice D1 x.zones.length f1, .slice D2 x.holder.length f2, .slice D3 x.squibs.length f3, .int .i64 x.siren, .bool x.storm] 38) = V := ⟨_, rfl⟩
  have hx3 : Ext w3 W3 := by rw [← hW3]; exact (Ext.refl _).alloc _
  rw [hW3]
  have HX3 := hide (HX3a.out.trans hx3)
  have HP3 := hide (HP3a.out.ext hx3)
  have HS3 := hide (HS3a.out.ext hx3)
  have HA3 := hide (HA3a.out.ext hx3)
  replace HI1 := hide (HI1.out.ext HX3.out)
  replace HI3 := hide (HI3.out.ext HX3.out)
  clear hx3 hW3 HX3a HP3a HS3a HA3a
  have HARM := hide (fun (i q : Nat) hi hq h2 => arm_not (p := p) (s := s) (a := ⟨a.at_, 5, a.who, a.what, a.with_⟩) HE.out (i := i) (q := q) hi hq h2)
  go_loopw [9, 10] (fun v9 _ wr => Hid (Ext W3 wr) ∧ ∃ k : Nat, k ≤ s.zones.length ∧ v9 = .int .i64 k) (fun v9 _ _ => s.zones.length - (intOf v9).toNat)
  case atStart => exact ⟨hide (Ext.refl _), 0, by omega, rfl⟩
  case round =>
   obtain ⟨HXI, k, hk, rfl⟩ := hrel
   by_cases h7 : k < s.zones.length
   ·have HSW := hide (HS3.out.ext HXI.out)
    have s1 := cell_heap HSW.out 1 _ rfl
    go_wp2_with fail
    clear s1 HSW
    go_loopw [10] (fun v10 wr2 => Hid (Ext wr wr2) ∧ ∃ q : Nat, q ≤ s.squibs.length ∧ v10 = .int .i64 q) (fun v10 _ => s.squibs.length - (intOf v10).toNat)
    case atStart => exact ⟨hide (Ext.refl _), 0, by omega, rfl⟩
    case round =>
     obtain ⟨HXQ, q, hq, rfl⟩ := hrel
     have HP2 := hide (HP3.out.ext (HXI.out.trans HXQ.out))
     have HS2 := hide (HS3.out.ext (HXI.out.trans HXQ.out))
     have HA2 := hide (HA3.out.ext (HXI.out.trans HXQ.out))
     have p0 := cell_heap HP2.out 0 _ rfl
     have p1 := cell_heap HP2.out 1 _ rfl
     have p2 := cell_heap HP2.out 2 _ rfl
     have p3 := cell_heap HP2.out 3 _ rfl
     have p4 := cell_heap HP2.out 4 _ rfl
     have p5 := cell_heap HP2.out 5 _ rfl
     have p6 := cell_heap HP2.out 6 _ rfl
     have s0 := cell_heap HS2.out 0 _ rfl
     have s1 := cell_heap HS2.out 1 _ rfl
     have s2 := cell_heap HS2.out 2 _ rfl
     have s3 := cell_heap HS2.out 3 _ rfl
     have s4 := cell_heap HS2.out 4 _ rfl
     have s5 := cell_heap HS2.out 5 _ rfl
     have a0 := cell_heap HA2.out 0 _ rfl
     have a1 := cell_heap HA2.out 1 _ rfl
     have a2 := cell_heap HA2.out 2 _ rfl
     have a3 := cell_heap HA2.out 3 _ rfl
     have a4 := cell_heap HA2.out 4 _ rfl
     by_cases h8s : q < s.squibs.length
     ·have h8 : q < p.squibs.length := by have := HLQ.out; omega
      obtain ⟨bz, oz, zi, rfl, hltz, hci, HVZ⟩ := ints_at ((HI1.out.ext (HXI.out.trans HXQ.out)).rows.2.2.2) h7
      obtain ⟨bq, oq, sq_, rfl, hltq, hcq, HVQ⟩ := ints_at ((HI3.out.ext (HXI.out.trans HXQ.out)).rows.2.2.2) h8s
      have hzi : zi < p.zones.length := by have := (HSO.out.2.1.z k h7).2; rw [HVZ.out] at this; exact this
      by_cases h2 : sq_ = 2
      ·have hd : (sq_ == 2) = true := by simp [h2]
       clear h2
       go_wp2_with fail
       apply wp_region_f (45 :: 46 :: 47 :: 48 :: 49 :: 50 :: 51 :: 52 :: 53 :: 54 :: 55 :: 56 :: 57 :: 58 :: 59 :: 60 :: 61 :: [])
         (.is _ :: .is _ :: .is _ :: .is _ :: .is _ :: .is _ :: .is _ :: .is _ :: .is _ :: .is _ :: .is _ :: .is _ :: .is _ :: .is _ :: .is _ :: .is _ :: .is _ :: [])
         [(3, _), (4, _), (9, _), (10, _)]
       · kernel_rfl
       · decide
       · rfl
       · kernel_rfl
       · decide +kernel
       · kernel_rfl
       · kernel_rfl
       · kernel_rfl
       · kernel_rfl
       · rfl
       · exact keepsIs _ rfl
       · refine ⟨?_, ?_, ?_, ?_, trivial⟩ <;> (simp; rfl)
       · repeat
           refine ⟨?_, ?_⟩
           · intro F W5 hF hd hR
             simp [fixedAt] at hF
             obtain ⟨t3, t4, t9, t10⟩ := hF
             simp [Region.binds, Ent.holds] at hd
             refine ⟨fun hgd K hK => ?_, by intro g b h hn; first | (cases h; done) | (cases h; refine absurd ?_ hn; simp [hd]; done) | (cases h; exact ⟨rfl, Ext.refl _⟩)⟩
             first
               | (refine absurd (hgd _ _ rfl) ?_; simp [hd]; done)
               | (refine absurd (hgd _ _ rfl) ?_; simp [hd]; simp [undef]; done)
               | (simp only [Ent.holds, List.getD_cons_zero, List.getD_cons_succ] at hK
                  have p0' := hR.cell p0
                  have p1' := hR.cell p1
                  have p2' := hR.cell p2
                  have p3' := hR.cell p3
                  have p4' := hR.cell p4
                  have p5' := hR.cell p5
                  have p6' := hR.cell p6
                  have s0' := hR.cell s0
                  have s1' := hR.cell s1
                  have s2' := hR.cell s2
                  have s3' := hR.cell s3
                  have s4' := hR.cell s4
                  have s5' := hR.cell s5
                  have hcq' := hR.cell hcq
                  have hci' := hR.cell hci
                  go_simp
                  first
                    | exact hK _ _ rfl (Ext.refl _)
                    | (go_at_call 25
                       with_reducible refine Calls.mono (HNE.out _ (HX3.out.trans (HXI.out.trans (HXQ.out.trans hR))) zi q hzi) ?_
                       rintro e w' ⟨rfl, hx⟩
                       exact hK _ _ rfl hx))
         exact trivial
       intro X W5 hx hR
       simp only [toldX] at hx
       simp only [fillX, List.setIfInBounds_toArray, List.set_cons_succ, List.set_cons_zero]
       clear p0 p1 p2 p3 p4 p5 p6 s0 s1 s2 s3 s4 s5 a0 a1 a2 a3 a4 hcq hci
       go_wp2_with fail
       go_roundw
       case rel => exact ⟨hide (HXQ.out.trans hR), q + 1, by omega, by go_num⟩
       case measure => simp [intOf]; omega
      ·have hd : (sq_ == 2) = false := by simpa using h2
       have H2 := hide (show s.squibs.getD q 0 ≠ 2 by rw [HVQ.out]; exact h2)
       clear h2
       go_wp2_with fail
       apply wp_region_f (45 :: 46 :: 47 :: 48 :: 49 :: 50 :: 51 :: 52 :: 53 :: 54 :: 55 :: 56 :: 57 :: 58 :: 59 :: 60 :: 61 :: [])
         (.is _ :: .is _ :: .is _ :: .is _ :: .is _ :: .is _ :: .is _ :: .is _ :: .is _ :: .is _ :: .is _ :: .is _ :: .is _ :: .is _ :: .is _ :: .is _ :: .is _ :: [])
         [(3, _), (4, _), (9, _), (10, _)]
       · kernel_rfl
       · decide
       · rfl
       · kernel_rfl
       · decide +kernel
       · kernel_rfl
       · kernel_rfl
       · kernel_rfl
       · kernel_rfl
       · rfl
       · exact keepsIs _ rfl
       · refine ⟨?_, ?_, ?_, ?_, trivial⟩ <;> (simp; rfl)
       · repeat
           refine ⟨?_, ?_⟩
           · intro F W5 hF hd hR
             simp [fixedAt] at hF
             obtain ⟨t3, t4, t9, t10⟩ := hF
             simp [Region.binds, Ent.holds] at hd
             refine ⟨fun hgd K hK => ?_, by intro g b h hn; first | (cases h; done) | (cases h; refine absurd ?_ hn; simp [hd]; done) | (cases h; exact ⟨rfl, Ext.refl _⟩)⟩
             first
               | (refine absurd (hgd _ _ rfl) ?_; simp [hd]; done)
               | (refine absurd (hgd _ _ rfl) ?_; simp [hd]; simp [undef]; done)
               | (simp only [Ent.holds, List.getD_cons_zero, List.getD_cons_succ] at hK
                  have p0' := hR.cell p0
                  have p1' := hR.cell p1
                  have p2' := hR.cell p2
                  have p3' := hR.cell p3
                  have p4' := hR.cell p4
                  have p5' := hR.cell p5
                  have p6' := hR.cell p6
                  have s0' := hR.cell s0
                  have s1' := hR.cell s1
                  have s2' := hR.cell s2
                  have s3' := hR.cell s3
                  have s4' := hR.cell s4
                  have s5' := hR.cell s5
                  have hcq' := hR.cell hcq
                  have hci' := hR.cell hci
                  go_simp
                  first
                    | exact hK _ _ rfl (Ext.refl _)
                    | (go_at_call 25
                       with_reducible refine Calls.mono (HNE.out _ (HX3.out.trans (HXI.out.trans (HXQ.out.trans hR))) zi q hzi) ?_
                       rintro e w' ⟨rfl, hx⟩
                       exact hK _ _ rfl hx))
         exact trivial
       intro X W5 hx hR
       simp only [toldX] at hx
       simp only [fillX, List.setIfInBounds_toArray, List.set_cons_succ, List.set_cons_zero]
       cases hn : nearQ p zi q with
       | false =>
        clear p0 p1 p2 p3 p4 p5 p6 s0 s1 s2 s3 s4 s5 a0 a1 a2 a3 a4 hcq hci hn
        go_wp2_with fail
        go_roundw
        case rel => exact ⟨hide (HXQ.out.trans hR), q + 1, by omega, by go_num⟩
        case measure => simp [intOf]; omega
       | true =>
        have HARQ := hide (HARM.out k q h7 (by rw [HVZ.out]; exact nearQ_t.1 hn) H2.out)
        have hcq2 := hR.cell hcq
        have hd1 : (sq_ == 1) = false := by have := HARQ.out.2.1; rw [HVQ.out] at this; simpa using this
        have hXR := HXQ.out.trans hR
        have HP5 := hide (HP2.out.ext hR)
        have HS5 := hide (HS2.out.ext hR)
        have HB5 := hide (HA2.out.ext hR)
        clear p0 p1 p2 p3 p4 p5 p6 s0 s1 s2 s3 s4 s5 a0 a1 a2 a3 a4 hcq hci hn
        have p0 := cell_heap HP5.out 0 _ rfl
        have p1 := cell_heap HP5.out 1 _ rfl
        have p2 := cell_heap HP5.out 2 _ rfl
        have p3 := cell_heap HP5.out 3 _ rfl
        have p4 := cell_heap HP5.out 4 _ rfl
        have p5 := cell_heap HP5.out 5 _ rfl
        have p6 := cell_heap HP5.out 6 _ rfl
        have s0 := cell_heap HS5.out 0 _ rfl
        have s1 := cell_heap HS5.out 1 _ rfl
        have s2 := cell_heap HS5.out 2 _ rfl
        have s3 := cell_heap HS5.out 3 _ rfl
        have s4 := cell_heap HS5.out 4 _ rfl
        have s5 := cell_heap HS5.out 5 _ rfl
        have a0 := cell_heap HB5.out 0 _ rfl
        have a1 := cell_heap HB5.out 1 _ rfl
        have a2 := cell_heap HB5.out 2 _ rfl
        have a3 := cell_heap HB5.out 3 _ rfl
        have a4 := cell_heap HB5.out 4 _ rfl
        have hhq : holdsB p s k q = true := holdsB_t.2 HARQ.out.1
        have HHQ := hide (HHL.out W5 (HX3.out.trans (HXI.out.trans hXR)) k q h8)
        rw [hhq] at HHQ
        clear hhq
        go_wp2_with fail
        refine Calls.mono HHQ.out ?_
        rintro e w6 ⟨rfl, hx6⟩
        have hXR6 := hXR.trans hx6
        have HS6 := hide (HS5.out.ext hx6)
        have HA6 := hide (HB5.out.ext hx6)
        have hcq3 := hx6.cell hcq2
        clear p0 p1 p2 p3 p4 p5 p6 s0 s1 s2 s3 s4 s5 a0 a1 a2 a3 a4 hcq2 hx6 hXR HHQ HP5 HS5 HB5
        have s0 := cell_heap HS6.out 0 _ rfl
        have s1 := cell_heap HS6.out 1 _ rfl
        have s2 := cell_heap HS6.out 2 _ rfl
        have s3 := cell_heap HS6.out 3 _ rfl
        have s4 := cell_heap HS6.out 4 _ rfl
        have s5 := cell_heap HS6.out 5 _ rfl
        have a0 := cell_heap HA6.out 0 _ rfl
        have a1 := cell_heap HA6.out 1 _ rfl
        have a2 := cell_heap HA6.out 2 _ rfl
        have a3 := cell_heap HA6.out 3 _ rfl
        have a4 := cell_heap HA6.out 4 _ rfl
        by_cases f0 : F = 0
        ·have hd2 : (F == 0) = true := by simp [f0]
         have hd3 : (a.what == ((q : Nat) : Int)) = false := by
          have := HARQ.out.2.2 (by first | rfl | trivial) (by rw [HF.out]; exact f0)
          simpa using this
         clear f0
         go_wp2_with fail
         go_roundw
         case rel => exact ⟨hide hXR6, q + 1, by omega, by go_num⟩
         case measure => simp [intOf]; omega
        ·have hd2 : (F == 0) = false := by simpa using f0
         clear f0
         go_wp2_with fail
         go_roundw
         case rel => exact ⟨hide hXR6, q + 1, by omega, by go_num⟩
         case measure => simp [intOf]; omega
     ·obtain rfl : q = s.squibs.length := by omega
      have hqe : decide (((s.squibs.length : Nat) : Int) < ((p.squibs.length : Nat) : Int)) = false := decide_eq_false (by have := HLQ.out; omega)
      go_wp2_with fail
      go_roundw
      case rel => exact ⟨hide (HXI.out.trans HXQ.out), k + 1, by omega, by go_num⟩
      case measure => simp [intOf]; omega
      case roundEnd => exact ⟨⟨hide (HXI.out.trans HXQ.out), k + 1, by omega, by go_num⟩, by simp [intOf]; omega⟩
   ·obtain rfl : k = s.zones.length := by omega
    have HSW := hide (HS3.out.ext HXI.out)
    have s1 := cell_heap HSW.out 1 _ rfl
    go_wp2_with fail
    refine (awake_any _).mono ?_
    rintro e w9 ⟨rfl, hx9⟩
    have HX9 := hide ((HX3.out.trans HXI.out).trans hx9)
    clear hx9
    go_wp2_with fail
    go_ret
    exact ⟨rfl, HX9.out⟩
 ·have hne : (E != 0) = true := by simpa using e0
  clear e0
  go_wp2_with fail
  refine (awake_any _).mono ?_
  rintro e w9 ⟨rfl, hx9⟩
  have HX9 := hide (HX.out.trans hx9)
  clear hx9
  go_wp2_with fail
  go_ret
  exact ⟨rfl, HX9.out⟩
theorem own : ownKnob Try.prog.godebug = none := by kernel_rfl
theorem laidOut : laidOutB Try.prog = true := by kernel_rfl
set_option maxRecDepth 100000 in
theorem lifted (os : Os) (started : os.Started) (H : Type) (enc : TypeId × Value → H) :
 ReturnsInHanded {} Try.checked os 7 .any (Rows.padKeyedSpec.pre6 enc Try.prog Try.f7 Rows.padKeyedRow.domain false) (Rows.padKeyedSpec.post enc Try.prog Try.f7 false true false false) := by
 refine returnsInHanded_of_change_sized (C := Try.checked) own started (by kernel_rfl) Try.func7
  (ChangeSpec.witness6 (enc := enc) (C := Try.checked) false ⟨#[], #[.agg #[.slice none 0 0, .slice none 0 0, .slice none 0 0, .slice none 0 0, .slice none 0 0, .int .i64 0, .int .i64 0], .agg #[.int .i64 0, .slice none 0 0, .slice none 0 0, .slice none 0 0, .int .i64 0, .bool false], .agg #[.int .i64 0, .int .i64 0, .int .i64 0, .int .i64 0, .int .i64 0]], []⟩ 8 (by kernel_rfl) (by kernel_rfl) (by kernel_rfl) (by kernel_rfl)) ?_
 intro W base args ds gs before hval0 hW hcnd hsz0 _
 have hval : ∀ (j : Nat) t v, Try.f7.params[j]? = some t → args[j]? = some v → Value.okWide Try.prog W .any base t v := hval0
 have hsz : (DataW.weightsEach Try.prog (Try.f7.params.toList ++ Rows.padKeyedSpec.plain.varTypes Try.prog) (ds ++ gs)).all (· ≤ reachBytes) = true := hsz0
 have hW' := hW
 obtain ⟨p, q, hA0, hV, rfl, hfz, hnd⟩ := hW
 have hA : DataW.TrodAll enc Try.prog W 0 (fun _ => true) true Try.f7.params.toList args.toList ds p := hA0
 rw [Try.params7] at hA hval hsz
 obtain ⟨v0, vs0, d0, ds0, p0, q0, hargs, rfl, rfl, h0, r0⟩ := trodAll_cons hA
 obtain ⟨v1, vs1, d1, ds1, p1, q1, rfl, rfl, rfl, h1, r1⟩ := trodAll_cons r0
 obtain ⟨v2, vs2, d2, ds2, p2, q2, rfl, rfl, rfl, h2, r2⟩ := trodAll_cons r1
 obtain ⟨rfl, rfl, rfl⟩ := trodAll_nil r2
 obtain rfl : args = #[v0, v1, v2] := by cases args; simp_all
 obtain ⟨rfl, rfl⟩ := trodVars_none hV
 have k0 := h0
 have lt0 : ∀ x ∈ p0, x.block < W.heap.size := by obtain ⟨m, hm⟩ := k0; exact DataW.trod_lt m _ _ _ hm
 obtain ⟨pd0, o0⟩ := open_pad (hval 0 28 v0 rfl rfl) h0
 have k1 := h1
 have lt1 : ∀ x ∈ p1, x.block < W.heap.size := by obtain ⟨m, hm⟩ := k1; exact DataW.trod_lt m _ _ _ hm
 obtain ⟨s1, o1, f1⟩ := open_state (hval 1 38 v1 rfl rfl) h1
 have k2 := h2
 have lt2 : ∀ x ∈ p2, x.block < W.heap.size := by obtain ⟨m, hm⟩ := k2; exact DataW.trod_lt m _ _ _ hm
 obtain ⟨a2, rfl⟩ := open_actV (hval 2 48 v2 rfl rfl) h2
 clear hA0 hval0 hsz0
 refine (walk o0 o1 (f1 fun m hm => by have := List.all_eq_true.1 hsz m (DataW.weights_mem_each (j := 1) (t := 38) rfl rfl m hm); simpa using this) a2).mono fun e W' ⟨he, bel⟩ => ?_
 subst he
 exact ⟨_, rfl, _, _, _, [], _, [], hW', trodAll_mk1 (shut_bool Try.underlying4 _), (trodAll_cons_mk (Below.trod laidOut (by kernel_rfl) (of_decide_eq_true (by kernel_rfl)) k0 bel lt0) (trodAll_cons_mk (Below.trod laidOut (by kernel_rfl) (of_decide_eq_true (by kernel_rfl)) k1 bel lt1) (trodAll_cons_mk (Below.trod laidOut (by kernel_rfl) (of_decide_eq_true (by kernel_rfl)) k2 bel lt2) trodAll_mk0))), rfl, bel.frame _, fun h => by cases h⟩
theorem over : Rows.padKeyedRow.holds Try.pinned (OpenSpec.ofChange Rows.padKeyedSpec) :=
 OpenClaim.holds_of_wide 7 Try.f7 rfl rfl rfl rfl rfl rfl rfl ⟨rfl, rfl, rfl, rfl, rfl⟩ rfl rfl rfl rfl rfl (by kernel_rfl) Try.func7 (by kernel_rfl)
  (of_decide_eq_true (by kernel_rfl)) (by unfold Func.isWrapper; first | (rw [if_pos (by decide +kernel)]; kernel_rfl) | (rw [if_neg (by decide +kernel)]; exact ⟨rfl, rfl⟩))
  (fun os started H enc _ => lifted os started H enc)
end PadKeyedLaw
/-- The statement. -/
theorem keyed_holds : Rows.PadKeyedSaid := PadKeyedLaw.over
end Go.Proofs.Ythcnganbnbhhoaa
