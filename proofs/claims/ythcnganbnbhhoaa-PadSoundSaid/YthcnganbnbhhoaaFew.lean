/- The walk of the statements' few, at a sound state: it holds. -/
import Derived.Test.YthcnganbnbhhoaaLawP
import Derived.Test.YthcnganbnbhhoaaNear4
import Derived.Test.YthcnganbnbhhoaaDetE
namespace Go.Proofs.Ythcnganbnbhhoaa
open Go.RowKit Go.Shelf
theorem Blk.pairF (w : World) (t t' : TypeId) (cs ds : Array Value) : Ext w ((w.alloc (.cells cs t)).alloc (.cells ds t')) ∧ Blk ((w.alloc (.cells cs t)).alloc (.cells ds t')) w.heap.size t cs ∧ Blk ((w.alloc (.cells cs t)).alloc (.cells ds t')) (w.heap.size + 1) t' ds := by
 refine ⟨((Ext.refl _).alloc _).alloc _, (Blk.new w t cs).ext ((Ext.refl _).alloc _), ?_⟩
 have := Blk.new (w.alloc (.cells cs t)) t' ds
 rwa [World.size_alloc] at this
set_option maxRecDepth 100000 in
set_option maxHeartbeats 4000000 in
/-- few -/
theorem few_any {v sv : Value} {p : Pad} {s : State} {w : World} (hv : PadV w v p) (hs : StateV w sv s) (hst : StateOk p s) (hso : Sound p s) :
 Calls Try.prog 34 #[v, sv] w fun e w' => e = .returned (.bool true) ∧ Ext w w' := by
 obtain ⟨X, rfl, hX⟩ := padV_iff.1 hv
 obtain ⟨az, cz, ad, cd, ap, cp, ak, ck, aq, cq⟩ := X
 obtain ⟨A1, c1, A2, c2, A3, c3, rfl, h1, h2, h3⟩ := stateV_rows.1 hs
 have HXX := hide hX
 have HI1 := hide h1
 have n1 := hX.z.rows.2.2.1
 have m1 := hX.z.rows.2.1
 have n2 := hX.x.rows.2.2.1
 have m2 := hX.x.rows.2.1
 have n3 := h1.rows.2.2.1
 have m3 := h1.rows.2.1
 have HST := hide hst
 have HSO := hide hso
 have hlen : (((s.zones.length : Nat) : Int) != ((p.people.length : Nat) : Int)) = false := by simp [hst.lz]
 unfold PadX.cells
 dsimp only at n1 m1 n2 m2 n3 m3 ⊢
 clear hv hs hX h1 h2 h3 hst hso
 go_enter Try.func34, Try.ntmps34
 go_wp2_with fail
 have HBOX := hide (Blk.pairF w 28 38 #[.slice az p.zones.length cz, .slice ad p.doors.length cd, .slice ap p.people.length cp, .slice ak p.keys.length ck, .slice aq p.squibs.length cq, .int .i64 p.panel, .int .i64 p.wait] #[.int .i64 s.now, .slice A1 s.zones.length c1, .slice A2 s.holder.length c2, .slice A3 s.squibs.length c3, .int .i64 s.siren, .bool s.storm])
 obtain ⟨W1, hW1⟩ : ∃ V, (w.alloc (.cells #[.slice az p.zones.length cz, .slice ad p.doors.length cd, .slice ap p.people.length cp, .slice ak p.keys.length ck, .slice aq p.squibs.length cq, .int .i64 p.panel, .int .i64 p.wait] 28)).alloc (.cells #[.int .i64 s.now, .slice A1 s.zones.length c1, .slice A2 s.holder.length c2, .slice A3 s.squibs.length c3, .int .i64 s.siren, .bool s.storm] 38) = V := ⟨_, rfl⟩
 rw [hW1] at HBOX ⊢
 obtain ⟨HX, HP, HS⟩ := HBOX.out
 replace HX := hide HX
 replace HP := hide HP
 replace HS := hide HS
 clear HBOX hW1
 have p2 := cell_heap HP.out 2 _ rfl
 have s1 := cell_heap HS.out 1 _ rfl
 go_wp2_with fail
 clear p2 s1
 go_loopw [5, 6, 7] (fun v5 _ _ wr => Hid (Ext W1 wr) ∧ ∃ z : Nat, z ≤ p.zones.length ∧ v5 = .int .i64 z) (fun v5 _ _ _ => p.zones.length - (intOf v5).toNat)
 case atStart => exact ⟨hide (Ext.refl _), 0, by omega, rfl⟩
 case round =>
  obtain ⟨HXZ, z, hz, rfl⟩ := hrel
  have HP2 := hide (HP.out.ext HXZ.out)
  have p0 := cell_heap HP2.out 0 _ rfl
  by_cases h7 : z < p.zones.length
  ·go_wp2_with fail
   obtain ⟨bn, on, rfl, hbn, hcn⟩ := ListV.at ((HXX.out.z.ext (HX.out.trans HXZ.out)).rows.2.2.2) h7
   have g5 := hcn 5 (by omega)
   have g6 := hcn 6 (by omega)
   have g7 := hcn 7 (by omega)
   have HGR := hide (fun i hi h0 => HSO.out.grade i hi h0)
   have HRM := hide (HSO.out.room z h7)
   have HPR := hide (HSO.out.pair z h7)
   have HZO := hide (show zoneOf p ((z : Nat) : Int) = p.zones.getD z default by unfold zoneOf; rw [Int.toNat_natCast])
   obtain ⟨⟨zn, zx1, zx2, zy1, zy2, zg, zr, zp⟩, hZZ⟩ : ∃ S, p.zones.getD z default = S := ⟨_, rfl⟩
   rw [hZZ] at g5 g6 g7 HRM HPR HZO
   simp only [Zone.cell] at g5 g6 g7
   clear p0 hcn hZZ
   go_loopw [6, 7] (fun v6 v7 wr2 => Hid (Ext wr wr2) ∧ ∃ k m : Nat, k ≤ s.zones.length ∧ v7 = .int .i64 k ∧ m ≤ k ∧ v6 = .int .i64 m ∧ Hid (manyN (s.zones.take k) z = m)) (fun _ v7 _ => s.zones.length - (intOf v7).toNat)
   case atStart => exact ⟨hide (Ext.refl _), 0, 0, by omega, rfl, by omega, rfl, hide (by simp [manyN])⟩
   case round =>
    obtain ⟨HXK, k, m, hk, rfl, hm, rfl, HM⟩ := hrel
    have HP3 := hide (HP.out.ext (HXZ.out.trans HXK.out))
    have HS3 := hide (HS.out.ext (HXZ.out.trans HXK.out))
    have p0 := cell_heap HP3.out 0 _ rfl
    have p2 := cell_heap HP3.out 2 _ rfl
    have s1 := cell_heap HS3.out 1 _ rfl
    have e5 := HXK.out.cell g5
    by_cases h8 : k < s.zones.length
    ·obtain ⟨bz, oz, zi, rfl, hltz, hci, HVZ⟩ := ints_at ((HI1.out.ext (HX.out.trans (HXZ.out.trans HXK.out))).rows.2.2.2) h8
     have h8p : k < p.people.length := by have := HST.out.lz; omega
     obtain ⟨bx, ox, rfl, hbx, hcx⟩ := ListV.at ((HXX.out.x.ext (HX.out.trans (HXZ.out.trans HXK.out))).rows.2.2.2) h8p
     have e1 := hcx 1 (by omega)
     simp only [Person.cell] at e1
     by_cases hzz : zi = ((z : Nat) : Int)
     ·have HZZ := hide hzz
      have hd2 : decide ((p.people.getD k default).grade < zg) = false := decide_eq_false (by have := HGR.out k h8 (by rw [HVZ.out, hzz]; omega); rw [HVZ.out, hzz, HZO.out] at this; dsimp only at this; omega)
      have hd : (zi != ((z : Nat) : Int)) = false := by simp [hzz]
      obtain ⟨xg, hxg⟩ : ∃ g, (p.people.getD k default).grade = g := ⟨_, rfl⟩
      rw [hxg] at e1 hd2
      clear hxg hcx hzz g5 g6 g7
      go_wp2_with fail
      apply wp_region_f (38 :: 39 :: 40 :: 41 :: 42 :: 43 :: 44 :: 45 :: 46 :: 47 :: 48 :: 49 :: 50 :: [])
        (.is _ :: .is _ :: .is _ :: .is _ :: .is _ :: .is _ :: .is _ :: .is _ :: .is _ :: .is _ :: .is _ :: .is _ :: .is _ :: [])
        [(2, _), (5, _), (7, _)]
      · kernel_rfl
      · decide
      · rfl
      · kernel_rfl
      · decide +kernel
      · kernel_rfl
      · kernel_rfl
      · kernel_rfl
      · kernel_rfl
      · rfl
      · exact keepsIs _ rfl
      · refine ⟨?_, ?_, ?_, trivial⟩ <;> (simp; rfl)
      · repeat
          refine ⟨?_, ?_⟩
          · intro F W5 hF hd hR
            simp [fixedAt] at hF
            obtain ⟨t2, t5, t7⟩ := hF
            simp [Region.binds, Ent.holds] at hd
            refine ⟨fun _ K hK => ?_, by intro g b h hn; first | (cases h; done) | (cases h; exact absurd (by simp [hd]) hn)⟩
            simp only [Ent.holds, List.getD_cons_zero, List.getD_cons_succ] at hK
            have p0' := hR.cell p0
            have p2' := hR.cell p2
            have e1' := hR.cell e1
            have e5' := hR.cell e5
            go_simp
            first
              | exact hK _ _ rfl (Ext.refl _)
        exact trivial
      intro X W5 hx hR
      simp only [toldX] at hx
      simp only [fillX, List.setIfInBounds_toArray, List.set_cons_succ, List.set_cons_zero]
      clear p0 p2 s1 e1 e5 hci
      go_wp2_with fail
      go_roundw
      case rel => exact ⟨hide (HXK.out.trans hR), k + 1, m + 1, by omega, by go_num, by omega, by go_num, hide (by rw [manyN_take _ _ _ h8, HM.out, HVZ.out, if_pos HZZ.out])⟩
      case measure => simp [intOf]; omega
     ·have HZZ := hide hzz
      have hd : (zi != ((z : Nat) : Int)) = true := by simpa using hzz
      clear hcx hzz g5 g6 g7
      go_wp2_with fail
      go_roundw
      case rel => exact ⟨HXK, k + 1, m, by omega, by go_num, by omega, rfl, hide (by rw [manyN_take _ _ _ h8, HM.out, HVZ.out, if_neg HZZ.out]; rfl)⟩
      case measure => simp [intOf]; omega
    ·obtain rfl : k = s.zones.length := by omega
     have HMM := hide (show manyN s.zones z = m by have := HM.out; rwa [List.take_length] at this)
     have e6 := HXK.out.cell g6
     have e7 := HXK.out.cell g7
     have hd : decide (zr < ((m : Nat) : Int)) = false := decide_eq_false (by have := HRM.out; rw [HMM.out] at this; dsimp only at this; omega)
     by_cases hm1 : m = 1
     ·have hzp : zp = false := by
       cases hzp : zp with
       | false => rfl
       | true => exact absurd (HMM.out.trans hm1) (HPR.out hzp)
      subst hzp
      have hd1 : (((m : Nat) : Int) == 1) = true := by rw [hm1]; rfl
      clear g5 g6 g7 hm1
      go_wp2_with fail
      go_roundw
      case rel => exact ⟨hide (HXZ.out.trans HXK.out), z + 1, by omega, by go_num⟩
      case measure => simp [intOf]; omega
     ·have hd2 : (((m : Nat) : Int) == 1) = false := by rw [beq_eq_false_iff_ne]; omega
      clear g5 g6 g7 hm1
      go_wp2_with fail
      go_roundw
      case rel => exact ⟨hide (HXZ.out.trans HXK.out), z + 1, by omega, by go_num⟩
      case measure => simp [intOf]; omega
  ·obtain rfl : z = p.zones.length := by omega
   go_wp2_with fail
   go_ret
   exact ⟨rfl, HX.out.trans HXZ.out⟩
end Go.Proofs.Ythcnganbnbhhoaa
