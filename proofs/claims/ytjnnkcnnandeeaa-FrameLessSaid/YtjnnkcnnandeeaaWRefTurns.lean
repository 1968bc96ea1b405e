/- Whether a direction is turned from one of a list: the walk of the reference's turns. -/
import Derived.Test.YtjnnkcnnandeeaaWFits
import Derived.Test.YtjnnkcnnandeeaaDetT
namespace Go.Proofs.Ytjnnkcnnandeeaa
open Go.RowKit
/-- The direction k is reached from the direction a. -/
def nearB (s : Sky) (a k : Nat) : Bool := decide (s.turn ≤ dotI (s.dirs.getD a default) (s.dirs.getD k default))
def turnsB (s : Sky) (ax : List Int) (k : Nat) : Bool := anyB (fun i => nearB s (ax.getD i 0).toNat k) ax.length
theorem turnsB_t {s : Sky} {ax : List Int} {k i : Nat} (h : i < ax.length) (hb : nearB s (ax.getD i 0).toNat k = true) : turnsB s ax k = true := anyB_t.2 ⟨i, h, hb⟩
theorem turnsB_f {s : Sky} {ax : List Int} {k : Nat} (h : ∀ j, j < ax.length → nearB s (ax.getD j 0).toNat k = false) : turnsB s ax k = false := anyB_f.2 h
theorem DirOk.far {d : Dir} (h : DirOk d) : -1000000 ≤ d.x ∧ d.x ≤ 1000000 ∧ -1000000 ≤ d.y ∧ d.y ≤ 1000000 ∧ -1000000 ≤ d.z ∧ d.z ≤ 1000000 := by
  obtain ⟨h1, h2, h3, h4, h5, h6⟩ := h
  exact ⟨by omega, by omega, by omega, by omega, by omega, by omega⟩
theorem dotD {a b : Dir} (ha : DirOk a) (hb : DirOk b) : dotW a b = dotI a b := (dotW_eq ha hb.far).1
set_option maxRecDepth 100000 in
set_option maxHeartbeats 4000000 in
/-- ref.turns -/
theorem turns_any (u : Value) (s : Sky) (ax : List Int) (A : Option Addr) (m cp k : Nat) (w : World) (hu : SkyV w u s) (hok : ∀ i, i < s.dirs.length → DirOk (s.dirs.getD i default)) (hx : IntsV w .i64 (.slice A m cp) ax) (hax : ∀ i, i < ax.length → 0 ≤ ax.getD i 0 ∧ ax.getD i 0 < s.dirs.length) (hk : k < s.dirs.length) :
    Calls Try.prog 91 #[u, .slice A m cp, .int .i64 k] w fun e w' => e = .returned (.bool (turnsB s ax k)) ∧ Ext w w' := by
  have HOK := hide hok
  have HAX := hide hax
  obtain ⟨A1, c1, A2, c2, rfl, hl1, hm1, hl2, hm2, hr1, hr2⟩ := hu
  have hn1 : c1 ≤ 9223372036854775807 := by simpa [maxLen] using hm1
  have HR1 := hide hr1
  obtain ⟨Bw, cw, ew, hcw, hmw, hrw⟩ := hx
  injection ew with e1 e2 e3
  subst e1 e2 e3
  have hmw' : cp ≤ 9223372036854775807 := by simpa [maxLen] using hmw
  have HRW := hide hrw
  have HTT := hide (fun (i : Nat) => @turnsB_t s ax k i)
  have HTF := hide (@turnsB_f s ax k)
  generalize turnsB s ax k = tb at *
  clear hok hax hm1 hm2 hr1 hr2 hmw hrw hl2
  obtain ⟨W0, hW0⟩ : ∃ W0, w.alloc (.cells #[.slice A1 s.dirs.length c1, .int .i64 s.turn, .slice A2 s.sens.length c2] 76) = W0 := ⟨_, rfl⟩
  have hx0 : Ext w W0 := by rw [← hW0]; exact (Ext.refl w).alloc _
  have g0 : W0.cell? ⟨w.heap.size, 0, none⟩ = some (.slice A1 s.dirs.length c1) := by rw [← hW0]; exact cell_mk w _ 76 0 _ rfl
  have g1 : W0.cell? ⟨w.heap.size, 1, none⟩ = some (.int .i64 s.turn) := by rw [← hW0]; exact cell_mk w _ 76 1 _ rfl
  have HX0 := hide hx0
  have HW0 := hide hW0
  clear hx0 hW0
  go_enter Try.func91, Try.ntmps91
  go_wp2_with fail
  rw [HW0.out]
  go_loopw [7] (fun v7 wr => Ext W0 wr ∧ ∃ i : Nat, i ≤ ax.length ∧ v7 = .int .i64 i ∧ Hid (∀ j, j < i → nearB s (ax.getD j 0).toNat k = false)) (fun v7 _ => ax.length - (intOf v7).toNat)
  case atStart => exact ⟨Ext.refl _, 0, by omega, rfl, hide (fun j hj => absurd hj (by omega))⟩
  case round =>
    obtain ⟨hE, i, hi, rfl, HSA⟩ := hrel
    have HXR := hide (HX0.out.trans hE)
    have e0 := hE.cell g0
    have e1 := hE.cell g1
    by_cases h8 : i < ax.length
    · obtain ⟨bw, ow, a, rfl, _, hca, HA⟩ := ints_at (HRW.out.ext HXR.out) h8
      have ha := HAX.out i h8
      rw [HA.out] at ha
      obtain ⟨a, rfl⟩ := Int.eq_ofNat_of_zero_le ha.1
      have hal : a < s.dirs.length := by omega
      obtain ⟨bd, od, ax', ay, az, rfl, _, hd0, hd1, hd2, HDA⟩ := dirs_at (HR1.out.ext HXR.out) hal
      obtain ⟨bd', od', kx, ky, kz, e5, _, hf0, hf1, hf2, HDK⟩ := dirs_at (HR1.out.ext HXR.out) hk
      injection e5 with e5
      injection e5 with e51 e52
      subst e51 e52
      have HDT := hide (show dotW ⟨ax', ay, az⟩ ⟨kx, ky, kz⟩ = dotI ⟨ax', ay, az⟩ ⟨kx, ky, kz⟩ by rw [← HDA.out, ← HDK.out]; exact dotD (HOK.out _ hal) (HOK.out _ hk))
      have HNB := hide (show nearB s (ax.getD i 0).toNat k = decide (s.turn ≤ dotI ⟨ax', ay, az⟩ ⟨kx, ky, kz⟩) by unfold nearB; rw [HA.out, Int.toNat_natCast, HDA.out, HDK.out])
      have HPR := hide (fun V => product_any ⟨ax', ay, az⟩ ⟨kx, ky, kz⟩ V)
      rw [HDT.out] at HPR
      unfold Dir.val at HPR
      dsimp only at HPR
      generalize dotI _ _ = p at *
      clear ha HDT
      go_wp2_with fail
      apply wp_region_f (14 :: 15 :: 16 :: 17 :: 18 :: 19 :: 20 :: 21 :: 22 :: 23 :: 24 :: 25 :: 26 :: 27 :: 28 :: 29 :: 30 :: [])
        (.is _ :: .is _ :: .is _ :: .is _ :: .is _ :: .is _ :: .is _ :: .is _ :: .is _ :: .is _ :: .is _ :: .is _ :: .is _ :: .is _ :: .is _ :: .is _ :: .is _ :: [])
        [(1, _), (2, _), (3, _), (7, _)]
      · kernel_rfl
      · decide
      · rfl
      · kernel_rfl
      · decide +kernel
      · kernel_rfl
      · kernel_rfl
      · kernel_rfl
      · kernel_rfl
      · rfl
      · exact ⟨trivial, trivial, trivial, trivial, trivial, trivial, trivial, trivial, trivial, trivial, trivial, trivial, trivial, trivial, trivial, trivial, trivial, trivial⟩
      · refine ⟨?_, ?_, ?_, ?_, trivial⟩ <;> (simp; rfl)
      · repeat
          refine ⟨?_, ?_⟩
          · intro F W hF hd hR
            simp [fixedAt] at hF
            obtain ⟨t1, t2, t3, t7⟩ := hF
            simp [Region.binds, Ent.holds] at hd
            refine ⟨fun _ K hK => ?_, by intro g b h hn; first | (cases h; done) | (cases h; exact absurd (by simp [hd]) hn)⟩
            simp only [Ent.holds, List.getD_cons_zero, List.getD_cons_succ] at hK
            have q0 := hR.cell e0
            have q1 := hR.cell e1
            have q2 := hR.cell hca
            have q3 := hR.cell hd0
            have q4 := hR.cell hd1
            have q5 := hR.cell hd2
            have q6 := hR.cell hf0
            have q7 := hR.cell hf1
            have q8 := hR.cell hf2
            go_simp
            first
              | exact hK _ _ rfl (Ext.refl _)
              | (with_reducible refine (HPR.out _).mono ?_
                 rintro e w4 ⟨rfl, hx4⟩
                 exact hK _ _ rfl hx4)
        exact trivial
      intro X W hx hR
      simp only [toldX] at hx
      simp only [fillX, List.setIfInBounds_toArray, List.set_cons_succ, List.set_cons_zero]
      have HE5 := hide (hE.trans hR)
      clear hx hR
      by_cases hle : s.turn ≤ p
      · have hl1 : decide (s.turn ≤ p) = true := by simp [hle]
        have HF := hide (HTT.out i h8 (by rw [HNB.out, hl1]))
        go_wp2_with fail
        go_ret
        exact ⟨ret_bool HF.out.symm, HX0.out.trans HE5.out⟩
      · have hl1 : decide (s.turn ≤ p) = false := by simp [hle]
        go_wp2_with fail
        go_roundw
        case rel => exact ⟨HE5.out, i + 1, by omega, by go_num, hide (fun j hj => by
          by_cases hji : j = i
          · rw [hji, HNB.out, hl1]
          · exact HSA.out j (by omega))⟩
        case measure => simp [intOf]; omega
    · have hik : i = ax.length := by omega
      have HF := hide (HTF.out (fun j hj => HSA.out j (by omega)))
      go_wp2_with fail
      go_ret
      exact ⟨ret_bool HF.out.symm, HXR.out⟩
end Go.Proofs.Ytjnnkcnnandeeaa

