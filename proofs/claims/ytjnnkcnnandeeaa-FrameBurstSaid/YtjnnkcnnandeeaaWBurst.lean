/- The walk of the statement FrameBurst. -/
import Derived.Test.YtjnnkcnnandeeaaWAwake
import Derived.Test.YtjnnkcnnandeeaaPBurstF
import Derived.Test.YtjnnkcnnandeeaaWSentB
import Derived.Test.YtjnnkcnnandeeaaWEncO
import Derived.Test.YtjnnkcnnandeeaaDetS
import Derived.Deep.Cut
namespace Go.Proofs.Ytjnnkcnnandeeaa
open Go.RowKit
/-- A burst: the number and the words of a frame, where it begins, and which bits it turns. -/
structure BurstD where
  number : Nat
  words : List Int
  place : Nat
  mask : Nat
def BurstV (w : World) (v : Value) (x : BurstD) : Prop :=
  x.number < 65536 ∧ x.place < 65536 ∧ x.mask < 65536 ∧ (∀ y ∈ x.words, 0 ≤ y ∧ y < 65536) ∧ ∃ u, v = .agg #[.int .u16 x.number, u, .int .u16 x.place, .int .u16 x.mask] ∧ IntsV w .u16 u x.words
theorem BurstV.cext {w w' : World} {v : Value} {x : BurstD} (h : BurstV w v x) (e : CExt w w') : BurstV w' v x := by
  obtain ⟨h0, h1, h2, h3, u, h4, h5⟩ := h
  exact ⟨h0, h1, h2, h3, u, h4, h5.cext e⟩
theorem BurstV.ext {w w' : World} {v : Value} {x : BurstD} (h : BurstV w v x) (e : Ext w w') : BurstV w' v x := h.cext e.c
/-- What Encode hands back, its bytes the caller's own. -/
def EncO (base : Nat) (l : List Nat) (v : Value) (w : World) : Prop := ∃ r, v = .tuple #[r, .int .i64 0] ∧ Own w base 5 1 r l.length (l.map byteV)
theorem EncO.ext {base : Nat} {l : List Nat} {v : Value} {A B : World} (h : EncO base l v A) (k : Ext A B) : EncO base l v B := by
  obtain ⟨r, h1, h2⟩ := h
  exact ⟨r, h1, h2.ext k⟩
theorem u8_xor_nat (a b : Nat) (ha : a < 256) (hb : b < 256) : bits .xor .u8 (a : Int) (b : Int) = ((a ^^^ b : Nat) : Int) := by
  have hx : a ^^^ b < 2 ^ 8 := Nat.xor_lt_two_pow (by omega) (by omega)
  have h8 : ∀ c : Nat, c < 256 → (BitVec.ofInt 8 (c : Int)).toNat = c := by
    intro c hc
    rw [BitVec.ofInt_natCast, BitVec.toNat_ofNat]; exact Nat.mod_eq_of_lt (by omega)
  show IntKind.u8.wrap ((BitVec.ofInt 8 (a : Int) ^^^ BitVec.ofInt 8 (b : Int)).toNat : Int) = _
  rw [BitVec.toNat_xor, h8 a ha, h8 b hb, IntKind.wrap_u8]
  omega
theorem burst_succ_t {l : List Nat} {first mask k : Nat} (h : first + k < 8 * l.length) (ht : turnB mask k = true) : burst l first mask (k + 1) = flipAt (burst l first mask k) (first + k) := by
  rw [burst, if_pos ⟨h, ht⟩]
theorem burst_succ_f {l : List Nat} {first mask k : Nat} (h : ¬ (first + k < 8 * l.length ∧ turnB mask k = true)) : burst l first mask (k + 1) = burst l first mask k := by
  rw [burst, if_neg h]
namespace FrameBurstLaw
set_option maxRecDepth 100000 in
set_option maxHeartbeats 8000000 in
theorem walk {v u : Value} {f : Fmt} {x : BurstD} {w : World} (hv : FmtV w v f) (hu : BurstV w u x) :
    Calls Try.prog 9 #[v, u] w fun e w' => e = .returned (.bool true) ∧ Below w.heap.size w w' := by
  have HV := hide hv
  obtain ⟨_, _, AF, capF, rfl, _, _, _⟩ := hv
  obtain ⟨number, words, place, mask⟩ := x
  obtain ⟨hnu, hpl, hma, hwb, t, rfl, hwv⟩ := hu
  dsimp only at *
  have HWB := hide hwb
  have HWV := hide hwv
  obtain ⟨Aw, capw, rfl, _, _, _⟩ := hwv
  clear hwb
  obtain ⟨W0, hW0⟩ : ∃ W0, (w.alloc (.cells #[.string f.sync, .int .i64 f.words, .int .i64 f.depth, .slice AF f.channels.length capF] 28)).alloc (.cells #[.int .u16 number, .slice Aw words.length capw, .int .u16 place, .int .u16 mask] 67) = W0 := ⟨_, rfl⟩
  have hx0 : Ext w W0 := by rw [← hW0]; exact ((Ext.refl w).alloc _).alloc _
  have G0 := hide (show W0.cell? ⟨w.heap.size, 0, none⟩ = some (.string f.sync) by rw [← hW0]; simp)
  have G1 := hide (show W0.cell? ⟨w.heap.size, 1, none⟩ = some (.int .i64 f.words) by rw [← hW0]; simp)
  have G2 := hide (show W0.cell? ⟨w.heap.size, 2, none⟩ = some (.int .i64 f.depth) by rw [← hW0]; simp)
  have G3 := hide (show W0.cell? ⟨w.heap.size, 3, none⟩ = some (.slice AF f.channels.length capF) by rw [← hW0]; simp)
  have S0 := hide (show W0.cell? ⟨w.heap.size + 1, 0, none⟩ = some (.int .u16 number) by rw [← hW0]; simp)
  have S1 := hide (show W0.cell? ⟨w.heap.size + 1, 1, none⟩ = some (.slice Aw words.length capw) by rw [← hW0]; simp)
  have S2 := hide (show W0.cell? ⟨w.heap.size + 1, 2, none⟩ = some (.int .u16 place) by rw [← hW0]; simp)
  have S3 := hide (show W0.cell? ⟨w.heap.size + 1, 3, none⟩ = some (.int .u16 mask) by rw [← hW0]; simp)
  have HX0 := hide hx0
  have HW0 := hide hW0
  clear hW0
  have HA := hide awake_any
  have HCH := hide (check_any _ f W0 (HV.out.ext hx0))
  clear hx0
  by_cases hc : (chk f).2.2 = 0
  · have HC := hide hc
    rw [hc] at HCH
    obtain ⟨k1, k2, k3, k4, k5, _⟩ := chk_ok hc
    generalize (chk f).1 = ck1 at *
    generalize (chk f).2.1 = ck2 at *
    clear hc
    have hd1 : ¬ f.words < 1 := by omega
    have hd2 : ¬ 32 < f.words := by omega
    have HSV := hide (fun W (hx : Ext w W) => (⟨HWB.out, _, _, rfl, BytesV.nil W, HWV.out.ext hx⟩ : SentV W (.agg #[.int .i64 0, .slice none 0 0, .slice Aw words.length capw]) ⟨0, [], words⟩))
    have HL := hide (fun W (hx : Ext w W) => slist_any _ ⟨0, [], words⟩ 0 f.words.toNat W (HSV.out W hx) (by omega) (by omega))
    rw [show ((f.words.toNat : Nat) : Int) = f.words by omega] at HL
    change Hid (∀ W, Ext w W → Calls Try.prog 37 #[_, .int .i64 0, .int .i64 f.words] W fun e w' => ∃ r, e = .returned r ∧ IntsV w' .i64 r (sList words 0 f.words.toNat) ∧ Ext W w') at HL
    have hok : FrOk f (((number : Nat) : Int), sList words 0 f.words.toNat) := ⟨by dsimp only; rw [sList_len]; omega, sList_bd HWB.out _ _⟩
    have he : encErr f ((number : Nat) : Int) (sList words 0 f.words.toNat) = 0 := by
      refine encErr_ok (askErr_ok HC.out (outB_f.2 ⟨by omega, by omega⟩)) hok.1 ?_
      unfold badB
      rw [anyB_f]
      intro j hj
      rw [outB_f]
      exact hok.2 _ (getD_mem (0 : Int) hj)
    have HEE := hide (fun W r (hx : Ext w W) (hr : IntsV W .i64 r (sList words 0 f.words.toNat)) => encode_own _ r f ((number : Nat) : Int) (sList words 0 f.words.toNat) W (HV.out.ext hx) hr he)
    have HNO := hide (fun (first : Nat) (hf : first < 8 * (frameOf f ((number : Nat) : Int) (sList words 0 f.words.toNat)).length) => burst_none hok mask hf)
    have hfl := frameOf_len hok
    have HFL := hide (frameOf_lt hok)
    have hzs : sizeF f ≤ 71 := by unfold sizeF bodyF; omega
    have hz3 : 4 ≤ sizeF f := by unfold sizeF bodyF; omega
    dsimp only at hfl HFL
    have HOK := hide hok
    clear hok he
    generalize sList words 0 f.words.toNat = sl at *
    generalize frameOf f ((number : Nat) : Int) sl = fr at *
    rw [← hfl] at hzs hz3
    clear hfl
    go_enter Try.func9, Try.ntmps9
    go_wp2_with fail
    rw [HW0.out]
    refine Calls.mono HCH.out ?_
    rintro e w1 ⟨rfl, hx1⟩
    have g0 := hx1.cell G0.out
    have g1 := hx1.cell G1.out
    have g2 := hx1.cell G2.out
    have g3 := hx1.cell G3.out
    have s0 := hx1.cell S0.out
    have s1 := hx1.cell S1.out
    have s2 := hx1.cell S2.out
    have s3 := hx1.cell S3.out
    have HX1 := hide (HX0.out.trans hx1)
    have hszw := HX1.out.size
    clear hx1
    go_wp2_with fail
    apply wp_region_f (34 :: 35 :: 36 :: 37 :: 38 :: 39 :: 40 :: 41 :: 42 :: 43 :: 44 :: 33 :: 45 :: 46 :: 8 :: 7 :: [])
      (.is _ :: .is _ :: .is _ :: .is _ :: .is _ :: .is _ :: .is _ :: .is _ :: .is _ :: .so (fun v w => IntsV w .i64 v sl) :: .so (EncO w1.heap.size fr) :: .so (EncO w1.heap.size fr) :: .so (fun v w => Own w w1.heap.size 5 1 v fr.length (fr.map byteV)) :: .is _ :: .so (fun v w => Own w w1.heap.size 5 1 v fr.length (fr.map byteV)) :: .is _ :: [])
      [(2, _), (3, _)]
    · kernel_rfl
    · decide
    · rfl
    · kernel_rfl
    · decide +kernel
    · kernel_rfl
    · kernel_rfl
    · kernel_rfl
    · kernel_rfl
    · rfl
    · exact ⟨trivial, trivial, trivial, trivial, trivial, trivial, trivial, trivial, trivial, fun _ _ _ h k => h.ext k, fun _ _ _ h k => h.ext k, fun _ _ _ h k => h.ext k, fun _ _ _ h k => h.ext k, trivial, fun _ _ _ h k => h.ext k, trivial, trivial⟩
    · refine ⟨?_, ?_, trivial⟩ <;> (simp; rfl)
    · repeat
        refine ⟨?_, ?_⟩
        · intro F W hF hd hR
          simp [fixedAt] at hF
          obtain ⟨t2, t3⟩ := hF
          simp [Region.binds, Ent.holds] at hd
          refine ⟨fun _ K hK => ?_, by intro g b h hn; first | (cases h; done) | (cases h; exact absurd (by simp [hd]) hn)⟩
          simp only [Ent.holds, List.getD_cons_zero, List.getD_cons_succ] at hK
          have q0 := hR.cell g0
          have q1 := hR.cell g1
          have q2 := hR.cell g2
          have q3 := hR.cell g3
          have q4 := hR.cell s0
          have q5 := hR.cell s1
          have q6 := hR.cell s2
          have q7 := hR.cell s3
          have m1 : IntKind.i64.wrap (number : Int) = (number : Int) := by rw [IntKind.wrap_i64]; omega
          go_simp
          first
            | exact hK _ _ rfl (Ext.refl _)
            | (with_reducible refine (HL.out _ (HX1.out.trans hR)).mono ?_
               rintro e w4 ⟨r, rfl, hi4, hx4⟩
               exact hK _ _ hi4 hx4)
            | (with_reducible refine (HEE.out _ _ (HX1.out.trans hR) (by first | exact hd | exact hd.2 | exact hd.2.2 | exact hd.1 | exact hd.2.1)).mono ?_
               rintro e w4 ⟨r, rfl, ho4, hx4⟩
               exact hK _ _ ⟨r, rfl, ho4.mono hR.size⟩ hx4)
            | (exact hK _ _ hd (Ext.refl _))
            | (obtain ⟨r, hr, hb⟩ := hd
               simp only [hr] at hK ⊢
               go_simp
               first
                 | exact hK _ _ hb (Ext.refl _)
                 | exact hK _ _ rfl (Ext.refl _))
            | (exact hK _ _ hd.1 (Ext.refl _))
      exact trivial
    intro X W hx hR
    simp only [toldX] at hx
    simp only [fillX, List.setIfInBounds_toArray, List.set_cons_succ, List.set_cons_zero]
    obtain ⟨_, _, _, _, hO, _⟩ := hx
    have HO0 := hide hO
    obtain ⟨Ab, cb, eb, hcb, hmb, _⟩ := hO.form
    rw [eb] at HO0 ⊢
    obtain ⟨g, hg, rfl⟩ : ∃ g, w1.heap.size ≤ g ∧ Ab = some ⟨g, 0, none⟩ := by
      rcases HO0.out.2 with ⟨h1, h2⟩ | ⟨g, cap', cur, lo, hi, h1, h2, _⟩
      · omega
      · injection h1 with h1
        exact ⟨g, h2, h1⟩
    have hmb' : cb ≤ 9223372036854775807 := by simpa [maxLen] using hmb
    have e0 := hR.cell g0
    have e1 := hR.cell g1
    have e2' := hR.cell g2
    have e3' := hR.cell g3
    have e2 := hR.cell s2
    have e3 := hR.cell s3
    have HEW := hide hR
    clear hO hmb hR
    obtain ⟨N, hN⟩ : ∃ N, fr.length = N := ⟨_, rfl⟩
    rw [hN] at hzs hz3 HO0 hcb HNO ⊢
    have HN := hide hN
    clear hN
    obtain ⟨T, hT⟩ : ∃ T, 8 * N = T := ⟨_, rfl⟩
    obtain ⟨first, hF⟩ : ∃ first, place % T = first := ⟨_, rfl⟩
    have hfl : first < T := by rw [← hF]; exact Nat.mod_lt _ (by omega)
    have HM1 := hide (show IntKind.i64.wrap (8 * (N : Int)) = (T : Int) by rw [IntKind.wrap_i64]; omega)
    have HM2 := hide (show (place : Int).tmod (T : Int) = (first : Int) by rw [← hF]; rfl)
    have HM3 := hide (show IntKind.i64.wrap (place : Int) = (place : Int) by rw [IntKind.wrap_i64]; omega)
    have hT0 : ¬ T = 0 := by omega
    have hT1 : T ≤ 568 := by omega
    have HT := hide hT
    clear hT hF
    have hd3 : ((0 : Int) != 0) = false := by decide
    have hd4 : ((N : Int) == 0) = false := by simp; omega
    go_upto_region 7 with (fail)
    apply wp_region_s [54, 55, 56, 57, 58, 59, 60, 9]
      [.is _, .is _, .is _, .is _, .is _, .is _, .is _, .is _]
      [(3, _), (8, _)]
    · decide
    · rfl
    · kernel_rfl
    · decide +kernel
    · kernel_rfl
    · kernel_rfl
    · kernel_rfl
    · kernel_rfl
    · rfl
    · exact ⟨trivial, trivial, trivial, trivial, trivial, trivial, trivial, trivial, trivial⟩
    · refine ⟨?_, ?_, trivial⟩ <;> (simp; rfl)
    · repeat
        refine ⟨?_, ?_⟩
        · intro F W2 hF hd hR
          simp [fixedAt] at hF
          obtain ⟨t3, t8⟩ := hF
          simp [Region.binds, Ent.holds] at hd
          refine ⟨fun _ K hK => ?_, by intro g b h hn; first | (cases h; done) | (cases h; exact absurd (by simp [hd]) hn)⟩
          simp only [Ent.holds, List.getD_cons_zero, List.getD_cons_succ] at hK
          have q6 := hR.cell e2
          have m1 := HM1.out
          have m2 := HM2.out
          have m3 := HM3.out
          go_simp
          first
            | exact hK _ _ rfl (Ext.refl _)
      exact trivial
    intro X W2 hx hR
    simp only [toldX] at hx
    simp only [fillX, List.setIfInBounds_toArray, List.set_cons_succ, List.set_cons_zero]
    have HE2 := hide (HEW.out.trans hR)
    have HO1 := hide (HO0.out.ext hR)
    clear hx hR e0 e1 e2' e3' e2 e3
    go_wp2_with fail
    go_loopw [10] (fun v10 wr => ∃ k : Nat, k ≤ 16 ∧ v10 = .int .i64 k ∧ Ext w1 wr ∧ Hid (Own wr w1.heap.size 5 1 (.slice (some ⟨g, 0, none⟩) N cb) N ((burst fr first mask k).map byteV))) (fun v10 _ => 16 - (intOf v10).toNat)
    case atStart => exact ⟨0, by omega, rfl, HE2.out, HO1⟩
    case round =>
      obtain ⟨k, hk, rfl, hE, HO⟩ := hrel
      have e0 := hE.cell g0
      have e1 := hE.cell g1
      have e2 := hE.cell g2
      have e3 := hE.cell g3
      have m3 := hE.cell s3
      by_cases h16 : k < 16
      · by_cases hbt : first + k < T
        · have hdb : decide (first + k < T) = true := by simp; omega
          have hdb2 : decide ((first : Int) + (k : Int) < (T : Int)) = true := by simp; omega
          by_cases hk0 : k = 0
          · have hdk : ((k : Int) == 0) = true := by simp [hk0]
            have HTB := hide (show turnB mask k = true by unfold turnB; rw [decide_eq_true hk0]; rfl)
            clear hk0
            go_upto_region 12 with (fail)
            apply wp_region_s (68 :: 69 :: 70 :: 71 :: 72 :: 73 :: 74 :: 75 :: 76 :: 77 :: 78 :: 79 :: 80 :: 81 :: 82 :: 83 :: 84 :: 85 :: [])
              (.is _ :: .is _ :: .is _ :: .is _ :: .is _ :: .is _ :: .is _ :: .is _ :: .is _ :: .is _ :: .is _ :: .is _ :: .is _ :: .is _ :: .is _ :: .is _ :: .is _ :: .is _ :: [])
              [(3, _), (8, _), (10, _), (11, _)]
            · decide
            · rfl
            · kernel_rfl
            · decide +kernel
            · kernel_rfl
            · kernel_rfl
            · kernel_rfl
            · kernel_rfl
            · rfl
            · exact ⟨trivial, trivial, trivial, trivial, trivial, trivial, trivial, trivial, trivial, trivial, trivial, trivial, trivial, trivial, trivial, trivial, trivial, trivial, trivial⟩
            · refine ⟨?_, ?_, ?_, ?_, trivial⟩ <;> (simp; rfl)
            · repeat
                refine ⟨?_, ?_⟩
                · intro F W3 hF hd hR
                  simp [fixedAt] at hF
                  obtain ⟨t3, t8, t10, t11⟩ := hF
                  simp [Region.binds, Ent.holds] at hd
                  refine ⟨fun hgd K hK => ?_, by intro g b h hn; first | (cases h; done) | (cases h; refine absurd ?_ hn; simp [hd]; done) | (cases h; exact ⟨rfl, Ext.refl _⟩)⟩
                  first
                    | (refine absurd (hgd _ _ rfl) ?_; simp [hd]; done)
                    | (refine absurd (hgd _ _ rfl) ?_; simp [hd]; simp [undef]; done)
                    | (simp only [Ent.holds, List.getD_cons_zero, List.getD_cons_succ] at hK
                       have q7 := hR.cell m3
                       have m1 := HM1.out
                       go_simp
                       first
                         | exact hK _ _ rfl (Ext.refl _))
              exact trivial
            intro X W3 hx hR
            simp only [toldX] at hx
            simp only [fillX, List.setIfInBounds_toArray, List.set_cons_succ, List.set_cons_zero]
            have HE3 := hide (hE.trans hR)
            have HO3 := hide (HO.out.ext hR)
            clear hx hR
            obtain ⟨i, hii⟩ : ∃ i, (first + k) / 8 = i := ⟨_, rfl⟩
            obtain ⟨r, hrr⟩ : ∃ r, (first + k) % 8 = r := ⟨_, rfl⟩
            have hiN : i < N := by have := HT.out; omega
            have hr8 : r < 8 := by omega
            have hBl : (burst fr first mask k).length = N := by rw [burst_len]; exact HN.out
            obtain ⟨y, HY⟩ : ∃ y, Hid ((burst fr first mask k).getD i 0 = y) := ⟨_, rfl⟩
            have hcell := HO3.out.wcell (i := i) (u := .int .u8 (y : Nat)) (by rw [List.getElem?_map, List.getElem?_eq_getElem (by omega)]; simp only [Option.map_some]; congr 1; unfold byteV; rw [← HY.out, List.getD_eq_getElem?_getD, List.getElem?_eq_getElem (by omega)]; rfl)
            have hfz := HO3.out.wfrozen (i := i) (by omega)
            have hy := getD_mem_lt (burst fr first mask k) i 256 (by omega) (burst_lt HFL.out first mask k)
            rw [HY.out] at hy
            have HII := hide hii
            have HRR := hide hrr
            clear hii hrr hBl
            have m6 : ((first : Int) + (k : Int)) / 8 = (i : Int) := by have := HII.out; omega
            have m7 : ((first : Int) + (k : Int)) % 8 = (r : Int) := by have := HRR.out; omega
            obtain ⟨sh, hsh⟩ : ∃ sh, 128 >>> r = sh := ⟨_, rfl⟩
            have hs256 : sh < 256 := by rw [← hsh]; exact shr_lt r
            have hxv : bits .xor .u8 (y : Int) ((128 : Int) / 2 ^ r) = ((y ^^^ sh : Nat) : Int) := by
              rw [← u8_xor_nat y sh hy hs256, ← hsh, Nat.shiftRight_eq_div_pow, Int.natCast_ediv]
              simp
            have HXV := hide (show Value.int .u8 (bits .xor .u8 (y : Int) ((128 : Int) / 2 ^ r)) = byteV (y ^^^ sh) by rw [hxv]; rfl)
            have HFA := hide (show (burst fr first mask (k + 1)).map byteV = ((burst fr first mask k).map byteV).set i (byteV (y ^^^ sh)) by
              rw [burst_succ_t (by rw [HN.out]; have := HT.out; omega) HTB.out, ← List.map_set]
              unfold flipAt
              rw [HII.out, HRR.out, HY.out, hsh])
            clear hsh hxv
            have HOW := hide (HO3.out.write (i := i) (byteV (y ^^^ sh)))
            have hgw : w1.heap.size ≤ g := hg
            go_wp2_with fail
            rw [HXV.out]
            go_roundw
            case rel => exact ⟨k + 1, by omega, by go_num, HE3.out.setCell (p := ⟨g, i, none⟩) hgw _, by rw [HFA.out]; exact HOW⟩
            case measure => simp [intOf]; omega
          · have hdk : ((k : Int) == 0) = false := by simp; omega
            obtain ⟨q, hq⟩ : ∃ q, mask / 2 ^ k = q := ⟨_, rfl⟩
            have HM4 := hide (show ((mask : Int) / 2 ^ min (IntKind.u64.wrap (k : Int)).toNat 16) = (q : Int) by
              rw [show (IntKind.u64.wrap (k : Int)).toNat = k by rw [IntKind.wrap_u64]; omega, Nat.min_eq_left (by omega), ← hq, Int.natCast_ediv]
              simp)
            have HQ := hide hq
            clear hq
            by_cases hq2 : q % 2 = 1
            · have HM5 := hide (show (((q : Int).tmod 2 == 1) = true) by rw [show (q : Int).tmod 2 = ((q % 2 : Nat) : Int) from rfl, hq2]; rfl)
              have HTB := hide (show turnB mask k = true by unfold turnB; rw [HQ.out, decide_eq_true hq2, Bool.or_true])
              go_upto_region 12 with (fail)
              apply wp_region_s (68 :: 69 :: 70 :: 71 :: 72 :: 73 :: 74 :: 75 :: 76 :: 77 :: 78 :: 79 :: 80 :: 81 :: 82 :: 83 :: 84 :: 85 :: [])
                (.is _ :: .is _ :: .is _ :: .is _ :: .is _ :: .is _ :: .is _ :: .is _ :: .is _ :: .is _ :: .is _ :: .is _ :: .is _ :: .is _ :: .is _ :: .is _ :: .is _ :: .is _ :: [])
                [(3, _), (8, _), (10, _), (11, _)]
              · decide
              · rfl
              · kernel_rfl
              · decide +kernel
              · kernel_rfl
              · kernel_rfl
              · kernel_rfl
              · kernel_rfl
              · rfl
              · exact ⟨trivial, trivial, trivial, trivial, trivial, trivial, trivial, trivial, trivial, trivial, trivial, trivial, trivial, trivial, trivial, trivial, trivial, trivial, trivial⟩
              · refine ⟨?_, ?_, ?_, ?_, trivial⟩ <;> (simp; rfl)
              · repeat
                  refine ⟨?_, ?_⟩
                  · intro F W3 hF hd hR
                    simp [fixedAt] at hF
                    obtain ⟨t3, t8, t10, t11⟩ := hF
                    simp [Region.binds, Ent.holds] at hd
                    refine ⟨fun _ K hK => ?_, by intro g b h hn; first | (cases h; done) | (cases h; exact absurd (by simp [hd]) hn)⟩
                    simp only [Ent.holds, List.getD_cons_zero, List.getD_cons_succ] at hK
                    have q7 := hR.cell m3
                    have m1 := HM1.out
                    have m4 := HM4.out
                    have m5 := HM5.out
                    go_simp
                    first
                      | exact hK _ _ rfl (Ext.refl _)
                exact trivial
              intro X W3 hx hR
              simp only [toldX] at hx
              simp only [fillX, List.setIfInBounds_toArray, List.set_cons_succ, List.set_cons_zero]
              have HE3 := hide (hE.trans hR)
              have HO3 := hide (HO.out.ext hR)
              clear hx hR
              obtain ⟨i, hii⟩ : ∃ i, (first + k) / 8 = i := ⟨_, rfl⟩
              obtain ⟨r, hrr⟩ : ∃ r, (first + k) % 8 = r := ⟨_, rfl⟩
              have hiN : i < N := by have := HT.out; omega
              have hr8 : r < 8 := by omega
              have hBl : (burst fr first mask k).length = N := by rw [burst_len]; exact HN.out
              obtain ⟨y, HY⟩ : ∃ y, Hid ((burst fr first mask k).getD i 0 = y) := ⟨_, rfl⟩
              have hcell := HO3.out.wcell (i := i) (u := .int .u8 (y : Nat)) (by rw [List.getElem?_map, List.getElem?_eq_getElem (by omega)]; simp only [Option.map_some]; congr 1; unfold byteV; rw [← HY.out, List.getD_eq_getElem?_getD, List.getElem?_eq_getElem (by omega)]; rfl)
              have hfz := HO3.out.wfrozen (i := i) (by omega)
              have hy := getD_mem_lt (burst fr first mask k) i 256 (by omega) (burst_lt HFL.out first mask k)
              rw [HY.out] at hy
              have HII := hide hii
              have HRR := hide hrr
              clear hii hrr hBl
              have m6 : ((first : Int) + (k : Int)) / 8 = (i : Int) := by have := HII.out; omega
              have m7 : ((first : Int) + (k : Int)) % 8 = (r : Int) := by have := HRR.out; omega
              obtain ⟨sh, hsh⟩ : ∃ sh, 128 >>> r = sh := ⟨_, rfl⟩
              have hs256 : sh < 256 := by rw [← hsh]; exact shr_lt r
              have hxv : bits .xor .u8 (y : Int) ((128 : Int) / 2 ^ r) = ((y ^^^ sh : Nat) : Int) := by
                rw [← u8_xor_nat y sh hy hs256, ← hsh, Nat.shiftRight_eq_div_pow, Int.natCast_ediv]
                simp
              have HXV := hide (show Value.int .u8 (bits .xor .u8 (y : Int) ((128 : Int) / 2 ^ r)) = byteV (y ^^^ sh) by rw [hxv]; rfl)
              have HFA := hide (show (burst fr first mask (k + 1)).map byteV = ((burst fr first mask k).map byteV).set i (byteV (y ^^^ sh)) by
                rw [burst_succ_t (by rw [HN.out]; have := HT.out; omega) HTB.out, ← List.map_set]
                unfold flipAt
                rw [HII.out, HRR.out, HY.out, hsh])
              clear hsh hxv
              have HOW := hide (HO3.out.write (i := i) (byteV (y ^^^ sh)))
              have hgw : w1.heap.size ≤ g := hg
              go_wp2_with fail
              rw [HXV.out]
              go_roundw
              case rel => exact ⟨k + 1, by omega, by go_num, HE3.out.setCell (p := ⟨g, i, none⟩) hgw _, by rw [HFA.out]; exact HOW⟩
              case measure => simp [intOf]; omega
            · have HM5 := hide (show (((q : Int).tmod 2 == 1) = false) by rw [show (q : Int).tmod 2 = ((q % 2 : Nat) : Int) from rfl]; simp; omega)
              have HTB := hide (show turnB mask k = false by unfold turnB; rw [HQ.out, decide_eq_false hq2, decide_eq_false hk0]; rfl)
              go_upto_region 12 with (fail)
              apply wp_region_s (68 :: 69 :: 70 :: 71 :: 72 :: 73 :: 74 :: 75 :: 76 :: 77 :: 78 :: 79 :: 80 :: 81 :: 82 :: 83 :: 84 :: 85 :: [])
                (.is _ :: .is _ :: .is _ :: .is _ :: .is _ :: .is _ :: .is _ :: .is _ :: .is _ :: .is _ :: .is _ :: .is _ :: .is _ :: .is _ :: .is _ :: .is _ :: .is _ :: .is _ :: [])
                [(3, _), (8, _), (10, _), (11, _)]
              · decide
              · rfl
              · kernel_rfl
              · decide +kernel
              · kernel_rfl
              · kernel_rfl
              · kernel_rfl
              · kernel_rfl
              · rfl
              · exact ⟨trivial, trivial, trivial, trivial, trivial, trivial, trivial, trivial, trivial, trivial, trivial, trivial, trivial, trivial, trivial, trivial, trivial, trivial, trivial⟩
              · refine ⟨?_, ?_, ?_, ?_, trivial⟩ <;> (simp; rfl)
              · repeat
                  refine ⟨?_, ?_⟩
                  · intro F W3 hF hd hR
                    simp [fixedAt] at hF
                    obtain ⟨t3, t8, t10, t11⟩ := hF
                    simp [Region.binds, Ent.holds] at hd
                    refine ⟨fun _ K hK => ?_, by intro g b h hn; first | (cases h; done) | (cases h; exact absurd (by simp [hd]) hn)⟩
                    simp only [Ent.holds, List.getD_cons_zero, List.getD_cons_succ] at hK
                    have q7 := hR.cell m3
                    have m1 := HM1.out
                    have m4 := HM4.out
                    have m5 := HM5.out
                    go_simp
                    first
                      | exact hK _ _ rfl (Ext.refl _)
                exact trivial
              intro X W3 hx hR
              simp only [toldX] at hx
              simp only [fillX, List.setIfInBounds_toArray, List.set_cons_succ, List.set_cons_zero]
              have HE3 := hide (hE.trans hR)
              have HO3 := hide (HO.out.ext hR)
              clear hx hR
              go_wp2_with fail
              go_roundw
              case rel => exact ⟨k + 1, by omega, by go_num, HE3.out, by rw [burst_succ_f (fun h => by rw [HTB.out] at h; cases h.2)]; exact HO3⟩
              case measure => simp [intOf]; omega
        · have hdb : decide (first + k < T) = false := by simp; omega
          have hdb2 : decide ((first : Int) + (k : Int) < (T : Int)) = false := by simp; omega
          go_upto_region 12 with (fail)
          apply wp_region_s (68 :: 69 :: 70 :: 71 :: 72 :: 73 :: 74 :: 75 :: 76 :: 77 :: 78 :: 79 :: 80 :: 81 :: 82 :: 83 :: 84 :: 85 :: [])
            (.is _ :: .is _ :: .is _ :: .is _ :: .is _ :: .is _ :: .is _ :: .is _ :: .is _ :: .is _ :: .is _ :: .is _ :: .is _ :: .is _ :: .is _ :: .is _ :: .is _ :: .is _ :: [])
            [(3, _), (8, _), (10, _), (11, _)]
          · decide
          · rfl
          · kernel_rfl
          · decide +kernel
          · kernel_rfl
          · kernel_rfl
          · kernel_rfl
          · kernel_rfl
          · rfl
          · exact ⟨trivial, trivial, trivial, trivial, trivial, trivial, trivial, trivial, trivial, trivial, trivial, trivial, trivial, trivial, trivial, trivial, trivial, trivial, trivial⟩
          · refine ⟨?_, ?_, ?_, ?_, trivial⟩ <;> (simp; rfl)
          · repeat
              refine ⟨?_, ?_⟩
              · intro F W3 hF hd hR
                simp [fixedAt] at hF
                obtain ⟨t3, t8, t10, t11⟩ := hF
                simp [Region.binds, Ent.holds] at hd
                refine ⟨fun hgd K hK => ?_, by intro g b h hn; first | (cases h; done) | (cases h; refine absurd ?_ hn; simp [hd]; done) | (cases h; exact ⟨rfl, Ext.refl _⟩)⟩
                first
                  | (refine absurd (hgd _ _ rfl) ?_; simp [hd]; done)
                  | (refine absurd (hgd _ _ rfl) ?_; simp [hd]; simp [undef]; done)
                  | (simp only [Ent.holds, List.getD_cons_zero, List.getD_cons_succ] at hK
                     have q7 := hR.cell m3
                     have m1 := HM1.out
                     go_simp
                     first
                       | exact hK _ _ rfl (Ext.refl _))
            exact trivial
          intro X W3 hx hR
          simp only [toldX] at hx
          simp only [fillX, List.setIfInBounds_toArray, List.set_cons_succ, List.set_cons_zero]
          have HE3 := hide (hE.trans hR)
          have HO3 := hide (HO.out.ext hR)
          clear hx hR
          go_wp2_with fail
          go_roundw
          case rel => exact ⟨k + 1, by omega, by go_num, HE3.out, by rw [burst_succ_f (fun h => hbt (by have := HT.out; rw [HN.out] at h; omega))]; exact HO3⟩
          case measure => simp [intOf]; omega
      · obtain rfl : k = 16 := by omega
        have HBY := hide (Own.bytes HO.out (burst_lt HFL.out first mask 16))
        have hbl := burst_len fr first mask 16
        rw [HN.out] at hbl
        have hde : decErr f (burst fr first mask 16).length = 0 := by unfold decErr; rw [if_neg (by rw [HC.out]; decide), if_neg (by omega)]
        have HDC := hide (decode_any _ _ f _ wr (HV.out.ext (HX1.out.trans hE)) HBY.out)
        unfold DecR at HDC
        rw [hde, HNO.out first (by have := HT.out; omega)] at HDC
        clear hbl hde
        go_wp2_with fail
        refine HDC.out.mono ?_
        rintro e w3 ⟨lv, gv, rfl, h1, _, hx3⟩
        obtain ⟨xs, hds, hfr, _⟩ := h1 trivial
        obtain rfl : xs = [] := by unfold ds at hds; exact List.map_eq_nil_iff.1 hds
        obtain ⟨AL, capL, rfl, _, _, _, _⟩ := hfr
        have HX3 := hide ((HX1.out.trans hE).trans hx3)
        clear h1 hds hx3
        go_wp2_with (go_at_call 21; refine (HA.out _).mono ?_; rintro e w5 ⟨rfl, hx5⟩)
        go_ret
        exact ⟨rfl, HX3.out.trans hx5⟩
  · have hz : ((chk f).2.2 == 0) = false := by simpa using hc
    have hz' : ((chk f).2.2 != 0) = true := by simpa using hc
    clear hc
    generalize (chk f).1 = ck1 at *
    generalize (chk f).2.1 = ck2 at *
    generalize (chk f).2.2 = ck3 at *
    go_enter Try.func9, Try.ntmps9
    go_wp2_with fail
    rw [HW0.out]
    refine Calls.mono HCH.out ?_
    rintro e w1 ⟨rfl, hx1⟩
    have HX1 := hide (HX0.out.trans hx1)
    clear hx1
    go_wp2_with (go_at_call 21; refine (HA.out _).mono ?_; rintro e w5 ⟨rfl, hx5⟩)
    go_ret
    exact ⟨rfl, HX1.out.trans hx5⟩
end FrameBurstLaw
end Go.Proofs.Ytjnnkcnnandeeaa

