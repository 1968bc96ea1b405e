/- The walk of Sent.bytes: the frames as they are sent. -/
import Derived.Test.YtjnnkcnnandeeaaWSentL
import Derived.Test.YtjnnkcnnandeeaaPRound
import Derived.Test.YtjnnkcnnandeeaaDet
namespace Go.Proofs.Ytjnnkcnnandeeaa
open Go.RowKit
theorem sNums_bd : ∀ (a : List Nat) (n : Int), ∀ y ∈ sNums n a, n ≤ y ∧ y ≤ sAfter n a - 1
  | [], n, y, h => by simp [sNums] at h
  | s :: r, n, y, h => by
    rw [sNums] at h
    rw [sAfter]
    have ha := sAfter_ge r (n + (s : Int) + 1)
    rcases List.mem_cons.1 h with rfl | h
    · omega
    · have := sNums_bd r _ y h
      omega
where sAfter_ge : ∀ (a : List Nat) (n : Int), n ≤ sAfter n a
  | [], n => Int.le_refl _
  | s :: r, n => by rw [sAfter]; have := sAfter_ge r (n + (s : Int) + 1); omega
theorem sOk_t {x : SentD} (h : sentOk x = true) : 0 ≤ x.first ∧ x.first ≤ 1000000 ∧ sAfter x.first x.steps ≤ 1000001 ∧ sentNums x = sNums x.first x.steps := by
  unfold sentOk at h
  rw [Bool.and_eq_true] at h
  have h1 := h.1
  have h2 := of_decide_eq_true h.2
  unfold sOk at h1
  have h3 := outB_f.1 (by simpa using h1 : outB x.first 0 1000000 = false)
  exact ⟨h3.1, h3.2, by omega, by unfold sentNums sOk; rw [if_pos h1]⟩
theorem sentNums_bd {x : SentD} (h : sentOk x = true) : ∀ y ∈ sentNums x, 0 ≤ y ∧ y ≤ 1000000 := by
  obtain ⟨h1, h2, h3, h4⟩ := sOk_t h
  rw [h4]
  intro y hy
  have := sNums_bd _ _ y hy
  omega
theorem sentNums_len (x : SentD) (h : sentOk x = true) : (sentNums x).length = x.steps.length := by rw [(sOk_t h).2.2.2, sNums_len]
/-- The frames that are sent: their numbers and words. -/
def sPair (f : Fmt) (x : SentD) (i : Nat) : Int × List Int := ((sentNums x).getD i 0, sList x.words i f.words.toNat)
def sPairs (f : Fmt) (x : SentD) (k : Nat) : List (Int × List Int) := (List.range k).map (sPair f x)
def sBytes (f : Fmt) (x : SentD) : List Nat := cat f (sPairs f x (sentNums x).length)
/-- Whether they can be sent. -/
def bytesOk (f : Fmt) (x : SentD) : Bool := decide ((chk f).2.2 = 0) && (sentOk x && decide ((sBytes f x).length ≤ 4000))
theorem sList_len (ws : List Int) (i many : Nat) : (sList ws i many).length = many := by unfold sList; simp
theorem sList_bd {ws : List Int} (h : ∀ y ∈ ws, 0 ≤ y ∧ y < 65536) (i many : Nat) : ∀ y ∈ sList ws i many, 0 ≤ y ∧ y ≤ 65535 := by
  intro y hy
  unfold sList at hy
  obtain ⟨k, _, rfl⟩ := List.mem_map.1 hy
  have := sWord_le h i many k
  omega
theorem sPair_ok {f : Fmt} {x : SentD} (hw : 1 ≤ f.words) (h : ∀ y ∈ x.words, 0 ≤ y ∧ y < 65536) (i : Nat) : FrOk f (sPair f x i) :=
  ⟨by unfold sPair; dsimp only; rw [sList_len]; omega, sList_bd h _ _⟩
theorem sPairs_ok {f : Fmt} {x : SentD} (hw : 1 ≤ f.words) (h : ∀ y ∈ x.words, 0 ≤ y ∧ y < 65536) (k : Nat) : ∀ p ∈ sPairs f x k, FrOk f p := by
  intro p hp
  unfold sPairs at hp
  obtain ⟨i, _, rfl⟩ := List.mem_map.1 hp
  exact sPair_ok hw h i
theorem sPairs_snoc (f : Fmt) (x : SentD) (k : Nat) : cat f (sPairs f x (k + 1)) = cat f (sPairs f x k) ++ frameOf f (sPair f x k).1 (sPair f x k).2 := by
  unfold sPairs cat
  rw [List.range_succ, List.map_append, List.flatMap_append]
  simp
theorem sPairs_len (f : Fmt) (x : SentD) (k : Nat) : (sPairs f x k).length = k := by unfold sPairs; simp
theorem sent_enc {f : Fmt} {x : SentD} (hc : (chk f).2.2 = 0) (hs : sentOk x = true) (h : ∀ y ∈ x.words, 0 ≤ y ∧ y < 65536) {i : Nat} (hi : i < (sentNums x).length) :
    encErr f ((sentNums x).getD i 0) (sList x.words i f.words.toNat) = 0 ∧ encOf f ((sentNums x).getD i 0) (sList x.words i f.words.toNat) = frameOf f (sPair f x i).1 (sPair f x i).2 := by
  obtain ⟨c1, c2, c3, c4, c5, _⟩ := chk_ok hc
  have hn := sentNums_bd hs _ (getD_mem (0 : Int) hi)
  have hk := sPair_ok (f := f) (x := x) c4 h i
  have he : encErr f ((sentNums x).getD i 0) (sList x.words i f.words.toNat) = 0 := by
    refine encErr_ok (askErr_ok hc (outB_f.2 hn)) hk.1 ?_
    unfold badB
    rw [anyB_f]
    intro j hj
    rw [outB_f]
    exact hk.2 _ (getD_mem (0 : Int) hj)
  refine ⟨he, ?_⟩
  unfold encOf
  rw [if_pos he]
  rfl
/-- What Encode hands back. -/
def EncR (l : List Nat) (v : Value) (w : World) : Prop := ∃ r, v = .tuple #[r, .int .i64 0] ∧ BytesV w r l
theorem EncR.ext {l : List Nat} {v : Value} {A B : World} (h : EncR l v A) (k : Ext A B) : EncR l v B := by
  obtain ⟨r, h1, h2⟩ := h
  exact ⟨r, h1, h2.ext k⟩
theorem BytesV.src {w : World} {A : Option Addr} {n cap : Nat} {l : List Nat} (h : BytesV w (.slice A n cap) l) : n = l.length ∧ Src w A n 1 (l.map byteV) := by
  obtain ⟨_, A', cap', e, _, _, hr⟩ := h
  injection e with e1 e2 e3
  subst e1; subst e2
  refine ⟨rfl, ?_⟩
  have := hr.src
  rw [show (List.range l.length).map (fun j => Value.int .u8 (l.getD j 0 : Nat)) = l.map byteV from map_range_getD l 0 byteV] at this
  exact this
/-- What Sent.bytes hands back. -/
def SbR (f : Fmt) (x : SentD) (w : World) (e : Ending) (w' : World) : Prop :=
  ∃ r l, e = .returned (.tuple #[r, l, .bool (bytesOk f x)]) ∧ (bytesOk f x = true → BytesV w' r (sBytes f x) ∧ IntsV w' .i64 l (sentNums x)) ∧ Ext w w'
set_option maxRecDepth 100000 in
set_option maxHeartbeats 2000000 in
/-- law.Sent.bytes -/
theorem sbytes_any (v u : Value) (x : SentD) (f : Fmt) (w : World) (hv : SentV w v x) (hu : FmtV w u f) (hlen : x.steps.length ≤ 1048576) :
    Calls Try.prog 35 #[v, u] w fun e w' => SbR f x w e w' := by
  have HV := hide hv
  have HU := hide hu
  have HWB := hide hv.1
  obtain ⟨_, s, t, rfl, ⟨_, As, caps, rfl, _, _, _⟩, ⟨A, cap, rfl, _, _, _⟩⟩ := hv
  obtain ⟨_, _, AF, capF, rfl, _, _, _⟩ := hu
  obtain ⟨W0, hW0⟩ : ∃ W0, (w.alloc (.cells #[.int .i64 x.first, .slice As x.steps.length caps, .slice A x.words.length cap] 55)).alloc (.cells #[.string f.sync, .int .i64 f.words, .int .i64 f.depth, .slice AF f.channels.length capF] 28) = W0 := ⟨_, rfl⟩
  have hx0 : Ext w W0 := by rw [← hW0]; exact ((Ext.refl w).alloc _).alloc _
  have G0 := hide (show W0.cell? ⟨w.heap.size + 1, 0, none⟩ = some (.string f.sync) by rw [← hW0]; simp)
  have G1 := hide (show W0.cell? ⟨w.heap.size + 1, 1, none⟩ = some (.int .i64 f.words) by rw [← hW0]; simp)
  have G2 := hide (show W0.cell? ⟨w.heap.size + 1, 2, none⟩ = some (.int .i64 f.depth) by rw [← hW0]; simp)
  have G3 := hide (show W0.cell? ⟨w.heap.size + 1, 3, none⟩ = some (.slice AF f.channels.length capF) by rw [← hW0]; simp)
  have S0 := hide (show W0.cell? ⟨w.heap.size, 0, none⟩ = some (.int .i64 x.first) by rw [← hW0]; simp)
  have S1 := hide (show W0.cell? ⟨w.heap.size, 1, none⟩ = some (.slice As x.steps.length caps) by rw [← hW0]; simp)
  have S2 := hide (show W0.cell? ⟨w.heap.size, 2, none⟩ = some (.slice A x.words.length cap) by rw [← hW0]; simp)
  have HX0 := hide hx0
  have HW0 := hide hW0
  clear hW0
  have HCH := hide (check_any _ f W0 (HU.out.ext hx0))
  have HNU := hide (fun W (hx : Ext w W) => snumbers_any _ x W (HV.out.ext hx) hlen)
  clear hx0
  have hbk : bytesOk f x = (decide ((chk f).2.2 = 0) && (sentOk x && decide ((sBytes f x).length ≤ 4000))) := rfl
  by_cases hc : (chk f).2.2 = 0
  · have HC := hide hc
    rw [hc] at hbk HCH
    obtain ⟨k1, k2, k3, k4, k5, _⟩ := chk_ok hc
    generalize (chk f).1 = ck1 at *
    generalize (chk f).2.1 = ck2 at *
    clear hc
    have hd1 : ¬ f.words < 1 := by omega
    have hd2 : ¬ 32 < f.words := by omega
    cases hs : sentOk x with
    | false =>
      rw [hs] at HNU hbk
      have HBK := hide hbk
      clear hs hbk
      go_enter Try.func35, Try.ntmps35
      go_wp2_with fail
      rw [HW0.out]
      refine Calls.mono HCH.out ?_
      rintro e w1 ⟨rfl, hx1⟩
      have s0 := hx1.cell S0.out
      have s1 := hx1.cell S1.out
      have s2 := hx1.cell S2.out
      have HX1 := hide (HX0.out.trans hx1)
      clear hx1
      go_wp2_with fail
      refine (HNU.out _ HX1.out).mono ?_
      rintro e w2 ⟨r, rfl, hr, hx2⟩
      go_wp2_with fail
      go_ret3
      exact ⟨_, _, by rw [HBK.out]; rfl, (fun h => by rw [HBK.out] at h; cases h), HX1.out.trans hx2⟩
    | true =>
      have HS := hide hs
      rw [hs] at HNU hbk
      have HBK := hide (show bytesOk f x = decide ((sBytes f x).length ≤ 4000) by rw [hbk]; simp)
      have hnl : (sentNums x).length ≤ 1048576 := by rw [sentNums_len x hs]; exact hlen
      have HEN := hide (fun (i : Nat) (hi : i < (sentNums x).length) => sent_enc HC.out HS.out HWB.out hi)
      have HSB : Hid (sBytes f x = cat f (sPairs f x (sentNums x).length)) := rfl
      have HOK := hide (fun k => cat_len (sPairs_ok (f := f) (x := x) k4 HWB.out k))
      clear hs hbk
      have hsz : sizeF f ≤ 71 := by unfold sizeF bodyF; omega
      obtain ⟨wn, hwn⟩ := Int.eq_ofNat_of_zero_le (by omega : 0 ≤ f.words)
      have HWN := hide hwn
      have HE := hide (fun W r (i : Nat) (hx : Ext w W) (hi : i < (sentNums x).length) (hr : IntsV W .i64 r (sList x.words i f.words.toNat)) => encode_any _ r f ((sentNums x).getD i 0) (sList x.words i f.words.toNat) W (HU.out.ext hx) hr)
      have HL := hide (fun W (i : Nat) (hx : Ext w W) (hi : i ≤ 1048576) => slist_any _ x i f.words.toNat W (HV.out.ext hx) hi (by omega))
      clear hwn
      go_enter Try.func35, Try.ntmps35
      go_wp2_with fail
      rw [HW0.out]
      refine Calls.mono HCH.out ?_
      rintro e w1 ⟨rfl, hx1⟩
      have s0 := hx1.cell S0.out
      have s1 := hx1.cell S1.out
      have s2 := hx1.cell S2.out
      have HX1 := hide (HX0.out.trans hx1)
      have HE1 := hide hx1
      clear hx1
      go_wp2_with fail
      refine (HNU.out _ HX1.out).mono ?_
      rintro e w2 ⟨r, rfl, hr, hx2⟩
      have HX2 := hide (HX1.out.trans hx2)
      have HR := hide hr
      obtain ⟨An, capn, rfl, hcn, hmn, hrn⟩ := hr
      have HRN := hide hrn
      clear hrn
      have hmn' : capn ≤ 9223372036854775807 := by simpa [maxLen] using hmn
      have g0 := hx2.cell (HE1.out.cell G0.out)
      have g1 := hx2.cell (HE1.out.cell G1.out)
      have g2 := hx2.cell (HE1.out.cell G2.out)
      have g3 := hx2.cell (HE1.out.cell G3.out)
      have t0 := hx2.cell s0
      have t1 := hx2.cell s1
      have t2 := hx2.cell s2
      clear hx2 s0 s1 s2 hmn
      go_wp2_with fail
      obtain ⟨i0, hi0, hz0, hz1, hz2⟩ := info_parts u8_info
      go_loopw [12, 13] (fun v12 v13 wr => ∃ i : Nat, i ≤ (sentNums x).length ∧ v13 = .int .i64 i ∧ Ext w2 wr ∧ Hid (Own wr w2.heap.size 5 1 v12 (i * sizeF f) ((cat f (sPairs f x i)).map byteV))) (fun _ v13 _ => (sentNums x).length - (intOf v13).toNat)
      case atStart => exact ⟨0, by omega, rfl, Ext.refl _, hide (Own.of_eq (Own.nil _ _ _ _) (by simp) rfl)⟩
      case round =>
        obtain ⟨i, hi, rfl, hE, HO⟩ := hrel
        obtain ⟨A12, c12, rfl, hl12, hm12, _⟩ := HO.out.form
        have hm12' : c12 ≤ 9223372036854775807 := by simpa [maxLen] using hm12
        clear hm12
        have him : i * sizeF f ≤ 1048576 * 71 := Nat.mul_le_mul (by omega) hsz
        by_cases h8 : i < (sentNums x).length
        · have HENi := HEN.out i h8
          have HEi := hide (fun W r (hx : Ext wr W) (hr : IntsV W .i64 r (sList x.words i f.words.toNat)) => HE.out W r i ((HX2.out.trans hE).trans hx) h8 hr)
          rw [HENi.1, HENi.2] at HEi
          have HLi := hide (fun W (hx : Ext wr W) => HL.out W i ((HX2.out.trans hE).trans hx) (by omega))
          rw [show ((f.words.toNat : Nat) : Int) = f.words by omega] at HLi
          have HFL := hide (frameOf_len (sPair_ok (f := f) (x := x) k4 HWB.out i))
          have HSN := hide (sPairs_snoc f x i)
          obtain ⟨bn, bo, nx, rfl, _, hcn0, HNX⟩ := ints_at (HRN.out.ext hE) h8
          rw [HNX.out] at HEi
          have HSZ := hide (show (i + 1) * sizeF f = i * sizeF f + sizeF f from Nat.succ_mul _ _)
          generalize hfr : frameOf f (sPair f x i).1 (sPair f x i).2 = fr at *
          generalize hsl : sList x.words i f.words.toNat = sl at *
          generalize hzz : sizeF f = z at *
          generalize hiz : i * z = iz at *
          clear HENi hfr hsl hzz hiz
          have e0 := hE.cell g0
          have e1 := hE.cell g1
          have e2 := hE.cell g2
          have e3 := hE.cell g3
          have e4 := hE.cell t0
          have e5 := hE.cell t1
          have e6 := hE.cell t2
          go_wp2_with fail
          apply wp_region_x [50, 51, 52, 53, 54, 55, 56, 57, 58, 59, 60, 49, 61, 62, 14, 15]
            [.is _, .is _, .is _, .is _, .is _, .is _, .is _, .is _, .is _, .so (fun v w => IntsV w .i64 v sl), .so (EncR fr), .so (EncR fr), .so (fun v w => BytesV w v fr), .is _, .so (fun v w => BytesV w v fr), .is _]
          · kernel_rfl
          · decide
          · rfl
          · kernel_rfl
          · decide +kernel
          · kernel_rfl
          · kernel_rfl
          · kernel_rfl
          · exact ⟨trivial, trivial, trivial, trivial, trivial, trivial, trivial, trivial, trivial, fun _ _ _ h k => h.ext k, fun _ _ _ h k => h.ext k, fun _ _ _ h k => h.ext k, fun _ _ _ h k => h.ext k, trivial, fun _ _ _ h k => h.ext k, trivial, trivial⟩
          · repeat
              refine ⟨?_, ?_⟩
              · intro x W hd hR
                simp [Region.binds, Ent.holds] at hd
                refine ⟨fun _ K hK => ?_, by intro g b h hn; first | (cases h; done) | (cases h; exact absurd (by simp [hd]) hn)⟩
                simp only [fill, Act.put, List.setIfInBounds_toArray, List.set_cons_succ, List.set_cons_zero, List.getD_cons_zero, List.getD_cons_succ, Ent.holds] at hK ⊢
                try simp only [hd] at hK ⊢
                have q0 := hR.cell e0
                have q1 := hR.cell e1
                have q2 := hR.cell e2
                have q3 := hR.cell e3
                have q4 := hR.cell e4
                have q5 := hR.cell e5
                have q6 := hR.cell e6
                have q7 := hR.cell hcn0
                go_simp
                first
                  | exact hK _ _ rfl (Ext.refl _)
                  | (refine (HLi.out _ hR).mono ?_
                     rintro e w4 ⟨r, rfl, hi4, hx4⟩
                     exact hK _ _ hi4 hx4)
                  | (refine (HEi.out _ _ hR (by first | exact hd | exact hd.2 | exact hd.2.2 | exact hd.1 | exact hd.2.1)).mono ?_
                     rintro e w4 ⟨r, rfl, hb4, hx4⟩
                     exact hK _ _ ⟨r, rfl, hb4⟩ hx4)
                  | (exact hK _ _ hd (Ext.refl _))
                  | (obtain ⟨r, hr, hb⟩ := hd
                     simp only [hr] at hK ⊢
                     go_simp
                     first
                       | exact hK _ _ hb (Ext.refl _)
                       | exact hK _ _ rfl (Ext.refl _))
                  | (exact hK _ _ hd.1 (Ext.refl _))
            exact trivial
          intro X W hx hR
          simp only [toldX] at hx
          simp only [fillX, List.setIfInBounds_toArray, List.set_cons_succ, List.set_cons_zero]
          obtain ⟨hx59, hx60, hx49, hx61, hx14, _⟩ := hx
          have hb := hx14
          obtain ⟨_, Ab, cb, eb, _, _, _⟩ := hb
          rw [eb] at hx14
          have HSRC := hide hx14.src.2
          rw [HFL.out] at eb HSRC
          have HEW := hide (hE.trans hR)
          have HOW := hide (HO.out.ext hR)
          have hszw := (hE.trans hR).size
          clear hx59 hx60 hx49 hx61 hx14 hR
          rw [eb]
          have hz9 : ((0 : Int) != 0) = false := by decide
          go_wp2_with (
            at_builtin
            refine wpList_app rfl (.tmp 65) (.tmp 66) 22 rfl w2.heap.size 5 i0 _ 1 1 Try.underlying22 hi0 hz0 hz1 hz2 rfl _ iz _ rfl HOW.out Ab z cb (fr.map byteV) rfl HSRC.out (byteV_one _) (by simp [maxLen]; omega) (by omega) hszw ?_
            intro v4 w4 hown4 hb4)
          go_roundw
          case rel => exact ⟨i + 1, by omega, by go_num, HEW.out.step hb4 (Nat.le_refl _), hide (Own.of_eq hown4 HSZ.out.symm (by rw [HSN.out, List.map_append]))⟩
          case measure => simp [intOf]; omega
        · obtain rfl : i = (sentNums x).length := by omega
          have HLN := hide (cat_len (sPairs_ok (f := f) (x := x) k4 HWB.out (sentNums x).length))
          rw [sPairs_len] at HLN
          have HBY := hide (Own.bytes HO.out (cat_lt (sPairs_ok (f := f) (x := x) k4 HWB.out (sentNums x).length)))
          have HIN := hide (HR.out.ext hE)
          have hbk : bytesOk f x = decide (((sentNums x).length * sizeF f : Nat) ≤ 4000) := by rw [HBK.out, HSB.out, HLN.out]
          generalize hiz : (sentNums x).length * sizeF f = iz at *
          clear hiz
          have HB2 := hide (show bytesOk f x = decide ((iz : Int) ≤ 4000) by rw [hbk]; exact decide_eq_decide.2 (by omega))
          clear hbk
          go_wp2_with fail
          go_ret3
          exact ⟨_, _, by rw [HB2.out]; rfl, fun _ => ⟨by rw [HSB.out]; exact HBY.out, HIN.out⟩, HX2.out.trans hE⟩
  · have hz : ((chk f).2.2 == 0) = false := by simpa using hc
    have hz' : ((chk f).2.2 != 0) = true := by simpa using hc
    have HBK := hide (show bytesOk f x = false by rw [hbk]; simp [hc])
    clear hc hbk
    generalize (chk f).1 = ck1 at *
    generalize (chk f).2.1 = ck2 at *
    generalize (chk f).2.2 = ck3 at *
    generalize sentOk x = so at *
    go_enter Try.func35, Try.ntmps35
    go_wp2_with fail
    rw [HW0.out]
    refine Calls.mono HCH.out ?_
    rintro e w1 ⟨rfl, hx1⟩
    have s0 := hx1.cell S0.out
    have s1 := hx1.cell S1.out
    have s2 := hx1.cell S2.out
    have HX1 := hide (HX0.out.trans hx1)
    clear hx1
    go_wp2_with fail
    refine (HNU.out _ HX1.out).mono ?_
    rintro e w2 ⟨r, rfl, hr, hx2⟩
    go_wp2_with fail
    go_ret3
    exact ⟨_, _, by rw [HBK.out]; rfl, (fun h => by rw [HBK.out] at h; cases h), HX1.out.trans hx2⟩
end Go.Proofs.Ytjnnkcnnandeeaa

