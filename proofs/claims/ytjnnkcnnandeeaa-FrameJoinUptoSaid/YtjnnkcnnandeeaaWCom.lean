/- The walks of Commute: the program's and the reference's. -/
import Derived.Test.YtjnnkcnnandeeaaWRefEnc
import Derived.Deep.OwnRows
namespace Go.Proofs.Ytjnnkcnnandeeaa
open Go.RowKit
/-- The error of Commute. -/
def comErr (f : Fmt) (n : Int) (l : List Int) : Int :=
  if askErr f n ≠ 0 then askErr f n else if l.length ≠ f.channels.length then 2 else if badB l = true then 7 else 0
/-- The words of a frame, the first k channels laid. -/
def comAt (f : Fmt) (n : Int) (l : List Int) : Nat → List Int
  | 0 => List.replicate f.words.toNat 0
  | k + 1 => if n % (f.channels.getD k default).every = (f.channels.getD k default).phase then (comAt f n l k).set (f.channels.getD k default).word.toNat (l.getD k 0) else comAt f n l k
def comOf (f : Fmt) (n : Int) (l : List Int) : List Int := if comErr f n l = 0 then comAt f n l f.channels.length else []
theorem comAt_length (f : Fmt) (n : Int) (l : List Int) : ∀ k, (comAt f n l k).length = f.words.toNat
  | 0 => by simp [comAt]
  | k + 1 => by
    unfold comAt
    split
    · rw [List.length_set, comAt_length f n l k]
    · exact comAt_length f n l k
/-- A block of integers that is known whole. -/
def Made (w : World) (G : Nat) (ws : List Int) : Prop := w.heap[G]? = some (.cells (ws.map (Value.int .i64)).toArray 3 (0, 0))
section
variable {w w' : World} {G : Nat} {ws : List Int}
theorem Made.lt (h : Made w G ws) : G < w.heap.size := (Array.getElem?_eq_some_iff.1 h).1
theorem Made.cell (h : Made w G ws) {i : Nat} (hi : i < ws.length) : w.cell? ⟨G, i, none⟩ = some (.int .i64 (ws.getD i 0)) := by
  rw [cell_of_row w G i _ 3 (0, 0) h]
  simp [List.getD_eq_getElem?_getD, hi]
theorem Made.frozen (h : Made w G ws) (i : Nat) : w.frozen? ⟨G, i, none⟩ = false := by
  unfold Made at h
  simp [World.frozen?, h]
theorem Made.ext (h : Made w G ws) (k : Ext w w') : Made w' G ws := (Below.block k G h.lt).trans h
theorem Made.set (h : Made w G ws) (i : Nat) (x : Int) : Made (w.setCell ⟨G, i, none⟩ (.int .i64 x)) G (ws.set i x) := by
  unfold Made at h ⊢
  simp [World.setCell, Array.getElem?_modify, h, List.map_set]
theorem Made.ints (h : Made w G ws) (hm : ws.length ≤ maxLen) {n : Nat} (hn : ws.length = n) : IntsV w .i64 (.slice (some ⟨G, 0, none⟩) n n) ws := by
  subst hn
  exact ⟨_, _, rfl, Nat.le_refl _, hm, fun _ => ⟨G, 0, rfl, h.lt, fun j hj => by rw [Nat.zero_add]; exact h.cell hj⟩⟩
theorem Made.new (w : World) (n : Nat) : Made (w.alloc (.cells (madeCells #[.int .i64 0] n) 3)) w.heap.size (List.replicate n 0) := by
  unfold Made
  rw [World.alloc_heap_new]
  congr 2
  apply Array.ext'
  rw [toList_madeCells_one]
  simp
end
theorem box4 (w : World) (a b c d : Value) (t : TypeId) {W' : World} (hx : Ext (w.alloc (.cells #[a, b, c, d] t)) W') :
    W'.cell? ⟨w.heap.size, 0, none⟩ = some a ∧ W'.cell? ⟨w.heap.size, 1, none⟩ = some b ∧ W'.cell? ⟨w.heap.size, 2, none⟩ = some c ∧ W'.cell? ⟨w.heap.size, 3, none⟩ = some d :=
  ⟨hx.cell (by simp), hx.cell (by simp), hx.cell (by simp), hx.cell (by simp)⟩
theorem comErr_ask {f : Fmt} {n : Int} {l : List Int} (h : askErr f n ≠ 0) : comErr f n l = askErr f n := by unfold comErr; rw [if_pos h]
theorem comErr_len {f : Fmt} {n : Int} {l : List Int} (h : askErr f n = 0) (hl : l.length ≠ f.channels.length) : comErr f n l = 2 := by unfold comErr; rw [if_neg (by simpa using h), if_pos hl]
theorem comErr_word {f : Fmt} {n : Int} {l : List Int} (h : askErr f n = 0) (hl : l.length = f.channels.length) (hb : badB l = true) : comErr f n l = 7 := by unfold comErr; rw [if_neg (by simpa using h), if_neg (by simpa using hl), if_pos hb]
theorem comErr_ok {f : Fmt} {n : Int} {l : List Int} (h : askErr f n = 0) (hl : l.length = f.channels.length) (hb : badB l = false) : comErr f n l = 0 := by unfold comErr; rw [if_neg (by simpa using h), if_neg (by simpa using hl), if_neg (by rw [hb]; decide)]
theorem comOf_bad {f : Fmt} {n : Int} {l : List Int} (h : comErr f n l ≠ 0) : comOf f n l = [] := by unfold comOf; rw [if_neg h]
set_option maxRecDepth 100000 in
set_option maxHeartbeats 2000000 in
/-- frame.Commute -/
theorem commute_any (v u : Value) (f : Fmt) (n : Int) (l : List Int) (w : World) (hv : FmtV w v f) (hu : IntsV w .i64 u l) :
    Calls Try.prog 22 #[v, .int .i64 n, u] w fun e w' => ∃ r, e = .returned (.tuple #[r, .int .i64 (comErr f n l)]) ∧ IntsV w' .i64 r (comOf f n l) ∧ Ext w w' := by
  have HV := hide hv
  have HU := hide hu
  obtain ⟨_, _, A, cap, rfl, hcap, hmax, hrow⟩ := hv
  obtain ⟨A', cap', rfl, hcap', hmax', hrow'⟩ := hu
  have hm : cap ≤ 9223372036854775807 := by simpa [maxLen] using hmax
  have hm' : cap' ≤ 9223372036854775807 := by simpa [maxLen] using hmax'
  have HX0 := hide ((Ext.refl w).alloc (.cells #[.string f.sync, .int .i64 f.words, .int .i64 f.depth, .slice A f.channels.length cap] 28))
  have HAS0 := hide (asked_any _ f n _ (HV.out.ext HX0.out))
  have HR := hide hrow
  have HR' := hide hrow'
  clear hmax hmax' hrow hrow'
  by_cases ha : askErr f n = 0
  · have HA := hide ha
    have hck := chk_ok (askErr_0 ha).1
    have hn0 := (askErr_0 ha).2.1
    rw [ha] at HAS0
    clear ha
    by_cases hl : l.length = f.channels.length
    · have hlb : ((l.length : Int) != (f.channels.length : Int)) = false := by simp; omega
      have HL := hide hl
      cases hb : badB l with
      | true =>
        have HBAD := hide (fun w1 hx => bad_any (.slice A' l.length cap') l w1 (HU.out.ext hx))
        have HER := hide (comErr_word HA.out HL.out hb)
        rw [hb] at HBAD
        clear hl hb hck
        go_enter Try.func22, Try.ntmps22
        go_wp2_with first
          | (go_at_call 56; refine Calls.mono HAS0.out ?_; rintro e w1 ⟨rfl, hx⟩; have hcc := hx.cells; have HX := hide hx; clear hx)
          | (go_at_call 57; refine Calls.mono (HBAD.out _ (HX0.out.trans HX.out)) ?_; rintro e w2 ⟨rfl, hx2⟩)
        go_ret2
        exact ⟨_, by rw [HER.out]; rfl, by rw [comOf_bad (by rw [HER.out]; decide)]; exact IntsV.nil _ _, (HX0.out.trans HX.out).trans hx2⟩
      | false =>
        have HBAD := hide (fun w1 hx => bad_any (.slice A' l.length cap') l w1 (HU.out.ext hx))
        have HER := hide (comErr_ok HA.out HL.out hb)
        rw [hb] at HBAD
        obtain ⟨_, _, _, hw1, hw2, hd1, hd2, hdeep, hch⟩ := hck
        have HCH := hide hch
        obtain ⟨wn, hwn⟩ := Int.eq_ofNat_of_zero_le (show 0 ≤ f.words by omega)
        have hwn2 : wn ≤ 32 := by omega
        have HWN := hide hwn
        clear hl hb hch hdeep
        have hmk := fun (W : World) => run_make_row' (P := Try.prog) 29 3 (.int .i64 0) 8 Try.underlying29 int_info rfl .i64 .i64 wn (by omega) (by omega) W
        rw [← hwn] at hmk
        clear hwn
        go_enter Try.func22, Try.ntmps22
        go_wp2_with first
          | (go_at_call 56; refine Calls.mono HAS0.out ?_; rintro e w1 ⟨rfl, hx⟩; have hcc := hx.cells; have HX := hide hx; clear hx)
          | (go_at_call 57; refine Calls.mono (HBAD.out _ (HX0.out.trans HX.out)) ?_; rintro e w2 ⟨rfl, hx2⟩; obtain ⟨g0, g1, g2, g3⟩ := box4 w _ _ _ _ _ (HX.out.trans hx2); have hz : w.heap.size < w2.heap.size := by { have hzz := (HX.out.trans hx2).size; simp at hzz; omega }; have HX2 := hide hx2; clear hx2 hcc)
        obtain ⟨w3, hw3⟩ : ∃ w3, w2.alloc (.cells (madeCells #[.int .i64 0] wn) 3) = w3 := ⟨_, rfl⟩
        have hmd : Made w3 w2.heap.size (comAt f n l 0) := by rw [← hw3]; unfold comAt; rw [HWN.out]; exact Made.new w2 wn
        have hx3 : Ext w w3 := by rw [← hw3]; exact ((HX0.out.trans HX.out).trans HX2.out).alloc _
        have hlen := comAt_length f n l
        rw [HWN.out] at hlen
        have HLEN := hide hlen
        have hz3 : w.heap.size ≤ w2.heap.size := by omega
        rw [hw3]
        clear hw3 g0 g1 g2 g3 hz hmk hlen
        generalize w2.heap.size = G at *
        go_loopw [35] (fun x wr => Ext w wr ∧ ∃ k : Nat, k ≤ f.channels.length ∧ x = .int .i64 k ∧ Made wr G (comAt f n l k)) (fun x _ => f.channels.length - (intOf x).toNat)
        case atStart => exact ⟨hx3, 0, by omega, rfl, hmd⟩
        case round =>
          obtain ⟨hext, k, hk, rfl, hmade⟩ := hrel
          have HMADE := hide hmade
          clear hmade hmd
          by_cases h8 : k < f.channels.length
          · obtain ⟨b, off, nm, wd, ev, ph, rfl, hbl, hck0, hck1, hck2, hck3, HX3⟩ := chans_at (HR.out.ext hext) h8
            have ho := chanErr_ok (HCH.out k h8)
            rw [HX3.out] at ho
            obtain ⟨_, _, o0, o1, _, _, _⟩ := ho
            dsimp only at o0 o1
            obtain ⟨b2, off2, x, rfl, hbl2, hcx, HX4⟩ := ints_at (HR'.out.ext hext) (by have := HL.out; omega : k < l.length)
            have hwd0 := (outB_f.1 o0).1
            have hwd1 := (outB_f.1 o0).2
            have hkl : k < l.length := by have := HL.out; omega
            have HCS := hide (show comAt f n l (k + 1) = if n % ev = ph then (comAt f n l k).set wd.toNat x else comAt f n l k by conv => lhs; unfold comAt; rw [HX3.out, HX4.out])
            obtain ⟨wdn, rfl⟩ := Int.eq_ofNat_of_zero_le hwd0
            have hwd2 : wdn < wn := by have := HWN.out; omega
            clear o0 hwd0 hwd1
            by_cases hin : n % ev = ph
            · have hib : decide (n % ev = ph) = true := by simpa using hin
              have HIN := hide hin
              clear hin
              go_wp2_with (go_at_call 58; refine (in_any _ _ _ _ _ _ hn0 o1).mono ?_; rintro e w4 ⟨rfl, hx4⟩)
              have hx5 : Ext wr w4 := ((Ext.refl _).alloc _).trans hx4
              have hm4 := HMADE.out.ext hx5
              have c1 : w4.cell? ⟨wr.heap.size, 1, none⟩ = some (.int .i64 (wdn : Int)) := hx4.cell (by simp)
              have cx := hx5.cell hcx
              have cm : ∃ z, w4.cell? ⟨G, wdn, none⟩ = some (.int .i64 z) := ⟨_, hm4.cell (by rw [HLEN.out]; exact hwd2)⟩
              obtain ⟨z, cm⟩ := cm
              have cf := hm4.frozen wdn
              have i1 : (0 : Int) ≤ (wdn : Int) := by omega
              have i2 : (wdn : Int) < (wn : Int) := by omega
              have i3 : (0 : Int) ≤ (k : Int) := by omega
              have i4 : (k : Int) < (l.length : Int) := by omega
              have HM4 := hide hm4
              have HX5 := hide hx5
              clear hx4 hx5 hm4 hcx hck0 hck1 hck2 hck3 hib hbl hbl2
              go_region
              go_wp2
              go_roundw
              case rel => exact ⟨((hext.trans HX5.out).setCell (p := ⟨G, wdn, none⟩) hz3 _).drew, k + 1, by omega, by go_num, by rw [HCS.out, if_pos HIN.out]; exact (HM4.out.set wdn x)⟩
              case measure => simp [intOf]; omega
            · have hib : decide (n % ev = ph) = false := by simpa using hin
              have HIN := hide hin
              clear hin
              go_wp2_with (go_at_call 58; refine (in_any _ _ _ _ _ _ hn0 o1).mono ?_; rintro e w4 ⟨rfl, hx4⟩)
              go_roundw
              case rel => exact ⟨hext.trans (((Ext.refl _).alloc _).trans hx4), k + 1, by omega, by go_num, by rw [HCS.out, if_neg HIN.out]; exact HMADE.out.ext (((Ext.refl _).alloc _).trans hx4)⟩
              case measure => simp [intOf]; omega
          · obtain rfl : k = f.channels.length := by omega
            go_wp2
            go_ret2
            exact ⟨_, by rw [HER.out]; rfl, by unfold comOf; rw [if_pos HER.out]; exact HMADE.out.ints (by rw [HLEN.out]; simp [maxLen]; omega) (HLEN.out _), hext⟩
    · have hlb : ((l.length : Int) != (f.channels.length : Int)) = true := by simp; omega
      have HER := hide (comErr_len HA.out hl)
      clear hl hck
      go_enter Try.func22, Try.ntmps22
      go_wp2_with (go_at_call 56; refine Calls.mono HAS0.out ?_; rintro e w1 ⟨rfl, hx⟩; have hcc := hx.cells; have HX := hide hx; clear hx)
      go_ret2
      exact ⟨_, by rw [HER.out]; rfl, by rw [comOf_bad (by rw [HER.out]; decide)]; exact IntsV.nil _ _, HX0.out.trans HX.out⟩
  · have hab : (askErr f n != 0) = true := by simpa using ha
    have HER := hide (comErr_ask (l := l) ha)
    have HA := hide ha
    clear ha
    go_enter Try.func22, Try.ntmps22
    go_wp2_with (go_at_call 56; refine Calls.mono HAS0.out ?_; rintro e w1 ⟨rfl, hx⟩; have hcc := hx.cells; have HX := hide hx; clear hx)
    go_ret2
    exact ⟨_, by rw [HER.out]; rfl, by rw [comOf_bad (by rw [HER.out]; exact HA.out)]; exact IntsV.nil _ _, HX0.out.trans HX.out⟩
end Go.Proofs.Ytjnnkcnnandeeaa
