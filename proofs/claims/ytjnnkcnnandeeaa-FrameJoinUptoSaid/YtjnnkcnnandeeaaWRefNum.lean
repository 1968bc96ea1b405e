/- The walks of the reference's read and Numbers. -/
import Derived.Test.YtjnnkcnnandeeaaWRefDec
namespace Go.Proofs.Ytjnnkcnnandeeaa
open Go.RowKit
theorem scan_count (f : Fmt) (l : List Nat) (hl : ∀ x ∈ l, x < 256) : ∀ k pos, ∀ x ∈ scan f l k pos, x.count < 256
  | 0, _, x, h => by simp [scan] at h
  | k + 1, pos, x, h => by
    unfold scan at h
    split at h
    · split at h
      · rcases List.mem_cons.1 h with rfl | h
        · exact getD_mem_lt _ _ 256 (by omega) (fun y hy => hl y (List.mem_of_mem_drop (List.mem_of_mem_take hy)))
        · exact scan_count f l hl k _ x h
      · exact scan_count f l hl k _ x h
    · simp at h
theorem frames_count {f : Fmt} {l : List Nat} (hl : ∀ x ∈ l, x < 256) : ∀ x ∈ framesOf f l, x.count < 256 := scan_count f l hl _ _
theorem numErr_chk {f : Fmt} {l : List Nat} {first : Int} (h : decErr f l.length ≠ 0) : numErr f l first = decErr f l.length := by
  unfold decErr at h ⊢
  unfold numErr tapeErr
  by_cases h1 : (chk f).2.2 = 0
  · by_cases h2 : 4000 < l.length
    · simp [h1, h2]
    · simp [h1, h2] at h
  · simp [h1]
theorem numErr_first {f : Fmt} {l : List Nat} {first : Int} (h : decErr f l.length = 0) (ho : outB first 0 1000000 = true) : numErr f l first = 7 := by
  unfold decErr at h
  unfold numErr tapeErr
  by_cases h1 : (chk f).2.2 = 0
  · by_cases h2 : 4000 < l.length
    · simp [h1, h2] at h
    · simp [h1, h2, ho]
  · simp [h1] at h
theorem numErr_read {f : Fmt} {l : List Nat} {first : Int} (h : decErr f l.length = 0) (ho : outB first 0 1000000 = false) : numErr f l first = readErr first (framesOf f l) := by
  unfold decErr at h
  unfold numErr tapeErr
  by_cases h1 : (chk f).2.2 = 0
  · by_cases h2 : 4000 < l.length
    · simp [h1, h2] at h
    · simp [h1, h2, ho]
  · simp [h1] at h
theorem next_step {n c : Int} {j : Nat} (hc : 0 ≤ c) (hc2 : c < 256) (hj : (j : Int) ≤ (c - n) % 256) : ((n + j) % 256 = c ↔ (j : Int) = (c - n) % 256) := by
  constructor
  · intro h; omega
  · intro h; omega
theorem nums_take_succ (first : Int) (fs : List FrD) (k : Nat) (hk : k < fs.length) : nums first (fs.take (k + 1)) = nums first (fs.take k) ++ [nextOf (after first (fs.take k)) fs[k].count] := by
  rw [List.take_succ_eq_append_getElem hk, nums_append]; rfl
theorem after_take_succ (first : Int) (fs : List FrD) (k : Nat) (hk : k < fs.length) : after first (fs.take (k + 1)) = nextOf (after first (fs.take k)) fs[k].count + 1 := by
  rw [List.take_succ_eq_append_getElem hk, after_append]; rfl
theorem nums_length (n : Int) (fs : List FrD) : (nums n fs).length = fs.length := by
  induction fs generalizing n with
  | nil => rfl
  | cons x fs ih => simp [nums, ih]
theorem farB_take {first : Int} {fs : List FrD} {k : Nat} (h : farB (nums first (fs.take k)) = true) : farB (nums first fs) = true := by
  have : fs = fs.take k ++ fs.drop k := (List.take_append_drop k fs).symm
  rw [this, nums_append]
  unfold farB at h ⊢
  rw [List.any_append, h]; rfl
theorem frx_count (xs : List FrX) (k : Nat) (h : k < xs.length) (hd : k < (ds xs).length) : (xs.getD k default).cell 1 = .int .i64 ((ds xs)[k].count : Nat) := by
  have e : (ds xs)[k] = xs[k].1 := List.getElem_map ..
  rw [e]
  simp only [List.getD_eq_getElem?_getD, List.getElem?_eq_getElem h, Option.getD_some]
  rfl
/-- What read hands back. -/
def ReadR (f : Fmt) (l : List Nat) (first : Int) (w : World) (e : Ending) (w' : World) : Prop :=
  ∃ lv nv, e = .returned (.tuple #[lv, nv, .int .i64 (numErr f l first)]) ∧
    (numErr f l first = 0 → ∃ xs, ds xs = framesOf f l ∧ FrsV w' lv xs ∧ IntsV w' .i64 nv (nums first (framesOf f l))) ∧ (numErr f l first ≠ 0 → lv = .slice none 0 0 ∧ nv = .slice none 0 0) ∧ Ext w w'
set_option maxRecDepth 100000 in
set_option maxHeartbeats 2000000 in
/-- ref.read -/
theorem refRead_any (v b : Value) (f : Fmt) (l : List Nat) (first : Int) (w : World) (hv : FmtV w v f) (hb : BytesV w b l) : Calls Try.prog 68 #[v, .agg #[b, .int .i64 first]] w fun e w' => ReadR f l first w e w' := by
  have HV := hide hv
  have HB := hide hb
  obtain ⟨_, _, A, cap, rfl, _, _, _⟩ := hv
  obtain ⟨hlt, A', cap', rfl, hcap', hmax', _⟩ := hb
  have HLT := hide hlt
  have HX0 := hide (((Ext.refl w).alloc (.cells #[.string f.sync, .int .i64 f.words, .int .i64 f.depth, .slice A f.channels.length cap] 28)).alloc (.cells #[.slice A' l.length cap', .int .i64 first] 38))
  have HDE := hide (refDecode_any _ _ f l _ (HV.out.ext HX0.out) (HB.out.ext HX0.out))
  clear hmax' hlt
  unfold DecR at HDE
  by_cases hc : decErr f l.length = 0
  · have HC := hide hc
    rw [hc] at HDE
    clear hc
    have hnb : inB first 0 1000000 = !outB first 0 1000000 := (by rw [outB_not])
    cases hn : outB first 0 1000000 with
    | true =>
      have HER := hide (numErr_first HC.out hn)
      rw [hn] at hnb
      have HNB := hide hnb
      clear hn hnb
      go_enter Try.func68, Try.ntmps68
      go_wp2_with fail
      refine Calls.mono HDE.out ?_
      rintro e w1 ⟨lv, gv, rfl, h1, _, hx⟩
      have g1 := hx.cell (show _ = some (.int .i64 first) from (cell_new (w.alloc (.cells #[.string f.sync, .int .i64 f.words, .int .i64 f.depth, .slice A f.channels.length cap] 28)) #[.slice A' l.length cap', .int .i64 first] 38 1 _ rfl))
      rw [World.size_alloc] at g1
      have HX := hide hx
      clear h1 hx
      go_wp2_with (go_at_call 60; refine (number_any _ _).mono ?_; rintro e w2 ⟨rfl, rfl⟩; rw [HNB.out])
      go_ret3
      exact ⟨_, _, by rw [HER.out]; rfl, (fun h => by rw [HER.out] at h; cases h), fun _ => ⟨rfl, rfl⟩, HX0.out.trans HX.out⟩
    | false =>
      have HER := hide (numErr_read HC.out hn)
      have hf0 := (outB_f.1 hn).1
      have hf1 := (outB_f.1 hn).2
      rw [hn] at hnb
      have HNB := hide hnb
      clear hn hnb
      go_enter Try.func68, Try.ntmps68
      go_wp2_with fail
      refine Calls.mono HDE.out ?_
      rintro e w1 ⟨lv, gv, rfl, h1, _, hx⟩
      have g1 := hx.cell (show _ = some (.int .i64 first) from (cell_new (w.alloc (.cells #[.string f.sync, .int .i64 f.words, .int .i64 f.depth, .slice A f.channels.length cap] 28)) #[.slice A' l.length cap', .int .i64 first] 38 1 _ rfl))
      rw [World.size_alloc] at g1
      have HX := hide hx
      obtain ⟨xs, hds, hfrs, _⟩ := h1 trivial
      have HFRS := hide hfrs
      obtain ⟨AL, capL, rfl, hcl, hml, hrl, _⟩ := hfrs
      have hmL : capL ≤ 9223372036854775807 := by simpa [maxLen] using hml
      clear hx hml
      go_wp2_with (go_at_call 60; refine (number_any _ _).mono ?_; rintro e w2 ⟨rfl, rfl⟩; rw [HNB.out])
      obtain ⟨iI, hiI, hzI0, hzI1, hzI2⟩ := info_parts int_info
      have HRL := hide hrl
      have HDS := hide hds
      have hdl : (ds xs).length = xs.length := by unfold ds; rw [List.length_map]
      have HDL := hide hdl
      have hxl : xs.length ≤ l.length := by rw [← hdl, hds]; exact framesOf_len f l
      have hl4 : l.length ≤ 4000 := by
        have := HC.out
        unfold decErr at this
        by_cases h1 : (chk f).2.2 = 0
        · by_cases h2 : 4000 < l.length
          · simp [h1, h2] at this
          · omega
        · simp [h1] at this
      have HCNT : Hid (∀ x ∈ ds xs, x.count < 256) := hide (by rw [hds]; exact frames_count HLT.out)
      have hxw := HX0.out.trans HX.out
      have HXW := hide hxw
      clear hrl hds hdl g1 h1 hxw
      go_loopw [10, 11, 12] (fun v10 v11 x wr => ∃ k : Nat, k ≤ xs.length ∧ x = .int .i64 k ∧ v11 = .int .i64 (after first ((ds xs).take k)) ∧ Ext w1 wr ∧ 0 ≤ after first ((ds xs).take k) ∧ after first ((ds xs).take k) ≤ 1000001 ∧
        Hid (farB (nums first ((ds xs).take k)) = false ∧ Own wr w1.heap.size 3 1 v10 k ((nums first ((ds xs).take k)).map (Value.int .i64)))) (fun _ _ x _ => xs.length - (intOf x).toNat)
      case atStart => exact ⟨0, by omega, rfl, rfl, Ext.refl _, by simpa [after] using hf0, by simp only [List.take_zero, after]; omega, hide ⟨rfl, Own.nil _ _ _ _⟩⟩
      case round =>
        obtain ⟨k, hk, rfl, rfl, hE, hn0, hn1, HO⟩ := hrel
        obtain ⟨wo, rfl⟩ : ∃ wo : World, wo = wr := ⟨_, rfl⟩
        by_cases h8 : k < xs.length
        · have hkd : k < (ds xs).length := by rw [HDL.out]; exact h8
          obtain ⟨bx, ox, rfl, _, hcx⟩ := HRL.out (by omega)
          have hck := hE.cell (hcx k 1 h8 (by omega))
          rw [show (fun i k => (xs.getD i default).cell k) k 1 = _ from frx_count xs k h8 hkd] at hck
          have HNS := hide (nums_take_succ first (ds xs) k hkd)
          have HAS := hide (after_take_succ first (ds xs) k hkd)
          have hc256 := HCNT.out _ (List.getElem_mem hkd)
          generalize (ds xs)[k].count = c at *
          generalize hn : after first ((ds xs).take k) = n at *
          have HN := hide hn
          clear hn hcx
          have hnx : nextOf n c = n + ((c : Int) - n) % 256 := rfl
          have HNX := hide hnx
          clear hnx
          go_wp2_with fail
          go_loop [11] (fun v11 => ∃ j : Nat, v11 = .int .i64 (n + (j : Int)) ∧ (j : Int) ≤ ((c : Int) - n) % 256) (fun v11 => (n + ((c : Int) - n) % 256 - intOf v11).toNat)
          case atStart => exact ⟨0, by simp, by omega⟩
          case round =>
            obtain ⟨j, rfl, hj⟩ := hrel
            have hiff := next_step (n := n) (c := (c : Int)) (j := j) (by omega) (by omega) hj
            by_cases hjd : (n + (j : Int)) % 256 = (c : Int)
            · have hje := hiff.1 hjd
              have ht : ((n + (j : Int)) % 256 != (c : Int)) = false := by simpa using hjd
              clear hiff hjd
              have hNN : n + (j : Int) = nextOf n c := by rw [HNX.out]; omega
              have hN0 : 0 ≤ nextOf n c := by rw [HNX.out]; omega
              have hN1 : nextOf n c ≤ 1000256 := by rw [HNX.out]; omega
              rw [hNN] at ht ⊢
              clear hje hNN hj
              generalize nextOf n c = N at *
              by_cases hfar : 1000000 < N
              · have hnb2 : inB N 0 1000000 = false := by rw [inB_f]; omega
                have HNB2 := hide hnb2
                have hrd : readErr first (framesOf f l) = 7 := by
                  have h2 : farB (nums first ((ds xs).take (k + 1))) = true := by
                    rw [HNS.out]
                    unfold farB
                    rw [List.any_append]
                    simp [hfar]
                  unfold readErr
                  rw [if_pos (by rw [← HDS.out]; exact farB_take h2)]
                have HRD := hide hrd
                clear hnb2 hrd
                go_wp2_with (go_at_call 60; refine (number_any _ _).mono ?_; rintro e w2 ⟨rfl, rfl⟩; rw [HNB2.out])
                go_ret3
                exact ⟨_, _, by rw [HER.out, HRD.out]; rfl, (fun h => by rw [HER.out, HRD.out] at h; cases h), fun _ => ⟨rfl, rfl⟩, HXW.out.trans hE⟩
              · have hnb2 : inB N 0 1000000 = true := by rw [inB_t]; omega
                have HNB2 := hide hnb2
                have hsz := hE.size
                have HSRC := hide ((Own.lit wo 0 3 1 1 #[.int .i64 N] (Nat.zero_le _) rfl (by simp [maxLen])).src)
                clear hnb2
                go_wp2_with first
                  | (go_at_call 60; refine (number_any _ _).mono ?_; rintro e w2 ⟨rfl, rfl⟩; rw [HNB2.out])
                  | (at_builtin
                     refine wpList_app rfl (.tmp 53) (.tmp 55) 29 rfl w1.heap.size 3 iI _ 1 8 Try.underlying29 hiI hzI0 hzI1 hzI2 rfl _ k _ rfl (HO.out.2.alloc _) _ 1 1 [.int .i64 N] rfl HSRC.out (by simp [Value.oneCell']) (by simp [maxLen]; omega) (by omega) (by simp; omega) ?_
                     intro v3 w3 hown3 hb3)
                have hxs : Ext w1 w3 := (hE.alloc _).step hb3 (Nat.le_refl _)
                go_roundw
                case rel =>
                  refine ⟨k + 1, by omega, by go_num, by rw [HAS.out], hxs, by rw [HAS.out]; omega, by rw [HAS.out]; omega, ?_⟩
                  rw [HNS.out]
                  refine hide ⟨?_, Own.of_eq hown3 rfl (by rw [List.map_append]; rfl)⟩
                  have h1 := HO.out.1
                  unfold farB at h1 ⊢
                  rw [List.any_append, h1]
                  simp; omega
                case measure => simp [intOf]; omega
            · have hje : ¬ (j : Int) = ((c : Int) - n) % 256 := fun h => hjd (hiff.2 h)
              have ht : ((n + (j : Int)) % 256 != (c : Int)) = true := by simpa using hjd
              clear hiff hjd
              go_wp2_with fail
              go_round
              case rel => exact ⟨j + 1, val_int (by omega), by omega⟩
              case measure => simp [intOf]; omega
        · obtain rfl : k = xs.length := by omega
          go_wp2_with fail
          go_ret3
          have ht : (ds xs).take xs.length = framesOf f l := by rw [← HDL.out, List.take_length, HDS.out]
          rw [ht] at HO
          have hrd : readErr first (framesOf f l) = 0 := by unfold readErr; rw [HO.out.1]; rfl
          exact ⟨_, _, by rw [HER.out, hrd]; rfl, fun _ => ⟨xs, HDS.out, HFRS.out.ext hE, Own.ints HO.out.2⟩, (fun h => absurd (by rw [HER.out]; exact hrd) h), HXW.out.trans hE⟩
  · have hcb : (decErr f l.length == 0) = false := by simpa using hc
    have hcn : (decErr f l.length != 0) = true := by simpa using hc
    have HER := hide (numErr_chk (first := first) hc)
    have HC := hide hc
    clear hc
    go_enter Try.func68, Try.ntmps68
    go_wp2_with (go_at_call 32; refine Calls.mono HDE.out ?_; rintro e w1 ⟨lv, gv, rfl, _, _, hx⟩; have HX := hide hx; clear hx)
    go_ret3
    exact ⟨_, _, by rw [HER.out]; rfl, (fun h => absurd (by rw [← HER.out]; exact h) HC.out), fun _ => ⟨rfl, rfl⟩, HX0.out.trans HX.out⟩
set_option maxRecDepth 100000 in
set_option maxHeartbeats 400000 in
/-- ref.Numbers -/
theorem refNumbers_any (v b : Value) (f : Fmt) (l : List Nat) (first : Int) (w : World) (hv : FmtV w v f) (hb : BytesV w b l) :
    Calls Try.prog 28 #[v, .agg #[b, .int .i64 first]] w fun e w' => ∃ r, e = .returned (.tuple #[r, .int .i64 (numErr f l first)]) ∧ IntsV w' .i64 r (numsOf f l first) ∧ Ext w w' := by
  have HV := hide hv
  have HB := hide hb
  obtain ⟨_, _, A, cap, rfl, _, _, _⟩ := hv
  obtain ⟨_, A', cap', rfl, _, _, _⟩ := hb
  have HX0 := hide (((Ext.refl w).alloc (.cells #[.string f.sync, .int .i64 f.words, .int .i64 f.depth, .slice A f.channels.length cap] 28)).alloc (.cells #[.slice A' l.length cap', .int .i64 first] 38))
  have HR := hide (refRead_any _ _ f l first _ (HV.out.ext HX0.out) (HB.out.ext HX0.out))
  unfold ReadR at HR
  have hno : numsOf f l first = if numErr f l first = 0 then nums first (framesOf f l) else [] := rfl
  have HNO := hide hno
  clear hno
  generalize numErr f l first = ne at *
  go_enter Try.func28, Try.ntmps28
  go_wp2_with (go_at_call 68; refine Calls.mono HR.out ?_; rintro e w1 ⟨lv, nv, rfl, h1, h2, hx⟩)
  go_ret2
  refine ⟨nv, rfl, ?_, HX0.out.trans hx⟩
  rw [HNO.out]
  by_cases hz : ne = 0
  · obtain ⟨xs, _, _, hi⟩ := h1 hz
    rw [if_pos hz]; exact hi
  · rw [if_neg hz]; obtain ⟨_, rfl⟩ := h2 hz; exact IntsV.nil _ _
end Go.Proofs.Ytjnnkcnnandeeaa
