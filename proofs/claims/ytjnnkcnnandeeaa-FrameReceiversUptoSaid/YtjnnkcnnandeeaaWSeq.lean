/- The walk of the iterator of frames. -/
import Derived.Test.YtjnnkcnnandeeaaScan
import Derived.Test.YtjnnkcnnandeeaaRange
import Derived.Deep.RegionHeld3
import Derived.Deep.RegionWith
import Derived.Deep.RegionLaw
namespace Go.Proofs.Ytjnnkcnnandeeaa
open Go.RowKit Go.Shelf
attribute [local go_sem] Oper.semAt_some
abbrev FrX := FrD × Value
def FrX.encs (x : FrX) : Array Value := #[.agg #[.int .i64 x.1.pos, .int .i64 x.1.count, x.2]]
def FrX.Ok (x : FrX) (W0 W : World) : Prop := IntsV W .i64 x.2 x.1.words ∧ (∀ k, x.2.ownBlock = some k → W0.heap.size ≤ k ∧ k < W.heap.size) ∧ x.1.count < 256
/-- What the closure of frames has captured, in memory. -/
structure Caps (w : World) (f : Fmt) (l : List Nat) (s h b g d off cap : Nat) (A : Option Addr) : Prop where
  size : w.cell? ⟨s, 0, none⟩ = some (.int .i64 (bodyF f + 2 : Nat))
  head : w.cell? ⟨h, 0, none⟩ = some (.int .i64 (f.sync.size : Nat))
  slice : w.cell? ⟨b, 0, none⟩ = some (.slice A l.length cap)
  adr : 0 < l.length → A = some ⟨d, off, none⟩
  sync : w.cell? ⟨g, 0, none⟩ = some (.string f.sync)
  bytes : Bytes w d off l
def capsG (s h b g d : Nat) (k : Nat) : Prop := k = s ∨ k = h ∨ k = b ∨ k = g ∨ k = d
theorem cell_of_block {w w' : World} {p : Addr} {v : Value} (h : w.cell? p = some v) (k : w'.heap[p.block]? = w.heap[p.block]?) : w'.cell? p = some v := by
  rw [← h]; unfold World.cell?; rw [k]
theorem Caps.keep {w w' : World} {f : Fmt} {l : List Nat} {s h b g d off cap : Nat} {A : Option Addr} (c : Caps w f l s h b g d off cap A) (k : KeepG (capsG s h b g d) w w') : Caps w' f l s h b g d off cap A :=
  ⟨cell_of_block c.size (k s (.inl rfl)), cell_of_block c.head (k h (.inr (.inl rfl))), cell_of_block c.slice (k b (.inr (.inr (.inl rfl)))), c.adr, cell_of_block c.sync (k g (.inr (.inr (.inr (.inl rfl))))), c.bytes.block (k d (.inr (.inr (.inr (.inr rfl)))))⟩
theorem Caps.ext {w w' : World} {f : Fmt} {l : List Nat} {s h b g d off cap : Nat} {A : Option Addr} (c : Caps w f l s h b g d off cap A) (k : Ext w w') : Caps w' f l s h b g d off cap A :=
  ⟨k.cell c.size, k.cell c.head, k.cell c.slice, c.adr, k.cell c.sync, c.bytes.ext k⟩
theorem World.lt_of_cell {w : World} {b o : Nat} {v : Value} (h : w.cell? ⟨b, o, none⟩ = some v) : b < w.heap.size := World.block_lt_of_cell? w ⟨b, o, none⟩ h
theorem scan_skip {f : Fmt} {l : List Nat} {k pos : Nat} (h : pos + sizeF f ≤ l.length) (ho : okAt f l pos = false) : scan f l (k + 1) pos = scan f l k (pos + 1) := by
  rw [scan, if_pos h, ho]; rfl
theorem scan_hit {f : Fmt} {l : List Nat} {k pos : Nat} (h : pos + sizeF f ≤ l.length) (ho : okAt f l pos = true) : scan f l (k + 1) pos = frAt f l pos :: scan f l k (pos + sizeF f) := by
  rw [scan, if_pos h, ho]; rfl
theorem scan_end {f : Fmt} {l : List Nat} {k pos : Nat} (h : ¬ pos + sizeF f ≤ l.length) : scan f l (k + 1) pos = [] := by
  rw [scan, if_neg h]
/-- Where the inner loop stands. -/
def Inner (f : Fmt) (own : List Nat) (z pos cnt : Nat) (w4 : World) (i : Value) (w5 : World) : Prop :=
  ∃ (m i0 : Nat) (v : Value), i = .int .i64 (i0 : Nat) ∧ Hid (i0 = f.sync.size + 1 + 2 * m ∧ m ≤ f.words.toNat) ∧ i0 ≤ z ∧ Ext w4 w5 ∧ w4.heap.size < w5.heap.size ∧
    w5.cell? ⟨w4.heap.size, 0, none⟩ = some (.int .i64 (pos : Nat)) ∧ w5.cell? ⟨w4.heap.size, 1, none⟩ = some (.int .i64 (cnt : Nat)) ∧ w5.cell? ⟨w4.heap.size, 2, none⟩ = some v ∧ w5.frozen? ⟨w4.heap.size, 2, none⟩ = false ∧
    Hid (Own w5 (w4.heap.size + 1) 3 1 v m ((wordsAt f.sync.size own m).map (Value.int .i64)))
theorem below_cell {base : Nat} {w w' : World} (h : Below base w w') {p : Addr} {v : Value} (hp : p.block < base) (hc : w.cell? p = some v) : w'.cell? p = some v := cell_of_block hc (h.block _ hp)
theorem below_frozen {base : Nat} {w w' : World} (h : Below base w w') {p : Addr} {b : Bool} (hp : p.block < base) (hc : w.frozen? p = b) : w'.frozen? p = b := by
  rw [← hc]; exact World.frozen?_of_block (h.block _ hp)
theorem ext_frozen {w w' : World} (h : Ext w w') {p : Addr} {b : Bool} (hp : p.block < w.heap.size) (hc : w.frozen? p = b) : w'.frozen? p = b := below_frozen h hp hc
theorem src_one (w : World) (e : TypeId) {u v : Value} (h : Hid (u = v)) : Src ((w.alloc (.cells #[u] e)).drew) (some ⟨w.heap.size, 0, none⟩) 1 1 [v] := by
  cases h.out
  exact (Own.lit w w.heap.size e 1 1 #[u] (Nat.le_refl _) rfl (by simp [maxLen])).src
theorem or_bytes {x0 x1 : Nat} (h0 : x0 < 256) (h1 : x1 < 256) : Value.int .i64 (bits .or .i64 (IntKind.i64.wrap (IntKind.i64.wrap (x0 : Int) * 256)) (IntKind.i64.wrap (x1 : Int))) = .int .i64 ((x0 * 256 + x1 : Nat) : Int) := by
  have e0 : IntKind.i64.wrap (x0 : Int) = x0 := by rw [IntKind.wrap_i64]; omega
  have e1 : IntKind.i64.wrap (x1 : Int) = x1 := by rw [IntKind.wrap_i64]; omega
  have e2 : IntKind.i64.wrap ((x0 : Int) * 256) = ((x0 * 256 : Nat) : Int) := by rw [IntKind.wrap_i64]; omega
  rw [e0, e1, e2, i64_or_nat (x0 * 256) x1 (by omega) (by omega)]
  congr 2
  rw [show x0 * 256 = x0 <<< 8 by rw [Nat.shiftLeft_eq]]
  exact (Nat.shiftLeft_add_eq_or_of_lt (by omega) x0).symm
set_option maxRecDepth 100000 in
set_option maxHeartbeats 2000000 in
/-- frame.frames$1: the frames, one after the other. -/
theorem frames_seq (f : Fmt) (l : List Nat) (s q b g d off cap : Nat) (A : Option Addr) (w : World) (hs4 : f.sync.size ≤ 1000) (hw0 : 0 ≤ f.words) (hw : f.words ≤ 1000) (hlt : ∀ x ∈ l, x < 256) (hlen : l.length ≤ 1000000000) (hcap : l.length ≤ cap) (hmax : cap ≤ maxLen)
    (hc : Caps w f l s q b g d off cap A) :
    SeqOk Try.prog 103 #[.pointer (some ⟨s, 0, none⟩), .pointer (some ⟨b, 0, none⟩), .pointer (some ⟨q, 0, none⟩), .pointer (some ⟨g, 0, none⟩)] FrX.encs FrX.Ok (capsG s q b g d)
      (fun xs => xs.map (·.1) = framesOf f l) (fun pre => ∃ rest, pre.map (·.1) ++ rest = framesOf f l) w := by
  intro y J Jx W hW hJ hJx hY h0
  obtain ⟨ii, hi, hz0, hz1, hz2⟩ := info_parts int_info
  replace hc := hc.ext hW
  clear hW w
  refine callsIn_of_wp Try.func103 rfl trivial ?_ rfl
  simp only [Try.ntmps103, List.size_toArray, List.length_cons, List.length_nil, Nat.reduceAdd, Nat.reduceSub, Array.replicate_succ, Array.replicate_zero, List.push_toArray, List.append_toArray, List.nil_append, List.cons_append]
  refine wpIn_wide.2 ?_
  have HY := hide hY
  have HJ := hide hJ
  have HJx := hide hJx
  have H0 := hide h0
  have HC := hide hc
  have HLT := hide hlt
  have hmax' : cap ≤ 9223372036854775807 := by simpa [maxLen] using hmax
  have hszF : sizeF f = bodyF f + 2 := rfl
  have hbF : bodyF f ≤ 3001 := by unfold bodyF; omega
  have hbH : f.sync.size + 1 ≤ bodyF f := by unfold bodyF; omega
  have HBW := hide (show bodyF f = f.sync.size + 1 + 2 * f.words.toNat from rfl)
  have HSZ := hide hszF
  clear hszF
  clear hY hJ hJx h0 hc hlt hw hw0 hmax
  go_wp2
  go_loopw [6] (fun at_ wr => ∃ (pos k : Nat) (pre : List FrX), at_ = .int .i64 (pos : Nat) ∧ pos ≤ l.length ∧ Hid (l.length < pos + k ∧ pre.map (·.1) ++ scan f l k pos = framesOf f l) ∧ Hid (J pre wr) ∧ Hid (Caps wr f l s q b g d off cap A)) (fun at_ _ => l.length + 1 - (intOf at_).toNat)
  case atStart => exact ⟨0, l.length + 1, [], rfl, by omega, ⟨by omega, by simp [framesOf]⟩, H0, HC⟩
  case round =>
    obtain ⟨pos, k, pre, rfl, hpos, hscan, hJp, hcp⟩ := hrel
    obtain ⟨k, rfl⟩ : ∃ k', k = k' + 1 := ⟨k - 1, by have := hscan.out.1; omega⟩
    obtain ⟨c1, c2, c3, cA, c4, c5⟩ := hcp.out
    have C5 := hide c5
    clear c5
    by_cases hin : pos + (bodyF f + 2) ≤ l.length
    · have hA := cA (by omega)
      subst hA
      clear cA
      generalize hz : bodyF f = z at *
      have hdlt : d < wr.heap.size := by
        have := C5.out pos (by omega)
        exact World.lt_of_cell this
      obtain ⟨own, hown⟩ : ∃ own, window f l pos = own := ⟨_, rfl⟩
      have hol : own.length = z + 2 := by rw [← hown, window_len (by rw [HSZ.out]; omega), HSZ.out]
      have holt : ∀ x ∈ own, x < 256 := by rw [← hown]; exact mem_sub HLT.out
      have hob : Bytes wr d (off + pos) own := by rw [← hown]; unfold window; rw [HSZ.out]; exact C5.out.sub pos (z + 2) (by omega)
      have hmx : cap ≤ maxLen := by simpa [maxLen] using hmax'
      have hb1 : ∀ W, Ext wr W → BytesV W (.slice (some ⟨d, off + pos, none⟩) z (cap - pos)) (own.take z) := fun W hx => by
        have := (hob.ext hx).sub 0 z (by omega)
        simp only [List.drop_zero, Nat.add_zero] at this
        exact this.v' (Nat.lt_of_lt_of_le hdlt hx.size) (fun x hx => holt x (List.mem_of_mem_take hx)) (by rw [List.length_take]; omega) (by omega) (by omega)
      have hb2 : ∀ W, Ext wr W → BytesV W (.slice (some ⟨d, off + pos + z, none⟩) 2 (cap - pos - z)) (own.drop z) := fun W hx => by
        have := (hob.ext hx).sub z 2 (by omega)
        have e : (own.drop z).take 2 = own.drop z := by rw [List.take_of_length_le]; rw [List.length_drop]; omega
        rw [e] at this
        exact this.v' (Nat.lt_of_lt_of_le hdlt hx.size) (fun x hx => holt x (List.mem_of_mem_drop hx)) (by rw [List.length_drop]; omega) (by omega) (by omega)
      have hcv : ∀ W, Ext wr W → (convert 22 9 (.slice (some ⟨d, off + pos, none⟩) f.sync.size (cap - pos))).run Try.prog W = .ok (.string (strOf (own.take f.sync.size))) W := fun W hx => by
        have := (hob.ext hx).sub 0 f.sync.size (by omega)
        simp only [List.drop_zero, Nat.add_zero] at this
        exact conv_string W 22 5 Try.underlying22 Try.underlying5 Try.underlying9 this (by rw [List.length_take]; omega)
      have hso : syncOk f own = decide (strOf (own.take f.sync.size) = f.sync) := (strOf_sync (fun x hx => holt x (List.mem_of_mem_take hx)) f).symm
      have hlp : pos + (z + 2) - pos = z + 2 := by omega
      have HOB := hide hob
      have HOWN := hide hown
      have HOL := hide hol
      have HB1 := hide hb1
      have HB2 := hide hb2
      have HCV := hide hcv
      have HSO := hide hso
      have HOLT := hide holt
      clear hob hown hol hb1 hb2 hcv hso holt hmx
      generalize strOf (own.take f.sync.size) = str at *
      go_wp2_with fail
      rw [hlp]
      have hcp1 : z + 2 ≤ cap - pos := by omega
      generalize hcpe : cap - pos = cp at *
      have HCPE := hide hcpe
      clear hcpe
      generalize hcpz : cp - z = cpz at *
      have HZ := hide hz
      clear hz
      have hcp2 : f.sync.size ≤ cp := by omega
      have hcp3 : z ≤ cp := by omega
      have hcp4 : (0 : Int) ≤ (f.sync.size : Int) := by omega
      have hcp5 : (f.sync.size : Int) ≤ (cp : Int) := by omega
      have hcp6 : (0 : Int) ≤ (z : Int) := by omega
      have hcp7 : (z : Int) ≤ (cp : Int) := by omega
      have hcp8 : (z : Int) ≤ (z : Int) + 2 := by omega
      have hcp9 : (z : Int) + 2 ≤ (cp : Int) := by omega
      have hw1 : IntKind.i64.wrap ((z : Int) + 2 - 2) = z := by rw [IntKind.wrap_i64]; omega
      have hw3 : IntKind.i64.wrap (z : Int) = z := by rw [IntKind.wrap_i64]; omega
      have hw2 : IntKind.i64.wrap (((z + 2 : Nat) : Int) - 2) = z := by rw [IntKind.wrap_i64]; omega
      by_cases hsy : str = f.sync
      · subst hsy
        have hkeep : ∀ w1 w2 : World, Ext w1 w2 → (w1.cell? ⟨s, 0, none⟩ = some (.int .i64 (z + 2 : Nat)) ∧ w1.cell? ⟨q, 0, none⟩ = some (.int .i64 (f.sync.size : Nat)) ∧ w1.cell? ⟨g, 0, none⟩ = some (.string f.sync) ∧ Hid (Ext wr w1) ∧ (convert 22 9 (.slice (some ⟨d, off + pos, none⟩) f.sync.size cp)).run Try.prog w1 = .ok (.string f.sync) w1) →
            (w2.cell? ⟨s, 0, none⟩ = some (.int .i64 (z + 2 : Nat)) ∧ w2.cell? ⟨q, 0, none⟩ = some (.int .i64 (f.sync.size : Nat)) ∧ w2.cell? ⟨g, 0, none⟩ = some (.string f.sync) ∧ Hid (Ext wr w2) ∧ (convert 22 9 (.slice (some ⟨d, off + pos, none⟩) f.sync.size cp)).run Try.prog w2 = .ok (.string f.sync) w2) :=
          fun w1 w2 hx hh => ⟨hx.cell hh.1, hx.cell hh.2.1, hx.cell hh.2.2.1, hide (hh.2.2.2.1.out.trans hx), HCV.out w2 (hh.2.2.2.1.out.trans hx)⟩
        have hsum : ∀ W, Ext wr W → Calls Try.prog 19 #[.slice (some ⟨d, off + pos, none⟩) z cp] W fun e w' => e = .returned (.int .i64 (crc (own.take z))) ∧ W = w' := fun W hx => sum_any _ _ _ (HB1.out W hx)
        have hpair : ∀ W, Calls Try.prog 102 #[.int .i64 (crc (own.take z))] W fun e w' => ∃ A, e = .returned (.slice A 2 2) ∧ Hid (BytesV w' (.slice A 2 2) (pairOf (crc (own.take z)))) ∧ Ext W w' := fun W => by
          have hcl := crc_lt (own.take z) (fun x hx => HOLT.out x (List.mem_of_mem_take hx))
          refine (pair_any _ W hcl).mono ?_
          rintro e w' ⟨A, rfl, ho, hx⟩
          exact ⟨A, rfl, Own.bytes ho (pairOf_lt _ hcl), hx⟩
        have hequal : ∀ W A, Ext wr W → BytesV W (.slice A 2 2) (pairOf (crc (own.take z))) → Calls Try.prog 104 #[.slice (some ⟨d, off + pos + z, none⟩) 2 cpz, .slice A 2 2] W fun e w' => e = .returned (.bool (sumOk f own)) ∧ Ext W w' := fun W A hx hb => by
          have := equal_any _ _ _ _ W (HB2.out W hx) hb
          unfold sumOk
          rw [HZ.out]
          exact this
        have HSUM := hide hsum
        have HPAIR := hide hpair
        have HEQUAL := hide hequal
        clear hsum hpair hequal
        generalize crc (own.take z) = cs at *
        have hoT : okAt f l pos = sumOk f own := by unfold okAt; rw [HOWN.out, HSO.out]; simp
        generalize sumOk f own = sok at *
        have HOT := hide hoT
        clear hoT
        have HIN := hide hin
        have HP := hide hpos
        clear hpos
        have HK := hide hkeep
        clear hkeep
        have hcv1 := HCV.out wr (Ext.refl wr)
        have he1 : Hid (Ext wr wr) := hide (Ext.refl wr)
        go_region_held3 (fun w' => w'.cell? ⟨s, 0, none⟩ = some (.int .i64 (z + 2 : Nat)) ∧ w'.cell? ⟨q, 0, none⟩ = some (.int .i64 (f.sync.size : Nat)) ∧ w'.cell? ⟨g, 0, none⟩ = some (.string f.sync) ∧ Hid (Ext wr w') ∧ (convert 22 9 (.slice (some ⟨d, off + pos, none⟩) f.sync.size cp)).run Try.prog w' = .ok (.string f.sync) w')
          (first
            | assumption
            | exact HK.out wr _ ((Ext.refl wr).drew) ⟨c1, c2, c4, he1, hcv1⟩
            | (go_split_ands
               first
                 | exact ⟨by assumption, by assumption, by assumption, by assumption, by assumption⟩
                 | exact HK.out _ _ (by assumption) ⟨by assumption, by assumption, by assumption, by assumption, by assumption⟩))
          (first
            | (go_at_call 19; go_split_ands; refine (HSUM.out _ ?_).mono ?_; exact Hid.out (by assumption); rintro e w' ⟨rfl, rfl⟩)
            | (go_at_call 102; refine (HPAIR.out _).mono ?_; rintro e w3 ⟨A3, rfl, hb3, hx3⟩)
            | (go_at_call 104; go_split_ands; refine (HEQUAL.out _ _ ?_ ?_).mono ?_; exact Hid.out (by assumption); exact Hid.out (by assumption); rintro e w4 ⟨rfl, hx4⟩))
        rename_i hH
        obtain ⟨g1, g2, g3, g4, _⟩ := hH
        have hE4 := g4.out
        clear g4
        clear hx4 hx3 hb3 he1 hcv1 HK HEQUAL HPAIR HSUM HCV hw1 hw2 hw3 hcp4 hcp5 hcp6 hcp7 hcp8 hcp9
        cases sok with
        | false =>
          simp only [Bool.not_false]
          have hpl := HIN.out
          go_wp2
          go_roundw
          case rel => exact ⟨pos + 1, k, pre, by go_num, by omega, ⟨by have := hscan.out.1; omega, by have := hscan.out.2; rw [scan_skip (by rw [HSZ.out]; exact HIN.out) HOT.out] at this; exact this⟩, HJ.out pre _ _ hJp.out hE4, hcp.out.ext hE4⟩
          case measure => have := HP.out; simp [intOf]; omega
        | true =>
          have hcw : w4.cell? ⟨d, off + pos + f.sync.size, none⟩ = some (.int .u8 (own.getD f.sync.size 0 : Nat)) := HOB.out.ext hE4 _ (by have := HOL.out; omega)
          have hcl : own.getD f.sync.size 0 < 256 := by
            have hl : f.sync.size < own.length := by have := HOL.out; omega
            rw [List.getD_eq_getElem?_getD, List.getElem?_eq_getElem hl]
            exact HOLT.out _ (List.getElem_mem _)
          have HFR := hide (show frAt f l pos = ⟨pos, own.getD f.sync.size 0, wordsAt f.sync.size own f.words.toNat⟩ by unfold frAt; rw [HOWN.out])
          generalize own.getD f.sync.size 0 = cnt at *
          have hc5 : z < z + 2 := by omega
          have lq := World.lt_of_cell g2
          have ls := World.lt_of_cell g1
          have ld := World.lt_of_cell hcw
          have HCL := hide hcl
          have HIN2 := hide hcp1
          clear hcl hcp1 hcp2 hcp3
          simp only [Bool.not_true]
          go_wp2
          go_loopw [9] (fun i w5 => Inner f own z pos cnt w4 i w5) (fun i _ => z + 1 - (intOf i).toNat)
          case atStart =>
            have hwc : wrap64 (cnt : Int) = cnt := by
              have := HCL.out
              unfold wrap64; omega
            refine ⟨0, f.sync.size + 1, .slice none 0 0, by simp, ⟨by omega, by omega⟩, by omega, (Ext.refl w4).alloc _, by simp, by simp, by simpa using hwc, by simp, by simp, ?_⟩
            exact Own.nil _ _ _ _
          case round =>
            obtain ⟨m, i0, v, rfl, hm, hi0, hE5, hsz5, b0, b1, b2, b3, hown5⟩ := hrel
            have k1 := hE5.cell g1
            have k2 := hE5.cell g2
            clear g1 g2 g3 lq ls ld hcw hc5
            by_cases hiz : i0 < z
            · have hmw : m < f.words.toNat := by have := hm.out; have := HBW.out; omega
              have hiz2 : i0 + 1 < z := by have := hm.out; have := HBW.out; omega
              have hm3 : m ≤ 3001 := by have := hm.out; omega
              have hlt1 : i0 < own.length := by have := HOL.out; omega
              have hlt2 : i0 + 1 < own.length := by have := HOL.out; omega
              have hx0 := hide ((hE4.trans hE5).cell (HOB.out i0 hlt1))
              have hx1 := hide ((hE4.trans hE5).cell (HOB.out (i0 + 1) hlt2))
              have hl0 : own.getD i0 0 < 256 := by rw [List.getD_eq_getElem?_getD, List.getElem?_eq_getElem hlt1]; exact HOLT.out _ (List.getElem_mem _)
              have hl1 : own.getD (i0 + 1) 0 < 256 := by rw [List.getD_eq_getElem?_getD, List.getElem?_eq_getElem hlt2]; exact HOLT.out _ (List.getElem_mem _)
              have hwa : wordsAt f.sync.size own (m + 1) = wordsAt f.sync.size own m ++ [((own.getD i0 0 * 256 + own.getD (i0 + 1) 0 : Nat) : Int)] := by
                rw [wordsAt_succ]; unfold wordAt
                rw [hm.out.1, show f.sync.size + 1 + 2 * m + 1 = f.sync.size + 2 + 2 * m by omega]
              generalize own.getD i0 0 = x0 at *
              generalize own.getD (i0 + 1) 0 = x1 at *
              have HWA := hide hwa
              have HOR := hide (or_bytes hl0 hl1)
              have hx0 := hx0.out
              have hx1 := hx1.out
              have hcp2 : z + 2 ≤ cp := HIN2.out
              have hw1 : IntKind.i64.wrap ((i0 : Int) + 1) = (i0 : Int) + 1 := by rw [IntKind.wrap_i64]; omega
              have hw2 : ((i0 : Int) + 1).toNat = i0 + 1 := by omega
              have hw3 : (0 : Int) ≤ (i0 : Int) + 1 := by omega
              have hw4 : (i0 : Int) + 1 < (z : Int) + 2 := by omega
              have hw5 : (0 : Int) ≤ (i0 : Int) := by omega
              have hw6 : (i0 : Int) < (z : Int) + 2 := by omega
              clear hwa hlt1 hlt2
              go_wp2_with fail
              go_region_law (refine step_app rfl (.tmp 61) (.tmp 75) 29 (by rfl) (w4.heap.size + 1) 3 ii _ 1 8 Try.underlying29 hi hz0 hz1 hz2 rfl v m _ (by rfl) (hown5.out.alloc _).drew (some ⟨wr.heap.size, 0, none⟩) 1 1 [.int .i64 ((x0 * 256 + x1 : Nat) : Int)] (by rfl) (src_one wr 3 HOR) (by simp [Value.oneCell']) (by simp only [maxLen]; omega) (by omega) (by simp; omega) ?_; intro v' w' hown' hb'; obtain ⟨vA, vcap, rfl, hv1, hv2, hv3⟩ := hown'.form; have nb2 := below_cell hb' (p := ⟨w4.heap.size, 2, none⟩) (by simp) ((((Ext.refl wr).alloc _).drew).cell b2); have nb3 := below_frozen hb' (p := ⟨w4.heap.size, 2, none⟩) (by simp) (ext_frozen (((Ext.refl wr).alloc _).drew) hsz5 b3))
              all_goals (
                have hxa : Ext w4 w' := (hE5.trans (((Ext.refl wr).alloc _).drew)).step hb' (by omega)
                have nb0 := below_cell hb' (p := ⟨w4.heap.size, 0, none⟩) (by simp) ((((Ext.refl wr).alloc _).drew).cell b0)
                have nb1 := below_cell hb' (p := ⟨w4.heap.size, 1, none⟩) (by simp) ((((Ext.refl wr).alloc _).drew).cell b1)
                have hsw : w4.heap.size < w'.heap.size := Nat.lt_of_lt_of_le (Nat.lt_of_lt_of_le hsz5 (Ext.size (((Ext.refl wr).alloc _).drew))) hb'.size
                have hxs := hxa.setCell (p := ⟨w4.heap.size, 2, none⟩) (Nat.le_refl _) (.slice vA (m + 1) vcap)
                have hos := Own.of_eq (hown'.setCell (p := ⟨w4.heap.size, 2, none⟩) (fun he => by have := (hown'.block _ he).1; simp at this; omega) (.slice vA (m + 1) vcap)) rfl (show _ = (wordsAt f.sync.size own (m + 1)).map (Value.int .i64) by rw [HWA.out, List.map_append]; rfl)
                have hc2 : (w'.setCell ⟨w4.heap.size, 2, none⟩ (.slice vA (m + 1) vcap)).cell? ⟨w4.heap.size, 2, none⟩ = some (.slice vA (m + 1) vcap) := World.cell?_setCell_same' _ _ _ (by rw [nb2]; rfl)
                have hc3 : (w'.setCell ⟨w4.heap.size, 2, none⟩ (.slice vA (m + 1) vcap)).frozen? ⟨w4.heap.size, 2, none⟩ = false := by rw [World.frozen?_setCell]; exact nb3
                have hc0 : (w'.setCell ⟨w4.heap.size, 2, none⟩ (.slice vA (m + 1) vcap)).cell? ⟨w4.heap.size, 0, none⟩ = some (.int .i64 (pos : Nat)) := (World.cell?_setCell_other _ _ _ _ (by intro he; cases he)).trans nb0
                have hc1 : (w'.setCell ⟨w4.heap.size, 2, none⟩ (.slice vA (m + 1) vcap)).cell? ⟨w4.heap.size, 1, none⟩ = some (.int .i64 (cnt : Nat)) := (World.cell?_setCell_other _ _ _ _ (by intro he; cases he)).trans nb1
                have hsz' : w4.heap.size < (w'.setCell ⟨w4.heap.size, 2, none⟩ (.slice vA (m + 1) vcap)).heap.size := by simpa using hsw
                generalize w'.setCell ⟨w4.heap.size, 2, none⟩ (.slice vA (m + 1) vcap) = w6 at *
                clear hown' hb' nb0 nb1 nb2 nb3 hsw hxa hw1 hw2 hw3 hw4 hw5 hw6 hx0 hx1 k1 k2 b0 b1 b2 b3 hv1 hv2 hv3
                go_wp2
                go_roundw
                case rel => exact ⟨m + 1, i0 + 2, _, by go_num, ⟨by have := hm.out; omega, by omega⟩, by omega, hxs, hsz', hc0, hc1, hc2, hc3, hos⟩
                case measure => simp [intOf]; omega)
            · have hm2 : m = f.words.toNat := by have := hm.out; have := HBW.out; omega
              obtain ⟨vA, vcap, rfl, hv1, hv2, hv3⟩ := hown5.out.form
              have hints := Own.ints hown5.out
              have hcaps5 := hcp.out.ext (hE4.trans hE5)
              obtain ⟨fn, tmps, assign, body, hy, hR⟩ := HY.out pre (frAt f l pos, .slice vA m vcap) _ wr ⟨scan f l k (pos + (z + 2)), by have := hscan.out.2; rw [scan_hit (by rw [HSZ.out]; exact HIN.out) HOT.out, HSZ.out] at this; rw [List.map_append, List.append_assoc]; exact this⟩ hJp.out (hE4.trans hE5) ⟨by show IntsV wr .i64 (.slice vA m vcap) (frAt f l pos).words; rw [HFR.out]; show IntsV wr .i64 (.slice vA m vcap) (wordsAt f.sync.size own f.words.toNat); rw [← hm2]; exact hints, fun k hk => by have h1 := hown5.out.block k hk; have h2 := hE4.size; exact ⟨by omega, h1.2⟩, by show (frAt f l pos).count < 256; rw [HFR.out]; exact HCL.out⟩
              have hen : FrX.encs (frAt f l pos, .slice vA m vcap) = #[.agg #[.int .i64 (pos : Nat), .int .i64 (cnt : Nat), .slice vA m vcap]] := by unfold FrX.encs; rw [HFR.out]
              rw [hen] at hy
              have HR := hide hR
              have HM2 := hide hm2
              have HCAPS := hide hcaps5
              have HINTS := hide hints
              clear hR hen hm2 hcaps5 hints
              refine (wpIn_wide (n := 0)).1 ?_
              gi_wp2
              refine (wpIn_wide (n := 0)).1 ?_
              gi_wp2
              refine ⟨rfl, HR.out.mono ?_⟩
              rintro e W' (⟨rfl, hJ', hk⟩ | ⟨rfl, hJx'⟩)
              · have hcp' := HCAPS.out.keep hk
                have n1 : W'.cell? ⟨s, 0, none⟩ = some (.int .i64 (z + 2 : Nat)) := by have := hcp'.size; rw [HZ.out] at this; exact this
                have hpl := HIN.out
                have HC' := hide hcp'
                have HJ' := hide hJ'
                clear hcp' hJ' hk k1 k2 b0 b1 b2 b3 hy HR
                gi_wp2
                go_roundw
                case rel =>
                  refine ⟨pos + (z + 2), k, pre ++ [(frAt f l pos, .slice vA m vcap)], by go_num, by omega, ⟨by have := hscan.out.1; omega, ?_⟩, HJ', HC'⟩
                  have := hscan.out.2
                  rw [scan_hit (by rw [HSZ.out]; exact hpl) HOT.out, HSZ.out] at this
                  rw [List.map_append, List.append_assoc]
                  exact this
                case measure => simp [intOf]; omega
              · clear k1 k2 b0 b1 b2 b3 hy HR
                have HJX := hide hJx'
                clear hJx'
                gi_wp2
                refine bodyPost_ret (results_none rfl _ _ _) rfl ?_
                refine ⟨⟨_, rfl⟩, .inr ⟨_, ⟨scan f l k (pos + (z + 2)), ?_⟩, HJX.out⟩⟩
                have := hscan.out.2
                rw [scan_hit (by rw [HSZ.out]; exact HIN.out) HOT.out, HSZ.out] at this
                rw [List.map_append, List.append_assoc]
                exact this
      · have hne : (str.toList == f.sync.toList) = false := by
          rw [ByteArray.toList_eq, ByteArray.toList_eq, beq_eq_false_iff_ne]
          intro hh
          exact hsy (ByteArray.ext (Array.ext' (by simpa using hh)))
        have hcv1 : ∀ n, (convert 22 9 (.slice (some ⟨d, off + pos, none⟩) f.sync.size cp)).run Try.prog (wr.drewN n) = .ok (.string str) (wr.drewN n) := fun n => HCV.out _ ((Ext.refl wr).drewN n)
        have hoF : okAt f l pos = false := by unfold okAt; rw [HOWN.out, HSO.out, decide_eq_false hsy]; rfl
        have HOF := hide hoF
        clear hoF hsy
        have HIN := hide hin
        have HP := hide hpos
        clear hpos
        have hpl := HIN.out
        go_quiet (fail)
        go_wp2
        go_roundw
        case rel => exact ⟨pos + 1, k, pre, by go_num, by omega, ⟨by have := hscan.out.1; omega, by have := hscan.out.2; rw [scan_skip (by rw [HSZ.out]; exact HIN.out) HOF.out] at this; exact this⟩, HJ.out pre _ _ hJp.out ((Ext.refl _).drewN _), hcp.out.ext ((Ext.refl _).drewN _)⟩
        case measure => have := HP.out; simp [intOf]; omega
    · have HN := hide hin
      clear hin cA
      have hn1 : ¬ ((pos : Int) + ((bodyF f : Int) + 2) ≤ (l.length : Int)) := by have := HN.out; omega
      go_wp2
      go_end0
      refine ⟨⟨_, rfl⟩, .inl ⟨pre, ?_, hJp.out⟩⟩
      have := hscan.out.2
      rw [scan_end (by rw [HSZ.out]; exact HN.out), List.append_nil] at this
      exact this
end Go.Proofs.Ytjnnkcnnandeeaa
