/- The walk of the reference's found. -/
import Derived.Test.YtjnnkcnnandeeaaFound
import Derived.Test.YtjnnkcnnandeeaaWAwake
import Derived.Test.YtjnnkcnnandeeaaWRefCom
namespace Go.Proofs.Ytjnnkcnnandeeaa
open Go.RowKit
theorem sizeF_eq (f : Fmt) {wn : Nat} (h : f.words = wn) : sizeF f = f.sync.size + 1 + 2 * wn + 2 := by unfold sizeF bodyF; rw [h]; simp
set_option maxRecDepth 100000 in
set_option maxHeartbeats 400000 in
/-- ref.Length -/
theorem length_any (v : Value) (f : Fmt) (w : World) (hv : FmtV w v f) (hw0 : 0 ≤ f.words) (hw : f.words ≤ 1000) (hs : f.sync.size ≤ 1000) :
    Calls Try.prog 36 #[v] w fun e w' => e = .returned (.int .i64 (sizeF f : Nat)) ∧ Ext w w' := by
  obtain ⟨_, _, A, cap, rfl, _, _, _⟩ := hv
  obtain ⟨wn, hwn⟩ := Int.eq_ofNat_of_zero_le hw0
  have HS := hide (sizeF_eq f hwn)
  have hw1 : wn ≤ 1000 := by omega
  generalize f.words = fw at *
  subst hwn
  clear hw0 hw
  go_enter Try.func36, Try.ntmps36
  go_wp2
  go_ret
  exact ⟨ret_int (by rw [HS.out]; omega), (Ext.refl _).alloc _⟩
theorem heap_ext {W W' : World} (h : Ext W W') {B : Nat} {o : Obj} (hb : W.heap[B]? = some o) : W'.heap[B]? = some o := (Below.block h B (Array.getElem?_eq_some_iff.1 hb).1).trans hb
theorem heap_frozen {W : World} {B : Nat} {c : Array Value} {t : TypeId} (h : W.heap[B]? = some (.cells c t (0, 0))) (k : Nat) : W.frozen? ⟨B, k, none⟩ = false := by simp [World.frozen?, h]
theorem heap_new2 (w : World) (o o' : Obj) : ((w.alloc o).alloc o').heap[w.heap.size + 1]? = some o' := by
  have := World.alloc_heap_new (w.alloc o) o'
  rwa [World.size_alloc] at this
theorem mul_bytes {x0 x1 : Nat} (h0 : x0 < 256) (h1 : x1 < 256) : Value.int .i64 (IntKind.i64.wrap (IntKind.i64.wrap (256 * IntKind.i64.wrap (x0 : Int)) + IntKind.i64.wrap (x1 : Int))) = .int .i64 ((x0 * 256 + x1 : Nat) : Int) := by
  have e0 : IntKind.i64.wrap (x0 : Int) = x0 := by rw [IntKind.wrap_i64]; omega
  have e1 : IntKind.i64.wrap (x1 : Int) = x1 := by rw [IntKind.wrap_i64]; omega
  have e2 : IntKind.i64.wrap (256 * (x0 : Int)) = ((x0 * 256 : Nat) : Int) := by rw [IntKind.wrap_i64]; omega
  have e3 : IntKind.i64.wrap (((x0 * 256 : Nat) : Int) + (x1 : Int)) = ((x0 * 256 + x1 : Nat) : Int) := by rw [IntKind.wrap_i64]; omega
  rw [e0, e1, e2, e3]
def FoV (V xv bv sl : Value) (X pos c z : Nat) (fb : List Nat) (sb tb : ByteArray) : Nat → Value → World → Prop
  | 0, v, _ => v = V
  | 1, v, _ => v = .pointer (some ⟨X, 1, none⟩)
  | 2, v, _ => v = .int .i64 (c : Nat)
  | 3, v, _ => v = .pointer (some ⟨X, 2, none⟩)
  | 4, v, _ => v = xv
  | 5, v, w => BytesV w v fb
  | 6, v, _ => v = .string sb
  | 7, v, _ => v = bv
  | 8, v, _ => v = .int .i64 (pos : Nat)
  | 9, v, _ => v = .int .i64 (pos : Nat)
  | 10, v, _ => v = .int .i64 (z : Nat)
  | 11, v, _ => v = .int .i64 ((pos + z : Nat) : Int)
  | 12, v, _ => v = sl
  | 13, v, _ => v = .string tb
  | _, v, _ => v = .bool (!(sb.toList == tb.toList))
theorem FoV.mono {V xv bv sl : Value} {X pos c z : Nat} {fb : List Nat} {sb tb : ByteArray} {base j : Nat} {v : Value} {A B : World} (h : FoV V xv bv sl X pos c z fb sb tb j v A) (k : Grow base A B) : FoV V xv bv sl X pos c z fb sb tb j v B := by
  unfold FoV at h ⊢
  split at h
  all_goals first
    | exact h
    | exact h.cext k.c
theorem str_beq {l m : List Nat} (hl : ∀ x ∈ l, x < 256) (hm : ∀ x ∈ m, x < 256) : ((strOf l).toList == (strOf m).toList) = decide (l = m) := by
  rw [Bool.eq_iff_iff, decide_eq_true_iff, beq_iff_eq, ByteArray.toList_eq, ByteArray.toList_eq]
  constructor
  · intro h
    have h1 : strOf l = strOf m := Go.WideShapes.bytes_inj h
    rw [(strOf_eq hl (strOf m)).1 h1]
    exact ((strOf_eq hm (strOf m)).1 rfl).symm
  · rintro rfl; rfl
theorem grownBy_setCell1 (w : World) (b k : Nat) (v : Value) : w.grownBy (w.setCell ⟨b, k, none⟩ v) (some b) :=
  ⟨rfl, rfl, rfl, by simp [World.setCell], fun i _ hi => Below.heap_setCell w ⟨b, k, none⟩ v i (fun e => hi (by rw [e]))⟩
def frV (x : FrD) (xv : Value) : Value := .agg #[.int .i64 (x.pos : Nat), .int .i64 (x.count : Nat), xv]
/-- What found hands back. -/
def FoundR (f : Fmt) (l : List Nat) (pos : Nat) (w : World) (e : Ending) (w' : World) : Prop :=
  (foundB f l pos = true ∧ ∃ xv, e = .returned (.tuple #[frV (frAt f l pos) xv, .bool true]) ∧ IntsV w' .i64 xv (frAt f l pos).words ∧ (∀ k, xv.ownBlock = some k → w.heap.size ≤ k ∧ k < w'.heap.size) ∧ Ext w w') ∨
  (foundB f l pos = false ∧ e = .returned (.tuple #[.agg #[.int .i64 0, .int .i64 0, .slice none 0 0], .bool false]) ∧ Ext w w')
set_option maxRecDepth 100000 in
set_option maxHeartbeats 2000000 in
/-- ref.found -/
theorem found_any (v b : Value) (f : Fmt) (l : List Nat) (pos : Nat) (w : World) (hv : FmtV w v f) (hb : BytesV w b l) (hs4 : f.sync.size ≤ 1000) (hw0 : 0 ≤ f.words) (hw : f.words ≤ 1000) (hl : l.length ≤ 1000000) (hp : pos ≤ l.length) :
    Calls Try.prog 73 #[v, b, .int .i64 (pos : Nat)] w fun e w' => FoundR f l pos w e w' := by
  have HV := hide hv
  have HB := hide hb
  obtain ⟨_, _, A, cap, rfl, _, _, _⟩ := hv
  obtain ⟨hlt, A', cap', rfl, hcap', hmax', hrow'⟩ := hb
  have HLT := hide hlt
  have hm' : cap' ≤ 9223372036854775807 := by simpa [maxLen] using hmax'
  obtain ⟨wn, hwn⟩ := Int.eq_ofNat_of_zero_le hw0
  have HS := hide (sizeF_eq f hwn)
  have HWN := hide hwn
  have hw1 : wn ≤ 1000 := by omega
  obtain ⟨z, HZ⟩ : ∃ z, Hid (sizeF f = z) := ⟨_, rfl⟩
  have hz1 : z = f.sync.size + 1 + 2 * wn + 2 := by rw [← HZ.out]; exact HS.out
  have HROW := hide hrow'
  have HL := hide (fun W (hx : Ext w W) => length_any _ f W (HV.out.ext hx) hw0 hw hs4)
  rw [HZ.out] at HL
  clear hlt hrow' hmax' hw hw0
  have HX0 := hide (((Ext.refl w).alloc (.cells #[.string f.sync, .int .i64 f.words, .int .i64 f.depth, .slice A f.channels.length cap] 28)).alloc (.cells #[.int .i64 0, .int .i64 0, .slice none 0 0] 59))
  have HZ1 := hide hz1
  clear hwn
  by_cases hin : pos + z ≤ l.length
  · have HIN := hide hin
    have hd : decide ((l.length : Int) < (pos : Int) + (z : Int)) = false := by simp; omega
    have hs2 : pos + f.sync.size < l.length := by omega
    have hcap2 : (pos : Int) + (f.sync.size : Int) < (l.length : Int) := by omega
    have hcap3 : (0 : Int) ≤ (pos : Int) + (f.sync.size : Int) := by omega
    obtain ⟨bb, off, c, rfl, hbl, hc256, hck, HC⟩ := bytes_at (HROW.out) HLT.out hs2
    have HCK := hide (fun W (hx : Ext w W) => hx.cell hck)
    clear hck hz1
    go_enter Try.func73, Try.ntmps73
    go_wp2_with fail
    refine (HL.out _ HX0.out).mono ?_
    rintro e w1 ⟨rfl, hx1⟩
    have hb1 := heap_ext hx1 (heap_new2 w _ _)
    obtain ⟨g0, g1, g2, g3⟩ := box4 w _ _ _ _ _ (((Ext.refl _).alloc _).trans hx1)
    have hcx := HCK.out w1 (HX0.out.trans hx1)
    have HX1 := hide hx1
    have HB1 := hide hb1
    have hwn3 := HWN.out
    rw [hwn3] at g1
    clear hwn3
    have hsz1 : w.heap.size + 1 < w1.heap.size := (Array.getElem?_eq_some_iff.1 hb1).1
    clear hx1 hb1
    go_wp2_with fail
    obtain ⟨own, HOWN⟩ : ∃ own, Hid (window f l pos = own) := ⟨_, rfl⟩
    have HOG : Hid (∀ i, i < z → own.getD i 0 = l.getD (pos + i) 0) := hide (fun i hi => by
      rw [← HOWN.out]
      unfold window
      simp only [List.getD_eq_getElem?_getD, List.getElem?_take, HZ.out, if_pos hi, List.getElem?_drop])
    clear hcx
    obtain ⟨ii, hi, hz0, hz1', hz2⟩ := info_parts int_info
    go_loopw [10] (fun x wr => ∃ (m : Nat) (v : Value), x = .int .i64 m ∧ m ≤ wn ∧ Ext w1 wr ∧ w1.heap.size < wr.heap.size ∧
        wr.cell? ⟨w1.heap.size, 0, none⟩ = some (.int .i64 (pos : Nat)) ∧ wr.cell? ⟨w1.heap.size, 1, none⟩ = some (.int .i64 (c : Nat)) ∧ wr.cell? ⟨w1.heap.size, 2, none⟩ = some v ∧ wr.frozen? ⟨w1.heap.size, 2, none⟩ = false ∧
        Hid (Own wr (w1.heap.size + 1) 3 1 v m ((wordsAt f.sync.size own m).map (Value.int .i64)))) (fun x _ => wn - (intOf x).toNat)
    case atStart => exact ⟨0, .slice none 0 0, rfl, by omega, (Ext.refl _).alloc _, by simp, by simp, by simp, by simp, heap_frozen (World.alloc_heap_new _ _) 2, hide (Own.nil _ _ _ _)⟩
    case round =>
      obtain ⟨m, v, rfl, hmw, hE, hsz5, b0, b1, b2, b3, hown5⟩ := hrel
      have hg0 := hE.cell g0
      have hg1 := hE.cell g1
      have hg3 := hE.cell g3
      have hg2 := hE.cell g2
      by_cases h8 : m < wn
      · have hz1 := HZ1.out
        obtain ⟨i0, hi0⟩ : ∃ i0 : Nat, i0 = pos + f.sync.size + 1 + 2 * m := ⟨_, rfl⟩
        have hlt1 : i0 < l.length := by omega
        have hlt2 : i0 + 1 < l.length := by omega
        have he0 : (pos : Int) + (f.sync.size : Int) + 1 + 2 * (m : Int) = (i0 : Int) := by omega
        obtain ⟨bq, offq, x0, hq, _, hx256, hck0, HX0'⟩ := bytes_at HROW.out HLT.out hlt1
        injection hq with hq
        injection hq with hq1 hq2
        subst hq1 hq2
        obtain ⟨bq, offq, x1, hq, _, hx256', hck1, HX1'⟩ := bytes_at HROW.out HLT.out hlt2
        injection hq with hq
        injection hq with hq1 hq2
        subst hq1 hq2
        have hwa : wordsAt f.sync.size own (m + 1) = wordsAt f.sync.size own m ++ [((x0 * 256 + x1 : Nat) : Int)] := by
          rw [wordsAt_succ]; unfold wordAt
          rw [HOG.out _ (by omega), HOG.out _ (by omega), show pos + (f.sync.size + 1 + 2 * m) = i0 by omega, show pos + (f.sync.size + 2 + 2 * m) = i0 + 1 by omega, HX0'.out, HX1'.out]
        have HWA := hide hwa
        have HE0 := hide he0
        have HZ2 := hide hz1
        clear hwa hz1 hi0 he0
        go_wp2_with fail
        rw [HE0.out]
        have hE2 := (HX0.out.trans HX1.out).trans hE
        have k0 := hE2.cell hck0
        have k1 := hE2.cell hck1
        have HE := hide hE
        have hxx0 : Ext w1 ((wr.alloc (.cells #[.int .i64 ((x0 * 256 + x1 : Nat) : Int)] 3)).drew) := (hE.alloc _).drew
        have hw1' : IntKind.i64.wrap ((i0 : Int) + 1) = (i0 : Int) + 1 := by rw [IntKind.wrap_i64]; omega
        have hw2 : ((i0 : Int) + 1).toNat = i0 + 1 := by omega
        have hw3 : (0 : Int) ≤ (i0 : Int) + 1 := by omega
        have hw4 : (i0 : Int) + 1 < (l.length : Int) := by omega
        have hw5 : (0 : Int) ≤ (i0 : Int) := by omega
        have hw6 : (i0 : Int) < (l.length : Int) := by omega
        have HOR : Hid (Value.int .i64 (IntKind.i64.wrap (IntKind.i64.wrap (256 * IntKind.i64.wrap (x0 : Int)) + IntKind.i64.wrap (x1 : Int))) = .int .i64 ((x0 * 256 + x1 : Nat) : Int)) := hide (mul_bytes hx256 hx256')
        clear hck0 hck1 hE hE2 hxx0 hg0 hg1 hg3
        go_region_law (refine step_app rfl (.tmp 48) (.tmp 62) 29 (by rfl) (w1.heap.size + 1) 3 ii _ 1 8 Try.underlying29 hi hz0 hz1' hz2 rfl v m _ (by rfl) (hown5.out.alloc _).drew (some ⟨wr.heap.size, 0, none⟩) 1 1 [.int .i64 ((x0 * 256 + x1 : Nat) : Int)] (by rfl) (src_one wr 3 HOR) (by simp [Value.oneCell']) (by simp only [maxLen]; omega) (by omega) (by simp; omega) ?_; intro v' w' hown' hb'; obtain ⟨vA, vcap, rfl, hv1, hv2, hv3⟩ := hown'.form; have nb2 := below_cell hb' (p := ⟨w1.heap.size, 2, none⟩) (by simp) ((((Ext.refl wr).alloc _).drew).cell b2); have nb3 := below_frozen hb' (p := ⟨w1.heap.size, 2, none⟩) (by simp) (ext_frozen (((Ext.refl wr).alloc _).drew) hsz5 b3))
        all_goals (
          have hxa : Ext w1 w' := (HE.out.trans (((Ext.refl wr).alloc _).drew)).step hb' (by omega)
          have nb0 := below_cell hb' (p := ⟨w1.heap.size, 0, none⟩) (by simp) ((((Ext.refl wr).alloc _).drew).cell b0)
          have nb1 := below_cell hb' (p := ⟨w1.heap.size, 1, none⟩) (by simp) ((((Ext.refl wr).alloc _).drew).cell b1)
          have hsw : w1.heap.size < w'.heap.size := Nat.lt_of_lt_of_le (Nat.lt_of_lt_of_le hsz5 (Ext.size (((Ext.refl wr).alloc _).drew))) hb'.size
          have hxs := hxa.setCell (p := ⟨w1.heap.size, 2, none⟩) (Nat.le_refl _) (.slice vA (m + 1) vcap)
          have hos := Own.of_eq (hown'.setCell (p := ⟨w1.heap.size, 2, none⟩) (fun he => by have := (hown'.block _ he).1; simp at this; omega) (.slice vA (m + 1) vcap)) rfl (show _ = (wordsAt f.sync.size own (m + 1)).map (Value.int .i64) by rw [HWA.out, List.map_append]; rfl)
          have hc2 : (w'.setCell ⟨w1.heap.size, 2, none⟩ (.slice vA (m + 1) vcap)).cell? ⟨w1.heap.size, 2, none⟩ = some (.slice vA (m + 1) vcap) := World.cell?_setCell_same' _ _ _ (by rw [nb2]; rfl)
          have hc3 : (w'.setCell ⟨w1.heap.size, 2, none⟩ (.slice vA (m + 1) vcap)).frozen? ⟨w1.heap.size, 2, none⟩ = false := by rw [World.frozen?_setCell]; exact nb3
          have hc0 : (w'.setCell ⟨w1.heap.size, 2, none⟩ (.slice vA (m + 1) vcap)).cell? ⟨w1.heap.size, 0, none⟩ = some (.int .i64 (pos : Nat)) := (World.cell?_setCell_other _ _ _ _ (by intro he; cases he)).trans nb0
          have hc1 : (w'.setCell ⟨w1.heap.size, 2, none⟩ (.slice vA (m + 1) vcap)).cell? ⟨w1.heap.size, 1, none⟩ = some (.int .i64 (c : Nat)) := (World.cell?_setCell_other _ _ _ _ (by intro he; cases he)).trans nb1
          have hsz' : w1.heap.size < (w'.setCell ⟨w1.heap.size, 2, none⟩ (.slice vA (m + 1) vcap)).heap.size := by simpa using hsw
          generalize w'.setCell ⟨w1.heap.size, 2, none⟩ (.slice vA (m + 1) vcap) = w6 at *
          clear hown' hb' nb0 nb1 nb2 nb3 hsw hxa hw1' hw2 hw3 hw4 hw5 hw6 k0 k1 b0 b1 b2 b3 hv1 hv2 hv3
          go_wp2
          go_roundw
          case rel => exact ⟨m + 1, _, by go_num, by omega, hxs, hsz', hc0, hc1, hc2, hc3, hide hos⟩
          case measure => simp [intOf]; omega)
      · obtain rfl : m = wn := by omega
        have hints := Own.ints hown5.out
        obtain ⟨vA, vcap, rfl, hv1, hv2, _⟩ := hown5.out.form
        have HI := hide hints
        have HE := hide hE
        have HXR := hide ((HX0.out.trans HX1.out).trans hE)
        have hfr := frame_window (f := f) (l := l) (pos := pos) (by rw [HZ.out]; exact HIN.out) HLT.out
        unfold frAt at hfr
        dsimp only at hfr
        rw [HOWN.out, HWN.out] at hfr
        have hc2 : own.getD f.sync.size 0 = c := by rw [HOG.out _ (by have := HZ1.out; omega)]; exact HC.out
        have HC2 := hide hc2
        have HFR := hide hfr
        clear hc2
        clear hints hfr
        go_wp2_with fail
        have hwords : ∀ x ∈ wordsAt f.sync.size own m, 0 ≤ x ∧ x ≤ 65535 := by
          intro x hx
          unfold wordsAt at hx
          obtain ⟨i, _, rfl⟩ := List.mem_map.1 hx
          unfold wordAt
          have hob : ∀ y ∈ own, y < 256 := fun y hy => by rw [← HOWN.out] at hy; exact HLT.out y (List.mem_of_mem_drop (List.mem_of_mem_take hy))
          have h1 := getD_mem_lt own (f.sync.size + 1 + 2 * i) 256 (by omega) hob
          have h2 := getD_mem_lt own (f.sync.size + 2 + 2 * i) 256 (by omega) hob
          omega
        have hwl : (wordsAt f.sync.size own m).length ≤ 1000 := by unfold wordsAt; simp; omega
        have HCALL : Hid (∀ W, CExt wr W → Calls Try.prog 65 #[.agg #[.string f.sync, .int .i64 f.words, .int .i64 f.depth, .slice A f.channels.length cap], .int .i64 (c : Nat), .slice vA m vcap] W fun e w' => ∃ r, e = .returned r ∧ BytesV w' r (frameOf f (c : Nat) (wordsAt f.sync.size own m)) ∧ Ext W w') :=
          hide (fun W hx => refFrame_any _ _ f (c : Nat) _ W ((HV.out.ext HXR.out).cext hx) (HI.out.cext hx) (by omega) hwords hwl hs4)
        have HWB : Hid (∀ W, CExt wr W → BytesV W (.slice (some ⟨bb, off + pos, none⟩) z (cap' - pos)) own) := hide (fun W hx => by
          obtain ⟨_, _, _, he, _, _, hr⟩ := (HB.out.ext HXR.out).cext hx
          injection he with he1 _ he2
          subst he1 he2
          obtain ⟨b3, o3, he3, hb3, hc3⟩ := hr (by omega)
          injection he3 with he3
          injection he3 with he4 he5
          subst he4 he5
          have hby : Bytes W bb off l := hc3
          have := hby.sub pos z HIN.out
          rw [show (l.drop pos).take z = own by rw [← HOWN.out, ← HZ.out]; rfl] at this
          exact this.v' hb3 (fun y hy => by rw [← HOWN.out] at hy; exact HLT.out y (List.mem_of_mem_drop (List.mem_of_mem_take hy))) (by rw [← HOWN.out, window_length (by rw [HZ.out]; exact HIN.out), HZ.out]) (by omega) (by simp [maxLen]; omega))
        obtain ⟨sb, HSB⟩ : ∃ sb, Hid (strOf (frameOf f (c : Nat) (wordsAt f.sync.size own m)) = sb) := ⟨_, rfl⟩
        obtain ⟨tb, HTB⟩ : ∃ tb, Hid (strOf own = tb) := ⟨_, rfl⟩
        have hz3 : 3 ≤ z := by have := HZ1.out; omega
        clear hwords hwl hc256 hcap2 hcap3 hs2
        refine wp_region_vals (by kernel_rfl) (fun j => j + 65) (FoV (.agg #[.string f.sync, .int .i64 f.words, .int .i64 f.depth, .slice A f.channels.length cap]) (.slice vA m vcap) (.slice (some ⟨bb, off, none⟩) l.length cap') (.slice (some ⟨bb, off + pos, none⟩) z (cap' - pos)) w1.heap.size pos c z (frameOf f (c : Nat) (wordsAt f.sync.size own m)) sb tb) [65, 66, 67, 68, 69, 70, 71, 72, 73, 74, 75, 76, 77, 78, 79] (by decide) (by kernel_rfl) (by decide +kernel) (by kernel_rfl) (by kernel_rfl) (by kernel_rfl)
          (Grow wr.heap.size) (Grow.of_ext ((Ext.refl wr).drew) (Nat.le_refl _)) (fun _ _ _ h k => h.trans k) (fun j v A B h k => FoV.mono h k) ?_ ?_
        · refine ⟨?_, ?_, ?_, ?_, ?_, ?_, ?_, ?_, ?_, ?_, ?_, ?_, ?_, ?_, ?_, trivial⟩
          all_goals
            intro x W hd hR
            simp [Region.binds, FoV] at hd
            refine ⟨fun _ K hK => ?_, by intro g b h hn; first | (cases h; done) | (cases h; exact absurd (by simp [hd]) hn)⟩
            simp only [fill, Act.put, List.setIfInBounds_toArray, List.set_cons_succ, List.set_cons_zero, FoV] at hK ⊢
            try simp only [hd] at hK ⊢
            have q0 := hR.c.cell hg0
            have q1 : W.cell? ⟨w.heap.size, 1, none⟩ = some (.int .i64 f.words) := by rw [HWN.out]; exact hR.c.cell hg1
            have q2 := hR.c.cell b1
            have q3 := hR.c.cell b2
            have q4 := hR.c.cell hg3
            have q5 := hR.c.cell hg2
            have q6 : IntKind.i64.wrap ((pos : Int) + (z : Int)) = ((pos + z : Nat) : Int) := by rw [IntKind.wrap_i64]; have := hin; omega
            have q7 : pos ≤ pos + z := by omega
            have q8 : pos + z ≤ cap' := by omega
            have q9 : ¬ cap' = pos := by omega
            have q10 : pos + z - pos = z := by omega
            have q11 : (0 : Int) ≤ (pos : Int) + (z : Int) := by omega
            have q12 : (pos : Int) + (z : Int) ≤ (cap' : Int) := by omega
            have q13 : ((pos : Int) + (z : Int)).toNat = pos + z := by omega
            go_simp
            try exact hK _ _ rfl (Grow.refl _ _)
          · refine (HCALL.out W hR.c).mono ?_
            rintro e w8 ⟨r, rfl, hb8, hx8⟩
            exact hK _ _ hb8 (Grow.of_ext hx8 hR.c.size)
          · have e := conv_v W 22 5 Try.underlying22 Try.underlying5 Try.underlying9 hd
            rw [HSB.out] at e
            simp only [e, go_sem]
            exact hK _ _ rfl (Grow.refl _ _)
          · have e := conv_v W 22 5 Try.underlying22 Try.underlying5 Try.underlying9 (HWB.out W hR.c)
            rw [HTB.out] at e
            simp only [e, go_sem]
            exact hK _ _ rfl (Grow.refl _ _)
        · intro x W hv hR
          have h79 : x 79 = .bool (!(sb.toList == tb.toList)) := hv 14 (by decide)
          have hob : ∀ y ∈ own, y < 256 := fun y hy => by rw [← HOWN.out] at hy; exact HLT.out y (List.mem_of_mem_drop (List.mem_of_mem_take hy))
          have hfb : ∀ y ∈ frameOf f (c : Nat) (wordsAt f.sync.size own m), y < 256 := by
            have h5 : BytesV W (x 70) (frameOf f (c : Nat) (wordsAt f.sync.size own m)) := hv 5 (by decide)
            exact h5.1
          have hiff : (sb.toList == tb.toList) = okAt f l pos := by
            rw [← HSB.out, ← HTB.out, str_beq hfb hob, Bool.eq_iff_iff, ← HFR.out, decide_eq_true_iff, HC2.out, Int.toNat_natCast]
          rw [hiff] at h79
          have hb2 := heap_ext hE HB1.out
          have q0 := hR.c.cell b0
          have q1 := hR.c.cell b1
          have q2 := hR.c.cell b2
          have c0 := hR.c.cell (cell_heap hb2 0 _ rfl)
          have c1 := hR.c.cell (cell_heap hb2 1 _ rfl)
          have c2 := hR.c.cell (cell_heap hb2 2 _ rfl)
          have hb3 : W.heap[w.heap.size + 1]? = _ := (hR.below.block _ (Array.getElem?_eq_some_iff.1 hb2).1).trans hb2
          have f0 := heap_frozen hb3 0
          have f1 := heap_frozen hb3 1
          have f2 := heap_frozen hb3 2
          have HHV := hide hv
          have HH3 := hide hb3
          have hfound : foundB f l pos = okAt f l pos := by unfold foundB; rw [HZ.out]; simp [HIN.out]
          have HFD := hide hfound
          clear hv hb2 hb3 hfound hiff
          simp only [fill, List.setIfInBounds_toArray, List.set_cons_succ, List.set_cons_zero, h79]
          cases hok : okAt f l pos with
          | true =>
            have HOK := hide hok
            clear hok h79
            go_wp2_with fail
            refine bodyPost_ret (v := .tuple #[.agg #[.int .i64 (pos : Nat), .int .i64 (c : Nat), .slice vA m vcap], .bool true]) (by simp [results, Try.results73, go_sem, c0, c1, c2]) rfl (.inl ⟨by rw [HFD.out, HOK.out], .slice vA m vcap, ?_, ?_, ?_, ?_⟩)
            · unfold frV frAt
              dsimp only
              rw [HOWN.out, HC2.out]
            · have hw0 : IntsV W .i64 (.slice vA m vcap) (frAt f l pos).words := by
                unfold frAt
                dsimp only
                rw [HOWN.out, HWN.out]
                exact HI.out.cext hR.c
              have hne : ∀ j, (Value.slice vA m vcap).ownBlock = some j → some (w.heap.size + 1) ≠ some j := fun j hj e => by
                have := (hown5.out.block j hj).1
                injection e with e
                omega
              exact ((hw0.grown (grownBy_setCell' W (w.heap.size + 1) _) hne).grown (grownBy_setCell1 _ _ 1 _) hne).grown (grownBy_setCell1 _ _ 2 _) hne
            · intro j hj
              have h1 := hown5.out.block j hj
              have h2 := hR.c.size
              refine ⟨by omega, ?_⟩
              simp only [World.setCell, Array.size_modify]
              omega
            · exact (((HXR.out.trans hR.below).setCell (p := ⟨w.heap.size + 1, 0, none⟩) (by show w.heap.size ≤ w.heap.size + 1; omega) _).setCell (p := ⟨w.heap.size + 1, 1, none⟩) (by show w.heap.size ≤ w.heap.size + 1; omega) _).setCell (p := ⟨w.heap.size + 1, 2, none⟩) (by show w.heap.size ≤ w.heap.size + 1; omega) _
          | false =>
            have HOK := hide hok
            clear hok h79
            go_wp2_with fail
            refine bodyPost_ret (v := .tuple #[.agg #[.int .i64 0, .int .i64 0, .slice none 0 0], .bool false]) (by simp [results, Try.results73, go_sem, c0, c1, c2]) rfl (.inr ⟨by rw [HFD.out, HOK.out], rfl, ?_⟩)
            exact (((HXR.out.trans hR.below).setCell (p := ⟨w.heap.size + 1, 0, none⟩) (by show w.heap.size ≤ w.heap.size + 1; omega) _).setCell (p := ⟨w.heap.size + 1, 1, none⟩) (by show w.heap.size ≤ w.heap.size + 1; omega) _).setCell (p := ⟨w.heap.size + 1, 2, none⟩) (by show w.heap.size ≤ w.heap.size + 1; omega) _
  · have hno : foundB f l pos = false := by unfold foundB; rw [HZ.out]; simp [hin]
    have HNO := hide hno
    clear hno
    have hz2 : z ≤ 4000 := by omega
    clear hz1
    go_enter Try.func73, Try.ntmps73
    go_wp2_with fail
    refine (HL.out _ HX0.out).mono ?_
    rintro e w1 ⟨rfl, hx1⟩
    have hb1 := heap_ext hx1 (heap_new2 w _ _)
    have c0 := cell_heap hb1 0 _ rfl
    have c1 := cell_heap hb1 1 _ rfl
    have c2 := cell_heap hb1 2 _ rfl
    have f0 := heap_frozen hb1 0
    have f1 := heap_frozen hb1 1
    have f2 := heap_frozen hb1 2
    have HX1 := hide hx1
    have hd : decide ((l.length : Int) < (pos : Int) + (z : Int)) = true := by simp; omega
    clear hx1 hb1
    go_wp2_with fail
    refine bodyPost_ret (v := .tuple #[.agg #[.int .i64 0, .int .i64 0, .slice none 0 0], .bool false]) (by simp [results, Try.results73, go_sem, c0, c1, c2]) rfl (.inr ⟨HNO.out, rfl, ?_⟩)
    exact (((HX0.out.trans HX1.out).setCell (p := ⟨w.heap.size + 1, 0, none⟩) (by show w.heap.size ≤ w.heap.size + 1; omega) _).setCell (p := ⟨w.heap.size + 1, 1, none⟩) (by show w.heap.size ≤ w.heap.size + 1; omega) _).setCell (p := ⟨w.heap.size + 1, 2, none⟩) (by show w.heap.size ≤ w.heap.size + 1; omega) _
end Go.Proofs.Ytjnnkcnnandeeaa
