/- The walk of read: the frames of a tape and their numbers. -/
import Derived.Test.YtjnnkcnnandeeaaWRead
import Derived.Test.YtjnnkcnnandeeaaSlots
namespace Go.Proofs.Ytjnnkcnnandeeaa
open Go.RowKit Go.Shelf
attribute [local go_sem] Oper.semAt_some
theorem frame_info : (Try.prog.info? 59).map (fun i => (i.zero, i.size, i.bytes)) = some (some (.agg #[.int .i64 0, .int .i64 0, .slice none 0 0]), 3, 40) := by kernel_rfl
theorem scan_len (f : Fmt) (l : List Nat) : ∀ k pos, (scan f l k pos).length + pos ≤ max pos l.length := by
  intro k
  induction k with
  | zero => intro pos; simp [scan]; omega
  | succ k ih =>
    intro pos
    unfold scan
    have hz : 0 < sizeF f := by unfold sizeF; omega
    split
    · split
      · have := ih (pos + sizeF f); simp only [List.length_cons]; omega
      · have := ih (pos + 1); omega
    · simp; omega
theorem framesOf_len (f : Fmt) (l : List Nat) : (framesOf f l).length ≤ l.length := by
  have := scan_len f l (l.length + 1) 0
  unfold framesOf; omega
section
variable {n : Nat} {w : World} {first : Int} {pre : List FrX} {W : World} {lv nv : Value}
theorem RI.keep (h : RI n w first pre W lv nv) {k : Nat} {u : Value} (hk : k < n + 10) (hwk : w.heap.size ≤ k) (hbL : Boxed (W.setCell ⟨k, 0, none⟩ u) (n + 2) 46 lv) (hbN : Boxed (W.setCell ⟨k, 0, none⟩ u) (n + 3) 29 nv)
    (hbE : Boxed (W.setCell ⟨k, 0, none⟩ u) (n + 4) 30 (.int .i64 0)) (hbX : Boxed (W.setCell ⟨k, 0, none⟩ u) (n + 5) 3 (.int .i64 (after first (ds pre)))) : RI n w first pre (W.setCell ⟨k, 0, none⟩ u) lv nv := by
  have hg := grownBy_setCell' W k u
  refine ⟨hbL, hbN, hbE, hbX, h.far, h.le, h.ownL.grown hg (fun j hj e => by have := (h.ownL.block j hj).1; injection e with e; omega), h.ownN.grown hg (fun j hj e => by have := (h.ownN.block j hj).1; injection e with e; omega), h.apart, ?_, h.ext.setCell (p := ⟨k, 0, none⟩) hwk _⟩
  intro y hy
  refine ⟨(h.words y hy).1.grown hg (fun j hj he => by have := ((h.words y hy).2 j hj).1; injection he with he; omega), fun j hj => ?_⟩
  exact ⟨((h.words y hy).2 j hj).1, Nat.lt_of_lt_of_le ((h.words y hy).2 j hj).2.1 hg.size, ((h.words y hy).2 j hj).2.2⟩
theorem RI.done (h : RI n w first pre W lv nv) (hwn : w.heap.size ≤ n) : RI n w first pre ((((W.setCell ⟨n + 2, 0, none⟩ lv).setCell ⟨n + 3, 0, none⟩ nv).setCell ⟨n + 4, 0, none⟩ (.int .i64 0)).drew) lv nv := by
  have h1 := h.keep (k := n + 2) (u := lv) (by omega) (by omega) (Boxed.set _ h.bL) (Boxed.other h.bN (by omega) _) (Boxed.other h.bE (by omega) _) (Boxed.other h.bX (by omega) _)
  have h2 := h1.keep (k := n + 3) (u := nv) (by omega) (by omega) (Boxed.other h1.bL (by omega) _) (Boxed.set _ h1.bN) (Boxed.other h1.bE (by omega) _) (Boxed.other h1.bX (by omega) _)
  have h3 := h2.keep (k := n + 4) (u := .int .i64 0) (by omega) (by omega) (Boxed.other h2.bL (by omega) _) (Boxed.other h2.bN (by omega) _) (Boxed.set _ h2.bE) (Boxed.other h2.bX (by omega) _)
  exact h3.turn (Turn.of_ext (B := w.heap.size) ((Ext.refl _).drew)) (Nat.le_refl _)
theorem RI.frs (h : RI n w first pre W lv nv) : FrsV W lv pre := Own.frs h.ownL (fun x hx => (h.words x hx).1)
theorem RI.ints (h : RI n w first pre W lv nv) : IntsV W .i64 nv (nums first (ds pre)) := Own.ints h.ownN
end
def bOf (listed : Array Bool) : Nat → Bool := fun j => listed.getD j false
set_option maxRecDepth 100000 in
set_option maxHeartbeats 2000000 in
/-- frame.read -/
theorem read_any (v b : Value) (f : Fmt) (l : List Nat) (first : Int) (w : World) (hv : FmtV w v f) (hb : BytesV w b l) (hs4 : f.sync.size ≤ 1000) (hw0 : 0 ≤ f.words) (hw : f.words ≤ 1000) (hl : l.length ≤ 100000) (h0 : 0 ≤ first) (h1 : first ≤ 1000000) :
    Calls Try.prog 67 #[v, .agg #[b, .int .i64 first]] w fun e w' => ∃ lv nv xs, e = .returned (.tuple #[lv, nv, .int .i64 (readErr first (framesOf f l))]) ∧
      (readErr first (framesOf f l) = 0 → xs.map (·.1) = framesOf f l ∧ FrsV w' lv xs ∧ IntsV w' .i64 nv (nums first (framesOf f l))) ∧
      (readErr first (framesOf f l) ≠ 0 → lv = .slice none 0 0 ∧ nv = .slice none 0 0) ∧ Ext w w' := by
  obtain ⟨iF, hiF, hzF0, hzF1, hzF2⟩ := info_parts frame_info
  obtain ⟨iI, hiI, hzI0, hzI1, hzI2⟩ := info_parts int_info
  have HV := hide hv
  obtain ⟨hs, _, A, cap, rfl, hcap, hmax, hrow⟩ := hv
  obtain ⟨hbl, A', cap', rfl, hcap', hmax', hrow'⟩ := hb
  have HAD : Hid (∃ d off, d ≤ w.heap.size ∧ (0 < l.length → A' = some ⟨d, off, none⟩) ∧ Bytes w d off l) := by
    by_cases hl : 0 < l.length
    · obtain ⟨b, off, e, hb, hc⟩ := hrow' hl
      exact ⟨b, off, Nat.le_of_lt hb, fun _ => e, hc⟩
    · exact ⟨w.heap.size, 0, Nat.le_refl _, fun h => absurd h hl, fun j hj => absurd hj (by omega)⟩
  have HBL := hide hbl
  clear hrow hrow' hmax hbl
  obtain ⟨d, off, hd, hA, hby⟩ := HAD.out
  refine callsIn_wide.1 (callsIn_of_wp_marks (n := 0) Try.func67 rfl trivial ?_ rfl)
  simp only [Try.ntmps67, List.size_toArray, List.length_cons, List.length_nil, Nat.reduceAdd, Nat.reduceSub, Array.replicate_succ, Array.replicate_zero, List.push_toArray, List.append_toArray, List.nil_append, List.cons_append]
  refine wpIn_wide.2 ?_
  have HA := hide hA
  have HBY := hide hby
  clear hA hby
  go_wp2_with fail
  obtain ⟨W5, hW5⟩ : ∃ W5, ((((((w.alloc (.cells #[.string f.sync, .int .i64 f.words, .int .i64 f.depth, .slice A f.channels.length cap] 28)).alloc (.cells #[.slice A' l.length cap', .int .i64 first] 38)).alloc (.cells #[.slice none 0 0] 46)).alloc (.cells #[.slice none 0 0] 29)).alloc (.cells #[.int .i64 0] 30)).alloc (.cells #[.int .i64 first] 3)) = W5 := ⟨_, rfl⟩
  have hx5 : Ext w W5 := by rw [← hW5]; exact (((((((Ext.refl w).alloc _).alloc _).alloc _).alloc _).alloc _).alloc _)
  have hs5 : W5.heap.size = w.heap.size + 6 := by rw [← hW5]; simp only [World.size_alloc]
  have hbL : Boxed W5 (w.heap.size + 2) 46 (.slice none 0 0) := by
    rw [← hW5]
    have := (((Boxed.new ((w.alloc (.cells #[.string f.sync, .int .i64 f.words, .int .i64 f.depth, .slice A f.channels.length cap] 28)).alloc (.cells #[.slice A' l.length cap', .int .i64 first] 38)) 46 (.slice none 0 0)).alloc (.cells #[.slice none 0 0] 29)).alloc (.cells #[.int .i64 0] 30)).alloc (.cells #[.int .i64 first] 3)
    simp only [World.size_alloc] at this
    exact this
  have hbN : Boxed W5 (w.heap.size + 3) 29 (.slice none 0 0) := by
    rw [← hW5]
    have := ((Boxed.new (((w.alloc (.cells #[.string f.sync, .int .i64 f.words, .int .i64 f.depth, .slice A f.channels.length cap] 28)).alloc (.cells #[.slice A' l.length cap', .int .i64 first] 38)).alloc (.cells #[.slice none 0 0] 46)) 29 (.slice none 0 0)).alloc (.cells #[.int .i64 0] 30)).alloc (.cells #[.int .i64 first] 3)
    simp only [World.size_alloc] at this
    exact this
  have hbE : Boxed W5 (w.heap.size + 4) 30 (.int .i64 0) := by
    rw [← hW5]
    have := (Boxed.new ((((w.alloc (.cells #[.string f.sync, .int .i64 f.words, .int .i64 f.depth, .slice A f.channels.length cap] 28)).alloc (.cells #[.slice A' l.length cap', .int .i64 first] 38)).alloc (.cells #[.slice none 0 0] 46)).alloc (.cells #[.slice none 0 0] 29)) 30 (.int .i64 0)).alloc (.cells #[.int .i64 first] 3)
    simp only [World.size_alloc] at this
    exact this
  have hbX : Boxed W5 (w.heap.size + 5) 3 (.int .i64 first) := by
    rw [← hW5]
    have := Boxed.new (((((w.alloc (.cells #[.string f.sync, .int .i64 f.words, .int .i64 f.depth, .slice A f.channels.length cap] 28)).alloc (.cells #[.slice A' l.length cap', .int .i64 first] 38)).alloc (.cells #[.slice none 0 0] 46)).alloc (.cells #[.slice none 0 0] 29)).alloc (.cells #[.int .i64 0] 30)) 3 (.int .i64 first)
    simp only [World.size_alloc] at this
    exact this
  rw [hW5]
  clear hW5
  refine (frames_any _ f l A' d off cap' W5 (HV.out.ext hx5) HA.out (HBY.out.ext hx5) hs4 hw0 hw).mono ?_
  rintro e w6 ⟨rfl, hcaps, hx6, hs6⟩
  rw [hs5] at hcaps hs6
  rw [hs5]
  simp only [Nat.add_assoc, Nat.reduceAdd] at hcaps hs6 ⊢
  have hbL := Boxed.ext hbL hx6
  have hbN := Boxed.ext hbN hx6
  have hbE := Boxed.ext hbE hx6
  have hbX := Boxed.ext hbX hx6
  have hx := hx5.trans hx6
  have HCAPS := hide hcaps
  clear hcaps hx5 hx6 hs5
  go_wp2_with fail
  refine range_ok (gf := 103) (encs := FrX.encs) (Ok := FrX.Ok) (G := capsG (w.heap.size + 9) (w.heap.size + 8) (w.heap.size + 7) (w.heap.size + 6) d) rfl (enters_of Try.func103 (by kernel_rfl) rfl)
    (frames_seq f l (w.heap.size + 9) (w.heap.size + 8) (w.heap.size + 7) (w.heap.size + 6) d off cap' A' w6 hs4 hw0 hw HBL.out (by omega) hcap' hmax' HCAPS.out)
    (by intro k hk; rcases hk with rfl | rfl | rfl | rfl | rfl <;> omega) (fun _ => rfl)
    (fun pre W => ∃ lv nv, RI w.heap.size w first pre W lv nv) (RX w.heap.size w first)
    (fun s A B ⟨lv, nv, h⟩ k => ⟨lv, nv, h.turn k (by omega)⟩) (fun c s A B h k => h.turn k (by omega)) ?_ ?_ ?_ ?_
  · exact ⟨_, _, ⟨hbL, hbN, hbE, hbX, rfl, ⟨by show 0 ≤ first; omega, by show first ≤ 1000001; omega⟩, Own.nil _ _ _ _, Own.nil _ _ _ _, (fun k h => by simp [Value.ownBlock] at h), (fun x h => absurd h (by simp)), hx⟩⟩
  · intro y pre x W0 W hsz hsp hI hx0 hok
    obtain ⟨lv, nv, hI⟩ := hI
    have hpl : pre.length + 1 ≤ l.length := by
      obtain ⟨rest, hre⟩ := hsp
      have h1 := congrArg List.length hre
      have h2 := framesOf_len f l
      simp only [List.length_append, List.length_map, List.length_cons, List.length_nil] at h1
      omega
    clear hsp
    obtain ⟨⟨pos, cnt, wds⟩, xv⟩ := x
    obtain ⟨hok1, hok2, hok3⟩ := hok
    obtain ⟨A2, c2, he2, hc2, hm2, hrow2⟩ := hok1
    dsimp only at he2 hc2 hrow2 hok2 hok3
    subst he2
    have HI := hide (hI.turn (Turn.of_ext (B := w6.heap.size) hx0) (by omega))
    have HOK2 := hide hok2
    have HROW := hide hrow2
    have HX0 := hide hx0
    have HOL := hide hI.ownL
    have HON := hide hI.ownN
    clear hI hok2 hrow2 hx0
    simp only [FrX.encs]
    gi_wp2
    have hszW : w.heap.size + 10 ≤ W.heap.size := by have := HX0.out.size; omega
    refine ⟨(KeepsOthers.alloc _ _).from _, fun k hk => Below.heap_alloc W _ k (by rcases hk with rfl | rfl | rfl | rfl | rfl <;> omega), fun W2 hT => ?_⟩
    have hI2 := (HI.out.turn (Turn.of_ext (B := w6.heap.size) ((Ext.refl W).alloc (.cells #[.int .i64 pos, .int .i64 cnt, .slice A2 wds.length c2] 59))) (by omega)).turn hT (by omega)
    have hbx : W2.heap[W.heap.size]? = some (.cells #[.int .i64 pos, .int .i64 cnt, .slice A2 wds.length c2] 59) := hT.block _ _ (World.alloc_heap_new W _) (.inr rfl)
    have hrow2 := (HROW.out.ext ((Ext.refl W).alloc (.cells #[.int .i64 pos, .int .i64 cnt, .slice A2 wds.length c2] 59))).cext hT.c
    have hs2 : W.heap.size + 1 ≤ W2.heap.size := by have := hT.size; simpa using this
    have hfresh : ∀ k, (Value.slice A2 wds.length c2).ownBlock = some k → W0.heap.size ≤ k ∧ k < W2.heap.size := fun k hk => by have := HOK2.out k hk; omega
    have hs0 := HX0.out.size
    have HI2 := hide hI2
    have HBX := hide hbx
    have HR2 := hide hrow2
    have HFRESH := hide hfresh
    have hx0 := cell_heap hbx 0 _ rfl
    have hx1 := cell_heap hbx 1 _ rfl
    have hx2 := cell_heap hbx 2 _ rfl
    have c5 := Boxed.cell hI2.bX
    have f5 := Boxed.frozen hI2.bX
    have f2 := Boxed.frozen hI2.bL
    have f3 := Boxed.frozen hI2.bN
    have f4 := Boxed.frozen hI2.bE
    have k2 := Boxed.cell hI2.bL
    have k3 := Boxed.cell hI2.bN
    have k4 := Boxed.cell hI2.bE
    have hle := hI2.le
    have HOWNL := hide (show ∀ k, lv.ownBlock = some k → k < W0.heap.size from fun k hk => (HOL.out.block k hk).2)
    have HOWNN := hide (show ∀ k, nv.ownBlock = some k → k < W0.heap.size from fun k hk => (HON.out.block k hk).2)
    clear HI HOK2 HROW HX0 hT hI2 hbx hrow2 hfresh hbL hbN hbE hbX
    generalize hcur : after first (ds pre) = cur at *
    have hn1 : bits .and .i64 cur 255 = cur % 256 := i64_and_255 cur
    have hn2 : bits .and .i64 ((cnt : Int) - cur % 256) 255 = ((cnt : Int) - cur % 256) % 256 := i64_and_255 _
    have HCUR := hide hcur
    clear hcur
    obtain ⟨hle0, hle1⟩ := hle
    have hnx : nextOf cur cnt = cur + ((cnt : Int) - cur) % 256 := rfl
    have HNX := hide hnx
    clear hnx
    have HNUMS := hide (nums_snoc first pre ⟨pos, cnt, wds⟩ (.slice A2 wds.length c2))
    rw [HCUR.out] at HNUMS
    by_cases hfar : 1000000 < cur + ((cnt : Int) - cur) % 256
    · gi_wp2
      have hI2 := HI2.out
      refine ⟨((((KeepsOthers.setCell _ _ _).trans (KeepsOthers.setCell _ _ _)).trans (KeepsOthers.setCell _ _ _)).trans (KeepsOthers.setCell _ _ _)).from _, rfl, ?_, ?_, ?_, ?_, ?_⟩
      · exact ((Boxed.set _ (Boxed.other hI2.bL (by omega) _)).other (by omega) _).other (by omega) _
      · exact (Boxed.set _ ((Boxed.other hI2.bN (by omega) _).other (by omega) _)).other (by omega) _
      · exact Boxed.set _ (((Boxed.other hI2.bE (by omega) _).other (by omega) _).other (by omega) _)
      · rw [HNUMS.out, farB_snoc, HNX.out]; simp [hfar]
      · exact (((hI2.ext.setCell (p := ⟨w.heap.size + 5, 0, none⟩) (by show w.heap.size ≤ w.heap.size + 5; omega) _).setCell (p := ⟨w.heap.size + 2, 0, none⟩) (by show w.heap.size ≤ w.heap.size + 2; omega) _).setCell (p := ⟨w.heap.size + 3, 0, none⟩) (by show w.heap.size ≤ w.heap.size + 3; omega) _).setCell (p := ⟨w.heap.size + 4, 0, none⟩) (by show w.heap.size ≤ w.heap.size + 4; omega) _
    · have hI2 := HI2.out
      have hst : ∀ b : Nat → Bool, (∀ j, b j = false) → R7 w.heap.size W.heap.size (w.heap.size + 10) (capsG (w.heap.size + 9) (w.heap.size + 8) (w.heap.size + 7) (w.heap.size + 6) d) w W2 pre (⟨pos, cnt, wds⟩, .slice A2 wds.length c2) (nums first (ds pre)) (cur + ((cnt : Int) - cur) % 256) lv nv b undef undef undef undef undef undef undef undef (W2.setCell ⟨w.heap.size + 5, 0, none⟩ (.int .i64 (cur + ((cnt : Int) - cur) % 256))) := fun b hb =>
        R7.start hI2 hb (fun k hk => by rcases hk with rfl | rfl | rfl | rfl | rfl <;> omega) (Nat.le_refl _) (by omega) (by omega) HBX.out ⟨A2, c2, rfl, hc2, hm2, HR2.out⟩ (fun k hk => by
          have h1 := HFRESH.out k hk
          refine ⟨by omega, by omega, ?_, ?_⟩
          · intro e; have := HOWNL.out k e; omega
          · intro e; have := HOWNN.out k e; omega)
      have HST := hide hst
      clear hst hI2
      gi_wp2
      refine region_at ?_
      intro a0 ha0
      refine wpIn_region_inv (by kernel_rfl) (fun listed a W' => ∃ x26 x27 x28 x29 x30 x31 x32 x33, a = ⟨put8 a0.tmps x26 x27 x28 x29 x30 x31 x32 x33, []⟩ ∧ R7 w.heap.size W.heap.size (w.heap.size + 10) (capsG (w.heap.size + 9) (w.heap.size + 8) (w.heap.size + 7) (w.heap.size + 6) d) w W2 pre (⟨pos, cnt, wds⟩, .slice A2 wds.length c2) (nums first (ds pre)) (cur + ((cnt : Int) - cur) % 256) lv nv (bOf listed) x26 x27 x28 x29 x30 x31 x32 x33 W') ?_ ?_ ?_
      · refine ⟨undef, undef, undef, undef, undef, undef, undef, undef, by rw [ha0]; simp only [put8, List.setIfInBounds_toArray, List.set_cons_succ, List.set_cons_zero], ?_⟩
        exact (HST.out _ (fun j => getD_rep _ j)).grow ((Ext.refl _).drew) (fun k hk => by rcases hk with rfl | rfl | rfl | rfl | rfl <;> omega)
      · intro listed a W' i hcl hInv hi
        obtain ⟨x26, x27, x28, x29, x30, x31, x32, x33, rfl, h7⟩ := hInv
        subst ha0
        have HIv := hide h7
        obtain ⟨hun, o, ho, hdep⟩ := mem_ready.1 hi
        have hup : ∀ j, bOf (listed.setIfInBounds i true) j = if j = i then true else bOf listed j := getD_upd hun
        have hun' : bOf listed i = false := by
          unfold bOf
          simp only [Array.getD_eq_getD_getElem?] at hun ⊢
          cases hh : listed[i]? with
          | none => rfl
          | some v => rw [hh] at hun; exact hun
        have hlt : i < 10 := by have := (Array.getElem?_eq_some_iff.1 ho).1; simpa using this
        have hneed : ∀ o', some o' = some o → ∀ e ∈ o'.after, Region.binds .any e = true → bOf listed e.on = true := fun o' h' e he hb => by
          injection h' with h'
          subst h'
          exact hdep e he hb
        have hF : ∀ {j : Nat}, (bOf listed j = true → bOf listed i = true) → bOf listed j = false := fun {j} h => by
          cases hh : bOf listed j with
          | false => rfl
          | true => have := h hh; rw [hun'] at this; exact this.symm
        have c80 : bOf listed 8 = true → bOf listed 0 = true := fun h => hcl 8 _ rfl h _ (Array.mem_of_getElem? (i := 2) rfl) rfl
        have c32 : bOf listed 3 = true → bOf listed 2 = true := fun h => hcl 3 _ rfl h _ (Array.mem_of_getElem? (i := 1) rfl) rfl
        have c21 : bOf listed 2 = true → bOf listed 1 = true := fun h => hcl 2 _ rfl h _ (Array.mem_of_getElem? (i := 0) rfl) rfl
        have c94 : bOf listed 9 = true → bOf listed 4 = true := fun h => hcl 9 _ rfl h _ (Array.mem_of_getElem? (i := 6) rfl) rfl
        have hGG : ∀ k, capsG (w.heap.size + 9) (w.heap.size + 8) (w.heap.size + 7) (w.heap.size + 6) d k → k < w.heap.size + 10 := fun k hk => by rcases hk with rfl | rfl | rfl | rfl | rfl <;> omega
        clear hi HST h7 hdep
        simp only [put8, List.setIfInBounds_toArray, List.set_cons_succ, List.set_cons_zero]
        rcases (show i = 0 ∨ i = 1 ∨ i = 2 ∨ i = 3 ∨ i = 4 ∨ i = 5 ∨ i = 6 ∨ i = 7 ∨ i = 8 ∨ i = 9 by omega) with rfl | rfl | rfl | rfl | rfl | rfl | rfl | rfl | rfl | rfl
        · have hb := hF c80
          clear ho hneed hF hcl c32 c21 c94 c80
          refine wpOpIn_of rfl rfl (by intro c h; cases h) (fun _ _ => trivial) ?_
          have k := Boxed.cell HIv.out.bL
          rw [hb] at k
          simp only [Bool.false_eq_true, if_false] at k
          go_simp
          exact ⟨lv, x27, x28, x29, x30, x31, x32, x33, ⟨rfl, rfl, rfl, rfl, rfl, rfl, rfl, rfl⟩, HIv.out.s0 hup⟩
        · have hb := hF (fun h => c21 (c32 h))
          clear ho hneed hF hcl c32 c21 c94 c80
          refine wpOpIn_of rfl rfl (by intro c h; cases h) (fun _ _ => trivial) ?_
          have k := HIv.out.box hb
          have k0 := cell_heap k 0 _ rfl
          have k1 := cell_heap k 1 _ rfl
          have k2 := cell_heap k 2 _ rfl
          have HK := hide k
          clear k
          go_simp
          exact ⟨x26, _, x28, x29, x30, x31, x32, x33, ⟨rfl, rfl, rfl, rfl, rfl, rfl, rfl, rfl⟩, HIv.out.s1 hup⟩
        · have hb1 : bOf listed 1 = true := hneed _ ho _ (Array.mem_of_getElem? (i := 0) rfl) rfl
          have hv := HIv.out.v27 hb1
          subst hv
          clear ho hneed hF hcl c32 c21 c94 c80
          refine wpOpIn_of rfl rfl (by intro c h; cases h) (fun _ _ => trivial) ?_
          simp only [FrX.cells]
          go_simp
          exact ⟨x26, _, _, x29, x30, x31, x32, x33, ⟨rfl, rfl, rfl, rfl, rfl, rfl, rfl, rfl⟩, (HIv.out.grow ((Ext.refl _).alloc _) hGG).s2 (Own.lit W' W'.heap.size 59 3 1 _ (Nat.le_refl _) rfl (by simp [maxLen])).src hup⟩
        · have hb0 : bOf listed 0 = true := hneed _ ho _ (Array.mem_of_getElem? (i := 0) rfl) rfl
          have hb2 : bOf listed 2 = true := hneed _ ho _ (Array.mem_of_getElem? (i := 1) rfl) rfl
          have hv := HIv.out.v26 hb0
          subst hv
          obtain ⟨g, rfl, hsrc⟩ := HIv.out.v28 hb2 hun'
          clear ho hneed hF hcl c32 c21 c94 c80
          have hL := HIv.out.ownL
          rw [hun'] at hL
          simp only [Bool.false_eq_true, if_false] at hL
          refine wpOpIn_append rfl rfl (.tmp 26) (.tmp 28) 46 rfl (fun _ _ => trivial) (w.heap.size + 10) 59 iF _ 3 40 Try.underlying46 hiF hzF0 hzF1 hzF2 rfl _ pre.length (pre.flatMap FrX.cells) rfl hL (some ⟨g, 0, none⟩) 1 1 _ rfl hsrc (by simp [FrX.cells, Value.oneCell']) (by unfold maxLen; omega) (by omega) HIv.out.size ?_
          intro v' w' hown hg hv
          exact ⟨_, x27, _, v', x30, x31, x32, x33, (by change Act.put _ (some 29) _ = _; simp only [Act.put, List.setIfInBounds_toArray, List.set_cons_succ, List.set_cons_zero]), HIv.out.s3 hun' hown hg hv hGG (by omega) hup⟩
        · have hb := hF c94
          clear ho hneed hF hcl c32 c21 c94 c80
          refine wpOpIn_of rfl rfl (by intro c h; cases h) (fun _ _ => trivial) ?_
          have k := Boxed.cell HIv.out.bN
          rw [hb] at k
          simp only [Bool.false_eq_true, if_false] at k
          go_simp
          exact ⟨x26, x27, x28, x29, nv, x31, x32, x33, ⟨rfl, rfl, rfl, rfl, rfl, rfl, rfl, rfl⟩, HIv.out.s4 hup⟩
        · clear ho hneed hF hcl c32 c21 c94 c80
          refine wpOpIn_of rfl rfl (by intro c h; cases h) (fun _ _ => trivial) ?_
          have k := Boxed.cell HIv.out.bX
          go_simp
          exact ⟨x26, x27, x28, x29, x30, _, x32, x33, ⟨rfl, rfl, rfl, rfl, rfl, rfl, rfl, rfl⟩, HIv.out.s5 hup⟩
        · have hb5 : bOf listed 5 = true := hneed _ ho _ (Array.mem_of_getElem? (i := 0) rfl) rfl
          have hv := HIv.out.v31 hb5
          subst hv
          clear ho hneed hF hcl c32 c21 c94 c80
          refine wpOpIn_of rfl rfl (by intro c h; cases h) (fun _ _ => trivial) ?_
          go_simp
          exact ⟨x26, x27, x28, x29, x30, _, _, x33, ⟨rfl, rfl, rfl, rfl, rfl, rfl, rfl, rfl⟩, (HIv.out.grow ((Ext.refl _).alloc _) hGG).s6 (Own.lit W' W'.heap.size 3 1 1 _ (Nat.le_refl _) rfl (by simp [maxLen])).src (by simp) (fun e => by have := (HIv.out.ownL.block _ e).2; omega) hup⟩
        · have hb4 : bOf listed 4 = true := hneed _ ho _ (Array.mem_of_getElem? (i := 0) rfl) rfl
          have hb6 : bOf listed 6 = true := hneed _ ho _ (Array.mem_of_getElem? (i := 1) rfl) rfl
          have hb3 : bOf listed 3 = true := hneed _ ho _ (Array.mem_of_getElem? (i := 2) rfl) rfl
          have hv := HIv.out.v30 hb4
          subst hv
          obtain ⟨g, rfl, hsrc, _, _⟩ := HIv.out.v32 hb6 hun'
          clear ho hneed hF hcl c32 c21 c94 c80
          have hN := HIv.out.ownN
          rw [hun'] at hN
          simp only [Bool.false_eq_true, if_false] at hN
          refine wpOpIn_append rfl rfl (.tmp 30) (.tmp 32) 29 rfl (fun _ _ => trivial) (w.heap.size + 10) 3 iI _ 1 8 Try.underlying29 hiI hzI0 hzI1 hzI2 rfl _ pre.length _ rfl hN (some ⟨g, 0, none⟩) 1 1 _ rfl hsrc (by simp [Value.oneCell']) (by unfold maxLen; omega) (by omega) HIv.out.size ?_
          intro v' w' hown hg hv
          exact ⟨x26, x27, x28, x29, _, x31, _, v', (by change Act.put _ (some 33) _ = _; simp only [Act.put, List.setIfInBounds_toArray, List.set_cons_succ, List.set_cons_zero]), HIv.out.s7 hb3 hun' hown hg hv hGG (by omega) hup⟩
        · have hb7 : bOf listed 7 = true := hneed _ ho _ (Array.mem_of_getElem? (i := 1) rfl) rfl
          have hb9 : bOf listed 9 = false := hF (fun h => hcl 9 _ rfl h _ (Array.mem_of_getElem? (i := 1) rfl) rfl)
          clear ho hneed hF hcl c32 c21 c94 c80
          refine wpOpIn_of rfl rfl (by intro c h; cases h) (fun _ _ => trivial) ?_
          have hb3 := HIv.out.ord.1 hb7
          have hL := HIv.out.ownL
          rw [hb3] at hL
          simp only [if_true] at hL
          obtain ⟨aL, cL, rfl, _, _, _⟩ := hL.form
          clear hL
          have k := Boxed.cell HIv.out.bL
          have kf := Boxed.frozen HIv.out.bL
          go_simp
          exact ⟨x26, x27, x28, _, x30, x31, x32, x33, ⟨rfl, rfl, rfl, rfl, rfl, rfl, rfl, rfl⟩, HIv.out.s8 hb7 hb9 (fun k hk => ⟨hGG k hk, by rcases hk with rfl | rfl | rfl | rfl | rfl <;> omega⟩) (Nat.le_refl _) hup⟩
        · have hb8 : bOf listed 8 = true := hneed _ ho _ (Array.mem_of_getElem? (i := 1) rfl) rfl
          have hb7 : bOf listed 7 = true := hneed _ ho _ (Array.mem_of_getElem? (i := 0) rfl) rfl
          clear ho hneed hF hcl c32 c21 c94 c80
          refine wpOpIn_of rfl rfl (by intro c h; cases h) (fun _ _ => trivial) ?_
          have hN := HIv.out.ownN
          rw [hb7] at hN
          simp only [if_true] at hN
          obtain ⟨aN, cN, rfl, _, _, _⟩ := hN.form
          clear hN
          have k := Boxed.cell HIv.out.bN
          have kf := Boxed.frozen HIv.out.bN
          go_simp
          exact ⟨x26, x27, x28, x29, x30, x31, x32, _, ⟨rfl, rfl, rfl, rfl, rfl, rfl, rfl, rfl⟩, HIv.out.s9 hb7 hb8 (fun k hk => ⟨hGG k hk, by rcases hk with rfl | rfl | rfl | rfl | rfl <;> omega⟩) (Nat.le_refl _) hup⟩
      · intro listed a W' hls hr hInv
        obtain ⟨x26, x27, x28, x29, x30, x31, x32, x33, rfl, h7⟩ := hInv
        subst ha0
        have hall := all_listed (by kernel_rfl) hls hr
        have HIv := hide h7
        have c5' := Boxed.cell h7.bX
        have f5' := Boxed.frozen h7.bX
        clear h7 HST hr hls
        simp only [put8, List.setIfInBounds_toArray, List.set_cons_succ, List.set_cons_zero]
        gi_wp2
        have h7 := HIv.out
        refine ⟨?_, ?_, _, _, h7.finish (fun j hj => hall j (by simpa using hj)) (by rw [HCUR.out]; exact HNX.out) ?_ (by omega) hfar (Nat.le_refl _)⟩
        · rw [hs6]; exact h7.from2.trans ((KeepsOthers.setCell _ _ _).from _)
        · exact h7.keepG.trans (fun k hk => (grownBy_setCell' W' (w.heap.size + 5) _).block k (Nat.lt_of_lt_of_le (by rcases hk with rfl | rfl | rfl | rfl | rfl <;> omega) h7.size) (fun e => by injection e with e; rcases hk with rfl | rfl | rfl | rfl | rfl <;> omega))
        · exact HI2.out.far
  · intro D xs W hD hS hI hK
    obtain ⟨lv, nv, hI⟩ := hI
    have HI := hide hI
    obtain ⟨aL, cL, rfl, hc1, hm1, _⟩ := hI.ownL.form
    obtain ⟨aN, cN, rfl, hc2, hm2, _⟩ := hI.ownN.form
    have k2 := Boxed.cell hI.bL
    have k3 := Boxed.cell hI.bN
    have k4 := Boxed.cell hI.bE
    have f2 := Boxed.frozen hI.bL
    have f3 := Boxed.frozen hI.bN
    have f4 := Boxed.frozen hI.bE
    have HK := hide hK
    have HS := hide hS
    clear hI hK hS HCAPS hbL hbN hbE hbX
    go_wp2
    go_region
    go_wp2
    have hD0 : (((W.setCell ⟨w.heap.size + 2, 0, none⟩ (.slice aL xs.length cL)).setCell ⟨w.heap.size + 3, 0, none⟩ (.slice aN xs.length cN)).setCell ⟨w.heap.size + 4, 0, none⟩ (.int .i64 0)).drew.heap[D]? = some (.deferred (some [])) :=
      (((KeepsOthers.setCell _ _ _).trans (KeepsOthers.setCell _ _ _)).trans (KeepsOthers.setCell _ _ _)).same D _ HK.out rfl
    have hR := (HI.out.done (Nat.le_refl _)).turn (Turn.putObj (B := w6.heap.size) (.deferred none) hD0 hD rfl) (by omega)
    have e2 := Boxed.cell hR.bL
    have e3 := Boxed.cell hR.bN
    have e4 := Boxed.cell hR.bE
    have hds : ds xs = framesOf f l := HS.out
    have hz : readErr first (framesOf f l) = 0 := by unfold readErr; rw [← hds, hR.far]; rfl
    refine ⟨by simp, .inl ⟨_, _, rfl, run_takeDeferred hD0, ?_⟩⟩
    refine ⟨.tuple #[.slice aL xs.length cL, .slice aN xs.length cN, .int .i64 0], by simp [results, Try.results67, go_sem, e2, e3, e4], ?_⟩
    refine ⟨_, _, xs, by rw [hz], fun _ => ⟨hds, hR.frs, by rw [← hds]; exact hR.ints⟩, fun h => absurd hz h, hR.ext⟩
  · intro D c pre W hD hSp hIx hK
    obtain rfl := hIx.c
    have HI := hide hIx
    have HK := hide hK
    have HS := hide hSp
    clear hIx hK hSp HCAPS hbL hbN hbE hbX
    go_wp2
    have hR := HI.out.turn (Turn.putObj (B := w6.heap.size) (.deferred none) HK.out hD rfl) (by omega)
    have e2 := Boxed.cell hR.bL
    have e3 := Boxed.cell hR.bN
    have e4 := Boxed.cell hR.bE
    obtain ⟨rest, hrest⟩ := HS.out
    have hz : readErr first (framesOf f l) = 7 := by
      have hfar := hR.far
      unfold ds at hfar
      unfold readErr
      rw [← hrest, nums_append]
      unfold farB at hfar ⊢
      rw [List.any_append, hfar]; rfl
    refine ⟨by simp, .inl ⟨_, _, rfl, run_takeDeferred HK.out, ?_⟩⟩
    refine ⟨.tuple #[.slice none 0 0, .slice none 0 0, .int .i64 7], by simp [results, Try.results67, go_sem, e2, e3, e4], ?_⟩
    refine ⟨_, _, [], by rw [hz], (fun h => by rw [hz] at h; cases h), fun _ => ⟨rfl, rfl⟩, hR.ext⟩
end Go.Proofs.Ytjnnkcnnandeeaa
