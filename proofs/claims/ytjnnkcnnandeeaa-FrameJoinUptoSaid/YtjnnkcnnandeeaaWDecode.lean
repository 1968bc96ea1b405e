/- The walk of Decode. -/
import Derived.Test.YtjnnkcnnandeeaaDecGo
import Derived.Laws.EntriesVeiled
namespace Go.Proofs.Ytjnnkcnnandeeaa
open Go.RowKit Go.Shelf
attribute [local go_sem] Oper.semAt_some
theorem scan_le {f : Fmt} {l : List Nat} : ∀ k pos, ∀ x ∈ scan f l k pos, x.pos + sizeF f ≤ l.length
  | 0, _, x, h => by simp [scan] at h
  | k + 1, pos, x, h => by
    unfold scan at h
    split at h
    · split at h
      · rcases List.mem_cons.1 h with rfl | h
        · assumption
        · exact scan_le k _ x h
      · exact scan_le k _ x h
    · simp at h
theorem gapsMid_len {size : Nat} : ∀ (ds : List FrD) (a : Nat), (gapsMid size a ds).length ≤ ds.length
  | [], a => by simp [gapsMid]
  | x :: r, a => by
    have := gapsMid_len r (x.pos + size) (size := size)
    rw [gapsMid, List.length_append, List.length_cons]
    split
    · simp; omega
    · simp; omega
theorem ds_len (xs : List FrX) : (ds xs).length = xs.length := by unfold ds; rw [List.length_map]
theorem ds_snoc (xs : List FrX) (x : FrX) : ds (xs ++ [x]) = ds xs ++ [x.1] := by unfold ds; rw [List.map_append]; rfl
theorem wpListIn_append' {P : Program} {F : Fence} {n : Nat} {w : World} {ops : Array Oper} {rest : List Oper} {o : Oper} {a : Act} {Q : Exit → Act → World → Prop} (hgd : o.guard = none) (s x : Operand) (t : TypeId)
    (hop : o.op = .call { callee := .builtin .append, args := #[s, x], argTypes := #[t, t] })
    (base : Nat) (e : TypeId) (i : TypeInfo) (z : Value) (size bytes : Nat) (ht : P.underlying t = some (.slice e)) (hi : P.info? e = some i) (hz : i.zero = some z)
    (hsize : i.size = size) (hby : i.bytes = bytes) (hzs : z.cells.size = size)
    (v : Value) (m : Nat) (xs : List Value) (hs : a.eval s = v) (hown : Own w base e size v m xs)
    (A : Option Addr) (m' c : Nat) (news : List Value) (hx : a.eval x = .slice A m' c) (hsrc : Src w A m' size news) (h1 : ∀ u ∈ news, u.oneCell' = true)
    (h63 : m + m' ≤ maxLen) (hbytes : (m + m') * bytes ≤ 140737488355328) (hbase : base ≤ w.heap.size)
    (h : ∀ v' w', Own w' base e size v' (m + m') (xs ++ news) → w.grownBy w' v.ownBlock → (v'.ownBlock = v.ownBlock ∨ v'.ownBlock = some w.heap.size) → wpListIn F n P ops Q rest (a.put o.dst v') w') : wpListIn F n P ops Q (o :: rest) a w := by
  refine wpListIn_plain hgd fun K hK' => ?_
  obtain ⟨v', w', hr, h2, h3, h4⟩ := run_append_own' (P := P) w base t o.type e i z size bytes ht hi hz hsize hby hzs v m xs hown A m' c news hsrc h1 h63 hbytes hbase
  unfold Oper.wpIn
  refine ⟨?_, ?_⟩
  · simp [Oper.about, hop, resolve, Target.leads, Sem.run_pure]
  · rw [Oper.semAt_plain F _ _ (by rw [hop]; intro c hc'; cases hc')]
    simp only [execOp, hop, resolve, invoke, builtin, Sem.run_bind, Sem.run_pure, Result.andThen_ok, List.map_toArray, List.map_cons, List.map_nil, hs, hx, hr]
    exact hK' _ _ (h v' w' h2 h3 h4)
/-- Between two rounds of Decode. -/
def DR (f : Fmt) (fv : Array Value) (n m b6 : Nat) (w : World) (pre : List FrX) (W : World) : Prop :=
  ∃ lv gv, DI fv n m b6 w pre (gapsMid (sizeF f) 0 (ds pre)) (lastEnd (sizeF f) 0 (ds pre)) W lv gv
set_option maxRecDepth 100000 in
set_option maxHeartbeats 2000000 in
/-- frame.Decode -/
theorem decode_any (v b : Value) (f : Fmt) (l : List Nat) (w : World) (hv : FmtV w v f) (hb : BytesV w b l) : Calls Try.prog 31 #[v, b] w fun e w' => DecR f l w e w' := by
  have HV := hide hv
  have HB := hide hb
  obtain ⟨_, _, A, cap, rfl, _, _, _⟩ := hv
  obtain ⟨hlt, A', cap', rfl, hcap', hmax', hrow'⟩ := hb
  have hmx : cap' ≤ 9223372036854775807 := by simpa [maxLen] using hmax'
  have HAD : Hid (∃ d off, d ≤ w.heap.size ∧ (0 < l.length → A' = some ⟨d, off, none⟩) ∧ Bytes w d off l) := by
    by_cases hl : 0 < l.length
    · obtain ⟨b, off, e, hb, hc⟩ := hrow' hl
      exact ⟨b, off, Nat.le_of_lt hb, fun _ => e, hc⟩
    · exact ⟨w.heap.size, 0, Nat.le_refl _, fun h => absurd h hl, fun j hj => absurd hj (by omega)⟩
  have HLT := hide hlt
  have HX0 := hide ((((Ext.refl w).alloc (.cells #[.string f.sync, .int .i64 f.words, .int .i64 f.depth, .slice A f.channels.length cap] 28)).alloc (.cells #[.slice none 0 0] 46)).alloc (.cells #[.slice none 0 0] 47))
  have HVA := hide (check_any _ f _ (HV.out.ext HX0.out))
  have HM := hide hmax'
  have HBX : Hid (∀ W, Ext (((w.alloc (.cells #[.string f.sync, .int .i64 f.words, .int .i64 f.depth, .slice A f.channels.length cap] 28)).alloc (.cells #[.slice none 0 0] 46)).alloc (.cells #[.slice none 0 0] 47)) W →
      W.heap[w.heap.size]? = some (.cells #[.string f.sync, .int .i64 f.words, .int .i64 f.depth, .slice A f.channels.length cap] 28 (0, 0)) ∧ Boxed W (w.heap.size + 1) 46 (.slice none 0 0) ∧ Boxed W (w.heap.size + 2) 47 (.slice none 0 0)) := hide fun W hx => by
    refine ⟨?_, ?_, ?_⟩
    · exact heap_ext ((((Ext.refl _).alloc _).alloc _).trans hx) (World.alloc_heap_new w _)
    · have := Boxed.ext (Boxed.new (w.alloc (.cells #[.string f.sync, .int .i64 f.words, .int .i64 f.depth, .slice A f.channels.length cap] 28)) 46 (.slice none 0 0)) (((Ext.refl _).alloc _).trans hx)
      rwa [World.size_alloc] at this
    · have := Boxed.ext (Boxed.new ((w.alloc (.cells #[.string f.sync, .int .i64 f.words, .int .i64 f.depth, .slice A f.channels.length cap] 28)).alloc (.cells #[.slice none 0 0] 46)) 47 (.slice none 0 0)) hx
      simp only [World.size_alloc] at this
      exact this
  clear hrow' hmax' hlt
  by_cases hc : (chk f).2.2 = 0
  · have HCK := hide (chk_ok hc)
    have HC := hide hc
    rw [hc] at HVA
    clear hc
    by_cases hlen : 4000 < l.length
    · have HER := hide (decErr_long HC.out hlen)
      have hd : decide ((4000 : Int) < (l.length : Int)) = true := by simp; omega
      refine callsIn_wide.1 (callsIn_of_wp_marks (n := 0) Try.func31 rfl trivial ?_ rfl)
      simp only [Try.ntmps31, List.size_toArray, List.length_cons, List.length_nil, Nat.reduceAdd, Nat.reduceSub, Array.replicate_succ, Array.replicate_zero, List.push_toArray, List.append_toArray, List.nil_append, List.cons_append]
      refine wpIn_wide.2 ?_
      go_wp2_with fail
      refine Calls.mono HVA.out ?_
      rintro e w1 ⟨rfl, hx⟩
      obtain ⟨hB, hL, hG⟩ := HBX.out w1 hx
      have k1 := Boxed.cell hL
      have k2 := Boxed.cell hG
      have f1 := Boxed.frozen hL
      have f2 := Boxed.frozen hG
      have HL := hide hL
      have HG := hide hG
      have HX := hide (HX0.out.trans hx)
      clear hx hB hL hG
      go_wp2
      have e1 : ((w1.setCell ⟨w.heap.size + 1, 0, none⟩ (.slice none 0 0)).setCell ⟨w.heap.size + 1 + 1, 0, none⟩ (.slice none 0 0)).cell? ⟨w.heap.size + 1, 0, none⟩ = some (.slice none 0 0) := Boxed.cell (Boxed.other (Boxed.set _ HL.out) (by omega) _)
      have e2 : ((w1.setCell ⟨w.heap.size + 1, 0, none⟩ (.slice none 0 0)).setCell ⟨w.heap.size + 1 + 1, 0, none⟩ (.slice none 0 0)).cell? ⟨w.heap.size + 1 + 1, 0, none⟩ = some (.slice none 0 0) := Boxed.cell (Boxed.set _ (Boxed.other HG.out (by omega) _))
      refine ⟨.tuple #[.slice none 0 0, .slice none 0 0, .int .i64 3], by simp [results, Try.results31, go_sem, e1, e2], ?_⟩
      refine ⟨_, _, by rw [HER.out], (fun h => by rw [HER.out] at h; cases h), fun _ => ⟨rfl, rfl⟩, (HX.out.setCell (p := ⟨w.heap.size + 1, 0, none⟩) (by show w.heap.size ≤ w.heap.size + 1; omega) _).setCell (p := ⟨w.heap.size + 1 + 1, 0, none⟩) (by show w.heap.size ≤ w.heap.size + 1 + 1; omega) _⟩
    · have HER := hide (decErr_ok HC.out hlen)
      have hd : decide ((4000 : Int) < (l.length : Int)) = false := by simp; omega
      have hs4 : f.sync.size ≤ 4 := HCK.out.2.1
      have hw0 : 1 ≤ f.words := HCK.out.2.2.2.1
      have hw1 : f.words ≤ 32 := HCK.out.2.2.2.2.1
      refine callsIn_wide.1 (callsIn_of_wp_marks (n := 0) Try.func31 rfl trivial ?_ rfl)
      simp only [Try.ntmps31, List.size_toArray, List.length_cons, List.length_nil, Nat.reduceAdd, Nat.reduceSub, Array.replicate_succ, Array.replicate_zero, List.push_toArray, List.append_toArray, List.nil_append, List.cons_append]
      refine wpIn_wide.2 ?_
      go_wp2_with fail
      refine Calls.mono HVA.out ?_
      rintro e w1 ⟨rfl, hx⟩
      obtain ⟨hB, hL, hG⟩ := HBX.out w1 hx
      have HX := hide (HX0.out.trans hx)
      have hsz1 := hx.size
      simp only [World.size_alloc] at hsz1
      have HL := hide hL
      have HG := hide hG
      have HBB := hide hB
      have hww : w.heap.size < w1.heap.size := by omega
      have hww2 : w.heap.size < w1.heap.size + 1 := by omega
      have hwn : ¬ w.heap.size = w1.heap.size := by omega
      have hwn2 : ¬ w.heap.size = w1.heap.size + 1 := by omega
      have b0 := cell_heap hB 0 _ rfl
      have b1 := cell_heap hB 1 _ rfl
      have b2 := cell_heap hB 2 _ rfl
      have b3 := cell_heap hB 3 _ rfl
      clear hx hB hL hG
      go_wp2_with fail
      obtain ⟨iF, hiF, hzF0, hzF1, hzF2⟩ := info_parts frame_info
      obtain ⟨W5, hW5⟩ : ∃ W5, (w1.alloc (.cells #[.int .i64 0] 3)).alloc (.cells #[.func (.func 71) #[] #[.pointer (some ⟨w1.heap.size, 0, none⟩), .pointer (some ⟨w.heap.size + 1 + 1, 0, none⟩)]] 135) = W5 := ⟨_, rfl⟩
      have hx5 : Ext w1 W5 := by rw [← hW5]; exact ((Ext.refl w1).alloc _).alloc _
      have hs5 : W5.heap.size = w1.heap.size + 2 := by rw [← hW5]; simp only [World.size_alloc]
      have hbX : Boxed W5 w1.heap.size 3 (.int .i64 0) := by
        rw [← hW5]; exact (Boxed.new w1 3 (.int .i64 0)).alloc _
      have hbF : Boxed W5 (w1.heap.size + 1) 135 (.func (.func 71) #[] #[.pointer (some ⟨w1.heap.size, 0, none⟩), .pointer (some ⟨w.heap.size + 2, 0, none⟩)]) := by
        rw [← hW5]
        have := Boxed.new (w1.alloc (.cells #[.int .i64 0] 3)) 135 (.func (.func 71) #[] #[.pointer (some ⟨w1.heap.size, 0, none⟩), .pointer (some ⟨w.heap.size + 2, 0, none⟩)])
        rwa [World.size_alloc] at this
      rw [hW5]
      clear hW5
      obtain ⟨d, off, hd0, hA, hby⟩ := HAD.out
      refine (frames_any _ f l A' d off cap' W5 (HV.out.ext (HX.out.trans hx5)) hA (hby.ext (HX.out.trans hx5)) (by omega) (by omega) (by omega)).mono ?_
      rintro e w6 ⟨rfl, hcaps, hx6, hs6⟩
      rw [hs5] at hcaps hs6
      rw [hs5]
      simp only [Nat.add_assoc, Nat.reduceAdd] at hcaps hs6 ⊢
      have hD : DI #[.string f.sync, .int .i64 f.words, .int .i64 f.depth, .slice A f.channels.length cap] w.heap.size w1.heap.size w6.heap.size w [] [] 0 w6 (.slice none 0 0) (.slice none 0 0) :=
        ⟨heap_ext (hx5.trans hx6) HBB.out, Boxed.ext HL.out (hx5.trans hx6), Boxed.ext HG.out (hx5.trans hx6), Boxed.ext hbX hx6, Boxed.ext hbF hx6, Own.nil _ _ _ _, Own.nil _ _ _ _, (fun x h => absurd h (by simp)), (HX.out.trans hx5).trans hx6, ⟨Nat.le_refl _, by omega, by omega⟩, Nat.le_refl _⟩
      have HD := hide hD
      have HCAPS := hide hcaps
      have HHA := hide hA
      clear hcaps hx5 hx6 hs5 hbX hbF hD b0 b1 b2 b3 hby hA
      go_wp2_with fail
      generalize hm : w1.heap.size = m at *
      clear hm
      refine range_ok (gf := 103) (encs := FrX.encs) (Ok := FrX.Ok) (G := capsG (m + 5) (m + 4) (m + 3) (m + 2) d) rfl (enters_of Try.func103 (by kernel_rfl) rfl)
        (frames_seq f l (m + 5) (m + 4) (m + 3) (m + 2) d off cap' A' w6 (by omega) (by omega) (by omega) HLT.out (by omega) hcap' HM.out HCAPS.out)
        (by intro k hk; rcases hk with rfl | rfl | rfl | rfl | rfl <;> omega) (fun _ => rfl)
        (DR f #[.string f.sync, .int .i64 f.words, .int .i64 f.depth, .slice A f.channels.length cap] w.heap.size m w6.heap.size w) (fun _ _ _ => False)
        (fun s A B ⟨lv, gv, h⟩ k => ⟨lv, gv, h.turn k (by omega)⟩) (fun c s A B h k => h) ?_ ?_ ?_ ?_
      · exact ⟨_, _, HD.out⟩
      · intro y pre x W0 W hsz hsp hI hx0 hok
        obtain ⟨lv, gv, hI⟩ := hI
        have hpl : pre.length + 1 ≤ l.length := by
          obtain ⟨rest, hre⟩ := hsp
          have h1 := congrArg List.length hre
          have h2 := framesOf_len f l
          simp only [List.length_append, List.length_map, List.length_cons, List.length_nil] at h1
          omega
        have hpos : x.1.pos + sizeF f ≤ l.length := by
          obtain ⟨rest, hre⟩ := hsp
          exact scan_le _ _ x.1 (by rw [show scan f l (l.length + 1) 0 = framesOf f l from rfl, ← hre]; simp)
        have hgl : (gapsMid (sizeF f) 0 (ds pre)).length ≤ l.length := by
          have := gapsMid_len (ds pre) 0 (size := sizeF f)
          rw [ds_len] at this; omega
        have HDS := hide (ds_snoc pre x)
        have HGS := hide (gapsMid_snoc (size := sizeF f) x.1 (ds pre) 0)
        have HLE := hide (lastEnd_snoc (size := sizeF f) x.1 (ds pre) 0)
        have hszF : sizeF f = f.sync.size + 1 + 2 * f.words.toNat + 2 := rfl
        clear hsp
        obtain ⟨⟨pos, cnt, wds⟩, xv⟩ := x
        obtain ⟨hok1, hok2, hok3⟩ := hok
        obtain ⟨A2, c2, he2, hc2, hm2, hrow2⟩ := hok1
        dsimp only at he2 hc2 hrow2 hok2 hok3 hpos HDS HGS HLE
        subst he2
        have HI := hide (hI.grow hx0)
        have HOK2 := hide hok2
        have HROW := hide hrow2
        have HX1 := hide hx0
        have HLO := hide hI.lo
        have HOL := hide hI.ownL
        have HOG := hide hI.ownG
        clear hI hok2 hrow2 hx0 hok3
        generalize hgs : gapsMid (sizeF f) 0 (ds pre) = gs at *
        generalize hle : lastEnd (sizeF f) 0 (ds pre) = la at *
        have hGSZ := hgs
        have hLSZ := hle
        clear hgs hle hGSZ hLSZ
        simp only [FrX.encs]
        gi_wp2
        refine ⟨(KeepsOthers.alloc _ _).from _, fun k hk => Below.heap_alloc W _ k (by have := HX1.out.size; rcases hk with rfl | rfl | rfl | rfl | rfl <;> omega), fun W2 hT => ?_⟩
        have hI2 := (HI.out.grow ((Ext.refl W).alloc (.cells #[.int .i64 pos, .int .i64 cnt, .slice A2 wds.length c2] 59))).turn hT (by omega)
        have hbx : W2.heap[W.heap.size]? = some (.cells #[.int .i64 pos, .int .i64 cnt, .slice A2 wds.length c2] 59) := hT.block _ _ (World.alloc_heap_new W _) (.inr rfl)
        have hrow2 : IntsV W2 .i64 (.slice A2 wds.length c2) wds := ⟨A2, c2, rfl, hc2, hm2, (HROW.out.ext ((Ext.refl W).alloc (.cells #[.int .i64 pos, .int .i64 cnt, .slice A2 wds.length c2] 59))).cext hT.c⟩
        have hs2 : W.heap.size + 1 ≤ W2.heap.size := by have := hT.size; simpa using this
        have HI2 := hide hI2
        have HBX := hide hbx
        have HR2 := hide hrow2
        have x0 := cell_heap hbx 0 _ rfl
        have x1 := cell_heap hbx 1 _ rfl
        have x2 := cell_heap hbx 2 _ rfl
        have cL := Boxed.cell hI2.bL
        have fL := Boxed.frozen hI2.bL
        obtain ⟨AL, cpL, rfl, _, _, _⟩ := hI2.ownL.form
        obtain ⟨hlo0, hlo1, hlo2⟩ := HLO.out
        have hszX := HX1.out.size
        have HSRC := hide ((Own.lit W2 0 59 3 1 #[.int .i64 pos, .int .i64 cnt, .slice A2 wds.length c2] (Nat.zero_le _) rfl (by simp [maxLen])).src)
        have HOA := hide (hI2.ownL.alloc (.cells #[.int .i64 pos, .int .i64 cnt, .slice A2 wds.length c2] 59))
        have hxk : ∀ k, (Value.slice A2 wds.length c2).ownBlock = some k → w6.heap.size ≤ k ∧ k < (W2.alloc (.cells #[.int .i64 pos, .int .i64 cnt, .slice A2 wds.length c2] 59)).heap.size ∧ (Value.slice AL pre.length cpL).ownBlock ≠ some k ∧ gv.ownBlock ≠ some k := fun k hk => by
          have h1 := HOK2.out k hk
          refine ⟨by omega, by simp; omega, fun e => ?_, fun e => ?_⟩
          · have := (HOL.out.block k e).2; omega
          · have := (HOG.out.block k e).2; omega
        have HXK := hide hxk
        have hsz2 := hI2.size
        clear hI2 hbx hrow2 hT hxk
        gi_wp2_with first
          | (gi_at_builtin
             refine wpListIn_append' rfl (.tmp 27) (.tmp 29) 46 rfl w6.heap.size 59 iF _ 3 40 Try.underlying46 hiF hzF0 hzF1 hzF2 rfl _ pre.length _ rfl HOA.out _ 1 1 (FrX.cells (⟨pos, cnt, wds⟩, .slice A2 wds.length c2)) rfl HSRC.out (by simp [FrX.cells, Value.oneCell']) (by simp [maxLen]; omega) (by omega) (by simp; omega) ?_
             intro v3 w3 hown3 hg3 hv3
             have hI3 := (HI2.out.grow ((Ext.refl W2).alloc (.cells #[.int .i64 pos, .int .i64 cnt, .slice A2 wds.length c2] 59))).push (x := (⟨pos, cnt, wds⟩, .slice A2 wds.length c2)) (HR2.out.ext ((Ext.refl W2).alloc _)) HXK.out hown3 hg3 hv3
             have hsame : ∀ k, k < W2.heap.size → (Value.slice AL pre.length cpL).ownBlock ≠ some k → w3.heap[k]? = W2.heap[k]? := fun k hk hn => (hg3.block k (by simp; omega) (fun e => hn e.symm)).trans (((Ext.refl W2).alloc _).block k hk)
             have hnL : ∀ k, k < w6.heap.size → (Value.slice AL pre.length cpL).ownBlock ≠ some k := fun k hk e => by have := (HOL.out.block k e).1; omega
             have cL := Boxed.cell ((hsame _ (by omega) (hnL _ (by omega))).trans HI2.out.bL : Boxed w3 (w.heap.size + 1) 46 (.slice AL pre.length cpL))
             have fL := Boxed.frozen ((hsame _ (by omega) (hnL _ (by omega))).trans HI2.out.bL : Boxed w3 (w.heap.size + 1) 46 (.slice AL pre.length cpL))
             have cF := Boxed.cell ((hsame _ (by omega) (hnL _ (by omega))).trans HI2.out.bF : Boxed w3 (m + 1) 135 _)
             have hbx3 := (hsame W.heap.size (by omega) (fun e => by have := (HOL.out.block _ e).2; omega)).trans HBX.out
             have y0 := cell_heap hbx3 0 _ rfl
             have HBX3 := hide hbx3
             have HI3 := hide hI3
             have HG3 := hide hg3
             have HSAME := hide hsame
             obtain ⟨A3, cap3, rfl, _, _, _⟩ := hown3.form
             clear hown3 hg3 hv3 hI3 hsame hnL hbx3)
          | (gi_at_call 71; fail)
        refine ⟨trivial, rfl, (CallsIn.inRound y (callsIn_wide.2 (close_any HI3.out pos (by omega)))).mono ?_⟩
        rintro e w4 ⟨⟨vv, rfl⟩, hko, hkb, gv', hI4⟩
        have hW3 : ∀ k, k < W2.heap.size → k ≠ w.heap.size + 1 → (Value.slice AL pre.length cpL).ownBlock ≠ some k → k ≠ w.heap.size + 2 → gv.ownBlock ≠ some k → w4.heap[k]? = W2.heap[k]? := fun k hk hk1 hk2 hk3 hk4 => by
          have h1 := HG3.out.size
          rw [World.size_alloc] at h1
          have h2 := grownBy_setCell' w3 (w.heap.size + 1) (.slice A3 (pre.length + 1) cap3)
          rw [hkb k (by have := h2.size; omega) hk3 hk4, h2.block k (by omega) (fun e => hk1 (by injection e with e))]
          exact HSAME.out k hk hk2
        have hbx4 : w4.heap[W.heap.size]? = some (.cells #[.int .i64 pos, .int .i64 cnt, .slice A2 wds.length c2] 59) := by
          rw [hW3 W.heap.size (by omega) (by omega) (fun e => by have := (HOL.out.block _ e).2; omega) (by omega) (fun e => by have := (HOG.out.block _ e).2; omega)]
          exact HBX.out
        have z0 := cell_heap hbx4 0 _ rfl
        have bB0 := cell_heap hI4.bB 0 _ rfl
        have bB1 := cell_heap hI4.bB 1 _ rfl
        have cX := Boxed.cell hI4.bX
        have fX := Boxed.frozen hI4.bX
        have HI4 := hide hI4
        have HKO := hide hko
        have HW3 := hide hW3
        clear hko hkb hI4 hW3 hbx4
        gi_wp2
        have hval : (pos : Int) + (f.sync.size : Int) + 1 + 2 * f.words + 2 = ((pos + sizeF f : Nat) : Int) := by rw [hszF]; omega
        rw [hval]
        have hrow : ∀ (j : Nat) (o : Obj), (Value.slice AL pre.length cpL).ownBlock = some j → (W2.alloc (.cells #[.int .i64 pos, .int .i64 cnt, .slice A2 wds.length c2] 59)).heap[j]? = some o → o.isCells = true := fun j o hj ho => by
          rcases HOA.out.2 with ⟨hv, _⟩ | ⟨g, cap', cur, lo, hi, hv, _, hgg, _⟩
          · rw [hv] at hj; cases hj
          · rw [hv] at hj
            have hj : some g = some j := hj
            injection hj with hj
            subst hj
            rw [hgg] at ho
            injection ho with ho
            subst ho; rfl
        refine ⟨(((((KeepsOthers.alloc W2 _).trans (KeepsOthers.of_grownBy HG3.out hrow)).trans (KeepsOthers.setCell _ _ _)).trans HKO.out).trans (KeepsOthers.setCell _ _ _)).from _, fun k hk => ?_, .slice A3 (pre.length + 1) cap3, gv', ?_⟩
        · have hk1 : k < w6.heap.size := by rcases hk with rfl | rfl | rfl | rfl | rfl <;> omega
          have hk2 : k ≠ w.heap.size + 1 ∧ k ≠ w.heap.size + 2 ∧ k ≠ m := by rcases hk with rfl | rfl | rfl | rfl | rfl <;> omega
          have h4 := HW3.out k (by omega) hk2.1 (fun e => by have := (HOL.out.block k e).1; omega) hk2.2.1 (fun e => by have := (HOG.out.block k e).1; omega)
          rw [← h4]
          exact (grownBy_setCell' w4 m (.int .i64 ((pos + sizeF f : Nat) : Int))).block k (by have := HI4.out.size; omega) (fun e => hk2.2.2 (by injection e with e))
        · rw [HDS.out, HGS.out, HLE.out]
          exact HI4.out.last (pos + sizeF f)
      · intro D xs W hD2 hS hI hK
        obtain ⟨lv, gv, hI⟩ := hI
        have hds : ds xs = framesOf f l := hS
        have hgl : (gapsMid (sizeF f) 0 (ds xs)).length ≤ l.length := by
          have := gapsMid_len (ds xs) 0 (size := sizeF f)
          have h2 := framesOf_len f l
          rw [hds] at this ⊢; omega
        have hgo : gapTo (gapsMid (sizeF f) 0 (ds xs)) (lastEnd (sizeF f) 0 (ds xs)) l.length = gapsOf f l := by
          unfold gapTo gapsOf
          rw [gapsFrom_eq, hds]
        have HGO := hide hgo
        have HDS := hide hds
        generalize gapsMid (sizeF f) 0 (ds xs) = gs at *
        generalize lastEnd (sizeF f) 0 (ds xs) = la at *
        have cF := Boxed.cell hI.bF
        have HI := hide hI
        have HK := hide hK
        clear hI hK hS hds hgo HCAPS hww
        go_wp2_with fail
        refine (close_any HI.out l.length (by omega)).mono ?_
        rintro e w4 ⟨⟨vv, rfl⟩, hko, _, gv', hI4⟩
        rw [HGO.out] at hI4
        obtain ⟨hlo0, hlo1, hlo2⟩ := hI4.lo
        obtain ⟨AL, cL, rfl, _, _, _⟩ := hI4.ownL.form
        obtain ⟨AG, cG, rfl, _, _, _⟩ := hI4.ownG.form
        have HI4 := hide hI4
        have HK4 := hide (hko.same D _ HK.out rfl)
        have q1 := Boxed.cell hI4.bL
        have q2 := Boxed.cell hI4.bG
        have r1 := Boxed.frozen hI4.bL
        have r2 := Boxed.frozen hI4.bG
        clear hI4 hko cF
        go_wp2
        go_region
        go_wp2
        have hD0 : ((w4.setCell ⟨w.heap.size + 1, 0, none⟩ (.slice AL xs.length cL)).setCell ⟨w.heap.size + 2, 0, none⟩ (.slice AG (gapsOf f l).length cG)).drew.heap[D]? = some (.deferred (some [])) :=
          ((KeepsOthers.setCell _ _ _).trans (KeepsOthers.setCell _ _ _)).same D _ HK4.out rfl
        have hR := HI4.out.done.turn (Turn.putObj (B := w6.heap.size) (.deferred none) hD0 hD2 rfl) (by omega)
        have e2 := Boxed.cell hR.bL
        have e3 := Boxed.cell hR.bG
        refine ⟨by simp, .inl ⟨_, _, rfl, run_takeDeferred hD0, ?_⟩⟩
        refine ⟨.tuple #[.slice AL xs.length cL, .slice AG (gapsOf f l).length cG, .int .i64 0], by simp [results, Try.results31, go_sem, e2, e3], ?_⟩
        exact ⟨_, _, by rw [HER.out], fun _ => ⟨xs, HDS.out, Own.frs hR.ownL (fun x hx => (hR.words x hx).1), Own.gaps hR.ownG⟩, (fun h => absurd HER.out h), hR.ext⟩
      · intro D c pre W hD2 hSp hIx hK
        exact hIx.elim
  · have hcb : ((chk f).2.2 == 0) = false := by simpa using hc
    have hcn : ((chk f).2.2 != 0) = true := by simpa using hc
    have HER := hide (decErr_chk (n := l.length) hc)
    have HC := hide hc
    clear hc
    refine callsIn_wide.1 (callsIn_of_wp_marks (n := 0) Try.func31 rfl trivial ?_ rfl)
    simp only [Try.ntmps31, List.size_toArray, List.length_cons, List.length_nil, Nat.reduceAdd, Nat.reduceSub, Array.replicate_succ, Array.replicate_zero, List.push_toArray, List.append_toArray, List.nil_append, List.cons_append]
    refine wpIn_wide.2 ?_
    go_wp2_with fail
    refine Calls.mono HVA.out ?_
    rintro e w1 ⟨rfl, hx⟩
    obtain ⟨hB, hL, hG⟩ := HBX.out w1 hx
    have k1 := Boxed.cell hL
    have k2 := Boxed.cell hG
    have f1 := Boxed.frozen hL
    have f2 := Boxed.frozen hG
    have HL := hide hL
    have HG := hide hG
    have HX := hide (HX0.out.trans hx)
    clear hx hB hL hG
    go_wp2
    have e1 : ((w1.setCell ⟨w.heap.size + 1, 0, none⟩ (.slice none 0 0)).setCell ⟨w.heap.size + 1 + 1, 0, none⟩ (.slice none 0 0)).cell? ⟨w.heap.size + 1, 0, none⟩ = some (.slice none 0 0) := Boxed.cell (Boxed.other (Boxed.set _ HL.out) (by omega) _)
    have e2 : ((w1.setCell ⟨w.heap.size + 1, 0, none⟩ (.slice none 0 0)).setCell ⟨w.heap.size + 1 + 1, 0, none⟩ (.slice none 0 0)).cell? ⟨w.heap.size + 1 + 1, 0, none⟩ = some (.slice none 0 0) := Boxed.cell (Boxed.set _ (Boxed.other HG.out (by omega) _))
    refine ⟨.tuple #[.slice none 0 0, .slice none 0 0, .int .i64 (chk f).2.2], by simp [results, Try.results31, go_sem, e1, e2], ?_⟩
    refine ⟨_, _, by rw [HER.out], (fun h => absurd (by rw [← HER.out]; exact h) HC.out), fun _ => ⟨rfl, rfl⟩, (HX.out.setCell (p := ⟨w.heap.size + 1, 0, none⟩) (by show w.heap.size ≤ w.heap.size + 1; omega) _).setCell (p := ⟨w.heap.size + 1 + 1, 0, none⟩) (by show w.heap.size ≤ w.heap.size + 1 + 1; omega) _⟩
end Go.Proofs.Ytjnnkcnnandeeaa
