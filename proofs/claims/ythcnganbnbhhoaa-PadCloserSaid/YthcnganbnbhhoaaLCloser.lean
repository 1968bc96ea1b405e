/-
 Proves that a squib that clears less, and a zone that reaches further, change what is near as they should, for any pad, state and draw: 'PadCloserSaid'. No conditions.
-/
import Derived.Test.YthcnganbnbhhoaaRows
import Derived.Test.YthcnganbnbhhoaaCloser
import Derived.Test.YthcnganbnbhhoaaCs
import Derived.Test.YthcnganbnbhhoaaNear4
import Derived.Test.YthcnganbnbhhoaaAwake
import Derived.Test.YthcnganbnbhhoaaOpenP
import Derived.SizedLaws
import Derived.Deep.MidRow
import Derived.Deep.DeepCutAuto
namespace Go.Proofs.Ythcnganbnbhhoaa
open Go.Joins Go.Deep Go.ChangeShapes Go.WideShapes Go.ChangeAt Go.RowKit Go.Shelf
section
open Go.Joins
variable {H : Type} {enc : TypeId × Value → H} {W : World}
theorem trod_u {n : Nat} {c : Value} {y : DataW H × List MemPlace} (h : DataW.trod enc Try.prog W 0 (fun _ => true) true n 50 [c] = some y) : ∃ a, c = .int .u32 a ∧ 0 ≤ a ∧ a ≤ 4294967295 := by
 obtain ⟨a, e, _, hw⟩ := DataW.trod_int Try.underlying50 h
 injection e with e
 refine ⟨a, e, ?_⟩
 unfold Lit.wf at hw
 rw [Bool.and_eq_true, decide_eq_true_iff, decide_eq_true_iff] at hw
 exact hw
set_option maxRecDepth 100000 in
theorem open_three {w0 : Nat} {v : Value} {d : DataW H} {q : List MemPlace} (hval : Value.okWide Try.prog W .any w0 51 v) (h : DataW.Trod enc Try.prog W 0 (fun _ => true) true 51 v d q) : ∃ x y z, v = .agg #[.int .u32 x, .int .u32 y, .int .u32 z] ∧ (0 ≤ x ∧ x ≤ 4294967295) ∧ (0 ≤ y ∧ y ≤ 4294967295) ∧ (0 ≤ z ∧ z ≤ 4294967295) := by
 have hv := hval
 simp only [Value.okWide, Try.underlying51] at hv
 obtain ⟨cs, rfl, hsz, _⟩ := hv
 obtain ⟨fuel, hf⟩ := h
 obtain ⟨cs⟩ := cs
 have hl : cs.length = 3 := hsz.trans (by kernel_rfl)
 match cs, hl with
 | [c0, c1, c2], _ =>
  obtain ⟨xs, n, _, _, _, hlen, hg⟩ := DataW.trod_array Try.underlying51 hf
  match xs, hlen with
  | [y0, y1, y2], _ =>
   obtain ⟨v0, rfl, h0⟩ := trod_u (enc := enc) (W := W) (n := n) (c := c0) (y := y0) (hg 0 (by omega))
   obtain ⟨v1, rfl, h1⟩ := trod_u (enc := enc) (W := W) (n := n) (c := c1) (y := y1) (hg 1 (by omega))
   obtain ⟨v2, rfl, h2⟩ := trod_u (enc := enc) (W := W) (n := n) (c := c2) (y := y2) (hg 2 (by omega))
   exact ⟨v0, v1, v2, rfl, h0, h1, h2⟩
end
theorem Blk.threeL (w : World) (t t' t'' : TypeId) (cs ds es : Array Value) : Ext w (((w.alloc (.cells cs t)).alloc (.cells ds t')).alloc (.cells es t'')) ∧ Blk (((w.alloc (.cells cs t)).alloc (.cells ds t')).alloc (.cells es t'')) w.heap.size t cs ∧ Blk (((w.alloc (.cells cs t)).alloc (.cells ds t')).alloc (.cells es t'')) (w.heap.size + 1) t' ds ∧ Blk (((w.alloc (.cells cs t)).alloc (.cells ds t')).alloc (.cells es t'')) (w.heap.size + 1 + 1) t'' es := by
 refine ⟨(((Ext.refl _).alloc _).alloc _).alloc _, (Blk.new w t cs).ext (((Ext.refl _).alloc _).alloc _), ?_, ?_⟩
 ·have := (Blk.new (w.alloc (.cells cs t)) t' ds).ext ((Ext.refl _).alloc (.cells es t''))
  rwa [World.size_alloc] at this
 ·have := Blk.new ((w.alloc (.cells cs t)).alloc (.cells ds t')) t'' es
  rwa [World.size_alloc, World.size_alloc] at this
theorem rem_at {x : Int} {n : Nat} (hx : 0 ≤ x ∧ x ≤ 4294967295) (hn : 0 < n) : ∃ q : Nat, (RowKit.wrap64 x).tmod (n : Int) = q ∧ q < n := by
 rw [IntWalk.wrap64_in _ (by omega)]
 have h1 := Int.tmod_nonneg (n : Int) hx.1
 have h2 := Int.tmod_lt_of_pos x (show (0 : Int) < n by omega)
 exact ⟨(x.tmod n).toNat, by omega, by omega⟩
def CloseCut (W1 : World) (cs : Array Value) (v12 v13 : Value) (W : World) : Prop :=
 Ext W1 W ∧ ∃ b c, v12 = .pointer (some ⟨b, 0, none⟩) ∧ v13 = .pointer (some ⟨c, 0, none⟩) ∧ b ≠ c ∧ W1.heap.size ≤ b ∧ W1.heap.size ≤ c ∧ Blk W b 28 cs ∧ Blk W c 28 cs
theorem Blk.otherE {W W' : World} {g b i : Nat} {t : TypeId} {cs : Array Value} {u : Value} (hw : W.setCell ⟨b, i, none⟩ u = W') (h : Blk W g t cs) (hne : g ≠ b) : Blk W' g t cs := hw ▸ h.other hne i u
theorem blk_there {W : World} {b : Nat} {t : TypeId} {cs : Array Value} (h : Blk W b t cs) : W.there b 0 cs.size := fun j hj => by
 rw [Nat.zero_add]
 exact ⟨by rw [cell_heap h j cs[j] (Array.getElem?_eq_getElem hj)]; rfl, h.frozen j⟩
theorem ext_cells {A W : World} {b : Nat} (h : Ext A W) (hb : A.heap.size ≤ b) (vs : List Value) (o : Nat) : Ext A (W.setCells b o vs) := by
 induction vs generalizing W o with
 | nil => exact h
 | cons v vs ih => exact ih (h.setCell hb v) (o + 1)
theorem blk_cells {W : World} {g b : Nat} {t : TypeId} {cs : Array Value} (h : Blk W g t cs) (hne : g ≠ b) (vs : List Value) (o : Nat) : Blk (W.setCells b o vs) g t cs := by
 induction vs generalizing W o with
 | nil => exact h
 | cons v vs ih => exact ih (h.other hne o v) (o + 1)
theorem blk_sets7 {A : World} {b : Nat} {t : TypeId} {v0 v1 v2 v3 v4 v5 v6 : Value} (h : Blk A b t #[v0, v1, v2, v3, v4, v5, v6]) (u0 u1 u2 u3 u4 u5 u6 : Value) : Blk (A.setCells b 0 [u0, u1, u2, u3, u4, u5, u6]) b t #[u0, u1, u2, u3, u4, u5, u6] := by
 have h0 : Blk _ b t #[u0, v1, v2, v3, v4, v5, v6] := h.set 0 u0
 have h1 : Blk _ b t #[u0, u1, v2, v3, v4, v5, v6] := h0.set 1 u1
 have h2 : Blk _ b t #[u0, u1, u2, v3, v4, v5, v6] := h1.set 2 u2
 have h3 : Blk _ b t #[u0, u1, u2, u3, v4, v5, v6] := h2.set 3 u3
 have h4 : Blk _ b t #[u0, u1, u2, u3, u4, v5, v6] := h3.set 4 u4
 have h5 : Blk _ b t #[u0, u1, u2, u3, u4, u5, v6] := h4.set 5 u5
 have h6 : Blk _ b t #[u0, u1, u2, u3, u4, u5, u6] := h5.set 6 u6
 exact h6
theorem infoPad : (Try.prog.info? 28).map (·.size) = some 7 := by kernel_rfl
structure PairZ (w2 : World) (cs : Array Value) (L : Nat → Bool) (x : Nat → Value) (W : World) : Prop where
 ext : Ext w2 W
 v0 : L 0 = true → x 54 = .agg cs
 v1 : L 1 = true → x 55 = .agg cs
 b : L 2 = true → ∃ b, x 12 = .pointer (some ⟨b, 0, none⟩) ∧ Blk W b 28 (if L 4 = true then cs else #[.slice none 0 0, .slice none 0 0, .slice none 0 0, .slice none 0 0, .slice none 0 0, .int .i64 0, .int .i64 0]) ∧ w2.heap.size ≤ b
 c : L 3 = true → ∃ b, x 13 = .pointer (some ⟨b, 0, none⟩) ∧ Blk W b 28 (if L 5 = true then cs else #[.slice none 0 0, .slice none 0 0, .slice none 0 0, .slice none 0 0, .slice none 0 0, .int .i64 0, .int .i64 0]) ∧ w2.heap.size ≤ b
 ne : L 2 = true → L 3 = true → x 12 ≠ x 13
 o4 : L 4 = true → L 2 = true
 o5 : L 5 = true → L 3 = true
section
variable {w2 W : World} {cs : Array Value} {L : Nat → Bool} {x : Nat → Value}
theorem pairZ_new (x : Nat → Value) (h : Ext w2 W) : PairZ w2 cs (fun _ => false) x W.drew := by
 refine ⟨h.drew, ?_, ?_, ?_, ?_, ?_, ?_, ?_⟩ <;> exact fun h => by cases h
theorem PairZ.s0 (h : PairZ w2 cs L x W) : PairZ w2 cs (fun k => if k = 0 then true else L k) (slotD x (some 54) (.agg cs)) W :=
 ⟨h.ext, fun _ => rfl, h.v1, h.b, h.c, h.ne, h.o4, h.o5⟩
theorem PairZ.s1 (h : PairZ w2 cs L x W) : PairZ w2 cs (fun k => if k = 1 then true else L k) (slotD x (some 55) (.agg cs)) W :=
 ⟨h.ext, h.v0, fun _ => rfl, h.b, h.c, h.ne, h.o4, h.o5⟩
theorem PairZ.s2 (h : PairZ w2 cs L x W) (hl : L 2 = false) : PairZ w2 cs (fun k => if k = 2 then true else L k) (slotD x (some 12) (.pointer (some ⟨W.heap.size, 0, none⟩))) (W.alloc (.cells #[.slice none 0 0, .slice none 0 0, .slice none 0 0, .slice none 0 0, .slice none 0 0, .int .i64 0, .int .i64 0] 28)) := by
 have l4 : L 4 = false := by
  cases h4 : L 4 with
  | false => rfl
  | true => rw [h.o4 h4] at hl; cases hl
 refine ⟨h.ext.alloc _, h.v0, h.v1, fun _ => ⟨_, rfl, ?_, h.ext.size⟩, fun k => ?_, fun _ k e => ?_, (fun k => by have k : L 4 = true := k; rw [l4] at k; cases k), h.o5⟩
 ·rw [if_neg (by show ¬ L 4 = true; rw [l4]; decide)]; exact Blk.new _ _ _
 ·obtain ⟨b, h1, h2, h3⟩ := h.c k; exact ⟨b, h1, h2.ext ((Ext.refl _).alloc _), h3⟩
 ·obtain ⟨b, h1, h2, h3⟩ := h.c k
  have e' : Value.pointer (some ⟨W.heap.size, 0, none⟩) = x 13 := e
  rw [h1] at e'
  simp only [Value.pointer.injEq, Option.some.injEq, Addr.mk.injEq] at e'
  have := h2.lt
  omega
theorem PairZ.s3 (h : PairZ w2 cs L x W) (hl : L 3 = false) : PairZ w2 cs (fun k => if k = 3 then true else L k) (slotD x (some 13) (.pointer (some ⟨W.heap.size, 0, none⟩))) (W.alloc (.cells #[.slice none 0 0, .slice none 0 0, .slice none 0 0, .slice none 0 0, .slice none 0 0, .int .i64 0, .int .i64 0] 28)) := by
 have l5 : L 5 = false := by
  cases h5 : L 5 with
  | false => rfl
  | true => rw [h.o5 h5] at hl; cases hl
 refine ⟨h.ext.alloc _, h.v0, h.v1, fun k => ?_, fun _ => ⟨_, rfl, ?_, h.ext.size⟩, fun k _ e => ?_, h.o4, (fun k => by have k : L 5 = true := k; rw [l5] at k; cases k)⟩
 ·obtain ⟨b, h1, h2, h3⟩ := h.b k; exact ⟨b, h1, h2.ext ((Ext.refl _).alloc _), h3⟩
 ·rw [if_neg (by show ¬ L 5 = true; rw [l5]; decide)]; exact Blk.new _ _ _
 ·obtain ⟨b, h1, h2, h3⟩ := h.b k
  have e' : x 12 = Value.pointer (some ⟨W.heap.size, 0, none⟩) := e
  rw [h1] at e'
  simp only [Value.pointer.injEq, Option.some.injEq, Addr.mk.injEq] at e'
  have := h2.lt
  omega
theorem PairZ.s4 {v0 v1 v2 v3 v4 v5 v6 : Value} (h : PairZ w2 #[v0, v1, v2, v3, v4, v5, v6] L x W) (hl : L 2 = true) (hf : L 4 = false) {b : Nat} (hb : x 12 = .pointer (some ⟨b, 0, none⟩)) : PairZ w2 #[v0, v1, v2, v3, v4, v5, v6] (fun k => if k = 4 then true else L k) (slotD x none undef) (W.setCells b 0 [v0, v1, v2, v3, v4, v5, v6]) := by
 obtain ⟨b', h1, h2, h3⟩ := h.b hl
 rw [hb] at h1
 simp only [Value.pointer.injEq, Option.some.injEq, Addr.mk.injEq, and_true] at h1
 subst h1
 rw [if_neg (by rw [hf]; decide)] at h2
 refine ⟨ext_cells h.ext h3 _ _, h.v0, h.v1, fun _ => ⟨b, hb, ?_, h3⟩, fun k => ?_, h.ne, fun _ => hl, h.o5⟩
 ·rw [if_pos rfl]; exact blk_sets7 h2 _ _ _ _ _ _ _
 ·obtain ⟨c, k1, k2, k3⟩ := h.c k
  refine ⟨c, k1, blk_cells k2 (fun e => h.ne hl k ?_) _ _, k3⟩
  rw [hb, k1, e]
theorem PairZ.s5 {v0 v1 v2 v3 v4 v5 v6 : Value} (h : PairZ w2 #[v0, v1, v2, v3, v4, v5, v6] L x W) (hl : L 3 = true) (hf : L 5 = false) {b : Nat} (hb : x 13 = .pointer (some ⟨b, 0, none⟩)) : PairZ w2 #[v0, v1, v2, v3, v4, v5, v6] (fun k => if k = 5 then true else L k) (slotD x none undef) (W.setCells b 0 [v0, v1, v2, v3, v4, v5, v6]) := by
 obtain ⟨b', h1, h2, h3⟩ := h.c hl
 rw [hb] at h1
 simp only [Value.pointer.injEq, Option.some.injEq, Addr.mk.injEq, and_true] at h1
 subst h1
 rw [if_neg (by rw [hf]; decide)] at h2
 refine ⟨ext_cells h.ext h3 _ _, h.v0, h.v1, fun k => ?_, fun _ => ⟨b, hb, ?_, h3⟩, h.ne, h.o4, fun _ => hl⟩
 ·obtain ⟨c, k1, k2, k3⟩ := h.b k
  refine ⟨c, k1, blk_cells k2 (fun e => h.ne k hl ?_) _ _, k3⟩
  rw [hb, k1, e]
 ·rw [if_pos rfl]; exact blk_sets7 h2 _ _ _ _ _ _ _
end
namespace PadCloserLaw
set_option maxRecDepth 100000 in
set_option maxHeartbeats 4000000 in
theorem walk {v sv : Value} {p : Pad} {s : State} {w : World} (hv : PadV w v p) (hs : StateV w sv s) (hf : s.Fits) {x0 x1 x2 : Int} (hx0 : 0 ≤ x0 ∧ x0 ≤ 4294967295) (hx1 : 0 ≤ x1 ∧ x1 ≤ 4294967295) (hx2 : 0 ≤ x2 ∧ x2 ≤ 4294967295) :
 Calls Try.prog 6 #[v, sv, .agg #[.int .u32 x0, .int .u32 x1, .int .u32 x2]] w fun e w' => e = .returned (.bool true) ∧ Below w.heap.size w w' := by
 have HCK := hide (fun V (hx : Ext w V) => check_any v p V (hv.ext hx))
 have HCS := hide (fun V (hx : Ext w V) v' p' (h : PadV V v' p') => checkState_any v' sv p' s V h (hs.ext hx) hf)
 have HNR := hide (fun V (hx : Ext w V) hp z q hz => lawNear_any v p z q V (hv.ext hx) hp hz)
 have HN3 := hide (fun V (hx : Ext w V) z q => near3_any v p z q V (hv.ext hx))
 obtain ⟨X, rfl, hX⟩ := padV_iff.1 hv
 obtain ⟨az, cz, ad, cd, ap, cp, ak, ck, aq, cq⟩ := X
 obtain ⟨A1, c1, A2, c2, A3, c3, rfl, _⟩ := stateV_rows.1 hs
 have HXX := hide hX
 have n1 := hX.z.rows.2.2.1
 have m1 := hX.z.rows.2.1
 have n2 := hX.q.rows.2.2.1
 have m2 := hX.q.rows.2.1
 unfold PadX.cells at HCK HNR HN3 ⊢
 dsimp only at HCK HNR HN3 ⊢
 have H0 := hide hx0
 have H1 := hide hx1
 have H2 := hide hx2
 clear hv hs hX hf hx0 hx1 hx2
 go_enter Try.func6, Try.ntmps6
 go_wp2_with fail
 have HBOX := hide (Blk.threeL w 28 38 51 #[.slice az p.zones.length cz, .slice ad p.doors.length cd, .slice ap p.people.length cp, .slice ak p.keys.length ck, .slice aq p.squibs.length cq, .int .i64 p.panel, .int .i64 p.wait] #[.int .i64 s.now, .slice A1 s.zones.length c1, .slice A2 s.holder.length c2, .slice A3 s.squibs.length c3, .int .i64 s.siren, .bool s.storm] #[.int .u32 x0, .int .u32 x1, .int .u32 x2])
 obtain ⟨W1, hW1⟩ : ∃ V, ((w.alloc (.cells #[.slice az p.zones.length cz, .slice ad p.doors.length cd, .slice ap p.people.length cp, .slice ak p.keys.length ck, .slice aq p.squibs.length cq, .int .i64 p.panel, .int .i64 p.wait] 28)).alloc (.cells #[.int .i64 s.now, .slice A1 s.zones.length c1, .slice A2 s.holder.length c2, .slice A3 s.squibs.length c3, .int .i64 s.siren, .bool s.storm] 38)).alloc (.cells #[.int .u32 x0, .int .u32 x1, .int .u32 x2] 51) = V := ⟨_, rfl⟩
 rw [hW1] at HBOX ⊢
 obtain ⟨HX, HP, HS, HA⟩ := HBOX.out
 clear HBOX hW1
 refine Calls.mono (HCK.out _ HX) ?_
 rintro e w2 ⟨rfl, hx⟩
 replace HX := hide (HX.trans hx)
 replace HP := hide (HP.ext hx)
 replace HS := hide (HS.ext hx)
 replace HA := hide (HA.ext hx)
 obtain ⟨E, hE⟩ : ∃ E, (padE p).2.2 = E := ⟨_, rfl⟩
 have HE := hide hE
 rw [hE]
 clear hx hE HCK
 obtain ⟨E0, hE0⟩ : ∃ E, (padE p).1 = E := ⟨_, rfl⟩
 obtain ⟨E1, hE1⟩ : ∃ E, (padE p).2.1 = E := ⟨_, rfl⟩
 rw [hE0, hE1]
 clear hE0 hE1
 have p0 := cell_heap HP.out 0 _ rfl
 have p1 := cell_heap HP.out 1 _ rfl
 have p2 := cell_heap HP.out 2 _ rfl
 have p3 := cell_heap HP.out 3 _ rfl
 have p4 := cell_heap HP.out 4 _ rfl
 have p5 := cell_heap HP.out 5 _ rfl
 have p6 := cell_heap HP.out 6 _ rfl
 have a0 := cell_heap HA.out 0 _ rfl
 have a1 := cell_heap HA.out 1 _ rfl
 have a2 := cell_heap HA.out 2 _ rfl
 by_cases e0 : E = 0
 ·subst e0
  by_cases q0 : p.squibs.length = 0
  ·have hq0 : (((p.squibs.length : Nat) : Int) == 0) = true := by simp [q0]
   clear q0
   go_wp2_with fail
   refine (awake_any _).mono ?_
   rintro e w9 ⟨rfl, hx9⟩
   have HX9 := hide (HX.out.trans hx9)
   clear hx9
   go_wp2_with fail
   go_ret
   exact ⟨rfl, HX9.out⟩
  ·have hq0 : (((p.squibs.length : Nat) : Int) == 0) = false := by rw [beq_eq_false_iff_ne]; omega
   by_cases z0 : p.zones.length = 0
   ·have hz0 : (((p.zones.length : Nat) : Int) == 0) = true := by simp [z0]
    clear z0 q0
    go_wp2_with fail
    refine (awake_any _).mono ?_
    rintro e w9 ⟨rfl, hx9⟩
    have HX9 := hide (HX.out.trans hx9)
    clear hx9
    go_wp2_with fail
    go_ret
    exact ⟨rfl, HX9.out⟩
   ·have hz0 : (((p.zones.length : Nat) : Int) == 0) = false := by rw [beq_eq_false_iff_ne]; omega
    have HQ0 := hide (show 0 < p.squibs.length by omega)
    have HZ0 := hide (show 0 < p.zones.length by omega)
    go_wp2_with fail
    go_quiet (fail)
    obtain ⟨q, hqe, hql⟩ := rem_at H0.out HQ0.out
    obtain ⟨z, hze, hzl⟩ := rem_at H1.out HZ0.out
    rw [hqe, hze]
    have HQL := hide hql
    have HZL := hide hzl
    clear hqe hze hql hzl hq0 hz0 q0 z0 n1 m1 n2 m2
    go_upto_region 5 with (fail)
    go_cut [12, 13] (CloseCut w2 #[.slice az p.zones.length cz, .slice ad p.doors.length cd, .slice ap p.people.length cp, .slice ak p.keys.length ck, .slice aq p.squibs.length cq, .int .i64 p.panel, .int .i64 p.wait])
    case first =>
     refine wp_region_glob (by kernel_rfl) [54, 55, 12, 13] (by kernel_rfl) (by kernel_rfl) [(3, .pointer (some ⟨w.heap.size, 0, none⟩))] rfl ⟨rfl, trivial⟩ (by kernel_rfl) (PairZ w2 #[.slice az p.zones.length cz, .slice ad p.doors.length cd, .slice ap p.people.length cp, .slice ak p.keys.length ck, .slice aq p.squibs.length cq, .int .i64 p.panel, .int .i64 p.wait]) (pairZ_new _ (by first | exact (Ext.refl _).drewN _ | exact (Ext.refl _).drew | exact Ext.refl _)) ?_ ?_
     ·intro j o L x W F ho hL he hZ hF hX K hK
      have t3 := hF.1
      rw [Array.getD_eq_getD_getElem?] at t3
      have q0 := hZ.ext.cell p0
      have q1 := hZ.ext.cell p1
      have q2 := hZ.ext.cell p2
      have q3 := hZ.ext.cell p3
      have q4 := hZ.ext.cell p4
      have q5 := hZ.ext.cell p5
      have q6 := hZ.ext.cell p6
      rcases j with _ | _ | _ | _ | _ | _ | j
      ·obtain rfl := Option.some.inj ho
       have HK := hide (fun W' => hK (.agg #[.slice az p.zones.length cz, .slice ad p.doors.length cd, .slice ap p.people.length cp, .slice ak p.keys.length ck, .slice aq p.squibs.length cq, .int .i64 p.panel, .int .i64 p.wait]) W')
       have HZ := hide hZ
       clear hK ho he hF hX hZ p0 p1 p2 p3 p4 p5 p6
       go_simp
       exact HK.out _ HZ.out.s0
      ·obtain rfl := Option.some.inj ho
       have HK := hide (fun W' => hK (.agg #[.slice az p.zones.length cz, .slice ad p.doors.length cd, .slice ap p.people.length cp, .slice ak p.keys.length ck, .slice aq p.squibs.length cq, .int .i64 p.panel, .int .i64 p.wait]) W')
       have HZ := hide hZ
       clear hK ho he hF hX hZ p0 p1 p2 p3 p4 p5 p6
       go_simp
       exact HK.out _ HZ.out.s1
      ·obtain rfl := Option.some.inj ho
       have HK := hide hK
       have HZ := hide hZ
       have HL := hide hL
       clear hK ho he hF hX hZ hL p0 p1 p2 p3 p4 p5 p6
       go_simp
       exact HK.out _ _ (HZ.out.s2 HL.out)
      ·obtain rfl := Option.some.inj ho
       have HK := hide hK
       have HZ := hide hZ
       have HL := hide hL
       clear hK ho he hF hX hZ hL p0 p1 p2 p3 p4 p5 p6
       go_simp
       exact HK.out _ _ (HZ.out.s3 HL.out)
      ·obtain rfl := Option.some.inj ho
       have l2 : L 2 = true := he ⟨2, .data⟩ (by simp) rfl
       have l0 : L 0 = true := he ⟨0, .data⟩ (by simp) rfl
       obtain ⟨b, hb, hB, hlb⟩ := hZ.b l2
       rw [if_neg (by rw [hL]; decide)] at hB
       refine wp_store_mid 28 (.tmp 12) (.tmp 54) rfl b 0 #[.slice az p.zones.length cz, .slice ad p.doors.length cd, .slice ap p.people.length cp, .slice ak p.keys.length ck, .slice aq p.squibs.length cq, .int .i64 p.panel, .int .i64 p.wait] ?_ ?_ (blk_there (cs := #[.slice none 0 0, .slice none 0 0, .slice none 0 0, .slice none 0 0, .slice none 0 0, .int .i64 0, .int .i64 0]) hB) infoPad (by simp [Value.oneCell']) (hK _ _ (hZ.s4 l2 hL hb))
       ·exact (hX 12 (by simp) (by simp)).trans hb
       ·exact (hX 54 (by simp) (by simp)).trans (hZ.v0 l0)
      ·obtain rfl := Option.some.inj ho
       have l3 : L 3 = true := he ⟨3, .data⟩ (by simp) rfl
       have l1 : L 1 = true := he ⟨1, .data⟩ (by simp) rfl
       obtain ⟨c, hc, hC, hlc⟩ := hZ.c l3
       rw [if_neg (by rw [hL]; decide)] at hC
       refine wp_store_mid 28 (.tmp 13) (.tmp 55) rfl c 0 #[.slice az p.zones.length cz, .slice ad p.doors.length cd, .slice ap p.people.length cp, .slice ak p.keys.length ck, .slice aq p.squibs.length cq, .int .i64 p.panel, .int .i64 p.wait] ?_ ?_ (blk_there (cs := #[.slice none 0 0, .slice none 0 0, .slice none 0 0, .slice none 0 0, .slice none 0 0, .int .i64 0, .int .i64 0]) hC) infoPad (by simp [Value.oneCell']) (hK _ _ (hZ.s5 l3 hL hc))
       ·exact (hX 13 (by simp) (by simp)).trans hc
       ·exact (hX 55 (by simp) (by simp)).trans (hZ.v1 l1)
      ·cases ho
     ·intro L x W hL hZ
      obtain ⟨b, hb, hB, hlb⟩ := hZ.b (hL 2 (by decide))
      obtain ⟨c, hc, hC, hlc⟩ := hZ.c (hL 3 (by decide))
      rw [if_pos (hL 4 (by decide))] at hB
      rw [if_pos (hL 5 (by decide))] at hC
      have hbc : b ≠ c := by
       have := hZ.ne (hL 2 (by decide)) (hL 3 (by decide))
       rw [hb, hc] at this
       intro e; exact this (by rw [e])
      have HCUT := hide (show CloseCut w2 #[.slice az p.zones.length cz, .slice ad p.doors.length cd, .slice ap p.people.length cp, .slice ak p.keys.length ck, .slice aq p.squibs.length cq, .int .i64 p.panel, .int .i64 p.wait] (.pointer (some ⟨b, 0, none⟩)) (.pointer (some ⟨c, 0, none⟩)) W from ⟨hZ.ext, b, c, rfl, rfl, hbc, hlb, hlc, hB, hC⟩)
      simp only [fill, List.setIfInBounds_toArray, List.set_cons_succ, List.set_cons_zero]
      rw [hb, hc]
      clear hZ hb hc hB hC hlb hlc hbc hL p0 p1 p2 p3 p4 p5 p6
      go_wp2_with fail
      go_meet
      exact HCUT.out
    case rest =>
     obtain ⟨hx3, b, c, rfl, rfl, hbc, hb, hc, hB, hC⟩ := hcut
     have HNEQ := hide (show b ≠ c ∧ w.heap.size ≤ b ∧ w.heap.size ≤ c ∧ w.heap.size + 1 + 1 < b ∧ w.heap.size + 1 + 1 < c from ⟨hbc, by have := HX.out.size; omega, by have := HX.out.size; omega, by have := HA.out.lt; omega, by have := HA.out.lt; omega⟩)
     replace HX := hide (HX.out.trans hx3)
     replace HP := hide (HP.out.ext hx3)
     replace HS := hide (HS.out.ext hx3)
     replace HA := hide (HA.out.ext hx3)
     have HB := hide hB
     have HC := hide hC
     clear hx3 hbc hb hc hB hC p0 p1 p2 p3 p4 p5 p6 a0 a1 a2
     have HPE := hide HE.out
     have HPO := hide (padOk_of HPE.out)
     obtain ⟨iI, hiI, hzI0, hzI1, hzI2⟩ := info_parts infoSquib
     have hI := hide hiI
     have hI0 := hide hzI0
     have hI1 := hide hzI1
     have hI2 := hide hzI2
     clear hiI hzI0 hzI1 hzI2
     obtain ⟨iZ, hiI, hzI0, hzI1, hzI2⟩ := info_parts infoZone
     have hJ := hide hiI
     have hJ0 := hide hzI0
     have hJ1 := hide hzI1
     have hJ2 := hide hzI2
     clear hiI hzI0 hzI1 hzI2
     have HSQ := hide (show ∀ V, Ext w V → Src V aq p.squibs.length 6 (flatC 6 SquibX.cell p.squibs) from fun V hV => (HXX.out.q.ext hV).src)
     have HSZ := hide (show ∀ V, Ext w V → Src V az p.zones.length 8 (flatC 8 Zone.cell p.zones) from fun V hV => (HXX.out.z.ext hV).src)
     have HO1 := hide (flatC_one (size := 6) (cell := SquibX.cell) (l := p.squibs) fun x hx k => squib_one x (HXX.out.kv x hx) k)
     have HO2 := hide (flatC_one (size := 8) (cell := Zone.cell) (l := p.zones) fun x _ k => zone_one x k)
     have p0 := cell_heap HP.out 0 _ rfl
     have p1 := cell_heap HP.out 1 _ rfl
     have p2 := cell_heap HP.out 2 _ rfl
     have p3 := cell_heap HP.out 3 _ rfl
     have p4 := cell_heap HP.out 4 _ rfl
     have p5 := cell_heap HP.out 5 _ rfl
     have p6 := cell_heap HP.out 6 _ rfl
     have b4 := cell_heap HB.out 4 _ rfl
     have gb4 := HB.out.frozen 4
     have hlb := HB.out.lt
     have hlp := HP.out.lt
     have hB1 : ∀ W : World, Sem.run Try.prog (pure (#[] : Array Value)) W = Result.ok #[] W := fun _ => rfl
     have hB2 : ∀ (W : World) (a : Addr), Sem.run Try.prog (storeCells a []) W = Result.ok () W := fun _ _ => rfl
     have hB3 : ∀ (W : World) (a : Addr), Sem.run Try.prog (storeCells a (#[] : Array Value).toList) W = Result.ok () W := fun _ _ => rfl
     go_upto_region 7 with (
      at_builtin
      refine wpList_app rfl (.tmp 56) (.tmp 58) 26 rfl wc.heap.size 55 iI _ 6 72 Try.underlying26 hI.out hI0.out hI1.out hI2.out rfl _ 0 [] rfl (Own.lit wc wc.heap.size 55 6 0 #[] (Nat.le_refl _) rfl (by simp [maxLen])) aq p.squibs.length cq (flatC 6 SquibX.cell p.squibs) rfl ((HSQ.out _ HX.out).ext ((Ext.refl _).alloc _)) HO1.out ?_ ?_ ?_ ?_
      ·have := HPO.out.nq; simp only [maxLen]; omega
      ·have := HPO.out.nq; omega
      ·simp
      intro v7 w7 hown hbel
      simp only [Nat.zero_add, List.nil_append] at hown
      have HE7 := hide (show Ext wc w7 from ((Ext.refl wc).alloc _).step hbel (Nat.le_refl _))
      obtain ⟨gq, kq, rfl, _, hgb, hgl, hck, hcm, hcells, _, hset⟩ := own_set hown HQL.out (f := 3) (by omega)
      have HOW := hide hown
      have HGB := hide (And.intro hgb (And.intro hgl (And.intro hck hcm)))
      have g7 := cell_heap (HB.out.ext HE7.out) 4 _ rfl
      have f7 := (HB.out.ext HE7.out).frozen 4
      clear hown hbel hset hcells hgb hgl hck hcm)
     obtain ⟨w8, hw8⟩ : ∃ V, w7.setCell ⟨b, 4, none⟩ (.slice (some ⟨gq, 0, none⟩) p.squibs.length kq) = V := ⟨_, rfl⟩
     have HNG := hide (show gq ≠ b ∧ gq ≠ c from ⟨by have := HGB.out.1; omega, by have := HGB.out.1; have := HC.out.lt; omega⟩)
     have HX8 := hide (show Ext w w8 by rw [← hw8]; exact (HX.out.trans HE7.out).setCell HNEQ.out.2.1 _)
     have HC8 := hide (Blk.otherE hw8 (HC.out.ext HE7.out) HNEQ.out.1.symm)
     have HP8 := hide (Blk.otherE hw8 (HP.out.ext HE7.out) (by have := HNEQ.out.2.2.2.1; omega))
     have HS8 := hide (Blk.otherE hw8 (HS.out.ext HE7.out) (by have := HNEQ.out.2.2.2.1; omega))
     have HA8 := hide (Blk.otherE hw8 (HA.out.ext HE7.out) (by have := HNEQ.out.2.2.2.1; omega))
     have HOW8 := hide (show Own w8 wc.heap.size 55 6 (.slice (some ⟨gq, 0, none⟩) p.squibs.length kq) p.squibs.length (flatC 6 SquibX.cell p.squibs) by rw [← hw8]; exact HOW.out.setCell (by rw [ownBlock_slice]; intro h; injection h with h; exact HNG.out.1 h) _)
     have HB8 := hide (show Blk w8 b 28 #[.slice az p.zones.length cz, .slice ad p.doors.length cd, .slice ap p.people.length cp, .slice ak p.keys.length ck, .slice (some ⟨gq, 0, none⟩) p.squibs.length kq, .int .i64 p.panel, .int .i64 p.wait] by rw [← hw8]; exact (HB.out.ext HE7.out).set 4 _)
     rw [hw8]
     have HXC8 := hide (show Ext wc w8 ∨ True from .inr trivial)
     clear hw8 g7 f7 b4 gb4 hlb hlp hB1 hB2 hB3 p0 p1 p2 p3 p4 p5 p6
     obtain ⟨bq, oq, rfl, hbq, hcq⟩ := ListV.at ((HXX.out.q.ext HX8.out).rows.2.2.2) HQL.out
     have HQI := hide (HPO.out.qin _ (getD_in' default HQL.out))
     have e3 := hcq 3 (by omega)
     simp only [SquibX.cell] at e3
     have b4 := cell_heap HB8.out 4 _ rfl
     have p4 := cell_heap HP8.out 4 _ rfl
     have a2 := cell_heap HA8.out 2 _ rfl
     have hql := HQL.out
     clear hcq
     apply wp_region_t 16 (61 :: 62 :: 63 :: 64 :: 65 :: 66 :: 67 :: 68 :: 69 :: 70 :: 71 :: 72 :: 73 :: 74 :: 75 :: 76 :: [])
      (.is _ :: .is _ :: .is _ :: .is _ :: .is _ :: .is _ :: .is _ :: .is _ :: .is _ :: .is _ :: .is _ :: .is _ :: .is _ :: .is _ :: .is _ :: .is _ :: [])
      [(3, _), (5, _), (10, _), (12, _)]
     ·kernel_rfl
     ·decide
     ·decide
     ·rfl
     ·kernel_rfl
     ·decide +kernel
     ·kernel_rfl
     ·kernel_rfl
     ·kernel_rfl
     ·kernel_rfl
     ·kernel_rfl
     ·kernel_rfl
     ·rfl
     ·exact keepsIs _ rfl
     ·refine ⟨?_, ?_, ?_, ?_, trivial⟩ <;> (simp; rfl)
     ·repeat
       refine ⟨?_, ?_⟩
       ·intro F W9 hF hd hR
        simp [fixedAt] at hF
        obtain ⟨t3, t5, t10, t12⟩ := hF
        simp [Region.binds, Ent.holds] at hd
        refine ⟨fun _ K hK => ?_, by intro g b h hn; first | (cases h; done) | (cases h; exact absurd (by simp [hd]) hn)⟩
        simp only [Ent.holds, List.getD_cons_zero, List.getD_cons_succ] at hK
        have p4' := hR.cell p4
        have b4' := hR.cell b4
        have e3' := hR.cell e3
        have a2' := hR.cell a2
        go_simp
        first
         | exact hK _ _ rfl (Ext.refl _)
      exact trivial
     intro X W9 hx hR
     simp only [toldX] at hx
     simp only [fillX, List.setIfInBounds_toArray, List.set_cons_succ, List.set_cons_zero]
     obtain ⟨g', c', he, _, _, hgl8, _, _, hcel8, hfro8, hset8⟩ := own_set (HOW8.out.ext hR) HQL.out (f := 3) (by omega)
     obtain ⟨rfl, rfl⟩ : g' = gq ∧ c' = kq := by simp only [Value.slice.injEq, Option.some.injEq, Addr.mk.injEq] at he; exact ⟨he.1.1.symm, he.2.2.symm⟩
     have HSET := hide hset8
     have d3 := hcel8 3 (by omega)
     have f3 := hfro8 3 (by omega)
     simp only [SquibX.cell] at d3
     have hgl9 := hgl8
     clear he hset8 hcel8 hfro8
     go_upto_region 8 with (fail)
     have HX9 := hide (HX8.out.trans hR)
     have HCV := hide (show max 0 (RowKit.wrap64 ((p.squibs.getD q default).1.clear - RowKit.wrap64 x2)) = max 0 ((p.squibs.getD q default).1.clear - x2) by
      have h1 := HQI.out.c
      have h2 := H2.out
      rw [IntWalk.wrap64_in x2 (by omega), IntWalk.wrap64_in _ (by omega)])
     obtain ⟨w10, hw10⟩ : ∃ V, W9.setCell ⟨g', q * 6 + 3, none⟩ (.int .i64 (max 0 (RowKit.wrap64 (p.squibs[q].1.clear - RowKit.wrap64 x2)))) = V := ⟨_, rfl⟩
     rw [hw10]
     have hgd : (p.squibs.getD q default) = p.squibs[q] := by simp [List.getD_eq_getElem?_getD, hql]
     rw [← hgd] at hw10
     rw [HCV.out] at hw10
     obtain ⟨cv, hcv⟩ : ∃ k, max 0 ((p.squibs.getD q default).1.clear - x2) = k := ⟨_, rfl⟩
     rw [hcv] at hw10
     have HCL := hide (show 0 ≤ cv ∧ cv ≤ (p.squibs.getD q default).1.clear by have h1 := HQI.out.c; have h2 := H2.out; omega)
     have hgw : w.heap.size ≤ g' := by have := HNEQ.out; have := HGB.out; have := HC.out.lt; omega
     have HXT := hide (show Ext w w10 by rw [← hw10]; exact HX9.out.setCell hgw _)
     have HBt := hide (Blk.otherE hw10 (HB8.out.ext hR) HNG.out.1.symm)
     have HCt := hide (Blk.otherE hw10 (HC8.out.ext hR) HNG.out.2.symm)
     have hgn : w.heap.size + 1 + 1 < g' := by have := HNEQ.out; have := HGB.out; have := HC.out.lt; omega
     have HPt := hide (Blk.otherE hw10 (HP8.out.ext hR) (by omega))
     have HSt := hide (Blk.otherE hw10 (HS8.out.ext hR) (by omega))
     have HAt := hide (Blk.otherE hw10 (HA8.out.ext hR) (by omega))
     have HLQ := hide (show ListV 6 SquibX.cell w10 (.slice (some ⟨g', 0, none⟩) p.squibs.length c') (p.squibs.set q ({ (p.squibs.getD q default).1 with clear := cv }, (p.squibs.getD q default).2)) by
      rw [← hw10]
      refine HSET.out _ _ fun k hk => ?_
      rcases k with _ | _ | _ | _ | _ | _ | k <;> first | rfl | omega)
     have HGL := hide (show g' < w10.heap.size by rw [← hw10, World.size_setCell]; exact hgl8)
     clear hw10 hcv hgd hgw hgn hR e3 d3 f3 b4 p4 a2 hgl9
     have p0 := cell_heap HPt.out 0 _ rfl
     have p1 := cell_heap HPt.out 1 _ rfl
     have p2 := cell_heap HPt.out 2 _ rfl
     have p3 := cell_heap HPt.out 3 _ rfl
     have p4 := cell_heap HPt.out 4 _ rfl
     have p5 := cell_heap HPt.out 5 _ rfl
     have p6 := cell_heap HPt.out 6 _ rfl
     have c0 := cell_heap HCt.out 0 _ rfl
     have gc0 := HCt.out.frozen 0
     have hlb := HCt.out.lt
     have hlp := HPt.out.lt
     go_upto_region 9 with (
      at_builtin
      refine wpList_app rfl (.tmp 77) (.tmp 79) 22 rfl w10.heap.size 61 iZ _ 8 72 Try.underlying22 hJ.out hJ0.out hJ1.out hJ2.out rfl _ 0 [] rfl (Own.lit w10 w10.heap.size 61 8 0 #[] (Nat.le_refl _) rfl (by simp [maxLen])) az p.zones.length cz (flatC 8 Zone.cell p.zones) rfl ((HSZ.out _ HXT.out).ext ((Ext.refl _).alloc _)) HO2.out ?_ ?_ ?_ ?_
      ·have := HPO.out.nz; simp only [maxLen]; omega
      ·have := HPO.out.nz; omega
      ·simp
      intro v11 w11 hown hbel
      simp only [Nat.zero_add, List.nil_append] at hown
      have HE11 := hide (show Ext w10 w11 from ((Ext.refl w10).alloc _).step hbel (Nat.le_refl _))
      obtain ⟨gz, kz, rfl, _, hgb, hgl, hck, hcm, hcells, _, hset⟩ := own_set hown HZL.out (f := 2) (by omega)
      have HOWZ := hide hown
      have HGZ := hide (And.intro hgb (And.intro hgl (And.intro hck hcm)))
      have g7 := cell_heap (HCt.out.ext HE11.out) 0 _ rfl
      have f7 := (HCt.out.ext HE11.out).frozen 0
      clear hown hbel hset hcells hgb hgl hck hcm)
     obtain ⟨w12, hw12⟩ : ∃ V, w11.setCell ⟨c, 0, none⟩ (.slice (some ⟨gz, 0, none⟩) p.zones.length kz) = V := ⟨_, rfl⟩
     have HNZ := hide (show gz ≠ b ∧ gz ≠ c from ⟨by have := HGZ.out.1; have := HBt.out.lt; omega, by have := HGZ.out.1; have := HCt.out.lt; omega⟩)
     have HX12 := hide (show Ext w w12 by rw [← hw12]; exact (HXT.out.trans HE11.out).setCell HNEQ.out.2.2.1 _)
     have HB12 := hide (Blk.otherE hw12 (HBt.out.ext HE11.out) HNEQ.out.1)
     have HP12 := hide (Blk.otherE hw12 (HPt.out.ext HE11.out) (by have := HNEQ.out.2.2.2.2; omega))
     have HS12 := hide (Blk.otherE hw12 (HSt.out.ext HE11.out) (by have := HNEQ.out.2.2.2.2; omega))
     have HA12 := hide (Blk.otherE hw12 (HAt.out.ext HE11.out) (by have := HNEQ.out.2.2.2.2; omega))
     have HC12 := hide (show Blk w12 c 28 #[.slice (some ⟨gz, 0, none⟩) p.zones.length kz, .slice ad p.doors.length cd, .slice ap p.people.length cp, .slice ak p.keys.length ck, .slice (some ⟨bq, oq, none⟩) p.squibs.length cq, .int .i64 p.panel, .int .i64 p.wait] by rw [← hw12]; exact (HCt.out.ext HE11.out).set 0 _)
     have HOZ12 := hide (show Own w12 w10.heap.size 61 8 (.slice (some ⟨gz, 0, none⟩) p.zones.length kz) p.zones.length (flatC 8 Zone.cell p.zones) by rw [← hw12]; exact HOWZ.out.setCell (by rw [ownBlock_slice]; intro h; injection h with h; exact HNZ.out.2 h) _)
     have HLQ12 := hide (show ListV 6 SquibX.cell w12 (.slice (some ⟨g', 0, none⟩) p.squibs.length c') (p.squibs.set q ({ (p.squibs.getD q default).1 with clear := cv }, (p.squibs.getD q default).2)) from HLQ.out.block (by
      rw [← hw12]
      have h1 := HGL.out
      have h2 := HE11.out.size
      exact ((OffB.set _).2 g' (by omega) HNG.out.2).trans (Below.block HE11.out g' h1)) (by have h1 := HGL.out; have h2 := HE11.out.size; rw [← hw12, World.size_setCell]; omega))
     have HNGZ := hide (show g' ≠ gz by have := HGZ.out.1; have := HGL.out; omega)
     rw [hw12]
     clear hw12 g7 f7 c0 gc0 hlb hlp p0 p1 p2 p3 p4 p5 p6
     obtain ⟨bz, oz, rfl, hbz, hcz⟩ := ListV.at ((HXX.out.z.ext HX12.out).rows.2.2.2) HZL.out
     have HZI := hide (HPO.out.zin _ (getD_in' default HZL.out))
     have e2 := hcz 2 (by omega)
     simp only [Zone.cell] at e2
     have c0 := cell_heap HC12.out 0 _ rfl
     have p0 := cell_heap HP12.out 0 _ rfl
     have a2 := cell_heap HA12.out 2 _ rfl
     have hzl := HZL.out
     clear hcz
     apply wp_region_t 20 (82 :: 83 :: 84 :: 85 :: 86 :: 87 :: 88 :: 89 :: 90 :: 91 :: 92 :: 93 :: 94 :: 95 :: 96 :: 97 :: 98 :: 99 :: 100 :: 101 :: [])
      (.is _ :: .is _ :: .is _ :: .is _ :: .is _ :: .is _ :: .is _ :: .is _ :: .is _ :: .is _ :: .is _ :: .is _ :: .is _ :: .is _ :: .is _ :: .is _ :: .is _ :: .is _ :: .is _ :: .is _ :: [])
      [(3, _), (5, _), (11, _), (13, _)]
     ·kernel_rfl
     ·decide
     ·decide
     ·rfl
     ·kernel_rfl
     ·decide +kernel
     ·kernel_rfl
     ·kernel_rfl
     ·kernel_rfl
     ·kernel_rfl
     ·kernel_rfl
     ·kernel_rfl
     ·rfl
     ·exact keepsIs _ rfl
     ·refine ⟨?_, ?_, ?_, ?_, trivial⟩ <;> (simp; rfl)
     ·repeat
       refine ⟨?_, ?_⟩
       ·intro F W13 hF hd hR
        simp [fixedAt] at hF
        obtain ⟨t3, t5, t11, t13⟩ := hF
        simp [Region.binds, Ent.holds] at hd
        refine ⟨fun _ K hK => ?_, by intro g b h hn; first | (cases h; done) | (cases h; exact absurd (by simp [hd]) hn)⟩
        simp only [Ent.holds, List.getD_cons_zero, List.getD_cons_succ] at hK
        have p0' := hR.cell p0
        have c0' := hR.cell c0
        have e2' := hR.cell e2
        have a2' := hR.cell a2
        go_simp
        first
         | exact hK _ _ rfl (Ext.refl _)
      exact trivial
     intro X W13 hx hR
     simp only [toldX] at hx
     simp only [fillX, List.setIfInBounds_toArray, List.set_cons_succ, List.set_cons_zero]
     obtain ⟨gy, ky, he, _, _, hgl8, _, _, hcel8, hfro8, hset8⟩ := own_set (HOZ12.out.ext hR) HZL.out (f := 2) (by omega)
     obtain ⟨rfl, rfl⟩ : gy = gz ∧ ky = kz := by simp only [Value.slice.injEq, Option.some.injEq, Addr.mk.injEq] at he; exact ⟨he.1.1.symm, he.2.2.symm⟩
     have HSEZ := hide hset8
     have d2 := hcel8 2 (by omega)
     have f2 := hfro8 2 (by omega)
     simp only [Zone.cell] at d2
     have hgl9 := hgl8
     clear he hset8 hcel8 hfro8
     go_upto_region 10 with (fail)
     have HZW := hide (show min 10000000 (RowKit.wrap64 ((p.zones.getD z default).xhi + RowKit.wrap64 x2)) = min 10000000 ((p.zones.getD z default).xhi + x2) by
      have h1 := HZI.out.b
      have h2 := H2.out
      rw [IntWalk.wrap64_in x2 (by omega), IntWalk.wrap64_in _ (by omega)])
     obtain ⟨w14, hw14⟩ : ∃ V, W13.setCell ⟨gy, z * 8 + 1 + 1, none⟩ (.int .i64 (min 10000000 (RowKit.wrap64 (p.zones[z].xhi + RowKit.wrap64 x2)))) = V := ⟨_, rfl⟩
     rw [hw14]
     have hzd : (p.zones.getD z default) = p.zones[z] := by simp [List.getD_eq_getElem?_getD, hzl]
     rw [← hzd] at hw14
     rw [HZW.out] at hw14
     obtain ⟨cx, hcx⟩ : ∃ k, min 10000000 ((p.zones.getD z default).xhi + x2) = k := ⟨_, rfl⟩
     rw [hcx] at hw14
     have HCX := hide (show (p.zones.getD z default).xhi ≤ cx by have h1 := HZI.out.b; have h2 := H2.out; omega)
     have hgw : w.heap.size ≤ gy := by have := HNEQ.out; have := HGZ.out; have := HCt.out.lt; omega
     have hgn : w.heap.size + 1 + 1 < gy := by have := HNEQ.out; have := HGZ.out; have := HCt.out.lt; omega
     have HX14 := hide (show Ext w w14 by rw [← hw14]; exact (HX12.out.trans hR).setCell hgw _)
     have HB14 := hide (Blk.otherE hw14 (HB12.out.ext hR) HNZ.out.1.symm)
     have HC14 := hide (Blk.otherE hw14 (HC12.out.ext hR) HNZ.out.2.symm)
     have HP14 := hide (Blk.otherE hw14 (HP12.out.ext hR) (by omega))
     have HS14 := hide (Blk.otherE hw14 (HS12.out.ext hR) (by omega))
     have HLQ14 := hide (show ListV 6 SquibX.cell w14 (.slice (some ⟨g', 0, none⟩) p.squibs.length c') (p.squibs.set q ({ (p.squibs.getD q default).1 with clear := cv }, (p.squibs.getD q default).2)) from (HLQ12.out.ext hR).block (by
      rw [← hw14]
      have h1 := HGL.out
      have h2 := HE11.out.size
      have h3 := hR.size
      have h4 := HLQ12.out.lt_of hql
      exact (OffB.set _).2 g' (by omega) HNGZ.out) (by have h4 := HLQ12.out.lt_of hql; have h3 := hR.size; rw [← hw14, World.size_setCell]; omega))
     have HLZ14 := hide (show ListV 8 Zone.cell w14 (.slice (some ⟨gy, 0, none⟩) p.zones.length ky) (p.zones.set z { (p.zones.getD z default) with xhi := cx }) by
      rw [← hw14]
      refine HSEZ.out _ _ fun k hk => ?_
      rcases k with _ | _ | _ | _ | _ | _ | _ | _ | k <;> first | rfl | omega)
     clear hw14 hcx hzd hgw hgn hR e2 d2 f2 c0 p0 a2 hgl9
     have p5 := cell_heap HP14.out 5 _ rfl
     have c5 := cell_heap HC14.out 5 _ rfl
     have gc5 := HC14.out.frozen 5
     go_upto_region 11 with (fail)
     obtain ⟨w15, hw15⟩ : ∃ V, w14.setCell ⟨c, 5, none⟩ (.int .i64 p.panel) = V := ⟨_, rfl⟩
     have HX15 := hide (show Ext w w15 by rw [← hw15]; exact HX14.out.setCell HNEQ.out.2.2.1 _)
     have HB15 := hide (Blk.otherE hw15 HB14.out HNEQ.out.1)
     have HC15 := hide (show Blk w15 c 28 #[.slice (some ⟨gy, 0, none⟩) p.zones.length ky, .slice ad p.doors.length cd, .slice ap p.people.length cp, .slice ak p.keys.length ck, .slice (some ⟨bq, oq, none⟩) p.squibs.length cq, .int .i64 p.panel, .int .i64 p.wait] by rw [← hw15]; exact HC14.out.set 5 _)
     have HP15 := hide (Blk.otherE hw15 HP14.out (by have := HNEQ.out.2.2.2.2; omega))
     have HS15 := hide (Blk.otherE hw15 HS14.out (by have := HNEQ.out.2.2.2.2; omega))
     have HLV := hide (show PadV w15 (.agg #[.slice (some ⟨bz, oz, none⟩) p.zones.length cz, .slice ad p.doors.length cd, .slice ap p.people.length cp, .slice ak p.keys.length ck, .slice (some ⟨g', 0, none⟩) p.squibs.length c', .int .i64 p.panel, .int .i64 p.wait]) (lessP p q cv (p.squibs.getD q default).2) from padV_less (HXX.out.ext HX15.out) hql (HLQ14.out.block (by rw [← hw15]; exact (OffB.set _).2 g' (HLQ14.out.lt_of hql) HNG.out.2) (by rw [← hw15, World.size_setCell]; exact HLQ14.out.lt_of hql)))
     have HMV := hide (show PadV w15 (.agg #[.slice (some ⟨gy, 0, none⟩) p.zones.length ky, .slice ad p.doors.length cd, .slice ap p.people.length cp, .slice ak p.keys.length ck, .slice (some ⟨bq, oq, none⟩) p.squibs.length cq, .int .i64 p.panel, .int .i64 p.wait]) (moreP p z cx) from padV_more (HXX.out.ext HX15.out) hzl (HLZ14.out.block (by rw [← hw15]; exact (OffB.set _).2 gy (HLZ14.out.lt_of hzl) HNZ.out.2) (by rw [← hw15, World.size_setCell]; exact HLZ14.out.lt_of hzl)))
     rw [hw15]
     have HQL2 := HQL
     have HZL2 := HZL
     have HLS := hide (lessP_less (v := (p.squibs.getD q default).2) HCL.out)
     have HCLO := hide (closer_less HLS.out HPE.out hzl hql)
     have HCMO := hide (closer_more (z := z) (q := q) (c := cx) hzl hql HCX.out)
     have HNE := hide (nearE_0 HPE.out hzl hql)
     have HNR0 := hide (nearR_q HPE.out hzl hql)
     have HNX := hide (fun V (hV : Ext w V) => HNR.out V hV HPE.out z q (by omega))
     have HN3L := hide (fun V (hV : Ext w15 V) => near3_any _ _ z q V (HLV.out.ext hV))
     have HN3M := hide (fun V (hV : Ext w15 V) => near3_any _ _ z q V (HMV.out.ext hV))
     have HCSP := hide (fun V (hV : Ext w V) => HCS.out V hV _ p (padV_iff.2 ⟨_, rfl, HXX.out.ext hV⟩))
     have HCSL := hide (fun V (hV : Ext w V) (hW : Ext w15 V) => HCS.out V hV _ _ (HLV.out.ext hW))
     unfold PadX.cells at HCSP
     dsimp only at HCSP
     have HE12 := hide (fun (h : stateE p s = 0) => HLS.out.state h)
     have HW15 := hide (Ext.refl w15)
     obtain ⟨A, hA⟩ : ∃ A, nearQ p z q = A := ⟨_, rfl⟩
     rw [hA] at HNR0 HNX HCLO HCMO
     rw [HCLO.out.1] at HN3L
     obtain ⟨B, hB⟩ : ∃ B, nearR (lessP p q cv (p.squibs.getD q default).2) z q = B := ⟨_, rfl⟩
     rw [hB] at HN3L HCLO
     obtain ⟨G, hG⟩ : ∃ G, nearE (moreP p z cx) z q = G := ⟨_, rfl⟩
     obtain ⟨M, hM⟩ : ∃ M, nearR (moreP p z cx) z q = M := ⟨_, rfl⟩
     rw [hG, hM] at HN3M HCMO
     obtain ⟨Z1, hZ1⟩ : ∃ Z, stateE p s = Z := ⟨_, rfl⟩
     obtain ⟨Z2, hZ2⟩ : ∃ Z, stateE (lessP p q cv (p.squibs.getD q default).2) s = Z := ⟨_, rfl⟩
     rw [hZ1, hZ2] at HE12
     rw [hZ1] at HCSP
     rw [hZ2] at HCSL
     have HN3P := hide (fun V (hV : Ext w V) => HN3.out V hV z q)
     rw [HNR0.out, HNE.out] at HN3P
     have HAB := hide HCLO.out.2
     clear hA hB hG hM hZ1 hZ2 hw15 p5 c5 gc5 HX14 HB14 HC14 HP14 HS14 HLQ14 HLZ14 HNR0 HNE HN3 HNR HCS HCLO
     have h3 : (A = true ∧ B = true) ∨ (A = true ∧ B = false) ∨ (A = false ∧ B = false) := by
      have := HAB.out
      revert this
      cases A <;> cases B <;> simp
     rcases h3 with ⟨rfl, rfl⟩ | ⟨rfl, rfl⟩ | ⟨rfl, rfl⟩
     all_goals
      have p0 := cell_heap HP15.out 0 _ rfl
      have p1 := cell_heap HP15.out 1 _ rfl
      have p2 := cell_heap HP15.out 2 _ rfl
      have p3 := cell_heap HP15.out 3 _ rfl
      have p4 := cell_heap HP15.out 4 _ rfl
      have p5 := cell_heap HP15.out 5 _ rfl
      have p6 := cell_heap HP15.out 6 _ rfl
      go_wp2_with fail
      refine Calls.mono (HN3P.out w15 HX15.out) ?_
      rintro e w16 ⟨rfl, hx⟩
      have HX16 := hide (HX15.out.trans hx)
      have HW16 := hide (HW15.out.trans hx)
      have HB16 := hide (HB15.out.ext hx)
      have HC16 := hide (HC15.out.ext hx)
      have HP16 := hide (HP15.out.ext hx)
      have HS16 := hide (HS15.out.ext hx)
      clear hx
      clear p0 p1 p2 p3 p4 p5 p6
      have b0 := cell_heap HB16.out 0 _ rfl
      have b1 := cell_heap HB16.out 1 _ rfl
      have b2 := cell_heap HB16.out 2 _ rfl
      have b3 := cell_heap HB16.out 3 _ rfl
      have b4 := cell_heap HB16.out 4 _ rfl
      have b5 := cell_heap HB16.out 5 _ rfl
      have b6 := cell_heap HB16.out 6 _ rfl
      go_wp2_with fail
      refine Calls.mono (HN3L.out w16 HW16.out) ?_
      rintro e w17 ⟨rfl, hx⟩
      have HX17 := hide (HX16.out.trans hx)
      have HW17 := hide (HW16.out.trans hx)
      have HB17 := hide (HB16.out.ext hx)
      have HC17 := hide (HC16.out.ext hx)
      have HP17 := hide (HP16.out.ext hx)
      have HS17 := hide (HS16.out.ext hx)
      clear hx
      clear b0 b1 b2 b3 b4 b5 b6
      have p0 := cell_heap HP17.out 0 _ rfl
      have p1 := cell_heap HP17.out 1 _ rfl
      have p2 := cell_heap HP17.out 2 _ rfl
      have p3 := cell_heap HP17.out 3 _ rfl
      have p4 := cell_heap HP17.out 4 _ rfl
      have p5 := cell_heap HP17.out 5 _ rfl
      have p6 := cell_heap HP17.out 6 _ rfl
      go_wp2_with fail
      refine Calls.mono (HNX.out w17 HX17.out) ?_
      rintro e w18 ⟨rfl, hx⟩
      have HX18 := hide (HX17.out.trans hx)
      have HW18 := hide (HW17.out.trans hx)
      have HB18 := hide (HB17.out.ext hx)
      have HC18 := hide (HC17.out.ext hx)
      have HP18 := hide (HP17.out.ext hx)
      have HS18 := hide (HS17.out.ext hx)
      clear hx
      clear p0 p1 p2 p3 p4 p5 p6
      have p0 := cell_heap HP18.out 0 _ rfl
      have p1 := cell_heap HP18.out 1 _ rfl
      have p2 := cell_heap HP18.out 2 _ rfl
      have p3 := cell_heap HP18.out 3 _ rfl
      have p4 := cell_heap HP18.out 4 _ rfl
      have p5 := cell_heap HP18.out 5 _ rfl
      have p6 := cell_heap HP18.out 6 _ rfl
      have s0 := cell_heap HS18.out 0 _ rfl
      have s1 := cell_heap HS18.out 1 _ rfl
      have s2 := cell_heap HS18.out 2 _ rfl
      have s3 := cell_heap HS18.out 3 _ rfl
      have s4 := cell_heap HS18.out 4 _ rfl
      have s5 := cell_heap HS18.out 5 _ rfl
      go_wp2_with fail
      refine Calls.mono (HCSP.out w18 HX18.out) ?_
      rintro e w19 ⟨rfl, hx⟩
      have HX19 := hide (HX18.out.trans hx)
      have HW19 := hide (HW18.out.trans hx)
      have HB19 := hide (HB18.out.ext hx)
      have HC19 := hide (HC18.out.ext hx)
      have HP19 := hide (HP18.out.ext hx)
      have HS19 := hide (HS18.out.ext hx)
      clear hx
      clear p0 p1 p2 p3 p4 p5 p6 s0 s1 s2 s3 s4 s5
      by_cases z1 : Z1 = 0
      ·obtain rfl := HE12.out z1
       subst z1
       have b0 := cell_heap HB19.out 0 _ rfl
       have b1 := cell_heap HB19.out 1 _ rfl
       have b2 := cell_heap HB19.out 2 _ rfl
       have b3 := cell_heap HB19.out 3 _ rfl
       have b4 := cell_heap HB19.out 4 _ rfl
       have b5 := cell_heap HB19.out 5 _ rfl
       have b6 := cell_heap HB19.out 6 _ rfl
       have s0 := cell_heap HS19.out 0 _ rfl
       have s1 := cell_heap HS19.out 1 _ rfl
       have s2 := cell_heap HS19.out 2 _ rfl
       have s3 := cell_heap HS19.out 3 _ rfl
       have s4 := cell_heap HS19.out 4 _ rfl
       have s5 := cell_heap HS19.out 5 _ rfl
       go_wp2_with fail
       refine Calls.mono (HCSL.out w19 HX19.out HW19.out) ?_
       rintro e w20 ⟨rfl, hx⟩
       have HX20 := hide (HX19.out.trans hx)
       have HW20 := hide (HW19.out.trans hx)
       have HB20 := hide (HB19.out.ext hx)
       have HC20 := hide (HC19.out.ext hx)
       have HP20 := hide (HP19.out.ext hx)
       have HS20 := hide (HS19.out.ext hx)
       clear hx
       clear b0 b1 b2 b3 b4 b5 b6 s0 s1 s2 s3 s4 s5
       have c0 := cell_heap HC20.out 0 _ rfl
       have c1 := cell_heap HC20.out 1 _ rfl
       have c2 := cell_heap HC20.out 2 _ rfl
       have c3 := cell_heap HC20.out 3 _ rfl
       have c4 := cell_heap HC20.out 4 _ rfl
       have c5 := cell_heap HC20.out 5 _ rfl
       have c6 := cell_heap HC20.out 6 _ rfl
       go_wp2_with fail
       refine Calls.mono (HN3M.out w20 HW20.out) ?_
       rintro e w21 ⟨rfl, hx⟩
       have HX21 := hide (HX20.out.trans hx)
       clear hx
       clear c0 c1 c2 c3 c4 c5 c6
       by_cases g0 : G = 0
       ·subst g0
        cases M with
        | true =>
          go_wp2_with fail
          refine (awake_any _).mono ?_
          rintro e w9 ⟨rfl, hx9⟩
          have HX9 := hide (HX21.out.trans hx9)
          clear hx9
          go_wp2_with fail
          go_ret
          exact ⟨rfl, HX9.out⟩
        | false =>
          first
          | (have g := HCMO.out; simp at g; done)
          | (skip
             go_wp2_with fail
             refine (awake_any _).mono ?_
             rintro e w9 ⟨rfl, hx9⟩
             have HX9 := hide (HX21.out.trans hx9)
             clear hx9
             go_wp2_with fail
             go_ret
             exact ⟨rfl, HX9.out⟩)
       ·have hne : (G != 0) = true := by simpa using g0
        clear g0
        go_wp2_with fail
        refine (awake_any _).mono ?_
        rintro e w9 ⟨rfl, hx9⟩
        have HX9 := hide (HX21.out.trans hx9)
        clear hx9
        go_wp2_with fail
        go_ret
        exact ⟨rfl, HX9.out⟩
      ·have hz : (Z1 == 0) = false := by simpa using z1
       clear z1
       have c0 := cell_heap HC19.out 0 _ rfl
       have c1 := cell_heap HC19.out 1 _ rfl
       have c2 := cell_heap HC19.out 2 _ rfl
       have c3 := cell_heap HC19.out 3 _ rfl
       have c4 := cell_heap HC19.out 4 _ rfl
       have c5 := cell_heap HC19.out 5 _ rfl
       have c6 := cell_heap HC19.out 6 _ rfl
       go_wp2_with fail
       refine Calls.mono (HN3M.out w19 HW19.out) ?_
       rintro e w21 ⟨rfl, hx⟩
       have HX21 := hide (HX19.out.trans hx)
       clear hx
       clear c0 c1 c2 c3 c4 c5 c6
       by_cases g0 : G = 0
       ·subst g0
        cases M with
        | true =>
          go_wp2_with fail
          refine (awake_any _).mono ?_
          rintro e w9 ⟨rfl, hx9⟩
          have HX9 := hide (HX21.out.trans hx9)
          clear hx9
          go_wp2_with fail
          go_ret
          exact ⟨rfl, HX9.out⟩
        | false =>
          first
          | (have g := HCMO.out; simp at g; done)
          | (skip
             go_wp2_with fail
             refine (awake_any _).mono ?_
             rintro e w9 ⟨rfl, hx9⟩
             have HX9 := hide (HX21.out.trans hx9)
             clear hx9
             go_wp2_with fail
             go_ret
             exact ⟨rfl, HX9.out⟩)
       ·have hne : (G != 0) = true := by simpa using g0
        clear g0
        go_wp2_with fail
        refine (awake_any _).mono ?_
        rintro e w9 ⟨rfl, hx9⟩
        have HX9 := hide (HX21.out.trans hx9)
        clear hx9
        go_wp2_with fail
        go_ret
        exact ⟨rfl, HX9.out⟩
 ·have hne : (E != 0) = true := by simpa using e0
  clear e0
  go_wp2_with fail
  refine (awake_any _).mono ?_
  rintro e w9 ⟨rfl, hx9⟩
  have HX9 := hide (HX.out.trans hx9)
  clear hx9
  go_wp2_with fail
  go_ret
  exact ⟨rfl, HX9.out⟩
theorem own : ownKnob Try.prog.godebug = none := by kernel_rfl
theorem laidOut : laidOutB Try.prog = true := by kernel_rfl
set_option maxRecDepth 100000 in
theorem lifted (os : Os) (started : os.Started) (H : Type) (enc : TypeId × Value → H) :
 ReturnsInHanded {} Try.checked os 6 .any (Rows.padCloserSpec.pre6 enc Try.prog Try.f6 Rows.padCloserRow.domain false) (Rows.padCloserSpec.post enc Try.prog Try.f6 false true false false) := by
 refine returnsInHanded_of_change_sized (C := Try.checked) own started (by kernel_rfl) Try.func6
  (ChangeSpec.witness6 (enc := enc) (C := Try.checked) false ⟨#[], #[.agg #[.slice none 0 0, .slice none 0 0, .slice none 0 0, .slice none 0 0, .slice none 0 0, .int .i64 0, .int .i64 0], .agg #[.int .i64 0, .slice none 0 0, .slice none 0 0, .slice none 0 0, .int .i64 0, .bool false], .agg #[.int .u32 0, .int .u32 0, .int .u32 0]], []⟩ 8 (by kernel_rfl) (by kernel_rfl) (by kernel_rfl) (by kernel_rfl)) ?_
 intro W base args ds gs before hval0 hW hcnd hsz0 _
 have hval : ∀ (j : Nat) t v, Try.f6.params[j]? = some t → args[j]? = some v → Value.okWide Try.prog W .any base t v := hval0
 have hsz : (DataW.weightsEach Try.prog (Try.f6.params.toList ++ Rows.padCloserSpec.plain.varTypes Try.prog) (ds ++ gs)).all (· ≤ reachBytes) = true := hsz0
 have hW' := hW
 obtain ⟨p, q, hA0, hV, rfl, hfz, hnd⟩ := hW
 have hA : DataW.TrodAll enc Try.prog W 0 (fun _ => true) true Try.f6.params.toList args.toList ds p := hA0
 rw [Try.params6] at hA hval hsz
 obtain ⟨v0, vs0, d0, ds0, p0, q0, hargs, rfl, rfl, h0, r0⟩ := trodAll_cons hA
 obtain ⟨v1, vs1, d1, ds1, p1, q1, rfl, rfl, rfl, h1, r1⟩ := trodAll_cons r0
 obtain ⟨v2, vs2, d2, ds2, p2, q2, rfl, rfl, rfl, h2, r2⟩ := trodAll_cons r1
 obtain ⟨rfl, rfl, rfl⟩ := trodAll_nil r2
 obtain rfl : args = #[v0, v1, v2] := by cases args; simp_all
 obtain ⟨rfl, rfl⟩ := trodVars_none hV
 have k0 := h0
 have lt0 : ∀ x ∈ p0, x.block < W.heap.size := by obtain ⟨m, hm⟩ := k0; exact DataW.trod_lt m _ _ _ hm
 obtain ⟨pd0, o0⟩ := open_pad (hval 0 28 v0 rfl rfl) h0
 have k1 := h1
 have lt1 : ∀ x ∈ p1, x.block < W.heap.size := by obtain ⟨m, hm⟩ := k1; exact DataW.trod_lt m _ _ _ hm
 obtain ⟨s1, o1, f1⟩ := open_state (hval 1 38 v1 rfl rfl) h1
 have k2 := h2
 have lt2 : ∀ x ∈ p2, x.block < W.heap.size := by obtain ⟨m, hm⟩ := k2; exact DataW.trod_lt m _ _ _ hm
 obtain ⟨x2, y2, z2, rfl, wx2, wy2, wz2⟩ := open_three (hval 2 51 v2 rfl rfl) h2
 clear hA0 hval0 hsz0
 refine (walk o0 o1 (f1 fun m hm => by have := List.all_eq_true.1 hsz m (DataW.weights_mem_each (j := 1) (t := 38) rfl rfl m hm); simpa using this) wx2 wy2 wz2).mono fun e W' ⟨he, bel⟩ => ?_
 subst he
 exact ⟨_, rfl, _, _, _, [], _, [], hW', trodAll_mk1 (shut_bool Try.underlying4 _), (trodAll_cons_mk (Below.trod laidOut (by kernel_rfl) (of_decide_eq_true (by kernel_rfl)) k0 bel lt0) (trodAll_cons_mk (Below.trod laidOut (by kernel_rfl) (of_decide_eq_true (by kernel_rfl)) k1 bel lt1) (trodAll_cons_mk (Below.trod laidOut (by kernel_rfl) (of_decide_eq_true (by kernel_rfl)) k2 bel lt2) trodAll_mk0))), rfl, bel.frame _, fun h => by cases h⟩
theorem over : Rows.padCloserRow.holds Try.pinned (OpenSpec.ofChange Rows.padCloserSpec) :=
 OpenClaim.holds_of_wide 6 Try.f6 rfl rfl rfl rfl rfl rfl rfl ⟨rfl, rfl, rfl, rfl, rfl⟩ rfl rfl rfl rfl rfl (by kernel_rfl) Try.func6 (by kernel_rfl)
  (of_decide_eq_true (by kernel_rfl)) (by unfold Func.isWrapper; first | (rw [if_pos (by decide +kernel)]; kernel_rfl) | (rw [if_neg (by decide +kernel)]; exact ⟨rfl, rfl⟩))
  (fun os started H enc _ => lifted os started H enc)
end PadCloserLaw
/-- The statement. -/
theorem closer_holds : Rows.PadCloserSaid := PadCloserLaw.over
end Go.Proofs.Ythcnganbnbhhoaa
