/- The walks of does, and of do's deferred closure. The walk of do. -/
import Derived.Test.YthcnganbnbhhoaaStage
import Derived.Defers
import Derived.Recover
import Derived.Laws.Tables
import Derived.RegionTactic
import Derived.Laws.EntriesVeiled
import Derived.Test.YthcnganbnbhhoaaMeth
import Derived.Deep.Cut
namespace Go.Proofs.Ythcnganbnbhhoaa
open Go.RowKit Go.Shelf
def zeroC : Array Value := #[.int .i64 0, .slice none 0 0, .slice none 0 0, .slice none 0 0, .int .i64 0, .bool false]
def doesV : Array Value := #[.nilFunc, .func (.func 101) #[] #[], .func (.func 102) #[] #[], .func (.func 103) #[] #[], .func (.func 104) #[] #[], .func (.func 105) #[] #[], .func (.func 106) #[] #[], .func (.func 107) #[] #[], .func (.func 108) #[] #[], .func (.func 109) #[] #[]]
set_option maxRecDepth 100000 in
set_option maxHeartbeats 1000000 in
/-- does -/
theorem does_any (w : World) : Calls Try.prog 89 #[] w fun e w' => e = .returned (.agg doesV) ∧ Ext w w' := by
 have hbv : Try.prog.built 136 [(1, .func (.func 101) #[] #[]), (2, .func (.func 102) #[] #[]), (3, .func (.func 103) #[] #[]), (4, .func (.func 104) #[] #[]), (5, .func (.func 105) #[] #[]), (6, .func (.func 106) #[] #[]), (7, .func (.func 107) #[] #[]), (8, .func (.func 108) #[] #[]), (9, .func (.func 109) #[] #[])] = some doesV := by kernel_rfl
 unfold doesV at hbv
 go_enter Try.func89, Try.ntmps89
 go_wp2_with ((with_reducible refine wpList_build rfl 136 _ rfl (by kernel_rfl) ?_))
 refine bodyPost_ret (v := .agg doesV) (by simp [results, Try.results89, go_sem, doesV]; try rfl) rfl ?_
 exact ⟨rfl, (Ext.refl _).alloc _⟩
set_option maxRecDepth 100000 in
set_option maxHeartbeats 1000000 in
/-- do's closure, where nothing has panicked -/
theorem do1_idle (b c : Nat) (w : World) :
 CallsD Try.prog 87 #[.pointer (some ⟨b, 0, none⟩), .pointer (some ⟨c, 0, none⟩)] .returning w fun e u' w' => e = .returned (.tuple #[]) ∧ u' = .returning ∧ w' = w := by
 refine callsD_of_wpS Try.func87 rfl fun c₀ cs hu => ?_
 apply wpS_seq
 apply wpS_region
 simp [wpOpsS, go_sem, recoverD, hu, Try.ntmps87, Exit.thenS]
 apply wpS_seq
 apply wpS_region
 simp [wpOpsS, go_sem, Exit.thenS]
 refine wpS_cond (t := false) (by simp [Act.eval, Array.replicate]) ?_
 simp only [Bool.false_eq_true, if_false]
 refine wpS_of_wp (wp_skip ?_)
 cases c₀
 simp_all [bodyPostS, results, Try.results87]
/-- do's closure, where an act was refused -/
theorem do1_caught (b c : Nat) (E : Int) (older : List PanicEntry) (w : World) (v : Value) (hb : Blk w b 38 zeroC) (hc : Boxed w c 29 v) (hbc : b ≠ c) :
 CallsD Try.prog 87 #[.pointer (some ⟨b, 0, none⟩), .pointer (some ⟨c, 0, none⟩)] (.panicking ({ v := .iface 29 (.int .i64 E), recovered := false } :: older)) w fun e u' w' =>
  e = .returned (.tuple #[]) ∧ u' = .panicking ({ v := .iface 29 (.int .i64 E), recovered := true } :: older) ∧ Blk w' b 38 zeroC ∧ Boxed w' c 29 (.int .i64 E) ∧ ∀ w0 : World, w0.heap.size ≤ b → w0.heap.size ≤ c → Ext w0 w → Ext w0 w' := by
 have b0 := cell_heap hb 0 _ rfl
 have f0 := Blk.frozen hb 0
 have b1 := cell_heap hb 1 _ rfl
 have f1 := Blk.frozen hb 1
 have b2 := cell_heap hb 2 _ rfl
 have f2 := Blk.frozen hb 2
 have b3 := cell_heap hb 3 _ rfl
 have f3 := Blk.frozen hb 3
 have b4 := cell_heap hb 4 _ rfl
 have f4 := Blk.frozen hb 4
 have b5 := cell_heap hb 5 _ rfl
 have f5 := Blk.frozen hb 5
 have c0 := Boxed.cell hc
 have fc := Boxed.frozen hc
 unfold zeroC at hb
 have hta : ∀ w : World, (Instr.typeAssert (.iface 29 (.int .i64 E)) 20 29 false).run Try.prog w = .ok (.int .i64 E) w := fun _ => by kernel_rfl
 have HB := hide hb
 have HC := hide hc
 clear hb hc
 refine callsD_of_wpS Try.func87 rfl fun c₀ cs hu => ?_
 apply wpS_seq
 apply wpS_region
 simp [wpOpsS, go_sem, recoverD, hu, Try.ntmps87, Exit.thenS]
 apply wpS_seq
 apply wpS_region
 simp [wpOpsS, go_sem, Exit.thenS]
 refine wpS_cond (t := true) (by simp [Act.eval, Array.replicate]) ?_
 simp only [if_true]
 refine wpS_of_wp ?_
 simp only [Array.replicate, List.replicate]
 simp [go_sem]
 go_region
 refine ⟨rfl, _, rfl, _, by simp [results, Try.results87, go_sem], rfl, rfl, ?_, ?_, ?_⟩
 ·have h6 := ((((((HB.out.set 0 (.int .i64 0)).set 1 (.slice none 0 0)).set 2 (.slice none 0 0)).set 3 (.slice none 0 0)).set 4 (.int .i64 0)).set 5 (.bool false)).other hbc 0 (.int .i64 E)
  exact h6.ext (Ext.refl _).drew
 ·have h6 : Blk w c 29 #[v] := HC.out
  have h7 := (((((((h6.other (Ne.symm hbc) 0 (.int .i64 0)).other (Ne.symm hbc) 1 (.slice none 0 0)).other (Ne.symm hbc) 2 (.slice none 0 0)).other (Ne.symm hbc) 3 (.slice none 0 0)).other (Ne.symm hbc) 4 (.int .i64 0)).other (Ne.symm hbc) 5 (.bool false)).set 0 (.int .i64 E)).ext (Ext.refl _).drew
  exact h7
 ·intro w0 h1 h2 h3
  exact (((((((h3.setCell h1 _).setCell h1 _).setCell h1 _).setCell h1 _).setCell h1 _).setCell h1 _).setCell h2 _).drew
end Go.Proofs.Ythcnganbnbhhoaa
namespace Go.Proofs.Ythcnganbnbhhoaa
open Go.RowKit Go.Shelf
/-- A state whose lists lie in blocks of one's own, from 'base' on. -/
def StateO (w : World) (base : Nat) (v : Value) (s : State) : Prop := ∃ A1 c1 A2 c2 A3 c3, v = .agg #[.int .i64 s.now, .slice A1 s.zones.length c1, .slice A2 s.holder.length c2, .slice A3 s.squibs.length c3, .int .i64 s.siren, .bool s.storm] ∧ Own w base 3 1 (.slice A1 s.zones.length c1) s.zones.length (s.zones.map (Value.int .i64)) ∧ Own w base 3 1 (.slice A2 s.holder.length c2) s.holder.length (s.holder.map (Value.int .i64)) ∧ Own w base 3 1 (.slice A3 s.squibs.length c3) s.squibs.length (s.squibs.map (Value.int .i64))
theorem StateO.v {w : World} {base : Nat} {v : Value} {s : State} (h : StateO w base v s) : StateV w v s := by
 obtain ⟨A1, c1, A2, c2, A3, c3, rfl, h1, h2, h3⟩ := h
 exact ⟨_, _, _, rfl, h1.ints, h2.ints, h3.ints⟩
theorem StateO.ext {w w' : World} {base : Nat} {v : Value} {s : State} (h : StateO w base v s) (k : Ext w w') : StateO w' base v s := by
 obtain ⟨A1, c1, A2, c2, A3, c3, e, h1, h2, h3⟩ := h
 exact ⟨A1, c1, A2, c2, A3, c3, e, h1.ext k, h2.ext k, h3.ext k⟩
theorem StateO.mono {w : World} {base b2 : Nat} {v : Value} {s : State} (h : StateO w base v s) (k : b2 ≤ base) : StateO w b2 v s := by
 obtain ⟨A1, c1, A2, c2, A3, c3, e, h1, h2, h3⟩ := h
 exact ⟨A1, c1, A2, c2, A3, c3, e, h1.mono k, h2.mono k, h3.mono k⟩
/-- A block that is older is written. -/
theorem StateO.set {w : World} {base : Nat} {v : Value} {s : State} (h : StateO w base v s) {b : Nat} (hb : b < base) (i : Nat) (u : Value) : StateO (w.setCell ⟨b, i, none⟩ u) base v s := by
 have one : ∀ {x : Value} {n : Nat} {xs : List Value}, Own w base 3 1 x n xs → Own (w.setCell ⟨b, i, none⟩ u) base 3 1 x n xs := fun {x n xs} h => h.setCell (fun e => by have := (h.block _ e).1; dsimp only at this; omega) u
 obtain ⟨A1, c1, A2, c2, A3, c3, e, h1, h2, h3⟩ := h
 exact ⟨A1, c1, A2, c2, A3, c3, e, one h1, one h2, one h3⟩
/-- What do hands back. -/
def DoQ (w : World) (p : Pad) (s : State) (a : PAct) (e : Ending) (w' : World) : Prop := ∃ v, e = .returned (.tuple #[v, .int .i64 (doneE p s a)]) ∧ StateO w' w.heap.size v (doneS p s a) ∧ Ext w w'
theorem stateO_zero (w : World) (base : Nat) : StateO w base (.agg zeroC) zeroS := ⟨none, 0, none, 0, none, 0, rfl, Own.nil _ _ _ _, Own.nil _ _ _ _, Own.nil _ _ _ _⟩
theorem doQ_no {w w' : World} {p : Pad} {s : State} {a : PAct} {E : Int} (hE : doneE p s a = E) (h0 : E ≠ 0) (hx : Ext w w') : DoQ w p s a (.returned (.tuple #[.agg #[.int .i64 0, .slice none 0 0, .slice none 0 0, .slice none 0 0, .int .i64 0, .bool false], .int .i64 E])) w' :=
 ⟨_, by rw [hE], by unfold doneS; rw [if_neg (by rw [hE]; exact h0)]; exact stateO_zero w' _, hx⟩
/-- The five boxes that do makes. -/
structure DoW (w : World) (cs : Array Value) (W : World) (z : Array Value) (v : Value) : Prop where
 ext : Ext w W
 act : Blk W (w.heap.size + 1 + 1) 48 cs
 aft : Blk W (w.heap.size + 1 + 1 + 1) 38 z
 why : Blk W (w.heap.size + 1 + 1 + 1 + 1) 29 #[v]
theorem DoW.ext' {w W W' : World} {cs z : Array Value} {v : Value} (h : DoW w cs W z v) (k : Ext W W') : DoW w cs W' z v := ⟨h.ext.trans k, h.act.ext k, h.aft.ext k, h.why.ext k⟩
theorem own_sets {W : World} {base : Nat} {e : TypeId} {v : Value} {n : Nat} {xs : List Value} {b c : Nat} (hb : b < base) (hc : c < base) (h : Own W base e 1 v n xs) (u0 u1 u2 u3 u4 u5 u6 : Value) :
 Own (((((((W.setCell ⟨b, 0, none⟩ u0).setCell ⟨b, 1, none⟩ u1).setCell ⟨b, 2, none⟩ u2).setCell ⟨b, 3, none⟩ u3).setCell ⟨b, 4, none⟩ u4).setCell ⟨b, 5, none⟩ u5).setCell ⟨c, 0, none⟩ u6) base e 1 v n xs := by
 have h1 : v.ownBlock ≠ some b := fun e => by have := (h.block _ e).1; omega
 have h2 : v.ownBlock ≠ some c := fun e => by have := (h.block _ e).1; omega
 exact ((((((h.setCell h1 _).setCell h1 _).setCell h1 _).setCell h1 _).setCell h1 _).setCell h1 _).setCell h2 _
set_option maxRecDepth 100000 in
set_option maxHeartbeats 8000000 in
/-- do, whatever method an act calls -/
theorem do_core (g : FuncId) (heg : Enters Try.prog g) (X : PadX) (p : Pad) (s : State) (t k who wt wh : Int) (A1 A2 A3 : Option Addr) (c1 c2 c3 : Nat) (w : World) (hX : PadAt w X p) (h1 : IntsV w .i64 (.slice A1 s.zones.length c1) s.zones) (h2 : IntsV w .i64 (.slice A2 s.holder.length c2) s.holder) (h3 : IntsV w .i64 (.slice A3 s.squibs.length c3) s.squibs)
 (b1 : s.zones.length * 8 ≤ 140737488355328) (b2 : s.holder.length * 8 ≤ 140737488355328) (b3 : s.squibs.length * 8 ≤ 140737488355328)
 (hix : ∀ V, (Instr.index 136 (.agg doesV) (.int .i64 k)).run Try.prog V = .ok (.func (.func g) #[] #[]) V)
 (hM : ∀ (B : Nat) (Y : SceneX) (w0 V : World), SceneS w0 B Y p s V → Calls Try.prog g #[.pointer (some ⟨B, 0, none⟩), .agg #[.int .i64 t, .int .i64 k, .int .i64 who, .int .i64 wt, .int .i64 wh]] V (MethQ w0 B Y p (kindE p s ⟨t, k, who, wt, wh⟩) (kindS s ⟨t, k, who, wt, wh⟩))) :
 Calls Try.prog 67 #[.agg (X.cells p).toArray, .agg #[.int .i64 s.now, .slice A1 s.zones.length c1, .slice A2 s.holder.length c2, .slice A3 s.squibs.length c3, .int .i64 s.siren, .bool s.storm], .agg #[.int .i64 t, .int .i64 k, .int .i64 who, .int .i64 wt, .int .i64 wh]] w (DoQ w p s ⟨t, k, who, wt, wh⟩) := by
 obtain ⟨az, cz, ad, cd, ap, cp, ak, ck, aq, cq⟩ := X
 unfold PadX.cells
 dsimp only
 unfold Enters at heg
 obtain ⟨W0, hW0⟩ : ∃ W0, ((((w.alloc (.cells #[.slice az p.zones.length cz, .slice ad p.doors.length cd, .slice ap p.people.length cp, .slice ak p.keys.length ck, .slice aq p.squibs.length cq, .int .i64 p.panel, .int .i64 p.wait] 28)).alloc (.cells #[.int .i64 s.now, .slice A1 s.zones.length c1, .slice A2 s.holder.length c2, .slice A3 s.squibs.length c3, .int .i64 s.siren, .bool s.storm] 38)).alloc (.cells #[.int .i64 t, .int .i64 k, .int .i64 who, .int .i64 wt, .int .i64 wh] 48)).alloc (.cells #[.int .i64 0, .slice none 0 0, .slice none 0 0, .slice none 0 0, .int .i64 0, .bool false] 38)).alloc (.cells #[.int .i64 0] 29) = W0 := ⟨_, rfl⟩
 have hx0 : Ext w W0 := by rw [← hW0]; exact (((((Ext.refl _).alloc _).alloc _).alloc _).alloc _).alloc _
 have HD := hide (show DoW w #[.int .i64 t, .int .i64 k, .int .i64 who, .int .i64 wt, .int .i64 wh] W0 #[.int .i64 0, .slice none 0 0, .slice none 0 0, .slice none 0 0, .int .i64 0, .bool false] (.int .i64 0) from by
  refine ⟨hx0, ?_, ?_, ?_⟩
  ·rw [← hW0]
   have := Blk.new ((w.alloc (.cells #[.slice az p.zones.length cz, .slice ad p.doors.length cd, .slice ap p.people.length cp, .slice ak p.keys.length ck, .slice aq p.squibs.length cq, .int .i64 p.panel, .int .i64 p.wait] 28)).alloc (.cells #[.int .i64 s.now, .slice A1 s.zones.length c1, .slice A2 s.holder.length c2, .slice A3 s.squibs.length c3, .int .i64 s.siren, .bool s.storm] 38)) 48 #[.int .i64 t, .int .i64 k, .int .i64 who, .int .i64 wt, .int .i64 wh]
   rw [World.size_alloc, World.size_alloc] at this
   exact (this.ext ((Ext.refl _).alloc _)).ext ((Ext.refl _).alloc _)
  ·rw [← hW0]
   have := Blk.new (((w.alloc (.cells #[.slice az p.zones.length cz, .slice ad p.doors.length cd, .slice ap p.people.length cp, .slice ak p.keys.length ck, .slice aq p.squibs.length cq, .int .i64 p.panel, .int .i64 p.wait] 28)).alloc (.cells #[.int .i64 s.now, .slice A1 s.zones.length c1, .slice A2 s.holder.length c2, .slice A3 s.squibs.length c3, .int .i64 s.siren, .bool s.storm] 38)).alloc (.cells #[.int .i64 t, .int .i64 k, .int .i64 who, .int .i64 wt, .int .i64 wh] 48)) 38 #[.int .i64 0, .slice none 0 0, .slice none 0 0, .slice none 0 0, .int .i64 0, .bool false]
   rw [World.size_alloc, World.size_alloc, World.size_alloc] at this
   exact this.ext ((Ext.refl _).alloc _)
  ·rw [← hW0]
   have := Blk.new ((((w.alloc (.cells #[.slice az p.zones.length cz, .slice ad p.doors.length cd, .slice ap p.people.length cp, .slice ak p.keys.length ck, .slice aq p.squibs.length cq, .int .i64 p.panel, .int .i64 p.wait] 28)).alloc (.cells #[.int .i64 s.now, .slice A1 s.zones.length c1, .slice A2 s.holder.length c2, .slice A3 s.squibs.length c3, .int .i64 s.siren, .bool s.storm] 38)).alloc (.cells #[.int .i64 t, .int .i64 k, .int .i64 who, .int .i64 wt, .int .i64 wh] 48)).alloc (.cells #[.int .i64 0, .slice none 0 0, .slice none 0 0, .slice none 0 0, .int .i64 0, .bool false] 38)) 29 #[.int .i64 0]
   rw [World.size_alloc, World.size_alloc, World.size_alloc, World.size_alloc] at this
   exact this)
 have HST := hide (stage_any ⟨az, cz, ad, cd, ap, cp, ak, ck, aq, cq⟩ p s A1 A2 A3 c1 c2 c3 W0 (hX.ext hx0) (h1.ext hx0) (h2.ext hx0) (h3.ext hx0) b1 b2 b3)
 have HW0L := hide hx0.size
 have HM := hide hM
 have HW0 := hide hW0
 clear hX h1 h2 h3 b1 b2 b3 hM hx0 hW0
 unfold PadX.cells at HST
 dsimp only at HST
 go_enter_defers Try.func67, Try.ntmps67
 go_wp2_with fail
 rw [HW0.out]
 refine Calls.mono HST.out ?_
 rintro e w1 ⟨B, ⟨YP, sz, zc, sh, hc, sq, qc⟩, rfl, hS⟩
 have HS := hide hS
 have HD0 := hide HD.out
 replace HD := hide (HD.out.ext' hS.ext)
 clear hS HST
 go_wp2_with fail
 have k7 := HS.out.at.k7
 have d0 := cell_heap HD.out.act 0 _ rfl
 by_cases n0 : s.now ≤ t
 ·have hd : decide (s.now ≤ t) = true := decide_eq_true n0
  have HE := hide (show doneE p s ⟨t, k, who, wt, wh⟩ = kindE p s ⟨t, k, who, wt, wh⟩ by unfold doneE; rw [if_neg (by dsimp only; omega)])
  clear n0
  apply wp_region_t 8 [13, 14, 15, 16, 17, 18, 19, 20]
   [.is _, .is _, .is _, .is _, .is _, .is _, .is _, .is _]
   [(5, _), (8, _)]
  ·kernel_rfl
  ·decide
  ·decide
  ·rfl
  ·kernel_rfl
  ·decide +kernel
  iterate 6 (· kernel_rfl)
  ·rfl
  ·exact keepsIs _ rfl
  ·refine ⟨?_, ?_, trivial⟩ <;> (simp; rfl)
  ·repeat
    refine ⟨?_, ?_⟩
    ·intro F W1 hF hd hR
     simp [fixedAt] at hF
     obtain ⟨t5, t8⟩ := hF
     simp [Region.binds, Ent.holds] at hd
     refine ⟨fun _ K hK => ?_, by intro g b h hn; first | (cases h; done) | (cases h; exact absurd (by simp [hd]) hn)⟩
     simp only [Ent.holds, List.getD_cons_zero, List.getD_cons_succ] at hK
     have k7' := hR.cell k7
     have d0' := hR.cell d0
     go_simp
     first
      | exact hK _ _ rfl (Ext.refl _)
   exact trivial
  intro X W1 hx hR
  simp only [toldX] at hx
  simp only [fillX, List.setIfInBounds_toArray, List.set_cons_succ, List.set_cons_zero]
  clear k7 d0 hd
  replace HD := hide (HD.out.ext' hR)
  replace HS := hide (HS.out.ext' hR)
  go_wp2_with (go_at_call 88; refine (demand_ok _ _).mono ?_; rintro e w' ⟨rfl, rfl⟩)
  have d0 := cell_heap HD.out.act 0 _ rfl
  have d1 := cell_heap HD.out.act 1 _ rfl
  have d2 := cell_heap HD.out.act 2 _ rfl
  have d3 := cell_heap HD.out.act 3 _ rfl
  have d4 := cell_heap HD.out.act 4 _ rfl
  apply wp_region_t 6 [22, 23, 24, 25, 26, 27]
   [.is _, .is _, .is _, .is _, .is _, .is _]
   [(5, _), (8, _)]
  ·kernel_rfl
  ·decide
  ·decide
  ·rfl
  ·kernel_rfl
  ·decide +kernel
  iterate 6 (· kernel_rfl)
  ·rfl
  ·exact keepsIs _ rfl
  ·refine ⟨?_, ?_, trivial⟩ <;> (simp; rfl)
  ·repeat
    refine ⟨?_, ?_⟩
    ·intro F W3 hF hd hR
     simp [fixedAt] at hF
     obtain ⟨t5, t8⟩ := hF
     simp [Region.binds, Ent.holds] at hd
     refine ⟨fun _ K hK => ?_, by intro g b h hn; first | (cases h; done) | (cases h; exact absurd (by simp [hd]) hn)⟩
     simp only [Ent.holds, List.getD_cons_zero, List.getD_cons_succ] at hK
     have d0' := hR.cell d0
     have d1' := hR.cell d1
     have d2' := hR.cell d2
     have d3' := hR.cell d3
     have d4' := hR.cell d4
     go_simp
     first
      | exact hK _ _ rfl (Ext.refl _)
      | (go_at_call 89
         with_reducible refine (does_any _).mono ?_
         rintro e w' ⟨rfl, hx⟩
         exact hK _ _ rfl hx)
   exact trivial
  intro X W3 hx hR
  simp only [toldX] at hx
  simp only [fillX, List.setIfInBounds_toArray, List.set_cons_succ, List.set_cons_zero]
  replace HD := hide (HD.out.ext' hR)
  replace HS := hide (HS.out.ext' hR)
  clear d0 d1 d2 d3 d4 hR
  go_wp2_with fail
  refine Calls.mono (HM.out B ⟨YP, sz, zc, sh, hc, sq, qc⟩ W0 W3 HS.out) ?_
  rintro e w4 hq
  rcases hq with ⟨hE, rfl, hS⟩ | ⟨hE, rfl, hx⟩
  ·replace HD := hide (HD0.out.ext' hS.ext)
   have HK := hide (show doneE p s ⟨t, k, who, wt, wh⟩ = 0 by rw [HE.out]; exact hE)
   have HSS := hide (show doneS p s ⟨t, k, who, wt, wh⟩ = nowS (kindS s ⟨t, k, who, wt, wh⟩) t by unfold doneS; rw [if_pos HK.out])
   obtain ⟨s2, hs2⟩ : ∃ x, kindS s ⟨t, k, who, wt, wh⟩ = x := ⟨_, rfl⟩
   rw [hs2] at hS HSS
   replace HS := hide hS
   clear hS hs2 hE
   have k7 := HS.out.at.k7
   have f7 := HS.out.fz 7
   have d0 := cell_heap HD.out.act 0 _ rfl
   go_upto_region 6 with (fail)
   obtain ⟨V5, hV5⟩ : ∃ V, w4.setCell ⟨B, 7, none⟩ (.int .i64 t) = V := ⟨_, rfl⟩
   rw [hV5]
   replace HS := hide (show SceneS W0 B ⟨YP, sz, zc, sh, hc, sq, qc⟩ p (nowS s2 t) V5 from by rw [← hV5]; exact HS.out.setNow t)
   replace HD := hide (HD0.out.ext' HS.out.ext)
   clear k7 f7 d0 hV5
   have k7 := HS.out.at.k7
   have k8 := HS.out.at.k8
   have k9 := HS.out.at.k9
   have k10 := HS.out.at.k10
   have k11 := HS.out.at.k11
   have k12 := HS.out.at.k12
   try dsimp only at k7 k8 k9 k10 k11 k12
   simp only [nowS] at k7 k8 k9 k10 k11 k12
   have b0 := cell_heap HD.out.aft 0 _ rfl
   have g0 := HD.out.aft.frozen 0
   have b1 := cell_heap HD.out.aft 1 _ rfl
   have g1 := HD.out.aft.frozen 1
   have b2 := cell_heap HD.out.aft 2 _ rfl
   have g2 := HD.out.aft.frozen 2
   have b3 := cell_heap HD.out.aft 3 _ rfl
   have g3 := HD.out.aft.frozen 3
   have b4 := cell_heap HD.out.aft 4 _ rfl
   have g4 := HD.out.aft.frozen 4
   have b5 := cell_heap HD.out.aft 5 _ rfl
   have g5 := HD.out.aft.frozen 5
   have c0 := cell_heap HD.out.why 0 _ rfl
   have gc := HD.out.why.frozen 0
   go_wp2_with fail
   obtain ⟨V6, hV6⟩ : ∃ V, ((((((V5.setCell ⟨w.heap.size + 1 + 1 + 1, 0, none⟩ (.int .i64 t)).setCell ⟨w.heap.size + 1 + 1 + 1, 1, none⟩ (.slice sz s2.zones.length zc)).setCell ⟨w.heap.size + 1 + 1 + 1, 2, none⟩ (.slice sh s2.holder.length hc)).setCell ⟨w.heap.size + 1 + 1 + 1, 3, none⟩ (.slice sq s2.squibs.length qc)).setCell ⟨w.heap.size + 1 + 1 + 1, 4, none⟩ (.int .i64 s2.siren)).setCell ⟨w.heap.size + 1 + 1 + 1, 5, none⟩ (.bool s2.storm)).setCell ⟨w.heap.size + 1 + 1 + 1 + 1, 0, none⟩ (.int .i64 0) = V := ⟨_, rfl⟩
   rw [hV6]
   have HB6 := hide (show Blk V6 (w.heap.size + 1 + 1 + 1) 38 #[.int .i64 t, .slice sz s2.zones.length zc, .slice sh s2.holder.length hc, .slice sq s2.squibs.length qc, .int .i64 s2.siren, .bool s2.storm] from by
    rw [← hV6]; exact ((((((HD.out.aft.set 0 _).set 1 _).set 2 _).set 3 _).set 4 _).set 5 _).other (by omega) 0 _)
   have HW6 := hide (show Blk V6 (w.heap.size + 1 + 1 + 1 + 1) 29 #[.int .i64 0] from by
    rw [← hV6]; exact ((((((HD.out.why.other (by omega) 0 _).other (by omega) 1 _).other (by omega) 2 _).other (by omega) 3 _).other (by omega) 4 _).other (by omega) 5 _).set 0 _)
   have HSV := hide (show StateO V6 w.heap.size (.agg #[.int .i64 t, .slice sz s2.zones.length zc, .slice sh s2.holder.length hc, .slice sq s2.squibs.length qc, .int .i64 s2.siren, .bool s2.storm]) (nowS s2 t) from by
    have hb1 : w.heap.size + 1 + 1 + 1 < W0.heap.size := HD0.out.aft.lt
    have hb2 : w.heap.size + 1 + 1 + 1 + 1 < W0.heap.size := HD0.out.why.lt
    refine ⟨_, _, _, _, _, _, rfl, ?_, ?_, ?_⟩
    ·rw [← hV6]; exact (own_sets hb1 hb2 HS.out.z _ _ _ _ _ _ _).mono HW0L.out
    ·rw [← hV6]; exact (own_sets hb1 hb2 HS.out.h _ _ _ _ _ _ _).mono HW0L.out
    ·rw [← hV6]; exact (own_sets hb1 hb2 HS.out.q _ _ _ _ _ _ _).mono HW0L.out)
   have HX6 := hide (show Ext w V6 from by
    rw [← hV6]
    have h1 : w.heap.size ≤ w.heap.size + 1 + 1 + 1 := by omega
    have h2 : w.heap.size ≤ w.heap.size + 1 + 1 + 1 + 1 := by omega
    exact (((((((HD.out.ext.setCell h1 _).setCell h1 _).setCell h1 _).setCell h1 _).setCell h1 _).setCell h1 _).setCell h2 _))
   clear hV6 k7 k8 k9 k10 k11 k12 b0 g0 b1 g1 b2 g2 b3 g3 b4 g4 b5 g5 c0 gc
   refine leaves_cons (f := 87) (args := #[.pointer (some ⟨w.heap.size + 1 + 1 + 1, 0, none⟩), .pointer (some ⟨w.heap.size + 1 + 1 + 1 + 1, 0, none⟩)]) (by simp) (by simp [go_sem]) ?_
   refine (do1_idle (w.heap.size + 1 + 1 + 1) (w.heap.size + 1 + 1 + 1 + 1) _).mono ?_
   rintro e u' w'' ⟨rfl, rfl, rfl⟩
   have b0 := cell_heap HB6.out 0 _ rfl
   have b1 := cell_heap HB6.out 1 _ rfl
   have b2 := cell_heap HB6.out 2 _ rfl
   have b3 := cell_heap HB6.out 3 _ rfl
   have b4 := cell_heap HB6.out 4 _ rfl
   have b5 := cell_heap HB6.out 5 _ rfl
   have c0 := cell_heap HW6.out 0 _ rfl
   refine ⟨.tuple #[.agg #[.int .i64 t, .slice sz s2.zones.length zc, .slice sh s2.holder.length hc, .slice sq s2.squibs.length qc, .int .i64 s2.siren, .bool s2.storm], .int .i64 0], by simp [results, Try.results67, go_sem, b0, b1, b2, b3, b4, b5, c0], ?_⟩
   exact ⟨_, by rw [HK.out], by rw [HSS.out]; exact HSV.out, HX6.out⟩
  ·replace HD := hide (HD0.out.ext' hx)
   replace HE := hide (show doneE p s ⟨t, k, who, wt, wh⟩ = kindE p s ⟨t, k, who, wt, wh⟩ from HE.out)
   have HKE := hide hE
   clear hE hx
   go_wp2_with fail
   refine leaves_cons (f := 87) (args := #[.pointer (some ⟨w.heap.size + 1 + 1 + 1, 0, none⟩), .pointer (some ⟨w.heap.size + 1 + 1 + 1 + 1, 0, none⟩)]) (by simp) (by simp [go_sem]) ?_
   refine (do1_caught (w.heap.size + 1 + 1 + 1) (w.heap.size + 1 + 1 + 1 + 1) (kindE p s ⟨t, k, who, wt, wh⟩) [] _ _ HD.out.aft HD.out.why (by omega)).mono ?_
   rintro e u' w'' ⟨rfl, rfl, hb, hc, hx⟩
   have HX := hide (hx w (by omega) (by omega) HD.out.ext)
   unfold zeroC at hb
   have b0 := cell_heap hb 0 _ rfl
   have b1 := cell_heap hb 1 _ rfl
   have b2 := cell_heap hb 2 _ rfl
   have b3 := cell_heap hb 3 _ rfl
   have b4 := cell_heap hb 4 _ rfl
   have b5 := cell_heap hb 5 _ rfl
   have c0 := Boxed.cell hc
   clear hx hb hc
   refine ⟨.tuple #[.agg #[.int .i64 0, .slice none 0 0, .slice none 0 0, .slice none 0 0, .int .i64 0, .bool false], .int .i64 (kindE p s ⟨t, k, who, wt, wh⟩)], by simp [results, Try.results67, go_sem, b0, b1, b2, b3, b4, b5, c0], ?_⟩
   exact doQ_no HE.out HKE.out HX.out
 ·have hd : decide (s.now ≤ t) = false := decide_eq_false n0
  have HE := hide (show doneE p s ⟨t, k, who, wt, wh⟩ = 170 by unfold doneE; rw [if_pos (by dsimp only; omega)])
  clear n0
  apply wp_region_t 8 [13, 14, 15, 16, 17, 18, 19, 20]
   [.is _, .is _, .is _, .is _, .is _, .is _, .is _, .is _]
   [(5, _), (8, _)]
  ·kernel_rfl
  ·decide
  ·decide
  ·rfl
  ·kernel_rfl
  ·decide +kernel
  iterate 6 (· kernel_rfl)
  ·rfl
  ·exact keepsIs _ rfl
  ·refine ⟨?_, ?_, trivial⟩ <;> (simp; rfl)
  ·repeat
    refine ⟨?_, ?_⟩
    ·intro F W1 hF hd hR
     simp [fixedAt] at hF
     obtain ⟨t5, t8⟩ := hF
     simp [Region.binds, Ent.holds] at hd
     refine ⟨fun _ K hK => ?_, by intro g b h hn; first | (cases h; done) | (cases h; exact absurd (by simp [hd]) hn)⟩
     simp only [Ent.holds, List.getD_cons_zero, List.getD_cons_succ] at hK
     have k7' := hR.cell k7
     have d0' := hR.cell d0
     go_simp
     first
      | exact hK _ _ rfl (Ext.refl _)
   exact trivial
  intro X W1 hx hR
  simp only [toldX] at hx
  simp only [fillX, List.setIfInBounds_toArray, List.set_cons_succ, List.set_cons_zero]
  clear k7 d0 hd
  replace HD := hide (HD.out.ext' hR)
  clear hR
  go_wp2_with (go_at_call 88; refine (demand_no _ _).mono ?_; rintro e w' ⟨rfl, rfl⟩)
  refine leaves_cons (f := 87) (args := #[.pointer (some ⟨w.heap.size + 1 + 1 + 1, 0, none⟩), .pointer (some ⟨w.heap.size + 1 + 1 + 1 + 1, 0, none⟩)]) (by simp) (by simp [go_sem]) ?_
  refine (do1_caught (w.heap.size + 1 + 1 + 1) (w.heap.size + 1 + 1 + 1 + 1) 170 [] _ _ HD.out.aft HD.out.why (by omega)).mono ?_
  rintro e u' w'' ⟨rfl, rfl, hb, hc, hx⟩
  have HX := hide (hx w (by omega) (by omega) HD.out.ext)
  unfold zeroC at hb
  have b0 := cell_heap hb 0 _ rfl
  have b1 := cell_heap hb 1 _ rfl
  have b2 := cell_heap hb 2 _ rfl
  have b3 := cell_heap hb 3 _ rfl
  have b4 := cell_heap hb 4 _ rfl
  have b5 := cell_heap hb 5 _ rfl
  have c0 := Boxed.cell hc
  clear hx hb hc
  refine ⟨.tuple #[.agg #[.int .i64 0, .slice none 0 0, .slice none 0 0, .slice none 0 0, .int .i64 0, .bool false], .int .i64 170], by simp [results, Try.results67, go_sem, b0, b1, b2, b3, b4, b5, c0], ?_⟩
  exact doQ_no HE.out (by decide) HX.out
end Go.Proofs.Ythcnganbnbhhoaa
