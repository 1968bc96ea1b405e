/- The walk of Do. -/
import Derived.Test.YthcnganbnbhhoaaDoB
import Derived.Test.YthcnganbnbhhoaaCs
import Derived.Test.YthcnganbnbhhoaaAct
import Derived.Test.YthcnganbnbhhoaaSafe
namespace Go.Proofs.Ythcnganbnbhhoaa
open Go.RowKit Go.Shelf
/-- What Do hands back. -/
def DoAQ (w : World) (p : Pad) (s : State) (a : PAct) (e : Ending) (w' : World) : Prop := ∃ v, e = .returned (.tuple #[v, .int .i64 (doE p s a)]) ∧ StateO w' w.heap.size v (doS p s a) ∧ Ext w w'
theorem doA_no {w w' : World} {p : Pad} {s : State} {a : PAct} {E : Int} (hE : doE p s a = E) (h0 : E ≠ 0) (hx : Ext w w') : DoAQ w p s a (.returned (.tuple #[.agg #[.int .i64 0, .slice none 0 0, .slice none 0 0, .slice none 0 0, .int .i64 0, .bool false], .int .i64 E])) w' :=
 ⟨_, by rw [hE], by unfold doS; rw [if_neg (by rw [hE]; exact h0)]; exact stateO_zero w' _, hx⟩
theorem doA_yes {w w' : World} {p : Pad} {s : State} {a : PAct} {v : Value} (h1 : stateE p s = 0) (h2 : actE p a = 0) (hv : StateO w' w.heap.size v (doneS p s a)) (hx : Ext w w') : DoAQ w p s a (.returned (.tuple #[v, .int .i64 (doneE p s a)])) w' := by
 have he : doE p s a = doneE p s a := by unfold doE; rw [if_neg (fun h => h h1), if_neg (fun h => h h2)]
 refine ⟨_, by rw [he], ?_, hx⟩
 unfold doS
 rw [he]
 by_cases h0 : doneE p s a = 0
 ·rw [if_pos h0]; exact hv
 ·rw [if_neg h0]
  unfold doneS at hv
  rwa [if_neg h0] at hv
set_option maxRecDepth 100000 in
set_option maxHeartbeats 4000000 in
/-- Do -/
theorem doA_any (v sv : Value) (p : Pad) (s : State) (a : PAct) (w : World) (hv : PadV w v p) (hs : StateV w sv s) (hf : s.Fits) :
 Calls Try.prog 27 #[v, sv, .agg #[.int .i64 a.at_, .int .i64 a.kind, .int .i64 a.who, .int .i64 a.what, .int .i64 a.with_]] w (DoAQ w p s a) := by
 have HCS := hide (fun V (hx : Ext w V) => checkState_any v sv p s V (hv.ext hx) (hs.ext hx) hf)
 have HDO := hide (fun V (hx : Ext w V) hok hst ha => do_any v sv p s a V (hv.ext hx) (hs.ext hx) hok hst ha)
 obtain ⟨X, hvX, hX⟩ := padV_iff.1 hv
 have HACT := hide (fun V (hx : Ext w V) => act_any X p a V (hX.ext hx))
 subst hvX
 obtain ⟨az, cz, ad, cd, ap, cp, ak, ck, aq, cq⟩ := X
 obtain ⟨A1, c1, A2, c2, A3, c3, rfl, h1, h2, h3⟩ := stateV_iff.1 hs
 obtain ⟨t, k, who, wt, wh⟩ := a
 unfold PadX.cells at HCS HDO ⊢
 dsimp only at HCS HDO HACT ⊢
 obtain ⟨E, hE⟩ : ∃ E, stateE p s = E := ⟨_, rfl⟩
 have HE := hide hE
 rw [hE] at HCS
 obtain ⟨F, hF⟩ : ∃ E, actE p ⟨t, k, who, wt, wh⟩ = E := ⟨_, rfl⟩
 have HF := hide hF
 rw [hF] at HACT
 clear hv hs hf hX h1 h2 h3 hE hF
 go_enter Try.func27, Try.ntmps27
 go_wp2_with fail
 obtain ⟨W1, hW1⟩ : ∃ V, (((w.alloc (.cells #[.slice az p.zones.length cz, .slice ad p.doors.length cd, .slice ap p.people.length cp, .slice ak p.keys.length ck, .slice aq p.squibs.length cq, .int .i64 p.panel, .int .i64 p.wait] 28)).alloc (.cells #[.int .i64 s.now, .slice A1 s.zones.length c1, .slice A2 s.holder.length c2, .slice A3 s.squibs.length c3, .int .i64 s.siren, .bool s.storm] 38)).alloc (.cells #[.int .i64 t, .int .i64 k, .int .i64 who, .int .i64 wt, .int .i64 wh] 48)).alloc (.cells #[.int .i64 0, .slice none 0 0, .slice none 0 0, .slice none 0 0, .int .i64 0, .bool false] 38) = V := ⟨_, rfl⟩
 have HX := hide (show Ext w W1 by rw [← hW1]; exact ((((Ext.refl _).alloc _).alloc _).alloc _).alloc _)
 have HP := hide (show Blk W1 w.heap.size 28 #[.slice az p.zones.length cz, .slice ad p.doors.length cd, .slice ap p.people.length cp, .slice ak p.keys.length ck, .slice aq p.squibs.length cq, .int .i64 p.panel, .int .i64 p.wait] by rw [← hW1]; exact (Blk.new w _ _).ext ((((Ext.refl _).alloc _).alloc _).alloc _))
 have HS := hide (show Blk W1 (w.heap.size + 1) 38 #[.int .i64 s.now, .slice A1 s.zones.length c1, .slice A2 s.holder.length c2, .slice A3 s.squibs.length c3, .int .i64 s.siren, .bool s.storm] by
  rw [← hW1]
  have := Blk.new (w.alloc (.cells #[.slice az p.zones.length cz, .slice ad p.doors.length cd, .slice ap p.people.length cp, .slice ak p.keys.length ck, .slice aq p.squibs.length cq, .int .i64 p.panel, .int .i64 p.wait] 28)) 38 #[.int .i64 s.now, .slice A1 s.zones.length c1, .slice A2 s.holder.length c2, .slice A3 s.squibs.length c3, .int .i64 s.siren, .bool s.storm]
  rw [World.size_alloc] at this
  exact this.ext (((Ext.refl _).alloc _).alloc _))
 have HA := hide (show Blk W1 (w.heap.size + 1 + 1) 48 #[.int .i64 t, .int .i64 k, .int .i64 who, .int .i64 wt, .int .i64 wh] by
  rw [← hW1]
  have := Blk.new ((w.alloc (.cells #[.slice az p.zones.length cz, .slice ad p.doors.length cd, .slice ap p.people.length cp, .slice ak p.keys.length ck, .slice aq p.squibs.length cq, .int .i64 p.panel, .int .i64 p.wait] 28)).alloc (.cells #[.int .i64 s.now, .slice A1 s.zones.length c1, .slice A2 s.holder.length c2, .slice A3 s.squibs.length c3, .int .i64 s.siren, .bool s.storm] 38)) 48 #[.int .i64 t, .int .i64 k, .int .i64 who, .int .i64 wt, .int .i64 wh]
  rw [World.size_alloc, World.size_alloc] at this
  exact this.ext ((Ext.refl _).alloc _))
 have HZ := hide (show Blk W1 (w.heap.size + 1 + 1 + 1) 38 #[.int .i64 0, .slice none 0 0, .slice none 0 0, .slice none 0 0, .int .i64 0, .bool false] by
  rw [← hW1]
  have := Blk.new (((w.alloc (.cells #[.slice az p.zones.length cz, .slice ad p.doors.length cd, .slice ap p.people.length cp, .slice ak p.keys.length ck, .slice aq p.squibs.length cq, .int .i64 p.panel, .int .i64 p.wait] 28)).alloc (.cells #[.int .i64 s.now, .slice A1 s.zones.length c1, .slice A2 s.holder.length c2, .slice A3 s.squibs.length c3, .int .i64 s.siren, .bool s.storm] 38)).alloc (.cells #[.int .i64 t, .int .i64 k, .int .i64 who, .int .i64 wt, .int .i64 wh] 48)) 38 #[.int .i64 0, .slice none 0 0, .slice none 0 0, .slice none 0 0, .int .i64 0, .bool false]
  rw [World.size_alloc, World.size_alloc, World.size_alloc] at this
  exact this)
 rw [hW1]
 clear hW1
 refine Calls.mono (HCS.out W1 HX.out) ?_
 rintro e w2 ⟨rfl, hx⟩
 replace HX := hide (HX.out.trans hx)
 replace HP := hide (HP.out.ext hx)
 replace HS := hide (HS.out.ext hx)
 replace HA := hide (HA.out.ext hx)
 replace HZ := hide (HZ.out.ext hx)
 clear hx HCS
 have p0 := cell_heap HP.out 0 _ rfl
 have p1 := cell_heap HP.out 1 _ rfl
 have p2 := cell_heap HP.out 2 _ rfl
 have p3 := cell_heap HP.out 3 _ rfl
 have p4 := cell_heap HP.out 4 _ rfl
 have p5 := cell_heap HP.out 5 _ rfl
 have p6 := cell_heap HP.out 6 _ rfl
 have s0 := cell_heap HS.out 0 _ rfl
 have s1 := cell_heap HS.out 1 _ rfl
 have s2 := cell_heap HS.out 2 _ rfl
 have s3 := cell_heap HS.out 3 _ rfl
 have s4 := cell_heap HS.out 4 _ rfl
 have s5 := cell_heap HS.out 5 _ rfl
 have a0 := cell_heap HA.out 0 _ rfl
 have a1 := cell_heap HA.out 1 _ rfl
 have a2 := cell_heap HA.out 2 _ rfl
 have a3 := cell_heap HA.out 3 _ rfl
 have a4 := cell_heap HA.out 4 _ rfl
 have z0 := cell_heap HZ.out 0 _ rfl
 have g0 := HZ.out.frozen 0
 have z1 := cell_heap HZ.out 1 _ rfl
 have g1 := HZ.out.frozen 1
 have z2 := cell_heap HZ.out 2 _ rfl
 have g2 := HZ.out.frozen 2
 have z3 := cell_heap HZ.out 3 _ rfl
 have g3 := HZ.out.frozen 3
 have z4 := cell_heap HZ.out 4 _ rfl
 have g4 := HZ.out.frozen 4
 have z5 := cell_heap HZ.out 5 _ rfl
 have g5 := HZ.out.frozen 5
 by_cases e0 : E = 0
 ·subst e0
  go_wp2_with fail
  refine Calls.mono (HACT.out w2 HX.out) ?_
  rintro e w3 ⟨rfl, hx⟩
  replace HX := hide (HX.out.trans hx)
  replace HP := hide (HP.out.ext hx)
  replace HS := hide (HS.out.ext hx)
  replace HA := hide (HA.out.ext hx)
  replace HZ := hide (HZ.out.ext hx)
  clear hx HACT p0 p1 p2 p3 p4 p5 p6 s0 s1 s2 s3 s4 s5 a0 a1 a2 a3 a4 z0 g0 z1 g1 z2 g2 z3 g3 z4 g4 z5 g5
  have p0 := cell_heap HP.out 0 _ rfl
  have p1 := cell_heap HP.out 1 _ rfl
  have p2 := cell_heap HP.out 2 _ rfl
  have p3 := cell_heap HP.out 3 _ rfl
  have p4 := cell_heap HP.out 4 _ rfl
  have p5 := cell_heap HP.out 5 _ rfl
  have p6 := cell_heap HP.out 6 _ rfl
  have s0 := cell_heap HS.out 0 _ rfl
  have s1 := cell_heap HS.out 1 _ rfl
  have s2 := cell_heap HS.out 2 _ rfl
  have s3 := cell_heap HS.out 3 _ rfl
  have s4 := cell_heap HS.out 4 _ rfl
  have s5 := cell_heap HS.out 5 _ rfl
  have a0 := cell_heap HA.out 0 _ rfl
  have a1 := cell_heap HA.out 1 _ rfl
  have a2 := cell_heap HA.out 2 _ rfl
  have a3 := cell_heap HA.out 3 _ rfl
  have a4 := cell_heap HA.out 4 _ rfl
  have z0 := cell_heap HZ.out 0 _ rfl
  have g0 := HZ.out.frozen 0
  have z1 := cell_heap HZ.out 1 _ rfl
  have g1 := HZ.out.frozen 1
  have z2 := cell_heap HZ.out 2 _ rfl
  have g2 := HZ.out.frozen 2
  have z3 := cell_heap HZ.out 3 _ rfl
  have g3 := HZ.out.frozen 3
  have z4 := cell_heap HZ.out 4 _ rfl
  have g4 := HZ.out.frozen 4
  have z5 := cell_heap HZ.out 5 _ rfl
  have g5 := HZ.out.frozen 5
  by_cases f0 : F = 0
  ·subst f0
   obtain ⟨hok, hst, hso⟩ := stateE_ok HE.out
   have HD := hide (HDO.out w3 HX.out hok hst (actOk_of HF.out))
   clear hok hst hso HDO
   go_wp2_with fail
   refine Calls.mono HD.out ?_
   rintro e w4 ⟨dv, rfl, hdv, hx⟩
   have HDV := hide hdv
   obtain ⟨sN, hsN⟩ : ∃ x, doneS p s ⟨t, k, who, wt, wh⟩ = x := ⟨_, rfl⟩
   have HS2 := hide hsN
   have HLT := hide HZ.out.lt
   rw [hsN] at hdv HDV
   obtain ⟨B1, d1, B2, d2, B3, d3, rfl, _, _, _⟩ := hdv
   replace HX := hide (HX.out.trans hx)
   replace HZ := hide (HZ.out.ext hx)
   clear hx HD p0 p1 p2 p3 p4 p5 p6 s0 s1 s2 s3 s4 s5 a0 a1 a2 a3 a4 z0 g0 z1 g1 z2 g2 z3 g3 z4 g4 z5 g5 hsN
   have z0 := cell_heap HZ.out 0 _ rfl
   have g0 := HZ.out.frozen 0
   have z1 := cell_heap HZ.out 1 _ rfl
   have g1 := HZ.out.frozen 1
   have z2 := cell_heap HZ.out 2 _ rfl
   have g2 := HZ.out.frozen 2
   have z3 := cell_heap HZ.out 3 _ rfl
   have g3 := HZ.out.frozen 3
   have z4 := cell_heap HZ.out 4 _ rfl
   have g4 := HZ.out.frozen 4
   have z5 := cell_heap HZ.out 5 _ rfl
   have g5 := HZ.out.frozen 5
   go_wp2_with fail
   obtain ⟨V6, hV6⟩ : ∃ V, ((((((w4.setCell ⟨w.heap.size + 1 + 1 + 1, 0, none⟩ (.int .i64 sN.now)).setCell ⟨w.heap.size + 1 + 1 + 1, 1, none⟩ (.slice B1 sN.zones.length d1)).setCell ⟨w.heap.size + 1 + 1 + 1, 2, none⟩ (.slice B2 sN.holder.length d2)).setCell ⟨w.heap.size + 1 + 1 + 1, 3, none⟩ (.slice B3 sN.squibs.length d3)).setCell ⟨w.heap.size + 1 + 1 + 1, 4, none⟩ (.int .i64 sN.siren)).setCell ⟨w.heap.size + 1 + 1 + 1, 5, none⟩ (.bool sN.storm)) = V := ⟨_, rfl⟩
   rw [hV6]
   have HB6 := hide (show Blk V6 (w.heap.size + 1 + 1 + 1) 38 #[.int .i64 sN.now, .slice B1 sN.zones.length d1, .slice B2 sN.holder.length d2, .slice B3 sN.squibs.length d3, .int .i64 sN.siren, .bool sN.storm] from by rw [← hV6]; exact (((((HZ.out.set 0 _).set 1 _).set 2 _).set 3 _).set 4 _).set 5 _)
   have HX6 := hide (show Ext w V6 from by
    rw [← hV6]
    have h1 : w.heap.size ≤ w.heap.size + 1 + 1 + 1 := by omega
    exact (((((HX.out.setCell h1 _).setCell h1 _).setCell h1 _).setCell h1 _).setCell h1 _).setCell h1 _)
   have HSO := hide (show StateO V6 w.heap.size (.agg #[.int .i64 sN.now, .slice B1 sN.zones.length d1, .slice B2 sN.holder.length d2, .slice B3 sN.squibs.length d3, .int .i64 sN.siren, .bool sN.storm]) sN from by
    rw [← hV6]
    exact (((((((HDV.out.set HLT.out 0 _).set HLT.out 1 _).set HLT.out 2 _).set HLT.out 3 _).set HLT.out 4 _).set HLT.out 5 _).mono (by have := HLT.out; omega)))
   clear hV6 z0 g0 z1 g1 z2 g2 z3 g3 z4 g4 z5 g5
   have b0 := cell_heap HB6.out 0 _ rfl
   have b1 := cell_heap HB6.out 1 _ rfl
   have b2 := cell_heap HB6.out 2 _ rfl
   have b3 := cell_heap HB6.out 3 _ rfl
   have b4 := cell_heap HB6.out 4 _ rfl
   have b5 := cell_heap HB6.out 5 _ rfl
   refine bodyPost_ret (v := .tuple #[.agg #[.int .i64 sN.now, .slice B1 sN.zones.length d1, .slice B2 sN.holder.length d2, .slice B3 sN.squibs.length d3, .int .i64 sN.siren, .bool sN.storm], .int .i64 (doneE p s ⟨t, k, who, wt, wh⟩)]) (by simp [results, Try.results27, go_sem, b0, b1, b2, b3, b4, b5]) rfl ?_
   exact doA_yes HE.out HF.out (by rw [HS2.out]; exact HSO.out) HX6.out
  ·have hne : (F != 0) = true := by simpa using f0
   have hne2 : (F == 0) = false := by simpa using f0
   have HR := hide (show doE p s ⟨t, k, who, wt, wh⟩ = F by unfold doE; rw [if_neg (fun h => h HE.out), HF.out, if_pos f0])
   have HF0 := hide f0
   clear f0
   go_wp2_with fail
   obtain ⟨V6, hV6⟩ : ∃ V, ((((((w3.setCell ⟨w.heap.size + 1 + 1 + 1, 0, none⟩ (.int .i64 0)).setCell ⟨w.heap.size + 1 + 1 + 1, 1, none⟩ (.slice none 0 0)).setCell ⟨w.heap.size + 1 + 1 + 1, 2, none⟩ (.slice none 0 0)).setCell ⟨w.heap.size + 1 + 1 + 1, 3, none⟩ (.slice none 0 0)).setCell ⟨w.heap.size + 1 + 1 + 1, 4, none⟩ (.int .i64 0)).setCell ⟨w.heap.size + 1 + 1 + 1, 5, none⟩ (.bool false)) = V := ⟨_, rfl⟩
   rw [hV6]
   have HB6 := hide (show Blk V6 (w.heap.size + 1 + 1 + 1) 38 #[.int .i64 0, .slice none 0 0, .slice none 0 0, .slice none 0 0, .int .i64 0, .bool false] from by rw [← hV6]; exact (((((HZ.out.set 0 _).set 1 _).set 2 _).set 3 _).set 4 _).set 5 _)
   have HX6 := hide (show Ext w V6 from by
    rw [← hV6]
    have h1 : w.heap.size ≤ w.heap.size + 1 + 1 + 1 := by omega
    exact (((((HX.out.setCell h1 _).setCell h1 _).setCell h1 _).setCell h1 _).setCell h1 _).setCell h1 _)
   clear hV6 p0 p1 p2 p3 p4 p5 p6 s0 s1 s2 s3 s4 s5 a0 a1 a2 a3 a4 z0 g0 z1 g1 z2 g2 z3 g3 z4 g4 z5 g5
   have b0 := cell_heap HB6.out 0 _ rfl
   have b1 := cell_heap HB6.out 1 _ rfl
   have b2 := cell_heap HB6.out 2 _ rfl
   have b3 := cell_heap HB6.out 3 _ rfl
   have b4 := cell_heap HB6.out 4 _ rfl
   have b5 := cell_heap HB6.out 5 _ rfl
   refine bodyPost_ret (v := .tuple #[.agg #[.int .i64 0, .slice none 0 0, .slice none 0 0, .slice none 0 0, .int .i64 0, .bool false], .int .i64 F]) (by simp [results, Try.results27, go_sem, b0, b1, b2, b3, b4, b5]) rfl ?_
   exact doA_no HR.out HF0.out HX6.out
 ·have hne : (E != 0) = true := by simpa using e0
  have hne2 : (E == 0) = false := by simpa using e0
  have HR := hide (show doE p s ⟨t, k, who, wt, wh⟩ = E by unfold doE; rw [HE.out, if_pos e0])
  have HE0 := hide e0
  clear e0
  go_wp2_with fail
  obtain ⟨V6, hV6⟩ : ∃ V, ((((((w2.setCell ⟨w.heap.size + 1 + 1 + 1, 0, none⟩ (.int .i64 0)).setCell ⟨w.heap.size + 1 + 1 + 1, 1, none⟩ (.slice none 0 0)).setCell ⟨w.heap.size + 1 + 1 + 1, 2, none⟩ (.slice none 0 0)).setCell ⟨w.heap.size + 1 + 1 + 1, 3, none⟩ (.slice none 0 0)).setCell ⟨w.heap.size + 1 + 1 + 1, 4, none⟩ (.int .i64 0)).setCell ⟨w.heap.size + 1 + 1 + 1, 5, none⟩ (.bool false)) = V := ⟨_, rfl⟩
  rw [hV6]
  have HB6 := hide (show Blk V6 (w.heap.size + 1 + 1 + 1) 38 #[.int .i64 0, .slice none 0 0, .slice none 0 0, .slice none 0 0, .int .i64 0, .bool false] from by rw [← hV6]; exact (((((HZ.out.set 0 _).set 1 _).set 2 _).set 3 _).set 4 _).set 5 _)
  have HX6 := hide (show Ext w V6 from by
   rw [← hV6]
   have h1 : w.heap.size ≤ w.heap.size + 1 + 1 + 1 := by omega
   exact (((((HX.out.setCell h1 _).setCell h1 _).setCell h1 _).setCell h1 _).setCell h1 _).setCell h1 _)
  clear hV6 p0 p1 p2 p3 p4 p5 p6 s0 s1 s2 s3 s4 s5 a0 a1 a2 a3 a4 z0 g0 z1 g1 z2 g2 z3 g3 z4 g4 z5 g5
  have b0 := cell_heap HB6.out 0 _ rfl
  have b1 := cell_heap HB6.out 1 _ rfl
  have b2 := cell_heap HB6.out 2 _ rfl
  have b3 := cell_heap HB6.out 3 _ rfl
  have b4 := cell_heap HB6.out 4 _ rfl
  have b5 := cell_heap HB6.out 5 _ rfl
  refine bodyPost_ret (v := .tuple #[.agg #[.int .i64 0, .slice none 0 0, .slice none 0 0, .slice none 0 0, .int .i64 0, .bool false], .int .i64 E]) (by simp [results, Try.results27, go_sem, b0, b1, b2, b3, b4, b5]) rfl ?_
  exact doA_no HR.out HE0.out HX6.out
end Go.Proofs.Ythcnganbnbhhoaa
