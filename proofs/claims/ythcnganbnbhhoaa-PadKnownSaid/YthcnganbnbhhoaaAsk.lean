/- The walks of Owed and May. -/
import Derived.Test.YthcnganbnbhhoaaLawP
import Derived.Test.YthcnganbnbhhoaaSame
namespace Go.Proofs.Ythcnganbnbhhoaa
open Go.RowKit Go.Shelf
def owedE (p : Pad) (s : State) (q : Int) : Int := if stateE p s ≠ 0 then stateE p s else if outB q 0 ((p.squibs.length : Int) - 1) = true then 4 else 0
def OwedQ (w : World) (p : Pad) (s : State) (q : Int) (e : Ending) (w' : World) : Prop := ∃ v, e = .returned (.tuple #[v, .int .i64 (owedE p s q)]) ∧ IntsV w' .i64 v (if owedE p s q = 0 then owedL p s q else []) ∧ Ext w w'
theorem owed_no {w w' : World} {p : Pad} {s : State} {q E : Int} (hE : owedE p s q = E) (h0 : E ≠ 0) (hx : Ext w w') : OwedQ w p s q (.returned (.tuple #[.slice none 0 0, .int .i64 E])) w' :=
 ⟨_, by rw [hE], by rw [if_neg (by rw [hE]; exact h0)]; exact IntsV.nil _ _, hx⟩
theorem owed_yes {w w' : World} {p : Pad} {s : State} {q : Int} {v : Value} (hE : owedE p s q = 0) (h : IntsV w' .i64 v (owedL p s q)) (hx : Ext w w') : OwedQ w p s q (.returned (.tuple #[v, .int .i64 0])) w' :=
 ⟨_, by rw [hE], by rw [if_pos hE]; exact h, hx⟩
def mayE (p : Pad) (s : State) (z : Int) : Int := if stateE p s ≠ 0 then stateE p s else if outB z (-1) ((p.zones.length : Int) - 1) = true then 4 else 0
def MayQ (w : World) (p : Pad) (s : State) (z : Int) (e : Ending) (w' : World) : Prop := ∃ v, e = .returned (.tuple #[v, .int .i64 (mayE p s z)]) ∧ IntsV w' .i64 v (if mayE p s z = 0 then mayL p s z p.people.length else []) ∧ Ext w w'
theorem may_no {w w' : World} {p : Pad} {s : State} {q E : Int} (hE : mayE p s q = E) (h0 : E ≠ 0) (hx : Ext w w') : MayQ w p s q (.returned (.tuple #[.slice none 0 0, .int .i64 E])) w' :=
 ⟨_, by rw [hE], by rw [if_neg (by rw [hE]; exact h0)]; exact IntsV.nil _ _, hx⟩
theorem may_yes {w w' : World} {p : Pad} {s : State} {z : Int} {v : Value} (hE : mayE p s z = 0) (h : IntsV w' .i64 v (mayL p s z p.people.length)) (hx : Ext w w') : MayQ w p s z (.returned (.tuple #[v, .int .i64 0])) w' :=
 ⟨_, by rw [hE], by rw [if_pos hE]; exact h, hx⟩
theorem Blk.pairA (w : World) (t t' : TypeId) (cs ds : Array Value) : Ext w ((w.alloc (.cells cs t)).alloc (.cells ds t')) ∧ Blk ((w.alloc (.cells cs t)).alloc (.cells ds t')) w.heap.size t cs ∧ Blk ((w.alloc (.cells cs t)).alloc (.cells ds t')) (w.heap.size + 1) t' ds := by
 refine ⟨((Ext.refl _).alloc _).alloc _, (Blk.new w t cs).ext ((Ext.refl _).alloc _), ?_⟩
 have := Blk.new (w.alloc (.cells cs t)) t' ds
 rwa [World.size_alloc] at this
set_option maxRecDepth 100000 in
set_option maxHeartbeats 4000000 in
/-- Owed -/
theorem owedX_any (v sv : Value) (p : Pad) (s : State) (q : Int) (w : World) (hv : PadV w v p) (hs : StateV w sv s) (hf : s.Fits) : Calls Try.prog 30 #[v, sv, .int .i64 q] w (OwedQ w p s q) := by
 obtain ⟨X, hvX, hX⟩ := padV_iff.1 hv
 subst hvX
 obtain ⟨A1, c1, A2, c2, A3, c3, rfl, h1, h2, h3⟩ := stateV_rows.1 hs
 have HCS := hide (fun V (hx : Ext w V) => checkState_any _ _ p s V (hv.ext hx) (hs.ext hx) hf)
 have HST := hide (fun V (hx : Ext w V) => stage_any X p s A1 A2 A3 c1 c2 c3 V (hX.ext hx) (h1.ext hx) (h2.ext hx) (h3.ext hx) hf.1 hf.2.1 hf.2.2)
 obtain ⟨az, cz, ad, cd, ap, cp, ak, ck, aq, cq⟩ := X
 unfold PadX.cells at HCS HST ⊢
 dsimp only at HCS HST ⊢
 clear hv hs hf hX h1 h2 h3
 go_enter Try.func30, Try.ntmps30
 go_wp2_with fail
 have HBOX := hide (Blk.pairA w 28 38 #[.slice az p.zones.length cz, .slice ad p.doors.length cd, .slice ap p.people.length cp, .slice ak p.keys.length ck, .slice aq p.squibs.length cq, .int .i64 p.panel, .int .i64 p.wait] #[.int .i64 s.now, .slice A1 s.zones.length c1, .slice A2 s.holder.length c2, .slice A3 s.squibs.length c3, .int .i64 s.siren, .bool s.storm])
 obtain ⟨W1, hW1⟩ : ∃ V, (w.alloc (.cells #[.slice az p.zones.length cz, .slice ad p.doors.length cd, .slice ap p.people.length cp, .slice ak p.keys.length ck, .slice aq p.squibs.length cq, .int .i64 p.panel, .int .i64 p.wait] 28)).alloc (.cells #[.int .i64 s.now, .slice A1 s.zones.length c1, .slice A2 s.holder.length c2, .slice A3 s.squibs.length c3, .int .i64 s.siren, .bool s.storm] 38) = V := ⟨_, rfl⟩
 rw [hW1] at HBOX ⊢
 obtain ⟨HX, HP, HS⟩ := HBOX.out
 clear HBOX hW1
 refine Calls.mono (HCS.out _ HX) ?_
 rintro e w2 ⟨rfl, hx⟩
 replace HX := hide (HX.trans hx)
 replace HP := hide (HP.ext hx)
 replace HS := hide (HS.ext hx)
 obtain ⟨E, hE⟩ : ∃ E, stateE p s = E := ⟨_, rfl⟩
 have HE := hide hE
 rw [hE]
 clear hx hE HCS
 have p0 := cell_heap HP.out 0 _ rfl
 have p1 := cell_heap HP.out 1 _ rfl
 have p2 := cell_heap HP.out 2 _ rfl
 have p3 := cell_heap HP.out 3 _ rfl
 have p4 := cell_heap HP.out 4 _ rfl
 have p5 := cell_heap HP.out 5 _ rfl
 have p6 := cell_heap HP.out 6 _ rfl
 have s0 := cell_heap HS.out 0 _ rfl
 have s1 := cell_heap HS.out 1 _ rfl
 have s2 := cell_heap HS.out 2 _ rfl
 have s3 := cell_heap HS.out 3 _ rfl
 have s4 := cell_heap HS.out 4 _ rfl
 have s5 := cell_heap HS.out 5 _ rfl
 by_cases e0 : E = 0
 ·subst e0
  have HSO := hide (stateE_t.1 HE.out)
  have HPO := hide (padOk_of HSO.out.1)
  have hnq := HPO.out.nq
  cases ho : outB q 0 ((p.squibs.length : Int) - 1) with
  | true =>
   have HO := hide (fun V => out_any q 0 ((p.squibs.length : Int) - 1) V)
   rw [ho] at HO
   have HR := hide (show owedE p s q = 4 by unfold owedE; rw [HE.out, if_neg (by decide), if_pos ho])
   clear ho
   go_wp2_with (go_at_call 37; with_reducible refine (HO.out _).mono ?_; rintro e w' ⟨rfl, rfl⟩)
   go_ret2
   exact owed_no HR.out (by decide) HX.out
  | false =>
   have hb := outB_f.1 ho
   obtain ⟨qn, rfl⟩ : ∃ n : Nat, q = n := ⟨q.toNat, by omega⟩
   have hql : qn < p.squibs.length := by omega
   have HO := hide (fun V => out_any (qn : Int) 0 ((p.squibs.length : Int) - 1) V)
   rw [ho] at HO
   have HR := hide (show owedE p s qn = 0 by unfold owedE; rw [HE.out, if_neg (by decide), if_neg (by rw [ho]; decide)])
   clear ho hb
   go_wp2_with (go_at_call 37; with_reducible refine (HO.out _).mono ?_; rintro e w' ⟨rfl, rfl⟩)
   refine Calls.mono (HST.out _ HX.out) ?_
   rintro e w3 ⟨B, Y, rfl, hS⟩
   have HOW := hide (owed_any B Y p s qn w3 hS.at HPO.out HSO.out.2.1.lh hql)
   have HX3 := hide (HX.out.trans hS.ext)
   clear hS p0 p1 p2 p3 p4 p5 p6 s0 s1 s2 s3 s4 s5
   go_wp2_with fail
   refine Calls.mono HOW.out ?_
   rintro e w4 ⟨u, rfl, hu, hx4⟩
   have HU := hide hu
   have HX4 := hide (HX3.out.trans hx4)
   clear hu hx4
   go_wp2_with fail
   go_ret2
   exact owed_yes HR.out HU.out HX4.out
 ·have hne : (E != 0) = true := by simpa using e0
  have HR := hide (show owedE p s q = E by unfold owedE; rw [HE.out, if_pos e0])
  have HNZ := hide e0
  clear e0
  go_wp2_with fail
  go_ret2
  exact owed_no HR.out HNZ.out HX.out
set_option maxRecDepth 100000 in
set_option maxHeartbeats 4000000 in
/-- May -/
theorem mayX_any (v sv : Value) (p : Pad) (s : State) (z : Int) (w : World) (hv : PadV w v p) (hs : StateV w sv s) (hf : s.Fits) : Calls Try.prog 31 #[v, sv, .int .i64 z] w (MayQ w p s z) := by
 obtain ⟨X, hvX, hX⟩ := padV_iff.1 hv
 subst hvX
 obtain ⟨A1, c1, A2, c2, A3, c3, rfl, h1, h2, h3⟩ := stateV_rows.1 hs
 have HCS := hide (fun V (hx : Ext w V) => checkState_any _ _ p s V (hv.ext hx) (hs.ext hx) hf)
 have HDO := hide (fun V (hx : Ext w V) (a : PAct) hok hst ha => do_any _ _ p s a V (hv.ext hx) (hs.ext hx) hok hst ha)
 obtain ⟨az, cz, ad, cd, ap, cp, ak, ck, aq, cq⟩ := X
 unfold PadX.cells at HCS HDO ⊢
 dsimp only at HCS HDO ⊢
 clear hv hs hf hX h1 h2 h3
 go_enter Try.func31, Try.ntmps31
 go_wp2_with fail
 have HBOX := hide (Blk.pairA w 28 38 #[.slice az p.zones.length cz, .slice ad p.doors.length cd, .slice ap p.people.length cp, .slice ak p.keys.length ck, .slice aq p.squibs.length cq, .int .i64 p.panel, .int .i64 p.wait] #[.int .i64 s.now, .slice A1 s.zones.length c1, .slice A2 s.holder.length c2, .slice A3 s.squibs.length c3, .int .i64 s.siren, .bool s.storm])
 obtain ⟨W1, hW1⟩ : ∃ V, (w.alloc (.cells #[.slice az p.zones.length cz, .slice ad p.doors.length cd, .slice ap p.people.length cp, .slice ak p.keys.length ck, .slice aq p.squibs.length cq, .int .i64 p.panel, .int .i64 p.wait] 28)).alloc (.cells #[.int .i64 s.now, .slice A1 s.zones.length c1, .slice A2 s.holder.length c2, .slice A3 s.squibs.length c3, .int .i64 s.siren, .bool s.storm] 38) = V := ⟨_, rfl⟩
 rw [hW1] at HBOX ⊢
 obtain ⟨HX, HP, HS⟩ := HBOX.out
 clear HBOX hW1
 refine Calls.mono (HCS.out _ HX) ?_
 rintro e w2 ⟨rfl, hx⟩
 replace HX := hide (HX.trans hx)
 replace HP := hide (HP.ext hx)
 replace HS := hide (HS.ext hx)
 obtain ⟨E, hE⟩ : ∃ E, stateE p s = E := ⟨_, rfl⟩
 have HE := hide hE
 rw [hE]
 clear hx hE HCS
 have p0 := cell_heap HP.out 0 _ rfl
 have p1 := cell_heap HP.out 1 _ rfl
 have p2 := cell_heap HP.out 2 _ rfl
 have p3 := cell_heap HP.out 3 _ rfl
 have p4 := cell_heap HP.out 4 _ rfl
 have p5 := cell_heap HP.out 5 _ rfl
 have p6 := cell_heap HP.out 6 _ rfl
 have s0 := cell_heap HS.out 0 _ rfl
 have s1 := cell_heap HS.out 1 _ rfl
 have s2 := cell_heap HS.out 2 _ rfl
 have s3 := cell_heap HS.out 3 _ rfl
 have s4 := cell_heap HS.out 4 _ rfl
 have s5 := cell_heap HS.out 5 _ rfl
 by_cases e0 : E = 0
 ·subst e0
  have HSO := hide (stateE_t.1 HE.out)
  have HPO := hide (padOk_of HSO.out.1)
  have hnz := HPO.out.nz.2
  cases ho : outB z (-1) ((p.zones.length : Int) - 1) with
  | true =>
   have HO := hide (fun V => out_any z (-1) ((p.zones.length : Int) - 1) V)
   rw [ho] at HO
   have HR := hide (show mayE p s z = 4 by unfold mayE; rw [HE.out, if_neg (by decide), if_pos ho])
   clear ho
   go_wp2_with (go_at_call 37; with_reducible refine (HO.out _).mono ?_; rintro e w' ⟨rfl, rfl⟩)
   go_ret2
   exact may_no HR.out (by decide) HX.out
  | false =>
   have HB := hide (outB_f.1 ho)
   have HO := hide (fun V => out_any z (-1) ((p.zones.length : Int) - 1) V)
   rw [ho] at HO
   have HR := hide (show mayE p s z = 0 by unfold mayE; rw [HE.out, if_neg (by decide), if_neg (by rw [ho]; decide)])
   clear ho
   obtain ⟨iI, hiI, hzI0, hzI1, hzI2⟩ := info_parts infoInt
   have hI := hide hiI
   have hI0 := hide hzI0
   have hI1 := hide hzI1
   have hI2 := hide hzI2
   clear hiI hzI0 hzI1 hzI2
   have hnp := HPO.out.np
   go_wp2_with (go_at_call 37; with_reducible refine (HO.out _).mono ?_; rintro e w' ⟨rfl, rfl⟩)
   go_loopw [26, 6, 8, 9, 10] (fun v26 v6 _ _ _ wr => Hid (Ext w2 wr) ∧ ∃ k : Nat, k ≤ p.people.length ∧ v26 = .int .i64 k ∧ ∃ n, Hid (n ≤ k ∧ Own wr w2.heap.size 3 1 v6 n ((mayL p s z k).map (Value.int .i64)))) (fun v26 _ _ _ _ _ => p.people.length - (intOf v26).toNat)
   case atStart => exact ⟨hide (Ext.refl _), 0, by omega, rfl, 0, hide ⟨Nat.le_refl _, Own.nil _ _ _ _⟩⟩
   case round =>
    obtain ⟨HXR, k, hk, rfl, m, HOW⟩ := hrel
    have HP2 := hide (HP.out.ext HXR.out)
    have HS2 := hide (HS.out.ext HXR.out)
    clear p0 p1 p2 p3 p4 p5 p6 s0 s1 s2 s3 s4 s5
    have p0 := cell_heap HP2.out 0 _ rfl
    have p1 := cell_heap HP2.out 1 _ rfl
    have p2 := cell_heap HP2.out 2 _ rfl
    have p3 := cell_heap HP2.out 3 _ rfl
    have p4 := cell_heap HP2.out 4 _ rfl
    have p5 := cell_heap HP2.out 5 _ rfl
    have p6 := cell_heap HP2.out 6 _ rfl
    have s0 := cell_heap HS2.out 0 _ rfl
    have s1 := cell_heap HS2.out 1 _ rfl
    have s2 := cell_heap HS2.out 2 _ rfl
    have s3 := cell_heap HS2.out 3 _ rfl
    have s4 := cell_heap HS2.out 4 _ rfl
    have s5 := cell_heap HS2.out 5 _ rfl
    by_cases h8 : k < p.people.length
    ·have hsz := HXR.out.size
     have HAC := hide (actOk_of (may_act HE.out (z := z) (by have := HB.out; omega) h8))
     have HC := hide (HDO.out wr (HX.out.trans HXR.out) (mayA s z k) HPO.out HSO.out.2.1 HAC.out)
     obtain ⟨D, hD⟩ : ∃ D, doneE p s (mayA s z k) = D := ⟨_, rfl⟩
     have HD := hide hD
     unfold mayA at HC
     dsimp only at HC
     clear hD
     go_wp2_with fail
     refine Calls.mono HC.out ?_
     rintro e w3 ⟨u, rfl, hu, hx⟩
     rw [show doneE p s ⟨s.now, 1, (k : Nat), z, -1⟩ = D from HD.out]
     obtain ⟨x, hxx⟩ : ∃ x, doneS p s ⟨s.now, 1, (k : Nat), z, -1⟩ = x := ⟨_, rfl⟩
     rw [hxx] at hu
     obtain ⟨D1, f1, D2, f2, D3, f3, rfl, _⟩ := hu
     have HOW3 := hide (HOW.out.2.ext hx)
     have HXR3 := hide (HXR.out.trans hx)
     have hsz3 := HXR3.out.size
     clear hx hxx HC
     by_cases d0 : D = 0
     ·subst d0
      go_wp2_with (at_builtin; refine wpList_app rfl (.tmp 42) (.tmp 44) 36 rfl w2.heap.size 3 iI _ 1 8 Try.underlying36 hI.out hI0.out hI1.out hI2.out rfl _ m _ rfl ((HOW3.out.ext ((Ext.refl _).alloc _)).ext ((Ext.refl _).alloc _)) (some ⟨w3.heap.size + 1, 0, none⟩) 1 1 [.int .i64 k] rfl (by have := (Own.lit (w3.alloc (.cells #[.int .i64 x.now, .slice D1 x.zones.length f1, .slice D2 x.holder.length f2, .slice D3 x.squibs.length f3, .int .i64 x.siren, .bool x.storm] 38)) 0 3 1 1 #[.int .i64 k] (Nat.zero_le _) rfl (by simp [maxLen])).src; rwa [World.size_alloc] at this) (by simp [Value.oneCell']) (by have := HOW.out.1; simp only [maxLen]; omega) (by have := HOW.out.1; omega) (by rw [World.size_alloc, World.size_alloc]; omega) ?_; intro v4 w4 hown hb)
      go_roundw
      case rel =>
       refine ⟨hide (((HXR3.out.alloc _).alloc _).step hb (Nat.le_refl _)), k + 1, by omega, by go_num, m + 1, hide ⟨by have := HOW.out.1; omega, ?_⟩⟩
       rw [mayL_succ, if_pos HD.out, List.map_append]
       exact hown
      case measure => simp [intOf]; omega
     ·have hne : (D == 0) = false := by simpa using d0
      have HNZ := hide d0
      clear d0
      go_wp2_with fail
      go_roundw
      case rel =>
       refine ⟨hide (HXR3.out.alloc _), k + 1, by omega, by go_num, m, hide ⟨by have := HOW.out.1; omega, ?_⟩⟩
       rw [mayL_succ, if_neg (by rw [HD.out]; exact HNZ.out), List.append_nil]
       exact HOW3.out.ext ((Ext.refl _).alloc _)
      case measure => simp [intOf]; omega
    ·obtain rfl : k = p.people.length := by omega
     go_wp2_with fail
     go_ret2
     exact may_yes HR.out HOW.out.2.ints (HX.out.trans HXR.out)
 ·have hne : (E != 0) = true := by simpa using e0
  have HR := hide (show mayE p s z = E by unfold mayE; rw [HE.out, if_pos e0])
  have HNZ := hide e0
  clear e0
  go_wp2_with fail
  go_ret2
  exact may_no HR.out HNZ.out HX.out
end Go.Proofs.Ythcnganbnbhhoaa
