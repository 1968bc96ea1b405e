/- The walk of formed, joined. The walks of CheckState and Near. The walk of Near. -/
import Derived.Test.YthcnganbnbhhoaaFormedA
import Derived.Test.YthcnganbnbhhoaaFormedB
import Derived.Test.YthcnganbnbhhoaaFormedC
import Derived.Test.YthcnganbnbhhoaaStage
import Derived.Test.YthcnganbnbhhoaaSound
import Derived.Test.YthcnganbnbhhoaaKeyed
namespace Go.Proofs.Ythcnganbnbhhoaa
open Go.RowKit Go.Shelf
theorem formed_any (B : Nat) (X : SceneX) (p : Pad) (s : State) (w : World) (h : SceneAt w B X p s) :
 Calls Try.prog 68 #[.pointer (some ⟨B, 0, none⟩)] w fun e w' => e = .returned (.bool (formedB p s)) ∧ Ext w w' := by
 cases ha1 : outB s.now 0 100000 with
 | true => exact formed_a1 B X p s w h ha1
 | false =>
   cases ha2 : outB s.siren (-1) s.now with
   | true => exact formed_a2 B X p s w h ha1 ha2
   | false =>
     cases hl1 : decide (s.zones.length ≠ p.people.length) with
     | true => exact formed_l1 B X p s w h ha1 ha2 hl1
     | false =>
       cases hl2 : decide (s.holder.length ≠ p.keys.length) with
       | true => exact formed_l2 B X p s w h ha1 ha2 hl1 hl2
       | false =>
         cases hl3 : decide (s.squibs.length ≠ p.squibs.length) with
         | true => exact formed_l3 B X p s w h ha1 ha2 hl1 hl2 hl3
         | false =>
           cases hc1 : anyB (fun k => outB (s.zones.getD k 0) (-1) ((p.zones.length : Int) - 1)) s.zones.length with
           | true => exact formed_c1 B X p s w h ha1 ha2 hl1 hl2 hl3 hc1
           | false =>
             cases hc2 : anyB (fun k => outB (s.holder.getD k 0) (-1) ((p.people.length : Int) - 1)) s.holder.length with
             | true => exact formed_c2 B X p s w h ha1 ha2 hl1 hl2 hl3 hc1 hc2
             | false =>
               cases hc3 : anyB (fun k => outB (s.squibs.getD k 0) 0 2) s.squibs.length with
               | true => exact formed_c3 B X p s w h ha1 ha2 hl1 hl2 hl3 hc1 hc2 hc3
               | false =>
                 exact formed_all B X p s w h ha1 ha2 hl1 hl2 hl3 hc1 hc2 hc3
end Go.Proofs.Ythcnganbnbhhoaa
namespace Go.Proofs.Ythcnganbnbhhoaa
open Go.RowKit Go.Shelf
attribute [local go_sem] Oper.semAt_some
/-- A state whose lists are no longer than memory lets them be. -/
def State.Fits (s : State) : Prop := s.zones.length * 8 ≤ 140737488355328 ∧ s.holder.length * 8 ≤ 140737488355328 ∧ s.squibs.length * 8 ≤ 140737488355328
theorem stateE_bad {p : Pad} {s : State} (h : (padE p).2.2 ≠ 0) : stateE p s = (padE p).2.2 := if_pos h
theorem stateE_form {p : Pad} {s : State} (h : (padE p).2.2 = 0) (h2 : formedB p s = false) : stateE p s = 6 := by unfold stateE; rw [if_neg (fun g => g h), h2]; rfl
theorem stateE_sound {p : Pad} {s : State} (h : (padE p).2.2 = 0) (h2 : formedB p s = true) (h3 : soundB p s = false) : stateE p s = 6 := by unfold stateE; rw [if_neg (fun g => g h), h2, h3]; rfl
theorem stateE_zero {p : Pad} {s : State} (h : (padE p).2.2 = 0) (h2 : formedB p s = true) (h3 : soundB p s = true) : stateE p s = 0 := by unfold stateE; rw [if_neg (fun g => g h), h2, h3]; rfl
theorem stateE_ok {p : Pad} {s : State} (h : stateE p s = 0) : PadOk p ∧ StateOk p s ∧ soundB p s = true := by
 unfold stateE at h
 split at h
 ·rename_i h1; exact absurd h h1
 rename_i h1
 split at h
 ·cases h
 rename_i h2
 simp only [ne_eq, Decidable.not_not] at h1
 rw [Bool.not_eq_true, Bool.or_eq_false_iff, Bool.not_eq_false', Bool.not_eq_false'] at h2
 exact ⟨padOk_of h1, stateOk_iff.1 h2.1, h2.2⟩
set_option maxRecDepth 100000 in
set_option maxHeartbeats 4000000 in
/-- CheckState -/
theorem checkState_any (v sv : Value) (p : Pad) (s : State) (w : World) (hv : PadV w v p) (hs : StateV w sv s) (hf : s.Fits) :
 Calls Try.prog 26 #[v, sv] w fun e w' => e = .returned (.int .i64 (stateE p s)) ∧ Ext w w' := by
 have HC := hide (fun V (hx : Ext w V) => check_any v p V (hv.ext hx))
 obtain ⟨X, rfl, hX⟩ := padV_iff.1 hv
 obtain ⟨az, cz, ad, cd, ap, cp, ak, ck, aq, cq⟩ := X
 obtain ⟨a1, a2, a3, rfl, h1, h2, h3⟩ := hs
 have k1 := h1
 have k2 := h2
 have k3 := h3
 obtain ⟨A1, c1, rfl, _⟩ := h1
 obtain ⟨A2, c2, rfl, _⟩ := h2
 obtain ⟨A3, c3, rfl, _⟩ := h3
 have HST := hide (fun V (hx : Ext w V) => stage_any ⟨az, cz, ad, cd, ap, cp, ak, ck, aq, cq⟩ p s A1 A2 A3 c1 c2 c3 V (hX.ext hx) (k1.ext hx) (k2.ext hx) (k3.ext hx) hf.1 hf.2.1 hf.2.2)
 unfold PadX.cells at HC HST ⊢
 dsimp only at HC HST ⊢
 obtain ⟨E, hE⟩ : ∃ E, (padE p).2.2 = E := ⟨_, rfl⟩
 have HE := hide hE
 have HBAD := hide (fun (h : E ≠ 0) => stateE_bad (p := p) (s := s) (by rw [hE]; exact h))
 rw [hE] at HC HBAD
 obtain ⟨E1, hE1⟩ : ∃ E, (padE p).1 = E := ⟨_, rfl⟩
 obtain ⟨E2, hE2⟩ : ∃ E, (padE p).2.1 = E := ⟨_, rfl⟩
 rw [hE1, hE2] at HC
 obtain ⟨R, hR⟩ : ∃ R, stateE p s = R := ⟨_, rfl⟩
 have HRR := hide hR
 rw [hR] at HBAD ⊢
 clear hv hX k1 k2 k3 hf hE hE1 hE2 hR
 go_enter Try.func26, Try.ntmps26
 go_wp2_with fail
 obtain ⟨W1, hW1⟩ : ∃ V, (w.alloc (.cells #[.slice az p.zones.length cz, .slice ad p.doors.length cd, .slice ap p.people.length cp, .slice ak p.keys.length ck, .slice aq p.squibs.length cq, .int .i64 p.panel, .int .i64 p.wait] 28)).alloc (.cells #[.int .i64 s.now, .slice A1 s.zones.length c1, .slice A2 s.holder.length c2, .slice A3 s.squibs.length c3, .int .i64 s.siren, .bool s.storm] 38) = V := ⟨_, rfl⟩
 have HX := hide (show Ext w W1 by rw [← hW1]; exact ((Ext.refl _).alloc _).alloc _)
 have HP := hide (show Blk W1 w.heap.size 28 #[.slice az p.zones.length cz, .slice ad p.doors.length cd, .slice ap p.people.length cp, .slice ak p.keys.length ck, .slice aq p.squibs.length cq, .int .i64 p.panel, .int .i64 p.wait] by rw [← hW1]; exact (Blk.new w _ _).ext ((Ext.refl _).alloc _))
 have HS := hide (show Blk W1 (w.heap.size + 1) 38 #[.int .i64 s.now, .slice A1 s.zones.length c1, .slice A2 s.holder.length c2, .slice A3 s.squibs.length c3, .int .i64 s.siren, .bool s.storm] by rw [← hW1]; simpa only [World.size_alloc] using Blk.new (w.alloc (.cells #[.slice az p.zones.length cz, .slice ad p.doors.length cd, .slice ap p.people.length cp, .slice ak p.keys.length ck, .slice aq p.squibs.length cq, .int .i64 p.panel, .int .i64 p.wait] 28)) 38 #[.int .i64 s.now, .slice A1 s.zones.length c1, .slice A2 s.holder.length c2, .slice A3 s.squibs.length c3, .int .i64 s.siren, .bool s.storm])
 rw [hW1]
 clear hW1
 refine Calls.mono (HC.out W1 HX.out) ?_
 rintro e w2 ⟨rfl, hx⟩
 replace HX := hide (HX.out.trans hx)
 replace HP := hide (HP.out.ext hx)
 replace HS := hide (HS.out.ext hx)
 clear hx HC
 by_cases e0 : E = 0
 ·subst e0
  have HE0 := hide HE.out
  clear HBAD
  have p0 := cell_heap HP.out 0 _ rfl
  have p1 := cell_heap HP.out 1 _ rfl
  have p2 := cell_heap HP.out 2 _ rfl
  have p3 := cell_heap HP.out 3 _ rfl
  have p4 := cell_heap HP.out 4 _ rfl
  have p5 := cell_heap HP.out 5 _ rfl
  have p6 := cell_heap HP.out 6 _ rfl
  have s0 := cell_heap HS.out 0 _ rfl
  have s1 := cell_heap HS.out 1 _ rfl
  have s2 := cell_heap HS.out 2 _ rfl
  have s3 := cell_heap HS.out 3 _ rfl
  have s4 := cell_heap HS.out 4 _ rfl
  have s5 := cell_heap HS.out 5 _ rfl
  go_wp2_with fail
  refine Calls.mono (HST.out w2 HX.out) ?_
  rintro e w3 ⟨B, Y, rfl, hS⟩
  have HSC := hide hS
  replace HX := hide (HX.out.trans hS.ext)
  clear hS HST p0 p1 p2 p3 p4 p5 p6 s0 s1 s2 s3 s4 s5
  have HF := hide (formed_any B Y p s w3 HSC.out.at)
  cases hf1 : formedB p s with
  | false =>
    rw [hf1] at HF
    have HR := hide (show R = 6 by rw [← HRR.out]; exact stateE_form HE0.out hf1)
    clear hf1
    go_wp2_with fail
    refine Calls.mono HF.out ?_
    rintro e w4 ⟨rfl, hx⟩
    go_wp2_with fail
    go_ret
    exact ⟨ret_int (by rw [HR.out]), HX.out.trans hx⟩
  | true =>
    rw [hf1] at HF
    have HF1 := hide hf1
    clear hf1
    go_wp2_with fail
    refine Calls.mono HF.out ?_
    rintro e w4 ⟨rfl, hx⟩
    have HSO := hide (sound_any B Y p s w4 (HSC.out.at.ext hx) (padOk_of HE0.out) (stateOk_iff.1 HF1.out))
    replace HX := hide (HX.out.trans hx)
    clear hx HF
    cases hf2 : soundB p s with
    | false =>
      rw [hf2] at HSO
      have HR := hide (show R = 6 by rw [← HRR.out]; exact stateE_sound HE0.out HF1.out hf2)
      clear hf2
      go_wp2_with fail
      refine Calls.mono HSO.out ?_
      rintro e w5 ⟨rfl, hx⟩
      go_wp2_with fail
      go_ret
      exact ⟨ret_int (by rw [HR.out]), HX.out.trans hx⟩
    | true =>
      rw [hf2] at HSO
      have HR := hide (show R = 0 by rw [← HRR.out]; exact stateE_zero HE0.out HF1.out hf2)
      clear hf2
      go_wp2_with fail
      refine Calls.mono HSO.out ?_
      rintro e w5 ⟨rfl, hx⟩
      go_wp2_with fail
      go_ret
      exact ⟨ret_int (by rw [HR.out]), HX.out.trans hx⟩
 ·have hne : (E != 0) = true := by simpa using e0
  have HR := hide (HBAD.out e0)
  clear HBAD e0
  go_wp2_with fail
  go_ret
  exact ⟨ret_int (by rw [HR.out]), HX.out⟩
end Go.Proofs.Ythcnganbnbhhoaa
namespace Go.Proofs.Ythcnganbnbhhoaa
open Go.RowKit Go.Shelf
attribute [local go_sem] Oper.semAt_some
def nearE (p : Pad) (z q : Int) : Int := if (padE p).2.2 ≠ 0 then (padE p).2.2 else if (outB z 0 ((p.zones.length : Int) - 1) || outB q 0 ((p.squibs.length : Int) - 1)) = true then 4 else 0
def nearR (p : Pad) (z q : Int) : Bool := if nearE p z q = 0 then nearB (zoneOf p z) (squibOf p q) else false
theorem near_mem {p : Pad} {z q : Nat} (hq : q < p.squibs.length) : q ∈ nears p.zones p.squibs z ↔ nearB (zoneOf p z) (squibOf p q) = true := by
 unfold nears zoneOf squibOf
 rw [if_neg (by omega), List.mem_filter, Int.toNat_natCast, Int.toNat_natCast]
 simp [hq]
/-- Memory in Near: the boxes of the pad, of the squib's number, of the two results. -/
structure NrW (w : World) (cs : Array Value) (q : Int) (W : World) (b e : Value) : Prop where
 ext : Ext w W
 pb : Blk W w.heap.size 28 cs
 qb : Boxed W (w.heap.size + 1) 3 (.int .i64 q)
 rb : Boxed W (w.heap.size + 1 + 1) 4 b
 eb : Boxed W (w.heap.size + 1 + 1 + 1) 29 e
section
variable {w W W' : World} {cs : Array Value} {q : Int} {b e : Value}
theorem NrW.ext' (h : NrW w cs q W b e) (k : Ext W W') : NrW w cs q W' b e := ⟨h.ext.trans k, h.pb.ext k, Boxed.ext h.qb k, Boxed.ext h.rb k, Boxed.ext h.eb k⟩
theorem NrW.turn (h : NrW w cs q W b e) {N : Nat} (k : Turn N W W') (hN : w.heap.size ≤ N) : NrW w cs q W' b e := ⟨k.below h.ext hN h.ext.size, h.pb.turn k, Boxed.turn h.qb k, Boxed.turn h.rb k, Boxed.turn h.eb k⟩
theorem NrW.setB (h : NrW w cs q W b e) (u : Value) : NrW w cs q (W.setCell ⟨w.heap.size + 1 + 1, 0, none⟩ u) u e :=
 ⟨h.ext.setCell (by dsimp only; omega) _, h.pb.other (by omega) 0 _, Boxed.other h.qb (by omega) _, Boxed.set _ h.rb, Boxed.other h.eb (by omega) _⟩
theorem NrW.setE (h : NrW w cs q W b e) (u : Value) : NrW w cs q (W.setCell ⟨w.heap.size + 1 + 1 + 1, 0, none⟩ u) b u :=
 ⟨h.ext.setCell (by dsimp only; omega) _, h.pb.other (by omega) 0 _, Boxed.other h.qb (by omega) _, Boxed.other h.rb (by omega) _, Boxed.set _ h.eb⟩
theorem NrW.new (w : World) (cs : Array Value) (q : Int) (b e : Value) : NrW w cs q ((((w.alloc (.cells cs 28)).alloc (.cells #[.int .i64 q] 3)).alloc (.cells #[b] 4)).alloc (.cells #[e] 29)) b e := by
 refine ⟨((((Ext.refl _).alloc _).alloc _).alloc _).alloc _, ((Blk.new w _ cs).ext ((Ext.refl _).alloc _)).ext (((Ext.refl _).alloc _).alloc _), ?_, ?_, ?_⟩
 ·have := (Boxed.new (w.alloc (.cells cs 28)) 3 (.int .i64 q))
  rw [World.size_alloc] at this
  exact Boxed.ext this (((Ext.refl _).alloc _).alloc _)
 ·have := (Boxed.new ((w.alloc (.cells cs 28)).alloc (.cells #[.int .i64 q] 3)) 4 b)
  rw [World.size_alloc, World.size_alloc] at this
  exact Boxed.ext this ((Ext.refl _).alloc _)
 ·have := (Boxed.new (((w.alloc (.cells cs 28)).alloc (.cells #[.int .i64 q] 3)).alloc (.cells #[b] 4)) 29 e)
  rw [World.size_alloc, World.size_alloc, World.size_alloc] at this
  exact this
end
set_option maxRecDepth 100000 in
set_option maxHeartbeats 4000000 in
/-- Near -/
theorem near3_any (v : Value) (p : Pad) (z q : Int) (w : World) (hv : PadV w v p) :
 Calls Try.prog 19 #[v, .int .i64 z, .int .i64 q] w fun e w' => e = .returned (.tuple #[.bool (nearR p z q), .int .i64 (nearE p z q)]) ∧ Ext w w' := by
 have HC := hide (fun V (hx : Ext w V) => check_any v p V (hv.ext hx))
 obtain ⟨X, rfl, hX⟩ := padV_iff.1 hv
 obtain ⟨az, cz, ad, cd, ap, cp, ak, ck, aq, cq⟩ := X
 have HPAD := hide hX
 unfold PadX.cells at HC ⊢
 dsimp only at HC ⊢
 have hrz := hX.z.rows
 have hrq := hX.q.rows
 dsimp only at hrz hrq
 have hz1 : p.zones.length ≤ 9223372036854775807 := by omega
 have hq1 : p.squibs.length ≤ 9223372036854775807 := by omega
 obtain ⟨E, hE⟩ : ∃ E, (padE p).2.2 = E := ⟨_, rfl⟩
 have HE := hide hE
 rw [hE] at HC
 obtain ⟨E1, hE1⟩ : ∃ E, (padE p).1 = E := ⟨_, rfl⟩
 obtain ⟨E2, hE2⟩ : ∃ E, (padE p).2.1 = E := ⟨_, rfl⟩
 rw [hE1, hE2] at HC
 have hw1 : IntKind.i64.wrap ((p.zones.length : Int) - 1) = (p.zones.length : Int) - 1 := by rw [IntKind.wrap_i64]; omega
 have hw2 : IntKind.i64.wrap ((p.squibs.length : Int) - 1) = (p.squibs.length : Int) - 1 := by rw [IntKind.wrap_i64]; omega
 have HRZ := hide (show nearE p z q = (if E ≠ 0 then E else if (outB z 0 ((p.zones.length : Int) - 1) || outB q 0 ((p.squibs.length : Int) - 1)) = true then 4 else 0) by unfold nearE; rw [hE])
 have HRR := hide (show nearR p z q = (if nearE p z q = 0 then nearB (zoneOf p z) (squibOf p q) else false) from rfl)
 obtain ⟨Rb, hRb⟩ : ∃ R, nearR p z q = R := ⟨_, rfl⟩
 obtain ⟨Re, hRe⟩ : ∃ R, nearE p z q = R := ⟨_, rfl⟩
 rw [hRb, hRe]
 rw [hRe] at HRZ HRR
 rw [hRb] at HRR
 clear hv hX hE hE1 hE2 hRb hRe hrz hrq
 refine callsIn_wide.1 (callsIn_of_wp_marks (n := 0) Try.func19 rfl trivial ?_ rfl)
 simp only [Try.ntmps19, List.size_toArray, List.length_cons, List.length_nil, Nat.reduceAdd, Nat.reduceSub, Array.replicate_succ, Array.replicate_zero, List.push_toArray, List.append_toArray, List.nil_append, List.cons_append]
 refine wpIn_wide.2 ?_
 go_wp2_with fail
 have HN := hide (NrW.new w #[.slice az p.zones.length cz, .slice ad p.doors.length cd, .slice ap p.people.length cp, .slice ak p.keys.length ck, .slice aq p.squibs.length cq, .int .i64 p.panel, .int .i64 p.wait] q (.bool false) (.int .i64 0))
 obtain ⟨W1, hW1⟩ : ∃ V, (((w.alloc (.cells #[.slice az p.zones.length cz, .slice ad p.doors.length cd, .slice ap p.people.length cp, .slice ak p.keys.length ck, .slice aq p.squibs.length cq, .int .i64 p.panel, .int .i64 p.wait] 28)).alloc (.cells #[.int .i64 q] 3)).alloc (.cells #[.bool false] 4)).alloc (.cells #[.int .i64 0] 29) = V := ⟨_, rfl⟩
 rw [hW1] at HN ⊢
 clear hW1
 refine Calls.mono (HC.out W1 HN.out.ext) ?_
 rintro e w2 ⟨rfl, hx⟩
 replace HN := hide (HN.out.ext' hx)
 clear hx HC
 have c6 := Boxed.cell HN.out.rb
 have f6 := Boxed.frozen HN.out.rb
 have c7 := Boxed.cell HN.out.eb
 have f7 := Boxed.frozen HN.out.eb
 by_cases e0 : E = 0
 ·subst e0
  have p0 := cell_heap HN.out.pb 0 _ rfl
  have p4 := cell_heap HN.out.pb 4 _ rfl
  have q0 := Boxed.cell HN.out.qb
  have HO1 := hide (fun V => out_any z 0 ((p.zones.length : Int) - 1) V)
  have HO2 := hide (fun V => out_any q 0 ((p.squibs.length : Int) - 1) V)
  cases ho1 : outB z 0 ((p.zones.length : Int) - 1) with
  | true =>
    rw [ho1] at HO1
    have H4 := hide (show Re = 4 by rw [HRZ.out, ho1]; rfl)
    have HB := hide (show Rb = false by rw [HRR.out, H4.out]; rfl)
    clear ho1
    go_wp2_with (go_at_call 37; (first | (with_reducible refine (HO1.out _).mono ?_) | (with_reducible refine (HO2.out _).mono ?_)); rintro e w' ⟨rfl, rfl⟩)
    have hd9 := (HN.out.setB (.bool false)).setE (.int .i64 4)
    have r2 := Boxed.cell hd9.rb
    have e2 := Boxed.cell hd9.eb
    refine ⟨.tuple #[.bool false, .int .i64 4], by simp [results, Try.results19, go_sem, r2, e2], ?_⟩
    exact ⟨by rw [HB.out, H4.out], hd9.ext⟩
  | false =>
    rw [ho1] at HO1
    cases ho2 : outB q 0 ((p.squibs.length : Int) - 1) with
    | true =>
      rw [ho2] at HO2
      have H4 := hide (show Re = 4 by rw [HRZ.out, ho1, ho2]; rfl)
      have HB := hide (show Rb = false by rw [HRR.out, H4.out]; rfl)
      clear ho1 ho2
      go_wp2_with (go_at_call 37; (first | (with_reducible refine (HO1.out _).mono ?_) | (with_reducible refine (HO2.out _).mono ?_)); rintro e w' ⟨rfl, rfl⟩)
      have hd9 := (HN.out.setB (.bool false)).setE (.int .i64 4)
      have r2 := Boxed.cell hd9.rb
      have e2 := Boxed.cell hd9.eb
      refine ⟨.tuple #[.bool false, .int .i64 4], by simp [results, Try.results19, go_sem, r2, e2], ?_⟩
      exact ⟨by rw [HB.out, H4.out], hd9.ext⟩
    | false =>
      rw [ho2] at HO2
      have H4 := hide (show Re = 0 by rw [HRZ.out, ho1, ho2]; rfl)
      have hz2 := outB_f.1 ho1
      have hq2 := outB_f.1 ho2
      obtain ⟨z, rfl⟩ : ∃ n : Nat, z = n := ⟨z.toNat, by omega⟩
      obtain ⟨q, rfl⟩ : ∃ n : Nat, q = n := ⟨q.toNat, by omega⟩
      have hzl : z < p.zones.length := by omega
      have hql : q < p.squibs.length := by omega
      have HB := hide (show Rb = nearB (zoneOf p z) (squibOf p q) by rw [HRR.out, H4.out]; rfl)
      have HMEM := hide (near_mem (p := p) (z := z) (q := q) hql)
      have HOK := hide (padOk_of HE.out)
      clear ho1 ho2 hz2 hq2
      have p1 := cell_heap HN.out.pb 1 _ rfl
      have p2 := cell_heap HN.out.pb 2 _ rfl
      have p3 := cell_heap HN.out.pb 3 _ rfl
      have p5 := cell_heap HN.out.pb 5 _ rfl
      have p6 := cell_heap HN.out.pb 6 _ rfl
      go_wp2_with (go_at_call 37; (first | (with_reducible refine (HO1.out _).mono ?_) | (with_reducible refine (HO2.out _).mono ?_)); rintro e w' ⟨rfl, rfl⟩)
      refine (near_any az ad ap ak aq p.zones.length p.doors.length p.people.length p.keys.length p.squibs.length cz cd cp ck cq p.panel p.wait z w2).mono ?_
      rintro e w4 ⟨zb, pb, rfl, hx4, z1, z2, z3⟩
      replace HN := hide (HN.out.ext' hx4)
      replace HPAD := hide (HPAD.out.ext HN.out.ext)
      have HSEQ := hide (near_seq p.zones p.squibs z zb pb (.slice az p.zones.length cz) aq cq w4 (by omega) HOK.out.zin HOK.out.qin (fun q hq => by obtain ⟨A, c, h, _⟩ := HPAD.out.kv q hq; exact ⟨A, c, h⟩) z1 z2 z3 HPAD.out.z HPAD.out.q)
      have HRQ := hide (rows_lt HPAD.out.q)
      have HWS := hide HN.out.ext.size
      clear z1 z2 z3 hx4 p0 p1 p2 p3 p4 p5 p6 q0 c6 f6 c7 f7
      go_wp2_with fail
      refine range_ok (gf := 78) (encs := idxEnc) rfl (enters_of Try.func78 (by kernel_rfl) rfl) HSEQ.out
       (by intro k hk; rcases hk with ⟨h0, ho⟩ | h2
           ·have := HRQ.out k h0 ho; omega
           ·omega) (fun _ => rfl)
       (fun pre W' => (∀ x ∈ pre, x ≠ q) ∧ NrW w #[.slice az p.zones.length cz, .slice ad p.doors.length cd, .slice ap p.people.length cp, .slice ak p.keys.length ck, .slice aq p.squibs.length cq, .int .i64 p.panel, .int .i64 p.wait] q W' (.bool false) (.int .i64 0)) (fun c pre W' => c = .ret ∧ q ∈ pre ∧ NrW w #[.slice az p.zones.length cz, .slice ad p.doors.length cd, .slice ap p.people.length cp, .slice ak p.keys.length ck, .slice aq p.squibs.length cq, .int .i64 p.panel, .int .i64 p.wait] q W' (.bool true) (.int .i64 0))
       (fun s A B h k => ⟨h.1, h.2.turn k HWS.out⟩) (fun c s A B h k => ⟨h.1, h.2.1, h.2.2.turn k HWS.out⟩) ⟨(fun q hq => absurd hq (by simp)), HN.out⟩ ?_ ?_ ?_
      ·intro l0 pre x W0 Wr hszW hsp hI hx0 hokk
       have HPRE := hide hI.1
       replace HN := hide (hI.2.ext' hx0)
       clear hI hx0 hokk hsp
       simp only [idxEnc]
       gi_wp2
       refine ⟨KeepsFrom.refl _ _, fun k hk => rfl, fun W2 hT => ?_⟩
       replace HN := hide (HN.out.turn hT HWS.out)
       clear hT
       have q0 := Boxed.cell HN.out.qb
       have c6 := Boxed.cell HN.out.rb
       have f6 := Boxed.frozen HN.out.rb
       have c7 := Boxed.cell HN.out.eb
       have f7 := Boxed.frozen HN.out.eb
       by_cases hxq : x = q
       ·have hde : ((x : Int) == (q : Int)) = true := by simp [hxq]
        have HXQ := hide hxq
        clear hxq
        gi_wp2
        exact ⟨((KeepsOthers.setCell _ _ _).from _).trans ((KeepsOthers.setCell _ _ _).from _), rfl, (by rw [HXQ.out]; simp), (HN.out.setB (.bool true)).setE (.int .i64 0)⟩
       ·have hde : ((x : Int) == (q : Int)) = false := by simp; omega
        have HXQ := hide hxq
        clear hxq
        gi_wp2
        exact ⟨KeepsFrom.refl _ _, fun k hk => rfl, fun y hy => by
         rcases List.mem_append.1 hy with hy | hy
         ·exact HPRE.out y hy
         ·rw [List.mem_singleton.1 hy]; exact HXQ.out, HN.out⟩
      ·intro D xs Wd hD hS hI hK
       have HB2 := hide (show Rb = false by
        rw [HB.out]
        cases hnb : nearB (zoneOf p z) (squibOf p q) with
        | false => rfl
        | true => exact absurd rfl (hI.1 q (by rw [hS]; exact HMEM.out.2 hnb)))
       replace HN := hide hI.2
       have HK := hide hK
       clear hI hS hK
       have c6 := Boxed.cell HN.out.rb
       have f6 := Boxed.frozen HN.out.rb
       have c7 := Boxed.cell HN.out.eb
       have f7 := Boxed.frozen HN.out.eb
       go_wp2
       have hK9 : ((Wd.setCell ⟨w.heap.size + 1 + 1, 0, none⟩ (.bool false)).setCell ⟨w.heap.size + 1 + 1 + 1, 0, none⟩ (.int .i64 0)).heap[D]? = some (.deferred (some [])) := (KeepsOthers.setCell _ _ _).same D _ ((KeepsOthers.setCell _ _ _).same D _ HK.out rfl) rfl
       have hd9 := ((HN.out.setB (.bool false)).setE (.int .i64 0)).turn (Turn.putObj (B := w4.heap.size) (.deferred none) hK9 hD rfl) HWS.out
       have r2 := Boxed.cell hd9.rb
       have e2 := Boxed.cell hd9.eb
       refine ⟨by simp, .inl ⟨_, _, rfl, run_takeDeferred hK9, ?_⟩⟩
       refine ⟨.tuple #[.bool false, .int .i64 0], by simp [results, Try.results19, go_sem, r2, e2], ?_⟩
       exact ⟨by rw [HB2.out, H4.out], hd9.ext⟩
      ·intro D c pre Wd hD hSp hIx hK
       obtain ⟨rfl, hqp, hc9⟩ := hIx
       have HB2 := hide (show Rb = true by
        rw [HB.out]
        exact HMEM.out.1 (by obtain ⟨rest, hr⟩ := hSp; rw [← hr]; exact List.mem_append_left _ hqp))
       have hK9 := hK
       clear hSp hqp hK
       go_wp2
       have hd9 := hc9.turn (Turn.putObj (B := w4.heap.size) (.deferred none) hK9 hD rfl) HWS.out
       have r2 := Boxed.cell hd9.rb
       have e2 := Boxed.cell hd9.eb
       refine ⟨by simp, .inl ⟨_, _, rfl, run_takeDeferred hK9, ?_⟩⟩
       refine ⟨.tuple #[.bool true, .int .i64 0], by simp [results, Try.results19, go_sem, r2, e2], ?_⟩
       exact ⟨by rw [HB2.out, H4.out], hd9.ext⟩
 ·have hne : (E != 0) = true := by simpa using e0
  have H4 := hide (show Re = E by rw [HRZ.out, if_pos e0])
  have HB := hide (show Rb = false by rw [HRR.out, H4.out, if_neg e0])
  clear e0
  go_wp2_with fail
  have hd9 := (HN.out.setB (.bool false)).setE (.int .i64 E)
  have r2 := Boxed.cell hd9.rb
  have e2 := Boxed.cell hd9.eb
  refine ⟨.tuple #[.bool false, .int .i64 E], by simp [results, Try.results19, go_sem, r2, e2], ?_⟩
  exact ⟨by rw [HB.out, H4.out], hd9.ext⟩
end Go.Proofs.Ythcnganbnbhhoaa
