/- The walks of the reference's Same and Errors, of equal states and of lists. -/
import Derived.Test.YthcnganbnbhhoaaOut
import Derived.Test.YthcnganbnbhhoaaCs
namespace Go.Proofs.Ythcnganbnbhhoaa
open Go.RowKit Go.Shelf
set_option maxRecDepth 100000 in
set_option maxHeartbeats 400000 in
/-- ref.Errors -/
theorem errors_any (v v' : Value) (l m : List Int) (w : World) (hv : IntsV w .i64 v l) (hv' : IntsV w .i64 v' m) :
 Calls Try.prog 29 #[v, v'] w fun e w' => e = .returned (.bool (decide (l = m))) ∧ Ext w w' := by
 obtain ⟨A, cap, rfl, hcap, hmax, hrow⟩ := hv
 obtain ⟨A', cap', rfl, hcap', hmax', hrow'⟩ := hv'
 have hm : cap ≤ 9223372036854775807 := by simpa [maxLen] using hmax
 have hm' : cap' ≤ 9223372036854775807 := by simpa [maxLen] using hmax'
 clear hmax hmax'
 by_cases hlen : l.length = m.length
 ·have hb : (((l.length : Nat) : Int) != ((m.length : Nat) : Int)) = false := by simp; omega
  have HL := hide hlen
  clear hlen
  go_enter Try.func29, Try.ntmps29
  go_wp2
  go_loopw [5] (fun i wr => Ext w wr ∧ ∃ k : Nat, k ≤ l.length ∧ i = .int .i64 k ∧ ∀ j, j < k → l.getD j 0 = m.getD j 0) (fun i _ => l.length - (intOf i).toNat)
  case atStart => exact ⟨Ext.refl _, 0, by omega, rfl, fun j hj => absurd hj (by omega)⟩
  case round =>
   obtain ⟨hext, k, hk, rfl, hsame⟩ := hrel
   have HS := hide hsame
   clear hsame
   by_cases h8 : k < l.length
   ·obtain ⟨b, off, x, rfl, _, hck, HX⟩ := ints_at (hrow.ext hext) h8
    obtain ⟨b', off', y, rfl, _, hck', HY⟩ := ints_at (hrow'.ext hext) (by have := HL.out; omega : k < m.length)
    have h8' : k < m.length := by have := HL.out; omega
    clear hrow hrow'
    by_cases hxy : x = y
    ·have hd : (x != y) = false := by simp [hxy]
     have HXY := hide hxy
     clear hxy
     go_wp2
     go_quiet (fail)
     go_wp2
     go_roundw
     case rel =>
      refine ⟨hext.drewN _, k + 1, by omega, by go_num, fun j hj => ?_⟩
      by_cases hjk : j = k
      ·rw [hjk, HX.out, HY.out, HXY.out]
      ·exact HS.out j (by omega)
     case measure => simp [intOf]; omega
    ·have hd : (x != y) = true := by simp [hxy]
     go_wp2
     go_quiet (fail)
     go_wp2
     go_ret
     refine ⟨ret_bool ?_, hext.drewN _⟩
     have : l ≠ m := fun h => hxy (by rw [← HX.out, ← HY.out, h])
     simp [this]
   ·obtain rfl : k = l.length := by omega
    go_wp2
    go_ret
    refine ⟨ret_bool ?_, hext⟩
    have : l = m := List.ext_getElem HL.out (fun i h1 h2 => by have := HS.out i h1; simpa [List.getD_eq_getElem?_getD, h1, h2] using this)
    simp [this]
 ·have hb : (((l.length : Nat) : Int) != ((m.length : Nat) : Int)) = true := by simp; omega
  go_enter Try.func29, Try.ntmps29
  go_wp2
  go_ret
  refine ⟨ret_bool ?_, Ext.refl _⟩
  have : l ≠ m := fun h => hlen (by rw [h])
  simp [this]
theorem ints_self (v v' : Value) (l : List Int) (w : World) (hv : IntsV w .i64 v l) (hv' : IntsV w .i64 v' l) : Calls Try.prog 32 #[v, v'] w fun e w' => e = .returned (.bool true) ∧ Ext w w' :=
 (ints1_any v v' l l w hv hv').mono (by rintro e w' ⟨rfl, hx⟩; exact ⟨by simp, hx⟩)
theorem errors_self (v v' : Value) (l : List Int) (w : World) (hv : IntsV w .i64 v l) (hv' : IntsV w .i64 v' l) : Calls Try.prog 29 #[v, v'] w fun e w' => e = .returned (.bool true) ∧ Ext w w' :=
 (errors_any v v' l l w hv hv').mono (by rintro e w' ⟨rfl, hx⟩; exact ⟨by simp, hx⟩)
theorem Blk.two (w : World) (t : TypeId) (cs ds : Array Value) : Ext w ((w.alloc (.cells cs t)).alloc (.cells ds t)) ∧ Blk ((w.alloc (.cells cs t)).alloc (.cells ds t)) w.heap.size t cs ∧ Blk ((w.alloc (.cells cs t)).alloc (.cells ds t)) (w.heap.size + 1) t ds := by
 refine ⟨((Ext.refl _).alloc _).alloc _, (Blk.new w t cs).ext ((Ext.refl _).alloc _), ?_⟩
 have := Blk.new (w.alloc (.cells cs t)) t ds
 rwa [World.size_alloc] at this
theorem stateV_rows {w : World} {v : Value} {s : State} : StateV w v s ↔ ∃ A1 c1 A2 c2 A3 c3, v = .agg #[.int .i64 s.now, .slice A1 s.zones.length c1, .slice A2 s.holder.length c2, .slice A3 s.squibs.length c3, .int .i64 s.siren, .bool s.storm] ∧ IntsV w .i64 (.slice A1 s.zones.length c1) s.zones ∧ IntsV w .i64 (.slice A2 s.holder.length c2) s.holder ∧ IntsV w .i64 (.slice A3 s.squibs.length c3) s.squibs := by
 constructor
 ·rintro ⟨a, b, c, rfl, h1, h2, h3⟩
  have k1 := h1
  have k2 := h2
  have k3 := h3
  obtain ⟨A1, c1, rfl, _⟩ := h1
  obtain ⟨A2, c2, rfl, _⟩ := h2
  obtain ⟨A3, c3, rfl, _⟩ := h3
  exact ⟨A1, c1, A2, c2, A3, c3, rfl, k1, k2, k3⟩
 ·rintro ⟨A1, c1, A2, c2, A3, c3, rfl, h1, h2, h3⟩
  exact ⟨_, _, _, rfl, h1, h2, h3⟩
set_option maxRecDepth 100000 in
set_option maxHeartbeats 1000000 in
/-- Same, of two equal states -/
theorem same_self (sv tv : Value) (s : State) (w : World) (hs : StateV w sv s) (ht : StateV w tv s) : Calls Try.prog 23 #[sv, tv] w fun e w' => e = .returned (.bool true) ∧ Ext w w' := by
 obtain ⟨A1, c1, A2, c2, A3, c3, rfl, h1, h2, h3⟩ := stateV_rows.1 hs
 obtain ⟨B1, d1, B2, d2, B3, d3, rfl, k1, k2, k3⟩ := stateV_rows.1 ht
 have HZ := hide (fun V (hx : Ext w V) => ints_self _ _ _ V (h1.ext hx) (k1.ext hx))
 have HH := hide (fun V (hx : Ext w V) => ints_self _ _ _ V (h2.ext hx) (k2.ext hx))
 have HQ := hide (fun V (hx : Ext w V) => ints_self _ _ _ V (h3.ext hx) (k3.ext hx))
 clear hs ht h1 h2 h3 k1 k2 k3
 have HBOX := hide (Blk.two w 38 #[.int .i64 s.now, .slice A1 s.zones.length c1, .slice A2 s.holder.length c2, .slice A3 s.squibs.length c3, .int .i64 s.siren, .bool s.storm] #[.int .i64 s.now, .slice B1 s.zones.length d1, .slice B2 s.holder.length d2, .slice B3 s.squibs.length d3, .int .i64 s.siren, .bool s.storm])
 go_enter Try.func23, Try.ntmps23
 go_wp2_with fail
 obtain ⟨W1, hW1⟩ : ∃ V, (w.alloc (.cells #[.int .i64 s.now, .slice A1 s.zones.length c1, .slice A2 s.holder.length c2, .slice A3 s.squibs.length c3, .int .i64 s.siren, .bool s.storm] 38)).alloc (.cells #[.int .i64 s.now, .slice B1 s.zones.length d1, .slice B2 s.holder.length d2, .slice B3 s.squibs.length d3, .int .i64 s.siren, .bool s.storm] 38) = V := ⟨_, rfl⟩
 rw [hW1] at HBOX ⊢
 obtain ⟨HX, HA, HB⟩ := HBOX.out
 clear HBOX hW1
 refine Calls.mono (HZ.out _ HX) ?_
 rintro e w2 ⟨rfl, hx⟩
 replace HX := hide (HX.trans hx)
 replace HA := hide (HA.ext hx)
 replace HB := hide (HB.ext hx)
 clear hx HZ
 have a0 := cell_heap HA.out 0 _ rfl
 have b0 := cell_heap HB.out 0 _ rfl
 have a1 := cell_heap HA.out 1 _ rfl
 have b1 := cell_heap HB.out 1 _ rfl
 have a2 := cell_heap HA.out 2 _ rfl
 have b2 := cell_heap HB.out 2 _ rfl
 have a3 := cell_heap HA.out 3 _ rfl
 have b3 := cell_heap HB.out 3 _ rfl
 have a4 := cell_heap HA.out 4 _ rfl
 have b4 := cell_heap HB.out 4 _ rfl
 have a5 := cell_heap HA.out 5 _ rfl
 have b5 := cell_heap HB.out 5 _ rfl
 go_wp2_with fail
 refine Calls.mono (HH.out _ HX.out) ?_
 rintro e w3 ⟨rfl, hx⟩
 replace HX := hide (HX.out.trans hx)
 replace HA := hide (HA.out.ext hx)
 replace HB := hide (HB.out.ext hx)
 clear hx HH a0 b0 a1 b1 a2 b2 a3 b3 a4 b4 a5 b5
 have a0 := cell_heap HA.out 0 _ rfl
 have b0 := cell_heap HB.out 0 _ rfl
 have a1 := cell_heap HA.out 1 _ rfl
 have b1 := cell_heap HB.out 1 _ rfl
 have a2 := cell_heap HA.out 2 _ rfl
 have b2 := cell_heap HB.out 2 _ rfl
 have a3 := cell_heap HA.out 3 _ rfl
 have b3 := cell_heap HB.out 3 _ rfl
 have a4 := cell_heap HA.out 4 _ rfl
 have b4 := cell_heap HB.out 4 _ rfl
 have a5 := cell_heap HA.out 5 _ rfl
 have b5 := cell_heap HB.out 5 _ rfl
 go_wp2_with fail
 refine Calls.mono (HQ.out _ HX.out) ?_
 rintro e w4 ⟨rfl, hx⟩
 replace HX := hide (HX.out.trans hx)
 clear hx HQ a0 b0 a1 b1 a2 b2 a3 b3 a4 b4 a5 b5
 go_wp2_with fail
 go_ret
 exact ⟨rfl, HX.out⟩
end Go.Proofs.Ythcnganbnbhhoaa
