/- The walks of owed and formed. The walks of Index, Contains, armed and its closures, keyed's closure. -/
import Derived.Test.YthcnganbnbhhoaaSc2
import Derived.Laws.StructEq
namespace Go.Proofs.Ythcnganbnbhhoaa
open Go.RowKit Go.Shelf
theorem PadOk.keys_ge {p : Pad} (h : PadOk p) {q : SquibX} (hq : q ∈ p.squibs) : ∀ k, k < q.1.keys.length → (k : Int) ≤ q.1.keys.getD k 0 := by
 intro k
 induction k with
 | zero => intro hk; exact (h.qks q hq 0 hk).1
 | succ k ih =>
   intro hk
   have h1 := ih (by omega)
   have h2 := h.qso q hq k hk
   omega
theorem PadOk.keys_len {p : Pad} (h : PadOk p) {q : SquibX} (hq : q ∈ p.squibs) : q.1.keys.length ≤ 8 := by
 rcases Nat.eq_zero_or_pos q.1.keys.length with h0 | h0
 ·omega
 ·have h1 := h.keys_ge hq (q.1.keys.length - 1) (by omega)
  have h2 := (h.qks q hq (q.1.keys.length - 1) (by omega)).2
  have h3 := h.nk
  omega
theorem filter_take_succ (l : List Int) (f : Int → Bool) (k : Nat) (h : k < l.length) : (l.take (k + 1)).filter f = (l.take k).filter f ++ if f (l.getD k 0) = true then [l.getD k 0] else [] := by
 rw [List.take_succ_eq_append_getElem h, List.filter_append, List.getD_eq_getElem?_getD, List.getElem?_eq_getElem h, Option.getD_some]
 congr 1
 cases hf : f l[k] <;> simp [hf]
set_option maxRecDepth 100000 in
set_option maxHeartbeats 2000000 in
/-- owed -/
theorem owed_any (B : Nat) (X : SceneX) (p : Pad) (s : State) (q : Nat) (w : World) (h : SceneAt w B X p s) (hok : PadOk p) (hl : s.holder.length = p.keys.length) (hq : q < p.squibs.length) :
 Calls Try.prog 70 #[.pointer (some ⟨B, 0, none⟩), .int .i64 q] w fun e w' => ∃ v, e = .returned v ∧ IntsV w' .i64 v (owedL p s q) ∧ Ext w w' := by
 obtain ⟨⟨az, cz, ad, cd, ap, cp, ak, ck, aq, cq⟩, sz, zc, sh, hc, sq, qc⟩ := X
 have HSC := hide h
 have k4 := h.cell 4 _ rfl
 have k9 := h.cell 9 _ rfl
 have hkv := h.pad.kv _ (getD_in default hq)
 have hkl := hok.keys_len (getD_in default hq)
 have hks := hok.qks _ (getD_in default hq)
 obtain ⟨_, hc1, hc2, hrow⟩ := h.pad.q.rows
 obtain ⟨b, off, hA, hb, hc⟩ := ListV.at hrow hq
 have c5 := hc 5 (by omega)
 have hL : owedL p s q = (p.squibs.getD q default).1.keys.filter fun k => decide (0 ≤ s.holder.getD k.toNat 0) := by unfold owedL squibOf; rw [Int.toNat_natCast]
 obtain ⟨⟨qq, kv⟩, hqq⟩ : ∃ x, p.squibs.getD q default = x := ⟨_, rfl⟩
 rw [hqq] at c5 hkv hkl hks hL
 dsimp only [SquibX.cell] at c5 hkv hkl hks hL
 obtain ⟨ks, hkse⟩ : ∃ x, qq.keys = x := ⟨_, rfl⟩
 rw [hkse] at hkv hkl hks hL
 obtain ⟨Ak, ck, rfl, hck1, hck2, hkrow⟩ := hkv
 have hck3 : ck ≤ 9223372036854775807 := by simpa [maxLen] using hck2
 obtain ⟨_, hh1, hh2, hhrow⟩ := h.h.rows
 dsimp only [SceneX.cells] at k4 k9 hA
 obtain ⟨iI, hiI, hzI0, hzI1, hzI2⟩ := info_parts infoInt
 have HL := hide hL
 have HKS := hide hks
 have HHL := hide hl
 have HKROW := hide hkrow
 have HHROW := hide hhrow
 have hI := hide hiI
 have hI0 := hide hzI0
 have hI1 := hide hzI1
 have hI2 := hide hzI2
 subst hA
 clear hrow hqq hkse hL hks hl hkrow hhrow hok h hc hck2 hiI hzI0 hzI1 hzI2
 go_enter Try.func70, Try.ntmps70
 go_wp2
 go_loopw [17, 4] (fun v17 v4 wr => Hid (Ext w wr) ∧ ∃ k : Nat, k ≤ ks.length ∧ v17 = .int .i64 k ∧ Hid (Own wr w.heap.size 3 1 v4 ((ks.take k).filter fun k => decide (0 ≤ s.holder.getD k.toNat 0)).length (((ks.take k).filter fun k => decide (0 ≤ s.holder.getD k.toNat 0)).map (Value.int .i64)))) (fun v17 _ _ => ks.length - (intOf v17).toNat)
 case atStart => exact ⟨hide (Ext.refl _), 0, by omega, rfl, hide (Own.nil _ _ _ _)⟩
 case round =>
  obtain ⟨HX, k, hk, rfl, HO⟩ := hrel
  have k4 := HX.out.cell k4
  have k9 := HX.out.cell k9
  by_cases h8 : k < ks.length
  ·obtain ⟨bk, offk, x, hAk, hbk, ck0, HXK⟩ := ints_at (HKROW.out.ext HX.out) h8
   have hkx := HKS.out k h8
   have HFT := hide (filter_take_succ ks (fun k => decide (0 ≤ s.holder.getD k.toNat 0)) k h8)
   rw [HXK.out] at hkx HFT
   obtain ⟨y, rfl⟩ : ∃ y : Nat, x = y := ⟨x.toNat, by omega⟩
   have hy : y < s.holder.length := by have := HHL.out; omega
   obtain ⟨bh, offh, z, hAh, hbh, ch0, HXH⟩ := ints_at (HHROW.out.ext HX.out) hy
   have HSL := hide (show ((ks.take k).filter fun k => decide (0 ≤ s.holder.getD k.toNat 0)).length ≤ 8 from Nat.le_trans (List.length_filter_le _ _) (by rw [List.length_take]; omega))
   rw [Int.toNat_natCast, HXH.out] at HFT
   generalize ((ks.take k).filter fun k => decide (0 ≤ s.holder.getD k.toNat 0)) = L at *
   obtain ⟨A4, c4, rfl, hm1, hm2, _⟩ := HO.out.form
   subst hAk hAh
   clear hkx
   by_cases hz : 0 ≤ z
   ·have HZ := hide hz
    go_wp2_with (
     at_builtin
     refine wpList_app rfl (.tmp 30) (.tmp 32) 36 rfl w.heap.size 3 iI _ 1 8 Try.underlying36 hI.out hI0.out hI1.out hI2.out rfl _ L.length (L.map (Value.int .i64)) rfl (HO.out.alloc _) (some ⟨wr.heap.size, 0, none⟩) 1 1 [.int .i64 y] rfl (Own.lit wr wr.heap.size 3 1 1 #[.int .i64 y] (Nat.le_refl _) rfl (by simp [maxLen])).src (by simp [Value.oneCell']) ?_ ?_ ?_ ?_
     ·have := HSL.out; simp only [maxLen]; omega
     ·have := HSL.out; omega
     ·have := HX.out.size; simp; omega
     intro v7 w7 hown hbel
     have HW7 := hide hown
     have HB7 := hide hbel
     clear hown hbel)
    go_roundw
    case rel => exact ⟨hide (Ext.step (HX.out.alloc _) HB7.out (Nat.le_refl _)), k + 1, by omega, by go_num, by rw [HFT.out, if_pos (decide_eq_true HZ.out)]; simpa using HW7⟩
    case measure => simp [intOf]; omega
   ·have hz' : z < 0 := by omega
    have HZ := hide hz
    clear hz
    go_wp2_with fail
    go_roundw
    case rel => exact ⟨HX, k + 1, by omega, by go_num, by rw [HFT.out, if_neg (by rw [decide_eq_true_iff]; exact HZ.out), List.append_nil]; exact HO⟩
    case measure => simp [intOf]; omega
  ·obtain rfl : k = ks.length := by omega
   rw [List.take_length] at HO
   go_wp2_with fail
   go_ret
   exact ⟨_, rfl, by rw [HL.out]; exact HO.out.ints, HX.out⟩
end Go.Proofs.Ythcnganbnbhhoaa
namespace Go.Proofs.Ythcnganbnbhhoaa
open Go.RowKit Go.Shelf
set_option maxRecDepth 100000 in
set_option maxHeartbeats 1000000 in
/-- slices.Index at []int -/
theorem index_int (A : Option Addr) (n c : Nat) (l : List Int) (x : Int) (w : World) (h : IntsV w .i64 (.slice A n c) l) :
 Calls Try.prog 122 #[.slice A n c, .int .i64 x] w fun e w' => e = .returned (.int .i64 (firstIdx (fun k => decide (x = l.getD k 0)) l.length)) ∧ w = w' := by
 obtain ⟨rfl, hc1, hc2, hrow⟩ := h.rows
 have HROW := hide hrow
 clear hrow h
 have HS := hide (fun k => @firstIdx_some (fun k => decide (x = l.getD k 0)) l.length k)
 have HN := hide (@firstIdx_none (fun k => decide (x = l.getD k 0)) l.length)
 obtain ⟨R, hR⟩ : ∃ R, firstIdx (fun k => decide (x = l.getD k 0)) l.length = R := ⟨_, rfl⟩
 rw [hR] at HS HN ⊢
 clear hR
 go_enter Try.func122, Try.ntmps122
 go_wp2
 go_loop [8] (fun v8 => ∃ k : Nat, k ≤ l.length ∧ v8 = .int .i64 k ∧ Hid (∀ j, j < k → decide (x = l.getD j 0) = false)) (fun v8 => l.length - (intOf v8).toNat)
 case atStart => exact ⟨0, by omega, rfl, hide (fun j hj => absurd hj (by omega))⟩
 case round =>
  obtain ⟨k, hk, rfl, HS0⟩ := hrel
  by_cases h8 : k < l.length
  ·obtain ⟨b, off, y, hA, hb, c0, HX⟩ := ints_at HROW.out h8
   subst hA
   by_cases hxy : x = y
   ·have hde : (x == y) = true := by simpa using hxy
    have HF := hide (HS.out k HS0.out h8 (by rw [HX.out]; exact decide_eq_true hxy))
    clear hxy
    go_wp2
    go_ret
    exact ⟨ret_int (by rw [HF.out]), rfl⟩
   ·have hde : (x == y) = false := by simpa using hxy
    have HXY := hide (show decide (x = l.getD k 0) = false by rw [HX.out]; exact decide_eq_false hxy)
    clear hxy
    go_wp2
    go_round
    case rel => exact ⟨k + 1, by omega, by go_num, hide (fun j hj => by
     by_cases hjk : j = k
     ·rw [hjk]; exact HXY.out
     ·exact HS0.out j (by omega))⟩
    case measure => simp [intOf]; omega
  ·obtain rfl : k = l.length := by omega
   have HF := hide (HN.out HS0.out)
   go_wp2
   go_ret
   exact ⟨ret_int (by rw [HF.out]), rfl⟩
set_option maxRecDepth 100000 in
set_option maxHeartbeats 1000000 in
/-- slices.Contains at []int -/
theorem contains_int (A : Option Addr) (n c : Nat) (l : List Int) (x : Int) (w : World) (h : IntsV w .i64 (.slice A n c) l) :
 Calls Try.prog 117 #[.slice A n c, .int .i64 x] w fun e w' => e = .returned (.bool (anyB (fun k => decide (x = l.getD k 0)) l.length)) ∧ w = w' := by
 have HC := hide (index_int A n c l x w h)
 clear h
 go_enter Try.func117, Try.ntmps117
 go_wp2_with (go_at_call 122; refine HC.out.mono ?_; rintro e w' ⟨rfl, rfl⟩)
 go_ret
 exact ⟨ret_bool (by simp [anyB]), rfl⟩
theorem run_eql_door (a b c d : Int) (w : World) : (binOp .eql 89 (.agg #[.int .i64 a, .int .i64 b]) (.agg #[.int .i64 c, .int .i64 d])).run Try.prog w = .ok (.bool (a == c && b == d)) w := by
 have hS : Try.prog.underlying 89 = some (.struct (Try.prog.fieldsOf 89)) := by kernel_rfl
 have u3 := Try.underlying3
 have a3 := Try.isAgg3
 have z3 := Try.sizeOf3
 rw [run_eql_struct, show (10000 : Nat) = 9999 + 1 from rfl, run_equalIn_agg w 9999 89 _ _ hS (by kernel_rfl)]
 simp only [Program.fieldsOf, Try.underlying89]
 go_simp
 by_cases h1 : a = c <;> by_cases h2 : b = d <;> simp [h1, h2]
set_option maxRecDepth 100000 in
set_option maxHeartbeats 1000000 in
/-- slices.Index at []PdDoor -/
theorem index_door (A : Option Addr) (n c : Nat) (l : List Door) (x y : Int) (w : World) (h : ListV 2 Door.cell w (.slice A n c) l) :
 Calls Try.prog 121 #[.slice A n c, .agg #[.int .i64 x, .int .i64 y]] w fun e w' => e = .returned (.int .i64 (firstIdx (fun k => decide (x = (l.getD k default).a) && decide (y = (l.getD k default).b)) l.length)) ∧ Ext w w' := by
 obtain ⟨rfl, hc1, hc2, hrow⟩ := h.rows
 have HROW := hide hrow
 clear hrow h
 have HS := hide (fun k => @firstIdx_some (fun k => decide (x = (l.getD k default).a) && decide (y = (l.getD k default).b)) l.length k)
 have HN := hide (@firstIdx_none (fun k => decide (x = (l.getD k default).a) && decide (y = (l.getD k default).b)) l.length)
 have hql := run_eql_door
 have hqg : Try.prog.eqGuardType Try.prog.depth 89 = false := by kernel_rfl
 obtain ⟨R, hR⟩ : ∃ R, firstIdx (fun k => decide (x = (l.getD k default).a) && decide (y = (l.getD k default).b)) l.length = R := ⟨_, rfl⟩
 rw [hR] at HS HN ⊢
 clear hR
 go_enter Try.func121, Try.ntmps121
 go_wp2
 obtain ⟨W1, hW1⟩ : ∃ W1, w.alloc (.cells #[.int .i64 x, .int .i64 y] 89) = W1 := ⟨_, rfl⟩
 have HX1 : Hid (Ext w W1) := hide (by rw [← hW1]; exact (Ext.refl _).alloc _)
 have d0 : W1.cell? ⟨w.heap.size, 0, none⟩ = some (.int .i64 x) := by rw [← hW1]; exact cell_mk w _ _ 0 _ rfl
 have d1 : W1.cell? ⟨w.heap.size, 1, none⟩ = some (.int .i64 y) := by rw [← hW1]; exact cell_mk w _ _ 1 _ rfl
 rw [hW1]
 clear hW1
 go_loopw [8] (fun v8 wr => Hid (Ext W1 wr) ∧ ∃ k : Nat, k ≤ l.length ∧ v8 = .int .i64 k ∧ Hid (∀ j, j < k → (decide (x = (l.getD j default).a) && decide (y = (l.getD j default).b)) = false)) (fun v8 _ => l.length - (intOf v8).toNat)
 case atStart => exact ⟨hide (Ext.refl _), 0, by omega, rfl, hide (fun j hj => absurd hj (by omega))⟩
 case round =>
  obtain ⟨HE, k, hk, rfl, HS0⟩ := hrel
  replace d0 := HE.out.cell d0
  replace d1 := HE.out.cell d1
  by_cases h8 : k < l.length
  ·obtain ⟨b, off, hA, hb, hc⟩ := ListV.at (HROW.out.ext (HX1.out.trans HE.out)) h8
   have c0 := hc 0 (by omega)
   have c1 := hc 1 (by omega)
   obtain ⟨d, hd⟩ : ∃ d, l.getD k default = d := ⟨_, rfl⟩
   have HDD := hide hd
   rw [hd] at c0 c1
   obtain ⟨da, db⟩ := d
   simp only [Door.cell, Nat.add_zero] at c0 c1
   subst hA
   clear hd hc
   by_cases hxy : x = da ∧ y = db
   ·obtain ⟨rfl, rfl⟩ := hxy
    have HF := hide (HS.out k HS0.out h8 (by rw [HDD.out]; simp))
    go_wp2_with fail
    go_quiet (fail)
    go_wp2_with fail
    go_ret
    exact ⟨ret_int (by rw [HF.out]), (HX1.out.trans HE.out).drewN _⟩
   ·have hde : (decide (x = da) && decide (y = db)) = false := by simpa using hxy
    have hde2 : (x == da && y == db) = false := by simpa using hxy
    have hde3 : (x == da && (y == db && true)) = false := by simpa using hxy
    have HXY := hide (show (decide (x = (l.getD k default).a) && decide (y = (l.getD k default).b)) = false by rw [HDD.out]; exact hde)
    have HNE := hide hxy
    clear hxy
    go_wp2_with fail
    go_quiet (fail)
    go_wp2_with fail
    go_roundw
    case rel => exact ⟨hide (HE.out.drewN _), k + 1, by omega, by go_num, hide (fun j hj => by
     by_cases hjk : j = k
     ·rw [hjk]; exact HXY.out
     ·exact HS0.out j (by omega))⟩
    case measure => simp [intOf]; omega
  ·obtain rfl : k = l.length := by omega
   have HF := hide (HN.out HS0.out)
   go_wp2_with fail
   go_ret
   exact ⟨ret_int (by rw [HF.out]), HX1.out.trans HE.out⟩
set_option maxRecDepth 100000 in
set_option maxHeartbeats 1000000 in
/-- slices.Contains at []PdDoor -/
theorem contains_door (A : Option Addr) (n c : Nat) (l : List Door) (x y : Int) (w : World) (h : ListV 2 Door.cell w (.slice A n c) l) :
 Calls Try.prog 113 #[.slice A n c, .agg #[.int .i64 x, .int .i64 y]] w fun e w' => e = .returned (.bool (anyB (fun k => decide (x = (l.getD k default).a) && decide (y = (l.getD k default).b)) l.length)) ∧ Ext w w' := by
 have HC := hide (index_door A n c l x y (w.alloc (.cells #[.int .i64 x, .int .i64 y] 89)) (h.ext ((Ext.refl _).alloc _)))
 clear h
 go_enter Try.func113, Try.ntmps113
 go_wp2_with (go_at_call 121; refine HC.out.mono ?_; rintro e w' ⟨rfl, hx⟩)
 go_ret
 exact ⟨ret_bool (by simp [anyB]), ((Ext.refl _).alloc _).trans hx⟩
/-- A function value that tells of each squib whether f holds. -/
def TellsQ (w : World) (g : FuncId) (lb : Array Value) (p : Pad) (f : Nat → Bool) : Prop :=
 ∀ k w1, k < p.squibs.length → Ext w w1 → Calls Try.prog g (#[SquibX.val (p.squibs.getD k default)] ++ lb) w1 fun e w2 => e = .returned (.bool (f k)) ∧ Ext w1 w2
set_option maxRecDepth 100000 in
set_option maxHeartbeats 2000000 in
/-- armed -/
theorem armed_any (g : FuncId) (lb : Array Value) (heg : Enters Try.prog g) (f : Nat → Bool) (B : Nat) (X : SceneX) (p : Pad) (s : State) (w : World) (h : SceneAt w B X p s) (hl : s.squibs.length = p.squibs.length) (ht : TellsQ w g lb p f) :
 Calls Try.prog 115 #[.pointer (some ⟨B, 0, none⟩), .func (.func g) #[] lb] w fun e w' => e = .returned (.bool (armedB s f)) ∧ Ext w w' := by
 obtain ⟨⟨az, cz, ad, cd, ap, cp, ak, ck, aq, cq⟩, sz, zc, sh, hc, sq, qc⟩ := X
 have HSC := hide h
 have k4 := h.k4
 have k10 := h.k10
 obtain ⟨_, hc1, hc2, hrow⟩ := h.pad.q.rows
 obtain ⟨_, hh1, hh2, hqrow⟩ := h.q.rows
 dsimp only at k4 k10 hc1 hc2 hrow
 have HROW := hide hrow
 have HQROW := hide hqrow
 have HT := hide ht
 have HL := hide hl
 have HKV := hide h.pad.kv
 have HNF := hide (show (∀ j, j < s.squibs.length → (decide (s.squibs.getD j 0 = 1) && f j) = false) → armedB s f = false from fun hh => anyB_f.2 hh)
 have HNT := hide (show ∀ j, j < s.squibs.length → (decide (s.squibs.getD j 0 = 1) && f j) = true → armedB s f = true from fun j hj hh => anyB_t.2 ⟨j, hj, hh⟩)
 obtain ⟨R, hR⟩ : ∃ R, armedB s f = R := ⟨_, rfl⟩
 rw [hR] at HNF HNT ⊢
 unfold Enters at heg
 clear hrow hqrow ht hl h hR
 go_enter Try.func115, Try.ntmps115
 go_wp2
 go_loopw [13] (fun v13 wr => Hid (Ext w wr) ∧ ∃ k : Nat, k ≤ s.squibs.length ∧ v13 = .int .i64 k ∧ Hid (∀ j, j < k → (decide (s.squibs.getD j 0 = 1) && f j) = false)) (fun v13 _ => s.squibs.length - (intOf v13).toNat)
 case atStart => exact ⟨hide (Ext.refl _), 0, by omega, rfl, hide (fun j hj => absurd hj (by omega))⟩
 case round =>
  obtain ⟨HE, k, hk, rfl, HS0⟩ := hrel
  replace k4 := HE.out.cell k4
  replace k10 := HE.out.cell k10
  by_cases h8 : k < s.squibs.length
  ·obtain ⟨b, off, x, hA, hb, c0, HX⟩ := ints_at (HQROW.out.ext HE.out) h8
   subst hA
   by_cases hx1 : x = 1
   ·subst hx1
    have hkp : k < p.squibs.length := by have := HL.out; omega
    obtain ⟨b2, off2, hA2, hb2, hc⟩ := ListV.at (HROW.out.ext HE.out) hkp
    have e0 := hc 0 (by omega)
    have e1 := hc 1 (by omega)
    have e2 := hc 2 (by omega)
    have e3 := hc 3 (by omega)
    have e4 := hc 4 (by omega)
    have e5 := hc 5 (by omega)
    have hcall := HT.out k wr hkp HE.out
    have hkv := HKV.out _ (getD_in default hkp)
    obtain ⟨qv, hqv⟩ : ∃ q, p.squibs.getD k default = q := ⟨_, rfl⟩
    rw [hqv] at e0 e1 e2 e3 e4 e5 hcall hkv
    obtain ⟨⟨qn, qx, qy, qc', qg, qk⟩, kv⟩ := qv
    obtain ⟨A', c', hkv, _, _, _⟩ := hkv
    dsimp only at hkv
    subst hkv
    simp only [SquibX.cell, Nat.add_zero] at e0 e1 e2 e3 e4 e5
    unfold SquibX.val at hcall
    dsimp only at hcall
    have HC := hide hcall
    subst hA2
    clear hc hqv hcall
    cases hf : f k with
    | false =>
      have HFK := hide (show (decide (s.squibs.getD k 0 = 1) && f k) = false by rw [hf, Bool.and_false])
      rw [hf] at HC
      clear hf
      go_wp2_with fail
      refine Calls.mono HC.out ?_
      rintro e w2 ⟨rfl, hx2⟩
      go_wp2_with fail
      go_roundw
      case rel => exact ⟨hide (HE.out.trans hx2), k + 1, by omega, by go_num, hide (fun j hj => by
       by_cases hjk : j = k
       ·rw [hjk]; exact HFK.out
       ·exact HS0.out j (by omega))⟩
      case measure => simp [intOf]; omega
    | true =>
      have HFK := hide (HNT.out k h8 (by rw [hf, HX.out]; rfl))
      rw [hf] at HC
      clear hf
      go_wp2_with fail
      refine Calls.mono HC.out ?_
      rintro e w2 ⟨rfl, hx2⟩
      go_wp2_with fail
      go_ret
      exact ⟨ret_bool (by rw [HFK.out]), HE.out.trans hx2⟩
   ·have hde : (x == 1) = false := by simpa using hx1
    have HFK := hide (show (decide (s.squibs.getD k 0 = 1) && f k) = false by rw [HX.out]; simp [hx1])
    clear hx1
    go_wp2_with fail
    go_roundw
    case rel => exact ⟨HE, k + 1, by omega, by go_num, hide (fun j hj => by
     by_cases hjk : j = k
     ·rw [hjk]; exact HFK.out
     ·exact HS0.out j (by omega))⟩
    case measure => simp [intOf]; omega
  ·obtain rfl : k = s.squibs.length := by omega
   have HF := hide (HNF.out HS0.out)
   go_wp2_with fail
   go_ret
   exact ⟨ret_bool (by rw [HF.out]), HE.out⟩
set_option maxRecDepth 100000 in
set_option maxHeartbeats 1000000 in
/-- siren$1 -/
theorem siren1_any (q : SquibX) (w : World) : Calls Try.prog 119 #[q.val] w fun e w' => e = .returned (.bool true) ∧ Ext w w' := by
 obtain ⟨⟨qn, qx, qy, qc', qg, qk⟩, kv⟩ := q
 unfold SquibX.val
 dsimp only
 go_enter Try.func119, Try.ntmps119
 go_wp2
 go_ret
 exact ⟨rfl, (Ext.refl _).alloc _⟩
set_option maxRecDepth 100000 in
set_option maxHeartbeats 1000000 in
/-- take$1 -/
theorem take1_any (q : SquibX) (b : Nat) (k : Int) (w : World) (hk : IntsV w .i64 q.2 q.1.keys) (hb : w.cell? ⟨b, 3, none⟩ = some (.int .i64 k)) :
 Calls Try.prog 116 #[q.val, .pointer (some ⟨b, 0, none⟩)] w fun e w' => e = .returned (.bool (anyB (fun j => decide (k = q.1.keys.getD j 0)) q.1.keys.length)) ∧ Ext w w' := by
 obtain ⟨⟨qn, qx, qy, qc', qg, qk⟩, kv⟩ := q
 have HK := hide hk
 obtain ⟨A', c', hkv, _, _, _⟩ := hk
 dsimp only at hkv
 subst hkv
 dsimp only at HK
 unfold SquibX.val
 dsimp only
 have hlt := World.block_lt_of_cell? _ _ hb
 have HC := hide (contains_int A' qk.length c' qk k (w.alloc (.cells #[.string qn, .int .i64 qx, .int .i64 qy, .int .i64 qc', .int .i64 qg, .slice A' qk.length c'] 55)) (HK.out.ext ((Ext.refl _).alloc _)))
 go_enter Try.func116, Try.ntmps116
 go_wp2_with (go_at_call 117; refine HC.out.mono ?_; rintro e w' ⟨rfl, rfl⟩)
 go_ret
 exact ⟨ret_bool rfl, (Ext.refl _).alloc _⟩
set_option maxRecDepth 100000 in
set_option maxHeartbeats 1000000 in
/-- keyed$1 -/
theorem keyed1_any (k i : Int) (b3 b4 : Nat) (B : Nat) (X : SceneX) (p : Pad) (s : State) (w : World) (h : SceneAt w B X p s) (h3 : w.cell? ⟨b3, 0, none⟩ = some (.pointer (some ⟨B, 0, none⟩))) (h4 : w.cell? ⟨b4, 0, none⟩ = some (.int .i64 i)) (hk0 : 0 ≤ k) (hk1 : k < s.holder.length) :
 Calls Try.prog 110 #[.int .i64 k, .pointer (some ⟨b3, 0, none⟩), .pointer (some ⟨b4, 0, none⟩)] w fun e w' => e = .returned (.bool (decide (s.holder.getD k.toNat 0 = i))) ∧ Ext w w' := by
 obtain ⟨⟨az, cz, ad, cd, ap, cp, ak, ck, aq, cq⟩, sz, zc, sh, hc, sq, qc⟩ := X
 obtain ⟨n, rfl⟩ : ∃ n : Nat, k = n := ⟨k.toNat, by omega⟩
 have k9 := h.k9
 obtain ⟨_, hc1, hc2, hrow⟩ := h.h.rows
 obtain ⟨b, off, x, hA, hb, c0, HX⟩ := ints_at hrow (show n < s.holder.length by omega)
 rw [Int.toNat_natCast, HX.out]
 have HB := hide (show decide (x = i) = (x == i) by rw [Bool.eq_iff_iff]; simp)
 rw [HB.out]
 dsimp only at k9 hA
 subst hA
 clear hrow h
 go_enter Try.func110, Try.ntmps110
 go_wp2_with fail
 apply wp_region_f [5, 6, 7, 8, 9, 10, 11, 12, 13, 14, 4]
  [.is _, .is _, .is _, .is _, .is _, .is _, .is _, .is _, .is _, .is _, .is _]
  [(0, _), (1, _), (2, _)]
 ·kernel_rfl
 ·decide
 ·rfl
 ·kernel_rfl
 ·decide +kernel
 iterate 4 (· kernel_rfl)
 ·rfl
 ·exact keepsIs _ rfl
 ·refine ⟨?_, ?_, ?_, trivial⟩ <;> (simp; rfl)
 ·repeat
   refine ⟨?_, ?_⟩
   ·intro F W hF hd hR
    simp [fixedAt] at hF
    obtain ⟨t0, t1, t2⟩ := hF
    simp [Region.binds, Ent.holds] at hd
    refine ⟨fun _ K hK => ?_, by intro g b h hn; first | (cases h; done) | (cases h; exact absurd (by simp [hd]) hn)⟩
    simp only [Ent.holds, List.getD_cons_zero, List.getD_cons_succ] at hK
    have k9' := hR.cell k9
    have c0' := hR.cell c0
    have h3' := hR.cell h3
    have h4' := hR.cell h4
    go_simp
    first
     | exact hK _ _ rfl (Ext.refl _)
  exact trivial
 intro X W hx hR
 simp only [toldX] at hx
 simp only [fillX, List.setIfInBounds_toArray, List.set_cons_succ, List.set_cons_zero]
 go_wp2_with fail
 go_ret
 exact ⟨ret_bool rfl, hR⟩
end Go.Proofs.Ythcnganbnbhhoaa
