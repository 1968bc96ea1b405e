/- The walks of pad.named at its four types, with the functions that Check hands to it. The walks of pad.named at keys and squibs. -/
import Derived.Test.YthcnganbnbhhoaaSeen
import Derived.Deep.OwnRows
namespace Go.Proofs.Ythcnganbnbhhoaa
open Go.RowKit Go.Shelf Go.Maps
/-- A key has no error but of its name. -/
def keyE (_ : ByteArray) : Int := 0
def personE (d : Person) : Int := if outB d.grade 0 9 = true then 7 else 0
set_option maxRecDepth 100000 in
set_option maxHeartbeats 400000 in
/-- pad.Check$1 -/
theorem check1_any (nm : ByteArray) (a b c d gr rm : Int) (pr : Bool) (w : World) : Calls Try.prog 39 #[.agg #[.string nm, .int .i64 a, .int .i64 b, .int .i64 c, .int .i64 d, .int .i64 gr, .int .i64 rm, .bool pr]] w fun e w' => e = .returned (.string nm) ∧ Ext w w' := by
 go_enter Try.func39, Try.ntmps39
 go_wp2
 go_ret
 exact ⟨rfl, (Ext.refl _).alloc _⟩
set_option maxRecDepth 100000 in
set_option maxHeartbeats 400000 in
/-- pad.Check$2 -/
theorem check2_any (nm : ByteArray) (gr : Int) (w : World) : Calls Try.prog 42 #[.agg #[.string nm, .int .i64 gr]] w fun e w' => e = .returned (.string nm) ∧ Ext w w' := by
 go_enter Try.func42, Try.ntmps42
 go_wp2
 go_ret
 exact ⟨rfl, (Ext.refl _).alloc _⟩
set_option maxRecDepth 100000 in
set_option maxHeartbeats 400000 in
/-- pad.Check$6 -/
theorem check6_any (nm : ByteArray) (x y cl gr : Int) (kv : Value) (w : World) : Calls Try.prog 49 #[.agg #[.string nm, .int .i64 x, .int .i64 y, .int .i64 cl, .int .i64 gr, kv]] w fun e w' => e = .returned (.string nm) ∧ Ext w w' := by
 go_enter Try.func49, Try.ntmps49
 go_wp2
 go_ret
 exact ⟨rfl, (Ext.refl _).alloc _⟩
set_option maxRecDepth 100000 in
set_option maxHeartbeats 400000 in
/-- pad.Check$4 -/
theorem check4_any (nm : ByteArray) (w : World) : Calls Try.prog 46 #[.string nm] w fun e w' => e = .returned (.string nm) ∧ Ext w w' := by
 go_enter Try.func46, Try.ntmps46
 go_wp2
 go_ret
 exact ⟨rfl, Ext.refl _⟩
set_option maxRecDepth 100000 in
set_option maxHeartbeats 400000 in
/-- pad.Check$5 -/
theorem check5_any (nm : ByteArray) (w : World) : Calls Try.prog 47 #[.string nm] w fun e w' => e = .returned (.int .i64 (keyE nm)) ∧ Ext w w' := by
 go_enter Try.func47, Try.ntmps47
 go_wp2
 go_ret
 exact ⟨rfl, Ext.refl _⟩
set_option maxRecDepth 100000 in
set_option maxHeartbeats 400000 in
/-- pad.Check$3 -/
theorem check3_any (nm : ByteArray) (gr : Int) (w : World) : Calls Try.prog 43 #[.agg #[.string nm, .int .i64 gr]] w fun e w' => e = .returned (.int .i64 (personE ⟨nm, gr⟩)) ∧ Ext w w' := by
 have HL := hide (fun V => low_any gr V)
 have HP := hide (show personE ⟨nm, gr⟩ = if outB gr 0 9 = true then 7 else 0 from rfl)
 cases h : outB gr 0 9 <;>
  (rw [h] at HL HP
   clear h
   go_enter Try.func43, Try.ntmps43
   go_wp2_with (go_at_call 44; refine (HL.out _).mono ?_; rintro e w' ⟨rfl, rfl⟩)
   go_ret
   exact ⟨ret_int HP.out.symm, (Ext.refl _).alloc _⟩)
set_option maxRecDepth 100000 in
set_option maxHeartbeats 400000 in
/-- pad.Check$7 -/
theorem check7_any (nm : ByteArray) (x y cl gr : Int) (ks : List Int) (kv : Value) (B : Nat) (A : Option Addr) (n cap : Nat) (w : World) (hk : IntsV w .i64 kv ks) (hn : n ≤ 9223372036854775807) (hc : w.cell? ⟨B, 3, none⟩ = some (.slice A n cap)) :
 Calls Try.prog 50 #[.agg #[.string nm, .int .i64 x, .int .i64 y, .int .i64 cl, .int .i64 gr, kv], .pointer (some ⟨B, 0, none⟩)] w fun e w' => e = .returned (.int .i64 (squibE ⟨nm, x, y, cl, gr, ks⟩ n)) ∧ Ext w w' := by
 have HK := hide hk
 obtain ⟨A', cap', rfl, _, _, _⟩ := hk
 have hlt := World.block_lt_of_cell? _ _ hc
 dsimp only at hlt
 have HS := hide (squib_any (⟨nm, x, y, cl, gr, ks⟩, .slice A' ks.length cap') n (w.alloc (.cells #[.string nm, .int .i64 x, .int .i64 y, .int .i64 cl, .int .i64 gr, .slice A' ks.length cap'] 55)) hn (HK.out.ext ((Ext.refl _).alloc _)))
 unfold SquibX.val at HS
 dsimp only at HS
 go_enter Try.func50, Try.ntmps50
 go_wp2_with (go_at_call 51; refine HS.out.mono ?_; rintro e w' ⟨rfl, hx⟩)
 go_ret
 exact ⟨rfl, ((Ext.refl _).alloc _).trans hx⟩
theorem getD_in {α : Type} {l : List α} {i : Nat} (d : α) (h : i < l.length) : l.getD i d ∈ l := by
 rw [List.getD_eq_getElem?_getD, List.getElem?_eq_getElem h, Option.getD_some]; exact List.getElem_mem _
set_option maxRecDepth 100000 in
set_option maxHeartbeats 2000000 in
/-- pad.named[hangfire/api.PdZone] -/
theorem namedZone_any (v : Value) (l : List Zone) (w : World) (hv : ListV 8 Zone.cell w v l) (hs : ∀ z ∈ l, StrOk z.name) :
 Calls Try.prog 38 #[v, .func (.func 39) #[] #[], .func (.func 40) #[] #[]] w fun e w' => e = .returned (.tuple #[.int .i64 (firstE (nameE (fun k => (l.getD k default).name) (fun k => zoneE (l.getD k default))) l.length).1, .int .i64 (firstE (nameE (fun k => (l.getD k default).name) (fun k => zoneE (l.getD k default))) l.length).2]) ∧ Ext w w' := by
 obtain ⟨A, cap, rfl, hcap, hmax, hrow⟩ := hv
 have hm : cap ≤ 9223372036854775807 := by simpa [maxLen] using hmax
 have HROW := hide hrow
 have HSTR := hide hs
 have HN6 := hide (fun k => @nameE_6 (fun k => (l.getD k default).name) (fun k => zoneE (l.getD k default)) k)
 have HN5 := hide (fun k => @nameE_5 (fun k => (l.getD k default).name) (fun k => zoneE (l.getD k default)) k)
 have HNr := hide (fun k => @nameE_r (fun k => (l.getD k default).name) (fun k => zoneE (l.getD k default)) k)
 have HF0 := hide (@firstE_none (nameE (fun k => (l.getD k default).name) (fun k => zoneE (l.getD k default))) l.length)
 have HFS := hide (fun k => @firstE_some (nameE (fun k => (l.getD k default).name) (fun k => zoneE (l.getD k default))) l.length k)
 obtain ⟨E, hE⟩ : ∃ E, (nameE (fun k => (l.getD k default).name) (fun k => zoneE (l.getD k default))) = E := ⟨_, rfl⟩
 rw [hE] at HN6 HN5 HNr HF0 HFS ⊢
 have hmm := @run_makeMap Try.prog
 clear hE hmax hrow hs
 go_enter Try.func38, Try.ntmps38
 go_wp2_with fail
 have HSE := hide (SeenV.made w)
 have hx0 : Ext w (w.alloc (.map #[] 0)) := (Ext.refl w).alloc _
 obtain ⟨W0, hW0⟩ : ∃ W0, w.alloc (.map #[] 0) = W0 := ⟨_, rfl⟩
 rw [hW0] at HSE hx0 ⊢
 have HX0 := hide hx0
 obtain ⟨B0, hB0⟩ : ∃ B0, w.heap.size = B0 := ⟨_, rfl⟩
 rw [hB0] at HSE ⊢
 have HB0 := hide hB0
 clear hW0 hx0 hmm hB0
 go_loopw [16] (fun v16 wr => Ext w wr ∧ ∃ k : Nat, k ≤ l.length ∧ v16 = .int .i64 k ∧ SeenV wr B0 k ((List.range k).map fun k => (l.getD k default).name) ∧ Hid (∀ j, j < k → E j = 0)) (fun v16 _ => l.length - (intOf v16).toNat)
 case atStart => exact ⟨HX0.out, 0, by omega, rfl, HSE.out, hide (fun j hj => absurd hj (by omega))⟩
 case round =>
  obtain ⟨hX, k, hk, rfl, hse, HS0⟩ := hrel
  have HX := hide hX
  have HSE := hide hse
  clear hse
  by_cases h8 : k < l.length
  ·obtain ⟨b, off, rfl, hb, hc⟩ := ListV.at (HROW.out.ext hX) h8
   have hstr := HSTR.out _ (getD_in default h8)
   have h6 := HN6.out k
   have h5 := HN5.out k
   have hr := HNr.out k
   have hsn : ((List.range (k + 1)).map fun k => (l.getD k default).name) = ((List.range k).map fun k => (l.getD k default).name) ++ [(l.getD k default).name] := by rw [List.range_succ, List.map_append]; rfl
   have HFK := hide (HFS.out k HS0.out h8)
   try dsimp only at h6 h5 hr
   generalize ((List.range k).map fun k => (l.getD k default).name) = seen at *
   have c0 := hc 0 (by omega)
   have c1 := hc 1 (by omega)
   have c2 := hc 2 (by omega)
   have c3 := hc 3 (by omega)
   have c4 := hc 4 (by omega)
   have c5 := hc 5 (by omega)
   have c6 := hc 6 (by omega)
   have c7 := hc 7 (by omega)
   obtain ⟨z, hz⟩ : ∃ z, l.getD k default = z := ⟨_, rfl⟩
   rw [hz] at hstr h6 h5 hr hsn c0 c1 c2 c3 c4 c5 c6 c7
   obtain ⟨nm, za, zb, zc, zd, gr, rm, pr⟩ := z
   simp only [Zone.cell, Nat.add_zero] at c0 c1 c2 c3 c4 c5 c6 c7
   try dsimp only at hstr h6 h5 hr hsn
   have H6 := hide h6
   have H5 := hide h5
   have Hr := hide hr
   have HSN := hide hsn
   clear hc hX hz h6 h5 hr hsn
   go_wp2_with fail
   obtain ⟨W1, hW1⟩ : ∃ W1, wr.alloc (.cells #[.string nm, .int .i64 za, .int .i64 zb, .int .i64 zc, .int .i64 zd, .int .i64 gr, .int .i64 rm, .bool pr] 61) = W1 := ⟨_, rfl⟩
   have hx1 : Ext wr W1 := by rw [← hW1]; exact (Ext.refl _).alloc _
   have b0 : W1.cell? ⟨wr.heap.size, 0, none⟩ = some (.string nm) := by rw [← hW1]; exact cell_mk wr _ _ 0 _ rfl
   have b1 : W1.cell? ⟨wr.heap.size, 1, none⟩ = some (.int .i64 za) := by rw [← hW1]; exact cell_mk wr _ _ 1 _ rfl
   have b2 : W1.cell? ⟨wr.heap.size, 2, none⟩ = some (.int .i64 zb) := by rw [← hW1]; exact cell_mk wr _ _ 2 _ rfl
   have b3 : W1.cell? ⟨wr.heap.size, 3, none⟩ = some (.int .i64 zc) := by rw [← hW1]; exact cell_mk wr _ _ 3 _ rfl
   have b4 : W1.cell? ⟨wr.heap.size, 4, none⟩ = some (.int .i64 zd) := by rw [← hW1]; exact cell_mk wr _ _ 4 _ rfl
   have b5 : W1.cell? ⟨wr.heap.size, 5, none⟩ = some (.int .i64 gr) := by rw [← hW1]; exact cell_mk wr _ _ 5 _ rfl
   have b6 : W1.cell? ⟨wr.heap.size, 6, none⟩ = some (.int .i64 rm) := by rw [← hW1]; exact cell_mk wr _ _ 6 _ rfl
   have b7 : W1.cell? ⟨wr.heap.size, 7, none⟩ = some (.bool pr) := by rw [← hW1]; exact cell_mk wr _ _ 7 _ rfl
   rw [hW1]
   clear hW1
   refine (check1_any nm za zb zc zd gr rm pr W1).mono ?_
   rintro e w2 ⟨rfl, hx2⟩
   have d0 := hx2.cell b0
   have d1 := hx2.cell b1
   have d2 := hx2.cell b2
   have d3 := hx2.cell b3
   have d4 := hx2.cell b4
   have d5 := hx2.cell b5
   have d6 := hx2.cell b6
   have d7 := hx2.cell b7
   go_wp2_with fail
   refine (name_any nm w2 hstr).mono ?_
   rintro e w3 ⟨rfl, hx3⟩
   have f0 := hx3.cell d0
   have f1 := hx3.cell d1
   have f2 := hx3.cell d2
   have f3 := hx3.cell d3
   have f4 := hx3.cell d4
   have f5 := hx3.cell d5
   have f6 := hx3.cell d6
   have f7 := hx3.cell d7
   clear b0 d0 b1 d1 b2 d2 b3 d3 b4 d4 b5 d5 b6 d6 b7 d7
   have HX3 := hide ((hx1.trans hx2).trans hx3)
   have HSE3 := hide (HSE.out.ext HX3.out)
   clear hx1 hx2 hx3 c0 c1 c2 c3 c4 c5 c6 c7
   cases hn : nameB nm with
   | false =>
     have HE := hide (H6.out hn)
     have HF := hide (HFK.out (by rw [HE.out]; decide))
     clear hn
     go_wp2_with fail
     go_ret2
     exact ⟨by rw [HF.out, HE.out]; rfl, HX.out.trans HX3.out⟩
   | true =>
     have HN := hide hn
     have hlk := HSE3.out.look hstr
     clear hn
     cases hh : hasB seen nm with
     | true =>
       have HE := hide (H5.out HN.out hh)
       have HF := hide (HFK.out (by rw [HE.out]; decide))
       rw [hh] at hlk
       clear hh
       go_wp2_with fail
       go_ret2
       exact ⟨by rw [HF.out, HE.out]; rfl, HX.out.trans HX3.out⟩
     | false =>
       have HE := hide (Hr.out HN.out hh)
       rw [hh] at hlk
       clear hh
       go_wp2_with fail
       refine (zone_any ⟨nm, za, zb, zc, zd, gr, rm, pr⟩ w3).mono ?_
       rintro e w4 ⟨rfl, hx4⟩
       have HX4 := hide (HX3.out.trans hx4)
       have HSE4 := hide (HSE3.out.ext hx4)
       obtain ⟨er, her⟩ : ∃ er, zoneE ⟨nm, za, zb, zc, zd, gr, rm, pr⟩ = er := ⟨_, rfl⟩
       rw [her] at HE ⊢
       clear her hx4 hlk
       by_cases he : er = 0
       ·have hne : (er != 0) = false := by simp [he]
        have HEZ := hide (HE.out.trans he)
        have hkm : k < maxLen := by simp [maxLen]; omega
        have HKM := hide hkm
        clear he hkm
        go_wp2_with (
         at_mapUpdate
         refine wpList_seen_add rfl (.tmp 41) (.tmp 42) (.const (.bool true)) rfl B0 k seen nm rfl HSE4.out HKM.out rfl hstr rfl ?_
         intro w5 hs5 hg5
         have HS5 := hide hs5
         have HG5 := hide hg5
         clear hs5 hg5)
        go_roundw
        case rel => exact ⟨(HX.out.trans HX4.out).grown HG5.out (fun j hj => by injection hj with hj; rw [← hj, ← HB0.out]; exact Nat.le_refl _), k + 1, by omega, by go_num, by rw [HSN.out]; exact HS5.out, hide (fun j hj => by
         by_cases hjk : j = k
         ·rw [hjk]; exact HEZ.out
         ·exact HS0.out j (by omega))⟩
        case measure => simp [intOf]; omega
       ·have hne : (er != 0) = true := by simp [he]
        have HF := hide (HFK.out (by rw [HE.out]; exact he))
        clear he
        go_wp2_with fail
        go_ret2
        exact ⟨by rw [HF.out, HE.out]; rfl, HX.out.trans HX4.out⟩
  ·have hkl : k = l.length := by omega
   have HF := hide (HF0.out (fun j hj => HS0.out j (by omega)))
   go_wp2_with fail
   go_ret2
   exact ⟨by rw [HF.out]; rfl, HX.out⟩
set_option maxRecDepth 100000 in
set_option maxHeartbeats 2000000 in
/-- pad.named[hangfire/api.PdPerson] -/
theorem namedPerson_any (v : Value) (l : List Person) (w : World) (hv : ListV 2 Person.cell w v l) (hs : ∀ z ∈ l, StrOk z.name) :
 Calls Try.prog 41 #[v, .func (.func 42) #[] #[], .func (.func 43) #[] #[]] w fun e w' => e = .returned (.tuple #[.int .i64 (firstE (nameE (fun k => (l.getD k default).name) (fun k => personE (l.getD k default))) l.length).1, .int .i64 (firstE (nameE (fun k => (l.getD k default).name) (fun k => personE (l.getD k default))) l.length).2]) ∧ Ext w w' := by
 obtain ⟨A, cap, rfl, hcap, hmax, hrow⟩ := hv
 have hm : cap ≤ 9223372036854775807 := by simpa [maxLen] using hmax
 have HROW := hide hrow
 have HSTR := hide hs
 have HN6 := hide (fun k => @nameE_6 (fun k => (l.getD k default).name) (fun k => personE (l.getD k default)) k)
 have HN5 := hide (fun k => @nameE_5 (fun k => (l.getD k default).name) (fun k => personE (l.getD k default)) k)
 have HNr := hide (fun k => @nameE_r (fun k => (l.getD k default).name) (fun k => personE (l.getD k default)) k)
 have HF0 := hide (@firstE_none (nameE (fun k => (l.getD k default).name) (fun k => personE (l.getD k default))) l.length)
 have HFS := hide (fun k => @firstE_some (nameE (fun k => (l.getD k default).name) (fun k => personE (l.getD k default))) l.length k)
 obtain ⟨E, hE⟩ : ∃ E, (nameE (fun k => (l.getD k default).name) (fun k => personE (l.getD k default))) = E := ⟨_, rfl⟩
 rw [hE] at HN6 HN5 HNr HF0 HFS ⊢
 have hmm := @run_makeMap Try.prog
 clear hE hmax hrow hs
 go_enter Try.func41, Try.ntmps41
 go_wp2_with fail
 have HSE := hide (SeenV.made w)
 have hx0 : Ext w (w.alloc (.map #[] 0)) := (Ext.refl w).alloc _
 obtain ⟨W0, hW0⟩ : ∃ W0, w.alloc (.map #[] 0) = W0 := ⟨_, rfl⟩
 rw [hW0] at HSE hx0 ⊢
 have HX0 := hide hx0
 obtain ⟨B0, hB0⟩ : ∃ B0, w.heap.size = B0 := ⟨_, rfl⟩
 rw [hB0] at HSE ⊢
 have HB0 := hide hB0
 clear hW0 hx0 hmm hB0
 go_loopw [16] (fun v16 wr => Ext w wr ∧ ∃ k : Nat, k ≤ l.length ∧ v16 = .int .i64 k ∧ SeenV wr B0 k ((List.range k).map fun k => (l.getD k default).name) ∧ Hid (∀ j, j < k → E j = 0)) (fun v16 _ => l.length - (intOf v16).toNat)
 case atStart => exact ⟨HX0.out, 0, by omega, rfl, HSE.out, hide (fun j hj => absurd hj (by omega))⟩
 case round =>
  obtain ⟨hX, k, hk, rfl, hse, HS0⟩ := hrel
  have HX := hide hX
  have HSE := hide hse
  clear hse
  by_cases h8 : k < l.length
  ·obtain ⟨b, off, rfl, hb, hc⟩ := ListV.at (HROW.out.ext hX) h8
   have hstr := HSTR.out _ (getD_in default h8)
   have h6 := HN6.out k
   have h5 := HN5.out k
   have hr := HNr.out k
   have hsn : ((List.range (k + 1)).map fun k => (l.getD k default).name) = ((List.range k).map fun k => (l.getD k default).name) ++ [(l.getD k default).name] := by rw [List.range_succ, List.map_append]; rfl
   have HFK := hide (HFS.out k HS0.out h8)
   try dsimp only at h6 h5 hr
   generalize ((List.range k).map fun k => (l.getD k default).name) = seen at *
   have c0 := hc 0 (by omega)
   have c1 := hc 1 (by omega)
   obtain ⟨z, hz⟩ : ∃ z, l.getD k default = z := ⟨_, rfl⟩
   rw [hz] at hstr h6 h5 hr hsn c0 c1
   obtain ⟨nm, gr⟩ := z
   simp only [Person.cell, Nat.add_zero] at c0 c1
   try dsimp only at hstr h6 h5 hr hsn
   have H6 := hide h6
   have H5 := hide h5
   have Hr := hide hr
   have HSN := hide hsn
   clear hc hX hz h6 h5 hr hsn
   go_wp2_with fail
   obtain ⟨W1, hW1⟩ : ∃ W1, wr.alloc (.cells #[.string nm, .int .i64 gr] 72) = W1 := ⟨_, rfl⟩
   have hx1 : Ext wr W1 := by rw [← hW1]; exact (Ext.refl _).alloc _
   have b0 : W1.cell? ⟨wr.heap.size, 0, none⟩ = some (.string nm) := by rw [← hW1]; exact cell_mk wr _ _ 0 _ rfl
   have b1 : W1.cell? ⟨wr.heap.size, 1, none⟩ = some (.int .i64 gr) := by rw [← hW1]; exact cell_mk wr _ _ 1 _ rfl
   rw [hW1]
   clear hW1
   refine (check2_any nm gr W1).mono ?_
   rintro e w2 ⟨rfl, hx2⟩
   have d0 := hx2.cell b0
   have d1 := hx2.cell b1
   go_wp2_with fail
   refine (name_any nm w2 hstr).mono ?_
   rintro e w3 ⟨rfl, hx3⟩
   have f0 := hx3.cell d0
   have f1 := hx3.cell d1
   clear b0 d0 b1 d1
   have HX3 := hide ((hx1.trans hx2).trans hx3)
   have HSE3 := hide (HSE.out.ext HX3.out)
   clear hx1 hx2 hx3 c0 c1
   cases hn : nameB nm with
   | false =>
     have HE := hide (H6.out hn)
     have HF := hide (HFK.out (by rw [HE.out]; decide))
     clear hn
     go_wp2_with fail
     go_ret2
     exact ⟨by rw [HF.out, HE.out]; rfl, HX.out.trans HX3.out⟩
   | true =>
     have HN := hide hn
     have hlk := HSE3.out.look hstr
     clear hn
     cases hh : hasB seen nm with
     | true =>
       have HE := hide (H5.out HN.out hh)
       have HF := hide (HFK.out (by rw [HE.out]; decide))
       rw [hh] at hlk
       clear hh
       go_wp2_with fail
       go_ret2
       exact ⟨by rw [HF.out, HE.out]; rfl, HX.out.trans HX3.out⟩
     | false =>
       have HE := hide (Hr.out HN.out hh)
       rw [hh] at hlk
       clear hh
       go_wp2_with fail
       refine (check3_any nm gr w3).mono ?_
       rintro e w4 ⟨rfl, hx4⟩
       have HX4 := hide (HX3.out.trans hx4)
       have HSE4 := hide (HSE3.out.ext hx4)
       obtain ⟨er, her⟩ : ∃ er, personE ⟨nm, gr⟩ = er := ⟨_, rfl⟩
       rw [her] at HE ⊢
       clear her hx4 hlk
       by_cases he : er = 0
       ·have hne : (er != 0) = false := by simp [he]
        have HEZ := hide (HE.out.trans he)
        have hkm : k < maxLen := by simp [maxLen]; omega
        have HKM := hide hkm
        clear he hkm
        go_wp2_with (
         at_mapUpdate
         refine wpList_seen_add rfl (.tmp 41) (.tmp 42) (.const (.bool true)) rfl B0 k seen nm rfl HSE4.out HKM.out rfl hstr rfl ?_
         intro w5 hs5 hg5
         have HS5 := hide hs5
         have HG5 := hide hg5
         clear hs5 hg5)
        go_roundw
        case rel => exact ⟨(HX.out.trans HX4.out).grown HG5.out (fun j hj => by injection hj with hj; rw [← hj, ← HB0.out]; exact Nat.le_refl _), k + 1, by omega, by go_num, by rw [HSN.out]; exact HS5.out, hide (fun j hj => by
         by_cases hjk : j = k
         ·rw [hjk]; exact HEZ.out
         ·exact HS0.out j (by omega))⟩
        case measure => simp [intOf]; omega
       ·have hne : (er != 0) = true := by simp [he]
        have HF := hide (HFK.out (by rw [HE.out]; exact he))
        clear he
        go_wp2_with fail
        go_ret2
        exact ⟨by rw [HF.out, HE.out]; rfl, HX.out.trans HX4.out⟩
  ·have hkl : k = l.length := by omega
   have HF := hide (HF0.out (fun j hj => HS0.out j (by omega)))
   go_wp2_with fail
   go_ret2
   exact ⟨by rw [HF.out]; rfl, HX.out⟩
end Go.Proofs.Ythcnganbnbhhoaa
namespace Go.Proofs.Ythcnganbnbhhoaa
open Go.RowKit Go.Shelf Go.Maps
set_option maxRecDepth 100000 in
set_option maxHeartbeats 2000000 in
/-- pad.named[string] -/
theorem namedKey_any (v : Value) (l : List ByteArray) (w : World) (hv : ListV 1 keyCell w v l) (hs : ∀ z ∈ l, StrOk z) :
 Calls Try.prog 45 #[v, .func (.func 46) #[] #[], .func (.func 47) #[] #[]] w fun e w' => e = .returned (.tuple #[.int .i64 (firstE (nameE (fun k => l.getD k default) (fun k => keyE (l.getD k default))) l.length).1, .int .i64 (firstE (nameE (fun k => l.getD k default) (fun k => keyE (l.getD k default))) l.length).2]) ∧ Ext w w' := by
 obtain ⟨A, cap, rfl, hcap, hmax, hrow⟩ := hv
 have hm : cap ≤ 9223372036854775807 := by simpa [maxLen] using hmax
 have HROW := hide hrow
 have HSTR := hide hs
 have HN6 := hide (fun k => @nameE_6 (fun k => l.getD k default) (fun k => keyE (l.getD k default)) k)
 have HN5 := hide (fun k => @nameE_5 (fun k => l.getD k default) (fun k => keyE (l.getD k default)) k)
 have HNr := hide (fun k => @nameE_r (fun k => l.getD k default) (fun k => keyE (l.getD k default)) k)
 have HF0 := hide (@firstE_none (nameE (fun k => l.getD k default) (fun k => keyE (l.getD k default))) l.length)
 have HFS := hide (fun k => @firstE_some (nameE (fun k => l.getD k default) (fun k => keyE (l.getD k default))) l.length k)
 obtain ⟨E, hE⟩ : ∃ E, (nameE (fun k => l.getD k default) (fun k => keyE (l.getD k default))) = E := ⟨_, rfl⟩
 rw [hE] at HN6 HN5 HNr HF0 HFS ⊢
 have hmm := @run_makeMap Try.prog
 clear hE hmax hrow hs
 go_enter Try.func45, Try.ntmps45
 go_wp2_with fail
 have HSE := hide (SeenV.made w)
 have hx0 : Ext w (w.alloc (.map #[] 0)) := (Ext.refl w).alloc _
 obtain ⟨W0, hW0⟩ : ∃ W0, w.alloc (.map #[] 0) = W0 := ⟨_, rfl⟩
 rw [hW0] at HSE hx0 ⊢
 have HX0 := hide hx0
 obtain ⟨B0, hB0⟩ : ∃ B0, w.heap.size = B0 := ⟨_, rfl⟩
 rw [hB0] at HSE ⊢
 have HB0 := hide hB0
 clear hW0 hx0 hmm hB0
 go_loopw [16] (fun v16 wr => Ext w wr ∧ ∃ k : Nat, k ≤ l.length ∧ v16 = .int .i64 k ∧ SeenV wr B0 k ((List.range k).map fun k => l.getD k default) ∧ Hid (∀ j, j < k → E j = 0)) (fun v16 _ => l.length - (intOf v16).toNat)
 case atStart => exact ⟨HX0.out, 0, by omega, rfl, HSE.out, hide (fun j hj => absurd hj (by omega))⟩
 case round =>
  obtain ⟨hX, k, hk, rfl, hse, HS0⟩ := hrel
  have HX := hide hX
  have HSE := hide hse
  clear hse
  by_cases h8 : k < l.length
  ·obtain ⟨b, off, rfl, hb, hc⟩ := ListV.at (HROW.out.ext hX) h8
   have hstr := HSTR.out _ (getD_in default h8)
   have h6 := HN6.out k
   have h5 := HN5.out k
   have hr := HNr.out k
   have hsn : ((List.range (k + 1)).map fun k => l.getD k default) = ((List.range k).map fun k => l.getD k default) ++ [l.getD k default] := by rw [List.range_succ, List.map_append]; rfl
   have HFK := hide (HFS.out k HS0.out h8)
   try dsimp only at h6 h5 hr
   generalize ((List.range k).map fun k => l.getD k default) = seen at *
   have c0 := hc 0 (by omega)
   obtain ⟨nm, hz⟩ : ∃ z, l.getD k default = z := ⟨_, rfl⟩
   rw [hz] at hstr h6 h5 hr hsn c0
   simp only [keyCell, Nat.add_zero, Nat.mul_one] at c0
   try dsimp only at h6 h5 hr hsn
   have H6 := hide h6
   have H5 := hide h5
   have Hr := hide hr
   have HSN := hide hsn
   clear hc hX hz h6 h5 hr hsn
   go_wp2_with fail
   obtain ⟨W1, hW1⟩ : ∃ W1 : World, wr = W1 := ⟨_, rfl⟩
   have hx1 : Ext wr W1 := by rw [hW1]; exact Ext.refl _
   rw [hW1]
   clear hW1
   refine (check4_any nm W1).mono ?_
   rintro e w2 ⟨rfl, hx2⟩
   go_wp2_with fail
   refine (name_any nm w2 hstr).mono ?_
   rintro e w3 ⟨rfl, hx3⟩
   have HX3 := hide ((hx1.trans hx2).trans hx3)
   have HSE3 := hide (HSE.out.ext HX3.out)
   clear hx1 hx2 hx3 c0
   cases hn : nameB nm with
   | false =>
     have HE := hide (H6.out hn)
     have HF := hide (HFK.out (by rw [HE.out]; decide))
     clear hn
     go_wp2_with fail
     go_ret2
     exact ⟨by rw [HF.out, HE.out]; rfl, HX.out.trans HX3.out⟩
   | true =>
     have HN := hide hn
     have hlk := HSE3.out.look hstr
     clear hn
     cases hh : hasB seen nm with
     | true =>
       have HE := hide (H5.out HN.out hh)
       have HF := hide (HFK.out (by rw [HE.out]; decide))
       rw [hh] at hlk
       clear hh
       go_wp2_with fail
       go_ret2
       exact ⟨by rw [HF.out, HE.out]; rfl, HX.out.trans HX3.out⟩
     | false =>
       have HE := hide (Hr.out HN.out hh)
       rw [hh] at hlk
       clear hh
       go_wp2_with fail
       refine (check5_any nm w3).mono ?_
       rintro e w4 ⟨rfl, hx4⟩
       have HX4 := hide (HX3.out.trans hx4)
       have HSE4 := hide (HSE3.out.ext hx4)
       obtain ⟨er, her⟩ : ∃ er, keyE nm = er := ⟨_, rfl⟩
       rw [her] at HE ⊢
       clear her hx4 hlk
       by_cases he : er = 0
       ·have hne : (er != 0) = false := by simp [he]
        have HEZ := hide (HE.out.trans he)
        have hkm : k < maxLen := by simp [maxLen]; omega
        have HKM := hide hkm
        clear he hkm
        go_wp2_with (
         at_mapUpdate
         refine wpList_seen_add rfl (.tmp 41) (.tmp 42) (.const (.bool true)) rfl B0 k seen nm rfl HSE4.out HKM.out rfl hstr rfl ?_
         intro w5 hs5 hg5
         have HS5 := hide hs5
         have HG5 := hide hg5
         clear hs5 hg5)
        go_roundw
        case rel => exact ⟨(HX.out.trans HX4.out).grown HG5.out (fun j hj => by injection hj with hj; rw [← hj, ← HB0.out]; exact Nat.le_refl _), k + 1, by omega, by go_num, by rw [HSN.out]; exact HS5.out, hide (fun j hj => by
         by_cases hjk : j = k
         ·rw [hjk]; exact HEZ.out
         ·exact HS0.out j (by omega))⟩
        case measure => simp [intOf]; omega
       ·have hne : (er != 0) = true := by simp [he]
        have HF := hide (HFK.out (by rw [HE.out]; exact he))
        clear he
        go_wp2_with fail
        go_ret2
        exact ⟨by rw [HF.out, HE.out]; rfl, HX.out.trans HX4.out⟩
  ·have hkl : k = l.length := by omega
   have HF := hide (HF0.out (fun j hj => HS0.out j (by omega)))
   go_wp2_with fail
   go_ret2
   exact ⟨by rw [HF.out]; rfl, HX.out⟩
set_option maxRecDepth 100000 in
set_option maxHeartbeats 2000000 in
/-- pad.named[hangfire/api.PdSquib] -/
theorem namedSquib_any (v : Value) (l : List SquibX) (w : World) (hv : ListV 6 SquibX.cell w v l) (hs : ∀ z ∈ l, StrOk z.1.name) (hkix : ∀ q ∈ l, IntsV w .i64 q.2 q.1.keys) (B : Nat) (A1 : Option Addr) (n1 cap1 : Nat) (hn1 : n1 ≤ 9223372036854775807) (hc1 : w.cell? ⟨B, 3, none⟩ = some (.slice A1 n1 cap1)) :
 Calls Try.prog 48 #[v, .func (.func 49) #[] #[], .func (.func 50) #[] #[.pointer (some ⟨B, 0, none⟩)]] w fun e w' => e = .returned (.tuple #[.int .i64 (firstE (nameE (fun k => (l.getD k default).1.name) (fun k => squibE (l.getD k default).1 n1)) l.length).1, .int .i64 (firstE (nameE (fun k => (l.getD k default).1.name) (fun k => squibE (l.getD k default).1 n1)) l.length).2]) ∧ Ext w w' := by
 obtain ⟨A, cap, rfl, hcap, hmax, hrow⟩ := hv
 have hm : cap ≤ 9223372036854775807 := by simpa [maxLen] using hmax
 have HROW := hide hrow
 have HSTR := hide hs
 have HKIX := hide hkix
 have HN1 := hide hn1
 have HC1 := hide hc1
 have hlt1 := World.block_lt_of_cell? _ _ hc1
 dsimp only at hlt1
 have HN6 := hide (fun k => @nameE_6 (fun k => (l.getD k default).1.name) (fun k => squibE (l.getD k default).1 n1) k)
 have HN5 := hide (fun k => @nameE_5 (fun k => (l.getD k default).1.name) (fun k => squibE (l.getD k default).1 n1) k)
 have HNr := hide (fun k => @nameE_r (fun k => (l.getD k default).1.name) (fun k => squibE (l.getD k default).1 n1) k)
 have HF0 := hide (@firstE_none (nameE (fun k => (l.getD k default).1.name) (fun k => squibE (l.getD k default).1 n1)) l.length)
 have HFS := hide (fun k => @firstE_some (nameE (fun k => (l.getD k default).1.name) (fun k => squibE (l.getD k default).1 n1)) l.length k)
 obtain ⟨E, hE⟩ : ∃ E, (nameE (fun k => (l.getD k default).1.name) (fun k => squibE (l.getD k default).1 n1)) = E := ⟨_, rfl⟩
 rw [hE] at HN6 HN5 HNr HF0 HFS ⊢
 have hmm := @run_makeMap Try.prog
 clear hE hmax hrow hs
 go_enter Try.func48, Try.ntmps48
 go_wp2_with fail
 have HSE := hide (SeenV.made w)
 have hx0 : Ext w (w.alloc (.map #[] 0)) := (Ext.refl w).alloc _
 obtain ⟨W0, hW0⟩ : ∃ W0, w.alloc (.map #[] 0) = W0 := ⟨_, rfl⟩
 rw [hW0] at HSE hx0 ⊢
 have HX0 := hide hx0
 obtain ⟨B0, hB0⟩ : ∃ B0, w.heap.size = B0 := ⟨_, rfl⟩
 rw [hB0] at HSE ⊢
 have HB0 := hide hB0
 clear hW0 hx0 hmm hB0
 go_loopw [16] (fun v16 wr => Ext w wr ∧ ∃ k : Nat, k ≤ l.length ∧ v16 = .int .i64 k ∧ SeenV wr B0 k ((List.range k).map fun k => (l.getD k default).1.name) ∧ Hid (∀ j, j < k → E j = 0)) (fun v16 _ => l.length - (intOf v16).toNat)
 case atStart => exact ⟨HX0.out, 0, by omega, rfl, HSE.out, hide (fun j hj => absurd hj (by omega))⟩
 case round =>
  obtain ⟨hX, k, hk, rfl, hse, HS0⟩ := hrel
  have HX := hide hX
  have HSE := hide hse
  clear hse
  by_cases h8 : k < l.length
  ·obtain ⟨b, off, rfl, hb, hc⟩ := ListV.at (HROW.out.ext hX) h8
   have hstr := HSTR.out _ (getD_in default h8)
   have hki := (HKIX.out _ (getD_in default h8)).ext hX
   have h6 := HN6.out k
   have h5 := HN5.out k
   have hr := HNr.out k
   have hsn : ((List.range (k + 1)).map fun k => (l.getD k default).1.name) = ((List.range k).map fun k => (l.getD k default).1.name) ++ [(l.getD k default).1.name] := by rw [List.range_succ, List.map_append]; rfl
   have HFK := hide (HFS.out k HS0.out h8)
   try dsimp only at h6 h5 hr
   generalize ((List.range k).map fun k => (l.getD k default).1.name) = seen at *
   have c0 := hc 0 (by omega)
   have c1 := hc 1 (by omega)
   have c2 := hc 2 (by omega)
   have c3 := hc 3 (by omega)
   have c4 := hc 4 (by omega)
   have c5 := hc 5 (by omega)
   obtain ⟨z, hz⟩ : ∃ z, l.getD k default = z := ⟨_, rfl⟩
   rw [hz] at hstr h6 h5 hr hsn c0 c1 c2 c3 c4 c5 hki
   obtain ⟨⟨nm, x, y, cl, gr, ks⟩, kv⟩ := z
   simp only [SquibX.cell, Nat.add_zero] at c0 c1 c2 c3 c4 c5
   try dsimp only at hstr h6 h5 hr hsn hki
   have H6 := hide h6
   have H5 := hide h5
   have Hr := hide hr
   have HSN := hide hsn
   clear hc hX hz h6 h5 hr hsn
   have HKI := hide hki
   obtain ⟨A', cap', rfl, _, _, _⟩ := hki
   go_wp2_with fail
   obtain ⟨W1, hW1⟩ : ∃ W1, wr.alloc (.cells #[.string nm, .int .i64 x, .int .i64 y, .int .i64 cl, .int .i64 gr, .slice A' ks.length cap'] 55) = W1 := ⟨_, rfl⟩
   have hx1 : Ext wr W1 := by rw [← hW1]; exact (Ext.refl _).alloc _
   have b0 : W1.cell? ⟨wr.heap.size, 0, none⟩ = some (.string nm) := by rw [← hW1]; exact cell_mk wr _ _ 0 _ rfl
   have b1 : W1.cell? ⟨wr.heap.size, 1, none⟩ = some (.int .i64 x) := by rw [← hW1]; exact cell_mk wr _ _ 1 _ rfl
   have b2 : W1.cell? ⟨wr.heap.size, 2, none⟩ = some (.int .i64 y) := by rw [← hW1]; exact cell_mk wr _ _ 2 _ rfl
   have b3 : W1.cell? ⟨wr.heap.size, 3, none⟩ = some (.int .i64 cl) := by rw [← hW1]; exact cell_mk wr _ _ 3 _ rfl
   have b4 : W1.cell? ⟨wr.heap.size, 4, none⟩ = some (.int .i64 gr) := by rw [← hW1]; exact cell_mk wr _ _ 4 _ rfl
   have b5 : W1.cell? ⟨wr.heap.size, 5, none⟩ = some (.slice A' ks.length cap') := by rw [← hW1]; exact cell_mk wr _ _ 5 _ rfl
   rw [hW1]
   clear hW1
   refine (check6_any nm x y cl gr (.slice A' ks.length cap') W1).mono ?_
   rintro e w2 ⟨rfl, hx2⟩
   have d0 := hx2.cell b0
   have d1 := hx2.cell b1
   have d2 := hx2.cell b2
   have d3 := hx2.cell b3
   have d4 := hx2.cell b4
   have d5 := hx2.cell b5
   go_wp2_with fail
   refine (name_any nm w2 hstr).mono ?_
   rintro e w3 ⟨rfl, hx3⟩
   have f0 := hx3.cell d0
   have f1 := hx3.cell d1
   have f2 := hx3.cell d2
   have f3 := hx3.cell d3
   have f4 := hx3.cell d4
   have f5 := hx3.cell d5
   clear b0 d0 b1 d1 b2 d2 b3 d3 b4 d4 b5 d5
   have HX3 := hide ((hx1.trans hx2).trans hx3)
   have HSE3 := hide (HSE.out.ext HX3.out)
   clear hx1 hx2 hx3 c0 c1 c2 c3 c4 c5
   cases hn : nameB nm with
   | false =>
     have HE := hide (H6.out hn)
     have HF := hide (HFK.out (by rw [HE.out]; decide))
     clear hn
     go_wp2_with fail
     go_ret2
     exact ⟨by rw [HF.out, HE.out]; rfl, HX.out.trans HX3.out⟩
   | true =>
     have HN := hide hn
     have hlk := HSE3.out.look hstr
     clear hn
     cases hh : hasB seen nm with
     | true =>
       have HE := hide (H5.out HN.out hh)
       have HF := hide (HFK.out (by rw [HE.out]; decide))
       rw [hh] at hlk
       clear hh
       go_wp2_with fail
       go_ret2
       exact ⟨by rw [HF.out, HE.out]; rfl, HX.out.trans HX3.out⟩
     | false =>
       have HE := hide (Hr.out HN.out hh)
       rw [hh] at hlk
       clear hh
       go_wp2_with fail
       refine (check7_any nm x y cl gr ks (.slice A' ks.length cap') B A1 n1 cap1 w3 (HKI.out.ext HX3.out) HN1.out (HX3.out.cell (HX.out.cell HC1.out))).mono ?_
       rintro e w4 ⟨rfl, hx4⟩
       have HX4 := hide (HX3.out.trans hx4)
       have HSE4 := hide (HSE3.out.ext hx4)
       obtain ⟨er, her⟩ : ∃ er, squibE ⟨nm, x, y, cl, gr, ks⟩ n1 = er := ⟨_, rfl⟩
       rw [her] at HE ⊢
       clear her hx4 hlk
       by_cases he : er = 0
       ·have hne : (er != 0) = false := by simp [he]
        have HEZ := hide (HE.out.trans he)
        have hkm : k < maxLen := by simp [maxLen]; omega
        have HKM := hide hkm
        clear he hkm
        go_wp2_with (
         at_mapUpdate
         refine wpList_seen_add rfl (.tmp 41) (.tmp 42) (.const (.bool true)) rfl B0 k seen nm rfl HSE4.out HKM.out rfl hstr rfl ?_
         intro w5 hs5 hg5
         have HS5 := hide hs5
         have HG5 := hide hg5
         clear hs5 hg5)
        go_roundw
        case rel => exact ⟨(HX.out.trans HX4.out).grown HG5.out (fun j hj => by injection hj with hj; rw [← hj, ← HB0.out]; exact Nat.le_refl _), k + 1, by omega, by go_num, by rw [HSN.out]; exact HS5.out, hide (fun j hj => by
         by_cases hjk : j = k
         ·rw [hjk]; exact HEZ.out
         ·exact HS0.out j (by omega))⟩
        case measure => simp [intOf]; omega
       ·have hne : (er != 0) = true := by simp [he]
        have HF := hide (HFK.out (by rw [HE.out]; exact he))
        clear he
        go_wp2_with fail
        go_ret2
        exact ⟨by rw [HF.out, HE.out]; rfl, HX.out.trans HX4.out⟩
  ·have hkl : k = l.length := by omega
   have HF := hide (HF0.out (fun j hj => HS0.out j (by omega)))
   go_wp2_with fail
   go_ret2
   exact ⟨by rw [HF.out]; rfl, HX.out⟩
end Go.Proofs.Ythcnganbnbhhoaa
