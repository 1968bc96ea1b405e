/- The walk of pad.near, the iterator of the squibs that a zone is near. The walk of pad.near: the boxes that it makes for its iterator. -/
import Derived.Test.YthcnganbnbhhoaaSmall
import Derived.Test.YthcnganbnbhhoaaRange
import Derived.BigRegion
import Derived.BigQuiet
import Derived.Deep.Cut
import Derived.Lib.MinMax
namespace Go.Proofs.Ythcnganbnbhhoaa
open Go.RowKit Go.Shelf
/-- The bounds of a zone's area, of a squib's place. -/
structure ZoneIn (z : Zone) : Prop where
 a : -10000000 ≤ z.xlo ∧ z.xlo ≤ 10000000
 b : -10000000 ≤ z.xhi ∧ z.xhi ≤ 10000000
 c : -10000000 ≤ z.ylo ∧ z.ylo ≤ 10000000
 d : -10000000 ≤ z.yhi ∧ z.yhi ≤ 10000000
structure SquibIn (q : Squib) : Prop where
 a : -10000000 ≤ q.x ∧ q.x ≤ 10000000
 b : -10000000 ≤ q.y ∧ q.y ≤ 10000000
 c : 0 ≤ q.clear ∧ q.clear ≤ 10000000
def farX (z : Zone) (q : Squib) : Int := max (max (z.xlo - q.x) (q.x - z.xhi)) 0
def farY (z : Zone) (q : Squib) : Int := max (max (z.ylo - q.y) (q.y - z.yhi)) 0
def nearB (z : Zone) (q : Squib) : Bool := decide (farX z q * farX z q + farY z q * farY z q < q.clear * q.clear)
/-- The squibs that a zone (negative: none) is near. -/
def nears (zs : List Zone) (qs : List SquibX) (zone : Int) : List Nat :=
 if zone < 0 then [] else (List.range qs.length).filter fun i => nearB (zs.getD zone.toNat default) (qs.getD i default).1
theorem max3_if (a b : Int) : (if (if a < b then b else a) < 0 then 0 else if a < b then b else a) = max (max a b) 0 := by
 by_cases h : a < b
 ·rw [if_pos h]; by_cases h' : b < 0
  ·rw [if_pos h']; omega
  ·rw [if_neg h']; omega
 ·rw [if_neg h]; by_cases h' : a < 0
  ·rw [if_pos h']; omega
  ·rw [if_neg h']; omega
theorem sq_le {a b : Int} (h0 : 0 ≤ a) (h1 : a ≤ b) : 0 ≤ a * a ∧ a * a ≤ b * b :=
 ⟨Int.mul_nonneg h0 h0, Int.mul_le_mul h1 h1 h0 (Int.le_trans h0 h1)⟩
theorem wrap_sq {a : Int} (h0 : 0 ≤ a) (h1 : a ≤ 20000000) : IntKind.i64.wrap (a * a) = a * a := by
 have := sq_le h0 h1
 rw [IntKind.wrap_i64]; omega
theorem wrap_sq2 {a b : Int} (h0 : 0 ≤ a) (h1 : a ≤ 20000000) (h2 : 0 ≤ b) (h3 : b ≤ 20000000) : IntKind.i64.wrap (a * a + b * b) = a * a + b * b := by
 have := sq_le h0 h1
 have := sq_le h2 h3
 rw [IntKind.wrap_i64]; omega
theorem Rows2.keep {w w' : World} {A : Option Addr} {n size : Nat} {g : Nat → Nat → Value} (h : Rows2 w A n size g) (k : 0 < n → ∀ b off, A = some ⟨b, off, none⟩ → w'.heap[b]? = w.heap[b]?) : Rows2 w' A n size g := fun hn => by
 obtain ⟨b, off, e, hb, hc⟩ := h hn
 have hk := k hn b off e
 refine ⟨b, off, e, ?_, fun i f hi hf => ?_⟩
 ·rw [Array.getElem?_eq_getElem hb] at hk
  exact (Array.getElem?_eq_some_iff.1 hk).1
 ·have := hc i f hi hf
  unfold World.cell? at this ⊢
  dsimp only at this ⊢
  rw [hk]; exact this
theorem cell_block {w w' : World} {p : Addr} {v : Value} (h : w.cell? p = some v) (k : w'.heap[p.block]? = w.heap[p.block]?) : w'.cell? p = some v := by
 rw [← h]; unfold World.cell?; rw [k]
/-- What stays in memory while near's range runs. -/
def nearG (w : World) (A : Option Addr) (n : Nat) (k : Nat) : Prop := (0 < n ∧ ∃ off, A = some ⟨k, off, none⟩) ∨ k = w.heap.size + 2
def idxEnc (i : Nat) : Array Value := #[.int .i64 i]
theorem getD_in' {α : Type} {l : List α} {i : Nat} (d : α) (h : i < l.length) : l.getD i d ∈ l := by
 rw [List.getD_eq_getElem?_getD, List.getElem?_eq_getElem h, Option.getD_some]; exact List.getElem_mem _
theorem filter_range_succ (p : Nat → Bool) (k : Nat) : (List.range (k + 1)).filter p = (List.range k).filter p ++ (if p k = true then [k] else []) := by
 rw [List.range_succ, List.filter_append]; congr 1; cases h : p k <;> simp [h]
theorem filter_range_pre (p : Nat → Bool) {k n : Nat} (h : k ≤ n) : ∃ rest, (List.range k).filter p ++ rest = (List.range n).filter p := by
 induction n with
 | zero => have : k = 0 := by omega
           subst this; exact ⟨[], by simp⟩
 | succ n ih =>
   by_cases hk : k = n + 1
   ·subst hk; exact ⟨[], by simp⟩
   ·obtain ⟨r, hr⟩ := ih (by omega)
    exact ⟨r ++ (if p n = true then [n] else []), by rw [← List.append_assoc, hr, filter_range_succ]⟩
set_option maxRecDepth 100000 in
set_option maxHeartbeats 600000 in
/-- pad.near$1: the squibs that the zone is near, one after the other. -/
theorem near_seq (zs : List Zone) (qs : List SquibX) (zone : Int) (zb pb : Nat) (Zv : Value) (A : Option Addr) (cap : Nat) (w : World)
 (hzn : zone < zs.length) (hzi : ∀ z ∈ zs, ZoneIn z) (hqi : ∀ q ∈ qs, SquibIn q.1) (hqk : ∀ q ∈ qs, ∃ A c, q.2 = .slice A q.1.keys.length c)
 (c1 : w.cell? ⟨zb, 0, none⟩ = some (.int .i64 zone)) (c2 : w.cell? ⟨pb, 0, none⟩ = some Zv) (c3 : w.cell? ⟨pb, 4, none⟩ = some (.slice A qs.length cap))
 (hZ : ListV 8 Zone.cell w Zv zs) (hQ : ListV 6 SquibX.cell w (.slice A qs.length cap) qs) :
 SeqOk Try.prog 78 #[.pointer (some ⟨zb, 0, none⟩), .pointer (some ⟨pb, 0, none⟩)] idxEnc (fun _ _ W => w.heap.size + 2 < W.heap.size) (nearG w A qs.length)
  (fun xs => xs = nears zs qs zone) (fun pre => ∃ rest, pre ++ rest = nears zs qs zone) w := by
 intro y J Jx Jp W hW hsz hJ hJx hY h0
 replace c1 := hW.cell c1
 replace c2 := hW.cell c2
 replace c3 := hW.cell c3
 obtain ⟨B0, hB0⟩ : ∃ B0, w.heap.size = B0 := ⟨_, rfl⟩
 have hGdef : ∀ k, nearG w A qs.length k ↔ ((0 < qs.length ∧ ∃ off, A = some ⟨k, off, none⟩) ∨ k = B0 + 2) := fun k => by unfold nearG; rw [hB0]
 obtain ⟨G, hG⟩ : ∃ G, nearG w A qs.length = G := ⟨_, rfl⟩
 rw [hG] at hGdef hY
 rw [hB0] at hsz hY
 rw [← hsz] at hGdef hY
 obtain ⟨Az, capz, rfl, hcapz, hmaxz, hrowz⟩ := hZ
 obtain ⟨A', cap', hav, hcap, hmax, hrow⟩ := hQ
 cases hav
 have hm : cap ≤ 9223372036854775807 := by simpa [maxLen] using hmax
 have hmz : capz ≤ 9223372036854775807 := by simpa [maxLen] using hmaxz
 replace hrowz := hrowz.ext hW
 replace hrow := hrow.ext hW
 clear hW hG hmax hmaxz hB0 w
 refine callsIn_of_wp Try.func78 rfl trivial ?_ rfl
 simp only [Try.ntmps78, List.size_toArray, List.length_cons, List.length_nil, Nat.reduceAdd, Nat.reduceSub, Array.replicate_succ, Array.replicate_zero, List.push_toArray, List.append_toArray, List.nil_append, List.cons_append]
 refine wpIn_wide.2 ?_
 have HY := hide hY
 have HJ := hide hJ
 have HJx := hide hJx
 have H0 := hide h0
 have HZI := hide hzi
 have HQI := hide hqi
 have HQK := hide hqk
 have HROW := hide hrow
 have HG := hide hGdef
 have hltp := World.block_lt_of_cell? _ _ c3
 dsimp only at hltp
 clear hY hJ hJx h0 hzi hqi hqk hrow hGdef hsz
 by_cases hneg : zone < 0
 ·have HN := hide (show nears zs qs zone = [] from if_pos hneg)
  go_wp2
  refine bodyPost_ret (results_none rfl _ _ _) rfl ?_
  exact .inl ⟨⟨_, rfl⟩, .inl (by rw [HN.out]; exact HJ.out [] _ _ H0.out (Ext.refl _))⟩
 ·obtain ⟨n, rfl⟩ : ∃ n : Nat, zone = n := ⟨zone.toNat, by omega⟩
  have h8 : n < zs.length := by omega
  have HN := hide (show nears zs qs (n : Int) = (List.range qs.length).filter fun i => nearB (zs.getD n default) (qs.getD i default).1 from if_neg hneg)
  obtain ⟨bz, oz, rfl, hbz, hcz⟩ := ListV.at hrowz h8
  have d1 := hcz 1 (by omega)
  have d2 := hcz 2 (by omega)
  have d3 := hcz 3 (by omega)
  have d4 := hcz 4 (by omega)
  have hzi := HZI.out _ (getD_in' default h8)
  obtain ⟨z, hz⟩ : ∃ z, zs.getD n default = z := ⟨_, rfl⟩
  rw [hz] at d1 d2 d3 d4 HN hzi
  obtain ⟨znm, za, zb', zc, zd, zgr, zrm, zpr⟩ := z
  obtain ⟨ha, hb, hc, hd⟩ := hzi
  simp only [Zone.cell] at d1 d2 d3 d4
  dsimp only at ha hb hc hd
  clear hcz hz hrowz HZI hneg hzn
  have HZA := hide ha
  have HZB := hide hb
  have HZC := hide hc
  have HZD := hide hd
  clear ha hb hc hd
  go_wp2_with fail
  obtain ⟨W1, hW1⟩ : ∃ W1, W.alloc (.cells #[.int .i64 za, .int .i64 zb', .int .i64 zc, .int .i64 zd] 59) = W1 := ⟨_, rfl⟩
  have hx1 : Ext W W1 := by rw [← hW1]; exact (Ext.refl _).alloc _
  have e0 : W1.cell? ⟨W.heap.size, 0, none⟩ = some (.int .i64 za) := by rw [← hW1]; exact cell_mk W _ _ 0 _ rfl
  have e1 : W1.cell? ⟨W.heap.size, 1, none⟩ = some (.int .i64 zb') := by rw [← hW1]; exact cell_mk W _ _ 1 _ rfl
  have e2 : W1.cell? ⟨W.heap.size, 2, none⟩ = some (.int .i64 zc) := by rw [← hW1]; exact cell_mk W _ _ 2 _ rfl
  have e3 : W1.cell? ⟨W.heap.size, 3, none⟩ = some (.int .i64 zd) := by rw [← hW1]; exact cell_mk W _ _ 3 _ rfl
  rw [hW1]
  have HROW1 := hide (HROW.out.ext hx1)
  have HJ1 := hide (HJ.out [] _ _ H0.out hx1)
  clear hW1 hx1 HROW H0 c1 c2 c3 hltp d1 d2 d3 d4 hbz h8
  obtain ⟨B, hB⟩ : ∃ B, W.heap.size = B := ⟨_, rfl⟩
  rw [hB] at HY HG e0 e1 e2 e3 ⊢
  clear hB W
  obtain ⟨p, hp⟩ : ∃ p : Nat → Bool, p = fun i => nearB ⟨znm, za, zb', zc, zd, zgr, zrm, zpr⟩ (qs.getD i default).1 := ⟨_, rfl⟩
  rw [← hp] at HN
  have HP := hide (fun i => congrFun hp i)
  clear hp
  go_loopw [20] (fun v20 wr => ∃ k : Nat, k ≤ qs.length ∧ v20 = .int .i64 k ∧ Hid (J ((List.range k).filter p) wr) ∧ Hid (Rows2 wr A qs.length 6 fun i k => (qs.getD i default).cell k) ∧
   wr.cell? ⟨B, 0, none⟩ = some (.int .i64 za) ∧ wr.cell? ⟨B, 1, none⟩ = some (.int .i64 zb') ∧ wr.cell? ⟨B, 2, none⟩ = some (.int .i64 zc) ∧ wr.cell? ⟨B, 3, none⟩ = some (.int .i64 zd)) (fun v20 _ => qs.length - (intOf v20).toNat)
  case atStart => exact ⟨0, by omega, rfl, HJ1, HROW1, e0, e1, e2, e3⟩
  case round =>
   clear e0 e1 e2 e3 HJ1 HROW1
   obtain ⟨k, hk, rfl, HJ1, HR, e0, e1, e2, e3⟩ := hrel
   by_cases h8 : k < qs.length
   ·obtain ⟨b, off, rfl, hb, hc⟩ := ListV.at HR.out h8
    have c0 := hc 0 (by omega)
    have c1 := hc 1 (by omega)
    have c2 := hc 2 (by omega)
    have c3 := hc 3 (by omega)
    have c4 := hc 4 (by omega)
    have c5 := hc 5 (by omega)
    have hqi := HQI.out _ (getD_in' default h8)
    have hqk := HQK.out _ (getD_in' default h8)
    have hpk := HP.out k
    obtain ⟨q, hq⟩ : ∃ q, qs.getD k default = q := ⟨_, rfl⟩
    rw [hq] at c0 c1 c2 c3 c4 c5 hqi hqk hpk
    obtain ⟨⟨nm, x, y', cl, gr, ks⟩, kv⟩ := q
    obtain ⟨A', cap', hkv⟩ := hqk
    dsimp only at hkv
    subst hkv
    simp only [SquibX.cell, Nat.add_zero] at c0 c1 c2 c3 c4 c5
    obtain ⟨hqx, hqy, hqc⟩ := hqi
    dsimp only at hqx hqy hqc hpk
    have w1 : IntKind.i64.wrap (za - x) = za - x := by have := HZA.out; rw [IntKind.wrap_i64]; omega
    have w2 : IntKind.i64.wrap (x - zb') = x - zb' := by have := HZB.out; rw [IntKind.wrap_i64]; omega
    have w3 : IntKind.i64.wrap (zc - y') = zc - y' := by have := HZC.out; rw [IntKind.wrap_i64]; omega
    have w4 : IntKind.i64.wrap (y' - zd) = y' - zd := by have := HZD.out; rw [IntKind.wrap_i64]; omega
    obtain ⟨X, hX⟩ : ∃ X, max (max (za - x) (x - zb')) 0 = X := ⟨_, rfl⟩
    obtain ⟨Y, hY⟩ : ∃ Y, max (max (zc - y') (y' - zd)) 0 = Y := ⟨_, rfl⟩
    have hX0 : 0 ≤ X ∧ X ≤ 20000000 := by have := HZA.out; have := HZB.out; omega
    have hY0 : 0 ≤ Y ∧ Y ≤ 20000000 := by have := HZC.out; have := HZD.out; omega
    have HPK := hide (show p k = decide (X * X + Y * Y < cl * cl) by rw [hpk]; unfold nearB farX farY; dsimp only; rw [hX, hY])
    have wX := wrap_sq hX0.1 hX0.2
    have wY := wrap_sq hY0.1 hY0.2
    have wC := wrap_sq hqc.1 (by omega)
    have wS := wrap_sq2 hX0.1 hX0.2 hY0.1 hY0.2
    obtain ⟨XX, hXX⟩ : ∃ XX, X * X = XX := ⟨_, rfl⟩
    obtain ⟨YY, hYY⟩ : ∃ YY, Y * Y = YY := ⟨_, rfl⟩
    obtain ⟨CC, hCC⟩ : ∃ CC, cl * cl = CC := ⟨_, rfl⟩
    have WX := hide (show IntKind.i64.wrap (X * X) = XX by rw [wX, hXX])
    have WY := hide (show IntKind.i64.wrap (Y * Y) = YY by rw [wY, hYY])
    have WC := hide (show IntKind.i64.wrap (cl * cl) = CC by rw [wC, hCC])
    rw [hXX, hYY] at wS
    have WS := hide wS
    rw [hXX, hYY, hCC] at HPK
    clear hXX hYY hCC wX wY wC wS
    clear hc hq hpk hqx hqy hqc hX0 hY0 hb
    go_wp2_with fail
    obtain ⟨W2, hW2⟩ : ∃ W2, wr.alloc (.cells #[.string nm, .int .i64 x, .int .i64 y', .int .i64 cl, .int .i64 gr, .slice A' ks.length cap'] 55) = W2 := ⟨_, rfl⟩
    have hx2 : Ext wr W2 := by rw [← hW2]; exact (Ext.refl _).alloc _
    have f1 : W2.cell? ⟨wr.heap.size, 1, none⟩ = some (.int .i64 x) := by rw [← hW2]; exact cell_mk wr _ _ 1 _ rfl
    have f2 : W2.cell? ⟨wr.heap.size, 2, none⟩ = some (.int .i64 y') := by rw [← hW2]; exact cell_mk wr _ _ 2 _ rfl
    have f3 : W2.cell? ⟨wr.heap.size, 3, none⟩ = some (.int .i64 cl) := by rw [← hW2]; exact cell_mk wr _ _ 3 _ rfl
    have g0 := hx2.cell e0
    have g1 := hx2.cell e1
    have g2 := hx2.cell e2
    have g3 := hx2.cell e3
    rw [hW2]
    have HX2 := hide hx2
    clear hW2 hx2 e0 e1 e2 e3 c0 c1 c2 c3 c4 c5
    go_quiet (fail)
    simp only [max3_if, hX, hY]
    clear w1 w2 w3 w4 hX hY
    obtain ⟨W3, hW3⟩ : ∃ W3, W2.drewN nq = W3 := ⟨_, rfl⟩
    have hx3 : Ext W2 W3 := by rw [← hW3]; exact (Ext.refl _).drewN _
    rw [hW3]
    have k3 := hx3.cell f3
    have g0 := hx3.cell g0
    have g1 := hx3.cell g1
    have g2 := hx3.cell g2
    have g3 := hx3.cell g3
    have HX3 := hide (HX2.out.trans hx3)
    have HLB := hide (World.block_lt_of_cell? _ _ g0)
    clear hW3 hx3 f1 f2 f3
    have wX := WX.out
    have wY := WY.out
    have wC := WC.out
    have wS := WS.out
    cases hd : decide (XX + YY < CC) with
    | true =>
      have HPT := hide (HPK.out.trans hd)
      have hsp : ∃ rest, (List.range k).filter p ++ [k] ++ rest = nears zs qs n := by
       obtain ⟨rest, hr⟩ := filter_range_pre p (show k + 1 ≤ qs.length by omega)
       rw [filter_range_succ, HPT.out, if_pos rfl] at hr
       exact ⟨rest, by rw [HN.out]; exact hr⟩
      obtain ⟨fn, tmps, assign, body, hy, hR⟩ := HY.out _ k wr W3 hsp HJ1.out HX3.out HLB.out
      have HSP := hide hsp
      have HR2 := hide hR
      clear hR hsp
      unfold idxEnc at hy
      go_upto_region 6 with (fail)
      refine (wpIn_wide (n := 0)).1 ?_
      gi_wp2
      refine ⟨rfl, HR2.out.mono ?_⟩
      rintro e W' (⟨rfl, hJ', hk'⟩ | ⟨rfl, hJx'⟩ | ⟨ch, rfl, hJp'⟩)
      ·have hBk : W'.heap[B]? = W3.heap[B]? := hk' B ((HG.out B).2 (.inr rfl))
       have e0 := cell_block g0 hBk
       have e1 := cell_block g1 hBk
       have e2 := cell_block g2 hBk
       have e3 := cell_block g3 hBk
       have HRW := hide ((HR.out.ext HX3.out).keep (w' := W') (fun h b' off' he => hk' b' ((HG.out b').2 (.inl ⟨h, off', he⟩))))
       have HJ' := hide hJ'
       clear hJ' hk' hBk g0 g1 g2 g3 k3 hy HR2 wX wY wC wS hd
       gi_wp2
       go_wp2_with fail
       go_roundw
       case rel => exact ⟨k + 1, by omega, by go_num, by rw [filter_range_succ, HPT.out, if_pos rfl]; exact HJ', HRW, e0, e1, e2, e3⟩
       case measure => simp [intOf]; omega
      ·have HJX := hide hJx'
       clear hJx' g0 g1 g2 g3 k3 hy HR2 wX wY wC wS hd
       gi_wp2
       go_wp2_with fail
       refine bodyPost_ret (results_none rfl _ _ _) rfl ?_
       exact .inl ⟨⟨_, rfl⟩, .inr ⟨_, HSP.out, HJX.out⟩⟩
      ·exact ⟨rfl, .inr ⟨ch, _, rfl, HSP.out, hJp'⟩⟩
    | false =>
      have HPF := hide (HPK.out.trans hd)
      go_wp2_with fail
      go_roundw
      case rel => exact ⟨k + 1, by omega, by go_num, by rw [filter_range_succ, HPF.out, if_neg (by decide), List.append_nil]; exact hide (HJ.out _ _ _ HJ1.out HX3.out), hide (HR.out.ext HX3.out), g0, g1, g2, g3⟩
      case measure => simp [intOf]; omega
   ·have hkl : k = qs.length := by omega
    go_wp2_with fail
    refine bodyPost_end (results_none rfl _ _ _) rfl ?_
    exact .inl ⟨⟨_, rfl⟩, .inl ⟨_, rfl, by rw [HN.out, ← hkl]; exact HJ1.out⟩⟩
end Go.Proofs.Ythcnganbnbhhoaa
namespace Go.Proofs.Ythcnganbnbhhoaa
open Go.RowKit Go.Shelf
set_option maxRecDepth 100000 in
set_option maxHeartbeats 400000 in
/-- pad.near -/
theorem near_any (Az Ad Ap Ak Aq : Option Addr) (nz nd np nk nq cz cd cp ck cq : Nat) (panel wait zone : Int) (w : World) :
 Calls Try.prog 52 #[.agg #[.slice Az nz cz, .slice Ad nd cd, .slice Ap np cp, .slice Ak nk ck, .slice Aq nq cq, .int .i64 panel, .int .i64 wait], .int .i64 zone] w fun e w' =>
  ∃ zb pb, e = .returned (.func (.func 78) #[] #[.pointer (some ⟨zb, 0, none⟩), .pointer (some ⟨pb, 0, none⟩)]) ∧ Ext w w' ∧
    w'.cell? ⟨zb, 0, none⟩ = some (.int .i64 zone) ∧ w'.cell? ⟨pb, 0, none⟩ = some (.slice Az nz cz) ∧ w'.cell? ⟨pb, 4, none⟩ = some (.slice Aq nq cq) := by
 go_enter Try.func52, Try.ntmps52
 go_wp2
 go_ret
 refine ⟨_, _, rfl, ((Ext.refl _).alloc _).alloc _, ?_, ?_, ?_⟩ <;> simp
end Go.Proofs.Ythcnganbnbhhoaa
