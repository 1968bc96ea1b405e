/- The walk of pad.Check. -/
import Derived.Test.YthcnganbnbhhoaaNamed
import Derived.Test.YthcnganbnbhhoaaNear
import Derived.RangeFuncBox
import Derived.BigFrameIn
import Derived.BigFrame
import Derived.RegionTactic
import Derived.ChangeAlike
namespace Go.Proofs.Ythcnganbnbhhoaa
open Go.RowKit Go.Shelf
attribute [local go_sem] Oper.semAt_some
/-- What a pad's doors lack: the first that is wrong, and how. -/
def doorE (last : Int) (d : Door) : Int := if (outB d.a (-1) last || outB d.b (-1) last) = true then 4 else if d.a = d.b then 2 else 0
def longB (p : Pad) : Bool := outB ((p.zones.length : Int) - 1) 0 7 || decide (24 < p.doors.length) || decide (8 < p.people.length) || decide (8 < p.keys.length) || decide (6 < p.squibs.length)
def zonesE (p : Pad) : Nat × Int := firstE (nameE (fun k => (p.zones.getD k default).name) (fun k => zoneE (p.zones.getD k default))) p.zones.length
def doorsE (p : Pad) : Nat × Int := firstE (fun k => doorE ((p.zones.length : Int) - 1) (p.doors.getD k default)) p.doors.length
def peopleE (p : Pad) : Nat × Int := firstE (nameE (fun k => (p.people.getD k default).name) (fun k => personE (p.people.getD k default))) p.people.length
def keysE (p : Pad) : Nat × Int := firstE (nameE (fun k => p.keys.getD k default) (fun k => keyE (p.keys.getD k default))) p.keys.length
def squibsE (p : Pad) : Nat × Int := firstE (nameE (fun k => (p.squibs.getD k default).1.name) (fun k => squibE (p.squibs.getD k default).1 p.keys.length)) p.squibs.length
/-- The part, the index in it and the error of a pad. -/
def padE (p : Pad) : Int × Int × Int :=
 if longB p = true then (1, 0, 3) else
 if (zonesE p).2 ≠ 0 then (2, (zonesE p).1, (zonesE p).2) else
 if (doorsE p).2 ≠ 0 then (3, (doorsE p).1, (doorsE p).2) else
 if (peopleE p).2 ≠ 0 then (4, (peopleE p).1, (peopleE p).2) else
 if (keysE p).2 ≠ 0 then (5, (keysE p).1, (keysE p).2) else
 if (squibsE p).2 ≠ 0 then (6, (squibsE p).1, (squibsE p).2) else
 if outB p.panel 0 ((p.zones.length : Int) - 1) = true then (7, 0, 4) else
 if nears p.zones p.squibs p.panel ≠ [] then (7, 0, 2) else
 if outB p.wait 0 6000 = true then (7, 0, 7) else (0, 0, 0)
theorem badAt_ne {e : Nat → Int} {n k : Nat} (h : badAt e n = some k) : e k ≠ 0 := by
 induction n with
 | zero => cases h
 | succ n ih =>
   rw [badAt] at h
   cases hb : badAt e n with
   | some j => rw [hb] at h; injection h with h; exact ih (by rw [hb, h])
   | none =>
     rw [hb] at h
     dsimp only at h
     by_cases he : e n = 0
     ·rw [if_pos he] at h; cases h
     ·rw [if_neg he] at h; injection h with h; rw [← h]; exact he
theorem firstE_zero {e : Nat → Int} {n : Nat} (h : (firstE e n).2 = 0) : ∀ j, j < n → e j = 0 := by
 unfold firstE at h
 cases hb : badAt e n with
 | none => exact badAt_inv hb
 | some k => rw [hb] at h; exact absurd h (badAt_ne hb)
theorem inB_le {n lo hi : Int} (h : inB n lo hi = true) : lo ≤ n ∧ n ≤ hi := inB_t.1 h
theorem nameE_zero {nm : Nat → ByteArray} {rest : Nat → Int} {k : Nat} (h : nameE nm rest k = 0) : rest k = 0 := by
 unfold nameE at h
 split at h
 ·cases h
 ·split at h
  ·cases h
  ·exact h
theorem zoneE_in {z : Zone} (h : zoneE z = 0) : ZoneIn z := by
 unfold zoneE at h
 split at h
 ·rename_i h1
  simp only [sideB, placeB, Bool.and_eq_true, inB_t, decide_eq_true_eq] at h1
  exact ⟨h1.1.1.1.1, h1.1.1.1.2.1, h1.1.1.2.1, h1.1.1.2.2.1⟩
 ·cases h
theorem zones_in {l : List Zone} {nm : Nat → ByteArray} (h : (firstE (nameE nm (fun k => zoneE (l.getD k default))) l.length).2 = 0) : ∀ z ∈ l, ZoneIn z := by
 intro z hz
 obtain ⟨j, hj, e⟩ := List.getElem_of_mem hz
 have := nameE_zero (firstE_zero h j hj)
 rw [List.getD_eq_getElem?_getD, List.getElem?_eq_getElem hj, Option.getD_some, e] at this
 exact zoneE_in this
theorem squibE_in {q : Squib} {n : Int} (h : squibE q n = 0) : SquibIn q := by
 unfold squibE at h
 split at h
 ·cases h
 ·rename_i h1
  rw [Bool.not_eq_false] at h1
  simp only [placeB, Bool.and_eq_true, inB_t, and_assoc] at h1
  exact ⟨⟨h1.1, h1.2.1⟩, ⟨h1.2.2.1, h1.2.2.2.1⟩, ⟨h1.2.2.2.2.1, h1.2.2.2.2.2.1⟩⟩
theorem squibs_in {l : List SquibX} {nm : Nat → ByteArray} {n : Nat} (h : (firstE (nameE nm (fun k => squibE (l.getD k default).1 n)) l.length).2 = 0) : ∀ q ∈ l, SquibIn q.1 := by
 intro z hz
 obtain ⟨j, hj, e⟩ := List.getElem_of_mem hz
 have := nameE_zero (firstE_zero h j hj)
 rw [List.getD_eq_getElem?_getD, List.getElem?_eq_getElem hj, Option.getD_some, e] at this
 exact squibE_in this
/-- Blocks of whole cells. -/
theorem cell_heap {W : World} {B : Nat} {c : Array Value} {t : TypeId} {fr : Nat × Nat} (h : W.heap[B]? = some (.cells c t fr)) (k : Nat) (v : Value) (hk : c[k]? = some v) : W.cell? ⟨B, k, none⟩ = some v := by
 unfold World.cell?
 rw [show W.heap[(⟨B, k, none⟩ : Addr).block]? = some (.cells c t fr) from h]
 simp [hk]
theorem Boxed.ext {W W' : World} {B : Nat} {t : TypeId} {v : Value} (h : Boxed W B t v) (k : Ext W W') : Boxed W' B t v := (Below.block k B h.lt).trans h
theorem Boxed.turn {N : Nat} {W W' : World} {B : Nat} {t : TypeId} {v : Value} (h : Boxed W B t v) (k : Turn N W W') : Boxed W' B t v := k.block _ _ h (.inr rfl)
def Blk (W : World) (B : Nat) (t : TypeId) (cs : Array Value) : Prop := W.heap[B]? = some (.cells cs t (0, 0))
theorem Blk.lt {W : World} {B : Nat} {t : TypeId} {cs : Array Value} (h : Blk W B t cs) : B < W.heap.size := (Array.getElem?_eq_some_iff.1 h).1
theorem Blk.new (W : World) (t : TypeId) (cs : Array Value) : Blk (W.alloc (.cells cs t)) W.heap.size t cs := World.alloc_heap_new W _
theorem Blk.ext {W W' : World} {B : Nat} {t : TypeId} {cs : Array Value} (h : Blk W B t cs) (k : Ext W W') : Blk W' B t cs := (Below.block k B h.lt).trans h
theorem Blk.turn {N : Nat} {W W' : World} {B : Nat} {t : TypeId} {cs : Array Value} (h : Blk W B t cs) (k : Turn N W W') : Blk W' B t cs := k.block _ _ h (.inr rfl)
theorem Blk.kept {W W' : World} {row : Option Nat} {B : Nat} {t : TypeId} {cs : Array Value} (h : Blk W B t cs) (hg : W.grownBy W' row) (hne : some B ≠ row) : Blk W' B t cs := (hg.block B h.lt hne).trans h
theorem Blk.other {W : World} {B B' : Nat} {t : TypeId} {cs : Array Value} (h : Blk W B t cs) (hne : B ≠ B') (k : Nat) (u : Value) : Blk (W.setCell ⟨B', k, none⟩ u) B t cs :=
 (Below.heap_setCell W ⟨B', k, none⟩ u B (fun e => hne e)).trans h
/-- Memory between two parts of pad.Check: the pad's box, and the boxes of the results. -/
structure ChkW (w : World) (cs : Array Value) (W : World) (x y z : Value) : Prop where
 ext : Ext w W
 box : Blk W w.heap.size 28 cs
 r2 : Boxed W (w.heap.size + 1) 3 x
 r3 : Boxed W (w.heap.size + 1 + 1) 3 y
 r4 : Boxed W (w.heap.size + 1 + 1 + 1) 29 z
section
variable {w W W' : World} {cs : Array Value} {x y z : Value}
theorem ChkW.ext' (h : ChkW w cs W x y z) (k : Ext W W') : ChkW w cs W' x y z := ⟨h.ext.trans k, h.box.ext k, Boxed.ext h.r2 k, Boxed.ext h.r3 k, Boxed.ext h.r4 k⟩
theorem ChkW.s2 (h : ChkW w cs W x y z) (u : Value) : ChkW w cs (W.setCell ⟨w.heap.size + 1, 0, none⟩ u) u y z :=
 ⟨h.ext.setCell (by dsimp only; omega) _, h.box.other (by omega) _ _, Boxed.set _ h.r2, Boxed.other h.r3 (by omega) _, Boxed.other h.r4 (by omega) _⟩
theorem ChkW.s3 (h : ChkW w cs W x y z) (u : Value) : ChkW w cs (W.setCell ⟨w.heap.size + 1 + 1, 0, none⟩ u) x u z :=
 ⟨h.ext.setCell (by dsimp only; omega) _, h.box.other (by omega) _ _, Boxed.other h.r2 (by omega) _, Boxed.set _ h.r3, Boxed.other h.r4 (by omega) _⟩
theorem ChkW.s4 (h : ChkW w cs W x y z) (u : Value) : ChkW w cs (W.setCell ⟨w.heap.size + 1 + 1 + 1, 0, none⟩ u) x y u :=
 ⟨h.ext.setCell (by dsimp only; omega) _, h.box.other (by omega) _ _, Boxed.other h.r2 (by omega) _, Boxed.other h.r3 (by omega) _, Boxed.set _ h.r4⟩
theorem ChkW.turn (h : ChkW w cs W x y z) {N : Nat} (k : Turn N W W') (hN : w.heap.size ≤ N) : ChkW w cs W' x y z :=
 ⟨k.below h.ext hN h.ext.size, h.box.turn k, Boxed.turn h.r2 k, Boxed.turn h.r3 k, Boxed.turn h.r4 k⟩
theorem ChkW.new (w : World) (cs : Array Value) (x y z : Value) : ChkW w cs ((((w.alloc (.cells cs 28)).alloc (.cells #[x] 3)).alloc (.cells #[y] 3)).alloc (.cells #[z] 29)) x y z := by
 refine ⟨((((Ext.refl _).alloc _).alloc _).alloc _).alloc _, ((((Blk.new w _ _).ext ((Ext.refl _).alloc _)).ext ((Ext.refl _).alloc _)).ext ((Ext.refl _).alloc _)), ?_, ?_, ?_⟩
 ·have := ((Boxed.new (w.alloc (.cells cs 28)) 3 x).alloc (.cells #[y] 3)).alloc (.cells #[z] 29)
  simpa only [World.size_alloc] using this
 ·have := (Boxed.new ((w.alloc (.cells cs 28)).alloc (.cells #[x] 3)) 3 y).alloc (.cells #[z] 29)
  simpa only [World.size_alloc] using this
 ·have := Boxed.new (((w.alloc (.cells cs 28)).alloc (.cells #[x] 3)).alloc (.cells #[y] 3)) 29 z
  simpa only [World.size_alloc] using this
end
set_option maxRecDepth 100000 in
set_option maxHeartbeats 4000000 in
/-- pad.Check -/
theorem check_any (v : Value) (p : Pad) (w : World) (hp : PadV w v p) :
 Calls Try.prog 16 #[v] w fun e w' => e = .returned (.tuple #[.int .i64 (padE p).1, .int .i64 (padE p).2.1, .int .i64 (padE p).2.2]) ∧ Ext w w' := by
 obtain ⟨hs, hki, a, b, c, d, q, rfl, hz, hd, hpp, hk, hq⟩ := hp
 have HZ := hide hz
 have HD := hide hd
 have HP := hide hpp
 have HK := hide hk
 have HQ := hide hq
 have HS := hide hs
 have HKI := hide hki
 obtain ⟨Az, cz, rfl, hcz, hmz, _⟩ := hz
 obtain ⟨Ad, cd, rfl, hcd, hmd, hrowd⟩ := hd
 have HROWD := hide hrowd
 clear hrowd
 obtain ⟨Ap, cp, rfl, hcp, hmp, _⟩ := hpp
 obtain ⟨Ak, ck, rfl, hck, hmk, _⟩ := hk
 obtain ⟨Aq, cq, rfl, hcq, hmq, _⟩ := hq
 simp only [maxLen] at hmz hmd hmp hmk hmq
 obtain ⟨R, hR⟩ : ∃ R, padE p = R := ⟨_, rfl⟩
 have HR := hide hR
 obtain ⟨nz, hnz⟩ : ∃ nz, p.zones.length = nz := ⟨_, rfl⟩
 obtain ⟨nd, hnd⟩ : ∃ nz, p.doors.length = nz := ⟨_, rfl⟩
 obtain ⟨np, hnp⟩ : ∃ nz, p.people.length = nz := ⟨_, rfl⟩
 obtain ⟨nk, hnk⟩ : ∃ nz, p.keys.length = nz := ⟨_, rfl⟩
 obtain ⟨nq, hnq⟩ : ∃ nz, p.squibs.length = nz := ⟨_, rfl⟩
 rw [hR]
 have HL := hide (show longB p = (outB ((nz : Int) - 1) 0 7 || decide (24 < nd) || decide (8 < np) || decide (8 < nk) || decide (6 < nq)) by unfold longB; rw [hnz, hnd, hnp, hnk, hnq])
 simp only [hnz, hnd, hnp, hnk, hnq] at hcz hcd hcp hck hcq HZ HD HP HK HQ ⊢
 have hwl : IntKind.i64.wrap ((nz : Int) - 1) = (nz : Int) - 1 := by rw [IntKind.wrap_i64]; omega
 have HNZ := hide hnz
 have HND := hide hnd
 have HNP := hide hnp
 have HNK := hide hnk
 have HNQ := hide hnq
 clear hR hs hki hnz hnd hnp hnk hnq
 refine callsIn_wide.1 (callsIn_of_wp_marks (n := 0) Try.func16 rfl trivial ?_ rfl)
 simp only [Try.ntmps16, List.size_toArray, List.length_cons, List.length_nil, Nat.reduceAdd, Nat.reduceSub, Array.replicate_succ, Array.replicate_zero, List.push_toArray, List.append_toArray, List.nil_append, List.cons_append]
 refine wpIn_wide.2 ?_
 cases h0 : outB ((nz : Int) - 1) 0 7 with
 | true =>
   have HO := hide (fun V => out_any ((nz : Int) - 1) 0 7 V)
   rw [h0] at HO HL
   have HE := hide (show R = (1, 0, 3) by rw [← HR.out]; unfold padE; rw [if_pos (by rw [HL.out]; rfl)])
   clear h0
   go_wp2_with (go_at_call 37; refine (HO.out _).mono ?_; rintro e w' ⟨rfl, rfl⟩)
   refine ⟨.tuple #[.int .i64 1, .int .i64 0, .int .i64 3], by simp [results, Try.results16, go_sem], ?_⟩
   rw [HE.out]
   exact ⟨rfl, ((((Ext.refl _).alloc _).alloc _).alloc _).alloc _⟩
 | false =>
   have HO := hide (fun V => out_any ((nz : Int) - 1) 0 7 V)
   rw [h0] at HO HL
   clear h0
   by_cases h1 : 24 < nd
   ·have h1' : decide ((24 : Int) < (nd : Int)) = true := decide_eq_true (by omega)
    have HE := hide (show R = (1, 0, 3) by rw [← HR.out]; unfold padE; rw [if_pos (by rw [HL.out]; simp [h1])])
    clear h1
    go_wp2_with (go_at_call 37; refine (HO.out _).mono ?_; rintro e w' ⟨rfl, rfl⟩)
    refine ⟨.tuple #[.int .i64 1, .int .i64 0, .int .i64 3], by simp [results, Try.results16, go_sem], ?_⟩
    rw [HE.out]
    exact ⟨rfl, ((((Ext.refl _).alloc _).alloc _).alloc _).alloc _⟩
   ·have h1' : decide ((24 : Int) < (nd : Int)) = false := decide_eq_false (by omega)
    by_cases h2 : 8 < np
    ·have h2' : decide ((8 : Int) < (np : Int)) = true := decide_eq_true (by omega)
     have HE := hide (show R = (1, 0, 3) by rw [← HR.out]; unfold padE; rw [if_pos (by rw [HL.out]; simp [h1, h2])])
     clear h1 h2
     go_wp2_with (go_at_call 37; refine (HO.out _).mono ?_; rintro e w' ⟨rfl, rfl⟩)
     refine ⟨.tuple #[.int .i64 1, .int .i64 0, .int .i64 3], by simp [results, Try.results16, go_sem], ?_⟩
     rw [HE.out]
     exact ⟨rfl, ((((Ext.refl _).alloc _).alloc _).alloc _).alloc _⟩
    ·have h2' : decide ((8 : Int) < (np : Int)) = false := decide_eq_false (by omega)
     by_cases h3 : 8 < nk
     ·have h3' : decide ((8 : Int) < (nk : Int)) = true := decide_eq_true (by omega)
      have HE := hide (show R = (1, 0, 3) by rw [← HR.out]; unfold padE; rw [if_pos (by rw [HL.out]; simp [h1, h2, h3])])
      clear h1 h2 h3
      go_wp2_with (go_at_call 37; refine (HO.out _).mono ?_; rintro e w' ⟨rfl, rfl⟩)
      refine ⟨.tuple #[.int .i64 1, .int .i64 0, .int .i64 3], by simp [results, Try.results16, go_sem], ?_⟩
      rw [HE.out]
      exact ⟨rfl, ((((Ext.refl _).alloc _).alloc _).alloc _).alloc _⟩
     ·have h3' : decide ((8 : Int) < (nk : Int)) = false := decide_eq_false (by omega)
      by_cases h4 : 6 < nq
      ·have h4' : decide ((6 : Int) < (nq : Int)) = true := decide_eq_true (by omega)
       have HE := hide (show R = (1, 0, 3) by rw [← HR.out]; unfold padE; rw [if_pos (by rw [HL.out]; simp [h1, h2, h3, h4])])
       clear h1 h2 h3 h4
       go_wp2_with (go_at_call 37; refine (HO.out _).mono ?_; rintro e w' ⟨rfl, rfl⟩)
       refine ⟨.tuple #[.int .i64 1, .int .i64 0, .int .i64 3], by simp [results, Try.results16, go_sem], ?_⟩
       rw [HE.out]
       exact ⟨rfl, ((((Ext.refl _).alloc _).alloc _).alloc _).alloc _⟩
      ·have h4' : decide ((6 : Int) < (nq : Int)) = false := decide_eq_false (by omega)
       have HLF := hide (show longB p = false by rw [HL.out]; simp; omega)
       clear h1 h2 h3 h4
       go_wp2_with (go_at_call 37; refine (HO.out _).mono ?_; rintro e w' ⟨rfl, rfl⟩)
       have HC := hide (ChkW.new w #[.slice Az nz cz, .slice Ad nd cd, .slice Ap np cp, .slice Ak nk ck, .slice Aq nq cq, .int .i64 p.panel, .int .i64 p.wait] (.int .i64 0) (.int .i64 0) (.int .i64 0))
       obtain ⟨Wd, hWd⟩ : ∃ Wd, (((w.alloc (.cells #[.slice Az nz cz, .slice Ad nd cd, .slice Ap np cp, .slice Ak nk ck, .slice Aq nq cq, .int .i64 p.panel, .int .i64 p.wait] 28)).alloc (.cells #[.int .i64 0] 3)).alloc (.cells #[.int .i64 0] 3)).alloc (.cells #[.int .i64 0] 29) = Wd := ⟨_, rfl⟩
       rw [hWd] at HC ⊢
       clear hWd
       have p0 := cell_heap HC.out.box 0 _ rfl
       have p1 := cell_heap HC.out.box 1 _ rfl
       have p2 := cell_heap HC.out.box 2 _ rfl
       have p3 := cell_heap HC.out.box 3 _ rfl
       have p4 := cell_heap HC.out.box 4 _ rfl
       have p5 := cell_heap HC.out.box 5 _ rfl
       have p6 := cell_heap HC.out.box 6 _ rfl
       have r2 := Boxed.cell HC.out.r2
       have r3 := Boxed.cell HC.out.r3
       have r4 := Boxed.cell HC.out.r4
       have f2 := Boxed.frozen HC.out.r2
       have f3 := Boxed.frozen HC.out.r3
       have f4 := Boxed.frozen HC.out.r4
       have HNA : Hid (Calls Try.prog 38 #[.slice Az nz cz, .func (.func 39) #[] #[], .func (.func 40) #[] #[]] Wd fun e w' => e = .returned (.tuple #[.int .i64 (zonesE p).1, .int .i64 (zonesE p).2]) ∧ Ext Wd w') := hide (namedZone_any (.slice Az nz cz) p.zones Wd (HZ.out.ext HC.out.ext) HS.out.1)
       refine HNA.out.mono ?_
       rintro e w2 ⟨rfl, hx2⟩
       obtain ⟨⟨zi, ze⟩, hzr⟩ : ∃ r, zonesE p = r := ⟨_, rfl⟩
       have HZR2 := hide hzr
       rw [hzr]
       replace HC := hide (HC.out.ext' hx2)
       clear HNA hx2 hzr p0 p1 p2 p3 p4 p5 p6 r2 r3 r4 f2 f3 f4
       have p0 := cell_heap HC.out.box 0 _ rfl
       have p1 := cell_heap HC.out.box 1 _ rfl
       have p2 := cell_heap HC.out.box 2 _ rfl
       have p3 := cell_heap HC.out.box 3 _ rfl
       have p4 := cell_heap HC.out.box 4 _ rfl
       have p5 := cell_heap HC.out.box 5 _ rfl
       have p6 := cell_heap HC.out.box 6 _ rfl
       have r2 := Boxed.cell HC.out.r2
       have r3 := Boxed.cell HC.out.r3
       have r4 := Boxed.cell HC.out.r4
       have f2 := Boxed.frozen HC.out.r2
       have f3 := Boxed.frozen HC.out.r3
       have f4 := Boxed.frozen HC.out.r4
       by_cases hze : ze = 0
       ·have hzd : (ze != 0) = false := by simp [hze]
        have HZ2 := hide hze
        clear hze
        go_wp2_with fail
        obtain ⟨W3, hW3⟩ : ∃ W3, (w2.setCell ⟨w.heap.size + 1 + 1, 0, none⟩ (.int .i64 zi)).setCell ⟨w.heap.size + 1 + 1 + 1, 0, none⟩ (.int .i64 ze) = W3 := ⟨_, rfl⟩
        replace HC := hide ((HC.out.s3 (.int .i64 zi)).s4 (.int .i64 ze))
        rw [hW3] at HC ⊢
        clear hW3 hzd p0 p1 p2 p3 p4 p5 p6 r2 r3 r4 f2 f3 f4
        have HP2 := hide (show (zonesE p).2 = 0 by rw [HZR2.out]; exact HZ2.out)
        clear HZR2 HZ2
        have p0 := cell_heap HC.out.box 0 _ rfl
        have p1 := cell_heap HC.out.box 1 _ rfl
        have p2 := cell_heap HC.out.box 2 _ rfl
        have p3 := cell_heap HC.out.box 3 _ rfl
        have p4 := cell_heap HC.out.box 4 _ rfl
        have p5 := cell_heap HC.out.box 5 _ rfl
        have p6 := cell_heap HC.out.box 6 _ rfl
        have r2 := Boxed.cell HC.out.r2
        have r3 := Boxed.cell HC.out.r3
        have r4 := Boxed.cell HC.out.r4
        have f2 := Boxed.frozen HC.out.r2
        have f3 := Boxed.frozen HC.out.r3
        have f4 := Boxed.frozen HC.out.r4
        go_loopw [51] (fun v51 wr => Hid (ChkW w #[.slice Az nz cz, .slice Ad nd cd, .slice Ap np cp, .slice Ak nk ck, .slice Aq nq cq, .int .i64 p.panel, .int .i64 p.wait] wr (.int .i64 0) (.int .i64 zi) (.int .i64 ze)) ∧ ∃ k : Nat, k ≤ nd ∧ v51 = .int .i64 k ∧ Hid (∀ j, j < k → doorE ((p.zones.length : Int) - 1) (p.doors.getD j default) = 0)) (fun v51 _ => nd - (intOf v51).toNat)
        case atStart => exact ⟨HC, 0, by omega, rfl, hide (fun j hj => absurd hj (by omega))⟩
        case round =>
         clear HC p0 p1 p2 p3 p4 p5 p6 r2 r3 r4 f2 f3 f4
         obtain ⟨HC, k, hk, rfl, HS0⟩ := hrel
         have p0 := cell_heap HC.out.box 0 _ rfl
         have p1 := cell_heap HC.out.box 1 _ rfl
         have p2 := cell_heap HC.out.box 2 _ rfl
         have p3 := cell_heap HC.out.box 3 _ rfl
         have p4 := cell_heap HC.out.box 4 _ rfl
         have p5 := cell_heap HC.out.box 5 _ rfl
         have p6 := cell_heap HC.out.box 6 _ rfl
         have r2 := Boxed.cell HC.out.r2
         have r3 := Boxed.cell HC.out.r3
         have r4 := Boxed.cell HC.out.r4
         have f2 := Boxed.frozen HC.out.r2
         have f3 := Boxed.frozen HC.out.r3
         have f4 := Boxed.frozen HC.out.r4
         by_cases h8 : k < nd
         ·obtain ⟨b, off, hA, hb, hc⟩ := ListV.at (HROWD.out.ext HC.out.ext) (by rw [HND.out]; exact h8)
          have c0 := hc 0 (by omega)
          have c1 := hc 1 (by omega)
          obtain ⟨d, hd⟩ : ∃ d, p.doors.getD k default = d := ⟨_, rfl⟩
          have HDD := hide hd
          rw [hd] at c0 c1
          obtain ⟨da, db⟩ := d
          simp only [Door.cell, Nat.add_zero] at c0 c1
          have HDE := hide (show doorE ((p.zones.length : Int) - 1) (p.doors.getD k default) = if (outB da (-1) ((nz : Int) - 1) || outB db (-1) ((nz : Int) - 1)) = true then 4 else if da = db then 2 else 0 by rw [HDD.out, HNZ.out]; rfl)
          have HF : ∀ x, doorE ((p.zones.length : Int) - 1) (p.doors.getD k default) = x → x ≠ 0 → Hid (R = (3, (k : Int), x)) := fun x hx h0 => by
           have h1 : doorsE p = (k, x) := by unfold doorsE; rw [firstE_some HS0.out (by rw [HND.out]; exact h8) (by rw [hx]; exact h0), hx]
           rw [← HR.out]; unfold padE; rw [if_neg (by rw [HLF.out]; decide)]; rw [if_neg (by rw [HP2.out]; decide)];  rw [if_pos (by rw [h1]; exact h0), h1]; exact hide rfl
          have HFF := hide HF
          have HA := hide (fun V => out_any da (-1) ((nz : Int) - 1) V)
          have HB := hide (fun V => out_any db (-1) ((nz : Int) - 1) V)
          subst hA
          clear hd hc HF
          go_wp2_with fail
          obtain ⟨W4, hW4⟩ : ∃ W4, wr.alloc (.cells #[.int .i64 da, .int .i64 db] 89) = W4 := ⟨_, rfl⟩
          have d0 : W4.cell? ⟨wr.heap.size, 0, none⟩ = some (.int .i64 da) := by rw [← hW4]; exact cell_mk wr _ _ 0 _ rfl
          have d1 : W4.cell? ⟨wr.heap.size, 1, none⟩ = some (.int .i64 db) := by rw [← hW4]; exact cell_mk wr _ _ 1 _ rfl
          have hx4 : Ext wr W4 := by rw [← hW4]; exact (Ext.refl _).alloc _
          rw [hW4]
          replace HC := hide (HC.out.ext' hx4)
          clear hx4 hW4 c0 c1 hb p0 p1 p2 p3 p4 p5 p6 r2 r3 r4 f2 f3 f4
          have p0 := cell_heap HC.out.box 0 _ rfl
          have p1 := cell_heap HC.out.box 1 _ rfl
          have p2 := cell_heap HC.out.box 2 _ rfl
          have p3 := cell_heap HC.out.box 3 _ rfl
          have p4 := cell_heap HC.out.box 4 _ rfl
          have p5 := cell_heap HC.out.box 5 _ rfl
          have p6 := cell_heap HC.out.box 6 _ rfl
          have r2 := Boxed.cell HC.out.r2
          have r3 := Boxed.cell HC.out.r3
          have r4 := Boxed.cell HC.out.r4
          have f2 := Boxed.frozen HC.out.r2
          have f3 := Boxed.frozen HC.out.r3
          have f4 := Boxed.frozen HC.out.r4
          refine (HA.out _).mono ?_
          rintro e w' ⟨rfl, rfl⟩
          cases ha : outB da (-1) ((nz : Int) - 1) with
          | true =>
            have HE := HFF.out 4 (by rw [HDE.out, ha]; rfl) (by decide)
            clear ha
            go_wp2_with fail
            obtain ⟨W9, hW9⟩ : ∃ W9, (((W4).setCell ⟨w.heap.size + 1, 0, none⟩ (.int .i64 3)).setCell ⟨w.heap.size + 1 + 1, 0, none⟩ (.int .i64 k)).setCell ⟨w.heap.size + 1 + 1 + 1, 0, none⟩ (.int .i64 4) = W9 := ⟨_, rfl⟩
            have hc9 := (((HC.out).s2 (.int .i64 3)).s3 (.int .i64 k)).s4 (.int .i64 4)
            rw [hW9] at hc9 ⊢
            have q2 := Boxed.cell hc9.r2
            have q3 := Boxed.cell hc9.r3
            have q4 := Boxed.cell hc9.r4
            refine ⟨_, by simp [results, Try.results16, go_sem, q2, q3, q4]; rfl, ?_⟩
            exact ⟨by rw [HE.out], hc9.ext⟩
          | false =>
            cases hb : outB db (-1) ((nz : Int) - 1) with
            | true =>
              have HE := HFF.out 4 (by rw [HDE.out, ha, hb]; rfl) (by decide)
              rw [hb] at HB
              clear ha hb
              go_wp2_with (go_at_call 37; refine (HB.out _).mono ?_; rintro e w' ⟨rfl, rfl⟩)
              obtain ⟨W9, hW9⟩ : ∃ W9, (((W4).setCell ⟨w.heap.size + 1, 0, none⟩ (.int .i64 3)).setCell ⟨w.heap.size + 1 + 1, 0, none⟩ (.int .i64 k)).setCell ⟨w.heap.size + 1 + 1 + 1, 0, none⟩ (.int .i64 4) = W9 := ⟨_, rfl⟩
              have hc9 := (((HC.out).s2 (.int .i64 3)).s3 (.int .i64 k)).s4 (.int .i64 4)
              rw [hW9] at hc9 ⊢
              have q2 := Boxed.cell hc9.r2
              have q3 := Boxed.cell hc9.r3
              have q4 := Boxed.cell hc9.r4
              refine ⟨_, by simp [results, Try.results16, go_sem, q2, q3, q4]; rfl, ?_⟩
              exact ⟨by rw [HE.out], hc9.ext⟩
            | false =>
              rw [hb] at HB
              by_cases hab : da = db
              ·have HE := HFF.out 2 (by rw [HDE.out, ha, hb, if_neg (by decide), if_pos hab]) (by decide)
               have hdd : decide (da = db) = true := decide_eq_true hab
               have hde : (da == db) = true := by simpa using hab
               clear ha hb hab
               go_wp2_with (go_at_call 37; refine (HB.out _).mono ?_; rintro e w' ⟨rfl, rfl⟩)
               obtain ⟨W9, hW9⟩ : ∃ W9, (((W4).setCell ⟨w.heap.size + 1, 0, none⟩ (.int .i64 3)).setCell ⟨w.heap.size + 1 + 1, 0, none⟩ (.int .i64 k)).setCell ⟨w.heap.size + 1 + 1 + 1, 0, none⟩ (.int .i64 2) = W9 := ⟨_, rfl⟩
               have hc9 := (((HC.out).s2 (.int .i64 3)).s3 (.int .i64 k)).s4 (.int .i64 2)
               rw [hW9] at hc9 ⊢
               have q2 := Boxed.cell hc9.r2
               have q3 := Boxed.cell hc9.r3
               have q4 := Boxed.cell hc9.r4
               refine ⟨_, by simp [results, Try.results16, go_sem, q2, q3, q4]; rfl, ?_⟩
               exact ⟨by rw [HE.out], hc9.ext⟩
              ·have HZZ := hide (show doorE ((p.zones.length : Int) - 1) (p.doors.getD k default) = 0 by rw [HDE.out, ha, hb, if_neg (by decide), if_neg hab])
               have hdd : decide (da = db) = false := decide_eq_false hab
               have hde : (da == db) = false := by simpa using hab
               clear ha hb hab
               go_wp2_with (go_at_call 37; refine (HB.out _).mono ?_; rintro e w' ⟨rfl, rfl⟩)
               go_roundw
               case rel => exact ⟨HC, k + 1, by omega, by go_num, hide (fun j hj => by
                by_cases hjk : j = k
                ·rw [hjk]; exact HZZ.out
                ·exact HS0.out j (by omega))⟩
               case measure => simp [intOf]; omega
         ·have hkl : k = nd := by omega
          have HP3 := hide (show (doorsE p).2 = 0 by unfold doorsE; rw [firstE_none (fun j hj => HS0.out j (by have := HND.out; omega))])
          clear HS0
          go_wp2_with fail
          have HNA : Hid (Calls Try.prog 41 #[.slice Ap np cp, .func (.func 42) #[] #[], .func (.func 43) #[] #[]] wr fun e w' => e = .returned (.tuple #[.int .i64 (peopleE p).1, .int .i64 (peopleE p).2]) ∧ Ext wr w') := hide (namedPerson_any (.slice Ap np cp) p.people wr (HP.out.ext HC.out.ext) HS.out.2.1)
          refine HNA.out.mono ?_
          rintro e w2 ⟨rfl, hx2⟩
          obtain ⟨⟨zi, ze⟩, hzr⟩ : ∃ r, peopleE p = r := ⟨_, rfl⟩
          have HZR4 := hide hzr
          rw [hzr]
          replace HC := hide (HC.out.ext' hx2)
          clear HNA hx2 hzr p0 p1 p2 p3 p4 p5 p6 r2 r3 r4 f2 f3 f4
          have p0 := cell_heap HC.out.box 0 _ rfl
          have p1 := cell_heap HC.out.box 1 _ rfl
          have p2 := cell_heap HC.out.box 2 _ rfl
          have p3 := cell_heap HC.out.box 3 _ rfl
          have p4 := cell_heap HC.out.box 4 _ rfl
          have p5 := cell_heap HC.out.box 5 _ rfl
          have p6 := cell_heap HC.out.box 6 _ rfl
          have r2 := Boxed.cell HC.out.r2
          have r3 := Boxed.cell HC.out.r3
          have r4 := Boxed.cell HC.out.r4
          have f2 := Boxed.frozen HC.out.r2
          have f3 := Boxed.frozen HC.out.r3
          have f4 := Boxed.frozen HC.out.r4
          by_cases hze : ze = 0
          ·have hzd : (ze != 0) = false := by simp [hze]
           have HZ4 := hide hze
           clear hze
           go_wp2_with fail
           obtain ⟨W5, hW3⟩ : ∃ W3, (w2.setCell ⟨w.heap.size + 1 + 1, 0, none⟩ (.int .i64 zi)).setCell ⟨w.heap.size + 1 + 1 + 1, 0, none⟩ (.int .i64 ze) = W3 := ⟨_, rfl⟩
           replace HC := hide ((HC.out.s3 (.int .i64 zi)).s4 (.int .i64 ze))
           rw [hW3] at HC ⊢
           clear hW3 hzd p0 p1 p2 p3 p4 p5 p6 r2 r3 r4 f2 f3 f4
           have HP4 := hide (show (peopleE p).2 = 0 by rw [HZR4.out]; exact HZ4.out)
           clear HZR4 HZ4
           have p0 := cell_heap HC.out.box 0 _ rfl
           have p1 := cell_heap HC.out.box 1 _ rfl
           have p2 := cell_heap HC.out.box 2 _ rfl
           have p3 := cell_heap HC.out.box 3 _ rfl
           have p4 := cell_heap HC.out.box 4 _ rfl
           have p5 := cell_heap HC.out.box 5 _ rfl
           have p6 := cell_heap HC.out.box 6 _ rfl
           have r2 := Boxed.cell HC.out.r2
           have r3 := Boxed.cell HC.out.r3
           have r4 := Boxed.cell HC.out.r4
           have f2 := Boxed.frozen HC.out.r2
           have f3 := Boxed.frozen HC.out.r3
           have f4 := Boxed.frozen HC.out.r4
           have HNA : Hid (Calls Try.prog 45 #[.slice Ak nk ck, .func (.func 46) #[] #[], .func (.func 47) #[] #[]] W5 fun e w' => e = .returned (.tuple #[.int .i64 (keysE p).1, .int .i64 (keysE p).2]) ∧ Ext W5 w') := hide (namedKey_any (.slice Ak nk ck) p.keys W5 (HK.out.ext HC.out.ext) HS.out.2.2.1)
           refine HNA.out.mono ?_
           rintro e w2 ⟨rfl, hx2⟩
           obtain ⟨⟨zi, ze⟩, hzr⟩ : ∃ r, keysE p = r := ⟨_, rfl⟩
           have HZR5 := hide hzr
           rw [hzr]
           replace HC := hide (HC.out.ext' hx2)
           clear HNA hx2 hzr p0 p1 p2 p3 p4 p5 p6 r2 r3 r4 f2 f3 f4
           have p0 := cell_heap HC.out.box 0 _ rfl
           have p1 := cell_heap HC.out.box 1 _ rfl
           have p2 := cell_heap HC.out.box 2 _ rfl
           have p3 := cell_heap HC.out.box 3 _ rfl
           have p4 := cell_heap HC.out.box 4 _ rfl
           have p5 := cell_heap HC.out.box 5 _ rfl
           have p6 := cell_heap HC.out.box 6 _ rfl
           have r2 := Boxed.cell HC.out.r2
           have r3 := Boxed.cell HC.out.r3
           have r4 := Boxed.cell HC.out.r4
           have f2 := Boxed.frozen HC.out.r2
           have f3 := Boxed.frozen HC.out.r3
           have f4 := Boxed.frozen HC.out.r4
           by_cases hze : ze = 0
           ·have hzd : (ze != 0) = false := by simp [hze]
            have HZ5 := hide hze
            clear hze
            go_wp2_with fail
            obtain ⟨W6, hW3⟩ : ∃ W3, (w2.setCell ⟨w.heap.size + 1 + 1, 0, none⟩ (.int .i64 zi)).setCell ⟨w.heap.size + 1 + 1 + 1, 0, none⟩ (.int .i64 ze) = W3 := ⟨_, rfl⟩
            replace HC := hide ((HC.out.s3 (.int .i64 zi)).s4 (.int .i64 ze))
            rw [hW3] at HC ⊢
            clear hW3 hzd p0 p1 p2 p3 p4 p5 p6 r2 r3 r4 f2 f3 f4
            have HP5 := hide (show (keysE p).2 = 0 by rw [HZR5.out]; exact HZ5.out)
            clear HZR5 HZ5
            have p0 := cell_heap HC.out.box 0 _ rfl
            have p1 := cell_heap HC.out.box 1 _ rfl
            have p2 := cell_heap HC.out.box 2 _ rfl
            have p3 := cell_heap HC.out.box 3 _ rfl
            have p4 := cell_heap HC.out.box 4 _ rfl
            have p5 := cell_heap HC.out.box 5 _ rfl
            have p6 := cell_heap HC.out.box 6 _ rfl
            have r2 := Boxed.cell HC.out.r2
            have r3 := Boxed.cell HC.out.r3
            have r4 := Boxed.cell HC.out.r4
            have f2 := Boxed.frozen HC.out.r2
            have f3 := Boxed.frozen HC.out.r3
            have f4 := Boxed.frozen HC.out.r4
            have HNA : Hid (Calls Try.prog 48 #[.slice Aq nq cq, .func (.func 49) #[] #[], .func (.func 50) #[] #[.pointer (some ⟨w.heap.size, 0, none⟩)]] W6 fun e w' => e = .returned (.tuple #[.int .i64 (squibsE p).1, .int .i64 (squibsE p).2]) ∧ Ext W6 w') := hide (namedSquib_any (.slice Aq nq cq) p.squibs W6 (HQ.out.ext HC.out.ext) HS.out.2.2.2 (fun q hq => (HKI.out q hq).ext HC.out.ext) w.heap.size Ak p.keys.length ck (by rw [HNK.out]; omega) (by rw [HNK.out]; exact cell_heap HC.out.box 3 _ rfl))
            refine HNA.out.mono ?_
            rintro e w2 ⟨rfl, hx2⟩
            obtain ⟨⟨zi, ze⟩, hzr⟩ : ∃ r, squibsE p = r := ⟨_, rfl⟩
            have HZR6 := hide hzr
            rw [hzr]
            replace HC := hide (HC.out.ext' hx2)
            clear HNA hx2 hzr p0 p1 p2 p3 p4 p5 p6 r2 r3 r4 f2 f3 f4
            have p0 := cell_heap HC.out.box 0 _ rfl
            have p1 := cell_heap HC.out.box 1 _ rfl
            have p2 := cell_heap HC.out.box 2 _ rfl
            have p3 := cell_heap HC.out.box 3 _ rfl
            have p4 := cell_heap HC.out.box 4 _ rfl
            have p5 := cell_heap HC.out.box 5 _ rfl
            have p6 := cell_heap HC.out.box 6 _ rfl
            have r2 := Boxed.cell HC.out.r2
            have r3 := Boxed.cell HC.out.r3
            have r4 := Boxed.cell HC.out.r4
            have f2 := Boxed.frozen HC.out.r2
            have f3 := Boxed.frozen HC.out.r3
            have f4 := Boxed.frozen HC.out.r4
            by_cases hze : ze = 0
            ·have hzd : (ze != 0) = false := by simp [hze]
             have HZ6 := hide hze
             clear hze
             go_wp2_with fail
             obtain ⟨W7, hW3⟩ : ∃ W3, (w2.setCell ⟨w.heap.size + 1 + 1, 0, none⟩ (.int .i64 zi)).setCell ⟨w.heap.size + 1 + 1 + 1, 0, none⟩ (.int .i64 ze) = W3 := ⟨_, rfl⟩
             replace HC := hide ((HC.out.s3 (.int .i64 zi)).s4 (.int .i64 ze))
             rw [hW3] at HC ⊢
             clear hW3 hzd p0 p1 p2 p3 p4 p5 p6 r2 r3 r4 f2 f3 f4
             have HP6 := hide (show (squibsE p).2 = 0 by rw [HZR6.out]; exact HZ6.out)
             clear HZR6 HZ6
             have p0 := cell_heap HC.out.box 0 _ rfl
             have p1 := cell_heap HC.out.box 1 _ rfl
             have p2 := cell_heap HC.out.box 2 _ rfl
             have p3 := cell_heap HC.out.box 3 _ rfl
             have p4 := cell_heap HC.out.box 4 _ rfl
             have p5 := cell_heap HC.out.box 5 _ rfl
             have p6 := cell_heap HC.out.box 6 _ rfl
             have r2 := Boxed.cell HC.out.r2
             have r3 := Boxed.cell HC.out.r3
             have r4 := Boxed.cell HC.out.r4
             have f2 := Boxed.frozen HC.out.r2
             have f3 := Boxed.frozen HC.out.r3
             have f4 := Boxed.frozen HC.out.r4
             have HPL := hide (fun V => out_any p.panel 0 ((nz : Int) - 1) V)
             cases hpl : outB p.panel 0 ((nz : Int) - 1) with
             | true =>
               have HE := hide (show R = (7, 0, 4) by rw [← HR.out]; unfold padE; rw [if_neg (by rw [HLF.out]; decide)]; rw [if_neg (by rw [HP2.out]; decide)]; rw [if_neg (by rw [HP3.out]; decide)]; rw [if_neg (by rw [HP4.out]; decide)]; rw [if_neg (by rw [HP5.out]; decide)]; rw [if_neg (by rw [HP6.out]; decide)];  rw [HNZ.out, if_pos hpl])
               rw [hpl] at HPL
               clear hpl
               go_wp2_with (go_at_call 37; refine (HPL.out _).mono ?_; rintro e w' ⟨rfl, rfl⟩)
               obtain ⟨W9, hW9⟩ : ∃ W9, (((W7).setCell ⟨w.heap.size + 1, 0, none⟩ (.int .i64 7)).setCell ⟨w.heap.size + 1 + 1, 0, none⟩ (.int .i64 0)).setCell ⟨w.heap.size + 1 + 1 + 1, 0, none⟩ (.int .i64 4) = W9 := ⟨_, rfl⟩
               have hc9 := (((HC.out).s2 (.int .i64 7)).s3 (.int .i64 0)).s4 (.int .i64 4)
               rw [hW9] at hc9 ⊢
               have q2 := Boxed.cell hc9.r2
               have q3 := Boxed.cell hc9.r3
               have q4 := Boxed.cell hc9.r4
               refine ⟨_, by simp [results, Try.results16, go_sem, q2, q3, q4]; rfl, ?_⟩
               exact ⟨by rw [HE.out], hc9.ext⟩
             | false =>
               rw [hpl] at HPL
               have HPA := hide (show outB p.panel 0 ((p.zones.length : Int) - 1) = false by rw [HNZ.out]; exact hpl)
               clear hpl
               go_wp2_with (go_at_call 37; refine (HPL.out _).mono ?_; rintro e w' ⟨rfl, rfl⟩)
               refine (near_any Az Ad Ap Ak Aq nz nd np nk nq cz cd cp ck cq p.panel p.wait p.panel W7).mono ?_
               rintro e w4 ⟨zb, pb, rfl, hx4, z1, z2, z3⟩
               replace HC := hide (HC.out.ext' hx4)
               have HX4 := hide HC.out.ext
               have hsz4 : w.heap.size + 4 ≤ w4.heap.size := Nat.succ_le_of_lt (Boxed.lt HC.out.r4)
               have HZI : Hid (∀ z ∈ p.zones, ZoneIn z) := hide (zones_in (by rw [← zonesE]; exact HP2.out))
               have HQI : Hid (∀ q ∈ p.squibs, SquibIn q.1) := hide (squibs_in (by rw [← squibsE]; exact HP6.out))
               have HPB := hide (outB_f.1 HPA.out)
               have hq4 := HQ.out.ext HX4.out
               rw [← HNQ.out] at hq4 z3
               have HSEQ := hide (near_seq p.zones p.squibs p.panel zb pb (.slice Az nz cz) Aq cq w4 (by have := HPB.out; omega) HZI.out HQI.out
                (fun q hq => by obtain ⟨A, c, h, _⟩ := HKI.out q hq; exact ⟨A, c, h⟩) z1 z2 z3 (HZ.out.ext HX4.out) hq4)
               have HRQ := hide (show ∀ k, 0 < p.squibs.length → (∃ off, Aq = some ⟨k, off, none⟩) → k < w4.heap.size by
                intro k h0 ⟨off, ha⟩
                obtain ⟨A', c', e, _, _, hr⟩ := hq4
                cases e
                obtain ⟨b', off', e', hb', _⟩ := hr h0
                rw [ha] at e'
                cases e'
                exact hb')
               clear hx4 z1 z2 z3 hq4 p0 p1 p2 p3 p4 p5 p6 r2 r3 r4 f2 f3 f4
               go_wp2_with fail
               refine range_ok (gf := 78) (encs := idxEnc) rfl (enters_of Try.func78 (by kernel_rfl) rfl) HSEQ.out
                (by intro k hk; rcases hk with ⟨h0, ho⟩ | h2
                    ·have := HRQ.out k h0 ho; omega
                    ·omega) (fun _ => rfl)
                (fun pre W => pre = [] ∧ ChkW w #[.slice Az nz cz, .slice Ad nd cd, .slice Ap np cp, .slice Ak nk ck, .slice Aq nq cq, .int .i64 p.panel, .int .i64 p.wait] W (.int .i64 0) (.int .i64 zi) (.int .i64 ze)) (fun c pre W => c = .ret ∧ pre ≠ [] ∧ ChkW w #[.slice Az nz cz, .slice Ad nd cd, .slice Ap np cp, .slice Ak nk ck, .slice Aq nq cq, .int .i64 p.panel, .int .i64 p.wait] W (.int .i64 7) (.int .i64 0) (.int .i64 2))
                (fun s A B h k => ⟨h.1, h.2.turn k (by omega)⟩) (fun c s A B h k => ⟨h.1, h.2.1, h.2.2.turn k (by omega)⟩) ⟨rfl, HC.out⟩ ?_ ?_ ?_
               ·intro y pre x W0 W hszW hsp hI hx0 hok
                simp only [idxEnc]
                gi_wp2
                refine ⟨KeepsFrom.refl _ _, fun k hk => rfl, fun W2 hT => ?_⟩
                replace HC := hide ((hI.2.ext' hx0).turn hT (by omega))
                have hlb : w4.heap.size ≤ W.heap.size := Nat.le_trans hszW hx0.size
                clear hI hx0 hok hsp
                have p0 := cell_heap HC.out.box 0 _ rfl
                have p1 := cell_heap HC.out.box 1 _ rfl
                have p2 := cell_heap HC.out.box 2 _ rfl
                have p3 := cell_heap HC.out.box 3 _ rfl
                have p4 := cell_heap HC.out.box 4 _ rfl
                have p5 := cell_heap HC.out.box 5 _ rfl
                have p6 := cell_heap HC.out.box 6 _ rfl
                have r2 := Boxed.cell HC.out.r2
                have r3 := Boxed.cell HC.out.r3
                have r4 := Boxed.cell HC.out.r4
                have f2 := Boxed.frozen HC.out.r2
                have f3 := Boxed.frozen HC.out.r3
                have f4 := Boxed.frozen HC.out.r4
                gi_wp2
                exact ⟨(((KeepsOthers.setCell _ _ _).trans (KeepsOthers.setCell _ _ _)).trans (KeepsOthers.setCell _ _ _)).from _, rfl, by simp, ((HC.out.s2 _).s3 _).s4 _⟩
               ·intro D xs W hD hS hI hK
                have HC := hide hI.2
                have HN := hide (show nears p.zones p.squibs p.panel = [] from hS.symm.trans hI.1)
                have HK := hide hK
                clear hI hS hK
                have p0 := cell_heap HC.out.box 0 _ rfl
                have p1 := cell_heap HC.out.box 1 _ rfl
                have p2 := cell_heap HC.out.box 2 _ rfl
                have p3 := cell_heap HC.out.box 3 _ rfl
                have p4 := cell_heap HC.out.box 4 _ rfl
                have p5 := cell_heap HC.out.box 5 _ rfl
                have p6 := cell_heap HC.out.box 6 _ rfl
                have r2 := Boxed.cell HC.out.r2
                have r3 := Boxed.cell HC.out.r3
                have r4 := Boxed.cell HC.out.r4
                have f2 := Boxed.frozen HC.out.r2
                have f3 := Boxed.frozen HC.out.r3
                have f4 := Boxed.frozen HC.out.r4
                have HW := hide (fun V => out_any p.wait 0 6000 V)
                cases hw : outB p.wait 0 6000 with
                | true =>
                  have HE := hide (show R = (7, 0, 7) by rw [← HR.out]; unfold padE; rw [if_neg (by rw [HLF.out]; decide)]; rw [if_neg (by rw [HP2.out]; decide)]; rw [if_neg (by rw [HP3.out]; decide)]; rw [if_neg (by rw [HP4.out]; decide)]; rw [if_neg (by rw [HP5.out]; decide)]; rw [if_neg (by rw [HP6.out]; decide)];  rw [if_neg (by rw [HPA.out]; decide), if_neg (fun h => h HN.out), if_pos hw])
                  rw [hw] at HW
                  clear hw
                  go_wp2_with (go_at_call 37; refine (HW.out _).mono ?_; rintro e w' ⟨rfl, rfl⟩)
                  obtain ⟨W9, hW9⟩ : ∃ W9, (((W).setCell ⟨w.heap.size + 1, 0, none⟩ (.int .i64 7)).setCell ⟨w.heap.size + 1 + 1, 0, none⟩ (.int .i64 0)).setCell ⟨w.heap.size + 1 + 1 + 1, 0, none⟩ (.int .i64 7) = W9 := ⟨_, rfl⟩
                  have hK9 : W9.heap[D]? = some (.deferred (some [])) := by rw [← hW9]; exact (((KeepsOthers.setCell _ _ _).trans (KeepsOthers.setCell _ _ _)).trans (KeepsOthers.setCell _ _ _)).same D _ HK.out rfl
                  have hc9 := ((HC.out.s2 (.int .i64 7)).s3 (.int .i64 0)).s4 (.int .i64 7)
                  rw [hW9] at hc9 ⊢
                  have hd9 := hc9.turn (Turn.putObj (B := w4.heap.size) (.deferred none) hK9 hD rfl) (by have := HX4.out.size; omega)
                  have q2 := Boxed.cell hd9.r2
                  have q3 := Boxed.cell hd9.r3
                  have q4 := Boxed.cell hd9.r4
                  refine ⟨by simp, .inl ⟨_, _, rfl, run_takeDeferred hK9, ?_⟩⟩
                  refine ⟨_, by simp [results, Try.results16, go_sem, q2, q3, q4]; rfl, ?_⟩
                  exact ⟨by rw [HE.out], hd9.ext⟩
                | false =>
                  have HE := hide (show R = (0, 0, 0) by rw [← HR.out]; unfold padE; rw [if_neg (by rw [HLF.out]; decide)]; rw [if_neg (by rw [HP2.out]; decide)]; rw [if_neg (by rw [HP3.out]; decide)]; rw [if_neg (by rw [HP4.out]; decide)]; rw [if_neg (by rw [HP5.out]; decide)]; rw [if_neg (by rw [HP6.out]; decide)];  rw [if_neg (by rw [HPA.out]; decide), if_neg (fun h => h HN.out), if_neg (by rw [hw]; decide)])
                  rw [hw] at HW
                  clear hw
                  go_wp2_with (go_at_call 37; refine (HW.out _).mono ?_; rintro e w' ⟨rfl, rfl⟩)
                  obtain ⟨W9, hW9⟩ : ∃ W9, (((W).setCell ⟨w.heap.size + 1, 0, none⟩ (.int .i64 0)).setCell ⟨w.heap.size + 1 + 1, 0, none⟩ (.int .i64 0)).setCell ⟨w.heap.size + 1 + 1 + 1, 0, none⟩ (.int .i64 0) = W9 := ⟨_, rfl⟩
                  have hK9 : W9.heap[D]? = some (.deferred (some [])) := by rw [← hW9]; exact (((KeepsOthers.setCell _ _ _).trans (KeepsOthers.setCell _ _ _)).trans (KeepsOthers.setCell _ _ _)).same D _ HK.out rfl
                  have hc9 := ((HC.out.s2 (.int .i64 0)).s3 (.int .i64 0)).s4 (.int .i64 0)
                  rw [hW9] at hc9 ⊢
                  have hd9 := hc9.turn (Turn.putObj (B := w4.heap.size) (.deferred none) hK9 hD rfl) (by have := HX4.out.size; omega)
                  have q2 := Boxed.cell hd9.r2
                  have q3 := Boxed.cell hd9.r3
                  have q4 := Boxed.cell hd9.r4
                  refine ⟨by simp, .inl ⟨_, _, rfl, run_takeDeferred hK9, ?_⟩⟩
                  refine ⟨_, by simp [results, Try.results16, go_sem, q2, q3, q4]; rfl, ?_⟩
                  exact ⟨by rw [HE.out], hd9.ext⟩
               ·intro D c pre W hD hSp hIx hK
                obtain ⟨rfl, hne, hc9⟩ := hIx
                have HE := hide (show R = (7, 0, 2) by
                 rw [← HR.out]; unfold padE; rw [if_neg (by rw [HLF.out]; decide)]; rw [if_neg (by rw [HP2.out]; decide)]; rw [if_neg (by rw [HP3.out]; decide)]; rw [if_neg (by rw [HP4.out]; decide)]; rw [if_neg (by rw [HP5.out]; decide)]; rw [if_neg (by rw [HP6.out]; decide)];  rw [if_neg (by rw [HPA.out]; decide), if_pos (fun h => hne (by obtain ⟨rest, hr⟩ := hSp; rw [h] at hr; exact (List.append_eq_nil_iff.1 hr).1))])
                have hK9 := hK
                go_wp2
                have hd9 := hc9.turn (Turn.putObj (B := w4.heap.size) (.deferred none) hK9 hD rfl) (by have := HX4.out.size; omega)
                have q2 := Boxed.cell hd9.r2
                have q3 := Boxed.cell hd9.r3
                have q4 := Boxed.cell hd9.r4
                refine ⟨by simp, .inl ⟨_, _, rfl, run_takeDeferred hK9, ?_⟩⟩
                refine ⟨_, by simp [results, Try.results16, go_sem, q2, q3, q4]; rfl, ?_⟩
                exact ⟨by rw [HE.out], hd9.ext⟩
            ·have hzd : (ze != 0) = true := by simp [hze]
             have HE := hide (show R = (6, (zi : Int), ze) by rw [← HR.out]; unfold padE; rw [if_neg (by rw [HLF.out]; decide)]; rw [if_neg (by rw [HP2.out]; decide)]; rw [if_neg (by rw [HP3.out]; decide)]; rw [if_neg (by rw [HP4.out]; decide)]; rw [if_neg (by rw [HP5.out]; decide)]; rw [if_pos (by rw [HZR6.out]; exact hze), HZR6.out])
             clear hze
             go_wp2_with fail
             obtain ⟨W3, hW3⟩ : ∃ W3, (w2.setCell ⟨w.heap.size + 1 + 1, 0, none⟩ (.int .i64 zi)).setCell ⟨w.heap.size + 1 + 1 + 1, 0, none⟩ (.int .i64 ze) = W3 := ⟨_, rfl⟩
             replace HC := hide ((HC.out.s3 (.int .i64 zi)).s4 (.int .i64 ze))
             rw [hW3] at HC ⊢
             clear hW3 hzd p0 p1 p2 p3 p4 p5 p6 r2 r3 r4 f2 f3 f4
             have p0 := cell_heap HC.out.box 0 _ rfl
             have p1 := cell_heap HC.out.box 1 _ rfl
             have p2 := cell_heap HC.out.box 2 _ rfl
             have p3 := cell_heap HC.out.box 3 _ rfl
             have p4 := cell_heap HC.out.box 4 _ rfl
             have p5 := cell_heap HC.out.box 5 _ rfl
             have p6 := cell_heap HC.out.box 6 _ rfl
             have r2 := Boxed.cell HC.out.r2
             have r3 := Boxed.cell HC.out.r3
             have r4 := Boxed.cell HC.out.r4
             have f2 := Boxed.frozen HC.out.r2
             have f3 := Boxed.frozen HC.out.r3
             have f4 := Boxed.frozen HC.out.r4
             go_wp2_with fail
             go_region
             go_wp2_with fail
             obtain ⟨W9, hW9⟩ : ∃ W9, (((W3).setCell ⟨w.heap.size + 1, 0, none⟩ (.int .i64 6)).setCell ⟨w.heap.size + 1 + 1, 0, none⟩ (.int .i64 zi)).setCell ⟨w.heap.size + 1 + 1 + 1, 0, none⟩ (.int .i64 ze) = W9 := ⟨_, rfl⟩
             have hc9 := ((HC.out.s2 (.int .i64 6)).s3 (.int .i64 zi)).s4 (.int .i64 ze)
             rw [hW9] at hc9 ⊢
             have hd9 := hc9.ext'  ((Ext.refl _).drew)
             have q2 := Boxed.cell hd9.r2
             have q3 := Boxed.cell hd9.r3
             have q4 := Boxed.cell hd9.r4
             refine ⟨_, by simp [results, Try.results16, go_sem, q2, q3, q4]; rfl, ?_⟩
             exact ⟨by rw [HE.out], hd9.ext⟩
           ·have hzd : (ze != 0) = true := by simp [hze]
            have HE := hide (show R = (5, (zi : Int), ze) by rw [← HR.out]; unfold padE; rw [if_neg (by rw [HLF.out]; decide)]; rw [if_neg (by rw [HP2.out]; decide)]; rw [if_neg (by rw [HP3.out]; decide)]; rw [if_neg (by rw [HP4.out]; decide)]; rw [if_pos (by rw [HZR5.out]; exact hze), HZR5.out])
            clear hze
            go_wp2_with fail
            obtain ⟨W3, hW3⟩ : ∃ W3, (w2.setCell ⟨w.heap.size + 1 + 1, 0, none⟩ (.int .i64 zi)).setCell ⟨w.heap.size + 1 + 1 + 1, 0, none⟩ (.int .i64 ze) = W3 := ⟨_, rfl⟩
            replace HC := hide ((HC.out.s3 (.int .i64 zi)).s4 (.int .i64 ze))
            rw [hW3] at HC ⊢
            clear hW3 hzd p0 p1 p2 p3 p4 p5 p6 r2 r3 r4 f2 f3 f4
            have p0 := cell_heap HC.out.box 0 _ rfl
            have p1 := cell_heap HC.out.box 1 _ rfl
            have p2 := cell_heap HC.out.box 2 _ rfl
            have p3 := cell_heap HC.out.box 3 _ rfl
            have p4 := cell_heap HC.out.box 4 _ rfl
            have p5 := cell_heap HC.out.box 5 _ rfl
            have p6 := cell_heap HC.out.box 6 _ rfl
            have r2 := Boxed.cell HC.out.r2
            have r3 := Boxed.cell HC.out.r3
            have r4 := Boxed.cell HC.out.r4
            have f2 := Boxed.frozen HC.out.r2
            have f3 := Boxed.frozen HC.out.r3
            have f4 := Boxed.frozen HC.out.r4
            go_wp2_with fail
            go_region
            go_wp2_with fail
            obtain ⟨W9, hW9⟩ : ∃ W9, (((W3).setCell ⟨w.heap.size + 1, 0, none⟩ (.int .i64 5)).setCell ⟨w.heap.size + 1 + 1, 0, none⟩ (.int .i64 zi)).setCell ⟨w.heap.size + 1 + 1 + 1, 0, none⟩ (.int .i64 ze) = W9 := ⟨_, rfl⟩
            have hc9 := ((HC.out.s2 (.int .i64 5)).s3 (.int .i64 zi)).s4 (.int .i64 ze)
            rw [hW9] at hc9 ⊢
            have hd9 := hc9.ext'  ((Ext.refl _).drew)
            have q2 := Boxed.cell hd9.r2
            have q3 := Boxed.cell hd9.r3
            have q4 := Boxed.cell hd9.r4
            refine ⟨_, by simp [results, Try.results16, go_sem, q2, q3, q4]; rfl, ?_⟩
            exact ⟨by rw [HE.out], hd9.ext⟩
          ·have hzd : (ze != 0) = true := by simp [hze]
           have HE := hide (show R = (4, (zi : Int), ze) by rw [← HR.out]; unfold padE; rw [if_neg (by rw [HLF.out]; decide)]; rw [if_neg (by rw [HP2.out]; decide)]; rw [if_neg (by rw [HP3.out]; decide)]; rw [if_pos (by rw [HZR4.out]; exact hze), HZR4.out])
           clear hze
           go_wp2_with fail
           obtain ⟨W3, hW3⟩ : ∃ W3, (w2.setCell ⟨w.heap.size + 1 + 1, 0, none⟩ (.int .i64 zi)).setCell ⟨w.heap.size + 1 + 1 + 1, 0, none⟩ (.int .i64 ze) = W3 := ⟨_, rfl⟩
           replace HC := hide ((HC.out.s3 (.int .i64 zi)).s4 (.int .i64 ze))
           rw [hW3] at HC ⊢
           clear hW3 hzd p0 p1 p2 p3 p4 p5 p6 r2 r3 r4 f2 f3 f4
           have p0 := cell_heap HC.out.box 0 _ rfl
           have p1 := cell_heap HC.out.box 1 _ rfl
           have p2 := cell_heap HC.out.box 2 _ rfl
           have p3 := cell_heap HC.out.box 3 _ rfl
           have p4 := cell_heap HC.out.box 4 _ rfl
           have p5 := cell_heap HC.out.box 5 _ rfl
           have p6 := cell_heap HC.out.box 6 _ rfl
           have r2 := Boxed.cell HC.out.r2
           have r3 := Boxed.cell HC.out.r3
           have r4 := Boxed.cell HC.out.r4
           have f2 := Boxed.frozen HC.out.r2
           have f3 := Boxed.frozen HC.out.r3
           have f4 := Boxed.frozen HC.out.r4
           go_wp2_with fail
           go_region
           go_wp2_with fail
           obtain ⟨W9, hW9⟩ : ∃ W9, (((W3).setCell ⟨w.heap.size + 1, 0, none⟩ (.int .i64 4)).setCell ⟨w.heap.size + 1 + 1, 0, none⟩ (.int .i64 zi)).setCell ⟨w.heap.size + 1 + 1 + 1, 0, none⟩ (.int .i64 ze) = W9 := ⟨_, rfl⟩
           have hc9 := ((HC.out.s2 (.int .i64 4)).s3 (.int .i64 zi)).s4 (.int .i64 ze)
           rw [hW9] at hc9 ⊢
           have hd9 := hc9.ext'  ((Ext.refl _).drew)
           have q2 := Boxed.cell hd9.r2
           have q3 := Boxed.cell hd9.r3
           have q4 := Boxed.cell hd9.r4
           refine ⟨_, by simp [results, Try.results16, go_sem, q2, q3, q4]; rfl, ?_⟩
           exact ⟨by rw [HE.out], hd9.ext⟩
       ·have hzd : (ze != 0) = true := by simp [hze]
        have HE := hide (show R = (2, (zi : Int), ze) by rw [← HR.out]; unfold padE; rw [if_neg (by rw [HLF.out]; decide)]; rw [if_pos (by rw [HZR2.out]; exact hze), HZR2.out])
        clear hze
        go_wp2_with fail
        obtain ⟨W3, hW3⟩ : ∃ W3, (w2.setCell ⟨w.heap.size + 1 + 1, 0, none⟩ (.int .i64 zi)).setCell ⟨w.heap.size + 1 + 1 + 1, 0, none⟩ (.int .i64 ze) = W3 := ⟨_, rfl⟩
        replace HC := hide ((HC.out.s3 (.int .i64 zi)).s4 (.int .i64 ze))
        rw [hW3] at HC ⊢
        clear hW3 hzd p0 p1 p2 p3 p4 p5 p6 r2 r3 r4 f2 f3 f4
        have p0 := cell_heap HC.out.box 0 _ rfl
        have p1 := cell_heap HC.out.box 1 _ rfl
        have p2 := cell_heap HC.out.box 2 _ rfl
        have p3 := cell_heap HC.out.box 3 _ rfl
        have p4 := cell_heap HC.out.box 4 _ rfl
        have p5 := cell_heap HC.out.box 5 _ rfl
        have p6 := cell_heap HC.out.box 6 _ rfl
        have r2 := Boxed.cell HC.out.r2
        have r3 := Boxed.cell HC.out.r3
        have r4 := Boxed.cell HC.out.r4
        have f2 := Boxed.frozen HC.out.r2
        have f3 := Boxed.frozen HC.out.r3
        have f4 := Boxed.frozen HC.out.r4
        go_wp2_with fail
        go_region
        go_wp2_with fail
        obtain ⟨W9, hW9⟩ : ∃ W9, (((W3).setCell ⟨w.heap.size + 1, 0, none⟩ (.int .i64 2)).setCell ⟨w.heap.size + 1 + 1, 0, none⟩ (.int .i64 zi)).setCell ⟨w.heap.size + 1 + 1 + 1, 0, none⟩ (.int .i64 ze) = W9 := ⟨_, rfl⟩
        have hc9 := ((HC.out.s2 (.int .i64 2)).s3 (.int .i64 zi)).s4 (.int .i64 ze)
        rw [hW9] at hc9 ⊢
        have hd9 := hc9.ext'  ((Ext.refl _).drew)
        have q2 := Boxed.cell hd9.r2
        have q3 := Boxed.cell hd9.r3
        have q4 := Boxed.cell hd9.r4
        refine ⟨_, by simp [results, Try.results16, go_sem, q2, q3, q4]; rfl, ?_⟩
        exact ⟨by rw [HE.out], hd9.ext⟩
end Go.Proofs.Ythcnganbnbhhoaa
