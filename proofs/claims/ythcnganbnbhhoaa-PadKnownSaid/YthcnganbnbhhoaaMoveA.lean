/- The walk of move. -/
import Derived.Test.YthcnganbnbhhoaaMeth
import Derived.Test.YthcnganbnbhhoaaRangeP
import Derived.Test.YthcnganbnbhhoaaSafe
import Derived.LoopN
namespace Go.Proofs.Ythcnganbnbhhoaa
open Go.RowKit Go.Shelf
attribute [local go_sem] Oper.semAt_some
/-- Memory in move: the scene, the boxes of its pointer and of the act, the marks of ranges that are over. -/
structure MvW (w : World) (B : Nat) (X : SceneX) (p : Pad) (s : State) (b : Nat) (ac : Array Value) (Ds : List Nat) (Gs : List (Addr × Value)) (W : World) : Prop where
 sc : SceneS w B X p s W
 hb : w.heap.size ≤ b
 pc : Boxed W b 115 (.pointer (some ⟨B, 0, none⟩))
 pa : Blk W (b + 1) 48 ac
 ds : ∀ D ∈ Ds, w.heap.size ≤ D ∧ W.heap[D]? = some (.deferred (some []))
 gs : ∀ q ∈ Gs, W.cell? q.1 = some q.2 ∧ b ≤ q.1.block
section
variable {w W W' : World} {B : Nat} {X : SceneX} {p : Pad} {s : State} {b : Nat} {ac : Array Value} {Ds : List Nat} {Gs : List (Addr × Value)}
theorem MvW.ext' (h : MvW w B X p s b ac Ds Gs W) (k : Ext W W') : MvW w B X p s b ac Ds Gs W' :=
 ⟨h.sc.ext' k, h.hb, Boxed.ext h.pc k, h.pa.ext k, fun D hD => ⟨(h.ds D hD).1, by rw [Below.block k D (Array.getElem?_eq_some_iff.1 (h.ds D hD).2).1]; exact (h.ds D hD).2⟩, fun q hq => ⟨k.cell (h.gs q hq).1, (h.gs q hq).2⟩⟩
/-- While a range runs its own mark turns; those of others stay. -/
theorem MvW.turn (h : MvW w B X p s b ac Ds Gs W) {N : Nat} (k : Turn N W W') (hN : w.heap.size ≤ N) (hD : ∀ D ∈ Ds, D < N) : MvW w B X p s b ac Ds Gs W' :=
 ⟨h.sc.turn k hN, h.hb, Boxed.turn h.pc k, h.pa.turn k, fun D hd => ⟨(h.ds D hd).1, k.block D _ (h.ds D hd).2 (.inl (hD D hd))⟩, fun q hq => ⟨k.c.cell (h.gs q hq).1, (h.gs q hq).2⟩⟩
/-- A cell of memory newer than b is to be kept in sight. -/
theorem MvW.grp (h : MvW w B X p s b ac Ds Gs W) (A : Addr) (v : Value) (hc : W.cell? A = some v) (hA : b ≤ A.block) : MvW w B X p s b ac Ds ((A, v) :: Gs) W :=
 ⟨h.sc, h.hb, h.pc, h.pa, h.ds, fun q hq => by
  rcases List.mem_cons.1 hq with h1 | h1
  ·rw [h1]; exact ⟨hc, hA⟩
  ·exact h.gs q h1⟩
end

theorem cell_other_block (W : World) {a : Addr} {g : Nat} (h : a.block ≠ g) (i : Nat) (u : Value) : (W.setCell ⟨g, i, none⟩ u).cell? a = W.cell? a := by
 unfold World.cell?
 have : (W.setCell ⟨g, i, none⟩ u).heap[a.block]? = W.heap[a.block]? := by simp [World.setCell, Array.getElem?_modify, Ne.symm h]
 rw [this]
section
variable {w W : World} {B : Nat} {X : SceneX} {p : Pad} {s : State} {b : Nat} {ac : Array Value} {Ds : List Nat} {Gs : List (Addr × Value)}
/-- Somebody goes to another zone. -/
theorem MvW.setZ (h : MvW w B X p s b ac Ds Gs W) {g : Nat} (hg : X.sz = some ⟨g, 0, none⟩) (hgw : w.heap.size ≤ g) (hgb : g < b) (i : Nat) (x : Int) : MvW w B X p { s with zones := s.zones.set i x } b ac Ds Gs (W.setCell ⟨g, i, none⟩ (.int .i64 x)) := by
 refine ⟨h.sc.setZ hg hgw i x, h.hb, ?_, h.pa.other (by omega) i _, fun D hD => ⟨(h.ds D hD).1, (KeepsOthers.setCell _ _ _).same D _ (h.ds D hD).2 rfl⟩, fun q hq => ⟨?_, (h.gs q hq).2⟩⟩
 ·exact Blk.other (cs := #[.pointer (some ⟨B, 0, none⟩)]) h.pc (by omega) i _
 ·have hne : q.1.block ≠ g := by have := (h.gs q hq).2; omega
  have := (h.gs q hq).1
  rw [← this]
  exact cell_other_block W hne _ _
end
/-- Marks of ranges that are over, at a function's end. -/
theorem leaves_marks {F : Fence} {n : Nat} {P : Program} {fn : Func} {tmps : Array Value} {R : Ending → World → Prop} {u : FrameMode} (hu : u ≠ .run) {N : Nat} : ∀ (Ds : List Nat) (W : World), Ds.Nodup → (∀ D ∈ Ds, N ≤ D ∧ W.heap[D]? = some (.deferred (some []))) →
 (∀ W', Turn N W W' → LeavesIn F n P fn tmps R [] u W') → LeavesInM F n P fn tmps R (Ds.map fun D => { target := .collected D, args := #[] }) u W
 | [], W, _, _, h => h W (Turn.refl _ _)
 | D :: Ds, W, hn, hD, h => by
   have h0 := hD D (by simp)
   rw [List.nodup_cons] at hn
   have ht : Turn N W (W.putObj D (.deferred none)) := Turn.putObj _ h0.2 h0.1 rfl
   refine ⟨hu, .inl ⟨_, _, rfl, run_takeDeferred h0.2, leaves_marks hu Ds _ hn.2 (fun D' hD' => ⟨(hD D' (by simp [hD'])).1, ?_⟩) fun W' hW' => h W' (ht.trans hW')⟩⟩
   have hne : D' ≠ D := fun e => hn.1 (e ▸ hD')
   have hg := grownBy_putObj' W D (.deferred none)
   rw [hg.block D' (Array.getElem?_eq_some_iff.1 (hD D' (by simp [hD'])).2).1 (fun e => hne (by injection e))]
   exact (hD D' (by simp [hD'])).2
section
variable {p : Pad} {s : State} {a : PAct} {i z E : Int}
theorem comesE_badge (h0 : 0 ≤ z) (h : (personOf p i).grade < (zoneOf p z).grade) : comesE p s i z = 172 := if_pos (by rw [decide_eq_true h0, decide_eq_true h]; rfl)
theorem comesE_storm (h0 : ¬ (0 ≤ z ∧ (personOf p i).grade < (zoneOf p z).grade)) (h : (nears p.zones p.squibs z).any (stormy s) = true) : comesE p s i z = 173 := by
 unfold comesE; rw [if_neg (by simpa using h0), if_pos h]
theorem comesE_key (h0 : ¬ (0 ≤ z ∧ (personOf p i).grade < (zoneOf p z).grade)) (h : (nears p.zones p.squibs z).any (stormy s) = false) (h2 : keyedB p s i z = false) : comesE p s i z = 174 := by
 unfold comesE; rw [if_neg (by simpa using h0), if_neg (by rw [h]; decide), if_pos h2]
theorem comesE_zero (h0 : ¬ (0 ≤ z ∧ (personOf p i).grade < (zoneOf p z).grade)) (h : (nears p.zones p.squibs z).any (stormy s) = false) (h2 : keyedB p s i z = true) : comesE p s i z = 0 := by
 unfold comesE; rw [if_neg (by simpa using h0), if_neg (by rw [h]; decide), if_neg (by rw [h2]; decide)]
def goB (p : Pad) (s : State) (a : PAct) : Bool := doorB p (fromZ s a) a.what && (decide (a.with_ < 0) || decide (s.zones.getD a.with_.toNat 0 = fromZ s a))
theorem moveE_door (h : goB p s a = false) : moveE p s a = 171 := if_pos h
theorem moveE_1 (hd : goB p s a = true) (h : comesE p s a.who a.what = E) (hE : E ≠ 0) : moveE p s a = E := by
 unfold moveE; rw [if_neg (by unfold goB at hd; rw [hd]; decide), if_pos (by rw [h]; exact hE), h]
theorem moveE_2 (hd : goB p s a = true) (h1 : comesE p s a.who a.what = 0) (hw : 0 ≤ a.with_) (h : comesE p s a.with_ a.what = E) (hE : E ≠ 0) : moveE p s a = E := by
 unfold moveE; rw [if_neg (by unfold goB at hd; rw [hd]; decide), if_neg (fun g => g h1), if_pos ⟨hw, by rw [h]; exact hE⟩, h]
theorem moveE_full (hd : goB p s a = true) (h1 : comesE p s a.who a.what = 0) (h2 : 0 ≤ a.with_ → comesE p s a.with_ a.what = 0) (h3 : 0 ≤ a.what ∧ (zoneOf p a.what).room < manyN (movedS s a).zones a.what) : moveE p s a = 175 := by
 unfold moveE; rw [if_neg (by unfold goB at hd; rw [hd]; decide), if_neg (fun g => g h1), if_neg (fun g => g.2 (h2 g.1)), if_pos h3]
theorem moveE_pair (hd : goB p s a = true) (h1 : comesE p s a.who a.what = 0) (h2 : 0 ≤ a.with_ → comesE p s a.with_ a.what = 0) (h3 : ¬ (0 ≤ a.what ∧ (zoneOf p a.what).room < manyN (movedS s a).zones a.what)) (h4 : (aloneB p (movedS s a) a.what || aloneB p (movedS s a) (fromZ s a)) = true) : moveE p s a = 176 := by
 unfold moveE; rw [if_neg (by unfold goB at hd; rw [hd]; decide), if_neg (fun g => g h1), if_neg (fun g => g.2 (h2 g.1)), if_neg h3, if_pos h4]
theorem moveE_zero (hd : goB p s a = true) (h1 : comesE p s a.who a.what = 0) (h2 : 0 ≤ a.with_ → comesE p s a.with_ a.what = 0) (h3 : ¬ (0 ≤ a.what ∧ (zoneOf p a.what).room < manyN (movedS s a).zones a.what)) (h4 : (aloneB p (movedS s a) a.what || aloneB p (movedS s a) (fromZ s a)) = false) : moveE p s a = 0 := by
 unfold moveE; rw [if_neg (by unfold goB at hd; rw [hd]; decide), if_neg (fun g => g h1), if_neg (fun g => g.2 (h2 g.1)), if_neg h3, if_neg (by rw [h4]; decide)]
end
theorem wpP_region_lit {F : Fence} {n : Nat} {P : Program} {Q : List PanicEntry → Act → World → Prop} {a : Act} {w : World} {id : Nat} {l : List Oper} (h : wpListIn F n P l.toArray (panOnly Q) l a w) : wpP F n P (.region id l.toArray false) Q a w :=
 wpP_region (by simpa using h)
end Go.Proofs.Ythcnganbnbhhoaa
