/- Words for the walk of Play. -/
import Derived.Test.YthcnganbnbhhoaaDoC
namespace Go.Proofs.Ythcnganbnbhhoaa
open Go.RowKit Go.Shelf
theorem infoErr : (Try.prog.info? 29).map (fun i => (i.zero, i.size, i.bytes)) = some (some (.int .i64 0), 1, 8) := by kernel_rfl
theorem runS_take {p : Pad} {s : State} {l : List PAct} {k : Nat} (h : k < l.length) : runS p s (l.take (k + 1)) = stepS p (runS p s (l.take k)) (l.getD k default) := by
 unfold runS
 rw [List.take_succ_eq_append_getElem h, List.foldl_append, List.getD_eq_getElem?_getD, List.getElem?_eq_getElem h, Option.getD_some]
 rfl
theorem runE_append {p : Pad} (l : List PAct) (a : PAct) : ∀ s : State, runE p s (l ++ [a]) = runE p s l ++ [doneE p (runS p s l) a] := by
 induction l with
 | nil => intro s; rfl
 | cons x l ih => intro s; simp only [List.cons_append, runE, ih]; rfl
theorem runE_take {p : Pad} {s : State} {l : List PAct} {k : Nat} (h : k < l.length) : runE p s (l.take (k + 1)) = runE p s (l.take k) ++ [doneE p (runS p s (l.take k)) (l.getD k default)] := by
 rw [List.take_succ_eq_append_getElem h, runE_append, List.getD_eq_getElem?_getD, List.getElem?_eq_getElem h, Option.getD_some]
theorem runE_len {p : Pad} : ∀ (l : List PAct) (s : State), (runE p s l).length = l.length
 | [], _ => rfl
 | a :: l, s => by simp only [runE, List.length_cons, runE_len l]
theorem step_ok {p : Pad} {s : State} {a : PAct} (hs : StateOk p s) (ha : ActOk p a) : StateOk p (stepS p s a) := by
 unfold stepS
 by_cases h : doneE p s a = 0
 ·rw [if_pos h]
  unfold doneS
  rw [if_pos h]
  refine kind_ok hs ha ?_
  unfold doneE at h
  split at h
  ·cases h
  ·omega
 ·rw [if_neg h]; exact hs
theorem run_ok {p : Pad} {s : State} {l : List PAct} (hs : StateOk p s) (ha : ∀ a ∈ l, ActOk p a) : StateOk p (runS p s l) := by
 unfold runS
 induction l generalizing s with
 | nil => exact hs
 | cons a l ih => exact ih (step_ok hs (ha a (by simp))) (fun x hx => ha x (by simp [hx]))
theorem acts_ok {p : Pad} {l : List PAct} (h : actsE p l = 0) : ∀ a ∈ l, ActOk p a := by
 intro a ha
 obtain ⟨j, hj, e⟩ := List.getElem_of_mem ha
 have := firstE_zero h j hj
 rw [List.getD_eq_getElem?_getD, List.getElem?_eq_getElem hj, Option.getD_some, e] at this
 exact actOk_of this
theorem actsE_first {p : Pad} {l : List PAct} {k : Nat} (h : ∀ j, j < k → actE p (l.getD j default) = 0) (hk : k < l.length) (he : actE p (l.getD k default) ≠ 0) : actsE p l = actE p (l.getD k default) := by
 unfold actsE firstE
 rw [badAt_some h hk he]
theorem actsE_none {p : Pad} {l : List PAct} (h : ∀ j, j < l.length → actE p (l.getD j default) = 0) : actsE p l = 0 := by
 unfold actsE firstE
 rw [badAt_none h]
/-- No list of a state lies in u's block. -/
def FarS (u : Value) (A1 A2 A3 : Option Addr) : Prop := ∀ g, (A1.map (·.block) = some g ∨ A2.map (·.block) = some g ∨ A3.map (·.block) = some g) → u.ownBlock ≠ some g
/-- Memory in Play: the boxes of the pad, of the state that came in, of the state behind the acts so far. -/
structure PlW (w : World) (cp cs : Array Value) (W : World) (ca : Array Value) : Prop where
 ext : Ext w W
 pb : Blk W w.heap.size 28 cp
 sb : Blk W (w.heap.size + 1) 38 cs
 ab : Blk W (w.heap.size + 1 + 1) 38 ca
section
variable {w W W' : World} {cp cs ca : Array Value}
theorem PlW.ext' (h : PlW w cp cs W ca) (k : Ext W W') : PlW w cp cs W' ca := ⟨h.ext.trans k, h.pb.ext k, h.sb.ext k, h.ab.ext k⟩
theorem PlW.new (w : World) (cp cs ca : Array Value) : PlW w cp cs (((w.alloc (.cells cp 28)).alloc (.cells cs 38)).alloc (.cells ca 38)) ca := by
 refine ⟨(((Ext.refl _).alloc _).alloc _).alloc _, (Blk.new w _ cp).ext (((Ext.refl _).alloc _).alloc _), ?_, ?_⟩
 ·have := Blk.new (w.alloc (.cells cp 28)) 38 cs
  rw [World.size_alloc] at this
  exact this.ext ((Ext.refl _).alloc _)
 ·have := Blk.new ((w.alloc (.cells cp 28)).alloc (.cells cs 38)) 38 ca
  rw [World.size_alloc, World.size_alloc] at this
  exact this
theorem PlW.set (h : PlW w cp cs W ca) (i : Nat) (u : Value) : PlW w cp cs (W.setCell ⟨w.heap.size + 1 + 1, i, none⟩ u) (ca.setIfInBounds i u) :=
 ⟨h.ext.setCell (by dsimp only; omega) _, h.pb.other (by omega) i _, h.sb.other (by omega) i _, h.ab.set i u⟩
theorem PlW.grow (h : PlW w cp cs W ca) {r : Option Nat} (k : W.grownBy W' r) (hr : ∀ g, r = some g → w.heap.size + 1 + 1 < g) : PlW w cp cs W' ca :=
 ⟨h.ext.grown k (fun g hg => by have := hr g hg; omega), h.pb.kept k (fun e => by have := hr _ e.symm; omega), h.sb.kept k (fun e => by have := hr _ e.symm; omega), h.ab.kept k (fun e => by have := hr _ e.symm; omega)⟩
end
theorem Own.grow {w w' : World} {base : Nat} {e : TypeId} {size : Nat} {v : Value} {n : Nat} {xs : List Value} (h : Own w base e size v n xs) {r : Option Nat} (k : w.grownBy w' r) (hr : ∀ g, v.ownBlock = some g → r ≠ some g) : Own w' base e size v n xs :=
 h.keep fun g hg => k.block g (h.block g hg).2 (fun e => hr g hg e.symm)
/-- What Play hands back. -/
def PlayQ (w : World) (p : Pad) (s : State) (l : List PAct) (e : Ending) (w' : World) : Prop :=
 ∃ v u, e = .returned (.tuple #[v, u, .int .i64 (playE p s l)]) ∧ StateO w' w.heap.size v (if playE p s l = 0 then runS p s l else zeroS) ∧ (∃ n, Own w' w.heap.size 29 1 u n ((if playE p s l = 0 then runE p s l else []).map (Value.int .i64))) ∧ Ext w w'
theorem play_no {w w' : World} {p : Pad} {s : State} {l : List PAct} {E : Int} (hE : playE p s l = E) (h0 : E ≠ 0) (hx : Ext w w') : PlayQ w p s l (.returned (.tuple #[.agg #[.int .i64 0, .slice none 0 0, .slice none 0 0, .slice none 0 0, .int .i64 0, .bool false], .slice none 0 0, .int .i64 E])) w' :=
 ⟨_, _, by rw [hE], by rw [if_neg (by rw [hE]; exact h0)]; exact stateO_zero w' _, by rw [if_neg (by rw [hE]; exact h0)]; exact ⟨0, Own.nil _ _ _ _⟩, hx⟩
theorem play_yes {w w' : World} {p : Pad} {s : State} {l : List PAct} {v u : Value} {n b : Nat} (hE : playE p s l = 0) (h1 : StateO w' w.heap.size v (runS p s l)) (h2 : Own w' b 29 1 u n ((runE p s l).map (Value.int .i64))) (hb : w.heap.size ≤ b) (hx : Ext w w') : PlayQ w p s l (.returned (.tuple #[v, u, .int .i64 0])) w' :=
 ⟨_, _, by rw [hE], by rw [if_pos hE]; exact h1, by rw [if_pos hE]; exact ⟨n, h2.mono hb⟩, hx⟩
/-- What holds in Play behind k acts. -/
structure PlR (w : World) (cp cs : Array Value) (x : State) (k : Nat) (v : Value) (es : List Int) (C1 C2 C3 : Option Addr) (d1 d2 d3 : Nat) (W : World) : Prop where
 pw : PlW w cp cs W #[.int .i64 x.now, .slice C1 x.zones.length d1, .slice C2 x.holder.length d2, .slice C3 x.squibs.length d3, .int .i64 x.siren, .bool x.storm]
 o1 : Own W (w.heap.size + 1 + 1 + 1) 3 1 (.slice C1 x.zones.length d1) x.zones.length (x.zones.map (Value.int .i64))
 o2 : Own W (w.heap.size + 1 + 1 + 1) 3 1 (.slice C2 x.holder.length d2) x.holder.length (x.holder.map (Value.int .i64))
 o3 : Own W (w.heap.size + 1 + 1 + 1) 3 1 (.slice C3 x.squibs.length d3) x.squibs.length (x.squibs.map (Value.int .i64))
 ow : Own W (w.heap.size + 1 + 1 + 1) 29 1 v k (es.map (Value.int .i64))
 far : FarS v C1 C2 C3
theorem PlR.ext {w W W' : World} {cp cs : Array Value} {x : State} {k : Nat} {v : Value} {es : List Int} {C1 C2 C3 : Option Addr} {d1 d2 d3 : Nat} (h : PlR w cp cs x k v es C1 C2 C3 d1 d2 d3 W) (e : Ext W W') : PlR w cp cs x k v es C1 C2 C3 d1 d2 d3 W' :=
 ⟨h.pw.ext' e, h.o1.ext e, h.o2.ext e, h.o3.ext e, h.ow.ext e, h.far⟩
theorem PlR.state {w W : World} {cp cs : Array Value} {x : State} {k : Nat} {v : Value} {es : List Int} {C1 C2 C3 : Option Addr} {d1 d2 d3 : Nat} (h : PlR w cp cs x k v es C1 C2 C3 d1 d2 d3 W) :
 StateO W (w.heap.size + 1 + 1 + 1) (.agg #[.int .i64 x.now, .slice C1 x.zones.length d1, .slice C2 x.holder.length d2, .slice C3 x.squibs.length d3, .int .i64 x.siren, .bool x.storm]) x := ⟨_, _, _, _, _, _, rfl, h.o1, h.o2, h.o3⟩
def PlEx (w : World) (cp cs : Array Value) (p : Pad) (s : State) (l : List PAct) (k : Nat) (v : Value) (W : World) : Prop :=
 ∃ C1 C2 C3 d1 d2 d3, PlR w cp cs (runS p s (l.take k)) k v (runE p s (l.take k)) C1 C2 C3 d1 d2 d3 W
/-- An append to the reasons: the state's lists stay. -/
theorem PlR.grow {w W W' : World} {cp cs : Array Value} {x : State} {k : Nat} {v v' : Value} {es : List Int} {e : Int} {C1 C2 C3 : Option Addr} {d1 d2 d3 : Nat} (h : PlR w cp cs x k v es C1 C2 C3 d1 d2 d3 W) (hg : W.grownBy W' v.ownBlock)
 (ho : Own W' (w.heap.size + 1 + 1 + 1) 29 1 v' (k + 1) (es.map (Value.int .i64) ++ [.int .i64 e])) (hb : v'.ownBlock = v.ownBlock ∨ v'.ownBlock = some W.heap.size) : PlR w cp cs x (k + 1) v' (es ++ [e]) C1 C2 C3 d1 d2 d3 W' := by
 have hf : ∀ g, (C1.map (·.block) = some g ∨ C2.map (·.block) = some g ∨ C3.map (·.block) = some g) → v.ownBlock ≠ some g := h.far
 refine ⟨h.pw.grow hg (fun g hg => ?_), h.o1.grow hg (fun g hg => hf g (.inl (by rw [ownBlock_slice] at hg; exact hg))), h.o2.grow hg (fun g hg => hf g (.inr (.inl (by rw [ownBlock_slice] at hg; exact hg)))), h.o3.grow hg (fun g hg => hf g (.inr (.inr (by rw [ownBlock_slice] at hg; exact hg)))), by simpa using ho, fun g hg e => ?_⟩
 ·have := (h.ow.block g hg).1; omega
 ·rcases hb with hb | hb
  ·rw [hb] at e; exact hf g hg e
  ·rw [hb] at e
   injection e with e
   subst e
   rcases hg with hg | hg | hg
   ·have := (h.o1.block _ (by rw [ownBlock_slice]; exact hg)).2; omega
   ·have := (h.o2.block _ (by rw [ownBlock_slice]; exact hg)).2; omega
   ·have := (h.o3.block _ (by rw [ownBlock_slice]; exact hg)).2; omega
/-- The state behind an act goes into its box. -/
theorem PlR.take {w W : World} {cp cs : Array Value} {x x2 : State} {k base : Nat} {v : Value} {es : List Int} {C1 C2 C3 B1 B2 B3 : Option Addr} {d1 d2 d3 f1 f2 f3 : Nat} (h : PlR w cp cs x k v es C1 C2 C3 d1 d2 d3 W) (hb : w.heap.size + 1 + 1 < base) (hf : FarS v B1 B2 B3)
 (o1 : Own W base 3 1 (.slice B1 x2.zones.length f1) x2.zones.length (x2.zones.map (Value.int .i64))) (o2 : Own W base 3 1 (.slice B2 x2.holder.length f2) x2.holder.length (x2.holder.map (Value.int .i64))) (o3 : Own W base 3 1 (.slice B3 x2.squibs.length f3) x2.squibs.length (x2.squibs.map (Value.int .i64))) :
 PlR w cp cs x2 k v es B1 B2 B3 f1 f2 f3 ((((((W.setCell ⟨w.heap.size + 1 + 1, 0, none⟩ (.int .i64 x2.now)).setCell ⟨w.heap.size + 1 + 1, 1, none⟩ (.slice B1 x2.zones.length f1)).setCell ⟨w.heap.size + 1 + 1, 2, none⟩ (.slice B2 x2.holder.length f2)).setCell ⟨w.heap.size + 1 + 1, 3, none⟩ (.slice B3 x2.squibs.length f3)).setCell ⟨w.heap.size + 1 + 1, 4, none⟩ (.int .i64 x2.siren)).setCell ⟨w.heap.size + 1 + 1, 5, none⟩ (.bool x2.storm)) := by
 have one : ∀ {e : TypeId} {b : Nat} {u : Value} {n : Nat} {xs : List Value}, w.heap.size + 1 + 1 < b → Own W b e 1 u n xs → ∀ u0 u1 u2 u3 u4 u5 : Value, Own ((((((W.setCell ⟨w.heap.size + 1 + 1, 0, none⟩ u0).setCell ⟨w.heap.size + 1 + 1, 1, none⟩ u1).setCell ⟨w.heap.size + 1 + 1, 2, none⟩ u2).setCell ⟨w.heap.size + 1 + 1, 3, none⟩ u3).setCell ⟨w.heap.size + 1 + 1, 4, none⟩ u4).setCell ⟨w.heap.size + 1 + 1, 5, none⟩ u5) b e 1 u n xs := fun {e b u n xs} hlt h u0 u1 u2 u3 u4 u5 => by
  have hne : u.ownBlock ≠ some (w.heap.size + 1 + 1) := fun e => by have := (h.block _ e).1; omega
  exact (((((h.setCell hne _).setCell hne _).setCell hne _).setCell hne _).setCell hne _).setCell hne _
 exact ⟨(((((h.pw.set 0 _).set 1 _).set 2 _).set 3 _).set 4 _).set 5 _, (one hb o1 _ _ _ _ _ _).mono (by omega), (one hb o2 _ _ _ _ _ _).mono (by omega), (one hb o3 _ _ _ _ _ _).mono (by omega), one (by omega) h.ow _ _ _ _ _ _, hf⟩
end Go.Proofs.Ythcnganbnbhhoaa
