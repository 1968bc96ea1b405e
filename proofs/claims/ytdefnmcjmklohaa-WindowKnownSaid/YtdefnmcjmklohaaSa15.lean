/- What comes in, as data in a plain picture; a function over data that is called from outside. Over whatever program. -/
import Derived.Test.YtdefnmcjmklohaaSa14
import Derived.ProofKit
import Derived.OpenShut
import Derived.ShutString
import Derived.ChangeOld
import Derived.Below
import Derived.Lib.SmallJoins
import Derived.Deep.Slices
namespace Go.Proofs.Ytdefnmcjmklohaa.Sh
set_option linter.unusedVariables false
set_option linter.unusedSimpArgs false
open Go Go.ChangeShapes Go.WideShapes Go.ChangeAt Go.RowKit Go.Joins Go.Deep
/-- The picture of a world all of whose blocks are data. -/
def gW (w : World) : G := ⟨fun _ => none, fun _ => (0, 0), fun b => b < w.heap.size, w⟩
theorem gW_good (w : World) : Good (gW w) := ⟨fun _ _ h => (by cases h), fun _ _ _ _ h => (by cases h), fun _ h => h, fun _ _ _ _ h => (by cases h)⟩
theorem PC.below {P : Program} {f : FuncId} {ds : List D} {y : Value} {vs : List Value} {w : World} (h : PC P f ds (.v y)) (hl : ds.length = vs.length) (hv : ∀ (i : Nat) (d : D) (c : Value), ds[i]? = some d → vs[i]? = some c → VD (gW w) d c) :
  Calls P f vs.toArray w fun e w' => e = .returned y ∧ Below w.heap.size w w' := by
 refine (h (gW w) vs (gW_good w) (by funext n; simp [gW, ofL]) ⟨by simpa using hl, fun i t c ht hc => ?_⟩).mono ?_
 ·rw [List.getElem?_map] at ht
  obtain ⟨d, hd, rfl⟩ := Option.map_eq_some_iff.1 ht
  exact .d (hv i d c hd hc)
 ·rintro e w' ⟨g', se, L', rfl, hg, hle, hM, hse, rfl, rfl⟩
  refine ⟨?_, hle.os, hle.tape, hle.output, hle.size, fun k hk => hle.fr k hk fun _ _ h => (by cases h)⟩
  cases e with
  | returned v =>
   cases hse with | d h => cases h with | v => rfl
  | _ => cases hse
/-- Some cells are those of data. -/
def CV (w : World) (cs : List Value) (d : D) : Prop := cs.length = d.cells.length ∧ ∀ (j : Nat) (e : D) (c : Value), d.cells[j]? = some e → cs[j]? = some c → VD (gW w) e c
section
variable {P : Program} {H : Type} {enc : TypeId × Value → H} {W : World}
theorem CV.one {cs : List Value} {d : D} {c : Value} (hc : cs = [c]) (hd : d.cells = [d]) (h : VD (gW W) d c) : CV W cs d := by
 subst hc
 refine ⟨by rw [hd]; rfl, fun j e c' he hc => ?_⟩
 rw [hd] at he
 cases j with
 | zero => cases he; cases hc; exact h
 | succ j => cases he
def CVs (W : World) : List D → List Value → Prop
 | [], [] => True
 | d :: ds, c :: cs => VD (gW W) d c ∧ CVs W ds cs
 | _, _ => False
theorem CVs.at : ∀ {ds : List D} {cs : List Value}, CVs W ds cs → cs.length = ds.length ∧ ∀ (j : Nat) (e : D) (c : Value), ds[j]? = some e → cs[j]? = some c → VD (gW W) e c
 | [], [], _ => ⟨rfl, fun j e c h => by cases h⟩
 | d :: ds, c :: cs, h => by
  obtain ⟨h1, h2⟩ := CVs.at h.2
  refine ⟨by simp [h1], fun j e c' hj hc => ?_⟩
  cases j with
  | zero => cases hj; cases hc; exact h.1
  | succ j => exact h2 j e c' hj hc
 | [], _ :: _, h => h.elim
 | _ :: _, [], h => h.elim
theorem CVs.cv {cs : List Value} {l : List D} (h : CVs W l cs) : CV W cs (.agg l) := h.at
/-- A struct's value, out of its cells. -/
theorem CV.agg {cs : Array Value} {l : List D} (h : CV W cs.toList (.agg l)) : VD (gW W) (.agg l) (.agg cs) :=
 .agg l cs (by have := h.1; simp [D.cells] at this; omega) fun i d c hd hc => h.2 i d c hd (by simpa using hc)
end
end Go.Proofs.Ytdefnmcjmklohaa.Sh
