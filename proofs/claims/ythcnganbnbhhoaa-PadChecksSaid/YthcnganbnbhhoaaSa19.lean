/- Loops with ranges in them; regions of rounds that may panic. Over whatever program. -/
import Derived.Test.YthcnganbnbhhoaaSa17
namespace Go.Proofs.Ythcnganbnbhhoaa.Sh
set_option linter.unusedVariables false
set_option linter.unusedSimpArgs false
open Go
section
variable {P : Program} {n0 N : Nat} {Q : SX → St → Prop} {st : St}
theorem SWM.own {c : Code} {ts ts' : List (Nat × T)} {L L' : List (Option Rw)} (s : Nat) (hs : Nat.beq s 0 = false) {m : Nat} {nr : List Nat} (hm : nums.drop L.length = m :: nr) (hts : OwnS m s ts ts') (hL : OwnR m s L L') (h : SWM P n0 N c Q ⟨ts', L' ++ [some ⟨s, []⟩]⟩) : SWM P n0 N c Q ⟨ts, L⟩ :=
 SWM.seen (fun _ _ _ hR => own_see n0 s hs hm hts hL hR) h
theorem swm_loop {c : Code} (I : Nat → St → Prop) {m : Nat} {st0 : St} {κ : List Nat} (hv : Vw n0 st st0 κ) (h0 : I m st0)
  (h : ∀ m st, I m st → SWM P n0 N c (thenQ (fun st' => ∃ m' st'' κ, m' < m ∧ Vw n0 st' st'' κ ∧ I m' st'') Q) st) : SWM P n0 N (.loop c) Q st := by
 refine SWM.view hv ?_
 intro nn db g a df hR hd
 let Pm : Nat → Act → World → Prop := fun m a' w' => ∃ g' st' df', g'.w = w' ∧ LeN n0 g g' ∧ StR g' N st' a' df' ∧ DfOk db g' df' ∧ I m st'
 have hex : ∃ pick : Act → World → Nat, ∀ a' w', (∃ m, Pm m a' w') → Pm (pick a' w') a' w' ∧ ∀ k, Pm k a' w' → pick a' w' ≤ k := by
  have h1 : ∀ p : Act × World, ∃ m, (∃ m, Pm m p.1 p.2) → Pm m p.1 p.2 ∧ ∀ k, Pm k p.1 p.2 → m ≤ k := fun p => by
   by_cases h : ∃ m, Pm m p.1 p.2
   ·obtain ⟨m, hm⟩ := least h; exact ⟨m, fun _ => hm⟩
   ·exact ⟨0, fun h' => absurd h' h⟩
  exact ⟨fun a' w' => Classical.choose (h1 (a', w')), fun a' w' => Classical.choose_spec (h1 (a', w'))⟩
 obtain ⟨pick, hpick⟩ := hex
 refine wpIn_loop (fun a' w' => ∃ m, Pm m a' w') pick ⟨m, g, st0, df, rfl, .refl n0 g, hR, hd, h0⟩ fun a' w' hI => ?_
 obtain ⟨⟨g1, st1, df1, rfl, hl1, hR1, hd1, hI1⟩, _⟩ := hpick a' w' hI
 refine wpIn_mono (h _ st1 hI1 nn db g1 a' df1 hR1 hd1) ?_
 rintro ex a2 w2 ⟨g2, sx, st2, df2, rfl, k2, k3, k3', k4, k5⟩
 cases sx with
 | norm =>
  cases ex <;> first | exact k4.elim | skip
  obtain ⟨m', st3, κ', hlt, hv3, hI2⟩ := k5
  obtain ⟨g3, hw3, hl3, hR3⟩ := hv3.see k3
  have hP : Pm m' a2 g2.w := ⟨g3, st3, df2, hw3, (hl1.trans k2).trans hl3, hR3, k3'.stepN k3.good hl3, hI2⟩
  have hex : ∃ m, Pm m a2 g2.w := ⟨m', hP⟩
  exact ⟨hex, Nat.lt_of_le_of_lt ((hpick a2 g2.w hex).2 m' hP) hlt⟩
 | ret => cases ex <;> first | exact k4.elim | exact ⟨g2, _, st2, df2, rfl, hl1.trans k2, k3, k3', k4, k5⟩
 | exit i => cases ex <;> first | exact k4.elim | exact ⟨g2, _, st2, df2, rfl, hl1.trans k2, k3, k3', k4, k5⟩
 | pan t => cases ex <;> first | exact k4.elim | exact ⟨g2, _, st2, df2, rfl, hl1.trans k2, k3, k3', k4, k5⟩
/-! ### Rounds -/
theorem ev_wp {df : List Deferred} {ops : Array Oper} {l : List Oper} {st st2 : St} {tr : List Stp} (h : Ev P N ops l st tr st2) {F : Fence} {nn : Nat} (hF : Wd F) {R : Exit → Act → World → Prop} {l2 : List Oper} :
 ∀ {g : G}, (∀ g' a', Le g g' → StR g' N st2 a' df → wpListIn F nn P ops R l2 a' g'.w) → ∀ a, StR g N st a df → wpListIn F nn P ops R (l ++ l2) a g.w := by
 induction h with
 | nil st => intro g k a hR; exact k g a (.refl g) hR
 | cons hs _ ih => intro g k a hR; exact hs.soundL hF hR fun g' a' h3 h4 => ih (fun g'' a'' h5 h6 => k g'' a'' (h3.trans h5) h6) a' h4
theorem swy_rg {id : Nat} {l : List Oper} (h : EvK P N l.toArray l st [] (endP P n0 N [] l.toArray Q)) : SWY P n0 N (.region id l.toArray false) Q st := fun F nn hF g a hR => by
 obtain ⟨l1, l2, tr, st', e, h1, (⟨rfl, h2⟩ | ⟨o, r, rfl, hw, h2⟩)⟩ := h
 ·refine wpR_mono (wpR_of (Q := fun ex a' w' => ex = .normal ∧ ∃ g', g'.w = w' ∧ LeN n0 g g' ∧ StR g' N st' a' []) (wpIn_region_lit ?_) (fun ch a w h => by cases h.1)) ?_
  ·have := ev_wp (nn := nn) h1 hF (R := fun ex a' w' => ex = .normal ∧ ∃ g', g'.w = w' ∧ LeN n0 g g' ∧ StR g' N st' a' []) (l2 := []) (g := g) (fun g' a' k1 k2 => ⟨rfl, g', rfl, k1.toN n0, k2⟩) a hR
   rw [← e] at this
   exact this
  ·rintro ex a' w' ⟨rfl, g', rfl, k1, k2⟩
   exact ⟨g', .norm, st', rfl, k1, k2, trivial, h2⟩
 ·refine wpR_mono (wpR_rgP (Q := fun ch a' w' => ∃ g' v t st', g'.w = w' ∧ LeN n0 g g' ∧ StR g' N st' a' [] ∧ ch = [{ v, recovered := false }] ∧ VT g' t v ∧ Q (.pan t) st') ?_) ?_
  ·have := ev_wp h1 hF (R := panOnly fun ch a' w' => ∃ g' v t st', g'.w = w' ∧ LeN n0 g g' ∧ StR g' N st' a' [] ∧ ch = [{ v, recovered := false }] ∧ VT g' t v ∧ Q (.pan t) st') (l2 := o :: r) (g := g) (fun g1 a' k1 k2 => by
    unfold wpListIn
    rw [yielded_of hw fun d _ => k2.ts d]
    simp only [if_true]
    exact h2 F nn hF g1 a' k2 _ _ fun g' v t st' e1 e2 e3 e4 => ⟨g', v, t, st', rfl, (k1.toN n0).trans e1, e2, rfl, e3, e4⟩) a hR
   rw [← e] at this
   exact this
  ·rintro ex a' w' k
   cases ex <;> first | exact k.elim | skip
   obtain ⟨g', v, t, st', rfl, k1, k2, rfl, k3, k4⟩ := k
   exact ⟨g', .pan t, st', rfl, k1, k2, ⟨v, rfl, k3⟩, k4⟩
end
end Go.Proofs.Ythcnganbnbhhoaa.Sh
