/- A plain region, or a block of one, that ends in a callee's panic, in a round of a range over a function. -/
import Derived.Test.YthcnganbnbhhoaaRange
namespace Go.Proofs.Ythcnganbnbhhoaa
open Go.RowKit
def panOnly (Q : List PanicEntry → Act → World → Prop) : Exit → Act → World → Prop
 | .panic ch, a, w => Q ch a w
 | _, _, _ => False
section
variable {F : Fence} {n : Nat} {P : Program} {ops : Array Oper} {Q : List PanicEntry → Act → World → Prop} {a : Act} {w : World}
theorem wp_opsP (l : List Nat) :
 ∀ (a : Act) (w : World), wpOpsIn F n P ops (panOnly Q) l a w → ∀ (b : Frame) (k : List Item) (cs : List Frame), b.roundOf = F.round → F.fn b.fn → F.room (cs.length + 1 + n) →
   ∃ ch a' w' todo, Q ch a' w' ∧ noCall todo ∧ StepsIn (Machine.fenced P F) P (lone (b.atR a (.inRegion ops l :: k)) cs w) (lone { b.atR a' todo with mode := .panicking ch } cs w') := by
 induction l with
 | nil => exact fun a w h => absurd h (by simp [wpOpsIn, panOnly])
 | cons i rest ih =>
   intro a w h b k cs hro hb hr
   simp only [wpOpsIn] at h
   cases ho : ops[i]? with
   | none =>
     simp only [ho] at h
     obtain ⟨ch, a', w', todo, hq, ht, harr⟩ := ih a w h b k cs hro hb hr
     have hs := stepR_op_skip (P := P) (b := b) (a := a) (k := k) (cs := cs) (w := w) (ops := ops) (i := i) (rest := rest) (by simp [ho])
     simp only [ho, Option.bind_none, Act.put] at hs
     exact ⟨ch, a', w', todo, hq, ht, .head (fenced_noOper hb hr ho) hs harr⟩
   | some o =>
     simp only [ho] at h
     by_cases hw : Region.wanted o (yielded ops a.tmps) = true
     ·simp only [hw, if_true, Oper.wpIn] at h
      obtain ⟨habout, h⟩ := h
      have h0 : (lone (b.atR a (.inRegion ops (i :: rest) :: k)) cs w).fenced P F := fenced_oper hb hr ho habout
      simp only [Oper.uponIn] at h
      have hg := stepGR_op (P := P) (b := b) (k := k) (cs := cs) (w := w) (rest := rest) ho hw
      rw [hro] at hg
      have hfin : ∀ v, (b.atR a (.inRegion ops (i :: rest) :: k)).finish v = b.atR (a.put o.dst v) (.inRegion ops rest :: k) := by
       intro v; rw [Frame.finish_atR, ho]; rfl
      split at h
      ·rename_i v w' hr'
       obtain ⟨ch, a', w'', todo, hq, ht, harr⟩ := ih _ _ h b k cs hro hb hr
       refine ⟨ch, a', w'', todo, hq, ht, .head h0 (step_lone_go ?_) harr⟩
       rw [hg, ← hfin]; simp [stepG.apply, hr']
      ·rename_i w' hr'
       obtain ⟨ch, a', w'', todo, hq, ht, harr⟩ := ih _ _ h b k cs hro hb hr
       refine ⟨ch, a', w'', todo, hq, ht, .head h0 (step_lone_go ?_) harr⟩
       rw [hg, ← hfin]; simp [stepG.apply, hr']
      ·rename_i d w' hr'
       obtain ⟨ch, a', w'', todo, hq, ht, harr⟩ := ih _ _ h b k cs hro hb hr
       refine ⟨ch, a', w'', todo, hq, ht, .head h0 (step_lone_go ?_) harr⟩
       have : ({ b.atR a (.inRegion ops (i :: rest) :: k) with defers := d :: a.defers } : Frame).finish undef =
        b.atR ({ a with defers := d :: a.defers }.put o.dst undef) (.inRegion ops rest :: k) := by
        have := Frame.finish_atR b { a with defers := d :: a.defers } ops i rest k undef
        rw [ho] at this; exact this
       rw [hg]; simp only [stepG.apply, Sem.runT_eq, hr', GStep.bare_after]
       exact congrArg (fun fr => GStep.go { frame := fr, callers := cs, status := .running, dying := none } w') this
      ·rename_i f args w' hr'
       obtain ⟨hn, hF, h⟩ := h
       have hroom : F.room ((b.atR a (.inRegion ops (i :: rest) :: k) :: cs).length + 1 + (n - 1)) := Fence.room_enter hr hn
       obtain ⟨e, w'', fr, hR, hsteps, hfn, hleave⟩ := h (b.atR a (.inRegion ops (i :: rest) :: k) :: cs) hroom
       have henter : step P (lone (b.atR a (.inRegion ops (i :: rest) :: k)) cs w) =
        .next (lone (Frame.enter P f args .normal) (b.atR a (.inRegion ops (i :: rest) :: k) :: cs) w') :=
        step_lone_go (by rw [hg]; simp [stepG.apply, hr', Frame.atR])
       cases e with
       | returned v =>
         have hl : (lone fr (b.atR a (.inRegion ops (i :: rest) :: k) :: cs) w'').fenced P F := fenced_leaving (hfn ▸ hF) hroom hleave
         obtain ⟨ch, a', w₃, todo, hq, ht, harr⟩ := ih _ _ hR b k cs hro hb hr
         refine ⟨ch, a', w₃, todo, hq, ht, .head h0 henter (StepsIn.trans (StepsIn.trans hsteps (.one hl ?_)) harr)⟩
         rw [← hfin]; exact step_leave_returned hleave
       | panicked chain =>
         have hl : (lone fr (b.atR a (.inRegion ops (i :: rest) :: k) :: cs) w'').fenced P F := fenced_leaving (hfn ▸ hF) hroom hleave
         refine ⟨chain, a, w'', .inRegion ops (i :: rest) :: k, hR, trivial, .head h0 henter (StepsIn.trans hsteps (.one hl ?_))⟩
         rw [← Frame.raise_atR]; exact step_leave_panicked hleave
       | outgrown =>
         obtain ⟨a₀, w₀, hq⟩ := hR
         exact hq.elim
      ·rename_i row args w' hr'
       obtain ⟨hn, h⟩ := h
       obtain ⟨v, w'', hR, hsteps⟩ := h (b.atR a (.inRegion ops (i :: rest) :: k)) cs (Fence.room_enter hr hn)
       have henter : step P (lone (b.atR a (.inRegion ops (i :: rest) :: k)) cs w) =
        .next (lone (Frame.ofRow P row args .normal) (b.atR a (.inRegion ops (i :: rest) :: k) :: cs) w') :=
        step_lone_go (by rw [hg]; simp [stepG.apply, hr', Frame.atR])
       obtain ⟨ch, a', w₃, todo, hq, ht, harr⟩ := ih _ _ hR b k cs hro hb hr
       refine ⟨ch, a', w₃, todo, hq, ht, .head h0 henter (StepsIn.trans ?_ harr)⟩
       rw [← hfin]; exact hsteps
      ·rename_i l f tmps assign body w' hr'
       obtain ⟨hn, _, h⟩ := h
       obtain ⟨e, w'', hR, hsteps⟩ := h (b.atR a (.inRegion ops (i :: rest) :: k)) cs (Fence.room_enter hr hn)
       have henter : step P (lone (b.atR a (.inRegion ops (i :: rest) :: k)) cs w) =
        .next (lone (Frame.round l f tmps assign body .normal) (b.atR a (.inRegion ops (i :: rest) :: k) :: cs) w') :=
        step_lone_go (by rw [hg]; simp [stepG.apply, hr', Frame.atR])
       cases e with
       | returned v =>
         obtain ⟨ch, a', w₃, todo, hq, ht, harr⟩ := ih _ _ hR b k cs hro hb hr
         refine ⟨ch, a', w₃, todo, hq, ht, .head h0 henter (StepsIn.trans ?_ harr)⟩
         rw [← hfin]; exact hsteps
       | panicked chain =>
         refine ⟨chain, a, w'', .inRegion ops (i :: rest) :: k, hR, trivial, .head h0 henter ?_⟩
         rw [← Frame.raise_atR]; exact hsteps
       | outgrown =>
         obtain ⟨a₀, w₀, hq⟩ := hR
         exact hq.elim
      ·rename_i v w' hr'
       refine ⟨_, a, w', .inRegion ops (i :: rest) :: k, h, trivial, .one h0 (step_lone_go ?_)⟩
       rw [hg, ← Frame.raise_atR]; simp [stepG.apply, hr']
      ·exact h.elim
     ·simp only [hw, if_false, Bool.false_eq_true] at h
      obtain ⟨habout, h⟩ := h
      obtain ⟨ch, a', w', todo, hq, ht, harr⟩ := ih _ _ h b k cs hro hb hr
      have hs := stepR_op_skip (P := P) (b := b) (a := a) (k := k) (cs := cs) (w := w) (ops := ops) (i := i) (rest := rest)
       (by simp [ho]; simpa using hw)
      simp only [ho, Option.bind_some] at hs
      exact ⟨ch, a', w', todo, hq, ht, .head (fenced_oper hb hr ho habout) hs harr⟩
theorem wpP_region {id : Nat} (h : wpListIn F n P ops (panOnly Q) ops.toList a w) : wpP F n P (.region id ops false) Q a w := by
 intro b k cs hro hb hr
 have h' : wpOpsIn F n P ops (panOnly Q) (List.range ops.size) a w := by
  rw [List.range_eq_range', ← Array.length_toList, wpOpsIn_eq_wpListIn ops.toList 0 (by simp)]; exact h
 obtain ⟨ch, a', w', todo, hq, ht, hs⟩ := wp_opsP _ a w h' b k cs hro hb hr
 exact ⟨ch, a', w', todo, hq, ht, .head (fenced_calm hb hr rfl) stepR_region hs⟩
theorem wpP_block {id : Nat} {c : Code} (h : wpP F n P c Q a w) : wpP F n P (.block id c) Q a w := by
 intro b k cs hro hb hr
 obtain ⟨ch, a', w', todo, hq, ht, hs⟩ := h b (.inBlock id :: k) cs hro hb hr
 exact ⟨ch, a', w', todo, hq, ht, .head (fenced_calm hb hr rfl) stepR_block hs⟩
end
end Go.Proofs.Ythcnganbnbhhoaa
