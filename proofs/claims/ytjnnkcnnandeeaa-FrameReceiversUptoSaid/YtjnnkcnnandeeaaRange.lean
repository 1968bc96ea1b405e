/- A range over a function whose iterator hands out values that lie in memory of its own: the law, over whatever program. -/
import Derived.Test.YtjnnkcnnandeeaaOwn
import Derived.RangeFuncNested
import Derived.RangeFuncBound
import Derived.RangeFuncCalls
import Derived.RangeFuncLeaves
import Derived.Shelf.Abstract
import Derived.OwnWalkIn
import Derived.TacticsInMore
import Derived.LoopNIn
import Derived.LoopIn
namespace Go.Proofs.Ytjnnkcnnandeeaa
open Go.RowKit Go.Shelf

/-- Nothing has turned but blocks from B on that are no cells. -/
structure Turn (B : Nat) (w w' : World) : Prop where
  os : w'.os = w.os
  tape : w'.tape = w.tape
  output : w'.output = w.output
  size : w.heap.size ≤ w'.heap.size
  block : ∀ k o, w.heap[k]? = some o → (k < B ∨ o.isCells = true) → w'.heap[k]? = some o
theorem Turn.of_ext {B : Nat} {w w' : World} (h : Ext w w') : Turn B w w' :=
  ⟨h.os, h.tape, h.output, h.size, fun k o hk _ => by rw [Below.block h k (Array.getElem?_eq_some_iff.1 hk).1]; exact hk⟩
theorem Turn.refl (B : Nat) (w : World) : Turn B w w := Turn.of_ext (Ext.refl w)
theorem Turn.trans {B : Nat} {a b c : World} (h : Turn B a b) (k : Turn B b c) : Turn B a c :=
  ⟨k.os.trans h.os, k.tape.trans h.tape, k.output.trans h.output, Nat.le_trans h.size k.size, fun i o hi ho => k.block i o (h.block i o hi ho) ho⟩
theorem Turn.putObj {B : Nat} {w : World} {l : Nat} {o : Obj} (o' : Obj) (hl : w.heap[l]? = some o) (hB : B ≤ l) (ho : o.isCells = false) : Turn B w (w.putObj l o') := by
  have hg := grownBy_putObj' w l o'
  refine ⟨hg.os, hg.tape, hg.output, hg.size, fun k p hk hp => ?_⟩
  rw [hg.block k (Array.getElem?_eq_some_iff.1 hk).1 (fun e => ?_)]
  · exact hk
  · injection e with e
    subst e
    rw [hl] at hk
    injection hk with hk
    subst hk
    rcases hp with hp | hp
    · omega
    · rw [ho] at hp; cases hp
theorem isCells_cells (c : Array Value) (e : TypeId) (f : Nat × Nat) : (Obj.cells c e f).isCells = true := rfl
theorem Turn.c {B : Nat} {w w' : World} (h : Turn B w w') : CExt w w' := ⟨h.size, fun {p v} hc => by
  unfold World.cell? at hc ⊢
  cases hb : w.heap[p.block]? with
  | none => rw [hb] at hc; cases hc
  | some o =>
    rw [hb] at hc
    cases o with
    | cells c e f => rw [h.block _ _ hb (.inr rfl)]; exact hc
    | _ => cases hc⟩
theorem Turn.below {B base : Nat} {w0 w w' : World} (h : Turn B w w') (k : Below base w0 w) (hB : base ≤ B) (hs : base ≤ w.heap.size) : Below base w0 w' :=
  ⟨h.os.trans k.os, h.tape.trans k.tape, h.output.trans k.output, Nat.le_trans k.size h.size, fun i hi => by
    rw [← k.block i hi]
    have hlt : i < w.heap.size := by omega
    have he : w.heap[i]? = some w.heap[i] := Array.getElem?_eq_getElem hlt
    rw [he]
    exact h.block i _ he (.inl (by omega))⟩
theorem Turn.own {B : Nat} {w w' : World} (h : Turn B w w') {base : Nat} {e : TypeId} {size : Nat} {v : Value} {n : Nat} {xs : List Value} (k : Own w base e size v n xs) : Own w' base e size v n xs := by
  refine ⟨k.1, ?_⟩
  rcases k.2 with hn | ⟨g, cap, cur, lo, hi, hv, hb, hg, rest⟩
  · exact .inl hn
  · exact .inr ⟨g, cap, cur, lo, hi, hv, hb, h.block g _ hg (.inr rfl), rest⟩
theorem Turn.frozen {B : Nat} {w w' : World} (h : Turn B w w') {p : Addr} {v : Value} (hc : w.cell? p = some v) : w'.frozen? p = w.frozen? p := by
  unfold World.cell? at hc
  cases hb : w.heap[p.block]? with
  | none => rw [hb] at hc; cases hc
  | some o =>
    rw [hb] at hc
    cases o with
    | cells c e f => exact World.frozen?_of_block ((h.block _ _ hb (.inr rfl)).trans hb.symm)
    | _ => cases hc

/-- The blocks of which G holds are as they were. -/
def KeepG (G : Nat → Prop) (w w' : World) : Prop := ∀ k, G k → w'.heap[k]? = w.heap[k]?
theorem KeepG.refl (G : Nat → Prop) (w : World) : KeepG G w w := fun _ _ => rfl
theorem KeepG.trans {G : Nat → Prop} {a b c : World} (h : KeepG G a b) (k : KeepG G b c) : KeepG G a c := fun i hi => (k i hi).trans (h i hi)

/-- What an iterator does: it hands x after x to yield, each as 'Ok' says in the world of the call, and of the one from which the iterator went on, keeping to what the round leaves of the blocks of G; all of them ('S'), or some ('Sp') where a round says 'no more'. -/
def SeqOk {α : Type} (P : Program) (g : Nat) (lb : Array Value) (encs : α → Array Value) (Ok : α → World → World → Prop) (G : Nat → Prop) (S Sp : List α → Prop) (w : World) : Prop :=
  ∀ (l : Nat) (J Jx : List α → World → Prop) (W : World), Ext w W → (∀ s A B, J s A → Ext A B → J s B) → (∀ s A B, Jx s A → Ext A B → Jx s B) →
    (∀ pre x W0 W1, Sp (pre ++ [x]) → J pre W0 → Ext W0 W1 → Ok x W0 W1 → YieldAt Fence.wide 0 P l (encs x) W1 fun e W' =>
      (e = .returned (.bool true) ∧ J (pre ++ [x]) W' ∧ KeepG G W1 W') ∨ (e = .returned (.bool false) ∧ Jx (pre ++ [x]) W')) →
    J [] W →
    CallsIn Fence.wide 0 P g (#[.func (.yield l) #[] #[]] ++ lb) W fun e W' => (∃ v, e = .returned v) ∧ ((∃ xs, S xs ∧ J xs W') ∨ (∃ pre, Sp pre ∧ Jx pre W'))

/-- How a round may end. -/
def roundEnd {α : Type} (B : Nat) (G : Nat → Prop) (I : List α → World → Prop) (Ix : Code → List α → World → Prop) (xs : List α) (W : World) : Exit → Act → World → Prop
  | .normal, _, W' => KeepsFrom B W W' ∧ KeepG G W W' ∧ I xs W'
  | .ret, _, W' => KeepsFrom B W W' ∧ Ix .ret xs W'
  | .exit id, _, W' => KeepsFrom B W W' ∧ Ix (.exit id) xs W'
  | .goto t, _, W' => KeepsFrom B W W' ∧ Ix (.goto t) xs W'
  | .panic _, _, _ => False
  | .outgrown, _, _ => False

variable {P : Program}
theorem range_ok {α : Type} {g : Operand} {ps : Array Tmp} {assign body : Code} {Q : Exit → Act → World → Prop} {a : Act} {w : World} {gf : Nat} {lb : Array Value}
    (hg : a.eval g = .func (.func gf) #[] lb) (eg : Enters P gf)
    {encs : α → Array Value} {Ok : α → World → World → Prop} {G : Nat → Prop} {S Sp : List α → Prop} (hseq : SeqOk P gf lb encs Ok G S Sp w) (hG : ∀ k, G k → k < w.heap.size) (hps : ∀ x, (encs x).size = ps.size)
    (I : List α → World → Prop) (Ix : Code → List α → World → Prop) (hI : ∀ s A B, I s A → Turn w.heap.size A B → I s B) (hIx : ∀ c s A B, Ix c s A → Turn w.heap.size A B → Ix c s B) (h0 : I [] w)
    (hround : ∀ (l : Nat) (pre : List α) (x : α) (W0 W : World), w.heap.size ≤ W0.heap.size → Sp (pre ++ [x]) → I pre W0 → Ext W0 W → Ok x W0 W →
      assign.wpIn (Fence.wide.inRound l) 0 P (Exit.then (fun a₁ W1 => KeepsFrom w.heap.size W W1 ∧ KeepG G W W1 ∧ ∀ W2, Turn w.heap.size W1 W2 →
        body.wpIn (Fence.wide.inRound l) 0 P (roundEnd w.heap.size G I Ix (pre ++ [x]) W2) a₁ W2) (fun _ _ _ => False))
        { tmps := (ps.zip (encs x)).foldl (fun t (p, v) => t.setIfInBounds p v) a.tmps, defers := [] } W)
    (hdone : ∀ (D : Nat) (xs : List α) (W : World), w.heap.size ≤ D → S xs → I xs W → W.heap[D]? = some (.deferred (some [])) → Q .normal { a with defers := { target := .collected D, args := #[] } :: a.defers } W)
    (hstop : ∀ (D : Nat) (c : Code) (pre : List α) (W : World), w.heap.size ≤ D → Sp pre → Ix c pre W → W.heap[D]? = some (.deferred (some [])) → c.wp P Q { a with defers := { target := .collected D, args := #[] } :: a.defers } W) :
    (Code.rangeFunc g ps assign body).wp P Q a w := by
  refine (wpIn_wide (n := 0)).1 (wpIn_rangeFunc ?_)
  intro fn _
  have hrt : Fence.wide.round = none := rfl
  rw [hrt]
  obtain ⟨rec, hrec⟩ : ∃ rec : LoopState → Option Code → Loop, rec = fun st pe => { state := st, pending := pe, fn, tmps := a.tmps, params := ps, assign, body, defers := w.heap.size } := ⟨_, rfl⟩
  obtain ⟨W1, hW1⟩ : ∃ W1, (w.alloc (.deferred (some []))).alloc (.loop (rec .ready none)) = W1 := ⟨_, rfl⟩
  have hL1 : W1.heap[w.heap.size + 1]? = some (.loop (rec .ready none)) := by
    rw [← hW1]; have := World.alloc_heap_new (w.alloc (.deferred (some []))) (.loop (rec .ready none)); rwa [World.size_alloc] at this
  have hK1 : W1.heap[w.heap.size]? = some (.deferred (some [])) := by
    rw [← hW1]; exact (Below.heap_alloc _ _ _ (by simp)).trans (World.alloc_heap_new w _)
  have hx1 : Ext w W1 := by rw [← hW1]; exact ((Ext.refl w).alloc _).alloc _
  have hkeep : ∀ {A B : World} {k : Nat} {o : Obj}, Ext A B → A.heap[k]? = some o → B.heap[k]? = some o := fun {A B k o} h hk => by
    rw [Below.block h k (Array.getElem?_eq_some_iff.1 hk).1]; exact hk
  refine ⟨w.heap.size + 1, [{ target := .collected w.heap.size, args := #[] }], W1, { target := .fn (.func gf) lb, args := #[.func (.yield (w.heap.size + 1)) #[] #[]] }, W1, gf,
    #[.func (.yield (w.heap.size + 1)) #[] #[]] ++ lb, W1, ?_, ?_, fun _ _ => trivial, ?_, (fun h => by cases h), ?_⟩
  · rw [← hW1, hrec]; exact run_enterLoop_outer _ _ _ _ _
  · simp only [resolve, hg]
    simp [go_sem]
  · simp [invoke, go_sem, eg _ _]
  · refine (hseq (w.heap.size + 1)
      (fun pre W => I pre W ∧ W.heap[w.heap.size + 1]? = some (.loop (rec .ready none)) ∧ W.heap[w.heap.size]? = some (.deferred (some [])))
      (fun pre W => ∃ c, Ix c pre W ∧ W.heap[w.heap.size + 1]? = some (.loop (rec .done (some c))) ∧ W.heap[w.heap.size]? = some (.deferred (some [])))
      W1 hx1 (fun s A B hs he => ⟨hI s A B hs.1 (Turn.of_ext he), hkeep he hs.2.1, hkeep he hs.2.2⟩)
      (fun s A B hs he => by obtain ⟨c, hc, hl, hk⟩ := hs; exact ⟨c, hIx c s A B hc (Turn.of_ext he), hkeep he hl, hkeep he hk⟩)
      ?_ ⟨hI _ _ _ h0 (Turn.of_ext hx1), hL1, hK1⟩).mono ?_
    · rintro pre x W0 W hsp ⟨hi0, hl0, hk0⟩ hx0 hok
      have hl := hkeep hx0 hl0
      have hk := hkeep hx0 hk0
      have hy := run_yield (P := P) (args := encs x) hl (by rw [hrec]; exact hps x)
      rw [hrec] at hy
      have hlt0 : w.heap.size + 1 < W0.heap.size := (Array.getElem?_eq_some_iff.1 hl0).1
      refine ⟨fn, _, assign, body, hy, roundIn_of_wpIn trivial (wpIn_mono (hround _ pre x W0 W (by omega) hsp hi0 hx0 hok) ?_)⟩
      clear hy
      rintro e a1 Wa he
      cases e with
      | normal =>
        obtain ⟨hkf, hkg, hb⟩ := he
        have hl' := hkf.same _ _ (by omega) hl rfl
        have hk' := hkf.same _ _ (Nat.le_refl _) hk rfl
        refine ⟨_, run_beginRound hl' (by rw [hrec]), ?_⟩
        have hlt : w.heap.size + 1 < Wa.heap.size := (Array.getElem?_eq_some_iff.1 hl').1
        have hl2 : (Wa.putObj (w.heap.size + 1) (.loop { rec .ready none with state := .busy })).heap[w.heap.size + 1]? = some (.loop { rec .ready none with state := .busy }) := World.putObj_heap_same hlt
        have hk2 : (Wa.putObj (w.heap.size + 1) (.loop { rec .ready none with state := .busy })).heap[w.heap.size]? = some (.deferred (some [])) := (World.putObj_heap_other (by omega)).trans hk'
        have hg2 : ∀ (X : World) (o : Obj), KeepG G X (X.putObj (w.heap.size + 1) o) := fun X o k hk => World.putObj_heap_other (by have := hG k hk; omega)
        refine wpIn_mono (hb _ (Turn.putObj _ hl' (by omega) rfl)) ?_
        have fin : ∀ (jump : Option Code) (W3 : World), KeepsFrom w.heap.size (Wa.putObj (w.heap.size + 1) (.loop { rec .ready none with state := .busy })) W3 →
            (Instr.endRound (w.heap.size + 1) jump).run P W3 = .ok (.bool jump.isNone) (W3.putObj (w.heap.size + 1) (.loop (rec (if jump.isNone then .ready else .done) jump))) ∧
            W3.heap[w.heap.size + 1]? = some (.loop { rec .ready none with state := .busy }) ∧
            (W3.putObj (w.heap.size + 1) (.loop (rec (if jump.isNone then .ready else .done) jump))).heap[w.heap.size + 1]? = some (.loop (rec (if jump.isNone then .ready else .done) jump)) ∧
            (W3.putObj (w.heap.size + 1) (.loop (rec (if jump.isNone then .ready else .done) jump))).heap[w.heap.size]? = some (.deferred (some [])) := fun jump W3 hk3 => by
          have hl3 := hk3.same _ _ (by omega) hl2 rfl
          have hr := run_endRound (P := P) jump hl3
          rw [hrec] at hr hl3 ⊢
          exact ⟨hr, hl3, World.putObj_heap_same (Array.getElem?_eq_some_iff.1 hl3).1, (World.putObj_heap_other (by omega)).trans (hk3.same _ _ (Nat.le_refl _) hk2 rfl)⟩
        rintro e a3 W3 hp
        cases e with
        | normal =>
          obtain ⟨hk3, hkp3, hi3⟩ := hp
          obtain ⟨hr, hl3, hl4, hk4⟩ := fin none W3 hk3
          exact ⟨_, _, hr, .inl ⟨rfl, ⟨hI _ _ _ hi3 (Turn.putObj _ hl3 (by omega) rfl), hl4, hk4⟩, (hkg.trans (hg2 _ _)).trans (hkp3.trans (hg2 _ _))⟩⟩
        | ret =>
          obtain ⟨hk3, hi3⟩ := hp
          obtain ⟨hr, hl3, hl4, hk4⟩ := fin (some .ret) W3 hk3
          exact ⟨_, _, hr, .inr ⟨rfl, .ret, hIx _ _ _ _ hi3 (Turn.putObj _ hl3 (by omega) rfl), hl4, hk4⟩⟩
        | exit id =>
          obtain ⟨hk3, hi3⟩ := hp
          obtain ⟨hr, hl3, hl4, hk4⟩ := fin (some (.exit id)) W3 hk3
          exact ⟨_, _, hr, .inr ⟨rfl, .exit id, hIx _ _ _ _ hi3 (Turn.putObj _ hl3 (by omega) rfl), hl4, hk4⟩⟩
        | goto t =>
          obtain ⟨hk3, hi3⟩ := hp
          obtain ⟨hr, hl3, hl4, hk4⟩ := fin (some (.goto t)) W3 hk3
          exact ⟨_, _, hr, .inr ⟨rfl, .goto t, hIx _ _ _ _ hi3 (Turn.putObj _ hl3 (by omega) rfl), hl4, hk4⟩⟩
        | panic ch => exact hp.elim
        | outgrown => exact hp.elim
      | _ => exact he.elim
    · rintro e W2 ⟨⟨v, rfl⟩, (⟨xs, hS, hi, hl, hk⟩ | ⟨pre, hSp, c, hi, hl, hk⟩)⟩
      · exact ⟨none, _, by have := run_endLoop (P := P) hl (by rw [hrec]; simp); rw [hrec] at this; exact this, hdone _ xs _ (Nat.le_refl _) hS (hI _ _ _ hi (Turn.putObj _ hl (by omega) rfl)) ((World.putObj_heap_other (by omega)).trans hk)⟩
      · exact ⟨some c, _, by have := run_endLoop (P := P) hl (by rw [hrec]; simp); rw [hrec] at this; exact this, wpIn_wide.2 (hstop _ c pre _ (Nat.le_refl _) hSp (hIx _ _ _ _ hi (Turn.putObj _ hl (by omega) rfl)) ((World.putObj_heap_other (by omega)).trans hk))⟩
end Go.Proofs.Ytjnnkcnnandeeaa
