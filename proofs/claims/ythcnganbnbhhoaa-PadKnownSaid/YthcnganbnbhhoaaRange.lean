/- A range over a function whose iterator hands out values that lie in memory of its own: the law, over whatever program. A region that draws its order, by an invariant: each operation is shown once, whatever has come up before it. -/
import Derived.Test.YthcnganbnbhhoaaBase
import Derived.RangeFuncNested
import Derived.RangeFuncBound
import Derived.RangeFuncCalls
import Derived.RangeFuncLeaves
import Derived.Shelf.Abstract
import Derived.OwnWalkIn
import Derived.TacticsInMore
import Derived.LoopNIn
import Derived.LoopIn
import Derived.OrdersIn
namespace Go.Proofs.Ythcnganbnbhhoaa
open Go.RowKit Go.Shelf

/-- Nothing has turned but blocks from B on that are no cells. -/
structure Turn (B : Nat) (w w' : World) : Prop where
 os : w'.os = w.os
 tape : w'.tape = w.tape
 output : w'.output = w.output
 size : w.heap.size ≤ w'.heap.size
 block : ∀ k o, w.heap[k]? = some o → (k < B ∨ o.isCells = true) → w'.heap[k]? = some o
theorem Turn.of_ext {B : Nat} {w w' : World} (h : Ext w w') : Turn B w w' :=
 ⟨h.os, h.tape, h.output, h.size, fun k o hk _ => by rw [Below.block h k (Array.getElem?_eq_some_iff.1 hk).1]; exact hk⟩
theorem Turn.refl (B : Nat) (w : World) : Turn B w w := Turn.of_ext (Ext.refl w)
theorem Turn.trans {B : Nat} {a b c : World} (h : Turn B a b) (k : Turn B b c) : Turn B a c :=
 ⟨k.os.trans h.os, k.tape.trans h.tape, k.output.trans h.output, Nat.le_trans h.size k.size, fun i o hi ho => k.block i o (h.block i o hi ho) ho⟩
theorem Turn.putObj {B : Nat} {w : World} {l : Nat} {o : Obj} (o' : Obj) (hl : w.heap[l]? = some o) (hB : B ≤ l) (ho : o.isCells = false) : Turn B w (w.putObj l o') := by
 have hg := grownBy_putObj' w l o'
 refine ⟨hg.os, hg.tape, hg.output, hg.size, fun k p hk hp => ?_⟩
 rw [hg.block k (Array.getElem?_eq_some_iff.1 hk).1 (fun e => ?_)]
 ·exact hk
 ·injection e with e
  subst e
  rw [hl] at hk
  injection hk with hk
  subst hk
  rcases hp with hp | hp
  ·omega
  ·rw [ho] at hp; cases hp
theorem isCells_cells (c : Array Value) (e : TypeId) (f : Nat × Nat) : (Obj.cells c e f).isCells = true := rfl
theorem Turn.c {B : Nat} {w w' : World} (h : Turn B w w') : CExt w w' := ⟨h.size, fun {p v} hc => by
 unfold World.cell? at hc ⊢
 cases hb : w.heap[p.block]? with
 | none => rw [hb] at hc; cases hc
 | some o =>
   rw [hb] at hc
   cases o with
   | cells c e f => rw [h.block _ _ hb (.inr rfl)]; exact hc
   | _ => cases hc⟩
theorem Turn.below {B base : Nat} {w0 w w' : World} (h : Turn B w w') (k : Below base w0 w) (hB : base ≤ B) (hs : base ≤ w.heap.size) : Below base w0 w' :=
 ⟨h.os.trans k.os, h.tape.trans k.tape, h.output.trans k.output, Nat.le_trans k.size h.size, fun i hi => by
  rw [← k.block i hi]
  have hlt : i < w.heap.size := by omega
  have he : w.heap[i]? = some w.heap[i] := Array.getElem?_eq_getElem hlt
  rw [he]
  exact h.block i _ he (.inl (by omega))⟩
theorem Turn.own {B : Nat} {w w' : World} (h : Turn B w w') {base : Nat} {e : TypeId} {size : Nat} {v : Value} {n : Nat} {xs : List Value} (k : Own w base e size v n xs) : Own w' base e size v n xs := by
 refine ⟨k.1, ?_⟩
 rcases k.2 with hn | ⟨g, cap, cur, lo, hi, hv, hb, hg, rest⟩
 ·exact .inl hn
 ·exact .inr ⟨g, cap, cur, lo, hi, hv, hb, h.block g _ hg (.inr rfl), rest⟩
theorem Turn.frozen {B : Nat} {w w' : World} (h : Turn B w w') {p : Addr} {v : Value} (hc : w.cell? p = some v) : w'.frozen? p = w.frozen? p := by
 unfold World.cell? at hc
 cases hb : w.heap[p.block]? with
 | none => rw [hb] at hc; cases hc
 | some o =>
   rw [hb] at hc
   cases o with
   | cells c e f => exact World.frozen?_of_block ((h.block _ _ hb (.inr rfl)).trans hb.symm)
   | _ => cases hc

/-- The blocks of which G holds are as they were. -/
def KeepG (G : Nat → Prop) (w w' : World) : Prop := ∀ k, G k → w'.heap[k]? = w.heap[k]?
theorem KeepG.refl (G : Nat → Prop) (w : World) : KeepG G w w := fun _ _ => rfl
theorem KeepG.trans {G : Nat → Prop} {a b c : World} (h : KeepG G a b) (k : KeepG G b c) : KeepG G a c := fun i hi => (k i hi).trans (h i hi)

/-- What an iterator does: it hands x after x to yield, each as 'Ok' says in the world of the call, and of the one from which the iterator went on, keeping to what the round leaves of the blocks of G; all of them ('S'), or some ('Sp') where a round says 'no more'. -/
def SeqOk {α : Type} (P : Program) (g : Nat) (lb : Array Value) (encs : α → Array Value) (Ok : α → World → World → Prop) (G : Nat → Prop) (S Sp : List α → Prop) (w : World) : Prop :=
 ∀ (l : Nat) (J Jx : List α → World → Prop) (Jp : List PanicEntry → List α → World → Prop) (W : World), Ext w W → W.heap.size = w.heap.size + 2 → (∀ s A B, J s A → Ext A B → J s B) → (∀ s A B, Jx s A → Ext A B → Jx s B) →
   (∀ pre x W0 W1, Sp (pre ++ [x]) → J pre W0 → Ext W0 W1 → Ok x W0 W1 → YieldAt Fence.wide 0 P l (encs x) W1 fun e W' =>
     (e = .returned (.bool true) ∧ J (pre ++ [x]) W' ∧ KeepG G W1 W') ∨ (e = .returned (.bool false) ∧ Jx (pre ++ [x]) W') ∨ (∃ ch, e = .panicked ch ∧ Jp ch (pre ++ [x]) W')) →
   J [] W →
   CallsIn Fence.wide 0 P g (#[.func (.yield l) #[] #[]] ++ lb) W fun e W' => ((∃ v, e = .returned v) ∧ ((∃ xs, S xs ∧ J xs W') ∨ (∃ pre, Sp pre ∧ Jx pre W'))) ∨ (∃ ch pre, e = .panicked ch ∧ Sp pre ∧ Jp ch pre W')

/-- How a round may end. -/
def roundEnd {α : Type} (B : Nat) (G : Nat → Prop) (I : List α → World → Prop) (Ix : Code → List α → World → Prop) (xs : List α) (W : World) : Exit → Act → World → Prop
 | .normal, _, W' => KeepsFrom B W W' ∧ KeepG G W W' ∧ I xs W'
 | .ret, _, W' => KeepsFrom B W W' ∧ Ix .ret xs W'
 | .exit id, _, W' => KeepsFrom B W W' ∧ Ix (.exit id) xs W'
 | .goto t, _, W' => KeepsFrom B W W' ∧ Ix (.goto t) xs W'
 | .panic _, _, _ => False
 | .outgrown, _, _ => False

/-- A frame's agenda does not begin with a library's call. -/
def noCall : List Item → Prop
 | .call _ _ _ _ :: _ => False
 | _ => True
/-- A code that panics, wherever it runs; the agenda then does not begin with a library's call. -/
def wpP (F : Fence) (n : Nat) (P : Program) (c : Code) (Q : List PanicEntry → Act → World → Prop) (a : Act) (w : World) : Prop :=
 ∀ (b : Frame) (k : List Item) (cs : List Frame), b.roundOf = F.round → F.fn b.fn → F.room (cs.length + 1 + n) →
   ∃ ch a' w' todo, Q ch a' w' ∧ noCall todo ∧ StepsIn (Machine.fenced P F) P (lone (b.atR a (.code c :: k)) cs w) (lone { b.atR a' todo with mode := .panicking ch } cs w')
section
variable {F : Fence} {n : Nat} {P : Program} {Q : List PanicEntry → Act → World → Prop} {a : Act} {w : World}
theorem wpP_mono {c : Code} {Q' : List PanicEntry → Act → World → Prop} (h : wpP F n P c Q a w) (hq : ∀ ch a w, Q ch a w → Q' ch a w) : wpP F n P c Q' a w :=
 fun b k cs hro hb hr => let ⟨ch, a', w', todo, q, t, r⟩ := h b k cs hro hb hr; ⟨ch, a', w', todo, hq _ _ _ q, t, r⟩
theorem wpP_seq {x y : Code} (h : x.wpIn F n P (Exit.then (wpP F n P y Q) (fun _ _ _ => False)) a w) : wpP F n P (Code.seq x y) Q a w := by
 intro b k cs hro hb hr
 obtain ⟨e, a₁, w₁, hq, harr⟩ := h b (.code y :: k) cs hro hb hr
 cases e with
 | normal =>
   obtain ⟨ch, a₂, w₂, todo, hq₂, ht, hs⟩ := hq b k cs hro hb hr
   exact ⟨ch, a₂, w₂, todo, hq₂, ht, .head (fenced_calm hb hr rfl) stepR_seq (StepsIn.trans harr hs)⟩
 | _ => exact hq.elim
theorem wpP_seq1 {x y : Code} (h : wpP F n P x Q a w) : wpP F n P (Code.seq x y) Q a w := by
 intro b k cs hro hb hr
 obtain ⟨ch, a₂, w₂, todo, hq₂, ht, hs⟩ := h b (.code y :: k) cs hro hb hr
 exact ⟨ch, a₂, w₂, todo, hq₂, ht, .head (fenced_calm hb hr rfl) stepR_seq hs⟩
/-- A region of one operation, a call that panics. -/
theorem wpP_call {id : Nat} {o : Oper} {f : FuncId} {args : Array Value}
 (hg : o.guard = none) (hd : ∀ c, o.op ≠ .defer c) (hr : (execOp a.eval o).run P w = .ok (.enter f args) w) (hF : F.fn f) (hab : ∀ f', o.about P w a.eval = some f' → F.fn f') (hn : F.depth.isSome = true → 1 ≤ n)
 (hc : CallsIn F (n - 1) P f args w fun e w' => ∃ ch, e = .panicked ch ∧ Q ch a w') : wpP F n P (.region id #[o] false) Q a w := by
 intro b k cs hro hb hrm
 have h1 : (lone (b.atR a (.inRegion #[o] [0] :: k)) cs w).fenced P F := fenced_oper hb hrm rfl hab
 have hroom : F.room ((b.atR a (.inRegion #[o] [0] :: k) :: cs).length + 1 + (n - 1)) := Fence.room_enter hrm hn
 obtain ⟨e, w₂, fr, ⟨ch, rfl, hQ⟩, hsteps, hfn, hleave⟩ := hc.2 (b.atR a (.inRegion #[o] [0] :: k) :: cs) hroom
 have hl : (lone fr (b.atR a (.inRegion #[o] [0] :: k) :: cs) w₂).fenced P F := fenced_leaving (hfn ▸ hF) hroom hleave
 have hw : Region.wanted o (yielded #[o] a.tmps) = true := by simp [Region.wanted, hg]
 have hgo := stepGR_op (P := P) (b := b) (k := k) (cs := cs) (w := w) (a := a) (ops := #[o]) (o := o) (i := 0) (rest := []) rfl hw
 have hsm := Oper.semAt_eq F.round a.eval o hd
 have henter : step P (lone (b.atR a (.inRegion #[o] [0] :: k)) cs w) = .next (lone (Frame.enter P f args .normal) (b.atR a (.inRegion #[o] [0] :: k) :: cs) w) :=
  step_lone_go (by rw [hgo, hro, hsm]; simp [stepG.apply, hr, Frame.atR])
 refine ⟨ch, a, w₂, .inRegion #[o] [0] :: k, hQ, trivial, ?_⟩
 refine .head (fenced_calm hb hrm rfl) stepR_region (.head h1 henter (StepsIn.trans hsteps (.one hl ?_)))
 rw [← Frame.raise_atR]
 exact step_leave_panicked hleave
end
theorem step_round_panicked {P : Program} {fr c : Frame} {cs : List Frame} {w : World} {chain : List PanicEntry} (hm : fr.mode = .panicking chain) (hd : fr.defers = []) (ht : noCall fr.todo) :
 step P (lone fr (c :: cs) w) = .next (lone (c.raise chain) cs w) := by
 refine step_lone_go ?_
 have hc : fr.catches P = false := by
  unfold Frame.catches
  split
  ·rename_i h; rw [h] at ht; exact ht.elim
  ·rfl
 simp [stepG, unwind, hm, hd, hc]
/-- A round that ends in a panic. -/
theorem roundIn_panics {F : Fence} {n : Nat} {P : Program} {l : Nat} {f : FuncId} {tmps : Array Value} {assign body : Code} {w : World} {R : Ending → World → Prop} (hF : F.fn f)
 (h : assign.wpIn (F.inRound l) n P (Exit.then (fun a₁ w₁ => ∃ w₂, (Instr.beginRound l).run P w₁ = .ok () w₂ ∧ wpP (F.inRound l) n P body (fun ch a w => a.defers = [] ∧ R (.panicked ch) w) a₁ w₂) (fun _ _ _ => False))
   { tmps := tmps, defers := [] } w) : RoundIn F n P l f tmps assign body w R := by
 refine ⟨hF, fun c cs hr => ?_⟩
 let b : Frame := { (default : Frame) with fn := f, kind := .normal, roundOf := some l }
 have hb0 : Frame.round l f tmps assign body .normal = b.atR { tmps := tmps, defers := [] } [.code assign, .beginRound, .code body] := by
  simp [Frame.round, Frame.atR, b]
 have hF' : (F.inRound l).fn b.fn := hF
 obtain ⟨e, a₁, w₁, hq, harr⟩ := h b [.beginRound, .code body] (c :: cs) rfl hF' hr
 cases e with
 | normal =>
   obtain ⟨w₂, hbr, hbody⟩ := hq
   obtain ⟨ch, a₂, w₃, todo, ⟨hd, hR⟩, ht, hs⟩ := hbody b [] (c :: cs) rfl hF' hr
   refine ⟨.panicked ch, w₃, hR, ?_⟩
   rw [hb0]
   refine StepsIn.trans harr (.head (fenced_calm (fr := b.atR a₁ [.beginRound, .code body]) hF' hr rfl) (stepR_beginRound rfl hbr) (StepsIn.trans hs (.one ?_ (step_round_panicked rfl hd ht))))
   refine fenced_calm (F := F.inRound l) hF' hr ?_
   simp [Frame.about, Frame.atR, hd]
 | _ => exact hq.elim
variable {P : Program}
theorem range_okp {α : Type} {g : Operand} {ps : Array Tmp} {assign body : Code} {Q : Exit → Act → World → Prop} {a : Act} {w : World} {gf : Nat} {lb : Array Value}
 (hg : a.eval g = .func (.func gf) #[] lb) (eg : Enters P gf)
 {encs : α → Array Value} {Ok : α → World → World → Prop} {G : Nat → Prop} {S Sp : List α → Prop} (hseq : SeqOk P gf lb encs Ok G S Sp w) (hG : ∀ k, G k → k ≠ w.heap.size + 1) (hps : ∀ x, (encs x).size = ps.size)
 (I : List α → World → Prop) (Ix : Code → List α → World → Prop) (Ip : List PanicEntry → List α → World → Prop) (hI : ∀ s A B, I s A → Turn w.heap.size A B → I s B) (hIx : ∀ c s A B, Ix c s A → Turn w.heap.size A B → Ix c s B) (h0 : I [] w)
 (hround : ∀ (l : Nat) (pre : List α) (x : α) (W0 W : World), w.heap.size ≤ W0.heap.size → Sp (pre ++ [x]) → I pre W0 → Ext W0 W → Ok x W0 W →
   (assign.wpIn (Fence.wide.inRound l) 0 P (Exit.then (fun a₁ W1 => KeepsFrom w.heap.size W W1 ∧ KeepG G W W1 ∧ ∀ W2, Turn w.heap.size W1 W2 →
     body.wpIn (Fence.wide.inRound l) 0 P (roundEnd w.heap.size G I Ix (pre ++ [x]) W2) a₁ W2) (fun _ _ _ => False))
     { tmps := (ps.zip (encs x)).foldl (fun t (p, v) => t.setIfInBounds p v) a.tmps, defers := [] } W) ∨
   (assign.wpIn (Fence.wide.inRound l) 0 P (Exit.then (fun a₁ W1 => KeepsFrom w.heap.size W W1 ∧ ∀ W2, Turn w.heap.size W1 W2 →
     wpP (Fence.wide.inRound l) 0 P body (fun ch a2 W' => a2.defers = [] ∧ KeepsFrom w.heap.size W2 W' ∧ Ip ch (pre ++ [x]) W') a₁ W2) (fun _ _ _ => False))
     { tmps := (ps.zip (encs x)).foldl (fun t (p, v) => t.setIfInBounds p v) a.tmps, defers := [] } W))
 (hdone : ∀ (D : Nat) (xs : List α) (W : World), w.heap.size ≤ D → S xs → I xs W → W.heap[D]? = some (.deferred (some [])) → Q .normal { a with defers := { target := .collected D, args := #[] } :: a.defers } W)
 (hstop : ∀ (D : Nat) (c : Code) (pre : List α) (W : World), w.heap.size ≤ D → Sp pre → Ix c pre W → W.heap[D]? = some (.deferred (some [])) → c.wp P Q { a with defers := { target := .collected D, args := #[] } :: a.defers } W)
 (hpan : ∀ (D : Nat) (ch : List PanicEntry) (pre : List α) (W : World), w.heap.size ≤ D → Sp pre → Ip ch pre W → W.heap[D]? = some (.deferred (some [])) → Q (.panic ch) { a with defers := { target := .collected D, args := #[] } :: a.defers } W) :
 (Code.rangeFunc g ps assign body).wp P Q a w := by
 refine (wpIn_wide (n := 0)).1 (wpIn_rangeFunc ?_)
 intro fn _
 have hrt : Fence.wide.round = none := rfl
 rw [hrt]
 obtain ⟨rec, hrec⟩ : ∃ rec : LoopState → Option Code → Loop, rec = fun st pe => { state := st, pending := pe, fn, tmps := a.tmps, params := ps, assign, body, defers := w.heap.size } := ⟨_, rfl⟩
 obtain ⟨W1, hW1⟩ : ∃ W1, (w.alloc (.deferred (some []))).alloc (.loop (rec .ready none)) = W1 := ⟨_, rfl⟩
 have hL1 : W1.heap[w.heap.size + 1]? = some (.loop (rec .ready none)) := by
  rw [← hW1]; have := World.alloc_heap_new (w.alloc (.deferred (some []))) (.loop (rec .ready none)); rwa [World.size_alloc] at this
 have hK1 : W1.heap[w.heap.size]? = some (.deferred (some [])) := by
  rw [← hW1]; exact (Below.heap_alloc _ _ _ (by simp)).trans (World.alloc_heap_new w _)
 have hx1 : Ext w W1 := by rw [← hW1]; exact ((Ext.refl w).alloc _).alloc _
 have hkeep : ∀ {A B : World} {k : Nat} {o : Obj}, Ext A B → A.heap[k]? = some o → B.heap[k]? = some o := fun {A B k o} h hk => by
  rw [Below.block h k (Array.getElem?_eq_some_iff.1 hk).1]; exact hk
 refine ⟨w.heap.size + 1, [{ target := .collected w.heap.size, args := #[] }], W1, { target := .fn (.func gf) lb, args := #[.func (.yield (w.heap.size + 1)) #[] #[]] }, W1, gf,
  #[.func (.yield (w.heap.size + 1)) #[] #[]] ++ lb, W1, ?_, ?_, fun _ _ => trivial, ?_, (fun h => by cases h), ?_⟩
 ·rw [← hW1, hrec]; exact run_enterLoop_outer _ _ _ _ _
 ·simp only [resolve, hg]
  simp [go_sem]
 ·simp [invoke, go_sem, eg _ _]
 ·refine (hseq (w.heap.size + 1)
   (fun pre W => I pre W ∧ W.heap[w.heap.size + 1]? = some (.loop (rec .ready none)) ∧ W.heap[w.heap.size]? = some (.deferred (some [])))
   (fun pre W => ∃ c, Ix c pre W ∧ W.heap[w.heap.size + 1]? = some (.loop (rec .done (some c))) ∧ W.heap[w.heap.size]? = some (.deferred (some [])))
   (fun ch pre W => Ip ch pre W ∧ W.heap[w.heap.size]? = some (.deferred (some [])))
   W1 hx1 (by rw [← hW1]; simp) (fun s A B hs he => ⟨hI s A B hs.1 (Turn.of_ext he), hkeep he hs.2.1, hkeep he hs.2.2⟩)
   (fun s A B hs he => by obtain ⟨c, hc, hl, hk⟩ := hs; exact ⟨c, hIx c s A B hc (Turn.of_ext he), hkeep he hl, hkeep he hk⟩)
   ?_ ⟨hI _ _ _ h0 (Turn.of_ext hx1), hL1, hK1⟩).mono ?_
  ·rintro pre x W0 W hsp ⟨hi0, hl0, hk0⟩ hx0 hok
   have hl := hkeep hx0 hl0
   have hk := hkeep hx0 hk0
   have hy := run_yield (P := P) (args := encs x) hl (by rw [hrec]; exact hps x)
   rw [hrec] at hy
   have hlt0 : w.heap.size + 1 < W0.heap.size := (Array.getElem?_eq_some_iff.1 hl0).1
   rcases hround (w.heap.size + 1) pre x W0 W (by omega) hsp hi0 hx0 hok with hrd | hrd
   case inr =>
    refine ⟨fn, _, assign, body, hy, roundIn_panics trivial (wpIn_mono hrd ?_)⟩
    rintro e a1 Wa he
    cases e with
    | normal =>
      obtain ⟨hkf, hb⟩ := he
      have hl' := hkf.same _ _ (by omega) hl rfl
      have hk' := hkf.same _ _ (Nat.le_refl _) hk rfl
      refine ⟨_, run_beginRound hl' (by rw [hrec]), wpP_mono (hb _ (Turn.putObj _ hl' (by omega) rfl)) ?_⟩
      have hk2 : (Wa.putObj (w.heap.size + 1) (.loop { rec .ready none with state := .busy })).heap[w.heap.size]? = some (.deferred (some [])) := (World.putObj_heap_other (by omega)).trans hk'
      rintro ch a3 W3 ⟨hd3, hk3, hi3⟩
      exact ⟨hd3, Or.inr (Or.inr ⟨ch, rfl, hi3, hk3.same _ _ (Nat.le_refl _) hk2 rfl⟩)⟩
    | _ => exact he.elim
   refine ⟨fn, _, assign, body, hy, roundIn_of_wpIn trivial (wpIn_mono hrd ?_)⟩
   clear hy
   rintro e a1 Wa he
   cases e with
   | normal =>
     obtain ⟨hkf, hkg, hb⟩ := he
     have hl' := hkf.same _ _ (by omega) hl rfl
     have hk' := hkf.same _ _ (Nat.le_refl _) hk rfl
     refine ⟨_, run_beginRound hl' (by rw [hrec]), ?_⟩
     have hlt : w.heap.size + 1 < Wa.heap.size := (Array.getElem?_eq_some_iff.1 hl').1
     have hl2 : (Wa.putObj (w.heap.size + 1) (.loop { rec .ready none with state := .busy })).heap[w.heap.size + 1]? = some (.loop { rec .ready none with state := .busy }) := World.putObj_heap_same hlt
     have hk2 : (Wa.putObj (w.heap.size + 1) (.loop { rec .ready none with state := .busy })).heap[w.heap.size]? = some (.deferred (some [])) := (World.putObj_heap_other (by omega)).trans hk'
     have hg2 : ∀ (X : World) (o : Obj), KeepG G X (X.putObj (w.heap.size + 1) o) := fun X o k hk => World.putObj_heap_other (by have := hG k hk; omega)
     refine wpIn_mono (hb _ (Turn.putObj _ hl' (by omega) rfl)) ?_
     have fin : ∀ (jump : Option Code) (W3 : World), KeepsFrom w.heap.size (Wa.putObj (w.heap.size + 1) (.loop { rec .ready none with state := .busy })) W3 →
      (Instr.endRound (w.heap.size + 1) jump).run P W3 = .ok (.bool jump.isNone) (W3.putObj (w.heap.size + 1) (.loop (rec (if jump.isNone then .ready else .done) jump))) ∧
      W3.heap[w.heap.size + 1]? = some (.loop { rec .ready none with state := .busy }) ∧
      (W3.putObj (w.heap.size + 1) (.loop (rec (if jump.isNone then .ready else .done) jump))).heap[w.heap.size + 1]? = some (.loop (rec (if jump.isNone then .ready else .done) jump)) ∧
      (W3.putObj (w.heap.size + 1) (.loop (rec (if jump.isNone then .ready else .done) jump))).heap[w.heap.size]? = some (.deferred (some [])) := fun jump W3 hk3 => by
      have hl3 := hk3.same _ _ (by omega) hl2 rfl
      have hr := run_endRound (P := P) jump hl3
      rw [hrec] at hr hl3 ⊢
      exact ⟨hr, hl3, World.putObj_heap_same (Array.getElem?_eq_some_iff.1 hl3).1, (World.putObj_heap_other (by omega)).trans (hk3.same _ _ (Nat.le_refl _) hk2 rfl)⟩
     rintro e a3 W3 hp
     cases e with
     | normal =>
       obtain ⟨hk3, hkp3, hi3⟩ := hp
       obtain ⟨hr, hl3, hl4, hk4⟩ := fin none W3 hk3
       exact ⟨_, _, hr, .inl ⟨rfl, ⟨hI _ _ _ hi3 (Turn.putObj _ hl3 (by omega) rfl), hl4, hk4⟩, (hkg.trans (hg2 _ _)).trans (hkp3.trans (hg2 _ _))⟩⟩
     | ret =>
       obtain ⟨hk3, hi3⟩ := hp
       obtain ⟨hr, hl3, hl4, hk4⟩ := fin (some .ret) W3 hk3
       exact ⟨_, _, hr, .inr (.inl ⟨rfl, .ret, hIx _ _ _ _ hi3 (Turn.putObj _ hl3 (by omega) rfl), hl4, hk4⟩)⟩
     | exit id =>
       obtain ⟨hk3, hi3⟩ := hp
       obtain ⟨hr, hl3, hl4, hk4⟩ := fin (some (.exit id)) W3 hk3
       exact ⟨_, _, hr, .inr (.inl ⟨rfl, .exit id, hIx _ _ _ _ hi3 (Turn.putObj _ hl3 (by omega) rfl), hl4, hk4⟩)⟩
     | goto t =>
       obtain ⟨hk3, hi3⟩ := hp
       obtain ⟨hr, hl3, hl4, hk4⟩ := fin (some (.goto t)) W3 hk3
       exact ⟨_, _, hr, .inr (.inl ⟨rfl, .goto t, hIx _ _ _ _ hi3 (Turn.putObj _ hl3 (by omega) rfl), hl4, hk4⟩)⟩
     | panic ch => exact hp.elim
     | outgrown => exact hp.elim
   | _ => exact he.elim
  ·rintro e W2 (⟨⟨v, rfl⟩, (⟨xs, hS, hi, hl, hk⟩ | ⟨pre, hSp, c, hi, hl, hk⟩)⟩ | ⟨ch, pre, rfl, hSp, hF⟩)
   ·exact ⟨none, _, by have := run_endLoop (P := P) hl (by rw [hrec]; simp); rw [hrec] at this; exact this, hdone _ xs _ (Nat.le_refl _) hS (hI _ _ _ hi (Turn.putObj _ hl (by omega) rfl)) ((World.putObj_heap_other (by omega)).trans hk)⟩
   ·exact ⟨some c, _, by have := run_endLoop (P := P) hl (by rw [hrec]; simp); rw [hrec] at this; exact this, wpIn_wide.2 (hstop _ c pre _ (Nat.le_refl _) hSp (hIx _ _ _ _ hi (Turn.putObj _ hl (by omega) rfl)) ((World.putObj_heap_other (by omega)).trans hk))⟩
   ·exact hpan _ ch pre _ (Nat.le_refl _) hSp hF.1 hF.2
theorem range_ok {α : Type} {g : Operand} {ps : Array Tmp} {assign body : Code} {Q : Exit → Act → World → Prop} {a : Act} {w : World} {gf : Nat} {lb : Array Value}
 (hg : a.eval g = .func (.func gf) #[] lb) (eg : Enters P gf)
 {encs : α → Array Value} {Ok : α → World → World → Prop} {G : Nat → Prop} {S Sp : List α → Prop} (hseq : SeqOk P gf lb encs Ok G S Sp w) (hG : ∀ k, G k → k ≠ w.heap.size + 1) (hps : ∀ x, (encs x).size = ps.size)
 (I : List α → World → Prop) (Ix : Code → List α → World → Prop) (hI : ∀ s A B, I s A → Turn w.heap.size A B → I s B) (hIx : ∀ c s A B, Ix c s A → Turn w.heap.size A B → Ix c s B) (h0 : I [] w)
 (hround : ∀ (l : Nat) (pre : List α) (x : α) (W0 W : World), w.heap.size ≤ W0.heap.size → Sp (pre ++ [x]) → I pre W0 → Ext W0 W → Ok x W0 W →
   assign.wpIn (Fence.wide.inRound l) 0 P (Exit.then (fun a₁ W1 => KeepsFrom w.heap.size W W1 ∧ KeepG G W W1 ∧ ∀ W2, Turn w.heap.size W1 W2 →
    body.wpIn (Fence.wide.inRound l) 0 P (roundEnd w.heap.size G I Ix (pre ++ [x]) W2) a₁ W2) (fun _ _ _ => False))
    { tmps := (ps.zip (encs x)).foldl (fun t (p, v) => t.setIfInBounds p v) a.tmps, defers := [] } W)
 (hdone : ∀ (D : Nat) (xs : List α) (W : World), w.heap.size ≤ D → S xs → I xs W → W.heap[D]? = some (.deferred (some [])) → Q .normal { a with defers := { target := .collected D, args := #[] } :: a.defers } W)
 (hstop : ∀ (D : Nat) (c : Code) (pre : List α) (W : World), w.heap.size ≤ D → Sp pre → Ix c pre W → W.heap[D]? = some (.deferred (some [])) → c.wp P Q { a with defers := { target := .collected D, args := #[] } :: a.defers } W) :
 (Code.rangeFunc g ps assign body).wp P Q a w :=
 range_okp hg eg hseq hG hps I Ix (fun _ _ _ => False) hI hIx h0 (fun l pre x W0 W h1 h2 h3 h4 h5 => .inl (hround l pre x W0 W h1 h2 h3 h4 h5)) hdone hstop (fun _ _ _ _ _ _ h _ => h.elim)
end Go.Proofs.Ythcnganbnbhhoaa
namespace Go.Proofs.Ythcnganbnbhhoaa
open Go.RowKit
section
variable {F : Fence} {n : Nat} {P : Program} {md : Region.Mode} {ops : Array Oper} {Q : Exit → Act → World → Prop}
theorem count_set_lt {listed : Array Bool} {i : Nat} (h : listed.getD i true = false) : (listed.setIfInBounds i true).toList.count false + 1 = listed.toList.count false := by
 have hi : i < listed.toList.length := by
  rw [Array.length_toList]
  rcases Nat.lt_or_ge i listed.size with h' | h'
  ·exact h'
  ·simp [Array.getD, Nat.not_lt.2 h'] at h
 have hv : listed.toList[i] = false := by
  rw [Array.length_toList] at hi
  simpa [Array.getD, hi] using h
 rw [Array.toList_setIfInBounds, List.count_set hi, hv]
 have : 0 < listed.toList.count false := List.count_pos_iff.2 (hv ▸ List.getElem_mem hi)
 rw [if_pos (show (false == false) = true from rfl), if_neg (show ¬ (true == false) = true by decide)]
 omega
theorem count_ready {listed : Array Bool} {i : Nat} (h : i ∈ Region.ready md ops listed) : (listed.setIfInBounds i true).toList.count false + 1 = listed.toList.count false :=
 count_set_lt (mem_ready.1 h).1
theorem wpAnyIn_inv (Inv : Array Bool → Act → World → Prop)
 (hstep : ∀ listed a w i, Inv listed a w → i ∈ Region.ready md ops listed → wpOpIn F n P ops Q i (Inv (listed.setIfInBounds i true)) a w)
 (hend : ∀ listed a w, Region.ready md ops listed = [] → Inv listed a w → Q .normal a w) :
 ∀ (fuel : Nat) (listed : Array Bool) (a : Act) (w : World), listed.toList.count false ≤ fuel → Inv listed a w → wpAnyIn F n P md ops Q fuel listed a w
 | 0, listed, a, w, hc, h => by
   have hr : Region.ready md ops listed = [] := by
    rw [List.eq_nil_iff_forall_not_mem]
    intro i hi
    have := count_ready hi
    omega
   exact ⟨hr, hend _ _ _ hr h⟩
 | fuel + 1, listed, a, w, hc, h =>
   ⟨fun hr => hend _ _ _ hr h, fun i hi => wpOpIn_mono (fun a' w' h' => wpAnyIn_inv Inv hstep hend fuel _ a' w' (by have := count_ready hi; omega) h') (hstep listed a w i h hi)⟩
/-- What has come up has come up behind what it waits for. -/
def Closed (md : Region.Mode) (ops : Array Oper) (listed : Array Bool) : Prop :=
 ∀ (j : Nat) (o : Oper), ops[j]? = some o → listed.getD j false = true → ∀ e ∈ o.after, Region.binds md e = true → listed.getD e.on false = true
theorem getD_rep (m j : Nat) : (Array.replicate m false).getD j false = false := by
 unfold Array.getD
 split
 ·simp
 ·rfl
theorem getD_upd {listed : Array Bool} {i : Nat} (h : listed.getD i true = false) (j : Nat) : (listed.setIfInBounds i true).getD j false = if j = i then true else listed.getD j false := by
 have hi : i < listed.size := by
  rcases Nat.lt_or_ge i listed.size with h' | h'
  ·exact h'
  ·simp [Array.getD, Nat.not_lt.2 h'] at h
 simp only [Array.getD_eq_getD_getElem?, Array.getElem?_setIfInBounds]
 by_cases hj : j = i
 ·subst hj; simp [hi]
 ·rw [if_neg hj, if_neg (fun e => hj e.symm)]
theorem Closed.step {listed : Array Bool} {i : Nat} (h : Closed md ops listed) (hi : i ∈ Region.ready md ops listed) : Closed md ops (listed.setIfInBounds i true) := by
 obtain ⟨hun, oi, hoi, hall⟩ := mem_ready.1 hi
 intro j o ho hj e he hb
 rw [getD_upd hun] at hj ⊢
 by_cases hei : e.on = i
 ·rw [if_pos hei]
 ·rw [if_neg hei]
  by_cases hji : j = i
  ·subst hji
   rw [hoi] at ho
   injection ho with ho
   subst ho
   exact hall e he hb
  ·rw [if_neg hji] at hj
   exact h j o ho hj e he hb
/-- A region that draws its order: the invariant holds at the start, each operation keeps it, and at the end it gives the post. -/
theorem wpIn_region_inv {id : Nat} {ops : Array Oper} {a : Act} {w : World} (hm : P.follows .mixedOrders = true) (Inv : Array Bool → Act → World → Prop)
 (h0 : Inv (Array.replicate ops.size false) a w.drew)
 (hstep : ∀ listed a w i, Closed .any ops listed → Inv listed a w → i ∈ Region.ready .any ops listed → wpOpIn F n P ops Q i (Inv (listed.setIfInBounds i true)) a w)
 (hend : ∀ listed a w, listed.size = ops.size → Region.ready .any ops listed = [] → Inv listed a w → Q .normal a w) : (Code.region id ops true).wpIn F n P Q a w :=
 wpIn_region_any hm (wpAnyIn_inv (fun listed a w => listed.size = ops.size ∧ Closed .any ops listed ∧ Inv listed a w)
  (fun listed a w i h hi => wpOpIn_mono (fun a' w' h' => ⟨by rw [Array.size_setIfInBounds]; exact h.1, h.2.1.step hi, h'⟩) (hstep listed a w i h.2.1 h.2.2 hi))
  (fun listed a w hr h => hend listed a w h.1 hr h.2.2) _ _ _ _ (by rw [Array.toList_replicate, List.count_replicate_self]; exact Nat.le_refl _)
  ⟨by simp, (fun j o _ hj => (by rw [getD_rep] at hj; cases hj) : Closed .any ops (Array.replicate ops.size false)), h0⟩)
/-- An operation that is no defer statement, in a round, goes as everywhere. -/
theorem wpOpIn_of {F : Fence} {i : Nat} {o : Oper} {K : Act → World → Prop} {a : Act} {w : World} (ho : ops[i]? = some o) (hg : o.guard = none) (hd : ∀ c, o.op ≠ .defer c)
 (hf : ∀ f, o.about P w a.eval = some f → F.fn f) (h : o.uponIn F n P a K Q ((execOp a.eval o).run P w)) : wpOpIn F n P ops Q i K a w := by
 unfold wpOpIn
 rw [ho]
 have hw : Region.wanted o (yielded ops a.tmps) = true := by simp [Region.wanted, hg]
 simp only [hw, if_true]
 refine ⟨hf, ?_⟩
 rw [Oper.semAt_eq _ _ _ hd]
 exact h
theorem wpOpIn_append {i : Nat} {o : Oper} {w : World} {a : Act} {K : Act → World → Prop} (ho : ops[i]? = some o) (hgd : o.guard = none) (s x : Operand) (t : TypeId)
 (hop : o.op = .call { callee := .builtin .append, args := #[s, x], argTypes := #[t, t] }) (hf : ∀ f, o.about P w a.eval = some f → F.fn f)
 (base : Nat) (e : TypeId) (i0 : TypeInfo) (z : Value) (size bytes : Nat) (ht : P.underlying t = some (.slice e)) (hi : P.info? e = some i0) (hz : i0.zero = some z)
 (hsize : i0.size = size) (hby : i0.bytes = bytes) (hzs : z.cells.size = size)
 (v : Value) (m : Nat) (xs : List Value) (hs : a.eval s = v) (hown : Own w base e size v m xs)
 (A : Option Addr) (m' c : Nat) (news : List Value) (hx : a.eval x = .slice A m' c) (hsrc : Src w A m' size news) (h1 : ∀ u ∈ news, u.oneCell' = true)
 (h63 : m + m' ≤ maxLen) (hbytes : (m + m') * bytes ≤ 140737488355328) (hbase : base ≤ w.heap.size)
 (h : ∀ v' w', Own w' base e size v' (m + m') (xs ++ news) → w.grownBy w' v.ownBlock → (v'.ownBlock = v.ownBlock ∨ v'.ownBlock = some w.heap.size) → K (a.put o.dst v') w') : wpOpIn F n P ops Q i K a w := by
 obtain ⟨v', w', hr, h2, h3, h4⟩ := run_append_own' (P := P) w base t o.type e i0 z size bytes ht hi hz hsize hby hzs v m xs hown A m' c news hsrc h1 h63 hbytes hbase
 refine wpOpIn_of ho hgd (by rw [hop]; intro c h; cases h) hf ?_
 unfold execOp
 simp only [hop, resolve, invoke, builtin, Sem.run_bind, Sem.run_pure, Result.andThen_ok, List.map_toArray, List.map_cons, List.map_nil, hs, hx, hr]
 exact h v' w' h2 h3 h4
end
end Go.Proofs.Ythcnganbnbhhoaa
