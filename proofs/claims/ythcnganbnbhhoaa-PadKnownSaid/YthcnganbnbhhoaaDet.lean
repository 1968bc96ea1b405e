/- A region that draws its order, in which each operation writes a slot of its own and memory only grows: each operation is shown once, from what those that it waits for have left. Over whatever program. A region that draws its order and only reads (its callees may make memory): each operation is shown once, its value found by the walk itself ('apply wp_region_det [slots] [_, ..]': as many '_' as slots: the tool det.py prints it). Over whatever program. A drawn region in which each operation writes a slot of its own and memory only grows: the values that are known are found by the walk; of some operations only what the value is good for is told. A drawn region in which each operation writes a slot of its own and memory only grows: each operation is looked at over an unknown frame of which but a few slots are told. A region in the order of its text, walked as a drawn one is: over an unknown frame of which but a few slots are told (for regions that the walk does not get through). A region that draws its order and ends in operations whose order is forced (an append, a store): those before are shown each once, the tail is walked. Over whatever program. A drawn region whose operations from one on come last, in order: what comes before is looked at over an unknown frame; the rest is walked as a list. -/
import Derived.Test.YthcnganbnbhhoaaRange
namespace Go.Proofs.Ythcnganbnbhhoaa
open Go.RowKit
section
variable {P : Program} {md : Region.Mode} {ops : Array Oper} {Q : Exit → Act → World → Prop}
/-- Each operation waits for earlier ones alone. -/
def lowEdges (ops : Array Oper) : Bool := (List.range ops.size).all fun j => match ops[j]? with | some o => o.after.all (fun e => decide (e.on < j)) | none => true
theorem all_listed {listed : Array Bool} (hl : lowEdges ops = true) (hs : listed.size = ops.size) (hr : Region.ready md ops listed = []) : ∀ j, j < ops.size → listed.getD j false = true := by
 intro j
 induction j using Nat.strongRecOn with
 | _ j ih =>
   intro hj
   unfold lowEdges at hl
   rw [List.all_eq_true] at hl
   have h1 := hl j (List.mem_range.2 hj)
   have ho : ops[j]? = some ops[j] := Array.getElem?_eq_getElem hj
   rw [ho] at h1
   dsimp only at h1
   rw [Array.all_eq_true_iff_forall_mem] at h1
   cases hh : listed.getD j false with
   | true => rfl
   | false =>
     have hm : j ∈ Region.ready md ops listed := mem_ready.2 ⟨by
      have hj' : j < listed.size := by omega
      simpa [Array.getD, hj'] using hh, _, ho, fun e he _ => by
       have := of_decide_eq_true (h1 e he)
       exact ih _ this (by omega)⟩
     rw [hr] at hm
     cases hm
theorem wpAny_inv (Inv : Array Bool → Act → World → Prop)
 (hstep : ∀ listed a w i, Inv listed a w → i ∈ Region.ready md ops listed → wpOp P ops Q i (Inv (listed.setIfInBounds i true)) a w)
 (hend : ∀ listed a w, Region.ready md ops listed = [] → Inv listed a w → Q .normal a w) :
 ∀ (fuel : Nat) (listed : Array Bool) (a : Act) (w : World), listed.toList.count false ≤ fuel → Inv listed a w → wpAny P md ops Q fuel listed a w
 | 0, listed, a, w, hc, h => by
   have hr : Region.ready md ops listed = [] := by
    rw [List.eq_nil_iff_forall_not_mem]
    intro i hi
    have := count_ready hi
    omega
   exact ⟨hr, hend _ _ _ hr h⟩
 | fuel + 1, listed, a, w, hc, h =>
   ⟨fun hr => hend _ _ _ hr h, fun i hi => wpOp_mono (fun a' w' h' => wpAny_inv Inv hstep hend fuel _ a' w' (by have := count_ready hi; omega) h') (hstep listed a w i h hi)⟩
/-- A region that draws its order: the invariant holds at the start, each operation keeps it, and at the end it gives the post. -/
theorem wp_region_inv {id : Nat} {a : Act} {w : World} (hm : P.follows .mixedOrders = true) (Inv : Array Bool → Act → World → Prop)
 (h0 : Inv (Array.replicate ops.size false) a w.drew)
 (hstep : ∀ listed a w i, Closed .any ops listed → Inv listed a w → i ∈ Region.ready .any ops listed → wpOp P ops Q i (Inv (listed.setIfInBounds i true)) a w)
 (hend : ∀ listed a w, listed.size = ops.size → Region.ready .any ops listed = [] → Inv listed a w → Q .normal a w) : (Code.region id ops true).wp P Q a w :=
 wp_region_any hm (wpAny_inv (fun listed a w => listed.size = ops.size ∧ Closed .any ops listed ∧ Inv listed a w)
  (fun listed a w i h hi => wpOp_mono (fun a' w' h' => ⟨by rw [Array.size_setIfInBounds]; exact h.1, h.2.1.step hi, h'⟩) (hstep listed a w i h.2.1 h.2.2 hi))
  (fun listed a w hr h => hend listed a w h.1 hr h.2.2) _ _ _ _ (by rw [Array.toList_replicate, List.count_replicate_self]; exact Nat.le_refl _)
  ⟨by simp, (fun j o _ hj => (by rw [getD_rep] at hj; cases hj) : Closed .any ops (Array.replicate ops.size false)), h0⟩)
/-- Temporaries of which those named hold what x says. -/
def fill (T : Array Value) (x : Nat → Value) : List Nat → Array Value
 | [] => T
 | d :: ds => (fill T x ds).setIfInBounds d (x d)
theorem fill_size (T : Array Value) (x : Nat → Value) : ∀ ds, (fill T x ds).size = T.size
 | [] => rfl
 | d :: ds => by rw [fill, Array.size_setIfInBounds, fill_size T x ds]
theorem fill_get (T : Array Value) (x : Nat → Value) (i : Nat) : ∀ ds, (fill T x ds)[i]? = if i ∈ ds ∧ i < T.size then some (x i) else T[i]?
 | [] => by simp [fill]
 | d :: ds => by
   rw [fill, Array.getElem?_setIfInBounds, fill_get T x i ds, fill_size]
   by_cases hd : d = i
   ·subst hd
    by_cases hs : d < T.size
    ·simp [hs]
    ·simp [hs]
   ·have hd' : ¬ i = d := fun e => hd e.symm
    simp [hd, hd']
theorem fill_self (T : Array Value) (ds : List Nat) : fill T (fun d => T.getD d undef) ds = T := by
 apply Array.ext_getElem?
 intro i
 rw [fill_get]
 split
 ·rename_i h
  simp [Array.getD, h.2]
 ·rfl
theorem fill_put (T : Array Value) (x : Nat → Value) (ds : List Nat) {d : Nat} (v : Value) (h : d ∈ ds) : (fill T x ds).setIfInBounds d v = fill T (fun k => if k = d then v else x k) ds := by
 apply Array.ext_getElem?
 intro i
 rw [Array.getElem?_setIfInBounds, fill_get, fill_get, fill_size]
 by_cases hd : d = i
 ·subst hd
  by_cases hs : d < T.size
  ·simp [hs, h]
  ·simp [hs]
 ·have hd' : ¬ i = d := fun e => hd e.symm
  simp [hd, hd']
/-- The slots that the operations write, each its own. -/
def slotsOk (ops : Array Oper) (slot : Nat → Nat) : Bool := (List.range ops.size).all fun j => match ops[j]? with | some o => o.dst == some (slot j) | none => false
def slotsApart (n : Nat) (slot : Nat → Nat) : Bool := (List.range n).all fun i => (List.range n).all fun j => decide (i = j) || !decide (slot i = slot j)
/-- What is to be shown of an operation: from what those that it waits for have left, it leaves what Val says. -/
def RegStep (P : Program) (Q : Exit → Act → World → Prop) (T : Array Value) (df : List Deferred) (ds : List Nat) (slot : Nat → Nat) (Val : Nat → Value → World → Prop) (R : World → World → Prop) (w : World) (j : Nat) (o : Oper) : Prop :=
 ∀ x W, (∀ e ∈ o.after, Region.binds .any e = true → Val e.on (x (slot e.on)) W) → R w W →
   ((∀ g b, o.guard = some (g, b) → x (slot g) = .bool b) → ∀ K, (∀ v W', Val j v W' → R W W' → K (Act.put ⟨fill T x ds, df⟩ o.dst v) W') → o.wp P ⟨fill T x ds, df⟩ W K Q) ∧
   (∀ g b, o.guard = some (g, b) → x (slot g) ≠ .bool b → Val j undef W ∧ R W W)
def stepsAll (S : Nat → Oper → Prop) : Nat → List Oper → Prop
 | _, [] => True
 | j, o :: l => S j o ∧ stepsAll S (j + 1) l
theorem stepsAll_get {S : Nat → Oper → Prop} : ∀ (l : List Oper) (i : Nat) (_ : stepsAll S i l) (j : Nat) (o : Oper), l[j]? = some o → S (i + j) o
 | [], _, _, j, o, ho => by simp at ho
 | _ :: _, _, h, 0, o, ho => by
   simp at ho
   subst ho
   exact h.1
 | _ :: l, i, h, j + 1, o, ho => by
   have := stepsAll_get l (i + 1) h.2 j o (by simpa using ho)
   rwa [show i + 1 + j = i + (j + 1) by omega] at this
/-- Each guard is an earlier operation. -/
def guardsOk (ops : Array Oper) : Bool := (List.range ops.size).all fun j => match ops[j]? with | some o => (match o.guard with | some (g, _) => decide (g < j) | none => true) | none => true
theorem wp_region_vals {id : Nat} {T : Array Value} {df : List Deferred} {w : World} (hm : P.follows .mixedOrders = true)
 (slot : Nat → Nat) (Val : Nat → Value → World → Prop) (ds : List Nat) (hds : ds = (List.range ops.size).map slot) (hs : slotsOk ops slot = true) (hap : slotsApart ops.size slot = true) (hlow : lowEdges ops = true)
 (hgd : guardsOk ops = true) (hin : ds.all (fun d => decide (d < T.size)) = true)
 (R : World → World → Prop) (hR0 : R w w.drew) (hRt : ∀ A B C, R A B → R B C → R A C)
 (hmono : ∀ j v A B, Val j v A → R A B → Val j v B)
 (hsteps : stepsAll (RegStep P Q T df ds slot Val R w) 0 ops.toList)
 (hend : ∀ x W, (∀ j, j < ops.size → Val j (x (slot j)) W) → R w W → Q .normal ⟨fill T x ds, df⟩ W) : (Code.region id ops true).wp P Q ⟨T, df⟩ w := by
 have hstep : ∀ j o x W, ops[j]? = some o → (∀ e ∈ o.after, Region.binds .any e = true → Val e.on (x (slot e.on)) W) → R w W →
  wpOp P ops Q j (fun a' W' => ∃ v, a' = Act.put ⟨fill T x ds, df⟩ o.dst v ∧ Val j v W' ∧ R W W') ⟨fill T x ds, df⟩ W := by
  intro j o x W ho hd hR
  have hS := stepsAll_get ops.toList 0 hsteps j o (by simpa using ho)
  rw [Nat.zero_add] at hS
  obtain ⟨hS1, hS2⟩ := hS x W hd hR
  have hjl : j < ops.size := (Array.getElem?_eq_some_iff.1 ho).1
  have hy : ∀ g, g < ops.size → yielded ops (fill T x ds) g = match x (slot g) with | .bool b => some b | _ => none := by
   intro g hg
   have hdst : (ops[g]?).bind (·.dst) = some (slot g) := by
    unfold slotsOk at hs
    rw [List.all_eq_true] at hs
    have h1 := hs g (List.mem_range.2 hg)
    rw [Array.getElem?_eq_getElem hg] at h1 ⊢
    simpa using h1
   have hmem : slot g ∈ ds := by rw [hds]; exact List.mem_map.2 ⟨g, List.mem_range.2 hg, rfl⟩
   have hlt : slot g < T.size := by
    rw [List.all_eq_true] at hin
    simpa using hin _ hmem
   unfold yielded
   rw [hdst, Option.bind_some, fill_get, if_pos ⟨hmem, hlt⟩]
   cases x (slot g) <;> rfl
  have hgj : ∀ g b, o.guard = some (g, b) → g < ops.size := by
   intro g b hg
   unfold guardsOk at hgd
   rw [List.all_eq_true] at hgd
   have h1 := hgd j (List.mem_range.2 hjl)
   rw [ho] at h1
   dsimp only at h1
   rw [hg] at h1
   have := of_decide_eq_true h1
   omega
  unfold wpOp
  rw [ho]
  dsimp only
  cases hw : Region.wanted o (yielded ops (fill T x ds)) with
  | true =>
    rw [if_pos rfl]
    refine .inl (hS1 ?_ _ fun v W' h k => ⟨v, rfl, h, k⟩)
    intro g b hg
    unfold Region.wanted at hw
    rw [hg] at hw
    dsimp only at hw
    rw [hy g (hgj g b hg)] at hw
    cases hx : x (slot g) with
    | bool c => rw [hx] at hw; simp at hw; rw [hw]
    | _ => rw [hx] at hw; simp at hw
  | false =>
    rw [if_neg (by decide)]
    cases hg : o.guard with
    | none => unfold Region.wanted at hw; rw [hg] at hw; cases hw
    | some p =>
      obtain ⟨g, b⟩ := p
      refine ⟨undef, rfl, hS2 g b hg ?_⟩
      intro hx
      unfold Region.wanted at hw
      rw [hg] at hw
      dsimp only at hw
      rw [hy g (hgj g b hg), hx] at hw
      simp at hw
 refine wp_region_inv hm (fun listed a W => ∃ x, a = ⟨fill T x ds, df⟩ ∧ R w W ∧ ∀ j, j < ops.size → listed.getD j false = true → Val j (x (slot j)) W) ?_ ?_ ?_
 ·exact ⟨fun d => T.getD d undef, by rw [fill_self], hR0, fun j _ h => by rw [getD_rep] at h; cases h⟩
 ·rintro listed a W i hcl ⟨x, rfl, hx, hv⟩ hi
  obtain ⟨hun, o, ho, hdep⟩ := mem_ready.1 hi
  have hilt : i < ops.size := (Array.getElem?_eq_some_iff.1 ho).1
  have hlo : ∀ e ∈ o.after, e.on < ops.size := by
   unfold lowEdges at hlow
   rw [List.all_eq_true] at hlow
   have h1 := hlow i (List.mem_range.2 hilt)
   rw [ho] at h1
   dsimp only at h1
   rw [Array.all_eq_true_iff_forall_mem] at h1
   intro e he
   have := of_decide_eq_true (h1 e he)
   omega
  have hdst : o.dst = some (slot i) := by
   unfold slotsOk at hs
   rw [List.all_eq_true] at hs
   have h1 := hs i (List.mem_range.2 hilt)
   rw [ho] at h1
   simpa using h1
  refine wpOp_mono ?_ (hstep i o x W ho (fun e he hb => hv e.on (hlo e he) (hdep e he hb)) hx)
  rintro a' W' ⟨v, rfl, hval, hx'⟩
  have hmem : slot i ∈ ds := by rw [hds]; exact List.mem_map.2 ⟨i, List.mem_range.2 hilt, rfl⟩
  refine ⟨fun k => if k = slot i then v else x k, by rw [hdst]; simp only [Act.put]; rw [fill_put _ _ _ _ hmem], hRt _ _ _ hx hx', fun j hj hl => ?_⟩
  dsimp only
  by_cases hji : j = i
  ·subst hji; rw [if_pos rfl]; exact hval
  ·have hne : slot j ≠ slot i := by
    unfold slotsApart at hap
    rw [List.all_eq_true] at hap
    have h1 := hap j (List.mem_range.2 hj)
    rw [List.all_eq_true] at h1
    have h2 := h1 i (List.mem_range.2 hilt)
    simpa [hji] using h2
   rw [if_neg hne]
   rw [getD_upd hun, if_neg hji] at hl
   exact hmono _ _ _ _ (hv j hj hl) hx'
 ·rintro listed a W hls hr ⟨x, rfl, hx, hv⟩
  exact hend x W (fun j hj => hv j hj (all_listed hlow hls hr j hj)) hx
/-- Whatever cell was there holds what it held, and below 'base' nothing has turned. -/
structure Grow (base : Nat) (w w' : World) : Prop where
 c : CExt w w'
 below : Below base w w'
theorem Grow.of_ext {base : Nat} {A B : World} (h : Ext A B) (hb : base ≤ A.heap.size) : Grow base A B := ⟨h.c, Below.mono h hb⟩
theorem Grow.trans {base : Nat} {A B C : World} (h : Grow base A B) (k : Grow base B C) : Grow base A C := ⟨⟨Nat.le_trans h.c.size k.c.size, fun hc => k.c.cell (h.c.cell hc)⟩, h.below.trans k.below⟩
/-- An operation that is to be carried out. -/
theorem wpOp_of {i : Nat} {o : Oper} {K : Act → World → Prop} {a : Act} {w : World} (ho : ops[i]? = some o) (hg : Region.wanted o (yielded ops a.tmps) = true) (h : o.wp P a w K Q) : wpOp P ops Q i K a w := by
 unfold wpOp
 rw [ho]
 simp only [hg, if_true]
 exact .inl h
/-- An operation that is passed over. -/
theorem wpOp_skip {i : Nat} {o : Oper} {K : Act → World → Prop} {a : Act} {w : World} (ho : ops[i]? = some o) (hg : Region.wanted o (yielded ops a.tmps) = false) (h : K (a.put o.dst undef) w) : wpOp P ops Q i K a w := by
 unfold wpOp
 rw [ho]
 simp only [hg, Bool.false_eq_true, if_false]
 exact h
end
theorem grow_freeze {base : Nat} (W : World) (b n : Nat) (hb : base ≤ b) : Grow base W (W.freeze ⟨b, n, none⟩ 1) := by
 obtain ⟨f, hW, hfc⟩ : ∃ f : Obj → Obj, W.freeze ⟨b, n, none⟩ 1 = { W with heap := W.heap.modify b f } ∧ ∀ c e fr, ∃ fr', f (Obj.cells c e fr) = .cells c e fr' := by
  unfold World.freeze
  rw [if_neg (by decide)]
  exact ⟨_, rfl, fun c e ⟨lo, hi⟩ => ⟨_, rfl⟩⟩
 rw [hW]
 clear hW
 refine ⟨⟨by simp, ?_⟩, ⟨rfl, rfl, rfl, by simp, ?_⟩⟩
 ·intro p v hc
  unfold World.cell? at hc ⊢
  have hm : (W.heap.modify b f)[p.block]? = if b = p.block then (W.heap[p.block]?).map f else W.heap[p.block]? := Array.getElem?_modify ..
  dsimp only
  rw [hm]
  by_cases hbk : b = p.block
  ·rw [if_pos hbk]
   cases ho : W.heap[p.block]? with
   | none => rw [ho] at hc; cases hc
   | some o =>
     rw [ho] at hc
     cases o with
     | cells c e fr =>
       obtain ⟨fr', h'⟩ := hfc c e fr
       rw [Option.map_some, h']
       exact hc
     | _ => cases hc
  ·rw [if_neg hbk]; exact hc
 ·intro k hk
  simp only [Array.getElem?_modify]
  rw [if_neg (by omega)]
theorem Grow.refl (base : Nat) (W : World) : Grow base W W := ⟨⟨Nat.le_refl _, fun h => h⟩, Below.refl _ _⟩
theorem conv_self {P : Program} {base : Nat} (W : World) (t e : TypeId) (a : Addr) (n c : Nat) (ht : P.underlying t = some (.slice e)) (he : P.underlying e = some (.int .u8)) (hb : base ≤ a.block) :
 ∃ W', (convert t t (.slice (some a) n c)).run P W = .ok (.slice (some a) n c) W' ∧ Grow base W W' := by
 cases hsh : W.shape? a.block with
 | none => exact ⟨W, by simp [convert, run_underlying ht, run_underlying he, markStringish, hsh], Grow.refl _ _⟩
 | some p =>
   obtain ⟨e', k⟩ := p
   refine ⟨W.freeze ⟨a.block, k, none⟩ 1, by simp [convert, run_underlying ht, run_underlying he, markStringish, hsh], grow_freeze W _ _ hb⟩
end Go.Proofs.Ythcnganbnbhhoaa
namespace Go.Proofs.Ythcnganbnbhhoaa
open Go.RowKit
section
variable {P : Program} {ops : Array Oper} {Q : Exit → Act → World → Prop}
/-- Each operation waits for earlier ones alone, as far as it waits. -/
def lowBinds (ops : Array Oper) : Bool := (List.range ops.size).all fun j => match ops[j]? with | some o => o.after.all (fun e => !Region.binds .any e || decide (e.on < j)) | none => true
theorem all_listed' {listed : Array Bool} (hl : lowBinds ops = true) (hs : listed.size = ops.size) (hr : Region.ready .any ops listed = []) : ∀ j, j < ops.size → listed.getD j false = true := by
 intro j
 induction j using Nat.strongRecOn with
 | _ j ih =>
   intro hj
   unfold lowBinds at hl
   rw [List.all_eq_true] at hl
   have h1 := hl j (List.mem_range.2 hj)
   have ho : ops[j]? = some ops[j] := Array.getElem?_eq_getElem hj
   rw [ho] at h1
   dsimp only at h1
   rw [Array.all_eq_true_iff_forall_mem] at h1
   cases hh : listed.getD j false with
   | true => rfl
   | false =>
     have hm : j ∈ Region.ready .any ops listed := mem_ready.2 ⟨by
      have hj' : j < listed.size := by omega
      simpa [Array.getD, hj'] using hh, _, ho, fun e he hb => by
       have h2 := h1 e he
       rw [hb, Bool.not_true, Bool.false_or] at h2
       have := of_decide_eq_true h2
       exact ih _ this (by omega)⟩
     rw [hr] at hm
     cases hm
/-- wp_region_vals, where edges that bind only the garbage collection may lead on. -/
theorem wp_region_vals' {id : Nat} {T : Array Value} {df : List Deferred} {w : World} (hm : P.follows .mixedOrders = true)
 (slot : Nat → Nat) (Val : Nat → Value → World → Prop) (ds : List Nat) (hds : ds = (List.range ops.size).map slot) (hs : slotsOk ops slot = true) (hap : slotsApart ops.size slot = true) (hlow : lowBinds ops = true)
 (hgd : guardsOk ops = true) (hin : ds.all (fun d => decide (d < T.size)) = true)
 (R : World → World → Prop) (hR0 : R w w.drew) (hRt : ∀ A B C, R A B → R B C → R A C)
 (hmono : ∀ j v A B, Val j v A → R A B → Val j v B)
 (hsteps : stepsAll (RegStep P Q T df ds slot Val R w) 0 ops.toList)
 (hend : ∀ x W, (∀ j, j < ops.size → Val j (x (slot j)) W) → R w W → Q .normal ⟨fill T x ds, df⟩ W) : (Code.region id ops true).wp P Q ⟨T, df⟩ w := by
 have hstep : ∀ j o x W, ops[j]? = some o → (∀ e ∈ o.after, Region.binds .any e = true → Val e.on (x (slot e.on)) W) → R w W →
  wpOp P ops Q j (fun a' W' => ∃ v, a' = Act.put ⟨fill T x ds, df⟩ o.dst v ∧ Val j v W' ∧ R W W') ⟨fill T x ds, df⟩ W := by
  intro j o x W ho hd hR
  have hS := stepsAll_get ops.toList 0 hsteps j o (by simpa using ho)
  rw [Nat.zero_add] at hS
  obtain ⟨hS1, hS2⟩ := hS x W hd hR
  have hjl : j < ops.size := (Array.getElem?_eq_some_iff.1 ho).1
  have hy : ∀ g, g < ops.size → yielded ops (fill T x ds) g = match x (slot g) with | .bool b => some b | _ => none := by
   intro g hg
   have hdst : (ops[g]?).bind (·.dst) = some (slot g) := by
    unfold slotsOk at hs
    rw [List.all_eq_true] at hs
    have h1 := hs g (List.mem_range.2 hg)
    rw [Array.getElem?_eq_getElem hg] at h1 ⊢
    simpa using h1
   have hmem : slot g ∈ ds := by rw [hds]; exact List.mem_map.2 ⟨g, List.mem_range.2 hg, rfl⟩
   have hlt : slot g < T.size := by
    rw [List.all_eq_true] at hin
    simpa using hin _ hmem
   unfold yielded
   rw [hdst, Option.bind_some, fill_get, if_pos ⟨hmem, hlt⟩]
   cases x (slot g) <;> rfl
  have hgj : ∀ g b, o.guard = some (g, b) → g < ops.size := by
   intro g b hg
   unfold guardsOk at hgd
   rw [List.all_eq_true] at hgd
   have h1 := hgd j (List.mem_range.2 hjl)
   rw [ho] at h1
   dsimp only at h1
   rw [hg] at h1
   have := of_decide_eq_true h1
   omega
  unfold wpOp
  rw [ho]
  dsimp only
  cases hw : Region.wanted o (yielded ops (fill T x ds)) with
  | true =>
    rw [if_pos rfl]
    refine .inl (hS1 ?_ _ fun v W' h k => ⟨v, rfl, h, k⟩)
    intro g b hg
    unfold Region.wanted at hw
    rw [hg] at hw
    dsimp only at hw
    rw [hy g (hgj g b hg)] at hw
    cases hx : x (slot g) with
    | bool c => rw [hx] at hw; simp at hw; rw [hw]
    | _ => rw [hx] at hw; simp at hw
  | false =>
    rw [if_neg (by decide)]
    cases hg : o.guard with
    | none => unfold Region.wanted at hw; rw [hg] at hw; cases hw
    | some p =>
      obtain ⟨g, b⟩ := p
      refine ⟨undef, rfl, hS2 g b hg ?_⟩
      intro hx
      unfold Region.wanted at hw
      rw [hg] at hw
      dsimp only at hw
      rw [hy g (hgj g b hg), hx] at hw
      simp at hw
 refine wp_region_inv hm (fun listed a W => ∃ x, a = ⟨fill T x ds, df⟩ ∧ R w W ∧ ∀ j, j < ops.size → listed.getD j false = true → Val j (x (slot j)) W) ?_ ?_ ?_
 ·exact ⟨fun d => T.getD d undef, by rw [fill_self], hR0, fun j _ h => by rw [getD_rep] at h; cases h⟩
 ·rintro listed a W i hcl ⟨x, rfl, hx, hv⟩ hi
  obtain ⟨hun, o, ho, hdep⟩ := mem_ready.1 hi
  have hilt : i < ops.size := (Array.getElem?_eq_some_iff.1 ho).1
  have hlo : ∀ e ∈ o.after, Region.binds .any e = true → e.on < ops.size := by
   unfold lowBinds at hlow
   rw [List.all_eq_true] at hlow
   have h1 := hlow i (List.mem_range.2 hilt)
   rw [ho] at h1
   dsimp only at h1
   rw [Array.all_eq_true_iff_forall_mem] at h1
   intro e he hb
   have h2 := h1 e he
   rw [hb, Bool.not_true, Bool.false_or] at h2
   have := of_decide_eq_true h2
   omega
  have hdst : o.dst = some (slot i) := by
   unfold slotsOk at hs
   rw [List.all_eq_true] at hs
   have h1 := hs i (List.mem_range.2 hilt)
   rw [ho] at h1
   simpa using h1
  refine wpOp_mono ?_ (hstep i o x W ho (fun e he hb => hv e.on (hlo e he hb) (hdep e he hb)) hx)
  rintro a' W' ⟨v, rfl, hval, hx'⟩
  have hmem : slot i ∈ ds := by rw [hds]; exact List.mem_map.2 ⟨i, List.mem_range.2 hilt, rfl⟩
  refine ⟨fun k => if k = slot i then v else x k, by rw [hdst]; simp only [Act.put]; rw [fill_put _ _ _ _ hmem], hRt _ _ _ hx hx', fun j hj hl => ?_⟩
  dsimp only
  by_cases hji : j = i
  ·subst hji; rw [if_pos rfl]; exact hval
  ·have hne : slot j ≠ slot i := by
    unfold slotsApart at hap
    rw [List.all_eq_true] at hap
    have h1 := hap j (List.mem_range.2 hj)
    rw [List.all_eq_true] at h1
    have h2 := h1 i (List.mem_range.2 hilt)
    simpa [hji] using h2
   rw [if_neg hne]
   rw [getD_upd hun, if_neg hji] at hl
   exact hmono _ _ _ _ (hv j hj hl) hx'
 ·rintro listed a W hls hr ⟨x, rfl, hx, hv⟩
  exact hend x W (fun j hj => hv j hj (all_listed' hlow hls hr j hj)) hx
end
/-- Temporaries of which the named ones hold these values. -/
def fillL (T : Array Value) : List Nat → List Value → Array Value
 | d :: ds, y :: ys => (fillL T ds ys).setIfInBounds d y
 | _, _ => T
theorem fillL_eq (T : Array Value) (x : Nat → Value) : ∀ (ds : List Nat) (ys : List Value), ds.length = ys.length → (∀ j, j < ds.length → x (ds.getD j 0) = ys.getD j undef) → fill T x ds = fillL T ds ys
 | [], [], _, _ => rfl
 | d :: ds, y :: ys, hl, h => by
   rw [fill, fillL, fillL_eq T x ds ys (by simpa using hl) (fun j hj => by have := h (j + 1) (by simp; omega); simpa using this)]
   have := h 0 (by simp)
   simp only [List.getD_cons_zero] at this
   rw [this]
 | [], y :: ys, hl, _ => by simp at hl
 | d :: ds, [], hl, _ => by simp at hl
theorem wp_region_det (slots : List Nat) (ys : List Value) {P : Program} {ops : Array Oper} {Q : Exit → Act → World → Prop} {id : Nat} {T : Array Value} {df : List Deferred} {w : World} (hm : P.follows .mixedOrders = true)
 (hds : slots = (List.range ops.size).map (fun j => slots.getD j 0)) (hly : slots.length = ys.length) (hs : slotsOk ops (fun j => slots.getD j 0) = true) (hap : slotsApart ops.size (fun j => slots.getD j 0) = true) (hlow : lowBinds ops = true)
 (hgd : guardsOk ops = true) (hin : slots.all (fun d => decide (d < T.size)) = true)
 (hsteps : stepsAll (RegStep P Q T df slots (fun j => slots.getD j 0) (fun j v _ => v = ys.getD j undef) Ext w) 0 ops.toList)
 (hend : ∀ W, Ext w W → Q .normal ⟨fillL T slots ys, df⟩ W) : (Code.region id ops true).wp P Q ⟨T, df⟩ w :=
 wp_region_vals' hm (fun j => slots.getD j 0) (fun j v _ => v = ys.getD j undef) slots hds hs hap hlow hgd hin Ext ((Ext.refl w).drew) (fun _ _ _ h k => h.trans k) (fun _ _ _ _ h _ => h) hsteps fun x W hv hR => by
  rw [fillL_eq T x slots ys hly (fun j hj => hv j (by rw [hds] at hj; simpa using hj))]
  exact hend W hR
end Go.Proofs.Ythcnganbnbhhoaa
namespace Go.Proofs.Ythcnganbnbhhoaa
open Go.RowKit
/-- What is told of a slot: its value, or a word that holds of it (and goes on to hold while memory grows). -/
inductive Ent where
 | is (v : Value)
 | so (p : Value → World → Prop)
def Ent.holds : Ent → Value → World → Prop
 | .is c, v, _ => v = c
 | .so p, v, w => p v w
def Ent.keeps : Ent → Prop
 | .is _ => True
 | .so p => ∀ v A B, p v A → Ext A B → p v B
def keepsAll : List Ent → Prop
 | [] => True
 | e :: l => e.keeps ∧ keepsAll l
def Ent.plain : Ent → Bool
 | .is _ => true
 | .so _ => false
theorem keepsIs : ∀ (l : List Ent), l.all Ent.plain = true → keepsAll l
 | [], _ => trivial
 | .is _ :: l, h => ⟨trivial, keepsIs l (by simpa [Ent.plain] using h)⟩
 | .so _ :: l, h => by simp [Ent.plain] at h
theorem keepsAll_get : ∀ (l : List Ent) (j : Nat), keepsAll l → (l.getD j (.is undef)).keeps
 | [], j, _ => by simp [Ent.keeps]
 | e :: l, 0, h => h.1
 | e :: l, j + 1, h => by rw [List.getD_cons_succ]; exact keepsAll_get l j h.2
theorem Ent.hold_on {e : Ent} (h : e.keeps) {v : Value} {A B : World} (k : e.holds v A) (x : Ext A B) : e.holds v B := by
 cases e with
 | is c => exact k
 | so p => exact h v A B k x
/-- Temporaries: the known values, and x's where only a word is told. -/
def fillX (T : Array Value) (x : Nat → Value) : List Nat → List Ent → Array Value
 | d :: ds, .is y :: ys => (fillX T x ds ys).setIfInBounds d y
 | d :: ds, .so _ :: ys => (fillX T x ds ys).setIfInBounds d (x d)
 | _, _ => T
def toldX (x : Nat → Value) (w : World) : List Nat → List Ent → Prop
 | _ :: ds, .is _ :: ys => toldX x w ds ys
 | d :: ds, .so p :: ys => p (x d) w ∧ toldX x w ds ys
 | _, _ => True
theorem fillX_eq (T : Array Value) (x : Nat → Value) (w : World) : ∀ (ds : List Nat) (ys : List Ent), ds.length = ys.length → (∀ j, j < ds.length → (ys.getD j (.is undef)).holds (x (ds.getD j 0)) w) → fill T x ds = fillX T x ds ys ∧ toldX x w ds ys
 | [], [], _, _ => ⟨rfl, trivial⟩
 | d :: ds, .is y :: ys, hl, h => by
   obtain ⟨h1, h2⟩ := fillX_eq T x w ds ys (by simpa using hl) (fun j hj => by have := h (j + 1) (by simp; omega); simpa using this)
   have h0 := h 0 (by simp)
   simp only [List.getD_cons_zero, Ent.holds] at h0
   exact ⟨by rw [fill, fillX, h1, h0], h2⟩
 | d :: ds, .so p :: ys, hl, h => by
   obtain ⟨h1, h2⟩ := fillX_eq T x w ds ys (by simpa using hl) (fun j hj => by have := h (j + 1) (by simp; omega); simpa using this)
   have h0 := h 0 (by simp)
   simp only [List.getD_cons_zero, Ent.holds] at h0
   exact ⟨by rw [fill, fillX, h1], h0, h2⟩
 | [], y :: ys, hl, _ => by simp at hl
 | d :: ds, [], hl, _ => by simp at hl
theorem wp_region_x (slots : List Nat) (ys : List Ent) {P : Program} {ops : Array Oper} {Q : Exit → Act → World → Prop} {id : Nat} {T : Array Value} {df : List Deferred} {w : World} (hm : P.follows .mixedOrders = true)
 (hds : slots = (List.range ops.size).map (fun j => slots.getD j 0)) (hly : slots.length = ys.length) (hs : slotsOk ops (fun j => slots.getD j 0) = true) (hap : slotsApart ops.size (fun j => slots.getD j 0) = true) (hlow : lowBinds ops = true)
 (hgd : guardsOk ops = true) (hin : slots.all (fun d => decide (d < T.size)) = true) (hk : keepsAll ys)
 (hsteps : stepsAll (RegStep P Q T df slots (fun j => slots.getD j 0) (fun j v w => (ys.getD j (.is undef)).holds v w) Ext w) 0 ops.toList)
 (hend : ∀ x W, toldX x W slots ys → Ext w W → Q .normal ⟨fillX T x slots ys, df⟩ W) : (Code.region id ops true).wp P Q ⟨T, df⟩ w :=
 wp_region_vals' hm (fun j => slots.getD j 0) (fun j v w => (ys.getD j (.is undef)).holds v w) slots hds hs hap hlow hgd hin Ext ((Ext.refl w).drew) (fun _ _ _ h k => h.trans k) (fun j _ _ _ h k => Ent.hold_on (keepsAll_get ys j hk) h k) hsteps fun x W hv hR => by
  obtain ⟨h1, h2⟩ := fillX_eq T x W slots ys hly (fun j hj => hv j (by rw [hds] at hj; simpa using hj))
  rw [h1]
  exact hend x W h2 hR
end Go.Proofs.Ythcnganbnbhhoaa
namespace Go.Proofs.Ythcnganbnbhhoaa
open Go.RowKit
/-- What these slots hold. -/
def fixedAt (F : Array Value) : List (Nat × Value) → Prop
 | [] => True
 | p :: l => F.getD p.1 undef = p.2 ∧ fixedAt F l
theorem fill_getD (T : Array Value) (x : Nat → Value) (ds : List Nat) (i : Nat) : (fill T x ds).getD i undef = if i ∈ ds ∧ i < T.size then x i else T.getD i undef := by
 rw [Array.getD_eq_getD_getElem?, fill_get]
 split
 ·rfl
 ·rw [← Array.getD_eq_getD_getElem?]
theorem fixed_fill (T : Array Value) (x : Nat → Value) (ds : List Nat) : ∀ (fx : List (Nat × Value)), (fx.all fun p => !ds.contains p.1) = true → fixedAt T fx → fixedAt (fill T x ds) fx
 | [], _, _ => trivial
 | p :: l, ho, h => by
   rw [List.all_cons, Bool.and_eq_true] at ho
   have h1 : ¬ p.1 ∈ ds := by
    have := ho.1
    simpa using this
   exact ⟨by rw [fill_getD, if_neg (fun hh => h1 hh.1)]; exact h.1, fixed_fill T x ds l ho.2 h.2⟩
/-- What is to be shown of an operation. -/
def RegStepF (P : Program) (Q : Exit → Act → World → Prop) (df : List Deferred) (slot : Nat → Nat) (Val : Nat → Value → World → Prop) (fx : List (Nat × Value)) (w : World) (j : Nat) (o : Oper) : Prop :=
 ∀ F W, fixedAt F fx → (∀ e ∈ o.after, Region.binds .any e = true → Val e.on (F.getD (slot e.on) undef) W) → Ext w W →
   ((∀ g b, o.guard = some (g, b) → F.getD (slot g) undef = .bool b) → ∀ K, (∀ v W', Val j v W' → Ext W W' → K (Act.put ⟨F, df⟩ o.dst v) W') → o.wp P ⟨F, df⟩ W K Q) ∧
   (∀ g b, o.guard = some (g, b) → F.getD (slot g) undef ≠ .bool b → Val j undef W ∧ Ext W W)
/-- Each operation that is waited for stands before. -/
theorem stepsF (P : Program) (Q : Exit → Act → World → Prop) (T : Array Value) (df : List Deferred) (ds : List Nat) (slot : Nat → Nat) (Val : Nat → Value → World → Prop) (fx : List (Nat × Value)) (w : World) (N : Nat)
 (hd : ∀ j, j < N → slot j ∈ ds ∧ slot j < T.size) (hfx : fixedAt T fx) (hout : (fx.all fun p => !ds.contains p.1) = true) :
 ∀ (l : List Oper) (i : Nat), (∀ o ∈ l, (∀ e ∈ o.after, Region.binds .any e = true → e.on < N) ∧ (∀ g b, o.guard = some (g, b) → g < N)) → stepsAll (RegStepF P Q df slot Val fx w) i l → stepsAll (RegStep P Q T df ds slot Val Ext w) i l
 | [], _, _, _ => trivial
 | o :: l, i, hw, h => by
   obtain ⟨hw1, hw2⟩ := hw o (by simp)
   refine ⟨fun x W he hR => ?_, stepsF P Q T df ds slot Val fx w N hd hfx hout l (i + 1) (fun o' ho' => hw o' (by simp [ho'])) h.2⟩
   have hg : ∀ k, k < N → (fill T x ds).getD (slot k) undef = x (slot k) := fun k hk => by rw [fill_getD, if_pos (hd k hk)]
   obtain ⟨h1, h2⟩ := h.1 (fill T x ds) W (fixed_fill T x ds fx hout hfx) (fun e he1 he2 => by rw [hg _ (hw1 e he1 he2)]; exact he e he1 he2) hR
   exact ⟨fun hgd => h1 (fun g b hgb => by rw [hg _ (hw2 g b hgb)]; exact hgd g b hgb), fun g b hgb hn => h2 g b hgb (by rw [hg _ (hw2 g b hgb)]; exact hn)⟩
/-- Each wait and each guard looks at operations of the region. -/
def waitsOk (ops : Array Oper) : Bool := ops.toList.all fun o => o.after.all (fun e => decide (e.on < ops.size)) && (match o.guard with | some (g, _) => decide (g < ops.size) | none => true)
theorem waitsOk_get {ops : Array Oper} (h : waitsOk ops = true) : ∀ o ∈ ops.toList, (∀ e ∈ o.after, Region.binds .any e = true → e.on < ops.size) ∧ (∀ g b, o.guard = some (g, b) → g < ops.size) := by
 intro o ho
 unfold waitsOk at h
 rw [List.all_eq_true] at h
 have h1 := h o ho
 rw [Bool.and_eq_true, Array.all_eq_true_iff_forall_mem] at h1
 refine ⟨fun e he _ => by simpa using h1.1 e he, fun g b hg => ?_⟩
 have h2 := h1.2
 rw [hg] at h2
 simpa using h2
theorem wp_region_f (slots : List Nat) (ys : List Ent) (fx : List (Nat × Value)) {P : Program} {ops : Array Oper} {Q : Exit → Act → World → Prop} {id : Nat} {T : Array Value} {df : List Deferred} {w : World} (hm : P.follows .mixedOrders = true)
 (hds : slots = (List.range ops.size).map (fun j => slots.getD j 0)) (hly : slots.length = ys.length) (hs : slotsOk ops (fun j => slots.getD j 0) = true) (hap : slotsApart ops.size (fun j => slots.getD j 0) = true) (hlow : lowBinds ops = true)
 (hgd : guardsOk ops = true) (hin : slots.all (fun d => decide (d < T.size)) = true) (hwo : waitsOk ops = true) (hout : (fx.all fun p => !slots.contains p.1) = true) (hk : keepsAll ys) (hfx : fixedAt T fx)
 (hsteps : stepsAll (RegStepF P Q df (fun j => slots.getD j 0) (fun j v w => (ys.getD j (.is undef)).holds v w) fx w) 0 ops.toList)
 (hend : ∀ x W, toldX x W slots ys → Ext w W → Q .normal ⟨fillX T x slots ys, df⟩ W) : (Code.region id ops true).wp P Q ⟨T, df⟩ w := by
 refine wp_region_x slots ys hm hds hly hs hap hlow hgd hin hk ?_ hend
 refine stepsF P Q T df slots _ _ fx w ops.size (fun j hj => ?_) hfx hout ops.toList 0 (waitsOk_get hwo) hsteps
 have hm : (fun j => slots.getD j 0) j ∈ slots := by
  have : (fun j => slots.getD j 0) j ∈ (List.range ops.size).map (fun j => slots.getD j 0) := List.mem_map.2 ⟨j, List.mem_range.2 hj, rfl⟩
  rw [← hds] at this
  exact this
 refine ⟨hm, ?_⟩
 rw [List.all_eq_true] at hin
 simpa using hin _ hm
end Go.Proofs.Ythcnganbnbhhoaa
namespace Go.Proofs.Ythcnganbnbhhoaa
open Go.RowKit
section
variable {P : Program} {ops : Array Oper} {Q : Exit → Act → World → Prop}
theorem reg_one {T : Array Value} {df : List Deferred} (slot : Nat → Nat) (Val : Nat → Value → World → Prop) (ds : List Nat) (hds : ds = (List.range ops.size).map slot) (hs : slotsOk ops slot = true)
 (hgd : guardsOk ops = true) (hin : ds.all (fun d => decide (d < T.size)) = true) (R : World → World → Prop) {w : World} {j : Nat} {o : Oper} (ho : ops[j]? = some o) (hS : RegStep P Q T df ds slot Val R w j o)
 (x : Nat → Value) (W : World) (hd : ∀ e ∈ o.after, Region.binds .any e = true → Val e.on (x (slot e.on)) W) (hR : R w W) (K : Act → World → Prop)
 (hK : ∀ v W', Val j v W' → R W W' → K (Act.put ⟨fill T x ds, df⟩ o.dst v) W') :
 if Region.wanted o (yielded ops (fill T x ds)) then o.wp P ⟨fill T x ds, df⟩ W K Q else K (Act.put ⟨fill T x ds, df⟩ o.dst undef) W := by
 obtain ⟨hS1, hS2⟩ := hS x W hd hR
 have hjl : j < ops.size := (Array.getElem?_eq_some_iff.1 ho).1
 have hy : ∀ g, g < ops.size → yielded ops (fill T x ds) g = match x (slot g) with | .bool b => some b | _ => none := by
  intro g hg
  have hdst : (ops[g]?).bind (·.dst) = some (slot g) := by
   unfold slotsOk at hs
   rw [List.all_eq_true] at hs
   have h1 := hs g (List.mem_range.2 hg)
   rw [Array.getElem?_eq_getElem hg] at h1 ⊢
   simpa using h1
  have hmem : slot g ∈ ds := by rw [hds]; exact List.mem_map.2 ⟨g, List.mem_range.2 hg, rfl⟩
  have hlt : slot g < T.size := by
   rw [List.all_eq_true] at hin
   simpa using hin _ hmem
  unfold yielded
  rw [hdst, Option.bind_some, fill_get, if_pos ⟨hmem, hlt⟩]
  cases x (slot g) <;> rfl
 have hgj : ∀ g b, o.guard = some (g, b) → g < ops.size := by
  intro g b hg
  unfold guardsOk at hgd
  rw [List.all_eq_true] at hgd
  have h1 := hgd j (List.mem_range.2 hjl)
  rw [ho] at h1
  dsimp only at h1
  rw [hg] at h1
  have := of_decide_eq_true h1
  omega
 cases hw : Region.wanted o (yielded ops (fill T x ds)) with
 | true =>
   rw [if_pos rfl]
   refine hS1 ?_ _ hK
   intro g b hg
   unfold Region.wanted at hw
   rw [hg] at hw
   dsimp only at hw
   rw [hy g (hgj g b hg)] at hw
   cases hx : x (slot g) with
   | bool c => rw [hx] at hw; simp at hw; rw [hw]
   | _ => rw [hx] at hw; simp at hw
 | false =>
   rw [if_neg (by decide)]
   cases hg : o.guard with
   | none => unfold Region.wanted at hw; rw [hg] at hw; cases hw
   | some p =>
     obtain ⟨g, b⟩ := p
     have h2 := hS2 g b hg (by
      intro hx
      unfold Region.wanted at hw
      rw [hg] at hw
      dsimp only at hw
      rw [hy g (hgj g b hg), hx] at hw
      simp at hw)
     exact hK _ _ h2.1 h2.2
/-- Each operation waits for earlier ones alone. -/
theorem wpList_vals {T : Array Value} {df : List Deferred} {w : World} (slot : Nat → Nat) (Val : Nat → Value → World → Prop) (ds : List Nat) (hds : ds = (List.range ops.size).map slot) (hs : slotsOk ops slot = true) (hap : slotsApart ops.size slot = true)
 (hlow : lowBinds ops = true) (hgd : guardsOk ops = true) (hin : ds.all (fun d => decide (d < T.size)) = true) (R : World → World → Prop) (hRt : ∀ A B C, R A B → R B C → R A C)
 (hmono : ∀ j v A B, Val j v A → R A B → Val j v B) (hsteps : stepsAll (RegStep P Q T df ds slot Val R w) 0 ops.toList)
 (hend : ∀ x W, (∀ j, j < ops.size → Val j (x (slot j)) W) → R w W → Q .normal ⟨fill T x ds, df⟩ W) :
 ∀ (l : List Oper) (i : Nat), ops.toList.drop i = l → i + l.length = ops.size → ∀ x W, (∀ j, j < i → Val j (x (slot j)) W) → R w W → wpList P ops Q l ⟨fill T x ds, df⟩ W
 | [], i, _, hn, x, W, hv, hR => wpList_nil (hend x W (fun j hj => hv j (by simp at hn; omega)) hR)
 | o :: l, i, hl, hn, x, W, hv, hR => by
   have hil : i < ops.size := by simp at hn; omega
   have hoi : ops.toList[i]? = some o := by
    have := congrArg (fun l => l[0]?) hl
    simpa using this
   have ho : ops[i]? = some o := by simpa using hoi
   have hS := stepsAll_get ops.toList 0 hsteps i o hoi
   rw [Nat.zero_add] at hS
   have hlo : ∀ e ∈ o.after, Region.binds .any e = true → e.on < i := by
    unfold lowBinds at hlow
    rw [List.all_eq_true] at hlow
    have h1 := hlow i (List.mem_range.2 hil)
    rw [ho] at h1
    dsimp only at h1
    rw [Array.all_eq_true_iff_forall_mem] at h1
    intro e he hb
    have h2 := h1 e he
    rw [hb, Bool.not_true, Bool.false_or] at h2
    exact of_decide_eq_true h2
   have hdst : o.dst = some (slot i) := by
    unfold slotsOk at hs
    rw [List.all_eq_true] at hs
    have h1 := hs i (List.mem_range.2 hil)
    rw [ho] at h1
    simpa using h1
   have hmem : slot i ∈ ds := by rw [hds]; exact List.mem_map.2 ⟨i, List.mem_range.2 hil, rfl⟩
   refine wpList_step fun K hK => reg_one slot Val ds hds hs hgd hin R ho hS x W (fun e he hb => hv e.on (hlo e he hb)) hR K fun v W' hval hx' => ?_
   refine hK _ _ ?_
   rw [hdst]
   simp only [Act.put]
   rw [fill_put _ _ _ _ hmem]
   refine wpList_vals slot Val ds hds hs hap hlow hgd hin R hRt hmono hsteps hend l (i + 1) (by rw [← List.drop_drop, hl]; rfl) (by simp at hn; omega) _ W' (fun j hj => ?_) (hRt _ _ _ hR hx')
   by_cases hji : j = i
   ·subst hji; rw [if_pos rfl]; exact hval
   ·have hne : slot j ≠ slot i := by
     unfold slotsApart at hap
     rw [List.all_eq_true] at hap
     have h1 := hap j (List.mem_range.2 (by omega))
     rw [List.all_eq_true] at h1
     have h2 := h1 i (List.mem_range.2 hil)
     simpa [hji] using h2
    rw [if_neg hne]
    exact hmono _ _ _ _ (hv j (by omega)) hx'
end
theorem wp_region_s (slots : List Nat) (ys : List Ent) (fx : List (Nat × Value)) {P : Program} {ops : Array Oper} {Q : Exit → Act → World → Prop} {id : Nat} {T : Array Value} {df : List Deferred} {w : World}
 (hds : slots = (List.range ops.size).map (fun j => slots.getD j 0)) (hly : slots.length = ys.length) (hs : slotsOk ops (fun j => slots.getD j 0) = true) (hap : slotsApart ops.size (fun j => slots.getD j 0) = true) (hlow : lowBinds ops = true)
 (hgd : guardsOk ops = true) (hin : slots.all (fun d => decide (d < T.size)) = true) (hwo : waitsOk ops = true) (hout : (fx.all fun p => !slots.contains p.1) = true) (hk : keepsAll ys) (hfx : fixedAt T fx)
 (hsteps : stepsAll (RegStepF P Q df (fun j => slots.getD j 0) (fun j v w => (ys.getD j (.is undef)).holds v w) fx w) 0 ops.toList)
 (hend : ∀ x W, toldX x W slots ys → Ext w W → Q .normal ⟨fillX T x slots ys, df⟩ W) : (Code.region id ops false).wp P Q ⟨T, df⟩ w := by
 have hst := stepsF P Q T df slots (fun j => slots.getD j 0) (fun j v w => (ys.getD j (.is undef)).holds v w) fx w ops.size (fun j hj => by
  have hm : (fun j => slots.getD j 0) j ∈ slots := by
   have : (fun j => slots.getD j 0) j ∈ (List.range ops.size).map (fun j => slots.getD j 0) := List.mem_map.2 ⟨j, List.mem_range.2 hj, rfl⟩
   rw [← hds] at this
   exact this
  refine ⟨hm, ?_⟩
  have hin' := hin
  rw [List.all_eq_true] at hin'
  simpa using hin' _ hm) hfx hout ops.toList 0 (waitsOk_get hwo) hsteps
 refine wp_region_list ?_
 have h := wpList_vals (T := T) (df := df) (w := w) (fun j => slots.getD j 0) (fun j v w => (ys.getD j (.is undef)).holds v w) slots hds hs hap hlow hgd hin Ext (fun _ _ _ h k => h.trans k) (fun j _ _ _ h k => Ent.hold_on (keepsAll_get ys j hk) h k) hst (fun x W hv hR => by
  obtain ⟨h1, h2⟩ := fillX_eq T x W slots ys hly (fun j hj => hv j (by rw [hds] at hj; simpa using hj))
  rw [h1]
  exact hend x W h2 hR) ops.toList 0 (by simp) (by simp) (fun d => T.getD d undef) w (fun j hj => absurd hj (by omega)) (Ext.refl w)
 rw [fill_self] at h
 exact h
end Go.Proofs.Ythcnganbnbhhoaa
namespace Go.Proofs.Ythcnganbnbhhoaa
open Go.RowKit
section
variable {P : Program} {ops : Array Oper} {Q : Exit → Act → World → Prop}
def hasEdge (ops : Array Oper) (i j : Nat) : Bool := match ops[i]? with | some o => o.after.any (fun e => Region.binds .any e && decide (e.on = j)) | none => false
def slotsOkN (ops : Array Oper) (N : Nat) (slot : Nat → Nat) : Bool := (List.range N).all fun j => match ops[j]? with | some o => o.dst == some (slot j) | none => false
/-- The operation N waits for all before it, by one way or another. -/
def domOk (ops : Array Oper) (N : Nat) : Bool := (List.range N).all fun j => (List.range (N + 1)).any fun i => decide (j < i) && hasEdge ops i j
/-- Each operation behind N waits for the one before it. -/
def chainOk (ops : Array Oper) (N : Nat) : Bool := (List.range ops.size).all fun m => decide (m ≤ N) || hasEdge ops m (m - 1)
theorem hasEdge_listed {listed : Array Bool} {i j : Nat} (h : hasEdge ops i j = true) {o : Oper} (ho : ops[i]? = some o) (hall : ∀ e ∈ o.after, Region.binds .any e = true → listed.getD e.on false = true) : listed.getD j false = true := by
 unfold hasEdge at h
 rw [ho] at h
 dsimp only at h
 rw [Array.any_eq_true'] at h
 obtain ⟨e, he, hb⟩ := h
 rw [Bool.and_eq_true] at hb
 have := hall e he hb.1
 rwa [of_decide_eq_true hb.2] at this
theorem dom_listed {listed : Array Bool} {N : Nat} (hd : domOk ops N = true) (hcl : Closed .any ops listed) {o : Oper} (ho : ops[N]? = some o) (hall : ∀ e ∈ o.after, Region.binds .any e = true → listed.getD e.on false = true) :
 ∀ k j, N - j ≤ k → j < N → listed.getD j false = true := by
 intro k
 induction k with
 | zero => intro j h1 h2; omega
 | succ k ih =>
   intro j h1 h2
   unfold domOk at hd
   rw [List.all_eq_true] at hd
   have h3 := hd j (List.mem_range.2 h2)
   rw [List.any_eq_true] at h3
   obtain ⟨i, hi, hb⟩ := h3
   rw [Bool.and_eq_true] at hb
   have hji := of_decide_eq_true hb.1
   have hiN := List.mem_range.1 hi
   by_cases hin : i = N
   ·subst hin
    exact hasEdge_listed hb.2 ho hall
   ·have hli := ih i (by omega) (by omega)
    have hlt : i < ops.size := by have := (Array.getElem?_eq_some_iff.1 ho).1; omega
    exact hasEdge_listed hb.2 (Array.getElem?_eq_getElem hlt) (hcl i _ (Array.getElem?_eq_getElem hlt) hli)
theorem wp_region_tail {id : Nat} {T : Array Value} {df : List Deferred} {w : World} (hm : P.follows .mixedOrders = true) (N : Nat) (hN : N < ops.size)
 (slot : Nat → Nat) (Val : Nat → Value → World → Prop) (ds : List Nat) (hds : ds = (List.range N).map slot) (hs : slotsOkN ops N slot = true) (hap : slotsApart N slot = true) (hlow : lowEdges ops = true)
 (hgd : guardsOk ops = true) (hin : ds.all (fun d => decide (d < T.size)) = true) (hdom : domOk ops N = true) (hch : chainOk ops N = true)
 (R : World → World → Prop) (hR0 : R w w.drew) (hRt : ∀ A B C, R A B → R B C → R A C)
 (hmono : ∀ j v A B, Val j v A → R A B → Val j v B)
 (hsteps : stepsAll (RegStep P Q T df ds slot Val R w) 0 (ops.toList.take N))
 (htail : ∀ x W, (∀ j, j < N → Val j (x (slot j)) W) → R w W → wpList P ops Q (ops.toList.drop N) ⟨fill T x ds, df⟩ W) : (Code.region id ops true).wp P Q ⟨T, df⟩ w := by
 have hstep : ∀ j o x W, j < N → ops[j]? = some o → (∀ e ∈ o.after, Region.binds .any e = true → Val e.on (x (slot e.on)) W) → R w W →
  wpOp P ops Q j (fun a' W' => ∃ v, a' = Act.put ⟨fill T x ds, df⟩ o.dst v ∧ Val j v W' ∧ R W W') ⟨fill T x ds, df⟩ W := by
  intro j o x W hjN ho hd hR
  have hS := stepsAll_get (ops.toList.take N) 0 hsteps j o (by rw [List.getElem?_take, if_pos hjN]; simpa using ho)
  rw [Nat.zero_add] at hS
  obtain ⟨hS1, hS2⟩ := hS x W hd hR
  have hjl : j < ops.size := (Array.getElem?_eq_some_iff.1 ho).1
  have hy : ∀ g, g < N → yielded ops (fill T x ds) g = match x (slot g) with | .bool b => some b | _ => none := by
   intro g hg
   have hgs : g < ops.size := by omega
   have hdst : (ops[g]?).bind (·.dst) = some (slot g) := by
    unfold slotsOkN at hs
    rw [List.all_eq_true] at hs
    have h1 := hs g (List.mem_range.2 hg)
    rw [Array.getElem?_eq_getElem hgs] at h1 ⊢
    simpa using h1
   have hmem : slot g ∈ ds := by rw [hds]; exact List.mem_map.2 ⟨g, List.mem_range.2 hg, rfl⟩
   have hlt : slot g < T.size := by
    rw [List.all_eq_true] at hin
    simpa using hin _ hmem
   unfold yielded
   rw [hdst, Option.bind_some, fill_get, if_pos ⟨hmem, hlt⟩]
   cases x (slot g) <;> rfl
  have hgj : ∀ g b, o.guard = some (g, b) → g < N := by
   intro g b hg
   unfold guardsOk at hgd
   rw [List.all_eq_true] at hgd
   have h1 := hgd j (List.mem_range.2 hjl)
   rw [ho] at h1
   dsimp only at h1
   rw [hg] at h1
   have := of_decide_eq_true h1
   omega
  unfold wpOp
  rw [ho]
  dsimp only
  cases hw : Region.wanted o (yielded ops (fill T x ds)) with
  | true =>
    rw [if_pos rfl]
    refine .inl (hS1 ?_ _ fun v W' h k => ⟨v, rfl, h, k⟩)
    intro g b hg
    unfold Region.wanted at hw
    rw [hg] at hw
    dsimp only at hw
    rw [hy g (hgj g b hg)] at hw
    cases hx : x (slot g) with
    | bool c => rw [hx] at hw; simp at hw; rw [hw]
    | _ => rw [hx] at hw; simp at hw
  | false =>
    rw [if_neg (by decide)]
    cases hg : o.guard with
    | none => unfold Region.wanted at hw; rw [hg] at hw; cases hw
    | some p =>
      obtain ⟨g, b⟩ := p
      refine ⟨undef, rfl, hS2 g b hg ?_⟩
      intro hx
      unfold Region.wanted at hw
      rw [hg] at hw
      dsimp only at hw
      rw [hy g (hgj g b hg), hx] at hw
      simp at hw
 have hlist : ∀ m o, ops[m]? = some o → ops.toList.drop m = o :: ops.toList.drop (m + 1) := fun m o ho => by
  obtain ⟨hlt, rfl⟩ := Array.getElem?_eq_some_iff.1 ho
  rw [List.drop_eq_getElem_cons (by simpa using hlt)]
  simp
 have hop : ∀ m a W, wpList P ops Q (ops.toList.drop m) a W → ∀ o, ops[m]? = some o → wpOp P ops Q m (wpList P ops Q (ops.toList.drop (m + 1))) a W := fun m a W h o ho => by
  rw [hlist m o ho] at h
  unfold wpList at h
  unfold wpOp
  rw [ho]
  exact h
 refine wp_region_inv hm (fun listed a W => (∃ x, a = ⟨fill T x ds, df⟩ ∧ R w W ∧ (∀ j, N ≤ j → listed.getD j false = false) ∧ ∀ j, j < N → listed.getD j false = true → Val j (x (slot j)) W) ∨
  (∃ m, N < m ∧ m ≤ ops.size ∧ (∀ j, m ≤ j → listed.getD j false = false) ∧ (∀ j, j < m → listed.getD j false = true) ∧ wpList P ops Q (ops.toList.drop m) a W)) ?_ ?_ ?_
 ·exact .inl ⟨fun d => T.getD d undef, by rw [fill_self], hR0, fun j _ => getD_rep _ j, fun j _ h => by rw [getD_rep] at h; cases h⟩
 ·intro listed a W i hcl hInv hi
  obtain ⟨hun, o, ho, hdep⟩ := mem_ready.1 hi
  have hilt : i < ops.size := (Array.getElem?_eq_some_iff.1 ho).1
  have hlo : ∀ e ∈ o.after, e.on < i := by
   unfold lowEdges at hlow
   rw [List.all_eq_true] at hlow
   have h1 := hlow i (List.mem_range.2 hilt)
   rw [ho] at h1
   dsimp only at h1
   rw [Array.all_eq_true_iff_forall_mem] at h1
   intro e he
   exact of_decide_eq_true (h1 e he)
  have hchain : N < i → listed.getD (i - 1) false = true := fun h => by
   unfold chainOk at hch
   rw [List.all_eq_true] at hch
   have h1 := hch i (List.mem_range.2 hilt)
   rw [Bool.or_eq_true] at h1
   rcases h1 with h1 | h1
   ·have := of_decide_eq_true h1; omega
   ·exact hasEdge_listed h1 ho hdep
  rcases hInv with ⟨x, rfl, hx, hno, hv⟩ | ⟨m, hm1, hm2, hno, hyes, hw⟩
  ·by_cases hiN : i < N
   ·have hdst : o.dst = some (slot i) := by
     unfold slotsOkN at hs
     rw [List.all_eq_true] at hs
     have h1 := hs i (List.mem_range.2 hiN)
     rw [ho] at h1
     simpa using h1
    refine wpOp_mono ?_ (hstep i o x W hiN ho (fun e he hb => hv e.on (by have := hlo e he; omega) (hdep e he hb)) hx)
    rintro a' W' ⟨v, rfl, hval, hx'⟩
    have hmem : slot i ∈ ds := by rw [hds]; exact List.mem_map.2 ⟨i, List.mem_range.2 hiN, rfl⟩
    refine .inl ⟨fun k => if k = slot i then v else x k, by rw [hdst]; simp only [Act.put]; rw [fill_put _ _ _ _ hmem], hRt _ _ _ hx hx', fun j hj => by rw [getD_upd hun, if_neg (by omega)]; exact hno j hj, fun j hj hl => ?_⟩
    dsimp only
    by_cases hji : j = i
    ·subst hji; rw [if_pos rfl]; exact hval
    ·have hne : slot j ≠ slot i := by
      unfold slotsApart at hap
      rw [List.all_eq_true] at hap
      have h1 := hap j (List.mem_range.2 hj)
      rw [List.all_eq_true] at h1
      have h2 := h1 i (List.mem_range.2 hiN)
      simpa [hji] using h2
     rw [if_neg hne]
     rw [getD_upd hun, if_neg hji] at hl
     exact hmono _ _ _ _ (hv j hj hl) hx'
   ·have hieq : i = N := by
     rcases Nat.lt_or_ge N i with h | h
     ·have h1 := hchain h
      rw [hno (i - 1) (by omega)] at h1
      cases h1
     ·omega
    subst hieq
    have hall := dom_listed hdom hcl ho hdep i
    have hw := htail x W (fun j hj => hv j hj (hall j (by omega) hj)) hx
    refine wpOp_mono ?_ (hop i _ _ hw o ho)
    intro a' W' h'
    exact .inr ⟨i + 1, by omega, by omega, fun j hj => by rw [getD_upd hun, if_neg (by omega)]; exact hno j (by omega), fun j hj => by
     rw [getD_upd hun]
     by_cases hji : j = i
     ·rw [if_pos hji]
     ·rw [if_neg hji]; exact hall j (by omega) (by omega), h'⟩
  ·have hieq : i = m := by
    rcases Nat.lt_or_ge i m with h | h
    ·have h1 := hyes i h
     have h2 : listed.getD i false = false := by
      simp only [Array.getD_eq_getD_getElem?] at hun ⊢
      cases hh : listed[i]? with
      | none => rfl
      | some v => rw [hh] at hun; exact hun
     rw [h2] at h1
     cases h1
    ·rcases Nat.lt_or_ge m i with h' | h'
     ·have h1 := hchain (by omega)
      rw [hno (i - 1) (by omega)] at h1
      cases h1
     ·omega
   subst hieq
   refine wpOp_mono ?_ (hop i _ _ hw o ho)
   intro a' W' h'
   exact .inr ⟨i + 1, by omega, by omega, fun j hj => by rw [getD_upd hun, if_neg (by omega)]; exact hno j (by omega), fun j hj => by
    rw [getD_upd hun]
    by_cases hji : j = i
    ·rw [if_pos hji]
    ·rw [if_neg hji]; exact hyes j (by omega), h'⟩
 ·intro listed a W hls hr hInv
  have hall := all_listed hlow hls hr
  rcases hInv with ⟨x, rfl, hx, hno, hv⟩ | ⟨m, hm1, hm2, hno, hyes, hw⟩
  ·have h1 := hall N hN
   rw [hno N (Nat.le_refl _)] at h1
   cases h1
  ·have hme : m = ops.size := by
    rcases Nat.lt_or_ge m ops.size with h | h
    ·have h1 := hall m h
     rw [hno m (Nat.le_refl _)] at h1
     cases h1
    ·omega
   subst hme
   rw [List.drop_eq_nil_of_le (by simp)] at hw
   exact hw
end
end Go.Proofs.Ythcnganbnbhhoaa
namespace Go.Proofs.Ythcnganbnbhhoaa
open Go.RowKit
def waitsOkN (ops : Array Oper) (N : Nat) : Bool := (ops.toList.take N).all fun o => o.after.all (fun e => decide (e.on < N)) && (match o.guard with | some (g, _) => decide (g < N) | none => true)
theorem waitsOkN_get {ops : Array Oper} {N : Nat} (h : waitsOkN ops N = true) : ∀ o ∈ ops.toList.take N, (∀ e ∈ o.after, Region.binds .any e = true → e.on < N) ∧ (∀ g b, o.guard = some (g, b) → g < N) := by
 intro o ho
 unfold waitsOkN at h
 rw [List.all_eq_true] at h
 have h1 := h o ho
 rw [Bool.and_eq_true, Array.all_eq_true_iff_forall_mem] at h1
 refine ⟨fun e he _ => by simpa using h1.1 e he, fun g b hg => ?_⟩
 have h2 := h1.2
 rw [hg] at h2
 simpa using h2
theorem wp_region_t (N : Nat) (slots : List Nat) (ys : List Ent) (fx : List (Nat × Value)) {P : Program} {ops : Array Oper} {Q : Exit → Act → World → Prop} {id : Nat} {T : Array Value} {df : List Deferred} {w : World} (hm : P.follows .mixedOrders = true) (hN : N < ops.size)
 (hds : slots = (List.range N).map (fun j => slots.getD j 0)) (hly : slots.length = ys.length) (hs : slotsOkN ops N (fun j => slots.getD j 0) = true) (hap : slotsApart N (fun j => slots.getD j 0) = true) (hlow : lowEdges ops = true)
 (hgd : guardsOk ops = true) (hin : slots.all (fun d => decide (d < T.size)) = true) (hdom : domOk ops N = true) (hch : chainOk ops N = true) (hwo : waitsOkN ops N = true) (hout : (fx.all fun p => !slots.contains p.1) = true) (hk : keepsAll ys) (hfx : fixedAt T fx)
 (hsteps : stepsAll (RegStepF P Q df (fun j => slots.getD j 0) (fun j v w => (ys.getD j (.is undef)).holds v w) fx w) 0 (ops.toList.take N))
 (htail : ∀ x W, toldX x W slots ys → Ext w W → wpList P ops Q (ops.toList.drop N) ⟨fillX T x slots ys, df⟩ W) : (Code.region id ops true).wp P Q ⟨T, df⟩ w := by
 refine wp_region_tail hm N hN (fun j => slots.getD j 0) (fun j v w => (ys.getD j (.is undef)).holds v w) slots hds hs hap hlow hgd hin hdom hch Ext ((Ext.refl w).drew) (fun _ _ _ h k => h.trans k) (fun j _ _ _ h k => Ent.hold_on (keepsAll_get ys j hk) h k) ?_ ?_
 ·refine stepsF P Q T df slots _ _ fx w N (fun j hj => ?_) hfx hout (ops.toList.take N) 0 (waitsOkN_get hwo) hsteps
  have hm : (fun j => slots.getD j 0) j ∈ slots := by
   have : (fun j => slots.getD j 0) j ∈ (List.range N).map (fun j => slots.getD j 0) := List.mem_map.2 ⟨j, List.mem_range.2 hj, rfl⟩
   rw [← hds] at this
   exact this
  refine ⟨hm, ?_⟩
  rw [List.all_eq_true] at hin
  simpa using hin _ hm
 ·intro x W hv hR
  obtain ⟨h1, h2⟩ := fillX_eq T x W slots ys hly (fun j hj => hv j (by rw [hds] at hj; simpa using hj))
  rw [h1]
  exact htail x W h2 hR
end Go.Proofs.Ythcnganbnbhhoaa
