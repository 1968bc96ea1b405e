/- A region that draws its order, in which each operation writes a slot of its own and memory only grows: each operation is shown once, from what those that it waits for have left. Over whatever program. -/
import Derived.Test.YtjnnkcnnandeeaaWInv
namespace Go.Proofs.Ytjnnkcnnandeeaa
open Go.RowKit
section
variable {P : Program} {md : Region.Mode} {ops : Array Oper} {Q : Exit → Act → World → Prop}
/-- Each operation waits for earlier ones alone. -/
def lowEdges (ops : Array Oper) : Bool := (List.range ops.size).all fun j => match ops[j]? with | some o => o.after.all (fun e => decide (e.on < j)) | none => true
theorem all_listed {listed : Array Bool} (hl : lowEdges ops = true) (hs : listed.size = ops.size) (hr : Region.ready md ops listed = []) : ∀ j, j < ops.size → listed.getD j false = true := by
  intro j
  induction j using Nat.strongRecOn with
  | _ j ih =>
    intro hj
    unfold lowEdges at hl
    rw [List.all_eq_true] at hl
    have h1 := hl j (List.mem_range.2 hj)
    have ho : ops[j]? = some ops[j] := Array.getElem?_eq_getElem hj
    rw [ho] at h1
    dsimp only at h1
    rw [Array.all_eq_true_iff_forall_mem] at h1
    cases hh : listed.getD j false with
    | true => rfl
    | false =>
      have hm : j ∈ Region.ready md ops listed := mem_ready.2 ⟨by
        have hj' : j < listed.size := by omega
        simpa [Array.getD, hj'] using hh, _, ho, fun e he _ => by
          have := of_decide_eq_true (h1 e he)
          exact ih _ this (by omega)⟩
      rw [hr] at hm
      cases hm
theorem wpAny_inv (Inv : Array Bool → Act → World → Prop)
    (hstep : ∀ listed a w i, Inv listed a w → i ∈ Region.ready md ops listed → wpOp P ops Q i (Inv (listed.setIfInBounds i true)) a w)
    (hend : ∀ listed a w, Region.ready md ops listed = [] → Inv listed a w → Q .normal a w) :
    ∀ (fuel : Nat) (listed : Array Bool) (a : Act) (w : World), listed.toList.count false ≤ fuel → Inv listed a w → wpAny P md ops Q fuel listed a w
  | 0, listed, a, w, hc, h => by
    have hr : Region.ready md ops listed = [] := by
      rw [List.eq_nil_iff_forall_not_mem]
      intro i hi
      have := count_ready hi
      omega
    exact ⟨hr, hend _ _ _ hr h⟩
  | fuel + 1, listed, a, w, hc, h =>
    ⟨fun hr => hend _ _ _ hr h, fun i hi => wpOp_mono (fun a' w' h' => wpAny_inv Inv hstep hend fuel _ a' w' (by have := count_ready hi; omega) h') (hstep listed a w i h hi)⟩
/-- A region that draws its order: the invariant holds at the start, each operation keeps it, and at the end it gives the post. -/
theorem wp_region_inv {id : Nat} {a : Act} {w : World} (hm : P.follows .mixedOrders = true) (Inv : Array Bool → Act → World → Prop)
    (h0 : Inv (Array.replicate ops.size false) a w.drew)
    (hstep : ∀ listed a w i, Closed .any ops listed → Inv listed a w → i ∈ Region.ready .any ops listed → wpOp P ops Q i (Inv (listed.setIfInBounds i true)) a w)
    (hend : ∀ listed a w, listed.size = ops.size → Region.ready .any ops listed = [] → Inv listed a w → Q .normal a w) : (Code.region id ops true).wp P Q a w :=
  wp_region_any hm (wpAny_inv (fun listed a w => listed.size = ops.size ∧ Closed .any ops listed ∧ Inv listed a w)
    (fun listed a w i h hi => wpOp_mono (fun a' w' h' => ⟨by rw [Array.size_setIfInBounds]; exact h.1, h.2.1.step hi, h'⟩) (hstep listed a w i h.2.1 h.2.2 hi))
    (fun listed a w hr h => hend listed a w h.1 hr h.2.2) _ _ _ _ (by rw [Array.toList_replicate, List.count_replicate_self]; exact Nat.le_refl _)
    ⟨by simp, (fun j o _ hj => (by rw [getD_rep] at hj; cases hj) : Closed .any ops (Array.replicate ops.size false)), h0⟩)
/-- Temporaries of which those named hold what x says. -/
def fill (T : Array Value) (x : Nat → Value) : List Nat → Array Value
  | [] => T
  | d :: ds => (fill T x ds).setIfInBounds d (x d)
theorem fill_size (T : Array Value) (x : Nat → Value) : ∀ ds, (fill T x ds).size = T.size
  | [] => rfl
  | d :: ds => by rw [fill, Array.size_setIfInBounds, fill_size T x ds]
theorem fill_get (T : Array Value) (x : Nat → Value) (i : Nat) : ∀ ds, (fill T x ds)[i]? = if i ∈ ds ∧ i < T.size then some (x i) else T[i]?
  | [] => by simp [fill]
  | d :: ds => by
    rw [fill, Array.getElem?_setIfInBounds, fill_get T x i ds, fill_size]
    by_cases hd : d = i
    · subst hd
      by_cases hs : d < T.size
      · simp [hs]
      · simp [hs]
    · have hd' : ¬ i = d := fun e => hd e.symm
      simp [hd, hd']
theorem fill_self (T : Array Value) (ds : List Nat) : fill T (fun d => T.getD d undef) ds = T := by
  apply Array.ext_getElem?
  intro i
  rw [fill_get]
  split
  · rename_i h
    simp [Array.getD, h.2]
  · rfl
theorem fill_put (T : Array Value) (x : Nat → Value) (ds : List Nat) {d : Nat} (v : Value) (h : d ∈ ds) : (fill T x ds).setIfInBounds d v = fill T (fun k => if k = d then v else x k) ds := by
  apply Array.ext_getElem?
  intro i
  rw [Array.getElem?_setIfInBounds, fill_get, fill_get, fill_size]
  by_cases hd : d = i
  · subst hd
    by_cases hs : d < T.size
    · simp [hs, h]
    · simp [hs]
  · have hd' : ¬ i = d := fun e => hd e.symm
    simp [hd, hd']
/-- The slots that the operations write, each its own. -/
def slotsOk (ops : Array Oper) (slot : Nat → Nat) : Bool := (List.range ops.size).all fun j => match ops[j]? with | some o => o.dst == some (slot j) | none => false
def slotsApart (n : Nat) (slot : Nat → Nat) : Bool := (List.range n).all fun i => (List.range n).all fun j => decide (i = j) || !decide (slot i = slot j)
/-- What is to be shown of an operation: from what those that it waits for have left, it leaves what Val says. -/
def RegStep (P : Program) (Q : Exit → Act → World → Prop) (T : Array Value) (df : List Deferred) (ds : List Nat) (slot : Nat → Nat) (Val : Nat → Value → World → Prop) (R : World → World → Prop) (w : World) (j : Nat) (o : Oper) : Prop :=
  ∀ x W, (∀ e ∈ o.after, Region.binds .any e = true → Val e.on (x (slot e.on)) W) → R w W →
    ((∀ g b, o.guard = some (g, b) → x (slot g) = .bool b) → ∀ K, (∀ v W', Val j v W' → R W W' → K (Act.put ⟨fill T x ds, df⟩ o.dst v) W') → o.wp P ⟨fill T x ds, df⟩ W K Q) ∧
    (∀ g b, o.guard = some (g, b) → x (slot g) ≠ .bool b → Val j undef W ∧ R W W)
def stepsAll (S : Nat → Oper → Prop) : Nat → List Oper → Prop
  | _, [] => True
  | j, o :: l => S j o ∧ stepsAll S (j + 1) l
theorem stepsAll_get {S : Nat → Oper → Prop} : ∀ (l : List Oper) (i : Nat) (_ : stepsAll S i l) (j : Nat) (o : Oper), l[j]? = some o → S (i + j) o
  | [], _, _, j, o, ho => by simp at ho
  | _ :: _, _, h, 0, o, ho => by
    simp at ho
    subst ho
    exact h.1
  | _ :: l, i, h, j + 1, o, ho => by
    have := stepsAll_get l (i + 1) h.2 j o (by simpa using ho)
    rwa [show i + 1 + j = i + (j + 1) by omega] at this
/-- Each guard is an earlier operation. -/
def guardsOk (ops : Array Oper) : Bool := (List.range ops.size).all fun j => match ops[j]? with | some o => (match o.guard with | some (g, _) => decide (g < j) | none => true) | none => true
theorem wp_region_vals {id : Nat} {T : Array Value} {df : List Deferred} {w : World} (hm : P.follows .mixedOrders = true)
    (slot : Nat → Nat) (Val : Nat → Value → World → Prop) (ds : List Nat) (hds : ds = (List.range ops.size).map slot) (hs : slotsOk ops slot = true) (hap : slotsApart ops.size slot = true) (hlow : lowEdges ops = true)
    (hgd : guardsOk ops = true) (hin : ds.all (fun d => decide (d < T.size)) = true)
    (R : World → World → Prop) (hR0 : R w w.drew) (hRt : ∀ A B C, R A B → R B C → R A C)
    (hmono : ∀ j v A B, Val j v A → R A B → Val j v B)
    (hsteps : stepsAll (RegStep P Q T df ds slot Val R w) 0 ops.toList)
    (hend : ∀ x W, (∀ j, j < ops.size → Val j (x (slot j)) W) → R w W → Q .normal ⟨fill T x ds, df⟩ W) : (Code.region id ops true).wp P Q ⟨T, df⟩ w := by
  have hstep : ∀ j o x W, ops[j]? = some o → (∀ e ∈ o.after, Region.binds .any e = true → Val e.on (x (slot e.on)) W) → R w W →
      wpOp P ops Q j (fun a' W' => ∃ v, a' = Act.put ⟨fill T x ds, df⟩ o.dst v ∧ Val j v W' ∧ R W W') ⟨fill T x ds, df⟩ W := by
    intro j o x W ho hd hR
    have hS := stepsAll_get ops.toList 0 hsteps j o (by simpa using ho)
    rw [Nat.zero_add] at hS
    obtain ⟨hS1, hS2⟩ := hS x W hd hR
    have hjl : j < ops.size := (Array.getElem?_eq_some_iff.1 ho).1
    have hy : ∀ g, g < ops.size → yielded ops (fill T x ds) g = match x (slot g) with | .bool b => some b | _ => none := by
      intro g hg
      have hdst : (ops[g]?).bind (·.dst) = some (slot g) := by
        unfold slotsOk at hs
        rw [List.all_eq_true] at hs
        have h1 := hs g (List.mem_range.2 hg)
        rw [Array.getElem?_eq_getElem hg] at h1 ⊢
        simpa using h1
      have hmem : slot g ∈ ds := by rw [hds]; exact List.mem_map.2 ⟨g, List.mem_range.2 hg, rfl⟩
      have hlt : slot g < T.size := by
        rw [List.all_eq_true] at hin
        simpa using hin _ hmem
      unfold yielded
      rw [hdst, Option.bind_some, fill_get, if_pos ⟨hmem, hlt⟩]
      cases x (slot g) <;> rfl
    have hgj : ∀ g b, o.guard = some (g, b) → g < ops.size := by
      intro g b hg
      unfold guardsOk at hgd
      rw [List.all_eq_true] at hgd
      have h1 := hgd j (List.mem_range.2 hjl)
      rw [ho] at h1
      dsimp only at h1
      rw [hg] at h1
      have := of_decide_eq_true h1
      omega
    unfold wpOp
    rw [ho]
    dsimp only
    cases hw : Region.wanted o (yielded ops (fill T x ds)) with
    | true =>
      rw [if_pos rfl]
      refine .inl (hS1 ?_ _ fun v W' h k => ⟨v, rfl, h, k⟩)
      intro g b hg
      unfold Region.wanted at hw
      rw [hg] at hw
      dsimp only at hw
      rw [hy g (hgj g b hg)] at hw
      cases hx : x (slot g) with
      | bool c => rw [hx] at hw; simp at hw; rw [hw]
      | _ => rw [hx] at hw; simp at hw
    | false =>
      rw [if_neg (by decide)]
      cases hg : o.guard with
      | none => unfold Region.wanted at hw; rw [hg] at hw; cases hw
      | some p =>
        obtain ⟨g, b⟩ := p
        refine ⟨undef, rfl, hS2 g b hg ?_⟩
        intro hx
        unfold Region.wanted at hw
        rw [hg] at hw
        dsimp only at hw
        rw [hy g (hgj g b hg), hx] at hw
        simp at hw
  refine wp_region_inv hm (fun listed a W => ∃ x, a = ⟨fill T x ds, df⟩ ∧ R w W ∧ ∀ j, j < ops.size → listed.getD j false = true → Val j (x (slot j)) W) ?_ ?_ ?_
  · exact ⟨fun d => T.getD d undef, by rw [fill_self], hR0, fun j _ h => by rw [getD_rep] at h; cases h⟩
  · rintro listed a W i hcl ⟨x, rfl, hx, hv⟩ hi
    obtain ⟨hun, o, ho, hdep⟩ := mem_ready.1 hi
    have hilt : i < ops.size := (Array.getElem?_eq_some_iff.1 ho).1
    have hlo : ∀ e ∈ o.after, e.on < ops.size := by
      unfold lowEdges at hlow
      rw [List.all_eq_true] at hlow
      have h1 := hlow i (List.mem_range.2 hilt)
      rw [ho] at h1
      dsimp only at h1
      rw [Array.all_eq_true_iff_forall_mem] at h1
      intro e he
      have := of_decide_eq_true (h1 e he)
      omega
    have hdst : o.dst = some (slot i) := by
      unfold slotsOk at hs
      rw [List.all_eq_true] at hs
      have h1 := hs i (List.mem_range.2 hilt)
      rw [ho] at h1
      simpa using h1
    refine wpOp_mono ?_ (hstep i o x W ho (fun e he hb => hv e.on (hlo e he) (hdep e he hb)) hx)
    rintro a' W' ⟨v, rfl, hval, hx'⟩
    have hmem : slot i ∈ ds := by rw [hds]; exact List.mem_map.2 ⟨i, List.mem_range.2 hilt, rfl⟩
    refine ⟨fun k => if k = slot i then v else x k, by rw [hdst]; simp only [Act.put]; rw [fill_put _ _ _ _ hmem], hRt _ _ _ hx hx', fun j hj hl => ?_⟩
    dsimp only
    by_cases hji : j = i
    · subst hji; rw [if_pos rfl]; exact hval
    · have hne : slot j ≠ slot i := by
        unfold slotsApart at hap
        rw [List.all_eq_true] at hap
        have h1 := hap j (List.mem_range.2 hj)
        rw [List.all_eq_true] at h1
        have h2 := h1 i (List.mem_range.2 hilt)
        simpa [hji] using h2
      rw [if_neg hne]
      rw [getD_upd hun, if_neg hji] at hl
      exact hmono _ _ _ _ (hv j hj hl) hx'
  · rintro listed a W hls hr ⟨x, rfl, hx, hv⟩
    exact hend x W (fun j hj => hv j hj (all_listed hlow hls hr j hj)) hx
/-- Whatever cell was there holds what it held, and below 'base' nothing has turned. -/
structure Grow (base : Nat) (w w' : World) : Prop where
  c : CExt w w'
  below : Below base w w'
theorem Grow.of_ext {base : Nat} {A B : World} (h : Ext A B) (hb : base ≤ A.heap.size) : Grow base A B := ⟨h.c, Below.mono h hb⟩
theorem Grow.trans {base : Nat} {A B C : World} (h : Grow base A B) (k : Grow base B C) : Grow base A C := ⟨⟨Nat.le_trans h.c.size k.c.size, fun hc => k.c.cell (h.c.cell hc)⟩, h.below.trans k.below⟩
/-- An operation that is to be carried out. -/
theorem wpOp_of {i : Nat} {o : Oper} {K : Act → World → Prop} {a : Act} {w : World} (ho : ops[i]? = some o) (hg : Region.wanted o (yielded ops a.tmps) = true) (h : o.wp P a w K Q) : wpOp P ops Q i K a w := by
  unfold wpOp
  rw [ho]
  simp only [hg, if_true]
  exact .inl h
/-- An operation that is passed over. -/
theorem wpOp_skip {i : Nat} {o : Oper} {K : Act → World → Prop} {a : Act} {w : World} (ho : ops[i]? = some o) (hg : Region.wanted o (yielded ops a.tmps) = false) (h : K (a.put o.dst undef) w) : wpOp P ops Q i K a w := by
  unfold wpOp
  rw [ho]
  simp only [hg, Bool.false_eq_true, if_false]
  exact h
end
theorem grow_freeze {base : Nat} (W : World) (b n : Nat) (hb : base ≤ b) : Grow base W (W.freeze ⟨b, n, none⟩ 1) := by
  obtain ⟨f, hW, hfc⟩ : ∃ f : Obj → Obj, W.freeze ⟨b, n, none⟩ 1 = { W with heap := W.heap.modify b f } ∧ ∀ c e fr, ∃ fr', f (Obj.cells c e fr) = .cells c e fr' := by
    unfold World.freeze
    rw [if_neg (by decide)]
    exact ⟨_, rfl, fun c e ⟨lo, hi⟩ => ⟨_, rfl⟩⟩
  rw [hW]
  clear hW
  refine ⟨⟨by simp, ?_⟩, ⟨rfl, rfl, rfl, by simp, ?_⟩⟩
  · intro p v hc
    unfold World.cell? at hc ⊢
    have hm : (W.heap.modify b f)[p.block]? = if b = p.block then (W.heap[p.block]?).map f else W.heap[p.block]? := Array.getElem?_modify ..
    dsimp only
    rw [hm]
    by_cases hbk : b = p.block
    · rw [if_pos hbk]
      cases ho : W.heap[p.block]? with
      | none => rw [ho] at hc; cases hc
      | some o =>
        rw [ho] at hc
        cases o with
        | cells c e fr =>
          obtain ⟨fr', h'⟩ := hfc c e fr
          rw [Option.map_some, h']
          exact hc
        | _ => cases hc
    · rw [if_neg hbk]; exact hc
  · intro k hk
    simp only [Array.getElem?_modify]
    rw [if_neg (by omega)]
theorem Grow.refl (base : Nat) (W : World) : Grow base W W := ⟨⟨Nat.le_refl _, fun h => h⟩, Below.refl _ _⟩
theorem conv_self {P : Program} {base : Nat} (W : World) (t e : TypeId) (a : Addr) (n c : Nat) (ht : P.underlying t = some (.slice e)) (he : P.underlying e = some (.int .u8)) (hb : base ≤ a.block) :
    ∃ W', (convert t t (.slice (some a) n c)).run P W = .ok (.slice (some a) n c) W' ∧ Grow base W W' := by
  cases hsh : W.shape? a.block with
  | none => exact ⟨W, by simp [convert, run_underlying ht, run_underlying he, markStringish, hsh], Grow.refl _ _⟩
  | some p =>
    obtain ⟨e', k⟩ := p
    refine ⟨W.freeze ⟨a.block, k, none⟩ 1, by simp [convert, run_underlying ht, run_underlying he, markStringish, hsh], grow_freeze W _ _ hb⟩
end Go.Proofs.Ytjnnkcnnandeeaa
