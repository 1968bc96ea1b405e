/- A region that draws its order and only reads (its callees may make memory): each operation is shown once, its value found by the walk itself ('apply wp_region_det [slots] [_, ..]': as many '_' as slots: the tool det.py prints it). Over whatever program. -/
import Derived.Test.YtjnnkcnnandeeaaSlots
namespace Go.Proofs.Ytjnnkcnnandeeaa
open Go.RowKit
section
variable {P : Program} {ops : Array Oper} {Q : Exit → Act → World → Prop}
/-- Each operation waits for earlier ones alone, as far as it waits. -/
def lowBinds (ops : Array Oper) : Bool := (List.range ops.size).all fun j => match ops[j]? with | some o => o.after.all (fun e => !Region.binds .any e || decide (e.on < j)) | none => true
theorem all_listed' {listed : Array Bool} (hl : lowBinds ops = true) (hs : listed.size = ops.size) (hr : Region.ready .any ops listed = []) : ∀ j, j < ops.size → listed.getD j false = true := by
  intro j
  induction j using Nat.strongRecOn with
  | _ j ih =>
    intro hj
    unfold lowBinds at hl
    rw [List.all_eq_true] at hl
    have h1 := hl j (List.mem_range.2 hj)
    have ho : ops[j]? = some ops[j] := Array.getElem?_eq_getElem hj
    rw [ho] at h1
    dsimp only at h1
    rw [Array.all_eq_true_iff_forall_mem] at h1
    cases hh : listed.getD j false with
    | true => rfl
    | false =>
      have hm : j ∈ Region.ready .any ops listed := mem_ready.2 ⟨by
        have hj' : j < listed.size := by omega
        simpa [Array.getD, hj'] using hh, _, ho, fun e he hb => by
          have h2 := h1 e he
          rw [hb, Bool.not_true, Bool.false_or] at h2
          have := of_decide_eq_true h2
          exact ih _ this (by omega)⟩
      rw [hr] at hm
      cases hm
/-- wp_region_vals, where edges that bind only the garbage collection may lead on. -/
theorem wp_region_vals' {id : Nat} {T : Array Value} {df : List Deferred} {w : World} (hm : P.follows .mixedOrders = true)
    (slot : Nat → Nat) (Val : Nat → Value → World → Prop) (ds : List Nat) (hds : ds = (List.range ops.size).map slot) (hs : slotsOk ops slot = true) (hap : slotsApart ops.size slot = true) (hlow : lowBinds ops = true)
    (hgd : guardsOk ops = true) (hin : ds.all (fun d => decide (d < T.size)) = true)
    (R : World → World → Prop) (hR0 : R w w.drew) (hRt : ∀ A B C, R A B → R B C → R A C)
    (hmono : ∀ j v A B, Val j v A → R A B → Val j v B)
    (hsteps : stepsAll (RegStep P Q T df ds slot Val R w) 0 ops.toList)
    (hend : ∀ x W, (∀ j, j < ops.size → Val j (x (slot j)) W) → R w W → Q .normal ⟨fill T x ds, df⟩ W) : (Code.region id ops true).wp P Q ⟨T, df⟩ w := by
  have hstep : ∀ j o x W, ops[j]? = some o → (∀ e ∈ o.after, Region.binds .any e = true → Val e.on (x (slot e.on)) W) → R w W →
      wpOp P ops Q j (fun a' W' => ∃ v, a' = Act.put ⟨fill T x ds, df⟩ o.dst v ∧ Val j v W' ∧ R W W') ⟨fill T x ds, df⟩ W := by
    intro j o x W ho hd hR
    have hS := stepsAll_get ops.toList 0 hsteps j o (by simpa using ho)
    rw [Nat.zero_add] at hS
    obtain ⟨hS1, hS2⟩ := hS x W hd hR
    have hjl : j < ops.size := (Array.getElem?_eq_some_iff.1 ho).1
    have hy : ∀ g, g < ops.size → yielded ops (fill T x ds) g = match x (slot g) with | .bool b => some b | _ => none := by
      intro g hg
      have hdst : (ops[g]?).bind (·.dst) = some (slot g) := by
        unfold slotsOk at hs
        rw [List.all_eq_true] at hs
        have h1 := hs g (List.mem_range.2 hg)
        rw [Array.getElem?_eq_getElem hg] at h1 ⊢
        simpa using h1
      have hmem : slot g ∈ ds := by rw [hds]; exact List.mem_map.2 ⟨g, List.mem_range.2 hg, rfl⟩
      have hlt : slot g < T.size := by
        rw [List.all_eq_true] at hin
        simpa using hin _ hmem
      unfold yielded
      rw [hdst, Option.bind_some, fill_get, if_pos ⟨hmem, hlt⟩]
      cases x (slot g) <;> rfl
    have hgj : ∀ g b, o.guard = some (g, b) → g < ops.size := by
      intro g b hg
      unfold guardsOk at hgd
      rw [List.all_eq_true] at hgd
      have h1 := hgd j (List.mem_range.2 hjl)
      rw [ho] at h1
      dsimp only at h1
      rw [hg] at h1
      have := of_decide_eq_true h1
      omega
    unfold wpOp
    rw [ho]
    dsimp only
    cases hw : Region.wanted o (yielded ops (fill T x ds)) with
    | true =>
      rw [if_pos rfl]
      refine .inl (hS1 ?_ _ fun v W' h k => ⟨v, rfl, h, k⟩)
      intro g b hg
      unfold Region.wanted at hw
      rw [hg] at hw
      dsimp only at hw
      rw [hy g (hgj g b hg)] at hw
      cases hx : x (slot g) with
      | bool c => rw [hx] at hw; simp at hw; rw [hw]
      | _ => rw [hx] at hw; simp at hw
    | false =>
      rw [if_neg (by decide)]
      cases hg : o.guard with
      | none => unfold Region.wanted at hw; rw [hg] at hw; cases hw
      | some p =>
        obtain ⟨g, b⟩ := p
        refine ⟨undef, rfl, hS2 g b hg ?_⟩
        intro hx
        unfold Region.wanted at hw
        rw [hg] at hw
        dsimp only at hw
        rw [hy g (hgj g b hg), hx] at hw
        simp at hw
  refine wp_region_inv hm (fun listed a W => ∃ x, a = ⟨fill T x ds, df⟩ ∧ R w W ∧ ∀ j, j < ops.size → listed.getD j false = true → Val j (x (slot j)) W) ?_ ?_ ?_
  · exact ⟨fun d => T.getD d undef, by rw [fill_self], hR0, fun j _ h => by rw [getD_rep] at h; cases h⟩
  · rintro listed a W i hcl ⟨x, rfl, hx, hv⟩ hi
    obtain ⟨hun, o, ho, hdep⟩ := mem_ready.1 hi
    have hilt : i < ops.size := (Array.getElem?_eq_some_iff.1 ho).1
    have hlo : ∀ e ∈ o.after, Region.binds .any e = true → e.on < ops.size := by
      unfold lowBinds at hlow
      rw [List.all_eq_true] at hlow
      have h1 := hlow i (List.mem_range.2 hilt)
      rw [ho] at h1
      dsimp only at h1
      rw [Array.all_eq_true_iff_forall_mem] at h1
      intro e he hb
      have h2 := h1 e he
      rw [hb, Bool.not_true, Bool.false_or] at h2
      have := of_decide_eq_true h2
      omega
    have hdst : o.dst = some (slot i) := by
      unfold slotsOk at hs
      rw [List.all_eq_true] at hs
      have h1 := hs i (List.mem_range.2 hilt)
      rw [ho] at h1
      simpa using h1
    refine wpOp_mono ?_ (hstep i o x W ho (fun e he hb => hv e.on (hlo e he hb) (hdep e he hb)) hx)
    rintro a' W' ⟨v, rfl, hval, hx'⟩
    have hmem : slot i ∈ ds := by rw [hds]; exact List.mem_map.2 ⟨i, List.mem_range.2 hilt, rfl⟩
    refine ⟨fun k => if k = slot i then v else x k, by rw [hdst]; simp only [Act.put]; rw [fill_put _ _ _ _ hmem], hRt _ _ _ hx hx', fun j hj hl => ?_⟩
    dsimp only
    by_cases hji : j = i
    · subst hji; rw [if_pos rfl]; exact hval
    · have hne : slot j ≠ slot i := by
        unfold slotsApart at hap
        rw [List.all_eq_true] at hap
        have h1 := hap j (List.mem_range.2 hj)
        rw [List.all_eq_true] at h1
        have h2 := h1 i (List.mem_range.2 hilt)
        simpa [hji] using h2
      rw [if_neg hne]
      rw [getD_upd hun, if_neg hji] at hl
      exact hmono _ _ _ _ (hv j hj hl) hx'
  · rintro listed a W hls hr ⟨x, rfl, hx, hv⟩
    exact hend x W (fun j hj => hv j hj (all_listed' hlow hls hr j hj)) hx
end
/-- Temporaries of which the named ones hold these values. -/
def fillL (T : Array Value) : List Nat → List Value → Array Value
  | d :: ds, y :: ys => (fillL T ds ys).setIfInBounds d y
  | _, _ => T
theorem fillL_eq (T : Array Value) (x : Nat → Value) : ∀ (ds : List Nat) (ys : List Value), ds.length = ys.length → (∀ j, j < ds.length → x (ds.getD j 0) = ys.getD j undef) → fill T x ds = fillL T ds ys
  | [], [], _, _ => rfl
  | d :: ds, y :: ys, hl, h => by
    rw [fill, fillL, fillL_eq T x ds ys (by simpa using hl) (fun j hj => by have := h (j + 1) (by simp; omega); simpa using this)]
    have := h 0 (by simp)
    simp only [List.getD_cons_zero] at this
    rw [this]
  | [], y :: ys, hl, _ => by simp at hl
  | d :: ds, [], hl, _ => by simp at hl
theorem wp_region_det (slots : List Nat) (ys : List Value) {P : Program} {ops : Array Oper} {Q : Exit → Act → World → Prop} {id : Nat} {T : Array Value} {df : List Deferred} {w : World} (hm : P.follows .mixedOrders = true)
    (hds : slots = (List.range ops.size).map (fun j => slots.getD j 0)) (hly : slots.length = ys.length) (hs : slotsOk ops (fun j => slots.getD j 0) = true) (hap : slotsApart ops.size (fun j => slots.getD j 0) = true) (hlow : lowBinds ops = true)
    (hgd : guardsOk ops = true) (hin : slots.all (fun d => decide (d < T.size)) = true)
    (hsteps : stepsAll (RegStep P Q T df slots (fun j => slots.getD j 0) (fun j v _ => v = ys.getD j undef) Ext w) 0 ops.toList)
    (hend : ∀ W, Ext w W → Q .normal ⟨fillL T slots ys, df⟩ W) : (Code.region id ops true).wp P Q ⟨T, df⟩ w :=
  wp_region_vals' hm (fun j => slots.getD j 0) (fun j v _ => v = ys.getD j undef) slots hds hs hap hlow hgd hin Ext ((Ext.refl w).drew) (fun _ _ _ h k => h.trans k) (fun _ _ _ _ h _ => h) hsteps fun x W hv hR => by
    rw [fillL_eq T x slots ys hly (fun j hj => hv j (by rw [hds] at hj; simpa using hj))]
    exact hend W hR
end Go.Proofs.Ytjnnkcnnandeeaa
