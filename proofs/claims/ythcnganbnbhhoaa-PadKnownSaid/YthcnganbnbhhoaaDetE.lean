/- A drawn region with a forced tail, in which the word told of an operation's value may look at the values of operations that it waits for. A drawn region with a forced tail, whose first operations may turn the world as a relation of one's own says. A drawn region with a forced tail, in which what is extracted of a tuple may come late: such an operation commutes with all others, so it is taken at once. -/
import Derived.Test.YthcnganbnbhhoaaDet
namespace Go.Proofs.Ythcnganbnbhhoaa
open Go.RowKit
section
variable {P : Program} {ops : Array Oper} {Q : Exit → Act → World → Prop}
def hasEdge2 (ops : Array Oper) (i j : Nat) : Bool := hasEdge ops i j || (List.range ops.size).any fun m => hasEdge ops i m && hasEdge ops m j
/-- Each operation that a word looks at stands before, and is waited for. -/
def depOk (ops : Array Oper) (N : Nat) (dep : List (Nat × Nat)) : Bool := dep.all fun p => decide (p.2 < N) && hasEdge2 ops p.1 p.2
theorem dep_listed {listed : Array Bool} (hcl : Closed .any ops listed) {i j : Nat} (h : hasEdge2 ops i j = true) (hi : listed.getD i false = true) (hl : i < ops.size) : listed.getD j false = true := by
 unfold hasEdge2 at h
 rw [Bool.or_eq_true] at h
 have one : ∀ a b, hasEdge ops a b = true → listed.getD a false = true → a < ops.size → listed.getD b false = true := fun a b h1 h2 h3 =>
  hasEdge_listed h1 (Array.getElem?_eq_getElem h3) (hcl a _ (Array.getElem?_eq_getElem h3) h2)
 rcases h with h | h
 ·exact one i j h hi hl
 ·rw [List.any_eq_true] at h
  obtain ⟨m, hm, hb⟩ := h
  rw [Bool.and_eq_true] at hb
  exact one m j hb.2 (one i m hb.1 hi hl) (List.mem_range.1 hm)
def RegStepE (P : Program) (Q : Exit → Act → World → Prop) (T : Array Value) (df : List Deferred) (ds : List Nat) (slot : Nat → Nat) (Val : Nat → (Nat → Value) → World → Prop) (R : World → World → Prop) (w : World) (j : Nat) (o : Oper) : Prop :=
 ∀ x W, (∀ e ∈ o.after, Region.binds .any e = true → Val e.on (fun k => x (slot k)) W) → R w W →
   ((∀ g b, o.guard = some (g, b) → x (slot g) = .bool b) → ∀ K, (∀ v W', Val j (fun k => if k = j then v else x (slot k)) W' → R W W' → K (Act.put ⟨fill T x ds, df⟩ o.dst v) W') → o.wp P ⟨fill T x ds, df⟩ W K Q) ∧
   (∀ g b, o.guard = some (g, b) → x (slot g) ≠ .bool b → Val j (fun k => if k = j then undef else x (slot k)) W ∧ R W W)
theorem wp_region_taile {id : Nat} {T : Array Value} {df : List Deferred} {w : World} (hm : P.follows .mixedOrders = true) (N : Nat) (hN : N < ops.size)
 (slot : Nat → Nat) (Val : Nat → (Nat → Value) → World → Prop) (dep : List (Nat × Nat)) (ds : List Nat) (hds : ds = (List.range N).map slot) (hs : slotsOkN ops N slot = true) (hap : slotsApart N slot = true) (hlow : lowEdges ops = true)
 (hgd : guardsOk ops = true) (hin : ds.all (fun d => decide (d < T.size)) = true) (hdom : domOk ops N = true) (hch : chainOk ops N = true) (hdp : depOk ops N dep = true)
 (R : World → World → Prop) (hR0 : R w w.drew) (hRt : ∀ A B C, R A B → R B C → R A C)
 (hmono : ∀ j y A B, Val j y A → R A B → Val j y B)
 (hloc : ∀ j y y' A, y j = y' j → (∀ k, (j, k) ∈ dep → y k = y' k) → Val j y A → Val j y' A)
 (hsteps : stepsAll (RegStepE P Q T df ds slot Val R w) 0 (ops.toList.take N))
 (htail : ∀ x W, (∀ j, j < N → Val j (fun k => x (slot k)) W) → R w W → wpList P ops Q (ops.toList.drop N) ⟨fill T x ds, df⟩ W) : (Code.region id ops true).wp P Q ⟨T, df⟩ w := by
 have hstep : ∀ j o x W, j < N → ops[j]? = some o → (∀ e ∈ o.after, Region.binds .any e = true → Val e.on (fun k => x (slot k)) W) → R w W →
  wpOp P ops Q j (fun a' W' => ∃ v, a' = Act.put ⟨fill T x ds, df⟩ o.dst v ∧ Val j (fun k => if k = j then v else x (slot k)) W' ∧ R W W') ⟨fill T x ds, df⟩ W := by
  intro j o x W hjN ho hd hR
  have hS := stepsAll_get (ops.toList.take N) 0 hsteps j o (by rw [List.getElem?_take, if_pos hjN]; simpa using ho)
  rw [Nat.zero_add] at hS
  obtain ⟨hS1, hS2⟩ := hS x W hd hR
  have hjl : j < ops.size := (Array.getElem?_eq_some_iff.1 ho).1
  have hy : ∀ g, g < N → yielded ops (fill T x ds) g = match x (slot g) with | .bool b => some b | _ => none := by
   intro g hg
   have hgs : g < ops.size := by omega
   have hdst : (ops[g]?).bind (·.dst) = some (slot g) := by
    unfold slotsOkN at hs
    rw [List.all_eq_true] at hs
    have h1 := hs g (List.mem_range.2 hg)
    rw [Array.getElem?_eq_getElem hgs] at h1 ⊢
    simpa using h1
   have hmem : slot g ∈ ds := by rw [hds]; exact List.mem_map.2 ⟨g, List.mem_range.2 hg, rfl⟩
   have hlt : slot g < T.size := by
    rw [List.all_eq_true] at hin
    simpa using hin _ hmem
   unfold yielded
   rw [hdst, Option.bind_some, fill_get, if_pos ⟨hmem, hlt⟩]
   cases x (slot g) <;> rfl
  have hgj : ∀ g b, o.guard = some (g, b) → g < N := by
   intro g b hg
   unfold guardsOk at hgd
   rw [List.all_eq_true] at hgd
   have h1 := hgd j (List.mem_range.2 hjl)
   rw [ho] at h1
   dsimp only at h1
   rw [hg] at h1
   have := of_decide_eq_true h1
   omega
  unfold wpOp
  rw [ho]
  dsimp only
  cases hw : Region.wanted o (yielded ops (fill T x ds)) with
  | true =>
    rw [if_pos rfl]
    refine .inl (hS1 ?_ _ fun v W' h k => ⟨v, rfl, h, k⟩)
    intro g b hg
    unfold Region.wanted at hw
    rw [hg] at hw
    dsimp only at hw
    rw [hy g (hgj g b hg)] at hw
    cases hx : x (slot g) with
    | bool c => rw [hx] at hw; simp at hw; rw [hw]
    | _ => rw [hx] at hw; simp at hw
  | false =>
    rw [if_neg (by decide)]
    cases hg : o.guard with
    | none => unfold Region.wanted at hw; rw [hg] at hw; cases hw
    | some p =>
      obtain ⟨g, b⟩ := p
      refine ⟨undef, rfl, hS2 g b hg ?_⟩
      intro hx
      unfold Region.wanted at hw
      rw [hg] at hw
      dsimp only at hw
      rw [hy g (hgj g b hg), hx] at hw
      simp at hw
 have hlist : ∀ m o, ops[m]? = some o → ops.toList.drop m = o :: ops.toList.drop (m + 1) := fun m o ho => by
  obtain ⟨hlt, rfl⟩ := Array.getElem?_eq_some_iff.1 ho
  rw [List.drop_eq_getElem_cons (by simpa using hlt)]
  simp
 have hop : ∀ m a W, wpList P ops Q (ops.toList.drop m) a W → ∀ o, ops[m]? = some o → wpOp P ops Q m (wpList P ops Q (ops.toList.drop (m + 1))) a W := fun m a W h o ho => by
  rw [hlist m o ho] at h
  unfold wpList at h
  unfold wpOp
  rw [ho]
  exact h
 have hdepl : ∀ j k, (j, k) ∈ dep → k < N ∧ hasEdge2 ops j k = true := fun j k h => by
  unfold depOk at hdp
  rw [List.all_eq_true] at hdp
  have h1 := hdp _ h
  rw [Bool.and_eq_true] at h1
  exact ⟨of_decide_eq_true h1.1, h1.2⟩
 refine wp_region_inv hm (fun listed a W => (∃ x, a = ⟨fill T x ds, df⟩ ∧ R w W ∧ (∀ j, N ≤ j → listed.getD j false = false) ∧ ∀ j, j < N → listed.getD j false = true → Val j (fun k => x (slot k)) W) ∨
  (∃ m, N < m ∧ m ≤ ops.size ∧ (∀ j, m ≤ j → listed.getD j false = false) ∧ (∀ j, j < m → listed.getD j false = true) ∧ wpList P ops Q (ops.toList.drop m) a W)) ?_ ?_ ?_
 ·exact .inl ⟨fun d => T.getD d undef, by rw [fill_self], hR0, fun j _ => getD_rep _ j, fun j _ h => by rw [getD_rep] at h; cases h⟩
 ·intro listed a W i hcl hInv hi
  obtain ⟨hun, o, ho, hdep⟩ := mem_ready.1 hi
  have hilt : i < ops.size := (Array.getElem?_eq_some_iff.1 ho).1
  have hlo : ∀ e ∈ o.after, e.on < i := by
   unfold lowEdges at hlow
   rw [List.all_eq_true] at hlow
   have h1 := hlow i (List.mem_range.2 hilt)
   rw [ho] at h1
   dsimp only at h1
   rw [Array.all_eq_true_iff_forall_mem] at h1
   intro e he
   exact of_decide_eq_true (h1 e he)
  have hchain : N < i → listed.getD (i - 1) false = true := fun h => by
   unfold chainOk at hch
   rw [List.all_eq_true] at hch
   have h1 := hch i (List.mem_range.2 hilt)
   rw [Bool.or_eq_true] at h1
   rcases h1 with h1 | h1
   ·have := of_decide_eq_true h1; omega
   ·exact hasEdge_listed h1 ho hdep
  have huf : listed.getD i false = false := by
   simp only [Array.getD_eq_getD_getElem?] at hun ⊢
   cases hh : listed[i]? with
   | none => rfl
   | some v => rw [hh] at hun; exact hun
  rcases hInv with ⟨x, rfl, hx, hno, hv⟩ | ⟨m, hm1, hm2, hno, hyes, hw⟩
  ·by_cases hiN : i < N
   ·have hdst : o.dst = some (slot i) := by
     unfold slotsOkN at hs
     rw [List.all_eq_true] at hs
     have h1 := hs i (List.mem_range.2 hiN)
     rw [ho] at h1
     simpa using h1
    refine wpOp_mono ?_ (hstep i o x W hiN ho (fun e he hb => hv e.on (by have := hlo e he; omega) (hdep e he hb)) hx)
    rintro a' W' ⟨v, rfl, hval, hx'⟩
    have hmem : slot i ∈ ds := by rw [hds]; exact List.mem_map.2 ⟨i, List.mem_range.2 hiN, rfl⟩
    have hne : ∀ j, j < N → j ≠ i → slot j ≠ slot i := fun j hj hji => by
     unfold slotsApart at hap
     rw [List.all_eq_true] at hap
     have h1 := hap j (List.mem_range.2 hj)
     rw [List.all_eq_true] at h1
     have h2 := h1 i (List.mem_range.2 hiN)
     simpa [hji] using h2
    refine .inl ⟨fun k => if k = slot i then v else x k, by rw [hdst]; simp only [Act.put]; rw [fill_put _ _ _ _ hmem], hRt _ _ _ hx hx', fun j hj => by rw [getD_upd hun, if_neg (by omega)]; exact hno j hj, fun j hj hl => ?_⟩
    by_cases hji : j = i
    ·subst hji
     refine hloc j _ _ _ (by simp) (fun k hk => ?_) hval
     have h1 := hdepl j k hk
     by_cases hkj : k = j
     ·subst hkj; simp
     ·dsimp only
      rw [if_neg hkj, if_neg (hne k h1.1 hkj)]
    ·rw [getD_upd hun, if_neg hji] at hl
     refine hloc j _ _ _ (by dsimp only; rw [if_neg (hne j hj hji)]) (fun k hk => ?_) (hmono _ _ _ _ (hv j hj hl) hx')
     have h1 := hdepl j k hk
     have hkl := dep_listed hcl h1.2 hl (by omega)
     have hki : k ≠ i := fun e => by rw [e, huf] at hkl; cases hkl
     dsimp only
     rw [if_neg (hne k h1.1 hki)]
   ·have hieq : i = N := by
     rcases Nat.lt_or_ge N i with h | h
     ·have h1 := hchain h
      rw [hno (i - 1) (by omega)] at h1
      cases h1
     ·omega
    subst hieq
    have hall := dom_listed hdom hcl ho hdep i
    have hw := htail x W (fun j hj => hv j hj (hall j (by omega) hj)) hx
    refine wpOp_mono ?_ (hop i _ _ hw o ho)
    intro a' W' h'
    exact .inr ⟨i + 1, by omega, by omega, fun j hj => by rw [getD_upd hun, if_neg (by omega)]; exact hno j (by omega), fun j hj => by
     rw [getD_upd hun]
     by_cases hji : j = i
     ·rw [if_pos hji]
     ·rw [if_neg hji]; exact hall j (by omega) (by omega), h'⟩
  ·have hieq : i = m := by
    rcases Nat.lt_or_ge i m with h | h
    ·have h1 := hyes i h
     rw [huf] at h1
     cases h1
    ·rcases Nat.lt_or_ge m i with h' | h'
     ·have h1 := hchain (by omega)
      rw [hno (i - 1) (by omega)] at h1
      cases h1
     ·omega
   subst hieq
   refine wpOp_mono ?_ (hop i _ _ hw o ho)
   intro a' W' h'
   exact .inr ⟨i + 1, by omega, by omega, fun j hj => by rw [getD_upd hun, if_neg (by omega)]; exact hno j (by omega), fun j hj => by
    rw [getD_upd hun]
    by_cases hji : j = i
    ·rw [if_pos hji]
    ·rw [if_neg hji]; exact hyes j (by omega), h'⟩
 ·intro listed a W hls hr hInv
  have hall := all_listed hlow hls hr
  rcases hInv with ⟨x, rfl, hx, hno, hv⟩ | ⟨m, hm1, hm2, hno, hyes, hw⟩
  ·have h1 := hall N hN
   rw [hno N (Nat.le_refl _)] at h1
   cases h1
  ·have hme : m = ops.size := by
    rcases Nat.lt_or_ge m ops.size with h | h
    ·have h1 := hall m h
     rw [hno m (Nat.le_refl _)] at h1
     cases h1
    ·omega
   subst hme
   rw [List.drop_eq_nil_of_le (by simp)] at hw
   exact hw
end
def RegStepG (P : Program) (Q : Exit → Act → World → Prop) (df : List Deferred) (slot : Nat → Nat) (Val : Nat → (Nat → Value) → World → Prop) (fx : List (Nat × Value)) (w : World) (j : Nat) (o : Oper) : Prop :=
 ∀ F W, fixedAt F fx → (∀ e ∈ o.after, Region.binds .any e = true → Val e.on (fun k => F.getD (slot k) undef) W) → Ext w W →
   ((∀ g b, o.guard = some (g, b) → F.getD (slot g) undef = .bool b) → ∀ K, (∀ v W', Val j (fun k => if k = j then v else F.getD (slot k) undef) W' → Ext W W' → K (Act.put ⟨F, df⟩ o.dst v) W') → o.wp P ⟨F, df⟩ W K Q) ∧
   (∀ g b, o.guard = some (g, b) → F.getD (slot g) undef ≠ .bool b → Val j (fun k => if k = j then undef else F.getD (slot k) undef) W ∧ Ext W W)
theorem stepsG (P : Program) (Q : Exit → Act → World → Prop) (T : Array Value) (df : List Deferred) (ds : List Nat) (slot : Nat → Nat) (Val : Nat → (Nat → Value) → World → Prop) (dep : List (Nat × Nat)) (fx : List (Nat × Value)) (w : World) (N : Nat)
 (hd : ∀ j, j < N → slot j ∈ ds ∧ slot j < T.size) (hfx : fixedAt T fx) (hout : (fx.all fun p => !ds.contains p.1) = true) (hdl : ∀ j k, (j, k) ∈ dep → k < N)
 (hloc : ∀ j y y' A, y j = y' j → (∀ k, (j, k) ∈ dep → y k = y' k) → Val j y A → Val j y' A) :
 ∀ (l : List Oper) (i : Nat), i + l.length ≤ N → (∀ o ∈ l, (∀ e ∈ o.after, Region.binds .any e = true → e.on < N) ∧ (∀ g b, o.guard = some (g, b) → g < N)) → stepsAll (RegStepG P Q df slot Val fx w) i l → stepsAll (RegStepE P Q T df ds slot Val Ext w) i l
 | [], _, _, _, _ => trivial
 | o :: l, i, hi, hw, h => by
   obtain ⟨hw1, hw2⟩ := hw o (by simp)
   rw [List.length_cons] at hi
   refine ⟨fun x W he hR => ?_, stepsG P Q T df ds slot Val dep fx w N hd hfx hout hdl hloc l (i + 1) (by omega) (fun o' ho' => hw o' (by simp [ho'])) h.2⟩
   have hg : ∀ k, k < N → (fill T x ds).getD (slot k) undef = x (slot k) := fun k hk => by rw [fill_getD, if_pos (hd k hk)]
   obtain ⟨h1, h2⟩ := h.1 (fill T x ds) W (fixed_fill T x ds fx hout hfx) (fun e he1 he2 => hloc _ _ _ _ (hg _ (hw1 e he1 he2)).symm (fun k hk => (hg _ (hdl _ _ hk)).symm) (he e he1 he2)) hR
   have hup : ∀ v W', Val i (fun k => if k = i then v else (fill T x ds).getD (slot k) undef) W' → Val i (fun k => if k = i then v else x (slot k)) W' := fun v W' hv => hloc i _ _ _ (by simp) (fun k hk => by
    by_cases hki : k = i
    ·rw [if_pos hki, if_pos hki]
    ·rw [if_neg hki, if_neg hki, hg _ (hdl _ _ hk)]) hv
   refine ⟨fun hgd K hK => h1 (fun g b hgb => by rw [hg _ (hw2 g b hgb)]; exact hgd g b hgb) K fun v W' hv => hK v W' ?_, fun g b hgb hn => ?_⟩
   ·exact hup v W' hv
   ·have := h2 g b hgb (by rw [hg _ (hw2 g b hgb)]; exact hn)
    exact ⟨hup _ _ this.1, this.2⟩
/-- A word of its own for an operation, over the values of those that it waits for. -/
theorem wp_region_te (X : Nat → (Nat → Value) → World → Prop) (dep : List (Nat × Nat)) (N : Nat) (slots : List Nat) (ys : List Ent) (fx : List (Nat × Value)) {P : Program} {ops : Array Oper} {Q : Exit → Act → World → Prop} {id : Nat} {T : Array Value} {df : List Deferred} {w : World} (hm : P.follows .mixedOrders = true) (hN : N < ops.size)
 (hds : slots = (List.range N).map (fun j => slots.getD j 0)) (hly : slots.length = ys.length) (hs : slotsOkN ops N (fun j => slots.getD j 0) = true) (hap : slotsApart N (fun j => slots.getD j 0) = true) (hlow : lowEdges ops = true)
 (hgd : guardsOk ops = true) (hin : slots.all (fun d => decide (d < T.size)) = true) (hdom : domOk ops N = true) (hch : chainOk ops N = true) (hdp : depOk ops N dep = true) (hwo : waitsOkN ops N = true) (hout : (fx.all fun p => !slots.contains p.1) = true) (hk : keepsAll ys)
 (hXm : ∀ j y A B, X j y A → Ext A B → X j y B) (hXl : ∀ j y y' A, y j = y' j → (∀ k, (j, k) ∈ dep → y k = y' k) → X j y A → X j y' A) (hfx : fixedAt T fx)
 (hsteps : stepsAll (RegStepG P Q df (fun j => slots.getD j 0) (fun j y w => (ys.getD j (.is undef)).holds (y j) w ∧ X j y w) fx w) 0 (ops.toList.take N))
 (htail : ∀ x W, toldX x W slots ys → (∀ j, j < N → X j (fun k => x (slots.getD k 0)) W) → Ext w W → wpList P ops Q (ops.toList.drop N) ⟨fillX T x slots ys, df⟩ W) : (Code.region id ops true).wp P Q ⟨T, df⟩ w := by
 have hloc : ∀ j y y' A, y j = y' j → (∀ k, (j, k) ∈ dep → y k = y' k) → ((ys.getD j (.is undef)).holds (y j) A ∧ X j y A) → ((ys.getD j (.is undef)).holds (y' j) A ∧ X j y' A) := fun j y y' A h1 h2 h3 => ⟨by rw [← h1]; exact h3.1, hXl j y y' A h1 h2 h3.2⟩
 refine wp_region_taile hm N hN (fun j => slots.getD j 0) (fun j y w => (ys.getD j (.is undef)).holds (y j) w ∧ X j y w) dep slots hds hs hap hlow hgd hin hdom hch hdp Ext ((Ext.refl w).drew) (fun _ _ _ h k => h.trans k)
  (fun j _ _ _ h k => ⟨Ent.hold_on (keepsAll_get ys j hk) h.1 k, hXm _ _ _ _ h.2 k⟩) hloc ?_ ?_
 ·refine stepsG P Q T df slots _ _ dep fx w N (fun j hj => ?_) hfx hout (fun j k h => ?_) hloc (ops.toList.take N) 0 (by simp; omega) (waitsOkN_get hwo) hsteps
  ·have hm : (fun j => slots.getD j 0) j ∈ slots := by
    have : (fun j => slots.getD j 0) j ∈ (List.range N).map (fun j => slots.getD j 0) := List.mem_map.2 ⟨j, List.mem_range.2 hj, rfl⟩
    rw [← hds] at this
    exact this
   refine ⟨hm, ?_⟩
   rw [List.all_eq_true] at hin
   simpa using hin _ hm
  ·unfold depOk at hdp
   rw [List.all_eq_true] at hdp
   have h1 := hdp _ h
   rw [Bool.and_eq_true] at h1
   exact of_decide_eq_true h1.1
 ·intro x W hv hR
  obtain ⟨h1, h2⟩ := fillX_eq T x W slots ys hly (fun j hj => (hv j (by rw [hds] at hj; simpa using hj)).1)
  rw [h1]
  exact htail x W h2 (fun j hj => (hv j hj).2) hR
end Go.Proofs.Ythcnganbnbhhoaa
namespace Go.Proofs.Ythcnganbnbhhoaa
open Go.RowKit
def RegStepR (P : Program) (Q : Exit → Act → World → Prop) (df : List Deferred) (slot : Nat → Nat) (Val : Nat → Value → World → Prop) (fx : List (Nat × Value)) (R : World → World → Prop) (w : World) (j : Nat) (o : Oper) : Prop :=
 ∀ F W, fixedAt F fx → (∀ e ∈ o.after, Region.binds .any e = true → Val e.on (F.getD (slot e.on) undef) W) → R w W →
   ((∀ g b, o.guard = some (g, b) → F.getD (slot g) undef = .bool b) → ∀ K, (∀ v W', Val j v W' → R W W' → K (Act.put ⟨F, df⟩ o.dst v) W') → o.wp P ⟨F, df⟩ W K Q) ∧
   (∀ g b, o.guard = some (g, b) → F.getD (slot g) undef ≠ .bool b → Val j undef W ∧ R W W)
theorem stepsR (P : Program) (Q : Exit → Act → World → Prop) (T : Array Value) (df : List Deferred) (ds : List Nat) (slot : Nat → Nat) (Val : Nat → Value → World → Prop) (fx : List (Nat × Value)) (R : World → World → Prop) (w : World) (N : Nat)
 (hd : ∀ j, j < N → slot j ∈ ds ∧ slot j < T.size) (hfx : fixedAt T fx) (hout : (fx.all fun p => !ds.contains p.1) = true) :
 ∀ (l : List Oper) (i : Nat), (∀ o ∈ l, (∀ e ∈ o.after, Region.binds .any e = true → e.on < N) ∧ (∀ g b, o.guard = some (g, b) → g < N)) → stepsAll (RegStepR P Q df slot Val fx R w) i l → stepsAll (RegStep P Q T df ds slot Val R w) i l
 | [], _, _, _ => trivial
 | o :: l, i, hw, h => by
   obtain ⟨hw1, hw2⟩ := hw o (by simp)
   refine ⟨fun x W he hR => ?_, stepsR P Q T df ds slot Val fx R w N hd hfx hout l (i + 1) (fun o' ho' => hw o' (by simp [ho'])) h.2⟩
   have hg : ∀ k, k < N → (fill T x ds).getD (slot k) undef = x (slot k) := fun k hk => by rw [fill_getD, if_pos (hd k hk)]
   obtain ⟨h1, h2⟩ := h.1 (fill T x ds) W (fixed_fill T x ds fx hout hfx) (fun e he1 he2 => by rw [hg _ (hw1 e he1 he2)]; exact he e he1 he2) hR
   exact ⟨fun hgd => h1 (fun g b hgb => by rw [hg _ (hw2 g b hgb)]; exact hgd g b hgb), fun g b hgb hn => h2 g b hgb (by rw [hg _ (hw2 g b hgb)]; exact hn)⟩
def keepsAllR (R : World → World → Prop) : List Ent → Prop
 | [] => True
 | .is _ :: l => keepsAllR R l
 | .so p :: l => (∀ v A B, p v A → R A B → p v B) ∧ keepsAllR R l
theorem keepsAllR_get {R : World → World → Prop} : ∀ (l : List Ent) (j : Nat), keepsAllR R l → ∀ v A B, (l.getD j (.is undef)).holds v A → R A B → (l.getD j (.is undef)).holds v B
 | [], j, _, v, A, B, h, _ => by simpa [Ent.holds] using h
 | .is c :: l, 0, _, v, A, B, h, _ => h
 | .so p :: l, 0, hk, v, A, B, h, k => hk.1 v A B h k
 | .is c :: l, j + 1, hk, v, A, B, h, k => by rw [List.getD_cons_succ] at h ⊢; exact keepsAllR_get l j hk v A B h k
 | .so p :: l, j + 1, hk, v, A, B, h, k => by rw [List.getD_cons_succ] at h ⊢; exact keepsAllR_get l j hk.2 v A B h k
theorem wp_region_r (R : World → World → Prop) (N : Nat) (slots : List Nat) (ys : List Ent) (fx : List (Nat × Value)) {P : Program} {ops : Array Oper} {Q : Exit → Act → World → Prop} {id : Nat} {T : Array Value} {df : List Deferred} {w : World} (hm : P.follows .mixedOrders = true) (hN : N < ops.size)
 (hR0 : R w w.drew) (hRt : ∀ A B C, R A B → R B C → R A C) (hRm : keepsAllR R ys)
 (hds : slots = (List.range N).map (fun j => slots.getD j 0)) (hly : slots.length = ys.length) (hs : slotsOkN ops N (fun j => slots.getD j 0) = true) (hap : slotsApart N (fun j => slots.getD j 0) = true) (hlow : lowEdges ops = true)
 (hgd : guardsOk ops = true) (hin : slots.all (fun d => decide (d < T.size)) = true) (hdom : domOk ops N = true) (hch : chainOk ops N = true) (hwo : waitsOkN ops N = true) (hout : (fx.all fun p => !slots.contains p.1) = true) (hfx : fixedAt T fx)
 (hsteps : stepsAll (RegStepR P Q df (fun j => slots.getD j 0) (fun j v w => (ys.getD j (.is undef)).holds v w) fx R w) 0 (ops.toList.take N))
 (htail : ∀ x W, toldX x W slots ys → R w W → wpList P ops Q (ops.toList.drop N) ⟨fillX T x slots ys, df⟩ W) : (Code.region id ops true).wp P Q ⟨T, df⟩ w := by
 refine wp_region_tail hm N hN (fun j => slots.getD j 0) (fun j v w => (ys.getD j (.is undef)).holds v w) slots hds hs hap hlow hgd hin hdom hch R hR0 hRt (keepsAllR_get ys · hRm) ?_ ?_
 ·refine stepsR P Q T df slots _ _ fx R w N (fun j hj => ?_) hfx hout (ops.toList.take N) 0 (waitsOkN_get hwo) hsteps
  have hm : (fun j => slots.getD j 0) j ∈ slots := by
   have : (fun j => slots.getD j 0) j ∈ (List.range N).map (fun j => slots.getD j 0) := List.mem_map.2 ⟨j, List.mem_range.2 hj, rfl⟩
   rw [← hds] at this
   exact this
  refine ⟨hm, ?_⟩
  rw [List.all_eq_true] at hin
  simpa using hin _ hm
 ·intro x W hv hR
  obtain ⟨h1, h2⟩ := fillX_eq T x W slots ys hly (fun j hj => hv j (by rw [hds] at hj; simpa using hj))
  rw [h1]
  exact htail x W h2 hR
/-- One block turns from one content to another, once; all else is as before, or new. -/
def TurnsTo (b : Nat) (new : Obj) (base : World) (A B : World) : Prop := (Ext base A → Ext base B) ∧ (B.heap[b]? = A.heap[b]? ∨ B.heap[b]? = some new)
theorem TurnsTo.trans {b : Nat} {new : Obj} {base A B C : World} (h : TurnsTo b new base A B) (k : TurnsTo b new base B C) : TurnsTo b new base A C :=
 ⟨fun x => k.1 (h.1 x), by
  rcases k.2 with k2 | k2
  ·rcases h.2 with h2 | h2
   ·exact .inl (k2.trans h2)
   ·exact .inr (k2.trans h2)
  ·exact .inr k2⟩
theorem TurnsTo.drew {b : Nat} {new : Obj} {base : World} (A : World) : TurnsTo b new base A A.drew := ⟨fun h => h.drew, .inl rfl⟩
theorem TurnsTo.refl {b : Nat} {new : Obj} {base : World} (A : World) : TurnsTo b new base A A := ⟨fun h => h, .inl rfl⟩
theorem TurnsTo.kept {b : Nat} {new : Obj} {base A B : World} (h : TurnsTo b new base A B) (k : A.heap[b]? = some new) : B.heap[b]? = some new := by
 rcases h.2 with h2 | h2
 ·rw [h2]; exact k
 ·exact h2
end Go.Proofs.Ythcnganbnbhhoaa
namespace Go.Proofs.Ythcnganbnbhhoaa
open Go.RowKit
theorem extract_yields {P : Program} {Q : Exit → Act → World → Prop} {o : Oper} {x : Operand} {k : Nat} {a : Act} {W : World} {K : Act → World → Prop} (ho : o.op = .extract x k) (h : o.wp P a W K Q) :
 ∃ v, (∀ w, (execOp a.eval o).run P w = .ok (.value v) w) ∧ K (a.put o.dst v) W := by
 obtain ⟨dst, op, type, pos, after, guard⟩ := o
 dsimp only at ho
 subst ho
 unfold Oper.wp at h
 simp only [execOp] at h ⊢
 cases hx : a.eval x <;> rw [hx] at h <;> simp [go_sem, Oper.upon] at h ⊢
 rename_i vs
 cases hv : vs[k]? with
 | none => rw [hv] at h; simp [go_sem] at h
 | some v => rw [hv] at h; simp [go_sem] at h ⊢; exact h
section
variable {P : Program} {ops : Array Oper} {Q : Exit → Act → World → Prop}
theorem wpAny_inv_e (E : List Nat) (Inv : Array Bool → Act → World → Prop) (hsel : Region.noSelect ops = true) (hQ : ∀ c a d v w, Q (.panic c) (Act.put a d v) w → Q (.panic c) a w)
 (hap : ∀ i ∈ E, ∀ oi, ops[i]? = some oi → ∀ j oj, ops[j]? = some oj → j ≠ i → (∀ e ∈ oj.after, Region.binds .any e = true → e.on ≠ i) → (∀ e ∈ oi.after, Region.binds .any e = true → e.on ≠ j) → oi.apart ops oj = true)
 (hE : ∀ listed a w i, Inv listed a w → i ∈ E → i ∈ Region.ready .any ops listed → ∃ oi v, ops[i]? = some oi ∧ Yields P ops oi v a ∧ Inv (listed.setIfInBounds i true) (a.put oi.dst v) w)
 (hstep : ∀ listed a w i, Inv listed a w → (∀ e ∈ E, e ∉ Region.ready .any ops listed) → i ∈ Region.ready .any ops listed → wpOp P ops Q i (Inv (listed.setIfInBounds i true)) a w)
 (hend : ∀ listed a w, Region.ready .any ops listed = [] → Inv listed a w → Q .normal a w) :
 ∀ (fuel : Nat) (listed : Array Bool) (a : Act) (w : World), listed.toList.count false ≤ fuel → Inv listed a w → wpAny P .any ops Q fuel listed a w
 | 0, listed, a, w, hc, h => by
   have hr : Region.ready .any ops listed = [] := by
    rw [List.eq_nil_iff_forall_not_mem]
    intro i hi
    have := count_ready hi
    omega
   exact ⟨hr, hend _ _ _ hr h⟩
 | fuel + 1, listed, a, w, hc, h => by
   by_cases hex : ∃ e ∈ E, e ∈ Region.ready .any ops listed
   ·obtain ⟨i, hiE, hi⟩ := hex
    obtain ⟨oi, v, ho, hy, hI⟩ := hE listed a w i h hiE hi
    refine wpAny_first ho (Region.noSelect_spec hsel) (fun c a w => hQ c a _ _ w) fuel listed a w (fun j oj hj hne hun hno => hap i hiE oi ho j oj hj hne hno (fun e he hb hej => ?_)) hi hy ?_
    ·obtain ⟨_, oi', ho', hdep⟩ := mem_ready.1 hi
     rw [ho] at ho'
     injection ho' with ho'
     subst ho'
     have h1 := hdep e he hb
     rw [hej] at h1
     simp only [Array.getD_eq_getD_getElem?] at h1 hun
     cases hh : listed[j]? with
     | none => rw [hh] at h1; cases h1
     | some v => rw [hh] at h1 hun; dsimp only [Option.getD_some] at h1 hun; rw [h1] at hun; cases hun
    exact wpAny_inv_e E Inv hsel hQ hap hE hstep hend fuel _ _ w (by have := count_ready hi; omega) hI
   ·have hno : ∀ e ∈ E, e ∉ Region.ready .any ops listed := fun e he hr => hex ⟨e, he, hr⟩
    exact ⟨fun hr => hend _ _ _ hr h, fun i hi => wpOp_mono (fun a' w' h' => wpAny_inv_e E Inv hsel hQ hap hE hstep hend fuel _ a' w' (by have := count_ready hi; omega) h') (hstep listed a w i h hno hi)⟩
/-- What may be taken at once: what is extracted, and not guarded. -/
def eagerOk (ops : Array Oper) (E : List Nat) (N : Nat) : Bool := E.all fun i => decide (i < N) && match ops[i]? with
 | some o => (match o.op with | .extract _ _ => true | _ => false) && o.guard.isNone && ((List.range ops.size).all fun j => j == i || hasEdge ops j i || hasEdge ops i j || (match ops[j]? with | some oj => o.apart ops oj | none => true))
 | none => false
/-- The operation N waits for all before it, by one way or another, but for those that are taken at once. -/
def domE (ops : Array Oper) (E : List Nat) (N : Nat) : Bool := (List.range N).all fun j => E.contains j || (List.range (N + 1)).any fun i => decide (j < i) && (i == N || !E.contains i) && hasEdge ops i j
def freeE (ops : Array Oper) (E : List Nat) (N : Nat) : Bool := E.all fun i => match ops[i]? with | some o => o.after.all fun e => !Region.binds .any e || (decide (e.on < N) && !E.contains e.on) | none => false
theorem dom_listedE {listed : Array Bool} {E : List Nat} {N : Nat} (hd : domE ops E N = true) (hcl : Closed .any ops listed) {o : Oper} (ho : ops[N]? = some o) (hall : ∀ e ∈ o.after, Region.binds .any e = true → listed.getD e.on false = true) :
 ∀ k j, N - j ≤ k → j < N → j ∉ E → listed.getD j false = true := by
 intro k
 induction k with
 | zero => intro j h1 h2; omega
 | succ k ih =>
   intro j h1 h2 hjE
   unfold domE at hd
   rw [List.all_eq_true] at hd
   have h3 := hd j (List.mem_range.2 h2)
   rw [Bool.or_eq_true] at h3
   rcases h3 with h3 | h3
   ·exact absurd (by simpa using h3) hjE
   rw [List.any_eq_true] at h3
   obtain ⟨i, hi, hb⟩ := h3
   rw [Bool.and_eq_true, Bool.and_eq_true, Bool.or_eq_true] at hb
   have hji := of_decide_eq_true hb.1.1
   have hiN := List.mem_range.1 hi
   by_cases hin : i = N
   ·subst hin
    exact hasEdge_listed hb.2 ho hall
   ·have hiE : i ∉ E := by
     rcases hb.1.2 with h | h
     ·exact absurd (by simpa using h) hin
     ·simpa using h
    have hli := ih i (by omega) (by omega) hiE
    have hlt : i < ops.size := by have := (Array.getElem?_eq_some_iff.1 ho).1; omega
    exact hasEdge_listed hb.2 (Array.getElem?_eq_getElem hlt) (hcl i _ (Array.getElem?_eq_getElem hlt) hli)
theorem wp_region_taileg (E : List Nat) {id : Nat} {T : Array Value} {df : List Deferred} {w : World} (hm : P.follows .mixedOrders = true) (N : Nat) (hN : N < ops.size)
 (slot : Nat → Nat) (Val : Nat → Value → World → Prop) (ds : List Nat) (hds : ds = (List.range N).map slot) (hs : slotsOkN ops N slot = true) (hap : slotsApart N slot = true) (hlow : lowBinds ops = true)
 (hgd : guardsOk ops = true) (hin : ds.all (fun d => decide (d < T.size)) = true) (hdom : domE ops E N = true) (hch : chainOk ops N = true) (heg : eagerOk ops E N = true) (hfr : freeE ops E N = true) (hsel : Region.noSelect ops = true)
 (hQ : ∀ c a d v w, Q (.panic c) (Act.put a d v) w → Q (.panic c) a w)
 (R : World → World → Prop) (hR0 : R w w.drew) (hRt : ∀ A B C, R A B → R B C → R A C)
 (hmono : ∀ j v A B, Val j v A → R A B → Val j v B)
 (hsteps : stepsAll (RegStep P Q T df ds slot Val R w) 0 (ops.toList.take N))
 (htail : ∀ x W, (∀ j, j < N → Val j (x (slot j)) W) → R w W → wpList P ops Q (ops.toList.drop N) ⟨fill T x ds, df⟩ W) : (Code.region id ops true).wp P Q ⟨T, df⟩ w := by
 have hgj : ∀ j o, ops[j]? = some o → j < N → ∀ g b, o.guard = some (g, b) → g < N := by
  intro j o ho hjN g b hg
  have hjl : j < ops.size := (Array.getElem?_eq_some_iff.1 ho).1
  unfold guardsOk at hgd
  rw [List.all_eq_true] at hgd
  have h1 := hgd j (List.mem_range.2 hjl)
  rw [ho] at h1
  dsimp only at h1
  rw [hg] at h1
  have := of_decide_eq_true h1
  omega
 have hget : ∀ j o, j < N → ops[j]? = some o → RegStep P Q T df ds slot Val R w j o := fun j o hjN ho => by
  have hS := stepsAll_get (ops.toList.take N) 0 hsteps j o (by rw [List.getElem?_take, if_pos hjN]; simpa using ho)
  rw [Nat.zero_add] at hS
  exact hS
 have hstep : ∀ j o x W, j < N → ops[j]? = some o → (∀ e ∈ o.after, Region.binds .any e = true → Val e.on (x (slot e.on)) W) → R w W →
  wpOp P ops Q j (fun a' W' => ∃ v, a' = Act.put ⟨fill T x ds, df⟩ o.dst v ∧ Val j v W' ∧ R W W') ⟨fill T x ds, df⟩ W := by
  intro j o x W hjN ho hd hR
  obtain ⟨hS1, hS2⟩ := hget j o hjN ho x W hd hR
  have hy : ∀ g, g < N → yielded ops (fill T x ds) g = match x (slot g) with | .bool b => some b | _ => none := by
   intro g hg
   have hgs : g < ops.size := by omega
   have hdst : (ops[g]?).bind (·.dst) = some (slot g) := by
    unfold slotsOkN at hs
    rw [List.all_eq_true] at hs
    have h1 := hs g (List.mem_range.2 hg)
    rw [Array.getElem?_eq_getElem hgs] at h1 ⊢
    simpa using h1
   have hmem : slot g ∈ ds := by rw [hds]; exact List.mem_map.2 ⟨g, List.mem_range.2 hg, rfl⟩
   have hlt : slot g < T.size := by
    rw [List.all_eq_true] at hin
    simpa using hin _ hmem
   unfold yielded
   rw [hdst, Option.bind_some, fill_get, if_pos ⟨hmem, hlt⟩]
   cases x (slot g) <;> rfl
  unfold wpOp
  rw [ho]
  dsimp only
  cases hw : Region.wanted o (yielded ops (fill T x ds)) with
  | true =>
    rw [if_pos rfl]
    refine .inl (hS1 ?_ _ fun v W' h k => ⟨v, rfl, h, k⟩)
    intro g b hg
    unfold Region.wanted at hw
    rw [hg] at hw
    dsimp only at hw
    rw [hy g (hgj j o ho hjN g b hg)] at hw
    cases hx : x (slot g) with
    | bool c => rw [hx] at hw; simp at hw; rw [hw]
    | _ => rw [hx] at hw; simp at hw
  | false =>
    rw [if_neg (by decide)]
    cases hg : o.guard with
    | none => unfold Region.wanted at hw; rw [hg] at hw; cases hw
    | some p =>
      obtain ⟨g, b⟩ := p
      refine ⟨undef, rfl, hS2 g b hg ?_⟩
      intro hx
      unfold Region.wanted at hw
      rw [hg] at hw
      dsimp only at hw
      rw [hy g (hgj j o ho hjN g b hg), hx] at hw
      simp at hw
 have hlist : ∀ m o, ops[m]? = some o → ops.toList.drop m = o :: ops.toList.drop (m + 1) := fun m o ho => by
  obtain ⟨hlt, rfl⟩ := Array.getElem?_eq_some_iff.1 ho
  rw [List.drop_eq_getElem_cons (by simpa using hlt)]
  simp
 have hop : ∀ m a W, wpList P ops Q (ops.toList.drop m) a W → ∀ o, ops[m]? = some o → wpOp P ops Q m (wpList P ops Q (ops.toList.drop (m + 1))) a W := fun m a W h o ho => by
  rw [hlist m o ho] at h
  unfold wpList at h
  unfold wpOp
  rw [ho]
  exact h
 have heg1 : ∀ i ∈ E, i < N ∧ ∃ o x k, ops[i]? = some o ∧ o.op = .extract x k ∧ o.guard = none ∧ ∀ j oj, ops[j]? = some oj → j ≠ i → (∀ e ∈ oj.after, Region.binds .any e = true → e.on ≠ i) → (∀ e ∈ o.after, Region.binds .any e = true → e.on ≠ j) → o.apart ops oj = true := by
  intro i hi
  unfold eagerOk at heg
  rw [List.all_eq_true] at heg
  have h1 := heg i hi
  rw [Bool.and_eq_true] at h1
  refine ⟨of_decide_eq_true h1.1, ?_⟩
  have h2 := h1.2
  cases ho : ops[i]? with
  | none => rw [ho] at h2; cases h2
  | some o =>
    rw [ho] at h2
    dsimp only at h2
    rw [Bool.and_eq_true, Bool.and_eq_true] at h2
    cases hop' : o.op with
    | extract x k =>
      refine ⟨o, x, k, rfl, hop', by simpa using h2.1.2, fun j oj hj hne hno hno2 => ?_⟩
      have h3 := h2.2
      rw [List.all_eq_true] at h3
      have h4 := h3 j (List.mem_range.2 (Array.getElem?_eq_some_iff.1 hj).1)
      rw [Bool.or_eq_true, Bool.or_eq_true, Bool.or_eq_true] at h4
      rcases h4 with ((h4 | h4) | h4) | h4
      ·exact absurd (by simpa using h4) hne
      ·unfold hasEdge at h4
       rw [hj] at h4
       dsimp only at h4
       rw [Array.any_eq_true'] at h4
       obtain ⟨e, he, hb⟩ := h4
       rw [Bool.and_eq_true] at hb
       exact absurd (of_decide_eq_true hb.2) (hno e he hb.1)
      ·unfold hasEdge at h4
       rw [ho] at h4
       dsimp only at h4
       rw [Array.any_eq_true'] at h4
       obtain ⟨e, he, hb⟩ := h4
       rw [Bool.and_eq_true] at hb
       exact absurd (of_decide_eq_true hb.2) (hno2 e he hb.1)
      ·rw [hj] at h4; exact h4
    | _ => rw [hop'] at h2; simp at h2
 have hslot : ∀ i o, i < N → ops[i]? = some o → o.dst = some (slot i) := fun i o hiN ho => by
  unfold slotsOkN at hs
  rw [List.all_eq_true] at hs
  have h1 := hs i (List.mem_range.2 hiN)
  rw [ho] at h1
  simpa using h1
 have hlo : ∀ i o, ops[i]? = some o → ∀ e ∈ o.after, Region.binds .any e = true → e.on < i := fun i o ho e he hb => by
  unfold lowBinds at hlow
  rw [List.all_eq_true] at hlow
  have h1 := hlow i (List.mem_range.2 (Array.getElem?_eq_some_iff.1 ho).1)
  rw [ho] at h1
  dsimp only at h1
  rw [Array.all_eq_true_iff_forall_mem] at h1
  have h2 := h1 e he
  rw [hb] at h2
  simpa using h2
 have hput : ∀ (listed : Array Bool) (x : Nat → Value) (i : Nat) (o : Oper) (W W' : World) (v : Value), i < N → ops[i]? = some o → listed.getD i true = false → R w W → R W W' → Val i v W' →
  (∀ j, N ≤ j → listed.getD j false = false) → (∀ j, j < N → listed.getD j false = true → Val j (x (slot j)) W) →
  ∃ x', Act.put ⟨fill T x ds, df⟩ o.dst v = ⟨fill T x' ds, df⟩ ∧ R w W' ∧ (∀ j, N ≤ j → (listed.setIfInBounds i true).getD j false = false) ∧ ∀ j, j < N → (listed.setIfInBounds i true).getD j false = true → Val j (x' (slot j)) W' := by
  intro listed x i o W W' v hiN ho hun hx hx' hval hno hv
  have hmem : slot i ∈ ds := by rw [hds]; exact List.mem_map.2 ⟨i, List.mem_range.2 hiN, rfl⟩
  refine ⟨fun k => if k = slot i then v else x k, by rw [hslot i o hiN ho]; simp only [Act.put]; rw [fill_put _ _ _ _ hmem], hRt _ _ _ hx hx', fun j hj => by rw [getD_upd hun, if_neg (by omega)]; exact hno j hj, fun j hj hl => ?_⟩
  dsimp only
  by_cases hji : j = i
  ·subst hji; rw [if_pos rfl]; exact hval
  ·have hne : slot j ≠ slot i := by
    unfold slotsApart at hap
    rw [List.all_eq_true] at hap
    have h1 := hap j (List.mem_range.2 hj)
    rw [List.all_eq_true] at h1
    have h2 := h1 i (List.mem_range.2 hiN)
    simpa [hji] using h2
   rw [if_neg hne]
   rw [getD_upd hun, if_neg hji] at hl
   exact hmono _ _ _ _ (hv j hj hl) hx'
 have hff : ∀ (listed : Array Bool) (i : Nat), listed.getD i true = false → listed.getD i false = false := fun listed i hun => by
  simp only [Array.getD_eq_getD_getElem?] at hun ⊢
  cases hh : listed[i]? with
  | none => rfl
  | some v => rw [hh] at hun; exact hun
 refine wp_region_any hm (wpAny_inv_e E (fun listed a W => listed.size = ops.size ∧ Closed .any ops listed ∧ ((∃ x, a = ⟨fill T x ds, df⟩ ∧ R w W ∧ (∀ j, N ≤ j → listed.getD j false = false) ∧ ∀ j, j < N → listed.getD j false = true → Val j (x (slot j)) W) ∨
  (∃ m, N < m ∧ m ≤ ops.size ∧ (∀ j, m ≤ j → listed.getD j false = false) ∧ (∀ j, j < m → listed.getD j false = true) ∧ wpList P ops Q (ops.toList.drop m) a W))) hsel hQ ?_ ?_ ?_ ?_ _ _ _ _ (by rw [Array.toList_replicate, List.count_replicate_self]; exact Nat.le_refl _) ⟨by simp, (fun j o _ hj => (by rw [getD_rep] at hj; cases hj) : Closed .any ops (Array.replicate ops.size false)), .inl ⟨fun d => T.getD d undef, by rw [fill_self], hR0, fun j _ => getD_rep _ j, fun j _ h => by rw [getD_rep] at h; cases h⟩⟩)
 ·intro i hi oi ho j oj hj hne hno hno2
  obtain ⟨_, o, x, k, ho', _, _, h⟩ := heg1 i hi
  rw [ho] at ho'
  injection ho' with ho'
  subst ho'
  exact h j oj hj hne hno hno2
 ·rintro listed a W i ⟨hls, hcl, hInv⟩ hiE hi
  obtain ⟨hun, o, ho, hdep⟩ := mem_ready.1 hi
  obtain ⟨hiN, o', ox, ok, ho', hoe, hog, _⟩ := heg1 i hiE
  rw [ho] at ho'
  injection ho' with ho'
  subst ho'
  rcases hInv with ⟨x, rfl, hx, hno, hv⟩ | ⟨m, hm1, hm2, hno, hyes, hw⟩
  ·have hd : ∀ e ∈ o.after, Region.binds .any e = true → Val e.on (x (slot e.on)) W := fun e he hb => hv e.on (by have := hlo i o ho e he hb; omega) (hdep e he hb)
   obtain ⟨hS1, _⟩ := hget i o hiN ho x W hd hx
   obtain ⟨v, hrun, v', hpv, hval, hx'⟩ := extract_yields hoe (hS1 (fun g b hgb => by rw [hog] at hgb; cases hgb) (fun a' W' => ∃ v, a' = Act.put ⟨fill T x ds, df⟩ o.dst v ∧ Val i v W' ∧ R W W') fun v W' h k => ⟨v, rfl, h, k⟩)
   refine ⟨o, v, ho, .inl ⟨by simp [Region.wanted, hog], hrun⟩, by rw [Array.size_setIfInBounds]; exact hls, hcl.step hi, .inl ?_⟩
   rw [hpv]
   exact hput listed x i o W W v' hiN ho hun hx hx' hval hno hv
  ·have h1 := hyes i (by omega)
   rw [hff _ _ hun] at h1
   cases h1
 ·rintro listed a W i ⟨hls, hcl, hInv⟩ hnoE hi
  obtain ⟨hun, o, ho, hdep⟩ := mem_ready.1 hi
  have hilt : i < ops.size := (Array.getElem?_eq_some_iff.1 ho).1
  have hchain : N < i → listed.getD (i - 1) false = true := fun h => by
   unfold chainOk at hch
   rw [List.all_eq_true] at hch
   have h1 := hch i (List.mem_range.2 hilt)
   rw [Bool.or_eq_true] at h1
   rcases h1 with h1 | h1
   ·have := of_decide_eq_true h1; omega
   ·exact hasEdge_listed h1 ho hdep
  have hsz : ∀ (K : Act → World → Prop) (a : Act) (W : World), wpOp P ops Q i K a W → wpOp P ops Q i (fun a' W' => (listed.setIfInBounds i true).size = ops.size ∧ Closed .any ops (listed.setIfInBounds i true) ∧ K a' W') a W := fun K a W h => wpOp_mono (fun a' W' h' => ⟨by rw [Array.size_setIfInBounds]; exact hls, hcl.step hi, h'⟩) h
  refine hsz _ _ _ ?_
  rcases hInv with ⟨x, rfl, hx, hno, hv⟩ | ⟨m, hm1, hm2, hno, hyes, hw⟩
  ·by_cases hiN : i < N
   ·refine wpOp_mono ?_ (hstep i o x W hiN ho (fun e he hb => hv e.on (by have := hlo i o ho e he hb; omega) (hdep e he hb)) hx)
    rintro a' W' ⟨v, rfl, hval, hx'⟩
    exact .inl (hput listed x i o W W' v hiN ho hun hx hx' hval hno hv)
   ·have hieq : i = N := by
     rcases Nat.lt_or_ge N i with h | h
     ·have h1 := hchain h
      rw [hno (i - 1) (by omega)] at h1
      cases h1
     ·omega
    subst hieq
    have hallN := dom_listedE hdom hcl ho hdep i
    have hall : ∀ j, j < i → listed.getD j false = true := fun j hj => by
     by_cases hjE : j ∈ E
     ·obtain ⟨hjN, oj, _, _, hoj, _, _, _⟩ := heg1 j hjE
      cases hh : listed.getD j false with
      | true => rfl
      | false =>
        refine absurd (mem_ready.2 ⟨?_, oj, hoj, fun e he hb => ?_⟩) (hnoE j hjE)
        ·have hjl : j < listed.size := by omega
         simpa [Array.getD, hjl] using hh
        ·unfold freeE at hfr
         rw [List.all_eq_true] at hfr
         have h1 := hfr j hjE
         rw [hoj] at h1
         dsimp only at h1
         rw [Array.all_eq_true_iff_forall_mem] at h1
         have h2 := h1 e he
         rw [hb] at h2
         simp only [Bool.not_true, Bool.false_or, Bool.and_eq_true, decide_eq_true_eq] at h2
         exact hallN e.on (by omega) h2.1 (by simpa using h2.2)
     ·exact hallN j (by omega) hj hjE
    have hw := htail x W (fun j hj => hv j hj (hall j hj)) hx
    refine wpOp_mono ?_ (hop i _ _ hw o ho)
    intro a' W' h'
    exact .inr ⟨i + 1, by omega, by omega, fun j hj => by rw [getD_upd hun, if_neg (by omega)]; exact hno j (by omega), fun j hj => by
     rw [getD_upd hun]
     by_cases hji : j = i
     ·rw [if_pos hji]
     ·rw [if_neg hji]; exact hall j (by omega), h'⟩
  ·have hieq : i = m := by
    rcases Nat.lt_or_ge i m with h | h
    ·have h1 := hyes i h
     rw [hff _ _ hun] at h1
     cases h1
    ·rcases Nat.lt_or_ge m i with h' | h'
     ·have h1 := hchain (by omega)
      rw [hno (i - 1) (by omega)] at h1
      cases h1
     ·omega
   subst hieq
   refine wpOp_mono ?_ (hop i _ _ hw o ho)
   intro a' W' h'
   exact .inr ⟨i + 1, by omega, by omega, fun j hj => by rw [getD_upd hun, if_neg (by omega)]; exact hno j (by omega), fun j hj => by
    rw [getD_upd hun]
    by_cases hji : j = i
    ·rw [if_pos hji]
    ·rw [if_neg hji]; exact hyes j (by omega), h'⟩
 ·rintro listed a W hr ⟨hls, hcl, hInv⟩
  have hall := all_listed' hlow hls hr
  rcases hInv with ⟨x, rfl, hx, hno, hv⟩ | ⟨m, hm1, hm2, hno, hyes, hw⟩
  ·have h1 := hall N hN
   rw [hno N (Nat.le_refl _)] at h1
   cases h1
  ·have hme : m = ops.size := by
    rcases Nat.lt_or_ge m ops.size with h | h
    ·have h1 := hall m h
     rw [hno m (Nat.le_refl _)] at h1
     cases h1
    ·omega
   subst hme
   rw [List.drop_eq_nil_of_le (by simp)] at hw
   exact hw
end
/-- Edges that bind come from below N. -/
def waitsE (ops : Array Oper) (N : Nat) : Bool := (ops.toList.take N).all fun o => o.after.all (fun e => !Region.binds .any e || decide (e.on < N)) && (match o.guard with | some (g, _) => decide (g < N) | none => true)
theorem waitsE_get {ops : Array Oper} {N : Nat} (h : waitsE ops N = true) : ∀ o ∈ ops.toList.take N, (∀ e ∈ o.after, Region.binds .any e = true → e.on < N) ∧ (∀ g b, o.guard = some (g, b) → g < N) := by
 intro o ho
 unfold waitsE at h
 rw [List.all_eq_true] at h
 have h1 := h o ho
 rw [Bool.and_eq_true, Array.all_eq_true_iff_forall_mem] at h1
 refine ⟨fun e he hb => ?_, fun g b hg => ?_⟩
 ·have h2 := h1.1 e he
  rw [hb] at h2
  simpa using h2
 ·have h2 := h1.2
  rw [hg] at h2
  simpa using h2
theorem wp_region_g (E : List Nat) (N : Nat) (slots : List Nat) (ys : List Ent) (fx : List (Nat × Value)) {P : Program} {ops : Array Oper} {Q : Exit → Act → World → Prop} {id : Nat} {T : Array Value} {df : List Deferred} {w : World} (hm : P.follows .mixedOrders = true) (hN : N < ops.size)
 (hds : slots = (List.range N).map (fun j => slots.getD j 0)) (hly : slots.length = ys.length) (hs : slotsOkN ops N (fun j => slots.getD j 0) = true) (hap : slotsApart N (fun j => slots.getD j 0) = true) (hlow : lowBinds ops = true)
 (hgd : guardsOk ops = true) (hin : slots.all (fun d => decide (d < T.size)) = true) (hdom : domE ops E N = true) (hch : chainOk ops N = true) (heg : eagerOk ops E N = true) (hfr : freeE ops E N = true) (hsel : Region.noSelect ops = true) (hwo : waitsE ops N = true) (hout : (fx.all fun p => !slots.contains p.1) = true)
 (hQ : ∀ c a d v w, Q (.panic c) (Act.put a d v) w → Q (.panic c) a w) (hk : keepsAll ys) (hfx : fixedAt T fx)
 (hsteps : stepsAll (RegStepF P Q df (fun j => slots.getD j 0) (fun j v w => (ys.getD j (.is undef)).holds v w) fx w) 0 (ops.toList.take N))
 (htail : ∀ x W, toldX x W slots ys → Ext w W → wpList P ops Q (ops.toList.drop N) ⟨fillX T x slots ys, df⟩ W) : (Code.region id ops true).wp P Q ⟨T, df⟩ w := by
 refine wp_region_taileg E hm N hN (fun j => slots.getD j 0) (fun j v w => (ys.getD j (.is undef)).holds v w) slots hds hs hap hlow hgd hin hdom hch heg hfr hsel hQ Ext ((Ext.refl w).drew) (fun _ _ _ h k => h.trans k) (fun j _ _ _ h k => Ent.hold_on (keepsAll_get ys j hk) h k) ?_ ?_
 ·refine stepsF P Q T df slots _ _ fx w N (fun j hj => ?_) hfx hout (ops.toList.take N) 0 (waitsE_get hwo) hsteps
  have hm : (fun j => slots.getD j 0) j ∈ slots := by
   have : (fun j => slots.getD j 0) j ∈ (List.range N).map (fun j => slots.getD j 0) := List.mem_map.2 ⟨j, List.mem_range.2 hj, rfl⟩
   rw [← hds] at this
   exact this
  refine ⟨hm, ?_⟩
  rw [List.all_eq_true] at hin
  simpa using hin _ hm
 ·intro x W hv hR
  obtain ⟨h1, h2⟩ := fillX_eq T x W slots ys hly (fun j hj => hv j (by rw [hds] at hj; simpa using hj))
  rw [h1]
  exact htail x W h2 hR
end Go.Proofs.Ythcnganbnbhhoaa
