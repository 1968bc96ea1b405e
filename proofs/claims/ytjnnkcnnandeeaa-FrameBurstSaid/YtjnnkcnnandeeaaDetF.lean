/- A drawn region in which each operation writes a slot of its own and memory only grows: each operation is looked at over an unknown frame of which but a few slots are told. -/
import Derived.Test.YtjnnkcnnandeeaaDetX
namespace Go.Proofs.Ytjnnkcnnandeeaa
open Go.RowKit
/-- What these slots hold. -/
def fixedAt (F : Array Value) : List (Nat × Value) → Prop
  | [] => True
  | p :: l => F.getD p.1 undef = p.2 ∧ fixedAt F l
theorem fill_getD (T : Array Value) (x : Nat → Value) (ds : List Nat) (i : Nat) : (fill T x ds).getD i undef = if i ∈ ds ∧ i < T.size then x i else T.getD i undef := by
  rw [Array.getD_eq_getD_getElem?, fill_get]
  split
  · rfl
  · rw [← Array.getD_eq_getD_getElem?]
theorem fixed_fill (T : Array Value) (x : Nat → Value) (ds : List Nat) : ∀ (fx : List (Nat × Value)), (fx.all fun p => !ds.contains p.1) = true → fixedAt T fx → fixedAt (fill T x ds) fx
  | [], _, _ => trivial
  | p :: l, ho, h => by
    rw [List.all_cons, Bool.and_eq_true] at ho
    have h1 : ¬ p.1 ∈ ds := by
      have := ho.1
      simpa using this
    exact ⟨by rw [fill_getD, if_neg (fun hh => h1 hh.1)]; exact h.1, fixed_fill T x ds l ho.2 h.2⟩
/-- What is to be shown of an operation. -/
def RegStepF (P : Program) (Q : Exit → Act → World → Prop) (df : List Deferred) (slot : Nat → Nat) (Val : Nat → Value → World → Prop) (fx : List (Nat × Value)) (w : World) (j : Nat) (o : Oper) : Prop :=
  ∀ F W, fixedAt F fx → (∀ e ∈ o.after, Region.binds .any e = true → Val e.on (F.getD (slot e.on) undef) W) → Ext w W →
    ((∀ g b, o.guard = some (g, b) → F.getD (slot g) undef = .bool b) → ∀ K, (∀ v W', Val j v W' → Ext W W' → K (Act.put ⟨F, df⟩ o.dst v) W') → o.wp P ⟨F, df⟩ W K Q) ∧
    (∀ g b, o.guard = some (g, b) → F.getD (slot g) undef ≠ .bool b → Val j undef W ∧ Ext W W)
/-- Each operation that is waited for stands before. -/
theorem stepsF (P : Program) (Q : Exit → Act → World → Prop) (T : Array Value) (df : List Deferred) (ds : List Nat) (slot : Nat → Nat) (Val : Nat → Value → World → Prop) (fx : List (Nat × Value)) (w : World) (N : Nat)
    (hd : ∀ j, j < N → slot j ∈ ds ∧ slot j < T.size) (hfx : fixedAt T fx) (hout : (fx.all fun p => !ds.contains p.1) = true) :
    ∀ (l : List Oper) (i : Nat), (∀ o ∈ l, (∀ e ∈ o.after, Region.binds .any e = true → e.on < N) ∧ (∀ g b, o.guard = some (g, b) → g < N)) → stepsAll (RegStepF P Q df slot Val fx w) i l → stepsAll (RegStep P Q T df ds slot Val Ext w) i l
  | [], _, _, _ => trivial
  | o :: l, i, hw, h => by
    obtain ⟨hw1, hw2⟩ := hw o (by simp)
    refine ⟨fun x W he hR => ?_, stepsF P Q T df ds slot Val fx w N hd hfx hout l (i + 1) (fun o' ho' => hw o' (by simp [ho'])) h.2⟩
    have hg : ∀ k, k < N → (fill T x ds).getD (slot k) undef = x (slot k) := fun k hk => by rw [fill_getD, if_pos (hd k hk)]
    obtain ⟨h1, h2⟩ := h.1 (fill T x ds) W (fixed_fill T x ds fx hout hfx) (fun e he1 he2 => by rw [hg _ (hw1 e he1 he2)]; exact he e he1 he2) hR
    exact ⟨fun hgd => h1 (fun g b hgb => by rw [hg _ (hw2 g b hgb)]; exact hgd g b hgb), fun g b hgb hn => h2 g b hgb (by rw [hg _ (hw2 g b hgb)]; exact hn)⟩
/-- Each wait and each guard looks at operations of the region. -/
def waitsOk (ops : Array Oper) : Bool := ops.toList.all fun o => o.after.all (fun e => decide (e.on < ops.size)) && (match o.guard with | some (g, _) => decide (g < ops.size) | none => true)
theorem waitsOk_get {ops : Array Oper} (h : waitsOk ops = true) : ∀ o ∈ ops.toList, (∀ e ∈ o.after, Region.binds .any e = true → e.on < ops.size) ∧ (∀ g b, o.guard = some (g, b) → g < ops.size) := by
  intro o ho
  unfold waitsOk at h
  rw [List.all_eq_true] at h
  have h1 := h o ho
  rw [Bool.and_eq_true, Array.all_eq_true_iff_forall_mem] at h1
  refine ⟨fun e he _ => by simpa using h1.1 e he, fun g b hg => ?_⟩
  have h2 := h1.2
  rw [hg] at h2
  simpa using h2
theorem wp_region_f (slots : List Nat) (ys : List Ent) (fx : List (Nat × Value)) {P : Program} {ops : Array Oper} {Q : Exit → Act → World → Prop} {id : Nat} {T : Array Value} {df : List Deferred} {w : World} (hm : P.follows .mixedOrders = true)
    (hds : slots = (List.range ops.size).map (fun j => slots.getD j 0)) (hly : slots.length = ys.length) (hs : slotsOk ops (fun j => slots.getD j 0) = true) (hap : slotsApart ops.size (fun j => slots.getD j 0) = true) (hlow : lowBinds ops = true)
    (hgd : guardsOk ops = true) (hin : slots.all (fun d => decide (d < T.size)) = true) (hwo : waitsOk ops = true) (hout : (fx.all fun p => !slots.contains p.1) = true) (hk : keepsAll ys) (hfx : fixedAt T fx)
    (hsteps : stepsAll (RegStepF P Q df (fun j => slots.getD j 0) (fun j v w => (ys.getD j (.is undef)).holds v w) fx w) 0 ops.toList)
    (hend : ∀ x W, toldX x W slots ys → Ext w W → Q .normal ⟨fillX T x slots ys, df⟩ W) : (Code.region id ops true).wp P Q ⟨T, df⟩ w := by
  refine wp_region_x slots ys hm hds hly hs hap hlow hgd hin hk ?_ hend
  refine stepsF P Q T df slots _ _ fx w ops.size (fun j hj => ?_) hfx hout ops.toList 0 (waitsOk_get hwo) hsteps
  have hm : (fun j => slots.getD j 0) j ∈ slots := by
    have : (fun j => slots.getD j 0) j ∈ (List.range ops.size).map (fun j => slots.getD j 0) := List.mem_map.2 ⟨j, List.mem_range.2 hj, rfl⟩
    rw [← hds] at this
    exact this
  refine ⟨hm, ?_⟩
  rw [List.all_eq_true] at hin
  simpa using hin _ hm
end Go.Proofs.Ytjnnkcnnandeeaa
