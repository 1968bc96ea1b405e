/- A region that draws its order and only reads (its callees may make memory): each operation is shown once, its value found by the walk itself ('apply wp_region_det [slots] [_, ..]': as many '_' as slots: the tool det.py prints it). Over whatever program. A drawn region in which each operation writes a slot of its own and memory only grows: the values that are known are found by the walk; of some operations only what the value is good for is told. A drawn region in which each operation writes a slot of its own and memory only grows: each operation is looked at over an unknown frame of which but a few slots are told. A region in the order of its text, walked as a drawn one is: over an unknown frame of which but a few slots are told (for regions that the walk does not get through). -/
import Derived.Test.YtjnnkcnnandeeaaSlots
namespace Go.Proofs.Ytjnnkcnnandeeaa
open Go.RowKit
section
variable {P : Program} {ops : Array Oper} {Q : Exit → Act → World → Prop}
/-- Each operation waits for earlier ones alone, as far as it waits. -/
def lowBinds (ops : Array Oper) : Bool := (List.range ops.size).all fun j => match ops[j]? with | some o => o.after.all (fun e => !Region.binds .any e || decide (e.on < j)) | none => true
theorem all_listed' {listed : Array Bool} (hl : lowBinds ops = true) (hs : listed.size = ops.size) (hr : Region.ready .any ops listed = []) : ∀ j, j < ops.size → listed.getD j false = true := by
  intro j
  induction j using Nat.strongRecOn with
  | _ j ih =>
    intro hj
    unfold lowBinds at hl
    rw [List.all_eq_true] at hl
    have h1 := hl j (List.mem_range.2 hj)
    have ho : ops[j]? = some ops[j] := Array.getElem?_eq_getElem hj
    rw [ho] at h1
    dsimp only at h1
    rw [Array.all_eq_true_iff_forall_mem] at h1
    cases hh : listed.getD j false with
    | true => rfl
    | false =>
      have hm : j ∈ Region.ready .any ops listed := mem_ready.2 ⟨by
        have hj' : j < listed.size := by omega
        simpa [Array.getD, hj'] using hh, _, ho, fun e he hb => by
          have h2 := h1 e he
          rw [hb, Bool.not_true, Bool.false_or] at h2
          have := of_decide_eq_true h2
          exact ih _ this (by omega)⟩
      rw [hr] at hm
      cases hm
/-- wp_region_vals, where edges that bind only the garbage collection may lead on. -/
theorem wp_region_vals' {id : Nat} {T : Array Value} {df : List Deferred} {w : World} (hm : P.follows .mixedOrders = true)
    (slot : Nat → Nat) (Val : Nat → Value → World → Prop) (ds : List Nat) (hds : ds = (List.range ops.size).map slot) (hs : slotsOk ops slot = true) (hap : slotsApart ops.size slot = true) (hlow : lowBinds ops = true)
    (hgd : guardsOk ops = true) (hin : ds.all (fun d => decide (d < T.size)) = true)
    (R : World → World → Prop) (hR0 : R w w.drew) (hRt : ∀ A B C, R A B → R B C → R A C)
    (hmono : ∀ j v A B, Val j v A → R A B → Val j v B)
    (hsteps : stepsAll (RegStep P Q T df ds slot Val R w) 0 ops.toList)
    (hend : ∀ x W, (∀ j, j < ops.size → Val j (x (slot j)) W) → R w W → Q .normal ⟨fill T x ds, df⟩ W) : (Code.region id ops true).wp P Q ⟨T, df⟩ w := by
  have hstep : ∀ j o x W, ops[j]? = some o → (∀ e ∈ o.after, Region.binds .any e = true → Val e.on (x (slot e.on)) W) → R w W →
      wpOp P ops Q j (fun a' W' => ∃ v, a' = Act.put ⟨fill T x ds, df⟩ o.dst v ∧ Val j v W' ∧ R W W') ⟨fill T x ds, df⟩ W := by
    intro j o x W ho hd hR
    have hS := stepsAll_get ops.toList 0 hsteps j o (by simpa using ho)
    rw [Nat.zero_add] at hS
    obtain ⟨hS1, hS2⟩ := hS x W hd hR
    have hjl : j < ops.size := (Array.getElem?_eq_some_iff.1 ho).1
    have hy : ∀ g, g < ops.size → yielded ops (fill T x ds) g = match x (slot g) with | .bool b => some b | _ => none := by
      intro g hg
      have hdst : (ops[g]?).bind (·.dst) = some (slot g) := by
        unfold slotsOk at hs
        rw [List.all_eq_true] at hs
        have h1 := hs g (List.mem_range.2 hg)
        rw [Array.getElem?_eq_getElem hg] at h1 ⊢
        simpa using h1
      have hmem : slot g ∈ ds := by rw [hds]; exact List.mem_map.2 ⟨g, List.mem_range.2 hg, rfl⟩
      have hlt : slot g < T.size := by
        rw [List.all_eq_true] at hin
        simpa using hin _ hmem
      unfold yielded
      rw [hdst, Option.bind_some, fill_get, if_pos ⟨hmem, hlt⟩]
      cases x (slot g) <;> rfl
    have hgj : ∀ g b, o.guard = some (g, b) → g < ops.size := by
      intro g b hg
      unfold guardsOk at hgd
      rw [List.all_eq_true] at hgd
      have h1 := hgd j (List.mem_range.2 hjl)
      rw [ho] at h1
      dsimp only at h1
      rw [hg] at h1
      have := of_decide_eq_true h1
      omega
    unfold wpOp
    rw [ho]
    dsimp only
    cases hw : Region.wanted o (yielded ops (fill T x ds)) with
    | true =>
      rw [if_pos rfl]
      refine .inl (hS1 ?_ _ fun v W' h k => ⟨v, rfl, h, k⟩)
      intro g b hg
      unfold Region.wanted at hw
      rw [hg] at hw
      dsimp only at hw
      rw [hy g (hgj g b hg)] at hw
      cases hx : x (slot g) with
      | bool c => rw [hx] at hw; simp at hw; rw [hw]
      | _ => rw [hx] at hw; simp at hw
    | false =>
      rw [if_neg (by decide)]
      cases hg : o.guard with
      | none => unfold Region.wanted at hw; rw [hg] at hw; cases hw
      | some p =>
        obtain ⟨g, b⟩ := p
        refine ⟨undef, rfl, hS2 g b hg ?_⟩
        intro hx
        unfold Region.wanted at hw
        rw [hg] at hw
        dsimp only at hw
        rw [hy g (hgj g b hg), hx] at hw
        simp at hw
  refine wp_region_inv hm (fun listed a W => ∃ x, a = ⟨fill T x ds, df⟩ ∧ R w W ∧ ∀ j, j < ops.size → listed.getD j false = true → Val j (x (slot j)) W) ?_ ?_ ?_
  · exact ⟨fun d => T.getD d undef, by rw [fill_self], hR0, fun j _ h => by rw [getD_rep] at h; cases h⟩
  · rintro listed a W i hcl ⟨x, rfl, hx, hv⟩ hi
    obtain ⟨hun, o, ho, hdep⟩ := mem_ready.1 hi
    have hilt : i < ops.size := (Array.getElem?_eq_some_iff.1 ho).1
    have hlo : ∀ e ∈ o.after, Region.binds .any e = true → e.on < ops.size := by
      unfold lowBinds at hlow
      rw [List.all_eq_true] at hlow
      have h1 := hlow i (List.mem_range.2 hilt)
      rw [ho] at h1
      dsimp only at h1
      rw [Array.all_eq_true_iff_forall_mem] at h1
      intro e he hb
      have h2 := h1 e he
      rw [hb, Bool.not_true, Bool.false_or] at h2
      have := of_decide_eq_true h2
      omega
    have hdst : o.dst = some (slot i) := by
      unfold slotsOk at hs
      rw [List.all_eq_true] at hs
      have h1 := hs i (List.mem_range.2 hilt)
      rw [ho] at h1
      simpa using h1
    refine wpOp_mono ?_ (hstep i o x W ho (fun e he hb => hv e.on (hlo e he hb) (hdep e he hb)) hx)
    rintro a' W' ⟨v, rfl, hval, hx'⟩
    have hmem : slot i ∈ ds := by rw [hds]; exact List.mem_map.2 ⟨i, List.mem_range.2 hilt, rfl⟩
    refine ⟨fun k => if k = slot i then v else x k, by rw [hdst]; simp only [Act.put]; rw [fill_put _ _ _ _ hmem], hRt _ _ _ hx hx', fun j hj hl => ?_⟩
    dsimp only
    by_cases hji : j = i
    · subst hji; rw [if_pos rfl]; exact hval
    · have hne : slot j ≠ slot i := by
        unfold slotsApart at hap
        rw [List.all_eq_true] at hap
        have h1 := hap j (List.mem_range.2 hj)
        rw [List.all_eq_true] at h1
        have h2 := h1 i (List.mem_range.2 hilt)
        simpa [hji] using h2
      rw [if_neg hne]
      rw [getD_upd hun, if_neg hji] at hl
      exact hmono _ _ _ _ (hv j hj hl) hx'
  · rintro listed a W hls hr ⟨x, rfl, hx, hv⟩
    exact hend x W (fun j hj => hv j hj (all_listed' hlow hls hr j hj)) hx
end
/-- Temporaries of which the named ones hold these values. -/
def fillL (T : Array Value) : List Nat → List Value → Array Value
  | d :: ds, y :: ys => (fillL T ds ys).setIfInBounds d y
  | _, _ => T
theorem fillL_eq (T : Array Value) (x : Nat → Value) : ∀ (ds : List Nat) (ys : List Value), ds.length = ys.length → (∀ j, j < ds.length → x (ds.getD j 0) = ys.getD j undef) → fill T x ds = fillL T ds ys
  | [], [], _, _ => rfl
  | d :: ds, y :: ys, hl, h => by
    rw [fill, fillL, fillL_eq T x ds ys (by simpa using hl) (fun j hj => by have := h (j + 1) (by simp; omega); simpa using this)]
    have := h 0 (by simp)
    simp only [List.getD_cons_zero] at this
    rw [this]
  | [], y :: ys, hl, _ => by simp at hl
  | d :: ds, [], hl, _ => by simp at hl
theorem wp_region_det (slots : List Nat) (ys : List Value) {P : Program} {ops : Array Oper} {Q : Exit → Act → World → Prop} {id : Nat} {T : Array Value} {df : List Deferred} {w : World} (hm : P.follows .mixedOrders = true)
    (hds : slots = (List.range ops.size).map (fun j => slots.getD j 0)) (hly : slots.length = ys.length) (hs : slotsOk ops (fun j => slots.getD j 0) = true) (hap : slotsApart ops.size (fun j => slots.getD j 0) = true) (hlow : lowBinds ops = true)
    (hgd : guardsOk ops = true) (hin : slots.all (fun d => decide (d < T.size)) = true)
    (hsteps : stepsAll (RegStep P Q T df slots (fun j => slots.getD j 0) (fun j v _ => v = ys.getD j undef) Ext w) 0 ops.toList)
    (hend : ∀ W, Ext w W → Q .normal ⟨fillL T slots ys, df⟩ W) : (Code.region id ops true).wp P Q ⟨T, df⟩ w :=
  wp_region_vals' hm (fun j => slots.getD j 0) (fun j v _ => v = ys.getD j undef) slots hds hs hap hlow hgd hin Ext ((Ext.refl w).drew) (fun _ _ _ h k => h.trans k) (fun _ _ _ _ h _ => h) hsteps fun x W hv hR => by
    rw [fillL_eq T x slots ys hly (fun j hj => hv j (by rw [hds] at hj; simpa using hj))]
    exact hend W hR
end Go.Proofs.Ytjnnkcnnandeeaa
namespace Go.Proofs.Ytjnnkcnnandeeaa
open Go.RowKit
/-- What is told of a slot: its value, or a word that holds of it (and goes on to hold while memory grows). -/
inductive Ent where
  | is (v : Value)
  | so (p : Value → World → Prop)
def Ent.holds : Ent → Value → World → Prop
  | .is c, v, _ => v = c
  | .so p, v, w => p v w
def Ent.keeps : Ent → Prop
  | .is _ => True
  | .so p => ∀ v A B, p v A → Ext A B → p v B
def keepsAll : List Ent → Prop
  | [] => True
  | e :: l => e.keeps ∧ keepsAll l
theorem keepsAll_get : ∀ (l : List Ent) (j : Nat), keepsAll l → (l.getD j (.is undef)).keeps
  | [], j, _ => by simp [Ent.keeps]
  | e :: l, 0, h => h.1
  | e :: l, j + 1, h => by rw [List.getD_cons_succ]; exact keepsAll_get l j h.2
theorem Ent.hold_on {e : Ent} (h : e.keeps) {v : Value} {A B : World} (k : e.holds v A) (x : Ext A B) : e.holds v B := by
  cases e with
  | is c => exact k
  | so p => exact h v A B k x
/-- Temporaries: the known values, and x's where only a word is told. -/
def fillX (T : Array Value) (x : Nat → Value) : List Nat → List Ent → Array Value
  | d :: ds, .is y :: ys => (fillX T x ds ys).setIfInBounds d y
  | d :: ds, .so _ :: ys => (fillX T x ds ys).setIfInBounds d (x d)
  | _, _ => T
def toldX (x : Nat → Value) (w : World) : List Nat → List Ent → Prop
  | _ :: ds, .is _ :: ys => toldX x w ds ys
  | d :: ds, .so p :: ys => p (x d) w ∧ toldX x w ds ys
  | _, _ => True
theorem fillX_eq (T : Array Value) (x : Nat → Value) (w : World) : ∀ (ds : List Nat) (ys : List Ent), ds.length = ys.length → (∀ j, j < ds.length → (ys.getD j (.is undef)).holds (x (ds.getD j 0)) w) → fill T x ds = fillX T x ds ys ∧ toldX x w ds ys
  | [], [], _, _ => ⟨rfl, trivial⟩
  | d :: ds, .is y :: ys, hl, h => by
    obtain ⟨h1, h2⟩ := fillX_eq T x w ds ys (by simpa using hl) (fun j hj => by have := h (j + 1) (by simp; omega); simpa using this)
    have h0 := h 0 (by simp)
    simp only [List.getD_cons_zero, Ent.holds] at h0
    exact ⟨by rw [fill, fillX, h1, h0], h2⟩
  | d :: ds, .so p :: ys, hl, h => by
    obtain ⟨h1, h2⟩ := fillX_eq T x w ds ys (by simpa using hl) (fun j hj => by have := h (j + 1) (by simp; omega); simpa using this)
    have h0 := h 0 (by simp)
    simp only [List.getD_cons_zero, Ent.holds] at h0
    exact ⟨by rw [fill, fillX, h1], h0, h2⟩
  | [], y :: ys, hl, _ => by simp at hl
  | d :: ds, [], hl, _ => by simp at hl
theorem wp_region_x (slots : List Nat) (ys : List Ent) {P : Program} {ops : Array Oper} {Q : Exit → Act → World → Prop} {id : Nat} {T : Array Value} {df : List Deferred} {w : World} (hm : P.follows .mixedOrders = true)
    (hds : slots = (List.range ops.size).map (fun j => slots.getD j 0)) (hly : slots.length = ys.length) (hs : slotsOk ops (fun j => slots.getD j 0) = true) (hap : slotsApart ops.size (fun j => slots.getD j 0) = true) (hlow : lowBinds ops = true)
    (hgd : guardsOk ops = true) (hin : slots.all (fun d => decide (d < T.size)) = true) (hk : keepsAll ys)
    (hsteps : stepsAll (RegStep P Q T df slots (fun j => slots.getD j 0) (fun j v w => (ys.getD j (.is undef)).holds v w) Ext w) 0 ops.toList)
    (hend : ∀ x W, toldX x W slots ys → Ext w W → Q .normal ⟨fillX T x slots ys, df⟩ W) : (Code.region id ops true).wp P Q ⟨T, df⟩ w :=
  wp_region_vals' hm (fun j => slots.getD j 0) (fun j v w => (ys.getD j (.is undef)).holds v w) slots hds hs hap hlow hgd hin Ext ((Ext.refl w).drew) (fun _ _ _ h k => h.trans k) (fun j _ _ _ h k => Ent.hold_on (keepsAll_get ys j hk) h k) hsteps fun x W hv hR => by
    obtain ⟨h1, h2⟩ := fillX_eq T x W slots ys hly (fun j hj => hv j (by rw [hds] at hj; simpa using hj))
    rw [h1]
    exact hend x W h2 hR
end Go.Proofs.Ytjnnkcnnandeeaa
namespace Go.Proofs.Ytjnnkcnnandeeaa
open Go.RowKit
/-- What these slots hold. -/
def fixedAt (F : Array Value) : List (Nat × Value) → Prop
  | [] => True
  | p :: l => F.getD p.1 undef = p.2 ∧ fixedAt F l
theorem fill_getD (T : Array Value) (x : Nat → Value) (ds : List Nat) (i : Nat) : (fill T x ds).getD i undef = if i ∈ ds ∧ i < T.size then x i else T.getD i undef := by
  rw [Array.getD_eq_getD_getElem?, fill_get]
  split
  · rfl
  · rw [← Array.getD_eq_getD_getElem?]
theorem fixed_fill (T : Array Value) (x : Nat → Value) (ds : List Nat) : ∀ (fx : List (Nat × Value)), (fx.all fun p => !ds.contains p.1) = true → fixedAt T fx → fixedAt (fill T x ds) fx
  | [], _, _ => trivial
  | p :: l, ho, h => by
    rw [List.all_cons, Bool.and_eq_true] at ho
    have h1 : ¬ p.1 ∈ ds := by
      have := ho.1
      simpa using this
    exact ⟨by rw [fill_getD, if_neg (fun hh => h1 hh.1)]; exact h.1, fixed_fill T x ds l ho.2 h.2⟩
/-- What is to be shown of an operation. -/
def RegStepF (P : Program) (Q : Exit → Act → World → Prop) (df : List Deferred) (slot : Nat → Nat) (Val : Nat → Value → World → Prop) (fx : List (Nat × Value)) (w : World) (j : Nat) (o : Oper) : Prop :=
  ∀ F W, fixedAt F fx → (∀ e ∈ o.after, Region.binds .any e = true → Val e.on (F.getD (slot e.on) undef) W) → Ext w W →
    ((∀ g b, o.guard = some (g, b) → F.getD (slot g) undef = .bool b) → ∀ K, (∀ v W', Val j v W' → Ext W W' → K (Act.put ⟨F, df⟩ o.dst v) W') → o.wp P ⟨F, df⟩ W K Q) ∧
    (∀ g b, o.guard = some (g, b) → F.getD (slot g) undef ≠ .bool b → Val j undef W ∧ Ext W W)
/-- Each operation that is waited for stands before. -/
theorem stepsF (P : Program) (Q : Exit → Act → World → Prop) (T : Array Value) (df : List Deferred) (ds : List Nat) (slot : Nat → Nat) (Val : Nat → Value → World → Prop) (fx : List (Nat × Value)) (w : World) (N : Nat)
    (hd : ∀ j, j < N → slot j ∈ ds ∧ slot j < T.size) (hfx : fixedAt T fx) (hout : (fx.all fun p => !ds.contains p.1) = true) :
    ∀ (l : List Oper) (i : Nat), (∀ o ∈ l, (∀ e ∈ o.after, Region.binds .any e = true → e.on < N) ∧ (∀ g b, o.guard = some (g, b) → g < N)) → stepsAll (RegStepF P Q df slot Val fx w) i l → stepsAll (RegStep P Q T df ds slot Val Ext w) i l
  | [], _, _, _ => trivial
  | o :: l, i, hw, h => by
    obtain ⟨hw1, hw2⟩ := hw o (by simp)
    refine ⟨fun x W he hR => ?_, stepsF P Q T df ds slot Val fx w N hd hfx hout l (i + 1) (fun o' ho' => hw o' (by simp [ho'])) h.2⟩
    have hg : ∀ k, k < N → (fill T x ds).getD (slot k) undef = x (slot k) := fun k hk => by rw [fill_getD, if_pos (hd k hk)]
    obtain ⟨h1, h2⟩ := h.1 (fill T x ds) W (fixed_fill T x ds fx hout hfx) (fun e he1 he2 => by rw [hg _ (hw1 e he1 he2)]; exact he e he1 he2) hR
    exact ⟨fun hgd => h1 (fun g b hgb => by rw [hg _ (hw2 g b hgb)]; exact hgd g b hgb), fun g b hgb hn => h2 g b hgb (by rw [hg _ (hw2 g b hgb)]; exact hn)⟩
/-- Each wait and each guard looks at operations of the region. -/
def waitsOk (ops : Array Oper) : Bool := ops.toList.all fun o => o.after.all (fun e => decide (e.on < ops.size)) && (match o.guard with | some (g, _) => decide (g < ops.size) | none => true)
theorem waitsOk_get {ops : Array Oper} (h : waitsOk ops = true) : ∀ o ∈ ops.toList, (∀ e ∈ o.after, Region.binds .any e = true → e.on < ops.size) ∧ (∀ g b, o.guard = some (g, b) → g < ops.size) := by
  intro o ho
  unfold waitsOk at h
  rw [List.all_eq_true] at h
  have h1 := h o ho
  rw [Bool.and_eq_true, Array.all_eq_true_iff_forall_mem] at h1
  refine ⟨fun e he _ => by simpa using h1.1 e he, fun g b hg => ?_⟩
  have h2 := h1.2
  rw [hg] at h2
  simpa using h2
theorem wp_region_f (slots : List Nat) (ys : List Ent) (fx : List (Nat × Value)) {P : Program} {ops : Array Oper} {Q : Exit → Act → World → Prop} {id : Nat} {T : Array Value} {df : List Deferred} {w : World} (hm : P.follows .mixedOrders = true)
    (hds : slots = (List.range ops.size).map (fun j => slots.getD j 0)) (hly : slots.length = ys.length) (hs : slotsOk ops (fun j => slots.getD j 0) = true) (hap : slotsApart ops.size (fun j => slots.getD j 0) = true) (hlow : lowBinds ops = true)
    (hgd : guardsOk ops = true) (hin : slots.all (fun d => decide (d < T.size)) = true) (hwo : waitsOk ops = true) (hout : (fx.all fun p => !slots.contains p.1) = true) (hk : keepsAll ys) (hfx : fixedAt T fx)
    (hsteps : stepsAll (RegStepF P Q df (fun j => slots.getD j 0) (fun j v w => (ys.getD j (.is undef)).holds v w) fx w) 0 ops.toList)
    (hend : ∀ x W, toldX x W slots ys → Ext w W → Q .normal ⟨fillX T x slots ys, df⟩ W) : (Code.region id ops true).wp P Q ⟨T, df⟩ w := by
  refine wp_region_x slots ys hm hds hly hs hap hlow hgd hin hk ?_ hend
  refine stepsF P Q T df slots _ _ fx w ops.size (fun j hj => ?_) hfx hout ops.toList 0 (waitsOk_get hwo) hsteps
  have hm : (fun j => slots.getD j 0) j ∈ slots := by
    have : (fun j => slots.getD j 0) j ∈ (List.range ops.size).map (fun j => slots.getD j 0) := List.mem_map.2 ⟨j, List.mem_range.2 hj, rfl⟩
    rw [← hds] at this
    exact this
  refine ⟨hm, ?_⟩
  rw [List.all_eq_true] at hin
  simpa using hin _ hm
end Go.Proofs.Ytjnnkcnnandeeaa
namespace Go.Proofs.Ytjnnkcnnandeeaa
open Go.RowKit
section
variable {P : Program} {ops : Array Oper} {Q : Exit → Act → World → Prop}
theorem reg_one {T : Array Value} {df : List Deferred} (slot : Nat → Nat) (Val : Nat → Value → World → Prop) (ds : List Nat) (hds : ds = (List.range ops.size).map slot) (hs : slotsOk ops slot = true)
    (hgd : guardsOk ops = true) (hin : ds.all (fun d => decide (d < T.size)) = true) (R : World → World → Prop) {w : World} {j : Nat} {o : Oper} (ho : ops[j]? = some o) (hS : RegStep P Q T df ds slot Val R w j o)
    (x : Nat → Value) (W : World) (hd : ∀ e ∈ o.after, Region.binds .any e = true → Val e.on (x (slot e.on)) W) (hR : R w W) (K : Act → World → Prop)
    (hK : ∀ v W', Val j v W' → R W W' → K (Act.put ⟨fill T x ds, df⟩ o.dst v) W') :
    if Region.wanted o (yielded ops (fill T x ds)) then o.wp P ⟨fill T x ds, df⟩ W K Q else K (Act.put ⟨fill T x ds, df⟩ o.dst undef) W := by
  obtain ⟨hS1, hS2⟩ := hS x W hd hR
  have hjl : j < ops.size := (Array.getElem?_eq_some_iff.1 ho).1
  have hy : ∀ g, g < ops.size → yielded ops (fill T x ds) g = match x (slot g) with | .bool b => some b | _ => none := by
    intro g hg
    have hdst : (ops[g]?).bind (·.dst) = some (slot g) := by
      unfold slotsOk at hs
      rw [List.all_eq_true] at hs
      have h1 := hs g (List.mem_range.2 hg)
      rw [Array.getElem?_eq_getElem hg] at h1 ⊢
      simpa using h1
    have hmem : slot g ∈ ds := by rw [hds]; exact List.mem_map.2 ⟨g, List.mem_range.2 hg, rfl⟩
    have hlt : slot g < T.size := by
      rw [List.all_eq_true] at hin
      simpa using hin _ hmem
    unfold yielded
    rw [hdst, Option.bind_some, fill_get, if_pos ⟨hmem, hlt⟩]
    cases x (slot g) <;> rfl
  have hgj : ∀ g b, o.guard = some (g, b) → g < ops.size := by
    intro g b hg
    unfold guardsOk at hgd
    rw [List.all_eq_true] at hgd
    have h1 := hgd j (List.mem_range.2 hjl)
    rw [ho] at h1
    dsimp only at h1
    rw [hg] at h1
    have := of_decide_eq_true h1
    omega
  cases hw : Region.wanted o (yielded ops (fill T x ds)) with
  | true =>
    rw [if_pos rfl]
    refine hS1 ?_ _ hK
    intro g b hg
    unfold Region.wanted at hw
    rw [hg] at hw
    dsimp only at hw
    rw [hy g (hgj g b hg)] at hw
    cases hx : x (slot g) with
    | bool c => rw [hx] at hw; simp at hw; rw [hw]
    | _ => rw [hx] at hw; simp at hw
  | false =>
    rw [if_neg (by decide)]
    cases hg : o.guard with
    | none => unfold Region.wanted at hw; rw [hg] at hw; cases hw
    | some p =>
      obtain ⟨g, b⟩ := p
      have h2 := hS2 g b hg (by
        intro hx
        unfold Region.wanted at hw
        rw [hg] at hw
        dsimp only at hw
        rw [hy g (hgj g b hg), hx] at hw
        simp at hw)
      exact hK _ _ h2.1 h2.2
/-- Each operation waits for earlier ones alone. -/
theorem wpList_vals {T : Array Value} {df : List Deferred} {w : World} (slot : Nat → Nat) (Val : Nat → Value → World → Prop) (ds : List Nat) (hds : ds = (List.range ops.size).map slot) (hs : slotsOk ops slot = true) (hap : slotsApart ops.size slot = true)
    (hlow : lowBinds ops = true) (hgd : guardsOk ops = true) (hin : ds.all (fun d => decide (d < T.size)) = true) (R : World → World → Prop) (hRt : ∀ A B C, R A B → R B C → R A C)
    (hmono : ∀ j v A B, Val j v A → R A B → Val j v B) (hsteps : stepsAll (RegStep P Q T df ds slot Val R w) 0 ops.toList)
    (hend : ∀ x W, (∀ j, j < ops.size → Val j (x (slot j)) W) → R w W → Q .normal ⟨fill T x ds, df⟩ W) :
    ∀ (l : List Oper) (i : Nat), ops.toList.drop i = l → i + l.length = ops.size → ∀ x W, (∀ j, j < i → Val j (x (slot j)) W) → R w W → wpList P ops Q l ⟨fill T x ds, df⟩ W
  | [], i, _, hn, x, W, hv, hR => wpList_nil (hend x W (fun j hj => hv j (by simp at hn; omega)) hR)
  | o :: l, i, hl, hn, x, W, hv, hR => by
    have hil : i < ops.size := by simp at hn; omega
    have hoi : ops.toList[i]? = some o := by
      have := congrArg (fun l => l[0]?) hl
      simpa using this
    have ho : ops[i]? = some o := by simpa using hoi
    have hS := stepsAll_get ops.toList 0 hsteps i o hoi
    rw [Nat.zero_add] at hS
    have hlo : ∀ e ∈ o.after, Region.binds .any e = true → e.on < i := by
      unfold lowBinds at hlow
      rw [List.all_eq_true] at hlow
      have h1 := hlow i (List.mem_range.2 hil)
      rw [ho] at h1
      dsimp only at h1
      rw [Array.all_eq_true_iff_forall_mem] at h1
      intro e he hb
      have h2 := h1 e he
      rw [hb, Bool.not_true, Bool.false_or] at h2
      exact of_decide_eq_true h2
    have hdst : o.dst = some (slot i) := by
      unfold slotsOk at hs
      rw [List.all_eq_true] at hs
      have h1 := hs i (List.mem_range.2 hil)
      rw [ho] at h1
      simpa using h1
    have hmem : slot i ∈ ds := by rw [hds]; exact List.mem_map.2 ⟨i, List.mem_range.2 hil, rfl⟩
    refine wpList_step fun K hK => reg_one slot Val ds hds hs hgd hin R ho hS x W (fun e he hb => hv e.on (hlo e he hb)) hR K fun v W' hval hx' => ?_
    refine hK _ _ ?_
    rw [hdst]
    simp only [Act.put]
    rw [fill_put _ _ _ _ hmem]
    refine wpList_vals slot Val ds hds hs hap hlow hgd hin R hRt hmono hsteps hend l (i + 1) (by rw [← List.drop_drop, hl]; rfl) (by simp at hn; omega) _ W' (fun j hj => ?_) (hRt _ _ _ hR hx')
    by_cases hji : j = i
    · subst hji; rw [if_pos rfl]; exact hval
    · have hne : slot j ≠ slot i := by
        unfold slotsApart at hap
        rw [List.all_eq_true] at hap
        have h1 := hap j (List.mem_range.2 (by omega))
        rw [List.all_eq_true] at h1
        have h2 := h1 i (List.mem_range.2 hil)
        simpa [hji] using h2
      rw [if_neg hne]
      exact hmono _ _ _ _ (hv j (by omega)) hx'
end
theorem wp_region_s (slots : List Nat) (ys : List Ent) (fx : List (Nat × Value)) {P : Program} {ops : Array Oper} {Q : Exit → Act → World → Prop} {id : Nat} {T : Array Value} {df : List Deferred} {w : World}
    (hds : slots = (List.range ops.size).map (fun j => slots.getD j 0)) (hly : slots.length = ys.length) (hs : slotsOk ops (fun j => slots.getD j 0) = true) (hap : slotsApart ops.size (fun j => slots.getD j 0) = true) (hlow : lowBinds ops = true)
    (hgd : guardsOk ops = true) (hin : slots.all (fun d => decide (d < T.size)) = true) (hwo : waitsOk ops = true) (hout : (fx.all fun p => !slots.contains p.1) = true) (hk : keepsAll ys) (hfx : fixedAt T fx)
    (hsteps : stepsAll (RegStepF P Q df (fun j => slots.getD j 0) (fun j v w => (ys.getD j (.is undef)).holds v w) fx w) 0 ops.toList)
    (hend : ∀ x W, toldX x W slots ys → Ext w W → Q .normal ⟨fillX T x slots ys, df⟩ W) : (Code.region id ops false).wp P Q ⟨T, df⟩ w := by
  have hst := stepsF P Q T df slots (fun j => slots.getD j 0) (fun j v w => (ys.getD j (.is undef)).holds v w) fx w ops.size (fun j hj => by
    have hm : (fun j => slots.getD j 0) j ∈ slots := by
      have : (fun j => slots.getD j 0) j ∈ (List.range ops.size).map (fun j => slots.getD j 0) := List.mem_map.2 ⟨j, List.mem_range.2 hj, rfl⟩
      rw [← hds] at this
      exact this
    refine ⟨hm, ?_⟩
    have hin' := hin
    rw [List.all_eq_true] at hin'
    simpa using hin' _ hm) hfx hout ops.toList 0 (waitsOk_get hwo) hsteps
  refine wp_region_list ?_
  have h := wpList_vals (T := T) (df := df) (w := w) (fun j => slots.getD j 0) (fun j v w => (ys.getD j (.is undef)).holds v w) slots hds hs hap hlow hgd hin Ext (fun _ _ _ h k => h.trans k) (fun j _ _ _ h k => Ent.hold_on (keepsAll_get ys j hk) h k) hst (fun x W hv hR => by
    obtain ⟨h1, h2⟩ := fillX_eq T x W slots ys hly (fun j hj => hv j (by rw [hds] at hj; simpa using hj))
    rw [h1]
    exact hend x W h2 hR) ops.toList 0 (by simp) (by simp) (fun d => T.getD d undef) w (fun j hj => absurd hj (by omega)) (Ext.refl w)
  rw [fill_self] at h
  exact h
end Go.Proofs.Ytjnnkcnnandeeaa
