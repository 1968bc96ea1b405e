/- A region that draws its order and ends in operations whose order is forced (an append, a store): those before are shown each once, the tail is walked. Over whatever program. A drawn region whose operations from one on come last, in order: what comes before is looked at over an unknown frame; the rest is walked as a list. -/
import Derived.Test.YtjnnkcnnandeeaaSlots
import Derived.Test.YtjnnkcnnandeeaaDet
namespace Go.Proofs.Ytjnnkcnnandeeaa
open Go.RowKit
section
variable {P : Program} {ops : Array Oper} {Q : Exit → Act → World → Prop}
def hasEdge (ops : Array Oper) (i j : Nat) : Bool := match ops[i]? with | some o => o.after.any (fun e => Region.binds .any e && decide (e.on = j)) | none => false
def slotsOkN (ops : Array Oper) (N : Nat) (slot : Nat → Nat) : Bool := (List.range N).all fun j => match ops[j]? with | some o => o.dst == some (slot j) | none => false
/-- The operation N waits for all before it, by one way or another. -/
def domOk (ops : Array Oper) (N : Nat) : Bool := (List.range N).all fun j => (List.range (N + 1)).any fun i => decide (j < i) && hasEdge ops i j
/-- Each operation behind N waits for the one before it. -/
def chainOk (ops : Array Oper) (N : Nat) : Bool := (List.range ops.size).all fun m => decide (m ≤ N) || hasEdge ops m (m - 1)
theorem hasEdge_listed {listed : Array Bool} {i j : Nat} (h : hasEdge ops i j = true) {o : Oper} (ho : ops[i]? = some o) (hall : ∀ e ∈ o.after, Region.binds .any e = true → listed.getD e.on false = true) : listed.getD j false = true := by
  unfold hasEdge at h
  rw [ho] at h
  dsimp only at h
  rw [Array.any_eq_true'] at h
  obtain ⟨e, he, hb⟩ := h
  rw [Bool.and_eq_true] at hb
  have := hall e he hb.1
  rwa [of_decide_eq_true hb.2] at this
theorem dom_listed {listed : Array Bool} {N : Nat} (hd : domOk ops N = true) (hcl : Closed .any ops listed) {o : Oper} (ho : ops[N]? = some o) (hall : ∀ e ∈ o.after, Region.binds .any e = true → listed.getD e.on false = true) :
    ∀ k j, N - j ≤ k → j < N → listed.getD j false = true := by
  intro k
  induction k with
  | zero => intro j h1 h2; omega
  | succ k ih =>
    intro j h1 h2
    unfold domOk at hd
    rw [List.all_eq_true] at hd
    have h3 := hd j (List.mem_range.2 h2)
    rw [List.any_eq_true] at h3
    obtain ⟨i, hi, hb⟩ := h3
    rw [Bool.and_eq_true] at hb
    have hji := of_decide_eq_true hb.1
    have hiN := List.mem_range.1 hi
    by_cases hin : i = N
    · subst hin
      exact hasEdge_listed hb.2 ho hall
    · have hli := ih i (by omega) (by omega)
      have hlt : i < ops.size := by have := (Array.getElem?_eq_some_iff.1 ho).1; omega
      exact hasEdge_listed hb.2 (Array.getElem?_eq_getElem hlt) (hcl i _ (Array.getElem?_eq_getElem hlt) hli)
theorem wp_region_tail {id : Nat} {T : Array Value} {df : List Deferred} {w : World} (hm : P.follows .mixedOrders = true) (N : Nat) (hN : N < ops.size)
    (slot : Nat → Nat) (Val : Nat → Value → World → Prop) (ds : List Nat) (hds : ds = (List.range N).map slot) (hs : slotsOkN ops N slot = true) (hap : slotsApart N slot = true) (hlow : lowEdges ops = true)
    (hgd : guardsOk ops = true) (hin : ds.all (fun d => decide (d < T.size)) = true) (hdom : domOk ops N = true) (hch : chainOk ops N = true)
    (R : World → World → Prop) (hR0 : R w w.drew) (hRt : ∀ A B C, R A B → R B C → R A C)
    (hmono : ∀ j v A B, Val j v A → R A B → Val j v B)
    (hsteps : stepsAll (RegStep P Q T df ds slot Val R w) 0 (ops.toList.take N))
    (htail : ∀ x W, (∀ j, j < N → Val j (x (slot j)) W) → R w W → wpList P ops Q (ops.toList.drop N) ⟨fill T x ds, df⟩ W) : (Code.region id ops true).wp P Q ⟨T, df⟩ w := by
  have hstep : ∀ j o x W, j < N → ops[j]? = some o → (∀ e ∈ o.after, Region.binds .any e = true → Val e.on (x (slot e.on)) W) → R w W →
      wpOp P ops Q j (fun a' W' => ∃ v, a' = Act.put ⟨fill T x ds, df⟩ o.dst v ∧ Val j v W' ∧ R W W') ⟨fill T x ds, df⟩ W := by
    intro j o x W hjN ho hd hR
    have hS := stepsAll_get (ops.toList.take N) 0 hsteps j o (by rw [List.getElem?_take, if_pos hjN]; simpa using ho)
    rw [Nat.zero_add] at hS
    obtain ⟨hS1, hS2⟩ := hS x W hd hR
    have hjl : j < ops.size := (Array.getElem?_eq_some_iff.1 ho).1
    have hy : ∀ g, g < N → yielded ops (fill T x ds) g = match x (slot g) with | .bool b => some b | _ => none := by
      intro g hg
      have hgs : g < ops.size := by omega
      have hdst : (ops[g]?).bind (·.dst) = some (slot g) := by
        unfold slotsOkN at hs
        rw [List.all_eq_true] at hs
        have h1 := hs g (List.mem_range.2 hg)
        rw [Array.getElem?_eq_getElem hgs] at h1 ⊢
        simpa using h1
      have hmem : slot g ∈ ds := by rw [hds]; exact List.mem_map.2 ⟨g, List.mem_range.2 hg, rfl⟩
      have hlt : slot g < T.size := by
        rw [List.all_eq_true] at hin
        simpa using hin _ hmem
      unfold yielded
      rw [hdst, Option.bind_some, fill_get, if_pos ⟨hmem, hlt⟩]
      cases x (slot g) <;> rfl
    have hgj : ∀ g b, o.guard = some (g, b) → g < N := by
      intro g b hg
      unfold guardsOk at hgd
      rw [List.all_eq_true] at hgd
      have h1 := hgd j (List.mem_range.2 hjl)
      rw [ho] at h1
      dsimp only at h1
      rw [hg] at h1
      have := of_decide_eq_true h1
      omega
    unfold wpOp
    rw [ho]
    dsimp only
    cases hw : Region.wanted o (yielded ops (fill T x ds)) with
    | true =>
      rw [if_pos rfl]
      refine .inl (hS1 ?_ _ fun v W' h k => ⟨v, rfl, h, k⟩)
      intro g b hg
      unfold Region.wanted at hw
      rw [hg] at hw
      dsimp only at hw
      rw [hy g (hgj g b hg)] at hw
      cases hx : x (slot g) with
      | bool c => rw [hx] at hw; simp at hw; rw [hw]
      | _ => rw [hx] at hw; simp at hw
    | false =>
      rw [if_neg (by decide)]
      cases hg : o.guard with
      | none => unfold Region.wanted at hw; rw [hg] at hw; cases hw
      | some p =>
        obtain ⟨g, b⟩ := p
        refine ⟨undef, rfl, hS2 g b hg ?_⟩
        intro hx
        unfold Region.wanted at hw
        rw [hg] at hw
        dsimp only at hw
        rw [hy g (hgj g b hg), hx] at hw
        simp at hw
  have hlist : ∀ m o, ops[m]? = some o → ops.toList.drop m = o :: ops.toList.drop (m + 1) := fun m o ho => by
    obtain ⟨hlt, rfl⟩ := Array.getElem?_eq_some_iff.1 ho
    rw [List.drop_eq_getElem_cons (by simpa using hlt)]
    simp
  have hop : ∀ m a W, wpList P ops Q (ops.toList.drop m) a W → ∀ o, ops[m]? = some o → wpOp P ops Q m (wpList P ops Q (ops.toList.drop (m + 1))) a W := fun m a W h o ho => by
    rw [hlist m o ho] at h
    unfold wpList at h
    unfold wpOp
    rw [ho]
    exact h
  refine wp_region_inv hm (fun listed a W => (∃ x, a = ⟨fill T x ds, df⟩ ∧ R w W ∧ (∀ j, N ≤ j → listed.getD j false = false) ∧ ∀ j, j < N → listed.getD j false = true → Val j (x (slot j)) W) ∨
    (∃ m, N < m ∧ m ≤ ops.size ∧ (∀ j, m ≤ j → listed.getD j false = false) ∧ (∀ j, j < m → listed.getD j false = true) ∧ wpList P ops Q (ops.toList.drop m) a W)) ?_ ?_ ?_
  · exact .inl ⟨fun d => T.getD d undef, by rw [fill_self], hR0, fun j _ => getD_rep _ j, fun j _ h => by rw [getD_rep] at h; cases h⟩
  · intro listed a W i hcl hInv hi
    obtain ⟨hun, o, ho, hdep⟩ := mem_ready.1 hi
    have hilt : i < ops.size := (Array.getElem?_eq_some_iff.1 ho).1
    have hlo : ∀ e ∈ o.after, e.on < i := by
      unfold lowEdges at hlow
      rw [List.all_eq_true] at hlow
      have h1 := hlow i (List.mem_range.2 hilt)
      rw [ho] at h1
      dsimp only at h1
      rw [Array.all_eq_true_iff_forall_mem] at h1
      intro e he
      exact of_decide_eq_true (h1 e he)
    have hchain : N < i → listed.getD (i - 1) false = true := fun h => by
      unfold chainOk at hch
      rw [List.all_eq_true] at hch
      have h1 := hch i (List.mem_range.2 hilt)
      rw [Bool.or_eq_true] at h1
      rcases h1 with h1 | h1
      · have := of_decide_eq_true h1; omega
      · exact hasEdge_listed h1 ho hdep
    rcases hInv with ⟨x, rfl, hx, hno, hv⟩ | ⟨m, hm1, hm2, hno, hyes, hw⟩
    · by_cases hiN : i < N
      · have hdst : o.dst = some (slot i) := by
          unfold slotsOkN at hs
          rw [List.all_eq_true] at hs
          have h1 := hs i (List.mem_range.2 hiN)
          rw [ho] at h1
          simpa using h1
        refine wpOp_mono ?_ (hstep i o x W hiN ho (fun e he hb => hv e.on (by have := hlo e he; omega) (hdep e he hb)) hx)
        rintro a' W' ⟨v, rfl, hval, hx'⟩
        have hmem : slot i ∈ ds := by rw [hds]; exact List.mem_map.2 ⟨i, List.mem_range.2 hiN, rfl⟩
        refine .inl ⟨fun k => if k = slot i then v else x k, by rw [hdst]; simp only [Act.put]; rw [fill_put _ _ _ _ hmem], hRt _ _ _ hx hx', fun j hj => by rw [getD_upd hun, if_neg (by omega)]; exact hno j hj, fun j hj hl => ?_⟩
        dsimp only
        by_cases hji : j = i
        · subst hji; rw [if_pos rfl]; exact hval
        · have hne : slot j ≠ slot i := by
            unfold slotsApart at hap
            rw [List.all_eq_true] at hap
            have h1 := hap j (List.mem_range.2 hj)
            rw [List.all_eq_true] at h1
            have h2 := h1 i (List.mem_range.2 hiN)
            simpa [hji] using h2
          rw [if_neg hne]
          rw [getD_upd hun, if_neg hji] at hl
          exact hmono _ _ _ _ (hv j hj hl) hx'
      · have hieq : i = N := by
          rcases Nat.lt_or_ge N i with h | h
          · have h1 := hchain h
            rw [hno (i - 1) (by omega)] at h1
            cases h1
          · omega
        subst hieq
        have hall := dom_listed hdom hcl ho hdep i
        have hw := htail x W (fun j hj => hv j hj (hall j (by omega) hj)) hx
        refine wpOp_mono ?_ (hop i _ _ hw o ho)
        intro a' W' h'
        exact .inr ⟨i + 1, by omega, by omega, fun j hj => by rw [getD_upd hun, if_neg (by omega)]; exact hno j (by omega), fun j hj => by
          rw [getD_upd hun]
          by_cases hji : j = i
          · rw [if_pos hji]
          · rw [if_neg hji]; exact hall j (by omega) (by omega), h'⟩
    · have hieq : i = m := by
        rcases Nat.lt_or_ge i m with h | h
        · have h1 := hyes i h
          have h2 : listed.getD i false = false := by
            simp only [Array.getD_eq_getD_getElem?] at hun ⊢
            cases hh : listed[i]? with
            | none => rfl
            | some v => rw [hh] at hun; exact hun
          rw [h2] at h1
          cases h1
        · rcases Nat.lt_or_ge m i with h' | h'
          · have h1 := hchain (by omega)
            rw [hno (i - 1) (by omega)] at h1
            cases h1
          · omega
      subst hieq
      refine wpOp_mono ?_ (hop i _ _ hw o ho)
      intro a' W' h'
      exact .inr ⟨i + 1, by omega, by omega, fun j hj => by rw [getD_upd hun, if_neg (by omega)]; exact hno j (by omega), fun j hj => by
        rw [getD_upd hun]
        by_cases hji : j = i
        · rw [if_pos hji]
        · rw [if_neg hji]; exact hyes j (by omega), h'⟩
  · intro listed a W hls hr hInv
    have hall := all_listed hlow hls hr
    rcases hInv with ⟨x, rfl, hx, hno, hv⟩ | ⟨m, hm1, hm2, hno, hyes, hw⟩
    · have h1 := hall N hN
      rw [hno N (Nat.le_refl _)] at h1
      cases h1
    · have hme : m = ops.size := by
        rcases Nat.lt_or_ge m ops.size with h | h
        · have h1 := hall m h
          rw [hno m (Nat.le_refl _)] at h1
          cases h1
        · omega
      subst hme
      rw [List.drop_eq_nil_of_le (by simp)] at hw
      exact hw
end
end Go.Proofs.Ytjnnkcnnandeeaa
namespace Go.Proofs.Ytjnnkcnnandeeaa
open Go.RowKit
def waitsOkN (ops : Array Oper) (N : Nat) : Bool := (ops.toList.take N).all fun o => o.after.all (fun e => decide (e.on < N)) && (match o.guard with | some (g, _) => decide (g < N) | none => true)
theorem waitsOkN_get {ops : Array Oper} {N : Nat} (h : waitsOkN ops N = true) : ∀ o ∈ ops.toList.take N, (∀ e ∈ o.after, Region.binds .any e = true → e.on < N) ∧ (∀ g b, o.guard = some (g, b) → g < N) := by
  intro o ho
  unfold waitsOkN at h
  rw [List.all_eq_true] at h
  have h1 := h o ho
  rw [Bool.and_eq_true, Array.all_eq_true_iff_forall_mem] at h1
  refine ⟨fun e he _ => by simpa using h1.1 e he, fun g b hg => ?_⟩
  have h2 := h1.2
  rw [hg] at h2
  simpa using h2
theorem wp_region_t (N : Nat) (slots : List Nat) (ys : List Ent) (fx : List (Nat × Value)) {P : Program} {ops : Array Oper} {Q : Exit → Act → World → Prop} {id : Nat} {T : Array Value} {df : List Deferred} {w : World} (hm : P.follows .mixedOrders = true) (hN : N < ops.size)
    (hds : slots = (List.range N).map (fun j => slots.getD j 0)) (hly : slots.length = ys.length) (hs : slotsOkN ops N (fun j => slots.getD j 0) = true) (hap : slotsApart N (fun j => slots.getD j 0) = true) (hlow : lowEdges ops = true)
    (hgd : guardsOk ops = true) (hin : slots.all (fun d => decide (d < T.size)) = true) (hdom : domOk ops N = true) (hch : chainOk ops N = true) (hwo : waitsOkN ops N = true) (hout : (fx.all fun p => !slots.contains p.1) = true) (hk : keepsAll ys) (hfx : fixedAt T fx)
    (hsteps : stepsAll (RegStepF P Q df (fun j => slots.getD j 0) (fun j v w => (ys.getD j (.is undef)).holds v w) fx w) 0 (ops.toList.take N))
    (htail : ∀ x W, toldX x W slots ys → Ext w W → wpList P ops Q (ops.toList.drop N) ⟨fillX T x slots ys, df⟩ W) : (Code.region id ops true).wp P Q ⟨T, df⟩ w := by
  refine wp_region_tail hm N hN (fun j => slots.getD j 0) (fun j v w => (ys.getD j (.is undef)).holds v w) slots hds hs hap hlow hgd hin hdom hch Ext ((Ext.refl w).drew) (fun _ _ _ h k => h.trans k) (fun j _ _ _ h k => Ent.hold_on (keepsAll_get ys j hk) h k) ?_ ?_
  · refine stepsF P Q T df slots _ _ fx w N (fun j hj => ?_) hfx hout (ops.toList.take N) 0 (waitsOkN_get hwo) hsteps
    have hm : (fun j => slots.getD j 0) j ∈ slots := by
      have : (fun j => slots.getD j 0) j ∈ (List.range N).map (fun j => slots.getD j 0) := List.mem_map.2 ⟨j, List.mem_range.2 hj, rfl⟩
      rw [← hds] at this
      exact this
    refine ⟨hm, ?_⟩
    rw [List.all_eq_true] at hin
    simpa using hin _ hm
  · intro x W hv hR
    obtain ⟨h1, h2⟩ := fillX_eq T x W slots ys hly (fun j hj => hv j (by rw [hds] at hj; simpa using hj))
    rw [h1]
    exact htail x W h2 hR
end Go.Proofs.Ytjnnkcnnandeeaa
