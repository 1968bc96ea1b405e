/- A region that draws its order, by an invariant: each operation is shown once, whatever has come up before it. -/
import Derived.Test.YtjnnkcnnandeeaaRange
import Derived.OrdersIn
namespace Go.Proofs.Ytjnnkcnnandeeaa
open Go.RowKit
section
variable {F : Fence} {n : Nat} {P : Program} {md : Region.Mode} {ops : Array Oper} {Q : Exit → Act → World → Prop}
theorem count_set_lt {listed : Array Bool} {i : Nat} (h : listed.getD i true = false) : (listed.setIfInBounds i true).toList.count false + 1 = listed.toList.count false := by
  have hi : i < listed.toList.length := by
    rw [Array.length_toList]
    rcases Nat.lt_or_ge i listed.size with h' | h'
    · exact h'
    · simp [Array.getD, Nat.not_lt.2 h'] at h
  have hv : listed.toList[i] = false := by
    rw [Array.length_toList] at hi
    simpa [Array.getD, hi] using h
  rw [Array.toList_setIfInBounds, List.count_set hi, hv]
  have : 0 < listed.toList.count false := List.count_pos_iff.2 (hv ▸ List.getElem_mem hi)
  rw [if_pos (show (false == false) = true from rfl), if_neg (show ¬ (true == false) = true by decide)]
  omega
theorem count_ready {listed : Array Bool} {i : Nat} (h : i ∈ Region.ready md ops listed) : (listed.setIfInBounds i true).toList.count false + 1 = listed.toList.count false :=
  count_set_lt (mem_ready.1 h).1
theorem wpAnyIn_inv (Inv : Array Bool → Act → World → Prop)
    (hstep : ∀ listed a w i, Inv listed a w → i ∈ Region.ready md ops listed → wpOpIn F n P ops Q i (Inv (listed.setIfInBounds i true)) a w)
    (hend : ∀ listed a w, Region.ready md ops listed = [] → Inv listed a w → Q .normal a w) :
    ∀ (fuel : Nat) (listed : Array Bool) (a : Act) (w : World), listed.toList.count false ≤ fuel → Inv listed a w → wpAnyIn F n P md ops Q fuel listed a w
  | 0, listed, a, w, hc, h => by
    have hr : Region.ready md ops listed = [] := by
      rw [List.eq_nil_iff_forall_not_mem]
      intro i hi
      have := count_ready hi
      omega
    exact ⟨hr, hend _ _ _ hr h⟩
  | fuel + 1, listed, a, w, hc, h =>
    ⟨fun hr => hend _ _ _ hr h, fun i hi => wpOpIn_mono (fun a' w' h' => wpAnyIn_inv Inv hstep hend fuel _ a' w' (by have := count_ready hi; omega) h') (hstep listed a w i h hi)⟩
/-- What has come up has come up behind what it waits for. -/
def Closed (md : Region.Mode) (ops : Array Oper) (listed : Array Bool) : Prop :=
  ∀ (j : Nat) (o : Oper), ops[j]? = some o → listed.getD j false = true → ∀ e ∈ o.after, Region.binds md e = true → listed.getD e.on false = true
theorem getD_rep (m j : Nat) : (Array.replicate m false).getD j false = false := by
  unfold Array.getD
  split
  · simp
  · rfl
theorem getD_upd {listed : Array Bool} {i : Nat} (h : listed.getD i true = false) (j : Nat) : (listed.setIfInBounds i true).getD j false = if j = i then true else listed.getD j false := by
  have hi : i < listed.size := by
    rcases Nat.lt_or_ge i listed.size with h' | h'
    · exact h'
    · simp [Array.getD, Nat.not_lt.2 h'] at h
  simp only [Array.getD_eq_getD_getElem?, Array.getElem?_setIfInBounds]
  by_cases hj : j = i
  · subst hj; simp [hi]
  · rw [if_neg hj, if_neg (fun e => hj e.symm)]
theorem Closed.step {listed : Array Bool} {i : Nat} (h : Closed md ops listed) (hi : i ∈ Region.ready md ops listed) : Closed md ops (listed.setIfInBounds i true) := by
  obtain ⟨hun, oi, hoi, hall⟩ := mem_ready.1 hi
  intro j o ho hj e he hb
  rw [getD_upd hun] at hj ⊢
  by_cases hei : e.on = i
  · rw [if_pos hei]
  · rw [if_neg hei]
    by_cases hji : j = i
    · subst hji
      rw [hoi] at ho
      injection ho with ho
      subst ho
      exact hall e he hb
    · rw [if_neg hji] at hj
      exact h j o ho hj e he hb
/-- A region that draws its order: the invariant holds at the start, each operation keeps it, and at the end it gives the post. -/
theorem wpIn_region_inv {id : Nat} {ops : Array Oper} {a : Act} {w : World} (hm : P.follows .mixedOrders = true) (Inv : Array Bool → Act → World → Prop)
    (h0 : Inv (Array.replicate ops.size false) a w.drew)
    (hstep : ∀ listed a w i, Closed .any ops listed → Inv listed a w → i ∈ Region.ready .any ops listed → wpOpIn F n P ops Q i (Inv (listed.setIfInBounds i true)) a w)
    (hend : ∀ listed a w, listed.size = ops.size → Region.ready .any ops listed = [] → Inv listed a w → Q .normal a w) : (Code.region id ops true).wpIn F n P Q a w :=
  wpIn_region_any hm (wpAnyIn_inv (fun listed a w => listed.size = ops.size ∧ Closed .any ops listed ∧ Inv listed a w)
    (fun listed a w i h hi => wpOpIn_mono (fun a' w' h' => ⟨by rw [Array.size_setIfInBounds]; exact h.1, h.2.1.step hi, h'⟩) (hstep listed a w i h.2.1 h.2.2 hi))
    (fun listed a w hr h => hend listed a w h.1 hr h.2.2) _ _ _ _ (by rw [Array.toList_replicate, List.count_replicate_self]; exact Nat.le_refl _)
    ⟨by simp, (fun j o _ hj => (by rw [getD_rep] at hj; cases hj) : Closed .any ops (Array.replicate ops.size false)), h0⟩)
/-- An operation that is no defer statement, in a round, goes as everywhere. -/
theorem wpOpIn_of {F : Fence} {i : Nat} {o : Oper} {K : Act → World → Prop} {a : Act} {w : World} (ho : ops[i]? = some o) (hg : o.guard = none) (hd : ∀ c, o.op ≠ .defer c)
    (hf : ∀ f, o.about P w a.eval = some f → F.fn f) (h : o.uponIn F n P a K Q ((execOp a.eval o).run P w)) : wpOpIn F n P ops Q i K a w := by
  unfold wpOpIn
  rw [ho]
  have hw : Region.wanted o (yielded ops a.tmps) = true := by simp [Region.wanted, hg]
  simp only [hw, if_true]
  refine ⟨hf, ?_⟩
  rw [Oper.semAt_eq _ _ _ hd]
  exact h
theorem wpOpIn_append {i : Nat} {o : Oper} {w : World} {a : Act} {K : Act → World → Prop} (ho : ops[i]? = some o) (hgd : o.guard = none) (s x : Operand) (t : TypeId)
    (hop : o.op = .call { callee := .builtin .append, args := #[s, x], argTypes := #[t, t] }) (hf : ∀ f, o.about P w a.eval = some f → F.fn f)
    (base : Nat) (e : TypeId) (i0 : TypeInfo) (z : Value) (size bytes : Nat) (ht : P.underlying t = some (.slice e)) (hi : P.info? e = some i0) (hz : i0.zero = some z)
    (hsize : i0.size = size) (hby : i0.bytes = bytes) (hzs : z.cells.size = size)
    (v : Value) (m : Nat) (xs : List Value) (hs : a.eval s = v) (hown : Own w base e size v m xs)
    (A : Option Addr) (m' c : Nat) (news : List Value) (hx : a.eval x = .slice A m' c) (hsrc : Src w A m' size news) (h1 : ∀ u ∈ news, u.oneCell' = true)
    (h63 : m + m' ≤ maxLen) (hbytes : (m + m') * bytes ≤ 140737488355328) (hbase : base ≤ w.heap.size)
    (h : ∀ v' w', Own w' base e size v' (m + m') (xs ++ news) → w.grownBy w' v.ownBlock → (v'.ownBlock = v.ownBlock ∨ v'.ownBlock = some w.heap.size) → K (a.put o.dst v') w') : wpOpIn F n P ops Q i K a w := by
  obtain ⟨v', w', hr, h2, h3, h4⟩ := run_append_own' (P := P) w base t o.type e i0 z size bytes ht hi hz hsize hby hzs v m xs hown A m' c news hsrc h1 h63 hbytes hbase
  refine wpOpIn_of ho hgd (by rw [hop]; intro c h; cases h) hf ?_
  unfold execOp
  simp only [hop, resolve, invoke, builtin, Sem.run_bind, Sem.run_pure, Result.andThen_ok, List.map_toArray, List.map_cons, List.map_nil, hs, hx, hr]
  exact h v' w' h2 h3 h4
end
end Go.Proofs.Ytjnnkcnnandeeaa
