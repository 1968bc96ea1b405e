/- A region in the order of its text, walked as a drawn one is: over an unknown frame of which but a few slots are told (for regions that the walk does not get through). -/
import Derived.Test.YtjnnkcnnandeeaaDetF
namespace Go.Proofs.Ytjnnkcnnandeeaa
open Go.RowKit
section
variable {P : Program} {ops : Array Oper} {Q : Exit → Act → World → Prop}
theorem reg_one {T : Array Value} {df : List Deferred} (slot : Nat → Nat) (Val : Nat → Value → World → Prop) (ds : List Nat) (hds : ds = (List.range ops.size).map slot) (hs : slotsOk ops slot = true)
    (hgd : guardsOk ops = true) (hin : ds.all (fun d => decide (d < T.size)) = true) (R : World → World → Prop) {w : World} {j : Nat} {o : Oper} (ho : ops[j]? = some o) (hS : RegStep P Q T df ds slot Val R w j o)
    (x : Nat → Value) (W : World) (hd : ∀ e ∈ o.after, Region.binds .any e = true → Val e.on (x (slot e.on)) W) (hR : R w W) (K : Act → World → Prop)
    (hK : ∀ v W', Val j v W' → R W W' → K (Act.put ⟨fill T x ds, df⟩ o.dst v) W') :
    if Region.wanted o (yielded ops (fill T x ds)) then o.wp P ⟨fill T x ds, df⟩ W K Q else K (Act.put ⟨fill T x ds, df⟩ o.dst undef) W := by
  obtain ⟨hS1, hS2⟩ := hS x W hd hR
  have hjl : j < ops.size := (Array.getElem?_eq_some_iff.1 ho).1
  have hy : ∀ g, g < ops.size → yielded ops (fill T x ds) g = match x (slot g) with | .bool b => some b | _ => none := by
    intro g hg
    have hdst : (ops[g]?).bind (·.dst) = some (slot g) := by
      unfold slotsOk at hs
      rw [List.all_eq_true] at hs
      have h1 := hs g (List.mem_range.2 hg)
      rw [Array.getElem?_eq_getElem hg] at h1 ⊢
      simpa using h1
    have hmem : slot g ∈ ds := by rw [hds]; exact List.mem_map.2 ⟨g, List.mem_range.2 hg, rfl⟩
    have hlt : slot g < T.size := by
      rw [List.all_eq_true] at hin
      simpa using hin _ hmem
    unfold yielded
    rw [hdst, Option.bind_some, fill_get, if_pos ⟨hmem, hlt⟩]
    cases x (slot g) <;> rfl
  have hgj : ∀ g b, o.guard = some (g, b) → g < ops.size := by
    intro g b hg
    unfold guardsOk at hgd
    rw [List.all_eq_true] at hgd
    have h1 := hgd j (List.mem_range.2 hjl)
    rw [ho] at h1
    dsimp only at h1
    rw [hg] at h1
    have := of_decide_eq_true h1
    omega
  cases hw : Region.wanted o (yielded ops (fill T x ds)) with
  | true =>
    rw [if_pos rfl]
    refine hS1 ?_ _ hK
    intro g b hg
    unfold Region.wanted at hw
    rw [hg] at hw
    dsimp only at hw
    rw [hy g (hgj g b hg)] at hw
    cases hx : x (slot g) with
    | bool c => rw [hx] at hw; simp at hw; rw [hw]
    | _ => rw [hx] at hw; simp at hw
  | false =>
    rw [if_neg (by decide)]
    cases hg : o.guard with
    | none => unfold Region.wanted at hw; rw [hg] at hw; cases hw
    | some p =>
      obtain ⟨g, b⟩ := p
      have h2 := hS2 g b hg (by
        intro hx
        unfold Region.wanted at hw
        rw [hg] at hw
        dsimp only at hw
        rw [hy g (hgj g b hg), hx] at hw
        simp at hw)
      exact hK _ _ h2.1 h2.2
/-- Each operation waits for earlier ones alone. -/
theorem wpList_vals {T : Array Value} {df : List Deferred} {w : World} (slot : Nat → Nat) (Val : Nat → Value → World → Prop) (ds : List Nat) (hds : ds = (List.range ops.size).map slot) (hs : slotsOk ops slot = true) (hap : slotsApart ops.size slot = true)
    (hlow : lowBinds ops = true) (hgd : guardsOk ops = true) (hin : ds.all (fun d => decide (d < T.size)) = true) (R : World → World → Prop) (hRt : ∀ A B C, R A B → R B C → R A C)
    (hmono : ∀ j v A B, Val j v A → R A B → Val j v B) (hsteps : stepsAll (RegStep P Q T df ds slot Val R w) 0 ops.toList)
    (hend : ∀ x W, (∀ j, j < ops.size → Val j (x (slot j)) W) → R w W → Q .normal ⟨fill T x ds, df⟩ W) :
    ∀ (l : List Oper) (i : Nat), ops.toList.drop i = l → i + l.length = ops.size → ∀ x W, (∀ j, j < i → Val j (x (slot j)) W) → R w W → wpList P ops Q l ⟨fill T x ds, df⟩ W
  | [], i, _, hn, x, W, hv, hR => wpList_nil (hend x W (fun j hj => hv j (by simp at hn; omega)) hR)
  | o :: l, i, hl, hn, x, W, hv, hR => by
    have hil : i < ops.size := by simp at hn; omega
    have hoi : ops.toList[i]? = some o := by
      have := congrArg (fun l => l[0]?) hl
      simpa using this
    have ho : ops[i]? = some o := by simpa using hoi
    have hS := stepsAll_get ops.toList 0 hsteps i o hoi
    rw [Nat.zero_add] at hS
    have hlo : ∀ e ∈ o.after, Region.binds .any e = true → e.on < i := by
      unfold lowBinds at hlow
      rw [List.all_eq_true] at hlow
      have h1 := hlow i (List.mem_range.2 hil)
      rw [ho] at h1
      dsimp only at h1
      rw [Array.all_eq_true_iff_forall_mem] at h1
      intro e he hb
      have h2 := h1 e he
      rw [hb, Bool.not_true, Bool.false_or] at h2
      exact of_decide_eq_true h2
    have hdst : o.dst = some (slot i) := by
      unfold slotsOk at hs
      rw [List.all_eq_true] at hs
      have h1 := hs i (List.mem_range.2 hil)
      rw [ho] at h1
      simpa using h1
    have hmem : slot i ∈ ds := by rw [hds]; exact List.mem_map.2 ⟨i, List.mem_range.2 hil, rfl⟩
    refine wpList_step fun K hK => reg_one slot Val ds hds hs hgd hin R ho hS x W (fun e he hb => hv e.on (hlo e he hb)) hR K fun v W' hval hx' => ?_
    refine hK _ _ ?_
    rw [hdst]
    simp only [Act.put]
    rw [fill_put _ _ _ _ hmem]
    refine wpList_vals slot Val ds hds hs hap hlow hgd hin R hRt hmono hsteps hend l (i + 1) (by rw [← List.drop_drop, hl]; rfl) (by simp at hn; omega) _ W' (fun j hj => ?_) (hRt _ _ _ hR hx')
    by_cases hji : j = i
    · subst hji; rw [if_pos rfl]; exact hval
    · have hne : slot j ≠ slot i := by
        unfold slotsApart at hap
        rw [List.all_eq_true] at hap
        have h1 := hap j (List.mem_range.2 (by omega))
        rw [List.all_eq_true] at h1
        have h2 := h1 i (List.mem_range.2 hil)
        simpa [hji] using h2
      rw [if_neg hne]
      exact hmono _ _ _ _ (hv j (by omega)) hx'
end
theorem wp_region_s (slots : List Nat) (ys : List Ent) (fx : List (Nat × Value)) {P : Program} {ops : Array Oper} {Q : Exit → Act → World → Prop} {id : Nat} {T : Array Value} {df : List Deferred} {w : World}
    (hds : slots = (List.range ops.size).map (fun j => slots.getD j 0)) (hly : slots.length = ys.length) (hs : slotsOk ops (fun j => slots.getD j 0) = true) (hap : slotsApart ops.size (fun j => slots.getD j 0) = true) (hlow : lowBinds ops = true)
    (hgd : guardsOk ops = true) (hin : slots.all (fun d => decide (d < T.size)) = true) (hwo : waitsOk ops = true) (hout : (fx.all fun p => !slots.contains p.1) = true) (hk : keepsAll ys) (hfx : fixedAt T fx)
    (hsteps : stepsAll (RegStepF P Q df (fun j => slots.getD j 0) (fun j v w => (ys.getD j (.is undef)).holds v w) fx w) 0 ops.toList)
    (hend : ∀ x W, toldX x W slots ys → Ext w W → Q .normal ⟨fillX T x slots ys, df⟩ W) : (Code.region id ops false).wp P Q ⟨T, df⟩ w := by
  have hst := stepsF P Q T df slots (fun j => slots.getD j 0) (fun j v w => (ys.getD j (.is undef)).holds v w) fx w ops.size (fun j hj => by
    have hm : (fun j => slots.getD j 0) j ∈ slots := by
      have : (fun j => slots.getD j 0) j ∈ (List.range ops.size).map (fun j => slots.getD j 0) := List.mem_map.2 ⟨j, List.mem_range.2 hj, rfl⟩
      rw [← hds] at this
      exact this
    refine ⟨hm, ?_⟩
    have hin' := hin
    rw [List.all_eq_true] at hin'
    simpa using hin' _ hm) hfx hout ops.toList 0 (waitsOk_get hwo) hsteps
  refine wp_region_list ?_
  have h := wpList_vals (T := T) (df := df) (w := w) (fun j => slots.getD j 0) (fun j v w => (ys.getD j (.is undef)).holds v w) slots hds hs hap hlow hgd hin Ext (fun _ _ _ h k => h.trans k) (fun j _ _ _ h k => Ent.hold_on (keepsAll_get ys j hk) h k) hst (fun x W hv hR => by
    obtain ⟨h1, h2⟩ := fillX_eq T x W slots ys hly (fun j hj => hv j (by rw [hds] at hj; simpa using hj))
    rw [h1]
    exact hend x W h2 hR) ops.toList 0 (by simp) (by simp) (fun d => T.getD d undef) w (fun j hj => absurd hj (by omega)) (Ext.refl w)
  rw [fill_self] at h
  exact h
end Go.Proofs.Ytjnnkcnnandeeaa
