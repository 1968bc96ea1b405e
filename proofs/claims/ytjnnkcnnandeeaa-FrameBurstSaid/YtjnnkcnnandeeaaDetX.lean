/- A drawn region in which each operation writes a slot of its own and memory only grows: the values that are known are found by the walk; of some operations only what the value is good for is told. -/
import Derived.Test.YtjnnkcnnandeeaaDet
namespace Go.Proofs.Ytjnnkcnnandeeaa
open Go.RowKit
/-- What is told of a slot: its value, or a word that holds of it (and goes on to hold while memory grows). -/
inductive Ent where
  | is (v : Value)
  | so (p : Value → World → Prop)
def Ent.holds : Ent → Value → World → Prop
  | .is c, v, _ => v = c
  | .so p, v, w => p v w
def Ent.keeps : Ent → Prop
  | .is _ => True
  | .so p => ∀ v A B, p v A → Ext A B → p v B
def keepsAll : List Ent → Prop
  | [] => True
  | e :: l => e.keeps ∧ keepsAll l
theorem keepsAll_get : ∀ (l : List Ent) (j : Nat), keepsAll l → (l.getD j (.is undef)).keeps
  | [], j, _ => by simp [Ent.keeps]
  | e :: l, 0, h => h.1
  | e :: l, j + 1, h => by rw [List.getD_cons_succ]; exact keepsAll_get l j h.2
theorem Ent.hold_on {e : Ent} (h : e.keeps) {v : Value} {A B : World} (k : e.holds v A) (x : Ext A B) : e.holds v B := by
  cases e with
  | is c => exact k
  | so p => exact h v A B k x
/-- Temporaries: the known values, and x's where only a word is told. -/
def fillX (T : Array Value) (x : Nat → Value) : List Nat → List Ent → Array Value
  | d :: ds, .is y :: ys => (fillX T x ds ys).setIfInBounds d y
  | d :: ds, .so _ :: ys => (fillX T x ds ys).setIfInBounds d (x d)
  | _, _ => T
def toldX (x : Nat → Value) (w : World) : List Nat → List Ent → Prop
  | _ :: ds, .is _ :: ys => toldX x w ds ys
  | d :: ds, .so p :: ys => p (x d) w ∧ toldX x w ds ys
  | _, _ => True
theorem fillX_eq (T : Array Value) (x : Nat → Value) (w : World) : ∀ (ds : List Nat) (ys : List Ent), ds.length = ys.length → (∀ j, j < ds.length → (ys.getD j (.is undef)).holds (x (ds.getD j 0)) w) → fill T x ds = fillX T x ds ys ∧ toldX x w ds ys
  | [], [], _, _ => ⟨rfl, trivial⟩
  | d :: ds, .is y :: ys, hl, h => by
    obtain ⟨h1, h2⟩ := fillX_eq T x w ds ys (by simpa using hl) (fun j hj => by have := h (j + 1) (by simp; omega); simpa using this)
    have h0 := h 0 (by simp)
    simp only [List.getD_cons_zero, Ent.holds] at h0
    exact ⟨by rw [fill, fillX, h1, h0], h2⟩
  | d :: ds, .so p :: ys, hl, h => by
    obtain ⟨h1, h2⟩ := fillX_eq T x w ds ys (by simpa using hl) (fun j hj => by have := h (j + 1) (by simp; omega); simpa using this)
    have h0 := h 0 (by simp)
    simp only [List.getD_cons_zero, Ent.holds] at h0
    exact ⟨by rw [fill, fillX, h1], h0, h2⟩
  | [], y :: ys, hl, _ => by simp at hl
  | d :: ds, [], hl, _ => by simp at hl
theorem wp_region_x (slots : List Nat) (ys : List Ent) {P : Program} {ops : Array Oper} {Q : Exit → Act → World → Prop} {id : Nat} {T : Array Value} {df : List Deferred} {w : World} (hm : P.follows .mixedOrders = true)
    (hds : slots = (List.range ops.size).map (fun j => slots.getD j 0)) (hly : slots.length = ys.length) (hs : slotsOk ops (fun j => slots.getD j 0) = true) (hap : slotsApart ops.size (fun j => slots.getD j 0) = true) (hlow : lowBinds ops = true)
    (hgd : guardsOk ops = true) (hin : slots.all (fun d => decide (d < T.size)) = true) (hk : keepsAll ys)
    (hsteps : stepsAll (RegStep P Q T df slots (fun j => slots.getD j 0) (fun j v w => (ys.getD j (.is undef)).holds v w) Ext w) 0 ops.toList)
    (hend : ∀ x W, toldX x W slots ys → Ext w W → Q .normal ⟨fillX T x slots ys, df⟩ W) : (Code.region id ops true).wp P Q ⟨T, df⟩ w :=
  wp_region_vals' hm (fun j => slots.getD j 0) (fun j v w => (ys.getD j (.is undef)).holds v w) slots hds hs hap hlow hgd hin Ext ((Ext.refl w).drew) (fun _ _ _ h k => h.trans k) (fun j _ _ _ h k => Ent.hold_on (keepsAll_get ys j hk) h k) hsteps fun x W hv hR => by
    obtain ⟨h1, h2⟩ := fillX_eq T x W slots ys hly (fun j hj => hv j (by rw [hds] at hj; simpa using hj))
    rw [h1]
    exact hend x W h2 hR
end Go.Proofs.Ytjnnkcnnandeeaa
