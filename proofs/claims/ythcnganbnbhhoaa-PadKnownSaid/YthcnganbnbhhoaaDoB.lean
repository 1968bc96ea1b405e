/- do, at any act that is well formed. -/
import Derived.Test.YthcnganbnbhhoaaDo
import Derived.Test.YthcnganbnbhhoaaMeth3
import Derived.Test.YthcnganbnbhhoaaMeth4
import Derived.Test.YthcnganbnbhhoaaMove1z
import Derived.Test.YthcnganbnbhhoaaMove1n
import Derived.Test.YthcnganbnbhhoaaMove2z
import Derived.Test.YthcnganbnbhhoaaMove2n
namespace Go.Proofs.Ythcnganbnbhhoaa
open Go.RowKit Go.Shelf
theorem StateOk.small {p : Pad} {s : State} (h : StateOk p s) (hp : PadOk p) : s.zones.length * 8 ≤ 140737488355328 ∧ s.holder.length * 8 ≤ 140737488355328 ∧ s.squibs.length * 8 ≤ 140737488355328 := by
 have h1 := h.lz; have h2 := h.lh; have h3 := h.lq; have h4 := hp.np; have h5 := hp.nk; have h6 := hp.nq
 omega
/-- What each method does, by the kind of the act. -/
def MethOk (g : FuncId) (p : Pad) (s : State) (a : PAct) : Prop :=
 ∀ (B : Nat) (Y : SceneX) (w0 V : World), SceneS w0 B Y p s V → Calls Try.prog g #[.pointer (some ⟨B, 0, none⟩), .agg #[.int .i64 a.at_, .int .i64 a.kind, .int .i64 a.who, .int .i64 a.what, .int .i64 a.with_]] V (MethQ w0 B Y p (kindE p s a) (kindS s a))
theorem meth_ok {p : Pad} {s : State} {a : PAct} (hok : PadOk p) (hst : StateOk p s) (ha : ActOk p a) : ∃ g, MethOk g p s a ∧ Enters Try.prog g ∧ ∀ V, (Instr.index 136 (.agg doesV) (.int .i64 a.kind)).run Try.prog V = .ok (.func (.func g) #[] #[]) V := by
 obtain ⟨t, k, who, wt, wh⟩ := a
 have hk := ha.kind
 have hw := ha.who
 have ht := ha.at0
 dsimp only at hk hw ht
 obtain ⟨i, rfl⟩ : ∃ i : Nat, who = i := ⟨who.toNat, by omega⟩
 have hi : (i : Int) < p.people.length := hw.2
 have h9 : k = 1 ∨ k = 2 ∨ k = 3 ∨ k = 4 ∨ k = 5 ∨ k = 6 ∨ k = 7 ∨ k = 8 ∨ k = 9 := by omega
 rcases h9 with rfl | rfl | rfl | rfl | rfl | rfl | rfl | rfl | rfl
 ·refine ⟨101, fun B Y w0 V hS => ?_, enters_of Try.func101 (by kernel_rfl) rfl, fun V => by kernel_rfl⟩
  have h1 := ha.w1 rfl
  dsimp only at h1
  show Calls Try.prog _ _ V (MethQ w0 B Y p (moveE p s ⟨t, 1, i, wt, wh⟩) (movedS s ⟨t, 1, i, wt, wh⟩))
  by_cases hwh : wh = -1
  ·subst hwh
   by_cases hwt : wt = -1
   ·subst hwt; exact move1n B Y p s t 1 i w0 V hS hok hst hi
   ·obtain ⟨j, rfl⟩ : ∃ j : Nat, wt = j := ⟨wt.toNat, by omega⟩
    exact move1z B Y p s t 1 i j w0 V hS hok hst hi h1.2
  ·have h2 := ha.wy (by unfold withB; simp [hwh])
   dsimp only at h2
   obtain ⟨m, rfl⟩ : ∃ m : Nat, wh = m := ⟨wh.toNat, by omega⟩
   by_cases hwt : wt = -1
   ·subst hwt; exact move2n B Y p s t 1 i m w0 V hS hok hst hi h2.1.2
   ·obtain ⟨j, rfl⟩ : ∃ j : Nat, wt = j := ⟨wt.toNat, by omega⟩
    exact move2z B Y p s t 1 i j m w0 V hS hok hst hi h1.2 h2.1.2
 ·refine ⟨102, fun B Y w0 V hS => ?_, enters_of Try.func102 (by kernel_rfl) rfl, fun V => by kernel_rfl⟩
  show Calls Try.prog _ _ V (MethQ w0 B Y p (takeE p s ⟨t, 2, i, wt, wh⟩) (heldS s wt i))
  have h2 := ha.w2 (by simp)
  dsimp only at h2
  obtain ⟨j, rfl⟩ : ∃ j : Nat, wt = j := ⟨wt.toNat, by omega⟩
  exact take_any B Y p s t 2 wh i j w0 V hS hok hst hi h2.2
 ·refine ⟨103, fun B Y w0 V hS => ?_, enters_of Try.func103 (by kernel_rfl) rfl, fun V => by kernel_rfl⟩
  show Calls Try.prog _ _ V (MethQ w0 B Y p (putE p s ⟨t, 3, i, wt, wh⟩) (heldS s wt (-1)))
  have h2 := ha.w2 (by simp)
  dsimp only at h2
  obtain ⟨j, rfl⟩ : ∃ j : Nat, wt = j := ⟨wt.toNat, by omega⟩
  exact put_any B Y p s t 3 wh i j w0 V hS hok hst hi h2.2
 ·refine ⟨104, fun B Y w0 V hS => ?_, enters_of Try.func104 (by kernel_rfl) rfl, fun V => by kernel_rfl⟩
  show Calls Try.prog _ _ V (MethQ w0 B Y p (giveE p s ⟨t, 4, i, wt, wh⟩) (heldS s wt wh))
  have h2 := ha.w2 (by simp)
  dsimp only at h2
  obtain ⟨j, rfl⟩ : ∃ j : Nat, wt = j := ⟨wt.toNat, by omega⟩
  have h3 := ha.wy (by unfold withB; simp)
  dsimp only at h3
  obtain ⟨m, rfl⟩ : ∃ m : Nat, wh = m := ⟨wh.toNat, by omega⟩
  exact give_any B Y p s t 4 i j m w0 V hS hok hst hi h2.2 h3.1.2
 ·refine ⟨105, fun B Y w0 V hS => ?_, enters_of Try.func105 (by kernel_rfl) rfl, fun V => by kernel_rfl⟩
  show Calls Try.prog _ _ V (MethQ w0 B Y p (armE p s ⟨t, 5, i, wt, wh⟩) (squibS s wt 1))
  have h2 := ha.w3 (by simp)
  dsimp only at h2
  obtain ⟨j, rfl⟩ : ∃ j : Nat, wt = j := ⟨wt.toNat, by omega⟩
  exact arm_any B Y p s t 5 wh i j w0 V hS hok hst ht hi h2.2
 ·refine ⟨106, fun B Y w0 V hS => ?_, enters_of Try.func106 (by kernel_rfl) rfl, fun V => by kernel_rfl⟩
  show Calls Try.prog _ _ V (MethQ w0 B Y p (disarmE p s ⟨t, 6, i, wt, wh⟩) (squibS s wt 0))
  have h2 := ha.w3 (by simp)
  dsimp only at h2
  obtain ⟨j, rfl⟩ : ∃ j : Nat, wt = j := ⟨wt.toNat, by omega⟩
  exact disarm_any B Y p s t 6 wh i j w0 V hS hok hst hi h2.2
 ·refine ⟨107, fun B Y w0 V hS => ?_, enters_of Try.func107 (by kernel_rfl) rfl, fun V => by kernel_rfl⟩
  show Calls Try.prog _ _ V (MethQ w0 B Y p (fireE p s ⟨t, 7, i, wt, wh⟩) (squibS s wt 2))
  have h2 := ha.w3 (by simp)
  dsimp only at h2
  obtain ⟨j, rfl⟩ : ∃ j : Nat, wt = j := ⟨wt.toNat, by omega⟩
  exact fire_any B Y p s t 7 wh i j w0 V hS hok hst hi h2.2
 ·refine ⟨108, fun B Y w0 V hS => ?_, enters_of Try.func108 (by kernel_rfl) rfl, fun V => by kernel_rfl⟩
  show Calls Try.prog _ _ V (MethQ w0 B Y p (sirenE p s ⟨t, 8, i, wt, wh⟩) (sirenS s ⟨t, 8, i, wt, wh⟩))
  have h2 := ha.w4 (by simp)
  dsimp only at h2
  have h01 : wt = 1 ∨ wt = 0 := by omega
  rcases h01 with rfl | rfl
  ·exact sirenOn_any B Y p s t 8 wh i w0 V hS hok hst hi
  ·exact sirenOff_any B Y p s t 8 wh i w0 V hS hok hst hi
 ·refine ⟨109, fun B Y w0 V hS => ?_, enters_of Try.func109 (by kernel_rfl) rfl, fun V => by kernel_rfl⟩
  show Calls Try.prog _ _ V (MethQ w0 B Y p (thunderE s ⟨t, 9, i, wt, wh⟩) (thunderS s ⟨t, 9, i, wt, wh⟩))
  have h2 := ha.w4 (by simp)
  dsimp only at h2
  have h01 : wt = 1 ∨ wt = 0 := by omega
  rcases h01 with rfl | rfl
  ·exact thunderOn_any B Y p s t 9 wh i w0 V hS hok hst
  ·exact thunderOff_any B Y p s t 9 wh i w0 V hS hok hst
theorem stateV_iff {w : World} {v : Value} {s : State} : StateV w v s ↔ ∃ A1 c1 A2 c2 A3 c3, v = .agg #[.int .i64 s.now, .slice A1 s.zones.length c1, .slice A2 s.holder.length c2, .slice A3 s.squibs.length c3, .int .i64 s.siren, .bool s.storm] ∧ IntsV w .i64 (.slice A1 s.zones.length c1) s.zones ∧ IntsV w .i64 (.slice A2 s.holder.length c2) s.holder ∧ IntsV w .i64 (.slice A3 s.squibs.length c3) s.squibs := by
 constructor
 ·rintro ⟨a, b, c, rfl, h1, h2, h3⟩
  have k1 := h1
  have k2 := h2
  have k3 := h3
  obtain ⟨A1, c1, rfl, _⟩ := h1
  obtain ⟨A2, c2, rfl, _⟩ := h2
  obtain ⟨A3, c3, rfl, _⟩ := h3
  exact ⟨A1, c1, A2, c2, A3, c3, rfl, k1, k2, k3⟩
 ·rintro ⟨A1, c1, A2, c2, A3, c3, rfl, h1, h2, h3⟩
  exact ⟨_, _, _, rfl, h1, h2, h3⟩
/-- do -/
theorem do_any (v sv : Value) (p : Pad) (s : State) (a : PAct) (w : World) (hv : PadV w v p) (hs : StateV w sv s) (hok : PadOk p) (hst : StateOk p s) (ha : ActOk p a) :
 Calls Try.prog 67 #[v, sv, .agg #[.int .i64 a.at_, .int .i64 a.kind, .int .i64 a.who, .int .i64 a.what, .int .i64 a.with_]] w (DoQ w p s a) := by
 obtain ⟨X, rfl, hX⟩ := padV_iff.1 hv
 obtain ⟨A1, c1, A2, c2, A3, c3, rfl, h1, h2, h3⟩ := stateV_iff.1 hs
 obtain ⟨g, hg, heg, hix⟩ := meth_ok hok hst ha
 obtain ⟨b1, b2, b3⟩ := hst.small hok
 obtain ⟨t, k, who, wt, wh⟩ := a
 exact do_core g heg X p s t k who wt wh A1 A2 A3 c1 c2 c3 w hX h1 h2 h3 b1 b2 b3 hix hg
end Go.Proofs.Ythcnganbnbhhoaa
