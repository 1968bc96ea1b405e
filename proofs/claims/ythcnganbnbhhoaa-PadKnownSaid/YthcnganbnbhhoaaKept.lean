/- States that lie in a box of their own: what keeps them. -/
import Derived.Test.YthcnganbnbhhoaaLawB
import Derived.Test.YthcnganbnbhhoaaAwake
namespace Go.Proofs.Ythcnganbnbhhoaa
open Go.RowKit Go.Shelf
/-- All blocks but one are as before, or new. -/
def OffB (b : Nat) (A B : World) : Prop := A.heap.size ≤ B.heap.size ∧ ∀ k, k < A.heap.size → k ≠ b → B.heap[k]? = A.heap[k]?
theorem OffB.ext {b : Nat} {A B : World} (h : Ext A B) : OffB b A B := ⟨h.size, fun k hk _ => Below.block h k hk⟩
theorem OffB.trans {b : Nat} {A B C : World} (h : OffB b A B) (k : OffB b B C) : OffB b A C :=
 ⟨Nat.le_trans h.1 k.1, fun j hj hne => (k.2 j (Nat.lt_of_lt_of_le hj h.1) hne).trans (h.2 j hj hne)⟩
theorem OffB.set {A : World} {b i : Nat} (u : Value) : OffB b A (A.setCell ⟨b, i, none⟩ u) := by
 refine ⟨by simp only [World.size_setCell]; exact Nat.le_refl _, fun k _ hne => ?_⟩
 simp [World.setCell, Array.getElem?_modify, Ne.symm hne]
theorem StateO.typed {W W' : World} {base b : Nat} {v : Value} {s : State} (h : StateO W base v s) {cs : Array Value} (hb : Blk W b 38 cs) (k : OffB b W W') : StateO W' base v s := by
 have one : ∀ {x : Value} {n : Nat} {xs : List Value}, Own W base 3 1 x n xs → Own W' base 3 1 x n xs := fun {x n xs} h => h.keep fun g hg => k.2 g (h.block g hg).2 (fun e => by
  obtain ⟨cs', fr, hc⟩ := h.typed g hg
  rw [e] at hc
  have h2 := hb
  unfold Blk at h2
  rw [hc] at h2
  injection h2 with h2
  injection h2 with _ h2 _
  revert h2
  decide)
 obtain ⟨A1, c1, A2, c2, A3, c3, e, h1, h2, h3⟩ := h
 exact ⟨A1, c1, A2, c2, A3, c3, e, one h1, one h2, one h3⟩
theorem StateV.keep {W W' : World} {v : Value} {s : State} (h : StateV W v s) (hs : W.heap.size ≤ W'.heap.size) (k : ∀ b, b < W.heap.size → W'.heap[b]? = W.heap[b]?) : StateV W' v s :=
 h.cext ⟨hs, fun hc => cell_block hc (k _ (World.block_lt_of_cell? _ _ hc))⟩
/-- A state's value in the box b: it reads as the state in whatever world keeps all else. -/
def KeptS (b : Nat) (W : World) (v : Value) (s : State) : Prop := ∀ W', OffB b W W' → StateV W' v s
theorem KeptS.off {b : Nat} {A B : World} {v : Value} {s : State} (h : KeptS b A v s) (k : OffB b A B) : KeptS b B v s := fun W' x => h W' (k.trans x)
theorem KeptS.v {b : Nat} {A : World} {v : Value} {s : State} (h : KeptS b A v s) : StateV A v s := h A ⟨Nat.le_refl _, fun _ _ _ => rfl⟩
theorem KeptS.old {b : Nat} {w A : World} {v : Value} {s : State} (h : StateV w v s) (hx : Ext w A) (hb : w.heap.size ≤ b) : KeptS b A v s := fun _ k =>
 h.keep (Nat.le_trans hx.size k.1) fun j hj => (k.2 j (Nat.lt_of_lt_of_le hj hx.size) (by omega)).trans (Below.block hx j hj)
theorem KeptS.own {b base : Nat} {A : World} {v : Value} {s : State} {cs : Array Value} (h : StateO A base v s) (hb : Blk A b 38 cs) : KeptS b A v s := fun _ k => (h.typed hb k).v
def sets6 (W : World) (b : Nat) (u0 u1 u2 u3 u4 u5 : Value) : World := (((((W.setCell ⟨b, 0, none⟩ u0).setCell ⟨b, 1, none⟩ u1).setCell ⟨b, 2, none⟩ u2).setCell ⟨b, 3, none⟩ u3).setCell ⟨b, 4, none⟩ u4).setCell ⟨b, 5, none⟩ u5
theorem OffB.sets {A : World} {b : Nat} (u0 u1 u2 u3 u4 u5 : Value) : OffB b A (sets6 A b u0 u1 u2 u3 u4 u5) := (((((OffB.set u0).trans (OffB.set u1)).trans (OffB.set u2)).trans (OffB.set u3)).trans (OffB.set u4)).trans (OffB.set u5)
theorem Ext.sets {w A : World} {b : Nat} (h : Ext w A) (hb : w.heap.size ≤ b) (u0 u1 u2 u3 u4 u5 : Value) : Ext w (sets6 A b u0 u1 u2 u3 u4 u5) := (((((h.setCell hb _).setCell hb _).setCell hb _).setCell hb _).setCell hb _).setCell hb _
theorem Blk.sets {A : World} {b : Nat} {t : TypeId} {v0 v1 v2 v3 v4 v5 : Value} (h : Blk A b t #[v0, v1, v2, v3, v4, v5]) (u0 u1 u2 u3 u4 u5 : Value) : Blk (sets6 A b u0 u1 u2 u3 u4 u5) b t #[u0, u1, u2, u3, u4, u5] := (((((h.set 0 u0).set 1 u1).set 2 u2).set 3 u3).set 4 u4).set 5 u5
theorem OffB.blk {A B : World} {b g : Nat} {t : TypeId} {cs : Array Value} (k : OffB b A B) (h : Blk A g t cs) (hne : g ≠ b) : Blk B g t cs := (k.2 g h.lt hne).trans h
theorem OffB.own {A B : World} {b base : Nat} {e t : TypeId} {v : Value} {n : Nat} {xs : List Value} {cs : Array Value} (k : OffB b A B) (h : Own A base e 1 v n xs) (hb : Blk A b t cs) (hne : e ≠ t) : Own B base e 1 v n xs := h.keep fun g hg => k.2 g (h.block g hg).2 (fun e => by
 obtain ⟨cs', fr, hc⟩ := h.typed g hg
 rw [e] at hc
 unfold Blk at hb
 rw [hc] at hb
 injection hb with hb
 injection hb with _ hb _
 exact hne hb)
theorem IntsV.take {w : World} {A : Option Addr} {n c : Nat} {l : List Int} (h : IntsV w .i64 (.slice A n c) l) (k : Nat) (hk : k ≤ l.length) : IntsV w .i64 (.slice A k c) (l.take k) := by
 obtain ⟨rfl, h1, h2, h3⟩ := h.rows
 have hl : (l.take k).length = k := by rw [List.length_take]; omega
 refine ⟨A, c, by rw [hl], by omega, by simpa [maxLen] using h2, fun hn => ?_⟩
 obtain ⟨b, off, e, hb, hc⟩ := h3 (by omega)
 refine ⟨b, off, e, hb, fun j hj => ?_⟩
 rw [hc j (by omega)]
 simp only [List.getD_eq_getElem?_getD, List.getElem?_take, if_pos (show j < k by omega)]
theorem fits_ok {p : Pad} {s : State} (hp : PadOk p) (hs : StateOk p s) : s.Fits := by
 have := hs.lz
 have := hs.lh
 have := hs.lq
 have := hp.np
 have := hp.nk
 have := hp.nq
 unfold State.Fits
 omega
end Go.Proofs.Ythcnganbnbhhoaa
