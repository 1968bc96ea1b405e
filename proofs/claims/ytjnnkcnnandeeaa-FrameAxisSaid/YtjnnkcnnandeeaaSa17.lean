/- Rules of the walks. -/
import Derived.Test.YtjnnkcnnandeeaaSh13
import Derived.Laws.CopyRow
import Derived.Laws.IdiomCopy
import Derived.Laws.BytesString
import Derived.Below
set_option linter.unusedVariables false
set_option linter.unusedSimpArgs false
namespace Go.Proofs.Ytjnnkcnnandeeaa.Sh
open Go
def natM (z : Int) : Option Nat := if 0 ≤ z ∧ z ≤ 1000000000 then some z.toNat else none
theorem natM_eq {z : Int} {q : Nat} (h : natM z = some q) : z = (q : Int) ∧ q ≤ 1000000000 := by
 unfold natM at h
 split at h
 ·injection h with h; omega
 ·cases h
section
variable {P : Program} {N : Nat} {ops : Array Oper} {l : List Oper} {ts : List (Nat × T)} {L : List (Option Rw)} {tr : List Stp} {d : Nat} {ty : TypeId} {pos : String} {af : Array Edge} {gd : Option (Nat × Bool)} {K : List Oper → List Stp → St → Prop}
theorem r_makeQ {α : Type} {t e : TypeId} {i : TI} {a0 : Bool} {s b0 : Nat} {z0 : T} {sl0 : Option TypeId} {fs0 : List (Nat × Bool × Nat)} {ar0 : Option (Nat × TypeId)} {nf0 : Bool} {x y : Operand} {k k' : IntKind} {z : Int} {q : Nat} {n : Nat} {nr : List Nat} {v : α} {g : α → D} (tb : Tab P) (ht : tb.f t = some i) (hsl : i.sl = some e) (he : tb.f e = some ⟨a0, s, b0, z0, sl0, fs0, ar0, nf0⟩) (h0 : Nat.beq s 0 = false) (hv : z0 = .d (g v))
  (hx : opT ts x = .d (.v (.int k z))) (hy : opT ts y = .d (.v (.int k' z))) (hz : z = (q : Int)) (hq : q ≤ 1000000000) (hb : Nat.ble b0 65536 = true) (hn : nums.drop L.length = n :: nr) (hw : wantT ops ts ⟨some d, .makeSlice t x y, ty, pos, af, gd⟩ = some true) (hd : Nat.blt d N = true)
  (kk : EvK P N ops l ⟨(d, .row n s 0 (List.replicate q v).length) :: ts, L ++ [some ⟨s, (List.replicate q v).map fun a => .d (g a)⟩]⟩ (tr ++ [.run [n] [n]]) K) : EvK P N ops (⟨some d, .makeSlice t x y, ty, pos, af, gd⟩ :: l) ⟨ts, L⟩ tr K := by
 subst hz hv
 have hb' := Nat.le_of_ble_eq_true hb
 refine r_make tb ht hsl he h0 hx hy (by omega) (Nat.le_trans (Nat.mul_le_mul hb' hq) (by decide)) hn hw hd ?_
 rw [List.length_replicate, List.map_replicate] at kk
 exact kk
end
end Go.Proofs.Ytjnnkcnnandeeaa.Sh
namespace Go.Proofs.Ytjnnkcnnandeeaa.Sh
open Go
section
variable {P : Program} {n0 N : Nat} {Q : SX → St → Prop} {st : St}
theorem SWM.own {c : Code} {ts ts' : List (Nat × T)} {L L' : List (Option Rw)} (s : Nat) (hs : Nat.beq s 0 = false) {m : Nat} {nr : List Nat} (hm : nums.drop L.length = m :: nr) (hts : OwnS m s ts ts') (hL : OwnR m s L L') (h : SWM P n0 N c Q ⟨ts', L' ++ [some ⟨s, []⟩]⟩) : SWM P n0 N c Q ⟨ts, L⟩ :=
 SWM.seen (fun _ _ _ hR => own_see n0 s hs hm hts hL hR) h
theorem SWM.fz {c : Code} {ts ts' : List (Nat × T)} {L L' : List (Option Rw)} {α : Type} {w : List α} {f : α → D} (n s : Nat) (hn0 : L[n]? = some (some ⟨s, w.map fun a => .d (f a)⟩)) (hts : FzS n s (w.map f) ts ts') (hL : FzR n s (w.map f) (L.set n none) L') (h : SWM P n0 N c Q ⟨ts', L'⟩) : SWM P n0 N c Q ⟨ts, L⟩ :=
 SWM.seen (fun _ _ _ hR => fz_see n0 n s hn0 hts hL hR) h
end
end Go.Proofs.Ytjnnkcnnandeeaa.Sh
namespace Go.Proofs.Ytjnnkcnnandeeaa.Sh
open Go
section
variable {P : Program} {N : Nat} {ops : Array Oper} {l : List Oper} {ts : List (Nat × T)} {L : List (Option Rw)} {tr : List Stp} {K : List Oper → List Stp → St → Prop} {d : Nat} {ty : TypeId} {pos : String} {af : Array Edge} {gd : Option (Nat × Bool)}
end
structure DfK (P : Program) (fd : FuncId) (c2 : Code) (N2 m : Nat) (tyE : TypeId) : Prop where
 idle : ∀ (ds : Array Value) (w : World), ds.size = m → CallsDIn Fence.wide 0 P fd ds .returning w fun e u' w' => e = .returned (.tuple #[]) ∧ u' = .returning ∧ w' = w
 caught : ∀ (ds : Array Value) (v : Value) (older : List PanicEntry) (w : World) (R : World → Prop), ds.size = m → (∃ c, v = .iface tyE c) → (∀ a : Act, a.defers = [] → a.tmps.size = N2 → (∀ i, i < m → a.tmps.getD i undef = ds.getD i undef) → a.tmps.getD m undef = v → c2.wpIn Fence.wide 0 P (fun ex a' w' => ex = .normal ∧ a'.defers = [] ∧ R w') a w) →
  CallsDIn Fence.wide 0 P fd ds (.panicking ({ v, recovered := false } :: older)) w fun e u' w' => e = .returned (.tuple #[]) ∧ u' = .panicking ({ v, recovered := true } :: older) ∧ R w'
section
variable {P : Program} {fn : Func} {n0 N : Nat} {R : SE → List (Option Rw) → Prop} {st : St}
end
def SCB {α : Type} (P : Program) (f : FuncId) (as : List T) (L : List (Option Rw)) (x : Except Int α) (t : α → T) (L1 : α → List (Option Rw)) (t2 : Int → T) (L2 : List (Option Rw)) : Prop :=
 SC P f as L fun se X => (∃ a, x = .ok a ∧ se = .ret (t a) ∧ X = L1 a) ∨ ∃ e, x = .error e ∧ se = .ret (t2 e) ∧ X = L2
theorem SCB.ok {α : Type} {P : Program} {f : FuncId} {as : List T} {L : List (Option Rw)} {x : Except Int α} {t : α → T} {L1 : α → List (Option Rw)} {t2 : Int → T} {L2 : List (Option Rw)} (h : SCB P f as L x t L1 t2 L2) {a : α} (hn : x = .ok a) : SCR P f as L (t a) (L1 a) := SC.mono h fun se X hX => by
 rcases hX with ⟨b, h1, h2, h3⟩ | ⟨e, h1, _⟩
 ·rw [hn] at h1; injection h1 with h1; subst h1; exact ⟨h2, h3⟩
 ·rw [hn] at h1; cases h1
end Go.Proofs.Ytjnnkcnnandeeaa.Sh
namespace Go.Proofs.Ytjnnkcnnandeeaa.Sh
open Go
section
variable {P : Program} {n0 N : Nat} {df : List Deferred} {Q : SX → St → Prop} {st : St} {x y : Code}
def Seen (n0 N : Nat) (st st' : St) : Prop := ∀ (g : G) (a : Act) (df : List Deferred), StR g N st a df → ∃ g', g'.w = g.w ∧ LeN n0 g g' ∧ StR g' N st' a df
theorem Seen.refl (n0 N : Nat) (st : St) : Seen n0 N st st := fun g _ _ h => ⟨g, rfl, .refl n0 g, h⟩
theorem Seen.trans {n0 N : Nat} {a b c : St} (h : Seen n0 N a b) (k : Seen n0 N b c) : Seen n0 N a c := fun g x df hR => by
 obtain ⟨g1, h1, h2, h3⟩ := h g x df hR
 obtain ⟨g2, k1, k2, k3⟩ := k g1 x df h3
 exact ⟨g2, k1.trans h1, h2.trans k2, k3⟩
theorem Seen.own {n0 N : Nat} {ts ts' : List (Nat × T)} {L L' : List (Option Rw)} {st' : St} (s : Nat) (hs : Nat.beq s 0 = false) {m : Nat} {nr : List Nat} (hm : nums.drop L.length = m :: nr) (hts : OwnS m s ts ts') (hL : OwnR m s L L') (k : Seen n0 N ⟨ts', L' ++ [some ⟨s, []⟩]⟩ st') : Seen n0 N ⟨ts, L⟩ st' :=
 Seen.trans (fun _ _ _ hR => own_see n0 s hs hm hts hL hR) k
theorem Seen.vw {n0 N : Nat} {st st' : St} {κ : List Nat} (h : Vw n0 st st' κ) : Seen n0 N st st' := fun _ _ _ hR => h.see hR
def prn (l : List Nat) (ts : List (Nat × T)) : List (Nat × T) := l.map fun i => (i, getS ts i)
theorem prn_get (l : List Nat) (ts : List (Nat × T)) (i : Nat) : getS (prn l ts) i = getS ts i ∨ getS (prn l ts) i = .bot := by
 induction l with
 | nil => exact .inr rfl
 | cons j l ih =>
  simp only [prn, List.map_cons, getS]
  cases hb : Nat.beq i j with
  | true => have := Nat.eq_of_beq_eq_true hb; subst this; exact .inl rfl
  | false => exact ih
theorem Seen.prn {n0 N : Nat} {st st' : St} (l : List Nat) (h : st' = ⟨Sh.prn l st.ts, st.L⟩) : Seen n0 N st st' := fun g a df hR => by
 subst h
 refine ⟨g, rfl, .refl n0 g, hR.good, hR.M, hR.size, fun i => ?_, hR.df⟩
 rcases prn_get l st.ts i with e | e
 ·dsimp only; rw [e]; exact hR.ts i
 ·dsimp only; rw [e]; exact .bot _
def jnQ {β : Type} (n0 N : Nat) (A : β → Prop) (S : β → St) : St → Prop := fun st => ∃ b, A b ∧ Seen n0 N st (S b)
theorem sw_join {β : Type} (A : β → Prop) (S : β → St) (hI : ∀ b, A b → SW P n0 N df y Q (S b)) (h : SW P n0 N df x (thenQ (fun st => jnQ n0 N A S st ∨ SW P n0 N df y Q st) Q) st) : SW P n0 N df x (thenQ (SW P n0 N df y Q) Q) st :=
 h.mono fun sx st h => by
  cases sx <;> first | exact h | skip
  rcases h with ⟨b, h1, h2⟩ | h
  ·exact SW.seen (fun _ _ hR => h2 _ _ _ hR) (hI b h1)
  ·exact h
theorem SWM.mono {Q' : SX → St → Prop} (h : SWM P n0 N x Q st) (k : ∀ sx st, Q sx st → Q' sx st) : SWM P n0 N x Q' st := fun nn db g a df hR hd =>
 wpIn_mono (h nn db g a df hR hd) fun _ _ _ ⟨g', sx, st', df', h1, h2, h3, h4, h5, h6⟩ => ⟨g', sx, st', df', h1, h2, h3, h4, h5, k _ _ h6⟩
theorem SWY.seen {st' : St} (hv : Seen n0 N st st') (h : SWY P n0 N x Q st') : SWY P n0 N x Q st := fun F nn hF g a hR => by
 obtain ⟨g1, hw, hl, hR1⟩ := hv _ _ _ hR
 have := h F nn hF g1 a hR1
 rw [hw] at this
 exact wpR_mono this fun _ _ _ ⟨g', sx, st', h1, h2, h3, h4, h5⟩ => ⟨g', sx, st', h1, hl.trans h2, h3, h4, h5⟩
theorem sw_loopS {c : Code} (I : Nat → St → Prop) {m : Nat} {st0 : St} (hv : Seen n0 N st st0) (h0 : I m st0)
  (h : ∀ m st, I m st → SW P n0 N df c (thenQ (fun st' => ∃ m' st'', m' < m ∧ Seen n0 N st' st'' ∧ I m' st'') Q) st) : SW P n0 N df (.loop c) Q st := by
 refine SW.seen (fun _ _ hR => hv _ _ _ hR) ?_
 intro F nn hF g a hR
 let Pm : Nat → Act → World → Prop := fun m a' w' => ∃ g' st', g'.w = w' ∧ LeN n0 g g' ∧ StR g' N st' a' df ∧ I m st'
 have hex : ∃ pick : Act → World → Nat, ∀ a' w', (∃ m, Pm m a' w') → Pm (pick a' w') a' w' ∧ ∀ k, Pm k a' w' → pick a' w' ≤ k := by
  have h1 : ∀ p : Act × World, ∃ m, (∃ m, Pm m p.1 p.2) → Pm m p.1 p.2 ∧ ∀ k, Pm k p.1 p.2 → m ≤ k := fun p => by
   by_cases h : ∃ m, Pm m p.1 p.2
   ·obtain ⟨m, hm⟩ := least h; exact ⟨m, fun _ => hm⟩
   ·exact ⟨0, fun h' => absurd h' h⟩
  exact ⟨fun a' w' => Classical.choose (h1 (a', w')), fun a' w' => Classical.choose_spec (h1 (a', w'))⟩
 obtain ⟨pick, hpick⟩ := hex
 refine wpIn_loop (fun a' w' => ∃ m, Pm m a' w') pick ⟨m, g, st0, rfl, .refl n0 g, hR, h0⟩ fun a' w' hI => ?_
 obtain ⟨⟨g1, st1, rfl, hl1, hR1, hI1⟩, _⟩ := hpick a' w' hI
 refine wpIn_mono (h _ st1 hI1 F nn hF g1 a' hR1) ?_
 rintro ex a2 w2 ⟨g2, sx, st2, rfl, k2, k3, k4, k5⟩
 cases sx with
 | norm =>
  cases ex <;> first | exact k4.elim | skip
  obtain ⟨m', st3, hlt, hv3, hI2⟩ := k5
  obtain ⟨g3, hw3, hl3, hR3⟩ := hv3 _ _ _ k3
  have hP : Pm m' a2 g2.w := ⟨g3, st3, hw3, (hl1.trans k2).trans hl3, hR3, hI2⟩
  have hex : ∃ m, Pm m a2 g2.w := ⟨m', hP⟩
  exact ⟨hex, Nat.lt_of_le_of_lt ((hpick a2 g2.w hex).2 m' hP) hlt⟩
 | ret => cases ex <;> first | exact k4.elim | exact ⟨g2, _, st2, rfl, hl1.trans k2, k3, k4, k5⟩
 | exit i => cases ex <;> first | exact k4.elim | exact ⟨g2, _, st2, rfl, hl1.trans k2, k3, k4, k5⟩
 | pan t => cases ex <;> first | exact k4.elim | exact ⟨g2, _, st2, rfl, hl1.trans k2, k3, k4, k5⟩
end
section
variable {P : Program} {X : JX} {N : Nat} {Q : SX → SX → St → Prop} {ph : SX} {st : St}
end
end Go.Proofs.Ytjnnkcnnandeeaa.Sh
namespace Go.Proofs.Ytjnnkcnnandeeaa.Sh
open Go
def iand (k : IntKind) (a b : Int) : Int := k.wrap (BitVec.ofInt k.bits a &&& BitVec.ofInt k.bits b).toNat
def ishr (k : IntKind) (a b : Int) : Int := a.fdiv (2 ^ (min b.toNat k.bits))
section
variable {P : Program} {o : Oper} {fresh : Nat}
end
section
variable {P : Program} {N : Nat} {ops : Array Oper} {l : List Oper} {ts : List (Nat × T)} {L : List (Option Rw)} {tr : List Stp} {d : Nat} {ty : TypeId} {pos : String} {af : Array Edge} {gd : Option (Nat × Bool)} {K : List Oper → List Stp → St → Prop}
theorem r_and {t1 t2 : TypeId} {x y : Operand} {k : IntKind} {a b : Int} (hx : opT ts x = .d (.v (.int k a))) (hy : opT ts y = .d (.v (.int k b))) (hw : wantT ops ts ⟨some d, .binOp .and t1 x y t2, ty, pos, af, gd⟩ = some true) (hd : Nat.blt d N = true)
  (kk : EvK P N ops l ⟨(d, .d (.v (.int k (iand k a b)))) :: ts, L⟩ (tr ++ [.run [] []]) K) : EvK P N ops (⟨some d, .binOp .and t1 x y t2, ty, pos, af, gd⟩ :: l) ⟨ts, L⟩ tr K :=
 ev_val (ins := [(x, .d (.v (.int k a))), (y, .d (.v (.int k b)))]) rfl (o_bin (p := .int k a) (q := .int k b) (z := .int k (iand k a b)) rfl rfl (fun w => by simp [go_sem, Op.intBits, iand])) hw (by simp [Op.operands, hx, hy]) (by simp) hd kk
theorem r_shr {t1 t2 : TypeId} {x y : Operand} {k k2 : IntKind} {a b : Int} (hx : opT ts x = .d (.v (.int k a))) (hy : opT ts y = .d (.v (.int k2 b))) (hb : ¬ b < 0) (hw : wantT ops ts ⟨some d, .binOp .shr t1 x y t2, ty, pos, af, gd⟩ = some true) (hd : Nat.blt d N = true)
  (kk : EvK P N ops l ⟨(d, .d (.v (.int k (ishr k a b)))) :: ts, L⟩ (tr ++ [.run [] []]) K) : EvK P N ops (⟨some d, .binOp .shr t1 x y t2, ty, pos, af, gd⟩ :: l) ⟨ts, L⟩ tr K :=
 ev_val (ins := [(x, .d (.v (.int k a))), (y, .d (.v (.int k2 b)))]) rfl (o_bin (p := .int k a) (q := .int k2 b) (z := .int k (ishr k a b)) rfl rfl (fun w => by simp [go_sem, Op.shift, hb, ishr])) hw (by simp [Op.operands, hx, hy]) (by simp) hd kk
end
end Go.Proofs.Ytjnnkcnnandeeaa.Sh
namespace Go.Proofs.Ytjnnkcnnandeeaa.Sh
open Go Go.ChangeShapes Go.WideShapes Go.ChangeAt Go.RowKit Go.Joins Go.Deep
section
variable {P : Program} {H : Type} {enc : TypeId × Value → H} {W : World}
end
end Go.Proofs.Ytjnnkcnnandeeaa.Sh
namespace Go.Proofs.Ytjnnkcnnandeeaa.Sh
open Go
section
variable {P : Program} {o : Oper} {fresh : Nat}
end
section
variable {P : Program} {N : Nat} {ops : Array Oper} {l : List Oper} {ts : List (Nat × T)} {L : List (Option Rw)} {tr : List Stp} {K : List Oper → List Stp → St → Prop} {d : Nat} {ty : TypeId} {pos : String} {af : Array Edge} {gd : Option (Nat × Bool)}
theorem r_quo {t1 t2 : TypeId} {x y : Operand} {k : IntKind} {a b : Int} (hx : opT ts x = .d (.v (.int k a))) (hy : opT ts y = .d (.v (.int k b))) (hb : b ≠ 0) (hw : wantT ops ts ⟨some d, .binOp .quo t1 x y t2, ty, pos, af, gd⟩ = some true) (hd : Nat.blt d N = true)
  (kk : EvK P N ops l ⟨(d, .d (.v (.int k (k.wrap (a.tdiv b))))) :: ts, L⟩ (tr ++ [.run [] []]) K) : EvK P N ops (⟨some d, .binOp .quo t1 x y t2, ty, pos, af, gd⟩ :: l) ⟨ts, L⟩ tr K :=
 ev_val (ins := [(x, .d (.v (.int k a))), (y, .d (.v (.int k b)))]) rfl (o_bin (p := .int k a) (q := .int k b) (z := .int k (k.wrap (a.tdiv b))) rfl rfl (fun w => by simp [go_sem, Op.intDiv, hb])) hw (by simp [Op.operands, hx, hy]) (by simp) hd kk
end
end Go.Proofs.Ytjnnkcnnandeeaa.Sh
namespace Go.Proofs.Ytjnnkcnnandeeaa.Sh
open Go
structure LeA (A : Nat → Prop) (n0 : Nat) (g g' : G) : Prop where
 e : ∀ n, n < n0 → g.M n ≠ none → g'.M n ≠ none ∧ g'.β n = g.β n
 size : g.w.heap.size ≤ g'.w.heap.size
 os : g'.w.os = g.w.os
 tape : g'.w.tape = g.w.tape
 output : g'.w.output = g.w.output
 fr : ∀ b, b < g.w.heap.size → NL g b → ¬ A b → g'.w.heap[b]? = g.w.heap[b]?
 k : ∀ b, g.K b → g'.K b
 k' : ∀ b, b < g.w.heap.size → g'.K b → g.K b ∨ ¬ NL g b
 nl : ∀ n r, g'.M n = some (some r) → (g'.β n).2 ≠ 0 → (g'.β n).1 < g.w.heap.size → ¬ NL g (g'.β n).1
section
variable {A B : Nat → Prop} {l n0 n1 : Nat} {g g' : G}
theorem LeN.toA (h : LeN n0 g g') (A : Nat → Prop) : LeA A n0 g g' := ⟨h.e, h.size, h.os, h.tape, h.output, fun b hb hn _ => h.fr b hb hn, h.k, h.k', h.nl⟩
theorem LeL.toA (h : LeL l n0 g g') : LeA (· = l) n0 g g' := ⟨h.e, h.size, h.os, h.tape, h.output, h.fr, h.k, h.k', h.nl⟩
theorem LeA.grow (h : LeA A n0 g g') (hA : ∀ b, A b → B b) : LeA B n0 g g' := ⟨h.e, h.size, h.os, h.tape, h.output, fun b hb hn ha => h.fr b hb hn fun hx => ha (hA b hx), h.k, h.k', h.nl⟩
theorem LeA.less (h : LeA A n0 g g') (hn : n1 ≤ n0) : LeA A n1 g g' := ⟨fun n hlt => h.e n (by omega), h.size, h.os, h.tape, h.output, h.fr, h.k, h.k', h.nl⟩
theorem LeA.refl (A : Nat → Prop) (n0 : Nat) (g : G) : LeA A n0 g g := (LeN.refl n0 g).toA A
theorem LeA.keepNL (h : LeA A n0 g g') {b : Nat} (hb : b < g.w.heap.size) (hn : NL g b) : NL g' b := fun n r hr h0 he => h.nl n r hr h0 (by rw [he]; exact hb) (he ▸ hn)
theorem LeA.trans {a b c : G} (h : LeA A n0 a b) (k : LeA A n0 b c) : LeA A n0 a c where
 e n hlt hn := by
  obtain ⟨h1, h2⟩ := h.e n hlt hn
  obtain ⟨k1, k2⟩ := k.e n hlt h1
  exact ⟨k1, k2.trans h2⟩
 size := Nat.le_trans h.size k.size
 os := k.os.trans h.os
 tape := k.tape.trans h.tape
 output := k.output.trans h.output
 fr x hx hn hl := (k.fr x (Nat.lt_of_lt_of_le hx h.size) (h.keepNL hx hn) hl).trans (h.fr x hx hn hl)
 k x hx := k.k x (h.k x hx)
 k' x hx hk := by
  rcases k.k' x (Nat.lt_of_lt_of_le hx h.size) hk with h1 | h1
  ·exact h.k' x hx h1
  ·exact .inr fun hn => h1 (h.keepNL hx hn)
 nl n r hr h0 hlt := by
  intro hn
  exact k.nl n r hr h0 (Nat.lt_of_lt_of_le hlt h.size) (h.keepNL hlt hn)
theorem LeA.drop (h : LeA B n0 g g') (hB : ∀ b, b < g.w.heap.size → B b → A b) : LeA A n0 g g' := ⟨h.e, h.size, h.os, h.tape, h.output, fun b hb hn ha => h.fr b hb hn fun hx => ha (hB b hb hx), h.k, h.k', h.nl⟩
theorem LeA.toN (h : LeA A n0 g g') (hA : ∀ b, b < g.w.heap.size → ¬ A b) : LeN n0 g g' := ⟨h.e, h.size, h.os, h.tape, h.output, fun b hb hn => h.fr b hb hn (hA b hb), h.k, h.k', h.nl⟩
theorem LeA.at (h : LeA A n0 g g') {b : Nat} (hb : b < g.w.heap.size) (hn : NL g b) (hk : ¬ g.K b) (ha : ¬ A b) : g'.w.heap[b]? = g.w.heap[b]? ∧ ¬ g'.K b :=
 ⟨h.fr b hb hn ha, fun hk' => by rcases h.k' b hb hk' with h1 | h1; exact hk h1; exact h1 hn⟩
end
structure Cx (Φ : Type) where
 A : Nat → Prop
 own : Nat → Prop
 n1 : Nat
 ok : Φ → G → Prop
 sub : ∀ b, A b → own b
 lt : ∀ ph g, ok ph g → ∀ b, own b → b < g.w.heap.size
 nk : ∀ ph g, ok ph g → ∀ b, own b → ¬ g.K b
 step : ∀ (S : Nat → Prop) ph g g', ok ph g → Good g → LeA S n1 g g' → (∀ b, S b → ¬ g.K b) → (∀ b, S b → ¬ own b) → ok ph g'
def Cx.zero (n : Nat) : Cx Unit := ⟨fun _ => False, fun _ => False, n, fun _ _ => True, fun _ h => h, fun _ _ _ _ h => h.elim, fun _ _ _ _ h => h.elim, fun _ _ _ _ _ _ _ _ _ => trivial⟩
def Cx.up {Φ : Type} (C : Cx Φ) (m : Nat) (h : C.n1 ≤ m) : Cx Φ := ⟨C.A, C.own, m, C.ok, C.sub, C.lt, C.nk, fun S ph g g' h1 h2 h3 => C.step S ph g g' h1 h2 (h3.less h)⟩
theorem Cx.stepN {Φ : Type} (C : Cx Φ) {ph : Φ} {g g' : G} (h : C.ok ph g) (hg : Good g) (hl : LeN C.n1 g g') : C.ok ph g' := C.step (fun _ => False) ph g g' h hg (hl.toA _) (fun _ h => h.elim) (fun _ h => h.elim)
def PostC {Φ : Type} (C : Cx Φ) (g : G) (N : Nat) (Q : Φ → SX → St → Prop) : Exit → Act → World → Prop := fun ex a' w' =>
 ∃ g' ph sx st, g'.w = w' ∧ LeA C.A C.n1 g g' ∧ StR g' N st a' [] ∧ C.ok ph g' ∧ XR g' sx ex ∧ Q ph sx st
theorem PostC.trans {Φ : Type} {C : Cx Φ} {g g1 : G} {N : Nat} {Q : Φ → SX → St → Prop} (hl : LeA C.A C.n1 g g1) {ex : Exit} {a : Act} {w : World} (h : PostC C g1 N Q ex a w) : PostC C g N Q ex a w := by
 obtain ⟨g', ph, sx, st, h1, h2, h3⟩ := h
 exact ⟨g', ph, sx, st, h1, hl.trans h2, h3⟩
def SWC {Φ : Type} (P : Program) (C : Cx Φ) (N : Nat) (c : Code) (Q : Φ → SX → St → Prop) (ph : Φ) (st : St) : Prop :=
 ∀ (F : Fence) (nn : Nat), Wd F → ∀ (g : G) (a : Act), C.ok ph g → StR g N st a [] → c.wpIn F nn P (PostC C g N Q) a g.w
section
variable {Φ : Type} {P : Program} {C : Cx Φ} {N : Nat} {Q : Φ → SX → St → Prop} {ph : Φ} {st : St}
theorem SWC.seen {c : Code} {st' : St} (k : ∀ (g : G) (a : Act), StR g N st a [] → ∃ g', g'.w = g.w ∧ LeN C.n1 g g' ∧ StR g' N st' a []) (h : SWC P C N c Q ph st') : SWC P C N c Q ph st := fun F nn hF g a hj hR => by
 obtain ⟨g', hw, hle, hR'⟩ := k g a hR
 have := h F nn hF g' a (C.stepN hj hR.good hle) hR'
 rw [hw] at this
 exact wpIn_mono this fun _ _ _ hq => hq.trans (hle.toA _)
theorem SWC.own {c : Code} {ts ts' : List (Nat × T)} {L L' : List (Option Rw)} (s : Nat) (hs : Nat.beq s 0 = false) {m : Nat} {nr : List Nat} (hm : nums.drop L.length = m :: nr) (hts : OwnS m s ts ts') (hL : OwnR m s L L') (h : SWC P C N c Q ph ⟨ts', L' ++ [some ⟨s, []⟩]⟩) : SWC P C N c Q ph ⟨ts, L⟩ :=
 SWC.seen (fun _ _ hR => own_see C.n1 s hs hm hts hL hR) h
theorem SWC.fz {c : Code} {ts ts' : List (Nat × T)} {L L' : List (Option Rw)} {α : Type} {w : List α} {f : α → D} (n s : Nat) (hn0 : L[n]? = some (some ⟨s, w.map fun a => .d (f a)⟩)) (hts : FzS n s (w.map f) ts ts') (hL : FzR n s (w.map f) (L.set n none) L') (h : SWC P C N c Q ph ⟨ts', L'⟩) : SWC P C N c Q ph ⟨ts, L⟩ :=
 SWC.seen (fun _ _ hR => fz_see C.n1 n s hn0 hts hL hR) h
end
end Go.Proofs.Ytjnnkcnnandeeaa.Sh
namespace Go.Proofs.Ytjnnkcnnandeeaa.Sh
open Go
section
variable {Φ : Type} {P : Program} {C : Cx Φ} {X : JX} {r : JR} {n N : Nat} {h1 : C.n1 ≤ n} {h2 : X.n1 ≤ n} {Q : SX × Φ → SX → St → Prop} {φ : Φ}
end
section
variable {Φ : Type} {P : Program} {C : Cx Φ} {N : Nat} {Q : Φ → SX → St → Prop} {ph : Φ} {st : St}
end
theorem NewsR.map {nn : Nat} {α : Type} {w : List α} {kf : α → Value} {vf : α → D} {l l' : List Rw} (q : NewsR nn l l') : NewsR nn (⟨0, w.map fun p => .agg [.d (.v (kf p)), .d (vf p)]⟩ :: l) (⟨0, w.map fun p => .agg [.d (.v (kf p)), .d (vf p)]⟩ :: l') := by
 refine .cons ?_ q
 have h := RnO.eq (σ := fun n => nn + n) (.map (w := w) (kf := kf) (vf := vf) .nil)
 simp only [List.map_cons, List.map_nil, Option.map_some, List.cons.injEq, Option.some.injEq, and_true] at h
 exact h
end Go.Proofs.Ytjnnkcnnandeeaa.Sh
namespace Go.Proofs.Ytjnnkcnnandeeaa.Sh
open Go
inductive SubR : List (Option Rw) → List (Option Rw) → Prop where
 | nil (l : List (Option Rw)) : SubR [] l
 | keep {x : Option Rw} {l l' : List (Option Rw)} (h : SubR l l') : SubR (x :: l) (x :: l')
 | drop {x : Option Rw} {l l' : List (Option Rw)} (h : SubR l l') : SubR (none :: l) (x :: l')
theorem SubR.get {l l' : List (Option Rw)} (h : SubR l l') : ∀ (n : Nat) (r : Rw), l[n]? = some (some r) → l'[n]? = some (some r) := by
 induction h with
 | nil => intro n r h; simp at h
 | keep _ ih => intro n r h; cases n with
  | zero => simpa using h
  | succ n => simpa using ih n r (by simpa using h)
 | drop _ ih => intro n r h; cases n with
  | zero => simp at h
  | succ n => simpa using ih n r (by simpa using h)
inductive CastD : D → D → Prop where
 | same (x : D) : CastD x x
 | nil (s : Nat) : CastD (.v (.slice none 0 0)) (.arr s [])
 | agg0 : CastD (.agg []) (.agg [])
 | aggc {x x' : D} {l l' : List D} (h : CastD x x') (q : CastD (.agg l) (.agg l')) : CastD (.agg (x :: l)) (.agg (x' :: l'))
theorem CastD.val {g : G} {d d' : D} (h : CastD d d') : ∀ c, VD g d c → VD g d' c := by
 induction h with
 | same => exact fun _ h => h
 | nil s =>
  intro c hv
  cases hv with | v x h => exact .arr0 s none 0
 | agg0 => exact fun _ h => h
 | aggc h q ih iq =>
  intro c hv
  cases hv with | agg l0 cs hl hc =>
  have hsz : cs.toList.length ≠ 0 := by intro e; simp at e; subst e; simp at hl
  obtain ⟨y, ys, hys⟩ : ∃ y ys, cs = (y :: ys).toArray := by
   obtain ⟨l2⟩ := cs
   cases l2 with
   | nil => simp at hsz
   | cons y ys => exact ⟨y, ys, rfl⟩
  subst hys
  have h2 := iq (.agg ys.toArray) (.agg _ _ (by simpa using hl) fun i d c h1 h2 => hc (i + 1) d c (by simpa using h1) (by simpa using h2))
  cases h2 with | agg l3 cs3 hl3 hc3 =>
  refine .agg _ _ (by simpa using hl3) fun i d c h1 h2 => ?_
  cases i with
  | zero =>
   simp only [List.getElem?_cons_zero, Option.some.injEq] at h1
   subst h1
   simp only [List.getElem?_toArray, List.getElem?_cons_zero, Option.some.injEq] at h2
   subst h2
   exact ih _ (hc 0 _ _ rfl rfl)
  | succ i => exact hc3 i d c (by simpa using h1) (by simpa using h2)
inductive CastDs : List D → List D → Prop where
 | nil : CastDs [] []
 | cons {x y : D} {l l' : List D} (h : CastD x y) (q : CastDs l l') : CastDs (x :: l) (y :: l')
theorem CastDs.get {l l' : List D} (h : CastDs l l') : l.length = l'.length ∧ ∀ (i : Nat) (y : D), l'[i]? = some y → ∃ x, l[i]? = some x ∧ CastD x y := by
 induction h with
 | nil => exact ⟨rfl, fun i y h => by simp at h⟩
 | cons h _ ih =>
  refine ⟨by simp [ih.1], fun i y hy => ?_⟩
  cases i with
  | zero => simp only [List.getElem?_cons_zero, Option.some.injEq] at hy; subst hy; exact ⟨_, rfl, h⟩
  | succ i => simpa using ih.2 i y (by simpa using hy)
section
variable {P : Program} {n0 N : Nat} {Q : SX → St → Prop} {st : St}
end
section
variable {P : Program} {N : Nat} {ops : Array Oper} {l : List Oper} {ts : List (Nat × T)} {L : List (Option Rw)} {tr : List Stp} {K : List Oper → List Stp → St → Prop} {d : Nat} {ty : TypeId} {pos : String} {af : Array Edge} {gd : Option (Nat × Bool)}
end
end Go.Proofs.Ytjnnkcnnandeeaa.Sh
namespace Go.Proofs.Ytjnnkcnnandeeaa.Sh
open Go
section
variable {P : Program} {N : Nat} {ops : Array Oper} {l : List Oper} {ts : List (Nat × T)} {L : List (Option Rw)} {tr : List Stp} {K : List Oper → List Stp → St → Prop} {d : Nat} {ty : TypeId} {pos : String} {af : Array Edge} {gd : Option (Nat × Bool)}
theorem q_add {t1 t2 : TypeId} {x y : Operand} {k : IntKind} {a b : Int}  (hh : (opT ts x, opT ts y, wantT ops ts ⟨some d, .binOp .add t1 x y t2, ty, pos, af, gd⟩, Nat.blt d N) = (.d (.v (.int k a)), .d (.v (.int k b)), some true, true)) (kk : EvK P N ops l ⟨(d, .d (.v (.int k (k.wrap (a + b))))) :: ts, L⟩ (tr ++ [.run (List.map Prod.fst ([] : List (Nat × Rw))) []]) K) : EvK P N ops (⟨some d, .binOp .add t1 x y t2, ty, pos, af, gd⟩ :: l) ⟨ts, L⟩ tr K :=
 r_add (congrArg (fun p => p.1) hh) (congrArg (fun p => p.2.1) hh) (congrArg (fun p => p.2.2.1) hh) (congrArg (fun p => p.2.2.2) hh) kk
theorem q_asgD {x : Operand} {y : D}  (hh : (opT ts x, wantT ops ts ⟨some d, .assign x, ty, pos, af, gd⟩, Nat.blt d N) = (.d y, some true, true)) (kk : EvK P N ops l ⟨(d, .d y) :: ts, L⟩ (tr ++ [.run (List.map Prod.fst ([] : List (Nat × Rw))) []]) K) : EvK P N ops (⟨some d, .assign x, ty, pos, af, gd⟩ :: l) ⟨ts, L⟩ tr K :=
 r_asgD (congrArg (fun p => p.1) hh) (congrArg (fun p => p.2.1) hh) (congrArg (fun p => p.2.2) hh) kk
theorem q_box {t : TypeId} {x : Operand} {u : T} {s : Nat} {nr2 : List Nat} {n : Nat} {nr : List Nat}  (hh : (opT ts x, nums.drop u.cells.length, allOne u.cells, Nat.beq s 0, nums.drop L.length, wantT ops ts ⟨some d, .box t x, ty, pos, af, gd⟩, Nat.blt d N) = (u, s :: nr2, true, false, n :: nr, some true, true)) (kk : EvK P N ops l ⟨(d, .ref n s 0 0) :: ts, L ++ [some ⟨s, [u]⟩]⟩ (tr ++ [.run (List.map Prod.fst ([] : List (Nat × Rw)) ++ [n]) [n]]) K) : EvK P N ops (⟨some d, .box t x, ty, pos, af, gd⟩ :: l) ⟨ts, L⟩ tr K :=
 r_box (congrArg (fun p => p.1) hh) (congrArg (fun p => p.2.1) hh) (congrArg (fun p => p.2.2.1) hh) (congrArg (fun p => p.2.2.2.1) hh) (congrArg (fun p => p.2.2.2.2.1) hh) (congrArg (fun p => p.2.2.2.2.2.1) hh) (congrArg (fun p => p.2.2.2.2.2.2) hh) kk
theorem q_fa {t : TypeId} {i : TI} {x : Operand} {n s q c f m : Nat} {b : Bool} {c' : Nat} {o2 : Nat} {nr : List Nat} (tb : Tab P) (hh : (tb.f t, opT ts x, i.fs[f]?, Nat.beq m 0, nums.drop (c + c'), wantT ops ts ⟨some d, .fieldAddr t x f, ty, pos, af, gd⟩, Nat.blt d N) = (some i, .ref n s q c, some (c', b, m), false, o2 :: nr, some true, true)) (kk : EvK P N ops l ⟨(d, .ref n s q o2) :: ts, L⟩ (tr ++ [.run (List.map Prod.fst ([] : List (Nat × Rw))) []]) K) : EvK P N ops (⟨some d, .fieldAddr t x f, ty, pos, af, gd⟩ :: l) ⟨ts, L⟩ tr K :=
 r_fa tb (congrArg (fun p => p.1) hh) (congrArg (fun p => p.2.1) hh) (congrArg (fun p => p.2.2.1) hh) (congrArg (fun p => p.2.2.2.1) hh) (congrArg (fun p => p.2.2.2.2.1) hh) (congrArg (fun p => p.2.2.2.2.2.1) hh) (congrArg (fun p => p.2.2.2.2.2.2) hh) kk
theorem q_faE {t : TypeId} {i : TI} {x : Operand} {s q c f m : Nat} {w : List D} {b : Bool} {c' : Nat} {o2 : Nat} {nr : List Nat} (tb : Tab P) (hh : (tb.f t, opT ts x, i.fs[f]?, Nat.beq m 0, nums.drop (c + c'), wantT ops ts ⟨some d, .fieldAddr t x f, ty, pos, af, gd⟩, Nat.blt d N) = (some i, .d (.el s w q c), some (c', b, m), false, o2 :: nr, some true, true)) (kk : EvK P N ops l ⟨(d, .d (.el s w q o2)) :: ts, L⟩ (tr ++ [.run (List.map Prod.fst ([] : List (Nat × Rw))) []]) K) : EvK P N ops (⟨some d, .fieldAddr t x f, ty, pos, af, gd⟩ :: l) ⟨ts, L⟩ tr K :=
 r_faE tb (congrArg (fun p => p.1) hh) (congrArg (fun p => p.2.1) hh) (congrArg (fun p => p.2.2.1) hh) (congrArg (fun p => p.2.2.2.1) hh) (congrArg (fun p => p.2.2.2.2.1) hh) (congrArg (fun p => p.2.2.2.2.2.1) hh) (congrArg (fun p => p.2.2.2.2.2.2) hh) kk
theorem q_ixE {t e : TypeId} {i ei : TI} {x y : Operand} {s : Nat} {w : List D} {k : IntKind} {q : Int} (tb : Tab P) (h0 : 0 ≤ q) (h1 : q < w.length) (hh : (tb.f t, i.sl, tb.f e, opT ts x, ei.size, opT ts y, wantT ops ts ⟨some d, .indexAddr t x y, ty, pos, af, gd⟩, Nat.blt d N) = (some i, some e, some ei, .d (.arr s w), s, .d (.v (.int k q)), some true, true)) (kk : EvK P N ops l ⟨(d, .d (.el s w q.toNat 0)) :: ts, L⟩ (tr ++ [.run (List.map Prod.fst ([] : List (Nat × Rw))) []]) K) : EvK P N ops (⟨some d, .indexAddr t x y, ty, pos, af, gd⟩ :: l) ⟨ts, L⟩ tr K :=
 r_ixE tb (congrArg (fun p => p.1) hh) (congrArg (fun p => p.2.1) hh) (congrArg (fun p => p.2.2.1) hh) (congrArg (fun p => p.2.2.2.1) hh) (congrArg (fun p => p.2.2.2.2.1) hh) (congrArg (fun p => p.2.2.2.2.2.1) hh) h0 h1 (congrArg (fun p => p.2.2.2.2.2.2.1) hh) (congrArg (fun p => p.2.2.2.2.2.2.2) hh) kk
theorem q_ldD {t : TypeId} {i : TI} {x : Operand} {n s q c : Nat} {r : Rw} {e : T} {y : D} (tb : Tab P) (hh : (tb.f t, opT ts x, L[n]?, r.s, r.els[q]?, partOk i e.cells.length c, partOf i e.cells c, wantT ops ts ⟨some d, .load t x, ty, pos, af, gd⟩, Nat.blt d N) = (some i, .ref n s q c, some (some r), s, some e, true, .d y, some true, true)) (kk : EvK P N ops l ⟨(d, .d y) :: ts, L⟩ (tr ++ [.run (List.map Prod.fst ([(n, r)] : List (Nat × Rw))) []]) K) : EvK P N ops (⟨some d, .load t x, ty, pos, af, gd⟩ :: l) ⟨ts, L⟩ tr K :=
 r_ldD tb (congrArg (fun p => p.1) hh) (congrArg (fun p => p.2.1) hh) (congrArg (fun p => p.2.2.1) hh) (congrArg (fun p => p.2.2.2.1) hh) (congrArg (fun p => p.2.2.2.2.1) hh) (congrArg (fun p => p.2.2.2.2.2.1) hh) (congrArg (fun p => p.2.2.2.2.2.2.1) hh) (congrArg (fun p => p.2.2.2.2.2.2.2.1) hh) (congrArg (fun p => p.2.2.2.2.2.2.2.2) hh) kk
theorem q_ldE {t : TypeId} {i : TI} {x : Operand} {s q c : Nat} {w : List D} {e y : D} (tb : Tab P) (he : w[q]? = some e) (hh : (tb.f t, opT ts x, partOk i e.cells.length c, partOf i (e.cells.map .d) c, wantT ops ts ⟨some d, .load t x, ty, pos, af, gd⟩, Nat.blt d N) = (some i, .d (.el s w q c), true, .d y, some true, true)) (kk : EvK P N ops l ⟨(d, .d y) :: ts, L⟩ (tr ++ [.run (List.map Prod.fst ([] : List (Nat × Rw))) []]) K) : EvK P N ops (⟨some d, .load t x, ty, pos, af, gd⟩ :: l) ⟨ts, L⟩ tr K :=
 r_ldE tb (congrArg (fun p => p.1) hh) (congrArg (fun p => p.2.1) hh) he (congrArg (fun p => p.2.2.1) hh) (congrArg (fun p => p.2.2.2.1) hh) (congrArg (fun p => p.2.2.2.2.1) hh) (congrArg (fun p => p.2.2.2.2.2) hh) kk
theorem q_lenM {α : Type} {t e : TypeId} {i : TI} {x : Operand} {s : Nat} {w : List α} {g : α → D} (tb : Tab P) (hh : (tb.f t, i.sl, opT ts x, wantT ops ts ⟨some d, .call { callee := .builtin .len, args := #[x], argTypes := #[t] }, ty, pos, af, gd⟩, Nat.blt d N) = (some i, some e, .d (.arr s (w.map g)), some true, true)) (kk : EvK P N ops l ⟨(d, .d (.v (.int .i64 (w.length : Nat)))) :: ts, L⟩ (tr ++ [.run (List.map Prod.fst ([] : List (Nat × Rw))) []]) K) : EvK P N ops (⟨some d, .call { callee := .builtin .len, args := #[x], argTypes := #[t] }, ty, pos, af, gd⟩ :: l) ⟨ts, L⟩ tr K :=
 r_lenM tb (congrArg (fun p => p.1) hh) (congrArg (fun p => p.2.1) hh) (congrArg (fun p => p.2.2.1) hh) (congrArg (fun p => p.2.2.2.1) hh) (congrArg (fun p => p.2.2.2.2) hh) kk
theorem q_movD {x : Operand} {y : D}  (hh : (opT ts x, wantT ops ts ⟨some d, .move x, ty, pos, af, gd⟩, Nat.blt d N) = (.d y, some true, true)) (kk : EvK P N ops l ⟨(d, .d y) :: ts, L⟩ (tr ++ [.run (List.map Prod.fst ([] : List (Nat × Rw))) []]) K) : EvK P N ops (⟨some d, .move x, ty, pos, af, gd⟩ :: l) ⟨ts, L⟩ tr K :=
 r_movD (congrArg (fun p => p.1) hh) (congrArg (fun p => p.2.1) hh) (congrArg (fun p => p.2.2) hh) kk
theorem q_pickF {c x y : Operand} {t : D}  (hh : (opT ts c, opT ts y, wantT ops ts ⟨some d, .pick c x y, ty, pos, af, gd⟩, Nat.blt d N) = (.d (.v (.bool false)), .d t, some true, true)) (kk : EvK P N ops l ⟨(d, .d t) :: ts, L⟩ (tr ++ [.run (List.map Prod.fst ([] : List (Nat × Rw))) []]) K) : EvK P N ops (⟨some d, .pick c x y, ty, pos, af, gd⟩ :: l) ⟨ts, L⟩ tr K :=
 r_pickF (congrArg (fun p => p.1) hh) (congrArg (fun p => p.2.1) hh) (congrArg (fun p => p.2.2.1) hh) (congrArg (fun p => p.2.2.2) hh) kk
theorem q_pickT {c x y : Operand} {t : D}  (hh : (opT ts c, opT ts x, wantT ops ts ⟨some d, .pick c x y, ty, pos, af, gd⟩, Nat.blt d N) = (.d (.v (.bool true)), .d t, some true, true)) (kk : EvK P N ops l ⟨(d, .d t) :: ts, L⟩ (tr ++ [.run (List.map Prod.fst ([] : List (Nat × Rw))) []]) K) : EvK P N ops (⟨some d, .pick c x y, ty, pos, af, gd⟩ :: l) ⟨ts, L⟩ tr K :=
 r_pickT (congrArg (fun p => p.1) hh) (congrArg (fun p => p.2.1) hh) (congrArg (fun p => p.2.2.1) hh) (congrArg (fun p => p.2.2.2) hh) kk
theorem q_stE {t : TypeId} {i : TI} {x y : Operand} {n s q c : Nat} {r : Rw} {e u : T} (r' : Rw) (L' : List (Option Rw)) (tb : Tab P) (hh : (tb.f t, opT ts x, opT ts y, L[n]?, r.s, r.els[q]?, u.cells.length, allOne u.cells, Nat.ble (c + i.size) e.cells.length, (⟨r.s, r.els.set q (setEl e c u)⟩ : Rw), L.set n (some r'), wantT ops ts ⟨none, .store t x y, ty, pos, af, gd⟩) = (some i, .ref n s q c, u, some (some r), s, some e, i.size, true, true, r', L', some true)) (k : EvK P N ops l ⟨ts, L'⟩ (tr ++ [.run [n] [n]]) K) : EvK P N ops (⟨none, .store t x y, ty, pos, af, gd⟩ :: l) ⟨ts, L⟩ tr K :=
 r_stE r' L' tb (congrArg (fun p => p.1) hh) (congrArg (fun p => p.2.1) hh) (congrArg (fun p => p.2.2.1) hh) (congrArg (fun p => p.2.2.2.1) hh) (congrArg (fun p => p.2.2.2.2.1) hh) (congrArg (fun p => p.2.2.2.2.2.1) hh) (congrArg (fun p => p.2.2.2.2.2.2.1) hh) (congrArg (fun p => p.2.2.2.2.2.2.2.1) hh) (congrArg (fun p => p.2.2.2.2.2.2.2.2.1) hh) (congrArg (fun p => p.2.2.2.2.2.2.2.2.2.1) hh) (congrArg (fun p => p.2.2.2.2.2.2.2.2.2.2.1) hh) (congrArg (fun p => p.2.2.2.2.2.2.2.2.2.2.2) hh) k
def skN (ops : Array Oper) (N : Nat) : Nat → List Oper → List (Nat × T) → Option (List Oper × List (Nat × T))
 | 0, l, ts => some (l, ts)
 | _ + 1, [], _ => none
 | n + 1, o :: l, ts => match wantT ops ts o, o.dst with
   | some false, some d => bif Nat.blt d N then skN ops N n l ((d, .d (.tup [])) :: ts) else none
   | _, _ => none
def skT : Nat → List Stp → List Stp
 | 0, tr => tr
 | n + 1, tr => skT n (tr ++ [.skip])
theorem q_sk : ∀ (n : Nat) {l l' : List Oper} {ts ts' : List (Nat × T)} {tr : List Stp} (_ : skN ops N n l ts = some (l', ts')) (_ : EvK P N ops l' ⟨ts', L⟩ (skT n tr) K), EvK P N ops l ⟨ts, L⟩ tr K
 | 0, l, l', ts, ts', tr, h, k => by cases h; exact k
 | n + 1, [], l', ts, ts', tr, h, k => by cases h
 | n + 1, o :: l, l', ts, ts', tr, h, k => by
  rw [skN] at h
  split at h
  ·rename_i d hw ho
   cases hb : Nat.blt d N with
   | false => rw [hb] at h; cases h
   | true => rw [hb] at h; exact r_skip hw ho hb (q_sk n h k)
  ·cases h
theorem tsK_of {κ : List Nat} : ∀ {ts' : List (Nat × T)}, (ts'.map fun p => getS ts p.1) = (ts'.map fun p => p.2.ren (kap κ)) → (ts'.all fun p => p.2.sc κ.length) = true → TsK ts κ ts'
 | [], _, _ => .nil
 | (i, t) :: r, h, c => by
  rw [List.map_cons, List.map_cons] at h
  rw [List.all_cons, Bool.and_eq_true] at c
  exact .cons (List.cons.inj h).1 c.1 (tsK_of (List.cons.inj h).2 c.2)
theorem vK {n0 : Nat} {ts ts' : List (Nat × T)} {L L' : List (Option Rw)} {κ : List Nat} (hr : RwK L κ L' κ) (hh : (ndK κ, baseK n0 κ, (ts'.map fun p => getS ts p.1), ts'.all fun p => p.2.sc κ.length) = (true, true, (ts'.map fun p => p.2.ren (kap κ)), true)) : Vw n0 ⟨ts, L⟩ ⟨ts', L'⟩ κ :=
 vwK (congrArg (fun p => p.1) hh) (congrArg (fun p => p.2.1) hh) hr (tsK_of (congrArg (fun p => p.2.2.1) hh) (congrArg (fun p => p.2.2.2) hh))
theorem v0 {n0 : Nat} {ts ts' : List (Nat × T)} {L : List (Option Rw)} (hh : (ndK [], baseK n0 [], (ts'.map fun p => getS ts p.1), ts'.all fun p => p.2.sc 0) = (true, true, (ts'.map fun p => p.2.ren (kap [])), true)) : Vw n0 ⟨ts, L⟩ ⟨ts', []⟩ [] := vK .nil hh
theorem f1 {P : Program} {fn : Func} {n0 : Nat} {st : St} {y : T} (k : Nat) (hh : (Nat.beq n0 0, fn.results.toList, y.sc 0, getS st.ts k) = (true, [.tmp k], true, y.ren (kap []))) : Fin P fn n0 (fun se L' => se = .ret y ∧ L' = []) .ret st := by
 have h0 : Nat.beq n0 0 = true := congrArg (fun p => p.1) hh
 obtain rfl := Nat.eq_of_beq_eq_true h0
 exact fin_S (t := y) (L := []) (κ := []) (congrArg (fun p => p.2.1) hh) (.cons (.tmp k) .nil) (vwK rfl rfl .nil (.cons (congrArg (fun p => p.2.2.2) hh) (congrArg (fun p => p.2.2.1) hh) .nil)) ⟨rfl, rfl⟩
theorem f2 {P : Program} {fn : Func} {n0 : Nat} {st : St} {y : T} {Lf : List (Option Rw)} {rs : List ResultVar} {us : List T} (κ : List Nat) (hr : RwK st.L κ Lf κ) (hs : fn.results.toList = rs) (h : ResTs P st rs us) (hh : (ndK κ, baseK n0 κ, tupT us, y.sc κ.length) = (true, true, y.ren (kap κ), true)) : Fin P fn n0 (fun se L' => se = .ret y ∧ L' = Lf) .ret st :=
 fin_S (t := y) (L := Lf) (κ := κ) hs h (vwK (congrArg (fun p => p.1) hh) (congrArg (fun p => p.2.1) hh) hr (.cons (congrArg (fun p => p.2.2.1) hh) (congrArg (fun p => p.2.2.2) hh) .nil)) ⟨rfl, rfl⟩
end
end Go.Proofs.Ytjnnkcnnandeeaa.Sh
namespace Go.Proofs.Ytjnnkcnnandeeaa.Sh
open Go
section
variable {P : Program} {N : Nat} {ops : Array Oper} {l : List Oper} {ts : List (Nat × T)} {L : List (Option Rw)} {tr : List Stp} {d : Nat} {ty : TypeId} {pos : String} {af : Array Edge} {gd : Option (Nat × Bool)} {K : List Oper → List Stp → St → Prop}
end
end Go.Proofs.Ytjnnkcnnandeeaa.Sh
namespace Go.Proofs.Ytjnnkcnnandeeaa.Sh
open Go
section
variable {P : Program} {N : Nat} {ops : Array Oper} {l : List Oper} {ts : List (Nat × T)} {L : List (Option Rw)} {tr : List Stp} {d : Nat} {ty : TypeId} {pos : String} {af : Array Edge} {gd : Option (Nat × Bool)} {K : List Oper → List Stp → St → Prop}
end
end Go.Proofs.Ytjnnkcnnandeeaa.Sh
namespace Go.Proofs.Ytjnnkcnnandeeaa.Sh
open Go
section
variable {P : Program} {N : Nat} {ops : Array Oper} {l : List Oper} {ts : List (Nat × T)} {L : List (Option Rw)} {tr : List Stp} {d : Nat} {ty : TypeId} {pos : String} {af : Array Edge} {gd : Option (Nat × Bool)} {K : List Oper → List Stp → St → Prop}
end
end Go.Proofs.Ytjnnkcnnandeeaa.Sh
namespace Go.Proofs.Ytjnnkcnnandeeaa.Sh
open Go
def vi8 (x : Int) : D := .v (.int .i8 x)
def ior (k : IntKind) (a b : Int) : Int := k.wrap (BitVec.ofInt k.bits a ||| BitVec.ofInt k.bits b).toNat
def iandN (k : IntKind) (a b : Int) : Int := k.wrap (BitVec.ofInt k.bits a &&& ~~~(BitVec.ofInt k.bits b)).toNat
def ishl (k : IntKind) (a b : Int) : Int := k.wrap (a * 2 ^ (min b.toNat k.bits))
section
variable {P : Program} {N : Nat} {ops : Array Oper} {l : List Oper} {ts : List (Nat × T)} {L : List (Option Rw)} {tr : List Stp} {d : Nat} {ty : TypeId} {pos : String} {af : Array Edge} {gd : Option (Nat × Bool)} {K : List Oper → List Stp → St → Prop}
theorem r_or {t1 t2 : TypeId} {x y : Operand} {k : IntKind} {a b : Int} (hx : opT ts x = .d (.v (.int k a))) (hy : opT ts y = .d (.v (.int k b))) (hw : wantT ops ts ⟨some d, .binOp .or t1 x y t2, ty, pos, af, gd⟩ = some true) (hd : Nat.blt d N = true)
  (kk : EvK P N ops l ⟨(d, .d (.v (.int k (ior k a b)))) :: ts, L⟩ (tr ++ [.run [] []]) K) : EvK P N ops (⟨some d, .binOp .or t1 x y t2, ty, pos, af, gd⟩ :: l) ⟨ts, L⟩ tr K :=
 ev_val (ins := [(x, .d (.v (.int k a))), (y, .d (.v (.int k b)))]) rfl (o_bin (p := .int k a) (q := .int k b) (z := .int k (ior k a b)) rfl rfl (fun w => by simp [go_sem, Op.intBits, ior])) hw (by simp [Op.operands, hx, hy]) (by simp) hd kk
theorem r_andN {t1 t2 : TypeId} {x y : Operand} {k : IntKind} {a b : Int} (hx : opT ts x = .d (.v (.int k a))) (hy : opT ts y = .d (.v (.int k b))) (hw : wantT ops ts ⟨some d, .binOp .andNot t1 x y t2, ty, pos, af, gd⟩ = some true) (hd : Nat.blt d N = true)
  (kk : EvK P N ops l ⟨(d, .d (.v (.int k (iandN k a b)))) :: ts, L⟩ (tr ++ [.run [] []]) K) : EvK P N ops (⟨some d, .binOp .andNot t1 x y t2, ty, pos, af, gd⟩ :: l) ⟨ts, L⟩ tr K :=
 ev_val (ins := [(x, .d (.v (.int k a))), (y, .d (.v (.int k b)))]) rfl (o_bin (p := .int k a) (q := .int k b) (z := .int k (iandN k a b)) rfl rfl (fun w => by simp [go_sem, Op.intBits, iandN])) hw (by simp [Op.operands, hx, hy]) (by simp) hd kk
theorem r_shl {t1 t2 : TypeId} {x y : Operand} {k k2 : IntKind} {a b : Int} (hx : opT ts x = .d (.v (.int k a))) (hy : opT ts y = .d (.v (.int k2 b))) (hb : ¬ b < 0) (hw : wantT ops ts ⟨some d, .binOp .shl t1 x y t2, ty, pos, af, gd⟩ = some true) (hd : Nat.blt d N = true)
  (kk : EvK P N ops l ⟨(d, .d (.v (.int k (ishl k a b)))) :: ts, L⟩ (tr ++ [.run [] []]) K) : EvK P N ops (⟨some d, .binOp .shl t1 x y t2, ty, pos, af, gd⟩ :: l) ⟨ts, L⟩ tr K :=
 ev_val (ins := [(x, .d (.v (.int k a))), (y, .d (.v (.int k2 b)))]) rfl (o_bin (p := .int k a) (q := .int k2 b) (z := .int k (ishl k a b)) rfl rfl (fun w => by simp [go_sem, Op.shift, hb, ishl])) hw (by simp [Op.operands, hx, hy]) (by simp) hd kk
end
section
variable {P : Program} {b : Frame} {a : Act} {k : List Item} {cs : List Frame} {w : World} {F : Fence} {n : Nat} {Q : Exit → Act → World → Prop}
theorem stepR_scopeX {c : Code} : step P (lone (b.atR a (.code (.scope c) :: k)) cs w) = .next (lone (b.atR a (.code c :: .inScope c :: k)) cs w) := step_lone_go (by simp [stepG, stepG.exec, Frame.atR])
theorem stepR_inScopeX {c : Code} : step P (lone (b.atR a (.inScope c :: k)) cs w) = .next (lone (b.atR a k) cs w) := step_lone_go (by simp [stepG, stepG.exec, Frame.atR])
def noGotoX (Q : Exit → Act → World → Prop) : Exit → Act → World → Prop
 | .goto _, _, _ => False
 | e, a, w => Q e a w
theorem wpIn_scopeX {c : Code} (h : c.wpIn F n P (noGotoX Q) a w) : (Code.scope c).wpIn F n P Q a w := by
 intro b k cs hro hb hr
 have h0 : (lone (b.atR a (.code (.scope c) :: k)) cs w).fenced P F := fenced_calm hb hr rfl
 obtain ⟨e, a₁, w₁, hq, harr⟩ := h b (.inScope c :: k) cs hro hb hr
 cases e with
 | normal => exact ⟨.normal, a₁, w₁, hq, .head h0 stepR_scopeX (StepsIn.trans harr (.one (fenced_calm hb hr rfl) stepR_inScopeX))⟩
 | exit id' =>
  have hx : exitTo id' (.inScope c :: k) = exitTo id' k := by simp [exitTo]
  exact ⟨.exit id', a₁, w₁, hq, fun k' hk => .head h0 stepR_scopeX (harr.1 k' (by rw [hx]; exact hk)), fun hr' hk => let ⟨k₁, h1, h2⟩ := harr.2 hr' (by rw [hx]; exact hk); ⟨k₁, h1, .head h0 stepR_scopeX h2⟩⟩
 | goto l => exact hq.elim
 | ret => exact ⟨_, a₁, w₁, hq, .of_steps (.one h0 stepR_scopeX) harr⟩
 | panic ch => exact ⟨_, a₁, w₁, hq, .of_steps (.one h0 stepR_scopeX) harr⟩
 | outgrown => exact ⟨_, a₁, w₁, hq, .of_steps (.one h0 stepR_scopeX) harr⟩
end
theorem sw_scope {P : Program} {n0 N : Nat} {df : List Deferred} {Q : SX → St → Prop} {st : St} {c : Code} (h : SW P n0 N df c Q st) : SW P n0 N df (.scope c) Q st := fun F nn hF g a hR =>
 wpIn_scopeX (wpIn_mono (h F nn hF g a hR) fun ex a' w' ⟨g', sx, st', h1, h2, h3, h4, h5⟩ => by
  cases ex <;> first | exact ⟨g', sx, st', h1, h2, h3, h4, h5⟩ | (cases sx <;> exact h4.elim))
theorem pc_of_any {P : Program} {f : FuncId} {z : Value} (hz : z.oneCell' = true) (h : ∀ w, Calls P f #[] w fun e w' => e = .returned z ∧ Go.RowKit.Below w.heap.size w w') : PC P f [] (.v z) := by
 intro g vs hg hM hv
 have hvs : vs = [] := List.eq_nil_of_length_eq_zero (by have := hv.1; simpa using this.symm)
 subst hvs
 refine (h g.w).mono fun e w' he => ?_
 obtain ⟨rfl, hb⟩ := he
 have hno : ∀ n r, g.M n ≠ some (some r) := fun n r hn => by rw [hM] at hn; simp [ofL] at hn
 refine ⟨⟨g.M, g.β, g.K, w'⟩, .ret (.d (.v z)), [], rfl, ⟨fun n r hn => absurd hn (hno n r), fun n m r q hn => absurd hn (hno n r), fun b hk => Nat.lt_of_lt_of_le (hg.kd b hk) hb.size, fun b _ n r hn => absurd hn (hno n r)⟩, ⟨fun n hn => ⟨hn, rfl⟩, hb.size, hb.os, hb.tape, hb.output, fun b hlt _ => hb.block b hlt, fun _ hk => hk, fun _ _ hk => .inl hk, fun n r hn => absurd hn (hno n r)⟩, hM, ?_, rfl, rfl⟩
 exact .d (.v z hz)
end Go.Proofs.Ytjnnkcnnandeeaa.Sh
