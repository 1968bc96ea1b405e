/- Functions that defer a closure that recovers. Over whatever program. -/
import Derived.Test.YtdefnmcjmklohaaSa11
import Derived.RecoverIn
namespace Go.Proofs.Ytdefnmcjmklohaa.Sh
set_option linter.unusedVariables false
set_option linter.unusedSimpArgs false
open Go
/-- A deferred closure over one box: it does nothing, or puts what has panicked into the box. -/
structure DfC (P : Program) (fd : FuncId) (tyE : TypeId) : Prop where
 idle : ∀ (b : Nat) (w : World), CallsDIn Fence.wide 0 P fd #[.pointer (some ⟨b, 0, none⟩)] .returning w fun e u' w' => e = .returned (.tuple #[]) ∧ u' = .returning ∧ w' = w
 caught : ∀ (b : Nat) (E : Int) (older : List PanicEntry) (w : World) (v : Value) (cells : Array Value) (e : TypeId), w.heap[b]? = some (.cells cells e (0, 0)) → cells[0]? = some v →
  CallsDIn Fence.wide 0 P fd #[.pointer (some ⟨b, 0, none⟩)] (.panicking ({ v := .iface tyE (.int .i64 E), recovered := false } :: older)) w fun e u' w' => e = .returned (.tuple #[]) ∧ u' = .panicking ({ v := .iface tyE (.int .i64 E), recovered := true } :: older) ∧ w' = w.setCell ⟨b, 0, none⟩ (.int .i64 E)
theorem box_set {g : G} (hg : Good g) {k : Nat} {x : T} (hk : g.M k = some (some ⟨1, [x]⟩)) (E : Int) (n0 : Nat) :
  ∃ cells e v, g.w.heap[(g.β k).1]? = some (.cells cells e (0, 0)) ∧ cells[0]? = some v ∧ ∃ g', g'.w = g.w.setCell ⟨(g.β k).1, 0, none⟩ (.int .i64 E) ∧ Good g' ∧ Le g g' ∧ g'.M = fun n => if n = k then some (some ⟨1, [.d (.v (.int .i64 E))]⟩) else g.M n := by
 obtain ⟨hcap, cells, e, h1, h2, h3, h4⟩ := (hg.rows k _ hk).has (by simp) (i := 0) (x := x) rfl
 simp only [Nat.mul_one, List.length_singleton] at h2 h3
 have hsz : 0 < cells.size := by omega
 obtain ⟨q1, q2⟩ := Good.put hg hk hcap h1 (cells := cells.setIfInBounds 0 (.int .i64 E)) (r' := ⟨1, [.d (.v (.int .i64 E))]⟩) (by simp) (by simpa using h2) (by simpa using h3) (fun i x' hx' => by
  cases i with
  | succ i => simp at hx'
  | zero =>
   simp at hx'
   subst hx'
   refine ⟨rfl, fun j y hy => ?_⟩
   cases j with
   | succ j => simp [T.cells, D.cells] at hy
   | zero =>
    simp [T.cells, D.cells] at hy
    subst hy
    exact ⟨.int .i64 E, by simp [hsz], .d (.v _ rfl)⟩)
 refine ⟨cells, e, cells[0], h1, Array.getElem?_eq_getElem hsz, _, ?_, q1, q2, ?_⟩
 ·show g.w.setRow (g.β k).1 (cells.setIfInBounds 0 (.int .i64 E)) = _
  have h5 : ∀ (hi : (g.β k).1 < g.w.heap.size), g.w.heap[(g.β k).1] = .cells cells e (0, 0) := fun hi => by rw [Array.getElem?_eq_getElem hi] at h1; injection h1
  unfold World.setRow World.setCell
  congr 1
  apply Array.ext
  ·simp
  ·intro i hi1 hi2
   simp only [Array.getElem_modify]
   by_cases hi : (g.β k).1 = i
   ·subst hi
    simp only [if_true]
    simp [h5 (by simpa using hi1)]
   ·simp only [hi, if_false]
 ·funext n
  simp [G.put]
/-- How the code behind the defer may end. -/
def QD (P : Program) (fn : Func) (n0 : Nat) (R : SE → List (Option Rw) → Prop) (tyE : TypeId) (k : Nat) : SX → St → Prop
 | .ret, st | .norm, st => Fin P fn n0 R .ret st
 | .pan t, st => ∃ E x, t = .d (.v (.iface tyE (.int .i64 E))) ∧ st.L[k]? = some (some ⟨1, [x]⟩) ∧ Fin P fn n0 R .ret ⟨st.ts, st.L.set k (some ⟨1, [.d (.v (.int .i64 E))]⟩)⟩
 | _, _ => False
theorem qd_ret {P : Program} {fn : Func} {n0 : Nat} {R : SE → List (Option Rw) → Prop} {tyE : TypeId} {k : Nat} {st : St} (h : Fin P fn n0 R .ret st) : QD P fn n0 R tyE k .ret st := h
def endQ (fn : Func) (P : Program) (g0 : G) (R : SE → List (Option Rw) → Prop) : Exit → Act → World → Prop := bodyPostDIn Fence.wide 0 P fn fun e w' => ∃ g' se L', g'.w = w' ∧ Good g' ∧ Le g0 g' ∧ g'.M = ofL L' ∧ SER g' se e ∧ R se L'
def SWD (P : Program) (fn : Func) (n0 : Nat) (R : SE → List (Option Rw) → Prop) (N : Nat) (c : Code) (st : St) : Prop :=
 ∀ (g0 g : G) (a : Act), (∀ n, g0.M n ≠ none → n < n0) → LeN n0 g0 g → StR g N st a [] → c.wpIn Fence.wide 0 P (endQ fn P g0 R) a g.w
theorem LeN.full {n0 : Nat} {g g' : G} (h : LeN n0 g g') (hM : ∀ n, g.M n ≠ none → n < n0) : Le g g' := ⟨fun n hn => h.e n (hM n hn) hn, h.size, h.os, h.tape, h.output, h.fr, h.k, h.k', h.nl⟩
section
variable {P : Program} {fn : Func} {n0 N : Nat} {R : SE → List (Option Rw) → Prop} {st : St}
theorem swd_seq {x y : Code} (h : SW P n0 N [] x (fun sx st' => sx = .norm ∧ SWD P fn n0 R N y st') st) : SWD P fn n0 R N (.seq x y) st := fun g0 g a hM hl hR => by
 refine wpIn_seq (wpIn_mono (h Fence.wide 0 Wd.wide g a hR) ?_)
 rintro ex a' w' ⟨g', sx, st', rfl, h2, h3, h4, rfl, h5⟩
 cases ex <;> first | exact h4.elim | skip
 exact h5 g0 g' a' hM (hl.trans h2) h3
/-- The results, once nothing is left to be done. -/
theorem fin_res {g0 g : G} {a : Act} {df : List Deferred} (hM : ∀ n, g0.M n ≠ none → n < n0) (hl : LeN n0 g0 g) (hR : StR g N st a df) (h : Fin P fn n0 R .ret st) :
  ∃ v, (results fn a.tmps).run P g.w = .ok v g.w ∧ ∃ g' se L', g'.w = g.w ∧ Good g' ∧ Le g0 g' ∧ g'.M = ofL L' ∧ SER g' se (.returned v) ∧ R se L' := by
 obtain ⟨ts, κ, t, L', e1, e2, e4⟩ := h
 obtain ⟨cs, f4, f5⟩ := res_run hR e1
 obtain ⟨g'', f1, f2, f3⟩ := e2.see (st_one hR.good hR.M (tupT_val f5))
 have f6 : results fn a.tmps = (do let vs ← fn.results.mapM (resF a.tmps); pure (if h : vs.size = 1 then vs[0] else .tuple vs)) := rfl
 refine ⟨if h : cs.toArray.size = 1 then cs.toArray[0] else .tuple cs.toArray, ?_, g'', .ret t, L', f1, f3.good, (hl.trans f2).full hM, f3.M, f3.ts 0, e4⟩
 rw [f6, Array.mapM_eq_mapM_toList, Sem.run_bind, Sem.run_map, f4]
 rfl
def dfK (P : Program) (fn : Func) (n0 : Nat) (R : SE → List (Option Rw) → Prop) (N : Nat) (tyE : TypeId) (fd : FuncId) (rest : Code) (ops : Array Oper) : List Oper → List Stp → St → Prop := fun l2 _ st' =>
 ∃ d k ty pos af, l2 = [⟨none, .defer { callee := .value (.tmp d), args := #[], argTypes := #[] }, ty, pos, af, none⟩] ∧ getS st'.ts d = .fn (.func fd) [] [.ref k 1 0 0] ∧ (k < st'.L.length) ∧ ∀ df, SW P st'.L.length N df rest (QD P fn n0 R tyE k) st'
theorem swd_defer {tyE : TypeId} {fd : FuncId} {id : Nat} {l : List Oper} {rest : Code} (hd : DfC P fd tyE) (he : Ent P fd) (h : EvK P N l.toArray l st [] (dfK P fn n0 R N tyE fd rest l.toArray)) : SWD P fn n0 R N (.seq (.region id l.toArray false) rest) st := fun g0 g a hM hl hR => by
 obtain ⟨l1, l2, tr, st', rfl, h1, d, k, ty, pos, af, rfl, h2, hk, h3⟩ := h
 refine wpIn_seq (wpIn_region_lit ?_)
 generalize hops : (l1 ++ [(⟨none, .defer { callee := .value (.tmp d), args := #[], argTypes := #[] }, ty, pos, af, none⟩ : Oper)]).toArray = ops at h1
 have key : ∀ (l : List Oper) (st : St) (tr : List Stp) (st2 : St), Ev P N ops l st tr st2 → getS st2.ts d = .fn (.func fd) [] [.ref k 1 0 0] → k < st2.L.length → (∀ df, SW P st2.L.length N df rest (QD P fn n0 R tyE k) st2) → ∀ (g1 : G) (a : Act), Le g g1 → StR g1 N st a [] →
   wpListIn Fence.wide 0 P ops (Exit.then (rest.wpIn Fence.wide 0 P (endQ fn P g0 R)) (endQ fn P g0 R)) (l ++ [⟨none, .defer { callee := .value (.tmp d), args := #[], argTypes := #[] }, ty, pos, af, none⟩]) a g1.w := by
  intro l st tr st2 h
  induction h with
  | nil st =>
   intro e1 hk h3 g1 a hl1 hR1
   rw [List.nil_append]
   unfold wpListIn
   rw [yielded_of (show wantT ops st.ts ⟨none, .defer { callee := .value (.tmp d), args := #[], argTypes := #[] }, ty, pos, af, none⟩ = some true from rfl) fun d _ => hR1.ts d]
   simp only [if_true]
   refine ⟨fun f _ => trivial, ?_⟩
   have hv := hR1.ts d
   rw [e1] at hv
   obtain ⟨cs, ds, hc, hfi, hca⟩ := calT_val hv (.inr rfl)
   have hcs : cs = #[] := by have := hfi.1; simp at this; exact Array.size_eq_zero_iff.1 this.symm
   subst hcs
   have hds : ds = #[.pointer (some ⟨(g1.β k).1, 0, none⟩)] := by
    have h1 := hca.1
    obtain ⟨c, hc'⟩ : ∃ c, ds.toList = [c] := List.length_eq_one_iff.1 (by simpa using h1.symm)
    have h2 := hca.2 0 _ c rfl (by rw [hc']; rfl)
    have : ds = #[c] := by apply Array.ext'; simpa using hc'
    rw [this]
    generalize hcv : c = cv at h2
    cases h2
    simp
   have hev : a.eval (.tmp d) = .func (.func fd) #[] ds := hc
   have hrun : (Oper.semAt Fence.wide.round a.eval ⟨none, .defer { callee := .value (.tmp d), args := #[], argTypes := #[] }, ty, pos, af, none⟩).run P g1.w = .ok (.defer { target := .fn (.func fd) ds, args := #[] }) g1.w := by
    have e0 : Fence.wide.round = none := rfl
    rw [e0, Oper.semAt_none]
    simp [execOp, resolve, hev, Deferred.ofValue]
   rw [hrun, Oper.uponIn_defer]
   unfold wpListIn
   show rest.wpIn Fence.wide 0 P (endQ fn P g0 R) _ g1.w
   have hR2 : StR g1 N st ({ a with defers := { target := .fn (.func fd) ds, args := #[] } :: a.defers }.put none undef) [{ target := .fn (.func fd) ds, args := #[] }] := ⟨hR1.good, hR1.M, hR1.size, hR1.ts, by show _ :: a.defers = _; rw [hR1.df]⟩
   refine wpIn_mono (h3 _ Fence.wide 0 Wd.wide g1 _ hR2) ?_
   rintro ex a' w' ⟨g', sx, st', rfl, q2, q3, q4, q5⟩
   have hβ : g'.β k = g1.β k := (q2.e k hk (by rw [hR1.M]; simp [ofL, hk])).2
   have hlg : LeN n0 g0 g' := (hl.trans ((hl1.trans (q2.toLe hR1.M (Nat.le_refl _))).toN n0))
   have ok : Fin P fn n0 R .ret st' → LeavesIn Fence.wide 0 P fn a'.tmps (fun e w' => ∃ g' se L', g'.w = w' ∧ Good g' ∧ Le g0 g' ∧ g'.M = ofL L' ∧ SER g' se e ∧ R se L') a'.defers .returning g'.w := fun hf => by
    rw [q3.df]
    refine leavesIn_cons (f := fd) (args := ds) (by intro h; cases h) (by intro h; cases h) (by simp [invoke, go_sem, he _ _]) (fun _ _ => trivial) ?_
    rw [hds]
    refine (hd.idle (g1.β k).1 g'.w).mono ?_
    rintro e u' w'' ⟨rfl, rfl, rfl⟩
    exact fin_res hM hlg q3 hf
   cases sx with
   | norm => cases ex <;> first | exact q4.elim | exact ok q5
   | ret => cases ex <;> first | exact q4.elim | exact ok q5
   | exit i => exact q5.elim
   | pan t =>
    cases ex <;> first | exact q4.elim | skip
    obtain ⟨v, rfl, hv'⟩ := q4
    obtain ⟨E, x, rfl, hx, hf⟩ := q5
    have := hv'.v_eq
    subst this
    obtain ⟨cells, e, v0, b1, b2, g2, b3, b4, b5, b6⟩ := box_set q3.good (k := k) (x := x) (by rw [q3.M]; exact hx) E n0
    show LeavesIn Fence.wide 0 P fn a'.tmps _ a'.defers (.panicking _) g'.w
    rw [q3.df]
    refine leavesIn_cons (f := fd) (args := ds) (by intro h; cases h) (by intro h; cases h) (by simp [invoke, go_sem, he _ _]) (fun _ _ => trivial) ?_
    rw [hds, ← hβ]
    refine (hd.caught (g'.β k).1 E [] g'.w v0 cells e b1 b2).mono ?_
    rintro e u' w'' ⟨rfl, rfl, rfl⟩
    have hR3 : StR g2 N ⟨st'.ts, st'.L.set k (some ⟨1, [.d (.v (.int .i64 E))]⟩)⟩ a' [{ target := .fn (.func fd) ds, args := #[] }] := ⟨b4, by
      rw [b6, q3.M]
      funext n
      simp only [ofL]
      by_cases hn : n = k
      ·subst hn; rw [if_pos rfl, List.getElem?_set_self (List.getElem?_eq_some_iff.1 hx).1]
      ·rw [if_neg hn, List.getElem?_set_ne (fun e => hn e.symm)], q3.size, fun i => (q3.ts i).mono q3.good b5, q3.df⟩
    have := fin_res hM (hlg.trans (b5.toN n0)) hR3 hf
    rw [b3] at this
    exact this
  | cons hs _ ih =>
   intro e1 hk h3 g1 a hl1 hR1
   exact hs.soundL Wd.wide hR1 fun g' a' h4 h5 => ih e1 hk h3 g' a' (hl1.trans h4) h5
 exact key l1 st tr st' h1 h2 hk h3 g a (.refl g) hR
theorem SC.of_swd {f : FuncId} {c : Code} {args : List T} {L : List (Option Rw)} (hf : P.funcs[f]? = some fn) (hb : fn.body = some c) (hN : fn.ntmps = N) (hl : Nat.ble args.length N = true) (h : SWD P fn L.length R N c ⟨argS 0 args, L⟩) : SC P f args L R := fun g vs hg hM hv => by
 refine callsIn_wide.1 (callsIn_of_wp_defers (n := 0) hf hb trivial ?_ rfl)
 obtain ⟨s1, s2⟩ := arg_slots hv hl fn.ntmps hN
 exact h g g _ (fun n hn => by rw [hM] at hn; simpa only [ofL, ne_eq, List.getElem?_eq_none_iff, Nat.not_le] using hn) (.refl _ g) ⟨hg, hM, s1, s2, rfl⟩
end
end Go.Proofs.Ytdefnmcjmklohaa.Sh
