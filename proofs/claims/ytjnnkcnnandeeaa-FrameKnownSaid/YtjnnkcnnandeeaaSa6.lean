/- Rules of the walks. -/
import Derived.Test.YtjnnkcnnandeeaaSh13
import Derived.RangeFuncNested
import Derived.RangeFuncLeaves
import Derived.RangeFuncSeq
import Derived.RecoverIn
import Derived.Laws.Small
import Derived.ProofKit
import Derived.OpenShut
import Derived.ShutString
import Derived.ChangeOld
import Derived.Below
import Derived.Lib.SmallJoins
import Derived.Deep.Slices
import Derived.Laws.CopyRow
import Derived.Laws.IdiomCopy
import Derived.Laws.BytesString
import Derived.DeepKeys3
set_option linter.unusedVariables false
set_option linter.unusedSimpArgs false
namespace Go.Proofs.Ytjnnkcnnandeeaa.Sh
open Go
theorem VD.turn {g g' : G} (hk : ∀ b, g.K b → g'.K b ∧ g'.w.heap[b]? = g.w.heap[b]?) {d : D} {c : Value} (h : VD g d c) : VD g' d c := by
 have hc : ∀ b o v, g.K b → g.w.cell? ⟨b, o, none⟩ = some v → g'.w.cell? ⟨b, o, none⟩ = some v := fun b o v hb hv => by
  unfold World.cell? at hv ⊢
  rw [(hk b hb).2]
  exact hv
 induction h with
 | v x h => exact .v x h
 | agg l cs hl h ih => exact .agg l cs hl ih
 | tup l cs hl h ih => exact .tup l cs hl ih
 | arr0 s a cap => exact .arr0 s a cap
 | arr s l b off cap f hcap hK hs hw hv ih => exact .arr s l b off cap f hcap (hk b hK).1 hs (fun i d hd j e he => hc _ _ _ hK (hw i d hd j e he)) ih
 | el s l i o b off f hK hs hw hv ih => exact .el s l i o b off f (fun h => (hk b (hK h)).1) hs (fun i d hd j e he => hc _ _ _ (hK (by rintro rfl; simp at hd)) (hw i d hd j e he)) ih
 | mp ks vs b es clock hK hh hl hl2 h1 hv ih => exact .mp ks vs b es clock (hk b hK).1 ((hk b hK).2.trans hh) hl hl2 h1 ih
theorem VT.turn {g g' : G} (hk : ∀ b, g.K b → g'.K b ∧ g'.w.heap[b]? = g.w.heap[b]?) (he : ∀ n, g.M n ≠ none → g'.M n ≠ none ∧ g'.β n = g.β n) {t : T} {c : Value} (h : VT g t c) : VT g' t c := by
 induction h with
 | d h => exact .d (h.turn hk)
 | bot c => exact .bot c
 | ref n s i o hn hs => obtain ⟨h1, h2⟩ := he n hn; rw [← h2]; exact .ref n s i o h1 hs
 | row n s lo len a hn hs hl ha => obtain ⟨h1, h2⟩ := he n hn; rw [← h2] at hl ha ⊢; exact .row n s lo len a h1 hs hl ha
 | mp n hn => obtain ⟨h1, h2⟩ := he n hn; rw [← h2]; exact .mp n h1
 | agg l cs hl h ih => exact .agg l cs hl ih
 | tup l cs hl h ih => exact .tup l cs hl ih
 | fn f l m cs ds hl h hm k ih ik => exact .fn f l m cs ds hl ih hm ik
 | iface t x c h ih => exact .iface t x c ih
theorem VT.turnN {g g' : G} {k : Nat} (hk : ∀ b, g.K b → g'.K b ∧ g'.w.heap[b]? = g.w.heap[b]?) (he : ∀ n, n < k → g.M n ≠ none → g'.M n ≠ none ∧ g'.β n = g.β n) {t : T} {c : Value} (h : VT g t c) : t.sc k = true → VT g' t c := by
 induction h with
 | d h => intro _; exact .d (h.turn hk)
 | bot c => intro _; exact .bot c
 | ref n s i o hn hs => intro hc; obtain ⟨h1, h2⟩ := he n (by simpa [T.sc, Nat.blt_eq] using hc) hn; rw [← h2]; exact .ref n s i o h1 hs
 | row n s lo len a hn hs hl ha => intro hc; obtain ⟨h1, h2⟩ := he n (by simpa [T.sc, Nat.blt_eq] using hc) hn; rw [← h2] at hl ha ⊢; exact .row n s lo len a h1 hs hl ha
 | mp n hn => intro hc; obtain ⟨h1, h2⟩ := he n (by simpa [T.sc, Nat.blt_eq] using hc) hn; rw [← h2]; exact .mp n h1
 | agg l cs hl h ih =>
  intro hc
  simp only [T.sc, scL_all, List.all_eq_true] at hc
  exact .agg l cs hl fun i d c hd h' => ih i d c hd h' (hc d (List.mem_of_getElem? hd))
 | tup l cs hl h ih =>
  intro hc
  simp only [T.sc, scL_all, List.all_eq_true] at hc
  exact .tup l cs hl fun i d c hd h' => ih i d c hd h' (hc d (List.mem_of_getElem? hd))
 | fn f l m cs ds hl h hm k ih ik =>
  intro hc
  simp only [T.sc, scL_all, Bool.and_eq_true, List.all_eq_true] at hc
  exact .fn f l m cs ds hl (fun i d c hd h' => ih i d c hd h' (hc.1 d (List.mem_of_getElem? hd))) hm fun i d c hd h' => ik i d c hd h' (hc.2 d (List.mem_of_getElem? hd))
 | iface t x c h ih => intro hc; exact .iface t x c (ih (by simpa [T.sc] using hc))
theorem RowR.turn {g g' : G} (hk : ∀ b, g.K b → g'.K b ∧ g'.w.heap[b]? = g.w.heap[b]?) (he : ∀ n, g.M n ≠ none → g'.M n ≠ none ∧ g'.β n = g.β n) {n : Nat} {r : Rw} (h : RowR g n r) (hb : g'.β n = g.β n) (hh : (g.β n).2 ≠ 0 → g'.w.heap[(g.β n).1]? = g.w.heap[(g.β n).1]?) : RowR g' n r :=
 h.rel rfl hb hh rfl (fun x x' => x = x') (fun i x x' h1 h2 => by rw [h1] at h2; injection h2) (fun x x' h => by subst h; exact ⟨rfl, fun j y y' h1 h2 => by rw [h1] at h2; injection h2⟩) (fun k y x' h => ⟨y, h.symm, rfl⟩) (fun t t' c e hv => e ▸ hv.turn hk he)
theorem nl_of {g : G} (hg : Good g) {b : Nat} {o : Obj} (h : g.w.heap[b]? = some o) (h1 : ∀ c t x, o ≠ .cells c t x) (h2 : ∀ es c, o ≠ .map es c) : NL g b := fun n r hn h0 e => by
 rcases hg.rows n r hn with ⟨k, _⟩ | ⟨_, cells, t, k1, _⟩ | ⟨_, _, es, clock, k1, _⟩
 ·exact h0 k
 ·rw [e, h] at k1; injection k1 with k1; exact h1 _ _ _ k1
 ·rw [e, h] at k1; injection k1 with k1; exact h2 _ _ k1
theorem nl_loop {g : G} (hg : Good g) {b : Nat} {r : Loop} (h : g.w.heap[b]? = some (.loop r)) : NL g b := nl_of hg h (fun c t x e => by cases e) (fun es c e => by cases e)
theorem nl_def {g : G} (hg : Good g) {b : Nat} {r : Option (List Deferred)} (h : g.w.heap[b]? = some (.deferred r)) : NL g b := nl_of hg h (fun c t x e => by cases e) (fun es c e => by cases e)
structure LeL (l n0 : Nat) (g g' : G) : Prop where
 e : ∀ n, n < n0 → g.M n ≠ none → g'.M n ≠ none ∧ g'.β n = g.β n
 size : g.w.heap.size ≤ g'.w.heap.size
 os : g'.w.os = g.w.os
 tape : g'.w.tape = g.w.tape
 output : g'.w.output = g.w.output
 fr : ∀ b, b < g.w.heap.size → NL g b → b ≠ l → g'.w.heap[b]? = g.w.heap[b]?
 k : ∀ b, g.K b → g'.K b
 k' : ∀ b, b < g.w.heap.size → g'.K b → g.K b ∨ ¬ NL g b
 nl : ∀ n r, g'.M n = some (some r) → (g'.β n).2 ≠ 0 → (g'.β n).1 < g.w.heap.size → ¬ NL g (g'.β n).1
theorem LeN.toL {n0 : Nat} {g g' : G} (h : LeN n0 g g') (l : Nat) : LeL l n0 g g' := ⟨h.e, h.size, h.os, h.tape, h.output, fun b hb hn _ => h.fr b hb hn, h.k, h.k', h.nl⟩
theorem LeL.less {l n0 n1 : Nat} {g g' : G} (h : LeL l n0 g g') (hn : n1 ≤ n0) : LeL l n1 g g' := ⟨fun n hlt => h.e n (by omega), h.size, h.os, h.tape, h.output, h.fr, h.k, h.k', h.nl⟩
theorem LeL.refl (l n0 : Nat) (g : G) : LeL l n0 g g := (LeN.refl n0 g).toL l
theorem LeL.keepNL {l n0 : Nat} {g g' : G} (h : LeL l n0 g g') {b : Nat} (hb : b < g.w.heap.size) (hn : NL g b) : NL g' b := fun n r hr h0 he => h.nl n r hr h0 (by rw [he]; exact hb) (he ▸ hn)
theorem LeL.trans {l n0 : Nat} {a b c : G} (h : LeL l n0 a b) (k : LeL l n0 b c) : LeL l n0 a c where
 e n hlt hn := by
  obtain ⟨h1, h2⟩ := h.e n hlt hn
  obtain ⟨k1, k2⟩ := k.e n hlt h1
  exact ⟨k1, k2.trans h2⟩
 size := Nat.le_trans h.size k.size
 os := k.os.trans h.os
 tape := k.tape.trans h.tape
 output := k.output.trans h.output
 fr x hx hn hl := (k.fr x (Nat.lt_of_lt_of_le hx h.size) (h.keepNL hx hn) hl).trans (h.fr x hx hn hl)
 k x hx := k.k x (h.k x hx)
 k' x hx hk := by
  rcases k.k' x (Nat.lt_of_lt_of_le hx h.size) hk with h1 | h1
  ·exact h.k' x hx h1
  ·exact .inr fun hn => h1 (h.keepNL hx hn)
 nl n r hr h0 hlt := by
  intro hn
  exact k.nl n r hr h0 (Nat.lt_of_lt_of_le hlt h.size) (h.keepNL hlt hn)
theorem LeL.toN {l n0 : Nat} {g g' : G} (h : LeL l n0 g g') (hl : g.w.heap.size ≤ l) : LeN n0 g g' := ⟨h.e, h.size, h.os, h.tape, h.output, fun b hb hn => h.fr b hb hn (by omega), h.k, h.k', h.nl⟩
theorem put_good {g : G} (hg : Good g) {l : Nat} (hl : NL g l) (hk : ¬ g.K l) (o : Obj) (n0 : Nat) :
  Good ⟨g.M, g.β, g.K, g.w.putObj l o⟩ ∧ LeL l n0 g ⟨g.M, g.β, g.K, g.w.putObj l o⟩ ∧ ∀ t c, VT g t c → VT ⟨g.M, g.β, g.K, g.w.putObj l o⟩ t c := by
 have hh : ∀ b, b ≠ l → (g.w.putObj l o).heap[b]? = g.w.heap[b]? := fun b hb => World.putObj_heap_other hb
 have h1 : ∀ b, g.K b → g.K b ∧ (g.w.putObj l o).heap[b]? = g.w.heap[b]? := fun b hb => ⟨hb, hh b fun e => hk (e ▸ hb)⟩
 have h2 : ∀ n, g.M n ≠ none → g.M n ≠ none ∧ g.β n = g.β n := fun n hn => ⟨hn, rfl⟩
 refine ⟨⟨fun n r hn => (hg.rows n r hn).turn (g' := ⟨g.M, g.β, g.K, g.w.putObj l o⟩) h1 h2 rfl (fun h0 => hh _ fun e => hl n r hn h0 e), hg.inj, fun b hb => ?_, hg.kl⟩,
  ⟨fun n _ hn => ⟨hn, rfl⟩, ?_, rfl, rfl, rfl, fun b _ _ hb => hh b hb, fun b hb => hb, fun b _ hb => .inl hb, fun n r hn h0 _ hk => hk n r hn h0 rfl⟩, fun t c h => h.turn (g' := ⟨g.M, g.β, g.K, g.w.putObj l o⟩) h1 h2⟩
 ·show b < (g.w.putObj l o).heap.size
  rw [World.putObj_size]; exact hg.kd b hb
 ·show _ ≤ (g.w.putObj l o).heap.size
  rw [World.putObj_size]; exact Nat.le_refl _
structure DfOk (db : Nat) (g : G) (df : List Deferred) : Prop where
 nd : df.Nodup
 sz : db ≤ g.w.heap.size
 all : ∀ d ∈ df, ∃ D, d = { target := .collected D, args := #[] } ∧ db ≤ D ∧ g.w.heap[D]? = some (.deferred (some [])) ∧ ¬ g.K D
theorem DfOk.nil {db : Nat} {g : G} (h : db ≤ g.w.heap.size) : DfOk db g [] := ⟨by simp, h, fun d hd => by cases hd⟩
theorem DfOk.stepN {db n0 : Nat} {g g' : G} {df : List Deferred} (h : DfOk db g df) (hg : Good g) (hl : LeN n0 g g') : DfOk db g' df := by
 refine ⟨h.nd, Nat.le_trans h.sz hl.size, fun d hd => ?_⟩
 obtain ⟨D, h1, h2, h3, h4⟩ := h.all d hd
 have hlt := (Array.getElem?_eq_some_iff.1 h3).1
 refine ⟨D, h1, h2, ?_, fun hk => ?_⟩
 ·rw [hl.fr D hlt (nl_def hg h3)]
  exact h3
 ·rcases hl.k' D hlt hk with k | k
  ·exact h4 k
  ·exact k (nl_def hg h3)
structure Shut (db : Nat) (K : Nat → Prop) (w w' : World) : Prop where
 size : w'.heap.size = w.heap.size
 os : w'.os = w.os
 tape : w'.tape = w.tape
 output : w'.output = w.output
 same : ∀ b, (b < db ∨ K b ∨ ∀ o, w.heap[b]? = some o → ∀ x, o ≠ .deferred x) → w'.heap[b]? = w.heap[b]?
theorem leave {P : Program} {fn : Func} {tmps : Array Value} {R : Ending → World → Prop} {u : FrameMode} (hu : u ≠ .run) {db : Nat} {K : Nat → Prop} (n : Nat) :
  ∀ (df : List Deferred) (w : World), df.Nodup → (∀ d ∈ df, ∃ D, d = { target := .collected D, args := #[] } ∧ db ≤ D ∧ w.heap[D]? = some (.deferred (some [])) ∧ ¬ K D) →
  (∀ w', Shut db K w w' → LeavesIn Fence.wide n P fn tmps R [] u w') → LeavesInM Fence.wide n P fn tmps R df u w
 | [], w, _, _, k => k w ⟨rfl, rfl, rfl, rfl, fun _ _ => rfl⟩
 | d :: df, w, hn, hd, k => by
  obtain ⟨D, rfl, h2, h3, h4⟩ := hd d (by simp)
  obtain ⟨hn1, hn2⟩ := List.nodup_cons.1 hn
  refine ⟨hu, .inl ⟨D, w.putObj D (.deferred none), rfl, run_takeDeferred h3, ?_⟩⟩
  refine leave hu (db := db) (K := K) n df _ hn2 (fun e he => ?_) fun w' hs => k w' ⟨by rw [hs.size, World.putObj_size], hs.os, hs.tape, hs.output, fun b hb => ?_⟩
  ·obtain ⟨E, rfl, e2, e3, e4⟩ := hd e (by simp [he])
   exact ⟨E, rfl, e2, by rw [World.putObj_heap_other (fun e => hn1 (by rw [← e]; exact he))]; exact e3, e4⟩
  ·have hbD : b ≠ D := by
    rintro rfl
    rcases hb with hb | hb | hb
    ·omega
    ·exact h4 hb
    ·exact hb _ h3 _ rfl
   rw [hs.same b, World.putObj_heap_other hbD]
   rw [World.putObj_heap_other hbD]; exact hb
theorem shut_good {db : Nat} {g : G} {w' : World} (hg : Good g) (h : Shut db g.K g.w w') : Good ⟨g.M, g.β, g.K, w'⟩ ∧ ∀ t c, VT g t c → VT ⟨g.M, g.β, g.K, w'⟩ t c := by
 have h1 : ∀ b, g.K b → g.K b ∧ w'.heap[b]? = g.w.heap[b]? := fun b hb => ⟨hb, h.same b (.inr (.inl hb))⟩
 have h2 : ∀ n, g.M n ≠ none → g.M n ≠ none ∧ g.β n = g.β n := fun n hn => ⟨hn, rfl⟩
 refine ⟨⟨fun n r hn => (hg.rows n r hn).turn (g' := ⟨g.M, g.β, g.K, w'⟩) h1 h2 rfl (fun h0 => h.same _ (.inr (.inr fun o ho x e => ?_))), hg.inj, fun b hb => by show b < w'.heap.size; rw [h.size]; exact hg.kd b hb, hg.kl⟩, fun t c ht => ht.turn (g' := ⟨g.M, g.β, g.K, w'⟩) h1 h2⟩
 subst e
 exact nl_def hg ho n r hn h0 rfl
theorem arg_slots {g : G} {vs : List Value} {args : List T} {N : Nat} (hv : VTs g args vs) (hl : Nat.ble args.length N = true) (n : Nat) (hn : n = N) :
  (vs.toArray ++ Array.replicate (n - vs.toArray.size) undef).size = N ∧ ∀ i, VT g (getS (argS 0 args) i) ((vs.toArray ++ Array.replicate (n - vs.toArray.size) undef).getD i undef) := by
 have hle := Nat.le_of_ble_eq_true hl
 have hlen := hv.1
 refine ⟨by simp; omega, fun i => ?_⟩
 rw [argS_get, if_pos (Nat.zero_le i), Nat.sub_zero]
 by_cases hi : i < args.length
 ·have h1 : args[i]? = some args[i] := List.getElem?_eq_getElem hi
  have h2 : vs[i]? = some (vs[i]'(by omega)) := List.getElem?_eq_getElem _
  rw [List.getD_eq_getElem?_getD, h1, Option.getD_some, Array.getD_eq_getD_getElem?, Array.getElem?_append_left (by simp; omega), List.getElem?_toArray, h2, Option.getD_some]
  exact hv.2 i _ _ h1 h2
 ·rw [List.getD_eq_getElem?_getD, List.getElem?_eq_none (by omega)]
  exact .bot _
theorem roundIn_wide {P : Program} {l : Nat} {f : FuncId} {tmps : Array Value} {assign body : Code} {w : World} {R : Ending → World → Prop} (r : Option Nat) (n : Nat) (h : RoundIn Fence.wide 0 P l f tmps assign body w R) : RoundIn { Fence.wide with round := r } n P l f tmps assign body w R :=
 ⟨trivial, fun c cs _ => h.2 c cs (fun _ h => by cases h)⟩
theorem Step1.soundL {P : Program} {N : Nat} {ops : Array Oper} {R : Exit → Act → World → Prop} {F : Fence} {nn : Nat} {o : Oper} {l : List Oper} {st st1 : St} {s : Stp} (hF : Wd F) (h : Step1 P N ops o st s st1) {g : G} {a : Act} {df : List Deferred} (hR : StR g N st a df)
  (k : ∀ g' a', Le g g' → StR g' N st1 a' df → wpListIn F nn P ops R l a' g'.w) : wpListIn F nn P ops R (o :: l) a g.w := by
 unfold wpListIn
 cases h with
 | run hw hop hi hr hwn hd =>
  rename_i ins rn wn new v
  rw [yielded_of hw fun d _ => hR.ts d]
  simp only [if_true]
  refine hop F nn hF g a hR.good (fun p hp => (hi p hp).1 ▸ tsR_op hR.ts p.1) (fun p hp => by rw [hR.M]; exact hr p hp) (fun k hk => by rw [hR.M]; exact List.getElem?_eq_none (by omega)) _ _ fun g' c h1 h2 h3 h4 => ?_
  refine k g' _ h2 ⟨h1, ?_, by rw [put_size]; exact hR.size, fun j => ?_, by rw [put_defers]; exact hR.df⟩
  ·rw [h3, hR.M, ofL_eff]
   intro p hp
   obtain ⟨q, hq, he⟩ := hwn p hp
   have := hr q hq
   rw [← he]
   exact (List.getElem?_eq_some_iff.1 this).1
  ·rw [put_getD hR.size hd]
   simp only [St.eff, putS_get]
   split
   ·exact h4
   ·exact (hR.ts j).mono hR.good h2
 | skip hw hd =>
  rw [yielded_of hw fun d _ => hR.ts d]
  simp only [Bool.false_eq_true, if_false]
  refine ⟨fun f _ => hF.fn f, k g _ (.refl g) ⟨hR.good, ?_, by rw [put_size]; exact hR.size, fun j => ?_, by rw [put_defers]; exact hR.df⟩⟩
  ·rw [hR.M]; simp [St.eff, setL]
  ·rw [put_getD hR.size hd]
   simp only [St.eff, putS_get]
   split
   ·exact .d (.tup [] #[] rfl fun i d c h => by simp at h)
   ·exact hR.ts j
end Go.Proofs.Ytjnnkcnnandeeaa.Sh
namespace Go.Proofs.Ytjnnkcnnandeeaa.Sh
open Go
structure JX where
 l : Nat
 ps : Array Tmp
 asg : Code
 body : Code
 N : Nat
 ts : List (Nat × T)
 n1 : Nat
structure JR where
 fn : FuncId
 tmps : Array Value
 D : Nat
def JX.lp (X : JX) (r : JR) (st : LoopState) (pe : Option Code) : Loop := { state := st, pending := pe, fn := r.fn, tmps := r.tmps, params := X.ps, assign := X.asg, body := X.body, defers := r.D }
def pendS : SX → LoopState
 | .norm => .ready
 | .pan _ => .busy
 | _ => .done
def pendC : SX → Option Code
 | .ret => some .ret
 | .exit i => some (.exit i)
 | _ => none
structure JOk (X : JX) (r : JR) (ph : SX) (g : G) : Prop where
 lrec : g.w.heap[X.l]? = some (.loop (X.lp r (pendS ph) (pendC ph)))
 mark : g.w.heap[r.D]? = some (.deferred (some []))
 kl : ¬ g.K X.l
 kD : ¬ g.K r.D
 sz : r.tmps.size = X.N
 ts : ∀ i, VT g (getS X.ts i) (r.tmps.getD i undef)
 sc : ∀ i, (getS X.ts i).sc X.n1 = true
theorem old_at {g g' : G} {n0 b : Nat} (h : LeN n0 g g') (hb : b < g.w.heap.size) (hn : NL g b) (hk : ¬ g.K b) : g'.w.heap[b]? = g.w.heap[b]? ∧ ¬ g'.K b :=
 ⟨h.fr b hb hn, fun hk' => by rcases h.k' b hb hk' with h1 | h1; exact hk h1; exact h1 hn⟩
theorem VT.monoN {g g' : G} (hg : Good g) {n0 : Nat} (h : LeN n0 g g') {t : T} {c : Value} (hv : VT g t c) (hs : t.sc n0 = true) : VT g' t c :=
 hv.turnN (fun b hb => ⟨h.k b hb, h.fr b (hg.kd b hb) (hg.kl b hb)⟩) h.e hs
theorem JOk.step {X : JX} {r : JR} {ph : SX} {g g' : G} (h : JOk X r ph g) (hg : Good g) (hl : LeN X.n1 g g') : JOk X r ph g' := by
 obtain ⟨h1, h2⟩ := old_at hl (Array.getElem?_eq_some_iff.1 h.lrec).1 (nl_loop hg h.lrec) h.kl
 obtain ⟨h3, h4⟩ := old_at hl (Array.getElem?_eq_some_iff.1 h.mark).1 (nl_def hg h.mark) h.kD
 exact ⟨h1.trans h.lrec, h3.trans h.mark, h2, h4, h.sz, fun i => (h.ts i).monoN hg hl (h.sc i), h.sc⟩
def PostJ (X : JX) (r : JR) (g : G) (N : Nat) (Q : SX → SX → St → Prop) : Exit → Act → World → Prop := fun ex a' w' =>
 ∃ g' ph sx st, g'.w = w' ∧ LeL X.l X.n1 g g' ∧ StR g' N st a' [] ∧ JOk X r ph g' ∧ XR g' sx ex ∧ Q ph sx st
theorem PostJ.trans {X : JX} {r : JR} {g g1 : G} {N : Nat} {Q : SX → SX → St → Prop} (hl : LeL X.l X.n1 g g1) {ex : Exit} {a : Act} {w : World} (h : PostJ X r g1 N Q ex a w) : PostJ X r g N Q ex a w := by
 obtain ⟨g', ph, sx, st, h1, h2, h3⟩ := h
 exact ⟨g', ph, sx, st, h1, hl.trans h2, h3⟩
def SWJ (P : Program) (X : JX) (N : Nat) (c : Code) (Q : SX → SX → St → Prop) (ph : SX) (st : St) : Prop :=
 ∀ (F : Fence) (nn : Nat), Wd F → ∀ (r : JR) (g : G) (a : Act), JOk X r ph g → StR g N st a [] → c.wpIn F nn P (PostJ X r g N Q) a g.w
section
variable {P : Program} {X : JX} {N : Nat} {Q : SX → SX → St → Prop} {ph : SX} {st : St}
theorem swj_of {c : Code} (h : SW P X.n1 N [] c (Q ph) st) : SWJ P X N c Q ph st := fun F nn hF r g a hj hR =>
 wpIn_mono (h F nn hF g a hR) fun ex a' w' ⟨g', sx, st', h1, h2, h3, h4, h5⟩ => ⟨g', ph, sx, st', h1, h2.toL _, h3, hj.step hR.good h2, h4, h5⟩
def thenJ (K : SX → St → Prop) (Q : SX → SX → St → Prop) : SX → SX → St → Prop := fun ph => thenQ (K ph) (Q ph)
def blockJ (id : Nat) (Q : SX → SX → St → Prop) : SX → SX → St → Prop := fun ph => blockQ id (Q ph)
theorem thenj_norm {K : SX → St → Prop} (h : K ph st) : thenJ K Q ph .norm st := h
theorem thenj_ret {K : SX → St → Prop} (h : Q ph .ret st) : thenJ K Q ph .ret st := h
theorem thenj_exit {K : SX → St → Prop} {i : Nat} (h : Q ph (.exit i) st) : thenJ K Q ph (.exit i) st := h
theorem blockj_norm {i : Nat} (h : Q ph .norm st) : blockJ i Q ph .norm st := h
theorem blockj_ret {i : Nat} (h : Q ph .ret st) : blockJ i Q ph .ret st := h
theorem blockj_exit {i : Nat} (h : Q ph .norm st) : blockJ i Q ph (.exit i) st := block_exit (Q := Q ph) h
theorem swj_skip (h : Q ph .norm st) : SWJ P X N .skip Q ph st := swj_of (sw_skip h)
theorem swj_exit {i : Nat} (h : Q ph (.exit i) st) : SWJ P X N (.exit i) Q ph st := swj_of (sw_exit h)
theorem swj_ret (h : Q ph .ret st) : SWJ P X N .ret Q ph st := swj_of (sw_ret h)
theorem swj_seq {x y : Code} (h : SWJ P X N x (thenJ (SWJ P X N y Q) Q) ph st) : SWJ P X N (.seq x y) Q ph st := fun F nn hF r g a hj hR => by
 refine wpIn_seq (wpIn_mono (h F nn hF r g a hj hR) ?_)
 rintro ex a' w' ⟨g', ph', sx, st', rfl, h2, k2, k1, k4, k5⟩
 cases sx with
 | norm =>
  cases ex <;> first | exact k4.elim | skip
  exact wpIn_mono (k5 F nn hF r g' a' k1 k2) fun _ _ _ hq => hq.trans h2
 | ret => cases ex <;> first | exact k4.elim | exact ⟨g', ph', _, st', rfl, h2, k2, k1, k4, k5⟩
 | exit i => cases ex <;> first | exact k4.elim | exact ⟨g', ph', _, st', rfl, h2, k2, k1, k4, k5⟩
 | pan t => cases ex <;> first | exact k4.elim | exact ⟨g', ph', _, st', rfl, h2, k2, k1, k4, k5⟩
theorem swj_block {id : Nat} {c : Code} (h : SWJ P X N c (blockJ id Q) ph st) : SWJ P X N (.block id c) Q ph st := fun F nn hF r g a hj hR => by
 refine wpIn_block (wpIn_mono (h F nn hF r g a hj hR) ?_)
 rintro ex a' w' ⟨g', ph', sx, st', rfl, h2, k2, k1, k4, k5⟩
 cases sx with
 | norm => cases ex <;> first | exact k4.elim | exact ⟨g', ph', .norm, st', rfl, h2, k2, k1, trivial, k5⟩
 | ret => cases ex <;> first | exact k4.elim | exact ⟨g', ph', .ret, st', rfl, h2, k2, k1, trivial, k5⟩
 | exit i =>
  cases ex <;> first | exact k4.elim | skip
  rename_i j
  have h4' : i = j := k4
  subst h4'
  simp only [blockJ, blockQ] at k5
  by_cases hi : i = id
  ·rw [if_pos hi] at k5
   simp only [Exit.inBlock, hi, if_true]
   exact ⟨g', ph', .norm, st', rfl, h2, k2, k1, trivial, k5⟩
  ·rw [if_neg hi] at k5
   simp only [Exit.inBlock, hi, if_false]
   exact ⟨g', ph', .exit i, st', rfl, h2, k2, k1, rfl, k5⟩
 | pan t => cases ex <;> first | exact k4.elim | exact ⟨g', ph', .pan t, st', rfl, h2, k2, k1, k4, k5⟩
theorem swj_cond {c : Operand} {x y : Code} {b : Bool} (hc : opT st.ts c = .d (.v (.bool b))) (ht : b = true → SWJ P X N x Q ph st) (hf : b = false → SWJ P X N y Q ph st) : SWJ P X N (.cond c x y) Q ph st := fun F nn hF r g a hj hR => by
 have h1 := tsR_op hR.ts c
 rw [hc] at h1
 exact wpIn_cond_split h1.v_eq (fun h => ht h F nn hF r g a hj hR) (fun h => hf h F nn hF r g a hj hR)
theorem swj_condT {c : Operand} {x y : Code} (hc : opT st.ts c = .d (.v (.bool true))) (h : SWJ P X N x Q ph st) : SWJ P X N (.cond c x y) Q ph st := swj_cond hc (fun _ => h) (fun h => by cases h)
theorem swj_condF {c : Operand} {x y : Code} (hc : opT st.ts c = .d (.v (.bool false))) (h : SWJ P X N y Q ph st) : SWJ P X N (.cond c x y) Q ph st := swj_cond hc (fun h => by cases h) (fun _ => h)
def RgJ (P : Program) (X : JX) (N : Nat) (ops : Array Oper) (Q : SX → SX → St → Prop) (l : List Oper) (ph : SX) (st : St) : Prop :=
 ∀ (F : Fence) (nn : Nat), Wd F → ∀ (r : JR) (g : G) (a : Act) (R : Exit → Act → World → Prop), JOk X r ph g → StR g N st a [] → (∀ ex a' w', PostJ X r g N Q ex a' w' → R ex a' w') → wpListIn F nn P ops R l a g.w
theorem swj_rg {id : Nat} {l : List Oper} (h : RgJ P X N l.toArray Q l ph st) : SWJ P X N (.region id l.toArray false) Q ph st := fun F nn hF r g a hj hR =>
 wpIn_region_lit (h F nn hF r g a _ hj hR fun _ _ _ h => h)
theorem rgj_nil {ops : Array Oper} (h : Q ph .norm st) : RgJ P X N ops Q [] ph st := fun _ _ _ _ g _ _ hj hR k =>
 k _ _ _ ⟨g, ph, .norm, st, rfl, .refl _ _ g, hR, hj, trivial, h⟩
def endJ (P : Program) (X : JX) (N : Nat) (ops : Array Oper) (Q : SX → SX → St → Prop) (ph : SX) : List Oper → List Stp → St → Prop := fun l2 _ st' => RgJ P X N ops Q l2 ph st'
theorem ev_endJ {ops : Array Oper} {tr : List Stp} (h : Q ph .norm st) : EvK P N ops [] st tr (endJ P X N ops Q ph) := ev_stop (rgj_nil h)
theorem ev_yieldJ {ops : Array Oper} {tr : List Stp} {l : List Oper} (h : RgJ P X N ops Q l ph st) : EvK P N ops l st tr (endJ P X N ops Q ph) := ev_stop h
theorem rgj_ev {ops : Array Oper} {l : List Oper} (h : EvK P N ops l st [] (endJ P X N ops Q ph)) : RgJ P X N ops Q l ph st := by
 obtain ⟨l1, l2, tr, st', rfl, h1, h2⟩ := h
 intro F nn hF r g a R hj hR k
 have key : ∀ (l : List Oper) (st : St) (tr : List Stp) (st2 : St), Ev P N ops l st tr st2 → RgJ P X N ops Q l2 ph st2 → ∀ (g1 : G) (a : Act), Le g g1 → StR g1 N st a [] → wpListIn F nn P ops R (l ++ l2) a g1.w := by
  intro l st tr st2 h
  induction h with
  | nil st =>
   intro h2 g1 a hl hR1
   exact h2 F nn hF r g1 a R (hj.step hR.good (hl.toN _)) hR1 fun _ _ _ hq => k _ _ _ (hq.trans ((hl.toN _).toL _))
  | cons hs _ ih =>
   intro h2 g1 a hl hR1
   exact hs.soundL hF hR1 fun g' a' h3 h4 => ih h2 g' a' (hl.trans h3) h4
 exact key l1 st tr st' h1 h2 g a (.refl g) hR
def parS : List Tmp → List D → List (Nat × T) → List (Nat × T)
 | p :: ps, y :: ys, ts => parS ps ys ((p, .d y) :: ts)
 | _, _, ts => ts
theorem par_ok {g : G} {N : Nat} : ∀ (ps : List Tmp) (ys : List D) (vs : List Value) (ts : List (Nat × T)) (tm : Array Value), tm.size = N → (∀ p ∈ ps, Nat.blt p N = true) → ps.length = ys.length → VTs g (ys.map .d) vs → (∀ i, VT g (getS ts i) (tm.getD i undef)) →
  ((ps.zip vs).foldl (fun t (p, v) => t.setIfInBounds p v) tm).size = N ∧ ∀ i, VT g (getS (parS ps ys ts) i) (((ps.zip vs).foldl (fun t (p, v) => t.setIfInBounds p v) tm).getD i undef)
 | [], ys, vs, ts, tm, hs, _, _, _, h => ⟨hs, h⟩
 | p :: ps, y :: ys, [], ts, tm, _, _, _, hv, _ => by have := hv.1; simp at this
 | p :: ps, [], vs, ts, tm, _, _, hl, _, _ => by simp at hl
 | p :: ps, y :: ys, v :: vs, ts, tm, hs, hp, hl, hv, h => by
  refine par_ok ps ys vs ((p, .d y) :: ts) (tm.setIfInBounds p v) (by simpa using hs) (fun q hq => hp q (by simp [hq])) (by simpa using hl) ⟨by have := hv.1; simp at this ⊢; exact this, fun i t c h1 h2 => hv.2 (i + 1) t c (by simpa using h1) (by simpa using h2)⟩ fun i => ?_
  have e := putS_get (ts := ts) (dst := some p) (v := .d y) i
  simp only [putS] at e
  rw [e]
  have hlt : p < tm.size := by rw [hs]; simpa [Nat.blt_eq] using hp p (by simp)
  by_cases hpi : p = i
  ·subst hpi
   rw [if_pos rfl]
   simpa [Array.getD, hlt] using hv.2 0 (.d y) v rfl rfl
  ·rw [if_neg (by simpa using hpi)]
   simp only [Array.getD_eq_getD_getElem?, Array.getElem?_setIfInBounds_ne hpi]
   simpa [Array.getD_eq_getD_getElem?] using h i
def asgQ (K : St → Prop) : SX → St → Prop := fun sx st => sx = .norm ∧ K st
def rdJ (n1 : Nat) (K : SX → List (Option Rw) → Prop) : SX → St → Prop
 | .pan _, _ => False
 | sx, st => ∃ L κ, Vw n1 st ⟨[], L⟩ κ ∧ K sx L
def rdP (n1 : Nat) (K : SX → List (Option Rw) → Prop) : SX → St → Prop
 | .pan t, st => ∃ L κ, Vw n1 st ⟨[], L⟩ κ ∧ t.sc 0 = true ∧ K (.pan t) L
 | sx, st => ∃ L κ, Vw n1 st ⟨[], L⟩ κ ∧ K sx L
def isN : SX → Bool
 | .norm => true
 | _ => false
end
end Go.Proofs.Ytjnnkcnnandeeaa.Sh
namespace Go.Proofs.Ytjnnkcnnandeeaa.Sh
open Go
def noCall : List Item → Prop
 | .call _ _ _ _ :: _ => False
 | _ => True
def ArrR (I : Machine → Prop) (P : Program) (m : Machine) (b : Frame) (k : List Item) (cs : List Frame) : Exit → Act → World → Prop
 | .panic ch, a, w => ∃ todo, noCall todo ∧ StepsIn I P m (lone { b.atR a todo with mode := .panicking ch } cs w)
 | e, a, w => ArrivesIn I P m b k cs e a w
def wpR (F : Fence) (n : Nat) (P : Program) (c : Code) (Q : Exit → Act → World → Prop) (a : Act) (w : World) : Prop :=
 ∀ (b : Frame) (k : List Item) (cs : List Frame), b.roundOf = F.round → F.fn b.fn → F.room (cs.length + 1 + n) →
  ∃ e a' w', Q e a' w' ∧ ArrR (Machine.fenced P F) P (lone (b.atR a (.code c :: k)) cs w) b k cs e a' w'
section
variable {F : Fence} {n : Nat} {P : Program} {Q : Exit → Act → World → Prop} {a : Act} {w : World}
theorem ArrR.of {I : Machine → Prop} {m : Machine} {b : Frame} {k : List Item} {cs : List Frame} {e : Exit} (h : ArrivesIn I P m b k cs e a w) (he : ∀ ch, e ≠ .panic ch) : ArrR I P m b k cs e a w := by
 cases e <;> first | exact h | exact (he _ rfl).elim
theorem ArrR.to {I : Machine → Prop} {m : Machine} {b : Frame} {k : List Item} {cs : List Frame} {e : Exit} (h : ArrR I P m b k cs e a w) (he : ∀ ch, e ≠ .panic ch) : ArrivesIn I P m b k cs e a w := by
 cases e <;> first | exact h | exact (he _ rfl).elim
theorem wpR_of {c : Code} (h : c.wpIn F n P Q a w) (hq : ∀ ch a w, ¬ Q (.panic ch) a w) : wpR F n P c Q a w := fun b k cs h1 h2 h3 =>
 let ⟨e, a', w', q, r⟩ := h b k cs h1 h2 h3
 ⟨e, a', w', q, .of r fun ch h => hq ch a' w' (h ▸ q)⟩
theorem wpR_mono {c : Code} {Q' : Exit → Act → World → Prop} (h : wpR F n P c Q a w) (hq : ∀ e a w, Q e a w → Q' e a w) : wpR F n P c Q' a w := fun b k cs h1 h2 h3 =>
 let ⟨e, a', w', q, r⟩ := h b k cs h1 h2 h3
 ⟨e, a', w', hq _ _ _ q, r⟩
theorem ArrR.steps {I : Machine → Prop} {m m1 : Machine} {b : Frame} {k : List Item} {cs : List Frame} {e : Exit} (h : StepsIn I P m m1) (h' : ArrR I P m1 b k cs e a w) : ArrR I P m b k cs e a w := by
 cases e with
 | panic ch => obtain ⟨todo, t, r⟩ := h'; exact ⟨todo, t, h.trans r⟩
 | _ => exact ArrR.of (ArrivesIn.of_steps h (ArrR.to h' (fun ch e => by cases e))) (fun ch e => by cases e)
section
variable {ops : Array Oper} {Q : List PanicEntry → Act → World → Prop}
end
theorem step_round_panicked {fr c : Frame} {cs : List Frame} {chain : List PanicEntry} (hm : fr.mode = .panicking chain) (hd : fr.defers = []) (ht : noCall fr.todo) :
 step P (lone fr (c :: cs) w) = .next (lone (c.raise chain) cs w) := by
 refine step_lone_go ?_
 have hc : fr.catches P = false := by
  unfold Frame.catches
  split
  ·rename_i h; rw [h] at ht; exact ht.elim
  ·rfl
 simp [stepG, unwind, hm, hd, hc]
def rdEnd (P : Program) (l : Nat) (R : Ending → World → Prop) : Exit → Act → World → Prop
 | .normal, a, w => a.defers = [] ∧ ∃ v w', (Instr.endRound l none).run P w = .ok v w' ∧ R (.returned v) w'
 | .ret, a, w => a.defers = [] ∧ ∃ v w', (Instr.endRound l (some .ret)).run P w = .ok v w' ∧ R (.returned v) w'
 | .exit i, a, w => a.defers = [] ∧ ∃ v w', (Instr.endRound l (some (.exit i))).run P w = .ok v w' ∧ R (.returned v) w'
 | .panic ch, a, w => a.defers = [] ∧ R (.panicked ch) w
 | _, _, _ => False
theorem roundIn_R {l : Nat} {f : FuncId} {tmps : Array Value} {assign body : Code} {R : Ending → World → Prop} (hF : F.fn f)
  (h : assign.wpIn (F.inRound l) n P (Exit.then (fun a1 w1 => ∃ w2, (Instr.beginRound l).run P w1 = .ok () w2 ∧ wpR (F.inRound l) n P body (rdEnd P l R) a1 w2) (fun _ _ _ => False)) { tmps := tmps, defers := [] } w) : RoundIn F n P l f tmps assign body w R := by
 refine ⟨hF, fun c cs hr => ?_⟩
 let b : Frame := { (default : Frame) with fn := f, kind := .normal, roundOf := some l }
 have hb0 : Frame.round l f tmps assign body .normal = b.atR { tmps := tmps, defers := [] } [.code assign, .beginRound, .code body] := by simp [Frame.round, Frame.atR, b]
 have hF' : (F.inRound l).fn b.fn := hF
 obtain ⟨e, a1, w1, hq, harr⟩ := h b [.beginRound, .code body] (c :: cs) rfl hF' hr
 rw [← hb0] at harr
 cases e with
 | normal =>
  obtain ⟨w2, hbr, hbody⟩ := hq
  have s1 := StepsIn.trans harr (.one (fenced_calm (fr := b.atR a1 [.beginRound, .code body]) hF' hr rfl) (stepR_beginRound rfl hbr))
  obtain ⟨e2, a2, w3, hq2, harr2⟩ := hbody b [] (c :: cs) rfl hF' hr
  cases e2 with
  | normal =>
   obtain ⟨_, v, w4, hend, hR⟩ := hq2
   exact ⟨.returned v, w4, hR, s1.trans (StepsIn.trans harr2 (.one (fenced_calm (fr := b.atR a2 []) hF' hr rfl) (stepR_round_end rfl rfl hend)))⟩
  | ret =>
   obtain ⟨_, v, w4, hend, hR⟩ := hq2
   obtain ⟨k1, hs⟩ := harr2.2 rfl
   exact ⟨.returned v, w4, hR, s1.trans (StepsIn.trans hs (.one (fenced_calm (fr := b.atR a2 (.code .ret :: k1)) hF' hr rfl) (stepR_round_ret rfl rfl hend)))⟩
  | exit id =>
   obtain ⟨_, v, w4, hend, hR⟩ := hq2
   obtain ⟨k1, hk, hs⟩ := harr2.2 rfl rfl
   exact ⟨.returned v, w4, hR, s1.trans (StepsIn.trans hs (.one (fenced_calm (fr := b.atR a2 (.code (.exit id) :: k1)) hF' hr rfl) (stepR_round_exit rfl rfl hk hend)))⟩
  | panic ch =>
   obtain ⟨hd, hR⟩ := hq2
   obtain ⟨todo, ht, hs⟩ := harr2
   refine ⟨.panicked ch, w3, hR, s1.trans (StepsIn.trans hs (.one ?_ (step_round_panicked rfl hd ht)))⟩
   refine fenced_calm (F := F.inRound l) hF' hr ?_
   simp [Frame.about, Frame.atR, hd]
  | goto t => exact hq2.elim
  | outgrown => exact hq2.elim
 | _ => exact hq.elim
end
def SWY (P : Program) (n0 N : Nat) (c : Code) (Q : SX → St → Prop) (st : St) : Prop :=
 ∀ (F : Fence) (nn : Nat), Wd F → ∀ (g : G) (a : Act), StR g N st a [] → wpR F nn P c (fun ex a' w' => ∃ g' sx st', g'.w = w' ∧ LeN n0 g g' ∧ StR g' N st' a' [] ∧ XR g' sx ex ∧ Q sx st') a g.w
section
variable {P : Program} {n0 N : Nat} {Q : SX → St → Prop} {st : St}
theorem SWY.mono {c : Code} {Q' : SX → St → Prop} (h : SWY P n0 N c Q st) (k : ∀ sx st, Q sx st → Q' sx st) : SWY P n0 N c Q' st := fun F nn hF g a hR =>
 wpR_mono (h F nn hF g a hR) fun _ _ _ ⟨g', sx, st', h1, h2, h3, h4, h5⟩ => ⟨g', sx, st', h1, h2, h3, h4, k _ _ h5⟩
theorem swy_of {c : Code} (h : SW P n0 N [] c Q st) (hq : ∀ t st, ¬ Q (.pan t) st) : SWY P n0 N c Q st := fun F nn hF g a hR =>
 wpR_of (h F nn hF g a hR) fun ch a w ⟨g', sx, st', h1, h2, h3, h4, h5⟩ => by cases sx <;> first | exact h4.elim | exact hq _ _ h5
theorem swy_rd {c : Code} {n1 : Nat} {K : SX → List (Option Rw) → Prop} (h : SW P n0 N [] c (rdJ n1 K) st) : SWY P n0 N c (rdP n1 K) st :=
 (swy_of h fun t st h => h).mono fun sx st h => by cases sx <;> first | exact h | exact h.elim
end
end Go.Proofs.Ytjnnkcnnandeeaa.Sh
namespace Go.Proofs.Ytjnnkcnnandeeaa.Sh
open Go
theorem VT.turnL {l n0 : Nat} {g g' : G} (hg : Good g) (h : LeL l n0 g g') (hk : ¬ g.K l) {t : T} {c : Value} (hv : VT g t c) (hs : t.sc n0 = true) : VT g' t c :=
 hv.turnN (fun b hb => ⟨h.k b hb, h.fr b (hg.kd b hb) (hg.kl b hb) fun e => hk (e ▸ hb)⟩) h.e hs
section
variable {P : Program} {X : JX} {N : Nat} {Q : SX → SX → St → Prop}
def yieldK (P : Program) (X : JX) (N : Nat) (ops : Array Oper) (Q : SX → SX → St → Prop) (l : List Oper) (d : Nat) (ts : List (Nat × T)) : SX → List (Option Rw) → Prop
 | .pan t, L' => Q (.pan t) (.pan t) ⟨ts, L'⟩
 | ph, L' => RgJ P X N ops Q l ph ⟨(d, .d (.v (.bool (isN ph)))) :: ts, L'⟩
theorem yk_norm {P : Program} {X : JX} {N : Nat} {ops : Array Oper} {Q : SX → SX → St → Prop} {l : List Oper} {d : Nat} {ts : List (Nat × T)} {L' : List (Option Rw)} (h : RgJ P X N ops Q l .norm ⟨(d, .d (.v (.bool true))) :: ts, L'⟩) : yieldK P X N ops Q l d ts .norm L' := h
theorem yk_ret {P : Program} {X : JX} {N : Nat} {ops : Array Oper} {Q : SX → SX → St → Prop} {l : List Oper} {d : Nat} {ts : List (Nat × T)} {L' : List (Option Rw)} (h : RgJ P X N ops Q l .ret ⟨(d, .d (.v (.bool false))) :: ts, L'⟩) : yieldK P X N ops Q l d ts .ret L' := h
theorem rgj_yield {ops : Array Oper} {l : List Oper} {d : Nat} {ty : TypeId} {pos : String} {af : Array Edge} {gd : Option (Nat × Bool)} {x : Operand} {xs : Array Operand} {tys : Array TypeId} {ys : List D} {ts : List (Nat × T)} {L : List (Option Rw)}
  (hf : opT ts x = .d (.v (.func (.yield X.l) #[] #[]))) (hx : xs.toList.map (opT ts) = ys.map .d) (hps : X.ps.toList.length = ys.length) (hpN : X.ps.toList.all (Nat.blt · X.N) = true) (hn1 : Nat.ble X.n1 L.length = true)
  (hw : wantT ops ts ⟨some d, .call { callee := .value x, args := xs, argTypes := tys }, ty, pos, af, gd⟩ = some true) (hd : Nat.blt d N = true)
  (h : SW P L.length X.N [] X.asg (asgQ fun st1 => SWY P L.length X.N X.body (rdP L.length (yieldK P X N ops Q l d ts)) st1) ⟨parS X.ps.toList ys X.ts, L⟩) :
  RgJ P X N ops Q (⟨some d, .call { callee := .value x, args := xs, argTypes := tys }, ty, pos, af, gd⟩ :: l) .norm ⟨ts, L⟩ := by
 intro F nn hF r g a R hj hR hk
 have hn1 := Nat.le_of_ble_eq_true hn1
 have hcal := tsR_op hR.ts x
 dsimp only at hcal
 rw [hf] at hcal
 have hcal := hcal.v_eq
 have hvs : VTs g (ys.map .d) (xs.toList.map a.eval) := by
  rw [← hx]
  refine ⟨by simp, fun i t c h1 h2 => ?_⟩
  rw [List.getElem?_map, Option.map_eq_some_iff] at h1 h2
  obtain ⟨y, hy1, rfl⟩ := h1
  obtain ⟨z, hz1, rfl⟩ := h2
  rw [hy1] at hz1; injection hz1 with hz1; subst hz1
  exact tsR_op hR.ts y
 obtain ⟨vs, hvsE⟩ : ∃ vs, xs.toList.map a.eval = vs := ⟨_, rfl⟩
 rw [hvsE] at hvs
 have hvl : vs.length = ys.length := by have := hvs.1; simp at this; exact this.symm
 have h5 : g.w.heap[X.l]? = some (.loop (X.lp r .ready none)) := hj.lrec
 have hyr := run_yield (P := P) (args := vs.toArray) h5 (by simp [JX.lp] at hps ⊢; omega)
 obtain ⟨p1, p2⟩ := par_ok X.ps.toList ys vs X.ts r.tmps hj.sz (fun p hp => List.all_eq_true.1 hpN p hp) hps hvs hj.ts
 have e0 : (X.ps.zip vs.toArray).foldl (fun t (p, v) => t.setIfInBounds p v) r.tmps = (X.ps.toList.zip vs).foldl (fun t (p, v) => t.setIfInBounds p v) r.tmps := by rw [← Array.foldl_toList]; simp
 have leOf : ∀ {ga gb : G}, ga.M = g.M → LeN L.length ga gb → LeN X.n1 ga gb := fun {ga gb} e h => ⟨fun n hn => h.e n (by omega), h.size, h.os, h.tape, h.output, h.fr, h.k, h.k', h.nl⟩
 have all : ∀ {g' : G} {t : T} {c : Value}, LeL X.l L.length g g' → VT g t c → VT g' t c := fun k3 hv => hv.turn (fun b hb => ⟨k3.k b hb, k3.fr b (hR.good.kd b hb) (hR.good.kl b hb) fun e => hj.kl (e ▸ hb)⟩) fun n hn => k3.e n (by rw [hR.M] at hn; simpa only [ofL, ne_eq, List.getElem?_eq_none_iff, Nat.not_le] using hn) hn
 have hround : RoundIn Fence.wide 0 P X.l r.fn ((X.ps.zip vs.toArray).foldl (fun t (p, v) => t.setIfInBounds p v) r.tmps) X.asg X.body g.w fun e W' =>
   (∃ g' ph' L', g'.w = W' ∧ Good g' ∧ g'.M = ofL L' ∧ LeL X.l L.length g g' ∧ JOk X r ph' g' ∧ e = .returned (.bool (isN ph')) ∧ RgJ P X N ops Q l ph' ⟨(d, .d (.v (.bool (isN ph')))) :: ts, L'⟩) ∨
   ∃ g' t v L', g'.w = W' ∧ Good g' ∧ g'.M = ofL L' ∧ LeL X.l L.length g g' ∧ JOk X r (.pan t) g' ∧ e = .panicked [{ v, recovered := false }] ∧ VT g' t v ∧ Q (.pan t) (.pan t) ⟨ts, L'⟩ := by
  refine roundIn_R trivial (wpIn_mono (h (Fence.wide.inRound X.l) 0 ⟨some X.l, rfl⟩ g _ ⟨hR.good, hR.M, ?_, ?_, rfl⟩) ?_)
  ·show ((X.ps.zip vs.toArray).foldl _ r.tmps).size = X.N
   rw [e0]; exact p1
  ·intro i
   show VT g _ (((X.ps.zip vs.toArray).foldl _ r.tmps).getD i undef)
   rw [e0]; exact p2 i
  rintro ex a1 w1 ⟨g2, sx, st1, rfl, q2, q3, q4, rfl, q5⟩
  cases ex <;> first | exact q4.elim | skip
  have j2 := hj.step hR.good (leOf rfl q2)
  have b1 : g2.w.heap[X.l]? = some (.loop (X.lp r .ready none)) := j2.lrec
  have hlt2 := (Array.getElem?_eq_some_iff.1 b1).1
  have hne : r.D ≠ X.l := fun e => by have := j2.mark; rw [e, b1] at this; cases this
  obtain ⟨c1, c2, c3⟩ := put_good q3.good (nl_loop q3.good b1) j2.kl (.loop { X.lp r .ready none with state := .busy }) L.length
  refine ⟨_, run_beginRound b1 rfl, ?_⟩
  obtain ⟨g3, hg3⟩ : ∃ g3 : G, g3 = ⟨g2.M, g2.β, g2.K, g2.w.putObj X.l (.loop { X.lp r .ready none with state := .busy })⟩ := ⟨_, rfl⟩
  rw [← hg3] at c1 c2
  have hR3 : StR g3 X.N st1 a1 [] := ⟨c1, by rw [hg3]; exact q3.M, q3.size, fun i => by rw [hg3]; exact c3 _ _ (q3.ts i), q3.df⟩
  have d1 : g3.w.heap[X.l]? = some (.loop { X.lp r .ready none with state := .busy }) := by rw [hg3]; exact World.putObj_heap_same hlt2
  have d2 : g3.w.heap[r.D]? = some (.deferred (some [])) := by rw [hg3]; exact (World.putObj_heap_other hne).trans j2.mark
  have hw3 : g3.w = g2.w.putObj X.l (.loop { X.lp r .ready none with state := .busy }) := by rw [hg3]
  have hK3 : g3.K = g2.K := by rw [hg3]
  rw [← hw3]
  refine wpR_mono (q5 (Fence.wide.inRound X.l) 0 ⟨some X.l, rfl⟩ g3 a1 hR3) ?_
  rintro ex a2 w2 ⟨g4, sx, st2, rfl, r2, r3, r4, r5⟩
  obtain ⟨f1, f3⟩ := old_at r2 (Array.getElem?_eq_some_iff.1 d1).1 (nl_loop c1 d1) (by rw [hK3]; exact j2.kl)
  obtain ⟨f2, f4⟩ := old_at r2 (Array.getElem?_eq_some_iff.1 d2).1 (nl_def c1 d2) (by rw [hK3]; exact j2.kD)
  rw [d1] at f1
  rw [d2] at f2
  have fin : ∀ (ph' : SX) (L' : List (Option Rw)) (κ : List Nat), (isN ph' = (pendC ph').isNone) → (pendS ph' = if (pendC ph').isNone then .ready else .done) → Vw L.length st2 ⟨[], L'⟩ κ →
    ∃ g5 : G, (Instr.endRound X.l (pendC ph')).run P g4.w = .ok (.bool (isN ph')) g5.w ∧ g5.M = ofL L' ∧ Good g5 ∧ LeL X.l L.length g g5 ∧ JOk X r ph' g5 := fun ph' L' κ hp1 hp2 hvw => by
   obtain ⟨g5, s1, s2, s3⟩ := hvw.see r3
   obtain ⟨t1, t3⟩ := old_at s2 (Array.getElem?_eq_some_iff.1 f1).1 (nl_loop r3.good f1) f3
   obtain ⟨t2, t4⟩ := old_at s2 (Array.getElem?_eq_some_iff.1 f2).1 (nl_def r3.good f2) f4
   rw [f1] at t1
   rw [f2] at t2
   obtain ⟨u1, u2, _⟩ := put_good s3.good (nl_loop s3.good t1) t3 (.loop (X.lp r (pendS ph') (pendC ph'))) L.length
   have hr := run_endRound (P := P) (pendC ph') t1
   have hL : LeL X.l L.length g ⟨g5.M, g5.β, g5.K, g5.w.putObj X.l (.loop (X.lp r (pendS ph') (pendC ph')))⟩ := (((q2.toL _).trans c2).trans (r2.toL _)).trans ((s2.toL _).trans u2)
   refine ⟨⟨g5.M, g5.β, g5.K, g5.w.putObj X.l (.loop (X.lp r (pendS ph') (pendC ph')))⟩, ?_, s3.M, u1, hL, ⟨World.putObj_heap_same (Array.getElem?_eq_some_iff.1 t1).1, (World.putObj_heap_other hne).trans t2, t3, t4, hj.sz, fun i => (hj.ts i).turnL hR.good (hL.less hn1) hj.kl (hj.sc i), hj.sc⟩⟩
   rw [← s1, hr, hp1, hp2]
   rfl
  cases sx with
  | norm =>
   cases ex <;> first | exact r4.elim | skip
   obtain ⟨L', κ, hvw, hI⟩ := r5
   obtain ⟨g5, z1, z2, z3, z4, z5⟩ := fin .norm L' κ rfl rfl hvw
   exact ⟨r3.df, _, _, z1, .inl ⟨g5, .norm, L', rfl, z3, z2, z4, z5, rfl, hI⟩⟩
  | ret =>
   cases ex <;> first | exact r4.elim | skip
   obtain ⟨L', κ, hvw, hI⟩ := r5
   obtain ⟨g5, z1, z2, z3, z4, z5⟩ := fin .ret L' κ rfl rfl hvw
   exact ⟨r3.df, _, _, z1, .inl ⟨g5, .ret, L', rfl, z3, z2, z4, z5, rfl, hI⟩⟩
  | exit i =>
   cases ex <;> first | exact r4.elim | skip
   obtain ⟨L', κ, hvw, hI⟩ := r5
   have r4' : i = _ := r4
   subst r4'
   obtain ⟨g5, z1, z2, z3, z4, z5⟩ := fin (.exit i) L' κ rfl rfl hvw
   exact ⟨r3.df, _, _, z1, .inl ⟨g5, .exit i, L', rfl, z3, z2, z4, z5, rfl, hI⟩⟩
  | pan t =>
   cases ex <;> first | exact r4.elim | skip
   obtain ⟨v, rfl, hv'⟩ := r4
   obtain ⟨L', κ, hvw, hsc, hI⟩ := r5
   obtain ⟨g5, s1, s2, s3⟩ := hvw.see r3
   obtain ⟨t1, t3⟩ := old_at s2 (Array.getElem?_eq_some_iff.1 f1).1 (nl_loop r3.good f1) f3
   obtain ⟨t2, t4⟩ := old_at s2 (Array.getElem?_eq_some_iff.1 f2).1 (nl_def r3.good f2) f4
   rw [f1] at t1
   rw [f2] at t2
   have hL : LeL X.l L.length g g5 := ((q2.toL _).trans c2).trans ((r2.toL _).trans (s2.toL _))
   exact ⟨r3.df, .inr ⟨g5, t, v, L', s1, s3.good, s3.M, hL, ⟨t1, t2, t3, t4, hj.sz, fun i => (hj.ts i).turnL hR.good (hL.less hn1) hj.kl (hj.sc i), hj.sc⟩, rfl, hv'.turnN (k := 0) (fun b hb => ⟨s2.k b hb, s2.fr b (r3.good.kd b hb) (r3.good.kl b hb)⟩) (fun n hn => by omega) hsc, hI⟩⟩
 unfold wpListIn
 rw [yielded_of hw fun d _ => hR.ts d]
 simp only [if_true]
 refine ⟨fun f _ => hF.fn f, ?_⟩
 rw [Oper.semAt_eq _ _ _ (fun c h => by cases h)]
 have e : xs.map a.eval = vs.toArray := by rw [← hvsE]; apply Array.ext'; simp
 have hrun' : (execOp a.eval ⟨some d, .call { callee := .value x, args := xs, argTypes := tys }, ty, pos, af, gd⟩).run P g.w = .ok (.round X.l r.fn ((X.ps.zip vs.toArray).foldl (fun t (p, v) => t.setIfInBounds p v) r.tmps) X.asg X.body) g.w := by
  simp [execOp, resolve, hcal, Deferred.ofValue, invoke, e, hyr, JX.lp]
 rw [hrun']
 obtain ⟨rr, rfl⟩ := hF
 refine ⟨(fun h => by cases h), ?_⟩
 refine (roundIn_wide rr (nn - 1) hround).mono ?_
 rintro e w' (⟨g', ph', L', rfl, k1, k2, k3, k4, rfl, k6⟩ | ⟨g', t, v, L', rfl, k1, k2, k3, k4, rfl, k5, k6⟩)
 ·refine k6 { Fence.wide with round := rr } nn ⟨rr, rfl⟩ r g' _ R k4 ⟨k1, k2, by rw [put_size]; exact hR.size, fun i => ?_, by rw [put_defers]; exact hR.df⟩ fun _ _ _ hq => hk _ _ _ (hq.trans (k3.less hn1))
  rw [put_getD hR.size (by exact hd)]
  have e := putS_get (ts := ts) (dst := some d) (v := .d (.v (.bool (isN ph')))) i
  simp only [putS] at e
  rw [e]
  split
  ·exact .d (.v _ rfl)
  ·exact all k3 (hR.ts i)
 ·exact hk _ _ _ ⟨g', .pan t, .pan t, ⟨ts, L'⟩, rfl, k3.less hn1, ⟨k1, k2, hR.size, fun i => all k3 (hR.ts i), hR.df⟩, k4, ⟨v, rfl, k5⟩, k6⟩
end
def SWM (P : Program) (n0 N : Nat) (c : Code) (Q : SX → St → Prop) (st : St) : Prop :=
 ∀ (nn : Nat) (db : Nat) (g : G) (a : Act) (df : List Deferred), StR g N st a df → DfOk db g df → c.wpIn Fence.wide nn P (fun ex a' w' => ∃ g' sx st' df', g'.w = w' ∧ LeN n0 g g' ∧ StR g' N st' a' df' ∧ DfOk db g' df' ∧ XR g' sx ex ∧ Q sx st') a g.w
section
variable {P : Program} {n0 N : Nat} {Q : SX → St → Prop} {st : St}
theorem swm_of {c : Code} (h : ∀ df, SW P n0 N df c Q st) : SWM P n0 N c Q st := fun nn db g a df hR hd =>
 wpIn_mono (h df Fence.wide nn Wd.wide g a hR) fun ex a' w' ⟨g', sx, st', h1, h2, h3, h4, h5⟩ => ⟨g', sx, st', df, h1, h2, h3, hd.stepN hR.good h2, h4, h5⟩
theorem swm_seq {x y : Code} (h : SWM P n0 N x (thenQ (SWM P n0 N y Q) Q) st) : SWM P n0 N (.seq x y) Q st := fun nn db g a df hR hd => by
 refine wpIn_seq (wpIn_mono (h nn db g a df hR hd) ?_)
 rintro ex a' w' ⟨g', sx, st', df', rfl, h2, h3, h3', h4, h5⟩
 cases sx with
 | norm =>
  cases ex <;> first | exact h4.elim | skip
  exact wpIn_mono (h5 nn db g' a' df' h3 h3') fun _ _ _ ⟨g'', sx', st'', df'', k1, k2, k3⟩ => ⟨g'', sx', st'', df'', k1, h2.trans k2, k3⟩
 | ret => cases ex <;> first | exact h4.elim | exact ⟨g', _, st', df', rfl, h2, h3, h3', h4, h5⟩
 | exit i => cases ex <;> first | exact h4.elim | exact ⟨g', _, st', df', rfl, h2, h3, h3', h4, h5⟩
 | pan t => cases ex <;> first | exact h4.elim | exact ⟨g', _, st', df', rfl, h2, h3, h3', h4, h5⟩
theorem swm_block {id : Nat} {c : Code} (h : SWM P n0 N c (blockQ id Q) st) : SWM P n0 N (.block id c) Q st := fun nn db g a df hR hd => by
 refine wpIn_block (wpIn_mono (h nn db g a df hR hd) ?_)
 rintro ex a' w' ⟨g', sx, st', df', rfl, h2, h3, h3', h4, h5⟩
 cases sx with
 | norm => cases ex <;> first | exact h4.elim | exact ⟨g', .norm, st', df', rfl, h2, h3, h3', trivial, h5⟩
 | ret => cases ex <;> first | exact h4.elim | exact ⟨g', .ret, st', df', rfl, h2, h3, h3', trivial, h5⟩
 | exit i =>
  cases ex <;> first | exact h4.elim | skip
  rename_i j
  have h4' : i = j := h4
  subst h4'
  simp only [blockQ] at h5
  by_cases hi : i = id
  ·rw [if_pos hi] at h5
   simp only [Exit.inBlock, hi, if_true]
   exact ⟨g', .norm, st', df', rfl, h2, h3, h3', trivial, h5⟩
  ·rw [if_neg hi] at h5
   simp only [Exit.inBlock, hi, if_false]
   exact ⟨g', .exit i, st', df', rfl, h2, h3, h3', rfl, h5⟩
 | pan t => cases ex <;> first | exact h4.elim | exact ⟨g', .pan t, st', df', rfl, h2, h3, h3', h4, h5⟩
def isPan : SX → Bool
 | .pan _ => true
 | _ => false
def finJ (n1 : Nat) (K : SX → List (Option Rw) → Prop) : SX → SX → St → Prop := fun ph sx st => match sx with
 | .ret | .norm => isPan ph = false ∧ ∃ L κ, Vw n1 st ⟨[], L⟩ κ ∧ K ph L
 | .pan t => ph = .pan t ∧ t.sc 0 = true ∧ ∃ L κ, Vw n1 st ⟨[], L⟩ κ ∧ K (.pan t) L
 | .exit _ => False
def scS (ts : List (Nat × T)) (n : Nat) : Bool := ts.all fun p => p.2.sc n
theorem scS_get {ts : List (Nat × T)} {n : Nat} (h : scS ts n = true) (i : Nat) : (getS ts i).sc n = true := by
 rcases getS_mem (ts := ts) (i := i) with h1 | h1
 ·rw [h1]; rfl
 ·exact List.all_eq_true.1 h _ h1
theorem swm_range {x : Operand} {ps : Array Tmp} {asg body c1 : Code} {f : FuncId} {fn1 : Func} {N1 : Nat} {ca : List T} {ts : List (Nat × T)} {L : List (Option Rw)} (he : Ent P f) (hf : P.funcs[f]? = some fn1) (hb : fn1.body = some c1) (hN : fn1.ntmps = N1) (hres : fn1.results = #[]) (hx : opT ts x = .fn (.func f) [] ca) (hl : Nat.ble (ca.length + 1) N1 = true) (hsc : scS ts L.length = true)
  (h : ∀ lb, SWJ P ⟨lb, ps, asg, body, N, ts, L.length⟩ N1 c1 (finJ L.length fun ph L' => Q ph ⟨ts, L'⟩) .norm ⟨argS 0 (.d (.v (.func (.yield lb) #[] #[])) :: ca), L⟩) : SWM P n0 N (.rangeFunc x ps asg body) Q ⟨ts, L⟩ := by
 intro nn db g a df hR hdf
 have hv := tsR_op hR.ts x
 dsimp only at hv
 rw [hx] at hv
 obtain ⟨cs, ds, hc, hfi, hca⟩ := calT_val hv (.inr rfl)
 have hcs : cs = #[] := by have := hfi.1; simp at this; exact Array.size_eq_zero_iff.1 this.symm
 subst hcs
 refine wpIn_rangeFunc fun fn _ => ?_
 obtain ⟨X, hX⟩ : ∃ X : JX, X = ⟨g.w.heap.size + 1, ps, asg, body, N, ts, L.length⟩ := ⟨_, rfl⟩
 obtain ⟨r, hr⟩ : ∃ r : JR, r = ⟨fn, a.tmps, g.w.heap.size⟩ := ⟨_, rfl⟩
 obtain ⟨W1, hW1⟩ : ∃ W1, (g.w.alloc (.deferred (some []))).alloc (.loop (X.lp r .ready none)) = W1 := ⟨_, rfl⟩
 have hsz : W1.heap.size = g.w.heap.size + 2 := by rw [← hW1]; simp
 have hL1 : W1.heap[g.w.heap.size + 1]? = some (.loop (X.lp r .ready none)) := by
  rw [← hW1]; have := World.alloc_heap_new (g.w.alloc (.deferred (some []))) (.loop (X.lp r .ready none)); rwa [World.size_alloc] at this
 have hK1 : W1.heap[g.w.heap.size]? = some (.deferred (some [])) := by
  rw [← hW1]; exact (Go.RowKit.Below.heap_alloc _ _ _ (by simp)).trans (World.alloc_heap_new g.w _)
 have hlow1 : ∀ b, b < g.w.heap.size → W1.heap[b]? = g.w.heap[b]? := fun b hb => by
  rw [← hW1]; exact (Go.RowKit.Below.heap_alloc _ _ _ (by simp; omega)).trans (Go.RowKit.Below.heap_alloc _ _ _ hb)
 obtain ⟨g1, hg1⟩ : ∃ g1 : G, g1 = ⟨g.M, g.β, g.K, W1⟩ := ⟨_, rfl⟩
 have hKlt : ∀ b, g.K b → b < g.w.heap.size := hR.good.kd
 have hk1 : ∀ b, g.K b → g1.K b ∧ g1.w.heap[b]? = g.w.heap[b]? := fun b hb => by rw [hg1]; exact ⟨hb, hlow1 b (hKlt b hb)⟩
 have he1 : ∀ n, g.M n ≠ none → g1.M n ≠ none ∧ g1.β n = g.β n := fun n hn => by rw [hg1]; exact ⟨hn, rfl⟩
 have hgood1 : Good g1 := by
  refine ⟨fun n r hn => ?_, fun n m r q => ?_, fun b hb => ?_, fun b hb => ?_⟩
  ·have hn' : g.M n = some (some r) := by rw [hg1] at hn; exact hn
   exact (hR.good.rows n r hn').turn hk1 he1 (by rw [hg1]) (fun h0 => by rw [hg1]; exact hlow1 _ ((hR.good.rows n r hn').lt h0))
  ·rw [hg1]; exact hR.good.inj n m r q
  ·rw [hg1] at hb ⊢; have := hKlt b hb; show b < W1.heap.size; omega
  ·rw [hg1] at hb ⊢; exact hR.good.kl b hb
 have hle1 : LeN L.length g g1 := by
  rw [hg1]
  exact ⟨fun n _ hn => ⟨hn, rfl⟩, by show _ ≤ W1.heap.size; omega, by rw [← hW1]; rfl, by rw [← hW1]; rfl, by rw [← hW1]; rfl, fun b hb _ => hlow1 b hb, fun b hb => hb, fun b _ hb => .inl hb, fun n r hn h0 _ hh => hh n r hn h0 rfl⟩
 have hbl : ∀ b, ¬ g.K (g.w.heap.size + b) := fun b h => by have := hKlt _ h; omega
 have hj1 : JOk X r .norm g1 := by
  refine ⟨by rw [hg1, hX]; rw [hX] at hL1; exact hL1, by rw [hg1, hr]; exact hK1, by rw [hg1, hX]; exact hbl 1, by rw [hg1, hr]; exact hbl 0, by rw [hr, hX]; exact hR.size, fun i => ?_, fun i => ?_⟩
  ·rw [hX, hr]; exact (hR.ts i).turn hk1 he1
  ·rw [hX]; exact scS_get hsc i
 have hw1 : g1.w = W1 := by rw [hg1]
 have hvs : VTs g1 (.d (.v (.func (.yield (g.w.heap.size + 1)) #[] #[])) :: ca) (.func (.yield (g.w.heap.size + 1)) #[] #[] :: ds.toList) := .cons (.d (.v _ rfl)) ⟨hca.1, fun i t c h1 h2 => (hca.2 i t c h1 h2).turn hk1 he1⟩
 have hcall : CallsIn Fence.wide 0 P f (Value.func (.yield (g.w.heap.size + 1)) #[] #[] :: ds.toList).toArray g1.w fun e W' => ∃ g' ph L', g'.w = W' ∧ Good g' ∧ g'.M = ofL L' ∧ LeL X.l L.length g1 g' ∧ JOk X r ph g' ∧ ((isPan ph = false ∧ ∃ v, e = .returned v) ∨ ∃ t v, ph = .pan t ∧ e = .panicked [{ v, recovered := false }] ∧ VT g' t v) ∧ Q ph ⟨ts, L'⟩ := by
  refine callsIn_of_wp hf hb trivial ?_ rfl
  obtain ⟨s1, s2⟩ := arg_slots hvs (N := N1) (by simpa using hl) fn1.ntmps hN
  have := h (g.w.heap.size + 1) Fence.wide 0 Wd.wide r g1 { tmps := (Value.func (.yield (g.w.heap.size + 1)) #[] #[] :: ds.toList).toArray ++ Array.replicate (fn1.ntmps - (Value.func (.yield (g.w.heap.size + 1)) #[] #[] :: ds.toList).toArray.size) undef, defers := [] } (hX ▸ hj1) ⟨hgood1, by rw [hg1]; exact hR.M, s1, s2, rfl⟩
  refine wpIn_mono this ?_
  rintro ex a' w' ⟨g', ph, sx, st', rfl, h2, h3, h4, h5, h6⟩
  have done : (isPan ph = false ∧ ∃ L1 κ, Vw L.length st' ⟨[], L1⟩ κ ∧ Q ph ⟨ts, L1⟩) → a'.defers = [] ∧ ∃ v, (results fn1 a'.tmps).run P g'.w = .ok v g'.w ∧ ∃ g'' ph L', g''.w = g'.w ∧ Good g'' ∧ g''.M = ofL L' ∧ LeL X.l L.length g1 g'' ∧ JOk X r ph g'' ∧ ((isPan ph = false ∧ ∃ v', Ending.returned v = .returned v') ∨ ∃ t v', ph = .pan t ∧ Ending.returned v = .panicked [{ v := v', recovered := false }] ∧ VT g'' t v') ∧ Q ph ⟨ts, L'⟩ := by
   rintro ⟨hp, L', κ, h7, h8⟩
   obtain ⟨g2, e1, e2, e3⟩ := h7.see h3
   have hj2 := h4.step h3.good e2
   exact ⟨h3.df, .tuple #[], by simp [results, hres], g2, ph, L', e1, e3.good, e3.M, by rw [hX]; exact h2.trans (e2.toL _), hX ▸ hj2, .inl ⟨hp, _, rfl⟩, h8⟩
  cases sx with
  | norm => cases ex <;> first | exact h5.elim | exact done h6
  | ret => cases ex <;> first | exact h5.elim | exact done h6
  | exit i => exact h6.elim
  | pan t =>
   cases ex <;> first | exact h5.elim | skip
   obtain ⟨v, rfl, hv'⟩ := h5
   obtain ⟨rfl, hsc0, L', κ, h7, h8⟩ := h6
   obtain ⟨g2, e1, e2, e3⟩ := h7.see h3
   have hj2 := h4.step h3.good e2
   exact ⟨h3.df, g2, .pan t, L', e1, e3.good, e3.M, by rw [hX]; exact h2.trans (e2.toL _), hX ▸ hj2, .inr ⟨t, v, rfl, rfl, hv'.turnN (k := 0) (fun b hb => ⟨e2.k b hb, e2.fr b (h3.good.kd b hb) (h3.good.kl b hb)⟩) (fun n hn => by omega) hsc0⟩, h8⟩
 rw [hw1] at hcall
 refine ⟨g.w.heap.size + 1, [{ target := .collected g.w.heap.size, args := #[] }], W1, { target := .fn (.func f) ds, args := #[.func (.yield (g.w.heap.size + 1)) #[] #[]] }, W1, f,
  #[.func (.yield (g.w.heap.size + 1)) #[] #[]] ++ ds, W1, ?_, ?_, fun _ _ => trivial, ?_, (fun h => by cases h), ?_⟩
 ·rw [← hW1, hX, hr]; exact run_enterLoop_outer _ _ _ _ _
 ·simp only [resolve, hc]
  simp [go_sem]
 ·simp [invoke, go_sem, he _ _]
 ·have e : (Value.func (.yield (g.w.heap.size + 1)) #[] #[] :: ds.toList).toArray = #[.func (.yield (g.w.heap.size + 1)) #[] #[]] ++ ds := by apply Array.ext'; simp
  rw [e] at hcall
  refine ((callsIn_wide (n := nn - 1)).2 (callsIn_wide.1 hcall)).mono ?_
  rintro e W2 ⟨gx, ph, L', rfl, e2, e1, e3, e4, hend, hQ⟩
  have hXl : X.l = g.w.heap.size + 1 := by rw [hX]
  have hrD : r.D = g.w.heap.size := by rw [hr]
  have hlrec := e4.lrec
  have hmark := e4.mark
  have hkl := e4.kl
  have hkD := e4.kD
  rw [hXl] at hlrec hkl
  rw [hrD] at hmark hkD
  have hle3 : LeL (g.w.heap.size + 1) L.length g1 gx := hXl ▸ e3
  have fin : ∀ g' : G, Good g' → g'.M = ofL L' → LeL (g.w.heap.size + 1) L.length gx g' → g'.w.heap[g.w.heap.size]? = some (.deferred (some [])) → ¬ g'.K g.w.heap.size →
    LeN n0 g g' ∧ StR g' N ⟨ts, L'⟩ { a with defers := [{ target := .collected g.w.heap.size, args := #[] }] ++ a.defers } ({ target := .collected g.w.heap.size, args := #[] } :: df) ∧ DfOk db g' ({ target := .collected g.w.heap.size, args := #[] } :: df) := fun g' u1 e1' u2 m1 m2 => by
   have hle : LeN L.length g g' := ((hle1.toL (g.w.heap.size + 1)).trans (hle3.trans u2)).toN (by omega)
   have hLe := hle.toLe hR.M (Nat.le_refl _)
   refine ⟨hLe.toN n0, ⟨u1, e1', hR.size, fun i => (hR.ts i).mono hR.good hLe, by simp [hR.df]⟩, ?_⟩
   have hd2 := hdf.stepN hR.good hle
   refine ⟨List.nodup_cons.2 ⟨fun hm => ?_, hd2.nd⟩, hd2.sz, fun d hd => ?_⟩
   ·obtain ⟨D, d1, _, d3, _⟩ := hdf.all _ hm
    injection d1 with d1
    injection d1 with d1
    subst d1
    have := (Array.getElem?_eq_some_iff.1 d3).1
    omega
   ·rcases List.mem_cons.1 hd with rfl | hd
    ·exact ⟨g.w.heap.size, rfl, hdf.sz, m1, m2⟩
    ·exact hd2.all d hd
  rcases hend with ⟨hp, v, rfl⟩ | ⟨t, v, rfl, rfl, hv'⟩
  ·obtain ⟨u1, u2, u3⟩ := put_good e2 (nl_loop e2 hlrec) hkl (.loop { X.lp r (pendS ph) (pendC ph) with state := .exhausted }) L.length
   have hrun := run_endLoop (P := P) hlrec (by cases ph <;> simp [pendS, JX.lp, isPan] at hp ⊢)
   obtain ⟨g', hg'⟩ : ∃ g' : G, g' = ⟨gx.M, gx.β, gx.K, gx.w.putObj (g.w.heap.size + 1) (.loop { X.lp r (pendS ph) (pendC ph) with state := .exhausted })⟩ := ⟨_, rfl⟩
   rw [← hg'] at u1 u2
   obtain ⟨hl0, hSt, hDf⟩ := fin g' u1 (by rw [hg']; exact e1) u2 (by rw [hg']; exact (World.putObj_heap_other (by omega)).trans hmark) (by rw [hg']; exact hkD)
   have hrun' : (Instr.endLoop (g.w.heap.size + 1)).run P gx.w = .ok (pendC ph) g'.w := by rw [hg', hrun]; rfl
   cases ph with
   | norm => exact ⟨none, g'.w, hrun', g', .norm, _, _, rfl, hl0, hSt, hDf, trivial, hQ⟩
   | ret => exact ⟨some .ret, g'.w, hrun', wpIn_ret ⟨g', .ret, _, _, rfl, hl0, hSt, hDf, trivial, hQ⟩⟩
   | exit i => exact ⟨some (.exit i), g'.w, hrun', wpIn_exit ⟨g', .exit i, _, _, rfl, hl0, hSt, hDf, rfl, hQ⟩⟩
   | pan t => cases hp
  ·obtain ⟨hl0, hSt, hDf⟩ := fin gx e2 e1 (.refl _ _ _) hmark hkD
   exact ⟨gx, .pan t, _, _, rfl, hl0, hSt, hDf, ⟨v, rfl, hv'⟩, hQ⟩
end
end Go.Proofs.Ytjnnkcnnandeeaa.Sh
namespace Go.Proofs.Ytjnnkcnnandeeaa.Sh
open Go
theorem SC.of_swm {P : Program} {f : FuncId} {fn : Func} {c : Code} {N : Nat} {args : List T} {L : List (Option Rw)} {R : SE → List (Option Rw) → Prop} (hf : P.funcs[f]? = some fn) (hb : fn.body = some c) (hN : fn.ntmps = N) (hl : Nat.ble args.length N = true)
  (h : SWM P L.length N c (Fin P fn L.length R) ⟨argS 0 args, L⟩) : SC P f args L R := fun g vs hg hM hv => by
 refine callsIn_wide.1 (callsIn_of_wp_marks (n := 0) hf hb trivial ?_ rfl)
 obtain ⟨s1, s2⟩ := arg_slots hv hl fn.ntmps hN
 have hR : StR g N ⟨argS 0 args, L⟩ { tmps := vs.toArray ++ Array.replicate (fn.ntmps - vs.toArray.size) undef, defers := [] } [] := ⟨hg, hM, s1, s2, rfl⟩
 refine wpIn_mono (h 0 g.w.heap.size g _ [] hR (DfOk.nil (Nat.le_refl _))) ?_
 rintro ex a' w' ⟨g', sx, st', df', rfl, hle, k2, k3, k4, k5⟩
 have later : ∀ w2, Shut g.w.heap.size g'.K g'.w w2 → StR ⟨g'.M, g'.β, g'.K, w2⟩ N st' a' df' ∧ LeN L.length g ⟨g'.M, g'.β, g'.K, w2⟩ := fun w2 hs => by
  obtain ⟨e1, e2⟩ := shut_good k2.good hs
  refine ⟨⟨e1, k2.M, k2.size, fun i => e2 _ _ (k2.ts i), k2.df⟩, ⟨hle.e, by show _ ≤ w2.heap.size; rw [hs.size]; exact hle.size, hs.os.trans hle.os, hs.tape.trans hle.tape, hs.output.trans hle.output, fun b hb hn => (hs.same b (.inl hb)).trans (hle.fr b hb hn), hle.k, hle.k', hle.nl⟩⟩
 have done : (sx = .ret ∨ sx = .norm) → LeavesInM Fence.wide 0 P fn a'.tmps (fun e w' => ∃ g' se L', g'.w = w' ∧ Good g' ∧ Le g g' ∧ g'.M = ofL L' ∧ SER g' se e ∧ R se L') a'.defers .returning g'.w := fun hs => by
  have h6 : ∃ ts κ t L', ResTs P st' fn.results.toList ts ∧ Vw L.length ⟨[(0, tupT ts)], st'.L⟩ ⟨[(0, t)], L'⟩ κ ∧ R (.ret t) L' := by rcases hs with rfl | rfl <;> exact k5
  obtain ⟨ts, κ, t, L', e1, e2, e4⟩ := h6
  rw [k2.df]
  refine leave (by intro h; cases h) 0 df' g'.w k3.nd (db := g.w.heap.size) (K := g'.K) k3.all fun w2 hs2 => ?_
  obtain ⟨q1, q2⟩ := later w2 hs2
  obtain ⟨cs, f4, f5⟩ := res_run q1 e1
  obtain ⟨g'', f1, f2, f3⟩ := e2.see (st_one q1.good q1.M (tupT_val f5))
  have f6 : results fn a'.tmps = (do let vs ← fn.results.mapM (resF a'.tmps); pure (if h : vs.size = 1 then vs[0] else .tuple vs)) := rfl
  refine ⟨if h : cs.toArray.size = 1 then cs.toArray[0] else .tuple cs.toArray, ?_, g'', .ret t, L', f1, f3.good, (q2.trans f2).toLe hM (Nat.le_refl _), f3.M, f3.ts 0, e4⟩
  have f7 : (fn.results.toList.mapM (resF a'.tmps)).run P w2 = .ok cs w2 := f4
  rw [f6, Array.mapM_eq_mapM_toList, Sem.run_bind, Sem.run_map, f7]
  rfl
 cases sx with
 | norm => cases ex <;> first | exact k4.elim | exact done (.inr rfl)
 | ret => cases ex <;> first | exact k4.elim | exact done (.inl rfl)
 | exit i => exact k5.elim
 | pan t =>
  cases ex <;> first | exact k4.elim | skip
  obtain ⟨v, rfl, hv'⟩ := k4
  obtain ⟨κ, st'', e1, e2, t', rfl, e3, e4⟩ := k5
  show LeavesInM Fence.wide 0 P fn a'.tmps _ a'.defers (.panicking _) g'.w
  rw [k2.df]
  refine leave (by intro h; cases h) 0 df' g'.w k3.nd (db := g.w.heap.size) (K := g'.K) k3.all fun w2 hs2 => ?_
  obtain ⟨q1, q2⟩ := later w2 hs2
  obtain ⟨v1, v2⟩ := view_good q1.good q1.M e1.nd e1.len e1.rows
  refine ⟨⟨ofL st''.L, fun n => g'.β (kap κ n), g'.K, w2⟩, .pan t', st''.L, rfl, v1, ?_, rfl, ⟨v, rfl, v2 _ _ e3 ((shut_good k2.good hs2).2 _ _ hv')⟩, e4⟩
  refine LeN.toLe (n0 := L.length) (q2.trans ⟨fun n hn hne => ?_, Nat.le_refl _, rfl, rfl, rfl, fun _ _ _ => rfl, fun _ h => h, fun _ _ h => .inl h, fun n r hn h0 _ hnl => ?_⟩) hM (Nat.le_refl _)
  ·rw [q1.M] at hne
   simp only [ofL, ne_eq, List.getElem?_eq_none_iff, Nat.not_le] at hne
   obtain ⟨d1, d2⟩ := e1.base n hn hne
   exact ⟨by simp only [ofL, ne_eq, List.getElem?_eq_none_iff, e1.len]; omega, by show g'.β (kap κ n) = _; rw [d2]⟩
  ·obtain ⟨o', d1, d2⟩ := rowsV_get e1.rows n (some r) hn
   rw [Nat.zero_add] at d1
   refine hnl (kap κ n) (r.ren (kap κ)) ?_ h0 rfl
   rw [q1.M]; unfold ofL; rw [d1, (d2 r rfl).1]
theorem SWJ.seen {P : Program} {X : JX} {N : Nat} {Q : SX → SX → St → Prop} {ph : SX} {c : Code} {st st' : St} (k : ∀ (g : G) (a : Act), StR g N st a [] → ∃ g', g'.w = g.w ∧ LeN X.n1 g g' ∧ StR g' N st' a []) (h : SWJ P X N c Q ph st') : SWJ P X N c Q ph st := fun F nn hF r g a hj hR => by
 obtain ⟨g', hw, hle, hR'⟩ := k g a hR
 have := h F nn hF r g' a (hj.step hR.good hle) hR'
 rw [hw] at this
 exact wpIn_mono this fun _ _ _ hq => hq.trans (hle.toL _)
theorem SWJ.own {P : Program} {X : JX} {N : Nat} {Q : SX → SX → St → Prop} {ph : SX} {c : Code} {ts ts' : List (Nat × T)} {L L' : List (Option Rw)} (s : Nat) (hs : Nat.beq s 0 = false) {m : Nat} {nr : List Nat} (hm : nums.drop L.length = m :: nr) (hts : OwnS m s ts ts') (hL : OwnR m s L L') (h : SWJ P X N c Q ph ⟨ts', L' ++ [some ⟨s, []⟩]⟩) : SWJ P X N c Q ph ⟨ts, L⟩ :=
 SWJ.seen (fun _ _ hR => own_see X.n1 s hs hm hts hL hR) h
theorem SWJ.fz {P : Program} {X : JX} {N : Nat} {Q : SX → SX → St → Prop} {ph : SX} {c : Code} {ts ts' : List (Nat × T)} {L L' : List (Option Rw)} {α : Type} {w : List α} {f : α → D} (n s : Nat) (hn0 : L[n]? = some (some ⟨s, w.map fun a => .d (f a)⟩)) (hts : FzS n s (w.map f) ts ts') (hL : FzR n s (w.map f) (L.set n none) L') (h : SWJ P X N c Q ph ⟨ts', L'⟩) : SWJ P X N c Q ph ⟨ts, L⟩ :=
 SWJ.seen (fun _ _ hR => fz_see X.n1 n s hn0 hts hL hR) h
theorem SWM.seen {P : Program} {n0 N : Nat} {Q : SX → St → Prop} {c : Code} {st st' : St} (k : ∀ (g : G) (a : Act) (df : List Deferred), StR g N st a df → ∃ g', g'.w = g.w ∧ LeN n0 g g' ∧ StR g' N st' a df) (h : SWM P n0 N c Q st') : SWM P n0 N c Q st := fun nn db g a df hR hd => by
 obtain ⟨g', hw, hle, hR'⟩ := k g a df hR
 have := h nn db g' a df hR' (hd.stepN hR.good hle)
 rw [hw] at this
 exact wpIn_mono this fun _ _ _ ⟨g2, sx, st', df', h1, h2, h3⟩ => ⟨g2, sx, st', df', h1, hle.trans h2, h3⟩
end Go.Proofs.Ytjnnkcnnandeeaa.Sh
namespace Go.Proofs.Ytjnnkcnnandeeaa.Sh
open Go
section
variable {P : Program} {n0 N : Nat} {df : List Deferred} {ops : Array Oper} {l : List Oper} {ts : List (Nat × T)} {L : List (Option Rw)} {tr : List Stp} {d : Nat} {ty : TypeId} {pos : String} {af : Array Edge} {gd : Option (Nat × Bool)} {Q : SX → St → Prop}
end
def SCX {α : Type} (P : Program) (f : FuncId) (as : List T) (L : List (Option Rw)) (x : Except Int α) (ty : TypeId) (t : α → T) (L1 : α → List (Option Rw)) : Prop :=
 SC P f as L fun se X => (∃ a, x = .ok a ∧ se = .ret (t a) ∧ X = L1 a) ∨ ∃ e, x = .error e ∧ se = .pan (.d (.v (.iface ty (.int .i64 e))))
theorem SCX.ok {α : Type} {P : Program} {f : FuncId} {as : List T} {L : List (Option Rw)} {x : Except Int α} {ty : TypeId} {t : α → T} {L1 : α → List (Option Rw)} (h : SCX P f as L x ty t L1) {a : α} (hn : x = .ok a) : SCR P f as L (t a) (L1 a) := SC.mono h fun se X hX => by
 rcases hX with ⟨b, h1, h2, h3⟩ | ⟨e, h1, _⟩
 ·rw [hn] at h1; injection h1 with h1; subst h1; exact ⟨h2, h3⟩
 ·rw [hn] at h1; cases h1
end Go.Proofs.Ytjnnkcnnandeeaa.Sh
namespace Go.Proofs.Ytjnnkcnnandeeaa.Sh
open Go
theorem o_sliceRow {P : Program} {o : Oper} {fresh : Nat} {t e : TypeId} {i ei : TI} {x y : Operand} {n s len : Nat} {k : IntKind} {p : Nat} (hop : o.op = .slice t x (some y) none none) (ht : TOk P t i) (hs : i.sl = some e) (he : TOk P e ei) (hz : ei.size = s) (h1 : p < len) :
  OpS P o [(x, .row n s 0 len), (y, .d (.v (.int k p)))] [] [] fresh [] (.row n s p (len - p)) :=
 .of_pure (fun c h => by rw [hop] at h; cases h) fun g a hg hi hr => by
  have hx := hi (x, .row n s 0 len) (by simp)
  have hy := (hi (y, .d (.v (.int k p))) (by simp)).v_eq
  dsimp only at hx hy
  generalize hv : a.eval x = v at hx
  cases hx with | row _ _ _ _ A hn hs0 hl ha =>
  have h0 : (g.β n).2 ≠ 0 := by omega
  have ha := ha h0
  subst ha
  subst hz
  have hne : ¬ (g.β n).2 = p := by omega
  have hr := run_sliceAt (P := P) ht hs he (A := some ⟨(g.β n).1, 0 * ei.size, none⟩) (cap := (g.β n).2 - 0) (len := len) (.inl ⟨rfl, rfl⟩) (.inr ⟨k, rfl⟩) (Nat.le_of_lt h1) (Nat.le_refl _) (by omega) g.w
  rw [Nat.sub_zero, if_neg hne] at hr
  refine ⟨.slice (some ⟨(g.β n).1, p * ei.size, none⟩) (len - p) ((g.β n).2 - p), ?_, .row n ei.size p (len - p) _ hn hs0 (by omega) fun _ => rfl⟩
  simp only [Nat.zero_mul] at hr
  simp [execOp, hop, hv, hy, hr, Addr.add]
  exact fun h => h.symm
theorem o_sliceRowE {P : Program} {o : Oper} {fresh : Nat} {t e : TypeId} {i ei : TI} {x y : Operand} {n s len : Nat} {k : IntKind} (hop : o.op = .slice t x (some y) none none) (ht : TOk P t i) (hs : i.sl = some e) (he : TOk P e ei) (hz : ei.size = s) :
  OpS P o [(x, .row n s 0 len), (y, .d (.v (.int k len)))] [] [] fresh [] (.d (.arr s [])) :=
 .of_pure (fun c h => by rw [hop] at h; cases h) fun g a hg hi hr => by
  have hx := hi (x, .row n s 0 len) (by simp)
  have hy := (hi (y, .d (.v (.int k len))) (by simp)).v_eq
  dsimp only at hx hy
  generalize hv : a.eval x = v at hx
  cases hx with | row _ _ _ _ A hn hs0 hl ha =>
  have hr := run_sliceAt (P := P) ht hs he (A := A) (cap := (g.β n).2 - 0) (len := len) (.inl ⟨rfl, rfl⟩) (.inr ⟨k, rfl⟩) (Nat.le_refl _) (Nat.le_refl _) (by omega) g.w
  rw [Nat.sub_self] at hr
  obtain ⟨B, hB⟩ : ∃ B, B = (if (g.β n).2 - 0 = len then A else A.map (·.add (len * ei.size))) := ⟨_, rfl⟩
  rw [← hB] at hr
  exact ⟨.slice B 0 ((g.β n).2 - 0 - len), by simp [execOp, hop, hv, hy] at hr ⊢; simp [hr], .d (.arr0 s _ _)⟩
section
variable {P : Program} {N : Nat} {ops : Array Oper} {l : List Oper} {ts : List (Nat × T)} {L : List (Option Rw)} {tr : List Stp} {d : Nat} {ty : TypeId} {pos : String} {af : Array Edge} {gd : Option (Nat × Bool)} {K : List Oper → List Stp → St → Prop}
theorem r_slRow {t e : TypeId} {i ei : TI} {x y : Operand} {n s len : Nat} {k : IntKind} {p : Nat} (tb : Tab P) (ht : tb.f t = some i) (hs : i.sl = some e) (he : tb.f e = some ei) (hx : opT ts x = .row n s 0 len) (hz : ei.size = s) (hy : opT ts y = .d (.v (.int k p))) (h1 : p < len) (hw : wantT ops ts ⟨some d, .slice t x (some y) none none, ty, pos, af, gd⟩ = some true) (hd : Nat.blt d N = true)
  (kk : EvK P N ops l ⟨(d, .row n s p (len - p)) :: ts, L⟩ (tr ++ [.run [] []]) K) : EvK P N ops (⟨some d, .slice t x (some y) none none, ty, pos, af, gd⟩ :: l) ⟨ts, L⟩ tr K :=
 ev_val (ins := [(x, .row n s 0 len), (y, .d (.v (.int k p)))]) rfl (o_sliceRow rfl (tb.ok _ _ ht) hs (tb.ok _ _ he) hz h1) hw (by simp [Op.operands, hx, hy]) (by simp) hd kk
theorem r_slRowE {t e : TypeId} {i ei : TI} {x y : Operand} {n s len : Nat} {k : IntKind} {p : Nat} (tb : Tab P) (ht : tb.f t = some i) (hs : i.sl = some e) (he : tb.f e = some ei) (hx : opT ts x = .row n s 0 len) (hz : ei.size = s) (hy : opT ts y = .d (.v (.int k p))) (h1 : len = p) (hw : wantT ops ts ⟨some d, .slice t x (some y) none none, ty, pos, af, gd⟩ = some true) (hd : Nat.blt d N = true)
  (kk : EvK P N ops l ⟨(d, .d (.arr s [])) :: ts, L⟩ (tr ++ [.run [] []]) K) : EvK P N ops (⟨some d, .slice t x (some y) none none, ty, pos, af, gd⟩ :: l) ⟨ts, L⟩ tr K := by
 subst h1
 exact ev_val (ins := [(x, .row n s 0 len), (y, .d (.v (.int k len)))]) rfl (o_sliceRowE rfl (tb.ok _ _ ht) hs (tb.ok _ _ he) hz) hw (by simp [Op.operands, hx, hy]) (by simp) hd kk
end
end Go.Proofs.Ytjnnkcnnandeeaa.Sh
namespace Go.Proofs.Ytjnnkcnnandeeaa.Sh
open Go
structure DfC (P : Program) (fd : FuncId) (tyE : TypeId) : Prop where
 idle : ∀ (b : Nat) (w : World), CallsDIn Fence.wide 0 P fd #[.pointer (some ⟨b, 0, none⟩)] .returning w fun e u' w' => e = .returned (.tuple #[]) ∧ u' = .returning ∧ w' = w
 caught : ∀ (b : Nat) (E : Int) (older : List PanicEntry) (w : World) (v : Value) (cells : Array Value) (e : TypeId) (fr : Nat × Nat), w.heap[b]? = some (.cells cells e fr) → w.frozen? ⟨b, 0, none⟩ = false → cells[0]? = some v →
  CallsDIn Fence.wide 0 P fd #[.pointer (some ⟨b, 0, none⟩)] (.panicking ({ v := .iface tyE (.int .i64 E), recovered := false } :: older)) w fun e u' w' => e = .returned (.tuple #[]) ∧ u' = .panicking ({ v := .iface tyE (.int .i64 E), recovered := true } :: older) ∧ w' = w.setCell ⟨b, 0, none⟩ (.int .i64 E)
section
variable {P : Program} {fn : Func} {n0 N : Nat} {R : SE → List (Option Rw) → Prop} {st : St}
end
end Go.Proofs.Ytjnnkcnnandeeaa.Sh
namespace Go.Proofs.Ytjnnkcnnandeeaa.Sh
open Go
section
variable {α β : Type} [BEq α] {P : Program} {kt : TypeId} {kv : α → Value}
variable {o : Oper} {fresh : Nat}
variable {o : Oper} {fresh : Nat}
end
section
variable {P : Program} {N : Nat} {ops : Array Oper} {l : List Oper} {ts : List (Nat × T)} {L : List (Option Rw)} {tr : List Stp} {K : List Oper → List Stp → St → Prop} {d : Nat} {ty : TypeId} {pos : String} {af : Array Edge} {gd : Option (Nat × Bool)}
end
def SCA {α : Type} (P : Program) (f : FuncId) (as : List T) (L : List (Option Rw)) (x : Except Int α) (t : T) (L1 : α → List (Option Rw)) (t2 : Int → T) (L2 : List (Option Rw)) : Prop :=
 SC P f as L fun se X => (∃ a, x = .ok a ∧ se = .ret t ∧ X = L1 a) ∨ ∃ e, x = .error e ∧ se = .ret (t2 e) ∧ X = L2
theorem SCA.ok {α : Type} {P : Program} {f : FuncId} {as : List T} {L : List (Option Rw)} {x : Except Int α} {t : T} {L1 : α → List (Option Rw)} {t2 : Int → T} {L2 : List (Option Rw)} (h : SCA P f as L x t L1 t2 L2) {a : α} (hn : x = .ok a) : SCR P f as L t (L1 a) := SC.mono h fun se X hX => by
 rcases hX with ⟨b, h1, h2, h3⟩ | ⟨e, h1, _⟩
 ·rw [hn] at h1; injection h1 with h1; subst h1; exact ⟨h2, h3⟩
 ·rw [hn] at h1; cases h1
end Go.Proofs.Ytjnnkcnnandeeaa.Sh
namespace Go.Proofs.Ytjnnkcnnandeeaa.Sh
open Go
section
variable {P : Program} {N : Nat} {ops : Array Oper} {l : List Oper} {ts : List (Nat × T)} {L : List (Option Rw)} {tr : List Stp} {K : List Oper → List Stp → St → Prop} {d : Nat} {ty : TypeId} {pos : String} {af : Array Edge} {gd : Option (Nat × Bool)}
theorem r_boolneq {t1 t2 : TypeId} {x y : Operand} {a b : Bool} (hu : P.underlying t1 = some .bool) (hx : opT ts x = .d (.v (.bool a))) (hy : opT ts y = .d (.v (.bool b))) (hw : wantT ops ts ⟨some d, .binOp .neq t1 x y t2, ty, pos, af, gd⟩ = some true) (hd : Nat.blt d N = true)
  (kk : EvK P N ops l ⟨(d, .d (.v (.bool (a != b)))) :: ts, L⟩ (tr ++ [.run [] []]) K) : EvK P N ops (⟨some d, .binOp .neq t1 x y t2, ty, pos, af, gd⟩ :: l) ⟨ts, L⟩ tr K :=
 ev_val (ins := [(x, .d (.v (.bool a))), (y, .d (.v (.bool b)))]) rfl (o_bin (p := .bool a) (q := .bool b) (z := .bool (a != b)) rfl rfl (fun w => by simp [go_sem, hu, eqGuard]; cases a <;> cases b <;> rfl)) hw (by simp [Op.operands, hx, hy]) (by simp) hd kk
theorem r_rem {t1 t2 : TypeId} {x y : Operand} {k : IntKind} {a b : Int} (hx : opT ts x = .d (.v (.int k a))) (hy : opT ts y = .d (.v (.int k b))) (hb : b ≠ 0) (hw : wantT ops ts ⟨some d, .binOp .rem t1 x y t2, ty, pos, af, gd⟩ = some true) (hd : Nat.blt d N = true)
  (kk : EvK P N ops l ⟨(d, .d (.v (.int k (a.tmod b)))) :: ts, L⟩ (tr ++ [.run [] []]) K) : EvK P N ops (⟨some d, .binOp .rem t1 x y t2, ty, pos, af, gd⟩ :: l) ⟨ts, L⟩ tr K :=
 ev_val (ins := [(x, .d (.v (.int k a))), (y, .d (.v (.int k b)))]) rfl (o_bin (p := .int k a) (q := .int k b) (z := .int k (a.tmod b)) rfl rfl (fun w => by simp [go_sem, Op.intDiv, hb])) hw (by simp [Op.operands, hx, hy]) (by simp) hd kk
end
end Go.Proofs.Ytjnnkcnnandeeaa.Sh
namespace Go.Proofs.Ytjnnkcnnandeeaa.Sh
open Go Go.ChangeShapes Go.WideShapes Go.ChangeAt Go.RowKit Go.Joins Go.Deep
def gW (w : World) : G := ⟨fun _ => none, fun _ => (0, 0), fun b => b < w.heap.size, w⟩
theorem gW_good (w : World) : Good (gW w) := ⟨fun _ _ h => (by cases h), fun _ _ _ _ h => (by cases h), fun _ h => h, fun _ _ _ _ h => (by cases h)⟩
theorem PC.below {P : Program} {f : FuncId} {ds : List D} {y : Value} {vs : List Value} {w : World} (h : PC P f ds (.v y)) (hl : ds.length = vs.length) (hv : ∀ (i : Nat) (d : D) (c : Value), ds[i]? = some d → vs[i]? = some c → VD (gW w) d c) :
  Calls P f vs.toArray w fun e w' => e = .returned y ∧ Below w.heap.size w w' := by
 refine (h (gW w) vs (gW_good w) (by funext n; simp [gW, ofL]) ⟨by simpa using hl, fun i t c ht hc => ?_⟩).mono ?_
 ·rw [List.getElem?_map] at ht
  obtain ⟨d, hd, rfl⟩ := Option.map_eq_some_iff.1 ht
  exact .d (hv i d c hd hc)
 ·rintro e w' ⟨g', se, L', rfl, hg, hle, hM, hse, rfl, rfl⟩
  refine ⟨?_, hle.os, hle.tape, hle.output, hle.size, fun k hk => hle.fr k hk fun _ _ h => (by cases h)⟩
  cases e with
  | returned v =>
   cases hse with | d h => cases h with | v => rfl
  | _ => cases hse
def CV (w : World) (cs : List Value) (d : D) : Prop := cs.length = d.cells.length ∧ ∀ (j : Nat) (e : D) (c : Value), d.cells[j]? = some e → cs[j]? = some c → VD (gW w) e c
section
variable {P : Program} {H : Type} {enc : TypeId × Value → H} {W : World}
theorem CV.one {cs : List Value} {d : D} {c : Value} (hc : cs = [c]) (hd : d.cells = [d]) (h : VD (gW W) d c) : CV W cs d := by
 subst hc
 refine ⟨by rw [hd]; rfl, fun j e c' he hc => ?_⟩
 rw [hd] at he
 cases j with
 | zero => cases he; cases hc; exact h
 | succ j => cases he
def CVs (W : World) : List D → List Value → Prop
 | [], [] => True
 | d :: ds, c :: cs => VD (gW W) d c ∧ CVs W ds cs
 | _, _ => False
theorem CVs.at : ∀ {ds : List D} {cs : List Value}, CVs W ds cs → cs.length = ds.length ∧ ∀ (j : Nat) (e : D) (c : Value), ds[j]? = some e → cs[j]? = some c → VD (gW W) e c
 | [], [], _ => ⟨rfl, fun j e c h => by cases h⟩
 | d :: ds, c :: cs, h => by
  obtain ⟨h1, h2⟩ := CVs.at h.2
  refine ⟨by simp [h1], fun j e c' hj hc => ?_⟩
  cases j with
  | zero => cases hj; cases hc; exact h.1
  | succ j => exact h2 j e c' hj hc
 | [], _ :: _, h => h.elim
 | _ :: _, [], h => h.elim
theorem CVs.cv {cs : List Value} {l : List D} (h : CVs W l cs) : CV W cs (.agg l) := h.at
theorem CV.agg {cs : Array Value} {l : List D} (h : CV W cs.toList (.agg l)) : VD (gW W) (.agg l) (.agg cs) :=
 .agg l cs (by have := h.1; simp [D.cells] at this; omega) fun i d c hd hc => h.2 i d c hd (by simpa using hc)
end
end Go.Proofs.Ytjnnkcnnandeeaa.Sh
namespace Go.Proofs.Ytjnnkcnnandeeaa.Sh
open Go
section
variable {P : Program} {o : Oper} {fresh : Nat}
theorem o_sliceRowHi {t e : TypeId} {i ei : TI} {x z : Operand} {n s len : Nat} {k : IntKind} {p : Nat} (hop : o.op = .slice t x none (some z) none) (ht : TOk P t i) (hs : i.sl = some e) (he : TOk P e ei) (hz : ei.size = s) (h1 : p ≤ len) :
  OpS P o [(x, .row n s 0 len), (z, .d (.v (.int k p)))] [] [] fresh [] (.row n s 0 p) :=
 .of_pure (fun c h => by rw [hop] at h; cases h) fun g a hg hi hr => by
  have hx := hi (x, .row n s 0 len) (by simp)
  have hz' := (hi (z, .d (.v (.int k p))) (by simp)).v_eq
  dsimp only at hx hz'
  generalize hv : a.eval x = v at hx
  cases hx with | row _ _ _ _ A hn hs0 hl ha =>
  subst hz
  have hr := run_sliceAt (P := P) ht hs he (A := A) (cap := (g.β n).2 - 0) (len := len) (.inr ⟨k, rfl⟩) (.inl ⟨rfl, rfl⟩) (Nat.zero_le p) h1 (by omega) g.w
  obtain ⟨B, hB⟩ : ∃ B, B = (if (g.β n).2 - 0 = 0 then A else A.map (·.add (0 * ei.size))) := ⟨_, rfl⟩
  rw [← hB, Nat.sub_zero, Nat.sub_zero] at hr
  refine ⟨.slice B p ((g.β n).2 - 0), by simp [execOp, hop, hv, hz'] at hr ⊢; simp [hr], .row n ei.size 0 p B hn hs0 (by omega) fun h0 => ?_⟩
  rw [hB, if_neg (by omega), ha h0]
  simp [Addr.add]
end
section
variable {P : Program} {N : Nat} {ops : Array Oper} {l : List Oper} {ts : List (Nat × T)} {L : List (Option Rw)} {tr : List Stp} {d : Nat} {ty : TypeId} {pos : String} {af : Array Edge} {gd : Option (Nat × Bool)} {K : List Oper → List Stp → St → Prop}
def natO (q : Int) (m : Nat) : Option Nat := if 0 ≤ q ∧ q ≤ m then some q.toNat else none
theorem natO_eq {q : Int} {m p : Nat} (h : natO q m = some p) : q = (p : Int) ∧ p ≤ m := by
 unfold natO at h
 split at h
 ·injection h with h; omega
 ·cases h
theorem r_slRowHi {t e : TypeId} {i ei : TI} {x y : Operand} {n s len : Nat} {k : IntKind} {q : Int} {p : Nat} (tb : Tab P) (ht : tb.f t = some i) (hs : i.sl = some e) (he : tb.f e = some ei) (hx : opT ts x = .row n s 0 len) (hz : ei.size = s) (hy : opT ts y = .d (.v (.int k q))) (hq : q = (p : Int)) (h1 : p ≤ len) (hw : wantT ops ts ⟨some d, .slice t x none (some y) none, ty, pos, af, gd⟩ = some true) (hd : Nat.blt d N = true)
  (kk : EvK P N ops l ⟨(d, .row n s 0 p) :: ts, L⟩ (tr ++ [.run [] []]) K) : EvK P N ops (⟨some d, .slice t x none (some y) none, ty, pos, af, gd⟩ :: l) ⟨ts, L⟩ tr K := by
 subst hq
 exact ev_val (ins := [(x, .row n s 0 len), (y, .d (.v (.int k p)))]) rfl (o_sliceRowHi rfl (tb.ok _ _ ht) hs (tb.ok _ _ he) hz h1) hw (by simp [Op.operands, hx, hy]) (by simp) hd kk
theorem r_slRowLo {t e : TypeId} {i ei : TI} {x y : Operand} {n s len : Nat} {k : IntKind} {q : Int} {p : Nat} (tb : Tab P) (ht : tb.f t = some i) (hs : i.sl = some e) (he : tb.f e = some ei) (hx : opT ts x = .row n s 0 len) (hz : ei.size = s) (hy : opT ts y = .d (.v (.int k q))) (hq : q = (p : Int)) (h1 : p < len) (hw : wantT ops ts ⟨some d, .slice t x (some y) none none, ty, pos, af, gd⟩ = some true) (hd : Nat.blt d N = true)
  (kk : EvK P N ops l ⟨(d, .row n s p (len - p)) :: ts, L⟩ (tr ++ [.run [] []]) K) : EvK P N ops (⟨some d, .slice t x (some y) none none, ty, pos, af, gd⟩ :: l) ⟨ts, L⟩ tr K := by
 subst hq
 exact r_slRow tb ht hs he hx hz hy h1 hw hd kk
theorem r_slRowLoE {t e : TypeId} {i ei : TI} {x y : Operand} {n s len : Nat} {k : IntKind} {q : Int} {p : Nat} (tb : Tab P) (ht : tb.f t = some i) (hs : i.sl = some e) (he : tb.f e = some ei) (hx : opT ts x = .row n s 0 len) (hz : ei.size = s) (hy : opT ts y = .d (.v (.int k q))) (hq : q = (p : Int)) (h1 : len = p) (hw : wantT ops ts ⟨some d, .slice t x (some y) none none, ty, pos, af, gd⟩ = some true) (hd : Nat.blt d N = true)
  (kk : EvK P N ops l ⟨(d, .d (.arr s [])) :: ts, L⟩ (tr ++ [.run [] []]) K) : EvK P N ops (⟨some d, .slice t x (some y) none none, ty, pos, af, gd⟩ :: l) ⟨ts, L⟩ tr K := by
 subst hq
 exact r_slRowE tb ht hs he hx hz hy h1 hw hd kk
end
end Go.Proofs.Ytjnnkcnnandeeaa.Sh
namespace Go.Proofs.Ytjnnkcnnandeeaa.Sh
open Go
def natM (z : Int) : Option Nat := if 0 ≤ z ∧ z ≤ 1000000000 then some z.toNat else none
theorem natM_eq {z : Int} {q : Nat} (h : natM z = some q) : z = (q : Int) ∧ q ≤ 1000000000 := by
 unfold natM at h
 split at h
 ·injection h with h; omega
 ·cases h
section
variable {P : Program} {N : Nat} {ops : Array Oper} {l : List Oper} {ts : List (Nat × T)} {L : List (Option Rw)} {tr : List Stp} {d : Nat} {ty : TypeId} {pos : String} {af : Array Edge} {gd : Option (Nat × Bool)} {K : List Oper → List Stp → St → Prop}
theorem r_makeQ {α : Type} {t e : TypeId} {i : TI} {a0 : Bool} {s b0 : Nat} {z0 : T} {sl0 : Option TypeId} {fs0 : List (Nat × Bool × Nat)} {ar0 : Option (Nat × TypeId)} {nf0 : Bool} {x y : Operand} {k k' : IntKind} {z : Int} {q : Nat} {n : Nat} {nr : List Nat} {v : α} {g : α → D} (tb : Tab P) (ht : tb.f t = some i) (hsl : i.sl = some e) (he : tb.f e = some ⟨a0, s, b0, z0, sl0, fs0, ar0, nf0⟩) (h0 : Nat.beq s 0 = false) (hv : z0 = .d (g v))
  (hx : opT ts x = .d (.v (.int k z))) (hy : opT ts y = .d (.v (.int k' z))) (hz : z = (q : Int)) (hq : q ≤ 1000000000) (hb : Nat.ble b0 65536 = true) (hn : nums.drop L.length = n :: nr) (hw : wantT ops ts ⟨some d, .makeSlice t x y, ty, pos, af, gd⟩ = some true) (hd : Nat.blt d N = true)
  (kk : EvK P N ops l ⟨(d, .row n s 0 (List.replicate q v).length) :: ts, L ++ [some ⟨s, (List.replicate q v).map fun a => .d (g a)⟩]⟩ (tr ++ [.run [n] [n]]) K) : EvK P N ops (⟨some d, .makeSlice t x y, ty, pos, af, gd⟩ :: l) ⟨ts, L⟩ tr K := by
 subst hz hv
 have hb' := Nat.le_of_ble_eq_true hb
 refine r_make tb ht hsl he h0 hx hy (by omega) (Nat.le_trans (Nat.mul_le_mul hb' hq) (by decide)) hn hw hd ?_
 rw [List.length_replicate, List.map_replicate] at kk
 exact kk
end
end Go.Proofs.Ytjnnkcnnandeeaa.Sh
namespace Go.Proofs.Ytjnnkcnnandeeaa.Sh
open Go
section
variable {P : Program} {n0 N : Nat} {Q : SX → St → Prop} {st : St}
theorem SWM.own {c : Code} {ts ts' : List (Nat × T)} {L L' : List (Option Rw)} (s : Nat) (hs : Nat.beq s 0 = false) {m : Nat} {nr : List Nat} (hm : nums.drop L.length = m :: nr) (hts : OwnS m s ts ts') (hL : OwnR m s L L') (h : SWM P n0 N c Q ⟨ts', L' ++ [some ⟨s, []⟩]⟩) : SWM P n0 N c Q ⟨ts, L⟩ :=
 SWM.seen (fun _ _ _ hR => own_see n0 s hs hm hts hL hR) h
theorem SWM.fz {c : Code} {ts ts' : List (Nat × T)} {L L' : List (Option Rw)} {α : Type} {w : List α} {f : α → D} (n s : Nat) (hn0 : L[n]? = some (some ⟨s, w.map fun a => .d (f a)⟩)) (hts : FzS n s (w.map f) ts ts') (hL : FzR n s (w.map f) (L.set n none) L') (h : SWM P n0 N c Q ⟨ts', L'⟩) : SWM P n0 N c Q ⟨ts, L⟩ :=
 SWM.seen (fun _ _ _ hR => fz_see n0 n s hn0 hts hL hR) h
end
end Go.Proofs.Ytjnnkcnnandeeaa.Sh
namespace Go.Proofs.Ytjnnkcnnandeeaa.Sh
open Go
section
variable {P : Program} {N : Nat} {ops : Array Oper} {l : List Oper} {ts : List (Nat × T)} {L : List (Option Rw)} {tr : List Stp} {K : List Oper → List Stp → St → Prop} {d : Nat} {ty : TypeId} {pos : String} {af : Array Edge} {gd : Option (Nat × Bool)}
end
structure DfK (P : Program) (fd : FuncId) (c2 : Code) (N2 m : Nat) (tyE : TypeId) : Prop where
 idle : ∀ (ds : Array Value) (w : World), ds.size = m → CallsDIn Fence.wide 0 P fd ds .returning w fun e u' w' => e = .returned (.tuple #[]) ∧ u' = .returning ∧ w' = w
 caught : ∀ (ds : Array Value) (v : Value) (older : List PanicEntry) (w : World) (R : World → Prop), ds.size = m → (∃ c, v = .iface tyE c) → (∀ a : Act, a.defers = [] → a.tmps.size = N2 → (∀ i, i < m → a.tmps.getD i undef = ds.getD i undef) → a.tmps.getD m undef = v → c2.wpIn Fence.wide 0 P (fun ex a' w' => ex = .normal ∧ a'.defers = [] ∧ R w') a w) →
  CallsDIn Fence.wide 0 P fd ds (.panicking ({ v, recovered := false } :: older)) w fun e u' w' => e = .returned (.tuple #[]) ∧ u' = .panicking ({ v, recovered := true } :: older) ∧ R w'
section
variable {P : Program} {fn : Func} {n0 N : Nat} {R : SE → List (Option Rw) → Prop} {st : St}
end
def SCB {α : Type} (P : Program) (f : FuncId) (as : List T) (L : List (Option Rw)) (x : Except Int α) (t : α → T) (L1 : α → List (Option Rw)) (t2 : Int → T) (L2 : List (Option Rw)) : Prop :=
 SC P f as L fun se X => (∃ a, x = .ok a ∧ se = .ret (t a) ∧ X = L1 a) ∨ ∃ e, x = .error e ∧ se = .ret (t2 e) ∧ X = L2
theorem SCB.ok {α : Type} {P : Program} {f : FuncId} {as : List T} {L : List (Option Rw)} {x : Except Int α} {t : α → T} {L1 : α → List (Option Rw)} {t2 : Int → T} {L2 : List (Option Rw)} (h : SCB P f as L x t L1 t2 L2) {a : α} (hn : x = .ok a) : SCR P f as L (t a) (L1 a) := SC.mono h fun se X hX => by
 rcases hX with ⟨b, h1, h2, h3⟩ | ⟨e, h1, _⟩
 ·rw [hn] at h1; injection h1 with h1; subst h1; exact ⟨h2, h3⟩
 ·rw [hn] at h1; cases h1
end Go.Proofs.Ytjnnkcnnandeeaa.Sh
namespace Go.Proofs.Ytjnnkcnnandeeaa.Sh
open Go
def lnO (a b : Nat) : Option Unit := if a = b then some () else none
theorem lnO_eq {a b : Nat} {u : Unit} (h : lnO a b = some u) : a = b := by
 unfold lnO at h
 split at h
 ·assumption
 ·cases h
section
variable {P : Program} {n0 N : Nat} {df : List Deferred} {Q : SX → St → Prop} {st : St} {x y : Code}
def Seen (n0 N : Nat) (st st' : St) : Prop := ∀ (g : G) (a : Act) (df : List Deferred), StR g N st a df → ∃ g', g'.w = g.w ∧ LeN n0 g g' ∧ StR g' N st' a df
theorem Seen.refl (n0 N : Nat) (st : St) : Seen n0 N st st := fun g _ _ h => ⟨g, rfl, .refl n0 g, h⟩
theorem Seen.trans {n0 N : Nat} {a b c : St} (h : Seen n0 N a b) (k : Seen n0 N b c) : Seen n0 N a c := fun g x df hR => by
 obtain ⟨g1, h1, h2, h3⟩ := h g x df hR
 obtain ⟨g2, k1, k2, k3⟩ := k g1 x df h3
 exact ⟨g2, k1.trans h1, h2.trans k2, k3⟩
theorem Seen.own {n0 N : Nat} {ts ts' : List (Nat × T)} {L L' : List (Option Rw)} {st' : St} (s : Nat) (hs : Nat.beq s 0 = false) {m : Nat} {nr : List Nat} (hm : nums.drop L.length = m :: nr) (hts : OwnS m s ts ts') (hL : OwnR m s L L') (k : Seen n0 N ⟨ts', L' ++ [some ⟨s, []⟩]⟩ st') : Seen n0 N ⟨ts, L⟩ st' :=
 Seen.trans (fun _ _ _ hR => own_see n0 s hs hm hts hL hR) k
theorem Seen.vw {n0 N : Nat} {st st' : St} {κ : List Nat} (h : Vw n0 st st' κ) : Seen n0 N st st' := fun _ _ _ hR => h.see hR
def prn (l : List Nat) (ts : List (Nat × T)) : List (Nat × T) := l.map fun i => (i, getS ts i)
theorem prn_get (l : List Nat) (ts : List (Nat × T)) (i : Nat) : getS (prn l ts) i = getS ts i ∨ getS (prn l ts) i = .bot := by
 induction l with
 | nil => exact .inr rfl
 | cons j l ih =>
  simp only [prn, List.map_cons, getS]
  cases hb : Nat.beq i j with
  | true => have := Nat.eq_of_beq_eq_true hb; subst this; exact .inl rfl
  | false => exact ih
theorem Seen.prn {n0 N : Nat} {st st' : St} (l : List Nat) (h : st' = ⟨Sh.prn l st.ts, st.L⟩) : Seen n0 N st st' := fun g a df hR => by
 subst h
 refine ⟨g, rfl, .refl n0 g, hR.good, hR.M, hR.size, fun i => ?_, hR.df⟩
 rcases prn_get l st.ts i with e | e
 ·dsimp only; rw [e]; exact hR.ts i
 ·dsimp only; rw [e]; exact .bot _
def jnQ {β : Type} (n0 N : Nat) (A : β → Prop) (S : β → St) : St → Prop := fun st => ∃ b, A b ∧ Seen n0 N st (S b)
theorem sw_join {β : Type} (A : β → Prop) (S : β → St) (hI : ∀ b, A b → SW P n0 N df y Q (S b)) (h : SW P n0 N df x (thenQ (fun st => jnQ n0 N A S st ∨ SW P n0 N df y Q st) Q) st) : SW P n0 N df x (thenQ (SW P n0 N df y Q) Q) st :=
 h.mono fun sx st h => by
  cases sx <;> first | exact h | skip
  rcases h with ⟨b, h1, h2⟩ | h
  ·exact SW.seen (fun _ _ hR => h2 _ _ _ hR) (hI b h1)
  ·exact h
theorem SWM.mono {Q' : SX → St → Prop} (h : SWM P n0 N x Q st) (k : ∀ sx st, Q sx st → Q' sx st) : SWM P n0 N x Q' st := fun nn db g a df hR hd =>
 wpIn_mono (h nn db g a df hR hd) fun _ _ _ ⟨g', sx, st', df', h1, h2, h3, h4, h5, h6⟩ => ⟨g', sx, st', df', h1, h2, h3, h4, h5, k _ _ h6⟩
theorem SWY.seen {st' : St} (hv : Seen n0 N st st') (h : SWY P n0 N x Q st') : SWY P n0 N x Q st := fun F nn hF g a hR => by
 obtain ⟨g1, hw, hl, hR1⟩ := hv _ _ _ hR
 have := h F nn hF g1 a hR1
 rw [hw] at this
 exact wpR_mono this fun _ _ _ ⟨g', sx, st', h1, h2, h3, h4, h5⟩ => ⟨g', sx, st', h1, hl.trans h2, h3, h4, h5⟩
theorem sw_loopS {c : Code} (I : Nat → St → Prop) {m : Nat} {st0 : St} (hv : Seen n0 N st st0) (h0 : I m st0)
  (h : ∀ m st, I m st → SW P n0 N df c (thenQ (fun st' => ∃ m' st'', m' < m ∧ Seen n0 N st' st'' ∧ I m' st'') Q) st) : SW P n0 N df (.loop c) Q st := by
 refine SW.seen (fun _ _ hR => hv _ _ _ hR) ?_
 intro F nn hF g a hR
 let Pm : Nat → Act → World → Prop := fun m a' w' => ∃ g' st', g'.w = w' ∧ LeN n0 g g' ∧ StR g' N st' a' df ∧ I m st'
 have hex : ∃ pick : Act → World → Nat, ∀ a' w', (∃ m, Pm m a' w') → Pm (pick a' w') a' w' ∧ ∀ k, Pm k a' w' → pick a' w' ≤ k := by
  have h1 : ∀ p : Act × World, ∃ m, (∃ m, Pm m p.1 p.2) → Pm m p.1 p.2 ∧ ∀ k, Pm k p.1 p.2 → m ≤ k := fun p => by
   by_cases h : ∃ m, Pm m p.1 p.2
   ·obtain ⟨m, hm⟩ := least h; exact ⟨m, fun _ => hm⟩
   ·exact ⟨0, fun h' => absurd h' h⟩
  exact ⟨fun a' w' => Classical.choose (h1 (a', w')), fun a' w' => Classical.choose_spec (h1 (a', w'))⟩
 obtain ⟨pick, hpick⟩ := hex
 refine wpIn_loop (fun a' w' => ∃ m, Pm m a' w') pick ⟨m, g, st0, rfl, .refl n0 g, hR, h0⟩ fun a' w' hI => ?_
 obtain ⟨⟨g1, st1, rfl, hl1, hR1, hI1⟩, _⟩ := hpick a' w' hI
 refine wpIn_mono (h _ st1 hI1 F nn hF g1 a' hR1) ?_
 rintro ex a2 w2 ⟨g2, sx, st2, rfl, k2, k3, k4, k5⟩
 cases sx with
 | norm =>
  cases ex <;> first | exact k4.elim | skip
  obtain ⟨m', st3, hlt, hv3, hI2⟩ := k5
  obtain ⟨g3, hw3, hl3, hR3⟩ := hv3 _ _ _ k3
  have hP : Pm m' a2 g2.w := ⟨g3, st3, hw3, (hl1.trans k2).trans hl3, hR3, hI2⟩
  have hex : ∃ m, Pm m a2 g2.w := ⟨m', hP⟩
  exact ⟨hex, Nat.lt_of_le_of_lt ((hpick a2 g2.w hex).2 m' hP) hlt⟩
 | ret => cases ex <;> first | exact k4.elim | exact ⟨g2, _, st2, rfl, hl1.trans k2, k3, k4, k5⟩
 | exit i => cases ex <;> first | exact k4.elim | exact ⟨g2, _, st2, rfl, hl1.trans k2, k3, k4, k5⟩
 | pan t => cases ex <;> first | exact k4.elim | exact ⟨g2, _, st2, rfl, hl1.trans k2, k3, k4, k5⟩
end
section
variable {P : Program} {X : JX} {N : Nat} {Q : SX → SX → St → Prop} {ph : SX} {st : St}
theorem swj_loopS {c : Code} (I : Nat → SX → St → Prop) {m : Nat} {st0 : St} (hv : Seen X.n1 N st st0) (h0 : I m ph st0)
  (h : ∀ m ph st, I m ph st → SWJ P X N c (thenJ (fun ph' st' => ∃ m' st'', m' < m ∧ Seen X.n1 N st' st'' ∧ I m' ph' st'') Q) ph st) : SWJ P X N (.loop c) Q ph st := by
 refine SWJ.seen (fun _ _ hR => hv _ _ _ hR) ?_
 intro F nn hF r g a hj hR
 let Pm : Nat → Act → World → Prop := fun m a' w' => ∃ g' ph' st', g'.w = w' ∧ LeL X.l X.n1 g g' ∧ JOk X r ph' g' ∧ StR g' N st' a' [] ∧ I m ph' st'
 have hex : ∃ pick : Act → World → Nat, ∀ a' w', (∃ m, Pm m a' w') → Pm (pick a' w') a' w' ∧ ∀ k, Pm k a' w' → pick a' w' ≤ k := by
  have h1 : ∀ p : Act × World, ∃ m, (∃ m, Pm m p.1 p.2) → Pm m p.1 p.2 ∧ ∀ k, Pm k p.1 p.2 → m ≤ k := fun p => by
   by_cases h : ∃ m, Pm m p.1 p.2
   ·obtain ⟨m, hm⟩ := least h; exact ⟨m, fun _ => hm⟩
   ·exact ⟨0, fun h' => absurd h' h⟩
  exact ⟨fun a' w' => Classical.choose (h1 (a', w')), fun a' w' => Classical.choose_spec (h1 (a', w'))⟩
 obtain ⟨pick, hpick⟩ := hex
 refine wpIn_loop (fun a' w' => ∃ m, Pm m a' w') pick ⟨m, g, ph, st0, rfl, .refl _ _ g, hj, hR, h0⟩ fun a' w' hI => ?_
 obtain ⟨⟨g1, ph1, st1, rfl, hl1, hj1, hR1, hI1⟩, _⟩ := hpick a' w' hI
 refine wpIn_mono (h _ ph1 st1 hI1 F nn hF r g1 a' hj1 hR1) ?_
 rintro ex a2 w2 ⟨g2, ph2, sx, st2, rfl, k3, e2, e1, e4, e5⟩
 cases sx with
 | norm =>
  cases ex <;> first | exact e4.elim | skip
  obtain ⟨m', st3, hlt, hv3, hI2⟩ := e5
  obtain ⟨g3, hw3, hl3, hR3⟩ := hv3 _ _ _ e2
  have hP : Pm m' a2 g2.w := ⟨g3, ph2, st3, hw3, (hl1.trans k3).trans (hl3.toL _), e1.step e2.good hl3, hR3, hI2⟩
  have hex : ∃ m, Pm m a2 g2.w := ⟨m', hP⟩
  exact ⟨hex, Nat.lt_of_le_of_lt ((hpick a2 g2.w hex).2 m' hP) hlt⟩
 | ret => cases ex <;> first | exact e4.elim | exact ⟨g2, ph2, _, st2, rfl, hl1.trans k3, e2, e1, e4, e5⟩
 | exit i => cases ex <;> first | exact e4.elim | exact ⟨g2, ph2, _, st2, rfl, hl1.trans k3, e2, e1, e4, e5⟩
 | pan t => cases ex <;> first | exact e4.elim | exact ⟨g2, ph2, _, st2, rfl, hl1.trans k3, e2, e1, e4, e5⟩
end
end Go.Proofs.Ytjnnkcnnandeeaa.Sh
namespace Go.Proofs.Ytjnnkcnnandeeaa.Sh
open Go
def iand (k : IntKind) (a b : Int) : Int := k.wrap (BitVec.ofInt k.bits a &&& BitVec.ofInt k.bits b).toNat
def ishr (k : IntKind) (a b : Int) : Int := a.fdiv (2 ^ (min b.toNat k.bits))
def copyL {α : Type} (w : List α) (lo len : Nat) (l : List α) : List α := w.take lo ++ l.take (min l.length len) ++ w.drop (lo + min l.length len)
section
variable {P : Program} {o : Oper} {fresh : Nat}
end
def appI {α : Type} (l m : List α) : Option (List α) := if l.length + m.length ≤ 17592186044416 then some (l ++ m) else none
theorem appI_le {α : Type} {l m q : List α} (h : appI l m = some q) : l.length + m.length ≤ 17592186044416 ∧ q = l ++ m := by
 unfold appI at h; split at h
 ·injection h with h; exact ⟨by assumption, h.symm⟩
 ·cases h
section
variable {P : Program} {N : Nat} {ops : Array Oper} {l : List Oper} {ts : List (Nat × T)} {L : List (Option Rw)} {tr : List Stp} {d : Nat} {ty : TypeId} {pos : String} {af : Array Edge} {gd : Option (Nat × Bool)} {K : List Oper → List Stp → St → Prop}
theorem r_apEI {α : Type} {t e : TypeId} {i ei : TI} {x y : Operand} {s n len : Nat} {w v q : List α} {g : α → D} (L' : List (Option Rw)) (tb : Tab P) (ht : tb.f t = some i) (hsl : i.sl = some e) (he : tb.f e = some ei) (hz : ei.size = s) (hx : opT ts x = .row n s 0 len) (hy : opT ts y = .d (.arr s (v.map g))) (hr : L[n]? = some (some ⟨s, w.map fun a => .d (g a)⟩)) (hlen : w.length = len)
  (h1 : ∀ a, allOne (T.d (g a)).cells = true) (hq : appI w v = some q) (hb : Nat.ble ei.bytes 8 = true) (hL : L.set n none = L') {nn : Nat} {nr : List Nat} (hnn : nums.drop L.length = nn :: nr)
  (hw : wantT ops ts ⟨some d, .call { callee := .builtin .append, args := #[x, y], argTypes := #[t, t] }, ty, pos, af, gd⟩ = some true) (hd : Nat.blt d N = true)
  (k : EvK P N ops l ⟨(d, .row nn s 0 q.length) :: ts, L' ++ [some ⟨s, q.map fun a => .d (g a)⟩]⟩ (tr ++ [.run [n, nn] [n, nn]]) K) : EvK P N ops (⟨some d, .call { callee := .builtin .append, args := #[x, y], argTypes := #[t, t] }, ty, pos, af, gd⟩ :: l) ⟨ts, L⟩ tr K := by
 obtain ⟨h2, rfl⟩ := appI_le hq
 have e0 := nums_eq hnn
 subst hlen hL hz e0
 have hb' := Nat.le_of_ble_eq_true hb
 have hnl : n < L.length := (List.getElem?_eq_some_iff.1 hr).1
 refine ev_cons (.run hw (o_append (fresh := L.length) (n := n) (s := ei.size) (len := w.length) (r := ⟨ei.size, w.map fun a => .d (g a)⟩) (u := .d (.arr ei.size (v.map g))) (rn := [(n, ⟨ei.size, w.map fun a => .d (g a)⟩)]) (l := v.map fun a => .d (g a)) rfl (tb.ok _ _ ht) hsl (tb.ok _ _ he) rfl (.inr (.inl ⟨v.map g, rfl, by rw [List.map_map]; rfl⟩)) (by simp) rfl (by simp) (ones_map h1) (by simp; omega) (Nat.le_trans (Nat.mul_le_mul (show w.length + (v.map fun a => T.d (g a)).length ≤ 17592186044416 by simpa using h2) hb') (by decide)) (by omega)) ?_ ?_ ?_ hd) ?_
 ·intro p hp
  simp only [List.mem_cons, List.not_mem_nil, or_false] at hp
  rcases hp with rfl | rfl
  ·exact ⟨hx, by simp [Op.operands, Call.operands]⟩
  ·exact ⟨hy, by simp [Op.operands, Call.operands]⟩
 ·intro p hp; simp only [List.mem_cons, List.not_mem_nil, or_false] at hp; subst hp; exact hr
 ·intro p hp; simp only [List.mem_cons, List.not_mem_nil, or_false] at hp; subst hp; exact ⟨_, List.mem_singleton.2 rfl, rfl⟩
 ·rw [List.length_append, List.map_append] at k
  simpa [St.eff, putS, setL] using k
theorem r_and {t1 t2 : TypeId} {x y : Operand} {k : IntKind} {a b : Int} (hx : opT ts x = .d (.v (.int k a))) (hy : opT ts y = .d (.v (.int k b))) (hw : wantT ops ts ⟨some d, .binOp .and t1 x y t2, ty, pos, af, gd⟩ = some true) (hd : Nat.blt d N = true)
  (kk : EvK P N ops l ⟨(d, .d (.v (.int k (iand k a b)))) :: ts, L⟩ (tr ++ [.run [] []]) K) : EvK P N ops (⟨some d, .binOp .and t1 x y t2, ty, pos, af, gd⟩ :: l) ⟨ts, L⟩ tr K :=
 ev_val (ins := [(x, .d (.v (.int k a))), (y, .d (.v (.int k b)))]) rfl (o_bin (p := .int k a) (q := .int k b) (z := .int k (iand k a b)) rfl rfl (fun w => by simp [go_sem, Op.intBits, iand])) hw (by simp [Op.operands, hx, hy]) (by simp) hd kk
theorem r_shr {t1 t2 : TypeId} {x y : Operand} {k k2 : IntKind} {a b : Int} (hx : opT ts x = .d (.v (.int k a))) (hy : opT ts y = .d (.v (.int k2 b))) (hb : ¬ b < 0) (hw : wantT ops ts ⟨some d, .binOp .shr t1 x y t2, ty, pos, af, gd⟩ = some true) (hd : Nat.blt d N = true)
  (kk : EvK P N ops l ⟨(d, .d (.v (.int k (ishr k a b)))) :: ts, L⟩ (tr ++ [.run [] []]) K) : EvK P N ops (⟨some d, .binOp .shr t1 x y t2, ty, pos, af, gd⟩ :: l) ⟨ts, L⟩ tr K :=
 ev_val (ins := [(x, .d (.v (.int k a))), (y, .d (.v (.int k2 b)))]) rfl (o_bin (p := .int k a) (q := .int k2 b) (z := .int k (ishr k a b)) rfl rfl (fun w => by simp [go_sem, Op.shift, hb, ishr])) hw (by simp [Op.operands, hx, hy]) (by simp) hd kk
end
end Go.Proofs.Ytjnnkcnnandeeaa.Sh
namespace Go.Proofs.Ytjnnkcnnandeeaa.Sh
open Go Go.ChangeShapes Go.WideShapes Go.ChangeAt Go.RowKit Go.Joins Go.Deep
section
variable {P : Program} {H : Type} {enc : TypeId × Value → H} {W : World}
end
end Go.Proofs.Ytjnnkcnnandeeaa.Sh
namespace Go.Proofs.Ytjnnkcnnandeeaa.Sh
open Go
section
variable {P : Program} {o : Oper} {fresh : Nat}
end
section
variable {P : Program} {N : Nat} {ops : Array Oper} {l : List Oper} {ts : List (Nat × T)} {L : List (Option Rw)} {tr : List Stp} {K : List Oper → List Stp → St → Prop} {d : Nat} {ty : TypeId} {pos : String} {af : Array Edge} {gd : Option (Nat × Bool)}
end
end Go.Proofs.Ytjnnkcnnandeeaa.Sh
namespace Go.Proofs.Ytjnnkcnnandeeaa.Sh
open Go
structure LeA (A : Nat → Prop) (n0 : Nat) (g g' : G) : Prop where
 e : ∀ n, n < n0 → g.M n ≠ none → g'.M n ≠ none ∧ g'.β n = g.β n
 size : g.w.heap.size ≤ g'.w.heap.size
 os : g'.w.os = g.w.os
 tape : g'.w.tape = g.w.tape
 output : g'.w.output = g.w.output
 fr : ∀ b, b < g.w.heap.size → NL g b → ¬ A b → g'.w.heap[b]? = g.w.heap[b]?
 k : ∀ b, g.K b → g'.K b
 k' : ∀ b, b < g.w.heap.size → g'.K b → g.K b ∨ ¬ NL g b
 nl : ∀ n r, g'.M n = some (some r) → (g'.β n).2 ≠ 0 → (g'.β n).1 < g.w.heap.size → ¬ NL g (g'.β n).1
section
variable {A B : Nat → Prop} {l n0 n1 : Nat} {g g' : G}
theorem LeN.toA (h : LeN n0 g g') (A : Nat → Prop) : LeA A n0 g g' := ⟨h.e, h.size, h.os, h.tape, h.output, fun b hb hn _ => h.fr b hb hn, h.k, h.k', h.nl⟩
theorem LeL.toA (h : LeL l n0 g g') : LeA (· = l) n0 g g' := ⟨h.e, h.size, h.os, h.tape, h.output, h.fr, h.k, h.k', h.nl⟩
theorem LeA.grow (h : LeA A n0 g g') (hA : ∀ b, A b → B b) : LeA B n0 g g' := ⟨h.e, h.size, h.os, h.tape, h.output, fun b hb hn ha => h.fr b hb hn fun hx => ha (hA b hx), h.k, h.k', h.nl⟩
theorem LeA.less (h : LeA A n0 g g') (hn : n1 ≤ n0) : LeA A n1 g g' := ⟨fun n hlt => h.e n (by omega), h.size, h.os, h.tape, h.output, h.fr, h.k, h.k', h.nl⟩
theorem LeA.refl (A : Nat → Prop) (n0 : Nat) (g : G) : LeA A n0 g g := (LeN.refl n0 g).toA A
theorem LeA.keepNL (h : LeA A n0 g g') {b : Nat} (hb : b < g.w.heap.size) (hn : NL g b) : NL g' b := fun n r hr h0 he => h.nl n r hr h0 (by rw [he]; exact hb) (he ▸ hn)
theorem LeA.trans {a b c : G} (h : LeA A n0 a b) (k : LeA A n0 b c) : LeA A n0 a c where
 e n hlt hn := by
  obtain ⟨h1, h2⟩ := h.e n hlt hn
  obtain ⟨k1, k2⟩ := k.e n hlt h1
  exact ⟨k1, k2.trans h2⟩
 size := Nat.le_trans h.size k.size
 os := k.os.trans h.os
 tape := k.tape.trans h.tape
 output := k.output.trans h.output
 fr x hx hn hl := (k.fr x (Nat.lt_of_lt_of_le hx h.size) (h.keepNL hx hn) hl).trans (h.fr x hx hn hl)
 k x hx := k.k x (h.k x hx)
 k' x hx hk := by
  rcases k.k' x (Nat.lt_of_lt_of_le hx h.size) hk with h1 | h1
  ·exact h.k' x hx h1
  ·exact .inr fun hn => h1 (h.keepNL hx hn)
 nl n r hr h0 hlt := by
  intro hn
  exact k.nl n r hr h0 (Nat.lt_of_lt_of_le hlt h.size) (h.keepNL hlt hn)
theorem LeA.drop (h : LeA B n0 g g') (hB : ∀ b, b < g.w.heap.size → B b → A b) : LeA A n0 g g' := ⟨h.e, h.size, h.os, h.tape, h.output, fun b hb hn ha => h.fr b hb hn fun hx => ha (hB b hb hx), h.k, h.k', h.nl⟩
theorem LeA.toN (h : LeA A n0 g g') (hA : ∀ b, b < g.w.heap.size → ¬ A b) : LeN n0 g g' := ⟨h.e, h.size, h.os, h.tape, h.output, fun b hb hn => h.fr b hb hn (hA b hb), h.k, h.k', h.nl⟩
theorem LeA.at (h : LeA A n0 g g') {b : Nat} (hb : b < g.w.heap.size) (hn : NL g b) (hk : ¬ g.K b) (ha : ¬ A b) : g'.w.heap[b]? = g.w.heap[b]? ∧ ¬ g'.K b :=
 ⟨h.fr b hb hn ha, fun hk' => by rcases h.k' b hb hk' with h1 | h1; exact hk h1; exact h1 hn⟩
end
structure Cx (Φ : Type) where
 A : Nat → Prop
 own : Nat → Prop
 n1 : Nat
 ok : Φ → G → Prop
 sub : ∀ b, A b → own b
 lt : ∀ ph g, ok ph g → ∀ b, own b → b < g.w.heap.size
 nk : ∀ ph g, ok ph g → ∀ b, own b → ¬ g.K b
 step : ∀ (S : Nat → Prop) ph g g', ok ph g → Good g → LeA S n1 g g' → (∀ b, S b → ¬ g.K b) → (∀ b, S b → ¬ own b) → ok ph g'
def Cx.zero (n : Nat) : Cx Unit := ⟨fun _ => False, fun _ => False, n, fun _ _ => True, fun _ h => h, fun _ _ _ _ h => h.elim, fun _ _ _ _ h => h.elim, fun _ _ _ _ _ _ _ _ _ => trivial⟩
def Cx.up {Φ : Type} (C : Cx Φ) (m : Nat) (h : C.n1 ≤ m) : Cx Φ := ⟨C.A, C.own, m, C.ok, C.sub, C.lt, C.nk, fun S ph g g' h1 h2 h3 => C.step S ph g g' h1 h2 (h3.less h)⟩
theorem Cx.stepN {Φ : Type} (C : Cx Φ) {ph : Φ} {g g' : G} (h : C.ok ph g) (hg : Good g) (hl : LeN C.n1 g g') : C.ok ph g' := C.step (fun _ => False) ph g g' h hg (hl.toA _) (fun _ h => h.elim) (fun _ h => h.elim)
def PostC {Φ : Type} (C : Cx Φ) (g : G) (N : Nat) (Q : Φ → SX → St → Prop) : Exit → Act → World → Prop := fun ex a' w' =>
 ∃ g' ph sx st, g'.w = w' ∧ LeA C.A C.n1 g g' ∧ StR g' N st a' [] ∧ C.ok ph g' ∧ XR g' sx ex ∧ Q ph sx st
theorem PostC.trans {Φ : Type} {C : Cx Φ} {g g1 : G} {N : Nat} {Q : Φ → SX → St → Prop} (hl : LeA C.A C.n1 g g1) {ex : Exit} {a : Act} {w : World} (h : PostC C g1 N Q ex a w) : PostC C g N Q ex a w := by
 obtain ⟨g', ph, sx, st, h1, h2, h3⟩ := h
 exact ⟨g', ph, sx, st, h1, hl.trans h2, h3⟩
def SWC {Φ : Type} (P : Program) (C : Cx Φ) (N : Nat) (c : Code) (Q : Φ → SX → St → Prop) (ph : Φ) (st : St) : Prop :=
 ∀ (F : Fence) (nn : Nat), Wd F → ∀ (g : G) (a : Act), C.ok ph g → StR g N st a [] → c.wpIn F nn P (PostC C g N Q) a g.w
section
variable {Φ : Type} {P : Program} {C : Cx Φ} {N : Nat} {Q : Φ → SX → St → Prop} {ph : Φ} {st : St}
theorem SWC.seen {c : Code} {st' : St} (k : ∀ (g : G) (a : Act), StR g N st a [] → ∃ g', g'.w = g.w ∧ LeN C.n1 g g' ∧ StR g' N st' a []) (h : SWC P C N c Q ph st') : SWC P C N c Q ph st := fun F nn hF g a hj hR => by
 obtain ⟨g', hw, hle, hR'⟩ := k g a hR
 have := h F nn hF g' a (C.stepN hj hR.good hle) hR'
 rw [hw] at this
 exact wpIn_mono this fun _ _ _ hq => hq.trans (hle.toA _)
theorem SWC.own {c : Code} {ts ts' : List (Nat × T)} {L L' : List (Option Rw)} (s : Nat) (hs : Nat.beq s 0 = false) {m : Nat} {nr : List Nat} (hm : nums.drop L.length = m :: nr) (hts : OwnS m s ts ts') (hL : OwnR m s L L') (h : SWC P C N c Q ph ⟨ts', L' ++ [some ⟨s, []⟩]⟩) : SWC P C N c Q ph ⟨ts, L⟩ :=
 SWC.seen (fun _ _ hR => own_see C.n1 s hs hm hts hL hR) h
theorem SWC.fz {c : Code} {ts ts' : List (Nat × T)} {L L' : List (Option Rw)} {α : Type} {w : List α} {f : α → D} (n s : Nat) (hn0 : L[n]? = some (some ⟨s, w.map fun a => .d (f a)⟩)) (hts : FzS n s (w.map f) ts ts') (hL : FzR n s (w.map f) (L.set n none) L') (h : SWC P C N c Q ph ⟨ts', L'⟩) : SWC P C N c Q ph ⟨ts, L⟩ :=
 SWC.seen (fun _ _ hR => fz_see C.n1 n s hn0 hts hL hR) h
end
end Go.Proofs.Ytjnnkcnnandeeaa.Sh
namespace Go.Proofs.Ytjnnkcnnandeeaa.Sh
open Go
section
variable {Φ : Type} {P : Program} {C : Cx Φ} {X : JX} {r : JR} {n N : Nat} {h1 : C.n1 ≤ n} {h2 : X.n1 ≤ n} {Q : SX × Φ → SX → St → Prop} {φ : Φ}
end
section
variable {Φ : Type} {P : Program} {C : Cx Φ} {N : Nat} {Q : Φ → SX → St → Prop} {ph : Φ} {st : St}
end
theorem NewsR.map {nn : Nat} {α : Type} {w : List α} {kf : α → Value} {vf : α → D} {l l' : List Rw} (q : NewsR nn l l') : NewsR nn (⟨0, w.map fun p => .agg [.d (.v (kf p)), .d (vf p)]⟩ :: l) (⟨0, w.map fun p => .agg [.d (.v (kf p)), .d (vf p)]⟩ :: l') := by
 refine .cons ?_ q
 have h := RnO.eq (σ := fun n => nn + n) (.map (w := w) (kf := kf) (vf := vf) .nil)
 simp only [List.map_cons, List.map_nil, Option.map_some, List.cons.injEq, Option.some.injEq, and_true] at h
 exact h
end Go.Proofs.Ytjnnkcnnandeeaa.Sh
namespace Go.Proofs.Ytjnnkcnnandeeaa.Sh
open Go
inductive SubR : List (Option Rw) → List (Option Rw) → Prop where
 | nil (l : List (Option Rw)) : SubR [] l
 | keep {x : Option Rw} {l l' : List (Option Rw)} (h : SubR l l') : SubR (x :: l) (x :: l')
 | drop {x : Option Rw} {l l' : List (Option Rw)} (h : SubR l l') : SubR (none :: l) (x :: l')
theorem SubR.get {l l' : List (Option Rw)} (h : SubR l l') : ∀ (n : Nat) (r : Rw), l[n]? = some (some r) → l'[n]? = some (some r) := by
 induction h with
 | nil => intro n r h; simp at h
 | keep _ ih => intro n r h; cases n with
  | zero => simpa using h
  | succ n => simpa using ih n r (by simpa using h)
 | drop _ ih => intro n r h; cases n with
  | zero => simp at h
  | succ n => simpa using ih n r (by simpa using h)
inductive CastD : D → D → Prop where
 | same (x : D) : CastD x x
 | nil (s : Nat) : CastD (.v (.slice none 0 0)) (.arr s [])
 | agg0 : CastD (.agg []) (.agg [])
 | aggc {x x' : D} {l l' : List D} (h : CastD x x') (q : CastD (.agg l) (.agg l')) : CastD (.agg (x :: l)) (.agg (x' :: l'))
theorem CastD.val {g : G} {d d' : D} (h : CastD d d') : ∀ c, VD g d c → VD g d' c := by
 induction h with
 | same => exact fun _ h => h
 | nil s =>
  intro c hv
  cases hv with | v x h => exact .arr0 s none 0
 | agg0 => exact fun _ h => h
 | aggc h q ih iq =>
  intro c hv
  cases hv with | agg l0 cs hl hc =>
  have hsz : cs.toList.length ≠ 0 := by intro e; simp at e; subst e; simp at hl
  obtain ⟨y, ys, hys⟩ : ∃ y ys, cs = (y :: ys).toArray := by
   obtain ⟨l2⟩ := cs
   cases l2 with
   | nil => simp at hsz
   | cons y ys => exact ⟨y, ys, rfl⟩
  subst hys
  have h2 := iq (.agg ys.toArray) (.agg _ _ (by simpa using hl) fun i d c h1 h2 => hc (i + 1) d c (by simpa using h1) (by simpa using h2))
  cases h2 with | agg l3 cs3 hl3 hc3 =>
  refine .agg _ _ (by simpa using hl3) fun i d c h1 h2 => ?_
  cases i with
  | zero =>
   simp only [List.getElem?_cons_zero, Option.some.injEq] at h1
   subst h1
   simp only [List.getElem?_toArray, List.getElem?_cons_zero, Option.some.injEq] at h2
   subst h2
   exact ih _ (hc 0 _ _ rfl rfl)
  | succ i => exact hc3 i d c (by simpa using h1) (by simpa using h2)
theorem CastD.valT {g : G} {d d' : D} (h : CastD d d') {c : Value} (hv : VT g (.d d) c) : VT g (.d d') c := by
 cases hv with | d hv => exact .d (h.val _ hv)
inductive CastDs : List D → List D → Prop where
 | nil : CastDs [] []
 | cons {x y : D} {l l' : List D} (h : CastD x y) (q : CastDs l l') : CastDs (x :: l) (y :: l')
theorem CastDs.get {l l' : List D} (h : CastDs l l') : l.length = l'.length ∧ ∀ (i : Nat) (y : D), l'[i]? = some y → ∃ x, l[i]? = some x ∧ CastD x y := by
 induction h with
 | nil => exact ⟨rfl, fun i y h => by simp at h⟩
 | cons h _ ih =>
  refine ⟨by simp [ih.1], fun i y hy => ?_⟩
  cases i with
  | zero => simp only [List.getElem?_cons_zero, Option.some.injEq] at hy; subst hy; exact ⟨_, rfl, h⟩
  | succ i => simpa using ih.2 i y (by simpa using hy)
section
variable {P : Program} {n0 N : Nat} {Q : SX → St → Prop} {st : St}
end
section
variable {P : Program} {N : Nat} {ops : Array Oper} {l : List Oper} {ts : List (Nat × T)} {L : List (Option Rw)} {tr : List Stp} {K : List Oper → List Stp → St → Prop} {d : Nat} {ty : TypeId} {pos : String} {af : Array Edge} {gd : Option (Nat × Bool)}
theorem OpS.castI {o : Oper} {ins ins' : List (Operand × T)} {rn : List (Nat × Rw)} {wn : List (Nat × Option Rw)} {fresh : Nat} {new : List Rw} {v : T} (h : OpS P o ins rn wn fresh new v) (hc : ∀ g (a : Act), (∀ p ∈ ins', VT g p.2 (a.eval p.1)) → ∀ p ∈ ins, VT g p.2 (a.eval p.1)) : OpS P o ins' rn wn fresh new v :=
 fun F nn hF g a hg hi hr hn next Q k => h F nn hF g a hg (hc g a hi) hr hn next Q k
theorem r_callC {x : Operand} {xs : Array Operand} {tys : Array TypeId} {f : FuncId} {us as : List D} {y : D} (hcast : CastDs us as) (hc : PC P f as y) (he : Ent P f) (hf : opT ts x = .d (.v (.func (.func f) #[] #[]))) (hx : xs.toList.map (opT ts) = us.map .d)
  (hw : wantT ops ts ⟨some d, .call { callee := .value x, args := xs, argTypes := tys }, ty, pos, af, gd⟩ = some true) (hd : Nat.blt d N = true) (k : EvK P N ops l ⟨(d, .d y) :: ts, L⟩ (tr ++ [.run [] []]) K) :
  EvK P N ops (⟨some d, .call { callee := .value x, args := xs, argTypes := tys }, ty, pos, af, gd⟩ :: l) ⟨ts, L⟩ tr K := by
 have hro : renL (kap []) (as.map .d) = as.map .d := by rw [renL_map]; simp [T.ren]
 obtain ⟨hl, hg⟩ := hcast.get
 have hlx : xs.toList.length = us.length := by have := congrArg List.length hx; simpa using this
 refine ev_val rfl ((o_call (P := P) (fresh := L.length) (ρ := []) (rs := []) (ls := []) (news := []) (fi := []) (ca := []) (as := as.map .d) (ts := as.map .d) rfl he (.inl ⟨rfl, rfl, rfl⟩) (by rw [List.length_map, ← hl, hlx]) hc ?_ ?_ (by simp) rfl rfl (by simp) (by simp)).castI (ins' := (x, .d (.v (.func (.func f) #[] #[]))) :: xs.toList.zip (us.map .d)) fun g a hi p hp => ?_) hw ?_ (by simp [rnOf]) hd (by simpa [rnOf, T.ren] using k)
 ·rw [hro]; simp
 ·rw [scL_all]; simp [T.sc]
 ·rcases List.mem_cons.1 hp with rfl | hp
  ·exact hi _ (by simp)
  ·obtain ⟨i, hi'⟩ := List.getElem?_of_mem hp
   rw [List.getElem?_zip_eq_some] at hi'
   obtain ⟨h1, h2⟩ := hi'
   rw [List.getElem?_map, Option.map_eq_some_iff] at h2
   obtain ⟨y', hy', e⟩ := h2
   obtain ⟨x', hx', hcd⟩ := hg i y' hy'
   rw [← e]
   refine hcd.valT (hi (p.1, .d x') (List.mem_cons_of_mem _ (List.mem_of_getElem? (i := i) ?_)))
   rw [List.getElem?_zip_eq_some]
   exact ⟨h1, by rw [List.getElem?_map, hx']; rfl⟩
 ·intro p hp
  rcases List.mem_cons.1 hp with rfl | hp
  ·exact ⟨hf, by simp [Op.operands, Call.operands]⟩
  ·obtain ⟨a, b⟩ := zip_ins hx p hp
   exact ⟨a, by simp only [Op.operands, Call.operands, Array.mem_append]; exact .inr (by simpa using b)⟩
end
end Go.Proofs.Ytjnnkcnnandeeaa.Sh
namespace Go.Proofs.Ytjnnkcnnandeeaa.Sh
open Go
section
variable {P : Program} {N : Nat} {ops : Array Oper} {l : List Oper} {ts : List (Nat × T)} {L : List (Option Rw)} {tr : List Stp} {K : List Oper → List Stp → St → Prop} {d : Nat} {ty : TypeId} {pos : String} {af : Array Edge} {gd : Option (Nat × Bool)}
theorem q_add {t1 t2 : TypeId} {x y : Operand} {k : IntKind} {a b : Int}  (hh : (opT ts x, opT ts y, wantT ops ts ⟨some d, .binOp .add t1 x y t2, ty, pos, af, gd⟩, Nat.blt d N) = (.d (.v (.int k a)), .d (.v (.int k b)), some true, true)) (kk : EvK P N ops l ⟨(d, .d (.v (.int k (k.wrap (a + b))))) :: ts, L⟩ (tr ++ [.run (List.map Prod.fst ([] : List (Nat × Rw))) []]) K) : EvK P N ops (⟨some d, .binOp .add t1 x y t2, ty, pos, af, gd⟩ :: l) ⟨ts, L⟩ tr K :=
 r_add (congrArg (fun p => p.1) hh) (congrArg (fun p => p.2.1) hh) (congrArg (fun p => p.2.2.1) hh) (congrArg (fun p => p.2.2.2) hh) kk
theorem q_asgD {x : Operand} {y : D}  (hh : (opT ts x, wantT ops ts ⟨some d, .assign x, ty, pos, af, gd⟩, Nat.blt d N) = (.d y, some true, true)) (kk : EvK P N ops l ⟨(d, .d y) :: ts, L⟩ (tr ++ [.run (List.map Prod.fst ([] : List (Nat × Rw))) []]) K) : EvK P N ops (⟨some d, .assign x, ty, pos, af, gd⟩ :: l) ⟨ts, L⟩ tr K :=
 r_asgD (congrArg (fun p => p.1) hh) (congrArg (fun p => p.2.1) hh) (congrArg (fun p => p.2.2) hh) kk
theorem q_box {t : TypeId} {x : Operand} {u : T} {s : Nat} {nr2 : List Nat} {n : Nat} {nr : List Nat}  (hh : (opT ts x, nums.drop u.cells.length, allOne u.cells, Nat.beq s 0, nums.drop L.length, wantT ops ts ⟨some d, .box t x, ty, pos, af, gd⟩, Nat.blt d N) = (u, s :: nr2, true, false, n :: nr, some true, true)) (kk : EvK P N ops l ⟨(d, .ref n s 0 0) :: ts, L ++ [some ⟨s, [u]⟩]⟩ (tr ++ [.run (List.map Prod.fst ([] : List (Nat × Rw)) ++ [n]) [n]]) K) : EvK P N ops (⟨some d, .box t x, ty, pos, af, gd⟩ :: l) ⟨ts, L⟩ tr K :=
 r_box (congrArg (fun p => p.1) hh) (congrArg (fun p => p.2.1) hh) (congrArg (fun p => p.2.2.1) hh) (congrArg (fun p => p.2.2.2.1) hh) (congrArg (fun p => p.2.2.2.2.1) hh) (congrArg (fun p => p.2.2.2.2.2.1) hh) (congrArg (fun p => p.2.2.2.2.2.2) hh) kk
theorem q_fa {t : TypeId} {i : TI} {x : Operand} {n s q c f m : Nat} {b : Bool} {c' : Nat} {o2 : Nat} {nr : List Nat} (tb : Tab P) (hh : (tb.f t, opT ts x, i.fs[f]?, Nat.beq m 0, nums.drop (c + c'), wantT ops ts ⟨some d, .fieldAddr t x f, ty, pos, af, gd⟩, Nat.blt d N) = (some i, .ref n s q c, some (c', b, m), false, o2 :: nr, some true, true)) (kk : EvK P N ops l ⟨(d, .ref n s q o2) :: ts, L⟩ (tr ++ [.run (List.map Prod.fst ([] : List (Nat × Rw))) []]) K) : EvK P N ops (⟨some d, .fieldAddr t x f, ty, pos, af, gd⟩ :: l) ⟨ts, L⟩ tr K :=
 r_fa tb (congrArg (fun p => p.1) hh) (congrArg (fun p => p.2.1) hh) (congrArg (fun p => p.2.2.1) hh) (congrArg (fun p => p.2.2.2.1) hh) (congrArg (fun p => p.2.2.2.2.1) hh) (congrArg (fun p => p.2.2.2.2.2.1) hh) (congrArg (fun p => p.2.2.2.2.2.2) hh) kk
theorem q_faE {t : TypeId} {i : TI} {x : Operand} {s q c f m : Nat} {w : List D} {b : Bool} {c' : Nat} {o2 : Nat} {nr : List Nat} (tb : Tab P) (hh : (tb.f t, opT ts x, i.fs[f]?, Nat.beq m 0, nums.drop (c + c'), wantT ops ts ⟨some d, .fieldAddr t x f, ty, pos, af, gd⟩, Nat.blt d N) = (some i, .d (.el s w q c), some (c', b, m), false, o2 :: nr, some true, true)) (kk : EvK P N ops l ⟨(d, .d (.el s w q o2)) :: ts, L⟩ (tr ++ [.run (List.map Prod.fst ([] : List (Nat × Rw))) []]) K) : EvK P N ops (⟨some d, .fieldAddr t x f, ty, pos, af, gd⟩ :: l) ⟨ts, L⟩ tr K :=
 r_faE tb (congrArg (fun p => p.1) hh) (congrArg (fun p => p.2.1) hh) (congrArg (fun p => p.2.2.1) hh) (congrArg (fun p => p.2.2.2.1) hh) (congrArg (fun p => p.2.2.2.2.1) hh) (congrArg (fun p => p.2.2.2.2.2.1) hh) (congrArg (fun p => p.2.2.2.2.2.2) hh) kk
theorem q_ixE {t e : TypeId} {i ei : TI} {x y : Operand} {s : Nat} {w : List D} {k : IntKind} {q : Int} (tb : Tab P) (h0 : 0 ≤ q) (h1 : q < w.length) (hh : (tb.f t, i.sl, tb.f e, opT ts x, ei.size, opT ts y, wantT ops ts ⟨some d, .indexAddr t x y, ty, pos, af, gd⟩, Nat.blt d N) = (some i, some e, some ei, .d (.arr s w), s, .d (.v (.int k q)), some true, true)) (kk : EvK P N ops l ⟨(d, .d (.el s w q.toNat 0)) :: ts, L⟩ (tr ++ [.run (List.map Prod.fst ([] : List (Nat × Rw))) []]) K) : EvK P N ops (⟨some d, .indexAddr t x y, ty, pos, af, gd⟩ :: l) ⟨ts, L⟩ tr K :=
 r_ixE tb (congrArg (fun p => p.1) hh) (congrArg (fun p => p.2.1) hh) (congrArg (fun p => p.2.2.1) hh) (congrArg (fun p => p.2.2.2.1) hh) (congrArg (fun p => p.2.2.2.2.1) hh) (congrArg (fun p => p.2.2.2.2.2.1) hh) h0 h1 (congrArg (fun p => p.2.2.2.2.2.2.1) hh) (congrArg (fun p => p.2.2.2.2.2.2.2) hh) kk
theorem q_ldD {t : TypeId} {i : TI} {x : Operand} {n s q c : Nat} {r : Rw} {e : T} {y : D} (tb : Tab P) (hh : (tb.f t, opT ts x, L[n]?, r.s, r.els[q]?, partOk i e.cells.length c, partOf i e.cells c, wantT ops ts ⟨some d, .load t x, ty, pos, af, gd⟩, Nat.blt d N) = (some i, .ref n s q c, some (some r), s, some e, true, .d y, some true, true)) (kk : EvK P N ops l ⟨(d, .d y) :: ts, L⟩ (tr ++ [.run (List.map Prod.fst ([(n, r)] : List (Nat × Rw))) []]) K) : EvK P N ops (⟨some d, .load t x, ty, pos, af, gd⟩ :: l) ⟨ts, L⟩ tr K :=
 r_ldD tb (congrArg (fun p => p.1) hh) (congrArg (fun p => p.2.1) hh) (congrArg (fun p => p.2.2.1) hh) (congrArg (fun p => p.2.2.2.1) hh) (congrArg (fun p => p.2.2.2.2.1) hh) (congrArg (fun p => p.2.2.2.2.2.1) hh) (congrArg (fun p => p.2.2.2.2.2.2.1) hh) (congrArg (fun p => p.2.2.2.2.2.2.2.1) hh) (congrArg (fun p => p.2.2.2.2.2.2.2.2) hh) kk
theorem q_ldE {t : TypeId} {i : TI} {x : Operand} {s q c : Nat} {w : List D} {e y : D} (tb : Tab P) (he : w[q]? = some e) (hh : (tb.f t, opT ts x, partOk i e.cells.length c, partOf i (e.cells.map .d) c, wantT ops ts ⟨some d, .load t x, ty, pos, af, gd⟩, Nat.blt d N) = (some i, .d (.el s w q c), true, .d y, some true, true)) (kk : EvK P N ops l ⟨(d, .d y) :: ts, L⟩ (tr ++ [.run (List.map Prod.fst ([] : List (Nat × Rw))) []]) K) : EvK P N ops (⟨some d, .load t x, ty, pos, af, gd⟩ :: l) ⟨ts, L⟩ tr K :=
 r_ldE tb (congrArg (fun p => p.1) hh) (congrArg (fun p => p.2.1) hh) he (congrArg (fun p => p.2.2.1) hh) (congrArg (fun p => p.2.2.2.1) hh) (congrArg (fun p => p.2.2.2.2.1) hh) (congrArg (fun p => p.2.2.2.2.2) hh) kk
theorem q_lenM {α : Type} {t e : TypeId} {i : TI} {x : Operand} {s : Nat} {w : List α} {g : α → D} (tb : Tab P) (hh : (tb.f t, i.sl, opT ts x, wantT ops ts ⟨some d, .call { callee := .builtin .len, args := #[x], argTypes := #[t] }, ty, pos, af, gd⟩, Nat.blt d N) = (some i, some e, .d (.arr s (w.map g)), some true, true)) (kk : EvK P N ops l ⟨(d, .d (.v (.int .i64 (w.length : Nat)))) :: ts, L⟩ (tr ++ [.run (List.map Prod.fst ([] : List (Nat × Rw))) []]) K) : EvK P N ops (⟨some d, .call { callee := .builtin .len, args := #[x], argTypes := #[t] }, ty, pos, af, gd⟩ :: l) ⟨ts, L⟩ tr K :=
 r_lenM tb (congrArg (fun p => p.1) hh) (congrArg (fun p => p.2.1) hh) (congrArg (fun p => p.2.2.1) hh) (congrArg (fun p => p.2.2.2.1) hh) (congrArg (fun p => p.2.2.2.2) hh) kk
theorem q_movD {x : Operand} {y : D}  (hh : (opT ts x, wantT ops ts ⟨some d, .move x, ty, pos, af, gd⟩, Nat.blt d N) = (.d y, some true, true)) (kk : EvK P N ops l ⟨(d, .d y) :: ts, L⟩ (tr ++ [.run (List.map Prod.fst ([] : List (Nat × Rw))) []]) K) : EvK P N ops (⟨some d, .move x, ty, pos, af, gd⟩ :: l) ⟨ts, L⟩ tr K :=
 r_movD (congrArg (fun p => p.1) hh) (congrArg (fun p => p.2.1) hh) (congrArg (fun p => p.2.2) hh) kk
theorem q_pickF {c x y : Operand} {t : D}  (hh : (opT ts c, opT ts y, wantT ops ts ⟨some d, .pick c x y, ty, pos, af, gd⟩, Nat.blt d N) = (.d (.v (.bool false)), .d t, some true, true)) (kk : EvK P N ops l ⟨(d, .d t) :: ts, L⟩ (tr ++ [.run (List.map Prod.fst ([] : List (Nat × Rw))) []]) K) : EvK P N ops (⟨some d, .pick c x y, ty, pos, af, gd⟩ :: l) ⟨ts, L⟩ tr K :=
 r_pickF (congrArg (fun p => p.1) hh) (congrArg (fun p => p.2.1) hh) (congrArg (fun p => p.2.2.1) hh) (congrArg (fun p => p.2.2.2) hh) kk
theorem q_pickT {c x y : Operand} {t : D}  (hh : (opT ts c, opT ts x, wantT ops ts ⟨some d, .pick c x y, ty, pos, af, gd⟩, Nat.blt d N) = (.d (.v (.bool true)), .d t, some true, true)) (kk : EvK P N ops l ⟨(d, .d t) :: ts, L⟩ (tr ++ [.run (List.map Prod.fst ([] : List (Nat × Rw))) []]) K) : EvK P N ops (⟨some d, .pick c x y, ty, pos, af, gd⟩ :: l) ⟨ts, L⟩ tr K :=
 r_pickT (congrArg (fun p => p.1) hh) (congrArg (fun p => p.2.1) hh) (congrArg (fun p => p.2.2.1) hh) (congrArg (fun p => p.2.2.2) hh) kk
theorem q_stE {t : TypeId} {i : TI} {x y : Operand} {n s q c : Nat} {r : Rw} {e u : T} (r' : Rw) (L' : List (Option Rw)) (tb : Tab P) (hh : (tb.f t, opT ts x, opT ts y, L[n]?, r.s, r.els[q]?, u.cells.length, allOne u.cells, Nat.ble (c + i.size) e.cells.length, (⟨r.s, r.els.set q (setEl e c u)⟩ : Rw), L.set n (some r'), wantT ops ts ⟨none, .store t x y, ty, pos, af, gd⟩) = (some i, .ref n s q c, u, some (some r), s, some e, i.size, true, true, r', L', some true)) (k : EvK P N ops l ⟨ts, L'⟩ (tr ++ [.run [n] [n]]) K) : EvK P N ops (⟨none, .store t x y, ty, pos, af, gd⟩ :: l) ⟨ts, L⟩ tr K :=
 r_stE r' L' tb (congrArg (fun p => p.1) hh) (congrArg (fun p => p.2.1) hh) (congrArg (fun p => p.2.2.1) hh) (congrArg (fun p => p.2.2.2.1) hh) (congrArg (fun p => p.2.2.2.2.1) hh) (congrArg (fun p => p.2.2.2.2.2.1) hh) (congrArg (fun p => p.2.2.2.2.2.2.1) hh) (congrArg (fun p => p.2.2.2.2.2.2.2.1) hh) (congrArg (fun p => p.2.2.2.2.2.2.2.2.1) hh) (congrArg (fun p => p.2.2.2.2.2.2.2.2.2.1) hh) (congrArg (fun p => p.2.2.2.2.2.2.2.2.2.2.1) hh) (congrArg (fun p => p.2.2.2.2.2.2.2.2.2.2.2) hh) k
def skN (ops : Array Oper) (N : Nat) : Nat → List Oper → List (Nat × T) → Option (List Oper × List (Nat × T))
 | 0, l, ts => some (l, ts)
 | _ + 1, [], _ => none
 | n + 1, o :: l, ts => match wantT ops ts o, o.dst with
   | some false, some d => bif Nat.blt d N then skN ops N n l ((d, .d (.tup [])) :: ts) else none
   | _, _ => none
def skT : Nat → List Stp → List Stp
 | 0, tr => tr
 | n + 1, tr => skT n (tr ++ [.skip])
theorem q_sk : ∀ (n : Nat) {l l' : List Oper} {ts ts' : List (Nat × T)} {tr : List Stp} (_ : skN ops N n l ts = some (l', ts')) (_ : EvK P N ops l' ⟨ts', L⟩ (skT n tr) K), EvK P N ops l ⟨ts, L⟩ tr K
 | 0, l, l', ts, ts', tr, h, k => by cases h; exact k
 | n + 1, [], l', ts, ts', tr, h, k => by cases h
 | n + 1, o :: l, l', ts, ts', tr, h, k => by
  rw [skN] at h
  split at h
  ·rename_i d hw ho
   cases hb : Nat.blt d N with
   | false => rw [hb] at h; cases h
   | true => rw [hb] at h; exact r_skip hw ho hb (q_sk n h k)
  ·cases h
theorem tsK_of {κ : List Nat} : ∀ {ts' : List (Nat × T)}, (ts'.map fun p => getS ts p.1) = (ts'.map fun p => p.2.ren (kap κ)) → (ts'.all fun p => p.2.sc κ.length) = true → TsK ts κ ts'
 | [], _, _ => .nil
 | (i, t) :: r, h, c => by
  rw [List.map_cons, List.map_cons] at h
  rw [List.all_cons, Bool.and_eq_true] at c
  exact .cons (List.cons.inj h).1 c.1 (tsK_of (List.cons.inj h).2 c.2)
theorem vK {n0 : Nat} {ts ts' : List (Nat × T)} {L L' : List (Option Rw)} {κ : List Nat} (hr : RwK L κ L' κ) (hh : (ndK κ, baseK n0 κ, (ts'.map fun p => getS ts p.1), ts'.all fun p => p.2.sc κ.length) = (true, true, (ts'.map fun p => p.2.ren (kap κ)), true)) : Vw n0 ⟨ts, L⟩ ⟨ts', L'⟩ κ :=
 vwK (congrArg (fun p => p.1) hh) (congrArg (fun p => p.2.1) hh) hr (tsK_of (congrArg (fun p => p.2.2.1) hh) (congrArg (fun p => p.2.2.2) hh))
theorem v0 {n0 : Nat} {ts ts' : List (Nat × T)} {L : List (Option Rw)} (hh : (ndK [], baseK n0 [], (ts'.map fun p => getS ts p.1), ts'.all fun p => p.2.sc 0) = (true, true, (ts'.map fun p => p.2.ren (kap [])), true)) : Vw n0 ⟨ts, L⟩ ⟨ts', []⟩ [] := vK .nil hh
theorem f1 {P : Program} {fn : Func} {n0 : Nat} {st : St} {y : T} (k : Nat) (hh : (Nat.beq n0 0, fn.results.toList, y.sc 0, getS st.ts k) = (true, [.tmp k], true, y.ren (kap []))) : Fin P fn n0 (fun se L' => se = .ret y ∧ L' = []) .ret st := by
 have h0 : Nat.beq n0 0 = true := congrArg (fun p => p.1) hh
 obtain rfl := Nat.eq_of_beq_eq_true h0
 exact fin_S (t := y) (L := []) (κ := []) (congrArg (fun p => p.2.1) hh) (.cons (.tmp k) .nil) (vwK rfl rfl .nil (.cons (congrArg (fun p => p.2.2.2) hh) (congrArg (fun p => p.2.2.1) hh) .nil)) ⟨rfl, rfl⟩
theorem f2 {P : Program} {fn : Func} {n0 : Nat} {st : St} {y : T} {Lf : List (Option Rw)} {rs : List ResultVar} {us : List T} (κ : List Nat) (hr : RwK st.L κ Lf κ) (hs : fn.results.toList = rs) (h : ResTs P st rs us) (hh : (ndK κ, baseK n0 κ, tupT us, y.sc κ.length) = (true, true, y.ren (kap κ), true)) : Fin P fn n0 (fun se L' => se = .ret y ∧ L' = Lf) .ret st :=
 fin_S (t := y) (L := Lf) (κ := κ) hs h (vwK (congrArg (fun p => p.1) hh) (congrArg (fun p => p.2.1) hh) hr (.cons (congrArg (fun p => p.2.2.1) hh) (congrArg (fun p => p.2.2.2) hh) .nil)) ⟨rfl, rfl⟩
theorem rc {P : Program} {st : St} {a : Nat} {t : TypeId} {i : TI} {n s k c : Nat} {r : Rw} {e : T} (tb : Tab P) (hh : (tb.f t, getS st.ts a, st.L[n]?, r.s, r.els[k]?, partOk i e.cells.length c) = (some i, .ref n s k c, some (some r), s, some e, true)) : ResT P st (.cell a t) (partOf i e.cells c) :=
 rcell tb (congrArg (fun p => p.1) hh) (congrArg (fun p => p.2.1) hh) (congrArg (fun p => p.2.2.1) hh) (congrArg (fun p => p.2.2.2.1) hh) (congrArg (fun p => p.2.2.2.2.1) hh) (congrArg (fun p => p.2.2.2.2.2) hh) rfl
end
end Go.Proofs.Ytjnnkcnnandeeaa.Sh
namespace Go.Proofs.Ytjnnkcnnandeeaa.Sh
open Go
section
variable {P : Program} {N : Nat} {ops : Array Oper} {l : List Oper} {ts : List (Nat × T)} {L : List (Option Rw)} {tr : List Stp} {d : Nat} {ty : TypeId} {pos : String} {af : Array Edge} {gd : Option (Nat × Bool)} {K : List Oper → List Stp → St → Prop}
end
end Go.Proofs.Ytjnnkcnnandeeaa.Sh
namespace Go.Proofs.Ytjnnkcnnandeeaa.Sh
open Go
def strL (ns : List Int) : ByteArray := ns.foldl (fun r n => r.push (UInt8.ofNat n.toNat)) ByteArray.empty
theorem flat_bytes : ∀ ns : List Int, flat (ns.map fun n => T.d (v8 n)) = ns.map fun n => T.d (v8 n)
 | [] => rfl
 | m :: l => by show T.cells (T.d (v8 m)) ++ flat (l.map fun n => T.d (v8 n)) = _; rw [flat_bytes l]; rfl
theorem vts_bytes {g : G} {ns : List Int} {vs : List Value} (h : VTs g (flat (ns.map fun n => T.d (v8 n))) vs) : vs = ns.map (Value.int .u8) := by
 rw [flat_bytes] at h
 obtain ⟨hl, hv⟩ := h
 rw [List.length_map] at hl
 apply List.ext_getElem?
 intro i
 by_cases hi : i < ns.length
 ·have h2 := hv i (.d (v8 ns[i])) vs[i] (by simp [hi]) (List.getElem?_eq_getElem (by omega))
  rw [List.getElem?_eq_getElem (by omega), h2.v_eq, List.getElem?_map, List.getElem?_eq_getElem hi]
  rfl
 ·rw [List.getElem?_eq_none (by omega), List.getElem?_eq_none (by simp; omega)]
theorem o_str {P : Program} {o : Oper} {fresh : Nat} {src dst e : TypeId} {x : Operand} {u : T} {ns : List Int} {rn : List (Nat × Rw)} (hop : o.op = .convert src dst x) (hs : P.underlying src = some (.slice e)) (he : P.underlying e = some (.int .u8)) (hd : P.underlying dst = some .string) (hu : srcIs u (ns.map fun n => .d (v8 n)) 1 rn) (h0 : 0 < ns.length) :
  OpS P o [(x, u)] rn [] fresh [] (.d (.v (.string (strL ns)))) :=
 .of_pure (fun c h => by rw [hop] at h; cases h) fun g a hg hi hr => by
  obtain ⟨A, cap, vs, e1, hc1, hv, had⟩ := src_spec hg (hi (x, u) (by simp)) hu hr
  rw [List.length_map] at e1 had
  obtain ⟨ad, rfl, hcell⟩ := had h0
  have e2 := vts_bytes hv
  have hrun := run_bytesToString (P := P) g.w ad ns.length cap ns (by
   have := run_loadCells_list (P := P) g.w ad (ns.map (Value.int .u8)) (fun j v hj => hcell j v (by rw [e2]; exact hj))
   rwa [List.length_map] at this)
  refine ⟨.string (strL ns), ?_, .d (.v _ rfl)⟩
  simp only [execOp, hop, e1, Sem.run_bind, run_convert_bytes_string (P := P) g.w src dst e (some ad) ns.length cap hs he hd, hrun]
  rfl
section
variable {P : Program} {N : Nat} {ops : Array Oper} {l : List Oper} {ts : List (Nat × T)} {L : List (Option Rw)} {tr : List Stp} {d : Nat} {ty : TypeId} {pos : String} {af : Array Edge} {gd : Option (Nat × Bool)} {K : List Oper → List Stp → St → Prop}
theorem r_str {src dst e : TypeId} {x : Operand} {n len : Nat} {ns : List Int} (hs : P.underlying src = some (.slice e)) (he : P.underlying e = some (.int .u8)) (hd' : P.underlying dst = some .string) (hx : opT ts x = .row n 1 0 len) (hr : L[n]? = some (some ⟨1, ns.map fun a => .d (v8 a)⟩)) (hl : ns.length = len) (h0 : Nat.blt 0 ns.length = true) (hw : wantT ops ts ⟨some d, .convert src dst x, ty, pos, af, gd⟩ = some true) (hd : Nat.blt d N = true)
  (kk : EvK P N ops l ⟨(d, .d (.v (.string (strL ns)))) :: ts, L⟩ (tr ++ [.run [n] []]) K) : EvK P N ops (⟨some d, .convert src dst x, ty, pos, af, gd⟩ :: l) ⟨ts, L⟩ tr K := by
 subst hl
 refine ev_cons (.run hw (o_str (fresh := L.length) (u := .row n 1 0 ns.length) (ns := ns) (rn := [(n, ⟨1, ns.map fun a => .d (v8 a)⟩)]) rfl hs he hd' (.inr (.inr ⟨n, 0, ns.length, ⟨1, ns.map fun a => .d (v8 a)⟩, rfl, by simp, rfl, by simp, by rw [List.drop_zero, List.take_of_length_le (by simp)]⟩)) (Nat.le_of_ble_eq_true h0)) ?_ ?_ ?_ hd) ?_
 ·intro p hp
  simp only [List.mem_cons, List.not_mem_nil, or_false] at hp
  subst hp
  exact ⟨hx, by simp [Op.operands]⟩
 ·intro p hp; simp only [List.mem_cons, List.not_mem_nil, or_false] at hp; subst hp; exact hr
 ·intro p hp; simp at hp
 ·simpa [St.eff, putS, setL] using kk
end
end Go.Proofs.Ytjnnkcnnandeeaa.Sh
namespace Go.Proofs.Ytjnnkcnnandeeaa.Sh
open Go
theorem o_buildSliceD {P : Program} {o : Oper} {fresh : Nat} {t e : TypeId} {i ei : TI} {len : Nat} {parts : Array (Nat × Operand)} {es : List D} (hop : o.op = .buildSlice t len parts) (ht : TOk P t i) (hsl : i.sl = some e) (he : TOk P e ei) (hl : parts.toList.length = es.length) (hlen : es.length = len)
  (hsq : seqParts 0 parts.toList = true) (hs : sizesOk ei.size (es.map .d) = true) (h1 : onesOk (es.map .d) = true) (hb : len * ei.size ≤ 16777216) (hs0 : Nat.beq ei.size 0 = false) : OpS P o ((parts.toList.map (·.2)).zip (es.map .d)) [] [] fresh [] (.d (.arr ei.size es)) :=
 .of_run (fun c h => by rw [hop] at h; cases h) fun g a hg hi hr hn => by
  obtain ⟨info, zv, hinf, hz, hsz, _, hzs, _⟩ := he.info
  obtain ⟨ts, hts⟩ : ∃ ts : List T, ts = es.map .d := ⟨_, rfl⟩
  rw [← hts] at hi hs h1
  replace hl : parts.toList.length = ts.length := by rw [hts, List.length_map]; exact hl
  replace hlen : ts.length = len := by rw [hts, List.length_map]; exact hlen
  have hvt := VTs.of_ins (g := g) (a := a) (xs := parts.toList.map (·.2)) (ts := ts) (by simpa using hl) (fun p hp => hi p hp)
  have hsm := sizes_mem hs
  have hseq : ∀ (ps : List (Nat × Operand)) (k : Nat), seqParts k ps = true → ∀ (j : Nat) (p : Nat × Operand), ps[j]? = some p → p.1 = k + j := by
   intro ps
   induction ps with
   | nil => intro k _ j p hp; simp at hp
   | cons q ps ih =>
    intro k hk j p hp
    obtain ⟨qi, qx⟩ := q
    simp only [seqParts, Bool.and_eq_true] at hk
    cases j with
    | zero => simp at hp; subst hp; exact Nat.eq_of_beq_eq_true hk.1
    | succ j => rw [ih (k + 1) hk.2 j p (by simpa using hp)]; omega
  obtain ⟨cells0, hc0⟩ : ∃ c : Array Value, c.size = len * ei.size ∧ ((len * ei.size = 0 → (Array.range (len * info.size)).map (fun k => (#[] : Array Value)[k % 0]!) = c) ∧ (len * ei.size ≠ 0 → (Array.range (len * info.size)).map (fun k => zv.cells[k % zv.cells.size]!) = c)) := by
   by_cases h0 : len * ei.size = 0
   ·exact ⟨_, by simp [hsz], fun _ => rfl, fun h => absurd h0 h⟩
   ·exact ⟨_, by simp [hsz], fun h => absurd h h0, fun _ => rfl⟩
  have hbot : VTs g (List.replicate (len * ei.size) .bot) cells0.toList := ⟨by simp [hc0.1], fun j d c hd _ => by
   rw [List.getElem?_replicate] at hd
   split at hd
   ·injection hd with hd; subst hd; exact .bot _
   ·cases hd⟩
  obtain ⟨cs', hf1, hf2⟩ := fill_spec (g := g) (fun k => some (k * info.size, info.size)) (parts.toList.map fun p => (p.1, a.eval p.2)) (seqPl ei.size 0 ts) cells0 (List.replicate (len * ei.size) .bot) (by simp [seqPl_len, ← hl]) (fun k p q hp hq => by
   simp only [List.getElem?_map, Option.map_eq_some_iff] at hp
   obtain ⟨⟨n, x⟩, hx, rfl⟩ := hp
   have hlt : k < ts.length := by rw [← hl]; exact (List.getElem?_eq_some_iff.1 hx).1
   have htk : ts[k]? = some ts[k] := List.getElem?_eq_getElem hlt
   have := seqPl_get ei.size ts 0 k _ htk
   rw [this] at hq
   injection hq with hq
   subst hq
   have hk := hseq _ 0 hsq k _ hx
   dsimp only at hk ⊢
   refine ⟨by rw [hk, hsz], hvt.2 k _ _ htk (by simp [hx]), one_mem h1 (List.getElem_mem hlt)⟩) hbot (seqPl_ok ts 0 hsm (by simp [hlen]))
  have hfl := fillT_seq ts [] (List.replicate (len * ei.size) .bot) 0 hsm (by simp) (by simp [hlen])
  simp only [List.nil_append] at hfl
  rw [hfl] at hf2
  have hcz : cs'.size = len * ei.size := by have := hf2.1; rw [flat_len hsm, hlen] at this; simpa using this.symm
  have hcell := cells_of_flat hsm hf2 (cells := cs') (fun k c h => by simpa using h)
  obtain ⟨w', hw'⟩ : ∃ w', w' = g.w.alloc (.cells cs' e) := ⟨_, rfl⟩
  have hh : w'.heap = g.w.heap.push (.cells cs' e) := by rw [hw']; rfl
  have hold : ∀ k, k < g.w.heap.size → w'.heap[k]? = g.w.heap[k]? := fun k hk => by rw [hh, Array.getElem?_push, if_neg (by omega)]
  obtain ⟨g', hg'⟩ : ∃ g' : G, g' = ⟨g.M, g.β, fun k => g.K k ∨ k = g.w.heap.size, w'⟩ := ⟨_, rfl⟩
  have hle : Le g g' := by
   rw [hg']
   exact ⟨fun n hn => ⟨hn, rfl⟩, by show _ ≤ w'.heap.size; rw [hh]; simp, by rw [hw']; rfl, by rw [hw']; rfl, by rw [hw']; rfl, fun k hk _ => hold k hk, fun k hk => .inl hk, fun k hk h => by rcases h with h | h; exact .inl h; omega, fun n r hn h0 _ hh => hh n r hn h0 rfl⟩
  have hgood : Good g' := by
   rw [hg'] at hle ⊢
   refine ⟨fun n r hn => (hg.rows n r hn).keep hg hle rfl fun h0 => hold _ ((hg.rows n r hn).lt h0), hg.inj, fun k hk => ?_, fun k hk n r hn h0 => ?_⟩
   ·show k < w'.heap.size
    rw [hh]
    simp only [Array.size_push]
    rcases hk with hk | hk
    ·have := hg.kd k hk; omega
    ·omega
   ·rcases hk with hk | hk
    ·exact hg.kl k hk n r hn h0
    ·have := (hg.rows n r hn).lt h0
     dsimp only
     omega
  have hdc : ∀ x : D, (T.d x).cells = x.cells.map .d := fun x => by cases x <;> rfl
  have hval : VT g' (.d (.arr ei.size es)) (.slice (some ⟨g.w.heap.size, 0, none⟩) len len) := by
   have hel : es.length = len := by rw [hts, List.length_map] at hlen; exact hlen
   have key : ∀ (i : Nat) (d : D), es[i]? = some d → d.cells.length = ei.size ∧ ∀ (j : Nat) (y : D), d.cells[j]? = some y → ∃ c, cs'[i * ei.size + j]? = some c ∧ VT g (.d y) c := fun i d hd => by
    have := hcell i (.d d) (by rw [hts, List.getElem?_map, hd]; rfl)
    rw [hdc, List.length_map] at this
    exact ⟨this.1, fun j y hy => this.2 j (.d y) (by rw [List.getElem?_map, hy]; rfl)⟩
   have := VD.arr (g := g') ei.size es g.w.heap.size 0 len (fun i j => (cs'[i * ei.size + j]?).getD undef) (by omega) (by rw [hg']; exact .inr rfl) (fun i d hd => (key i d hd).1) (fun i d hd j y hy => by
     obtain ⟨c, k5, _⟩ := (key i d hd).2 j y hy
     rw [hg']
     simp [World.cell?, hh, k5])
    (fun i d hd j y hy => by
     obtain ⟨c, k5, k6⟩ := (key i d hd).2 j y hy
     rw [k5, Option.getD_some]
     cases k6.mono hg hle with | d k6 => exact k6)
   rw [hel] at this
   exact .d this
  refine ⟨.slice (some ⟨g.w.heap.size, 0, none⟩) len len, g', .inl ?_, hgood, hle, by rw [hg', upd_nil], hval⟩
  rw [hg']
  have hb' : ¬ (len * info.size > 2 ^ 24) := by rw [hsz]; omega
  by_cases h0 : len * ei.size = 0
  ·have h0' : len * info.size = 0 := by rw [hsz]; exact h0
   have := hc0.2.1 h0
   have hcell : cells0 = #[] := by apply Array.eq_empty_of_size_eq_zero; rw [hc0.1, h0]
   have hr0 : Array.range 0 = #[] := rfl
   rw [hcell] at hf1
   simp [execOp, hop, Instr.buildSlice, run_underlying (ht.slice hsl), sizeOf, typeInfo, hinf, h0', hr0, hf1, newRow, hw']
  ·have h0' : len * info.size ≠ 0 := by rw [hsz]; exact h0
   have := hc0.2.2 h0
   rw [← this] at hf1
   simp [execOp, hop, Instr.buildSlice, run_underlying (ht.slice hsl), sizeOf, typeInfo, hinf, zeroValue, hz, h0', hb', hf1, newRow, hw']
section
variable {P : Program} {N : Nat} {ops : Array Oper} {l : List Oper} {ts : List (Nat × T)} {L : List (Option Rw)} {tr : List Stp} {d : Nat} {ty : TypeId} {pos : String} {af : Array Edge} {gd : Option (Nat × Bool)} {K : List Oper → List Stp → St → Prop}
theorem r_bsliceD {t e : TypeId} {i ei : TI} {len s : Nat} {parts : Array (Nat × Operand)} {es : List D} (tb : Tab P) (ht : tb.f t = some i) (hsl : i.sl = some e) (he : tb.f e = some ei) (hz : ei.size = s) (h0 : Nat.beq s 0 = false) (hx : (parts.toList.map (·.2)).map (opT ts) = es.map .d) (hlen : es.length = len) (hsq : seqParts 0 parts.toList = true) (hs : sizesOk s (es.map .d) = true) (h1 : onesOk (es.map .d) = true) (hb : Nat.ble (len * s) 16777216 = true) (hw : wantT ops ts ⟨some d, .buildSlice t len parts, ty, pos, af, gd⟩ = some true) (hd : Nat.blt d N = true)
  (kk : EvK P N ops l ⟨(d, .d (.arr s es)) :: ts, L⟩ (tr ++ [.run [] []]) K) : EvK P N ops (⟨some d, .buildSlice t len parts, ty, pos, af, gd⟩ :: l) ⟨ts, L⟩ tr K := by
 subst hz
 exact ev_val rfl (o_buildSliceD rfl (tb.ok _ _ ht) hsl (tb.ok _ _ he) (by have := congrArg List.length hx; simpa using this) hlen hsq hs h1 (Nat.le_of_ble_eq_true hb) h0) hw (fun p hp => by obtain ⟨a, b⟩ := zip_ins hx p hp; exact ⟨a, by simpa [Op.operands] using b⟩) (by simp) hd kk
end
end Go.Proofs.Ytjnnkcnnandeeaa.Sh
namespace Go.Proofs.Ytjnnkcnnandeeaa.Sh
open Go
def ior (k : IntKind) (a b : Int) : Int := k.wrap (BitVec.ofInt k.bits a ||| BitVec.ofInt k.bits b).toNat
def ixor (k : IntKind) (a b : Int) : Int := k.wrap (BitVec.ofInt k.bits a ^^^ BitVec.ofInt k.bits b).toNat
def iandN (k : IntKind) (a b : Int) : Int := k.wrap (BitVec.ofInt k.bits a &&& ~~~(BitVec.ofInt k.bits b)).toNat
def ishl (k : IntKind) (a b : Int) : Int := k.wrap (a * 2 ^ (min b.toNat k.bits))
section
variable {P : Program} {N : Nat} {ops : Array Oper} {l : List Oper} {ts : List (Nat × T)} {L : List (Option Rw)} {tr : List Stp} {d : Nat} {ty : TypeId} {pos : String} {af : Array Edge} {gd : Option (Nat × Bool)} {K : List Oper → List Stp → St → Prop}
theorem r_or {t1 t2 : TypeId} {x y : Operand} {k : IntKind} {a b : Int} (hx : opT ts x = .d (.v (.int k a))) (hy : opT ts y = .d (.v (.int k b))) (hw : wantT ops ts ⟨some d, .binOp .or t1 x y t2, ty, pos, af, gd⟩ = some true) (hd : Nat.blt d N = true)
  (kk : EvK P N ops l ⟨(d, .d (.v (.int k (ior k a b)))) :: ts, L⟩ (tr ++ [.run [] []]) K) : EvK P N ops (⟨some d, .binOp .or t1 x y t2, ty, pos, af, gd⟩ :: l) ⟨ts, L⟩ tr K :=
 ev_val (ins := [(x, .d (.v (.int k a))), (y, .d (.v (.int k b)))]) rfl (o_bin (p := .int k a) (q := .int k b) (z := .int k (ior k a b)) rfl rfl (fun w => by simp [go_sem, Op.intBits, ior])) hw (by simp [Op.operands, hx, hy]) (by simp) hd kk
theorem r_xor {t1 t2 : TypeId} {x y : Operand} {k : IntKind} {a b : Int} (hx : opT ts x = .d (.v (.int k a))) (hy : opT ts y = .d (.v (.int k b))) (hw : wantT ops ts ⟨some d, .binOp .xor t1 x y t2, ty, pos, af, gd⟩ = some true) (hd : Nat.blt d N = true)
  (kk : EvK P N ops l ⟨(d, .d (.v (.int k (ixor k a b)))) :: ts, L⟩ (tr ++ [.run [] []]) K) : EvK P N ops (⟨some d, .binOp .xor t1 x y t2, ty, pos, af, gd⟩ :: l) ⟨ts, L⟩ tr K :=
 ev_val (ins := [(x, .d (.v (.int k a))), (y, .d (.v (.int k b)))]) rfl (o_bin (p := .int k a) (q := .int k b) (z := .int k (ixor k a b)) rfl rfl (fun w => by simp [go_sem, Op.intBits, ixor])) hw (by simp [Op.operands, hx, hy]) (by simp) hd kk
theorem r_andN {t1 t2 : TypeId} {x y : Operand} {k : IntKind} {a b : Int} (hx : opT ts x = .d (.v (.int k a))) (hy : opT ts y = .d (.v (.int k b))) (hw : wantT ops ts ⟨some d, .binOp .andNot t1 x y t2, ty, pos, af, gd⟩ = some true) (hd : Nat.blt d N = true)
  (kk : EvK P N ops l ⟨(d, .d (.v (.int k (iandN k a b)))) :: ts, L⟩ (tr ++ [.run [] []]) K) : EvK P N ops (⟨some d, .binOp .andNot t1 x y t2, ty, pos, af, gd⟩ :: l) ⟨ts, L⟩ tr K :=
 ev_val (ins := [(x, .d (.v (.int k a))), (y, .d (.v (.int k b)))]) rfl (o_bin (p := .int k a) (q := .int k b) (z := .int k (iandN k a b)) rfl rfl (fun w => by simp [go_sem, Op.intBits, iandN])) hw (by simp [Op.operands, hx, hy]) (by simp) hd kk
theorem r_shl {t1 t2 : TypeId} {x y : Operand} {k k2 : IntKind} {a b : Int} (hx : opT ts x = .d (.v (.int k a))) (hy : opT ts y = .d (.v (.int k2 b))) (hb : ¬ b < 0) (hw : wantT ops ts ⟨some d, .binOp .shl t1 x y t2, ty, pos, af, gd⟩ = some true) (hd : Nat.blt d N = true)
  (kk : EvK P N ops l ⟨(d, .d (.v (.int k (ishl k a b)))) :: ts, L⟩ (tr ++ [.run [] []]) K) : EvK P N ops (⟨some d, .binOp .shl t1 x y t2, ty, pos, af, gd⟩ :: l) ⟨ts, L⟩ tr K :=
 ev_val (ins := [(x, .d (.v (.int k a))), (y, .d (.v (.int k2 b)))]) rfl (o_bin (p := .int k a) (q := .int k2 b) (z := .int k (ishl k a b)) rfl rfl (fun w => by simp [go_sem, Op.shift, hb, ishl])) hw (by simp [Op.operands, hx, hy]) (by simp) hd kk
end
section
variable {P : Program} {b : Frame} {a : Act} {k : List Item} {cs : List Frame} {w : World} {F : Fence} {n : Nat} {Q : Exit → Act → World → Prop}
theorem stepR_scopeX {c : Code} : step P (lone (b.atR a (.code (.scope c) :: k)) cs w) = .next (lone (b.atR a (.code c :: .inScope c :: k)) cs w) := step_lone_go (by simp [stepG, stepG.exec, Frame.atR])
theorem stepR_inScopeX {c : Code} : step P (lone (b.atR a (.inScope c :: k)) cs w) = .next (lone (b.atR a k) cs w) := step_lone_go (by simp [stepG, stepG.exec, Frame.atR])
def noGotoX (Q : Exit → Act → World → Prop) : Exit → Act → World → Prop
 | .goto _, _, _ => False
 | e, a, w => Q e a w
theorem wpIn_scopeX {c : Code} (h : c.wpIn F n P (noGotoX Q) a w) : (Code.scope c).wpIn F n P Q a w := by
 intro b k cs hro hb hr
 have h0 : (lone (b.atR a (.code (.scope c) :: k)) cs w).fenced P F := fenced_calm hb hr rfl
 obtain ⟨e, a₁, w₁, hq, harr⟩ := h b (.inScope c :: k) cs hro hb hr
 cases e with
 | normal => exact ⟨.normal, a₁, w₁, hq, .head h0 stepR_scopeX (StepsIn.trans harr (.one (fenced_calm hb hr rfl) stepR_inScopeX))⟩
 | exit id' =>
  have hx : exitTo id' (.inScope c :: k) = exitTo id' k := by simp [exitTo]
  exact ⟨.exit id', a₁, w₁, hq, fun k' hk => .head h0 stepR_scopeX (harr.1 k' (by rw [hx]; exact hk)), fun hr' hk => let ⟨k₁, h1, h2⟩ := harr.2 hr' (by rw [hx]; exact hk); ⟨k₁, h1, .head h0 stepR_scopeX h2⟩⟩
 | goto l => exact hq.elim
 | ret => exact ⟨_, a₁, w₁, hq, .of_steps (.one h0 stepR_scopeX) harr⟩
 | panic ch => exact ⟨_, a₁, w₁, hq, .of_steps (.one h0 stepR_scopeX) harr⟩
 | outgrown => exact ⟨_, a₁, w₁, hq, .of_steps (.one h0 stepR_scopeX) harr⟩
end
theorem sw_scope {P : Program} {n0 N : Nat} {df : List Deferred} {Q : SX → St → Prop} {st : St} {c : Code} (h : SW P n0 N df c Q st) : SW P n0 N df (.scope c) Q st := fun F nn hF g a hR =>
 wpIn_scopeX (wpIn_mono (h F nn hF g a hR) fun ex a' w' ⟨g', sx, st', h1, h2, h3, h4, h5⟩ => by
  cases ex <;> first | exact ⟨g', sx, st', h1, h2, h3, h4, h5⟩ | (cases sx <;> exact h4.elim))
end Go.Proofs.Ytjnnkcnnandeeaa.Sh
namespace Go.Proofs.Ytjnnkcnnandeeaa.Sh
open Go
theorem o_bytesR {P : Program} {o : Oper} {fresh : Nat} {src dst e : TypeId} {x : Operand} {b : ByteArray} (hop : o.op = .convert src dst x) (hs : P.underlying src = some .string) (hd : P.underlying dst = some (.slice e)) (he : P.underlying e = some (.int .u8)) :
  OpS P o [(x, .d (.v (.string b)))] [] [] fresh [⟨1, (bytesL b).map fun c => .d (v8 c)⟩] (.row fresh 1 0 (bytesL b).length) :=
 .of_run (fun c h => by rw [hop] at h; cases h) fun g a hg hi hr hn => by
  have hn0 := hn 0 (by simp)
  rw [Nat.add_zero] at hn0
  have e1 := (hi (x, .d (.v (.string b))) (by simp)).v_eq
  dsimp only at e1
  have hrun := run_bytes_of_string (P := P) g.w src dst e b hs hd he
  obtain ⟨cp, hcp⟩ : ∃ c, c = grownCap g.w b.size 0 e := ⟨_, rfl⟩
  have hcap := grownCap_ge g.w b.size 0 e
  rw [← hcp] at hrun hcap
  obtain ⟨C, hC⟩ : ∃ C, C = bytesRow b cp := ⟨_, rfl⟩
  rw [← hC] at hrun
  have hlen : (bytesL b).length = b.size := by rw [bytesL, List.length_map, Array.length_toList]; rfl
  have hCs : C.size = cp := by
   rw [hC]; unfold bytesRow
   have : b.data.size = b.size := rfl
   simp only [Array.size_append, Array.size_map, Array.size_replicate, this]
   omega
  obtain ⟨w', hw'⟩ : ∃ w', w' = g.w.drew.alloc (.cells C e (C.size, C.size + 1)) := ⟨_, rfl⟩
  rw [← hw'] at hrun
  have hh : w'.heap = g.w.heap.push (.cells C e (C.size, C.size + 1)) := by rw [hw']; rfl
  have hle := Le.grow hn0 ⟨1, (bytesL b).map fun c => .d (v8 c)⟩ cp (w := w') (.inr hw')
  have hG := Good.growR hg hn0 (r := ⟨1, (bytesL b).map fun c => .d (v8 c)⟩) (cap := cp) (w := w') (.inr hw') (.inr (.inl ⟨by simp, C, ⟨(e, (C.size, C.size + 1)), .inr rfl⟩, by simp [G.grow, hh], by simp [G.grow, hCs], by simp [G.grow, hlen]; exact hcap, fun i y hy => by
   dsimp only at hy
   rw [List.getElem?_map, Option.map_eq_some_iff] at hy
   obtain ⟨c, hc, rfl⟩ := hy
   refine ⟨rfl, fun j z hz => ?_⟩
   have hj : j = 0 := by have := (List.getElem?_eq_some_iff.1 hz).1; simpa [v8, T.cells, D.cells] using this
   subst hj
   have hi : i < (bytesL b).length := (List.getElem?_eq_some_iff.1 hc).1
   have hib : i < b.data.size := by simpa [bytesL] using hi
   have hzv : z = .d (v8 c) := by simpa [v8, T.cells, D.cells] using hz.symm
   subst hzv
   refine ⟨.int .u8 c, ?_, .d (.v _ rfl)⟩
   rw [hC]
   unfold bytesRow
   rw [Nat.mul_one, Nat.add_zero, Array.getElem?_append_left (by simpa using hib)]
   simp only [bytesL, List.getElem?_map, Array.getElem?_toList, Array.getElem?_eq_getElem hib, Option.map_some, Option.some.injEq] at hc
   simp only [Array.getElem?_map, Array.getElem?_eq_getElem hib, Option.map_some, Option.some.injEq]
   rw [← hc]⟩))
  refine ⟨.slice (some ⟨g.w.heap.size, 0, none⟩) b.size cp, _, .inl ?_, hG, hle, upd_new _ _ _, ?_⟩
  ·simp only [execOp, hop, e1, Sem.run_bind, hrun]
   rfl
  ·have := VT.row (g := g.grow fresh ⟨1, (bytesL b).map fun c => .d (v8 c)⟩ cp w') fresh 1 0 (bytesL b).length (some ⟨g.w.heap.size, 0, none⟩) (by simp [G.grow]) (by simp) (by simp [G.grow, hlen]; exact hcap) (fun _ => by simp [G.grow])
   simpa [G.grow, hlen] using this
def strO (l : List Int) : Option ByteArray := if 0 < l.length then some (strL l) else none
section
variable {P : Program} {N : Nat} {ops : Array Oper} {l : List Oper} {ts : List (Nat × T)} {L : List (Option Rw)} {tr : List Stp} {K : List Oper → List Stp → St → Prop} {d : Nat} {ty : TypeId} {pos : String} {af : Array Edge} {gd : Option (Nat × Bool)}
theorem r_bytesR {src dst e : TypeId} {x : Operand} {b : ByteArray} {n : Nat} {nr : List Nat} (hs : P.underlying src = some .string) (hd' : P.underlying dst = some (.slice e)) (he : P.underlying e = some (.int .u8)) (hx : opT ts x = .d (.v (.string b))) (hn : nums.drop L.length = n :: nr) (hw : wantT ops ts ⟨some d, .convert src dst x, ty, pos, af, gd⟩ = some true) (hd : Nat.blt d N = true)
  (kk : EvK P N ops l ⟨(d, .row n 1 0 (bytesL b).length) :: ts, L ++ [some ⟨1, (bytesL b).map fun c => .d (v8 c)⟩]⟩ (tr ++ [.run (List.map Prod.fst ([] : List (Nat × Rw)) ++ [n]) [n]]) K) : EvK P N ops (⟨some d, .convert src dst x, ty, pos, af, gd⟩ :: l) ⟨ts, L⟩ tr K := by
 have e0 := nums_eq hn
 subst e0
 exact ev_new (ins := [(x, .d (.v (.string b)))]) rfl (o_bytesR rfl hs hd' he) hw (by simp [Op.operands, hx]) (by simp) hd kk
theorem r_sliceLH {t e : TypeId} {i ei : TI} {x y z : Operand} {s : Nat} {α : Type} {w q : List α} {g : α → D} {k k2 : IntKind} {a b : Int} (tb : Tab P) (ht : tb.f t = some i) (hs : i.sl = some e) (he : tb.f e = some ei) (hx : opT ts x = .d (.arr s (w.map g))) (hz : ei.size = s) (hy : opT ts y = .d (.v (.int k a))) (hy2 : opT ts z = .d (.v (.int k2 b))) (hq : cutO w a b = some q) (hw : wantT ops ts ⟨some d, .slice t x (some y) (some z) none, ty, pos, af, gd⟩ = some true) (hd : Nat.blt d N = true)
  (kk : EvK P N ops l ⟨(d, .d (.arr s (q.map g))) :: ts, L⟩ (tr ++ [.run [] []]) K) : EvK P N ops (⟨some d, .slice t x (some y) (some z) none, ty, pos, af, gd⟩ :: l) ⟨ts, L⟩ tr K := by
 unfold cutO at hq
 split at hq
 ·rename_i h
  injection hq with hq
  subst hq
  obtain ⟨m, rfl⟩ := Int.eq_ofNat_of_zero_le h.1
  obtain ⟨n, rfl⟩ := Int.eq_ofNat_of_zero_le (Int.le_trans h.1 h.2.1)
  refine ev_val (ins := [(x, .d (.arr s (w.map g))), (y, .d (.v (.int k m))), (z, .d (.v (.int k2 n)))]) rfl (o_sliceArr rfl (tb.ok _ _ ht) hs (tb.ok _ _ he) hz (by omega) (by rw [List.length_map]; omega)) hw (by simp [Op.operands, hx, hy, hy2]) (by simp) hd ?_
  rw [← List.map_drop, ← List.map_take]
  simpa using kk
 ·cases hq
theorem r_strD {src dst e : TypeId} {x : Operand} {ns : List Int} {q : ByteArray} (hs : P.underlying src = some (.slice e)) (he : P.underlying e = some (.int .u8)) (hd' : P.underlying dst = some .string) (hx : opT ts x = .d (.arr 1 (ns.map v8))) (hq : strO ns = some q) (hw : wantT ops ts ⟨some d, .convert src dst x, ty, pos, af, gd⟩ = some true) (hd : Nat.blt d N = true)
  (kk : EvK P N ops l ⟨(d, .d (.v (.string q))) :: ts, L⟩ (tr ++ [.run [] []]) K) : EvK P N ops (⟨some d, .convert src dst x, ty, pos, af, gd⟩ :: l) ⟨ts, L⟩ tr K := by
 unfold strO at hq
 split at hq
 ·rename_i h0
  injection hq with hq
  subst hq
  exact ev_val (ins := [(x, .d (.arr 1 (ns.map v8)))]) (rn := []) rfl (o_str (ns := ns) rfl hs he hd' (.inr (.inl ⟨ns.map v8, rfl, by rw [List.map_map]; rfl⟩)) h0) hw (by simp [Op.operands, hx]) (by simp) hd kk
 ·cases hq
theorem r_strR {src dst e : TypeId} {x : Operand} {n len : Nat} {ns : List Int} {q : ByteArray} (hs : P.underlying src = some (.slice e)) (he : P.underlying e = some (.int .u8)) (hd' : P.underlying dst = some .string) (hx : opT ts x = .row n 1 0 len) (hr : L[n]? = some (some ⟨1, ns.map fun a => .d (v8 a)⟩)) (hl : ns.length = len) (hq : strO ns = some q) (hw : wantT ops ts ⟨some d, .convert src dst x, ty, pos, af, gd⟩ = some true) (hd : Nat.blt d N = true)
  (kk : EvK P N ops l ⟨(d, .d (.v (.string q))) :: ts, L⟩ (tr ++ [.run [n] []]) K) : EvK P N ops (⟨some d, .convert src dst x, ty, pos, af, gd⟩ :: l) ⟨ts, L⟩ tr K := by
 unfold strO at hq
 split at hq
 ·rename_i h0
  injection hq with hq
  subst hq
  exact r_str hs he hd' hx hr hl (by rw [Nat.blt_eq]; exact h0) hw hd kk
 ·cases hq
end
end Go.Proofs.Ytjnnkcnnandeeaa.Sh
namespace Go.Proofs.Ytjnnkcnnandeeaa.Sh
open Go
structure Hidd (gs g : G) (b : Nat) : Prop where
 base : b < gs.w.heap.size → ¬ NL gs b
 lt : b < g.w.heap.size
 nl : NL g b
 nk : ¬ g.K b
theorem Hidd.heap {b n0 : Nat} {gs g g' : G} (h : Hidd gs g b) (hl : LeN n0 g g') : g'.w.heap[b]? = g.w.heap[b]? := hl.fr b h.lt h.nl
theorem Hidd.step {b n0 : Nat} {gs g g' : G} (h : Hidd gs g b) (hl : LeN n0 g g') : Hidd gs g' b :=
 ⟨h.base, Nat.lt_of_lt_of_le h.lt hl.size, hl.keepNL h.lt h.nl, fun hk => by rcases hl.k' b h.lt hk with h1 | h1; exact h.nk h1; exact h1 h.nl⟩
def keyV (l : List Int) : Value := .agg (l.map (Value.int .i64)).toArray
abbrev KL := List (List Int × List Int)
inductive Gh where
 | no
 | mp (bm : Nat) (A : KL)
 | hole (bm : Nat) (A : KL) (j : Nat)
 | mk (bm : Nat) (A : KL) (bk : Nat) (l : List Int)
 | it (bm it : Nat) (A : KL) (S : List Nat)
structure MpA (P : Program) (kt : Nat) (gs : G) (bm : Nat) (A : KL) (g : G) (es : Array MapEntry) : Prop where
 hid : Hidd gs g bm
 heap : g.w.heap[bm]? = some (.map es es.size)
 size : es.size = A.length
 ent : ∀ (i : Nat) (p : List Int × List Int) (e : MapEntry), A[i]? = some p → es[i]? = some e → e.key = keyV p.1 ∧ e.born = i
 ko : ∀ p ∈ A, ∃ l, keyOf P kt (keyV p.1) = some l
 nd : (A.map (·.1)).Nodup
structure LsA (gs : G) (bm : Nat) (l : List Int) (g : G) (v : Value) (b cap : Nat) : Prop where
 val : (l = [] ∧ cap = 0 ∧ ∃ a, v = .slice a 0 0) ∨ (cap ≠ 0 ∧ v = .slice (some ⟨b, 0, none⟩) l.length cap ∧ Hidd gs g b ∧ b ≠ bm ∧ ∃ (cells : Array Value) (ty : EF cells.size), g.w.heap[b]? = some (.cells cells ty.1.1 ty.1.2) ∧ cells.size = cap ∧ l.length ≤ cap ∧ ∀ (j : Nat) (n : Int), l[j]? = some n → cells[j]? = some (.int .i64 n))
def GhP (P : Program) (kt : Nat) (gs : G) : Gh → G → Prop
 | .no, _ => True
 | .mp bm A, g => ∃ (es : Array MapEntry) (bl cp : Nat → Nat), MpA P kt gs bm A g es ∧ (∀ (i : Nat) (p : List Int × List Int) (e : MapEntry), A[i]? = some p → es[i]? = some e → LsA gs bm p.2 g e.val (bl i) (cp i)) ∧ ∀ i j, i < A.length → j < A.length → i ≠ j → cp i ≠ 0 → cp j ≠ 0 → bl i ≠ bl j
 | .hole bm A h, g => ∃ (es : Array MapEntry) (bl cp : Nat → Nat), MpA P kt gs bm A g es ∧ h < A.length ∧ (∀ (i : Nat) (p : List Int × List Int) (e : MapEntry), i ≠ h → A[i]? = some p → es[i]? = some e → LsA gs bm p.2 g e.val (bl i) (cp i)) ∧ ∀ i j, i < A.length → j < A.length → i ≠ h → j ≠ h → i ≠ j → cp i ≠ 0 → cp j ≠ 0 → bl i ≠ bl j
 | .mk bm A bk l, g => ∃ (es : Array MapEntry) (bl cp : Nat → Nat), MpA P kt gs bm A g es ∧ (∀ (i : Nat) (p : List Int × List Int) (e : MapEntry), A[i]? = some p → es[i]? = some e → LsA gs bm p.2 g e.val (bl i) (cp i)) ∧ (∀ i j, i < A.length → j < A.length → i ≠ j → cp i ≠ 0 → cp j ≠ 0 → bl i ≠ bl j) ∧ (∀ i, i < A.length → cp i ≠ 0 → bl i ≠ bk) ∧ Hidd gs g bk ∧ bk ≠ bm ∧ ∃ ty, g.w.heap[bk]? = some (.cells (l.map (Value.int .i64)).toArray ty (0, 0))
 | .it bm it A S, g => ∃ es, MpA P kt gs bm A g es ∧ (∀ (i : Nat) (p : List Int × List Int) (e : MapEntry), A[i]? = some p → es[i]? = some e → VD g (.arr 1 (p.2.map fun n => .v (.int .i64 n))) e.val) ∧ Hidd gs g it ∧ g.w.heap[it]? = some (.mapIter (some bm) es.size S.toArray es.size) ∧ S.Nodup ∧ ∀ i ∈ S, i < A.length
theorem MpA.step {P : Program} {kt bm n0 : Nat} {A : KL} {gs g g' : G} {es : Array MapEntry} (h : MpA P kt gs bm A g es) (hl : LeN n0 g g') : MpA P kt gs bm A g' es :=
 ⟨h.hid.step hl, (h.hid.heap hl).trans h.heap, h.size, h.ent, h.ko, h.nd⟩
theorem LsA.step {bm n0 : Nat} {l : List Int} {gs g g' : G} {v : Value} {b cap : Nat} (h : LsA gs bm l g v b cap) (hl : LeN n0 g g') : LsA gs bm l g' v b cap := by
 refine ⟨?_⟩
 rcases h.val with h | ⟨h1, h2, h3, h4, cells, ty, h5, h6⟩
 ·exact .inl h
 ·exact .inr ⟨h1, h2, h3.step hl, h4, cells, ty, (h3.heap hl).trans h5, h6⟩
theorem GhP.step {P : Program} {kt n0 : Nat} {gs g g' : G} (hg : Good g) (hl : LeN n0 g g') : ∀ {x : Gh}, GhP P kt gs x g → GhP P kt gs x g'
 | .no, _ => trivial
 | .mp bm A, ⟨es, bl, cp, h1, h2, h3⟩ => ⟨es, bl, cp, h1.step hl, fun i p e k1 k2 => (h2 i p e k1 k2).step hl, h3⟩
 | .hole bm A j, ⟨es, bl, cp, h1, h0, h2, h3⟩ => ⟨es, bl, cp, h1.step hl, h0, fun i p e k0 k1 k2 => (h2 i p e k0 k1 k2).step hl, h3⟩
 | .mk bm A bk l, ⟨es, bl, cp, h1, h2, h3, h4, h5, h6, ty, h7⟩ => ⟨es, bl, cp, h1.step hl, fun i p e k1 k2 => (h2 i p e k1 k2).step hl, h3, h4, h5.step hl, h6, ty, (h5.heap hl).trans h7⟩
 | .it bm it A S, ⟨es, h1, h2, h3, h4, h5⟩ => ⟨es, h1.step hl, fun i p e k1 k2 => by
   have := (VT.d (h2 i p e k1 k2)).monoN hg hl rfl
   cases this with | d h => exact h, h3.step hl, (h3.heap hl).trans h4, h5⟩
def PostX (P : Program) (kt : Nat) (gs : G) (n0 N : Nat) (df : List Deferred) (Q : Gh → SX → St → Prop) : Exit → Act → World → Prop := fun ex a' w' =>
 ∃ g' x sx st, g'.w = w' ∧ LeN n0 gs g' ∧ StR g' N st a' df ∧ GhP P kt gs x g' ∧ XR g' sx ex ∧ Q x sx st
def SWX (P : Program) (kt : Nat) (gs : G) (n0 N : Nat) (df : List Deferred) (c : Code) (Q : Gh → SX → St → Prop) (x : Gh) (st : St) : Prop :=
 ∀ (F : Fence) (nn : Nat), Wd F → ∀ (g : G) (a : Act), LeN n0 gs g → GhP P kt gs x g → StR g N st a df → c.wpIn F nn P (PostX P kt gs n0 N df Q) a g.w
section
variable {P : Program} {kt : Nat} {gs : G} {n0 N : Nat} {df : List Deferred} {Q : Gh → SX → St → Prop} {x : Gh} {st : St}
theorem SW.hide {Q : SX → St → Prop} {c : Code} (kt : Nat) (h : ∀ gs, SWX P kt gs n0 N df c (fun _ => Q) .no st) : SW P n0 N df c Q st := fun F nn hF g a hR =>
 wpIn_mono (h g F nn hF g a (.refl n0 g) trivial hR) fun _ _ _ ⟨g', _, sx, st', h1, h2, h3, _, h5, h6⟩ => ⟨g', sx, st', h1, h2, h3, h5, h6⟩
theorem swx_of {c : Code} (h : SW P n0 N df c (Q x) st) : SWX P kt gs n0 N df c Q x st := fun F nn hF g a hl hx hR =>
 wpIn_mono (h F nn hF g a hR) fun _ _ _ ⟨g', sx, st', h1, h2, h3, h4, h5⟩ => ⟨g', x, sx, st', h1, hl.trans h2, h3, GhP.step hR.good h2 hx, h4, h5⟩
def thenX (K : Gh → St → Prop) (Q : Gh → SX → St → Prop) : Gh → SX → St → Prop := fun x => thenQ (K x) (Q x)
def blockX (id : Nat) (Q : Gh → SX → St → Prop) : Gh → SX → St → Prop := fun x => blockQ id (Q x)
theorem thenx_norm {K : Gh → St → Prop} (h : K x st) : thenX K Q x .norm st := h
theorem thenx_ret {K : Gh → St → Prop} (h : Q x .ret st) : thenX K Q x .ret st := h
theorem thenx_exit {K : Gh → St → Prop} {i : Nat} (h : Q x (.exit i) st) : thenX K Q x (.exit i) st := h
theorem blockx_norm {i : Nat} (h : Q x .norm st) : blockX i Q x .norm st := h
theorem blockx_ret {i : Nat} (h : Q x .ret st) : blockX i Q x .ret st := h
theorem blockx_exit {i : Nat} (h : Q x .norm st) : blockX i Q x (.exit i) st := block_exit (Q := Q x) h
theorem swx_skip (h : Q x .norm st) : SWX P kt gs n0 N df .skip Q x st := swx_of (sw_skip h)
theorem swx_exit {i : Nat} (h : Q x (.exit i) st) : SWX P kt gs n0 N df (.exit i) Q x st := swx_of (sw_exit h)
theorem swx_ret (h : Q x .ret st) : SWX P kt gs n0 N df .ret Q x st := swx_of (sw_ret h)
theorem swx_seq {c d : Code} (h : SWX P kt gs n0 N df c (thenX (SWX P kt gs n0 N df d Q) Q) x st) : SWX P kt gs n0 N df (.seq c d) Q x st := fun F nn hF g a hl hx hR => by
 refine wpIn_seq (wpIn_mono (h F nn hF g a hl hx hR) ?_)
 rintro ex a' w' ⟨g', x', sx, st', rfl, h2, k2, k1, k4, k5⟩
 cases sx with
 | norm =>
  cases ex <;> first | exact k4.elim | skip
  exact k5 F nn hF g' a' h2 k1 k2
 | ret => cases ex <;> first | exact k4.elim | exact ⟨g', x', _, st', rfl, h2, k2, k1, k4, k5⟩
 | exit i => cases ex <;> first | exact k4.elim | exact ⟨g', x', _, st', rfl, h2, k2, k1, k4, k5⟩
 | pan t => cases ex <;> first | exact k4.elim | exact ⟨g', x', _, st', rfl, h2, k2, k1, k4, k5⟩
theorem swx_block {id : Nat} {c : Code} (h : SWX P kt gs n0 N df c (blockX id Q) x st) : SWX P kt gs n0 N df (.block id c) Q x st := fun F nn hF g a hl hx hR => by
 refine wpIn_block (wpIn_mono (h F nn hF g a hl hx hR) ?_)
 rintro ex a' w' ⟨g', x', sx, st', rfl, h2, k2, k1, k4, k5⟩
 cases sx with
 | norm => cases ex <;> first | exact k4.elim | exact ⟨g', x', .norm, st', rfl, h2, k2, k1, trivial, k5⟩
 | ret => cases ex <;> first | exact k4.elim | exact ⟨g', x', .ret, st', rfl, h2, k2, k1, trivial, k5⟩
 | exit i =>
  cases ex <;> first | exact k4.elim | skip
  rename_i j
  have h4' : i = j := k4
  subst h4'
  simp only [blockX, blockQ] at k5
  by_cases hi : i = id
  ·rw [if_pos hi] at k5
   simp only [Exit.inBlock, hi, if_true]
   exact ⟨g', x', .norm, st', rfl, h2, k2, k1, trivial, k5⟩
  ·rw [if_neg hi] at k5
   simp only [Exit.inBlock, hi, if_false]
   exact ⟨g', x', .exit i, st', rfl, h2, k2, k1, rfl, k5⟩
 | pan t => cases ex <;> first | exact k4.elim | exact ⟨g', x', .pan t, st', rfl, h2, k2, k1, k4, k5⟩
theorem swx_cond {c : Operand} {d e : Code} {b : Bool} (hc : opT st.ts c = .d (.v (.bool b))) (ht : b = true → SWX P kt gs n0 N df d Q x st) (hf : b = false → SWX P kt gs n0 N df e Q x st) : SWX P kt gs n0 N df (.cond c d e) Q x st := fun F nn hF g a hl hx hR => by
 have h1 := tsR_op hR.ts c
 rw [hc] at h1
 exact wpIn_cond_split h1.v_eq (fun h => ht h F nn hF g a hl hx hR) (fun h => hf h F nn hF g a hl hx hR)
theorem swx_condT {c : Operand} {d e : Code} (hc : opT st.ts c = .d (.v (.bool true))) (h : SWX P kt gs n0 N df d Q x st) : SWX P kt gs n0 N df (.cond c d e) Q x st := swx_cond hc (fun _ => h) (fun h => by cases h)
theorem swx_condF {c : Operand} {d e : Code} (hc : opT st.ts c = .d (.v (.bool false))) (h : SWX P kt gs n0 N df e Q x st) : SWX P kt gs n0 N df (.cond c d e) Q x st := swx_cond hc (fun h => by cases h) (fun _ => h)
theorem SWX.seen {c : Code} {st' : St} (k : ∀ (g : G) (a : Act), StR g N st a df → ∃ g', g'.w = g.w ∧ LeN n0 g g' ∧ StR g' N st' a df) (h : SWX P kt gs n0 N df c Q x st') : SWX P kt gs n0 N df c Q x st := fun F nn hF g a hl hx hR => by
 obtain ⟨g1, hw, hl1, hR1⟩ := k g a hR
 have := h F nn hF g1 a (hl.trans hl1) (GhP.step hR.good hl1 hx) hR1
 rwa [hw] at this
theorem swx_loopS {c : Code} (I : Nat → Gh → St → Prop) {m : Nat} {st0 : St} (hv : Seen n0 N st st0) (h0 : I m x st0)
  (h : ∀ m x st, I m x st → SWX P kt gs n0 N df c (thenX (fun x' st' => ∃ m' st'', m' < m ∧ Seen n0 N st' st'' ∧ I m' x' st'') Q) x st) : SWX P kt gs n0 N df (.loop c) Q x st := by
 refine SWX.seen (fun _ _ hR => hv _ _ _ hR) ?_
 intro F nn hF g a hl hx hR
 let Pm : Nat → Act → World → Prop := fun m a' w' => ∃ g' x' st', g'.w = w' ∧ LeN n0 gs g' ∧ GhP P kt gs x' g' ∧ StR g' N st' a' df ∧ I m x' st'
 have hex : ∃ pick : Act → World → Nat, ∀ a' w', (∃ m, Pm m a' w') → Pm (pick a' w') a' w' ∧ ∀ k, Pm k a' w' → pick a' w' ≤ k := by
  have h1 : ∀ p : Act × World, ∃ m, (∃ m, Pm m p.1 p.2) → Pm m p.1 p.2 ∧ ∀ k, Pm k p.1 p.2 → m ≤ k := fun p => by
   by_cases h : ∃ m, Pm m p.1 p.2
   ·obtain ⟨m, hm⟩ := least h; exact ⟨m, fun _ => hm⟩
   ·exact ⟨0, fun h' => absurd h' h⟩
  exact ⟨fun a' w' => Classical.choose (h1 (a', w')), fun a' w' => Classical.choose_spec (h1 (a', w'))⟩
 obtain ⟨pick, hpick⟩ := hex
 refine wpIn_loop (fun a' w' => ∃ m, Pm m a' w') pick ⟨m, g, x, st0, rfl, hl, hx, hR, h0⟩ fun a' w' hI => ?_
 obtain ⟨⟨g1, x1, st1, rfl, hl1, hx1, hR1, hI1⟩, _⟩ := hpick a' w' hI
 refine wpIn_mono (h _ x1 st1 hI1 F nn hF g1 a' hl1 hx1 hR1) ?_
 rintro ex a2 w2 ⟨g2, x2, sx, st2, rfl, k3, e2, e1, e4, e5⟩
 cases sx with
 | norm =>
  cases ex <;> first | exact e4.elim | skip
  obtain ⟨m', st3, hlt, hv3, hI2⟩ := e5
  obtain ⟨g3, hw3, hl3, hR3⟩ := hv3 _ _ _ e2
  have hP : Pm m' a2 g2.w := ⟨g3, x2, st3, hw3, k3.trans hl3, GhP.step e2.good hl3 e1, hR3, hI2⟩
  have hex : ∃ m, Pm m a2 g2.w := ⟨m', hP⟩
  exact ⟨hex, Nat.lt_of_le_of_lt ((hpick a2 g2.w hex).2 m' hP) hlt⟩
 | ret => cases ex <;> first | exact e4.elim | exact ⟨g2, x2, _, st2, rfl, k3, e2, e1, e4, e5⟩
 | exit i => cases ex <;> first | exact e4.elim | exact ⟨g2, x2, _, st2, rfl, k3, e2, e1, e4, e5⟩
 | pan t => cases ex <;> first | exact e4.elim | exact ⟨g2, x2, _, st2, rfl, k3, e2, e1, e4, e5⟩
theorem SWX.own {c : Code} {ts ts' : List (Nat × T)} {L L' : List (Option Rw)} (s : Nat) (hs : Nat.beq s 0 = false) {m : Nat} {nr : List Nat} (hm : nums.drop L.length = m :: nr) (hts : OwnS m s ts ts') (hL : OwnR m s L L') (h : SWX P kt gs n0 N df c Q x ⟨ts', L' ++ [some ⟨s, []⟩]⟩) : SWX P kt gs n0 N df c Q x ⟨ts, L⟩ :=
 SWX.seen (fun _ _ hR => own_see n0 s hs hm hts hL hR) h
theorem SWX.fz {c : Code} {ts ts' : List (Nat × T)} {L L' : List (Option Rw)} {α : Type} {w : List α} {f : α → D} (n s : Nat) (hn0 : L[n]? = some (some ⟨s, w.map fun a => .d (f a)⟩)) (hts : FzS n s (w.map f) ts ts') (hL : FzR n s (w.map f) (L.set n none) L') (h : SWX P kt gs n0 N df c Q x ⟨ts', L'⟩) : SWX P kt gs n0 N df c Q x ⟨ts, L⟩ :=
 SWX.seen (fun _ _ hR => fz_see n0 n s hn0 hts hL hR) h
def RgX (P : Program) (kt : Nat) (gs : G) (n0 N : Nat) (df : List Deferred) (ops : Array Oper) (Q : Gh → SX → St → Prop) (l : List Oper) (x : Gh) (st : St) : Prop :=
 ∀ (F : Fence) (nn : Nat), Wd F → ∀ (g : G) (a : Act) (R : Exit → Act → World → Prop), LeN n0 gs g → GhP P kt gs x g → StR g N st a df → (∀ ex a' w', PostX P kt gs n0 N df Q ex a' w' → R ex a' w') → wpListIn F nn P ops R l a g.w
theorem swx_rg {id : Nat} {l : List Oper} (h : RgX P kt gs n0 N df l.toArray Q l x st) : SWX P kt gs n0 N df (.region id l.toArray false) Q x st := fun F nn hF g a hl hx hR =>
 wpIn_region_lit (h F nn hF g a _ hl hx hR fun _ _ _ h => h)
theorem rgx_nil {ops : Array Oper} (h : Q x .norm st) : RgX P kt gs n0 N df ops Q [] x st := fun _ _ _ g _ _ hl hx hR k =>
 k _ _ _ ⟨g, x, .norm, st, rfl, hl, hR, hx, trivial, h⟩
def endX (P : Program) (kt : Nat) (gs : G) (n0 N : Nat) (df : List Deferred) (ops : Array Oper) (Q : Gh → SX → St → Prop) (x : Gh) : List Oper → List Stp → St → Prop := fun l2 _ st' => RgX P kt gs n0 N df ops Q l2 x st'
theorem ev_endX {ops : Array Oper} {tr : List Stp} (h : Q x .norm st) : EvK P N ops [] st tr (endX P kt gs n0 N df ops Q x) := ev_stop (rgx_nil h)
theorem ev_x {ops : Array Oper} {tr : List Stp} {l : List Oper} (h : RgX P kt gs n0 N df ops Q l x st) : EvK P N ops l st tr (endX P kt gs n0 N df ops Q x) := ev_stop h
theorem rgx_ev {ops : Array Oper} {l : List Oper} (h : EvK P N ops l st [] (endX P kt gs n0 N df ops Q x)) : RgX P kt gs n0 N df ops Q l x st := by
 obtain ⟨l1, l2, tr, st', rfl, h1, h2⟩ := h
 intro F nn hF g a R hl hx hR k
 have key : ∀ (l : List Oper) (st : St) (tr : List Stp) (st2 : St), Ev P N ops l st tr st2 → RgX P kt gs n0 N df ops Q l2 x st2 → ∀ (g1 : G) (a : Act), Le g g1 → StR g1 N st a df → wpListIn F nn P ops R (l ++ l2) a g1.w := by
  intro l st tr st2 h
  induction h with
  | nil st =>
   intro h2 g1 a hl1 hR1
   exact h2 F nn hF g1 a R (hl.trans (hl1.toN _)) (GhP.step hR.good (hl1.toN n0) hx) hR1 k
  | cons hs _ ih =>
   intro h2 g1 a hl hR1
   exact hs.soundL hF hR1 fun g' a' h3 h4 => ih h2 g' a' (hl.trans h3) h4
 exact key l1 st tr st' h1 h2 g a (.refl g) hR
theorem rgx_op {ops : Array Oper} {o : Oper} {l : List Oper} (hgd : o.guard = none) (hnd : ∀ c, o.op ≠ .defer c)
  (h : ∀ (g : G) (a : Act), LeN n0 gs g → GhP P kt gs x g → StR g N st a df → ∃ c g' x' st', ((execOp a.eval o).run P g.w = .ok (.value c) g'.w ∨ ((execOp a.eval o).run P g.w = .ok .skip g'.w ∧ c = undef)) ∧ LeN n0 gs g' ∧ GhP P kt gs x' g' ∧ StR g' N st' (a.put o.dst c) df ∧ RgX P kt gs n0 N df ops Q l x' st') : RgX P kt gs n0 N df ops Q (o :: l) x st := by
 intro F nn hF g a R hl hx hR k
 obtain ⟨c, g', x', st', hrun, h1, h2, h3, h4⟩ := h g a hl hx hR
 unfold wpListIn
 rw [yielded_of (b := true) (ts := st.ts) (ops := ops) (by unfold wantT; rw [hgd]) fun d _ => hR.ts d]
 simp only [if_true]
 refine ⟨fun f _ => hF.fn f, ?_⟩
 rw [Oper.semAt_eq _ _ _ hnd]
 rcases hrun with hrun | ⟨hrun, rfl⟩
 ·rw [hrun]; exact h4 F nn hF g' _ R h1 h2 h3 k
 ·rw [hrun]; exact h4 F nn hF g' _ R h1 h2 h3 k
def endDL (P : Program) (kt : Nat) (gs : G) (n0 N : Nat) (df : List Deferred) (ops : Array Oper) (Q : Gh → SX → St → Prop) (x : Gh) : List Oper → List Stp → St → Prop := fun l2 tr st' => ∃ o, l2 = [o] ∧ okTr ops tr = true ∧ lastAll ops (ops.size - 1) = true ∧ RgX P kt gs n0 N df ops Q [o] x st'
theorem swx_drL (hm : P.follows .mixedOrders = true) {id : Nat} {l : List Oper} (h : EvK P N l.toArray l st [] (endDL P kt gs n0 N df l.toArray Q x)) : SWX P kt gs n0 N df (.region id l.toArray true) Q x st := fun F nn hF g a hl hx hR => by
 obtain ⟨l1, l2, tr, st', e, h1, o, rfl, h2, h3, h4⟩ := h
 have hsz : l.toArray.size - 1 = l1.length := by rw [e]; simp
 rw [hsz] at h3
 refine region_drawL (l1 := l1) (o := o) hm hF (by rw [← e]) h1 h2 h3 hR fun g' a' hl' hR' => ?_
 have := h4 F nn hF g' a' (PostX P kt gs n0 N df Q) (hl.trans (hl'.toN n0)) (GhP.step hR.good (hl'.toN n0) hx) hR' fun _ _ _ h => h
 unfold wpListIn at this
 unfold wpOpIn
 have ho : l.toArray[l1.length]? = some o := by rw [e]; simp
 simp only [ho]
 exact this
theorem ev_dl {ops : Array Oper} {tr : List Stp} {o : Oper} (h1 : okTr ops tr = true) (h2 : lastAll ops (ops.size - 1) = true) (h : RgX P kt gs n0 N df ops Q [o] x st) : EvK P N ops [o] st tr (endDL P kt gs n0 N df ops Q x) := ev_stop ⟨o, rfl, h1, h2, h⟩
end
end Go.Proofs.Ytjnnkcnnandeeaa.Sh
namespace Go.Proofs.Ytjnnkcnnandeeaa.Sh
open Go
theorem hid_good {g : G} (hg : Good g) {K' : Nat → Prop} {w' : World} (hh : ∀ b, b < g.w.heap.size → (g.K b ∨ ¬ NL g b) → w'.heap[b]? = g.w.heap[b]?) (hK : ∀ b, g.K b → K' b) (hk : ∀ b, K' b → b < w'.heap.size ∧ NL g b) :
 Good ⟨g.M, g.β, K', w'⟩ ∧ ∀ t c, VT g t c → VT ⟨g.M, g.β, K', w'⟩ t c := by
 have h1 : ∀ b, g.K b → K' b ∧ w'.heap[b]? = g.w.heap[b]? := fun b hb => ⟨hK b hb, hh b (hg.kd b hb) (.inl hb)⟩
 exact ⟨⟨fun n r hn => (hg.rows n r hn).turn (g' := ⟨g.M, g.β, K', w'⟩) h1 (fun _ h => ⟨h, rfl⟩) rfl fun h0 => hh _ ((hg.rows n r hn).lt h0) (.inr fun h => h n r hn h0 rfl), hg.inj, fun b hb => (hk b hb).1, fun b hb n r hn h0 => (hk b hb).2 n r hn h0⟩, fun t c h => h.turn (g' := ⟨g.M, g.β, K', w'⟩) h1 fun _ h => ⟨h, rfl⟩⟩
theorem hid_le {gs g : G} {n0 : Nat} (hl : LeN n0 gs g) {K' : Nat → Prop} {w' : World} (hs : g.w.heap.size ≤ w'.heap.size) (hos : w'.os = g.w.os) (ht : w'.tape = g.w.tape) (ho : w'.output = g.w.output)
 (hh : ∀ b, b < gs.w.heap.size → NL gs b → w'.heap[b]? = g.w.heap[b]?) (hK : ∀ b, g.K b → K' b) (hk : ∀ b, b < gs.w.heap.size → K' b → g.K b ∨ ¬ NL gs b) : LeN n0 gs ⟨g.M, g.β, K', w'⟩ :=
 ⟨hl.e, Nat.le_trans hl.size hs, hos.trans hl.os, ht.trans hl.tape, ho.trans hl.output, fun b hb hn => (hh b hb hn).trans (hl.fr b hb hn), fun b hb => hK b (hl.k b hb), fun b hb h => (hk b hb h).elim (hl.k' b hb) .inr, hl.nl⟩
theorem str_put {g g' : G} {N : Nat} {ts : List (Nat × T)} {L : List (Option Rw)} {a : Act} {df : List Deferred} (hR : StR g N ⟨ts, L⟩ a df) (hG : Good g') (hM : g'.M = g.M) (hV : ∀ t c, VT g t c → VT g' t c) {d : Nat} (hd : Nat.blt d N = true) {t : T} {c : Value} (hv : VT g' t c) : StR g' N ⟨(d, t) :: ts, L⟩ (a.put (some d) c) df := by
 refine ⟨hG, hM.trans hR.M, by rw [put_size]; exact hR.size, fun i => ?_, by rw [put_defers]; exact hR.df⟩
 rw [put_getD hR.size (by exact hd)]
 have e := putS_get (ts := ts) (dst := some d) (v := t) i
 simp only [putS] at e
 rw [e]
 split
 ·exact hv
 ·exact hV _ _ (hR.ts i)
def kidx : KL → List Int → Nat
 | [], _ => 0
 | p :: A, k => if p.1 = k then 0 else kidx A k + 1
theorem kidx_le (k : List Int) : ∀ A : KL, kidx A k ≤ A.length
 | [] => Nat.le_refl _
 | p :: A => by
  unfold kidx
  split
  ·simp
  ·have := kidx_le k A; simp; omega
theorem kidx_none {k : List Int} : ∀ {A : KL}, (∀ p ∈ A, p.1 ≠ k) → kidx A k = A.length
 | [], _ => rfl
 | p :: A, h => by
  unfold kidx
  rw [if_neg (h p (by simp)), kidx_none fun q hq => h q (by simp [hq])]
  rfl
theorem kidx_of {k : List Int} : ∀ {A : KL} {i : Nat} {p : List Int × List Int}, (A.map (·.1)).Nodup → A[i]? = some p → p.1 = k → kidx A k = i
 | [], i, p, _, h, _ => by simp at h
 | q :: A, 0, p, _, h, e => by
  simp at h; subst h
  unfold kidx; rw [if_pos e]
 | q :: A, i + 1, p, hn, h, e => by
  simp only [List.map_cons, List.nodup_cons] at hn
  have hm : p ∈ A := List.mem_of_getElem? (by simpa using h)
  unfold kidx
  rw [if_neg fun e2 => hn.1 (by rw [e2, ← e]; exact List.mem_map.2 ⟨p, hm, rfl⟩), kidx_of hn.2 (by simpa using h) e]
def kadd (A : KL) (k : List Int) : KL := if kidx A k < A.length then A else A ++ [(k, [])]
def kget (A : KL) (k : List Int) : List Int := ((kadd A k)[kidx A k]?.map (·.2)).getD []
def kput (A : KL) (k : List Int) (v : List Int) : KL := (kadd A k).set (kidx A k) (k, v)
theorem kidx_get {k : List Int} : ∀ {A : KL}, kidx A k < A.length → ∃ p, A[kidx A k]? = some p ∧ p.1 = k
 | [], h => by simp at h
 | p :: A, h => by
  unfold kidx at h ⊢
  by_cases e : p.1 = k
  ·rw [if_pos e]; exact ⟨p, rfl, e⟩
  ·rw [if_neg e] at h ⊢
   obtain ⟨q, h1, h2⟩ := kidx_get (A := A) (by simpa using h)
   exact ⟨q, by simpa using h1, h2⟩
theorem kadd_at (A : KL) (k : List Int) : ∃ v, (kadd A k)[kidx A k]? = some (k, v) ∧ kget A k = v := by
 have hle := kidx_le k A
 unfold kget kadd
 by_cases h : kidx A k < A.length
 ·rw [if_pos h]
  obtain ⟨p, h1, h2⟩ := kidx_get h
  exact ⟨p.2, by rw [h1, ← h2], by rw [h1]; rfl⟩
 ·rw [if_neg h]
  have e : kidx A k = A.length := by omega
  rw [e]
  exact ⟨[], by simp, by simp⟩
theorem kadd_nodup {A : KL} {k : List Int} (h : (A.map (·.1)).Nodup) : ((kadd A k).map (·.1)).Nodup := by
 unfold kadd
 split
 ·exact h
 ·rename_i hn
  rw [List.map_append, List.nodup_append]
  refine ⟨h, by simp, fun a ha b hb => ?_⟩
  simp only [List.map_cons, List.map_nil, List.mem_singleton] at hb
  subst hb
  obtain ⟨p, hp, rfl⟩ := List.mem_map.1 ha
  intro e
  obtain ⟨i, hi⟩ := List.getElem?_of_mem hp
  have := kidx_of h hi e
  have := (List.getElem?_eq_some_iff.1 hi).1
  omega
theorem keyV_inj {a b : List Int} (h : keyV a = keyV b) : a = b := by
 unfold keyV at h
 injection h with h
 have := congrArg Array.toList h
 simp only at this
 clear h
 induction a generalizing b with
 | nil => cases b with
  | nil => rfl
  | cons y b => simp at this
 | cons x a ih => cases b with
  | nil => simp at this
  | cons y b =>
   simp only [List.map_cons, List.cons.injEq] at this
   rw [ih this.2]
   have h1 := this.1
   injection h1 with _ h2
   rw [h2]
def G.nam (g : G) (n : Nat) (r : Rw) (bc : Nat × Nat) (w : World) : G := ⟨fun k => if k = n then some (some r) else g.M k, fun k => if k = n then bc else g.β k, g.K, w⟩
theorem nam_good {g : G} (hg : Good g) {n : Nat} (hn : g.M n = none) {r : Rw} {bc : Nat × Nat} {w : World} (hs : g.w.heap.size ≤ w.heap.size) (hh : ∀ b, b < g.w.heap.size → (g.K b ∨ ¬ NL g b) → w.heap[b]? = g.w.heap[b]?)
 (hb : bc.2 ≠ 0 → bc.1 < w.heap.size ∧ NL g bc.1 ∧ ¬ g.K bc.1) (hr : RowR (g.nam n r bc w) n r) : Good (g.nam n r bc w) ∧ ∀ t c, VT g t c → VT (g.nam n r bc w) t c := by
 have h1 : ∀ b, g.K b → (g.nam n r bc w).K b ∧ (g.nam n r bc w).w.heap[b]? = g.w.heap[b]? := fun b hb => ⟨hb, hh b (hg.kd b hb) (.inl hb)⟩
 have hβ : ∀ k, k ≠ n → (g.nam n r bc w).β k = g.β k := fun k hk => by simp [G.nam, hk]
 have hβn : (g.nam n r bc w).β n = bc := by simp [G.nam]
 have hMk : ∀ k q, k ≠ n → (g.nam n r bc w).M k = some (some q) → g.M k = some (some q) := fun k q hk h => by simpa [G.nam, hk] using h
 have he : ∀ k, g.M k ≠ none → (g.nam n r bc w).M k ≠ none ∧ (g.nam n r bc w).β k = g.β k := fun k hk => by
  have hkn : k ≠ n := fun e => hk (e ▸ hn)
  exact ⟨by simpa [G.nam, hkn] using hk, hβ k hkn⟩
 refine ⟨⟨fun k q hk => ?_, fun k m q q' hk hm hk0 hm0 e => ?_, fun b hb => Nat.lt_of_lt_of_le (hg.kd b hb) hs, fun b hb' k q hk h0 => ?_⟩, fun t c h => h.turn h1 he⟩
 ·by_cases hkn : k = n
  ·subst hkn
   have : q = r := by simpa [G.nam] using hk.symm
   subst this
   exact hr
  ·have hk' := hMk k q hkn hk
   exact (hg.rows k q hk').turn h1 he (hβ k hkn) fun h0 => hh _ ((hg.rows k q hk').lt h0) (.inr fun h => h k q hk' h0 rfl)
 ·by_cases hkn : k = n <;> by_cases hmn : m = n
  ·rw [hkn, hmn]
  ·subst hkn
   rw [hβn] at hk0 e
   rw [hβ m hmn] at hm0 e
   exact absurd e.symm ((hb hk0).2.1 m q' (hMk m q' hmn hm) hm0)
  ·subst hmn
   rw [hβn] at hm0 e
   rw [hβ k hkn] at hk0 e
   exact absurd e ((hb hm0).2.1 k q (hMk k q hkn hk) hk0)
  ·rw [hβ k hkn] at hk0 e
   rw [hβ m hmn] at hm0 e
   exact hg.inj k m q q' (hMk k q hkn hk) (hMk m q' hmn hm) hk0 hm0 e
 ·by_cases hkn : k = n
  ·subst hkn
   rw [hβn] at h0 ⊢
   exact fun e => (hb h0).2.2 (e ▸ hb')
  ·rw [hβ k hkn] at h0 ⊢
   exact hg.kl b hb' k q (hMk k q hkn hk) h0
theorem nam_le {gs g : G} {n0 : Nat} (hl : LeN n0 gs g) {n : Nat} (hn : g.M n = none) {r : Rw} {bc : Nat × Nat} {w : World} (hs : g.w.heap.size ≤ w.heap.size) (hos : w.os = g.w.os) (ht : w.tape = g.w.tape) (ho : w.output = g.w.output)
 (hh : ∀ b, b < gs.w.heap.size → NL gs b → w.heap[b]? = g.w.heap[b]?) (hb : bc.2 ≠ 0 → bc.1 < gs.w.heap.size → ¬ NL gs bc.1) : LeN n0 gs (g.nam n r bc w) := by
 refine ⟨fun m hm hne => ?_, Nat.le_trans hl.size hs, hos.trans hl.os, ht.trans hl.tape, ho.trans hl.output, fun b hb hn => (hh b hb hn).trans (hl.fr b hb hn), hl.k, hl.k', fun m q hq h0 hlt => ?_⟩
 ·obtain ⟨h1, h2⟩ := hl.e m hm hne
  have hmn : m ≠ n := fun e => h1 (e ▸ hn)
  exact ⟨by simpa [G.nam, hmn] using h1, by simpa [G.nam, hmn] using h2⟩
 ·by_cases hmn : m = n
  ·subst hmn
   simp only [G.nam, if_true] at h0 hlt ⊢
   exact hb h0 hlt
  ·simp only [G.nam, hmn, if_false] at hq h0 hlt ⊢
   exact hl.nl m q hq h0 hlt
theorem nam_nl {g : G} {n : Nat} {r : Rw} {bc : Nat × Nat} {w : World} {b : Nat} (h : NL g b) (hb : bc.2 ≠ 0 → bc.1 ≠ b) : NL (g.nam n r bc w) b := fun k q hk h0 => by
 by_cases hkn : k = n
 ·subst hkn
  simp only [G.nam, if_true] at h0 ⊢
  exact hb h0
 ·simp only [G.nam, hkn, if_false] at hk h0 ⊢
  exact h k q hk h0
section
variable {P : Program} {kt : Nat} {gs : G} {n0 N : Nat} {df : List Deferred} {Q : Gh → SX → St → Prop} {ops : Array Oper} {l : List Oper} {ts : List (Nat × T)} {L : List (Option Rw)} {d : Nat} {ty : TypeId} {pos : String} {af : Array Edge}
theorem rgx_make {t : TypeId} (hd : Nat.blt d N = true) (kk : ∀ bm, RgX P kt gs n0 N df ops Q l (.mp bm []) ⟨(d, .d (.v (.map (some bm)))) :: ts, L⟩) : RgX P kt gs n0 N df ops Q (⟨some d, .makeMap t none, ty, pos, af, none⟩ :: l) .no ⟨ts, L⟩ := by
 refine rgx_op rfl (fun c h => by cases h) fun g a hl hx hR => ?_
 obtain ⟨w', hw'⟩ : ∃ w', w' = g.w.alloc (.map #[] 0) := ⟨_, rfl⟩
 have hh : w'.heap = g.w.heap.push (.map #[] 0) := by rw [hw']; rfl
 have hsz : w'.heap.size = g.w.heap.size + 1 := by rw [hh]; simp
 have hold : ∀ b, b < g.w.heap.size → w'.heap[b]? = g.w.heap[b]? := fun b hb => by rw [hh, Array.getElem?_push, if_neg (by omega)]
 obtain ⟨hG, hV⟩ := hid_good hR.good (K' := g.K) (w' := w') (fun b hb _ => hold b hb) (fun _ h => h) fun b hb => ⟨by have := hR.good.kd b hb; omega, hR.good.kl b hb⟩
 refine ⟨.map (some g.w.heap.size), ⟨g.M, g.β, g.K, w'⟩, .mp g.w.heap.size [], _, .inl ?_, hid_le hl (by omega) (by rw [hw']; rfl) (by rw [hw']; rfl) (by rw [hw']; rfl) (fun b hb _ => hold b (Nat.lt_of_lt_of_le hb hl.size)) (fun _ h => h) (fun _ _ h => .inl h), ?_, str_put hR hG rfl hV hd (.d (.v _ rfl)), kk _⟩
 ·simp [execOp, run_makeMap', hw']
 ·refine ⟨#[], fun _ => 0, fun _ => 0, ⟨⟨fun h => absurd hl.size (by omega), by show _ < w'.heap.size; omega, fun n r hn h0 e => ?_, fun h => ?_⟩, by show w'.heap[_]? = _; rw [hh]; simp, rfl, fun i p e h => by simp at h, fun p h => by simp at h, by simp⟩, fun i p e h => by simp at h, fun i j h => by simp at h⟩
  ·have := (hR.good.rows n r hn).lt h0
   dsimp only at e
   omega
  ·have := hR.good.kd _ h
   omega
end
end Go.Proofs.Ytjnnkcnnandeeaa.Sh
namespace Go.Proofs.Ytjnnkcnnandeeaa.Sh
open Go
def intsT (l : List Int) : List T := l.map fun n => .d (.v (.int .i64 n))
theorem set_map_heap {w : World} {b : Nat} {o : Obj} (h : b < w.heap.size) (k : Nat) : ({ w with heap := w.heap.setIfInBounds b o } : World).heap[k]? = if k = b then some o else w.heap[k]? := by
 show (w.heap.setIfInBounds b o)[k]? = _
 rw [Array.getElem?_setIfInBounds]
 by_cases e : b = k
 ·subst e; simp [h]
 ·rw [if_neg e, if_neg fun h => e h.symm]
theorem ofL_snoc {L : List (Option Rw)} {r : Rw} : (fun k => if k = L.length then some (some r) else ofL L k) = ofL (L ++ [some r]) := by
 funext k
 unfold ofL
 rw [List.getElem?_append]
 by_cases h : k < L.length
 ·rw [if_pos h, if_neg (by omega)]
 ·rw [if_neg h]
  by_cases e : k = L.length
  ·subst e; simp
  ·rw [if_neg e, List.getElem?_eq_none (by omega), List.getElem?_eq_none (by simp; omega)]
theorem entry_tail {P : Program} {kt : Nat} {gs g : G} {n0 N : Nat} {df : List Deferred} {ts : List (Nat × T)} {L : List (Option Rw)} {a : Act} {d bm j : Nat} {A' : KL} {es' : Array MapEntry} {bl cp : Nat → Nat} {bc : Nat × Nat} {v : Value} {lst : List Int}
 (hl : LeN n0 gs g) (hR : StR g N ⟨ts, L⟩ a df) (hd : Nat.blt d N = true) (hbm : Hidd gs g bm) (hsz : es'.size = A'.length) (hj : j < A'.length) (hent : ∀ (i : Nat) (p : List Int × List Int) (e : MapEntry), A'[i]? = some p → es'[i]? = some e → e.key = keyV p.1 ∧ e.born = i)
 (hko : ∀ p ∈ A', ∃ l, keyOf P kt (keyV p.1) = some l) (hnd : (A'.map (·.1)).Nodup)
 (hls : ∀ (i : Nat) (p : List Int × List Int) (e : MapEntry), i ≠ j → A'[i]? = some p → es'[i]? = some e → LsA gs bm p.2 g e.val (bl i) (cp i)) (hv : LsA gs bm lst g v bc.1 bc.2)
 (hdis : ∀ i, i < A'.length → i ≠ j → cp i ≠ 0 → bc.2 ≠ 0 → bc.1 ≠ bl i) (hinj : ∀ i k, i < A'.length → k < A'.length → i ≠ j → k ≠ j → i ≠ k → cp i ≠ 0 → cp k ≠ 0 → bl i ≠ bl k) :
 ∃ g', g'.w = ({ g.w with heap := g.w.heap.setIfInBounds bm (.map es' es'.size) } : World) ∧ LeN n0 gs g' ∧ GhP P kt gs (.hole bm A' j) g' ∧
  StR g' N ⟨(d, .tup [.row L.length 1 0 lst.length, .d (.v (.int .i64 j))]) :: ts, L ++ [some ⟨1, intsT lst⟩]⟩ (a.put (some d) (.tuple #[v, .int .i64 j])) df := by
 obtain ⟨w', hw'⟩ : ∃ w' : World, w' = { g.w with heap := g.w.heap.setIfInBounds bm (.map es' es'.size) } := ⟨_, rfl⟩
 have hsize : w'.heap.size = g.w.heap.size := by rw [hw']; simp
 have hget : ∀ k, w'.heap[k]? = if k = bm then some (.map es' es'.size) else g.w.heap[k]? := fun k => by rw [hw']; exact set_map_heap hbm.lt k
 have hold : ∀ b, b ≠ bm → w'.heap[b]? = g.w.heap[b]? := fun b hb => by rw [hget, if_neg hb]
 have hne : ∀ b, (g.K b ∨ ¬ NL g b) → b ≠ bm := fun b h e => by subst e; rcases h with h | h; exact hbm.nk h; exact h hbm.nl
 have hn0 : g.M L.length = none := by rw [hR.M]; exact List.getElem?_eq_none (Nat.le_refl _)
 have hbc : bc.2 ≠ 0 → Hidd gs g bc.1 ∧ bc.1 ≠ bm := fun h => by
  rcases hv.val with ⟨_, h2, _⟩ | ⟨_, _, h3, h4, _⟩
  ·exact absurd h2 h
  ·exact ⟨h3, h4⟩
 have hrow : RowR (g.nam L.length ⟨1, intsT lst⟩ bc w') L.length ⟨1, intsT lst⟩ := by
  rcases hv.val with ⟨h1, h2, _⟩ | ⟨h0, _, h3, h4, cells, ety, h5, h6, h7, h8⟩
  ·exact .inl ⟨by simp [G.nam, h2], by rw [h1]; rfl, by simp⟩
  ·refine .inr (.inl ⟨by simp, cells, ety, ?_, ?_, ?_, fun i y hy => ?_⟩)
   ·simp only [G.nam, if_true]; rw [hold _ h4]; exact h5
   ·simp [G.nam, h6]
   ·simpa [G.nam, intsT] using h7
   ·simp only [intsT, List.getElem?_map, Option.map_eq_some_iff] at hy
    obtain ⟨n, hn, rfl⟩ := hy
    refine ⟨rfl, fun q z hz => ?_⟩
    have hq : q = 0 := by have := (List.getElem?_eq_some_iff.1 hz).1; simpa [T.cells, D.cells] using this
    subst hq
    have hzv : z = .d (.v (.int .i64 n)) := by simpa [T.cells, D.cells] using hz.symm
    subst hzv
    exact ⟨_, by simpa using h8 i n hn, .d (.v _ rfl)⟩
 obtain ⟨hG, hV⟩ := nam_good hR.good hn0 (r := ⟨1, intsT lst⟩) (bc := bc) (w := w') (by omega) (fun b _ h => hold b (hne b h)) (fun h => ⟨by rw [hsize]; exact (hbc h).1.lt, (hbc h).1.nl, (hbc h).1.nk⟩) hrow
 have hst : ∀ b, Hidd gs g b → (bc.2 ≠ 0 → bc.1 ≠ b) → Hidd gs (g.nam L.length ⟨1, intsT lst⟩ bc w') b := fun b h hb => ⟨h.base, by show b < w'.heap.size; rw [hsize]; exact h.lt, nam_nl h.nl hb, h.nk⟩
 refine ⟨g.nam L.length ⟨1, intsT lst⟩ bc w', hw', nam_le hl hn0 (by omega) (by rw [hw']) (by rw [hw']) (by rw [hw']) (fun b hb hnl => hold b fun e => by subst e; exact hbm.base hb hnl) (fun h hlt => (hbc h).1.base hlt), ?_, ?_⟩
 ·refine ⟨es', bl, cp, ⟨hst bm hbm fun h => (hbc h).2, by show w'.heap[bm]? = _; rw [hget, if_pos rfl], hsz, hent, hko, hnd⟩, hj, fun i p e hi h1 h2 => ⟨?_⟩, hinj⟩
  rcases (hls i p e hi h1 h2).val with h | ⟨k1, k2, k3, k4, cells, ety, k5, k6⟩
  ·exact .inl h
  ·exact .inr ⟨k1, k2, hst _ k3 fun h => hdis i (List.getElem?_eq_some_iff.1 h1).1 hi k1 h, k4, cells, ety, by show w'.heap[_]? = _; rw [hold _ k4]; exact k5, k6⟩
 ·refine ⟨hG, ?_, by rw [put_size]; exact hR.size, fun i => ?_, by rw [put_defers]; exact hR.df⟩
  ·show (fun k => if k = L.length then _ else g.M k) = _
   rw [hR.M]; exact ofL_snoc
  ·rw [put_getD hR.size (by exact hd)]
   have e := putS_get (ts := ts) (dst := some d) (v := .tup [.row L.length 1 0 lst.length, .d (.v (.int .i64 j))]) i
   simp only [putS] at e
   rw [e]
   split
   ·refine .tup _ _ rfl fun q y c h1 h2 => ?_
    match q with
    | 0 =>
     simp only [List.getElem?_cons_zero, Option.some.injEq] at h1
     subst h1
     have h2 : v = c := by simpa using h2
     subst h2
     rcases hv.val with ⟨e1, e2, a0, rfl⟩ | ⟨h0, rfl, _, _, cells, ety, _, h6, h7, _⟩
     ·subst e1
      have e3 : ((g.nam L.length ⟨1, intsT []⟩ bc w').β L.length).2 = 0 := by simp only [G.nam, if_true]; exact e2
      have := VT.row (g := g.nam L.length ⟨1, intsT []⟩ bc w') L.length 1 0 0 a0 (by simp [G.nam]) (by simp) (Nat.zero_le _) (fun h => absurd e3 h)
      rw [e3] at this
      exact this
     ·have := VT.row (g := g.nam L.length ⟨1, intsT lst⟩ bc w') L.length 1 0 lst.length (some ⟨bc.1, 0, none⟩) (by simp [G.nam]) (by simp) (by simp [G.nam]; omega) (fun _ => by simp [G.nam])
      simpa [G.nam] using this
    | 1 =>
     simp only [List.getElem?_cons_succ, List.getElem?_cons_zero, Option.some.injEq] at h1
     subst h1
     have h2 : Value.int .i64 j = c := by simpa using h2
     subst h2
     exact .d (.v _ rfl)
    | q + 2 => simp at h1
   ·exact hV _ _ (hR.ts i)
section
variable {P : Program} {kt : Nat} {gs : G} {n0 N : Nat} {df : List Deferred} {Q : Gh → SX → St → Prop} {ops : Array Oper} {l : List Oper} {ts : List (Nat × T)} {L : List (Option Rw)} {d : Nat} {ty : TypeId} {pos : String} {af : Array Edge}
theorem rgx_entry {t e : TypeId} {x y : Operand} {bm : Nat} {A : KL} {k : List Int} {n : Nat} {nr : List Nat} (law : WideMaps.KeyLaw P kt) (ht : P.underlying t = some (.map kt e)) (hz : ∀ w, (zeroValue e).run P w = .ok (.slice none 0 0) w) (hx : opT ts x = .d (.v (.map (some bm)))) (hy : opT ts y = .d (.agg (k.map fun n => .v (.int .i64 n)))) (hko : ∃ l, keyOf P kt (keyV k) = some l) (hn : nums.drop L.length = n :: nr) (hd : Nat.blt d N = true)
 (kk : RgX P kt gs n0 N df ops Q l (.hole bm (kadd A k) (kidx A k)) ⟨(d, .tup [.row n 1 0 (kget A k).length, .d (.v (.int .i64 (kidx A k)))]) :: ts, L ++ [some ⟨1, intsT (kget A k)⟩]⟩) :
 RgX P kt gs n0 N df ops Q (⟨some d, .mapEntry t x y, ty, pos, af, none⟩ :: l) (.mp bm A) ⟨ts, L⟩ := by
 have e0 := nums_eq hn
 subst e0
 refine rgx_op rfl (fun c h => by cases h) fun g a hl hgh hR => ?_
 obtain ⟨es, bl, cp, hA, hls, hinj⟩ := hgh
 have hxv : a.eval x = .map (some bm) := by have := tsR_op hR.ts x; rw [hx] at this; exact this.v_eq
 have hyv : a.eval y = keyV k := by
  have := tsR_op hR.ts y
  rw [hy, show (k.map fun n => D.v (.int .i64 n)) = (k.map (Value.int .i64)).map D.v by rw [List.map_map]; rfl] at this
  exact vd_vals this
 obtain ⟨lk, hlk⟩ := hko
 have hsame : ∀ (i : Nat) (e : MapEntry), es[i]? = some e → ∃ p, A[i]? = some p := fun i e h => by
  have := (Array.getElem?_eq_some_iff.1 h).1
  exact ⟨_, List.getElem?_eq_getElem (by rw [← hA.size]; exact this)⟩
 have hall : ∀ e ∈ es.toList, ∃ l, keyOf P kt e.key = some l := fun e he => by
  obtain ⟨i, hi⟩ := List.getElem?_of_mem he
  rw [Array.getElem?_toList] at hi
  obtain ⟨p, hp⟩ := hsame i e hi
  rw [(hA.ent i p e hp hi).1]
  exact hA.ko p (List.mem_of_getElem? hp)
 have hget := MapKept.run_getObj_map (P := P) hA.heap
 have hchk := law.check g.w false hlk
 rcases law.find g.w hlk es.toList hall with ⟨hf, hne⟩ | ⟨j, e1, hf, hj, hek⟩
 ·have hno : ∀ p ∈ A, p.1 ≠ k := fun p hp e => by
   obtain ⟨i, hi⟩ := List.getElem?_of_mem hp
   have hlt : i < es.size := by rw [hA.size]; exact (List.getElem?_eq_some_iff.1 hi).1
   have he := Array.getElem?_eq_getElem hlt
   have := (hA.ent i p _ hi he).1
   exact hne es[i] (by simp) (by rw [this, e])
  have hk := kidx_none hno
  have hadd : kadd A k = A ++ [(k, [])] := by unfold kadd; rw [if_neg (by omega)]
  have hkg : kget A k = [] := by unfold kget; rw [hadd, hk]; simp
  have hes : ∀ i, (es.push { key := keyV k, val := .slice none 0 0, born := es.size })[i]? = if i = es.size then some { key := keyV k, val := .slice none 0 0, born := es.size } else es[i]? := fun i => Array.getElem?_push ..
  have hAt : ∀ i, i ≠ A.length → (A ++ [(k, [])])[i]? = A[i]? := fun i hi => by
   rw [List.getElem?_append]
   split
   ·rfl
   ·rw [List.getElem?_eq_none (by simp; omega), List.getElem?_eq_none (by omega)]
  obtain ⟨g', hw, h1, h2, h3⟩ := entry_tail (P := P) (kt := kt) (d := d) (bm := bm) (j := A.length) (A' := A ++ [(k, [])]) (es' := es.push { key := keyV k, val := .slice none 0 0, born := es.size }) (bl := bl) (cp := cp) (bc := (0, 0)) (v := .slice none 0 0) (lst := []) hl hR hd hA.hid (by simp [hA.size]) (by simp)
   (fun i p e hp he => by
    rw [hes] at he
    by_cases hi : i = es.size
    ·rw [if_pos hi] at he
     injection he with he
     subst he hi
     rw [hA.size] at hp
     simp at hp
     subst hp
     exact ⟨rfl, rfl⟩
    ·rw [if_neg hi] at he
     rw [hAt i (fun e => hi (by rw [e, hA.size]))] at hp
     exact hA.ent i p e hp he)
   (fun p hp => by rcases List.mem_append.1 hp with h | h; exact hA.ko p h; simp at h; subst h; exact ⟨lk, hlk⟩)
   (by rw [← hadd]; exact kadd_nodup hA.nd)
   (fun i p e hi hp he => by
    rw [hes, if_neg (fun e => hi (by rw [e, hA.size]))] at he
    rw [hAt i hi] at hp
    exact hls i p e hp he) ⟨.inl ⟨rfl, rfl, none, rfl⟩⟩ (fun i _ _ _ h => absurd rfl h) (fun i k hi hk h1 h2 => by
    simp at hi hk
    exact hinj i k (by omega) (by omega))
  refine ⟨_, g', .hole bm (A ++ [(k, [])]) A.length, _, .inl ?_, h1, h2, h3, ?_⟩
  ·rw [hw]
   simp [execOp, hxv, hyv, Instr.mapEntry, run_underlying ht, hget, hchk, hf, hz, MapKept.run_setObj_map _ hA.heap, hA.size, goInt]
  ·rw [hadd, hk, hkg] at kk; exact kk
 ·rw [Array.getElem?_toList] at hj
  obtain ⟨p, hp⟩ := hsame j e1 hj
  have hpk : p.1 = k := keyV_inj (by rw [← (hA.ent j p e1 hp hj).1, hek])
  have hk := kidx_of hA.nd hp hpk
  have hjl := (List.getElem?_eq_some_iff.1 hp).1
  have hadd : kadd A k = A := by unfold kadd; rw [if_pos (by omega)]
  have hkg : kget A k = p.2 := by unfold kget; rw [hadd, hk, hp]; rfl
  have hmod : (es.modify j fun e => { e with key := keyV k }) = es := by
   apply Array.ext
   ·simp
   ·intro i h1 h2
    rw [Array.getElem_modify]
    split
    ·rename_i hi
     subst hi
     have h3 : es[j] = e1 := by have := Array.getElem?_eq_getElem h2; rw [hj] at this; injection this with this; exact this.symm
     rw [h3, ← hek]
    ·rfl
  obtain ⟨g', hw, h1, h2, h3⟩ := entry_tail (P := P) (kt := kt) (d := d) (bm := bm) (j := j) (A' := A) (es' := es) (bl := bl) (cp := cp) (bc := (bl j, cp j)) (v := e1.val) (lst := p.2) hl hR hd hA.hid hA.size hjl hA.ent hA.ko hA.nd
   (fun i p e _ hp he => hls i p e hp he) (hls j p e1 hp hj) (fun i hi hij h1 h2 => hinj j i hjl hi (fun e => hij e.symm) h2 h1) (fun i k hi hk _ _ hik => hinj i k hi hk hik)
  refine ⟨_, g', .hole bm A j, _, .inl ?_, h1, h2, h3, ?_⟩
  ·rw [hw]
   have hst := law.stays g.w hlk
   have hb := (hA.ent j p e1 hp hj).2
   simp [execOp, hxv, hyv, Instr.mapEntry, run_underlying ht, hget, hchk, hf, hj, hek, hst, hmod, MapKept.run_setObj_map _ hA.heap, goInt, hb]
  ·rw [hadd, hk, hkg] at kk; exact kk
end
end Go.Proofs.Ytjnnkcnnandeeaa.Sh
