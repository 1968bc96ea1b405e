/- Rules of the walks. -/
import Derived.Test.YtjnnkcnnandeeaaSa6
import Derived.Laws.IdiomRangeMap
import Derived.Shelf.SlSortCmp.NoneTotal
import Derived.WalkKit
import Derived.WalkSpells
import Derived.WalkLawsBesides
import Derived.Deep.Draws
import Derived.Deep.Quiet
import Derived.OrdersIn
set_option linter.unusedVariables false
set_option linter.unusedSimpArgs false
namespace Go.Proofs.Ytjnnkcnnandeeaa.Sh
open Go
section
variable {P : Program} {kt : Nat} {gs : G} {n0 N : Nat} {df : List Deferred} {Q : Gh → SX → St → Prop} {ops : Array Oper} {l : List Oper} {ts : List (Nat × T)} {L : List (Option Rw)} {d : Nat} {ty : TypeId} {pos : String} {af : Array Edge}
theorem rgx_estore {t : TypeId} {x y z : Operand} {bm j n len : Nat} {A : KL} {k lst l' : List Int} (L' : List (Option Rw)) (hx : opT ts x = .d (.v (.map (some bm)))) (hy : opT ts y = .d (.v (.int .i64 j))) (hz : opT ts z = .row n 1 0 len) (hr : L[n]? = some (some ⟨1, intsT l'⟩)) (hlen : l'.length = len) (hp : A[j]? = some (k, lst)) (hL : L.set n none = L')
 (kk : RgX P kt gs n0 N df ops Q l (.mp bm (A.set j (k, l'))) ⟨ts, L'⟩) : RgX P kt gs n0 N df ops Q (⟨none, .entryStore t x y z, ty, pos, af, none⟩ :: l) (.hole bm A j) ⟨ts, L⟩ := by
 subst hL hlen
 refine rgx_op rfl (fun c h => by cases h) fun g a hl hgh hR => ?_
 obtain ⟨es, bl, cp, hA, hj, hls, hinj⟩ := hgh
 have hxv : a.eval x = .map (some bm) := by have := tsR_op hR.ts x; rw [hx] at this; exact this.v_eq
 have hyv : a.eval y = .int .i64 j := by have := tsR_op hR.ts y; rw [hy] at this; exact this.v_eq
 have hzv := tsR_op hR.ts z
 rw [hz] at hzv
 have hnM : g.M n = some (some ⟨1, intsT l'⟩) := by rw [hR.M]; exact hr
 have hnL : n < L.length := (List.getElem?_eq_some_iff.1 hr).1
 have hrow := hR.good.rows n _ hnM
 generalize hv : a.eval z = v at hzv
 cases hzv with | row _ _ _ _ a0 hnn hs0 hcap ha =>
 have hje : j < es.size := by rw [hA.size]; exact hj
 have hbj : es[j].born = j := (hA.ent j _ _ hp (Array.getElem?_eq_getElem hje)).2
 have hkj : es[j].key = keyV k := (hA.ent j _ _ hp (Array.getElem?_eq_getElem hje)).1
 have hfi : es.findIdx? (fun e => (e.born : Int) == (j : Int)) = some j := by
  rw [Array.findIdx?_eq_some_iff_getElem]
  refine ⟨hje, by simp [hbj], fun i hi => ?_⟩
  have hie : i < es.size := by omega
  have hiA : i < A.length := by rw [← hA.size]; exact hie
  have := (hA.ent i _ _ (List.getElem?_eq_getElem hiA) (Array.getElem?_eq_getElem hie)).2
  rw [this]
  simp
  omega
 obtain ⟨v', hv'⟩ : ∃ v' : Value, v' = .slice a0 l'.length ((g.β n).2 - 0) := ⟨_, rfl⟩
 rw [← hv'] at hv
 obtain ⟨es', hes'⟩ : ∃ es' : Array MapEntry, es' = es.modify j fun e => { e with val := v' } := ⟨_, rfl⟩
 have hsz' : es'.size = es.size := by rw [hes']; simp
 obtain ⟨w', hw'⟩ : ∃ w' : World, w' = { g.w with heap := g.w.heap.setIfInBounds bm (.map es' es.size) } := ⟨_, rfl⟩
 have hsize : w'.heap.size = g.w.heap.size := by rw [hw']; simp
 have hget : ∀ q, w'.heap[q]? = if q = bm then some (.map es' es.size) else g.w.heap[q]? := fun q => by rw [hw']; exact set_map_heap hA.hid.lt q
 have hold : ∀ b, b ≠ bm → w'.heap[b]? = g.w.heap[b]? := fun b hb => by rw [hget, if_neg hb]
 have hne : ∀ b, (g.K b ∨ ¬ NL g b) → b ≠ bm := fun b h e => by subst e; rcases h with h | h; exact hA.hid.nk h; exact h hA.hid.nl
 obtain ⟨g', hg'⟩ : ∃ g' : G, g' = ⟨fun m => if m = n then some none else g.M m, g.β, g.K, w'⟩ := ⟨_, rfl⟩
 have hM' : ∀ m q, g'.M m = some (some q) → m ≠ n ∧ g.M m = some (some q) := fun m q h => by
  rw [hg'] at h
  by_cases e : m = n
  ·simp [e] at h
  ·exact ⟨e, by simpa [e] using h⟩
 have hturn : ∀ b, g.K b → g'.K b ∧ g'.w.heap[b]? = g.w.heap[b]? := fun b hb => by rw [hg']; exact ⟨hb, hold b (hne b (.inl hb))⟩
 have hnm : ∀ m, g.M m ≠ none → g'.M m ≠ none ∧ g'.β m = g.β m := fun m hm => by
  rw [hg']
  refine ⟨?_, rfl⟩
  dsimp only
  split
  ·simp
  ·exact hm
 have hNL : ∀ b, NL g b → NL g' b := fun b h m q hq h0 => by
  have := (hM' m q hq).2
  rw [hg'] at h0 ⊢
  exact h m q this h0
 have hG : Good g' := by
  refine ⟨fun m q hq => ?_, fun m p q r hm hp hm0 hp0 e => ?_, fun b hb => ?_, fun b hb => ?_⟩
  ·have h1 := (hM' m q hq).2
   exact (hR.good.rows m q h1).turn hturn hnm (by rw [hg']) fun h0 => by rw [hg']; exact hold _ (hne _ (.inr fun h => h m q h1 h0 rfl))
  ·have h1 := (hM' m q hm).2
   have h2 := (hM' p r hp).2
   rw [hg'] at hm0 hp0 e
   exact hR.good.inj m p q r h1 h2 hm0 hp0 e
  ·rw [hg'] at hb ⊢; show b < w'.heap.size; rw [hsize]; exact hR.good.kd b hb
  ·exact hNL b (hR.good.kl b (by rw [hg'] at hb; exact hb))
 have hV : ∀ t c, VT g t c → VT g' t c := fun t c h => h.turn hturn hnm
 have hst : ∀ b, Hidd gs g b → Hidd gs g' b := fun b h => ⟨h.base, by rw [hg']; show b < w'.heap.size; rw [hsize]; exact h.lt, hNL b h.nl, by rw [hg']; exact h.nk⟩
 have hbn : (g.β n).2 ≠ 0 → Hidd gs g' (g.β n).1 := fun h0 => ⟨fun hlt => hl.nl n _ hnM h0 hlt, by rw [hg']; show _ < w'.heap.size; rw [hsize]; exact hrow.lt h0, fun m q hq hm0 e => by
   obtain ⟨h1, h2⟩ := hM' m q hq
   rw [hg'] at hm0 e
   exact h1 (hR.good.inj m n q _ h2 hnM hm0 h0 e), fun hk => by rw [hg'] at hk; exact hR.good.kl _ hk n _ hnM h0 rfl⟩
 have hbm : (g.β n).2 ≠ 0 → (g.β n).1 ≠ bm := fun h0 => hA.hid.nl n _ hnM h0
 have hent' : ∀ (i : Nat) (e : MapEntry), es'[i]? = some e → (i ≠ j ∧ es[i]? = some e) ∨ (i = j ∧ e = { key := keyV k, val := v', born := j }) := fun i e he => by
  have hi : i < es.size := by rw [← hsz']; exact (Array.getElem?_eq_some_iff.1 he).1
  have h2 : es'[i]? = some (if j = i then { es[i] with val := v' } else es[i]) := by
   rw [Array.getElem?_eq_getElem (by rw [hsz']; exact hi)]
   simp only [hes', Array.getElem_modify]
  rw [h2] at he
  injection he with he
  by_cases hij : j = i
  ·subst hij
   rw [if_pos rfl] at he
   exact .inr ⟨rfl, by rw [← he]; dsimp only; rw [hkj, hbj]⟩
  ·rw [if_neg hij] at he
   exact .inl ⟨fun e => hij e.symm, by rw [Array.getElem?_eq_getElem hi, he]⟩
 have hset : ∀ (i : Nat) (p : List Int × List Int), (A.set j (k, l'))[i]? = some p → (i ≠ j ∧ A[i]? = some p) ∨ (i = j ∧ p = (k, l')) := fun i p h => by
  rw [List.getElem?_set] at h
  by_cases hij : j = i
  ·rw [if_pos hij, if_pos (by omega)] at h
   injection h with h
   exact .inr ⟨hij.symm, h.symm⟩
  ·rw [if_neg hij] at h
   exact .inl ⟨fun e => hij e.symm, h⟩
 refine ⟨undef, g', .mp bm (A.set j (k, l')), ⟨ts, L.set n none⟩, .inr ⟨?_, rfl⟩, ?_, ?_, ⟨hG, ?_, hR.size, fun i => hV _ _ (hR.ts i), hR.df⟩, kk⟩
 ·have : g'.w = w' := by rw [hg']
  rw [this, hw']
  simp [execOp, hxv, hyv, hv, Instr.entryStore, MapKept.run_getObj_map hA.heap, asInt, asIntOf, hfi, MapKept.run_setObj_map _ hA.heap, hes']
 ·rw [hg']
  refine ⟨fun m hm hne => ?_, by show _ ≤ w'.heap.size; rw [hsize]; exact hl.size, by rw [hw']; exact hl.os, by rw [hw']; exact hl.tape, by rw [hw']; exact hl.output, fun b hb hnl => ?_, hl.k, hl.k', fun m q hq h0 hlt => ?_⟩
  ·obtain ⟨h1, h2⟩ := hl.e m hm hne
   refine ⟨?_, h2⟩
   dsimp only
   split
   ·simp
   ·exact h1
  ·exact (hold b fun e => by subst e; exact hA.hid.base hb hnl).trans (hl.fr b hb hnl)
  ·exact hl.nl m q (hM' m q (by rw [hg']; exact hq)).2 h0 hlt
 ·refine ⟨es', fun i => if i = j then (g.β n).1 else bl i, fun i => if i = j then (g.β n).2 else cp i, ⟨hst bm hA.hid, by rw [hg', hsz']; show w'.heap[bm]? = _; rw [hget, if_pos rfl], by rw [hsz', hA.size, List.length_set], fun i p e hp' he => ?_, fun p hp' => ?_, ?_⟩, fun i p e hp' he => ?_, fun i q hi hq hiq h1 h2 => ?_⟩
  ·rcases hset i p hp' with ⟨h1, h2⟩ | ⟨rfl, rfl⟩
   ·rcases hent' i e he with ⟨_, h3⟩ | ⟨h3, _⟩
    ·exact hA.ent i p e h2 h3
    ·exact absurd h3 h1
   ·rcases hent' i e he with ⟨h3, _⟩ | ⟨_, rfl⟩
    ·exact absurd rfl h3
    ·exact ⟨rfl, rfl⟩
  ·rcases List.mem_or_eq_of_mem_set hp' with h | h
   ·exact hA.ko p h
   ·subst h; exact hA.ko (k, lst) (List.mem_of_getElem? hp)
  ·have : (A.set j (k, l')).map (·.1) = A.map (·.1) := by
    rw [List.map_set]
    apply List.ext_getElem?
    intro i
    rw [List.getElem?_set]
    split
    ·rename_i hij
     subst hij
     split
     ·rw [List.getElem?_map, hp]; rfl
     ·rw [List.getElem?_eq_none (by omega)]
    ·rfl
   rw [this]; exact hA.nd
  ·rcases hset i p hp' with ⟨h1, h2⟩ | ⟨rfl, rfl⟩
   ·dsimp only
    rw [if_neg h1, if_neg h1]
    rcases hent' i e he with ⟨_, h3⟩ | ⟨h3, _⟩
    ·rcases (hls i p e h1 h2 h3).val with h | ⟨k1, k2, k3, k4, cells, ety, k5, k6⟩
     ·exact ⟨.inl h⟩
     ·exact ⟨.inr ⟨k1, k2, hst _ k3, k4, cells, ety, by rw [hg']; exact (hold _ k4).trans k5, k6⟩⟩
    ·exact absurd h3 h1
   ·dsimp only
    rw [if_pos rfl, if_pos rfl]
    rcases hent' i e he with ⟨h3, _⟩ | ⟨_, rfl⟩
    ·exact absurd rfl h3
    dsimp only
    rw [hv']
    by_cases h0 : (g.β n).2 = 0
    ·rcases hrow with ⟨_, h5, _⟩ | ⟨_, cells, ety, _, _, h6, _⟩ | ⟨h5, _⟩
     ·have hl0 : l' = [] := by cases l' with
       | nil => rfl
       | cons x y => simp [intsT] at h5
      subst hl0
      exact ⟨.inl ⟨rfl, h0, a0, by rw [h0]; rfl⟩⟩
     ·have hl0 : l' = [] := List.eq_nil_of_length_eq_zero (by simp [intsT] at h6; omega)
      subst hl0
      exact ⟨.inl ⟨rfl, h0, a0, by rw [h0]; rfl⟩⟩
     ·simp at h5
    ·rcases hrow with ⟨h5, _⟩ | ⟨_, cells, ety, h5, h6, h7, h8⟩ | ⟨h5, _⟩
     ·exact absurd h5 h0
     ·refine ⟨.inr ⟨h0, by rw [ha h0, Nat.zero_mul, Nat.sub_zero], hbn h0, hbm h0, cells, ety, by rw [hg']; exact (hold _ (hbm h0)).trans h5, by simpa using h6, by simpa [intsT] using h7, fun q z hq => ?_⟩⟩
      obtain ⟨_, h9⟩ := h8 q (.d (.v (.int .i64 z))) (by simp [intsT, hq])
      obtain ⟨c, h10, h11⟩ := h9 0 _ rfl
      rw [h11.v_eq] at h10
      simpa using h10
     ·simp at h5
  ·rw [List.length_set] at hi hq
   have off : ∀ q, q < A.length → q ≠ j → cp q ≠ 0 → (g.β n).2 ≠ 0 → bl q ≠ (g.β n).1 := fun q hq hqj hc h0 e => by
    have hqe : q < es.size := by rw [hA.size]; exact hq
    rcases (hls q _ _ hqj (List.getElem?_eq_getElem hq) (Array.getElem?_eq_getElem hqe)).val with ⟨_, h, _⟩ | ⟨_, _, k3, _⟩
    ·exact hc h
    ·exact k3.nl n _ hnM h0 e.symm
   dsimp only at h1 h2 ⊢
   by_cases hij : i = j
   ·rw [if_pos hij] at h1 ⊢
    by_cases hqj : q = j
    ·exact absurd (hij.trans hqj.symm) hiq
    ·rw [if_neg hqj] at h2 ⊢
     exact fun e => off q hq hqj h2 h1 e.symm
   ·rw [if_neg hij] at h1 ⊢
    by_cases hqj : q = j
    ·rw [if_pos hqj] at h2 ⊢
     exact off i hi hij h1 h2
    ·rw [if_neg hqj] at h2 ⊢
     exact hinj i q hi hq hij hqj hiq h1 h2
 ·rw [hg']
  funext m
  show (if m = n then some none else g.M m) = (L.set n none)[m]?
  rw [hR.M, List.getElem?_set]
  by_cases e : m = n
  ·subst e; simp [hnL]
  ·rw [if_neg e, if_neg fun h => e h.symm]; rfl
end
end Go.Proofs.Ytjnnkcnnandeeaa.Sh
namespace Go.Proofs.Ytjnnkcnnandeeaa.Sh
open Go
def intsD (l : List Int) : List D := l.map fun n => .v (.int .i64 n)
section
variable {P : Program} {kt : Nat} {gs : G} {n0 N : Nat} {df : List Deferred} {Q : Gh → SX → St → Prop} {ops : Array Oper} {l : List Oper} {ts : List (Nat × T)} {L : List (Option Rw)} {d : Nat} {ty : TypeId} {pos : String} {af : Array Edge}
theorem rgx_range {t e : TypeId} {x : Operand} {bm : Nat} {A : KL} (ht : P.underlying t = some (.map kt e)) (hx : opT ts x = .d (.v (.map (some bm)))) (hd : Nat.blt d N = true)
 (kk : ∀ it, RgX P kt gs n0 N df ops Q l (.it bm it A []) ⟨(d, .d (.v (.pointer (some ⟨it, 0, none⟩)))) :: ts, L⟩) : RgX P kt gs n0 N df ops Q (⟨some d, .range t x, ty, pos, af, none⟩ :: l) (.mp bm A) ⟨ts, L⟩ := by
 refine rgx_op rfl (fun c h => by cases h) fun g a hl hgh hR => ?_
 obtain ⟨es, bl, cp, hA, hls, hinj⟩ := hgh
 have hxv : a.eval x = .map (some bm) := by have := tsR_op hR.ts x; rw [hx] at this; exact this.v_eq
 obtain ⟨w', hw'⟩ : ∃ w', w' = g.w.alloc (.mapIter (some bm) es.size #[] es.size) := ⟨_, rfl⟩
 have hh : w'.heap = g.w.heap.push (.mapIter (some bm) es.size #[] es.size) := by rw [hw']; rfl
 have hsz : w'.heap.size = g.w.heap.size + 1 := by rw [hh]; simp
 have hold : ∀ b, b < g.w.heap.size → w'.heap[b]? = g.w.heap[b]? := fun b hb => by rw [hh, Array.getElem?_push, if_neg (by omega)]
 obtain ⟨K', hK'⟩ : ∃ K' : Nat → Prop, K' = fun b => g.K b ∨ ∃ i, i < A.length ∧ cp i ≠ 0 ∧ b = bl i := ⟨_, rfl⟩
 have hb : ∀ i, i < A.length → cp i ≠ 0 → Hidd gs g (bl i) ∧ bl i ≠ bm := fun i hi h0 => by
  have hie : i < es.size := by rw [hA.size]; exact hi
  rcases (hls i _ _ (List.getElem?_eq_getElem hi) (Array.getElem?_eq_getElem hie)).val with ⟨_, h, _⟩ | ⟨_, _, k3, k4, _⟩
  ·exact absurd h h0
  ·exact ⟨k3, k4⟩
 obtain ⟨hG, hV⟩ := hid_good hR.good (K' := K') (w' := w') (fun b hb _ => hold b hb) (fun b h => by rw [hK']; exact .inl h) fun b h => by
  rw [hK'] at h
  rcases h with h | ⟨i, h1, h2, rfl⟩
  ·exact ⟨by have := hR.good.kd b h; omega, hR.good.kl b h⟩
  ·exact ⟨by have := (hb i h1 h2).1.lt; omega, (hb i h1 h2).1.nl⟩
 refine ⟨.pointer (some ⟨g.w.heap.size, 0, none⟩), ⟨g.M, g.β, K', w'⟩, .it bm g.w.heap.size A [], _, .inl ?_, hid_le hl (by omega) (by rw [hw']; rfl) (by rw [hw']; rfl) (by rw [hw']; rfl) (fun b hb _ => hold b (Nat.lt_of_lt_of_le hb hl.size)) (fun b h => by rw [hK']; exact .inl h) (fun b hlt h => ?_), ?_, str_put hR hG rfl hV hd (.d (.v _ rfl)), kk _⟩
 ·simp [execOp, hxv, run_range_map g.w t kt e bm es es.size ht hA.heap, hw']
 ·rw [hK'] at h
  rcases h with h | ⟨i, h1, h2, rfl⟩
  ·exact .inl h
  ·exact .inr ((hb i h1 h2).1.base hlt)
 ·refine ⟨es, ⟨⟨hA.hid.base, by show bm < w'.heap.size; have := hA.hid.lt; omega, hA.hid.nl, fun h => ?_⟩, (hold bm hA.hid.lt).trans hA.heap, hA.size, hA.ent, hA.ko, hA.nd⟩, fun i p e hp he => ?_, ⟨fun h => absurd hl.size (by omega), by show _ < w'.heap.size; omega, fun n r hn h0 e => ?_, fun h => ?_⟩, by show w'.heap[_]? = _; rw [hh]; simp, by simp, by simp⟩
  ·rw [hK'] at h
   rcases h with h | ⟨i, h1, h2, h3⟩
   ·exact hA.hid.nk h
   ·exact (hb i h1 h2).2 h3.symm
  ·have hi := (List.getElem?_eq_some_iff.1 hp).1
   rcases (hls i p e hp he).val with ⟨h1, _, a0, h3⟩ | ⟨h0, h1, h2, h3, cells, ety, h4, h5, h6, h7⟩
   ·rw [h1, h3]; exact .arr0 1 a0 0
   ·rw [h1]
    have hlen : (intsD p.2).length = p.2.length := by simp [intsD]
    have := VD.arr (g := ⟨g.M, g.β, K', w'⟩) 1 (intsD p.2) (bl i) 0 (cp i) (fun q _ => .int .i64 (p.2.getD q 0)) (by rw [hlen]; exact h6) (by rw [hK']; exact .inr ⟨i, hi, h0, rfl⟩) (fun q y hy => ?_) (fun q y hy j z hz => ?_) (fun q y hy j z hz => ?_)
    ·rw [hlen] at this; exact this
    all_goals (simp only [intsD, List.getElem?_map, Option.map_eq_some_iff] at hy; obtain ⟨c, hc, rfl⟩ := hy)
    ·rfl
    ·have hj : j = 0 := by have := (List.getElem?_eq_some_iff.1 hz).1; simpa [D.cells] using this
     subst hj
     have h8 := h7 q c hc
     have h9 : w'.heap[bl i]? = g.w.heap[bl i]? := hold _ h2.lt
     simp [World.cell?, h9, h4, h8, List.getD_eq_getElem?_getD, hc]
    ·have hj : j = 0 := by have := (List.getElem?_eq_some_iff.1 hz).1; simpa [D.cells] using this
     subst hj
     have : z = .v (.int .i64 c) := by simpa [D.cells] using hz.symm
     subst this
     rw [List.getD_eq_getElem?_getD, hc]
     exact .v _ rfl
  ·have := (hR.good.rows n r hn).lt h0
   dsimp only at e
   omega
  ·rw [hK'] at h
   rcases h with h | ⟨i, h1, h2, h3⟩
   ·have := hR.good.kd _ h; omega
   ·have := (hb i h1 h2).1.lt; omega
theorem rgx_mentry {x : Operand} {bm it i : Nat} {A : KL} {S : List Nat} {p : List Int × List Int} (hx : opT ts x = .d (.v (.pointer (some ⟨it, 0, none⟩)))) (hp : A[i]? = some p) (hd : Nat.blt d N = true)
 (kk : RgX P kt gs n0 N df ops Q l (.it bm it A (S ++ [i])) ⟨(d, .d (.tup [.agg (intsD p.1), .arr 1 (intsD p.2)])) :: ts, L⟩) : RgX P kt gs n0 N df ops Q (⟨some d, .entry x, ty, pos, af, none⟩ :: l) (.it bm it A (S ++ [i])) ⟨ts, L⟩ := by
 refine rgx_op rfl (fun c h => by cases h) fun g a hl hgh hR => ?_
 have hgh0 := hgh
 obtain ⟨es, hA, hls, hit, hih, hnd, hS⟩ := hgh
 have hxv : a.eval x = .pointer (some ⟨it, 0, none⟩) := by have := tsR_op hR.ts x; rw [hx] at this; exact this.v_eq
 have hie : i < es.size := by rw [hA.size]; exact (List.getElem?_eq_some_iff.1 hp).1
 have he := Array.getElem?_eq_getElem hie
 have hbi : es[i].born = i := (hA.ent i p _ hp he).2
 have hki : es[i].key = keyV p.1 := (hA.ent i p _ hp he).1
 have hf : es.find? (fun e => e.born == i) = some es[i] := by
  rw [Array.find?_eq_some_iff_getElem]
  refine ⟨by simp [hbi], i, hie, rfl, fun j hj => ?_⟩
  have hje : j < es.size := by omega
  have hjA : j < A.length := by rw [← hA.size]; exact hje
  have := (hA.ent j _ _ (List.getElem?_eq_getElem hjA) (Array.getElem?_eq_getElem hje)).2
  simp [this]
  omega
 have hbk : (S ++ [i]).toArray.back? = some i := by simp
 refine ⟨.tuple #[keyV p.1, es[i].val], g, .it bm it A (S ++ [i]), _, .inl ?_, hl, hgh0, str_put hR hR.good rfl (fun _ _ h => h) hd (.d (.tup _ _ rfl fun q y c h1 h2 => ?_)), kk⟩
 ·have g1 : (getObj it).run P g.w = .ok (.mapIter (some bm) es.size (S ++ [i]).toArray es.size) g.w := by simp [getObj, Sem.run, hih]
  simp [execOp, hxv, Instr.entry, g1, hbk, MapKept.run_getObj_map hA.heap, hf, hki]
 ·match q with
  | 0 =>
   simp only [List.getElem?_cons_zero, Option.some.injEq] at h1
   have h2 : keyV p.1 = c := by simpa using h2
   subst h1 h2
   refine (.agg _ _ (by simp [intsD]) fun j y c h3 h4 => ?_)
   simp only [intsD, List.getElem?_map, Option.map_eq_some_iff] at h3
   obtain ⟨n, h5, rfl⟩ := h3
   have : c = .int .i64 n := by simpa [h5] using h4.symm
   rw [this]
   exact .v _ rfl
  | 1 =>
   simp only [List.getElem?_cons_succ, List.getElem?_cons_zero, Option.some.injEq] at h1
   have h2 : es[i].val = c := by simpa using h2
   subst h1 h2
   exact hls i p _ hp he
  | q + 2 => simp at h1
theorem rgx_next {x : Operand} {bm it : Nat} {A : KL} {S : List Nat} (hx : opT ts x = .d (.v (.pointer (some ⟨it, 0, none⟩)))) (hd : Nat.blt d N = true)
 (k1 : ∀ i, i < A.length → i ∉ S → RgX P kt gs n0 N df ops Q l (.it bm it A (S ++ [i])) ⟨(d, .tup [.d (.v (.bool true)), .bot, .bot]) :: ts, L⟩)
 (k0 : (∀ i, i < A.length → i ∈ S) → RgX P kt gs n0 N df ops Q l (.it bm it A S) ⟨(d, .d (.tup [.v (.bool false)])) :: ts, L⟩) : RgX P kt gs n0 N df ops Q (⟨some d, .next x false, ty, pos, af, none⟩ :: l) (.it bm it A S) ⟨ts, L⟩ := by
 refine rgx_op rfl (fun c h => by cases h) fun g a hl hgh hR => ?_
 have hgh0 := hgh
 obtain ⟨es, hA, hls, hit, hih, hnd, hS⟩ := hgh
 have hxv : a.eval x = .pointer (some ⟨it, 0, none⟩) := by have := tsR_op hR.ts x; rw [hx] at this; exact this.v_eq
 have hborn : ∀ (i : Nat) (h : i < es.size), es[i].born = i := fun i h => by
  have hiA : i < A.length := by rw [← hA.size]; exact h
  exact (hA.ent i _ _ (List.getElem?_eq_getElem hiA) (Array.getElem?_eq_getElem h)).2
 have hmem : ∀ e ∈ es.toList, ∃ i, ∃ h : i < es.size, es[i] = e ∧ e.born = i := fun e he => by
  obtain ⟨i, hi⟩ := List.getElem?_of_mem he
  rw [Array.getElem?_toList] at hi
  obtain ⟨h1, h2⟩ := Array.getElem?_eq_some_iff.1 hi
  exact ⟨i, h1, h2, by rw [← h2]; exact hborn i h1⟩
 have hlt : ∀ e ∈ es.toList, e.born < es.size := fun e he => by obtain ⟨i, h, _, h3⟩ := hmem e he; omega
 have g1 : (getObj it).run P g.w = .ok (.mapIter (some bm) es.size S.toArray es.size) g.w := by simp [getObj, Sem.run, hih]
 have htest := next_test_false S.toArray es es.size es.size hlt (Nat.le_refl _)
 have hleft : ∀ e ∈ (es.filter fun e => !S.toArray.contains e.born).toList, e.born < es.size := fun e he => hlt e (by simp at he ⊢; exact he.1)
 obtain ⟨Lf, hLf⟩ : ∃ Lf, Lf = es.filter fun e => !S.toArray.contains e.born := ⟨_, rfl⟩
 rw [← hLf] at hleft
 have e1 : Lf.filter (fun x => decide (x.born < es.size)) = Lf := Array.filter_eq_self.2 (fun x hx => by simpa using hleft x (by simpa using hx))
 have e2 : Lf.filter (fun x => decide (x.born ≥ es.size)) = #[] := by
  rw [Array.filter_eq_empty_iff]
  intro x hx
  have := hleft x (by simpa using hx)
  simp
  omega
 by_cases h0 : Lf.size = 0
 ·have hL0 : Lf = #[] := Array.eq_empty_of_size_eq_zero h0
  refine ⟨.tuple #[.bool false], g, .it bm it A S, _, .inl ?_, hl, hgh0, str_put hR hR.good rfl (fun _ _ h => h) hd (.d (.tup [.v (.bool false)] _ rfl fun q y c h1 h2 => ?_)), k0 fun i hi => ?_⟩
  ·simp only [execOp, hxv, Instr.next, g1, Sem.run_bind, Result.andThen, MapKept.run_getObj_map hA.heap, htest, Bool.false_eq_true, if_false, ← hLf, e1, e2, hL0]
   simp [choose, Sem.run, Question.forced]
  ·match q with
   | 0 =>
    simp only [List.getElem?_cons_zero, Option.some.injEq] at h1
    have h2 : Value.bool false = c := by simpa using h2
    subst h1 h2
    exact .v _ rfl
   | q + 1 => simp at h1
  ·have hie : i < es.size := by rw [hA.size]; exact hi
   have : es[i] ∉ Lf := by rw [hL0]; simp
   rw [hLf] at this
   simp only [Array.mem_filter, Array.getElem_mem, true_and, Bool.not_eq_true', hborn i hie] at this
   simpa using this
 ·have hne : Lf.isEmpty = false := by simp [Array.isEmpty, h0]
  have hch : ∃ (j : Nat) (w1 : World), j < Lf.size ∧ (w1.heap = g.w.heap ∧ w1.os = g.w.os ∧ w1.output = g.w.output ∧ w1.tape = g.w.tape) ∧ (choose (Question.mapNext Lf.size)).run P g.w = .ok j w1 := by
   by_cases hf : Lf.size ≤ 1
   ·exact ⟨0, g.w, by omega, ⟨rfl, rfl, rfl, rfl⟩, by simp [choose, Sem.run, Question.forced, hf]⟩
   ·exact ⟨_, g.w.drew, Nat.mod_lt _ (by omega), ⟨rfl, rfl, rfl, rfl⟩, by
     simp only [choose, Sem.run, Question.forced, decide_eq_true_eq, hf, if_false, Question.cut]
     rfl⟩
  obtain ⟨j, w1, hj, ⟨hw1, hw2, hw3, hw4⟩, hrun⟩ := hch
  obtain ⟨e0, he0⟩ : ∃ e0, Lf[j]? = some e0 := ⟨_, Array.getElem?_eq_getElem hj⟩
  have hjm : e0 ∈ Lf := Array.mem_of_getElem? he0
  rw [hLf] at hjm
  obtain ⟨i, hie, hei, hbi⟩ := hmem _ (by have := (Array.mem_filter.1 hjm).1; simpa using this)
  have hnot := (Array.mem_filter.1 hjm).2
  have hiS : i ∉ S := by
   intro h
   rw [hbi] at hnot
   simp [h] at hnot
  obtain ⟨w', hw'⟩ : ∃ w' : World, w' = { w1 with heap := w1.heap.setIfInBounds it (.mapIter (some bm) es.size (S ++ [i]).toArray es.size) } := ⟨_, rfl⟩
  have hitl : it < w1.heap.size := by rw [hw1]; exact hit.lt
  have hget : ∀ q, w'.heap[q]? = if q = it then some (.mapIter (some bm) es.size (S ++ [i]).toArray es.size) else g.w.heap[q]? := fun q => by rw [hw', ← hw1]; exact set_map_heap hitl q
  have hsize : w'.heap.size = g.w.heap.size := by rw [hw']; simp [hw1]
  have hold : ∀ b, b ≠ it → w'.heap[b]? = g.w.heap[b]? := fun b hb => by rw [hget, if_neg hb]
  have hneq : ∀ b, (g.K b ∨ ¬ NL g b) → b ≠ it := fun b h e => by subst e; rcases h with h | h; exact hit.nk h; exact h hit.nl
  have hbm : bm ≠ it := fun e => by have := hA.heap; rw [e, hih] at this; cases this
  obtain ⟨hG, hV⟩ := hid_good hR.good (K' := g.K) (w' := w') (fun b _ h => hold b (hneq b h)) (fun _ h => h) fun b hb => ⟨by rw [hsize]; exact hR.good.kd b hb, hR.good.kl b hb⟩
  have hst : ∀ b, Hidd gs g b → Hidd gs (⟨g.M, g.β, g.K, w'⟩ : G) b := fun b h => ⟨h.base, by show b < w'.heap.size; rw [hsize]; exact h.lt, h.nl, h.nk⟩
  have hiA : i < A.length := by rw [← hA.size]; exact hie
  refine ⟨.tuple #[.bool true, e0.key, e0.val], ⟨g.M, g.β, g.K, w'⟩, .it bm it A (S ++ [i]), _, .inl ?_, hid_le hl (by omega) (by rw [hw']; exact hw2) (by rw [hw']; exact hw4) (by rw [hw']; exact hw3) (fun b hb hnl => hold b fun e => by subst e; exact hit.base hb hnl) (fun _ h => h) (fun _ _ h => .inl h), ?_, str_put hR hG rfl hV hd (.tup [.d (.v (.bool true)), .bot, .bot] _ rfl fun q y c h1 h2 => ?_), k1 i hiA hiS⟩
  ·have hso : ∀ o, (setObj it o).run P w1 = .ok () { w1 with heap := w1.heap.setIfInBounds it o } := fun o => by
    have : w1.heap[it]? = some (.mapIter (some bm) es.size S.toArray es.size) := by rw [hw1]; exact hih
    simp [setObj, Sem.run, this]
   have hjc : (Lf.map some)[j]? = some (some e0) := by rw [Array.getElem?_map, he0]; rfl
   simp only [execOp, hxv, Instr.next, g1, Sem.run_bind, Result.andThen, MapKept.run_getObj_map hA.heap, htest, Bool.false_eq_true, if_false, ← hLf, e1, e2, hne, Array.append_empty, Array.empty_append, Array.size_map, hrun, hjc, hso, hbi, Sem.run_pure]
   rw [hw']
   simp
  ·refine ⟨es, ⟨hst bm hA.hid, (hold bm hbm).trans hA.heap, hA.size, hA.ent, hA.ko, hA.nd⟩, fun q p e hp he => ?_, hst it hit, by show w'.heap[it]? = _; rw [hget, if_pos rfl], ?_, fun q hq => ?_⟩
   ·have := hV _ _ (.d (hls q p e hp he))
    cases this with | d h => exact h
   ·rw [List.nodup_append]
    exact ⟨hnd, by simp, fun q hq z hz => by simp at hz; subst hz; exact fun e => hiS (e ▸ hq)⟩
   ·rcases List.mem_append.1 hq with h | h
    ·exact hS q h
    ·simp at h; subst h; exact hiA
  ·match q with
   | 0 =>
    simp only [List.getElem?_cons_zero, Option.some.injEq] at h1
    have h2 : Value.bool true = c := by simpa using h2
    subst h1 h2
    exact .d (.v _ rfl)
   | 1 =>
    simp only [List.getElem?_cons_succ, List.getElem?_cons_zero, Option.some.injEq] at h1
    subst h1
    exact .bot _
   | 2 =>
    simp only [List.getElem?_cons_succ, List.getElem?_cons_zero, Option.some.injEq] at h1
    subst h1
    exact .bot _
   | q + 3 => simp at h1
end
end Go.Proofs.Ytjnnkcnnandeeaa.Sh
namespace Go.Proofs.Ytjnnkcnnandeeaa.Sh
open Go
theorem vts_ints {g : G} {ns : List Int} {vs : List Value} (h : VTs g (ns.map fun n => .d (.v (.int .i64 n))) vs) : vs = ns.map (Value.int .i64) := by
 obtain ⟨hl, hv⟩ := h
 rw [List.length_map] at hl
 apply List.ext_getElem?
 intro i
 by_cases hi : i < ns.length
 ·have h2 := hv i (.d (.v (.int .i64 ns[i]))) vs[i] (by simp [hi]) (List.getElem?_eq_getElem (by omega))
  rw [List.getElem?_eq_getElem (by omega), h2.v_eq, List.getElem?_map, List.getElem?_eq_getElem hi]
  rfl
 ·rw [List.getElem?_eq_none (by omega), List.getElem?_eq_none (by simp; omega)]
theorem flat_ints (l : List Int) : flat (intsT l) = intsT l := by
 unfold flat intsT
 induction l with
 | nil => rfl
 | cons x l ih => rw [List.map_cons, List.flatMap_cons, ih]; rfl
theorem ints_agg {g : G} {l : List Int} {c : Value} (h : VT g (.d (.agg (intsD l))) c) : c = keyV l := by
 rw [show intsD l = (l.map (Value.int .i64)).map D.v by unfold intsD; rw [List.map_map]; rfl] at h
 exact vd_vals h
theorem agg_ints {g : G} (l : List Int) : VT g (.d (.agg (intsD l))) (keyV l) := by
 refine .d (.agg _ _ (by simp [intsD]) fun j y c h3 h4 => ?_)
 simp only [intsD, List.getElem?_map, Option.map_eq_some_iff] at h3
 obtain ⟨n, h5, rfl⟩ := h3
 have : c = .int .i64 n := by simpa [h5] using h4.symm
 rw [this]
 exact .v _ rfl
section
variable {P : Program} {kt : Nat} {gs : G} {n0 N : Nat} {df : List Deferred} {Q : Gh → SX → St → Prop} {ops : Array Oper} {l : List Oper} {ts : List (Nat × T)} {L : List (Option Rw)} {d : Nat} {ty : TypeId} {pos : String} {af : Array Edge}
theorem rgx_weak {x x' : Gh} {st : St} (hw : ∀ g, GhP P kt gs x g → GhP P kt gs x' g) (h : RgX P kt gs n0 N df ops Q l x' st) : RgX P kt gs n0 N df ops Q l x st := fun F nn hF g a R hl hx hR k => h F nn hF g a R hl (hw g hx) hR k
theorem rgx_unkey {bm bk : Nat} {A : KL} {k : List Int} {st : St} (h : RgX P kt gs n0 N df ops Q l (.mp bm A) st) : RgX P kt gs n0 N df ops Q l (.mk bm A bk k) st :=
 rgx_weak (x' := .mp bm A) (fun _ hx => by obtain ⟨es, bl, cp, h1, h2, h3, _⟩ := hx; exact ⟨es, bl, cp, h1, h2, h3⟩) h
theorem key_set {g : G} {a : Act} {bm bk : Nat} {A : KL} {k k' : List Int} {w' : World} {st : St} (hl : LeN n0 gs g) (hx : GhP P kt gs (.mk bm A bk k) g) (hR : StR g N st a df) (hw : w' = g.w.setRow bk (k'.map (Value.int .i64)).toArray) :
 ∃ g', g'.w = w' ∧ LeN n0 gs g' ∧ GhP P kt gs (.mk bm A bk k') g' ∧ Good g' ∧ g'.M = g.M ∧ ∀ t c, VT g t c → VT g' t c := by
 obtain ⟨es, bl, cp, hA, hls, hinj, hbk, hbh, hbm, ety, hcell⟩ := hx
 have hold : ∀ b, b ≠ bk → w'.heap[b]? = g.w.heap[b]? := fun b hb => by rw [hw]; exact setRow_other _ _ _ _ hb
 have hnew : w'.heap[bk]? = some (.cells (k'.map (Value.int .i64)).toArray ety (0, 0)) := by rw [hw]; exact setRow_heap _ _ _ _ _ _ hcell
 have hsize : w'.heap.size = g.w.heap.size := by rw [hw]; simp
 have hne : ∀ b, (g.K b ∨ ¬ NL g b) → b ≠ bk := fun b h e => by subst e; rcases h with h | h; exact hbh.nk h; exact h hbh.nl
 obtain ⟨hG, hV⟩ := hid_good hR.good (K' := g.K) (w' := w') (fun b _ h => hold b (hne b h)) (fun _ h => h) fun b hb => ⟨by rw [hsize]; exact hR.good.kd b hb, hR.good.kl b hb⟩
 have hst : ∀ b, Hidd gs g b → Hidd gs (⟨g.M, g.β, g.K, w'⟩ : G) b := fun b h => ⟨h.base, by show b < w'.heap.size; rw [hsize]; exact h.lt, h.nl, h.nk⟩
 refine ⟨⟨g.M, g.β, g.K, w'⟩, rfl, hid_le hl (by omega) (by rw [hw]; rfl) (by rw [hw]; rfl) (by rw [hw]; rfl) (fun b hb hnl => hold b fun e => by subst e; exact hbh.base hb hnl) (fun _ h => h) (fun _ _ h => .inl h), ?_, hG, rfl, hV⟩
 refine ⟨es, bl, cp, ⟨hst bm hA.hid, (hold bm fun e => hbm e.symm).trans hA.heap, hA.size, hA.ent, hA.ko, hA.nd⟩, fun i p e hp he => ⟨?_⟩, hinj, hbk, hst bk hbh, hbm, ety, hnew⟩
 rcases (hls i p e hp he).val with h | ⟨k1, k2, k3, k4, cells, ety', k5, k6⟩
 ·exact .inl h
 ·exact .inr ⟨k1, k2, hst _ k3, k4, cells, ety', (hold _ (hbk i (List.getElem?_eq_some_iff.1 hp).1 k1)).trans k5, k6⟩
theorem rgx_kalloc {t : TypeId} {i : TI} {bm : Nat} {A : KL} {k0 : List Int} (ht : TOk P t i) (hz : i.z = .d (.agg (intsD k0))) (hd : Nat.blt d N = true)
 (kk : ∀ bk, RgX P kt gs n0 N df ops Q l (.mk bm A bk k0) ⟨(d, .d (.v (.pointer (some ⟨bk, 0, none⟩)))) :: ts, L⟩) : RgX P kt gs n0 N df ops Q (⟨some d, .alloc t, ty, pos, af, none⟩ :: l) (.mp bm A) ⟨ts, L⟩ := by
 refine rgx_op rfl (fun c h => by cases h) fun g a hl hgh hR => ?_
 obtain ⟨es, bl, cp, hA, hls, hinj⟩ := hgh
 obtain ⟨info, zv, hi, hzi, _, _, _, hzv, _, _⟩ := ht.info
 have hzk : zv = keyV k0 := ints_agg (g := g) (hz ▸ hzv ▸ VT.ofV g zv)
 obtain ⟨w', hw'⟩ : ∃ w', w' = g.w.alloc (.cells (keyV k0).cells t) := ⟨_, rfl⟩
 have hh : w'.heap = g.w.heap.push (.cells (keyV k0).cells t) := by rw [hw']; rfl
 have hsz : w'.heap.size = g.w.heap.size + 1 := by rw [hh]; simp
 have hold : ∀ b, b < g.w.heap.size → w'.heap[b]? = g.w.heap[b]? := fun b hb => by rw [hh, Array.getElem?_push, if_neg (by omega)]
 obtain ⟨hG, hV⟩ := hid_good hR.good (K' := g.K) (w' := w') (fun b hb _ => hold b hb) (fun _ h => h) fun b hb => ⟨by have := hR.good.kd b hb; omega, hR.good.kl b hb⟩
 have hst : ∀ b, Hidd gs g b → Hidd gs (⟨g.M, g.β, g.K, w'⟩ : G) b := fun b h => ⟨h.base, by show b < w'.heap.size; have := h.lt; omega, h.nl, h.nk⟩
 refine ⟨.pointer (some ⟨g.w.heap.size, 0, none⟩), ⟨g.M, g.β, g.K, w'⟩, .mk bm A g.w.heap.size k0, _, .inl ?_, hid_le hl (by omega) (by rw [hw']; rfl) (by rw [hw']; rfl) (by rw [hw']; rfl) (fun b hb _ => hold b (Nat.lt_of_lt_of_le hb hl.size)) (fun _ h => h) (fun _ _ h => .inl h), ?_, str_put hR hG rfl hV hd (.d (.v _ rfl)), kk _⟩
 ·simp [execOp, Instr.alloc, zeroValue, typeInfo, hi, hzi, newVar, newRow, hzk, hw']
 ·refine ⟨es, bl, cp, ⟨hst bm hA.hid, (hold bm hA.hid.lt).trans hA.heap, hA.size, hA.ent, hA.ko, hA.nd⟩, fun i p e hp he => ⟨?_⟩, hinj, fun i hi h0 => ?_, ⟨fun h => absurd hl.size (by omega), by show _ < w'.heap.size; omega, fun n r hn h0 e => ?_, fun h => ?_⟩, fun e => ?_, t, by show w'.heap[_]? = _; rw [hh]; simp [keyV, Value.cells]⟩
  ·rcases (hls i p e hp he).val with h | ⟨k1, k2, k3, k4, cells, ety, k5, k6⟩
   ·exact .inl h
   ·exact .inr ⟨k1, k2, hst _ k3, k4, cells, ety, (hold _ k3.lt).trans k5, k6⟩
  ·have hie : i < es.size := by rw [hA.size]; exact hi
   rcases (hls i _ _ (List.getElem?_eq_getElem hi) (Array.getElem?_eq_getElem hie)).val with ⟨_, h, _⟩ | ⟨_, _, k3, _⟩
   ·exact absurd h h0
   ·have := k3.lt; omega
  ·have := (hR.good.rows n r hn).lt h0
   dsimp only at e
   omega
  ·have := hR.good.kd _ h
   omega
  ·have := hA.hid.lt; omega
theorem rgx_kstore {t : TypeId} {i : TI} {x y : Operand} {bm bk : Nat} {A : KL} {k k' : List Int} (ht : TOk P t i) (hsz : i.size = k'.length) (hsz2 : k.length = k'.length) (hx : opT ts x = .d (.v (.pointer (some ⟨bk, 0, none⟩)))) (hy : opT ts y = .d (.agg (intsD k')))
 (kk : RgX P kt gs n0 N df ops Q l (.mk bm A bk k') ⟨ts, L⟩) : RgX P kt gs n0 N df ops Q (⟨none, .store t x y, ty, pos, af, none⟩ :: l) (.mk bm A bk k) ⟨ts, L⟩ := by
 refine rgx_op rfl (fun c h => by cases h) fun g a hl hgh hR => ?_
 have hgh0 := hgh
 obtain ⟨es, bl, cp, hA, hls, hinj, hbk, hbh, hbm, ety, hcell⟩ := hgh
 have hxv : a.eval x = .pointer (some ⟨bk, 0, none⟩) := by have := tsR_op hR.ts x; rw [hx] at this; exact this.v_eq
 have hyv : a.eval y = keyV k' := by have := tsR_op hR.ts y; rw [hy] at this; exact ints_agg this
 obtain ⟨g', hw, h1, h2, h3, h4, h5⟩ := key_set (k' := k') hl hgh0 hR rfl
 have hst := run_storeCells_at P bk 0 ety (k'.map (Value.int .i64)) 0 (k.map (Value.int .i64)).toArray g.w hcell (by simp [hsz2]) (fun v hv => by obtain ⟨n, _, rfl⟩ := List.mem_map.1 hv; rfl)
 rw [show (List.take (0 + 0) (k.map (Value.int .i64)).toArray.toList ++ k'.map (Value.int .i64) ++ List.drop (0 + 0 + (k'.map (Value.int .i64)).length) (k.map (Value.int .i64)).toArray.toList) = k'.map (Value.int .i64) by
  rw [List.drop_eq_nil_of_le (by simp [hsz2])]; simp] at hst
 refine ⟨undef, g', .mk bm A bk k', ⟨ts, L⟩, .inr ⟨?_, rfl⟩, h1, h2, ⟨h3, h4.trans hR.M, hR.size, fun i => h5 _ _ (hR.ts i), hR.df⟩, kk⟩
 rw [hw]
 have hcs : (keyV k').cells = (k'.map (Value.int .i64)).toArray := rfl
 simp [execOp, hxv, hyv, Instr.storeAt, Instr.sureAddr, storeVar, ht.run_size, hsz, hcs]
 rw [show List.map (Value.int IntKind.i64) k' = k'.map (Value.int .i64) from rfl, hst]
 rfl
theorem rgx_kload {t : TypeId} {i : TI} {x : Operand} {bm bk : Nat} {A : KL} {k : List Int} (ht : TOk P t i) (ha : i.agg = true) (hsz : i.size = k.length) (hx : opT ts x = .d (.v (.pointer (some ⟨bk, 0, none⟩)))) (hd : Nat.blt d N = true)
 (kk : RgX P kt gs n0 N df ops Q l (.mk bm A bk k) ⟨(d, .d (.agg (intsD k))) :: ts, L⟩) : RgX P kt gs n0 N df ops Q (⟨some d, .load t x, ty, pos, af, none⟩ :: l) (.mk bm A bk k) ⟨ts, L⟩ := by
 refine rgx_op rfl (fun c h => by cases h) fun g a hl hgh hR => ?_
 have hgh0 := hgh
 obtain ⟨es, bl, cp, hA, hls, hinj, hbk, hbh, hbm, ety, hcell⟩ := hgh
 have hxv : a.eval x = .pointer (some ⟨bk, 0, none⟩) := by have := tsR_op hR.ts x; rw [hx] at this; exact this.v_eq
 have hlc := run_loadCells_list (P := P) g.w ⟨bk, 0, none⟩ (k.map (Value.int .i64)) (fun j v hj => by
  rw [add_mid]
  simp [World.cell?, hcell] at hj ⊢
  simpa using hj)
 rw [List.length_map, ← hsz] at hlc
 refine ⟨keyV k, g, .mk bm A bk k, _, .inl ?_, hl, hgh0, str_put hR hR.good rfl (fun _ _ h => h) hd (agg_ints k), kk⟩
 simp [execOp, hxv, Instr.loadAt, Instr.sureAddr, loadVar, ht.run_isAgg, ha, ht.run_size, hlc]
 rfl
theorem o_kslice {P : Program} {o : Oper} {fresh : Nat} {t e : TypeId} {i ei : TI} {x y : Operand} {m lo bk : Nat} {kd : IntKind} (hop : o.op = .slice t x (some y) none none) (ht : TOk P t i) (ha : i.ar = some (m, e)) (he : TOk P e ei) (hez : ei.size = 1) (hlo : lo < m) :
 OpS P o [(x, .d (.v (.pointer (some ⟨bk, 0, none⟩)))), (y, .d (.v (.int kd lo)))] [] [] fresh [] (.d (.v (.slice (some ⟨bk, lo, none⟩) (m - lo) (m - lo)))) :=
 .of_pure (fun c h => by rw [hop] at h; cases h) fun g a hg hi hr => by
  have hx := (hi (x, .d (.v (.pointer (some ⟨bk, 0, none⟩)))) (by simp)).v_eq
  have hy := (hi (y, .d (.v (.int kd lo))) (by simp)).v_eq
  dsimp only at hx hy
  have hne : m ≠ lo := by omega
  have hle : lo ≤ m := by omega
  refine ⟨.slice (some ⟨bk, lo, none⟩) (m - lo) (m - lo), ?_, .d (.v _ rfl)⟩
  simp [execOp, hop, hx, hy, Instr.sliceAt, run_underlying (ht.array ha), Instr.sureAddr, Instr.sliceBounds, Instr.sliceBound, asIntOf, he.run_size, hez, hne, hle, add_mid]
theorem rgx_kcopy {t e : TypeId} {i : TI} {x y : Operand} {bm bk lo n : Nat} {A : KL} {k v : List Int} (ht : TOk P t i) (hsl : i.sl = some e) (hez : (P.info? e).map (·.size) = some 1) (hx : opT ts x = .d (.v (.slice (some ⟨bk, lo, none⟩) n n))) (hy : opT ts y = .d (.arr 1 (intsD v))) (hn : lo + n = k.length) (hd : Nat.blt d N = true)
 (kk : RgX P kt gs n0 N df ops Q l (.mk bm A bk (copyL k lo n v)) ⟨(d, .d (.v (.int .i64 (min v.length n : Nat)))) :: ts, L⟩) : RgX P kt gs n0 N df ops Q (⟨some d, .call { callee := .builtin .copy, args := #[x, y], argTypes := #[t, t] }, ty, pos, af, none⟩ :: l) (.mk bm A bk k) ⟨ts, L⟩ := by
 refine rgx_op rfl (fun c h => by cases h) fun g a hl hgh hR => ?_
 have hgh0 := hgh
 obtain ⟨es, bl, cp, hA, hls, hinj, hbk, hbh, hbm, ety, hcell⟩ := hgh
 have hxv : a.eval x = .slice (some ⟨bk, lo, none⟩) n n := by have := tsR_op hR.ts x; rw [hx] at this; exact this.v_eq
 have hyT := tsR_op hR.ts y
 rw [hy] at hyT
 obtain ⟨S0, cap, vs, hyv, hs, hvs, hrd⟩ := src_spec hR.good hyT (l := intsT v) (s := 1) (rn := []) (.inr (.inl ⟨intsD v, rfl, by unfold intsT intsD; rw [List.map_map]; rfl⟩)) (by simp)
 rw [flat_ints] at hvs
 have hvv := vts_ints hvs
 have hlen : (intsT v).length = v.length := by simp [intsT]
 rw [hlen] at hyv hrd
 obtain ⟨m, hm⟩ : ∃ m, min v.length n = m := ⟨_, rfl⟩
 obtain ⟨g', hw, h1, h2, h3, h4, h5⟩ := key_set (k' := copyL k lo n v) hl hgh0 hR rfl
 refine ⟨.int .i64 ((min v.length n : Nat) : Int), g', .mk bm A bk (copyL k lo n v), _, .inl ?_, h1, h2, str_put hR h3 h4 h5 hd (.d (.v _ rfl)), kk⟩
 rw [hw]
 unfold copyL
 rw [hm]
 by_cases hm0 : m = 0
 ·subst hm0
  have hrun := run_copy_none (P := P) g.w t t ty e (some ⟨bk, lo, none⟩) S0 n n v.length cap (ht.slice hsl) hez (by simpa [Nat.min_def] using hm)
  have hself := setRow_self g.w bk _ ety (0, 0) hcell
  simp [execOp, resolve, invoke, builtin, hxv, hyv, hrun, hself, goInt]
 ·obtain ⟨ad, rfl, hrda⟩ := hrd (by omega)
  have hvl : ((v.map (Value.int .i64)).take m).length = m := by rw [List.length_take, List.length_map]; omega
  have hrun := run_copy_row (P := P) g.w t t ty e bk lo n n ad v.length cap (k.map (Value.int .i64)).toArray ety ((v.map (Value.int .i64)).take m) (ht.slice hsl) hez hcell (by rw [hvl]; simpa [Nat.min_def] using hm.symm)
   (fun j z hj => hrda j z (by rw [hvv]; rw [List.getElem?_take] at hj; split at hj; exact hj; cases hj)) (by rw [hvl]; simp; omega) (fun z hz => by obtain ⟨q, _, rfl⟩ := List.mem_map.1 (List.mem_of_mem_take hz); rfl)
  rw [hvl] at hrun
  simp [execOp, resolve, invoke, builtin, hxv, hyv, hrun, List.map_take, List.map_drop, goInt]
end
end Go.Proofs.Ytjnnkcnnandeeaa.Sh
namespace Go.Proofs.Ytjnnkcnnandeeaa.Sh
open Go
def inR (n : Int) : Bool := decide (-9223372036854775808 ≤ n) && decide (n ≤ 9223372036854775807)
def keyB (m : Nat) (k : List Int) : Bool := Nat.beq k.length m && k.all inR
theorem mapM_some {α β : Type} {f : α → Option β} {g : α → β} : ∀ {l : List α}, (∀ x ∈ l, f x = some (g x)) → l.mapM f = some (l.map g)
 | [], _ => rfl
 | x :: l, h => by
  rw [List.mapM_cons, h x (by simp), mapM_some (l := l) fun y hy => h y (by simp [hy])]
  rfl
theorem keyOf_ints {P : Program} {k e : TypeId} {n : Nat} (hk : P.underlying k = some (.array n e)) (he : P.underlying e = some (.int .i64)) (hkt : P.keyType k = true) (hc : P.cellsOf k = n) (hce : P.cellsOf e = 1) (ht : 0 < P.types.size) {l : List Int} (hl : keyB n l = true) : ∃ q, keyOf P k (keyV l) = some q := by
 unfold keyB at hl
 rw [Bool.and_eq_true, List.all_eq_true] at hl
 obtain ⟨h1, h2⟩ := hl
 have hlen := Nat.eq_of_beq_eq_true h1
 obtain ⟨s, hs⟩ : ∃ s, P.types.size = s + 1 := ⟨P.types.size - 1, by omega⟩
 have hcs : (keyV l).cells.toList = l.map (Value.int .i64) := by simp [keyV, Value.cells]
 have hm : (List.range n).mapM (fun i => P.keyLits (s + 1) e (((l.map (Value.int .i64)).drop (i * 1)).take 1)) = some ((List.range n).map fun i => [Lit.int .i64 (l.getD i 0)]) := by
  refine mapM_some fun i hi => ?_
  have hi : i < l.length := by rw [hlen]; exact List.mem_range.1 hi
  have hd : ((l.map (Value.int .i64)).drop (i * 1)).take 1 = [Value.int .i64 (l.getD i 0)] := by
   rw [Nat.mul_one, ← List.map_drop, ← List.map_take, List.drop_eq_getElem_cons hi, List.getD_eq_getElem?_getD, List.getElem?_eq_getElem hi]
   rfl
  rw [hd]
  have hw : (Lit.int .i64 (l.getD i 0)).wf = true := by
   have := h2 (l.getD i 0) (by rw [List.getD_eq_getElem?_getD, List.getElem?_eq_getElem hi]; exact List.getElem_mem hi)
   unfold inR at this
   simp only [Bool.and_eq_true, decide_eq_true_eq] at this
   have hmn : IntKind.i64.min = -9223372036854775808 := by decide
   have hmx : IntKind.i64.max = 9223372036854775807 := by decide
   simp only [Lit.wf, hmn, hmx, Bool.and_eq_true, decide_eq_true_eq]
   exact this
  simp only [Program.keyLits, he, hw, and_self, if_true]
 unfold keyOf
 rw [hk]
 have hf : (keyV l).formed P k = true := by simp [keyV, Value.formed, hk, hc, hlen]
 simp only [hkt, hf, Bool.and_self, if_true, hcs]
 rw [hs]
 unfold Program.keyLits
 simp only [hk, hc, hce, List.length_map, hlen, if_true, hm, Option.map_some]
 exact ⟨_, rfl⟩
def keyF (m : Nat) (n : Int) (ws : List Int) : List Int := copyL (n :: List.replicate m 0) 1 m ws
theorem keyF_len (m : Nat) (n : Int) (ws : List Int) : m + 1 = (keyF m n ws).length := by
 unfold keyF copyL
 simp only [List.length_append, List.length_take, List.length_drop, List.length_cons, List.length_replicate]
 omega
theorem kadd_self (A : KL) (k : List Int) : (kadd A k)[kidx A k]? = some (k, kget A k) := by
 obtain ⟨v, h1, h2⟩ := kadd_at A k
 rw [h1, h2]
section
variable {P : Program} {N : Nat} {ops : Array Oper} {l : List Oper} {ts : List (Nat × T)} {L : List (Option Rw)} {tr : List Stp} {K : List Oper → List Stp → St → Prop} {d : Nat} {ty : TypeId} {pos : String} {af : Array Edge} {gd : Option (Nat × Bool)}
theorem r_kslice {t e : TypeId} {i ei : TI} {x y : Operand} {m lo bk : Nat} {kd : IntKind} (tb : Tab P) (ht : tb.f t = some i) (ha : i.ar = some (m, e)) (he : tb.f e = some ei) (hez : ei.size = 1) (hx : opT ts x = .d (.v (.pointer (some ⟨bk, 0, none⟩)))) (hy : opT ts y = .d (.v (.int kd lo))) (hlo : Nat.blt lo m = true) (hw : wantT ops ts ⟨some d, .slice t x (some y) none none, ty, pos, af, gd⟩ = some true) (hd : Nat.blt d N = true)
  (kk : EvK P N ops l ⟨(d, .d (.v (.slice (some ⟨bk, lo, none⟩) (m - lo) (m - lo)))) :: ts, L⟩ (tr ++ [.run [] []]) K) : EvK P N ops (⟨some d, .slice t x (some y) none none, ty, pos, af, gd⟩ :: l) ⟨ts, L⟩ tr K :=
 ev_val (ins := [(x, .d (.v (.pointer (some ⟨bk, 0, none⟩)))), (y, .d (.v (.int kd lo)))]) rfl (o_kslice rfl (tb.ok _ _ ht) ha (tb.ok _ _ he) hez (by rwa [Nat.blt_eq] at hlo)) hw (by simp [Op.operands, hx, hy]) (by simp) hd kk
end
end Go.Proofs.Ytjnnkcnnandeeaa.Sh
namespace Go.Proofs.Ytjnnkcnnandeeaa.Sh
open Go
theorem el_form {g : G} {s c : Nat} {k : List Int} {v : Value} (h : VT g (.d (.el s [.agg (intsD k)] 0 c)) v) : ∃ b off, v = .pointer (some ⟨b, off + c, none⟩) ∧ k.length = s ∧ g.K b ∧ ∀ (j : Nat) (n : Int), k[j]? = some n → g.w.cell? ⟨b, off + j, none⟩ = some (.int .i64 n) := by
 cases h with | d h =>
 cases h with | el _ _ _ _ b off f hK hs hw hv =>
 refine ⟨b, off, by rw [Nat.zero_mul, Nat.add_zero], ?_, hK (by simp), fun j n hj => ?_⟩
 ·have := hs 0 _ rfl
  simpa [D.cells, intsD] using this
 ·have he : (D.agg (intsD k)).cells[j]? = some (.v (.int .i64 n)) := by simp [D.cells, intsD, hj]
  have h1 := hw 0 _ rfl j _ he
  have h2 := hv 0 _ rfl j _ he
  rw [Nat.zero_mul, Nat.add_zero] at h1
  rw [h1]
  have := (VT.d h2).v_eq
  rw [this]
theorem o_slEl {P : Program} {o : Oper} {fresh : Nat} {t e : TypeId} {i ei : TI} {x y z : Operand} {m lo hi : Nat} {k : List Int} {kd kd2 : IntKind} (hop : o.op = .slice t x (some y) (some z) none) (ht : TOk P t i) (ha : i.ar = some (m, e)) (he : TOk P e ei) (hez : ei.size = 1) (h1 : lo ≤ hi) (h2 : hi ≤ k.length) (hlo : lo < m) :
 OpS P o [(x, .d (.el m [.agg (intsD k)] 0 0)), (y, .d (.v (.int kd lo))), (z, .d (.v (.int kd2 hi)))] [] [] fresh [] (.d (.arr 1 (intsD ((k.drop lo).take (hi - lo))))) :=
 .of_pure (fun c h => by rw [hop] at h; cases h) fun g a hg hi' hr => by
  have hx := hi' (x, .d (.el m [.agg (intsD k)] 0 0)) (by simp)
  have hy := (hi' (y, .d (.v (.int kd lo))) (by simp)).v_eq
  have hz := (hi' (z, .d (.v (.int kd2 hi))) (by simp)).v_eq
  dsimp only at hx hy hz
  obtain ⟨b, off, hv, hlen, hK, hcell⟩ := el_form hx
  have hne : m ≠ lo := by omega
  have hle : lo ≤ hi := h1
  have hhm : hi ≤ m := by omega
  obtain ⟨q, hq⟩ : ∃ q, q = (k.drop lo).take (hi - lo) := ⟨_, rfl⟩
  have hql : q.length = hi - lo := by rw [hq, List.length_take, List.length_drop]; omega
  have hqi : (intsD q).length = hi - lo := by simpa [intsD] using hql
  have hqg : ∀ (j : Nat) (n : Int), q[j]? = some n → k[lo + j]? = some n := fun j n hj => by
   rw [hq, List.getElem?_take] at hj
   split at hj
   ·rwa [List.getElem?_drop] at hj
   ·cases hj
  refine ⟨.slice (some ⟨b, off + lo, none⟩) (hi - lo) (m - lo), ?_, ?_⟩
  ·simp [execOp, hop, hv, hy, hz, Instr.sliceAt, run_underlying (ht.array ha), Instr.sureAddr, Instr.sliceBounds, Instr.sliceBound, asIntOf, he.run_size, hez, hne, hle, hhm, add_mid]
  ·rw [← hq]
   have := VD.arr (g := g) 1 (intsD q) b (off + lo) (m - lo) (fun j _ => .int .i64 (q.getD j 0)) (by rw [hqi]; omega) hK (fun j y hj => ?_) (fun j y hj c e' hc => ?_) (fun j y hj c e' hc => ?_)
   ·rw [hqi] at this; exact .d this
   all_goals (simp only [intsD, List.getElem?_map, Option.map_eq_some_iff] at hj; obtain ⟨n, hn, rfl⟩ := hj)
   ·rfl
   ·have hc0 : c = 0 := by have := (List.getElem?_eq_some_iff.1 hc).1; simpa [D.cells] using this
    subst hc0
    rw [List.getD_eq_getElem?_getD, hn]
    have := hcell (lo + j) n (hqg j n hn)
    rw [Nat.mul_one, Nat.add_zero, Nat.add_assoc]
    exact this
   ·have hc0 : c = 0 := by have := (List.getElem?_eq_some_iff.1 hc).1; simpa [D.cells] using this
    subst hc0
    have : e' = .v (.int .i64 n) := by simpa [D.cells] using hc.symm
    subst this
    rw [List.getD_eq_getElem?_getD, hn]
    exact .v _ rfl
theorem o_ixEl {P : Program} {o : Oper} {fresh : Nat} {t e : TypeId} {i ei : TI} {x y : Operand} {m s : Nat} {k : List Int} {kd : IntKind} (hop : o.op = .indexAddr t x y) (ht : TOk P t i) (ha : i.ar = some (m, e)) (he : TOk P e ei) (hm : 0 < m) :
 OpS P o [(x, .d (.el s [.agg (intsD k)] 0 0)), (y, .d (.v (.int kd 0)))] [] [] fresh [] (.d (.el s [.agg (intsD k)] 0 0)) :=
 .of_pure (fun c h => by rw [hop] at h; cases h) fun g a hg hi hr => by
  have hx := hi (x, .d (.el s [.agg (intsD k)] 0 0)) (by simp)
  have hy := (hi (y, .d (.v (.int kd 0))) (by simp)).v_eq
  dsimp only at hx hy
  obtain ⟨b, off, hv, _⟩ := el_form hx
  refine ⟨.pointer (some ⟨b, off + 0, none⟩), ?_, by rw [hv] at hx; exact hx⟩
  simp [execOp, hop, hv, hy, Instr.indexAt, asIntOf, run_underlying (ht.array ha), Instr.sureAddr, he.run_size, add_mid, hm]
section
variable {P : Program} {N : Nat} {ops : Array Oper} {l : List Oper} {ts : List (Nat × T)} {L : List (Option Rw)} {tr : List Stp} {K : List Oper → List Stp → St → Prop} {d : Nat} {ty : TypeId} {pos : String} {af : Array Edge} {gd : Option (Nat × Bool)}
theorem r_slEl {t e : TypeId} {i ei : TI} {x y z : Operand} {m lo : Nat} {k w : List Int} {hi : Int} {kd kd2 : IntKind} (tb : Tab P) (ht : tb.f t = some i) (ha : i.ar = some (m, e)) (he : tb.f e = some ei) (hez : ei.size = 1) (hx : opT ts x = .d (.el m [.agg (intsD k)] 0 0)) (hy : opT ts y = .d (.v (.int kd lo))) (hz : opT ts z = .d (.v (.int kd2 hi))) (hlo : Nat.blt lo m = true) (hq : cutO k lo hi = some w) (hw : wantT ops ts ⟨some d, .slice t x (some y) (some z) none, ty, pos, af, gd⟩ = some true) (hd : Nat.blt d N = true)
  (kk : EvK P N ops l ⟨(d, .d (.arr 1 (intsD w))) :: ts, L⟩ (tr ++ [.run [] []]) K) : EvK P N ops (⟨some d, .slice t x (some y) (some z) none, ty, pos, af, gd⟩ :: l) ⟨ts, L⟩ tr K := by
 unfold cutO at hq
 split at hq
 ·rename_i h
  injection hq with hq
  subst hq
  obtain ⟨n, rfl⟩ := Int.eq_ofNat_of_zero_le (Int.le_trans h.1 h.2.1)
  refine ev_val (ins := [(x, .d (.el m [.agg (intsD k)] 0 0)), (y, .d (.v (.int kd lo))), (z, .d (.v (.int kd2 n)))]) rfl (o_slEl rfl (tb.ok _ _ ht) ha (tb.ok _ _ he) hez (by omega) (by omega) (by rwa [Nat.blt_eq] at hlo)) hw (by simp [Op.operands, hx, hy, hz]) (by simp) hd ?_
  simpa using kk
 ·cases hq
theorem r_ixEl {t e : TypeId} {i ei : TI} {x y : Operand} {m s : Nat} {k : List Int} {kd : IntKind} (tb : Tab P) (ht : tb.f t = some i) (ha : i.ar = some (m, e)) (he : tb.f e = some ei) (hx : opT ts x = .d (.el s [.agg (intsD k)] 0 0)) (hy : opT ts y = .d (.v (.int kd 0))) (hm : Nat.blt 0 m = true) (hw : wantT ops ts ⟨some d, .indexAddr t x y, ty, pos, af, gd⟩ = some true) (hd : Nat.blt d N = true)
  (kk : EvK P N ops l ⟨(d, .d (.el s [.agg (intsD k)] 0 0)) :: ts, L⟩ (tr ++ [.run [] []]) K) : EvK P N ops (⟨some d, .indexAddr t x y, ty, pos, af, gd⟩ :: l) ⟨ts, L⟩ tr K :=
 ev_val (ins := [(x, .d (.el s [.agg (intsD k)] 0 0)), (y, .d (.v (.int kd 0)))]) rfl (o_ixEl rfl (tb.ok _ _ ht) ha (tb.ok _ _ he) (by rwa [Nat.blt_eq] at hm)) hw (by simp [Op.operands, hx, hy]) (by simp) hd kk
end
end Go.Proofs.Ytjnnkcnnandeeaa.Sh
namespace Go.Proofs.Ytjnnkcnnandeeaa.Sh
open Go
theorem ix1d {α : Type} {l : List α} {p : Nat} {i : Int} {e : α} (h : ixO (l.drop p) i = some e) : i < ((l.length - p : Nat) : Int) := by
 have := ix1 h
 rwa [List.length_drop] at this
theorem ix2d {α β : Type} {l : List α} {p : Nat} {i : Int} {e : α} {g : α → β} (h : ixO (l.drop p) i = some e) : (l.map g)[p + i.toNat]? = some (g e) := by
 have := ix0 h
 unfold ixO at h; rw [if_pos this, List.getElem?_drop] at h
 rw [List.getElem?_map, h]; rfl
theorem zeroCells_get {z : Array Value} {n i j : Nat} (hi : i < n) (hj : j < z.size) : (Builtin.zeroCells z n).toList[i * z.size + j]? = z[j]? := by
 have hlt : i * z.size + j < n * z.size := by
  have := Nat.mul_le_mul_right z.size (show i + 1 ≤ n from hi)
  rw [Nat.add_mul, Nat.one_mul] at this
  omega
 unfold Builtin.zeroCells
 simp only [Array.toList_map, Array.toList_range, List.getElem?_map]
 rw [List.getElem?_range hlt, Option.map_some, Nat.mul_comm, Nat.mul_add_mod, Nat.mod_eq_of_lt hj, Array.getElem?_eq_getElem hj]
 simp [hj]
theorem o_clearP {P : Program} {o : Oper} {fresh : Nat} {t e : TypeId} {i ei : TI} {x : Operand} {n s lo len : Nat} {r : Rw} (hop : o.op = .call { callee := .builtin .clear, args := #[x], argTypes := #[t] }) (ht : TOk P t i) (hsl : i.sl = some e) (he : TOk P e ei) (hez : ei.size = s) (hs' : r.s = s) (hlen : lo + len = r.els.length) (z : T) (hzT : ∀ (g : G) (c : Value), VT g ei.z c → VT g z c) (hzl : z.cells.length = ei.size) (hz1 : ∀ y ∈ z.cells, y.one = true) :
 OpS P o [(x, .row n s lo len)] [(n, r)] [(n, some ⟨s, r.els.take lo ++ List.replicate len z⟩)] fresh [] (.d (.tup [])) :=
 .of_run (fun c h => by rw [hop] at h; cases h) fun g a hg hi hr _ => by
  obtain ⟨info, zv, hinf, hz, hsz, hby, hzs, hzo, _, _⟩ := he.info
  have hx := hi (x, .row n s lo len) (by simp)
  have hnM := hr (n, r) (by simp)
  dsimp only at hx hnM
  generalize hxv : a.eval x = xv at hx
  cases hx with | row _ _ _ _ a0 hnn hs0 hcap ha =>
  have hzv : (zeroValue e).run P g.w = .ok zv g.w := by simp [zeroValue, typeInfo, hinf, hz]
  have hzc : VTs g z.cells zv.cells.toList := (hzT g zv (hzo ▸ VT.ofV g zv)).cells hz1
  by_cases hl : len = 0
  ·subst hl
   have hrun : (Builtin.clear_ #[t] o.type #[.slice a0 0 ((g.β n).2 - lo)]).run P g.w = .ok (.tuple #[]) g.w := by
    cases a0 <;> simp [Builtin.clear_, run_underlying (ht.slice hsl)]
   refine ⟨.tuple #[], g, .inl ?_, hg, .refl g, ?_, .d (.tup _ _ rfl (fun i d c h => by simp at h))⟩
   ·simp [execOp, hop, resolve, invoke, builtin, hxv, hrun]
   ·rw [← upd_put]
    have e : (⟨s, r.els.take lo ++ List.replicate 0 z⟩ : Rw) = r := by
     cases r
     simp only at hs' hlen
     rw [← hs', List.replicate_zero, List.append_nil, List.take_of_length_le (by simp only; omega)]
    rw [e]
    funext k
    by_cases hk : k = n
    ·subst hk; simpa using hnM
    ·simp [hk]
  ·have hc0 : ¬ (g.β n).2 = 0 := by omega
   have ha := ha hc0
   subst ha
   obtain ⟨cells, ety, hh, hcz, hel, hrow⟩ : RowC g n r := by
    rcases hg.rows n r hnM with ⟨h1, _⟩ | ⟨_, h1⟩ | ⟨h1, _⟩
    ·exact absurd h1 hc0
    ·exact h1
    ·exact absurd (hs'.symm.trans h1) hs0
   rw [hs'] at hcz
   simp only [hs'] at hrow
   have hzsz : zv.cells.size = s := by rw [hzs, hez]
   obtain ⟨zs, hzs'⟩ : ∃ zs, zs = (Builtin.zeroCells zv.cells len).toList := ⟨_, rfl⟩
   have hzlen : zs.length = len * s := by rw [hzs', Array.length_toList, size_zeroCells, hzsz]
   have hone : ∀ v ∈ zs, v.oneCell' = true := fun v hv => by
    rw [hzs'] at hv
    unfold Builtin.zeroCells at hv
    simp only [Array.toList_map, Array.toList_range, List.mem_map, List.mem_range] at hv
    obtain ⟨q, _, rfl⟩ := hv
    have hq : q % zv.cells.size < zv.cells.size := Nat.mod_lt _ (by omega)
    have hm : zv.cells[q % zv.cells.size]! ∈ zv.cells.toList := by
     rw [getElem!_pos zv.cells _ hq]; simp
    obtain ⟨j, hj⟩ := List.getElem?_of_mem hm
    have hjl : j < z.cells.length := by rw [hzc.1]; exact (List.getElem?_eq_some_iff.1 hj).1
    exact (hzc.2 j _ _ (List.getElem?_eq_getElem hjl) hj).one (hz1 _ (List.getElem_mem hjl))
   have hfit : lo * s + zs.length ≤ cells.size := by
    rw [hzlen, hcz, ← Nat.add_mul]
    exact Nat.mul_le_mul_right s hcap
   have hst := run_storeCells_ef (P := P) (g.β n).1 (lo * s) ety zs 0 cells g.w rfl hh (by simpa using hfit) hone
   rw [Nat.add_zero] at hst
   obtain ⟨cells', hc'⟩ : ∃ c : Array Value, (cells.toList.take (lo * s) ++ zs ++ cells.toList.drop (lo * s + zs.length)).toArray = c := ⟨_, rfl⟩
   rw [hc'] at hst
   have hget : ∀ m, cells'[m]? = if m < lo * s then cells.toList[m]? else if m < lo * s + zs.length then zs[m - lo * s]? else cells.toList[m]? := fun m => by
    rw [← hc', List.getElem?_toArray]; exact splice_get _ _ _ m (by simpa using hfit)
   have hcl : cells'.size = (g.β n).2 * s := by
    rw [← hc', ← hcz]; simp only [List.size_toArray, List.length_append, List.length_take, List.length_drop, Array.length_toList]; omega
   obtain ⟨hG, hL⟩ := Good.put hg hnM hc0 hh (cells := cells') (by rw [hcl, hcz]) (r' := ⟨s, r.els.take lo ++ List.replicate len z⟩) hs0 hcl (by simp only [List.length_append, List.length_take, List.length_replicate]; omega) (by
    intro q y hq
    dsimp only at hq
    by_cases hql : q < lo
    ·rw [List.getElem?_append_left (by rw [List.length_take]; omega), List.getElem?_take, if_pos hql] at hq
     obtain ⟨h1, h2⟩ := hrow q y hq
     refine ⟨h1, fun j z' hz => ?_⟩
     obtain ⟨c, h3, h4⟩ := h2 j z' hz
     have hj : j < s := by rw [← h1]; exact (List.getElem?_eq_some_iff.1 hz).1
     refine ⟨c, ?_, h4⟩
     dsimp only
     have : q * s + j < lo * s := by
      have := Nat.mul_le_mul_right s (show q + 1 ≤ lo from hql)
      rw [Nat.add_mul, Nat.one_mul] at this
      omega
     rw [hget, if_pos this, Array.getElem?_toList]; exact h3
    ·rw [List.getElem?_append_right (by rw [List.length_take]; omega), List.length_take, Nat.min_eq_left (by omega), List.getElem?_replicate] at hq
     split at hq
     ·rename_i hqn
      injection hq with hq
      subst hq
      refine ⟨by rw [hzl, hez], fun j z' hz => ?_⟩
      have hj : j < s := by rw [← hez, ← hzl]; exact (List.getElem?_eq_some_iff.1 hz).1
      have hjz : j < zv.cells.size := by omega
      dsimp only
      obtain ⟨q', rfl⟩ : ∃ q', q = lo + q' := ⟨q - lo, by omega⟩
      rw [Nat.add_sub_cancel_left] at hqn
      have h5 : (q' + 1) * s ≤ len * s := Nat.mul_le_mul_right s hqn
      rw [Nat.add_mul, Nat.one_mul] at h5
      have hm1 : ¬ ((lo + q') * s + j < lo * s) := by rw [Nat.add_mul]; omega
      have hm2 : (lo + q') * s + j < lo * s + zs.length := by rw [hzlen, Nat.add_mul]; omega
      have hm3 : (lo + q') * s + j - lo * s = q' * s + j := by rw [Nat.add_mul]; omega
      refine ⟨zv.cells[j], ?_, hzc.2 j z' _ hz (by simp [hjz])⟩
      rw [hget, if_neg hm1, if_pos hm2, hm3, hzs']
      have := zeroCells_get (z := zv.cells) (n := len) hqn hjz
      rw [hzsz] at this
      rw [this, Array.getElem?_eq_getElem hjz]
     ·cases hq)
   refine ⟨.tuple #[], _, .inl ?_, hG, hL, upd_put g.M n _ fresh, .d (.tup _ _ rfl (fun i d c h => by simp at h))⟩
   obtain ⟨m, rfl⟩ : ∃ m, len = m + 1 := ⟨len - 1, by omega⟩
   rw [hzs'] at hst
   simp [execOp, hop, resolve, invoke, builtin, hxv, Builtin.clear_, run_underlying (ht.slice hsl), hzv, hst, G.put]
theorem o_clearE {P : Program} {o : Oper} {fresh : Nat} {t e : TypeId} {i : TI} {x : Operand} {s : Nat} (hop : o.op = .call { callee := .builtin .clear, args := #[x], argTypes := #[t] }) (ht : TOk P t i) (hsl : i.sl = some e) :
 OpS P o [(x, .d (.arr s []))] [] [] fresh [] (.d (.tup [])) :=
 .of_pure (fun c h => by rw [hop] at h; cases h) fun g a hg hi hr => by
  have hx := hi (x, .d (.arr s [])) (by simp)
  dsimp only at hx
  have hv : ∃ A cap, a.eval x = .slice A 0 cap := by
   generalize a.eval x = v at hx ⊢
   cases hx with | d h =>
   cases h with
   | arr0 => exact ⟨_, _, rfl⟩
   | arr => exact ⟨_, _, rfl⟩
  obtain ⟨A, cap, hv⟩ := hv
  refine ⟨.tuple #[], ?_, .d (.tup _ _ rfl (fun i d c h => by simp at h))⟩
  cases A <;> simp [execOp, hop, resolve, invoke, builtin, hv, Builtin.clear_, run_underlying (ht.slice hsl)]
def clrPO {α : Type} (w : List α) (lo : Nat) (a0 : α) : Option (List α) := if lo ≤ w.length then some (w.take lo ++ List.replicate (w.length - lo) a0) else none
theorem clrPO_len {α : Type} {w q : List α} {lo : Nat} {a0 : α} (h : clrPO w lo a0 = some q) : w.length = q.length := by
 unfold clrPO at h
 split at h
 ·injection h with h
  rw [← h, List.length_append, List.length_take, List.length_replicate]; omega
 ·cases h
section
variable {P : Program} {N : Nat} {ops : Array Oper} {l : List Oper} {ts : List (Nat × T)} {L : List (Option Rw)} {tr : List Stp} {K : List Oper → List Stp → St → Prop} {d : Nat} {ty : TypeId} {pos : String} {af : Array Edge} {gd : Option (Nat × Bool)}
theorem r_slRowHT {α : Type} {t e : TypeId} {i ei : TI} {x y : Operand} {n s len : Nat} {k : IntKind} {q : Int} {p : Nat} (w : List α) (tb : Tab P) (ht : tb.f t = some i) (hs : i.sl = some e) (he : tb.f e = some ei) (hx : opT ts x = .row n s 0 len) (hlen : w.length = len) (hz : ei.size = s) (hy : opT ts y = .d (.v (.int k q))) (hq : q = (p : Int)) (h1 : p ≤ w.length) (hw : wantT ops ts ⟨some d, .slice t x none (some y) none, ty, pos, af, gd⟩ = some true) (hd : Nat.blt d N = true)
  (kk : EvK P N ops l ⟨(d, .row n s 0 (w.take p).length) :: ts, L⟩ (tr ++ [.run [] []]) K) : EvK P N ops (⟨some d, .slice t x none (some y) none, ty, pos, af, gd⟩ :: l) ⟨ts, L⟩ tr K := by
 subst hlen
 rw [List.length_take, Nat.min_eq_left h1] at kk
 exact r_slRowHi tb ht hs he hx hz hy hq h1 hw hd kk
theorem r_clearE {t e : TypeId} {i : TI} {x : Operand} {s : Nat} (tb : Tab P) (ht : tb.f t = some i) (hsl : i.sl = some e) (hx : opT ts x = .d (.arr s []))
  (hw : wantT ops ts ⟨none, .call { callee := .builtin .clear, args := #[x], argTypes := #[t] }, ty, pos, af, gd⟩ = some true)
  (k : EvK P N ops l ⟨ts, L⟩ (tr ++ [.run [] []]) K) : EvK P N ops (⟨none, .call { callee := .builtin .clear, args := #[x], argTypes := #[t] }, ty, pos, af, gd⟩ :: l) ⟨ts, L⟩ tr K := by
 refine ev_cons (.run hw (o_clearE (fresh := L.length) (s := s) rfl (tb.ok _ _ ht) hsl) ?_ (by simp) (by simp) rfl) ?_
 ·intro p hp
  simp only [List.mem_cons, List.not_mem_nil, or_false] at hp
  subst hp
  exact ⟨hx, by simp [Op.operands, Call.operands]⟩
 ·simpa [St.eff, putS, setL] using k
theorem r_clearP {α : Type} {t e : TypeId} {i ei : TI} {x : Operand} {n s lo len : Nat} {g : α → D} {w q : List α} {a0 : α} (tb : Tab P) (ht : tb.f t = some i) (hsl : i.sl = some e) (he : tb.f e = some ei) (hez : ei.size = s) {y0 : D} (hz : ei.z = .d y0) (hg : CastD y0 (g a0)) (hzl : (T.d (g a0)).cells.length = s) (h1 : allOne (T.d (g a0)).cells = true) (hx : opT ts x = .row n s lo len) (hr : L[n]? = some (some ⟨s, w.map fun a => .d (g a)⟩)) (hle : len = w.length - lo) (hq : clrPO w lo a0 = some q) {L' : List (Option Rw)} (hL : L.set n (some ⟨s, q.map fun a => .d (g a)⟩) = L')
  (hw : wantT ops ts ⟨none, .call { callee := .builtin .clear, args := #[x], argTypes := #[t] }, ty, pos, af, gd⟩ = some true)
  (k : EvK P N ops l ⟨ts, L'⟩ (tr ++ [.run [n] [n]]) K) : EvK P N ops (⟨none, .call { callee := .builtin .clear, args := #[x], argTypes := #[t] }, ty, pos, af, gd⟩ :: l) ⟨ts, L⟩ tr K := by
 subst hL hle
 unfold clrPO at hq
 split at hq
 case isFalse => cases hq
 rename_i hlo
 injection hq with hq
 subst hq
 have e : ((w.take lo ++ List.replicate (w.length - lo) a0).map fun a => T.d (g a)) = (w.map fun a => T.d (g a)).take lo ++ List.replicate (w.length - lo) (.d (g a0)) := by rw [List.map_append, List.map_take, List.map_replicate]
 rw [e] at k
 refine ev_cons (.run hw (o_clearP (fresh := L.length) (n := n) (lo := lo) (len := w.length - lo) (r := ⟨s, w.map fun a => .d (g a)⟩) rfl (tb.ok _ _ ht) hsl (tb.ok _ _ he) hez rfl (by simp; omega) (.d (g a0)) (fun _ _ h => hg.valT (hz ▸ h)) (hzl.trans hez.symm) (by unfold allOne at h1; rwa [List.all_eq_true] at h1)) ?_ ?_ ?_ rfl) ?_
 ·intro p hp
  simp only [List.mem_cons, List.not_mem_nil, or_false] at hp
  subst hp
  exact ⟨hx, by simp [Op.operands, Call.operands]⟩
 ·intro p hp; simp only [List.mem_cons, List.not_mem_nil, or_false] at hp; subst hp; exact hr
 ·intro p hp; simp only [List.mem_cons, List.not_mem_nil, or_false] at hp; subst hp; exact ⟨_, List.mem_singleton.2 rfl, rfl⟩
 ·simpa [St.eff, putS, setL] using k
end
end Go.Proofs.Ytjnnkcnnandeeaa.Sh
namespace Go.Proofs.Ytjnnkcnnandeeaa.Sh
open Go
open Go.Shelf Go.RowKit
open Go.Sort (grow HoldsK putRowK flatK size_flatK get_flatK SWO SortedIn PermIn putRow mapBlock putCells)
theorem perm_lift {γ α : Type} {f : γ → α} {m l' : List α} (h : m.Perm l') : ∀ l : List γ, m = l.map f → ∃ l3 : List γ, l3.Perm l ∧ l3.map f = l' := by
 induction h with
 | nil => intro l e; exact ⟨l, .refl _, e.symm⟩
 | cons x _ ih =>
  intro l e
  cases l with
  | nil => cases e
  | cons y l =>
   rw [List.map_cons] at e
   injection e with e1 e2
   obtain ⟨l3, h1, h2⟩ := ih l e2
   exact ⟨y :: l3, .cons _ h1, by rw [List.map_cons, h2, e1]⟩
 | swap x y q =>
  intro l e
  match l with
  | [] => cases e
  | [_] => cases e
  | a :: b :: l =>
   simp only [List.map_cons] at e
   injection e with e1 e2
   injection e2 with e2 e3
   exact ⟨b :: a :: l, .swap _ _ _, by simp only [List.map_cons]; rw [← e1, ← e2, ← e3]⟩
 | trans _ _ ih1 ih2 =>
  intro l e
  obtain ⟨l3, h1, h2⟩ := ih1 l e
  obtain ⟨l4, h3, h4⟩ := ih2 l3 h2.symm
  exact ⟨l4, h3.trans h1, h4⟩
theorem bang {α : Type} [Inhabited α] {d : Array α} {i : Nat} {x : α} (h : d[i]? = some x) : d[i]! = x := by
 obtain ⟨h1, h2⟩ := Array.getElem?_eq_some_iff.1 h
 rw [getElem!_pos d i h1, h2]
theorem bangL {α : Type} [Inhabited α] {d : List α} {i : Nat} {x : α} (h : d[i]? = some x) : d[i]! = x := by
 obtain ⟨h1, h2⟩ := List.getElem?_eq_some_iff.1 h
 rw [getElem!_pos d i h1, h2]
theorem put_is {w : World} {b : Nat} {c : Array Value} {e : TypeId} {fr : Nat × Nat} (hb : w.heap[b]? = some (.cells c e fr)) (f : Array Value → Array Value) : mapBlock w b f = w.setRow b (f c) := by
 unfold mapBlock World.setRow
 congr 1
 apply Array.ext_getElem?
 intro k
 simp only [Array.getElem?_modify]
 by_cases hk : b = k
 ·subst hk
  simp [hb, Go.Sort.onCells]
 ·simp [hk]
theorem Le.tail {g : G} (w' : World) (hs : g.w.heap.size ≤ w'.heap.size) (ho : w'.os = g.w.os) (ht : w'.tape = g.w.tape) (hu : w'.output = g.w.output) (hh : ∀ b, b < g.w.heap.size → w'.heap[b]? = g.w.heap[b]?) (hg : Good g) : Good ⟨g.M, g.β, g.K, w'⟩ ∧ Le g ⟨g.M, g.β, g.K, w'⟩ :=
 ⟨(hid_good hg (K' := g.K) (w' := w') (fun b hb _ => hh b hb) (fun _ h => h) fun b hb => ⟨Nat.lt_of_lt_of_le (hg.kd b hb) hs, hg.kl b hb⟩).1,
  ⟨fun n hn => ⟨hn, rfl⟩, hs, ho, ht, hu, fun b hb _ => hh b hb, fun _ h => h, fun _ _ h => .inl h, fun n r hn h0 _ h => h n r hn h0 rfl⟩⟩
theorem sort_row {P : Program} {ρ : Ren} {α β : Type} [Inhabited α] (L : SlLaysF0.n6 P ρ) (k : Nat) (hk0 : k ≠ 0) (aE : ∀ w, (isAgg (ρ.t 24)).run P w = .ok true w) (zE : ∀ w, (Go.sizeOf (ρ.t 24)).run P w = .ok k w) (enc : α → List Value) (hk : ∀ x, (enc x).length = k) (h1 : ∀ x, ∀ v ∈ enc x, v.oneCell' = true) (cf : α → α → Int) (hO : SWO (Go.Proofs.ltOf cf)) (c : Nat)
  (eg : ∀ args w, (callFunc c args).run P w = .ok (.enter c args) w) (hcmp : ∀ blk off size w, Go.Proofs.CmpLays P c #[] enc k cf blk off size w)
  (f : β → D) (R : β → α → Prop) (hdec : ∀ (g : G) (x : β) (cs : List Value), VTs g ((f x).cells.map .d) cs → cs.length = k → ∃ a, enc a = cs ∧ R x a) (hfk : ∀ x, (f x).cells.length = k) (lt : β → β → Prop) (hlt : ∀ x y a b, R x a → R y b → Go.Proofs.ltOf cf a b = false → ¬ lt x y)
  (l : List β) (hll : l.length < 4611686018427387904) :
  SC P (ρ.f 6) [.row 0 k 0 l.length, .d (.v (.func (.func c) #[] #[]))] [some ⟨k, l.map fun x => .d (f x)⟩] fun se X => se = .ret (.d (.tup [])) ∧ ∃ r : List β, r.Perm l ∧ r.Pairwise (fun x y => ¬ lt y x) ∧ X = [some ⟨k, r.map fun x => .d (f x)⟩] := by
 intro g vs hg hM hv
 have hnM : g.M 0 = some (some ⟨k, l.map fun x => .d (f x)⟩) := by rw [hM]; rfl
 obtain ⟨v0, v1, rfl⟩ : ∃ v0 v1, vs = [v0, v1] := by
  match vs, hv.1 with
  | [a, b], _ => exact ⟨a, b, rfl⟩
 have hv0 := hv.2 0 _ _ rfl rfl
 have hv1 := (hv.2 1 _ _ rfl rfl).v_eq
 subst hv1
 cases hv0 with
 | row n s lo len a hn hs hlc ha =>
 by_cases hc0 : (g.β 0).2 = 0
 ·have hl0 : l = [] := List.length_eq_zero_iff.1 (by omega)
  subst hl0
  simp only [List.length_nil]
  have := AnyF.slices_SortFunc_none (P := P) (ρ := ρ) { L with } a ((g.β 0).2 - 0) (.func (.func c) #[] #[]) g.w
  refine this.mono ?_
  rintro e w' ⟨rfl, rfl⟩
  exact ⟨g, .ret (.d (.tup [])), _, rfl, hg, .refl g, hM, .d (.tup [] #[] rfl fun i d c h => by simp at h), rfl, [], .refl _, .nil, rfl⟩
 ·have ha := ha hc0
  subst ha
  obtain ⟨cells, ety, hh, hcz, hel, hrow⟩ : RowC g 0 ⟨k, l.map fun x => .d (f x)⟩ := by
   rcases hg.rows 0 _ hnM with ⟨h1, _⟩ | ⟨_, h1⟩ | ⟨h1, _⟩
   ·exact absurd h1 hc0
   ·exact h1
   ·exact absurd h1 hk0
  dsimp only at hcz hel hrow
  simp only [List.length_map] at hel
  -- what each element is
  have hi1 : ∀ i, i < l.length → i * k + k ≤ cells.size := fun i hi => by
   rw [hcz]
   have := Nat.mul_le_mul_right k (show i + 1 ≤ (g.β 0).2 by omega)
   rwa [Nat.add_mul, Nat.one_mul] at this
  have hcl : ∀ i (hi : i < l.length), ∃ cs : List Value, cs.length = k ∧ (∀ j, j < k → cells[i * k + j]? = cs[j]?) ∧ VTs g ((f l[i]).cells.map .d) cs := fun i hi => by
   refine ⟨(cells.toList.drop (i * k)).take k, ?_, fun j hj => ?_, ?_, fun j d c h3 h4 => ?_⟩
   ·have := hi1 i hi; simp; omega
   ·rw [List.getElem?_take, if_pos hj, List.getElem?_drop]; simp
   ·have := hi1 i hi; rw [List.length_map, hfk]; simp; omega
   ·have hjk : j < k := by have := (List.getElem?_eq_some_iff.1 h3).1; rwa [List.length_map, hfk] at this
    rw [List.getElem?_take, if_pos hjk, List.getElem?_drop] at h4
    obtain ⟨c', h5, h6⟩ := (hrow i (.d (f l[i])) (by simp [hi])).2 j d (by
     have e : (T.d (f l[i])).cells = (f l[i]).cells.map .d := by cases f l[i] <;> rfl
     rw [e]; exact h3)
    have : c = c' := by
     have h7 : cells[i * k + j]? = some c := by simpa using h4
     rw [h5] at h7; exact (Option.some.inj h7).symm
    rw [this]; exact h6
  have hdx : ∀ i (hi : i < l.length), ∃ a, (∀ j, j < k → cells[i * k + j]? = (enc a)[j]?) ∧ R l[i] a ∧ VTs g ((f l[i]).cells.map .d) (enc a) := fun i hi => by
   obtain ⟨cs, h3, h4, h5⟩ := hcl i hi
   obtain ⟨a, rfl, h7⟩ := hdec g _ cs h5 h3
   exact ⟨a, h4, h7, h5⟩
  obtain ⟨zs, hzl, hz⟩ : ∃ zs : List (β × α), zs.map (·.1) = l ∧ ∀ i (p : β × α), zs[i]? = some p → (∀ j, j < k → cells[i * k + j]? = (enc p.2)[j]?) ∧ R p.1 p.2 ∧ VTs g ((f p.1).cells.map .d) (enc p.2) := by
   refine ⟨List.ofFn fun i : _root_.Fin l.length => (l[i], Classical.choose (hdx i i.2)), ?_, fun i p hp => ?_⟩
   ·apply List.ext_getElem? ; intro i
    by_cases hi : i < l.length
    ·simp [hi]
    ·rw [List.getElem?_eq_none (by simpa using hi), List.getElem?_eq_none (by omega)]
   ·have hi : i < l.length := by have := (List.getElem?_eq_some_iff.1 hp).1; simpa using this
    simp only [List.getElem?_ofFn, hi, dite_true, Option.some.injEq] at hp
    subst hp
    exact Classical.choose_spec (hdx i hi)
  obtain ⟨dd, hdd⟩ : ∃ dd : Array α, dd = (zs.map (·.2)).toArray := ⟨_, rfl⟩
  have hds : dd.size = l.length := by rw [hdd, ← hzl]; simp
  have hdi : ∀ (i : Nat) (p : β × α), zs[i]? = some p → dd[i]! = p.2 := fun i p hp => bang (by rw [hdd]; simp [hp])
  have hblk : (g.β 0).1 < g.w.heap.size := (Array.getElem?_eq_some_iff.1 hh).1
  have hH : HoldsK enc k g.w (g.β 0).1 0 dd := by
   intro t ht
   rw [size_flatK] at ht
   have hk1 : 0 < k := Nat.pos_of_ne_zero hk0
   have hi : t / k < dd.size := by rw [Nat.div_lt_iff_lt_mul hk1]; exact ht
   have hj : t % k < k := Nat.mod_lt _ hk1
   obtain ⟨p, hp⟩ : ∃ p, zs[t / k]? = some p := ⟨_, List.getElem?_eq_getElem (by rw [← List.length_map (f := (·.1)), hzl, ← hds]; exact hi)⟩
   have e1 := (hz _ p hp).1 (t % k) hj
   have e2 : t / k * k + t % k = t := by rw [Nat.mul_comm]; exact Nat.div_add_mod t k
   rw [e2] at e1
   rw [get_flatK _ _ _ _ ht, hdi _ _ hp, Nat.zero_add]
   have hlen : t % k < (enc p.2).length := by rw [hk]; exact hj
   have e3 : cells[t]? = some (enc p.2)[t % k]! := by rw [e1, bangL (List.getElem?_eq_getElem hlen), List.getElem?_eq_getElem hlen]
   refine ⟨?_, ety.free hh ?_⟩
   ·simp only [World.cell?, hh]; exact e3
   ·exact (Array.getElem?_eq_some_iff.1 e3).1
  have hsz : dd.size < 4611686018427387904 := by rw [hds]; exact hll
  have hcon := AnyQ.slices_SortFunc (P := P) (ρ := ρ) L k aE zE enc hk h1 cf hO c #[] (g.β 0).1 0 ((g.β 0).2 - 0) dd g.w eg (hcmp _ _ _ _) hH hblk hsz
  rw [hds] at hcon
  rw [Nat.zero_mul]
  refine hcon.mono ?_
  rintro e w' ⟨rfl, d', n, os, hP, hS, rfl⟩
  obtain ⟨hP1, hP2, hP3⟩ := hP
  have hP4 : d'.toList.Perm dd.toList := by
   rw [show d'.extract 0 l.length = d' by rw [← hds, ← hP1]; simp, show dd.extract 0 l.length = dd by rw [← hds]; simp] at hP3
   exact hP3
  obtain ⟨ys, hy1, hy2⟩ := perm_lift (f := (·.2)) hP4.symm zs (by rw [hdd])
  have hyl : ys.length = l.length := by rw [hy1.length_eq, ← hzl]; simp
  have hym : ∀ p ∈ ys, R p.1 p.2 ∧ VTs g ((f p.1).cells.map .d) (enc p.2) := fun p hp => by
   obtain ⟨i, hi⟩ := List.getElem?_of_mem (hy1.mem_iff.1 hp)
   exact (hz i p hi).2
  have hyd : ∀ (i : Nat) (p : β × α), ys[i]? = some p → d'[i]! = p.2 := fun i p hp => by
   have : (d'.toList)[i]? = some p.2 := by rw [← hy2, List.getElem?_map, hp]; rfl
   exact bang (by rw [← Array.getElem?_toList]; exact this)
  -- the picture behind
  obtain ⟨w1, hw1⟩ : ∃ w1, w1 = grow (Go.Sort.ahead g.w n) os := ⟨_, rfl⟩
  have hold : ∀ b, b < g.w.heap.size → w1.heap[b]? = g.w.heap[b]? := fun b hb => by
   rw [hw1]; show (g.w.heap ++ os)[b]? = _; rw [Array.getElem?_append_left hb]
  obtain ⟨hG1, hL1⟩ := Le.tail w1 (by rw [hw1]; show _ ≤ (g.w.heap ++ os).size; simp) (by rw [hw1]; rfl) (by rw [hw1]; rfl) (by rw [hw1]; rfl) hold hg
  have hb1 : w1.heap[(g.β 0).1]? = some (.cells cells ety.1.1 ety.1.2) := (hold _ hblk).trans hh
  have hw' : Go.Proofs.sortWorldK enc k g.w (g.β 0).1 0 n d' os = w1.setRow (g.β 0).1 (putCells id 0 (flatK enc k d') cells) := by
   unfold Go.Proofs.sortWorldK
   rw [← Go.Sort.putRowK_grow enc k (Go.Sort.ahead g.w n) os (g.β 0).1 0 d' hblk, ← hw1]
   exact put_is hb1 _
  have hget : ∀ (i : Nat) (p : β × α), ys[i]? = some p → ∀ j, j < k → (putCells id 0 (flatK enc k d') cells)[i * k + j]? = (enc p.2)[j]? := fun i p hp j hj => by
   have hil : i < l.length := by rw [← hyl]; exact (List.getElem?_eq_some_iff.1 hp).1
   have hlt : i * k + j < d'.size * k := by
    rw [hP1, hds]
    have := Nat.mul_le_mul_right k (show i + 1 ≤ l.length from hil)
    rw [Nat.add_mul, Nat.one_mul] at this; omega
   have hc : i * k + j < cells.size := by have := hi1 i hil; omega
   have e1 : (i * k + j) / k = i := by rw [Nat.add_comm, Nat.add_mul_div_right _ _ (Nat.pos_of_ne_zero hk0), Nat.div_eq_of_lt hj, Nat.zero_add]
   have e2 : (i * k + j) % k = j := by rw [Nat.add_comm, Nat.add_mul_mod_self_right, Nat.mod_eq_of_lt hj]
   have hlen : j < (enc p.2).length := by rw [hk]; exact hj
   unfold putCells
   rw [Array.getElem?_mapIdx, Array.getElem?_eq_getElem hc]
   simp only [Option.map_some]
   rw [if_pos ⟨Nat.zero_le _, by rw [size_flatK, Nat.zero_add]; exact hlt⟩, Nat.sub_zero, get_flatK _ _ _ _ hlt, e1, e2, hyd i p hp, List.getElem?_eq_getElem hlen, bangL (List.getElem?_eq_getElem hlen)]
   rfl
  obtain ⟨hG2, hL2⟩ := Good.put (r' := ⟨k, (ys.map (·.1)).map fun x => .d (f x)⟩) hG1 (n := 0) hnM hc0 (old := cells) (cells := putCells id 0 (flatK enc k d') cells) (e := ety) hb1 (by simp [putCells]) hk0 (by simp [putCells, hcz]) (by simp only [List.length_map, hyl]; omega) fun i x hx => by
   simp only [List.map_map, List.getElem?_map, Option.map_eq_some_iff] at hx
   obtain ⟨p, hp, rfl⟩ := hx
   have e : ((fun x => T.d (f x)) ∘ (·.1)) p = T.d (f p.1) := rfl
   have e' : (T.d (f p.1)).cells = (f p.1).cells.map .d := by cases f p.1 <;> rfl
   refine ⟨by rw [e, e', List.length_map, hfk], fun j y hy => ?_⟩
   rw [e, e'] at hy
   have hjk : j < k := by have := (List.getElem?_eq_some_iff.1 hy).1; rwa [List.length_map, hfk] at this
   have hlen : j < (enc p.2).length := by rw [hk]; exact hjk
   exact ⟨(enc p.2)[j], by rw [hget i p hp j hjk, List.getElem?_eq_getElem hlen], ((hym p (List.mem_of_getElem? hp)).2.2 j y _ hy (List.getElem?_eq_getElem hlen)).mono hg hL1⟩
  rw [hw']
  refine ⟨_, .ret (.d (.tup [])), [some ⟨k, (ys.map (·.1)).map fun x => .d (f x)⟩], rfl, hG2, hL1.trans hL2, ?_, .d (.tup [] #[] rfl fun i d c h => by simp at h), rfl, ys.map (·.1), ?_, ?_, rfl⟩
  ·funext m
   show (if m = 0 then _ else g.M m) = _
   rw [hM]
   cases m with
   | zero => rfl
   | succ m => rfl
  ·rw [← hzl]; exact hy1.map _
  ·rw [List.pairwise_iff_getElem]
   intro i j hi hj hij
   simp only [List.length_map] at hi hj
   simp only [List.getElem_map]
   have e1 := hyd i _ (List.getElem?_eq_getElem hi)
   have e2 := hyd j _ (List.getElem?_eq_getElem hj)
   have := hS i j (Nat.zero_le _) hij (by rw [← hyl]; exact hj)
   rw [e1, e2] at this
   exact hlt _ _ _ _ (hym _ (List.getElem_mem hj)).1 (hym _ (List.getElem_mem hi)).1 this
end Go.Proofs.Ytjnnkcnnandeeaa.Sh
namespace Go.Proofs.Ytjnnkcnnandeeaa.Sh
open Go
section
variable {P : Program} {kt : Nat} {gs : G} {n0 N : Nat} {df : List Deferred} {Q : Gh → SX → St → Prop} {ops : Array Oper} {l : List Oper} {ts : List (Nat × T)} {L : List (Option Rw)} {d : Nat} {ty ty2 : TypeId} {pos pos2 : String} {af af2 : Array Edge}
theorem rgx_keybox {t : TypeId} {i : TI} {y : Operand} {bm it : Nat} {A : KL} {S : List Nat} {k k0 : List Int} (ht : TOk P t i) (hz : i.z = .d (.agg (intsD k0))) (hk0 : k0.length = k.length) (hsz : i.size = k.length) (hd : Nat.blt d N = true) (hy : opT ts y = .d (.agg (intsD k))) (hyd : y ≠ .tmp d)
 (kk : RgX P kt gs n0 N df ops Q l (.it bm it A S) ⟨(d, .d (.el i.size [.agg (intsD k)] 0 0)) :: ts, L⟩) : RgX P kt gs n0 N df ops Q (⟨some d, .alloc t, ty, pos, af, none⟩ :: ⟨none, .store t (.tmp d) y, ty2, pos2, af2, none⟩ :: l) (.it bm it A S) ⟨ts, L⟩ := by
 intro F nn hF g a R hl hgh hR kq
 obtain ⟨es, hA, hls, hit, hih, hnd, hS⟩ := hgh
 obtain ⟨info, zv, hi, hzi, _, _, _, hzv, _, _⟩ := ht.info
 have hzk : zv = keyV k0 := ints_agg (g := g) (hz ▸ hzv ▸ VT.ofV g zv)
 obtain ⟨w1, hw1⟩ : ∃ w1, w1 = g.w.alloc (.cells (keyV k0).cells t) := ⟨_, rfl⟩
 have hh1 : w1.heap = g.w.heap.push (.cells (keyV k0).cells t) := by rw [hw1]; rfl
 obtain ⟨b, hb⟩ : ∃ b, b = g.w.heap.size := ⟨_, rfl⟩
 obtain ⟨w2, hw2⟩ : ∃ w2, w2 = w1.setRow b (k.map (Value.int .i64)).toArray := ⟨_, rfl⟩
 have hb1 : w1.heap[b]? = some (.cells (k0.map (Value.int .i64)).toArray t (0, 0)) := by rw [hh1, hb]; simp [keyV, Value.cells]
 have hb2 : w2.heap[b]? = some (.cells (k.map (Value.int .i64)).toArray t (0, 0)) := by rw [hw2]; exact setRow_heap _ _ _ _ _ _ hb1
 have hs1 : w1.heap.size = g.w.heap.size + 1 := by rw [hh1]; simp
 have hs2 : w2.heap.size = g.w.heap.size + 1 := by rw [hw2]; simp [hs1]
 have hold : ∀ q, q < g.w.heap.size → w2.heap[q]? = g.w.heap[q]? := fun q hq => by
  rw [hw2, setRow_other _ _ _ _ (by omega), hh1, Array.getElem?_push, if_neg (by omega)]
 obtain ⟨K', hK'⟩ : ∃ K' : Nat → Prop, K' = fun q => g.K q ∨ q = b := ⟨_, rfl⟩
 have hbn : NL g b := fun n r hn h0 e => by have := (hR.good.rows n r hn).lt h0; omega
 obtain ⟨hG, hV⟩ := hid_good hR.good (K' := K') (w' := w2) (fun q hq _ => hold q hq) (fun q h => by rw [hK']; exact .inl h) fun q h => by
  rw [hK'] at h
  rcases h with h | rfl
  ·exact ⟨by have := hR.good.kd q h; omega, hR.good.kl q h⟩
  ·exact ⟨by omega, hbn⟩
 have hst : ∀ q, Hidd gs g q → Hidd gs (⟨g.M, g.β, K', w2⟩ : G) q := fun q h => ⟨h.base, by show q < w2.heap.size; have := h.lt; omega, h.nl, fun hk => by
  rw [hK'] at hk
  rcases hk with hk | hk
  ·exact h.nk hk
  ·have := h.lt; omega⟩
 have hle : LeN n0 gs ⟨g.M, g.β, K', w2⟩ := hid_le hl (by omega) (by rw [hw2, hw1]; rfl) (by rw [hw2, hw1]; rfl) (by rw [hw2, hw1]; rfl) (fun q hq _ => hold q (Nat.lt_of_lt_of_le hq hl.size)) (fun q h => by rw [hK']; exact .inl h) (fun q hlt h => by
  rw [hK'] at h
  rcases h with h | h
  ·exact .inl h
  ·exact absurd hl.size (by omega))
 have hgh2 : GhP P kt gs (.it bm it A S) ⟨g.M, g.β, K', w2⟩ :=
  ⟨es, ⟨hst bm hA.hid, (hold bm hA.hid.lt).trans hA.heap, hA.size, hA.ent, hA.ko, hA.nd⟩, fun q p e hp he => by have := hV _ _ (.d (hls q p e hp he)); cases this with | d h => exact h, hst it hit, (hold it hit.lt).trans hih, hnd, hS⟩
 have hptr : VT ⟨g.M, g.β, K', w2⟩ (.d (.el i.size [.agg (intsD k)] 0 0)) (.pointer (some ⟨b, 0, none⟩)) := by
  have hc : ∀ (q : Nat) (x : D), [D.agg (intsD k)][q]? = some x → q = 0 ∧ x = .agg (intsD k) := fun q x hx => by
   match q with
   | 0 => simp at hx; exact ⟨rfl, hx.symm⟩
   | q + 1 => simp at hx
  have h2 := VD.el (g := ⟨g.M, g.β, K', w2⟩) i.size [.agg (intsD k)] 0 0 b 0 (fun _ j => .int .i64 (k.getD j 0)) (fun _ => by rw [hK']; exact .inr rfl) (fun q x hx => ?_) (fun q x hx j e he => ?_) (fun q x hx j e he => ?_)
  ·simpa using VT.d h2
  ·obtain ⟨rfl, rfl⟩ := hc q x hx; simp [D.cells, intsD, hsz]
  all_goals (
   obtain ⟨rfl, rfl⟩ := hc q x hx
   simp only [D.cells, intsD, List.getElem?_map, Option.map_eq_some_iff] at he
   obtain ⟨n, hn, rfl⟩ := he
   have hn' : k.getD j 0 = n := by rw [List.getD_eq_getElem?_getD, hn]; rfl
   rw [hn'])
  ·simp [World.cell?, hb2, hn]
  ·exact .v _ rfl
 have hd' : d < N := by rwa [Nat.blt_eq] at hd
 have hyv : a.eval y = keyV k := by have := tsR_op hR.ts y; rw [hy] at this; exact ints_agg this
 have hR2 := str_put hR hG rfl hV hd hptr
 -- the first operation
 unfold wpListIn
 rw [yielded_of (b := true) (ts := ts) (ops := ops) rfl fun d _ => hR.ts d]
 simp only [if_true]
 refine ⟨fun f _ => hF.fn f, ?_⟩
 rw [Oper.semAt_eq _ _ _ (fun c h => by cases h)]
 have e1 : (execOp a.eval (⟨some d, .alloc t, ty, pos, af, none⟩ : Oper)).run P g.w = .ok (.value (.pointer (some ⟨b, 0, none⟩))) w1 := by
  simp [execOp, Instr.alloc, zeroValue, typeInfo, hi, hzi, newVar, newRow, hzk, hw1, hb]
 rw [e1]
 show wpListIn F nn P ops R _ (a.put (some d) _) w1
 unfold wpListIn
 rw [yielded_of (g := ⟨g.M, g.β, K', w2⟩) (b := true) (ts := (d, .d (.el i.size [.agg (intsD k)] 0 0)) :: ts) (ops := ops) rfl fun q _ => hR2.ts q]
 simp only [if_true]
 refine ⟨fun f _ => hF.fn f, ?_⟩
 rw [Oper.semAt_eq _ _ _ (fun c h => by cases h)]
 have hx2 : (a.put (some d) (.pointer (some ⟨b, 0, none⟩))).eval (.tmp d) = .pointer (some ⟨b, 0, none⟩) := by
  have := put_getD (a := a) (c := .pointer (some ⟨b, 0, none⟩)) hR.size (dst := some d) hd d
  rw [if_pos rfl] at this
  exact this
 have hy2 : (a.put (some d) (.pointer (some ⟨b, 0, none⟩))).eval y = keyV k := by
  rw [← hyv]
  cases y with
  | tmp q =>
   have := put_getD (a := a) (c := .pointer (some ⟨b, 0, none⟩)) hR.size (dst := some d) hd q
   rw [if_neg (fun e => hyd (by rw [Option.some.inj e]))] at this
   exact this
  | _ => rfl
 have hstc := run_storeCells_at P b 0 t (k.map (Value.int .i64)) 0 (k0.map (Value.int .i64)).toArray w1 hb1 (by simp [hk0]) (fun v hv => by obtain ⟨n, _, rfl⟩ := List.mem_map.1 hv; rfl)
 rw [show (List.take (0 + 0) (k0.map (Value.int .i64)).toArray.toList ++ k.map (Value.int .i64) ++ List.drop (0 + 0 + (k.map (Value.int .i64)).length) (k0.map (Value.int .i64)).toArray.toList) = k.map (Value.int .i64) by
  rw [List.drop_eq_nil_of_le (by simp [hk0])]; simp] at hstc
 have e2 : (execOp (a.put (some d) (.pointer (some ⟨b, 0, none⟩))).eval (⟨none, .store t (.tmp d) y, ty2, pos2, af2, none⟩ : Oper)).run P w1 = .ok .skip w2 := by
  have hcs : (keyV k).cells = (k.map (Value.int .i64)).toArray := rfl
  simp [execOp, hx2, hy2, Instr.storeAt, Instr.sureAddr, storeVar, ht.run_size, hsz, hcs]
  rw [show List.map (Value.int IntKind.i64) k = k.map (Value.int .i64) from rfl, hstc]
  rw [hw2]; rfl
 rw [e2]
 have := kk F nn hF ⟨g.M, g.β, K', w2⟩ _ R hle hgh2 hR2 kq
 exact this
end
section
variable {P : Program} {N : Nat} {ops : Array Oper} {l : List Oper} {ts : List (Nat × T)} {L : List (Option Rw)} {tr : List Stp} {K : List Oper → List Stp → St → Prop} {d : Nat} {ty : TypeId} {pos : String} {af : Array Edge} {gd : Option (Nat × Bool)}
theorem r_ldK {t : TypeId} {i : TI} {x : Operand} {s : Nat} {k : List Int} {n : Int} (tb : Tab P) (ht : tb.f t = some i) (hx : opT ts x = .d (.el s [.agg (intsD k)] 0 0)) (ha : i.agg = false) (hs1 : i.size = 1) (hq : ixO k 0 = some n) (hw : wantT ops ts ⟨some d, .load t x, ty, pos, af, gd⟩ = some true) (hd : Nat.blt d N = true)
  (kk : EvK P N ops l ⟨(d, .d (.v (.int .i64 n))) :: ts, L⟩ (tr ++ [.run [] []]) K) : EvK P N ops (⟨some d, .load t x, ty, pos, af, gd⟩ :: l) ⟨ts, L⟩ tr K := by
 obtain ⟨q, rfl⟩ : ∃ q, k = n :: q := by
  cases k with
  | nil => simp [ixO] at hq
  | cons m q => simp [ixO] at hq; exact ⟨q, by rw [hq]⟩
 refine ev_val (ins := [(x, .d (.el s [.agg (intsD (n :: q))] 0 0))]) (rn := []) (v := .d (.v (.int .i64 n))) rfl ?_ hw (by simp [Op.operands, hx]) (by simp) hd kk
 have := o_loadD (P := P) (o := ⟨some d, .load t x, ty, pos, af, gd⟩) (fresh := L.length) (x := x) (s := s) (l := [.agg (intsD (n :: q))]) (k := 0) (c := 0) (e := .agg (intsD (n :: q))) rfl (tb.ok _ _ ht) rfl (by simp [partOk, ha, hs1, D.cells, intsD])
 simpa [partOf, ha, D.cells, intsD] using this
end
theorem trim_see {N : Nat} {ts : List (Nat × T)} {L : List (Option Rw)} {df : List Deferred} {α : Type} {w : List α} {f : α → T} (n0 n s k : Nat) (hs : s ≠ 0) (hn : L[n]? = some (some ⟨s, w.map f⟩)) {g : G} {a : Act} (hR : StR g N ⟨ts, L⟩ a df) :
 ∃ g', g'.w = g.w ∧ LeN n0 g g' ∧ StR g' N ⟨ts, L.set n (some ⟨s, (w.take k).map f⟩)⟩ a df := by
 have hg := hR.good
 have hnM : g.M n = some (some ⟨s, w.map f⟩) := by rw [hR.M]; exact hn
 have hnl : n < L.length := (List.getElem?_eq_some_iff.1 hn).1
 by_cases h0 : (g.β n).2 = 0
 ·have hw : w = [] := by
   rcases hg.rows n _ hnM with ⟨_, h, _⟩ | ⟨_, cells, e, _, _, h, _⟩ | ⟨_, h, _⟩
   ·simpa using h
   ·simp only [List.length_map] at h; exact List.length_eq_zero_iff.1 (by omega)
   ·omega
  subst hw
  refine ⟨g, rfl, .refl _ _, ?_⟩
  have : L.set n (some ⟨s, (([] : List α).take k).map f⟩) = L := by
   rw [List.take_nil]
   apply List.ext_getElem?
   intro i
   rw [List.getElem?_set]
   by_cases h : n = i
   ·subst h; rw [if_pos rfl, if_pos hnl, hn]
   ·rw [if_neg h]
  rw [this]
  exact hR
 ·have hle := Le.put (r' := ⟨s, (w.take k).map f⟩) hnM h0 (w := g.w) rfl rfl rfl rfl (fun _ _ => rfl)
  have hG := Good.putR hg hnM h0 hle rfl (fun _ _ => rfl) (by
   rcases hg.rows n _ hnM with ⟨h, _⟩ | ⟨h1, cells, e, h2, h3, h4, h5⟩ | ⟨h, _⟩
   ·exact absurd h h0
   ·refine .inr (.inl ⟨h1, cells, e, h2, h3, ?_, fun i x hx => ?_⟩)
    ·simp only [List.length_map, List.length_take] at h4 ⊢; exact Nat.le_trans (Nat.min_le_right _ _) h4
    ·have hx' : (w.map f)[i]? = some x := by
      simp only [List.getElem?_map, List.getElem?_take] at hx ⊢
      split at hx
      ·exact hx
      ·cases hx
     refine ⟨(h5 i x hx').1, fun j y hy => ?_⟩
     obtain ⟨c, h6, h7⟩ := (h5 i x hx').2 j y hy
     exact ⟨c, h6, h7.mono hg hle⟩
   ·exact absurd h hs)
  refine ⟨g.put n ⟨s, (w.take k).map f⟩ g.w, rfl, hle.toN _, hG, ?_, hR.size, fun i => (hR.ts i).mono hg hle, hR.df⟩
  funext j
  show (if j = n then _ else g.M j) = (L.set n _)[j]?
  rw [List.getElem?_set, hR.M]
  by_cases h : j = n
  ·subst h; rw [if_pos rfl, if_pos rfl, if_pos hnl]
  ·rw [if_neg h, if_neg (fun e => h e.symm)]; rfl
def preO {α β : Type} (a : List β) (w : List α) : Option (List α) := if a.length ≤ w.length then some (w.take a.length) else none
theorem pre_len {α β : Type} {a : List β} {w q : List α} (h : preO a w = some q) : a.length = q.length := by
 unfold preO at h
 split at h
 ·injection h with h; rw [← h, List.length_take]; omega
 ·cases h
theorem pre_eq {α β : Type} {a : List β} {w q : List α} (h : preO a w = some q) : w.take a.length = q := by
 unfold preO at h
 split at h
 ·injection h
 ·cases h
theorem SWX.trim {P : Program} {kt : Nat} {gs : G} {n0 N : Nat} {df : List Deferred} {Q : Gh → SX → St → Prop} {x : Gh} {c : Code} {ts : List (Nat × T)} {L L' : List (Option Rw)} {α β : Type} {w q : List α} {f : α → T} {a : List β} (n s : Nat) (hs : Nat.beq s 0 = false) (hn : L[n]? = some (some ⟨s, w.map f⟩)) (hq : preO a w = some q) (hL : L.set n (some ⟨s, q.map f⟩) = L') (h : SWX P kt gs n0 N df c Q x ⟨ts, L'⟩) : SWX P kt gs n0 N df c Q x ⟨ts, L⟩ :=
 SWX.seen (fun _ _ hR => trim_see n0 n s a.length (Nat.ne_of_beq_eq_false hs) hn hR) (by rw [pre_eq hq, hL]; exact h)
def hrgO {β : Type} (R : List Int → List Int → Option β) : KL → Option (List β)
 | [] => some []
 | p :: A => Option.bind (R p.1 p.2) fun b => Option.bind (hrgO R A) fun l => some (b :: l)
def HS {β : Type} (R : List Int → List Int → Option β) (A : KL) (S : List Nat) (rs : List β) : Prop := S.map (fun i => (A[i]?).bind fun p => R p.1 p.2) = rs.map some
theorem hrg_map {β : Type} {R : List Int → List Int → Option β} : ∀ {A : KL} {q : List β}, hrgO R A = some q → A.map (fun p => R p.1 p.2) = q.map some
 | [], q, h => by cases h; rfl
 | p :: A, q, h => by
  obtain ⟨b, hb, h⟩ := Option.bind_eq_some_iff.1 h
  obtain ⟨l, hl, h⟩ := Option.bind_eq_some_iff.1 h
  injection h with h
  subst h
  rw [List.map_cons, List.map_cons, hb, hrg_map hl]
theorem HS.nil {β : Type} {R : List Int → List Int → Option β} {A : KL} : HS R A [] [] := rfl
theorem HS.len {β : Type} {R : List Int → List Int → Option β} {A : KL} {S : List Nat} {rs : List β} (h : HS R A S rs) : rs.length = S.length := by
 have := congrArg List.length h; simpa using this.symm
theorem HS.add {β : Type} {R : List Int → List Int → Option β} {A : KL} {S : List Nat} {rs : List β} (h : HS R A S rs) {i : Nat} {p : List Int × List Int} {b : β} (hp : A[i]? = some p) (hb : R p.1 p.2 = some b) : HS R A (S ++ [i]) (rs ++ [b]) := by
 unfold HS at h ⊢
 rw [List.map_append, List.map_append, h]
 simp [hp, hb]
theorem hrg_at {β : Type} {R : List Int → List Int → Option β} {A : KL} {q : List β} (h : hrgO R A = some q) {i : Nat} {p : List Int × List Int} (hp : A[i]? = some p) : ∃ b, R p.1 p.2 = some b := by
 have h1 := hrg_map h
 have h2 : (A.map fun p => R p.1 p.2)[i]? = (q.map some)[i]? := by rw [h1]
 rw [List.getElem?_map, hp, List.getElem?_map] at h2
 cases hq : q[i]? with
 | none => rw [hq] at h2; cases h2
 | some b => rw [hq] at h2; exact ⟨b, Option.some.inj h2⟩
theorem nodup_le {S : List Nat} {n : Nat} (h : S.Nodup) (hS : ∀ i ∈ S, i < n) : S.length ≤ n := by
 have h1 : S.Perm ((List.range n).filter fun i => decide (i ∈ S)) := (List.perm_ext_iff_of_nodup h (List.nodup_range.filter _)).2 fun i => by
  rw [List.mem_filter, List.mem_range, decide_eq_true_iff]
  exact ⟨fun hi => ⟨hS i hi, hi⟩, fun hi => hi.2⟩
 rw [h1.length_eq]
 exact Nat.le_trans (List.length_filter_le _ _) (by simp)
theorem nodup_add {S : List Nat} {i : Nat} (h : S.Nodup) (hi : i ∉ S) : (S ++ [i]).Nodup := by
 rw [List.nodup_append]
 exact ⟨h, by simp, fun a ha b hb => by simp at hb; subst hb; intro e; subst e; exact hi ha⟩
theorem nodup_lt {S : List Nat} {i n : Nat} (h : S.Nodup) (hS : ∀ i ∈ S, i < n) (hi : i < n) (hn : i ∉ S) : S.length < n := by
 have := nodup_le (n := n) (nodup_add h hn) (fun j hj => by rcases List.mem_append.1 hj with hj | hj; exact hS j hj; simp at hj; omega)
 simp at this
 omega
theorem HS.perm {β : Type} {R : List Int → List Int → Option β} {A : KL} {S : List Nat} {rs q : List β} (h : HS R A S rs) (hd : S.Nodup) (hS : ∀ i ∈ S, i < A.length) (hall : ∀ i, i < A.length → i ∈ S) (hq : hrgO R A = some q) : rs.Perm q := by
 have h1 : S.Perm (List.range A.length) := (List.perm_ext_iff_of_nodup hd List.nodup_range).2 fun i => ⟨fun hi => List.mem_range.2 (hS i hi), fun hi => hall i (List.mem_range.1 hi)⟩
 have h2 : (List.range A.length).map (fun i => (A[i]?).bind fun p => R p.1 p.2) = A.map fun p => R p.1 p.2 := by
  apply List.ext_getElem?
  intro i
  by_cases hi : i < A.length
  ·simp [hi]
  ·rw [List.getElem?_eq_none (by simp; omega), List.getElem?_eq_none (by simp; omega)]
 have h3 := h1.map (fun i => (A[i]?).bind fun p => R p.1 p.2)
 rw [h2, hrg_map hq, show S.map (fun i => (A[i]?).bind fun p => R p.1 p.2) = rs.map some from h] at h3
 obtain ⟨l3, h4, h5⟩ := perm_lift (f := some) h3 rs rfl
 have : l3 = q := by
  have e := congrArg (List.filterMap id) h5
  simpa [List.filterMap_map] using e
 exact this ▸ h4.symm
def srtO {β : Type} (lt : β → β → Bool) (l : List β) : Option (List β) := if (l.mergeSort fun x y => !lt y x).Pairwise (fun x y => lt x y = true) ∧ l.length < 4611686018427387904 then some (l.mergeSort fun x y => !lt y x) else none
structure LtOk {β : Type} (lt : β → β → Bool) : Prop where
 asym : ∀ x y, lt x y = true → lt y x = false
 nt : ∀ x y z, lt x y = false → lt y z = false → lt x z = false
theorem srt_len {β : Type} {lt : β → β → Bool} {l r : List β} (h : srtO lt l = some r) : l.length = r.length := by
 unfold srtO at h
 split at h
 ·injection h with h; rw [← h]; exact (List.mergeSort_perm _ _).length_eq.symm
 ·cases h
theorem srt_one {β : Type} {lt : β → β → Bool} (ho : LtOk lt) {l r m : List β} (h : srtO lt l = some r) (hm : m.Perm l) (hw : m.Pairwise (fun x y => ¬ lt y x = true)) : m = r := by
 unfold srtO at h
 split at h
 ·rename_i hc
  injection h with h
  rw [h] at hc
  have hr : r.Perm l := by rw [← h]; exact List.mergeSort_perm _ _
  have hmr : m.Perm r := hm.trans hr.symm
  refine List.Perm.eq_of_pairwise (le := fun x y => ¬ lt y x = true) (fun a b ha hb hab hba => ?_) hw (hc.1.imp fun {a b} hab => by rw [ho.asym a b hab]; exact Bool.false_ne_true) hmr
  obtain ⟨i, hi⟩ := List.getElem?_of_mem (hmr.mem_iff.1 ha)
  obtain ⟨j, hj⟩ := List.getElem?_of_mem hb
  obtain ⟨hi1, hi2⟩ := List.getElem?_eq_some_iff.1 hi
  obtain ⟨hj1, hj2⟩ := List.getElem?_eq_some_iff.1 hj
  have hpw := List.pairwise_iff_getElem.1 hc.1
  rcases Nat.lt_trichotomy i j with hij | hij | hij
  ·have := hpw i j hi1 hj1 hij; rw [hi2, hj2] at this; exact absurd this hba
  ·subst hij; rw [hi] at hj; exact Option.some.inj hj
  ·have := hpw j i hj1 hi1 hij; rw [hi2, hj2] at this; exact absurd this hab
 ·cases h
theorem srt_sorted {β : Type} {lt : β → β → Bool} (ho : LtOk lt) (l : List β) : (l.mergeSort fun x y => !lt y x).Pairwise (fun x y => ¬ lt y x = true) := by
 have := List.pairwise_mergeSort (le := fun x y => !lt y x) (fun a b c h1 h2 => by
  simp only [Bool.not_eq_true'] at h1 h2 ⊢
  exact ho.nt c b a h2 h1) (fun a b => by
  cases h : lt b a with
  | false => rfl
  | true => rw [ho.asym b a h]; rfl) l
 exact this.imp fun {a b} h => by simpa using h
theorem srt_perm {β : Type} {lt : β → β → Bool} (ho : LtOk lt) {q r l : List β} (h : srtO lt q = some r) (hp : l.Perm q) : srtO lt l = some r := by
 have e : (l.mergeSort fun x y => !lt y x) = r := srt_one ho h ((List.mergeSort_perm _ _).trans hp) (srt_sorted ho l)
 unfold srtO at h ⊢
 rw [e]
 split at h
 ·rename_i hc
  injection h with h
  rw [h] at hc
  rw [if_pos ⟨hc.1, by rw [hp.length_eq]; exact hc.2⟩]
 ·cases h
theorem srt_lt {β : Type} {lt : β → β → Bool} {l r : List β} (h : srtO lt l = some r) : l.length < 4611686018427387904 := by
 unfold srtO at h
 split at h
 ·rename_i hc; exact hc.2
 ·cases h
end Go.Proofs.Ytjnnkcnnandeeaa.Sh
namespace Go.Proofs.Ytjnnkcnnandeeaa.Dd
open Go Go.RowKit
open Go.Proofs.Ytjnnkcnnandeeaa.Sh (count_ready Closed getD_rep getD_upd count_set_lt)
def Ext (w w' : World) : Prop := Below w.heap.size w w' ∧ w.drawn ≤ w'.drawn
theorem Ext.refl (w : World) : Ext w w := ⟨Below.refl _ w, Nat.le_refl _⟩
theorem Ext.size {w w' : World} (h : Ext w w') : w.heap.size ≤ w'.heap.size := Below.size h.1
theorem Ext.trans {a b c : World} (h : Ext a b) (k : Ext b c) : Ext a c := ⟨Below.trans h.1 (Below.mono k.1 h.size), Nat.le_trans h.2 k.2⟩
theorem Ext.drew {a b : World} (h : Ext a b) : Ext a b.drew := ⟨Below.drew h.1, Nat.le_succ_of_le h.2⟩
theorem Ext.alloc {a b : World} (h : Ext a b) (o : Obj) : Ext a (b.alloc o) := ⟨Below.alloc h.1 h.size o, h.2⟩
theorem Ext.cell {w w' : World} (h : Ext w w') {p : Addr} {v : Value} (hc : w.cell? p = some v) : w'.cell? p = some v := by
  rw [Below.cell h.1 (World.block_lt_of_cell? w p hc)]; exact hc
section
variable {P : Program} {md : Region.Mode} {ops : Array Oper} {Q : Exit → Act → World → Prop}
def lowEdges (ops : Array Oper) : Bool := (List.range ops.size).all fun j => match ops[j]? with | some o => o.after.all (fun e => decide (e.on < j)) | none => true
theorem all_listed {listed : Array Bool} (hl : lowEdges ops = true) (hs : listed.size = ops.size) (hr : Region.ready md ops listed = []) : ∀ j, j < ops.size → listed.getD j false = true := by
  intro j
  induction j using Nat.strongRecOn with
  | _ j ih =>
    intro hj
    unfold lowEdges at hl
    rw [List.all_eq_true] at hl
    have h1 := hl j (List.mem_range.2 hj)
    have ho : ops[j]? = some ops[j] := Array.getElem?_eq_getElem hj
    rw [ho] at h1
    dsimp only at h1
    rw [Array.all_eq_true_iff_forall_mem] at h1
    cases hh : listed.getD j false with
    | true => rfl
    | false =>
      have hm : j ∈ Region.ready md ops listed := mem_ready.2 ⟨by
        have hj' : j < listed.size := by omega
        simpa [Array.getD, hj'] using hh, _, ho, fun e he _ => by
          have := of_decide_eq_true (h1 e he)
          exact ih _ this (by omega)⟩
      rw [hr] at hm
      cases hm
theorem wpAny_inv (Inv : Array Bool → Act → World → Prop)
    (hstep : ∀ listed a w i, Inv listed a w → i ∈ Region.ready md ops listed → wpOp P ops Q i (Inv (listed.setIfInBounds i true)) a w)
    (hend : ∀ listed a w, Region.ready md ops listed = [] → Inv listed a w → Q .normal a w) :
    ∀ (fuel : Nat) (listed : Array Bool) (a : Act) (w : World), listed.toList.count false ≤ fuel → Inv listed a w → wpAny P md ops Q fuel listed a w
  | 0, listed, a, w, hc, h => by
    have hr : Region.ready md ops listed = [] := by
      rw [List.eq_nil_iff_forall_not_mem]
      intro i hi
      have := count_ready hi
      omega
    exact ⟨hr, hend _ _ _ hr h⟩
  | fuel + 1, listed, a, w, hc, h =>
    ⟨fun hr => hend _ _ _ hr h, fun i hi => wpOp_mono (fun a' w' h' => wpAny_inv Inv hstep hend fuel _ a' w' (by have := count_ready hi; omega) h') (hstep listed a w i h hi)⟩
theorem wp_region_inv {id : Nat} {a : Act} {w : World} (hm : P.follows .mixedOrders = true) (Inv : Array Bool → Act → World → Prop)
    (h0 : Inv (Array.replicate ops.size false) a w.drew)
    (hstep : ∀ listed a w i, Closed .any ops listed → Inv listed a w → i ∈ Region.ready .any ops listed → wpOp P ops Q i (Inv (listed.setIfInBounds i true)) a w)
    (hend : ∀ listed a w, listed.size = ops.size → Region.ready .any ops listed = [] → Inv listed a w → Q .normal a w) : (Code.region id ops true).wp P Q a w :=
  wp_region_any hm (wpAny_inv (fun listed a w => listed.size = ops.size ∧ Closed .any ops listed ∧ Inv listed a w)
    (fun listed a w i h hi => wpOp_mono (fun a' w' h' => ⟨by rw [Array.size_setIfInBounds]; exact h.1, h.2.1.step hi, h'⟩) (hstep listed a w i h.2.1 h.2.2 hi))
    (fun listed a w hr h => hend listed a w h.1 hr h.2.2) _ _ _ _ (by rw [Array.toList_replicate, List.count_replicate_self]; exact Nat.le_refl _)
    ⟨by simp, (fun j o _ hj => (by rw [getD_rep] at hj; cases hj) : Closed .any ops (Array.replicate ops.size false)), h0⟩)
def fill (T : Array Value) (x : Nat → Value) : List Nat → Array Value
  | [] => T
  | d :: ds => (fill T x ds).setIfInBounds d (x d)
theorem fill_size (T : Array Value) (x : Nat → Value) : ∀ ds, (fill T x ds).size = T.size
  | [] => rfl
  | d :: ds => by rw [fill, Array.size_setIfInBounds, fill_size T x ds]
theorem fill_get (T : Array Value) (x : Nat → Value) (i : Nat) : ∀ ds, (fill T x ds)[i]? = if i ∈ ds ∧ i < T.size then some (x i) else T[i]?
  | [] => by simp [fill]
  | d :: ds => by
    rw [fill, Array.getElem?_setIfInBounds, fill_get T x i ds, fill_size]
    by_cases hd : d = i
    · subst hd
      by_cases hs : d < T.size
      · simp [hs]
      · simp [hs]
    · have hd' : ¬ i = d := fun e => hd e.symm
      simp [hd, hd']
theorem fill_self (T : Array Value) (ds : List Nat) : fill T (fun d => T.getD d undef) ds = T := by
  apply Array.ext_getElem?
  intro i
  rw [fill_get]
  split
  · rename_i h
    simp [Array.getD, h.2]
  · rfl
theorem fill_put (T : Array Value) (x : Nat → Value) (ds : List Nat) {d : Nat} (v : Value) (h : d ∈ ds) : (fill T x ds).setIfInBounds d v = fill T (fun k => if k = d then v else x k) ds := by
  apply Array.ext_getElem?
  intro i
  rw [Array.getElem?_setIfInBounds, fill_get, fill_get, fill_size]
  by_cases hd : d = i
  · subst hd
    by_cases hs : d < T.size
    · simp [hs, h]
    · simp [hs]
  · have hd' : ¬ i = d := fun e => hd e.symm
    simp [hd, hd']
def slotsOk (ops : Array Oper) (slot : Nat → Nat) : Bool := (List.range ops.size).all fun j => match ops[j]? with | some o => o.dst == some (slot j) | none => false
def slotsApart (n : Nat) (slot : Nat → Nat) : Bool := (List.range n).all fun i => (List.range n).all fun j => decide (i = j) || !decide (slot i = slot j)
def RegStep (P : Program) (Q : Exit → Act → World → Prop) (T : Array Value) (df : List Deferred) (ds : List Nat) (slot : Nat → Nat) (Val : Nat → Value → World → Prop) (R : World → World → Prop) (w : World) (j : Nat) (o : Oper) : Prop :=
  ∀ x W, (∀ e ∈ o.after, Region.binds .any e = true → Val e.on (x (slot e.on)) W) → R w W →
    ((∀ g b, o.guard = some (g, b) → x (slot g) = .bool b) → ∀ K, (∀ v W', Val j v W' → R W W' → K (Act.put ⟨fill T x ds, df⟩ o.dst v) W') → o.wp P ⟨fill T x ds, df⟩ W K Q) ∧
    (∀ g b, o.guard = some (g, b) → x (slot g) ≠ .bool b → Val j undef W ∧ R W W)
def stepsAll (S : Nat → Oper → Prop) : Nat → List Oper → Prop
  | _, [] => True
  | j, o :: l => S j o ∧ stepsAll S (j + 1) l
theorem stepsAll_get {S : Nat → Oper → Prop} : ∀ (l : List Oper) (i : Nat) (_ : stepsAll S i l) (j : Nat) (o : Oper), l[j]? = some o → S (i + j) o
  | [], _, _, j, o, ho => by simp at ho
  | _ :: _, _, h, 0, o, ho => by
    simp at ho
    subst ho
    exact h.1
  | _ :: l, i, h, j + 1, o, ho => by
    have := stepsAll_get l (i + 1) h.2 j o (by simpa using ho)
    rwa [show i + 1 + j = i + (j + 1) by omega] at this
def guardsOk (ops : Array Oper) : Bool := (List.range ops.size).all fun j => match ops[j]? with | some o => (match o.guard with | some (g, _) => decide (g < j) | none => true) | none => true
theorem wp_region_vals {id : Nat} {T : Array Value} {df : List Deferred} {w : World} (hm : P.follows .mixedOrders = true)
    (slot : Nat → Nat) (Val : Nat → Value → World → Prop) (ds : List Nat) (hds : ds = (List.range ops.size).map slot) (hs : slotsOk ops slot = true) (hap : slotsApart ops.size slot = true) (hlow : lowEdges ops = true)
    (hgd : guardsOk ops = true) (hin : ds.all (fun d => decide (d < T.size)) = true)
    (R : World → World → Prop) (hR0 : R w w.drew) (hRt : ∀ A B C, R A B → R B C → R A C)
    (hmono : ∀ j v A B, Val j v A → R A B → Val j v B)
    (hsteps : stepsAll (RegStep P Q T df ds slot Val R w) 0 ops.toList)
    (hend : ∀ x W, (∀ j, j < ops.size → Val j (x (slot j)) W) → R w W → Q .normal ⟨fill T x ds, df⟩ W) : (Code.region id ops true).wp P Q ⟨T, df⟩ w := by
  have hstep : ∀ j o x W, ops[j]? = some o → (∀ e ∈ o.after, Region.binds .any e = true → Val e.on (x (slot e.on)) W) → R w W →
      wpOp P ops Q j (fun a' W' => ∃ v, a' = Act.put ⟨fill T x ds, df⟩ o.dst v ∧ Val j v W' ∧ R W W') ⟨fill T x ds, df⟩ W := by
    intro j o x W ho hd hR
    have hS := stepsAll_get ops.toList 0 hsteps j o (by simpa using ho)
    rw [Nat.zero_add] at hS
    obtain ⟨hS1, hS2⟩ := hS x W hd hR
    have hjl : j < ops.size := (Array.getElem?_eq_some_iff.1 ho).1
    have hy : ∀ g, g < ops.size → yielded ops (fill T x ds) g = match x (slot g) with | .bool b => some b | _ => none := by
      intro g hg
      have hdst : (ops[g]?).bind (·.dst) = some (slot g) := by
        unfold slotsOk at hs
        rw [List.all_eq_true] at hs
        have h1 := hs g (List.mem_range.2 hg)
        rw [Array.getElem?_eq_getElem hg] at h1 ⊢
        simpa using h1
      have hmem : slot g ∈ ds := by rw [hds]; exact List.mem_map.2 ⟨g, List.mem_range.2 hg, rfl⟩
      have hlt : slot g < T.size := by
        rw [List.all_eq_true] at hin
        simpa using hin _ hmem
      unfold yielded
      rw [hdst, Option.bind_some, fill_get, if_pos ⟨hmem, hlt⟩]
      cases x (slot g) <;> rfl
    have hgj : ∀ g b, o.guard = some (g, b) → g < ops.size := by
      intro g b hg
      unfold guardsOk at hgd
      rw [List.all_eq_true] at hgd
      have h1 := hgd j (List.mem_range.2 hjl)
      rw [ho] at h1
      dsimp only at h1
      rw [hg] at h1
      have := of_decide_eq_true h1
      omega
    unfold wpOp
    rw [ho]
    dsimp only
    cases hw : Region.wanted o (yielded ops (fill T x ds)) with
    | true =>
      rw [if_pos rfl]
      refine .inl (hS1 ?_ _ fun v W' h k => ⟨v, rfl, h, k⟩)
      intro g b hg
      unfold Region.wanted at hw
      rw [hg] at hw
      dsimp only at hw
      rw [hy g (hgj g b hg)] at hw
      cases hx : x (slot g) with
      | bool c => rw [hx] at hw; simp at hw; rw [hw]
      | _ => rw [hx] at hw; simp at hw
    | false =>
      rw [if_neg (by decide)]
      cases hg : o.guard with
      | none => unfold Region.wanted at hw; rw [hg] at hw; cases hw
      | some p =>
        obtain ⟨g, b⟩ := p
        refine ⟨undef, rfl, hS2 g b hg ?_⟩
        intro hx
        unfold Region.wanted at hw
        rw [hg] at hw
        dsimp only at hw
        rw [hy g (hgj g b hg), hx] at hw
        simp at hw
  refine wp_region_inv hm (fun listed a W => ∃ x, a = ⟨fill T x ds, df⟩ ∧ R w W ∧ ∀ j, j < ops.size → listed.getD j false = true → Val j (x (slot j)) W) ?_ ?_ ?_
  · exact ⟨fun d => T.getD d undef, by rw [fill_self], hR0, fun j _ h => by rw [getD_rep] at h; cases h⟩
  · rintro listed a W i hcl ⟨x, rfl, hx, hv⟩ hi
    obtain ⟨hun, o, ho, hdep⟩ := mem_ready.1 hi
    have hilt : i < ops.size := (Array.getElem?_eq_some_iff.1 ho).1
    have hlo : ∀ e ∈ o.after, e.on < ops.size := by
      unfold lowEdges at hlow
      rw [List.all_eq_true] at hlow
      have h1 := hlow i (List.mem_range.2 hilt)
      rw [ho] at h1
      dsimp only at h1
      rw [Array.all_eq_true_iff_forall_mem] at h1
      intro e he
      have := of_decide_eq_true (h1 e he)
      omega
    have hdst : o.dst = some (slot i) := by
      unfold slotsOk at hs
      rw [List.all_eq_true] at hs
      have h1 := hs i (List.mem_range.2 hilt)
      rw [ho] at h1
      simpa using h1
    refine wpOp_mono ?_ (hstep i o x W ho (fun e he hb => hv e.on (hlo e he) (hdep e he hb)) hx)
    rintro a' W' ⟨v, rfl, hval, hx'⟩
    have hmem : slot i ∈ ds := by rw [hds]; exact List.mem_map.2 ⟨i, List.mem_range.2 hilt, rfl⟩
    refine ⟨fun k => if k = slot i then v else x k, by rw [hdst]; simp only [Act.put]; rw [fill_put _ _ _ _ hmem], hRt _ _ _ hx hx', fun j hj hl => ?_⟩
    dsimp only
    by_cases hji : j = i
    · subst hji; rw [if_pos rfl]; exact hval
    · have hne : slot j ≠ slot i := by
        unfold slotsApart at hap
        rw [List.all_eq_true] at hap
        have h1 := hap j (List.mem_range.2 hj)
        rw [List.all_eq_true] at h1
        have h2 := h1 i (List.mem_range.2 hilt)
        simpa [hji] using h2
      rw [if_neg hne]
      rw [getD_upd hun, if_neg hji] at hl
      exact hmono _ _ _ _ (hv j hj hl) hx'
  · rintro listed a W hls hr ⟨x, rfl, hx, hv⟩
    exact hend x W (fun j hj => hv j hj (all_listed hlow hls hr j hj)) hx
section
variable {P : Program} {ops : Array Oper} {Q : Exit → Act → World → Prop}
def lowBinds (ops : Array Oper) : Bool := (List.range ops.size).all fun j => match ops[j]? with | some o => o.after.all (fun e => !Region.binds .any e || decide (e.on < j)) | none => true
theorem all_listed' {listed : Array Bool} (hl : lowBinds ops = true) (hs : listed.size = ops.size) (hr : Region.ready .any ops listed = []) : ∀ j, j < ops.size → listed.getD j false = true := by
  intro j
  induction j using Nat.strongRecOn with
  | _ j ih =>
    intro hj
    unfold lowBinds at hl
    rw [List.all_eq_true] at hl
    have h1 := hl j (List.mem_range.2 hj)
    have ho : ops[j]? = some ops[j] := Array.getElem?_eq_getElem hj
    rw [ho] at h1
    dsimp only at h1
    rw [Array.all_eq_true_iff_forall_mem] at h1
    cases hh : listed.getD j false with
    | true => rfl
    | false =>
      have hm : j ∈ Region.ready .any ops listed := mem_ready.2 ⟨by
        have hj' : j < listed.size := by omega
        simpa [Array.getD, hj'] using hh, _, ho, fun e he hb => by
          have h2 := h1 e he
          rw [hb, Bool.not_true, Bool.false_or] at h2
          have := of_decide_eq_true h2
          exact ih _ this (by omega)⟩
      rw [hr] at hm
      cases hm
theorem wp_region_vals' {id : Nat} {T : Array Value} {df : List Deferred} {w : World} (hm : P.follows .mixedOrders = true)
    (slot : Nat → Nat) (Val : Nat → Value → World → Prop) (ds : List Nat) (hds : ds = (List.range ops.size).map slot) (hs : slotsOk ops slot = true) (hap : slotsApart ops.size slot = true) (hlow : lowBinds ops = true)
    (hgd : guardsOk ops = true) (hin : ds.all (fun d => decide (d < T.size)) = true)
    (R : World → World → Prop) (hR0 : R w w.drew) (hRt : ∀ A B C, R A B → R B C → R A C)
    (hmono : ∀ j v A B, Val j v A → R A B → Val j v B)
    (hsteps : stepsAll (RegStep P Q T df ds slot Val R w) 0 ops.toList)
    (hend : ∀ x W, (∀ j, j < ops.size → Val j (x (slot j)) W) → R w W → Q .normal ⟨fill T x ds, df⟩ W) : (Code.region id ops true).wp P Q ⟨T, df⟩ w := by
  have hstep : ∀ j o x W, ops[j]? = some o → (∀ e ∈ o.after, Region.binds .any e = true → Val e.on (x (slot e.on)) W) → R w W →
      wpOp P ops Q j (fun a' W' => ∃ v, a' = Act.put ⟨fill T x ds, df⟩ o.dst v ∧ Val j v W' ∧ R W W') ⟨fill T x ds, df⟩ W := by
    intro j o x W ho hd hR
    have hS := stepsAll_get ops.toList 0 hsteps j o (by simpa using ho)
    rw [Nat.zero_add] at hS
    obtain ⟨hS1, hS2⟩ := hS x W hd hR
    have hjl : j < ops.size := (Array.getElem?_eq_some_iff.1 ho).1
    have hy : ∀ g, g < ops.size → yielded ops (fill T x ds) g = match x (slot g) with | .bool b => some b | _ => none := by
      intro g hg
      have hdst : (ops[g]?).bind (·.dst) = some (slot g) := by
        unfold slotsOk at hs
        rw [List.all_eq_true] at hs
        have h1 := hs g (List.mem_range.2 hg)
        rw [Array.getElem?_eq_getElem hg] at h1 ⊢
        simpa using h1
      have hmem : slot g ∈ ds := by rw [hds]; exact List.mem_map.2 ⟨g, List.mem_range.2 hg, rfl⟩
      have hlt : slot g < T.size := by
        rw [List.all_eq_true] at hin
        simpa using hin _ hmem
      unfold yielded
      rw [hdst, Option.bind_some, fill_get, if_pos ⟨hmem, hlt⟩]
      cases x (slot g) <;> rfl
    have hgj : ∀ g b, o.guard = some (g, b) → g < ops.size := by
      intro g b hg
      unfold guardsOk at hgd
      rw [List.all_eq_true] at hgd
      have h1 := hgd j (List.mem_range.2 hjl)
      rw [ho] at h1
      dsimp only at h1
      rw [hg] at h1
      have := of_decide_eq_true h1
      omega
    unfold wpOp
    rw [ho]
    dsimp only
    cases hw : Region.wanted o (yielded ops (fill T x ds)) with
    | true =>
      rw [if_pos rfl]
      refine .inl (hS1 ?_ _ fun v W' h k => ⟨v, rfl, h, k⟩)
      intro g b hg
      unfold Region.wanted at hw
      rw [hg] at hw
      dsimp only at hw
      rw [hy g (hgj g b hg)] at hw
      cases hx : x (slot g) with
      | bool c => rw [hx] at hw; simp at hw; rw [hw]
      | _ => rw [hx] at hw; simp at hw
    | false =>
      rw [if_neg (by decide)]
      cases hg : o.guard with
      | none => unfold Region.wanted at hw; rw [hg] at hw; cases hw
      | some p =>
        obtain ⟨g, b⟩ := p
        refine ⟨undef, rfl, hS2 g b hg ?_⟩
        intro hx
        unfold Region.wanted at hw
        rw [hg] at hw
        dsimp only at hw
        rw [hy g (hgj g b hg), hx] at hw
        simp at hw
  refine wp_region_inv hm (fun listed a W => ∃ x, a = ⟨fill T x ds, df⟩ ∧ R w W ∧ ∀ j, j < ops.size → listed.getD j false = true → Val j (x (slot j)) W) ?_ ?_ ?_
  · exact ⟨fun d => T.getD d undef, by rw [fill_self], hR0, fun j _ h => by rw [getD_rep] at h; cases h⟩
  · rintro listed a W i hcl ⟨x, rfl, hx, hv⟩ hi
    obtain ⟨hun, o, ho, hdep⟩ := mem_ready.1 hi
    have hilt : i < ops.size := (Array.getElem?_eq_some_iff.1 ho).1
    have hlo : ∀ e ∈ o.after, Region.binds .any e = true → e.on < ops.size := by
      unfold lowBinds at hlow
      rw [List.all_eq_true] at hlow
      have h1 := hlow i (List.mem_range.2 hilt)
      rw [ho] at h1
      dsimp only at h1
      rw [Array.all_eq_true_iff_forall_mem] at h1
      intro e he hb
      have h2 := h1 e he
      rw [hb, Bool.not_true, Bool.false_or] at h2
      have := of_decide_eq_true h2
      omega
    have hdst : o.dst = some (slot i) := by
      unfold slotsOk at hs
      rw [List.all_eq_true] at hs
      have h1 := hs i (List.mem_range.2 hilt)
      rw [ho] at h1
      simpa using h1
    refine wpOp_mono ?_ (hstep i o x W ho (fun e he hb => hv e.on (hlo e he hb) (hdep e he hb)) hx)
    rintro a' W' ⟨v, rfl, hval, hx'⟩
    have hmem : slot i ∈ ds := by rw [hds]; exact List.mem_map.2 ⟨i, List.mem_range.2 hilt, rfl⟩
    refine ⟨fun k => if k = slot i then v else x k, by rw [hdst]; simp only [Act.put]; rw [fill_put _ _ _ _ hmem], hRt _ _ _ hx hx', fun j hj hl => ?_⟩
    dsimp only
    by_cases hji : j = i
    · subst hji; rw [if_pos rfl]; exact hval
    · have hne : slot j ≠ slot i := by
        unfold slotsApart at hap
        rw [List.all_eq_true] at hap
        have h1 := hap j (List.mem_range.2 hj)
        rw [List.all_eq_true] at h1
        have h2 := h1 i (List.mem_range.2 hilt)
        simpa [hji] using h2
      rw [if_neg hne]
      rw [getD_upd hun, if_neg hji] at hl
      exact hmono _ _ _ _ (hv j hj hl) hx'
  · rintro listed a W hls hr ⟨x, rfl, hx, hv⟩
    exact hend x W (fun j hj => hv j hj (all_listed' hlow hls hr j hj)) hx
end
inductive Ent where
  | is (v : Value)
  | so (p : Value → World → Prop)
def Ent.holds : Ent → Value → World → Prop
  | .is c, v, _ => v = c
  | .so p, v, w => p v w
def Ent.keeps : Ent → Prop
  | .is _ => True
  | .so p => ∀ v A B, p v A → Ext A B → p v B
def keepsAll : List Ent → Prop
  | [] => True
  | e :: l => e.keeps ∧ keepsAll l
theorem keepsAll_get : ∀ (l : List Ent) (j : Nat), keepsAll l → (l.getD j (.is undef)).keeps
  | [], j, _ => by simp [Ent.keeps]
  | e :: l, 0, h => h.1
  | e :: l, j + 1, h => by rw [List.getD_cons_succ]; exact keepsAll_get l j h.2
theorem Ent.hold_on {e : Ent} (h : e.keeps) {v : Value} {A B : World} (k : e.holds v A) (x : Ext A B) : e.holds v B := by
  cases e with
  | is c => exact k
  | so p => exact h v A B k x
def fillX (T : Array Value) (x : Nat → Value) : List Nat → List Ent → Array Value
  | d :: ds, .is y :: ys => (fillX T x ds ys).setIfInBounds d y
  | d :: ds, .so _ :: ys => (fillX T x ds ys).setIfInBounds d (x d)
  | _, _ => T
def toldX (x : Nat → Value) (w : World) : List Nat → List Ent → Prop
  | _ :: ds, .is _ :: ys => toldX x w ds ys
  | d :: ds, .so p :: ys => p (x d) w ∧ toldX x w ds ys
  | _, _ => True
theorem fillX_eq (T : Array Value) (x : Nat → Value) (w : World) : ∀ (ds : List Nat) (ys : List Ent), ds.length = ys.length → (∀ j, j < ds.length → (ys.getD j (.is undef)).holds (x (ds.getD j 0)) w) → fill T x ds = fillX T x ds ys ∧ toldX x w ds ys
  | [], [], _, _ => ⟨rfl, trivial⟩
  | d :: ds, .is y :: ys, hl, h => by
    obtain ⟨h1, h2⟩ := fillX_eq T x w ds ys (by simpa using hl) (fun j hj => by have := h (j + 1) (by simp; omega); simpa using this)
    have h0 := h 0 (by simp)
    simp only [List.getD_cons_zero, Ent.holds] at h0
    exact ⟨by rw [fill, fillX, h1, h0], h2⟩
  | d :: ds, .so p :: ys, hl, h => by
    obtain ⟨h1, h2⟩ := fillX_eq T x w ds ys (by simpa using hl) (fun j hj => by have := h (j + 1) (by simp; omega); simpa using this)
    have h0 := h 0 (by simp)
    simp only [List.getD_cons_zero, Ent.holds] at h0
    exact ⟨by rw [fill, fillX, h1], h0, h2⟩
  | [], y :: ys, hl, _ => by simp at hl
  | d :: ds, [], hl, _ => by simp at hl
theorem wp_region_x (slots : List Nat) (ys : List Ent) {P : Program} {ops : Array Oper} {Q : Exit → Act → World → Prop} {id : Nat} {T : Array Value} {df : List Deferred} {w : World} (hm : P.follows .mixedOrders = true)
    (hds : slots = (List.range ops.size).map (fun j => slots.getD j 0)) (hly : slots.length = ys.length) (hs : slotsOk ops (fun j => slots.getD j 0) = true) (hap : slotsApart ops.size (fun j => slots.getD j 0) = true) (hlow : lowBinds ops = true)
    (hgd : guardsOk ops = true) (hin : slots.all (fun d => decide (d < T.size)) = true) (hk : keepsAll ys)
    (hsteps : stepsAll (RegStep P Q T df slots (fun j => slots.getD j 0) (fun j v w => (ys.getD j (.is undef)).holds v w) Ext w) 0 ops.toList)
    (hend : ∀ x W, toldX x W slots ys → Ext w W → Q .normal ⟨fillX T x slots ys, df⟩ W) : (Code.region id ops true).wp P Q ⟨T, df⟩ w :=
  wp_region_vals' hm (fun j => slots.getD j 0) (fun j v w => (ys.getD j (.is undef)).holds v w) slots hds hs hap hlow hgd hin Ext ((Ext.refl w).drew) (fun _ _ _ h k => h.trans k) (fun j _ _ _ h k => Ent.hold_on (keepsAll_get ys j hk) h k) hsteps fun x W hv hR => by
    obtain ⟨h1, h2⟩ := fillX_eq T x W slots ys hly (fun j hj => hv j (by rw [hds] at hj; simpa using hj))
    rw [h1]
    exact hend x W h2 hR


def fixedAt (F : Array Value) : List (Nat × Value) → Prop
  | [] => True
  | p :: l => F.getD p.1 undef = p.2 ∧ fixedAt F l
theorem fill_getD (T : Array Value) (x : Nat → Value) (ds : List Nat) (i : Nat) : (fill T x ds).getD i undef = if i ∈ ds ∧ i < T.size then x i else T.getD i undef := by
  rw [Array.getD_eq_getD_getElem?, fill_get]
  split
  · rfl
  · rw [← Array.getD_eq_getD_getElem?]
theorem fixed_fill (T : Array Value) (x : Nat → Value) (ds : List Nat) : ∀ (fx : List (Nat × Value)), (fx.all fun p => !ds.contains p.1) = true → fixedAt T fx → fixedAt (fill T x ds) fx
  | [], _, _ => trivial
  | p :: l, ho, h => by
    rw [List.all_cons, Bool.and_eq_true] at ho
    have h1 : ¬ p.1 ∈ ds := by
      have := ho.1
      simpa using this
    exact ⟨by rw [fill_getD, if_neg (fun hh => h1 hh.1)]; exact h.1, fixed_fill T x ds l ho.2 h.2⟩
def RegStepF (P : Program) (Q : Exit → Act → World → Prop) (df : List Deferred) (slot : Nat → Nat) (Val : Nat → Value → World → Prop) (fx : List (Nat × Value)) (w : World) (j : Nat) (o : Oper) : Prop :=
  ∀ F W, fixedAt F fx → (∀ e ∈ o.after, Region.binds .any e = true → Val e.on (F.getD (slot e.on) undef) W) → Ext w W →
    ((∀ g b, o.guard = some (g, b) → F.getD (slot g) undef = .bool b) → ∀ K, (∀ v W', Val j v W' → Ext W W' → K (Act.put ⟨F, df⟩ o.dst v) W') → o.wp P ⟨F, df⟩ W K Q) ∧
    (∀ g b, o.guard = some (g, b) → F.getD (slot g) undef ≠ .bool b → Val j undef W ∧ Ext W W)
theorem stepsF (P : Program) (Q : Exit → Act → World → Prop) (T : Array Value) (df : List Deferred) (ds : List Nat) (slot : Nat → Nat) (Val : Nat → Value → World → Prop) (fx : List (Nat × Value)) (w : World) (N : Nat)
    (hd : ∀ j, j < N → slot j ∈ ds ∧ slot j < T.size) (hfx : fixedAt T fx) (hout : (fx.all fun p => !ds.contains p.1) = true) :
    ∀ (l : List Oper) (i : Nat), (∀ o ∈ l, (∀ e ∈ o.after, Region.binds .any e = true → e.on < N) ∧ (∀ g b, o.guard = some (g, b) → g < N)) → stepsAll (RegStepF P Q df slot Val fx w) i l → stepsAll (RegStep P Q T df ds slot Val Ext w) i l
  | [], _, _, _ => trivial
  | o :: l, i, hw, h => by
    obtain ⟨hw1, hw2⟩ := hw o (by simp)
    refine ⟨fun x W he hR => ?_, stepsF P Q T df ds slot Val fx w N hd hfx hout l (i + 1) (fun o' ho' => hw o' (by simp [ho'])) h.2⟩
    have hg : ∀ k, k < N → (fill T x ds).getD (slot k) undef = x (slot k) := fun k hk => by rw [fill_getD, if_pos (hd k hk)]
    obtain ⟨h1, h2⟩ := h.1 (fill T x ds) W (fixed_fill T x ds fx hout hfx) (fun e he1 he2 => by rw [hg _ (hw1 e he1 he2)]; exact he e he1 he2) hR
    exact ⟨fun hgd => h1 (fun g b hgb => by rw [hg _ (hw2 g b hgb)]; exact hgd g b hgb), fun g b hgb hn => h2 g b hgb (by rw [hg _ (hw2 g b hgb)]; exact hn)⟩
def waitsOk (ops : Array Oper) : Bool := ops.toList.all fun o => o.after.all (fun e => decide (e.on < ops.size)) && (match o.guard with | some (g, _) => decide (g < ops.size) | none => true)
theorem waitsOk_get {ops : Array Oper} (h : waitsOk ops = true) : ∀ o ∈ ops.toList, (∀ e ∈ o.after, Region.binds .any e = true → e.on < ops.size) ∧ (∀ g b, o.guard = some (g, b) → g < ops.size) := by
  intro o ho
  unfold waitsOk at h
  rw [List.all_eq_true] at h
  have h1 := h o ho
  rw [Bool.and_eq_true, Array.all_eq_true_iff_forall_mem] at h1
  refine ⟨fun e he _ => by simpa using h1.1 e he, fun g b hg => ?_⟩
  have h2 := h1.2
  rw [hg] at h2
  simpa using h2
theorem wp_region_f (slots : List Nat) (ys : List Ent) (fx : List (Nat × Value)) {P : Program} {ops : Array Oper} {Q : Exit → Act → World → Prop} {id : Nat} {T : Array Value} {df : List Deferred} {w : World} (hm : P.follows .mixedOrders = true)
    (hds : slots = (List.range ops.size).map (fun j => slots.getD j 0)) (hly : slots.length = ys.length) (hs : slotsOk ops (fun j => slots.getD j 0) = true) (hap : slotsApart ops.size (fun j => slots.getD j 0) = true) (hlow : lowBinds ops = true)
    (hgd : guardsOk ops = true) (hin : slots.all (fun d => decide (d < T.size)) = true) (hwo : waitsOk ops = true) (hout : (fx.all fun p => !slots.contains p.1) = true) (hk : keepsAll ys) (hfx : fixedAt T fx)
    (hsteps : stepsAll (RegStepF P Q df (fun j => slots.getD j 0) (fun j v w => (ys.getD j (.is undef)).holds v w) fx w) 0 ops.toList)
    (hend : ∀ x W, toldX x W slots ys → Ext w W → Q .normal ⟨fillX T x slots ys, df⟩ W) : (Code.region id ops true).wp P Q ⟨T, df⟩ w := by
  refine wp_region_x slots ys hm hds hly hs hap hlow hgd hin hk ?_ hend
  refine stepsF P Q T df slots _ _ fx w ops.size (fun j hj => ?_) hfx hout ops.toList 0 (waitsOk_get hwo) hsteps
  have hm : (fun j => slots.getD j 0) j ∈ slots := by
    have : (fun j => slots.getD j 0) j ∈ (List.range ops.size).map (fun j => slots.getD j 0) := List.mem_map.2 ⟨j, List.mem_range.2 hj, rfl⟩
    rw [← hds] at this
    exact this
  refine ⟨hm, ?_⟩
  rw [List.all_eq_true] at hin
  simpa using hin _ hm

end
end Go.Proofs.Ytjnnkcnnandeeaa.Dd
namespace Go.Proofs.Ytjnnkcnnandeeaa.Sh
open Go
theorem mark_heap {w : World} {b : Nat} {c : Array Value} {e : EF c.size} (h : w.heap[b]? = some (.cells c e.1.1 e.1.2)) : ∃ e' : EF c.size, (w.freeze ⟨b, c.size, none⟩ 1).heap[b]? = some (.cells c e'.1.1 e'.1.2) := by
 obtain ⟨⟨t, lo, hi⟩, h2⟩ := e
 refine ⟨⟨(t, (c.size, c.size + 1)), .inr rfl⟩, ?_⟩
 dsimp only at h h2 ⊢
 unfold World.freeze
 rw [if_neg (by decide)]
 dsimp only
 rw [Array.getElem?_modify, if_pos rfl, h, Option.map_some]
 rcases h2 with h2 | h2 <;> injection h2 with h3 h4 <;> subst h3 <;> subst h4 <;> simp
theorem o_cvS {P : Program} {o : Oper} {fresh : Nat} {src e : TypeId} {x : Operand} {n lo len : Nat} {r : Rw} (hop : o.op = .convert src src x) (hs : P.underlying src = some (.slice e)) (he : P.underlying e = some (.int .u8)) (hrs : r.s = 1) (hne : 0 < r.els.length) :
  OpS P o [(x, .row n 1 lo len)] [(n, r)] [(n, some r)] fresh [] (.row n 1 lo len) :=
 .of_run (fun c h => by rw [hop] at h; cases h) fun g a hg hi hr _ => by
  have hx := hi (x, .row n 1 lo len) (by simp)
  have hn := hr (n, r) (by simp)
  dsimp only at hx hn
  obtain ⟨y, hy⟩ : ∃ y, r.els[0]? = some y := ⟨_, List.getElem?_eq_getElem hne⟩
  obtain ⟨hcap, cells, ety, ho, hos, hl, hrow⟩ := (hg.rows n r hn).has (by omega) hy
  obtain ⟨e', ho'⟩ := mark_heap ho
  generalize hv : a.eval x = v at hx
  cases hx with | row _ _ _ _ ad hM hs0 hle ha =>
  obtain rfl := ha hcap
  have hfr : ∀ b, b ≠ (g.β n).1 → (g.w.freeze ⟨(g.β n).1, cells.size, none⟩ 1).heap[b]? = g.w.heap[b]? := fun b hb => by
   unfold World.freeze
   rw [if_neg (by decide)]
   dsimp only
   rw [Array.getElem?_modify, if_neg (fun h => hb h.symm)]
  have hsz : (g.w.freeze ⟨(g.β n).1, cells.size, none⟩ 1).heap.size = g.w.heap.size := by
   unfold World.freeze
   rw [if_neg (by decide)]
   simp
  have hkeep : (g.w.freeze ⟨(g.β n).1, cells.size, none⟩ 1).os = g.w.os ∧ (g.w.freeze ⟨(g.β n).1, cells.size, none⟩ 1).tape = g.w.tape ∧ (g.w.freeze ⟨(g.β n).1, cells.size, none⟩ 1).output = g.w.output := by
   unfold World.freeze
   rw [if_neg (by decide)]
   exact ⟨rfl, rfl, rfl⟩
  have hLe := Le.put (r' := r) hn hcap hsz hkeep.1 hkeep.2.1 hkeep.2.2 hfr
  have hG := Good.putR hg hn hcap hLe hsz hfr (.inr (.inl ⟨by omega, cells, e', ho', hos, hl, fun i z hz => ⟨(hrow i z hz).1, fun j u hu => by
   obtain ⟨c, h1, h2⟩ := (hrow i z hz).2 j u hu
   exact ⟨c, h1, h2.mono hg hLe⟩⟩⟩))
  have hsh : g.w.shape? (g.β n).1 = some (ety.1.1, cells.size) := by unfold World.shape?; rw [ho]
  refine ⟨.slice (some ⟨(g.β n).1, lo * 1, none⟩) len ((g.β n).2 - lo), _, .inl ?_, hG, hLe, upd_put _ _ _ _, ?_⟩
  ·simp [execOp, hop, hv, convert, run_underlying hs, run_underlying he, markStringish, hsh, G.put]
  ·exact VT.row (g := g.put n r _) n 1 lo len _ (by simp [G.put]) (by decide) hle (fun _ => rfl)
section
variable {P : Program} {N : Nat} {ops : Array Oper} {l : List Oper} {ts : List (Nat × T)} {L : List (Option Rw)} {tr : List Stp} {K : List Oper → List Stp → St → Prop} {d : Nat} {ty : TypeId} {pos : String} {af : Array Edge} {gd : Option (Nat × Bool)}
theorem r_cvS {src e : TypeId} {x : Operand} {n lo len : Nat} {r : Rw} (hs : P.underlying src = some (.slice e)) (he : P.underlying e = some (.int .u8)) (hx : opT ts x = .row n 1 lo len) (hr : L[n]? = some (some r)) (hrs : r.s = 1) (hne : Nat.blt 0 r.els.length = true) (hw : wantT ops ts ⟨some d, .convert src src x, ty, pos, af, gd⟩ = some true) (hd : Nat.blt d N = true)
  (kk : EvK P N ops l ⟨(d, .row n 1 lo len) :: ts, L⟩ (tr ++ [.run [n] [n]]) K) : EvK P N ops (⟨some d, .convert src src x, ty, pos, af, gd⟩ :: l) ⟨ts, L⟩ tr K := by
 have hL : L.set n (some r) = L := by
  obtain ⟨h1, h2⟩ := List.getElem?_eq_some_iff.1 hr
  rw [← h2]; exact List.set_getElem_self h1
 refine ev_cons (.run hw (o_cvS (fresh := L.length) (n := n) (lo := lo) (len := len) (r := r) rfl hs he hrs (by simpa using hne)) ?_ ?_ ?_ hd) ?_
 ·intro p hp; simp only [List.mem_cons, List.not_mem_nil, or_false] at hp; subst hp; exact ⟨hx, by simp [Op.operands]⟩
 ·intro p hp; simp only [List.mem_cons, List.not_mem_nil, or_false] at hp; subst hp; exact hr
 ·intro p hp; simp only [List.mem_cons, List.not_mem_nil, or_false] at hp; subst hp; exact ⟨(n, r), by simp, rfl⟩
 ·simpa [St.eff, putS, setL, hL] using kk
end
end Go.Proofs.Ytjnnkcnnandeeaa.Sh
