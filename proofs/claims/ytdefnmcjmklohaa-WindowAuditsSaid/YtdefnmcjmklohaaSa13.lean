/- Maps of whatever values: written, and looked up with 'is it there'. Over whatever program. -/
import Derived.Test.YtdefnmcjmklohaaSa12
namespace Go.Proofs.Ytdefnmcjmklohaa.Sh
set_option linter.unusedVariables false
set_option linter.unusedSimpArgs false
open Go
section
variable {α β : Type} [BEq α] {P : Program} {kt : TypeId} {kv : α → Value}
variable {o : Oper} {fresh : Nat}
/-- What a typed map's row says of memory. -/
def mRowT (kv : α → Value) (vf : β → T) (m : List (α × β)) : Rw := ⟨0, m.map fun p => .agg [.d (.v (kv p.1)), vf p.2]⟩
omit [BEq α] in
theorem rowM_T {g : G} {n : Nat} {vf : β → T} {m : List (α × β)} (h : RowR g n (mRowT kv vf m)) : (g.β n).2 = 1 ∧ ∃ es clock, g.w.heap[(g.β n).1]? = some (.map es clock) ∧ es.toList.map (·.key) = m.map (fun p => kv p.1) ∧ ∀ (i : Nat) (p : α × β) (e : MapEntry), m[i]? = some p → es[i]? = some e → VT g (vf p.2) e.val := by
 rcases h with ⟨_, _, h3⟩ | ⟨h1, _⟩ | ⟨_, h2, es, clock, h3, h4, h5⟩
 ·exact absurd rfl h3
 ·exact absurd rfl h1
 have hlen : es.size = m.length := by rw [h4]; simp [mRowT]
 have get : ∀ (i : Nat) (p : α × β), m[i]? = some p → ∃ e, es[i]? = some e ∧ e.key = kv p.1 ∧ VT g (vf p.2) e.val := fun i p hp => by
  obtain ⟨k, y, e, q1, q2, q3, q4⟩ := h5 i (.agg [.d (.v (kv p.1)), vf p.2]) (by simp [mRowT, hp])
  simp only [T.agg.injEq, List.cons.injEq, T.d.injEq, D.v.injEq, and_true] at q1
  obtain ⟨rfl, rfl⟩ := q1
  exact ⟨e, q2, q3, q4⟩
 refine ⟨h2, es, clock, h3, ?_, fun i p e h6 h7 => ?_⟩
 ·apply List.ext_getElem?
  intro i
  rw [List.getElem?_map, List.getElem?_map, Array.getElem?_toList]
  by_cases hi : i < m.length
  ·obtain ⟨e, q1, q2, _⟩ := get i m[i] (List.getElem?_eq_getElem hi)
   rw [q1, List.getElem?_eq_getElem hi]
   simp [q2]
  ·rw [List.getElem?_eq_none (by omega), Array.getElem?_eq_none (by omega)]; rfl
 ·obtain ⟨e', q1, _, q3⟩ := get i p h6
  rw [q1] at h7
  injection h7 with h7
  exact h7 ▸ q3
variable {o : Oper} {fresh : Nat}
/-- An element of a map is written. -/
theorem o_mapSetT {t e : TypeId} {x y z : Operand} {n : Nat} {vf : β → T} {m : List (α × β)} {k : α} {v : β} (hop : o.op = .mapUpdate t x y z ∨ o.op = .insert t x y z) (ht : P.underlying t = some (.map kt e)) (K : KeyOk P kt kv) :
  OpS P o [(x, .mp n), (y, .d (.v (kv k))), (z, vf v)] [(n, mRowT kv vf m)] [(n, some (mRowT kv vf (mset m k v)))] fresh [] .bot :=
 .of_run (fun c h => by rcases hop with hop | hop <;> rw [hop] at h <;> cases h) fun g a hg hi hr _ => by
  have hx := hi (x, .mp n) (by simp)
  have hy := (hi (y, .d (.v (kv k))) (by simp)).v_eq
  have hzv := hi (z, vf v) (by simp)
  generalize hv : a.eval x = xv at hx
  cases hx with | mp _ hn =>
  dsimp only at hy hzv
  have hnM := hr (n, mRowT kv vf m) (by simp)
  dsimp only at hnM
  obtain ⟨hcap, es, clock, h1, h2, h3⟩ := rowM_T (hg.rows n _ hnM)
  have hc0 : (g.β n).2 ≠ 0 := by omega
  obtain ⟨desc, hd, hs⟩ := K.desc
  have hlen : es.size = m.length := by have := congrArg List.length h2; simpa using this
  obtain ⟨es', clock', hrun, hsz, hent⟩ : ∃ (es' : Array MapEntry) (clock' : Nat), (Instr.mapUpdate t (.map (some (g.β n).1)) (kv k) (a.eval z)).run P g.w = .ok () { g.w with heap := g.w.heap.setIfInBounds (g.β n).1 (.map es' clock') } ∧ es'.size = (mset m k v).length ∧
    ∀ (i : Nat) (p : α × β), (mset m k v)[i]? = some p → ∃ en, es'[i]? = some en ∧ en.key = kv p.1 ∧ VT g (vf p.2) en.val := by
   have old : ∀ (i : Nat) (p : α × β), m[i]? = some p → ∃ en, es[i]? = some en ∧ en.key = kv p.1 ∧ VT g (vf p.2) en.val := fun i p hp => by
    have hi : i < es.size := by rw [hlen]; exact (List.getElem?_eq_some_iff.1 hp).1
    have q : es[i]? = some es[i] := Array.getElem?_eq_getElem hi
    refine ⟨_, q, ?_, h3 i p _ hp q⟩
    have := congrArg (fun l => l[i]?) h2
    simp only [List.getElem?_map, Array.getElem?_toList, q, hp, Option.map_some, Option.some.injEq] at this
    exact this
   rcases findNow_m hs k es.toList m 0 h2 with ⟨q1, _, q2⟩ | ⟨j, en, p, q1, q2, q3, q4, q5, q6⟩
   ·have hf := MapKept.run_findKey (w := g.w) hd q2
    refine ⟨es.push { key := kv k, val := a.eval z, born := clock }, clock + 1, ?_, by rw [mset_none q1]; simp [hlen], fun i p hp => ?_⟩
    ·simp [Instr.mapUpdate, run_underlying ht, MapKept.run_getObj_map h1, K.check, hf, MapKept.run_setObj_map _ h1]
    ·rw [mset_none q1] at hp
     by_cases him : i < m.length
     ·rw [List.getElem?_append_left him] at hp
      obtain ⟨en, w1, w2, w3⟩ := old i p hp
      exact ⟨en, by rw [Array.getElem?_push, if_neg (by omega)]; exact w1, w2, w3⟩
     ·rw [List.getElem?_append_right (by omega)] at hp
      have hi0 : i - m.length = 0 := by
       rcases Nat.eq_zero_or_pos (i - m.length) with h | h
       ·exact h
       ·rw [List.getElem?_eq_none (by simp; omega)] at hp; cases hp
      rw [hi0] at hp
      simp at hp
      subst hp
      refine ⟨_, by rw [Array.getElem?_push, if_pos (by omega)], rfl, hzv⟩
   ·rw [Nat.zero_add] at q5 q6
    have hf := MapKept.run_findKey (w := g.w) hd q6
    have hje : es[j]? = some en := by simpa using q1
    have hkey : en.key = kv p.1 := by
     obtain ⟨en', w1, w2, _⟩ := old j p q2
     rw [hje] at w1; injection w1 with w1; rw [w1]; exact w2
    have hsb : Instr.sameBits 10000 en.key (kv k) = true := by rw [hkey]; exact K.bits k p.1 q3
    refine ⟨es.modify j fun e => { e with key := kv k, val := a.eval z }, clock, ?_, ?_, fun i p' hp => ?_⟩
    ·simp [Instr.mapUpdate, run_underlying ht, MapKept.run_getObj_map h1, K.check, hf, hje, Instr.keyThatStays, hsb, MapKept.run_setObj_map _ h1]
    ·have hg2 := mset_get (v := v) (i := 0) (j := j) (by rw [Nat.zero_add]; exact q5)
     rw [Array.size_modify, hlen]
     have hjm : j < m.length := (List.getElem?_eq_some_iff.1 q2).1
     apply Nat.le_antisymm
     ·apply Nat.not_lt.1
      intro hlt
      have := hg2 (mset m k v).length
      rw [List.getElem?_eq_none (Nat.le_refl _)] at this
      split at this
      ·cases this
      ·rw [List.getElem?_eq_getElem hlt] at this; cases this
     ·apply Nat.not_lt.1
      intro hlt
      have := hg2 m.length
      rw [if_neg (by omega), List.getElem?_eq_none (Nat.le_refl _), List.getElem?_eq_getElem hlt] at this
      cases this
    ·have hg2 := mset_get (v := v) (i := 0) (j := j) (by rw [Nat.zero_add]; exact q5) i
     rw [hg2] at hp
     by_cases hij : i = j
     ·subst hij
      rw [if_pos rfl] at hp
      injection hp with hp
      subst hp
      exact ⟨{ en with key := kv k, val := a.eval z }, by rw [Array.getElem?_modify, if_pos rfl, hje]; rfl, rfl, hzv⟩
     ·rw [if_neg hij] at hp
      obtain ⟨en', w1, w2, w3⟩ := old i p' hp
      exact ⟨en', by rw [Array.getElem?_modify, if_neg (fun e => hij e.symm)]; exact w1, w2, w3⟩
  obtain ⟨w', hw'⟩ : ∃ w' : World, w' = { g.w with heap := g.w.heap.setIfInBounds (g.β n).1 (.map es' clock') } := ⟨_, rfl⟩
  have hlt : (g.β n).1 < g.w.heap.size := (Array.getElem?_eq_some_iff.1 h1).1
  have hfr : ∀ b, b ≠ (g.β n).1 → w'.heap[b]? = g.w.heap[b]? := fun b hb => by rw [hw']; simp [Ne.symm hb]
  have hsz' : w'.heap.size = g.w.heap.size := by rw [hw']; simp
  have hle := Le.put (r' := mRowT kv vf (mset m k v)) hnM hc0 (w := w') hsz' (by rw [hw']) (by rw [hw']) (by rw [hw']) hfr
  refine ⟨undef, g.put n (mRowT kv vf (mset m k v)) w', .inr ⟨?_, rfl⟩, Good.putR hg hnM hc0 hle hsz' hfr (.inr (.inr ⟨rfl, hcap, es', clock', ?_, by rw [hsz]; simp [mRowT], fun i x hx => ?_⟩)), hle, upd_put _ _ _ _, .bot _⟩
  ·rcases hop with hop | hop <;> simp [execOp, hop, hv, hy, hrun, hw', G.put]
  ·show w'.heap[(g.β n).1]? = _
   rw [hw']; simp [hlt]
  ·simp only [mRowT, List.getElem?_map, Option.map_eq_some_iff] at hx
   obtain ⟨p, hp, rfl⟩ := hx
   obtain ⟨en, w1, w2, w3⟩ := hent i p hp
   exact ⟨_, _, en, rfl, w1, w2, w3.mono hg hle⟩
/-- A lookup that also says whether the key is there. -/
theorem o_lookupT {t e : TypeId} {ei : TI} {x y : Operand} {n : Nat} {vf : β → T} {m : List (α × β)} {k : α} (hop : o.op = .lookup t x y true) (ht : P.underlying t = some (.map kt e)) (he : TOk P e ei) (K : KeyOk P kt kv) :
  OpS P o [(x, .mp n), (y, .d (.v (kv k)))] [(n, mRowT kv vf m)] [] fresh [] (match mget m k with | none => .tup [ei.z, .d (.v (.bool false))] | some v => .tup [vf v, .d (.v (.bool true))]) :=
 .of_pure (fun c h => by rw [hop] at h; cases h) fun g a hg hi hr => by
  have hx := hi (x, .mp n) (by simp)
  have hy := (hi (y, .d (.v (kv k))) (by simp)).v_eq
  generalize hv : a.eval x = v at hx
  cases hx with | mp _ hn =>
  dsimp only at hy
  obtain ⟨_, es, clock, h1, h2, h3⟩ := rowM_T (hg.rows n _ (hr (n, mRowT kv vf m) (by simp)))
  obtain ⟨zv, hzv, h4⟩ := run_lookup_m ht he K h1 h2 k
  rcases h4 with ⟨h5, h6⟩ | ⟨j, p, en, h5, h6, h7, h8⟩
  ·refine ⟨.tuple #[zv, .bool false], by simp [execOp, hop, hv, hy, h6 true], ?_⟩
   rw [h5, hzv]
   exact .tup _ #[zv, .bool false] rfl fun i d c h1 h2 => by
    match i with
    | 0 => simp at h1 h2; subst h1; subst h2; exact VT.ofV g _
    | 1 => simp at h1 h2; subst h1; subst h2; exact .d (.v _ rfl)
    | i + 2 => simp at h1
  ·refine ⟨.tuple #[en.val, .bool true], by simp [execOp, hop, hv, hy, h8 true], ?_⟩
   rw [h7]
   exact .tup _ #[en.val, .bool true] rfl fun i d c h1 h2 => by
    match i with
    | 0 => simp at h1 h2; subst h1; subst h2; exact h3 j p en h5 h6
    | 1 => simp at h1 h2; subst h1; subst h2; exact .d (.v _ rfl)
    | i + 2 => simp at h1
end
section
variable {P : Program} {N : Nat} {ops : Array Oper} {l : List Oper} {ts : List (Nat × T)} {L : List (Option Rw)} {tr : List Stp} {K : List Oper → List Stp → St → Prop} {d : Nat} {ty : TypeId} {pos : String} {af : Array Edge} {gd : Option (Nat × Bool)}
/-- A literal's element. -/
theorem r_insT {t e kt : TypeId} {x y z : Operand} {n : Nat} {k : Int} {v : T} (m q : List (Int × T)) (L' : List (Option Rw)) (ht : P.underlying t = some (.map kt e)) (hk : P.underlying kt = some (.int .i64)) (hx : opT ts x = .mp n) (hy : opT ts y = .d (.v (.int .i64 k))) (hz : opT ts z = v) (hr : L[n]? = some (some ⟨0, m.map fun p => .agg [.d (.v (.int .i64 p.1)), p.2]⟩)) (hq : mset m k v = q) (hL : L.set n (some ⟨0, q.map fun p => .agg [.d (.v (.int .i64 p.1)), p.2]⟩) = L')
  (hw : wantT ops ts ⟨none, .insert t x y z, ty, pos, af, gd⟩ = some true)
  (kk : EvK P N ops l ⟨ts, L'⟩ (tr ++ [.run [n] [n]]) K) : EvK P N ops (⟨none, .insert t x y z, ty, pos, af, gd⟩ :: l) ⟨ts, L⟩ tr K := by
 subst hq hL
 refine ev_cons (.run hw (o_mapSetT (kv := fun a : Int => .int .i64 a) (vf := fun x : T => x) (m := m) (k := k) (v := v) (n := n) (fresh := L.length) (.inr rfl) ht (.int hk)) ?_ ?_ ?_ rfl) ?_
 ·intro p hp
  simp only [List.mem_cons, List.not_mem_nil, or_false] at hp
  rcases hp with rfl | rfl | rfl
  ·exact ⟨hx, by simp [Op.operands]⟩
  ·exact ⟨hy, by simp [Op.operands]⟩
  ·exact ⟨hz, by simp [Op.operands]⟩
 ·intro p hp; simp only [List.mem_cons, List.not_mem_nil, or_false] at hp; subst hp; exact hr
 ·intro p hp; simp only [List.mem_cons, List.not_mem_nil, or_false] at hp; subst hp; exact ⟨_, List.mem_singleton.2 rfl, rfl⟩
 ·simpa [St.eff, putS, setL, mRowT] using kk
theorem r_lkT {t e kt : TypeId} {ei : TI} {x y : Operand} {n : Nat} {k : Int} {v : T} (m : List (Int × T)) (tb : Tab P) (ht : P.underlying t = some (.map kt e)) (hk : P.underlying kt = some (.int .i64)) (he : tb.f e = some ei) (hx : opT ts x = .mp n) (hy : opT ts y = .d (.v (.int .i64 k))) (hr : L[n]? = some (some ⟨0, m.map fun p => .agg [.d (.v (.int .i64 p.1)), p.2]⟩)) (hg : mget m k = some v)
  (hw : wantT ops ts ⟨some d, .lookup t x y true, ty, pos, af, gd⟩ = some true) (hd : Nat.blt d N = true)
  (kk : EvK P N ops l ⟨(d, .tup [v, .d (.v (.bool true))]) :: ts, L⟩ (tr ++ [.run [n] []]) K) : EvK P N ops (⟨some d, .lookup t x y true, ty, pos, af, gd⟩ :: l) ⟨ts, L⟩ tr K := by
 have h := o_lookupT (P := P) (o := ⟨some d, .lookup t x y true, ty, pos, af, gd⟩) (fresh := L.length) (kv := fun a : Int => .int .i64 a) (vf := fun x : T => x) (m := m) (k := k) (n := n) rfl ht (tb.ok _ _ he) (.int hk)
 rw [hg] at h
 exact ev_val (rn := [(n, mRowT (fun a : Int => .int .i64 a) (fun x : T => x) m)]) rfl h hw (by simp [Op.operands, hx, hy]) (by simp [hr, mRowT]) hd kk
theorem r_lkF {t e kt : TypeId} {ei : TI} {x y : Operand} {n : Nat} {k : Int} {z : T} (m : List (Int × T)) (tb : Tab P) (ht : P.underlying t = some (.map kt e)) (hk : P.underlying kt = some (.int .i64)) (he : tb.f e = some ei) (hx : opT ts x = .mp n) (hy : opT ts y = .d (.v (.int .i64 k))) (hr : L[n]? = some (some ⟨0, m.map fun p => .agg [.d (.v (.int .i64 p.1)), p.2]⟩)) (hg : mget m k = none) (hz : ei.z = z)
  (hw : wantT ops ts ⟨some d, .lookup t x y true, ty, pos, af, gd⟩ = some true) (hd : Nat.blt d N = true)
  (kk : EvK P N ops l ⟨(d, .tup [z, .d (.v (.bool false))]) :: ts, L⟩ (tr ++ [.run [n] []]) K) : EvK P N ops (⟨some d, .lookup t x y true, ty, pos, af, gd⟩ :: l) ⟨ts, L⟩ tr K := by
 have h := o_lookupT (P := P) (o := ⟨some d, .lookup t x y true, ty, pos, af, gd⟩) (fresh := L.length) (kv := fun a : Int => .int .i64 a) (vf := fun x : T => x) (m := m) (k := k) (n := n) rfl ht (tb.ok _ _ he) (.int hk)
 rw [hg, hz] at h
 exact ev_val (rn := [(n, mRowT (fun a : Int => .int .i64 a) (fun x : T => x) m)]) rfl h hw (by simp [Op.operands, hx, hy]) (by simp [hr, mRowT]) hd kk
end
/-- A function that tells of what has gone wrong, the rows that it got being lost then. -/
def SCA {α : Type} (P : Program) (f : FuncId) (as : List T) (L : List (Option Rw)) (x : Except Int α) (t : T) (L1 : α → List (Option Rw)) (t2 : Int → T) (L2 : List (Option Rw)) : Prop :=
 SC P f as L fun se X => (∃ a, x = .ok a ∧ se = .ret t ∧ X = L1 a) ∨ ∃ e, x = .error e ∧ se = .ret (t2 e) ∧ X = L2
theorem SCA.ok {α : Type} {P : Program} {f : FuncId} {as : List T} {L : List (Option Rw)} {x : Except Int α} {t : T} {L1 : α → List (Option Rw)} {t2 : Int → T} {L2 : List (Option Rw)} (h : SCA P f as L x t L1 t2 L2) {a : α} (hn : x = .ok a) : SCR P f as L t (L1 a) := SC.mono h fun se X hX => by
 rcases hX with ⟨b, h1, h2, h3⟩ | ⟨e, h1, _⟩
 ·rw [hn] at h1; injection h1 with h1; subst h1; exact ⟨h2, h3⟩
 ·rw [hn] at h1; cases h1
theorem SCA.err {α : Type} {P : Program} {f : FuncId} {as : List T} {L : List (Option Rw)} {x : Except Int α} {t : T} {L1 : α → List (Option Rw)} {t2 : Int → T} {L2 : List (Option Rw)} (h : SCA P f as L x t L1 t2 L2) {e : Int} (hn : x = .error e) : SCR P f as L (t2 e) L2 := SC.mono h fun se X hX => by
 rcases hX with ⟨b, h1, _⟩ | ⟨b, h1, h2, h3⟩
 ·rw [hn] at h1; cases h1
 ·rw [hn] at h1; injection h1 with h1; subst h1; exact ⟨h2, h3⟩
end Go.Proofs.Ytdefnmcjmklohaa.Sh
