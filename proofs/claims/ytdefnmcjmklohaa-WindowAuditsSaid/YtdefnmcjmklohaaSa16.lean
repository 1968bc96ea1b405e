/- The first part of an own row; what is behind an element, appended to what is ahead of it. Over whatever program. -/
import Derived.Test.YtdefnmcjmklohaaSa15
namespace Go.Proofs.Ytdefnmcjmklohaa.Sh
set_option linter.unusedVariables false
set_option linter.unusedSimpArgs false
open Go
section
variable {P : Program} {o : Oper} {fresh : Nat}
/-- 'append' onto the first part of a row of the call's own. -/
theorem o_appendT {t e : TypeId} {i ei : TI} {x y : Operand} {u : T} {l : List T} {n s len : Nat} {r : Rw} {rn : List (Nat × Rw)} (hop : o.op = .call { callee := .builtin .append, args := #[x, y], argTypes := #[t, t] }) (ht : TOk P t i) (hsl : i.sl = some e) (he : TOk P e ei)
  (hz' : ei.size = s) (hu : srcIs u l s rn) (hm : (n, r) ∈ rn) (hs' : r.s = s) (hlen' : len ≤ r.els.length) (h1 : onesOk l = true) (h63 : len + l.length ≤ 9223372036854775807) (hb : (len + l.length) * ei.bytes ≤ 140737488355328) (hnf : n ≠ fresh) :
  OpS P o [(x, .row n s 0 len), (y, u)] rn [(n, none)] fresh [⟨s, r.els.take len ++ l⟩] (.row fresh s 0 (len + l.length)) :=
 .of_run (fun c h => by rw [hop] at h; cases h) fun g a hg hi hr hn => by
  subst hz'
  obtain ⟨E, hE⟩ : ∃ E, E = r.els.take len := ⟨_, rfl⟩
  have hEl : E.length = len := by rw [hE, List.length_take]; omega
  rw [← hE]
  subst hEl
  have hEm : ∀ {k : Nat} {z : T}, E[k]? = some z → r.els[k]? = some z := fun {k z} h => by
   rw [hE, List.getElem?_take] at h
   split at h
   ·exact h
   ·cases h
  obtain ⟨info, zv, hinf, hz, hsz, hby, hzs, _⟩ := he.info
  have hn0 := hn 0 (by simp)
  rw [Nat.add_zero] at hn0
  have hx := hi (x, .row n ei.size 0 E.length) (by simp)
  have hy := hi (y, u) (by simp)
  have hnM := hr (n, r) hm
  dsimp only at hx hy hnM
  generalize hxv : a.eval x = xv at hx
  cases hx with | row _ _ _ _ a0 hnn hs0 hcap ha =>
  rw [Nat.zero_add] at hcap
  rw [Nat.sub_zero] at hxv
  rw [Nat.zero_mul] at ha
  have hrs0 : r.s ≠ 0 := by rw [hs']; exact hs0
  obtain ⟨A, cap, vs, hv, hs, hvs, hrd⟩ := src_spec hg hy hu hr
  have hlen : vs.length = l.length * ei.size := by rw [← hvs.1, flat_len hs]
  by_cases hc0 : (g.β n).2 = 0
  · -- nothing is there
   have hr0 : E = [] := List.length_eq_zero_iff.1 (by omega)
   rw [hc0, hr0, List.length_nil] at hxv
   rw [hr0, List.nil_append, List.length_nil, Nat.zero_add]
   rw [hr0, List.length_nil, Nat.zero_add] at h63 hb
   have hupd := upd_app g.M n fresh ⟨ei.size, l⟩ (fun h => hnf h.symm)
   by_cases h0 : 0 < l.length
   ·obtain ⟨ad, rfl, hrda⟩ := hrd h0
    have hge := grownCap_ge g.w l.length 0 e
    have hrun : (Builtin.append_ #[t, t] o.type #[.slice a0 0 0, a.eval y]).run P g.w = .ok (.slice (some ⟨g.w.heap.size, 0, none⟩) l.length (grownCap g.w l.length 0 e)) (g.w.drew.alloc (.cells (vs.toArray ++ Builtin.zeroCells zv.cells (grownCap g.w l.length 0 e - l.length)) e)) := by
     rw [hv]
     cases a0 with
     | none => exact run_append_nil (P := P) g.w t o.type e info zv (ht.slice hsl) hinf hz ad l.length cap vs (by rw [hlen, hsz]) hrda h0 (by omega) (by rw [hby]; omega)
     | some a1 =>
      have := run_append_grow (P := P) g.w t o.type e info zv (ht.slice hsl) hinf hz a1 0 0 [] (by simp) (fun j v hj => by simp at hj) ad l.length cap vs (by rw [hlen, hsz]) hrda (by omega) (by omega) (by rw [hby]; exact growslice_fits (by omega) (by simpa using hb))
      simpa using this
    obtain ⟨hG, hL⟩ := app_good hg hnM hn0 (r := ⟨ei.size, l⟩) (bc := (g.w.heap.size, grownCap g.w l.length 0 e))
     (w := g.w.drew.alloc (.cells (vs.toArray ++ Builtin.zeroCells zv.cells (grownCap g.w l.length 0 e - l.length)) e))
     (.inr rfl) rfl rfl rfl (by simp) (fun b hb _ => by
      show (g.w.heap.push _)[b]? = _
      rw [Array.getElem?_push, if_neg (by omega)])
     (heap_alloc_new g.w.drew _) hs0 (by
      simp only [Array.size_append, List.size_toArray, size_zeroCells, hlen, hzs, ← Nat.add_mul]
      congr 1
      omega) hge (by omega) (cells_of_flat hs hvs (take_of_get (by simp)))
    refine ⟨.slice (some ⟨g.w.heap.size, 0, none⟩) l.length (grownCap g.w l.length 0 e), _, .inl ?_, hG, hL, hupd, ?_⟩
    ·simp [execOp, hop, resolve, invoke, builtin, hxv, hrun, G.app]
    ·have := VT.row (g := g.app n fresh ⟨ei.size, l⟩ (g.w.heap.size, grownCap g.w l.length 0 e) (g.w.drew.alloc (.cells (vs.toArray ++ Builtin.zeroCells zv.cells (grownCap g.w l.length 0 e - l.length)) e))) fresh ei.size 0 l.length (some ⟨g.w.heap.size, 0, none⟩) (by simp [G.app]) hs0 (by simpa [G.app] using hge) (fun _ => by simp [G.app])
     simpa [G.app] using this
   ·have hl0 : l = [] := List.eq_nil_of_length_eq_zero (by omega)
    subst hl0
    have hvs0 : vs = [] := List.eq_nil_of_length_eq_zero (by simpa using hlen)
    subst hvs0
    have hrun : (Builtin.append_ #[t, t] o.type #[.slice a0 0 0, a.eval y]).run P g.w = .ok (.slice a0 0 0) g.w := by
     cases A <;> cases a0 <;> simp [Builtin.append_, run_underlying (ht.slice hsl), sizeOf, typeInfo, hinf, Builtin.lenOf, hv, Builtin.firstCells, loadCells, loadCellsFrom, storeCells]
    obtain ⟨hG, hL⟩ := app_goodR hg hnM hn0 (r := ⟨ei.size, []⟩) (bc := (0, 0)) (w := g.w) (.inl rfl) rfl rfl rfl (Nat.le_refl _) (fun _ _ _ => rfl) fun _ => .inl ⟨by simp [G.app], rfl, hs0⟩
    refine ⟨.slice a0 0 0, _, .inl ?_, hG, hL, hupd, ?_⟩
    ·simp [execOp, hop, resolve, invoke, builtin, hxv, hrun, G.app]
    ·have := VT.row (g := g.app n fresh ⟨ei.size, []⟩ (0, 0) g.w) fresh ei.size 0 0 a0 (by simp [G.app]) hs0 (by simp [G.app]) (fun h => by simp [G.app] at h)
     simpa [G.app] using this
  have ha := ha hc0
  subst ha
  obtain ⟨cells, ety, hh, hcz, _, hrow⟩ : RowC g n r := by
   rcases hg.rows n r hnM with ⟨h1, _⟩ | ⟨_, h1⟩ | ⟨h1, _⟩
   ·exact absurd h1 hc0
   ·exact h1
   ·exact absurd h1 hrs0
  rw [hs'] at hcz hrow
  have hes : ∀ x ∈ E, x.cells.length = ei.size := fun x hx => by
   obtain ⟨j, hj⟩ := List.getElem?_of_mem hx
   exact (hrow j x (hEm hj)).1
  have hall : ∀ x ∈ E ++ l, x.cells.length = ei.size := fun x hx => by
   rcases List.mem_append.1 hx with h | h
   ·exact hes x h
   ·exact hs x h
  obtain ⟨olds, ho1, ho2⟩ := pick_cells (g := g) (flat E) (fun k c => cells[k]? = some c) (fun k z hz => by
   obtain ⟨i', j', w', rfl, hw', hz'⟩ := flat_inv hes hz
   exact (hrow i' w' (hEm hw')).2 j' z hz')
  have holen : olds.length = E.length * ei.size := by rw [← ho1.1, flat_len hes]
  have hflat : VTs g (flat (E ++ l)) (olds ++ vs) := by
   unfold flat
   rw [List.flatMap_append]
   exact ho1.append hvs
  have htake : cells.toList.take (E.length * ei.size) = olds := by
   apply List.ext_getElem?
   intro k
   rw [List.getElem?_take]
   by_cases hk : k < E.length * ei.size
   ·rw [if_pos hk]
    have hk' : k < olds.length := by omega
    have := ho2 k olds[k] (List.getElem?_eq_getElem hk')
    rw [List.getElem?_eq_getElem hk']
    simpa using this
   ·rw [if_neg hk, List.getElem?_eq_none (by omega)]
  have hupd := upd_app g.M n fresh ⟨ei.size, E ++ l⟩ (fun h => hnf h.symm)
  by_cases hroom : E.length + l.length ≤ (g.β n).2
  · -- there is room
   obtain ⟨cells', hcells'⟩ : ∃ c : Array Value, (cells.toList.take (E.length * ei.size) ++ vs ++ cells.toList.drop (E.length * ei.size + vs.length)).toArray = c := ⟨_, rfl⟩
   have hle := Nat.mul_le_mul_right ei.size hroom
   rw [Nat.add_mul] at hle
   have hrun : (Builtin.append_ #[t, t] o.type #[.slice (some ⟨(g.β n).1, 0, none⟩) E.length (g.β n).2, a.eval y]).run P g.w = .ok (.slice (some ⟨(g.β n).1, 0, none⟩) (E.length + l.length) (g.β n).2) (g.w.setRow (g.β n).1 cells') := by
    have hfc : (Builtin.firstCells ei.size l.length (.slice A l.length cap)).run P g.w = .ok vs.toArray g.w := by
     by_cases h0 : 0 < l.length
     ·obtain ⟨ad, rfl, hrda⟩ := hrd h0
      exact run_firstCells_some g.w ei.size l.length ad l.length cap vs hlen hrda
     ·have hl0 : l = [] := List.eq_nil_of_length_eq_zero (by omega)
      subst hl0
      have : vs = [] := List.eq_nil_of_length_eq_zero (by simpa using hlen)
      subst this
      cases A <;> simp [Builtin.firstCells, loadCells, loadCellsFrom]
    have hst := run_storeCells_at (P := P) (g.β n).1 (E.length * ei.size) ety vs 0 cells g.w hh (by rw [Nat.add_zero, hlen, hcz]; exact hle) (news_one hvs h1)
    rw [Nat.add_zero, hcells'] at hst
    simp [Builtin.append_, run_underlying (ht.slice hsl), sizeOf, typeInfo, hinf, hsz, Builtin.lenOf, hroom, hv, hfc, add_mid, hst]
   obtain ⟨hG, hL⟩ := app_good hg hnM hn0 (r := ⟨ei.size, E ++ l⟩) (bc := g.β n) (w := g.w.setRow (g.β n).1 cells') (.inl ⟨rfl, hc0⟩) rfl rfl rfl (by simp) (fun b _ hb => setRow_other _ _ _ _ hb)
    (setRow_heap _ _ _ _ _ _ hh) hs0 (by rw [← hcells']; simp; rw [hlen, hcz]; omega) (by simpa using hroom) hc0
    (cells_of_flat hall hflat (take_of_get (by
     rw [← hcells', htake]
     simp only [List.append_assoc]
     rw [← List.append_assoc, List.take_left])))
   refine ⟨.slice (some ⟨(g.β n).1, 0, none⟩) (E.length + l.length) (g.β n).2, _, .inl ?_, hG, hL, hupd, ?_⟩
   ·simp [execOp, hop, resolve, invoke, builtin, hxv, hrun, G.app]
   ·have := VT.row (g := g.app n fresh ⟨ei.size, E ++ l⟩ (g.β n) (g.w.setRow (g.β n).1 cells')) fresh ei.size 0 (E.length + l.length) (some ⟨(g.β n).1, 0, none⟩) (by simp [G.app]) hs0 (by simpa [G.app] using hroom) (fun _ => by simp [G.app])
    simpa [G.app] using this
  · -- a new block
   have h0 : 0 < l.length := by omega
   obtain ⟨ad, rfl, hrda⟩ := hrd h0
   have hrun := run_append_grow (P := P) g.w t o.type e info zv (ht.slice hsl) hinf hz ⟨(g.β n).1, 0, none⟩ E.length (g.β n).2 olds (by rw [holen, hsz]) (fun j v hj => by
     rw [add_mid, Nat.zero_add]
     have := ho2 j v hj
     simp [World.cell?, hh, this]) ad l.length cap vs (by rw [hlen, hsz]) hrda (by omega) (by omega) (by rw [hby]; exact growslice_fits (by omega) hb)
   have hge := grownCap_ge g.w (E.length + l.length) (g.β n).2 e
   have hsz2 : (olds.toArray ++ vs.toArray ++ Builtin.zeroCells zv.cells (grownCap g.w (E.length + l.length) (g.β n).2 e - (E.length + l.length))).size = grownCap g.w (E.length + l.length) (g.β n).2 e * ei.size := by
    simp only [Array.size_append, List.size_toArray, size_zeroCells, hlen, holen, hzs, ← Nat.add_mul]
    congr 1
    omega
   obtain ⟨hG, hL⟩ := app_good hg hnM hn0 (r := ⟨ei.size, E ++ l⟩) (bc := (g.w.heap.size, grownCap g.w (E.length + l.length) (g.β n).2 e))
    (w := g.w.drew.alloc (.cells (olds.toArray ++ vs.toArray ++ Builtin.zeroCells zv.cells (grownCap g.w (E.length + l.length) (g.β n).2 e - (E.length + l.length))) e))
    (.inr rfl) rfl rfl rfl (by simp) (fun b hb _ => by
     show (g.w.heap.push _)[b]? = _
     rw [Array.getElem?_push, if_neg (by omega)])
    (heap_alloc_new g.w.drew _) hs0 hsz2 (by simpa using hge) (by dsimp only; omega)
    (cells_of_flat hall hflat (take_of_get (by
     simp only [Array.toList_append, List.append_assoc]
     rw [← List.append_assoc, List.take_left])))
   refine ⟨.slice (some ⟨g.w.heap.size, 0, none⟩) (E.length + l.length) (grownCap g.w (E.length + l.length) (g.β n).2 e), _, .inl ?_, hG, hL, hupd, ?_⟩
   ·simp [execOp, hop, resolve, invoke, builtin, hxv, hv, hrun, G.app]
   ·have := VT.row (g := g.app n fresh ⟨ei.size, E ++ l⟩ (g.w.heap.size, grownCap g.w (E.length + l.length) (g.β n).2 e) (g.w.drew.alloc (.cells (olds.toArray ++ vs.toArray ++ Builtin.zeroCells zv.cells (grownCap g.w (E.length + l.length) (g.β n).2 e - (E.length + l.length))) e))) fresh ei.size 0 (E.length + l.length) (some ⟨g.w.heap.size, 0, none⟩) (by simp [G.app]) hs0 (by simpa [G.app] using hge) (fun _ => by simp [G.app])
    simpa [G.app] using this

theorem o_sliceRowHi {t e : TypeId} {i ei : TI} {x z : Operand} {n s len : Nat} {k : IntKind} {p : Nat} (hop : o.op = .slice t x none (some z) none) (ht : TOk P t i) (hs : i.sl = some e) (he : TOk P e ei) (hz : ei.size = s) (h1 : p ≤ len) :
  OpS P o [(x, .row n s 0 len), (z, .d (.v (.int k p)))] [] [] fresh [] (.row n s 0 p) :=
 .of_pure (fun c h => by rw [hop] at h; cases h) fun g a hg hi hr => by
  have hx := hi (x, .row n s 0 len) (by simp)
  have hz' := (hi (z, .d (.v (.int k p))) (by simp)).v_eq
  dsimp only at hx hz'
  generalize hv : a.eval x = v at hx
  cases hx with | row _ _ _ _ A hn hs0 hl ha =>
  subst hz
  have hr := run_sliceAt (P := P) ht hs he (A := A) (cap := (g.β n).2 - 0) (len := len) (.inr ⟨k, rfl⟩) (.inl ⟨rfl, rfl⟩) (Nat.zero_le p) h1 (by omega) g.w
  obtain ⟨B, hB⟩ : ∃ B, B = (if (g.β n).2 - 0 = 0 then A else A.map (·.add (0 * ei.size))) := ⟨_, rfl⟩
  rw [← hB, Nat.sub_zero, Nat.sub_zero] at hr
  refine ⟨.slice B p ((g.β n).2 - 0), by simp [execOp, hop, hv, hz'] at hr ⊢; simp [hr], .row n ei.size 0 p B hn hs0 (by omega) fun h0 => ?_⟩
  rw [hB, if_neg (by omega), ha h0]
  simp [Addr.add]
end
section
variable {P : Program} {N : Nat} {ops : Array Oper} {l : List Oper} {ts : List (Nat × T)} {L : List (Option Rw)} {tr : List Stp} {d : Nat} {ty : TypeId} {pos : String} {af : Array Edge} {gd : Option (Nat × Bool)} {K : List Oper → List Stp → St → Prop}
/-- A number as an index, if it is one. -/
def natO (q : Int) (m : Nat) : Option Nat := if 0 ≤ q ∧ q ≤ m then some q.toNat else none
theorem natO_eq {q : Int} {m p : Nat} (h : natO q m = some p) : q = (p : Int) ∧ p ≤ m := by
 unfold natO at h
 split at h
 ·injection h with h; omega
 ·cases h
theorem r_slRowHi {t e : TypeId} {i ei : TI} {x y : Operand} {n s len : Nat} {k : IntKind} {q : Int} {p : Nat} (tb : Tab P) (ht : tb.f t = some i) (hs : i.sl = some e) (he : tb.f e = some ei) (hx : opT ts x = .row n s 0 len) (hz : ei.size = s) (hy : opT ts y = .d (.v (.int k q))) (hq : q = (p : Int)) (h1 : p ≤ len) (hw : wantT ops ts ⟨some d, .slice t x none (some y) none, ty, pos, af, gd⟩ = some true) (hd : Nat.blt d N = true)
  (kk : EvK P N ops l ⟨(d, .row n s 0 p) :: ts, L⟩ (tr ++ [.run [] []]) K) : EvK P N ops (⟨some d, .slice t x none (some y) none, ty, pos, af, gd⟩ :: l) ⟨ts, L⟩ tr K := by
 subst hq
 exact ev_val (ins := [(x, .row n s 0 len), (y, .d (.v (.int k p)))]) rfl (o_sliceRowHi rfl (tb.ok _ _ ht) hs (tb.ok _ _ he) hz h1) hw (by simp [Op.operands, hx, hy]) (by simp) hd kk
theorem r_slRowLo {t e : TypeId} {i ei : TI} {x y : Operand} {n s len : Nat} {k : IntKind} {q : Int} {p : Nat} (tb : Tab P) (ht : tb.f t = some i) (hs : i.sl = some e) (he : tb.f e = some ei) (hx : opT ts x = .row n s 0 len) (hz : ei.size = s) (hy : opT ts y = .d (.v (.int k q))) (hq : q = (p : Int)) (h1 : p < len) (hw : wantT ops ts ⟨some d, .slice t x (some y) none none, ty, pos, af, gd⟩ = some true) (hd : Nat.blt d N = true)
  (kk : EvK P N ops l ⟨(d, .row n s p (len - p)) :: ts, L⟩ (tr ++ [.run [] []]) K) : EvK P N ops (⟨some d, .slice t x (some y) none none, ty, pos, af, gd⟩ :: l) ⟨ts, L⟩ tr K := by
 subst hq
 exact r_slRow tb ht hs he hx hz hy h1 hw hd kk
theorem r_slRowLoE {t e : TypeId} {i ei : TI} {x y : Operand} {n s len : Nat} {k : IntKind} {q : Int} {p : Nat} (tb : Tab P) (ht : tb.f t = some i) (hs : i.sl = some e) (he : tb.f e = some ei) (hx : opT ts x = .row n s 0 len) (hz : ei.size = s) (hy : opT ts y = .d (.v (.int k q))) (hq : q = (p : Int)) (h1 : len = p) (hw : wantT ops ts ⟨some d, .slice t x (some y) none none, ty, pos, af, gd⟩ = some true) (hd : Nat.blt d N = true)
  (kk : EvK P N ops l ⟨(d, .d (.arr s [])) :: ts, L⟩ (tr ++ [.run [] []]) K) : EvK P N ops (⟨some d, .slice t x (some y) none none, ty, pos, af, gd⟩ :: l) ⟨ts, L⟩ tr K := by
 subst hq
 exact r_slRowE tb ht hs he hx hz hy h1 hw hd kk
theorem r_apT0 {t e : TypeId} {i ei : TI} {x y : Operand} {s n n' lo len len' : Nat} {r r2 : Rw} {q : List T} (tb : Tab P) (ht : tb.f t = some i) (hsl : i.sl = some e) (he : tb.f e = some ei) (hz : ei.size = s) (hx : opT ts x = .row n s 0 len) (hy : opT ts y = .row n' s lo len') (hr : L[n]? = some (some r)) (hs : r.s = s) (hlen : len ≤ r.els.length)
  (hr2 : L[n']? = some (some r2)) (hs2 : r2.s = s) (hq : (r2.els.drop lo).take len' = q) (hle : Nat.ble (lo + len') r2.els.length = true) (h1 : onesOk q = true) (hm : len + q.length ≤ 1000000000) (hb : Nat.ble ei.bytes 65536 = true) {m : Nat} (hqm : q.length = m) {L' : List (Option Rw)} (hL : L.set n none = L') {nn : Nat} {nr : List Nat} (hnn : nums.drop L.length = nn :: nr)
  (hw : wantT ops ts ⟨some d, .call { callee := .builtin .append, args := #[x, y], argTypes := #[t, t] }, ty, pos, af, gd⟩ = some true) (hd : Nat.blt d N = true)
  (k : EvK P N ops l ⟨(d, .row nn s 0 (len + m)) :: ts, L' ++ [some ⟨s, r.els.take len ++ q⟩]⟩ (tr ++ [.run [n, n', nn] [n, nn]]) K) : EvK P N ops (⟨some d, .call { callee := .builtin .append, args := #[x, y], argTypes := #[t, t] }, ty, pos, af, gd⟩ :: l) ⟨ts, L⟩ tr K := by
 have e0 := nums_eq hnn
 subst hqm hL hz e0
 have hb' := Nat.le_of_ble_eq_true hb
 have hnl : n < L.length := (List.getElem?_eq_some_iff.1 hr).1
 refine ev_cons (.run hw (o_appendT (fresh := L.length) (n := n) (s := ei.size) (len := len) (r := r) (u := .row n' ei.size lo len') (rn := [(n, r), (n', r2)]) (l := q) rfl (tb.ok _ _ ht) hsl (tb.ok _ _ he) rfl (.inr (.inr ⟨n', lo, len', r2, rfl, by simp, hs2, Nat.le_of_ble_eq_true hle, hq.symm⟩)) (by simp) hs hlen h1 (by omega) (Nat.le_trans (Nat.mul_le_mul hm hb') (by decide)) (by omega)) ?_ ?_ ?_ hd) ?_
 ·intro p hp
  simp only [List.mem_cons, List.not_mem_nil, or_false] at hp
  rcases hp with rfl | rfl
  ·exact ⟨hx, by simp [Op.operands, Call.operands]⟩
  ·exact ⟨hy, by simp [Op.operands, Call.operands]⟩
 ·intro p hp; simp only [List.mem_cons, List.not_mem_nil, or_false] at hp; rcases hp with rfl | rfl <;> assumption
 ·intro p hp; simp only [List.mem_cons, List.not_mem_nil, or_false] at hp; subst hp; exact ⟨(n, r), by simp, rfl⟩
 ·simpa [St.eff, putS, setL] using k
theorem r_apTE0 {t e : TypeId} {i ei : TI} {x y : Operand} {s n len : Nat} {r : Rw} {q : List D} (tb : Tab P) (ht : tb.f t = some i) (hsl : i.sl = some e) (he : tb.f e = some ei) (hz : ei.size = s) (hx : opT ts x = .row n s 0 len) (hy : opT ts y = .d (.arr s q)) (hr : L[n]? = some (some r)) (hs : r.s = s) (hlen : len ≤ r.els.length)
  (h1 : onesOk (q.map .d) = true) (hm : len + q.length ≤ 1000000000) (hb : Nat.ble ei.bytes 65536 = true) {L' : List (Option Rw)} (hL : L.set n none = L') {nn : Nat} {nr : List Nat} (hnn : nums.drop L.length = nn :: nr)
  (hw : wantT ops ts ⟨some d, .call { callee := .builtin .append, args := #[x, y], argTypes := #[t, t] }, ty, pos, af, gd⟩ = some true) (hd : Nat.blt d N = true)
  (k : EvK P N ops l ⟨(d, .row nn s 0 (len + q.length)) :: ts, L' ++ [some ⟨s, r.els.take len ++ q.map .d⟩]⟩ (tr ++ [.run [n, nn] [n, nn]]) K) : EvK P N ops (⟨some d, .call { callee := .builtin .append, args := #[x, y], argTypes := #[t, t] }, ty, pos, af, gd⟩ :: l) ⟨ts, L⟩ tr K := by
 have e0 := nums_eq hnn
 subst hL hz e0
 have hb' := Nat.le_of_ble_eq_true hb
 have hnl : n < L.length := (List.getElem?_eq_some_iff.1 hr).1
 refine ev_cons (.run hw (o_appendT (fresh := L.length) (n := n) (s := ei.size) (len := len) (r := r) (u := .d (.arr ei.size q)) (rn := [(n, r)]) (l := q.map .d) rfl (tb.ok _ _ ht) hsl (tb.ok _ _ he) rfl (.inr (.inl ⟨q, rfl, rfl⟩)) (by simp) hs hlen h1 (by simp; omega) (Nat.le_trans (Nat.mul_le_mul (by simpa using hm) hb') (by decide)) (by omega)) ?_ ?_ ?_ hd) ?_
 ·intro p hp
  simp only [List.mem_cons, List.not_mem_nil, or_false] at hp
  rcases hp with rfl | rfl
  ·exact ⟨hx, by simp [Op.operands, Call.operands]⟩
  ·exact ⟨hy, by simp [Op.operands, Call.operands]⟩
 ·intro p hp; simp only [List.mem_cons, List.not_mem_nil, or_false] at hp; subst hp; exact hr
 ·intro p hp; simp only [List.mem_cons, List.not_mem_nil, or_false] at hp; subst hp; exact ⟨(n, r), by simp, rfl⟩
 ·simpa [St.eff, putS, setL] using k
theorem r_apT {α : Type} {t e : TypeId} {i ei : TI} {x y : Operand} {s n p lo len' : Nat} {w q : List α} {g : α → D} (L' : List (Option Rw)) (tb : Tab P) (ht : tb.f t = some i) (hsl : i.sl = some e) (he : tb.f e = some ei) (hz : ei.size = s) (hx : opT ts x = .row n s 0 p) (hy : opT ts y = .row n s lo len') (hr : L[n]? = some (some ⟨s, w.map fun a => .d (g a)⟩)) (hp : p ≤ w.length)
  (hlo : lo ≤ w.length) (hlen : w.length - lo = len') (h1 : ∀ a, allOne (T.d (g a)).cells = true) (hq : appO (w.take p) (w.drop lo) = some q) (hb : Nat.ble ei.bytes 65536 = true) (hL : L.set n none = L') {nn : Nat} {nr : List Nat} (hnn : nums.drop L.length = nn :: nr)
  (hw : wantT ops ts ⟨some d, .call { callee := .builtin .append, args := #[x, y], argTypes := #[t, t] }, ty, pos, af, gd⟩ = some true) (hd : Nat.blt d N = true)
  (k : EvK P N ops l ⟨(d, .row nn s 0 q.length) :: ts, L' ++ [some ⟨s, q.map fun a => .d (g a)⟩]⟩ (tr ++ [.run [n, n, nn] [n, nn]]) K) : EvK P N ops (⟨some d, .call { callee := .builtin .append, args := #[x, y], argTypes := #[t, t] }, ty, pos, af, gd⟩ :: l) ⟨ts, L⟩ tr K := by
 obtain ⟨h2, rfl⟩ := app_le hq
 subst hlen
 rw [List.length_take, List.length_drop, Nat.min_eq_left hp] at h2
 refine r_apT0 (q := (w.drop lo).map fun a => T.d (g a)) (m := w.length - lo) tb ht hsl he hz hx hy hr rfl (by simpa using hp) hr rfl (by rw [← List.map_drop, List.take_of_length_le (by simp)]) (by simp [Nat.ble_eq]; omega) (ones_map h1) (by simpa using h2) hb (by simp) hL hnn hw hd ?_
 rw [List.length_append, List.map_append, List.length_take, List.length_drop, Nat.min_eq_left hp] at k
 rw [← List.map_take]
 exact k
theorem r_apTE {α : Type} {t e : TypeId} {i ei : TI} {x y : Operand} {s n p : Nat} {w q v : List α} {g : α → D} (L' : List (Option Rw)) (tb : Tab P) (ht : tb.f t = some i) (hsl : i.sl = some e) (he : tb.f e = some ei) (hz : ei.size = s) (hx : opT ts x = .row n s 0 p) (hy : opT ts y = .d (.arr s (v.map g))) (hr : L[n]? = some (some ⟨s, w.map fun a => .d (g a)⟩)) (hp : p ≤ w.length)
  (h1 : ∀ a, allOne (T.d (g a)).cells = true) (hq : appO (w.take p) v = some q) (hb : Nat.ble ei.bytes 65536 = true) (hL : L.set n none = L') {nn : Nat} {nr : List Nat} (hnn : nums.drop L.length = nn :: nr)
  (hw : wantT ops ts ⟨some d, .call { callee := .builtin .append, args := #[x, y], argTypes := #[t, t] }, ty, pos, af, gd⟩ = some true) (hd : Nat.blt d N = true)
  (k : EvK P N ops l ⟨(d, .row nn s 0 q.length) :: ts, L' ++ [some ⟨s, q.map fun a => .d (g a)⟩]⟩ (tr ++ [.run [n, nn] [n, nn]]) K) : EvK P N ops (⟨some d, .call { callee := .builtin .append, args := #[x, y], argTypes := #[t, t] }, ty, pos, af, gd⟩ :: l) ⟨ts, L⟩ tr K := by
 obtain ⟨h2, rfl⟩ := app_le hq
 rw [List.length_take, Nat.min_eq_left hp] at h2
 refine r_apTE0 (q := v.map g) tb ht hsl he hz hx hy hr rfl (by simpa using hp) (by rw [List.map_map]; exact ones_map h1) (by simpa using h2) hb hL hnn hw hd ?_
 rw [List.length_append, List.map_append, List.length_take, Nat.min_eq_left hp] at k
 rw [List.map_map, List.length_map, ← List.map_take]
 exact k
end
end Go.Proofs.Ytdefnmcjmklohaa.Sh
