/- Rows lent to a function that only reads; rows given up for data; the ends of functions. Over whatever program. -/
import Derived.Test.YthcnganbnbhhoaaGreatSh14
namespace Go.Proofs.YthcnganbnbhhoaaGreat.Sh
set_option linter.unusedVariables false
set_option linter.unusedSimpArgs false
open Go
mutual
def D.plain : D → Bool
 | .v _ => true
 | .agg l | .tup l => plainL l
 | .arr _ [] => true
 | .arr _ (_ :: _) | .el _ _ _ _ | .mp _ _ => false
def plainL : List D → Bool
 | [] => true
 | x :: l => x.plain && plainL l
end
theorem plainL_all : ∀ l, plainL l = l.all D.plain
 | [] => rfl
 | x :: l => by rw [plainL, plainL_all l]; rfl
theorem VD.plain {g g' : G} {d : D} {c : Value} (h : VD g d c) (hd : d.plain = true) : VD g' d c := by
 induction h with
 | v x h => exact .v x h
 | agg l cs hl h ih =>
  simp only [D.plain, plainL_all, List.all_eq_true] at hd
  exact .agg l cs hl fun i d c hd' hc => ih i d c hd' hc (hd d (List.mem_of_getElem? hd'))
 | tup l cs hl h ih =>
  simp only [D.plain, plainL_all, List.all_eq_true] at hd
  exact .tup l cs hl fun i d c hd' hc => ih i d c hd' hc (hd d (List.mem_of_getElem? hd'))
 | arr0 s a cap => exact .arr0 s a cap
 | arr s l b off cap f hc hK hs hw hv =>
  cases l with
  | nil => exact .arr0 s _ _
  | cons => cases hd
 | el => cases hd
 | mp => cases hd
inductive Lend (L : List (Option Rw)) : T → D → Prop where
 | d (x : D) : Lend L (.d x) x
 | rowG {n s len : Nat} {els : List T} {es : List D} (h : L[n]? = some (some ⟨s, els⟩)) (hl : es.length = len) (he : els.length = es.length) (hi : ∀ (i : Nat) (t : T) (d : D), els[i]? = some t → es[i]? = some d → Lend L t d) : Lend L (.row n s 0 len) (.arr s es)
 | rowO {n s lo len : Nat} {els : List T} {es : List D} (h : L[n]? = some (some ⟨s, els⟩)) (hl : es.length = len) (he : els.length = lo + es.length) (hi : ∀ (i : Nat) (t : T) (d : D), els[lo + i]? = some t → es[i]? = some d → Lend L t d) : Lend L (.row n s lo len) (.arr s es)
 | refG {n s i o : Nat} {els : List T} {es : List D} (h : L[n]? = some (some ⟨s, els⟩)) (he : els.length = es.length) (hi : ∀ (i : Nat) (t : T) (d : D), els[i]? = some t → es[i]? = some d → Lend L t d) : Lend L (.ref n s i o) (.el s es i o)
 | agg {l : List T} {ds : List D} (hl : l.length = ds.length) (h : ∀ (i : Nat) (t : T) (d : D), l[i]? = some t → ds[i]? = some d → Lend L t d) : Lend L (.agg l) (.agg ds)
 | mpR {n : Nat} {ks : List Value} {ys : List T} {vs : List D} (h : L[n]? = some (some ⟨0, (ks.zip ys).map fun p => .agg [.d (.v p.1), p.2]⟩)) (hl : ks.length = ys.length) (hl2 : ys.length = vs.length) (hi : ∀ (i : Nat) (t : T) (d : D), ys[i]? = some t → vs[i]? = some d → Lend L t d) : Lend L (.mp n) (.mp ks vs)
 | nilA {s : Nat} : Lend L (.d (.v (.slice none 0 0))) (.arr s [])
 | aggD {l : List D} {ds : List D} (hl : l.length = ds.length) (h : ∀ (i : Nat) (t : D) (d : D), l[i]? = some t → ds[i]? = some d → Lend L (.d t) d) : Lend L (.d (.agg l)) (.agg ds)
 | tupD {l : List D} {ds : List D} (hl : l.length = ds.length) (h : ∀ (i : Nat) (t : D) (d : D), l[i]? = some t → ds[i]? = some d → Lend L (.d t) d) : Lend L (.d (.tup l)) (.tup ds)
 | tup {l : List T} {ds : List D} (hl : l.length = ds.length) (h : ∀ (i : Nat) (t : T) (d : D), l[i]? = some t → ds[i]? = some d → Lend L t d) : Lend L (.tup l) (.tup ds)
theorem lend_map {α : Type} {L : List (Option Rw)} {w : List α} {f : α → D} : ∀ (i : Nat) (t : T) (d : D), (w.map fun a => T.d (f a))[i]? = some t → (w.map f)[i]? = some d → Lend L t d := fun i t d h1 h2 => by
 rw [List.getElem?_map, Option.map_eq_some_iff] at h1 h2
 obtain ⟨a, ha, rfl⟩ := h1
 obtain ⟨b, hb, rfl⟩ := h2
 rw [ha] at hb; injection hb with hb; subst hb
 exact .d _
theorem Lend.row {α : Type} {L : List (Option Rw)} {n s len : Nat} {w : List α} {f : α → D} (h : L[n]? = some (some ⟨s, w.map fun a => .d (f a)⟩)) (hl : w.length = len) : Lend L (.row n s 0 len) (.arr s (w.map f)) :=
 .rowG h (by simpa using hl) (by simp) lend_map
theorem Lend.ref {L : List (Option Rw)} {n s i o : Nat} {x : T} {y : D} (h : L[n]? = some (some ⟨s, [x]⟩)) (k : Lend L x y) : Lend L (.ref n s i o) (.el s [y] i o) :=
 .refG h rfl fun i t d h1 h2 => by
  cases i with
  | zero => simp at h1 h2; subst h1; subst h2; exact k
  | succ i => simp at h1
inductive Lends (L : List (Option Rw)) : List T → List D → Prop where
 | nil : Lends L [] []
 | cons {t : T} {d : D} {ts : List T} {ds : List D} (h : Lend L t d) (k : Lends L ts ds) : Lends L (t :: ts) (d :: ds)
def G.all (g : G) : G := ⟨ofL [], g.β, fun b => g.K b ∨ ¬ NL g b, g.w⟩
theorem all_K {g : G} : ∀ b, g.K b → g.all.K b := fun _ hb => Or.inl hb
theorem all_good {g : G} (hg : Good g) : Good g.all := by
 refine ⟨fun n r h => by simp [G.all, ofL] at h, fun n m r q h => by simp [G.all, ofL] at h, fun b hb => ?_, fun b _ n r h => by simp [G.all, ofL] at h⟩
 rcases hb with hb | hb
 ·exact hg.kd b hb
 ·have : ∃ n r, g.M n = some (some r) ∧ (g.β n).2 ≠ 0 ∧ (g.β n).1 = b := by
   apply Classical.byContradiction
   intro hc
   exact hb fun n r hn h0 he => hc ⟨n, r, hn, h0, he⟩
  obtain ⟨n, r, hn, h0, rfl⟩ := this
  exact (hg.rows n r hn).lt h0
theorem lend_both {g : G} (hg : Good g) {L : List (Option Rw)} (hM : ∀ (n : Nat) (r : Rw), L[n]? = some (some r) → g.M n = some (some r)) {t : T} {d : D} (h : Lend L t d) :
  (∀ {c : Value}, VT g t c → VD g.all d c) ∧ t.cells.length = d.cells.length ∧ ∀ (j : Nat) (t' : T) (d' : D), t.cells[j]? = some t' → d.cells[j]? = some d' → ∀ {c : Value}, VT g t' c → VD g.all d' c := by
 have hK : ∀ n r, g.M n = some (some r) → (g.β n).2 ≠ 0 → g.all.K (g.β n).1 := fun n r hn h0 => .inr fun hh => hh n r hn h0 rfl
 have one : ∀ {t : T} {d : D}, (∀ {c : Value}, VT g t c → VD g.all d c) → ∀ (j : Nat) (t' : T) (d' : D), [t][j]? = some t' → [d][j]? = some d' → ∀ {c : Value}, VT g t' c → VD g.all d' c := fun {t d} h j t' d' h1 h2 => by
  cases j with
  | zero => simp at h1 h2; subst h1; subst h2; exact h
  | succ j => simp at h1
 have row : ∀ {n s : Nat} {els : List T} {es : List D}, g.M n = some (some ⟨s, els⟩) → s ≠ 0 → es ≠ [] → els.length = es.length → (∀ (i : Nat) (t : T) (d : D), els[i]? = some t → es[i]? = some d → (∀ {c : Value}, VT g t c → VD g.all d c) ∧ t.cells.length = d.cells.length ∧ ∀ (j : Nat) (t' : T) (d' : D), t.cells[j]? = some t' → d.cells[j]? = some d' → ∀ {c : Value}, VT g t' c → VD g.all d' c) →
   (g.β n).2 ≠ 0 ∧ ∃ f : Nat → Nat → Value, es.length ≤ (g.β n).2 ∧ (∀ (i : Nat) (d : D), es[i]? = some d → d.cells.length = s) ∧
    (∀ (i : Nat) (d : D), es[i]? = some d → ∀ (j : Nat) (e : D), d.cells[j]? = some e → g.all.w.cell? ⟨(g.β n).1, 0 + i * s + j, none⟩ = some (f i j)) ∧ (∀ (i : Nat) (d : D), es[i]? = some d → ∀ (j : Nat) (e : D), d.cells[j]? = some e → VD g.all e (f i j)) := fun {n s els es} hn hs0 hes he ih => by
  have hpos : 0 < es.length := List.length_pos_iff.2 hes
  have hx0 : els[0]? = some els[0] := List.getElem?_eq_getElem (by omega)
  obtain ⟨hcap, cells, e, h1, h2, h3, h4⟩ := (hg.rows n _ hn).has hs0 hx0
  have hx : ∀ (i : Nat) (d : D), es[i]? = some d → ∃ t, els[i]? = some t := fun i d hd => by
   have := (List.getElem?_eq_some_iff.1 hd).1
   exact ⟨_, List.getElem?_eq_getElem (by omega)⟩
  have hc : ∀ (t : T) (d : D) (j : Nat) (y : D), t.cells.length = d.cells.length → d.cells[j]? = some y → ∃ t', t.cells[j]? = some t' := fun t d j y hl hy => by
   have := (List.getElem?_eq_some_iff.1 hy).1
   exact ⟨_, List.getElem?_eq_getElem (by omega)⟩
  refine ⟨hcap, fun i j => (cells[i * s + j]?).getD undef, by simp only at h3; omega, fun i d hd => ?_, fun i d hd j y hy => ?_, fun i d hd j y hy => ?_⟩ <;> obtain ⟨t, ht⟩ := hx i d hd <;> obtain ⟨k1, k2, k3⟩ := ih i t d ht hd
  ·rw [← k2]; exact (h4 i t ht).1
  ·obtain ⟨t', ht'⟩ := hc t d j y k2 hy
   obtain ⟨c, q1, _⟩ := (h4 i t ht).2 j t' ht'
   show g.w.cell? _ = _
   simp only at q1
   simp [World.cell?, h1, q1]
  ·obtain ⟨t', ht'⟩ := hc t d j y k2 hy
   obtain ⟨c, q1, q2⟩ := (h4 i t ht).2 j t' ht'
   simp only at q1
   simp only [q1, Option.getD_some]
   exact k3 j t' y ht' hy q2
 induction h with
 | d x =>
  have hc : (T.d x).cells = x.cells.map .d := by cases x <;> rfl
  refine ⟨fun {c} hc => (by cases hc with | d hc => exact VD.same (g := g) (g' := g.all) rfl all_K hc), by rw [hc]; simp, fun j t d h1 h2 c hc' => ?_⟩
  rw [hc, List.getElem?_map, h2, Option.map_some, Option.some.injEq] at h1
  subst h1
  cases hc' with | d hc' => exact VD.same (g := g) (g' := g.all) rfl all_K hc'
 | rowG h hl he hi ih =>
  rename_i n s len els es
  have : ∀ {c : Value}, VT g (.row n s 0 len) c → VD g.all (.arr s es) c := fun {c} hc => by
   cases hc with | row _ _ _ _ a0 hn hs0 hcap ha =>
   by_cases hes : es = []
   ·subst hes; subst hl; exact .arr0 s _ _
   obtain ⟨q0, f, q1, q3, q4, q5⟩ := row (hM n _ h) hs0 hes he ih
   have ha := ha q0
   subst ha
   have := VD.arr (g := g.all) s es (g.β n).1 0 ((g.β n).2 - 0) f (by omega) (hK n _ (hM n _ h) q0) q3 q4 q5
   rw [Nat.zero_mul]
   rwa [hl] at this
  exact ⟨this, rfl, one this⟩
 | rowO h hl he hi ih =>
  rename_i n s lo len els es
  have : ∀ {c : Value}, VT g (.row n s lo len) c → VD g.all (.arr s es) c := fun {c} hc => by
   cases hc with | row _ _ _ _ a0 hn hs0 hcap ha =>
   by_cases hes : es = []
   ·subst hes; subst hl; exact .arr0 s _ _
   have hpos : 0 < es.length := List.length_pos_iff.2 hes
   have hx0 : els[lo]? = some els[lo] := List.getElem?_eq_getElem (by omega)
   obtain ⟨q0, cells, e, h1, h2, h3, h4⟩ := (hg.rows n _ (hM n _ h)).has hs0 hx0
   have ha := ha q0
   subst ha
   have hx : ∀ (i : Nat) (d : D), es[i]? = some d → ∃ t, els[lo + i]? = some t := fun i d hd => by
    have := (List.getElem?_eq_some_iff.1 hd).1
    exact ⟨_, List.getElem?_eq_getElem (by omega)⟩
   have hc : ∀ (t : T) (d : D) (j : Nat) (y : D), t.cells.length = d.cells.length → d.cells[j]? = some y → ∃ t', t.cells[j]? = some t' := fun t d j y hl hy => by
    have := (List.getElem?_eq_some_iff.1 hy).1
    exact ⟨_, List.getElem?_eq_getElem (by omega)⟩
   have := VD.arr (g := g.all) s es (g.β n).1 (lo * s) ((g.β n).2 - lo) (fun i j => (cells[(lo + i) * s + j]?).getD undef) (by omega) (hK n _ (hM n _ h) q0)
    (fun i d hd => by obtain ⟨t, ht⟩ := hx i d hd; obtain ⟨k1, k2, k3⟩ := ih i t d ht hd; rw [← k2]; exact (h4 (lo + i) t ht).1)
    (fun i d hd j y hy => by
     obtain ⟨t, ht⟩ := hx i d hd
     obtain ⟨k1, k2, k3⟩ := ih i t d ht hd
     obtain ⟨t', ht'⟩ := hc t d j y k2 hy
     obtain ⟨c, q1, _⟩ := (h4 (lo + i) t ht).2 j t' ht'
     show g.w.cell? _ = _
     simp only at q1
     rw [Nat.add_mul] at q1
     simp [World.cell?, h1, q1, Nat.add_mul])
    (fun i d hd j y hy => by
     obtain ⟨t, ht⟩ := hx i d hd
     obtain ⟨k1, k2, k3⟩ := ih i t d ht hd
     obtain ⟨t', ht'⟩ := hc t d j y k2 hy
     obtain ⟨c, q1, q2⟩ := (h4 (lo + i) t ht).2 j t' ht'
     simp only at q1
     simp only [q1, Option.getD_some]
     exact k3 j t' y ht' hy q2)
   rwa [hl] at this
  exact ⟨this, rfl, one this⟩
 | refG h he hi ih =>
  rename_i n s i o els es
  have : ∀ {c : Value}, VT g (.ref n s i o) c → VD g.all (.el s es i o) c := fun {c} hc => by
   cases hc with | ref _ _ _ _ hn hs0 =>
   by_cases hes : es = []
   ·subst hes
    have := VD.el (g := g.all) s [] i o (g.β n).1 0 (fun _ _ => undef) (fun h => absurd rfl h) (fun i d h => by simp at h) (fun i d h => by simp at h) (fun i d h => by simp at h)
    rwa [Nat.zero_add] at this
   obtain ⟨q0, f, q1, q3, q4, q5⟩ := row (hM n _ h) hs0 hes he ih
   have := VD.el (g := g.all) s es i o (g.β n).1 0 f (fun _ => hK n _ (hM n _ h) q0) q3 q4 q5
   rwa [Nat.zero_add] at this
  exact ⟨this, rfl, one this⟩
 | agg hl h ih =>
  refine ⟨fun {c} hc => ?_, hl, fun j t d h1 h2 => (ih j t d h1 h2).1⟩
  cases hc with | agg _ cs hl' h' =>
  refine .agg _ cs (hl.symm.trans hl') fun i d c hd hc => ?_
  have hlt : i < _ := (hl.symm ▸ (List.getElem?_eq_some_iff.1 hd).1)
  exact (ih i _ d (List.getElem?_eq_getElem hlt) hd).1 (h' i _ c (List.getElem?_eq_getElem hlt) hc)
 | tup hl h ih =>
  rename_i l ds
  have : ∀ {c : Value}, VT g (.tup l) c → VD g.all (.tup ds) c := fun {c} hc => by
   cases hc with | tup _ cs hl' h' =>
   refine .tup _ cs (hl.symm.trans hl') fun i d c hd hc => ?_
   have hlt : i < l.length := (hl.symm ▸ (List.getElem?_eq_some_iff.1 hd).1)
   exact (ih i _ d (List.getElem?_eq_getElem hlt) hd).1 (h' i _ c (List.getElem?_eq_getElem hlt) hc)
  exact ⟨this, rfl, one this⟩
 | mpR h hl hl2 hi ih =>
  rename_i n ks ys vs
  have : ∀ {c : Value}, VT g (.mp n) c → VD g.all (.mp ks vs) c := fun {c} hc => by
   cases hc with | mp _ hn =>
   have hrow := hg.rows n _ (hM n _ h)
   rcases hrow with ⟨_, _, h3⟩ | ⟨h1, _⟩ | ⟨_, h2, es, clock, h3, h4, h5⟩
   ·exact absurd rfl h3
   ·exact absurd rfl h1
   have hsz : es.size = ks.length := by rw [h4]; simp [← hl]
   have get : ∀ i, i < ks.length → ∃ k y e, ks[i]? = some k ∧ ys[i]? = some y ∧ es[i]? = some e ∧ e.key = k ∧ VT g y e.val := fun i hi => by
    have k1 : ks[i]? = some ks[i] := List.getElem?_eq_getElem hi
    have hi2 : i < ys.length := by omega
    have k2 : ys[i]? = some ys[i] := List.getElem?_eq_getElem hi2
    obtain ⟨k, y, e, q1, q2, q3, q4⟩ := h5 i (.agg [.d (.v ks[i]), ys[i]]) (by
     have k3 : (ks.zip ys)[i]? = some (ks[i], ys[i]) := List.getElem?_zip_eq_some.2 ⟨k1, k2⟩
     rw [List.getElem?_map, k3]; rfl)
    simp only [T.agg.injEq, List.cons.injEq, T.d.injEq, D.v.injEq, and_true] at q1
    obtain ⟨rfl, rfl⟩ := q1
    exact ⟨_, _, e, k1, k2, q2, q3, q4⟩
   refine .mp ks vs _ es clock (hK n _ (hM n _ h) (by omega)) h3 hsz.symm (by omega) (fun i k e k1 k2 => ?_) (fun i d e k1 k2 => ?_)
   ·obtain ⟨k', y, e', q1, q2, q3, q4, _⟩ := get i (List.getElem?_eq_some_iff.1 k1).1
    rw [k1] at q1; injection q1 with q1
    rw [k2] at q3; injection q3 with q3
    rw [q1, q3]; exact q4
   ·obtain ⟨k', y, e', q1, q2, q3, _, q5⟩ := get i (by have := (List.getElem?_eq_some_iff.1 k1).1; omega)
    rw [k2] at q3; injection q3 with q3
    rw [q3]
    exact (ih i y d q2 k1).1 q5
  exact ⟨this, rfl, one this⟩
 | nilA =>
  rename_i s
  have : ∀ {c : Value}, VT g (.d (.v (.slice none 0 0))) c → VD g.all (.arr s []) c := fun {c} hc => by
   have := hc.v_eq
   subst this
   exact .arr0 s _ _
  exact ⟨this, rfl, one this⟩
 | aggD hl h ih =>
  rename_i l ds
  refine ⟨fun {c} hc => ?_, by simpa [T.cells, D.cells] using hl, fun j t d h1 h2 => ?_⟩
  ·cases hc with | d hc =>
   cases hc with | agg _ cs hl' h' =>
   refine .agg _ cs (hl.symm.trans hl') fun i d c hd hc => ?_
   have hlt : i < l.length := (hl.symm ▸ (List.getElem?_eq_some_iff.1 hd).1)
   exact (ih i _ d (List.getElem?_eq_getElem hlt) hd).1 (.d (h' i _ c (List.getElem?_eq_getElem hlt) hc))
  ·simp only [T.cells, List.getElem?_map, Option.map_eq_some_iff] at h1
   obtain ⟨x, hx, rfl⟩ := h1
   exact (ih j x d hx h2).1
 | tupD hl h ih =>
  rename_i l ds
  have : ∀ {c : Value}, VT g (.d (.tup l)) c → VD g.all (.tup ds) c := fun {c} hc => by
   cases hc with | d hc =>
   cases hc with | tup _ cs hl' h' =>
   refine .tup _ cs (hl.symm.trans hl') fun i d c hd hc => ?_
   have hlt : i < l.length := (hl.symm ▸ (List.getElem?_eq_some_iff.1 hd).1)
   exact (ih i _ d (List.getElem?_eq_getElem hlt) hd).1 (.d (h' i _ c (List.getElem?_eq_getElem hlt) hc))
  exact ⟨this, rfl, one this⟩
theorem lend_val {g : G} (hg : Good g) {L : List (Option Rw)} (hM : ∀ (n : Nat) (r : Rw), L[n]? = some (some r) → g.M n = some (some r)) {t : T} {d : D} (h : Lend L t d) {c : Value} (hc : VT g t c) : VD g.all d c := (lend_both hg hM h).1 hc
theorem lends_val {g : G} (hg : Good g) {L : List (Option Rw)} (hM : ∀ (n : Nat) (r : Rw), L[n]? = some (some r) → g.M n = some (some r)) {ts : List T} {ds : List D} (h : Lends L ts ds) : ∀ {cs : List Value}, VTs g ts cs → VTs g.all (ds.map .d) cs := by
 induction h with
 | nil => intro cs hc; have := hc.1; cases cs with | nil => exact .nil _ | cons => simp at this
 | cons h _ ih =>
  intro cs hc
  cases cs with
  | nil => have := hc.1; simp at this
  | cons c cs => exact .cons (.d (lend_val hg hM h (hc.2 0 _ c rfl rfl))) (ih ⟨by simpa using hc.1, fun i t c ht hc' => hc.2 (i + 1) t c (by simpa using ht) (by simpa using hc')⟩)
theorem unlend {g gc' : G} (hg : Good g) (hg' : Good gc') (hl : Le g.all gc') : Good ⟨g.M, g.β, fun b => gc'.K b ∧ NL g b, gc'.w⟩ ∧ Le g ⟨g.M, g.β, fun b => gc'.K b ∧ NL g b, gc'.w⟩ := by
 have hfr : ∀ b, b < g.w.heap.size → gc'.w.heap[b]? = g.w.heap[b]? := fun b hb => hl.fr b hb fun n r h => by simp [G.all, ofL] at h
 have hle : Le g ⟨g.M, g.β, fun b => gc'.K b ∧ NL g b, gc'.w⟩ := by
  refine ⟨fun n h => ⟨h, rfl⟩, hl.size, hl.os, hl.tape, hl.output, fun b hb _ => hfr b hb, fun b hb => ⟨hl.k b (.inl hb), hg.kl b hb⟩, fun b hb hk => ?_, fun n r hn h0 _ hh => hh n r hn h0 rfl⟩
  rcases hl.k' b hb hk.1 with h | h
  ·rcases h with h | h
   ·exact .inl h
   ·exact absurd hk.2 h
  ·exact absurd (fun n r h => by simp [G.all, ofL] at h) h
 exact ⟨⟨fun n r hn => (hg.rows n r hn).keep hg hle rfl fun h0 => hfr _ ((hg.rows n r hn).lt h0), hg.inj, fun b hb => hg'.kd b hb.1, fun b hb => hb.2⟩, hle⟩
section
variable {P : Program} {N : Nat} {ops : Array Oper} {l : List Oper} {ts : List (Nat × T)} {L : List (Option Rw)} {tr : List Stp} {K : List Oper → List Stp → St → Prop} {d : Nat} {ty : TypeId} {pos : String} {af : Array Edge} {gd : Option (Nat × Bool)}
def liveR (L : List (Option Rw)) : List (Nat × Rw) := (List.range L.length).filterMap fun n => match L[n]? with | some (some r) => some (n, r) | _ => none
theorem liveR_mem {L : List (Option Rw)} {p : Nat × Rw} : p ∈ liveR L ↔ L[p.1]? = some (some p.2) := by
 unfold liveR
 rw [List.mem_filterMap]
 constructor
 ·rintro ⟨n, hn, h⟩
  split at h
  ·rename_i r hr; injection h with h; subst h; exact hr
  ·cases h
 ·intro h
  refine ⟨p.1, List.mem_range.2 (List.getElem?_eq_some_iff.1 h).1, ?_⟩
  rw [h]
theorem o_callL {o : Oper} {fresh : Nat} {x : Operand} {xs : Array Operand} {tys : Array TypeId} {f : FuncId} {us : List T} {as : List D} {y : D} (hop : o.op = .call { callee := .value x, args := xs, argTypes := tys }) (he : Ent P f) (hl : xs.toList.length = us.length) (hc : PC P f as y) (hy : y.plain = true) (hx : Lends L us as) :
  OpS P o ((x, .d (.v (.func (.func f) #[] #[]))) :: xs.toList.zip us) (liveR L) [] fresh [] (.d y) := by
 intro F nn hF g a hg hi hr _ next Q k
 have hcal := (hi (x, .d (.v (.func (.func f) #[] #[]))) (by simp)).v_eq
 dsimp only at hcal
 have hvt := VTs.of_ins (g := g) (a := a) (xs := xs.toList) (ts := us) hl (fun p hp => hi p (by simp [hp]))
 have hM : ∀ (n : Nat) (r : Rw), L[n]? = some (some r) → g.M n = some (some r) := fun n r h => hr (n, r) (liveR_mem.2 h)
 have hcall := hc g.all _ (all_good hg) rfl (lends_val hg hM hx hvt)
 refine ⟨fun f _ => hF.fn f, ?_⟩
 rw [Oper.semAt_eq _ _ _ (fun c h => by rw [hop] at h; cases h)]
 have hrun : (execOp a.eval o).run P g.w = .ok (.enter f (xs.toList.map a.eval).toArray) g.w := by
  have e : xs.map a.eval = (xs.toList.map a.eval).toArray := by apply Array.ext'; simp
  simp [execOp, hop, resolve, hcal, Deferred.ofValue, invoke, he _ _, ← e]
 rw [hrun]
 refine ⟨fun h => (by rw [hF.dep] at h; cases h), hF.calls (hcall.mono ?_)⟩
 rintro e w' ⟨gc', se, L', rfl, h1, h2, h3, h4, rfl, rfl⟩
 cases e with
 | returned v =>
  have hv : VT gc' (.d y) v := h4
  obtain ⟨k1, k2⟩ := unlend hg h1 h2
  cases hv with | d hv =>
  exact k ⟨g.M, g.β, fun b => gc'.K b ∧ NL g b, gc'.w⟩ v k1 k2 (by rw [upd_nil]) (.d (hv.plain hy))
 | panicked ch => exact h4.elim
 | outgrown => exact h4.elim
theorem r_callL {x : Operand} {xs : Array Operand} {tys : Array TypeId} {f : FuncId} {us : List T} {as : List D} {y : D} (hc : PC P f as y) (hy : y.plain = true) (he : Ent P f) (hf : opT ts x = .d (.v (.func (.func f) #[] #[]))) (hx : xs.toList.map (opT ts) = us) (hlend : Lends L us as)
  (hw : wantT ops ts ⟨some d, .call { callee := .value x, args := xs, argTypes := tys }, ty, pos, af, gd⟩ = some true) (hd : Nat.blt d N = true) (k : EvK P N ops l ⟨(d, .d y) :: ts, L⟩ (tr ++ [.run ((liveR L).map (·.1)) []]) K) :
  EvK P N ops (⟨some d, .call { callee := .value x, args := xs, argTypes := tys }, ty, pos, af, gd⟩ :: l) ⟨ts, L⟩ tr K := by
 refine ev_val rfl (o_callL (fresh := L.length) rfl he (by rw [← hx]; simp) hc hy hlend) hw ?_ (fun p hp => liveR_mem.1 hp) hd k
 intro p hp
 rcases List.mem_cons.1 hp with rfl | hp
 ·exact ⟨hf, by simp [Op.operands, Call.operands]⟩
 ·obtain ⟨a, b⟩ := zip_ins hx p hp
  exact ⟨a, by simp only [Op.operands, Call.operands, Array.mem_append]; exact .inr (by simpa using b)⟩
theorem r_callLB {x : Operand} {xs : Array Operand} {tys : Array TypeId} {f : FuncId} {us : List T} {as : List D} {b : Bool} (hc : PC P f as (.v (.bool b))) (he : Ent P f) (hf : opT ts x = .d (.v (.func (.func f) #[] #[]))) (hx : xs.toList.map (opT ts) = us) (hlend : Lends L us as)
  (hw : wantT ops ts ⟨some d, .call { callee := .value x, args := xs, argTypes := tys }, ty, pos, af, gd⟩ = some true) (hd : Nat.blt d N = true) (kt : b = true → EvK P N ops l ⟨(d, .d (.v (.bool true))) :: ts, L⟩ (tr ++ [.run ((liveR L).map (·.1)) []]) K)
  (kf : b = false → EvK P N ops l ⟨(d, .d (.v (.bool false))) :: ts, L⟩ (tr ++ [.run ((liveR L).map (·.1)) []]) K) : EvK P N ops (⟨some d, .call { callee := .value x, args := xs, argTypes := tys }, ty, pos, af, gd⟩ :: l) ⟨ts, L⟩ tr K := by
 cases b with
 | true => exact r_callL hc rfl he hf hx hlend hw hd (kt rfl)
 | false => exact r_callL hc rfl he hf hx hlend hw hd (kf rfl)
end
inductive Fzr (n s : Nat) (es : List D) : T → T → Prop where
 | same (t : T) : Fzr n s es t t
 | all {len : Nat} (h : es.length = len) : Fzr n s es (.row n s 0 len) (.d (.arr s es))
 | part {lo len : Nat} (h : lo + len ≤ es.length) : Fzr n s es (.row n s lo len) (.d (.arr s ((es.drop lo).take len)))
 | ref {i o : Nat} : Fzr n s es (.ref n s i o) (.d (.el s es i o))
 | fn {f : Fn} {l m l' m' : List T} (hl : l.length = l'.length) (hm : m.length = m'.length) (h : ∀ (i : Nat) (x y : T), l[i]? = some x → l'[i]? = some y → Fzr n s es x y) (k : ∀ (i : Nat) (x y : T), m[i]? = some x → m'[i]? = some y → Fzr n s es x y) : Fzr n s es (.fn f l m) (.fn f l' m')
 | agg {l m : List T} {u : T} (hl : l.length = m.length) (h : ∀ (i : Nat) (x y : T), l[i]? = some x → m[i]? = some y → Fzr n s es x y) (hu : mkAgg m = u) : Fzr n s es (.agg l) u
 | tup {l m : List T} {u : T} (hl : l.length = m.length) (h : ∀ (i : Nat) (x y : T), l[i]? = some x → m[i]? = some y → Fzr n s es x y) (hu : mkTup m = u) : Fzr n s es (.tup l) u
theorem sw_rg {P : Program} {n0 N : Nat} {df : List Deferred} {Q : SX → St → Prop} {st : St} {id : Nat} {l : List Oper} (h : EvK P N l.toArray l st [] (endK (Q .norm))) : SW P n0 N df (.region id l.toArray false) Q st := sw_region h
theorem sw_dr {P : Program} {n0 N : Nat} {df : List Deferred} {Q : SX → St → Prop} {st : St} {id : Nat} {l : List Oper} (hm : P.follows .mixedOrders = true) (h : EvK P N l.toArray l st [] (endD l.toArray (Q .norm))) : SW P n0 N df (.region id l.toArray true) Q st := sw_draw hm h
theorem ev_end {P : Program} {N : Nat} {K : St → Prop} {ops : Array Oper} {tr : List Stp} {st : St} (h : K st) : EvK P N ops [] st tr (endK K) := ev_stop ⟨rfl, h⟩
theorem ev_endD {P : Program} {N : Nat} {K : St → Prop} {ops : Array Oper} {tr : List Stp} {st : St} (ho : okTr ops tr = true) (h : K st) : EvK P N ops [] st tr (endD ops K) := ev_stop ⟨rfl, ho, h⟩
inductive TsD (ts : List (Nat × T)) : List (Nat × T) → Prop where
 | nil : TsD ts []
 | cons {i : Nat} {y : D} {r : List (Nat × T)} (h : getS ts i = .d y) (k : TsD ts r) : TsD ts ((i, .d y) :: r)
end Go.Proofs.YthcnganbnbhhoaaGreat.Sh
