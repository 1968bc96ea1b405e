/- Rules of the walks. -/
import Derived.Test.YtdefnmcjmklohaaSh13
import Derived.RangeFuncNested
import Derived.RangeFuncLeaves
import Derived.RangeFuncSeq
import Derived.RecoverIn
import Derived.Laws.Small
import Derived.ProofKit
import Derived.OpenShut
import Derived.ShutString
import Derived.ChangeOld
import Derived.Below
import Derived.Lib.SmallJoins
import Derived.Deep.Slices
import Derived.Laws.CopyRow
import Derived.Laws.IdiomCopy
set_option linter.unusedVariables false
set_option linter.unusedSimpArgs false
namespace Go.Proofs.Ytdefnmcjmklohaa.Sh
open Go
inductive RwO (L : List (Option Rw)) (κ : List Nat) : List (Option Rw) → List Nat → List Rw → Prop where
 | nil : RwO L κ [] [] []
 | cons {k : Nat} {r : Rw} {l : List (Option Rw)} {m : List Nat} {rs : List Rw} (h : L[k]? = some (some (r.ren (kap κ)))) (hs : r.sc κ.length = true) (q : RwO L κ l m rs) : RwO L κ (some r :: l) (k :: m) (r :: rs)
 | map {α : Type} {k : Nat} {w : List α} {kf : α → Value} {vf : α → D} {l : List (Option Rw)} {m : List Nat} {rs : List Rw} (h : L[k]? = some (some ⟨0, w.map fun p => .agg [.d (.v (kf p)), .d (vf p)]⟩)) (q : RwO L κ l m rs) : RwO L κ (some ⟨0, w.map fun p => .agg [.d (.v (kf p)), .d (vf p)]⟩ :: l) (k :: m) (⟨0, w.map fun p => .agg [.d (.v (kf p)), .d (vf p)]⟩ :: rs)
 | row {α : Type} {k s : Nat} {w : List α} {f : α → D} {l : List (Option Rw)} {m : List Nat} {rs : List Rw} (h : L[k]? = some (some ⟨s, w.map fun a => .d (f a)⟩)) (q : RwO L κ l m rs) : RwO L κ (some ⟨s, w.map fun a => .d (f a)⟩ :: l) (k :: m) (⟨s, w.map fun a => .d (f a)⟩ :: rs)
theorem RwO.all {L : List (Option Rw)} {κ : List Nat} {l : List (Option Rw)} {m : List Nat} {rs : List Rw} (h : RwO L κ l m rs) : l = rs.map some ∧ m.length = rs.length ∧ (∀ q ∈ rs, q.sc κ.length = true) ∧ (∀ p ∈ rnOf m (rs.map (Rw.ren (kap κ))), L[p.1]? = some (some p.2)) ∧ ∀ n ∈ m, n < L.length := by
 have step : ∀ {k : Nat} {r : Rw} {l : List (Option Rw)} {m : List Nat} {rs : List Rw}, L[k]? = some (some (r.ren (kap κ))) → r.sc κ.length = true → (l = rs.map some ∧ m.length = rs.length ∧ (∀ q ∈ rs, q.sc κ.length = true) ∧ (∀ p ∈ rnOf m (rs.map (Rw.ren (kap κ))), L[p.1]? = some (some p.2)) ∧ ∀ n ∈ m, n < L.length) →
   (some r :: l = (r :: rs).map some ∧ (k :: m).length = (r :: rs).length ∧ (∀ q ∈ r :: rs, q.sc κ.length = true) ∧ (∀ p ∈ rnOf (k :: m) ((r :: rs).map (Rw.ren (kap κ))), L[p.1]? = some (some p.2)) ∧ ∀ n ∈ k :: m, n < L.length) := by
  intro k r l m rs h hs ⟨h1, h2, h3, h4, h5⟩
  refine ⟨by rw [h1]; rfl, by simp [h2], fun q hq => ?_, fun p hp => ?_, fun n hn => ?_⟩
  ·rcases List.mem_cons.1 hq with rfl | hq
   ·exact hs
   ·exact h3 q hq
  ·simp only [List.map_cons, rnOf, List.mem_cons] at hp
   rcases hp with rfl | hp
   ·exact h
   ·exact h4 p hp
  ·rcases List.mem_cons.1 hn with rfl | hn
   ·exact (List.getElem?_eq_some_iff.1 h).1
   ·exact h5 n hn
 induction h with
 | nil => simp [rnOf]
 | cons h hs _ ih => exact step h hs ih
 | map h _ ih =>
  refine step ?_ sc_mapM ih
  unfold Rw.ren
  rw [map_ren_m]
  exact h
 | row h _ ih =>
  refine step ?_ sc_mapD ih
  unfold Rw.ren
  rw [map_ren_d]
  exact h
inductive RnO (σ : Nat → Nat) : List (Option Rw) → List (Option Rw) → Prop where
 | nil : RnO σ [] []
 | gone {l l' : List (Option Rw)} (q : RnO σ l l') : RnO σ (none :: l) (none :: l')
 | cons {r r' : Rw} {l l' : List (Option Rw)} (h : r.ren σ = r') (q : RnO σ l l') : RnO σ (some r :: l) (some r' :: l')
 | map {α : Type} {w : List α} {kf : α → Value} {vf : α → D} {l l' : List (Option Rw)} (q : RnO σ l l') : RnO σ (some ⟨0, w.map fun p => .agg [.d (.v (kf p)), .d (vf p)]⟩ :: l) (some ⟨0, w.map fun p => .agg [.d (.v (kf p)), .d (vf p)]⟩ :: l')
 | row {α : Type} {s : Nat} {w : List α} {f : α → D} {l l' : List (Option Rw)} (q : RnO σ l l') : RnO σ (some ⟨s, w.map fun a => .d (f a)⟩ :: l) (some ⟨s, w.map fun a => .d (f a)⟩ :: l')
theorem RnO.eq {σ : Nat → Nat} {l l' : List (Option Rw)} (h : RnO σ l l') : l.map (Option.map (Rw.ren σ)) = l' := by
 induction h with
 | nil => rfl
 | gone _ ih => rw [List.map_cons, ih]; rfl
 | cons h _ ih => rw [List.map_cons, ih, Option.map_some, h]
 | map _ ih =>
  rw [List.map_cons, ih, Option.map_some]
  unfold Rw.ren
  rw [map_ren_m]
 | row _ ih =>
  rw [List.map_cons, ih, Option.map_some]
  unfold Rw.ren
  rw [map_ren_d]
def wnO : List Nat → List (Option Rw) → List (Nat × Option Rw)
 | n :: ρ, o :: os => (n, o) :: wnO ρ os
 | _, _ => []
theorem wnO_eq (σ : Nat → Nat) : ∀ (ρ : List Nat) (os : List (Option Rw)), wnOf σ ρ os = wnO ρ (os.map (Option.map (Rw.ren σ)))
 | [], _ => by simp [wnOf, wnO]
 | n :: ρ, [] => by simp [wnOf, wnO]
 | n :: ρ, o :: os => by simp [wnOf, wnO, wnO_eq σ ρ os]
theorem wnO_fst : ∀ (ρ : List Nat) (os : List (Option Rw)), ρ.length = os.length → (wnO ρ os).map (·.1) = ρ
 | [], _, _ => by simp [wnO]
 | n :: ρ, [], h => by simp at h
 | n :: ρ, o :: os, h => by simp [wnO]; exact wnO_fst ρ os (by simpa using h)
theorem rnOf_fst : ∀ (ρ : List Nat) (os : List Rw), ρ.length = os.length → (rnOf ρ os).map (·.1) = ρ
 | [], _, _ => by simp [rnOf]
 | n :: ρ, [], h => by simp at h
 | n :: ρ, o :: os, h => by simp [rnOf]; exact rnOf_fst ρ os (by simpa using h)
section
variable {P : Program} {N : Nat} {ops : Array Oper} {l : List Oper} {ts : List (Nat × T)} {L : List (Option Rw)} {tr : List Stp} {K : List Oper → List Stp → St → Prop} {d : Nat} {ty : TypeId} {pos : String} {af : Array Edge} {gd : Option (Nat × Bool)}
theorem callO_step {dst : Option Nat} {x : Operand} {xs : Array Operand} {tys : Array TypeId} {f : FuncId} {cT t t' : T} {as us fi ca : List T} {Lf Lf' ls ls' : List (Option Rw)} {rs news : List Rw} {news' : List (Option Rw)} (ρ : List Nat) (L2 : List (Option Rw)) (hc : SCR P f as Lf t Lf') (he : Ent P f)
  (hf : opT ts x = cT) (hcal : calT cT f fi ca) (hx : xs.toList.map (opT ts) = us) (hargs : fi ++ us ++ ca = renL (kap ρ) as) (has : scL ρ.length as = true) (hnd : ndK ρ = true) (hrow : RwO L ρ Lf ρ rs) (hsp : Lf' = ls ++ news.map some) (hls : ls.length = ρ.length)
  {nn : Nat} {nr : List Nat} (hnn : nums.drop L.length = nn :: nr) (hr1 : RnO (ext ρ nn) ls ls') (hr2 : RnO (ext ρ nn) (news.map some) news') (htr : t.ren (ext ρ nn) = t') (hL : setL L (wnO ρ ls') ++ news' = L2)
  (hw : wantT ops ts ⟨dst, .call { callee := .value x, args := xs, argTypes := tys }, ty, pos, af, gd⟩ = some true) (hd : dstOk N dst = true)
  (k : EvK P N ops l ⟨putS ts dst t', L2⟩ (tr ++ [.run (ρ ++ List.range' nn news'.length) (ρ ++ List.range' nn news'.length)]) K) :
  EvK P N ops (⟨dst, .call { callee := .value x, args := xs, argTypes := tys }, ty, pos, af, gd⟩ :: l) ⟨ts, L⟩ tr K := by
 have e0 := nums_eq hnn
 subst e0
 obtain ⟨h1, h2, h3, h4, h5⟩ := hrow.all
 subst h1 hsp htr
 have e1 := hr1.eq
 have e2 := hr2.eq
 have hls' : ρ.length = ls'.length := by rw [← e1]; simp [hls]
 refine ev_cons (.run hw (o_call (P := P) (fresh := L.length) (ρ := ρ) (rs := rs) (ls := ls) (news := news) (fi := fi) (ca := ca) (as := as) (ts := us) (r := t) rfl he hcal (by rw [← hx]; simp) hc hargs has (ndK_ok hnd) h2 hls h3 h5) ?_ h4 ?_ hd) ?_
 ·intro p hp
  rcases List.mem_cons.1 hp with rfl | hp
  ·exact ⟨hf, by simp [Op.operands, Call.operands]⟩
  ·obtain ⟨a, b⟩ := zip_ins hx p hp
   exact ⟨a, by simp only [Op.operands, Call.operands, Array.mem_append]; exact .inr (by simpa using b)⟩
 ·intro p hp
  have key : ∀ (σ : Nat → Nat) (ρ : List Nat) (os : List (Option Rw)) (rs : List Rw), ρ.length = rs.length → ∀ p ∈ wnOf σ ρ os, ∃ q ∈ rnOf ρ rs, q.1 = p.1 := by
   intro σ ρ
   induction ρ with
   | nil => intro os rs _ p hp; cases os <;> simp [wnOf] at hp
   | cons n ρ ih =>
    intro os rs hl p hp
    cases rs with
    | nil => simp at hl
    | cons r rs =>
     cases os with
     | nil => simp [wnOf] at hp
     | cons o os =>
      simp only [wnOf, List.mem_cons] at hp
      rcases hp with rfl | hp
      ·exact ⟨(n, r), by simp [rnOf], rfl⟩
      ·obtain ⟨q, hq, e⟩ := ih os rs (by simpa using hl) p hp
       exact ⟨q, by simp [rnOf, hq], e⟩
  exact key _ ρ _ _ (by simpa using h2) p hp
 ·have e3 : (news.map (Rw.ren (ext ρ L.length))).map some = news' := by rw [← e2]; simp
  have e4 : (news.map (Rw.ren (ext ρ L.length))).length = news'.length := by rw [← e3]; simp
  rw [wnO_eq, e1, wnO_fst _ _ hls', rnOf_fst _ _ (by simpa using h2), e4]
  unfold St.eff
  dsimp only
  rw [e3, hL]
  exact k
theorem r_callO {x : Operand} {xs : Array Operand} {tys : Array TypeId} {f : FuncId} {cT t t' : T} {as us fi ca : List T} {Lf Lf' ls ls' : List (Option Rw)} {rs news : List Rw} {news' : List (Option Rw)} (ρ : List Nat) (L2 : List (Option Rw)) (hc : SCR P f as Lf t Lf') (he : Ent P f)
  (hf : opT ts x = cT) (hcal : calT cT f fi ca) (hx : xs.toList.map (opT ts) = us) (hargs : fi ++ us ++ ca = renL (kap ρ) as) (has : scL ρ.length as = true) (hnd : ndK ρ = true) (hrow : RwO L ρ Lf ρ rs) (hsp : Lf' = ls ++ news.map some) (hls : ls.length = ρ.length)
  {nn : Nat} {nr : List Nat} (hnn : nums.drop L.length = nn :: nr) (hr1 : RnO (ext ρ nn) ls ls') (hr2 : RnO (ext ρ nn) (news.map some) news') (htr : t.ren (ext ρ nn) = t') (hL : setL L (wnO ρ ls') ++ news' = L2)
  (hw : wantT ops ts ⟨some d, .call { callee := .value x, args := xs, argTypes := tys }, ty, pos, af, gd⟩ = some true) (hd : Nat.blt d N = true)
  (k : EvK P N ops l ⟨(d, t') :: ts, L2⟩ (tr ++ [.run (ρ ++ List.range' nn news'.length) (ρ ++ List.range' nn news'.length)]) K) :
  EvK P N ops (⟨some d, .call { callee := .value x, args := xs, argTypes := tys }, ty, pos, af, gd⟩ :: l) ⟨ts, L⟩ tr K :=
 callO_step ρ L2 hc he hf hcal hx hargs has hnd hrow hsp hls hnn hr1 hr2 htr hL hw hd k
end
end Go.Proofs.Ytdefnmcjmklohaa.Sh
namespace Go.Proofs.Ytdefnmcjmklohaa.Sh
open Go
theorem LendT.fnF {L : List (Option Rw)} {f : Fn} {l l' m m' : List T} (h : LendTs L l l') (k : LendTs L m m') : LendT L (.fn f l m) (.fn f l' m') := .fn h.get.1 k.get.1 h.get.2 k.get.2
theorem fin_n {P : Program} {fn : Func} {n0 : Nat} {R : SE → List (Option Rw) → Prop} {st : St} (h : Fin P fn n0 R .ret st) : Fin P fn n0 R .norm st := h
def optE {α β : Type} : Option α → β → (α → β) → β
 | none, b, _ => b
 | some a, _, f => f a
theorem optN {α β : Type} {o : Option α} {b : β} {f : α → β} (h : o = none) : optE o b f = b := by subst h; rfl
theorem optS {α β : Type} {o : Option α} {a : α} {b : β} {f : α → β} (h : o = some a) : optE o b f = f a := by subst h; rfl
def lenO {α : Type} (o : Option (List α)) (l : List α) : Option (List α) := o.bind fun r => if r.length = l.length then some r else none
theorem lenO_eq {α : Type} {o : Option (List α)} {l r : List α} (h : lenO o l = some r) : o = some r ∧ r.length = l.length := by
 unfold lenO at h
 obtain ⟨q, h1, h2⟩ := Option.bind_eq_some_iff.1 h
 split at h2
 ·injection h2 with h2; subst h2; exact ⟨h1, by assumption⟩
 ·cases h2
def SCO {α : Type} (P : Program) (f : FuncId) (as : List T) (L : List (Option Rw)) (o : Option α) (t0 : T) (L0 : List (Option Rw)) (t1 : α → T) (L1 : α → List (Option Rw)) : Prop :=
 SC P f as L fun se X => (o = none ∧ se = .ret t0 ∧ X = L0) ∨ ∃ a, o = some a ∧ se = .ret (t1 a) ∧ X = L1 a
theorem SCO.none {α : Type} {P : Program} {f : FuncId} {as : List T} {L : List (Option Rw)} {o : Option α} {t0 : T} {L0 : List (Option Rw)} {t1 : α → T} {L1 : α → List (Option Rw)} (h : SCO P f as L o t0 L0 t1 L1) (hn : o = none) : SCR P f as L t0 L0 := SC.mono h fun se X hX => by
 rcases hX with ⟨_, h1, h2⟩ | ⟨a, h1, _⟩
 ·exact ⟨h1, h2⟩
 ·rw [hn] at h1; cases h1
theorem SCO.some {α : Type} {P : Program} {f : FuncId} {as : List T} {L : List (Option Rw)} {o : Option α} {t0 : T} {L0 : List (Option Rw)} {t1 : α → T} {L1 : α → List (Option Rw)} (h : SCO P f as L o t0 L0 t1 L1) {a : α} (hn : o = some a) : SCR P f as L (t1 a) (L1 a) := SC.mono h fun se X hX => by
 rcases hX with ⟨h1, _⟩ | ⟨b, h1, h2, h3⟩
 ·rw [hn] at h1; cases h1
 ·rw [hn] at h1; injection h1 with h1; subst h1; exact ⟨h2, h3⟩
def NilEq (P : Program) (ty : TypeId) : Prop := ∀ (o : Operand) (a : Option Addr) (n cap : Nat) (w : World), (do eqGuard .eql ty o (.const (.slice none 0 0)) (.slice a n cap) (.slice none 0 0); binOp .eql ty (.slice a n cap) (.slice none 0 0) : Sem Value).run P w = .ok (.bool a.isNone) w
theorem o_nil {P : Program} {o : Oper} {fresh : Nat} {ty ty' : TypeId} {x : Operand} {t : T} {b : Bool} (hop : o.op = .binOp .eql ty x (.const (.slice none 0 0)) ty') (hz : NilEq P ty) (hb : ∀ g c, VT g t c → ∃ a n cap, c = .slice a n cap ∧ a.isNone = b) : OpS P o [(x, t)] [] [] fresh [] (.d (.v (.bool b))) :=
 .of_pure (fun c h => by rw [hop] at h; cases h) fun g a _ hi _ => ⟨.bool b, by
  obtain ⟨ad, n, cap, e1, e2⟩ := hb g _ (hi (x, t) (by simp))
  dsimp only at e1
  have := hz x ad n cap g.w
  have e3 : a.eval (.const (.slice none 0 0)) = .slice none 0 0 := rfl
  simp only [execOp, hop, e1, e3, Sem.run_bind] at this ⊢
  rw [this, e2]; rfl, .d (.v _ rfl)⟩
theorem SW.raw {P : Program} {n0 N : Nat} {df : List Deferred} {Q : SX → St → Prop} {c : Code} {ts : List (Nat × T)} {L : List (Option Rw)} (i s : Nat) (hi : getS ts i = .d (.arr s [])) (h : ∀ a cap, SW P n0 N df c Q ⟨(i, .d (.v (.slice a 0 cap))) :: ts, L⟩) : SW P n0 N df c Q ⟨ts, L⟩ := fun F nn hF g a hR => by
 have h1 := hR.ts i
 dsimp only at h1
 rw [hi] at h1
 generalize hv : a.tmps.getD i undef = v at h1
 have : ∃ ad cap, v = .slice ad 0 cap := by
  cases h1 with | d h1 =>
  cases h1 with
  | arr0 => exact ⟨_, _, rfl⟩
  | arr => exact ⟨_, _, rfl⟩
 obtain ⟨ad, cap, rfl⟩ := this
 refine h ad cap F nn hF g a ⟨hR.good, hR.M, hR.size, fun j => ?_, hR.df⟩
 have e := putS_get (ts := ts) (dst := some i) (v := .d (.v (.slice ad 0 cap))) j
 simp only [putS] at e
 rw [e]
 split
 ·rename_i hj; injection hj with hj; subst hj; rw [hv]; exact .d (.v _ rfl)
 ·exact hR.ts j
theorem SW.unraw {P : Program} {n0 N : Nat} {df : List Deferred} {Q : SX → St → Prop} {c : Code} {ts : List (Nat × T)} {L : List (Option Rw)} (i s : Nat) {a : Option Addr} {cap : Nat} (hi : getS ts i = .d (.v (.slice a 0 cap))) (h : SW P n0 N df c Q ⟨(i, .d (.arr s [])) :: ts, L⟩) : SW P n0 N df c Q ⟨ts, L⟩ := fun F nn hF g ac hR => by
 have h1 := hR.ts i
 dsimp only at h1
 rw [hi] at h1
 have h2 := h1.v_eq
 refine h F nn hF g ac ⟨hR.good, hR.M, hR.size, fun j => ?_, hR.df⟩
 have e := putS_get (ts := ts) (dst := some i) (v := .d (.arr s [])) j
 simp only [putS] at e
 rw [e]
 split
 ·rename_i hj; injection hj with hj; subst hj; rw [h2]; exact .d (.arr0 s a cap)
 ·exact hR.ts j
section
variable {P : Program} {N : Nat} {ops : Array Oper} {l : List Oper} {ts : List (Nat × T)} {L : List (Option Rw)} {tr : List Stp} {d : Nat} {ty : TypeId} {pos : String} {af : Array Edge} {gd : Option (Nat × Bool)} {K : List Oper → List Stp → St → Prop}
theorem r_nilRow {ty1 ty2 : TypeId} {x : Operand} {n s : Nat} (hz : NilEq P ty1) (hx : opT ts x = .d (.v (.slice none n s))) (hw : wantT ops ts ⟨some d, .binOp .eql ty1 x (.const (.slice none 0 0)) ty2, ty, pos, af, gd⟩ = some true) (hd : Nat.blt d N = true)
  (k : EvK P N ops l ⟨(d, .d (.v (.bool true))) :: ts, L⟩ (tr ++ [.run [] []]) K) : EvK P N ops (⟨some d, .binOp .eql ty1 x (.const (.slice none 0 0)) ty2, ty, pos, af, gd⟩ :: l) ⟨ts, L⟩ tr K :=
 ev_val rfl (o_nil (t := .d (.v (.slice none n s))) (b := true) rfl hz (fun g c h => by have := h.v_eq; exact ⟨_, _, _, this, rfl⟩)) hw (fun p hp => by simp only [List.mem_cons, List.not_mem_nil, or_false] at hp; subst hp; exact ⟨hx, by simp [Op.operands]⟩) (by simp) hd k
theorem r_nilRaw {ty1 ty2 : TypeId} {x : Operand} {a : Addr} {n s : Nat} (hz : NilEq P ty1) (hx : opT ts x = .d (.v (.slice (some a) n s))) (hw : wantT ops ts ⟨some d, .binOp .eql ty1 x (.const (.slice none 0 0)) ty2, ty, pos, af, gd⟩ = some true) (hd : Nat.blt d N = true)
  (k : EvK P N ops l ⟨(d, .d (.v (.bool false))) :: ts, L⟩ (tr ++ [.run [] []]) K) : EvK P N ops (⟨some d, .binOp .eql ty1 x (.const (.slice none 0 0)) ty2, ty, pos, af, gd⟩ :: l) ⟨ts, L⟩ tr K :=
 ev_val rfl (o_nil (t := .d (.v (.slice (some a) n s))) (b := false) rfl hz (fun g c h => by have := h.v_eq; exact ⟨_, _, _, this, rfl⟩)) hw (fun p hp => by simp only [List.mem_cons, List.not_mem_nil, or_false] at hp; subst hp; exact ⟨hx, by simp [Op.operands]⟩) (by simp) hd k
theorem r_nilArr {ty1 ty2 : TypeId} {x : Operand} {s : Nat} {y : D} {w : List D} (hz : NilEq P ty1) (hx : opT ts x = .d (.arr s (y :: w))) (hw : wantT ops ts ⟨some d, .binOp .eql ty1 x (.const (.slice none 0 0)) ty2, ty, pos, af, gd⟩ = some true) (hd : Nat.blt d N = true)
  (k : EvK P N ops l ⟨(d, .d (.v (.bool false))) :: ts, L⟩ (tr ++ [.run [] []]) K) : EvK P N ops (⟨some d, .binOp .eql ty1 x (.const (.slice none 0 0)) ty2, ty, pos, af, gd⟩ :: l) ⟨ts, L⟩ tr K :=
 ev_val rfl (o_nil (t := .d (.arr s (y :: w))) (b := false) rfl hz (fun g c h => by cases h with | d h => cases h; exact ⟨_, _, _, rfl, rfl⟩)) hw (fun p hp => by simp only [List.mem_cons, List.not_mem_nil, or_false] at hp; subst hp; exact ⟨hx, by simp [Op.operands]⟩) (by simp) hd k
theorem r_cvI {src dst : TypeId} {x : Operand} {k k2 : IntKind} {n : Int} (hs : (P.underlying src).isSome = true) (hk : P.intKind dst = k2) (hd' : P.underlying dst = some (.int k2)) (hx : opT ts x = .d (.v (.int k n))) (hw : wantT ops ts ⟨some d, .convert src dst x, ty, pos, af, gd⟩ = some true) (hd : Nat.blt d N = true)
  (kk : EvK P N ops l ⟨(d, .d (.v (.int k2 (k2.wrap n)))) :: ts, L⟩ (tr ++ [.run [] []]) K) : EvK P N ops (⟨some d, .convert src dst x, ty, pos, af, gd⟩ :: l) ⟨ts, L⟩ tr K :=
 r_convD (p := .int k n) (z := .int k2 (k2.wrap n)) hx rfl (fun w => by subst hk; exact run_convert_int w src dst k n hs hd') hw hd kk
end
end Go.Proofs.Ytdefnmcjmklohaa.Sh
namespace Go.Proofs.Ytdefnmcjmklohaa.Sh
open Go
theorem VD.turn {g g' : G} (hk : ∀ b, g.K b → g'.K b ∧ g'.w.heap[b]? = g.w.heap[b]?) {d : D} {c : Value} (h : VD g d c) : VD g' d c := by
 have hc : ∀ b o v, g.K b → g.w.cell? ⟨b, o, none⟩ = some v → g'.w.cell? ⟨b, o, none⟩ = some v := fun b o v hb hv => by
  unfold World.cell? at hv ⊢
  rw [(hk b hb).2]
  exact hv
 induction h with
 | v x h => exact .v x h
 | agg l cs hl h ih => exact .agg l cs hl ih
 | tup l cs hl h ih => exact .tup l cs hl ih
 | arr0 s a cap => exact .arr0 s a cap
 | arr s l b off cap f hcap hK hs hw hv ih => exact .arr s l b off cap f hcap (hk b hK).1 hs (fun i d hd j e he => hc _ _ _ hK (hw i d hd j e he)) ih
 | el s l i o b off f hK hs hw hv ih => exact .el s l i o b off f (fun h => (hk b (hK h)).1) hs (fun i d hd j e he => hc _ _ _ (hK (by rintro rfl; simp at hd)) (hw i d hd j e he)) ih
 | mp ks vs b es clock hK hh hl hl2 h1 hv ih => exact .mp ks vs b es clock (hk b hK).1 ((hk b hK).2.trans hh) hl hl2 h1 ih
theorem VT.turn {g g' : G} (hk : ∀ b, g.K b → g'.K b ∧ g'.w.heap[b]? = g.w.heap[b]?) (he : ∀ n, g.M n ≠ none → g'.M n ≠ none ∧ g'.β n = g.β n) {t : T} {c : Value} (h : VT g t c) : VT g' t c := by
 induction h with
 | d h => exact .d (h.turn hk)
 | bot c => exact .bot c
 | ref n s i o hn hs => obtain ⟨h1, h2⟩ := he n hn; rw [← h2]; exact .ref n s i o h1 hs
 | row n s lo len a hn hs hl ha => obtain ⟨h1, h2⟩ := he n hn; rw [← h2] at hl ha ⊢; exact .row n s lo len a h1 hs hl ha
 | mp n hn => obtain ⟨h1, h2⟩ := he n hn; rw [← h2]; exact .mp n h1
 | agg l cs hl h ih => exact .agg l cs hl ih
 | tup l cs hl h ih => exact .tup l cs hl ih
 | fn f l m cs ds hl h hm k ih ik => exact .fn f l m cs ds hl ih hm ik
 | iface t x c h ih => exact .iface t x c ih
theorem VT.turnN {g g' : G} {k : Nat} (hk : ∀ b, g.K b → g'.K b ∧ g'.w.heap[b]? = g.w.heap[b]?) (he : ∀ n, n < k → g.M n ≠ none → g'.M n ≠ none ∧ g'.β n = g.β n) {t : T} {c : Value} (h : VT g t c) : t.sc k = true → VT g' t c := by
 induction h with
 | d h => intro _; exact .d (h.turn hk)
 | bot c => intro _; exact .bot c
 | ref n s i o hn hs => intro hc; obtain ⟨h1, h2⟩ := he n (by simpa [T.sc, Nat.blt_eq] using hc) hn; rw [← h2]; exact .ref n s i o h1 hs
 | row n s lo len a hn hs hl ha => intro hc; obtain ⟨h1, h2⟩ := he n (by simpa [T.sc, Nat.blt_eq] using hc) hn; rw [← h2] at hl ha ⊢; exact .row n s lo len a h1 hs hl ha
 | mp n hn => intro hc; obtain ⟨h1, h2⟩ := he n (by simpa [T.sc, Nat.blt_eq] using hc) hn; rw [← h2]; exact .mp n h1
 | agg l cs hl h ih =>
  intro hc
  simp only [T.sc, scL_all, List.all_eq_true] at hc
  exact .agg l cs hl fun i d c hd h' => ih i d c hd h' (hc d (List.mem_of_getElem? hd))
 | tup l cs hl h ih =>
  intro hc
  simp only [T.sc, scL_all, List.all_eq_true] at hc
  exact .tup l cs hl fun i d c hd h' => ih i d c hd h' (hc d (List.mem_of_getElem? hd))
 | fn f l m cs ds hl h hm k ih ik =>
  intro hc
  simp only [T.sc, scL_all, Bool.and_eq_true, List.all_eq_true] at hc
  exact .fn f l m cs ds hl (fun i d c hd h' => ih i d c hd h' (hc.1 d (List.mem_of_getElem? hd))) hm fun i d c hd h' => ik i d c hd h' (hc.2 d (List.mem_of_getElem? hd))
 | iface t x c h ih => intro hc; exact .iface t x c (ih (by simpa [T.sc] using hc))
theorem RowR.turn {g g' : G} (hk : ∀ b, g.K b → g'.K b ∧ g'.w.heap[b]? = g.w.heap[b]?) (he : ∀ n, g.M n ≠ none → g'.M n ≠ none ∧ g'.β n = g.β n) {n : Nat} {r : Rw} (h : RowR g n r) (hb : g'.β n = g.β n) (hh : (g.β n).2 ≠ 0 → g'.w.heap[(g.β n).1]? = g.w.heap[(g.β n).1]?) : RowR g' n r :=
 h.rel rfl hb hh rfl (fun x x' => x = x') (fun i x x' h1 h2 => by rw [h1] at h2; injection h2) (fun x x' h => by subst h; exact ⟨rfl, fun j y y' h1 h2 => by rw [h1] at h2; injection h2⟩) (fun k y x' h => ⟨y, h.symm, rfl⟩) (fun t t' c e hv => e ▸ hv.turn hk he)
theorem nl_of {g : G} (hg : Good g) {b : Nat} {o : Obj} (h : g.w.heap[b]? = some o) (h1 : ∀ c t x, o ≠ .cells c t x) (h2 : ∀ es c, o ≠ .map es c) : NL g b := fun n r hn h0 e => by
 rcases hg.rows n r hn with ⟨k, _⟩ | ⟨_, cells, t, k1, _⟩ | ⟨_, _, es, clock, k1, _⟩
 ·exact h0 k
 ·rw [e, h] at k1; injection k1 with k1; exact h1 _ _ _ k1
 ·rw [e, h] at k1; injection k1 with k1; exact h2 _ _ k1
theorem nl_loop {g : G} (hg : Good g) {b : Nat} {r : Loop} (h : g.w.heap[b]? = some (.loop r)) : NL g b := nl_of hg h (fun c t x e => by cases e) (fun es c e => by cases e)
theorem nl_def {g : G} (hg : Good g) {b : Nat} {r : Option (List Deferred)} (h : g.w.heap[b]? = some (.deferred r)) : NL g b := nl_of hg h (fun c t x e => by cases e) (fun es c e => by cases e)
structure LeL (l n0 : Nat) (g g' : G) : Prop where
 e : ∀ n, n < n0 → g.M n ≠ none → g'.M n ≠ none ∧ g'.β n = g.β n
 size : g.w.heap.size ≤ g'.w.heap.size
 os : g'.w.os = g.w.os
 tape : g'.w.tape = g.w.tape
 output : g'.w.output = g.w.output
 fr : ∀ b, b < g.w.heap.size → NL g b → b ≠ l → g'.w.heap[b]? = g.w.heap[b]?
 k : ∀ b, g.K b → g'.K b
 k' : ∀ b, b < g.w.heap.size → g'.K b → g.K b ∨ ¬ NL g b
 nl : ∀ n r, g'.M n = some (some r) → (g'.β n).2 ≠ 0 → (g'.β n).1 < g.w.heap.size → ¬ NL g (g'.β n).1
theorem LeN.toL {n0 : Nat} {g g' : G} (h : LeN n0 g g') (l : Nat) : LeL l n0 g g' := ⟨h.e, h.size, h.os, h.tape, h.output, fun b hb hn _ => h.fr b hb hn, h.k, h.k', h.nl⟩
theorem LeL.less {l n0 n1 : Nat} {g g' : G} (h : LeL l n0 g g') (hn : n1 ≤ n0) : LeL l n1 g g' := ⟨fun n hlt => h.e n (by omega), h.size, h.os, h.tape, h.output, h.fr, h.k, h.k', h.nl⟩
theorem LeL.refl (l n0 : Nat) (g : G) : LeL l n0 g g := (LeN.refl n0 g).toL l
theorem LeL.keepNL {l n0 : Nat} {g g' : G} (h : LeL l n0 g g') {b : Nat} (hb : b < g.w.heap.size) (hn : NL g b) : NL g' b := fun n r hr h0 he => h.nl n r hr h0 (by rw [he]; exact hb) (he ▸ hn)
theorem LeL.trans {l n0 : Nat} {a b c : G} (h : LeL l n0 a b) (k : LeL l n0 b c) : LeL l n0 a c where
 e n hlt hn := by
  obtain ⟨h1, h2⟩ := h.e n hlt hn
  obtain ⟨k1, k2⟩ := k.e n hlt h1
  exact ⟨k1, k2.trans h2⟩
 size := Nat.le_trans h.size k.size
 os := k.os.trans h.os
 tape := k.tape.trans h.tape
 output := k.output.trans h.output
 fr x hx hn hl := (k.fr x (Nat.lt_of_lt_of_le hx h.size) (h.keepNL hx hn) hl).trans (h.fr x hx hn hl)
 k x hx := k.k x (h.k x hx)
 k' x hx hk := by
  rcases k.k' x (Nat.lt_of_lt_of_le hx h.size) hk with h1 | h1
  ·exact h.k' x hx h1
  ·exact .inr fun hn => h1 (h.keepNL hx hn)
 nl n r hr h0 hlt := by
  intro hn
  exact k.nl n r hr h0 (Nat.lt_of_lt_of_le hlt h.size) (h.keepNL hlt hn)
theorem LeL.toN {l n0 : Nat} {g g' : G} (h : LeL l n0 g g') (hl : g.w.heap.size ≤ l) : LeN n0 g g' := ⟨h.e, h.size, h.os, h.tape, h.output, fun b hb hn => h.fr b hb hn (by omega), h.k, h.k', h.nl⟩
theorem put_good {g : G} (hg : Good g) {l : Nat} (hl : NL g l) (hk : ¬ g.K l) (o : Obj) (n0 : Nat) :
  Good ⟨g.M, g.β, g.K, g.w.putObj l o⟩ ∧ LeL l n0 g ⟨g.M, g.β, g.K, g.w.putObj l o⟩ ∧ ∀ t c, VT g t c → VT ⟨g.M, g.β, g.K, g.w.putObj l o⟩ t c := by
 have hh : ∀ b, b ≠ l → (g.w.putObj l o).heap[b]? = g.w.heap[b]? := fun b hb => World.putObj_heap_other hb
 have h1 : ∀ b, g.K b → g.K b ∧ (g.w.putObj l o).heap[b]? = g.w.heap[b]? := fun b hb => ⟨hb, hh b fun e => hk (e ▸ hb)⟩
 have h2 : ∀ n, g.M n ≠ none → g.M n ≠ none ∧ g.β n = g.β n := fun n hn => ⟨hn, rfl⟩
 refine ⟨⟨fun n r hn => (hg.rows n r hn).turn (g' := ⟨g.M, g.β, g.K, g.w.putObj l o⟩) h1 h2 rfl (fun h0 => hh _ fun e => hl n r hn h0 e), hg.inj, fun b hb => ?_, hg.kl⟩,
  ⟨fun n _ hn => ⟨hn, rfl⟩, ?_, rfl, rfl, rfl, fun b _ _ hb => hh b hb, fun b hb => hb, fun b _ hb => .inl hb, fun n r hn h0 _ hk => hk n r hn h0 rfl⟩, fun t c h => h.turn (g' := ⟨g.M, g.β, g.K, g.w.putObj l o⟩) h1 h2⟩
 ·show b < (g.w.putObj l o).heap.size
  rw [World.putObj_size]; exact hg.kd b hb
 ·show _ ≤ (g.w.putObj l o).heap.size
  rw [World.putObj_size]; exact Nat.le_refl _
structure DfOk (db : Nat) (g : G) (df : List Deferred) : Prop where
 nd : df.Nodup
 sz : db ≤ g.w.heap.size
 all : ∀ d ∈ df, ∃ D, d = { target := .collected D, args := #[] } ∧ db ≤ D ∧ g.w.heap[D]? = some (.deferred (some [])) ∧ ¬ g.K D
theorem DfOk.nil {db : Nat} {g : G} (h : db ≤ g.w.heap.size) : DfOk db g [] := ⟨by simp, h, fun d hd => by cases hd⟩
theorem DfOk.stepN {db n0 : Nat} {g g' : G} {df : List Deferred} (h : DfOk db g df) (hg : Good g) (hl : LeN n0 g g') : DfOk db g' df := by
 refine ⟨h.nd, Nat.le_trans h.sz hl.size, fun d hd => ?_⟩
 obtain ⟨D, h1, h2, h3, h4⟩ := h.all d hd
 have hlt := (Array.getElem?_eq_some_iff.1 h3).1
 refine ⟨D, h1, h2, ?_, fun hk => ?_⟩
 ·rw [hl.fr D hlt (nl_def hg h3)]
  exact h3
 ·rcases hl.k' D hlt hk with k | k
  ·exact h4 k
  ·exact k (nl_def hg h3)
structure Shut (db : Nat) (K : Nat → Prop) (w w' : World) : Prop where
 size : w'.heap.size = w.heap.size
 os : w'.os = w.os
 tape : w'.tape = w.tape
 output : w'.output = w.output
 same : ∀ b, (b < db ∨ K b ∨ ∀ o, w.heap[b]? = some o → ∀ x, o ≠ .deferred x) → w'.heap[b]? = w.heap[b]?
theorem leave {P : Program} {fn : Func} {tmps : Array Value} {R : Ending → World → Prop} {u : FrameMode} (hu : u ≠ .run) {db : Nat} {K : Nat → Prop} (n : Nat) :
  ∀ (df : List Deferred) (w : World), df.Nodup → (∀ d ∈ df, ∃ D, d = { target := .collected D, args := #[] } ∧ db ≤ D ∧ w.heap[D]? = some (.deferred (some [])) ∧ ¬ K D) →
  (∀ w', Shut db K w w' → LeavesIn Fence.wide n P fn tmps R [] u w') → LeavesInM Fence.wide n P fn tmps R df u w
 | [], w, _, _, k => k w ⟨rfl, rfl, rfl, rfl, fun _ _ => rfl⟩
 | d :: df, w, hn, hd, k => by
  obtain ⟨D, rfl, h2, h3, h4⟩ := hd d (by simp)
  obtain ⟨hn1, hn2⟩ := List.nodup_cons.1 hn
  refine ⟨hu, .inl ⟨D, w.putObj D (.deferred none), rfl, run_takeDeferred h3, ?_⟩⟩
  refine leave hu (db := db) (K := K) n df _ hn2 (fun e he => ?_) fun w' hs => k w' ⟨by rw [hs.size, World.putObj_size], hs.os, hs.tape, hs.output, fun b hb => ?_⟩
  ·obtain ⟨E, rfl, e2, e3, e4⟩ := hd e (by simp [he])
   exact ⟨E, rfl, e2, by rw [World.putObj_heap_other (fun e => hn1 (by rw [← e]; exact he))]; exact e3, e4⟩
  ·have hbD : b ≠ D := by
    rintro rfl
    rcases hb with hb | hb | hb
    ·omega
    ·exact h4 hb
    ·exact hb _ h3 _ rfl
   rw [hs.same b, World.putObj_heap_other hbD]
   rw [World.putObj_heap_other hbD]; exact hb
theorem shut_good {db : Nat} {g : G} {w' : World} (hg : Good g) (h : Shut db g.K g.w w') : Good ⟨g.M, g.β, g.K, w'⟩ ∧ ∀ t c, VT g t c → VT ⟨g.M, g.β, g.K, w'⟩ t c := by
 have h1 : ∀ b, g.K b → g.K b ∧ w'.heap[b]? = g.w.heap[b]? := fun b hb => ⟨hb, h.same b (.inr (.inl hb))⟩
 have h2 : ∀ n, g.M n ≠ none → g.M n ≠ none ∧ g.β n = g.β n := fun n hn => ⟨hn, rfl⟩
 refine ⟨⟨fun n r hn => (hg.rows n r hn).turn (g' := ⟨g.M, g.β, g.K, w'⟩) h1 h2 rfl (fun h0 => h.same _ (.inr (.inr fun o ho x e => ?_))), hg.inj, fun b hb => by show b < w'.heap.size; rw [h.size]; exact hg.kd b hb, hg.kl⟩, fun t c ht => ht.turn (g' := ⟨g.M, g.β, g.K, w'⟩) h1 h2⟩
 subst e
 exact nl_def hg ho n r hn h0 rfl
theorem arg_slots {g : G} {vs : List Value} {args : List T} {N : Nat} (hv : VTs g args vs) (hl : Nat.ble args.length N = true) (n : Nat) (hn : n = N) :
  (vs.toArray ++ Array.replicate (n - vs.toArray.size) undef).size = N ∧ ∀ i, VT g (getS (argS 0 args) i) ((vs.toArray ++ Array.replicate (n - vs.toArray.size) undef).getD i undef) := by
 have hle := Nat.le_of_ble_eq_true hl
 have hlen := hv.1
 refine ⟨by simp; omega, fun i => ?_⟩
 rw [argS_get, if_pos (Nat.zero_le i), Nat.sub_zero]
 by_cases hi : i < args.length
 ·have h1 : args[i]? = some args[i] := List.getElem?_eq_getElem hi
  have h2 : vs[i]? = some (vs[i]'(by omega)) := List.getElem?_eq_getElem _
  rw [List.getD_eq_getElem?_getD, h1, Option.getD_some, Array.getD_eq_getD_getElem?, Array.getElem?_append_left (by simp; omega), List.getElem?_toArray, h2, Option.getD_some]
  exact hv.2 i _ _ h1 h2
 ·rw [List.getD_eq_getElem?_getD, List.getElem?_eq_none (by omega)]
  exact .bot _
theorem roundIn_wide {P : Program} {l : Nat} {f : FuncId} {tmps : Array Value} {assign body : Code} {w : World} {R : Ending → World → Prop} (r : Option Nat) (n : Nat) (h : RoundIn Fence.wide 0 P l f tmps assign body w R) : RoundIn { Fence.wide with round := r } n P l f tmps assign body w R :=
 ⟨trivial, fun c cs _ => h.2 c cs (fun _ h => by cases h)⟩
theorem Step1.soundL {P : Program} {N : Nat} {ops : Array Oper} {R : Exit → Act → World → Prop} {F : Fence} {nn : Nat} {o : Oper} {l : List Oper} {st st1 : St} {s : Stp} (hF : Wd F) (h : Step1 P N ops o st s st1) {g : G} {a : Act} {df : List Deferred} (hR : StR g N st a df)
  (k : ∀ g' a', Le g g' → StR g' N st1 a' df → wpListIn F nn P ops R l a' g'.w) : wpListIn F nn P ops R (o :: l) a g.w := by
 unfold wpListIn
 cases h with
 | run hw hop hi hr hwn hd =>
  rename_i ins rn wn new v
  rw [yielded_of hw fun d _ => hR.ts d]
  simp only [if_true]
  refine hop F nn hF g a hR.good (fun p hp => (hi p hp).1 ▸ tsR_op hR.ts p.1) (fun p hp => by rw [hR.M]; exact hr p hp) (fun k hk => by rw [hR.M]; exact List.getElem?_eq_none (by omega)) _ _ fun g' c h1 h2 h3 h4 => ?_
  refine k g' _ h2 ⟨h1, ?_, by rw [put_size]; exact hR.size, fun j => ?_, by rw [put_defers]; exact hR.df⟩
  ·rw [h3, hR.M, ofL_eff]
   intro p hp
   obtain ⟨q, hq, he⟩ := hwn p hp
   have := hr q hq
   rw [← he]
   exact (List.getElem?_eq_some_iff.1 this).1
  ·rw [put_getD hR.size hd]
   simp only [St.eff, putS_get]
   split
   ·exact h4
   ·exact (hR.ts j).mono hR.good h2
 | skip hw hd =>
  rw [yielded_of hw fun d _ => hR.ts d]
  simp only [Bool.false_eq_true, if_false]
  refine ⟨fun f _ => hF.fn f, k g _ (.refl g) ⟨hR.good, ?_, by rw [put_size]; exact hR.size, fun j => ?_, by rw [put_defers]; exact hR.df⟩⟩
  ·rw [hR.M]; simp [St.eff, setL]
  ·rw [put_getD hR.size hd]
   simp only [St.eff, putS_get]
   split
   ·exact .d (.tup [] #[] rfl fun i d c h => by simp at h)
   ·exact hR.ts j
end Go.Proofs.Ytdefnmcjmklohaa.Sh
namespace Go.Proofs.Ytdefnmcjmklohaa.Sh
open Go
structure JX where
 l : Nat
 ps : Array Tmp
 asg : Code
 body : Code
 N : Nat
 ts : List (Nat × T)
 n1 : Nat
structure JR where
 fn : FuncId
 tmps : Array Value
 D : Nat
def JX.lp (X : JX) (r : JR) (st : LoopState) (pe : Option Code) : Loop := { state := st, pending := pe, fn := r.fn, tmps := r.tmps, params := X.ps, assign := X.asg, body := X.body, defers := r.D }
def pendS : SX → LoopState
 | .norm => .ready
 | .pan _ => .busy
 | _ => .done
def pendC : SX → Option Code
 | .ret => some .ret
 | .exit i => some (.exit i)
 | _ => none
structure JOk (X : JX) (r : JR) (ph : SX) (g : G) : Prop where
 lrec : g.w.heap[X.l]? = some (.loop (X.lp r (pendS ph) (pendC ph)))
 mark : g.w.heap[r.D]? = some (.deferred (some []))
 kl : ¬ g.K X.l
 kD : ¬ g.K r.D
 sz : r.tmps.size = X.N
 ts : ∀ i, VT g (getS X.ts i) (r.tmps.getD i undef)
 sc : ∀ i, (getS X.ts i).sc X.n1 = true
theorem old_at {g g' : G} {n0 b : Nat} (h : LeN n0 g g') (hb : b < g.w.heap.size) (hn : NL g b) (hk : ¬ g.K b) : g'.w.heap[b]? = g.w.heap[b]? ∧ ¬ g'.K b :=
 ⟨h.fr b hb hn, fun hk' => by rcases h.k' b hb hk' with h1 | h1; exact hk h1; exact h1 hn⟩
theorem VT.monoN {g g' : G} (hg : Good g) {n0 : Nat} (h : LeN n0 g g') {t : T} {c : Value} (hv : VT g t c) (hs : t.sc n0 = true) : VT g' t c :=
 hv.turnN (fun b hb => ⟨h.k b hb, h.fr b (hg.kd b hb) (hg.kl b hb)⟩) h.e hs
theorem JOk.step {X : JX} {r : JR} {ph : SX} {g g' : G} (h : JOk X r ph g) (hg : Good g) (hl : LeN X.n1 g g') : JOk X r ph g' := by
 obtain ⟨h1, h2⟩ := old_at hl (Array.getElem?_eq_some_iff.1 h.lrec).1 (nl_loop hg h.lrec) h.kl
 obtain ⟨h3, h4⟩ := old_at hl (Array.getElem?_eq_some_iff.1 h.mark).1 (nl_def hg h.mark) h.kD
 exact ⟨h1.trans h.lrec, h3.trans h.mark, h2, h4, h.sz, fun i => (h.ts i).monoN hg hl (h.sc i), h.sc⟩
def PostJ (X : JX) (r : JR) (g : G) (N : Nat) (Q : SX → SX → St → Prop) : Exit → Act → World → Prop := fun ex a' w' =>
 ∃ g' ph sx st, g'.w = w' ∧ LeL X.l X.n1 g g' ∧ StR g' N st a' [] ∧ JOk X r ph g' ∧ XR g' sx ex ∧ Q ph sx st
theorem PostJ.trans {X : JX} {r : JR} {g g1 : G} {N : Nat} {Q : SX → SX → St → Prop} (hl : LeL X.l X.n1 g g1) {ex : Exit} {a : Act} {w : World} (h : PostJ X r g1 N Q ex a w) : PostJ X r g N Q ex a w := by
 obtain ⟨g', ph, sx, st, h1, h2, h3⟩ := h
 exact ⟨g', ph, sx, st, h1, hl.trans h2, h3⟩
def SWJ (P : Program) (X : JX) (N : Nat) (c : Code) (Q : SX → SX → St → Prop) (ph : SX) (st : St) : Prop :=
 ∀ (F : Fence) (nn : Nat), Wd F → ∀ (r : JR) (g : G) (a : Act), JOk X r ph g → StR g N st a [] → c.wpIn F nn P (PostJ X r g N Q) a g.w
section
variable {P : Program} {X : JX} {N : Nat} {Q : SX → SX → St → Prop} {ph : SX} {st : St}
theorem swj_of {c : Code} (h : SW P X.n1 N [] c (Q ph) st) : SWJ P X N c Q ph st := fun F nn hF r g a hj hR =>
 wpIn_mono (h F nn hF g a hR) fun ex a' w' ⟨g', sx, st', h1, h2, h3, h4, h5⟩ => ⟨g', ph, sx, st', h1, h2.toL _, h3, hj.step hR.good h2, h4, h5⟩
def thenJ (K : SX → St → Prop) (Q : SX → SX → St → Prop) : SX → SX → St → Prop := fun ph => thenQ (K ph) (Q ph)
def blockJ (id : Nat) (Q : SX → SX → St → Prop) : SX → SX → St → Prop := fun ph => blockQ id (Q ph)
theorem thenj_norm {K : SX → St → Prop} (h : K ph st) : thenJ K Q ph .norm st := h
theorem thenj_exit {K : SX → St → Prop} {i : Nat} (h : Q ph (.exit i) st) : thenJ K Q ph (.exit i) st := h
theorem blockj_norm {i : Nat} (h : Q ph .norm st) : blockJ i Q ph .norm st := h
theorem blockj_exit {i : Nat} (h : Q ph .norm st) : blockJ i Q ph (.exit i) st := block_exit (Q := Q ph) h
theorem swj_skip (h : Q ph .norm st) : SWJ P X N .skip Q ph st := swj_of (sw_skip h)
theorem swj_exit {i : Nat} (h : Q ph (.exit i) st) : SWJ P X N (.exit i) Q ph st := swj_of (sw_exit h)
theorem swj_seq {x y : Code} (h : SWJ P X N x (thenJ (SWJ P X N y Q) Q) ph st) : SWJ P X N (.seq x y) Q ph st := fun F nn hF r g a hj hR => by
 refine wpIn_seq (wpIn_mono (h F nn hF r g a hj hR) ?_)
 rintro ex a' w' ⟨g', ph', sx, st', rfl, h2, k2, k1, k4, k5⟩
 cases sx with
 | norm =>
  cases ex <;> first | exact k4.elim | skip
  exact wpIn_mono (k5 F nn hF r g' a' k1 k2) fun _ _ _ hq => hq.trans h2
 | ret => cases ex <;> first | exact k4.elim | exact ⟨g', ph', _, st', rfl, h2, k2, k1, k4, k5⟩
 | exit i => cases ex <;> first | exact k4.elim | exact ⟨g', ph', _, st', rfl, h2, k2, k1, k4, k5⟩
 | pan t => cases ex <;> first | exact k4.elim | exact ⟨g', ph', _, st', rfl, h2, k2, k1, k4, k5⟩
theorem swj_block {id : Nat} {c : Code} (h : SWJ P X N c (blockJ id Q) ph st) : SWJ P X N (.block id c) Q ph st := fun F nn hF r g a hj hR => by
 refine wpIn_block (wpIn_mono (h F nn hF r g a hj hR) ?_)
 rintro ex a' w' ⟨g', ph', sx, st', rfl, h2, k2, k1, k4, k5⟩
 cases sx with
 | norm => cases ex <;> first | exact k4.elim | exact ⟨g', ph', .norm, st', rfl, h2, k2, k1, trivial, k5⟩
 | ret => cases ex <;> first | exact k4.elim | exact ⟨g', ph', .ret, st', rfl, h2, k2, k1, trivial, k5⟩
 | exit i =>
  cases ex <;> first | exact k4.elim | skip
  rename_i j
  have h4' : i = j := k4
  subst h4'
  simp only [blockJ, blockQ] at k5
  by_cases hi : i = id
  ·rw [if_pos hi] at k5
   simp only [Exit.inBlock, hi, if_true]
   exact ⟨g', ph', .norm, st', rfl, h2, k2, k1, trivial, k5⟩
  ·rw [if_neg hi] at k5
   simp only [Exit.inBlock, hi, if_false]
   exact ⟨g', ph', .exit i, st', rfl, h2, k2, k1, rfl, k5⟩
 | pan t => cases ex <;> first | exact k4.elim | exact ⟨g', ph', .pan t, st', rfl, h2, k2, k1, k4, k5⟩
theorem swj_cond {c : Operand} {x y : Code} {b : Bool} (hc : opT st.ts c = .d (.v (.bool b))) (ht : b = true → SWJ P X N x Q ph st) (hf : b = false → SWJ P X N y Q ph st) : SWJ P X N (.cond c x y) Q ph st := fun F nn hF r g a hj hR => by
 have h1 := tsR_op hR.ts c
 rw [hc] at h1
 exact wpIn_cond_split h1.v_eq (fun h => ht h F nn hF r g a hj hR) (fun h => hf h F nn hF r g a hj hR)
theorem swj_condT {c : Operand} {x y : Code} (hc : opT st.ts c = .d (.v (.bool true))) (h : SWJ P X N x Q ph st) : SWJ P X N (.cond c x y) Q ph st := swj_cond hc (fun _ => h) (fun h => by cases h)
theorem swj_condF {c : Operand} {x y : Code} (hc : opT st.ts c = .d (.v (.bool false))) (h : SWJ P X N y Q ph st) : SWJ P X N (.cond c x y) Q ph st := swj_cond hc (fun h => by cases h) (fun _ => h)
def RgJ (P : Program) (X : JX) (N : Nat) (ops : Array Oper) (Q : SX → SX → St → Prop) (l : List Oper) (ph : SX) (st : St) : Prop :=
 ∀ (F : Fence) (nn : Nat), Wd F → ∀ (r : JR) (g : G) (a : Act) (R : Exit → Act → World → Prop), JOk X r ph g → StR g N st a [] → (∀ ex a' w', PostJ X r g N Q ex a' w' → R ex a' w') → wpListIn F nn P ops R l a g.w
theorem swj_rg {id : Nat} {l : List Oper} (h : RgJ P X N l.toArray Q l ph st) : SWJ P X N (.region id l.toArray false) Q ph st := fun F nn hF r g a hj hR =>
 wpIn_region_lit (h F nn hF r g a _ hj hR fun _ _ _ h => h)
theorem rgj_nil {ops : Array Oper} (h : Q ph .norm st) : RgJ P X N ops Q [] ph st := fun _ _ _ _ g _ _ hj hR k =>
 k _ _ _ ⟨g, ph, .norm, st, rfl, .refl _ _ g, hR, hj, trivial, h⟩
def endJ (P : Program) (X : JX) (N : Nat) (ops : Array Oper) (Q : SX → SX → St → Prop) (ph : SX) : List Oper → List Stp → St → Prop := fun l2 _ st' => RgJ P X N ops Q l2 ph st'
theorem ev_endJ {ops : Array Oper} {tr : List Stp} (h : Q ph .norm st) : EvK P N ops [] st tr (endJ P X N ops Q ph) := ev_stop (rgj_nil h)
theorem ev_yieldJ {ops : Array Oper} {tr : List Stp} {l : List Oper} (h : RgJ P X N ops Q l ph st) : EvK P N ops l st tr (endJ P X N ops Q ph) := ev_stop h
theorem rgj_ev {ops : Array Oper} {l : List Oper} (h : EvK P N ops l st [] (endJ P X N ops Q ph)) : RgJ P X N ops Q l ph st := by
 obtain ⟨l1, l2, tr, st', rfl, h1, h2⟩ := h
 intro F nn hF r g a R hj hR k
 have key : ∀ (l : List Oper) (st : St) (tr : List Stp) (st2 : St), Ev P N ops l st tr st2 → RgJ P X N ops Q l2 ph st2 → ∀ (g1 : G) (a : Act), Le g g1 → StR g1 N st a [] → wpListIn F nn P ops R (l ++ l2) a g1.w := by
  intro l st tr st2 h
  induction h with
  | nil st =>
   intro h2 g1 a hl hR1
   exact h2 F nn hF r g1 a R (hj.step hR.good (hl.toN _)) hR1 fun _ _ _ hq => k _ _ _ (hq.trans ((hl.toN _).toL _))
  | cons hs _ ih =>
   intro h2 g1 a hl hR1
   exact hs.soundL hF hR1 fun g' a' h3 h4 => ih h2 g' a' (hl.trans h3) h4
 exact key l1 st tr st' h1 h2 g a (.refl g) hR
def parS : List Tmp → List D → List (Nat × T) → List (Nat × T)
 | p :: ps, y :: ys, ts => parS ps ys ((p, .d y) :: ts)
 | _, _, ts => ts
theorem par_ok {g : G} {N : Nat} : ∀ (ps : List Tmp) (ys : List D) (vs : List Value) (ts : List (Nat × T)) (tm : Array Value), tm.size = N → (∀ p ∈ ps, Nat.blt p N = true) → ps.length = ys.length → VTs g (ys.map .d) vs → (∀ i, VT g (getS ts i) (tm.getD i undef)) →
  ((ps.zip vs).foldl (fun t (p, v) => t.setIfInBounds p v) tm).size = N ∧ ∀ i, VT g (getS (parS ps ys ts) i) (((ps.zip vs).foldl (fun t (p, v) => t.setIfInBounds p v) tm).getD i undef)
 | [], ys, vs, ts, tm, hs, _, _, _, h => ⟨hs, h⟩
 | p :: ps, y :: ys, [], ts, tm, _, _, _, hv, _ => by have := hv.1; simp at this
 | p :: ps, [], vs, ts, tm, _, _, hl, _, _ => by simp at hl
 | p :: ps, y :: ys, v :: vs, ts, tm, hs, hp, hl, hv, h => by
  refine par_ok ps ys vs ((p, .d y) :: ts) (tm.setIfInBounds p v) (by simpa using hs) (fun q hq => hp q (by simp [hq])) (by simpa using hl) ⟨by have := hv.1; simp at this ⊢; exact this, fun i t c h1 h2 => hv.2 (i + 1) t c (by simpa using h1) (by simpa using h2)⟩ fun i => ?_
  have e := putS_get (ts := ts) (dst := some p) (v := .d y) i
  simp only [putS] at e
  rw [e]
  have hlt : p < tm.size := by rw [hs]; simpa [Nat.blt_eq] using hp p (by simp)
  by_cases hpi : p = i
  ·subst hpi
   rw [if_pos rfl]
   simpa [Array.getD, hlt] using hv.2 0 (.d y) v rfl rfl
  ·rw [if_neg (by simpa using hpi)]
   simp only [Array.getD_eq_getD_getElem?, Array.getElem?_setIfInBounds_ne hpi]
   simpa [Array.getD_eq_getD_getElem?] using h i
def asgQ (K : St → Prop) : SX → St → Prop := fun sx st => sx = .norm ∧ K st
def rdJ (n1 : Nat) (K : SX → List (Option Rw) → Prop) : SX → St → Prop
 | .pan _, _ => False
 | sx, st => ∃ L κ, Vw n1 st ⟨[], L⟩ κ ∧ K sx L
def rdP (n1 : Nat) (K : SX → List (Option Rw) → Prop) : SX → St → Prop
 | .pan t, st => ∃ L κ, Vw n1 st ⟨[], L⟩ κ ∧ t.sc 0 = true ∧ K (.pan t) L
 | sx, st => ∃ L κ, Vw n1 st ⟨[], L⟩ κ ∧ K sx L
def isN : SX → Bool
 | .norm => true
 | _ => false
end
end Go.Proofs.Ytdefnmcjmklohaa.Sh
namespace Go.Proofs.Ytdefnmcjmklohaa.Sh
open Go
def noCall : List Item → Prop
 | .call _ _ _ _ :: _ => False
 | _ => True
def ArrR (I : Machine → Prop) (P : Program) (m : Machine) (b : Frame) (k : List Item) (cs : List Frame) : Exit → Act → World → Prop
 | .panic ch, a, w => ∃ todo, noCall todo ∧ StepsIn I P m (lone { b.atR a todo with mode := .panicking ch } cs w)
 | e, a, w => ArrivesIn I P m b k cs e a w
def wpR (F : Fence) (n : Nat) (P : Program) (c : Code) (Q : Exit → Act → World → Prop) (a : Act) (w : World) : Prop :=
 ∀ (b : Frame) (k : List Item) (cs : List Frame), b.roundOf = F.round → F.fn b.fn → F.room (cs.length + 1 + n) →
  ∃ e a' w', Q e a' w' ∧ ArrR (Machine.fenced P F) P (lone (b.atR a (.code c :: k)) cs w) b k cs e a' w'
section
variable {F : Fence} {n : Nat} {P : Program} {Q : Exit → Act → World → Prop} {a : Act} {w : World}
theorem ArrR.of {I : Machine → Prop} {m : Machine} {b : Frame} {k : List Item} {cs : List Frame} {e : Exit} (h : ArrivesIn I P m b k cs e a w) (he : ∀ ch, e ≠ .panic ch) : ArrR I P m b k cs e a w := by
 cases e <;> first | exact h | exact (he _ rfl).elim
theorem ArrR.to {I : Machine → Prop} {m : Machine} {b : Frame} {k : List Item} {cs : List Frame} {e : Exit} (h : ArrR I P m b k cs e a w) (he : ∀ ch, e ≠ .panic ch) : ArrivesIn I P m b k cs e a w := by
 cases e <;> first | exact h | exact (he _ rfl).elim
theorem wpR_of {c : Code} (h : c.wpIn F n P Q a w) (hq : ∀ ch a w, ¬ Q (.panic ch) a w) : wpR F n P c Q a w := fun b k cs h1 h2 h3 =>
 let ⟨e, a', w', q, r⟩ := h b k cs h1 h2 h3
 ⟨e, a', w', q, .of r fun ch h => hq ch a' w' (h ▸ q)⟩
theorem wpR_mono {c : Code} {Q' : Exit → Act → World → Prop} (h : wpR F n P c Q a w) (hq : ∀ e a w, Q e a w → Q' e a w) : wpR F n P c Q' a w := fun b k cs h1 h2 h3 =>
 let ⟨e, a', w', q, r⟩ := h b k cs h1 h2 h3
 ⟨e, a', w', hq _ _ _ q, r⟩
theorem ArrR.steps {I : Machine → Prop} {m m1 : Machine} {b : Frame} {k : List Item} {cs : List Frame} {e : Exit} (h : StepsIn I P m m1) (h' : ArrR I P m1 b k cs e a w) : ArrR I P m b k cs e a w := by
 cases e with
 | panic ch => obtain ⟨todo, t, r⟩ := h'; exact ⟨todo, t, h.trans r⟩
 | _ => exact ArrR.of (ArrivesIn.of_steps h (ArrR.to h' (fun ch e => by cases e))) (fun ch e => by cases e)
section
variable {ops : Array Oper} {Q : List PanicEntry → Act → World → Prop}
end
theorem step_round_panicked {fr c : Frame} {cs : List Frame} {chain : List PanicEntry} (hm : fr.mode = .panicking chain) (hd : fr.defers = []) (ht : noCall fr.todo) :
 step P (lone fr (c :: cs) w) = .next (lone (c.raise chain) cs w) := by
 refine step_lone_go ?_
 have hc : fr.catches P = false := by
  unfold Frame.catches
  split
  ·rename_i h; rw [h] at ht; exact ht.elim
  ·rfl
 simp [stepG, unwind, hm, hd, hc]
def rdEnd (P : Program) (l : Nat) (R : Ending → World → Prop) : Exit → Act → World → Prop
 | .normal, a, w => a.defers = [] ∧ ∃ v w', (Instr.endRound l none).run P w = .ok v w' ∧ R (.returned v) w'
 | .ret, a, w => a.defers = [] ∧ ∃ v w', (Instr.endRound l (some .ret)).run P w = .ok v w' ∧ R (.returned v) w'
 | .exit i, a, w => a.defers = [] ∧ ∃ v w', (Instr.endRound l (some (.exit i))).run P w = .ok v w' ∧ R (.returned v) w'
 | .panic ch, a, w => a.defers = [] ∧ R (.panicked ch) w
 | _, _, _ => False
theorem roundIn_R {l : Nat} {f : FuncId} {tmps : Array Value} {assign body : Code} {R : Ending → World → Prop} (hF : F.fn f)
  (h : assign.wpIn (F.inRound l) n P (Exit.then (fun a1 w1 => ∃ w2, (Instr.beginRound l).run P w1 = .ok () w2 ∧ wpR (F.inRound l) n P body (rdEnd P l R) a1 w2) (fun _ _ _ => False)) { tmps := tmps, defers := [] } w) : RoundIn F n P l f tmps assign body w R := by
 refine ⟨hF, fun c cs hr => ?_⟩
 let b : Frame := { (default : Frame) with fn := f, kind := .normal, roundOf := some l }
 have hb0 : Frame.round l f tmps assign body .normal = b.atR { tmps := tmps, defers := [] } [.code assign, .beginRound, .code body] := by simp [Frame.round, Frame.atR, b]
 have hF' : (F.inRound l).fn b.fn := hF
 obtain ⟨e, a1, w1, hq, harr⟩ := h b [.beginRound, .code body] (c :: cs) rfl hF' hr
 rw [← hb0] at harr
 cases e with
 | normal =>
  obtain ⟨w2, hbr, hbody⟩ := hq
  have s1 := StepsIn.trans harr (.one (fenced_calm (fr := b.atR a1 [.beginRound, .code body]) hF' hr rfl) (stepR_beginRound rfl hbr))
  obtain ⟨e2, a2, w3, hq2, harr2⟩ := hbody b [] (c :: cs) rfl hF' hr
  cases e2 with
  | normal =>
   obtain ⟨_, v, w4, hend, hR⟩ := hq2
   exact ⟨.returned v, w4, hR, s1.trans (StepsIn.trans harr2 (.one (fenced_calm (fr := b.atR a2 []) hF' hr rfl) (stepR_round_end rfl rfl hend)))⟩
  | ret =>
   obtain ⟨_, v, w4, hend, hR⟩ := hq2
   obtain ⟨k1, hs⟩ := harr2.2 rfl
   exact ⟨.returned v, w4, hR, s1.trans (StepsIn.trans hs (.one (fenced_calm (fr := b.atR a2 (.code .ret :: k1)) hF' hr rfl) (stepR_round_ret rfl rfl hend)))⟩
  | exit id =>
   obtain ⟨_, v, w4, hend, hR⟩ := hq2
   obtain ⟨k1, hk, hs⟩ := harr2.2 rfl rfl
   exact ⟨.returned v, w4, hR, s1.trans (StepsIn.trans hs (.one (fenced_calm (fr := b.atR a2 (.code (.exit id) :: k1)) hF' hr rfl) (stepR_round_exit rfl rfl hk hend)))⟩
  | panic ch =>
   obtain ⟨hd, hR⟩ := hq2
   obtain ⟨todo, ht, hs⟩ := harr2
   refine ⟨.panicked ch, w3, hR, s1.trans (StepsIn.trans hs (.one ?_ (step_round_panicked rfl hd ht)))⟩
   refine fenced_calm (F := F.inRound l) hF' hr ?_
   simp [Frame.about, Frame.atR, hd]
  | goto t => exact hq2.elim
  | outgrown => exact hq2.elim
 | _ => exact hq.elim
end
def SWY (P : Program) (n0 N : Nat) (c : Code) (Q : SX → St → Prop) (st : St) : Prop :=
 ∀ (F : Fence) (nn : Nat), Wd F → ∀ (g : G) (a : Act), StR g N st a [] → wpR F nn P c (fun ex a' w' => ∃ g' sx st', g'.w = w' ∧ LeN n0 g g' ∧ StR g' N st' a' [] ∧ XR g' sx ex ∧ Q sx st') a g.w
section
variable {P : Program} {n0 N : Nat} {Q : SX → St → Prop} {st : St}
theorem SWY.mono {c : Code} {Q' : SX → St → Prop} (h : SWY P n0 N c Q st) (k : ∀ sx st, Q sx st → Q' sx st) : SWY P n0 N c Q' st := fun F nn hF g a hR =>
 wpR_mono (h F nn hF g a hR) fun _ _ _ ⟨g', sx, st', h1, h2, h3, h4, h5⟩ => ⟨g', sx, st', h1, h2, h3, h4, k _ _ h5⟩
theorem swy_of {c : Code} (h : SW P n0 N [] c Q st) (hq : ∀ t st, ¬ Q (.pan t) st) : SWY P n0 N c Q st := fun F nn hF g a hR =>
 wpR_of (h F nn hF g a hR) fun ch a w ⟨g', sx, st', h1, h2, h3, h4, h5⟩ => by cases sx <;> first | exact h4.elim | exact hq _ _ h5
theorem swy_rd {c : Code} {n1 : Nat} {K : SX → List (Option Rw) → Prop} (h : SW P n0 N [] c (rdJ n1 K) st) : SWY P n0 N c (rdP n1 K) st :=
 (swy_of h fun t st h => h).mono fun sx st h => by cases sx <;> first | exact h | exact h.elim
end
end Go.Proofs.Ytdefnmcjmklohaa.Sh
namespace Go.Proofs.Ytdefnmcjmklohaa.Sh
open Go
theorem VT.turnL {l n0 : Nat} {g g' : G} (hg : Good g) (h : LeL l n0 g g') (hk : ¬ g.K l) {t : T} {c : Value} (hv : VT g t c) (hs : t.sc n0 = true) : VT g' t c :=
 hv.turnN (fun b hb => ⟨h.k b hb, h.fr b (hg.kd b hb) (hg.kl b hb) fun e => hk (e ▸ hb)⟩) h.e hs
section
variable {P : Program} {X : JX} {N : Nat} {Q : SX → SX → St → Prop}
def yieldK (P : Program) (X : JX) (N : Nat) (ops : Array Oper) (Q : SX → SX → St → Prop) (l : List Oper) (d : Nat) (ts : List (Nat × T)) : SX → List (Option Rw) → Prop
 | .pan t, L' => Q (.pan t) (.pan t) ⟨ts, L'⟩
 | ph, L' => RgJ P X N ops Q l ph ⟨(d, .d (.v (.bool (isN ph)))) :: ts, L'⟩
theorem yk_norm {P : Program} {X : JX} {N : Nat} {ops : Array Oper} {Q : SX → SX → St → Prop} {l : List Oper} {d : Nat} {ts : List (Nat × T)} {L' : List (Option Rw)} (h : RgJ P X N ops Q l .norm ⟨(d, .d (.v (.bool true))) :: ts, L'⟩) : yieldK P X N ops Q l d ts .norm L' := h
theorem rgj_yield {ops : Array Oper} {l : List Oper} {d : Nat} {ty : TypeId} {pos : String} {af : Array Edge} {gd : Option (Nat × Bool)} {x : Operand} {xs : Array Operand} {tys : Array TypeId} {ys : List D} {ts : List (Nat × T)} {L : List (Option Rw)}
  (hf : opT ts x = .d (.v (.func (.yield X.l) #[] #[]))) (hx : xs.toList.map (opT ts) = ys.map .d) (hps : X.ps.toList.length = ys.length) (hpN : X.ps.toList.all (Nat.blt · X.N) = true) (hn1 : Nat.ble X.n1 L.length = true)
  (hw : wantT ops ts ⟨some d, .call { callee := .value x, args := xs, argTypes := tys }, ty, pos, af, gd⟩ = some true) (hd : Nat.blt d N = true)
  (h : SW P L.length X.N [] X.asg (asgQ fun st1 => SWY P L.length X.N X.body (rdP L.length (yieldK P X N ops Q l d ts)) st1) ⟨parS X.ps.toList ys X.ts, L⟩) :
  RgJ P X N ops Q (⟨some d, .call { callee := .value x, args := xs, argTypes := tys }, ty, pos, af, gd⟩ :: l) .norm ⟨ts, L⟩ := by
 intro F nn hF r g a R hj hR hk
 have hn1 := Nat.le_of_ble_eq_true hn1
 have hcal := tsR_op hR.ts x
 dsimp only at hcal
 rw [hf] at hcal
 have hcal := hcal.v_eq
 have hvs : VTs g (ys.map .d) (xs.toList.map a.eval) := by
  rw [← hx]
  refine ⟨by simp, fun i t c h1 h2 => ?_⟩
  rw [List.getElem?_map, Option.map_eq_some_iff] at h1 h2
  obtain ⟨y, hy1, rfl⟩ := h1
  obtain ⟨z, hz1, rfl⟩ := h2
  rw [hy1] at hz1; injection hz1 with hz1; subst hz1
  exact tsR_op hR.ts y
 obtain ⟨vs, hvsE⟩ : ∃ vs, xs.toList.map a.eval = vs := ⟨_, rfl⟩
 rw [hvsE] at hvs
 have hvl : vs.length = ys.length := by have := hvs.1; simp at this; exact this.symm
 have h5 : g.w.heap[X.l]? = some (.loop (X.lp r .ready none)) := hj.lrec
 have hyr := run_yield (P := P) (args := vs.toArray) h5 (by simp [JX.lp] at hps ⊢; omega)
 obtain ⟨p1, p2⟩ := par_ok X.ps.toList ys vs X.ts r.tmps hj.sz (fun p hp => List.all_eq_true.1 hpN p hp) hps hvs hj.ts
 have e0 : (X.ps.zip vs.toArray).foldl (fun t (p, v) => t.setIfInBounds p v) r.tmps = (X.ps.toList.zip vs).foldl (fun t (p, v) => t.setIfInBounds p v) r.tmps := by rw [← Array.foldl_toList]; simp
 have leOf : ∀ {ga gb : G}, ga.M = g.M → LeN L.length ga gb → LeN X.n1 ga gb := fun {ga gb} e h => ⟨fun n hn => h.e n (by omega), h.size, h.os, h.tape, h.output, h.fr, h.k, h.k', h.nl⟩
 have all : ∀ {g' : G} {t : T} {c : Value}, LeL X.l L.length g g' → VT g t c → VT g' t c := fun k3 hv => hv.turn (fun b hb => ⟨k3.k b hb, k3.fr b (hR.good.kd b hb) (hR.good.kl b hb) fun e => hj.kl (e ▸ hb)⟩) fun n hn => k3.e n (by rw [hR.M] at hn; simpa only [ofL, ne_eq, List.getElem?_eq_none_iff, Nat.not_le] using hn) hn
 have hround : RoundIn Fence.wide 0 P X.l r.fn ((X.ps.zip vs.toArray).foldl (fun t (p, v) => t.setIfInBounds p v) r.tmps) X.asg X.body g.w fun e W' =>
   (∃ g' ph' L', g'.w = W' ∧ Good g' ∧ g'.M = ofL L' ∧ LeL X.l L.length g g' ∧ JOk X r ph' g' ∧ e = .returned (.bool (isN ph')) ∧ RgJ P X N ops Q l ph' ⟨(d, .d (.v (.bool (isN ph')))) :: ts, L'⟩) ∨
   ∃ g' t v L', g'.w = W' ∧ Good g' ∧ g'.M = ofL L' ∧ LeL X.l L.length g g' ∧ JOk X r (.pan t) g' ∧ e = .panicked [{ v, recovered := false }] ∧ VT g' t v ∧ Q (.pan t) (.pan t) ⟨ts, L'⟩ := by
  refine roundIn_R trivial (wpIn_mono (h (Fence.wide.inRound X.l) 0 ⟨some X.l, rfl⟩ g _ ⟨hR.good, hR.M, ?_, ?_, rfl⟩) ?_)
  ·show ((X.ps.zip vs.toArray).foldl _ r.tmps).size = X.N
   rw [e0]; exact p1
  ·intro i
   show VT g _ (((X.ps.zip vs.toArray).foldl _ r.tmps).getD i undef)
   rw [e0]; exact p2 i
  rintro ex a1 w1 ⟨g2, sx, st1, rfl, q2, q3, q4, rfl, q5⟩
  cases ex <;> first | exact q4.elim | skip
  have j2 := hj.step hR.good (leOf rfl q2)
  have b1 : g2.w.heap[X.l]? = some (.loop (X.lp r .ready none)) := j2.lrec
  have hlt2 := (Array.getElem?_eq_some_iff.1 b1).1
  have hne : r.D ≠ X.l := fun e => by have := j2.mark; rw [e, b1] at this; cases this
  obtain ⟨c1, c2, c3⟩ := put_good q3.good (nl_loop q3.good b1) j2.kl (.loop { X.lp r .ready none with state := .busy }) L.length
  refine ⟨_, run_beginRound b1 rfl, ?_⟩
  obtain ⟨g3, hg3⟩ : ∃ g3 : G, g3 = ⟨g2.M, g2.β, g2.K, g2.w.putObj X.l (.loop { X.lp r .ready none with state := .busy })⟩ := ⟨_, rfl⟩
  rw [← hg3] at c1 c2
  have hR3 : StR g3 X.N st1 a1 [] := ⟨c1, by rw [hg3]; exact q3.M, q3.size, fun i => by rw [hg3]; exact c3 _ _ (q3.ts i), q3.df⟩
  have d1 : g3.w.heap[X.l]? = some (.loop { X.lp r .ready none with state := .busy }) := by rw [hg3]; exact World.putObj_heap_same hlt2
  have d2 : g3.w.heap[r.D]? = some (.deferred (some [])) := by rw [hg3]; exact (World.putObj_heap_other hne).trans j2.mark
  have hw3 : g3.w = g2.w.putObj X.l (.loop { X.lp r .ready none with state := .busy }) := by rw [hg3]
  have hK3 : g3.K = g2.K := by rw [hg3]
  rw [← hw3]
  refine wpR_mono (q5 (Fence.wide.inRound X.l) 0 ⟨some X.l, rfl⟩ g3 a1 hR3) ?_
  rintro ex a2 w2 ⟨g4, sx, st2, rfl, r2, r3, r4, r5⟩
  obtain ⟨f1, f3⟩ := old_at r2 (Array.getElem?_eq_some_iff.1 d1).1 (nl_loop c1 d1) (by rw [hK3]; exact j2.kl)
  obtain ⟨f2, f4⟩ := old_at r2 (Array.getElem?_eq_some_iff.1 d2).1 (nl_def c1 d2) (by rw [hK3]; exact j2.kD)
  rw [d1] at f1
  rw [d2] at f2
  have fin : ∀ (ph' : SX) (L' : List (Option Rw)) (κ : List Nat), (isN ph' = (pendC ph').isNone) → (pendS ph' = if (pendC ph').isNone then .ready else .done) → Vw L.length st2 ⟨[], L'⟩ κ →
    ∃ g5 : G, (Instr.endRound X.l (pendC ph')).run P g4.w = .ok (.bool (isN ph')) g5.w ∧ g5.M = ofL L' ∧ Good g5 ∧ LeL X.l L.length g g5 ∧ JOk X r ph' g5 := fun ph' L' κ hp1 hp2 hvw => by
   obtain ⟨g5, s1, s2, s3⟩ := hvw.see r3
   obtain ⟨t1, t3⟩ := old_at s2 (Array.getElem?_eq_some_iff.1 f1).1 (nl_loop r3.good f1) f3
   obtain ⟨t2, t4⟩ := old_at s2 (Array.getElem?_eq_some_iff.1 f2).1 (nl_def r3.good f2) f4
   rw [f1] at t1
   rw [f2] at t2
   obtain ⟨u1, u2, _⟩ := put_good s3.good (nl_loop s3.good t1) t3 (.loop (X.lp r (pendS ph') (pendC ph'))) L.length
   have hr := run_endRound (P := P) (pendC ph') t1
   have hL : LeL X.l L.length g ⟨g5.M, g5.β, g5.K, g5.w.putObj X.l (.loop (X.lp r (pendS ph') (pendC ph')))⟩ := (((q2.toL _).trans c2).trans (r2.toL _)).trans ((s2.toL _).trans u2)
   refine ⟨⟨g5.M, g5.β, g5.K, g5.w.putObj X.l (.loop (X.lp r (pendS ph') (pendC ph')))⟩, ?_, s3.M, u1, hL, ⟨World.putObj_heap_same (Array.getElem?_eq_some_iff.1 t1).1, (World.putObj_heap_other hne).trans t2, t3, t4, hj.sz, fun i => (hj.ts i).turnL hR.good (hL.less hn1) hj.kl (hj.sc i), hj.sc⟩⟩
   rw [← s1, hr, hp1, hp2]
   rfl
  cases sx with
  | norm =>
   cases ex <;> first | exact r4.elim | skip
   obtain ⟨L', κ, hvw, hI⟩ := r5
   obtain ⟨g5, z1, z2, z3, z4, z5⟩ := fin .norm L' κ rfl rfl hvw
   exact ⟨r3.df, _, _, z1, .inl ⟨g5, .norm, L', rfl, z3, z2, z4, z5, rfl, hI⟩⟩
  | ret =>
   cases ex <;> first | exact r4.elim | skip
   obtain ⟨L', κ, hvw, hI⟩ := r5
   obtain ⟨g5, z1, z2, z3, z4, z5⟩ := fin .ret L' κ rfl rfl hvw
   exact ⟨r3.df, _, _, z1, .inl ⟨g5, .ret, L', rfl, z3, z2, z4, z5, rfl, hI⟩⟩
  | exit i =>
   cases ex <;> first | exact r4.elim | skip
   obtain ⟨L', κ, hvw, hI⟩ := r5
   have r4' : i = _ := r4
   subst r4'
   obtain ⟨g5, z1, z2, z3, z4, z5⟩ := fin (.exit i) L' κ rfl rfl hvw
   exact ⟨r3.df, _, _, z1, .inl ⟨g5, .exit i, L', rfl, z3, z2, z4, z5, rfl, hI⟩⟩
  | pan t =>
   cases ex <;> first | exact r4.elim | skip
   obtain ⟨v, rfl, hv'⟩ := r4
   obtain ⟨L', κ, hvw, hsc, hI⟩ := r5
   obtain ⟨g5, s1, s2, s3⟩ := hvw.see r3
   obtain ⟨t1, t3⟩ := old_at s2 (Array.getElem?_eq_some_iff.1 f1).1 (nl_loop r3.good f1) f3
   obtain ⟨t2, t4⟩ := old_at s2 (Array.getElem?_eq_some_iff.1 f2).1 (nl_def r3.good f2) f4
   rw [f1] at t1
   rw [f2] at t2
   have hL : LeL X.l L.length g g5 := ((q2.toL _).trans c2).trans ((r2.toL _).trans (s2.toL _))
   exact ⟨r3.df, .inr ⟨g5, t, v, L', s1, s3.good, s3.M, hL, ⟨t1, t2, t3, t4, hj.sz, fun i => (hj.ts i).turnL hR.good (hL.less hn1) hj.kl (hj.sc i), hj.sc⟩, rfl, hv'.turnN (k := 0) (fun b hb => ⟨s2.k b hb, s2.fr b (r3.good.kd b hb) (r3.good.kl b hb)⟩) (fun n hn => by omega) hsc, hI⟩⟩
 unfold wpListIn
 rw [yielded_of hw fun d _ => hR.ts d]
 simp only [if_true]
 refine ⟨fun f _ => hF.fn f, ?_⟩
 rw [Oper.semAt_eq _ _ _ (fun c h => by cases h)]
 have e : xs.map a.eval = vs.toArray := by rw [← hvsE]; apply Array.ext'; simp
 have hrun' : (execOp a.eval ⟨some d, .call { callee := .value x, args := xs, argTypes := tys }, ty, pos, af, gd⟩).run P g.w = .ok (.round X.l r.fn ((X.ps.zip vs.toArray).foldl (fun t (p, v) => t.setIfInBounds p v) r.tmps) X.asg X.body) g.w := by
  simp [execOp, resolve, hcal, Deferred.ofValue, invoke, e, hyr, JX.lp]
 rw [hrun']
 obtain ⟨rr, rfl⟩ := hF
 refine ⟨(fun h => by cases h), ?_⟩
 refine (roundIn_wide rr (nn - 1) hround).mono ?_
 rintro e w' (⟨g', ph', L', rfl, k1, k2, k3, k4, rfl, k6⟩ | ⟨g', t, v, L', rfl, k1, k2, k3, k4, rfl, k5, k6⟩)
 ·refine k6 { Fence.wide with round := rr } nn ⟨rr, rfl⟩ r g' _ R k4 ⟨k1, k2, by rw [put_size]; exact hR.size, fun i => ?_, by rw [put_defers]; exact hR.df⟩ fun _ _ _ hq => hk _ _ _ (hq.trans (k3.less hn1))
  rw [put_getD hR.size (by exact hd)]
  have e := putS_get (ts := ts) (dst := some d) (v := .d (.v (.bool (isN ph')))) i
  simp only [putS] at e
  rw [e]
  split
  ·exact .d (.v _ rfl)
  ·exact all k3 (hR.ts i)
 ·exact hk _ _ _ ⟨g', .pan t, .pan t, ⟨ts, L'⟩, rfl, k3.less hn1, ⟨k1, k2, hR.size, fun i => all k3 (hR.ts i), hR.df⟩, k4, ⟨v, rfl, k5⟩, k6⟩
end
def SWM (P : Program) (n0 N : Nat) (c : Code) (Q : SX → St → Prop) (st : St) : Prop :=
 ∀ (nn : Nat) (db : Nat) (g : G) (a : Act) (df : List Deferred), StR g N st a df → DfOk db g df → c.wpIn Fence.wide nn P (fun ex a' w' => ∃ g' sx st' df', g'.w = w' ∧ LeN n0 g g' ∧ StR g' N st' a' df' ∧ DfOk db g' df' ∧ XR g' sx ex ∧ Q sx st') a g.w
section
variable {P : Program} {n0 N : Nat} {Q : SX → St → Prop} {st : St}
theorem swm_of {c : Code} (h : ∀ df, SW P n0 N df c Q st) : SWM P n0 N c Q st := fun nn db g a df hR hd =>
 wpIn_mono (h df Fence.wide nn Wd.wide g a hR) fun ex a' w' ⟨g', sx, st', h1, h2, h3, h4, h5⟩ => ⟨g', sx, st', df, h1, h2, h3, hd.stepN hR.good h2, h4, h5⟩
theorem swm_seq {x y : Code} (h : SWM P n0 N x (thenQ (SWM P n0 N y Q) Q) st) : SWM P n0 N (.seq x y) Q st := fun nn db g a df hR hd => by
 refine wpIn_seq (wpIn_mono (h nn db g a df hR hd) ?_)
 rintro ex a' w' ⟨g', sx, st', df', rfl, h2, h3, h3', h4, h5⟩
 cases sx with
 | norm =>
  cases ex <;> first | exact h4.elim | skip
  exact wpIn_mono (h5 nn db g' a' df' h3 h3') fun _ _ _ ⟨g'', sx', st'', df'', k1, k2, k3⟩ => ⟨g'', sx', st'', df'', k1, h2.trans k2, k3⟩
 | ret => cases ex <;> first | exact h4.elim | exact ⟨g', _, st', df', rfl, h2, h3, h3', h4, h5⟩
 | exit i => cases ex <;> first | exact h4.elim | exact ⟨g', _, st', df', rfl, h2, h3, h3', h4, h5⟩
 | pan t => cases ex <;> first | exact h4.elim | exact ⟨g', _, st', df', rfl, h2, h3, h3', h4, h5⟩
theorem swm_block {id : Nat} {c : Code} (h : SWM P n0 N c (blockQ id Q) st) : SWM P n0 N (.block id c) Q st := fun nn db g a df hR hd => by
 refine wpIn_block (wpIn_mono (h nn db g a df hR hd) ?_)
 rintro ex a' w' ⟨g', sx, st', df', rfl, h2, h3, h3', h4, h5⟩
 cases sx with
 | norm => cases ex <;> first | exact h4.elim | exact ⟨g', .norm, st', df', rfl, h2, h3, h3', trivial, h5⟩
 | ret => cases ex <;> first | exact h4.elim | exact ⟨g', .ret, st', df', rfl, h2, h3, h3', trivial, h5⟩
 | exit i =>
  cases ex <;> first | exact h4.elim | skip
  rename_i j
  have h4' : i = j := h4
  subst h4'
  simp only [blockQ] at h5
  by_cases hi : i = id
  ·rw [if_pos hi] at h5
   simp only [Exit.inBlock, hi, if_true]
   exact ⟨g', .norm, st', df', rfl, h2, h3, h3', trivial, h5⟩
  ·rw [if_neg hi] at h5
   simp only [Exit.inBlock, hi, if_false]
   exact ⟨g', .exit i, st', df', rfl, h2, h3, h3', rfl, h5⟩
 | pan t => cases ex <;> first | exact h4.elim | exact ⟨g', .pan t, st', df', rfl, h2, h3, h3', h4, h5⟩
def isPan : SX → Bool
 | .pan _ => true
 | _ => false
def finJ (n1 : Nat) (K : SX → List (Option Rw) → Prop) : SX → SX → St → Prop := fun ph sx st => match sx with
 | .ret | .norm => isPan ph = false ∧ ∃ L κ, Vw n1 st ⟨[], L⟩ κ ∧ K ph L
 | .pan t => ph = .pan t ∧ t.sc 0 = true ∧ ∃ L κ, Vw n1 st ⟨[], L⟩ κ ∧ K (.pan t) L
 | .exit _ => False
def scS (ts : List (Nat × T)) (n : Nat) : Bool := ts.all fun p => p.2.sc n
theorem scS_get {ts : List (Nat × T)} {n : Nat} (h : scS ts n = true) (i : Nat) : (getS ts i).sc n = true := by
 rcases getS_mem (ts := ts) (i := i) with h1 | h1
 ·rw [h1]; rfl
 ·exact List.all_eq_true.1 h _ h1
theorem swm_range {x : Operand} {ps : Array Tmp} {asg body c1 : Code} {f : FuncId} {fn1 : Func} {N1 : Nat} {ca : List T} {ts : List (Nat × T)} {L : List (Option Rw)} (he : Ent P f) (hf : P.funcs[f]? = some fn1) (hb : fn1.body = some c1) (hN : fn1.ntmps = N1) (hres : fn1.results = #[]) (hx : opT ts x = .fn (.func f) [] ca) (hl : Nat.ble (ca.length + 1) N1 = true) (hsc : scS ts L.length = true)
  (h : ∀ lb, SWJ P ⟨lb, ps, asg, body, N, ts, L.length⟩ N1 c1 (finJ L.length fun ph L' => Q ph ⟨ts, L'⟩) .norm ⟨argS 0 (.d (.v (.func (.yield lb) #[] #[])) :: ca), L⟩) : SWM P n0 N (.rangeFunc x ps asg body) Q ⟨ts, L⟩ := by
 intro nn db g a df hR hdf
 have hv := tsR_op hR.ts x
 dsimp only at hv
 rw [hx] at hv
 obtain ⟨cs, ds, hc, hfi, hca⟩ := calT_val hv (.inr rfl)
 have hcs : cs = #[] := by have := hfi.1; simp at this; exact Array.size_eq_zero_iff.1 this.symm
 subst hcs
 refine wpIn_rangeFunc fun fn _ => ?_
 obtain ⟨X, hX⟩ : ∃ X : JX, X = ⟨g.w.heap.size + 1, ps, asg, body, N, ts, L.length⟩ := ⟨_, rfl⟩
 obtain ⟨r, hr⟩ : ∃ r : JR, r = ⟨fn, a.tmps, g.w.heap.size⟩ := ⟨_, rfl⟩
 obtain ⟨W1, hW1⟩ : ∃ W1, (g.w.alloc (.deferred (some []))).alloc (.loop (X.lp r .ready none)) = W1 := ⟨_, rfl⟩
 have hsz : W1.heap.size = g.w.heap.size + 2 := by rw [← hW1]; simp
 have hL1 : W1.heap[g.w.heap.size + 1]? = some (.loop (X.lp r .ready none)) := by
  rw [← hW1]; have := World.alloc_heap_new (g.w.alloc (.deferred (some []))) (.loop (X.lp r .ready none)); rwa [World.size_alloc] at this
 have hK1 : W1.heap[g.w.heap.size]? = some (.deferred (some [])) := by
  rw [← hW1]; exact (Go.RowKit.Below.heap_alloc _ _ _ (by simp)).trans (World.alloc_heap_new g.w _)
 have hlow1 : ∀ b, b < g.w.heap.size → W1.heap[b]? = g.w.heap[b]? := fun b hb => by
  rw [← hW1]; exact (Go.RowKit.Below.heap_alloc _ _ _ (by simp; omega)).trans (Go.RowKit.Below.heap_alloc _ _ _ hb)
 obtain ⟨g1, hg1⟩ : ∃ g1 : G, g1 = ⟨g.M, g.β, g.K, W1⟩ := ⟨_, rfl⟩
 have hKlt : ∀ b, g.K b → b < g.w.heap.size := hR.good.kd
 have hk1 : ∀ b, g.K b → g1.K b ∧ g1.w.heap[b]? = g.w.heap[b]? := fun b hb => by rw [hg1]; exact ⟨hb, hlow1 b (hKlt b hb)⟩
 have he1 : ∀ n, g.M n ≠ none → g1.M n ≠ none ∧ g1.β n = g.β n := fun n hn => by rw [hg1]; exact ⟨hn, rfl⟩
 have hgood1 : Good g1 := by
  refine ⟨fun n r hn => ?_, fun n m r q => ?_, fun b hb => ?_, fun b hb => ?_⟩
  ·have hn' : g.M n = some (some r) := by rw [hg1] at hn; exact hn
   exact (hR.good.rows n r hn').turn hk1 he1 (by rw [hg1]) (fun h0 => by rw [hg1]; exact hlow1 _ ((hR.good.rows n r hn').lt h0))
  ·rw [hg1]; exact hR.good.inj n m r q
  ·rw [hg1] at hb ⊢; have := hKlt b hb; show b < W1.heap.size; omega
  ·rw [hg1] at hb ⊢; exact hR.good.kl b hb
 have hle1 : LeN L.length g g1 := by
  rw [hg1]
  exact ⟨fun n _ hn => ⟨hn, rfl⟩, by show _ ≤ W1.heap.size; omega, by rw [← hW1]; rfl, by rw [← hW1]; rfl, by rw [← hW1]; rfl, fun b hb _ => hlow1 b hb, fun b hb => hb, fun b _ hb => .inl hb, fun n r hn h0 _ hh => hh n r hn h0 rfl⟩
 have hbl : ∀ b, ¬ g.K (g.w.heap.size + b) := fun b h => by have := hKlt _ h; omega
 have hj1 : JOk X r .norm g1 := by
  refine ⟨by rw [hg1, hX]; rw [hX] at hL1; exact hL1, by rw [hg1, hr]; exact hK1, by rw [hg1, hX]; exact hbl 1, by rw [hg1, hr]; exact hbl 0, by rw [hr, hX]; exact hR.size, fun i => ?_, fun i => ?_⟩
  ·rw [hX, hr]; exact (hR.ts i).turn hk1 he1
  ·rw [hX]; exact scS_get hsc i
 have hw1 : g1.w = W1 := by rw [hg1]
 have hvs : VTs g1 (.d (.v (.func (.yield (g.w.heap.size + 1)) #[] #[])) :: ca) (.func (.yield (g.w.heap.size + 1)) #[] #[] :: ds.toList) := .cons (.d (.v _ rfl)) ⟨hca.1, fun i t c h1 h2 => (hca.2 i t c h1 h2).turn hk1 he1⟩
 have hcall : CallsIn Fence.wide 0 P f (Value.func (.yield (g.w.heap.size + 1)) #[] #[] :: ds.toList).toArray g1.w fun e W' => ∃ g' ph L', g'.w = W' ∧ Good g' ∧ g'.M = ofL L' ∧ LeL X.l L.length g1 g' ∧ JOk X r ph g' ∧ ((isPan ph = false ∧ ∃ v, e = .returned v) ∨ ∃ t v, ph = .pan t ∧ e = .panicked [{ v, recovered := false }] ∧ VT g' t v) ∧ Q ph ⟨ts, L'⟩ := by
  refine callsIn_of_wp hf hb trivial ?_ rfl
  obtain ⟨s1, s2⟩ := arg_slots hvs (N := N1) (by simpa using hl) fn1.ntmps hN
  have := h (g.w.heap.size + 1) Fence.wide 0 Wd.wide r g1 { tmps := (Value.func (.yield (g.w.heap.size + 1)) #[] #[] :: ds.toList).toArray ++ Array.replicate (fn1.ntmps - (Value.func (.yield (g.w.heap.size + 1)) #[] #[] :: ds.toList).toArray.size) undef, defers := [] } (hX ▸ hj1) ⟨hgood1, by rw [hg1]; exact hR.M, s1, s2, rfl⟩
  refine wpIn_mono this ?_
  rintro ex a' w' ⟨g', ph, sx, st', rfl, h2, h3, h4, h5, h6⟩
  have done : (isPan ph = false ∧ ∃ L1 κ, Vw L.length st' ⟨[], L1⟩ κ ∧ Q ph ⟨ts, L1⟩) → a'.defers = [] ∧ ∃ v, (results fn1 a'.tmps).run P g'.w = .ok v g'.w ∧ ∃ g'' ph L', g''.w = g'.w ∧ Good g'' ∧ g''.M = ofL L' ∧ LeL X.l L.length g1 g'' ∧ JOk X r ph g'' ∧ ((isPan ph = false ∧ ∃ v', Ending.returned v = .returned v') ∨ ∃ t v', ph = .pan t ∧ Ending.returned v = .panicked [{ v := v', recovered := false }] ∧ VT g'' t v') ∧ Q ph ⟨ts, L'⟩ := by
   rintro ⟨hp, L', κ, h7, h8⟩
   obtain ⟨g2, e1, e2, e3⟩ := h7.see h3
   have hj2 := h4.step h3.good e2
   exact ⟨h3.df, .tuple #[], by simp [results, hres], g2, ph, L', e1, e3.good, e3.M, by rw [hX]; exact h2.trans (e2.toL _), hX ▸ hj2, .inl ⟨hp, _, rfl⟩, h8⟩
  cases sx with
  | norm => cases ex <;> first | exact h5.elim | exact done h6
  | ret => cases ex <;> first | exact h5.elim | exact done h6
  | exit i => exact h6.elim
  | pan t =>
   cases ex <;> first | exact h5.elim | skip
   obtain ⟨v, rfl, hv'⟩ := h5
   obtain ⟨rfl, hsc0, L', κ, h7, h8⟩ := h6
   obtain ⟨g2, e1, e2, e3⟩ := h7.see h3
   have hj2 := h4.step h3.good e2
   exact ⟨h3.df, g2, .pan t, L', e1, e3.good, e3.M, by rw [hX]; exact h2.trans (e2.toL _), hX ▸ hj2, .inr ⟨t, v, rfl, rfl, hv'.turnN (k := 0) (fun b hb => ⟨e2.k b hb, e2.fr b (h3.good.kd b hb) (h3.good.kl b hb)⟩) (fun n hn => by omega) hsc0⟩, h8⟩
 rw [hw1] at hcall
 refine ⟨g.w.heap.size + 1, [{ target := .collected g.w.heap.size, args := #[] }], W1, { target := .fn (.func f) ds, args := #[.func (.yield (g.w.heap.size + 1)) #[] #[]] }, W1, f,
  #[.func (.yield (g.w.heap.size + 1)) #[] #[]] ++ ds, W1, ?_, ?_, fun _ _ => trivial, ?_, (fun h => by cases h), ?_⟩
 ·rw [← hW1, hX, hr]; exact run_enterLoop_outer _ _ _ _ _
 ·simp only [resolve, hc]
  simp [go_sem]
 ·simp [invoke, go_sem, he _ _]
 ·have e : (Value.func (.yield (g.w.heap.size + 1)) #[] #[] :: ds.toList).toArray = #[.func (.yield (g.w.heap.size + 1)) #[] #[]] ++ ds := by apply Array.ext'; simp
  rw [e] at hcall
  refine ((callsIn_wide (n := nn - 1)).2 (callsIn_wide.1 hcall)).mono ?_
  rintro e W2 ⟨gx, ph, L', rfl, e2, e1, e3, e4, hend, hQ⟩
  have hXl : X.l = g.w.heap.size + 1 := by rw [hX]
  have hrD : r.D = g.w.heap.size := by rw [hr]
  have hlrec := e4.lrec
  have hmark := e4.mark
  have hkl := e4.kl
  have hkD := e4.kD
  rw [hXl] at hlrec hkl
  rw [hrD] at hmark hkD
  have hle3 : LeL (g.w.heap.size + 1) L.length g1 gx := hXl ▸ e3
  have fin : ∀ g' : G, Good g' → g'.M = ofL L' → LeL (g.w.heap.size + 1) L.length gx g' → g'.w.heap[g.w.heap.size]? = some (.deferred (some [])) → ¬ g'.K g.w.heap.size →
    LeN n0 g g' ∧ StR g' N ⟨ts, L'⟩ { a with defers := [{ target := .collected g.w.heap.size, args := #[] }] ++ a.defers } ({ target := .collected g.w.heap.size, args := #[] } :: df) ∧ DfOk db g' ({ target := .collected g.w.heap.size, args := #[] } :: df) := fun g' u1 e1' u2 m1 m2 => by
   have hle : LeN L.length g g' := ((hle1.toL (g.w.heap.size + 1)).trans (hle3.trans u2)).toN (by omega)
   have hLe := hle.toLe hR.M (Nat.le_refl _)
   refine ⟨hLe.toN n0, ⟨u1, e1', hR.size, fun i => (hR.ts i).mono hR.good hLe, by simp [hR.df]⟩, ?_⟩
   have hd2 := hdf.stepN hR.good hle
   refine ⟨List.nodup_cons.2 ⟨fun hm => ?_, hd2.nd⟩, hd2.sz, fun d hd => ?_⟩
   ·obtain ⟨D, d1, _, d3, _⟩ := hdf.all _ hm
    injection d1 with d1
    injection d1 with d1
    subst d1
    have := (Array.getElem?_eq_some_iff.1 d3).1
    omega
   ·rcases List.mem_cons.1 hd with rfl | hd
    ·exact ⟨g.w.heap.size, rfl, hdf.sz, m1, m2⟩
    ·exact hd2.all d hd
  rcases hend with ⟨hp, v, rfl⟩ | ⟨t, v, rfl, rfl, hv'⟩
  ·obtain ⟨u1, u2, u3⟩ := put_good e2 (nl_loop e2 hlrec) hkl (.loop { X.lp r (pendS ph) (pendC ph) with state := .exhausted }) L.length
   have hrun := run_endLoop (P := P) hlrec (by cases ph <;> simp [pendS, JX.lp, isPan] at hp ⊢)
   obtain ⟨g', hg'⟩ : ∃ g' : G, g' = ⟨gx.M, gx.β, gx.K, gx.w.putObj (g.w.heap.size + 1) (.loop { X.lp r (pendS ph) (pendC ph) with state := .exhausted })⟩ := ⟨_, rfl⟩
   rw [← hg'] at u1 u2
   obtain ⟨hl0, hSt, hDf⟩ := fin g' u1 (by rw [hg']; exact e1) u2 (by rw [hg']; exact (World.putObj_heap_other (by omega)).trans hmark) (by rw [hg']; exact hkD)
   have hrun' : (Instr.endLoop (g.w.heap.size + 1)).run P gx.w = .ok (pendC ph) g'.w := by rw [hg', hrun]; rfl
   cases ph with
   | norm => exact ⟨none, g'.w, hrun', g', .norm, _, _, rfl, hl0, hSt, hDf, trivial, hQ⟩
   | ret => exact ⟨some .ret, g'.w, hrun', wpIn_ret ⟨g', .ret, _, _, rfl, hl0, hSt, hDf, trivial, hQ⟩⟩
   | exit i => exact ⟨some (.exit i), g'.w, hrun', wpIn_exit ⟨g', .exit i, _, _, rfl, hl0, hSt, hDf, rfl, hQ⟩⟩
   | pan t => cases hp
  ·obtain ⟨hl0, hSt, hDf⟩ := fin gx e2 e1 (.refl _ _ _) hmark hkD
   exact ⟨gx, .pan t, _, _, rfl, hl0, hSt, hDf, ⟨v, rfl, hv'⟩, hQ⟩
end
end Go.Proofs.Ytdefnmcjmklohaa.Sh
namespace Go.Proofs.Ytdefnmcjmklohaa.Sh
open Go
theorem SC.of_swm {P : Program} {f : FuncId} {fn : Func} {c : Code} {N : Nat} {args : List T} {L : List (Option Rw)} {R : SE → List (Option Rw) → Prop} (hf : P.funcs[f]? = some fn) (hb : fn.body = some c) (hN : fn.ntmps = N) (hl : Nat.ble args.length N = true)
  (h : SWM P L.length N c (Fin P fn L.length R) ⟨argS 0 args, L⟩) : SC P f args L R := fun g vs hg hM hv => by
 refine callsIn_wide.1 (callsIn_of_wp_marks (n := 0) hf hb trivial ?_ rfl)
 obtain ⟨s1, s2⟩ := arg_slots hv hl fn.ntmps hN
 have hR : StR g N ⟨argS 0 args, L⟩ { tmps := vs.toArray ++ Array.replicate (fn.ntmps - vs.toArray.size) undef, defers := [] } [] := ⟨hg, hM, s1, s2, rfl⟩
 refine wpIn_mono (h 0 g.w.heap.size g _ [] hR (DfOk.nil (Nat.le_refl _))) ?_
 rintro ex a' w' ⟨g', sx, st', df', rfl, hle, k2, k3, k4, k5⟩
 have later : ∀ w2, Shut g.w.heap.size g'.K g'.w w2 → StR ⟨g'.M, g'.β, g'.K, w2⟩ N st' a' df' ∧ LeN L.length g ⟨g'.M, g'.β, g'.K, w2⟩ := fun w2 hs => by
  obtain ⟨e1, e2⟩ := shut_good k2.good hs
  refine ⟨⟨e1, k2.M, k2.size, fun i => e2 _ _ (k2.ts i), k2.df⟩, ⟨hle.e, by show _ ≤ w2.heap.size; rw [hs.size]; exact hle.size, hs.os.trans hle.os, hs.tape.trans hle.tape, hs.output.trans hle.output, fun b hb hn => (hs.same b (.inl hb)).trans (hle.fr b hb hn), hle.k, hle.k', hle.nl⟩⟩
 have done : (sx = .ret ∨ sx = .norm) → LeavesInM Fence.wide 0 P fn a'.tmps (fun e w' => ∃ g' se L', g'.w = w' ∧ Good g' ∧ Le g g' ∧ g'.M = ofL L' ∧ SER g' se e ∧ R se L') a'.defers .returning g'.w := fun hs => by
  have h6 : ∃ ts κ t L', ResTs P st' fn.results.toList ts ∧ Vw L.length ⟨[(0, tupT ts)], st'.L⟩ ⟨[(0, t)], L'⟩ κ ∧ R (.ret t) L' := by rcases hs with rfl | rfl <;> exact k5
  obtain ⟨ts, κ, t, L', e1, e2, e4⟩ := h6
  rw [k2.df]
  refine leave (by intro h; cases h) 0 df' g'.w k3.nd (db := g.w.heap.size) (K := g'.K) k3.all fun w2 hs2 => ?_
  obtain ⟨q1, q2⟩ := later w2 hs2
  obtain ⟨cs, f4, f5⟩ := res_run q1 e1
  obtain ⟨g'', f1, f2, f3⟩ := e2.see (st_one q1.good q1.M (tupT_val f5))
  have f6 : results fn a'.tmps = (do let vs ← fn.results.mapM (resF a'.tmps); pure (if h : vs.size = 1 then vs[0] else .tuple vs)) := rfl
  refine ⟨if h : cs.toArray.size = 1 then cs.toArray[0] else .tuple cs.toArray, ?_, g'', .ret t, L', f1, f3.good, (q2.trans f2).toLe hM (Nat.le_refl _), f3.M, f3.ts 0, e4⟩
  have f7 : (fn.results.toList.mapM (resF a'.tmps)).run P w2 = .ok cs w2 := f4
  rw [f6, Array.mapM_eq_mapM_toList, Sem.run_bind, Sem.run_map, f7]
  rfl
 cases sx with
 | norm => cases ex <;> first | exact k4.elim | exact done (.inr rfl)
 | ret => cases ex <;> first | exact k4.elim | exact done (.inl rfl)
 | exit i => exact k5.elim
 | pan t =>
  cases ex <;> first | exact k4.elim | skip
  obtain ⟨v, rfl, hv'⟩ := k4
  obtain ⟨κ, st'', e1, e2, t', rfl, e3, e4⟩ := k5
  show LeavesInM Fence.wide 0 P fn a'.tmps _ a'.defers (.panicking _) g'.w
  rw [k2.df]
  refine leave (by intro h; cases h) 0 df' g'.w k3.nd (db := g.w.heap.size) (K := g'.K) k3.all fun w2 hs2 => ?_
  obtain ⟨q1, q2⟩ := later w2 hs2
  obtain ⟨v1, v2⟩ := view_good q1.good q1.M e1.nd e1.len e1.rows
  refine ⟨⟨ofL st''.L, fun n => g'.β (kap κ n), g'.K, w2⟩, .pan t', st''.L, rfl, v1, ?_, rfl, ⟨v, rfl, v2 _ _ e3 ((shut_good k2.good hs2).2 _ _ hv')⟩, e4⟩
  refine LeN.toLe (n0 := L.length) (q2.trans ⟨fun n hn hne => ?_, Nat.le_refl _, rfl, rfl, rfl, fun _ _ _ => rfl, fun _ h => h, fun _ _ h => .inl h, fun n r hn h0 _ hnl => ?_⟩) hM (Nat.le_refl _)
  ·rw [q1.M] at hne
   simp only [ofL, ne_eq, List.getElem?_eq_none_iff, Nat.not_le] at hne
   obtain ⟨d1, d2⟩ := e1.base n hn hne
   exact ⟨by simp only [ofL, ne_eq, List.getElem?_eq_none_iff, e1.len]; omega, by show g'.β (kap κ n) = _; rw [d2]⟩
  ·obtain ⟨o', d1, d2⟩ := rowsV_get e1.rows n (some r) hn
   rw [Nat.zero_add] at d1
   refine hnl (kap κ n) (r.ren (kap κ)) ?_ h0 rfl
   rw [q1.M]; unfold ofL; rw [d1, (d2 r rfl).1]
theorem SWJ.seen {P : Program} {X : JX} {N : Nat} {Q : SX → SX → St → Prop} {ph : SX} {c : Code} {st st' : St} (k : ∀ (g : G) (a : Act), StR g N st a [] → ∃ g', g'.w = g.w ∧ LeN X.n1 g g' ∧ StR g' N st' a []) (h : SWJ P X N c Q ph st') : SWJ P X N c Q ph st := fun F nn hF r g a hj hR => by
 obtain ⟨g', hw, hle, hR'⟩ := k g a hR
 have := h F nn hF r g' a (hj.step hR.good hle) hR'
 rw [hw] at this
 exact wpIn_mono this fun _ _ _ hq => hq.trans (hle.toL _)
theorem SWJ.own {P : Program} {X : JX} {N : Nat} {Q : SX → SX → St → Prop} {ph : SX} {c : Code} {ts ts' : List (Nat × T)} {L L' : List (Option Rw)} (s : Nat) (hs : Nat.beq s 0 = false) {m : Nat} {nr : List Nat} (hm : nums.drop L.length = m :: nr) (hts : OwnS m s ts ts') (hL : OwnR m s L L') (h : SWJ P X N c Q ph ⟨ts', L' ++ [some ⟨s, []⟩]⟩) : SWJ P X N c Q ph ⟨ts, L⟩ :=
 SWJ.seen (fun _ _ hR => own_see X.n1 s hs hm hts hL hR) h
theorem SWM.seen {P : Program} {n0 N : Nat} {Q : SX → St → Prop} {c : Code} {st st' : St} (k : ∀ (g : G) (a : Act) (df : List Deferred), StR g N st a df → ∃ g', g'.w = g.w ∧ LeN n0 g g' ∧ StR g' N st' a df) (h : SWM P n0 N c Q st') : SWM P n0 N c Q st := fun nn db g a df hR hd => by
 obtain ⟨g', hw, hle, hR'⟩ := k g a df hR
 have := h nn db g' a df hR' (hd.stepN hR.good hle)
 rw [hw] at this
 exact wpIn_mono this fun _ _ _ ⟨g2, sx, st', df', h1, h2, h3⟩ => ⟨g2, sx, st', df', h1, hle.trans h2, h3⟩
end Go.Proofs.Ytdefnmcjmklohaa.Sh
namespace Go.Proofs.Ytdefnmcjmklohaa.Sh
open Go
def SCP (P : Program) (f : FuncId) (as : List T) (L : List (Option Rw)) (t : T) : Prop := SC P f as L fun se _ => se = .pan t
theorem find_none {n : Nat} : ∀ (ρ : List Nat), (ρ.map fun m => (m, (none : Option Rw))).find? (fun p => p.1 == n) = if n ∈ ρ then some (n, none) else none
 | [] => by simp
 | m :: ρ => by
  simp only [List.map_cons, List.find?_cons, List.mem_cons]
  by_cases h : m = n
  ·subst h; simp
  ·have h2 : (m == n) = false := by simpa using h
   rw [h2]
   dsimp only
   rw [find_none ρ]
   have : (n = m) = False := by simp; exact fun e => h e.symm
   simp [this]
section
variable {P : Program} {n0 N : Nat} {df : List Deferred} {ops : Array Oper} {l : List Oper} {ts : List (Nat × T)} {L : List (Option Rw)} {tr : List Stp} {d : Nat} {ty : TypeId} {pos : String} {af : Array Edge} {gd : Option (Nat × Bool)} {Q : SX → St → Prop}
def OpP (P : Program) (n0 N : Nat) (df : List Deferred) (ops : Array Oper) (Q : SX → St → Prop) (o : Oper) (st : St) : Prop :=
 wantT ops st.ts o = some true ∧ ∀ (F : Fence) (nn : Nat), Wd F → ∀ (g : G) (a : Act), StR g N st a df → ∀ (K : Act → World → Prop) (R : Exit → Act → World → Prop),
  (∀ g' v t st', LeN n0 g g' → StR g' N st' a df → VT g' t v → Q (.pan t) st' → R (.panic [{ v, recovered := false }]) a g'.w) → o.wpIn F nn P a g.w K R
def endP (P : Program) (n0 N : Nat) (df : List Deferred) (ops : Array Oper) (Q : SX → St → Prop) : List Oper → List Stp → St → Prop := fun l _ st => (l = [] ∧ Q .norm st) ∨ ∃ o r, l = o :: r ∧ OpP P n0 N df ops Q o st
def endPD (P : Program) (n0 N : Nat) (df : List Deferred) (ops : Array Oper) (Q : SX → St → Prop) : List Oper → List Stp → St → Prop := fun l tr st => (l = [] ∧ okTr ops tr = true ∧ Q .norm st) ∨ ∃ o, l = [o] ∧ okTr ops tr = true ∧ lastAll ops (ops.size - 1) = true ∧ OpP P n0 N df ops Q o st
theorem ev_endP {st : St} (h : Q .norm st) : EvK P N ops [] st tr (endP P n0 N df ops Q) := ev_stop (.inl ⟨rfl, h⟩)
theorem ev_endPD {st : St} (ho : okTr ops tr = true) (h : Q .norm st) : EvK P N ops [] st tr (endPD P n0 N df ops Q) := ev_stop (.inl ⟨rfl, ho, h⟩)
theorem ev_pan {o : Oper} {st : St} (h : OpP P n0 N df ops Q o st) : EvK P N ops (o :: l) st tr (endP P n0 N df ops Q) := ev_stop (.inr ⟨o, l, rfl, h⟩)
theorem ev_panD {o : Oper} {st : St} (ho : okTr ops tr = true) (hl : lastAll ops (ops.size - 1) = true) (h : OpP P n0 N df ops Q o st) : EvK P N ops [o] st tr (endPD P n0 N df ops Q) := ev_stop (.inr ⟨o, rfl, ho, hl, h⟩)
theorem sw_rgP {st : St} {id : Nat} {l : List Oper} (h : EvK P N l.toArray l st [] (endP P n0 N df l.toArray Q)) : SW P n0 N df (.region id l.toArray false) Q st := fun F nn hF g a hR => by
 refine wpIn_region_lit ?_
 obtain ⟨l1, l2, tr, st', e, h1, h2⟩ := h
 generalize hops : l.toArray = ops at h1 h2
 rw [e]
 have key : ∀ (l : List Oper) (st : St) (tr : List Stp) (st2 : St), Ev P N ops l st tr st2 → endP P n0 N df ops Q l2 ([] ++ tr) st2 → ∀ (g1 : G) (a : Act), Le g g1 → StR g1 N st a df → wpListIn F nn P ops (fun ex a' w' => ∃ g' sx st', g'.w = w' ∧ LeN n0 g g' ∧ StR g' N st' a' df ∧ XR g' sx ex ∧ Q sx st') (l ++ l2) a g1.w := by
  intro l st tr st2 h
  induction h with
  | nil st =>
   rintro (⟨rfl, q2⟩ | ⟨o, r, rfl, hw, q2⟩) g1 a hl hR1
   ·exact ⟨g1, .norm, st, rfl, hl.toN n0, hR1, trivial, q2⟩
   ·rw [List.nil_append]
    unfold wpListIn
    rw [yielded_of hw fun d _ => hR1.ts d]
    simp only [if_true]
    exact q2 F nn hF g1 a hR1 _ _ fun g' v t st' e1 e2 e3 e4 => ⟨g', .pan t, st', rfl, (hl.toN n0).trans e1, e2, ⟨v, rfl, e3⟩, e4⟩
  | cons hs _ ih =>
   intro h2 g1 a hl hR1
   exact hs.soundL hF hR1 fun g' a' h3 h4 => ih h2 g' a' (hl.trans h3) h4
 exact key l1 st tr st' h1 h2 g a (.refl g) hR
theorem sw_drP {st : St} {id : Nat} {l : List Oper} (hm : P.follows .mixedOrders = true) (h : EvK P N l.toArray l st [] (endPD P n0 N df l.toArray Q)) : SW P n0 N df (.region id l.toArray true) Q st := fun F nn hF g a hR => by
 obtain ⟨l1, l2, tr, st', e, h1, (⟨rfl, h2, h3⟩ | ⟨o, rfl, h2, h3, hw, h4⟩)⟩ := h
 ·rw [List.append_nil] at e
  subst e
  exact region_draw hm hF h1 h2 hR fun g' a' hl hR' => ⟨g', .norm, st', rfl, hl.toN n0, hR', trivial, h3⟩
 ·have hsz : l.toArray.size - 1 = l1.length := by rw [e]; simp
  rw [hsz] at h3
  refine region_drawP (l1 := l1) (o := o) hm hF (by rw [← e]) h1 h2 h3 hR fun g' a' K hl hR' => ?_
  unfold wpOpIn
  have ho : l.toArray[l1.length]? = some o := by rw [e]; simp
  simp only [ho]
  rw [yielded_of hw fun d _ => hR'.ts d]
  simp only [if_true]
  exact h4 F nn hF g' a' hR' _ _ fun g'' v t st'' e1 e2 e3 e4 => ⟨g'', .pan t, st'', rfl, (hl.toN n0).trans e1, e2, ⟨v, rfl, e3⟩, e4⟩
theorem forget {g : G} (hg : Good g) (S : Nat → Prop) [DecidablePred S] {g3 : G} (hM : ∀ n, g3.M n = if S n then (g.M n).map (fun _ => none) else g.M n) (hβ : g3.β = g.β) (hK : g3.K = g.K) (hw : g3.w = g.w) :
  Good g3 ∧ Le g g3 ∧ ∀ t c, VT g t c → VT g3 t c := by
 have live : ∀ n r, g3.M n = some (some r) → g.M n = some (some r) := fun n r h => by
  rw [hM] at h
  split at h
  ·cases hm : g.M n <;> rw [hm] at h <;> simp at h
  ·exact h
 have hne : ∀ n, g.M n ≠ none → g3.M n ≠ none ∧ g3.β n = g.β n := fun n hn => by
  rw [hM, hβ]
  refine ⟨?_, rfl⟩
  split
  ·simpa using hn
  ·exact hn
 have hk : ∀ b, g.K b → g3.K b ∧ g3.w.heap[b]? = g.w.heap[b]? := fun b hb => by rw [hK, hw]; exact ⟨hb, rfl⟩
 refine ⟨⟨fun n r hn => RowR.turn hk hne (hg.rows n r (live n r hn)) (by rw [hβ]) (fun _ => by rw [hw]), fun n m r q h1 h2 hn0 hm0 he => ?_, fun b hb => ?_, fun b hb n r hn h0 => ?_⟩, ⟨fun n hn => hne n hn, by rw [hw]; exact Nat.le_refl _, by rw [hw], by rw [hw], by rw [hw], fun b _ _ => by rw [hw], fun b hb => (hk b hb).1, fun b _ hb => .inl (by rwa [hK] at hb), fun n r hn h0 _ hh => ?_⟩, fun t c h => h.turn hk hne⟩
 ·rw [hβ] at he hn0 hm0; exact hg.inj n m r q (live n r h1) (live m q h2) hn0 hm0 he
 ·rw [hw]; rw [hK] at hb; exact hg.kd b hb
 ·rw [hβ] at h0 ⊢; rw [hK] at hb; exact hg.kl b hb n r (live n r hn) h0
 ·rw [hβ] at hh h0; exact hh n r (live n r hn) h0 rfl
theorem op_call {x : Operand} {xs : Array Operand} {tys : Array TypeId} {dst : Option Nat} {f : FuncId} {cT t : T} {as us fi ca : List T} {Lf : List (Option Rw)} {rs : List Rw} (ρ : List Nat) (hc : SCP P f as Lf t) (ht : t.sc 0 = true) (he : Ent P f)
  (hf : opT ts x = cT) (hcal : calT cT f fi ca) (hx : xs.toList.map (opT ts) = us) (hargs : fi ++ us ++ ca = renL (kap ρ) as) (has : scL ρ.length as = true) (hnd : ndK ρ = true) (hrow : RwO L ρ Lf ρ rs)
  (hw : wantT ops ts ⟨dst, .call { callee := .value x, args := xs, argTypes := tys }, ty, pos, af, gd⟩ = some true)
  (hQ : ∀ cnt, Q (.pan t) ⟨ts, setL L (ρ.map fun n => (n, none)) ++ List.replicate cnt none⟩) : OpP P n0 N df ops Q ⟨dst, .call { callee := .value x, args := xs, argTypes := tys }, ty, pos, af, gd⟩ ⟨ts, L⟩ := by
 refine ⟨hw, fun F nn hF g a hR K R k => ?_⟩
 obtain ⟨hLe, hrs, hrsc, hrowA, hlt⟩ := hrow.all
 subst hLe
 have call_ins : ∀ p ∈ (x, cT) :: xs.toList.zip us, opT ts p.1 = p.2 := by
  intro p hp
  rcases List.mem_cons.1 hp with rfl | hp
  ·exact hf
  ·exact (zip_ins hx p hp).1
 refine call_in (P := P) (fresh := L.length) (ρ := ρ) (rs := rs) (fi := fi) (ca := ca) (as := as) (ts := us) rfl he hcal (by rw [← hx]; simp) hc hargs has (ndK_ok hnd) hrs hrsc hlt hF hR.good
  (fun p hp => call_ins p hp ▸ tsR_op hR.ts p.1) (fun p hp => by rw [hR.M]; exact hrowA p hp) fun hfr' hrows gc' se L' e h1 h2 h3 h4 h5 => ?_
 subst h5
 obtain ⟨v, rfl, hv⟩ : ∃ v, e = .panicked [{ v, recovered := false }] ∧ VT gc' t v := by cases e <;> first | exact h4.elim | (obtain ⟨v, rfl, hv⟩ := h4; exact ⟨v, rfl, hv⟩)
 refine ⟨fun v' e => (by cases e), fun ch e => ?_⟩
 injection e with e
 subst e
 have hL' : ρ.length ≤ L'.length := by
  rcases Nat.lt_or_ge L'.length ρ.length with hh | hh
  ·have := (h2.e L'.length (by show ofL (rs.map some) L'.length ≠ none; simp [ofL]; omega)).1
   rw [h3] at this
   simp [ofL] at this
  ·exact hh
 obtain ⟨k1, k2, k3⟩ := call_back (fresh := L.length) (cnt := L'.length - ρ.length) (Lf := rs.map some) (Lf' := L') (ndK_ok hnd) hR.good (by simpa using hrs.symm) (by omega) hfr' rfl hrows (fun k _ => by rw [hR.M]; exact List.getElem?_eq_none (Nat.le_add_right L.length k)) h1 h2 h3
 obtain ⟨g3, hg3⟩ : ∃ g3 : G, g3 = ⟨fun n => if n ∈ ρ ∨ L.length ≤ n then ((g.back gc' ρ L.length (L'.length - ρ.length)).M n).map (fun _ => none) else (g.back gc' ρ L.length (L'.length - ρ.length)).M n, (g.back gc' ρ L.length (L'.length - ρ.length)).β, (g.back gc' ρ L.length (L'.length - ρ.length)).K, (g.back gc' ρ L.length (L'.length - ρ.length)).w⟩ := ⟨_, rfl⟩
 obtain ⟨f1, f2, f3⟩ := forget k1 (fun n => n ∈ ρ ∨ L.length ≤ n) (g3 := g3) (fun n => by rw [hg3]) (by rw [hg3]) (by rw [hg3]) (by rw [hg3])
 have hv' := f3 _ _ (k3 _ _ hv)
 rw [ren_closed _ _ ht] at hv'
 have hw3 : g3.w = gc'.w := by rw [hg3]; rfl
 rw [← hw3]
 refine k g3 v t ⟨ts, setL L (ρ.map fun n => (n, none)) ++ List.replicate (L'.length - ρ.length) none⟩ ((k2.trans f2).toN n0) ⟨f1, ?_, hR.size, fun i => f3 _ _ ((hR.ts i).mono hR.good k2), hR.df⟩ hv' (hQ _)
 funext n
 have hsl := setL_get L (ρ.map fun n => (n, none)) n (fun p hp => by simp only [List.mem_map] at hp; obtain ⟨m, hm, rfl⟩ := hp; exact hlt m hm)
 rw [find_none] at hsl
 rw [hg3]
 show (if n ∈ ρ ∨ L.length ≤ n then ((g.back gc' ρ L.length (L'.length - ρ.length)).M n).map (fun _ => none) else (g.back gc' ρ L.length (L'.length - ρ.length)).M n) = _
 have hsz : (setL L (ρ.map fun n => (n, none))).length = L.length := setL_len _ _
 simp only [ofL]
 by_cases hn : n < L.length
 ·rw [List.getElem?_append_left (by rw [hsz]; exact hn), hsl]
  by_cases hm : n ∈ ρ
  ·rw [if_pos (.inl hm), if_pos hm]
   have hne := (k2.e n (by rw [hR.M]; simp [ofL, hn])).1
   cases hx' : (g.back gc' ρ L.length (L'.length - ρ.length)).M n with
   | none => exact absurd hx' hne
   | some o => rfl
  ·rw [if_neg (by rintro (h | h); exact hm h; omega), if_neg hm]
   simp only [G.back]
   have : ρ.idxOf? n = none := by
    cases hi : ρ.idxOf? n with
    | none => rfl
    | some k =>
     obtain ⟨q1, q2⟩ := idx_some hi
     rw [List.getD_eq_getElem?_getD, List.getElem?_eq_getElem q1, Option.getD_some] at q2
     exact absurd (q2 ▸ List.getElem_mem q1) hm
   rw [this]
   dsimp only
   rw [if_neg (by omega), hR.M]; rfl
 ·rw [List.getElem?_append_right (by rw [hsz]; omega), hsz, if_pos (.inr (by omega))]
  simp only [G.back]
  have : ρ.idxOf? n = none := by
   cases hi : ρ.idxOf? n with
   | none => rfl
   | some k =>
    obtain ⟨q1, q2⟩ := idx_some hi
    have := hfr' k q1
    omega
  rw [this]
  dsimp only
  by_cases hc' : n < L.length + (L'.length - ρ.length)
  ·rw [if_pos ⟨by omega, hc'⟩, List.getElem?_replicate, if_pos (by omega), h3]
   have : ρ.length + (n - L.length) < L'.length := by omega
   simp [ofL, this]
  ·rw [if_neg (by omega), List.getElem?_replicate, if_neg (by omega), hR.M]
   simp [ofL, List.getElem?_eq_none (show L.length ≤ n by omega)]
theorem op_panicD {x : Operand} {t : TypeId} {c : Value} {st : St} (hx : opT st.ts x = .d (.v (.iface t c))) (hw : wantT ops st.ts ⟨none, .panic x, ty, pos, af, gd⟩ = some true) (hQ : Q (.pan (.d (.v (.iface t c)))) st) : OpP P n0 N df ops Q ⟨none, .panic x, ty, pos, af, gd⟩ st :=
 ⟨hw, fun F nn hF g a hR K R k => by
  have h1 := tsR_op hR.ts x
  rw [hx] at h1
  have hv := h1.v_eq
  refine ⟨fun f _ => hF.fn f, ?_⟩
  rw [Oper.semAt_eq _ _ _ (fun c h => by cases h)]
  have hrun : (execOp a.eval ⟨none, .panic x, ty, pos, af, gd⟩).run P g.w = .halt (.panic (.iface t c)) g.w := by
   simp only [execOp]; rw [hv]; rfl
  rw [hrun]
  exact k g _ _ st (.refl n0 g) hR (hv ▸ h1) hQ⟩
end
def exE {α β : Type} : Except Int α → (Int → β) → (α → β) → β
 | .error e, f, _ => f e
 | .ok a, _, g => g a
theorem exN {α β : Type} {x : Except Int α} {e : Int} {f : Int → β} {g : α → β} (h : x = .error e) : exE x f g = f e := by subst h; rfl
theorem exO {α β : Type} {x : Except Int α} {a : α} {f : Int → β} {g : α → β} (h : x = .ok a) : exE x f g = g a := by subst h; rfl
theorem ex_or {α : Type} (x : Except Int α) : (∃ e, x = .error e) ∨ ∃ a, x = .ok a := by cases x <;> simp
def SCX {α : Type} (P : Program) (f : FuncId) (as : List T) (L : List (Option Rw)) (x : Except Int α) (ty : TypeId) (t : α → T) (L1 : α → List (Option Rw)) : Prop :=
 SC P f as L fun se X => (∃ a, x = .ok a ∧ se = .ret (t a) ∧ X = L1 a) ∨ ∃ e, x = .error e ∧ se = .pan (.d (.v (.iface ty (.int .i64 e))))
theorem SCX.ok {α : Type} {P : Program} {f : FuncId} {as : List T} {L : List (Option Rw)} {x : Except Int α} {ty : TypeId} {t : α → T} {L1 : α → List (Option Rw)} (h : SCX P f as L x ty t L1) {a : α} (hn : x = .ok a) : SCR P f as L (t a) (L1 a) := SC.mono h fun se X hX => by
 rcases hX with ⟨b, h1, h2, h3⟩ | ⟨e, h1, _⟩
 ·rw [hn] at h1; injection h1 with h1; subst h1; exact ⟨h2, h3⟩
 ·rw [hn] at h1; cases h1
theorem SCX.err {α : Type} {P : Program} {f : FuncId} {as : List T} {L : List (Option Rw)} {x : Except Int α} {ty : TypeId} {t : α → T} {L1 : α → List (Option Rw)} (h : SCX P f as L x ty t L1) {e : Int} (hn : x = .error e) : SCP P f as L (.d (.v (.iface ty (.int .i64 e)))) := SC.mono h fun se X hX => by
 rcases hX with ⟨b, h1, _⟩ | ⟨b, h1, h2⟩
 ·rw [hn] at h1; cases h1
 ·rw [hn] at h1; injection h1 with h1; subst h1; exact h2
theorem fin_pX {P : Program} {fn : Func} {n0 : Nat} {st : St} {R : SE → List (Option Rw) → Prop} {x : D} {L : List (Option Rw)} {κ : List Nat} (hv : Vw n0 st ⟨[], L⟩ κ) (hR : R (.pan (.d x)) L) : Fin P fn n0 R (.pan (.d x)) st := ⟨κ, ⟨[], L⟩, hv, rfl, .d x, rfl, rfl, hR⟩
end Go.Proofs.Ytdefnmcjmklohaa.Sh
namespace Go.Proofs.Ytdefnmcjmklohaa.Sh
open Go
theorem Lend.rowT {α : Type} {L : List (Option Rw)} {n s lo len : Nat} {w : List α} {f : α → D} (h : L[n]? = some (some ⟨s, w.map fun a => .d (f a)⟩)) (hl : w.length - lo = len) (hlo : lo ≤ w.length) : Lend L (.row n s lo len) (.arr s ((w.drop lo).map f)) :=
 .rowO h (by simpa using hl) (by simp; omega) fun i t d h1 h2 => by
  rw [List.getElem?_map, Option.map_eq_some_iff] at h1 h2
  rw [List.getElem?_drop] at h2
  obtain ⟨a, ha, rfl⟩ := h1
  obtain ⟨b, hb, rfl⟩ := h2
  rw [ha] at hb; injection hb with hb; subst hb
  exact .d _
theorem o_sliceRow {P : Program} {o : Oper} {fresh : Nat} {t e : TypeId} {i ei : TI} {x y : Operand} {n s len : Nat} {k : IntKind} {p : Nat} (hop : o.op = .slice t x (some y) none none) (ht : TOk P t i) (hs : i.sl = some e) (he : TOk P e ei) (hz : ei.size = s) (h1 : p < len) :
  OpS P o [(x, .row n s 0 len), (y, .d (.v (.int k p)))] [] [] fresh [] (.row n s p (len - p)) :=
 .of_pure (fun c h => by rw [hop] at h; cases h) fun g a hg hi hr => by
  have hx := hi (x, .row n s 0 len) (by simp)
  have hy := (hi (y, .d (.v (.int k p))) (by simp)).v_eq
  dsimp only at hx hy
  generalize hv : a.eval x = v at hx
  cases hx with | row _ _ _ _ A hn hs0 hl ha =>
  have h0 : (g.β n).2 ≠ 0 := by omega
  have ha := ha h0
  subst ha
  subst hz
  have hne : ¬ (g.β n).2 = p := by omega
  have hr := run_sliceAt (P := P) ht hs he (A := some ⟨(g.β n).1, 0 * ei.size, none⟩) (cap := (g.β n).2 - 0) (len := len) (.inl ⟨rfl, rfl⟩) (.inr ⟨k, rfl⟩) (Nat.le_of_lt h1) (Nat.le_refl _) (by omega) g.w
  rw [Nat.sub_zero, if_neg hne] at hr
  refine ⟨.slice (some ⟨(g.β n).1, p * ei.size, none⟩) (len - p) ((g.β n).2 - p), ?_, .row n ei.size p (len - p) _ hn hs0 (by omega) fun _ => rfl⟩
  simp only [Nat.zero_mul] at hr
  simp [execOp, hop, hv, hy, hr, Addr.add]
  exact fun h => h.symm
theorem o_sliceRowE {P : Program} {o : Oper} {fresh : Nat} {t e : TypeId} {i ei : TI} {x y : Operand} {n s len : Nat} {k : IntKind} (hop : o.op = .slice t x (some y) none none) (ht : TOk P t i) (hs : i.sl = some e) (he : TOk P e ei) (hz : ei.size = s) :
  OpS P o [(x, .row n s 0 len), (y, .d (.v (.int k len)))] [] [] fresh [] (.d (.arr s [])) :=
 .of_pure (fun c h => by rw [hop] at h; cases h) fun g a hg hi hr => by
  have hx := hi (x, .row n s 0 len) (by simp)
  have hy := (hi (y, .d (.v (.int k len))) (by simp)).v_eq
  dsimp only at hx hy
  generalize hv : a.eval x = v at hx
  cases hx with | row _ _ _ _ A hn hs0 hl ha =>
  have hr := run_sliceAt (P := P) ht hs he (A := A) (cap := (g.β n).2 - 0) (len := len) (.inl ⟨rfl, rfl⟩) (.inr ⟨k, rfl⟩) (Nat.le_refl _) (Nat.le_refl _) (by omega) g.w
  rw [Nat.sub_self] at hr
  obtain ⟨B, hB⟩ : ∃ B, B = (if (g.β n).2 - 0 = len then A else A.map (·.add (len * ei.size))) := ⟨_, rfl⟩
  rw [← hB] at hr
  exact ⟨.slice B 0 ((g.β n).2 - 0 - len), by simp [execOp, hop, hv, hy] at hr ⊢; simp [hr], .d (.arr0 s _ _)⟩
section
variable {P : Program} {N : Nat} {ops : Array Oper} {l : List Oper} {ts : List (Nat × T)} {L : List (Option Rw)} {tr : List Stp} {d : Nat} {ty : TypeId} {pos : String} {af : Array Edge} {gd : Option (Nat × Bool)} {K : List Oper → List Stp → St → Prop}
theorem r_slRow {t e : TypeId} {i ei : TI} {x y : Operand} {n s len : Nat} {k : IntKind} {p : Nat} (tb : Tab P) (ht : tb.f t = some i) (hs : i.sl = some e) (he : tb.f e = some ei) (hx : opT ts x = .row n s 0 len) (hz : ei.size = s) (hy : opT ts y = .d (.v (.int k p))) (h1 : p < len) (hw : wantT ops ts ⟨some d, .slice t x (some y) none none, ty, pos, af, gd⟩ = some true) (hd : Nat.blt d N = true)
  (kk : EvK P N ops l ⟨(d, .row n s p (len - p)) :: ts, L⟩ (tr ++ [.run [] []]) K) : EvK P N ops (⟨some d, .slice t x (some y) none none, ty, pos, af, gd⟩ :: l) ⟨ts, L⟩ tr K :=
 ev_val (ins := [(x, .row n s 0 len), (y, .d (.v (.int k p)))]) rfl (o_sliceRow rfl (tb.ok _ _ ht) hs (tb.ok _ _ he) hz h1) hw (by simp [Op.operands, hx, hy]) (by simp) hd kk
theorem r_slRowE {t e : TypeId} {i ei : TI} {x y : Operand} {n s len : Nat} {k : IntKind} {p : Nat} (tb : Tab P) (ht : tb.f t = some i) (hs : i.sl = some e) (he : tb.f e = some ei) (hx : opT ts x = .row n s 0 len) (hz : ei.size = s) (hy : opT ts y = .d (.v (.int k p))) (h1 : len = p) (hw : wantT ops ts ⟨some d, .slice t x (some y) none none, ty, pos, af, gd⟩ = some true) (hd : Nat.blt d N = true)
  (kk : EvK P N ops l ⟨(d, .d (.arr s [])) :: ts, L⟩ (tr ++ [.run [] []]) K) : EvK P N ops (⟨some d, .slice t x (some y) none none, ty, pos, af, gd⟩ :: l) ⟨ts, L⟩ tr K := by
 subst h1
 exact ev_val (ins := [(x, .row n s 0 len), (y, .d (.v (.int k len)))]) rfl (o_sliceRowE rfl (tb.ok _ _ ht) hs (tb.ok _ _ he) hz) hw (by simp [Op.operands, hx, hy]) (by simp) hd kk
end
end Go.Proofs.Ytdefnmcjmklohaa.Sh
namespace Go.Proofs.Ytdefnmcjmklohaa.Sh
open Go
structure DfC (P : Program) (fd : FuncId) (tyE : TypeId) : Prop where
 idle : ∀ (b : Nat) (w : World), CallsDIn Fence.wide 0 P fd #[.pointer (some ⟨b, 0, none⟩)] .returning w fun e u' w' => e = .returned (.tuple #[]) ∧ u' = .returning ∧ w' = w
 caught : ∀ (b : Nat) (E : Int) (older : List PanicEntry) (w : World) (v : Value) (cells : Array Value) (e : TypeId), w.heap[b]? = some (.cells cells e (0, 0)) → cells[0]? = some v →
  CallsDIn Fence.wide 0 P fd #[.pointer (some ⟨b, 0, none⟩)] (.panicking ({ v := .iface tyE (.int .i64 E), recovered := false } :: older)) w fun e u' w' => e = .returned (.tuple #[]) ∧ u' = .panicking ({ v := .iface tyE (.int .i64 E), recovered := true } :: older) ∧ w' = w.setCell ⟨b, 0, none⟩ (.int .i64 E)
theorem box_set {g : G} (hg : Good g) {k : Nat} {x : T} (hk : g.M k = some (some ⟨1, [x]⟩)) (E : Int) (n0 : Nat) :
  ∃ cells e v, g.w.heap[(g.β k).1]? = some (.cells cells e (0, 0)) ∧ cells[0]? = some v ∧ ∃ g', g'.w = g.w.setCell ⟨(g.β k).1, 0, none⟩ (.int .i64 E) ∧ Good g' ∧ Le g g' ∧ g'.M = fun n => if n = k then some (some ⟨1, [.d (.v (.int .i64 E))]⟩) else g.M n := by
 obtain ⟨hcap, cells, e, h1, h2, h3, h4⟩ := (hg.rows k _ hk).has (by simp) (i := 0) (x := x) rfl
 simp only [Nat.mul_one, List.length_singleton] at h2 h3
 have hsz : 0 < cells.size := by omega
 obtain ⟨q1, q2⟩ := Good.put hg hk hcap h1 (cells := cells.setIfInBounds 0 (.int .i64 E)) (r' := ⟨1, [.d (.v (.int .i64 E))]⟩) (by simp) (by simpa using h2) (by simpa using h3) (fun i x' hx' => by
  cases i with
  | succ i => simp at hx'
  | zero =>
   simp at hx'
   subst hx'
   refine ⟨rfl, fun j y hy => ?_⟩
   cases j with
   | succ j => simp [T.cells, D.cells] at hy
   | zero =>
    simp [T.cells, D.cells] at hy
    subst hy
    exact ⟨.int .i64 E, by simp [hsz], .d (.v _ rfl)⟩)
 refine ⟨cells, e, cells[0], h1, Array.getElem?_eq_getElem hsz, _, ?_, q1, q2, ?_⟩
 ·show g.w.setRow (g.β k).1 (cells.setIfInBounds 0 (.int .i64 E)) = _
  have h5 : ∀ (hi : (g.β k).1 < g.w.heap.size), g.w.heap[(g.β k).1] = .cells cells e (0, 0) := fun hi => by rw [Array.getElem?_eq_getElem hi] at h1; injection h1
  unfold World.setRow World.setCell
  congr 1
  apply Array.ext
  ·simp
  ·intro i hi1 hi2
   simp only [Array.getElem_modify]
   by_cases hi : (g.β k).1 = i
   ·subst hi
    simp only [if_true]
    simp [h5 (by simpa using hi1)]
   ·simp only [hi, if_false]
 ·funext n
  simp [G.put]
def QD (P : Program) (fn : Func) (n0 : Nat) (R : SE → List (Option Rw) → Prop) (tyE : TypeId) (k : Nat) : SX → St → Prop
 | .ret, st | .norm, st => Fin P fn n0 R .ret st
 | .pan t, st => ∃ E x, t = .d (.v (.iface tyE (.int .i64 E))) ∧ st.L[k]? = some (some ⟨1, [x]⟩) ∧ Fin P fn n0 R .ret ⟨st.ts, st.L.set k (some ⟨1, [.d (.v (.int .i64 E))]⟩)⟩
 | _, _ => False
theorem qd_ret {P : Program} {fn : Func} {n0 : Nat} {R : SE → List (Option Rw) → Prop} {tyE : TypeId} {k : Nat} {st : St} (h : Fin P fn n0 R .ret st) : QD P fn n0 R tyE k .ret st := h
def endQ (fn : Func) (P : Program) (g0 : G) (R : SE → List (Option Rw) → Prop) : Exit → Act → World → Prop := bodyPostDIn Fence.wide 0 P fn fun e w' => ∃ g' se L', g'.w = w' ∧ Good g' ∧ Le g0 g' ∧ g'.M = ofL L' ∧ SER g' se e ∧ R se L'
def SWD (P : Program) (fn : Func) (n0 : Nat) (R : SE → List (Option Rw) → Prop) (N : Nat) (c : Code) (st : St) : Prop :=
 ∀ (g0 g : G) (a : Act), (∀ n, g0.M n ≠ none → n < n0) → LeN n0 g0 g → StR g N st a [] → c.wpIn Fence.wide 0 P (endQ fn P g0 R) a g.w
theorem LeN.full {n0 : Nat} {g g' : G} (h : LeN n0 g g') (hM : ∀ n, g.M n ≠ none → n < n0) : Le g g' := ⟨fun n hn => h.e n (hM n hn) hn, h.size, h.os, h.tape, h.output, h.fr, h.k, h.k', h.nl⟩
section
variable {P : Program} {fn : Func} {n0 N : Nat} {R : SE → List (Option Rw) → Prop} {st : St}
theorem swd_seq {x y : Code} (h : SW P n0 N [] x (fun sx st' => sx = .norm ∧ SWD P fn n0 R N y st') st) : SWD P fn n0 R N (.seq x y) st := fun g0 g a hM hl hR => by
 refine wpIn_seq (wpIn_mono (h Fence.wide 0 Wd.wide g a hR) ?_)
 rintro ex a' w' ⟨g', sx, st', rfl, h2, h3, h4, rfl, h5⟩
 cases ex <;> first | exact h4.elim | skip
 exact h5 g0 g' a' hM (hl.trans h2) h3
theorem fin_res {g0 g : G} {a : Act} {df : List Deferred} (hM : ∀ n, g0.M n ≠ none → n < n0) (hl : LeN n0 g0 g) (hR : StR g N st a df) (h : Fin P fn n0 R .ret st) :
  ∃ v, (results fn a.tmps).run P g.w = .ok v g.w ∧ ∃ g' se L', g'.w = g.w ∧ Good g' ∧ Le g0 g' ∧ g'.M = ofL L' ∧ SER g' se (.returned v) ∧ R se L' := by
 obtain ⟨ts, κ, t, L', e1, e2, e4⟩ := h
 obtain ⟨cs, f4, f5⟩ := res_run hR e1
 obtain ⟨g'', f1, f2, f3⟩ := e2.see (st_one hR.good hR.M (tupT_val f5))
 have f6 : results fn a.tmps = (do let vs ← fn.results.mapM (resF a.tmps); pure (if h : vs.size = 1 then vs[0] else .tuple vs)) := rfl
 refine ⟨if h : cs.toArray.size = 1 then cs.toArray[0] else .tuple cs.toArray, ?_, g'', .ret t, L', f1, f3.good, (hl.trans f2).full hM, f3.M, f3.ts 0, e4⟩
 rw [f6, Array.mapM_eq_mapM_toList, Sem.run_bind, Sem.run_map, f4]
 rfl
def dfK (P : Program) (fn : Func) (n0 : Nat) (R : SE → List (Option Rw) → Prop) (N : Nat) (tyE : TypeId) (fd : FuncId) (rest : Code) (ops : Array Oper) : List Oper → List Stp → St → Prop := fun l2 _ st' =>
 ∃ d k ty pos af, l2 = [⟨none, .defer { callee := .value (.tmp d), args := #[], argTypes := #[] }, ty, pos, af, none⟩] ∧ getS st'.ts d = .fn (.func fd) [] [.ref k 1 0 0] ∧ (k < st'.L.length) ∧ ∀ df, SW P st'.L.length N df rest (QD P fn n0 R tyE k) st'
theorem swd_defer {tyE : TypeId} {fd : FuncId} {id : Nat} {l : List Oper} {rest : Code} (hd : DfC P fd tyE) (he : Ent P fd) (h : EvK P N l.toArray l st [] (dfK P fn n0 R N tyE fd rest l.toArray)) : SWD P fn n0 R N (.seq (.region id l.toArray false) rest) st := fun g0 g a hM hl hR => by
 obtain ⟨l1, l2, tr, st', rfl, h1, d, k, ty, pos, af, rfl, h2, hk, h3⟩ := h
 refine wpIn_seq (wpIn_region_lit ?_)
 generalize hops : (l1 ++ [(⟨none, .defer { callee := .value (.tmp d), args := #[], argTypes := #[] }, ty, pos, af, none⟩ : Oper)]).toArray = ops at h1
 have key : ∀ (l : List Oper) (st : St) (tr : List Stp) (st2 : St), Ev P N ops l st tr st2 → getS st2.ts d = .fn (.func fd) [] [.ref k 1 0 0] → k < st2.L.length → (∀ df, SW P st2.L.length N df rest (QD P fn n0 R tyE k) st2) → ∀ (g1 : G) (a : Act), Le g g1 → StR g1 N st a [] →
   wpListIn Fence.wide 0 P ops (Exit.then (rest.wpIn Fence.wide 0 P (endQ fn P g0 R)) (endQ fn P g0 R)) (l ++ [⟨none, .defer { callee := .value (.tmp d), args := #[], argTypes := #[] }, ty, pos, af, none⟩]) a g1.w := by
  intro l st tr st2 h
  induction h with
  | nil st =>
   intro e1 hk h3 g1 a hl1 hR1
   rw [List.nil_append]
   unfold wpListIn
   rw [yielded_of (show wantT ops st.ts ⟨none, .defer { callee := .value (.tmp d), args := #[], argTypes := #[] }, ty, pos, af, none⟩ = some true from rfl) fun d _ => hR1.ts d]
   simp only [if_true]
   refine ⟨fun f _ => trivial, ?_⟩
   have hv := hR1.ts d
   rw [e1] at hv
   obtain ⟨cs, ds, hc, hfi, hca⟩ := calT_val hv (.inr rfl)
   have hcs : cs = #[] := by have := hfi.1; simp at this; exact Array.size_eq_zero_iff.1 this.symm
   subst hcs
   have hds : ds = #[.pointer (some ⟨(g1.β k).1, 0, none⟩)] := by
    have h1 := hca.1
    obtain ⟨c, hc'⟩ : ∃ c, ds.toList = [c] := List.length_eq_one_iff.1 (by simpa using h1.symm)
    have h2 := hca.2 0 _ c rfl (by rw [hc']; rfl)
    have : ds = #[c] := by apply Array.ext'; simpa using hc'
    rw [this]
    generalize hcv : c = cv at h2
    cases h2
    simp
   have hev : a.eval (.tmp d) = .func (.func fd) #[] ds := hc
   have hrun : (Oper.semAt Fence.wide.round a.eval ⟨none, .defer { callee := .value (.tmp d), args := #[], argTypes := #[] }, ty, pos, af, none⟩).run P g1.w = .ok (.defer { target := .fn (.func fd) ds, args := #[] }) g1.w := by
    have e0 : Fence.wide.round = none := rfl
    rw [e0, Oper.semAt_none]
    simp [execOp, resolve, hev, Deferred.ofValue]
   rw [hrun, Oper.uponIn_defer]
   unfold wpListIn
   show rest.wpIn Fence.wide 0 P (endQ fn P g0 R) _ g1.w
   have hR2 : StR g1 N st ({ a with defers := { target := .fn (.func fd) ds, args := #[] } :: a.defers }.put none undef) [{ target := .fn (.func fd) ds, args := #[] }] := ⟨hR1.good, hR1.M, hR1.size, hR1.ts, by show _ :: a.defers = _; rw [hR1.df]⟩
   refine wpIn_mono (h3 _ Fence.wide 0 Wd.wide g1 _ hR2) ?_
   rintro ex a' w' ⟨g', sx, st', rfl, q2, q3, q4, q5⟩
   have hβ : g'.β k = g1.β k := (q2.e k hk (by rw [hR1.M]; simp [ofL, hk])).2
   have hlg : LeN n0 g0 g' := (hl.trans ((hl1.trans (q2.toLe hR1.M (Nat.le_refl _))).toN n0))
   have ok : Fin P fn n0 R .ret st' → LeavesIn Fence.wide 0 P fn a'.tmps (fun e w' => ∃ g' se L', g'.w = w' ∧ Good g' ∧ Le g0 g' ∧ g'.M = ofL L' ∧ SER g' se e ∧ R se L') a'.defers .returning g'.w := fun hf => by
    rw [q3.df]
    refine leavesIn_cons (f := fd) (args := ds) (by intro h; cases h) (by intro h; cases h) (by simp [invoke, go_sem, he _ _]) (fun _ _ => trivial) ?_
    rw [hds]
    refine (hd.idle (g1.β k).1 g'.w).mono ?_
    rintro e u' w'' ⟨rfl, rfl, rfl⟩
    exact fin_res hM hlg q3 hf
   cases sx with
   | norm => cases ex <;> first | exact q4.elim | exact ok q5
   | ret => cases ex <;> first | exact q4.elim | exact ok q5
   | exit i => exact q5.elim
   | pan t =>
    cases ex <;> first | exact q4.elim | skip
    obtain ⟨v, rfl, hv'⟩ := q4
    obtain ⟨E, x, rfl, hx, hf⟩ := q5
    have := hv'.v_eq
    subst this
    obtain ⟨cells, e, v0, b1, b2, g2, b3, b4, b5, b6⟩ := box_set q3.good (k := k) (x := x) (by rw [q3.M]; exact hx) E n0
    show LeavesIn Fence.wide 0 P fn a'.tmps _ a'.defers (.panicking _) g'.w
    rw [q3.df]
    refine leavesIn_cons (f := fd) (args := ds) (by intro h; cases h) (by intro h; cases h) (by simp [invoke, go_sem, he _ _]) (fun _ _ => trivial) ?_
    rw [hds, ← hβ]
    refine (hd.caught (g'.β k).1 E [] g'.w v0 cells e b1 b2).mono ?_
    rintro e u' w'' ⟨rfl, rfl, rfl⟩
    have hR3 : StR g2 N ⟨st'.ts, st'.L.set k (some ⟨1, [.d (.v (.int .i64 E))]⟩)⟩ a' [{ target := .fn (.func fd) ds, args := #[] }] := ⟨b4, by
      rw [b6, q3.M]
      funext n
      simp only [ofL]
      by_cases hn : n = k
      ·subst hn; rw [if_pos rfl, List.getElem?_set_self (List.getElem?_eq_some_iff.1 hx).1]
      ·rw [if_neg hn, List.getElem?_set_ne (fun e => hn e.symm)], q3.size, fun i => (q3.ts i).mono q3.good b5, q3.df⟩
    have := fin_res hM (hlg.trans (b5.toN n0)) hR3 hf
    rw [b3] at this
    exact this
  | cons hs _ ih =>
   intro e1 hk h3 g1 a hl1 hR1
   exact hs.soundL Wd.wide hR1 fun g' a' h4 h5 => ih e1 hk h3 g' a' (hl1.trans h4) h5
 exact key l1 st tr st' h1 h2 hk h3 g a (.refl g) hR
theorem SC.of_swd {f : FuncId} {c : Code} {args : List T} {L : List (Option Rw)} (hf : P.funcs[f]? = some fn) (hb : fn.body = some c) (hN : fn.ntmps = N) (hl : Nat.ble args.length N = true) (h : SWD P fn L.length R N c ⟨argS 0 args, L⟩) : SC P f args L R := fun g vs hg hM hv => by
 refine callsIn_wide.1 (callsIn_of_wp_defers (n := 0) hf hb trivial ?_ rfl)
 obtain ⟨s1, s2⟩ := arg_slots hv hl fn.ntmps hN
 exact h g g _ (fun n hn => by rw [hM] at hn; simpa only [ofL, ne_eq, List.getElem?_eq_none_iff, Nat.not_le] using hn) (.refl _ g) ⟨hg, hM, s1, s2, rfl⟩
end
end Go.Proofs.Ytdefnmcjmklohaa.Sh
namespace Go.Proofs.Ytdefnmcjmklohaa.Sh
open Go
section
variable {α β : Type} [BEq α] {P : Program} {kt : TypeId} {kv : α → Value}
variable {o : Oper} {fresh : Nat}
def mRowT (kv : α → Value) (vf : β → T) (m : List (α × β)) : Rw := ⟨0, m.map fun p => .agg [.d (.v (kv p.1)), vf p.2]⟩
omit [BEq α] in
theorem rowM_T {g : G} {n : Nat} {vf : β → T} {m : List (α × β)} (h : RowR g n (mRowT kv vf m)) : (g.β n).2 = 1 ∧ ∃ es clock, g.w.heap[(g.β n).1]? = some (.map es clock) ∧ es.toList.map (·.key) = m.map (fun p => kv p.1) ∧ ∀ (i : Nat) (p : α × β) (e : MapEntry), m[i]? = some p → es[i]? = some e → VT g (vf p.2) e.val := by
 rcases h with ⟨_, _, h3⟩ | ⟨h1, _⟩ | ⟨_, h2, es, clock, h3, h4, h5⟩
 ·exact absurd rfl h3
 ·exact absurd rfl h1
 have hlen : es.size = m.length := by rw [h4]; simp [mRowT]
 have get : ∀ (i : Nat) (p : α × β), m[i]? = some p → ∃ e, es[i]? = some e ∧ e.key = kv p.1 ∧ VT g (vf p.2) e.val := fun i p hp => by
  obtain ⟨k, y, e, q1, q2, q3, q4⟩ := h5 i (.agg [.d (.v (kv p.1)), vf p.2]) (by simp [mRowT, hp])
  simp only [T.agg.injEq, List.cons.injEq, T.d.injEq, D.v.injEq, and_true] at q1
  obtain ⟨rfl, rfl⟩ := q1
  exact ⟨e, q2, q3, q4⟩
 refine ⟨h2, es, clock, h3, ?_, fun i p e h6 h7 => ?_⟩
 ·apply List.ext_getElem?
  intro i
  rw [List.getElem?_map, List.getElem?_map, Array.getElem?_toList]
  by_cases hi : i < m.length
  ·obtain ⟨e, q1, q2, _⟩ := get i m[i] (List.getElem?_eq_getElem hi)
   rw [q1, List.getElem?_eq_getElem hi]
   simp [q2]
  ·rw [List.getElem?_eq_none (by omega), Array.getElem?_eq_none (by omega)]; rfl
 ·obtain ⟨e', q1, _, q3⟩ := get i p h6
  rw [q1] at h7
  injection h7 with h7
  exact h7 ▸ q3
variable {o : Oper} {fresh : Nat}
theorem o_mapSetT {t e : TypeId} {x y z : Operand} {n : Nat} {vf : β → T} {m : List (α × β)} {k : α} {v : β} (hop : o.op = .mapUpdate t x y z ∨ o.op = .insert t x y z) (ht : P.underlying t = some (.map kt e)) (K : KeyOk P kt kv) :
  OpS P o [(x, .mp n), (y, .d (.v (kv k))), (z, vf v)] [(n, mRowT kv vf m)] [(n, some (mRowT kv vf (mset m k v)))] fresh [] .bot :=
 .of_run (fun c h => by rcases hop with hop | hop <;> rw [hop] at h <;> cases h) fun g a hg hi hr _ => by
  have hx := hi (x, .mp n) (by simp)
  have hy := (hi (y, .d (.v (kv k))) (by simp)).v_eq
  have hzv := hi (z, vf v) (by simp)
  generalize hv : a.eval x = xv at hx
  cases hx with | mp _ hn =>
  dsimp only at hy hzv
  have hnM := hr (n, mRowT kv vf m) (by simp)
  dsimp only at hnM
  obtain ⟨hcap, es, clock, h1, h2, h3⟩ := rowM_T (hg.rows n _ hnM)
  have hc0 : (g.β n).2 ≠ 0 := by omega
  obtain ⟨desc, hd, hs⟩ := K.desc
  have hlen : es.size = m.length := by have := congrArg List.length h2; simpa using this
  obtain ⟨es', clock', hrun, hsz, hent⟩ : ∃ (es' : Array MapEntry) (clock' : Nat), (Instr.mapUpdate t (.map (some (g.β n).1)) (kv k) (a.eval z)).run P g.w = .ok () { g.w with heap := g.w.heap.setIfInBounds (g.β n).1 (.map es' clock') } ∧ es'.size = (mset m k v).length ∧
    ∀ (i : Nat) (p : α × β), (mset m k v)[i]? = some p → ∃ en, es'[i]? = some en ∧ en.key = kv p.1 ∧ VT g (vf p.2) en.val := by
   have old : ∀ (i : Nat) (p : α × β), m[i]? = some p → ∃ en, es[i]? = some en ∧ en.key = kv p.1 ∧ VT g (vf p.2) en.val := fun i p hp => by
    have hi : i < es.size := by rw [hlen]; exact (List.getElem?_eq_some_iff.1 hp).1
    have q : es[i]? = some es[i] := Array.getElem?_eq_getElem hi
    refine ⟨_, q, ?_, h3 i p _ hp q⟩
    have := congrArg (fun l => l[i]?) h2
    simp only [List.getElem?_map, Array.getElem?_toList, q, hp, Option.map_some, Option.some.injEq] at this
    exact this
   rcases findNow_m hs k es.toList m 0 h2 with ⟨q1, _, q2⟩ | ⟨j, en, p, q1, q2, q3, q4, q5, q6⟩
   ·have hf := MapKept.run_findKey (w := g.w) hd q2
    refine ⟨es.push { key := kv k, val := a.eval z, born := clock }, clock + 1, ?_, by rw [mset_none q1]; simp [hlen], fun i p hp => ?_⟩
    ·simp [Instr.mapUpdate, run_underlying ht, MapKept.run_getObj_map h1, K.check, hf, MapKept.run_setObj_map _ h1]
    ·rw [mset_none q1] at hp
     by_cases him : i < m.length
     ·rw [List.getElem?_append_left him] at hp
      obtain ⟨en, w1, w2, w3⟩ := old i p hp
      exact ⟨en, by rw [Array.getElem?_push, if_neg (by omega)]; exact w1, w2, w3⟩
     ·rw [List.getElem?_append_right (by omega)] at hp
      have hi0 : i - m.length = 0 := by
       rcases Nat.eq_zero_or_pos (i - m.length) with h | h
       ·exact h
       ·rw [List.getElem?_eq_none (by simp; omega)] at hp; cases hp
      rw [hi0] at hp
      simp at hp
      subst hp
      refine ⟨_, by rw [Array.getElem?_push, if_pos (by omega)], rfl, hzv⟩
   ·rw [Nat.zero_add] at q5 q6
    have hf := MapKept.run_findKey (w := g.w) hd q6
    have hje : es[j]? = some en := by simpa using q1
    have hkey : en.key = kv p.1 := by
     obtain ⟨en', w1, w2, _⟩ := old j p q2
     rw [hje] at w1; injection w1 with w1; rw [w1]; exact w2
    have hsb : Instr.sameBits 10000 en.key (kv k) = true := by rw [hkey]; exact K.bits k p.1 q3
    refine ⟨es.modify j fun e => { e with key := kv k, val := a.eval z }, clock, ?_, ?_, fun i p' hp => ?_⟩
    ·simp [Instr.mapUpdate, run_underlying ht, MapKept.run_getObj_map h1, K.check, hf, hje, Instr.keyThatStays, hsb, MapKept.run_setObj_map _ h1]
    ·have hg2 := mset_get (v := v) (i := 0) (j := j) (by rw [Nat.zero_add]; exact q5)
     rw [Array.size_modify, hlen]
     have hjm : j < m.length := (List.getElem?_eq_some_iff.1 q2).1
     apply Nat.le_antisymm
     ·apply Nat.not_lt.1
      intro hlt
      have := hg2 (mset m k v).length
      rw [List.getElem?_eq_none (Nat.le_refl _)] at this
      split at this
      ·cases this
      ·rw [List.getElem?_eq_getElem hlt] at this; cases this
     ·apply Nat.not_lt.1
      intro hlt
      have := hg2 m.length
      rw [if_neg (by omega), List.getElem?_eq_none (Nat.le_refl _), List.getElem?_eq_getElem hlt] at this
      cases this
    ·have hg2 := mset_get (v := v) (i := 0) (j := j) (by rw [Nat.zero_add]; exact q5) i
     rw [hg2] at hp
     by_cases hij : i = j
     ·subst hij
      rw [if_pos rfl] at hp
      injection hp with hp
      subst hp
      exact ⟨{ en with key := kv k, val := a.eval z }, by rw [Array.getElem?_modify, if_pos rfl, hje]; rfl, rfl, hzv⟩
     ·rw [if_neg hij] at hp
      obtain ⟨en', w1, w2, w3⟩ := old i p' hp
      exact ⟨en', by rw [Array.getElem?_modify, if_neg (fun e => hij e.symm)]; exact w1, w2, w3⟩
  obtain ⟨w', hw'⟩ : ∃ w' : World, w' = { g.w with heap := g.w.heap.setIfInBounds (g.β n).1 (.map es' clock') } := ⟨_, rfl⟩
  have hlt : (g.β n).1 < g.w.heap.size := (Array.getElem?_eq_some_iff.1 h1).1
  have hfr : ∀ b, b ≠ (g.β n).1 → w'.heap[b]? = g.w.heap[b]? := fun b hb => by rw [hw']; simp [Ne.symm hb]
  have hsz' : w'.heap.size = g.w.heap.size := by rw [hw']; simp
  have hle := Le.put (r' := mRowT kv vf (mset m k v)) hnM hc0 (w := w') hsz' (by rw [hw']) (by rw [hw']) (by rw [hw']) hfr
  refine ⟨undef, g.put n (mRowT kv vf (mset m k v)) w', .inr ⟨?_, rfl⟩, Good.putR hg hnM hc0 hle hsz' hfr (.inr (.inr ⟨rfl, hcap, es', clock', ?_, by rw [hsz]; simp [mRowT], fun i x hx => ?_⟩)), hle, upd_put _ _ _ _, .bot _⟩
  ·rcases hop with hop | hop <;> simp [execOp, hop, hv, hy, hrun, hw', G.put]
  ·show w'.heap[(g.β n).1]? = _
   rw [hw']; simp [hlt]
  ·simp only [mRowT, List.getElem?_map, Option.map_eq_some_iff] at hx
   obtain ⟨p, hp, rfl⟩ := hx
   obtain ⟨en, w1, w2, w3⟩ := hent i p hp
   exact ⟨_, _, en, rfl, w1, w2, w3.mono hg hle⟩
theorem o_lookupT {t e : TypeId} {ei : TI} {x y : Operand} {n : Nat} {vf : β → T} {m : List (α × β)} {k : α} (hop : o.op = .lookup t x y true) (ht : P.underlying t = some (.map kt e)) (he : TOk P e ei) (K : KeyOk P kt kv) :
  OpS P o [(x, .mp n), (y, .d (.v (kv k)))] [(n, mRowT kv vf m)] [] fresh [] (match mget m k with | none => .tup [ei.z, .d (.v (.bool false))] | some v => .tup [vf v, .d (.v (.bool true))]) :=
 .of_pure (fun c h => by rw [hop] at h; cases h) fun g a hg hi hr => by
  have hx := hi (x, .mp n) (by simp)
  have hy := (hi (y, .d (.v (kv k))) (by simp)).v_eq
  generalize hv : a.eval x = v at hx
  cases hx with | mp _ hn =>
  dsimp only at hy
  obtain ⟨_, es, clock, h1, h2, h3⟩ := rowM_T (hg.rows n _ (hr (n, mRowT kv vf m) (by simp)))
  obtain ⟨zv, hzv, h4⟩ := run_lookup_m ht he K h1 h2 k
  rcases h4 with ⟨h5, h6⟩ | ⟨j, p, en, h5, h6, h7, h8⟩
  ·refine ⟨.tuple #[zv, .bool false], by simp [execOp, hop, hv, hy, h6 true], ?_⟩
   rw [h5, hzv]
   exact .tup _ #[zv, .bool false] rfl fun i d c h1 h2 => by
    match i with
    | 0 => simp at h1 h2; subst h1; subst h2; exact VT.ofV g _
    | 1 => simp at h1 h2; subst h1; subst h2; exact .d (.v _ rfl)
    | i + 2 => simp at h1
  ·refine ⟨.tuple #[en.val, .bool true], by simp [execOp, hop, hv, hy, h8 true], ?_⟩
   rw [h7]
   exact .tup _ #[en.val, .bool true] rfl fun i d c h1 h2 => by
    match i with
    | 0 => simp at h1 h2; subst h1; subst h2; exact h3 j p en h5 h6
    | 1 => simp at h1 h2; subst h1; subst h2; exact .d (.v _ rfl)
    | i + 2 => simp at h1
end
section
variable {P : Program} {N : Nat} {ops : Array Oper} {l : List Oper} {ts : List (Nat × T)} {L : List (Option Rw)} {tr : List Stp} {K : List Oper → List Stp → St → Prop} {d : Nat} {ty : TypeId} {pos : String} {af : Array Edge} {gd : Option (Nat × Bool)}
theorem r_insT {t e kt : TypeId} {x y z : Operand} {n : Nat} {k : Int} {v : T} (m q : List (Int × T)) (L' : List (Option Rw)) (ht : P.underlying t = some (.map kt e)) (hk : P.underlying kt = some (.int .i64)) (hx : opT ts x = .mp n) (hy : opT ts y = .d (.v (.int .i64 k))) (hz : opT ts z = v) (hr : L[n]? = some (some ⟨0, m.map fun p => .agg [.d (.v (.int .i64 p.1)), p.2]⟩)) (hq : mset m k v = q) (hL : L.set n (some ⟨0, q.map fun p => .agg [.d (.v (.int .i64 p.1)), p.2]⟩) = L')
  (hw : wantT ops ts ⟨none, .insert t x y z, ty, pos, af, gd⟩ = some true)
  (kk : EvK P N ops l ⟨ts, L'⟩ (tr ++ [.run [n] [n]]) K) : EvK P N ops (⟨none, .insert t x y z, ty, pos, af, gd⟩ :: l) ⟨ts, L⟩ tr K := by
 subst hq hL
 refine ev_cons (.run hw (o_mapSetT (kv := fun a : Int => .int .i64 a) (vf := fun x : T => x) (m := m) (k := k) (v := v) (n := n) (fresh := L.length) (.inr rfl) ht (.int hk)) ?_ ?_ ?_ rfl) ?_
 ·intro p hp
  simp only [List.mem_cons, List.not_mem_nil, or_false] at hp
  rcases hp with rfl | rfl | rfl
  ·exact ⟨hx, by simp [Op.operands]⟩
  ·exact ⟨hy, by simp [Op.operands]⟩
  ·exact ⟨hz, by simp [Op.operands]⟩
 ·intro p hp; simp only [List.mem_cons, List.not_mem_nil, or_false] at hp; subst hp; exact hr
 ·intro p hp; simp only [List.mem_cons, List.not_mem_nil, or_false] at hp; subst hp; exact ⟨_, List.mem_singleton.2 rfl, rfl⟩
 ·simpa [St.eff, putS, setL, mRowT] using kk
theorem r_lkT {t e kt : TypeId} {ei : TI} {x y : Operand} {n : Nat} {k : Int} {v : T} (m : List (Int × T)) (tb : Tab P) (ht : P.underlying t = some (.map kt e)) (hk : P.underlying kt = some (.int .i64)) (he : tb.f e = some ei) (hx : opT ts x = .mp n) (hy : opT ts y = .d (.v (.int .i64 k))) (hr : L[n]? = some (some ⟨0, m.map fun p => .agg [.d (.v (.int .i64 p.1)), p.2]⟩)) (hg : mget m k = some v)
  (hw : wantT ops ts ⟨some d, .lookup t x y true, ty, pos, af, gd⟩ = some true) (hd : Nat.blt d N = true)
  (kk : EvK P N ops l ⟨(d, .tup [v, .d (.v (.bool true))]) :: ts, L⟩ (tr ++ [.run [n] []]) K) : EvK P N ops (⟨some d, .lookup t x y true, ty, pos, af, gd⟩ :: l) ⟨ts, L⟩ tr K := by
 have h := o_lookupT (P := P) (o := ⟨some d, .lookup t x y true, ty, pos, af, gd⟩) (fresh := L.length) (kv := fun a : Int => .int .i64 a) (vf := fun x : T => x) (m := m) (k := k) (n := n) rfl ht (tb.ok _ _ he) (.int hk)
 rw [hg] at h
 exact ev_val (rn := [(n, mRowT (fun a : Int => .int .i64 a) (fun x : T => x) m)]) rfl h hw (by simp [Op.operands, hx, hy]) (by simp [hr, mRowT]) hd kk
theorem r_lkF {t e kt : TypeId} {ei : TI} {x y : Operand} {n : Nat} {k : Int} {z : T} (m : List (Int × T)) (tb : Tab P) (ht : P.underlying t = some (.map kt e)) (hk : P.underlying kt = some (.int .i64)) (he : tb.f e = some ei) (hx : opT ts x = .mp n) (hy : opT ts y = .d (.v (.int .i64 k))) (hr : L[n]? = some (some ⟨0, m.map fun p => .agg [.d (.v (.int .i64 p.1)), p.2]⟩)) (hg : mget m k = none) (hz : ei.z = z)
  (hw : wantT ops ts ⟨some d, .lookup t x y true, ty, pos, af, gd⟩ = some true) (hd : Nat.blt d N = true)
  (kk : EvK P N ops l ⟨(d, .tup [z, .d (.v (.bool false))]) :: ts, L⟩ (tr ++ [.run [n] []]) K) : EvK P N ops (⟨some d, .lookup t x y true, ty, pos, af, gd⟩ :: l) ⟨ts, L⟩ tr K := by
 have h := o_lookupT (P := P) (o := ⟨some d, .lookup t x y true, ty, pos, af, gd⟩) (fresh := L.length) (kv := fun a : Int => .int .i64 a) (vf := fun x : T => x) (m := m) (k := k) (n := n) rfl ht (tb.ok _ _ he) (.int hk)
 rw [hg, hz] at h
 exact ev_val (rn := [(n, mRowT (fun a : Int => .int .i64 a) (fun x : T => x) m)]) rfl h hw (by simp [Op.operands, hx, hy]) (by simp [hr, mRowT]) hd kk
end
def SCA {α : Type} (P : Program) (f : FuncId) (as : List T) (L : List (Option Rw)) (x : Except Int α) (t : T) (L1 : α → List (Option Rw)) (t2 : Int → T) (L2 : List (Option Rw)) : Prop :=
 SC P f as L fun se X => (∃ a, x = .ok a ∧ se = .ret t ∧ X = L1 a) ∨ ∃ e, x = .error e ∧ se = .ret (t2 e) ∧ X = L2
theorem SCA.ok {α : Type} {P : Program} {f : FuncId} {as : List T} {L : List (Option Rw)} {x : Except Int α} {t : T} {L1 : α → List (Option Rw)} {t2 : Int → T} {L2 : List (Option Rw)} (h : SCA P f as L x t L1 t2 L2) {a : α} (hn : x = .ok a) : SCR P f as L t (L1 a) := SC.mono h fun se X hX => by
 rcases hX with ⟨b, h1, h2, h3⟩ | ⟨e, h1, _⟩
 ·rw [hn] at h1; injection h1 with h1; subst h1; exact ⟨h2, h3⟩
 ·rw [hn] at h1; cases h1
theorem SCA.err {α : Type} {P : Program} {f : FuncId} {as : List T} {L : List (Option Rw)} {x : Except Int α} {t : T} {L1 : α → List (Option Rw)} {t2 : Int → T} {L2 : List (Option Rw)} (h : SCA P f as L x t L1 t2 L2) {e : Int} (hn : x = .error e) : SCR P f as L (t2 e) L2 := SC.mono h fun se X hX => by
 rcases hX with ⟨b, h1, _⟩ | ⟨b, h1, h2, h3⟩
 ·rw [hn] at h1; cases h1
 ·rw [hn] at h1; injection h1 with h1; subst h1; exact ⟨h2, h3⟩
end Go.Proofs.Ytdefnmcjmklohaa.Sh
namespace Go.Proofs.Ytdefnmcjmklohaa.Sh
open Go
section
variable {P : Program} {N : Nat} {ops : Array Oper} {l : List Oper} {ts : List (Nat × T)} {L : List (Option Rw)} {tr : List Stp} {K : List Oper → List Stp → St → Prop} {d : Nat} {ty : TypeId} {pos : String} {af : Array Edge} {gd : Option (Nat × Bool)}
theorem r_rem {t1 t2 : TypeId} {x y : Operand} {k : IntKind} {a b : Int} (hx : opT ts x = .d (.v (.int k a))) (hy : opT ts y = .d (.v (.int k b))) (hb : b ≠ 0) (hw : wantT ops ts ⟨some d, .binOp .rem t1 x y t2, ty, pos, af, gd⟩ = some true) (hd : Nat.blt d N = true)
  (kk : EvK P N ops l ⟨(d, .d (.v (.int k (a.tmod b)))) :: ts, L⟩ (tr ++ [.run [] []]) K) : EvK P N ops (⟨some d, .binOp .rem t1 x y t2, ty, pos, af, gd⟩ :: l) ⟨ts, L⟩ tr K :=
 ev_val (ins := [(x, .d (.v (.int k a))), (y, .d (.v (.int k b)))]) rfl (o_bin (p := .int k a) (q := .int k b) (z := .int k (a.tmod b)) rfl rfl (fun w => by simp [go_sem, Op.intDiv, hb])) hw (by simp [Op.operands, hx, hy]) (by simp) hd kk
end
end Go.Proofs.Ytdefnmcjmklohaa.Sh
namespace Go.Proofs.Ytdefnmcjmklohaa.Sh
open Go Go.ChangeShapes Go.WideShapes Go.ChangeAt Go.RowKit Go.Joins Go.Deep
def gW (w : World) : G := ⟨fun _ => none, fun _ => (0, 0), fun b => b < w.heap.size, w⟩
theorem gW_good (w : World) : Good (gW w) := ⟨fun _ _ h => (by cases h), fun _ _ _ _ h => (by cases h), fun _ h => h, fun _ _ _ _ h => (by cases h)⟩
theorem PC.below {P : Program} {f : FuncId} {ds : List D} {y : Value} {vs : List Value} {w : World} (h : PC P f ds (.v y)) (hl : ds.length = vs.length) (hv : ∀ (i : Nat) (d : D) (c : Value), ds[i]? = some d → vs[i]? = some c → VD (gW w) d c) :
  Calls P f vs.toArray w fun e w' => e = .returned y ∧ Below w.heap.size w w' := by
 refine (h (gW w) vs (gW_good w) (by funext n; simp [gW, ofL]) ⟨by simpa using hl, fun i t c ht hc => ?_⟩).mono ?_
 ·rw [List.getElem?_map] at ht
  obtain ⟨d, hd, rfl⟩ := Option.map_eq_some_iff.1 ht
  exact .d (hv i d c hd hc)
 ·rintro e w' ⟨g', se, L', rfl, hg, hle, hM, hse, rfl, rfl⟩
  refine ⟨?_, hle.os, hle.tape, hle.output, hle.size, fun k hk => hle.fr k hk fun _ _ h => (by cases h)⟩
  cases e with
  | returned v =>
   cases hse with | d h => cases h with | v => rfl
  | _ => cases hse
def CV (w : World) (cs : List Value) (d : D) : Prop := cs.length = d.cells.length ∧ ∀ (j : Nat) (e : D) (c : Value), d.cells[j]? = some e → cs[j]? = some c → VD (gW w) e c
section
variable {P : Program} {H : Type} {enc : TypeId × Value → H} {W : World}
theorem CV.one {cs : List Value} {d : D} {c : Value} (hc : cs = [c]) (hd : d.cells = [d]) (h : VD (gW W) d c) : CV W cs d := by
 subst hc
 refine ⟨by rw [hd]; rfl, fun j e c' he hc => ?_⟩
 rw [hd] at he
 cases j with
 | zero => cases he; cases hc; exact h
 | succ j => cases he
theorem addr_plus (b off k : Nat) : (⟨b, off, none⟩ : Addr).add k = ⟨b, off + k, none⟩ := by
 unfold Addr.add
 by_cases h : k = 0
 ·subst h; rfl
 ·simp [h]
theorem op_row {α : Type} (en : α → D) (good : α → Prop) {t e : TypeId} {size : Nat} {n : Nat} {c : Value} {y : DataW H × List MemPlace} (ht : P.underlying t = some (.slice e)) (hc : P.cellsOf e = size) (hs : 0 < size) (hz : ∀ a : α, (en a).cells.length = size)
  (hread : ∀ n cs (y : DataW H × List MemPlace), DataW.trod enc P W 0 (fun _ => true) true n e cs = some y → ∃ a : α, CV W cs (en a) ∧ good a)
  (h : DataW.trod enc P W 0 (fun _ => true) true n t [c] = some y) : ∃ l : List α, VD (gW W) (.arr size (l.map en)) c ∧ l.length ≤ 9223372036854775807 ∧ ∀ a ∈ l, good a := by
 rcases open_slice ht h with ⟨e1, _⟩ | ⟨a, len, cap, m, n', D', Pl, e1, _, hlc, hcm, hm, _, hel⟩
 ·injection e1 with e1
  subst e1
  exact ⟨[], .arr0 _ _ _, by simp, by simp⟩
 ·injection e1 with e1
  subst e1
  rw [if_pos rfl] at hm
  subst m
  unfold maxLen at hcm
  have key : ∀ i : _root_.Fin len, ∃ x : α, good x ∧ ∃ cs, cs.length = size ∧ CV W cs (en x) ∧ ∀ k, k < size → W.cell? ((a.add (i.1 * size)).add k) = cs[k]? := by
   intro i
   obtain ⟨cs', h1, h2⟩ := hel i.1 (by have := i.2; omega)
   rw [hc] at h1
   obtain ⟨x, hcs, hg⟩ := hread _ _ _ h2
   exact ⟨x, hg, cs', hcs.1.trans (hz x), hcs, (World.cells?_some h1).2.2⟩
  obtain ⟨g, hg⟩ := Classical.skolem.1 key
  by_cases hpos : len = 0
  ·subst hpos
   exact ⟨[], .arr0 _ _ _, by simp, by simp⟩
  obtain ⟨b, off, spot⟩ := a
  obtain ⟨cs0, l0, _, h0⟩ := (hg ⟨0, by omega⟩).2
  have h0' := h0 0 hs
  rw [List.getElem?_eq_getElem (by omega)] at h0'
  have hspot : spot = none := by simpa [Addr.add] using World.cell?_spot h0'
  subst hspot
  have hblk : b < W.heap.size := by simpa [Addr.add] using World.block_lt_of_cell? W _ h0'
  have hlen : ((List.finRange len).map g).length = len := by simp
  have hat : ∀ (i : Nat) (hi : i < len), (((List.finRange len).map g).map en)[i]? = some (en (g ⟨i, hi⟩)) := fun i hi => by
   rw [List.getElem?_map, List.getElem?_map, List.getElem?_eq_getElem (by simpa using hi)]
   simp
  have lt : ∀ (i : Nat) (d : D), (((List.finRange len).map g).map en)[i]? = some d → i < len := fun i d h => by
   have := (List.getElem?_eq_some_iff.1 h).1
   simpa using this
  refine ⟨(List.finRange len).map g, ?_, by rw [hlen]; omega, fun x hx => ?_⟩
  ·have hv := VD.arr (g := gW W) size (((List.finRange len).map g).map en) b off cap (fun i j => (W.cell? ⟨b, off + i * size + j, none⟩).getD default) (by rw [List.length_map, hlen]; exact hlc) hblk ?_ ?_ ?_
   ·rwa [List.length_map, hlen] at hv
   ·intro i d hd
    have hi := lt i d hd
    rw [hat i hi] at hd
    injection hd with hd
    subst hd
    exact hz _
   ·intro i d hd j e hj
    have hi := lt i d hd
    rw [hat i hi] at hd
    injection hd with hd
    subst hd
    obtain ⟨cs, l1, c1, c2⟩ := (hg ⟨i, hi⟩).2
    have hjs : j < size := by rw [← hz (g ⟨i, hi⟩)]; exact (List.getElem?_eq_some_iff.1 hj).1
    have := c2 j hjs
    rw [List.getElem?_eq_getElem (by omega)] at this
    rw [addr_plus, addr_plus] at this
    show W.cell? _ = some (Option.getD (W.cell? _) _)
    rw [this]
    rfl
   ·intro i d hd j e hj
    have hi := lt i d hd
    rw [hat i hi] at hd
    injection hd with hd
    subst hd
    obtain ⟨cs, l1, c1, c2⟩ := (hg ⟨i, hi⟩).2
    have hjs : j < size := by rw [← hz (g ⟨i, hi⟩)]; exact (List.getElem?_eq_some_iff.1 hj).1
    have := c2 j hjs
    rw [List.getElem?_eq_getElem (by omega)] at this
    rw [addr_plus, addr_plus] at this
    show VD _ e (Option.getD (W.cell? _) _)
    rw [this]
    exact c1.2 j e _ hj (List.getElem?_eq_getElem (by omega))
  ·obtain ⟨i, _, rfl⟩ := List.mem_map.1 hx
   exact (hg i).1
def CVs (W : World) : List D → List Value → Prop
 | [], [] => True
 | d :: ds, c :: cs => VD (gW W) d c ∧ CVs W ds cs
 | _, _ => False
theorem CVs.at : ∀ {ds : List D} {cs : List Value}, CVs W ds cs → cs.length = ds.length ∧ ∀ (j : Nat) (e : D) (c : Value), ds[j]? = some e → cs[j]? = some c → VD (gW W) e c
 | [], [], _ => ⟨rfl, fun j e c h => by cases h⟩
 | d :: ds, c :: cs, h => by
  obtain ⟨h1, h2⟩ := CVs.at h.2
  refine ⟨by simp [h1], fun j e c' hj hc => ?_⟩
  cases j with
  | zero => cases hj; cases hc; exact h.1
  | succ j => exact h2 j e c' hj hc
 | [], _ :: _, h => h.elim
 | _ :: _, [], h => h.elim
theorem CVs.cv {cs : List Value} {l : List D} (h : CVs W l cs) : CV W cs (.agg l) := h.at
theorem op_int1 {k : IntKind} {t : TypeId} {n : Nat} {cs : List Value} {y : DataW H × List MemPlace} (ht : P.underlying t = some (.int k)) (h : DataW.trod enc P W 0 (fun _ => true) true n t cs = some y) : ∃ a : Int, CV W cs (.v (.int k a)) ∧ (Lit.int k a).wf = true := by
 obtain ⟨a, e, _, hw⟩ := DataW.trod_int ht h
 subst e
 exact ⟨a, .one rfl rfl (.v _ rfl), hw⟩
theorem opV_row {w0 : Nat} {t e : TypeId} {v : Value} {d : DataW H} {p : List MemPlace} {r : Reach} (ht : P.underlying t = some (.slice e)) (hval : Value.okWide P W r w0 t v) (h : DataW.Trod enc P W 0 (fun _ => true) true t v d p) : ∃ n x, DataW.trod enc P W 0 (fun _ => true) true n t [v] = some x := by
 obtain ⟨a, l, c, rfl⟩ := okWide_slice ht hval
 obtain ⟨fuel, hf⟩ := h
 exact ⟨fuel, _, hf⟩
theorem opV_int {k : IntKind} {w0 : Nat} {t : TypeId} {v : Value} {d : DataW H} {p : List MemPlace} (ht : P.underlying t = some (.int k)) (hval : Value.okWide P W .any w0 t v) (h : DataW.Trod enc P W 0 (fun _ => true) true t v d p) : ∃ a : Int, VD (gW W) (.v (.int k a)) v ∧ (Lit.int k a).wf = true := by
 obtain ⟨x, rfl, _, _, wx⟩ := open_int ht hval h
 exact ⟨x, .v _ rfl, wx⟩
theorem CV.agg {cs : Array Value} {l : List D} (h : CV W cs.toList (.agg l)) : VD (gW W) (.agg l) (.agg cs) :=
 .agg l cs (by have := h.1; simp [D.cells] at this; omega) fun i d c hd hc => h.2 i d c hd (by simpa using hc)
end
end Go.Proofs.Ytdefnmcjmklohaa.Sh
namespace Go.Proofs.Ytdefnmcjmklohaa.Sh
open Go
section
variable {P : Program} {o : Oper} {fresh : Nat}
end
section
variable {P : Program} {N : Nat} {ops : Array Oper} {l : List Oper} {ts : List (Nat × T)} {L : List (Option Rw)} {tr : List Stp} {d : Nat} {ty : TypeId} {pos : String} {af : Array Edge} {gd : Option (Nat × Bool)} {K : List Oper → List Stp → St → Prop}
end
end Go.Proofs.Ytdefnmcjmklohaa.Sh
namespace Go.Proofs.Ytdefnmcjmklohaa.Sh
open Go
def natM (z : Int) : Option Nat := if 0 ≤ z ∧ z ≤ 1000000000 then some z.toNat else none
theorem natM_eq {z : Int} {q : Nat} (h : natM z = some q) : z = (q : Int) ∧ q ≤ 1000000000 := by
 unfold natM at h
 split at h
 ·injection h with h; omega
 ·cases h
section
variable {P : Program} {N : Nat} {ops : Array Oper} {l : List Oper} {ts : List (Nat × T)} {L : List (Option Rw)} {tr : List Stp} {d : Nat} {ty : TypeId} {pos : String} {af : Array Edge} {gd : Option (Nat × Bool)} {K : List Oper → List Stp → St → Prop}
theorem r_makeQ {α : Type} {t e : TypeId} {i : TI} {a0 : Bool} {s b0 : Nat} {z0 : T} {sl0 : Option TypeId} {fs0 : List (Nat × Bool × Nat)} {ar0 : Option (Nat × TypeId)} {nf0 : Bool} {x y : Operand} {k k' : IntKind} {z : Int} {q : Nat} {n : Nat} {nr : List Nat} {v : α} {g : α → D} (tb : Tab P) (ht : tb.f t = some i) (hsl : i.sl = some e) (he : tb.f e = some ⟨a0, s, b0, z0, sl0, fs0, ar0, nf0⟩) (h0 : Nat.beq s 0 = false) (hv : z0 = .d (g v))
  (hx : opT ts x = .d (.v (.int k z))) (hy : opT ts y = .d (.v (.int k' z))) (hz : z = (q : Int)) (hq : q ≤ 1000000000) (hb : Nat.ble b0 65536 = true) (hn : nums.drop L.length = n :: nr) (hw : wantT ops ts ⟨some d, .makeSlice t x y, ty, pos, af, gd⟩ = some true) (hd : Nat.blt d N = true)
  (kk : EvK P N ops l ⟨(d, .row n s 0 (List.replicate q v).length) :: ts, L ++ [some ⟨s, (List.replicate q v).map fun a => .d (g a)⟩]⟩ (tr ++ [.run [n] [n]]) K) : EvK P N ops (⟨some d, .makeSlice t x y, ty, pos, af, gd⟩ :: l) ⟨ts, L⟩ tr K := by
 subst hz hv
 have hb' := Nat.le_of_ble_eq_true hb
 refine r_make tb ht hsl he h0 hx hy (by omega) (Nat.le_trans (Nat.mul_le_mul hb' hq) (by decide)) hn hw hd ?_
 rw [List.length_replicate, List.map_replicate] at kk
 exact kk
end
end Go.Proofs.Ytdefnmcjmklohaa.Sh
namespace Go.Proofs.Ytdefnmcjmklohaa.Sh
open Go
section
variable {P : Program} {n0 N : Nat} {Q : SX → St → Prop} {st : St}
theorem SWM.own {c : Code} {ts ts' : List (Nat × T)} {L L' : List (Option Rw)} (s : Nat) (hs : Nat.beq s 0 = false) {m : Nat} {nr : List Nat} (hm : nums.drop L.length = m :: nr) (hts : OwnS m s ts ts') (hL : OwnR m s L L') (h : SWM P n0 N c Q ⟨ts', L' ++ [some ⟨s, []⟩]⟩) : SWM P n0 N c Q ⟨ts, L⟩ :=
 SWM.seen (fun _ _ _ hR => own_see n0 s hs hm hts hL hR) h
end
end Go.Proofs.Ytdefnmcjmklohaa.Sh
namespace Go.Proofs.Ytdefnmcjmklohaa.Sh
open Go
section
variable {P : Program} {N : Nat} {ops : Array Oper} {l : List Oper} {ts : List (Nat × T)} {L : List (Option Rw)} {tr : List Stp} {K : List Oper → List Stp → St → Prop} {d : Nat} {ty : TypeId} {pos : String} {af : Array Edge} {gd : Option (Nat × Bool)}
end
structure DfK (P : Program) (fd : FuncId) (c2 : Code) (N2 m : Nat) (tyE : TypeId) : Prop where
 idle : ∀ (ds : Array Value) (w : World), ds.size = m → CallsDIn Fence.wide 0 P fd ds .returning w fun e u' w' => e = .returned (.tuple #[]) ∧ u' = .returning ∧ w' = w
 caught : ∀ (ds : Array Value) (v : Value) (older : List PanicEntry) (w : World) (R : World → Prop), ds.size = m → (∃ c, v = .iface tyE c) → (∀ a : Act, a.defers = [] → a.tmps.size = N2 → (∀ i, i < m → a.tmps.getD i undef = ds.getD i undef) → a.tmps.getD m undef = v → c2.wpIn Fence.wide 0 P (fun ex a' w' => ex = .normal ∧ a'.defers = [] ∧ R w') a w) →
  CallsDIn Fence.wide 0 P fd ds (.panicking ({ v, recovered := false } :: older)) w fun e u' w' => e = .returned (.tuple #[]) ∧ u' = .panicking ({ v, recovered := true } :: older) ∧ R w'
section
variable {P : Program} {fn : Func} {n0 N : Nat} {R : SE → List (Option Rw) → Prop} {st : St}
end
def SCB {α : Type} (P : Program) (f : FuncId) (as : List T) (L : List (Option Rw)) (x : Except Int α) (t : α → T) (L1 : α → List (Option Rw)) (t2 : Int → T) (L2 : List (Option Rw)) : Prop :=
 SC P f as L fun se X => (∃ a, x = .ok a ∧ se = .ret (t a) ∧ X = L1 a) ∨ ∃ e, x = .error e ∧ se = .ret (t2 e) ∧ X = L2
theorem SCB.ok {α : Type} {P : Program} {f : FuncId} {as : List T} {L : List (Option Rw)} {x : Except Int α} {t : α → T} {L1 : α → List (Option Rw)} {t2 : Int → T} {L2 : List (Option Rw)} (h : SCB P f as L x t L1 t2 L2) {a : α} (hn : x = .ok a) : SCR P f as L (t a) (L1 a) := SC.mono h fun se X hX => by
 rcases hX with ⟨b, h1, h2, h3⟩ | ⟨e, h1, _⟩
 ·rw [hn] at h1; injection h1 with h1; subst h1; exact ⟨h2, h3⟩
 ·rw [hn] at h1; cases h1
theorem SCB.err {α : Type} {P : Program} {f : FuncId} {as : List T} {L : List (Option Rw)} {x : Except Int α} {t : α → T} {L1 : α → List (Option Rw)} {t2 : Int → T} {L2 : List (Option Rw)} (h : SCB P f as L x t L1 t2 L2) {e : Int} (hn : x = .error e) : SCR P f as L (t2 e) L2 := SC.mono h fun se X hX => by
 rcases hX with ⟨b, h1, _⟩ | ⟨b, h1, h2⟩
 ·rw [hn] at h1; cases h1
 ·rw [hn] at h1; injection h1 with h1; subst h1; exact h2
end Go.Proofs.Ytdefnmcjmklohaa.Sh
namespace Go.Proofs.Ytdefnmcjmklohaa.Sh
open Go
def lnO (a b : Nat) : Option Unit := if a = b then some () else none
theorem lnO_eq {a b : Nat} {u : Unit} (h : lnO a b = some u) : a = b := by
 unfold lnO at h
 split at h
 ·assumption
 ·cases h
section
variable {P : Program} {n0 N : Nat} {df : List Deferred} {Q : SX → St → Prop} {st : St} {x y : Code}
def Seen (n0 N : Nat) (st st' : St) : Prop := ∀ (g : G) (a : Act) (df : List Deferred), StR g N st a df → ∃ g', g'.w = g.w ∧ LeN n0 g g' ∧ StR g' N st' a df
theorem Seen.refl (n0 N : Nat) (st : St) : Seen n0 N st st := fun g _ _ h => ⟨g, rfl, .refl n0 g, h⟩
theorem Seen.trans {n0 N : Nat} {a b c : St} (h : Seen n0 N a b) (k : Seen n0 N b c) : Seen n0 N a c := fun g x df hR => by
 obtain ⟨g1, h1, h2, h3⟩ := h g x df hR
 obtain ⟨g2, k1, k2, k3⟩ := k g1 x df h3
 exact ⟨g2, k1.trans h1, h2.trans k2, k3⟩
theorem Seen.own {n0 N : Nat} {ts ts' : List (Nat × T)} {L L' : List (Option Rw)} {st' : St} (s : Nat) (hs : Nat.beq s 0 = false) {m : Nat} {nr : List Nat} (hm : nums.drop L.length = m :: nr) (hts : OwnS m s ts ts') (hL : OwnR m s L L') (k : Seen n0 N ⟨ts', L' ++ [some ⟨s, []⟩]⟩ st') : Seen n0 N ⟨ts, L⟩ st' :=
 Seen.trans (fun _ _ _ hR => own_see n0 s hs hm hts hL hR) k
theorem Seen.vw {n0 N : Nat} {st st' : St} {κ : List Nat} (h : Vw n0 st st' κ) : Seen n0 N st st' := fun _ _ _ hR => h.see hR
def prn (l : List Nat) (ts : List (Nat × T)) : List (Nat × T) := l.map fun i => (i, getS ts i)
theorem prn_get (l : List Nat) (ts : List (Nat × T)) (i : Nat) : getS (prn l ts) i = getS ts i ∨ getS (prn l ts) i = .bot := by
 induction l with
 | nil => exact .inr rfl
 | cons j l ih =>
  simp only [prn, List.map_cons, getS]
  cases hb : Nat.beq i j with
  | true => have := Nat.eq_of_beq_eq_true hb; subst this; exact .inl rfl
  | false => exact ih
theorem Seen.prn {n0 N : Nat} {st st' : St} (l : List Nat) (h : st' = ⟨Sh.prn l st.ts, st.L⟩) : Seen n0 N st st' := fun g a df hR => by
 subst h
 refine ⟨g, rfl, .refl n0 g, hR.good, hR.M, hR.size, fun i => ?_, hR.df⟩
 rcases prn_get l st.ts i with e | e
 ·dsimp only; rw [e]; exact hR.ts i
 ·dsimp only; rw [e]; exact .bot _
theorem SWM.mono {Q' : SX → St → Prop} (h : SWM P n0 N x Q st) (k : ∀ sx st, Q sx st → Q' sx st) : SWM P n0 N x Q' st := fun nn db g a df hR hd =>
 wpIn_mono (h nn db g a df hR hd) fun _ _ _ ⟨g', sx, st', df', h1, h2, h3, h4, h5, h6⟩ => ⟨g', sx, st', df', h1, h2, h3, h4, h5, k _ _ h6⟩
theorem SWY.seen {st' : St} (hv : Seen n0 N st st') (h : SWY P n0 N x Q st') : SWY P n0 N x Q st := fun F nn hF g a hR => by
 obtain ⟨g1, hw, hl, hR1⟩ := hv _ _ _ hR
 have := h F nn hF g1 a hR1
 rw [hw] at this
 exact wpR_mono this fun _ _ _ ⟨g', sx, st', h1, h2, h3, h4, h5⟩ => ⟨g', sx, st', h1, hl.trans h2, h3, h4, h5⟩
theorem sw_loopS {c : Code} (I : Nat → St → Prop) {m : Nat} {st0 : St} (hv : Seen n0 N st st0) (h0 : I m st0)
  (h : ∀ m st, I m st → SW P n0 N df c (thenQ (fun st' => ∃ m' st'', m' < m ∧ Seen n0 N st' st'' ∧ I m' st'') Q) st) : SW P n0 N df (.loop c) Q st := by
 refine SW.seen (fun _ _ hR => hv _ _ _ hR) ?_
 intro F nn hF g a hR
 let Pm : Nat → Act → World → Prop := fun m a' w' => ∃ g' st', g'.w = w' ∧ LeN n0 g g' ∧ StR g' N st' a' df ∧ I m st'
 have hex : ∃ pick : Act → World → Nat, ∀ a' w', (∃ m, Pm m a' w') → Pm (pick a' w') a' w' ∧ ∀ k, Pm k a' w' → pick a' w' ≤ k := by
  have h1 : ∀ p : Act × World, ∃ m, (∃ m, Pm m p.1 p.2) → Pm m p.1 p.2 ∧ ∀ k, Pm k p.1 p.2 → m ≤ k := fun p => by
   by_cases h : ∃ m, Pm m p.1 p.2
   ·obtain ⟨m, hm⟩ := least h; exact ⟨m, fun _ => hm⟩
   ·exact ⟨0, fun h' => absurd h' h⟩
  exact ⟨fun a' w' => Classical.choose (h1 (a', w')), fun a' w' => Classical.choose_spec (h1 (a', w'))⟩
 obtain ⟨pick, hpick⟩ := hex
 refine wpIn_loop (fun a' w' => ∃ m, Pm m a' w') pick ⟨m, g, st0, rfl, .refl n0 g, hR, h0⟩ fun a' w' hI => ?_
 obtain ⟨⟨g1, st1, rfl, hl1, hR1, hI1⟩, _⟩ := hpick a' w' hI
 refine wpIn_mono (h _ st1 hI1 F nn hF g1 a' hR1) ?_
 rintro ex a2 w2 ⟨g2, sx, st2, rfl, k2, k3, k4, k5⟩
 cases sx with
 | norm =>
  cases ex <;> first | exact k4.elim | skip
  obtain ⟨m', st3, hlt, hv3, hI2⟩ := k5
  obtain ⟨g3, hw3, hl3, hR3⟩ := hv3 _ _ _ k3
  have hP : Pm m' a2 g2.w := ⟨g3, st3, hw3, (hl1.trans k2).trans hl3, hR3, hI2⟩
  have hex : ∃ m, Pm m a2 g2.w := ⟨m', hP⟩
  exact ⟨hex, Nat.lt_of_le_of_lt ((hpick a2 g2.w hex).2 m' hP) hlt⟩
 | ret => cases ex <;> first | exact k4.elim | exact ⟨g2, _, st2, rfl, hl1.trans k2, k3, k4, k5⟩
 | exit i => cases ex <;> first | exact k4.elim | exact ⟨g2, _, st2, rfl, hl1.trans k2, k3, k4, k5⟩
 | pan t => cases ex <;> first | exact k4.elim | exact ⟨g2, _, st2, rfl, hl1.trans k2, k3, k4, k5⟩
end
section
variable {P : Program} {X : JX} {N : Nat} {Q : SX → SX → St → Prop} {ph : SX} {st : St}
theorem swj_loopS {c : Code} (I : Nat → SX → St → Prop) {m : Nat} {st0 : St} (hv : Seen X.n1 N st st0) (h0 : I m ph st0)
  (h : ∀ m ph st, I m ph st → SWJ P X N c (thenJ (fun ph' st' => ∃ m' st'', m' < m ∧ Seen X.n1 N st' st'' ∧ I m' ph' st'') Q) ph st) : SWJ P X N (.loop c) Q ph st := by
 refine SWJ.seen (fun _ _ hR => hv _ _ _ hR) ?_
 intro F nn hF r g a hj hR
 let Pm : Nat → Act → World → Prop := fun m a' w' => ∃ g' ph' st', g'.w = w' ∧ LeL X.l X.n1 g g' ∧ JOk X r ph' g' ∧ StR g' N st' a' [] ∧ I m ph' st'
 have hex : ∃ pick : Act → World → Nat, ∀ a' w', (∃ m, Pm m a' w') → Pm (pick a' w') a' w' ∧ ∀ k, Pm k a' w' → pick a' w' ≤ k := by
  have h1 : ∀ p : Act × World, ∃ m, (∃ m, Pm m p.1 p.2) → Pm m p.1 p.2 ∧ ∀ k, Pm k p.1 p.2 → m ≤ k := fun p => by
   by_cases h : ∃ m, Pm m p.1 p.2
   ·obtain ⟨m, hm⟩ := least h; exact ⟨m, fun _ => hm⟩
   ·exact ⟨0, fun h' => absurd h' h⟩
  exact ⟨fun a' w' => Classical.choose (h1 (a', w')), fun a' w' => Classical.choose_spec (h1 (a', w'))⟩
 obtain ⟨pick, hpick⟩ := hex
 refine wpIn_loop (fun a' w' => ∃ m, Pm m a' w') pick ⟨m, g, ph, st0, rfl, .refl _ _ g, hj, hR, h0⟩ fun a' w' hI => ?_
 obtain ⟨⟨g1, ph1, st1, rfl, hl1, hj1, hR1, hI1⟩, _⟩ := hpick a' w' hI
 refine wpIn_mono (h _ ph1 st1 hI1 F nn hF r g1 a' hj1 hR1) ?_
 rintro ex a2 w2 ⟨g2, ph2, sx, st2, rfl, k3, e2, e1, e4, e5⟩
 cases sx with
 | norm =>
  cases ex <;> first | exact e4.elim | skip
  obtain ⟨m', st3, hlt, hv3, hI2⟩ := e5
  obtain ⟨g3, hw3, hl3, hR3⟩ := hv3 _ _ _ e2
  have hP : Pm m' a2 g2.w := ⟨g3, ph2, st3, hw3, (hl1.trans k3).trans (hl3.toL _), e1.step e2.good hl3, hR3, hI2⟩
  have hex : ∃ m, Pm m a2 g2.w := ⟨m', hP⟩
  exact ⟨hex, Nat.lt_of_le_of_lt ((hpick a2 g2.w hex).2 m' hP) hlt⟩
 | ret => cases ex <;> first | exact e4.elim | exact ⟨g2, ph2, _, st2, rfl, hl1.trans k3, e2, e1, e4, e5⟩
 | exit i => cases ex <;> first | exact e4.elim | exact ⟨g2, ph2, _, st2, rfl, hl1.trans k3, e2, e1, e4, e5⟩
 | pan t => cases ex <;> first | exact e4.elim | exact ⟨g2, ph2, _, st2, rfl, hl1.trans k3, e2, e1, e4, e5⟩
end
end Go.Proofs.Ytdefnmcjmklohaa.Sh
namespace Go.Proofs.Ytdefnmcjmklohaa.Sh
open Go
def ishr (k : IntKind) (a b : Int) : Int := a.fdiv (2 ^ (min b.toNat k.bits))
section
variable {P : Program} {o : Oper} {fresh : Nat}
end
def appI {α : Type} (l m : List α) : Option (List α) := if l.length + m.length ≤ 17592186044416 then some (l ++ m) else none
theorem appI_le {α : Type} {l m q : List α} (h : appI l m = some q) : l.length + m.length ≤ 17592186044416 ∧ q = l ++ m := by
 unfold appI at h; split at h
 ·injection h with h; exact ⟨by assumption, h.symm⟩
 ·cases h
section
variable {P : Program} {N : Nat} {ops : Array Oper} {l : List Oper} {ts : List (Nat × T)} {L : List (Option Rw)} {tr : List Stp} {d : Nat} {ty : TypeId} {pos : String} {af : Array Edge} {gd : Option (Nat × Bool)} {K : List Oper → List Stp → St → Prop}
theorem r_apEI {α : Type} {t e : TypeId} {i ei : TI} {x y : Operand} {s n len : Nat} {w v q : List α} {g : α → D} (L' : List (Option Rw)) (tb : Tab P) (ht : tb.f t = some i) (hsl : i.sl = some e) (he : tb.f e = some ei) (hz : ei.size = s) (hx : opT ts x = .row n s 0 len) (hy : opT ts y = .d (.arr s (v.map g))) (hr : L[n]? = some (some ⟨s, w.map fun a => .d (g a)⟩)) (hlen : w.length = len)
  (h1 : ∀ a, allOne (T.d (g a)).cells = true) (hq : appI w v = some q) (hb : Nat.ble ei.bytes 8 = true) (hL : L.set n none = L') {nn : Nat} {nr : List Nat} (hnn : nums.drop L.length = nn :: nr)
  (hw : wantT ops ts ⟨some d, .call { callee := .builtin .append, args := #[x, y], argTypes := #[t, t] }, ty, pos, af, gd⟩ = some true) (hd : Nat.blt d N = true)
  (k : EvK P N ops l ⟨(d, .row nn s 0 q.length) :: ts, L' ++ [some ⟨s, q.map fun a => .d (g a)⟩]⟩ (tr ++ [.run [n, nn] [n, nn]]) K) : EvK P N ops (⟨some d, .call { callee := .builtin .append, args := #[x, y], argTypes := #[t, t] }, ty, pos, af, gd⟩ :: l) ⟨ts, L⟩ tr K := by
 obtain ⟨h2, rfl⟩ := appI_le hq
 have e0 := nums_eq hnn
 subst hlen hL hz e0
 have hb' := Nat.le_of_ble_eq_true hb
 have hnl : n < L.length := (List.getElem?_eq_some_iff.1 hr).1
 refine ev_cons (.run hw (o_append (fresh := L.length) (n := n) (s := ei.size) (len := w.length) (r := ⟨ei.size, w.map fun a => .d (g a)⟩) (u := .d (.arr ei.size (v.map g))) (rn := [(n, ⟨ei.size, w.map fun a => .d (g a)⟩)]) (l := v.map fun a => .d (g a)) rfl (tb.ok _ _ ht) hsl (tb.ok _ _ he) rfl (.inr (.inl ⟨v.map g, rfl, by rw [List.map_map]; rfl⟩)) (by simp) rfl (by simp) (ones_map h1) (by simp; omega) (Nat.le_trans (Nat.mul_le_mul (show w.length + (v.map fun a => T.d (g a)).length ≤ 17592186044416 by simpa using h2) hb') (by decide)) (by omega)) ?_ ?_ ?_ hd) ?_
 ·intro p hp
  simp only [List.mem_cons, List.not_mem_nil, or_false] at hp
  rcases hp with rfl | rfl
  ·exact ⟨hx, by simp [Op.operands, Call.operands]⟩
  ·exact ⟨hy, by simp [Op.operands, Call.operands]⟩
 ·intro p hp; simp only [List.mem_cons, List.not_mem_nil, or_false] at hp; subst hp; exact hr
 ·intro p hp; simp only [List.mem_cons, List.not_mem_nil, or_false] at hp; subst hp; exact ⟨_, List.mem_singleton.2 rfl, rfl⟩
 ·rw [List.length_append, List.map_append] at k
  simpa [St.eff, putS, setL] using k
theorem r_shr {t1 t2 : TypeId} {x y : Operand} {k k2 : IntKind} {a b : Int} (hx : opT ts x = .d (.v (.int k a))) (hy : opT ts y = .d (.v (.int k2 b))) (hb : ¬ b < 0) (hw : wantT ops ts ⟨some d, .binOp .shr t1 x y t2, ty, pos, af, gd⟩ = some true) (hd : Nat.blt d N = true)
  (kk : EvK P N ops l ⟨(d, .d (.v (.int k (ishr k a b)))) :: ts, L⟩ (tr ++ [.run [] []]) K) : EvK P N ops (⟨some d, .binOp .shr t1 x y t2, ty, pos, af, gd⟩ :: l) ⟨ts, L⟩ tr K :=
 ev_val (ins := [(x, .d (.v (.int k a))), (y, .d (.v (.int k2 b)))]) rfl (o_bin (p := .int k a) (q := .int k2 b) (z := .int k (ishr k a b)) rfl rfl (fun w => by simp [go_sem, Op.shift, hb, ishr])) hw (by simp [Op.operands, hx, hy]) (by simp) hd kk
end
end Go.Proofs.Ytdefnmcjmklohaa.Sh
namespace Go.Proofs.Ytdefnmcjmklohaa.Sh
open Go Go.ChangeShapes Go.WideShapes Go.ChangeAt Go.RowKit Go.Joins Go.Deep
section
variable {P : Program} {H : Type} {enc : TypeId × Value → H} {W : World}
end
end Go.Proofs.Ytdefnmcjmklohaa.Sh
namespace Go.Proofs.Ytdefnmcjmklohaa.Sh
open Go
section
variable {P : Program} {o : Oper} {fresh : Nat}
end
section
variable {P : Program} {N : Nat} {ops : Array Oper} {l : List Oper} {ts : List (Nat × T)} {L : List (Option Rw)} {tr : List Stp} {K : List Oper → List Stp → St → Prop} {d : Nat} {ty : TypeId} {pos : String} {af : Array Edge} {gd : Option (Nat × Bool)}
end
end Go.Proofs.Ytdefnmcjmklohaa.Sh
namespace Go.Proofs.Ytdefnmcjmklohaa.Sh
open Go
structure LeA (A : Nat → Prop) (n0 : Nat) (g g' : G) : Prop where
 e : ∀ n, n < n0 → g.M n ≠ none → g'.M n ≠ none ∧ g'.β n = g.β n
 size : g.w.heap.size ≤ g'.w.heap.size
 os : g'.w.os = g.w.os
 tape : g'.w.tape = g.w.tape
 output : g'.w.output = g.w.output
 fr : ∀ b, b < g.w.heap.size → NL g b → ¬ A b → g'.w.heap[b]? = g.w.heap[b]?
 k : ∀ b, g.K b → g'.K b
 k' : ∀ b, b < g.w.heap.size → g'.K b → g.K b ∨ ¬ NL g b
 nl : ∀ n r, g'.M n = some (some r) → (g'.β n).2 ≠ 0 → (g'.β n).1 < g.w.heap.size → ¬ NL g (g'.β n).1
section
variable {A B : Nat → Prop} {l n0 n1 : Nat} {g g' : G}
theorem LeN.toA (h : LeN n0 g g') (A : Nat → Prop) : LeA A n0 g g' := ⟨h.e, h.size, h.os, h.tape, h.output, fun b hb hn _ => h.fr b hb hn, h.k, h.k', h.nl⟩
theorem LeL.toA (h : LeL l n0 g g') : LeA (· = l) n0 g g' := ⟨h.e, h.size, h.os, h.tape, h.output, h.fr, h.k, h.k', h.nl⟩
theorem LeA.grow (h : LeA A n0 g g') (hA : ∀ b, A b → B b) : LeA B n0 g g' := ⟨h.e, h.size, h.os, h.tape, h.output, fun b hb hn ha => h.fr b hb hn fun hx => ha (hA b hx), h.k, h.k', h.nl⟩
theorem LeA.less (h : LeA A n0 g g') (hn : n1 ≤ n0) : LeA A n1 g g' := ⟨fun n hlt => h.e n (by omega), h.size, h.os, h.tape, h.output, h.fr, h.k, h.k', h.nl⟩
theorem LeA.refl (A : Nat → Prop) (n0 : Nat) (g : G) : LeA A n0 g g := (LeN.refl n0 g).toA A
theorem LeA.keepNL (h : LeA A n0 g g') {b : Nat} (hb : b < g.w.heap.size) (hn : NL g b) : NL g' b := fun n r hr h0 he => h.nl n r hr h0 (by rw [he]; exact hb) (he ▸ hn)
theorem LeA.trans {a b c : G} (h : LeA A n0 a b) (k : LeA A n0 b c) : LeA A n0 a c where
 e n hlt hn := by
  obtain ⟨h1, h2⟩ := h.e n hlt hn
  obtain ⟨k1, k2⟩ := k.e n hlt h1
  exact ⟨k1, k2.trans h2⟩
 size := Nat.le_trans h.size k.size
 os := k.os.trans h.os
 tape := k.tape.trans h.tape
 output := k.output.trans h.output
 fr x hx hn hl := (k.fr x (Nat.lt_of_lt_of_le hx h.size) (h.keepNL hx hn) hl).trans (h.fr x hx hn hl)
 k x hx := k.k x (h.k x hx)
 k' x hx hk := by
  rcases k.k' x (Nat.lt_of_lt_of_le hx h.size) hk with h1 | h1
  ·exact h.k' x hx h1
  ·exact .inr fun hn => h1 (h.keepNL hx hn)
 nl n r hr h0 hlt := by
  intro hn
  exact k.nl n r hr h0 (Nat.lt_of_lt_of_le hlt h.size) (h.keepNL hlt hn)
theorem LeA.drop (h : LeA B n0 g g') (hB : ∀ b, b < g.w.heap.size → B b → A b) : LeA A n0 g g' := ⟨h.e, h.size, h.os, h.tape, h.output, fun b hb hn ha => h.fr b hb hn fun hx => ha (hB b hb hx), h.k, h.k', h.nl⟩
theorem LeA.toN (h : LeA A n0 g g') (hA : ∀ b, b < g.w.heap.size → ¬ A b) : LeN n0 g g' := ⟨h.e, h.size, h.os, h.tape, h.output, fun b hb hn => h.fr b hb hn (hA b hb), h.k, h.k', h.nl⟩
theorem LeA.at (h : LeA A n0 g g') {b : Nat} (hb : b < g.w.heap.size) (hn : NL g b) (hk : ¬ g.K b) (ha : ¬ A b) : g'.w.heap[b]? = g.w.heap[b]? ∧ ¬ g'.K b :=
 ⟨h.fr b hb hn ha, fun hk' => by rcases h.k' b hb hk' with h1 | h1; exact hk h1; exact h1 hn⟩
end
structure Cx (Φ : Type) where
 A : Nat → Prop
 own : Nat → Prop
 n1 : Nat
 ok : Φ → G → Prop
 sub : ∀ b, A b → own b
 lt : ∀ ph g, ok ph g → ∀ b, own b → b < g.w.heap.size
 nk : ∀ ph g, ok ph g → ∀ b, own b → ¬ g.K b
 step : ∀ (S : Nat → Prop) ph g g', ok ph g → Good g → LeA S n1 g g' → (∀ b, S b → ¬ g.K b) → (∀ b, S b → ¬ own b) → ok ph g'
def Cx.zero (n : Nat) : Cx Unit := ⟨fun _ => False, fun _ => False, n, fun _ _ => True, fun _ h => h, fun _ _ _ _ h => h.elim, fun _ _ _ _ h => h.elim, fun _ _ _ _ _ _ _ _ _ => trivial⟩
def Cx.up {Φ : Type} (C : Cx Φ) (m : Nat) (h : C.n1 ≤ m) : Cx Φ := ⟨C.A, C.own, m, C.ok, C.sub, C.lt, C.nk, fun S ph g g' h1 h2 h3 => C.step S ph g g' h1 h2 (h3.less h)⟩
theorem Cx.stepN {Φ : Type} (C : Cx Φ) {ph : Φ} {g g' : G} (h : C.ok ph g) (hg : Good g) (hl : LeN C.n1 g g') : C.ok ph g' := C.step (fun _ => False) ph g g' h hg (hl.toA _) (fun _ h => h.elim) (fun _ h => h.elim)
def PostC {Φ : Type} (C : Cx Φ) (g : G) (N : Nat) (Q : Φ → SX → St → Prop) : Exit → Act → World → Prop := fun ex a' w' =>
 ∃ g' ph sx st, g'.w = w' ∧ LeA C.A C.n1 g g' ∧ StR g' N st a' [] ∧ C.ok ph g' ∧ XR g' sx ex ∧ Q ph sx st
theorem PostC.trans {Φ : Type} {C : Cx Φ} {g g1 : G} {N : Nat} {Q : Φ → SX → St → Prop} (hl : LeA C.A C.n1 g g1) {ex : Exit} {a : Act} {w : World} (h : PostC C g1 N Q ex a w) : PostC C g N Q ex a w := by
 obtain ⟨g', ph, sx, st, h1, h2, h3⟩ := h
 exact ⟨g', ph, sx, st, h1, hl.trans h2, h3⟩
def SWC {Φ : Type} (P : Program) (C : Cx Φ) (N : Nat) (c : Code) (Q : Φ → SX → St → Prop) (ph : Φ) (st : St) : Prop :=
 ∀ (F : Fence) (nn : Nat), Wd F → ∀ (g : G) (a : Act), C.ok ph g → StR g N st a [] → c.wpIn F nn P (PostC C g N Q) a g.w
section
variable {Φ : Type} {P : Program} {C : Cx Φ} {N : Nat} {Q : Φ → SX → St → Prop} {ph : Φ} {st : St}
theorem SWC.seen {c : Code} {st' : St} (k : ∀ (g : G) (a : Act), StR g N st a [] → ∃ g', g'.w = g.w ∧ LeN C.n1 g g' ∧ StR g' N st' a []) (h : SWC P C N c Q ph st') : SWC P C N c Q ph st := fun F nn hF g a hj hR => by
 obtain ⟨g', hw, hle, hR'⟩ := k g a hR
 have := h F nn hF g' a (C.stepN hj hR.good hle) hR'
 rw [hw] at this
 exact wpIn_mono this fun _ _ _ hq => hq.trans (hle.toA _)
theorem SWC.own {c : Code} {ts ts' : List (Nat × T)} {L L' : List (Option Rw)} (s : Nat) (hs : Nat.beq s 0 = false) {m : Nat} {nr : List Nat} (hm : nums.drop L.length = m :: nr) (hts : OwnS m s ts ts') (hL : OwnR m s L L') (h : SWC P C N c Q ph ⟨ts', L' ++ [some ⟨s, []⟩]⟩) : SWC P C N c Q ph ⟨ts, L⟩ :=
 SWC.seen (fun _ _ hR => own_see C.n1 s hs hm hts hL hR) h
end
end Go.Proofs.Ytdefnmcjmklohaa.Sh
namespace Go.Proofs.Ytdefnmcjmklohaa.Sh
open Go
section
variable {Φ : Type} {P : Program} {C : Cx Φ} {X : JX} {r : JR} {n N : Nat} {h1 : C.n1 ≤ n} {h2 : X.n1 ≤ n} {Q : SX × Φ → SX → St → Prop} {φ : Φ}
end
section
variable {Φ : Type} {P : Program} {C : Cx Φ} {N : Nat} {Q : Φ → SX → St → Prop} {ph : Φ} {st : St}
end
theorem NewsR.map {nn : Nat} {α : Type} {w : List α} {kf : α → Value} {vf : α → D} {l l' : List Rw} (q : NewsR nn l l') : NewsR nn (⟨0, w.map fun p => .agg [.d (.v (kf p)), .d (vf p)]⟩ :: l) (⟨0, w.map fun p => .agg [.d (.v (kf p)), .d (vf p)]⟩ :: l') := by
 refine .cons ?_ q
 have h := RnO.eq (σ := fun n => nn + n) (.map (w := w) (kf := kf) (vf := vf) .nil)
 simp only [List.map_cons, List.map_nil, Option.map_some, List.cons.injEq, Option.some.injEq, and_true] at h
 exact h
end Go.Proofs.Ytdefnmcjmklohaa.Sh
namespace Go.Proofs.Ytdefnmcjmklohaa.Sh
open Go
inductive SubR : List (Option Rw) → List (Option Rw) → Prop where
 | nil (l : List (Option Rw)) : SubR [] l
 | keep {x : Option Rw} {l l' : List (Option Rw)} (h : SubR l l') : SubR (x :: l) (x :: l')
 | drop {x : Option Rw} {l l' : List (Option Rw)} (h : SubR l l') : SubR (none :: l) (x :: l')
theorem SubR.get {l l' : List (Option Rw)} (h : SubR l l') : ∀ (n : Nat) (r : Rw), l[n]? = some (some r) → l'[n]? = some (some r) := by
 induction h with
 | nil => intro n r h; simp at h
 | keep _ ih => intro n r h; cases n with
  | zero => simpa using h
  | succ n => simpa using ih n r (by simpa using h)
 | drop _ ih => intro n r h; cases n with
  | zero => simp at h
  | succ n => simpa using ih n r (by simpa using h)
inductive CastD : D → D → Prop where
 | same (x : D) : CastD x x
 | nil (s : Nat) : CastD (.v (.slice none 0 0)) (.arr s [])
 | agg0 : CastD (.agg []) (.agg [])
 | aggc {x x' : D} {l l' : List D} (h : CastD x x') (q : CastD (.agg l) (.agg l')) : CastD (.agg (x :: l)) (.agg (x' :: l'))
theorem CastD.val {g : G} {d d' : D} (h : CastD d d') : ∀ c, VD g d c → VD g d' c := by
 induction h with
 | same => exact fun _ h => h
 | nil s =>
  intro c hv
  cases hv with | v x h => exact .arr0 s none 0
 | agg0 => exact fun _ h => h
 | aggc h q ih iq =>
  intro c hv
  cases hv with | agg l0 cs hl hc =>
  have hsz : cs.toList.length ≠ 0 := by intro e; simp at e; subst e; simp at hl
  obtain ⟨y, ys, hys⟩ : ∃ y ys, cs = (y :: ys).toArray := by
   obtain ⟨l2⟩ := cs
   cases l2 with
   | nil => simp at hsz
   | cons y ys => exact ⟨y, ys, rfl⟩
  subst hys
  have h2 := iq (.agg ys.toArray) (.agg _ _ (by simpa using hl) fun i d c h1 h2 => hc (i + 1) d c (by simpa using h1) (by simpa using h2))
  cases h2 with | agg l3 cs3 hl3 hc3 =>
  refine .agg _ _ (by simpa using hl3) fun i d c h1 h2 => ?_
  cases i with
  | zero =>
   simp only [List.getElem?_cons_zero, Option.some.injEq] at h1
   subst h1
   simp only [List.getElem?_toArray, List.getElem?_cons_zero, Option.some.injEq] at h2
   subst h2
   exact ih _ (hc 0 _ _ rfl rfl)
  | succ i => exact hc3 i d c (by simpa using h1) (by simpa using h2)
theorem CastD.valT {g : G} {d d' : D} (h : CastD d d') {c : Value} (hv : VT g (.d d) c) : VT g (.d d') c := by
 cases hv with | d hv => exact .d (h.val _ hv)
inductive CastDs : List D → List D → Prop where
 | nil : CastDs [] []
 | cons {x y : D} {l l' : List D} (h : CastD x y) (q : CastDs l l') : CastDs (x :: l) (y :: l')
theorem CastDs.get {l l' : List D} (h : CastDs l l') : l.length = l'.length ∧ ∀ (i : Nat) (y : D), l'[i]? = some y → ∃ x, l[i]? = some x ∧ CastD x y := by
 induction h with
 | nil => exact ⟨rfl, fun i y h => by simp at h⟩
 | cons h _ ih =>
  refine ⟨by simp [ih.1], fun i y hy => ?_⟩
  cases i with
  | zero => simp only [List.getElem?_cons_zero, Option.some.injEq] at hy; subst hy; exact ⟨_, rfl, h⟩
  | succ i => simpa using ih.2 i y (by simpa using hy)
section
variable {P : Program} {n0 N : Nat} {Q : SX → St → Prop} {st : St}
end
section
variable {P : Program} {N : Nat} {ops : Array Oper} {l : List Oper} {ts : List (Nat × T)} {L : List (Option Rw)} {tr : List Stp} {K : List Oper → List Stp → St → Prop} {d : Nat} {ty : TypeId} {pos : String} {af : Array Edge} {gd : Option (Nat × Bool)}
theorem OpS.castO {o : Oper} {ins : List (Operand × T)} {rn : List (Nat × Rw)} {wn : List (Nat × Option Rw)} {fresh : Nat} {new : List Rw} {v v' : T} (h : OpS P o ins rn wn fresh new v) (hc : ∀ g c, VT g v c → VT g v' c) : OpS P o ins rn wn fresh new v' :=
 fun F nn hF g a hg hi hr hn next Q k => h F nn hF g a hg hi hr hn next Q fun g' c k1 k2 k3 k4 => k g' c k1 k2 k3 (hc _ _ k4)
end
end Go.Proofs.Ytdefnmcjmklohaa.Sh
namespace Go.Proofs.Ytdefnmcjmklohaa.Sh
open Go
section
variable {P : Program} {N : Nat} {ops : Array Oper} {l : List Oper} {ts : List (Nat × T)} {L : List (Option Rw)} {tr : List Stp} {K : List Oper → List Stp → St → Prop} {d : Nat} {ty : TypeId} {pos : String} {af : Array Edge} {gd : Option (Nat × Bool)}
theorem q_add {t1 t2 : TypeId} {x y : Operand} {k : IntKind} {a b : Int}  (hh : (opT ts x, opT ts y, wantT ops ts ⟨some d, .binOp .add t1 x y t2, ty, pos, af, gd⟩, Nat.blt d N) = (.d (.v (.int k a)), .d (.v (.int k b)), some true, true)) (kk : EvK P N ops l ⟨(d, .d (.v (.int k (k.wrap (a + b))))) :: ts, L⟩ (tr ++ [.run (List.map Prod.fst ([] : List (Nat × Rw))) []]) K) : EvK P N ops (⟨some d, .binOp .add t1 x y t2, ty, pos, af, gd⟩ :: l) ⟨ts, L⟩ tr K :=
 r_add (congrArg (fun p => p.1) hh) (congrArg (fun p => p.2.1) hh) (congrArg (fun p => p.2.2.1) hh) (congrArg (fun p => p.2.2.2) hh) kk
theorem q_asgD {x : Operand} {y : D}  (hh : (opT ts x, wantT ops ts ⟨some d, .assign x, ty, pos, af, gd⟩, Nat.blt d N) = (.d y, some true, true)) (kk : EvK P N ops l ⟨(d, .d y) :: ts, L⟩ (tr ++ [.run (List.map Prod.fst ([] : List (Nat × Rw))) []]) K) : EvK P N ops (⟨some d, .assign x, ty, pos, af, gd⟩ :: l) ⟨ts, L⟩ tr K :=
 r_asgD (congrArg (fun p => p.1) hh) (congrArg (fun p => p.2.1) hh) (congrArg (fun p => p.2.2) hh) kk
theorem q_box {t : TypeId} {x : Operand} {u : T} {s : Nat} {nr2 : List Nat} {n : Nat} {nr : List Nat}  (hh : (opT ts x, nums.drop u.cells.length, allOne u.cells, Nat.beq s 0, nums.drop L.length, wantT ops ts ⟨some d, .box t x, ty, pos, af, gd⟩, Nat.blt d N) = (u, s :: nr2, true, false, n :: nr, some true, true)) (kk : EvK P N ops l ⟨(d, .ref n s 0 0) :: ts, L ++ [some ⟨s, [u]⟩]⟩ (tr ++ [.run (List.map Prod.fst ([] : List (Nat × Rw)) ++ [n]) [n]]) K) : EvK P N ops (⟨some d, .box t x, ty, pos, af, gd⟩ :: l) ⟨ts, L⟩ tr K :=
 r_box (congrArg (fun p => p.1) hh) (congrArg (fun p => p.2.1) hh) (congrArg (fun p => p.2.2.1) hh) (congrArg (fun p => p.2.2.2.1) hh) (congrArg (fun p => p.2.2.2.2.1) hh) (congrArg (fun p => p.2.2.2.2.2.1) hh) (congrArg (fun p => p.2.2.2.2.2.2) hh) kk
theorem q_fa {t : TypeId} {i : TI} {x : Operand} {n s q c f m : Nat} {b : Bool} {c' : Nat} {o2 : Nat} {nr : List Nat} (tb : Tab P) (hh : (tb.f t, opT ts x, i.fs[f]?, Nat.beq m 0, nums.drop (c + c'), wantT ops ts ⟨some d, .fieldAddr t x f, ty, pos, af, gd⟩, Nat.blt d N) = (some i, .ref n s q c, some (c', b, m), false, o2 :: nr, some true, true)) (kk : EvK P N ops l ⟨(d, .ref n s q o2) :: ts, L⟩ (tr ++ [.run (List.map Prod.fst ([] : List (Nat × Rw))) []]) K) : EvK P N ops (⟨some d, .fieldAddr t x f, ty, pos, af, gd⟩ :: l) ⟨ts, L⟩ tr K :=
 r_fa tb (congrArg (fun p => p.1) hh) (congrArg (fun p => p.2.1) hh) (congrArg (fun p => p.2.2.1) hh) (congrArg (fun p => p.2.2.2.1) hh) (congrArg (fun p => p.2.2.2.2.1) hh) (congrArg (fun p => p.2.2.2.2.2.1) hh) (congrArg (fun p => p.2.2.2.2.2.2) hh) kk
theorem q_faE {t : TypeId} {i : TI} {x : Operand} {s q c f m : Nat} {w : List D} {b : Bool} {c' : Nat} {o2 : Nat} {nr : List Nat} (tb : Tab P) (hh : (tb.f t, opT ts x, i.fs[f]?, Nat.beq m 0, nums.drop (c + c'), wantT ops ts ⟨some d, .fieldAddr t x f, ty, pos, af, gd⟩, Nat.blt d N) = (some i, .d (.el s w q c), some (c', b, m), false, o2 :: nr, some true, true)) (kk : EvK P N ops l ⟨(d, .d (.el s w q o2)) :: ts, L⟩ (tr ++ [.run (List.map Prod.fst ([] : List (Nat × Rw))) []]) K) : EvK P N ops (⟨some d, .fieldAddr t x f, ty, pos, af, gd⟩ :: l) ⟨ts, L⟩ tr K :=
 r_faE tb (congrArg (fun p => p.1) hh) (congrArg (fun p => p.2.1) hh) (congrArg (fun p => p.2.2.1) hh) (congrArg (fun p => p.2.2.2.1) hh) (congrArg (fun p => p.2.2.2.2.1) hh) (congrArg (fun p => p.2.2.2.2.2.1) hh) (congrArg (fun p => p.2.2.2.2.2.2) hh) kk
theorem q_ixE {t e : TypeId} {i ei : TI} {x y : Operand} {s : Nat} {w : List D} {k : IntKind} {q : Int} (tb : Tab P) (h0 : 0 ≤ q) (h1 : q < w.length) (hh : (tb.f t, i.sl, tb.f e, opT ts x, ei.size, opT ts y, wantT ops ts ⟨some d, .indexAddr t x y, ty, pos, af, gd⟩, Nat.blt d N) = (some i, some e, some ei, .d (.arr s w), s, .d (.v (.int k q)), some true, true)) (kk : EvK P N ops l ⟨(d, .d (.el s w q.toNat 0)) :: ts, L⟩ (tr ++ [.run (List.map Prod.fst ([] : List (Nat × Rw))) []]) K) : EvK P N ops (⟨some d, .indexAddr t x y, ty, pos, af, gd⟩ :: l) ⟨ts, L⟩ tr K :=
 r_ixE tb (congrArg (fun p => p.1) hh) (congrArg (fun p => p.2.1) hh) (congrArg (fun p => p.2.2.1) hh) (congrArg (fun p => p.2.2.2.1) hh) (congrArg (fun p => p.2.2.2.2.1) hh) (congrArg (fun p => p.2.2.2.2.2.1) hh) h0 h1 (congrArg (fun p => p.2.2.2.2.2.2.1) hh) (congrArg (fun p => p.2.2.2.2.2.2.2) hh) kk
theorem q_ldD {t : TypeId} {i : TI} {x : Operand} {n s q c : Nat} {r : Rw} {e : T} {y : D} (tb : Tab P) (hh : (tb.f t, opT ts x, L[n]?, r.s, r.els[q]?, partOk i e.cells.length c, partOf i e.cells c, wantT ops ts ⟨some d, .load t x, ty, pos, af, gd⟩, Nat.blt d N) = (some i, .ref n s q c, some (some r), s, some e, true, .d y, some true, true)) (kk : EvK P N ops l ⟨(d, .d y) :: ts, L⟩ (tr ++ [.run (List.map Prod.fst ([(n, r)] : List (Nat × Rw))) []]) K) : EvK P N ops (⟨some d, .load t x, ty, pos, af, gd⟩ :: l) ⟨ts, L⟩ tr K :=
 r_ldD tb (congrArg (fun p => p.1) hh) (congrArg (fun p => p.2.1) hh) (congrArg (fun p => p.2.2.1) hh) (congrArg (fun p => p.2.2.2.1) hh) (congrArg (fun p => p.2.2.2.2.1) hh) (congrArg (fun p => p.2.2.2.2.2.1) hh) (congrArg (fun p => p.2.2.2.2.2.2.1) hh) (congrArg (fun p => p.2.2.2.2.2.2.2.1) hh) (congrArg (fun p => p.2.2.2.2.2.2.2.2) hh) kk
theorem q_ldE {t : TypeId} {i : TI} {x : Operand} {s q c : Nat} {w : List D} {e y : D} (tb : Tab P) (he : w[q]? = some e) (hh : (tb.f t, opT ts x, partOk i e.cells.length c, partOf i (e.cells.map .d) c, wantT ops ts ⟨some d, .load t x, ty, pos, af, gd⟩, Nat.blt d N) = (some i, .d (.el s w q c), true, .d y, some true, true)) (kk : EvK P N ops l ⟨(d, .d y) :: ts, L⟩ (tr ++ [.run (List.map Prod.fst ([] : List (Nat × Rw))) []]) K) : EvK P N ops (⟨some d, .load t x, ty, pos, af, gd⟩ :: l) ⟨ts, L⟩ tr K :=
 r_ldE tb (congrArg (fun p => p.1) hh) (congrArg (fun p => p.2.1) hh) he (congrArg (fun p => p.2.2.1) hh) (congrArg (fun p => p.2.2.2.1) hh) (congrArg (fun p => p.2.2.2.2.1) hh) (congrArg (fun p => p.2.2.2.2.2) hh) kk
theorem q_lenM {α : Type} {t e : TypeId} {i : TI} {x : Operand} {s : Nat} {w : List α} {g : α → D} (tb : Tab P) (hh : (tb.f t, i.sl, opT ts x, wantT ops ts ⟨some d, .call { callee := .builtin .len, args := #[x], argTypes := #[t] }, ty, pos, af, gd⟩, Nat.blt d N) = (some i, some e, .d (.arr s (w.map g)), some true, true)) (kk : EvK P N ops l ⟨(d, .d (.v (.int .i64 (w.length : Nat)))) :: ts, L⟩ (tr ++ [.run (List.map Prod.fst ([] : List (Nat × Rw))) []]) K) : EvK P N ops (⟨some d, .call { callee := .builtin .len, args := #[x], argTypes := #[t] }, ty, pos, af, gd⟩ :: l) ⟨ts, L⟩ tr K :=
 r_lenM tb (congrArg (fun p => p.1) hh) (congrArg (fun p => p.2.1) hh) (congrArg (fun p => p.2.2.1) hh) (congrArg (fun p => p.2.2.2.1) hh) (congrArg (fun p => p.2.2.2.2) hh) kk
theorem q_movD {x : Operand} {y : D}  (hh : (opT ts x, wantT ops ts ⟨some d, .move x, ty, pos, af, gd⟩, Nat.blt d N) = (.d y, some true, true)) (kk : EvK P N ops l ⟨(d, .d y) :: ts, L⟩ (tr ++ [.run (List.map Prod.fst ([] : List (Nat × Rw))) []]) K) : EvK P N ops (⟨some d, .move x, ty, pos, af, gd⟩ :: l) ⟨ts, L⟩ tr K :=
 r_movD (congrArg (fun p => p.1) hh) (congrArg (fun p => p.2.1) hh) (congrArg (fun p => p.2.2) hh) kk
theorem q_pickF {c x y : Operand} {t : D}  (hh : (opT ts c, opT ts y, wantT ops ts ⟨some d, .pick c x y, ty, pos, af, gd⟩, Nat.blt d N) = (.d (.v (.bool false)), .d t, some true, true)) (kk : EvK P N ops l ⟨(d, .d t) :: ts, L⟩ (tr ++ [.run (List.map Prod.fst ([] : List (Nat × Rw))) []]) K) : EvK P N ops (⟨some d, .pick c x y, ty, pos, af, gd⟩ :: l) ⟨ts, L⟩ tr K :=
 r_pickF (congrArg (fun p => p.1) hh) (congrArg (fun p => p.2.1) hh) (congrArg (fun p => p.2.2.1) hh) (congrArg (fun p => p.2.2.2) hh) kk
theorem q_pickT {c x y : Operand} {t : D}  (hh : (opT ts c, opT ts x, wantT ops ts ⟨some d, .pick c x y, ty, pos, af, gd⟩, Nat.blt d N) = (.d (.v (.bool true)), .d t, some true, true)) (kk : EvK P N ops l ⟨(d, .d t) :: ts, L⟩ (tr ++ [.run (List.map Prod.fst ([] : List (Nat × Rw))) []]) K) : EvK P N ops (⟨some d, .pick c x y, ty, pos, af, gd⟩ :: l) ⟨ts, L⟩ tr K :=
 r_pickT (congrArg (fun p => p.1) hh) (congrArg (fun p => p.2.1) hh) (congrArg (fun p => p.2.2.1) hh) (congrArg (fun p => p.2.2.2) hh) kk
theorem q_skip {o : Oper}  (hh : (wantT ops ts o, o.dst, Nat.blt d N) = (some false, some d, true)) (k : EvK P N ops l ⟨(d, .d (.tup [])) :: ts, L⟩ (tr ++ [.skip]) K) : EvK P N ops (o :: l) ⟨ts, L⟩ tr K :=
 r_skip (congrArg (fun p => p.1) hh) (congrArg (fun p => p.2.1) hh) (congrArg (fun p => p.2.2) hh) k
theorem q_stE {t : TypeId} {i : TI} {x y : Operand} {n s q c : Nat} {r : Rw} {e u : T} (r' : Rw) (L' : List (Option Rw)) (tb : Tab P) (hh : (tb.f t, opT ts x, opT ts y, L[n]?, r.s, r.els[q]?, u.cells.length, allOne u.cells, Nat.ble (c + i.size) e.cells.length, (⟨r.s, r.els.set q (setEl e c u)⟩ : Rw), L.set n (some r'), wantT ops ts ⟨none, .store t x y, ty, pos, af, gd⟩) = (some i, .ref n s q c, u, some (some r), s, some e, i.size, true, true, r', L', some true)) (k : EvK P N ops l ⟨ts, L'⟩ (tr ++ [.run [n] [n]]) K) : EvK P N ops (⟨none, .store t x y, ty, pos, af, gd⟩ :: l) ⟨ts, L⟩ tr K :=
 r_stE r' L' tb (congrArg (fun p => p.1) hh) (congrArg (fun p => p.2.1) hh) (congrArg (fun p => p.2.2.1) hh) (congrArg (fun p => p.2.2.2.1) hh) (congrArg (fun p => p.2.2.2.2.1) hh) (congrArg (fun p => p.2.2.2.2.2.1) hh) (congrArg (fun p => p.2.2.2.2.2.2.1) hh) (congrArg (fun p => p.2.2.2.2.2.2.2.1) hh) (congrArg (fun p => p.2.2.2.2.2.2.2.2.1) hh) (congrArg (fun p => p.2.2.2.2.2.2.2.2.2.1) hh) (congrArg (fun p => p.2.2.2.2.2.2.2.2.2.2.1) hh) (congrArg (fun p => p.2.2.2.2.2.2.2.2.2.2.2) hh) k
def skN (ops : Array Oper) (N : Nat) : Nat → List Oper → List (Nat × T) → Option (List Oper × List (Nat × T))
 | 0, l, ts => some (l, ts)
 | _ + 1, [], _ => none
 | n + 1, o :: l, ts => match wantT ops ts o, o.dst with
   | some false, some d => bif Nat.blt d N then skN ops N n l ((d, .d (.tup [])) :: ts) else none
   | _, _ => none
def skT : Nat → List Stp → List Stp
 | 0, tr => tr
 | n + 1, tr => skT n (tr ++ [.skip])
theorem q_sk : ∀ (n : Nat) {l l' : List Oper} {ts ts' : List (Nat × T)} {tr : List Stp} (_ : skN ops N n l ts = some (l', ts')) (_ : EvK P N ops l' ⟨ts', L⟩ (skT n tr) K), EvK P N ops l ⟨ts, L⟩ tr K
 | 0, l, l', ts, ts', tr, h, k => by cases h; exact k
 | n + 1, [], l', ts, ts', tr, h, k => by cases h
 | n + 1, o :: l, l', ts, ts', tr, h, k => by
  rw [skN] at h
  split at h
  ·rename_i d hw ho
   cases hb : Nat.blt d N with
   | false => rw [hb] at h; cases h
   | true => rw [hb] at h; exact r_skip hw ho hb (q_sk n h k)
  ·cases h
theorem tsK_of {κ : List Nat} : ∀ {ts' : List (Nat × T)}, (ts'.map fun p => getS ts p.1) = (ts'.map fun p => p.2.ren (kap κ)) → (ts'.all fun p => p.2.sc κ.length) = true → TsK ts κ ts'
 | [], _, _ => .nil
 | (i, t) :: r, h, c => by
  rw [List.map_cons, List.map_cons] at h
  rw [List.all_cons, Bool.and_eq_true] at c
  exact .cons (List.cons.inj h).1 c.1 (tsK_of (List.cons.inj h).2 c.2)
theorem vK {n0 : Nat} {ts ts' : List (Nat × T)} {L L' : List (Option Rw)} {κ : List Nat} (hr : RwK L κ L' κ) (hh : (ndK κ, baseK n0 κ, (ts'.map fun p => getS ts p.1), ts'.all fun p => p.2.sc κ.length) = (true, true, (ts'.map fun p => p.2.ren (kap κ)), true)) : Vw n0 ⟨ts, L⟩ ⟨ts', L'⟩ κ :=
 vwK (congrArg (fun p => p.1) hh) (congrArg (fun p => p.2.1) hh) hr (tsK_of (congrArg (fun p => p.2.2.1) hh) (congrArg (fun p => p.2.2.2) hh))
theorem v0 {n0 : Nat} {ts ts' : List (Nat × T)} {L : List (Option Rw)} (hh : (ndK [], baseK n0 [], (ts'.map fun p => getS ts p.1), ts'.all fun p => p.2.sc 0) = (true, true, (ts'.map fun p => p.2.ren (kap [])), true)) : Vw n0 ⟨ts, L⟩ ⟨ts', []⟩ [] := vK .nil hh
theorem f1 {P : Program} {fn : Func} {n0 : Nat} {st : St} {y : T} (k : Nat) (hh : (Nat.beq n0 0, fn.results.toList, y.sc 0, getS st.ts k) = (true, [.tmp k], true, y.ren (kap []))) : Fin P fn n0 (fun se L' => se = .ret y ∧ L' = []) .ret st := by
 have h0 : Nat.beq n0 0 = true := congrArg (fun p => p.1) hh
 obtain rfl := Nat.eq_of_beq_eq_true h0
 exact fin_S (t := y) (L := []) (κ := []) (congrArg (fun p => p.2.1) hh) (.cons (.tmp k) .nil) (vwK rfl rfl .nil (.cons (congrArg (fun p => p.2.2.2) hh) (congrArg (fun p => p.2.2.1) hh) .nil)) ⟨rfl, rfl⟩
theorem f2 {P : Program} {fn : Func} {n0 : Nat} {st : St} {y : T} {Lf : List (Option Rw)} {rs : List ResultVar} {us : List T} (κ : List Nat) (hr : RwK st.L κ Lf κ) (hs : fn.results.toList = rs) (h : ResTs P st rs us) (hh : (ndK κ, baseK n0 κ, tupT us, y.sc κ.length) = (true, true, y.ren (kap κ), true)) : Fin P fn n0 (fun se L' => se = .ret y ∧ L' = Lf) .ret st :=
 fin_S (t := y) (L := Lf) (κ := κ) hs h (vwK (congrArg (fun p => p.1) hh) (congrArg (fun p => p.2.1) hh) hr (.cons (congrArg (fun p => p.2.2.1) hh) (congrArg (fun p => p.2.2.2) hh) .nil)) ⟨rfl, rfl⟩
theorem rc {P : Program} {st : St} {a : Nat} {t : TypeId} {i : TI} {n s k c : Nat} {r : Rw} {e : T} (tb : Tab P) (hh : (tb.f t, getS st.ts a, st.L[n]?, r.s, r.els[k]?, partOk i e.cells.length c) = (some i, .ref n s k c, some (some r), s, some e, true)) : ResT P st (.cell a t) (partOf i e.cells c) :=
 rcell tb (congrArg (fun p => p.1) hh) (congrArg (fun p => p.2.1) hh) (congrArg (fun p => p.2.2.1) hh) (congrArg (fun p => p.2.2.2.1) hh) (congrArg (fun p => p.2.2.2.2.1) hh) (congrArg (fun p => p.2.2.2.2.2) hh) rfl
end
end Go.Proofs.Ytdefnmcjmklohaa.Sh
