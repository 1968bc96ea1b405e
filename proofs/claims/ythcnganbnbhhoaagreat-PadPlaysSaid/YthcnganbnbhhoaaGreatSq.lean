/- Rules of which the plain premises are told at once. Over whatever program. -/
import Derived.Test.YthcnganbnbhhoaaGreatSa24
namespace Go.Proofs.YthcnganbnbhhoaaGreat.Sh
set_option linter.unusedVariables false
set_option linter.unusedSimpArgs false
open Go
section
variable {P : Program} {N : Nat} {ops : Array Oper} {l : List Oper} {ts : List (Nat × T)} {L : List (Option Rw)} {tr : List Stp} {K : List Oper → List Stp → St → Prop} {d : Nat} {ty : TypeId} {pos : String} {af : Array Edge} {gd : Option (Nat × Bool)}
theorem q_add {t1 t2 : TypeId} {x y : Operand} {k : IntKind} {a b : Int}  (hh : (opT ts x, opT ts y, wantT ops ts ⟨some d, .binOp .add t1 x y t2, ty, pos, af, gd⟩, Nat.blt d N) = (.d (.v (.int k a)), .d (.v (.int k b)), some true, true)) (kk : EvK P N ops l ⟨(d, .d (.v (.int k (k.wrap (a + b))))) :: ts, L⟩ (tr ++ [.run (List.map Prod.fst ([] : List (Nat × Rw))) []]) K) : EvK P N ops (⟨some d, .binOp .add t1 x y t2, ty, pos, af, gd⟩ :: l) ⟨ts, L⟩ tr K :=
 r_add (congrArg (fun p => p.1) hh) (congrArg (fun p => p.2.1) hh) (congrArg (fun p => p.2.2.1) hh) (congrArg (fun p => p.2.2.2) hh) kk
theorem q_asgD {x : Operand} {y : D}  (hh : (opT ts x, wantT ops ts ⟨some d, .assign x, ty, pos, af, gd⟩, Nat.blt d N) = (.d y, some true, true)) (kk : EvK P N ops l ⟨(d, .d y) :: ts, L⟩ (tr ++ [.run (List.map Prod.fst ([] : List (Nat × Rw))) []]) K) : EvK P N ops (⟨some d, .assign x, ty, pos, af, gd⟩ :: l) ⟨ts, L⟩ tr K :=
 r_asgD (congrArg (fun p => p.1) hh) (congrArg (fun p => p.2.1) hh) (congrArg (fun p => p.2.2) hh) kk
theorem q_box {t : TypeId} {x : Operand} {u : T} {s : Nat} {nr2 : List Nat} {n : Nat} {nr : List Nat}  (hh : (opT ts x, nums.drop u.cells.length, allOne u.cells, Nat.beq s 0, nums.drop L.length, wantT ops ts ⟨some d, .box t x, ty, pos, af, gd⟩, Nat.blt d N) = (u, s :: nr2, true, false, n :: nr, some true, true)) (kk : EvK P N ops l ⟨(d, .ref n s 0 0) :: ts, L ++ [some ⟨s, [u]⟩]⟩ (tr ++ [.run (List.map Prod.fst ([] : List (Nat × Rw)) ++ [n]) [n]]) K) : EvK P N ops (⟨some d, .box t x, ty, pos, af, gd⟩ :: l) ⟨ts, L⟩ tr K :=
 r_box (congrArg (fun p => p.1) hh) (congrArg (fun p => p.2.1) hh) (congrArg (fun p => p.2.2.1) hh) (congrArg (fun p => p.2.2.2.1) hh) (congrArg (fun p => p.2.2.2.2.1) hh) (congrArg (fun p => p.2.2.2.2.2.1) hh) (congrArg (fun p => p.2.2.2.2.2.2) hh) kk
theorem q_fa {t : TypeId} {i : TI} {x : Operand} {n s q c f m : Nat} {b : Bool} {c' : Nat} {o2 : Nat} {nr : List Nat} (tb : Tab P) (hh : (tb.f t, opT ts x, i.fs[f]?, Nat.beq m 0, nums.drop (c + c'), wantT ops ts ⟨some d, .fieldAddr t x f, ty, pos, af, gd⟩, Nat.blt d N) = (some i, .ref n s q c, some (c', b, m), false, o2 :: nr, some true, true)) (kk : EvK P N ops l ⟨(d, .ref n s q o2) :: ts, L⟩ (tr ++ [.run (List.map Prod.fst ([] : List (Nat × Rw))) []]) K) : EvK P N ops (⟨some d, .fieldAddr t x f, ty, pos, af, gd⟩ :: l) ⟨ts, L⟩ tr K :=
 r_fa tb (congrArg (fun p => p.1) hh) (congrArg (fun p => p.2.1) hh) (congrArg (fun p => p.2.2.1) hh) (congrArg (fun p => p.2.2.2.1) hh) (congrArg (fun p => p.2.2.2.2.1) hh) (congrArg (fun p => p.2.2.2.2.2.1) hh) (congrArg (fun p => p.2.2.2.2.2.2) hh) kk
theorem q_faE {t : TypeId} {i : TI} {x : Operand} {s q c f m : Nat} {w : List D} {b : Bool} {c' : Nat} {o2 : Nat} {nr : List Nat} (tb : Tab P) (hh : (tb.f t, opT ts x, i.fs[f]?, Nat.beq m 0, nums.drop (c + c'), wantT ops ts ⟨some d, .fieldAddr t x f, ty, pos, af, gd⟩, Nat.blt d N) = (some i, .d (.el s w q c), some (c', b, m), false, o2 :: nr, some true, true)) (kk : EvK P N ops l ⟨(d, .d (.el s w q o2)) :: ts, L⟩ (tr ++ [.run (List.map Prod.fst ([] : List (Nat × Rw))) []]) K) : EvK P N ops (⟨some d, .fieldAddr t x f, ty, pos, af, gd⟩ :: l) ⟨ts, L⟩ tr K :=
 r_faE tb (congrArg (fun p => p.1) hh) (congrArg (fun p => p.2.1) hh) (congrArg (fun p => p.2.2.1) hh) (congrArg (fun p => p.2.2.2.1) hh) (congrArg (fun p => p.2.2.2.2.1) hh) (congrArg (fun p => p.2.2.2.2.2.1) hh) (congrArg (fun p => p.2.2.2.2.2.2) hh) kk
theorem q_ixE {t e : TypeId} {i ei : TI} {x y : Operand} {s : Nat} {w : List D} {k : IntKind} {q : Int} (tb : Tab P) (h0 : 0 ≤ q) (h1 : q < w.length) (hh : (tb.f t, i.sl, tb.f e, opT ts x, ei.size, opT ts y, wantT ops ts ⟨some d, .indexAddr t x y, ty, pos, af, gd⟩, Nat.blt d N) = (some i, some e, some ei, .d (.arr s w), s, .d (.v (.int k q)), some true, true)) (kk : EvK P N ops l ⟨(d, .d (.el s w q.toNat 0)) :: ts, L⟩ (tr ++ [.run (List.map Prod.fst ([] : List (Nat × Rw))) []]) K) : EvK P N ops (⟨some d, .indexAddr t x y, ty, pos, af, gd⟩ :: l) ⟨ts, L⟩ tr K :=
 r_ixE tb (congrArg (fun p => p.1) hh) (congrArg (fun p => p.2.1) hh) (congrArg (fun p => p.2.2.1) hh) (congrArg (fun p => p.2.2.2.1) hh) (congrArg (fun p => p.2.2.2.2.1) hh) (congrArg (fun p => p.2.2.2.2.2.1) hh) h0 h1 (congrArg (fun p => p.2.2.2.2.2.2.1) hh) (congrArg (fun p => p.2.2.2.2.2.2.2) hh) kk
theorem q_ldD {t : TypeId} {i : TI} {x : Operand} {n s q c : Nat} {r : Rw} {e : T} {y : D} (tb : Tab P) (hh : (tb.f t, opT ts x, L[n]?, r.s, r.els[q]?, partOk i e.cells.length c, partOf i e.cells c, wantT ops ts ⟨some d, .load t x, ty, pos, af, gd⟩, Nat.blt d N) = (some i, .ref n s q c, some (some r), s, some e, true, .d y, some true, true)) (kk : EvK P N ops l ⟨(d, .d y) :: ts, L⟩ (tr ++ [.run (List.map Prod.fst ([(n, r)] : List (Nat × Rw))) []]) K) : EvK P N ops (⟨some d, .load t x, ty, pos, af, gd⟩ :: l) ⟨ts, L⟩ tr K :=
 r_ldD tb (congrArg (fun p => p.1) hh) (congrArg (fun p => p.2.1) hh) (congrArg (fun p => p.2.2.1) hh) (congrArg (fun p => p.2.2.2.1) hh) (congrArg (fun p => p.2.2.2.2.1) hh) (congrArg (fun p => p.2.2.2.2.2.1) hh) (congrArg (fun p => p.2.2.2.2.2.2.1) hh) (congrArg (fun p => p.2.2.2.2.2.2.2.1) hh) (congrArg (fun p => p.2.2.2.2.2.2.2.2) hh) kk
theorem q_ldE {t : TypeId} {i : TI} {x : Operand} {s q c : Nat} {w : List D} {e y : D} (tb : Tab P) (he : w[q]? = some e) (hh : (tb.f t, opT ts x, partOk i e.cells.length c, partOf i (e.cells.map .d) c, wantT ops ts ⟨some d, .load t x, ty, pos, af, gd⟩, Nat.blt d N) = (some i, .d (.el s w q c), true, .d y, some true, true)) (kk : EvK P N ops l ⟨(d, .d y) :: ts, L⟩ (tr ++ [.run (List.map Prod.fst ([] : List (Nat × Rw))) []]) K) : EvK P N ops (⟨some d, .load t x, ty, pos, af, gd⟩ :: l) ⟨ts, L⟩ tr K :=
 r_ldE tb (congrArg (fun p => p.1) hh) (congrArg (fun p => p.2.1) hh) he (congrArg (fun p => p.2.2.1) hh) (congrArg (fun p => p.2.2.2.1) hh) (congrArg (fun p => p.2.2.2.2.1) hh) (congrArg (fun p => p.2.2.2.2.2) hh) kk
theorem q_lenM {α : Type} {t e : TypeId} {i : TI} {x : Operand} {s : Nat} {w : List α} {g : α → D} (tb : Tab P) (hh : (tb.f t, i.sl, opT ts x, wantT ops ts ⟨some d, .call { callee := .builtin .len, args := #[x], argTypes := #[t] }, ty, pos, af, gd⟩, Nat.blt d N) = (some i, some e, .d (.arr s (w.map g)), some true, true)) (kk : EvK P N ops l ⟨(d, .d (.v (.int .i64 (w.length : Nat)))) :: ts, L⟩ (tr ++ [.run (List.map Prod.fst ([] : List (Nat × Rw))) []]) K) : EvK P N ops (⟨some d, .call { callee := .builtin .len, args := #[x], argTypes := #[t] }, ty, pos, af, gd⟩ :: l) ⟨ts, L⟩ tr K :=
 r_lenM tb (congrArg (fun p => p.1) hh) (congrArg (fun p => p.2.1) hh) (congrArg (fun p => p.2.2.1) hh) (congrArg (fun p => p.2.2.2.1) hh) (congrArg (fun p => p.2.2.2.2) hh) kk
theorem q_movD {x : Operand} {y : D}  (hh : (opT ts x, wantT ops ts ⟨some d, .move x, ty, pos, af, gd⟩, Nat.blt d N) = (.d y, some true, true)) (kk : EvK P N ops l ⟨(d, .d y) :: ts, L⟩ (tr ++ [.run (List.map Prod.fst ([] : List (Nat × Rw))) []]) K) : EvK P N ops (⟨some d, .move x, ty, pos, af, gd⟩ :: l) ⟨ts, L⟩ tr K :=
 r_movD (congrArg (fun p => p.1) hh) (congrArg (fun p => p.2.1) hh) (congrArg (fun p => p.2.2) hh) kk
theorem q_pickF {c x y : Operand} {t : D}  (hh : (opT ts c, opT ts y, wantT ops ts ⟨some d, .pick c x y, ty, pos, af, gd⟩, Nat.blt d N) = (.d (.v (.bool false)), .d t, some true, true)) (kk : EvK P N ops l ⟨(d, .d t) :: ts, L⟩ (tr ++ [.run (List.map Prod.fst ([] : List (Nat × Rw))) []]) K) : EvK P N ops (⟨some d, .pick c x y, ty, pos, af, gd⟩ :: l) ⟨ts, L⟩ tr K :=
 r_pickF (congrArg (fun p => p.1) hh) (congrArg (fun p => p.2.1) hh) (congrArg (fun p => p.2.2.1) hh) (congrArg (fun p => p.2.2.2) hh) kk
theorem q_pickT {c x y : Operand} {t : D}  (hh : (opT ts c, opT ts x, wantT ops ts ⟨some d, .pick c x y, ty, pos, af, gd⟩, Nat.blt d N) = (.d (.v (.bool true)), .d t, some true, true)) (kk : EvK P N ops l ⟨(d, .d t) :: ts, L⟩ (tr ++ [.run (List.map Prod.fst ([] : List (Nat × Rw))) []]) K) : EvK P N ops (⟨some d, .pick c x y, ty, pos, af, gd⟩ :: l) ⟨ts, L⟩ tr K :=
 r_pickT (congrArg (fun p => p.1) hh) (congrArg (fun p => p.2.1) hh) (congrArg (fun p => p.2.2.1) hh) (congrArg (fun p => p.2.2.2) hh) kk
theorem q_skip {o : Oper}  (hh : (wantT ops ts o, o.dst, Nat.blt d N) = (some false, some d, true)) (k : EvK P N ops l ⟨(d, .d (.tup [])) :: ts, L⟩ (tr ++ [.skip]) K) : EvK P N ops (o :: l) ⟨ts, L⟩ tr K :=
 r_skip (congrArg (fun p => p.1) hh) (congrArg (fun p => p.2.1) hh) (congrArg (fun p => p.2.2) hh) k
theorem q_stE {t : TypeId} {i : TI} {x y : Operand} {n s q c : Nat} {r : Rw} {e u : T} (r' : Rw) (L' : List (Option Rw)) (tb : Tab P) (hh : (tb.f t, opT ts x, opT ts y, L[n]?, r.s, r.els[q]?, u.cells.length, allOne u.cells, Nat.ble (c + i.size) e.cells.length, (⟨r.s, r.els.set q (setEl e c u)⟩ : Rw), L.set n (some r'), wantT ops ts ⟨none, .store t x y, ty, pos, af, gd⟩) = (some i, .ref n s q c, u, some (some r), s, some e, i.size, true, true, r', L', some true)) (k : EvK P N ops l ⟨ts, L'⟩ (tr ++ [.run [n] [n]]) K) : EvK P N ops (⟨none, .store t x y, ty, pos, af, gd⟩ :: l) ⟨ts, L⟩ tr K :=
 r_stE r' L' tb (congrArg (fun p => p.1) hh) (congrArg (fun p => p.2.1) hh) (congrArg (fun p => p.2.2.1) hh) (congrArg (fun p => p.2.2.2.1) hh) (congrArg (fun p => p.2.2.2.2.1) hh) (congrArg (fun p => p.2.2.2.2.2.1) hh) (congrArg (fun p => p.2.2.2.2.2.2.1) hh) (congrArg (fun p => p.2.2.2.2.2.2.2.1) hh) (congrArg (fun p => p.2.2.2.2.2.2.2.2.1) hh) (congrArg (fun p => p.2.2.2.2.2.2.2.2.2.1) hh) (congrArg (fun p => p.2.2.2.2.2.2.2.2.2.2.1) hh) (congrArg (fun p => p.2.2.2.2.2.2.2.2.2.2.2) hh) k
def skN (ops : Array Oper) (N : Nat) : Nat → List Oper → List (Nat × T) → Option (List Oper × List (Nat × T))
 | 0, l, ts => some (l, ts)
 | _ + 1, [], _ => none
 | n + 1, o :: l, ts => match wantT ops ts o, o.dst with
   | some false, some d => bif Nat.blt d N then skN ops N n l ((d, .d (.tup [])) :: ts) else none
   | _, _ => none
def skT : Nat → List Stp → List Stp
 | 0, tr => tr
 | n + 1, tr => skT n (tr ++ [.skip])
theorem q_sk : ∀ (n : Nat) {l l' : List Oper} {ts ts' : List (Nat × T)} {tr : List Stp} (_ : skN ops N n l ts = some (l', ts')) (_ : EvK P N ops l' ⟨ts', L⟩ (skT n tr) K), EvK P N ops l ⟨ts, L⟩ tr K
 | 0, l, l', ts, ts', tr, h, k => by cases h; exact k
 | n + 1, [], l', ts, ts', tr, h, k => by cases h
 | n + 1, o :: l, l', ts, ts', tr, h, k => by
  rw [skN] at h
  split at h
  ·rename_i d hw ho
   cases hb : Nat.blt d N with
   | false => rw [hb] at h; cases h
   | true => rw [hb] at h; exact r_skip hw ho hb (q_sk n h k)
  ·cases h
theorem tsK_of {κ : List Nat} : ∀ {ts' : List (Nat × T)}, (ts'.map fun p => getS ts p.1) = (ts'.map fun p => p.2.ren (kap κ)) → (ts'.all fun p => p.2.sc κ.length) = true → TsK ts κ ts'
 | [], _, _ => .nil
 | (i, t) :: r, h, c => by
  rw [List.map_cons, List.map_cons] at h
  rw [List.all_cons, Bool.and_eq_true] at c
  exact .cons (List.cons.inj h).1 c.1 (tsK_of (List.cons.inj h).2 c.2)
theorem vK {n0 : Nat} {ts ts' : List (Nat × T)} {L L' : List (Option Rw)} {κ : List Nat} (hr : RwK L κ L' κ) (hh : (ndK κ, baseK n0 κ, (ts'.map fun p => getS ts p.1), ts'.all fun p => p.2.sc κ.length) = (true, true, (ts'.map fun p => p.2.ren (kap κ)), true)) : Vw n0 ⟨ts, L⟩ ⟨ts', L'⟩ κ :=
 vwK (congrArg (fun p => p.1) hh) (congrArg (fun p => p.2.1) hh) hr (tsK_of (congrArg (fun p => p.2.2.1) hh) (congrArg (fun p => p.2.2.2) hh))
theorem v0 {n0 : Nat} {ts ts' : List (Nat × T)} {L : List (Option Rw)} (hh : (ndK [], baseK n0 [], (ts'.map fun p => getS ts p.1), ts'.all fun p => p.2.sc 0) = (true, true, (ts'.map fun p => p.2.ren (kap [])), true)) : Vw n0 ⟨ts, L⟩ ⟨ts', []⟩ [] := vK .nil hh
theorem f1 {P : Program} {fn : Func} {n0 : Nat} {st : St} {y : T} (k : Nat) (hh : (Nat.beq n0 0, fn.results.toList, y.sc 0, getS st.ts k) = (true, [.tmp k], true, y.ren (kap []))) : Fin P fn n0 (fun se L' => se = .ret y ∧ L' = []) .ret st := by
 have h0 : Nat.beq n0 0 = true := congrArg (fun p => p.1) hh
 obtain rfl := Nat.eq_of_beq_eq_true h0
 exact fin_S (t := y) (L := []) (κ := []) (congrArg (fun p => p.2.1) hh) (.cons (.tmp k) .nil) (vwK rfl rfl .nil (.cons (congrArg (fun p => p.2.2.2) hh) (congrArg (fun p => p.2.2.1) hh) .nil)) ⟨rfl, rfl⟩
theorem f2 {P : Program} {fn : Func} {n0 : Nat} {st : St} {y : T} {Lf : List (Option Rw)} {rs : List ResultVar} {us : List T} (κ : List Nat) (hr : RwK st.L κ Lf κ) (hs : fn.results.toList = rs) (h : ResTs P st rs us) (hh : (ndK κ, baseK n0 κ, tupT us, y.sc κ.length) = (true, true, y.ren (kap κ), true)) : Fin P fn n0 (fun se L' => se = .ret y ∧ L' = Lf) .ret st :=
 fin_S (t := y) (L := Lf) (κ := κ) hs h (vwK (congrArg (fun p => p.1) hh) (congrArg (fun p => p.2.1) hh) hr (.cons (congrArg (fun p => p.2.2.1) hh) (congrArg (fun p => p.2.2.2) hh) .nil)) ⟨rfl, rfl⟩
theorem rc {P : Program} {st : St} {a : Nat} {t : TypeId} {i : TI} {n s k c : Nat} {r : Rw} {e : T} (tb : Tab P) (hh : (tb.f t, getS st.ts a, st.L[n]?, r.s, r.els[k]?, partOk i e.cells.length c) = (some i, .ref n s k c, some (some r), s, some e, true)) : ResT P st (.cell a t) (partOf i e.cells c) :=
 rcell tb (congrArg (fun p => p.1) hh) (congrArg (fun p => p.2.1) hh) (congrArg (fun p => p.2.2.1) hh) (congrArg (fun p => p.2.2.2.1) hh) (congrArg (fun p => p.2.2.2.2.1) hh) (congrArg (fun p => p.2.2.2.2.2) hh) rfl
end
end Go.Proofs.YthcnganbnbhhoaaGreat.Sh
