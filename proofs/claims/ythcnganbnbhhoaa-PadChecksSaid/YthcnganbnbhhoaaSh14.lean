/- The steps of a walk over a plain picture, one rule an operation. Over whatever program. -/
import Derived.Test.YthcnganbnbhhoaaSh13
namespace Go.Proofs.Ythcnganbnbhhoaa.Sh
set_option linter.unusedVariables false
set_option linter.unusedSimpArgs false
open Go
section
variable {P : Program} {N : Nat} {ops : Array Oper} {l : List Oper} {ts : List (Nat × T)} {L : List (Option Rw)} {tr : List Stp} {K : List Oper → List Stp → St → Prop} {d : Nat} {ty : TypeId} {pos : String} {af : Array Edge} {gd : Option (Nat × Bool)}
def getTI : List (Nat × TI) → Nat → Option TI
 | [], _ => none
 | (k, i) :: r, t => bif Nat.beq k t then some i else getTI r t
theorem getTI_ok {P : Program} : ∀ (l : List (Nat × TI)), l.map (fun p => tiOf P p.1) = l.map (fun p => some p.2) → ∀ t i, getTI l t = some i → TOk P t i
 | [], _, t, i, h => by cases h
 | (k, j) :: r, hl, t, i, h => by
  simp only [List.map_cons, List.cons.injEq] at hl
  simp only [getTI] at h
  cases hb : Nat.beq k t with
  | true =>
   rw [hb] at h
   injection h with h
   subst h
   rw [← Nat.eq_of_beq_eq_true hb]
   exact .of hl.1
  | false => rw [hb] at h; exact getTI_ok r hl.2 t i h
def Tab.mk' {P : Program} (l : List (Nat × TI)) (h : l.map (fun p => tiOf P p.1) = l.map (fun p => some p.2)) : Tab P := ⟨getTI l, getTI_ok l h⟩
def nums : List Nat := [0, 1, 2, 3, 4, 5, 6, 7, 8, 9, 10, 11, 12, 13, 14, 15, 16, 17, 18, 19, 20, 21, 22, 23, 24, 25, 26, 27, 28, 29, 30, 31, 32, 33, 34, 35, 36, 37, 38, 39, 40, 41, 42, 43, 44, 45, 46, 47, 48, 49, 50, 51, 52, 53, 54, 55, 56, 57, 58, 59, 60, 61, 62, 63]
theorem nums_eq {k n : Nat} {q : List Nat} (h : nums.drop k = n :: q) : k = n := by
 have h1 : nums = List.range 64 := rfl
 rw [h1] at h
 have hk : k < 64 := by
  rcases Nat.lt_or_ge k 64 with h2 | h2
  ·exact h2
  ·rw [List.drop_eq_nil_of_le (by simpa using h2)] at h; cases h
 rw [List.drop_eq_getElem_cons (by simpa using hk)] at h
 injection h with h
 simpa using h
theorem ev_val {o : Oper} {ins : List (Operand × T)} {rn : List (Nat × Rw)} {v : T} (ho : o.dst = some d) (h : OpS P o ins rn [] L.length [] v) (hw : wantT ops ts o = some true) (hi : ∀ p ∈ ins, opT ts p.1 = p.2 ∧ p.1 ∈ o.op.operands)
  (hr : ∀ p ∈ rn, L[p.1]? = some (some p.2)) (hd : Nat.blt d N = true) (k : EvK P N ops l ⟨(d, v) :: ts, L⟩ (tr ++ [.run (rn.map (·.1)) []]) K) : EvK P N ops (o :: l) ⟨ts, L⟩ tr K := by
 refine ev_cons (.run hw h hi hr (by simp) (by rw [ho]; exact hd)) ?_
 simpa [St.eff, putS, ho, setL] using k
theorem ev_new {o : Oper} {ins : List (Operand × T)} {rn : List (Nat × Rw)} {r : Rw} {v : T} (ho : o.dst = some d) (h : OpS P o ins rn [] L.length [r] v) (hw : wantT ops ts o = some true) (hi : ∀ p ∈ ins, opT ts p.1 = p.2 ∧ p.1 ∈ o.op.operands)
  (hr : ∀ p ∈ rn, L[p.1]? = some (some p.2)) (hd : Nat.blt d N = true) (k : EvK P N ops l ⟨(d, v) :: ts, L ++ [some r]⟩ (tr ++ [.run (rn.map (·.1) ++ [L.length]) [L.length]]) K) : EvK P N ops (o :: l) ⟨ts, L⟩ tr K := by
 refine ev_cons (.run hw h hi hr (by simp) (by rw [ho]; exact hd)) ?_
 simpa [St.eff, putS, ho, setL] using k
theorem ev_split {o : Oper} {ins : List (Operand × T)} {b : Bool} (ho : o.dst = some d) (h : OpS P o ins [] [] L.length [] (.d (.v (.bool b)))) (hw : wantT ops ts o = some true) (hi : ∀ p ∈ ins, opT ts p.1 = p.2 ∧ p.1 ∈ o.op.operands)
  (hd : Nat.blt d N = true) (kt : b = true → EvK P N ops l ⟨(d, .d (.v (.bool true))) :: ts, L⟩ (tr ++ [.run [] []]) K) (kf : b = false → EvK P N ops l ⟨(d, .d (.v (.bool false))) :: ts, L⟩ (tr ++ [.run [] []]) K) : EvK P N ops (o :: l) ⟨ts, L⟩ tr K := by
 cases b with
 | true => exact ev_val ho h hw hi (by simp) hd (kt rfl)
 | false => exact ev_val ho h hw hi (by simp) hd (kf rfl)
theorem r_skip {o : Oper} (hw : wantT ops ts o = some false) (ho : o.dst = some d) (hd : Nat.blt d N = true) (k : EvK P N ops l ⟨(d, .d (.tup [])) :: ts, L⟩ (tr ++ [.skip]) K) : EvK P N ops (o :: l) ⟨ts, L⟩ tr K := by
 refine ev_cons (.skip hw (by rw [ho]; exact hd)) ?_
 simpa [St.eff, putS, ho, setL] using k
theorem r_movD {x : Operand} {y : D} (hx : opT ts x = .d y) (hw : wantT ops ts ⟨some d, .move x, ty, pos, af, gd⟩ = some true) (hd : Nat.blt d N = true) (kk : EvK P N ops l ⟨(d, .d y) :: ts, L⟩ (tr ++ [.run (List.map Prod.fst ([] : List (Nat × Rw))) []]) K) : EvK P N ops (⟨some d, .move x, ty, pos, af, gd⟩ :: l) ⟨ts, L⟩ tr K :=
 ev_val (ins := [(x, .d y)]) rfl (o_move (.inl rfl)) hw (by simp [Op.operands, hx]) (by simp) hd kk
theorem r_asgD {x : Operand} {y : D} (hx : opT ts x = .d y) (hw : wantT ops ts ⟨some d, .assign x, ty, pos, af, gd⟩ = some true) (hd : Nat.blt d N = true) (kk : EvK P N ops l ⟨(d, .d y) :: ts, L⟩ (tr ++ [.run (List.map Prod.fst ([] : List (Nat × Rw))) []]) K) : EvK P N ops (⟨some d, .assign x, ty, pos, af, gd⟩ :: l) ⟨ts, L⟩ tr K :=
 ev_val (ins := [(x, .d y)]) rfl (o_move (.inr rfl)) hw (by simp [Op.operands, hx]) (by simp) hd kk
theorem r_movR {x : Operand} {n s i c : Nat} (hx : opT ts x = .ref n s i c) (hw : wantT ops ts ⟨some d, .move x, ty, pos, af, gd⟩ = some true) (hd : Nat.blt d N = true) (kk : EvK P N ops l ⟨(d, .ref n s i c) :: ts, L⟩ (tr ++ [.run (List.map Prod.fst ([] : List (Nat × Rw))) []]) K) : EvK P N ops (⟨some d, .move x, ty, pos, af, gd⟩ :: l) ⟨ts, L⟩ tr K :=
 ev_val (ins := [(x, .ref n s i c)]) rfl (o_move (.inl rfl)) hw (by simp [Op.operands, hx]) (by simp) hd kk
theorem r_asgR {x : Operand} {n s i c : Nat} (hx : opT ts x = .ref n s i c) (hw : wantT ops ts ⟨some d, .assign x, ty, pos, af, gd⟩ = some true) (hd : Nat.blt d N = true) (kk : EvK P N ops l ⟨(d, .ref n s i c) :: ts, L⟩ (tr ++ [.run (List.map Prod.fst ([] : List (Nat × Rw))) []]) K) : EvK P N ops (⟨some d, .assign x, ty, pos, af, gd⟩ :: l) ⟨ts, L⟩ tr K :=
 ev_val (ins := [(x, .ref n s i c)]) rfl (o_move (.inr rfl)) hw (by simp [Op.operands, hx]) (by simp) hd kk
theorem r_movW {x : Operand} {n s lo len : Nat} (hx : opT ts x = .row n s lo len) (hw : wantT ops ts ⟨some d, .move x, ty, pos, af, gd⟩ = some true) (hd : Nat.blt d N = true) (kk : EvK P N ops l ⟨(d, .row n s lo len) :: ts, L⟩ (tr ++ [.run (List.map Prod.fst ([] : List (Nat × Rw))) []]) K) : EvK P N ops (⟨some d, .move x, ty, pos, af, gd⟩ :: l) ⟨ts, L⟩ tr K :=
 ev_val (ins := [(x, .row n s lo len)]) rfl (o_move (.inl rfl)) hw (by simp [Op.operands, hx]) (by simp) hd kk
theorem r_asgW {x : Operand} {n s lo len : Nat} (hx : opT ts x = .row n s lo len) (hw : wantT ops ts ⟨some d, .assign x, ty, pos, af, gd⟩ = some true) (hd : Nat.blt d N = true) (kk : EvK P N ops l ⟨(d, .row n s lo len) :: ts, L⟩ (tr ++ [.run (List.map Prod.fst ([] : List (Nat × Rw))) []]) K) : EvK P N ops (⟨some d, .assign x, ty, pos, af, gd⟩ :: l) ⟨ts, L⟩ tr K :=
 ev_val (ins := [(x, .row n s lo len)]) rfl (o_move (.inr rfl)) hw (by simp [Op.operands, hx]) (by simp) hd kk
theorem r_movF {x : Operand} {f : Fn} {u v : List T} (hx : opT ts x = .fn f u v) (hw : wantT ops ts ⟨some d, .move x, ty, pos, af, gd⟩ = some true) (hd : Nat.blt d N = true) (kk : EvK P N ops l ⟨(d, .fn f u v) :: ts, L⟩ (tr ++ [.run (List.map Prod.fst ([] : List (Nat × Rw))) []]) K) : EvK P N ops (⟨some d, .move x, ty, pos, af, gd⟩ :: l) ⟨ts, L⟩ tr K :=
 ev_val (ins := [(x, .fn f u v)]) rfl (o_move (.inl rfl)) hw (by simp [Op.operands, hx]) (by simp) hd kk
theorem r_asgF {x : Operand} {f : Fn} {u v : List T} (hx : opT ts x = .fn f u v) (hw : wantT ops ts ⟨some d, .assign x, ty, pos, af, gd⟩ = some true) (hd : Nat.blt d N = true) (kk : EvK P N ops l ⟨(d, .fn f u v) :: ts, L⟩ (tr ++ [.run (List.map Prod.fst ([] : List (Nat × Rw))) []]) K) : EvK P N ops (⟨some d, .assign x, ty, pos, af, gd⟩ :: l) ⟨ts, L⟩ tr K :=
 ev_val (ins := [(x, .fn f u v)]) rfl (o_move (.inr rfl)) hw (by simp [Op.operands, hx]) (by simp) hd kk
theorem r_pickT {c x y : Operand} {t : D} (hc : opT ts c = .d (.v (.bool true))) (hx : opT ts x = .d t) (hw : wantT ops ts ⟨some d, .pick c x y, ty, pos, af, gd⟩ = some true) (hd : Nat.blt d N = true) (kk : EvK P N ops l ⟨(d, .d t) :: ts, L⟩ (tr ++ [.run (List.map Prod.fst ([] : List (Nat × Rw))) []]) K) : EvK P N ops (⟨some d, .pick c x y, ty, pos, af, gd⟩ :: l) ⟨ts, L⟩ tr K :=
 ev_val (ins := [(c, .d (.v (.bool true))), (x, .d t), (y, opT ts y)]) rfl (o_pick (b := true) (u := opT ts y) rfl) hw (by simp [Op.operands, hc, hx]) (by simp) hd kk
theorem r_pickF {c x y : Operand} {t : D} (hc : opT ts c = .d (.v (.bool false))) (hy : opT ts y = .d t) (hw : wantT ops ts ⟨some d, .pick c x y, ty, pos, af, gd⟩ = some true) (hd : Nat.blt d N = true) (kk : EvK P N ops l ⟨(d, .d t) :: ts, L⟩ (tr ++ [.run (List.map Prod.fst ([] : List (Nat × Rw))) []]) K) : EvK P N ops (⟨some d, .pick c x y, ty, pos, af, gd⟩ :: l) ⟨ts, L⟩ tr K :=
 ev_val (ins := [(c, .d (.v (.bool false))), (x, opT ts x), (y, .d t)]) rfl (o_pick (b := false) (t := opT ts x) rfl) hw (by simp [Op.operands, hc, hy]) (by simp) hd kk
theorem r_add {t1 t2 : TypeId} {x y : Operand} {k : IntKind} {a b : Int} (hx : opT ts x = .d (.v (.int k a))) (hy : opT ts y = .d (.v (.int k b))) (hw : wantT ops ts ⟨some d, .binOp .add t1 x y t2, ty, pos, af, gd⟩ = some true) (hd : Nat.blt d N = true) (kk : EvK P N ops l ⟨(d, .d (.v (.int k (k.wrap (a + b))))) :: ts, L⟩ (tr ++ [.run (List.map Prod.fst ([] : List (Nat × Rw))) []]) K) : EvK P N ops (⟨some d, .binOp .add t1 x y t2, ty, pos, af, gd⟩ :: l) ⟨ts, L⟩ tr K :=
 ev_val (ins := [(x, .d (.v (.int k a))), (y, .d (.v (.int k b)))]) rfl (o_bin (p := .int k a) (q := .int k b) (z := .int k (k.wrap (a + b))) rfl rfl (fun w => by simp [go_sem, Op.intArith])) hw (by simp [Op.operands, hx, hy]) (by simp) hd kk
theorem r_sub {t1 t2 : TypeId} {x y : Operand} {k : IntKind} {a b : Int} (hx : opT ts x = .d (.v (.int k a))) (hy : opT ts y = .d (.v (.int k b))) (hw : wantT ops ts ⟨some d, .binOp .sub t1 x y t2, ty, pos, af, gd⟩ = some true) (hd : Nat.blt d N = true) (kk : EvK P N ops l ⟨(d, .d (.v (.int k (k.wrap (a - b))))) :: ts, L⟩ (tr ++ [.run (List.map Prod.fst ([] : List (Nat × Rw))) []]) K) : EvK P N ops (⟨some d, .binOp .sub t1 x y t2, ty, pos, af, gd⟩ :: l) ⟨ts, L⟩ tr K :=
 ev_val (ins := [(x, .d (.v (.int k a))), (y, .d (.v (.int k b)))]) rfl (o_bin (p := .int k a) (q := .int k b) (z := .int k (k.wrap (a - b))) rfl rfl (fun w => by simp [go_sem, Op.intArith])) hw (by simp [Op.operands, hx, hy]) (by simp) hd kk
theorem r_mul {t1 t2 : TypeId} {x y : Operand} {k : IntKind} {a b : Int} (hx : opT ts x = .d (.v (.int k a))) (hy : opT ts y = .d (.v (.int k b))) (hw : wantT ops ts ⟨some d, .binOp .mul t1 x y t2, ty, pos, af, gd⟩ = some true) (hd : Nat.blt d N = true) (kk : EvK P N ops l ⟨(d, .d (.v (.int k (k.wrap (a * b))))) :: ts, L⟩ (tr ++ [.run (List.map Prod.fst ([] : List (Nat × Rw))) []]) K) : EvK P N ops (⟨some d, .binOp .mul t1 x y t2, ty, pos, af, gd⟩ :: l) ⟨ts, L⟩ tr K :=
 ev_val (ins := [(x, .d (.v (.int k a))), (y, .d (.v (.int k b)))]) rfl (o_bin (p := .int k a) (q := .int k b) (z := .int k (k.wrap (a * b))) rfl rfl (fun w => by simp [go_sem, Op.intArith])) hw (by simp [Op.operands, hx, hy]) (by simp) hd kk
theorem r_lss {t1 t2 : TypeId} {x y : Operand} {k : IntKind} {a b : Int} (hx : opT ts x = .d (.v (.int k a))) (hy : opT ts y = .d (.v (.int k b))) (hw : wantT ops ts ⟨some d, .binOp .lss t1 x y t2, ty, pos, af, gd⟩ = some true) (hd : Nat.blt d N = true) (kt : a < b → EvK P N ops l ⟨(d, .d (.v (.bool true))) :: ts, L⟩ (tr ++ [.run [] []]) K) (kf : b ≤ a → EvK P N ops l ⟨(d, .d (.v (.bool false))) :: ts, L⟩ (tr ++ [.run [] []]) K) : EvK P N ops (⟨some d, .binOp .lss t1 x y t2, ty, pos, af, gd⟩ :: l) ⟨ts, L⟩ tr K :=
 ev_split (ins := [(x, .d (.v (.int k a))), (y, .d (.v (.int k b)))]) rfl (o_bin (p := .int k a) (q := .int k b) (z := .bool (decide (a < b))) rfl rfl (fun w => by simp [go_sem])) hw (by simp [Op.operands, hx, hy]) hd (fun h => kt (by simpa using h)) (fun h => kf (by simpa using h))
theorem r_leq {t1 t2 : TypeId} {x y : Operand} {k : IntKind} {a b : Int} (hx : opT ts x = .d (.v (.int k a))) (hy : opT ts y = .d (.v (.int k b))) (hw : wantT ops ts ⟨some d, .binOp .leq t1 x y t2, ty, pos, af, gd⟩ = some true) (hd : Nat.blt d N = true) (kt : a ≤ b → EvK P N ops l ⟨(d, .d (.v (.bool true))) :: ts, L⟩ (tr ++ [.run [] []]) K) (kf : b < a → EvK P N ops l ⟨(d, .d (.v (.bool false))) :: ts, L⟩ (tr ++ [.run [] []]) K) : EvK P N ops (⟨some d, .binOp .leq t1 x y t2, ty, pos, af, gd⟩ :: l) ⟨ts, L⟩ tr K :=
 ev_split (ins := [(x, .d (.v (.int k a))), (y, .d (.v (.int k b)))]) rfl (o_bin (p := .int k a) (q := .int k b) (z := .bool (decide (a ≤ b))) rfl rfl (fun w => by simp [go_sem])) hw (by simp [Op.operands, hx, hy]) hd (fun h => kt (by simpa using h)) (fun h => kf (by simpa using h))
theorem r_gtr {t1 t2 : TypeId} {x y : Operand} {k : IntKind} {a b : Int} (hx : opT ts x = .d (.v (.int k a))) (hy : opT ts y = .d (.v (.int k b))) (hw : wantT ops ts ⟨some d, .binOp .gtr t1 x y t2, ty, pos, af, gd⟩ = some true) (hd : Nat.blt d N = true) (kt : b < a → EvK P N ops l ⟨(d, .d (.v (.bool true))) :: ts, L⟩ (tr ++ [.run [] []]) K) (kf : a ≤ b → EvK P N ops l ⟨(d, .d (.v (.bool false))) :: ts, L⟩ (tr ++ [.run [] []]) K) : EvK P N ops (⟨some d, .binOp .gtr t1 x y t2, ty, pos, af, gd⟩ :: l) ⟨ts, L⟩ tr K :=
 ev_split (ins := [(x, .d (.v (.int k a))), (y, .d (.v (.int k b)))]) rfl (o_bin (p := .int k a) (q := .int k b) (z := .bool (decide (b < a))) rfl rfl (fun w => by simp [go_sem])) hw (by simp [Op.operands, hx, hy]) hd (fun h => kt (by simpa using h)) (fun h => kf (by simpa using h))
theorem r_geq {t1 t2 : TypeId} {x y : Operand} {k : IntKind} {a b : Int} (hx : opT ts x = .d (.v (.int k a))) (hy : opT ts y = .d (.v (.int k b))) (hw : wantT ops ts ⟨some d, .binOp .geq t1 x y t2, ty, pos, af, gd⟩ = some true) (hd : Nat.blt d N = true) (kt : b ≤ a → EvK P N ops l ⟨(d, .d (.v (.bool true))) :: ts, L⟩ (tr ++ [.run [] []]) K) (kf : a < b → EvK P N ops l ⟨(d, .d (.v (.bool false))) :: ts, L⟩ (tr ++ [.run [] []]) K) : EvK P N ops (⟨some d, .binOp .geq t1 x y t2, ty, pos, af, gd⟩ :: l) ⟨ts, L⟩ tr K :=
 ev_split (ins := [(x, .d (.v (.int k a))), (y, .d (.v (.int k b)))]) rfl (o_bin (p := .int k a) (q := .int k b) (z := .bool (decide (b ≤ a))) rfl rfl (fun w => by simp [go_sem])) hw (by simp [Op.operands, hx, hy]) hd (fun h => kt (by simpa using h)) (fun h => kf (by simpa using h))
theorem r_eql {t1 t2 : TypeId} {x y : Operand} {k : IntKind} {a b : Int} (hx : opT ts x = .d (.v (.int k a))) (hy : opT ts y = .d (.v (.int k b))) (hw : wantT ops ts ⟨some d, .binOp .eql t1 x y t2, ty, pos, af, gd⟩ = some true) (hd : Nat.blt d N = true) (kt : a = b → EvK P N ops l ⟨(d, .d (.v (.bool true))) :: ts, L⟩ (tr ++ [.run [] []]) K) (kf : a ≠ b → EvK P N ops l ⟨(d, .d (.v (.bool false))) :: ts, L⟩ (tr ++ [.run [] []]) K) : EvK P N ops (⟨some d, .binOp .eql t1 x y t2, ty, pos, af, gd⟩ :: l) ⟨ts, L⟩ tr K :=
 ev_split (ins := [(x, .d (.v (.int k a))), (y, .d (.v (.int k b)))]) rfl (o_bin (p := .int k a) (q := .int k b) (z := .bool (a == b)) rfl rfl (fun w => by simp [go_sem])) hw (by simp [Op.operands, hx, hy]) hd (fun h => kt (by simpa using h)) (fun h => kf (by simpa using h))
theorem r_neq {t1 t2 : TypeId} {x y : Operand} {k : IntKind} {a b : Int} (hx : opT ts x = .d (.v (.int k a))) (hy : opT ts y = .d (.v (.int k b))) (hw : wantT ops ts ⟨some d, .binOp .neq t1 x y t2, ty, pos, af, gd⟩ = some true) (hd : Nat.blt d N = true) (kt : a ≠ b → EvK P N ops l ⟨(d, .d (.v (.bool true))) :: ts, L⟩ (tr ++ [.run [] []]) K) (kf : a = b → EvK P N ops l ⟨(d, .d (.v (.bool false))) :: ts, L⟩ (tr ++ [.run [] []]) K) : EvK P N ops (⟨some d, .binOp .neq t1 x y t2, ty, pos, af, gd⟩ :: l) ⟨ts, L⟩ tr K :=
 ev_split (ins := [(x, .d (.v (.int k a))), (y, .d (.v (.int k b)))]) rfl (o_bin (p := .int k a) (q := .int k b) (z := .bool (a != b)) rfl rfl (fun w => by simp [go_sem])) hw (by simp [Op.operands, hx, hy]) hd (fun h => kt (by simpa using h)) (fun h => kf (by simpa using h))
theorem r_streql {t1 t2 : TypeId} {x y : Operand} {a b : ByteArray} (hx : opT ts x = .d (.v (.string a))) (hy : opT ts y = .d (.v (.string b))) (hw : wantT ops ts ⟨some d, .binOp .eql t1 x y t2, ty, pos, af, gd⟩ = some true) (hd : Nat.blt d N = true) (kt : a.toList = b.toList → EvK P N ops l ⟨(d, .d (.v (.bool true))) :: ts, L⟩ (tr ++ [.run [] []]) K) (kf : a.toList ≠ b.toList → EvK P N ops l ⟨(d, .d (.v (.bool false))) :: ts, L⟩ (tr ++ [.run [] []]) K) : EvK P N ops (⟨some d, .binOp .eql t1 x y t2, ty, pos, af, gd⟩ :: l) ⟨ts, L⟩ tr K :=
 ev_split (ins := [(x, .d (.v (.string a))), (y, .d (.v (.string b)))]) rfl (o_bin (p := .string a) (q := .string b) (z := .bool ((a.toList == b.toList))) rfl rfl (fun w => by simp [go_sem, binOp, Op.stringOp])) hw (by simp [Op.operands, hx, hy]) hd (fun h => kt (by simpa using h)) (fun h => kf (by simpa using h))
theorem r_not {t1 : TypeId} {x : Operand} {b : Bool} (hx : opT ts x = .d (.v (.bool b))) (hw : wantT ops ts ⟨some d, .unOp .not t1 x, ty, pos, af, gd⟩ = some true) (hd : Nat.blt d N = true) (kk : EvK P N ops l ⟨(d, .d (.v (.bool !b))) :: ts, L⟩ (tr ++ [.run (List.map Prod.fst ([] : List (Nat × Rw))) []]) K) : EvK P N ops (⟨some d, .unOp .not t1 x, ty, pos, af, gd⟩ :: l) ⟨ts, L⟩ tr K :=
 ev_val (ins := [(x, .d (.v (.bool b)))]) rfl (o_un (p := .bool b) (z := .bool !b) rfl rfl rfl) hw (by simp [Op.operands, hx]) (by simp) hd kk
theorem r_notT {t1 : TypeId} {x : Operand} (hx : opT ts x = .d (.v (.bool true))) (hw : wantT ops ts ⟨some d, .unOp .not t1 x, ty, pos, af, gd⟩ = some true) (hd : Nat.blt d N = true) (kk : EvK P N ops l ⟨(d, .d (.v (.bool false))) :: ts, L⟩ (tr ++ [.run (List.map Prod.fst ([] : List (Nat × Rw))) []]) K) : EvK P N ops (⟨some d, .unOp .not t1 x, ty, pos, af, gd⟩ :: l) ⟨ts, L⟩ tr K :=
 ev_val (ins := [(x, .d (.v (.bool true)))]) rfl (o_un (p := .bool true) (z := .bool false) rfl rfl rfl) hw (by simp [Op.operands, hx]) (by simp) hd kk
theorem r_notF {t1 : TypeId} {x : Operand} (hx : opT ts x = .d (.v (.bool false))) (hw : wantT ops ts ⟨some d, .unOp .not t1 x, ty, pos, af, gd⟩ = some true) (hd : Nat.blt d N = true) (kk : EvK P N ops l ⟨(d, .d (.v (.bool true))) :: ts, L⟩ (tr ++ [.run (List.map Prod.fst ([] : List (Nat × Rw))) []]) K) : EvK P N ops (⟨some d, .unOp .not t1 x, ty, pos, af, gd⟩ :: l) ⟨ts, L⟩ tr K :=
 ev_val (ins := [(x, .d (.v (.bool false)))]) rfl (o_un (p := .bool false) (z := .bool true) rfl rfl rfl) hw (by simp [Op.operands, hx]) (by simp) hd kk
theorem r_convD {src dst : TypeId} {x : Operand} {p z : Value} (hx : opT ts x = .d (.v p)) (h1 : one z) (hz : ∀ w, (convert src dst p).run P w = .ok z w) (hw : wantT ops ts ⟨some d, .convert src dst x, ty, pos, af, gd⟩ = some true) (hd : Nat.blt d N = true) (kk : EvK P N ops l ⟨(d, .d (.v z)) :: ts, L⟩ (tr ++ [.run (List.map Prod.fst ([] : List (Nat × Rw))) []]) K) : EvK P N ops (⟨some d, .convert src dst x, ty, pos, af, gd⟩ :: l) ⟨ts, L⟩ tr K :=
 ev_val (ins := [(x, .d (.v p))]) rfl (o_conv rfl h1 hz) hw (by simp [Op.operands, hx]) (by simp) hd kk
theorem r_iface {t : TypeId} {i : TI} {x : Operand} {p : Value} (tb : Tab P) (ht : tb.f t = some i) (hn : i.nif = true) (hx : opT ts x = .d (.v p)) (hw : wantT ops ts ⟨some d, .makeInterface t x, ty, pos, af, gd⟩ = some true) (hd : Nat.blt d N = true) (kk : EvK P N ops l ⟨(d, .d (.v (.iface t p))) :: ts, L⟩ (tr ++ [.run (List.map Prod.fst ([] : List (Nat × Rw))) []]) K) : EvK P N ops (⟨some d, .makeInterface t x, ty, pos, af, gd⟩ :: l) ⟨ts, L⟩ tr K :=
 ev_val (ins := [(x, .d (.v p))]) rfl (o_iface rfl (tb.ok _ _ ht) hn) hw (by simp [Op.operands, hx]) (by simp) hd kk
theorem zip_ins {ts : List (Nat × T)} : ∀ {xs : List Operand} {us : List T}, xs.map (opT ts) = us → ∀ p ∈ xs.zip us, opT ts p.1 = p.2 ∧ p.1 ∈ xs
 | [], us, h, p, hp => by simp at hp
 | x :: xs, us, h, p, hp => by
  subst h
  simp only [List.map_cons, List.zip_cons_cons, List.mem_cons] at hp
  rcases hp with rfl | hp
  ·exact ⟨rfl, by simp⟩
  ·have := zip_ins (xs := xs) rfl p hp
   exact ⟨this.1, by simp [this.2]⟩
theorem r_func {fn : Fn} {first caps : Array Operand} {us vs : List T} (h1 : first.toList.map (opT ts) = us) (h2 : caps.toList.map (opT ts) = vs) (hw : wantT ops ts ⟨some d, .makeFunc fn first caps, ty, pos, af, gd⟩ = some true) (hd : Nat.blt d N = true) (kk : EvK P N ops l ⟨(d, .fn fn us vs) :: ts, L⟩ (tr ++ [.run (List.map Prod.fst ([] : List (Nat × Rw))) []]) K) : EvK P N ops (⟨some d, .makeFunc fn first caps, ty, pos, af, gd⟩ :: l) ⟨ts, L⟩ tr K :=
 ev_val rfl (o_func rfl (by rw [← h1]; simp) (by rw [← h2]; simp)) hw (fun p hp => by
  rcases List.mem_append.1 hp with h | h
  ·obtain ⟨a, b⟩ := zip_ins h1 p h
   exact ⟨a, by simp only [Op.operands, Array.mem_append]; exact .inl (by simpa using b)⟩
  ·obtain ⟨a, b⟩ := zip_ins h2 p h
   exact ⟨a, by simp only [Op.operands, Array.mem_append]; exact .inr (by simpa using b)⟩) (by simp) hd kk
theorem r_nilRef {x : Operand} {n s i c : Nat} (hx : opT ts x = .ref n s i c) (hw : wantT ops ts ⟨some d, .nilCheck x, ty, pos, af, gd⟩ = some true) (hd : Nat.blt d N = true) (kk : EvK P N ops l ⟨(d, .ref n s i c) :: ts, L⟩ (tr ++ [.run (List.map Prod.fst ([] : List (Nat × Rw))) []]) K) : EvK P N ops (⟨some d, .nilCheck x, ty, pos, af, gd⟩ :: l) ⟨ts, L⟩ tr K :=
 ev_val (ins := [(x, .ref n s i c)]) rfl (o_nilRef rfl) hw (by simp [Op.operands, hx]) (by simp) hd kk
theorem r_nilEl {x : Operand} {q : List D} {s i c : Nat} (hx : opT ts x = .d (.el s q i c)) (hw : wantT ops ts ⟨some d, .nilCheck x, ty, pos, af, gd⟩ = some true) (hd : Nat.blt d N = true) (kk : EvK P N ops l ⟨(d, .d (.el s q i c)) :: ts, L⟩ (tr ++ [.run (List.map Prod.fst ([] : List (Nat × Rw))) []]) K) : EvK P N ops (⟨some d, .nilCheck x, ty, pos, af, gd⟩ :: l) ⟨ts, L⟩ tr K :=
 ev_val (ins := [(x, .d (.el s q i c))]) rfl (o_nilEl rfl) hw (by simp [Op.operands, hx]) (by simp) hd kk
theorem r_ext {x : Operand} {q : List T} {k : Nat} {t : T} (hx : opT ts x = .tup q) (hk : q[k]? = some t) (hw : wantT ops ts ⟨some d, .extract x k, ty, pos, af, gd⟩ = some true) (hd : Nat.blt d N = true) (kk : EvK P N ops l ⟨(d, t) :: ts, L⟩ (tr ++ [.run (List.map Prod.fst ([] : List (Nat × Rw))) []]) K) : EvK P N ops (⟨some d, .extract x k, ty, pos, af, gd⟩ :: l) ⟨ts, L⟩ tr K :=
 ev_val (ins := [(x, .tup q)]) rfl (o_extract rfl hk) hw (by simp [Op.operands, hx]) (by simp) hd kk
theorem r_extD {x : Operand} {q : List D} {k : Nat} {t : D} (hx : opT ts x = .d (.tup q)) (hk : q[k]? = some t) (hw : wantT ops ts ⟨some d, .extract x k, ty, pos, af, gd⟩ = some true) (hd : Nat.blt d N = true) (kk : EvK P N ops l ⟨(d, .d t) :: ts, L⟩ (tr ++ [.run (List.map Prod.fst ([] : List (Nat × Rw))) []]) K) : EvK P N ops (⟨some d, .extract x k, ty, pos, af, gd⟩ :: l) ⟨ts, L⟩ tr K :=
 ev_val (ins := [(x, .d (.tup q))]) rfl (o_extractD rfl hk) hw (by simp [Op.operands, hx]) (by simp) hd kk
theorem r_alloc {t : TypeId} {a0 : Bool} {s b0 : Nat} {z0 : T} {sl0 : Option TypeId} {fs0 : List (Nat × Bool × Nat)} {ar0 : Option (Nat × TypeId)} {nf0 : Bool} {n : Nat} {nr : List Nat} (tb : Tab P) (ht : tb.f t = some ⟨a0, s, b0, z0, sl0, fs0, ar0, nf0⟩) (h0 : Nat.beq s 0 = false) (hn : nums.drop L.length = n :: nr) (hw : wantT ops ts ⟨some d, .alloc t, ty, pos, af, gd⟩ = some true) (hd : Nat.blt d N = true) (kk : EvK P N ops l ⟨(d, .ref n s 0 0) :: ts, L ++ [some ⟨s, [z0]⟩]⟩ (tr ++ [.run (List.map Prod.fst ([] : List (Nat × Rw)) ++ [n]) [n]]) K) : EvK P N ops (⟨some d, .alloc t, ty, pos, af, gd⟩ :: l) ⟨ts, L⟩ tr K :=
 by have e0 := nums_eq hn; subst e0; exact ev_new (ins := []) rfl (o_alloc (P := P) (o := ⟨some d, .alloc t, ty, pos, af, gd⟩) (fresh := L.length) rfl (tb.ok _ _ ht) h0) hw (by simp) (by simp) hd kk
theorem r_box {t : TypeId} {x : Operand} {u : T} {s : Nat} {nr2 : List Nat} {n : Nat} {nr : List Nat} (hx : opT ts x = u) (hs : nums.drop u.cells.length = s :: nr2) (hu : allOne u.cells = true) (h0 : Nat.beq s 0 = false) (hn : nums.drop L.length = n :: nr) (hw : wantT ops ts ⟨some d, .box t x, ty, pos, af, gd⟩ = some true) (hd : Nat.blt d N = true) (kk : EvK P N ops l ⟨(d, .ref n s 0 0) :: ts, L ++ [some ⟨s, [u]⟩]⟩ (tr ++ [.run (List.map Prod.fst ([] : List (Nat × Rw)) ++ [n]) [n]]) K) : EvK P N ops (⟨some d, .box t x, ty, pos, af, gd⟩ :: l) ⟨ts, L⟩ tr K :=
 by have e0 := nums_eq hn; subst e0; exact ev_new (ins := [(x, u)]) rfl (o_box rfl (nums_eq hs) h0 (by unfold allOne at hu; rwa [List.all_eq_true] at hu)) hw (by simp [Op.operands, hx]) (by simp) hd kk
theorem r_ldD {t : TypeId} {i : TI} {x : Operand} {n s q c : Nat} {r : Rw} {e : T} {y : D} (tb : Tab P) (ht : tb.f t = some i) (hx : opT ts x = .ref n s q c) (hr : L[n]? = some (some r)) (hs : r.s = s) (he : r.els[q]? = some e) (hp : partOk i e.cells.length c = true) (hv : partOf i e.cells c = .d y) (hw : wantT ops ts ⟨some d, .load t x, ty, pos, af, gd⟩ = some true) (hd : Nat.blt d N = true) (kk : EvK P N ops l ⟨(d, .d y) :: ts, L⟩ (tr ++ [.run (List.map Prod.fst ([(n, r)] : List (Nat × Rw))) []]) K) : EvK P N ops (⟨some d, .load t x, ty, pos, af, gd⟩ :: l) ⟨ts, L⟩ tr K :=
 ev_val (ins := [(x, .ref n s q c)]) rfl (hv ▸ o_load rfl (tb.ok _ _ ht) hs he hp) hw (by simp [Op.operands, hx]) (by simp [hr]) hd kk
theorem r_ldR {t : TypeId} {i : TI} {x : Operand} {n s q c : Nat} {r : Rw} {e : T} {n2 s2 i2 c2 : Nat} (tb : Tab P) (ht : tb.f t = some i) (hx : opT ts x = .ref n s q c) (hr : L[n]? = some (some r)) (hs : r.s = s) (he : r.els[q]? = some e) (hp : partOk i e.cells.length c = true) (hv : partOf i e.cells c = .ref n2 s2 i2 c2) (hw : wantT ops ts ⟨some d, .load t x, ty, pos, af, gd⟩ = some true) (hd : Nat.blt d N = true) (kk : EvK P N ops l ⟨(d, .ref n2 s2 i2 c2) :: ts, L⟩ (tr ++ [.run (List.map Prod.fst ([(n, r)] : List (Nat × Rw))) []]) K) : EvK P N ops (⟨some d, .load t x, ty, pos, af, gd⟩ :: l) ⟨ts, L⟩ tr K :=
 ev_val (ins := [(x, .ref n s q c)]) rfl (hv ▸ o_load rfl (tb.ok _ _ ht) hs he hp) hw (by simp [Op.operands, hx]) (by simp [hr]) hd kk
theorem r_ldW {t : TypeId} {i : TI} {x : Operand} {n s q c : Nat} {r : Rw} {e : T} {n2 s2 lo len : Nat} (tb : Tab P) (ht : tb.f t = some i) (hx : opT ts x = .ref n s q c) (hr : L[n]? = some (some r)) (hs : r.s = s) (he : r.els[q]? = some e) (hp : partOk i e.cells.length c = true) (hv : partOf i e.cells c = .row n2 s2 lo len) (hw : wantT ops ts ⟨some d, .load t x, ty, pos, af, gd⟩ = some true) (hd : Nat.blt d N = true) (kk : EvK P N ops l ⟨(d, .row n2 s2 lo len) :: ts, L⟩ (tr ++ [.run (List.map Prod.fst ([(n, r)] : List (Nat × Rw))) []]) K) : EvK P N ops (⟨some d, .load t x, ty, pos, af, gd⟩ :: l) ⟨ts, L⟩ tr K :=
 ev_val (ins := [(x, .ref n s q c)]) rfl (hv ▸ o_load rfl (tb.ok _ _ ht) hs he hp) hw (by simp [Op.operands, hx]) (by simp [hr]) hd kk
theorem r_ldG {t : TypeId} {i : TI} {x : Operand} {n s q c : Nat} {r : Rw} {e : T} {q2 : List T} (tb : Tab P) (ht : tb.f t = some i) (hx : opT ts x = .ref n s q c) (hr : L[n]? = some (some r)) (hs : r.s = s) (he : r.els[q]? = some e) (hp : partOk i e.cells.length c = true) (hv : partOf i e.cells c = .agg q2) (hw : wantT ops ts ⟨some d, .load t x, ty, pos, af, gd⟩ = some true) (hd : Nat.blt d N = true) (kk : EvK P N ops l ⟨(d, .agg q2) :: ts, L⟩ (tr ++ [.run (List.map Prod.fst ([(n, r)] : List (Nat × Rw))) []]) K) : EvK P N ops (⟨some d, .load t x, ty, pos, af, gd⟩ :: l) ⟨ts, L⟩ tr K :=
 ev_val (ins := [(x, .ref n s q c)]) rfl (hv ▸ o_load rfl (tb.ok _ _ ht) hs he hp) hw (by simp [Op.operands, hx]) (by simp [hr]) hd kk
theorem r_ldE {t : TypeId} {i : TI} {x : Operand} {s q c : Nat} {w : List D} {e y : D} (tb : Tab P) (ht : tb.f t = some i) (hx : opT ts x = .d (.el s w q c)) (he : w[q]? = some e) (hp : partOk i e.cells.length c = true) (hv : partOf i (e.cells.map .d) c = .d y) (hw : wantT ops ts ⟨some d, .load t x, ty, pos, af, gd⟩ = some true) (hd : Nat.blt d N = true) (kk : EvK P N ops l ⟨(d, .d y) :: ts, L⟩ (tr ++ [.run (List.map Prod.fst ([] : List (Nat × Rw))) []]) K) : EvK P N ops (⟨some d, .load t x, ty, pos, af, gd⟩ :: l) ⟨ts, L⟩ tr K :=
 ev_val (ins := [(x, .d (.el s w q c))]) rfl (hv ▸ o_loadD rfl (tb.ok _ _ ht) he hp) hw (by simp [Op.operands, hx]) (by simp) hd kk
theorem r_fa {t : TypeId} {i : TI} {x : Operand} {n s q c f m : Nat} {b : Bool} {c' : Nat} (tb : Tab P) (ht : tb.f t = some i) (hx : opT ts x = .ref n s q c) (hf : i.fs[f]? = some (c', b, m)) (hm : Nat.beq m 0 = false) {o2 : Nat} {nr : List Nat} (ho : nums.drop (c + c') = o2 :: nr) (hw : wantT ops ts ⟨some d, .fieldAddr t x f, ty, pos, af, gd⟩ = some true) (hd : Nat.blt d N = true) (kk : EvK P N ops l ⟨(d, .ref n s q o2) :: ts, L⟩ (tr ++ [.run (List.map Prod.fst ([] : List (Nat × Rw))) []]) K) : EvK P N ops (⟨some d, .fieldAddr t x f, ty, pos, af, gd⟩ :: l) ⟨ts, L⟩ tr K :=
 ev_val (ins := [(x, .ref n s q c)]) rfl (nums_eq ho ▸ o_fieldRef rfl (tb.ok _ _ ht) hf hm) hw (by simp [Op.operands, hx]) (by simp) hd kk
theorem r_faE {t : TypeId} {i : TI} {x : Operand} {s q c f m : Nat} {w : List D} {b : Bool} {c' : Nat} (tb : Tab P) (ht : tb.f t = some i) (hx : opT ts x = .d (.el s w q c)) (hf : i.fs[f]? = some (c', b, m)) (hm : Nat.beq m 0 = false) {o2 : Nat} {nr : List Nat} (ho : nums.drop (c + c') = o2 :: nr) (hw : wantT ops ts ⟨some d, .fieldAddr t x f, ty, pos, af, gd⟩ = some true) (hd : Nat.blt d N = true) (kk : EvK P N ops l ⟨(d, .d (.el s w q o2)) :: ts, L⟩ (tr ++ [.run (List.map Prod.fst ([] : List (Nat × Rw))) []]) K) : EvK P N ops (⟨some d, .fieldAddr t x f, ty, pos, af, gd⟩ :: l) ⟨ts, L⟩ tr K :=
 ev_val (ins := [(x, .d (.el s w q c))]) rfl (nums_eq ho ▸ o_fieldEl rfl (tb.ok _ _ ht) hf hm) hw (by simp [Op.operands, hx]) (by simp) hd kk
theorem r_ixR {t e : TypeId} {i ei : TI} {x y : Operand} {n s lo len : Nat} {k : IntKind} {q : Int} (tb : Tab P) (ht : tb.f t = some i) (hs : i.sl = some e) (he : tb.f e = some ei) (hx : opT ts x = .row n s lo len) (hz : ei.size = s) (hy : opT ts y = .d (.v (.int k q))) (h0 : 0 ≤ q) (h1 : q < len) (hw : wantT ops ts ⟨some d, .indexAddr t x y, ty, pos, af, gd⟩ = some true) (hd : Nat.blt d N = true) (kk : EvK P N ops l ⟨(d, .ref n s (lo + q.toNat) 0) :: ts, L⟩ (tr ++ [.run (List.map Prod.fst ([] : List (Nat × Rw))) []]) K) : EvK P N ops (⟨some d, .indexAddr t x y, ty, pos, af, gd⟩ :: l) ⟨ts, L⟩ tr K :=
 ev_val (ins := [(x, .row n s lo len), (y, .d (.v (.int k q)))]) rfl (o_indexRow rfl (tb.ok _ _ ht) hs (tb.ok _ _ he) hz h0 h1) hw (by simp [Op.operands, hx, hy]) (by simp) hd kk
theorem r_ixE {t e : TypeId} {i ei : TI} {x y : Operand} {s : Nat} {w : List D} {k : IntKind} {q : Int} (tb : Tab P) (ht : tb.f t = some i) (hs : i.sl = some e) (he : tb.f e = some ei) (hx : opT ts x = .d (.arr s w)) (hz : ei.size = s) (hy : opT ts y = .d (.v (.int k q))) (h0 : 0 ≤ q) (h1 : q < w.length) (hw : wantT ops ts ⟨some d, .indexAddr t x y, ty, pos, af, gd⟩ = some true) (hd : Nat.blt d N = true) (kk : EvK P N ops l ⟨(d, .d (.el s w q.toNat 0)) :: ts, L⟩ (tr ++ [.run (List.map Prod.fst ([] : List (Nat × Rw))) []]) K) : EvK P N ops (⟨some d, .indexAddr t x y, ty, pos, af, gd⟩ :: l) ⟨ts, L⟩ tr K :=
 ev_val (ins := [(x, .d (.arr s w)), (y, .d (.v (.int k q)))]) rfl (o_indexArr rfl (tb.ok _ _ ht) hs (tb.ok _ _ he) hz h0 h1) hw (by simp [Op.operands, hx, hy]) (by simp) hd kk
theorem r_ixS {t : TypeId} {x y : Operand} {b : ByteArray} {k : IntKind} {q : Int} {c : UInt8} (ht : P.underlying t = some .string) (hx : opT ts x = .d (.v (.string b))) (hy : opT ts y = .d (.v (.int k q))) (h0 : 0 ≤ q) (h1 : b[q.toNat]? = some c) (hw : wantT ops ts ⟨some d, .index t x y, ty, pos, af, gd⟩ = some true) (hd : Nat.blt d N = true) (kk : EvK P N ops l ⟨(d, .d (.v (.int .u8 c.toNat))) :: ts, L⟩ (tr ++ [.run (List.map Prod.fst ([] : List (Nat × Rw))) []]) K) : EvK P N ops (⟨some d, .index t x y, ty, pos, af, gd⟩ :: l) ⟨ts, L⟩ tr K :=
 ev_val (ins := [(x, .d (.v (.string b))), (y, .d (.v (.int k q)))]) rfl (o_indexStr rfl ht h0 h1) hw (by simp [Op.operands, hx, hy]) (by simp) hd kk
theorem r_lenM {α : Type} {t e : TypeId} {i : TI} {x : Operand} {s : Nat} {w : List α} {g : α → D} (tb : Tab P) (ht : tb.f t = some i) (hs : i.sl = some e) (hx : opT ts x = .d (.arr s (w.map g))) (hw : wantT ops ts ⟨some d, .call { callee := .builtin .len, args := #[x], argTypes := #[t] }, ty, pos, af, gd⟩ = some true) (hd : Nat.blt d N = true) (kk : EvK P N ops l ⟨(d, .d (.v (.int .i64 (w.length : Nat)))) :: ts, L⟩ (tr ++ [.run (List.map Prod.fst ([] : List (Nat × Rw))) []]) K) : EvK P N ops (⟨some d, .call { callee := .builtin .len, args := #[x], argTypes := #[t] }, ty, pos, af, gd⟩ :: l) ⟨ts, L⟩ tr K :=
 ev_val (ins := [(x, .d (.arr s (w.map g)))]) rfl (by have := o_len (P := P) (o := ⟨some d, .call { callee := .builtin .len, args := #[x], argTypes := #[t] }, ty, pos, af, gd⟩) (fresh := L.length) (u := .d (.arr s (w.map g))) rfl (tb.ok _ _ ht) hs (.inl ⟨s, _, rfl, rfl⟩); rw [List.length_map] at this; exact this) hw (by simp [Op.operands, Call.operands, hx]) (by simp) hd kk
theorem r_lenR {t e : TypeId} {i : TI} {x : Operand} {n s lo len : Nat} (tb : Tab P) (ht : tb.f t = some i) (hs : i.sl = some e) (hx : opT ts x = .row n s lo len) (hw : wantT ops ts ⟨some d, .call { callee := .builtin .len, args := #[x], argTypes := #[t] }, ty, pos, af, gd⟩ = some true) (hd : Nat.blt d N = true) (kk : EvK P N ops l ⟨(d, .d (.v (.int .i64 len))) :: ts, L⟩ (tr ++ [.run (List.map Prod.fst ([] : List (Nat × Rw))) []]) K) : EvK P N ops (⟨some d, .call { callee := .builtin .len, args := #[x], argTypes := #[t] }, ty, pos, af, gd⟩ :: l) ⟨ts, L⟩ tr K :=
 ev_val (ins := [(x, .row n s lo len)]) rfl (o_len rfl (tb.ok _ _ ht) hs (.inr (.inl ⟨n, s, lo, rfl⟩))) hw (by simp [Op.operands, Call.operands, hx]) (by simp) hd kk
theorem r_lenS {t : TypeId} {x : Operand} {b : ByteArray} (ht : P.underlying t = some .string) (hx : opT ts x = .d (.v (.string b))) (hw : wantT ops ts ⟨some d, .call { callee := .builtin .len, args := #[x], argTypes := #[t] }, ty, pos, af, gd⟩ = some true) (hd : Nat.blt d N = true) (kk : EvK P N ops l ⟨(d, .d (.v (.int .i64 b.size))) :: ts, L⟩ (tr ++ [.run (List.map Prod.fst ([] : List (Nat × Rw))) []]) K) : EvK P N ops (⟨some d, .call { callee := .builtin .len, args := #[x], argTypes := #[t] }, ty, pos, af, gd⟩ :: l) ⟨ts, L⟩ tr K :=
 ev_val (ins := [(x, .d (.v (.string b)))]) rfl (o_lenStr rfl ht) hw (by simp [Op.operands, Call.operands, hx]) (by simp) hd kk
theorem r_slHiM {α : Type} {t e : TypeId} {i ei : TI} {x z : Operand} {s : Nat} {w : List α} {g : α → D} {k2 : IntKind} {q : Nat} (tb : Tab P) (ht : tb.f t = some i) (hs : i.sl = some e) (he : tb.f e = some ei) (hx : opT ts x = .d (.arr s (w.map g))) (hz : ei.size = s) (hq : opT ts z = .d (.v (.int k2 (q : Nat)))) (h1 : q ≤ w.length) (hw : wantT ops ts ⟨some d, .slice t x none (some z) none, ty, pos, af, gd⟩ = some true) (hd : Nat.blt d N = true) (kk : EvK P N ops l ⟨(d, .d (.arr s ((w.take q).map g))) :: ts, L⟩ (tr ++ [.run (List.map Prod.fst ([] : List (Nat × Rw))) []]) K) : EvK P N ops (⟨some d, .slice t x none (some z) none, ty, pos, af, gd⟩ :: l) ⟨ts, L⟩ tr K :=
 ev_val (ins := [(x, .d (.arr s (w.map g))), (z, .d (.v (.int k2 (q : Nat))))]) rfl (List.map_take ▸ o_sliceHi rfl (tb.ok _ _ ht) hs (tb.ok _ _ he) hz (by rw [List.length_map]; exact h1)) hw (by simp [Op.operands, hx, hq]) (by simp) hd kk
theorem r_max3 {tys : Array TypeId} {x y u : Operand} {k : IntKind} {a b e : Int} (hx : opT ts x = .d (.v (.int k a))) (hy : opT ts y = .d (.v (.int k b))) (hu : opT ts u = .d (.v (.int k e))) (hw : wantT ops ts ⟨some d, .call { callee := .builtin .max, args := #[x, y, u], argTypes := tys }, ty, pos, af, gd⟩ = some true) (hd : Nat.blt d N = true) (kk : EvK P N ops l ⟨(d, .d (.v (.int k (max (max a b) e)))) :: ts, L⟩ (tr ++ [.run (List.map Prod.fst ([] : List (Nat × Rw))) []]) K) : EvK P N ops (⟨some d, .call { callee := .builtin .max, args := #[x, y, u], argTypes := tys }, ty, pos, af, gd⟩ :: l) ⟨ts, L⟩ tr K :=
 ev_val (ins := [(x, .d (.v (.int k a))), (y, .d (.v (.int k b))), (u, .d (.v (.int k e)))]) rfl (o_builtin3 (p := .int k a) (q := .int k b) (r := .int k e) (z := .int k (max (max a b) e)) rfl rfl (fun w c => by simp [builtin, Builtin.max_, Builtin.max2, List.foldlM]; omega)) hw (by simp [Op.operands, Call.operands, hx, hy, hu]) (by simp) hd kk
theorem r_slLo {t e : TypeId} {i ei : TI} {x y : Operand} {s : Nat} {w : List D} {k : IntKind} {p : Nat} (tb : Tab P) (ht : tb.f t = some i) (hs : i.sl = some e) (he : tb.f e = some ei) (hx : opT ts x = .d (.arr s w)) (hz : ei.size = s) (hy : opT ts y = .d (.v (.int k p))) (h1 : p ≤ w.length) (hw : wantT ops ts ⟨some d, .slice t x (some y) none none, ty, pos, af, gd⟩ = some true) (hd : Nat.blt d N = true) (kk : EvK P N ops l ⟨(d, .d (.arr s (w.drop p))) :: ts, L⟩ (tr ++ [.run (List.map Prod.fst ([] : List (Nat × Rw))) []]) K) : EvK P N ops (⟨some d, .slice t x (some y) none none, ty, pos, af, gd⟩ :: l) ⟨ts, L⟩ tr K :=
 ev_val (ins := [(x, .d (.arr s w)), (y, .d (.v (.int k p)))]) rfl (o_sliceLo rfl (tb.ok _ _ ht) hs (tb.ok _ _ he) hz h1) hw (by simp [Op.operands, hx, hy]) (by simp) hd kk
theorem r_build {t : TypeId} {i : TI} {parts : Array (Nat × Operand)} {us : List T} {v : T} (tb : Tab P) (ht : tb.f t = some i) (hx : (parts.toList.map (·.2)).map (opT ts) = us) (hfs : i.fs ≠ []) (h1 : onesOk us = true) (hin : partsIn i.fs parts.toList = true) (hk : fillOk i.z.cells.length (partsOf i.fs parts.toList us) = true) (hv : mkAgg (fillT i.z.cells ((partsOf i.fs parts.toList us).map fun q => (q.1, q.2.2))) = v) (hw : wantT ops ts ⟨some d, .build t parts, ty, pos, af, gd⟩ = some true) (hd : Nat.blt d N = true) (kk : EvK P N ops l ⟨(d, v) :: ts, L⟩ (tr ++ [.run (List.map Prod.fst ([] : List (Nat × Rw))) []]) K) : EvK P N ops (⟨some d, .build t parts, ty, pos, af, gd⟩ :: l) ⟨ts, L⟩ tr K :=
 ev_val rfl (hv ▸ o_build rfl (tb.ok _ _ ht) hfs (by rw [← hx]; simp) h1 hin hk) hw (fun p hp => by obtain ⟨a, b⟩ := zip_ins hx p hp; exact ⟨a, by simpa [Op.operands] using b⟩) (by simp) hd kk
theorem r_bslice {t e : TypeId} {i : TI} {a0 : Bool} {s b0 : Nat} {z0 : T} {sl0 : Option TypeId} {fs0 : List (Nat × Bool × Nat)} {ar0 : Option (Nat × TypeId)} {nf0 : Bool} {len : Nat} {parts : Array (Nat × Operand)} {us : List T} {n : Nat} {nr : List Nat} (tb : Tab P) (ht : tb.f t = some i) (hsl : i.sl = some e) (he : tb.f e = some ⟨a0, s, b0, z0, sl0, fs0, ar0, nf0⟩) (h0 : Nat.beq s 0 = false) (hx : (parts.toList.map (·.2)).map (opT ts) = us) (hlen : us.length = len) (hsq : seqParts 0 parts.toList = true) (hs : sizesOk s us = true) (h1 : onesOk us = true) (hb : Nat.ble (len * s) 16777216 = true) (hn : nums.drop L.length = n :: nr) (hw : wantT ops ts ⟨some d, .buildSlice t len parts, ty, pos, af, gd⟩ = some true) (hd : Nat.blt d N = true) (kk : EvK P N ops l ⟨(d, .row n s 0 len) :: ts, L ++ [some ⟨s, us⟩]⟩ (tr ++ [.run (List.map Prod.fst ([] : List (Nat × Rw)) ++ [n]) [n]]) K) : EvK P N ops (⟨some d, .buildSlice t len parts, ty, pos, af, gd⟩ :: l) ⟨ts, L⟩ tr K :=
 by have e0 := nums_eq hn; subst e0; exact ev_new rfl (o_buildSlice rfl (tb.ok _ _ ht) hsl (tb.ok _ _ he) (by rw [← hx]; simp) hlen hsq hs h1 (Nat.le_of_ble_eq_true hb) h0) hw (fun p hp => by obtain ⟨a, b⟩ := zip_ins hx p hp; exact ⟨a, by simpa [Op.operands] using b⟩) (by simp) hd kk
theorem r_make {t e : TypeId} {i : TI} {a0 : Bool} {s b0 : Nat} {z0 : T} {sl0 : Option TypeId} {fs0 : List (Nat × Bool × Nat)} {ar0 : Option (Nat × TypeId)} {nf0 : Bool} {x y : Operand} {k k' : IntKind} {q : Nat} {n : Nat} {nr : List Nat} (tb : Tab P) (ht : tb.f t = some i) (hsl : i.sl = some e) (he : tb.f e = some ⟨a0, s, b0, z0, sl0, fs0, ar0, nf0⟩) (h0 : Nat.beq s 0 = false) (hx : opT ts x = .d (.v (.int k q))) (hy : opT ts y = .d (.v (.int k' q))) (hq : q ≤ 9223372036854775807) (hb : b0 * q ≤ 281474976710656) (hn : nums.drop L.length = n :: nr) (hw : wantT ops ts ⟨some d, .makeSlice t x y, ty, pos, af, gd⟩ = some true) (hd : Nat.blt d N = true) (kk : EvK P N ops l ⟨(d, .row n s 0 q) :: ts, L ++ [some ⟨s, List.replicate q z0⟩]⟩ (tr ++ [.run (List.map Prod.fst ([] : List (Nat × Rw)) ++ [n]) [n]]) K) : EvK P N ops (⟨some d, .makeSlice t x y, ty, pos, af, gd⟩ :: l) ⟨ts, L⟩ tr K :=
 by have e0 := nums_eq hn; subst e0; exact ev_new (ins := [(x, .d (.v (.int k q))), (y, .d (.v (.int k' q)))]) rfl (o_makeSlice rfl (tb.ok _ _ ht) hsl (tb.ok _ _ he) hq hb h0) hw (by simp [Op.operands, hx, hy]) (by simp) hd kk

/-! ### Stores and appends -/
theorem r_st {t : TypeId} {i : TI} {x y : Operand} {n s q c : Nat} {r : Rw} {e u : T} (tb : Tab P) (ht : tb.f t = some i) (hx : opT ts x = .ref n s q c) (hy : opT ts y = u) (hr : L[n]? = some (some r)) (hs : r.s = s) (he : r.els[q]? = some e) (hu : u.cells.length = i.size)
  (h1 : allOne u.cells = true) (hc : Nat.ble (c + i.size) e.cells.length = true) {r' : Rw} (hr' : (⟨r.s, r.els.set q (setEl e c u)⟩ : Rw) = r') {L' : List (Option Rw)} (hL : L.set n (some r') = L') (hw : wantT ops ts ⟨none, .store t x y, ty, pos, af, gd⟩ = some true)
  (k : EvK P N ops l ⟨ts, L'⟩ (tr ++ [.run [n] [n]]) K) : EvK P N ops (⟨none, .store t x y, ty, pos, af, gd⟩ :: l) ⟨ts, L⟩ tr K := by
 refine ev_cons (.run hw (o_store (fresh := L.length) (n := n) (s := s) (k := q) (c := c) (u := u) rfl (tb.ok _ _ ht) hs he hu (by unfold allOne at h1; rwa [List.all_eq_true] at h1) (Nat.le_of_ble_eq_true hc)) ?_ ?_ ?_ rfl) ?_
 ·intro p hp
  simp only [List.mem_cons, List.not_mem_nil, or_false] at hp
  rcases hp with rfl | rfl
  ·exact ⟨hx, by simp [Op.operands]⟩
  ·exact ⟨hy, by simp [Op.operands]⟩
 ·intro p hp; simp only [List.mem_cons, List.not_mem_nil, or_false] at hp; subst hp; exact hr
 ·intro p hp; simp only [List.mem_cons, List.not_mem_nil, or_false] at hp; subst hp; exact ⟨(n, r), by simp, rfl⟩
 ·subst hr' hL; simpa [St.eff, putS, setL] using k
/-- 'append(out, x)', behind the literal [x]. -/
theorem r_ap {t e : TypeId} {i ei : TI} {x y : Operand} {s n n' lo len len' : Nat} {r r2 : Rw} {q : List T} (tb : Tab P) (ht : tb.f t = some i) (hsl : i.sl = some e) (he : tb.f e = some ei) (hz : ei.size = s) (hx : opT ts x = .row n s 0 len) (hy : opT ts y = .row n' s lo len') (hr : L[n]? = some (some r)) (hs : r.s = s) (hlen : r.els.length = len)
  (hr2 : L[n']? = some (some r2)) (hs2 : r2.s = s) (hq : (r2.els.drop lo).take len' = q) (hle : Nat.ble (lo + len') r2.els.length = true) (h1 : onesOk q = true) (hm : len + q.length ≤ 1000000000) (hb : Nat.ble ei.bytes 65536 = true) {m : Nat} (hqm : q.length = m) {L' : List (Option Rw)} (hL : L.set n none = L') {nn : Nat} {nr : List Nat} (hnn : nums.drop L.length = nn :: nr)
  (hw : wantT ops ts ⟨some d, .call { callee := .builtin .append, args := #[x, y], argTypes := #[t, t] }, ty, pos, af, gd⟩ = some true) (hd : Nat.blt d N = true)
  (k : EvK P N ops l ⟨(d, .row nn s 0 (len + m)) :: ts, L' ++ [some ⟨s, r.els ++ q⟩]⟩ (tr ++ [.run [n, n', nn] [n, nn]]) K) : EvK P N ops (⟨some d, .call { callee := .builtin .append, args := #[x, y], argTypes := #[t, t] }, ty, pos, af, gd⟩ :: l) ⟨ts, L⟩ tr K := by
 have e0 := nums_eq hnn
 subst hqm hL hz e0
 have hb' := Nat.le_of_ble_eq_true hb
 have hnl : n < L.length := (List.getElem?_eq_some_iff.1 hr).1
 refine ev_cons (.run hw (o_append (fresh := L.length) (n := n) (s := ei.size) (len := len) (r := r) (u := .row n' ei.size lo len') (rn := [(n, r), (n', r2)]) (l := q) rfl (tb.ok _ _ ht) hsl (tb.ok _ _ he) rfl (.inr (.inr ⟨n', lo, len', r2, rfl, by simp, hs2, Nat.le_of_ble_eq_true hle, hq.symm⟩)) (by simp) hs hlen h1 (by omega) (Nat.le_trans (Nat.mul_le_mul hm hb') (by decide)) (by omega)) ?_ ?_ ?_ hd) ?_
 ·intro p hp
  simp only [List.mem_cons, List.not_mem_nil, or_false] at hp
  rcases hp with rfl | rfl
  ·exact ⟨hx, by simp [Op.operands, Call.operands]⟩
  ·exact ⟨hy, by simp [Op.operands, Call.operands]⟩
 ·intro p hp; simp only [List.mem_cons, List.not_mem_nil, or_false] at hp; rcases hp with rfl | rfl <;> assumption
 ·intro p hp; simp only [List.mem_cons, List.not_mem_nil, or_false] at hp; subst hp; exact ⟨(n, r), by simp, rfl⟩
 ·simpa [St.eff, putS, setL] using k
/-- 'append' onto an own row of what a slice of data holds. -/
theorem r_apE {t e : TypeId} {i ei : TI} {x y : Operand} {s n len : Nat} {r : Rw} {q : List D} (tb : Tab P) (ht : tb.f t = some i) (hsl : i.sl = some e) (he : tb.f e = some ei) (hz : ei.size = s) (hx : opT ts x = .row n s 0 len) (hy : opT ts y = .d (.arr s q)) (hr : L[n]? = some (some r)) (hs : r.s = s) (hlen : r.els.length = len)
  (h1 : onesOk (q.map .d) = true) (hm : len + q.length ≤ 1000000000) (hb : Nat.ble ei.bytes 65536 = true) {L' : List (Option Rw)} (hL : L.set n none = L') {nn : Nat} {nr : List Nat} (hnn : nums.drop L.length = nn :: nr)
  (hw : wantT ops ts ⟨some d, .call { callee := .builtin .append, args := #[x, y], argTypes := #[t, t] }, ty, pos, af, gd⟩ = some true) (hd : Nat.blt d N = true)
  (k : EvK P N ops l ⟨(d, .row nn s 0 (len + q.length)) :: ts, L' ++ [some ⟨s, r.els ++ q.map .d⟩]⟩ (tr ++ [.run [n, nn] [n, nn]]) K) : EvK P N ops (⟨some d, .call { callee := .builtin .append, args := #[x, y], argTypes := #[t, t] }, ty, pos, af, gd⟩ :: l) ⟨ts, L⟩ tr K := by
 have e0 := nums_eq hnn
 subst hL hz e0
 have hb' := Nat.le_of_ble_eq_true hb
 have hnl : n < L.length := (List.getElem?_eq_some_iff.1 hr).1
 refine ev_cons (.run hw (o_append (fresh := L.length) (n := n) (s := ei.size) (len := len) (r := r) (u := .d (.arr ei.size q)) (rn := [(n, r)]) (l := q.map .d) rfl (tb.ok _ _ ht) hsl (tb.ok _ _ he) rfl (.inr (.inl ⟨q, rfl, rfl⟩)) (by simp) hs hlen h1 (by simp; omega) (Nat.le_trans (Nat.mul_le_mul (by simpa using hm) hb') (by decide)) (by omega)) ?_ ?_ ?_ hd) ?_
 ·intro p hp
  simp only [List.mem_cons, List.not_mem_nil, or_false] at hp
  rcases hp with rfl | rfl
  ·exact ⟨hx, by simp [Op.operands, Call.operands]⟩
  ·exact ⟨hy, by simp [Op.operands, Call.operands]⟩
 ·intro p hp; simp only [List.mem_cons, List.not_mem_nil, or_false] at hp; subst hp; exact hr
 ·intro p hp; simp only [List.mem_cons, List.not_mem_nil, or_false] at hp; subst hp; exact ⟨(n, r), by simp, rfl⟩
 ·simpa [St.eff, putS, setL] using k
/-! ### Calls -/
/-- What a function of data returns. -/
def PC (P : Program) (f : FuncId) (as : List D) (y : D) : Prop := SC P f (as.map .d) [] fun se L' => se = .ret (.d y) ∧ L' = []
theorem r_call {x : Operand} {xs : Array Operand} {tys : Array TypeId} {f : FuncId} {as : List D} {y : D} (hc : PC P f as y) (he : Ent P f) (hf : opT ts x = .d (.v (.func (.func f) #[] #[]))) (hx : xs.toList.map (opT ts) = as.map .d)
  (hw : wantT ops ts ⟨some d, .call { callee := .value x, args := xs, argTypes := tys }, ty, pos, af, gd⟩ = some true) (hd : Nat.blt d N = true) (k : EvK P N ops l ⟨(d, .d y) :: ts, L⟩ (tr ++ [.run [] []]) K) :
  EvK P N ops (⟨some d, .call { callee := .value x, args := xs, argTypes := tys }, ty, pos, af, gd⟩ :: l) ⟨ts, L⟩ tr K := by
 have hro : renL (kap []) (as.map .d) = as.map .d := by rw [renL_map]; simp [T.ren]
 refine ev_val rfl (o_call (P := P) (fresh := L.length) (ρ := []) (rs := []) (ls := []) (news := []) (fi := []) (ca := []) (as := as.map .d) (ts := as.map .d) rfl he (.inl ⟨rfl, rfl, rfl⟩) (by rw [← hx]; simp) hc ?_ ?_ (by simp) rfl rfl (by simp) (by simp)) hw ?_ (by simp [rnOf]) hd (by simpa [rnOf, T.ren] using k)
 ·rw [hro]; simp
 ·rw [scL_all]; simp [T.sc]
 ·intro p hp
  rcases List.mem_cons.1 hp with rfl | hp
  ·exact ⟨hf, by simp [Op.operands, Call.operands]⟩
  ·obtain ⟨a, b⟩ := zip_ins hx p hp
   exact ⟨a, by simp only [Op.operands, Call.operands, Array.mem_append]; exact .inr (by simpa using b)⟩
/-- The same, of a function that returns a truth. -/
theorem r_callB {x : Operand} {xs : Array Operand} {tys : Array TypeId} {f : FuncId} {as : List D} {b : Bool} (hc : PC P f as (.v (.bool b))) (he : Ent P f) (hf : opT ts x = .d (.v (.func (.func f) #[] #[]))) (hx : xs.toList.map (opT ts) = as.map .d)
  (hw : wantT ops ts ⟨some d, .call { callee := .value x, args := xs, argTypes := tys }, ty, pos, af, gd⟩ = some true) (hd : Nat.blt d N = true) (kt : b = true → EvK P N ops l ⟨(d, .d (.v (.bool true))) :: ts, L⟩ (tr ++ [.run [] []]) K)
  (kf : b = false → EvK P N ops l ⟨(d, .d (.v (.bool false))) :: ts, L⟩ (tr ++ [.run [] []]) K) : EvK P N ops (⟨some d, .call { callee := .value x, args := xs, argTypes := tys }, ty, pos, af, gd⟩ :: l) ⟨ts, L⟩ tr K := by
 cases b with
 | true => exact r_call hc he hf hx hw hd (kt rfl)
 | false => exact r_call hc he hf hx hw hd (kf rfl)
end
end Go.Proofs.Ythcnganbnbhhoaa.Sh
