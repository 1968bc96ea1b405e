/- Truths compared, remainders. Over whatever program. -/
import Derived.Test.YthcnganbnbhhoaaGreatSa13
import Derived.Laws.Small
namespace Go.Proofs.YthcnganbnbhhoaaGreat.Sh
set_option linter.unusedVariables false
set_option linter.unusedSimpArgs false
open Go
section
variable {P : Program} {N : Nat} {ops : Array Oper} {l : List Oper} {ts : List (Nat × T)} {L : List (Option Rw)} {tr : List Stp} {K : List Oper → List Stp → St → Prop} {d : Nat} {ty : TypeId} {pos : String} {af : Array Edge} {gd : Option (Nat × Bool)}
theorem r_booleql {t1 t2 : TypeId} {x y : Operand} {a b : Bool} (hu : P.underlying t1 = some .bool) (hx : opT ts x = .d (.v (.bool a))) (hy : opT ts y = .d (.v (.bool b))) (hw : wantT ops ts ⟨some d, .binOp .eql t1 x y t2, ty, pos, af, gd⟩ = some true) (hd : Nat.blt d N = true)
  (kk : EvK P N ops l ⟨(d, .d (.v (.bool (a == b)))) :: ts, L⟩ (tr ++ [.run [] []]) K) : EvK P N ops (⟨some d, .binOp .eql t1 x y t2, ty, pos, af, gd⟩ :: l) ⟨ts, L⟩ tr K :=
 ev_val (ins := [(x, .d (.v (.bool a))), (y, .d (.v (.bool b)))]) rfl (o_bin (p := .bool a) (q := .bool b) (z := .bool (a == b)) rfl rfl (fun w => by simp [go_sem, hu, eqGuard])) hw (by simp [Op.operands, hx, hy]) (by simp) hd kk
theorem r_boolneq {t1 t2 : TypeId} {x y : Operand} {a b : Bool} (hu : P.underlying t1 = some .bool) (hx : opT ts x = .d (.v (.bool a))) (hy : opT ts y = .d (.v (.bool b))) (hw : wantT ops ts ⟨some d, .binOp .neq t1 x y t2, ty, pos, af, gd⟩ = some true) (hd : Nat.blt d N = true)
  (kk : EvK P N ops l ⟨(d, .d (.v (.bool (a != b)))) :: ts, L⟩ (tr ++ [.run [] []]) K) : EvK P N ops (⟨some d, .binOp .neq t1 x y t2, ty, pos, af, gd⟩ :: l) ⟨ts, L⟩ tr K :=
 ev_val (ins := [(x, .d (.v (.bool a))), (y, .d (.v (.bool b)))]) rfl (o_bin (p := .bool a) (q := .bool b) (z := .bool (a != b)) rfl rfl (fun w => by simp [go_sem, hu, eqGuard]; cases a <;> cases b <;> rfl)) hw (by simp [Op.operands, hx, hy]) (by simp) hd kk
end
end Go.Proofs.YthcnganbnbhhoaaGreat.Sh
