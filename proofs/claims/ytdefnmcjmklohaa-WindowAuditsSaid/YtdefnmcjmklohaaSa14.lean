/- Truths compared, remainders. Over whatever program. -/
import Derived.Test.YtdefnmcjmklohaaSa13
import Derived.Laws.Small
namespace Go.Proofs.Ytdefnmcjmklohaa.Sh
set_option linter.unusedVariables false
set_option linter.unusedSimpArgs false
open Go
section
variable {P : Program} {N : Nat} {ops : Array Oper} {l : List Oper} {ts : List (Nat × T)} {L : List (Option Rw)} {tr : List Stp} {K : List Oper → List Stp → St → Prop} {d : Nat} {ty : TypeId} {pos : String} {af : Array Edge} {gd : Option (Nat × Bool)}
theorem r_rem {t1 t2 : TypeId} {x y : Operand} {k : IntKind} {a b : Int} (hx : opT ts x = .d (.v (.int k a))) (hy : opT ts y = .d (.v (.int k b))) (hb : b ≠ 0) (hw : wantT ops ts ⟨some d, .binOp .rem t1 x y t2, ty, pos, af, gd⟩ = some true) (hd : Nat.blt d N = true)
  (kk : EvK P N ops l ⟨(d, .d (.v (.int k (a.tmod b)))) :: ts, L⟩ (tr ++ [.run [] []]) K) : EvK P N ops (⟨some d, .binOp .rem t1 x y t2, ty, pos, af, gd⟩ :: l) ⟨ts, L⟩ tr K :=
 ev_val (ins := [(x, .d (.v (.int k a))), (y, .d (.v (.int k b)))]) rfl (o_bin (p := .int k a) (q := .int k b) (z := .int k (a.tmod b)) rfl rfl (fun w => by simp [go_sem, Op.intDiv, hb])) hw (by simp [Op.operands, hx, hy]) (by simp) hd kk
end
end Go.Proofs.Ytdefnmcjmklohaa.Sh
