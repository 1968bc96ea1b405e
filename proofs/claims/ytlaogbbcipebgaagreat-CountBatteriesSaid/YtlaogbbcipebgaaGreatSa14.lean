/- Truths compared, remainders. Over whatever program. -/
import Derived.Test.YtlaogbbcipebgaaGreatSa13
import Derived.Laws.Small
namespace Go.Proofs.YtlaogbbcipebgaaGreat.Sh
set_option linter.unusedVariables false
set_option linter.unusedSimpArgs false
open Go
section
variable {P:Program} {N:Nat} {ops:Array Oper} {l:List Oper} {ts:List (Nat × T)} {L:List (Option Rw)} {tr:List Stp} {K:List Oper→List Stp→St→Prop} {d:Nat} {ty:TypeId} {pos:String} {af:Array Edge} {gd:Option (Nat × Bool)}
theorem B6K {t1 t2:TypeId} {x y:Operand} {a b:Bool} (hu:P.underlying t1=some .bool) (hx:O9 ts x = .d (.v (.bool a))) (hy:O9 ts y = .d (.v (.bool b))) (hw:I2 ops ts ⟨some d,.binOp .eql t1 x y t2,ty,pos,af,gd⟩=some true) (hd:Nat.blt d N=true)
  (kk:L3 P N ops l ⟨(d,.d (.v (.bool (a==b))))::ts,L⟩ (tr++[.run [] []]) K):L3 P N ops (⟨some d,.binOp .eql t1 x y t2,ty,pos,af,gd⟩::l) ⟨ts,L⟩ tr K :=
 K0 (ins:=[(x,.d (.v (.bool a))),(y,.d (.v (.bool b)))]) rfl (A3z (p := .bool a) (q := .bool b) (z := .bool (a==b)) rfl rfl (fun w=>by simp[go_sem,hu,eqGuard])) hw (by simp[Op.operands,hx,hy]) (by simp) hd kk
theorem A57 {t1 t2:TypeId} {x y:Operand} {a b:Bool} (hu:P.underlying t1=some .bool) (hx:O9 ts x = .d (.v (.bool a))) (hy:O9 ts y = .d (.v (.bool b))) (hw:I2 ops ts ⟨some d,.binOp .neq t1 x y t2,ty,pos,af,gd⟩=some true) (hd:Nat.blt d N=true)
  (kk:L3 P N ops l ⟨(d,.d (.v (.bool (a != b))))::ts,L⟩ (tr++[.run [] []]) K):L3 P N ops (⟨some d,.binOp .neq t1 x y t2,ty,pos,af,gd⟩::l) ⟨ts,L⟩ tr K :=
 K0 (ins:=[(x,.d (.v (.bool a))),(y,.d (.v (.bool b)))]) rfl (A3z (p := .bool a) (q := .bool b) (z := .bool (a != b)) rfl rfl (fun w=>by simp[go_sem,hu,eqGuard];cases a<;>cases b<;>rfl)) hw (by simp[Op.operands,hx,hy]) (by simp) hd kk
theorem C0K {t1 t2:TypeId} {x y:Operand} {k:IntKind} {a b:Int} (hx:O9 ts x = .d (.v (.int k a))) (hy:O9 ts y = .d (.v (.int k b))) (hb:b≠0) (hw:I2 ops ts ⟨some d,.binOp .rem t1 x y t2,ty,pos,af,gd⟩=some true) (hd:Nat.blt d N=true)
  (kk:L3 P N ops l ⟨(d,.d (.v (.int k (a.tmod b))))::ts,L⟩ (tr++[.run [] []]) K):L3 P N ops (⟨some d,.binOp .rem t1 x y t2,ty,pos,af,gd⟩::l) ⟨ts,L⟩ tr K :=
 K0 (ins:=[(x,.d (.v (.int k a))),(y,.d (.v (.int k b)))]) rfl (A3z (p := .int k a) (q := .int k b) (z := .int k (a.tmod b)) rfl rfl (fun w=>by simp[go_sem,Op.intDiv,hb])) hw (by simp[Op.operands,hx,hy]) (by simp) hd kk
end
end Go.Proofs.YtlaogbbcipebgaaGreat.Sh
