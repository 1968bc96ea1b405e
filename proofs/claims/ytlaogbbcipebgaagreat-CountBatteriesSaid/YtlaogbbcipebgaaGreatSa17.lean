/- Slices that are made. Over whatever program. -/
import Derived.Test.YtlaogbbcipebgaaGreatSa16
namespace Go.Proofs.YtlaogbbcipebgaaGreat.Sh
set_option linter.unusedVariables false
set_option linter.unusedSimpArgs false
open Go
def B1D (z:Int):Option Nat:=if 0≤z∧z≤1000000000 then some z.toNat else none
theorem A6i {z:Int} {q:Nat} (h:B1D z=some q):z=(q:Int)∧q≤1000000000:=by
 unfold B1D at h
 split at h
 ·injection h with h;omega
 ·cases h
section
variable {P:Program} {N:Nat} {ops:Array Oper} {l:List Oper} {ts:List (Nat × T)} {L:List (Option Rw)} {tr:List Stp} {d:Nat} {ty:TypeId} {pos:String} {af:Array Edge} {gd:Option (Nat × Bool)} {K:List Oper→List Stp→St→Prop}
theorem B00 {α:Type} {t e:TypeId} {i:TI} {a0:Bool} {s b0:Nat} {z0:T} {sl0:Option TypeId} {fs0:List (Nat × Bool × Nat)} {ar0:Option (Nat × TypeId)} {nf0:Bool} {x y:Operand} {k k':IntKind} {z:Int} {q:Nat} {n:Nat} {nr:List Nat} {v:α} {g:α→D} (tb:Tab P) (ht:tb.f t=some i) (hsl:i.sl=some e) (he:tb.f e=some ⟨a0,s,b0,z0,sl0,fs0,ar0,nf0⟩) (h0:Nat.beq s 0=false) (hv:z0 = .d (g v))
  (hx:O9 ts x = .d (.v (.int k z))) (hy:O9 ts y = .d (.v (.int k' z))) (hz:z=(q:Int)) (hq:q≤1000000000) (hb:Nat.ble b0 65536=true) (hn:A4f.drop L.length=n::nr) (hw:I2 ops ts ⟨some d,.makeSlice t x y,ty,pos,af,gd⟩=some true) (hd:Nat.blt d N=true)
  (kk:L3 P N ops l ⟨(d,.row n s 0 (List.replicate q v).length)::ts,L++[some ⟨s,(List.replicate q v).map fun a => .d (g a)⟩]⟩ (tr++[.run [n] [n]]) K):L3 P N ops (⟨some d,.makeSlice t x y,ty,pos,af,gd⟩::l) ⟨ts,L⟩ tr K:=by
 subst hz hv
 have hb':=Nat.le_of_ble_eq_true hb
 refine B9Z tb ht hsl he h0 hx hy (by omega) (Nat.le_trans (Nat.mul_le_mul hb' hq) (by decide)) hn hw hd ?_
 rw[List.length_replicate,List.map_replicate]at kk
 exact kk
end
end Go.Proofs.YtlaogbbcipebgaaGreat.Sh
