/- The first part of an own row; what is behind an element, appended to what is ahead of it. Over whatever program. -/
import Derived.Test.YtlaogbbcipebgaaGreatSa15
namespace Go.Proofs.YtlaogbbcipebgaaGreat.Sh
set_option linter.unusedVariables false
set_option linter.unusedSimpArgs false
open Go
section
variable {P:Program} {o:Oper} {fresh:Nat}
theorem B2P {t e:TypeId} {i ei:TI} {x z:Operand} {n s len:Nat} {k:IntKind} {p:Nat} (hop:o.op = .slice t x none (some z) none) (ht:TOk P t i) (hs:i.sl=some e) (he:TOk P e ei) (hz:ei.size=s) (h1:p≤len) :
  OpS P o [(x,.row n s 0 len),(z,.d (.v (.int k p)))] [] [] fresh [] (.row n s 0 p) :=
 .of_pure (fun c h=>by rw[hop]at h;cases h) fun g a hg hi hr=>by
  have hx:=hi (x,.row n s 0 len) (by simp)
  have hz':=(hi (z,.d (.v (.int k p))) (by simp)).v_eq
  dsimp only at hx hz'
  generalize hv:a.eval x=v at hx
  cases hx with | row _ _ _ _ A hn hs0 hl ha =>
  subst hz
  have hr:=A5f (P:=P) ht hs he (A:=A) (cap:=(g.β n).2-0) (len:=len) (.inr ⟨k,rfl⟩) (.inl ⟨rfl,rfl⟩) (Nat.zero_le p) h1 (by omega) g.w
  obtain⟨B,hB⟩:∃ B,B=(if(g.β n).2-0=0 then A else A.map (·.add (0*ei.size))):=⟨_,rfl⟩
  rw[← hB,Nat.sub_zero,Nat.sub_zero]at hr
  refine⟨.slice B p ((g.β n).2-0),by simp[execOp,hop,hv,hz']at hr ⊢;simp[hr],.row n ei.size 0 p B hn hs0 (by omega) fun h0=>?_⟩
  rw[hB,if_neg (by omega),ha h0]
  simp[Addr.add]
end
section
variable {P:Program} {N:Nat} {ops:Array Oper} {l:List Oper} {ts:List (Nat × T)} {L:List (Option Rw)} {tr:List Stp} {d:Nat} {ty:TypeId} {pos:String} {af:Array Edge} {gd:Option (Nat × Bool)} {K:List Oper→List Stp→St→Prop}
def B8K (q:Int) (m:Nat):Option Nat:=if 0≤q∧q≤m then some q.toNat else none
theorem A8b {q:Int} {m p:Nat} (h:B8K q m=some p):q=(p:Int)∧p≤m:=by
 unfold B8K at h
 split at h
 ·injection h with h;omega
 ·cases h
theorem B6L {t e:TypeId} {i ei:TI} {x y:Operand} {n s len:Nat} {k:IntKind} {q:Int} {p:Nat} (tb:Tab P) (ht:tb.f t=some i) (hs:i.sl=some e) (he:tb.f e=some ei) (hx:O9 ts x = .row n s 0 len) (hz:ei.size=s) (hy:O9 ts y = .d (.v (.int k q))) (hq:q=(p:Int)) (h1:p≤len) (hw:I2 ops ts ⟨some d,.slice t x none (some y) none,ty,pos,af,gd⟩=some true) (hd:Nat.blt d N=true)
  (kk:L3 P N ops l ⟨(d,.row n s 0 p)::ts,L⟩ (tr++[.run [] []]) K):L3 P N ops (⟨some d,.slice t x none (some y) none,ty,pos,af,gd⟩::l) ⟨ts,L⟩ tr K:=by
 subst hq
 exact K0 (ins:=[(x,.row n s 0 len),(y,.d (.v (.int k p)))]) rfl (B2P rfl (tb.ok _ _ ht) hs (tb.ok _ _ he) hz h1) hw (by simp[Op.operands,hx,hy]) (by simp) hd kk
theorem B6M {t e:TypeId} {i ei:TI} {x y:Operand} {n s len:Nat} {k:IntKind} {q:Int} {p:Nat} (tb:Tab P) (ht:tb.f t=some i) (hs:i.sl=some e) (he:tb.f e=some ei) (hx:O9 ts x = .row n s 0 len) (hz:ei.size=s) (hy:O9 ts y = .d (.v (.int k q))) (hq:q=(p:Int)) (h1:p<len) (hw:I2 ops ts ⟨some d,.slice t x (some y) none none,ty,pos,af,gd⟩=some true) (hd:Nat.blt d N=true)
  (kk:L3 P N ops l ⟨(d,.row n s p (len-p))::ts,L⟩ (tr++[.run [] []]) K):L3 P N ops (⟨some d,.slice t x (some y) none none,ty,pos,af,gd⟩::l) ⟨ts,L⟩ tr K:=by
 subst hq
 exact B9h tb ht hs he hx hz hy h1 hw hd kk
theorem B5v {t e:TypeId} {i ei:TI} {x y:Operand} {n s len:Nat} {k:IntKind} {q:Int} {p:Nat} (tb:Tab P) (ht:tb.f t=some i) (hs:i.sl=some e) (he:tb.f e=some ei) (hx:O9 ts x = .row n s 0 len) (hz:ei.size=s) (hy:O9 ts y = .d (.v (.int k q))) (hq:q=(p:Int)) (h1:len=p) (hw:I2 ops ts ⟨some d,.slice t x (some y) none none,ty,pos,af,gd⟩=some true) (hd:Nat.blt d N=true)
  (kk:L3 P N ops l ⟨(d,.d (.arr s []))::ts,L⟩ (tr++[.run [] []]) K):L3 P N ops (⟨some d,.slice t x (some y) none none,ty,pos,af,gd⟩::l) ⟨ts,L⟩ tr K:=by
 subst hq
 exact B8e tb ht hs he hx hz hy h1 hw hd kk
end
end Go.Proofs.YtlaogbbcipebgaaGreat.Sh
