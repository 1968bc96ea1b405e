/- Rows from an offset. Over whatever program. -/
import Derived.Test.YtlaogbbcipebgaaGreatSa10
namespace Go.Proofs.YtlaogbbcipebgaaGreat.Sh
set_option linter.unusedVariables false
set_option linter.unusedSimpArgs false
open Go
theorem B5f {P:Program} {o:Oper} {fresh:Nat} {t e:TypeId} {i ei:TI} {x y:Operand} {n s len:Nat} {k:IntKind} {p:Nat} (hop:o.op = .slice t x (some y) none none) (ht:TOk P t i) (hs:i.sl=some e) (he:TOk P e ei) (hz:ei.size=s) (h1:p<len) :
  OpS P o [(x,.row n s 0 len),(y,.d (.v (.int k p)))] [] [] fresh [] (.row n s p (len-p)) :=
 .of_pure (fun c h=>by rw[hop]at h;cases h) fun g a hg hi hr=>by
  have hx:=hi (x,.row n s 0 len) (by simp)
  have hy:=(hi (y,.d (.v (.int k p))) (by simp)).v_eq
  dsimp only at hx hy
  generalize hv:a.eval x=v at hx
  cases hx with | row _ _ _ _ A hn hs0 hl ha =>
  have h0:(g.β n).2≠0:=by omega
  have ha:=ha h0
  subst ha
  subst hz
  have hne:¬ (g.β n).2=p:=by omega
  have hr:=A5f (P:=P) ht hs he (A:=some ⟨(g.β n).1,0*ei.size,none⟩) (cap:=(g.β n).2-0) (len:=len) (.inl ⟨rfl,rfl⟩) (.inr ⟨k,rfl⟩) (Nat.le_of_lt h1) (Nat.le_refl _) (by omega) g.w
  rw[Nat.sub_zero,if_neg hne]at hr
  refine⟨.slice (some ⟨(g.β n).1,p*ei.size,none⟩) (len-p) ((g.β n).2-p),?_,.row n ei.size p (len-p) _ hn hs0 (by omega) fun _=>rfl⟩
  simp only[Nat.zero_mul]at hr
  simp[execOp,hop,hv,hy,hr,Addr.add]
  exact fun h=>h.symm
theorem B3X {P:Program} {o:Oper} {fresh:Nat} {t e:TypeId} {i ei:TI} {x y:Operand} {n s len:Nat} {k:IntKind} (hop:o.op = .slice t x (some y) none none) (ht:TOk P t i) (hs:i.sl=some e) (he:TOk P e ei) (hz:ei.size=s) :
  OpS P o [(x,.row n s 0 len),(y,.d (.v (.int k len)))] [] [] fresh [] (.d (.arr s [])) :=
 .of_pure (fun c h=>by rw[hop]at h;cases h) fun g a hg hi hr=>by
  have hx:=hi (x,.row n s 0 len) (by simp)
  have hy:=(hi (y,.d (.v (.int k len))) (by simp)).v_eq
  dsimp only at hx hy
  generalize hv:a.eval x=v at hx
  cases hx with | row _ _ _ _ A hn hs0 hl ha =>
  have hr:=A5f (P:=P) ht hs he (A:=A) (cap:=(g.β n).2-0) (len:=len) (.inl ⟨rfl,rfl⟩) (.inr ⟨k,rfl⟩) (Nat.le_refl _) (Nat.le_refl _) (by omega) g.w
  rw[Nat.sub_self]at hr
  obtain⟨B,hB⟩:∃ B,B=(if(g.β n).2-0=len then A else A.map (·.add (len*ei.size))):=⟨_,rfl⟩
  rw[← hB]at hr
  exact⟨.slice B 0 ((g.β n).2-0-len),by simp[execOp,hop,hv,hy]at hr ⊢;simp[hr],.d (.arr0 s _ _)⟩
section
variable {P:Program} {N:Nat} {ops:Array Oper} {l:List Oper} {ts:List (Nat × T)} {L:List (Option Rw)} {tr:List Stp} {d:Nat} {ty:TypeId} {pos:String} {af:Array Edge} {gd:Option (Nat × Bool)} {K:List Oper→List Stp→St→Prop}
theorem B9h {t e:TypeId} {i ei:TI} {x y:Operand} {n s len:Nat} {k:IntKind} {p:Nat} (tb:Tab P) (ht:tb.f t=some i) (hs:i.sl=some e) (he:tb.f e=some ei) (hx:O9 ts x = .row n s 0 len) (hz:ei.size=s) (hy:O9 ts y = .d (.v (.int k p))) (h1:p<len) (hw:I2 ops ts ⟨some d,.slice t x (some y) none none,ty,pos,af,gd⟩=some true) (hd:Nat.blt d N=true)
  (kk:L3 P N ops l ⟨(d,.row n s p (len-p))::ts,L⟩ (tr++[.run [] []]) K):L3 P N ops (⟨some d,.slice t x (some y) none none,ty,pos,af,gd⟩::l) ⟨ts,L⟩ tr K :=
 K0 (ins:=[(x,.row n s 0 len),(y,.d (.v (.int k p)))]) rfl (B5f rfl (tb.ok _ _ ht) hs (tb.ok _ _ he) hz h1) hw (by simp[Op.operands,hx,hy]) (by simp) hd kk
theorem B8e {t e:TypeId} {i ei:TI} {x y:Operand} {n s len:Nat} {k:IntKind} {p:Nat} (tb:Tab P) (ht:tb.f t=some i) (hs:i.sl=some e) (he:tb.f e=some ei) (hx:O9 ts x = .row n s 0 len) (hz:ei.size=s) (hy:O9 ts y = .d (.v (.int k p))) (h1:len=p) (hw:I2 ops ts ⟨some d,.slice t x (some y) none none,ty,pos,af,gd⟩=some true) (hd:Nat.blt d N=true)
  (kk:L3 P N ops l ⟨(d,.d (.arr s []))::ts,L⟩ (tr++[.run [] []]) K):L3 P N ops (⟨some d,.slice t x (some y) none none,ty,pos,af,gd⟩::l) ⟨ts,L⟩ tr K:=by
 subst h1
 exact K0 (ins:=[(x,.row n s 0 len),(y,.d (.v (.int k len)))]) rfl (B3X rfl (tb.ok _ _ ht) hs (tb.ok _ _ he) hz) hw (by simp[Op.operands,hx,hy]) (by simp) hd kk
end
end Go.Proofs.YtlaogbbcipebgaaGreat.Sh
