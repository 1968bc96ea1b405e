/- What one operation does to a plain picture of the machine: stores, addresses, slices, append. Over whatever program. -/
import Derived.Test.YtlaogbbcipebgaaGreatSh3
namespace Go.Proofs.YtlaogbbcipebgaaGreat.Sh
set_option linter.unusedVariables false
set_option linter.unusedSimpArgs false
open Go
variable {P:Program} {o:Oper} {fresh:Nat}
theorem A7p {α:Type} (old vs:List α) (p k:Nat) (hp:p+vs.length≤old.length) :
  (old.take p++vs++old.drop (p+vs.length))[k]?=if k<p then old[k]? else if k<p+vs.length then vs[k-p]? else old[k]?:=by
 have h1:(old.take p).length=p:=by simp;omega
 by_cases h2:k<p
 ·rw[if_pos h2,List.append_assoc,List.getElem?_append_left (by omega),List.getElem?_take,if_pos h2]
 ·rw[if_neg h2]
  by_cases h3:k<p+vs.length
  ·rw[if_pos h3,List.append_assoc,List.getElem?_append_right (by omega),h1,List.getElem?_append_left (by omega)]
  ·rw[if_neg h3,List.getElem?_append_right (by simp;omega),List.getElem?_drop,List.length_append,h1]
   congr 1
   omega
def A9t (x:T) (c:Nat) (t:T):T:=bif Nat.beq t.cells.length x.cells.length then t else mkAgg (x.cells.take c++t.cells++x.cells.drop (c+t.cells.length))
theorem B4x {x t:T} {c:Nat} (h:c+t.cells.length≤x.cells.length):(A9t x c t).cells=x.cells.take c++t.cells++x.cells.drop (c+t.cells.length):=by
 unfold A9t
 cases hb:Nat.beq t.cells.length x.cells.length with
 | true =>
  have e:=Nat.eq_of_beq_eq_true hb
  have:c=0:=by omega
  subst this
  simp[e]
 | false=>exact B3P _
theorem B6l {i i' s j k:Nat} (h:i'≠i) (hj:j<s) (hk:k<s):i'*s+j≠i*s+k:=by
 rcases Nat.lt_or_gt_of_ne h with h | h
 ·have:=Nat.mul_le_mul_right s (show i'+1≤i from h)
  rw[Nat.add_mul]at this
  omega
 ·have:=Nat.mul_le_mul_right s (show i+1≤i' from h)
  rw[Nat.add_mul]at this
  omega
theorem B8U {t:TypeId} {i:TI} {x y:Operand} {n s k c:Nat} {r:Rw} {e u:T} (hop:o.op = .store t x y) (ht:TOk P t i) (hs:r.s=s) (he:r.els[k]?=some e) (hu:u.cells.length=i.size) (h1:∀ z∈u.cells,z.one=true)
  (hc:c+i.size≤e.cells.length):OpS P o [(x,.ref n s k c),(y,u)] [(n,r)] [(n,some ⟨r.s,r.els.set k (A9t e c u)⟩)] fresh [] .bot :=
 .of_run (fun c h=>by rw[hop]at h;cases h) fun g a hg hi hr _=>by
  subst hs
  have hx:=hi (x,.ref n r.s k c) (by simp)
  have hy:=hi (y,u) (by simp)
  have hn:=hr (n,r) (by simp)
  dsimp only at hx hy hn
  generalize hv:a.eval x=v at hx
  cases hx with | ref _ _ _ _ _ hs0 =>
  obtain⟨hcap,old,ety,ho,hos,hl,hrow⟩:=(hg.rows n r hn).has hs0 he
  have hcs:=hy.cells h1
  have hk:k<r.els.length:=(List.getElem?_eq_some_iff.1 he).1
  obtain⟨hes,hecells⟩:=hrow k e he
  have hkcap:(k+1)*r.s≤(g.β n).2*r.s:=Nat.mul_le_mul_right _ (by omega)
  rw[Nat.add_mul,Nat.one_mul]at hkcap
  have hfit:k*r.s+c+(a.eval y).cells.toList.length≤old.size:=by rw[← hcs.1,hu,hos];omega
  have hst:=run_storeCells_at (P:=P) (g.β n).1 (k*r.s+c) ety (a.eval y).cells.toList 0 old g.w ho (by rw[Nat.add_zero];exact hfit) (B28 h1 hy)
  rw[Nat.add_zero]at hst
  have hsz:(a.eval y).cells.size=i.size:=by rw[← Array.length_toList,← hcs.1,hu]
  have hel:=B4x (x:=e) (t:=u) (c:=c) (by rw[hu];exact hc)
  have hput:=P6.put hg hn hcap ho (cells:=(old.toList.take (k*r.s+c)++(a.eval y).cells.toList++old.toList.drop (k*r.s+c+(a.eval y).cells.toList.length)).toArray) (r':=⟨r.s,r.els.set k (A9t e c u)⟩) hs0 ?_ (by simpa using hl) ?_
  refine⟨undef,_,.inr ⟨?_,rfl⟩,hput.1,hput.2,A8h _ _ _ _,.bot _⟩
  ·simp[execOp,hop,hv,Instr.storeAt,Instr.sureAddr,storeVar,ht.run_size,hsz,hst,G.put]
  ·simp at hfit ⊢;rw[← hos];omega
  ·intro i' x' hx'
   have hget:∀ m,(old.toList.take (k*r.s+c)++(a.eval y).cells.toList++old.toList.drop (k*r.s+c+(a.eval y).cells.toList.length)).toArray[m]?=if m<k*r.s+c then old.toList[m]? else if m<k*r.s+c+(a.eval y).cells.toList.length then(a.eval y).cells.toList[m-(k*r.s+c)]? else old.toList[m]?:=fun m=>by
    rw[List.getElem?_toArray];exact A7p _ _ _ m (by simpa using hfit)
   by_cases hik:i'=k
   ·subst hik
    rw[List.getElem?_set_self hk]at hx'
    injection hx' with hx'
    subst hx'
    rw[hel]
    refine⟨by simp[hu];omega,fun j z hz=>?_⟩
    dsimp only
    rw[A7p _ _ _ _ (by rw[hu];exact hc)]at hz
    rw[hget]
    by_cases h2:j<c
    ·rw[if_pos h2]at hz
     rw[if_pos (show i'*r.s+j<i'*r.s+c by omega)]
     obtain⟨cv,h3,h4⟩:=hecells j z hz
     exact⟨cv,by simpa using h3,h4⟩
    ·rw[if_neg h2]at hz
     rw[if_neg (show ¬ i'*r.s+j<i'*r.s+c by omega)]
     by_cases h3:j<c+u.cells.length
     ·rw[if_pos h3]at hz
      rw[if_pos (show i'*r.s+j<i'*r.s+c+(a.eval y).cells.toList.length by rw[← hcs.1];omega)]
      have hlt:j-c<(a.eval y).cells.toList.length:=by rw[← hcs.1];omega
      refine⟨(a.eval y).cells.toList[j-c],?_,hcs.2 (j-c) z _ hz (List.getElem?_eq_getElem hlt)⟩
      rw[show i'*r.s+j-(i'*r.s+c)=j-c by omega,List.getElem?_eq_getElem hlt]
     ·rw[if_neg h3]at hz
      rw[if_neg (show ¬ i'*r.s+j<i'*r.s+c+(a.eval y).cells.toList.length by rw[← hcs.1];omega)]
      obtain⟨cv,h4,h5⟩:=hecells j z hz
      exact⟨cv,by simpa using h4,h5⟩
   ·rw[List.getElem?_set_ne (fun h=>hik h.symm)]at hx'
    obtain⟨h2,h3⟩:=hrow i' x' hx'
    refine⟨h2,fun j z hz=>?_⟩
    have hj:j<r.s:=by rw[← h2];exact(List.getElem?_eq_some_iff.1 hz).1
    obtain⟨cv,h4,h5⟩:=h3 j z hz
    refine⟨cv,?_,h5⟩
    dsimp only
    rw[hget]
    have hlen:(a.eval y).cells.toList.length=i.size:=by rw[← hcs.1,hu]
    by_cases h6:i'*r.s+j<k*r.s+c
    ·rw[if_pos h6];simpa using h4
    ·rw[if_neg h6]
     by_cases h7:i'*r.s+j<k*r.s+c+(a.eval y).cells.toList.length
     ·exfalso
      rw[hlen]at h7
      exact B6l (i:=k) (i':=i') (s:=r.s) (j:=j) (k:=i'*r.s+j-k*r.s) hik hj (by omega) (by omega)
     ·rw[if_neg h7];simpa using h4
theorem B8E {t:TypeId} {i:TI} (ht:TOk P t i) {f c m:Nat} {b:Bool} (hf:i.fs[f]?=some (c,b,m)) :
  ∃ fs fd info d,P.underlying t=some (.struct fs)∧fs[f]?=some fd∧fd.offset=c∧P.info? fd.type=some info∧info.size=m∧P.underlying fd.type=some d∧∀ w,(isAgg fd.type).run P w = .ok b w:=by
 obtain⟨d,hd,_,_,hfs,_⟩:=ht.und
 obtain⟨fs,rfl,hm,hall⟩:=hfs (fun h=>by rw[h]at hf;simp at hf)
 rw[← hm,List.getElem?_map,Option.map_eq_some_iff]at hf
 obtain⟨fd,h1,h2⟩:=hf
 have h1':fs[f]?=some fd:=by simpa using h1
 obtain⟨h3,h4⟩:=hall fd (Array.mem_of_getElem? h1')
 obtain⟨info,h3⟩:=Option.isSome_iff_exists.1 h3
 obtain⟨d',h4⟩:=Option.isSome_iff_exists.1 h4
 simp only[Prod.mk.injEq]at h2
 obtain⟨h5,h6,h7⟩:=h2
 refine⟨fs,fd,info,d',hd,h1',h5,h3,by rw[← h7];unfold B1x;rw[h3],h4,fun w=>?_⟩
 rw[← h6]
 unfold isAgg B1M
 rw[Sem.run_bind,run_underlying h4,Result.andThen_ok,h4]
 cases d'<;>rfl
theorem B0h {t:TypeId} {i:TI} (ht:TOk P t i) {f c:Nat} {b:Bool} {m:Nat} (hf:i.fs[f]?=some (c,b,m)) (hm:Nat.beq m 0=false) (bl off:Nat) (w:World) :
  (Instr.fieldAt t (.pointer (some ⟨bl,off,none⟩)) f).run P w = .ok (.pointer (some ⟨bl,off+c,none⟩)) w:=by
 obtain⟨fs,fd,info,d,h1,h2,h3,h4,h5,_⟩:=B8E ht hf
 have hm':info.size≠0:=by rw[h5];exact Nat.ne_of_beq_eq_false hm
 simp[Instr.fieldAt,run_underlying h1,h2,Instr.sureAddr,fieldPlace,sizeOf,typeInfo,h4,hm',A5y,h3]
theorem B5b {t:TypeId} {i:TI} {x:Operand} {n s k q f c m:Nat} {b:Bool} (hop:o.op = .fieldAddr t x f) (ht:TOk P t i) (hf:i.fs[f]?=some (c,b,m)) (hm:Nat.beq m 0=false):OpS P o [(x,.ref n s k q)] [] [] fresh [] (.ref n s k (q+c)) :=
 .of_pure (fun c h=>by rw[hop]at h;cases h) fun g a hg hi hr=>by
  have hx:=hi (x,.ref n s k q) (by simp)
  generalize hv:a.eval x=v at hx
  cases hx with | ref _ _ _ _ hn hs0 =>
  exact⟨.pointer (some ⟨(g.β n).1,k*s+q+c,none⟩),by simp[execOp,hop,hv,B0h ht hf hm],by rw[Nat.add_assoc];exact .ref n s k (q+c) hn hs0⟩
theorem B6A {t:TypeId} {i:TI} {x:Operand} {l:List D} {s k q f c m:Nat} {b:Bool} (hop:o.op = .fieldAddr t x f) (ht:TOk P t i) (hf:i.fs[f]?=some (c,b,m)) (hm:Nat.beq m 0=false):OpS P o [(x,.d (.el s l k q))] [] [] fresh [] (.d (.el s l k (q+c))) :=
 .of_pure (fun c h=>by rw[hop]at h;cases h) fun g a hg hi hr=>by
  have hx:=hi (x,.d (.el s l k q)) (by simp)
  generalize hv:a.eval x=v at hx
  cases hx with | d hx =>
  cases hx with | el _ _ _ _ bl off f' hK hs hw hvv =>
  exact⟨.pointer (some ⟨bl,off+k*s+q+c,none⟩),by simp[execOp,hop,hv,B0h ht hf hm],.d (by rw[Nat.add_assoc];exact .el s l k (q+c) bl off f' hK hs hw hvv)⟩
end Go.Proofs.YtlaogbbcipebgaaGreat.Sh
