/- 'copy' into an own row; bits of numbers. Over whatever program. -/
import Derived.Test.YtlaogbbcipebgaaGreatSa21
import Derived.Laws.CopyRow
import Derived.Laws.IdiomCopy
namespace Go.Proofs.YtlaogbbcipebgaaGreat.Sh
set_option linter.unusedVariables false
set_option linter.unusedSimpArgs false
open Go
def A7c (k:IntKind) (a b:Int):Int:=k.wrap (BitVec.ofInt k.bits a &&& BitVec.ofInt k.bits b).toNat
def A6m (k:IntKind) (a b:Int):Int:=a.fdiv (2^(min b.toNat k.bits))
def A8w {α:Type} (w:List α) (lo len:Nat) (l:List α):List α:=w.take lo++l.take (min l.length len)++w.drop (lo+min l.length len)
theorem B1O {α β:Type} (f:α→β) (w:List α) (lo len:Nat) (l:List α):A8w (w.map f) lo len (l.map f)=(A8w w lo len l).map f:=by
 simp[A8w,List.map_take,List.map_drop]
def B38 {α:Type} (w:List α) (lo len:Nat) (l:List α):Option (List α):=if lo+len≤w.length then some (A8w w lo len l)else none
theorem A77 {α:Type} {w l q:List α} {lo len:Nat} (h:B38 w lo len l=some q):lo+len≤w.length∧A8w w lo len l=q:=by
 unfold B38 at h
 split at h
 ·injection h with h;exact⟨by assumption,h⟩
 ·cases h
theorem B1P {α:Type} {w l q:List α} {lo len:Nat} (h:B38 w lo len l=some q):w.length=q.length:=by
 obtain⟨h1,rfl⟩:=A77 h
 simp only[A8w,List.length_append,List.length_take,List.length_drop]
 omega
section
variable {P:Program} {o:Oper} {fresh:Nat}
theorem B7N {t e:TypeId} {i ei:TI} {x y:Operand} {u:T} {l:List T} {n lo len:Nat} {r:Rw} {rn:List (Nat × Rw)} (hop:o.op = .call { callee := .builtin .copy,args:=#[x,y],argTypes:=#[t,t] }) (ht:TOk P t i) (hsl:i.sl=some e) (he:TOk P e ei)
  (hz':ei.size=1) (hu:B8k u l 1 rn) (hm:(n,r)∈rn) (hs':r.s=1) (hle:lo+len≤r.els.length) (h1:A3f l=true) :
  OpS P o [(x,.row n 1 lo len),(y,u)] rn [(n,some ⟨1,A8w r.els lo len l⟩)] fresh [] (.d (.v (.int .i64 (min l.length len:Nat)))) :=
 .of_run (fun c h=>by rw[hop]at h;cases h) fun g a hg hi hr _=>by
  obtain⟨info,zv,hinf,hz,hsz,hby,hzs,_⟩:=he.info
  have hx:=hi (x,.row n 1 lo len) (by simp)
  have hy:=hi (y,u) (by simp)
  have hnM:=hr (n,r) hm
  dsimp only at hx hy hnM
  generalize hxv:a.eval x=xv at hx
  cases hx with | row _ _ _ _ a0 hnn hs0 hcap ha =>
  obtain⟨A,cap,vs,hv,hs,hvs,hrd⟩:=B41 hg hy hu hr
  have hlen:vs.length=l.length:=by rw[← hvs.1,A7B hs,Nat.mul_one]
  have hinf1:(P.info? e).map (·.size)=some 1:=by rw[hinf,Option.map_some,hsz,hz']
  obtain⟨m,hm'⟩:∃ m,min l.length len=m:=⟨_,rfl⟩
  unfold A8w
  rw[hm']
  by_cases hm0:m=0
  ·subst hm0
   have hrun:=run_copy_none (P:=P) g.w t t o.type e a0 A len ((g.β n).2-lo) l.length cap (ht.slice hsl) hinf1 (by simpa[Nat.min_def]using hm')
   refine⟨goInt 0,g,.inl ?_,hg,.refl g,?_,.d (.v _ rfl)⟩
   ·simp[execOp,hop,resolve,invoke,builtin,hxv,hv,hrun]
   ·rw[← A8h]
    have e:(⟨1,r.els.take lo++l.take 0++r.els.drop (lo+0)⟩:Rw)=r:=by
     cases r;simp at hs';subst hs';simp
    rw[e]
    funext k
    by_cases hk:k=n
    ·subst hk;simpa using hnM
    ·simp[hk]
  ·have hc0:¬ (g.β n).2=0:=by omega
   have hl0:0<l.length:=by omega
   obtain⟨ad,rfl,hrda⟩:=hrd hl0
   have ha:=ha hc0
   subst ha
   obtain⟨cells,ety,hh,hcz,hel,hrow⟩:B7i g n r:=by
    rcases hg.rows n r hnM with⟨h1,_⟩ | ⟨_,h1⟩ | ⟨h1,_⟩
    ·exact absurd h1 hc0
    ·exact h1
    ·omega
   rw[hs',Nat.mul_one]at hcz
   simp only[hs',Nat.mul_one]at hrow
   have hvl:(vs.take m).length=m:=by rw[List.length_take];omega
   have hrun:=run_copy_row (P:=P) g.w t t o.type e (g.β n).1 lo len ((g.β n).2-lo) ad l.length cap cells ety (vs.take m) (ht.slice hsl) hinf1 hh (by rw[hvl];simpa[Nat.min_def]using hm'.symm)
    (fun j v hj=>hrda j v (by rw[List.getElem?_take]at hj;split at hj;exact hj;cases hj)) (by rw[hvl,hcz];omega) (fun v hv=>B3S hvs h1 v (List.mem_of_mem_take hv))
   rw[hvl]at hrun
   obtain⟨cells',hc'⟩:∃ c:Array Value,(cells.toList.take lo++vs.take m++cells.toList.drop (lo+m)).toArray=c:=⟨_,rfl⟩
   rw[hc']at hrun
   have hcl:cells'.size=(g.β n).2*1:=by
    rw[← hc'];simp only[List.size_toArray,List.length_append,List.length_take,List.length_drop,Array.length_toList];omega
   obtain⟨hG,hL⟩:=P6.put hg hnM hc0 hh (cells:=cells') (r':=⟨1,r.els.take lo++l.take m++r.els.drop (lo+m)⟩) (by simp) hcl (by simp only[List.length_append,List.length_take,List.length_drop];omega) (by
    intro q z hq
    dsimp only at hq
    have hold:∀ q z,r.els[q]?=some z→q<lo∨lo+m≤q→z.cells.length=1∧∀ (j:Nat) (y:T),z.cells[j]?=some y→∃ c,cells'[q*1+j]?=some c∧VT g y c:=fun q z hq hql=>by
     obtain⟨k1,k2⟩:=hrow q z hq
     refine⟨k1,fun j y hy=>?_⟩
     have hj:=(List.getElem?_eq_some_iff.1 hy).1
     obtain⟨c,k3,k4⟩:=k2 j y hy
     refine⟨c,?_,k4⟩
     have hj0:j=0:=by omega
     subst hj0
     rw[Nat.mul_one,Nat.add_zero]
     rw[Nat.add_zero]at k3
     rw[← hc',List.getElem?_toArray]
     have hqc:=(Array.getElem?_eq_some_iff.1 k3).1
     rcases hql with h | h
     ·rw[List.append_assoc,List.getElem?_append_left (by simp;omega),List.getElem?_take,if_pos h];simpa using k3
     ·rw[List.getElem?_append_right (by simp;omega),List.getElem?_drop]
      simp only[List.length_append,List.length_take,Array.length_toList,hvl]
      rw[show lo+m+(q-(min lo cells.size+m))=q by omega]
      simpa using k3
    by_cases hq1:q<lo
    ·rw[List.append_assoc,List.getElem?_append_left (by simp;omega),List.getElem?_take,if_pos hq1]at hq
     exact hold q z hq (.inl hq1)
    ·by_cases hq2:q<lo+m
     ·rw[List.getElem?_append_left (by simp;omega),List.getElem?_append_right (by simp;omega),List.length_take,List.getElem?_take]at hq
      rw[show q-min lo r.els.length=q-lo by omega,if_pos (by omega)]at hq
      refine⟨hs z (List.mem_of_getElem? hq),fun j y hy=>?_⟩
      have hj:=(List.getElem?_eq_some_iff.1 hy).1
      have hj0:j=0:=by have:=hs z (List.mem_of_getElem? hq);omega
      subst hj0
      have hf:=B2G hs hq hy
      rw[Nat.mul_one,Nat.add_zero]at hf
      have hlt:=(List.getElem?_eq_some_iff.1 hf).1
      rw[hvs.1]at hlt
      refine⟨vs[q-lo],?_,hvs.2 _ _ _ hf (List.getElem?_eq_getElem hlt)⟩
      rw[← hc',List.getElem?_toArray,Nat.mul_one,Nat.add_zero,List.getElem?_append_left (by simp;omega),List.getElem?_append_right (by simp;omega),List.length_take,Array.length_toList,List.getElem?_take]
      rw[show q-min lo cells.size=q-lo by omega,if_pos (by omega)]
      exact List.getElem?_eq_getElem hlt
     ·rw[List.getElem?_append_right (by simp;omega),List.getElem?_drop]at hq
      simp only[List.length_append,List.length_take]at hq
      rw[show lo+m+(q-(min lo r.els.length+min m l.length))=q by omega]at hq
      exact hold q z hq (.inr (by omega)))
   refine⟨goInt m,_,.inl ?_,hG,hL,A8h g.M n _ fresh,.d (.v _ rfl)⟩
   simp only[Nat.mul_one]at hxv
   simp[execOp,hop,resolve,invoke,builtin,hxv,hv,hrun,G.put]
end
def B26 {α:Type} (l m:List α):Option (List α):=if l.length+m.length≤17592186044416 then some (l++m)else none
theorem B87 {α:Type} {l m q:List α} (h:B26 l m=some q):l.length+m.length≤17592186044416∧q=l++m:=by
 unfold B26 at h;split at h
 ·injection h with h;exact⟨by assumption,h.symm⟩
 ·cases h
section
variable {P:Program} {N:Nat} {ops:Array Oper} {l:List Oper} {ts:List (Nat × T)} {L:List (Option Rw)} {tr:List Stp} {d:Nat} {ty:TypeId} {pos:String} {af:Array Edge} {gd:Option (Nat × Bool)} {K:List Oper→List Stp→St→Prop}
theorem C0A {α:Type} {t e:TypeId} {i ei:TI} {x y:Operand} {n lo len:Nat} {g:α→D} {w v q:List α} (tb:Tab P) (ht:tb.f t=some i) (hsl:i.sl=some e) (he:tb.f e=some ei) (hz:ei.size=1) (hx:O9 ts x = .row n 1 lo len) (hy:O9 ts y = .d (.arr 1 (v.map g))) (hr:L[n]?=some (some ⟨1,w.map fun a => .d (g a)⟩)) (hle:lo+len≤w.length)
  (h1:A3f (v.map fun a => .d (g a))=true) (hq:A8w w lo len v=q) {L':List (Option Rw)} (hL:L.set n (some ⟨1,q.map fun a => .d (g a)⟩)=L')
  (hw:I2 ops ts ⟨some d,.call { callee := .builtin .copy,args:=#[x,y],argTypes:=#[t,t] },ty,pos,af,gd⟩=some true) (hd:Nat.blt d N=true)
  (k:L3 P N ops l ⟨(d,.d (.v (.int .i64 (min v.length len:Nat))))::ts,L'⟩ (tr++[.run [n] [n]]) K):L3 P N ops (⟨some d,.call { callee := .builtin .copy,args:=#[x,y],argTypes:=#[t,t] },ty,pos,af,gd⟩::l) ⟨ts,L⟩ tr K:=by
 subst hq hL
 refine A2i (.run hw (B7N (fresh:=L.length) (n:=n) (lo:=lo) (len:=len) (r:=⟨1,w.map fun a => .d (g a)⟩) (u := .d (.arr 1 (v.map g))) (rn:=[(n,⟨1,w.map fun a => .d (g a)⟩)]) (l:=v.map fun a => .d (g a)) rfl (tb.ok _ _ ht) hsl (tb.ok _ _ he) hz (.inr (.inl ⟨v.map g,rfl,by rw[List.map_map];rfl⟩)) (by simp) rfl (by simpa using hle) h1) ?_ ?_ ?_ hd) ?_
 ·intro p hp
  simp only[List.mem_cons,List.not_mem_nil,or_false]at hp
  rcases hp with rfl | rfl
  ·exact⟨hx,by simp[Op.operands,Call.operands]⟩
  ·exact⟨hy,by simp[Op.operands,Call.operands]⟩
 ·intro p hp;simp only[List.mem_cons,List.not_mem_nil,or_false]at hp;subst hp;exact hr
 ·intro p hp;simp only[List.mem_cons,List.not_mem_nil,or_false]at hp;subst hp;exact⟨_,List.mem_singleton.2 rfl,rfl⟩
 ·simpa[St.eff,A5m,A4m,B1O]using k
theorem C0B {α:Type} {t e:TypeId} {i ei:TI} {x y:Operand} {n lo len lo' len':Nat} {g:α→D} {w q:List α} (tb:Tab P) (ht:tb.f t=some i) (hsl:i.sl=some e) (he:tb.f e=some ei) (hz:ei.size=1) (hx:O9 ts x = .row n 1 lo len) (hy:O9 ts y = .row n 1 lo' len') (hr:L[n]?=some (some ⟨1,w.map fun a => .d (g a)⟩)) (hle:lo+len≤w.length) (hle':lo'+len'≤w.length)
  (h1:∀ v:List α,A3f (v.map fun a => .d (g a))=true) (hq:A8w w lo len ((w.drop lo').take len')=q) {L':List (Option Rw)} (hL:L.set n (some ⟨1,q.map fun a => .d (g a)⟩)=L')
  (hw:I2 ops ts ⟨some d,.call { callee := .builtin .copy,args:=#[x,y],argTypes:=#[t,t] },ty,pos,af,gd⟩=some true) (hd:Nat.blt d N=true)
  (k:L3 P N ops l ⟨(d,.d (.v (.int .i64 (min len' len:Nat))))::ts,L'⟩ (tr++[.run [n] [n]]) K):L3 P N ops (⟨some d,.call { callee := .builtin .copy,args:=#[x,y],argTypes:=#[t,t] },ty,pos,af,gd⟩::l) ⟨ts,L⟩ tr K:=by
 subst hq hL
 have el:((w.drop lo').take len').length=len':=by simp;omega
 refine A2i (.run hw (B7N (fresh:=L.length) (n:=n) (lo:=lo) (len:=len) (r:=⟨1,w.map fun a => .d (g a)⟩) (u := .row n 1 lo' len') (rn:=[(n,⟨1,w.map fun a => .d (g a)⟩)]) (l:=((w.drop lo').take len').map fun a => .d (g a)) rfl (tb.ok _ _ ht) hsl (tb.ok _ _ he) hz (.inr (.inr ⟨n,lo',len',⟨1,w.map fun a => .d (g a)⟩,rfl,by simp,rfl,by simpa using hle',by simp[List.map_take,List.map_drop]⟩)) (by simp) rfl (by simpa using hle) (h1 _)) ?_ ?_ ?_ hd) ?_
 ·intro p hp
  simp only[List.mem_cons,List.not_mem_nil,or_false]at hp
  rcases hp with rfl | rfl
  ·exact⟨hx,by simp[Op.operands,Call.operands]⟩
  ·exact⟨hy,by simp[Op.operands,Call.operands]⟩
 ·intro p hp;simp only[List.mem_cons,List.not_mem_nil,or_false]at hp;subst hp;exact hr
 ·intro p hp;simp only[List.mem_cons,List.not_mem_nil,or_false]at hp;subst hp;exact⟨_,List.mem_singleton.2 rfl,rfl⟩
 ·rw[List.length_map,el]
  simp only[St.eff,A5m,A4m,B1O,List.map_cons,List.map_nil,List.length_nil,List.append_nil]
  exact k
theorem B3c {α:Type} {t e:TypeId} {i ei:TI} {x y:Operand} {s n len:Nat} {w v q:List α} {g:α→D} (L':List (Option Rw)) (tb:Tab P) (ht:tb.f t=some i) (hsl:i.sl=some e) (he:tb.f e=some ei) (hz:ei.size=s) (hx:O9 ts x = .row n s 0 len) (hy:O9 ts y = .d (.arr s (v.map g))) (hr:L[n]?=some (some ⟨s,w.map fun a => .d (g a)⟩)) (hlen:w.length=len)
  (h1:∀ a,A4y (T.d (g a)).cells=true) (hq:B26 w v=some q) (hb:Nat.ble ei.bytes 8=true) (hL:L.set n none=L') {nn:Nat} {nr:List Nat} (hnn:A4f.drop L.length=nn::nr)
  (hw:I2 ops ts ⟨some d,.call { callee := .builtin .append,args:=#[x,y],argTypes:=#[t,t] },ty,pos,af,gd⟩=some true) (hd:Nat.blt d N=true)
  (k:L3 P N ops l ⟨(d,.row nn s 0 q.length)::ts,L'++[some ⟨s,q.map fun a => .d (g a)⟩]⟩ (tr++[.run [n,nn] [n,nn]]) K):L3 P N ops (⟨some d,.call { callee := .builtin .append,args:=#[x,y],argTypes:=#[t,t] },ty,pos,af,gd⟩::l) ⟨ts,L⟩ tr K:=by
 obtain⟨h2,rfl⟩:=B87 hq
 have e0:=A21 hnn
 subst hlen hL hz e0
 have hb':=Nat.le_of_ble_eq_true hb
 have hnl:n<L.length:=(List.getElem?_eq_some_iff.1 hr).1
 refine A2i (.run hw (B3T (fresh:=L.length) (n:=n) (s:=ei.size) (len:=w.length) (r:=⟨ei.size,w.map fun a => .d (g a)⟩) (u := .d (.arr ei.size (v.map g))) (rn:=[(n,⟨ei.size,w.map fun a => .d (g a)⟩)]) (l:=v.map fun a => .d (g a)) rfl (tb.ok _ _ ht) hsl (tb.ok _ _ he) rfl (.inr (.inl ⟨v.map g,rfl,by rw[List.map_map];rfl⟩)) (by simp) rfl (by simp) (B0Y h1) (by simp;omega) (Nat.le_trans (Nat.mul_le_mul (show w.length+(v.map fun a=>T.d (g a)).length≤17592186044416 by simpa using h2) hb') (by decide)) (by omega)) ?_ ?_ ?_ hd) ?_
 ·intro p hp
  simp only[List.mem_cons,List.not_mem_nil,or_false]at hp
  rcases hp with rfl | rfl
  ·exact⟨hx,by simp[Op.operands,Call.operands]⟩
  ·exact⟨hy,by simp[Op.operands,Call.operands]⟩
 ·intro p hp;simp only[List.mem_cons,List.not_mem_nil,or_false]at hp;subst hp;exact hr
 ·intro p hp;simp only[List.mem_cons,List.not_mem_nil,or_false]at hp;subst hp;exact⟨_,List.mem_singleton.2 rfl,rfl⟩
 ·rw[List.length_append,List.map_append]at k
  simpa[St.eff,A5m,A4m]using k
theorem B7Z {t1 t2:TypeId} {x y:Operand} {k:IntKind} {a b:Int} (hx:O9 ts x = .d (.v (.int k a))) (hy:O9 ts y = .d (.v (.int k b))) (hw:I2 ops ts ⟨some d,.binOp .and t1 x y t2,ty,pos,af,gd⟩=some true) (hd:Nat.blt d N=true)
  (kk:L3 P N ops l ⟨(d,.d (.v (.int k (A7c k a b))))::ts,L⟩ (tr++[.run [] []]) K):L3 P N ops (⟨some d,.binOp .and t1 x y t2,ty,pos,af,gd⟩::l) ⟨ts,L⟩ tr K :=
 K0 (ins:=[(x,.d (.v (.int k a))),(y,.d (.v (.int k b)))]) rfl (A3z (p := .int k a) (q := .int k b) (z := .int k (A7c k a b)) rfl rfl (fun w=>by simp[go_sem,Op.intBits,A7c])) hw (by simp[Op.operands,hx,hy]) (by simp) hd kk
theorem B4m {t1 t2:TypeId} {x y:Operand} {k k2:IntKind} {a b:Int} (hx:O9 ts x = .d (.v (.int k a))) (hy:O9 ts y = .d (.v (.int k2 b))) (hb:¬ b<0) (hw:I2 ops ts ⟨some d,.binOp .shr t1 x y t2,ty,pos,af,gd⟩=some true) (hd:Nat.blt d N=true)
  (kk:L3 P N ops l ⟨(d,.d (.v (.int k (A6m k a b))))::ts,L⟩ (tr++[.run [] []]) K):L3 P N ops (⟨some d,.binOp .shr t1 x y t2,ty,pos,af,gd⟩::l) ⟨ts,L⟩ tr K :=
 K0 (ins:=[(x,.d (.v (.int k a))),(y,.d (.v (.int k2 b)))]) rfl (A3z (p := .int k a) (q := .int k2 b) (z := .int k (A6m k a b)) rfl rfl (fun w=>by simp[go_sem,Op.shift,hb,A6m])) hw (by simp[Op.operands,hx,hy]) (by simp) hd kk
end
end Go.Proofs.YtlaogbbcipebgaaGreat.Sh
