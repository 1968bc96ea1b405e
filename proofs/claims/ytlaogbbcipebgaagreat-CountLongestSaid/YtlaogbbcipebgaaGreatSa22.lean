/- Rules of the walks. -/
import Derived.Test.YtlaogbbcipebgaaGreatSa3
import Derived.Laws.CopyRow
import Derived.Laws.IdiomCopy
set_option linter.unusedVariables false
set_option linter.unusedSimpArgs false
namespace Go.Proofs.YtlaogbbcipebgaaGreat.Sh
open Go
def A7c (k:IntKind) (a b:Int):Int:=k.wrap (BitVec.ofInt k.bits a &&& BitVec.ofInt k.bits b).toNat
def A6m (k:IntKind) (a b:Int):Int:=a.fdiv (2^(min b.toNat k.bits))
def A8w {α:Type} (w:List α) (lo len:Nat) (l:List α):List α:=w.take lo++l.take (min l.length len)++w.drop (lo+min l.length len)
theorem B1O {α β:Type} (f:α→β) (w:List α) (lo len:Nat) (l:List α):A8w (w.map f) lo len (l.map f)=(A8w w lo len l).map f:=by
 simp[A8w,List.map_take,List.map_drop]
def B38 {α:Type} (w:List α) (lo len:Nat) (l:List α):Option (List α):=if lo+len≤w.length then some (A8w w lo len l)else none
theorem A77 {α:Type} {w l q:List α} {lo len:Nat} (h:B38 w lo len l=some q):lo+len≤w.length∧A8w w lo len l=q:=by
 unfold B38 at h
 split at h
 ·injection h with h;exact⟨by assumption,h⟩
 ·cases h
theorem B1P {α:Type} {w l q:List α} {lo len:Nat} (h:B38 w lo len l=some q):w.length=q.length:=by
 obtain⟨h1,rfl⟩:=A77 h
 simp only[A8w,List.length_append,List.length_take,List.length_drop]
 omega
section
variable {P:Program} {o:Oper} {fresh:Nat}
theorem B7N {t e:TypeId} {i ei:TI} {x y:Operand} {u:T} {l:List T} {n lo len:Nat} {r:Rw} {rn:List (Nat × Rw)} (hop:o.op = .call { callee := .builtin .copy,args:=#[x,y],argTypes:=#[t,t] }) (ht:TOk P t i) (hsl:i.sl=some e) (he:TOk P e ei)
  (hz':ei.size=1) (hu:B8k u l 1 rn) (hm:(n,r)∈rn) (hs':r.s=1) (hle:lo+len≤r.els.length) (h1:A3f l=true) :
  OpS P o [(x,.row n 1 lo len),(y,u)] rn [(n,some ⟨1,A8w r.els lo len l⟩)] fresh [] (.d (.v (.int .i64 (min l.length len:Nat)))) :=
 .of_run (fun c h=>by rw[hop]at h;cases h) fun g a hg hi hr _=>by
  obtain⟨info,zv,hinf,hz,hsz,hby,hzs,_⟩:=he.info
  have hx:=hi (x,.row n 1 lo len) sM
  have hy:=hi (y,u) sM
  have hnM:=hr (n,r) hm
  dsimp only at hx hy hnM
  generalize hxv:a.eval x=xv at hx
  cases hx with | row _ _ _ _ a0 hnn hs0 hcap ha =>
  obtain⟨A,cap,vs,hv,hs,hvs,hrd⟩:=B41 hg hy hu hr
  have hlen:vs.length=l.length:=by rw[← hvs.1,A7B hs,Nat.mul_one]
  have hinf1:(P.info? e).map (·.size)=some 1:=by rw[hinf,Option.map_some,hsz,hz']
  obtain⟨m,hm'⟩:∃ m,min l.length len=m:=⟨_,rfl⟩
  unfold A8w
  rw[hm']
  by_cases hm0:m=0
  ·subst hm0
   have hrun:=run_copy_none (P:=P) g.w t t o.type e a0 A len ((g.β n).2-lo) l.length cap (ht.slice hsl) hinf1 (by simpa[Nat.min_def]using hm')
   refine⟨goInt 0,g,.inl ?_,hg,.refl g,?_,.d (.v _ rfl)⟩
   ·simp[execOp,hop,resolve,invoke,builtin,hxv,hv,hrun]
   ·rw[← A8h]
    have e:(⟨1,r.els.take lo++l.take 0++r.els.drop (lo+0)⟩:Rw)=r:=by
     cases r;simp at hs';subst hs';simp
    rw[e]
    funext k
    by_cases hk:k=n
    ·subst hk;simpa using hnM
    ·simp[hk]
  ·have hc0:¬ (g.β n).2=0:=by omega
   have hl0:0<l.length:=by omega
   obtain⟨ad,rfl,hrda⟩:=hrd hl0
   have ha:=ha hc0
   subst ha
   obtain⟨cells,ety,hh,hcz,hel,hrow⟩:B7i g n r:=by
    rcases hg.rows n r hnM with⟨h1,_⟩ | ⟨_,h1⟩ | ⟨h1,_⟩
    ·exact absurd h1 hc0
    ·exact h1
    ·omega
   rw[hs',Nat.mul_one]at hcz
   simp only[hs',Nat.mul_one]at hrow
   have hvl:(vs.take m).length=m:=by rw[List.length_take];omega
   have hrun:=run_copy_row (P:=P) g.w t t o.type e (g.β n).1 lo len ((g.β n).2-lo) ad l.length cap cells ety (vs.take m) (ht.slice hsl) hinf1 hh (by rw[hvl];simpa[Nat.min_def]using hm'.symm)
    (fun j v hj=>hrda j v (by rw[List.getElem?_take]at hj;split at hj;exact hj;cases hj)) (by rw[hvl,hcz];omega) (fun v hv=>B3S hvs h1 v (List.mem_of_mem_take hv))
   rw[hvl]at hrun
   obtain⟨cells',hc'⟩:∃ c:Array Value,(cells.toList.take lo++vs.take m++cells.toList.drop (lo+m)).toArray=c:=⟨_,rfl⟩
   rw[hc']at hrun
   have hcl:cells'.size=(g.β n).2*1:=by
    rw[← hc'];simp only[List.size_toArray,List.length_append,List.length_take,List.length_drop,Array.length_toList];omega
   obtain⟨hG,hL⟩:=P6.put hg hnM hc0 hh (cells:=cells') (r':=⟨1,r.els.take lo++l.take m++r.els.drop (lo+m)⟩) sM hcl (by simp only[List.length_append,List.length_take,List.length_drop];omega) (by
    intro q z hq
    dsimp only at hq
    have hold:∀ q z,r.els[q]?=some z→q<lo∨lo+m≤q→z.cells.length=1∧∀ (j:Nat) (y:T),z.cells[j]?=some y→∃ c,cells'[q*1+j]?=some c∧VT g y c:=fun q z hq hql=>by
     obtain⟨k1,k2⟩:=hrow q z hq
     refine⟨k1,fun j y hy=>?_⟩
     have hj:=(gS hy).1
     obtain⟨c,k3,k4⟩:=k2 j y hy
     refine⟨c,?_,k4⟩
     have hj0:j=0:=by omega
     subst hj0
     rw[Nat.mul_one,Nat.add_zero]
     rw[Nat.add_zero]at k3
     rw[← hc',List.getElem?_toArray]
     have hqc:=(gA k3).1
     rcases hql with h | h
     ·rw[List.append_assoc,List.getElem?_append_left (by simp;omega),List.getElem?_take,if_pos h];simpa using k3
     ·rw[List.getElem?_append_right (by simp;omega),List.getElem?_drop]
      simp only[List.length_append,List.length_take,Array.length_toList,hvl]
      rw[show lo+m+(q-(min lo cells.size+m))=q by omega]
      simpa using k3
    by_cases hq1:q<lo
    ·rw[List.append_assoc,List.getElem?_append_left (by simp;omega),List.getElem?_take,if_pos hq1]at hq
     exact hold q z hq (.inl hq1)
    ·by_cases hq2:q<lo+m
     ·rw[List.getElem?_append_left (by simp;omega),List.getElem?_append_right (by simp;omega),List.length_take,List.getElem?_take]at hq
      rw[show q-min lo r.els.length=q-lo by omega,if_pos oM]at hq
      refine⟨hs z (iM hq),fun j y hy=>?_⟩
      have hj:=(gS hy).1
      have hj0:j=0:=by have:=hs z (iM hq);omega
      subst hj0
      have hf:=B2G hs hq hy
      rw[Nat.mul_one,Nat.add_zero]at hf
      have hlt:=(gS hf).1
      rw[hvs.1]at hlt
      refine⟨vs[q-lo],?_,hvs.2 _ _ _ hf (gE hlt)⟩
      rw[← hc',List.getElem?_toArray,Nat.mul_one,Nat.add_zero,List.getElem?_append_left (by simp;omega),List.getElem?_append_right (by simp;omega),List.length_take,Array.length_toList,List.getElem?_take]
      rw[show q-min lo cells.size=q-lo by omega,if_pos oM]
      exact gE hlt
     ·rw[List.getElem?_append_right (by simp;omega),List.getElem?_drop]at hq
      simp only[List.length_append,List.length_take]at hq
      rw[show lo+m+(q-(min lo r.els.length+min m l.length))=q by omega]at hq
      exact hold q z hq (.inr oM))
   refine⟨goInt m,_,.inl ?_,hG,hL,A8h g.M n _ fresh,.d (.v _ rfl)⟩
   simp only[Nat.mul_one]at hxv
   simp[execOp,hop,resolve,invoke,builtin,hxv,hv,hrun,G.put]
end
def B26 {α:Type} (l m:List α):Option (List α):=if l.length+m.length≤17592186044416 then some (l++m)else none
theorem B87 {α:Type} {l m q:List α} (h:B26 l m=some q):l.length+m.length≤17592186044416∧q=l++m:=by
 unfold B26 at h;split at h
 ·injection h with h;exact⟨by assumption,h.symm⟩
 ·cases h
section
variable {P:Program} {N:Nat} {ops:Array Oper} {l:List Oper} {ts:LT} {L:LR} {tr:List Stp} {d:Nat} {ty:TypeId} {pos:String} {af:Array Edge} {gd:Option (Nat × Bool)} {K:List Oper→List Stp→St→Prop}
theorem C0A {α:Type} {t e:TypeId} {i ei:TI} {x y:Operand} {n lo len:Nat} {g:α→D} {w v q:List α} (tb:Tab P) (ht:tb.f t=some i) (hsl:i.sl=some e) (he:tb.f e=some ei) (hz:ei.size=1) (hx:O9 ts x = .row n 1 lo len) (hy:O9 ts y = .d (.arr 1 (v.map g))) (hr:L[n]?=some (some ⟨1,w.map fun a => .d (g a)⟩)) (hle:lo+len≤w.length)
  (h1:A3f (v.map fun a => .d (g a))=true) (hq:A8w w lo len v=q) {L':LR} (hL:L.set n (some ⟨1,q.map fun a => .d (g a)⟩)=L')
  (hw:I2 ops ts ⟨some d,.call { callee := .builtin .copy,args:=#[x,y],argTypes:=#[t,t] },ty,pos,af,gd⟩=some true) (hd:Nat.blt d N=true)
  (k:L3 P N ops l ⟨(d,.d (.v (.int .i64 (min v.length len:Nat))))::ts,L'⟩ (tr++[.run [n] [n]]) K):L3 P N ops (⟨some d,.call { callee := .builtin .copy,args:=#[x,y],argTypes:=#[t,t] },ty,pos,af,gd⟩::l) ⟨ts,L⟩ tr K:=by
 subst hq hL
 refine A2i (.run hw (B7N (fresh:=L.length) (n:=n) (lo:=lo) (len:=len) (r:=⟨1,w.map fun a => .d (g a)⟩) (u := .d (.arr 1 (v.map g))) (rn:=[(n,⟨1,w.map fun a => .d (g a)⟩)]) (l:=v.map fun a => .d (g a)) rfl (tb.ok _ _ ht) hsl (tb.ok _ _ he) hz (.inr (.inl ⟨v.map g,rfl,by rw[List.map_map];rfl⟩)) sM rfl (by simpa using hle) h1) ?_ ?_ ?_ hd) ?_
 ·intro p hp
  simp only[List.mem_cons,List.not_mem_nil,or_false]at hp
  rcases hp with rfl | rfl
  ·exact⟨hx,by simp[Op.operands,Call.operands]⟩
  ·exact⟨hy,by simp[Op.operands,Call.operands]⟩
 ·intro p hp;simp only[List.mem_cons,List.not_mem_nil,or_false]at hp;subst hp;exact hr
 ·intro p hp;simp only[List.mem_cons,List.not_mem_nil,or_false]at hp;subst hp;exact⟨_,List.mem_singleton.2 rfl,rfl⟩
 ·simpa[St.eff,A5m,A4m,B1O]using k
theorem C0B {α:Type} {t e:TypeId} {i ei:TI} {x y:Operand} {n lo len lo' len':Nat} {g:α→D} {w q:List α} (tb:Tab P) (ht:tb.f t=some i) (hsl:i.sl=some e) (he:tb.f e=some ei) (hz:ei.size=1) (hx:O9 ts x = .row n 1 lo len) (hy:O9 ts y = .row n 1 lo' len') (hr:L[n]?=some (some ⟨1,w.map fun a => .d (g a)⟩)) (hle:lo+len≤w.length) (hle':lo'+len'≤w.length)
  (h1:∀ v:List α,A3f (v.map fun a => .d (g a))=true) (hq:A8w w lo len ((w.drop lo').take len')=q) {L':LR} (hL:L.set n (some ⟨1,q.map fun a => .d (g a)⟩)=L')
  (hw:I2 ops ts ⟨some d,.call { callee := .builtin .copy,args:=#[x,y],argTypes:=#[t,t] },ty,pos,af,gd⟩=some true) (hd:Nat.blt d N=true)
  (k:L3 P N ops l ⟨(d,.d (.v (.int .i64 (min len' len:Nat))))::ts,L'⟩ (tr++[.run [n] [n]]) K):L3 P N ops (⟨some d,.call { callee := .builtin .copy,args:=#[x,y],argTypes:=#[t,t] },ty,pos,af,gd⟩::l) ⟨ts,L⟩ tr K:=by
 subst hq hL
 have el:((w.drop lo').take len').length=len':=by simp;omega
 refine A2i (.run hw (B7N (fresh:=L.length) (n:=n) (lo:=lo) (len:=len) (r:=⟨1,w.map fun a => .d (g a)⟩) (u := .row n 1 lo' len') (rn:=[(n,⟨1,w.map fun a => .d (g a)⟩)]) (l:=((w.drop lo').take len').map fun a => .d (g a)) rfl (tb.ok _ _ ht) hsl (tb.ok _ _ he) hz (.inr (.inr ⟨n,lo',len',⟨1,w.map fun a => .d (g a)⟩,rfl,by simp,rfl,by simpa using hle',by simp[List.map_take,List.map_drop]⟩)) sM rfl (by simpa using hle) (h1 _)) ?_ ?_ ?_ hd) ?_
 ·intro p hp
  simp only[List.mem_cons,List.not_mem_nil,or_false]at hp
  rcases hp with rfl | rfl
  ·exact⟨hx,by simp[Op.operands,Call.operands]⟩
  ·exact⟨hy,by simp[Op.operands,Call.operands]⟩
 ·intro p hp;simp only[List.mem_cons,List.not_mem_nil,or_false]at hp;subst hp;exact hr
 ·intro p hp;simp only[List.mem_cons,List.not_mem_nil,or_false]at hp;subst hp;exact⟨_,List.mem_singleton.2 rfl,rfl⟩
 ·rw[List.length_map,el]
  simp only[St.eff,A5m,A4m,B1O,List.map_cons,List.map_nil,List.length_nil,List.append_nil]
  exact k
theorem B3c {α:Type} {t e:TypeId} {i ei:TI} {x y:Operand} {s n len:Nat} {w v q:List α} {g:α→D} (L':LR) (tb:Tab P) (ht:tb.f t=some i) (hsl:i.sl=some e) (he:tb.f e=some ei) (hz:ei.size=s) (hx:O9 ts x = .row n s 0 len) (hy:O9 ts y = .d (.arr s (v.map g))) (hr:L[n]?=some (some ⟨s,w.map fun a => .d (g a)⟩)) (hlen:w.length=len)
  (h1:∀ a,A4y (T.d (g a)).cells=true) (hq:B26 w v=some q) (hb:Nat.ble ei.bytes 8=true) (hL:L.set n none=L') {nn:Nat} {nr:List Nat} (hnn:A4f.drop L.length=nn::nr)
  (hw:I2 ops ts ⟨some d,.call { callee := .builtin .append,args:=#[x,y],argTypes:=#[t,t] },ty,pos,af,gd⟩=some true) (hd:Nat.blt d N=true)
  (k:L3 P N ops l ⟨(d,.row nn s 0 q.length)::ts,L'++[some ⟨s,q.map fun a => .d (g a)⟩]⟩ (tr++[.run [n,nn] [n,nn]]) K):L3 P N ops (⟨some d,.call { callee := .builtin .append,args:=#[x,y],argTypes:=#[t,t] },ty,pos,af,gd⟩::l) ⟨ts,L⟩ tr K:=by
 obtain⟨h2,rfl⟩:=B87 hq
 have e0:=A21 hnn
 subst hlen hL hz e0
 have hb':=Nat.le_of_ble_eq_true hb
 have hnl:n<L.length:=(gS hr).1
 refine A2i (.run hw (B3T (fresh:=L.length) (n:=n) (s:=ei.size) (len:=w.length) (r:=⟨ei.size,w.map fun a => .d (g a)⟩) (u := .d (.arr ei.size (v.map g))) (rn:=[(n,⟨ei.size,w.map fun a => .d (g a)⟩)]) (l:=v.map fun a => .d (g a)) rfl (tb.ok _ _ ht) hsl (tb.ok _ _ he) rfl (.inr (.inl ⟨v.map g,rfl,by rw[List.map_map];rfl⟩)) sM rfl sM (B0Y h1) (by simp;omega) (Nat.le_trans (Nat.mul_le_mul (show w.length+(v.map fun a=>T.d (g a)).length≤17592186044416 by simpa using h2) hb') dM) oM) ?_ ?_ ?_ hd) ?_
 ·intro p hp
  simp only[List.mem_cons,List.not_mem_nil,or_false]at hp
  rcases hp with rfl | rfl
  ·exact⟨hx,by simp[Op.operands,Call.operands]⟩
  ·exact⟨hy,by simp[Op.operands,Call.operands]⟩
 ·intro p hp;simp only[List.mem_cons,List.not_mem_nil,or_false]at hp;subst hp;exact hr
 ·intro p hp;simp only[List.mem_cons,List.not_mem_nil,or_false]at hp;subst hp;exact⟨_,List.mem_singleton.2 rfl,rfl⟩
 ·rw[List.length_append,List.map_append]at k
  simpa[St.eff,A5m,A4m]using k
theorem B7Z {t1 t2:TypeId} {x y:Operand} {k:IntKind} {a b:Int} (hx:O9 ts x = .d (.v (.int k a))) (hy:O9 ts y = .d (.v (.int k b))) (hw:I2 ops ts ⟨some d,.binOp .and t1 x y t2,ty,pos,af,gd⟩=some true) (hd:Nat.blt d N=true)
  (kk:L3 P N ops l ⟨(d,.d (.v (.int k (A7c k a b))))::ts,L⟩ (tr++[.run [] []]) K):L3 P N ops (⟨some d,.binOp .and t1 x y t2,ty,pos,af,gd⟩::l) ⟨ts,L⟩ tr K :=
 K0 (ins:=[(x,.d (.v (.int k a))),(y,.d (.v (.int k b)))]) rfl (A3z (p := .int k a) (q := .int k b) (z := .int k (A7c k a b)) rfl rfl (fun w=>by simp[go_sem,Op.intBits,A7c])) hw (by simp[Op.operands,hx,hy]) sM hd kk
theorem B4m {t1 t2:TypeId} {x y:Operand} {k k2:IntKind} {a b:Int} (hx:O9 ts x = .d (.v (.int k a))) (hy:O9 ts y = .d (.v (.int k2 b))) (hb:¬ b<0) (hw:I2 ops ts ⟨some d,.binOp .shr t1 x y t2,ty,pos,af,gd⟩=some true) (hd:Nat.blt d N=true)
  (kk:L3 P N ops l ⟨(d,.d (.v (.int k (A6m k a b))))::ts,L⟩ (tr++[.run [] []]) K):L3 P N ops (⟨some d,.binOp .shr t1 x y t2,ty,pos,af,gd⟩::l) ⟨ts,L⟩ tr K :=
 K0 (ins:=[(x,.d (.v (.int k a))),(y,.d (.v (.int k2 b)))]) rfl (A3z (p := .int k a) (q := .int k2 b) (z := .int k (A6m k a b)) rfl rfl (fun w=>by simp[go_sem,Op.shift,hb,A6m])) hw (by simp[Op.operands,hx,hy]) sM hd kk
end
end Go.Proofs.YtlaogbbcipebgaaGreat.Sh
namespace Go.Proofs.YtlaogbbcipebgaaGreat.Sh
open Go Go.ChangeShapes Go.WideShapes Go.ChangeAt Go.RowKit Go.Joins Go.Deep
section
variable {P:Program} {H:Type} {enc:TypeId × Value→H} {W:World}
theorem C6T {t e:TypeId} {n s b:Nat} {c:Value} {y:DataW H × List MemPlace} {l:List D} (ht:P.underlying t=some (.slice e)) (hb:P.bytesOf e=b) (h:DataW.trod enc P W 0 (fun _=>true) true n t [c]=some y) (hv:VD (gW W) (.arr s l) c) (hw:∀ m∈DataW.weights P t y.1,m≤reachBytes):l.length*b≤140737488355328:=by
 rcases open_slice ht h with⟨e1,_⟩ | ⟨a,len,cap,m,n',D',Pl,e1,_,hlc,hcm,hm,rfl,hel⟩
 ·injection e1 with e1
  subst e1
  cases hv<;>simp
 ·injection e1 with e1
  subst e1
  have hl:l.length=len:=by cases hv<;>rfl
  subst hl
  have hlm:l.length≤m:=by rw[hm];split<;>omega
  have:=hw ((((List.range l.length).map D').length+((List.range (m-l.length)).map fun j=>D' (l.length+j)).length)*b) (by
   simp only[DataW.weights,ht,hb];exact List.mem_cons_self)
  simp only[List.length_map,List.length_range]at this
  have h2:reachBytes≤140737488355328:=by decide
  have h3:l.length*b≤(l.length+(m-l.length))*b:=Nat.mul_le_mul_right _ oM
  omega
theorem C6S {w0:Nat} {t:TypeId} {fs:Array Field} {v:Value} {d:DataW H} {p:List MemPlace} {r:Reach} (hs:P.underlying t=some (.struct fs)) (hval:Value.okWide P W r w0 t v) (h:DataW.Trod enc P W 0 (fun _=>true) true t v d p) :
  ∃ cs:Array Value,v = .agg cs∧∃ n,DataW.trod enc P W 0 (fun _=>true) true n t cs.toList=some (d,p):=by
 obtain⟨cs,rfl,_⟩:=okWide_struct hs hval
 obtain⟨fuel,hf⟩:=h
 exact⟨cs,rfl,fuel,hf⟩
end
end Go.Proofs.YtlaogbbcipebgaaGreat.Sh
namespace Go.Proofs.YtlaogbbcipebgaaGreat.Sh
open Go
theorem B52 {c:Value} (n:Nat):(Builtin.zeroCells #[c] n).toList=List.replicate n c:=by
 unfold Builtin.zeroCells
 apply List.ext_getElem?
 intro i
 simp only[Array.toList_map,Array.toList_range,gM,List.getElem?_replicate,List.size_toArray,List.length_cons,List.length_nil,Nat.zero_add,Nat.mul_one]
 by_cases h:i<n
 ·rw[List.getElem?_range h,if_pos h];simp[Nat.mod_one]
 ·rw[if_neg h,List.getElem?_eq_none (by simpa using h)];rfl
theorem B1I {P:Program} (w:World) (t ty elem:TypeId) (g n c:Nat) (cur:Array Value) (et:TypeId) (zv c0:Value) (hu:P.underlying t=some (.slice elem)) (hz:(zeroValue elem).run P w = .ok zv w) (hzc:zv.cells=#[c0]) (hg:w.heap[g]?=some (.cells cur et (0,0))) (hfit:n+1≤cur.size) (h1:c0.oneCell'=true) :
 (Builtin.clear_ #[t] ty #[.slice (some ⟨g,0,none⟩) (n+1) c]).run P w = .ok (.tuple #[]) (w.setRow g (List.replicate (n+1) c0++cur.toList.drop (n+1)).toArray):=by
 have hst:=run_storeCells_at P g 0 et (List.replicate (n+1) c0) 0 cur w hg (by simpa using hfit) (fun v hv=>by rw[(List.mem_replicate.1 hv).2];exact h1)
 simp only[List.length_replicate,Nat.zero_add,List.take_zero,List.nil_append]at hst
 simp[Builtin.clear_,run_underlying hu,hz,hzc,B52,hst]
def B6t {α:Type} (w:List α) (a0:α):Option (List α):=some (List.replicate w.length a0)
theorem B5B {α:Type} {w q:List α} {a0:α} (h:B6t w a0=some q):w.length=q.length:=by
 injection h with h
 rw[← h,List.length_replicate]
section
variable {P:Program} {o:Oper} {fresh:Nat}
theorem B8Q {t e:TypeId} {i ei:TI} {x:Operand} {n len:Nat} {r:Rw} {c0:Value} (hop:o.op = .call { callee := .builtin .clear,args:=#[x],argTypes:=#[t] }) (ht:TOk P t i) (hsl:i.sl=some e) (he:TOk P e ei) (hz0:ei.z = .d (.v c0)) (hc:c0.cells=#[c0]) (h1:c0.oneCell'=true) (ho:one c0) (hs':r.s=1) (hle:len=r.els.length) :
  OpS P o [(x,.row n 1 0 len)] [(n,r)] [(n,some ⟨1,List.replicate len (.d (.v c0))⟩)] fresh [] (.d (.tup [])) :=
 .of_run (fun c h=>by rw[hop]at h;cases h) fun g a hg hi hr _=>by
  obtain⟨info,zv,hinf,hz,hsz,hby,hzs,hzo,hzl,hz1⟩:=he.info
  have hx:=hi (x,.row n 1 0 len) sM
  have hnM:=hr (n,r) sM
  dsimp only at hx hnM
  generalize hxv:a.eval x=xv at hx
  cases hx with | row _ _ _ _ a0 hnn hs0 hcap ha =>
  have hzv:(zeroValue e).run P g.w = .ok zv g.w:=by simp[zeroValue,typeInfo,hinf,hz]
  have hzc:zv=c0:=by
   have:=VT.ofV g zv
   rw[← hzo,hz0]at this
   exact this.v_eq
  subst hzc
  cases hl:len with
  | zero =>
   subst hl
   have hrun:(Builtin.clear_ #[t] o.type #[.slice a0 0 ((g.β n).2-0)]).run P g.w = .ok (.tuple #[]) g.w:=by
    cases a0<;>simp[Builtin.clear_,run_underlying (ht.slice hsl)]
   refine⟨.tuple #[],g,.inl ?_,hg,.refl g,?_,.d (.tup _ _ rfl (fun i d c h=>by simp at h))⟩
   ·rw[Nat.sub_zero]at hrun hxv
    simp[execOp,hop,resolve,invoke,builtin,hxv,hrun]
   ·rw[← A8h]
    have e:(⟨1,List.replicate 0 (.d (.v zv))⟩:Rw)=r:=by
     cases r;simp at hs';subst hs'
     rename_i els
     cases els with
     | nil=>rfl
     | cons _ _=>simp at hle
    rw[e]
    funext k
    by_cases hk:k=n
    ·subst hk;simpa using hnM
    ·simp[hk]
  | succ m =>
   subst hl
   have hc0:¬ (g.β n).2=0:=by omega
   have ha:=ha hc0
   subst ha
   obtain⟨cells,ety,hh,hcz,hel,hrow⟩:B7i g n r:=by
    rcases hg.rows n r hnM with⟨h1,_⟩ | ⟨_,h1⟩ | ⟨h1,_⟩
    ·exact absurd h1 hc0
    ·exact h1
    ·omega
   rw[hs',Nat.mul_one]at hcz
   have hrun:=B1I (P:=P) g.w t o.type e (g.β n).1 m ((g.β n).2-0) cells ety zv zv (ht.slice hsl) hzv hc hh oM h1
   obtain⟨cells',hc'⟩:∃ c:Array Value,(List.replicate (m+1) zv++cells.toList.drop (m+1)).toArray=c:=⟨_,rfl⟩
   rw[hc']at hrun
   have hcl:cells'.size=(g.β n).2*1:=by
    rw[← hc'];simp only[List.size_toArray,List.length_append,List.length_replicate,List.length_drop,Array.length_toList];omega
   obtain⟨hG,hL⟩:=P6.put hg hnM hc0 hh (cells:=cells') (r':=⟨1,List.replicate (m+1) (.d (.v zv))⟩) sM hcl (by simp only[List.length_replicate];omega) (by
    intro q z hq
    dsimp only at hq
    have hlt:=(gS hq).1
    rw[List.length_replicate]at hlt
    rw[List.getElem?_replicate,if_pos hlt]at hq
    injection hq with hq
    subst hq
    refine⟨rfl,fun j y hy=>?_⟩
    have hj:=(gS hy).1
    have hj0:j=0:=by simpa[T.cells]using hj
    subst hj0
    have hyy:y = .d (.v zv):=by simpa[T.cells]using hy.symm
    subst hyy
    refine⟨zv,?_,.d (.v _ ho)⟩
    rw[← hc',List.getElem?_toArray,Nat.mul_one,List.getElem?_append_left (by simpa using hlt),List.getElem?_replicate,if_pos (by simpa using hlt)])
   refine⟨.tuple #[],_,.inl ?_,hG,hL,A8h g.M n _ fresh,.d (.tup _ _ rfl (fun i d c h=>by simp at h))⟩
   rw[Nat.sub_zero]at hrun hxv
   simp only[Nat.zero_mul]at hxv
   simp[execOp,hop,resolve,invoke,builtin,hxv,hrun,G.put]
end
section
variable {P:Program} {N:Nat} {ops:Array Oper} {l:List Oper} {ts:LT} {L:LR} {tr:List Stp} {K:List Oper→List Stp→St→Prop} {d:Nat} {ty:TypeId} {pos:String} {af:Array Edge} {gd:Option (Nat × Bool)}
theorem A8E {t e kt:TypeId} {x y z:Operand} {n:Nat} {β:Type} {vf:β→D} {m q:List (Int × β)} {k:Int} {v:β} (L':LR) (ht:P.underlying t=some (.map kt e)) (hk:P.underlying kt=some (.int .i64)) (hx:O9 ts x = .mp n) (hy:O9 ts y = .d (.v (.int .i64 k))) (hz:O9 ts z = .d (vf v)) (hr:L[n]?=some (some ⟨0,m.map fun p => .agg [.d (.v (.int .i64 p.1)),.d (vf p.2)]⟩)) (hq:M0 m k v=q) (hL:L.set n (some ⟨0,q.map fun p => .agg [.d (.v (.int .i64 p.1)),.d (vf p.2)]⟩)=L')
  (hw:I2 ops ts ⟨none,.insert t x y z,ty,pos,af,gd⟩=some true)
  (kk:L3 P N ops l ⟨ts,L'⟩ (tr++[.run [n] [n]]) K):L3 P N ops (⟨none,.insert t x y z,ty,pos,af,gd⟩::l) ⟨ts,L⟩ tr K:=by
 subst hq hL
 refine A2i (.run hw (B0X (kv:=fun a:Int => .int .i64 a) (vf:=vf) (m:=m) (k:=k) (v:=v) (n:=n) (fresh:=L.length) (.inr rfl) ht (.int hk)) ?_ ?_ ?_ rfl) ?_
 ·intro p hp
  simp only[List.mem_cons,List.not_mem_nil,or_false]at hp
  rcases hp with rfl | rfl | rfl
  ·exact⟨hx,by simp[Op.operands]⟩
  ·exact⟨hy,by simp[Op.operands]⟩
  ·exact⟨hz,by simp[Op.operands]⟩
 ·intro p hp;simp only[List.mem_cons,List.not_mem_nil,or_false]at hp;subst hp;exact hr
 ·intro p hp;simp only[List.mem_cons,List.not_mem_nil,or_false]at hp;subst hp;exact⟨_,List.mem_singleton.2 rfl,rfl⟩
 ·simpa[St.eff,A5m,A4m,A7d]using kk
theorem C0H {t e kt:TypeId} {ei:TI} {x y:Operand} {n:Nat} {β:Type} {vf:β→D} {m:List (Int × β)} {k:Int} {z0:β} {u:D} {b:Bool} (tb:Tab P) (ht:P.underlying t=some (.map kt e)) (hk:P.underlying kt=some (.int .i64)) (he:tb.f e=some ei) (hx:O9 ts x = .mp n) (hy:O9 ts y = .d (.v (.int .i64 k))) (hr:L[n]?=some (some ⟨0,m.map fun p => .agg [.d (.v (.int .i64 p.1)),.d (vf p.2)]⟩)) (hz:ei.z = .d (vf z0)) (hu:vf ((A2e m k).getD z0)=u) (hb:(A2e m k).isSome=b)
  (hw:I2 ops ts ⟨some d,.lookup t x y true,ty,pos,af,gd⟩=some true) (hd:Nat.blt d N=true)
  (kk:L3 P N ops l ⟨(d,.tup [.d u,.d (.v (.bool b))])::ts,L⟩ (tr++[.run [n] []]) K):L3 P N ops (⟨some d,.lookup t x y true,ty,pos,af,gd⟩::l) ⟨ts,L⟩ tr K:=by
 subst hu hb
 have h:=B6B (P:=P) (o:=⟨some d,.lookup t x y true,ty,pos,af,gd⟩) (fresh:=L.length) (kv:=fun a:Int => .int .i64 a) (vf:=fun b=>T.d (vf b)) (m:=m) (k:=k) (n:=n) rfl ht (tb.ok _ _ he) (.int hk)
 cases hm:A2e m k with
 | none =>
  rw[hm]at h kk;dsimp only at h;rw[hz]at h
  exact K0 (rn:=[(n,A9d (fun a:Int => .int .i64 a) (fun b=>T.d (vf b)) m)]) rfl h hw (by simp[Op.operands,hx,hy]) (by simp[hr,A9d]) hd kk
 | some v =>
  rw[hm]at h kk;dsimp only at h
  exact K0 (rn:=[(n,A9d (fun a:Int => .int .i64 a) (fun b=>T.d (vf b)) m)]) rfl h hw (by simp[Op.operands,hx,hy]) (by simp[hr,A9d]) hd kk
theorem B5R {α:Type} {t e:TypeId} {i ei:TI} {x:Operand} {n len:Nat} {g:α→D} {w q:List α} {a0:α} {c0:Value} (tb:Tab P) (ht:tb.f t=some i) (hsl:i.sl=some e) (he:tb.f e=some ei) (hz0:ei.z = .d (.v c0)) (hc:c0.cells=#[c0]) (h1:c0.oneCell'=true) (ho:one c0) (hg:g a0 = .v c0) (hx:O9 ts x = .row n 1 0 len) (hr:L[n]?=some (some ⟨1,w.map fun a => .d (g a)⟩)) (hle:len=w.length) (hq:B6t w a0=some q) {L':LR} (hL:L.set n (some ⟨1,q.map fun a => .d (g a)⟩)=L')
  (hw:I2 ops ts ⟨none,.call { callee := .builtin .clear,args:=#[x],argTypes:=#[t] },ty,pos,af,gd⟩=some true)
  (k:L3 P N ops l ⟨ts,L'⟩ (tr++[.run [n] [n]]) K):L3 P N ops (⟨none,.call { callee := .builtin .clear,args:=#[x],argTypes:=#[t] },ty,pos,af,gd⟩::l) ⟨ts,L⟩ tr K:=by
 subst hL hle
 injection hq with hq
 subst hq
 have e:((List.replicate w.length a0).map fun a=>T.d (g a))=List.replicate w.length (.d (.v c0)):=by rw[List.map_replicate,hg]
 rw[e]at k
 refine A2i (.run hw (B8Q (fresh:=L.length) (n:=n) (len:=w.length) (r:=⟨1,w.map fun a => .d (g a)⟩) rfl (tb.ok _ _ ht) hsl (tb.ok _ _ he) hz0 hc h1 ho rfl sM) ?_ ?_ ?_ rfl) ?_
 ·intro p hp
  simp only[List.mem_cons,List.not_mem_nil,or_false]at hp
  subst hp
  exact⟨hx,by simp[Op.operands,Call.operands]⟩
 ·intro p hp;simp only[List.mem_cons,List.not_mem_nil,or_false]at hp;subst hp;exact hr
 ·intro p hp;simp only[List.mem_cons,List.not_mem_nil,or_false]at hp;subst hp;exact⟨_,List.mem_singleton.2 rfl,rfl⟩
 ·simpa[St.eff,A5m,A4m]using k
theorem A7n {t e:TypeId} {i ei:TI} {x y:Operand} {n s j c m:Nat} {k:IntKind} {z:Int} (q:Nat) (tb:Tab P) (ht:tb.f t=some i) (hs:i.ar=some (m,e)) (he:tb.f e=some ei) (hx:O9 ts x = .ref n s j c) (hy:O9 ts y = .d (.v (.int k z))) (hz:z=(q:Int)) (hq:Nat.blt q m=true) (hw:I2 ops ts ⟨some d,.indexAddr t x y,ty,pos,af,gd⟩=some true) (hd:Nat.blt d N=true) (kk:L3 P N ops l ⟨(d,.ref n s j (c+q*ei.size))::ts,L⟩ (tr++[.run (List.map Prod.fst ([]:List (Nat × Rw))) []]) K):L3 P N ops (⟨some d,.indexAddr t x y,ty,pos,af,gd⟩::l) ⟨ts,L⟩ tr K:=by
 subst hz
 have h2:q<m:=by rw[Nat.blt_eq]at hq;exact hq
 exact C0D (q:=(q:Int)) tb ht hs he hx hy oM oM hw hd kk
theorem C0J {t1 t2:TypeId} {x y:Operand} {k:IntKind} {a b:Int} (hx:O9 ts x = .d (.v (.int k a))) (hy:O9 ts y = .d (.v (.int k b))) (hb:b≠0) (hw:I2 ops ts ⟨some d,.binOp .quo t1 x y t2,ty,pos,af,gd⟩=some true) (hd:Nat.blt d N=true)
  (kk:L3 P N ops l ⟨(d,.d (.v (.int k (k.wrap (a.tdiv b)))))::ts,L⟩ (tr++[.run [] []]) K):L3 P N ops (⟨some d,.binOp .quo t1 x y t2,ty,pos,af,gd⟩::l) ⟨ts,L⟩ tr K :=
 K0 (ins:=[(x,.d (.v (.int k a))),(y,.d (.v (.int k b)))]) rfl (A3z (p := .int k a) (q := .int k b) (z := .int k (k.wrap (a.tdiv b))) rfl rfl (fun w=>by simp[go_sem,Op.intDiv,hb])) hw (by simp[Op.operands,hx,hy]) sM hd kk
end
structure LeA (A:Nat→Prop) (n0:Nat) (g g':G):Prop where
 e:∀ n,n<n0→g.M n≠none→g'.M n≠none∧g'.β n=g.β n
 size:g.w.heap.size≤g'.w.heap.size
 os:g'.w.os=g.w.os
 tape:g'.w.tape=g.w.tape
 output:g'.w.output=g.w.output
 fr:∀ b,b<g.w.heap.size→NL g b→¬ A b→g'.w.heap[b]?=g.w.heap[b]?
 k:∀ b,g.K b→g'.K b
 k':∀ b,b<g.w.heap.size→g'.K b→g.K b∨¬ NL g b
 nl:∀ n r,g'.M n=some (some r)→(g'.β n).2≠0→(g'.β n).1<g.w.heap.size→¬ NL g (g'.β n).1
section
variable {A B:Nat→Prop} {l n0 n1:Nat} {g g':G}
theorem LeN.toA (h:LeN n0 g g') (A:Nat→Prop):LeA A n0 g g':=⟨h.e,h.size,h.os,h.tape,h.output,fun b hb hn _=>h.fr b hb hn,h.k,h.k',h.nl⟩
theorem LeL.toA (h:LeL l n0 g g'):LeA (·=l) n0 g g':=⟨h.e,h.size,h.os,h.tape,h.output,h.fr,h.k,h.k',h.nl⟩
theorem LeA.grow (h:LeA A n0 g g') (hA:∀ b,A b→B b):LeA B n0 g g':=⟨h.e,h.size,h.os,h.tape,h.output,fun b hb hn ha=>h.fr b hb hn fun hx=>ha (hA b hx),h.k,h.k',h.nl⟩
theorem LeA.less (h:LeA A n0 g g') (hn:n1≤n0):LeA A n1 g g':=⟨fun n hlt=>h.e n oM,h.size,h.os,h.tape,h.output,h.fr,h.k,h.k',h.nl⟩
theorem LeN.lessN (h:LeN n0 g g') (hn:n1≤n0):LeN n1 g g':=⟨fun n hlt=>h.e n oM,h.size,h.os,h.tape,h.output,h.fr,h.k,h.k',h.nl⟩
theorem LeA.refl (A:Nat→Prop) (n0:Nat) (g:G):LeA A n0 g g:=(LeN.refl n0 g).toA A
theorem LeA.keepNL (h:LeA A n0 g g') {b:Nat} (hb:b<g.w.heap.size) (hn:NL g b):NL g' b:=fun n r hr h0 he=>h.nl n r hr h0 (by rw[he];exact hb) (he▸hn)
theorem LeA.trans {a b c:G} (h:LeA A n0 a b) (k:LeA A n0 b c):LeA A n0 a c where
 e n hlt hn:=by
  obtain⟨h1,h2⟩:=h.e n hlt hn
  obtain⟨k1,k2⟩:=k.e n hlt h1
  exact⟨k1,k2.trans h2⟩
 size:=Nat.le_trans h.size k.size
 os:=k.os.trans h.os
 tape:=k.tape.trans h.tape
 output:=k.output.trans h.output
 fr x hx hn hl:=(k.fr x (Nat.lt_of_lt_of_le hx h.size) (h.keepNL hx hn) hl).trans (h.fr x hx hn hl)
 k x hx:=k.k x (h.k x hx)
 k' x hx hk:=by
  rcases k.k' x (Nat.lt_of_lt_of_le hx h.size) hk with h1 | h1
  ·exact h.k' x hx h1
  ·exact .inr fun hn=>h1 (h.keepNL hx hn)
 nl n r hr h0 hlt:=by
  intro hn
  exact k.nl n r hr h0 (Nat.lt_of_lt_of_le hlt h.size) (h.keepNL hlt hn)
theorem LeA.drop (h:LeA B n0 g g') (hB:∀ b,b<g.w.heap.size→B b→A b):LeA A n0 g g':=⟨h.e,h.size,h.os,h.tape,h.output,fun b hb hn ha=>h.fr b hb hn fun hx=>ha (hB b hb hx),h.k,h.k',h.nl⟩
theorem LeA.toN (h:LeA A n0 g g') (hA:∀ b,b<g.w.heap.size→¬ A b):LeN n0 g g':=⟨h.e,h.size,h.os,h.tape,h.output,fun b hb hn=>h.fr b hb hn (hA b hb),h.k,h.k',h.nl⟩
theorem LeA.at (h:LeA A n0 g g') {b:Nat} (hb:b<g.w.heap.size) (hn:NL g b) (hk:¬ g.K b) (ha:¬ A b):g'.w.heap[b]?=g.w.heap[b]?∧¬ g'.K b :=
 ⟨h.fr b hb hn ha,fun hk'=>by rcases h.k' b hb hk' with h1 | h1;exact hk h1;exact h1 hn⟩
theorem VT.turnA (hg:P6 g) (h:LeA A n0 g g') (hk:∀ b,A b→¬ g.K b) {t:T} {c:Value} (hv:VT g t c) (hs:t.sc n0=true):VT g' t c :=
 hv.turnN (fun b hb=>⟨h.k b hb,h.fr b (hg.kd b hb) (hg.kl b hb) fun e=>hk b e hb⟩) h.e hs
end
theorem JOk.stepA {X:JX} {r:JR} {ph:SX} {A:Nat→Prop} {g g':G} (h:JOk X r ph g) (hg:P6 g) (hl:LeA A X.n1 g g') (hA:∀ b,A b→¬ g.K b) (h1:¬ A X.l) (h2:¬ A r.D):JOk X r ph g':=by
 obtain⟨k1,k2⟩:=hl.at (gA h.lrec).1 (A3l hg h.lrec) h.kl h1
 obtain⟨k3,k4⟩:=hl.at (gA h.mark).1 (A5L hg h.mark) h.kD h2
 exact⟨k1.trans h.lrec,k3.trans h.mark,k2,k4,h.sz,fun i=>(h.ts i).turnA hg hl hA (h.sc i),h.sc⟩
structure Cx (Φ:Type) where
 A:Nat→Prop
 own:Nat→Prop
 n1:Nat
 ok:Φ→G→Prop
 sub:∀ b,A b→own b
 lt:∀ ph g,ok ph g→∀ b,own b→b<g.w.heap.size
 nk:∀ ph g,ok ph g→∀ b,own b→¬ g.K b
 step:∀ (S:Nat→Prop) ph g g',ok ph g→P6 g→LeA S n1 g g'→(∀ b,S b→¬ g.K b)→(∀ b,S b→¬ own b)→ok ph g'
def Cx.zero (n:Nat):Cx Unit:=⟨fun _=>False,fun _=>False,n,fun _ _=>True,fun _ h=>h,fun _ _ _ _ h=>h.elim,fun _ _ _ _ h=>h.elim,fun _ _ _ _ _ _ _ _ _=>trivial⟩
def Cx.up {Φ:Type} (C:Cx Φ) (m:Nat) (h:C.n1≤m):Cx Φ:=⟨C.A,C.own,m,C.ok,C.sub,C.lt,C.nk,fun S ph g g' h1 h2 h3=>C.step S ph g g' h1 h2 (h3.less h)⟩
def Cx.nest {Φ:Type} (C:Cx Φ) (X:JX) (r:JR) (n:Nat) (h1:C.n1≤n) (h2:X.n1≤n):Cx (SX × Φ) where
 A b:=C.A b∨b=X.l
 own b:=C.own b∨b=X.l∨b=r.D
 n1:=n
 ok p g:=C.ok p.2 g∧JOk X r p.1 g∧¬ C.own X.l∧¬ C.own r.D
 sub b:=fun h=>h.elim (fun h => .inl (C.sub b h)) (fun h => .inr (.inl h))
 lt p g h b:=by
  rintro(h' | rfl | rfl)
  ·exact C.lt _ _ h.1 b h'
  ·exact(gA h.2.1.lrec).1
  ·exact(gA h.2.1.mark).1
 nk p g h b:=by
  rintro(h' | rfl | rfl)
  ·exact C.nk _ _ h.1 b h'
  ·exact h.2.1.kl
  ·exact h.2.1.kD
 step S p g g' h hg hl hk ho:=⟨C.step S _ _ _ h.1 hg (hl.less h1) hk fun b hb hx=>ho b hb (.inl hx),h.2.1.stepA hg (hl.less h2) hk (fun hx=>ho _ hx (.inr (.inl rfl))) (fun hx=>ho _ hx (.inr (.inr rfl))),h.2.2⟩
theorem Cx.stepN {Φ:Type} (C:Cx Φ) {ph:Φ} {g g':G} (h:C.ok ph g) (hg:P6 g) (hl:LeN C.n1 g g'):C.ok ph g':=C.step (fun _=>False) ph g g' h hg (hl.toA _) (fun _ h=>h.elim) (fun _ h=>h.elim)
def B3x {Φ:Type} (C:Cx Φ) (g:G) (N:Nat) (Q:Φ→SX→St→Prop):Exit→Act→World→Prop:=fun ex a' w' =>
 ∃ g' ph sx st,g'.w=w'∧LeA C.A C.n1 g g'∧StR g' N st a' []∧C.ok ph g'∧XR g' sx ex∧Q ph sx st
theorem B3x.trans {Φ:Type} {C:Cx Φ} {g g1:G} {N:Nat} {Q:Φ→SX→St→Prop} (hl:LeA C.A C.n1 g g1) {ex:Exit} {a:Act} {w:World} (h:B3x C g1 N Q ex a w):B3x C g N Q ex a w:=by
 obtain⟨g',ph,sx,st,h1,h2,h3⟩:=h
 exact⟨g',ph,sx,st,h1,hl.trans h2,h3⟩
def SWC {Φ:Type} (P:Program) (C:Cx Φ) (N:Nat) (c:Code) (Q:Φ→SX→St→Prop) (ph:Φ) (st:St):Prop :=
 ∀ (F:Fence) (nn:Nat),Wd F→∀ (g:G) (a:Act),C.ok ph g→StR g N st a []→c.wpIn F nn P (B3x C g N Q) a g.w
section
variable {Φ:Type} {P:Program} {C:Cx Φ} {N:Nat} {Q:Φ→SX→St→Prop} {ph:Φ} {st:St}
theorem B3m {c:Code} (h:SW P C.n1 N [] c (Q ph) st):SWC P C N c Q ph st:=fun F nn hF g a hj hR =>
 wpIn_mono (h F nn hF g a hR) fun ex a' w' ⟨g',sx,st',h1,h2,h3,h4,h5⟩=>⟨g',ph,sx,st',h1,h2.toA _,h3,C.stepN hj hR.good h2,h4,h5⟩
def B2v (K:Φ→St→Prop) (Q:Φ→SX→St→Prop):Φ→SX→St→Prop:=fun ph=>A5w (K ph) (Q ph)
def A84 (id:Nat) (Q:Φ→SX→St→Prop):Φ→SX→St→Prop:=fun ph=>A34 id (Q ph)
theorem O2 {K:Φ→St→Prop} (h:K ph st):B2v K Q ph .norm st:=h
theorem B2x {K:Φ→St→Prop} (h:Q ph .ret st):B2v K Q ph .ret st:=h
theorem A5W {K:Φ→St→Prop} {i:Nat} (h:Q ph (.exit i) st):B2v K Q ph (.exit i) st:=h
theorem A3a {i:Nat} (h:Q ph .norm st):A84 i Q ph .norm st:=h
theorem A6Q {i:Nat} (h:Q ph .ret st):A84 i Q ph .ret st:=h
theorem A75 {i:Nat} (h:Q ph .norm st):A84 i Q ph (.exit i) st:=I5 (Q:=Q ph) h
theorem A5i (h:Q ph .norm st):SWC P C N .skip Q ph st:=B3m (D7 h)
theorem B12 {i:Nat} (h:Q ph (.exit i) st):SWC P C N (.exit i) Q ph st:=B3m (N5 h)
theorem B6e (h:Q ph .ret st):SWC P C N .ret Q ph st:=B3m (C9 h)
theorem A2D {x y:Code} (h:SWC P C N x (B2v (SWC P C N y Q) Q) ph st):SWC P C N (.seq x y) Q ph st:=fun F nn hF g a hj hR=>by
 refine wpIn_seq (wpIn_mono (h F nn hF g a hj hR) ?_)
 rintro ex a' w' ⟨g',ph',sx,st',rfl,h2,k2,k1,k4,k5⟩
 cases sx with
 | norm =>
  cases ex<;>first | exact k4.elim | skip
  exact wpIn_mono (k5 F nn hF g' a' k1 k2) fun _ _ _ hq=>hq.trans h2
 | ret=>cases ex<;>first | exact k4.elim | exact⟨g',ph',_,st',rfl,h2,k2,k1,k4,k5⟩
 | exit i=>cases ex<;>first | exact k4.elim | exact⟨g',ph',_,st',rfl,h2,k2,k1,k4,k5⟩
 | pan t=>cases ex<;>first | exact k4.elim | exact⟨g',ph',_,st',rfl,h2,k2,k1,k4,k5⟩
theorem A6K {id:Nat} {c:Code} (h:SWC P C N c (A84 id Q) ph st):SWC P C N (.block id c) Q ph st:=fun F nn hF g a hj hR=>by
 refine wpIn_block (wpIn_mono (h F nn hF g a hj hR) ?_)
 rintro ex a' w' ⟨g',ph',sx,st',rfl,h2,k2,k1,k4,k5⟩
 cases sx with
 | norm=>cases ex<;>first | exact k4.elim | exact⟨g',ph',.norm,st',rfl,h2,k2,k1,trivial,k5⟩
 | ret=>cases ex<;>first | exact k4.elim | exact⟨g',ph',.ret,st',rfl,h2,k2,k1,trivial,k5⟩
 | exit i =>
  cases ex<;>first | exact k4.elim | skip
  rename_i j
  have h4':i=j:=k4
  subst h4'
  simp only[A84,A34]at k5
  by_cases hi:i=id
  ·rw[if_pos hi]at k5
   simp only[Exit.inBlock,hi,if_true]
   exact⟨g',ph',.norm,st',rfl,h2,k2,k1,trivial,k5⟩
  ·rw[if_neg hi]at k5
   simp only[Exit.inBlock,hi,if_false]
   exact⟨g',ph',.exit i,st',rfl,h2,k2,k1,rfl,k5⟩
 | pan t=>cases ex<;>first | exact k4.elim | exact⟨g',ph',.pan t,st',rfl,h2,k2,k1,k4,k5⟩
theorem B45 {c:Operand} {x y:Code} {b:Bool} (hc:O9 st.ts c = .d (.v (.bool b))) (ht:b=true→SWC P C N x Q ph st) (hf:b=false→SWC P C N y Q ph st):SWC P C N (.cond c x y) Q ph st:=fun F nn hF g a hj hR=>by
 have h1:=A4G hR.ts c
 rw[hc]at h1
 exact wpIn_cond_split h1.v_eq (fun h=>ht h F nn hF g a hj hR) (fun h=>hf h F nn hF g a hj hR)
theorem A6L {c:Operand} {x y:Code} (hc:O9 st.ts c = .d (.v (.bool true))) (h:SWC P C N x Q ph st):SWC P C N (.cond c x y) Q ph st:=B45 hc (fun _=>h) (fun h=>by cases h)
theorem A3Q {c:Operand} {x y:Code} (hc:O9 st.ts c = .d (.v (.bool false))) (h:SWC P C N y Q ph st):SWC P C N (.cond c x y) Q ph st:=B45 hc (fun h=>by cases h) (fun _=>h)
theorem SWC.view {c:Code} {st':St} {κ:List Nat} (hv:Vw C.n1 st st' κ) (h:SWC P C N c Q ph st'):SWC P C N c Q ph st:=fun F nn hF g a hj hR=>by
 obtain⟨g1,hw,hl,hR1⟩:=hv.see hR
 have:=h F nn hF g1 a (C.stepN hj hR.good hl) hR1
 rw[hw]at this
 exact wpIn_mono this fun _ _ _ hq=>hq.trans (hl.toA _)
theorem SWC.seen {c:Code} {st':St} (k:∀ (g:G) (a:Act),StR g N st a []→∃ g',g'.w=g.w∧LeN C.n1 g g'∧StR g' N st' a []) (h:SWC P C N c Q ph st'):SWC P C N c Q ph st:=fun F nn hF g a hj hR=>by
 obtain⟨g',hw,hle,hR'⟩:=k g a hR
 have:=h F nn hF g' a (C.stepN hj hR.good hle) hR'
 rw[hw]at this
 exact wpIn_mono this fun _ _ _ hq=>hq.trans (hle.toA _)
theorem SWC.own {c:Code} {ts ts':LT} {L L':LR} (s:Nat) (hs:Nat.beq s 0=false) {m:Nat} {nr:List Nat} (hm:A4f.drop L.length=m::nr) (hts:B21 m s ts ts') (hL:A92 m s L L') (h:SWC P C N c Q ph ⟨ts',L'++[some ⟨s,[]⟩]⟩):SWC P C N c Q ph ⟨ts,L⟩ :=
 SWC.seen (fun _ _ hR=>A9g C.n1 s hs hm hts hL hR) h
theorem SWC.fz {c:Code} {ts ts':LT} {L L':LR} {α:Type} {w:List α} {f:α→D} (n s:Nat) (hn0:L[n]?=some (some ⟨s,w.map fun a => .d (f a)⟩)) (hts:FzS n s (w.map f) ts ts') (hL:FzR n s (w.map f) (L.set n none) L') (h:SWC P C N c Q ph ⟨ts',L'⟩):SWC P C N c Q ph ⟨ts,L⟩ :=
 SWC.seen (fun _ _ hR=>C0l C.n1 n s hn0 hts hL hR) h
theorem B2s {c:Code} (I:Nat→Φ→St→Prop) {m:Nat} {st0:St} (hv:A33 C.n1 N st st0) (h0:I m ph st0)
  (h:∀ m ph st,I m ph st→SWC P C N c (B2v (fun ph' st'=>∃ m' st'',m'<m∧A33 C.n1 N st' st''∧I m' ph' st'') Q) ph st):SWC P C N (.loop c) Q ph st:=by
 refine SWC.seen (fun _ _ hR=>hv _ _ _ hR) ?_
 intro F nn hF g a hj hR
 let Pm:Nat→Act→World→Prop:=fun m a' w'=>∃ g' ph' st',g'.w=w'∧LeA C.A C.n1 g g'∧C.ok ph' g'∧StR g' N st' a' []∧I m ph' st'
 have hex:∃ pick:Act→World→Nat,∀ a' w',(∃ m,Pm m a' w')→Pm (pick a' w') a' w'∧∀ k,Pm k a' w'→pick a' w'≤k:=by
  have h1:∀ p:Act × World,∃ m,(∃ m,Pm m p.1 p.2)→Pm m p.1 p.2∧∀ k,Pm k p.1 p.2→m≤k:=fun p=>by
   by_cases h:∃ m,Pm m p.1 p.2
   ·obtain⟨m,hm⟩:=least h;exact⟨m,fun _=>hm⟩
   ·exact⟨0,fun h'=>absurd h' h⟩
  exact⟨fun a' w'=>Classical.choose (h1 (a',w')),fun a' w'=>Classical.choose_spec (h1 (a',w'))⟩
 obtain⟨pick,hpick⟩:=hex
 refine wpIn_loop (fun a' w'=>∃ m,Pm m a' w') pick ⟨m,g,ph,st0,rfl,.refl _ _ g,hj,hR,h0⟩ fun a' w' hI=>?_
 obtain⟨⟨g1,ph1,st1,rfl,hl1,hj1,hR1,hI1⟩,_⟩:=hpick a' w' hI
 refine wpIn_mono (h _ ph1 st1 hI1 F nn hF g1 a' hj1 hR1) ?_
 rintro ex a2 w2 ⟨g2,ph2,sx,st2,rfl,k3,e2,e1,e4,e5⟩
 cases sx with
 | norm =>
  cases ex<;>first | exact e4.elim | skip
  obtain⟨m',st3,hlt,hv3,hI2⟩:=e5
  obtain⟨g3,hw3,hl3,hR3⟩:=hv3 _ _ _ e2
  have hP:Pm m' a2 g2.w:=⟨g3,ph2,st3,hw3,(hl1.trans k3).trans (hl3.toA _),C.stepN e1 e2.good hl3,hR3,hI2⟩
  have hex:∃ m,Pm m a2 g2.w:=⟨m',hP⟩
  exact⟨hex,Nat.lt_of_le_of_lt ((hpick a2 g2.w hex).2 m' hP) hlt⟩
 | ret=>cases ex<;>first | exact e4.elim | exact⟨g2,ph2,_,st2,rfl,hl1.trans k3,e2,e1,e4,e5⟩
 | exit i=>cases ex<;>first | exact e4.elim | exact⟨g2,ph2,_,st2,rfl,hl1.trans k3,e2,e1,e4,e5⟩
 | pan t=>cases ex<;>first | exact e4.elim | exact⟨g2,ph2,_,st2,rfl,hl1.trans k3,e2,e1,e4,e5⟩
def RgC {Φ:Type} (P:Program) (C:Cx Φ) (N:Nat) (ops:Array Oper) (Q:Φ→SX→St→Prop) (l:List Oper) (ph:Φ) (st:St):Prop :=
 ∀ (F:Fence) (nn:Nat),Wd F→∀ (g:G) (a:Act) (R:Exit→Act→World→Prop),C.ok ph g→StR g N st a []→(∀ ex a' w',B3x C g N Q ex a' w'→R ex a' w')→wpListIn F nn P ops R l a g.w
theorem A4D {id:Nat} {l:List Oper} (h:RgC P C N l.toArray Q l ph st):SWC P C N (.region id l.toArray false) Q ph st:=fun F nn hF g a hj hR =>
 wpIn_region_lit (h F nn hF g a _ hj hR fun _ _ _ h=>h)
theorem B9j {ops:Array Oper} (h:Q ph .norm st):RgC P C N ops Q [] ph st:=fun _ _ _ g _ _ hj hR k =>
 k _ _ _ ⟨g,ph,.norm,st,rfl,.refl _ _ g,hR,hj,trivial,h⟩
def B9D {Φ:Type} (P:Program) (C:Cx Φ) (N:Nat) (ops:Array Oper) (Q:Φ→SX→St→Prop) (ph:Φ):List Oper→List Stp→St→Prop:=fun l2 _ st'=>RgC P C N ops Q l2 ph st'
theorem A0B {ops:Array Oper} {tr:List Stp} (h:Q ph .norm st):L3 P N ops [] st tr (B9D P C N ops Q ph):=A32 (B9j h)
theorem B1T {ops:Array Oper} {tr:List Stp} {l:List Oper} (h:RgC P C N ops Q l ph st):L3 P N ops l st tr (B9D P C N ops Q ph):=A32 h
theorem A2B {ops:Array Oper} {l:List Oper} (h:L3 P N ops l st [] (B9D P C N ops Q ph)):RgC P C N ops Q l ph st:=by
 obtain⟨l1,l2,tr,st',rfl,h1,h2⟩:=h
 intro F nn hF g a R hj hR k
 have key:∀ (l:List Oper) (st:St) (tr:List Stp) (st2:St),Ev P N ops l st tr st2→RgC P C N ops Q l2 ph st2→∀ (g1:G) (a:Act),Le g g1→StR g1 N st a []→wpListIn F nn P ops R (l++l2) a g1.w:=by
  intro l st tr st2 h
  induction h with
  | nil st =>
   intro h2 g1 a hl hR1
   exact h2 F nn hF g1 a R (C.stepN hj hR.good (hl.toN _)) hR1 fun _ _ _ hq=>k _ _ _ (hq.trans ((hl.toN _).toA _))
  | cons hs _ ih =>
   intro h2 g1 a hl hR1
   exact hs.soundL hF hR1 fun g' a' h3 h4=>ih h2 g' a' (hl.trans h3) h4
 exact key l1 st tr st' h1 h2 g a (.refl g) hR
def rdC (n1:Nat) (K:Φ→SX→LR→Prop):Φ→SX→St→Prop
 | _,.pan _,_=>False
 | ph,sx,st=>∃ L κ,Vw n1 st ⟨[],L⟩ κ∧K ph sx L
end
section
variable {Φ:Type} {P:Program} {C:Cx Φ} {X:JX} {r:JR} {n N:Nat} {h1:C.n1≤n} {h2:X.n1≤n} {Q:SX × Φ→SX→St→Prop} {φ:Φ}
theorem C0g {Φ:Type} {P:Program} {C:Cx Φ} {m N:Nat} {hm:C.n1≤m} {c:Code} {Q:Φ→SX→St→Prop} {ph:Φ} {st:St} (h:SW P m N [] c (Q ph) st):SWC P (C.up m hm) N c Q ph st:=B3m (C:=C.up m hm) h
def B3r {Φ:Type} (P:Program) (C2:Cx (SX × Φ)) (N:Nat) (ops:Array Oper) (Q:SX × Φ→SX→St→Prop) (l:List Oper) (d:Nat) (ts:LT):Φ→SX→LR→Prop:=fun φ ph L'=>RgC P C2 N ops Q l (ph,φ) ⟨(d,.d (.v (.bool (isN ph))))::ts,L'⟩
theorem A9y {C2:Cx (SX × Φ)} {ops:Array Oper} {l:List Oper} {d:Nat} {ts:LT} {L':LR} (h:RgC P C2 N ops Q l (.norm,φ) ⟨(d,.d (.v (.bool true)))::ts,L'⟩):B3r P C2 N ops Q l d ts φ .norm L':=h
theorem B6k {C2:Cx (SX × Φ)} {ops:Array Oper} {l:List Oper} {d:Nat} {ts:LT} {L':LR} (h:RgC P C2 N ops Q l (.ret,φ) ⟨(d,.d (.v (.bool false)))::ts,L'⟩):B3r P C2 N ops Q l d ts φ .ret L':=h
theorem B2n {ops:Array Oper} {l:List Oper} {d:Nat} {ty:TypeId} {pos:String} {af:Array Edge} {gd:Option (Nat × Bool)} {x:Operand} {xs:Array Operand} {tys:Array TypeId} {ys:List D} {ts:LT} {L:LR}
  (hf:O9 ts x = .d (.v (.func (.yield X.l) #[] #[]))) (hx:xs.toList.map (O9 ts)=ys.map .d) (hps:X.ps.toList.length=ys.length) (hpN:X.ps.toList.all (Nat.blt · X.N)=true) (hn1:Nat.ble n L.length=true)
  (hw:I2 ops ts ⟨some d,.call { callee := .value x,args:=xs,argTypes:=tys },ty,pos,af,gd⟩=some true) (hd:Nat.blt d N=true)
  (h:∀ hup:C.n1≤L.length,SW P L.length X.N [] X.asg (B99 fun st1=>SWC P (C.up L.length hup) X.N X.body (rdC L.length (B3r P (C.nest X r n h1 h2) N ops Q l d ts)) φ st1) ⟨B1H X.ps.toList ys X.ts,L⟩) :
  RgC P (C.nest X r n h1 h2) N ops Q (⟨some d,.call { callee := .value x,args:=xs,argTypes:=tys },ty,pos,af,gd⟩::l) (.norm,φ) ⟨ts,L⟩:=by
 intro F nn hF g a R hj hR hk
 obtain⟨hc,hj,ho1,ho2⟩:=hj
 have hn1:=Nat.le_of_ble_eq_true hn1
 have hn1':X.n1≤L.length:=Nat.le_trans h2 hn1
 have hnC:C.n1≤L.length:=Nat.le_trans h1 hn1
 have hcal:=A4G hR.ts x
 dsimp only at hcal
 rw[hf]at hcal
 have hcal:=hcal.v_eq
 have hvs:VTs g (ys.map .d) (xs.toList.map a.eval):=by
  rw[← hx]
  refine⟨by simp,fun i t c h1 h2=>?_⟩
  rw[gM,Option.map_eq_some_iff]at h1 h2
  obtain⟨y,hy1,rfl⟩:=h1
  obtain⟨z,hz1,rfl⟩:=h2
  rw[hy1]at hz1;injection hz1 with hz1;subst hz1
  exact A4G hR.ts y
 obtain⟨vs,hvsE⟩:∃ vs,xs.toList.map a.eval=vs:=⟨_,rfl⟩
 rw[hvsE]at hvs
 have hvl:vs.length=ys.length:=by have:=hvs.1;simp at this;exact this.symm
 have h5:g.w.heap[X.l]?=some (.loop (X.lp r .ready none)):=hj.lrec
 have hyr:=run_yield (P:=P) (args:=vs.toArray) h5 (by simp[JX.lp]at hps ⊢;omega)
 obtain⟨p1,p2⟩:=B5p X.ps.toList ys vs X.ts r.tmps hj.sz (fun p hp=>List.all_eq_true.1 hpN p hp) hps hvs hj.ts
 have e0:(X.ps.zip vs.toArray).foldl (fun t (p,v)=>t.setIfInBounds p v) r.tmps=(X.ps.toList.zip vs).foldl (fun t (p,v)=>t.setIfInBounds p v) r.tmps:=by rw[← Array.foldl_toList];simp
 let A2:Nat→Prop:=fun b=>C.A b∨b=X.l
 have hround:RoundIn Fence.wide 0 P X.l r.fn ((X.ps.zip vs.toArray).foldl (fun t (p,v)=>t.setIfInBounds p v) r.tmps) X.asg X.body g.w fun e W' =>
   ∃ g' ph' φ' L',g'.w=W'∧P6 g'∧g'.M=ofL L'∧LeA A2 L.length g g'∧C.ok φ' g'∧JOk X r ph' g'∧e = .returned (.bool (isN ph'))∧RgC P (C.nest X r n h1 h2) N ops Q l (ph',φ') ⟨(d,.d (.v (.bool (isN ph'))))::ts,L'⟩:=by
  refine roundIn_of_wpIn trivial (wpIn_mono (h hnC (Fence.wide.inRound X.l) 0 ⟨some X.l,rfl⟩ g _ ⟨hR.good,hR.M,?_,?_,rfl⟩) ?_)
  ·show((X.ps.zip vs.toArray).foldl _ r.tmps).size=X.N
   rw[e0];exact p1
  ·intro i
   show VT g _ (((X.ps.zip vs.toArray).foldl _ r.tmps).getD i undef)
   rw[e0];exact p2 i
  rintro ex a1 w1 ⟨g2,sx,st1,rfl,q2,q3,q4,rfl,q5⟩
  cases ex<;>first | exact q4.elim | skip
  have c2':=C.stepN hc hR.good (q2.lessN hnC)
  have j2:=hj.step hR.good (q2.lessN hn1')
  have b1:g2.w.heap[X.l]?=some (.loop (X.lp r .ready none)):=j2.lrec
  have hlt2:=(gA b1).1
  have hne:r.D≠X.l:=fun e=>by have:=j2.mark;rw[e,b1]at this;cases this
  obtain⟨c1,c2,c3⟩:=A6D q3.good (A3l q3.good b1) j2.kl (.loop { X.lp r .ready none with state := .busy }) L.length
  refine⟨_,run_beginRound b1 rfl,?_⟩
  obtain⟨g3,hg3⟩:∃ g3:G,g3=⟨g2.M,g2.β,g2.K,g2.w.putObj X.l (.loop { X.lp r .ready none with state := .busy })⟩:=⟨_,rfl⟩
  rw[← hg3]at c1 c2
  have hR3:StR g3 X.N st1 a1 []:=⟨c1,by rw[hg3];exact q3.M,q3.size,fun i=>by rw[hg3];exact c3 _ _ (q3.ts i),q3.df⟩
  have d1:g3.w.heap[X.l]?=some (.loop { X.lp r .ready none with state := .busy }):=by rw[hg3];exact World.putObj_heap_same hlt2
  have d2:g3.w.heap[r.D]?=some (.deferred (some [])):=by rw[hg3];exact(World.putObj_heap_other hne).trans j2.mark
  have hw3:g3.w=g2.w.putObj X.l (.loop { X.lp r .ready none with state := .busy }):=by rw[hg3]
  have hK3:g3.K=g2.K:=by rw[hg3]
  have c3':C.ok φ g3:=C.step (·=X.l) φ g2 g3 c2' q3.good (c2.toA.less hnC) (fun b hb hk=>j2.kl (hb▸hk)) (fun b hb ho=>ho1 (hb▸ho))
  rw[← hw3]
  refine wpIn_mono (q5 (Fence.wide.inRound X.l) 0 ⟨some X.l,rfl⟩ g3 a1 c3' hR3) ?_
  rintro ex a2 w2 ⟨g4,φ4,sx,st2,rfl,r2,r3,r3',r4,r5⟩
  have r2:LeA C.A L.length g3 g4:=r2
  have r3':C.ok φ4 g4:=r3'
  obtain⟨f1,f3⟩:=r2.at (gA d1).1 (A3l c1 d1) (by rw[hK3];exact j2.kl) (fun hx=>ho1 (C.sub _ hx))
  obtain⟨f2,f4⟩:=r2.at (gA d2).1 (A5L c1 d2) (by rw[hK3];exact j2.kD) (fun hx=>ho2 (C.sub _ hx))
  rw[d1]at f1
  rw[d2]at f2
  have fin:∀ (ph':SX) (L':LR) (κ:List Nat),(isN ph'=(A3p ph').isNone)→(A5v ph'=if(A3p ph').isNone then .ready else .done)→Vw L.length st2 ⟨[],L'⟩ κ →
    ∃ g5:G,(Instr.endRound X.l (A3p ph')).run P g4.w = .ok (.bool (isN ph')) g5.w∧g5.M=ofL L'∧P6 g5∧LeA A2 L.length g g5∧C.ok φ4 g5∧JOk X r ph' g5:=fun ph' L' κ hp1 hp2 hvw=>by
   obtain⟨g5,s1,s2,s3⟩:=hvw.see r3
   obtain⟨t1,t3⟩:=A6q s2 (gA f1).1 (A3l r3.good f1) f3
   obtain⟨t2,t4⟩:=A6q s2 (gA f2).1 (A5L r3.good f2) f4
   rw[f1]at t1
   rw[f2]at t2
   obtain⟨u1,u2,_⟩:=A6D s3.good (A3l s3.good t1) t3 (.loop (X.lp r (A5v ph') (A3p ph'))) L.length
   have hr:=run_endRound (P:=P) (A3p ph') t1
   have hL:LeA A2 L.length g ⟨g5.M,g5.β,g5.K,g5.w.putObj X.l (.loop (X.lp r (A5v ph') (A3p ph')))⟩:=(((q2.toA A2).trans (c2.toA.grow fun b hb => .inr hb)).trans (r2.grow fun b hb => .inl hb)).trans ((s2.toA A2).trans (u2.toA.grow fun b hb => .inr hb))
   have hok5:=C.step (·=X.l) φ4 g5 ⟨g5.M,g5.β,g5.K,g5.w.putObj X.l (.loop (X.lp r (A5v ph') (A3p ph')))⟩ (C.stepN r3' r3.good (s2.lessN hnC)) s3.good (u2.toA.less hnC) (fun b hb hk=>t3 (hb▸hk)) (fun b hb ho=>ho1 (hb▸ho))
   refine⟨⟨g5.M,g5.β,g5.K,g5.w.putObj X.l (.loop (X.lp r (A5v ph') (A3p ph')))⟩,?_,s3.M,u1,hL,hok5,⟨World.putObj_heap_same (gA t1).1,(World.putObj_heap_other hne).trans t2,t3,t4,hj.sz,fun i=>(hj.ts i).turnA hR.good (hL.less hn1') (fun b hb hk=>hb.elim (fun hb=>C.nk _ _ hc b (C.sub b hb) hk) (fun hb=>hj.kl (hb▸hk))) (hj.sc i),hj.sc⟩⟩
   rw[← s1,hr,hp1,hp2]
   rfl
  cases sx with
  | norm =>
   cases ex<;>first | exact r4.elim | skip
   obtain⟨L',κ,hvw,hI⟩:=r5
   obtain⟨g5,z1,z2,z3,z4,z5,z6⟩:=fin .norm L' κ rfl rfl hvw
   exact⟨_,_,z1,g5,.norm,φ4,L',rfl,z3,z2,z4,z5,z6,rfl,hI⟩
  | ret =>
   cases ex<;>first | exact r4.elim | skip
   obtain⟨L',κ,hvw,hI⟩:=r5
   obtain⟨g5,z1,z2,z3,z4,z5,z6⟩:=fin .ret L' κ rfl rfl hvw
   exact⟨_,_,z1,g5,.ret,φ4,L',rfl,z3,z2,z4,z5,z6,rfl,hI⟩
  | exit i =>
   cases ex<;>first | exact r4.elim | skip
   obtain⟨L',κ,hvw,hI⟩:=r5
   have r4':i=_:=r4
   subst r4'
   obtain⟨g5,z1,z2,z3,z4,z5,z6⟩:=fin (.exit i) L' κ rfl rfl hvw
   exact⟨_,_,z1,g5,.exit i,φ4,L',rfl,z3,z2,z4,z5,z6,rfl,hI⟩
  | pan t=>exact r5.elim
 unfold wpListIn
 rw[A0W hw fun d _=>hR.ts d]
 simp only[if_true]
 refine⟨fun f _=>hF.fn f,?_⟩
 rw[Oper.semAt_eq _ _ _ (fun c h=>by cases h)]
 have e:xs.map a.eval=vs.toArray:=by rw[← hvsE];apply Array.ext';simp
 have hrun':(execOp a.eval ⟨some d,.call { callee := .value x,args:=xs,argTypes:=tys },ty,pos,af,gd⟩).run P g.w = .ok (.round X.l r.fn ((X.ps.zip vs.toArray).foldl (fun t (p,v)=>t.setIfInBounds p v) r.tmps) X.asg X.body) g.w:=by
  simp[execOp,resolve,hcal,Deferred.ofValue,invoke,e,hyr,JX.lp]
 rw[hrun']
 obtain⟨rr,rfl⟩:=hF
 refine⟨(fun h=>by cases h),?_⟩
 refine(A9r rr (nn-1) hround).mono ?_
 rintro e w' ⟨g',ph',φ',L',rfl,k1,k2,k3,k4,k5,rfl,k6⟩
 have all:∀ {t c},VT g t c→VT g' t c:=fun hv=>hv.turn (fun b hb=>⟨k3.k b hb,k3.fr b (hR.good.kd b hb) (hR.good.kl b hb) fun e=>e.elim (fun e=>C.nk _ _ hc b (C.sub b e) hb) (fun e=>hj.kl (e▸hb))⟩) fun n hn=>k3.e n (by rw[hR.M]at hn;simpa only[ofL,ne_eq,List.getElem?_eq_none_iff,Nat.not_le]using hn) hn
 refine k6 { Fence.wide with round:=rr } nn ⟨rr,rfl⟩ g' _ R ⟨k4,k5,ho1,ho2⟩ ⟨k1,k2,by rw[A5c];exact hR.size,fun i=>?_,by rw[A3h];exact hR.df⟩ fun _ _ _ hq=>hk _ _ _ (hq.trans (k3.less hn1))
 rw[A5b hR.size (by exact hd)]
 have e:=A2M (ts:=ts) (dst:=some d) (v := .d (.v (.bool (isN ph')))) i
 simp only[A5m]at e
 rw[e]
 split
 ·exact .d (.v _ rfl)
 ·exact all (hR.ts i)
end
theorem B5x {Φ:Type} {P:Program} {C:Cx Φ} {X:JX} {r:JR} {n m N:Nat} {h1:C.n1≤n} {h2:X.n1≤n} {hm:n≤m} {Q:SX × Φ→SX→St→Prop} {φ:Φ} {ops:Array Oper} {l:List Oper} {d:Nat} {ty:TypeId} {pos:String} {af:Array Edge} {gd:Option (Nat × Bool)} {x:Operand} {xs:Array Operand} {tys:Array TypeId} {ys:List D} {ts:LT} {L:LR}
  (hf:O9 ts x = .d (.v (.func (.yield X.l) #[] #[]))) (hx:xs.toList.map (O9 ts)=ys.map .d) (hps:X.ps.toList.length=ys.length) (hpN:X.ps.toList.all (Nat.blt · X.N)=true) (hn1:Nat.ble m L.length=true)
  (hw:I2 ops ts ⟨some d,.call { callee := .value x,args:=xs,argTypes:=tys },ty,pos,af,gd⟩=some true) (hd:Nat.blt d N=true)
  (h:∀ hup:C.n1≤L.length,SW P L.length X.N [] X.asg (B99 fun st1=>SWC P (C.up L.length hup) X.N X.body (rdC L.length (B3r P ((C.nest X r n h1 h2).up m hm) N ops Q l d ts)) φ st1) ⟨B1H X.ps.toList ys X.ts,L⟩) :
  RgC P ((C.nest X r n h1 h2).up m hm) N ops Q (⟨some d,.call { callee := .value x,args:=xs,argTypes:=tys },ty,pos,af,gd⟩::l) (.norm,φ) ⟨ts,L⟩ :=
 B2n (C:=C) (X:=X) (r:=r) (n:=m) (h1:=Nat.le_trans h1 hm) (h2:=Nat.le_trans h2 hm) hf hx hps hpN hn1 hw hd h
def SWN {Φ:Type} (P:Program) (C:Cx Φ) (N:Nat) (c:Code) (Q:Φ→SX→St→Prop) (ph:Φ) (st:St):Prop :=
 ∀ (nn:Nat) (db:Nat) (g:G) (a:Act) (df:List Deferred),C.ok ph g→StR g N st a df→A72 db g df→(∀ b,C.own b→b<db)→c.wpIn Fence.wide nn P (fun ex a' w'=>∃ g' ph' sx st' df',g'.w=w'∧LeA C.A C.n1 g g'∧StR g' N st' a' df'∧A72 db g' df'∧C.ok ph' g'∧XR g' sx ex∧Q ph' sx st') a g.w
theorem A72.stepA {db n0:Nat} {A:Nat→Prop} {g g':G} {df:List Deferred} (h:A72 db g df) (hg:P6 g) (hl:LeA A n0 g g') (hA:∀ b,A b→b<db):A72 db g' df:=by
 refine⟨h.nd,Nat.le_trans h.sz hl.size,fun d hd=>?_⟩
 obtain⟨D,h1,h2,h3,h4⟩:=h.all d hd
 obtain⟨k1,k2⟩:=hl.at (gA h3).1 (A5L hg h3) h4 (fun hx=>by have:=hA D hx;omega)
 exact⟨D,h1,h2,k1.trans h3,k2⟩
section
variable {Φ:Type} {P:Program} {C:Cx Φ} {N:Nat} {Q:Φ→SX→St→Prop} {ph:Φ} {st:St}
theorem B8n {c:Code} (h:∀ df,SW P C.n1 N df c (Q ph) st):SWN P C N c Q ph st:=fun nn db g a df hc hR hd _ =>
 wpIn_mono (h df Fence.wide nn Wd.wide g a hR) fun ex a' w' ⟨g',sx,st',h1,h2,h3,h4,h5⟩=>⟨g',ph,sx,st',df,h1,h2.toA _,h3,hd.stepN hR.good h2,C.stepN hc hR.good h2,h4,h5⟩
theorem B6f {x y:Code} (h:SWN P C N x (B2v (SWN P C N y Q) Q) ph st):SWN P C N (.seq x y) Q ph st:=fun nn db g a df hc hR hd ho=>by
 refine wpIn_seq (wpIn_mono (h nn db g a df hc hR hd ho) ?_)
 rintro ex a' w' ⟨g',ph',sx,st',df',rfl,h2,h3,h3',hc',h4,h5⟩
 cases sx with
 | norm =>
  cases ex<;>first | exact h4.elim | skip
  exact wpIn_mono (h5 nn db g' a' df' hc' h3 h3' ho) fun _ _ _ ⟨g'',ph'',sx',st'',df'',k1,k2,k3⟩=>⟨g'',ph'',sx',st'',df'',k1,h2.trans k2,k3⟩
 | ret=>cases ex<;>first | exact h4.elim | exact⟨g',ph',_,st',df',rfl,h2,h3,h3',hc',h4,h5⟩
 | exit i=>cases ex<;>first | exact h4.elim | exact⟨g',ph',_,st',df',rfl,h2,h3,h3',hc',h4,h5⟩
 | pan t=>cases ex<;>first | exact h4.elim | exact⟨g',ph',_,st',df',rfl,h2,h3,h3',hc',h4,h5⟩
theorem B6T {id:Nat} {c:Code} (h:SWN P C N c (A84 id Q) ph st):SWN P C N (.block id c) Q ph st:=fun nn db g a df hc hR hd ho=>by
 refine wpIn_block (wpIn_mono (h nn db g a df hc hR hd ho) ?_)
 rintro ex a' w' ⟨g',ph',sx,st',df',rfl,h2,h3,h3',hc',h4,h5⟩
 cases sx with
 | norm=>cases ex<;>first | exact h4.elim | exact⟨g',ph',.norm,st',df',rfl,h2,h3,h3',hc',trivial,h5⟩
 | ret=>cases ex<;>first | exact h4.elim | exact⟨g',ph',.ret,st',df',rfl,h2,h3,h3',hc',trivial,h5⟩
 | exit i =>
  cases ex<;>first | exact h4.elim | skip
  rename_i j
  have h4':i=j:=h4
  subst h4'
  simp only[A84,A34]at h5
  by_cases hi:i=id
  ·rw[if_pos hi]at h5
   simp only[Exit.inBlock,hi,if_true]
   exact⟨g',ph',.norm,st',df',rfl,h2,h3,h3',hc',trivial,h5⟩
  ·rw[if_neg hi]at h5
   simp only[Exit.inBlock,hi,if_false]
   exact⟨g',ph',.exit i,st',df',rfl,h2,h3,h3',hc',rfl,h5⟩
 | pan t=>cases ex<;>first | exact h4.elim | exact⟨g',ph',.pan t,st',df',rfl,h2,h3,h3',hc',h4,h5⟩
theorem B8m {n0:Nat} {c:Code} {Q:SX→St→Prop} (h:SWN P (Cx.zero n0) N c (fun _=>Q) () st):SWM P n0 N c Q st:=fun nn db g a df hR hd =>
 wpIn_mono (h nn db g a df trivial hR hd fun _ h=>h.elim) fun ex a' w' ⟨g',_,sx,st',df',h1,h2,h3,h4,_,h5,h6⟩=>⟨g',sx,st',df',h1,h2.toN (fun _ _ h=>h),h3,h4,h5,h6⟩
def C02 (n1:Nat) (K:SX × Φ→LR→Prop):SX × Φ→SX→St→Prop:=fun p sx st=>match sx with
 | .ret | .norm=>A65 p.1=false∧∃ L κ,Vw n1 st ⟨[],L⟩ κ∧K p L
 | .pan _=>False
 | .exit _=>False
def B80 (P:Program) (C2:Cx (SX × Φ)) (f:FuncId) (args:List T) (L:LR) (ph:SX × Φ) (K:SX × Φ→LR→Prop):Prop :=
 ∀ (g:G) (vs:List Value),C2.ok ph g→P6 g→g.M=ofL L→VTs g args vs→CallsIn Fence.wide 0 P f vs.toArray g.w fun e W' =>
  ∃ g' p L',g'.w=W'∧P6 g'∧g'.M=ofL L'∧LeA C2.A C2.n1 g g'∧C2.ok p g'∧A65 p.1=false∧(∃ v,e = .returned v)∧K p L'
theorem B35 {C2:Cx (SX × Φ)} {f:FuncId} {fn:Func} {c:Code} {args:List T} {L:LR} {p:SX × Φ} {K:SX × Φ→LR→Prop} (hf:P.funcs[f]?=some fn) (hb:fn.body=some c) (hN:fn.ntmps=N) (hres:fn.results=#[]) (hl:Nat.ble args.length N=true)
  (h:SWC P C2 N c (C02 C2.n1 K) p ⟨L8 0 args,L⟩):B80 P C2 f args L p K:=fun g vs hc hg hM hv=>by
 refine callsIn_of_wp hf hb trivial ?_ rfl
 obtain⟨s1,s2⟩:=A6y hv hl fn.ntmps hN
 refine wpIn_mono (h Fence.wide 0 Wd.wide g { tmps:=vs.toArray++Array.replicate (fn.ntmps-vs.toArray.size) undef,defers:=[] } hc ⟨hg,hM,s1,s2,rfl⟩) ?_
 rintro ex a' w' ⟨g',p',sx,st',rfl,h2,h3,h4,h5,h6⟩
 have done:(A65 p'.1=false∧∃ L1 κ,Vw C2.n1 st' ⟨[],L1⟩ κ∧K p' L1)→a'.defers=[]∧∃ v,(results fn a'.tmps).run P g'.w = .ok v g'.w∧∃ g'' p L',g''.w=g'.w∧P6 g''∧g''.M=ofL L'∧LeA C2.A C2.n1 g g''∧C2.ok p g''∧A65 p.1=false∧(∃ v',Ending.returned v = .returned v')∧K p L':=by
  rintro⟨hp,L',κ,h7,h8⟩
  obtain⟨g2,e1,e2,e3⟩:=h7.see h3
  exact⟨h3.df,.tuple #[],by simp[results,hres],g2,p',L',e1,e3.good,e3.M,h2.trans (e2.toA _),C2.stepN h4 h3.good e2,hp,⟨_,rfl⟩,h8⟩
 cases sx with
 | norm=>cases ex<;>first | exact h5.elim | exact done h6
 | ret=>cases ex<;>first | exact h5.elim | exact done h6
 | exit i=>exact h6.elim
 | pan t=>exact h6.elim
theorem B36 {C2:Cx (SX × Φ)} {f:FuncId} {fn:Func} {c:Code} {args:List T} {L:LR} {p:SX × Φ} {K:SX × Φ→LR→Prop} (hf:P.funcs[f]?=some fn) (hb:fn.body=some c) (hN:fn.ntmps=N) (hres:fn.results=#[]) (hl:Nat.ble args.length N=true)
  (h:SWN P C2 N c (C02 C2.n1 K) p ⟨L8 0 args,L⟩):B80 P C2 f args L p K:=fun g vs hc hg hM hv=>by
 refine callsIn_of_wp_marks (n:=0) hf hb trivial ?_ rfl
 obtain⟨s1,s2⟩:=A6y hv hl fn.ntmps hN
 have hR:StR g N ⟨L8 0 args,L⟩ { tmps:=vs.toArray++Array.replicate (fn.ntmps-vs.toArray.size) undef,defers:=[] } []:=⟨hg,hM,s1,s2,rfl⟩
 refine wpIn_mono (h 0 g.w.heap.size g _ [] hc hR (A72.nil (Nat.le_refl _)) (C2.lt _ _ hc)) ?_
 rintro ex a' w' ⟨g',p',sx,st',df',rfl,hle,k2,k3,hc',k4,k5⟩
 have later:∀ w2,B83 g.w.heap.size g'.K g'.w w2→StR ⟨g'.M,g'.β,g'.K,w2⟩ N st' a' df'∧LeA C2.A C2.n1 g ⟨g'.M,g'.β,g'.K,w2⟩∧C2.ok p' ⟨g'.M,g'.β,g'.K,w2⟩:=fun w2 hs=>by
  obtain⟨e1,e2⟩:=A9N k2.good hs
  refine⟨⟨e1,k2.M,k2.size,fun i=>e2 _ _ (k2.ts i),k2.df⟩,⟨hle.e,by show _≤w2.heap.size;rw[hs.size];exact hle.size,hs.os.trans hle.os,hs.tape.trans hle.tape,hs.output.trans hle.output,fun b hb hn ha=>(hs.same b (.inl hb)).trans (hle.fr b hb hn ha),hle.k,hle.k',hle.nl⟩,?_⟩
  refine C2.step (fun b=>¬ (b<g.w.heap.size∨g'.K b∨∀ o,g'.w.heap[b]?=some o→∀ x,o ≠ .deferred x)) p' g' ⟨g'.M,g'.β,g'.K,w2⟩ hc' k2.good ⟨fun n _ hn=>⟨hn,rfl⟩,by show _≤w2.heap.size;rw[hs.size];exact Nat.le_refl _,hs.os,hs.tape,hs.output,fun b _ _ hS=>hs.same b (Classical.not_not.1 hS),fun b hb=>hb,fun b _ hb => .inl hb,fun n r hn h0 _ hk=>hk n r hn h0 rfl⟩ (fun b hS hk=>hS (.inr (.inl hk))) (fun b hS ho=>hS (.inl (C2.lt _ _ hc b ho)))
 have done:(A65 p'.1=false∧∃ L1 κ,Vw C2.n1 st' ⟨[],L1⟩ κ∧K p' L1)→LeavesInM Fence.wide 0 P fn a'.tmps (fun e w'=>∃ g' p L',g'.w=w'∧P6 g'∧g'.M=ofL L'∧LeA C2.A C2.n1 g g'∧C2.ok p g'∧A65 p.1=false∧(∃ v,e = .returned v)∧K p L') a'.defers .returning g'.w:=by
  rintro⟨hp,L',κ,h7,h8⟩
  rw[k2.df]
  refine B5H (by intro h;cases h) 0 df' g'.w k3.nd (db:=g.w.heap.size) (K:=g'.K) k3.all fun w2 hs2=>?_
  obtain⟨q1,q2,q3⟩:=later w2 hs2
  obtain⟨g2,e1,e2,e3⟩:=h7.see q1
  exact⟨.tuple #[],by simp[results,hres],g2,p',L',e1,e3.good,e3.M,q2.trans (e2.toA _),C2.stepN q3 q1.good e2,hp,⟨_,rfl⟩,h8⟩
 cases sx with
 | norm=>cases ex<;>first | exact k4.elim | exact done k5
 | ret=>cases ex<;>first | exact k4.elim | exact done k5
 | exit i=>exact k5.elim
 | pan t=>exact k5.elim
theorem B2u {x:Operand} {ps:Array Tmp} {asg body:Code} {f:FuncId} {ca:List T} {ts:LT} {L:LR} (he:Ent P f) (hx:O9 ts x = .fn (.func f) [] ca) (hsc:scS ts L.length=true) (hn:Nat.ble C.n1 L.length=true)
  (h:∀ lb r,B80 P (C.nest ⟨lb,ps,asg,body,N,ts,L.length⟩ r L.length (Nat.le_of_ble_eq_true hn) (Nat.le_refl _)) f (.d (.v (.func (.yield lb) #[] #[]))::ca) L (.norm,ph) fun p L'=>Q p.2 p.1 ⟨ts,L'⟩):SWN P C N (.rangeFunc x ps asg body) Q ph ⟨ts,L⟩:=by
 intro nn db g a df hc hR hdf ho
 have hn':=Nat.le_of_ble_eq_true hn
 have hv:=A4G hR.ts x
 dsimp only at hv
 rw[hx]at hv
 obtain⟨cs,ds,hcl,hfi,hca⟩:=A8P hv (.inr rfl)
 have hcs:cs=#[]:=by have:=hfi.1;simp at this;exact Array.size_eq_zero_iff.1 this.symm
 subst hcs
 refine wpIn_rangeFunc fun fn _=>?_
 obtain⟨X,hX⟩:∃ X:JX,X=⟨g.w.heap.size+1,ps,asg,body,N,ts,L.length⟩:=⟨_,rfl⟩
 obtain⟨r,hr⟩:∃ r:JR,r=⟨fn,a.tmps,g.w.heap.size⟩:=⟨_,rfl⟩
 obtain⟨W1,hW1⟩:∃ W1,(g.w.alloc (.deferred (some []))).alloc (.loop (X.lp r .ready none))=W1:=⟨_,rfl⟩
 have hsz:W1.heap.size=g.w.heap.size+2:=by rw[← hW1];simp
 have hL1:W1.heap[g.w.heap.size+1]?=some (.loop (X.lp r .ready none)):=by
  rw[← hW1];have:=World.alloc_heap_new (g.w.alloc (.deferred (some []))) (.loop (X.lp r .ready none));rwa [World.size_alloc]at this
 have hK1:W1.heap[g.w.heap.size]?=some (.deferred (some [])):=by
  rw[← hW1];exact(Go.RowKit.Below.heap_alloc _ _ _ sM).trans (World.alloc_heap_new g.w _)
 have hlow1:∀ b,b<g.w.heap.size→W1.heap[b]?=g.w.heap[b]?:=fun b hb=>by
  rw[← hW1];exact(Go.RowKit.Below.heap_alloc _ _ _ (by simp;omega)).trans (Go.RowKit.Below.heap_alloc _ _ _ hb)
 obtain⟨g1,hg1⟩:∃ g1:G,g1=⟨g.M,g.β,g.K,W1⟩:=⟨_,rfl⟩
 have hKlt:∀ b,g.K b→b<g.w.heap.size:=hR.good.kd
 have hk1:∀ b,g.K b→g1.K b∧g1.w.heap[b]?=g.w.heap[b]?:=fun b hb=>by rw[hg1];exact⟨hb,hlow1 b (hKlt b hb)⟩
 have he1:∀ n,g.M n≠none→g1.M n≠none∧g1.β n=g.β n:=fun n hn=>by rw[hg1];exact⟨hn,rfl⟩
 have hgood1:P6 g1:=by
  refine⟨fun n r hn=>?_,fun n m r q=>?_,fun b hb=>?_,fun b hb=>?_⟩
  ·have hn':g.M n=some (some r):=by rw[hg1]at hn;exact hn
   exact(hR.good.rows n r hn').turn hk1 he1 (by rw[hg1]) (fun h0=>by rw[hg1];exact hlow1 _ ((hR.good.rows n r hn').lt h0))
  ·rw[hg1];exact hR.good.inj n m r q
  ·rw[hg1]at hb ⊢;have:=hKlt b hb;show b<W1.heap.size;omega
  ·rw[hg1]at hb ⊢;exact hR.good.kl b hb
 have hle1:LeN L.length g g1:=by
  rw[hg1]
  exact⟨fun n _ hn=>⟨hn,rfl⟩,by show _≤W1.heap.size;omega,by rw[← hW1];rfl,by rw[← hW1];rfl,by rw[← hW1];rfl,fun b hb _=>hlow1 b hb,fun b hb=>hb,fun b _ hb => .inl hb,fun n r hn h0 _ hh=>hh n r hn h0 rfl⟩
 have hbl:∀ b,¬ g.K (g.w.heap.size+b):=fun b h=>by have:=hKlt _ h;omega
 have hj1:JOk X r .norm g1:=by
  refine⟨by rw[hg1,hX];rw[hX]at hL1;exact hL1,by rw[hg1,hr];exact hK1,by rw[hg1,hX];exact hbl 1,by rw[hg1,hr];exact hbl 0,by rw[hr,hX];exact hR.size,fun i=>?_,fun i=>?_⟩
  ·rw[hX,hr];exact(hR.ts i).turn hk1 he1
  ·rw[hX];exact B5Y hsc i
 have hw1:g1.w=W1:=by rw[hg1]
 have hvs:VTs g1 (.d (.v (.func (.yield (g.w.heap.size+1)) #[] #[]))::ca) (.func (.yield (g.w.heap.size+1)) #[] #[]::ds.toList) := .cons (.d (.v _ rfl)) ⟨hca.1,fun i t c h1 h2=>(hca.2 i t c h1 h2).turn hk1 he1⟩
 have hsz0:∀ b,C.own b→b<g.w.heap.size:=fun b hb=>Nat.lt_of_lt_of_le (ho b hb) hdf.sz
 have hnn:∀ b,¬ C.own (g.w.heap.size+b):=fun b hb=>by have:=hsz0 _ hb;omega
 have hXn:X.n1≤L.length:=by rw[hX];exact Nat.le_refl _
 have hok1:(C.nest X r L.length hn' hXn).ok (.norm,ph) g1:=⟨C.stepN hc hR.good (hle1.lessN hn'),hj1,by rw[hX];exact hnn 1,by rw[hr];exact hnn 0⟩
 have hcall:=(show B80 P (C.nest X r L.length hn' hXn) f (.d (.v (.func (.yield X.l) #[] #[]))::ca) L (.norm,ph) fun p L'=>Q p.2 p.1 ⟨ts,L'⟩ by subst hX;exact h _ r) g1 _ hok1 hgood1 (by rw[hg1];exact hR.M) (by rw[hX];exact hvs)
 rw[hw1]at hcall
 refine⟨g.w.heap.size+1,[{ target := .collected g.w.heap.size,args:=#[] }],W1,{ target := .fn (.func f) ds,args:=#[.func (.yield (g.w.heap.size+1)) #[] #[]] },W1,f,
  #[.func (.yield (g.w.heap.size+1)) #[] #[]]++ds,W1,?_,?_,fun _ _=>trivial,?_,(fun h=>by cases h),?_⟩
 ·rw[← hW1,hX,hr];exact run_enterLoop_outer _ _ _ _ _
 ·simp only[resolve,hcl]
  simp[go_sem]
 ·simp[invoke,go_sem,he _ _]
 ·have e:(Value.func (.yield (g.w.heap.size+1)) #[] #[]::ds.toList).toArray=#[.func (.yield (g.w.heap.size+1)) #[] #[]]++ds:=by apply Array.ext';simp
  rw[e]at hcall
  refine((callsIn_wide (n:=nn-1)).2 (callsIn_wide.1 hcall)).mono ?_
  rintro e W2 ⟨gx,⟨ph1,φ1⟩,L',rfl,e2,e1,e3,⟨e4c,e4,_,_⟩,hp,⟨v,rfl⟩,hQ⟩
  have hXl:X.l=g.w.heap.size+1:=by rw[hX]
  have hrD:r.D=g.w.heap.size:=by rw[hr]
  have hlrec:=e4.lrec
  have hmark:=e4.mark
  have hkl:=e4.kl
  have hkD:=e4.kD
  rw[hXl]at hlrec hkl
  rw[hrD]at hmark hkD
  have e4c:C.ok φ1 gx:=e4c
  have hle3:LeA (fun b=>C.A b∨b=g.w.heap.size+1) L.length g1 gx:=hXl▸e3
  have hp:A65 ph1=false:=hp
  obtain⟨u1,u2,u3⟩:=A6D e2 (A3l e2 hlrec) hkl (.loop { X.lp r (A5v ph1) (A3p ph1)with state := .exhausted }) L.length
  have hrun:=run_endLoop (P:=P) hlrec (by cases ph1<;>simp[A5v,JX.lp,A65]at hp ⊢)
  obtain⟨g',hg'⟩:∃ g':G,g'=⟨gx.M,gx.β,gx.K,gx.w.putObj (g.w.heap.size+1) (.loop { X.lp r (A5v ph1) (A3p ph1)with state := .exhausted })⟩:=⟨_,rfl⟩
  rw[← hg']at u1 u2
  have hok':C.ok φ1 g':=C.step (·=g.w.heap.size+1) φ1 gx g' e4c e2 (u2.toA.less hn') (fun b hb hk=>hkl (hb▸hk)) (fun b hb hx=>hnn 1 (hb▸hx))
  have hleF:LeA C.A L.length g g':=(((hle1.toA (fun b=>C.A b∨b=g.w.heap.size+1)).trans hle3).trans (u2.toA.grow fun b hb => .inr hb)).drop fun b hb h=>h.elim id fun h=>by omega
  have hA:∀ b,C.A b→¬ g.K b:=fun b hb=>C.nk _ _ hc b (C.sub b hb)
  have hSt:StR g' N ⟨ts,L'⟩ { a with defers:=[{ target := .collected g.w.heap.size,args:=#[] }]++a.defers } ({ target := .collected g.w.heap.size,args:=#[] }::df) :=
   ⟨u1,by rw[hg'];exact e1,hR.size,fun i=>(hR.ts i).turn (fun b hb=>⟨hleF.k b hb,hleF.fr b (hKlt b hb) (hR.good.kl b hb) fun hx=>hA b hx hb⟩) (fun n hn=>hleF.e n (by rw[hR.M]at hn;simpa only[ofL,ne_eq,List.getElem?_eq_none_iff,Nat.not_le]using hn) hn),by simp[hR.df]⟩
  have hDf:A72 db g' ({ target := .collected g.w.heap.size,args:=#[] }::df):=by
   have hd2:=hdf.stepA hR.good hleF fun b hb=>ho b (C.sub b hb)
   refine⟨List.nodup_cons.2 ⟨fun hm=>?_,hd2.nd⟩,hd2.sz,fun d hd=>?_⟩
   ·obtain⟨D,d1,_,d3,_⟩:=hdf.all _ hm
    injection d1 with d1
    injection d1 with d1
    subst d1
    have:=(gA d3).1
    omega
   ·rcases List.mem_cons.1 hd with rfl | hd
    ·exact⟨g.w.heap.size,rfl,hdf.sz,by rw[hg'];exact(World.putObj_heap_other oM).trans hmark,by rw[hg'];exact hkD⟩
    ·exact hd2.all d hd
  have hrun':(Instr.endLoop (g.w.heap.size+1)).run P gx.w = .ok (A3p ph1) g'.w:=by rw[hg',hrun];rfl
  have hleC:=hleF.less hn'
  cases ph1 with
  | norm=>exact⟨none,g'.w,hrun',g',φ1,.norm,_,_,rfl,hleC,hSt,hDf,hok',trivial,hQ⟩
  | ret=>exact⟨some .ret,g'.w,hrun',wpIn_ret ⟨g',φ1,.ret,_,_,rfl,hleC,hSt,hDf,hok',trivial,hQ⟩⟩
  | exit i=>exact⟨some (.exit i),g'.w,hrun',wpIn_exit ⟨g',φ1,.exit i,_,_,rfl,hleC,hSt,hDf,hok',rfl,hQ⟩⟩
  | pan t=>cases hp
end
theorem A6v.map {nn:Nat} {α:Type} {w:List α} {kf:α→Value} {vf:α→D} {l l':List Rw} (q:A6v nn l l'):A6v nn (⟨0,w.map fun p => .agg [.d (.v (kf p)),.d (vf p)]⟩::l) (⟨0,w.map fun p => .agg [.d (.v (kf p)),.d (vf p)]⟩::l'):=by
 refine .cons ?_ q
 have h:=RnO.eq (σ:=fun n=>nn+n) (.map (w:=w) (kf:=kf) (vf:=vf) .nil)
 simp only[List.map_cons,List.map_nil,Option.map_some,List.cons.injEq,Option.some.injEq,and_true]at h
 exact h
inductive B4K:LR→LR→Prop where
 | nil (l:LR):B4K [] l
 | keep {x:Option Rw} {l l':LR} (h:B4K l l'):B4K (x::l) (x::l')
 | drop {x:Option Rw} {l l':LR} (h:B4K l l'):B4K (none::l) (x::l')
theorem B4K.get {l l':LR} (h:B4K l l'):∀ (n:Nat) (r:Rw),l[n]?=some (some r)→l'[n]?=some (some r):=by
 induction h with
 | nil=>intro n r h;simp at h
 | keep _ ih=>intro n r h;cases n with
  | zero=>simpa using h
  | succ n=>simpa using ih n r (by simpa using h)
 | drop _ ih=>intro n r h;cases n with
  | zero=>simp at h
  | succ n=>simpa using ih n r (by simpa using h)
inductive A8p:D→D→Prop where
 | same (x:D):A8p x x
 | nil (s:Nat):A8p (.v (.slice none 0 0)) (.arr s [])
 | agg0:A8p (.agg []) (.agg [])
 | aggc {x x':D} {l l':List D} (h:A8p x x') (q:A8p (.agg l) (.agg l')):A8p (.agg (x::l)) (.agg (x'::l'))
theorem A8p.val {g:G} {d d':D} (h:A8p d d'):∀ c,VD g d c→VD g d' c:=by
 induction h with
 | same=>exact fun _ h=>h
 | nil s =>
  intro c hv
  cases hv with | v x h=>exact .arr0 s none 0
 | agg0=>exact fun _ h=>h
 | aggc h q ih iq =>
  intro c hv
  cases hv with | agg l0 cs hl hc =>
  have hsz:cs.toList.length≠0:=by intro e;simp at e;subst e;simp at hl
  obtain⟨y,ys,hys⟩:∃ y ys,cs=(y::ys).toArray:=by
   obtain⟨l2⟩:=cs
   cases l2 with
   | nil=>simp at hsz
   | cons y ys=>exact⟨y,ys,rfl⟩
  subst hys
  have h2:=iq (.agg ys.toArray) (.agg _ _ (by simpa using hl) fun i d c h1 h2=>hc (i+1) d c (by simpa using h1) (by simpa using h2))
  cases h2 with | agg l3 cs3 hl3 hc3 =>
  refine .agg _ _ (by simpa using hl3) fun i d c h1 h2=>?_
  cases i with
  | zero =>
   simp only[List.getElem?_cons_zero,Option.some.injEq]at h1
   subst h1
   simp only[List.getElem?_toArray,List.getElem?_cons_zero,Option.some.injEq]at h2
   subst h2
   exact ih _ (hc 0 _ _ rfl rfl)
  | succ i=>exact hc3 i d c (by simpa using h1) (by simpa using h2)
theorem A8p.valT {g:G} {d d':D} (h:A8p d d') {c:Value} (hv:VT g (.d d) c):VT g (.d d') c:=by
 cases hv with | d hv=>exact .d (h.val _ hv)
inductive B08:List D→List D→Prop where
 | nil:B08 [] []
 | cons {x y:D} {l l':List D} (h:A8p x y) (q:B08 l l'):B08 (x::l) (y::l')
theorem B08.get {l l':List D} (h:B08 l l'):l.length=l'.length∧∀ (i:Nat) (y:D),l'[i]?=some y→∃ x,l[i]?=some x∧A8p x y:=by
 induction h with
 | nil=>exact⟨rfl,fun i y h=>by simp at h⟩
 | cons h _ ih =>
  refine⟨by simp[ih.1],fun i y hy=>?_⟩
  cases i with
  | zero=>simp only[List.getElem?_cons_zero,Option.some.injEq]at hy;subst hy;exact⟨_,rfl,h⟩
  | succ i=>simpa using ih.2 i y (by simpa using hy)
section
variable {P:Program} {n0 N:Nat} {Q:SX→St→Prop} {st:St}
theorem C4R (n1:Nat) {x:Operand} {ps:Array Tmp} {asg body c1:Code} {f:FuncId} {fn1:Func} {N1:Nat} {ca:List T} {ts:LT} {L:LR} (he:Ent P f) (hf:P.funcs[f]?=some fn1) (hb:fn1.body=some c1) (hN:fn1.ntmps=N1) (hres:fn1.results=#[]) (hx:O9 ts x = .fn (.func f) [] ca) (hl:Nat.ble (ca.length+1) N1=true) (h0:Nat.ble n0 n1=true) (h1:Nat.ble n1 L.length=true) (hsc:scS ts n1=true)
  (h:∀ lb,SWJ P ⟨lb,ps,asg,body,N,ts,n1⟩ N1 c1 (C0Z n1 fun ph L'=>Q ph ⟨ts,L'⟩) .norm ⟨L8 0 (.d (.v (.func (.yield lb) #[] #[]))::ca),L⟩):SWM P n0 N (.rangeFunc x ps asg body) Q ⟨ts,L⟩:=by
 intro nn db g a df hR hdf
 have h0:=Nat.le_of_ble_eq_true h0
 have h1:=Nat.le_of_ble_eq_true h1
 have hv:=A4G hR.ts x
 dsimp only at hv
 rw[hx]at hv
 obtain⟨cs,ds,hc,hfi,hca⟩:=A8P hv (.inr rfl)
 have hcs:cs=#[]:=by have:=hfi.1;simp at this;exact Array.size_eq_zero_iff.1 this.symm
 subst hcs
 refine wpIn_rangeFunc fun fn _=>?_
 obtain⟨X,hX⟩:∃ X:JX,X=⟨g.w.heap.size+1,ps,asg,body,N,ts,n1⟩:=⟨_,rfl⟩
 obtain⟨r,hr⟩:∃ r:JR,r=⟨fn,a.tmps,g.w.heap.size⟩:=⟨_,rfl⟩
 obtain⟨W1,hW1⟩:∃ W1,(g.w.alloc (.deferred (some []))).alloc (.loop (X.lp r .ready none))=W1:=⟨_,rfl⟩
 have hsz:W1.heap.size=g.w.heap.size+2:=by rw[← hW1];simp
 have hL1:W1.heap[g.w.heap.size+1]?=some (.loop (X.lp r .ready none)):=by
  rw[← hW1];have:=World.alloc_heap_new (g.w.alloc (.deferred (some []))) (.loop (X.lp r .ready none));rwa [World.size_alloc]at this
 have hK1:W1.heap[g.w.heap.size]?=some (.deferred (some [])):=by
  rw[← hW1];exact(Go.RowKit.Below.heap_alloc _ _ _ sM).trans (World.alloc_heap_new g.w _)
 have hlow1:∀ b,b<g.w.heap.size→W1.heap[b]?=g.w.heap[b]?:=fun b hb=>by
  rw[← hW1];exact(Go.RowKit.Below.heap_alloc _ _ _ (by simp;omega)).trans (Go.RowKit.Below.heap_alloc _ _ _ hb)
 obtain⟨g1,hg1⟩:∃ g1:G,g1=⟨g.M,g.β,g.K,W1⟩:=⟨_,rfl⟩
 have hKlt:∀ b,g.K b→b<g.w.heap.size:=hR.good.kd
 have hk1:∀ b,g.K b→g1.K b∧g1.w.heap[b]?=g.w.heap[b]?:=fun b hb=>by rw[hg1];exact⟨hb,hlow1 b (hKlt b hb)⟩
 have he1:∀ n,g.M n≠none→g1.M n≠none∧g1.β n=g.β n:=fun n hn=>by rw[hg1];exact⟨hn,rfl⟩
 have hgood1:P6 g1:=by
  refine⟨fun n r hn=>?_,fun n m r q=>?_,fun b hb=>?_,fun b hb=>?_⟩
  ·have hn':g.M n=some (some r):=by rw[hg1]at hn;exact hn
   exact(hR.good.rows n r hn').turn hk1 he1 (by rw[hg1]) (fun h0=>by rw[hg1];exact hlow1 _ ((hR.good.rows n r hn').lt h0))
  ·rw[hg1];exact hR.good.inj n m r q
  ·rw[hg1]at hb ⊢;have:=hKlt b hb;show b<W1.heap.size;omega
  ·rw[hg1]at hb ⊢;exact hR.good.kl b hb
 have hle1:LeN L.length g g1:=by
  rw[hg1]
  exact⟨fun n _ hn=>⟨hn,rfl⟩,by show _≤W1.heap.size;omega,by rw[← hW1];rfl,by rw[← hW1];rfl,by rw[← hW1];rfl,fun b hb _=>hlow1 b hb,fun b hb=>hb,fun b _ hb => .inl hb,fun n r hn h0 _ hh=>hh n r hn h0 rfl⟩
 have hbl:∀ b,¬ g.K (g.w.heap.size+b):=fun b h=>by have:=hKlt _ h;omega
 have hj1:JOk X r .norm g1:=by
  refine⟨by rw[hg1,hX];rw[hX]at hL1;exact hL1,by rw[hg1,hr];exact hK1,by rw[hg1,hX];exact hbl 1,by rw[hg1,hr];exact hbl 0,by rw[hr,hX];exact hR.size,fun i=>?_,fun i=>?_⟩
  ·rw[hX,hr];exact(hR.ts i).turn hk1 he1
  ·rw[hX];exact B5Y hsc i
 have hw1:g1.w=W1:=by rw[hg1]
 have hvs:VTs g1 (.d (.v (.func (.yield (g.w.heap.size+1)) #[] #[]))::ca) (.func (.yield (g.w.heap.size+1)) #[] #[]::ds.toList) := .cons (.d (.v _ rfl)) ⟨hca.1,fun i t c h1 h2=>(hca.2 i t c h1 h2).turn hk1 he1⟩
 have hcall:CallsIn Fence.wide 0 P f (Value.func (.yield (g.w.heap.size+1)) #[] #[]::ds.toList).toArray g1.w fun e W'=>∃ g' ph L',g'.w=W'∧P6 g'∧g'.M=ofL L'∧LeL X.l n1 g1 g'∧JOk X r ph g'∧((A65 ph=false∧∃ v,e = .returned v)∨∃ t v,ph = .pan t∧e = .panicked [{ v,recovered:=false }]∧VT g' t v)∧Q ph ⟨ts,L'⟩:=by
  refine callsIn_of_wp hf hb trivial ?_ rfl
  obtain⟨s1,s2⟩:=A6y hvs (N:=N1) (by simpa using hl) fn1.ntmps hN
  have:=h (g.w.heap.size+1) Fence.wide 0 Wd.wide r g1 { tmps:=(Value.func (.yield (g.w.heap.size+1)) #[] #[]::ds.toList).toArray++Array.replicate (fn1.ntmps-(Value.func (.yield (g.w.heap.size+1)) #[] #[]::ds.toList).toArray.size) undef,defers:=[] } (hX▸hj1) ⟨hgood1,by rw[hg1];exact hR.M,s1,s2,rfl⟩
  refine wpIn_mono this ?_
  rintro ex a' w' ⟨g',ph,sx,st',rfl,h2,h3,h4,h5,h6⟩
  have done:(A65 ph=false∧∃ L1 κ,Vw n1 st' ⟨[],L1⟩ κ∧Q ph ⟨ts,L1⟩)→a'.defers=[]∧∃ v,(results fn1 a'.tmps).run P g'.w = .ok v g'.w∧∃ g'' ph L',g''.w=g'.w∧P6 g''∧g''.M=ofL L'∧LeL X.l n1 g1 g''∧JOk X r ph g''∧((A65 ph=false∧∃ v',Ending.returned v = .returned v')∨∃ t v',ph = .pan t∧Ending.returned v = .panicked [{ v:=v',recovered:=false }]∧VT g'' t v')∧Q ph ⟨ts,L'⟩:=by
   rintro⟨hp,L',κ,h7,h8⟩
   obtain⟨g2,e1,e2,e3⟩:=h7.see h3
   have hj2:=h4.step h3.good e2
   exact⟨h3.df,.tuple #[],by simp[results,hres],g2,ph,L',e1,e3.good,e3.M,by rw[hX];exact h2.trans (e2.toL _),hX▸hj2,.inl ⟨hp,_,rfl⟩,h8⟩
  cases sx with
  | norm=>cases ex<;>first | exact h5.elim | exact done h6
  | ret=>cases ex<;>first | exact h5.elim | exact done h6
  | exit i=>exact h6.elim
  | pan t =>
   cases ex<;>first | exact h5.elim | skip
   obtain⟨v,rfl,hv'⟩:=h5
   obtain⟨rfl,hsc0,L',κ,h7,h8⟩:=h6
   obtain⟨g2,e1,e2,e3⟩:=h7.see h3
   have hj2:=h4.step h3.good e2
   exact⟨h3.df,g2,.pan t,L',e1,e3.good,e3.M,by rw[hX];exact h2.trans (e2.toL _),hX▸hj2,.inr ⟨t,v,rfl,rfl,hv'.turnN (k:=0) (fun b hb=>⟨e2.k b hb,e2.fr b (h3.good.kd b hb) (h3.good.kl b hb)⟩) (fun n hn=>by omega) hsc0⟩,h8⟩
 rw[hw1]at hcall
 refine⟨g.w.heap.size+1,[{ target := .collected g.w.heap.size,args:=#[] }],W1,{ target := .fn (.func f) ds,args:=#[.func (.yield (g.w.heap.size+1)) #[] #[]] },W1,f,
  #[.func (.yield (g.w.heap.size+1)) #[] #[]]++ds,W1,?_,?_,fun _ _=>trivial,?_,(fun h=>by cases h),?_⟩
 ·rw[← hW1,hX,hr];exact run_enterLoop_outer _ _ _ _ _
 ·simp only[resolve,hc]
  simp[go_sem]
 ·simp[invoke,go_sem,he _ _]
 ·have e:(Value.func (.yield (g.w.heap.size+1)) #[] #[]::ds.toList).toArray=#[.func (.yield (g.w.heap.size+1)) #[] #[]]++ds:=by apply Array.ext';simp
  rw[e]at hcall
  refine((callsIn_wide (n:=nn-1)).2 (callsIn_wide.1 hcall)).mono ?_
  rintro e W2 ⟨gx,ph,L',rfl,e2,e1,e3,e4,hend,hQ⟩
  have hXl:X.l=g.w.heap.size+1:=by rw[hX]
  have hrD:r.D=g.w.heap.size:=by rw[hr]
  have hlrec:=e4.lrec
  have hmark:=e4.mark
  have hkl:=e4.kl
  have hkD:=e4.kD
  rw[hXl]at hlrec hkl
  rw[hrD]at hmark hkD
  have hle3:LeL (g.w.heap.size+1) n1 g1 gx:=hXl▸e3
  have fin:∀ g':G,P6 g'→g'.M=ofL L'→LeL (g.w.heap.size+1) n1 gx g'→g'.w.heap[g.w.heap.size]?=some (.deferred (some []))→¬ g'.K g.w.heap.size →
    LeN n0 g g'∧StR g' N ⟨ts,L'⟩ { a with defers:=[{ target := .collected g.w.heap.size,args:=#[] }]++a.defers } ({ target := .collected g.w.heap.size,args:=#[] }::df)∧A72 db g' ({ target := .collected g.w.heap.size,args:=#[] }::df):=fun g' u1 e1' u2 m1 m2=>by
   have hle:LeN n1 g g':=(((hle1.lessN h1).toL (g.w.heap.size+1)).trans (hle3.trans u2)).toN oM
   refine⟨hle.lessN h0,⟨u1,e1',hR.size,fun i=>(hR.ts i).monoN hR.good hle (B5Y hsc i),by simp[hR.df]⟩,?_⟩
   have hd2:=hdf.stepN hR.good hle
   refine⟨List.nodup_cons.2 ⟨fun hm=>?_,hd2.nd⟩,hd2.sz,fun d hd=>?_⟩
   ·obtain⟨D,d1,_,d3,_⟩:=hdf.all _ hm
    injection d1 with d1
    injection d1 with d1
    subst d1
    have:=(gA d3).1
    omega
   ·rcases List.mem_cons.1 hd with rfl | hd
    ·exact⟨g.w.heap.size,rfl,hdf.sz,m1,m2⟩
    ·exact hd2.all d hd
  rcases hend with⟨hp,v,rfl⟩ | ⟨t,v,rfl,rfl,hv'⟩
  ·obtain⟨u1,u2,u3⟩:=A6D e2 (A3l e2 hlrec) hkl (.loop { X.lp r (A5v ph) (A3p ph)with state := .exhausted }) n1
   have hrun:=run_endLoop (P:=P) hlrec (by cases ph<;>simp[A5v,JX.lp,A65]at hp ⊢)
   obtain⟨g',hg'⟩:∃ g':G,g'=⟨gx.M,gx.β,gx.K,gx.w.putObj (g.w.heap.size+1) (.loop { X.lp r (A5v ph) (A3p ph)with state := .exhausted })⟩:=⟨_,rfl⟩
   rw[← hg']at u1 u2
   obtain⟨hl0,hSt,hDf⟩:=fin g' u1 (by rw[hg'];exact e1) u2 (by rw[hg'];exact(World.putObj_heap_other oM).trans hmark) (by rw[hg'];exact hkD)
   have hrun':(Instr.endLoop (g.w.heap.size+1)).run P gx.w = .ok (A3p ph) g'.w:=by rw[hg',hrun];rfl
   cases ph with
   | norm=>exact⟨none,g'.w,hrun',g',.norm,_,_,rfl,hl0,hSt,hDf,trivial,hQ⟩
   | ret=>exact⟨some .ret,g'.w,hrun',wpIn_ret ⟨g',.ret,_,_,rfl,hl0,hSt,hDf,trivial,hQ⟩⟩
   | exit i=>exact⟨some (.exit i),g'.w,hrun',wpIn_exit ⟨g',.exit i,_,_,rfl,hl0,hSt,hDf,rfl,hQ⟩⟩
   | pan t=>cases hp
  ·obtain⟨hl0,hSt,hDf⟩:=fin gx e2 e1 (.refl _ _ _) hmark hkD
   exact⟨gx,.pan t,_,_,rfl,hl0,hSt,hDf,⟨v,rfl,hv'⟩,hQ⟩
end
section
variable {P:Program} {N:Nat} {ops:Array Oper} {l:List Oper} {ts:LT} {L:LR} {tr:List Stp} {K:List Oper→List Stp→St→Prop} {d:Nat} {ty:TypeId} {pos:String} {af:Array Edge} {gd:Option (Nat × Bool)}
theorem C2R {x:Operand} {xs:Array Operand} {tys:Array TypeId} {f:FuncId} {us:List T} {as:List D} {t t':T} {news news':List Rw} (L2:LR) (hsub:B4K L2 L) (hc:SCR P f (as.map .d) [] t (news.map some)) (ht:t.pl=true) (hp:RwP news) (he:Ent P f) (hf:O9 ts x = .d (.v (.func (.func f) #[] #[]))) (hx:xs.toList.map (O9 ts)=us) (hlend:A5o L2 us as)
  {nn:Nat} {nr:List Nat} (hnn:A4f.drop L.length=nn::nr) (hn:A6v nn news news') (htr:t.ren (fun n=>nn+n)=t')
  (hw:I2 ops ts ⟨some d,.call { callee := .value x,args:=xs,argTypes:=tys },ty,pos,af,gd⟩=some true) (hd:Nat.blt d N=true)
  (k:L3 P N ops l ⟨(d,t')::ts,L++news'.map some⟩ (tr++[.run ((A8x L2).map (·.1)++List.range' nn news'.length) (List.range' nn news'.length)]) K) :
  L3 P N ops (⟨some d,.call { callee := .value x,args:=xs,argTypes:=tys },ty,pos,af,gd⟩::l) ⟨ts,L⟩ tr K:=by
 have e0:=A21 hnn
 subst e0
 rw[← htr,← hn.eq]at k
 refine A2i (.run hw (B7M (fresh:=L.length) rfl he (by rw[← hx];simp) hc ht hp hlend) ?_ (fun p hp=>hsub.get _ _ (A54.1 hp)) sM hd) (by simpa[St.eff,A5m,A4m]using k)
 intro p hp
 rcases List.mem_cons.1 hp with rfl | hp
 ·exact⟨hf,by simp[Op.operands,Call.operands]⟩
 ·obtain⟨a,b⟩:=A2Z hx p hp
  exact⟨a,by simp only[Op.operands,Call.operands,Array.mem_append];exact .inr (by simpa using b)⟩
theorem OpS.castO {o:Oper} {ins:List (Operand × T)} {rn:List (Nat × Rw)} {wn:List (Nat × Option Rw)} {fresh:Nat} {new:List Rw} {v v':T} (h:OpS P o ins rn wn fresh new v) (hc:∀ g c,VT g v c→VT g v' c):OpS P o ins rn wn fresh new v' :=
 fun F nn hF g a hg hi hr hn next Q k=>h F nn hF g a hg hi hr hn next Q fun g' c k1 k2 k3 k4=>k g' c k1 k2 k3 (hc _ _ k4)
theorem OpS.castI {o:Oper} {ins ins':List (Operand × T)} {rn:List (Nat × Rw)} {wn:List (Nat × Option Rw)} {fresh:Nat} {new:List Rw} {v:T} (h:OpS P o ins rn wn fresh new v) (hc:∀ g (a:Act),(∀ p∈ins',VT g p.2 (a.eval p.1))→∀ p∈ins,VT g p.2 (a.eval p.1)):OpS P o ins' rn wn fresh new v :=
 fun F nn hF g a hg hi hr hn next Q k=>h F nn hF g a hg (hc g a hi) hr hn next Q k
theorem C7u {t:TypeId} {i:TI} {x:Operand} {n s q c:Nat} {r:Rw} {e:T} {y y':D} (hy:A8p y y') (tb:Tab P) (ht:tb.f t=some i) (hx:O9 ts x = .ref n s q c) (hr:L[n]?=some (some r)) (hs:r.s=s) (he:r.els[q]?=some e) (hp:A2S i e.cells.length c=true) (hv:A29 i e.cells c = .d y) (hw:I2 ops ts ⟨some d,.load t x,ty,pos,af,gd⟩=some true) (hd:Nat.blt d N=true) (kk:L3 P N ops l ⟨(d,.d y')::ts,L⟩ (tr++[.run (List.map Prod.fst ([(n,r)]:List (Nat × Rw))) []]) K):L3 P N ops (⟨some d,.load t x,ty,pos,af,gd⟩::l) ⟨ts,L⟩ tr K :=
 K0 (ins:=[(x,.ref n s q c)]) rfl ((show OpS P _ _ _ _ _ _ (.d y)from hv▸B0W rfl (tb.ok _ _ ht) hs he hp).castO fun _ _=>hy.valT) hw (by simp[Op.operands,hx]) (by simp[hr]) hd kk
theorem C3m {x:Operand} {xs:Array Operand} {tys:Array TypeId} {f:FuncId} {us as:List D} {y:D} (hcast:B08 us as) (hc:PC P f as y) (he:Ent P f) (hf:O9 ts x = .d (.v (.func (.func f) #[] #[]))) (hx:xs.toList.map (O9 ts)=us.map .d)
  (hw:I2 ops ts ⟨some d,.call { callee := .value x,args:=xs,argTypes:=tys },ty,pos,af,gd⟩=some true) (hd:Nat.blt d N=true) (k:L3 P N ops l ⟨(d,.d y)::ts,L⟩ (tr++[.run [] []]) K) :
  L3 P N ops (⟨some d,.call { callee := .value x,args:=xs,argTypes:=tys },ty,pos,af,gd⟩::l) ⟨ts,L⟩ tr K:=by
 have hro:A5n (kap []) (as.map .d)=as.map .d:=by rw[A1Z];simp[T.ren]
 obtain⟨hl,hg⟩:=hcast.get
 have hlx:xs.toList.length=us.length:=by have:=congrArg List.length hx;simpa using this
 refine K0 rfl ((B2O (P:=P) (fresh:=L.length) (ρ:=[]) (rs:=[]) (ls:=[]) (news:=[]) (fi:=[]) (ca:=[]) (as:=as.map .d) (ts:=as.map .d) rfl he (.inl ⟨rfl,rfl,rfl⟩) (by rw[List.length_map,← hl,hlx]) hc ?_ ?_ sM rfl rfl sM sM).castI (ins':=(x,.d (.v (.func (.func f) #[] #[])))::xs.toList.zip (us.map .d)) fun g a hi p hp=>?_) hw ?_ (by simp[A5T]) hd (by simpa[A5T,T.ren]using k)
 ·rw[hro];simp
 ·rw[A3m];simp[T.sc]
 ·rcases List.mem_cons.1 hp with rfl | hp
  ·exact hi _ sM
  ·obtain⟨i,hi'⟩:=List.getElem?_of_mem hp
   rw[List.getElem?_zip_eq_some]at hi'
   obtain⟨h1,h2⟩:=hi'
   rw[gM,Option.map_eq_some_iff]at h2
   obtain⟨y',hy',e⟩:=h2
   obtain⟨x',hx',hcd⟩:=hg i y' hy'
   rw[← e]
   refine hcd.valT (hi (p.1,.d x') (List.mem_cons_of_mem _ (iM (i:=i) ?_)))
   rw[List.getElem?_zip_eq_some]
   exact⟨h1,by rw[gM,hx'];rfl⟩
 ·intro p hp
  rcases List.mem_cons.1 hp with rfl | hp
  ·exact⟨hf,by simp[Op.operands,Call.operands]⟩
  ·obtain⟨a,b⟩:=A2Z hx p hp
   exact⟨a,by simp only[Op.operands,Call.operands,Array.mem_append];exact .inr (by simpa using b)⟩
end
section
variable {P:Program} {N:Nat} {ops:Array Oper} {l:List Oper} {ts:LT} {L:LR} {tr:List Stp} {K:List Oper→List Stp→St→Prop} {d:Nat} {ty:TypeId} {pos:String} {af:Array Edge} {gd:Option (Nat × Bool)}
theorem O1 {t1 t2:TypeId} {x y:Operand} {k:IntKind} {a b:Int}  (hh:(O9 ts x,O9 ts y,I2 ops ts ⟨some d,.binOp .add t1 x y t2,ty,pos,af,gd⟩,Nat.blt d N)=(.d (.v (.int k a)),.d (.v (.int k b)),some true,true)) (kk:L3 P N ops l ⟨(d,.d (.v (.int k (k.wrap (a+b)))))::ts,L⟩ (tr++[.run (List.map Prod.fst ([]:List (Nat × Rw))) []]) K):L3 P N ops (⟨some d,.binOp .add t1 x y t2,ty,pos,af,gd⟩::l) ⟨ts,L⟩ tr K :=
 C08 (congrArg (fun p=>p.1) hh) (congrArg (fun p=>p.2.1) hh) (congrArg (fun p=>p.2.2.1) hh) (congrArg (fun p=>p.2.2.2) hh) kk
theorem A3 {x:Operand} {y:D}  (hh:(O9 ts x,I2 ops ts ⟨some d,.assign x,ty,pos,af,gd⟩,Nat.blt d N)=(.d y,some true,true)) (kk:L3 P N ops l ⟨(d,.d y)::ts,L⟩ (tr++[.run (List.map Prod.fst ([]:List (Nat × Rw))) []]) K):L3 P N ops (⟨some d,.assign x,ty,pos,af,gd⟩::l) ⟨ts,L⟩ tr K :=
 B9V (congrArg (fun p=>p.1) hh) (congrArg (fun p=>p.2.1) hh) (congrArg (fun p=>p.2.2) hh) kk
theorem M9 {t:TypeId} {x:Operand} {u:T} {s:Nat} {nr2:List Nat} {n:Nat} {nr:List Nat}  (hh:(O9 ts x,A4f.drop u.cells.length,A4y u.cells,Nat.beq s 0,A4f.drop L.length,I2 ops ts ⟨some d,.box t x,ty,pos,af,gd⟩,Nat.blt d N)=(u,s::nr2,true,false,n::nr,some true,true)) (kk:L3 P N ops l ⟨(d,.ref n s 0 0)::ts,L++[some ⟨s,[u]⟩]⟩ (tr++[.run (List.map Prod.fst ([]:List (Nat × Rw))++[n]) [n]]) K):L3 P N ops (⟨some d,.box t x,ty,pos,af,gd⟩::l) ⟨ts,L⟩ tr K :=
 C09 (congrArg (fun p=>p.1) hh) (congrArg (fun p=>p.2.1) hh) (congrArg (fun p=>p.2.2.1) hh) (congrArg (fun p=>p.2.2.2.1) hh) (congrArg (fun p=>p.2.2.2.2.1) hh) (congrArg (fun p=>p.2.2.2.2.2.1) hh) (congrArg (fun p=>p.2.2.2.2.2.2) hh) kk
theorem C8 {t:TypeId} {i:TI} {x:Operand} {n s q c f m:Nat} {b:Bool} {c':Nat} {o2:Nat} {nr:List Nat} (tb:Tab P) (hh:(tb.f t,O9 ts x,i.fs[f]?,Nat.beq m 0,A4f.drop (c+c'),I2 ops ts ⟨some d,.fieldAddr t x f,ty,pos,af,gd⟩,Nat.blt d N)=(some i,.ref n s q c,some (c',b,m),false,o2::nr,some true,true)) (kk:L3 P N ops l ⟨(d,.ref n s q o2)::ts,L⟩ (tr++[.run (List.map Prod.fst ([]:List (Nat × Rw))) []]) K):L3 P N ops (⟨some d,.fieldAddr t x f,ty,pos,af,gd⟩::l) ⟨ts,L⟩ tr K :=
 C1b tb (congrArg (fun p=>p.1) hh) (congrArg (fun p=>p.2.1) hh) (congrArg (fun p=>p.2.2.1) hh) (congrArg (fun p=>p.2.2.2.1) hh) (congrArg (fun p=>p.2.2.2.2.1) hh) (congrArg (fun p=>p.2.2.2.2.2.1) hh) (congrArg (fun p=>p.2.2.2.2.2.2) hh) kk
theorem M4 {t:TypeId} {i:TI} {x:Operand} {s q c f m:Nat} {w:List D} {b:Bool} {c':Nat} {o2:Nat} {nr:List Nat} (tb:Tab P) (hh:(tb.f t,O9 ts x,i.fs[f]?,Nat.beq m 0,A4f.drop (c+c'),I2 ops ts ⟨some d,.fieldAddr t x f,ty,pos,af,gd⟩,Nat.blt d N)=(some i,.d (.el s w q c),some (c',b,m),false,o2::nr,some true,true)) (kk:L3 P N ops l ⟨(d,.d (.el s w q o2))::ts,L⟩ (tr++[.run (List.map Prod.fst ([]:List (Nat × Rw))) []]) K):L3 P N ops (⟨some d,.fieldAddr t x f,ty,pos,af,gd⟩::l) ⟨ts,L⟩ tr K :=
 C0C tb (congrArg (fun p=>p.1) hh) (congrArg (fun p=>p.2.1) hh) (congrArg (fun p=>p.2.2.1) hh) (congrArg (fun p=>p.2.2.2.1) hh) (congrArg (fun p=>p.2.2.2.2.1) hh) (congrArg (fun p=>p.2.2.2.2.2.1) hh) (congrArg (fun p=>p.2.2.2.2.2.2) hh) kk
theorem N8 {t e:TypeId} {i ei:TI} {x y:Operand} {s:Nat} {w:List D} {k:IntKind} {q:Int} (tb:Tab P) (h0:0≤q) (h1:q<w.length) (hh:(tb.f t,i.sl,tb.f e,O9 ts x,ei.size,O9 ts y,I2 ops ts ⟨some d,.indexAddr t x y,ty,pos,af,gd⟩,Nat.blt d N)=(some i,some e,some ei,.d (.arr s w),s,.d (.v (.int k q)),some true,true)) (kk:L3 P N ops l ⟨(d,.d (.el s w q.toNat 0))::ts,L⟩ (tr++[.run (List.map Prod.fst ([]:List (Nat × Rw))) []]) K):L3 P N ops (⟨some d,.indexAddr t x y,ty,pos,af,gd⟩::l) ⟨ts,L⟩ tr K :=
 C0E tb (congrArg (fun p=>p.1) hh) (congrArg (fun p=>p.2.1) hh) (congrArg (fun p=>p.2.2.1) hh) (congrArg (fun p=>p.2.2.2.1) hh) (congrArg (fun p=>p.2.2.2.2.1) hh) (congrArg (fun p=>p.2.2.2.2.2.1) hh) h0 h1 (congrArg (fun p=>p.2.2.2.2.2.2.1) hh) (congrArg (fun p=>p.2.2.2.2.2.2.2) hh) kk
theorem B5 {t:TypeId} {i:TI} {x:Operand} {n s q c:Nat} {r:Rw} {e:T} {y:D} (tb:Tab P) (hh:(tb.f t,O9 ts x,L[n]?,r.s,r.els[q]?,A2S i e.cells.length c,A29 i e.cells c,I2 ops ts ⟨some d,.load t x,ty,pos,af,gd⟩,Nat.blt d N)=(some i,.ref n s q c,some (some r),s,some e,true,.d y,some true,true)) (kk:L3 P N ops l ⟨(d,.d y)::ts,L⟩ (tr++[.run (List.map Prod.fst ([(n,r)]:List (Nat × Rw))) []]) K):L3 P N ops (⟨some d,.load t x,ty,pos,af,gd⟩::l) ⟨ts,L⟩ tr K :=
 A15 tb (congrArg (fun p=>p.1) hh) (congrArg (fun p=>p.2.1) hh) (congrArg (fun p=>p.2.2.1) hh) (congrArg (fun p=>p.2.2.2.1) hh) (congrArg (fun p=>p.2.2.2.2.1) hh) (congrArg (fun p=>p.2.2.2.2.2.1) hh) (congrArg (fun p=>p.2.2.2.2.2.2.1) hh) (congrArg (fun p=>p.2.2.2.2.2.2.2.1) hh) (congrArg (fun p=>p.2.2.2.2.2.2.2.2) hh) kk
theorem I4 {t:TypeId} {i:TI} {x:Operand} {s q c:Nat} {w:List D} {e y:D} (tb:Tab P) (he:w[q]?=some e) (hh:(tb.f t,O9 ts x,A2S i e.cells.length c,A29 i (e.cells.map .d) c,I2 ops ts ⟨some d,.load t x,ty,pos,af,gd⟩,Nat.blt d N)=(some i,.d (.el s w q c),true,.d y,some true,true)) (kk:L3 P N ops l ⟨(d,.d y)::ts,L⟩ (tr++[.run (List.map Prod.fst ([]:List (Nat × Rw))) []]) K):L3 P N ops (⟨some d,.load t x,ty,pos,af,gd⟩::l) ⟨ts,L⟩ tr K :=
 C0G tb (congrArg (fun p=>p.1) hh) (congrArg (fun p=>p.2.1) hh) he (congrArg (fun p=>p.2.2.1) hh) (congrArg (fun p=>p.2.2.2.1) hh) (congrArg (fun p=>p.2.2.2.2.1) hh) (congrArg (fun p=>p.2.2.2.2.2) hh) kk
theorem I7 {α:Type} {t e:TypeId} {i:TI} {x:Operand} {s:Nat} {w:List α} {g:α→D} (tb:Tab P) (hh:(tb.f t,i.sl,O9 ts x,I2 ops ts ⟨some d,.call { callee := .builtin .len,args:=#[x],argTypes:=#[t] },ty,pos,af,gd⟩,Nat.blt d N)=(some i,some e,.d (.arr s (w.map g)),some true,true)) (kk:L3 P N ops l ⟨(d,.d (.v (.int .i64 (w.length:Nat))))::ts,L⟩ (tr++[.run (List.map Prod.fst ([]:List (Nat × Rw))) []]) K):L3 P N ops (⟨some d,.call { callee := .builtin .len,args:=#[x],argTypes:=#[t] },ty,pos,af,gd⟩::l) ⟨ts,L⟩ tr K :=
 B9X tb (congrArg (fun p=>p.1) hh) (congrArg (fun p=>p.2.1) hh) (congrArg (fun p=>p.2.2.1) hh) (congrArg (fun p=>p.2.2.2.1) hh) (congrArg (fun p=>p.2.2.2.2) hh) kk
theorem A0 {x:Operand} {y:D}  (hh:(O9 ts x,I2 ops ts ⟨some d,.move x,ty,pos,af,gd⟩,Nat.blt d N)=(.d y,some true,true)) (kk:L3 P N ops l ⟨(d,.d y)::ts,L⟩ (tr++[.run (List.map Prod.fst ([]:List (Nat × Rw))) []]) K):L3 P N ops (⟨some d,.move x,ty,pos,af,gd⟩::l) ⟨ts,L⟩ tr K :=
 C0a (congrArg (fun p=>p.1) hh) (congrArg (fun p=>p.2.1) hh) (congrArg (fun p=>p.2.2) hh) kk
theorem D0 {c x y:Operand} {t:D}  (hh:(O9 ts c,O9 ts y,I2 ops ts ⟨some d,.pick c x y,ty,pos,af,gd⟩,Nat.blt d N)=(.d (.v (.bool false)),.d t,some true,true)) (kk:L3 P N ops l ⟨(d,.d t)::ts,L⟩ (tr++[.run (List.map Prod.fst ([]:List (Nat × Rw))) []]) K):L3 P N ops (⟨some d,.pick c x y,ty,pos,af,gd⟩::l) ⟨ts,L⟩ tr K :=
 B9e (congrArg (fun p=>p.1) hh) (congrArg (fun p=>p.2.1) hh) (congrArg (fun p=>p.2.2.1) hh) (congrArg (fun p=>p.2.2.2) hh) kk
theorem D6 {c x y:Operand} {t:D}  (hh:(O9 ts c,O9 ts x,I2 ops ts ⟨some d,.pick c x y,ty,pos,af,gd⟩,Nat.blt d N)=(.d (.v (.bool true)),.d t,some true,true)) (kk:L3 P N ops l ⟨(d,.d t)::ts,L⟩ (tr++[.run (List.map Prod.fst ([]:List (Nat × Rw))) []]) K):L3 P N ops (⟨some d,.pick c x y,ty,pos,af,gd⟩::l) ⟨ts,L⟩ tr K :=
 B9f (congrArg (fun p=>p.1) hh) (congrArg (fun p=>p.2.1) hh) (congrArg (fun p=>p.2.2.1) hh) (congrArg (fun p=>p.2.2.2) hh) kk
theorem B3b {o:Oper}  (hh:(I2 ops ts o,o.dst,Nat.blt d N)=(some false,some d,true)) (k:L3 P N ops l ⟨(d,.d (.tup []))::ts,L⟩ (tr++[.skip]) K):L3 P N ops (o::l) ⟨ts,L⟩ tr K :=
 B8d (congrArg (fun p=>p.1) hh) (congrArg (fun p=>p.2.1) hh) (congrArg (fun p=>p.2.2) hh) k
theorem I6 {t:TypeId} {i:TI} {x y:Operand} {n s q c:Nat} {r:Rw} {e u:T} (r':Rw) (L':LR) (tb:Tab P) (hh:(tb.f t,O9 ts x,O9 ts y,L[n]?,r.s,r.els[q]?,u.cells.length,A4y u.cells,Nat.ble (c+i.size) e.cells.length,(⟨r.s,r.els.set q (A9t e c u)⟩:Rw),L.set n (some r'),I2 ops ts ⟨none,.store t x y,ty,pos,af,gd⟩)=(some i,.ref n s q c,u,some (some r),s,some e,i.size,true,true,r',L',some true)) (k:L3 P N ops l ⟨ts,L'⟩ (tr++[.run [n] [n]]) K):L3 P N ops (⟨none,.store t x y,ty,pos,af,gd⟩::l) ⟨ts,L⟩ tr K :=
 C0M r' L' tb (congrArg (fun p=>p.1) hh) (congrArg (fun p=>p.2.1) hh) (congrArg (fun p=>p.2.2.1) hh) (congrArg (fun p=>p.2.2.2.1) hh) (congrArg (fun p=>p.2.2.2.2.1) hh) (congrArg (fun p=>p.2.2.2.2.2.1) hh) (congrArg (fun p=>p.2.2.2.2.2.2.1) hh) (congrArg (fun p=>p.2.2.2.2.2.2.2.1) hh) (congrArg (fun p=>p.2.2.2.2.2.2.2.2.1) hh) (congrArg (fun p=>p.2.2.2.2.2.2.2.2.2.1) hh) (congrArg (fun p=>p.2.2.2.2.2.2.2.2.2.2.1) hh) (congrArg (fun p=>p.2.2.2.2.2.2.2.2.2.2.2) hh) k
def skN (ops:Array Oper) (N:Nat):Nat→List Oper→LT→Option (List Oper × LT)
 | 0,l,ts=>some (l,ts)
 | _+1,[],_=>none
 | n+1,o::l,ts=>match I2 ops ts o,o.dst with
   | some false,some d=>bif Nat.blt d N then skN ops N n l ((d,.d (.tup []))::ts)else none
   | _,_=>none
def skT:Nat→List Stp→List Stp
 | 0,tr=>tr
 | n+1,tr=>skT n (tr++[.skip])
theorem L9:∀ (n:Nat) {l l':List Oper} {ts ts':LT} {tr:List Stp} (_:skN ops N n l ts=some (l',ts')) (_:L3 P N ops l' ⟨ts',L⟩ (skT n tr) K),L3 P N ops l ⟨ts,L⟩ tr K
 | 0,l,l',ts,ts',tr,h,k=>by cases h;exact k
 | n+1,[],l',ts,ts',tr,h,k=>by cases h
 | n+1,o::l,l',ts,ts',tr,h,k=>by
  rw[skN]at h
  split at h
  ·rename_i d hw ho
   cases hb:Nat.blt d N with
   | false=>rw[hb]at h;cases h
   | true=>rw[hb]at h;exact B8d hw ho hb (L9 n h k)
  ·cases h
theorem B8r {κ:List Nat}:∀ {ts':LT},(ts'.map fun p=>W8 ts p.1)=(ts'.map fun p=>p.2.ren (kap κ))→(ts'.all fun p=>p.2.sc κ.length)=true→TsK ts κ ts'
 | [],_,_ => .nil
 | (i,t)::r,h,c=>by
  rw[List.map_cons,List.map_cons]at h
  rw[List.all_cons,Bool.and_eq_true]at c
  exact .cons (List.cons.inj h).1 c.1 (B8r (List.cons.inj h).2 c.2)
theorem vK {n0:Nat} {ts ts':LT} {L L':LR} {κ:List Nat} (hr:RwK L κ L' κ) (hh:(ndK κ,B33 n0 κ,(ts'.map fun p=>W8 ts p.1),ts'.all fun p=>p.2.sc κ.length)=(true,true,(ts'.map fun p=>p.2.ren (kap κ)),true)):Vw n0 ⟨ts,L⟩ ⟨ts',L'⟩ κ :=
 vwK (congrArg (fun p=>p.1) hh) (congrArg (fun p=>p.2.1) hh) hr (B8r (congrArg (fun p=>p.2.2.1) hh) (congrArg (fun p=>p.2.2.2) hh))
theorem v0 {n0:Nat} {ts ts':LT} {L:LR} (hh:(ndK [],B33 n0 [],(ts'.map fun p=>W8 ts p.1),ts'.all fun p=>p.2.sc 0)=(true,true,(ts'.map fun p=>p.2.ren (kap [])),true)):Vw n0 ⟨ts,L⟩ ⟨ts',[]⟩ []:=vK .nil hh
theorem f1 {P:Program} {fn:Func} {n0:Nat} {st:St} {y:T} (k:Nat) (hh:(Nat.beq n0 0,fn.results.toList,y.sc 0,W8 st.ts k)=(true,[.tmp k],true,y.ren (kap []))):Fin P fn n0 (fun se L'=>se = .ret y∧L'=[]) .ret st:=by
 have h0:Nat.beq n0 0=true:=congrArg (fun p=>p.1) hh
 obtain rfl:=Nat.eq_of_beq_eq_true h0
 exact U0 (t:=y) (L:=[]) (κ:=[]) (congrArg (fun p=>p.2.1) hh) (.cons (.tmp k) .nil) (vwK rfl rfl .nil (.cons (congrArg (fun p=>p.2.2.2) hh) (congrArg (fun p=>p.2.2.1) hh) .nil)) ⟨rfl,rfl⟩
theorem f2 {P:Program} {fn:Func} {n0:Nat} {st:St} {y:T} {Lf:LR} {rs:List ResultVar} {us:List T} (κ:List Nat) (hr:RwK st.L κ Lf κ) (hs:fn.results.toList=rs) (h:A8t P st rs us) (hh:(ndK κ,B33 n0 κ,B51 us,y.sc κ.length)=(true,true,y.ren (kap κ),true)):Fin P fn n0 (fun se L'=>se = .ret y∧L'=Lf) .ret st :=
 U0 (t:=y) (L:=Lf) (κ:=κ) hs h (vwK (congrArg (fun p=>p.1) hh) (congrArg (fun p=>p.2.1) hh) hr (.cons (congrArg (fun p=>p.2.2.1) hh) (congrArg (fun p=>p.2.2.2) hh) .nil)) ⟨rfl,rfl⟩
theorem rc {P:Program} {st:St} {a:Nat} {t:TypeId} {i:TI} {n s k c:Nat} {r:Rw} {e:T} (tb:Tab P) (hh:(tb.f t,W8 st.ts a,st.L[n]?,r.s,r.els[k]?,A2S i e.cells.length c)=(some i,.ref n s k c,some (some r),s,some e,true)):B7g P st (.cell a t) (A29 i e.cells c) :=
 A6F tb (congrArg (fun p=>p.1) hh) (congrArg (fun p=>p.2.1) hh) (congrArg (fun p=>p.2.2.1) hh) (congrArg (fun p=>p.2.2.2.1) hh) (congrArg (fun p=>p.2.2.2.2.1) hh) (congrArg (fun p=>p.2.2.2.2.2) hh) rfl
end
end Go.Proofs.YtlaogbbcipebgaaGreat.Sh
