/- Maps of numbers: a literal's elements, a lookup that says whether the key is there. Over whatever program. -/
import Derived.Test.YtlaogbbcipebgaaGreatSa23
import Derived.Laws.CopyRow
namespace Go.Proofs.YtlaogbbcipebgaaGreat.Sh
set_option linter.unusedVariables false
set_option linter.unusedSimpArgs false
open Go
theorem B52 {c:Value} (n:Nat):(Builtin.zeroCells #[c] n).toList=List.replicate n c:=by
 unfold Builtin.zeroCells
 apply List.ext_getElem?
 intro i
 simp only[Array.toList_map,Array.toList_range,List.getElem?_map,List.getElem?_replicate,List.size_toArray,List.length_cons,List.length_nil,Nat.zero_add,Nat.mul_one]
 by_cases h:i<n
 ·rw[List.getElem?_range h,if_pos h];simp[Nat.mod_one]
 ·rw[if_neg h,List.getElem?_eq_none (by simpa using h)];rfl
theorem B1I {P:Program} (w:World) (t ty elem:TypeId) (g n c:Nat) (cur:Array Value) (et:TypeId) (zv c0:Value) (hu:P.underlying t=some (.slice elem)) (hz:(zeroValue elem).run P w = .ok zv w) (hzc:zv.cells=#[c0]) (hg:w.heap[g]?=some (.cells cur et (0,0))) (hfit:n+1≤cur.size) (h1:c0.oneCell'=true) :
 (Builtin.clear_ #[t] ty #[.slice (some ⟨g,0,none⟩) (n+1) c]).run P w = .ok (.tuple #[]) (w.setRow g (List.replicate (n+1) c0++cur.toList.drop (n+1)).toArray):=by
 have hst:=run_storeCells_at P g 0 et (List.replicate (n+1) c0) 0 cur w hg (by simpa using hfit) (fun v hv=>by rw[(List.mem_replicate.1 hv).2];exact h1)
 simp only[List.length_replicate,Nat.zero_add,List.take_zero,List.nil_append]at hst
 simp[Builtin.clear_,run_underlying hu,hz,hzc,B52,hst]
def B6t {α:Type} (w:List α) (a0:α):Option (List α):=some (List.replicate w.length a0)
theorem B5B {α:Type} {w q:List α} {a0:α} (h:B6t w a0=some q):w.length=q.length:=by
 injection h with h
 rw[← h,List.length_replicate]
section
variable {P:Program} {o:Oper} {fresh:Nat}
theorem B8Q {t e:TypeId} {i ei:TI} {x:Operand} {n len:Nat} {r:Rw} {c0:Value} (hop:o.op = .call { callee := .builtin .clear,args:=#[x],argTypes:=#[t] }) (ht:TOk P t i) (hsl:i.sl=some e) (he:TOk P e ei) (hz0:ei.z = .d (.v c0)) (hc:c0.cells=#[c0]) (h1:c0.oneCell'=true) (ho:one c0) (hs':r.s=1) (hle:len=r.els.length) :
  OpS P o [(x,.row n 1 0 len)] [(n,r)] [(n,some ⟨1,List.replicate len (.d (.v c0))⟩)] fresh [] (.d (.tup [])) :=
 .of_run (fun c h=>by rw[hop]at h;cases h) fun g a hg hi hr _=>by
  obtain⟨info,zv,hinf,hz,hsz,hby,hzs,hzo,hzl,hz1⟩:=he.info
  have hx:=hi (x,.row n 1 0 len) (by simp)
  have hnM:=hr (n,r) (by simp)
  dsimp only at hx hnM
  generalize hxv:a.eval x=xv at hx
  cases hx with | row _ _ _ _ a0 hnn hs0 hcap ha =>
  have hzv:(zeroValue e).run P g.w = .ok zv g.w:=by simp[zeroValue,typeInfo,hinf,hz]
  have hzc:zv=c0:=by
   have:=VT.ofV g zv
   rw[← hzo,hz0]at this
   exact this.v_eq
  subst hzc
  cases hl:len with
  | zero =>
   subst hl
   have hrun:(Builtin.clear_ #[t] o.type #[.slice a0 0 ((g.β n).2-0)]).run P g.w = .ok (.tuple #[]) g.w:=by
    cases a0<;>simp[Builtin.clear_,run_underlying (ht.slice hsl)]
   refine⟨.tuple #[],g,.inl ?_,hg,.refl g,?_,.d (.tup _ _ rfl (fun i d c h=>by simp at h))⟩
   ·rw[Nat.sub_zero]at hrun hxv
    simp[execOp,hop,resolve,invoke,builtin,hxv,hrun]
   ·rw[← A8h]
    have e:(⟨1,List.replicate 0 (.d (.v zv))⟩:Rw)=r:=by
     cases r;simp at hs';subst hs'
     rename_i els
     cases els with
     | nil=>rfl
     | cons _ _=>simp at hle
    rw[e]
    funext k
    by_cases hk:k=n
    ·subst hk;simpa using hnM
    ·simp[hk]
  | succ m =>
   subst hl
   have hc0:¬ (g.β n).2=0:=by omega
   have ha:=ha hc0
   subst ha
   obtain⟨cells,ety,hh,hcz,hel,hrow⟩:B7i g n r:=by
    rcases hg.rows n r hnM with⟨h1,_⟩ | ⟨_,h1⟩ | ⟨h1,_⟩
    ·exact absurd h1 hc0
    ·exact h1
    ·omega
   rw[hs',Nat.mul_one]at hcz
   have hrun:=B1I (P:=P) g.w t o.type e (g.β n).1 m ((g.β n).2-0) cells ety zv zv (ht.slice hsl) hzv hc hh (by omega) h1
   obtain⟨cells',hc'⟩:∃ c:Array Value,(List.replicate (m+1) zv++cells.toList.drop (m+1)).toArray=c:=⟨_,rfl⟩
   rw[hc']at hrun
   have hcl:cells'.size=(g.β n).2*1:=by
    rw[← hc'];simp only[List.size_toArray,List.length_append,List.length_replicate,List.length_drop,Array.length_toList];omega
   obtain⟨hG,hL⟩:=P6.put hg hnM hc0 hh (cells:=cells') (r':=⟨1,List.replicate (m+1) (.d (.v zv))⟩) (by simp) hcl (by simp only[List.length_replicate];omega) (by
    intro q z hq
    dsimp only at hq
    have hlt:=(List.getElem?_eq_some_iff.1 hq).1
    rw[List.length_replicate]at hlt
    rw[List.getElem?_replicate,if_pos hlt]at hq
    injection hq with hq
    subst hq
    refine⟨rfl,fun j y hy=>?_⟩
    have hj:=(List.getElem?_eq_some_iff.1 hy).1
    have hj0:j=0:=by simpa[T.cells]using hj
    subst hj0
    have hyy:y = .d (.v zv):=by simpa[T.cells]using hy.symm
    subst hyy
    refine⟨zv,?_,.d (.v _ ho)⟩
    rw[← hc',List.getElem?_toArray,Nat.mul_one,List.getElem?_append_left (by simpa using hlt),List.getElem?_replicate,if_pos (by simpa using hlt)])
   refine⟨.tuple #[],_,.inl ?_,hG,hL,A8h g.M n _ fresh,.d (.tup _ _ rfl (fun i d c h=>by simp at h))⟩
   rw[Nat.sub_zero]at hrun hxv
   simp only[Nat.zero_mul]at hxv
   simp[execOp,hop,resolve,invoke,builtin,hxv,hrun,G.put]
end
section
variable {P:Program} {N:Nat} {ops:Array Oper} {l:List Oper} {ts:List (Nat × T)} {L:List (Option Rw)} {tr:List Stp} {K:List Oper→List Stp→St→Prop} {d:Nat} {ty:TypeId} {pos:String} {af:Array Edge} {gd:Option (Nat × Bool)}
theorem A8E {t e kt:TypeId} {x y z:Operand} {n:Nat} {β:Type} {vf:β→D} {m q:List (Int × β)} {k:Int} {v:β} (L':List (Option Rw)) (ht:P.underlying t=some (.map kt e)) (hk:P.underlying kt=some (.int .i64)) (hx:O9 ts x = .mp n) (hy:O9 ts y = .d (.v (.int .i64 k))) (hz:O9 ts z = .d (vf v)) (hr:L[n]?=some (some ⟨0,m.map fun p => .agg [.d (.v (.int .i64 p.1)),.d (vf p.2)]⟩)) (hq:M0 m k v=q) (hL:L.set n (some ⟨0,q.map fun p => .agg [.d (.v (.int .i64 p.1)),.d (vf p.2)]⟩)=L')
  (hw:I2 ops ts ⟨none,.insert t x y z,ty,pos,af,gd⟩=some true)
  (kk:L3 P N ops l ⟨ts,L'⟩ (tr++[.run [n] [n]]) K):L3 P N ops (⟨none,.insert t x y z,ty,pos,af,gd⟩::l) ⟨ts,L⟩ tr K:=by
 subst hq hL
 refine A2i (.run hw (B0X (kv:=fun a:Int => .int .i64 a) (vf:=vf) (m:=m) (k:=k) (v:=v) (n:=n) (fresh:=L.length) (.inr rfl) ht (.int hk)) ?_ ?_ ?_ rfl) ?_
 ·intro p hp
  simp only[List.mem_cons,List.not_mem_nil,or_false]at hp
  rcases hp with rfl | rfl | rfl
  ·exact⟨hx,by simp[Op.operands]⟩
  ·exact⟨hy,by simp[Op.operands]⟩
  ·exact⟨hz,by simp[Op.operands]⟩
 ·intro p hp;simp only[List.mem_cons,List.not_mem_nil,or_false]at hp;subst hp;exact hr
 ·intro p hp;simp only[List.mem_cons,List.not_mem_nil,or_false]at hp;subst hp;exact⟨_,List.mem_singleton.2 rfl,rfl⟩
 ·simpa[St.eff,A5m,A4m,A7d]using kk
theorem C0H {t e kt:TypeId} {ei:TI} {x y:Operand} {n:Nat} {β:Type} {vf:β→D} {m:List (Int × β)} {k:Int} {z0:β} {u:D} {b:Bool} (tb:Tab P) (ht:P.underlying t=some (.map kt e)) (hk:P.underlying kt=some (.int .i64)) (he:tb.f e=some ei) (hx:O9 ts x = .mp n) (hy:O9 ts y = .d (.v (.int .i64 k))) (hr:L[n]?=some (some ⟨0,m.map fun p => .agg [.d (.v (.int .i64 p.1)),.d (vf p.2)]⟩)) (hz:ei.z = .d (vf z0)) (hu:vf ((A2e m k).getD z0)=u) (hb:(A2e m k).isSome=b)
  (hw:I2 ops ts ⟨some d,.lookup t x y true,ty,pos,af,gd⟩=some true) (hd:Nat.blt d N=true)
  (kk:L3 P N ops l ⟨(d,.tup [.d u,.d (.v (.bool b))])::ts,L⟩ (tr++[.run [n] []]) K):L3 P N ops (⟨some d,.lookup t x y true,ty,pos,af,gd⟩::l) ⟨ts,L⟩ tr K:=by
 subst hu hb
 have h:=B6B (P:=P) (o:=⟨some d,.lookup t x y true,ty,pos,af,gd⟩) (fresh:=L.length) (kv:=fun a:Int => .int .i64 a) (vf:=fun b=>T.d (vf b)) (m:=m) (k:=k) (n:=n) rfl ht (tb.ok _ _ he) (.int hk)
 cases hm:A2e m k with
 | none =>
  rw[hm]at h kk;dsimp only at h;rw[hz]at h
  exact K0 (rn:=[(n,A9d (fun a:Int => .int .i64 a) (fun b=>T.d (vf b)) m)]) rfl h hw (by simp[Op.operands,hx,hy]) (by simp[hr,A9d]) hd kk
 | some v =>
  rw[hm]at h kk;dsimp only at h
  exact K0 (rn:=[(n,A9d (fun a:Int => .int .i64 a) (fun b=>T.d (vf b)) m)]) rfl h hw (by simp[Op.operands,hx,hy]) (by simp[hr,A9d]) hd kk
theorem B5R {α:Type} {t e:TypeId} {i ei:TI} {x:Operand} {n len:Nat} {g:α→D} {w q:List α} {a0:α} {c0:Value} (tb:Tab P) (ht:tb.f t=some i) (hsl:i.sl=some e) (he:tb.f e=some ei) (hz0:ei.z = .d (.v c0)) (hc:c0.cells=#[c0]) (h1:c0.oneCell'=true) (ho:one c0) (hg:g a0 = .v c0) (hx:O9 ts x = .row n 1 0 len) (hr:L[n]?=some (some ⟨1,w.map fun a => .d (g a)⟩)) (hle:len=w.length) (hq:B6t w a0=some q) {L':List (Option Rw)} (hL:L.set n (some ⟨1,q.map fun a => .d (g a)⟩)=L')
  (hw:I2 ops ts ⟨none,.call { callee := .builtin .clear,args:=#[x],argTypes:=#[t] },ty,pos,af,gd⟩=some true)
  (k:L3 P N ops l ⟨ts,L'⟩ (tr++[.run [n] [n]]) K):L3 P N ops (⟨none,.call { callee := .builtin .clear,args:=#[x],argTypes:=#[t] },ty,pos,af,gd⟩::l) ⟨ts,L⟩ tr K:=by
 subst hL hle
 injection hq with hq
 subst hq
 have e:((List.replicate w.length a0).map fun a=>T.d (g a))=List.replicate w.length (.d (.v c0)):=by rw[List.map_replicate,hg]
 rw[e]at k
 refine A2i (.run hw (B8Q (fresh:=L.length) (n:=n) (len:=w.length) (r:=⟨1,w.map fun a => .d (g a)⟩) rfl (tb.ok _ _ ht) hsl (tb.ok _ _ he) hz0 hc h1 ho rfl (by simp)) ?_ ?_ ?_ rfl) ?_
 ·intro p hp
  simp only[List.mem_cons,List.not_mem_nil,or_false]at hp
  subst hp
  exact⟨hx,by simp[Op.operands,Call.operands]⟩
 ·intro p hp;simp only[List.mem_cons,List.not_mem_nil,or_false]at hp;subst hp;exact hr
 ·intro p hp;simp only[List.mem_cons,List.not_mem_nil,or_false]at hp;subst hp;exact⟨_,List.mem_singleton.2 rfl,rfl⟩
 ·simpa[St.eff,A5m,A4m]using k
theorem A7n {t e:TypeId} {i ei:TI} {x y:Operand} {n s j c m:Nat} {k:IntKind} {z:Int} (q:Nat) (tb:Tab P) (ht:tb.f t=some i) (hs:i.ar=some (m,e)) (he:tb.f e=some ei) (hx:O9 ts x = .ref n s j c) (hy:O9 ts y = .d (.v (.int k z))) (hz:z=(q:Int)) (hq:Nat.blt q m=true) (hw:I2 ops ts ⟨some d,.indexAddr t x y,ty,pos,af,gd⟩=some true) (hd:Nat.blt d N=true) (kk:L3 P N ops l ⟨(d,.ref n s j (c+q*ei.size))::ts,L⟩ (tr++[.run (List.map Prod.fst ([]:List (Nat × Rw))) []]) K):L3 P N ops (⟨some d,.indexAddr t x y,ty,pos,af,gd⟩::l) ⟨ts,L⟩ tr K:=by
 subst hz
 have h2:q<m:=by rw[Nat.blt_eq]at hq;exact hq
 exact C0D (q:=(q:Int)) tb ht hs he hx hy (by omega) (by omega) hw hd kk
theorem C0J {t1 t2:TypeId} {x y:Operand} {k:IntKind} {a b:Int} (hx:O9 ts x = .d (.v (.int k a))) (hy:O9 ts y = .d (.v (.int k b))) (hb:b≠0) (hw:I2 ops ts ⟨some d,.binOp .quo t1 x y t2,ty,pos,af,gd⟩=some true) (hd:Nat.blt d N=true)
  (kk:L3 P N ops l ⟨(d,.d (.v (.int k (k.wrap (a.tdiv b)))))::ts,L⟩ (tr++[.run [] []]) K):L3 P N ops (⟨some d,.binOp .quo t1 x y t2,ty,pos,af,gd⟩::l) ⟨ts,L⟩ tr K :=
 K0 (ins:=[(x,.d (.v (.int k a))),(y,.d (.v (.int k b)))]) rfl (A3z (p := .int k a) (q := .int k b) (z := .int k (k.wrap (a.tdiv b))) rfl rfl (fun w=>by simp[go_sem,Op.intDiv,hb])) hw (by simp[Op.operands,hx,hy]) (by simp) hd kk
end
end Go.Proofs.YtlaogbbcipebgaaGreat.Sh
