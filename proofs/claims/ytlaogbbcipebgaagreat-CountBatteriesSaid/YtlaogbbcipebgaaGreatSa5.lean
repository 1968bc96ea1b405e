/- More rules: slices that may be nil, conversions of numbers, results that may be nothing. Over whatever program. -/
import Derived.Test.YtlaogbbcipebgaaGreatSa4
namespace Go.Proofs.YtlaogbbcipebgaaGreat.Sh
set_option linter.unusedVariables false
set_option linter.unusedSimpArgs false
open Go
theorem A1R {P:Program} {fn:Func} {n0:Nat} {R:SE→List (Option Rw)→Prop} {st:St} (h:Fin P fn n0 R .ret st):Fin P fn n0 R .norm st:=h
def B2S {α β:Type}:Option α→β→(α→β)→β
 | none,b,_=>b
 | some a,_,f=>f a
theorem B5h {α β:Type} {o:Option α} {b:β} {f:α→β} (h:o=none):B2S o b f=b:=by subst h;rfl
theorem B5i {α β:Type} {o:Option α} {a:α} {b:β} {f:α→β} (h:o=some a):B2S o b f=f a:=by subst h;rfl
def SCO {α:Type} (P:Program) (f:FuncId) (as:List T) (L:List (Option Rw)) (o:Option α) (t0:T) (L0:List (Option Rw)) (t1:α→T) (L1:α→List (Option Rw)):Prop :=
 SC P f as L fun se X=>(o=none∧se = .ret t0∧X=L0)∨∃ a,o=some a∧se = .ret (t1 a)∧X=L1 a
theorem SCO.none {α:Type} {P:Program} {f:FuncId} {as:List T} {L:List (Option Rw)} {o:Option α} {t0:T} {L0:List (Option Rw)} {t1:α→T} {L1:α→List (Option Rw)} (h:SCO P f as L o t0 L0 t1 L1) (hn:o=none):SCR P f as L t0 L0:=SC.mono h fun se X hX=>by
 rcases hX with⟨_,h1,h2⟩ | ⟨a,h1,_⟩
 ·exact⟨h1,h2⟩
 ·rw[hn]at h1;cases h1
theorem SCO.some {α:Type} {P:Program} {f:FuncId} {as:List T} {L:List (Option Rw)} {o:Option α} {t0:T} {L0:List (Option Rw)} {t1:α→T} {L1:α→List (Option Rw)} (h:SCO P f as L o t0 L0 t1 L1) {a:α} (hn:o=some a):SCR P f as L (t1 a) (L1 a):=SC.mono h fun se X hX=>by
 rcases hX with⟨h1,_⟩ | ⟨b,h1,h2,h3⟩
 ·rw[hn]at h1;cases h1
 ·rw[hn]at h1;injection h1 with h1;subst h1;exact⟨h2,h3⟩
def B55 (P:Program) (ty:TypeId):Prop:=∀ (o:Operand) (a:Option Addr) (n cap:Nat) (w:World),(do eqGuard .eql ty o (.const (.slice none 0 0)) (.slice a n cap) (.slice none 0 0);binOp .eql ty (.slice a n cap) (.slice none 0 0):Sem Value).run P w = .ok (.bool a.isNone) w
theorem B7Q {P:Program} {o:Oper} {fresh:Nat} {ty ty':TypeId} {x:Operand} {t:T} {b:Bool} (hop:o.op = .binOp .eql ty x (.const (.slice none 0 0)) ty') (hz:B55 P ty) (hb:∀ g c,VT g t c→∃ a n cap,c = .slice a n cap∧a.isNone=b):OpS P o [(x,t)] [] [] fresh [] (.d (.v (.bool b))) :=
 .of_pure (fun c h=>by rw[hop]at h;cases h) fun g a _ hi _=>⟨.bool b,by
  obtain⟨ad,n,cap,e1,e2⟩:=hb g _ (hi (x,t) (by simp))
  dsimp only at e1
  have:=hz x ad n cap g.w
  have e3:a.eval (.const (.slice none 0 0)) = .slice none 0 0:=rfl
  simp only[execOp,hop,e1,e3,Sem.run_bind]at this ⊢
  rw[this,e2];rfl,.d (.v _ rfl)⟩
theorem SW.raw {P:Program} {n0 N:Nat} {df:List Deferred} {Q:SX→St→Prop} {c:Code} {ts:List (Nat × T)} {L:List (Option Rw)} (i s:Nat) (hi:W8 ts i = .d (.arr s [])) (h:∀ a cap,SW P n0 N df c Q ⟨(i,.d (.v (.slice a 0 cap)))::ts,L⟩):SW P n0 N df c Q ⟨ts,L⟩:=fun F nn hF g a hR=>by
 have h1:=hR.ts i
 dsimp only at h1
 rw[hi]at h1
 generalize hv:a.tmps.getD i undef=v at h1
 have:∃ ad cap,v = .slice ad 0 cap:=by
  cases h1 with | d h1 =>
  cases h1 with
  | arr0=>exact⟨_,_,rfl⟩
  | arr=>exact⟨_,_,rfl⟩
 obtain⟨ad,cap,rfl⟩:=this
 refine h ad cap F nn hF g a ⟨hR.good,hR.M,hR.size,fun j=>?_,hR.df⟩
 have e:=A2M (ts:=ts) (dst:=some i) (v := .d (.v (.slice ad 0 cap))) j
 simp only[A5m]at e
 rw[e]
 split
 ·rename_i hj;injection hj with hj;subst hj;rw[hv];exact .d (.v _ rfl)
 ·exact hR.ts j
theorem SW.unraw {P:Program} {n0 N:Nat} {df:List Deferred} {Q:SX→St→Prop} {c:Code} {ts:List (Nat × T)} {L:List (Option Rw)} (i s:Nat) {a:Option Addr} {cap:Nat} (hi:W8 ts i = .d (.v (.slice a 0 cap))) (h:SW P n0 N df c Q ⟨(i,.d (.arr s []))::ts,L⟩):SW P n0 N df c Q ⟨ts,L⟩:=fun F nn hF g ac hR=>by
 have h1:=hR.ts i
 dsimp only at h1
 rw[hi]at h1
 have h2:=h1.v_eq
 refine h F nn hF g ac ⟨hR.good,hR.M,hR.size,fun j=>?_,hR.df⟩
 have e:=A2M (ts:=ts) (dst:=some i) (v := .d (.arr s [])) j
 simp only[A5m]at e
 rw[e]
 split
 ·rename_i hj;injection hj with hj;subst hj;rw[h2];exact .d (.arr0 s a cap)
 ·exact hR.ts j
section
variable {P:Program} {N:Nat} {ops:Array Oper} {l:List Oper} {ts:List (Nat × T)} {L:List (Option Rw)} {tr:List Stp} {d:Nat} {ty:TypeId} {pos:String} {af:Array Edge} {gd:Option (Nat × Bool)} {K:List Oper→List Stp→St→Prop}
theorem B4l {ty1 ty2:TypeId} {x:Operand} {n s:Nat} (hz:B55 P ty1) (hx:O9 ts x = .d (.v (.slice none n s))) (hw:I2 ops ts ⟨some d,.binOp .eql ty1 x (.const (.slice none 0 0)) ty2,ty,pos,af,gd⟩=some true) (hd:Nat.blt d N=true)
  (k:L3 P N ops l ⟨(d,.d (.v (.bool true)))::ts,L⟩ (tr++[.run [] []]) K):L3 P N ops (⟨some d,.binOp .eql ty1 x (.const (.slice none 0 0)) ty2,ty,pos,af,gd⟩::l) ⟨ts,L⟩ tr K :=
 K0 rfl (B7Q (t := .d (.v (.slice none n s))) (b:=true) rfl hz (fun g c h=>by have:=h.v_eq;exact⟨_,_,_,this,rfl⟩)) hw (fun p hp=>by simp only[List.mem_cons,List.not_mem_nil,or_false]at hp;subst hp;exact⟨hx,by simp[Op.operands]⟩) (by simp) hd k
theorem B4k {ty1 ty2:TypeId} {x:Operand} {a:Addr} {n s:Nat} (hz:B55 P ty1) (hx:O9 ts x = .d (.v (.slice (some a) n s))) (hw:I2 ops ts ⟨some d,.binOp .eql ty1 x (.const (.slice none 0 0)) ty2,ty,pos,af,gd⟩=some true) (hd:Nat.blt d N=true)
  (k:L3 P N ops l ⟨(d,.d (.v (.bool false)))::ts,L⟩ (tr++[.run [] []]) K):L3 P N ops (⟨some d,.binOp .eql ty1 x (.const (.slice none 0 0)) ty2,ty,pos,af,gd⟩::l) ⟨ts,L⟩ tr K :=
 K0 rfl (B7Q (t := .d (.v (.slice (some a) n s))) (b:=false) rfl hz (fun g c h=>by have:=h.v_eq;exact⟨_,_,_,this,rfl⟩)) hw (fun p hp=>by simp only[List.mem_cons,List.not_mem_nil,or_false]at hp;subst hp;exact⟨hx,by simp[Op.operands]⟩) (by simp) hd k
theorem B4j {ty1 ty2:TypeId} {x:Operand} {s:Nat} {y:D} {w:List D} (hz:B55 P ty1) (hx:O9 ts x = .d (.arr s (y::w))) (hw:I2 ops ts ⟨some d,.binOp .eql ty1 x (.const (.slice none 0 0)) ty2,ty,pos,af,gd⟩=some true) (hd:Nat.blt d N=true)
  (k:L3 P N ops l ⟨(d,.d (.v (.bool false)))::ts,L⟩ (tr++[.run [] []]) K):L3 P N ops (⟨some d,.binOp .eql ty1 x (.const (.slice none 0 0)) ty2,ty,pos,af,gd⟩::l) ⟨ts,L⟩ tr K :=
 K0 rfl (B7Q (t := .d (.arr s (y::w))) (b:=false) rfl hz (fun g c h=>by cases h with | d h=>cases h;exact⟨_,_,_,rfl,rfl⟩)) hw (fun p hp=>by simp only[List.mem_cons,List.not_mem_nil,or_false]at hp;subst hp;exact⟨hx,by simp[Op.operands]⟩) (by simp) hd k
theorem B5S {src dst:TypeId} {x:Operand} {k k2:IntKind} {n:Int} (hs:(P.underlying src).isSome=true) (hk:P.intKind dst=k2) (hd':P.underlying dst=some (.int k2)) (hx:O9 ts x = .d (.v (.int k n))) (hw:I2 ops ts ⟨some d,.convert src dst x,ty,pos,af,gd⟩=some true) (hd:Nat.blt d N=true)
  (kk:L3 P N ops l ⟨(d,.d (.v (.int k2 (k2.wrap n))))::ts,L⟩ (tr++[.run [] []]) K):L3 P N ops (⟨some d,.convert src dst x,ty,pos,af,gd⟩::l) ⟨ts,L⟩ tr K :=
 B9d (p := .int k n) (z := .int k2 (k2.wrap n)) hx rfl (fun w=>by subst hk;exact run_convert_int w src dst k n hs hd') hw hd kk
theorem B8f {t e:TypeId} {i ei:TI} {x y:Operand} {s:Nat} {α:Type} {w q:List α} {g:α→D} {k:IntKind} {j:Int} (tb:Tab P) (ht:tb.f t=some i) (hs:i.sl=some e) (he:tb.f e=some ei) (hx:O9 ts x = .d (.arr s (w.map g))) (hz:ei.size=s) (hy:O9 ts y = .d (.v (.int k j))) (hq:A7A w j w.length=some q) (hw:I2 ops ts ⟨some d,.slice t x (some y) none none,ty,pos,af,gd⟩=some true) (hd:Nat.blt d N=true)
  (kk:L3 P N ops l ⟨(d,.d (.arr s (q.map g)))::ts,L⟩ (tr++[.run [] []]) K):L3 P N ops (⟨some d,.slice t x (some y) none none,ty,pos,af,gd⟩::l) ⟨ts,L⟩ tr K:=by
 unfold A7A at hq
 split at hq
 ·rename_i h
  injection hq with hq
  subst hq
  obtain⟨m,rfl⟩:=Int.eq_ofNat_of_zero_le h.1
  refine C0c (p:=m) tb ht hs he hx hz hy (by rw[List.length_map];omega) hw hd ?_
  rw[← List.map_drop]
  rw[List.take_of_length_le (by simp only[List.length_drop];simp)]at kk
  simpa using kk
 ·cases hq
end
end Go.Proofs.YtlaogbbcipebgaaGreat.Sh
