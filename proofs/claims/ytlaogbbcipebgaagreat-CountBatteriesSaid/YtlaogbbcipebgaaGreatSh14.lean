/- The steps of a walk over a plain picture, one rule an operation. Over whatever program. -/
import Derived.Test.YtlaogbbcipebgaaGreatSh13
namespace Go.Proofs.YtlaogbbcipebgaaGreat.Sh
set_option linter.unusedVariables false
set_option linter.unusedSimpArgs false
open Go
section
variable {P:Program} {N:Nat} {ops:Array Oper} {l:List Oper} {ts:List (Nat × T)} {L:List (Option Rw)} {tr:List Stp} {K:List Oper→List Stp→St→Prop} {d:Nat} {ty:TypeId} {pos:String} {af:Array Edge} {gd:Option (Nat × Bool)}
def B5F:List (Nat × TI)→Nat→Option TI
 | [],_=>none
 | (k,i)::r,t=>bif Nat.beq k t then some i else B5F r t
theorem B3D {P:Program}:∀ (l:List (Nat × TI)),l.map (fun p=>B8q P p.1)=l.map (fun p=>some p.2)→∀ t i,B5F l t=some i→TOk P t i
 | [],_,t,i,h=>by cases h
 | (k,j)::r,hl,t,i,h=>by
  simp only[List.map_cons,List.cons.injEq]at hl
  simp only[B5F]at h
  cases hb:Nat.beq k t with
  | true =>
   rw[hb]at h
   injection h with h
   subst h
   rw[← Nat.eq_of_beq_eq_true hb]
   exact .of hl.1
  | false=>rw[hb]at h;exact B3D r hl.2 t i h
def Tab.mk' {P:Program} (l:List (Nat × TI)) (h:l.map (fun p=>B8q P p.1)=l.map (fun p=>some p.2)):Tab P:=⟨B5F l,B3D l h⟩
def A4f:List Nat:=[0,1,2,3,4,5,6,7,8,9,10,11,12,13,14,15,16,17,18,19,20,21,22,23,24,25,26,27,28,29,30,31,32,33,34,35,36,37,38,39,40,41,42,43,44,45,46,47,48,49,50,51,52,53,54,55,56,57,58,59,60,61,62,63]
theorem A21 {k n:Nat} {q:List Nat} (h:A4f.drop k=n::q):k=n:=by
 have h1:A4f=List.range 64:=rfl
 rw[h1]at h
 have hk:k<64:=by
  rcases Nat.lt_or_ge k 64 with h2 | h2
  ·exact h2
  ·rw[List.drop_eq_nil_of_le (by simpa using h2)]at h;cases h
 rw[List.drop_eq_getElem_cons (by simpa using hk)]at h
 injection h with h
 simpa using h
theorem K0 {o:Oper} {ins:List (Operand × T)} {rn:List (Nat × Rw)} {v:T} (ho:o.dst=some d) (h:OpS P o ins rn [] L.length [] v) (hw:I2 ops ts o=some true) (hi:∀ p∈ins,O9 ts p.1=p.2∧p.1∈o.op.operands)
  (hr:∀ p∈rn,L[p.1]?=some (some p.2)) (hd:Nat.blt d N=true) (k:L3 P N ops l ⟨(d,v)::ts,L⟩ (tr++[.run (rn.map (·.1)) []]) K):L3 P N ops (o::l) ⟨ts,L⟩ tr K:=by
 refine A2i (.run hw h hi hr (by simp) (by rw[ho];exact hd)) ?_
 simpa[St.eff,A5m,ho,A4m]using k
theorem B0N {o:Oper} {ins:List (Operand × T)} {rn:List (Nat × Rw)} {r:Rw} {v:T} (ho:o.dst=some d) (h:OpS P o ins rn [] L.length [r] v) (hw:I2 ops ts o=some true) (hi:∀ p∈ins,O9 ts p.1=p.2∧p.1∈o.op.operands)
  (hr:∀ p∈rn,L[p.1]?=some (some p.2)) (hd:Nat.blt d N=true) (k:L3 P N ops l ⟨(d,v)::ts,L++[some r]⟩ (tr++[.run (rn.map (·.1)++[L.length]) [L.length]]) K):L3 P N ops (o::l) ⟨ts,L⟩ tr K:=by
 refine A2i (.run hw h hi hr (by simp) (by rw[ho];exact hd)) ?_
 simpa[St.eff,A5m,ho,A4m]using k
theorem A5G {o:Oper} {ins:List (Operand × T)} {b:Bool} (ho:o.dst=some d) (h:OpS P o ins [] [] L.length [] (.d (.v (.bool b)))) (hw:I2 ops ts o=some true) (hi:∀ p∈ins,O9 ts p.1=p.2∧p.1∈o.op.operands)
  (hd:Nat.blt d N=true) (kt:b=true→L3 P N ops l ⟨(d,.d (.v (.bool true)))::ts,L⟩ (tr++[.run [] []]) K) (kf:b=false→L3 P N ops l ⟨(d,.d (.v (.bool false)))::ts,L⟩ (tr++[.run [] []]) K):L3 P N ops (o::l) ⟨ts,L⟩ tr K:=by
 cases b with
 | true=>exact K0 ho h hw hi (by simp) hd (kt rfl)
 | false=>exact K0 ho h hw hi (by simp) hd (kf rfl)
theorem B8d {o:Oper} (hw:I2 ops ts o=some false) (ho:o.dst=some d) (hd:Nat.blt d N=true) (k:L3 P N ops l ⟨(d,.d (.tup []))::ts,L⟩ (tr++[.skip]) K):L3 P N ops (o::l) ⟨ts,L⟩ tr K:=by
 refine A2i (.skip hw (by rw[ho];exact hd)) ?_
 simpa[St.eff,A5m,ho,A4m]using k
theorem C0a {x:Operand} {y:D} (hx:O9 ts x = .d y) (hw:I2 ops ts ⟨some d,.move x,ty,pos,af,gd⟩=some true) (hd:Nat.blt d N=true) (kk:L3 P N ops l ⟨(d,.d y)::ts,L⟩ (tr++[.run (List.map Prod.fst ([]:List (Nat × Rw))) []]) K):L3 P N ops (⟨some d,.move x,ty,pos,af,gd⟩::l) ⟨ts,L⟩ tr K :=
 K0 (ins:=[(x,.d y)]) rfl (A6p (.inl rfl)) hw (by simp[Op.operands,hx]) (by simp) hd kk
theorem B9V {x:Operand} {y:D} (hx:O9 ts x = .d y) (hw:I2 ops ts ⟨some d,.assign x,ty,pos,af,gd⟩=some true) (hd:Nat.blt d N=true) (kk:L3 P N ops l ⟨(d,.d y)::ts,L⟩ (tr++[.run (List.map Prod.fst ([]:List (Nat × Rw))) []]) K):L3 P N ops (⟨some d,.assign x,ty,pos,af,gd⟩::l) ⟨ts,L⟩ tr K :=
 K0 (ins:=[(x,.d y)]) rfl (A6p (.inr rfl)) hw (by simp[Op.operands,hx]) (by simp) hd kk
theorem G4 {x:Operand} {n s i c:Nat} (hx:O9 ts x = .ref n s i c) (hw:I2 ops ts ⟨some d,.move x,ty,pos,af,gd⟩=some true) (hd:Nat.blt d N=true) (kk:L3 P N ops l ⟨(d,.ref n s i c)::ts,L⟩ (tr++[.run (List.map Prod.fst ([]:List (Nat × Rw))) []]) K):L3 P N ops (⟨some d,.move x,ty,pos,af,gd⟩::l) ⟨ts,L⟩ tr K :=
 K0 (ins:=[(x,.ref n s i c)]) rfl (A6p (.inl rfl)) hw (by simp[Op.operands,hx]) (by simp) hd kk
theorem A3i {x:Operand} {n s i c:Nat} (hx:O9 ts x = .ref n s i c) (hw:I2 ops ts ⟨some d,.assign x,ty,pos,af,gd⟩=some true) (hd:Nat.blt d N=true) (kk:L3 P N ops l ⟨(d,.ref n s i c)::ts,L⟩ (tr++[.run (List.map Prod.fst ([]:List (Nat × Rw))) []]) K):L3 P N ops (⟨some d,.assign x,ty,pos,af,gd⟩::l) ⟨ts,L⟩ tr K :=
 K0 (ins:=[(x,.ref n s i c)]) rfl (A6p (.inr rfl)) hw (by simp[Op.operands,hx]) (by simp) hd kk
theorem A0T {x:Operand} {n s lo len:Nat} (hx:O9 ts x = .row n s lo len) (hw:I2 ops ts ⟨some d,.move x,ty,pos,af,gd⟩=some true) (hd:Nat.blt d N=true) (kk:L3 P N ops l ⟨(d,.row n s lo len)::ts,L⟩ (tr++[.run (List.map Prod.fst ([]:List (Nat × Rw))) []]) K):L3 P N ops (⟨some d,.move x,ty,pos,af,gd⟩::l) ⟨ts,L⟩ tr K :=
 K0 (ins:=[(x,.row n s lo len)]) rfl (A6p (.inl rfl)) hw (by simp[Op.operands,hx]) (by simp) hd kk
theorem A14 {x:Operand} {n s lo len:Nat} (hx:O9 ts x = .row n s lo len) (hw:I2 ops ts ⟨some d,.assign x,ty,pos,af,gd⟩=some true) (hd:Nat.blt d N=true) (kk:L3 P N ops l ⟨(d,.row n s lo len)::ts,L⟩ (tr++[.run (List.map Prod.fst ([]:List (Nat × Rw))) []]) K):L3 P N ops (⟨some d,.assign x,ty,pos,af,gd⟩::l) ⟨ts,L⟩ tr K :=
 K0 (ins:=[(x,.row n s lo len)]) rfl (A6p (.inr rfl)) hw (by simp[Op.operands,hx]) (by simp) hd kk
theorem A2A {x:Operand} {f:Fn} {u v:List T} (hx:O9 ts x = .fn f u v) (hw:I2 ops ts ⟨some d,.move x,ty,pos,af,gd⟩=some true) (hd:Nat.blt d N=true) (kk:L3 P N ops l ⟨(d,.fn f u v)::ts,L⟩ (tr++[.run (List.map Prod.fst ([]:List (Nat × Rw))) []]) K):L3 P N ops (⟨some d,.move x,ty,pos,af,gd⟩::l) ⟨ts,L⟩ tr K :=
 K0 (ins:=[(x,.fn f u v)]) rfl (A6p (.inl rfl)) hw (by simp[Op.operands,hx]) (by simp) hd kk
theorem B3d {x:Operand} {f:Fn} {u v:List T} (hx:O9 ts x = .fn f u v) (hw:I2 ops ts ⟨some d,.assign x,ty,pos,af,gd⟩=some true) (hd:Nat.blt d N=true) (kk:L3 P N ops l ⟨(d,.fn f u v)::ts,L⟩ (tr++[.run (List.map Prod.fst ([]:List (Nat × Rw))) []]) K):L3 P N ops (⟨some d,.assign x,ty,pos,af,gd⟩::l) ⟨ts,L⟩ tr K :=
 K0 (ins:=[(x,.fn f u v)]) rfl (A6p (.inr rfl)) hw (by simp[Op.operands,hx]) (by simp) hd kk
theorem B9f {c x y:Operand} {t:D} (hc:O9 ts c = .d (.v (.bool true))) (hx:O9 ts x = .d t) (hw:I2 ops ts ⟨some d,.pick c x y,ty,pos,af,gd⟩=some true) (hd:Nat.blt d N=true) (kk:L3 P N ops l ⟨(d,.d t)::ts,L⟩ (tr++[.run (List.map Prod.fst ([]:List (Nat × Rw))) []]) K):L3 P N ops (⟨some d,.pick c x y,ty,pos,af,gd⟩::l) ⟨ts,L⟩ tr K :=
 K0 (ins:=[(c,.d (.v (.bool true))),(x,.d t),(y,O9 ts y)]) rfl (B7S (b:=true) (u:=O9 ts y) rfl) hw (by simp[Op.operands,hc,hx]) (by simp) hd kk
theorem B9e {c x y:Operand} {t:D} (hc:O9 ts c = .d (.v (.bool false))) (hy:O9 ts y = .d t) (hw:I2 ops ts ⟨some d,.pick c x y,ty,pos,af,gd⟩=some true) (hd:Nat.blt d N=true) (kk:L3 P N ops l ⟨(d,.d t)::ts,L⟩ (tr++[.run (List.map Prod.fst ([]:List (Nat × Rw))) []]) K):L3 P N ops (⟨some d,.pick c x y,ty,pos,af,gd⟩::l) ⟨ts,L⟩ tr K :=
 K0 (ins:=[(c,.d (.v (.bool false))),(x,O9 ts x),(y,.d t)]) rfl (B7S (b:=false) (t:=O9 ts x) rfl) hw (by simp[Op.operands,hc,hy]) (by simp) hd kk
theorem C08 {t1 t2:TypeId} {x y:Operand} {k:IntKind} {a b:Int} (hx:O9 ts x = .d (.v (.int k a))) (hy:O9 ts y = .d (.v (.int k b))) (hw:I2 ops ts ⟨some d,.binOp .add t1 x y t2,ty,pos,af,gd⟩=some true) (hd:Nat.blt d N=true) (kk:L3 P N ops l ⟨(d,.d (.v (.int k (k.wrap (a+b)))))::ts,L⟩ (tr++[.run (List.map Prod.fst ([]:List (Nat × Rw))) []]) K):L3 P N ops (⟨some d,.binOp .add t1 x y t2,ty,pos,af,gd⟩::l) ⟨ts,L⟩ tr K :=
 K0 (ins:=[(x,.d (.v (.int k a))),(y,.d (.v (.int k b)))]) rfl (A3z (p := .int k a) (q := .int k b) (z := .int k (k.wrap (a+b))) rfl rfl (fun w=>by simp[go_sem,Op.intArith])) hw (by simp[Op.operands,hx,hy]) (by simp) hd kk
theorem A1n {t1 t2:TypeId} {x y:Operand} {k:IntKind} {a b:Int} (hx:O9 ts x = .d (.v (.int k a))) (hy:O9 ts y = .d (.v (.int k b))) (hw:I2 ops ts ⟨some d,.binOp .sub t1 x y t2,ty,pos,af,gd⟩=some true) (hd:Nat.blt d N=true) (kk:L3 P N ops l ⟨(d,.d (.v (.int k (k.wrap (a-b)))))::ts,L⟩ (tr++[.run (List.map Prod.fst ([]:List (Nat × Rw))) []]) K):L3 P N ops (⟨some d,.binOp .sub t1 x y t2,ty,pos,af,gd⟩::l) ⟨ts,L⟩ tr K :=
 K0 (ins:=[(x,.d (.v (.int k a))),(y,.d (.v (.int k b)))]) rfl (A3z (p := .int k a) (q := .int k b) (z := .int k (k.wrap (a-b))) rfl rfl (fun w=>by simp[go_sem,Op.intArith])) hw (by simp[Op.operands,hx,hy]) (by simp) hd kk
theorem A5Q {t1 t2:TypeId} {x y:Operand} {k:IntKind} {a b:Int} (hx:O9 ts x = .d (.v (.int k a))) (hy:O9 ts y = .d (.v (.int k b))) (hw:I2 ops ts ⟨some d,.binOp .mul t1 x y t2,ty,pos,af,gd⟩=some true) (hd:Nat.blt d N=true) (kk:L3 P N ops l ⟨(d,.d (.v (.int k (k.wrap (a*b)))))::ts,L⟩ (tr++[.run (List.map Prod.fst ([]:List (Nat × Rw))) []]) K):L3 P N ops (⟨some d,.binOp .mul t1 x y t2,ty,pos,af,gd⟩::l) ⟨ts,L⟩ tr K :=
 K0 (ins:=[(x,.d (.v (.int k a))),(y,.d (.v (.int k b)))]) rfl (A3z (p := .int k a) (q := .int k b) (z := .int k (k.wrap (a*b))) rfl rfl (fun w=>by simp[go_sem,Op.intArith])) hw (by simp[Op.operands,hx,hy]) (by simp) hd kk
theorem Q4 {t1 t2:TypeId} {x y:Operand} {k:IntKind} {a b:Int} (hx:O9 ts x = .d (.v (.int k a))) (hy:O9 ts y = .d (.v (.int k b))) (hw:I2 ops ts ⟨some d,.binOp .lss t1 x y t2,ty,pos,af,gd⟩=some true) (hd:Nat.blt d N=true) (kt:a<b→L3 P N ops l ⟨(d,.d (.v (.bool true)))::ts,L⟩ (tr++[.run [] []]) K) (kf:b≤a→L3 P N ops l ⟨(d,.d (.v (.bool false)))::ts,L⟩ (tr++[.run [] []]) K):L3 P N ops (⟨some d,.binOp .lss t1 x y t2,ty,pos,af,gd⟩::l) ⟨ts,L⟩ tr K :=
 A5G (ins:=[(x,.d (.v (.int k a))),(y,.d (.v (.int k b)))]) rfl (A3z (p := .int k a) (q := .int k b) (z := .bool (decide (a<b))) rfl rfl (fun w=>by simp[go_sem])) hw (by simp[Op.operands,hx,hy]) hd (fun h=>kt (by simpa using h)) (fun h=>kf (by simpa using h))
theorem B1t {t1 t2:TypeId} {x y:Operand} {k:IntKind} {a b:Int} (hx:O9 ts x = .d (.v (.int k a))) (hy:O9 ts y = .d (.v (.int k b))) (hw:I2 ops ts ⟨some d,.binOp .leq t1 x y t2,ty,pos,af,gd⟩=some true) (hd:Nat.blt d N=true) (kt:a≤b→L3 P N ops l ⟨(d,.d (.v (.bool true)))::ts,L⟩ (tr++[.run [] []]) K) (kf:b<a→L3 P N ops l ⟨(d,.d (.v (.bool false)))::ts,L⟩ (tr++[.run [] []]) K):L3 P N ops (⟨some d,.binOp .leq t1 x y t2,ty,pos,af,gd⟩::l) ⟨ts,L⟩ tr K :=
 A5G (ins:=[(x,.d (.v (.int k a))),(y,.d (.v (.int k b)))]) rfl (A3z (p := .int k a) (q := .int k b) (z := .bool (decide (a≤b))) rfl rfl (fun w=>by simp[go_sem])) hw (by simp[Op.operands,hx,hy]) hd (fun h=>kt (by simpa using h)) (fun h=>kf (by simpa using h))
theorem A4l {t1 t2:TypeId} {x y:Operand} {k:IntKind} {a b:Int} (hx:O9 ts x = .d (.v (.int k a))) (hy:O9 ts y = .d (.v (.int k b))) (hw:I2 ops ts ⟨some d,.binOp .gtr t1 x y t2,ty,pos,af,gd⟩=some true) (hd:Nat.blt d N=true) (kt:b<a→L3 P N ops l ⟨(d,.d (.v (.bool true)))::ts,L⟩ (tr++[.run [] []]) K) (kf:a≤b→L3 P N ops l ⟨(d,.d (.v (.bool false)))::ts,L⟩ (tr++[.run [] []]) K):L3 P N ops (⟨some d,.binOp .gtr t1 x y t2,ty,pos,af,gd⟩::l) ⟨ts,L⟩ tr K :=
 A5G (ins:=[(x,.d (.v (.int k a))),(y,.d (.v (.int k b)))]) rfl (A3z (p := .int k a) (q := .int k b) (z := .bool (decide (b<a))) rfl rfl (fun w=>by simp[go_sem])) hw (by simp[Op.operands,hx,hy]) hd (fun h=>kt (by simpa using h)) (fun h=>kf (by simpa using h))
theorem A7I {t1 t2:TypeId} {x y:Operand} {k:IntKind} {a b:Int} (hx:O9 ts x = .d (.v (.int k a))) (hy:O9 ts y = .d (.v (.int k b))) (hw:I2 ops ts ⟨some d,.binOp .geq t1 x y t2,ty,pos,af,gd⟩=some true) (hd:Nat.blt d N=true) (kt:b≤a→L3 P N ops l ⟨(d,.d (.v (.bool true)))::ts,L⟩ (tr++[.run [] []]) K) (kf:a<b→L3 P N ops l ⟨(d,.d (.v (.bool false)))::ts,L⟩ (tr++[.run [] []]) K):L3 P N ops (⟨some d,.binOp .geq t1 x y t2,ty,pos,af,gd⟩::l) ⟨ts,L⟩ tr K :=
 A5G (ins:=[(x,.d (.v (.int k a))),(y,.d (.v (.int k b)))]) rfl (A3z (p := .int k a) (q := .int k b) (z := .bool (decide (b≤a))) rfl rfl (fun w=>by simp[go_sem])) hw (by simp[Op.operands,hx,hy]) hd (fun h=>kt (by simpa using h)) (fun h=>kf (by simpa using h))
theorem Z3 {t1 t2:TypeId} {x y:Operand} {k:IntKind} {a b:Int} (hx:O9 ts x = .d (.v (.int k a))) (hy:O9 ts y = .d (.v (.int k b))) (hw:I2 ops ts ⟨some d,.binOp .eql t1 x y t2,ty,pos,af,gd⟩=some true) (hd:Nat.blt d N=true) (kt:a=b→L3 P N ops l ⟨(d,.d (.v (.bool true)))::ts,L⟩ (tr++[.run [] []]) K) (kf:a≠b→L3 P N ops l ⟨(d,.d (.v (.bool false)))::ts,L⟩ (tr++[.run [] []]) K):L3 P N ops (⟨some d,.binOp .eql t1 x y t2,ty,pos,af,gd⟩::l) ⟨ts,L⟩ tr K :=
 A5G (ins:=[(x,.d (.v (.int k a))),(y,.d (.v (.int k b)))]) rfl (A3z (p := .int k a) (q := .int k b) (z := .bool (a==b)) rfl rfl (fun w=>by simp[go_sem])) hw (by simp[Op.operands,hx,hy]) hd (fun h=>kt (by simpa using h)) (fun h=>kf (by simpa using h))
theorem V5 {t1 t2:TypeId} {x y:Operand} {k:IntKind} {a b:Int} (hx:O9 ts x = .d (.v (.int k a))) (hy:O9 ts y = .d (.v (.int k b))) (hw:I2 ops ts ⟨some d,.binOp .neq t1 x y t2,ty,pos,af,gd⟩=some true) (hd:Nat.blt d N=true) (kt:a≠b→L3 P N ops l ⟨(d,.d (.v (.bool true)))::ts,L⟩ (tr++[.run [] []]) K) (kf:a=b→L3 P N ops l ⟨(d,.d (.v (.bool false)))::ts,L⟩ (tr++[.run [] []]) K):L3 P N ops (⟨some d,.binOp .neq t1 x y t2,ty,pos,af,gd⟩::l) ⟨ts,L⟩ tr K :=
 A5G (ins:=[(x,.d (.v (.int k a))),(y,.d (.v (.int k b)))]) rfl (A3z (p := .int k a) (q := .int k b) (z := .bool (a != b)) rfl rfl (fun w=>by simp[go_sem])) hw (by simp[Op.operands,hx,hy]) hd (fun h=>kt (by simpa using h)) (fun h=>kf (by simpa using h))
theorem B1u {t1 t2:TypeId} {x y:Operand} {a b:ByteArray} (hx:O9 ts x = .d (.v (.string a))) (hy:O9 ts y = .d (.v (.string b))) (hw:I2 ops ts ⟨some d,.binOp .eql t1 x y t2,ty,pos,af,gd⟩=some true) (hd:Nat.blt d N=true) (kt:a.toList=b.toList→L3 P N ops l ⟨(d,.d (.v (.bool true)))::ts,L⟩ (tr++[.run [] []]) K) (kf:a.toList≠b.toList→L3 P N ops l ⟨(d,.d (.v (.bool false)))::ts,L⟩ (tr++[.run [] []]) K):L3 P N ops (⟨some d,.binOp .eql t1 x y t2,ty,pos,af,gd⟩::l) ⟨ts,L⟩ tr K :=
 A5G (ins:=[(x,.d (.v (.string a))),(y,.d (.v (.string b)))]) rfl (A3z (p := .string a) (q := .string b) (z := .bool ((a.toList==b.toList))) rfl rfl (fun w=>by simp[go_sem,binOp,Op.stringOp])) hw (by simp[Op.operands,hx,hy]) hd (fun h=>kt (by simpa using h)) (fun h=>kf (by simpa using h))
theorem A5R {t1:TypeId} {x:Operand} {b:Bool} (hx:O9 ts x = .d (.v (.bool b))) (hw:I2 ops ts ⟨some d,.unOp .not t1 x,ty,pos,af,gd⟩=some true) (hd:Nat.blt d N=true) (kk:L3 P N ops l ⟨(d,.d (.v (.bool !b)))::ts,L⟩ (tr++[.run (List.map Prod.fst ([]:List (Nat × Rw))) []]) K):L3 P N ops (⟨some d,.unOp .not t1 x,ty,pos,af,gd⟩::l) ⟨ts,L⟩ tr K :=
 K0 (ins:=[(x,.d (.v (.bool b)))]) rfl (B9P (p := .bool b) (z := .bool !b) rfl rfl rfl) hw (by simp[Op.operands,hx]) (by simp) hd kk
theorem A0a {t1:TypeId} {x:Operand} (hx:O9 ts x = .d (.v (.bool true))) (hw:I2 ops ts ⟨some d,.unOp .not t1 x,ty,pos,af,gd⟩=some true) (hd:Nat.blt d N=true) (kk:L3 P N ops l ⟨(d,.d (.v (.bool false)))::ts,L⟩ (tr++[.run (List.map Prod.fst ([]:List (Nat × Rw))) []]) K):L3 P N ops (⟨some d,.unOp .not t1 x,ty,pos,af,gd⟩::l) ⟨ts,L⟩ tr K :=
 K0 (ins:=[(x,.d (.v (.bool true)))]) rfl (B9P (p := .bool true) (z := .bool false) rfl rfl rfl) hw (by simp[Op.operands,hx]) (by simp) hd kk
theorem Z9 {t1:TypeId} {x:Operand} (hx:O9 ts x = .d (.v (.bool false))) (hw:I2 ops ts ⟨some d,.unOp .not t1 x,ty,pos,af,gd⟩=some true) (hd:Nat.blt d N=true) (kk:L3 P N ops l ⟨(d,.d (.v (.bool true)))::ts,L⟩ (tr++[.run (List.map Prod.fst ([]:List (Nat × Rw))) []]) K):L3 P N ops (⟨some d,.unOp .not t1 x,ty,pos,af,gd⟩::l) ⟨ts,L⟩ tr K :=
 K0 (ins:=[(x,.d (.v (.bool false)))]) rfl (B9P (p := .bool false) (z := .bool true) rfl rfl rfl) hw (by simp[Op.operands,hx]) (by simp) hd kk
theorem B9d {src dst:TypeId} {x:Operand} {p z:Value} (hx:O9 ts x = .d (.v p)) (h1:one z) (hz:∀ w,(convert src dst p).run P w = .ok z w) (hw:I2 ops ts ⟨some d,.convert src dst x,ty,pos,af,gd⟩=some true) (hd:Nat.blt d N=true) (kk:L3 P N ops l ⟨(d,.d (.v z))::ts,L⟩ (tr++[.run (List.map Prod.fst ([]:List (Nat × Rw))) []]) K):L3 P N ops (⟨some d,.convert src dst x,ty,pos,af,gd⟩::l) ⟨ts,L⟩ tr K :=
 K0 (ins:=[(x,.d (.v p))]) rfl (B9N rfl h1 hz) hw (by simp[Op.operands,hx]) (by simp) hd kk
theorem B5T {t:TypeId} {i:TI} {x:Operand} {p:Value} (tb:Tab P) (ht:tb.f t=some i) (hn:i.nif=true) (hx:O9 ts x = .d (.v p)) (hw:I2 ops ts ⟨some d,.makeInterface t x,ty,pos,af,gd⟩=some true) (hd:Nat.blt d N=true) (kk:L3 P N ops l ⟨(d,.d (.v (.iface t p)))::ts,L⟩ (tr++[.run (List.map Prod.fst ([]:List (Nat × Rw))) []]) K):L3 P N ops (⟨some d,.makeInterface t x,ty,pos,af,gd⟩::l) ⟨ts,L⟩ tr K :=
 K0 (ins:=[(x,.d (.v p))]) rfl (B8R rfl (tb.ok _ _ ht) hn) hw (by simp[Op.operands,hx]) (by simp) hd kk
theorem A2Z {ts:List (Nat × T)}:∀ {xs:List Operand} {us:List T},xs.map (O9 ts)=us→∀ p∈xs.zip us,O9 ts p.1=p.2∧p.1∈xs
 | [],us,h,p,hp=>by simp at hp
 | x::xs,us,h,p,hp=>by
  subst h
  simp only[List.map_cons,List.zip_cons_cons,List.mem_cons]at hp
  rcases hp with rfl | hp
  ·exact⟨rfl,by simp⟩
  ·have:=A2Z (xs:=xs) rfl p hp
   exact⟨this.1,by simp[this.2]⟩
theorem A3E {fn:Fn} {first caps:Array Operand} {us vs:List T} (h1:first.toList.map (O9 ts)=us) (h2:caps.toList.map (O9 ts)=vs) (hw:I2 ops ts ⟨some d,.makeFunc fn first caps,ty,pos,af,gd⟩=some true) (hd:Nat.blt d N=true) (kk:L3 P N ops l ⟨(d,.fn fn us vs)::ts,L⟩ (tr++[.run (List.map Prod.fst ([]:List (Nat × Rw))) []]) K):L3 P N ops (⟨some d,.makeFunc fn first caps,ty,pos,af,gd⟩::l) ⟨ts,L⟩ tr K :=
 K0 rfl (B9O rfl (by rw[← h1];simp) (by rw[← h2];simp)) hw (fun p hp=>by
  rcases List.mem_append.1 hp with h | h
  ·obtain⟨a,b⟩:=A2Z h1 p h
   exact⟨a,by simp only[Op.operands,Array.mem_append];exact .inl (by simpa using b)⟩
  ·obtain⟨a,b⟩:=A2Z h2 p h
   exact⟨a,by simp only[Op.operands,Array.mem_append];exact .inr (by simpa using b)⟩) (by simp) hd kk
theorem F1 {x:Operand} {n s i c:Nat} (hx:O9 ts x = .ref n s i c) (hw:I2 ops ts ⟨some d,.nilCheck x,ty,pos,af,gd⟩=some true) (hd:Nat.blt d N=true) (kk:L3 P N ops l ⟨(d,.ref n s i c)::ts,L⟩ (tr++[.run (List.map Prod.fst ([]:List (Nat × Rw))) []]) K):L3 P N ops (⟨some d,.nilCheck x,ty,pos,af,gd⟩::l) ⟨ts,L⟩ tr K :=
 K0 (ins:=[(x,.ref n s i c)]) rfl (B7R rfl) hw (by simp[Op.operands,hx]) (by simp) hd kk
theorem S2 {x:Operand} {q:List D} {s i c:Nat} (hx:O9 ts x = .d (.el s q i c)) (hw:I2 ops ts ⟨some d,.nilCheck x,ty,pos,af,gd⟩=some true) (hd:Nat.blt d N=true) (kk:L3 P N ops l ⟨(d,.d (.el s q i c))::ts,L⟩ (tr++[.run (List.map Prod.fst ([]:List (Nat × Rw))) []]) K):L3 P N ops (⟨some d,.nilCheck x,ty,pos,af,gd⟩::l) ⟨ts,L⟩ tr K :=
 K0 (ins:=[(x,.d (.el s q i c))]) rfl (B8T rfl) hw (by simp[Op.operands,hx]) (by simp) hd kk
theorem A1B {x:Operand} {q:List T} {k:Nat} {t:T} (hx:O9 ts x = .tup q) (hk:q[k]?=some t) (hw:I2 ops ts ⟨some d,.extract x k,ty,pos,af,gd⟩=some true) (hd:Nat.blt d N=true) (kk:L3 P N ops l ⟨(d,t)::ts,L⟩ (tr++[.run (List.map Prod.fst ([]:List (Nat × Rw))) []]) K):L3 P N ops (⟨some d,.extract x k,ty,pos,af,gd⟩::l) ⟨ts,L⟩ tr K :=
 K0 (ins:=[(x,.tup q)]) rfl (B69 rfl hk) hw (by simp[Op.operands,hx]) (by simp) hd kk
theorem Q1 {x:Operand} {q:List D} {k:Nat} {t:D} (hx:O9 ts x = .d (.tup q)) (hk:q[k]?=some t) (hw:I2 ops ts ⟨some d,.extract x k,ty,pos,af,gd⟩=some true) (hd:Nat.blt d N=true) (kk:L3 P N ops l ⟨(d,.d t)::ts,L⟩ (tr++[.run (List.map Prod.fst ([]:List (Nat × Rw))) []]) K):L3 P N ops (⟨some d,.extract x k,ty,pos,af,gd⟩::l) ⟨ts,L⟩ tr K :=
 K0 (ins:=[(x,.d (.tup q))]) rfl (B5a rfl hk) hw (by simp[Op.operands,hx]) (by simp) hd kk
theorem M5 {t:TypeId} {a0:Bool} {s b0:Nat} {z0:T} {sl0:Option TypeId} {fs0:List (Nat × Bool × Nat)} {ar0:Option (Nat × TypeId)} {nf0:Bool} {n:Nat} {nr:List Nat} (tb:Tab P) (ht:tb.f t=some ⟨a0,s,b0,z0,sl0,fs0,ar0,nf0⟩) (h0:Nat.beq s 0=false) (hn:A4f.drop L.length=n::nr) (hw:I2 ops ts ⟨some d,.alloc t,ty,pos,af,gd⟩=some true) (hd:Nat.blt d N=true) (kk:L3 P N ops l ⟨(d,.ref n s 0 0)::ts,L++[some ⟨s,[z0]⟩]⟩ (tr++[.run (List.map Prod.fst ([]:List (Nat × Rw))++[n]) [n]]) K):L3 P N ops (⟨some d,.alloc t,ty,pos,af,gd⟩::l) ⟨ts,L⟩ tr K :=
 by have e0:=A21 hn;subst e0;exact B0N (ins:=[]) rfl (B8L (P:=P) (o:=⟨some d,.alloc t,ty,pos,af,gd⟩) (fresh:=L.length) rfl (tb.ok _ _ ht) h0) hw (by simp) (by simp) hd kk
theorem C09 {t:TypeId} {x:Operand} {u:T} {s:Nat} {nr2:List Nat} {n:Nat} {nr:List Nat} (hx:O9 ts x=u) (hs:A4f.drop u.cells.length=s::nr2) (hu:A4y u.cells=true) (h0:Nat.beq s 0=false) (hn:A4f.drop L.length=n::nr) (hw:I2 ops ts ⟨some d,.box t x,ty,pos,af,gd⟩=some true) (hd:Nat.blt d N=true) (kk:L3 P N ops l ⟨(d,.ref n s 0 0)::ts,L++[some ⟨s,[u]⟩]⟩ (tr++[.run (List.map Prod.fst ([]:List (Nat × Rw))++[n]) [n]]) K):L3 P N ops (⟨some d,.box t x,ty,pos,af,gd⟩::l) ⟨ts,L⟩ tr K :=
 by have e0:=A21 hn;subst e0;exact B0N (ins:=[(x,u)]) rfl (C06 rfl (A21 hs) h0 (by unfold A4y at hu;rwa [List.all_eq_true]at hu)) hw (by simp[Op.operands,hx]) (by simp) hd kk
theorem A15 {t:TypeId} {i:TI} {x:Operand} {n s q c:Nat} {r:Rw} {e:T} {y:D} (tb:Tab P) (ht:tb.f t=some i) (hx:O9 ts x = .ref n s q c) (hr:L[n]?=some (some r)) (hs:r.s=s) (he:r.els[q]?=some e) (hp:A2S i e.cells.length c=true) (hv:A29 i e.cells c = .d y) (hw:I2 ops ts ⟨some d,.load t x,ty,pos,af,gd⟩=some true) (hd:Nat.blt d N=true) (kk:L3 P N ops l ⟨(d,.d y)::ts,L⟩ (tr++[.run (List.map Prod.fst ([(n,r)]:List (Nat × Rw))) []]) K):L3 P N ops (⟨some d,.load t x,ty,pos,af,gd⟩::l) ⟨ts,L⟩ tr K :=
 K0 (ins:=[(x,.ref n s q c)]) rfl (hv▸B0W rfl (tb.ok _ _ ht) hs he hp) hw (by simp[Op.operands,hx]) (by simp[hr]) hd kk
theorem A1m {t:TypeId} {i:TI} {x:Operand} {n s q c:Nat} {r:Rw} {e:T} {n2 s2 i2 c2:Nat} (tb:Tab P) (ht:tb.f t=some i) (hx:O9 ts x = .ref n s q c) (hr:L[n]?=some (some r)) (hs:r.s=s) (he:r.els[q]?=some e) (hp:A2S i e.cells.length c=true) (hv:A29 i e.cells c = .ref n2 s2 i2 c2) (hw:I2 ops ts ⟨some d,.load t x,ty,pos,af,gd⟩=some true) (hd:Nat.blt d N=true) (kk:L3 P N ops l ⟨(d,.ref n2 s2 i2 c2)::ts,L⟩ (tr++[.run (List.map Prod.fst ([(n,r)]:List (Nat × Rw))) []]) K):L3 P N ops (⟨some d,.load t x,ty,pos,af,gd⟩::l) ⟨ts,L⟩ tr K :=
 K0 (ins:=[(x,.ref n s q c)]) rfl (hv▸B0W rfl (tb.ok _ _ ht) hs he hp) hw (by simp[Op.operands,hx]) (by simp[hr]) hd kk
theorem W4 {t:TypeId} {i:TI} {x:Operand} {n s q c:Nat} {r:Rw} {e:T} {n2 s2 lo len:Nat} (tb:Tab P) (ht:tb.f t=some i) (hx:O9 ts x = .ref n s q c) (hr:L[n]?=some (some r)) (hs:r.s=s) (he:r.els[q]?=some e) (hp:A2S i e.cells.length c=true) (hv:A29 i e.cells c = .row n2 s2 lo len) (hw:I2 ops ts ⟨some d,.load t x,ty,pos,af,gd⟩=some true) (hd:Nat.blt d N=true) (kk:L3 P N ops l ⟨(d,.row n2 s2 lo len)::ts,L⟩ (tr++[.run (List.map Prod.fst ([(n,r)]:List (Nat × Rw))) []]) K):L3 P N ops (⟨some d,.load t x,ty,pos,af,gd⟩::l) ⟨ts,L⟩ tr K :=
 K0 (ins:=[(x,.ref n s q c)]) rfl (hv▸B0W rfl (tb.ok _ _ ht) hs he hp) hw (by simp[Op.operands,hx]) (by simp[hr]) hd kk
theorem B4i {t:TypeId} {i:TI} {x:Operand} {n s q c:Nat} {r:Rw} {e:T} {q2:List T} (tb:Tab P) (ht:tb.f t=some i) (hx:O9 ts x = .ref n s q c) (hr:L[n]?=some (some r)) (hs:r.s=s) (he:r.els[q]?=some e) (hp:A2S i e.cells.length c=true) (hv:A29 i e.cells c = .agg q2) (hw:I2 ops ts ⟨some d,.load t x,ty,pos,af,gd⟩=some true) (hd:Nat.blt d N=true) (kk:L3 P N ops l ⟨(d,.agg q2)::ts,L⟩ (tr++[.run (List.map Prod.fst ([(n,r)]:List (Nat × Rw))) []]) K):L3 P N ops (⟨some d,.load t x,ty,pos,af,gd⟩::l) ⟨ts,L⟩ tr K :=
 K0 (ins:=[(x,.ref n s q c)]) rfl (hv▸B0W rfl (tb.ok _ _ ht) hs he hp) hw (by simp[Op.operands,hx]) (by simp[hr]) hd kk
theorem C0G {t:TypeId} {i:TI} {x:Operand} {s q c:Nat} {w:List D} {e y:D} (tb:Tab P) (ht:tb.f t=some i) (hx:O9 ts x = .d (.el s w q c)) (he:w[q]?=some e) (hp:A2S i e.cells.length c=true) (hv:A29 i (e.cells.map .d) c = .d y) (hw:I2 ops ts ⟨some d,.load t x,ty,pos,af,gd⟩=some true) (hd:Nat.blt d N=true) (kk:L3 P N ops l ⟨(d,.d y)::ts,L⟩ (tr++[.run (List.map Prod.fst ([]:List (Nat × Rw))) []]) K):L3 P N ops (⟨some d,.load t x,ty,pos,af,gd⟩::l) ⟨ts,L⟩ tr K :=
 K0 (ins:=[(x,.d (.el s w q c))]) rfl (hv▸B8S rfl (tb.ok _ _ ht) he hp) hw (by simp[Op.operands,hx]) (by simp) hd kk
theorem C1b {t:TypeId} {i:TI} {x:Operand} {n s q c f m:Nat} {b:Bool} {c':Nat} (tb:Tab P) (ht:tb.f t=some i) (hx:O9 ts x = .ref n s q c) (hf:i.fs[f]?=some (c',b,m)) (hm:Nat.beq m 0=false) {o2:Nat} {nr:List Nat} (ho:A4f.drop (c+c')=o2::nr) (hw:I2 ops ts ⟨some d,.fieldAddr t x f,ty,pos,af,gd⟩=some true) (hd:Nat.blt d N=true) (kk:L3 P N ops l ⟨(d,.ref n s q o2)::ts,L⟩ (tr++[.run (List.map Prod.fst ([]:List (Nat × Rw))) []]) K):L3 P N ops (⟨some d,.fieldAddr t x f,ty,pos,af,gd⟩::l) ⟨ts,L⟩ tr K :=
 K0 (ins:=[(x,.ref n s q c)]) rfl (A21 ho▸B5b rfl (tb.ok _ _ ht) hf hm) hw (by simp[Op.operands,hx]) (by simp) hd kk
theorem C0C {t:TypeId} {i:TI} {x:Operand} {s q c f m:Nat} {w:List D} {b:Bool} {c':Nat} (tb:Tab P) (ht:tb.f t=some i) (hx:O9 ts x = .d (.el s w q c)) (hf:i.fs[f]?=some (c',b,m)) (hm:Nat.beq m 0=false) {o2:Nat} {nr:List Nat} (ho:A4f.drop (c+c')=o2::nr) (hw:I2 ops ts ⟨some d,.fieldAddr t x f,ty,pos,af,gd⟩=some true) (hd:Nat.blt d N=true) (kk:L3 P N ops l ⟨(d,.d (.el s w q o2))::ts,L⟩ (tr++[.run (List.map Prod.fst ([]:List (Nat × Rw))) []]) K):L3 P N ops (⟨some d,.fieldAddr t x f,ty,pos,af,gd⟩::l) ⟨ts,L⟩ tr K :=
 K0 (ins:=[(x,.d (.el s w q c))]) rfl (A21 ho▸B6A rfl (tb.ok _ _ ht) hf hm) hw (by simp[Op.operands,hx]) (by simp) hd kk
theorem C0F {t e:TypeId} {i ei:TI} {x y:Operand} {n s lo len:Nat} {k:IntKind} {q:Int} (tb:Tab P) (ht:tb.f t=some i) (hs:i.sl=some e) (he:tb.f e=some ei) (hx:O9 ts x = .row n s lo len) (hz:ei.size=s) (hy:O9 ts y = .d (.v (.int k q))) (h0:0≤q) (h1:q<len) (hw:I2 ops ts ⟨some d,.indexAddr t x y,ty,pos,af,gd⟩=some true) (hd:Nat.blt d N=true) (kk:L3 P N ops l ⟨(d,.ref n s (lo+q.toNat) 0)::ts,L⟩ (tr++[.run (List.map Prod.fst ([]:List (Nat × Rw))) []]) K):L3 P N ops (⟨some d,.indexAddr t x y,ty,pos,af,gd⟩::l) ⟨ts,L⟩ tr K :=
 K0 (ins:=[(x,.row n s lo len),(y,.d (.v (.int k q)))]) rfl (B5e rfl (tb.ok _ _ ht) hs (tb.ok _ _ he) hz h0 h1) hw (by simp[Op.operands,hx,hy]) (by simp) hd kk
theorem C0E {t e:TypeId} {i ei:TI} {x y:Operand} {s:Nat} {w:List D} {k:IntKind} {q:Int} (tb:Tab P) (ht:tb.f t=some i) (hs:i.sl=some e) (he:tb.f e=some ei) (hx:O9 ts x = .d (.arr s w)) (hz:ei.size=s) (hy:O9 ts y = .d (.v (.int k q))) (h0:0≤q) (h1:q<w.length) (hw:I2 ops ts ⟨some d,.indexAddr t x y,ty,pos,af,gd⟩=some true) (hd:Nat.blt d N=true) (kk:L3 P N ops l ⟨(d,.d (.el s w q.toNat 0))::ts,L⟩ (tr++[.run (List.map Prod.fst ([]:List (Nat × Rw))) []]) K):L3 P N ops (⟨some d,.indexAddr t x y,ty,pos,af,gd⟩::l) ⟨ts,L⟩ tr K :=
 K0 (ins:=[(x,.d (.arr s w)),(y,.d (.v (.int k q)))]) rfl (B5d rfl (tb.ok _ _ ht) hs (tb.ok _ _ he) hz h0 h1) hw (by simp[Op.operands,hx,hy]) (by simp) hd kk
theorem C0D {t e:TypeId} {i ei:TI} {x y:Operand} {n s j c m:Nat} {k:IntKind} {q:Int} (tb:Tab P) (ht:tb.f t=some i) (hs:i.ar=some (m,e)) (he:tb.f e=some ei) (hx:O9 ts x = .ref n s j c) (hy:O9 ts y = .d (.v (.int k q))) (h0:0≤q) (h1:q<m) (hw:I2 ops ts ⟨some d,.indexAddr t x y,ty,pos,af,gd⟩=some true) (hd:Nat.blt d N=true) (kk:L3 P N ops l ⟨(d,.ref n s j (c+q.toNat*ei.size))::ts,L⟩ (tr++[.run (List.map Prod.fst ([]:List (Nat × Rw))) []]) K):L3 P N ops (⟨some d,.indexAddr t x y,ty,pos,af,gd⟩::l) ⟨ts,L⟩ tr K :=
 K0 (ins:=[(x,.ref n s j c),(y,.d (.v (.int k q)))]) rfl (B3U rfl (tb.ok _ _ ht) hs (tb.ok _ _ he) h0 h1) hw (by simp[Op.operands,hx,hy]) (by simp) hd kk
theorem B9X {α:Type} {t e:TypeId} {i:TI} {x:Operand} {s:Nat} {w:List α} {g:α→D} (tb:Tab P) (ht:tb.f t=some i) (hs:i.sl=some e) (hx:O9 ts x = .d (.arr s (w.map g))) (hw:I2 ops ts ⟨some d,.call { callee := .builtin .len,args:=#[x],argTypes:=#[t] },ty,pos,af,gd⟩=some true) (hd:Nat.blt d N=true) (kk:L3 P N ops l ⟨(d,.d (.v (.int .i64 (w.length:Nat))))::ts,L⟩ (tr++[.run (List.map Prod.fst ([]:List (Nat × Rw))) []]) K):L3 P N ops (⟨some d,.call { callee := .builtin .len,args:=#[x],argTypes:=#[t] },ty,pos,af,gd⟩::l) ⟨ts,L⟩ tr K :=
 K0 (ins:=[(x,.d (.arr s (w.map g)))]) rfl (by have:=B9w (P:=P) (o:=⟨some d,.call { callee := .builtin .len,args:=#[x],argTypes:=#[t] },ty,pos,af,gd⟩) (fresh:=L.length) (u := .d (.arr s (w.map g))) rfl (tb.ok _ _ ht) hs (.inl ⟨s,_,rfl,rfl⟩);rw[List.length_map]at this;exact this) hw (by simp[Op.operands,Call.operands,hx]) (by simp) hd kk
theorem A8F {t e:TypeId} {i:TI} {x:Operand} {n s lo len:Nat} (tb:Tab P) (ht:tb.f t=some i) (hs:i.sl=some e) (hx:O9 ts x = .row n s lo len) (hw:I2 ops ts ⟨some d,.call { callee := .builtin .len,args:=#[x],argTypes:=#[t] },ty,pos,af,gd⟩=some true) (hd:Nat.blt d N=true) (kk:L3 P N ops l ⟨(d,.d (.v (.int .i64 len)))::ts,L⟩ (tr++[.run (List.map Prod.fst ([]:List (Nat × Rw))) []]) K):L3 P N ops (⟨some d,.call { callee := .builtin .len,args:=#[x],argTypes:=#[t] },ty,pos,af,gd⟩::l) ⟨ts,L⟩ tr K :=
 K0 (ins:=[(x,.row n s lo len)]) rfl (B9w rfl (tb.ok _ _ ht) hs (.inr (.inl ⟨n,s,lo,rfl⟩))) hw (by simp[Op.operands,Call.operands,hx]) (by simp) hd kk
theorem B9Y {t:TypeId} {x:Operand} {b:ByteArray} (ht:P.underlying t=some .string) (hx:O9 ts x = .d (.v (.string b))) (hw:I2 ops ts ⟨some d,.call { callee := .builtin .len,args:=#[x],argTypes:=#[t] },ty,pos,af,gd⟩=some true) (hd:Nat.blt d N=true) (kk:L3 P N ops l ⟨(d,.d (.v (.int .i64 b.size)))::ts,L⟩ (tr++[.run (List.map Prod.fst ([]:List (Nat × Rw))) []]) K):L3 P N ops (⟨some d,.call { callee := .builtin .len,args:=#[x],argTypes:=#[t] },ty,pos,af,gd⟩::l) ⟨ts,L⟩ tr K :=
 K0 (ins:=[(x,.d (.v (.string b)))]) rfl (B7P rfl ht) hw (by simp[Op.operands,Call.operands,hx]) (by simp) hd kk
theorem B9g {α:Type} {t e:TypeId} {i ei:TI} {x z:Operand} {s:Nat} {w:List α} {g:α→D} {k2:IntKind} {q:Nat} (tb:Tab P) (ht:tb.f t=some i) (hs:i.sl=some e) (he:tb.f e=some ei) (hx:O9 ts x = .d (.arr s (w.map g))) (hz:ei.size=s) (hq:O9 ts z = .d (.v (.int k2 (q:Nat)))) (h1:q≤w.length) (hw:I2 ops ts ⟨some d,.slice t x none (some z) none,ty,pos,af,gd⟩=some true) (hd:Nat.blt d N=true) (kk:L3 P N ops l ⟨(d,.d (.arr s ((w.take q).map g)))::ts,L⟩ (tr++[.run (List.map Prod.fst ([]:List (Nat × Rw))) []]) K):L3 P N ops (⟨some d,.slice t x none (some z) none,ty,pos,af,gd⟩::l) ⟨ts,L⟩ tr K :=
 K0 (ins:=[(x,.d (.arr s (w.map g))),(z,.d (.v (.int k2 (q:Nat))))]) rfl (List.map_take▸B6D rfl (tb.ok _ _ ht) hs (tb.ok _ _ he) hz (by rw[List.length_map];exact h1)) hw (by simp[Op.operands,hx,hq]) (by simp) hd kk
theorem B3f {tys:Array TypeId} {x y:Operand} {k:IntKind} {a b:Int} (hx:O9 ts x = .d (.v (.int k a))) (hy:O9 ts y = .d (.v (.int k b))) (hw:I2 ops ts ⟨some d,.call { callee := .builtin .max,args:=#[x,y],argTypes:=tys },ty,pos,af,gd⟩=some true) (hd:Nat.blt d N=true) (kk:L3 P N ops l ⟨(d,.d (.v (.int k (max a b))))::ts,L⟩ (tr++[.run (List.map Prod.fst ([]:List (Nat × Rw))) []]) K):L3 P N ops (⟨some d,.call { callee := .builtin .max,args:=#[x,y],argTypes:=tys },ty,pos,af,gd⟩::l) ⟨ts,L⟩ tr K :=
 K0 (ins:=[(x,.d (.v (.int k a))),(y,.d (.v (.int k b)))]) rfl (B4Y (p := .int k a) (q := .int k b) (z := .int k (max a b)) rfl rfl (fun w c=>by simp[builtin,Builtin.max_,Builtin.max2,List.foldlM];omega)) hw (by simp[Op.operands,Call.operands,hx,hy]) (by simp) hd kk
theorem A9L {tys:Array TypeId} {x y u:Operand} {k:IntKind} {a b e:Int} (hx:O9 ts x = .d (.v (.int k a))) (hy:O9 ts y = .d (.v (.int k b))) (hu:O9 ts u = .d (.v (.int k e))) (hw:I2 ops ts ⟨some d,.call { callee := .builtin .max,args:=#[x,y,u],argTypes:=tys },ty,pos,af,gd⟩=some true) (hd:Nat.blt d N=true) (kk:L3 P N ops l ⟨(d,.d (.v (.int k (max (max a b) e))))::ts,L⟩ (tr++[.run (List.map Prod.fst ([]:List (Nat × Rw))) []]) K):L3 P N ops (⟨some d,.call { callee := .builtin .max,args:=#[x,y,u],argTypes:=tys },ty,pos,af,gd⟩::l) ⟨ts,L⟩ tr K :=
 K0 (ins:=[(x,.d (.v (.int k a))),(y,.d (.v (.int k b))),(u,.d (.v (.int k e)))]) rfl (B4Z (p := .int k a) (q := .int k b) (r := .int k e) (z := .int k (max (max a b) e)) rfl rfl (fun w c=>by simp[builtin,Builtin.max_,Builtin.max2,List.foldlM];omega)) hw (by simp[Op.operands,Call.operands,hx,hy,hu]) (by simp) hd kk
theorem C2H {tys:Array TypeId} {x y:Operand} {k:IntKind} {a b:Int} (hx:O9 ts x = .d (.v (.int k a))) (hy:O9 ts y = .d (.v (.int k b))) (hw:I2 ops ts ⟨some d,.call { callee := .builtin .min,args:=#[x,y],argTypes:=tys },ty,pos,af,gd⟩=some true) (hd:Nat.blt d N=true) (kk:L3 P N ops l ⟨(d,.d (.v (.int k (min a b))))::ts,L⟩ (tr++[.run (List.map Prod.fst ([]:List (Nat × Rw))) []]) K):L3 P N ops (⟨some d,.call { callee := .builtin .min,args:=#[x,y],argTypes:=tys },ty,pos,af,gd⟩::l) ⟨ts,L⟩ tr K :=
 K0 (ins:=[(x,.d (.v (.int k a))),(y,.d (.v (.int k b)))]) rfl (B4Y (p := .int k a) (q := .int k b) (z := .int k (min a b)) rfl rfl (fun w c=>by simp[builtin,Builtin.min_,Builtin.min2,List.foldlM];omega)) hw (by simp[Op.operands,Call.operands,hx,hy]) (by simp) hd kk
theorem C0c {t e:TypeId} {i ei:TI} {x y:Operand} {s:Nat} {w:List D} {k:IntKind} {p:Nat} (tb:Tab P) (ht:tb.f t=some i) (hs:i.sl=some e) (he:tb.f e=some ei) (hx:O9 ts x = .d (.arr s w)) (hz:ei.size=s) (hy:O9 ts y = .d (.v (.int k p))) (h1:p≤w.length) (hw:I2 ops ts ⟨some d,.slice t x (some y) none none,ty,pos,af,gd⟩=some true) (hd:Nat.blt d N=true) (kk:L3 P N ops l ⟨(d,.d (.arr s (w.drop p)))::ts,L⟩ (tr++[.run (List.map Prod.fst ([]:List (Nat × Rw))) []]) K):L3 P N ops (⟨some d,.slice t x (some y) none none,ty,pos,af,gd⟩::l) ⟨ts,L⟩ tr K :=
 K0 (ins:=[(x,.d (.arr s w)),(y,.d (.v (.int k p)))]) rfl (B6E rfl (tb.ok _ _ ht) hs (tb.ok _ _ he) hz h1) hw (by simp[Op.operands,hx,hy]) (by simp) hd kk
theorem S1 {t:TypeId} {i:TI} {parts:Array (Nat × Operand)} {us:List T} {v:T} (tb:Tab P) (ht:tb.f t=some i) (hx:(parts.toList.map (·.2)).map (O9 ts)=us) (hfs:i.fs≠[]) (h1:A3f us=true) (hin:B2Z i.fs parts.toList=true) (hk:A6Z i.z.cells.length (A4M i.fs parts.toList us)=true) (hv:mkAgg (A8W i.z.cells ((A4M i.fs parts.toList us).map fun q=>(q.1,q.2.2)))=v) (hw:I2 ops ts ⟨some d,.build t parts,ty,pos,af,gd⟩=some true) (hd:Nat.blt d N=true) (kk:L3 P N ops l ⟨(d,v)::ts,L⟩ (tr++[.run (List.map Prod.fst ([]:List (Nat × Rw))) []]) K):L3 P N ops (⟨some d,.build t parts,ty,pos,af,gd⟩::l) ⟨ts,L⟩ tr K :=
 K0 rfl (hv▸B8M rfl (tb.ok _ _ ht) hfs (by rw[← hx];simp) h1 hin hk) hw (fun p hp=>by obtain⟨a,b⟩:=A2Z hx p hp;exact⟨a,by simpa[Op.operands]using b⟩) (by simp) hd kk
theorem P7 {t e:TypeId} {i:TI} {a0:Bool} {s b0:Nat} {z0:T} {sl0:Option TypeId} {fs0:List (Nat × Bool × Nat)} {ar0:Option (Nat × TypeId)} {nf0:Bool} {len:Nat} {parts:Array (Nat × Operand)} {us:List T} {n:Nat} {nr:List Nat} (tb:Tab P) (ht:tb.f t=some i) (hsl:i.sl=some e) (he:tb.f e=some ⟨a0,s,b0,z0,sl0,fs0,ar0,nf0⟩) (h0:Nat.beq s 0=false) (hx:(parts.toList.map (·.2)).map (O9 ts)=us) (hlen:us.length=len) (hsq:A7J 0 parts.toList=true) (hs:B02 s us=true) (h1:A3f us=true) (hb:Nat.ble (len*s) 16777216=true) (hn:A4f.drop L.length=n::nr) (hw:I2 ops ts ⟨some d,.buildSlice t len parts,ty,pos,af,gd⟩=some true) (hd:Nat.blt d N=true) (kk:L3 P N ops l ⟨(d,.row n s 0 len)::ts,L++[some ⟨s,us⟩]⟩ (tr++[.run (List.map Prod.fst ([]:List (Nat × Rw))++[n]) [n]]) K):L3 P N ops (⟨some d,.buildSlice t len parts,ty,pos,af,gd⟩::l) ⟨ts,L⟩ tr K :=
 by have e0:=A21 hn;subst e0;exact B0N rfl (B2N rfl (tb.ok _ _ ht) hsl (tb.ok _ _ he) (by rw[← hx];simp) hlen hsq hs h1 (Nat.le_of_ble_eq_true hb) h0) hw (fun p hp=>by obtain⟨a,b⟩:=A2Z hx p hp;exact⟨a,by simpa[Op.operands]using b⟩) (by simp) hd kk
theorem B9Z {t e:TypeId} {i:TI} {a0:Bool} {s b0:Nat} {z0:T} {sl0:Option TypeId} {fs0:List (Nat × Bool × Nat)} {ar0:Option (Nat × TypeId)} {nf0:Bool} {x y:Operand} {k k':IntKind} {q:Nat} {n:Nat} {nr:List Nat} (tb:Tab P) (ht:tb.f t=some i) (hsl:i.sl=some e) (he:tb.f e=some ⟨a0,s,b0,z0,sl0,fs0,ar0,nf0⟩) (h0:Nat.beq s 0=false) (hx:O9 ts x = .d (.v (.int k q))) (hy:O9 ts y = .d (.v (.int k' q))) (hq:q≤9223372036854775807) (hb:b0*q≤281474976710656) (hn:A4f.drop L.length=n::nr) (hw:I2 ops ts ⟨some d,.makeSlice t x y,ty,pos,af,gd⟩=some true) (hd:Nat.blt d N=true) (kk:L3 P N ops l ⟨(d,.row n s 0 q)::ts,L++[some ⟨s,List.replicate q z0⟩]⟩ (tr++[.run (List.map Prod.fst ([]:List (Nat × Rw))++[n]) [n]]) K):L3 P N ops (⟨some d,.makeSlice t x y,ty,pos,af,gd⟩::l) ⟨ts,L⟩ tr K :=
 by have e0:=A21 hn;subst e0;exact B0N (ins:=[(x,.d (.v (.int k q))),(y,.d (.v (.int k' q)))]) rfl (B3W rfl (tb.ok _ _ ht) hsl (tb.ok _ _ he) hq hb h0) hw (by simp[Op.operands,hx,hy]) (by simp) hd kk

theorem C0L {t:TypeId} {i:TI} {x y:Operand} {n s q c:Nat} {r:Rw} {e u:T} (tb:Tab P) (ht:tb.f t=some i) (hx:O9 ts x = .ref n s q c) (hy:O9 ts y=u) (hr:L[n]?=some (some r)) (hs:r.s=s) (he:r.els[q]?=some e) (hu:u.cells.length=i.size)
  (h1:A4y u.cells=true) (hc:Nat.ble (c+i.size) e.cells.length=true) {r':Rw} (hr':(⟨r.s,r.els.set q (A9t e c u)⟩:Rw)=r') {L':List (Option Rw)} (hL:L.set n (some r')=L') (hw:I2 ops ts ⟨none,.store t x y,ty,pos,af,gd⟩=some true)
  (k:L3 P N ops l ⟨ts,L'⟩ (tr++[.run [n] [n]]) K):L3 P N ops (⟨none,.store t x y,ty,pos,af,gd⟩::l) ⟨ts,L⟩ tr K:=by
 refine A2i (.run hw (B8U (fresh:=L.length) (n:=n) (s:=s) (k:=q) (c:=c) (u:=u) rfl (tb.ok _ _ ht) hs he hu (by unfold A4y at h1;rwa [List.all_eq_true]at h1) (Nat.le_of_ble_eq_true hc)) ?_ ?_ ?_ rfl) ?_
 ·intro p hp
  simp only[List.mem_cons,List.not_mem_nil,or_false]at hp
  rcases hp with rfl | rfl
  ·exact⟨hx,by simp[Op.operands]⟩
  ·exact⟨hy,by simp[Op.operands]⟩
 ·intro p hp;simp only[List.mem_cons,List.not_mem_nil,or_false]at hp;subst hp;exact hr
 ·intro p hp;simp only[List.mem_cons,List.not_mem_nil,or_false]at hp;subst hp;exact⟨(n,r),by simp,rfl⟩
 ·subst hr' hL;simpa[St.eff,A5m,A4m]using k
theorem C1a {t e:TypeId} {i ei:TI} {x y:Operand} {s n n' lo len len':Nat} {r r2:Rw} {q:List T} (tb:Tab P) (ht:tb.f t=some i) (hsl:i.sl=some e) (he:tb.f e=some ei) (hz:ei.size=s) (hx:O9 ts x = .row n s 0 len) (hy:O9 ts y = .row n' s lo len') (hr:L[n]?=some (some r)) (hs:r.s=s) (hlen:r.els.length=len)
  (hr2:L[n']?=some (some r2)) (hs2:r2.s=s) (hq:(r2.els.drop lo).take len'=q) (hle:Nat.ble (lo+len') r2.els.length=true) (h1:A3f q=true) (hm:len+q.length≤1000000000) (hb:Nat.ble ei.bytes 65536=true) {m:Nat} (hqm:q.length=m) {L':List (Option Rw)} (hL:L.set n none=L') {nn:Nat} {nr:List Nat} (hnn:A4f.drop L.length=nn::nr)
  (hw:I2 ops ts ⟨some d,.call { callee := .builtin .append,args:=#[x,y],argTypes:=#[t,t] },ty,pos,af,gd⟩=some true) (hd:Nat.blt d N=true)
  (k:L3 P N ops l ⟨(d,.row nn s 0 (len+m))::ts,L'++[some ⟨s,r.els++q⟩]⟩ (tr++[.run [n,n',nn] [n,nn]]) K):L3 P N ops (⟨some d,.call { callee := .builtin .append,args:=#[x,y],argTypes:=#[t,t] },ty,pos,af,gd⟩::l) ⟨ts,L⟩ tr K:=by
 have e0:=A21 hnn
 subst hqm hL hz e0
 have hb':=Nat.le_of_ble_eq_true hb
 have hnl:n<L.length:=(List.getElem?_eq_some_iff.1 hr).1
 refine A2i (.run hw (B3T (fresh:=L.length) (n:=n) (s:=ei.size) (len:=len) (r:=r) (u := .row n' ei.size lo len') (rn:=[(n,r),(n',r2)]) (l:=q) rfl (tb.ok _ _ ht) hsl (tb.ok _ _ he) rfl (.inr (.inr ⟨n',lo,len',r2,rfl,by simp,hs2,Nat.le_of_ble_eq_true hle,hq.symm⟩)) (by simp) hs hlen h1 (by omega) (Nat.le_trans (Nat.mul_le_mul hm hb') (by decide)) (by omega)) ?_ ?_ ?_ hd) ?_
 ·intro p hp
  simp only[List.mem_cons,List.not_mem_nil,or_false]at hp
  rcases hp with rfl | rfl
  ·exact⟨hx,by simp[Op.operands,Call.operands]⟩
  ·exact⟨hy,by simp[Op.operands,Call.operands]⟩
 ·intro p hp;simp only[List.mem_cons,List.not_mem_nil,or_false]at hp;rcases hp with rfl | rfl<;>assumption
 ·intro p hp;simp only[List.mem_cons,List.not_mem_nil,or_false]at hp;subst hp;exact⟨(n,r),by simp,rfl⟩
 ·simpa[St.eff,A5m,A4m]using k
theorem C3r {t e:TypeId} {i ei:TI} {x y:Operand} {s n len:Nat} {r:Rw} {q:List D} (tb:Tab P) (ht:tb.f t=some i) (hsl:i.sl=some e) (he:tb.f e=some ei) (hz:ei.size=s) (hx:O9 ts x = .row n s 0 len) (hy:O9 ts y = .d (.arr s q)) (hr:L[n]?=some (some r)) (hs:r.s=s) (hlen:r.els.length=len)
  (h1:A3f (q.map .d)=true) (hm:len+q.length≤1000000000) (hb:Nat.ble ei.bytes 65536=true) {L':List (Option Rw)} (hL:L.set n none=L') {nn:Nat} {nr:List Nat} (hnn:A4f.drop L.length=nn::nr)
  (hw:I2 ops ts ⟨some d,.call { callee := .builtin .append,args:=#[x,y],argTypes:=#[t,t] },ty,pos,af,gd⟩=some true) (hd:Nat.blt d N=true)
  (k:L3 P N ops l ⟨(d,.row nn s 0 (len+q.length))::ts,L'++[some ⟨s,r.els++q.map .d⟩]⟩ (tr++[.run [n,nn] [n,nn]]) K):L3 P N ops (⟨some d,.call { callee := .builtin .append,args:=#[x,y],argTypes:=#[t,t] },ty,pos,af,gd⟩::l) ⟨ts,L⟩ tr K:=by
 have e0:=A21 hnn
 subst hL hz e0
 have hb':=Nat.le_of_ble_eq_true hb
 have hnl:n<L.length:=(List.getElem?_eq_some_iff.1 hr).1
 refine A2i (.run hw (B3T (fresh:=L.length) (n:=n) (s:=ei.size) (len:=len) (r:=r) (u := .d (.arr ei.size q)) (rn:=[(n,r)]) (l:=q.map .d) rfl (tb.ok _ _ ht) hsl (tb.ok _ _ he) rfl (.inr (.inl ⟨q,rfl,rfl⟩)) (by simp) hs hlen h1 (by simp;omega) (Nat.le_trans (Nat.mul_le_mul (by simpa using hm) hb') (by decide)) (by omega)) ?_ ?_ ?_ hd) ?_
 ·intro p hp
  simp only[List.mem_cons,List.not_mem_nil,or_false]at hp
  rcases hp with rfl | rfl
  ·exact⟨hx,by simp[Op.operands,Call.operands]⟩
  ·exact⟨hy,by simp[Op.operands,Call.operands]⟩
 ·intro p hp;simp only[List.mem_cons,List.not_mem_nil,or_false]at hp;subst hp;exact hr
 ·intro p hp;simp only[List.mem_cons,List.not_mem_nil,or_false]at hp;subst hp;exact⟨(n,r),by simp,rfl⟩
 ·simpa[St.eff,A5m,A4m]using k
def PC (P:Program) (f:FuncId) (as:List D) (y:D):Prop:=SC P f (as.map .d) [] fun se L'=>se = .ret (.d y)∧L'=[]
theorem J5 {x:Operand} {xs:Array Operand} {tys:Array TypeId} {f:FuncId} {as:List D} {y:D} (hc:PC P f as y) (he:Ent P f) (hf:O9 ts x = .d (.v (.func (.func f) #[] #[]))) (hx:xs.toList.map (O9 ts)=as.map .d)
  (hw:I2 ops ts ⟨some d,.call { callee := .value x,args:=xs,argTypes:=tys },ty,pos,af,gd⟩=some true) (hd:Nat.blt d N=true) (k:L3 P N ops l ⟨(d,.d y)::ts,L⟩ (tr++[.run [] []]) K) :
  L3 P N ops (⟨some d,.call { callee := .value x,args:=xs,argTypes:=tys },ty,pos,af,gd⟩::l) ⟨ts,L⟩ tr K:=by
 have hro:A5n (kap []) (as.map .d)=as.map .d:=by rw[A1Z];simp[T.ren]
 refine K0 rfl (B2O (P:=P) (fresh:=L.length) (ρ:=[]) (rs:=[]) (ls:=[]) (news:=[]) (fi:=[]) (ca:=[]) (as:=as.map .d) (ts:=as.map .d) rfl he (.inl ⟨rfl,rfl,rfl⟩) (by rw[← hx];simp) hc ?_ ?_ (by simp) rfl rfl (by simp) (by simp)) hw ?_ (by simp[A5T]) hd (by simpa[A5T,T.ren]using k)
 ·rw[hro];simp
 ·rw[A3m];simp[T.sc]
 ·intro p hp
  rcases List.mem_cons.1 hp with rfl | hp
  ·exact⟨hf,by simp[Op.operands,Call.operands]⟩
  ·obtain⟨a,b⟩:=A2Z hx p hp
   exact⟨a,by simp only[Op.operands,Call.operands,Array.mem_append];exact .inr (by simpa using b)⟩
theorem M6 {x:Operand} {xs:Array Operand} {tys:Array TypeId} {f:FuncId} {as:List D} {b:Bool} (hc:PC P f as (.v (.bool b))) (he:Ent P f) (hf:O9 ts x = .d (.v (.func (.func f) #[] #[]))) (hx:xs.toList.map (O9 ts)=as.map .d)
  (hw:I2 ops ts ⟨some d,.call { callee := .value x,args:=xs,argTypes:=tys },ty,pos,af,gd⟩=some true) (hd:Nat.blt d N=true) (kt:b=true→L3 P N ops l ⟨(d,.d (.v (.bool true)))::ts,L⟩ (tr++[.run [] []]) K)
  (kf:b=false→L3 P N ops l ⟨(d,.d (.v (.bool false)))::ts,L⟩ (tr++[.run [] []]) K):L3 P N ops (⟨some d,.call { callee := .value x,args:=xs,argTypes:=tys },ty,pos,af,gd⟩::l) ⟨ts,L⟩ tr K:=by
 cases b with
 | true=>exact J5 hc he hf hx hw hd (kt rfl)
 | false=>exact J5 hc he hf hx hw hd (kf rfl)
end
end Go.Proofs.YtlaogbbcipebgaaGreat.Sh
