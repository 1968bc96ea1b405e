/- Rules of which the plain premises are told at once. Over whatever program. -/
import Derived.Test.YtlaogbbcipebgaaGreatSa27
namespace Go.Proofs.YtlaogbbcipebgaaGreat.Sh
set_option linter.unusedVariables false
set_option linter.unusedSimpArgs false
open Go
section
variable {P:Program} {N:Nat} {ops:Array Oper} {l:List Oper} {ts:List (Nat × T)} {L:List (Option Rw)} {tr:List Stp} {K:List Oper→List Stp→St→Prop} {d:Nat} {ty:TypeId} {pos:String} {af:Array Edge} {gd:Option (Nat × Bool)}
theorem O1 {t1 t2:TypeId} {x y:Operand} {k:IntKind} {a b:Int}  (hh:(O9 ts x,O9 ts y,I2 ops ts ⟨some d,.binOp .add t1 x y t2,ty,pos,af,gd⟩,Nat.blt d N)=(.d (.v (.int k a)),.d (.v (.int k b)),some true,true)) (kk:L3 P N ops l ⟨(d,.d (.v (.int k (k.wrap (a+b)))))::ts,L⟩ (tr++[.run (List.map Prod.fst ([]:List (Nat × Rw))) []]) K):L3 P N ops (⟨some d,.binOp .add t1 x y t2,ty,pos,af,gd⟩::l) ⟨ts,L⟩ tr K :=
 C08 (congrArg (fun p=>p.1) hh) (congrArg (fun p=>p.2.1) hh) (congrArg (fun p=>p.2.2.1) hh) (congrArg (fun p=>p.2.2.2) hh) kk
theorem A3 {x:Operand} {y:D}  (hh:(O9 ts x,I2 ops ts ⟨some d,.assign x,ty,pos,af,gd⟩,Nat.blt d N)=(.d y,some true,true)) (kk:L3 P N ops l ⟨(d,.d y)::ts,L⟩ (tr++[.run (List.map Prod.fst ([]:List (Nat × Rw))) []]) K):L3 P N ops (⟨some d,.assign x,ty,pos,af,gd⟩::l) ⟨ts,L⟩ tr K :=
 B9V (congrArg (fun p=>p.1) hh) (congrArg (fun p=>p.2.1) hh) (congrArg (fun p=>p.2.2) hh) kk
theorem M9 {t:TypeId} {x:Operand} {u:T} {s:Nat} {nr2:List Nat} {n:Nat} {nr:List Nat}  (hh:(O9 ts x,A4f.drop u.cells.length,A4y u.cells,Nat.beq s 0,A4f.drop L.length,I2 ops ts ⟨some d,.box t x,ty,pos,af,gd⟩,Nat.blt d N)=(u,s::nr2,true,false,n::nr,some true,true)) (kk:L3 P N ops l ⟨(d,.ref n s 0 0)::ts,L++[some ⟨s,[u]⟩]⟩ (tr++[.run (List.map Prod.fst ([]:List (Nat × Rw))++[n]) [n]]) K):L3 P N ops (⟨some d,.box t x,ty,pos,af,gd⟩::l) ⟨ts,L⟩ tr K :=
 C09 (congrArg (fun p=>p.1) hh) (congrArg (fun p=>p.2.1) hh) (congrArg (fun p=>p.2.2.1) hh) (congrArg (fun p=>p.2.2.2.1) hh) (congrArg (fun p=>p.2.2.2.2.1) hh) (congrArg (fun p=>p.2.2.2.2.2.1) hh) (congrArg (fun p=>p.2.2.2.2.2.2) hh) kk
theorem C8 {t:TypeId} {i:TI} {x:Operand} {n s q c f m:Nat} {b:Bool} {c':Nat} {o2:Nat} {nr:List Nat} (tb:Tab P) (hh:(tb.f t,O9 ts x,i.fs[f]?,Nat.beq m 0,A4f.drop (c+c'),I2 ops ts ⟨some d,.fieldAddr t x f,ty,pos,af,gd⟩,Nat.blt d N)=(some i,.ref n s q c,some (c',b,m),false,o2::nr,some true,true)) (kk:L3 P N ops l ⟨(d,.ref n s q o2)::ts,L⟩ (tr++[.run (List.map Prod.fst ([]:List (Nat × Rw))) []]) K):L3 P N ops (⟨some d,.fieldAddr t x f,ty,pos,af,gd⟩::l) ⟨ts,L⟩ tr K :=
 C1b tb (congrArg (fun p=>p.1) hh) (congrArg (fun p=>p.2.1) hh) (congrArg (fun p=>p.2.2.1) hh) (congrArg (fun p=>p.2.2.2.1) hh) (congrArg (fun p=>p.2.2.2.2.1) hh) (congrArg (fun p=>p.2.2.2.2.2.1) hh) (congrArg (fun p=>p.2.2.2.2.2.2) hh) kk
theorem M4 {t:TypeId} {i:TI} {x:Operand} {s q c f m:Nat} {w:List D} {b:Bool} {c':Nat} {o2:Nat} {nr:List Nat} (tb:Tab P) (hh:(tb.f t,O9 ts x,i.fs[f]?,Nat.beq m 0,A4f.drop (c+c'),I2 ops ts ⟨some d,.fieldAddr t x f,ty,pos,af,gd⟩,Nat.blt d N)=(some i,.d (.el s w q c),some (c',b,m),false,o2::nr,some true,true)) (kk:L3 P N ops l ⟨(d,.d (.el s w q o2))::ts,L⟩ (tr++[.run (List.map Prod.fst ([]:List (Nat × Rw))) []]) K):L3 P N ops (⟨some d,.fieldAddr t x f,ty,pos,af,gd⟩::l) ⟨ts,L⟩ tr K :=
 C0C tb (congrArg (fun p=>p.1) hh) (congrArg (fun p=>p.2.1) hh) (congrArg (fun p=>p.2.2.1) hh) (congrArg (fun p=>p.2.2.2.1) hh) (congrArg (fun p=>p.2.2.2.2.1) hh) (congrArg (fun p=>p.2.2.2.2.2.1) hh) (congrArg (fun p=>p.2.2.2.2.2.2) hh) kk
theorem N8 {t e:TypeId} {i ei:TI} {x y:Operand} {s:Nat} {w:List D} {k:IntKind} {q:Int} (tb:Tab P) (h0:0≤q) (h1:q<w.length) (hh:(tb.f t,i.sl,tb.f e,O9 ts x,ei.size,O9 ts y,I2 ops ts ⟨some d,.indexAddr t x y,ty,pos,af,gd⟩,Nat.blt d N)=(some i,some e,some ei,.d (.arr s w),s,.d (.v (.int k q)),some true,true)) (kk:L3 P N ops l ⟨(d,.d (.el s w q.toNat 0))::ts,L⟩ (tr++[.run (List.map Prod.fst ([]:List (Nat × Rw))) []]) K):L3 P N ops (⟨some d,.indexAddr t x y,ty,pos,af,gd⟩::l) ⟨ts,L⟩ tr K :=
 C0E tb (congrArg (fun p=>p.1) hh) (congrArg (fun p=>p.2.1) hh) (congrArg (fun p=>p.2.2.1) hh) (congrArg (fun p=>p.2.2.2.1) hh) (congrArg (fun p=>p.2.2.2.2.1) hh) (congrArg (fun p=>p.2.2.2.2.2.1) hh) h0 h1 (congrArg (fun p=>p.2.2.2.2.2.2.1) hh) (congrArg (fun p=>p.2.2.2.2.2.2.2) hh) kk
theorem B5 {t:TypeId} {i:TI} {x:Operand} {n s q c:Nat} {r:Rw} {e:T} {y:D} (tb:Tab P) (hh:(tb.f t,O9 ts x,L[n]?,r.s,r.els[q]?,A2S i e.cells.length c,A29 i e.cells c,I2 ops ts ⟨some d,.load t x,ty,pos,af,gd⟩,Nat.blt d N)=(some i,.ref n s q c,some (some r),s,some e,true,.d y,some true,true)) (kk:L3 P N ops l ⟨(d,.d y)::ts,L⟩ (tr++[.run (List.map Prod.fst ([(n,r)]:List (Nat × Rw))) []]) K):L3 P N ops (⟨some d,.load t x,ty,pos,af,gd⟩::l) ⟨ts,L⟩ tr K :=
 A15 tb (congrArg (fun p=>p.1) hh) (congrArg (fun p=>p.2.1) hh) (congrArg (fun p=>p.2.2.1) hh) (congrArg (fun p=>p.2.2.2.1) hh) (congrArg (fun p=>p.2.2.2.2.1) hh) (congrArg (fun p=>p.2.2.2.2.2.1) hh) (congrArg (fun p=>p.2.2.2.2.2.2.1) hh) (congrArg (fun p=>p.2.2.2.2.2.2.2.1) hh) (congrArg (fun p=>p.2.2.2.2.2.2.2.2) hh) kk
theorem I4 {t:TypeId} {i:TI} {x:Operand} {s q c:Nat} {w:List D} {e y:D} (tb:Tab P) (he:w[q]?=some e) (hh:(tb.f t,O9 ts x,A2S i e.cells.length c,A29 i (e.cells.map .d) c,I2 ops ts ⟨some d,.load t x,ty,pos,af,gd⟩,Nat.blt d N)=(some i,.d (.el s w q c),true,.d y,some true,true)) (kk:L3 P N ops l ⟨(d,.d y)::ts,L⟩ (tr++[.run (List.map Prod.fst ([]:List (Nat × Rw))) []]) K):L3 P N ops (⟨some d,.load t x,ty,pos,af,gd⟩::l) ⟨ts,L⟩ tr K :=
 C0G tb (congrArg (fun p=>p.1) hh) (congrArg (fun p=>p.2.1) hh) he (congrArg (fun p=>p.2.2.1) hh) (congrArg (fun p=>p.2.2.2.1) hh) (congrArg (fun p=>p.2.2.2.2.1) hh) (congrArg (fun p=>p.2.2.2.2.2) hh) kk
theorem I7 {α:Type} {t e:TypeId} {i:TI} {x:Operand} {s:Nat} {w:List α} {g:α→D} (tb:Tab P) (hh:(tb.f t,i.sl,O9 ts x,I2 ops ts ⟨some d,.call { callee := .builtin .len,args:=#[x],argTypes:=#[t] },ty,pos,af,gd⟩,Nat.blt d N)=(some i,some e,.d (.arr s (w.map g)),some true,true)) (kk:L3 P N ops l ⟨(d,.d (.v (.int .i64 (w.length:Nat))))::ts,L⟩ (tr++[.run (List.map Prod.fst ([]:List (Nat × Rw))) []]) K):L3 P N ops (⟨some d,.call { callee := .builtin .len,args:=#[x],argTypes:=#[t] },ty,pos,af,gd⟩::l) ⟨ts,L⟩ tr K :=
 B9X tb (congrArg (fun p=>p.1) hh) (congrArg (fun p=>p.2.1) hh) (congrArg (fun p=>p.2.2.1) hh) (congrArg (fun p=>p.2.2.2.1) hh) (congrArg (fun p=>p.2.2.2.2) hh) kk
theorem A0 {x:Operand} {y:D}  (hh:(O9 ts x,I2 ops ts ⟨some d,.move x,ty,pos,af,gd⟩,Nat.blt d N)=(.d y,some true,true)) (kk:L3 P N ops l ⟨(d,.d y)::ts,L⟩ (tr++[.run (List.map Prod.fst ([]:List (Nat × Rw))) []]) K):L3 P N ops (⟨some d,.move x,ty,pos,af,gd⟩::l) ⟨ts,L⟩ tr K :=
 C0a (congrArg (fun p=>p.1) hh) (congrArg (fun p=>p.2.1) hh) (congrArg (fun p=>p.2.2) hh) kk
theorem D0 {c x y:Operand} {t:D}  (hh:(O9 ts c,O9 ts y,I2 ops ts ⟨some d,.pick c x y,ty,pos,af,gd⟩,Nat.blt d N)=(.d (.v (.bool false)),.d t,some true,true)) (kk:L3 P N ops l ⟨(d,.d t)::ts,L⟩ (tr++[.run (List.map Prod.fst ([]:List (Nat × Rw))) []]) K):L3 P N ops (⟨some d,.pick c x y,ty,pos,af,gd⟩::l) ⟨ts,L⟩ tr K :=
 B9e (congrArg (fun p=>p.1) hh) (congrArg (fun p=>p.2.1) hh) (congrArg (fun p=>p.2.2.1) hh) (congrArg (fun p=>p.2.2.2) hh) kk
theorem D6 {c x y:Operand} {t:D}  (hh:(O9 ts c,O9 ts x,I2 ops ts ⟨some d,.pick c x y,ty,pos,af,gd⟩,Nat.blt d N)=(.d (.v (.bool true)),.d t,some true,true)) (kk:L3 P N ops l ⟨(d,.d t)::ts,L⟩ (tr++[.run (List.map Prod.fst ([]:List (Nat × Rw))) []]) K):L3 P N ops (⟨some d,.pick c x y,ty,pos,af,gd⟩::l) ⟨ts,L⟩ tr K :=
 B9f (congrArg (fun p=>p.1) hh) (congrArg (fun p=>p.2.1) hh) (congrArg (fun p=>p.2.2.1) hh) (congrArg (fun p=>p.2.2.2) hh) kk
theorem B3b {o:Oper}  (hh:(I2 ops ts o,o.dst,Nat.blt d N)=(some false,some d,true)) (k:L3 P N ops l ⟨(d,.d (.tup []))::ts,L⟩ (tr++[.skip]) K):L3 P N ops (o::l) ⟨ts,L⟩ tr K :=
 B8d (congrArg (fun p=>p.1) hh) (congrArg (fun p=>p.2.1) hh) (congrArg (fun p=>p.2.2) hh) k
theorem I6 {t:TypeId} {i:TI} {x y:Operand} {n s q c:Nat} {r:Rw} {e u:T} (r':Rw) (L':List (Option Rw)) (tb:Tab P) (hh:(tb.f t,O9 ts x,O9 ts y,L[n]?,r.s,r.els[q]?,u.cells.length,A4y u.cells,Nat.ble (c+i.size) e.cells.length,(⟨r.s,r.els.set q (A9t e c u)⟩:Rw),L.set n (some r'),I2 ops ts ⟨none,.store t x y,ty,pos,af,gd⟩)=(some i,.ref n s q c,u,some (some r),s,some e,i.size,true,true,r',L',some true)) (k:L3 P N ops l ⟨ts,L'⟩ (tr++[.run [n] [n]]) K):L3 P N ops (⟨none,.store t x y,ty,pos,af,gd⟩::l) ⟨ts,L⟩ tr K :=
 C0M r' L' tb (congrArg (fun p=>p.1) hh) (congrArg (fun p=>p.2.1) hh) (congrArg (fun p=>p.2.2.1) hh) (congrArg (fun p=>p.2.2.2.1) hh) (congrArg (fun p=>p.2.2.2.2.1) hh) (congrArg (fun p=>p.2.2.2.2.2.1) hh) (congrArg (fun p=>p.2.2.2.2.2.2.1) hh) (congrArg (fun p=>p.2.2.2.2.2.2.2.1) hh) (congrArg (fun p=>p.2.2.2.2.2.2.2.2.1) hh) (congrArg (fun p=>p.2.2.2.2.2.2.2.2.2.1) hh) (congrArg (fun p=>p.2.2.2.2.2.2.2.2.2.2.1) hh) (congrArg (fun p=>p.2.2.2.2.2.2.2.2.2.2.2) hh) k
def skN (ops:Array Oper) (N:Nat):Nat→List Oper→List (Nat × T)→Option (List Oper × List (Nat × T))
 | 0,l,ts=>some (l,ts)
 | _+1,[],_=>none
 | n+1,o::l,ts=>match I2 ops ts o,o.dst with
   | some false,some d=>bif Nat.blt d N then skN ops N n l ((d,.d (.tup []))::ts)else none
   | _,_=>none
def skT:Nat→List Stp→List Stp
 | 0,tr=>tr
 | n+1,tr=>skT n (tr++[.skip])
theorem L9:∀ (n:Nat) {l l':List Oper} {ts ts':List (Nat × T)} {tr:List Stp} (_:skN ops N n l ts=some (l',ts')) (_:L3 P N ops l' ⟨ts',L⟩ (skT n tr) K),L3 P N ops l ⟨ts,L⟩ tr K
 | 0,l,l',ts,ts',tr,h,k=>by cases h;exact k
 | n+1,[],l',ts,ts',tr,h,k=>by cases h
 | n+1,o::l,l',ts,ts',tr,h,k=>by
  rw[skN]at h
  split at h
  ·rename_i d hw ho
   cases hb:Nat.blt d N with
   | false=>rw[hb]at h;cases h
   | true=>rw[hb]at h;exact B8d hw ho hb (L9 n h k)
  ·cases h
theorem B8r {κ:List Nat}:∀ {ts':List (Nat × T)},(ts'.map fun p=>W8 ts p.1)=(ts'.map fun p=>p.2.ren (kap κ))→(ts'.all fun p=>p.2.sc κ.length)=true→TsK ts κ ts'
 | [],_,_ => .nil
 | (i,t)::r,h,c=>by
  rw[List.map_cons,List.map_cons]at h
  rw[List.all_cons,Bool.and_eq_true]at c
  exact .cons (List.cons.inj h).1 c.1 (B8r (List.cons.inj h).2 c.2)
theorem vK {n0:Nat} {ts ts':List (Nat × T)} {L L':List (Option Rw)} {κ:List Nat} (hr:RwK L κ L' κ) (hh:(ndK κ,B33 n0 κ,(ts'.map fun p=>W8 ts p.1),ts'.all fun p=>p.2.sc κ.length)=(true,true,(ts'.map fun p=>p.2.ren (kap κ)),true)):Vw n0 ⟨ts,L⟩ ⟨ts',L'⟩ κ :=
 vwK (congrArg (fun p=>p.1) hh) (congrArg (fun p=>p.2.1) hh) hr (B8r (congrArg (fun p=>p.2.2.1) hh) (congrArg (fun p=>p.2.2.2) hh))
theorem v0 {n0:Nat} {ts ts':List (Nat × T)} {L:List (Option Rw)} (hh:(ndK [],B33 n0 [],(ts'.map fun p=>W8 ts p.1),ts'.all fun p=>p.2.sc 0)=(true,true,(ts'.map fun p=>p.2.ren (kap [])),true)):Vw n0 ⟨ts,L⟩ ⟨ts',[]⟩ []:=vK .nil hh
theorem f1 {P:Program} {fn:Func} {n0:Nat} {st:St} {y:T} (k:Nat) (hh:(Nat.beq n0 0,fn.results.toList,y.sc 0,W8 st.ts k)=(true,[.tmp k],true,y.ren (kap []))):Fin P fn n0 (fun se L'=>se = .ret y∧L'=[]) .ret st:=by
 have h0:Nat.beq n0 0=true:=congrArg (fun p=>p.1) hh
 obtain rfl:=Nat.eq_of_beq_eq_true h0
 exact U0 (t:=y) (L:=[]) (κ:=[]) (congrArg (fun p=>p.2.1) hh) (.cons (.tmp k) .nil) (vwK rfl rfl .nil (.cons (congrArg (fun p=>p.2.2.2) hh) (congrArg (fun p=>p.2.2.1) hh) .nil)) ⟨rfl,rfl⟩
theorem f2 {P:Program} {fn:Func} {n0:Nat} {st:St} {y:T} {Lf:List (Option Rw)} {rs:List ResultVar} {us:List T} (κ:List Nat) (hr:RwK st.L κ Lf κ) (hs:fn.results.toList=rs) (h:A8t P st rs us) (hh:(ndK κ,B33 n0 κ,B51 us,y.sc κ.length)=(true,true,y.ren (kap κ),true)):Fin P fn n0 (fun se L'=>se = .ret y∧L'=Lf) .ret st :=
 U0 (t:=y) (L:=Lf) (κ:=κ) hs h (vwK (congrArg (fun p=>p.1) hh) (congrArg (fun p=>p.2.1) hh) hr (.cons (congrArg (fun p=>p.2.2.1) hh) (congrArg (fun p=>p.2.2.2) hh) .nil)) ⟨rfl,rfl⟩
theorem rc {P:Program} {st:St} {a:Nat} {t:TypeId} {i:TI} {n s k c:Nat} {r:Rw} {e:T} (tb:Tab P) (hh:(tb.f t,W8 st.ts a,st.L[n]?,r.s,r.els[k]?,A2S i e.cells.length c)=(some i,.ref n s k c,some (some r),s,some e,true)):B7g P st (.cell a t) (A29 i e.cells c) :=
 A6F tb (congrArg (fun p=>p.1) hh) (congrArg (fun p=>p.2.1) hh) (congrArg (fun p=>p.2.2.1) hh) (congrArg (fun p=>p.2.2.2.1) hh) (congrArg (fun p=>p.2.2.2.2.1) hh) (congrArg (fun p=>p.2.2.2.2.2) hh) rfl
end
end Go.Proofs.YtlaogbbcipebgaaGreat.Sh
