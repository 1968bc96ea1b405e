/- The types of the program as a table, its structs in plain words. -/
import Derived.Test.YtlaogbbcipebgaaGreatProg
import Derived.KernelRfl
import Derived.Test.YtlaogbbcipebgaaGreatSa25
set_option linter.unusedVariables false
set_option linter.unusedSimpArgs false
open Array renaming mk→dx
open ByteArray renaming mk→ai,empty→fq
open Go renaming Program→ah,Deferred→bp,TypeId→ab,Operand→aa
open List renaming map→ao
open Nat renaming beq→aJ,ble→bL,blt→aq
open Option renaming some.inj→dJ
open Prod renaming fst→be
open Go Go.Proofs.YtlaogbbcipebgaaGreat.Sh Go.Proofs
namespace Go.Proofs.YtlaogbbcipebgaaGreat
open Go.Proofs.Tryz renaming prog → pg
set_option maxRecDepth 100000
def tyl:List (Nat × TI):=[(3,.mk false 1 8 (.d (.v (.int .i64 0))) none [] none true),
 (4,.mk false 1 1 (.d (.v (.bool false))) none [] none true),
 (5,.mk false 1 1 (.d (.v (.int .u8 0))) none [] none true),
 (9,.mk false 1 16 (.d (.v (.string (ai (dx []))))) none [] none true),
 (22,.mk false 1 24 (.d (.v (.slice none 0 0))) (some 156) [] none true),
 (23,.mk false 1 24 (.d (.v (.slice none 0 0))) (some 160) [] none true),
 (24,.mk false 1 24 (.d (.v (.slice none 0 0))) (some 163) [] none true),
 (25,.mk false 1 24 (.d (.v (.slice none 0 0))) (some 9) [] none true),
 (26,.mk false 1 24 (.d (.v (.slice none 0 0))) (some 172) [] none true),
 (28,.mk true 7 136 (.d (.agg [.v (.slice none 0 0),.v (.slice none 0 0),.v (.slice none 0 0),.v (.slice none 0 0),.v (.slice none 0 0),.v (.int .i64 0),.v (.int .i64 0)])) none [(0,false,1),(1,false,1),(2,false,1),(3,false,1),(4,false,1),(5,false,1),(6,false,1)] none true),
 (29,.mk false 1 24 (.d (.v (.slice none 0 0))) (some 67) [] none true),
 (30,.mk false 1 24 (.d (.v (.slice none 0 0))) (some 61) [] none true),
 (31,.mk false 1 24 (.d (.v (.slice none 0 0))) (some 3) [] none true),
 (33,.mk true 2 16 (.d (.agg [.v (.int .i64 0),.v (.int .i64 0)])) none [(0,false,1),(1,false,1)] none true),
 (35,.mk true 13 248 (.d (.agg [.v (.slice none 0 0),.v (.slice none 0 0),.v (.slice none 0 0),.v (.slice none 0 0),.v (.slice none 0 0),.v (.int .i64 0),.v (.int .i64 0),.v (.slice none 0 0),.v (.slice none 0 0),.v (.slice none 0 0),.v (.slice none 0 0),.v (.int .i64 0),.v (.int .i64 0)])) none [(0,true,7),(7,false,1),(8,false,1),(9,false,1),(10,false,1),(11,true,2)] none true),
 (36,.mk false 1 24 (.d (.v (.slice none 0 0))) (some 58) [] none true),
 (38,.mk true 6 96 (.d (.agg [.v (.int .i64 0),.v (.slice none 0 0),.v (.slice none 0 0),.v (.slice none 0 0),.v (.int .i64 0),.v (.bool false)])) none [(0,false,1),(1,false,1),(2,false,1),(3,false,1),(4,false,1),(5,false,1)] none true),
 (39,.mk false 1 24 (.d (.v (.slice none 0 0))) (some 4) [] none true),
 (41,.mk true 13 232 (.d (.agg [.v (.int .i64 0),.v (.int .i64 0),.v (.slice none 0 0),.v (.slice none 0 0),.v (.slice none 0 0),.v (.int .i64 0),.v (.bool false),.v (.slice none 0 0),.v (.slice none 0 0),.v (.bool false),.v (.slice none 0 0),.v (.slice none 0 0),.v (.slice none 0 0)])) none [(0,false,1),(1,true,6),(7,false,1),(8,false,1),(9,false,1),(10,false,1),(11,false,1),(12,false,1)] none true),
 (42,.mk false 1 24 (.d (.v (.slice none 0 0))) (some 43) [] none true),
 (43,.mk false 1 8 (.d (.v (.int .i64 0))) none [] none true),
 (56,.mk true 5 40 (.d (.agg [.v (.int .i64 0),.v (.int .i64 0),.v (.int .i64 0),.v (.int .i64 0),.v (.int .i64 0)])) none [(0,false,1),(1,false,1),(2,false,1),(3,false,1),(4,false,1)] none true),
 (58,.mk true 8 64 (.d (.agg [.v (.int .i64 0),.v (.int .i64 0),.v (.int .i64 0),.v (.int .i64 0),.v (.int .i64 0),.v (.int .i64 0),.v (.int .i64 0),.v (.int .i64 0)])) none [(0,false,1),(1,false,1),(2,false,1),(3,true,5)] none true),
 (59,.mk false 1 24 (.d (.v (.slice none 0 0))) (some 56) [] none true),
 (61,.mk true 9 160 (.d (.agg [.v (.string (ai (dx []))),.v (.slice none 0 0),.v (.int .i64 0),.v (.int .i64 0),.v (.bool false),.v (.slice none 0 0),.v (.slice none 0 0),.v (.slice none 0 0),.v (.slice none 0 0)])) none [(0,false,1),(1,false,1),(2,false,1),(3,false,1),(4,false,1),(5,false,1),(6,false,1),(7,false,1),(8,false,1)] none true),
 (67,.mk true 3 32 (.d (.agg [.v (.string (ai (dx []))),.v (.int .i64 0),.v (.int .i64 0)])) none [(0,false,1),(1,false,1),(2,false,1)] none true),
 (71,.mk false 1 24 (.d (.v (.slice none 0 0))) (some 5) [] none true),
 (82,.mk false 1 24 (.d (.v (.slice none 0 0))) (some 128) [] none true),
 (91,.mk false 1 8 (.d (.v (.pointer none))) none [] none true),
 (95,.mk true 26 480 (.d (.agg [.v (.slice none 0 0),.v (.slice none 0 0),.v (.slice none 0 0),.v (.slice none 0 0),.v (.slice none 0 0),.v (.int .i64 0),.v (.int .i64 0),.v (.slice none 0 0),.v (.slice none 0 0),.v (.slice none 0 0),.v (.slice none 0 0),.v (.int .i64 0),.v (.int .i64 0),.v (.int .i64 0),.v (.int .i64 0),.v (.slice none 0 0),.v (.slice none 0 0),.v (.slice none 0 0),.v (.int .i64 0),.v (.bool false),.v (.slice none 0 0),.v (.slice none 0 0),.v (.bool false),.v (.slice none 0 0),.v (.slice none 0 0),.v (.slice none 0 0)])) none [(0,true,13),(13,true,13)] none true),
 (113,.mk false 1 8 (.d (.v .nilFunc)) none [] none true),
 (115,.mk false 1 8 (.d (.v .nilFunc)) none [] none true),
 (122,.mk false 1 8 (.d (.v (.pointer none))) none [] none true),
 (128,.mk true 2 16 (.d (.agg [.v (.int .i64 0),.v (.int .i64 0)])) none [(0,false,1),(1,false,1)] none true),
 (130,.mk false 1 8 (.d (.v .nilFunc)) none [] none true),
 (133,.mk true 13 232 (.d (.agg [.v (.slice none 0 0),.v (.slice none 0 0),.v (.slice none 0 0),.v (.slice none 0 0),.v (.slice none 0 0),.v (.int .i64 0),.v (.int .i64 0),.v (.int .i64 0),.v (.slice none 0 0),.v (.slice none 0 0),.v (.slice none 0 0),.v (.int .i64 0),.v (.bool false)])) none [(0,true,7),(7,true,6)] none true),
 (138,.mk false 1 8 (.d (.v .nilFunc)) none [] none true),
 (143,.mk false 1 8 (.d (.v (.int .u64 0))) none [] none true),
 (149,.mk false 1 8 (.d (.v .nilFunc)) none [] none true),
 (151,.mk true 10 80 (.d (.agg [.v .nilFunc,.v .nilFunc,.v .nilFunc,.v .nilFunc,.v .nilFunc,.v .nilFunc,.v .nilFunc,.v .nilFunc,.v .nilFunc,.v .nilFunc])) none [] (some (10,149)) true),
 (154,.mk true 4 32 (.d (.agg [.v (.int .i64 0),.v (.int .i64 0),.v (.int .i64 0),.v (.int .i64 0)])) none [(0,true,2),(2,true,2)] none true),
 (156,.mk true 8 72 (.d (.agg [.v (.string (ai (dx []))),.v (.int .i64 0),.v (.int .i64 0),.v (.int .i64 0),.v (.int .i64 0),.v (.int .i64 0),.v (.int .i64 0),.v (.bool false)])) none [(0,false,1),(1,true,4),(5,false,1),(6,false,1),(7,false,1)] none true),
 (157,.mk false 1 8 (.d (.v .nilFunc)) none [] none true),
 (158,.mk false 1 8 (.d (.v .nilFunc)) none [] none true),
 (160,.mk true 2 16 (.d (.agg [.v (.int .i64 0),.v (.int .i64 0)])) none [(0,false,1),(1,false,1)] none true),
 (163,.mk true 2 24 (.d (.agg [.v (.string (ai (dx []))),.v (.int .i64 0)])) none [(0,false,1),(1,false,1)] none true),
 (164,.mk false 1 8 (.d (.v .nilFunc)) none [] none true),
 (165,.mk false 1 8 (.d (.v .nilFunc)) none [] none true),
 (167,.mk false 1 8 (.d (.v .nilFunc)) none [] none true),
 (170,.mk true 2 16 (.d (.agg [.v (.int .i64 0),.v (.int .i64 0)])) none [(0,false,1),(1,false,1)] none true),
 (172,.mk true 6 72 (.d (.agg [.v (.string (ai (dx []))),.v (.int .i64 0),.v (.int .i64 0),.v (.int .i64 0),.v (.int .i64 0),.v (.slice none 0 0)])) none [(0,false,1),(1,true,2),(3,false,1),(4,false,1),(5,false,1)] none true),
 (173,.mk false 1 8 (.d (.v .nilFunc)) none [] none true),
 (175,.mk false 1 8 (.d (.v .nilFunc)) none [] none true),
 (176,.mk false 1 8 (.d (.v .nilFunc)) none [] none true),
 (179,.mk false 1 8 (.d (.v .nilFunc)) none [] none true),
 (181,.mk false 1 8 (.d (.v .nilFunc)) none [] none true),
 (190,.mk false 1 8 (.d (.v .nilFunc)) none [] none true),
 (199,.mk false 1 8 (.d (.v .nilFunc)) none [] none true),
 (200,.mk true 10 80 (.d (.agg [.v .nilFunc,.v .nilFunc,.v .nilFunc,.v .nilFunc,.v .nilFunc,.v .nilFunc,.v .nilFunc,.v .nilFunc,.v .nilFunc,.v .nilFunc])) none [] (some (10,199)) true),
 (207,.mk false 1 8 (.d (.v (.map none))) none [] none true),
 (214,.mk false 1 8 (.d (.v (.int .u64 0))) none [] none true),
 (226,.mk false 1 8 (.d (.v .nilFunc)) none [] none true),
 (227,.mk false 1 24 (.d (.v (.slice none 0 0))) (some 31) [] none true),
 (243,.mk false 1 8 (.d (.v .nilFunc)) none [] none true)]
theorem C0j:tyl.map (fun p=>B8q pg p.1)=tyl.map (fun p=>some p.2):=by kernel_rfl
def tb:Tab pg := .mk' tyl C0j
theorem H1 {α β:Type} {o:Option α} {f:α→Option β} {r:β} (h:Option.bind o f=some r):∃ x,o=some x∧f x=some r:=Option.bind_eq_some_iff.1 h
theorem J7 {c:Prop} [Decidable c] {α:Type} {x y r:α} (k:c) (h:(if c then x else y)=r):x=r:=(if_pos k).symm.trans h
theorem P1 {c:Prop} [Decidable c] {α:Type} {x y r:α} (k:¬ c) (h:(if c then x else y)=r):y=r:=(if_neg k).symm.trans h
theorem ifF {b:Bool} {α:Type} {x y r:α} (k:b=false) (h:(if b=true then x else y)=r):y=r:=(if_neg (by rw[k];exact Bool.false_ne_true)).symm.trans h
theorem U4 {P:ah} {fn:Func} {n0:Nat} {rs:List ResultVar} {us:List T} {st:St} {y t:T} (h0:aJ n0 0=true) (hres:fn.results.toList=rs) (ht:t.sc 0=true) (h:A8t P st rs us) (hu:B51 us=t.ren (kap []):=by rfl) (hy:t=y:=by rfl):Fin P fn n0 (fun se L'=>se = .ret y∧L'=[]) .ret st:=by
 obtain rfl:=Nat.eq_of_beq_eq_true h0;subst hy;exact U0 (t:=t) (L:=[]) (κ:=[]) hres h (vwK rfl rfl .nil (.cons hu ht .nil)) ⟨rfl,rfl⟩
theorem R {α:Sort _} {a:α}:a=a:=rfl
theorem eN {P:ah} {N:Nat} {K:St→Prop} {Q:SX→St→Prop} {ops:Array Oper} {tr:List Stp} {st:St} (h:K st):L3 P N ops [] st tr (B7w (A5w K Q .norm)):=Y9 (A6 h)
theorem qG {P:ah} {n0 N:Nat} {df:List bp} {Q:SX→St→Prop} {st:St} {id:Nat} {l:List Oper} {y:Code} (h:L3 P N l.toArray l st [] (B7w (A5w (Sh.SW P n0 N df y Q) Q .norm))):Sh.SW P n0 N df (.seq (.region id l.toArray false) y) Q st:=B8 (J1 h)
theorem rU (n:Nat) {N:Nat} {ops:Array Oper} {K:List Oper→List Stp→St→Prop} {l l':List Oper} {st st':St} {tr tr':List Stp} (h:rvN tb N ops n l st tr=some (l',st',tr')) (k:L3 pg N ops l' st' tr' K):L3 pg N ops l st tr K:=rn tb n h k
theorem bk {n0 N:Nat} {st' st'':St} {I:Nat→St→Prop} {m:Nat} (hi:I m st'') (hv:A33 n0 N st' st''):∃ m' st'',m'<m+1∧A33 n0 N st' st''∧I m' st'':=⟨m,st'',Nat.lt_succ_self m,hv,hi⟩
theorem fS {P:ah} {fn:Func} {n0:Nat} {rs:List ResultVar} {us:List T} {st:St} {R:SE→List (Option Rw)→Prop} {t:T} {L:List (Option Rw)} (κ:List Nat) (hR:R (.ret t) L) (hres:fn.results.toList=rs) (h:A8t P st rs us) (hv:Vw n0 ⟨[(0,B51 us)],st.L⟩ ⟨[(0,t)],L⟩ κ):Fin P fn n0 R .ret st:=U0 hres h hv hR
theorem f0 {P:ah} {fn:Func} {n0:Nat} {rs:List ResultVar} {us:List T} {st:St} {y:T} (h0:aJ n0 0=true) (hres:fn.results.toList=rs) (ht:y.sc 0=true) (h:A8t P st rs us) (hu:B51 us=y.ren (kap []):=by rfl):Fin P fn n0 (fun se L'=>se = .ret y∧L'=[]) .ret st:=U4 h0 hres ht h hu rfl
section
variable {P:ah} {n0 N:Nat} {df:List bp} {c:Code} {st st0:St} {m:Nat}
end
theorem oW {P:ah} {f:FuncId} {fn:Func} {c:Code} {N:Nat} {args:List T} {ts:List (Nat × T)} {L:List (Option Rw)} {R:SE→List (Option Rw)→Prop} (hf:P.funcs[f]?=some fn) (h:Sh.SW P L.length N [] c (Fin P fn L.length R) ⟨ts,L⟩) (hh:(fn.body,fn.ntmps,bL args.length N,nF (L8 0 args) some)=(some c,N,true,some ts):=by rfl):SC P f args L R:=by
 have e:L8 0 args=ts:=dJ ((D01 _ _).symm.trans (congrArg (fun p=>p.2.2.2) hh));subst e;exact SC.of_sw hf (congrArg (fun p=>p.1) hh) (congrArg (fun p=>p.2.1) hh) (congrArg (fun p=>p.2.2.1) hh) h
theorem oN {P:ah} {f:FuncId} {fn:Func} {c:Code} {N:Nat} {args:List T} {ts:List (Nat × T)} {L:List (Option Rw)} {R:SE→List (Option Rw)→Prop} (hf:P.funcs[f]?=some fn) (h:SWM P L.length N c (Fin P fn L.length R) ⟨ts,L⟩) (hh:(fn.body,fn.ntmps,bL args.length N,nF (L8 0 args) some)=(some c,N,true,some ts):=by rfl):SC P f args L R:=by
 have e:L8 0 args=ts:=dJ ((D01 _ _).symm.trans (congrArg (fun p=>p.2.2.2) hh));subst e;exact SC.of_swm hf (congrArg (fun p=>p.1) hh) (congrArg (fun p=>p.2.1) hh) (congrArg (fun p=>p.2.2.1) hh) h
theorem tJ {p:Prop} [Decidable p] {α:Type} {x y r:α} {g:Prop} (h:(if p then x else y)=r) (k:x=r→g) (c:p):g:=k (J7 c h)
theorem nJ {p:Prop} [Decidable p] {α:Type} {x y r:α} {g:Prop} (h:(if p then x else y)=r) (k:y=r→g) (c:¬ p):g:=k (P1 c h)
theorem lJ {a b:Int} {α:Type} {x y r:α} {g:Prop} (h:(if a<b then x else y)=r) (k:y=r→g) (c:b≤a):g:=k (P1 (nL c) h)
theorem mJ {a b:Int} {α:Type} {x y r:α} {g:Prop} (h:(if a≤b then x else y)=r) (k:y=r→g) (c:b<a):g:=k (P1 (Int.not_le.2 c) h)
theorem tI {b:Bool} {α:Type} {x y r:α} {g:Prop} (h:(if b=true then x else y)=r) (k:b=true→x=r→g) (c:b=true):g:=k c (J7 c h)
theorem fI {b:Bool} {α:Type} {x y r:α} {g:Prop} (h:(if b=true then x else y)=r) (k:b=false→y=r→g) (c:b=false):g:=k c (ifF c h)
theorem eX {α β:Type} {o:Except Int α} {f:Int→β} {g:α→β} {r:β} (h:exE o f g=r):(∃ x,o = .error x∧f x=r)∨∃ v,o = .ok v∧g v=r:=by
 cases o with
 | error x=>exact .inl ⟨x,rfl,h⟩
 | ok v=>exact .inr ⟨v,rfl,h⟩
section
variable {P:ah} {N:Nat} {ops:Array Oper} {l:List Oper} {ts:List (Nat × T)} {L:List (Option Rw)} {tr:List Stp} {K:List Oper→List Stp→St→Prop} {d:Nat} {ty:ab} {pos:String} {af:Array Edge} {gd:Option (Nat × Bool)}
theorem xE {α:Type} {v:List α} {g:α→D} {a:α} {t e:ab} {i ei:TI} {x y:aa} {s:Nat} {k:IntKind} {q:Int} (ie:P3 v q=some a) (hh:(tb.f t,i.sl,tb.f e,O9 ts x,ei.size,O9 ts y,I2 ops ts ⟨some d,.indexAddr t x y,ty,pos,af,gd⟩,aq d N)=(some i,some e,some ei,.d (.arr s (v.map g)),s,.d (.v (.int k q)),some true,true)) (kk:L3 pg N ops l ⟨(d,.d (.el s (v.map g) q.toNat 0))::ts,L⟩ (tr++[.run (ao be ([]:List (Nat × Rw))) []]) K):L3 pg N ops (⟨some d,.indexAddr t x y,ty,pos,af,gd⟩::l) ⟨ts,L⟩ tr K:=N8 tb (F0 ie) (V1 ie) hh kk
theorem lE {α:Type} {v:List α} {g:α→D} {a:α} {t:ab} {i:TI} {x:aa} {s c:Nat} {q:Int} {y:D} (ie:P3 v q=some a) (hh:(tb.f t,O9 ts x,A2S i (g a).cells.length c,A29 i ((g a).cells.map .d) c,I2 ops ts ⟨some d,.load t x,ty,pos,af,gd⟩,aq d N)=(some i,.d (.el s (v.map g) q.toNat c),true,.d y,some true,true)) (kk:L3 pg N ops l ⟨(d,.d y)::ts,L⟩ (tr++[.run (ao be ([]:List (Nat × Rw))) []]) K):L3 pg N ops (⟨some d,.load t x,ty,pos,af,gd⟩::l) ⟨ts,L⟩ tr K:=I4 tb (U5 (g:=g) ie) hh kk
end
abbrev rf (n s:Nat):T := .ref n s 0 0
abbrev dI (x:Int):T := .d (vI x)
abbrev dB (b:Bool):T := .d (vB b)
theorem tC {P:ah} {st:St} {xs:List ResultVar} {us:List T} (i:Nat) (k:A8t P st xs us):A8t P st (.tmp i::xs) (W8 st.ts i::us) := .cons (.tmp i) k
theorem qC {st:St} {a:Nat} {t:ab} {i:TI} {n s k c:Nat} {r:Rw} {e:T} {xs:List ResultVar} {us:List T} (hh:(tb.f t,W8 st.ts a,st.L[n]?,r.s,r.els[k]?,A2S i e.cells.length c)=(some i,.ref n s k c,some (some r),s,some e,true)) (q:A8t pg st xs us):A8t pg st (.cell a t::xs) (A29 i e.cells c::us) := .cons (rc tb hh) q
theorem cN {α:Type} {a:α} {l:List α}:a::l≠[]:=List.cons_ne_nil _ _
abbrev sZ:D := .v (.slice none 0 0)
abbrev dZ:T := .d sZ
abbrev zP:D := .agg [vI 0,sZ,sZ,sZ,vI 0,vB false]
abbrev zC:D := .agg [vI 0,vI 0,sZ,sZ,sZ,vI 0,vB false,sZ,sZ,vB false,sZ,sZ,sZ]
abbrev aI (l:List Int):D := .arr 1 (l.map vI)
section
variable {n0 N:Nat} {df:List bp} {Q:SX→St→Prop} {st st':St} {id:Nat} {l l':List Oper} {y:Code} {ops:Array Oper} {tr tr':List Stp} {K:St→Prop} {R:SX→St→Prop} {c:aa}
theorem gU (n:Nat) (h:rvN tb N l.toArray n l st []=some (l',st',tr')) (k:L3 pg N l.toArray l' st' tr' (B7w (A5w (Sh.SW pg n0 N df y Q) Q .norm))):Sh.SW pg n0 N df (.seq (.region id l.toArray false) y) Q st:=qG (rn tb n h k)
theorem gY (n:Nat) (h:rvN tb N l.toArray n l st []=some ([],st',tr')) (k:A5w (Sh.SW pg n0 N df y Q) Q .norm st'):Sh.SW pg n0 N df (.seq (.region id l.toArray false) y) Q st:=qG (rn tb n h (Y9 k))
theorem hU (n:Nat) (h:rvN tb N l.toArray n l st []=some (l',st',tr')) (k:L3 pg N l.toArray l' st' tr' (B7w (Q .norm))):Sh.SW pg n0 N df (.region id l.toArray false) Q st:=J1 (rn tb n h k)
theorem hE (n:Nat) (h:rvN tb N l.toArray n l st []=some ([],st',tr')) (k:Q .norm st'):Sh.SW pg n0 N df (.region id l.toArray false) Q st:=J1 (rn tb n h (Y9 k))
theorem hN (n:Nat) (h:rvN tb N l.toArray n l st []=some ([],st',tr')) (k:K st'):Sh.SW pg n0 N df (.region id l.toArray false) (A5w K Q) st:=J1 (rn tb n h (Y9 k))
theorem eU (n:Nat) (h:rvN tb N ops n l st tr=some ([],st',tr')) (k:K st'):L3 pg N ops l st tr (B7w K):=rn tb n h (Y9 k)
theorem nU (n:Nat) (h:rvN tb N ops n l st tr=some ([],st',tr')) (k:K st'):L3 pg N ops l st tr (B7w (A5w K Q .norm)):=rn tb n h (Y9 k)
theorem zF {x:Code} (k:Q .norm st) (hc:O9 st.ts c = .d (.v (.bool false)):=by rfl):Sh.SW pg n0 N df (.cond c x .skip) Q st:=C1 hc (D7 k)
theorem zT {x:Code} (k:Q .norm st) (hc:O9 st.ts c = .d (.v (.bool true)):=by rfl):Sh.SW pg n0 N df (.cond c .skip x) Q st:=C0 hc (D7 k)
theorem rY (n:Nat) (h:rvN tb N l.toArray n l st []=some ([],st',tr')) (k:Q .ret st'):Sh.SW pg n0 N df (.seq (.region id l.toArray false) .ret) Q st:=qG (rn tb n h (Y9 (C9 k)))
theorem cY {x:Code} (n:Nat) (h:rvN tb N l.toArray n l st []=some ([],st',tr')) (k:Q .ret st') (hc:O9 st.ts c = .d (.v (.bool true)):=by rfl):Sh.SW pg n0 N df (.cond c (.seq (.region id l.toArray false) .ret) x) Q st:=C0 hc (rY n h k)
theorem yX {x:Code} {i:Nat} {A B:St→Prop} (k:Q (.exit i) st) (hc:O9 st.ts c = .d (.v (.bool false)):=by rfl):Sh.SW pg n0 N df (.cond c x (.exit i)) (A5w A (A5w B Q)) st:=C1 hc (N5 k)
end
section
variable {P:ah} {N:Nat} {ops:Array Oper} {l:List Oper} {ts:List (Nat × T)} {L:List (Option Rw)} {tr:List Stp} {K:List Oper→List Stp→St→Prop} {d d2:Nat} {ty ty2:ab} {pos pos2:String} {af af2:Array Edge} {gd gd2:Option (Nat × Bool)}
theorem yE {α:Type} {v:List α} {g:α→D} {a:α} {t e t2:ab} {i ei i2:TI} {x y x2:aa} {s s2 c:Nat} {k:IntKind} {q:Int} {z:D} (ie:P3 v q=some a) (hh:(tb.f t,i.sl,tb.f e,O9 ts x,ei.size,O9 ts y,I2 ops ts ⟨some d,.indexAddr t x y,ty,pos,af,gd⟩,aq d N)=(some i,some e,some ei,.d (.arr s (v.map g)),s,.d (.v (.int k q)),some true,true))
 (h2:(tb.f t2,O9 ((d,.d (.el s (v.map g) q.toNat 0))::ts) x2,A2S i2 (g a).cells.length c,A29 i2 ((g a).cells.map .d) c,I2 ops ((d,.d (.el s (v.map g) q.toNat 0))::ts) ⟨some d2,.load t2 x2,ty2,pos2,af2,gd2⟩,aq d2 N)=(some i2,.d (.el s2 (v.map g) q.toNat c),true,.d z,some true,true))
 (kk:L3 pg N ops l ⟨(d2,.d z)::(d,.d (.el s (v.map g) q.toNat 0))::ts,L⟩ ((tr++[.run (ao be ([]:List (Nat × Rw))) []])++[.run (ao be ([]:List (Nat × Rw))) []]) K):L3 pg N ops (⟨some d,.indexAddr t x y,ty,pos,af,gd⟩::⟨some d2,.load t2 x2,ty2,pos2,af2,gd2⟩::l) ⟨ts,L⟩ tr K:=xE ie hh (lE ie h2 kk)
end
theorem eK {P:ah} {f:FuncId} (h:C0y P f=true:=by kernel_rfl):Ent P f := .of h
theorem dL {L:List (Option Rw)} {ts:List T} {x:D} {ds:List D} (k:A5o L ts ds):A5o L (.d x::ts) (x::ds) := .cons (.d x) k
theorem kR {α:Sort _} {a b:α} (h:a=b:=by kernel_rfl):a=b:=h
abbrev bx (n:Nat) (t:T):Option Rw:=some ⟨n,[t]⟩
abbrev c1 (x:D):Option Rw:=some ⟨1,[.d x]⟩
theorem C23 {L:List (Option Rw)} {κ:List Nat} {α1:Type} {k1 s1:Nat} {v1:List α1} {f1:α1→D} (h1:L[k1]?=some (some ⟨s1,v1.map fun a => .d (f1 a)⟩):=by rfl):RwK L κ [some ⟨s1,v1.map fun a => .d (f1 a)⟩] [k1] := .row h1 (.nil)
theorem C37 {L:List (Option Rw)} {κ:List Nat} {α1:Type} {k1 s1:Nat} {v1:List α1} {f1:α1→D} {α2:Type} {k2 s2:Nat} {v2:List α2} {f2:α2→D} (h1:L[k1]?=some (some ⟨s1,v1.map fun a => .d (f1 a)⟩):=by rfl) (h2:L[k2]?=some (some ⟨s2,v2.map fun a => .d (f2 a)⟩):=by rfl):RwK L κ [some ⟨s1,v1.map fun a => .d (f1 a)⟩,some ⟨s2,v2.map fun a => .d (f2 a)⟩] [k1,k2] := .row h1 (.row h2 (.nil))
theorem C43 {L:List (Option Rw)} {κ:List Nat} {α1:Type} {k1 s1:Nat} {v1:List α1} {f1:α1→D} {α2:Type} {k2 s2:Nat} {v2:List α2} {f2:α2→D} (h1:L[k1]?=some (some ⟨s1,v1.map fun a => .d (f1 a)⟩):=by rfl) (h2:L[k2]?=some (some ⟨s2,v2.map fun a => .d (f2 a)⟩):=by rfl):RwO L κ [some ⟨s1,v1.map fun a => .d (f1 a)⟩,some ⟨s2,v2.map fun a => .d (f2 a)⟩] [k1,k2] [⟨s1,v1.map fun a => .d (f1 a)⟩,⟨s2,v2.map fun a => .d (f2 a)⟩] := .row h1 (.row h2 (.nil))
theorem C1o {L:List (Option Rw)} {κ:List Nat} {α1:Type} {k1 s1:Nat} {v1:List α1} {f1:α1→D} {α2:Type} {k2 s2:Nat} {v2:List α2} {f2:α2→D} {α3:Type} {k3 s3:Nat} {v3:List α3} {f3:α3→D} (h1:L[k1]?=some (some ⟨s1,v1.map fun a => .d (f1 a)⟩):=by rfl) (h2:L[k2]?=some (some ⟨s2,v2.map fun a => .d (f2 a)⟩):=by rfl) (h3:L[k3]?=some (some ⟨s3,v3.map fun a => .d (f3 a)⟩):=by rfl):RwK L κ [some ⟨s1,v1.map fun a => .d (f1 a)⟩,some ⟨s2,v2.map fun a => .d (f2 a)⟩,some ⟨s3,v3.map fun a => .d (f3 a)⟩] [k1,k2,k3] := .row h1 (.row h2 (.row h3 (.nil)))
theorem C2C {L:List (Option Rw)} {κ:List Nat} {α1:Type} {k1 s1:Nat} {v1:List α1} {f1:α1→D} {α2:Type} {k2 s2:Nat} {v2:List α2} {f2:α2→D} {α3:Type} {k3 s3:Nat} {v3:List α3} {f3:α3→D} (h1:L[k1]?=some (some ⟨s1,v1.map fun a => .d (f1 a)⟩):=by rfl) (h2:L[k2]?=some (some ⟨s2,v2.map fun a => .d (f2 a)⟩):=by rfl) (h3:L[k3]?=some (some ⟨s3,v3.map fun a => .d (f3 a)⟩):=by rfl):RwO L κ [some ⟨s1,v1.map fun a => .d (f1 a)⟩,some ⟨s2,v2.map fun a => .d (f2 a)⟩,some ⟨s3,v3.map fun a => .d (f3 a)⟩] [k1,k2,k3] [⟨s1,v1.map fun a => .d (f1 a)⟩,⟨s2,v2.map fun a => .d (f2 a)⟩,⟨s3,v3.map fun a => .d (f3 a)⟩] := .row h1 (.row h2 (.row h3 (.nil)))
theorem B9x {L:List (Option Rw)} {κ:List Nat} {α1:Type} {k1 s1:Nat} {v1:List α1} {f1:α1→D} {α2:Type} {k2 s2:Nat} {v2:List α2} {f2:α2→D} {α3:Type} {k3 s3:Nat} {v3:List α3} {f3:α3→D} {α4:Type} {k4 s4:Nat} {v4:List α4} {f4:α4→D} {α5:Type} {k5 s5:Nat} {v5:List α5} {f5:α5→D} (h1:L[k1]?=some (some ⟨s1,v1.map fun a => .d (f1 a)⟩):=by rfl) (h2:L[k2]?=some (some ⟨s2,v2.map fun a => .d (f2 a)⟩):=by rfl) (h3:L[k3]?=some (some ⟨s3,v3.map fun a => .d (f3 a)⟩):=by rfl) (h4:L[k4]?=some (some ⟨s4,v4.map fun a => .d (f4 a)⟩):=by rfl) (h5:L[k5]?=some (some ⟨s5,v5.map fun a => .d (f5 a)⟩):=by rfl):RwK L κ [some ⟨s1,v1.map fun a => .d (f1 a)⟩,some ⟨s2,v2.map fun a => .d (f2 a)⟩,some ⟨s3,v3.map fun a => .d (f3 a)⟩,some ⟨s4,v4.map fun a => .d (f4 a)⟩,some ⟨s5,v5.map fun a => .d (f5 a)⟩] [k1,k2,k3,k4,k5] := .row h1 (.row h2 (.row h3 (.row h4 (.row h5 (.nil)))))
theorem C25 {L:List (Option Rw)} {κ:List Nat} {α1:Type} {k1 s1:Nat} {v1:List α1} {f1:α1→D} {α2:Type} {k2 s2:Nat} {v2:List α2} {f2:α2→D} {α3:Type} {k3 s3:Nat} {v3:List α3} {f3:α3→D} {α4:Type} {k4 s4:Nat} {v4:List α4} {f4:α4→D} {α5:Type} {k5 s5:Nat} {v5:List α5} {f5:α5→D} (h1:L[k1]?=some (some ⟨s1,v1.map fun a => .d (f1 a)⟩):=by rfl) (h2:L[k2]?=some (some ⟨s2,v2.map fun a => .d (f2 a)⟩):=by rfl) (h3:L[k3]?=some (some ⟨s3,v3.map fun a => .d (f3 a)⟩):=by rfl) (h4:L[k4]?=some (some ⟨s4,v4.map fun a => .d (f4 a)⟩):=by rfl) (h5:L[k5]?=some (some ⟨s5,v5.map fun a => .d (f5 a)⟩):=by rfl):RwO L κ [some ⟨s1,v1.map fun a => .d (f1 a)⟩,some ⟨s2,v2.map fun a => .d (f2 a)⟩,some ⟨s3,v3.map fun a => .d (f3 a)⟩,some ⟨s4,v4.map fun a => .d (f4 a)⟩,some ⟨s5,v5.map fun a => .d (f5 a)⟩] [k1,k2,k3,k4,k5] [⟨s1,v1.map fun a => .d (f1 a)⟩,⟨s2,v2.map fun a => .d (f2 a)⟩,⟨s3,v3.map fun a => .d (f3 a)⟩,⟨s4,v4.map fun a => .d (f4 a)⟩,⟨s5,v5.map fun a => .d (f5 a)⟩] := .row h1 (.row h2 (.row h3 (.row h4 (.row h5 (.nil)))))
theorem C42 {L:List (Option Rw)} {κ:List Nat} {α1:Type} {k1 s1:Nat} {v1:List α1} {f1:α1→D} {α2:Type} {k2 s2:Nat} {v2:List α2} {f2:α2→D} {α3:Type} {k3 s3:Nat} {v3:List α3} {f3:α3→D} {α4:Type} {k4 s4:Nat} {v4:List α4} {f4:α4→D} {α5:Type} {k5 s5:Nat} {v5:List α5} {f5:α5→D} {α6:Type} {k6 s6:Nat} {v6:List α6} {f6:α6→D} {α7:Type} {k7 s7:Nat} {v7:List α7} {f7:α7→D} {α8:Type} {k8 s8:Nat} {v8:List α8} {f8:α8→D} (h1:L[k1]?=some (some ⟨s1,v1.map fun a => .d (f1 a)⟩):=by rfl) (h2:L[k2]?=some (some ⟨s2,v2.map fun a => .d (f2 a)⟩):=by rfl) (h3:L[k3]?=some (some ⟨s3,v3.map fun a => .d (f3 a)⟩):=by rfl) (h4:L[k4]?=some (some ⟨s4,v4.map fun a => .d (f4 a)⟩):=by rfl) (h5:L[k5]?=some (some ⟨s5,v5.map fun a => .d (f5 a)⟩):=by rfl) (h6:L[k6]?=some (some ⟨s6,v6.map fun a => .d (f6 a)⟩):=by rfl) (h7:L[k7]?=some (some ⟨s7,v7.map fun a => .d (f7 a)⟩):=by rfl) (h8:L[k8]?=some (some ⟨s8,v8.map fun a => .d (f8 a)⟩):=by rfl):RwK L κ [some ⟨s1,v1.map fun a => .d (f1 a)⟩,some ⟨s2,v2.map fun a => .d (f2 a)⟩,some ⟨s3,v3.map fun a => .d (f3 a)⟩,some ⟨s4,v4.map fun a => .d (f4 a)⟩,some ⟨s5,v5.map fun a => .d (f5 a)⟩,some ⟨s6,v6.map fun a => .d (f6 a)⟩,some ⟨s7,v7.map fun a => .d (f7 a)⟩,some ⟨s8,v8.map fun a => .d (f8 a)⟩] [k1,k2,k3,k4,k5,k6,k7,k8] := .row h1 (.row h2 (.row h3 (.row h4 (.row h5 (.row h6 (.row h7 (.row h8 (.nil))))))))
instance:Inhabited ByteArray:=⟨fq⟩
structure B4J where
 lo:Int
 hi:Int
 deriving Inhabited
def B4J.d (x:B4J):D := .agg [.v (.int .i64 x.lo),.v (.int .i64 x.hi)]
structure F6 where
 name:ByteArray
 L5:Int
 L4:Int
 L7:Int
 L6:Int
 grade:Int
 room:Int
 pair:Bool
 deriving Inhabited
def F6.d (x:F6):D := .agg [.v (.string x.name),.v (.int .i64 x.L5),.v (.int .i64 x.L4),.v (.int .i64 x.L7),.v (.int .i64 x.L6),.v (.int .i64 x.grade),.v (.int .i64 x.room),.v (.bool x.pair)]
structure G6 where
 a:Int
 b:Int
 deriving Inhabited
def G6.d (x:G6):D := .agg [.v (.int .i64 x.a),.v (.int .i64 x.b)]
structure E2 where
 name:ByteArray
 grade:Int
 deriving Inhabited
def E2.d (x:E2):D := .agg [.v (.string x.name),.v (.int .i64 x.grade)]
structure D1 where
 name:ByteArray
 A4s:Int
 A4t:Int
 clear:Int
 grade:Int
 keys:(List Int)
 deriving Inhabited
def D1.d (x:D1):D := .agg [.v (.string x.name),.v (.int .i64 x.A4s),.v (.int .i64 x.A4t),.v (.int .i64 x.clear),.v (.int .i64 x.grade),.arr 1 ((x.keys).map vI)]
structure D5 where
 zones:(List F6)
 doors:(List G6)
 people:(List E2)
 keys:(List ByteArray)
 squibs:(List D1)
 panel:Int
 wait:Int
 deriving Inhabited
def D5.d (x:D5):D := .agg [.arr 8 ((x.zones).map F6.d),.arr 2 ((x.doors).map G6.d),.arr 2 ((x.people).map E2.d),.arr 1 ((x.keys).map vS),.arr 6 ((x.squibs).map D1.d),.v (.int .i64 x.panel),.v (.int .i64 x.wait)]
structure B06 where
 A7P:Int
 A7O:Int
 A7R:Int
 A7Q:Int
 deriving Inhabited
def B06.d (x:B06):D := .agg [.v (.int .i64 x.A7P),.v (.int .i64 x.A7O),.v (.int .i64 x.A7R),.v (.int .i64 x.A7Q)]
structure C3 where
 now:Int
 zones:(List Int)
 holder:(List Int)
 squibs:(List Int)
 siren:Int
 storm:Bool
 deriving Inhabited
def C3.d (x:C3):D := .agg [.v (.int .i64 x.now),.arr 1 ((x.zones).map vI),.arr 1 ((x.holder).map vI),.arr 1 ((x.squibs).map vI),.v (.int .i64 x.siren),.v (.bool x.storm)]
structure D2 where
 at_:Int
 kind:Int
 who:Int
 what:Int
 with_:Int
 deriving Inhabited
def D2.d (x:D2):D := .agg [.v (.int .i64 x.at_),.v (.int .i64 x.kind),.v (.int .i64 x.who),.v (.int .i64 x.what),.v (.int .i64 x.with_)]
structure E6 where
 O0:(List F6)
 V4:(List G6)
 O3:(List E2)
 A0r:(List ByteArray)
 O4:(List D1)
 X3:Int
 A0s:Int
 N7:Int
 A9:(List Int)
 A8:(List Int)
 A4:(List Int)
 I3:Int
 I1:Bool
 deriving Inhabited
def E6.d (x:E6):D := .agg [.arr 8 ((x.O0).map F6.d),.arr 2 ((x.V4).map G6.d),.arr 2 ((x.O3).map E2.d),.arr 1 ((x.A0r).map vS),.arr 6 ((x.O4).map D1.d),.v (.int .i64 x.X3),.v (.int .i64 x.A0s),.v (.int .i64 x.N7),.arr 1 ((x.A9).map vI),.arr 1 ((x.A8).map vI),.arr 1 ((x.A4).map vI),.v (.int .i64 x.I3),.v (.bool x.I1)]
structure A8I where
 squib:Int
 person:Int
 deriving Inhabited
def A8I.d (x:A8I):D := .agg [.v (.int .i64 x.squib),.v (.int .i64 x.person)]
structure D9 where
 name:ByteArray
 charge:Int
 rate:Int
 deriving Inhabited
def D9.d (x:D9):D := .agg [.v (.string x.name),.v (.int .i64 x.charge),.v (.int .i64 x.rate)]
structure E0 where
 name:ByteArray
 need:(List Int)
 least:Int
 most:Int
 poll:Bool
 on_:(List Int)
 use_:(List Int)
 off:(List Int)
 acts:(List D2)
 deriving Inhabited
def E0.d (x:E0):D := .agg [.v (.string x.name),.arr 1 ((x.need).map vI),.v (.int .i64 x.least),.v (.int .i64 x.most),.v (.bool x.poll),.arr 1 ((x.on_).map vI),.arr 1 ((x.use_).map vI),.arr 1 ((x.off).map vI),.arr 5 ((x.acts).map D2.d)]
structure D4 where
 N4:(List F6)
 P5:(List G6)
 N6:(List E2)
 S5:(List ByteArray)
 J3:(List D1)
 Q7:Int
 T9:Int
 stations:(List ByteArray)
 batteries:(List D9)
 steps:(List E0)
 points:(List Int)
 Q8:Int
 O8:Int
 deriving Inhabited
def D4.d (x:D4):D := .agg [.arr 8 ((x.N4).map F6.d),.arr 2 ((x.P5).map G6.d),.arr 2 ((x.N6).map E2.d),.arr 1 ((x.S5).map vS),.arr 6 ((x.J3).map D1.d),.v (.int .i64 x.Q7),.v (.int .i64 x.T9),.arr 1 ((x.stations).map vS),.arr 3 ((x.batteries).map D9.d),.arr 9 ((x.steps).map E0.d),.arr 1 ((x.points).map vI),.v (.int .i64 x.Q8),.v (.int .i64 x.O8)]
structure C7 where
 at_:Int
 kind:Int
 what:Int
 A04:Int
 A0D:Int
 A1L:Int
 A0E:Int
 A0F:Int
 deriving Inhabited
def C7.d (x:C7):D := .agg [.v (.int .i64 x.at_),.v (.int .i64 x.kind),.v (.int .i64 x.what),.v (.int .i64 x.A04),.v (.int .i64 x.A0D),.v (.int .i64 x.A1L),.v (.int .i64 x.A0E),.v (.int .i64 x.A0F)]
structure F7 where
 H0:(List F6)
 G8:(List G6)
 G2:(List E2)
 H4:(List ByteArray)
 G3:(List D1)
 G9:Int
 H5:Int
 H9:(List ByteArray)
 E7:(List D9)
 F8:(List E0)
 I9:(List Int)
 D8:Int
 G0:Int
 H6:Int
 G5:Int
 F5:(List Int)
 E8:(List Int)
 E5:(List Int)
 F3:Int
 F4:Bool
 A1:(List Int)
 A5:(List Int)
 F9:Bool
 B1:(List Bool)
 A7:(List Int)
 B0:(List Bool)
 deriving Inhabited
def F7.d (x:F7):D := .agg [.arr 8 ((x.H0).map F6.d),.arr 2 ((x.G8).map G6.d),.arr 2 ((x.G2).map E2.d),.arr 1 ((x.H4).map vS),.arr 6 ((x.G3).map D1.d),.v (.int .i64 x.G9),.v (.int .i64 x.H5),.arr 1 ((x.H9).map vS),.arr 3 ((x.E7).map D9.d),.arr 9 ((x.F8).map E0.d),.arr 1 ((x.I9).map vI),.v (.int .i64 x.D8),.v (.int .i64 x.G0),.v (.int .i64 x.H6),.v (.int .i64 x.G5),.arr 1 ((x.F5).map vI),.arr 1 ((x.E8).map vI),.arr 1 ((x.E5).map vI),.v (.int .i64 x.F3),.v (.bool x.F4),.arr 1 ((x.A1).map vI),.arr 1 ((x.A5).map vI),.v (.bool x.F9),.arr 1 ((x.B1).map vB),.arr 1 ((x.A7).map vI),.arr 1 ((x.B0).map vB)]
structure H2 where
 now:Int
 A9j:Int
 N4:(List Int)
 A5M:(List Int)
 J3:(List Int)
 A68:Int
 A69:Bool
 begun:(List Int)
 ended:(List Int)
 held:Bool
 go:(List Bool)
 left:(List Int)
 on_:(List Bool)
 deriving Inhabited
def H2.d (x:H2):D := .agg [.v (.int .i64 x.now),.v (.int .i64 x.A9j),.arr 1 ((x.N4).map vI),.arr 1 ((x.A5M).map vI),.arr 1 ((x.J3).map vI),.v (.int .i64 x.A68),.v (.bool x.A69),.arr 1 ((x.begun).map vI),.arr 1 ((x.ended).map vI),.v (.bool x.held),.arr 1 ((x.go).map vB),.arr 1 ((x.left).map vI),.arr 1 ((x.on_).map vB)]
structure B0A where
 x:Int
 y:Int
 deriving Inhabited
def B0A.d (x:B0A):D := .agg [.v (.int .i64 x.x),.v (.int .i64 x.y)]
abbrev B3M (w:List D9):Rw:=⟨3,w.map fun a => .d (D9.d a)⟩
abbrev B62 (w:List C7):Rw:=⟨8,w.map fun a => .d (C7.d a)⟩
abbrev B7A (w:List G6):Rw:=⟨2,w.map fun a => .d (G6.d a)⟩
abbrev B4T (w:List E2):Rw:=⟨2,w.map fun a => .d (E2.d a)⟩
abbrev B7B (w:List F6):Rw:=⟨8,w.map fun a => .d (F6.d a)⟩
abbrev H7 (w:List Bool):Rw:=⟨1,w.map fun a => .d (vB a)⟩
abbrev B7 (w:List Int):Rw:=⟨1,w.map fun a => .d (vI a)⟩
abbrev lvS (w:List ByteArray):Rw:=⟨1,w.map fun a => .d (vS a)⟩
abbrev J2 (x:C3) (a0 a1 a2:Nat):T := .agg [.d (.v (.int .i64 x.now)),.row a0 1 0 x.zones.length,.row a1 1 0 x.holder.length,.row a2 1 0 x.squibs.length,.d (.v (.int .i64 x.siren)),.d (.v (.bool x.storm))]
abbrev m1w (w:List (ByteArray × Bool)):Rw:=⟨0,w.map fun p => .agg [.d (.v (.string p.1)),.d (.v (.bool p.2))]⟩
abbrev C6 (x:E6) (a0 a1 a2:Nat):T := .agg [.d (.arr 8 ((x.O0).map F6.d)),.d (.arr 2 ((x.V4).map G6.d)),.d (.arr 2 ((x.O3).map E2.d)),.d (.arr 1 ((x.A0r).map vS)),.d (.arr 6 ((x.O4).map D1.d)),.d (.v (.int .i64 x.X3)),.d (.v (.int .i64 x.A0s)),.d (.v (.int .i64 x.N7)),.row a0 1 0 x.A9.length,.row a1 1 0 x.A8.length,.row a2 1 0 x.A4.length,.d (.v (.int .i64 x.I3)),.d (.v (.bool x.I1))]
abbrev A0h (x:D1) (a0:Nat):T := .agg [.d (.v (.string x.name)),.d (.v (.int .i64 x.A4s)),.d (.v (.int .i64 x.A4t)),.d (.v (.int .i64 x.clear)),.d (.v (.int .i64 x.grade)),.row a0 1 0 x.keys.length]
abbrev m2w (w:List (Int × Int)):Rw:=⟨0,w.map fun p => .agg [.d (.v (.int .i64 p.1)),.d (.v (.int .i64 p.2))]⟩
abbrev C5 (x:F7) (a0 a1 a2 a3 a4:Nat):T := .agg [.d (.arr 8 ((x.H0).map F6.d)),.d (.arr 2 ((x.G8).map G6.d)),.d (.arr 2 ((x.G2).map E2.d)),.d (.arr 1 ((x.H4).map vS)),.d (.arr 6 ((x.G3).map D1.d)),.d (.v (.int .i64 x.G9)),.d (.v (.int .i64 x.H5)),.d (.arr 1 ((x.H9).map vS)),.d (.arr 3 ((x.E7).map D9.d)),.d (.arr 9 ((x.F8).map E0.d)),.d (.arr 1 ((x.I9).map vI)),.d (.v (.int .i64 x.D8)),.d (.v (.int .i64 x.G0)),.d (.v (.int .i64 x.H6)),.d (.v (.int .i64 x.G5)),.d (.arr 1 ((x.F5).map vI)),.d (.arr 1 ((x.E8).map vI)),.d (.arr 1 ((x.E5).map vI)),.d (.v (.int .i64 x.F3)),.d (.v (.bool x.F4)),.row a0 1 0 x.A1.length,.row a1 1 0 x.A5.length,.d (.v (.bool x.F9)),.row a2 1 0 x.B1.length,.row a3 1 0 x.A7.length,.row a4 1 0 x.B0.length]
abbrev B4I (x:H2) (a0 a1 a2 a3 a4:Nat):T := .agg [.d (.v (.int .i64 x.now)),.d (.v (.int .i64 x.A9j)),.d (.arr 1 ((x.N4).map vI)),.d (.arr 1 ((x.A5M).map vI)),.d (.arr 1 ((x.J3).map vI)),.d (.v (.int .i64 x.A68)),.d (.v (.bool x.A69)),.row a0 1 0 x.begun.length,.row a1 1 0 x.ended.length,.d (.v (.bool x.held)),.row a2 1 0 x.go.length,.row a3 1 0 x.left.length,.row a4 1 0 x.on_.length]
abbrev m3w (w:List (Int × Bool)):Rw:=⟨0,w.map fun p => .agg [.d (.v (.int .i64 p.1)),.d (.v (.bool p.2))]⟩
abbrev C5F (x:H2) (a0 a1 a2:Nat):T := .agg [.d (.v (.int .i64 x.now)),.d (.v (.int .i64 x.A9j)),.row a0 1 0 x.N4.length,.row a1 1 0 x.A5M.length,.row a2 1 0 x.J3.length,.d (.v (.int .i64 x.A68)),.d (.v (.bool x.A69)),.d (.arr 1 ((x.begun).map vI)),.d (.arr 1 ((x.ended).map vI)),.d (.v (.bool x.held)),.d (.arr 1 ((x.go).map vB)),.d (.arr 1 ((x.left).map vI)),.d (.arr 1 ((x.on_).map vB))]
abbrev C5G (x:H2) (a0 a1 a2 a3 a4 a5:Nat):T := .agg [.d (.v (.int .i64 x.now)),.d (.v (.int .i64 x.A9j)),.row a0 1 0 x.N4.length,.row a1 1 0 x.A5M.length,.row a2 1 0 x.J3.length,.d (.v (.int .i64 x.A68)),.d (.v (.bool x.A69)),.row a3 1 0 x.begun.length,.row a4 1 0 x.ended.length,.d (.v (.bool x.held)),.d (.arr 1 ((x.go).map vB)),.row a5 1 0 x.left.length,.d (.arr 1 ((x.on_).map vB))]
abbrev C4z (x:H2) (a0 a1 a2 a3 a4 a5 a6 a7:Nat):T := .agg [.d (.v (.int .i64 x.now)),.d (.v (.int .i64 x.A9j)),.row a0 1 0 x.N4.length,.row a1 1 0 x.A5M.length,.row a2 1 0 x.J3.length,.d (.v (.int .i64 x.A68)),.d (.v (.bool x.A69)),.row a3 1 0 x.begun.length,.row a4 1 0 x.ended.length,.d (.v (.bool x.held)),.row a5 1 0 x.go.length,.row a6 1 0 x.left.length,.row a7 1 0 x.on_.length]
abbrev C7k (x:H2) (a0 a1:Nat):T := .agg [.d (.v (.int .i64 x.now)),.d (.v (.int .i64 x.A9j)),.d (.arr 1 ((x.N4).map vI)),.d (.arr 1 ((x.A5M).map vI)),.d (.arr 1 ((x.J3).map vI)),.d (.v (.int .i64 x.A68)),.d (.v (.bool x.A69)),.row a0 1 0 x.begun.length,.row a1 1 0 x.ended.length,.d (.v (.bool x.held)),.d (.arr 1 ((x.go).map vB)),.d (.arr 1 ((x.left).map vI)),.d (.arr 1 ((x.on_).map vB))]
abbrev C3x (w:List D9):Option Rw:=some (B3M w)
abbrev C39 (w:List G6):Option Rw:=some (B7A w)
abbrev C34 (w:List E2):Option Rw:=some (B4T w)
abbrev C3B (w:List F6):Option Rw:=some (B7B w)
abbrev B9r (w:List Bool):Option Rw:=some (H7 w)
abbrev B0u (w:List Int):Option Rw:=some (B7 w)
abbrev C4g (w:List ByteArray):Option Rw:=some (lvS w)
abbrev C3o (w:List (ByteArray × Bool)):Option Rw:=some (m1w w)
abbrev C3C (w:List (Int × Int)):Option Rw:=some (m2w w)
abbrev C3e (w:List (Int × Bool)):Option Rw:=some (m3w w)
abbrev B8A (x:E6) (l:List (Option Rw)):List (Option Rw):=bx 13 (C6 x 1 2 3)::B0u x.A9::B0u x.A8::B0u x.A4::l
abbrev B6X (x:F7) (l:List (Option Rw)):List (Option Rw):=bx 26 (C5 x 1 2 3 4 5)::B0u x.A1::B0u x.A5::B9r x.B1::B0u x.A7::B9r x.B0::l
def D2.beq (x y:D2):Bool:=(x.at_==y.at_)&&(x.kind==y.kind)&&(x.who==y.who)&&(x.what==y.what)&&(x.with_==y.with_)
set_option maxHeartbeats 1000000 in
theorem C04 (x y:D2) (o1 o2:aa) (w:World):(do eqGuard .neq 56 o1 o2 (.agg [.int .i64 x.at_,.int .i64 x.kind,.int .i64 x.who,.int .i64 x.what,.int .i64 x.with_].toArray) (.agg [.int .i64 y.at_,.int .i64 y.kind,.int .i64 y.who,.int .i64 y.what,.int .i64 y.with_].toArray);binOp .neq 56 (.agg [.int .i64 x.at_,.int .i64 x.kind,.int .i64 x.who,.int .i64 x.what,.int .i64 x.with_].toArray) (.agg [.int .i64 y.at_,.int .i64 y.kind,.int .i64 y.who,.int .i64 y.what,.int .i64 y.with_].toArray):Sem Value).run pg w = .ok (.bool (!D2.beq x y)) w:=by
 have hg:pg.eqGuardType pg.depth 56=false:=by kernel_rfl
 have hS:pg.underlying 56=some (.struct (pg.fieldsOf 56)):=by kernel_rfl
 have u3:=Tryz.underlying3;have a3:=Tryz.isAgg3;have z3:=Tryz.sizeOf3;have h2:(binOp .neq 56 (.agg [.int .i64 x.at_,.int .i64 x.kind,.int .i64 x.who,.int .i64 x.what,.int .i64 x.with_].toArray) (.agg [.int .i64 y.at_,.int .i64 y.kind,.int .i64 y.who,.int .i64 y.what,.int .i64 y.with_].toArray)).run pg w = .ok (.bool (!D2.beq x y)) w:=by
  rw[run_neq_struct,show(10000:Nat)=9999+1 from rfl,run_equalIn_agg w 9999 56 _ _ hS (by kernel_rfl)];simp only[Program.fieldsOf,Tryz.underlying56,D2.beq]
  go_simp
  by_cases h1:x.at_=y.at_<;>by_cases h2:x.kind=y.kind<;>by_cases h3:x.who=y.who<;>by_cases h4:x.what=y.what<;>by_cases h5:x.with_=y.with_<;>simp[h1,h2,h3,h4,h5]
 simp[eqGuard,hg,h2]
def G6.beq (x y:G6):Bool:=(x.a==y.a)&&(x.b==y.b)
set_option maxHeartbeats 1000000 in
theorem C0z (x y:G6) (o1 o2:aa) (w:World):(do eqGuard .eql 160 o1 o2 (.agg [.int .i64 x.a,.int .i64 x.b].toArray) (.agg [.int .i64 y.a,.int .i64 y.b].toArray);binOp .eql 160 (.agg [.int .i64 x.a,.int .i64 x.b].toArray) (.agg [.int .i64 y.a,.int .i64 y.b].toArray):Sem Value).run pg w = .ok (.bool (G6.beq x y)) w:=by
 have hg:pg.eqGuardType pg.depth 160=false:=by kernel_rfl
 have hS:pg.underlying 160=some (.struct (pg.fieldsOf 160)):=by kernel_rfl
 have u3:=Tryz.underlying3;have a3:=Tryz.isAgg3;have z3:=Tryz.sizeOf3;have h2:(binOp .eql 160 (.agg [.int .i64 x.a,.int .i64 x.b].toArray) (.agg [.int .i64 y.a,.int .i64 y.b].toArray)).run pg w = .ok (.bool (G6.beq x y)) w:=by
  rw[run_eql_struct,show(10000:Nat)=9999+1 from rfl,run_equalIn_agg w 9999 160 _ _ hS (by kernel_rfl)];simp only[Program.fieldsOf,Tryz.underlying160,G6.beq]
  go_simp
  by_cases h1:x.a=y.a<;>by_cases h2:x.b=y.b<;>simp[h1,h2]
 simp[eqGuard,hg,h2]
end Go.Proofs.YtlaogbbcipebgaaGreat
