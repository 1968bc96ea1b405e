/- Maps with strings as keys; type assertions; functions that defer a closure that recovers and has caught boxes. Over whatever program. -/
import Derived.Test.YtlaogbbcipebgaaGreatSa19
namespace Go.Proofs.YtlaogbbcipebgaaGreat.Sh
set_option linter.unusedVariables false
set_option linter.unusedSimpArgs false
open Go
theorem A9W.str {P:Program} {kt:TypeId} (h:P.underlying kt=some .string):A9W P kt (fun a:ByteArray => .string a) where
 desc:=⟨_,h,fun a b=>by simp[Instr.sameNow]⟩
 check e a w:=MapKept.run_checkKey (k := .string a) h (show MapKept.IsKey .string (.string a)from trivial) e 9999
 bits a b hab:=by
  have:a=b:=(MapKept.bytes_beq a b).1 hab
  subst this
  simp only[Instr.sameBits];exact hab
section
variable {P:Program} {N:Nat} {ops:Array Oper} {l:List Oper} {ts:List (Nat × T)} {L:List (Option Rw)} {tr:List Stp} {K:List Oper→List Stp→St→Prop} {d:Nat} {ty:TypeId} {pos:String} {af:Array Edge} {gd:Option (Nat × Bool)}
theorem B5U {t e kt:TypeId} {ei:TI} {x y:Operand} {n:Nat} {β:Type} {vf:β→D} {m:List (ByteArray × β)} {k:ByteArray} {z0:β} {u:D} (tb:Tab P) (ht:P.underlying t=some (.map kt e)) (hk:P.underlying kt=some .string) (he:tb.f e=some ei) (hx:O9 ts x = .mp n) (hy:O9 ts y = .d (.v (.string k))) (hr:L[n]?=some (some ⟨0,m.map fun p => .agg [.d (.v (.string p.1)),.d (vf p.2)]⟩)) (hz:ei.z = .d (vf z0)) (hu:vf ((A2e m k).getD z0)=u)
  (hw:I2 ops ts ⟨some d,.lookup t x y false,ty,pos,af,gd⟩=some true) (hd:Nat.blt d N=true)
  (kk:L3 P N ops l ⟨(d,.d u)::ts,L⟩ (tr++[.run [n] []]) K) :
  L3 P N ops (⟨some d,.lookup t x y false,ty,pos,af,gd⟩::l) ⟨ts,L⟩ tr K:=by
 subst hu
 exact K0 (ins:=[(x,.mp n),(y,.d (.v (.string k)))]) (rn:=[(n,A7d (fun a:ByteArray => .string a) vf m)]) rfl (B3V rfl ht (tb.ok _ _ he) (.str hk) hz) hw (by simp[Op.operands,hx,hy]) (by simp[hr,A7d]) hd kk
theorem B01 {t e kt:TypeId} {x y z:Operand} {n:Nat} {β:Type} {vf:β→D} {m q:List (ByteArray × β)} {k:ByteArray} {v:β} (L':List (Option Rw)) (ht:P.underlying t=some (.map kt e)) (hk:P.underlying kt=some .string) (hx:O9 ts x = .mp n) (hy:O9 ts y = .d (.v (.string k))) (hz:O9 ts z = .d (vf v)) (hr:L[n]?=some (some ⟨0,m.map fun p => .agg [.d (.v (.string p.1)),.d (vf p.2)]⟩)) (hq:M0 m k v=q) (hL:L.set n (some ⟨0,q.map fun p => .agg [.d (.v (.string p.1)),.d (vf p.2)]⟩)=L')
  (hw:I2 ops ts ⟨none,.mapUpdate t x y z,ty,pos,af,gd⟩=some true)
  (kk:L3 P N ops l ⟨ts,L'⟩ (tr++[.run [n] [n]]) K) :
  L3 P N ops (⟨none,.mapUpdate t x y z,ty,pos,af,gd⟩::l) ⟨ts,L⟩ tr K:=by
 subst hq hL
 refine A2i (.run hw (B0X (kv:=fun a:ByteArray => .string a) (vf:=vf) (m:=m) (k:=k) (v:=v) (n:=n) (fresh:=L.length) (.inl rfl) ht (.str hk)) ?_ ?_ ?_ rfl) ?_
 ·intro p hp
  simp only[List.mem_cons,List.not_mem_nil,or_false]at hp
  rcases hp with rfl | rfl | rfl
  ·exact⟨hx,by simp[Op.operands]⟩
  ·exact⟨hy,by simp[Op.operands]⟩
  ·exact⟨hz,by simp[Op.operands]⟩
 ·intro p hp;simp only[List.mem_cons,List.not_mem_nil,or_false]at hp;subst hp;exact hr
 ·intro p hp;simp only[List.mem_cons,List.not_mem_nil,or_false]at hp;subst hp;exact⟨_,List.mem_singleton.2 rfl,rfl⟩
 ·simpa[St.eff,A5m,A4m,A7d]using kk
theorem B7O {P:Program} {o:Oper} {fresh:Nat} {t e:TypeId} {i ei:TI} {x y:Operand} {cl:List D} {m:Nat} {k:IntKind} {q:Nat} (hop:o.op = .index t x y) (ht:TOk P t i) (hs:i.ar=some (m,e)) (he:TOk P e ei) (hq:q<m) (hp:A2S ei (cl.map T.d).length (q*ei.size)=true) :
  OpS P o [(x,.d (.agg cl)),(y,.d (.v (.int k q)))] [] [] fresh [] (A29 ei (cl.map T.d) (q*ei.size)):=by
 intro F nn hF g a hg hi hr hM next Q hk
 refine B5c (cl:=cl.map T.d) (k:=k) hop ht hs he hq hp F nn hF g a hg (fun p h=>?_) hr hM next Q hk
 ·simp only[List.mem_cons,List.not_mem_nil,or_false]at h
  rcases h with rfl | rfl
  ·have hx:=hi (x,.d (.agg cl)) (by simp)
   dsimp only at hx ⊢
   generalize a.eval x=v at hx ⊢
   cases hx with | d hx =>
   cases hx with | agg _ cs hl h =>
   refine .agg _ _ (by simpa using hl) fun i d c hd hc=>?_
   simp only[List.getElem?_map,Option.map_eq_some_iff]at hd
   obtain⟨d',hd',rfl⟩:=hd
   exact .d (h i d' c hd' hc)
  ·exact hi (y,.d (.v (.int k q))) (by simp)
theorem A9p {t e:TypeId} {i ei:TI} {x y:Operand} {cl:List D} {m:Nat} {k:IntKind} {z:Int} (q:Nat) (u:T) (tb:Tab P) (ht:tb.f t=some i) (hs:i.ar=some (m,e)) (he:tb.f e=some ei) (hx:O9 ts x = .d (.agg cl)) (hy:O9 ts y = .d (.v (.int k z))) (hz:z=(q:Int)) (hq:Nat.blt q m=true) (hp:A2S ei (cl.map T.d).length (q*ei.size)=true) (hv:A29 ei (cl.map T.d) (q*ei.size)=u)
  (hw:I2 ops ts ⟨some d,.index t x y,ty,pos,af,gd⟩=some true) (hd:Nat.blt d N=true) (kk:L3 P N ops l ⟨(d,u)::ts,L⟩ (tr++[.run [] []]) K):L3 P N ops (⟨some d,.index t x y,ty,pos,af,gd⟩::l) ⟨ts,L⟩ tr K:=by
 subst hz hv
 exact K0 (ins:=[(x,.d (.agg cl)),(y,.d (.v (.int k q)))]) (rn:=[]) rfl (B7O rfl (tb.ok _ _ ht) hs (tb.ok _ _ he) (by simpa[Nat.blt_eq]using hq) hp) hw (by simp[Op.operands,hx,hy]) (by simp) hd kk
theorem C07 {P:Program} {o:Oper} {fresh:Nat} {x:Operand} {a b t:TypeId} {c:Value} (hop:o.op = .typeAssert x a b false) (hta:∀ w:World,(Instr.typeAssert (.iface t c) a b false).run P w = .ok c w) (hc:one c):OpS P o [(x,.d (.v (.iface t c)))] [] [] fresh [] (.d (.v c)) :=
 .of_pure (fun c h=>by rw[hop]at h;cases h) fun g a _ hi _=>⟨c,by
  have e1:=(hi (x,.d (.v (.iface t c))) (by simp)).v_eq
  dsimp only at e1
  simp[execOp,hop,e1,hta],.d (.v _ hc)⟩
theorem B5V {x:Operand} {a b t:TypeId} {c:Value} (hx:O9 ts x = .d (.v (.iface t c))) (hta:∀ w:World,(Instr.typeAssert (.iface t c) a b false).run P w = .ok c w) (hc:one c) (hw:I2 ops ts ⟨some d,.typeAssert x a b false,ty,pos,af,gd⟩=some true) (hd:Nat.blt d N=true)
  (kk:L3 P N ops l ⟨(d,.d (.v c))::ts,L⟩ (tr++[.run [] []]) K) :
  L3 P N ops (⟨some d,.typeAssert x a b false,ty,pos,af,gd⟩::l) ⟨ts,L⟩ tr K :=
 K0 (ins:=[(x,.d (.v (.iface t c)))]) (rn:=[]) rfl (C07 rfl hta hc) hw (by simp[Op.operands,hx]) (by simp) hd kk
end
structure DfK (P:Program) (fd:FuncId) (c2:Code) (N2 m:Nat) (tyE:TypeId):Prop where
 idle:∀ (ds:Array Value) (w:World),ds.size=m→CallsDIn Fence.wide 0 P fd ds .returning w fun e u' w'=>e = .returned (.tuple #[])∧u' = .returning∧w'=w
 caught:∀ (ds:Array Value) (v:Value) (older:List PanicEntry) (w:World) (R:World→Prop),ds.size=m→(∃ c,v = .iface tyE c)→(∀ a:Act,a.defers=[]→a.tmps.size=N2→(∀ i,i<m→a.tmps.getD i undef=ds.getD i undef)→a.tmps.getD m undef=v→c2.wpIn Fence.wide 0 P (fun ex a' w'=>ex = .normal∧a'.defers=[]∧R w') a w) →
  CallsDIn Fence.wide 0 P fd ds (.panicking ({ v,recovered:=false }::older)) w fun e u' w'=>e = .returned (.tuple #[])∧u' = .panicking ({ v,recovered:=true }::older)∧R w'
def A8Q:Nat→List T→List (Nat × T)
 | _,[]=>[]
 | i,t::l=>(i,t)::A8Q (i+1) l
theorem B37:∀ {l:List T} {i j:Nat},W8 (A8Q i l) j=if i≤j then l.getD (j-i) .bot else .bot
 | [],i,j=>by simp[A8Q,W8]
 | t::l,i,j=>by
  simp only[A8Q,W8]
  cases hb:Nat.beq j i with
  | true =>
   have:=Nat.eq_of_beq_eq_true hb;subst this;simp
  | false =>
   have hne:j≠i:=fun e=>by subst e;rw[Nat.beq_refl]at hb;cases hb
   simp only[cond_false]
   rw[B37]
   by_cases h1:i+1≤j
   ·rw[if_pos h1,if_pos (by omega)]
    obtain⟨k,rfl⟩:∃ k,j=i+1+k:=⟨j-(i+1),by omega⟩
    rw[show i+1+k-(i+1)=k by omega,show i+1+k-i=k+1 by omega]
    simp
   ·rw[if_neg h1,if_neg (by omega)]
def QK (P:Program) (fn:Func) (n0:Nat) (R:SE→List (Option Rw)→Prop) (tyE:TypeId) (c2:Code) (N2 n1:Nat) (caps:List T):SX→St→Prop
 | .ret,st | .norm,st=>Fin P fn n0 R .ret st
 | .pan t,st=>∃ E st1 κ,t = .d (.v (.iface tyE E))∧Vw n1 st st1 κ∧SW P st1.L.length N2 [] c2 (fun sx st2=>sx = .norm∧Fin P fn n0 R .ret ⟨st1.ts,st2.L⟩) ⟨A8Q 0 (caps++[t]),st1.L⟩
 | _,_=>False
theorem B7Y {P:Program} {fn:Func} {n0:Nat} {R:SE→List (Option Rw)→Prop} {tyE:TypeId} {c2:Code} {N2 n1:Nat} {caps:List T} {st:St} (h:Fin P fn n0 R .ret st):QK P fn n0 R tyE c2 N2 n1 caps .ret st:=h
def C0Y (P:Program) (fn:Func) (n0:Nat) (R:SE→List (Option Rw)→Prop) (N:Nat) (tyE:TypeId) (fd:FuncId) (c2:Code) (N2 m:Nat) (rest:Code) (ops:Array Oper):List Oper→List Stp→St→Prop:=fun l2 _ st' =>
 ∃ d caps ty pos af,l2=[⟨none,.defer { callee := .value (.tmp d),args:=#[],argTypes:=#[] },ty,pos,af,none⟩]∧W8 st'.ts d = .fn (.func fd) [] caps∧caps.length=m∧scL st'.L.length caps=true∧∀ df,SW P st'.L.length N df rest (QK P fn n0 R tyE c2 N2 st'.L.length caps) st'
section
variable {P:Program} {fn:Func} {n0 N:Nat} {R:SE→List (Option Rw)→Prop} {st:St}
theorem B2t {tyE:TypeId} {fd:FuncId} {fn2:Func} {x1 x2:Code} {o2:Operand} {c2:Code} {N2 m id:Nat} {l:List Oper} {rest:Code} (hb:fn2.body=some (.seq x1 (.seq x2 (.cond o2 c2 .skip)))) (hd:fn2.body=some (.seq x1 (.seq x2 (.cond o2 c2 .skip)))→DfK P fd c2 N2 m tyE) (hm:m<N2) (he:Ent P fd) (h:L3 P N l.toArray l st [] (C0Y P fn n0 R N tyE fd c2 N2 m rest l.toArray)):SWD P fn n0 R N (.seq (.region id l.toArray false) rest) st:=fun g0 g a hM hl hR=>by
 obtain⟨l1,l2,tr,st',rfl,h1,d,caps,ty,pos,af,rfl,h2,hcl,hcs,h3⟩:=h
 refine wpIn_seq (wpIn_region_lit ?_)
 generalize hops:(l1++[(⟨none,.defer { callee := .value (.tmp d),args:=#[],argTypes:=#[] },ty,pos,af,none⟩:Oper)]).toArray=ops at h1
 refine B70 h1 Wd.wide (g:=g) (fun g1 a hl1 hR1=>?_) a hR
 unfold wpListIn
 rw[A0W (show I2 ops st'.ts ⟨none,.defer { callee := .value (.tmp d),args:=#[],argTypes:=#[] },ty,pos,af,none⟩=some true from rfl) fun d _=>hR1.ts d]
 simp only[if_true]
 refine⟨fun f _=>trivial,?_⟩
 have hv:=hR1.ts d
 rw[h2]at hv
 obtain⟨cs,ds,hc,hfi,hca⟩:=A8P hv (.inr rfl)
 have hcs0:cs=#[]:=by have:=hfi.1;simp at this;exact Array.size_eq_zero_iff.1 this.symm
 subst hcs0
 have hds:ds.size=m:=by rw[← hcl];simpa using hca.1.symm
 have hev:a.eval (.tmp d) = .func (.func fd) #[] ds:=hc
 have hrun:(Oper.semAt Fence.wide.round a.eval ⟨none,.defer { callee := .value (.tmp d),args:=#[],argTypes:=#[] },ty,pos,af,none⟩).run P g1.w = .ok (.defer { target := .fn (.func fd) ds,args:=#[] }) g1.w:=by
  have e0:Fence.wide.round=none:=rfl
  rw[e0,Oper.semAt_none]
  simp[execOp,resolve,hev,Deferred.ofValue]
 rw[hrun,Oper.uponIn_defer]
 unfold wpListIn
 show rest.wpIn Fence.wide 0 P (C0x fn P g0 R) _ g1.w
 have hR2:StR g1 N st' ({ a with defers:={ target := .fn (.func fd) ds,args:=#[] }::a.defers }.put none undef) [{ target := .fn (.func fd) ds,args:=#[] }]:=⟨hR1.good,hR1.M,hR1.size,hR1.ts,by show _::a.defers=_;rw[hR1.df]⟩
 refine wpIn_mono (h3 _ Fence.wide 0 Wd.wide g1 _ hR2) ?_
 rintro ex a' w' ⟨g',sx,st2,rfl,q2,q3,q4,q5⟩
 have hle1:Le g1 g':=q2.toLe hR1.M (Nat.le_refl _)
 have hlg:LeN n0 g0 g':=hl.trans ((hl1.trans hle1).toN n0)
 have ok:Fin P fn n0 R .ret st2→LeavesIn Fence.wide 0 P fn a'.tmps (fun e w'=>∃ g' se L',g'.w=w'∧P6 g'∧Le g0 g'∧g'.M=ofL L'∧SER g' se e∧R se L') a'.defers .returning g'.w:=fun hf=>by
  rw[q3.df]
  refine leavesIn_cons (f:=fd) (args:=ds) (by intro h;cases h) (by intro h;cases h) (by simp[invoke,go_sem,he _ _]) (fun _ _=>trivial) ?_
  refine((hd hb).idle ds g'.w hds).mono ?_
  rintro e u' w'' ⟨rfl,rfl,rfl⟩
  exact B5D hM hlg q3 hf
 cases sx with
 | norm=>cases ex<;>first | exact q4.elim | exact ok q5
 | ret=>cases ex<;>first | exact q4.elim | exact ok q5
 | exit i=>exact q5.elim
 | pan t =>
  cases ex<;>first | exact q4.elim | skip
  obtain⟨v,rfl,hv'⟩:=q4
  obtain⟨E,st1,κ,rfl,hvw,hf⟩:=q5
  have hve:=hv'.v_eq
  have h1:one v:=by cases hv' with | d h=>cases h with | v _ h=>exact h
  have hv':∀ g:G,VT g (.d (.v (.iface tyE E))) v:=fun g=>by subst hve;exact .d (.v _ h1)
  clear ok hle1 hlg
  have hdf:=q3.df
  obtain⟨g'',hw'',hl'',q3⟩:=hvw.see q3
  rw[← hw'']
  clear hw''
  have q2:=q2.trans hl''
  clear hl''
  generalize g''=g' at q2 q3
  have hle1:Le g1 g':=q2.toLe hR1.M (Nat.le_refl _)
  have hlg:LeN n0 g0 g':=hl.trans ((hl1.trans hle1).toN n0)
  show LeavesIn Fence.wide 0 P fn a'.tmps _ a'.defers (.panicking _) g'.w
  rw[q3.df]
  refine leavesIn_cons (f:=fd) (args:=ds) (by intro h;cases h) (by intro h;cases h) (by simp[invoke,go_sem,he _ _]) (fun _ _=>trivial) ?_
  refine((hd hb).caught ds v [] g'.w (fun w'=>∃ v,(results fn a'.tmps).run P w' = .ok v w'∧∃ g' se L',g'.w=w'∧P6 g'∧Le g0 g'∧g'.M=ofL L'∧SER g' se (.returned v)∧R se L') hds ⟨E,hve⟩ fun b hb1 hb2 hb3 hb4=>?_).mono ?_
  ·have hcap:∀ i,VT g' (W8 (A8Q 0 (caps++[.d (.v (.iface tyE E))])) i) (b.tmps.getD i undef):=fun i=>by
    rw[B37,if_pos (Nat.zero_le i),Nat.sub_zero,List.getD_eq_getElem?_getD]
    by_cases hi:i<m
    ·rw[List.getElem?_append_left (by omega),hb3 i hi]
     have h5:caps[i]?=some (caps[i]'(by omega)):=List.getElem?_eq_getElem _
     have h6:ds.toList[i]?=some (ds.toList[i]'(by simp;omega)):=List.getElem?_eq_getElem _
     have:=(hca.2 i _ _ h5 h6).mono hR1.good hle1
     rw[h5,Option.getD_some]
     simpa[Array.getD,hds,hi]using this
    ·rw[List.getElem?_append_right (by omega)]
     by_cases hi2:i=m
     ·subst hi2
      rw[hb4,hcl,Nat.sub_self]
      exact hv' _
     ·rw[show([T.d (.v (.iface tyE E))]:List T)[i-caps.length]?=none from List.getElem?_eq_none (by simp;omega)]
      exact .bot _
   refine wpIn_mono (hf Fence.wide 0 Wd.wide g' b ⟨q3.good,q3.M,hb2,hcap,hb1⟩) ?_
   rintro ex a2 w2 ⟨g2,sx,st3,rfl,r2,r3,r4,rfl,r5⟩
   cases ex<;>first | exact r4.elim | skip
   have hle2:Le g' g2:=r2.toLe q3.M (Nat.le_refl _)
   refine⟨rfl,r3.df,?_⟩
   have hR3:StR g2 N ⟨st1.ts,st3.L⟩ a' [{ target := .fn (.func fd) ds,args:=#[] }]:=⟨r3.good,r3.M,q3.size,fun i=>(q3.ts i).mono q3.good hle2,q3.df⟩
   exact B5D hM (hlg.trans (hle2.toN n0)) hR3 r5
  ·rintro e u' w'' ⟨rfl,rfl,hR⟩
   exact hR
end
def SCB {α:Type} (P:Program) (f:FuncId) (as:List T) (L:List (Option Rw)) (x:Except Int α) (t:α→T) (L1:α→List (Option Rw)) (t2:Int→T) (L2:List (Option Rw)):Prop :=
 SC P f as L fun se X=>(∃ a,x = .ok a∧se = .ret (t a)∧X=L1 a)∨∃ e,x = .error e∧se = .ret (t2 e)∧X=L2
theorem SCB.ok {α:Type} {P:Program} {f:FuncId} {as:List T} {L:List (Option Rw)} {x:Except Int α} {t:α→T} {L1:α→List (Option Rw)} {t2:Int→T} {L2:List (Option Rw)} (h:SCB P f as L x t L1 t2 L2) {a:α} (hn:x = .ok a):SCR P f as L (t a) (L1 a):=SC.mono h fun se X hX=>by
 rcases hX with⟨b,h1,h2,h3⟩ | ⟨e,h1,_⟩
 ·rw[hn]at h1;injection h1 with h1;subst h1;exact⟨h2,h3⟩
 ·rw[hn]at h1;cases h1
theorem SCB.err {α:Type} {P:Program} {f:FuncId} {as:List T} {L:List (Option Rw)} {x:Except Int α} {t:α→T} {L1:α→List (Option Rw)} {t2:Int→T} {L2:List (Option Rw)} (h:SCB P f as L x t L1 t2 L2) {e:Int} (hn:x = .error e):SCR P f as L (t2 e) L2:=SC.mono h fun se X hX=>by
 rcases hX with⟨b,h1,_⟩ | ⟨b,h1,h2⟩
 ·rw[hn]at h1;cases h1
 ·rw[hn]at h1;injection h1 with h1;subst h1;exact h2
end Go.Proofs.YtlaogbbcipebgaaGreat.Sh
