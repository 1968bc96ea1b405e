/- A region of operations and its plain picture: in the order of its text, and in whatever order its edges allow. Over whatever program. -/
import Derived.Test.YtlaogbbcipebgaaGreatSh8
namespace Go.Proofs.YtlaogbbcipebgaaGreat.Sh
set_option linter.unusedVariables false
set_option linter.unusedSimpArgs false
open Go
section
variable {F:Fence} {n:Nat} {P:Program} {md:Region.Mode} {ops:Array Oper} {Q:Exit→Act→World→Prop}
theorem B2A {listed:Array Bool} {i:Nat} (h:listed.getD i true=false):(listed.setIfInBounds i true).toList.count false+1=listed.toList.count false:=by
 have hi:i<listed.toList.length:=by
  rw[Array.length_toList]
  rcases Nat.lt_or_ge i listed.size with h' | h'
  ·exact h'
  ·simp[Array.getD,Nat.not_lt.2 h']at h
 have hv:listed.toList[i]=false:=by
  rw[Array.length_toList]at hi
  simpa[Array.getD,hi]using h
 rw[Array.toList_setIfInBounds,List.count_set hi,hv]
 have:0<listed.toList.count false:=List.count_pos_iff.2 (hv▸List.getElem_mem hi)
 rw[if_pos (show(false==false)=true from rfl),if_neg (show ¬ (true==false)=true by decide)]
 omega
theorem A9X {listed:Array Bool} {i:Nat} (h:i∈Region.ready md ops listed):(listed.setIfInBounds i true).toList.count false+1=listed.toList.count false :=
 B2A (mem_ready.1 h).1
theorem B0j (Inv:Array Bool→Act→World→Prop)
 (hstep:∀ listed a w i,Inv listed a w→i∈Region.ready md ops listed→wpOpIn F n P ops Q i (Inv (listed.setIfInBounds i true)) a w)
 (hend:∀ listed a w,Region.ready md ops listed=[]→Inv listed a w→Q .normal a w) :
 ∀ (fuel:Nat) (listed:Array Bool) (a:Act) (w:World),listed.toList.count false≤fuel→Inv listed a w→wpAnyIn F n P md ops Q fuel listed a w
 | 0,listed,a,w,hc,h=>by
   have hr:Region.ready md ops listed=[]:=by
    rw[List.eq_nil_iff_forall_not_mem]
    intro i hi
    have:=A9X hi
    omega
   exact⟨hr,hend _ _ _ hr h⟩
 | fuel+1,listed,a,w,hc,h =>
   ⟨fun hr=>hend _ _ _ hr h,fun i hi=>wpOpIn_mono (fun a' w' h'=>B0j Inv hstep hend fuel _ a' w' (by have:=A9X hi;omega) h') (hstep listed a w i h hi)⟩
def A71 (md:Region.Mode) (ops:Array Oper) (listed:Array Bool):Prop :=
 ∀ (j:Nat) (o:Oper),ops[j]?=some o→listed.getD j false=true→∀ e∈o.after,Region.binds md e=true→listed.getD e.on false=true
theorem A5J (m j:Nat):(Array.replicate m false).getD j false=false:=by
 unfold Array.getD
 split
 ·simp
 ·rfl
theorem A63 {listed:Array Bool} {i:Nat} (h:listed.getD i true=false) (j:Nat):(listed.setIfInBounds i true).getD j false=if j=i then true else listed.getD j false:=by
 have hi:i<listed.size:=by
  rcases Nat.lt_or_ge i listed.size with h' | h'
  ·exact h'
  ·simp[Array.getD,Nat.not_lt.2 h']at h
 simp only[Array.getD_eq_getD_getElem?,Array.getElem?_setIfInBounds]
 by_cases hj:j=i
 ·subst hj;simp[hi]
 ·rw[if_neg hj,if_neg (fun e=>hj e.symm)]
theorem A71.step {listed:Array Bool} {i:Nat} (h:A71 md ops listed) (hi:i∈Region.ready md ops listed):A71 md ops (listed.setIfInBounds i true):=by
 obtain⟨hun,oi,hoi,hall⟩:=mem_ready.1 hi
 intro j o ho hj e he hb
 rw[A63 hun]at hj ⊢
 by_cases hei:e.on=i
 ·rw[if_pos hei]
 ·rw[if_neg hei]
  by_cases hji:j=i
  ·subst hji
   rw[hoi]at ho
   injection ho with ho
   subst ho
   exact hall e he hb
  ·rw[if_neg hji]at hj
   exact h j o ho hj e he hb
theorem B0t {id:Nat} {ops:Array Oper} {a:Act} {w:World} (hm:P.follows .mixedOrders=true) (Inv:Array Bool→Act→World→Prop)
 (h0:Inv (Array.replicate ops.size false) a w.drew)
 (hstep:∀ listed a w i,A71 .any ops listed→Inv listed a w→i∈Region.ready .any ops listed→wpOpIn F n P ops Q i (Inv (listed.setIfInBounds i true)) a w)
 (hend:∀ listed a w,listed.size=ops.size→Region.ready .any ops listed=[]→Inv listed a w→Q .normal a w):(Code.region id ops true).wpIn F n P Q a w :=
 wpIn_region_any hm (B0j (fun listed a w=>listed.size=ops.size∧A71 .any ops listed∧Inv listed a w)
  (fun listed a w i h hi=>wpOpIn_mono (fun a' w' h'=>⟨by rw[Array.size_setIfInBounds];exact h.1,h.2.1.step hi,h'⟩) (hstep listed a w i h.2.1 h.2.2 hi))
  (fun listed a w hr h=>hend listed a w h.1 hr h.2.2) _ _ _ _ (by rw[Array.toList_replicate,List.count_replicate_self];exact Nat.le_refl _)
  ⟨by simp,(fun j o _ hj=>(by rw[A5J]at hj;cases hj):A71 .any ops (Array.replicate ops.size false)),h0⟩)
end
structure St where
 ts:List (Nat × T)
 L:List (Option Rw)
def W8:List (Nat × T)→Nat→T
 | [],_ => .bot
 | (j,t)::r,i=>bif Nat.beq i j then t else W8 r i
def O9 (ts:List (Nat × T)):Operand→T
 | .tmp t=>W8 ts t
 | .const v=>ofV v
 | .func f => .d (.v (.func (.func f) #[] #[]))
 | .global _ => .bot
def ofL (L:List (Option Rw)):Nat→Option (Option Rw):=fun n=>L[n]?
def A5m (ts:List (Nat × T)):Option Tmp→T→List (Nat × T)
 | some d,v=>(d,v)::ts
 | none,_=>ts
def A4m (L:List (Option Rw)):List (Nat × Option Rw)→List (Option Rw)
 | []=>L
 | p::r=>(A4m L r).set p.1 p.2
theorem A6H (L:List (Option Rw)):∀ wn,(A4m L wn).length=L.length
 | []=>rfl
 | p::r=>by simp[A4m,A6H L r]
def St.eff (st:St) (dst:Option Tmp) (v:T) (wn:List (Nat × Option Rw)) (new:List Rw):St:=⟨A5m st.ts dst v,A4m st.L wn++new.map some⟩
theorem B1w (L:List (Option Rw)):∀ (wn:List (Nat × Option Rw)) (n:Nat),(∀ p∈wn,p.1<L.length)→(A4m L wn)[n]?=match wn.find? (fun p=>p.1==n)with | some p=>some p.2 | none=>L[n]?
 | [],n,_=>rfl
 | p::r,n,h=>by
  simp only[A4m,List.find?_cons]
  by_cases hn:p.1=n
  ·subst hn
   have:=h p (by simp)
   simp[A6H,this]
  ·have h2:(p.1==n)=false:=by simpa using hn
   rw[List.getElem?_set_ne hn,h2]
   exact B1w L r n fun q hq=>h q (by simp[hq])
theorem B0y (st:St) (dst:Option Tmp) (v:T) (wn:List (Nat × Option Rw)) (new:List Rw) (h:∀ p∈wn,p.1<st.L.length):ofL (st.eff dst v wn new).L=upd (ofL st.L) wn st.L.length new:=by
 funext n
 simp only[ofL,St.eff,upd]
 by_cases hn:n<st.L.length
 ·rw[List.getElem?_append_left (by rw[A6H];exact hn),B1w _ _ _ h]
  cases wn.find? (fun p=>p.1==n)with
  | some p=>rfl
  | none=>dsimp only;rw[if_neg (by omega)]
 ·rw[List.getElem?_append_right (by rw[A6H];omega),A6H]
  have:wn.find? (fun p=>p.1==n)=none:=by
   rw[List.find?_eq_none]
   intro p hp
   have:=h p hp
   simp
   omega
  rw[this]
  dsimp only
  by_cases h2:n<st.L.length+new.length
  ·rw[if_pos ⟨by omega,h2⟩,List.getElem?_map]
  ·rw[if_neg (by omega),List.getElem?_eq_none (by simp;omega),List.getElem?_eq_none (by omega)]
inductive Stp where
 | run (rl wl:List Nat)
 | skip
def I2 (ops:Array Oper) (ts:List (Nat × T)) (o:Oper):Option Bool:=match o.guard with
 | none=>some true
 | some (g,b)=>match (ops[g]?).bind (·.dst)with
  | some d=>match W8 ts d with
   | .d (.v (.bool c))=>some (c==b)
   | .d (.tup [])=>some false
   | _=>none
  | none=>none
def B3B (N:Nat):Option Tmp→Bool
 | some d=>Nat.blt d N
 | none=>true
inductive A7s (P:Program) (N:Nat) (ops:Array Oper) (o:Oper) (st:St):Stp→St→Prop where
 | run {ins:List (Operand × T)} {rn:List (Nat × Rw)} {wn:List (Nat × Option Rw)} {new:List Rw} {v:T} (hw:I2 ops st.ts o=some true) (hop:OpS P o ins rn wn st.L.length new v)
   (hi:∀ p∈ins,O9 st.ts p.1=p.2∧p.1∈o.op.operands) (hr:∀ p∈rn,st.L[p.1]?=some (some p.2)) (hwn:∀ p∈wn,∃ q∈rn,q.1=p.1) (hd:B3B N o.dst=true) :
   A7s P N ops o st (.run (rn.map (·.1)++List.range' st.L.length new.length) (wn.map (·.1)++List.range' st.L.length new.length)) (st.eff o.dst v wn new)
 | skip (hw:I2 ops st.ts o=some false) (hd:B3B N o.dst=true):A7s P N ops o st .skip (st.eff o.dst (.d (.tup [])) [] [])
inductive Ev (P:Program) (N:Nat) (ops:Array Oper):List Oper→St→List Stp→St→Prop where
 | nil (st:St):Ev P N ops [] st [] st
 | cons {o:Oper} {l:List Oper} {st st1 st2:St} {s:Stp} {tr:List Stp} (h:A7s P N ops o st s st1) (k:Ev P N ops l st1 tr st2):Ev P N ops (o::l) st (s::tr) st2
structure StR (g:G) (N:Nat) (st:St) (a:Act) (df:List Deferred):Prop where
 good:P6 g
 M:g.M=ofL st.L
 size:a.tmps.size=N
 ts:∀ i,VT g (W8 st.ts i) (a.tmps.getD i undef)
 df:a.defers=df
theorem A4G {g:G} {ts:List (Nat × T)} {a:Act} (h:∀ i,VT g (W8 ts i) (a.tmps.getD i undef)) (x:Operand):VT g (O9 ts x) (a.eval x):=by
 cases x with
 | tmp t=>exact h t
 | const v=>exact VT.ofV g v
 | func f=>exact .d (.v _ rfl)
 | global=>exact .bot _
theorem A0W {g:G} {ops:Array Oper} {ts:List (Nat × T)} {a:Act} {o:Oper} {b:Bool} (hw:I2 ops ts o=some b)
  (h:∀ d,(∃ k c,o.guard=some (k,c)∧(ops[k]?).bind (·.dst)=some d)→VT g (W8 ts d) (a.tmps.getD d undef)):Region.wanted o (yielded ops a.tmps)=b:=by
 unfold I2 at hw
 unfold Region.wanted
 cases hg:o.guard with
 | none=>rw[hg]at hw;simpa using hw
 | some p =>
  obtain⟨k,c⟩:=p
  rw[hg]at hw
  dsimp only at hw ⊢
  cases hd:(ops[k]?).bind (·.dst)with
  | none=>rw[hd]at hw;cases hw
  | some d =>
   rw[hd]at hw
   dsimp only at hw
   have hv:=h d ⟨k,c,hg,hd⟩
   generalize ht:W8 ts d=t at hw hv
   split at hw
   ·rename_i x
    have e:=hv.v_eq
    injection hw with hw
    have hy:yielded ops a.tmps k=some x:=by
     unfold yielded
     rw[hd,Option.bind_some]
     have hlt:d<a.tmps.size:=by
      rcases Nat.lt_or_ge d a.tmps.size with h | h
      ·exact h
      ·exfalso
       simp[Array.getD,Nat.not_lt.2 h,undef]at e
     simp[Array.getD,hlt]at e
     rw[Array.getElem?_eq_getElem hlt,e]
    rw[hy,← hw]
    cases x<;>cases c<;>rfl
   ·injection hw with hw
    subst hw
    cases hv with | d hv =>
    generalize hcv:a.tmps.getD d undef=cv at hv
    cases hv with | tup _ cs hl _ =>
    have hy:yielded ops a.tmps k=none:=by
     unfold yielded
     rw[hd,Option.bind_some]
     rcases Nat.lt_or_ge d a.tmps.size with h | h
     ·simp[Array.getD,h]at hcv
      rw[Array.getElem?_eq_getElem h,hcv]
     ·rw[Array.getElem?_eq_none h]
    rw[hy];rfl
   ·cases hw
theorem A2M {ts:List (Nat × T)} {dst:Option Tmp} {v:T} (i:Nat):W8 (A5m ts dst v) i=if dst=some i then v else W8 ts i:=by
 cases dst with
 | none=>simp[A5m]
 | some d =>
  simp only[A5m,W8,Option.some.injEq]
  by_cases h:d=i
  ·subst h;simp
  ·have:Nat.beq i d=false:=by
    cases hb:Nat.beq i d with
    | false=>rfl
    | true=>exact absurd (Nat.eq_of_beq_eq_true hb).symm h
   simp[this,h]
theorem A5b {a:Act} {dst:Option Tmp} {c:Value} {N:Nat} (hs:a.tmps.size=N) (hd:B3B N dst=true) (i:Nat):(a.put dst c).tmps.getD i undef=if dst=some i then c else a.tmps.getD i undef:=by
 cases dst with
 | none=>simp[Act.put]
 | some d =>
  have hlt:d<a.tmps.size:=by rw[hs];simpa[B3B,Nat.blt_eq]using hd
  simp only[Act.put,Option.some.injEq]
  by_cases h:d=i
  ·subst h;simp[Array.getD,hlt]
  ·simp only[h,if_false,Array.getD_eq_getD_getElem?,Array.getElem?_setIfInBounds_ne h]
theorem A5c (a:Act) (dst:Option Tmp) (c:Value):(a.put dst c).tmps.size=a.tmps.size:=by cases dst<;>simp[Act.put]
theorem A3h (a:Act) (dst:Option Tmp) (c:Value):(a.put dst c).defers=a.defers:=by cases dst<;>rfl
theorem B6x {g:G} (h:P6 g):P6 { g with w:=g.w.drew }∧Le g { g with w:=g.w.drew } :=
 have hle:Le g { g with w:=g.w.drew }:=⟨fun _ h=>⟨h,rfl⟩,Nat.le_refl _,rfl,rfl,rfl,fun _ _ _=>rfl,fun _ h=>h,fun _ _ h => .inl h,fun n r h h0 _ hn=>hn n r h h0 rfl⟩
 ⟨⟨fun n r hr=>(h.rows n r hr).keep h hle rfl fun _=>rfl,h.inj,h.kd,h.kl⟩,hle⟩
theorem A7s.sound {P:Program} {F:Fence} {nn N:Nat} {ops:Array Oper} {Q:Exit→Act→World→Prop} {o:Oper} {st st1:St} {s:Stp} (hF:Wd F) (h:A7s P N ops o st s st1) {g:G} {a:Act} {df:List Deferred} (hR:StR g N st a df)
  {i:Nat} (ho:ops[i]?=some o) {K:Act→World→Prop} (k:∀ g' a',Le g g'→StR g' N st1 a' df→K a' g'.w):wpOpIn F nn P ops Q i K a g.w:=by
 unfold wpOpIn
 simp only[ho]
 cases h with
 | run hw hop hi hr hwn hd =>
  rename_i ins rn wn new v
  rw[A0W hw fun d _=>hR.ts d]
  simp only[if_true]
  refine hop F nn hF g a hR.good (fun p hp=>(hi p hp).1▸A4G hR.ts p.1) (fun p hp=>by rw[hR.M];exact hr p hp) (fun k hk=>by rw[hR.M];exact List.getElem?_eq_none (by omega)) _ _ fun g' c h1 h2 h3 h4=>?_
  refine k g' _ h2 ⟨h1,?_,by rw[A5c];exact hR.size,fun j=>?_,by rw[A3h];exact hR.df⟩
  ·rw[h3,hR.M,B0y]
   intro p hp
   obtain⟨q,hq,he⟩:=hwn p hp
   have:=hr q hq
   rw[← he]
   exact(List.getElem?_eq_some_iff.1 this).1
  ·rw[A5b hR.size hd]
   simp only[St.eff,A2M]
   split
   ·exact h4
   ·exact(hR.ts j).mono hR.good h2
 | skip hw hd =>
  rw[A0W hw fun d _=>hR.ts d]
  simp only[Bool.false_eq_true,if_false]
  refine⟨fun f _=>hF.fn f,k g _ (.refl g) ⟨hR.good,?_,by rw[A5c];exact hR.size,fun j=>?_,by rw[A3h];exact hR.df⟩⟩
  ·rw[hR.M];simp[St.eff,A4m]
  ·rw[A5b hR.size hd]
   simp only[St.eff,A2M]
   split
   ·exact .d (.tup [] #[] rfl fun i d c h=>by simp at h)
   ·exact hR.ts j
theorem B4p {P:Program} {F:Fence} {nn N:Nat} {id:Nat} {ops:Array Oper} {Q:Exit→Act→World→Prop} {st st':St} {tr:List Stp} (hF:Wd F) (hev:Ev P N ops ops.toList st tr st') {g:G} {a:Act} {df:List Deferred} (hR:StR g N st a df)
  (hQ:∀ g' a',Le g g'→StR g' N st' a' df→Q .normal a' g'.w):(Code.region id ops false).wpIn F nn P Q a g.w:=by
 refine wpIn_region ?_
 have key:∀ (l:List Oper) (st:St) (tr:List Stp) (st2:St),Ev P N ops l st tr st2→(∀ g' a',Le g g'→StR g' N st2 a' df→Q .normal a' g'.w)→∀ (k:Nat) (g1:G) (a:Act),ops.toList.drop k=l→Le g g1→StR g1 N st a df→wpOpsIn F nn P ops Q (List.range' k l.length) a g1.w:=by
  clear hQ hR hev
  intro l st tr st2 h
  induction h with
  | nil st=>intro hQ k g1 a _ hl hR;exact hQ g1 a hl hR
  | cons hs hev ih =>
   rename_i o l st1 st2' st3 s tr
   intro hQ k g1 a hk hl hR
   have hlt:k<ops.toList.length:=by
    rcases Nat.lt_or_ge k ops.toList.length with h | h
    ·exact h
    ·rw[List.drop_eq_nil_of_le h]at hk;cases hk
   rw[List.drop_eq_getElem_cons hlt]at hk
   injection hk with h1 h2
   rw[List.length_cons,List.range'_succ,wpOpsIn_cons]
   exact hs.sound hF hR (by rw[← h1];simp[Array.getElem?_eq_getElem (by simpa using hlt:k<ops.size)]) fun g' a' h3 h4=>ih hQ (k+1) g' a' h2 (hl.trans h3) h4
 have:=key ops.toList st tr st' hev hQ 0 g a (by simp) (.refl g) hR
 rwa [Array.length_toList,← List.range_eq_range']at this
end Go.Proofs.YtlaogbbcipebgaaGreat.Sh
