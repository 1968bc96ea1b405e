/- Ranges over functions, in one picture: the iterator's code within the range. Over whatever program. -/
import Derived.Test.YtlaogbbcipebgaaGreatSa6
namespace Go.Proofs.YtlaogbbcipebgaaGreat.Sh
set_option linter.unusedVariables false
set_option linter.unusedSimpArgs false
open Go
structure JX where
 l:Nat
 ps:Array Tmp
 asg:Code
 body:Code
 N:Nat
 ts:List (Nat × T)
 n1:Nat
structure JR where
 fn:FuncId
 tmps:Array Value
 D:Nat
def JX.lp (X:JX) (r:JR) (st:LoopState) (pe:Option Code):Loop:={ state:=st,pending:=pe,fn:=r.fn,tmps:=r.tmps,params:=X.ps,assign:=X.asg,body:=X.body,defers:=r.D }
def A5v:SX→LoopState
 | .norm => .ready
 | .pan _ => .busy
 | _ => .done
def A3p:SX→Option Code
 | .ret=>some .ret
 | .exit i=>some (.exit i)
 | _=>none
structure JOk (X:JX) (r:JR) (ph:SX) (g:G):Prop where
 lrec:g.w.heap[X.l]?=some (.loop (X.lp r (A5v ph) (A3p ph)))
 mark:g.w.heap[r.D]?=some (.deferred (some []))
 kl:¬ g.K X.l
 kD:¬ g.K r.D
 sz:r.tmps.size=X.N
 ts:∀ i,VT g (W8 X.ts i) (r.tmps.getD i undef)
 sc:∀ i,(W8 X.ts i).sc X.n1=true
theorem A6q {g g':G} {n0 b:Nat} (h:LeN n0 g g') (hb:b<g.w.heap.size) (hn:NL g b) (hk:¬ g.K b):g'.w.heap[b]?=g.w.heap[b]?∧¬ g'.K b :=
 ⟨h.fr b hb hn,fun hk'=>by rcases h.k' b hb hk' with h1 | h1;exact hk h1;exact h1 hn⟩
theorem VT.monoN {g g':G} (hg:P6 g) {n0:Nat} (h:LeN n0 g g') {t:T} {c:Value} (hv:VT g t c) (hs:t.sc n0=true):VT g' t c :=
 hv.turnN (fun b hb=>⟨h.k b hb,h.fr b (hg.kd b hb) (hg.kl b hb)⟩) h.e hs
theorem JOk.step {X:JX} {r:JR} {ph:SX} {g g':G} (h:JOk X r ph g) (hg:P6 g) (hl:LeN X.n1 g g'):JOk X r ph g':=by
 obtain⟨h1,h2⟩:=A6q hl (Array.getElem?_eq_some_iff.1 h.lrec).1 (A3l hg h.lrec) h.kl
 obtain⟨h3,h4⟩:=A6q hl (Array.getElem?_eq_some_iff.1 h.mark).1 (A5L hg h.mark) h.kD
 exact⟨h1.trans h.lrec,h3.trans h.mark,h2,h4,h.sz,fun i=>(h.ts i).monoN hg hl (h.sc i),h.sc⟩
def B3y (X:JX) (r:JR) (g:G) (N:Nat) (Q:SX→SX→St→Prop):Exit→Act→World→Prop:=fun ex a' w' =>
 ∃ g' ph sx st,g'.w=w'∧LeL X.l X.n1 g g'∧StR g' N st a' []∧JOk X r ph g'∧XR g' sx ex∧Q ph sx st
theorem B3y.trans {X:JX} {r:JR} {g g1:G} {N:Nat} {Q:SX→SX→St→Prop} (hl:LeL X.l X.n1 g g1) {ex:Exit} {a:Act} {w:World} (h:B3y X r g1 N Q ex a w):B3y X r g N Q ex a w:=by
 obtain⟨g',ph,sx,st,h1,h2,h3⟩:=h
 exact⟨g',ph,sx,st,h1,hl.trans h2,h3⟩
def SWJ (P:Program) (X:JX) (N:Nat) (c:Code) (Q:SX→SX→St→Prop) (ph:SX) (st:St):Prop :=
 ∀ (F:Fence) (nn:Nat),Wd F→∀ (r:JR) (g:G) (a:Act),JOk X r ph g→StR g N st a []→c.wpIn F nn P (B3y X r g N Q) a g.w
section
variable {P:Program} {X:JX} {N:Nat} {Q:SX→SX→St→Prop} {ph:SX} {st:St}
theorem A9R {c:Code} (h:SW P X.n1 N [] c (Q ph) st):SWJ P X N c Q ph st:=fun F nn hF r g a hj hR =>
 wpIn_mono (h F nn hF g a hR) fun ex a' w' ⟨g',sx,st',h1,h2,h3,h4,h5⟩=>⟨g',ph,sx,st',h1,h2.toL _,h3,hj.step hR.good h2,h4,h5⟩
def B2w (K:SX→St→Prop) (Q:SX→SX→St→Prop):SX→SX→St→Prop:=fun ph=>A5w (K ph) (Q ph)
def A94 (id:Nat) (Q:SX→SX→St→Prop):SX→SX→St→Prop:=fun ph=>A34 id (Q ph)
theorem I8 {K:SX→St→Prop} (h:K ph st):B2w K Q ph .norm st:=h
theorem A4F {K:SX→St→Prop} (h:Q ph .ret st):B2w K Q ph .ret st:=h
theorem A4E {K:SX→St→Prop} {i:Nat} (h:Q ph (.exit i) st):B2w K Q ph (.exit i) st:=h
theorem A5B {K:SX→St→Prop} {t:T} (h:Q ph (.pan t) st):B2w K Q ph (.pan t) st:=h
theorem A6R {i:Nat} {t:T} (h:Q ph (.pan t) st):A94 i Q ph (.pan t) st:=h
theorem A3G {i:Nat} (h:Q ph .norm st):A94 i Q ph .norm st:=h
theorem A6S {i:Nat} (h:Q ph .ret st):A94 i Q ph .ret st:=h
theorem A76 {i:Nat} (h:Q ph .norm st):A94 i Q ph (.exit i) st:=I5 (Q:=Q ph) h
theorem A2O (h:Q ph .norm st):SWJ P X N .skip Q ph st:=A9R (D7 h)
theorem B13 {i:Nat} (h:Q ph (.exit i) st):SWJ P X N (.exit i) Q ph st:=A9R (N5 h)
theorem A9v (h:Q ph .ret st):SWJ P X N .ret Q ph st:=A9R (C9 h)
theorem U7 {x y:Code} (h:SWJ P X N x (B2w (SWJ P X N y Q) Q) ph st):SWJ P X N (.seq x y) Q ph st:=fun F nn hF r g a hj hR=>by
 refine wpIn_seq (wpIn_mono (h F nn hF r g a hj hR) ?_)
 rintro ex a' w' ⟨g',ph',sx,st',rfl,h2,k2,k1,k4,k5⟩
 cases sx with
 | norm =>
  cases ex<;>first | exact k4.elim | skip
  exact wpIn_mono (k5 F nn hF r g' a' k1 k2) fun _ _ _ hq=>hq.trans h2
 | ret=>cases ex<;>first | exact k4.elim | exact⟨g',ph',_,st',rfl,h2,k2,k1,k4,k5⟩
 | exit i=>cases ex<;>first | exact k4.elim | exact⟨g',ph',_,st',rfl,h2,k2,k1,k4,k5⟩
 | pan t=>cases ex<;>first | exact k4.elim | exact⟨g',ph',_,st',rfl,h2,k2,k1,k4,k5⟩
theorem A59 {id:Nat} {c:Code} (h:SWJ P X N c (A94 id Q) ph st):SWJ P X N (.block id c) Q ph st:=fun F nn hF r g a hj hR=>by
 refine wpIn_block (wpIn_mono (h F nn hF r g a hj hR) ?_)
 rintro ex a' w' ⟨g',ph',sx,st',rfl,h2,k2,k1,k4,k5⟩
 cases sx with
 | norm=>cases ex<;>first | exact k4.elim | exact⟨g',ph',.norm,st',rfl,h2,k2,k1,trivial,k5⟩
 | ret=>cases ex<;>first | exact k4.elim | exact⟨g',ph',.ret,st',rfl,h2,k2,k1,trivial,k5⟩
 | exit i =>
  cases ex<;>first | exact k4.elim | skip
  rename_i j
  have h4':i=j:=k4
  subst h4'
  simp only[A94,A34]at k5
  by_cases hi:i=id
  ·rw[if_pos hi]at k5
   simp only[Exit.inBlock,hi,if_true]
   exact⟨g',ph',.norm,st',rfl,h2,k2,k1,trivial,k5⟩
  ·rw[if_neg hi]at k5
   simp only[Exit.inBlock,hi,if_false]
   exact⟨g',ph',.exit i,st',rfl,h2,k2,k1,rfl,k5⟩
 | pan t=>cases ex<;>first | exact k4.elim | exact⟨g',ph',.pan t,st',rfl,h2,k2,k1,k4,k5⟩
theorem B47 {c:Operand} {x y:Code} {b:Bool} (hc:O9 st.ts c = .d (.v (.bool b))) (ht:b=true→SWJ P X N x Q ph st) (hf:b=false→SWJ P X N y Q ph st):SWJ P X N (.cond c x y) Q ph st:=fun F nn hF r g a hj hR=>by
 have h1:=A4G hR.ts c
 rw[hc]at h1
 exact wpIn_cond_split h1.v_eq (fun h=>ht h F nn hF r g a hj hR) (fun h=>hf h F nn hF r g a hj hR)
theorem A3R {c:Operand} {x y:Code} (hc:O9 st.ts c = .d (.v (.bool true))) (h:SWJ P X N x Q ph st):SWJ P X N (.cond c x y) Q ph st:=B47 hc (fun _=>h) (fun h=>by cases h)
theorem A1K {c:Operand} {x y:Code} (hc:O9 st.ts c = .d (.v (.bool false))) (h:SWJ P X N y Q ph st):SWJ P X N (.cond c x y) Q ph st:=B47 hc (fun h=>by cases h) (fun _=>h)
def RgJ (P:Program) (X:JX) (N:Nat) (ops:Array Oper) (Q:SX→SX→St→Prop) (l:List Oper) (ph:SX) (st:St):Prop :=
 ∀ (F:Fence) (nn:Nat),Wd F→∀ (r:JR) (g:G) (a:Act) (R:Exit→Act→World→Prop),JOk X r ph g→StR g N st a []→(∀ ex a' w',B3y X r g N Q ex a' w'→R ex a' w')→wpListIn F nn P ops R l a g.w
theorem A1h {id:Nat} {l:List Oper} (h:RgJ P X N l.toArray Q l ph st):SWJ P X N (.region id l.toArray false) Q ph st:=fun F nn hF r g a hj hR =>
 wpIn_region_lit (h F nn hF r g a _ hj hR fun _ _ _ h=>h)
theorem B9k {ops:Array Oper} (h:Q ph .norm st):RgJ P X N ops Q [] ph st:=fun _ _ _ _ g _ _ hj hR k =>
 k _ _ _ ⟨g,ph,.norm,st,rfl,.refl _ _ g,hR,hj,trivial,h⟩
def B9F (P:Program) (X:JX) (N:Nat) (ops:Array Oper) (Q:SX→SX→St→Prop) (ph:SX):List Oper→List Stp→St→Prop:=fun l2 _ st'=>RgJ P X N ops Q l2 ph st'
theorem T7 {ops:Array Oper} {tr:List Stp} (h:Q ph .norm st):L3 P N ops [] st tr (B9F P X N ops Q ph):=A32 (B9k h)
theorem A99 {ops:Array Oper} {tr:List Stp} {l:List Oper} (h:RgJ P X N ops Q l ph st):L3 P N ops l st tr (B9F P X N ops Q ph):=A32 h
theorem A0u {ops:Array Oper} {l:List Oper} (h:L3 P N ops l st [] (B9F P X N ops Q ph)):RgJ P X N ops Q l ph st:=by
 obtain⟨l1,l2,tr,st',rfl,h1,h2⟩:=h
 intro F nn hF r g a R hj hR k
 have key:∀ (l:List Oper) (st:St) (tr:List Stp) (st2:St),Ev P N ops l st tr st2→RgJ P X N ops Q l2 ph st2→∀ (g1:G) (a:Act),Le g g1→StR g1 N st a []→wpListIn F nn P ops R (l++l2) a g1.w:=by
  intro l st tr st2 h
  induction h with
  | nil st =>
   intro h2 g1 a hl hR1
   exact h2 F nn hF r g1 a R (hj.step hR.good (hl.toN _)) hR1 fun _ _ _ hq=>k _ _ _ (hq.trans ((hl.toN _).toL _))
  | cons hs _ ih =>
   intro h2 g1 a hl hR1
   exact hs.soundL hF hR1 fun g' a' h3 h4=>ih h2 g' a' (hl.trans h3) h4
 exact key l1 st tr st' h1 h2 g a (.refl g) hR
def B1H:List Tmp→List D→List (Nat × T)→List (Nat × T)
 | p::ps,y::ys,ts=>B1H ps ys ((p,.d y)::ts)
 | _,_,ts=>ts
theorem B5p {g:G} {N:Nat}:∀ (ps:List Tmp) (ys:List D) (vs:List Value) (ts:List (Nat × T)) (tm:Array Value),tm.size=N→(∀ p∈ps,Nat.blt p N=true)→ps.length=ys.length→VTs g (ys.map .d) vs→(∀ i,VT g (W8 ts i) (tm.getD i undef)) →
  ((ps.zip vs).foldl (fun t (p,v)=>t.setIfInBounds p v) tm).size=N∧∀ i,VT g (W8 (B1H ps ys ts) i) (((ps.zip vs).foldl (fun t (p,v)=>t.setIfInBounds p v) tm).getD i undef)
 | [],ys,vs,ts,tm,hs,_,_,_,h=>⟨hs,h⟩
 | p::ps,y::ys,[],ts,tm,_,_,_,hv,_=>by have:=hv.1;simp at this
 | p::ps,[],vs,ts,tm,_,_,hl,_,_=>by simp at hl
 | p::ps,y::ys,v::vs,ts,tm,hs,hp,hl,hv,h=>by
  refine B5p ps ys vs ((p,.d y)::ts) (tm.setIfInBounds p v) (by simpa using hs) (fun q hq=>hp q (by simp[hq])) (by simpa using hl) ⟨by have:=hv.1;simp at this ⊢;exact this,fun i t c h1 h2=>hv.2 (i+1) t c (by simpa using h1) (by simpa using h2)⟩ fun i=>?_
  have e:=A2M (ts:=ts) (dst:=some p) (v := .d y) i
  simp only[A5m]at e
  rw[e]
  have hlt:p<tm.size:=by rw[hs];simpa[Nat.blt_eq]using hp p (by simp)
  by_cases hpi:p=i
  ·subst hpi
   rw[if_pos rfl]
   simpa[Array.getD,hlt]using hv.2 0 (.d y) v rfl rfl
  ·rw[if_neg (by simpa using hpi)]
   simp only[Array.getD_eq_getD_getElem?,Array.getElem?_setIfInBounds_ne hpi]
   simpa[Array.getD_eq_getD_getElem?]using h i
def B99 (K:St→Prop):SX→St→Prop:=fun sx st=>sx = .norm∧K st
def rdJ (n1:Nat) (K:SX→List (Option Rw)→Prop):SX→St→Prop
 | .pan _,_=>False
 | sx,st=>∃ L κ,Vw n1 st ⟨[],L⟩ κ∧K sx L
def rdP (n1:Nat) (K:SX→List (Option Rw)→Prop):SX→St→Prop
 | .pan t,st=>∃ L κ,Vw n1 st ⟨[],L⟩ κ∧t.sc 0=true∧K (.pan t) L
 | sx,st=>∃ L κ,Vw n1 st ⟨[],L⟩ κ∧K sx L
def isN:SX→Bool
 | .norm=>true
 | _=>false
end
end Go.Proofs.YtlaogbbcipebgaaGreat.Sh
