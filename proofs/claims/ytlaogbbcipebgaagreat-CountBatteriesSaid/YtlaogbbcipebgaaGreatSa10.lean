/- Panics. Over whatever program. -/
import Derived.Test.YtlaogbbcipebgaaGreatSa9
namespace Go.Proofs.YtlaogbbcipebgaaGreat.Sh
set_option linter.unusedVariables false
set_option linter.unusedSimpArgs false
open Go
def SCP (P:Program) (f:FuncId) (as:List T) (L:List (Option Rw)) (t:T):Prop:=SC P f as L fun se _=>se = .pan t
theorem B1V {n:Nat}:∀ (ρ:List Nat),(ρ.map fun m=>(m,(none:Option Rw))).find? (fun p=>p.1==n)=if n∈ρ then some (n,none)else none
 | []=>by simp
 | m::ρ=>by
  simp only[List.map_cons,List.find?_cons,List.mem_cons]
  by_cases h:m=n
  ·subst h;simp
  ·have h2:(m==n)=false:=by simpa using h
   rw[h2]
   dsimp only
   rw[B1V ρ]
   have:(n=m)=False:=by simp;exact fun e=>h e.symm
   simp[this]
section
variable {P:Program} {n0 N:Nat} {df:List Deferred} {ops:Array Oper} {l:List Oper} {ts:List (Nat × T)} {L:List (Option Rw)} {tr:List Stp} {d:Nat} {ty:TypeId} {pos:String} {af:Array Edge} {gd:Option (Nat × Bool)} {Q:SX→St→Prop}
def OpP (P:Program) (n0 N:Nat) (df:List Deferred) (ops:Array Oper) (Q:SX→St→Prop) (o:Oper) (st:St):Prop :=
 I2 ops st.ts o=some true∧∀ (F:Fence) (nn:Nat),Wd F→∀ (g:G) (a:Act),StR g N st a df→∀ (K:Act→World→Prop) (R:Exit→Act→World→Prop),
  (∀ g' v t st',LeN n0 g g'→StR g' N st' a df→VT g' t v→Q (.pan t) st'→R (.panic [{ v,recovered:=false }]) a g'.w)→o.wpIn F nn P a g.w K R
def B7x (P:Program) (n0 N:Nat) (df:List Deferred) (ops:Array Oper) (Q:SX→St→Prop):List Oper→List Stp→St→Prop:=fun l _ st=>(l=[]∧Q .norm st)∨∃ o r,l=o::r∧OpP P n0 N df ops Q o st
def B7y (P:Program) (n0 N:Nat) (df:List Deferred) (ops:Array Oper) (Q:SX→St→Prop):List Oper→List Stp→St→Prop:=fun l tr st=>(l=[]∧B0s ops tr=true∧Q .norm st)∨∃ o,l=[o]∧B0s ops tr=true∧A9a ops (ops.size-1)=true∧OpP P n0 N df ops Q o st
theorem R2 {st:St} (h:Q .norm st):L3 P N ops [] st tr (B7x P n0 N df ops Q):=A32 (.inl ⟨rfl,h⟩)
theorem N0 {st:St} (ho:B0s ops tr=true) (h:Q .norm st):L3 P N ops [] st tr (B7y P n0 N df ops Q):=A32 (.inl ⟨rfl,ho,h⟩)
theorem T2 {o:Oper} {st:St} (h:OpP P n0 N df ops Q o st):L3 P N ops (o::l) st tr (B7x P n0 N df ops Q):=A32 (.inr ⟨o,l,rfl,h⟩)
theorem P0 {o:Oper} {st:St} (ho:B0s ops tr=true) (hl:A9a ops (ops.size-1)=true) (h:OpP P n0 N df ops Q o st):L3 P N ops [o] st tr (B7y P n0 N df ops Q):=A32 (.inr ⟨o,rfl,ho,hl,h⟩)
theorem X0 {st:St} {id:Nat} {l:List Oper} (h:L3 P N l.toArray l st [] (B7x P n0 N df l.toArray Q)):SW P n0 N df (.region id l.toArray false) Q st:=fun F nn hF g a hR=>by
 refine wpIn_region_lit ?_
 obtain⟨l1,l2,tr,st',e,h1,h2⟩:=h
 generalize hops:l.toArray=ops at h1 h2
 rw[e]
 have key:∀ (l:List Oper) (st:St) (tr:List Stp) (st2:St),Ev P N ops l st tr st2→B7x P n0 N df ops Q l2 ([]++tr) st2→∀ (g1:G) (a:Act),Le g g1→StR g1 N st a df→wpListIn F nn P ops (fun ex a' w'=>∃ g' sx st',g'.w=w'∧LeN n0 g g'∧StR g' N st' a' df∧XR g' sx ex∧Q sx st') (l++l2) a g1.w:=by
  intro l st tr st2 h
  induction h with
  | nil st =>
   rintro(⟨rfl,q2⟩ | ⟨o,r,rfl,hw,q2⟩) g1 a hl hR1
   ·exact⟨g1,.norm,st,rfl,hl.toN n0,hR1,trivial,q2⟩
   ·rw[List.nil_append]
    unfold wpListIn
    rw[A0W hw fun d _=>hR1.ts d]
    simp only[if_true]
    exact q2 F nn hF g1 a hR1 _ _ fun g' v t st' e1 e2 e3 e4=>⟨g',.pan t,st',rfl,(hl.toN n0).trans e1,e2,⟨v,rfl,e3⟩,e4⟩
  | cons hs _ ih =>
   intro h2 g1 a hl hR1
   exact hs.soundL hF hR1 fun g' a' h3 h4=>ih h2 g' a' (hl.trans h3) h4
 exact key l1 st tr st' h1 h2 g a (.refl g) hR
theorem A0V {st:St} {id:Nat} {l:List Oper} (hm:P.follows .mixedOrders=true) (h:L3 P N l.toArray l st [] (B7y P n0 N df l.toArray Q)):SW P n0 N df (.region id l.toArray true) Q st:=fun F nn hF g a hR=>by
 obtain⟨l1,l2,tr,st',e,h1,(⟨rfl,h2,h3⟩ | ⟨o,rfl,h2,h3,hw,h4⟩)⟩:=h
 ·rw[List.append_nil]at e
  subst e
  exact B0g hm hF h1 h2 hR fun g' a' hl hR'=>⟨g',.norm,st',rfl,hl.toN n0,hR',trivial,h3⟩
 ·have hsz:l.toArray.size-1=l1.length:=by rw[e];simp
  rw[hsz]at h3
  refine B3g (l1:=l1) (o:=o) hm hF (by rw[← e]) h1 h2 h3 hR fun g' a' K hl hR'=>?_
  unfold wpOpIn
  have ho:l.toArray[l1.length]?=some o:=by rw[e];simp
  simp only[ho]
  rw[A0W hw fun d _=>hR'.ts d]
  simp only[if_true]
  exact h4 F nn hF g' a' hR' _ _ fun g'' v t st'' e1 e2 e3 e4=>⟨g'',.pan t,st'',rfl,(hl.toN n0).trans e1,e2,⟨v,rfl,e3⟩,e4⟩
theorem B9I {g:G} (hg:P6 g) (S:Nat→Prop) [DecidablePred S] {g3:G} (hM:∀ n,g3.M n=if S n then(g.M n).map (fun _=>none)else g.M n) (hβ:g3.β=g.β) (hK:g3.K=g.K) (hw:g3.w=g.w) :
  P6 g3∧Le g g3∧∀ t c,VT g t c→VT g3 t c:=by
 have live:∀ n r,g3.M n=some (some r)→g.M n=some (some r):=fun n r h=>by
  rw[hM]at h
  split at h
  ·cases hm:g.M n<;>rw[hm]at h<;>simp at h
  ·exact h
 have hne:∀ n,g.M n≠none→g3.M n≠none∧g3.β n=g.β n:=fun n hn=>by
  rw[hM,hβ]
  refine⟨?_,rfl⟩
  split
  ·simpa using hn
  ·exact hn
 have hk:∀ b,g.K b→g3.K b∧g3.w.heap[b]?=g.w.heap[b]?:=fun b hb=>by rw[hK,hw];exact⟨hb,rfl⟩
 refine⟨⟨fun n r hn=>A4q.turn hk hne (hg.rows n r (live n r hn)) (by rw[hβ]) (fun _=>by rw[hw]),fun n m r q h1 h2 hn0 hm0 he=>?_,fun b hb=>?_,fun b hb n r hn h0=>?_⟩,⟨fun n hn=>hne n hn,by rw[hw];exact Nat.le_refl _,by rw[hw],by rw[hw],by rw[hw],fun b _ _=>by rw[hw],fun b hb=>(hk b hb).1,fun b _ hb => .inl (by rwa [hK]at hb),fun n r hn h0 _ hh=>?_⟩,fun t c h=>h.turn hk hne⟩
 ·rw[hβ]at he hn0 hm0;exact hg.inj n m r q (live n r h1) (live m q h2) hn0 hm0 he
 ·rw[hw];rw[hK]at hb;exact hg.kd b hb
 ·rw[hβ]at h0 ⊢;rw[hK]at hb;exact hg.kl b hb n r (live n r hn) h0
 ·rw[hβ]at hh h0;exact hh n r (live n r hn) h0 rfl
theorem H8 {x:Operand} {xs:Array Operand} {tys:Array TypeId} {dst:Option Nat} {f:FuncId} {cT t:T} {as us fi ca:List T} {Lf:List (Option Rw)} {rs:List Rw} (ρ:List Nat) (hc:SCP P f as Lf t) (ht:t.sc 0=true) (he:Ent P f)
  (hf:O9 ts x=cT) (hcal:B6r cT f fi ca) (hx:xs.toList.map (O9 ts)=us) (hargs:fi++us++ca=A5n (kap ρ) as) (has:scL ρ.length as=true) (hnd:ndK ρ=true) (hrow:RwO L ρ Lf ρ rs)
  (hw:I2 ops ts ⟨dst,.call { callee := .value x,args:=xs,argTypes:=tys },ty,pos,af,gd⟩=some true)
  (hQ:∀ cnt,Q (.pan t) ⟨ts,A4m L (ρ.map fun n=>(n,none))++List.replicate cnt none⟩):OpP P n0 N df ops Q ⟨dst,.call { callee := .value x,args:=xs,argTypes:=tys },ty,pos,af,gd⟩ ⟨ts,L⟩:=by
 refine⟨hw,fun F nn hF g a hR K R k=>?_⟩
 obtain⟨hLe,hrs,hrsc,hrowA,hlt⟩:=hrow.all
 subst hLe
 have call_ins:∀ p∈(x,cT)::xs.toList.zip us,O9 ts p.1=p.2:=by
  intro p hp
  rcases List.mem_cons.1 hp with rfl | hp
  ·exact hf
  ·exact(A2Z hx p hp).1
 refine B5A (P:=P) (fresh:=L.length) (ρ:=ρ) (rs:=rs) (fi:=fi) (ca:=ca) (as:=as) (ts:=us) rfl he hcal (by rw[← hx];simp) hc hargs has (B0V hnd) hrs hrsc hlt hF hR.good
  (fun p hp=>call_ins p hp▸A4G hR.ts p.1) (fun p hp=>by rw[hR.M];exact hrowA p hp) fun hfr' hrows gc' se L' e h1 h2 h3 h4 h5=>?_
 subst h5
 obtain⟨v,rfl,hv⟩:∃ v,e = .panicked [{ v,recovered:=false }]∧VT gc' t v:=by cases e<;>first | exact h4.elim | (obtain⟨v,rfl,hv⟩:=h4;exact⟨v,rfl,hv⟩)
 refine⟨fun v' e=>(by cases e),fun ch e=>?_⟩
 injection e with e
 subst e
 have hL':ρ.length≤L'.length:=by
  rcases Nat.lt_or_ge L'.length ρ.length with hh | hh
  ·have:=(h2.e L'.length (by show ofL (rs.map some) L'.length≠none;simp[ofL];omega)).1
   rw[h3]at this
   simp[ofL]at this
  ·exact hh
 obtain⟨k1,k2,k3⟩:=A7U (fresh:=L.length) (cnt:=L'.length-ρ.length) (Lf:=rs.map some) (Lf':=L') (B0V hnd) hR.good (by simpa using hrs.symm) (by omega) hfr' rfl hrows (fun k _=>by rw[hR.M];exact List.getElem?_eq_none (Nat.le_add_right L.length k)) h1 h2 h3
 obtain⟨g3,hg3⟩:∃ g3:G,g3=⟨fun n=>if n∈ρ∨L.length≤n then((g.back gc' ρ L.length (L'.length-ρ.length)).M n).map (fun _=>none)else(g.back gc' ρ L.length (L'.length-ρ.length)).M n,(g.back gc' ρ L.length (L'.length-ρ.length)).β,(g.back gc' ρ L.length (L'.length-ρ.length)).K,(g.back gc' ρ L.length (L'.length-ρ.length)).w⟩:=⟨_,rfl⟩
 obtain⟨f1,f2,f3⟩:=B9I k1 (fun n=>n∈ρ∨L.length≤n) (g3:=g3) (fun n=>by rw[hg3]) (by rw[hg3]) (by rw[hg3]) (by rw[hg3])
 have hv':=f3 _ _ (k3 _ _ hv)
 rw[A8G _ _ ht]at hv'
 have hw3:g3.w=gc'.w:=by rw[hg3];rfl
 rw[← hw3]
 refine k g3 v t ⟨ts,A4m L (ρ.map fun n=>(n,none))++List.replicate (L'.length-ρ.length) none⟩ ((k2.trans f2).toN n0) ⟨f1,?_,hR.size,fun i=>f3 _ _ ((hR.ts i).mono hR.good k2),hR.df⟩ hv' (hQ _)
 funext n
 have hsl:=B1w L (ρ.map fun n=>(n,none)) n (fun p hp=>by simp only[List.mem_map]at hp;obtain⟨m,hm,rfl⟩:=hp;exact hlt m hm)
 rw[B1V]at hsl
 rw[hg3]
 show(if n∈ρ∨L.length≤n then((g.back gc' ρ L.length (L'.length-ρ.length)).M n).map (fun _=>none)else(g.back gc' ρ L.length (L'.length-ρ.length)).M n)=_
 have hsz:(A4m L (ρ.map fun n=>(n,none))).length=L.length:=A6H _ _
 simp only[ofL]
 by_cases hn:n<L.length
 ·rw[List.getElem?_append_left (by rw[hsz];exact hn),hsl]
  by_cases hm:n∈ρ
  ·rw[if_pos (.inl hm),if_pos hm]
   have hne:=(k2.e n (by rw[hR.M];simp[ofL,hn])).1
   cases hx':(g.back gc' ρ L.length (L'.length-ρ.length)).M n with
   | none=>exact absurd hx' hne
   | some o=>rfl
  ·rw[if_neg (by rintro(h | h);exact hm h;omega),if_neg hm]
   simp only[G.back]
   have:ρ.idxOf? n=none:=by
    cases hi:ρ.idxOf? n with
    | none=>rfl
    | some k =>
     obtain⟨q1,q2⟩:=A64 hi
     rw[List.getD_eq_getElem?_getD,List.getElem?_eq_getElem q1,Option.getD_some]at q2
     exact absurd (q2▸List.getElem_mem q1) hm
   rw[this]
   dsimp only
   rw[if_neg (by omega),hR.M];rfl
 ·rw[List.getElem?_append_right (by rw[hsz];omega),hsz,if_pos (.inr (by omega))]
  simp only[G.back]
  have:ρ.idxOf? n=none:=by
   cases hi:ρ.idxOf? n with
   | none=>rfl
   | some k =>
    obtain⟨q1,q2⟩:=A64 hi
    have:=hfr' k q1
    omega
  rw[this]
  dsimp only
  by_cases hc':n<L.length+(L'.length-ρ.length)
  ·rw[if_pos ⟨by omega,hc'⟩,List.getElem?_replicate,if_pos (by omega),h3]
   have:ρ.length+(n-L.length)<L'.length:=by omega
   simp[ofL,this]
  ·rw[if_neg (by omega),List.getElem?_replicate,if_neg (by omega),hR.M]
   simp[ofL,List.getElem?_eq_none (show L.length≤n by omega)]
theorem B2d {x:Operand} {t:TypeId} {c:Value} {st:St} (hx:O9 st.ts x = .d (.v (.iface t c))) (hw:I2 ops st.ts ⟨none,.panic x,ty,pos,af,gd⟩=some true) (hQ:Q (.pan (.d (.v (.iface t c)))) st):OpP P n0 N df ops Q ⟨none,.panic x,ty,pos,af,gd⟩ st :=
 ⟨hw,fun F nn hF g a hR K R k=>by
  have h1:=A4G hR.ts x
  rw[hx]at h1
  have hv:=h1.v_eq
  refine⟨fun f _=>hF.fn f,?_⟩
  rw[Oper.semAt_eq _ _ _ (fun c h=>by cases h)]
  have hrun:(execOp a.eval ⟨none,.panic x,ty,pos,af,gd⟩).run P g.w = .halt (.panic (.iface t c)) g.w:=by
   simp only[execOp];rw[hv];rfl
  rw[hrun]
  exact k g _ _ st (.refl n0 g) hR (hv▸h1) hQ⟩
end
def exE {α β:Type}:Except Int α→(Int→β)→(α→β)→β
 | .error e,f,_=>f e
 | .ok a,_,g=>g a
theorem exN {α β:Type} {x:Except Int α} {e:Int} {f:Int→β} {g:α→β} (h:x = .error e):exE x f g=f e:=by subst h;rfl
theorem exO {α β:Type} {x:Except Int α} {a:α} {f:Int→β} {g:α→β} (h:x = .ok a):exE x f g=g a:=by subst h;rfl
theorem M7 {α:Type} (x:Except Int α):(∃ e,x = .error e)∨∃ a,x = .ok a:=by cases x<;>simp
def SCX {α:Type} (P:Program) (f:FuncId) (as:List T) (L:List (Option Rw)) (x:Except Int α) (ty:TypeId) (t:α→T) (L1:α→List (Option Rw)):Prop :=
 SC P f as L fun se X=>(∃ a,x = .ok a∧se = .ret (t a)∧X=L1 a)∨∃ e,x = .error e∧se = .pan (.d (.v (.iface ty (.int .i64 e))))
theorem SCX.ok {α:Type} {P:Program} {f:FuncId} {as:List T} {L:List (Option Rw)} {x:Except Int α} {ty:TypeId} {t:α→T} {L1:α→List (Option Rw)} (h:SCX P f as L x ty t L1) {a:α} (hn:x = .ok a):SCR P f as L (t a) (L1 a):=SC.mono h fun se X hX=>by
 rcases hX with⟨b,h1,h2,h3⟩ | ⟨e,h1,_⟩
 ·rw[hn]at h1;injection h1 with h1;subst h1;exact⟨h2,h3⟩
 ·rw[hn]at h1;cases h1
theorem SCX.err {α:Type} {P:Program} {f:FuncId} {as:List T} {L:List (Option Rw)} {x:Except Int α} {ty:TypeId} {t:α→T} {L1:α→List (Option Rw)} (h:SCX P f as L x ty t L1) {e:Int} (hn:x = .error e):SCP P f as L (.d (.v (.iface ty (.int .i64 e)))):=SC.mono h fun se X hX=>by
 rcases hX with⟨b,h1,_⟩ | ⟨b,h1,h2⟩
 ·rw[hn]at h1;cases h1
 ·rw[hn]at h1;injection h1 with h1;subst h1;exact h2
theorem M3 {P:Program} {fn:Func} {n0:Nat} {st:St} {R:SE→List (Option Rw)→Prop} {x:D} {L:List (Option Rw)} {κ:List Nat} (hv:Vw n0 st ⟨[],L⟩ κ) (hR:R (.pan (.d x)) L):Fin P fn n0 R (.pan (.d x)) st:=⟨κ,⟨[],L⟩,hv,rfl,.d x,rfl,rfl,hR⟩
end Go.Proofs.YtlaogbbcipebgaaGreat.Sh
