/- Maps in plain pictures. Over whatever program. -/
import Derived.Test.YtlaogbbcipebgaaGreatSa2
import Derived.MapKept
import Derived.LoopNIn
namespace Go.Proofs.YtlaogbbcipebgaaGreat.Sh
set_option linter.unusedVariables false
set_option linter.unusedSimpArgs false
open Go
def A2e {α β:Type} [BEq α] (m:List (α × β)) (k:α):Option β:=(m.find? fun p=>k==p.1).map (·.2)
def M0 {α β:Type} [BEq α]:List (α × β)→α→β→List (α × β)
 | [],k,v=>[(k,v)]
 | p::m,k,v=>bif k==p.1 then(k,v)::m else p::M0 m k v
structure A9W (P:Program) (kt:TypeId) {α:Type} [BEq α] (kv:α→Value):Prop where
 desc:∃ desc,P.underlying kt=some desc∧∀ a b,Instr.sameNow desc (kv a) (kv b)=some (a==b)
 check:∀ (e:Bool) (a:α) (w:World),(Instr.checkKey e 10000 kt (kv a)).run P w = .ok () w
 bits:∀ a b,(a==b)=true→Instr.sameBits 10000 (kv b) (kv a)=true
theorem B3k (a:Int) (n:Nat):Instr.sameBits n (.int .i64 a) (.int .i64 a)=true:=by cases n<;>simp[Instr.sameBits]
theorem A9W.int {P:Program} {kt:TypeId} (h:P.underlying kt=some (.int .i64)):A9W P kt (fun a:Int => .int .i64 a) where
 desc:=⟨_,h,fun a b=>by simp[Instr.sameNow]⟩
 check e a w:=MapKept.run_checkKey (k := .int .i64 a) h (show MapKept.IsKey (.int .i64) (.int .i64 a)from rfl) e 9999
 bits a b hab:=by
  simp only[beq_iff_eq]at hab
  subst hab
  exact B3k _ _
theorem B3j {P:Program} (t:TypeId) (w:World):(Instr.makeMap t none).run P w = .ok (.map (some w.heap.size)) (w.alloc (.map #[] 0)):=rfl
section
variable {α β:Type} [BEq α] {P:Program} {kt:TypeId} {kv:α→Value}
def A7u:List (α × β)→α→Nat→Option Nat
 | [],_,_=>none
 | p::m,k,i=>bif k==p.1 then some i else A7u m k (i+1)
theorem A9A {desc:TypeDesc} (hs:∀ a b,Instr.sameNow desc (kv a) (kv b)=some (a==b)) (k:α):∀ (l:List MapEntry) (m:List (α × β)) (i:Nat),l.map (·.key)=m.map (fun p=>kv p.1) →
  (A2e m k=none∧A7u m k i=none∧Instr.findNow desc (kv k) l i=some none) ∨
  ∃ j e p,l[j]?=some e∧m[j]?=some p∧(k==p.1)=true∧A2e m k=some p.2∧A7u m k i=some (i+j)∧Instr.findNow desc (kv k) l i=some (some (i+j,e.val))
 | [],m,i,h=>by
  have:m=[]:=by cases m<;>simp at h;rfl
  subst this
  exact .inl ⟨rfl,rfl,rfl⟩
 | e::l,[],i,h=>by simp at h
 | e::l,p::m,i,h=>by
  simp only[List.map_cons,List.cons.injEq]at h
  have h1:=hs k p.1
  rw[← h.1]at h1
  cases hb:k==p.1 with
  | true =>
   rw[hb]at h1
   refine .inr ⟨0,e,p,rfl,rfl,hb,by simp[A2e,hb],by simp[A7u,hb],by simp[Instr.findNow,h1]⟩
  | false =>
   rw[hb]at h1
   rcases A9A hs k l m (i+1) h.2 with⟨h2,h3,h4⟩ | ⟨j,e',p',h2,h3,h4,h5,h6,h7⟩
   ·refine .inl ⟨?_,by simp[A7u,hb,h3],by simp[Instr.findNow,h1,h4]⟩
    unfold A2e at h2 ⊢
    rw[List.find?_cons,hb];exact h2
   ·refine .inr ⟨j+1,e',p',by simpa using h2,by simpa using h3,h4,?_,by simp[A7u,hb,h6];omega,?_⟩
    ·unfold A2e at h5 ⊢
     rw[List.find?_cons,hb];exact h5
    ·simp[Instr.findNow,h1,h7];omega
theorem B2b {m:List (α × β)} {k:α} {v:β} (h:A2e m k=none):M0 m k v=m++[(k,v)]:=by
 induction m with
 | nil=>rfl
 | cons p m ih =>
  unfold A2e at h ih
  rw[List.find?_cons]at h
  cases hb:k==p.1 with
  | true=>rw[hb]at h;simp at h
  | false =>
   rw[hb]at h
   simp only[M0,hb,cond_false,List.cons_append]
   rw[ih h]
theorem B3R {m:List (α × β)} {k:α} {v:β}:∀ {i:Nat} {j:Nat},A7u m k i=some (i+j)→∀ n,(M0 m k v)[n]?=if n=j then some (k,v)else m[n]?:=by
 induction m with
 | nil=>intro i j h;simp[A7u]at h
 | cons p m ih =>
  intro i j h n
  unfold A7u at h
  cases hb:k==p.1 with
  | true =>
   rw[hb]at h
   simp only[cond_true,Option.some.injEq]at h
   have:j=0:=by omega
   subst this
   simp only[M0,hb,cond_true]
   cases n<;>simp
  | false =>
   rw[hb]at h
   simp only[cond_false]at h
   obtain⟨j',rfl⟩:∃ j',j=j'+1:=by
    cases j with
    | zero =>
     exfalso
     have key:∀ (m:List (α × β)) (i q:Nat),A7u m k i=some q→i≤q:=by
      intro m
      induction m with
      | nil=>intro i q h;simp[A7u]at h
      | cons p m ih =>
       intro i q h
       unfold A7u at h
       cases hb:k==p.1 with
       | true=>rw[hb]at h;simp at h;omega
       | false=>rw[hb]at h;simp at h;have:=ih _ _ h;omega
     have:=key _ _ _ h
     omega
    | succ j'=>exact⟨j',rfl⟩
   have:=ih (i:=i+1) (j:=j') (by rw[h];congr 1;omega)
   simp only[M0,hb,cond_false]
   cases n with
   | zero=>simp
   | succ n=>simpa using this n
def A7d (kv:α→Value) (vf:β→D) (m:List (α × β)):Rw:=⟨0,m.map fun p => .agg [.d (.v (kv p.1)),.d (vf p.2)]⟩
omit [BEq α] in
theorem B1v {g:G} {n:Nat} {vf:β→D} {m:List (α × β)} (h:A4q g n (A7d kv vf m)):(g.β n).2=1∧∃ es clock,g.w.heap[(g.β n).1]?=some (.map es clock)∧es.toList.map (·.key)=m.map (fun p=>kv p.1)∧∀ (i:Nat) (p:α × β) (e:MapEntry),m[i]?=some p→es[i]?=some e→VD g (vf p.2) e.val:=by
 rcases h with⟨_,_,h3⟩ | ⟨h1,_⟩ | ⟨_,h2,es,clock,h3,h4,h5⟩
 ·exact absurd rfl h3
 ·exact absurd rfl h1
 have hlen:es.size=m.length:=by rw[h4];simp[A7d]
 have get:∀ (i:Nat) (p:α × β),m[i]?=some p→∃ e,es[i]?=some e∧e.key=kv p.1∧VD g (vf p.2) e.val:=fun i p hp=>by
  obtain⟨k,y,e,q1,q2,q3,q4⟩:=h5 i (.agg [.d (.v (kv p.1)),.d (vf p.2)]) (by simp[A7d,hp])
  simp only[T.agg.injEq,List.cons.injEq,T.d.injEq,D.v.injEq,and_true]at q1
  obtain⟨rfl,rfl⟩:=q1
  cases q4 with | d q4=>exact⟨e,q2,q3,q4⟩
 refine⟨h2,es,clock,h3,?_,fun i p e h6 h7=>?_⟩
 ·apply List.ext_getElem?
  intro i
  rw[List.getElem?_map,List.getElem?_map,Array.getElem?_toList]
  by_cases hi:i<m.length
  ·obtain⟨e,q1,q2,_⟩:=get i m[i] (List.getElem?_eq_getElem hi)
   rw[q1,List.getElem?_eq_getElem hi]
   simp[q2]
  ·rw[List.getElem?_eq_none (by omega),Array.getElem?_eq_none (by omega)];rfl
 ·obtain⟨e',q1,_,q3⟩:=get i p h6
  rw[q1]at h7
  injection h7 with h7
  exact h7▸q3
variable {o:Oper} {fresh:Nat}
theorem B6C {t:TypeId} (hop:o.op = .makeMap t none):OpS P o [] [] [] fresh [⟨0,[]⟩] (.mp fresh) :=
 .of_run (fun c h=>by rw[hop]at h;cases h) fun g a hg _ _ hn=>by
  have hn0:=hn 0 (by simp)
  rw[Nat.add_zero]at hn0
  refine⟨.map (some g.w.heap.size),g.grow fresh ⟨0,[]⟩ 1 (g.w.alloc (.map #[] 0)),.inl ?_,P6.growR hg hn0 (.inl rfl) (.inr (.inr ⟨rfl,by simp[G.grow],#[],0,?_,rfl,fun i x hx=>by simp at hx⟩)),Le.grow hn0 _ _ (.inl rfl),A9w _ _ _,?_⟩
  ·simp[execOp,hop,B3j,G.grow]
  ·simp only[G.grow,if_true]
   show(g.w.heap.push _)[g.w.heap.size]?=_
   simp
  ·have:=VT.mp (g:=g.grow fresh ⟨0,[]⟩ 1 (g.w.alloc (.map #[] 0))) fresh (by simp[G.grow])
   simpa[G.grow]using this
theorem A9s {t e:TypeId} {ei:TI} {w:World} (ht:P.underlying t=some (.map kt e)) (he:TOk P e ei) (K:A9W P kt kv) {b:Nat} {es:Array MapEntry} {clock:Nat} (hb:w.heap[b]?=some (.map es clock)) {m:List (α × β)} (hk:es.toList.map (·.key)=m.map (fun p=>kv p.1)) (k:α) :
  ∃ zv,ei.z=ofV zv∧((A2e m k=none∧∀ ok,(Instr.lookup t (.map (some b)) (kv k) ok).run P w = .ok (if ok then .tuple #[zv,.bool false]else zv) w) ∨
   ∃ (j:Nat) (p:α × β) (en:MapEntry),m[j]?=some p∧es[j]?=some en∧A2e m k=some p.2∧∀ ok,(Instr.lookup t (.map (some b)) (kv k) ok).run P w = .ok (if ok then .tuple #[en.val,.bool true]else en.val) w):=by
 obtain⟨info,zv,hinf,hz,_,_,_,hzv,_,_⟩:=he.info
 obtain⟨desc,hd,hs⟩:=K.desc
 refine⟨zv,hzv,?_⟩
 rcases A9A hs k es.toList m 0 hk with⟨h1,_,h2⟩ | ⟨j,en,p,h1,h2,_,h4,_,h5⟩
 ·refine .inl ⟨h1,fun ok=>?_⟩
  have hf:=MapKept.run_findKey (w:=w) hd h2
  cases ok<;>simp[Instr.lookup,run_underlying ht,MapKept.run_getObj_map hb,K.check,hf,zeroValue,typeInfo,hinf,hz,Result.andThen]
 ·refine .inr ⟨j,p,en,h2,by simpa using h1,h4,fun ok=>?_⟩
  rw[Nat.zero_add]at h5
  have hf:=MapKept.run_findKey (w:=w) hd h5
  cases ok<;>simp[Instr.lookup,run_underlying ht,MapKept.run_getObj_map hb,K.check,hf,Result.andThen]
theorem B3V {t e:TypeId} {ei:TI} {x y:Operand} {n:Nat} {vf:β→D} {m:List (α × β)} {k:α} {z0:β} (hop:o.op = .lookup t x y false) (ht:P.underlying t=some (.map kt e)) (he:TOk P e ei) (K:A9W P kt kv) (hz:ei.z = .d (vf z0)) :
  OpS P o [(x,.mp n),(y,.d (.v (kv k)))] [(n,A7d kv vf m)] [] fresh [] (.d (vf ((A2e m k).getD z0))) :=
 .of_pure (fun c h=>by rw[hop]at h;cases h) fun g a hg hi hr=>by
  have hx:=hi (x,.mp n) (by simp)
  have hy:=(hi (y,.d (.v (kv k))) (by simp)).v_eq
  generalize hv:a.eval x=v at hx
  cases hx with | mp _ hn =>
  dsimp only at hy
  obtain⟨_,es,clock,h1,h2,h3⟩:=B1v (hg.rows n _ (hr (n,A7d kv vf m) (by simp)))
  obtain⟨zv,hzv,h4⟩:=A9s ht he K h1 h2 k
  rcases h4 with⟨h5,h6⟩ | ⟨j,p,en,h5,h6,h7,h8⟩
  ·refine⟨zv,by simp[execOp,hop,hv,hy,h6 false],?_⟩
   rw[h5,Option.getD_none,← hz,hzv]
   exact VT.ofV g zv
  ·refine⟨en.val,by simp[execOp,hop,hv,hy,h8 false],?_⟩
   rw[h7,Option.getD_some]
   exact .d (h3 j p en h5 h6)
theorem B0X {t e:TypeId} {x y z:Operand} {n:Nat} {vf:β→D} {m:List (α × β)} {k:α} {v:β} (hop:o.op = .mapUpdate t x y z∨o.op = .insert t x y z) (ht:P.underlying t=some (.map kt e)) (K:A9W P kt kv) :
  OpS P o [(x,.mp n),(y,.d (.v (kv k))),(z,.d (vf v))] [(n,A7d kv vf m)] [(n,some (A7d kv vf (M0 m k v)))] fresh [] .bot :=
 .of_run (fun c h=>by rcases hop with hop | hop<;>rw[hop]at h<;>cases h) fun g a hg hi hr _=>by
  have hx:=hi (x,.mp n) (by simp)
  have hy:=(hi (y,.d (.v (kv k))) (by simp)).v_eq
  have hzv:=hi (z,.d (vf v)) (by simp)
  generalize hv:a.eval x=xv at hx
  cases hx with | mp _ hn =>
  dsimp only at hy hzv
  have hnM:=hr (n,A7d kv vf m) (by simp)
  dsimp only at hnM
  obtain⟨hcap,es,clock,h1,h2,h3⟩:=B1v (hg.rows n _ hnM)
  have hc0:(g.β n).2≠0:=by omega
  obtain⟨desc,hd,hs⟩:=K.desc
  have hlen:es.size=m.length:=by have:=congrArg List.length h2;simpa using this
  obtain⟨es',clock',hrun,hsz,hent⟩:∃ (es':Array MapEntry) (clock':Nat),(Instr.mapUpdate t (.map (some (g.β n).1)) (kv k) (a.eval z)).run P g.w = .ok () { g.w with heap:=g.w.heap.setIfInBounds (g.β n).1 (.map es' clock') }∧es'.size=(M0 m k v).length ∧
    ∀ (i:Nat) (p:α × β),(M0 m k v)[i]?=some p→∃ en,es'[i]?=some en∧en.key=kv p.1∧VT g (.d (vf p.2)) en.val:=by
   have old:∀ (i:Nat) (p:α × β),m[i]?=some p→∃ en,es[i]?=some en∧en.key=kv p.1∧VT g (.d (vf p.2)) en.val:=fun i p hp=>by
    have hi:i<es.size:=by rw[hlen];exact(List.getElem?_eq_some_iff.1 hp).1
    have q:es[i]?=some es[i]:=Array.getElem?_eq_getElem hi
    refine⟨_,q,?_,.d (h3 i p _ hp q)⟩
    have:=congrArg (fun l=>l[i]?) h2
    simp only[List.getElem?_map,Array.getElem?_toList,q,hp,Option.map_some,Option.some.injEq]at this
    exact this
   rcases A9A hs k es.toList m 0 h2 with⟨q1,_,q2⟩ | ⟨j,en,p,q1,q2,q3,q4,q5,q6⟩
   ·have hf:=MapKept.run_findKey (w:=g.w) hd q2
    refine⟨es.push { key:=kv k,val:=a.eval z,born:=clock },clock+1,?_,by rw[B2b q1];simp[hlen],fun i p hp=>?_⟩
    ·simp[Instr.mapUpdate,run_underlying ht,MapKept.run_getObj_map h1,K.check,hf,MapKept.run_setObj_map _ h1]
    ·rw[B2b q1]at hp
     by_cases him:i<m.length
     ·rw[List.getElem?_append_left him]at hp
      obtain⟨en,w1,w2,w3⟩:=old i p hp
      exact⟨en,by rw[Array.getElem?_push,if_neg (by omega)];exact w1,w2,w3⟩
     ·rw[List.getElem?_append_right (by omega)]at hp
      have hi0:i-m.length=0:=by
       rcases Nat.eq_zero_or_pos (i-m.length)with h | h
       ·exact h
       ·rw[List.getElem?_eq_none (by simp;omega)]at hp;cases hp
      rw[hi0]at hp
      simp at hp
      subst hp
      refine⟨_,by rw[Array.getElem?_push,if_pos (by omega)],rfl,hzv⟩
   ·rw[Nat.zero_add]at q5 q6
    have hf:=MapKept.run_findKey (w:=g.w) hd q6
    have hje:es[j]?=some en:=by simpa using q1
    have hkey:en.key=kv p.1:=by
     obtain⟨en',w1,w2,_⟩:=old j p q2
     rw[hje]at w1;injection w1 with w1;rw[w1];exact w2
    have hsb:Instr.sameBits 10000 en.key (kv k)=true:=by rw[hkey];exact K.bits k p.1 q3
    refine⟨es.modify j fun e=>{ e with key:=kv k,val:=a.eval z },clock,?_,?_,fun i p' hp=>?_⟩
    ·simp[Instr.mapUpdate,run_underlying ht,MapKept.run_getObj_map h1,K.check,hf,hje,Instr.keyThatStays,hsb,MapKept.run_setObj_map _ h1]
    ·have hg2:=B3R (v:=v) (i:=0) (j:=j) (by rw[Nat.zero_add];exact q5)
     rw[Array.size_modify,hlen]
     have hjm:j<m.length:=(List.getElem?_eq_some_iff.1 q2).1
     apply Nat.le_antisymm
     ·apply Nat.not_lt.1
      intro hlt
      have:=hg2 (M0 m k v).length
      rw[List.getElem?_eq_none (Nat.le_refl _)]at this
      split at this
      ·cases this
      ·rw[List.getElem?_eq_getElem hlt]at this;cases this
     ·apply Nat.not_lt.1
      intro hlt
      have:=hg2 m.length
      rw[if_neg (by omega),List.getElem?_eq_none (Nat.le_refl _),List.getElem?_eq_getElem hlt]at this
      cases this
    ·have hg2:=B3R (v:=v) (i:=0) (j:=j) (by rw[Nat.zero_add];exact q5) i
     rw[hg2]at hp
     by_cases hij:i=j
     ·subst hij
      rw[if_pos rfl]at hp
      injection hp with hp
      subst hp
      exact⟨{ en with key:=kv k,val:=a.eval z },by rw[Array.getElem?_modify,if_pos rfl,hje];rfl,rfl,hzv⟩
     ·rw[if_neg hij]at hp
      obtain⟨en',w1,w2,w3⟩:=old i p' hp
      exact⟨en',by rw[Array.getElem?_modify,if_neg (fun e=>hij e.symm)];exact w1,w2,w3⟩
  obtain⟨w',hw'⟩:∃ w':World,w'={ g.w with heap:=g.w.heap.setIfInBounds (g.β n).1 (.map es' clock') }:=⟨_,rfl⟩
  have hlt:(g.β n).1<g.w.heap.size:=(Array.getElem?_eq_some_iff.1 h1).1
  have hfr:∀ b,b≠(g.β n).1→w'.heap[b]?=g.w.heap[b]?:=fun b hb=>by rw[hw'];simp[Ne.symm hb]
  have hsz':w'.heap.size=g.w.heap.size:=by rw[hw'];simp
  have hle:=Le.put (r':=A7d kv vf (M0 m k v)) hnM hc0 (w:=w') hsz' (by rw[hw']) (by rw[hw']) (by rw[hw']) hfr
  refine⟨undef,g.put n (A7d kv vf (M0 m k v)) w',.inr ⟨?_,rfl⟩,P6.putR hg hnM hc0 hle hsz' hfr (.inr (.inr ⟨rfl,hcap,es',clock',?_,by rw[hsz];simp[A7d],fun i x hx=>?_⟩)),hle,A8h _ _ _ _,.bot _⟩
  ·rcases hop with hop | hop<;>simp[execOp,hop,hv,hy,hrun,hw',G.put]
  ·show w'.heap[(g.β n).1]?=_
   rw[hw'];simp[hlt]
  ·simp only[A7d,List.getElem?_map,Option.map_eq_some_iff]at hx
   obtain⟨p,hp,rfl⟩:=hx
   obtain⟨en,w1,w2,w3⟩:=hent i p hp
   exact⟨_,_,en,rfl,w1,w2,w3.mono hg hle⟩
end
section
variable {P:Program} {N:Nat} {ops:Array Oper} {l:List Oper} {ts:List (Nat × T)} {L:List (Option Rw)} {tr:List Stp} {K:List Oper→List Stp→St→Prop} {d:Nat} {ty:TypeId} {pos:String} {af:Array Edge} {gd:Option (Nat × Bool)}
theorem A58 {t:TypeId} {n:Nat} {nr:List Nat} (hn:A4f.drop L.length=n::nr) (hw:I2 ops ts ⟨some d,.makeMap t none,ty,pos,af,gd⟩=some true) (hd:Nat.blt d N=true)
  (kk:L3 P N ops l ⟨(d,.mp n)::ts,L++[some ⟨0,[]⟩]⟩ (tr++[.run [n] [n]]) K):L3 P N ops (⟨some d,.makeMap t none,ty,pos,af,gd⟩::l) ⟨ts,L⟩ tr K:=by
 have e0:=A21 hn
 subst e0
 exact B0N (ins:=[]) (rn:=[]) rfl (B6C (P:=P) (o:=⟨some d,.makeMap t none,ty,pos,af,gd⟩) (fresh:=L.length) rfl) hw (by simp) (by simp) hd kk
theorem C0I {t e kt:TypeId} {ei:TI} {x y:Operand} {n:Nat} {β:Type} {vf:β→D} {m:List (Int × β)} {k:Int} {z0:β} {u:D} (tb:Tab P) (ht:P.underlying t=some (.map kt e)) (hk:P.underlying kt=some (.int .i64)) (he:tb.f e=some ei) (hx:O9 ts x = .mp n) (hy:O9 ts y = .d (.v (.int .i64 k))) (hr:L[n]?=some (some ⟨0,m.map fun p => .agg [.d (.v (.int .i64 p.1)),.d (vf p.2)]⟩)) (hz:ei.z = .d (vf z0)) (hu:vf ((A2e m k).getD z0)=u)
  (hw:I2 ops ts ⟨some d,.lookup t x y false,ty,pos,af,gd⟩=some true) (hd:Nat.blt d N=true)
  (kk:L3 P N ops l ⟨(d,.d u)::ts,L⟩ (tr++[.run [n] []]) K):L3 P N ops (⟨some d,.lookup t x y false,ty,pos,af,gd⟩::l) ⟨ts,L⟩ tr K:=by
 subst hu
 exact K0 (ins:=[(x,.mp n),(y,.d (.v (.int .i64 k)))]) (rn:=[(n,A7d (fun a:Int => .int .i64 a) vf m)]) rfl (B3V rfl ht (tb.ok _ _ he) (.int hk) hz) hw (by simp[Op.operands,hx,hy]) (by simp[hr,A7d]) hd kk
theorem C0b {t e kt:TypeId} {x y z:Operand} {n:Nat} {β:Type} {vf:β→D} {m q:List (Int × β)} {k:Int} {v:β} (L':List (Option Rw)) (ht:P.underlying t=some (.map kt e)) (hk:P.underlying kt=some (.int .i64)) (hx:O9 ts x = .mp n) (hy:O9 ts y = .d (.v (.int .i64 k))) (hz:O9 ts z = .d (vf v)) (hr:L[n]?=some (some ⟨0,m.map fun p => .agg [.d (.v (.int .i64 p.1)),.d (vf p.2)]⟩)) (hq:M0 m k v=q) (hL:L.set n (some ⟨0,q.map fun p => .agg [.d (.v (.int .i64 p.1)),.d (vf p.2)]⟩)=L')
  (hw:I2 ops ts ⟨none,.mapUpdate t x y z,ty,pos,af,gd⟩=some true)
  (kk:L3 P N ops l ⟨ts,L'⟩ (tr++[.run [n] [n]]) K):L3 P N ops (⟨none,.mapUpdate t x y z,ty,pos,af,gd⟩::l) ⟨ts,L⟩ tr K:=by
 subst hq hL
 refine A2i (.run hw (B0X (kv:=fun a:Int => .int .i64 a) (vf:=vf) (m:=m) (k:=k) (v:=v) (n:=n) (fresh:=L.length) (.inl rfl) ht (.int hk)) ?_ ?_ ?_ rfl) ?_
 ·intro p hp
  simp only[List.mem_cons,List.not_mem_nil,or_false]at hp
  rcases hp with rfl | rfl | rfl
  ·exact⟨hx,by simp[Op.operands]⟩
  ·exact⟨hy,by simp[Op.operands]⟩
  ·exact⟨hz,by simp[Op.operands]⟩
 ·intro p hp;simp only[List.mem_cons,List.not_mem_nil,or_false]at hp;subst hp;exact hr
 ·intro p hp;simp only[List.mem_cons,List.not_mem_nil,or_false]at hp;subst hp;exact⟨_,List.mem_singleton.2 rfl,rfl⟩
 ·simpa[St.eff,A5m,A4m,A7d]using kk
end
section
variable {P:Program} {N:Nat} {ops:Array Oper} {l:List Oper} {ts:List (Nat × T)} {L:List (Option Rw)} {tr:List Stp} {K:List Oper→List Stp→St→Prop} {d:Nat} {ty:TypeId} {pos:String} {af:Array Edge} {gd:Option (Nat × Bool)}
theorem A1D {x:Operand} (u:T) (hx:O9 ts x=u) (hw:I2 ops ts ⟨some d,.move x,ty,pos,af,gd⟩=some true) (hd:Nat.blt d N=true) (kk:L3 P N ops l ⟨(d,u)::ts,L⟩ (tr++[.run [] []]) K):L3 P N ops (⟨some d,.move x,ty,pos,af,gd⟩::l) ⟨ts,L⟩ tr K :=
 K0 (ins:=[(x,u)]) (rn:=[]) rfl (A6p (.inl rfl)) hw (by simp[Op.operands,hx]) (by simp) hd kk
theorem B3e {x:Operand} (u:T) (hx:O9 ts x=u) (hw:I2 ops ts ⟨some d,.assign x,ty,pos,af,gd⟩=some true) (hd:Nat.blt d N=true) (kk:L3 P N ops l ⟨(d,u)::ts,L⟩ (tr++[.run [] []]) K):L3 P N ops (⟨some d,.assign x,ty,pos,af,gd⟩::l) ⟨ts,L⟩ tr K :=
 K0 (ins:=[(x,u)]) (rn:=[]) rfl (A6p (.inr rfl)) hw (by simp[Op.operands,hx]) (by simp) hd kk
theorem B9z {t:TypeId} {i:TI} {x:Operand} {n s q c:Nat} {r:Rw} {e:T} (u:T) (tb:Tab P) (ht:tb.f t=some i) (hx:O9 ts x = .ref n s q c) (hr:L[n]?=some (some r)) (hs:r.s=s) (he:r.els[q]?=some e) (hp:A2S i e.cells.length c=true) (hv:A29 i e.cells c=u) (hw:I2 ops ts ⟨some d,.load t x,ty,pos,af,gd⟩=some true) (hd:Nat.blt d N=true)
  (kk:L3 P N ops l ⟨(d,u)::ts,L⟩ (tr++[.run [n] []]) K):L3 P N ops (⟨some d,.load t x,ty,pos,af,gd⟩::l) ⟨ts,L⟩ tr K :=
 K0 (ins:=[(x,.ref n s q c)]) (rn:=[(n,r)]) rfl (hv▸B0W rfl (tb.ok _ _ ht) hs he hp) hw (by simp[Op.operands,hx]) (by simp[hr]) hd kk
def A7l (s:Nat):List (Nat × Operand)→List T→List (Nat × Nat × T)
 | (k,_)::ps,t::us=>(k*s,s,t)::A7l s ps us
 | _,_=>[]
theorem B1q (s:Nat):∀ (ps:List (Nat × Operand)) (us:List T),ps.length=us.length→(A7l s ps us).length=ps.length ∧
  ∀ (k:Nat) (p:Nat × Operand) (t:T),ps[k]?=some p→us[k]?=some t→(A7l s ps us)[k]?=some (p.1*s,s,t)
 | [],us,h=>⟨rfl,fun k p t h=>by simp at h⟩
 | p::ps,[],h=>by simp at h
 | (n,x)::ps,t::us,h=>by
  obtain⟨h1,h2⟩:=B1q s ps us (by simpa using h)
  refine⟨by simp[A7l,h1],fun k p t' hp ht=>?_⟩
  cases k with
  | zero=>simp at hp ht;subst hp;subst ht;rfl
  | succ k=>exact h2 k p t' (by simpa using hp) (by simpa using ht)
theorem B7L {P:Program} {o:Oper} {fresh:Nat} {t e:TypeId} {i ei:TI} {m:Nat} {parts:Array (Nat × Operand)} {us:List T} (hop:o.op = .build t parts) (ht:TOk P t i) (hs:i.ar=some (m,e)) (he:TOk P e ei) (hl:parts.toList.length=us.length) (h1:A3f us=true)
  (hk:A6Z i.z.cells.length (A7l ei.size parts.toList us)=true):OpS P o ((parts.toList.map (·.2)).zip us) [] [] fresh [] (mkAgg (A8W i.z.cells ((A7l ei.size parts.toList us).map fun q=>(q.1,q.2.2)))) :=
 .of_pure (fun c h=>by rw[hop]at h;cases h) fun g a hg hi hr=>by
  obtain⟨info,zv,hinf,hz,hs',hb,hzs,hzv,hzl,hz1⟩:=ht.info
  obtain⟨einfo,_,heinf,_,hes,_⟩:=he.info
  have hvt:=VTs.of_ins (g:=g) (a:=a) (xs:=parts.toList.map (·.2)) (ts:=us) (by simpa using hl) (fun p hp=>hi p hp)
  have hzc:VTs g i.z.cells zv.cells.toList:=VT.cells (by rw[hzv];exact VT.ofV g zv) hz1
  obtain⟨hpl,hpg⟩:=B1q ei.size parts.toList us hl
  obtain⟨cs',hf1,hf2⟩:=A7V (g:=g) (fun k=>some (k*ei.size,ei.size)) (parts.toList.map fun p=>(p.1,a.eval p.2)) (A7l ei.size parts.toList us) zv.cells i.z.cells (by simp[hpl]) (fun k p q hp hq=>by
   simp only[List.getElem?_map,Option.map_eq_some_iff]at hp
   obtain⟨⟨n,x⟩,hx,rfl⟩:=hp
   have hlt:k<us.length:=by rw[← hl];exact(List.getElem?_eq_some_iff.1 hx).1
   have htk:us[k]?=some us[k]:=List.getElem?_eq_getElem hlt
   rw[hpg k _ _ hx htk]at hq
   simp only[Option.some.injEq]at hq
   subst hq
   exact⟨rfl,hvt.2 k _ _ htk (by simp[hx]),B0z h1 (List.getElem_mem hlt)⟩) hzc hk
  refine⟨.agg cs',?_,?_⟩
  ·simp[execOp,hop,Instr.build,zeroValue,typeInfo,hinf,hz,run_underlying (ht.array hs),sizeOf,heinf,hes,hf1]
  ·simpa using VT.mkAgg hf2
theorem B4h {t e:TypeId} {i ei:TI} {m:Nat} {parts:Array (Nat × Operand)} {us:List T} {v:T} (tb:Tab P) (ht:tb.f t=some i) (hs:i.ar=some (m,e)) (he:tb.f e=some ei) (hx:(parts.toList.map (·.2)).map (O9 ts)=us) (h1:A3f us=true)
  (hk:A6Z i.z.cells.length (A7l ei.size parts.toList us)=true) (hv:mkAgg (A8W i.z.cells ((A7l ei.size parts.toList us).map fun q=>(q.1,q.2.2)))=v) (hw:I2 ops ts ⟨some d,.build t parts,ty,pos,af,gd⟩=some true) (hd:Nat.blt d N=true)
  (kk:L3 P N ops l ⟨(d,v)::ts,L⟩ (tr++[.run [] []]) K):L3 P N ops (⟨some d,.build t parts,ty,pos,af,gd⟩::l) ⟨ts,L⟩ tr K :=
 K0 (rn:=[]) rfl (hv▸B7L rfl (tb.ok _ _ ht) hs (tb.ok _ _ he) (by rw[← hx];simp) h1 hk) hw (fun p hp=>by obtain⟨a,b⟩:=A2Z hx p hp;exact⟨a,by simpa[Op.operands]using b⟩) (by simp) hd kk
theorem B5c {P:Program} {o:Oper} {fresh:Nat} {t e:TypeId} {i ei:TI} {x y:Operand} {cl:List T} {m:Nat} {k:IntKind} {q:Nat} (hop:o.op = .index t x y) (ht:TOk P t i) (hs:i.ar=some (m,e)) (he:TOk P e ei) (hq:q<m) (hp:A2S ei cl.length (q*ei.size)=true) :
  OpS P o [(x,.agg cl),(y,.d (.v (.int k q)))] [] [] fresh [] (A29 ei cl (q*ei.size)) :=
 .of_pure (fun c h=>by rw[hop]at h;cases h) fun g a hg hi hr=>by
  obtain⟨info,zv,hinf,hz,hsz,_,_,_⟩:=he.info
  have hx:=hi (x,.agg cl) (by simp)
  have hy:=(hi (y,.d (.v (.int k q))) (by simp)).v_eq
  dsimp only at hy
  generalize hv:a.eval x=v at hx
  obtain⟨cs,rfl,hcs⟩:∃ cs,v = .agg cs∧VTs g cl cs.toList:=by
   cases hx with | agg _ cs hl h=>exact⟨cs,rfl,by simpa using hl,fun i d c hd hc=>h i d c hd (by simpa using hc)⟩
  obtain⟨h3,h4⟩:=A8f hp
  have hagg:=he.run_isAgg g.w
  have hidx:∀ r,(part e cs (q*ei.size)).run P g.w = .ok r g.w→(execOp a.eval o).run P g.w = .ok (.value r) g.w:=fun r hr=>by
   have h0:(0:Int)≤q∧(q:Int)<m:=by omega
   simp[execOp,hop,hv,hy,Instr.index,asIntOf,run_underlying (ht.array hs),hq,sizeOf,typeInfo,hinf,hsz,hr]
  cases hb:ei.agg with
  | true =>
   rw[hb]at h4 hagg
   simp only[if_true]at h4
   rw[h4]
   refine⟨.agg (cs.extract (q*ei.size) (q*ei.size+ei.size)),hidx _ (by simp[part,hagg,sizeOf,typeInfo,hinf,hsz]),?_⟩
   have he:cs.extract (q*ei.size) (q*ei.size+ei.size)=((cs.toList.drop (q*ei.size)).take ei.size).toArray:=by
    apply Array.ext'
    simp[Array.toList_extract,List.extract_eq_take_drop]
   rw[he]
   refine VT.mkAgg ⟨?_,fun j t c ht hc=>?_⟩
   ·simp only[List.length_take,List.length_drop,hcs.1]
   ·rw[List.getElem?_take]at ht hc
    split at ht
    ·rename_i hj
     rw[if_pos hj]at hc
     rw[List.getElem?_drop]at ht hc
     exact hcs.2 _ t c ht hc
    ·cases ht
  | false =>
   rw[hb]at h4 hagg
   simp only[Bool.false_eq_true,if_false]at h4
   have h5:=congrArg (·[0]?) h4
   simp only[List.getElem?_take,List.getElem?_drop,Nat.add_zero,List.getElem?_cons_zero]at h5
   split at h5
   ·have hlt:=(List.getElem?_eq_some_iff.1 h5).1
    have hlt':q*ei.size<cs.size:=by rw[hcs.1]at hlt;simpa using hlt
    have hc1:cs[q*ei.size]?=some cs[q*ei.size]:=Array.getElem?_eq_getElem hlt'
    exact⟨cs[q*ei.size],hidx _ (by simp[part,hagg,hc1]),hcs.2 _ _ _ h5 (by simp)⟩
   ·cases h5
end
end Go.Proofs.YtlaogbbcipebgaaGreat.Sh
