/- Maps of whatever values: written, and looked up with 'is it there'. Over whatever program. -/
import Derived.Test.YtlaogbbcipebgaaGreatSa12
namespace Go.Proofs.YtlaogbbcipebgaaGreat.Sh
set_option linter.unusedVariables false
set_option linter.unusedSimpArgs false
open Go
section
variable {α β:Type} [BEq α] {P:Program} {kt:TypeId} {kv:α→Value}
variable {o:Oper} {fresh:Nat}
def A9d (kv:α→Value) (vf:β→T) (m:List (α × β)):Rw:=⟨0,m.map fun p => .agg [.d (.v (kv p.1)),vf p.2]⟩
omit [BEq α] in
theorem C0e {g:G} {n:Nat} {vf:β→T} {m:List (α × β)} (h:A4q g n (A9d kv vf m)):(g.β n).2=1∧∃ es clock,g.w.heap[(g.β n).1]?=some (.map es clock)∧es.toList.map (·.key)=m.map (fun p=>kv p.1)∧∀ (i:Nat) (p:α × β) (e:MapEntry),m[i]?=some p→es[i]?=some e→VT g (vf p.2) e.val:=by
 rcases h with⟨_,_,h3⟩ | ⟨h1,_⟩ | ⟨_,h2,es,clock,h3,h4,h5⟩
 ·exact absurd rfl h3
 ·exact absurd rfl h1
 have hlen:es.size=m.length:=by rw[h4];simp[A9d]
 have get:∀ (i:Nat) (p:α × β),m[i]?=some p→∃ e,es[i]?=some e∧e.key=kv p.1∧VT g (vf p.2) e.val:=fun i p hp=>by
  obtain⟨k,y,e,q1,q2,q3,q4⟩:=h5 i (.agg [.d (.v (kv p.1)),vf p.2]) (by simp[A9d,hp])
  simp only[T.agg.injEq,List.cons.injEq,T.d.injEq,D.v.injEq,and_true]at q1
  obtain⟨rfl,rfl⟩:=q1
  exact⟨e,q2,q3,q4⟩
 refine⟨h2,es,clock,h3,?_,fun i p e h6 h7=>?_⟩
 ·apply List.ext_getElem?
  intro i
  rw[List.getElem?_map,List.getElem?_map,Array.getElem?_toList]
  by_cases hi:i<m.length
  ·obtain⟨e,q1,q2,_⟩:=get i m[i] (List.getElem?_eq_getElem hi)
   rw[q1,List.getElem?_eq_getElem hi]
   simp[q2]
  ·rw[List.getElem?_eq_none (by omega),Array.getElem?_eq_none (by omega)];rfl
 ·obtain⟨e',q1,_,q3⟩:=get i p h6
  rw[q1]at h7
  injection h7 with h7
  exact h7▸q3
variable {o:Oper} {fresh:Nat}
theorem B6B {t e:TypeId} {ei:TI} {x y:Operand} {n:Nat} {vf:β→T} {m:List (α × β)} {k:α} (hop:o.op = .lookup t x y true) (ht:P.underlying t=some (.map kt e)) (he:TOk P e ei) (K:A9W P kt kv) :
  OpS P o [(x,.mp n),(y,.d (.v (kv k)))] [(n,A9d kv vf m)] [] fresh [] (match A2e m k with | none => .tup [ei.z,.d (.v (.bool false))] | some v => .tup [vf v,.d (.v (.bool true))]) :=
 .of_pure (fun c h=>by rw[hop]at h;cases h) fun g a hg hi hr=>by
  have hx:=hi (x,.mp n) (by simp)
  have hy:=(hi (y,.d (.v (kv k))) (by simp)).v_eq
  generalize hv:a.eval x=v at hx
  cases hx with | mp _ hn =>
  dsimp only at hy
  obtain⟨_,es,clock,h1,h2,h3⟩:=C0e (hg.rows n _ (hr (n,A9d kv vf m) (by simp)))
  obtain⟨zv,hzv,h4⟩:=A9s ht he K h1 h2 k
  rcases h4 with⟨h5,h6⟩ | ⟨j,p,en,h5,h6,h7,h8⟩
  ·refine⟨.tuple #[zv,.bool false],by simp[execOp,hop,hv,hy,h6 true],?_⟩
   rw[h5,hzv]
   exact .tup _ #[zv,.bool false] rfl fun i d c h1 h2=>by
    match i with
    | 0=>simp at h1 h2;subst h1;subst h2;exact VT.ofV g _
    | 1=>simp at h1 h2;subst h1;subst h2;exact .d (.v _ rfl)
    | i+2=>simp at h1
  ·refine⟨.tuple #[en.val,.bool true],by simp[execOp,hop,hv,hy,h8 true],?_⟩
   rw[h7]
   exact .tup _ #[en.val,.bool true] rfl fun i d c h1 h2=>by
    match i with
    | 0=>simp at h1 h2;subst h1;subst h2;exact h3 j p en h5 h6
    | 1=>simp at h1 h2;subst h1;subst h2;exact .d (.v _ rfl)
    | i+2=>simp at h1
end
section
variable {P:Program} {N:Nat} {ops:Array Oper} {l:List Oper} {ts:List (Nat × T)} {L:List (Option Rw)} {tr:List Stp} {K:List Oper→List Stp→St→Prop} {d:Nat} {ty:TypeId} {pos:String} {af:Array Edge} {gd:Option (Nat × Bool)}
end
def SCA {α:Type} (P:Program) (f:FuncId) (as:List T) (L:List (Option Rw)) (x:Except Int α) (t:T) (L1:α→List (Option Rw)) (t2:Int→T) (L2:List (Option Rw)):Prop :=
 SC P f as L fun se X=>(∃ a,x = .ok a∧se = .ret t∧X=L1 a)∨∃ e,x = .error e∧se = .ret (t2 e)∧X=L2
theorem SCA.ok {α:Type} {P:Program} {f:FuncId} {as:List T} {L:List (Option Rw)} {x:Except Int α} {t:T} {L1:α→List (Option Rw)} {t2:Int→T} {L2:List (Option Rw)} (h:SCA P f as L x t L1 t2 L2) {a:α} (hn:x = .ok a):SCR P f as L t (L1 a):=SC.mono h fun se X hX=>by
 rcases hX with⟨b,h1,h2,h3⟩ | ⟨e,h1,_⟩
 ·rw[hn]at h1;injection h1 with h1;subst h1;exact⟨h2,h3⟩
 ·rw[hn]at h1;cases h1
theorem SCA.err {α:Type} {P:Program} {f:FuncId} {as:List T} {L:List (Option Rw)} {x:Except Int α} {t:T} {L1:α→List (Option Rw)} {t2:Int→T} {L2:List (Option Rw)} (h:SCA P f as L x t L1 t2 L2) {e:Int} (hn:x = .error e):SCR P f as L (t2 e) L2:=SC.mono h fun se X hX=>by
 rcases hX with⟨b,h1,_⟩ | ⟨b,h1,h2,h3⟩
 ·rw[hn]at h1;cases h1
 ·rw[hn]at h1;injection h1 with h1;subst h1;exact⟨h2,h3⟩
end Go.Proofs.YtlaogbbcipebgaaGreat.Sh
