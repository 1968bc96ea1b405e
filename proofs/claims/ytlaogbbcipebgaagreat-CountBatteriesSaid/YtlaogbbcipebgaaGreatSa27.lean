/- A lent call that reads some of the rows alone; nil slices seen as empty lists. Over whatever program. -/
import Derived.Test.YtlaogbbcipebgaaGreatSa26
namespace Go.Proofs.YtlaogbbcipebgaaGreat.Sh
set_option linter.unusedVariables false
set_option linter.unusedSimpArgs false
open Go
inductive B4K:List (Option Rw)→List (Option Rw)→Prop where
 | nil (l:List (Option Rw)):B4K [] l
 | keep {x:Option Rw} {l l':List (Option Rw)} (h:B4K l l'):B4K (x::l) (x::l')
 | drop {x:Option Rw} {l l':List (Option Rw)} (h:B4K l l'):B4K (none::l) (x::l')
theorem B4K.get {l l':List (Option Rw)} (h:B4K l l'):∀ (n:Nat) (r:Rw),l[n]?=some (some r)→l'[n]?=some (some r):=by
 induction h with
 | nil=>intro n r h;simp at h
 | keep _ ih=>intro n r h;cases n with
  | zero=>simpa using h
  | succ n=>simpa using ih n r (by simpa using h)
 | drop _ ih=>intro n r h;cases n with
  | zero=>simp at h
  | succ n=>simpa using ih n r (by simpa using h)
inductive A8p:D→D→Prop where
 | same (x:D):A8p x x
 | nil (s:Nat):A8p (.v (.slice none 0 0)) (.arr s [])
 | agg0:A8p (.agg []) (.agg [])
 | aggc {x x':D} {l l':List D} (h:A8p x x') (q:A8p (.agg l) (.agg l')):A8p (.agg (x::l)) (.agg (x'::l'))
theorem A8p.val {g:G} {d d':D} (h:A8p d d'):∀ c,VD g d c→VD g d' c:=by
 induction h with
 | same=>exact fun _ h=>h
 | nil s =>
  intro c hv
  cases hv with | v x h=>exact .arr0 s none 0
 | agg0=>exact fun _ h=>h
 | aggc h q ih iq =>
  intro c hv
  cases hv with | agg l0 cs hl hc =>
  have hsz:cs.toList.length≠0:=by intro e;simp at e;subst e;simp at hl
  obtain⟨y,ys,hys⟩:∃ y ys,cs=(y::ys).toArray:=by
   obtain⟨l2⟩:=cs
   cases l2 with
   | nil=>simp at hsz
   | cons y ys=>exact⟨y,ys,rfl⟩
  subst hys
  have h2:=iq (.agg ys.toArray) (.agg _ _ (by simpa using hl) fun i d c h1 h2=>hc (i+1) d c (by simpa using h1) (by simpa using h2))
  cases h2 with | agg l3 cs3 hl3 hc3 =>
  refine .agg _ _ (by simpa using hl3) fun i d c h1 h2=>?_
  cases i with
  | zero =>
   simp only[List.getElem?_cons_zero,Option.some.injEq]at h1
   subst h1
   simp only[List.getElem?_toArray,List.getElem?_cons_zero,Option.some.injEq]at h2
   subst h2
   exact ih _ (hc 0 _ _ rfl rfl)
  | succ i=>exact hc3 i d c (by simpa using h1) (by simpa using h2)
inductive B08:List D→List D→Prop where
 | nil:B08 [] []
 | cons {x y:D} {l l':List D} (h:A8p x y) (q:B08 l l'):B08 (x::l) (y::l')
theorem B08.get {l l':List D} (h:B08 l l'):l.length=l'.length∧∀ (i:Nat) (y:D),l'[i]?=some y→∃ x,l[i]?=some x∧A8p x y:=by
 induction h with
 | nil=>exact⟨rfl,fun i y h=>by simp at h⟩
 | cons h _ ih =>
  refine⟨by simp[ih.1],fun i y hy=>?_⟩
  cases i with
  | zero=>simp only[List.getElem?_cons_zero,Option.some.injEq]at hy;subst hy;exact⟨_,rfl,h⟩
  | succ i=>simpa using ih.2 i y (by simpa using hy)
section
variable {P:Program} {n0 N:Nat} {Q:SX→St→Prop} {st:St}
end
section
variable {P:Program} {N:Nat} {ops:Array Oper} {l:List Oper} {ts:List (Nat × T)} {L:List (Option Rw)} {tr:List Stp} {K:List Oper→List Stp→St→Prop} {d:Nat} {ty:TypeId} {pos:String} {af:Array Edge} {gd:Option (Nat × Bool)}
end
end Go.Proofs.YtlaogbbcipebgaaGreat.Sh
