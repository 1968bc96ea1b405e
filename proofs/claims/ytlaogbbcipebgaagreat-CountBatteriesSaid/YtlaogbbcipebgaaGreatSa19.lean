/- Loops with ranges in them; regions of rounds that may panic. Over whatever program. -/
import Derived.Test.YtlaogbbcipebgaaGreatSa17
namespace Go.Proofs.YtlaogbbcipebgaaGreat.Sh
set_option linter.unusedVariables false
set_option linter.unusedSimpArgs false
open Go
section
variable {P:Program} {n0 N:Nat} {Q:SX→St→Prop} {st:St}
theorem SWM.own {c:Code} {ts ts':List (Nat × T)} {L L':List (Option Rw)} (s:Nat) (hs:Nat.beq s 0=false) {m:Nat} {nr:List Nat} (hm:A4f.drop L.length=m::nr) (hts:B21 m s ts ts') (hL:A92 m s L L') (h:SWM P n0 N c Q ⟨ts',L'++[some ⟨s,[]⟩]⟩):SWM P n0 N c Q ⟨ts,L⟩ :=
 SWM.seen (fun _ _ _ hR=>A9g n0 s hs hm hts hL hR) h
theorem SWM.fz {c:Code} {ts ts':List (Nat × T)} {L L':List (Option Rw)} {α:Type} {w:List α} {f:α→D} (n s:Nat) (hn0:L[n]?=some (some ⟨s,w.map fun a => .d (f a)⟩)) (hts:FzS n s (w.map f) ts ts') (hL:FzR n s (w.map f) (L.set n none) L') (h:SWM P n0 N c Q ⟨ts',L'⟩):SWM P n0 N c Q ⟨ts,L⟩ :=
 SWM.seen (fun _ _ _ hR=>C0l n0 n s hn0 hts hL hR) h
theorem B70 {df:List Deferred} {ops:Array Oper} {l:List Oper} {st st2:St} {tr:List Stp} (h:Ev P N ops l st tr st2) {F:Fence} {nn:Nat} (hF:Wd F) {R:Exit→Act→World→Prop} {l2:List Oper} :
 ∀ {g:G},(∀ g' a',Le g g'→StR g' N st2 a' df→wpListIn F nn P ops R l2 a' g'.w)→∀ a,StR g N st a df→wpListIn F nn P ops R (l++l2) a g.w:=by
 induction h with
 | nil st=>intro g k a hR;exact k g a (.refl g) hR
 | cons hs _ ih=>intro g k a hR;exact hs.soundL hF hR fun g' a' h3 h4=>ih (fun g'' a'' h5 h6=>k g'' a'' (h3.trans h5) h6) a' h4
theorem C0i {id:Nat} {l:List Oper} (h:L3 P N l.toArray l st [] (B7x P n0 N [] l.toArray Q)):SWY P n0 N (.region id l.toArray false) Q st:=fun F nn hF g a hR=>by
 obtain⟨l1,l2,tr,st',e,h1,(⟨rfl,h2⟩ | ⟨o,r,rfl,hw,h2⟩)⟩:=h
 ·refine A6M (B8u (Q:=fun ex a' w'=>ex = .normal∧∃ g',g'.w=w'∧LeN n0 g g'∧StR g' N st' a' []) (wpIn_region_lit ?_) (fun ch a w h=>by cases h.1)) ?_
  ·have:=B70 (nn:=nn) h1 hF (R:=fun ex a' w'=>ex = .normal∧∃ g',g'.w=w'∧LeN n0 g g'∧StR g' N st' a' []) (l2:=[]) (g:=g) (fun g' a' k1 k2=>⟨rfl,g',rfl,k1.toN n0,k2⟩) a hR
   rw[← e]at this
   exact this
  ·rintro ex a' w' ⟨rfl,g',rfl,k1,k2⟩
   exact⟨g',.norm,st',rfl,k1,k2,trivial,h2⟩
 ·refine A6M (B9p (Q:=fun ch a' w'=>∃ g' v t st',g'.w=w'∧LeN n0 g g'∧StR g' N st' a' []∧ch=[{ v,recovered:=false }]∧VT g' t v∧Q (.pan t) st') ?_) ?_
  ·have:=B70 h1 hF (R:=A8e fun ch a' w'=>∃ g' v t st',g'.w=w'∧LeN n0 g g'∧StR g' N st' a' []∧ch=[{ v,recovered:=false }]∧VT g' t v∧Q (.pan t) st') (l2:=o::r) (g:=g) (fun g1 a' k1 k2=>by
    unfold wpListIn
    rw[A0W hw fun d _=>k2.ts d]
    simp only[if_true]
    exact h2 F nn hF g1 a' k2 _ _ fun g' v t st' e1 e2 e3 e4=>⟨g',v,t,st',rfl,(k1.toN n0).trans e1,e2,rfl,e3,e4⟩) a hR
   rw[← e]at this
   exact this
  ·rintro ex a' w' k
   cases ex<;>first | exact k.elim | skip
   obtain⟨g',v,t,st',rfl,k1,k2,rfl,k3,k4⟩:=k
   exact⟨g',.pan t,st',rfl,k1,k2,⟨v,rfl,k3⟩,k4⟩
end
end Go.Proofs.YtlaogbbcipebgaaGreat.Sh
