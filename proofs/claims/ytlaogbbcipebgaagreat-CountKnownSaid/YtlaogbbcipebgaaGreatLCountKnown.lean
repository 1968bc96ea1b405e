/-
  Proves that the law function CountKnown returns true whatever it is given, and that what it is given reads behind the call as it read before: 'CountKnownSaid'. No conditions.
-/
import Derived.Test.YtlaogbbcipebgaaGreatRows
import Derived.Test.YtlaogbbcipebgaaGreatQ1
import Derived.Test.YtlaogbbcipebgaaGreatM0
import Derived.SizedLaws
set_option linter.unusedVariables false
set_option linter.unusedSimpArgs false
namespace Go.Proofs.YtlaogbbcipebgaaGreat
open Go Go.Proofs Go.Proofs.YtlaogbbcipebgaaGreat.Sh Go.ChangeShapes Go.WideShapes Go.ChangeAt Go.RowKit
section
variable {H:Type} {enc:TypeId × Value→H} {W:World}
end
namespace CountKnownLaw
theorem own:ownKnob Tryz.prog.godebug=none:=by kernel_rfl
theorem B2J:laidOutB Tryz.prog=true:=by kernel_rfl
set_option maxRecDepth 100000 in
theorem B9M (os:Os) (started:os.Started) (H:Type) (enc:TypeId × Value→H) :
 ReturnsInHanded {} Tryz.checked os 15 .any (Rows.countKnownSpec.pre6 enc Tryz.prog Tryz.f15 Rows.countKnownRow.domain false) (Rows.countKnownSpec.post enc Tryz.prog Tryz.f15 false true false false):=by
 refine returnsInHanded_of_change_sized (C:=Tryz.checked) own started (by kernel_rfl) Tryz.func15
  (ChangeSpec.witness6 (enc:=enc) (C:=Tryz.checked) false ⟨#[],#[],[]⟩ 8 (by kernel_rfl) (by kernel_rfl) (by kernel_rfl) (by kernel_rfl)) ?_
 intro W base args ds gs before hval0 hW hcnd hsz0 _
 have hval:∀ (j:Nat) t v,Tryz.f15.params[j]?=some t→args[j]?=some v→Value.okWide Tryz.prog W .any base t v:=hval0
 have hW':=hW
 obtain⟨p,q,hA0,hV,rfl,hfz,hnd⟩:=hW
 have hA:DataW.TrodAll enc Tryz.prog W 0 (fun _=>true) true Tryz.f15.params.toList args.toList ds p:=hA0
 rw[Tryz.params15]at hA hval
 obtain⟨hargs,rfl,rfl⟩:=trodAll_nil hA
 obtain rfl:args=#[]:=by cases args;simp_all
 obtain⟨rfl,rfl⟩:=trodVars_none hV
 clear hA0 hval0 hsz0
 obtain⟨F,hF⟩:=(⟨100,by kernel_rfl⟩:∃ F,C2y F=some true)
 have hw:Calls Tryz.prog 15 #[] W fun e w'=>e = .returned (.bool true)∧Below W.heap.size W w':=PC.below (ds:=[]) (vs:=[]) (C2A hF) rfl (CVs.at (ds:=[]) (cs:=[]) trivial).2
 refine hw.mono fun e W' ⟨he,bel⟩=>?_
 subst he
 exact⟨_,rfl,_,_,_,[],_,[],hW',trodAll_mk1 (shut_bool Tryz.underlying4 _),trodAll_mk0,rfl,bel.frame _,fun h=>by cases h⟩
theorem closed:joinedFacts Tryz.pinned.checked.prog 15 Tryz.f15 Rows.countKnownSpec Rows.countKnownRow=true:=by
 unfold joinedFacts
 rw[C3J,C3K,C3L]
 kernel_rfl
theorem over:Rows.countKnownRow.holds Tryz.pinned (OpenSpec.ofChange Rows.countKnownSpec) :=
 OpenClaim.holds_of_wide 15 Tryz.f15 rfl rfl rfl rfl rfl rfl rfl ⟨rfl,rfl,rfl,rfl,rfl⟩ rfl rfl rfl rfl rfl (by kernel_rfl) Tryz.func15 closed
  (of_decide_eq_true (by kernel_rfl)) (by unfold Func.isWrapper;first | (rw[if_pos (by decide +kernel)];kernel_rfl) | (rw[if_neg (by decide +kernel)];exact⟨rfl,rfl⟩))
  (fun os started H enc _=>B9M os started H enc)
end CountKnownLaw
theorem known_holds:Rows.CountKnownSaid:=CountKnownLaw.over
end Go.Proofs.YtlaogbbcipebgaaGreat
