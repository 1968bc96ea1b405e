/- The plain part of pad.Check: the program's answer and the document's are the same. -/
import Derived.Test.YtlaogbbcipebgaaGreatW5
import Derived.MapKept
import Derived.Laws.Strings
set_option linter.unusedVariables false
set_option linter.unusedSimpArgs false
open Go Go.Proofs.YtlaogbbcipebgaaGreat.Sh Go.Proofs
namespace Go.Proofs.YtlaogbbcipebgaaGreat
theorem oS {α β:Type} (a:α) (f:α→Option β):(some a).bind f=f a:=rfl
theorem dF {p:Prop} [Decidable p] (h:¬p):decide p=false:=decide_eq_false h
theorem dT {p:Prop} [Decidable p] (h:p):decide p=true:=decide_eq_true h
theorem lD {α:Type} {i:Nat} {l:List α} (h:i<l.length):l.drop i=l[i]::l.drop (i+1):=List.drop_eq_getElem_cons h
theorem cT {α:Type} {a b:α}:cond true a b=a:=rfl
theorem cF {α:Type} {a b:α}:cond false a b=b:=rfl
theorem lL {α:Type} {l:List α} {i:Nat} (h:l.length≤i):l.drop i=[]:=List.drop_of_length_le h
theorem tN (n:Nat):(n:Int).toNat=n:=rfl
structure A5x (F:Nat) (p:D5):Prop where
 f:100<F
 lz:p.zones.length<9223372036854775808
 ld:p.doors.length<9223372036854775808
 lp:p.people.length<9223372036854775808
 lk:p.keys.length<9223372036854775808
 lq:p.squibs.length<9223372036854775808
 zn:∀ x∈p.zones,x.name.size<F∧x.name.size<9223372036854775808
 pn:∀ x∈p.people,x.name.size<F∧x.name.size<9223372036854775808
 kn:∀ x∈p.keys,x.size<F∧x.size<9223372036854775808
 qn:∀ x∈p.squibs,x.name.size<F∧x.name.size<9223372036854775808
 qk:∀ x∈p.squibs,x.keys.length<F∧x.keys.length<9223372036854775808
end Go.Proofs.YtlaogbbcipebgaaGreat
