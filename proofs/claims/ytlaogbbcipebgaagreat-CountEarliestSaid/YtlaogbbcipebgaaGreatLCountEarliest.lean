/-
  Proves that the law function CountEarliest returns true whatever it is given, and that what it is given reads behind the call as it read before: 'CountEarliestSaid'. No conditions.
-/
import Derived.Test.YtlaogbbcipebgaaGreatRows
import Derived.Test.YtlaogbbcipebgaaGreatC9
import Derived.Test.YtlaogbbcipebgaaGreatM0
import Derived.SizedLaws
set_option linter.unusedVariables false
set_option linter.unusedSimpArgs false
open Go renaming Value→al
namespace Go.Proofs.YtlaogbbcipebgaaGreat
open Go Go.Proofs Go.Proofs.YtlaogbbcipebgaaGreat.Sh Go.ChangeShapes Go.WideShapes Go.ChangeAt Go.RowKit
section
variable {H:Type} {enc:TypeId × al→H} {W:World}
def B4J.G (x:B4J):Prop:=(Lit.int .i64 x.lo).wf=true∧(Lit.int .i64 x.hi).wf=true
set_option maxRecDepth 100000 in
theorem C0r {n:Nat} {cs:List al} {y:DataW H × List MemPlace} (h:DataW.trod enc Tryz.prog W 0 (fun _=>true) true n 33 cs=some y):∃ a:B4J,CV W cs (B4J.d a)∧B4J.G a:=by
 have hl:=(A3n Tryz.underlying33 h).trans (by kernel_rfl:Tryz.prog.cellsOf 33=2)
 match cs,hl with
 | [c0,c1],_ =>
  obtain⟨n1,y1,f1⟩:=J8 Tryz.underlying33 h 0 _ rfl [c0] (by kernel_rfl);obtain⟨v0,o0,g0⟩:=T8 Tryz.underlying3 f1;obtain⟨n2,y2,f2⟩:=J8 Tryz.underlying33 h 1 _ rfl [c1] (by kernel_rfl);obtain⟨v1,o1,g1⟩:=T8 Tryz.underlying3 f2;exact⟨⟨v0,v1⟩,CVs.cv ⟨o0,o1,trivial⟩,g0,g1⟩
def B06.G (x:B06):Prop:=(Lit.int .i64 x.A7P).wf=true∧(Lit.int .i64 x.A7O).wf=true∧(Lit.int .i64 x.A7R).wf=true∧(Lit.int .i64 x.A7Q).wf=true
set_option maxRecDepth 100000 in
theorem C0q {n:Nat} {cs:List al} {y:DataW H × List MemPlace} (h:DataW.trod enc Tryz.prog W 0 (fun _=>true) true n 154 cs=some y):∃ a:B06,CV W cs (B06.d a)∧B06.G a:=by
 have hl:=(A3n Tryz.underlying154 h).trans (by kernel_rfl:Tryz.prog.cellsOf 154=4)
 match cs,hl with
 | [c0,c1,c2,c3],_ =>
  obtain⟨n1,y1,f1⟩:=J8 Tryz.underlying154 h 0 _ rfl [c0,c1] (by kernel_rfl);obtain⟨n2,y2,f2⟩:=J8 Tryz.underlying33 f1 0 _ rfl [c0] (by kernel_rfl);obtain⟨v0,o0,g0⟩:=T8 Tryz.underlying3 f2;obtain⟨n3,y3,f3⟩:=J8 Tryz.underlying33 f1 1 _ rfl [c1] (by kernel_rfl);obtain⟨v1,o1,g1⟩:=T8 Tryz.underlying3 f3;obtain⟨n4,y4,f4⟩:=J8 Tryz.underlying154 h 1 _ rfl [c2,c3] (by kernel_rfl);obtain⟨n5,y5,f5⟩:=J8 Tryz.underlying33 f4 0 _ rfl [c2] (by kernel_rfl);obtain⟨v2,o2,g2⟩:=T8 Tryz.underlying3 f5;obtain⟨n6,y6,f6⟩:=J8 Tryz.underlying33 f4 1 _ rfl [c3] (by kernel_rfl);obtain⟨v3,o3,g3⟩:=T8 Tryz.underlying3 f6;exact⟨⟨v0,v1,v2,v3⟩,CVs.cv ⟨o0,o1,o2,o3,trivial⟩,g0,g1,g2,g3⟩
def F6.G (x:F6):Prop:=x.name.size≤9223372036854775807∧(Lit.int .i64 x.L5).wf=true∧(Lit.int .i64 x.L4).wf=true∧(Lit.int .i64 x.L7).wf=true∧(Lit.int .i64 x.L6).wf=true∧(Lit.int .i64 x.grade).wf=true∧(Lit.int .i64 x.room).wf=true∧True
set_option maxRecDepth 100000 in
theorem B0c {n:Nat} {cs:List al} {y:DataW H × List MemPlace} (h:DataW.trod enc Tryz.prog W 0 (fun _=>true) true n 156 cs=some y):∃ a:F6,CV W cs (F6.d a)∧F6.G a:=by
 have hl:=(A3n Tryz.underlying156 h).trans (by kernel_rfl:Tryz.prog.cellsOf 156=8)
 match cs,hl with
 | [c0,c1,c2,c3,c4,c5,c6,c7],_ =>
  obtain⟨n1,y1,f1⟩:=J8 Tryz.underlying156 h 0 _ rfl [c0] (by kernel_rfl);obtain⟨v0,o0,g0⟩:=B0Z Tryz.underlying9 f1;obtain⟨n2,y2,f2⟩:=J8 Tryz.underlying156 h 1 _ rfl [c1,c2,c3,c4] (by kernel_rfl);obtain⟨n3,y3,f3⟩:=J8 Tryz.underlying154 f2 0 _ rfl [c1,c2] (by kernel_rfl);obtain⟨n4,y4,f4⟩:=J8 Tryz.underlying33 f3 0 _ rfl [c1] (by kernel_rfl);obtain⟨v1,o1,g1⟩:=T8 Tryz.underlying3 f4;obtain⟨n5,y5,f5⟩:=J8 Tryz.underlying33 f3 1 _ rfl [c2] (by kernel_rfl);obtain⟨v2,o2,g2⟩:=T8 Tryz.underlying3 f5;obtain⟨n6,y6,f6⟩:=J8 Tryz.underlying154 f2 1 _ rfl [c3,c4] (by kernel_rfl);obtain⟨n7,y7,f7⟩:=J8 Tryz.underlying33 f6 0 _ rfl [c3] (by kernel_rfl);obtain⟨v3,o3,g3⟩:=T8 Tryz.underlying3 f7;obtain⟨n8,y8,f8⟩:=J8 Tryz.underlying33 f6 1 _ rfl [c4] (by kernel_rfl);obtain⟨v4,o4,g4⟩:=T8 Tryz.underlying3 f8;obtain⟨n9,y9,f9⟩:=J8 Tryz.underlying156 h 2 _ rfl [c5] (by kernel_rfl);obtain⟨v5,o5,g5⟩:=T8 Tryz.underlying3 f9;obtain⟨n10,y10,f10⟩:=J8 Tryz.underlying156 h 3 _ rfl [c6] (by kernel_rfl);obtain⟨v6,o6,g6⟩:=T8 Tryz.underlying3 f10;obtain⟨n11,y11,f11⟩:=J8 Tryz.underlying156 h 4 _ rfl [c7] (by kernel_rfl);obtain⟨v7,o7,g7⟩:=B5N Tryz.underlying4 f11;exact⟨⟨v0,v1,v2,v3,v4,v5,v6,v7⟩,CVs.cv ⟨o0,o1,o2,o3,o4,o5,o6,o7,trivial⟩,g0,g1,g2,g3,g4,g5,g6,g7⟩
def G6.G (x:G6):Prop:=(Lit.int .i64 x.a).wf=true∧(Lit.int .i64 x.b).wf=true
set_option maxRecDepth 100000 in
theorem B0b {n:Nat} {cs:List al} {y:DataW H × List MemPlace} (h:DataW.trod enc Tryz.prog W 0 (fun _=>true) true n 160 cs=some y):∃ a:G6,CV W cs (G6.d a)∧G6.G a:=by
 have hl:=(A3n Tryz.underlying160 h).trans (by kernel_rfl:Tryz.prog.cellsOf 160=2)
 match cs,hl with
 | [c0,c1],_ =>
  obtain⟨n1,y1,f1⟩:=J8 Tryz.underlying160 h 0 _ rfl [c0] (by kernel_rfl);obtain⟨v0,o0,g0⟩:=T8 Tryz.underlying3 f1;obtain⟨n2,y2,f2⟩:=J8 Tryz.underlying160 h 1 _ rfl [c1] (by kernel_rfl);obtain⟨v1,o1,g1⟩:=T8 Tryz.underlying3 f2;exact⟨⟨v0,v1⟩,CVs.cv ⟨o0,o1,trivial⟩,g0,g1⟩
def E2.G (x:E2):Prop:=x.name.size≤9223372036854775807∧(Lit.int .i64 x.grade).wf=true
set_option maxRecDepth 100000 in
theorem A8y {n:Nat} {cs:List al} {y:DataW H × List MemPlace} (h:DataW.trod enc Tryz.prog W 0 (fun _=>true) true n 163 cs=some y):∃ a:E2,CV W cs (E2.d a)∧E2.G a:=by
 have hl:=(A3n Tryz.underlying163 h).trans (by kernel_rfl:Tryz.prog.cellsOf 163=2)
 match cs,hl with
 | [c0,c1],_ =>
  obtain⟨n1,y1,f1⟩:=J8 Tryz.underlying163 h 0 _ rfl [c0] (by kernel_rfl);obtain⟨v0,o0,g0⟩:=B0Z Tryz.underlying9 f1;obtain⟨n2,y2,f2⟩:=J8 Tryz.underlying163 h 1 _ rfl [c1] (by kernel_rfl);obtain⟨v1,o1,g1⟩:=T8 Tryz.underlying3 f2;exact⟨⟨v0,v1⟩,CVs.cv ⟨o0,o1,trivial⟩,g0,g1⟩
def B0A.G (x:B0A):Prop:=(Lit.int .i64 x.x).wf=true∧(Lit.int .i64 x.y).wf=true
set_option maxRecDepth 100000 in
theorem B9R {n:Nat} {cs:List al} {y:DataW H × List MemPlace} (h:DataW.trod enc Tryz.prog W 0 (fun _=>true) true n 170 cs=some y):∃ a:B0A,CV W cs (B0A.d a)∧B0A.G a:=by
 have hl:=(A3n Tryz.underlying170 h).trans (by kernel_rfl:Tryz.prog.cellsOf 170=2)
 match cs,hl with
 | [c0,c1],_ =>
  obtain⟨n1,y1,f1⟩:=J8 Tryz.underlying170 h 0 _ rfl [c0] (by kernel_rfl);obtain⟨v0,o0,g0⟩:=T8 Tryz.underlying3 f1;obtain⟨n2,y2,f2⟩:=J8 Tryz.underlying170 h 1 _ rfl [c1] (by kernel_rfl);obtain⟨v1,o1,g1⟩:=T8 Tryz.underlying3 f2;exact⟨⟨v0,v1⟩,CVs.cv ⟨o0,o1,trivial⟩,g0,g1⟩
def D1.G (x:D1):Prop:=x.name.size≤9223372036854775807∧(Lit.int .i64 x.A4s).wf=true∧(Lit.int .i64 x.A4t).wf=true∧(Lit.int .i64 x.clear).wf=true∧(Lit.int .i64 x.grade).wf=true∧(x.keys.length≤9223372036854775807∧∀ z∈x.keys,(Lit.int .i64 z).wf=true)
set_option maxRecDepth 100000 in
theorem A9f {n:Nat} {cs:List al} {y:DataW H × List MemPlace} (h:DataW.trod enc Tryz.prog W 0 (fun _=>true) true n 172 cs=some y):∃ a:D1,CV W cs (D1.d a)∧D1.G a:=by
 have hl:=(A3n Tryz.underlying172 h).trans (by kernel_rfl:Tryz.prog.cellsOf 172=6)
 match cs,hl with
 | [c0,c1,c2,c3,c4,c5],_ =>
  obtain⟨n1,y1,f1⟩:=J8 Tryz.underlying172 h 0 _ rfl [c0] (by kernel_rfl);obtain⟨v0,o0,g0⟩:=B0Z Tryz.underlying9 f1;obtain⟨n2,y2,f2⟩:=J8 Tryz.underlying172 h 1 _ rfl [c1,c2] (by kernel_rfl);obtain⟨n3,y3,f3⟩:=J8 Tryz.underlying170 f2 0 _ rfl [c1] (by kernel_rfl);obtain⟨v1,o1,g1⟩:=T8 Tryz.underlying3 f3;obtain⟨n4,y4,f4⟩:=J8 Tryz.underlying170 f2 1 _ rfl [c2] (by kernel_rfl);obtain⟨v2,o2,g2⟩:=T8 Tryz.underlying3 f4;obtain⟨n5,y5,f5⟩:=J8 Tryz.underlying172 h 2 _ rfl [c3] (by kernel_rfl);obtain⟨v3,o3,g3⟩:=T8 Tryz.underlying3 f5;obtain⟨n6,y6,f6⟩:=J8 Tryz.underlying172 h 3 _ rfl [c4] (by kernel_rfl);obtain⟨v4,o4,g4⟩:=T8 Tryz.underlying3 f6;obtain⟨n7,y7,f7⟩:=J8 Tryz.underlying172 h 4 _ rfl [c5] (by kernel_rfl);obtain⟨v5,o5,g5⟩:=A2f (size:=1) vI (fun a=>(Lit.int .i64 a).wf=true) Tryz.underlying31 (by kernel_rfl) dM (fun _=>rfl) (fun _ _ _ h=>A8c Tryz.underlying3 h) f7;exact⟨⟨v0,v1,v2,v3,v4,v5⟩,CVs.cv ⟨o0,o1,o2,o3,o4,o5,trivial⟩,g0,g1,g2,g3,g4,g5⟩
def D5.G (x:D5):Prop:=(x.zones.length≤9223372036854775807∧∀ z∈x.zones,F6.G z)∧(x.doors.length≤9223372036854775807∧∀ z∈x.doors,G6.G z)∧(x.people.length≤9223372036854775807∧∀ z∈x.people,E2.G z)∧(x.keys.length≤9223372036854775807∧∀ z∈x.keys,z.size≤9223372036854775807)∧(x.squibs.length≤9223372036854775807∧∀ z∈x.squibs,D1.G z)∧(Lit.int .i64 x.panel).wf=true∧(Lit.int .i64 x.wait).wf=true
set_option maxRecDepth 100000 in
theorem B9Q {n:Nat} {cs:List al} {y:DataW H × List MemPlace} (h:DataW.trod enc Tryz.prog W 0 (fun _=>true) true n 28 cs=some y):∃ a:D5,CV W cs (D5.d a)∧D5.G a:=by
 have hl:=(A3n Tryz.underlying28 h).trans (by kernel_rfl:Tryz.prog.cellsOf 28=7)
 match cs,hl with
 | [c0,c1,c2,c3,c4,c5,c6],_ =>
  obtain⟨n1,y1,f1⟩:=J8 Tryz.underlying28 h 0 _ rfl [c0] (by kernel_rfl);obtain⟨v0,o0,g0⟩:=A2f (size:=8) F6.d (fun a=>F6.G a) Tryz.underlying22 (by kernel_rfl) dM (fun _=>rfl) (fun _ _ _ h=>B0c h) f1;obtain⟨n2,y2,f2⟩:=J8 Tryz.underlying28 h 1 _ rfl [c1] (by kernel_rfl);obtain⟨v1,o1,g1⟩:=A2f (size:=2) G6.d (fun a=>G6.G a) Tryz.underlying23 (by kernel_rfl) dM (fun _=>rfl) (fun _ _ _ h=>B0b h) f2;obtain⟨n3,y3,f3⟩:=J8 Tryz.underlying28 h 2 _ rfl [c2] (by kernel_rfl);obtain⟨v2,o2,g2⟩:=A2f (size:=2) E2.d (fun a=>E2.G a) Tryz.underlying24 (by kernel_rfl) dM (fun _=>rfl) (fun _ _ _ h=>A8y h) f3;obtain⟨n4,y4,f4⟩:=J8 Tryz.underlying28 h 3 _ rfl [c3] (by kernel_rfl);obtain⟨v3,o3,g3⟩:=A2f (size:=1) vS (fun a=>a.size≤9223372036854775807) Tryz.underlying25 (by kernel_rfl) dM (fun _=>rfl) (fun _ _ _ h=>B2Q Tryz.underlying9 h) f4;obtain⟨n5,y5,f5⟩:=J8 Tryz.underlying28 h 4 _ rfl [c4] (by kernel_rfl);obtain⟨v4,o4,g4⟩:=A2f (size:=6) D1.d (fun a=>D1.G a) Tryz.underlying26 (by kernel_rfl) dM (fun _=>rfl) (fun _ _ _ h=>A9f h) f5;obtain⟨n6,y6,f6⟩:=J8 Tryz.underlying28 h 5 _ rfl [c5] (by kernel_rfl);obtain⟨v5,o5,g5⟩:=T8 Tryz.underlying3 f6;obtain⟨n7,y7,f7⟩:=J8 Tryz.underlying28 h 6 _ rfl [c6] (by kernel_rfl);obtain⟨v6,o6,g6⟩:=T8 Tryz.underlying3 f7;exact⟨⟨v0,v1,v2,v3,v4,v5,v6⟩,CVs.cv ⟨o0,o1,o2,o3,o4,o5,o6,trivial⟩,g0,g1,g2,g3,g4,g5,g6⟩
def D9.G (x:D9):Prop:=x.name.size≤9223372036854775807∧(Lit.int .i64 x.charge).wf=true∧(Lit.int .i64 x.rate).wf=true
set_option maxRecDepth 100000 in
theorem B1a {n:Nat} {cs:List al} {y:DataW H × List MemPlace} (h:DataW.trod enc Tryz.prog W 0 (fun _=>true) true n 67 cs=some y):∃ a:D9,CV W cs (D9.d a)∧D9.G a:=by
 have hl:=(A3n Tryz.underlying67 h).trans (by kernel_rfl:Tryz.prog.cellsOf 67=3)
 match cs,hl with
 | [c0,c1,c2],_ =>
  obtain⟨n1,y1,f1⟩:=J8 Tryz.underlying67 h 0 _ rfl [c0] (by kernel_rfl);obtain⟨v0,o0,g0⟩:=B0Z Tryz.underlying9 f1;obtain⟨n2,y2,f2⟩:=J8 Tryz.underlying67 h 1 _ rfl [c1] (by kernel_rfl);obtain⟨v1,o1,g1⟩:=T8 Tryz.underlying3 f2;obtain⟨n3,y3,f3⟩:=J8 Tryz.underlying67 h 2 _ rfl [c2] (by kernel_rfl);obtain⟨v2,o2,g2⟩:=T8 Tryz.underlying3 f3;exact⟨⟨v0,v1,v2⟩,CVs.cv ⟨o0,o1,o2,trivial⟩,g0,g1,g2⟩
def D2.G (x:D2):Prop:=(Lit.int .i64 x.at_).wf=true∧(Lit.int .i64 x.kind).wf=true∧(Lit.int .i64 x.who).wf=true∧(Lit.int .i64 x.what).wf=true∧(Lit.int .i64 x.with_).wf=true
set_option maxRecDepth 100000 in
theorem B5g {n:Nat} {cs:List al} {y:DataW H × List MemPlace} (h:DataW.trod enc Tryz.prog W 0 (fun _=>true) true n 56 cs=some y):∃ a:D2,CV W cs (D2.d a)∧D2.G a:=by
 have hl:=(A3n Tryz.underlying56 h).trans (by kernel_rfl:Tryz.prog.cellsOf 56=5)
 match cs,hl with
 | [c0,c1,c2,c3,c4],_ =>
  obtain⟨n1,y1,f1⟩:=J8 Tryz.underlying56 h 0 _ rfl [c0] (by kernel_rfl);obtain⟨v0,o0,g0⟩:=T8 Tryz.underlying3 f1;obtain⟨n2,y2,f2⟩:=J8 Tryz.underlying56 h 1 _ rfl [c1] (by kernel_rfl);obtain⟨v1,o1,g1⟩:=T8 Tryz.underlying3 f2;obtain⟨n3,y3,f3⟩:=J8 Tryz.underlying56 h 2 _ rfl [c2] (by kernel_rfl);obtain⟨v2,o2,g2⟩:=T8 Tryz.underlying3 f3;obtain⟨n4,y4,f4⟩:=J8 Tryz.underlying56 h 3 _ rfl [c3] (by kernel_rfl);obtain⟨v3,o3,g3⟩:=T8 Tryz.underlying3 f4;obtain⟨n5,y5,f5⟩:=J8 Tryz.underlying56 h 4 _ rfl [c4] (by kernel_rfl);obtain⟨v4,o4,g4⟩:=T8 Tryz.underlying3 f5;exact⟨⟨v0,v1,v2,v3,v4⟩,CVs.cv ⟨o0,o1,o2,o3,o4,trivial⟩,g0,g1,g2,g3,g4⟩
def E0.G (x:E0):Prop:=x.name.size≤9223372036854775807∧(x.need.length≤9223372036854775807∧∀ z∈x.need,(Lit.int .i64 z).wf=true)∧(Lit.int .i64 x.least).wf=true∧(Lit.int .i64 x.most).wf=true∧True∧(x.on_.length≤9223372036854775807∧∀ z∈x.on_,(Lit.int .i64 z).wf=true)∧(x.use_.length≤9223372036854775807∧∀ z∈x.use_,(Lit.int .i64 z).wf=true)∧(x.off.length≤9223372036854775807∧∀ z∈x.off,(Lit.int .i64 z).wf=true)∧(x.acts.length≤9223372036854775807∧∀ z∈x.acts,D2.G z)
set_option maxRecDepth 100000 in
theorem B3Z {n:Nat} {cs:List al} {y:DataW H × List MemPlace} (h:DataW.trod enc Tryz.prog W 0 (fun _=>true) true n 61 cs=some y):∃ a:E0,CV W cs (E0.d a)∧E0.G a:=by
 have hl:=(A3n Tryz.underlying61 h).trans (by kernel_rfl:Tryz.prog.cellsOf 61=9)
 match cs,hl with
 | [c0,c1,c2,c3,c4,c5,c6,c7,c8],_ =>
  obtain⟨n1,y1,f1⟩:=J8 Tryz.underlying61 h 0 _ rfl [c0] (by kernel_rfl);obtain⟨v0,o0,g0⟩:=B0Z Tryz.underlying9 f1;obtain⟨n2,y2,f2⟩:=J8 Tryz.underlying61 h 1 _ rfl [c1] (by kernel_rfl);obtain⟨v1,o1,g1⟩:=A2f (size:=1) vI (fun a=>(Lit.int .i64 a).wf=true) Tryz.underlying31 (by kernel_rfl) dM (fun _=>rfl) (fun _ _ _ h=>A8c Tryz.underlying3 h) f2;obtain⟨n3,y3,f3⟩:=J8 Tryz.underlying61 h 2 _ rfl [c2] (by kernel_rfl);obtain⟨v2,o2,g2⟩:=T8 Tryz.underlying3 f3;obtain⟨n4,y4,f4⟩:=J8 Tryz.underlying61 h 3 _ rfl [c3] (by kernel_rfl);obtain⟨v3,o3,g3⟩:=T8 Tryz.underlying3 f4;obtain⟨n5,y5,f5⟩:=J8 Tryz.underlying61 h 4 _ rfl [c4] (by kernel_rfl);obtain⟨v4,o4,g4⟩:=B5N Tryz.underlying4 f5;obtain⟨n6,y6,f6⟩:=J8 Tryz.underlying61 h 5 _ rfl [c5] (by kernel_rfl);obtain⟨v5,o5,g5⟩:=A2f (size:=1) vI (fun a=>(Lit.int .i64 a).wf=true) Tryz.underlying31 (by kernel_rfl) dM (fun _=>rfl) (fun _ _ _ h=>A8c Tryz.underlying3 h) f6;obtain⟨n7,y7,f7⟩:=J8 Tryz.underlying61 h 6 _ rfl [c6] (by kernel_rfl);obtain⟨v6,o6,g6⟩:=A2f (size:=1) vI (fun a=>(Lit.int .i64 a).wf=true) Tryz.underlying31 (by kernel_rfl) dM (fun _=>rfl) (fun _ _ _ h=>A8c Tryz.underlying3 h) f7;obtain⟨n8,y8,f8⟩:=J8 Tryz.underlying61 h 7 _ rfl [c7] (by kernel_rfl);obtain⟨v7,o7,g7⟩:=A2f (size:=1) vI (fun a=>(Lit.int .i64 a).wf=true) Tryz.underlying31 (by kernel_rfl) dM (fun _=>rfl) (fun _ _ _ h=>A8c Tryz.underlying3 h) f8;obtain⟨n9,y9,f9⟩:=J8 Tryz.underlying61 h 8 _ rfl [c8] (by kernel_rfl);obtain⟨v8,o8,g8⟩:=A2f (size:=5) D2.d (fun a=>D2.G a) Tryz.underlying59 (by kernel_rfl) dM (fun _=>rfl) (fun _ _ _ h=>B5g h) f9;exact⟨⟨v0,v1,v2,v3,v4,v5,v6,v7,v8⟩,CVs.cv ⟨o0,o1,o2,o3,o4,o5,o6,o7,o8,trivial⟩,g0,g1,g2,g3,g4,g5,g6,g7,g8⟩
def D4.G (x:D4):Prop:=(x.N4.length≤9223372036854775807∧∀ z∈x.N4,F6.G z)∧(x.P5.length≤9223372036854775807∧∀ z∈x.P5,G6.G z)∧(x.N6.length≤9223372036854775807∧∀ z∈x.N6,E2.G z)∧(x.S5.length≤9223372036854775807∧∀ z∈x.S5,z.size≤9223372036854775807)∧(x.J3.length≤9223372036854775807∧∀ z∈x.J3,D1.G z)∧(Lit.int .i64 x.Q7).wf=true∧(Lit.int .i64 x.T9).wf=true∧(x.stations.length≤9223372036854775807∧∀ z∈x.stations,z.size≤9223372036854775807)∧(x.batteries.length≤9223372036854775807∧∀ z∈x.batteries,D9.G z)∧(x.steps.length≤9223372036854775807∧∀ z∈x.steps,E0.G z)∧(x.points.length≤9223372036854775807∧∀ z∈x.points,(Lit.int .i64 z).wf=true)∧(Lit.int .i64 x.Q8).wf=true∧(Lit.int .i64 x.O8).wf=true
set_option maxRecDepth 100000 in
theorem B3Y {n:Nat} {cs:List al} {y:DataW H × List MemPlace} (h:DataW.trod enc Tryz.prog W 0 (fun _=>true) true n 35 cs=some y):∃ a:D4,CV W cs (D4.d a)∧D4.G a:=by
 have hl:=(A3n Tryz.underlying35 h).trans (by kernel_rfl:Tryz.prog.cellsOf 35=13)
 match cs,hl with
 | [c0,c1,c2,c3,c4,c5,c6,c7,c8,c9,c10,c11,c12],_ =>
  obtain⟨n1,y1,f1⟩:=J8 Tryz.underlying35 h 0 _ rfl [c0,c1,c2,c3,c4,c5,c6] (by kernel_rfl);obtain⟨n2,y2,f2⟩:=J8 Tryz.underlying28 f1 0 _ rfl [c0] (by kernel_rfl);obtain⟨v0,o0,g0⟩:=A2f (size:=8) F6.d (fun a=>F6.G a) Tryz.underlying22 (by kernel_rfl) dM (fun _=>rfl) (fun _ _ _ h=>B0c h) f2;obtain⟨n3,y3,f3⟩:=J8 Tryz.underlying28 f1 1 _ rfl [c1] (by kernel_rfl);obtain⟨v1,o1,g1⟩:=A2f (size:=2) G6.d (fun a=>G6.G a) Tryz.underlying23 (by kernel_rfl) dM (fun _=>rfl) (fun _ _ _ h=>B0b h) f3;obtain⟨n4,y4,f4⟩:=J8 Tryz.underlying28 f1 2 _ rfl [c2] (by kernel_rfl);obtain⟨v2,o2,g2⟩:=A2f (size:=2) E2.d (fun a=>E2.G a) Tryz.underlying24 (by kernel_rfl) dM (fun _=>rfl) (fun _ _ _ h=>A8y h) f4;obtain⟨n5,y5,f5⟩:=J8 Tryz.underlying28 f1 3 _ rfl [c3] (by kernel_rfl);obtain⟨v3,o3,g3⟩:=A2f (size:=1) vS (fun a=>a.size≤9223372036854775807) Tryz.underlying25 (by kernel_rfl) dM (fun _=>rfl) (fun _ _ _ h=>B2Q Tryz.underlying9 h) f5;obtain⟨n6,y6,f6⟩:=J8 Tryz.underlying28 f1 4 _ rfl [c4] (by kernel_rfl);obtain⟨v4,o4,g4⟩:=A2f (size:=6) D1.d (fun a=>D1.G a) Tryz.underlying26 (by kernel_rfl) dM (fun _=>rfl) (fun _ _ _ h=>A9f h) f6;obtain⟨n7,y7,f7⟩:=J8 Tryz.underlying28 f1 5 _ rfl [c5] (by kernel_rfl);obtain⟨v5,o5,g5⟩:=T8 Tryz.underlying3 f7;obtain⟨n8,y8,f8⟩:=J8 Tryz.underlying28 f1 6 _ rfl [c6] (by kernel_rfl);obtain⟨v6,o6,g6⟩:=T8 Tryz.underlying3 f8;obtain⟨n9,y9,f9⟩:=J8 Tryz.underlying35 h 1 _ rfl [c7] (by kernel_rfl);obtain⟨v7,o7,g7⟩:=A2f (size:=1) vS (fun a=>a.size≤9223372036854775807) Tryz.underlying25 (by kernel_rfl) dM (fun _=>rfl) (fun _ _ _ h=>B2Q Tryz.underlying9 h) f9;obtain⟨n10,y10,f10⟩:=J8 Tryz.underlying35 h 2 _ rfl [c8] (by kernel_rfl);obtain⟨v8,o8,g8⟩:=A2f (size:=3) D9.d (fun a=>D9.G a) Tryz.underlying29 (by kernel_rfl) dM (fun _=>rfl) (fun _ _ _ h=>B1a h) f10;obtain⟨n11,y11,f11⟩:=J8 Tryz.underlying35 h 3 _ rfl [c9] (by kernel_rfl);obtain⟨v9,o9,g9⟩:=A2f (size:=9) E0.d (fun a=>E0.G a) Tryz.underlying30 (by kernel_rfl) dM (fun _=>rfl) (fun _ _ _ h=>B3Z h) f11;obtain⟨n12,y12,f12⟩:=J8 Tryz.underlying35 h 4 _ rfl [c10] (by kernel_rfl);obtain⟨v10,o10,g10⟩:=A2f (size:=1) vI (fun a=>(Lit.int .i64 a).wf=true) Tryz.underlying31 (by kernel_rfl) dM (fun _=>rfl) (fun _ _ _ h=>A8c Tryz.underlying3 h) f12;obtain⟨n13,y13,f13⟩:=J8 Tryz.underlying35 h 5 _ rfl [c11,c12] (by kernel_rfl);obtain⟨n14,y14,f14⟩:=J8 Tryz.underlying33 f13 0 _ rfl [c11] (by kernel_rfl);obtain⟨v11,o11,g11⟩:=T8 Tryz.underlying3 f14;obtain⟨n15,y15,f15⟩:=J8 Tryz.underlying33 f13 1 _ rfl [c12] (by kernel_rfl);obtain⟨v12,o12,g12⟩:=T8 Tryz.underlying3 f15;exact⟨⟨v0,v1,v2,v3,v4,v5,v6,v7,v8,v9,v10,v11,v12⟩,CVs.cv ⟨o0,o1,o2,o3,o4,o5,o6,o7,o8,o9,o10,o11,o12,trivial⟩,g0,g1,g2,g3,g4,g5,g6,g7,g8,g9,g10,g11,g12⟩
def C7.G (x:C7):Prop:=(Lit.int .i64 x.at_).wf=true∧(Lit.int .i64 x.kind).wf=true∧(Lit.int .i64 x.what).wf=true∧(Lit.int .i64 x.A04).wf=true∧(Lit.int .i64 x.A0D).wf=true∧(Lit.int .i64 x.A1L).wf=true∧(Lit.int .i64 x.A0E).wf=true∧(Lit.int .i64 x.A0F).wf=true
set_option maxRecDepth 100000 in
theorem B2R {n:Nat} {cs:List al} {y:DataW H × List MemPlace} (h:DataW.trod enc Tryz.prog W 0 (fun _=>true) true n 58 cs=some y):∃ a:C7,CV W cs (C7.d a)∧C7.G a:=by
 have hl:=(A3n Tryz.underlying58 h).trans (by kernel_rfl:Tryz.prog.cellsOf 58=8)
 match cs,hl with
 | [c0,c1,c2,c3,c4,c5,c6,c7],_ =>
  obtain⟨n1,y1,f1⟩:=J8 Tryz.underlying58 h 0 _ rfl [c0] (by kernel_rfl);obtain⟨v0,o0,g0⟩:=T8 Tryz.underlying3 f1;obtain⟨n2,y2,f2⟩:=J8 Tryz.underlying58 h 1 _ rfl [c1] (by kernel_rfl);obtain⟨v1,o1,g1⟩:=T8 Tryz.underlying3 f2;obtain⟨n3,y3,f3⟩:=J8 Tryz.underlying58 h 2 _ rfl [c2] (by kernel_rfl);obtain⟨v2,o2,g2⟩:=T8 Tryz.underlying3 f3;obtain⟨n4,y4,f4⟩:=J8 Tryz.underlying58 h 3 _ rfl [c3,c4,c5,c6,c7] (by kernel_rfl);obtain⟨n5,y5,f5⟩:=J8 Tryz.underlying56 f4 0 _ rfl [c3] (by kernel_rfl);obtain⟨v3,o3,g3⟩:=T8 Tryz.underlying3 f5;obtain⟨n6,y6,f6⟩:=J8 Tryz.underlying56 f4 1 _ rfl [c4] (by kernel_rfl);obtain⟨v4,o4,g4⟩:=T8 Tryz.underlying3 f6;obtain⟨n7,y7,f7⟩:=J8 Tryz.underlying56 f4 2 _ rfl [c5] (by kernel_rfl);obtain⟨v5,o5,g5⟩:=T8 Tryz.underlying3 f7;obtain⟨n8,y8,f8⟩:=J8 Tryz.underlying56 f4 3 _ rfl [c6] (by kernel_rfl);obtain⟨v6,o6,g6⟩:=T8 Tryz.underlying3 f8;obtain⟨n9,y9,f9⟩:=J8 Tryz.underlying56 f4 4 _ rfl [c7] (by kernel_rfl);obtain⟨v7,o7,g7⟩:=T8 Tryz.underlying3 f9;exact⟨⟨v0,v1,v2,v3,v4,v5,v6,v7⟩,CVs.cv ⟨o0,o1,o2,o3,o4,o5,o6,o7,trivial⟩,g0,g1,g2,g3,g4,g5,g6,g7⟩
set_option maxRecDepth 100000 in
theorem D4J {w0:Nat} {v:al} {d:DataW H} {q:List MemPlace} (hval:Value.okWide Tryz.prog W .any w0 3 v) (h:DataW.Trod enc Tryz.prog W 0 (fun _=>true) true 3 v d q):∃ a:Int,VD (gW W) (.v (.int .i64 a)) v∧(Lit.int .i64 a).wf=true:=B8V Tryz.underlying3 hval h
set_option maxRecDepth 100000 in
theorem B7T {w0:Nat} {v:al} {d:DataW H} {q:List MemPlace} (hval:Value.okWide Tryz.prog W .any w0 35 v) (h:DataW.Trod enc Tryz.prog W 0 (fun _=>true) true 35 v d q):∃ a:D4,VD (gW W) (D4.d a) v∧D4.G a:=by
 obtain⟨cs,rfl,n,x,hf⟩:=B6G Tryz.underlying35 hval h;obtain⟨a,ha,g⟩:=B3Y hf;exact⟨a,CV.agg ha,g⟩
set_option maxRecDepth 100000 in
theorem B7U {w0:Nat} {v:al} {d:DataW H} {q:List MemPlace} (hval:Value.okWide Tryz.prog W .any w0 36 v) (h:DataW.Trod enc Tryz.prog W 0 (fun _=>true) true 36 v d q):∃ a:(List C7),VD (gW W) (.arr 8 ((a).map C7.d)) v∧(a.length≤9223372036854775807∧∀ z∈a,C7.G z):=by
 obtain⟨n,x,hf⟩:=B8W Tryz.underlying36 hval h;exact A2f (size:=8) C7.d (fun a=>C7.G a) Tryz.underlying36 (by kernel_rfl) dM (fun _=>rfl) (fun _ _ _ h=>B2R h) hf
end
theorem B9B {p:D4} (g:p.G):∃ F0,∀ F,F0≤F→CtF F p:=by
 obtain⟨gz,gd,gp,gk,gq,_,_,gs,gb,gt,gn,_,_⟩:=g
 exact B9A (B8Y (p:=A1w p) (by have:=gz.1;show p.N4.length<_;omega) (by have:=gd.1;show p.P5.length<_;omega) (by have:=gp.1;show p.N6.length<_;omega) (by have:=gk.1;show p.S5.length<_;omega) (by have:=gq.1;show p.J3.length<_;omega)
  (fun x hx=>by have:=(gz.2 x hx).1;omega) (fun x hx=>by have:=(gp.2 x hx).1;omega) (fun x hx=>by have:=gk.2 x hx;omega) (fun x hx=>by have:=(gq.2 x hx).1;omega) (fun x hx=>by have:=(gq.2 x hx).2.2.2.2.2.1;omega))
  (by have:=gs.1;omega) (by have:=gb.1;omega) (by have:=gt.1;omega) (by have:=gn.1;omega) (fun x hx=>by have:=gs.2 x hx;omega) (fun x hx=>by have:=(gb.2 x hx).1;omega)
  (fun x hx=>by obtain⟨a1,a2,_,_,_,a3,a4,a5,a6⟩:=gt.2 x hx;have:=a2.1;have:=a3.1;have:=a4.1;have:=a5.1;have:=a6.1;refine⟨?_,?_,?_,?_,?_,?_⟩<;>omega)
theorem C1Z {a:Int} (h:(Lit.int .u8 a).wf=true):0≤a∧a≤255:=by
 have h:(decide ((0:Int)≤a)&&decide (a≤255))=true:=h
 rwa [Bool.and_eq_true,decide_eq_true_iff,decide_eq_true_iff]at h
theorem B7n:A7X 100=some true:=by kernel_rfl
namespace CountEarliestLaw
theorem own:ownKnob Tryz.prog.godebug=none:=by kernel_rfl
theorem B2J:laidOutB Tryz.prog=true:=by kernel_rfl
set_option maxRecDepth 100000 in
theorem B9M (os:Os) (started:os.Started) (H:Type) (enc:TypeId × al→H) :
 ReturnsInHanded {} Tryz.checked os 4 .any (Rows.countEarliestSpec.pre6 enc Tryz.prog Tryz.f4 Rows.countEarliestRow.domain false) (Rows.countEarliestSpec.post enc Tryz.prog Tryz.f4 false true false false):=by
 refine returnsInHanded_of_change_sized (C:=Tryz.checked) own started (by kernel_rfl) Tryz.func4
  (ChangeSpec.witness6 (enc:=enc) (C:=Tryz.checked) false ⟨#[],#[.agg #[.slice none 0 0,.slice none 0 0,.slice none 0 0,.slice none 0 0,.slice none 0 0,.int .i64 0,.int .i64 0,.slice none 0 0,.slice none 0 0,.slice none 0 0,.slice none 0 0,.int .i64 0,.int .i64 0],.slice none 0 0,.int .i64 0],[]⟩ 8 (by kernel_rfl) (by kernel_rfl) (by kernel_rfl) (by kernel_rfl)) ?_
 intro W base args ds gs before hval0 hW hcnd hsz0 _;have hval:∀ (j:Nat) t v,Tryz.f4.params[j]?=some t→args[j]?=some v→Value.okWide Tryz.prog W .any base t v:=hval0;have hW':=hW;obtain⟨p,q,hA0,hV,rfl,hfz,hnd⟩:=hW;have hA:DataW.TrodAll enc Tryz.prog W 0 (fun _=>true) true Tryz.f4.params.toList args.toList ds p:=hA0;rw[Tryz.params4]at hA hval;obtain⟨v0,vs0,d0,ds0,p0,q0,hargs,rfl,rfl,h0,r0⟩:=trodAll_cons hA;obtain⟨v1,vs1,d1,ds1,p1,q1,rfl,rfl,rfl,h1,r1⟩:=trodAll_cons r0;obtain⟨v2,vs2,d2,ds2,p2,q2,rfl,rfl,rfl,h2,r2⟩:=trodAll_cons r1;obtain⟨rfl,rfl,rfl⟩:=trodAll_nil r2;obtain rfl:args=#[v0,v1,v2]:=by cases args;simp_all
 obtain⟨rfl,rfl⟩:=trodVars_none hV;have k0:=h0;have lt0:∀ x∈p0,x.block<W.heap.size:=by obtain⟨m,hm⟩:=k0;exact DataW.trod_lt m _ _ _ hm
 obtain⟨a0,o0,g0⟩:=B7T (hval 0 35 v0 rfl rfl) h0;have k1:=h1;have lt1:∀ x∈p1,x.block<W.heap.size:=by obtain⟨m,hm⟩:=k1;exact DataW.trod_lt m _ _ _ hm
 obtain⟨a1,o1,g1⟩:=B7U (hval 1 36 v1 rfl rfl) h1;have k2:=h2;have lt2:∀ x∈p2,x.block<W.heap.size:=by obtain⟨m,hm⟩:=k2;exact DataW.trod_lt m _ _ _ hm
 obtain⟨a2,o2,g2⟩:=D4J (hval 2 3 v2 rfl rfl) h2;clear hA0 hval0 hsz0;obtain⟨F,hF⟩:=(by obtain⟨F,h⟩:=B9B g0;exact⟨F,D4g (h F (Nat.le_refl _)) B7n⟩:∃ F,D0n F a0 a1 a2=some true);have hw:Calls Tryz.prog 4 #[v0,v1,v2] W fun e w'=>e = .returned (.bool true)∧Below W.heap.size W w':=PC.below (ds:=[D4.d a0,.arr 8 ((a1).map C7.d),.v (.int .i64 a2)]) (vs:=[v0,v1,v2]) (D3a hF) rfl (CVs.at (ds:=[D4.d a0,.arr 8 ((a1).map C7.d),.v (.int .i64 a2)]) (cs:=[v0,v1,v2]) ⟨o0,o1,o2,trivial⟩).2;refine hw.mono fun e W' ⟨he,bel⟩=>?_;subst he;exact⟨_,rfl,_,_,_,[],_,[],hW',trodAll_mk1 (shut_bool Tryz.underlying4 _),(trodAll_cons_mk (Below.trod B2J (by kernel_rfl) (of_decide_eq_true (by kernel_rfl)) k0 bel lt0) (trodAll_cons_mk (Below.trod B2J (by kernel_rfl) (of_decide_eq_true (by kernel_rfl)) k1 bel lt1) (trodAll_cons_mk (Below.trod B2J (by kernel_rfl) (of_decide_eq_true (by kernel_rfl)) k2 bel lt2) trodAll_mk0))),rfl,bel.frame _,fun h=>by cases h⟩
theorem closed:joinedFacts Tryz.pinned.checked.prog 4 Tryz.f4 Rows.countEarliestSpec Rows.countEarliestRow=true:=by
 unfold joinedFacts;rw[C3J,C3K,C3L]
 kernel_rfl
theorem over:Rows.countEarliestRow.holds Tryz.pinned (OpenSpec.ofChange Rows.countEarliestSpec) :=
 OpenClaim.holds_of_wide 4 Tryz.f4 rfl rfl rfl rfl rfl rfl rfl ⟨rfl,rfl,rfl,rfl,rfl⟩ rfl rfl rfl rfl rfl (by kernel_rfl) Tryz.func4 closed
  (of_decide_eq_true (by kernel_rfl)) (by unfold Func.isWrapper;first | (rw[if_pos (by decide +kernel)];kernel_rfl) | (rw[if_neg (by decide +kernel)];exact⟨rfl,rfl⟩))
  (fun os started H enc _=>B9M os started H enc)
end CountEarliestLaw
theorem earliest_holds:Rows.CountEarliestSaid:=CountEarliestLaw.over
end Go.Proofs.YtlaogbbcipebgaaGreat
