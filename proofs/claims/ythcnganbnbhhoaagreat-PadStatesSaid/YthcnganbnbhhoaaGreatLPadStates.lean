/-
  Proves that the law function PadStates returns true whatever it is given, and that what it is given reads behind the call as it read before: 'PadStatesSaid'. No conditions.
-/
import Derived.Test.YthcnganbnbhhoaaGreatRows
import Derived.Test.YthcnganbnbhhoaaGreatQ15
import Derived.Test.YthcnganbnbhhoaaGreatM0
import Derived.SizedLaws
set_option linter.unusedVariables false
set_option linter.unusedSimpArgs false
namespace Go.Proofs.YthcnganbnbhhoaaGreat
open Go Go.Proofs Go.Proofs.YthcnganbnbhhoaaGreat.Sh Go.ChangeShapes Go.WideShapes Go.ChangeAt Go.RowKit
section
variable {H:Type} {enc:TypeId × Value→H} {W:World}
def A52.G (x:A52):Prop:=(Lit.int .i64 x.lo).wf=true∧(Lit.int .i64 x.hi).wf=true
set_option maxRecDepth 100000 in
theorem B6C {n:Nat} {cs:List Value} {y:DataW H × List MemPlace} (h:DataW.trod enc Tryz.prog W 0 (fun _=>true) true n 91 cs=some y):∃ a:A52,CV W cs (A52.d a)∧A52.G a:=by
 have hl:=(A2O Tryz.underlying91 h).trans (by kernel_rfl:Tryz.prog.cellsOf 91=2)
 match cs,hl with
 | [c0,c1],_ =>
  obtain⟨n1,y1,f1⟩:=P4 Tryz.underlying91 h 0 _ rfl [c0] (by kernel_rfl)
  obtain⟨v0,o0,g0⟩:=Y4 Tryz.underlying3 f1
  obtain⟨n2,y2,f2⟩:=P4 Tryz.underlying91 h 1 _ rfl [c1] (by kernel_rfl)
  obtain⟨v1,o1,g1⟩:=Y4 Tryz.underlying3 f2
  exact⟨⟨v0,v1⟩,CVs.cv ⟨o0,o1,trivial⟩,g0,g1⟩
def A8B.G (x:A8B):Prop:=(Lit.int .i64 x.A6d).wf=true∧(Lit.int .i64 x.A6c).wf=true∧(Lit.int .i64 x.A6f).wf=true∧(Lit.int .i64 x.A6e).wf=true
set_option maxRecDepth 100000 in
theorem B6B {n:Nat} {cs:List Value} {y:DataW H × List MemPlace} (h:DataW.trod enc Tryz.prog W 0 (fun _=>true) true n 93 cs=some y):∃ a:A8B,CV W cs (A8B.d a)∧A8B.G a:=by
 have hl:=(A2O Tryz.underlying93 h).trans (by kernel_rfl:Tryz.prog.cellsOf 93=4)
 match cs,hl with
 | [c0,c1,c2,c3],_ =>
  obtain⟨n1,y1,f1⟩:=P4 Tryz.underlying93 h 0 _ rfl [c0,c1] (by kernel_rfl)
  obtain⟨n2,y2,f2⟩:=P4 Tryz.underlying91 f1 0 _ rfl [c0] (by kernel_rfl)
  obtain⟨v0,o0,g0⟩:=Y4 Tryz.underlying3 f2
  obtain⟨n3,y3,f3⟩:=P4 Tryz.underlying91 f1 1 _ rfl [c1] (by kernel_rfl)
  obtain⟨v1,o1,g1⟩:=Y4 Tryz.underlying3 f3
  obtain⟨n4,y4,f4⟩:=P4 Tryz.underlying93 h 1 _ rfl [c2,c3] (by kernel_rfl)
  obtain⟨n5,y5,f5⟩:=P4 Tryz.underlying91 f4 0 _ rfl [c2] (by kernel_rfl)
  obtain⟨v2,o2,g2⟩:=Y4 Tryz.underlying3 f5
  obtain⟨n6,y6,f6⟩:=P4 Tryz.underlying91 f4 1 _ rfl [c3] (by kernel_rfl)
  obtain⟨v3,o3,g3⟩:=Y4 Tryz.underlying3 f6
  exact⟨⟨v0,v1,v2,v3⟩,CVs.cv ⟨o0,o1,o2,o3,trivial⟩,g0,g1,g2,g3⟩
def E9.G (x:E9):Prop:=x.name.size≤9223372036854775807∧(Lit.int .i64 x.F8).wf=true∧(Lit.int .i64 x.F7).wf=true∧(Lit.int .i64 x.G0).wf=true∧(Lit.int .i64 x.F9).wf=true∧(Lit.int .i64 x.grade).wf=true∧(Lit.int .i64 x.room).wf=true∧True
set_option maxRecDepth 100000 in
theorem B1k {n:Nat} {cs:List Value} {y:DataW H × List MemPlace} (h:DataW.trod enc Tryz.prog W 0 (fun _=>true) true n 96 cs=some y):∃ a:E9,CV W cs (E9.d a)∧E9.G a:=by
 have hl:=(A2O Tryz.underlying96 h).trans (by kernel_rfl:Tryz.prog.cellsOf 96=8)
 match cs,hl with
 | [c0,c1,c2,c3,c4,c5,c6,c7],_ =>
  obtain⟨n1,y1,f1⟩:=P4 Tryz.underlying96 h 0 _ rfl [c0] (by kernel_rfl)
  obtain⟨v0,o0,g0⟩:=B2r Tryz.underlying9 f1
  obtain⟨n2,y2,f2⟩:=P4 Tryz.underlying96 h 1 _ rfl [c1,c2,c3,c4] (by kernel_rfl)
  obtain⟨n3,y3,f3⟩:=P4 Tryz.underlying93 f2 0 _ rfl [c1,c2] (by kernel_rfl)
  obtain⟨n4,y4,f4⟩:=P4 Tryz.underlying91 f3 0 _ rfl [c1] (by kernel_rfl)
  obtain⟨v1,o1,g1⟩:=Y4 Tryz.underlying3 f4
  obtain⟨n5,y5,f5⟩:=P4 Tryz.underlying91 f3 1 _ rfl [c2] (by kernel_rfl)
  obtain⟨v2,o2,g2⟩:=Y4 Tryz.underlying3 f5
  obtain⟨n6,y6,f6⟩:=P4 Tryz.underlying93 f2 1 _ rfl [c3,c4] (by kernel_rfl)
  obtain⟨n7,y7,f7⟩:=P4 Tryz.underlying91 f6 0 _ rfl [c3] (by kernel_rfl)
  obtain⟨v3,o3,g3⟩:=Y4 Tryz.underlying3 f7
  obtain⟨n8,y8,f8⟩:=P4 Tryz.underlying91 f6 1 _ rfl [c4] (by kernel_rfl)
  obtain⟨v4,o4,g4⟩:=Y4 Tryz.underlying3 f8
  obtain⟨n9,y9,f9⟩:=P4 Tryz.underlying96 h 2 _ rfl [c5] (by kernel_rfl)
  obtain⟨v5,o5,g5⟩:=Y4 Tryz.underlying3 f9
  obtain⟨n10,y10,f10⟩:=P4 Tryz.underlying96 h 3 _ rfl [c6] (by kernel_rfl)
  obtain⟨v6,o6,g6⟩:=Y4 Tryz.underlying3 f10
  obtain⟨n11,y11,f11⟩:=P4 Tryz.underlying96 h 4 _ rfl [c7] (by kernel_rfl)
  obtain⟨v7,o7,g7⟩:=B2T Tryz.underlying4 f11
  exact⟨⟨v0,v1,v2,v3,v4,v5,v6,v7⟩,CVs.cv ⟨o0,o1,o2,o3,o4,o5,o6,o7,trivial⟩,g0,g1,g2,g3,g4,g5,g6,g7⟩
def I0.G (x:I0):Prop:=(Lit.int .i64 x.a).wf=true∧(Lit.int .i64 x.b).wf=true
set_option maxRecDepth 100000 in
theorem B1j {n:Nat} {cs:List Value} {y:DataW H × List MemPlace} (h:DataW.trod enc Tryz.prog W 0 (fun _=>true) true n 98 cs=some y):∃ a:I0,CV W cs (I0.d a)∧I0.G a:=by
 have hl:=(A2O Tryz.underlying98 h).trans (by kernel_rfl:Tryz.prog.cellsOf 98=2)
 match cs,hl with
 | [c0,c1],_ =>
  obtain⟨n1,y1,f1⟩:=P4 Tryz.underlying98 h 0 _ rfl [c0] (by kernel_rfl)
  obtain⟨v0,o0,g0⟩:=Y4 Tryz.underlying3 f1
  obtain⟨n2,y2,f2⟩:=P4 Tryz.underlying98 h 1 _ rfl [c1] (by kernel_rfl)
  obtain⟨v1,o1,g1⟩:=Y4 Tryz.underlying3 f2
  exact⟨⟨v0,v1⟩,CVs.cv ⟨o0,o1,trivial⟩,g0,g1⟩
def E3.G (x:E3):Prop:=x.name.size≤9223372036854775807∧(Lit.int .i64 x.grade).wf=true
set_option maxRecDepth 100000 in
theorem A92 {n:Nat} {cs:List Value} {y:DataW H × List MemPlace} (h:DataW.trod enc Tryz.prog W 0 (fun _=>true) true n 100 cs=some y):∃ a:E3,CV W cs (E3.d a)∧E3.G a:=by
 have hl:=(A2O Tryz.underlying100 h).trans (by kernel_rfl:Tryz.prog.cellsOf 100=2)
 match cs,hl with
 | [c0,c1],_ =>
  obtain⟨n1,y1,f1⟩:=P4 Tryz.underlying100 h 0 _ rfl [c0] (by kernel_rfl)
  obtain⟨v0,o0,g0⟩:=B2r Tryz.underlying9 f1
  obtain⟨n2,y2,f2⟩:=P4 Tryz.underlying100 h 1 _ rfl [c1] (by kernel_rfl)
  obtain⟨v1,o1,g1⟩:=Y4 Tryz.underlying3 f2
  exact⟨⟨v0,v1⟩,CVs.cv ⟨o0,o1,trivial⟩,g0,g1⟩
def A8H.G (x:A8H):Prop:=(Lit.int .i64 x.x).wf=true∧(Lit.int .i64 x.y).wf=true
set_option maxRecDepth 100000 in
theorem B6l {n:Nat} {cs:List Value} {y:DataW H × List MemPlace} (h:DataW.trod enc Tryz.prog W 0 (fun _=>true) true n 102 cs=some y):∃ a:A8H,CV W cs (A8H.d a)∧A8H.G a:=by
 have hl:=(A2O Tryz.underlying102 h).trans (by kernel_rfl:Tryz.prog.cellsOf 102=2)
 match cs,hl with
 | [c0,c1],_ =>
  obtain⟨n1,y1,f1⟩:=P4 Tryz.underlying102 h 0 _ rfl [c0] (by kernel_rfl)
  obtain⟨v0,o0,g0⟩:=Y4 Tryz.underlying3 f1
  obtain⟨n2,y2,f2⟩:=P4 Tryz.underlying102 h 1 _ rfl [c1] (by kernel_rfl)
  obtain⟨v1,o1,g1⟩:=Y4 Tryz.underlying3 f2
  exact⟨⟨v0,v1⟩,CVs.cv ⟨o0,o1,trivial⟩,g0,g1⟩
def C6.G (x:C6):Prop:=x.name.size≤9223372036854775807∧(Lit.int .i64 x.A0o).wf=true∧(Lit.int .i64 x.A0p).wf=true∧(Lit.int .i64 x.clear).wf=true∧(Lit.int .i64 x.grade).wf=true∧(x.keys.length≤9223372036854775807∧∀ z∈x.keys,(Lit.int .i64 z).wf=true)
set_option maxRecDepth 100000 in
theorem B0s {n:Nat} {cs:List Value} {y:DataW H × List MemPlace} (h:DataW.trod enc Tryz.prog W 0 (fun _=>true) true n 104 cs=some y):∃ a:C6,CV W cs (C6.d a)∧C6.G a:=by
 have hl:=(A2O Tryz.underlying104 h).trans (by kernel_rfl:Tryz.prog.cellsOf 104=6)
 match cs,hl with
 | [c0,c1,c2,c3,c4,c5],_ =>
  obtain⟨n1,y1,f1⟩:=P4 Tryz.underlying104 h 0 _ rfl [c0] (by kernel_rfl)
  obtain⟨v0,o0,g0⟩:=B2r Tryz.underlying9 f1
  obtain⟨n2,y2,f2⟩:=P4 Tryz.underlying104 h 1 _ rfl [c1,c2] (by kernel_rfl)
  obtain⟨n3,y3,f3⟩:=P4 Tryz.underlying102 f2 0 _ rfl [c1] (by kernel_rfl)
  obtain⟨v1,o1,g1⟩:=Y4 Tryz.underlying3 f3
  obtain⟨n4,y4,f4⟩:=P4 Tryz.underlying102 f2 1 _ rfl [c2] (by kernel_rfl)
  obtain⟨v2,o2,g2⟩:=Y4 Tryz.underlying3 f4
  obtain⟨n5,y5,f5⟩:=P4 Tryz.underlying104 h 2 _ rfl [c3] (by kernel_rfl)
  obtain⟨v3,o3,g3⟩:=Y4 Tryz.underlying3 f5
  obtain⟨n6,y6,f6⟩:=P4 Tryz.underlying104 h 3 _ rfl [c4] (by kernel_rfl)
  obtain⟨v4,o4,g4⟩:=Y4 Tryz.underlying3 f6
  obtain⟨n7,y7,f7⟩:=P4 Tryz.underlying104 h 4 _ rfl [c5] (by kernel_rfl)
  obtain⟨v5,o5,g5⟩:=A5e (size:=1) vI (fun a=>(Lit.int .i64 a).wf=true) Tryz.underlying29 (by kernel_rfl) dM (fun _=>rfl) (fun _ _ _ h=>A86 Tryz.underlying3 h) f7
  exact⟨⟨v0,v1,v2,v3,v4,v5⟩,CVs.cv ⟨o0,o1,o2,o3,o4,o5,trivial⟩,g0,g1,g2,g3,g4,g5⟩
def B0.G (x:B0):Prop:=(x.zones.length≤9223372036854775807∧∀ z∈x.zones,E9.G z)∧(x.doors.length≤9223372036854775807∧∀ z∈x.doors,I0.G z)∧(x.people.length≤9223372036854775807∧∀ z∈x.people,E3.G z)∧(x.keys.length≤9223372036854775807∧∀ z∈x.keys,z.size≤9223372036854775807)∧(x.squibs.length≤9223372036854775807∧∀ z∈x.squibs,C6.G z)∧(Lit.int .i64 x.panel).wf=true∧(Lit.int .i64 x.wait).wf=true
set_option maxRecDepth 100000 in
theorem B2t {n:Nat} {cs:List Value} {y:DataW H × List MemPlace} (h:DataW.trod enc Tryz.prog W 0 (fun _=>true) true n 28 cs=some y):∃ a:B0,CV W cs (B0.d a)∧B0.G a:=by
 have hl:=(A2O Tryz.underlying28 h).trans (by kernel_rfl:Tryz.prog.cellsOf 28=7)
 match cs,hl with
 | [c0,c1,c2,c3,c4,c5,c6],_ =>
  obtain⟨n1,y1,f1⟩:=P4 Tryz.underlying28 h 0 _ rfl [c0] (by kernel_rfl)
  obtain⟨v0,o0,g0⟩:=A5e (size:=8) E9.d (fun a=>E9.G a) Tryz.underlying22 (by kernel_rfl) dM (fun _=>rfl) (fun _ _ _ h=>B1k h) f1
  obtain⟨n2,y2,f2⟩:=P4 Tryz.underlying28 h 1 _ rfl [c1] (by kernel_rfl)
  obtain⟨v1,o1,g1⟩:=A5e (size:=2) I0.d (fun a=>I0.G a) Tryz.underlying23 (by kernel_rfl) dM (fun _=>rfl) (fun _ _ _ h=>B1j h) f2
  obtain⟨n3,y3,f3⟩:=P4 Tryz.underlying28 h 2 _ rfl [c2] (by kernel_rfl)
  obtain⟨v2,o2,g2⟩:=A5e (size:=2) E3.d (fun a=>E3.G a) Tryz.underlying24 (by kernel_rfl) dM (fun _=>rfl) (fun _ _ _ h=>A92 h) f3
  obtain⟨n4,y4,f4⟩:=P4 Tryz.underlying28 h 3 _ rfl [c3] (by kernel_rfl)
  obtain⟨v3,o3,g3⟩:=A5e (size:=1) vS (fun a=>a.size≤9223372036854775807) Tryz.underlying25 (by kernel_rfl) dM (fun _=>rfl) (fun _ _ _ h=>B5x Tryz.underlying9 h) f4
  obtain⟨n5,y5,f5⟩:=P4 Tryz.underlying28 h 4 _ rfl [c4] (by kernel_rfl)
  obtain⟨v4,o4,g4⟩:=A5e (size:=6) C6.d (fun a=>C6.G a) Tryz.underlying26 (by kernel_rfl) dM (fun _=>rfl) (fun _ _ _ h=>B0s h) f5
  obtain⟨n6,y6,f6⟩:=P4 Tryz.underlying28 h 5 _ rfl [c5] (by kernel_rfl)
  obtain⟨v5,o5,g5⟩:=Y4 Tryz.underlying3 f6
  obtain⟨n7,y7,f7⟩:=P4 Tryz.underlying28 h 6 _ rfl [c6] (by kernel_rfl)
  obtain⟨v6,o6,g6⟩:=Y4 Tryz.underlying3 f7
  exact⟨⟨v0,v1,v2,v3,v4,v5,v6⟩,CVs.cv ⟨o0,o1,o2,o3,o4,o5,o6,trivial⟩,g0,g1,g2,g3,g4,g5,g6⟩
def A6.G (x:A6):Prop:=(Lit.int .i64 x.now).wf=true∧(x.zones.length≤9223372036854775807∧∀ z∈x.zones,(Lit.int .i64 z).wf=true)∧(x.holder.length≤9223372036854775807∧∀ z∈x.holder,(Lit.int .i64 z).wf=true)∧(x.squibs.length≤9223372036854775807∧∀ z∈x.squibs,(Lit.int .i64 z).wf=true)∧(Lit.int .i64 x.siren).wf=true∧True
set_option maxRecDepth 100000 in
theorem B0t {n:Nat} {cs:List Value} {y:DataW H × List MemPlace} (h:DataW.trod enc Tryz.prog W 0 (fun _=>true) true n 31 cs=some y):∃ a:A6,CV W cs (A6.d a)∧A6.G a:=by
 have hl:=(A2O Tryz.underlying31 h).trans (by kernel_rfl:Tryz.prog.cellsOf 31=6)
 match cs,hl with
 | [c0,c1,c2,c3,c4,c5],_ =>
  obtain⟨n1,y1,f1⟩:=P4 Tryz.underlying31 h 0 _ rfl [c0] (by kernel_rfl)
  obtain⟨v0,o0,g0⟩:=Y4 Tryz.underlying3 f1
  obtain⟨n2,y2,f2⟩:=P4 Tryz.underlying31 h 1 _ rfl [c1] (by kernel_rfl)
  obtain⟨v1,o1,g1⟩:=A5e (size:=1) vI (fun a=>(Lit.int .i64 a).wf=true) Tryz.underlying29 (by kernel_rfl) dM (fun _=>rfl) (fun _ _ _ h=>A86 Tryz.underlying3 h) f2
  obtain⟨n3,y3,f3⟩:=P4 Tryz.underlying31 h 2 _ rfl [c2] (by kernel_rfl)
  obtain⟨v2,o2,g2⟩:=A5e (size:=1) vI (fun a=>(Lit.int .i64 a).wf=true) Tryz.underlying29 (by kernel_rfl) dM (fun _=>rfl) (fun _ _ _ h=>A86 Tryz.underlying3 h) f3
  obtain⟨n4,y4,f4⟩:=P4 Tryz.underlying31 h 3 _ rfl [c3] (by kernel_rfl)
  obtain⟨v3,o3,g3⟩:=A5e (size:=1) vI (fun a=>(Lit.int .i64 a).wf=true) Tryz.underlying29 (by kernel_rfl) dM (fun _=>rfl) (fun _ _ _ h=>A86 Tryz.underlying3 h) f4
  obtain⟨n5,y5,f5⟩:=P4 Tryz.underlying31 h 4 _ rfl [c4] (by kernel_rfl)
  obtain⟨v4,o4,g4⟩:=Y4 Tryz.underlying3 f5
  obtain⟨n6,y6,f6⟩:=P4 Tryz.underlying31 h 5 _ rfl [c5] (by kernel_rfl)
  obtain⟨v5,o5,g5⟩:=B2T Tryz.underlying4 f6
  exact⟨⟨v0,v1,v2,v3,v4,v5⟩,CVs.cv ⟨o0,o1,o2,o3,o4,o5,trivial⟩,g0,g1,g2,g3,g4,g5⟩
set_option maxRecDepth 100000 in
theorem B4x {w0:Nat} {v:Value} {d:DataW H} {q:List MemPlace} (hval:Value.okWide Tryz.prog W .any w0 28 v) (h:DataW.Trod enc Tryz.prog W 0 (fun _=>true) true 28 v d q):∃ a:B0,VD (gW W) (B0.d a) v∧B0.G a:=by
 obtain⟨cs,rfl,n,x,hf⟩:=B33 Tryz.underlying28 hval h
 obtain⟨a,ha,g⟩:=B2t hf
 exact⟨a,CV.agg ha,g⟩
def A6.Gw (x:A6):Prop:=x.zones.length*8≤140737488355328∧x.holder.length*8≤140737488355328∧x.squibs.length*8≤140737488355328
set_option maxRecDepth 100000 in
theorem B4y {w0:Nat} {v:Value} {d:DataW H} {q:List MemPlace} (hval:Value.okWide Tryz.prog W .any w0 31 v) (h:DataW.Trod enc Tryz.prog W 0 (fun _=>true) true 31 v d q):∃ a:A6,VD (gW W) (A6.d a) v∧A6.G a∧((∀ m∈DataW.weights Tryz.prog 31 d,m≤reachBytes)→A6.Gw a):=by
 obtain⟨cs,rfl,n,hf⟩:=B2s Tryz.underlying31 hval h
 obtain⟨a,ha,g⟩:=B0t hf
 refine⟨a,CV.agg ha,g,fun hw=>?_⟩
 obtain⟨xs,k,_,hx,_,hlen,hg⟩:=DataW.trod_struct Tryz.underlying31 hf
 have hl:=(A2O Tryz.underlying31 hf).trans (by kernel_rfl:Tryz.prog.cellsOf 31=6)
 obtain⟨cs⟩:=cs
 match cs,hl,xs,hlen with
 | [c0,c1,c2,c3,c4,c5],_,[y0,y1,y2,y3,y4,y5],_ =>
  injection hx with hx _
  exact⟨(by have:=A7d (b:=8) (y:=y1) Tryz.underlying29 (by kernel_rfl) (hg 1 _ rfl) (ha.2 1 _ _ rfl rfl) (fun m hm=>hw m (by rw[hx];simp[DataW.weights,DataW.weightsEach,Tryz.underlying31,hm]));rwa [List.length_map]at this),(by have:=A7d (b:=8) (y:=y2) Tryz.underlying29 (by kernel_rfl) (hg 2 _ rfl) (ha.2 2 _ _ rfl rfl) (fun m hm=>hw m (by rw[hx];simp[DataW.weights,DataW.weightsEach,Tryz.underlying31,hm]));rwa [List.length_map]at this),(by have:=A7d (b:=8) (y:=y3) Tryz.underlying29 (by kernel_rfl) (hg 3 _ rfl) (ha.2 3 _ _ rfl rfl) (fun m hm=>hw m (by rw[hx];simp[DataW.weights,DataW.weightsEach,Tryz.underlying31,hm]));rwa [List.length_map]at this)⟩
end
theorem B51 {p:B0} (g:p.G):∃ F0,∀ F,F0≤F→A1i F p :=
 B50 (by have:=g.1.1;omega) (by have:=g.2.1.1;omega) (by have:=g.2.2.1.1;omega) (by have:=g.2.2.2.1.1;omega) (by have:=g.2.2.2.2.1.1;omega)
  (fun x hx=>by have:=(g.1.2 x hx).1;omega) (fun x hx=>by have:=(g.2.2.1.2 x hx).1;omega) (fun x hx=>by have:=g.2.2.2.1.2 x hx;omega) (fun x hx=>by have:=(g.2.2.2.2.1.2 x hx).1;omega) (fun x hx=>by have:=(g.2.2.2.2.1.2 x hx).2.2.2.2.2.1;omega)
theorem B3O:A7r 100=some true:=by kernel_rfl
namespace PadStatesLaw
theorem own:ownKnob Tryz.prog.godebug=none:=by kernel_rfl
theorem B2O:laidOutB Tryz.prog=true:=by kernel_rfl
set_option maxRecDepth 100000 in
theorem B6h (os:Os) (started:os.Started) (H:Type) (enc:TypeId × Value→H) :
 ReturnsInHanded {} Tryz.checked os 6 .any (Rows.padStatesSpec.pre6 enc Tryz.prog Tryz.f6 Rows.padStatesRow.domain false) (Rows.padStatesSpec.post enc Tryz.prog Tryz.f6 false true false false):=by
 refine returnsInHanded_of_change_sized (C:=Tryz.checked) own started (by kernel_rfl) Tryz.func6
  (ChangeSpec.witness6 (enc:=enc) (C:=Tryz.checked) false ⟨#[],#[.agg #[.slice none 0 0,.slice none 0 0,.slice none 0 0,.slice none 0 0,.slice none 0 0,.int .i64 0,.int .i64 0],.agg #[.int .i64 0,.slice none 0 0,.slice none 0 0,.slice none 0 0,.int .i64 0,.bool false]],[]⟩ 8 (by kernel_rfl) (by kernel_rfl) (by kernel_rfl) (by kernel_rfl)) ?_
 intro W base args ds gs before hval0 hW hcnd hsz0 _
 have hval:∀ (j:Nat) t v,Tryz.f6.params[j]?=some t→args[j]?=some v→Value.okWide Tryz.prog W .any base t v:=hval0
 have hW':=hW
 obtain⟨p,q,hA0,hV,rfl,hfz,hnd⟩:=hW
 have hA:DataW.TrodAll enc Tryz.prog W 0 (fun _=>true) true Tryz.f6.params.toList args.toList ds p:=hA0
 have hsz:(DataW.weightsEach Tryz.prog (Tryz.f6.params.toList++Rows.padStatesSpec.plain.varTypes Tryz.prog) (ds++gs)).all (·≤reachBytes)=true:=hsz0
 rw[Tryz.params6]at hA hval hsz
 obtain⟨v0,vs0,d0,ds0,p0,q0,hargs,rfl,rfl,h0,r0⟩:=trodAll_cons hA
 obtain⟨v1,vs1,d1,ds1,p1,q1,rfl,rfl,rfl,h1,r1⟩:=trodAll_cons r0
 obtain⟨rfl,rfl,rfl⟩:=trodAll_nil r1
 obtain rfl:args=#[v0,v1]:=by cases args;simp_all
 obtain⟨rfl,rfl⟩:=trodVars_none hV
 have k0:=h0
 have lt0:∀ x∈p0,x.block<W.heap.size:=by obtain⟨m,hm⟩:=k0;exact DataW.trod_lt m _ _ _ hm
 obtain⟨a0,o0,g0⟩:=B4x (hval 0 28 v0 rfl rfl) h0
 have k1:=h1
 have lt1:∀ x∈p1,x.block<W.heap.size:=by obtain⟨m,hm⟩:=k1;exact DataW.trod_lt m _ _ _ hm
 obtain⟨a1,o1,g1,gw1⟩:=B4y (hval 1 31 v1 rfl rfl) h1
 have gw1:=gw1 fun m hm=>by have:=List.all_eq_true.1 hsz m (DataW.weights_mem_each (j:=1) (t:=31) rfl rfl m hm);simpa using this
 clear hA0 hval0 hsz0
 obtain⟨F,hF⟩:=(by obtain⟨F1,h1⟩:=B51 g0;obtain⟨F2,h2⟩:=B62 a1 gw1;exact⟨F1+F2+1001,B29 oM (h1 _ oM) (h2 _ oM) B3O⟩:∃ F,A2W F a0 a1=some true)
 have hw:Calls Tryz.prog 6 #[v0,v1] W fun e w'=>e = .returned (.bool true)∧Below W.heap.size W w':=PC.below (ds:=[B0.d a0,A6.d a1]) (vs:=[v0,v1]) (A8S hF) rfl (CVs.at (ds:=[B0.d a0,A6.d a1]) (cs:=[v0,v1]) ⟨o0,o1,trivial⟩).2
 refine hw.mono fun e W' ⟨he,bel⟩=>?_
 subst he
 exact⟨_,rfl,_,_,_,[],_,[],hW',trodAll_mk1 (shut_bool Tryz.underlying4 _),(trodAll_cons_mk (Below.trod B2O (by kernel_rfl) (of_decide_eq_true (by kernel_rfl)) k0 bel lt0) (trodAll_cons_mk (Below.trod B2O (by kernel_rfl) (of_decide_eq_true (by kernel_rfl)) k1 bel lt1) trodAll_mk0)),rfl,bel.frame _,fun h=>by cases h⟩
theorem closed:joinedFacts Tryz.pinned.checked.prog 6 Tryz.f6 Rows.padStatesSpec Rows.padStatesRow=true:=by
 unfold joinedFacts
 rw[B7m,B7n,B7o]
 kernel_rfl
theorem over:Rows.padStatesRow.holds Tryz.pinned (OpenSpec.ofChange Rows.padStatesSpec) :=
 OpenClaim.holds_of_wide 6 Tryz.f6 rfl rfl rfl rfl rfl rfl rfl ⟨rfl,rfl,rfl,rfl,rfl⟩ rfl rfl rfl rfl rfl (by kernel_rfl) Tryz.func6 closed
  (of_decide_eq_true (by kernel_rfl)) (by unfold Func.isWrapper;first | (rw[if_pos (by decide +kernel)];kernel_rfl) | (rw[if_neg (by decide +kernel)];exact⟨rfl,rfl⟩))
  (fun os started H enc _=>B6h os started H enc)
end PadStatesLaw
theorem states_holds:Rows.PadStatesSaid:=PadStatesLaw.over
end Go.Proofs.YthcnganbnbhhoaaGreat
