/- The types of the program as a table, its structs in plain words. -/
import Derived.Test.YthcnganbnbhhoaaGreatProg
import Derived.KernelRfl
import Derived.Test.YthcnganbnbhhoaaGreatSa6
set_option linter.unusedVariables false
set_option linter.unusedSimpArgs false
open Go Go.Proofs.YthcnganbnbhhoaaGreat.Sh Go.Proofs
namespace Go.Proofs.YthcnganbnbhhoaaGreat
set_option maxRecDepth 100000
def tyl:List (Nat × TI):=[(3,.mk false 1 8 (T.d (D.v (Value.int IntKind.i64 0))) none [] none true),
 (4,.mk false 1 1 (T.d (D.v (Value.bool false))) none [] none true),
 (5,.mk false 1 1 (T.d (D.v (Value.int IntKind.u8 0))) none [] none true),
 (9,.mk false 1 16 (T.d (D.v (Value.string (ByteArray.mk (Array.mk []))))) none [] none true),
 (22,.mk false 1 24 (T.d (D.v (Value.slice none 0 0))) (some 96) [] none true),
 (23,.mk false 1 24 (T.d (D.v (Value.slice none 0 0))) (some 98) [] none true),
 (24,.mk false 1 24 (T.d (D.v (Value.slice none 0 0))) (some 100) [] none true),
 (25,.mk false 1 24 (T.d (D.v (Value.slice none 0 0))) (some 9) [] none true),
 (26,.mk false 1 24 (T.d (D.v (Value.slice none 0 0))) (some 104) [] none true),
 (28,.mk true 7 136 (T.d (D.agg [D.v (Value.slice none 0 0),D.v (Value.slice none 0 0),D.v (Value.slice none 0 0),D.v (Value.slice none 0 0),D.v (Value.slice none 0 0),D.v (Value.int IntKind.i64 0),D.v (Value.int IntKind.i64 0)])) none [(0,false,1),(1,false,1),(2,false,1),(3,false,1),(4,false,1),(5,false,1),(6,false,1)] none true),
 (29,.mk false 1 24 (T.d (D.v (Value.slice none 0 0))) (some 3) [] none true),
 (31,.mk true 6 96 (T.d (D.agg [D.v (Value.int IntKind.i64 0),D.v (Value.slice none 0 0),D.v (Value.slice none 0 0),D.v (Value.slice none 0 0),D.v (Value.int IntKind.i64 0),D.v (Value.bool false)])) none [(0,false,1),(1,false,1),(2,false,1),(3,false,1),(4,false,1),(5,false,1)] none true),
 (32,.mk false 1 24 (T.d (D.v (Value.slice none 0 0))) (some 42) [] none true),
 (33,.mk false 1 24 (T.d (D.v (Value.slice none 0 0))) (some 34) [] none true),
 (34,.mk false 1 8 (T.d (D.v (Value.int IntKind.i64 0))) none [] none true),
 (42,.mk true 5 40 (T.d (D.agg [D.v (Value.int IntKind.i64 0),D.v (Value.int IntKind.i64 0),D.v (Value.int IntKind.i64 0),D.v (Value.int IntKind.i64 0),D.v (Value.int IntKind.i64 0)])) none [(0,false,1),(1,false,1),(2,false,1),(3,false,1),(4,false,1)] none true),
 (52,.mk false 1 24 (T.d (D.v (Value.slice none 0 0))) (some 56) [] none true),
 (56,.mk true 2 16 (T.d (D.agg [D.v (Value.int IntKind.i64 0),D.v (Value.int IntKind.i64 0)])) none [(0,false,1),(1,false,1)] none true),
 (60,.mk true 13 232 (T.d (D.agg [D.v (Value.slice none 0 0),D.v (Value.slice none 0 0),D.v (Value.slice none 0 0),D.v (Value.slice none 0 0),D.v (Value.slice none 0 0),D.v (Value.int IntKind.i64 0),D.v (Value.int IntKind.i64 0),D.v (Value.int IntKind.i64 0),D.v (Value.slice none 0 0),D.v (Value.slice none 0 0),D.v (Value.slice none 0 0),D.v (Value.int IntKind.i64 0),D.v (Value.bool false)])) none [(0,true,7),(7,true,6)] none true),
 (61,.mk false 1 8 (T.d (D.v (Value.pointer none))) none [] none true),
 (81,.mk false 1 8 (T.d (D.v Value.nilFunc)) none [] none true),
 (86,.mk false 1 8 (T.d (D.v Value.nilFunc)) none [] none true),
 (87,.mk true 10 80 (T.d (D.agg [D.v Value.nilFunc,D.v Value.nilFunc,D.v Value.nilFunc,D.v Value.nilFunc,D.v Value.nilFunc,D.v Value.nilFunc,D.v Value.nilFunc,D.v Value.nilFunc,D.v Value.nilFunc,D.v Value.nilFunc])) none [] (some (10,86)) true),
 (91,.mk true 2 16 (T.d (D.agg [D.v (Value.int IntKind.i64 0),D.v (Value.int IntKind.i64 0)])) none [(0,false,1),(1,false,1)] none true),
 (93,.mk true 4 32 (T.d (D.agg [D.v (Value.int IntKind.i64 0),D.v (Value.int IntKind.i64 0),D.v (Value.int IntKind.i64 0),D.v (Value.int IntKind.i64 0)])) none [(0,true,2),(2,true,2)] none true),
 (96,.mk true 8 72 (T.d (D.agg [D.v (Value.string (ByteArray.mk (Array.mk []))),D.v (Value.int IntKind.i64 0),D.v (Value.int IntKind.i64 0),D.v (Value.int IntKind.i64 0),D.v (Value.int IntKind.i64 0),D.v (Value.int IntKind.i64 0),D.v (Value.int IntKind.i64 0),D.v (Value.bool false)])) none [(0,false,1),(1,true,4),(5,false,1),(6,false,1),(7,false,1)] none true),
 (98,.mk true 2 16 (T.d (D.agg [D.v (Value.int IntKind.i64 0),D.v (Value.int IntKind.i64 0)])) none [(0,false,1),(1,false,1)] none true),
 (100,.mk true 2 24 (T.d (D.agg [D.v (Value.string (ByteArray.mk (Array.mk []))),D.v (Value.int IntKind.i64 0)])) none [(0,false,1),(1,false,1)] none true),
 (102,.mk true 2 16 (T.d (D.agg [D.v (Value.int IntKind.i64 0),D.v (Value.int IntKind.i64 0)])) none [(0,false,1),(1,false,1)] none true),
 (104,.mk true 6 72 (T.d (D.agg [D.v (Value.string (ByteArray.mk (Array.mk []))),D.v (Value.int IntKind.i64 0),D.v (Value.int IntKind.i64 0),D.v (Value.int IntKind.i64 0),D.v (Value.int IntKind.i64 0),D.v (Value.slice none 0 0)])) none [(0,false,1),(1,true,2),(3,false,1),(4,false,1),(5,false,1)] none true),
 (107,.mk false 1 8 (T.d (D.v Value.nilFunc)) none [] none true),
 (108,.mk false 1 8 (T.d (D.v Value.nilFunc)) none [] none true),
 (110,.mk false 1 8 (T.d (D.v Value.nilFunc)) none [] none true),
 (111,.mk false 1 8 (T.d (D.v Value.nilFunc)) none [] none true),
 (112,.mk false 1 8 (T.d (D.v Value.nilFunc)) none [] none true),
 (114,.mk false 1 8 (T.d (D.v Value.nilFunc)) none [] none true),
 (115,.mk false 1 8 (T.d (D.v Value.nilFunc)) none [] none true),
 (117,.mk false 1 8 (T.d (D.v Value.nilFunc)) none [] none true),
 (119,.mk false 1 8 (T.d (D.v Value.nilFunc)) none [] none true),
 (129,.mk false 1 8 (T.d (D.v (Value.int IntKind.u64 0))) none [] none true),
 (145,.mk false 1 8 (T.d (D.v Value.nilFunc)) none [] none true),
 (149,.mk false 1 8 (T.d (D.v (Value.int IntKind.u64 0))) none [] none true),
 (152,.mk false 1 24 (T.d (D.v (Value.slice none 0 0))) (some 5) [] none true)]
theorem B65:tyl.map (fun p=>B4N Tryz.prog p.1)=tyl.map (fun p=>some p.2):=by kernel_rfl
def tb:Tab Tryz.prog := .mk' tyl B65
theorem H0 {α β:Type} {o:Option α} {f:α→Option β} {r:β} (h:Option.bind o f=some r):∃ x,o=some x∧f x=some r:=Option.bind_eq_some_iff.1 h
theorem H1 {c:Prop} [Decidable c] {α:Type} {x y r:α} (k:c) (h:(if c then x else y)=r):x=r:=(if_pos k).symm.trans h
theorem J0 {c:Prop} [Decidable c] {α:Type} {x y r:α} (k:¬ c) (h:(if c then x else y)=r):y=r:=(if_neg k).symm.trans h
theorem X9 {b:Bool} {α:Type} {x y r:α} (k:b=false) (h:(if b=true then x else y)=r):y=r:=(if_neg (by rw[k];exact Bool.false_ne_true)).symm.trans h
theorem Q2 {P:Program} {fn:Func} {n0:Nat} {rs:List ResultVar} {us:List T} {st:St} {y t:T} (h0:Nat.beq n0 0=true) (hres:fn.results.toList=rs) (ht:t.sc 0=true) (h:A6E P st rs us) (hu:B2B us=t.ren (kap []):=by rfl) (hy:t=y:=by rfl):Fin P fn n0 (fun se L'=>se = .ret y∧L'=[]) .ret st:=by
 obtain rfl:=Nat.eq_of_beq_eq_true h0
 subst hy
 exact L8 (t:=t) (L:=[]) (κ:=[]) hres h (vwK rfl rfl .nil (.cons hu ht .nil)) ⟨rfl,rfl⟩
theorem R {α:Sort _} {a:α}:a=a:=rfl
theorem eN {P:Program} {N:Nat} {K:St→Prop} {Q:SX→St→Prop} {ops:Array Oper} {tr:List Stp} {st:St} (h:K st):J5 P N ops [] st tr (B3U (A4f K Q .norm)):=L5 (A1 h)
theorem qG {P:Program} {n0 N:Nat} {df:List Deferred} {Q:SX→St→Prop} {st:St} {id:Nat} {l:List Oper} {y:Code} (h:J5 P N l.toArray l st [] (B3U (A4f (SW P n0 N df y Q) Q .norm))):SW P n0 N df (.seq (.region id l.toArray false) y) Q st:=B8 (E5 h)
theorem sI {α:Type} {a b:α} (h:some a=some b):a=b:=Option.some.inj h
theorem eK {P:Program} {f:FuncId} (h:B6d P f=true:=by kernel_rfl):Ent P f := .of h
theorem dL {L:List (Option Rw)} {ts:List T} {x:D} {ds:List D} (k:A2P L ts ds):A2P L (.d x::ts) (x::ds) := .cons (.d x) k
theorem kR {α:Sort _} {a b:α} (h:a=b:=by kernel_rfl):a=b:=h
abbrev bx (n:Nat) (t:T):Option Rw:=some ⟨n,[t]⟩
abbrev c1 (x:D):Option Rw:=some ⟨1,[.d x]⟩
theorem O7 {L:List (Option Rw)} {κ:List Nat} {α1:Type} {k1 s1:Nat} {v1:List α1} {f1:α1→D} (h1:L[k1]?=some (some ⟨s1,v1.map fun a => .d (f1 a)⟩):=by rfl):RwK L κ [some ⟨s1,v1.map fun a => .d (f1 a)⟩] [k1] := .row h1 (.nil)
theorem A14 {L:List (Option Rw)} {κ:List Nat} {α1:Type} {k1 s1:Nat} {v1:List α1} {f1:α1→D} (h1:L[k1]?=some (some ⟨s1,v1.map fun a => .d (f1 a)⟩):=by rfl):RwO L κ [some ⟨s1,v1.map fun a => .d (f1 a)⟩] [k1] [⟨s1,v1.map fun a => .d (f1 a)⟩] := .row h1 (.nil)
theorem B7a {L:List (Option Rw)} {κ:List Nat} {α1:Type} {k1 s1:Nat} {v1:List α1} {f1:α1→D} {α2:Type} {k2 s2:Nat} {v2:List α2} {f2:α2→D} (h1:L[k1]?=some (some ⟨s1,v1.map fun a => .d (f1 a)⟩):=by rfl) (h2:L[k2]?=some (some ⟨s2,v2.map fun a => .d (f2 a)⟩):=by rfl):RwK L κ [some ⟨s1,v1.map fun a => .d (f1 a)⟩,some ⟨s2,v2.map fun a => .d (f2 a)⟩] [k1,k2] := .row h1 (.row h2 (.nil))
theorem B7A {L:List (Option Rw)} {κ:List Nat} {α1:Type} {k1 s1:Nat} {v1:List α1} {f1:α1→D} {α2:Type} {k2 s2:Nat} {v2:List α2} {f2:α2→D} (h1:L[k1]?=some (some ⟨s1,v1.map fun a => .d (f1 a)⟩):=by rfl) (h2:L[k2]?=some (some ⟨s2,v2.map fun a => .d (f2 a)⟩):=by rfl):RwO L κ [some ⟨s1,v1.map fun a => .d (f1 a)⟩,some ⟨s2,v2.map fun a => .d (f2 a)⟩] [k1,k2] [⟨s1,v1.map fun a => .d (f1 a)⟩,⟨s2,v2.map fun a => .d (f2 a)⟩] := .row h1 (.row h2 (.nil))
theorem V8 {L:List (Option Rw)} {κ:List Nat} {α1:Type} {k1 s1:Nat} {v1:List α1} {f1:α1→D} {α2:Type} {k2 s2:Nat} {v2:List α2} {f2:α2→D} {α3:Type} {k3 s3:Nat} {v3:List α3} {f3:α3→D} (h1:L[k1]?=some (some ⟨s1,v1.map fun a => .d (f1 a)⟩):=by rfl) (h2:L[k2]?=some (some ⟨s2,v2.map fun a => .d (f2 a)⟩):=by rfl) (h3:L[k3]?=some (some ⟨s3,v3.map fun a => .d (f3 a)⟩):=by rfl):RwK L κ [some ⟨s1,v1.map fun a => .d (f1 a)⟩,some ⟨s2,v2.map fun a => .d (f2 a)⟩,some ⟨s3,v3.map fun a => .d (f3 a)⟩] [k1,k2,k3] := .row h1 (.row h2 (.row h3 (.nil)))
theorem A1A {L:List (Option Rw)} {κ:List Nat} {α1:Type} {k1 s1:Nat} {v1:List α1} {f1:α1→D} {α2:Type} {k2 s2:Nat} {v2:List α2} {f2:α2→D} {α3:Type} {k3 s3:Nat} {v3:List α3} {f3:α3→D} (h1:L[k1]?=some (some ⟨s1,v1.map fun a => .d (f1 a)⟩):=by rfl) (h2:L[k2]?=some (some ⟨s2,v2.map fun a => .d (f2 a)⟩):=by rfl) (h3:L[k3]?=some (some ⟨s3,v3.map fun a => .d (f3 a)⟩):=by rfl):RwO L κ [some ⟨s1,v1.map fun a => .d (f1 a)⟩,some ⟨s2,v2.map fun a => .d (f2 a)⟩,some ⟨s3,v3.map fun a => .d (f3 a)⟩] [k1,k2,k3] [⟨s1,v1.map fun a => .d (f1 a)⟩,⟨s2,v2.map fun a => .d (f2 a)⟩,⟨s3,v3.map fun a => .d (f3 a)⟩] := .row h1 (.row h2 (.row h3 (.nil)))
theorem B1I {L:List (Option Rw)} {κ:List Nat} {α1:Type} {k1 s1:Nat} {v1:List α1} {f1:α1→D} {α2:Type} {k2 s2:Nat} {v2:List α2} {f2:α2→D} {α3:Type} {k3 s3:Nat} {v3:List α3} {f3:α3→D} {α4:Type} {k4 s4:Nat} {v4:List α4} {f4:α4→D} (h1:L[k1]?=some (some ⟨s1,v1.map fun a => .d (f1 a)⟩):=by rfl) (h2:L[k2]?=some (some ⟨s2,v2.map fun a => .d (f2 a)⟩):=by rfl) (h3:L[k3]?=some (some ⟨s3,v3.map fun a => .d (f3 a)⟩):=by rfl) (h4:L[k4]?=some (some ⟨s4,v4.map fun a => .d (f4 a)⟩):=by rfl):RwK L κ [some ⟨s1,v1.map fun a => .d (f1 a)⟩,some ⟨s2,v2.map fun a => .d (f2 a)⟩,some ⟨s3,v3.map fun a => .d (f3 a)⟩,some ⟨s4,v4.map fun a => .d (f4 a)⟩] [k1,k2,k3,k4] := .row h1 (.row h2 (.row h3 (.row h4 (.nil))))
theorem B7B {L:List (Option Rw)} {κ:List Nat} {α1:Type} {k1 s1:Nat} {v1:List α1} {f1:α1→D} {α2:Type} {k2 s2:Nat} {v2:List α2} {f2:α2→D} {α3:Type} {k3 s3:Nat} {v3:List α3} {f3:α3→D} {α4:Type} {k4 s4:Nat} {v4:List α4} {f4:α4→D} (h1:L[k1]?=some (some ⟨s1,v1.map fun a => .d (f1 a)⟩):=by rfl) (h2:L[k2]?=some (some ⟨s2,v2.map fun a => .d (f2 a)⟩):=by rfl) (h3:L[k3]?=some (some ⟨s3,v3.map fun a => .d (f3 a)⟩):=by rfl) (h4:L[k4]?=some (some ⟨s4,v4.map fun a => .d (f4 a)⟩):=by rfl):RwO L κ [some ⟨s1,v1.map fun a => .d (f1 a)⟩,some ⟨s2,v2.map fun a => .d (f2 a)⟩,some ⟨s3,v3.map fun a => .d (f3 a)⟩,some ⟨s4,v4.map fun a => .d (f4 a)⟩] [k1,k2,k3,k4] [⟨s1,v1.map fun a => .d (f1 a)⟩,⟨s2,v2.map fun a => .d (f2 a)⟩,⟨s3,v3.map fun a => .d (f3 a)⟩,⟨s4,v4.map fun a => .d (f4 a)⟩] := .row h1 (.row h2 (.row h3 (.row h4 (.nil))))
theorem B76 {L:List (Option Rw)} {κ:List Nat} {α1:Type} {k1 s1:Nat} {v1:List α1} {f1:α1→D} {α2:Type} {k2 s2:Nat} {v2:List α2} {f2:α2→D} {α3:Type} {k3 s3:Nat} {v3:List α3} {f3:α3→D} {α4:Type} {k4 s4:Nat} {v4:List α4} {f4:α4→D} {α5:Type} {k5 s5:Nat} {v5:List α5} {f5:α5→D} (h1:L[k1]?=some (some ⟨s1,v1.map fun a => .d (f1 a)⟩):=by rfl) (h2:L[k2]?=some (some ⟨s2,v2.map fun a => .d (f2 a)⟩):=by rfl) (h3:L[k3]?=some (some ⟨s3,v3.map fun a => .d (f3 a)⟩):=by rfl) (h4:L[k4]?=some (some ⟨s4,v4.map fun a => .d (f4 a)⟩):=by rfl) (h5:L[k5]?=some (some ⟨s5,v5.map fun a => .d (f5 a)⟩):=by rfl):RwK L κ [some ⟨s1,v1.map fun a => .d (f1 a)⟩,some ⟨s2,v2.map fun a => .d (f2 a)⟩,some ⟨s3,v3.map fun a => .d (f3 a)⟩,some ⟨s4,v4.map fun a => .d (f4 a)⟩,some ⟨s5,v5.map fun a => .d (f5 a)⟩] [k1,k2,k3,k4,k5] := .row h1 (.row h2 (.row h3 (.row h4 (.row h5 (.nil)))))
theorem B7C {L:List (Option Rw)} {κ:List Nat} {α1:Type} {k1 s1:Nat} {v1:List α1} {f1:α1→D} {α2:Type} {k2 s2:Nat} {v2:List α2} {f2:α2→D} {α3:Type} {k3 s3:Nat} {v3:List α3} {f3:α3→D} {α4:Type} {k4 s4:Nat} {v4:List α4} {f4:α4→D} {α5:Type} {k5 s5:Nat} {v5:List α5} {f5:α5→D} (h1:L[k1]?=some (some ⟨s1,v1.map fun a => .d (f1 a)⟩):=by rfl) (h2:L[k2]?=some (some ⟨s2,v2.map fun a => .d (f2 a)⟩):=by rfl) (h3:L[k3]?=some (some ⟨s3,v3.map fun a => .d (f3 a)⟩):=by rfl) (h4:L[k4]?=some (some ⟨s4,v4.map fun a => .d (f4 a)⟩):=by rfl) (h5:L[k5]?=some (some ⟨s5,v5.map fun a => .d (f5 a)⟩):=by rfl):RwO L κ [some ⟨s1,v1.map fun a => .d (f1 a)⟩,some ⟨s2,v2.map fun a => .d (f2 a)⟩,some ⟨s3,v3.map fun a => .d (f3 a)⟩,some ⟨s4,v4.map fun a => .d (f4 a)⟩,some ⟨s5,v5.map fun a => .d (f5 a)⟩] [k1,k2,k3,k4,k5] [⟨s1,v1.map fun a => .d (f1 a)⟩,⟨s2,v2.map fun a => .d (f2 a)⟩,⟨s3,v3.map fun a => .d (f3 a)⟩,⟨s4,v4.map fun a => .d (f4 a)⟩,⟨s5,v5.map fun a => .d (f5 a)⟩] := .row h1 (.row h2 (.row h3 (.row h4 (.row h5 (.nil)))))
theorem B77 {L:List (Option Rw)} {κ:List Nat} {α1:Type} {k1 s1:Nat} {v1:List α1} {f1:α1→D} {α2:Type} {k2 s2:Nat} {v2:List α2} {f2:α2→D} {α3:Type} {k3 s3:Nat} {v3:List α3} {f3:α3→D} {α4:Type} {k4 s4:Nat} {v4:List α4} {f4:α4→D} {α5:Type} {k5 s5:Nat} {v5:List α5} {f5:α5→D} {α6:Type} {k6 s6:Nat} {v6:List α6} {f6:α6→D} (h1:L[k1]?=some (some ⟨s1,v1.map fun a => .d (f1 a)⟩):=by rfl) (h2:L[k2]?=some (some ⟨s2,v2.map fun a => .d (f2 a)⟩):=by rfl) (h3:L[k3]?=some (some ⟨s3,v3.map fun a => .d (f3 a)⟩):=by rfl) (h4:L[k4]?=some (some ⟨s4,v4.map fun a => .d (f4 a)⟩):=by rfl) (h5:L[k5]?=some (some ⟨s5,v5.map fun a => .d (f5 a)⟩):=by rfl) (h6:L[k6]?=some (some ⟨s6,v6.map fun a => .d (f6 a)⟩):=by rfl):RwK L κ [some ⟨s1,v1.map fun a => .d (f1 a)⟩,some ⟨s2,v2.map fun a => .d (f2 a)⟩,some ⟨s3,v3.map fun a => .d (f3 a)⟩,some ⟨s4,v4.map fun a => .d (f4 a)⟩,some ⟨s5,v5.map fun a => .d (f5 a)⟩,some ⟨s6,v6.map fun a => .d (f6 a)⟩] [k1,k2,k3,k4,k5,k6] := .row h1 (.row h2 (.row h3 (.row h4 (.row h5 (.row h6 (.nil))))))
theorem B7D {L:List (Option Rw)} {κ:List Nat} {α1:Type} {k1 s1:Nat} {v1:List α1} {f1:α1→D} {α2:Type} {k2 s2:Nat} {v2:List α2} {f2:α2→D} {α3:Type} {k3 s3:Nat} {v3:List α3} {f3:α3→D} {α4:Type} {k4 s4:Nat} {v4:List α4} {f4:α4→D} {α5:Type} {k5 s5:Nat} {v5:List α5} {f5:α5→D} {α6:Type} {k6 s6:Nat} {v6:List α6} {f6:α6→D} (h1:L[k1]?=some (some ⟨s1,v1.map fun a => .d (f1 a)⟩):=by rfl) (h2:L[k2]?=some (some ⟨s2,v2.map fun a => .d (f2 a)⟩):=by rfl) (h3:L[k3]?=some (some ⟨s3,v3.map fun a => .d (f3 a)⟩):=by rfl) (h4:L[k4]?=some (some ⟨s4,v4.map fun a => .d (f4 a)⟩):=by rfl) (h5:L[k5]?=some (some ⟨s5,v5.map fun a => .d (f5 a)⟩):=by rfl) (h6:L[k6]?=some (some ⟨s6,v6.map fun a => .d (f6 a)⟩):=by rfl):RwO L κ [some ⟨s1,v1.map fun a => .d (f1 a)⟩,some ⟨s2,v2.map fun a => .d (f2 a)⟩,some ⟨s3,v3.map fun a => .d (f3 a)⟩,some ⟨s4,v4.map fun a => .d (f4 a)⟩,some ⟨s5,v5.map fun a => .d (f5 a)⟩,some ⟨s6,v6.map fun a => .d (f6 a)⟩] [k1,k2,k3,k4,k5,k6] [⟨s1,v1.map fun a => .d (f1 a)⟩,⟨s2,v2.map fun a => .d (f2 a)⟩,⟨s3,v3.map fun a => .d (f3 a)⟩,⟨s4,v4.map fun a => .d (f4 a)⟩,⟨s5,v5.map fun a => .d (f5 a)⟩,⟨s6,v6.map fun a => .d (f6 a)⟩] := .row h1 (.row h2 (.row h3 (.row h4 (.row h5 (.row h6 (.nil))))))
theorem B78 {L:List (Option Rw)} {κ:List Nat} {α1:Type} {k1 s1:Nat} {v1:List α1} {f1:α1→D} {α2:Type} {k2 s2:Nat} {v2:List α2} {f2:α2→D} {α3:Type} {k3 s3:Nat} {v3:List α3} {f3:α3→D} {α4:Type} {k4 s4:Nat} {v4:List α4} {f4:α4→D} {α5:Type} {k5 s5:Nat} {v5:List α5} {f5:α5→D} {α6:Type} {k6 s6:Nat} {v6:List α6} {f6:α6→D} {α7:Type} {k7 s7:Nat} {v7:List α7} {f7:α7→D} (h1:L[k1]?=some (some ⟨s1,v1.map fun a => .d (f1 a)⟩):=by rfl) (h2:L[k2]?=some (some ⟨s2,v2.map fun a => .d (f2 a)⟩):=by rfl) (h3:L[k3]?=some (some ⟨s3,v3.map fun a => .d (f3 a)⟩):=by rfl) (h4:L[k4]?=some (some ⟨s4,v4.map fun a => .d (f4 a)⟩):=by rfl) (h5:L[k5]?=some (some ⟨s5,v5.map fun a => .d (f5 a)⟩):=by rfl) (h6:L[k6]?=some (some ⟨s6,v6.map fun a => .d (f6 a)⟩):=by rfl) (h7:L[k7]?=some (some ⟨s7,v7.map fun a => .d (f7 a)⟩):=by rfl):RwK L κ [some ⟨s1,v1.map fun a => .d (f1 a)⟩,some ⟨s2,v2.map fun a => .d (f2 a)⟩,some ⟨s3,v3.map fun a => .d (f3 a)⟩,some ⟨s4,v4.map fun a => .d (f4 a)⟩,some ⟨s5,v5.map fun a => .d (f5 a)⟩,some ⟨s6,v6.map fun a => .d (f6 a)⟩,some ⟨s7,v7.map fun a => .d (f7 a)⟩] [k1,k2,k3,k4,k5,k6,k7] := .row h1 (.row h2 (.row h3 (.row h4 (.row h5 (.row h6 (.row h7 (.nil)))))))
theorem B7E {L:List (Option Rw)} {κ:List Nat} {α1:Type} {k1 s1:Nat} {v1:List α1} {f1:α1→D} {α2:Type} {k2 s2:Nat} {v2:List α2} {f2:α2→D} {α3:Type} {k3 s3:Nat} {v3:List α3} {f3:α3→D} {α4:Type} {k4 s4:Nat} {v4:List α4} {f4:α4→D} {α5:Type} {k5 s5:Nat} {v5:List α5} {f5:α5→D} {α6:Type} {k6 s6:Nat} {v6:List α6} {f6:α6→D} {α7:Type} {k7 s7:Nat} {v7:List α7} {f7:α7→D} (h1:L[k1]?=some (some ⟨s1,v1.map fun a => .d (f1 a)⟩):=by rfl) (h2:L[k2]?=some (some ⟨s2,v2.map fun a => .d (f2 a)⟩):=by rfl) (h3:L[k3]?=some (some ⟨s3,v3.map fun a => .d (f3 a)⟩):=by rfl) (h4:L[k4]?=some (some ⟨s4,v4.map fun a => .d (f4 a)⟩):=by rfl) (h5:L[k5]?=some (some ⟨s5,v5.map fun a => .d (f5 a)⟩):=by rfl) (h6:L[k6]?=some (some ⟨s6,v6.map fun a => .d (f6 a)⟩):=by rfl) (h7:L[k7]?=some (some ⟨s7,v7.map fun a => .d (f7 a)⟩):=by rfl):RwO L κ [some ⟨s1,v1.map fun a => .d (f1 a)⟩,some ⟨s2,v2.map fun a => .d (f2 a)⟩,some ⟨s3,v3.map fun a => .d (f3 a)⟩,some ⟨s4,v4.map fun a => .d (f4 a)⟩,some ⟨s5,v5.map fun a => .d (f5 a)⟩,some ⟨s6,v6.map fun a => .d (f6 a)⟩,some ⟨s7,v7.map fun a => .d (f7 a)⟩] [k1,k2,k3,k4,k5,k6,k7] [⟨s1,v1.map fun a => .d (f1 a)⟩,⟨s2,v2.map fun a => .d (f2 a)⟩,⟨s3,v3.map fun a => .d (f3 a)⟩,⟨s4,v4.map fun a => .d (f4 a)⟩,⟨s5,v5.map fun a => .d (f5 a)⟩,⟨s6,v6.map fun a => .d (f6 a)⟩,⟨s7,v7.map fun a => .d (f7 a)⟩] := .row h1 (.row h2 (.row h3 (.row h4 (.row h5 (.row h6 (.row h7 (.nil)))))))
theorem B79 {L:List (Option Rw)} {κ:List Nat} {α1:Type} {k1 s1:Nat} {v1:List α1} {f1:α1→D} {α2:Type} {k2 s2:Nat} {v2:List α2} {f2:α2→D} {α3:Type} {k3 s3:Nat} {v3:List α3} {f3:α3→D} {α4:Type} {k4 s4:Nat} {v4:List α4} {f4:α4→D} {α5:Type} {k5 s5:Nat} {v5:List α5} {f5:α5→D} {α6:Type} {k6 s6:Nat} {v6:List α6} {f6:α6→D} {α7:Type} {k7 s7:Nat} {v7:List α7} {f7:α7→D} {α8:Type} {k8 s8:Nat} {v8:List α8} {f8:α8→D} (h1:L[k1]?=some (some ⟨s1,v1.map fun a => .d (f1 a)⟩):=by rfl) (h2:L[k2]?=some (some ⟨s2,v2.map fun a => .d (f2 a)⟩):=by rfl) (h3:L[k3]?=some (some ⟨s3,v3.map fun a => .d (f3 a)⟩):=by rfl) (h4:L[k4]?=some (some ⟨s4,v4.map fun a => .d (f4 a)⟩):=by rfl) (h5:L[k5]?=some (some ⟨s5,v5.map fun a => .d (f5 a)⟩):=by rfl) (h6:L[k6]?=some (some ⟨s6,v6.map fun a => .d (f6 a)⟩):=by rfl) (h7:L[k7]?=some (some ⟨s7,v7.map fun a => .d (f7 a)⟩):=by rfl) (h8:L[k8]?=some (some ⟨s8,v8.map fun a => .d (f8 a)⟩):=by rfl):RwK L κ [some ⟨s1,v1.map fun a => .d (f1 a)⟩,some ⟨s2,v2.map fun a => .d (f2 a)⟩,some ⟨s3,v3.map fun a => .d (f3 a)⟩,some ⟨s4,v4.map fun a => .d (f4 a)⟩,some ⟨s5,v5.map fun a => .d (f5 a)⟩,some ⟨s6,v6.map fun a => .d (f6 a)⟩,some ⟨s7,v7.map fun a => .d (f7 a)⟩,some ⟨s8,v8.map fun a => .d (f8 a)⟩] [k1,k2,k3,k4,k5,k6,k7,k8] := .row h1 (.row h2 (.row h3 (.row h4 (.row h5 (.row h6 (.row h7 (.row h8 (.nil))))))))
theorem B7F {L:List (Option Rw)} {κ:List Nat} {α1:Type} {k1 s1:Nat} {v1:List α1} {f1:α1→D} {α2:Type} {k2 s2:Nat} {v2:List α2} {f2:α2→D} {α3:Type} {k3 s3:Nat} {v3:List α3} {f3:α3→D} {α4:Type} {k4 s4:Nat} {v4:List α4} {f4:α4→D} {α5:Type} {k5 s5:Nat} {v5:List α5} {f5:α5→D} {α6:Type} {k6 s6:Nat} {v6:List α6} {f6:α6→D} {α7:Type} {k7 s7:Nat} {v7:List α7} {f7:α7→D} {α8:Type} {k8 s8:Nat} {v8:List α8} {f8:α8→D} (h1:L[k1]?=some (some ⟨s1,v1.map fun a => .d (f1 a)⟩):=by rfl) (h2:L[k2]?=some (some ⟨s2,v2.map fun a => .d (f2 a)⟩):=by rfl) (h3:L[k3]?=some (some ⟨s3,v3.map fun a => .d (f3 a)⟩):=by rfl) (h4:L[k4]?=some (some ⟨s4,v4.map fun a => .d (f4 a)⟩):=by rfl) (h5:L[k5]?=some (some ⟨s5,v5.map fun a => .d (f5 a)⟩):=by rfl) (h6:L[k6]?=some (some ⟨s6,v6.map fun a => .d (f6 a)⟩):=by rfl) (h7:L[k7]?=some (some ⟨s7,v7.map fun a => .d (f7 a)⟩):=by rfl) (h8:L[k8]?=some (some ⟨s8,v8.map fun a => .d (f8 a)⟩):=by rfl):RwO L κ [some ⟨s1,v1.map fun a => .d (f1 a)⟩,some ⟨s2,v2.map fun a => .d (f2 a)⟩,some ⟨s3,v3.map fun a => .d (f3 a)⟩,some ⟨s4,v4.map fun a => .d (f4 a)⟩,some ⟨s5,v5.map fun a => .d (f5 a)⟩,some ⟨s6,v6.map fun a => .d (f6 a)⟩,some ⟨s7,v7.map fun a => .d (f7 a)⟩,some ⟨s8,v8.map fun a => .d (f8 a)⟩] [k1,k2,k3,k4,k5,k6,k7,k8] [⟨s1,v1.map fun a => .d (f1 a)⟩,⟨s2,v2.map fun a => .d (f2 a)⟩,⟨s3,v3.map fun a => .d (f3 a)⟩,⟨s4,v4.map fun a => .d (f4 a)⟩,⟨s5,v5.map fun a => .d (f5 a)⟩,⟨s6,v6.map fun a => .d (f6 a)⟩,⟨s7,v7.map fun a => .d (f7 a)⟩,⟨s8,v8.map fun a => .d (f8 a)⟩] := .row h1 (.row h2 (.row h3 (.row h4 (.row h5 (.row h6 (.row h7 (.row h8 (.nil))))))))
instance:Inhabited ByteArray:=⟨ByteArray.empty⟩
structure A52 where
 lo:Int
 hi:Int
 deriving Inhabited
def A52.d (x:A52):D := .agg [.v (.int .i64 x.lo),.v (.int .i64 x.hi)]
structure E9 where
 name:ByteArray
 F8:Int
 F7:Int
 G0:Int
 F9:Int
 grade:Int
 room:Int
 pair:Bool
 deriving Inhabited
def E9.d (x:E9):D := .agg [.v (.string x.name),.v (.int .i64 x.F8),.v (.int .i64 x.F7),.v (.int .i64 x.G0),.v (.int .i64 x.F9),.v (.int .i64 x.grade),.v (.int .i64 x.room),.v (.bool x.pair)]
structure I0 where
 a:Int
 b:Int
 deriving Inhabited
def I0.d (x:I0):D := .agg [.v (.int .i64 x.a),.v (.int .i64 x.b)]
structure E3 where
 name:ByteArray
 grade:Int
 deriving Inhabited
def E3.d (x:E3):D := .agg [.v (.string x.name),.v (.int .i64 x.grade)]
structure C6 where
 name:ByteArray
 A0o:Int
 A0p:Int
 clear:Int
 grade:Int
 keys:(List Int)
 deriving Inhabited
def C6.d (x:C6):D := .agg [.v (.string x.name),.v (.int .i64 x.A0o),.v (.int .i64 x.A0p),.v (.int .i64 x.clear),.v (.int .i64 x.grade),.arr 1 ((x.keys).map vI)]
structure B0 where
 zones:(List E9)
 doors:(List I0)
 people:(List E3)
 keys:(List ByteArray)
 squibs:(List C6)
 panel:Int
 wait:Int
 deriving Inhabited
def B0.d (x:B0):D := .agg [.arr 8 ((x.zones).map E9.d),.arr 2 ((x.doors).map I0.d),.arr 2 ((x.people).map E3.d),.arr 1 ((x.keys).map vS),.arr 6 ((x.squibs).map C6.d),.v (.int .i64 x.panel),.v (.int .i64 x.wait)]
structure A8B where
 A6d:Int
 A6c:Int
 A6f:Int
 A6e:Int
 deriving Inhabited
def A8B.d (x:A8B):D := .agg [.v (.int .i64 x.A6d),.v (.int .i64 x.A6c),.v (.int .i64 x.A6f),.v (.int .i64 x.A6e)]
structure A6 where
 now:Int
 zones:(List Int)
 holder:(List Int)
 squibs:(List Int)
 siren:Int
 storm:Bool
 deriving Inhabited
def A6.d (x:A6):D := .agg [.v (.int .i64 x.now),.arr 1 ((x.zones).map vI),.arr 1 ((x.holder).map vI),.arr 1 ((x.squibs).map vI),.v (.int .i64 x.siren),.v (.bool x.storm)]
structure D4 where
 at_:Int
 kind:Int
 who:Int
 what:Int
 with_:Int
 deriving Inhabited
def D4.d (x:D4):D := .agg [.v (.int .i64 x.at_),.v (.int .i64 x.kind),.v (.int .i64 x.who),.v (.int .i64 x.what),.v (.int .i64 x.with_)]
structure A4 where
 squib:Int
 person:Int
 deriving Inhabited
def A4.d (x:A4):D := .agg [.v (.int .i64 x.squib),.v (.int .i64 x.person)]
structure E4 where
 M6:(List E9)
 R0:(List I0)
 M7:(List E3)
 V3:(List ByteArray)
 M8:(List C6)
 R9:Int
 V4:Int
 J3:Int
 C1:(List Int)
 C2:(List Int)
 A7:(List Int)
 G4:Int
 G2:Bool
 deriving Inhabited
def E4.d (x:E4):D := .agg [.arr 8 ((x.M6).map E9.d),.arr 2 ((x.R0).map I0.d),.arr 2 ((x.M7).map E3.d),.arr 1 ((x.V3).map vS),.arr 6 ((x.M8).map C6.d),.v (.int .i64 x.R9),.v (.int .i64 x.V4),.v (.int .i64 x.J3),.arr 1 ((x.C1).map vI),.arr 1 ((x.C2).map vI),.arr 1 ((x.A7).map vI),.v (.int .i64 x.G4),.v (.bool x.G2)]
structure A8H where
 x:Int
 y:Int
 deriving Inhabited
def A8H.d (x:A8H):D := .agg [.v (.int .i64 x.x),.v (.int .i64 x.y)]
abbrev lvS (w:List ByteArray):Rw:=⟨1,w.map fun a => .d (vS a)⟩
abbrev lvI (w:List Int):Rw:=⟨1,w.map fun a => .d (vI a)⟩
abbrev D5 (x:A6) (a0 a1 a2:Nat):T := .agg [.d (.v (.int .i64 x.now)),.row a0 1 0 x.zones.length,.row a1 1 0 x.holder.length,.row a2 1 0 x.squibs.length,.d (.v (.int .i64 x.siren)),.d (.v (.bool x.storm))]
abbrev A3Q (w:List A4):Rw:=⟨2,w.map fun a => .d (A4.d a)⟩
abbrev m1w (w:List (ByteArray × Bool)):Rw:=⟨0,w.map fun p => .agg [.d (.v (.string p.1)),.d (.v (.bool p.2))]⟩
abbrev D8 (x:E4) (a0 a1 a2:Nat):T := .agg [.d (.arr 8 ((x.M6).map E9.d)),.d (.arr 2 ((x.R0).map I0.d)),.d (.arr 2 ((x.M7).map E3.d)),.d (.arr 1 ((x.V3).map vS)),.d (.arr 6 ((x.M8).map C6.d)),.d (.v (.int .i64 x.R9)),.d (.v (.int .i64 x.V4)),.d (.v (.int .i64 x.J3)),.row a0 1 0 x.C1.length,.row a1 1 0 x.C2.length,.row a2 1 0 x.A7.length,.d (.v (.int .i64 x.G4)),.d (.v (.bool x.G2))]
abbrev A4V (x:C6) (a0:Nat):T := .agg [.d (.v (.string x.name)),.d (.v (.int .i64 x.A0o)),.d (.v (.int .i64 x.A0p)),.d (.v (.int .i64 x.clear)),.d (.v (.int .i64 x.grade)),.row a0 1 0 x.keys.length]
abbrev B4g (w:List E9):Rw:=⟨8,w.map fun a => .d (E9.d a)⟩
abbrev B4f (w:List I0):Rw:=⟨2,w.map fun a => .d (I0.d a)⟩
abbrev B2f (w:List E3):Rw:=⟨2,w.map fun a => .d (E3.d a)⟩
abbrev B0l (w:List D4):Rw:=⟨5,w.map fun a => .d (D4.d a)⟩
abbrev A8z (w:List ByteArray):Option Rw:=some (lvS w)
abbrev F5 (w:List Int):Option Rw:=some (lvI w)
abbrev A8 (w:List A4):Option Rw:=some (A3Q w)
abbrev A9u (w:List (ByteArray × Bool)):Option Rw:=some (m1w w)
abbrev B3A (w:List E9):Option Rw:=some (B4g w)
abbrev B39 (w:List I0):Option Rw:=some (B4f w)
abbrev B1L (w:List E3):Option Rw:=some (B2f w)
abbrev B7b (w:List D4):Option Rw:=some (B0l w)
abbrev D1 (x:E4) (l:List (Option Rw)):List (Option Rw):=bx 13 (D8 x 1 2 3)::F5 x.C1::F5 x.C2::F5 x.A7::l
def A4.beq (x y:A4):Bool:=(x.squib==y.squib)&&(x.person==y.person)
set_option maxHeartbeats 1000000 in
theorem B71 (x y:A4) (o1 o2:Operand) (w:World):(do eqGuard .eql 56 o1 o2 (.agg [.int .i64 x.squib,.int .i64 x.person].toArray) (.agg [.int .i64 y.squib,.int .i64 y.person].toArray);binOp .eql 56 (.agg [.int .i64 x.squib,.int .i64 x.person].toArray) (.agg [.int .i64 y.squib,.int .i64 y.person].toArray):Sem Value).run Tryz.prog w = .ok (.bool (A4.beq x y)) w:=by
 have hg:Tryz.prog.eqGuardType Tryz.prog.depth 56=false:=by kernel_rfl
 have hS:Tryz.prog.underlying 56=some (.struct (Tryz.prog.fieldsOf 56)):=by kernel_rfl
 have u3:=Tryz.underlying3
 have a3:=Tryz.isAgg3
 have z3:=Tryz.sizeOf3
 have h2:(binOp .eql 56 (.agg [.int .i64 x.squib,.int .i64 x.person].toArray) (.agg [.int .i64 y.squib,.int .i64 y.person].toArray)).run Tryz.prog w = .ok (.bool (A4.beq x y)) w:=by
  rw[run_eql_struct,show(10000:Nat)=9999+1 from rfl,run_equalIn_agg w 9999 56 _ _ hS (by kernel_rfl)]
  simp only[Program.fieldsOf,Tryz.underlying56,A4.beq]
  go_simp
  by_cases h1:x.squib=y.squib<;>by_cases h2:x.person=y.person<;>simp[h1,h2]
 simp[eqGuard,hg,h2]
set_option maxHeartbeats 1000000 in
theorem B7p (x y:A4) (o1 o2:Operand) (w:World):(do eqGuard .neq 56 o1 o2 (.agg [.int .i64 x.squib,.int .i64 x.person].toArray) (.agg [.int .i64 y.squib,.int .i64 y.person].toArray);binOp .neq 56 (.agg [.int .i64 x.squib,.int .i64 x.person].toArray) (.agg [.int .i64 y.squib,.int .i64 y.person].toArray):Sem Value).run Tryz.prog w = .ok (.bool (!A4.beq x y)) w:=by
 have hg:Tryz.prog.eqGuardType Tryz.prog.depth 56=false:=by kernel_rfl
 have hS:Tryz.prog.underlying 56=some (.struct (Tryz.prog.fieldsOf 56)):=by kernel_rfl
 have u3:=Tryz.underlying3
 have a3:=Tryz.isAgg3
 have z3:=Tryz.sizeOf3
 have h2:(binOp .neq 56 (.agg [.int .i64 x.squib,.int .i64 x.person].toArray) (.agg [.int .i64 y.squib,.int .i64 y.person].toArray)).run Tryz.prog w = .ok (.bool (!A4.beq x y)) w:=by
  rw[run_neq_struct,show(10000:Nat)=9999+1 from rfl,run_equalIn_agg w 9999 56 _ _ hS (by kernel_rfl)]
  simp only[Program.fieldsOf,Tryz.underlying56,A4.beq]
  go_simp
  by_cases h1:x.squib=y.squib<;>by_cases h2:x.person=y.person<;>simp[h1,h2]
 simp[eqGuard,hg,h2]
def I0.beq (x y:I0):Bool:=(x.a==y.a)&&(x.b==y.b)
set_option maxHeartbeats 1000000 in
theorem B7l (x y:I0) (o1 o2:Operand) (w:World):(do eqGuard .eql 98 o1 o2 (.agg [.int .i64 x.a,.int .i64 x.b].toArray) (.agg [.int .i64 y.a,.int .i64 y.b].toArray);binOp .eql 98 (.agg [.int .i64 x.a,.int .i64 x.b].toArray) (.agg [.int .i64 y.a,.int .i64 y.b].toArray):Sem Value).run Tryz.prog w = .ok (.bool (I0.beq x y)) w:=by
 have hg:Tryz.prog.eqGuardType Tryz.prog.depth 98=false:=by kernel_rfl
 have hS:Tryz.prog.underlying 98=some (.struct (Tryz.prog.fieldsOf 98)):=by kernel_rfl
 have u3:=Tryz.underlying3
 have a3:=Tryz.isAgg3
 have z3:=Tryz.sizeOf3
 have h2:(binOp .eql 98 (.agg [.int .i64 x.a,.int .i64 x.b].toArray) (.agg [.int .i64 y.a,.int .i64 y.b].toArray)).run Tryz.prog w = .ok (.bool (I0.beq x y)) w:=by
  rw[run_eql_struct,show(10000:Nat)=9999+1 from rfl,run_equalIn_agg w 9999 98 _ _ hS (by kernel_rfl)]
  simp only[Program.fieldsOf,Tryz.underlying98,I0.beq]
  go_simp
  by_cases h1:x.a=y.a<;>by_cases h2:x.b=y.b<;>simp[h1,h2]
 simp[eqGuard,hg,h2]
set_option maxHeartbeats 1000000 in
theorem B74 (x y:I0) (o1 o2:Operand) (w:World):(do eqGuard .neq 98 o1 o2 (.agg [.int .i64 x.a,.int .i64 x.b].toArray) (.agg [.int .i64 y.a,.int .i64 y.b].toArray);binOp .neq 98 (.agg [.int .i64 x.a,.int .i64 x.b].toArray) (.agg [.int .i64 y.a,.int .i64 y.b].toArray):Sem Value).run Tryz.prog w = .ok (.bool (!I0.beq x y)) w:=by
 have hg:Tryz.prog.eqGuardType Tryz.prog.depth 98=false:=by kernel_rfl
 have hS:Tryz.prog.underlying 98=some (.struct (Tryz.prog.fieldsOf 98)):=by kernel_rfl
 have u3:=Tryz.underlying3
 have a3:=Tryz.isAgg3
 have z3:=Tryz.sizeOf3
 have h2:(binOp .neq 98 (.agg [.int .i64 x.a,.int .i64 x.b].toArray) (.agg [.int .i64 y.a,.int .i64 y.b].toArray)).run Tryz.prog w = .ok (.bool (!I0.beq x y)) w:=by
  rw[run_neq_struct,show(10000:Nat)=9999+1 from rfl,run_equalIn_agg w 9999 98 _ _ hS (by kernel_rfl)]
  simp only[Program.fieldsOf,Tryz.underlying98,I0.beq]
  go_simp
  by_cases h1:x.a=y.a<;>by_cases h2:x.b=y.b<;>simp[h1,h2]
 simp[eqGuard,hg,h2]
end Go.Proofs.YthcnganbnbhhoaaGreat
