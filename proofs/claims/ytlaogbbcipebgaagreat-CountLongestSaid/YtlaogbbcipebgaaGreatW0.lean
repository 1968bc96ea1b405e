/- The types of the program as a table, its structs in plain words. -/
import Derived.Test.YtlaogbbcipebgaaGreatProg
import Derived.KernelRfl
import Derived.Test.YtlaogbbcipebgaaGreatSa22
set_option linter.unusedVariables false
set_option linter.unusedSimpArgs false
open Go Go.Proofs.YtlaogbbcipebgaaGreat.Sh Go.Proofs
namespace Go.Proofs.YtlaogbbcipebgaaGreat
set_option maxRecDepth 100000
def tyl:List (Nat × TI):=[(3,.mk false 1 8 (T.d (D.v (Value.int IntKind.i64 0))) none [] none true),
 (4,.mk false 1 1 (T.d (D.v (Value.bool false))) none [] none true),
 (5,.mk false 1 1 (T.d (D.v (Value.int IntKind.u8 0))) none [] none true),
 (9,.mk false 1 16 (T.d (D.v (Value.string (ByteArray.mk (Array.mk []))))) none [] none true),
 (22,.mk false 1 24 (T.d (D.v (Value.slice none 0 0))) (some 156) [] none true),
 (23,.mk false 1 24 (T.d (D.v (Value.slice none 0 0))) (some 160) [] none true),
 (24,.mk false 1 24 (T.d (D.v (Value.slice none 0 0))) (some 163) [] none true),
 (25,.mk false 1 24 (T.d (D.v (Value.slice none 0 0))) (some 9) [] none true),
 (26,.mk false 1 24 (T.d (D.v (Value.slice none 0 0))) (some 172) [] none true),
 (28,.mk true 7 136 (T.d (D.agg [D.v (Value.slice none 0 0),D.v (Value.slice none 0 0),D.v (Value.slice none 0 0),D.v (Value.slice none 0 0),D.v (Value.slice none 0 0),D.v (Value.int IntKind.i64 0),D.v (Value.int IntKind.i64 0)])) none [(0,false,1),(1,false,1),(2,false,1),(3,false,1),(4,false,1),(5,false,1),(6,false,1)] none true),
 (29,.mk false 1 24 (T.d (D.v (Value.slice none 0 0))) (some 67) [] none true),
 (30,.mk false 1 24 (T.d (D.v (Value.slice none 0 0))) (some 61) [] none true),
 (31,.mk false 1 24 (T.d (D.v (Value.slice none 0 0))) (some 3) [] none true),
 (33,.mk true 2 16 (T.d (D.agg [D.v (Value.int IntKind.i64 0),D.v (Value.int IntKind.i64 0)])) none [(0,false,1),(1,false,1)] none true),
 (35,.mk true 13 248 (T.d (D.agg [D.v (Value.slice none 0 0),D.v (Value.slice none 0 0),D.v (Value.slice none 0 0),D.v (Value.slice none 0 0),D.v (Value.slice none 0 0),D.v (Value.int IntKind.i64 0),D.v (Value.int IntKind.i64 0),D.v (Value.slice none 0 0),D.v (Value.slice none 0 0),D.v (Value.slice none 0 0),D.v (Value.slice none 0 0),D.v (Value.int IntKind.i64 0),D.v (Value.int IntKind.i64 0)])) none [(0,true,7),(7,false,1),(8,false,1),(9,false,1),(10,false,1),(11,true,2)] none true),
 (36,.mk false 1 24 (T.d (D.v (Value.slice none 0 0))) (some 58) [] none true),
 (38,.mk true 6 96 (T.d (D.agg [D.v (Value.int IntKind.i64 0),D.v (Value.slice none 0 0),D.v (Value.slice none 0 0),D.v (Value.slice none 0 0),D.v (Value.int IntKind.i64 0),D.v (Value.bool false)])) none [(0,false,1),(1,false,1),(2,false,1),(3,false,1),(4,false,1),(5,false,1)] none true),
 (39,.mk false 1 24 (T.d (D.v (Value.slice none 0 0))) (some 4) [] none true),
 (41,.mk true 13 232 (T.d (D.agg [D.v (Value.int IntKind.i64 0),D.v (Value.int IntKind.i64 0),D.v (Value.slice none 0 0),D.v (Value.slice none 0 0),D.v (Value.slice none 0 0),D.v (Value.int IntKind.i64 0),D.v (Value.bool false),D.v (Value.slice none 0 0),D.v (Value.slice none 0 0),D.v (Value.bool false),D.v (Value.slice none 0 0),D.v (Value.slice none 0 0),D.v (Value.slice none 0 0)])) none [(0,false,1),(1,true,6),(7,false,1),(8,false,1),(9,false,1),(10,false,1),(11,false,1),(12,false,1)] none true),
 (42,.mk false 1 24 (T.d (D.v (Value.slice none 0 0))) (some 43) [] none true),
 (43,.mk false 1 8 (T.d (D.v (Value.int IntKind.i64 0))) none [] none true),
 (56,.mk true 5 40 (T.d (D.agg [D.v (Value.int IntKind.i64 0),D.v (Value.int IntKind.i64 0),D.v (Value.int IntKind.i64 0),D.v (Value.int IntKind.i64 0),D.v (Value.int IntKind.i64 0)])) none [(0,false,1),(1,false,1),(2,false,1),(3,false,1),(4,false,1)] none true),
 (58,.mk true 8 64 (T.d (D.agg [D.v (Value.int IntKind.i64 0),D.v (Value.int IntKind.i64 0),D.v (Value.int IntKind.i64 0),D.v (Value.int IntKind.i64 0),D.v (Value.int IntKind.i64 0),D.v (Value.int IntKind.i64 0),D.v (Value.int IntKind.i64 0),D.v (Value.int IntKind.i64 0)])) none [(0,false,1),(1,false,1),(2,false,1),(3,true,5)] none true),
 (59,.mk false 1 24 (T.d (D.v (Value.slice none 0 0))) (some 56) [] none true),
 (61,.mk true 9 160 (T.d (D.agg [D.v (Value.string (ByteArray.mk (Array.mk []))),D.v (Value.slice none 0 0),D.v (Value.int IntKind.i64 0),D.v (Value.int IntKind.i64 0),D.v (Value.bool false),D.v (Value.slice none 0 0),D.v (Value.slice none 0 0),D.v (Value.slice none 0 0),D.v (Value.slice none 0 0)])) none [(0,false,1),(1,false,1),(2,false,1),(3,false,1),(4,false,1),(5,false,1),(6,false,1),(7,false,1),(8,false,1)] none true),
 (67,.mk true 3 32 (T.d (D.agg [D.v (Value.string (ByteArray.mk (Array.mk []))),D.v (Value.int IntKind.i64 0),D.v (Value.int IntKind.i64 0)])) none [(0,false,1),(1,false,1),(2,false,1)] none true),
 (71,.mk false 1 24 (T.d (D.v (Value.slice none 0 0))) (some 5) [] none true),
 (82,.mk false 1 24 (T.d (D.v (Value.slice none 0 0))) (some 128) [] none true),
 (91,.mk false 1 8 (T.d (D.v (Value.pointer none))) none [] none true),
 (95,.mk true 26 480 (T.d (D.agg [D.v (Value.slice none 0 0),D.v (Value.slice none 0 0),D.v (Value.slice none 0 0),D.v (Value.slice none 0 0),D.v (Value.slice none 0 0),D.v (Value.int IntKind.i64 0),D.v (Value.int IntKind.i64 0),D.v (Value.slice none 0 0),D.v (Value.slice none 0 0),D.v (Value.slice none 0 0),D.v (Value.slice none 0 0),D.v (Value.int IntKind.i64 0),D.v (Value.int IntKind.i64 0),D.v (Value.int IntKind.i64 0),D.v (Value.int IntKind.i64 0),D.v (Value.slice none 0 0),D.v (Value.slice none 0 0),D.v (Value.slice none 0 0),D.v (Value.int IntKind.i64 0),D.v (Value.bool false),D.v (Value.slice none 0 0),D.v (Value.slice none 0 0),D.v (Value.bool false),D.v (Value.slice none 0 0),D.v (Value.slice none 0 0),D.v (Value.slice none 0 0)])) none [(0,true,13),(13,true,13)] none true),
 (113,.mk false 1 8 (T.d (D.v Value.nilFunc)) none [] none true),
 (115,.mk false 1 8 (T.d (D.v Value.nilFunc)) none [] none true),
 (122,.mk false 1 8 (T.d (D.v (Value.pointer none))) none [] none true),
 (128,.mk true 2 16 (T.d (D.agg [D.v (Value.int IntKind.i64 0),D.v (Value.int IntKind.i64 0)])) none [(0,false,1),(1,false,1)] none true),
 (130,.mk false 1 8 (T.d (D.v Value.nilFunc)) none [] none true),
 (133,.mk true 13 232 (T.d (D.agg [D.v (Value.slice none 0 0),D.v (Value.slice none 0 0),D.v (Value.slice none 0 0),D.v (Value.slice none 0 0),D.v (Value.slice none 0 0),D.v (Value.int IntKind.i64 0),D.v (Value.int IntKind.i64 0),D.v (Value.int IntKind.i64 0),D.v (Value.slice none 0 0),D.v (Value.slice none 0 0),D.v (Value.slice none 0 0),D.v (Value.int IntKind.i64 0),D.v (Value.bool false)])) none [(0,true,7),(7,true,6)] none true),
 (138,.mk false 1 8 (T.d (D.v Value.nilFunc)) none [] none true),
 (143,.mk false 1 8 (T.d (D.v (Value.int IntKind.u64 0))) none [] none true),
 (149,.mk false 1 8 (T.d (D.v Value.nilFunc)) none [] none true),
 (151,.mk true 10 80 (T.d (D.agg [D.v Value.nilFunc,D.v Value.nilFunc,D.v Value.nilFunc,D.v Value.nilFunc,D.v Value.nilFunc,D.v Value.nilFunc,D.v Value.nilFunc,D.v Value.nilFunc,D.v Value.nilFunc,D.v Value.nilFunc])) none [] (some (10,149)) true),
 (154,.mk true 4 32 (T.d (D.agg [D.v (Value.int IntKind.i64 0),D.v (Value.int IntKind.i64 0),D.v (Value.int IntKind.i64 0),D.v (Value.int IntKind.i64 0)])) none [(0,true,2),(2,true,2)] none true),
 (156,.mk true 8 72 (T.d (D.agg [D.v (Value.string (ByteArray.mk (Array.mk []))),D.v (Value.int IntKind.i64 0),D.v (Value.int IntKind.i64 0),D.v (Value.int IntKind.i64 0),D.v (Value.int IntKind.i64 0),D.v (Value.int IntKind.i64 0),D.v (Value.int IntKind.i64 0),D.v (Value.bool false)])) none [(0,false,1),(1,true,4),(5,false,1),(6,false,1),(7,false,1)] none true),
 (157,.mk false 1 8 (T.d (D.v Value.nilFunc)) none [] none true),
 (158,.mk false 1 8 (T.d (D.v Value.nilFunc)) none [] none true),
 (160,.mk true 2 16 (T.d (D.agg [D.v (Value.int IntKind.i64 0),D.v (Value.int IntKind.i64 0)])) none [(0,false,1),(1,false,1)] none true),
 (163,.mk true 2 24 (T.d (D.agg [D.v (Value.string (ByteArray.mk (Array.mk []))),D.v (Value.int IntKind.i64 0)])) none [(0,false,1),(1,false,1)] none true),
 (164,.mk false 1 8 (T.d (D.v Value.nilFunc)) none [] none true),
 (165,.mk false 1 8 (T.d (D.v Value.nilFunc)) none [] none true),
 (167,.mk false 1 8 (T.d (D.v Value.nilFunc)) none [] none true),
 (170,.mk true 2 16 (T.d (D.agg [D.v (Value.int IntKind.i64 0),D.v (Value.int IntKind.i64 0)])) none [(0,false,1),(1,false,1)] none true),
 (172,.mk true 6 72 (T.d (D.agg [D.v (Value.string (ByteArray.mk (Array.mk []))),D.v (Value.int IntKind.i64 0),D.v (Value.int IntKind.i64 0),D.v (Value.int IntKind.i64 0),D.v (Value.int IntKind.i64 0),D.v (Value.slice none 0 0)])) none [(0,false,1),(1,true,2),(3,false,1),(4,false,1),(5,false,1)] none true),
 (173,.mk false 1 8 (T.d (D.v Value.nilFunc)) none [] none true),
 (175,.mk false 1 8 (T.d (D.v Value.nilFunc)) none [] none true),
 (176,.mk false 1 8 (T.d (D.v Value.nilFunc)) none [] none true),
 (179,.mk false 1 8 (T.d (D.v Value.nilFunc)) none [] none true),
 (181,.mk false 1 8 (T.d (D.v Value.nilFunc)) none [] none true),
 (190,.mk false 1 8 (T.d (D.v Value.nilFunc)) none [] none true),
 (199,.mk false 1 8 (T.d (D.v Value.nilFunc)) none [] none true),
 (200,.mk true 10 80 (T.d (D.agg [D.v Value.nilFunc,D.v Value.nilFunc,D.v Value.nilFunc,D.v Value.nilFunc,D.v Value.nilFunc,D.v Value.nilFunc,D.v Value.nilFunc,D.v Value.nilFunc,D.v Value.nilFunc,D.v Value.nilFunc])) none [] (some (10,199)) true),
 (207,.mk false 1 8 (T.d (D.v (Value.map none))) none [] none true),
 (214,.mk false 1 8 (T.d (D.v (Value.int IntKind.u64 0))) none [] none true),
 (226,.mk false 1 8 (T.d (D.v Value.nilFunc)) none [] none true),
 (227,.mk false 1 24 (T.d (D.v (Value.slice none 0 0))) (some 31) [] none true),
 (243,.mk false 1 8 (T.d (D.v Value.nilFunc)) none [] none true)]
theorem C0j:tyl.map (fun p=>B8q Tryz.prog p.1)=tyl.map (fun p=>some p.2):=by kernel_rfl
def tb:Tab Tryz.prog := .mk' tyl C0j
theorem H1 {α β:Type} {o:Option α} {f:α→Option β} {r:β} (h:Option.bind o f=some r):∃ x,o=some x∧f x=some r:=Option.bind_eq_some_iff.1 h
theorem J7 {c:Prop} [Decidable c] {α:Type} {x y r:α} (k:c) (h:(if c then x else y)=r):x=r:=(if_pos k).symm.trans h
theorem P1 {c:Prop} [Decidable c] {α:Type} {x y r:α} (k:¬ c) (h:(if c then x else y)=r):y=r:=(if_neg k).symm.trans h
theorem ifF {b:Bool} {α:Type} {x y r:α} (k:b=false) (h:(if b=true then x else y)=r):y=r:=(if_neg (by rw[k];exact Bool.false_ne_true)).symm.trans h
theorem U4 {P:Program} {fn:Func} {n0:Nat} {rs:List ResultVar} {us:List T} {st:St} {y t:T} (h0:Nat.beq n0 0=true) (hres:fn.results.toList=rs) (ht:t.sc 0=true) (h:A8t P st rs us) (hu:B51 us=t.ren (kap []):=by rfl) (hy:t=y:=by rfl):Fin P fn n0 (fun se L'=>se = .ret y∧L'=[]) .ret st:=by
 obtain rfl:=Nat.eq_of_beq_eq_true h0
 subst hy
 exact U0 (t:=t) (L:=[]) (κ:=[]) hres h (vwK rfl rfl .nil (.cons hu ht .nil)) ⟨rfl,rfl⟩
theorem R {α:Sort _} {a:α}:a=a:=rfl
theorem eN {P:Program} {N:Nat} {K:St→Prop} {Q:SX→St→Prop} {ops:Array Oper} {tr:List Stp} {st:St} (h:K st):L3 P N ops [] st tr (B7w (A5w K Q .norm)):=Y9 (A6 h)
theorem qG {P:Program} {n0 N:Nat} {df:List Deferred} {Q:SX→St→Prop} {st:St} {id:Nat} {l:List Oper} {y:Code} (h:L3 P N l.toArray l st [] (B7w (A5w (SW P n0 N df y Q) Q .norm))):SW P n0 N df (.seq (.region id l.toArray false) y) Q st:=B8 (J1 h)
theorem sI {α:Type} {a b:α} (h:some a=some b):a=b:=Option.some.inj h
theorem eK {P:Program} {f:FuncId} (h:C0y P f=true:=by kernel_rfl):Ent P f := .of h
theorem dL {L:List (Option Rw)} {ts:List T} {x:D} {ds:List D} (k:A5o L ts ds):A5o L (.d x::ts) (x::ds) := .cons (.d x) k
theorem kR {α:Sort _} {a b:α} (h:a=b:=by kernel_rfl):a=b:=h
abbrev bx (n:Nat) (t:T):Option Rw:=some ⟨n,[t]⟩
abbrev c1 (x:D):Option Rw:=some ⟨1,[.d x]⟩
theorem C23 {L:List (Option Rw)} {κ:List Nat} {α1:Type} {k1 s1:Nat} {v1:List α1} {f1:α1→D} (h1:L[k1]?=some (some ⟨s1,v1.map fun a => .d (f1 a)⟩):=by rfl):RwK L κ [some ⟨s1,v1.map fun a => .d (f1 a)⟩] [k1] := .row h1 (.nil)
theorem C4n {L:List (Option Rw)} {κ:List Nat} {α1:Type} {k1 s1:Nat} {v1:List α1} {f1:α1→D} (h1:L[k1]?=some (some ⟨s1,v1.map fun a => .d (f1 a)⟩):=by rfl):RwO L κ [some ⟨s1,v1.map fun a => .d (f1 a)⟩] [k1] [⟨s1,v1.map fun a => .d (f1 a)⟩] := .row h1 (.nil)
theorem C37 {L:List (Option Rw)} {κ:List Nat} {α1:Type} {k1 s1:Nat} {v1:List α1} {f1:α1→D} {α2:Type} {k2 s2:Nat} {v2:List α2} {f2:α2→D} (h1:L[k1]?=some (some ⟨s1,v1.map fun a => .d (f1 a)⟩):=by rfl) (h2:L[k2]?=some (some ⟨s2,v2.map fun a => .d (f2 a)⟩):=by rfl):RwK L κ [some ⟨s1,v1.map fun a => .d (f1 a)⟩,some ⟨s2,v2.map fun a => .d (f2 a)⟩] [k1,k2] := .row h1 (.row h2 (.nil))
theorem C43 {L:List (Option Rw)} {κ:List Nat} {α1:Type} {k1 s1:Nat} {v1:List α1} {f1:α1→D} {α2:Type} {k2 s2:Nat} {v2:List α2} {f2:α2→D} (h1:L[k1]?=some (some ⟨s1,v1.map fun a => .d (f1 a)⟩):=by rfl) (h2:L[k2]?=some (some ⟨s2,v2.map fun a => .d (f2 a)⟩):=by rfl):RwO L κ [some ⟨s1,v1.map fun a => .d (f1 a)⟩,some ⟨s2,v2.map fun a => .d (f2 a)⟩] [k1,k2] [⟨s1,v1.map fun a => .d (f1 a)⟩,⟨s2,v2.map fun a => .d (f2 a)⟩] := .row h1 (.row h2 (.nil))
theorem C1o {L:List (Option Rw)} {κ:List Nat} {α1:Type} {k1 s1:Nat} {v1:List α1} {f1:α1→D} {α2:Type} {k2 s2:Nat} {v2:List α2} {f2:α2→D} {α3:Type} {k3 s3:Nat} {v3:List α3} {f3:α3→D} (h1:L[k1]?=some (some ⟨s1,v1.map fun a => .d (f1 a)⟩):=by rfl) (h2:L[k2]?=some (some ⟨s2,v2.map fun a => .d (f2 a)⟩):=by rfl) (h3:L[k3]?=some (some ⟨s3,v3.map fun a => .d (f3 a)⟩):=by rfl):RwK L κ [some ⟨s1,v1.map fun a => .d (f1 a)⟩,some ⟨s2,v2.map fun a => .d (f2 a)⟩,some ⟨s3,v3.map fun a => .d (f3 a)⟩] [k1,k2,k3] := .row h1 (.row h2 (.row h3 (.nil)))
theorem C2C {L:List (Option Rw)} {κ:List Nat} {α1:Type} {k1 s1:Nat} {v1:List α1} {f1:α1→D} {α2:Type} {k2 s2:Nat} {v2:List α2} {f2:α2→D} {α3:Type} {k3 s3:Nat} {v3:List α3} {f3:α3→D} (h1:L[k1]?=some (some ⟨s1,v1.map fun a => .d (f1 a)⟩):=by rfl) (h2:L[k2]?=some (some ⟨s2,v2.map fun a => .d (f2 a)⟩):=by rfl) (h3:L[k3]?=some (some ⟨s3,v3.map fun a => .d (f3 a)⟩):=by rfl):RwO L κ [some ⟨s1,v1.map fun a => .d (f1 a)⟩,some ⟨s2,v2.map fun a => .d (f2 a)⟩,some ⟨s3,v3.map fun a => .d (f3 a)⟩] [k1,k2,k3] [⟨s1,v1.map fun a => .d (f1 a)⟩,⟨s2,v2.map fun a => .d (f2 a)⟩,⟨s3,v3.map fun a => .d (f3 a)⟩] := .row h1 (.row h2 (.row h3 (.nil)))
theorem C40 {L:List (Option Rw)} {κ:List Nat} {α1:Type} {k1 s1:Nat} {v1:List α1} {f1:α1→D} {α2:Type} {k2 s2:Nat} {v2:List α2} {f2:α2→D} {α3:Type} {k3 s3:Nat} {v3:List α3} {f3:α3→D} {α4:Type} {k4 s4:Nat} {v4:List α4} {f4:α4→D} (h1:L[k1]?=some (some ⟨s1,v1.map fun a => .d (f1 a)⟩):=by rfl) (h2:L[k2]?=some (some ⟨s2,v2.map fun a => .d (f2 a)⟩):=by rfl) (h3:L[k3]?=some (some ⟨s3,v3.map fun a => .d (f3 a)⟩):=by rfl) (h4:L[k4]?=some (some ⟨s4,v4.map fun a => .d (f4 a)⟩):=by rfl):RwK L κ [some ⟨s1,v1.map fun a => .d (f1 a)⟩,some ⟨s2,v2.map fun a => .d (f2 a)⟩,some ⟨s3,v3.map fun a => .d (f3 a)⟩,some ⟨s4,v4.map fun a => .d (f4 a)⟩] [k1,k2,k3,k4] := .row h1 (.row h2 (.row h3 (.row h4 (.nil))))
theorem C44 {L:List (Option Rw)} {κ:List Nat} {α1:Type} {k1 s1:Nat} {v1:List α1} {f1:α1→D} {α2:Type} {k2 s2:Nat} {v2:List α2} {f2:α2→D} {α3:Type} {k3 s3:Nat} {v3:List α3} {f3:α3→D} {α4:Type} {k4 s4:Nat} {v4:List α4} {f4:α4→D} (h1:L[k1]?=some (some ⟨s1,v1.map fun a => .d (f1 a)⟩):=by rfl) (h2:L[k2]?=some (some ⟨s2,v2.map fun a => .d (f2 a)⟩):=by rfl) (h3:L[k3]?=some (some ⟨s3,v3.map fun a => .d (f3 a)⟩):=by rfl) (h4:L[k4]?=some (some ⟨s4,v4.map fun a => .d (f4 a)⟩):=by rfl):RwO L κ [some ⟨s1,v1.map fun a => .d (f1 a)⟩,some ⟨s2,v2.map fun a => .d (f2 a)⟩,some ⟨s3,v3.map fun a => .d (f3 a)⟩,some ⟨s4,v4.map fun a => .d (f4 a)⟩] [k1,k2,k3,k4] [⟨s1,v1.map fun a => .d (f1 a)⟩,⟨s2,v2.map fun a => .d (f2 a)⟩,⟨s3,v3.map fun a => .d (f3 a)⟩,⟨s4,v4.map fun a => .d (f4 a)⟩] := .row h1 (.row h2 (.row h3 (.row h4 (.nil))))
theorem B9x {L:List (Option Rw)} {κ:List Nat} {α1:Type} {k1 s1:Nat} {v1:List α1} {f1:α1→D} {α2:Type} {k2 s2:Nat} {v2:List α2} {f2:α2→D} {α3:Type} {k3 s3:Nat} {v3:List α3} {f3:α3→D} {α4:Type} {k4 s4:Nat} {v4:List α4} {f4:α4→D} {α5:Type} {k5 s5:Nat} {v5:List α5} {f5:α5→D} (h1:L[k1]?=some (some ⟨s1,v1.map fun a => .d (f1 a)⟩):=by rfl) (h2:L[k2]?=some (some ⟨s2,v2.map fun a => .d (f2 a)⟩):=by rfl) (h3:L[k3]?=some (some ⟨s3,v3.map fun a => .d (f3 a)⟩):=by rfl) (h4:L[k4]?=some (some ⟨s4,v4.map fun a => .d (f4 a)⟩):=by rfl) (h5:L[k5]?=some (some ⟨s5,v5.map fun a => .d (f5 a)⟩):=by rfl):RwK L κ [some ⟨s1,v1.map fun a => .d (f1 a)⟩,some ⟨s2,v2.map fun a => .d (f2 a)⟩,some ⟨s3,v3.map fun a => .d (f3 a)⟩,some ⟨s4,v4.map fun a => .d (f4 a)⟩,some ⟨s5,v5.map fun a => .d (f5 a)⟩] [k1,k2,k3,k4,k5] := .row h1 (.row h2 (.row h3 (.row h4 (.row h5 (.nil)))))
theorem C25 {L:List (Option Rw)} {κ:List Nat} {α1:Type} {k1 s1:Nat} {v1:List α1} {f1:α1→D} {α2:Type} {k2 s2:Nat} {v2:List α2} {f2:α2→D} {α3:Type} {k3 s3:Nat} {v3:List α3} {f3:α3→D} {α4:Type} {k4 s4:Nat} {v4:List α4} {f4:α4→D} {α5:Type} {k5 s5:Nat} {v5:List α5} {f5:α5→D} (h1:L[k1]?=some (some ⟨s1,v1.map fun a => .d (f1 a)⟩):=by rfl) (h2:L[k2]?=some (some ⟨s2,v2.map fun a => .d (f2 a)⟩):=by rfl) (h3:L[k3]?=some (some ⟨s3,v3.map fun a => .d (f3 a)⟩):=by rfl) (h4:L[k4]?=some (some ⟨s4,v4.map fun a => .d (f4 a)⟩):=by rfl) (h5:L[k5]?=some (some ⟨s5,v5.map fun a => .d (f5 a)⟩):=by rfl):RwO L κ [some ⟨s1,v1.map fun a => .d (f1 a)⟩,some ⟨s2,v2.map fun a => .d (f2 a)⟩,some ⟨s3,v3.map fun a => .d (f3 a)⟩,some ⟨s4,v4.map fun a => .d (f4 a)⟩,some ⟨s5,v5.map fun a => .d (f5 a)⟩] [k1,k2,k3,k4,k5] [⟨s1,v1.map fun a => .d (f1 a)⟩,⟨s2,v2.map fun a => .d (f2 a)⟩,⟨s3,v3.map fun a => .d (f3 a)⟩,⟨s4,v4.map fun a => .d (f4 a)⟩,⟨s5,v5.map fun a => .d (f5 a)⟩] := .row h1 (.row h2 (.row h3 (.row h4 (.row h5 (.nil)))))
theorem C38 {L:List (Option Rw)} {κ:List Nat} {α1:Type} {k1 s1:Nat} {v1:List α1} {f1:α1→D} {α2:Type} {k2 s2:Nat} {v2:List α2} {f2:α2→D} {α3:Type} {k3 s3:Nat} {v3:List α3} {f3:α3→D} {α4:Type} {k4 s4:Nat} {v4:List α4} {f4:α4→D} {α5:Type} {k5 s5:Nat} {v5:List α5} {f5:α5→D} {α6:Type} {k6 s6:Nat} {v6:List α6} {f6:α6→D} (h1:L[k1]?=some (some ⟨s1,v1.map fun a => .d (f1 a)⟩):=by rfl) (h2:L[k2]?=some (some ⟨s2,v2.map fun a => .d (f2 a)⟩):=by rfl) (h3:L[k3]?=some (some ⟨s3,v3.map fun a => .d (f3 a)⟩):=by rfl) (h4:L[k4]?=some (some ⟨s4,v4.map fun a => .d (f4 a)⟩):=by rfl) (h5:L[k5]?=some (some ⟨s5,v5.map fun a => .d (f5 a)⟩):=by rfl) (h6:L[k6]?=some (some ⟨s6,v6.map fun a => .d (f6 a)⟩):=by rfl):RwK L κ [some ⟨s1,v1.map fun a => .d (f1 a)⟩,some ⟨s2,v2.map fun a => .d (f2 a)⟩,some ⟨s3,v3.map fun a => .d (f3 a)⟩,some ⟨s4,v4.map fun a => .d (f4 a)⟩,some ⟨s5,v5.map fun a => .d (f5 a)⟩,some ⟨s6,v6.map fun a => .d (f6 a)⟩] [k1,k2,k3,k4,k5,k6] := .row h1 (.row h2 (.row h3 (.row h4 (.row h5 (.row h6 (.nil))))))
theorem C45 {L:List (Option Rw)} {κ:List Nat} {α1:Type} {k1 s1:Nat} {v1:List α1} {f1:α1→D} {α2:Type} {k2 s2:Nat} {v2:List α2} {f2:α2→D} {α3:Type} {k3 s3:Nat} {v3:List α3} {f3:α3→D} {α4:Type} {k4 s4:Nat} {v4:List α4} {f4:α4→D} {α5:Type} {k5 s5:Nat} {v5:List α5} {f5:α5→D} {α6:Type} {k6 s6:Nat} {v6:List α6} {f6:α6→D} (h1:L[k1]?=some (some ⟨s1,v1.map fun a => .d (f1 a)⟩):=by rfl) (h2:L[k2]?=some (some ⟨s2,v2.map fun a => .d (f2 a)⟩):=by rfl) (h3:L[k3]?=some (some ⟨s3,v3.map fun a => .d (f3 a)⟩):=by rfl) (h4:L[k4]?=some (some ⟨s4,v4.map fun a => .d (f4 a)⟩):=by rfl) (h5:L[k5]?=some (some ⟨s5,v5.map fun a => .d (f5 a)⟩):=by rfl) (h6:L[k6]?=some (some ⟨s6,v6.map fun a => .d (f6 a)⟩):=by rfl):RwO L κ [some ⟨s1,v1.map fun a => .d (f1 a)⟩,some ⟨s2,v2.map fun a => .d (f2 a)⟩,some ⟨s3,v3.map fun a => .d (f3 a)⟩,some ⟨s4,v4.map fun a => .d (f4 a)⟩,some ⟨s5,v5.map fun a => .d (f5 a)⟩,some ⟨s6,v6.map fun a => .d (f6 a)⟩] [k1,k2,k3,k4,k5,k6] [⟨s1,v1.map fun a => .d (f1 a)⟩,⟨s2,v2.map fun a => .d (f2 a)⟩,⟨s3,v3.map fun a => .d (f3 a)⟩,⟨s4,v4.map fun a => .d (f4 a)⟩,⟨s5,v5.map fun a => .d (f5 a)⟩,⟨s6,v6.map fun a => .d (f6 a)⟩] := .row h1 (.row h2 (.row h3 (.row h4 (.row h5 (.row h6 (.nil))))))
theorem C41 {L:List (Option Rw)} {κ:List Nat} {α1:Type} {k1 s1:Nat} {v1:List α1} {f1:α1→D} {α2:Type} {k2 s2:Nat} {v2:List α2} {f2:α2→D} {α3:Type} {k3 s3:Nat} {v3:List α3} {f3:α3→D} {α4:Type} {k4 s4:Nat} {v4:List α4} {f4:α4→D} {α5:Type} {k5 s5:Nat} {v5:List α5} {f5:α5→D} {α6:Type} {k6 s6:Nat} {v6:List α6} {f6:α6→D} {α7:Type} {k7 s7:Nat} {v7:List α7} {f7:α7→D} (h1:L[k1]?=some (some ⟨s1,v1.map fun a => .d (f1 a)⟩):=by rfl) (h2:L[k2]?=some (some ⟨s2,v2.map fun a => .d (f2 a)⟩):=by rfl) (h3:L[k3]?=some (some ⟨s3,v3.map fun a => .d (f3 a)⟩):=by rfl) (h4:L[k4]?=some (some ⟨s4,v4.map fun a => .d (f4 a)⟩):=by rfl) (h5:L[k5]?=some (some ⟨s5,v5.map fun a => .d (f5 a)⟩):=by rfl) (h6:L[k6]?=some (some ⟨s6,v6.map fun a => .d (f6 a)⟩):=by rfl) (h7:L[k7]?=some (some ⟨s7,v7.map fun a => .d (f7 a)⟩):=by rfl):RwK L κ [some ⟨s1,v1.map fun a => .d (f1 a)⟩,some ⟨s2,v2.map fun a => .d (f2 a)⟩,some ⟨s3,v3.map fun a => .d (f3 a)⟩,some ⟨s4,v4.map fun a => .d (f4 a)⟩,some ⟨s5,v5.map fun a => .d (f5 a)⟩,some ⟨s6,v6.map fun a => .d (f6 a)⟩,some ⟨s7,v7.map fun a => .d (f7 a)⟩] [k1,k2,k3,k4,k5,k6,k7] := .row h1 (.row h2 (.row h3 (.row h4 (.row h5 (.row h6 (.row h7 (.nil)))))))
theorem C46 {L:List (Option Rw)} {κ:List Nat} {α1:Type} {k1 s1:Nat} {v1:List α1} {f1:α1→D} {α2:Type} {k2 s2:Nat} {v2:List α2} {f2:α2→D} {α3:Type} {k3 s3:Nat} {v3:List α3} {f3:α3→D} {α4:Type} {k4 s4:Nat} {v4:List α4} {f4:α4→D} {α5:Type} {k5 s5:Nat} {v5:List α5} {f5:α5→D} {α6:Type} {k6 s6:Nat} {v6:List α6} {f6:α6→D} {α7:Type} {k7 s7:Nat} {v7:List α7} {f7:α7→D} (h1:L[k1]?=some (some ⟨s1,v1.map fun a => .d (f1 a)⟩):=by rfl) (h2:L[k2]?=some (some ⟨s2,v2.map fun a => .d (f2 a)⟩):=by rfl) (h3:L[k3]?=some (some ⟨s3,v3.map fun a => .d (f3 a)⟩):=by rfl) (h4:L[k4]?=some (some ⟨s4,v4.map fun a => .d (f4 a)⟩):=by rfl) (h5:L[k5]?=some (some ⟨s5,v5.map fun a => .d (f5 a)⟩):=by rfl) (h6:L[k6]?=some (some ⟨s6,v6.map fun a => .d (f6 a)⟩):=by rfl) (h7:L[k7]?=some (some ⟨s7,v7.map fun a => .d (f7 a)⟩):=by rfl):RwO L κ [some ⟨s1,v1.map fun a => .d (f1 a)⟩,some ⟨s2,v2.map fun a => .d (f2 a)⟩,some ⟨s3,v3.map fun a => .d (f3 a)⟩,some ⟨s4,v4.map fun a => .d (f4 a)⟩,some ⟨s5,v5.map fun a => .d (f5 a)⟩,some ⟨s6,v6.map fun a => .d (f6 a)⟩,some ⟨s7,v7.map fun a => .d (f7 a)⟩] [k1,k2,k3,k4,k5,k6,k7] [⟨s1,v1.map fun a => .d (f1 a)⟩,⟨s2,v2.map fun a => .d (f2 a)⟩,⟨s3,v3.map fun a => .d (f3 a)⟩,⟨s4,v4.map fun a => .d (f4 a)⟩,⟨s5,v5.map fun a => .d (f5 a)⟩,⟨s6,v6.map fun a => .d (f6 a)⟩,⟨s7,v7.map fun a => .d (f7 a)⟩] := .row h1 (.row h2 (.row h3 (.row h4 (.row h5 (.row h6 (.row h7 (.nil)))))))
theorem C42 {L:List (Option Rw)} {κ:List Nat} {α1:Type} {k1 s1:Nat} {v1:List α1} {f1:α1→D} {α2:Type} {k2 s2:Nat} {v2:List α2} {f2:α2→D} {α3:Type} {k3 s3:Nat} {v3:List α3} {f3:α3→D} {α4:Type} {k4 s4:Nat} {v4:List α4} {f4:α4→D} {α5:Type} {k5 s5:Nat} {v5:List α5} {f5:α5→D} {α6:Type} {k6 s6:Nat} {v6:List α6} {f6:α6→D} {α7:Type} {k7 s7:Nat} {v7:List α7} {f7:α7→D} {α8:Type} {k8 s8:Nat} {v8:List α8} {f8:α8→D} (h1:L[k1]?=some (some ⟨s1,v1.map fun a => .d (f1 a)⟩):=by rfl) (h2:L[k2]?=some (some ⟨s2,v2.map fun a => .d (f2 a)⟩):=by rfl) (h3:L[k3]?=some (some ⟨s3,v3.map fun a => .d (f3 a)⟩):=by rfl) (h4:L[k4]?=some (some ⟨s4,v4.map fun a => .d (f4 a)⟩):=by rfl) (h5:L[k5]?=some (some ⟨s5,v5.map fun a => .d (f5 a)⟩):=by rfl) (h6:L[k6]?=some (some ⟨s6,v6.map fun a => .d (f6 a)⟩):=by rfl) (h7:L[k7]?=some (some ⟨s7,v7.map fun a => .d (f7 a)⟩):=by rfl) (h8:L[k8]?=some (some ⟨s8,v8.map fun a => .d (f8 a)⟩):=by rfl):RwK L κ [some ⟨s1,v1.map fun a => .d (f1 a)⟩,some ⟨s2,v2.map fun a => .d (f2 a)⟩,some ⟨s3,v3.map fun a => .d (f3 a)⟩,some ⟨s4,v4.map fun a => .d (f4 a)⟩,some ⟨s5,v5.map fun a => .d (f5 a)⟩,some ⟨s6,v6.map fun a => .d (f6 a)⟩,some ⟨s7,v7.map fun a => .d (f7 a)⟩,some ⟨s8,v8.map fun a => .d (f8 a)⟩] [k1,k2,k3,k4,k5,k6,k7,k8] := .row h1 (.row h2 (.row h3 (.row h4 (.row h5 (.row h6 (.row h7 (.row h8 (.nil))))))))
theorem C47 {L:List (Option Rw)} {κ:List Nat} {α1:Type} {k1 s1:Nat} {v1:List α1} {f1:α1→D} {α2:Type} {k2 s2:Nat} {v2:List α2} {f2:α2→D} {α3:Type} {k3 s3:Nat} {v3:List α3} {f3:α3→D} {α4:Type} {k4 s4:Nat} {v4:List α4} {f4:α4→D} {α5:Type} {k5 s5:Nat} {v5:List α5} {f5:α5→D} {α6:Type} {k6 s6:Nat} {v6:List α6} {f6:α6→D} {α7:Type} {k7 s7:Nat} {v7:List α7} {f7:α7→D} {α8:Type} {k8 s8:Nat} {v8:List α8} {f8:α8→D} (h1:L[k1]?=some (some ⟨s1,v1.map fun a => .d (f1 a)⟩):=by rfl) (h2:L[k2]?=some (some ⟨s2,v2.map fun a => .d (f2 a)⟩):=by rfl) (h3:L[k3]?=some (some ⟨s3,v3.map fun a => .d (f3 a)⟩):=by rfl) (h4:L[k4]?=some (some ⟨s4,v4.map fun a => .d (f4 a)⟩):=by rfl) (h5:L[k5]?=some (some ⟨s5,v5.map fun a => .d (f5 a)⟩):=by rfl) (h6:L[k6]?=some (some ⟨s6,v6.map fun a => .d (f6 a)⟩):=by rfl) (h7:L[k7]?=some (some ⟨s7,v7.map fun a => .d (f7 a)⟩):=by rfl) (h8:L[k8]?=some (some ⟨s8,v8.map fun a => .d (f8 a)⟩):=by rfl):RwO L κ [some ⟨s1,v1.map fun a => .d (f1 a)⟩,some ⟨s2,v2.map fun a => .d (f2 a)⟩,some ⟨s3,v3.map fun a => .d (f3 a)⟩,some ⟨s4,v4.map fun a => .d (f4 a)⟩,some ⟨s5,v5.map fun a => .d (f5 a)⟩,some ⟨s6,v6.map fun a => .d (f6 a)⟩,some ⟨s7,v7.map fun a => .d (f7 a)⟩,some ⟨s8,v8.map fun a => .d (f8 a)⟩] [k1,k2,k3,k4,k5,k6,k7,k8] [⟨s1,v1.map fun a => .d (f1 a)⟩,⟨s2,v2.map fun a => .d (f2 a)⟩,⟨s3,v3.map fun a => .d (f3 a)⟩,⟨s4,v4.map fun a => .d (f4 a)⟩,⟨s5,v5.map fun a => .d (f5 a)⟩,⟨s6,v6.map fun a => .d (f6 a)⟩,⟨s7,v7.map fun a => .d (f7 a)⟩,⟨s8,v8.map fun a => .d (f8 a)⟩] := .row h1 (.row h2 (.row h3 (.row h4 (.row h5 (.row h6 (.row h7 (.row h8 (.nil))))))))
instance:Inhabited ByteArray:=⟨ByteArray.empty⟩
structure B4J where
 lo:Int
 hi:Int
 deriving Inhabited
def B4J.d (x:B4J):D := .agg [.v (.int .i64 x.lo),.v (.int .i64 x.hi)]
structure F6 where
 name:ByteArray
 L5:Int
 L4:Int
 L7:Int
 L6:Int
 grade:Int
 room:Int
 pair:Bool
 deriving Inhabited
def F6.d (x:F6):D := .agg [.v (.string x.name),.v (.int .i64 x.L5),.v (.int .i64 x.L4),.v (.int .i64 x.L7),.v (.int .i64 x.L6),.v (.int .i64 x.grade),.v (.int .i64 x.room),.v (.bool x.pair)]
structure G6 where
 a:Int
 b:Int
 deriving Inhabited
def G6.d (x:G6):D := .agg [.v (.int .i64 x.a),.v (.int .i64 x.b)]
structure E2 where
 name:ByteArray
 grade:Int
 deriving Inhabited
def E2.d (x:E2):D := .agg [.v (.string x.name),.v (.int .i64 x.grade)]
structure D1 where
 name:ByteArray
 A4s:Int
 A4t:Int
 clear:Int
 grade:Int
 keys:(List Int)
 deriving Inhabited
def D1.d (x:D1):D := .agg [.v (.string x.name),.v (.int .i64 x.A4s),.v (.int .i64 x.A4t),.v (.int .i64 x.clear),.v (.int .i64 x.grade),.arr 1 ((x.keys).map vI)]
structure D5 where
 zones:(List F6)
 doors:(List G6)
 people:(List E2)
 keys:(List ByteArray)
 squibs:(List D1)
 panel:Int
 wait:Int
 deriving Inhabited
def D5.d (x:D5):D := .agg [.arr 8 ((x.zones).map F6.d),.arr 2 ((x.doors).map G6.d),.arr 2 ((x.people).map E2.d),.arr 1 ((x.keys).map vS),.arr 6 ((x.squibs).map D1.d),.v (.int .i64 x.panel),.v (.int .i64 x.wait)]
structure B06 where
 A7P:Int
 A7O:Int
 A7R:Int
 A7Q:Int
 deriving Inhabited
def B06.d (x:B06):D := .agg [.v (.int .i64 x.A7P),.v (.int .i64 x.A7O),.v (.int .i64 x.A7R),.v (.int .i64 x.A7Q)]
structure C3 where
 now:Int
 zones:(List Int)
 holder:(List Int)
 squibs:(List Int)
 siren:Int
 storm:Bool
 deriving Inhabited
def C3.d (x:C3):D := .agg [.v (.int .i64 x.now),.arr 1 ((x.zones).map vI),.arr 1 ((x.holder).map vI),.arr 1 ((x.squibs).map vI),.v (.int .i64 x.siren),.v (.bool x.storm)]
structure D2 where
 at_:Int
 kind:Int
 who:Int
 what:Int
 with_:Int
 deriving Inhabited
def D2.d (x:D2):D := .agg [.v (.int .i64 x.at_),.v (.int .i64 x.kind),.v (.int .i64 x.who),.v (.int .i64 x.what),.v (.int .i64 x.with_)]
structure E6 where
 O0:(List F6)
 V4:(List G6)
 O3:(List E2)
 A0r:(List ByteArray)
 O4:(List D1)
 X3:Int
 A0s:Int
 N7:Int
 A9:(List Int)
 A8:(List Int)
 A4:(List Int)
 I3:Int
 I1:Bool
 deriving Inhabited
def E6.d (x:E6):D := .agg [.arr 8 ((x.O0).map F6.d),.arr 2 ((x.V4).map G6.d),.arr 2 ((x.O3).map E2.d),.arr 1 ((x.A0r).map vS),.arr 6 ((x.O4).map D1.d),.v (.int .i64 x.X3),.v (.int .i64 x.A0s),.v (.int .i64 x.N7),.arr 1 ((x.A9).map vI),.arr 1 ((x.A8).map vI),.arr 1 ((x.A4).map vI),.v (.int .i64 x.I3),.v (.bool x.I1)]
structure A8I where
 squib:Int
 person:Int
 deriving Inhabited
def A8I.d (x:A8I):D := .agg [.v (.int .i64 x.squib),.v (.int .i64 x.person)]
structure D9 where
 name:ByteArray
 charge:Int
 rate:Int
 deriving Inhabited
def D9.d (x:D9):D := .agg [.v (.string x.name),.v (.int .i64 x.charge),.v (.int .i64 x.rate)]
structure E0 where
 name:ByteArray
 need:(List Int)
 least:Int
 most:Int
 poll:Bool
 on_:(List Int)
 use_:(List Int)
 off:(List Int)
 acts:(List D2)
 deriving Inhabited
def E0.d (x:E0):D := .agg [.v (.string x.name),.arr 1 ((x.need).map vI),.v (.int .i64 x.least),.v (.int .i64 x.most),.v (.bool x.poll),.arr 1 ((x.on_).map vI),.arr 1 ((x.use_).map vI),.arr 1 ((x.off).map vI),.arr 5 ((x.acts).map D2.d)]
structure D4 where
 N4:(List F6)
 P5:(List G6)
 N6:(List E2)
 S5:(List ByteArray)
 J3:(List D1)
 Q7:Int
 T9:Int
 stations:(List ByteArray)
 batteries:(List D9)
 steps:(List E0)
 points:(List Int)
 Q8:Int
 O8:Int
 deriving Inhabited
def D4.d (x:D4):D := .agg [.arr 8 ((x.N4).map F6.d),.arr 2 ((x.P5).map G6.d),.arr 2 ((x.N6).map E2.d),.arr 1 ((x.S5).map vS),.arr 6 ((x.J3).map D1.d),.v (.int .i64 x.Q7),.v (.int .i64 x.T9),.arr 1 ((x.stations).map vS),.arr 3 ((x.batteries).map D9.d),.arr 9 ((x.steps).map E0.d),.arr 1 ((x.points).map vI),.v (.int .i64 x.Q8),.v (.int .i64 x.O8)]
structure C7 where
 at_:Int
 kind:Int
 what:Int
 A04:Int
 A0D:Int
 A1L:Int
 A0E:Int
 A0F:Int
 deriving Inhabited
def C7.d (x:C7):D := .agg [.v (.int .i64 x.at_),.v (.int .i64 x.kind),.v (.int .i64 x.what),.v (.int .i64 x.A04),.v (.int .i64 x.A0D),.v (.int .i64 x.A1L),.v (.int .i64 x.A0E),.v (.int .i64 x.A0F)]
structure F7 where
 H0:(List F6)
 G8:(List G6)
 G2:(List E2)
 H4:(List ByteArray)
 G3:(List D1)
 G9:Int
 H5:Int
 H9:(List ByteArray)
 E7:(List D9)
 F8:(List E0)
 I9:(List Int)
 D8:Int
 G0:Int
 H6:Int
 G5:Int
 F5:(List Int)
 E8:(List Int)
 E5:(List Int)
 F3:Int
 F4:Bool
 A1:(List Int)
 A5:(List Int)
 F9:Bool
 B1:(List Bool)
 A7:(List Int)
 B0:(List Bool)
 deriving Inhabited
def F7.d (x:F7):D := .agg [.arr 8 ((x.H0).map F6.d),.arr 2 ((x.G8).map G6.d),.arr 2 ((x.G2).map E2.d),.arr 1 ((x.H4).map vS),.arr 6 ((x.G3).map D1.d),.v (.int .i64 x.G9),.v (.int .i64 x.H5),.arr 1 ((x.H9).map vS),.arr 3 ((x.E7).map D9.d),.arr 9 ((x.F8).map E0.d),.arr 1 ((x.I9).map vI),.v (.int .i64 x.D8),.v (.int .i64 x.G0),.v (.int .i64 x.H6),.v (.int .i64 x.G5),.arr 1 ((x.F5).map vI),.arr 1 ((x.E8).map vI),.arr 1 ((x.E5).map vI),.v (.int .i64 x.F3),.v (.bool x.F4),.arr 1 ((x.A1).map vI),.arr 1 ((x.A5).map vI),.v (.bool x.F9),.arr 1 ((x.B1).map vB),.arr 1 ((x.A7).map vI),.arr 1 ((x.B0).map vB)]
structure H2 where
 now:Int
 A9j:Int
 N4:(List Int)
 A5M:(List Int)
 J3:(List Int)
 A68:Int
 A69:Bool
 begun:(List Int)
 ended:(List Int)
 held:Bool
 go:(List Bool)
 left:(List Int)
 on_:(List Bool)
 deriving Inhabited
def H2.d (x:H2):D := .agg [.v (.int .i64 x.now),.v (.int .i64 x.A9j),.arr 1 ((x.N4).map vI),.arr 1 ((x.A5M).map vI),.arr 1 ((x.J3).map vI),.v (.int .i64 x.A68),.v (.bool x.A69),.arr 1 ((x.begun).map vI),.arr 1 ((x.ended).map vI),.v (.bool x.held),.arr 1 ((x.go).map vB),.arr 1 ((x.left).map vI),.arr 1 ((x.on_).map vB)]
structure B0A where
 x:Int
 y:Int
 deriving Inhabited
def B0A.d (x:B0A):D := .agg [.v (.int .i64 x.x),.v (.int .i64 x.y)]
abbrev B3M (w:List D9):Rw:=⟨3,w.map fun a => .d (D9.d a)⟩
abbrev B62 (w:List C7):Rw:=⟨8,w.map fun a => .d (C7.d a)⟩
abbrev C7t (w:List E0):Rw:=⟨9,w.map fun a => .d (E0.d a)⟩
abbrev B9L (w:List A8I):Rw:=⟨2,w.map fun a => .d (A8I.d a)⟩
abbrev B7A (w:List G6):Rw:=⟨2,w.map fun a => .d (G6.d a)⟩
abbrev B4T (w:List E2):Rw:=⟨2,w.map fun a => .d (E2.d a)⟩
abbrev B7B (w:List F6):Rw:=⟨8,w.map fun a => .d (F6.d a)⟩
abbrev H7 (w:List Bool):Rw:=⟨1,w.map fun a => .d (vB a)⟩
abbrev B7 (w:List Int):Rw:=⟨1,w.map fun a => .d (vI a)⟩
abbrev lvS (w:List ByteArray):Rw:=⟨1,w.map fun a => .d (vS a)⟩
abbrev J2 (x:C3) (a0 a1 a2:Nat):T := .agg [.d (.v (.int .i64 x.now)),.row a0 1 0 x.zones.length,.row a1 1 0 x.holder.length,.row a2 1 0 x.squibs.length,.d (.v (.int .i64 x.siren)),.d (.v (.bool x.storm))]
abbrev m1w (w:List (ByteArray × Bool)):Rw:=⟨0,w.map fun p => .agg [.d (.v (.string p.1)),.d (.v (.bool p.2))]⟩
abbrev C6 (x:E6) (a0 a1 a2:Nat):T := .agg [.d (.arr 8 ((x.O0).map F6.d)),.d (.arr 2 ((x.V4).map G6.d)),.d (.arr 2 ((x.O3).map E2.d)),.d (.arr 1 ((x.A0r).map vS)),.d (.arr 6 ((x.O4).map D1.d)),.d (.v (.int .i64 x.X3)),.d (.v (.int .i64 x.A0s)),.d (.v (.int .i64 x.N7)),.row a0 1 0 x.A9.length,.row a1 1 0 x.A8.length,.row a2 1 0 x.A4.length,.d (.v (.int .i64 x.I3)),.d (.v (.bool x.I1))]
abbrev A0h (x:D1) (a0:Nat):T := .agg [.d (.v (.string x.name)),.d (.v (.int .i64 x.A4s)),.d (.v (.int .i64 x.A4t)),.d (.v (.int .i64 x.clear)),.d (.v (.int .i64 x.grade)),.row a0 1 0 x.keys.length]
abbrev m2w (w:List (Int × Int)):Rw:=⟨0,w.map fun p => .agg [.d (.v (.int .i64 p.1)),.d (.v (.int .i64 p.2))]⟩
abbrev C5 (x:F7) (a0 a1 a2 a3 a4:Nat):T := .agg [.d (.arr 8 ((x.H0).map F6.d)),.d (.arr 2 ((x.G8).map G6.d)),.d (.arr 2 ((x.G2).map E2.d)),.d (.arr 1 ((x.H4).map vS)),.d (.arr 6 ((x.G3).map D1.d)),.d (.v (.int .i64 x.G9)),.d (.v (.int .i64 x.H5)),.d (.arr 1 ((x.H9).map vS)),.d (.arr 3 ((x.E7).map D9.d)),.d (.arr 9 ((x.F8).map E0.d)),.d (.arr 1 ((x.I9).map vI)),.d (.v (.int .i64 x.D8)),.d (.v (.int .i64 x.G0)),.d (.v (.int .i64 x.H6)),.d (.v (.int .i64 x.G5)),.d (.arr 1 ((x.F5).map vI)),.d (.arr 1 ((x.E8).map vI)),.d (.arr 1 ((x.E5).map vI)),.d (.v (.int .i64 x.F3)),.d (.v (.bool x.F4)),.row a0 1 0 x.A1.length,.row a1 1 0 x.A5.length,.d (.v (.bool x.F9)),.row a2 1 0 x.B1.length,.row a3 1 0 x.A7.length,.row a4 1 0 x.B0.length]
abbrev B4I (x:H2) (a0 a1 a2 a3 a4:Nat):T := .agg [.d (.v (.int .i64 x.now)),.d (.v (.int .i64 x.A9j)),.d (.arr 1 ((x.N4).map vI)),.d (.arr 1 ((x.A5M).map vI)),.d (.arr 1 ((x.J3).map vI)),.d (.v (.int .i64 x.A68)),.d (.v (.bool x.A69)),.row a0 1 0 x.begun.length,.row a1 1 0 x.ended.length,.d (.v (.bool x.held)),.row a2 1 0 x.go.length,.row a3 1 0 x.left.length,.row a4 1 0 x.on_.length]
abbrev m3w (w:List (Int × Bool)):Rw:=⟨0,w.map fun p => .agg [.d (.v (.int .i64 p.1)),.d (.v (.bool p.2))]⟩
abbrev C3x (w:List D9):Option Rw:=some (B3M w)
abbrev C3n (w:List C7):Option Rw:=some (B62 w)
abbrev C3p (w:List E0):Option Rw:=some (C7t w)
abbrev C3Y (w:List A8I):Option Rw:=some (B9L w)
abbrev C39 (w:List G6):Option Rw:=some (B7A w)
abbrev C34 (w:List E2):Option Rw:=some (B4T w)
abbrev C3B (w:List F6):Option Rw:=some (B7B w)
abbrev B9r (w:List Bool):Option Rw:=some (H7 w)
abbrev B0u (w:List Int):Option Rw:=some (B7 w)
abbrev C4g (w:List ByteArray):Option Rw:=some (lvS w)
abbrev C3o (w:List (ByteArray × Bool)):Option Rw:=some (m1w w)
abbrev C3C (w:List (Int × Int)):Option Rw:=some (m2w w)
abbrev C3e (w:List (Int × Bool)):Option Rw:=some (m3w w)
abbrev B8A (x:E6) (l:List (Option Rw)):List (Option Rw):=bx 13 (C6 x 1 2 3)::B0u x.A9::B0u x.A8::B0u x.A4::l
abbrev B6X (x:F7) (l:List (Option Rw)):List (Option Rw):=bx 26 (C5 x 1 2 3 4 5)::B0u x.A1::B0u x.A5::B9r x.B1::B0u x.A7::B9r x.B0::l
def D2.beq (x y:D2):Bool:=(x.at_==y.at_)&&(x.kind==y.kind)&&(x.who==y.who)&&(x.what==y.what)&&(x.with_==y.with_)
set_option maxHeartbeats 1000000 in
theorem C1r (x y:D2) (o1 o2:Operand) (w:World):(do eqGuard .eql 56 o1 o2 (.agg [.int .i64 x.at_,.int .i64 x.kind,.int .i64 x.who,.int .i64 x.what,.int .i64 x.with_].toArray) (.agg [.int .i64 y.at_,.int .i64 y.kind,.int .i64 y.who,.int .i64 y.what,.int .i64 y.with_].toArray);binOp .eql 56 (.agg [.int .i64 x.at_,.int .i64 x.kind,.int .i64 x.who,.int .i64 x.what,.int .i64 x.with_].toArray) (.agg [.int .i64 y.at_,.int .i64 y.kind,.int .i64 y.who,.int .i64 y.what,.int .i64 y.with_].toArray):Sem Value).run Tryz.prog w = .ok (.bool (D2.beq x y)) w:=by
 have hg:Tryz.prog.eqGuardType Tryz.prog.depth 56=false:=by kernel_rfl
 have hS:Tryz.prog.underlying 56=some (.struct (Tryz.prog.fieldsOf 56)):=by kernel_rfl
 have u3:=Tryz.underlying3
 have a3:=Tryz.isAgg3
 have z3:=Tryz.sizeOf3
 have h2:(binOp .eql 56 (.agg [.int .i64 x.at_,.int .i64 x.kind,.int .i64 x.who,.int .i64 x.what,.int .i64 x.with_].toArray) (.agg [.int .i64 y.at_,.int .i64 y.kind,.int .i64 y.who,.int .i64 y.what,.int .i64 y.with_].toArray)).run Tryz.prog w = .ok (.bool (D2.beq x y)) w:=by
  rw[run_eql_struct,show(10000:Nat)=9999+1 from rfl,run_equalIn_agg w 9999 56 _ _ hS (by kernel_rfl)]
  simp only[Program.fieldsOf,Tryz.underlying56,D2.beq]
  go_simp
  by_cases h1:x.at_=y.at_<;>by_cases h2:x.kind=y.kind<;>by_cases h3:x.who=y.who<;>by_cases h4:x.what=y.what<;>by_cases h5:x.with_=y.with_<;>simp[h1,h2,h3,h4,h5]
 simp[eqGuard,hg,h2]
set_option maxHeartbeats 1000000 in
theorem C04 (x y:D2) (o1 o2:Operand) (w:World):(do eqGuard .neq 56 o1 o2 (.agg [.int .i64 x.at_,.int .i64 x.kind,.int .i64 x.who,.int .i64 x.what,.int .i64 x.with_].toArray) (.agg [.int .i64 y.at_,.int .i64 y.kind,.int .i64 y.who,.int .i64 y.what,.int .i64 y.with_].toArray);binOp .neq 56 (.agg [.int .i64 x.at_,.int .i64 x.kind,.int .i64 x.who,.int .i64 x.what,.int .i64 x.with_].toArray) (.agg [.int .i64 y.at_,.int .i64 y.kind,.int .i64 y.who,.int .i64 y.what,.int .i64 y.with_].toArray):Sem Value).run Tryz.prog w = .ok (.bool (!D2.beq x y)) w:=by
 have hg:Tryz.prog.eqGuardType Tryz.prog.depth 56=false:=by kernel_rfl
 have hS:Tryz.prog.underlying 56=some (.struct (Tryz.prog.fieldsOf 56)):=by kernel_rfl
 have u3:=Tryz.underlying3
 have a3:=Tryz.isAgg3
 have z3:=Tryz.sizeOf3
 have h2:(binOp .neq 56 (.agg [.int .i64 x.at_,.int .i64 x.kind,.int .i64 x.who,.int .i64 x.what,.int .i64 x.with_].toArray) (.agg [.int .i64 y.at_,.int .i64 y.kind,.int .i64 y.who,.int .i64 y.what,.int .i64 y.with_].toArray)).run Tryz.prog w = .ok (.bool (!D2.beq x y)) w:=by
  rw[run_neq_struct,show(10000:Nat)=9999+1 from rfl,run_equalIn_agg w 9999 56 _ _ hS (by kernel_rfl)]
  simp only[Program.fieldsOf,Tryz.underlying56,D2.beq]
  go_simp
  by_cases h1:x.at_=y.at_<;>by_cases h2:x.kind=y.kind<;>by_cases h3:x.who=y.who<;>by_cases h4:x.what=y.what<;>by_cases h5:x.with_=y.with_<;>simp[h1,h2,h3,h4,h5]
 simp[eqGuard,hg,h2]
def G6.beq (x y:G6):Bool:=(x.a==y.a)&&(x.b==y.b)
set_option maxHeartbeats 1000000 in
theorem C0z (x y:G6) (o1 o2:Operand) (w:World):(do eqGuard .eql 160 o1 o2 (.agg [.int .i64 x.a,.int .i64 x.b].toArray) (.agg [.int .i64 y.a,.int .i64 y.b].toArray);binOp .eql 160 (.agg [.int .i64 x.a,.int .i64 x.b].toArray) (.agg [.int .i64 y.a,.int .i64 y.b].toArray):Sem Value).run Tryz.prog w = .ok (.bool (G6.beq x y)) w:=by
 have hg:Tryz.prog.eqGuardType Tryz.prog.depth 160=false:=by kernel_rfl
 have hS:Tryz.prog.underlying 160=some (.struct (Tryz.prog.fieldsOf 160)):=by kernel_rfl
 have u3:=Tryz.underlying3
 have a3:=Tryz.isAgg3
 have z3:=Tryz.sizeOf3
 have h2:(binOp .eql 160 (.agg [.int .i64 x.a,.int .i64 x.b].toArray) (.agg [.int .i64 y.a,.int .i64 y.b].toArray)).run Tryz.prog w = .ok (.bool (G6.beq x y)) w:=by
  rw[run_eql_struct,show(10000:Nat)=9999+1 from rfl,run_equalIn_agg w 9999 160 _ _ hS (by kernel_rfl)]
  simp only[Program.fieldsOf,Tryz.underlying160,G6.beq]
  go_simp
  by_cases h1:x.a=y.a<;>by_cases h2:x.b=y.b<;>simp[h1,h2]
 simp[eqGuard,hg,h2]
set_option maxHeartbeats 1000000 in
theorem C1j (x y:G6) (o1 o2:Operand) (w:World):(do eqGuard .neq 160 o1 o2 (.agg [.int .i64 x.a,.int .i64 x.b].toArray) (.agg [.int .i64 y.a,.int .i64 y.b].toArray);binOp .neq 160 (.agg [.int .i64 x.a,.int .i64 x.b].toArray) (.agg [.int .i64 y.a,.int .i64 y.b].toArray):Sem Value).run Tryz.prog w = .ok (.bool (!G6.beq x y)) w:=by
 have hg:Tryz.prog.eqGuardType Tryz.prog.depth 160=false:=by kernel_rfl
 have hS:Tryz.prog.underlying 160=some (.struct (Tryz.prog.fieldsOf 160)):=by kernel_rfl
 have u3:=Tryz.underlying3
 have a3:=Tryz.isAgg3
 have z3:=Tryz.sizeOf3
 have h2:(binOp .neq 160 (.agg [.int .i64 x.a,.int .i64 x.b].toArray) (.agg [.int .i64 y.a,.int .i64 y.b].toArray)).run Tryz.prog w = .ok (.bool (!G6.beq x y)) w:=by
  rw[run_neq_struct,show(10000:Nat)=9999+1 from rfl,run_equalIn_agg w 9999 160 _ _ hS (by kernel_rfl)]
  simp only[Program.fieldsOf,Tryz.underlying160,G6.beq]
  go_simp
  by_cases h1:x.a=y.a<;>by_cases h2:x.b=y.b<;>simp[h1,h2]
 simp[eqGuard,hg,h2]
end Go.Proofs.YtlaogbbcipebgaaGreat
