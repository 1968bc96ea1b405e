/- The types of the program as a table, its structs in plain words. -/
import Derived.Test.YtdefnmcjmklohaaProg
import Derived.KernelRfl
import Derived.Test.YtdefnmcjmklohaaSa4
set_option linter.unusedVariables false
set_option linter.unusedSimpArgs false
open Go Go.Proofs.Ytdefnmcjmklohaa.Sh Go.Proofs
namespace Go.Proofs.Ytdefnmcjmklohaa
set_option maxRecDepth 100000
def tyl : List (Nat × TI) := [(3, .mk false 1 8 (T.d (D.v (Value.int IntKind.i64 0))) none [] none true),
 (4, .mk false 1 1 (T.d (D.v (Value.bool false))) none [] none true),
 (5, .mk false 1 1 (T.d (D.v (Value.int IntKind.u8 0))) none [] none true),
 (9, .mk false 1 16 (T.d (D.v (Value.string (ByteArray.mk (Array.mk []))))) none [] none true),
 (22, .mk false 1 24 (T.d (D.v (Value.slice none 0 0))) (some 51) [] none true),
 (23, .mk false 1 24 (T.d (D.v (Value.slice none 0 0))) (some 54) [] none true),
 (25, .mk true 4 64 (T.d (D.agg [D.v (Value.slice none 0 0), D.v (Value.slice none 0 0), D.v (Value.int IntKind.i64 0), D.v (Value.int IntKind.i64 0)])) none [(0, false, 1), (1, false, 1), (2, false, 1), (3, false, 1)] none true),
 (26, .mk false 1 24 (T.d (D.v (Value.slice none 0 0))) (some 3) [] none true),
 (28, .mk true 4 80 (T.d (D.agg [D.v (Value.slice none 0 0), D.v (Value.slice none 0 0), D.v (Value.slice none 0 0), D.v (Value.int IntKind.i64 0)])) none [(0, false, 1), (1, false, 1), (2, false, 1), (3, false, 1)] none true),
 (29, .mk false 1 8 (T.d (D.v (Value.int IntKind.i64 0))) none [] none true),
 (36, .mk false 1 8 (T.d (D.v Value.nilFunc)) none [] none true),
 (39, .mk true 2 32 (T.d (D.agg [D.v (Value.slice none 0 0), D.v (Value.int IntKind.i64 0)])) none [(0, false, 1), (1, false, 1)] none true),
 (40, .mk false 1 24 (T.d (D.v (Value.slice none 0 0))) (some 56) [] none true),
 (42, .mk true 3 56 (T.d (D.agg [D.v (Value.slice none 0 0), D.v (Value.int IntKind.i64 0), D.v (Value.slice none 0 0)])) none [(0, true, 2), (2, false, 1)] none true),
 (44, .mk true 4 32 (T.d (D.agg [D.v (Value.int IntKind.i64 0), D.v (Value.int IntKind.i64 0), D.v (Value.int IntKind.i64 0), D.v (Value.int IntKind.i64 0)])) none [(0, false, 1), (1, false, 1), (2, false, 1), (3, false, 1)] none true),
 (48, .mk false 1 24 (T.d (D.v (Value.slice none 0 0))) (some 5) [] none true),
 (49, .mk false 1 24 (T.d (D.v (Value.slice none 0 0))) (some 90) [] none true),
 (51, .mk true 9 112 (T.d (D.agg [D.v (Value.string (ByteArray.mk (Array.mk []))), D.v (Value.int IntKind.i64 0), D.v (Value.int IntKind.i64 0), D.v (Value.int IntKind.i64 0), D.v (Value.slice none 0 0), D.v (Value.int IntKind.i64 0), D.v (Value.int IntKind.i64 0), D.v (Value.int IntKind.i64 0), D.v (Value.slice none 0 0)])) none [(0, false, 1), (1, false, 1), (2, false, 1), (3, false, 1), (4, false, 1), (5, false, 1), (6, false, 1), (7, false, 1), (8, false, 1)] none true),
 (52, .mk false 1 24 (T.d (D.v (Value.slice none 0 0))) (some 42) [] none true),
 (54, .mk true 3 24 (T.d (D.agg [D.v (Value.int IntKind.i64 0), D.v (Value.int IntKind.i64 0), D.v (Value.int IntKind.i64 0)])) none [(0, false, 1), (1, false, 1), (2, false, 1)] none true),
 (56, .mk true 3 24 (T.d (D.agg [D.v (Value.int IntKind.i64 0), D.v (Value.int IntKind.i64 0), D.v (Value.int IntKind.i64 0)])) none [(0, false, 1), (1, false, 1), (2, false, 1)] none true),
 (58, .mk false 1 24 (T.d (D.v (Value.slice none 0 0))) (some 44) [] none true),
 (90, .mk true 2 16 (T.d (D.agg [D.v (Value.int IntKind.i64 0), D.v (Value.int IntKind.i64 0)])) none [(0, false, 1), (1, false, 1)] none true),
 (91, .mk false 1 8 (T.d (D.v Value.nilFunc)) none [] none true),
 (94, .mk false 1 8 (T.d (D.v Value.nilFunc)) none [] none true),
 (98, .mk false 1 8 (T.d (D.v Value.nilFunc)) none [] none true),
 (101, .mk false 1 8 (T.d (D.v (Value.pointer none))) none [] none true),
 (105, .mk false 1 8 (T.d (D.v (Value.map none))) none [] none true),
 (107, .mk true 22 272 (T.d (D.agg [D.v (Value.slice none 0 0), D.v (Value.slice none 0 0), D.v (Value.int IntKind.i64 0), D.v (Value.int IntKind.i64 0), D.v (Value.slice none 0 0), D.v (Value.slice none 0 0), D.v (Value.slice none 0 0), D.v (Value.int IntKind.i64 0), D.v (Value.slice none 0 0), D.v (Value.int IntKind.i64 0), D.v (Value.int IntKind.i64 0), D.v (Value.int IntKind.i64 0), D.v (Value.int IntKind.i64 0), D.v (Value.int IntKind.i64 0), D.v (Value.map none), D.v (Value.int IntKind.i64 0), D.v (Value.int IntKind.i64 0), D.v (Value.bool false), D.v (Value.int IntKind.i64 0), D.v (Value.int IntKind.i64 0), D.v (Value.int IntKind.i64 0), D.v (Value.int IntKind.i64 0)])) none [(0, true, 4), (4, true, 4), (8, true, 2), (10, true, 3), (13, false, 1), (14, false, 1), (15, false, 1), (16, false, 1), (17, false, 1), (18, true, 4)] none true),
 (109, .mk true 13 168 (T.d (D.agg [D.v (Value.slice none 0 0), D.v (Value.slice none 0 0), D.v (Value.slice none 0 0), D.v (Value.int IntKind.i64 0), D.v (Value.int IntKind.i64 0), D.v (Value.slice none 0 0), D.v (Value.int IntKind.i64 0), D.v (Value.int IntKind.i64 0), D.v (Value.bool false), D.v (Value.int IntKind.i64 0), D.v (Value.int IntKind.i64 0), D.v (Value.int IntKind.i64 0), D.v (Value.int IntKind.i64 0)])) none [(0, true, 4), (4, false, 1), (5, false, 1), (6, false, 1), (7, false, 1), (8, false, 1), (9, true, 4)] none true),
 (123, .mk false 1 8 (T.d (D.v Value.nilFunc)) none [] none true),
 (129, .mk false 1 8 (T.d (D.v Value.nilFunc)) none [] none true),
 (133, .mk true 2 16 (T.d (D.agg [D.v (Value.int IntKind.i64 0), D.v Value.nilFunc])) none [(0, false, 1), (1, false, 1)] none true),
 (136, .mk true 12 96 (T.d (D.agg [D.v (Value.int IntKind.i64 0), D.v Value.nilFunc, D.v (Value.int IntKind.i64 0), D.v Value.nilFunc, D.v (Value.int IntKind.i64 0), D.v Value.nilFunc, D.v (Value.int IntKind.i64 0), D.v Value.nilFunc, D.v (Value.int IntKind.i64 0), D.v Value.nilFunc, D.v (Value.int IntKind.i64 0), D.v Value.nilFunc])) none [] (some (6, 133)) true),
 (139, .mk false 1 8 (T.d (D.v Value.nilFunc)) none [] none true),
 (145, .mk true 2 16 (T.d (D.agg [D.v (Value.int IntKind.i64 0), D.v (Value.int IntKind.i64 0)])) none [] (some (2, 3)) true),
 (150, .mk false 1 8 (T.d (D.v (Value.int IntKind.u64 0))) none [] none true),
 (151, .mk false 1 24 (T.d (D.v (Value.slice none 0 0))) (some 145) [] none true),
 (163, .mk false 1 8 (T.d (D.v (Value.int IntKind.u64 0))) none [] none true)]
theorem tyl_ok : tyl.map (fun p => tiOf Try.prog p.1) = tyl.map (fun p => some p.2) := by kernel_rfl
def tb : Tab Try.prog := .mk' tyl tyl_ok
theorem bnd {α β : Type} {o : Option α} {f : α → Option β} {r : β} (h : Option.bind o f = some r) : ∃ x, o = some x ∧ f x = some r := Option.bind_eq_some_iff.1 h
theorem ifP {c : Prop} [Decidable c] {α : Type} {x y r : α} (k : c) (h : (if c then x else y) = r) : x = r := (if_pos k).symm.trans h
theorem ifN {c : Prop} [Decidable c] {α : Type} {x y r : α} (k : ¬ c) (h : (if c then x else y) = r) : y = r := (if_neg k).symm.trans h
theorem ifF {b : Bool} {α : Type} {x y r : α} (k : b = false) (h : (if b = true then x else y) = r) : y = r := (if_neg (by rw [k]; exact Bool.false_ne_true)).symm.trans h
theorem fin_0 {P : Program} {fn : Func} {n0 : Nat} {rs : List ResultVar} {us : List T} {st : St} {y t : T} (h0 : Nat.beq n0 0 = true) (hres : fn.results.toList = rs) (ht : t.sc 0 = true) (h : ResTs P st rs us) (hu : tupT us = t.ren (kap []) := by rfl) (hy : t = y := by rfl) : Fin P fn n0 (fun se L' => se = .ret y ∧ L' = []) .ret st := by
 obtain rfl := Nat.eq_of_beq_eq_true h0
 subst hy
 exact fin_S (t := t) (L := []) (κ := []) hres h (vwK rfl rfl .nil (.cons hu ht .nil)) ⟨rfl, rfl⟩
theorem R {α : Sort _} {a : α} : a = a := rfl
theorem eN {P : Program} {N : Nat} {K : St → Prop} {Q : SX → St → Prop} {ops : Array Oper} {tr : List Stp} {st : St} (h : K st) : EvK P N ops [] st tr (endK (thenQ K Q .norm)) := ev_end (then_norm h)
theorem qG {P : Program} {n0 N : Nat} {df : List Deferred} {Q : SX → St → Prop} {st : St} {id : Nat} {l : List Oper} {y : Code} (h : EvK P N l.toArray l st [] (endK (thenQ (SW P n0 N df y Q) Q .norm))) : SW P n0 N df (.seq (.region id l.toArray false) y) Q st := sw_seq (sw_rg h)
theorem sI {α : Type} {a b : α} (h : some a = some b) : a = b := Option.some.inj h
instance : Inhabited ByteArray := ⟨ByteArray.empty⟩
structure Span where
 lo : Int
 hi : Int
 deriving Inhabited
def Span.d (x : Span) : D := .agg [.v (.int .i64 x.lo), .v (.int .i64 x.hi)]
structure Arr2Int where
 c0 : Int
 c1 : Int
 deriving Inhabited
def Arr2Int.d (x : Arr2Int) : D := .agg [.v (.int .i64 x.c0), .v (.int .i64 x.c1)]
structure WiTeam where
 name : ByteArray
 priority : Int
 need : Int
 credit : Int
 kinds : (List Int)
 wind : Int
 rest : Int
 setup : Int
 away : (List Span)
 deriving Inhabited
def WiTeam.d (x : WiTeam) : D := .agg [.v (.string x.name), .v (.int .i64 x.priority), .v (.int .i64 x.need), .v (.int .i64 x.credit), .arr 1 ((x.kinds).map vI), .v (.int .i64 x.wind), .v (.int .i64 x.rest), .v (.int .i64 x.setup), .arr 2 ((x.away).map Span.d)]
structure WiWindow where
 day : Int
 from_ : Int
 until_ : Int
 deriving Inhabited
def WiWindow.d (x : WiWindow) : D := .agg [.v (.int .i64 x.day), .v (.int .i64 x.from_), .v (.int .i64 x.until_)]
structure Table where
 p_Teams : (List WiTeam)
 p_Windows : (List WiWindow)
 p_Cost : Int
 p_Gift : Int
 s_Used : (List Int)
 s_Credit : (List Int)
 s_Last : (List Int)
 s_Next : Int
 sky_Kinds : (List Int)
 sky_Wind : Int
 w_Day : Int
 w_From : Int
 w_Until : Int
 minute : Int
 done : (List (Int × Bool))
 given : Int
 by_ : Int
 over : Bool
 use_Window : Int
 use_Team : Int
 use_At : Int
 use_By : Int
 deriving Inhabited
def Table.d (x : Table) : D := .agg [.arr 9 ((x.p_Teams).map WiTeam.d), .arr 3 ((x.p_Windows).map WiWindow.d), .v (.int .i64 x.p_Cost), .v (.int .i64 x.p_Gift), .arr 1 ((x.s_Used).map vI), .arr 1 ((x.s_Credit).map vI), .arr 1 ((x.s_Last).map vI), .v (.int .i64 x.s_Next), .arr 1 ((x.sky_Kinds).map vI), .v (.int .i64 x.sky_Wind), .v (.int .i64 x.w_Day), .v (.int .i64 x.w_From), .v (.int .i64 x.w_Until), .v (.int .i64 x.minute), .mp ((x.done).map fun p => .int .i64 p.1) ((x.done).map fun p => .v (.bool p.2)), .v (.int .i64 x.given), .v (.int .i64 x.by_), .v (.bool x.over), .v (.int .i64 x.use_Window), .v (.int .i64 x.use_Team), .v (.int .i64 x.use_At), .v (.int .i64 x.use_By)]
structure WiState where
 used : (List Int)
 credit : (List Int)
 last : (List Int)
 next : Int
 deriving Inhabited
def WiState.d (x : WiState) : D := .agg [.arr 1 ((x.used).map vI), .arr 1 ((x.credit).map vI), .arr 1 ((x.last).map vI), .v (.int .i64 x.next)]
structure WiPlan where
 teams : (List WiTeam)
 windows : (List WiWindow)
 cost : Int
 gift : Int
 deriving Inhabited
def WiPlan.d (x : WiPlan) : D := .agg [.arr 9 ((x.teams).map WiTeam.d), .arr 3 ((x.windows).map WiWindow.d), .v (.int .i64 x.cost), .v (.int .i64 x.gift)]
structure WiSky where
 kinds : (List Int)
 wind : Int
 deriving Inhabited
def WiSky.d (x : WiSky) : D := .agg [.arr 1 ((x.kinds).map vI), .v (.int .i64 x.wind)]
structure WiUse where
 window : Int
 team : Int
 at_ : Int
 by_ : Int
 deriving Inhabited
def WiUse.d (x : WiUse) : D := .agg [.v (.int .i64 x.window), .v (.int .i64 x.team), .v (.int .i64 x.at_), .v (.int .i64 x.by_)]
structure WiTurn where
 what : Int
 at_ : Int
 to_ : Int
 deriving Inhabited
def WiTurn.d (x : WiTurn) : D := .agg [.v (.int .i64 x.what), .v (.int .i64 x.at_), .v (.int .i64 x.to_)]
structure WiNight where
 sky_Kinds : (List Int)
 sky_Wind : Int
 turns : (List WiTurn)
 deriving Inhabited
def WiNight.d (x : WiNight) : D := .agg [.arr 1 ((x.sky_Kinds).map vI), .v (.int .i64 x.sky_Wind), .arr 3 ((x.turns).map WiTurn.d)]
structure Desk where
 s_Used : (List Int)
 s_Credit : (List Int)
 s_Last : (List Int)
 s_Next : Int
 minute : Int
 done : (List Int)
 given : Int
 by_ : Int
 over : Bool
 use_Window : Int
 use_Team : Int
 use_At : Int
 use_By : Int
 deriving Inhabited
def Desk.d (x : Desk) : D := .agg [.arr 1 ((x.s_Used).map vI), .arr 1 ((x.s_Credit).map vI), .arr 1 ((x.s_Last).map vI), .v (.int .i64 x.s_Next), .v (.int .i64 x.minute), .arr 1 ((x.done).map vI), .v (.int .i64 x.given), .v (.int .i64 x.by_), .v (.bool x.over), .v (.int .i64 x.use_Window), .v (.int .i64 x.use_Team), .v (.int .i64 x.use_At), .v (.int .i64 x.use_By)]
abbrev lvI (w : List Int) : Rw := ⟨1, w.map fun a => .d (vI a)⟩
abbrev WiState_T1 (x : WiState) (a0 a1 a2 : Nat) : T := .agg [.row a0 1 0 x.used.length, .row a1 1 0 x.credit.length, .row a2 1 0 x.last.length, .d (.v (.int .i64 x.next))]
abbrev Table_T1 (x : Table) (a0 a1 a2 a3 : Nat) : T := .agg [.d (.arr 9 ((x.p_Teams).map WiTeam.d)), .d (.arr 3 ((x.p_Windows).map WiWindow.d)), .d (.v (.int .i64 x.p_Cost)), .d (.v (.int .i64 x.p_Gift)), .row a0 1 0 x.s_Used.length, .row a1 1 0 x.s_Credit.length, .row a2 1 0 x.s_Last.length, .d (.v (.int .i64 x.s_Next)), .d (.arr 1 ((x.sky_Kinds).map vI)), .d (.v (.int .i64 x.sky_Wind)), .d (.v (.int .i64 x.w_Day)), .d (.v (.int .i64 x.w_From)), .d (.v (.int .i64 x.w_Until)), .d (.v (.int .i64 x.minute)), .mp a3, .d (.v (.int .i64 x.given)), .d (.v (.int .i64 x.by_)), .d (.v (.bool x.over)), .d (.v (.int .i64 x.use_Window)), .d (.v (.int .i64 x.use_Team)), .d (.v (.int .i64 x.use_At)), .d (.v (.int .i64 x.use_By))]
abbrev m1w (w : List (Int × Bool)) : Rw := ⟨0, w.map fun p => .agg [.d (.v (.int .i64 p.1)), .d (.v (.bool p.2))]⟩
abbrev lWiUsed (w : List WiUse) : Rw := ⟨4, w.map fun a => .d (WiUse.d a)⟩
abbrev Desk_T1 (x : Desk) (a0 a1 a2 : Nat) : T := .agg [.row a0 1 0 x.s_Used.length, .row a1 1 0 x.s_Credit.length, .row a2 1 0 x.s_Last.length, .d (.v (.int .i64 x.s_Next)), .d (.v (.int .i64 x.minute)), .d (.arr 1 ((x.done).map vI)), .d (.v (.int .i64 x.given)), .d (.v (.int .i64 x.by_)), .d (.v (.bool x.over)), .d (.v (.int .i64 x.use_Window)), .d (.v (.int .i64 x.use_Team)), .d (.v (.int .i64 x.use_At)), .d (.v (.int .i64 x.use_By))]
abbrev Desk_T2 (x : Desk) (a0 a1 a2 a3 : Nat) : T := .agg [.row a0 1 0 x.s_Used.length, .row a1 1 0 x.s_Credit.length, .row a2 1 0 x.s_Last.length, .d (.v (.int .i64 x.s_Next)), .d (.v (.int .i64 x.minute)), .row a3 1 0 x.done.length, .d (.v (.int .i64 x.given)), .d (.v (.int .i64 x.by_)), .d (.v (.bool x.over)), .d (.v (.int .i64 x.use_Window)), .d (.v (.int .i64 x.use_Team)), .d (.v (.int .i64 x.use_At)), .d (.v (.int .i64 x.use_By))]
abbrev Desk_T3 (x : Desk) (a0 : Nat) : T := .agg [.d (.arr 1 ((x.s_Used).map vI)), .d (.arr 1 ((x.s_Credit).map vI)), .d (.arr 1 ((x.s_Last).map vI)), .d (.v (.int .i64 x.s_Next)), .d (.v (.int .i64 x.minute)), .row a0 1 0 x.done.length, .d (.v (.int .i64 x.given)), .d (.v (.int .i64 x.by_)), .d (.v (.bool x.over)), .d (.v (.int .i64 x.use_Window)), .d (.v (.int .i64 x.use_Team)), .d (.v (.int .i64 x.use_At)), .d (.v (.int .i64 x.use_By))]
abbrev Desk_T4 (x : Desk) (a0 a1 a2 : Nat) : T := .agg [.d (.arr 1 ((x.s_Used).map vI)), .row a0 1 0 x.s_Credit.length, .row a1 1 0 x.s_Last.length, .d (.v (.int .i64 x.s_Next)), .d (.v (.int .i64 x.minute)), .row a2 1 0 x.done.length, .d (.v (.int .i64 x.given)), .d (.v (.int .i64 x.by_)), .d (.v (.bool x.over)), .d (.v (.int .i64 x.use_Window)), .d (.v (.int .i64 x.use_Team)), .d (.v (.int .i64 x.use_At)), .d (.v (.int .i64 x.use_By))]
abbrev Desk_T5 (x : Desk) (a0 a1 : Nat) : T := .agg [.d (.arr 1 ((x.s_Used).map vI)), .d (.arr 1 ((x.s_Credit).map vI)), .row a0 1 0 x.s_Last.length, .d (.v (.int .i64 x.s_Next)), .d (.v (.int .i64 x.minute)), .row a1 1 0 x.done.length, .d (.v (.int .i64 x.given)), .d (.v (.int .i64 x.by_)), .d (.v (.bool x.over)), .d (.v (.int .i64 x.use_Window)), .d (.v (.int .i64 x.use_Team)), .d (.v (.int .i64 x.use_At)), .d (.v (.int .i64 x.use_By))]
abbrev lSpand (w : List Span) : Rw := ⟨2, w.map fun a => .d (Span.d a)⟩
abbrev lWiWindowd (w : List WiWindow) : Rw := ⟨3, w.map fun a => .d (WiWindow.d a)⟩
abbrev lWiTurnd (w : List WiTurn) : Rw := ⟨3, w.map fun a => .d (WiTurn.d a)⟩
abbrev lv8 (w : List Int) : Rw := ⟨1, w.map fun a => .d (v8 a)⟩
abbrev lWiTeamd (w : List WiTeam) : Rw := ⟨9, w.map fun a => .d (WiTeam.d a)⟩
abbrev WiPlan_T1 (x : WiPlan) (a0 a1 : Nat) : T := .agg [.row a0 9 0 x.teams.length, .row a1 3 0 x.windows.length, .d (.v (.int .i64 x.cost)), .d (.v (.int .i64 x.gift))]
abbrev lWiNightd (w : List WiNight) : Rw := ⟨3, w.map fun a => .d (WiNight.d a)⟩
def WiUse.beq (x y : WiUse) : Bool := (x.window == y.window) && (x.team == y.team) && (x.at_ == y.at_) && (x.by_ == y.by_)
set_option maxHeartbeats 1000000 in
theorem eq44 (x y : WiUse) (o1 o2 : Operand) (w : World) : (do eqGuard .eql 44 o1 o2 (.agg [.int .i64 x.window, .int .i64 x.team, .int .i64 x.at_, .int .i64 x.by_].toArray) (.agg [.int .i64 y.window, .int .i64 y.team, .int .i64 y.at_, .int .i64 y.by_].toArray); binOp .eql 44 (.agg [.int .i64 x.window, .int .i64 x.team, .int .i64 x.at_, .int .i64 x.by_].toArray) (.agg [.int .i64 y.window, .int .i64 y.team, .int .i64 y.at_, .int .i64 y.by_].toArray) : Sem Value).run Try.prog w = .ok (.bool (WiUse.beq x y)) w := by
 have hg : Try.prog.eqGuardType Try.prog.depth 44 = false := by kernel_rfl
 have hS : Try.prog.underlying 44 = some (.struct (Try.prog.fieldsOf 44)) := by kernel_rfl
 have u3 := Try.underlying3
 have a3 := Try.isAgg3
 have z3 := Try.sizeOf3
 have h2 : (binOp .eql 44 (.agg [.int .i64 x.window, .int .i64 x.team, .int .i64 x.at_, .int .i64 x.by_].toArray) (.agg [.int .i64 y.window, .int .i64 y.team, .int .i64 y.at_, .int .i64 y.by_].toArray)).run Try.prog w = .ok (.bool (WiUse.beq x y)) w := by
  rw [run_eql_struct, show (10000 : Nat) = 9999 + 1 from rfl, run_equalIn_agg w 9999 44 _ _ hS (by kernel_rfl)]
  simp only [Program.fieldsOf, Try.underlying44, WiUse.beq]
  go_simp
  by_cases h1 : x.window = y.window <;> by_cases h2 : x.team = y.team <;> by_cases h3 : x.at_ = y.at_ <;> by_cases h4 : x.by_ = y.by_ <;> simp [h1, h2, h3, h4]
 simp [eqGuard, hg, h2]
set_option maxHeartbeats 1000000 in
theorem ne44 (x y : WiUse) (o1 o2 : Operand) (w : World) : (do eqGuard .neq 44 o1 o2 (.agg [.int .i64 x.window, .int .i64 x.team, .int .i64 x.at_, .int .i64 x.by_].toArray) (.agg [.int .i64 y.window, .int .i64 y.team, .int .i64 y.at_, .int .i64 y.by_].toArray); binOp .neq 44 (.agg [.int .i64 x.window, .int .i64 x.team, .int .i64 x.at_, .int .i64 x.by_].toArray) (.agg [.int .i64 y.window, .int .i64 y.team, .int .i64 y.at_, .int .i64 y.by_].toArray) : Sem Value).run Try.prog w = .ok (.bool (!WiUse.beq x y)) w := by
 have hg : Try.prog.eqGuardType Try.prog.depth 44 = false := by kernel_rfl
 have hS : Try.prog.underlying 44 = some (.struct (Try.prog.fieldsOf 44)) := by kernel_rfl
 have u3 := Try.underlying3
 have a3 := Try.isAgg3
 have z3 := Try.sizeOf3
 have h2 : (binOp .neq 44 (.agg [.int .i64 x.window, .int .i64 x.team, .int .i64 x.at_, .int .i64 x.by_].toArray) (.agg [.int .i64 y.window, .int .i64 y.team, .int .i64 y.at_, .int .i64 y.by_].toArray)).run Try.prog w = .ok (.bool (!WiUse.beq x y)) w := by
  rw [run_neq_struct, show (10000 : Nat) = 9999 + 1 from rfl, run_equalIn_agg w 9999 44 _ _ hS (by kernel_rfl)]
  simp only [Program.fieldsOf, Try.underlying44, WiUse.beq]
  go_simp
  by_cases h1 : x.window = y.window <;> by_cases h2 : x.team = y.team <;> by_cases h3 : x.at_ = y.at_ <;> by_cases h4 : x.by_ = y.by_ <;> simp [h1, h2, h3, h4]
 simp [eqGuard, hg, h2]
end Go.Proofs.Ytdefnmcjmklohaa
