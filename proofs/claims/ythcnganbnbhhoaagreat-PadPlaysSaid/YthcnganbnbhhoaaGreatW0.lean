/- The types of the program as a table, its structs in plain words. -/
import Derived.Test.YthcnganbnbhhoaaGreatProg
import Derived.KernelRfl
import Derived.Test.YthcnganbnbhhoaaGreatSq
open Go Go.Proofs.YthcnganbnbhhoaaGreat.Sh Go.Proofs
namespace Go.Proofs.YthcnganbnbhhoaaGreat
set_option linter.unusedVariables false
set_option linter.unusedSimpArgs false
set_option maxRecDepth 100000
def tyl : List (Nat × TI) := [(3, .mk false 1 8 (T.d (D.v (Value.int IntKind.i64 0))) none [] none true),
 (4, .mk false 1 1 (T.d (D.v (Value.bool false))) none [] none true),
 (5, .mk false 1 1 (T.d (D.v (Value.int IntKind.u8 0))) none [] none true),
 (9, .mk false 1 16 (T.d (D.v (Value.string (ByteArray.mk (Array.mk []))))) none [] none true),
 (22, .mk false 1 24 (T.d (D.v (Value.slice none 0 0))) (some 96) [] none true),
 (23, .mk false 1 24 (T.d (D.v (Value.slice none 0 0))) (some 98) [] none true),
 (24, .mk false 1 24 (T.d (D.v (Value.slice none 0 0))) (some 100) [] none true),
 (25, .mk false 1 24 (T.d (D.v (Value.slice none 0 0))) (some 9) [] none true),
 (26, .mk false 1 24 (T.d (D.v (Value.slice none 0 0))) (some 104) [] none true),
 (28, .mk true 7 136 (T.d (D.agg [D.v (Value.slice none 0 0), D.v (Value.slice none 0 0), D.v (Value.slice none 0 0), D.v (Value.slice none 0 0), D.v (Value.slice none 0 0), D.v (Value.int IntKind.i64 0), D.v (Value.int IntKind.i64 0)])) none [(0, false, 1), (1, false, 1), (2, false, 1), (3, false, 1), (4, false, 1), (5, false, 1), (6, false, 1)] none true),
 (29, .mk false 1 24 (T.d (D.v (Value.slice none 0 0))) (some 3) [] none true),
 (31, .mk true 6 96 (T.d (D.agg [D.v (Value.int IntKind.i64 0), D.v (Value.slice none 0 0), D.v (Value.slice none 0 0), D.v (Value.slice none 0 0), D.v (Value.int IntKind.i64 0), D.v (Value.bool false)])) none [(0, false, 1), (1, false, 1), (2, false, 1), (3, false, 1), (4, false, 1), (5, false, 1)] none true),
 (32, .mk false 1 24 (T.d (D.v (Value.slice none 0 0))) (some 42) [] none true),
 (33, .mk false 1 24 (T.d (D.v (Value.slice none 0 0))) (some 34) [] none true),
 (34, .mk false 1 8 (T.d (D.v (Value.int IntKind.i64 0))) none [] none true),
 (42, .mk true 5 40 (T.d (D.agg [D.v (Value.int IntKind.i64 0), D.v (Value.int IntKind.i64 0), D.v (Value.int IntKind.i64 0), D.v (Value.int IntKind.i64 0), D.v (Value.int IntKind.i64 0)])) none [(0, false, 1), (1, false, 1), (2, false, 1), (3, false, 1), (4, false, 1)] none true),
 (52, .mk false 1 24 (T.d (D.v (Value.slice none 0 0))) (some 56) [] none true),
 (56, .mk true 2 16 (T.d (D.agg [D.v (Value.int IntKind.i64 0), D.v (Value.int IntKind.i64 0)])) none [(0, false, 1), (1, false, 1)] none true),
 (60, .mk true 13 232 (T.d (D.agg [D.v (Value.slice none 0 0), D.v (Value.slice none 0 0), D.v (Value.slice none 0 0), D.v (Value.slice none 0 0), D.v (Value.slice none 0 0), D.v (Value.int IntKind.i64 0), D.v (Value.int IntKind.i64 0), D.v (Value.int IntKind.i64 0), D.v (Value.slice none 0 0), D.v (Value.slice none 0 0), D.v (Value.slice none 0 0), D.v (Value.int IntKind.i64 0), D.v (Value.bool false)])) none [(0, true, 7), (7, true, 6)] none true),
 (61, .mk false 1 8 (T.d (D.v (Value.pointer none))) none [] none true),
 (81, .mk false 1 8 (T.d (D.v Value.nilFunc)) none [] none true),
 (86, .mk false 1 8 (T.d (D.v Value.nilFunc)) none [] none true),
 (87, .mk true 10 80 (T.d (D.agg [D.v Value.nilFunc, D.v Value.nilFunc, D.v Value.nilFunc, D.v Value.nilFunc, D.v Value.nilFunc, D.v Value.nilFunc, D.v Value.nilFunc, D.v Value.nilFunc, D.v Value.nilFunc, D.v Value.nilFunc])) none [] (some (10, 86)) true),
 (91, .mk true 2 16 (T.d (D.agg [D.v (Value.int IntKind.i64 0), D.v (Value.int IntKind.i64 0)])) none [(0, false, 1), (1, false, 1)] none true),
 (93, .mk true 4 32 (T.d (D.agg [D.v (Value.int IntKind.i64 0), D.v (Value.int IntKind.i64 0), D.v (Value.int IntKind.i64 0), D.v (Value.int IntKind.i64 0)])) none [(0, true, 2), (2, true, 2)] none true),
 (96, .mk true 8 72 (T.d (D.agg [D.v (Value.string (ByteArray.mk (Array.mk []))), D.v (Value.int IntKind.i64 0), D.v (Value.int IntKind.i64 0), D.v (Value.int IntKind.i64 0), D.v (Value.int IntKind.i64 0), D.v (Value.int IntKind.i64 0), D.v (Value.int IntKind.i64 0), D.v (Value.bool false)])) none [(0, false, 1), (1, true, 4), (5, false, 1), (6, false, 1), (7, false, 1)] none true),
 (98, .mk true 2 16 (T.d (D.agg [D.v (Value.int IntKind.i64 0), D.v (Value.int IntKind.i64 0)])) none [(0, false, 1), (1, false, 1)] none true),
 (100, .mk true 2 24 (T.d (D.agg [D.v (Value.string (ByteArray.mk (Array.mk []))), D.v (Value.int IntKind.i64 0)])) none [(0, false, 1), (1, false, 1)] none true),
 (102, .mk true 2 16 (T.d (D.agg [D.v (Value.int IntKind.i64 0), D.v (Value.int IntKind.i64 0)])) none [(0, false, 1), (1, false, 1)] none true),
 (104, .mk true 6 72 (T.d (D.agg [D.v (Value.string (ByteArray.mk (Array.mk []))), D.v (Value.int IntKind.i64 0), D.v (Value.int IntKind.i64 0), D.v (Value.int IntKind.i64 0), D.v (Value.int IntKind.i64 0), D.v (Value.slice none 0 0)])) none [(0, false, 1), (1, true, 2), (3, false, 1), (4, false, 1), (5, false, 1)] none true),
 (107, .mk false 1 8 (T.d (D.v Value.nilFunc)) none [] none true),
 (108, .mk false 1 8 (T.d (D.v Value.nilFunc)) none [] none true),
 (110, .mk false 1 8 (T.d (D.v Value.nilFunc)) none [] none true),
 (111, .mk false 1 8 (T.d (D.v Value.nilFunc)) none [] none true),
 (112, .mk false 1 8 (T.d (D.v Value.nilFunc)) none [] none true),
 (114, .mk false 1 8 (T.d (D.v Value.nilFunc)) none [] none true),
 (115, .mk false 1 8 (T.d (D.v Value.nilFunc)) none [] none true),
 (117, .mk false 1 8 (T.d (D.v Value.nilFunc)) none [] none true),
 (119, .mk false 1 8 (T.d (D.v Value.nilFunc)) none [] none true),
 (129, .mk false 1 8 (T.d (D.v (Value.int IntKind.u64 0))) none [] none true),
 (145, .mk false 1 8 (T.d (D.v Value.nilFunc)) none [] none true),
 (149, .mk false 1 8 (T.d (D.v (Value.int IntKind.u64 0))) none [] none true),
 (152, .mk false 1 24 (T.d (D.v (Value.slice none 0 0))) (some 5) [] none true)]
theorem tyl_ok : tyl.map (fun p => tiOf Tryz.prog p.1) = tyl.map (fun p => some p.2) := by kernel_rfl
def tb : Tab Tryz.prog := .mk' tyl tyl_ok
theorem bnd {α β : Type} {o : Option α} {f : α → Option β} {r : β} (h : Option.bind o f = some r) : ∃ x, o = some x ∧ f x = some r := Option.bind_eq_some_iff.1 h
theorem ifP {c : Prop} [Decidable c] {α : Type} {x y r : α} (k : c) (h : (if c then x else y) = r) : x = r := (if_pos k).symm.trans h
theorem ifN {c : Prop} [Decidable c] {α : Type} {x y r : α} (k : ¬ c) (h : (if c then x else y) = r) : y = r := (if_neg k).symm.trans h
theorem ifF {b : Bool} {α : Type} {x y r : α} (k : b = false) (h : (if b = true then x else y) = r) : y = r := (if_neg (by rw [k]; exact Bool.false_ne_true)).symm.trans h
theorem fin_0 {P : Program} {fn : Func} {n0 : Nat} {rs : List ResultVar} {us : List T} {st : St} {y t : T} (h0 : Nat.beq n0 0 = true) (hres : fn.results.toList = rs) (ht : t.sc 0 = true) (h : ResTs P st rs us) (hu : tupT us = t.ren (kap []) := by rfl) (hy : t = y := by rfl) : Fin P fn n0 (fun se L' => se = .ret y ∧ L' = []) .ret st := by
 obtain rfl := Nat.eq_of_beq_eq_true h0
 subst hy
 exact fin_S (t := t) (L := []) (κ := []) hres h (vwK rfl rfl .nil (.cons hu ht .nil)) ⟨rfl, rfl⟩
theorem R {α : Sort _} {a : α} : a = a := rfl
theorem eN {P : Program} {N : Nat} {K : St → Prop} {Q : SX → St → Prop} {ops : Array Oper} {tr : List Stp} {st : St} (h : K st) : EvK P N ops [] st tr (endK (thenQ K Q .norm)) := ev_end (then_norm h)
theorem qG {P : Program} {n0 N : Nat} {df : List Deferred} {Q : SX → St → Prop} {st : St} {id : Nat} {l : List Oper} {y : Code} (h : EvK P N l.toArray l st [] (endK (thenQ (SW P n0 N df y Q) Q .norm))) : SW P n0 N df (.seq (.region id l.toArray false) y) Q st := sw_seq (sw_rg h)
theorem sI {α : Type} {a b : α} (h : some a = some b) : a = b := Option.some.inj h
instance : Inhabited ByteArray := ⟨ByteArray.empty⟩
structure Span where
 lo : Int
 hi : Int
 deriving Inhabited
def Span.d (x : Span) : D := .agg [.v (.int .i64 x.lo), .v (.int .i64 x.hi)]
structure PdZone where
 name : ByteArray
 area_X_Lo : Int
 area_X_Hi : Int
 area_Y_Lo : Int
 area_Y_Hi : Int
 grade : Int
 room : Int
 pair : Bool
 deriving Inhabited
def PdZone.d (x : PdZone) : D := .agg [.v (.string x.name), .v (.int .i64 x.area_X_Lo), .v (.int .i64 x.area_X_Hi), .v (.int .i64 x.area_Y_Lo), .v (.int .i64 x.area_Y_Hi), .v (.int .i64 x.grade), .v (.int .i64 x.room), .v (.bool x.pair)]
structure PdDoor where
 a : Int
 b : Int
 deriving Inhabited
def PdDoor.d (x : PdDoor) : D := .agg [.v (.int .i64 x.a), .v (.int .i64 x.b)]
structure PdPerson where
 name : ByteArray
 grade : Int
 deriving Inhabited
def PdPerson.d (x : PdPerson) : D := .agg [.v (.string x.name), .v (.int .i64 x.grade)]
structure PdSquib where
 name : ByteArray
 at_X : Int
 at_Y : Int
 clear : Int
 grade : Int
 keys : (List Int)
 deriving Inhabited
def PdSquib.d (x : PdSquib) : D := .agg [.v (.string x.name), .v (.int .i64 x.at_X), .v (.int .i64 x.at_Y), .v (.int .i64 x.clear), .v (.int .i64 x.grade), .arr 1 ((x.keys).map vI)]
structure PdPad where
 zones : (List PdZone)
 doors : (List PdDoor)
 people : (List PdPerson)
 keys : (List ByteArray)
 squibs : (List PdSquib)
 panel : Int
 wait : Int
 deriving Inhabited
def PdPad.d (x : PdPad) : D := .agg [.arr 8 ((x.zones).map PdZone.d), .arr 2 ((x.doors).map PdDoor.d), .arr 2 ((x.people).map PdPerson.d), .arr 1 ((x.keys).map vS), .arr 6 ((x.squibs).map PdSquib.d), .v (.int .i64 x.panel), .v (.int .i64 x.wait)]
structure Area where
 x_Lo : Int
 x_Hi : Int
 y_Lo : Int
 y_Hi : Int
 deriving Inhabited
def Area.d (x : Area) : D := .agg [.v (.int .i64 x.x_Lo), .v (.int .i64 x.x_Hi), .v (.int .i64 x.y_Lo), .v (.int .i64 x.y_Hi)]
structure PdState where
 now : Int
 zones : (List Int)
 holder : (List Int)
 squibs : (List Int)
 siren : Int
 storm : Bool
 deriving Inhabited
def PdState.d (x : PdState) : D := .agg [.v (.int .i64 x.now), .arr 1 ((x.zones).map vI), .arr 1 ((x.holder).map vI), .arr 1 ((x.squibs).map vI), .v (.int .i64 x.siren), .v (.bool x.storm)]
structure PdAct where
 at_ : Int
 kind : Int
 who : Int
 what : Int
 with_ : Int
 deriving Inhabited
def PdAct.d (x : PdAct) : D := .agg [.v (.int .i64 x.at_), .v (.int .i64 x.kind), .v (.int .i64 x.who), .v (.int .i64 x.what), .v (.int .i64 x.with_)]
structure PdDanger where
 squib : Int
 person : Int
 deriving Inhabited
def PdDanger.d (x : PdDanger) : D := .agg [.v (.int .i64 x.squib), .v (.int .i64 x.person)]
structure Scene where
 p_Zones : (List PdZone)
 p_Doors : (List PdDoor)
 p_People : (List PdPerson)
 p_Keys : (List ByteArray)
 p_Squibs : (List PdSquib)
 p_Panel : Int
 p_Wait : Int
 pdState_Now : Int
 pdState_Zones : (List Int)
 pdState_Holder : (List Int)
 pdState_Squibs : (List Int)
 pdState_Siren : Int
 pdState_Storm : Bool
 deriving Inhabited
def Scene.d (x : Scene) : D := .agg [.arr 8 ((x.p_Zones).map PdZone.d), .arr 2 ((x.p_Doors).map PdDoor.d), .arr 2 ((x.p_People).map PdPerson.d), .arr 1 ((x.p_Keys).map vS), .arr 6 ((x.p_Squibs).map PdSquib.d), .v (.int .i64 x.p_Panel), .v (.int .i64 x.p_Wait), .v (.int .i64 x.pdState_Now), .arr 1 ((x.pdState_Zones).map vI), .arr 1 ((x.pdState_Holder).map vI), .arr 1 ((x.pdState_Squibs).map vI), .v (.int .i64 x.pdState_Siren), .v (.bool x.pdState_Storm)]
structure Place where
 x : Int
 y : Int
 deriving Inhabited
def Place.d (x : Place) : D := .agg [.v (.int .i64 x.x), .v (.int .i64 x.y)]
abbrev lvS (w : List ByteArray) : Rw := ⟨1, w.map fun a => .d (vS a)⟩
abbrev lvI (w : List Int) : Rw := ⟨1, w.map fun a => .d (vI a)⟩
abbrev PdState_T1 (x : PdState) (a0 a1 a2 : Nat) : T := .agg [.d (.v (.int .i64 x.now)), .row a0 1 0 x.zones.length, .row a1 1 0 x.holder.length, .row a2 1 0 x.squibs.length, .d (.v (.int .i64 x.siren)), .d (.v (.bool x.storm))]
abbrev lPdDangerd (w : List PdDanger) : Rw := ⟨2, w.map fun a => .d (PdDanger.d a)⟩
abbrev m1w (w : List (ByteArray × Bool)) : Rw := ⟨0, w.map fun p => .agg [.d (.v (.string p.1)), .d (.v (.bool p.2))]⟩
abbrev Scene_T1 (x : Scene) (a0 a1 a2 : Nat) : T := .agg [.d (.arr 8 ((x.p_Zones).map PdZone.d)), .d (.arr 2 ((x.p_Doors).map PdDoor.d)), .d (.arr 2 ((x.p_People).map PdPerson.d)), .d (.arr 1 ((x.p_Keys).map vS)), .d (.arr 6 ((x.p_Squibs).map PdSquib.d)), .d (.v (.int .i64 x.p_Panel)), .d (.v (.int .i64 x.p_Wait)), .d (.v (.int .i64 x.pdState_Now)), .row a0 1 0 x.pdState_Zones.length, .row a1 1 0 x.pdState_Holder.length, .row a2 1 0 x.pdState_Squibs.length, .d (.v (.int .i64 x.pdState_Siren)), .d (.v (.bool x.pdState_Storm))]
abbrev PdSquib_T1 (x : PdSquib) (a0 : Nat) : T := .agg [.d (.v (.string x.name)), .d (.v (.int .i64 x.at_X)), .d (.v (.int .i64 x.at_Y)), .d (.v (.int .i64 x.clear)), .d (.v (.int .i64 x.grade)), .row a0 1 0 x.keys.length]
abbrev lPdZoned (w : List PdZone) : Rw := ⟨8, w.map fun a => .d (PdZone.d a)⟩
abbrev lPdDoord (w : List PdDoor) : Rw := ⟨2, w.map fun a => .d (PdDoor.d a)⟩
abbrev lPdPersond (w : List PdPerson) : Rw := ⟨2, w.map fun a => .d (PdPerson.d a)⟩
abbrev lPdActd (w : List PdAct) : Rw := ⟨5, w.map fun a => .d (PdAct.d a)⟩
def PdDoor.beq (x y : PdDoor) : Bool := (x.a == y.a) && (x.b == y.b)
set_option maxHeartbeats 1000000 in
theorem eq98 (x y : PdDoor) (o1 o2 : Operand) (w : World) : (do eqGuard .eql 98 o1 o2 (.agg [.int .i64 x.a, .int .i64 x.b].toArray) (.agg [.int .i64 y.a, .int .i64 y.b].toArray); binOp .eql 98 (.agg [.int .i64 x.a, .int .i64 x.b].toArray) (.agg [.int .i64 y.a, .int .i64 y.b].toArray) : Sem Value).run Tryz.prog w = .ok (.bool (PdDoor.beq x y)) w := by
 have hg : Tryz.prog.eqGuardType Tryz.prog.depth 98 = false := by kernel_rfl
 have hS : Tryz.prog.underlying 98 = some (.struct (Tryz.prog.fieldsOf 98)) := by kernel_rfl
 have u3 := Tryz.underlying3
 have a3 := Tryz.isAgg3
 have z3 := Tryz.sizeOf3
 have h2 : (binOp .eql 98 (.agg [.int .i64 x.a, .int .i64 x.b].toArray) (.agg [.int .i64 y.a, .int .i64 y.b].toArray)).run Tryz.prog w = .ok (.bool (PdDoor.beq x y)) w := by
  rw [run_eql_struct, show (10000 : Nat) = 9999 + 1 from rfl, run_equalIn_agg w 9999 98 _ _ hS (by kernel_rfl)]
  simp only [Program.fieldsOf, Tryz.underlying98, PdDoor.beq]
  go_simp
  by_cases h1 : x.a = y.a <;> by_cases h2 : x.b = y.b <;> simp [h1, h2]
 simp [eqGuard, hg, h2]
set_option maxHeartbeats 1000000 in
theorem ne98 (x y : PdDoor) (o1 o2 : Operand) (w : World) : (do eqGuard .neq 98 o1 o2 (.agg [.int .i64 x.a, .int .i64 x.b].toArray) (.agg [.int .i64 y.a, .int .i64 y.b].toArray); binOp .neq 98 (.agg [.int .i64 x.a, .int .i64 x.b].toArray) (.agg [.int .i64 y.a, .int .i64 y.b].toArray) : Sem Value).run Tryz.prog w = .ok (.bool (!PdDoor.beq x y)) w := by
 have hg : Tryz.prog.eqGuardType Tryz.prog.depth 98 = false := by kernel_rfl
 have hS : Tryz.prog.underlying 98 = some (.struct (Tryz.prog.fieldsOf 98)) := by kernel_rfl
 have u3 := Tryz.underlying3
 have a3 := Tryz.isAgg3
 have z3 := Tryz.sizeOf3
 have h2 : (binOp .neq 98 (.agg [.int .i64 x.a, .int .i64 x.b].toArray) (.agg [.int .i64 y.a, .int .i64 y.b].toArray)).run Tryz.prog w = .ok (.bool (!PdDoor.beq x y)) w := by
  rw [run_neq_struct, show (10000 : Nat) = 9999 + 1 from rfl, run_equalIn_agg w 9999 98 _ _ hS (by kernel_rfl)]
  simp only [Program.fieldsOf, Tryz.underlying98, PdDoor.beq]
  go_simp
  by_cases h1 : x.a = y.a <;> by_cases h2 : x.b = y.b <;> simp [h1, h2]
 simp [eqGuard, hg, h2]
end Go.Proofs.YthcnganbnbhhoaaGreat
