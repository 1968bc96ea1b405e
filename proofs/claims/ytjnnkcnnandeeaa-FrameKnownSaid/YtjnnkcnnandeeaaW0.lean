/- The types of the program as a table, its structs in plain words. -/
import Derived.Test.YtjnnkcnnandeeaaProg
import Derived.KernelRfl
import Derived.Test.YtjnnkcnnandeeaaSa36
set_option linter.unusedVariables false
set_option linter.unusedSimpArgs false
open Go Go.Proofs.Ytjnnkcnnandeeaa.Sh Go.Proofs
namespace Go.Proofs.Ytjnnkcnnandeeaa
set_option maxRecDepth 100000
def tyl : List (Nat × TI) := [(3, .mk false 1 8 (T.d (D.v (Value.int IntKind.i64 0))) none [] none true),
 (4, .mk false 1 1 (T.d (D.v (Value.bool false))) none [] none true),
 (5, .mk false 1 1 (T.d (D.v (Value.int IntKind.u8 0))) none [] none true),
 (9, .mk false 1 16 (T.d (D.v (Value.string (ByteArray.mk (Array.mk []))))) none [] none true),
 (22, .mk false 1 24 (T.d (D.v (Value.slice none 0 0))) (some 5) [] none true),
 (26, .mk false 1 24 (T.d (D.v (Value.slice none 0 0))) (some 83) [] none true),
 (28, .mk true 4 56 (T.d (D.agg [D.v (Value.string (ByteArray.mk (Array.mk []))), D.v (Value.int IntKind.i64 0), D.v (Value.int IntKind.i64 0), D.v (Value.slice none 0 0)])) none [(0, false, 1), (1, false, 1), (2, false, 1), (3, false, 1)] none true),
 (29, .mk false 1 24 (T.d (D.v (Value.slice none 0 0))) (some 3) [] none true),
 (30, .mk false 1 8 (T.d (D.v (Value.int IntKind.i64 0))) none [] none true),
 (38, .mk true 2 32 (T.d (D.agg [D.v (Value.slice none 0 0), D.v (Value.int IntKind.i64 0)])) none [(0, false, 1), (1, false, 1)] none true),
 (40, .mk false 1 24 (T.d (D.v (Value.slice none 0 0))) (some 44) [] none true),
 (44, .mk true 2 16 (T.d (D.agg [D.v (Value.int IntKind.i64 0), D.v (Value.int IntKind.i64 0)])) none [(0, false, 1), (1, false, 1)] none true),
 (46, .mk false 1 24 (T.d (D.v (Value.slice none 0 0))) (some 59) [] none true),
 (47, .mk false 1 24 (T.d (D.v (Value.slice none 0 0))) (some 64) [] none true),
 (59, .mk true 3 40 (T.d (D.agg [D.v (Value.int IntKind.i64 0), D.v (Value.int IntKind.i64 0), D.v (Value.slice none 0 0)])) none [(0, false, 1), (1, false, 1), (2, false, 1)] none true),
 (64, .mk true 2 16 (T.d (D.agg [D.v (Value.int IntKind.i64 0), D.v (Value.int IntKind.i64 0)])) none [(0, false, 1), (1, false, 1)] none true),
 (73, .mk false 1 24 (T.d (D.v (Value.slice none 0 0))) (some 94) [] none true),
 (74, .mk false 1 24 (T.d (D.v (Value.slice none 0 0))) (some 100) [] none true),
 (76, .mk true 3 56 (T.d (D.agg [D.v (Value.slice none 0 0), D.v (Value.int IntKind.i64 0), D.v (Value.slice none 0 0)])) none [(0, false, 1), (1, false, 1), (2, false, 1)] none true),
 (83, .mk true 4 40 (T.d (D.agg [D.v (Value.string (ByteArray.mk (Array.mk []))), D.v (Value.int IntKind.i64 0), D.v (Value.int IntKind.i64 0), D.v (Value.int IntKind.i64 0)])) none [(0, false, 1), (1, false, 1), (2, false, 1), (3, false, 1)] none true),
 (84, .mk false 1 24 (T.d (D.v (Value.slice none 0 0))) (some 97) [] none true),
 (85, .mk false 1 24 (T.d (D.v (Value.slice none 0 0))) (some 103) [] none true),
 (94, .mk true 3 24 (T.d (D.agg [D.v (Value.int IntKind.i64 0), D.v (Value.int IntKind.i64 0), D.v (Value.int IntKind.i64 0)])) none [(0, false, 1), (1, false, 1), (2, false, 1)] none true),
 (97, .mk true 5 56 (T.d (D.agg [D.v (Value.int IntKind.i64 0), D.v (Value.int IntKind.i64 0), D.v (Value.int IntKind.i64 0), D.v (Value.bool false), D.v (Value.slice none 0 0)])) none [(0, false, 1), (1, false, 1), (2, false, 1), (3, false, 1), (4, false, 1)] none true),
 (100, .mk true 7 56 (T.d (D.agg [D.v (Value.int IntKind.i64 0), D.v (Value.int IntKind.i64 0), D.v (Value.int IntKind.i64 0), D.v (Value.int IntKind.i64 0), D.v (Value.int IntKind.i64 0), D.v (Value.int IntKind.i64 0), D.v (Value.bool false)])) none [(0, false, 1), (1, false, 1), (2, false, 1), (3, false, 1), (4, false, 1), (5, false, 1), (6, false, 1)] none true),
 (103, .mk true 2 32 (T.d (D.agg [D.v (Value.int IntKind.i64 0), D.v (Value.slice none 0 0)])) none [(0, false, 1), (1, false, 1)] none true),
 (108, .mk false 1 24 (T.d (D.v (Value.slice none 0 0))) (some 38) [] none true),
 (118, .mk false 1 24 (T.d (D.v (Value.slice none 0 0))) (some 22) [] none true),
 (119, .mk false 1 24 (T.d (D.v (Value.slice none 0 0))) (some 84) [] none true),
 (120, .mk false 1 24 (T.d (D.v (Value.slice none 0 0))) (some 85) [] none true),
 (122, .mk false 1 2 (T.d (D.v (Value.int IntKind.u16 0))) none [] none true),
 (129, .mk false 1 8 (T.d (D.v Value.nilFunc)) none [] none true),
 (135, .mk false 1 8 (T.d (D.v Value.nilFunc)) none [] none true),
 (143, .mk false 1 8 (T.d (D.v Value.nilFunc)) none [] none true),
 (149, .mk true 3 24 (T.d (D.agg [D.v (Value.int IntKind.i64 0), D.v (Value.int IntKind.i64 0), D.v (Value.int IntKind.i64 0)])) none [(0, false, 1), (1, false, 1), (2, false, 1)] none true),
 (152, .mk false 1 4 (T.d (D.v (Value.int IntKind.u32 0))) none [] none true),
 (159, .mk true 33 264 (T.d (D.agg [D.v (Value.int IntKind.i64 0), D.v (Value.int IntKind.i64 0), D.v (Value.int IntKind.i64 0), D.v (Value.int IntKind.i64 0), D.v (Value.int IntKind.i64 0), D.v (Value.int IntKind.i64 0), D.v (Value.int IntKind.i64 0), D.v (Value.int IntKind.i64 0), D.v (Value.int IntKind.i64 0), D.v (Value.int IntKind.i64 0), D.v (Value.int IntKind.i64 0), D.v (Value.int IntKind.i64 0), D.v (Value.int IntKind.i64 0), D.v (Value.int IntKind.i64 0), D.v (Value.int IntKind.i64 0), D.v (Value.int IntKind.i64 0), D.v (Value.int IntKind.i64 0), D.v (Value.int IntKind.i64 0), D.v (Value.int IntKind.i64 0), D.v (Value.int IntKind.i64 0), D.v (Value.int IntKind.i64 0), D.v (Value.int IntKind.i64 0), D.v (Value.int IntKind.i64 0), D.v (Value.int IntKind.i64 0), D.v (Value.int IntKind.i64 0), D.v (Value.int IntKind.i64 0), D.v (Value.int IntKind.i64 0), D.v (Value.int IntKind.i64 0), D.v (Value.int IntKind.i64 0), D.v (Value.int IntKind.i64 0), D.v (Value.int IntKind.i64 0), D.v (Value.int IntKind.i64 0), D.v (Value.int IntKind.i64 0)])) none [] (some (33, 3)) true),
 (164, .mk false 1 8 (T.d (D.v Value.nilFunc)) none [] none true),
 (166, .mk false 1 8 (T.d (D.v Value.nilFunc)) none [] none true)]
theorem tyl_ok : tyl.map (fun p => tiOf Try.prog p.1) = tyl.map (fun p => some p.2) := by kernel_rfl
def tb : Tab Try.prog := .mk' tyl tyl_ok
theorem bnd {α β : Type} {o : Option α} {f : α → Option β} {r : β} (h : Option.bind o f = some r) : ∃ x, o = some x ∧ f x = some r := Option.bind_eq_some_iff.1 h
theorem ifP {c : Prop} [Decidable c] {α : Type} {x y r : α} (k : c) (h : (if c then x else y) = r) : x = r := (if_pos k).symm.trans h
theorem ifN {c : Prop} [Decidable c] {α : Type} {x y r : α} (k : ¬ c) (h : (if c then x else y) = r) : y = r := (if_neg k).symm.trans h
theorem ifF {b : Bool} {α : Type} {x y r : α} (k : b = false) (h : (if b = true then x else y) = r) : y = r := (if_neg (by rw [k]; exact Bool.false_ne_true)).symm.trans h
theorem fin_0 {P : Program} {fn : Func} {n0 : Nat} {rs : List ResultVar} {us : List T} {st : St} {y t : T} (h0 : Nat.beq n0 0 = true) (hres : fn.results.toList = rs) (ht : t.sc 0 = true) (h : ResTs P st rs us) (hu : tupT us = t.ren (kap []) := by rfl) (hy : t = y := by rfl) : Fin P fn n0 (fun se L' => se = .ret y ∧ L' = []) .ret st := by
 obtain rfl := Nat.eq_of_beq_eq_true h0
 subst hy
 exact fin_S (t := t) (L := []) (κ := []) hres h (vwK rfl rfl .nil (.cons hu ht .nil)) ⟨rfl, rfl⟩
theorem R {α : Sort _} {a : α} : a = a := rfl
theorem eN {P : Program} {N : Nat} {K : St → Prop} {Q : SX → St → Prop} {ops : Array Oper} {tr : List Stp} {st : St} (h : K st) : EvK P N ops [] st tr (endK (thenQ K Q .norm)) := ev_end (then_norm h)
theorem qG {P : Program} {n0 N : Nat} {df : List Deferred} {Q : SX → St → Prop} {st : St} {id : Nat} {l : List Oper} {y : Code} (h : EvK P N l.toArray l st [] (endK (thenQ (Sh.SW P n0 N df y Q) Q .norm))) : Sh.SW P n0 N df (.seq (.region id l.toArray false) y) Q st := sw_seq (sw_rg h)
theorem sI {α : Type} {a b : α} (h : some a = some b) : a = b := Option.some.inj h
theorem key_law : WideMaps.KeyLaw Try.prog 159 := deep_law (m := 2) (by decide) (by kernel_rfl) (by kernel_rfl) (by kernel_rfl)
theorem key_ok {k : List Int} (h : keyB 33 k = true) : ∃ l, keyOf Try.prog 159 (keyV k) = some l := keyOf_ints (e := 3) (n := 33) (by kernel_rfl) (by kernel_rfl) (by kernel_rfl) (by kernel_rfl) (by kernel_rfl) (by decide) h
instance : Inhabited ByteArray := ⟨ByteArray.empty⟩
structure FrChannel where
 name : ByteArray
 word : Int
 every : Int
 phase : Int
 deriving Inhabited
def FrChannel.d (x : FrChannel) : D := .agg [.v (.string x.name), .v (.int .i64 x.word), .v (.int .i64 x.every), .v (.int .i64 x.phase)]
structure FrFormat where
 sync : ByteArray
 words : Int
 depth : Int
 channels : (List FrChannel)
 deriving Inhabited
def FrFormat.d (x : FrFormat) : D := .agg [.v (.string x.sync), .v (.int .i64 x.words), .v (.int .i64 x.depth), .arr 4 ((x.channels).map FrChannel.d)]
structure FrGap where
 from_ : Int
 until_ : Int
 deriving Inhabited
def FrGap.d (x : FrGap) : D := .agg [.v (.int .i64 x.from_), .v (.int .i64 x.until_)]
structure FrFrame where
 at_ : Int
 count : Int
 words : (List Int)
 deriving Inhabited
def FrFrame.d (x : FrFrame) : D := .agg [.v (.int .i64 x.at_), .v (.int .i64 x.count), .arr 1 ((x.words).map vI)]
structure FrTape where
 bytes : (List Int)
 first : Int
 deriving Inhabited
def FrTape.d (x : FrTape) : D := .agg [.arr 1 ((x.bytes).map v8), .v (.int .i64 x.first)]
structure FrValue where
 number : Int
 value : Int
 deriving Inhabited
def FrValue.d (x : FrValue) : D := .agg [.v (.int .i64 x.number), .v (.int .i64 x.value)]
structure FrReport where
 number : Int
 from_ : Int
 agree : Int
 marked : Bool
 words : (List Int)
 deriving Inhabited
def FrReport.d (x : FrReport) : D := .agg [.v (.int .i64 x.number), .v (.int .i64 x.from_), .v (.int .i64 x.agree), .v (.bool x.marked), .arr 1 ((x.words).map vI)]
structure FrAxes where
 number : Int
 dirs : (List Int)
 deriving Inhabited
def FrAxes.d (x : FrAxes) : D := .agg [.v (.int .i64 x.number), .arr 1 ((x.dirs).map vI)]
structure FlDir where
 x : Int
 y : Int
 z : Int
 deriving Inhabited
def FlDir.d (x : FlDir) : D := .agg [.v (.int .i64 x.x), .v (.int .i64 x.y), .v (.int .i64 x.z)]
structure FrSensor where
 channel : Int
 x : Int
 y : Int
 z : Int
 scale : Int
 error : Int
 sun : Bool
 deriving Inhabited
def FrSensor.d (x : FrSensor) : D := .agg [.v (.int .i64 x.channel), .v (.int .i64 x.x), .v (.int .i64 x.y), .v (.int .i64 x.z), .v (.int .i64 x.scale), .v (.int .i64 x.error), .v (.bool x.sun)]
structure FrSky where
 dirs : (List FlDir)
 turn : Int
 sensors : (List FrSensor)
 deriving Inhabited
def FrSky.d (x : FrSky) : D := .agg [.arr 3 ((x.dirs).map FlDir.d), .v (.int .i64 x.turn), .arr 7 ((x.sensors).map FrSensor.d)]
abbrev lv8 (w : List Int) : Rw := ⟨1, w.map fun a => .d (v8 a)⟩
abbrev lvI (w : List Int) : Rw := ⟨1, w.map fun a => .d (vI a)⟩
abbrev lFrGapd (w : List FrGap) : Rw := ⟨2, w.map fun a => .d (FrGap.d a)⟩
abbrev lFrFramed (w : List FrFrame) : Rw := ⟨3, w.map fun a => .d (FrFrame.d a)⟩
abbrev lFrValued (w : List FrValue) : Rw := ⟨2, w.map fun a => .d (FrValue.d a)⟩
abbrev lFrReportd (w : List FrReport) : Rw := ⟨5, w.map fun a => .d (FrReport.d a)⟩
abbrev lFrAxesd (w : List FrAxes) : Rw := ⟨2, w.map fun a => .d (FrAxes.d a)⟩
abbrev FrFormat_T1 (x : FrFormat) (a0 : Nat) : T := .agg [.d (.v (.string x.sync)), .d (.v (.int .i64 x.words)), .d (.v (.int .i64 x.depth)), .row a0 4 0 x.channels.length]
abbrev lFrChanneld (w : List FrChannel) : Rw := ⟨4, w.map fun a => .d (FrChannel.d a)⟩
abbrev lFlDird (w : List FlDir) : Rw := ⟨3, w.map fun a => .d (FlDir.d a)⟩
abbrev lFrSensord (w : List FrSensor) : Rw := ⟨7, w.map fun a => .d (FrSensor.d a)⟩
def FrValue.beq (x y : FrValue) : Bool := (x.number == y.number) && (x.value == y.value)
set_option maxHeartbeats 1000000 in
theorem eq44 (x y : FrValue) (o1 o2 : Operand) (w : World) : (do eqGuard .eql 44 o1 o2 (.agg [.int .i64 x.number, .int .i64 x.value].toArray) (.agg [.int .i64 y.number, .int .i64 y.value].toArray); binOp .eql 44 (.agg [.int .i64 x.number, .int .i64 x.value].toArray) (.agg [.int .i64 y.number, .int .i64 y.value].toArray) : Sem Value).run Try.prog w = .ok (.bool (FrValue.beq x y)) w := by
 have hg : Try.prog.eqGuardType Try.prog.depth 44 = false := by kernel_rfl
 have hS : Try.prog.underlying 44 = some (.struct (Try.prog.fieldsOf 44)) := by kernel_rfl
 have u3 := Try.underlying3
 have a3 := Try.isAgg3
 have z3 := Try.sizeOf3
 have h2 : (binOp .eql 44 (.agg [.int .i64 x.number, .int .i64 x.value].toArray) (.agg [.int .i64 y.number, .int .i64 y.value].toArray)).run Try.prog w = .ok (.bool (FrValue.beq x y)) w := by
  rw [run_eql_struct, show (10000 : Nat) = 9999 + 1 from rfl, run_equalIn_agg w 9999 44 _ _ hS (by kernel_rfl)]
  simp only [Program.fieldsOf, Try.underlying44, FrValue.beq]
  go_simp
  by_cases h1 : x.number = y.number <;> by_cases h2 : x.value = y.value <;> simp [h1, h2]
 simp [eqGuard, hg, h2]
set_option maxHeartbeats 1000000 in
theorem ne44 (x y : FrValue) (o1 o2 : Operand) (w : World) : (do eqGuard .neq 44 o1 o2 (.agg [.int .i64 x.number, .int .i64 x.value].toArray) (.agg [.int .i64 y.number, .int .i64 y.value].toArray); binOp .neq 44 (.agg [.int .i64 x.number, .int .i64 x.value].toArray) (.agg [.int .i64 y.number, .int .i64 y.value].toArray) : Sem Value).run Try.prog w = .ok (.bool (!FrValue.beq x y)) w := by
 have hg : Try.prog.eqGuardType Try.prog.depth 44 = false := by kernel_rfl
 have hS : Try.prog.underlying 44 = some (.struct (Try.prog.fieldsOf 44)) := by kernel_rfl
 have u3 := Try.underlying3
 have a3 := Try.isAgg3
 have z3 := Try.sizeOf3
 have h2 : (binOp .neq 44 (.agg [.int .i64 x.number, .int .i64 x.value].toArray) (.agg [.int .i64 y.number, .int .i64 y.value].toArray)).run Try.prog w = .ok (.bool (!FrValue.beq x y)) w := by
  rw [run_neq_struct, show (10000 : Nat) = 9999 + 1 from rfl, run_equalIn_agg w 9999 44 _ _ hS (by kernel_rfl)]
  simp only [Program.fieldsOf, Try.underlying44, FrValue.beq]
  go_simp
  by_cases h1 : x.number = y.number <;> by_cases h2 : x.value = y.value <;> simp [h1, h2]
 simp [eqGuard, hg, h2]
def FrGap.beq (x y : FrGap) : Bool := (x.from_ == y.from_) && (x.until_ == y.until_)
set_option maxHeartbeats 1000000 in
theorem eq64 (x y : FrGap) (o1 o2 : Operand) (w : World) : (do eqGuard .eql 64 o1 o2 (.agg [.int .i64 x.from_, .int .i64 x.until_].toArray) (.agg [.int .i64 y.from_, .int .i64 y.until_].toArray); binOp .eql 64 (.agg [.int .i64 x.from_, .int .i64 x.until_].toArray) (.agg [.int .i64 y.from_, .int .i64 y.until_].toArray) : Sem Value).run Try.prog w = .ok (.bool (FrGap.beq x y)) w := by
 have hg : Try.prog.eqGuardType Try.prog.depth 64 = false := by kernel_rfl
 have hS : Try.prog.underlying 64 = some (.struct (Try.prog.fieldsOf 64)) := by kernel_rfl
 have u3 := Try.underlying3
 have a3 := Try.isAgg3
 have z3 := Try.sizeOf3
 have h2 : (binOp .eql 64 (.agg [.int .i64 x.from_, .int .i64 x.until_].toArray) (.agg [.int .i64 y.from_, .int .i64 y.until_].toArray)).run Try.prog w = .ok (.bool (FrGap.beq x y)) w := by
  rw [run_eql_struct, show (10000 : Nat) = 9999 + 1 from rfl, run_equalIn_agg w 9999 64 _ _ hS (by kernel_rfl)]
  simp only [Program.fieldsOf, Try.underlying64, FrGap.beq]
  go_simp
  by_cases h1 : x.from_ = y.from_ <;> by_cases h2 : x.until_ = y.until_ <;> simp [h1, h2]
 simp [eqGuard, hg, h2]
set_option maxHeartbeats 1000000 in
theorem ne64 (x y : FrGap) (o1 o2 : Operand) (w : World) : (do eqGuard .neq 64 o1 o2 (.agg [.int .i64 x.from_, .int .i64 x.until_].toArray) (.agg [.int .i64 y.from_, .int .i64 y.until_].toArray); binOp .neq 64 (.agg [.int .i64 x.from_, .int .i64 x.until_].toArray) (.agg [.int .i64 y.from_, .int .i64 y.until_].toArray) : Sem Value).run Try.prog w = .ok (.bool (!FrGap.beq x y)) w := by
 have hg : Try.prog.eqGuardType Try.prog.depth 64 = false := by kernel_rfl
 have hS : Try.prog.underlying 64 = some (.struct (Try.prog.fieldsOf 64)) := by kernel_rfl
 have u3 := Try.underlying3
 have a3 := Try.isAgg3
 have z3 := Try.sizeOf3
 have h2 : (binOp .neq 64 (.agg [.int .i64 x.from_, .int .i64 x.until_].toArray) (.agg [.int .i64 y.from_, .int .i64 y.until_].toArray)).run Try.prog w = .ok (.bool (!FrGap.beq x y)) w := by
  rw [run_neq_struct, show (10000 : Nat) = 9999 + 1 from rfl, run_equalIn_agg w 9999 64 _ _ hS (by kernel_rfl)]
  simp only [Program.fieldsOf, Try.underlying64, FrGap.beq]
  go_simp
  by_cases h1 : x.from_ = y.from_ <;> by_cases h2 : x.until_ = y.until_ <;> simp [h1, h2]
 simp [eqGuard, hg, h2]
end Go.Proofs.Ytjnnkcnnandeeaa
