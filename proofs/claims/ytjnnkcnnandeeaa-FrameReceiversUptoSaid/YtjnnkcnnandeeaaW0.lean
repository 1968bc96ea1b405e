/- The types of the program as a table, its structs in plain words. -/
import Derived.Test.YtjnnkcnnandeeaaProg
import Derived.KernelRfl
import Derived.Test.YtjnnkcnnandeeaaSa37
set_option linter.unusedVariables false
set_option linter.unusedSimpArgs false
open Go Go.Proofs.Ytjnnkcnnandeeaa.Sh Go.Proofs
namespace Go.Proofs.Ytjnnkcnnandeeaa
set_option maxRecDepth 100000
def tyl : List (Nat × TI) := [(3, .mk false 1 8 (T.d (D.v (Value.int IntKind.i64 0))) none [] none true),
 (4, .mk false 1 1 (T.d (D.v (Value.bool false))) none [] none true),
 (5, .mk false 1 1 (T.d (D.v (Value.int IntKind.u8 0))) none [] none true),
 (9, .mk false 1 16 (T.d (D.v (Value.string (ByteArray.mk (Array.mk []))))) none [] none true),
 (22, .mk false 1 24 (T.d (D.v (Value.slice none 0 0))) (some 5) [] none true),
 (26, .mk false 1 24 (T.d (D.v (Value.slice none 0 0))) (some 83) [] none true),
 (28, .mk true 4 56 (T.d (D.agg [D.v (Value.string (ByteArray.mk (Array.mk []))), D.v (Value.int IntKind.i64 0), D.v (Value.int IntKind.i64 0), D.v (Value.slice none 0 0)])) none [(0, false, 1), (1, false, 1), (2, false, 1), (3, false, 1)] none true),
 (29, .mk false 1 24 (T.d (D.v (Value.slice none 0 0))) (some 3) [] none true),
 (30, .mk false 1 8 (T.d (D.v (Value.int IntKind.i64 0))) none [] none true),
 (38, .mk true 2 32 (T.d (D.agg [D.v (Value.slice none 0 0), D.v (Value.int IntKind.i64 0)])) none [(0, false, 1), (1, false, 1)] none true),
 (46, .mk false 1 24 (T.d (D.v (Value.slice none 0 0))) (some 59) [] none true),
 (47, .mk false 1 24 (T.d (D.v (Value.slice none 0 0))) (some 64) [] none true),
 (53, .mk false 1 24 (T.d (D.v (Value.slice none 0 0))) (some 65) [] none true),
 (55, .mk true 3 56 (T.d (D.agg [D.v (Value.int IntKind.i64 0), D.v (Value.slice none 0 0), D.v (Value.slice none 0 0)])) none [(0, false, 1), (1, false, 1), (2, false, 1)] none true),
 (59, .mk true 3 40 (T.d (D.agg [D.v (Value.int IntKind.i64 0), D.v (Value.int IntKind.i64 0), D.v (Value.slice none 0 0)])) none [(0, false, 1), (1, false, 1), (2, false, 1)] none true),
 (64, .mk true 2 16 (T.d (D.agg [D.v (Value.int IntKind.i64 0), D.v (Value.int IntKind.i64 0)])) none [(0, false, 1), (1, false, 1)] none true),
 (65, .mk false 1 2 (T.d (D.v (Value.int IntKind.u16 0))) none [] none true),
 (83, .mk true 4 40 (T.d (D.agg [D.v (Value.string (ByteArray.mk (Array.mk []))), D.v (Value.int IntKind.i64 0), D.v (Value.int IntKind.i64 0), D.v (Value.int IntKind.i64 0)])) none [(0, false, 1), (1, false, 1), (2, false, 1), (3, false, 1)] none true),
 (84, .mk false 1 24 (T.d (D.v (Value.slice none 0 0))) (some 97) [] none true),
 (97, .mk true 5 56 (T.d (D.agg [D.v (Value.int IntKind.i64 0), D.v (Value.int IntKind.i64 0), D.v (Value.int IntKind.i64 0), D.v (Value.bool false), D.v (Value.slice none 0 0)])) none [(0, false, 1), (1, false, 1), (2, false, 1), (3, false, 1), (4, false, 1)] none true),
 (108, .mk false 1 24 (T.d (D.v (Value.slice none 0 0))) (some 38) [] none true),
 (113, .mk false 1 24 (T.d (D.v (Value.slice none 0 0))) (some 114) [] none true),
 (114, .mk false 1 4 (T.d (D.v (Value.int IntKind.u32 0))) none [] none true),
 (122, .mk false 1 2 (T.d (D.v (Value.int IntKind.u16 0))) none [] none true),
 (129, .mk false 1 8 (T.d (D.v Value.nilFunc)) none [] none true),
 (143, .mk false 1 8 (T.d (D.v Value.nilFunc)) none [] none true),
 (159, .mk true 33 264 (T.d (D.agg [D.v (Value.int IntKind.i64 0), D.v (Value.int IntKind.i64 0), D.v (Value.int IntKind.i64 0), D.v (Value.int IntKind.i64 0), D.v (Value.int IntKind.i64 0), D.v (Value.int IntKind.i64 0), D.v (Value.int IntKind.i64 0), D.v (Value.int IntKind.i64 0), D.v (Value.int IntKind.i64 0), D.v (Value.int IntKind.i64 0), D.v (Value.int IntKind.i64 0), D.v (Value.int IntKind.i64 0), D.v (Value.int IntKind.i64 0), D.v (Value.int IntKind.i64 0), D.v (Value.int IntKind.i64 0), D.v (Value.int IntKind.i64 0), D.v (Value.int IntKind.i64 0), D.v (Value.int IntKind.i64 0), D.v (Value.int IntKind.i64 0), D.v (Value.int IntKind.i64 0), D.v (Value.int IntKind.i64 0), D.v (Value.int IntKind.i64 0), D.v (Value.int IntKind.i64 0), D.v (Value.int IntKind.i64 0), D.v (Value.int IntKind.i64 0), D.v (Value.int IntKind.i64 0), D.v (Value.int IntKind.i64 0), D.v (Value.int IntKind.i64 0), D.v (Value.int IntKind.i64 0), D.v (Value.int IntKind.i64 0), D.v (Value.int IntKind.i64 0), D.v (Value.int IntKind.i64 0), D.v (Value.int IntKind.i64 0)])) none [] (some (33, 3)) true),
 (164, .mk false 1 8 (T.d (D.v Value.nilFunc)) none [] none true),
 (166, .mk false 1 8 (T.d (D.v Value.nilFunc)) none [] none true)]
theorem tyl_ok : tyl.map (fun p => tiOf Try.prog p.1) = tyl.map (fun p => some p.2) := by kernel_rfl
def tb : Tab Try.prog := .mk' tyl tyl_ok
theorem bnd {α β : Type} {o : Option α} {f : α → Option β} {r : β} (h : Option.bind o f = some r) : ∃ x, o = some x ∧ f x = some r := Option.bind_eq_some_iff.1 h
theorem ifP {c : Prop} [Decidable c] {α : Type} {x y r : α} (k : c) (h : (if c then x else y) = r) : x = r := (if_pos k).symm.trans h
theorem ifN {c : Prop} [Decidable c] {α : Type} {x y r : α} (k : ¬ c) (h : (if c then x else y) = r) : y = r := (if_neg k).symm.trans h
theorem ifF {b : Bool} {α : Type} {x y r : α} (k : b = false) (h : (if b = true then x else y) = r) : y = r := (if_neg (by rw [k]; exact Bool.false_ne_true)).symm.trans h
theorem fin_0 {P : Program} {fn : Func} {n0 : Nat} {rs : List ResultVar} {us : List T} {st : St} {y t : T} (h0 : Nat.beq n0 0 = true) (hres : fn.results.toList = rs) (ht : t.sc 0 = true) (h : ResTs P st rs us) (hu : tupT us = t.ren (kap []) := by rfl) (hy : t = y := by rfl) : Fin P fn n0 (fun se L' => se = .ret y ∧ L' = []) .ret st := by
 obtain rfl := Nat.eq_of_beq_eq_true h0
 subst hy
 exact fin_S (t := t) (L := []) (κ := []) hres h (vwK rfl rfl .nil (.cons hu ht .nil)) ⟨rfl, rfl⟩
theorem R {α : Sort _} {a : α} : a = a := rfl
theorem eN {P : Program} {N : Nat} {K : St → Prop} {Q : SX → St → Prop} {ops : Array Oper} {tr : List Stp} {st : St} (h : K st) : EvK P N ops [] st tr (endK (thenQ K Q .norm)) := ev_end (then_norm h)
theorem qG {P : Program} {n0 N : Nat} {df : List Deferred} {Q : SX → St → Prop} {st : St} {id : Nat} {l : List Oper} {y : Code} (h : EvK P N l.toArray l st [] (endK (thenQ (Sh.SW P n0 N df y Q) Q .norm))) : Sh.SW P n0 N df (.seq (.region id l.toArray false) y) Q st := sw_seq (sw_rg h)
theorem sI {α : Type} {a b : α} (h : some a = some b) : a = b := Option.some.inj h
theorem key_law : WideMaps.KeyLaw Try.prog 159 := deep_law (m := 2) (by decide) (by kernel_rfl) (by kernel_rfl) (by kernel_rfl)
theorem key_ok {k : List Int} (h : keyB 33 k = true) : ∃ l, keyOf Try.prog 159 (keyV k) = some l := keyOf_ints (e := 3) (n := 33) (by kernel_rfl) (by kernel_rfl) (by kernel_rfl) (by kernel_rfl) (by kernel_rfl) (by decide) h
instance : Inhabited ByteArray := ⟨ByteArray.empty⟩
structure FrChannel where
 name : ByteArray
 word : Int
 every : Int
 phase : Int
 deriving Inhabited
def FrChannel.d (x : FrChannel) : D := .agg [.v (.string x.name), .v (.int .i64 x.word), .v (.int .i64 x.every), .v (.int .i64 x.phase)]
structure FrFormat where
 sync : ByteArray
 words : Int
 depth : Int
 channels : (List FrChannel)
 deriving Inhabited
def FrFormat.d (x : FrFormat) : D := .agg [.v (.string x.sync), .v (.int .i64 x.words), .v (.int .i64 x.depth), .arr 4 ((x.channels).map FrChannel.d)]
structure FrTape where
 bytes : (List Int)
 first : Int
 deriving Inhabited
def FrTape.d (x : FrTape) : D := .agg [.arr 1 ((x.bytes).map v8), .v (.int .i64 x.first)]
structure FrFrame where
 at_ : Int
 count : Int
 words : (List Int)
 deriving Inhabited
def FrFrame.d (x : FrFrame) : D := .agg [.v (.int .i64 x.at_), .v (.int .i64 x.count), .arr 1 ((x.words).map vI)]
structure FrGap where
 from_ : Int
 until_ : Int
 deriving Inhabited
def FrGap.d (x : FrGap) : D := .agg [.v (.int .i64 x.from_), .v (.int .i64 x.until_)]
structure FrReport where
 number : Int
 from_ : Int
 agree : Int
 marked : Bool
 words : (List Int)
 deriving Inhabited
def FrReport.d (x : FrReport) : D := .agg [.v (.int .i64 x.number), .v (.int .i64 x.from_), .v (.int .i64 x.agree), .v (.bool x.marked), .arr 1 ((x.words).map vI)]
structure Sent where
 first : Int
 steps : (List Int)
 words : (List Int)
 deriving Inhabited
def Sent.d (x : Sent) : D := .agg [.v (.int .i64 x.first), .arr 1 ((x.steps).map v8), .arr 1 ((x.words).map v16)]
abbrev lv8 (w : List Int) : Rw := ⟨1, w.map fun a => .d (v8 a)⟩
abbrev lvI (w : List Int) : Rw := ⟨1, w.map fun a => .d (vI a)⟩
abbrev lFrFramed (w : List FrFrame) : Rw := ⟨3, w.map fun a => .d (FrFrame.d a)⟩
abbrev lFrGapd (w : List FrGap) : Rw := ⟨2, w.map fun a => .d (FrGap.d a)⟩
abbrev lFrReportd (w : List FrReport) : Rw := ⟨5, w.map fun a => .d (FrReport.d a)⟩
abbrev lFrTaped (w : List FrTape) : Rw := ⟨2, w.map fun a => .d (FrTape.d a)⟩

end Go.Proofs.Ytjnnkcnnandeeaa
