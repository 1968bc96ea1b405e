/- The skies as values: directions, sensors, and how they lie in memory. The walks of CheckSky's closures, times, part, product, field. -/
import Derived.Test.YtjnnkcnnandeeaaWFunc
import Derived.Test.YtjnnkcnnandeeaaWMeet
namespace Go.Proofs.Ytjnnkcnnandeeaa
open Go.RowKit
structure Dir where
  x : Int
  y : Int
  z : Int
instance : Inhabited Dir := ⟨⟨0, 0, 0⟩⟩
def Dir.val (d : Dir) : Value := .agg #[.int .i64 d.x, .int .i64 d.y, .int .i64 d.z]
def Dir.cell (d : Dir) : Nat → Value
  | 0 => .int .i64 d.x
  | 1 => .int .i64 d.y
  | _ => .int .i64 d.z
structure Sen where
  chan : Int
  x : Int
  y : Int
  z : Int
  scale : Int
  err : Int
  sun : Bool
instance : Inhabited Sen := ⟨⟨0, 0, 0, 0, 0, 0, false⟩⟩
def Sen.cell (s : Sen) : Nat → Value
  | 0 => .int .i64 s.chan
  | 1 => .int .i64 s.x
  | 2 => .int .i64 s.y
  | 3 => .int .i64 s.z
  | 4 => .int .i64 s.scale
  | 5 => .int .i64 s.err
  | _ => .bool s.sun
structure Sky where
  dirs : List Dir
  turn : Int
  sens : List Sen
/-- A value that reads as a sky. -/
def SkyV (w : World) (v : Value) (s : Sky) : Prop :=
  ∃ A1 c1 A2 c2, v = .agg #[.slice A1 s.dirs.length c1, .int .i64 s.turn, .slice A2 s.sens.length c2] ∧ s.dirs.length ≤ c1 ∧ c1 ≤ maxLen ∧ s.sens.length ≤ c2 ∧ c2 ≤ maxLen ∧
    Rows2 w A1 s.dirs.length 3 (fun i k => (s.dirs.getD i default).cell k) ∧ Rows2 w A2 s.sens.length 7 (fun i k => (s.sens.getD i default).cell k)
theorem SkyV.cext {w w' : World} {v : Value} {s : Sky} (h : SkyV w v s) (e : CExt w w') : SkyV w' v s := by
  obtain ⟨A1, c1, A2, c2, h1, h2, h3, h4, h5, h6, h7⟩ := h
  exact ⟨A1, c1, A2, c2, h1, h2, h3, h4, h5, h6.cext e, h7.cext e⟩
theorem SkyV.ext {w w' : World} {v : Value} {s : Sky} (h : SkyV w v s) (e : Ext w w') : SkyV w' v s := h.cext e.c
theorem dirs_at {w : World} {A : Option Addr} {l : List Dir} {k : Nat} (h : Rows2 w A l.length 3 (fun i f => (l.getD i default).cell f)) (hk : k < l.length) :
    ∃ b off x y z, A = some ⟨b, off, none⟩ ∧ b < w.heap.size ∧ w.cell? ⟨b, off + k * 3, none⟩ = some (.int .i64 x) ∧ w.cell? ⟨b, off + k * 3 + 1, none⟩ = some (.int .i64 y) ∧ w.cell? ⟨b, off + k * 3 + 2, none⟩ = some (.int .i64 z) ∧ Hid (l.getD k default = ⟨x, y, z⟩) := by
  obtain ⟨b, off, e, hb, hc⟩ := h (by omega)
  exact ⟨b, off, _, _, _, e, hb, hc k 0 hk (by omega), hc k 1 hk (by omega), hc k 2 hk (by omega), rfl⟩
theorem sens_at {w : World} {A : Option Addr} {l : List Sen} {k : Nat} (h : Rows2 w A l.length 7 (fun i f => (l.getD i default).cell f)) (hk : k < l.length) :
    ∃ b off c x y z sc er su, A = some ⟨b, off, none⟩ ∧ b < w.heap.size ∧ w.cell? ⟨b, off + k * 7, none⟩ = some (.int .i64 c) ∧ w.cell? ⟨b, off + k * 7 + 1, none⟩ = some (.int .i64 x) ∧ w.cell? ⟨b, off + k * 7 + 2, none⟩ = some (.int .i64 y) ∧
      w.cell? ⟨b, off + k * 7 + 3, none⟩ = some (.int .i64 z) ∧ w.cell? ⟨b, off + k * 7 + 4, none⟩ = some (.int .i64 sc) ∧ w.cell? ⟨b, off + k * 7 + 5, none⟩ = some (.int .i64 er) ∧ w.cell? ⟨b, off + k * 7 + 6, none⟩ = some (.bool su) ∧ Hid (l.getD k default = ⟨c, x, y, z, sc, er, su⟩) := by
  obtain ⟨b, off, e, hb, hc⟩ := h (by omega)
  exact ⟨b, off, _, _, _, _, _, _, _, e, hb, hc k 0 hk (by omega), hc k 1 hk (by omega), hc k 2 hk (by omega), hc k 3 hk (by omega), hc k 4 hk (by omega), hc k 5 hk (by omega), hc k 6 hk (by omega), rfl⟩
/-- The first place below n at which there is an error. -/
def badAt (e : Nat → Int) : Nat → Option Nat
  | 0 => none
  | n + 1 => match badAt e n with
    | some k => some k
    | none => if e n = 0 then none else some n
theorem badAt_none {e : Nat → Int} {n : Nat} (h : ∀ j, j < n → e j = 0) : badAt e n = none := by
  induction n with
  | zero => rfl
  | succ n ih => rw [badAt, ih (fun j hj => h j (by omega))]; dsimp only; rw [if_pos (h n (by omega))]
theorem badAt_some {e : Nat → Int} {n k : Nat} (h : ∀ j, j < k → e j = 0) (hk : k < n) (hp : e k ≠ 0) : badAt e n = some k := by
  induction n with
  | zero => omega
  | succ n ih =>
    by_cases hkn : k < n
    · rw [badAt, ih hkn]
    · obtain rfl : k = n := by omega
      rw [badAt, badAt_none h]; dsimp only; rw [if_neg hp]
/-- The product of two directions. -/
def dotI (a b : Dir) : Int := a.x * b.x + a.y * b.y + a.z * b.z
def dirErr (t : Int) (d : Dir) : Int := if outB d.x (-10000) 10000 = true ∨ outB d.y (-10000) 10000 = true ∨ outB d.z (-10000) 10000 = true then 7 else if dotI d d < t then 2 else 0
def senErr (n : Nat) (s : Sen) : Int :=
  if outB s.chan 0 ((n : Int) - 1) = true then 4
  else if outB s.x (-1000000) 1000000 = true ∨ outB s.y (-1000000) 1000000 = true ∨ outB s.z (-1000000) 1000000 = true ∨ outB s.scale 1 1000 = true ∨ outB s.err 0 1000000 = true then 7 else 0
/-- What CheckSky says, once the format is right. -/
def skyIn (n : Nat) (s : Sky) : Int × Int :=
  if outB s.dirs.length 1 30 = true ∨ 6 < s.sens.length then (0, 3)
  else if outB s.turn (-100000000) 100000000 = true then (0, 7)
  else match badAt (fun i => dirErr s.turn (s.dirs.getD i default)) s.dirs.length with
    | some k => (k, dirErr s.turn (s.dirs.getD k default))
    | none => match badAt (fun i => senErr n (s.sens.getD i default)) s.sens.length with
      | some k => (k, senErr n (s.sens.getD k default))
      | none => (0, 0)
end Go.Proofs.Ytjnnkcnnandeeaa
namespace Go.Proofs.Ytjnnkcnnandeeaa
open Go.RowKit
set_option maxRecDepth 100000 in
set_option maxHeartbeats 400000 in
/-- CheckSky's inner closure: a number is out of the captured bound. -/
theorem farOne_any (n m : Int) (B : Nat) (w : World) (h0 : 0 ≤ m) (h1 : m ≤ 1000000) (hc : w.cell? ⟨B, 0, none⟩ = some (.int .i64 m)) :
    Calls Try.prog 82 #[.int .i64 n, .pointer (some ⟨B, 0, none⟩)] w fun e w' => e = .returned (.bool (outB n (-m) m)) ∧ Ext w w' := by
  go_enter Try.func82, Try.ntmps82
  go_wp2_with (go_at_call 69; refine (out_any _ _ _ _).mono ?_; rintro e w' ⟨rfl, rfl⟩)
  go_ret
  exact ⟨ret_bool rfl, Ext.refl _⟩
/-- Whether one of some numbers is out of a bound. -/
def farL (m : Int) (l : List Int) : Bool := anyB (fun k => outB (l.getD k 0) (-m) m) l.length
theorem farL_three (m a b c : Int) : farL m [a, b, c] = (outB a (-m) m || outB b (-m) m || outB c (-m) m) := by
  unfold farL
  rw [Bool.eq_iff_iff, anyB_t]
  simp only [List.length_cons, List.length_nil, Bool.or_eq_true]
  constructor
  · rintro ⟨j, hj, h⟩
    rcases (by omega : j = 0 ∨ j = 1 ∨ j = 2) with rfl | rfl | rfl <;> simp_all
  · rintro ((h | h) | h)
    · exact ⟨0, by omega, h⟩
    · exact ⟨1, by omega, h⟩
    · exact ⟨2, by omega, h⟩
set_option maxRecDepth 100000 in
set_option maxHeartbeats 400000 in
/-- CheckSky's closure 'far'. -/
theorem far_any (m : Int) (v : Value) (l : List Int) (w : World) (h0 : 0 ≤ m) (h1 : m ≤ 1000000) (hv : IntsV w .i64 v l) :
    Calls Try.prog 80 #[.int .i64 m, v] w fun e w' => e = .returned (.bool (farL m l)) ∧ Ext w w' := by
  have HC := hide (fun W B (hx : Ext w W) (hc : W.cell? ⟨B, 0, none⟩ = some (.int .i64 m)) => containsFunc_int 82 #[.pointer (some ⟨B, 0, none⟩)] (enters_of Try.func82 (by kernel_rfl) rfl) v l (fun k => outB (l.getD k 0) (-m) m) W
    (fun k w1 _ hx1 => farOne_any _ m B w1 h0 h1 (hx1.cell hc)) (hv.ext hx))
  have HB := hide ((Ext.refl w).alloc (.cells #[.int .i64 m] 3))
  go_enter Try.func80, Try.ntmps80
  go_wp2_with (go_at_call 81; refine Calls.mono (HC.out _ _ HB.out (by simp)) ?_; rintro e w1 ⟨rfl, hx⟩)
  go_ret
  exact ⟨ret_bool rfl, HB.out.trans hx⟩
/-- The product of two directions, as Go has it. -/
def dotW (a b : Dir) : Int := wrap64 (wrap64 (wrap64 (a.x * b.x) + wrap64 (a.y * b.y)) + wrap64 (a.z * b.z))
set_option maxRecDepth 100000 in
set_option maxHeartbeats 400000 in
/-- frame.axis.times -/
theorem times_any (a b : Dir) (w : World) :
    Calls Try.prog 83 #[a.val, b.val] w fun e w' => e = .returned (.int .i64 (dotW a b)) ∧ Ext w w' := by
  obtain ⟨x, y, z⟩ := a
  obtain ⟨x', y', z'⟩ := b
  unfold Dir.val
  dsimp only
  go_enter Try.func83, Try.ntmps83
  go_wp2
  go_ret
  exact ⟨ret_int rfl, ((Ext.refl _).alloc _).alloc _⟩
set_option maxRecDepth 100000 in
set_option maxHeartbeats 400000 in
/-- ref.product -/
theorem product_any (a b : Dir) (w : World) :
    Calls Try.prog 85 #[a.val, b.val] w fun e w' => e = .returned (.int .i64 (dotW a b)) ∧ Ext w w' := by
  obtain ⟨x, y, z⟩ := a
  obtain ⟨x', y', z'⟩ := b
  unfold Dir.val
  dsimp only
  go_enter Try.func85, Try.ntmps85
  go_wp2
  go_ret
  exact ⟨ret_int rfl, ((Ext.refl _).alloc _).alloc _⟩
set_option maxRecDepth 100000 in
set_option maxHeartbeats 400000 in
/-- ref.part -/
theorem part_any (n : Int) (w : World) :
    Calls Try.prog 84 #[.int .i64 n] w fun e w' => e = .returned (.bool (inB n (-10000) 10000)) ∧ w = w' := by
  go_enter Try.func84, Try.ntmps84
  go_wp2_with (go_at_call 70; refine (refIn_any _ _ _ _).mono ?_; rintro e w' ⟨rfl, rfl⟩)
  go_ret
  exact ⟨ret_bool rfl, rfl⟩
set_option maxRecDepth 100000 in
set_option maxHeartbeats 400000 in
/-- ref.field -/
theorem field_any (n : Int) (w : World) :
    Calls Try.prog 86 #[.int .i64 n] w fun e w' => e = .returned (.bool (inB n (-1000000) 1000000)) ∧ w = w' := by
  go_enter Try.func86, Try.ntmps86
  go_wp2_with (go_at_call 70; refine (refIn_any _ _ _ _).mono ?_; rintro e w' ⟨rfl, rfl⟩)
  go_ret
  exact ⟨ret_bool rfl, rfl⟩
end Go.Proofs.Ytjnnkcnnandeeaa
