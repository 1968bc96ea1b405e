/- Whether a direction agrees with a sensor, in plain words; the walk of the reference's agrees. -/
import Derived.Test.YtjnnkcnnandeeaaWSky
import Derived.Test.YtjnnkcnnandeeaaDet
import Derived.Deep.Cut
namespace Go.Proofs.Ytjnnkcnnandeeaa
open Go.RowKit
/-- The directions and sensors of a sky that is right. -/
def DirOk (d : Dir) : Prop := -10000 ≤ d.x ∧ d.x ≤ 10000 ∧ -10000 ≤ d.y ∧ d.y ≤ 10000 ∧ -10000 ≤ d.z ∧ d.z ≤ 10000
def SenOk (s : Sen) : Prop := (-1000000 ≤ s.x ∧ s.x ≤ 1000000 ∧ -1000000 ≤ s.y ∧ s.y ≤ 1000000 ∧ -1000000 ≤ s.z ∧ s.z ≤ 1000000) ∧ 1 ≤ s.scale ∧ s.scale ≤ 1000 ∧ 0 ≤ s.err ∧ s.err ≤ 1000000
/-- What the sensor sees. -/
def seen (d : Dir) (s : Sen) : Int := if s.sun = true then max (dotI d ⟨s.x, s.y, s.z⟩) 0 else dotI d ⟨s.x, s.y, s.z⟩
/-- How far it is from what the word tells. -/
def offBy (d : Dir) (s : Sen) (wd : Int) : Int := seen d s - 10000 * s.scale * (wd - 32768)
def agreeB (d : Dir) (s : Sen) (wd : Int) : Bool := decide (-(10000 * s.err) ≤ offBy d s wd ∧ offBy d s wd ≤ 10000 * s.err)
theorem mul_bd {a b m n : Int} (h1 : -m ≤ a) (h2 : a ≤ m) (h3 : -n ≤ b) (h4 : b ≤ n) : -(m * n) ≤ a * b ∧ a * b ≤ m * n := by
  have e1 := Int.mul_nonneg (show 0 ≤ m - a by omega) (show 0 ≤ n - b by omega)
  have e2 := Int.mul_nonneg (show 0 ≤ m - a by omega) (show 0 ≤ n + b by omega)
  have e3 := Int.mul_nonneg (show 0 ≤ m + a by omega) (show 0 ≤ n - b by omega)
  have e4 := Int.mul_nonneg (show 0 ≤ m + a by omega) (show 0 ≤ n + b by omega)
  simp only [Int.sub_mul, Int.mul_sub, Int.add_mul, Int.mul_add] at e1 e2 e3 e4
  generalize a * b = p at *
  generalize m * n = q at *
  generalize m * b = r at *
  generalize a * n = t at *
  omega
set_option maxRecDepth 100000 in
set_option maxHeartbeats 2000000 in
/-- ref.agrees -/
theorem agrees_any (d : Dir) (s : Sen) (wd : Int) (w : World) (hd : DirOk d) (hs : SenOk s) (hw0 : 0 ≤ wd) (hw1 : wd ≤ 65535) :
    Calls Try.prog 109 #[d.val, .agg #[.int .i64 s.chan, .int .i64 s.x, .int .i64 s.y, .int .i64 s.z, .int .i64 s.scale, .int .i64 s.err, .bool s.sun], .int .i64 wd] w fun e w' => e = .returned (.bool (agreeB d s wd)) ∧ Ext w w' := by
  have hdt := dotW_eq (a := d) (b := ⟨s.x, s.y, s.z⟩) hd hs.1
  have HPR := hide (fun W => product_any d ⟨s.x, s.y, s.z⟩ W)
  have HAG : Hid (agreeB d s wd = decide (-(10000 * s.err) ≤ seen d s - 10000 * s.scale * (wd - 32768) ∧ seen d s - 10000 * s.scale * (wd - 32768) ≤ 10000 * s.err)) := rfl
  have HSE : Hid (seen d s = if s.sun = true then max (dotI d ⟨s.x, s.y, s.z⟩) 0 else dotI d ⟨s.x, s.y, s.z⟩) := rfl
  rw [hdt.1] at HPR
  obtain ⟨_, h0, h1, h2, h3⟩ := hs
  obtain ⟨_, hp0, hp1⟩ := hdt
  obtain ⟨dx, dy, dz⟩ := d
  obtain ⟨c, x, y, z, sc, er, su⟩ := s
  generalize agreeB _ _ wd = ag at *
  generalize seen _ _ = se at *
  unfold Dir.val at HPR ⊢
  dsimp only at *
  generalize dotI _ _ = p at *
  obtain ⟨q, hq⟩ : ∃ q, 10000 * sc = q := ⟨_, rfl⟩
  obtain ⟨u, hu⟩ : ∃ u, wd - 32768 = u := ⟨_, rfl⟩
  obtain ⟨m, hm⟩ : ∃ m, q * u = m := ⟨_, rfl⟩
  have hmb := mul_bd (a := q) (b := u) (m := 10000000) (n := 32768) (by omega) (by omega) (by omega) (by omega)
  rw [hm] at hmb
  have hm0 : -327680000000 ≤ m := by omega
  have hm1 : m ≤ 327680000000 := by omega
  have HM1 := hide (show IntKind.i64.wrap (10000 * sc) = q by rw [IntKind.wrap_i64]; omega)
  have HM2 := hide (show IntKind.i64.wrap (wd - 32768) = u by rw [IntKind.wrap_i64]; omega)
  have HM3 := hide (show IntKind.i64.wrap (q * u) = m by rw [IntKind.wrap_i64, hm]; omega)
  have HAG2 := hide (show ag = decide (-(10000 * er) ≤ se - m ∧ se - m ≤ 10000 * er) by rw [HAG.out, hq, hu, hm])
  have hse0 : -30000000000 ≤ se := by rw [HSE.out]; split <;> omega
  have hse1 : se ≤ 30000000000 := by rw [HSE.out]; split <;> omega
  have HM4 := hide (show IntKind.i64.wrap (se - m) = se - m by rw [IntKind.wrap_i64]; omega)
  have HAG3 := hide HAG2.out
  have HMB := hide (And.intro hm0 hm1)
  have hse0' := hse0
  clear hmb HAG hd hm0 hm1
  have HHQ := hide hq
  have HHU := hide hu
  have HHM := hide hm
  clear hq hu hm hse0'
  go_enter Try.func109, Try.ntmps109
  go_wp2_with fail
  refine (HPR.out _).mono ?_
  rintro e w1 ⟨rfl, hx1⟩
  have s4 : w1.cell? ⟨w.heap.size + 1, 4, none⟩ = some (.int .i64 sc) := hx1.cell (by simp)
  have s5 : w1.cell? ⟨w.heap.size + 1, 5, none⟩ = some (.int .i64 er) := hx1.cell (by simp)
  have s6 : w1.cell? ⟨w.heap.size + 1, 6, none⟩ = some (.bool su) := hx1.cell (by simp)
  have HX := hide ((((Ext.refl w).alloc _).alloc _).trans hx1)
  clear hx1
  have HQM := hide (show 10000 * sc * (wd - 32768) = m by rw [HHQ.out, HHU.out]; exact HHM.out)
  cases su with
  | true =>
    have HSD := hide (show (0 ≤ p → se = p) ∧ (p ≤ 0 → se = 0) by rw [HSE.out, if_pos rfl]; omega)
    clear HSE HM1 HM2 HM3 HM4 HAG2
    go_wp2
    all_goals
      go_ret
      refine ⟨ret_bool ?_, HX.out⟩
      rw [HAG3.out]
      have h1 := HSD.out
      have h2 := HQM.out
      have hm0 := HMB.out
      clear HSD
      clear HQM
      simp only [h2, wrap64] at *
      exact decide_eq_decide.2 (by omega)
  | false =>
    have HSD := hide (show se = p by rw [HSE.out, if_neg (by decide)])
    clear HSE HM1 HM2 HM3 HM4 HAG2
    go_wp2
    all_goals
      go_ret
      refine ⟨ret_bool ?_, HX.out⟩
      rw [HAG3.out]
      have h1 := HSD.out
      have h2 := HQM.out
      have hm0 := HMB.out
      clear HQM
      simp only [h2, wrap64] at *
      exact decide_eq_decide.2 (by omega)
end Go.Proofs.Ytjnnkcnnandeeaa

