/- The walk of frames. -/
import Derived.Test.YtjnnkcnnandeeaaWSeq
namespace Go.Proofs.Ytjnnkcnnandeeaa
open Go.RowKit
theorem cell_new (W : World) (c : Array Value) (t : TypeId) (k : Nat) (v : Value) (h : c[k]? = some v) : (W.alloc (.cells c t)).cell? ⟨W.heap.size, k, none⟩ = some v := by
  unfold World.cell?
  rw [show (W.alloc (.cells c t)).heap[(⟨W.heap.size, k, none⟩ : Addr).block]? = some (.cells c t) from World.alloc_heap_new W _]
  simp [h]
set_option maxRecDepth 100000 in
set_option maxHeartbeats 1000000 in
/-- frame.frames -/
theorem frames_any (v : Value) (f : Fmt) (l : List Nat) (A' : Option Addr) (d off cap' : Nat) (w : World) (hv : FmtV w v f) (hA : 0 < l.length → A' = some ⟨d, off, none⟩) (hby : Bytes w d off l) (hs4 : f.sync.size ≤ 1000) (hw0 : 0 ≤ f.words) (hw : f.words ≤ 1000) :
    Calls Try.prog 72 #[v, .slice A' l.length cap'] w fun e w' => e = .returned (.func (.func 103) #[] #[.pointer (some ⟨w.heap.size + 3, 0, none⟩), .pointer (some ⟨w.heap.size + 1, 0, none⟩), .pointer (some ⟨w.heap.size + 2, 0, none⟩), .pointer (some ⟨w.heap.size, 0, none⟩)]) ∧
      Caps w' f l (w.heap.size + 3) (w.heap.size + 2) (w.heap.size + 1) w.heap.size d off cap' A' ∧ Ext w w' ∧ w'.heap.size = w.heap.size + 4 := by
  obtain ⟨hs, _, A, cap, rfl, hcap, hmax, hrow⟩ := hv
  have HA := hide hA
  have HBY := hide hby
  clear hrow hmax hA hby
  have hbF : bodyF f + 2 = f.sync.size + 1 + 2 * f.words.toNat + 2 := rfl
  have HBF := hide hbF
  clear hbF
  obtain ⟨wd, hwd⟩ := Int.eq_ofNat_of_zero_le hw0
  have HWD := hide hwd
  have hwd1 : wd ≤ 1000 := by omega
  generalize f.words = fw at *
  subst hwd
  clear hw0 hw
  go_enter Try.func72, Try.ntmps72
  go_wp2
  refine bodyPost_ret (results_tmp rfl _ _ _) rfl ?_
  have hx := (((((Ext.refl w).alloc (.cells #[.string f.sync, .int .i64 wd, .int .i64 f.depth, .slice A f.channels.length cap] 28)).alloc (.cells #[.slice A' l.length cap'] 22)).alloc (.cells #[.int .i64 f.sync.size] 3)).alloc (.cells #[.int .i64 ((f.sync.size : Int) + 1 + 2 * (wd : Int) + 2)] 3))
  have hz : bodyF f + 2 = f.sync.size + 1 + 2 * wd + 2 := by rw [HBF.out]; omega
  refine ⟨rfl, ⟨?_, ?_, ?_, HA.out, ?_, HBY.out.ext hx⟩, hx, by simp⟩
  · rw [hz]
    have := (cell_new (((w.alloc (.cells #[.string f.sync, .int .i64 wd, .int .i64 f.depth, .slice A f.channels.length cap] 28)).alloc (.cells #[.slice A' l.length cap'] 22)).alloc (.cells #[.int .i64 f.sync.size] 3)) #[.int .i64 ((f.sync.size : Int) + 1 + 2 * (wd : Int) + 2)] 3 0 _ rfl)
    simp only [World.size_alloc] at this
    exact this
  · have := (cell_new ((w.alloc (.cells #[.string f.sync, .int .i64 wd, .int .i64 f.depth, .slice A f.channels.length cap] 28)).alloc (.cells #[.slice A' l.length cap'] 22)) #[.int .i64 f.sync.size] 3 0 _ rfl)
    simp only [World.size_alloc] at this
    exact ((Ext.refl _).alloc _).cell this
  · have := (cell_new (w.alloc (.cells #[.string f.sync, .int .i64 wd, .int .i64 f.depth, .slice A f.channels.length cap] 28)) #[.slice A' l.length cap'] 22 0 _ rfl)
    simp only [World.size_alloc] at this
    exact (((Ext.refl _).alloc _).alloc _).cell this
  · exact ((((Ext.refl _).alloc _).alloc _).alloc _).cell (cell_new w _ 28 0 _ rfl)
end Go.Proofs.Ytjnnkcnnandeeaa
