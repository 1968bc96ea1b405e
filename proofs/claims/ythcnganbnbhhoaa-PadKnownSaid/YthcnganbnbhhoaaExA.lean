/- The walks of the examples of the document: the pad, the acts, the reasons. -/
import Derived.Test.YthcnganbnbhhoaaSc2
namespace Go.Proofs.Ythcnganbnbhhoaa
open Go.RowKit Go.Shelf
/-- Blocks made one behind the other. -/
def allocL : World → List Obj → World
 | w, [] => w
 | w, o :: l => allocL (w.alloc o) l
theorem allocL_ext : ∀ (l : List Obj) (w : World), Ext w (allocL w l)
 | [], w => Ext.refl w
 | o :: l, w => ((Ext.refl w).alloc o).trans (allocL_ext l (w.alloc o))
theorem allocL_get : ∀ (l : List Obj) (w : World) (k : Nat) (o : Obj), l[k]? = some o → (allocL w l).heap[w.heap.size + k]? = some o
 | [], w, k, o, h => by simp at h
 | x :: l, w, 0, o, h => by
   simp at h
   subst h
   exact (Below.block (allocL_ext l (w.alloc x)) _ (by simp)).trans (World.alloc_heap_new w x)
 | x :: l, w, k + 1, o, h => by
   have := allocL_get l (w.alloc x) k o (by simpa using h)
   rw [World.size_alloc] at this
   rw [show w.heap.size + (k + 1) = w.heap.size + 1 + k by omega]
   exact this
/-- A block that holds a list's elements, cell by cell. -/
theorem flat_get {α : Type} [Inhabited α] (size : Nat) (cell : α → Nat → Value) : ∀ (l : List α) (i f : Nat), i < l.length → f < size → (l.flatMap fun x => (List.range size).map (cell x))[i * size + f]? = some (cell (l.getD i default) f)
 | [], i, f, h, _ => by simp at h
 | x :: l, 0, f, _, hf => by
   rw [List.flatMap_cons, Nat.zero_mul, Nat.zero_add, List.getElem?_append_left (by simpa using hf)]
   simp [hf]
 | x :: l, i + 1, f, h, hf => by
   rw [List.flatMap_cons, List.getElem?_append_right (by simp; rw [Nat.add_mul]; omega)]
   rw [show (i + 1) * size + f - ((List.range size).map (cell x)).length = i * size + f by simp; rw [Nat.add_mul]; omega]
   rw [flat_get size cell l i f (by simpa using h) hf]
   simp
theorem listV_blk {α : Type} [Inhabited α] {size : Nat} {cell : α → Nat → Value} {W : World} {b : Nat} {t : TypeId} {cs : Array Value} {l : List α} {n : Nat} (h : Blk W b t cs) (hc : cs = (l.flatMap fun x => (List.range size).map (cell x)).toArray) (hn : n = l.length) (hm : n ≤ maxLen) : ListV size cell W (.slice (some ⟨b, 0, none⟩) n n) l := by
 subst hc hn
 refine ⟨_, _, rfl, Nat.le_refl _, hm, fun _ => ⟨b, 0, rfl, h.lt, fun i f hi hf => ?_⟩⟩
 rw [Nat.zero_add]
 exact cell_heap h _ _ (by simpa using flat_get size cell l i f hi hf)
theorem intsV_blk {W : World} {b : Nat} {t : TypeId} {cs : Array Value} {l : List Int} {n : Nat} (h : Blk W b t cs) (hc : cs = (l.map (Value.int .i64)).toArray) (hn : n = l.length) (hm : n ≤ maxLen) : IntsV W .i64 (.slice (some ⟨b, 0, none⟩) n n) l := by
 subst hc hn
 refine ⟨_, _, rfl, Nat.le_refl _, hm, fun _ => ⟨b, 0, rfl, h.lt, fun j hj => ?_⟩⟩
 rw [Nat.zero_add]
 refine cell_heap h _ _ ?_
 simp [hj]
/-- The pad of the examples. -/
def exPad (k1 k2 : Value) : Pad where
 zones := [⟨⟨#[98, 117, 110, 107, 101, 114]⟩, -500000, -400000, 0, 50000, 0, 8, false⟩, ⟨⟨#[114, 111, 97, 100]⟩, -300000, -100000, -10000, 10000, 1, 4, false⟩, ⟨⟨#[114, 97, 105, 108]⟩, -5000, 5000, -5000, 5000, 2, 2, true⟩]
 doors := [⟨-1, 0⟩, ⟨0, 1⟩, ⟨2, 1⟩]
 people := [⟨⟨#[97, 110, 110]⟩, 5⟩, ⟨⟨#[98, 111, 98]⟩, 2⟩, ⟨⟨#[101, 118, 101]⟩, 1⟩]
 keys := [⟨#[114, 101, 100]⟩, ⟨#[98, 108, 117, 101]⟩, ⟨#[103, 114, 101, 121]⟩]
 squibs := [(⟨⟨#[109, 111, 116, 111, 114]⟩, 0, 0, 100000, 5, [0, 1]⟩, k1), (⟨⟨#[99, 104, 117, 116, 101]⟩, 0, 3000, 20000, 3, [2]⟩, k2)]
 panel := 0
 wait := 100
theorem strOk_of {s : ByteArray} (h : decide (s.size ≤ 100) = true) : StrOk s := by
 have := of_decide_eq_true h
 unfold StrOk; omega
theorem ex_strs (k1 k2 : Value) : (exPad k1 k2).StrsOk := by
 refine ⟨fun z hz => ?_, fun z hz => ?_, fun z hz => ?_, fun z hz => ?_⟩ <;> simp only [exPad, List.mem_cons, List.not_mem_nil, or_false] at hz
 ·rcases hz with rfl | rfl | rfl <;> exact strOk_of (by kernel_rfl)
 ·rcases hz with rfl | rfl | rfl <;> exact strOk_of (by kernel_rfl)
 ·rcases hz with rfl | rfl | rfl <;> exact strOk_of (by kernel_rfl)
 ·rcases hz with rfl | rfl <;> exact strOk_of (by kernel_rfl)
def exActs : List PAct := [⟨0, 1, 0, 0, 1⟩, ⟨1, 2, 0, 0, -1⟩, ⟨1, 2, 1, 1, -1⟩, ⟨2, 1, 0, 1, 1⟩, ⟨3, 1, 0, 2, 1⟩, ⟨4, 1, 2, 0, -1⟩, ⟨4, 2, 2, 2, -1⟩, ⟨5, 8, 2, 1, -1⟩, ⟨6, 5, 2, 0, -1⟩, ⟨6, 1, 0, 2, -1⟩, ⟨10, 1, 0, 0, 1⟩, ⟨11, 3, 0, 0, -1⟩, ⟨12, 3, 1, 1, -1⟩, ⟨104, 5, 0, 0, -1⟩, ⟨105, 5, 0, 0, -1⟩, ⟨105, 5, 0, 1, -1⟩, ⟨106, 1, 2, 1, -1⟩, ⟨107, 1, 2, 2, -1⟩, ⟨108, 1, 2, 0, -1⟩, ⟨108, 2, 2, 0, -1⟩, ⟨109, 9, 0, 1, -1⟩, ⟨110, 8, 2, 0, -1⟩, ⟨111, 5, 0, 0, -1⟩]
def exWhy : List Int := [0, 0, 0, 0, 174, 0, 0, 0, 172, 174, 0, 0, 0, 179, 0, 174, 0, 172, 0, 177, 0, 0, 173]
set_option maxRecDepth 100000 in
set_option maxHeartbeats 400000 in
/-- Example$1 -/
theorem example1_any (a b c d : Int) (w : World) : Calls Try.prog 73 #[.int .i64 a, .int .i64 b, .int .i64 c, .int .i64 d] w fun e w' => e = .returned (.agg #[.int .i64 a, .int .i64 b, .int .i64 c, .int .i64 d]) ∧ Ext w w' := by
 go_enter Try.func73, Try.ntmps73
 go_wp2
 refine bodyPost_ret (v := .agg #[.int .i64 a, .int .i64 b, .int .i64 c, .int .i64 d]) (by simp [results, Try.results73, go_sem]) rfl ?_
 exact ⟨rfl, (Ext.refl _).alloc _⟩
set_option maxRecDepth 100000 in
set_option maxHeartbeats 4000000 in
/-- Example -/
theorem example_any (w : World) : Calls Try.prog 35 #[] w fun e w' => ∃ v k1 k2, e = .returned v ∧ PadV w' v (exPad k1 k2) ∧ Ext w w' := by
 go_enter Try.func35, Try.ntmps35
 go_wp2_with fail
 obtain ⟨W0, hW0⟩ : ∃ V, w.alloc (.cells #[.slice none 0 0, .slice none 0 0, .slice none 0 0, .slice none 0 0, .slice none 0 0, .int .i64 0, .int .i64 0] 28) = V := ⟨_, rfl⟩
 have HX := hide (show Ext w W0 by rw [← hW0]; exact (Ext.refl _).alloc _)
 have HB := hide (show Blk W0 w.heap.size 28 #[.slice none 0 0, .slice none 0 0, .slice none 0 0, .slice none 0 0, .slice none 0 0, .int .i64 0, .int .i64 0] by rw [← hW0]; exact Blk.new _ _ _)
 rw [hW0]
 clear hW0
 refine (example1_any _ _ _ _ _).mono ?_
 rintro e w1 ⟨rfl, hx⟩
 replace HX := hide (HX.out.trans hx)
 replace HB := hide (HB.out.ext hx)
 clear hx
 go_wp2_with fail
 refine (example1_any _ _ _ _ _).mono ?_
 rintro e w2 ⟨rfl, hx⟩
 replace HX := hide (HX.out.trans hx)
 replace HB := hide (HB.out.ext hx)
 clear hx
 go_wp2_with fail
 refine (example1_any _ _ _ _ _).mono ?_
 rintro e w3 ⟨rfl, hx⟩
 replace HX := hide (HX.out.trans hx)
 replace HB := hide (HB.out.ext hx)
 clear hx
 have hlt := HB.out.lt
 have b0 := cell_heap HB.out 0 _ rfl
 have g0 := HB.out.frozen 0
 have b1 := cell_heap HB.out 1 _ rfl
 have g1 := HB.out.frozen 1
 have b2 := cell_heap HB.out 2 _ rfl
 have g2 := HB.out.frozen 2
 have b3 := cell_heap HB.out 3 _ rfl
 have g3 := HB.out.frozen 3
 have b4 := cell_heap HB.out 4 _ rfl
 have g4 := HB.out.frozen 4
 have b5 := cell_heap HB.out 5 _ rfl
 have g5 := HB.out.frozen 5
 have b6 := cell_heap HB.out 6 _ rfl
 have g6 := HB.out.frozen 6
 have l1 : w.heap.size < w3.heap.size + 1 := by omega
 have l2 : w.heap.size < w3.heap.size + 1 + 1 := by omega
 have l3 : w.heap.size < w3.heap.size + 1 + 1 + 1 := by omega
 have l4 : w.heap.size < w3.heap.size + 1 + 1 + 1 + 1 := by omega
 have l5 : w.heap.size < w3.heap.size + 1 + 1 + 1 + 1 + 1 := by omega
 have l6 : w.heap.size < w3.heap.size + 1 + 1 + 1 + 1 + 1 + 1 := by omega
 have l7 : w.heap.size < w3.heap.size + 1 + 1 + 1 + 1 + 1 + 1 + 1 := by omega
 go_wp2_with fail
 obtain ⟨W4, hW4⟩ : ∃ V, (((((((w3.setCell ⟨w.heap.size, 0, none⟩ (.slice (some ⟨w3.heap.size, 0, none⟩) 3 3)).setCell ⟨w.heap.size, 1, none⟩ (.slice (some ⟨w3.heap.size + 1, 0, none⟩) 3 3)).setCell ⟨w.heap.size, 2, none⟩ (.slice (some ⟨w3.heap.size + 1 + 1, 0, none⟩) 3 3)).setCell ⟨w.heap.size, 3, none⟩ (.slice (some ⟨w3.heap.size + 1 + 1 + 1, 0, none⟩) 3 3)).setCell ⟨w.heap.size, 4, none⟩ (.slice (some ⟨w3.heap.size + 1 + 1 + 1 + 1 + 1 + 1, 0, none⟩) 2 2)).setCell ⟨w.heap.size, 5, none⟩ (.int .i64 0)).setCell ⟨w.heap.size, 6, none⟩ (.int .i64 100)) = V := ⟨_, rfl⟩
 rw [hW4]
 have HB4 := hide (show Blk W4 w.heap.size 28 #[.slice (some ⟨w3.heap.size, 0, none⟩) 3 3, .slice (some ⟨w3.heap.size + 1, 0, none⟩) 3 3, .slice (some ⟨w3.heap.size + 1 + 1, 0, none⟩) 3 3, .slice (some ⟨w3.heap.size + 1 + 1 + 1, 0, none⟩) 3 3, .slice (some ⟨w3.heap.size + 1 + 1 + 1 + 1 + 1 + 1, 0, none⟩) 2 2, .int .i64 0, .int .i64 100] from by rw [← hW4]; exact (((((((HB.out.set 0 _).set 1 _).set 2 _).set 3 _).set 4 _).set 5 _).set 6 _))
 have HX4 := hide (show Ext w W4 from by
  rw [← hW4]
  have h1 : w.heap.size ≤ w.heap.size := Nat.le_refl _
  exact (((((((HX.out.setCell h1 _).setCell h1 _).setCell h1 _).setCell h1 _).setCell h1 _).setCell h1 _).setCell h1 _))
 have HSZ := hide (show W4.heap.size = w3.heap.size from by rw [← hW4]; simp only [World.size_setCell])
 clear hW4 b0 g0 b1 g1 b2 g2 b3 g3 b4 g4 b5 g5 b6 g6 l1 l2 l3 l4 l5 l6 l7
 obtain ⟨V, hV⟩ : ∃ V, allocL W4 [.cells #[.string ⟨#[98, 117, 110, 107, 101, 114]⟩, .int .i64 (-500000), .int .i64 (-400000), .int .i64 0, .int .i64 50000, .int .i64 0, .int .i64 8, .bool false, .string ⟨#[114, 111, 97, 100]⟩, .int .i64 (-300000), .int .i64 (-100000), .int .i64 (-10000), .int .i64 10000, .int .i64 1, .int .i64 4, .bool false, .string ⟨#[114, 97, 105, 108]⟩, .int .i64 (-5000), .int .i64 5000, .int .i64 (-5000), .int .i64 5000, .int .i64 2, .int .i64 2, .bool true] 61, .cells #[.int .i64 (-1), .int .i64 0, .int .i64 0, .int .i64 1, .int .i64 2, .int .i64 1] 89, .cells #[.string ⟨#[97, 110, 110]⟩, .int .i64 5, .string ⟨#[98, 111, 98]⟩, .int .i64 2, .string ⟨#[101, 118, 101]⟩, .int .i64 1] 72, .cells #[.string ⟨#[114, 101, 100]⟩, .string ⟨#[98, 108, 117, 101]⟩, .string ⟨#[103, 114, 101, 121]⟩] 9, .cells #[.int .i64 0, .int .i64 1] 3, .cells #[.int .i64 2] 3, .cells #[.string ⟨#[109, 111, 116, 111, 114]⟩, .int .i64 0, .int .i64 0, .int .i64 100000, .int .i64 5, .slice (some ⟨w3.heap.size + 1 + 1 + 1 + 1, 0, none⟩) 2 2, .string ⟨#[99, 104, 117, 116, 101]⟩, .int .i64 0, .int .i64 3000, .int .i64 20000, .int .i64 3, .slice (some ⟨w3.heap.size + 1 + 1 + 1 + 1 + 1, 0, none⟩) 1 1] 55] = V := ⟨_, rfl⟩
 show bodyPost Try.prog Try.f35 _ Exit.ret _ (allocL W4 [.cells #[.string ⟨#[98, 117, 110, 107, 101, 114]⟩, .int .i64 (-500000), .int .i64 (-400000), .int .i64 0, .int .i64 50000, .int .i64 0, .int .i64 8, .bool false, .string ⟨#[114, 111, 97, 100]⟩, .int .i64 (-300000), .int .i64 (-100000), .int .i64 (-10000), .int .i64 10000, .int .i64 1, .int .i64 4, .bool false, .string ⟨#[114, 97, 105, 108]⟩, .int .i64 (-5000), .int .i64 5000, .int .i64 (-5000), .int .i64 5000, .int .i64 2, .int .i64 2, .bool true] 61, .cells #[.int .i64 (-1), .int .i64 0, .int .i64 0, .int .i64 1, .int .i64 2, .int .i64 1] 89, .cells #[.string ⟨#[97, 110, 110]⟩, .int .i64 5, .string ⟨#[98, 111, 98]⟩, .int .i64 2, .string ⟨#[101, 118, 101]⟩, .int .i64 1] 72, .cells #[.string ⟨#[114, 101, 100]⟩, .string ⟨#[98, 108, 117, 101]⟩, .string ⟨#[103, 114, 101, 121]⟩] 9, .cells #[.int .i64 0, .int .i64 1] 3, .cells #[.int .i64 2] 3, .cells #[.string ⟨#[109, 111, 116, 111, 114]⟩, .int .i64 0, .int .i64 0, .int .i64 100000, .int .i64 5, .slice (some ⟨w3.heap.size + 1 + 1 + 1 + 1, 0, none⟩) 2 2, .string ⟨#[99, 104, 117, 116, 101]⟩, .int .i64 0, .int .i64 3000, .int .i64 20000, .int .i64 3, .slice (some ⟨w3.heap.size + 1 + 1 + 1 + 1 + 1, 0, none⟩) 1 1] 55])
 have HG := hide (show ∀ k o, [.cells #[.string ⟨#[98, 117, 110, 107, 101, 114]⟩, .int .i64 (-500000), .int .i64 (-400000), .int .i64 0, .int .i64 50000, .int .i64 0, .int .i64 8, .bool false, .string ⟨#[114, 111, 97, 100]⟩, .int .i64 (-300000), .int .i64 (-100000), .int .i64 (-10000), .int .i64 10000, .int .i64 1, .int .i64 4, .bool false, .string ⟨#[114, 97, 105, 108]⟩, .int .i64 (-5000), .int .i64 5000, .int .i64 (-5000), .int .i64 5000, .int .i64 2, .int .i64 2, .bool true] 61, .cells #[.int .i64 (-1), .int .i64 0, .int .i64 0, .int .i64 1, .int .i64 2, .int .i64 1] 89, .cells #[.string ⟨#[97, 110, 110]⟩, .int .i64 5, .string ⟨#[98, 111, 98]⟩, .int .i64 2, .string ⟨#[101, 118, 101]⟩, .int .i64 1] 72, .cells #[.string ⟨#[114, 101, 100]⟩, .string ⟨#[98, 108, 117, 101]⟩, .string ⟨#[103, 114, 101, 121]⟩] 9, .cells #[.int .i64 0, .int .i64 1] 3, .cells #[.int .i64 2] 3, .cells #[.string ⟨#[109, 111, 116, 111, 114]⟩, .int .i64 0, .int .i64 0, .int .i64 100000, .int .i64 5, .slice (some ⟨w3.heap.size + 1 + 1 + 1 + 1, 0, none⟩) 2 2, .string ⟨#[99, 104, 117, 116, 101]⟩, .int .i64 0, .int .i64 3000, .int .i64 20000, .int .i64 3, .slice (some ⟨w3.heap.size + 1 + 1 + 1 + 1 + 1, 0, none⟩) 1 1] 55][k]? = some o → V.heap[w3.heap.size + k]? = some o from fun k o h => by
  have := allocL_get _ W4 k o h
  rw [HSZ.out] at this
  rw [← hV]; exact this)
 have HBV := hide (show Blk V w.heap.size 28 #[.slice (some ⟨w3.heap.size, 0, none⟩) 3 3, .slice (some ⟨w3.heap.size + 1, 0, none⟩) 3 3, .slice (some ⟨w3.heap.size + 1 + 1, 0, none⟩) 3 3, .slice (some ⟨w3.heap.size + 1 + 1 + 1, 0, none⟩) 3 3, .slice (some ⟨w3.heap.size + 1 + 1 + 1 + 1 + 1 + 1, 0, none⟩) 2 2, .int .i64 0, .int .i64 100] from by rw [← hV]; exact HB4.out.ext (allocL_ext _ _))
 have HXV := hide (show Ext w V from by rw [← hV]; exact HX4.out.trans (allocL_ext _ _))
 rw [hV]
 clear hV
 have v0 := cell_heap HBV.out 0 _ rfl
 have v1 := cell_heap HBV.out 1 _ rfl
 have v2 := cell_heap HBV.out 2 _ rfl
 have v3 := cell_heap HBV.out 3 _ rfl
 have v4 := cell_heap HBV.out 4 _ rfl
 have v5 := cell_heap HBV.out 5 _ rfl
 have v6 := cell_heap HBV.out 6 _ rfl
 refine bodyPost_ret (v := .agg #[.slice (some ⟨w3.heap.size, 0, none⟩) 3 3, .slice (some ⟨w3.heap.size + 1, 0, none⟩) 3 3, .slice (some ⟨w3.heap.size + 1 + 1, 0, none⟩) 3 3, .slice (some ⟨w3.heap.size + 1 + 1 + 1, 0, none⟩) 3 3, .slice (some ⟨w3.heap.size + 1 + 1 + 1 + 1 + 1 + 1, 0, none⟩) 2 2, .int .i64 0, .int .i64 100]) (by simp [results, Try.results35, go_sem, v0, v1, v2, v3, v4, v5, v6]) rfl ?_
 refine ⟨_, .slice (some ⟨w3.heap.size + 4, 0, none⟩) 2 2, .slice (some ⟨w3.heap.size + 5, 0, none⟩) 1 1, rfl, ⟨ex_strs _ _, ?_, _, _, _, _, _, rfl, ?_, ?_, ?_, ?_, ?_⟩, HXV.out⟩
 ·intro q hq
  simp only [exPad, List.mem_cons, List.not_mem_nil, or_false] at hq
  rcases hq with rfl | rfl
  ·exact intsV_blk (HG.out 4 _ rfl) rfl rfl (by simp [maxLen])
  ·exact intsV_blk (HG.out 5 _ rfl) rfl rfl (by simp [maxLen])
 ·exact listV_blk (HG.out 0 _ rfl) (by kernel_rfl) rfl (by simp [maxLen])
 ·exact listV_blk (HG.out 1 _ rfl) (by kernel_rfl) rfl (by simp [maxLen])
 ·exact listV_blk (HG.out 2 _ rfl) (by kernel_rfl) rfl (by simp [maxLen])
 ·exact listV_blk (HG.out 3 _ rfl) (by kernel_rfl) rfl (by simp [maxLen])
 ·exact listV_blk (HG.out 6 _ rfl) (by kernel_rfl) rfl (by simp [maxLen])
set_option maxRecDepth 100000 in
set_option maxHeartbeats 1000000 in
/-- Acts -/
theorem acts_any (w : World) : Calls Try.prog 36 #[] w fun e w' => ∃ v, e = .returned v ∧ ListV 5 PAct.cell w' v exActs ∧ Ext w w' := by
 go_enter Try.func36, Try.ntmps36
 go_wp2_with fail
 go_ret
 exact ⟨_, rfl, listV_blk (Blk.new w _ _) (by kernel_rfl) rfl (by simp [maxLen]), (Ext.refl _).alloc _⟩
set_option maxRecDepth 100000 in
set_option maxHeartbeats 1000000 in
/-- reasons -/
theorem reasons_any (w : World) : Calls Try.prog 61 #[] w fun e w' => ∃ v, e = .returned v ∧ IntsV w' .i64 v exWhy ∧ Ext w w' := by
 go_enter Try.func61, Try.ntmps61
 go_wp2_with fail
 go_ret
 exact ⟨_, rfl, intsV_blk (Blk.new w _ _) rfl rfl (by simp [maxLen]), (Ext.refl _).alloc _⟩
end Go.Proofs.Ythcnganbnbhhoaa
