/- The walk of slices.Repeat at []int, for few. -/
import Derived.Test.YthcnganbnbhhoaaStage
import Derived.Test.YthcnganbnbhhoaaDetE
import Derived.LoopN
import Derived.Laws.CopyOwn
namespace Go.Proofs.Ythcnganbnbhhoaa
open Go.RowKit Go.Shelf
set_option maxRecDepth 100000 in
set_option maxHeartbeats 400000 in
theorem mul64_0 (w : World) : Calls Try.prog 100 #[.int .u64 1, .int .u64 0] w fun e w' => e = .returned (.tuple #[.int .u64 0, .int .u64 0]) ∧ w = w' := by
 go_enter Try.func100, Try.ntmps100
 go_wp2
 go_ret2
 exact ⟨rfl, rfl⟩
set_option maxRecDepth 100000 in
set_option maxHeartbeats 400000 in
theorem mul64_1 (w : World) : Calls Try.prog 100 #[.int .u64 1, .int .u64 1] w fun e w' => e = .returned (.tuple #[.int .u64 0, .int .u64 1]) ∧ w = w' := by
 go_enter Try.func100, Try.ntmps100
 go_wp2
 go_ret2
 exact ⟨rfl, rfl⟩
set_option maxRecDepth 100000 in
set_option maxHeartbeats 400000 in
theorem mul64_2 (w : World) : Calls Try.prog 100 #[.int .u64 1, .int .u64 2] w fun e w' => e = .returned (.tuple #[.int .u64 0, .int .u64 2]) ∧ w = w' := by
 go_enter Try.func100, Try.ntmps100
 go_wp2
 go_ret2
 exact ⟨rfl, rfl⟩
set_option maxRecDepth 100000 in
set_option maxHeartbeats 400000 in
theorem mul64_3 (w : World) : Calls Try.prog 100 #[.int .u64 1, .int .u64 3] w fun e w' => e = .returned (.tuple #[.int .u64 0, .int .u64 3]) ∧ w = w' := by
 go_enter Try.func100, Try.ntmps100
 go_wp2
 go_ret2
 exact ⟨rfl, rfl⟩
set_option maxRecDepth 100000 in
set_option maxHeartbeats 400000 in
theorem mul64_4 (w : World) : Calls Try.prog 100 #[.int .u64 1, .int .u64 4] w fun e w' => e = .returned (.tuple #[.int .u64 0, .int .u64 4]) ∧ w = w' := by
 go_enter Try.func100, Try.ntmps100
 go_wp2
 go_ret2
 exact ⟨rfl, rfl⟩
set_option maxRecDepth 100000 in
set_option maxHeartbeats 400000 in
theorem mul64_5 (w : World) : Calls Try.prog 100 #[.int .u64 1, .int .u64 5] w fun e w' => e = .returned (.tuple #[.int .u64 0, .int .u64 5]) ∧ w = w' := by
 go_enter Try.func100, Try.ntmps100
 go_wp2
 go_ret2
 exact ⟨rfl, rfl⟩
set_option maxRecDepth 100000 in
set_option maxHeartbeats 400000 in
theorem mul64_6 (w : World) : Calls Try.prog 100 #[.int .u64 1, .int .u64 6] w fun e w' => e = .returned (.tuple #[.int .u64 0, .int .u64 6]) ∧ w = w' := by
 go_enter Try.func100, Try.ntmps100
 go_wp2
 go_ret2
 exact ⟨rfl, rfl⟩
set_option maxRecDepth 100000 in
set_option maxHeartbeats 400000 in
theorem mul64_7 (w : World) : Calls Try.prog 100 #[.int .u64 1, .int .u64 7] w fun e w' => e = .returned (.tuple #[.int .u64 0, .int .u64 7]) ∧ w = w' := by
 go_enter Try.func100, Try.ntmps100
 go_wp2
 go_ret2
 exact ⟨rfl, rfl⟩
set_option maxRecDepth 100000 in
set_option maxHeartbeats 400000 in
theorem mul64_8 (w : World) : Calls Try.prog 100 #[.int .u64 1, .int .u64 8] w fun e w' => e = .returned (.tuple #[.int .u64 0, .int .u64 8]) ∧ w = w' := by
 go_enter Try.func100, Try.ntmps100
 go_wp2
 go_ret2
 exact ⟨rfl, rfl⟩
theorem mul64_any (n : Nat) (h : n ≤ 8) (w : World) : Calls Try.prog 100 #[.int .u64 1, .int .u64 (n : Nat)] w fun e w' => e = .returned (.tuple #[.int .u64 0, .int .u64 (n : Nat)]) ∧ w = w' := by
 have h9 : n = 0 ∨ n = 1 ∨ n = 2 ∨ n = 3 ∨ n = 4 ∨ n = 5 ∨ n = 6 ∨ n = 7 ∨ n = 8 := by omega
 rcases h9 with rfl | rfl | rfl | rfl | rfl | rfl | rfl | rfl | rfl
 ·exact mul64_0 w
 ·exact mul64_1 w
 ·exact mul64_2 w
 ·exact mul64_3 w
 ·exact mul64_4 w
 ·exact mul64_5 w
 ·exact mul64_6 w
 ·exact mul64_7 w
 ·exact mul64_8 w
set_option maxRecDepth 100000 in
set_option maxHeartbeats 400000 in
theorem mul_any (n : Nat) (h : n ≤ 8) (w : World) : Calls Try.prog 84 #[.int .u64 1, .int .u64 (n : Nat)] w fun e w' => e = .returned (.tuple #[.int .u64 0, .int .u64 (n : Nat)]) ∧ w = w' := by
 have HM := hide (fun V => mul64_any n h V)
 clear h
 go_enter Try.func84, Try.ntmps84
 go_wp2_with (go_at_call 100; refine (HM.out _).mono ?_; rintro e w' ⟨rfl, rfl⟩)
 go_ret2
 exact ⟨rfl, rfl⟩
theorem repCopy {Q : Exit → Act → World → Prop} {F : Array Value} {df : List Deferred} {W : World} {K : Act → World → Prop} {o : Oper} (hgd : o.guard = none) (ho : o.op = .call { callee := .builtin .copy, args := #[.tmp 41, .tmp 44], argTypes := #[36, 36] }) (hdst : o.dst = some 45)
 (b pos n : Nat) (old new cs : List Value) (e41 : F[41]?.getD undef = .slice (some ⟨b, pos, none⟩) (n - pos) (n - pos)) (e44 : F[44]?.getD undef = .slice (some ⟨b, 0, none⟩) pos n)
 (hW : W.heap[b]? = some (.cells old.toArray 3 (0, 0)) ∨ W.heap[b]? = some (.cells new.toArray 3 (0, 0))) (hn : cs.length = Nat.min pos (n - pos)) (hfit : pos + cs.length ≤ old.length ∧ old.length = new.length)
 (hs1 : splice old pos cs = new) (hs2 : splice new pos cs = new) (hc1 : ∀ (j : Nat) (v : Value), cs[j]? = some v → old[j]? = some v) (hc2 : ∀ (j : Nat) (v : Value), cs[j]? = some v → new[j]? = some v) (h1 : cs.all (·.oneCell') = true)
 (h : ∀ W', W'.heap[b]? = some (.cells new.toArray 3 (0, 0)) → RowKit.Below b W W' → K (Act.put ⟨F, df⟩ (some 45) (.int .i64 cs.length)) W') : Oper.wp Try.prog o ⟨F, df⟩ W K Q := by
 have key : ∀ cur : List Value, W.heap[b]? = some (.cells cur.toArray 3 (0, 0)) → pos + cs.length ≤ cur.length → splice cur pos cs = new → (∀ (j : Nat) (v : Value), cs[j]? = some v → cur[j]? = some v) → Oper.wp Try.prog o ⟨F, df⟩ W K Q := fun cur hcur hf hsp hcc => by
  have := step_copy_splice (P := Try.prog) (ops := #[]) (o := o) (a := ⟨F, df⟩) (w := W) (K := K) (Q := Q) (E := False) hgd (.tmp 41) (.tmp 44) 36 36 ho 3 Try.underlying36 (by kernel_rfl) (some ⟨b, pos, none⟩) (some ⟨b, 0, none⟩) (n - pos) (n - pos) pos n (by show F.getD 41 undef = _; rw [Array.getD_eq_getD_getElem?]; exact e41) (by show F.getD 44 undef = _; rw [Array.getD_eq_getD_getElem?]; exact e44) b pos cur 3 hcur cs hn
   (fun _ => ⟨rfl, _, rfl, fun j v hv => by rw [addr_add, Nat.zero_add]; exact cell_heap hcur j v (by simpa using hcc j v hv)⟩) hf (fun v hv => by rw [List.all_eq_true] at h1; exact h1 v hv) b W (Below.refl _ _) (Nat.le_refl _)
   (fun W' hh hb => by rw [hdst]; exact h W' (by have := hh.out; rwa [hsp] at this) hb)
  have hw : Region.wanted o (yielded #[] (⟨F, df⟩ : Act).tmps) = true := by simp [Region.wanted, hgd]
  rwa [if_pos hw] at this
 rcases hW with hW | hW
 ·exact key old hW hfit.1 hs1 hc1
 ·exact key new hW (by omega) hs2 hc2
theorem repOk {W : World} {b n base : Nat} {cs : Array Value} {t : TypeId} (h : W.heap[b]? = some (.cells cs t (0, 0))) (hc : cs = ((List.replicate n (-1)).map (Value.int .i64)).toArray) (hbb : base ≤ b := by exact Nat.le_refl _) (hn : n ≤ 8 := by omega) : Own W base t 1 (.slice (some ⟨b, 0, none⟩) n n) n ((List.replicate n (-1)).map (Value.int .i64)) := by
 subst hc
 exact ⟨by simp, .inr ⟨b, n, _, 0, 0, rfl, hbb, h, Nat.le_refl _, by simp [maxLen]; omega, by simp, .inr (Nat.le_refl _), by simp⟩⟩
set_option maxRecDepth 100000 in
set_option maxHeartbeats 2000000 in
theorem repeat_0 (g : Nat) (w : World) (h : w.cell? ⟨g, 0, none⟩ = some (.int .i64 (-1))) :
 Calls Try.prog 63 #[.slice (some ⟨g, 0, none⟩) 1 1, .int .i64 0] w fun e w' => ∃ A c, e = .returned (.slice A 0 c) ∧ Own w' w.heap.size 3 1 (.slice A 0 c) 0 ((List.replicate 0 (-1)).map (Value.int .i64)) ∧ Ext w w' := by
 have hb := World.block_lt_of_cell? _ _ h
 have HC := hide h
 have HM := hide (fun V => mul_any 0 (by omega) V)
 have hmk : ∀ V : World, (Instr.makeSlice 36 (.int .i64 0) (.int .i64 0)).run Try.prog V = .ok (.slice (some ⟨V.heap.size, 0, none⟩) 0 0) (V.alloc (.cells (#[] : Array Value) 3)) := fun _ => by kernel_rfl
 clear h
 go_enter Try.func63, Try.ntmps63
 go_wp2_with (first
  | (go_at_call 84; refine (HM.out _).mono ?_; rintro e w' ⟨rfl, rfl⟩)
  | ((refine wpList_copy_splice (o := ⟨some 33, _, _, _, _, _⟩) rfl (.tmp 31) (.tmp 32) 36 36 rfl 3 Try.underlying36 (by kernel_rfl) (some ⟨w.heap.size, 0, none⟩) (some ⟨g, 0, none⟩) 0 0 1 1 rfl rfl w.heap.size 0 [] 3 (World.alloc_heap_new w _) [] rfl (fun _ => ⟨rfl, _, rfl, fun j v hv => by
       cases j with
       | zero => first | (simp at hv; done) | simp at hv; subst hv; exact (((Ext.refl _).alloc _).cell HC.out)
       | succ j => simp at hv⟩) (by decide) (by decide) w.heap.size w ((Ext.refl _).alloc _) (Nat.le_refl _) ?_)
     intro w1 hh1 hb1))
 have HB := hide (show w1.heap[w.heap.size]? = some (.cells (#[] : Array Value) 3 (0, 0)) from hh1.out)
 have HX := hide (show Ext w w1 from hb1)
 clear hh1 hb1
 refine wp_loop_rounds 1 ?_
 rw [rounds_succ]
 go_wp2_with fail
 go_ret
 exact ⟨_, _, rfl, repOk HB.out rfl, HX.out⟩
set_option maxRecDepth 100000 in
set_option maxHeartbeats 2000000 in
theorem repeat_1 (g : Nat) (w : World) (h : w.cell? ⟨g, 0, none⟩ = some (.int .i64 (-1))) :
 Calls Try.prog 63 #[.slice (some ⟨g, 0, none⟩) 1 1, .int .i64 1] w fun e w' => ∃ A c, e = .returned (.slice A 1 c) ∧ Own w' w.heap.size 3 1 (.slice A 1 c) 1 ((List.replicate 1 (-1)).map (Value.int .i64)) ∧ Ext w w' := by
 have hb := World.block_lt_of_cell? _ _ h
 have HC := hide h
 have HM := hide (fun V => mul_any 1 (by omega) V)
 have hmk : ∀ V : World, (Instr.makeSlice 36 (.int .i64 1) (.int .i64 1)).run Try.prog V = .ok (.slice (some ⟨V.heap.size, 0, none⟩) 1 1) (V.alloc (.cells (#[.int .i64 0] : Array Value) 3)) := fun _ => by kernel_rfl
 clear h
 go_enter Try.func63, Try.ntmps63
 go_wp2_with (first
  | (go_at_call 84; refine (HM.out _).mono ?_; rintro e w' ⟨rfl, rfl⟩)
  | ((refine wpList_copy_splice (o := ⟨some 33, _, _, _, _, _⟩) rfl (.tmp 31) (.tmp 32) 36 36 rfl 3 Try.underlying36 (by kernel_rfl) (some ⟨w.heap.size, 0, none⟩) (some ⟨g, 0, none⟩) 1 1 1 1 rfl rfl w.heap.size 0 [.int .i64 0] 3 (World.alloc_heap_new w _) [.int .i64 (-1)] rfl (fun _ => ⟨rfl, _, rfl, fun j v hv => by
       cases j with
       | zero => first | (simp at hv; done) | simp at hv; subst hv; exact (((Ext.refl _).alloc _).cell HC.out)
       | succ j => simp at hv⟩) (by decide) (by decide) w.heap.size w ((Ext.refl _).alloc _) (Nat.le_refl _) ?_)
     intro w1 hh1 hb1))
 have HB := hide (show w1.heap[w.heap.size]? = some (.cells (#[.int .i64 (-1)] : Array Value) 3 (0, 0)) from hh1.out)
 have HX := hide (show Ext w w1 from hb1)
 clear hh1 hb1
 refine wp_loop_rounds 1 ?_
 rw [rounds_succ]
 go_wp2_with fail
 go_ret
 exact ⟨_, _, rfl, repOk HB.out rfl, HX.out⟩
set_option maxRecDepth 100000 in
set_option maxHeartbeats 2000000 in
theorem repeat_2 (g : Nat) (w : World) (h : w.cell? ⟨g, 0, none⟩ = some (.int .i64 (-1))) :
 Calls Try.prog 63 #[.slice (some ⟨g, 0, none⟩) 1 1, .int .i64 2] w fun e w' => ∃ A c, e = .returned (.slice A 2 c) ∧ Own w' w.heap.size 3 1 (.slice A 2 c) 2 ((List.replicate 2 (-1)).map (Value.int .i64)) ∧ Ext w w' := by
 have hb := World.block_lt_of_cell? _ _ h
 have HC := hide h
 have HM := hide (fun V => mul_any 2 (by omega) V)
 have hmk : ∀ V : World, (Instr.makeSlice 36 (.int .i64 2) (.int .i64 2)).run Try.prog V = .ok (.slice (some ⟨V.heap.size, 0, none⟩) 2 2) (V.alloc (.cells (#[.int .i64 0, .int .i64 0] : Array Value) 3)) := fun _ => by kernel_rfl
 clear h
 go_enter Try.func63, Try.ntmps63
 go_wp2_with (first
  | (go_at_call 84; refine (HM.out _).mono ?_; rintro e w' ⟨rfl, rfl⟩)
  | ((refine wpList_copy_splice (o := ⟨some 33, _, _, _, _, _⟩) rfl (.tmp 31) (.tmp 32) 36 36 rfl 3 Try.underlying36 (by kernel_rfl) (some ⟨w.heap.size, 0, none⟩) (some ⟨g, 0, none⟩) 2 2 1 1 rfl rfl w.heap.size 0 [.int .i64 0, .int .i64 0] 3 (World.alloc_heap_new w _) [.int .i64 (-1)] rfl (fun _ => ⟨rfl, _, rfl, fun j v hv => by
       cases j with
       | zero => first | (simp at hv; done) | simp at hv; subst hv; exact (((Ext.refl _).alloc _).cell HC.out)
       | succ j => simp at hv⟩) (by decide) (by decide) w.heap.size w ((Ext.refl _).alloc _) (Nat.le_refl _) ?_)
     intro w1 hh1 hb1))
 have HB := hide (show w1.heap[w.heap.size]? = some (.cells (#[.int .i64 (-1), .int .i64 0] : Array Value) 3 (0, 0)) from hh1.out)
 have HX := hide (show Ext w w1 from hb1)
 clear hh1 hb1
 refine wp_loop_rounds 2 ?_
 rw [rounds_succ]
 go_wp2_with fail
 have HBO := hide HB.out
 apply wp_region_r (TurnsTo w.heap.size (.cells (#[.int .i64 (-1), .int .i64 (-1)] : Array Value) 3 (0, 0)) w) 9 [38, 39, 40, 41, 42, 43, 44, 45, 46]
  [.is _, .is _, .is _, .is _, .is _, .is _, .is _, .so (fun v W => v = .int .i64 1 ∧ W.heap[w.heap.size]? = some (.cells (#[.int .i64 (-1), .int .i64 (-1)] : Array Value) 3 (0, 0))), .is _]
  [(7, _), (8, _)]
 ·kernel_rfl
 ·decide
 ·exact TurnsTo.drew _
 ·exact fun A B C h k => h.trans k
 ·exact ⟨fun v A B h k => ⟨h.1, k.kept h.2⟩, trivial⟩
 ·decide
 ·rfl
 ·kernel_rfl
 ·decide +kernel
 iterate 6 (· kernel_rfl)
 ·rfl
 ·refine ⟨?_, ?_, trivial⟩ <;> (simp; rfl)
 ·repeat
   refine ⟨?_, ?_⟩
   ·intro F W hF hd hR
    simp [fixedAt] at hF
    obtain ⟨t7, t8⟩ := hF
    simp [Region.binds, Ent.holds] at hd
    refine ⟨fun _ K hK => ?_, by intro g b h hn; first | (cases h; done) | (cases h; exact absurd (by simp [hd]) hn)⟩
    simp only [Ent.holds, List.getD_cons_zero, List.getD_cons_succ] at hK
    first
     | (go_simp; exact hK _ _ rfl (TurnsTo.refl _))
     | (refine repCopy rfl rfl rfl w.heap.size 1 2 [.int .i64 (-1), .int .i64 0] [.int .i64 (-1), .int .i64 (-1)] [.int .i64 (-1)] hd.1 hd.2 (hR.2.imp (fun h => h.trans HBO.out) id) (by decide) (by decide) rfl rfl (by intro j v hv; rcases j with _ | _ | _ | _ | j <;> simp at hv ⊢ <;> exact hv) (by intro j v hv; rcases j with _ | _ | _ | _ | j <;> simp at hv ⊢ <;> exact hv) (by decide) ?_
        intro W' h1 h2
        exact hK _ _ ⟨rfl, h1⟩ ⟨fun hx => Ext.step hx h2 (Nat.le_refl _), .inr h1⟩)
  exact trivial
 intro X w1x hx hR
 simp only [toldX] at hx
 simp only [fillX, List.setIfInBounds_toArray, List.set_cons_succ, List.set_cons_zero]
 obtain ⟨⟨hx7, hx8⟩, _⟩ := hx
 rw [hx7]
 replace HB := hide hx8
 replace HX := hide (hR.1 HX.out)
 clear hx7 hx8 hR
 go_wp2_with fail
 rw [rounds_succ]
 go_wp2_with fail
 go_ret
 exact ⟨_, _, rfl, repOk HB.out rfl, HX.out⟩
set_option maxRecDepth 100000 in
set_option maxHeartbeats 2000000 in
theorem repeat_3 (g : Nat) (w : World) (h : w.cell? ⟨g, 0, none⟩ = some (.int .i64 (-1))) :
 Calls Try.prog 63 #[.slice (some ⟨g, 0, none⟩) 1 1, .int .i64 3] w fun e w' => ∃ A c, e = .returned (.slice A 3 c) ∧ Own w' w.heap.size 3 1 (.slice A 3 c) 3 ((List.replicate 3 (-1)).map (Value.int .i64)) ∧ Ext w w' := by
 have hb := World.block_lt_of_cell? _ _ h
 have HC := hide h
 have HM := hide (fun V => mul_any 3 (by omega) V)
 have hmk : ∀ V : World, (Instr.makeSlice 36 (.int .i64 3) (.int .i64 3)).run Try.prog V = .ok (.slice (some ⟨V.heap.size, 0, none⟩) 3 3) (V.alloc (.cells (#[.int .i64 0, .int .i64 0, .int .i64 0] : Array Value) 3)) := fun _ => by kernel_rfl
 clear h
 go_enter Try.func63, Try.ntmps63
 go_wp2_with (first
  | (go_at_call 84; refine (HM.out _).mono ?_; rintro e w' ⟨rfl, rfl⟩)
  | ((refine wpList_copy_splice (o := ⟨some 33, _, _, _, _, _⟩) rfl (.tmp 31) (.tmp 32) 36 36 rfl 3 Try.underlying36 (by kernel_rfl) (some ⟨w.heap.size, 0, none⟩) (some ⟨g, 0, none⟩) 3 3 1 1 rfl rfl w.heap.size 0 [.int .i64 0, .int .i64 0, .int .i64 0] 3 (World.alloc_heap_new w _) [.int .i64 (-1)] rfl (fun _ => ⟨rfl, _, rfl, fun j v hv => by
       cases j with
       | zero => first | (simp at hv; done) | simp at hv; subst hv; exact (((Ext.refl _).alloc _).cell HC.out)
       | succ j => simp at hv⟩) (by decide) (by decide) w.heap.size w ((Ext.refl _).alloc _) (Nat.le_refl _) ?_)
     intro w1 hh1 hb1))
 have HB := hide (show w1.heap[w.heap.size]? = some (.cells (#[.int .i64 (-1), .int .i64 0, .int .i64 0] : Array Value) 3 (0, 0)) from hh1.out)
 have HX := hide (show Ext w w1 from hb1)
 clear hh1 hb1
 refine wp_loop_rounds 3 ?_
 rw [rounds_succ]
 go_wp2_with fail
 have HBO := hide HB.out
 apply wp_region_r (TurnsTo w.heap.size (.cells (#[.int .i64 (-1), .int .i64 (-1), .int .i64 0] : Array Value) 3 (0, 0)) w) 9 [38, 39, 40, 41, 42, 43, 44, 45, 46]
  [.is _, .is _, .is _, .is _, .is _, .is _, .is _, .so (fun v W => v = .int .i64 1 ∧ W.heap[w.heap.size]? = some (.cells (#[.int .i64 (-1), .int .i64 (-1), .int .i64 0] : Array Value) 3 (0, 0))), .is _]
  [(7, _), (8, _)]
 ·kernel_rfl
 ·decide
 ·exact TurnsTo.drew _
 ·exact fun A B C h k => h.trans k
 ·exact ⟨fun v A B h k => ⟨h.1, k.kept h.2⟩, trivial⟩
 ·decide
 ·rfl
 ·kernel_rfl
 ·decide +kernel
 iterate 6 (· kernel_rfl)
 ·rfl
 ·refine ⟨?_, ?_, trivial⟩ <;> (simp; rfl)
 ·repeat
   refine ⟨?_, ?_⟩
   ·intro F W hF hd hR
    simp [fixedAt] at hF
    obtain ⟨t7, t8⟩ := hF
    simp [Region.binds, Ent.holds] at hd
    refine ⟨fun _ K hK => ?_, by intro g b h hn; first | (cases h; done) | (cases h; exact absurd (by simp [hd]) hn)⟩
    simp only [Ent.holds, List.getD_cons_zero, List.getD_cons_succ] at hK
    first
     | (go_simp; exact hK _ _ rfl (TurnsTo.refl _))
     | (refine repCopy rfl rfl rfl w.heap.size 1 3 [.int .i64 (-1), .int .i64 0, .int .i64 0] [.int .i64 (-1), .int .i64 (-1), .int .i64 0] [.int .i64 (-1)] hd.1 hd.2 (hR.2.imp (fun h => h.trans HBO.out) id) (by decide) (by decide) rfl rfl (by intro j v hv; rcases j with _ | _ | _ | _ | j <;> simp at hv ⊢ <;> exact hv) (by intro j v hv; rcases j with _ | _ | _ | _ | j <;> simp at hv ⊢ <;> exact hv) (by decide) ?_
        intro W' h1 h2
        exact hK _ _ ⟨rfl, h1⟩ ⟨fun hx => Ext.step hx h2 (Nat.le_refl _), .inr h1⟩)
  exact trivial
 intro X w1x hx hR
 simp only [toldX] at hx
 simp only [fillX, List.setIfInBounds_toArray, List.set_cons_succ, List.set_cons_zero]
 obtain ⟨⟨hx7, hx8⟩, _⟩ := hx
 rw [hx7]
 replace HB := hide hx8
 replace HX := hide (hR.1 HX.out)
 clear hx7 hx8 hR
 go_wp2_with fail
 rw [rounds_succ]
 go_wp2_with fail
 have HBO := hide HB.out
 apply wp_region_r (TurnsTo w.heap.size (.cells (#[.int .i64 (-1), .int .i64 (-1), .int .i64 (-1)] : Array Value) 3 (0, 0)) w) 9 [38, 39, 40, 41, 42, 43, 44, 45, 46]
  [.is _, .is _, .is _, .is _, .is _, .is _, .is _, .so (fun v W => v = .int .i64 1 ∧ W.heap[w.heap.size]? = some (.cells (#[.int .i64 (-1), .int .i64 (-1), .int .i64 (-1)] : Array Value) 3 (0, 0))), .is _]
  [(7, _), (8, _)]
 ·kernel_rfl
 ·decide
 ·exact TurnsTo.drew _
 ·exact fun A B C h k => h.trans k
 ·exact ⟨fun v A B h k => ⟨h.1, k.kept h.2⟩, trivial⟩
 ·decide
 ·rfl
 ·kernel_rfl
 ·decide +kernel
 iterate 6 (· kernel_rfl)
 ·rfl
 ·refine ⟨?_, ?_, trivial⟩ <;> (simp; rfl)
 ·repeat
   refine ⟨?_, ?_⟩
   ·intro F W hF hd hR
    simp [fixedAt] at hF
    obtain ⟨t7, t8⟩ := hF
    simp [Region.binds, Ent.holds] at hd
    refine ⟨fun _ K hK => ?_, by intro g b h hn; first | (cases h; done) | (cases h; exact absurd (by simp [hd]) hn)⟩
    simp only [Ent.holds, List.getD_cons_zero, List.getD_cons_succ] at hK
    first
     | (go_simp; exact hK _ _ rfl (TurnsTo.refl _))
     | (refine repCopy rfl rfl rfl w.heap.size 2 3 [.int .i64 (-1), .int .i64 (-1), .int .i64 0] [.int .i64 (-1), .int .i64 (-1), .int .i64 (-1)] [.int .i64 (-1)] hd.1 hd.2 (hR.2.imp (fun h => h.trans HBO.out) id) (by decide) (by decide) rfl rfl (by intro j v hv; rcases j with _ | _ | _ | _ | j <;> simp at hv ⊢ <;> exact hv) (by intro j v hv; rcases j with _ | _ | _ | _ | j <;> simp at hv ⊢ <;> exact hv) (by decide) ?_
        intro W' h1 h2
        exact hK _ _ ⟨rfl, h1⟩ ⟨fun hx => Ext.step hx h2 (Nat.le_refl _), .inr h1⟩)
  exact trivial
 intro X w1xx hx hR
 simp only [toldX] at hx
 simp only [fillX, List.setIfInBounds_toArray, List.set_cons_succ, List.set_cons_zero]
 obtain ⟨⟨hx7, hx8⟩, _⟩ := hx
 rw [hx7]
 replace HB := hide hx8
 replace HX := hide (hR.1 HX.out)
 clear hx7 hx8 hR
 go_wp2_with fail
 rw [rounds_succ]
 go_wp2_with fail
 go_ret
 exact ⟨_, _, rfl, repOk HB.out rfl, HX.out⟩
set_option maxRecDepth 100000 in
set_option maxHeartbeats 2000000 in
theorem repeat_4 (g : Nat) (w : World) (h : w.cell? ⟨g, 0, none⟩ = some (.int .i64 (-1))) :
 Calls Try.prog 63 #[.slice (some ⟨g, 0, none⟩) 1 1, .int .i64 4] w fun e w' => ∃ A c, e = .returned (.slice A 4 c) ∧ Own w' w.heap.size 3 1 (.slice A 4 c) 4 ((List.replicate 4 (-1)).map (Value.int .i64)) ∧ Ext w w' := by
 have hb := World.block_lt_of_cell? _ _ h
 have HC := hide h
 have HM := hide (fun V => mul_any 4 (by omega) V)
 have hmk : ∀ V : World, (Instr.makeSlice 36 (.int .i64 4) (.int .i64 4)).run Try.prog V = .ok (.slice (some ⟨V.heap.size, 0, none⟩) 4 4) (V.alloc (.cells (#[.int .i64 0, .int .i64 0, .int .i64 0, .int .i64 0] : Array Value) 3)) := fun _ => by kernel_rfl
 clear h
 go_enter Try.func63, Try.ntmps63
 go_wp2_with (first
  | (go_at_call 84; refine (HM.out _).mono ?_; rintro e w' ⟨rfl, rfl⟩)
  | ((refine wpList_copy_splice (o := ⟨some 33, _, _, _, _, _⟩) rfl (.tmp 31) (.tmp 32) 36 36 rfl 3 Try.underlying36 (by kernel_rfl) (some ⟨w.heap.size, 0, none⟩) (some ⟨g, 0, none⟩) 4 4 1 1 rfl rfl w.heap.size 0 [.int .i64 0, .int .i64 0, .int .i64 0, .int .i64 0] 3 (World.alloc_heap_new w _) [.int .i64 (-1)] rfl (fun _ => ⟨rfl, _, rfl, fun j v hv => by
       cases j with
       | zero => first | (simp at hv; done) | simp at hv; subst hv; exact (((Ext.refl _).alloc _).cell HC.out)
       | succ j => simp at hv⟩) (by decide) (by decide) w.heap.size w ((Ext.refl _).alloc _) (Nat.le_refl _) ?_)
     intro w1 hh1 hb1))
 have HB := hide (show w1.heap[w.heap.size]? = some (.cells (#[.int .i64 (-1), .int .i64 0, .int .i64 0, .int .i64 0] : Array Value) 3 (0, 0)) from hh1.out)
 have HX := hide (show Ext w w1 from hb1)
 clear hh1 hb1
 refine wp_loop_rounds 3 ?_
 rw [rounds_succ]
 go_wp2_with fail
 have HBO := hide HB.out
 apply wp_region_r (TurnsTo w.heap.size (.cells (#[.int .i64 (-1), .int .i64 (-1), .int .i64 0, .int .i64 0] : Array Value) 3 (0, 0)) w) 9 [38, 39, 40, 41, 42, 43, 44, 45, 46]
  [.is _, .is _, .is _, .is _, .is _, .is _, .is _, .so (fun v W => v = .int .i64 1 ∧ W.heap[w.heap.size]? = some (.cells (#[.int .i64 (-1), .int .i64 (-1), .int .i64 0, .int .i64 0] : Array Value) 3 (0, 0))), .is _]
  [(7, _), (8, _)]
 ·kernel_rfl
 ·decide
 ·exact TurnsTo.drew _
 ·exact fun A B C h k => h.trans k
 ·exact ⟨fun v A B h k => ⟨h.1, k.kept h.2⟩, trivial⟩
 ·decide
 ·rfl
 ·kernel_rfl
 ·decide +kernel
 iterate 6 (· kernel_rfl)
 ·rfl
 ·refine ⟨?_, ?_, trivial⟩ <;> (simp; rfl)
 ·repeat
   refine ⟨?_, ?_⟩
   ·intro F W hF hd hR
    simp [fixedAt] at hF
    obtain ⟨t7, t8⟩ := hF
    simp [Region.binds, Ent.holds] at hd
    refine ⟨fun _ K hK => ?_, by intro g b h hn; first | (cases h; done) | (cases h; exact absurd (by simp [hd]) hn)⟩
    simp only [Ent.holds, List.getD_cons_zero, List.getD_cons_succ] at hK
    first
     | (go_simp; exact hK _ _ rfl (TurnsTo.refl _))
     | (refine repCopy rfl rfl rfl w.heap.size 1 4 [.int .i64 (-1), .int .i64 0, .int .i64 0, .int .i64 0] [.int .i64 (-1), .int .i64 (-1), .int .i64 0, .int .i64 0] [.int .i64 (-1)] hd.1 hd.2 (hR.2.imp (fun h => h.trans HBO.out) id) (by decide) (by decide) rfl rfl (by intro j v hv; rcases j with _ | _ | _ | _ | j <;> simp at hv ⊢ <;> exact hv) (by intro j v hv; rcases j with _ | _ | _ | _ | j <;> simp at hv ⊢ <;> exact hv) (by decide) ?_
        intro W' h1 h2
        exact hK _ _ ⟨rfl, h1⟩ ⟨fun hx => Ext.step hx h2 (Nat.le_refl _), .inr h1⟩)
  exact trivial
 intro X w1x hx hR
 simp only [toldX] at hx
 simp only [fillX, List.setIfInBounds_toArray, List.set_cons_succ, List.set_cons_zero]
 obtain ⟨⟨hx7, hx8⟩, _⟩ := hx
 rw [hx7]
 replace HB := hide hx8
 replace HX := hide (hR.1 HX.out)
 clear hx7 hx8 hR
 go_wp2_with fail
 rw [rounds_succ]
 go_wp2_with fail
 have HBO := hide HB.out
 apply wp_region_r (TurnsTo w.heap.size (.cells (#[.int .i64 (-1), .int .i64 (-1), .int .i64 (-1), .int .i64 (-1)] : Array Value) 3 (0, 0)) w) 9 [38, 39, 40, 41, 42, 43, 44, 45, 46]
  [.is _, .is _, .is _, .is _, .is _, .is _, .is _, .so (fun v W => v = .int .i64 2 ∧ W.heap[w.heap.size]? = some (.cells (#[.int .i64 (-1), .int .i64 (-1), .int .i64 (-1), .int .i64 (-1)] : Array Value) 3 (0, 0))), .is _]
  [(7, _), (8, _)]
 ·kernel_rfl
 ·decide
 ·exact TurnsTo.drew _
 ·exact fun A B C h k => h.trans k
 ·exact ⟨fun v A B h k => ⟨h.1, k.kept h.2⟩, trivial⟩
 ·decide
 ·rfl
 ·kernel_rfl
 ·decide +kernel
 iterate 6 (· kernel_rfl)
 ·rfl
 ·refine ⟨?_, ?_, trivial⟩ <;> (simp; rfl)
 ·repeat
   refine ⟨?_, ?_⟩
   ·intro F W hF hd hR
    simp [fixedAt] at hF
    obtain ⟨t7, t8⟩ := hF
    simp [Region.binds, Ent.holds] at hd
    refine ⟨fun _ K hK => ?_, by intro g b h hn; first | (cases h; done) | (cases h; exact absurd (by simp [hd]) hn)⟩
    simp only [Ent.holds, List.getD_cons_zero, List.getD_cons_succ] at hK
    first
     | (go_simp; exact hK _ _ rfl (TurnsTo.refl _))
     | (refine repCopy rfl rfl rfl w.heap.size 2 4 [.int .i64 (-1), .int .i64 (-1), .int .i64 0, .int .i64 0] [.int .i64 (-1), .int .i64 (-1), .int .i64 (-1), .int .i64 (-1)] [.int .i64 (-1), .int .i64 (-1)] hd.1 hd.2 (hR.2.imp (fun h => h.trans HBO.out) id) (by decide) (by decide) rfl rfl (by intro j v hv; rcases j with _ | _ | _ | _ | j <;> simp at hv ⊢ <;> exact hv) (by intro j v hv; rcases j with _ | _ | _ | _ | j <;> simp at hv ⊢ <;> exact hv) (by decide) ?_
        intro W' h1 h2
        exact hK _ _ ⟨rfl, h1⟩ ⟨fun hx => Ext.step hx h2 (Nat.le_refl _), .inr h1⟩)
  exact trivial
 intro X w1xx hx hR
 simp only [toldX] at hx
 simp only [fillX, List.setIfInBounds_toArray, List.set_cons_succ, List.set_cons_zero]
 obtain ⟨⟨hx7, hx8⟩, _⟩ := hx
 rw [hx7]
 replace HB := hide hx8
 replace HX := hide (hR.1 HX.out)
 clear hx7 hx8 hR
 go_wp2_with fail
 rw [rounds_succ]
 go_wp2_with fail
 go_ret
 exact ⟨_, _, rfl, repOk HB.out rfl, HX.out⟩
set_option maxRecDepth 100000 in
set_option maxHeartbeats 2000000 in
theorem repeat_5 (g : Nat) (w : World) (h : w.cell? ⟨g, 0, none⟩ = some (.int .i64 (-1))) :
 Calls Try.prog 63 #[.slice (some ⟨g, 0, none⟩) 1 1, .int .i64 5] w fun e w' => ∃ A c, e = .returned (.slice A 5 c) ∧ Own w' w.heap.size 3 1 (.slice A 5 c) 5 ((List.replicate 5 (-1)).map (Value.int .i64)) ∧ Ext w w' := by
 have hb := World.block_lt_of_cell? _ _ h
 have HC := hide h
 have HM := hide (fun V => mul_any 5 (by omega) V)
 have hmk : ∀ V : World, (Instr.makeSlice 36 (.int .i64 5) (.int .i64 5)).run Try.prog V = .ok (.slice (some ⟨V.heap.size, 0, none⟩) 5 5) (V.alloc (.cells (#[.int .i64 0, .int .i64 0, .int .i64 0, .int .i64 0, .int .i64 0] : Array Value) 3)) := fun _ => by kernel_rfl
 clear h
 go_enter Try.func63, Try.ntmps63
 go_wp2_with (first
  | (go_at_call 84; refine (HM.out _).mono ?_; rintro e w' ⟨rfl, rfl⟩)
  | ((refine wpList_copy_splice (o := ⟨some 33, _, _, _, _, _⟩) rfl (.tmp 31) (.tmp 32) 36 36 rfl 3 Try.underlying36 (by kernel_rfl) (some ⟨w.heap.size, 0, none⟩) (some ⟨g, 0, none⟩) 5 5 1 1 rfl rfl w.heap.size 0 [.int .i64 0, .int .i64 0, .int .i64 0, .int .i64 0, .int .i64 0] 3 (World.alloc_heap_new w _) [.int .i64 (-1)] rfl (fun _ => ⟨rfl, _, rfl, fun j v hv => by
       cases j with
       | zero => first | (simp at hv; done) | simp at hv; subst hv; exact (((Ext.refl _).alloc _).cell HC.out)
       | succ j => simp at hv⟩) (by decide) (by decide) w.heap.size w ((Ext.refl _).alloc _) (Nat.le_refl _) ?_)
     intro w1 hh1 hb1))
 have HB := hide (show w1.heap[w.heap.size]? = some (.cells (#[.int .i64 (-1), .int .i64 0, .int .i64 0, .int .i64 0, .int .i64 0] : Array Value) 3 (0, 0)) from hh1.out)
 have HX := hide (show Ext w w1 from hb1)
 clear hh1 hb1
 refine wp_loop_rounds 4 ?_
 rw [rounds_succ]
 go_wp2_with fail
 have HBO := hide HB.out
 apply wp_region_r (TurnsTo w.heap.size (.cells (#[.int .i64 (-1), .int .i64 (-1), .int .i64 0, .int .i64 0, .int .i64 0] : Array Value) 3 (0, 0)) w) 9 [38, 39, 40, 41, 42, 43, 44, 45, 46]
  [.is _, .is _, .is _, .is _, .is _, .is _, .is _, .so (fun v W => v = .int .i64 1 ∧ W.heap[w.heap.size]? = some (.cells (#[.int .i64 (-1), .int .i64 (-1), .int .i64 0, .int .i64 0, .int .i64 0] : Array Value) 3 (0, 0))), .is _]
  [(7, _), (8, _)]
 ·kernel_rfl
 ·decide
 ·exact TurnsTo.drew _
 ·exact fun A B C h k => h.trans k
 ·exact ⟨fun v A B h k => ⟨h.1, k.kept h.2⟩, trivial⟩
 ·decide
 ·rfl
 ·kernel_rfl
 ·decide +kernel
 iterate 6 (· kernel_rfl)
 ·rfl
 ·refine ⟨?_, ?_, trivial⟩ <;> (simp; rfl)
 ·repeat
   refine ⟨?_, ?_⟩
   ·intro F W hF hd hR
    simp [fixedAt] at hF
    obtain ⟨t7, t8⟩ := hF
    simp [Region.binds, Ent.holds] at hd
    refine ⟨fun _ K hK => ?_, by intro g b h hn; first | (cases h; done) | (cases h; exact absurd (by simp [hd]) hn)⟩
    simp only [Ent.holds, List.getD_cons_zero, List.getD_cons_succ] at hK
    first
     | (go_simp; exact hK _ _ rfl (TurnsTo.refl _))
     | (refine repCopy rfl rfl rfl w.heap.size 1 5 [.int .i64 (-1), .int .i64 0, .int .i64 0, .int .i64 0, .int .i64 0] [.int .i64 (-1), .int .i64 (-1), .int .i64 0, .int .i64 0, .int .i64 0] [.int .i64 (-1)] hd.1 hd.2 (hR.2.imp (fun h => h.trans HBO.out) id) (by decide) (by decide) rfl rfl (by intro j v hv; rcases j with _ | _ | _ | _ | j <;> simp at hv ⊢ <;> exact hv) (by intro j v hv; rcases j with _ | _ | _ | _ | j <;> simp at hv ⊢ <;> exact hv) (by decide) ?_
        intro W' h1 h2
        exact hK _ _ ⟨rfl, h1⟩ ⟨fun hx => Ext.step hx h2 (Nat.le_refl _), .inr h1⟩)
  exact trivial
 intro X w1x hx hR
 simp only [toldX] at hx
 simp only [fillX, List.setIfInBounds_toArray, List.set_cons_succ, List.set_cons_zero]
 obtain ⟨⟨hx7, hx8⟩, _⟩ := hx
 rw [hx7]
 replace HB := hide hx8
 replace HX := hide (hR.1 HX.out)
 clear hx7 hx8 hR
 go_wp2_with fail
 rw [rounds_succ]
 go_wp2_with fail
 have HBO := hide HB.out
 apply wp_region_r (TurnsTo w.heap.size (.cells (#[.int .i64 (-1), .int .i64 (-1), .int .i64 (-1), .int .i64 (-1), .int .i64 0] : Array Value) 3 (0, 0)) w) 9 [38, 39, 40, 41, 42, 43, 44, 45, 46]
  [.is _, .is _, .is _, .is _, .is _, .is _, .is _, .so (fun v W => v = .int .i64 2 ∧ W.heap[w.heap.size]? = some (.cells (#[.int .i64 (-1), .int .i64 (-1), .int .i64 (-1), .int .i64 (-1), .int .i64 0] : Array Value) 3 (0, 0))), .is _]
  [(7, _), (8, _)]
 ·kernel_rfl
 ·decide
 ·exact TurnsTo.drew _
 ·exact fun A B C h k => h.trans k
 ·exact ⟨fun v A B h k => ⟨h.1, k.kept h.2⟩, trivial⟩
 ·decide
 ·rfl
 ·kernel_rfl
 ·decide +kernel
 iterate 6 (· kernel_rfl)
 ·rfl
 ·refine ⟨?_, ?_, trivial⟩ <;> (simp; rfl)
 ·repeat
   refine ⟨?_, ?_⟩
   ·intro F W hF hd hR
    simp [fixedAt] at hF
    obtain ⟨t7, t8⟩ := hF
    simp [Region.binds, Ent.holds] at hd
    refine ⟨fun _ K hK => ?_, by intro g b h hn; first | (cases h; done) | (cases h; exact absurd (by simp [hd]) hn)⟩
    simp only [Ent.holds, List.getD_cons_zero, List.getD_cons_succ] at hK
    first
     | (go_simp; exact hK _ _ rfl (TurnsTo.refl _))
     | (refine repCopy rfl rfl rfl w.heap.size 2 5 [.int .i64 (-1), .int .i64 (-1), .int .i64 0, .int .i64 0, .int .i64 0] [.int .i64 (-1), .int .i64 (-1), .int .i64 (-1), .int .i64 (-1), .int .i64 0] [.int .i64 (-1), .int .i64 (-1)] hd.1 hd.2 (hR.2.imp (fun h => h.trans HBO.out) id) (by decide) (by decide) rfl rfl (by intro j v hv; rcases j with _ | _ | _ | _ | j <;> simp at hv ⊢ <;> exact hv) (by intro j v hv; rcases j with _ | _ | _ | _ | j <;> simp at hv ⊢ <;> exact hv) (by decide) ?_
        intro W' h1 h2
        exact hK _ _ ⟨rfl, h1⟩ ⟨fun hx => Ext.step hx h2 (Nat.le_refl _), .inr h1⟩)
  exact trivial
 intro X w1xx hx hR
 simp only [toldX] at hx
 simp only [fillX, List.setIfInBounds_toArray, List.set_cons_succ, List.set_cons_zero]
 obtain ⟨⟨hx7, hx8⟩, _⟩ := hx
 rw [hx7]
 replace HB := hide hx8
 replace HX := hide (hR.1 HX.out)
 clear hx7 hx8 hR
 go_wp2_with fail
 rw [rounds_succ]
 go_wp2_with fail
 have HBO := hide HB.out
 apply wp_region_r (TurnsTo w.heap.size (.cells (#[.int .i64 (-1), .int .i64 (-1), .int .i64 (-1), .int .i64 (-1), .int .i64 (-1)] : Array Value) 3 (0, 0)) w) 9 [38, 39, 40, 41, 42, 43, 44, 45, 46]
  [.is _, .is _, .is _, .is _, .is _, .is _, .is _, .so (fun v W => v = .int .i64 1 ∧ W.heap[w.heap.size]? = some (.cells (#[.int .i64 (-1), .int .i64 (-1), .int .i64 (-1), .int .i64 (-1), .int .i64 (-1)] : Array Value) 3 (0, 0))), .is _]
  [(7, _), (8, _)]
 ·kernel_rfl
 ·decide
 ·exact TurnsTo.drew _
 ·exact fun A B C h k => h.trans k
 ·exact ⟨fun v A B h k => ⟨h.1, k.kept h.2⟩, trivial⟩
 ·decide
 ·rfl
 ·kernel_rfl
 ·decide +kernel
 iterate 6 (· kernel_rfl)
 ·rfl
 ·refine ⟨?_, ?_, trivial⟩ <;> (simp; rfl)
 ·repeat
   refine ⟨?_, ?_⟩
   ·intro F W hF hd hR
    simp [fixedAt] at hF
    obtain ⟨t7, t8⟩ := hF
    simp [Region.binds, Ent.holds] at hd
    refine ⟨fun _ K hK => ?_, by intro g b h hn; first | (cases h; done) | (cases h; exact absurd (by simp [hd]) hn)⟩
    simp only [Ent.holds, List.getD_cons_zero, List.getD_cons_succ] at hK
    first
     | (go_simp; exact hK _ _ rfl (TurnsTo.refl _))
     | (refine repCopy rfl rfl rfl w.heap.size 4 5 [.int .i64 (-1), .int .i64 (-1), .int .i64 (-1), .int .i64 (-1), .int .i64 0] [.int .i64 (-1), .int .i64 (-1), .int .i64 (-1), .int .i64 (-1), .int .i64 (-1)] [.int .i64 (-1)] hd.1 hd.2 (hR.2.imp (fun h => h.trans HBO.out) id) (by decide) (by decide) rfl rfl (by intro j v hv; rcases j with _ | _ | _ | _ | j <;> simp at hv ⊢ <;> exact hv) (by intro j v hv; rcases j with _ | _ | _ | _ | j <;> simp at hv ⊢ <;> exact hv) (by decide) ?_
        intro W' h1 h2
        exact hK _ _ ⟨rfl, h1⟩ ⟨fun hx => Ext.step hx h2 (Nat.le_refl _), .inr h1⟩)
  exact trivial
 intro X w1xxx hx hR
 simp only [toldX] at hx
 simp only [fillX, List.setIfInBounds_toArray, List.set_cons_succ, List.set_cons_zero]
 obtain ⟨⟨hx7, hx8⟩, _⟩ := hx
 rw [hx7]
 replace HB := hide hx8
 replace HX := hide (hR.1 HX.out)
 clear hx7 hx8 hR
 go_wp2_with fail
 rw [rounds_succ]
 go_wp2_with fail
 go_ret
 exact ⟨_, _, rfl, repOk HB.out rfl, HX.out⟩
set_option maxRecDepth 100000 in
set_option maxHeartbeats 2000000 in
theorem repeat_6 (g : Nat) (w : World) (h : w.cell? ⟨g, 0, none⟩ = some (.int .i64 (-1))) :
 Calls Try.prog 63 #[.slice (some ⟨g, 0, none⟩) 1 1, .int .i64 6] w fun e w' => ∃ A c, e = .returned (.slice A 6 c) ∧ Own w' w.heap.size 3 1 (.slice A 6 c) 6 ((List.replicate 6 (-1)).map (Value.int .i64)) ∧ Ext w w' := by
 have hb := World.block_lt_of_cell? _ _ h
 have HC := hide h
 have HM := hide (fun V => mul_any 6 (by omega) V)
 have hmk : ∀ V : World, (Instr.makeSlice 36 (.int .i64 6) (.int .i64 6)).run Try.prog V = .ok (.slice (some ⟨V.heap.size, 0, none⟩) 6 6) (V.alloc (.cells (#[.int .i64 0, .int .i64 0, .int .i64 0, .int .i64 0, .int .i64 0, .int .i64 0] : Array Value) 3)) := fun _ => by kernel_rfl
 clear h
 go_enter Try.func63, Try.ntmps63
 go_wp2_with (first
  | (go_at_call 84; refine (HM.out _).mono ?_; rintro e w' ⟨rfl, rfl⟩)
  | ((refine wpList_copy_splice (o := ⟨some 33, _, _, _, _, _⟩) rfl (.tmp 31) (.tmp 32) 36 36 rfl 3 Try.underlying36 (by kernel_rfl) (some ⟨w.heap.size, 0, none⟩) (some ⟨g, 0, none⟩) 6 6 1 1 rfl rfl w.heap.size 0 [.int .i64 0, .int .i64 0, .int .i64 0, .int .i64 0, .int .i64 0, .int .i64 0] 3 (World.alloc_heap_new w _) [.int .i64 (-1)] rfl (fun _ => ⟨rfl, _, rfl, fun j v hv => by
       cases j with
       | zero => first | (simp at hv; done) | simp at hv; subst hv; exact (((Ext.refl _).alloc _).cell HC.out)
       | succ j => simp at hv⟩) (by decide) (by decide) w.heap.size w ((Ext.refl _).alloc _) (Nat.le_refl _) ?_)
     intro w1 hh1 hb1))
 have HB := hide (show w1.heap[w.heap.size]? = some (.cells (#[.int .i64 (-1), .int .i64 0, .int .i64 0, .int .i64 0, .int .i64 0, .int .i64 0] : Array Value) 3 (0, 0)) from hh1.out)
 have HX := hide (show Ext w w1 from hb1)
 clear hh1 hb1
 refine wp_loop_rounds 4 ?_
 rw [rounds_succ]
 go_wp2_with fail
 have HBO := hide HB.out
 apply wp_region_r (TurnsTo w.heap.size (.cells (#[.int .i64 (-1), .int .i64 (-1), .int .i64 0, .int .i64 0, .int .i64 0, .int .i64 0] : Array Value) 3 (0, 0)) w) 9 [38, 39, 40, 41, 42, 43, 44, 45, 46]
  [.is _, .is _, .is _, .is _, .is _, .is _, .is _, .so (fun v W => v = .int .i64 1 ∧ W.heap[w.heap.size]? = some (.cells (#[.int .i64 (-1), .int .i64 (-1), .int .i64 0, .int .i64 0, .int .i64 0, .int .i64 0] : Array Value) 3 (0, 0))), .is _]
  [(7, _), (8, _)]
 ·kernel_rfl
 ·decide
 ·exact TurnsTo.drew _
 ·exact fun A B C h k => h.trans k
 ·exact ⟨fun v A B h k => ⟨h.1, k.kept h.2⟩, trivial⟩
 ·decide
 ·rfl
 ·kernel_rfl
 ·decide +kernel
 iterate 6 (· kernel_rfl)
 ·rfl
 ·refine ⟨?_, ?_, trivial⟩ <;> (simp; rfl)
 ·repeat
   refine ⟨?_, ?_⟩
   ·intro F W hF hd hR
    simp [fixedAt] at hF
    obtain ⟨t7, t8⟩ := hF
    simp [Region.binds, Ent.holds] at hd
    refine ⟨fun _ K hK => ?_, by intro g b h hn; first | (cases h; done) | (cases h; exact absurd (by simp [hd]) hn)⟩
    simp only [Ent.holds, List.getD_cons_zero, List.getD_cons_succ] at hK
    first
     | (go_simp; exact hK _ _ rfl (TurnsTo.refl _))
     | (refine repCopy rfl rfl rfl w.heap.size 1 6 [.int .i64 (-1), .int .i64 0, .int .i64 0, .int .i64 0, .int .i64 0, .int .i64 0] [.int .i64 (-1), .int .i64 (-1), .int .i64 0, .int .i64 0, .int .i64 0, .int .i64 0] [.int .i64 (-1)] hd.1 hd.2 (hR.2.imp (fun h => h.trans HBO.out) id) (by decide) (by decide) rfl rfl (by intro j v hv; rcases j with _ | _ | _ | _ | j <;> simp at hv ⊢ <;> exact hv) (by intro j v hv; rcases j with _ | _ | _ | _ | j <;> simp at hv ⊢ <;> exact hv) (by decide) ?_
        intro W' h1 h2
        exact hK _ _ ⟨rfl, h1⟩ ⟨fun hx => Ext.step hx h2 (Nat.le_refl _), .inr h1⟩)
  exact trivial
 intro X w1x hx hR
 simp only [toldX] at hx
 simp only [fillX, List.setIfInBounds_toArray, List.set_cons_succ, List.set_cons_zero]
 obtain ⟨⟨hx7, hx8⟩, _⟩ := hx
 rw [hx7]
 replace HB := hide hx8
 replace HX := hide (hR.1 HX.out)
 clear hx7 hx8 hR
 go_wp2_with fail
 rw [rounds_succ]
 go_wp2_with fail
 have HBO := hide HB.out
 apply wp_region_r (TurnsTo w.heap.size (.cells (#[.int .i64 (-1), .int .i64 (-1), .int .i64 (-1), .int .i64 (-1), .int .i64 0, .int .i64 0] : Array Value) 3 (0, 0)) w) 9 [38, 39, 40, 41, 42, 43, 44, 45, 46]
  [.is _, .is _, .is _, .is _, .is _, .is _, .is _, .so (fun v W => v = .int .i64 2 ∧ W.heap[w.heap.size]? = some (.cells (#[.int .i64 (-1), .int .i64 (-1), .int .i64 (-1), .int .i64 (-1), .int .i64 0, .int .i64 0] : Array Value) 3 (0, 0))), .is _]
  [(7, _), (8, _)]
 ·kernel_rfl
 ·decide
 ·exact TurnsTo.drew _
 ·exact fun A B C h k => h.trans k
 ·exact ⟨fun v A B h k => ⟨h.1, k.kept h.2⟩, trivial⟩
 ·decide
 ·rfl
 ·kernel_rfl
 ·decide +kernel
 iterate 6 (· kernel_rfl)
 ·rfl
 ·refine ⟨?_, ?_, trivial⟩ <;> (simp; rfl)
 ·repeat
   refine ⟨?_, ?_⟩
   ·intro F W hF hd hR
    simp [fixedAt] at hF
    obtain ⟨t7, t8⟩ := hF
    simp [Region.binds, Ent.holds] at hd
    refine ⟨fun _ K hK => ?_, by intro g b h hn; first | (cases h; done) | (cases h; exact absurd (by simp [hd]) hn)⟩
    simp only [Ent.holds, List.getD_cons_zero, List.getD_cons_succ] at hK
    first
     | (go_simp; exact hK _ _ rfl (TurnsTo.refl _))
     | (refine repCopy rfl rfl rfl w.heap.size 2 6 [.int .i64 (-1), .int .i64 (-1), .int .i64 0, .int .i64 0, .int .i64 0, .int .i64 0] [.int .i64 (-1), .int .i64 (-1), .int .i64 (-1), .int .i64 (-1), .int .i64 0, .int .i64 0] [.int .i64 (-1), .int .i64 (-1)] hd.1 hd.2 (hR.2.imp (fun h => h.trans HBO.out) id) (by decide) (by decide) rfl rfl (by intro j v hv; rcases j with _ | _ | _ | _ | j <;> simp at hv ⊢ <;> exact hv) (by intro j v hv; rcases j with _ | _ | _ | _ | j <;> simp at hv ⊢ <;> exact hv) (by decide) ?_
        intro W' h1 h2
        exact hK _ _ ⟨rfl, h1⟩ ⟨fun hx => Ext.step hx h2 (Nat.le_refl _), .inr h1⟩)
  exact trivial
 intro X w1xx hx hR
 simp only [toldX] at hx
 simp only [fillX, List.setIfInBounds_toArray, List.set_cons_succ, List.set_cons_zero]
 obtain ⟨⟨hx7, hx8⟩, _⟩ := hx
 rw [hx7]
 replace HB := hide hx8
 replace HX := hide (hR.1 HX.out)
 clear hx7 hx8 hR
 go_wp2_with fail
 rw [rounds_succ]
 go_wp2_with fail
 have HBO := hide HB.out
 apply wp_region_r (TurnsTo w.heap.size (.cells (#[.int .i64 (-1), .int .i64 (-1), .int .i64 (-1), .int .i64 (-1), .int .i64 (-1), .int .i64 (-1)] : Array Value) 3 (0, 0)) w) 9 [38, 39, 40, 41, 42, 43, 44, 45, 46]
  [.is _, .is _, .is _, .is _, .is _, .is _, .is _, .so (fun v W => v = .int .i64 2 ∧ W.heap[w.heap.size]? = some (.cells (#[.int .i64 (-1), .int .i64 (-1), .int .i64 (-1), .int .i64 (-1), .int .i64 (-1), .int .i64 (-1)] : Array Value) 3 (0, 0))), .is _]
  [(7, _), (8, _)]
 ·kernel_rfl
 ·decide
 ·exact TurnsTo.drew _
 ·exact fun A B C h k => h.trans k
 ·exact ⟨fun v A B h k => ⟨h.1, k.kept h.2⟩, trivial⟩
 ·decide
 ·rfl
 ·kernel_rfl
 ·decide +kernel
 iterate 6 (· kernel_rfl)
 ·rfl
 ·refine ⟨?_, ?_, trivial⟩ <;> (simp; rfl)
 ·repeat
   refine ⟨?_, ?_⟩
   ·intro F W hF hd hR
    simp [fixedAt] at hF
    obtain ⟨t7, t8⟩ := hF
    simp [Region.binds, Ent.holds] at hd
    refine ⟨fun _ K hK => ?_, by intro g b h hn; first | (cases h; done) | (cases h; exact absurd (by simp [hd]) hn)⟩
    simp only [Ent.holds, List.getD_cons_zero, List.getD_cons_succ] at hK
    first
     | (go_simp; exact hK _ _ rfl (TurnsTo.refl _))
     | (refine repCopy rfl rfl rfl w.heap.size 4 6 [.int .i64 (-1), .int .i64 (-1), .int .i64 (-1), .int .i64 (-1), .int .i64 0, .int .i64 0] [.int .i64 (-1), .int .i64 (-1), .int .i64 (-1), .int .i64 (-1), .int .i64 (-1), .int .i64 (-1)] [.int .i64 (-1), .int .i64 (-1)] hd.1 hd.2 (hR.2.imp (fun h => h.trans HBO.out) id) (by decide) (by decide) rfl rfl (by intro j v hv; rcases j with _ | _ | _ | _ | j <;> simp at hv ⊢ <;> exact hv) (by intro j v hv; rcases j with _ | _ | _ | _ | j <;> simp at hv ⊢ <;> exact hv) (by decide) ?_
        intro W' h1 h2
        exact hK _ _ ⟨rfl, h1⟩ ⟨fun hx => Ext.step hx h2 (Nat.le_refl _), .inr h1⟩)
  exact trivial
 intro X w1xxx hx hR
 simp only [toldX] at hx
 simp only [fillX, List.setIfInBounds_toArray, List.set_cons_succ, List.set_cons_zero]
 obtain ⟨⟨hx7, hx8⟩, _⟩ := hx
 rw [hx7]
 replace HB := hide hx8
 replace HX := hide (hR.1 HX.out)
 clear hx7 hx8 hR
 go_wp2_with fail
 rw [rounds_succ]
 go_wp2_with fail
 go_ret
 exact ⟨_, _, rfl, repOk HB.out rfl, HX.out⟩
set_option maxRecDepth 100000 in
set_option maxHeartbeats 2000000 in
theorem repeat_7 (g : Nat) (w : World) (h : w.cell? ⟨g, 0, none⟩ = some (.int .i64 (-1))) :
 Calls Try.prog 63 #[.slice (some ⟨g, 0, none⟩) 1 1, .int .i64 7] w fun e w' => ∃ A c, e = .returned (.slice A 7 c) ∧ Own w' w.heap.size 3 1 (.slice A 7 c) 7 ((List.replicate 7 (-1)).map (Value.int .i64)) ∧ Ext w w' := by
 have hb := World.block_lt_of_cell? _ _ h
 have HC := hide h
 have HM := hide (fun V => mul_any 7 (by omega) V)
 have hmk : ∀ V : World, (Instr.makeSlice 36 (.int .i64 7) (.int .i64 7)).run Try.prog V = .ok (.slice (some ⟨V.heap.size, 0, none⟩) 7 7) (V.alloc (.cells (#[.int .i64 0, .int .i64 0, .int .i64 0, .int .i64 0, .int .i64 0, .int .i64 0, .int .i64 0] : Array Value) 3)) := fun _ => by kernel_rfl
 clear h
 go_enter Try.func63, Try.ntmps63
 go_wp2_with (first
  | (go_at_call 84; refine (HM.out _).mono ?_; rintro e w' ⟨rfl, rfl⟩)
  | ((refine wpList_copy_splice (o := ⟨some 33, _, _, _, _, _⟩) rfl (.tmp 31) (.tmp 32) 36 36 rfl 3 Try.underlying36 (by kernel_rfl) (some ⟨w.heap.size, 0, none⟩) (some ⟨g, 0, none⟩) 7 7 1 1 rfl rfl w.heap.size 0 [.int .i64 0, .int .i64 0, .int .i64 0, .int .i64 0, .int .i64 0, .int .i64 0, .int .i64 0] 3 (World.alloc_heap_new w _) [.int .i64 (-1)] rfl (fun _ => ⟨rfl, _, rfl, fun j v hv => by
       cases j with
       | zero => first | (simp at hv; done) | simp at hv; subst hv; exact (((Ext.refl _).alloc _).cell HC.out)
       | succ j => simp at hv⟩) (by decide) (by decide) w.heap.size w ((Ext.refl _).alloc _) (Nat.le_refl _) ?_)
     intro w1 hh1 hb1))
 have HB := hide (show w1.heap[w.heap.size]? = some (.cells (#[.int .i64 (-1), .int .i64 0, .int .i64 0, .int .i64 0, .int .i64 0, .int .i64 0, .int .i64 0] : Array Value) 3 (0, 0)) from hh1.out)
 have HX := hide (show Ext w w1 from hb1)
 clear hh1 hb1
 refine wp_loop_rounds 4 ?_
 rw [rounds_succ]
 go_wp2_with fail
 have HBO := hide HB.out
 apply wp_region_r (TurnsTo w.heap.size (.cells (#[.int .i64 (-1), .int .i64 (-1), .int .i64 0, .int .i64 0, .int .i64 0, .int .i64 0, .int .i64 0] : Array Value) 3 (0, 0)) w) 9 [38, 39, 40, 41, 42, 43, 44, 45, 46]
  [.is _, .is _, .is _, .is _, .is _, .is _, .is _, .so (fun v W => v = .int .i64 1 ∧ W.heap[w.heap.size]? = some (.cells (#[.int .i64 (-1), .int .i64 (-1), .int .i64 0, .int .i64 0, .int .i64 0, .int .i64 0, .int .i64 0] : Array Value) 3 (0, 0))), .is _]
  [(7, _), (8, _)]
 ·kernel_rfl
 ·decide
 ·exact TurnsTo.drew _
 ·exact fun A B C h k => h.trans k
 ·exact ⟨fun v A B h k => ⟨h.1, k.kept h.2⟩, trivial⟩
 ·decide
 ·rfl
 ·kernel_rfl
 ·decide +kernel
 iterate 6 (· kernel_rfl)
 ·rfl
 ·refine ⟨?_, ?_, trivial⟩ <;> (simp; rfl)
 ·repeat
   refine ⟨?_, ?_⟩
   ·intro F W hF hd hR
    simp [fixedAt] at hF
    obtain ⟨t7, t8⟩ := hF
    simp [Region.binds, Ent.holds] at hd
    refine ⟨fun _ K hK => ?_, by intro g b h hn; first | (cases h; done) | (cases h; exact absurd (by simp [hd]) hn)⟩
    simp only [Ent.holds, List.getD_cons_zero, List.getD_cons_succ] at hK
    first
     | (go_simp; exact hK _ _ rfl (TurnsTo.refl _))
     | (refine repCopy rfl rfl rfl w.heap.size 1 7 [.int .i64 (-1), .int .i64 0, .int .i64 0, .int .i64 0, .int .i64 0, .int .i64 0, .int .i64 0] [.int .i64 (-1), .int .i64 (-1), .int .i64 0, .int .i64 0, .int .i64 0, .int .i64 0, .int .i64 0] [.int .i64 (-1)] hd.1 hd.2 (hR.2.imp (fun h => h.trans HBO.out) id) (by decide) (by decide) rfl rfl (by intro j v hv; rcases j with _ | _ | _ | _ | j <;> simp at hv ⊢ <;> exact hv) (by intro j v hv; rcases j with _ | _ | _ | _ | j <;> simp at hv ⊢ <;> exact hv) (by decide) ?_
        intro W' h1 h2
        exact hK _ _ ⟨rfl, h1⟩ ⟨fun hx => Ext.step hx h2 (Nat.le_refl _), .inr h1⟩)
  exact trivial
 intro X w1x hx hR
 simp only [toldX] at hx
 simp only [fillX, List.setIfInBounds_toArray, List.set_cons_succ, List.set_cons_zero]
 obtain ⟨⟨hx7, hx8⟩, _⟩ := hx
 rw [hx7]
 replace HB := hide hx8
 replace HX := hide (hR.1 HX.out)
 clear hx7 hx8 hR
 go_wp2_with fail
 rw [rounds_succ]
 go_wp2_with fail
 have HBO := hide HB.out
 apply wp_region_r (TurnsTo w.heap.size (.cells (#[.int .i64 (-1), .int .i64 (-1), .int .i64 (-1), .int .i64 (-1), .int .i64 0, .int .i64 0, .int .i64 0] : Array Value) 3 (0, 0)) w) 9 [38, 39, 40, 41, 42, 43, 44, 45, 46]
  [.is _, .is _, .is _, .is _, .is _, .is _, .is _, .so (fun v W => v = .int .i64 2 ∧ W.heap[w.heap.size]? = some (.cells (#[.int .i64 (-1), .int .i64 (-1), .int .i64 (-1), .int .i64 (-1), .int .i64 0, .int .i64 0, .int .i64 0] : Array Value) 3 (0, 0))), .is _]
  [(7, _), (8, _)]
 ·kernel_rfl
 ·decide
 ·exact TurnsTo.drew _
 ·exact fun A B C h k => h.trans k
 ·exact ⟨fun v A B h k => ⟨h.1, k.kept h.2⟩, trivial⟩
 ·decide
 ·rfl
 ·kernel_rfl
 ·decide +kernel
 iterate 6 (· kernel_rfl)
 ·rfl
 ·refine ⟨?_, ?_, trivial⟩ <;> (simp; rfl)
 ·repeat
   refine ⟨?_, ?_⟩
   ·intro F W hF hd hR
    simp [fixedAt] at hF
    obtain ⟨t7, t8⟩ := hF
    simp [Region.binds, Ent.holds] at hd
    refine ⟨fun _ K hK => ?_, by intro g b h hn; first | (cases h; done) | (cases h; exact absurd (by simp [hd]) hn)⟩
    simp only [Ent.holds, List.getD_cons_zero, List.getD_cons_succ] at hK
    first
     | (go_simp; exact hK _ _ rfl (TurnsTo.refl _))
     | (refine repCopy rfl rfl rfl w.heap.size 2 7 [.int .i64 (-1), .int .i64 (-1), .int .i64 0, .int .i64 0, .int .i64 0, .int .i64 0, .int .i64 0] [.int .i64 (-1), .int .i64 (-1), .int .i64 (-1), .int .i64 (-1), .int .i64 0, .int .i64 0, .int .i64 0] [.int .i64 (-1), .int .i64 (-1)] hd.1 hd.2 (hR.2.imp (fun h => h.trans HBO.out) id) (by decide) (by decide) rfl rfl (by intro j v hv; rcases j with _ | _ | _ | _ | j <;> simp at hv ⊢ <;> exact hv) (by intro j v hv; rcases j with _ | _ | _ | _ | j <;> simp at hv ⊢ <;> exact hv) (by decide) ?_
        intro W' h1 h2
        exact hK _ _ ⟨rfl, h1⟩ ⟨fun hx => Ext.step hx h2 (Nat.le_refl _), .inr h1⟩)
  exact trivial
 intro X w1xx hx hR
 simp only [toldX] at hx
 simp only [fillX, List.setIfInBounds_toArray, List.set_cons_succ, List.set_cons_zero]
 obtain ⟨⟨hx7, hx8⟩, _⟩ := hx
 rw [hx7]
 replace HB := hide hx8
 replace HX := hide (hR.1 HX.out)
 clear hx7 hx8 hR
 go_wp2_with fail
 rw [rounds_succ]
 go_wp2_with fail
 have HBO := hide HB.out
 apply wp_region_r (TurnsTo w.heap.size (.cells (#[.int .i64 (-1), .int .i64 (-1), .int .i64 (-1), .int .i64 (-1), .int .i64 (-1), .int .i64 (-1), .int .i64 (-1)] : Array Value) 3 (0, 0)) w) 9 [38, 39, 40, 41, 42, 43, 44, 45, 46]
  [.is _, .is _, .is _, .is _, .is _, .is _, .is _, .so (fun v W => v = .int .i64 3 ∧ W.heap[w.heap.size]? = some (.cells (#[.int .i64 (-1), .int .i64 (-1), .int .i64 (-1), .int .i64 (-1), .int .i64 (-1), .int .i64 (-1), .int .i64 (-1)] : Array Value) 3 (0, 0))), .is _]
  [(7, _), (8, _)]
 ·kernel_rfl
 ·decide
 ·exact TurnsTo.drew _
 ·exact fun A B C h k => h.trans k
 ·exact ⟨fun v A B h k => ⟨h.1, k.kept h.2⟩, trivial⟩
 ·decide
 ·rfl
 ·kernel_rfl
 ·decide +kernel
 iterate 6 (· kernel_rfl)
 ·rfl
 ·refine ⟨?_, ?_, trivial⟩ <;> (simp; rfl)
 ·repeat
   refine ⟨?_, ?_⟩
   ·intro F W hF hd hR
    simp [fixedAt] at hF
    obtain ⟨t7, t8⟩ := hF
    simp [Region.binds, Ent.holds] at hd
    refine ⟨fun _ K hK => ?_, by intro g b h hn; first | (cases h; done) | (cases h; exact absurd (by simp [hd]) hn)⟩
    simp only [Ent.holds, List.getD_cons_zero, List.getD_cons_succ] at hK
    first
     | (go_simp; exact hK _ _ rfl (TurnsTo.refl _))
     | (refine repCopy rfl rfl rfl w.heap.size 4 7 [.int .i64 (-1), .int .i64 (-1), .int .i64 (-1), .int .i64 (-1), .int .i64 0, .int .i64 0, .int .i64 0] [.int .i64 (-1), .int .i64 (-1), .int .i64 (-1), .int .i64 (-1), .int .i64 (-1), .int .i64 (-1), .int .i64 (-1)] [.int .i64 (-1), .int .i64 (-1), .int .i64 (-1)] hd.1 hd.2 (hR.2.imp (fun h => h.trans HBO.out) id) (by decide) (by decide) rfl rfl (by intro j v hv; rcases j with _ | _ | _ | _ | j <;> simp at hv ⊢ <;> exact hv) (by intro j v hv; rcases j with _ | _ | _ | _ | j <;> simp at hv ⊢ <;> exact hv) (by decide) ?_
        intro W' h1 h2
        exact hK _ _ ⟨rfl, h1⟩ ⟨fun hx => Ext.step hx h2 (Nat.le_refl _), .inr h1⟩)
  exact trivial
 intro X w1xxx hx hR
 simp only [toldX] at hx
 simp only [fillX, List.setIfInBounds_toArray, List.set_cons_succ, List.set_cons_zero]
 obtain ⟨⟨hx7, hx8⟩, _⟩ := hx
 rw [hx7]
 replace HB := hide hx8
 replace HX := hide (hR.1 HX.out)
 clear hx7 hx8 hR
 go_wp2_with fail
 rw [rounds_succ]
 go_wp2_with fail
 go_ret
 exact ⟨_, _, rfl, repOk HB.out rfl, HX.out⟩
set_option maxRecDepth 100000 in
set_option maxHeartbeats 2000000 in
theorem repeat_8 (g : Nat) (w : World) (h : w.cell? ⟨g, 0, none⟩ = some (.int .i64 (-1))) :
 Calls Try.prog 63 #[.slice (some ⟨g, 0, none⟩) 1 1, .int .i64 8] w fun e w' => ∃ A c, e = .returned (.slice A 8 c) ∧ Own w' w.heap.size 3 1 (.slice A 8 c) 8 ((List.replicate 8 (-1)).map (Value.int .i64)) ∧ Ext w w' := by
 have hb := World.block_lt_of_cell? _ _ h
 have HC := hide h
 have HM := hide (fun V => mul_any 8 (by omega) V)
 have hmk : ∀ V : World, (Instr.makeSlice 36 (.int .i64 8) (.int .i64 8)).run Try.prog V = .ok (.slice (some ⟨V.heap.size, 0, none⟩) 8 8) (V.alloc (.cells (#[.int .i64 0, .int .i64 0, .int .i64 0, .int .i64 0, .int .i64 0, .int .i64 0, .int .i64 0, .int .i64 0] : Array Value) 3)) := fun _ => by kernel_rfl
 clear h
 go_enter Try.func63, Try.ntmps63
 go_wp2_with (first
  | (go_at_call 84; refine (HM.out _).mono ?_; rintro e w' ⟨rfl, rfl⟩)
  | ((refine wpList_copy_splice (o := ⟨some 33, _, _, _, _, _⟩) rfl (.tmp 31) (.tmp 32) 36 36 rfl 3 Try.underlying36 (by kernel_rfl) (some ⟨w.heap.size, 0, none⟩) (some ⟨g, 0, none⟩) 8 8 1 1 rfl rfl w.heap.size 0 [.int .i64 0, .int .i64 0, .int .i64 0, .int .i64 0, .int .i64 0, .int .i64 0, .int .i64 0, .int .i64 0] 3 (World.alloc_heap_new w _) [.int .i64 (-1)] rfl (fun _ => ⟨rfl, _, rfl, fun j v hv => by
       cases j with
       | zero => first | (simp at hv; done) | simp at hv; subst hv; exact (((Ext.refl _).alloc _).cell HC.out)
       | succ j => simp at hv⟩) (by decide) (by decide) w.heap.size w ((Ext.refl _).alloc _) (Nat.le_refl _) ?_)
     intro w1 hh1 hb1))
 have HB := hide (show w1.heap[w.heap.size]? = some (.cells (#[.int .i64 (-1), .int .i64 0, .int .i64 0, .int .i64 0, .int .i64 0, .int .i64 0, .int .i64 0, .int .i64 0] : Array Value) 3 (0, 0)) from hh1.out)
 have HX := hide (show Ext w w1 from hb1)
 clear hh1 hb1
 refine wp_loop_rounds 4 ?_
 rw [rounds_succ]
 go_wp2_with fail
 have HBO := hide HB.out
 apply wp_region_r (TurnsTo w.heap.size (.cells (#[.int .i64 (-1), .int .i64 (-1), .int .i64 0, .int .i64 0, .int .i64 0, .int .i64 0, .int .i64 0, .int .i64 0] : Array Value) 3 (0, 0)) w) 9 [38, 39, 40, 41, 42, 43, 44, 45, 46]
  [.is _, .is _, .is _, .is _, .is _, .is _, .is _, .so (fun v W => v = .int .i64 1 ∧ W.heap[w.heap.size]? = some (.cells (#[.int .i64 (-1), .int .i64 (-1), .int .i64 0, .int .i64 0, .int .i64 0, .int .i64 0, .int .i64 0, .int .i64 0] : Array Value) 3 (0, 0))), .is _]
  [(7, _), (8, _)]
 ·kernel_rfl
 ·decide
 ·exact TurnsTo.drew _
 ·exact fun A B C h k => h.trans k
 ·exact ⟨fun v A B h k => ⟨h.1, k.kept h.2⟩, trivial⟩
 ·decide
 ·rfl
 ·kernel_rfl
 ·decide +kernel
 iterate 6 (· kernel_rfl)
 ·rfl
 ·refine ⟨?_, ?_, trivial⟩ <;> (simp; rfl)
 ·repeat
   refine ⟨?_, ?_⟩
   ·intro F W hF hd hR
    simp [fixedAt] at hF
    obtain ⟨t7, t8⟩ := hF
    simp [Region.binds, Ent.holds] at hd
    refine ⟨fun _ K hK => ?_, by intro g b h hn; first | (cases h; done) | (cases h; exact absurd (by simp [hd]) hn)⟩
    simp only [Ent.holds, List.getD_cons_zero, List.getD_cons_succ] at hK
    first
     | (go_simp; exact hK _ _ rfl (TurnsTo.refl _))
     | (refine repCopy rfl rfl rfl w.heap.size 1 8 [.int .i64 (-1), .int .i64 0, .int .i64 0, .int .i64 0, .int .i64 0, .int .i64 0, .int .i64 0, .int .i64 0] [.int .i64 (-1), .int .i64 (-1), .int .i64 0, .int .i64 0, .int .i64 0, .int .i64 0, .int .i64 0, .int .i64 0] [.int .i64 (-1)] hd.1 hd.2 (hR.2.imp (fun h => h.trans HBO.out) id) (by decide) (by decide) rfl rfl (by intro j v hv; rcases j with _ | _ | _ | _ | j <;> simp at hv ⊢ <;> exact hv) (by intro j v hv; rcases j with _ | _ | _ | _ | j <;> simp at hv ⊢ <;> exact hv) (by decide) ?_
        intro W' h1 h2
        exact hK _ _ ⟨rfl, h1⟩ ⟨fun hx => Ext.step hx h2 (Nat.le_refl _), .inr h1⟩)
  exact trivial
 intro X w1x hx hR
 simp only [toldX] at hx
 simp only [fillX, List.setIfInBounds_toArray, List.set_cons_succ, List.set_cons_zero]
 obtain ⟨⟨hx7, hx8⟩, _⟩ := hx
 rw [hx7]
 replace HB := hide hx8
 replace HX := hide (hR.1 HX.out)
 clear hx7 hx8 hR
 go_wp2_with fail
 rw [rounds_succ]
 go_wp2_with fail
 have HBO := hide HB.out
 apply wp_region_r (TurnsTo w.heap.size (.cells (#[.int .i64 (-1), .int .i64 (-1), .int .i64 (-1), .int .i64 (-1), .int .i64 0, .int .i64 0, .int .i64 0, .int .i64 0] : Array Value) 3 (0, 0)) w) 9 [38, 39, 40, 41, 42, 43, 44, 45, 46]
  [.is _, .is _, .is _, .is _, .is _, .is _, .is _, .so (fun v W => v = .int .i64 2 ∧ W.heap[w.heap.size]? = some (.cells (#[.int .i64 (-1), .int .i64 (-1), .int .i64 (-1), .int .i64 (-1), .int .i64 0, .int .i64 0, .int .i64 0, .int .i64 0] : Array Value) 3 (0, 0))), .is _]
  [(7, _), (8, _)]
 ·kernel_rfl
 ·decide
 ·exact TurnsTo.drew _
 ·exact fun A B C h k => h.trans k
 ·exact ⟨fun v A B h k => ⟨h.1, k.kept h.2⟩, trivial⟩
 ·decide
 ·rfl
 ·kernel_rfl
 ·decide +kernel
 iterate 6 (· kernel_rfl)
 ·rfl
 ·refine ⟨?_, ?_, trivial⟩ <;> (simp; rfl)
 ·repeat
   refine ⟨?_, ?_⟩
   ·intro F W hF hd hR
    simp [fixedAt] at hF
    obtain ⟨t7, t8⟩ := hF
    simp [Region.binds, Ent.holds] at hd
    refine ⟨fun _ K hK => ?_, by intro g b h hn; first | (cases h; done) | (cases h; exact absurd (by simp [hd]) hn)⟩
    simp only [Ent.holds, List.getD_cons_zero, List.getD_cons_succ] at hK
    first
     | (go_simp; exact hK _ _ rfl (TurnsTo.refl _))
     | (refine repCopy rfl rfl rfl w.heap.size 2 8 [.int .i64 (-1), .int .i64 (-1), .int .i64 0, .int .i64 0, .int .i64 0, .int .i64 0, .int .i64 0, .int .i64 0] [.int .i64 (-1), .int .i64 (-1), .int .i64 (-1), .int .i64 (-1), .int .i64 0, .int .i64 0, .int .i64 0, .int .i64 0] [.int .i64 (-1), .int .i64 (-1)] hd.1 hd.2 (hR.2.imp (fun h => h.trans HBO.out) id) (by decide) (by decide) rfl rfl (by intro j v hv; rcases j with _ | _ | _ | _ | j <;> simp at hv ⊢ <;> exact hv) (by intro j v hv; rcases j with _ | _ | _ | _ | j <;> simp at hv ⊢ <;> exact hv) (by decide) ?_
        intro W' h1 h2
        exact hK _ _ ⟨rfl, h1⟩ ⟨fun hx => Ext.step hx h2 (Nat.le_refl _), .inr h1⟩)
  exact trivial
 intro X w1xx hx hR
 simp only [toldX] at hx
 simp only [fillX, List.setIfInBounds_toArray, List.set_cons_succ, List.set_cons_zero]
 obtain ⟨⟨hx7, hx8⟩, _⟩ := hx
 rw [hx7]
 replace HB := hide hx8
 replace HX := hide (hR.1 HX.out)
 clear hx7 hx8 hR
 go_wp2_with fail
 rw [rounds_succ]
 go_wp2_with fail
 have HBO := hide HB.out
 apply wp_region_r (TurnsTo w.heap.size (.cells (#[.int .i64 (-1), .int .i64 (-1), .int .i64 (-1), .int .i64 (-1), .int .i64 (-1), .int .i64 (-1), .int .i64 (-1), .int .i64 (-1)] : Array Value) 3 (0, 0)) w) 9 [38, 39, 40, 41, 42, 43, 44, 45, 46]
  [.is _, .is _, .is _, .is _, .is _, .is _, .is _, .so (fun v W => v = .int .i64 4 ∧ W.heap[w.heap.size]? = some (.cells (#[.int .i64 (-1), .int .i64 (-1), .int .i64 (-1), .int .i64 (-1), .int .i64 (-1), .int .i64 (-1), .int .i64 (-1), .int .i64 (-1)] : Array Value) 3 (0, 0))), .is _]
  [(7, _), (8, _)]
 ·kernel_rfl
 ·decide
 ·exact TurnsTo.drew _
 ·exact fun A B C h k => h.trans k
 ·exact ⟨fun v A B h k => ⟨h.1, k.kept h.2⟩, trivial⟩
 ·decide
 ·rfl
 ·kernel_rfl
 ·decide +kernel
 iterate 6 (· kernel_rfl)
 ·rfl
 ·refine ⟨?_, ?_, trivial⟩ <;> (simp; rfl)
 ·repeat
   refine ⟨?_, ?_⟩
   ·intro F W hF hd hR
    simp [fixedAt] at hF
    obtain ⟨t7, t8⟩ := hF
    simp [Region.binds, Ent.holds] at hd
    refine ⟨fun _ K hK => ?_, by intro g b h hn; first | (cases h; done) | (cases h; exact absurd (by simp [hd]) hn)⟩
    simp only [Ent.holds, List.getD_cons_zero, List.getD_cons_succ] at hK
    first
     | (go_simp; exact hK _ _ rfl (TurnsTo.refl _))
     | (refine repCopy rfl rfl rfl w.heap.size 4 8 [.int .i64 (-1), .int .i64 (-1), .int .i64 (-1), .int .i64 (-1), .int .i64 0, .int .i64 0, .int .i64 0, .int .i64 0] [.int .i64 (-1), .int .i64 (-1), .int .i64 (-1), .int .i64 (-1), .int .i64 (-1), .int .i64 (-1), .int .i64 (-1), .int .i64 (-1)] [.int .i64 (-1), .int .i64 (-1), .int .i64 (-1), .int .i64 (-1)] hd.1 hd.2 (hR.2.imp (fun h => h.trans HBO.out) id) (by decide) (by decide) rfl rfl (by intro j v hv; rcases j with _ | _ | _ | _ | j <;> simp at hv ⊢ <;> exact hv) (by intro j v hv; rcases j with _ | _ | _ | _ | j <;> simp at hv ⊢ <;> exact hv) (by decide) ?_
        intro W' h1 h2
        exact hK _ _ ⟨rfl, h1⟩ ⟨fun hx => Ext.step hx h2 (Nat.le_refl _), .inr h1⟩)
  exact trivial
 intro X w1xxx hx hR
 simp only [toldX] at hx
 simp only [fillX, List.setIfInBounds_toArray, List.set_cons_succ, List.set_cons_zero]
 obtain ⟨⟨hx7, hx8⟩, _⟩ := hx
 rw [hx7]
 replace HB := hide hx8
 replace HX := hide (hR.1 HX.out)
 clear hx7 hx8 hR
 go_wp2_with fail
 rw [rounds_succ]
 go_wp2_with fail
 go_ret
 exact ⟨_, _, rfl, repOk HB.out rfl, HX.out⟩
/-- slices.Repeat of one element, at most eight times -/
theorem repeat_any (n : Nat) (h : n ≤ 8) (g : Nat) (w : World) (hc : w.cell? ⟨g, 0, none⟩ = some (.int .i64 (-1))) :
 Calls Try.prog 63 #[.slice (some ⟨g, 0, none⟩) 1 1, .int .i64 n] w fun e w' => ∃ A c, e = .returned (.slice A n c) ∧ Own w' w.heap.size 3 1 (.slice A n c) n ((List.replicate n (-1)).map (Value.int .i64)) ∧ Ext w w' := by
 have h9 : n = 0 ∨ n = 1 ∨ n = 2 ∨ n = 3 ∨ n = 4 ∨ n = 5 ∨ n = 6 ∨ n = 7 ∨ n = 8 := by omega
 rcases h9 with rfl | rfl | rfl | rfl | rfl | rfl | rfl | rfl | rfl
 ·exact repeat_0 g w hc
 ·exact repeat_1 g w hc
 ·exact repeat_2 g w hc
 ·exact repeat_3 g w hc
 ·exact repeat_4 g w hc
 ·exact repeat_5 g w hc
 ·exact repeat_6 g w hc
 ·exact repeat_7 g w hc
 ·exact repeat_8 g w hc
end Go.Proofs.Ythcnganbnbhhoaa
