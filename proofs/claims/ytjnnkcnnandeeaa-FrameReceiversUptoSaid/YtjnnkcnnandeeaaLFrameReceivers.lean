/-
  Proves that the law function FrameReceivers returns true whatever it is given, and that what it is given reads behind the call as it read before: 'FrameReceiversSaid'. No conditions.
-/
import Derived.Test.YtjnnkcnnandeeaaRows
import Derived.Test.YtjnnkcnnandeeaaFR4
import Derived.Test.YtjnnkcnnandeeaaOpenSent
import Derived.JoinedCond
import Derived.SizedLaws
set_option linter.unusedVariables false
set_option linter.unusedSimpArgs false
namespace Go.Proofs.Ytjnnkcnnandeeaa
open Go Go.Proofs Go.Proofs.Ytjnnkcnnandeeaa.Sh Go.ChangeShapes Go.WideShapes Go.ChangeAt Go.RowKit
section
variable {H : Type} {enc : TypeId × Value → H} {W : World}
def FrChannel.G (x : FrChannel) : Prop := x.name.size ≤ 9223372036854775807 ∧ (Lit.int .i64 x.word).wf = true ∧ (Lit.int .i64 x.every).wf = true ∧ (Lit.int .i64 x.phase).wf = true
set_option maxRecDepth 100000 in
theorem open_FrChannel {n : Nat} {cs : List Value} {y : DataW H × List MemPlace} (h : DataW.trod enc Try.prog W 0 (fun _ => true) true n 83 cs = some y) : ∃ a : FrChannel, CV W cs (FrChannel.d a) ∧ FrChannel.G a := by
 have hl := (trodLen Try.underlying83 h).trans (by kernel_rfl : Try.prog.cellsOf 83 = 4)
 match cs, hl with
 | [c0, c1, c2, c3], _ =>
  obtain ⟨n1, y1, f1⟩ := trodAt Try.underlying83 h 0 _ rfl [c0] (by kernel_rfl)
  obtain ⟨v0, o0, g0⟩ := op_str Try.underlying9 f1
  obtain ⟨n2, y2, f2⟩ := trodAt Try.underlying83 h 1 _ rfl [c1] (by kernel_rfl)
  obtain ⟨v1, o1, g1⟩ := op_int Try.underlying3 f2
  obtain ⟨n3, y3, f3⟩ := trodAt Try.underlying83 h 2 _ rfl [c2] (by kernel_rfl)
  obtain ⟨v2, o2, g2⟩ := op_int Try.underlying3 f3
  obtain ⟨n4, y4, f4⟩ := trodAt Try.underlying83 h 3 _ rfl [c3] (by kernel_rfl)
  obtain ⟨v3, o3, g3⟩ := op_int Try.underlying3 f4
  exact ⟨⟨v0, v1, v2, v3⟩, CVs.cv ⟨o0, o1, o2, o3, trivial⟩, g0, g1, g2, g3⟩
def FrFormat.G (x : FrFormat) : Prop := x.sync.size ≤ 9223372036854775807 ∧ (Lit.int .i64 x.words).wf = true ∧ (Lit.int .i64 x.depth).wf = true ∧ (x.channels.length ≤ 9223372036854775807 ∧ ∀ z ∈ x.channels, FrChannel.G z)
set_option maxRecDepth 100000 in
theorem open_FrFormat {n : Nat} {cs : List Value} {y : DataW H × List MemPlace} (h : DataW.trod enc Try.prog W 0 (fun _ => true) true n 28 cs = some y) : ∃ a : FrFormat, CV W cs (FrFormat.d a) ∧ FrFormat.G a := by
 have hl := (trodLen Try.underlying28 h).trans (by kernel_rfl : Try.prog.cellsOf 28 = 4)
 match cs, hl with
 | [c0, c1, c2, c3], _ =>
  obtain ⟨n1, y1, f1⟩ := trodAt Try.underlying28 h 0 _ rfl [c0] (by kernel_rfl)
  obtain ⟨v0, o0, g0⟩ := op_str Try.underlying9 f1
  obtain ⟨n2, y2, f2⟩ := trodAt Try.underlying28 h 1 _ rfl [c1] (by kernel_rfl)
  obtain ⟨v1, o1, g1⟩ := op_int Try.underlying3 f2
  obtain ⟨n3, y3, f3⟩ := trodAt Try.underlying28 h 2 _ rfl [c2] (by kernel_rfl)
  obtain ⟨v2, o2, g2⟩ := op_int Try.underlying3 f3
  obtain ⟨n4, y4, f4⟩ := trodAt Try.underlying28 h 3 _ rfl [c3] (by kernel_rfl)
  obtain ⟨v3, o3, g3⟩ := op_row (size := 4) FrChannel.d (fun a => FrChannel.G a) Try.underlying26 (by kernel_rfl) (by decide) (fun _ => rfl) (fun _ _ _ h => open_FrChannel h) f4
  exact ⟨⟨v0, v1, v2, v3⟩, CVs.cv ⟨o0, o1, o2, o3, trivial⟩, g0, g1, g2, g3⟩
def Sent.G (x : Sent) : Prop := (Lit.int .i64 x.first).wf = true ∧ (x.steps.length ≤ 9223372036854775807 ∧ ∀ z ∈ x.steps, (Lit.int .u8 z).wf = true) ∧ (x.words.length ≤ 9223372036854775807 ∧ ∀ z ∈ x.words, (Lit.int .u16 z).wf = true)
set_option maxRecDepth 100000 in
theorem open_Sent {n : Nat} {cs : List Value} {y : DataW H × List MemPlace} (h : DataW.trod enc Try.prog W 0 (fun _ => true) true n 55 cs = some y) : ∃ a : Sent, CV W cs (Sent.d a) ∧ Sent.G a := by
 have hl := (trodLen Try.underlying55 h).trans (by kernel_rfl : Try.prog.cellsOf 55 = 3)
 match cs, hl with
 | [c0, c1, c2], _ =>
  obtain ⟨n1, y1, f1⟩ := trodAt Try.underlying55 h 0 _ rfl [c0] (by kernel_rfl)
  obtain ⟨v0, o0, g0⟩ := op_int Try.underlying3 f1
  obtain ⟨n2, y2, f2⟩ := trodAt Try.underlying55 h 1 _ rfl [c1] (by kernel_rfl)
  obtain ⟨v1, o1, g1⟩ := op_row (size := 1) v8 (fun a => (Lit.int .u8 a).wf = true) Try.underlying22 (by kernel_rfl) (by decide) (fun _ => rfl) (fun _ _ _ h => op_int1 Try.underlying5 h) f2
  obtain ⟨n3, y3, f3⟩ := trodAt Try.underlying55 h 2 _ rfl [c2] (by kernel_rfl)
  obtain ⟨v2, o2, g2⟩ := op_row (size := 1) v16 (fun a => (Lit.int .u16 a).wf = true) Try.underlying53 (by kernel_rfl) (by decide) (fun _ => rfl) (fun _ _ _ h => op_int1 Try.underlying65 h) f3
  exact ⟨⟨v0, v1, v2⟩, CVs.cv ⟨o0, o1, o2, trivial⟩, g0, g1, g2⟩
set_option maxRecDepth 100000 in
theorem openV_28 {w0 : Nat} {v : Value} {d : DataW H} {q : List MemPlace} (hval : Value.okWide Try.prog W .any w0 28 v) (h : DataW.Trod enc Try.prog W 0 (fun _ => true) true 28 v d q) : ∃ a : FrFormat, VD (gW W) (FrFormat.d a) v ∧ FrFormat.G a := by
 obtain ⟨cs, rfl, n, x, hf⟩ := op_struct Try.underlying28 hval h
 obtain ⟨a, ha, g⟩ := open_FrFormat hf
 exact ⟨a, CV.agg ha, g⟩
set_option maxRecDepth 100000 in
theorem openV_55 {w0 : Nat} {v : Value} {d : DataW H} {q : List MemPlace} (hval : Value.okWide Try.prog W .any w0 55 v) (h : DataW.Trod enc Try.prog W 0 (fun _ => true) true 55 v d q) : ∃ a : Sent, VD (gW W) (Sent.d a) v ∧ Sent.G a := by
 obtain ⟨cs, rfl, n, x, hf⟩ := op_struct Try.underlying55 hval h
 obtain ⟨a, ha, g⟩ := open_Sent hf
 exact ⟨a, CV.agg ha, g⟩
set_option maxRecDepth 100000 in
theorem openV_113 {w0 : Nat} {v : Value} {d : DataW H} {q : List MemPlace} (hval : Value.okWide Try.prog W .any w0 113 v) (h : DataW.Trod enc Try.prog W 0 (fun _ => true) true 113 v d q) : ∃ a : (List Int), VD (gW W) (.arr 1 ((a).map v32)) v ∧ (a.length ≤ 9223372036854775807 ∧ ∀ z ∈ a, (Lit.int .u32 z).wf = true) := by
 obtain ⟨n, x, hf⟩ := opV_row Try.underlying113 hval h
 exact op_row (size := 1) v32 (fun a => (Lit.int .u32 a).wf = true) Try.underlying113 (by kernel_rfl) (by decide) (fun _ => rfl) (fun _ _ _ h => op_int1 Try.underlying114 h) hf
end
theorem int_wf {k : IntKind} {a : Int} (h : (Lit.int k a).wf = true) : k.min ≤ a ∧ a ≤ k.max := by
 have h' : (decide (k.min ≤ a) && decide (a ≤ k.max)) = true := h
 rw [Bool.and_eq_true, decide_eq_true_iff, decide_eq_true_iff] at h'
 exact h'
theorem sum_ge {l : List FrChannel} : ∀ c ∈ l, c.name.size ≤ (l.map fun c => c.name.size).sum := by
 induction l with
 | nil => intro c h; cases h
 | cons x l ih =>
  intro c h
  rw [List.map_cons, List.sum_cons]
  rcases List.mem_cons.1 h with h | h
  ·rw [h]; omega
  ·have := ih c h; omega
def rcF (t : FrFormat) : Nat := 2000001 + (t.channels.map fun c => c.name.size).sum
theorem rcF_gt (t : FrFormat) : 2000000 < rcF t := by unfold rcF; omega
theorem rcF_of {t : FrFormat} (g : t.G) : FmF (rcF t) t := ⟨by unfold rcF; omega, fun c hc => by
 have h1 := sum_ge c hc
 have h2 := (g.2.2.2.2 c hc).1
 unfold rcF
 exact ⟨by omega, h2⟩⟩
theorem sentOk_of {x : Sent} {n : Nat} (g : x.G) (hb : x.steps.length ≤ n ∧ x.words.length ≤ n) (hn : n ≤ 1048576) : Fm.SentOk x := ⟨fun e h => int_wf (g.2.1.2 e h), fun e h => int_wf (g.2.2.2 e h), by omega, by omega⟩
set_option maxRecDepth 100000 in
theorem sent_bulk {H : Type} {enc : TypeId × Value → H} {W : World} {w0 : Nat} {v : Value} {d : DataW H} {p : List MemPlace} (hval : Value.okWide Try.prog W .any w0 55 v) (h : DataW.Trod enc Try.prog W 0 (fun _ => true) true 55 v d p) {a : Sent} (ha : VD (gW W) (Sent.d a) v) : a.steps.length ≤ Rows.uptoBulk d ∧ a.words.length ≤ Rows.uptoBulk d := by
 obtain ⟨v0, v1, v2, y0, y1, y2, n, rfl, rfl, _, h0, h1, h2⟩ := Go.Joins.open_agg3 Try.underlying55 (by kernel_rfl) (by kernel_rfl) hval h
 obtain ⟨a1, l1, c1, zs1, rfl, r1, b1⟩ := open_row Try.underlying22 Try.underlying5 (by kernel_rfl) h1
 obtain ⟨a2, l2, c2, zs2, rfl, r2, b2⟩ := open_row Try.underlying53 Try.underlying65 (by kernel_rfl) h2
 have hlen : ∀ (xs : List D) (q : Option Addr) (n c : Nat), VD (gW W) (.arr 1 xs) (.slice q n c) → xs.length = n := fun xs q n c h => by cases h <;> rfl
 unfold Sent.d at ha
 cases ha with
 | agg l cs hl hc =>
  have k1 := hlen _ _ _ _ (hc 1 _ _ rfl rfl)
  have k2 := hlen _ _ _ _ (hc 2 _ _ rfl rfl)
  rw [List.length_map] at k1 k2
  simp only [Rows.uptoBulk, Rows.uptoBulkAll]
  omega
namespace FrameReceiversLaw
theorem own : ownKnob Try.prog.godebug = none := by kernel_rfl
theorem laidOut : laidOutB Try.prog = true := by kernel_rfl
set_option maxRecDepth 100000 in
theorem lifted (os : Os) (started : os.Started) (H : Type) (enc : TypeId × Value → H) (FF : Stop.Interp) :
 ReturnsInHanded {} Try.checked os 17 .any ((Rows.OpenSpec.upto Rows.frameReceiversSpec).pre6 enc Try.prog Try.f17 Rows.frameReceiversUptoRow.domain false) (((Rows.OpenSpec.upto Rows.frameReceiversSpec).at FF).post enc Try.prog Try.f17 false true false false) := by
 refine returnsInHanded_of_cond (C := Try.checked) (s := Rows.OpenSpec.upto Rows.frameReceiversSpec) (k := Rows.uptoSmall) rfl own started (by kernel_rfl) Try.func17
  (OpenSpec.witness (enc := enc) (C := Try.checked) (s := Rows.OpenSpec.upto Rows.frameReceiversSpec) (k := Rows.uptoSmall) rfl false ⟨#[], #[.agg #[.string (ByteArray.mk #[]), .int .i64 0, .int .i64 0, .slice none 0 0], .agg #[.int .i64 0, .slice none 0 0, .slice none 0 0], .slice none 0 0], []⟩ 8 (by kernel_rfl) (by kernel_rfl) (by kernel_rfl)
   (x := ([.agg [.lit (.string []), .lit (.int .i64 0), .lit (.int .i64 0), .nil], .agg [.lit (.int .i64 0), .nil, .nil], .nil], [], [])) (by kernel_rfl) rfl (by kernel_rfl)) ?_
 intro W base args ds gs before hval0 hW _ hk _
 have hval : ∀ (j : Nat) t v, Try.f17.params[j]? = some t → args[j]? = some v → Value.okWide Try.prog W .any base t v := hval0
 have hW' := hW
 obtain ⟨p, q, hA0, hV, rfl, hfz, hnd⟩ := hW
 have hA : DataW.TrodAll enc Try.prog W 0 (fun _ => true) true Try.f17.params.toList args.toList ds p := hA0
 rw [Try.params17] at hA hval
 obtain ⟨v0, vs0, d0, ds0, p0, q0, hargs, rfl, rfl, h0, r0⟩ := trodAll_cons hA
 obtain ⟨v1, vs1, d1, ds1, p1, q1, rfl, rfl, rfl, h1, r1⟩ := trodAll_cons r0
 obtain ⟨v2, vs2, d2, ds2, p2, q2, rfl, rfl, rfl, h2, r2⟩ := trodAll_cons r1
 obtain ⟨rfl, rfl, rfl⟩ := trodAll_nil r2
 obtain rfl : args = #[v0, v1, v2] := by cases args; simp_all
 obtain ⟨rfl, rfl⟩ := trodVars_none hV
 have k0 := h0
 have lt0 : ∀ x ∈ p0, x.block < W.heap.size := by obtain ⟨m, hm⟩ := k0; exact DataW.trod_lt m _ _ _ hm
 obtain ⟨a0, o0, g0⟩ := openV_28 (hval 0 28 v0 rfl rfl) h0
 have k1 := h1
 have lt1 : ∀ x ∈ p1, x.block < W.heap.size := by obtain ⟨m, hm⟩ := k1; exact DataW.trod_lt m _ _ _ hm
 obtain ⟨a1, o1, g1⟩ := openV_55 (hval 1 55 v1 rfl rfl) h1
 have k2 := h2
 have lt2 : ∀ x ∈ p2, x.block < W.heap.size := by obtain ⟨m, hm⟩ := k2; exact DataW.trod_lt m _ _ _ hm
 obtain ⟨a2, o2, g2⟩ := openV_113 (hval 2 113 v2 rfl rfl) h2
 clear hA0 hval0
 simp only [List.append_nil] at hk
 have hbk := of_decide_eq_true hk
 simp only [Rows.uptoBulkAll] at hbk
 obtain ⟨F, hF⟩ := (⟨rcF a0, Fm.receivers_any (rcF_of g0) (rcF_gt a0) rfl (sentOk_of g1 (sent_bulk (hval 1 55 v1 rfl rfl) k1 o1) (by omega)) a2⟩ : ∃ F, hangfirelaw09_FrameReceivers F a0 a1 a2 = some true)
 have hw : Calls Try.prog 17 #[v0, v1, v2] W fun e w' => e = .returned (.bool true) ∧ Below W.heap.size W w' := PC.below (ds := [FrFormat.d a0, Sent.d a1, .arr 1 ((a2).map v32)]) (vs := [v0, v1, v2]) (hangfirelaw09_FrameReceivers_pc hF) rfl (CVs.at (ds := [FrFormat.d a0, Sent.d a1, .arr 1 ((a2).map v32)]) (cs := [v0, v1, v2]) ⟨o0, o1, o2, trivial⟩).2
 refine hw.mono fun e W' ⟨he, bel⟩ => ?_
 subst he
 exact ⟨_, rfl, _, _, _, [], _, [], hW', trodAll_mk1 (shut_bool Try.underlying4 _), (trodAll_cons_mk (Below.trod laidOut (by kernel_rfl) (of_decide_eq_true (by kernel_rfl)) k0 bel lt0) (trodAll_cons_mk (Below.trod laidOut (by kernel_rfl) (of_decide_eq_true (by kernel_rfl)) k1 bel lt1) (trodAll_cons_mk (Below.trod laidOut (by kernel_rfl) (of_decide_eq_true (by kernel_rfl)) k2 bel lt2) trodAll_mk0))), rfl, bel.frame _, fun h => by cases h⟩
theorem over : Rows.frameReceiversUptoRow.holds Try.pinned (Rows.OpenSpec.upto Rows.frameReceiversSpec) :=
 OpenClaim.holds_of_cond 17 Try.f17 rfl rfl rfl rfl rfl rfl rfl ⟨rfl, rfl, rfl, rfl, rfl⟩ rfl rfl rfl rfl rfl (by kernel_rfl) Try.func17 (by kernel_rfl)
  (of_decide_eq_true (by kernel_rfl)) (by unfold Func.isWrapper; first | (rw [if_pos (by decide +kernel)]; kernel_rfl) | (rw [if_neg (by decide +kernel)]; exact ⟨rfl, rfl⟩))
  (fun os started H enc _ F => lifted os started H enc F)
end FrameReceiversLaw
theorem receivers_holds : Rows.FrameReceiversUptoSaid := FrameReceiversLaw.over
end Go.Proofs.Ytjnnkcnnandeeaa
