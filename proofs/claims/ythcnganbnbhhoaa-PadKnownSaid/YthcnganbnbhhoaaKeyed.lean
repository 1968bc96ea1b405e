/- The walk of keyed. -/
import Derived.Test.YthcnganbnbhhoaaSc3
namespace Go.Proofs.Ythcnganbnbhhoaa
open Go.RowKit Go.Shelf
attribute [local go_sem] Oper.semAt_some
theorem keepsFrom_ext {B : Nat} {W W' : World} (h : Ext W W') : KeepsFrom B W W' := ⟨h.size, fun k o _ hk _ => by rw [Below.block h k (Array.getElem?_eq_some_iff.1 hk).1]; exact hk⟩
theorem keepG_ext {G : Nat → Prop} {W W' : World} (h : Ext W W') (hG : ∀ k, G k → k < W.heap.size) : KeepG G W W' := fun k hk => Below.block h k (hG k hk)
theorem nears_lt {zs : List Zone} {qs : List SquibX} {z : Int} {q : Nat} (h : q ∈ nears zs qs z) : q < qs.length := by
 unfold nears at h
 split at h
 ·cases h
 ·exact List.mem_range.1 (List.mem_filter.1 h).1
/-- The squibs' block lies in memory. -/
theorem rows_lt {w : World} {A : Option Addr} {n c : Nat} {l : List SquibX} (h : ListV 6 SquibX.cell w (.slice A n c) l) : ∀ k, 0 < l.length → (∃ off, A = some ⟨k, off, none⟩) → k < w.heap.size := by
 intro k h0 ⟨off, ha⟩
 obtain ⟨_, _, _, hr⟩ := h.rows
 obtain ⟨b', off', e', hb', _⟩ := hr h0
 rw [ha] at e'
 cases e'
 exact hb'
/-- Memory in keyed: the boxes of the scene's pointer, of the person, of the result. -/
structure KeyW (w : World) (B : Nat) (X : SceneX) (p : Pad) (s : State) (i : Int) (W : World) (v : Value) : Prop where
 ext : Ext w W
 sc : SceneAt W B X p s
 b3 : Boxed W w.heap.size 115 (.pointer (some ⟨B, 0, none⟩))
 b4 : Boxed W (w.heap.size + 1) 3 (.int .i64 i)
 b6 : Boxed W (w.heap.size + 1 + 1) 4 v
section
variable {w W W' : World} {B : Nat} {X : SceneX} {p : Pad} {s : State} {i : Int} {v : Value}
theorem KeyW.ext' (h : KeyW w B X p s i W v) (k : Ext W W') : KeyW w B X p s i W' v := ⟨h.ext.trans k, h.sc.ext k, Boxed.ext h.b3 k, Boxed.ext h.b4 k, Boxed.ext h.b6 k⟩
theorem KeyW.turn (h : KeyW w B X p s i W v) {N : Nat} (k : Turn N W W') (hN : w.heap.size ≤ N) : KeyW w B X p s i W' v := ⟨k.below h.ext hN h.ext.size, h.sc.turn k, Boxed.turn h.b3 k, Boxed.turn h.b4 k, Boxed.turn h.b6 k⟩
theorem KeyW.set (h : KeyW w B X p s i W v) (u : Value) (hb : SceneAt w B X p s) : KeyW w B X p s i (W.setCell ⟨w.heap.size + 1 + 1, 0, none⟩ u) u := by
 have hx : Ext w (W.setCell ⟨w.heap.size + 1 + 1, 0, none⟩ u) := h.ext.setCell (by dsimp only; omega) _
 exact ⟨hx, hb.ext hx, Boxed.other h.b3 (by omega) _, Boxed.other h.b4 (by omega) _, Boxed.set _ h.b6⟩
theorem KeyW.new (h : SceneAt w B X p s) : KeyW w B X p s i (((w.alloc (.cells #[.pointer (some ⟨B, 0, none⟩)] 115)).alloc (.cells #[.int .i64 i] 3)).alloc (.cells #[v] 4)) v := by
 have hx : Ext w (((w.alloc (.cells #[.pointer (some ⟨B, 0, none⟩)] 115)).alloc (.cells #[.int .i64 i] 3)).alloc (.cells #[v] 4)) := (((Ext.refl _).alloc _).alloc _).alloc _
 refine ⟨hx, h.ext hx, ?_, ?_, ?_⟩
 ·exact ((Boxed.new w 115 (.pointer (some ⟨B, 0, none⟩))).alloc _).alloc _
 ·have := (Boxed.new (w.alloc (.cells #[.pointer (some ⟨B, 0, none⟩)] 115)) 3 (.int .i64 i)).alloc (.cells #[v] 4)
  simpa only [World.size_alloc] using this
 ·have := Boxed.new ((w.alloc (.cells #[.pointer (some ⟨B, 0, none⟩)] 115)).alloc (.cells #[.int .i64 i] 3)) 4 v
  simpa only [World.size_alloc] using this
end
/-- ContainsFunc with keyed's closure. -/
theorem contains_held (b3 b4 : Nat) (i : Int) (B : Nat) (X : SceneX) (p : Pad) (s : State) (v : Value) (l : List Int) (w : World) (h : SceneAt w B X p s) (h3 : w.cell? ⟨b3, 0, none⟩ = some (.pointer (some ⟨B, 0, none⟩))) (h4 : w.cell? ⟨b4, 0, none⟩ = some (.int .i64 i)) (hv : IntsV w .i64 v l)
 (hk : ∀ k, k < l.length → 0 ≤ l.getD k 0 ∧ l.getD k 0 < s.holder.length) :
 Calls Try.prog 76 #[v, .func (.func 110) #[] #[.pointer (some ⟨b3, 0, none⟩), .pointer (some ⟨b4, 0, none⟩)]] w fun e w' => e = .returned (.bool (anyB (fun k => decide (s.holder.getD (l.getD k 0).toNat 0 = i)) l.length)) ∧ Ext w w' :=
 containsFunc_int 110 _ (enters_of Try.func110 (by kernel_rfl) rfl) v l _ w (fun k w1 hkl hx => keyed1_any _ i b3 b4 B X p s w1 (h.ext hx) (hx.cell h3) (hx.cell h4) (hk k hkl).1 (hk k hkl).2) hv
set_option maxRecDepth 100000 in
set_option maxHeartbeats 4000000 in
/-- keyed -/
theorem keyed_any (B : Nat) (X : SceneX) (p : Pad) (s : State) (i z : Int) (w : World) (h : SceneAt w B X p s) (hok : PadOk p) (hlh : s.holder.length = p.keys.length) (hlq : s.squibs.length = p.squibs.length) (hz : z < p.zones.length) :
 Calls Try.prog 94 #[.pointer (some ⟨B, 0, none⟩), .int .i64 i, .int .i64 z] w fun e w' => e = .returned (.bool (keyedB p s i z)) ∧ Ext w w' := by
 obtain ⟨⟨az, cz, ad, cd, ap, cp, ak, ck, aq, cq⟩, sz, zc, sh, hc, sq, qc⟩ := X
 have HSC := hide h
 have k0 := h.k0
 have k1 := h.k1
 have k2 := h.k2
 have k3 := h.k3
 have k4 := h.k4
 have k5 := h.k5
 have k6 := h.k6
 dsimp only at k0 k1 k2 k3 k4 k5 k6
 have hlt := h.blk.lt
 have hlt1 : B < w.heap.size + 1 := by omega
 have hlt2 : B < w.heap.size + 1 + 1 := by omega
 have HOK := hide hok
 have HLH := hide hlh
 have HLQ := hide hlq
 have hrz := h.q.rows
 dsimp only at hrz
 have hq1 : s.squibs.length ≤ 9223372036854775807 := by omega
 have hrq := h.pad.q.rows
 dsimp only at hrq
 have hq2 : p.squibs.length ≤ 9223372036854775807 := by omega
 have HNF := hide (show ∀ q, q ∈ nears p.zones p.squibs z → keyedAt p s i q = false → keyedB p s i z = false from fun q hq hf => by unfold keyedB; rw [List.all_eq_false]; exact ⟨q, hq, by rw [hf]; decide⟩)
 have HNT := hide (show (∀ q, q ∈ nears p.zones p.squibs z → keyedAt p s i q = true) → keyedB p s i z = true from fun hh => by unfold keyedB; rw [List.all_eq_true]; exact hh)
 obtain ⟨R, hR⟩ : ∃ R, keyedB p s i z = R := ⟨_, rfl⟩
 rw [hR] at HNF HNT ⊢
 clear hR h hok hlh hlq hrz hrq
 refine callsIn_wide.1 (callsIn_of_wp_marks (n := 0) Try.func94 rfl trivial ?_ rfl)
 simp only [Try.ntmps94, List.size_toArray, List.length_cons, List.length_nil, Nat.reduceAdd, Nat.reduceSub, Array.replicate_succ, Array.replicate_zero, List.push_toArray, List.append_toArray, List.nil_append, List.cons_append]
 refine wpIn_wide.2 ?_
 go_wp2_with fail
 have HC := hide (KeyW.new (i := i) (v := .bool false) HSC.out)
 obtain ⟨W1, hW1⟩ : ∃ W1, ((w.alloc (.cells #[.pointer (some ⟨B, 0, none⟩)] 115)).alloc (.cells #[.int .i64 i] 3)).alloc (.cells #[.bool false] 4) = W1 := ⟨_, rfl⟩
 rw [hW1] at HC ⊢
 clear hW1
 refine (near_any az ad ap ak aq p.zones.length p.doors.length p.people.length p.keys.length p.squibs.length cz cd cp ck cq p.panel p.wait z W1).mono ?_
 rintro e w4 ⟨zb, pb, rfl, hx4, z1, z2, z3⟩
 replace HC := hide (HC.out.ext' hx4)
 have hsz4 : w.heap.size + 3 ≤ w4.heap.size := Nat.succ_le_of_lt (Boxed.lt HC.out.b6)
 have HSEQ := hide (near_seq p.zones p.squibs z zb pb (.slice az p.zones.length cz) aq cq w4 hz HOK.out.zin HOK.out.qin
  (fun q hq => by obtain ⟨A, c, h, _⟩ := HC.out.sc.pad.kv q hq; exact ⟨A, c, h⟩) z1 z2 z3 HC.out.sc.pad.z HC.out.sc.pad.q)
 have HRQ := hide (rows_lt HC.out.sc.pad.q)
 clear hx4 z1 z2 z3 k0 k1 k2 k3 k4 k5 k6
 go_wp2_with fail
 refine range_ok (gf := 78) (encs := idxEnc) rfl (enters_of Try.func78 (by kernel_rfl) rfl) HSEQ.out
  (by intro k hk; rcases hk with ⟨h0, ho⟩ | h2
      ·have := HRQ.out k h0 ho; omega
      ·omega) (fun _ => rfl)
  (fun pre W => (∀ q ∈ pre, keyedAt p s i q = true) ∧ KeyW w B ⟨⟨az, cz, ad, cd, ap, cp, ak, ck, aq, cq⟩, sz, zc, sh, hc, sq, qc⟩ p s i W (.bool false)) (fun c pre W => c = .ret ∧ (∃ q ∈ pre, keyedAt p s i q = false) ∧ KeyW w B ⟨⟨az, cz, ad, cd, ap, cp, ak, ck, aq, cq⟩, sz, zc, sh, hc, sq, qc⟩ p s i W (.bool false))
  (fun s A B h k => ⟨h.1, h.2.turn k (by omega)⟩) (fun c s A B h k => ⟨h.1, h.2.1, h.2.2.turn k (by omega)⟩) ⟨(fun q hq => absurd hq (by simp)), HC.out⟩ ?_ ?_ ?_
 ·intro y pre x W0 W hszW hsp hI hx0 hokk
  simp only [idxEnc]
  gi_wp2
  refine ⟨KeepsFrom.refl _ _, fun k hk => rfl, fun W2 hT => ?_⟩
  have HPRE := hide hI.1
  replace HC := hide ((hI.2.ext' hx0).turn hT (by omega))
  have HGG := hide (show ∀ k, nearG w4 aq p.squibs.length k → k < W2.heap.size from fun k hk => by
   have h1 := hT.size
   rcases hk with ⟨h0, ho⟩ | h2
   ·have := HRQ.out k h0 ho; have := hx0.size; omega
   ·omega)
  have hxl : x < p.squibs.length := by
   obtain ⟨rest, hr⟩ := hsp
   refine nears_lt (zs := p.zones) (qs := p.squibs) (z := z) ?_
   rw [← hr]; simp
  have hxs : x < s.squibs.length := by have := HLQ.out; omega
  clear hI hx0 hokk hsp hT
  have c3 := Boxed.cell HC.out.b3
  have c4 := Boxed.cell HC.out.b4
  have c6 := Boxed.cell HC.out.b6
  have f6 := Boxed.frozen HC.out.b6
  have k4 := HC.out.sc.k4
  have k10 := HC.out.sc.k10
  dsimp only at k4 k10
  obtain ⟨_, _, _, hqrow⟩ := HC.out.sc.q.rows
  obtain ⟨b, off, u, hA, hb, d0, HX⟩ := ints_at hqrow hxs
  dsimp only at hA
  obtain ⟨_, _, _, hprow⟩ := HC.out.sc.pad.q.rows
  obtain ⟨b2, off2, hA2, hb2, hcc⟩ := ListV.at hprow hxl
  dsimp only at hA2
  have d5 := hcc 5 (by omega)
  have hkv := HC.out.sc.pad.kv _ (getD_in default hxl)
  have hks := HOK.out.qks _ (getD_in default hxl)
  have HKA := hide (show keyedAt p s i x = (decide (u = 2) || anyB (fun k => decide (s.holder.getD ((p.squibs.getD x default).1.keys.getD k 0).toNat 0 = i)) (p.squibs.getD x default).1.keys.length) by unfold keyedAt holdsB; rw [HX.out])
  obtain ⟨⟨qq, kv⟩, hqq⟩ : ∃ q, p.squibs.getD x default = q := ⟨_, rfl⟩
  rw [hqq] at d5 hkv hks HKA
  dsimp only [SquibX.cell] at d5 hkv hks HKA
  obtain ⟨A', c', hkve, hk1, hk2, hk3⟩ := id hkv
  subst hkve
  have HHS := hide (show ∀ k, k < qq.keys.length → 0 ≤ qq.keys.getD k 0 ∧ qq.keys.getD k 0 < s.holder.length from fun k hk => by have := hks k hk; have := HLH.out; omega)
  have HCH := hide (contains_held w.heap.size (w.heap.size + 1) i B ⟨⟨az, cz, ad, cd, ap, cp, ak, ck, aq, cq⟩, sz, zc, sh, hc, sq, qc⟩ p s _ qq.keys W2 HC.out.sc c3 c4 hkv HHS.out)
  subst hA hA2
  clear hqrow hprow hcc hkv hks hqq hk1 hk2 hk3
  by_cases hu : u = 2
  ·have hne : (u != 2) = false := by simpa using hu
   have HK := hide (show keyedAt p s i x = true by rw [HKA.out, hu]; rfl)
   clear hu
   gi_wp2
   refine ⟨trivial, ?_⟩
   gi_wp2
   exact ⟨KeepsFrom.refl _ _, fun k hk => rfl, fun q hq => by
    rcases List.mem_append.1 hq with hq | hq
    ·exact HPRE.out q hq
    ·rw [List.mem_singleton.1 hq]; exact HK.out, HC.out⟩
  ·have hne : (u != 2) = true := by simpa using hu
   cases hany : anyB (fun k => decide (s.holder.getD (qq.keys.getD k 0).toNat 0 = i)) qq.keys.length with
   | true =>
     have HK := hide (show keyedAt p s i x = true by rw [HKA.out, hany, Bool.or_true])
     rw [hany] at HCH
     clear hu hany
     gi_wp2
     refine ⟨trivial, rfl, (CallsIn.inRound y (callsIn_wide.2 HCH.out)).mono ?_⟩
     rintro e w5 ⟨rfl, hx5⟩
     replace HC := hide (HC.out.ext' hx5)
     gi_wp2
     exact ⟨keepsFrom_ext hx5, keepG_ext hx5 HGG.out, fun q hq => by
      rcases List.mem_append.1 hq with hq | hq
      ·exact HPRE.out q hq
      ·rw [List.mem_singleton.1 hq]; exact HK.out, HC.out⟩
   | false =>
     have HK := hide (show keyedAt p s i x = false by rw [HKA.out, hany, Bool.or_false]; exact decide_eq_false hu)
     rw [hany] at HCH
     clear hu hany
     gi_wp2
     refine ⟨trivial, rfl, (CallsIn.inRound y (callsIn_wide.2 HCH.out)).mono ?_⟩
     rintro e w5 ⟨rfl, hx5⟩
     replace HC := hide (HC.out.ext' hx5)
     have HX5 := hide hx5
     replace c6 := Boxed.cell HC.out.b6
     replace f6 := Boxed.frozen HC.out.b6
     clear hx5
     gi_wp2
     exact ⟨(keepsFrom_ext HX5.out).trans ((KeepsOthers.setCell _ _ _).from _), rfl, ⟨x, by simp, HK.out⟩, HC.out.set _ HSC.out⟩
 ·intro D xs W hD hS hI hK
  have HC := hide hI.2
  have HT := hide (HNT.out (by rw [← hS]; exact hI.1))
  have HK := hide hK
  have c6 := Boxed.cell HC.out.b6
  have f6 := Boxed.frozen HC.out.b6
  clear hI hS hK
  go_wp2
  have hK9 : (W.setCell ⟨w.heap.size + 1 + 1, 0, none⟩ (.bool true)).heap[D]? = some (.deferred (some [])) := (KeepsOthers.setCell _ _ _).same D _ HK.out rfl
  have hd9 := (HC.out.set (.bool true) HSC.out).turn (Turn.putObj (B := w4.heap.size) (.deferred none) hK9 hD rfl) (by omega)
  have q6 := Boxed.cell hd9.b6
  refine ⟨by simp, .inl ⟨_, _, rfl, run_takeDeferred hK9, ?_⟩⟩
  refine ⟨_, by simp [results, Try.results94, go_sem, q6]; rfl, ?_⟩
  exact ⟨by rw [HT.out], hd9.ext⟩
 ·intro D c pre W hD hSp hIx hK
  obtain ⟨rfl, ⟨q, hq, hqf⟩, hc9⟩ := hIx
  have HF := hide (HNF.out q (by obtain ⟨rest, hr⟩ := hSp; rw [← hr]; exact List.mem_append_left _ hq) hqf)
  have hK9 := hK
  clear hSp hq hqf hK
  go_wp2
  have hd9 := hc9.turn (Turn.putObj (B := w4.heap.size) (.deferred none) hK9 hD rfl) (by omega)
  have q6 := Boxed.cell hd9.b6
  refine ⟨by simp, .inl ⟨_, _, rfl, run_takeDeferred hK9, ?_⟩⟩
  refine ⟨_, by simp [results, Try.results94, go_sem, q6]; rfl, ?_⟩
  exact ⟨by rw [HF.out], hd9.ext⟩
end Go.Proofs.Ythcnganbnbhhoaa
