/- The walk of pad.Danger, at a sound state: there is none. A loop whose rounds leave marks of ranges that are over. -/
import Derived.Test.YthcnganbnbhhoaaKeyed
import Derived.Test.YthcnganbnbhhoaaMoveA
import Derived.Test.YthcnganbnbhhoaaLawB
import Derived.Test.YthcnganbnbhhoaaSame
import Derived.Deep.LoopGhost
namespace Go.Proofs.Ythcnganbnbhhoaa
open Go.RowKit Go.Shelf
attribute [local go_sem] Oper.semAt_some
def mark (D : Nat) : Deferred := { target := .collected D, args := #[] }
/-- A loop: the slots ds turn, and marks come. -/
theorem wp_loop_marks {P : Program} {Q : Exit → Act → World → Prop} {c : Code} {w : World} {T : Array Value} (ds : List Nat) (I : Nat → List Nat → (Nat → Value) → World → Prop) (n₀ : Nat) (Ds₀ : List Nat) (h₀ : I n₀ Ds₀ (fun d => T.getD d undef) w)
 (round : ∀ n Ds x W, I n Ds x W → ∀ J : Act → World → Prop, (∀ n' Ds' L W', n' < n → fill T (fun d => L.getD d undef) ds = L → I n' Ds' (fun d => L.getD d undef) W' → J ⟨L, Ds'.map mark⟩ W') → c.wp P (Exit.then J Q) ⟨fill T x ds, Ds.map mark⟩ W) :
 (Code.loop c).wp P Q ⟨T, Ds₀.map mark⟩ w := by
 refine wp_loop_ghost (fun n a W => ∃ Ds x, a = ⟨fill T x ds, Ds.map mark⟩ ∧ I n Ds x W) n₀ ⟨Ds₀, _, by rw [fill_self], h₀⟩ ?_
 rintro n a W ⟨Ds, x, rfl, hI⟩
 exact round n Ds x W hI _ (fun n' Ds' L W' hn hL hI' => ⟨n', hn, Ds', _, by rw [hL], hI'⟩)
theorem insertion_none (f : Value) (w : World) : Calls Try.prog 111 #[.slice none 0 0, .int .i64 0, .int .i64 0, f] w fun e w' => e = .returned unitV ∧ w = w' := by
 go_enter Try.func111, Try.ntmps111
 go_wp2_with fail
 refine wp_loop_rounds 1 ?_
 rw [rounds_succ]
 go_wp2_with fail
 refine bodyPost_end (results_none rfl _ _ _) rfl ?_
 exact ⟨rfl, rfl⟩
set_option maxRecDepth 100000 in
theorem stable_none (f : Value) (w : World) : Calls Try.prog 95 #[.slice none 0 0, .int .i64 0, f] w fun e w' => e = .returned unitV ∧ w = w' := by
 go_enter Try.func95, Try.ntmps95
 go_wp2_with fail
 refine wp_loop_rounds 1 ?_
 rw [rounds_succ]
 go_wp2_with fail
 refine (insertion_none _ _).mono ?_
 rintro e w' ⟨rfl, rfl⟩
 go_wp2_with fail
 refine wp_loop_rounds 1 ?_
 rw [rounds_succ]
 go_wp2_with fail
 refine bodyPost_end (results_none rfl _ _ _) rfl ?_
 exact ⟨rfl, rfl⟩
theorem sort_none (f : Value) (w : World) : Calls Try.prog 71 #[.slice none 0 0, f] w fun e w' => e = .returned unitV ∧ w = w' := by
 go_enter Try.func71, Try.ntmps71
 go_wp2_with fail
 refine (stable_none _ _).mono ?_
 rintro e w' ⟨rfl, rfl⟩
 go_wp2_with fail
 refine bodyPost_end (results_none rfl _ _ _) rfl ?_
 exact ⟨rfl, rfl⟩
/-- Memory in Danger. -/
structure DgW (w : World) (cs ss : Array Value) (Ds : List Nat) (W : World) : Prop where
 ext : Ext w W
 pb : Blk W w.heap.size 28 cs
 sb : Blk W (w.heap.size + 1) 38 ss
 lb : Blk W (w.heap.size + 1 + 1) 76 #[.slice none 0 0]
 ds : ∀ D ∈ Ds, w.heap.size ≤ D ∧ W.heap[D]? = some (.deferred (some []))
 nd : Ds.Nodup
section
variable {w W W' : World} {cs ss : Array Value} {Ds : List Nat}
theorem DgW.ext' (h : DgW w cs ss Ds W) (k : Ext W W') : DgW w cs ss Ds W' :=
 ⟨h.ext.trans k, h.pb.ext k, h.sb.ext k, h.lb.ext k, fun D hD => ⟨(h.ds D hD).1, by rw [Below.block k D (Array.getElem?_eq_some_iff.1 (h.ds D hD).2).1]; exact (h.ds D hD).2⟩, h.nd⟩
theorem DgW.lt (h : DgW w cs ss Ds W) : ∀ D ∈ Ds, D < W.heap.size := fun D hD => (Array.getElem?_eq_some_iff.1 (h.ds D hD).2).1
theorem DgW.turn (h : DgW w cs ss Ds W) {N : Nat} (k : Turn N W W') (hN : w.heap.size ≤ N) (hD : ∀ D ∈ Ds, D < N) : DgW w cs ss Ds W' :=
 ⟨k.below h.ext hN h.ext.size, h.pb.turn k, h.sb.turn k, h.lb.turn k, fun D hd => ⟨(h.ds D hd).1, k.block D _ (h.ds D hd).2 (.inl (hD D hd))⟩, h.nd⟩
theorem DgW.mark (h : DgW w cs ss Ds W) {D : Nat} (hw : w.heap.size ≤ D) (hD : W.heap[D]? = some (.deferred (some []))) (hn : D ∉ Ds) : DgW w cs ss (D :: Ds) W :=
 ⟨h.ext, h.pb, h.sb, h.lb, fun E hE => by
  rcases List.mem_cons.1 hE with rfl | hE
  ·exact ⟨hw, hD⟩
  ·exact h.ds E hE, List.nodup_cons.2 ⟨hn, h.nd⟩⟩
end
theorem Blk.threeD (w : World) (t t' t'' : TypeId) (cs ds es : Array Value) : Ext w (((w.alloc (.cells cs t)).alloc (.cells ds t')).alloc (.cells es t'')) ∧ Blk (((w.alloc (.cells cs t)).alloc (.cells ds t')).alloc (.cells es t'')) w.heap.size t cs ∧ Blk (((w.alloc (.cells cs t)).alloc (.cells ds t')).alloc (.cells es t'')) (w.heap.size + 1) t' ds ∧ Blk (((w.alloc (.cells cs t)).alloc (.cells ds t')).alloc (.cells es t'')) (w.heap.size + 1 + 1) t'' es := by
 refine ⟨(((Ext.refl _).alloc _).alloc _).alloc _, (Blk.new w t cs).ext (((Ext.refl _).alloc _).alloc _), ?_, ?_⟩
 ·have := (Blk.new (w.alloc (.cells cs t)) t' ds).ext ((Ext.refl _).alloc (.cells es t''))
  rwa [World.size_alloc] at this
 ·have := Blk.new ((w.alloc (.cells cs t)).alloc (.cells ds t')) t'' es
  rwa [World.size_alloc, World.size_alloc] at this
theorem DgW.setL {w W : World} {cs ss : Array Value} {Ds : List Nat} (h : DgW w cs ss Ds W) : DgW w cs ss Ds (W.setCell ⟨w.heap.size + 1 + 1, 0, none⟩ (.slice none 0 0)) :=
 ⟨h.ext.setCell (by dsimp only; omega) _, h.pb.other (by omega) 0 _, h.sb.other (by omega) 0 _, h.lb.set 0 _, fun D hD => ⟨(h.ds D hD).1, (KeepsOthers.setCell _ _ _).same D _ (h.ds D hD).2 rfl⟩, h.nd⟩
theorem DgW.new (w : World) (cs ss : Array Value) : DgW w cs ss [] (((w.alloc (.cells cs 28)).alloc (.cells ss 38)).alloc (.cells #[.slice none 0 0] 76)) := by
 obtain ⟨h1, h2, h3, h4⟩ := Blk.threeD w 28 38 76 cs ss #[.slice none 0 0]
 exact ⟨h1, h2, h3, h4, fun D hD => absurd hD (by simp), List.nodup_nil⟩
set_option maxRecDepth 100000 in
set_option maxHeartbeats 8000000 in
/-- Danger at a sound state -/
theorem danger_none {v sv : Value} {p : Pad} {s : State} {w : World} (hv : PadV w v p) (hs : StateV w sv s) (hf : s.Fits) (h0 : stateE p s = 0) :
 Calls Try.prog 33 #[v, sv] w fun e w' => e = .returned (.tuple #[.slice none 0 0, .int .i64 0]) ∧ Ext w w' := by
 have HC := hide (fun V (hx : Ext w V) => check_any v p V (hv.ext hx))
 obtain ⟨X, rfl, hX⟩ := padV_iff.1 hv
 obtain ⟨az, cz, ad, cd, ap, cp, ak, ck, aq, cq⟩ := X
 obtain ⟨A1, c1, A2, c2, A3, c3, rfl, h1, h2, h3⟩ := stateV_rows.1 hs
 have HST := hide (fun V (hx : Ext w V) => stage_any ⟨az, cz, ad, cd, ap, cp, ak, ck, aq, cq⟩ p s A1 A2 A3 c1 c2 c3 V (hX.ext hx) (h1.ext hx) (h2.ext hx) (h3.ext hx) hf.1 hf.2.1 hf.2.2)
 unfold PadX.cells at HC HST ⊢
 dsimp only at HC HST ⊢
 obtain ⟨hpe, hso, hsd⟩ := stateE_t.1 h0
 have HPO := hide (padOk_of hpe)
 have HSO := hide hso
 have HSD := hide hsd
 have HFB := hide (stateOk_iff.2 hso)
 have HXX := hide hX
 have HI1 := hide h1
 have HI3 := hide h3
 have n3 := h1.rows.2.2.1
 have m3 := h1.rows.2.1
 have n4 := h3.rows.2.2.1
 have m4 := h3.rows.2.1
 rw [hpe] at HC
 obtain ⟨E1, hE1⟩ : ∃ E, (padE p).1 = E := ⟨_, rfl⟩
 obtain ⟨E2, hE2⟩ : ∃ E, (padE p).2.1 = E := ⟨_, rfl⟩
 rw [hE1, hE2] at HC
 clear hv hX hs h1 h2 h3 hf h0 hpe hso hsd hE1 hE2
 refine callsIn_wide.1 (callsIn_of_wp_marks (n := 0) Try.func33 rfl trivial ?_ rfl)
 simp only [Try.ntmps33, List.size_toArray, List.length_cons, List.length_nil, Nat.reduceAdd, Nat.reduceSub, Array.replicate_succ, Array.replicate_zero, List.push_toArray, List.append_toArray, List.nil_append, List.cons_append]
 refine wpIn_wide.2 ?_
 go_wp2_with fail
 have HBOX := hide (DgW.new w #[.slice az p.zones.length cz, .slice ad p.doors.length cd, .slice ap p.people.length cp, .slice ak p.keys.length ck, .slice aq p.squibs.length cq, .int .i64 p.panel, .int .i64 p.wait] #[.int .i64 s.now, .slice A1 s.zones.length c1, .slice A2 s.holder.length c2, .slice A3 s.squibs.length c3, .int .i64 s.siren, .bool s.storm])
 obtain ⟨W1, hW1⟩ : ∃ V, ((w.alloc (.cells #[.slice az p.zones.length cz, .slice ad p.doors.length cd, .slice ap p.people.length cp, .slice ak p.keys.length ck, .slice aq p.squibs.length cq, .int .i64 p.panel, .int .i64 p.wait] 28)).alloc (.cells #[.int .i64 s.now, .slice A1 s.zones.length c1, .slice A2 s.holder.length c2, .slice A3 s.squibs.length c3, .int .i64 s.siren, .bool s.storm] 38)).alloc (.cells #[.slice none 0 0] 76) = V := ⟨_, rfl⟩
 rw [hW1] at HBOX ⊢
 clear hW1
 refine Calls.mono (HC.out W1 HBOX.out.ext) ?_
 rintro e w2 ⟨rfl, hx⟩
 have HD2 := hide (HBOX.out.ext' hx)
 clear hx HC HBOX
 have p0 := cell_heap HD2.out.pb 0 _ rfl
 have p1 := cell_heap HD2.out.pb 1 _ rfl
 have p2 := cell_heap HD2.out.pb 2 _ rfl
 have p3 := cell_heap HD2.out.pb 3 _ rfl
 have p4 := cell_heap HD2.out.pb 4 _ rfl
 have p5 := cell_heap HD2.out.pb 5 _ rfl
 have p6 := cell_heap HD2.out.pb 6 _ rfl
 have s0 := cell_heap HD2.out.sb 0 _ rfl
 have s1 := cell_heap HD2.out.sb 1 _ rfl
 have s2 := cell_heap HD2.out.sb 2 _ rfl
 have s3 := cell_heap HD2.out.sb 3 _ rfl
 have s4 := cell_heap HD2.out.sb 4 _ rfl
 have s5 := cell_heap HD2.out.sb 5 _ rfl
 go_wp2_with fail
 refine Calls.mono (HST.out w2 HD2.out.ext) ?_
 rintro e w3 ⟨B, Y, rfl, hS⟩
 have HD3 := hide (HD2.out.ext' hS.ext)
 have HSC := hide hS.at
 clear hS HST HD2 p0 p1 p2 p3 p4 p5 p6 s0 s1 s2 s3 s4 s5
 go_wp2_with fail
 refine (formed_any B Y p s w3 HSC.out).mono ?_
 rintro e w4 ⟨rfl, hx⟩
 rw [HFB.out]
 have HD := hide (HD3.out.ext' hx)
 clear hx HD3 HSC HFB
 have s1 := cell_heap HD.out.sb 1 _ rfl
 go_wp2_with fail
 clear s1
 refine wp_loop_marks [6, 7, 26, 27, 28, 29, 30, 31, 32, 33, 47] (fun n Ds x W => ∃ k : Nat, k + n = s.zones.length ∧ x 26 = .int .i64 k ∧ DgW w #[.slice az p.zones.length cz, .slice ad p.doors.length cd, .slice ap p.people.length cp, .slice ak p.keys.length ck, .slice aq p.squibs.length cq, .int .i64 p.panel, .int .i64 p.wait] #[.int .i64 s.now, .slice A1 s.zones.length c1, .slice A2 s.holder.length c2, .slice A3 s.squibs.length c3, .int .i64 s.siren, .bool s.storm] Ds W) s.zones.length [] ⟨0, by omega, rfl, HD.out⟩ ?_
 intro n Ds x W hI J HJ
 obtain ⟨k, hkn, h26, hw⟩ := hI
 have HJJ := hide HJ
 have HW := hide hw
 simp only [fill, List.setIfInBounds_toArray, List.set_cons_succ, List.set_cons_zero]
 rw [h26]
 clear HJ hw h26 HD
 by_cases h7 : k < s.zones.length
 ·obtain ⟨bz, oz, zi, rfl, hltz, hci, HVZ⟩ := ints_at ((HI1.out.ext HW.out.ext).rows.2.2.2) h7
  have hzi : zi < p.zones.length := by have := (HSO.out.z k h7).2; rw [HVZ.out] at this; exact this
  have p0 := cell_heap HW.out.pb 0 _ rfl
  have p1 := cell_heap HW.out.pb 1 _ rfl
  have p2 := cell_heap HW.out.pb 2 _ rfl
  have p3 := cell_heap HW.out.pb 3 _ rfl
  have p4 := cell_heap HW.out.pb 4 _ rfl
  have p5 := cell_heap HW.out.pb 5 _ rfl
  have p6 := cell_heap HW.out.pb 6 _ rfl
  have s0 := cell_heap HW.out.sb 0 _ rfl
  have s1 := cell_heap HW.out.sb 1 _ rfl
  have s2 := cell_heap HW.out.sb 2 _ rfl
  have s3 := cell_heap HW.out.sb 3 _ rfl
  have s4 := cell_heap HW.out.sb 4 _ rfl
  have s5 := cell_heap HW.out.sb 5 _ rfl
  have hlp := HW.out.pb.lt
  go_wp2_with fail
  obtain ⟨W5, hW5⟩ : ∃ V, W.alloc (.cells #[.int .i64 ((k : Nat) : Int)] 3) = V := ⟨_, rfl⟩
  have hx5 : Ext W W5 := by rw [← hW5]; exact (Ext.refl _).alloc _
  have HW5 := hide (HW.out.ext' hx5)
  rw [hW5]
  clear hW5 hx5 p0 p1 p2 p3 p4 p5 p6 s0 s1 s2 s3 s4 s5 hci hlp
  refine (near_any az ad ap ak aq p.zones.length p.doors.length p.people.length p.keys.length p.squibs.length cz cd cp ck cq p.panel p.wait zi W5).mono ?_
  rintro e w6 ⟨zb, pb, rfl, hx6, z1, z2, z3⟩
  have HW6 := hide (HW5.out.ext' hx6)
  have HSEQ := hide (near_seq p.zones p.squibs zi zb pb (.slice az p.zones.length cz) aq cq w6 hzi HPO.out.zin HPO.out.qin
   (fun q hq => by obtain ⟨A, c, h, _⟩ := (HXX.out.ext HW6.out.ext).kv q hq; exact ⟨A, c, h⟩) z1 z2 z3 (HXX.out.ext HW6.out.ext).z (HXX.out.ext HW6.out.ext).q)
  have HRQ := hide (rows_lt (HXX.out.ext HW6.out.ext).q)
  clear hx6 z1 z2 z3
  go_wp2_with fail
  refine range_ok (gf := 78) (encs := idxEnc) rfl (enters_of Try.func78 (by kernel_rfl) rfl) HSEQ.out
   (by intro k hk; rcases hk with ⟨h0, ho⟩ | h2
       ·have := HRQ.out k h0 ho; omega
       ·omega) (fun _ => rfl)
   (fun pre W => DgW w _ _ Ds W) (fun c pre W => False)
   (fun s A B h k => h.turn k HW6.out.ext.size (fun D hD => HW6.out.lt D hD)) (fun c s A B h k => h.elim) HW6.out ?_ ?_ (fun D c pre W _ _ h _ => h.elim)
  ·intro y pre q W0 W7 hszW hsp hI hx0 hokk
   simp only [idxEnc]
   gi_wp2
   refine ⟨KeepsFrom.refl _ _, fun k hk => rfl, fun W2 hT => ?_⟩
   have HW7 := hide ((hI.ext' hx0).turn hT HW6.out.ext.size (fun D hD => HW6.out.lt D hD))
   have hqn : q ∈ nears p.zones p.squibs zi := by obtain ⟨rest, hr⟩ := hsp; rw [← hr]; simp
   have hqs : q < s.squibs.length := by have := HSO.out.lq; have := nears_lt hqn; omega
   have hq1 := sound_far HSD.out HSO.out.lq h7 (q := q) (by rw [HVZ.out]; exact hqn)
   obtain ⟨bq, oq, u, hA3, hltq, hcq, HVQ⟩ := ints_at ((HI3.out.ext HW7.out.ext).rows.2.2.2) hqs
   have hd : (u == 1) = false := by rw [HVQ.out] at hq1; simpa using hq1
   have s3 := cell_heap HW7.out.sb 3 _ rfl
   subst hA3
   clear hI hx0 hokk hsp hT hqn hq1
   gi_wp2
   exact ⟨KeepsFrom.refl _ _, fun k hk => rfl, HW7.out⟩
  ·intro D xs W7 hD hS hI hK
   have HW7 := hide (hI.mark (Nat.le_trans HW6.out.ext.size hD) hK (fun hm => by have := HW6.out.lt D hm; omega))
   clear hI hK hS
   go_wp2_with fail
   refine HJJ.out (n - 1) (D :: Ds) _ W7 (by omega) ?_ ⟨k + 1, by omega, ?_, HW7.out⟩
   ·simp only [fill, List.setIfInBounds_toArray, List.set_cons_succ, List.set_cons_zero]
    rfl
   ·show Value.int .i64 ((k : Int) + 1) = _
    go_num
 ·obtain rfl : k = s.zones.length := by omega
  have l0 := cell_heap HW.out.lb 0 _ rfl
  have f0 := HW.out.lb.frozen 0
  go_wp2_with fail
  refine (sort_none _ _).mono ?_
  rintro e w7 ⟨rfl, rfl⟩
  go_wp2_with fail
  refine leaves_marks (N := w.heap.size) (by simp) Ds _ HW.out.setL.nd (fun D hD => HW.out.setL.ds D hD) fun W' hT => ?_
  have q6 := cell_heap (HW.out.setL.lb.turn hT) 0 _ rfl
  refine ⟨_, by simp [results, Try.results33, go_sem, q6]; rfl, ?_⟩
  exact ⟨rfl, hT.below HW.out.setL.ext (Nat.le_refl _) HW.out.setL.ext.size⟩
end Go.Proofs.Ythcnganbnbhhoaa
