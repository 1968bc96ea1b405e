/- The walk of Play. -/
import Derived.Test.YthcnganbnbhhoaaPlayA
import Derived.Deep.Cut
namespace Go.Proofs.Ythcnganbnbhhoaa
open Go.RowKit Go.Shelf
set_option maxRecDepth 100000 in
set_option maxHeartbeats 8000000 in
/-- Play -/
theorem play_any (v sv lv : Value) (p : Pad) (s : State) (l : List PAct) (w : World) (hv : PadV w v p) (hs : StateV w sv s) (hl : ListV 5 PAct.cell w lv l) (hf : s.Fits) :
 Calls Try.prog 24 #[v, sv, lv] w (PlayQ w p s l) := by
 have HCS := hide (fun V (hx : Ext w V) => checkState_any v sv p s V (hv.ext hx) (hs.ext hx) hf)
 have HDO := hide (fun V (hx : Ext w V) (u : Value) (x : State) (a : PAct) hu hok hst ha => do_any v u p x a V (hv.ext hx) hu hok hst ha)
 obtain ⟨X, hvX, hX⟩ := padV_iff.1 hv
 have HACT := hide (fun V (hx : Ext w V) (a : PAct) => act_any X p a V (hX.ext hx))
 subst hvX
 obtain ⟨A1, c1, A2, c2, A3, c3, rfl, h1, h2, h3⟩ := stateV_iff.1 hs
 have HSTG := hide (fun V (hx : Ext w V) => stage_any X p s A1 A2 A3 c1 c2 c3 V (hX.ext hx) (h1.ext hx) (h2.ext hx) (h3.ext hx) hf.1 hf.2.1 hf.2.2)
 obtain ⟨az, cz, ad, cd, ap, cp, ak, ck, aq, cq⟩ := X
 have HL := hide hl
 obtain ⟨Al, cl, rfl, hcl, hml, _⟩ := hl
 simp only [maxLen] at hml
 unfold PadX.cells at HCS HDO HSTG ⊢
 dsimp only at HCS HDO HACT HSTG ⊢
 obtain ⟨E, hE⟩ : ∃ E, stateE p s = E := ⟨_, rfl⟩
 have HE := hide hE
 rw [hE] at HCS
 clear hv hs hf hX h1 h2 h3 hE
 go_enter Try.func24, Try.ntmps24
 go_wp2_with fail
 have HW := hide (PlW.new w #[.slice az p.zones.length cz, .slice ad p.doors.length cd, .slice ap p.people.length cp, .slice ak p.keys.length ck, .slice aq p.squibs.length cq, .int .i64 p.panel, .int .i64 p.wait] #[.int .i64 s.now, .slice A1 s.zones.length c1, .slice A2 s.holder.length c2, .slice A3 s.squibs.length c3, .int .i64 s.siren, .bool s.storm] #[.int .i64 0, .slice none 0 0, .slice none 0 0, .slice none 0 0, .int .i64 0, .bool false])
 obtain ⟨W1, hW1⟩ : ∃ V, ((w.alloc (.cells #[.slice az p.zones.length cz, .slice ad p.doors.length cd, .slice ap p.people.length cp, .slice ak p.keys.length ck, .slice aq p.squibs.length cq, .int .i64 p.panel, .int .i64 p.wait] 28)).alloc (.cells #[.int .i64 s.now, .slice A1 s.zones.length c1, .slice A2 s.holder.length c2, .slice A3 s.squibs.length c3, .int .i64 s.siren, .bool s.storm] 38)).alloc (.cells #[.int .i64 0, .slice none 0 0, .slice none 0 0, .slice none 0 0, .int .i64 0, .bool false] 38) = V := ⟨_, rfl⟩
 rw [hW1] at HW ⊢
 clear hW1
 refine Calls.mono (HCS.out W1 HW.out.ext) ?_
 rintro e w2 ⟨rfl, hx⟩
 replace HW := hide (HW.out.ext' hx)
 clear hx HCS
 by_cases e0 : E = 0
 ·subst e0
  by_cases n60 : 60 < l.length
  ·have hd : decide ((60 : Int) < (l.length : Int)) = true := decide_eq_true (by omega)
   have HR := hide (show playE p s l = 3 by unfold playE; rw [if_neg (fun h => h HE.out), if_pos n60])
   have HNZ := hide (show (3 : Int) ≠ 0 by decide)
   clear n60
   have p0 := cell_heap HW.out.pb 0 _ rfl
   have p1 := cell_heap HW.out.pb 1 _ rfl
   have p2 := cell_heap HW.out.pb 2 _ rfl
   have p3 := cell_heap HW.out.pb 3 _ rfl
   have p4 := cell_heap HW.out.pb 4 _ rfl
   have p5 := cell_heap HW.out.pb 5 _ rfl
   have p6 := cell_heap HW.out.pb 6 _ rfl
   have s0 := cell_heap HW.out.sb 0 _ rfl
   have s1 := cell_heap HW.out.sb 1 _ rfl
   have s2 := cell_heap HW.out.sb 2 _ rfl
   have s3 := cell_heap HW.out.sb 3 _ rfl
   have s4 := cell_heap HW.out.sb 4 _ rfl
   have s5 := cell_heap HW.out.sb 5 _ rfl
   have b0 := cell_heap HW.out.ab 0 _ rfl
   have g0 := HW.out.ab.frozen 0
   have b1 := cell_heap HW.out.ab 1 _ rfl
   have g1 := HW.out.ab.frozen 1
   have b2 := cell_heap HW.out.ab 2 _ rfl
   have g2 := HW.out.ab.frozen 2
   have b3 := cell_heap HW.out.ab 3 _ rfl
   have g3 := HW.out.ab.frozen 3
   have b4 := cell_heap HW.out.ab 4 _ rfl
   have g4 := HW.out.ab.frozen 4
   have b5 := cell_heap HW.out.ab 5 _ rfl
   have g5 := HW.out.ab.frozen 5
   go_wp2_with fail
   obtain ⟨V6, hV6⟩ : ∃ V, ((((((w2.setCell ⟨w.heap.size + 1 + 1, 0, none⟩ (.int .i64 0)).setCell ⟨w.heap.size + 1 + 1, 1, none⟩ (.slice none 0 0)).setCell ⟨w.heap.size + 1 + 1, 2, none⟩ (.slice none 0 0)).setCell ⟨w.heap.size + 1 + 1, 3, none⟩ (.slice none 0 0)).setCell ⟨w.heap.size + 1 + 1, 4, none⟩ (.int .i64 0)).setCell ⟨w.heap.size + 1 + 1, 5, none⟩ (.bool false)) = V := ⟨_, rfl⟩
   rw [hV6]
   replace HW := hide (show PlW w #[.slice az p.zones.length cz, .slice ad p.doors.length cd, .slice ap p.people.length cp, .slice ak p.keys.length ck, .slice aq p.squibs.length cq, .int .i64 p.panel, .int .i64 p.wait] #[.int .i64 s.now, .slice A1 s.zones.length c1, .slice A2 s.holder.length c2, .slice A3 s.squibs.length c3, .int .i64 s.siren, .bool s.storm] V6 #[.int .i64 0, .slice none 0 0, .slice none 0 0, .slice none 0 0, .int .i64 0, .bool false] from by rw [← hV6]; exact (((((HW.out.set 0 (.int .i64 0)).set 1 (.slice none 0 0)).set 2 (.slice none 0 0)).set 3 (.slice none 0 0)).set 4 (.int .i64 0)).set 5 (.bool false))
   clear hV6 p0 p1 p2 p3 p4 p5 p6 s0 s1 s2 s3 s4 s5 b0 g0 b1 g1 b2 g2 b3 g3 b4 g4 b5 g5
   have b0 := cell_heap HW.out.ab 0 _ rfl
   have b1 := cell_heap HW.out.ab 1 _ rfl
   have b2 := cell_heap HW.out.ab 2 _ rfl
   have b3 := cell_heap HW.out.ab 3 _ rfl
   have b4 := cell_heap HW.out.ab 4 _ rfl
   have b5 := cell_heap HW.out.ab 5 _ rfl
   refine bodyPost_ret (v := .tuple #[.agg #[.int .i64 0, .slice none 0 0, .slice none 0 0, .slice none 0 0, .int .i64 0, .bool false], .slice none 0 0, .int .i64 3]) (by simp [results, Try.results24, go_sem, b0, b1, b2, b3, b4, b5]) rfl ?_
   exact play_no HR.out HNZ.out HW.out.ext
  ·have hd : decide ((60 : Int) < (l.length : Int)) = false := decide_eq_false (by omega)
   have HR0 := hide (show playE p s l = actsE p l by unfold playE; rw [if_neg (fun h => h HE.out), if_neg n60])
   obtain ⟨hok, hst, hso⟩ := stateE_ok HE.out
   have HOK := hide hok
   have HST := hide hst
   have hn60 : l.length ≤ 60 := by omega
   clear hok hst hso n60
   go_wp2_with fail
   go_loopw [28, 7, 8] (fun v28 v7 v8 wr => Hid (PlW w #[.slice az p.zones.length cz, .slice ad p.doors.length cd, .slice ap p.people.length cp, .slice ak p.keys.length ck, .slice aq p.squibs.length cq, .int .i64 p.panel, .int .i64 p.wait] #[.int .i64 s.now, .slice A1 s.zones.length c1, .slice A2 s.holder.length c2, .slice A3 s.squibs.length c3, .int .i64 s.siren, .bool s.storm] wr #[.int .i64 0, .slice none 0 0, .slice none 0 0, .slice none 0 0, .int .i64 0, .bool false]) ∧ v7 = .slice none 0 0 ∧ v8 = .int .i64 0 ∧ ∃ k : Nat, k ≤ l.length ∧ v28 = .int .i64 k ∧ Hid (∀ j, j < k → actE p (l.getD j default) = 0)) (fun v28 _ _ _ => l.length - (intOf v28).toNat)
   case atStart => exact ⟨HW, rfl, rfl, 0, by omega, rfl, hide (fun j hj => absurd hj (by omega))⟩
   case round =>
    clear HW
    obtain ⟨HW, rfl, rfl, k, hk, rfl, HA0⟩ := hrel
    by_cases h8 : k < l.length
    ·obtain ⟨b9, o9, hA, hb9, hc0⟩ := ListV.at ((HL.out.ext HW.out.ext).rows.2.2.2) h8
     have a0 := hc0 0 (by omega)
     have a1 := hc0 1 (by omega)
     have a2 := hc0 2 (by omega)
     have a3 := hc0 3 (by omega)
     have a4 := hc0 4 (by omega)
     obtain ⟨a, ha⟩ : ∃ a, l.getD k default = a := ⟨_, rfl⟩
     have HAK := hide ha
     rw [ha] at a0 a1 a2 a3 a4
     obtain ⟨t, kk, who, wt, wh⟩ := a
     simp only [PAct.cell, Nat.add_zero] at a0 a1 a2 a3 a4
     subst hA
     clear hc0 ha
     have p0 := cell_heap HW.out.pb 0 _ rfl
     have p1 := cell_heap HW.out.pb 1 _ rfl
     have p2 := cell_heap HW.out.pb 2 _ rfl
     have p3 := cell_heap HW.out.pb 3 _ rfl
     have p4 := cell_heap HW.out.pb 4 _ rfl
     have p5 := cell_heap HW.out.pb 5 _ rfl
     have p6 := cell_heap HW.out.pb 6 _ rfl
     have hpl := HW.out.pb.lt
     go_wp2_with fail
     obtain ⟨W3, hW3⟩ : ∃ V, wr.alloc (.cells #[.int .i64 t, .int .i64 kk, .int .i64 who, .int .i64 wt, .int .i64 wh] 48) = V := ⟨_, rfl⟩
     have hx3 : Ext wr W3 := by rw [← hW3]; exact (Ext.refl _).alloc _
     rw [hW3]
     replace HW := hide (HW.out.ext' hx3)
     clear hW3 hx3 hpl a0 a1 a2 a3 a4 p0 p1 p2 p3 p4 p5 p6
     obtain ⟨F, hF⟩ : ∃ F, actE p ⟨t, kk, who, wt, wh⟩ = F := ⟨_, rfl⟩
     have HC := hide (HACT.out W3 HW.out.ext ⟨t, kk, who, wt, wh⟩)
     dsimp only at HC
     rw [hF] at HC
     have HF := hide hF
     clear hF
     refine Calls.mono HC.out ?_
     rintro e w4 ⟨rfl, hx⟩
     replace HW := hide (HW.out.ext' hx)
     clear hx HC
     by_cases f0 : F = 0
     ·subst f0
      go_wp2_with fail
      go_roundw
      case rel => exact ⟨HW, rfl, rfl, k + 1, by omega, by go_num, hide (fun j hj => by
       by_cases hjk : j = k
       ·rw [hjk, HAK.out, HF.out]
       ·exact HA0.out j (by omega))⟩
      case measure => simp [intOf]; omega
     ·have hne : (F != 0) = true := by simpa using f0
      have HR := hide (show playE p s l = F by rw [HR0.out, actsE_first HA0.out h8 (by rw [HAK.out, HF.out]; exact f0), HAK.out, HF.out])
      have HNZ := hide f0
      clear f0
      have p0 := cell_heap HW.out.pb 0 _ rfl
      have p1 := cell_heap HW.out.pb 1 _ rfl
      have p2 := cell_heap HW.out.pb 2 _ rfl
      have p3 := cell_heap HW.out.pb 3 _ rfl
      have p4 := cell_heap HW.out.pb 4 _ rfl
      have p5 := cell_heap HW.out.pb 5 _ rfl
      have p6 := cell_heap HW.out.pb 6 _ rfl
      have s0 := cell_heap HW.out.sb 0 _ rfl
      have s1 := cell_heap HW.out.sb 1 _ rfl
      have s2 := cell_heap HW.out.sb 2 _ rfl
      have s3 := cell_heap HW.out.sb 3 _ rfl
      have s4 := cell_heap HW.out.sb 4 _ rfl
      have s5 := cell_heap HW.out.sb 5 _ rfl
      have b0 := cell_heap HW.out.ab 0 _ rfl
      have g0 := HW.out.ab.frozen 0
      have b1 := cell_heap HW.out.ab 1 _ rfl
      have g1 := HW.out.ab.frozen 1
      have b2 := cell_heap HW.out.ab 2 _ rfl
      have g2 := HW.out.ab.frozen 2
      have b3 := cell_heap HW.out.ab 3 _ rfl
      have g3 := HW.out.ab.frozen 3
      have b4 := cell_heap HW.out.ab 4 _ rfl
      have g4 := HW.out.ab.frozen 4
      have b5 := cell_heap HW.out.ab 5 _ rfl
      have g5 := HW.out.ab.frozen 5
      go_wp2_with fail
      obtain ⟨V6, hV6⟩ : ∃ V, ((((((w4.setCell ⟨w.heap.size + 1 + 1, 0, none⟩ (.int .i64 0)).setCell ⟨w.heap.size + 1 + 1, 1, none⟩ (.slice none 0 0)).setCell ⟨w.heap.size + 1 + 1, 2, none⟩ (.slice none 0 0)).setCell ⟨w.heap.size + 1 + 1, 3, none⟩ (.slice none 0 0)).setCell ⟨w.heap.size + 1 + 1, 4, none⟩ (.int .i64 0)).setCell ⟨w.heap.size + 1 + 1, 5, none⟩ (.bool false)) = V := ⟨_, rfl⟩
      rw [hV6]
      replace HW := hide (show PlW w #[.slice az p.zones.length cz, .slice ad p.doors.length cd, .slice ap p.people.length cp, .slice ak p.keys.length ck, .slice aq p.squibs.length cq, .int .i64 p.panel, .int .i64 p.wait] #[.int .i64 s.now, .slice A1 s.zones.length c1, .slice A2 s.holder.length c2, .slice A3 s.squibs.length c3, .int .i64 s.siren, .bool s.storm] V6 #[.int .i64 0, .slice none 0 0, .slice none 0 0, .slice none 0 0, .int .i64 0, .bool false] from by rw [← hV6]; exact (((((HW.out.set 0 (.int .i64 0)).set 1 (.slice none 0 0)).set 2 (.slice none 0 0)).set 3 (.slice none 0 0)).set 4 (.int .i64 0)).set 5 (.bool false))
      clear hV6 p0 p1 p2 p3 p4 p5 p6 s0 s1 s2 s3 s4 s5 b0 g0 b1 g1 b2 g2 b3 g3 b4 g4 b5 g5
      have b0 := cell_heap HW.out.ab 0 _ rfl
      have b1 := cell_heap HW.out.ab 1 _ rfl
      have b2 := cell_heap HW.out.ab 2 _ rfl
      have b3 := cell_heap HW.out.ab 3 _ rfl
      have b4 := cell_heap HW.out.ab 4 _ rfl
      have b5 := cell_heap HW.out.ab 5 _ rfl
      refine bodyPost_ret (v := .tuple #[.agg #[.int .i64 0, .slice none 0 0, .slice none 0 0, .slice none 0 0, .int .i64 0, .bool false], .slice none 0 0, .int .i64 F]) (by simp [results, Try.results24, go_sem, b0, b1, b2, b3, b4, b5]) rfl ?_
      exact play_no HR.out HNZ.out HW.out.ext
    ·obtain rfl : k = l.length := by omega
     have HR := hide (show playE p s l = 0 by rw [HR0.out]; exact actsE_none HA0.out)
     have HAS := hide (acts_ok (show actsE p l = 0 from actsE_none HA0.out))
     clear HA0 h8 hk
     have p0 := cell_heap HW.out.pb 0 _ rfl
     have p1 := cell_heap HW.out.pb 1 _ rfl
     have p2 := cell_heap HW.out.pb 2 _ rfl
     have p3 := cell_heap HW.out.pb 3 _ rfl
     have p4 := cell_heap HW.out.pb 4 _ rfl
     have p5 := cell_heap HW.out.pb 5 _ rfl
     have p6 := cell_heap HW.out.pb 6 _ rfl
     have s0 := cell_heap HW.out.sb 0 _ rfl
     have s1 := cell_heap HW.out.sb 1 _ rfl
     have s2 := cell_heap HW.out.sb 2 _ rfl
     have s3 := cell_heap HW.out.sb 3 _ rfl
     have s4 := cell_heap HW.out.sb 4 _ rfl
     have s5 := cell_heap HW.out.sb 5 _ rfl
     go_wp2_with fail
     refine Calls.mono (HSTG.out wr HW.out.ext) ?_
     rintro e w3 ⟨B, ⟨YP, sz, zc, sh, hc, sq, qc⟩, rfl, hS⟩
     have HS := hide hS
     have HWB := hide HW.out.ab.lt
     replace HW := hide (HW.out.ext' hS.ext)
     clear hS HSTG p0 p1 p2 p3 p4 p5 p6 s0 s1 s2 s3 s4 s5
     have HKS := hide (show Ext w3 w3 from Ext.refl _)
     have k7 := HS.out.at.k7
     have k8 := HS.out.at.k8
     have k9 := HS.out.at.k9
     have k10 := HS.out.at.k10
     have k11 := HS.out.at.k11
     have k12 := HS.out.at.k12
     try dsimp only at k7 k8 k9 k10 k11 k12
     have b0 := cell_heap HW.out.ab 0 _ rfl
     have g0 := HW.out.ab.frozen 0
     have b1 := cell_heap HW.out.ab 1 _ rfl
     have g1 := HW.out.ab.frozen 1
     have b2 := cell_heap HW.out.ab 2 _ rfl
     have g2 := HW.out.ab.frozen 2
     have b3 := cell_heap HW.out.ab 3 _ rfl
     have g3 := HW.out.ab.frozen 3
     have b4 := cell_heap HW.out.ab 4 _ rfl
     have g4 := HW.out.ab.frozen 4
     have b5 := cell_heap HW.out.ab 5 _ rfl
     have g5 := HW.out.ab.frozen 5
     go_wp2_with fail
     obtain ⟨V6, hV6⟩ : ∃ V, ((((((w3.setCell ⟨w.heap.size + 1 + 1, 0, none⟩ (.int .i64 s.now)).setCell ⟨w.heap.size + 1 + 1, 1, none⟩ (.slice sz s.zones.length zc)).setCell ⟨w.heap.size + 1 + 1, 2, none⟩ (.slice sh s.holder.length hc)).setCell ⟨w.heap.size + 1 + 1, 3, none⟩ (.slice sq s.squibs.length qc)).setCell ⟨w.heap.size + 1 + 1, 4, none⟩ (.int .i64 s.siren)).setCell ⟨w.heap.size + 1 + 1, 5, none⟩ (.bool s.storm)) = V := ⟨_, rfl⟩
     rw [hV6]
     replace HW := hide (show PlW w #[.slice az p.zones.length cz, .slice ad p.doors.length cd, .slice ap p.people.length cp, .slice ak p.keys.length ck, .slice aq p.squibs.length cq, .int .i64 p.panel, .int .i64 p.wait] #[.int .i64 s.now, .slice A1 s.zones.length c1, .slice A2 s.holder.length c2, .slice A3 s.squibs.length c3, .int .i64 s.siren, .bool s.storm] V6 #[.int .i64 s.now, .slice sz s.zones.length zc, .slice sh s.holder.length hc, .slice sq s.squibs.length qc, .int .i64 s.siren, .bool s.storm] from by rw [← hV6]; exact (((((HW.out.set 0 (.int .i64 s.now)).set 1 (.slice sz s.zones.length zc)).set 2 (.slice sh s.holder.length hc)).set 3 (.slice sq s.squibs.length qc)).set 4 (.int .i64 s.siren)).set 5 (.bool s.storm))
     have HSO := hide (show StateO V6 (w.heap.size + 1 + 1 + 1) (.agg #[.int .i64 s.now, .slice sz s.zones.length zc, .slice sh s.holder.length hc, .slice sq s.squibs.length qc, .int .i64 s.siren, .bool s.storm]) s from by
      have h0 : StateO w3 wr.heap.size (.agg #[.int .i64 s.now, .slice sz s.zones.length zc, .slice sh s.holder.length hc, .slice sq s.squibs.length qc, .int .i64 s.siren, .bool s.storm]) s := ⟨_, _, _, _, _, _, rfl, HS.out.z, HS.out.h, HS.out.q⟩
      rw [← hV6]
      exact (((((((h0.set HWB.out 0 _).set HWB.out 1 _).set HWB.out 2 _).set HWB.out 3 _).set HWB.out 4 _).set HWB.out 5 _).mono HWB.out))
     clear hV6 k7 k8 k9 k10 k11 k12 b0 g0 b1 g1 b2 g2 b3 g3 b4 g4 b5 g5 HKS
     have HEX0 := hide (show PlEx w #[.slice az p.zones.length cz, .slice ad p.doors.length cd, .slice ap p.people.length cp, .slice ak p.keys.length ck, .slice aq p.squibs.length cq, .int .i64 p.panel, .int .i64 p.wait] #[.int .i64 s.now, .slice A1 s.zones.length c1, .slice A2 s.holder.length c2, .slice A3 s.squibs.length c3, .int .i64 s.siren, .bool s.storm] p s l 0 (.slice none 0 0) V6 from by
      obtain ⟨_, _, _, _, _, _, he, i1, i2, i3⟩ := HSO.out
      simp only [Value.agg.injEq, Array.mk.injEq, List.cons.injEq, Value.slice.injEq, and_true, true_and] at he
      obtain ⟨⟨rfl, rfl⟩, ⟨rfl, rfl⟩, ⟨rfl, rfl⟩⟩ := he
      exact ⟨sz, sh, sq, zc, hc, qc, HW.out, i1, i2, i3, Own.nil _ _ _ _, fun g _ e => by simp [Value.ownBlock] at e⟩)
     obtain ⟨iI, hiI, hzI0, hzI1, hzI2⟩ := info_parts infoErr
     have hI := hide hiI
     have hI0 := hide hzI0
     have hI1 := hide hzI1
     have hI2 := hide hzI2
     clear HW HSO HS HWB hiI hzI0 hzI1 hzI2
     go_loopw [48, 7] (fun v48 v7 wr => ∃ k : Nat, k ≤ l.length ∧ v48 = .int .i64 k ∧ Hid (PlEx w #[.slice az p.zones.length cz, .slice ad p.doors.length cd, .slice ap p.people.length cp, .slice ak p.keys.length ck, .slice aq p.squibs.length cq, .int .i64 p.panel, .int .i64 p.wait] #[.int .i64 s.now, .slice A1 s.zones.length c1, .slice A2 s.holder.length c2, .slice A3 s.squibs.length c3, .int .i64 s.siren, .bool s.storm] p s l k v7 wr)) (fun v48 _ _ => l.length - (intOf v48).toNat)
     case atStart => exact ⟨0, by omega, rfl, HEX0⟩
     case round =>
      clear HEX0
      obtain ⟨k, hk, rfl, HEX⟩ := hrel
      by_cases h8 : k < l.length
      ·obtain ⟨C1, C2, C3, e1, e2, e3, HPR⟩ := HEX.out
       replace HPR := hide HPR
       have hx0 := hide (show StateOk p (runS p s (l.take k)) from run_ok HST.out (fun a ha => HAS.out a (List.mem_of_mem_take ha)))
       have hRS := hide (runS_take (p := p) (s := s) h8)
       have hRE := hide (runE_take (p := p) (s := s) h8)
       have hAO := hide (HAS.out (l.getD k default) (getD_in default h8))
       obtain ⟨b9, o9, hA, hb9, hc0⟩ := ListV.at ((HL.out.ext HPR.out.pw.ext).rows.2.2.2) h8
       have a0 := hc0 0 (by omega)
       have a1 := hc0 1 (by omega)
       have a2 := hc0 2 (by omega)
       have a3 := hc0 3 (by omega)
       have a4 := hc0 4 (by omega)
       obtain ⟨a, ha⟩ : ∃ a, l.getD k default = a := ⟨_, rfl⟩
       rw [ha] at a0 a1 a2 a3 a4 hRS hRE hAO
       obtain ⟨t, kk, who, wt, wh⟩ := a
       simp only [PAct.cell, Nat.add_zero] at a0 a1 a2 a3 a4
       obtain ⟨x, hx⟩ : ∃ x, runS p s (l.take k) = x := ⟨_, rfl⟩
       obtain ⟨es, hes⟩ : ∃ x, runE p s (l.take k) = x := ⟨_, rfl⟩
       rw [hx] at HPR hx0 hRS hRE
       rw [hes] at HPR hRE
       subst hA
       clear hc0 ha hx hes HEX
       have HW := hide HPR.out.pw
       have p0 := cell_heap HW.out.pb 0 _ rfl
       have p1 := cell_heap HW.out.pb 1 _ rfl
       have p2 := cell_heap HW.out.pb 2 _ rfl
       have p3 := cell_heap HW.out.pb 3 _ rfl
       have p4 := cell_heap HW.out.pb 4 _ rfl
       have p5 := cell_heap HW.out.pb 5 _ rfl
       have p6 := cell_heap HW.out.pb 6 _ rfl
       have b0 := cell_heap HW.out.ab 0 _ rfl
       have g0 := HW.out.ab.frozen 0
       have b1 := cell_heap HW.out.ab 1 _ rfl
       have g1 := HW.out.ab.frozen 1
       have b2 := cell_heap HW.out.ab 2 _ rfl
       have g2 := HW.out.ab.frozen 2
       have b3 := cell_heap HW.out.ab 3 _ rfl
       have g3 := HW.out.ab.frozen 3
       have b4 := cell_heap HW.out.ab 4 _ rfl
       have g4 := HW.out.ab.frozen 4
       have b5 := cell_heap HW.out.ab 5 _ rfl
       have g5 := HW.out.ab.frozen 5
       have hpl := HW.out.pb.lt
       have hpl2 := HW.out.ab.lt
       go_wp2_with fail
       obtain ⟨W3, hW3⟩ : ∃ V, wr.alloc (.cells #[.int .i64 t, .int .i64 kk, .int .i64 who, .int .i64 wt, .int .i64 wh] 48) = V := ⟨_, rfl⟩
       have hx3 : Ext wr W3 := by rw [← hW3]; exact (Ext.refl _).alloc _
       rw [hW3]
       replace HPR := hide (HPR.out.ext hx3)
       clear hW3 hx3 hpl hpl2 a0 a1 a2 a3 a4 HW p0 p1 p2 p3 p4 p5 p6 b0 g0 b1 g1 b2 g2 b3 g3 b4 g4 b5 g5
       have HD := hide (HDO.out W3 HPR.out.pw.ext _ x ⟨t, kk, who, wt, wh⟩ HPR.out.state.v HOK.out hx0.out hAO.out)
       have HB3 := hide HPR.out.pw.ab.lt
       have HV7 := hide (fun g hg => (HPR.out.ow.block g hg).2)
       refine Calls.mono HD.out ?_
       rintro e w4 ⟨dv, rfl, hdv, hx⟩
       replace HPR := hide (HPR.out.ext hx)
       obtain ⟨F, hF⟩ : ∃ F, doneE p x ⟨t, kk, who, wt, wh⟩ = F := ⟨_, rfl⟩
       obtain ⟨x2, hx2⟩ : ∃ y, doneS p x ⟨t, kk, who, wt, wh⟩ = y := ⟨_, rfl⟩
       have HF := hide hF
       have HX2 := hide hx2
       rw [hx2] at hdv
       rw [hF]
       have HDV := hide hdv
       obtain ⟨B1, f1, B2, f2, B3, f3, rfl, _, _, _⟩ := hdv
       clear hx HD hF hx2
       go_upto_region 18 with (fail)
       obtain ⟨W5, hW5⟩ : ∃ V, w4.alloc (.cells #[.int .i64 x2.now, .slice B1 x2.zones.length f1, .slice B2 x2.holder.length f2, .slice B3 x2.squibs.length f3, .int .i64 x2.siren, .bool x2.storm] 38) = V := ⟨_, rfl⟩
       have hx5 : Ext w4 W5 := by rw [← hW5]; exact (Ext.refl _).alloc _
       have HB13 := hide (show Blk W5 w4.heap.size 38 #[.int .i64 x2.now, .slice B1 x2.zones.length f1, .slice B2 x2.holder.length f2, .slice B3 x2.squibs.length f3, .int .i64 x2.siren, .bool x2.storm] by rw [← hW5]; exact Blk.new _ _ _)
       rw [hW5]
       replace HPR := hide (HPR.out.ext hx5)
       replace HDV := hide (HDV.out.ext hx5)
       clear hW5 hx5
       by_cases d0 : F = 0
       ·subst d0
        have STP := hide (show stepS p x ⟨t, kk, who, wt, wh⟩ = x2 by unfold stepS; rw [if_pos HF.out]; exact HX2.out)
        have q0 := cell_heap HB13.out 0 _ rfl
        have q1 := cell_heap HB13.out 1 _ rfl
        have q2 := cell_heap HB13.out 2 _ rfl
        have q3 := cell_heap HB13.out 3 _ rfl
        have q4 := cell_heap HB13.out 4 _ rfl
        have q5 := cell_heap HB13.out 5 _ rfl
        have HW := hide HPR.out.pw
        have b0 := cell_heap HW.out.ab 0 _ rfl
        have g0 := HW.out.ab.frozen 0
        have b1 := cell_heap HW.out.ab 1 _ rfl
        have g1 := HW.out.ab.frozen 1
        have b2 := cell_heap HW.out.ab 2 _ rfl
        have g2 := HW.out.ab.frozen 2
        have b3 := cell_heap HW.out.ab 3 _ rfl
        have g3 := HW.out.ab.frozen 3
        have b4 := cell_heap HW.out.ab 4 _ rfl
        have g4 := HW.out.ab.frozen 4
        have b5 := cell_heap HW.out.ab 5 _ rfl
        have g5 := HW.out.ab.frozen 5
        go_upto_region 20 with (fail)
        obtain ⟨V6, hV6⟩ : ∃ V, ((((((W5.setCell ⟨w.heap.size + 1 + 1, 0, none⟩ (.int .i64 x2.now)).setCell ⟨w.heap.size + 1 + 1, 1, none⟩ (.slice B1 x2.zones.length f1)).setCell ⟨w.heap.size + 1 + 1, 2, none⟩ (.slice B2 x2.holder.length f2)).setCell ⟨w.heap.size + 1 + 1, 3, none⟩ (.slice B3 x2.squibs.length f3)).setCell ⟨w.heap.size + 1 + 1, 4, none⟩ (.int .i64 x2.siren)).setCell ⟨w.heap.size + 1 + 1, 5, none⟩ (.bool x2.storm)) = V := ⟨_, rfl⟩
        rw [hV6]
        replace HPR := hide (show PlR w #[.slice az p.zones.length cz, .slice ad p.doors.length cd, .slice ap p.people.length cp, .slice ak p.keys.length ck, .slice aq p.squibs.length cq, .int .i64 p.panel, .int .i64 p.wait] #[.int .i64 s.now, .slice A1 s.zones.length c1, .slice A2 s.holder.length c2, .slice A3 s.squibs.length c3, .int .i64 s.siren, .bool s.storm] x2 k u7 es B1 B2 B3 f1 f2 f3 V6 from by
         obtain ⟨_, _, _, _, _, _, he, i1, i2, i3⟩ := HDV.out
         simp only [Value.agg.injEq, Array.mk.injEq, List.cons.injEq, Value.slice.injEq, and_true, true_and] at he
         obtain ⟨⟨rfl, rfl⟩, ⟨rfl, rfl⟩, ⟨rfl, rfl⟩⟩ := he
         rw [← hV6]
         refine HPR.out.take HB3.out (fun g hg e => ?_) i1 i2 i3
         have h7 := HV7.out g e
         rcases hg with hg | hg | hg
         ·have := (i1.block g (by rw [ownBlock_slice]; exact hg)).1; omega
         ·have := (i2.block g (by rw [ownBlock_slice]; exact hg)).1; omega
         ·have := (i3.block g (by rw [ownBlock_slice]; exact hg)).1; omega)
        clear hV6 HW q0 q1 q2 q3 q4 q5 b0 g0 b1 g1 b2 g2 b3 g3 b4 g4 b5 g5
        go_wp2_with (
         at_builtin
         refine wpList_append rfl (.tmp 62) (.tmp 64) 44 rfl (w.heap.size + 1 + 1 + 1) 29 iI _ 1 8 Try.underlying44 hI.out hI0.out hI1.out hI2.out rfl _ k (es.map (Value.int .i64)) rfl (HPR.out.ow.alloc _) (some ⟨V6.heap.size, 0, none⟩) 1 1 [.int .i64 0] rfl (Own.lit V6 V6.heap.size 29 1 1 #[.int .i64 0] (Nat.le_refl _) rfl (by simp [maxLen])).src (by simp [Value.oneCell']) ?_ ?_ ?_ ?_
         ·simp only [maxLen]; omega
         ·omega
         ·have := HPR.out.pw.ab.lt; simp; omega
         intro v7' w7 hown hgr hat
         have HP7 := hide ((HPR.out.ext ((Ext.refl _).alloc (.cells #[.int .i64 0] 29))).grow hgr hown hat)
         clear hown hgr hat)
        go_roundw
        case rel => exact ⟨k + 1, by omega, by go_num, hide ⟨_, _, _, _, _, _, by rw [hRS.out, hRE.out, STP.out, HF.out]; exact HP7.out⟩⟩
        case measure => simp [intOf]; omega
       ·have hne : (F == 0) = false := by simpa using d0
        have STP := hide (show stepS p x ⟨t, kk, who, wt, wh⟩ = x by unfold stepS; rw [if_neg (by rw [HF.out]; exact d0)])
        clear d0
        go_wp2_with (
         at_builtin
         refine wpList_append rfl (.tmp 62) (.tmp 64) 44 rfl (w.heap.size + 1 + 1 + 1) 29 iI _ 1 8 Try.underlying44 hI.out hI0.out hI1.out hI2.out rfl _ k (es.map (Value.int .i64)) rfl (HPR.out.ow.alloc _) (some ⟨W5.heap.size, 0, none⟩) 1 1 [.int .i64 F] rfl (Own.lit W5 W5.heap.size 29 1 1 #[.int .i64 F] (Nat.le_refl _) rfl (by simp [maxLen])).src (by simp [Value.oneCell']) ?_ ?_ ?_ ?_
         ·simp only [maxLen]; omega
         ·omega
         ·have := HPR.out.pw.ab.lt; simp; omega
         intro v7' w7 hown hgr hat
         have HP7 := hide ((HPR.out.ext ((Ext.refl _).alloc (.cells #[.int .i64 F] 29))).grow hgr hown hat)
         clear hown hgr hat)
        go_roundw
        case rel => exact ⟨k + 1, by omega, by go_num, hide ⟨_, _, _, _, _, _, by rw [hRS.out, hRE.out, STP.out, HF.out]; exact HP7.out⟩⟩
        case measure => simp [intOf]; omega
      ·obtain rfl : k = l.length := by omega
       obtain ⟨C1, C2, C3, e1, e2, e3, HPR⟩ := HEX.out
       rw [List.take_length] at HPR
       obtain ⟨x, hx⟩ : ∃ x, runS p s l = x := ⟨_, rfl⟩
       have HXX := hide hx
       rw [hx] at HPR
       replace HPR := hide HPR
       clear hx HEX h8 hk
       have HW := hide HPR.out.pw
       have b0 := cell_heap HW.out.ab 0 _ rfl
       have g0 := HW.out.ab.frozen 0
       have b1 := cell_heap HW.out.ab 1 _ rfl
       have g1 := HW.out.ab.frozen 1
       have b2 := cell_heap HW.out.ab 2 _ rfl
       have g2 := HW.out.ab.frozen 2
       have b3 := cell_heap HW.out.ab 3 _ rfl
       have g3 := HW.out.ab.frozen 3
       have b4 := cell_heap HW.out.ab 4 _ rfl
       have g4 := HW.out.ab.frozen 4
       have b5 := cell_heap HW.out.ab 5 _ rfl
       have g5 := HW.out.ab.frozen 5
       go_wp2_with fail
       obtain ⟨V6, hV6⟩ : ∃ V, ((((((wr.setCell ⟨w.heap.size + 1 + 1, 0, none⟩ (.int .i64 x.now)).setCell ⟨w.heap.size + 1 + 1, 1, none⟩ (.slice C1 x.zones.length e1)).setCell ⟨w.heap.size + 1 + 1, 2, none⟩ (.slice C2 x.holder.length e2)).setCell ⟨w.heap.size + 1 + 1, 3, none⟩ (.slice C3 x.squibs.length e3)).setCell ⟨w.heap.size + 1 + 1, 4, none⟩ (.int .i64 x.siren)).setCell ⟨w.heap.size + 1 + 1, 5, none⟩ (.bool x.storm)) = V := ⟨_, rfl⟩
       rw [hV6]
       replace HPR := hide (show PlR w #[.slice az p.zones.length cz, .slice ad p.doors.length cd, .slice ap p.people.length cp, .slice ak p.keys.length ck, .slice aq p.squibs.length cq, .int .i64 p.panel, .int .i64 p.wait] #[.int .i64 s.now, .slice A1 s.zones.length c1, .slice A2 s.holder.length c2, .slice A3 s.squibs.length c3, .int .i64 s.siren, .bool s.storm] x l.length u7 (runE p s l) C1 C2 C3 e1 e2 e3 V6 from by
        rw [← hV6]
        exact HPR.out.take (Nat.lt_succ_self _) HPR.out.far HPR.out.o1 HPR.out.o2 HPR.out.o3)
       clear hV6 HW b0 g0 b1 g1 b2 g2 b3 g3 b4 g4 b5 g5
       have b0 := cell_heap HPR.out.pw.ab 0 _ rfl
       have b1 := cell_heap HPR.out.pw.ab 1 _ rfl
       have b2 := cell_heap HPR.out.pw.ab 2 _ rfl
       have b3 := cell_heap HPR.out.pw.ab 3 _ rfl
       have b4 := cell_heap HPR.out.pw.ab 4 _ rfl
       have b5 := cell_heap HPR.out.pw.ab 5 _ rfl
       refine bodyPost_ret (v := .tuple #[.agg #[.int .i64 x.now, .slice C1 x.zones.length e1, .slice C2 x.holder.length e2, .slice C3 x.squibs.length e3, .int .i64 x.siren, .bool x.storm], u7, .int .i64 0]) (by simp [results, Try.results24, go_sem, b0, b1, b2, b3, b4, b5]) rfl ?_
       exact play_yes HR.out (by rw [HXX.out]; exact HPR.out.state.mono (by omega)) HPR.out.ow (by omega) HPR.out.pw.ext
 ·have hne : (E != 0) = true := by simpa using e0
  have HR := hide (show playE p s l = E by unfold playE; rw [HE.out, if_pos e0])
  have HNZ := hide e0
  clear e0
  have p0 := cell_heap HW.out.pb 0 _ rfl
  have p1 := cell_heap HW.out.pb 1 _ rfl
  have p2 := cell_heap HW.out.pb 2 _ rfl
  have p3 := cell_heap HW.out.pb 3 _ rfl
  have p4 := cell_heap HW.out.pb 4 _ rfl
  have p5 := cell_heap HW.out.pb 5 _ rfl
  have p6 := cell_heap HW.out.pb 6 _ rfl
  have s0 := cell_heap HW.out.sb 0 _ rfl
  have s1 := cell_heap HW.out.sb 1 _ rfl
  have s2 := cell_heap HW.out.sb 2 _ rfl
  have s3 := cell_heap HW.out.sb 3 _ rfl
  have s4 := cell_heap HW.out.sb 4 _ rfl
  have s5 := cell_heap HW.out.sb 5 _ rfl
  have b0 := cell_heap HW.out.ab 0 _ rfl
  have g0 := HW.out.ab.frozen 0
  have b1 := cell_heap HW.out.ab 1 _ rfl
  have g1 := HW.out.ab.frozen 1
  have b2 := cell_heap HW.out.ab 2 _ rfl
  have g2 := HW.out.ab.frozen 2
  have b3 := cell_heap HW.out.ab 3 _ rfl
  have g3 := HW.out.ab.frozen 3
  have b4 := cell_heap HW.out.ab 4 _ rfl
  have g4 := HW.out.ab.frozen 4
  have b5 := cell_heap HW.out.ab 5 _ rfl
  have g5 := HW.out.ab.frozen 5
  go_wp2_with fail
  obtain ⟨V6, hV6⟩ : ∃ V, ((((((w2.setCell ⟨w.heap.size + 1 + 1, 0, none⟩ (.int .i64 0)).setCell ⟨w.heap.size + 1 + 1, 1, none⟩ (.slice none 0 0)).setCell ⟨w.heap.size + 1 + 1, 2, none⟩ (.slice none 0 0)).setCell ⟨w.heap.size + 1 + 1, 3, none⟩ (.slice none 0 0)).setCell ⟨w.heap.size + 1 + 1, 4, none⟩ (.int .i64 0)).setCell ⟨w.heap.size + 1 + 1, 5, none⟩ (.bool false)) = V := ⟨_, rfl⟩
  rw [hV6]
  replace HW := hide (show PlW w #[.slice az p.zones.length cz, .slice ad p.doors.length cd, .slice ap p.people.length cp, .slice ak p.keys.length ck, .slice aq p.squibs.length cq, .int .i64 p.panel, .int .i64 p.wait] #[.int .i64 s.now, .slice A1 s.zones.length c1, .slice A2 s.holder.length c2, .slice A3 s.squibs.length c3, .int .i64 s.siren, .bool s.storm] V6 #[.int .i64 0, .slice none 0 0, .slice none 0 0, .slice none 0 0, .int .i64 0, .bool false] from by rw [← hV6]; exact (((((HW.out.set 0 (.int .i64 0)).set 1 (.slice none 0 0)).set 2 (.slice none 0 0)).set 3 (.slice none 0 0)).set 4 (.int .i64 0)).set 5 (.bool false))
  clear hV6 p0 p1 p2 p3 p4 p5 p6 s0 s1 s2 s3 s4 s5 b0 g0 b1 g1 b2 g2 b3 g3 b4 g4 b5 g5
  have b0 := cell_heap HW.out.ab 0 _ rfl
  have b1 := cell_heap HW.out.ab 1 _ rfl
  have b2 := cell_heap HW.out.ab 2 _ rfl
  have b3 := cell_heap HW.out.ab 3 _ rfl
  have b4 := cell_heap HW.out.ab 4 _ rfl
  have b5 := cell_heap HW.out.ab 5 _ rfl
  refine bodyPost_ret (v := .tuple #[.agg #[.int .i64 0, .slice none 0 0, .slice none 0 0, .slice none 0 0, .int .i64 0, .bool false], .slice none 0 0, .int .i64 E]) (by simp [results, Try.results24, go_sem, b0, b1, b2, b3, b4, b5]) rfl ?_
  exact play_no HR.out HNZ.out HW.out.ext
end Go.Proofs.Ythcnganbnbhhoaa
