/- The walks of the acts' methods, further. -/
import Derived.Test.YthcnganbnbhhoaaMeth
namespace Go.Proofs.Ythcnganbnbhhoaa
open Go.RowKit Go.Shelf
set_option maxRecDepth 100000 in
set_option maxHeartbeats 4000000 in
/-- sirenOn -/
theorem sirenOn_any (B : Nat) (X : SceneX) (p : Pad) (s : State) (t k wh : Int) (i : Nat) (w W : World) (h : SceneS w B X p s W) (hok : PadOk p) (hst : StateOk p s) (hi : (i : Int) < p.people.length) :
 Calls Try.prog 108 #[.pointer (some ⟨B, 0, none⟩), .agg #[.int .i64 t, .int .i64 k, .int .i64 i, .int .i64 1, .int .i64 wh]] W (MethQ w B X p (sirenE p s ⟨t, k, i, 1, wh⟩) (sirenS s ⟨t, k, i, 1, wh⟩)) := by
 obtain ⟨⟨az, cz, ad, cd, ap, cp, ak, ck, aq, cq⟩, sz, zc, sh, hc, sq, qc⟩ := X
 have HS := hide h
 have HOK := hide hok
 have HST := hide hst
 have hl1 := HST.out.lz
 have hl2 := HST.out.lh
 have hl3 := HST.out.lq
 clear h hok hst
 have n1 : i < s.zones.length := by omega
 have L1 := hide hl1
 have L2 := hide hl2
 have L3 := hide hl3
 clear hl1 hl2 hl3
 obtain ⟨sr, hsr⟩ : ∃ v, s.siren = v := ⟨_, rfl⟩
 have HSR := hide hsr
 clear hsr
 go_enter Try.func108, Try.ntmps108
 go_wp2_with fail
 obtain ⟨W1, hW1⟩ : ∃ W1, W.alloc (.cells #[.int .i64 t, .int .i64 k, .int .i64 i, .int .i64 1, .int .i64 wh] 48) = W1 := ⟨_, rfl⟩
 have hx1 : Ext W W1 := by rw [← hW1]; exact (Ext.refl _).alloc _
 have HA := hide (show Blk W1 W.heap.size 48 #[.int .i64 t, .int .i64 k, .int .i64 i, .int .i64 1, .int .i64 wh] by rw [← hW1]; exact Blk.new _ _ _)
 rw [hW1]
 replace HS := hide (HS.out.ext' hx1)
 clear hW1 hx1
 have k11 := HS.out.at.k11
 try dsimp only at k11
 have d0 := cell_heap HA.out 0 _ rfl
 rw [HSR.out] at k11
 have HON := hide (show onB ⟨t, k, i, 1, wh⟩ = true from rfl)
 cases hp : atPanelB p s i with
 | false =>
   refine (atPanel_no B ⟨⟨az, cz, ad, cd, ap, cp, ak, ck, aq, cq⟩, sz, zc, sh, hc, sq, qc⟩ p s i W1 HS.out.at n1 hp).mono ?_
   rintro e w2 ⟨rfl, hx⟩
   have HE := hide (show sirenE p s ⟨t, k, i, 1, wh⟩ = 171 by unfold sirenE; rw [if_pos hp])
   clear hp
   replace HS := hide (HS.out.ext' hx)
   go_wp2_with fail
   exact ⟨rfl, methNo HE.out (by decide) HS.out.ext⟩
 | true =>
   refine (atPanel_ok B ⟨⟨az, cz, ad, cd, ap, cp, ak, ck, aq, cq⟩, sz, zc, sh, hc, sq, qc⟩ p s i W1 HS.out.at n1 hp).mono ?_
   rintro e w2 ⟨rfl, hx⟩
   have HP := hide hp
   clear hp
   replace k11 := hx.cell k11
   replace d0 := hx.cell d0
   replace HS := hide (HS.out.ext' hx)
   replace HA := hide (HA.out.ext hx)
   clear hx
   by_cases s0 : ¬ 0 ≤ sr
   ·have hd1 : decide (0 ≤ sr) = false := decide_eq_false s0
    have HS0 := hide (show sr < 0 by omega)
    have HE := hide (show sirenE p s ⟨t, k, i, 1, wh⟩ = 0 by unfold sirenE; rw [if_neg (by rw [HP.out]; decide)]; rw [if_neg (by rw [HSR.out, HON.out]; simp; exact HS0.out)]; rw [if_neg (by rw [HON.out]; simp)])
    clear s0
    have f11 := HS.out.fz 11
    go_wp2_with (go_at_call 88; refine (demand_ok _ _).mono ?_; rintro e w' ⟨rfl, rfl⟩)
    refine bodyPost_end (results_none rfl _ _ _) rfl ?_
    exact methYes HE.out ((HS.out.setSiren (-1)).setSiren t)
   ·have hd1 : decide (0 ≤ sr) = true := decide_eq_true (by omega)
    have HE := hide (show sirenE p s ⟨t, k, i, 1, wh⟩ = 177 by unfold sirenE; rw [if_neg (by rw [HP.out]; decide)]; rw [if_pos (by rw [HSR.out, HON.out]; simp; omega)])
    clear s0
    go_wp2_with (go_at_call 88; refine (demand_no _ _).mono ?_; rintro e w' ⟨rfl, rfl⟩)
    exact ⟨rfl, methNo HE.out (by decide) HS.out.ext⟩
set_option maxRecDepth 100000 in
set_option maxHeartbeats 4000000 in
/-- sirenOff -/
theorem sirenOff_any (B : Nat) (X : SceneX) (p : Pad) (s : State) (t k wh : Int) (i : Nat) (w W : World) (h : SceneS w B X p s W) (hok : PadOk p) (hst : StateOk p s) (hi : (i : Int) < p.people.length) :
 Calls Try.prog 108 #[.pointer (some ⟨B, 0, none⟩), .agg #[.int .i64 t, .int .i64 k, .int .i64 i, .int .i64 0, .int .i64 wh]] W (MethQ w B X p (sirenE p s ⟨t, k, i, 0, wh⟩) (sirenS s ⟨t, k, i, 0, wh⟩)) := by
 obtain ⟨⟨az, cz, ad, cd, ap, cp, ak, ck, aq, cq⟩, sz, zc, sh, hc, sq, qc⟩ := X
 have HS := hide h
 have HOK := hide hok
 have HST := hide hst
 have hl1 := HST.out.lz
 have hl2 := HST.out.lh
 have hl3 := HST.out.lq
 clear h hok hst
 have n1 : i < s.zones.length := by omega
 have L1 := hide hl1
 have L2 := hide hl2
 have L3 := hide hl3
 clear hl1 hl2 hl3
 obtain ⟨sr, hsr⟩ : ∃ v, s.siren = v := ⟨_, rfl⟩
 have HSR := hide hsr
 clear hsr
 go_enter Try.func108, Try.ntmps108
 go_wp2_with fail
 obtain ⟨W1, hW1⟩ : ∃ W1, W.alloc (.cells #[.int .i64 t, .int .i64 k, .int .i64 i, .int .i64 0, .int .i64 wh] 48) = W1 := ⟨_, rfl⟩
 have hx1 : Ext W W1 := by rw [← hW1]; exact (Ext.refl _).alloc _
 have HA := hide (show Blk W1 W.heap.size 48 #[.int .i64 t, .int .i64 k, .int .i64 i, .int .i64 0, .int .i64 wh] by rw [← hW1]; exact Blk.new _ _ _)
 rw [hW1]
 replace HS := hide (HS.out.ext' hx1)
 clear hW1 hx1
 have k11 := HS.out.at.k11
 try dsimp only at k11
 have d0 := cell_heap HA.out 0 _ rfl
 rw [HSR.out] at k11
 have HON := hide (show onB ⟨t, k, i, 0, wh⟩ = false from rfl)
 cases hp : atPanelB p s i with
 | false =>
   refine (atPanel_no B ⟨⟨az, cz, ad, cd, ap, cp, ak, ck, aq, cq⟩, sz, zc, sh, hc, sq, qc⟩ p s i W1 HS.out.at n1 hp).mono ?_
   rintro e w2 ⟨rfl, hx⟩
   have HE := hide (show sirenE p s ⟨t, k, i, 0, wh⟩ = 171 by unfold sirenE; rw [if_pos hp])
   clear hp
   replace HS := hide (HS.out.ext' hx)
   go_wp2_with fail
   exact ⟨rfl, methNo HE.out (by decide) HS.out.ext⟩
 | true =>
   refine (atPanel_ok B ⟨⟨az, cz, ad, cd, ap, cp, ak, ck, aq, cq⟩, sz, zc, sh, hc, sq, qc⟩ p s i W1 HS.out.at n1 hp).mono ?_
   rintro e w2 ⟨rfl, hx⟩
   have HP := hide hp
   clear hp
   replace k11 := hx.cell k11
   replace d0 := hx.cell d0
   replace HS := hide (HS.out.ext' hx)
   replace HA := hide (HA.out.ext hx)
   clear hx
   by_cases s0 : 0 ≤ sr
   ·have hd1 : decide (0 ≤ sr) = true := decide_eq_true s0
    have HS0 := hide s0
    have HAR := hide (fun V hV => armed_any 119 #[] (enters_of Try.func119 (by kernel_rfl) rfl) (fun _ => true) B ⟨⟨az, cz, ad, cd, ap, cp, ak, ck, aq, cq⟩, sz, zc, sh, hc, sq, qc⟩ p s V hV L3.out (fun kk w1 hk hx => by simpa using siren1_any (p.squibs.getD kk default) w1))
    clear s0
    go_wp2_with (go_at_call 88; refine (demand_ok _ _).mono ?_; rintro e w' ⟨rfl, rfl⟩)
    cases ha : armedB s (fun _ => true) with
    | true =>
      rw [ha] at HAR
      have HE := hide (show sirenE p s ⟨t, k, i, 0, wh⟩ = 179 by unfold sirenE; rw [if_neg (by rw [HP.out]; decide)]; rw [if_neg (by rw [HSR.out, HON.out]; simp; exact HS0.out)]; rw [if_pos (by rw [HON.out, ha]; rfl)])
      clear ha
      refine (HAR.out _ HS.out.at).mono ?_
      rintro e w3 ⟨rfl, hx⟩
      replace HS := hide (HS.out.ext' hx)
      go_wp2_with (go_at_call 88; refine (demand_no _ _).mono ?_; rintro e w' ⟨rfl, rfl⟩)
      exact ⟨rfl, methNo HE.out (by decide) HS.out.ext⟩
    | false =>
      rw [ha] at HAR
      have HE := hide (show sirenE p s ⟨t, k, i, 0, wh⟩ = 0 by unfold sirenE; rw [if_neg (by rw [HP.out]; decide)]; rw [if_neg (by rw [HSR.out, HON.out]; simp; exact HS0.out)]; rw [if_neg (by rw [HON.out, ha]; decide)])
      clear ha
      refine (HAR.out _ HS.out.at).mono ?_
      rintro e w3 ⟨rfl, hx⟩
      replace k11 := hx.cell k11
      replace d0 := hx.cell d0
      replace HS := hide (HS.out.ext' hx)
      replace HA := hide (HA.out.ext hx)
      clear hx
      have f11 := HS.out.fz 11
      go_wp2_with (go_at_call 88; refine (demand_ok _ _).mono ?_; rintro e w' ⟨rfl, rfl⟩)
      refine bodyPost_end (results_none rfl _ _ _) rfl ?_
      exact methYes HE.out (HS.out.setSiren (-1))
   ·have hd1 : decide (0 ≤ sr) = false := decide_eq_false s0
    have HE := hide (show sirenE p s ⟨t, k, i, 0, wh⟩ = 177 by unfold sirenE; rw [if_neg (by rw [HP.out]; decide)]; rw [if_pos (by rw [HSR.out, HON.out]; simp; omega)])
    clear s0
    go_wp2_with (go_at_call 88; refine (demand_no _ _).mono ?_; rintro e w' ⟨rfl, rfl⟩)
    exact ⟨rfl, methNo HE.out (by decide) HS.out.ext⟩
def thL (l : List Int) (on : Bool) (k : Nat) : List Int := (l.take k).map (calm on) ++ l.drop k
theorem thL_get (l : List Int) (on : Bool) (k i : Nat) : (thL l on k)[i]? = if i < k then l[i]?.map (calm on) else l[i]? := by
 unfold thL
 by_cases hk : k ≤ l.length
 ·by_cases hi : i < k
  ·rw [List.getElem?_append_left (by simp; omega), if_pos hi]; simp [hi]
  ·rw [List.getElem?_append_right (by simp; omega), if_neg hi]
   simp only [List.length_map, List.length_take, List.getElem?_drop]
   congr 1
   omega
 ·rw [List.take_of_length_le (by omega), List.drop_of_length_le (by omega), List.append_nil, List.getElem?_map]
  split
  ·rfl
  ·rw [List.getElem?_eq_none (by omega)]; rfl
theorem thL_len (l : List Int) (on : Bool) (k : Nat) : (thL l on k).length = l.length := by unfold thL; simp; omega
theorem thL_zero (l : List Int) (on : Bool) : thL l on 0 = l := by simp [thL]
theorem thL_end (l : List Int) (on : Bool) : thL l on l.length = l.map (calm on) := by simp [thL]
theorem thL_at (l : List Int) (on : Bool) (k : Nat) : (thL l on k).getD k 0 = l.getD k 0 := by
 rw [List.getD_eq_getElem?_getD, thL_get, if_neg (by omega), List.getD_eq_getElem?_getD]
theorem thL_step (l : List Int) (on : Bool) (k : Nat) (h : k < l.length) (x : Int) (hx : calm on (l.getD k 0) = x) : (thL l on k).set k x = thL l on (k + 1) := by
 apply List.ext_getElem?
 intro i
 rw [List.getElem?_set, thL_get, thL_get, thL_len]
 rw [List.getD_eq_getElem?_getD, List.getElem?_eq_getElem h, Option.getD_some] at hx
 by_cases h1 : k = i
 ·subst h1
  rw [if_pos rfl, if_pos h, if_pos (by omega), List.getElem?_eq_getElem h, Option.map_some, hx]
 ·rw [if_neg h1]
  by_cases h2 : i < k
  ·rw [if_pos h2, if_pos (by omega)]
  ·rw [if_neg h2, if_neg (by omega)]
theorem thL_keep (l : List Int) (on : Bool) (k : Nat) (hx : calm on (l.getD k 0) = l.getD k 0) : thL l on (k + 1) = thL l on k := by
 apply List.ext_getElem?
 intro i
 rw [thL_get, thL_get]
 by_cases h2 : i < k
 ·rw [if_pos h2, if_pos (by omega)]
 ·rw [if_neg h2]
  by_cases h1 : i = k
  ·subst h1
   rw [if_pos (by omega)]
   cases h : l[i]? with
   | none => rfl
   | some y =>
     rw [List.getD_eq_getElem?_getD, h, Option.getD_some] at hx
     rw [Option.map_some, hx]
  ·rw [if_neg (by omega)]
def thS (s : State) (on : Bool) (k : Nat) : State := { s with storm := on, squibs := thL s.squibs on k }
theorem thS_zero (s : State) (on : Bool) : thS s on 0 = { s with storm := on } := by unfold thS; rw [thL_zero]
set_option maxRecDepth 100000 in
set_option maxHeartbeats 4000000 in
/-- thunderOn -/
theorem thunderOn_any (B : Nat) (X : SceneX) (p : Pad) (s : State) (t k wh : Int) (i : Nat) (w W : World) (h : SceneS w B X p s W) (hok : PadOk p) (hst : StateOk p s)  :
 Calls Try.prog 109 #[.pointer (some ⟨B, 0, none⟩), .agg #[.int .i64 t, .int .i64 k, .int .i64 i, .int .i64 1, .int .i64 wh]] W (MethQ w B X p (thunderE s ⟨t, k, i, 1, wh⟩) (thunderS s ⟨t, k, i, 1, wh⟩)) := by
 obtain ⟨⟨az, cz, ad, cd, ap, cp, ak, ck, aq, cq⟩, sz, zc, sh, hc, sq, qc⟩ := X
 have hqn := h.at.q.rows.2
 dsimp only at hqn
 obtain ⟨hq1, hq2, _⟩ := hqn
 have hq3 : s.squibs.length ≤ 9223372036854775807 := by omega
 clear hq1 hq2
 have HS := hide h
 have HOK := hide hok
 have HST := hide hst
 have hl1 := HST.out.lz
 have hl2 := HST.out.lh
 have hl3 := HST.out.lq
 clear h hok hst
 have L3 := hide hl3
 clear hl1 hl2 hl3
 obtain ⟨stm, hstm⟩ : ∃ v, s.storm = v := ⟨_, rfl⟩
 have HSTM := hide hstm
 clear hstm
 have HON := hide (show onB ⟨t, k, i, 1, wh⟩ = true from rfl)
 go_enter Try.func109, Try.ntmps109
 have HS0 := hide (HS.out.ext' ((Ext.refl W).alloc (.cells #[.int .i64 t, .int .i64 k, .int .i64 i, .int .i64 1, .int .i64 wh] 48)))
 have k10 := HS0.out.at.k10
 have k12 := HS0.out.at.k12
 have f12 := HS0.out.fz 12
 try dsimp only at k10 k12
 rw [HSTM.out] at k12
 cases stm with
 | true =>
   have HE := hide (show thunderE s ⟨t, k, i, 1, wh⟩ = 177 by unfold thunderE; rw [if_pos (by rw [HSTM.out, HON.out])])
   go_wp2_with (go_at_call 88; refine (demand_no _ _).mono ?_; rintro e w' ⟨rfl, rfl⟩)
   exact ⟨rfl, methNo HE.out (by decide) HS0.out.ext⟩
 | false =>
   have HE := hide (show thunderE s ⟨t, k, i, 1, wh⟩ = 0 by unfold thunderE; rw [if_neg (by rw [HSTM.out, HON.out]; decide)])
   go_wp2_with (go_at_call 88; refine (demand_ok _ _).mono ?_; rintro e w' ⟨rfl, rfl⟩)
   have HS1 := hide (HS0.out.setStorm true)
   obtain ⟨V, hV⟩ : ∃ V, (W.alloc (.cells #[.int .i64 t, .int .i64 k, .int .i64 i, .int .i64 1, .int .i64 wh] 48)).setCell ⟨B, 12, none⟩ (.bool true) = V := ⟨_, rfl⟩
   rw [hV] at HS1 ⊢
   clear hV k10 k12 f12 HS0 HS
   rw [← thS_zero] at HS1
   go_loopw [29] (fun v wr => ∃ n : Nat, n ≤ s.squibs.length ∧ v = .int .i64 n ∧ Hid (SceneS w B ⟨⟨az, cz, ad, cd, ap, cp, ak, ck, aq, cq⟩, sz, zc, sh, hc, sq, qc⟩ p (thS s true n) wr)) (fun v _ => s.squibs.length - (intOf v).toNat)
   case atStart => exact ⟨0, by omega, rfl, HS1⟩
   case round =>
    obtain ⟨n, hn, rfl, HSN⟩ := hrel
    by_cases h8 : n < s.squibs.length
    ·obtain ⟨g, hg, hge, c0, f0⟩ := HSN.out.qlt (i := n) (by show n < (thL s.squibs true n).length; rw [thL_len]; exact h8)
     dsimp only at hg
     subst hg
     obtain ⟨x, hx⟩ : ∃ x, s.squibs.getD n 0 = x := ⟨_, rfl⟩
     have HXN := hide hx
     rw [show (thS s true n).squibs.getD n 0 = x from (thL_at _ _ _).trans hx] at c0
     clear hx
     by_cases x1 : x = 1
     ·subst x1
      have k10 := HSN.out.at.k10
      dsimp only at k10
      rw [show (thS s true n).squibs.length = s.squibs.length from thL_len _ _ _] at k10
      have HST1 := hide (show SceneS w B ⟨⟨az, cz, ad, cd, ap, cp, ak, ck, aq, cq⟩, sz, zc, sh, hc, some ⟨g, 0, none⟩, qc⟩ p (thS s true (n + 1)) (wr.setCell ⟨g, n, none⟩ (.int .i64 0)) from by
       have h1 := HSN.out.setQ rfl hge n 0
       have h2 : thS s true (n + 1) = { thS s true n with squibs := (thS s true n).squibs.set n 0 } := by unfold thS; dsimp only; rw [thL_step _ _ _ h8 0 (by rw [HXN.out]; rfl)]
       rw [h2]; exact h1)
      go_wp2_with fail
      go_roundw
      case rel => exact ⟨n + 1, by omega, by go_num, hide HST1.out⟩
      case measure => simp [intOf]; omega
     ·have hde : (x == 1) = false := by simpa using x1
      have HSN1 := hide (show thS s true (n + 1) = thS s true n by unfold thS; rw [thL_keep _ _ _ (by rw [HXN.out]; unfold calm; simp [x1])])
      clear x1
      go_wp2_with fail
      go_roundw
      case rel => exact ⟨n + 1, by omega, by go_num, hide (by rw [HSN1.out]; exact HSN.out)⟩
      case measure => simp [intOf]; omega
    ·obtain rfl : n = s.squibs.length := by omega
     have HFIN := hide (show thS s true s.squibs.length = thunderS s ⟨t, k, i, 1, wh⟩ by unfold thS thunderS; rw [thL_end]; rfl)
     go_wp2_with fail
     refine bodyPost_end (results_none rfl _ _ _) rfl ?_
     exact methYes HE.out (HFIN.out ▸ HSN.out)
set_option maxRecDepth 100000 in
set_option maxHeartbeats 4000000 in
/-- thunderOff -/
theorem thunderOff_any (B : Nat) (X : SceneX) (p : Pad) (s : State) (t k wh : Int) (i : Nat) (w W : World) (h : SceneS w B X p s W) (hok : PadOk p) (hst : StateOk p s)  :
 Calls Try.prog 109 #[.pointer (some ⟨B, 0, none⟩), .agg #[.int .i64 t, .int .i64 k, .int .i64 i, .int .i64 0, .int .i64 wh]] W (MethQ w B X p (thunderE s ⟨t, k, i, 0, wh⟩) (thunderS s ⟨t, k, i, 0, wh⟩)) := by
 obtain ⟨⟨az, cz, ad, cd, ap, cp, ak, ck, aq, cq⟩, sz, zc, sh, hc, sq, qc⟩ := X
 have hqn := h.at.q.rows.2
 dsimp only at hqn
 obtain ⟨hq1, hq2, _⟩ := hqn
 have hq3 : s.squibs.length ≤ 9223372036854775807 := by omega
 clear hq1 hq2
 have HS := hide h
 have HOK := hide hok
 have HST := hide hst
 have hl1 := HST.out.lz
 have hl2 := HST.out.lh
 have hl3 := HST.out.lq
 clear h hok hst
 have L3 := hide hl3
 clear hl1 hl2 hl3
 obtain ⟨stm, hstm⟩ : ∃ v, s.storm = v := ⟨_, rfl⟩
 have HSTM := hide hstm
 clear hstm
 have HON := hide (show onB ⟨t, k, i, 0, wh⟩ = false from rfl)
 go_enter Try.func109, Try.ntmps109
 have HS0 := hide (HS.out.ext' ((Ext.refl W).alloc (.cells #[.int .i64 t, .int .i64 k, .int .i64 i, .int .i64 0, .int .i64 wh] 48)))
 have k10 := HS0.out.at.k10
 have k12 := HS0.out.at.k12
 have f12 := HS0.out.fz 12
 try dsimp only at k10 k12
 rw [HSTM.out] at k12
 cases stm with
 | false =>
   have HE := hide (show thunderE s ⟨t, k, i, 0, wh⟩ = 177 by unfold thunderE; rw [if_pos (by rw [HSTM.out, HON.out])])
   go_wp2_with (go_at_call 88; refine (demand_no _ _).mono ?_; rintro e w' ⟨rfl, rfl⟩)
   exact ⟨rfl, methNo HE.out (by decide) HS0.out.ext⟩
 | true =>
   have HE := hide (show thunderE s ⟨t, k, i, 0, wh⟩ = 0 by unfold thunderE; rw [if_neg (by rw [HSTM.out, HON.out]; decide)])
   go_wp2_with (go_at_call 88; refine (demand_ok _ _).mono ?_; rintro e w' ⟨rfl, rfl⟩)
   have HS1 := hide (HS0.out.setStorm false)
   obtain ⟨V, hV⟩ : ∃ V, (W.alloc (.cells #[.int .i64 t, .int .i64 k, .int .i64 i, .int .i64 0, .int .i64 wh] 48)).setCell ⟨B, 12, none⟩ (.bool false) = V := ⟨_, rfl⟩
   rw [hV] at HS1 ⊢
   clear hV k10 k12 f12 HS0 HS
   rw [← thS_zero] at HS1
   go_loopw [29] (fun v wr => ∃ n : Nat, n ≤ s.squibs.length ∧ v = .int .i64 n ∧ Hid (SceneS w B ⟨⟨az, cz, ad, cd, ap, cp, ak, ck, aq, cq⟩, sz, zc, sh, hc, sq, qc⟩ p (thS s false n) wr)) (fun v _ => s.squibs.length - (intOf v).toNat)
   case atStart => exact ⟨0, by omega, rfl, HS1⟩
   case round =>
    obtain ⟨n, hn, rfl, HSN⟩ := hrel
    by_cases h8 : n < s.squibs.length
    ·obtain ⟨g, hg, hge, c0, f0⟩ := HSN.out.qlt (i := n) (by show n < (thL s.squibs false n).length; rw [thL_len]; exact h8)
     dsimp only at hg
     subst hg
     obtain ⟨x, hx⟩ : ∃ x, s.squibs.getD n 0 = x := ⟨_, rfl⟩
     have HXN := hide hx
     rw [show (thS s false n).squibs.getD n 0 = x from (thL_at _ _ _).trans hx] at c0
     clear hx
     have HSN1 := hide (show thS s false (n + 1) = thS s false n by unfold thS; rw [thL_keep _ _ _ (by rw [HXN.out]; rfl)])
     go_wp2_with fail
     go_roundw
     case rel => exact ⟨n + 1, by omega, by go_num, hide (by rw [HSN1.out]; exact HSN.out)⟩
     case measure => simp [intOf]; omega
    ·obtain rfl : n = s.squibs.length := by omega
     have HFIN := hide (show thS s false s.squibs.length = thunderS s ⟨t, k, i, 0, wh⟩ by unfold thS thunderS; rw [thL_end]; rfl)
     go_wp2_with fail
     refine bodyPost_end (results_none rfl _ _ _) rfl ?_
     exact methYes HE.out (HFIN.out ▸ HSN.out)
end Go.Proofs.Ythcnganbnbhhoaa
