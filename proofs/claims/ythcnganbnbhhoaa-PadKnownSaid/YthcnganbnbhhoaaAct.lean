/- The walk of pad.act. -/
import Derived.Test.YthcnganbnbhhoaaSc2
namespace Go.Proofs.Ythcnganbnbhhoaa
open Go.RowKit Go.Shelf
set_option maxRecDepth 100000 in
set_option maxHeartbeats 400000 in
/-- pad.act$1 -/
theorem act1_any (n : Int) (m : Nat) (hm : m ≤ 9223372036854775807) (w : World) : Calls Try.prog 85 #[.int .i64 n, .int .i64 m] w fun e w' => e = .returned (.bool (outB n 0 ((m : Int) - 1))) ∧ w = w' := by
 have hw : IntKind.i64.wrap ((m : Int) - 1) = (m : Int) - 1 := by rw [IntKind.wrap_i64]; omega
 go_enter Try.func85, Try.ntmps85
 go_wp2_with (go_at_call 37; refine (out_any _ _ _ _).mono ?_; rintro e w' ⟨rfl, rfl⟩)
 go_ret
 exact ⟨ret_bool rfl, rfl⟩
theorem demand_dummy (V : World) : Calls Try.prog 88 #[.bool true, .int .i64 0] V fun e w' => e = .returned unitV ∧ V = w' := demand_ok 0 V
set_option maxRecDepth 100000 in
set_option maxHeartbeats 2000000 in
/-- act, its early ends -/
theorem act_early (X : PadX) (p : Pad) (t k who wt wh : Int) (w : World) (hX : PadAt w X p) (h : (outB t 0 100000 || outB k 1 9 || outB who 0 ((p.people.length : Int) - 1)) = true) :
 Calls Try.prog 65 #[.agg #[.slice X.az p.zones.length X.cz, .slice X.ad p.doors.length X.cd, .slice X.ap p.people.length X.cp, .slice X.ak p.keys.length X.ck, .slice X.aq p.squibs.length X.cq, .int .i64 p.panel, .int .i64 p.wait], .agg #[.int .i64 t, .int .i64 k, .int .i64 who, .int .i64 wt, .int .i64 wh]] w fun e w' => e = .returned (.int .i64 (actE p ⟨t, k, who, wt, wh⟩)) ∧ Ext w w' := by
 obtain ⟨az, cz, ad, cd, ap, cp, ak, ck, aq, cq⟩ := X
 have hz := hX.z.rows
 have hx := hX.x.rows
 have hk := hX.k.rows
 have hq := hX.q.rows
 dsimp only at hz hx hk hq
 have n1 : p.zones.length ≤ 9223372036854775807 := by omega
 have n2 : p.people.length ≤ 9223372036854775807 := by omega
 have n3 : p.keys.length ≤ 9223372036854775807 := by omega
 have n4 : p.squibs.length ≤ 9223372036854775807 := by omega
 clear hz hx hk hq hX
 have hd4 : (k == 4) = decide (k = 4) := by rw [Bool.eq_iff_iff]; simp
 have hd1 : (k == 1) = decide (k = 1) := by rw [Bool.eq_iff_iff]; simp
 have hdw : (wh != -1) = !decide (wh = -1) := by rw [Bool.eq_iff_iff]; simp
 cases h1 : outB t 0 100000 with
 | true =>
   clear h hd4 hd1 hdw
   by_cases k4 : k = 4
   ·have e4 : (k == 4) = true := by simpa using k4
    have HE := hide (show actE p ⟨t, k, who, wt, wh⟩ = 7 by unfold actE; rw [if_pos h1])
    clear k4
    have HT := hide (fun V => out_any t 0 100000 V)
    have HK := hide (fun V => demand_dummy V)
    have HW := hide (fun V => demand_dummy V)
    have HN := hide (fun V => demand_dummy V)
    have HV := hide (fun V => demand_dummy V)
    have HB := hide (fun V => demand_dummy V)
    rw [h1] at HT
    clear h1
    go_enter Try.func65, Try.ntmps65
    go_wp2_with (first
     | (go_at_call 37; (first | (with_reducible refine (HT.out _).mono ?_) | (with_reducible refine (HK.out _).mono ?_) | (with_reducible refine (HB.out _).mono ?_)); rintro e w' ⟨rfl, rfl⟩)
     | (go_at_call 85; (first | (with_reducible refine (HW.out _).mono ?_) | (with_reducible refine (HN.out _).mono ?_) | (with_reducible refine (HV.out _).mono ?_)); rintro e w' ⟨rfl, rfl⟩))
    go_ret
    exact ⟨ret_int (by rw [HE.out]), ((Ext.refl _).alloc _).alloc _⟩
   ·have e4 : (k == 4) = false := by simpa using k4
    by_cases k1 : k = 1
    ·have e1 : (k == 1) = true := by simpa using k1
     by_cases kw : wh = -1
     ·have ew : (wh != -1) = false := by simpa using kw
      have HE := hide (show actE p ⟨t, k, who, wt, wh⟩ = 7 by unfold actE; rw [if_pos h1])
      clear k4 k1 kw
      have HT := hide (fun V => out_any t 0 100000 V)
      have HK := hide (fun V => demand_dummy V)
      have HW := hide (fun V => demand_dummy V)
      have HN := hide (fun V => demand_dummy V)
      have HV := hide (fun V => demand_dummy V)
      have HB := hide (fun V => demand_dummy V)
      rw [h1] at HT
      clear h1
      go_enter Try.func65, Try.ntmps65
      go_wp2_with (first
       | (go_at_call 37; (first | (with_reducible refine (HT.out _).mono ?_) | (with_reducible refine (HK.out _).mono ?_) | (with_reducible refine (HB.out _).mono ?_)); rintro e w' ⟨rfl, rfl⟩)
       | (go_at_call 85; (first | (with_reducible refine (HW.out _).mono ?_) | (with_reducible refine (HN.out _).mono ?_) | (with_reducible refine (HV.out _).mono ?_)); rintro e w' ⟨rfl, rfl⟩))
      go_ret
      exact ⟨ret_int (by rw [HE.out]), ((Ext.refl _).alloc _).alloc _⟩
     ·have ew : (wh != -1) = true := by simpa using kw
      have HE := hide (show actE p ⟨t, k, who, wt, wh⟩ = 7 by unfold actE; rw [if_pos h1])
      clear k4 k1 kw
      have HT := hide (fun V => out_any t 0 100000 V)
      have HK := hide (fun V => demand_dummy V)
      have HW := hide (fun V => demand_dummy V)
      have HN := hide (fun V => demand_dummy V)
      have HV := hide (fun V => demand_dummy V)
      have HB := hide (fun V => demand_dummy V)
      rw [h1] at HT
      clear h1
      go_enter Try.func65, Try.ntmps65
      go_wp2_with (first
       | (go_at_call 37; (first | (with_reducible refine (HT.out _).mono ?_) | (with_reducible refine (HK.out _).mono ?_) | (with_reducible refine (HB.out _).mono ?_)); rintro e w' ⟨rfl, rfl⟩)
       | (go_at_call 85; (first | (with_reducible refine (HW.out _).mono ?_) | (with_reducible refine (HN.out _).mono ?_) | (with_reducible refine (HV.out _).mono ?_)); rintro e w' ⟨rfl, rfl⟩))
      go_ret
      exact ⟨ret_int (by rw [HE.out]), ((Ext.refl _).alloc _).alloc _⟩
    ·have e1 : (k == 1) = false := by simpa using k1
     have HE := hide (show actE p ⟨t, k, who, wt, wh⟩ = 7 by unfold actE; rw [if_pos h1])
     clear k4 k1
     have HT := hide (fun V => out_any t 0 100000 V)
     have HK := hide (fun V => demand_dummy V)
     have HW := hide (fun V => demand_dummy V)
     have HN := hide (fun V => demand_dummy V)
     have HV := hide (fun V => demand_dummy V)
     have HB := hide (fun V => demand_dummy V)
     rw [h1] at HT
     clear h1
     go_enter Try.func65, Try.ntmps65
     go_wp2_with (first
      | (go_at_call 37; (first | (with_reducible refine (HT.out _).mono ?_) | (with_reducible refine (HK.out _).mono ?_) | (with_reducible refine (HB.out _).mono ?_)); rintro e w' ⟨rfl, rfl⟩)
      | (go_at_call 85; (first | (with_reducible refine (HW.out _).mono ?_) | (with_reducible refine (HN.out _).mono ?_) | (with_reducible refine (HV.out _).mono ?_)); rintro e w' ⟨rfl, rfl⟩))
     go_ret
     exact ⟨ret_int (by rw [HE.out]), ((Ext.refl _).alloc _).alloc _⟩
 | false =>
   cases h2 : outB k 1 9 with
   | true =>
     clear h hd4 hd1 hdw
     by_cases k4 : k = 4
     ·have e4 : (k == 4) = true := by simpa using k4
      have HE := hide (show actE p ⟨t, k, who, wt, wh⟩ = 2 by unfold actE; rw [if_neg (by rw [h1]; decide), if_pos h2])
      clear k4
      have HT := hide (fun V => out_any t 0 100000 V)
      have HK := hide (fun V => out_any k 1 9 V)
      have HW := hide (fun V => demand_dummy V)
      have HN := hide (fun V => demand_dummy V)
      have HV := hide (fun V => demand_dummy V)
      have HB := hide (fun V => demand_dummy V)
      rw [h1] at HT
      rw [h2] at HK
      clear h1 h2
      go_enter Try.func65, Try.ntmps65
      go_wp2_with (first
       | (go_at_call 37; (first | (with_reducible refine (HT.out _).mono ?_) | (with_reducible refine (HK.out _).mono ?_) | (with_reducible refine (HB.out _).mono ?_)); rintro e w' ⟨rfl, rfl⟩)
       | (go_at_call 85; (first | (with_reducible refine (HW.out _).mono ?_) | (with_reducible refine (HN.out _).mono ?_) | (with_reducible refine (HV.out _).mono ?_)); rintro e w' ⟨rfl, rfl⟩))
      go_ret
      exact ⟨ret_int (by rw [HE.out]), ((Ext.refl _).alloc _).alloc _⟩
     ·have e4 : (k == 4) = false := by simpa using k4
      by_cases k1 : k = 1
      ·have e1 : (k == 1) = true := by simpa using k1
       by_cases kw : wh = -1
       ·have ew : (wh != -1) = false := by simpa using kw
        have HE := hide (show actE p ⟨t, k, who, wt, wh⟩ = 2 by unfold actE; rw [if_neg (by rw [h1]; decide), if_pos h2])
        clear k4 k1 kw
        have HT := hide (fun V => out_any t 0 100000 V)
        have HK := hide (fun V => out_any k 1 9 V)
        have HW := hide (fun V => demand_dummy V)
        have HN := hide (fun V => demand_dummy V)
        have HV := hide (fun V => demand_dummy V)
        have HB := hide (fun V => demand_dummy V)
        rw [h1] at HT
        rw [h2] at HK
        clear h1 h2
        go_enter Try.func65, Try.ntmps65
        go_wp2_with (first
         | (go_at_call 37; (first | (with_reducible refine (HT.out _).mono ?_) | (with_reducible refine (HK.out _).mono ?_) | (with_reducible refine (HB.out _).mono ?_)); rintro e w' ⟨rfl, rfl⟩)
         | (go_at_call 85; (first | (with_reducible refine (HW.out _).mono ?_) | (with_reducible refine (HN.out _).mono ?_) | (with_reducible refine (HV.out _).mono ?_)); rintro e w' ⟨rfl, rfl⟩))
        go_ret
        exact ⟨ret_int (by rw [HE.out]), ((Ext.refl _).alloc _).alloc _⟩
       ·have ew : (wh != -1) = true := by simpa using kw
        have HE := hide (show actE p ⟨t, k, who, wt, wh⟩ = 2 by unfold actE; rw [if_neg (by rw [h1]; decide), if_pos h2])
        clear k4 k1 kw
        have HT := hide (fun V => out_any t 0 100000 V)
        have HK := hide (fun V => out_any k 1 9 V)
        have HW := hide (fun V => demand_dummy V)
        have HN := hide (fun V => demand_dummy V)
        have HV := hide (fun V => demand_dummy V)
        have HB := hide (fun V => demand_dummy V)
        rw [h1] at HT
        rw [h2] at HK
        clear h1 h2
        go_enter Try.func65, Try.ntmps65
        go_wp2_with (first
         | (go_at_call 37; (first | (with_reducible refine (HT.out _).mono ?_) | (with_reducible refine (HK.out _).mono ?_) | (with_reducible refine (HB.out _).mono ?_)); rintro e w' ⟨rfl, rfl⟩)
         | (go_at_call 85; (first | (with_reducible refine (HW.out _).mono ?_) | (with_reducible refine (HN.out _).mono ?_) | (with_reducible refine (HV.out _).mono ?_)); rintro e w' ⟨rfl, rfl⟩))
        go_ret
        exact ⟨ret_int (by rw [HE.out]), ((Ext.refl _).alloc _).alloc _⟩
      ·have e1 : (k == 1) = false := by simpa using k1
       have HE := hide (show actE p ⟨t, k, who, wt, wh⟩ = 2 by unfold actE; rw [if_neg (by rw [h1]; decide), if_pos h2])
       clear k4 k1
       have HT := hide (fun V => out_any t 0 100000 V)
       have HK := hide (fun V => out_any k 1 9 V)
       have HW := hide (fun V => demand_dummy V)
       have HN := hide (fun V => demand_dummy V)
       have HV := hide (fun V => demand_dummy V)
       have HB := hide (fun V => demand_dummy V)
       rw [h1] at HT
       rw [h2] at HK
       clear h1 h2
       go_enter Try.func65, Try.ntmps65
       go_wp2_with (first
        | (go_at_call 37; (first | (with_reducible refine (HT.out _).mono ?_) | (with_reducible refine (HK.out _).mono ?_) | (with_reducible refine (HB.out _).mono ?_)); rintro e w' ⟨rfl, rfl⟩)
        | (go_at_call 85; (first | (with_reducible refine (HW.out _).mono ?_) | (with_reducible refine (HN.out _).mono ?_) | (with_reducible refine (HV.out _).mono ?_)); rintro e w' ⟨rfl, rfl⟩))
       go_ret
       exact ⟨ret_int (by rw [HE.out]), ((Ext.refl _).alloc _).alloc _⟩
   | false =>
     cases h3 : outB who 0 ((p.people.length : Int) - 1) with
     | true =>
       clear h hd4 hd1 hdw
       by_cases k4 : k = 4
       ·have e4 : (k == 4) = true := by simpa using k4
        have HE := hide (show actE p ⟨t, k, who, wt, wh⟩ = 4 by unfold actE; rw [if_neg (by rw [h1]; decide), if_neg (by rw [h2]; decide), if_pos h3])
        clear k4
        have HT := hide (fun V => out_any t 0 100000 V)
        have HK := hide (fun V => out_any k 1 9 V)
        have HW := hide (fun V => act1_any who p.people.length n2 V)
        have HN := hide (fun V => demand_dummy V)
        have HV := hide (fun V => demand_dummy V)
        have HB := hide (fun V => demand_dummy V)
        rw [h1] at HT
        rw [h2] at HK
        rw [h3] at HW
        clear h1 h2 h3
        go_enter Try.func65, Try.ntmps65
        go_wp2_with (first
         | (go_at_call 37; (first | (with_reducible refine (HT.out _).mono ?_) | (with_reducible refine (HK.out _).mono ?_) | (with_reducible refine (HB.out _).mono ?_)); rintro e w' ⟨rfl, rfl⟩)
         | (go_at_call 85; (first | (with_reducible refine (HW.out _).mono ?_) | (with_reducible refine (HN.out _).mono ?_) | (with_reducible refine (HV.out _).mono ?_)); rintro e w' ⟨rfl, rfl⟩))
        go_ret
        exact ⟨ret_int (by rw [HE.out]), ((Ext.refl _).alloc _).alloc _⟩
       ·have e4 : (k == 4) = false := by simpa using k4
        by_cases k1 : k = 1
        ·have e1 : (k == 1) = true := by simpa using k1
         by_cases kw : wh = -1
         ·have ew : (wh != -1) = false := by simpa using kw
          have HE := hide (show actE p ⟨t, k, who, wt, wh⟩ = 4 by unfold actE; rw [if_neg (by rw [h1]; decide), if_neg (by rw [h2]; decide), if_pos h3])
          clear k4 k1 kw
          have HT := hide (fun V => out_any t 0 100000 V)
          have HK := hide (fun V => out_any k 1 9 V)
          have HW := hide (fun V => act1_any who p.people.length n2 V)
          have HN := hide (fun V => demand_dummy V)
          have HV := hide (fun V => demand_dummy V)
          have HB := hide (fun V => demand_dummy V)
          rw [h1] at HT
          rw [h2] at HK
          rw [h3] at HW
          clear h1 h2 h3
          go_enter Try.func65, Try.ntmps65
          go_wp2_with (first
           | (go_at_call 37; (first | (with_reducible refine (HT.out _).mono ?_) | (with_reducible refine (HK.out _).mono ?_) | (with_reducible refine (HB.out _).mono ?_)); rintro e w' ⟨rfl, rfl⟩)
           | (go_at_call 85; (first | (with_reducible refine (HW.out _).mono ?_) | (with_reducible refine (HN.out _).mono ?_) | (with_reducible refine (HV.out _).mono ?_)); rintro e w' ⟨rfl, rfl⟩))
          go_ret
          exact ⟨ret_int (by rw [HE.out]), ((Ext.refl _).alloc _).alloc _⟩
         ·have ew : (wh != -1) = true := by simpa using kw
          have HE := hide (show actE p ⟨t, k, who, wt, wh⟩ = 4 by unfold actE; rw [if_neg (by rw [h1]; decide), if_neg (by rw [h2]; decide), if_pos h3])
          clear k4 k1 kw
          have HT := hide (fun V => out_any t 0 100000 V)
          have HK := hide (fun V => out_any k 1 9 V)
          have HW := hide (fun V => act1_any who p.people.length n2 V)
          have HN := hide (fun V => demand_dummy V)
          have HV := hide (fun V => demand_dummy V)
          have HB := hide (fun V => demand_dummy V)
          rw [h1] at HT
          rw [h2] at HK
          rw [h3] at HW
          clear h1 h2 h3
          go_enter Try.func65, Try.ntmps65
          go_wp2_with (first
           | (go_at_call 37; (first | (with_reducible refine (HT.out _).mono ?_) | (with_reducible refine (HK.out _).mono ?_) | (with_reducible refine (HB.out _).mono ?_)); rintro e w' ⟨rfl, rfl⟩)
           | (go_at_call 85; (first | (with_reducible refine (HW.out _).mono ?_) | (with_reducible refine (HN.out _).mono ?_) | (with_reducible refine (HV.out _).mono ?_)); rintro e w' ⟨rfl, rfl⟩))
          go_ret
          exact ⟨ret_int (by rw [HE.out]), ((Ext.refl _).alloc _).alloc _⟩
        ·have e1 : (k == 1) = false := by simpa using k1
         have HE := hide (show actE p ⟨t, k, who, wt, wh⟩ = 4 by unfold actE; rw [if_neg (by rw [h1]; decide), if_neg (by rw [h2]; decide), if_pos h3])
         clear k4 k1
         have HT := hide (fun V => out_any t 0 100000 V)
         have HK := hide (fun V => out_any k 1 9 V)
         have HW := hide (fun V => act1_any who p.people.length n2 V)
         have HN := hide (fun V => demand_dummy V)
         have HV := hide (fun V => demand_dummy V)
         have HB := hide (fun V => demand_dummy V)
         rw [h1] at HT
         rw [h2] at HK
         rw [h3] at HW
         clear h1 h2 h3
         go_enter Try.func65, Try.ntmps65
         go_wp2_with (first
          | (go_at_call 37; (first | (with_reducible refine (HT.out _).mono ?_) | (with_reducible refine (HK.out _).mono ?_) | (with_reducible refine (HB.out _).mono ?_)); rintro e w' ⟨rfl, rfl⟩)
          | (go_at_call 85; (first | (with_reducible refine (HW.out _).mono ?_) | (with_reducible refine (HN.out _).mono ?_) | (with_reducible refine (HV.out _).mono ?_)); rintro e w' ⟨rfl, rfl⟩))
         go_ret
         exact ⟨ret_int (by rw [HE.out]), ((Ext.refl _).alloc _).alloc _⟩
     | false => rw [h1, h2, h3] at h; cases h
set_option maxRecDepth 100000 in
set_option maxHeartbeats 4000000 in
/-- act, kind 1 -/
theorem act_k1 (X : PadX) (p : Pad) (t who wt wh : Int) (w : World) (hX : PadAt w X p) (h1 : outB t 0 100000 = false) (h3 : outB who 0 ((p.people.length : Int) - 1) = false) :
 Calls Try.prog 65 #[.agg #[.slice X.az p.zones.length X.cz, .slice X.ad p.doors.length X.cd, .slice X.ap p.people.length X.cp, .slice X.ak p.keys.length X.ck, .slice X.aq p.squibs.length X.cq, .int .i64 p.panel, .int .i64 p.wait], .agg #[.int .i64 t, .int .i64 1, .int .i64 who, .int .i64 wt, .int .i64 wh]] w fun e w' => e = .returned (.int .i64 (actE p ⟨t, 1, who, wt, wh⟩)) ∧ Ext w w' := by
 obtain ⟨az, cz, ad, cd, ap, cp, ak, ck, aq, cq⟩ := X
 have hz := hX.z.rows
 have hx := hX.x.rows
 have hk := hX.k.rows
 have hq := hX.q.rows
 dsimp only at hz hx hk hq
 have n1 : p.zones.length ≤ 9223372036854775807 := by omega
 have n2 : p.people.length ≤ 9223372036854775807 := by omega
 have n3 : p.keys.length ≤ 9223372036854775807 := by omega
 have n4 : p.squibs.length ≤ 9223372036854775807 := by omega
 clear hz hx hk hq hX
 have h2 : outB 1 1 9 = false := by decide
 by_cases h0 : wt = -1
 ·have e0 : (wt != -1) = false := by simpa using h0
  by_cases hw : wh = -1
  ·have ew : (wh != -1) = false := by simpa using hw
   have ew2 : (wh == -1) = true := by simpa using hw
   have HE := hide (show actE p ⟨t, 1, who, wt, wh⟩ = 0 by unfold actE whatE withB; dsimp only; rw [if_neg (by rw [h1]; decide), if_neg (by rw [h2]; decide), if_neg (by rw [h3]; decide)]; simp [h0, hw])
   have HT := hide (fun V => out_any t 0 100000 V)
   have HK := hide (fun V => out_any 1 1 9 V)
   have HW := hide (fun V => act1_any who p.people.length n2 V)
   have HN := hide (fun V => demand_dummy V)
   have HV := hide (fun V => demand_dummy V)
   have HB := hide (fun V => demand_dummy V)
   rw [h1] at HT
   rw [h2] at HK
   rw [h3] at HW
   clear h1 h2 h3 h0 hw
   go_enter Try.func65, Try.ntmps65
   go_wp2_with (first
    | (go_at_call 37; (first | (with_reducible refine (HT.out _).mono ?_) | (with_reducible refine (HK.out _).mono ?_) | (with_reducible refine (HB.out _).mono ?_)); rintro e w' ⟨rfl, rfl⟩)
    | (go_at_call 85; (first | (with_reducible refine (HW.out _).mono ?_) | (with_reducible refine (HN.out _).mono ?_) | (with_reducible refine (HV.out _).mono ?_)); rintro e w' ⟨rfl, rfl⟩))
   go_ret
   exact ⟨ret_int (by rw [HE.out]), ((Ext.refl _).alloc _).alloc _⟩
  ·have ew : (wh != -1) = true := by simpa using hw
   have ew2 : (wh == -1) = false := by simpa using hw
   cases h5 : outB wh 0 ((p.people.length : Int) - 1) with
   | true =>
     have HE := hide (show actE p ⟨t, 1, who, wt, wh⟩ = 4 by unfold actE whatE withB; dsimp only; rw [if_neg (by rw [h1]; decide), if_neg (by rw [h2]; decide), if_neg (by rw [h3]; decide)]; simp [h0, hw, h5])
     have HT := hide (fun V => out_any t 0 100000 V)
     have HK := hide (fun V => out_any 1 1 9 V)
     have HW := hide (fun V => act1_any who p.people.length n2 V)
     have HV := hide (fun V => act1_any wh p.people.length n2 V)
     have HN := hide (fun V => demand_dummy V)
     have HB := hide (fun V => demand_dummy V)
     rw [h1] at HT
     rw [h2] at HK
     rw [h3] at HW
     rw [h5] at HV
     clear h1 h2 h3 h0 hw h5
     go_enter Try.func65, Try.ntmps65
     go_wp2_with (first
      | (go_at_call 37; (first | (with_reducible refine (HT.out _).mono ?_) | (with_reducible refine (HK.out _).mono ?_) | (with_reducible refine (HB.out _).mono ?_)); rintro e w' ⟨rfl, rfl⟩)
      | (go_at_call 85; (first | (with_reducible refine (HW.out _).mono ?_) | (with_reducible refine (HN.out _).mono ?_) | (with_reducible refine (HV.out _).mono ?_)); rintro e w' ⟨rfl, rfl⟩))
     go_ret
     exact ⟨ret_int (by rw [HE.out]), ((Ext.refl _).alloc _).alloc _⟩
   | false =>
     by_cases h6 : wh = who
     ·have e6 : (wh == who) = true := by simpa using h6
      have HE := hide (show actE p ⟨t, 1, who, wt, wh⟩ = 2 by unfold actE whatE withB; dsimp only; rw [if_neg (by rw [h1]; decide), if_neg (by rw [h2]; decide), if_neg (by rw [h3]; decide)]; simp [h0, show ¬ who = -1 from h6 ▸ hw, h3, h6])
      have HT := hide (fun V => out_any t 0 100000 V)
      have HK := hide (fun V => out_any 1 1 9 V)
      have HW := hide (fun V => act1_any who p.people.length n2 V)
      have HV := hide (fun V => act1_any wh p.people.length n2 V)
      have HN := hide (fun V => demand_dummy V)
      have HB := hide (fun V => demand_dummy V)
      rw [h1] at HT
      rw [h2] at HK
      rw [h3] at HW
      rw [h5] at HV
      clear h1 h2 h3 h0 hw h5 h6
      go_enter Try.func65, Try.ntmps65
      go_wp2_with (first
       | (go_at_call 37; (first | (with_reducible refine (HT.out _).mono ?_) | (with_reducible refine (HK.out _).mono ?_) | (with_reducible refine (HB.out _).mono ?_)); rintro e w' ⟨rfl, rfl⟩)
       | (go_at_call 85; (first | (with_reducible refine (HW.out _).mono ?_) | (with_reducible refine (HN.out _).mono ?_) | (with_reducible refine (HV.out _).mono ?_)); rintro e w' ⟨rfl, rfl⟩))
      go_ret
      exact ⟨ret_int (by rw [HE.out]), ((Ext.refl _).alloc _).alloc _⟩
     ·have e6 : (wh == who) = false := by simpa using h6
      have HE := hide (show actE p ⟨t, 1, who, wt, wh⟩ = 0 by unfold actE whatE withB; dsimp only; rw [if_neg (by rw [h1]; decide), if_neg (by rw [h2]; decide), if_neg (by rw [h3]; decide)]; simp [h0, hw, h5, h6])
      have HT := hide (fun V => out_any t 0 100000 V)
      have HK := hide (fun V => out_any 1 1 9 V)
      have HW := hide (fun V => act1_any who p.people.length n2 V)
      have HV := hide (fun V => act1_any wh p.people.length n2 V)
      have HN := hide (fun V => demand_dummy V)
      have HB := hide (fun V => demand_dummy V)
      rw [h1] at HT
      rw [h2] at HK
      rw [h3] at HW
      rw [h5] at HV
      clear h1 h2 h3 h0 hw h5 h6
      go_enter Try.func65, Try.ntmps65
      go_wp2_with (first
       | (go_at_call 37; (first | (with_reducible refine (HT.out _).mono ?_) | (with_reducible refine (HK.out _).mono ?_) | (with_reducible refine (HB.out _).mono ?_)); rintro e w' ⟨rfl, rfl⟩)
       | (go_at_call 85; (first | (with_reducible refine (HW.out _).mono ?_) | (with_reducible refine (HN.out _).mono ?_) | (with_reducible refine (HV.out _).mono ?_)); rintro e w' ⟨rfl, rfl⟩))
      go_ret
      exact ⟨ret_int (by rw [HE.out]), ((Ext.refl _).alloc _).alloc _⟩
 ·have e0 : (wt != -1) = true := by simpa using h0
  cases h4 : outB wt 0 ((p.zones.length : Int) - 1) with
  | true =>
    by_cases hw : wh = -1
    ·have ew : (wh != -1) = false := by simpa using hw
     have HE := hide (show actE p ⟨t, 1, who, wt, wh⟩ = 4 by unfold actE whatE withB; dsimp only; rw [if_neg (by rw [h1]; decide), if_neg (by rw [h2]; decide), if_neg (by rw [h3]; decide)]; simp [h4, h0])
     have HT := hide (fun V => out_any t 0 100000 V)
     have HK := hide (fun V => out_any 1 1 9 V)
     have HW := hide (fun V => act1_any who p.people.length n2 V)
     have HN := hide (fun V => act1_any wt p.zones.length n1 V)
     have HV := hide (fun V => demand_dummy V)
     have HB := hide (fun V => demand_dummy V)
     rw [h1] at HT
     rw [h2] at HK
     rw [h3] at HW
     rw [h4] at HN
     clear h1 h2 h3 h0 h4 hw
     go_enter Try.func65, Try.ntmps65
     go_wp2_with (first
      | (go_at_call 37; (first | (with_reducible refine (HT.out _).mono ?_) | (with_reducible refine (HK.out _).mono ?_) | (with_reducible refine (HB.out _).mono ?_)); rintro e w' ⟨rfl, rfl⟩)
      | (go_at_call 85; (first | (with_reducible refine (HW.out _).mono ?_) | (with_reducible refine (HN.out _).mono ?_) | (with_reducible refine (HV.out _).mono ?_)); rintro e w' ⟨rfl, rfl⟩))
     go_ret
     exact ⟨ret_int (by rw [HE.out]), ((Ext.refl _).alloc _).alloc _⟩
    ·have ew : (wh != -1) = true := by simpa using hw
     have HE := hide (show actE p ⟨t, 1, who, wt, wh⟩ = 4 by unfold actE whatE withB; dsimp only; rw [if_neg (by rw [h1]; decide), if_neg (by rw [h2]; decide), if_neg (by rw [h3]; decide)]; simp [h4, h0])
     have HT := hide (fun V => out_any t 0 100000 V)
     have HK := hide (fun V => out_any 1 1 9 V)
     have HW := hide (fun V => act1_any who p.people.length n2 V)
     have HN := hide (fun V => act1_any wt p.zones.length n1 V)
     have HV := hide (fun V => demand_dummy V)
     have HB := hide (fun V => demand_dummy V)
     rw [h1] at HT
     rw [h2] at HK
     rw [h3] at HW
     rw [h4] at HN
     clear h1 h2 h3 h0 h4 hw
     go_enter Try.func65, Try.ntmps65
     go_wp2_with (first
      | (go_at_call 37; (first | (with_reducible refine (HT.out _).mono ?_) | (with_reducible refine (HK.out _).mono ?_) | (with_reducible refine (HB.out _).mono ?_)); rintro e w' ⟨rfl, rfl⟩)
      | (go_at_call 85; (first | (with_reducible refine (HW.out _).mono ?_) | (with_reducible refine (HN.out _).mono ?_) | (with_reducible refine (HV.out _).mono ?_)); rintro e w' ⟨rfl, rfl⟩))
     go_ret
     exact ⟨ret_int (by rw [HE.out]), ((Ext.refl _).alloc _).alloc _⟩
  | false =>
    by_cases hw : wh = -1
    ·have ew : (wh != -1) = false := by simpa using hw
     have ew2 : (wh == -1) = true := by simpa using hw
     have HE := hide (show actE p ⟨t, 1, who, wt, wh⟩ = 0 by unfold actE whatE withB; dsimp only; rw [if_neg (by rw [h1]; decide), if_neg (by rw [h2]; decide), if_neg (by rw [h3]; decide)]; simp [h4, h0, hw])
     have HT := hide (fun V => out_any t 0 100000 V)
     have HK := hide (fun V => out_any 1 1 9 V)
     have HW := hide (fun V => act1_any who p.people.length n2 V)
     have HN := hide (fun V => act1_any wt p.zones.length n1 V)
     have HV := hide (fun V => demand_dummy V)
     have HB := hide (fun V => demand_dummy V)
     rw [h1] at HT
     rw [h2] at HK
     rw [h3] at HW
     rw [h4] at HN
     clear h1 h2 h3 h0 h4 hw
     go_enter Try.func65, Try.ntmps65
     go_wp2_with (first
      | (go_at_call 37; (first | (with_reducible refine (HT.out _).mono ?_) | (with_reducible refine (HK.out _).mono ?_) | (with_reducible refine (HB.out _).mono ?_)); rintro e w' ⟨rfl, rfl⟩)
      | (go_at_call 85; (first | (with_reducible refine (HW.out _).mono ?_) | (with_reducible refine (HN.out _).mono ?_) | (with_reducible refine (HV.out _).mono ?_)); rintro e w' ⟨rfl, rfl⟩))
     go_ret
     exact ⟨ret_int (by rw [HE.out]), ((Ext.refl _).alloc _).alloc _⟩
    ·have ew : (wh != -1) = true := by simpa using hw
     have ew2 : (wh == -1) = false := by simpa using hw
     cases h5 : outB wh 0 ((p.people.length : Int) - 1) with
     | true =>
       have HE := hide (show actE p ⟨t, 1, who, wt, wh⟩ = 4 by unfold actE whatE withB; dsimp only; rw [if_neg (by rw [h1]; decide), if_neg (by rw [h2]; decide), if_neg (by rw [h3]; decide)]; simp [h4, h0, hw, h5])
       have HT := hide (fun V => out_any t 0 100000 V)
       have HK := hide (fun V => out_any 1 1 9 V)
       have HW := hide (fun V => act1_any who p.people.length n2 V)
       have HN := hide (fun V => act1_any wt p.zones.length n1 V)
       have HV := hide (fun V => act1_any wh p.people.length n2 V)
       have HB := hide (fun V => demand_dummy V)
       rw [h1] at HT
       rw [h2] at HK
       rw [h3] at HW
       rw [h4] at HN
       rw [h5] at HV
       clear h1 h2 h3 h0 h4 hw h5
       go_enter Try.func65, Try.ntmps65
       go_wp2_with (first
        | (go_at_call 37; (first | (with_reducible refine (HT.out _).mono ?_) | (with_reducible refine (HK.out _).mono ?_) | (with_reducible refine (HB.out _).mono ?_)); rintro e w' ⟨rfl, rfl⟩)
        | (go_at_call 85; (first | (with_reducible refine (HW.out _).mono ?_) | (with_reducible refine (HN.out _).mono ?_) | (with_reducible refine (HV.out _).mono ?_)); rintro e w' ⟨rfl, rfl⟩))
       go_ret
       exact ⟨ret_int (by rw [HE.out]), ((Ext.refl _).alloc _).alloc _⟩
     | false =>
       by_cases h6 : wh = who
       ·have e6 : (wh == who) = true := by simpa using h6
        have HE := hide (show actE p ⟨t, 1, who, wt, wh⟩ = 2 by unfold actE whatE withB; dsimp only; rw [if_neg (by rw [h1]; decide), if_neg (by rw [h2]; decide), if_neg (by rw [h3]; decide)]; simp [h4, h0, show ¬ who = -1 from h6 ▸ hw, h3, h6])
        have HT := hide (fun V => out_any t 0 100000 V)
        have HK := hide (fun V => out_any 1 1 9 V)
        have HW := hide (fun V => act1_any who p.people.length n2 V)
        have HN := hide (fun V => act1_any wt p.zones.length n1 V)
        have HV := hide (fun V => act1_any wh p.people.length n2 V)
        have HB := hide (fun V => demand_dummy V)
        rw [h1] at HT
        rw [h2] at HK
        rw [h3] at HW
        rw [h4] at HN
        rw [h5] at HV
        clear h1 h2 h3 h0 h4 hw h5 h6
        go_enter Try.func65, Try.ntmps65
        go_wp2_with (first
         | (go_at_call 37; (first | (with_reducible refine (HT.out _).mono ?_) | (with_reducible refine (HK.out _).mono ?_) | (with_reducible refine (HB.out _).mono ?_)); rintro e w' ⟨rfl, rfl⟩)
         | (go_at_call 85; (first | (with_reducible refine (HW.out _).mono ?_) | (with_reducible refine (HN.out _).mono ?_) | (with_reducible refine (HV.out _).mono ?_)); rintro e w' ⟨rfl, rfl⟩))
        go_ret
        exact ⟨ret_int (by rw [HE.out]), ((Ext.refl _).alloc _).alloc _⟩
       ·have e6 : (wh == who) = false := by simpa using h6
        have HE := hide (show actE p ⟨t, 1, who, wt, wh⟩ = 0 by unfold actE whatE withB; dsimp only; rw [if_neg (by rw [h1]; decide), if_neg (by rw [h2]; decide), if_neg (by rw [h3]; decide)]; simp [h4, h0, hw, h5, h6])
        have HT := hide (fun V => out_any t 0 100000 V)
        have HK := hide (fun V => out_any 1 1 9 V)
        have HW := hide (fun V => act1_any who p.people.length n2 V)
        have HN := hide (fun V => act1_any wt p.zones.length n1 V)
        have HV := hide (fun V => act1_any wh p.people.length n2 V)
        have HB := hide (fun V => demand_dummy V)
        rw [h1] at HT
        rw [h2] at HK
        rw [h3] at HW
        rw [h4] at HN
        rw [h5] at HV
        clear h1 h2 h3 h0 h4 hw h5 h6
        go_enter Try.func65, Try.ntmps65
        go_wp2_with (first
         | (go_at_call 37; (first | (with_reducible refine (HT.out _).mono ?_) | (with_reducible refine (HK.out _).mono ?_) | (with_reducible refine (HB.out _).mono ?_)); rintro e w' ⟨rfl, rfl⟩)
         | (go_at_call 85; (first | (with_reducible refine (HW.out _).mono ?_) | (with_reducible refine (HN.out _).mono ?_) | (with_reducible refine (HV.out _).mono ?_)); rintro e w' ⟨rfl, rfl⟩))
        go_ret
        exact ⟨ret_int (by rw [HE.out]), ((Ext.refl _).alloc _).alloc _⟩
set_option maxRecDepth 100000 in
set_option maxHeartbeats 4000000 in
/-- act, kind 2 -/
theorem act_k2 (X : PadX) (p : Pad) (t who wt wh : Int) (w : World) (hX : PadAt w X p) (h1 : outB t 0 100000 = false) (h3 : outB who 0 ((p.people.length : Int) - 1) = false) :
 Calls Try.prog 65 #[.agg #[.slice X.az p.zones.length X.cz, .slice X.ad p.doors.length X.cd, .slice X.ap p.people.length X.cp, .slice X.ak p.keys.length X.ck, .slice X.aq p.squibs.length X.cq, .int .i64 p.panel, .int .i64 p.wait], .agg #[.int .i64 t, .int .i64 2, .int .i64 who, .int .i64 wt, .int .i64 wh]] w fun e w' => e = .returned (.int .i64 (actE p ⟨t, 2, who, wt, wh⟩)) ∧ Ext w w' := by
 obtain ⟨az, cz, ad, cd, ap, cp, ak, ck, aq, cq⟩ := X
 have hz := hX.z.rows
 have hx := hX.x.rows
 have hk := hX.k.rows
 have hq := hX.q.rows
 dsimp only at hz hx hk hq
 have n1 : p.zones.length ≤ 9223372036854775807 := by omega
 have n2 : p.people.length ≤ 9223372036854775807 := by omega
 have n3 : p.keys.length ≤ 9223372036854775807 := by omega
 have n4 : p.squibs.length ≤ 9223372036854775807 := by omega
 clear hz hx hk hq hX
 have h2 : outB 2 1 9 = false := by decide
 cases h4 : outB wt 0 ((p.keys.length : Int) - 1) with
 | true =>
   have HE := hide (show actE p ⟨t, 2, who, wt, wh⟩ = 4 by unfold actE whatE withB; dsimp only; rw [if_neg (by rw [h1]; decide), if_neg (by rw [h2]; decide), if_neg (by rw [h3]; decide)]; simp [h4])
   have HT := hide (fun V => out_any t 0 100000 V)
   have HK := hide (fun V => out_any 2 1 9 V)
   have HW := hide (fun V => act1_any who p.people.length n2 V)
   have HN := hide (fun V => act1_any wt p.keys.length n3 V)
   have HV := hide (fun V => demand_dummy V)
   have HB := hide (fun V => demand_dummy V)
   rw [h1] at HT
   rw [h2] at HK
   rw [h3] at HW
   rw [h4] at HN
   clear h1 h2 h3 h4
   go_enter Try.func65, Try.ntmps65
   go_wp2_with (first
    | (go_at_call 37; (first | (with_reducible refine (HT.out _).mono ?_) | (with_reducible refine (HK.out _).mono ?_) | (with_reducible refine (HB.out _).mono ?_)); rintro e w' ⟨rfl, rfl⟩)
    | (go_at_call 85; (first | (with_reducible refine (HW.out _).mono ?_) | (with_reducible refine (HN.out _).mono ?_) | (with_reducible refine (HV.out _).mono ?_)); rintro e w' ⟨rfl, rfl⟩))
   go_ret
   exact ⟨ret_int (by rw [HE.out]), ((Ext.refl _).alloc _).alloc _⟩
 | false =>
   by_cases hw : wh = -1
   ·have ew : (wh != -1) = false := by simpa using hw
    have ew2 : (wh == -1) = true := by simpa using hw
    have HE := hide (show actE p ⟨t, 2, who, wt, wh⟩ = 0 by unfold actE whatE withB; dsimp only; rw [if_neg (by rw [h1]; decide), if_neg (by rw [h2]; decide), if_neg (by rw [h3]; decide)]; simp [h4, hw])
    have HT := hide (fun V => out_any t 0 100000 V)
    have HK := hide (fun V => out_any 2 1 9 V)
    have HW := hide (fun V => act1_any who p.people.length n2 V)
    have HN := hide (fun V => act1_any wt p.keys.length n3 V)
    have HV := hide (fun V => demand_dummy V)
    have HB := hide (fun V => demand_dummy V)
    rw [h1] at HT
    rw [h2] at HK
    rw [h3] at HW
    rw [h4] at HN
    clear h1 h2 h3 h4 hw
    go_enter Try.func65, Try.ntmps65
    go_wp2_with (first
     | (go_at_call 37; (first | (with_reducible refine (HT.out _).mono ?_) | (with_reducible refine (HK.out _).mono ?_) | (with_reducible refine (HB.out _).mono ?_)); rintro e w' ⟨rfl, rfl⟩)
     | (go_at_call 85; (first | (with_reducible refine (HW.out _).mono ?_) | (with_reducible refine (HN.out _).mono ?_) | (with_reducible refine (HV.out _).mono ?_)); rintro e w' ⟨rfl, rfl⟩))
    go_ret
    exact ⟨ret_int (by rw [HE.out]), ((Ext.refl _).alloc _).alloc _⟩
   ·have ew : (wh != -1) = true := by simpa using hw
    have ew2 : (wh == -1) = false := by simpa using hw
    have HE := hide (show actE p ⟨t, 2, who, wt, wh⟩ = 2 by unfold actE whatE withB; dsimp only; rw [if_neg (by rw [h1]; decide), if_neg (by rw [h2]; decide), if_neg (by rw [h3]; decide)]; simp [h4, hw])
    have HT := hide (fun V => out_any t 0 100000 V)
    have HK := hide (fun V => out_any 2 1 9 V)
    have HW := hide (fun V => act1_any who p.people.length n2 V)
    have HN := hide (fun V => act1_any wt p.keys.length n3 V)
    have HV := hide (fun V => demand_dummy V)
    have HB := hide (fun V => demand_dummy V)
    rw [h1] at HT
    rw [h2] at HK
    rw [h3] at HW
    rw [h4] at HN
    clear h1 h2 h3 h4 hw
    go_enter Try.func65, Try.ntmps65
    go_wp2_with (first
     | (go_at_call 37; (first | (with_reducible refine (HT.out _).mono ?_) | (with_reducible refine (HK.out _).mono ?_) | (with_reducible refine (HB.out _).mono ?_)); rintro e w' ⟨rfl, rfl⟩)
     | (go_at_call 85; (first | (with_reducible refine (HW.out _).mono ?_) | (with_reducible refine (HN.out _).mono ?_) | (with_reducible refine (HV.out _).mono ?_)); rintro e w' ⟨rfl, rfl⟩))
    go_ret
    exact ⟨ret_int (by rw [HE.out]), ((Ext.refl _).alloc _).alloc _⟩
set_option maxRecDepth 100000 in
set_option maxHeartbeats 4000000 in
/-- act, kind 3 -/
theorem act_k3 (X : PadX) (p : Pad) (t who wt wh : Int) (w : World) (hX : PadAt w X p) (h1 : outB t 0 100000 = false) (h3 : outB who 0 ((p.people.length : Int) - 1) = false) :
 Calls Try.prog 65 #[.agg #[.slice X.az p.zones.length X.cz, .slice X.ad p.doors.length X.cd, .slice X.ap p.people.length X.cp, .slice X.ak p.keys.length X.ck, .slice X.aq p.squibs.length X.cq, .int .i64 p.panel, .int .i64 p.wait], .agg #[.int .i64 t, .int .i64 3, .int .i64 who, .int .i64 wt, .int .i64 wh]] w fun e w' => e = .returned (.int .i64 (actE p ⟨t, 3, who, wt, wh⟩)) ∧ Ext w w' := by
 obtain ⟨az, cz, ad, cd, ap, cp, ak, ck, aq, cq⟩ := X
 have hz := hX.z.rows
 have hx := hX.x.rows
 have hk := hX.k.rows
 have hq := hX.q.rows
 dsimp only at hz hx hk hq
 have n1 : p.zones.length ≤ 9223372036854775807 := by omega
 have n2 : p.people.length ≤ 9223372036854775807 := by omega
 have n3 : p.keys.length ≤ 9223372036854775807 := by omega
 have n4 : p.squibs.length ≤ 9223372036854775807 := by omega
 clear hz hx hk hq hX
 have h2 : outB 3 1 9 = false := by decide
 cases h4 : outB wt 0 ((p.keys.length : Int) - 1) with
 | true =>
   have HE := hide (show actE p ⟨t, 3, who, wt, wh⟩ = 4 by unfold actE whatE withB; dsimp only; rw [if_neg (by rw [h1]; decide), if_neg (by rw [h2]; decide), if_neg (by rw [h3]; decide)]; simp [h4])
   have HT := hide (fun V => out_any t 0 100000 V)
   have HK := hide (fun V => out_any 3 1 9 V)
   have HW := hide (fun V => act1_any who p.people.length n2 V)
   have HN := hide (fun V => act1_any wt p.keys.length n3 V)
   have HV := hide (fun V => demand_dummy V)
   have HB := hide (fun V => demand_dummy V)
   rw [h1] at HT
   rw [h2] at HK
   rw [h3] at HW
   rw [h4] at HN
   clear h1 h2 h3 h4
   go_enter Try.func65, Try.ntmps65
   go_wp2_with (first
    | (go_at_call 37; (first | (with_reducible refine (HT.out _).mono ?_) | (with_reducible refine (HK.out _).mono ?_) | (with_reducible refine (HB.out _).mono ?_)); rintro e w' ⟨rfl, rfl⟩)
    | (go_at_call 85; (first | (with_reducible refine (HW.out _).mono ?_) | (with_reducible refine (HN.out _).mono ?_) | (with_reducible refine (HV.out _).mono ?_)); rintro e w' ⟨rfl, rfl⟩))
   go_ret
   exact ⟨ret_int (by rw [HE.out]), ((Ext.refl _).alloc _).alloc _⟩
 | false =>
   by_cases hw : wh = -1
   ·have ew : (wh != -1) = false := by simpa using hw
    have ew2 : (wh == -1) = true := by simpa using hw
    have HE := hide (show actE p ⟨t, 3, who, wt, wh⟩ = 0 by unfold actE whatE withB; dsimp only; rw [if_neg (by rw [h1]; decide), if_neg (by rw [h2]; decide), if_neg (by rw [h3]; decide)]; simp [h4, hw])
    have HT := hide (fun V => out_any t 0 100000 V)
    have HK := hide (fun V => out_any 3 1 9 V)
    have HW := hide (fun V => act1_any who p.people.length n2 V)
    have HN := hide (fun V => act1_any wt p.keys.length n3 V)
    have HV := hide (fun V => demand_dummy V)
    have HB := hide (fun V => demand_dummy V)
    rw [h1] at HT
    rw [h2] at HK
    rw [h3] at HW
    rw [h4] at HN
    clear h1 h2 h3 h4 hw
    go_enter Try.func65, Try.ntmps65
    go_wp2_with (first
     | (go_at_call 37; (first | (with_reducible refine (HT.out _).mono ?_) | (with_reducible refine (HK.out _).mono ?_) | (with_reducible refine (HB.out _).mono ?_)); rintro e w' ⟨rfl, rfl⟩)
     | (go_at_call 85; (first | (with_reducible refine (HW.out _).mono ?_) | (with_reducible refine (HN.out _).mono ?_) | (with_reducible refine (HV.out _).mono ?_)); rintro e w' ⟨rfl, rfl⟩))
    go_ret
    exact ⟨ret_int (by rw [HE.out]), ((Ext.refl _).alloc _).alloc _⟩
   ·have ew : (wh != -1) = true := by simpa using hw
    have ew2 : (wh == -1) = false := by simpa using hw
    have HE := hide (show actE p ⟨t, 3, who, wt, wh⟩ = 2 by unfold actE whatE withB; dsimp only; rw [if_neg (by rw [h1]; decide), if_neg (by rw [h2]; decide), if_neg (by rw [h3]; decide)]; simp [h4, hw])
    have HT := hide (fun V => out_any t 0 100000 V)
    have HK := hide (fun V => out_any 3 1 9 V)
    have HW := hide (fun V => act1_any who p.people.length n2 V)
    have HN := hide (fun V => act1_any wt p.keys.length n3 V)
    have HV := hide (fun V => demand_dummy V)
    have HB := hide (fun V => demand_dummy V)
    rw [h1] at HT
    rw [h2] at HK
    rw [h3] at HW
    rw [h4] at HN
    clear h1 h2 h3 h4 hw
    go_enter Try.func65, Try.ntmps65
    go_wp2_with (first
     | (go_at_call 37; (first | (with_reducible refine (HT.out _).mono ?_) | (with_reducible refine (HK.out _).mono ?_) | (with_reducible refine (HB.out _).mono ?_)); rintro e w' ⟨rfl, rfl⟩)
     | (go_at_call 85; (first | (with_reducible refine (HW.out _).mono ?_) | (with_reducible refine (HN.out _).mono ?_) | (with_reducible refine (HV.out _).mono ?_)); rintro e w' ⟨rfl, rfl⟩))
    go_ret
    exact ⟨ret_int (by rw [HE.out]), ((Ext.refl _).alloc _).alloc _⟩
set_option maxRecDepth 100000 in
set_option maxHeartbeats 4000000 in
/-- act, kind 4 -/
theorem act_k4 (X : PadX) (p : Pad) (t who wt wh : Int) (w : World) (hX : PadAt w X p) (h1 : outB t 0 100000 = false) (h3 : outB who 0 ((p.people.length : Int) - 1) = false) :
 Calls Try.prog 65 #[.agg #[.slice X.az p.zones.length X.cz, .slice X.ad p.doors.length X.cd, .slice X.ap p.people.length X.cp, .slice X.ak p.keys.length X.ck, .slice X.aq p.squibs.length X.cq, .int .i64 p.panel, .int .i64 p.wait], .agg #[.int .i64 t, .int .i64 4, .int .i64 who, .int .i64 wt, .int .i64 wh]] w fun e w' => e = .returned (.int .i64 (actE p ⟨t, 4, who, wt, wh⟩)) ∧ Ext w w' := by
 obtain ⟨az, cz, ad, cd, ap, cp, ak, ck, aq, cq⟩ := X
 have hz := hX.z.rows
 have hx := hX.x.rows
 have hk := hX.k.rows
 have hq := hX.q.rows
 dsimp only at hz hx hk hq
 have n1 : p.zones.length ≤ 9223372036854775807 := by omega
 have n2 : p.people.length ≤ 9223372036854775807 := by omega
 have n3 : p.keys.length ≤ 9223372036854775807 := by omega
 have n4 : p.squibs.length ≤ 9223372036854775807 := by omega
 clear hz hx hk hq hX
 have h2 : outB 4 1 9 = false := by decide
 cases h4 : outB wt 0 ((p.keys.length : Int) - 1) with
 | true =>
   have HE := hide (show actE p ⟨t, 4, who, wt, wh⟩ = 4 by unfold actE whatE withB; dsimp only; rw [if_neg (by rw [h1]; decide), if_neg (by rw [h2]; decide), if_neg (by rw [h3]; decide)]; simp [h4])
   have HT := hide (fun V => out_any t 0 100000 V)
   have HK := hide (fun V => out_any 4 1 9 V)
   have HW := hide (fun V => act1_any who p.people.length n2 V)
   have HN := hide (fun V => act1_any wt p.keys.length n3 V)
   have HV := hide (fun V => demand_dummy V)
   have HB := hide (fun V => demand_dummy V)
   rw [h1] at HT
   rw [h2] at HK
   rw [h3] at HW
   rw [h4] at HN
   clear h1 h2 h3 h4
   go_enter Try.func65, Try.ntmps65
   go_wp2_with (first
    | (go_at_call 37; (first | (with_reducible refine (HT.out _).mono ?_) | (with_reducible refine (HK.out _).mono ?_) | (with_reducible refine (HB.out _).mono ?_)); rintro e w' ⟨rfl, rfl⟩)
    | (go_at_call 85; (first | (with_reducible refine (HW.out _).mono ?_) | (with_reducible refine (HN.out _).mono ?_) | (with_reducible refine (HV.out _).mono ?_)); rintro e w' ⟨rfl, rfl⟩))
   go_ret
   exact ⟨ret_int (by rw [HE.out]), ((Ext.refl _).alloc _).alloc _⟩
 | false =>
   cases h5 : outB wh 0 ((p.people.length : Int) - 1) with
   | true =>
     have HE := hide (show actE p ⟨t, 4, who, wt, wh⟩ = 4 by unfold actE whatE withB; dsimp only; rw [if_neg (by rw [h1]; decide), if_neg (by rw [h2]; decide), if_neg (by rw [h3]; decide)]; simp [h4, h5])
     have HT := hide (fun V => out_any t 0 100000 V)
     have HK := hide (fun V => out_any 4 1 9 V)
     have HW := hide (fun V => act1_any who p.people.length n2 V)
     have HN := hide (fun V => act1_any wt p.keys.length n3 V)
     have HV := hide (fun V => act1_any wh p.people.length n2 V)
     have HB := hide (fun V => demand_dummy V)
     rw [h1] at HT
     rw [h2] at HK
     rw [h3] at HW
     rw [h4] at HN
     rw [h5] at HV
     clear h1 h2 h3 h4 h5
     go_enter Try.func65, Try.ntmps65
     go_wp2_with (first
      | (go_at_call 37; (first | (with_reducible refine (HT.out _).mono ?_) | (with_reducible refine (HK.out _).mono ?_) | (with_reducible refine (HB.out _).mono ?_)); rintro e w' ⟨rfl, rfl⟩)
      | (go_at_call 85; (first | (with_reducible refine (HW.out _).mono ?_) | (with_reducible refine (HN.out _).mono ?_) | (with_reducible refine (HV.out _).mono ?_)); rintro e w' ⟨rfl, rfl⟩))
     go_ret
     exact ⟨ret_int (by rw [HE.out]), ((Ext.refl _).alloc _).alloc _⟩
   | false =>
     by_cases h6 : wh = who
     ·have e6 : (wh == who) = true := by simpa using h6
      have HE := hide (show actE p ⟨t, 4, who, wt, wh⟩ = 2 by unfold actE whatE withB; dsimp only; rw [if_neg (by rw [h1]; decide), if_neg (by rw [h2]; decide), if_neg (by rw [h3]; decide)]; simp [h4, h3, h6])
      have HT := hide (fun V => out_any t 0 100000 V)
      have HK := hide (fun V => out_any 4 1 9 V)
      have HW := hide (fun V => act1_any who p.people.length n2 V)
      have HN := hide (fun V => act1_any wt p.keys.length n3 V)
      have HV := hide (fun V => act1_any wh p.people.length n2 V)
      have HB := hide (fun V => demand_dummy V)
      rw [h1] at HT
      rw [h2] at HK
      rw [h3] at HW
      rw [h4] at HN
      rw [h5] at HV
      clear h1 h2 h3 h4 h5 h6
      go_enter Try.func65, Try.ntmps65
      go_wp2_with (first
       | (go_at_call 37; (first | (with_reducible refine (HT.out _).mono ?_) | (with_reducible refine (HK.out _).mono ?_) | (with_reducible refine (HB.out _).mono ?_)); rintro e w' ⟨rfl, rfl⟩)
       | (go_at_call 85; (first | (with_reducible refine (HW.out _).mono ?_) | (with_reducible refine (HN.out _).mono ?_) | (with_reducible refine (HV.out _).mono ?_)); rintro e w' ⟨rfl, rfl⟩))
      go_ret
      exact ⟨ret_int (by rw [HE.out]), ((Ext.refl _).alloc _).alloc _⟩
     ·have e6 : (wh == who) = false := by simpa using h6
      have HE := hide (show actE p ⟨t, 4, who, wt, wh⟩ = 0 by unfold actE whatE withB; dsimp only; rw [if_neg (by rw [h1]; decide), if_neg (by rw [h2]; decide), if_neg (by rw [h3]; decide)]; simp [h4, h5, h6])
      have HT := hide (fun V => out_any t 0 100000 V)
      have HK := hide (fun V => out_any 4 1 9 V)
      have HW := hide (fun V => act1_any who p.people.length n2 V)
      have HN := hide (fun V => act1_any wt p.keys.length n3 V)
      have HV := hide (fun V => act1_any wh p.people.length n2 V)
      have HB := hide (fun V => demand_dummy V)
      rw [h1] at HT
      rw [h2] at HK
      rw [h3] at HW
      rw [h4] at HN
      rw [h5] at HV
      clear h1 h2 h3 h4 h5 h6
      go_enter Try.func65, Try.ntmps65
      go_wp2_with (first
       | (go_at_call 37; (first | (with_reducible refine (HT.out _).mono ?_) | (with_reducible refine (HK.out _).mono ?_) | (with_reducible refine (HB.out _).mono ?_)); rintro e w' ⟨rfl, rfl⟩)
       | (go_at_call 85; (first | (with_reducible refine (HW.out _).mono ?_) | (with_reducible refine (HN.out _).mono ?_) | (with_reducible refine (HV.out _).mono ?_)); rintro e w' ⟨rfl, rfl⟩))
      go_ret
      exact ⟨ret_int (by rw [HE.out]), ((Ext.refl _).alloc _).alloc _⟩
set_option maxRecDepth 100000 in
set_option maxHeartbeats 4000000 in
/-- act, kind 5 -/
theorem act_k5 (X : PadX) (p : Pad) (t who wt wh : Int) (w : World) (hX : PadAt w X p) (h1 : outB t 0 100000 = false) (h3 : outB who 0 ((p.people.length : Int) - 1) = false) :
 Calls Try.prog 65 #[.agg #[.slice X.az p.zones.length X.cz, .slice X.ad p.doors.length X.cd, .slice X.ap p.people.length X.cp, .slice X.ak p.keys.length X.ck, .slice X.aq p.squibs.length X.cq, .int .i64 p.panel, .int .i64 p.wait], .agg #[.int .i64 t, .int .i64 5, .int .i64 who, .int .i64 wt, .int .i64 wh]] w fun e w' => e = .returned (.int .i64 (actE p ⟨t, 5, who, wt, wh⟩)) ∧ Ext w w' := by
 obtain ⟨az, cz, ad, cd, ap, cp, ak, ck, aq, cq⟩ := X
 have hz := hX.z.rows
 have hx := hX.x.rows
 have hk := hX.k.rows
 have hq := hX.q.rows
 dsimp only at hz hx hk hq
 have n1 : p.zones.length ≤ 9223372036854775807 := by omega
 have n2 : p.people.length ≤ 9223372036854775807 := by omega
 have n3 : p.keys.length ≤ 9223372036854775807 := by omega
 have n4 : p.squibs.length ≤ 9223372036854775807 := by omega
 clear hz hx hk hq hX
 have h2 : outB 5 1 9 = false := by decide
 cases h4 : outB wt 0 ((p.squibs.length : Int) - 1) with
 | true =>
   have HE := hide (show actE p ⟨t, 5, who, wt, wh⟩ = 4 by unfold actE whatE withB; dsimp only; rw [if_neg (by rw [h1]; decide), if_neg (by rw [h2]; decide), if_neg (by rw [h3]; decide)]; simp [h4])
   have HT := hide (fun V => out_any t 0 100000 V)
   have HK := hide (fun V => out_any 5 1 9 V)
   have HW := hide (fun V => act1_any who p.people.length n2 V)
   have HN := hide (fun V => act1_any wt p.squibs.length n4 V)
   have HV := hide (fun V => demand_dummy V)
   have HB := hide (fun V => demand_dummy V)
   rw [h1] at HT
   rw [h2] at HK
   rw [h3] at HW
   rw [h4] at HN
   clear h1 h2 h3 h4
   go_enter Try.func65, Try.ntmps65
   go_wp2_with (first
    | (go_at_call 37; (first | (with_reducible refine (HT.out _).mono ?_) | (with_reducible refine (HK.out _).mono ?_) | (with_reducible refine (HB.out _).mono ?_)); rintro e w' ⟨rfl, rfl⟩)
    | (go_at_call 85; (first | (with_reducible refine (HW.out _).mono ?_) | (with_reducible refine (HN.out _).mono ?_) | (with_reducible refine (HV.out _).mono ?_)); rintro e w' ⟨rfl, rfl⟩))
   go_ret
   exact ⟨ret_int (by rw [HE.out]), ((Ext.refl _).alloc _).alloc _⟩
 | false =>
   by_cases hw : wh = -1
   ·have ew : (wh != -1) = false := by simpa using hw
    have ew2 : (wh == -1) = true := by simpa using hw
    have HE := hide (show actE p ⟨t, 5, who, wt, wh⟩ = 0 by unfold actE whatE withB; dsimp only; rw [if_neg (by rw [h1]; decide), if_neg (by rw [h2]; decide), if_neg (by rw [h3]; decide)]; simp [h4, hw])
    have HT := hide (fun V => out_any t 0 100000 V)
    have HK := hide (fun V => out_any 5 1 9 V)
    have HW := hide (fun V => act1_any who p.people.length n2 V)
    have HN := hide (fun V => act1_any wt p.squibs.length n4 V)
    have HV := hide (fun V => demand_dummy V)
    have HB := hide (fun V => demand_dummy V)
    rw [h1] at HT
    rw [h2] at HK
    rw [h3] at HW
    rw [h4] at HN
    clear h1 h2 h3 h4 hw
    go_enter Try.func65, Try.ntmps65
    go_wp2_with (first
     | (go_at_call 37; (first | (with_reducible refine (HT.out _).mono ?_) | (with_reducible refine (HK.out _).mono ?_) | (with_reducible refine (HB.out _).mono ?_)); rintro e w' ⟨rfl, rfl⟩)
     | (go_at_call 85; (first | (with_reducible refine (HW.out _).mono ?_) | (with_reducible refine (HN.out _).mono ?_) | (with_reducible refine (HV.out _).mono ?_)); rintro e w' ⟨rfl, rfl⟩))
    go_ret
    exact ⟨ret_int (by rw [HE.out]), ((Ext.refl _).alloc _).alloc _⟩
   ·have ew : (wh != -1) = true := by simpa using hw
    have ew2 : (wh == -1) = false := by simpa using hw
    have HE := hide (show actE p ⟨t, 5, who, wt, wh⟩ = 2 by unfold actE whatE withB; dsimp only; rw [if_neg (by rw [h1]; decide), if_neg (by rw [h2]; decide), if_neg (by rw [h3]; decide)]; simp [h4, hw])
    have HT := hide (fun V => out_any t 0 100000 V)
    have HK := hide (fun V => out_any 5 1 9 V)
    have HW := hide (fun V => act1_any who p.people.length n2 V)
    have HN := hide (fun V => act1_any wt p.squibs.length n4 V)
    have HV := hide (fun V => demand_dummy V)
    have HB := hide (fun V => demand_dummy V)
    rw [h1] at HT
    rw [h2] at HK
    rw [h3] at HW
    rw [h4] at HN
    clear h1 h2 h3 h4 hw
    go_enter Try.func65, Try.ntmps65
    go_wp2_with (first
     | (go_at_call 37; (first | (with_reducible refine (HT.out _).mono ?_) | (with_reducible refine (HK.out _).mono ?_) | (with_reducible refine (HB.out _).mono ?_)); rintro e w' ⟨rfl, rfl⟩)
     | (go_at_call 85; (first | (with_reducible refine (HW.out _).mono ?_) | (with_reducible refine (HN.out _).mono ?_) | (with_reducible refine (HV.out _).mono ?_)); rintro e w' ⟨rfl, rfl⟩))
    go_ret
    exact ⟨ret_int (by rw [HE.out]), ((Ext.refl _).alloc _).alloc _⟩
set_option maxRecDepth 100000 in
set_option maxHeartbeats 4000000 in
/-- act, kind 6 -/
theorem act_k6 (X : PadX) (p : Pad) (t who wt wh : Int) (w : World) (hX : PadAt w X p) (h1 : outB t 0 100000 = false) (h3 : outB who 0 ((p.people.length : Int) - 1) = false) :
 Calls Try.prog 65 #[.agg #[.slice X.az p.zones.length X.cz, .slice X.ad p.doors.length X.cd, .slice X.ap p.people.length X.cp, .slice X.ak p.keys.length X.ck, .slice X.aq p.squibs.length X.cq, .int .i64 p.panel, .int .i64 p.wait], .agg #[.int .i64 t, .int .i64 6, .int .i64 who, .int .i64 wt, .int .i64 wh]] w fun e w' => e = .returned (.int .i64 (actE p ⟨t, 6, who, wt, wh⟩)) ∧ Ext w w' := by
 obtain ⟨az, cz, ad, cd, ap, cp, ak, ck, aq, cq⟩ := X
 have hz := hX.z.rows
 have hx := hX.x.rows
 have hk := hX.k.rows
 have hq := hX.q.rows
 dsimp only at hz hx hk hq
 have n1 : p.zones.length ≤ 9223372036854775807 := by omega
 have n2 : p.people.length ≤ 9223372036854775807 := by omega
 have n3 : p.keys.length ≤ 9223372036854775807 := by omega
 have n4 : p.squibs.length ≤ 9223372036854775807 := by omega
 clear hz hx hk hq hX
 have h2 : outB 6 1 9 = false := by decide
 cases h4 : outB wt 0 ((p.squibs.length : Int) - 1) with
 | true =>
   have HE := hide (show actE p ⟨t, 6, who, wt, wh⟩ = 4 by unfold actE whatE withB; dsimp only; rw [if_neg (by rw [h1]; decide), if_neg (by rw [h2]; decide), if_neg (by rw [h3]; decide)]; simp [h4])
   have HT := hide (fun V => out_any t 0 100000 V)
   have HK := hide (fun V => out_any 6 1 9 V)
   have HW := hide (fun V => act1_any who p.people.length n2 V)
   have HN := hide (fun V => act1_any wt p.squibs.length n4 V)
   have HV := hide (fun V => demand_dummy V)
   have HB := hide (fun V => demand_dummy V)
   rw [h1] at HT
   rw [h2] at HK
   rw [h3] at HW
   rw [h4] at HN
   clear h1 h2 h3 h4
   go_enter Try.func65, Try.ntmps65
   go_wp2_with (first
    | (go_at_call 37; (first | (with_reducible refine (HT.out _).mono ?_) | (with_reducible refine (HK.out _).mono ?_) | (with_reducible refine (HB.out _).mono ?_)); rintro e w' ⟨rfl, rfl⟩)
    | (go_at_call 85; (first | (with_reducible refine (HW.out _).mono ?_) | (with_reducible refine (HN.out _).mono ?_) | (with_reducible refine (HV.out _).mono ?_)); rintro e w' ⟨rfl, rfl⟩))
   go_ret
   exact ⟨ret_int (by rw [HE.out]), ((Ext.refl _).alloc _).alloc _⟩
 | false =>
   by_cases hw : wh = -1
   ·have ew : (wh != -1) = false := by simpa using hw
    have ew2 : (wh == -1) = true := by simpa using hw
    have HE := hide (show actE p ⟨t, 6, who, wt, wh⟩ = 0 by unfold actE whatE withB; dsimp only; rw [if_neg (by rw [h1]; decide), if_neg (by rw [h2]; decide), if_neg (by rw [h3]; decide)]; simp [h4, hw])
    have HT := hide (fun V => out_any t 0 100000 V)
    have HK := hide (fun V => out_any 6 1 9 V)
    have HW := hide (fun V => act1_any who p.people.length n2 V)
    have HN := hide (fun V => act1_any wt p.squibs.length n4 V)
    have HV := hide (fun V => demand_dummy V)
    have HB := hide (fun V => demand_dummy V)
    rw [h1] at HT
    rw [h2] at HK
    rw [h3] at HW
    rw [h4] at HN
    clear h1 h2 h3 h4 hw
    go_enter Try.func65, Try.ntmps65
    go_wp2_with (first
     | (go_at_call 37; (first | (with_reducible refine (HT.out _).mono ?_) | (with_reducible refine (HK.out _).mono ?_) | (with_reducible refine (HB.out _).mono ?_)); rintro e w' ⟨rfl, rfl⟩)
     | (go_at_call 85; (first | (with_reducible refine (HW.out _).mono ?_) | (with_reducible refine (HN.out _).mono ?_) | (with_reducible refine (HV.out _).mono ?_)); rintro e w' ⟨rfl, rfl⟩))
    go_ret
    exact ⟨ret_int (by rw [HE.out]), ((Ext.refl _).alloc _).alloc _⟩
   ·have ew : (wh != -1) = true := by simpa using hw
    have ew2 : (wh == -1) = false := by simpa using hw
    have HE := hide (show actE p ⟨t, 6, who, wt, wh⟩ = 2 by unfold actE whatE withB; dsimp only; rw [if_neg (by rw [h1]; decide), if_neg (by rw [h2]; decide), if_neg (by rw [h3]; decide)]; simp [h4, hw])
    have HT := hide (fun V => out_any t 0 100000 V)
    have HK := hide (fun V => out_any 6 1 9 V)
    have HW := hide (fun V => act1_any who p.people.length n2 V)
    have HN := hide (fun V => act1_any wt p.squibs.length n4 V)
    have HV := hide (fun V => demand_dummy V)
    have HB := hide (fun V => demand_dummy V)
    rw [h1] at HT
    rw [h2] at HK
    rw [h3] at HW
    rw [h4] at HN
    clear h1 h2 h3 h4 hw
    go_enter Try.func65, Try.ntmps65
    go_wp2_with (first
     | (go_at_call 37; (first | (with_reducible refine (HT.out _).mono ?_) | (with_reducible refine (HK.out _).mono ?_) | (with_reducible refine (HB.out _).mono ?_)); rintro e w' ⟨rfl, rfl⟩)
     | (go_at_call 85; (first | (with_reducible refine (HW.out _).mono ?_) | (with_reducible refine (HN.out _).mono ?_) | (with_reducible refine (HV.out _).mono ?_)); rintro e w' ⟨rfl, rfl⟩))
    go_ret
    exact ⟨ret_int (by rw [HE.out]), ((Ext.refl _).alloc _).alloc _⟩
set_option maxRecDepth 100000 in
set_option maxHeartbeats 4000000 in
/-- act, kind 7 -/
theorem act_k7 (X : PadX) (p : Pad) (t who wt wh : Int) (w : World) (hX : PadAt w X p) (h1 : outB t 0 100000 = false) (h3 : outB who 0 ((p.people.length : Int) - 1) = false) :
 Calls Try.prog 65 #[.agg #[.slice X.az p.zones.length X.cz, .slice X.ad p.doors.length X.cd, .slice X.ap p.people.length X.cp, .slice X.ak p.keys.length X.ck, .slice X.aq p.squibs.length X.cq, .int .i64 p.panel, .int .i64 p.wait], .agg #[.int .i64 t, .int .i64 7, .int .i64 who, .int .i64 wt, .int .i64 wh]] w fun e w' => e = .returned (.int .i64 (actE p ⟨t, 7, who, wt, wh⟩)) ∧ Ext w w' := by
 obtain ⟨az, cz, ad, cd, ap, cp, ak, ck, aq, cq⟩ := X
 have hz := hX.z.rows
 have hx := hX.x.rows
 have hk := hX.k.rows
 have hq := hX.q.rows
 dsimp only at hz hx hk hq
 have n1 : p.zones.length ≤ 9223372036854775807 := by omega
 have n2 : p.people.length ≤ 9223372036854775807 := by omega
 have n3 : p.keys.length ≤ 9223372036854775807 := by omega
 have n4 : p.squibs.length ≤ 9223372036854775807 := by omega
 clear hz hx hk hq hX
 have h2 : outB 7 1 9 = false := by decide
 cases h4 : outB wt 0 ((p.squibs.length : Int) - 1) with
 | true =>
   have HE := hide (show actE p ⟨t, 7, who, wt, wh⟩ = 4 by unfold actE whatE withB; dsimp only; rw [if_neg (by rw [h1]; decide), if_neg (by rw [h2]; decide), if_neg (by rw [h3]; decide)]; simp [h4])
   have HT := hide (fun V => out_any t 0 100000 V)
   have HK := hide (fun V => out_any 7 1 9 V)
   have HW := hide (fun V => act1_any who p.people.length n2 V)
   have HN := hide (fun V => act1_any wt p.squibs.length n4 V)
   have HV := hide (fun V => demand_dummy V)
   have HB := hide (fun V => demand_dummy V)
   rw [h1] at HT
   rw [h2] at HK
   rw [h3] at HW
   rw [h4] at HN
   clear h1 h2 h3 h4
   go_enter Try.func65, Try.ntmps65
   go_wp2_with (first
    | (go_at_call 37; (first | (with_reducible refine (HT.out _).mono ?_) | (with_reducible refine (HK.out _).mono ?_) | (with_reducible refine (HB.out _).mono ?_)); rintro e w' ⟨rfl, rfl⟩)
    | (go_at_call 85; (first | (with_reducible refine (HW.out _).mono ?_) | (with_reducible refine (HN.out _).mono ?_) | (with_reducible refine (HV.out _).mono ?_)); rintro e w' ⟨rfl, rfl⟩))
   go_ret
   exact ⟨ret_int (by rw [HE.out]), ((Ext.refl _).alloc _).alloc _⟩
 | false =>
   by_cases hw : wh = -1
   ·have ew : (wh != -1) = false := by simpa using hw
    have ew2 : (wh == -1) = true := by simpa using hw
    have HE := hide (show actE p ⟨t, 7, who, wt, wh⟩ = 0 by unfold actE whatE withB; dsimp only; rw [if_neg (by rw [h1]; decide), if_neg (by rw [h2]; decide), if_neg (by rw [h3]; decide)]; simp [h4, hw])
    have HT := hide (fun V => out_any t 0 100000 V)
    have HK := hide (fun V => out_any 7 1 9 V)
    have HW := hide (fun V => act1_any who p.people.length n2 V)
    have HN := hide (fun V => act1_any wt p.squibs.length n4 V)
    have HV := hide (fun V => demand_dummy V)
    have HB := hide (fun V => demand_dummy V)
    rw [h1] at HT
    rw [h2] at HK
    rw [h3] at HW
    rw [h4] at HN
    clear h1 h2 h3 h4 hw
    go_enter Try.func65, Try.ntmps65
    go_wp2_with (first
     | (go_at_call 37; (first | (with_reducible refine (HT.out _).mono ?_) | (with_reducible refine (HK.out _).mono ?_) | (with_reducible refine (HB.out _).mono ?_)); rintro e w' ⟨rfl, rfl⟩)
     | (go_at_call 85; (first | (with_reducible refine (HW.out _).mono ?_) | (with_reducible refine (HN.out _).mono ?_) | (with_reducible refine (HV.out _).mono ?_)); rintro e w' ⟨rfl, rfl⟩))
    go_ret
    exact ⟨ret_int (by rw [HE.out]), ((Ext.refl _).alloc _).alloc _⟩
   ·have ew : (wh != -1) = true := by simpa using hw
    have ew2 : (wh == -1) = false := by simpa using hw
    have HE := hide (show actE p ⟨t, 7, who, wt, wh⟩ = 2 by unfold actE whatE withB; dsimp only; rw [if_neg (by rw [h1]; decide), if_neg (by rw [h2]; decide), if_neg (by rw [h3]; decide)]; simp [h4, hw])
    have HT := hide (fun V => out_any t 0 100000 V)
    have HK := hide (fun V => out_any 7 1 9 V)
    have HW := hide (fun V => act1_any who p.people.length n2 V)
    have HN := hide (fun V => act1_any wt p.squibs.length n4 V)
    have HV := hide (fun V => demand_dummy V)
    have HB := hide (fun V => demand_dummy V)
    rw [h1] at HT
    rw [h2] at HK
    rw [h3] at HW
    rw [h4] at HN
    clear h1 h2 h3 h4 hw
    go_enter Try.func65, Try.ntmps65
    go_wp2_with (first
     | (go_at_call 37; (first | (with_reducible refine (HT.out _).mono ?_) | (with_reducible refine (HK.out _).mono ?_) | (with_reducible refine (HB.out _).mono ?_)); rintro e w' ⟨rfl, rfl⟩)
     | (go_at_call 85; (first | (with_reducible refine (HW.out _).mono ?_) | (with_reducible refine (HN.out _).mono ?_) | (with_reducible refine (HV.out _).mono ?_)); rintro e w' ⟨rfl, rfl⟩))
    go_ret
    exact ⟨ret_int (by rw [HE.out]), ((Ext.refl _).alloc _).alloc _⟩
set_option maxRecDepth 100000 in
set_option maxHeartbeats 4000000 in
/-- act, kind 8 -/
theorem act_k8 (X : PadX) (p : Pad) (t who wt wh : Int) (w : World) (hX : PadAt w X p) (h1 : outB t 0 100000 = false) (h3 : outB who 0 ((p.people.length : Int) - 1) = false) :
 Calls Try.prog 65 #[.agg #[.slice X.az p.zones.length X.cz, .slice X.ad p.doors.length X.cd, .slice X.ap p.people.length X.cp, .slice X.ak p.keys.length X.ck, .slice X.aq p.squibs.length X.cq, .int .i64 p.panel, .int .i64 p.wait], .agg #[.int .i64 t, .int .i64 8, .int .i64 who, .int .i64 wt, .int .i64 wh]] w fun e w' => e = .returned (.int .i64 (actE p ⟨t, 8, who, wt, wh⟩)) ∧ Ext w w' := by
 obtain ⟨az, cz, ad, cd, ap, cp, ak, ck, aq, cq⟩ := X
 have hz := hX.z.rows
 have hx := hX.x.rows
 have hk := hX.k.rows
 have hq := hX.q.rows
 dsimp only at hz hx hk hq
 have n1 : p.zones.length ≤ 9223372036854775807 := by omega
 have n2 : p.people.length ≤ 9223372036854775807 := by omega
 have n3 : p.keys.length ≤ 9223372036854775807 := by omega
 have n4 : p.squibs.length ≤ 9223372036854775807 := by omega
 clear hz hx hk hq hX
 have h2 : outB 8 1 9 = false := by decide
 cases h4 : outB wt 0 1 with
 | true =>
   have HE := hide (show actE p ⟨t, 8, who, wt, wh⟩ = 2 by unfold actE whatE withB; dsimp only; rw [if_neg (by rw [h1]; decide), if_neg (by rw [h2]; decide), if_neg (by rw [h3]; decide)]; simp [h4])
   have HT := hide (fun V => out_any t 0 100000 V)
   have HK := hide (fun V => out_any 8 1 9 V)
   have HW := hide (fun V => act1_any who p.people.length n2 V)
   have HB := hide (fun V => out_any wt 0 1 V)
   have HN := hide (fun V => demand_dummy V)
   have HV := hide (fun V => demand_dummy V)
   rw [h1] at HT
   rw [h2] at HK
   rw [h3] at HW
   rw [h4] at HB
   clear h1 h2 h3 h4
   go_enter Try.func65, Try.ntmps65
   go_wp2_with (first
    | (go_at_call 37; (first | (with_reducible refine (HT.out _).mono ?_) | (with_reducible refine (HK.out _).mono ?_) | (with_reducible refine (HB.out _).mono ?_)); rintro e w' ⟨rfl, rfl⟩)
    | (go_at_call 85; (first | (with_reducible refine (HW.out _).mono ?_) | (with_reducible refine (HN.out _).mono ?_) | (with_reducible refine (HV.out _).mono ?_)); rintro e w' ⟨rfl, rfl⟩))
   go_ret
   exact ⟨ret_int (by rw [HE.out]), ((Ext.refl _).alloc _).alloc _⟩
 | false =>
   by_cases hw : wh = -1
   ·have ew : (wh != -1) = false := by simpa using hw
    have ew2 : (wh == -1) = true := by simpa using hw
    have HE := hide (show actE p ⟨t, 8, who, wt, wh⟩ = 0 by unfold actE whatE withB; dsimp only; rw [if_neg (by rw [h1]; decide), if_neg (by rw [h2]; decide), if_neg (by rw [h3]; decide)]; simp [h4, hw])
    have HT := hide (fun V => out_any t 0 100000 V)
    have HK := hide (fun V => out_any 8 1 9 V)
    have HW := hide (fun V => act1_any who p.people.length n2 V)
    have HB := hide (fun V => out_any wt 0 1 V)
    have HN := hide (fun V => demand_dummy V)
    have HV := hide (fun V => demand_dummy V)
    rw [h1] at HT
    rw [h2] at HK
    rw [h3] at HW
    rw [h4] at HB
    clear h1 h2 h3 h4 hw
    go_enter Try.func65, Try.ntmps65
    go_wp2_with (first
     | (go_at_call 37; (first | (with_reducible refine (HT.out _).mono ?_) | (with_reducible refine (HK.out _).mono ?_) | (with_reducible refine (HB.out _).mono ?_)); rintro e w' ⟨rfl, rfl⟩)
     | (go_at_call 85; (first | (with_reducible refine (HW.out _).mono ?_) | (with_reducible refine (HN.out _).mono ?_) | (with_reducible refine (HV.out _).mono ?_)); rintro e w' ⟨rfl, rfl⟩))
    go_ret
    exact ⟨ret_int (by rw [HE.out]), ((Ext.refl _).alloc _).alloc _⟩
   ·have ew : (wh != -1) = true := by simpa using hw
    have ew2 : (wh == -1) = false := by simpa using hw
    have HE := hide (show actE p ⟨t, 8, who, wt, wh⟩ = 2 by unfold actE whatE withB; dsimp only; rw [if_neg (by rw [h1]; decide), if_neg (by rw [h2]; decide), if_neg (by rw [h3]; decide)]; simp [h4, hw])
    have HT := hide (fun V => out_any t 0 100000 V)
    have HK := hide (fun V => out_any 8 1 9 V)
    have HW := hide (fun V => act1_any who p.people.length n2 V)
    have HB := hide (fun V => out_any wt 0 1 V)
    have HN := hide (fun V => demand_dummy V)
    have HV := hide (fun V => demand_dummy V)
    rw [h1] at HT
    rw [h2] at HK
    rw [h3] at HW
    rw [h4] at HB
    clear h1 h2 h3 h4 hw
    go_enter Try.func65, Try.ntmps65
    go_wp2_with (first
     | (go_at_call 37; (first | (with_reducible refine (HT.out _).mono ?_) | (with_reducible refine (HK.out _).mono ?_) | (with_reducible refine (HB.out _).mono ?_)); rintro e w' ⟨rfl, rfl⟩)
     | (go_at_call 85; (first | (with_reducible refine (HW.out _).mono ?_) | (with_reducible refine (HN.out _).mono ?_) | (with_reducible refine (HV.out _).mono ?_)); rintro e w' ⟨rfl, rfl⟩))
    go_ret
    exact ⟨ret_int (by rw [HE.out]), ((Ext.refl _).alloc _).alloc _⟩
set_option maxRecDepth 100000 in
set_option maxHeartbeats 4000000 in
/-- act, kind 9 -/
theorem act_k9 (X : PadX) (p : Pad) (t who wt wh : Int) (w : World) (hX : PadAt w X p) (h1 : outB t 0 100000 = false) (h3 : outB who 0 ((p.people.length : Int) - 1) = false) :
 Calls Try.prog 65 #[.agg #[.slice X.az p.zones.length X.cz, .slice X.ad p.doors.length X.cd, .slice X.ap p.people.length X.cp, .slice X.ak p.keys.length X.ck, .slice X.aq p.squibs.length X.cq, .int .i64 p.panel, .int .i64 p.wait], .agg #[.int .i64 t, .int .i64 9, .int .i64 who, .int .i64 wt, .int .i64 wh]] w fun e w' => e = .returned (.int .i64 (actE p ⟨t, 9, who, wt, wh⟩)) ∧ Ext w w' := by
 obtain ⟨az, cz, ad, cd, ap, cp, ak, ck, aq, cq⟩ := X
 have hz := hX.z.rows
 have hx := hX.x.rows
 have hk := hX.k.rows
 have hq := hX.q.rows
 dsimp only at hz hx hk hq
 have n1 : p.zones.length ≤ 9223372036854775807 := by omega
 have n2 : p.people.length ≤ 9223372036854775807 := by omega
 have n3 : p.keys.length ≤ 9223372036854775807 := by omega
 have n4 : p.squibs.length ≤ 9223372036854775807 := by omega
 clear hz hx hk hq hX
 have h2 : outB 9 1 9 = false := by decide
 cases h4 : outB wt 0 1 with
 | true =>
   have HE := hide (show actE p ⟨t, 9, who, wt, wh⟩ = 2 by unfold actE whatE withB; dsimp only; rw [if_neg (by rw [h1]; decide), if_neg (by rw [h2]; decide), if_neg (by rw [h3]; decide)]; simp [h4])
   have HT := hide (fun V => out_any t 0 100000 V)
   have HK := hide (fun V => out_any 9 1 9 V)
   have HW := hide (fun V => act1_any who p.people.length n2 V)
   have HB := hide (fun V => out_any wt 0 1 V)
   have HN := hide (fun V => demand_dummy V)
   have HV := hide (fun V => demand_dummy V)
   rw [h1] at HT
   rw [h2] at HK
   rw [h3] at HW
   rw [h4] at HB
   clear h1 h2 h3 h4
   go_enter Try.func65, Try.ntmps65
   go_wp2_with (first
    | (go_at_call 37; (first | (with_reducible refine (HT.out _).mono ?_) | (with_reducible refine (HK.out _).mono ?_) | (with_reducible refine (HB.out _).mono ?_)); rintro e w' ⟨rfl, rfl⟩)
    | (go_at_call 85; (first | (with_reducible refine (HW.out _).mono ?_) | (with_reducible refine (HN.out _).mono ?_) | (with_reducible refine (HV.out _).mono ?_)); rintro e w' ⟨rfl, rfl⟩))
   go_ret
   exact ⟨ret_int (by rw [HE.out]), ((Ext.refl _).alloc _).alloc _⟩
 | false =>
   by_cases hw : wh = -1
   ·have ew : (wh != -1) = false := by simpa using hw
    have ew2 : (wh == -1) = true := by simpa using hw
    have HE := hide (show actE p ⟨t, 9, who, wt, wh⟩ = 0 by unfold actE whatE withB; dsimp only; rw [if_neg (by rw [h1]; decide), if_neg (by rw [h2]; decide), if_neg (by rw [h3]; decide)]; simp [h4, hw])
    have HT := hide (fun V => out_any t 0 100000 V)
    have HK := hide (fun V => out_any 9 1 9 V)
    have HW := hide (fun V => act1_any who p.people.length n2 V)
    have HB := hide (fun V => out_any wt 0 1 V)
    have HN := hide (fun V => demand_dummy V)
    have HV := hide (fun V => demand_dummy V)
    rw [h1] at HT
    rw [h2] at HK
    rw [h3] at HW
    rw [h4] at HB
    clear h1 h2 h3 h4 hw
    go_enter Try.func65, Try.ntmps65
    go_wp2_with (first
     | (go_at_call 37; (first | (with_reducible refine (HT.out _).mono ?_) | (with_reducible refine (HK.out _).mono ?_) | (with_reducible refine (HB.out _).mono ?_)); rintro e w' ⟨rfl, rfl⟩)
     | (go_at_call 85; (first | (with_reducible refine (HW.out _).mono ?_) | (with_reducible refine (HN.out _).mono ?_) | (with_reducible refine (HV.out _).mono ?_)); rintro e w' ⟨rfl, rfl⟩))
    go_ret
    exact ⟨ret_int (by rw [HE.out]), ((Ext.refl _).alloc _).alloc _⟩
   ·have ew : (wh != -1) = true := by simpa using hw
    have ew2 : (wh == -1) = false := by simpa using hw
    have HE := hide (show actE p ⟨t, 9, who, wt, wh⟩ = 2 by unfold actE whatE withB; dsimp only; rw [if_neg (by rw [h1]; decide), if_neg (by rw [h2]; decide), if_neg (by rw [h3]; decide)]; simp [h4, hw])
    have HT := hide (fun V => out_any t 0 100000 V)
    have HK := hide (fun V => out_any 9 1 9 V)
    have HW := hide (fun V => act1_any who p.people.length n2 V)
    have HB := hide (fun V => out_any wt 0 1 V)
    have HN := hide (fun V => demand_dummy V)
    have HV := hide (fun V => demand_dummy V)
    rw [h1] at HT
    rw [h2] at HK
    rw [h3] at HW
    rw [h4] at HB
    clear h1 h2 h3 h4 hw
    go_enter Try.func65, Try.ntmps65
    go_wp2_with (first
     | (go_at_call 37; (first | (with_reducible refine (HT.out _).mono ?_) | (with_reducible refine (HK.out _).mono ?_) | (with_reducible refine (HB.out _).mono ?_)); rintro e w' ⟨rfl, rfl⟩)
     | (go_at_call 85; (first | (with_reducible refine (HW.out _).mono ?_) | (with_reducible refine (HN.out _).mono ?_) | (with_reducible refine (HV.out _).mono ?_)); rintro e w' ⟨rfl, rfl⟩))
    go_ret
    exact ⟨ret_int (by rw [HE.out]), ((Ext.refl _).alloc _).alloc _⟩
/-- pad.act -/
theorem act_any (X : PadX) (p : Pad) (a : PAct) (w : World) (hX : PadAt w X p) :
 Calls Try.prog 65 #[.agg #[.slice X.az p.zones.length X.cz, .slice X.ad p.doors.length X.cd, .slice X.ap p.people.length X.cp, .slice X.ak p.keys.length X.ck, .slice X.aq p.squibs.length X.cq, .int .i64 p.panel, .int .i64 p.wait], .agg #[.int .i64 a.at_, .int .i64 a.kind, .int .i64 a.who, .int .i64 a.what, .int .i64 a.with_]] w fun e w' => e = .returned (.int .i64 (actE p a)) ∧ Ext w w' := by
 obtain ⟨t, k, who, wt, wh⟩ := a
 dsimp only
 cases h : (outB t 0 100000 || outB k 1 9 || outB who 0 ((p.people.length : Int) - 1)) with
 | true => exact act_early X p t k who wt wh w hX h
 | false =>
   simp only [Bool.or_eq_false_iff] at h
   obtain ⟨⟨h1, h2⟩, h3⟩ := h
   have hk := outB_f.1 h2
   rcases (show k = 1 ∨ k = 2 ∨ k = 3 ∨ k = 4 ∨ k = 5 ∨ k = 6 ∨ k = 7 ∨ k = 8 ∨ k = 9 by omega) with rfl | rfl | rfl | rfl | rfl | rfl | rfl | rfl | rfl
   ·exact act_k1 X p t who wt wh w hX h1 h3
   ·exact act_k2 X p t who wt wh w hX h1 h3
   ·exact act_k3 X p t who wt wh w hX h1 h3
   ·exact act_k4 X p t who wt wh w hX h1 h3
   ·exact act_k5 X p t who wt wh w hX h1 h3
   ·exact act_k6 X p t who wt wh w hX h1 h3
   ·exact act_k7 X p t who wt wh w hX h1 h3
   ·exact act_k8 X p t who wt wh w hX h1 h3
   ·exact act_k9 X p t who wt wh w hX h1 h3
end Go.Proofs.Ythcnganbnbhhoaa
