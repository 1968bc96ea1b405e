/- What functions of the program compute: plain functions, and the proofs. -/
import Derived.Test.YthcnganbnbhhoaaGreatW1
open Go Go.Proofs.YthcnganbnbhhoaaGreat.Sh Go.Proofs
namespace Go.Proofs.YthcnganbnbhhoaaGreat
set_option linter.unusedVariables false
set_option linter.unusedSimpArgs false
set_option maxRecDepth 100000
set_option maxHeartbeats 4000000
def r7_squibs_m_J1 (F : Nat) (o : PdState) (a : PdAct) (x3 : Int) : Option (PdState × Int × PdState) := Option.bind (setO o.squibs a.what x3) fun q => some ({o with squibs := q}, 0, {o with squibs := q})
def r7_squibs_m_J2 (F : Nat) (t : PdPad) (o : PdState) (a : PdAct) (x : Int) (x3 : Int) : Option (PdState × Int × PdState) := Option.bind (ixO o.squibs a.what) fun e4 => if e4 = x then (if a.kind = 5 then (if o.storm = true then (some (o, 173, o)) else (Option.bind (r7_owed F t o a.what) fun rv => if 0 < (rv.length : Int) then (some (o, 174, o)) else (if o.siren < 0 then (some (o, 179, o)) else (if (W (a.at_ - o.siren)) < t.wait then (some (o, 179, o)) else (r7_squibs_m_J1 F o a x3))))) else (r7_squibs_m_J1 F o a x3)) else (some (o, 177, o))
def r7_squibs_m_J3 (F : Nat) (t : PdPad) (o : PdState) (a : PdAct) (x : Int) (x2 : Int) : Option (PdState × Int × PdState) := if a.kind = 7 then (r7_squibs_m_J2 F t o a x 2) else (r7_squibs_m_J2 F t o a x x2)
def r7_squibs_m_J4 (F : Nat) (t : PdPad) (o : PdState) (a : PdAct) : Option (PdState × Int × PdState) := if a.kind = 5 then (r7_squibs_m_J3 F t o a 0 1) else (r7_squibs_m_J3 F t o a 1 0)
def r7_squibs_m (F : Nat) (t : PdPad) (o : PdState) (a : PdAct) : Option (PdState × Int × PdState) := Option.bind (ixO t.squibs a.what) fun e => Option.bind (ixO o.zones a.who) fun e2 => if e2 = t.panel then (if a.kind = 6 then (r7_squibs_m_J4 F t o a) else (Option.bind (ixO t.people a.who) fun e3 => if e3.grade < e.grade then (some (o, 172, o)) else (r7_squibs_m_J4 F t o a))) else (some (o, 171, o))
theorem r7_squibs_m_scr {F : Nat} {t : PdPad} {o : PdState} {a : PdAct} {r : (PdState × Int × PdState)} (h : r7_squibs_m F t o a = some r) : SCR Tryz.prog 56 [.d (PdPad.d t), PdState_T1 o 0 1 2, .d (PdAct.d a)] [some (lvI o.zones), some (lvI o.holder), some (lvI o.squibs)] (.tup [PdState_T1 {r.1 with zones := r.2.2.zones, holder := r.2.2.holder, squibs := r.2.2.squibs} 0 1 2, .d (.v (.int .i64 r.2.1))]) [some (lvI r.2.2.zones), some (lvI r.2.2.holder), some (lvI r.2.2.squibs)] := by
 rw [r7_squibs_m] at h
 refine SC.of_sw Tryz.func56 R R R ?_
 dsimp only [argS, List.map]
 refine qG (q_box R (q_box R (q_box R (r_alloc tb R R R R R (q_asgD R (eN (qG (q_fa tb R (q_ldD (y := .arr 6 ((t.squibs).map PdSquib.d)) tb R (q_fa tb R (q_ldD (y := vI a.what) tb R ?_)))))))))))
 obtain ⟨e, ie, h⟩ := bnd h
 refine q_ixE tb (ix0 ie) (ix1m ie) R (q_ldE (y := PdSquib.d e) tb (ix2 (g := PdSquib.d) ie) R (r_alloc tb R R R R R (q_stE _ _ tb R (eN (sw_seq (sw_seq (sw_dr (by kernel_rfl) (q_fa tb R (r_ldW tb R R R R R R R R R (q_fa tb R (q_ldD (y := vI a.who) tb R ?_)))))))))))
 obtain ⟨e2, ie2, h⟩ := bnd h
 refine r_ixI tb R R R R R R (ix0 ie2) (ix1 ie2) R R ?_
 refine r_ldD (y := vI e2) tb R R R R (ix2 (g := fun a => T.d (vI a)) ie2) R R R R ?_
 refine q_fa tb R (q_ldD (y := vI t.panel) tb R ?_)
 refine r_neq R R R R ?_ ?_
 ·intro c
  replace h := ifN c h
  refine ev_endD (by kernel_rfl) (then_norm (sw_condT R (qG (r_ldG tb R R R R R R R R R (q_stE _ _ tb R (q_asgD R (eN (sw_ret (then_ret ?_)))))))))
  obtain rfl := sI h
  exact f2 [0, 1, 2] (.row R (.row R (.row R .nil))) R (.cons (rc tb R) (.cons (.tmp 7) .nil)) R
 intro c
 replace h := ifP c h
 refine ev_endD (by kernel_rfl) (then_norm (sw_condF R (sw_skip (then_norm (sw_seq ?_)))))
 refine sw_join (fun zz : Unit => r7_squibs_m_J4 F t o a = some r) (fun zz : Unit => ⟨[(3, .ref 3 7 0 0), (4, .ref 4 6 0 0), (5, .ref 5 5 0 0), (6, .ref 6 6 0 0), (7, .d (vI 0))], [some (lvI o.zones), some (lvI o.holder), some (lvI o.squibs), some ⟨7, [.d (PdPad.d t)]⟩, some ⟨6, [PdState_T1 o 0 1 2]⟩, some ⟨5, [.d (PdAct.d a)]⟩, some ⟨6, [.d (.agg [vI 0, .v (.slice none 0 0), .v (.slice none 0 0), .v (.slice none 0 0), vI 0, .v (.bool false)])]⟩]⟩) ?_ ?_
 ·clear h
  rintro ⟨⟩ h
  rw [r7_squibs_m_J4] at h
  refine qG (q_asgD R (q_asgD R (eN (sw_seq ?_))))
  refine sw_join (fun zz : Int × Int => r7_squibs_m_J3 F t o a zz.1 zz.2 = some r) (fun zz : Int × Int => ⟨[(3, .ref 3 7 0 0), (4, .ref 4 6 0 0), (5, .ref 5 5 0 0), (6, .ref 6 6 0 0), (7, .d (vI 0)), (9, .d (vI zz.1)), (10, .d (vI zz.2))], [some (lvI o.zones), some (lvI o.holder), some (lvI o.squibs), some ⟨7, [.d (PdPad.d t)]⟩, some ⟨6, [PdState_T1 o 0 1 2]⟩, some ⟨5, [.d (PdAct.d a)]⟩, some ⟨6, [.d (.agg [vI 0, .v (.slice none 0 0), .v (.slice none 0 0), .v (.slice none 0 0), vI 0, .v (.bool false)])]⟩]⟩) ?_ ?_
  ·clear h
   rintro ⟨x, x2⟩ h
   dsimp only at h ⊢
   rw [r7_squibs_m_J3] at h
   refine sw_seq ?_
   refine sw_join (fun zz : Int => r7_squibs_m_J2 F t o a x zz = some r) (fun zz : Int => ⟨[(3, .ref 3 7 0 0), (4, .ref 4 6 0 0), (5, .ref 5 5 0 0), (6, .ref 6 6 0 0), (7, .d (vI 0)), (9, .d (vI x)), (10, .d (vI zz))], [some (lvI o.zones), some (lvI o.holder), some (lvI o.squibs), some ⟨7, [.d (PdPad.d t)]⟩, some ⟨6, [PdState_T1 o 0 1 2]⟩, some ⟨5, [.d (PdAct.d a)]⟩, some ⟨6, [.d (.agg [vI 0, .v (.slice none 0 0), .v (.slice none 0 0), .v (.slice none 0 0), vI 0, .v (.bool false)])]⟩]⟩) ?_ ?_
   ·clear h
    rintro x3 h
    rw [r7_squibs_m_J2] at h
    refine sw_seq (qG (q_fa tb R (r_ldW tb R R R R R R R R R (q_fa tb R (q_ldD (y := vI a.what) tb R ?_)))))
    obtain ⟨e4, ie4, h⟩ := bnd h
    refine r_ixI tb R R R R R R (ix0 ie4) (ix1 ie4) R R ?_
    refine r_ldD (y := vI e4) tb R R R R (ix2 (g := fun a => T.d (vI a)) ie4) R R R R ?_
    refine q_movD R ?_
    refine r_neq R R R R ?_ ?_
    ·intro c6
     replace h := ifN c6 h
     refine eN (sw_condT R (qG (r_ldG tb R R R R R R R R R (q_stE _ _ tb R (q_asgD R (eN (sw_ret (then_ret ?_))))))))
     obtain rfl := sI h
     exact f2 [0, 1, 2] (.row R (.row R (.row R .nil))) R (.cons (rc tb R) (.cons (.tmp 7) .nil)) R
    intro c6
    replace h := ifP c6 h
    refine eN (sw_condF R (sw_skip (then_norm (sw_seq ?_))))
    refine sw_join (fun zz : Unit => r7_squibs_m_J1 F o a x3 = some r) (fun zz : Unit => ⟨[(4, .ref 3 6 0 0), (5, .ref 4 5 0 0), (6, .ref 5 6 0 0), (7, .d (vI 0)), (10, .d (vI x3))], [some (lvI o.zones), some (lvI o.holder), some (lvI o.squibs), some ⟨6, [PdState_T1 o 0 1 2]⟩, some ⟨5, [.d (PdAct.d a)]⟩, some ⟨6, [.d (.agg [vI 0, .v (.slice none 0 0), .v (.slice none 0 0), .v (.slice none 0 0), vI 0, .v (.bool false)])]⟩]⟩) ?_ ?_
    ·clear h
     rintro ⟨⟩ h
     rw [r7_squibs_m_J1] at h
     refine qG (q_fa tb R (r_ldW tb R R R R R R R R R (q_fa tb R (q_ldD (y := vI a.what) tb R (q_movD R (r_ixI tb R R R R R R (ix0 ie4) (ix1 ie4) R R ?_))))))
     obtain ⟨q, iq, h⟩ := bnd h
     refine r_stQ (a' := (x3 : Int)) tb R R R R ie4 R R R R iq R R ?_
     dsimp only [List.set_cons_zero, List.set_cons_succ, PdState_T1]
     first | rw [set_len iq] | skip
     refine eN (qG (r_ldG tb R R R R R R R R R (q_stE _ _ tb R (q_asgD R (eN (sw_ret ?_))))))
     obtain rfl := sI h
     exact f2 [0, 1, 2] (.row R (.row R (.row R .nil))) R (.cons (rc tb R) (.cons (.tmp 7) .nil)) R
    refine qG (q_fa tb R (q_ldD (y := vI a.kind) tb R ?_))
    refine r_eql R R R R ?_ ?_
    ·intro c7
     replace h := ifP c7 h
     refine eN (sw_condT R (sw_seq (qG (q_fa tb R (q_ldD (y := .v (.bool o.storm)) tb R ?_)))))
     with_reducible apply ev_lit
     ·intro c8
      replace h := ifP c8 h
      refine eN (sw_condT R (qG (r_ldG tb R R R R R R R R R (q_stE _ _ tb R (q_asgD R (eN (sw_ret (then_ret (then_ret ?_)))))))))
      obtain rfl := sI h
      exact f2 [0, 1, 2] (.row R (.row R (.row R .nil))) R (.cons (rc tb R) (.cons (.tmp 7) .nil)) R
     intro c8
     replace h := ifF c8 h
     refine eN (sw_condF R (sw_skip (then_norm (sw_seq (qG (q_ldD (y := PdPad.d t) tb R (r_ldG tb R R R R R R R R R (q_fa tb R (q_ldD (y := vI a.what) tb R ?_)))))))))
     obtain ⟨rv, hrv, h⟩ := bnd h
     refine r_callLN (t' := .row 7 1 0 (rv).length) (news' := [(lvI rv)]) (r7_owed_scr hrv) R ((.row (fun _ => rfl) .nil)) (.of (by kernel_rfl)) R R ((.cons (.d _) (.cons (.aggL (.cons (.d _) (.cons (.row R R) (.cons (.row R R) (.cons (.row R R) (.cons (.d _) (.cons (.d _) .nil))))))) (.cons (.d _) .nil)))) R ((.row .nil)) R R R ?_
     refine r_lenR tb R R R R R ?_
     refine r_gtr R R R R ?_ ?_
     ·intro c9
      replace h := ifP c9 h
      refine eN (sw_condT R (qG (r_ldG tb R R R R R R R R R (q_stE _ _ tb R (q_asgD R (eN (sw_ret (then_ret (then_ret ?_)))))))))
      obtain rfl := sI h
      exact f2 [0, 1, 2] (.row R (.row R (.row R .nil))) R (.cons (rc tb R) (.cons (.tmp 7) .nil)) R
     intro c9
     replace h := ifN (Int.not_lt.2 c9) h
     refine eN (sw_condF R (sw_skip (then_norm (qG (q_fa tb R (q_ldD (y := vI o.siren) tb R ?_))))))
     refine r_lss R R R R ?_ ?_
     ·intro c10
      replace h := ifP c10 h
      refine q_movD R (q_sk 8 R (q_pickT R (eN (sw_condT R (qG (r_ldG tb R R R R R R R R R (q_stE _ _ tb R (q_asgD R (eN (sw_ret (then_ret ?_)))))))))))
      obtain rfl := sI h
      exact f2 [0, 1, 2] (.row R (.row R (.row R .nil))) R (.cons (rc tb R) (.cons (.tmp 7) .nil)) R
     intro c10
     replace h := ifN (Int.not_lt.2 c10) h
     refine q_movD R (q_fa tb R (q_ldD (y := vI a.at_) tb R (q_fa tb R (q_ldD (y := vI o.siren) tb R (r_sub R R R R (q_fa tb R (q_ldD (y := vI t.wait) tb R ?_)))))))
     refine r_lss R R R R ?_ ?_
     ·intro c11
      replace h := ifP c11 h
      refine q_pickF R (eN (sw_condT R (qG (r_ldG tb R R R R R R R R R (q_stE _ _ tb R (q_asgD R (eN (sw_ret (then_ret ?_)))))))))
      obtain rfl := sI h
      exact f2 [0, 1, 2] (.row R (.row R (.row R .nil))) R (.cons (rc tb R) (.cons (.tmp 7) .nil)) R
     intro c11
     replace h := ifN (Int.not_lt.2 c11) h
     refine q_pickF R (eN (sw_condF R (sw_skip (then_norm ?_))))
     exact .inl ⟨(), h, .vw (κ := [0, 1, 2, 4, 5, 6]) (vK (.row R (.row R (.row R (.cons R R (.cons R R (.cons R R .nil)))))) R)⟩
    intro c7
    replace h := ifN c7 h
    refine eN (sw_condF R (sw_skip (then_norm ?_)))
    exact .inl ⟨(), h, .vw (κ := [0, 1, 2, 4, 5, 6]) (vK (.row R (.row R (.row R (.cons R R (.cons R R (.cons R R .nil)))))) R)⟩
   refine qG (q_fa tb R (q_ldD (y := vI a.kind) tb R ?_))
   refine r_eql R R R R ?_ ?_
   ·intro c5
    replace h := ifP c5 h
    refine eN (sw_condT R (sw_rg (q_asgD R (eN ?_))))
    exact .inl ⟨2, h, .prn [3, 4, 5, 6, 7, 9, 10] R⟩
   intro c5
   replace h := ifN c5 h
   refine eN (sw_condF R (sw_skip (then_norm ?_)))
   exact .inl ⟨x2, h, .prn [3, 4, 5, 6, 7, 9, 10] R⟩
  refine qG (q_fa tb R (q_ldD (y := vI a.kind) tb R ?_))
  refine r_eql R R R R ?_ ?_
  ·intro c4
   replace h := ifP c4 h
   refine eN (sw_condT R (sw_rg (q_asgD R (q_asgD R (eN ?_)))))
   exact .inl ⟨(0, 1), h, .prn [3, 4, 5, 6, 7, 9, 10] R⟩
  intro c4
  replace h := ifN c4 h
  refine eN (sw_condF R (sw_skip (then_norm ?_)))
  exact .inl ⟨(1, 0), h, .prn [3, 4, 5, 6, 7, 9, 10] R⟩
 refine sw_seq (sw_dr (by kernel_rfl) (q_fa tb R (q_ldD (y := vI a.kind) tb R ?_)))
 refine r_neq R R R R ?_ ?_
 ·intro c2
  replace h := ifN c2 h
  refine q_movD R (q_fa tb R (q_ldD (y := .arr 2 ((t.people).map PdPerson.d)) tb R (q_fa tb R (q_ldD (y := vI a.who) tb R ?_))))
  obtain ⟨e3, ie3, h⟩ := bnd h
  refine q_ixE tb (ix0 ie3) (ix1m ie3) R (q_faE tb R (q_ldE (y := vI e3.grade) tb (ix2 (g := PdPerson.d) ie3) R (q_fa tb R (q_ldD (y := vI e.grade) tb R ?_))))
  refine r_lss R R R R ?_ ?_
  ·intro c3
   replace h := ifP c3 h
   refine q_pickT R (ev_endD (by kernel_rfl) (then_norm (sw_condT R (qG (r_ldG tb R R R R R R R R R (q_stE _ _ tb R (q_asgD R (eN (sw_ret (then_ret ?_))))))))))
   obtain rfl := sI h
   exact f2 [0, 1, 2] (.row R (.row R (.row R .nil))) R (.cons (rc tb R) (.cons (.tmp 7) .nil)) R
  intro c3
  replace h := ifN (Int.not_lt.2 c3) h
  refine q_pickT R (ev_endD (by kernel_rfl) (then_norm (sw_condF R (sw_skip (then_norm ?_)))))
  exact .inl ⟨(), h, .vw (κ := [0, 1, 2, 3, 4, 5, 6]) (vK (.row R (.row R (.row R (.cons R R (.cons R R (.cons R R (.cons R R .nil))))))) R)⟩
 intro c2
 replace h := ifP c2 h
 refine q_movD R (q_sk 10 R (q_pickF R (ev_endD (by kernel_rfl) (then_norm (sw_condF R (sw_skip (then_norm ?_)))))))
 exact .inl ⟨(), h, .vw (κ := [0, 1, 2, 3, 4, 5, 6]) (vK (.row R (.row R (.row R (.cons R R (.cons R R (.cons R R (.cons R R .nil))))))) R)⟩
def r7_signals_m_J1 (F : Nat) (B5 : (List Int) → Int → Option (PdState × Int × PdState)) (x : Int) (rv3 : (List Int)) : Option (PdState × Int × PdState) := B5 rv3 (W (x + 1))
def r7_signals_m_L1 (F : Nat) (a : PdAct) (K : (List Int) → Int → Option (PdState × Int × PdState)) : Nat → (List Int) → Int → Option (PdState × Int × PdState)
 | 0, _, _ => none
 | n + 1, rv, x => if x < (rv.length : Int) then (if (decide (a.what = 1)) = true then (Option.bind (ixO rv x) fun e => if e = 1 then (Option.bind (setO rv x 0) fun rv2 => r7_signals_m_J1 F (r7_signals_m_L1 F a K n) x rv2) else (r7_signals_m_J1 F (r7_signals_m_L1 F a K n) x rv)) else (r7_signals_m_J1 F (r7_signals_m_L1 F a K n) x rv)) else (K rv x)
def r7_signals_m_J2 (F : Nat) (B8 : Int → Option (PdState × Int × PdState)) (x2 : Int) : Option (PdState × Int × PdState) := B8 (W (x2 + 1))
def r7_signals_m_J3 (F : Nat) (o : PdState) (rv4 : Int) : Option (PdState × Int × PdState) := some ({o with siren := rv4}, 0, o)
def r7_signals_m_L2 (F : Nat) (o : PdState) (a : PdAct) (K : Int → Option (PdState × Int × PdState)) : Nat → Int → Option (PdState × Int × PdState)
 | 0, _ => none
 | n + 1, x2 => if x2 < (o.squibs.length : Int) then (if a.what = 0 then (Option.bind (ixO o.squibs x2) fun e3 => if e3 = 1 then (some (o, 179, o)) else (r7_signals_m_J2 F (r7_signals_m_L2 F o a K n) x2)) else (r7_signals_m_J2 F (r7_signals_m_L2 F o a K n) x2)) else (K x2)
def r7_signals_m (F : Nat) (t : PdPad) (o : PdState) (a : PdAct) : Option (PdState × Int × PdState) := if a.kind = 9 then (if (o.storm == (decide (a.what = 1))) = true then (some (o, 177, o)) else (r7_signals_m_L1 F a (fun (rv : (List Int)) (x : Int) => some ({o with squibs := rv, storm := (decide (a.what = 1))}, 0, {o with squibs := rv})) F o.squibs 0)) else (Option.bind (ixO o.zones a.who) fun e2 => if e2 = t.panel then (if ((decide (0 ≤ o.siren)) == (decide (a.what = 1))) = true then (some (o, 177, o)) else (r7_signals_m_L2 F o a (fun (x2 : Int) => if a.what = 1 then (r7_signals_m_J3 F o a.at_) else (r7_signals_m_J3 F o (-1))) F 0)) else (some (o, 171, o)))
theorem r7_signals_m_scr {F : Nat} {t : PdPad} {o : PdState} {a : PdAct} {r : (PdState × Int × PdState)} (h : r7_signals_m F t o a = some r) : SCR Tryz.prog 57 [.d (PdPad.d t), PdState_T1 o 0 1 2, .d (PdAct.d a)] [some (lvI o.zones), some (lvI o.holder), some (lvI o.squibs)] (.tup [PdState_T1 {r.1 with zones := r.2.2.zones, holder := r.2.2.holder, squibs := r.2.2.squibs} 0 1 2, .d (.v (.int .i64 r.2.1))]) [some (lvI r.2.2.zones), some (lvI r.2.2.holder), some (lvI r.2.2.squibs)] := by
 rw [r7_signals_m] at h
 refine SC.of_sw Tryz.func57 R R R ?_
 dsimp only [argS, List.map]
 refine qG (q_box R (q_box R (q_box R (r_alloc tb R R R R R (q_asgD R (eN (sw_seq (qG (q_fa tb R (q_ldD (y := vI a.kind) tb R ?_))))))))))
 refine r_eql R R R R ?_ ?_
 ·intro c
  replace h := ifP c h
  refine eN (sw_condT R (sw_seq (qG (q_fa tb R (q_ldD (y := .v (.bool o.storm)) tb R (q_fa tb R (q_ldD (y := vI a.what) tb R (r_eqlV R R R R (r_booleql R R R R R ?_)))))))))
  with_reducible apply ev_lit
  ·intro c2
   replace h := ifP c2 h
   refine eN (sw_condT R (qG (r_ldG tb R R R R R R R R R (q_stE _ _ tb R (q_asgD R (eN (sw_ret (then_ret (then_ret ?_)))))))))
   obtain rfl := sI h
   exact f2 [0, 1, 2] (.row R (.row R (.row R .nil))) R (.cons (rc tb R) (.cons (.tmp 7) .nil)) R
  intro c2
  replace h := ifF c2 h
  refine eN (sw_condF R (sw_skip (then_norm (qG (q_fa tb R (q_ldD (y := vI a.what) tb R (r_eqlV R R R R (q_fa tb R (q_stE _ _ tb R (eN (sw_seq (qG (q_asgD R (eN (sw_block ?_)))))))))))))))
  obtain ⟨K5, hK5, h⟩ : ∃ K, K = _ ∧ r7_signals_m_L1 F a K F o.squibs 0 = some r := ⟨_, rfl, h⟩
  refine sw_loopS (fun m st => ∃ (rv : (List Int)) (x : Int), r7_signals_m_L1 F a K5 m rv x = some r ∧ st = ⟨[(3, .ref 3 7 0 0), (4, .ref 4 6 0 0), (5, .ref 5 5 0 0), (6, .ref 6 6 0 0), (7, .d (vI 0)), (8, .d (vI x))], [some (lvI o.zones), some (lvI o.holder), some (lvI rv), some ⟨7, [.d (PdPad.d t)]⟩, some ⟨6, [PdState_T1 {o with squibs := rv, storm := (decide (a.what = 1))} 0 1 2]⟩, some ⟨5, [.d (PdAct.d a)]⟩, some ⟨6, [.d (.agg [vI 0, .v (.slice none 0 0), .v (.slice none 0 0), .v (.slice none 0 0), vI 0, .v (.bool false)])]⟩]⟩) (.prn [3, 4, 5, 6, 7, 8] R) ⟨o.squibs, 0, h, R⟩ ?_
  clear h
  rintro m5 st ⟨rv, x, h, rfl⟩
  cases m5 with
  | zero => cases (show (none : Option (PdState × Int × PdState)) = some r from h)
  | succ m5 =>
  rw [r7_signals_m_L1] at h
  refine sw_seq (qG (q_movD R (q_fa tb R (r_ldW tb R R R R R R R R R (r_lenR tb R R R R R ?_)))))
  refine r_lss R R R R ?_ ?_
  ·intro c3
   replace h := ifP c3 h
   refine eN (sw_condT R (sw_skip (then_norm (sw_seq ?_))))
   refine sw_join (fun zz : (List Int) => r7_signals_m_J1 F (r7_signals_m_L1 F a K5 m5) x zz = some r) (fun zz : (List Int) => ⟨[(3, .ref 3 7 0 0), (4, .ref 4 6 0 0), (5, .ref 5 5 0 0), (6, .ref 6 6 0 0), (7, .d (vI 0)), (8, .d (vI x))], [some (lvI o.zones), some (lvI o.holder), some (lvI zz), some ⟨7, [.d (PdPad.d t)]⟩, some ⟨6, [PdState_T1 {o with squibs := zz, storm := (decide (a.what = 1))} 0 1 2]⟩, some ⟨5, [.d (PdAct.d a)]⟩, some ⟨6, [.d (.agg [vI 0, .v (.slice none 0 0), .v (.slice none 0 0), .v (.slice none 0 0), vI 0, .v (.bool false)])]⟩]⟩) ?_ ?_
   ·clear h
    rintro rv3 h
    rw [r7_signals_m_J1] at h
    refine sw_rg (q_movD R (q_add R (q_asgD R (eN ?_))))
    exact ⟨m5, _, Nat.lt_succ_self _, .prn [3, 4, 5, 6, 7, 8] R, rv3, (W (x + 1)), h, R⟩
   refine sw_block (qG (q_fa tb R (q_ldD (y := .v (.bool (decide (a.what = 1)))) tb R ?_)))
   with_reducible apply ev_lit
   ·intro c4
    replace h := ifP c4 h
    refine q_movD R (q_fa tb R (r_ldW tb R R R R R R R R R (q_movD R ?_)))
    obtain ⟨e, ie, h⟩ := bnd h
    refine r_ixI tb R R R R R R (ix0 ie) (ix1 ie) R R ?_
    refine r_ldD (y := vI e) tb R R R R (ix2 (g := fun a => T.d (vI a)) ie) R R R R ?_
    refine r_eql R R R R ?_ ?_
    ·intro c5
     replace h := ifP c5 h
     refine q_pickT R (eN (sw_condT R (sw_rg (q_fa tb R (r_ldW tb R R R R R R R R R (q_movD R (r_ixI tb R R R R R R (ix0 ie) (ix1 ie) R R ?_)))))))
     obtain ⟨rv2, irv2, h⟩ := bnd h
     refine r_stQ (a' := (0 : Int)) tb R R R R ie R R R R irv2 R R ?_
     dsimp only [List.set_cons_zero, List.set_cons_succ, PdState_T1]
     first | rw [set_len irv2] | skip
     refine ev_end (block_norm (then_norm ?_))
     exact .inl ⟨rv2, h, .prn [3, 4, 5, 6, 7, 8] R⟩
    intro c5
    replace h := ifN c5 h
    refine q_pickT R (eN (sw_condF R (sw_skip (block_norm (then_norm ?_)))))
    exact .inl ⟨rv, h, .prn [3, 4, 5, 6, 7, 8] R⟩
   intro c4
   replace h := ifF c4 h
   refine q_movD R (q_sk 6 R (q_pickF R (eN (sw_condF R (sw_skip (block_norm (then_norm ?_)))))))
   exact .inl ⟨rv, h, .prn [3, 4, 5, 6, 7, 8] R⟩
  intro c3
  replace h := ifN (Int.not_lt.2 c3) h
  refine eN (sw_condF R (sw_exit (then_exit (then_exit ?_))))
  subst hK5
  refine block_exit (then_norm (qG (r_ldG tb R R R R R R R R R (q_stE _ _ tb R (q_asgD R (eN (sw_ret (then_ret ?_))))))))
  obtain rfl := sI h
  exact f2 [0, 1, 2] (.row R (.row R (.row R .nil))) R (.cons (rc tb R) (.cons (.tmp 7) .nil)) R
 intro c
 replace h := ifN c h
 refine eN (sw_condF R (sw_skip (then_norm (sw_seq (sw_seq (sw_dr (by kernel_rfl) (q_fa tb R (r_ldW tb R R R R R R R R R (q_fa tb R (q_ldD (y := vI a.who) tb R ?_))))))))))
 obtain ⟨e2, ie2, h⟩ := bnd h
 refine r_ixI tb R R R R R R (ix0 ie2) (ix1 ie2) R R ?_
 refine r_ldD (y := vI e2) tb R R R R (ix2 (g := fun a => T.d (vI a)) ie2) R R R R ?_
 refine q_fa tb R (q_ldD (y := vI t.panel) tb R ?_)
 refine r_neq R R R R ?_ ?_
 ·intro c6
  replace h := ifN c6 h
  refine ev_endD (by kernel_rfl) (then_norm (sw_condT R (qG (r_ldG tb R R R R R R R R R (q_stE _ _ tb R (q_asgD R (eN (sw_ret (then_ret ?_)))))))))
  obtain rfl := sI h
  exact f2 [0, 1, 2] (.row R (.row R (.row R .nil))) R (.cons (rc tb R) (.cons (.tmp 7) .nil)) R
 intro c6
 replace h := ifP c6 h
 refine ev_endD (by kernel_rfl) (then_norm (sw_condF R (sw_skip (then_norm (sw_seq (qG (q_fa tb R (q_ldD (y := vI o.siren) tb R (r_geqV R R R R (q_fa tb R (q_ldD (y := vI a.what) tb R (r_eqlV R R R R (r_booleql R R R R R ?_)))))))))))))
 with_reducible apply ev_lit
 ·intro c7
  replace h := ifP c7 h
  refine eN (sw_condT R (qG (r_ldG tb R R R R R R R R R (q_stE _ _ tb R (q_asgD R (eN (sw_ret (then_ret ?_))))))))
  obtain rfl := sI h
  exact f2 [0, 1, 2] (.row R (.row R (.row R .nil))) R (.cons (rc tb R) (.cons (.tmp 7) .nil)) R
 intro c7
 replace h := ifF c7 h
 refine eN (sw_condF R (sw_skip (then_norm (sw_seq (qG (q_asgD R (eN (sw_block ?_))))))))
 obtain ⟨K8, hK8, h⟩ : ∃ K, K = _ ∧ r7_signals_m_L2 F o a K F 0 = some r := ⟨_, rfl, h⟩
 refine sw_loopS (st0 := ⟨[(4, .ref 3 6 0 0), (5, .ref 4 5 0 0), (6, .ref 5 6 0 0), (7, .d (vI 0)), (9, .d (vI 0))], [some (lvI o.zones), some (lvI o.holder), some (lvI o.squibs), some ⟨6, [PdState_T1 o 0 1 2]⟩, some ⟨5, [.d (PdAct.d a)]⟩, some ⟨6, [.d (.agg [vI 0, .v (.slice none 0 0), .v (.slice none 0 0), .v (.slice none 0 0), vI 0, .v (.bool false)])]⟩]⟩) (fun m st => ∃ (x2 : Int), r7_signals_m_L2 F o a K8 m x2 = some r ∧ st = ⟨[(4, .ref 3 6 0 0), (5, .ref 4 5 0 0), (6, .ref 5 6 0 0), (7, .d (vI 0)), (9, .d (vI x2))], [some (lvI o.zones), some (lvI o.holder), some (lvI o.squibs), some ⟨6, [PdState_T1 o 0 1 2]⟩, some ⟨5, [.d (PdAct.d a)]⟩, some ⟨6, [.d (.agg [vI 0, .v (.slice none 0 0), .v (.slice none 0 0), .v (.slice none 0 0), vI 0, .v (.bool false)])]⟩]⟩) (.vw (κ := [0, 1, 2, 4, 5, 6]) (vK (.row R (.row R (.row R (.cons R R (.cons R R (.cons R R .nil)))))) R)) ⟨0, h, R⟩ ?_
 clear h
 rintro m8 st ⟨x2, h, rfl⟩
 cases m8 with
 | zero => cases (show (none : Option (PdState × Int × PdState)) = some r from h)
 | succ m8 =>
 rw [r7_signals_m_L2] at h
 refine sw_seq (qG (q_movD R (q_fa tb R (r_ldW tb R R R R R R R R R (r_lenR tb R R R R R ?_)))))
 refine r_lss R R R R ?_ ?_
 ·intro c8
  replace h := ifP c8 h
  refine eN (sw_condT R (sw_skip (then_norm (sw_seq ?_))))
  refine sw_join (fun zz : Unit => r7_signals_m_J2 F (r7_signals_m_L2 F o a K8 m8) x2 = some r) (fun zz : Unit => ⟨[(4, .ref 3 6 0 0), (5, .ref 4 5 0 0), (6, .ref 5 6 0 0), (7, .d (vI 0)), (9, .d (vI x2))], [some (lvI o.zones), some (lvI o.holder), some (lvI o.squibs), some ⟨6, [PdState_T1 o 0 1 2]⟩, some ⟨5, [.d (PdAct.d a)]⟩, some ⟨6, [.d (.agg [vI 0, .v (.slice none 0 0), .v (.slice none 0 0), .v (.slice none 0 0), vI 0, .v (.bool false)])]⟩]⟩) ?_ ?_
  ·clear h
   rintro ⟨⟩ h
   rw [r7_signals_m_J2] at h
   refine sw_rg (q_movD R (q_add R (q_asgD R (eN ?_))))
   exact ⟨m8, _, Nat.lt_succ_self _, .prn [4, 5, 6, 7, 9] R, (W (x2 + 1)), h, R⟩
  refine sw_block (qG (q_fa tb R (q_ldD (y := vI a.what) tb R ?_)))
  refine r_eql R R R R ?_ ?_
  ·intro c9
   replace h := ifP c9 h
   refine q_movD R (q_fa tb R (r_ldW tb R R R R R R R R R (q_movD R ?_)))
   obtain ⟨e3, ie3, h⟩ := bnd h
   refine r_ixI tb R R R R R R (ix0 ie3) (ix1 ie3) R R ?_
   refine r_ldD (y := vI e3) tb R R R R (ix2 (g := fun a => T.d (vI a)) ie3) R R R R ?_
   refine r_eql R R R R ?_ ?_
   ·intro c10
    replace h := ifP c10 h
    refine q_pickT R (eN (sw_condT R (qG (r_ldG tb R R R R R R R R R (q_stE _ _ tb R (q_asgD R (eN (sw_ret (block_ret (then_ret (then_ret (block_ret (then_ret ?_)))))))))))))
    obtain rfl := sI h
    exact f2 [0, 1, 2] (.row R (.row R (.row R .nil))) R (.cons (rc tb R) (.cons (.tmp 7) .nil)) R
   intro c10
   replace h := ifN c10 h
   refine q_pickT R (eN (sw_condF R (sw_skip (block_norm (then_norm ?_)))))
   exact .inl ⟨(), h, .prn [4, 5, 6, 7, 9] R⟩
  intro c9
  replace h := ifN c9 h
  refine q_movD R (q_sk 6 R (q_pickF R (eN (sw_condF R (sw_skip (block_norm (then_norm ?_)))))))
  exact .inl ⟨(), h, .prn [4, 5, 6, 7, 9] R⟩
 intro c8
 replace h := ifN (Int.not_lt.2 c8) h
 refine eN (sw_condF R (sw_exit (then_exit (then_exit ?_))))
 subst hK8
 refine block_exit (then_norm (qG (q_fa tb R (q_stE _ _ tb R (eN (sw_seq ?_))))))
 refine sw_join (fun zz : Int => r7_signals_m_J3 F o zz = some r) (fun zz : Int => ⟨[(4, .ref 3 6 0 0), (6, .ref 4 6 0 0), (7, .d (vI 0))], [some (lvI o.zones), some (lvI o.holder), some (lvI o.squibs), some ⟨6, [PdState_T1 {o with siren := zz} 0 1 2]⟩, some ⟨6, [.d (.agg [vI 0, .v (.slice none 0 0), .v (.slice none 0 0), .v (.slice none 0 0), vI 0, .v (.bool false)])]⟩]⟩) ?_ ?_
 ·clear h
  rintro rv4 h
  rw [r7_signals_m_J3] at h
  refine qG (r_ldG tb R R R R R R R R R (q_stE _ _ tb R (q_asgD R (eN (sw_ret ?_)))))
  obtain rfl := sI h
  exact f2 [0, 1, 2] (.row R (.row R (.row R .nil))) R (.cons (rc tb R) (.cons (.tmp 7) .nil)) R
 refine qG (q_fa tb R (q_ldD (y := vI a.what) tb R ?_))
 refine r_eql R R R R ?_ ?_
 ·intro c11
  replace h := ifP c11 h
  refine eN (sw_condT R (sw_rg (q_fa tb R (q_ldD (y := vI a.at_) tb R (q_fa tb R (q_stE _ _ tb R (eN ?_)))))))
  exact .inl ⟨a.at_, h, .vw (κ := [0, 1, 2, 3, 5]) (vK (.row R (.row R (.row R (.cons R R (.cons R R .nil))))) R)⟩
 intro c11
 replace h := ifN c11 h
 refine eN (sw_condF R (sw_skip (then_norm ?_)))
 exact .inl ⟨(-1), h, .vw (κ := [0, 1, 2, 3, 5]) (vK (.row R (.row R (.row R (.cons R R (.cons R R .nil))))) R)⟩
def r7_done_J1 (F : Nat) (a : PdAct) (x : Int) (lv : (List Int)) (lv2 : (List Int)) (lv3 : (List Int)) (x2 : Int) (x3 : Bool) (x4 : Int) : Option (PdState × Int) := if x4 = 0 then (some ((PdState.mk a.at_ lv lv2 lv3 x2 x3), 0)) else (some ((PdState.mk 0 ([] : List Int) ([] : List Int) ([] : List Int) 0 false), x4))
def r7_done_J2 (F : Nat) (t : PdPad) (a : PdAct) (rv : PdState) : Option (PdState × Int) := Option.bind (r7_squibs_m F t rv a) fun rv4 => Option.bind (lnO rv4.2.2.zones.length rv.zones.length) fun u7 => Option.bind (lnO rv4.2.2.holder.length rv.holder.length) fun u8 => Option.bind (lnO rv4.2.2.squibs.length rv.squibs.length) fun u9 => r7_done_J1 F a rv4.1.now rv4.2.2.zones rv4.2.2.holder rv4.2.2.squibs rv4.1.siren rv4.1.storm rv4.2.1
def r7_done_J3 (F : Nat) (t : PdPad) (a : PdAct) (rv : PdState) : Option (PdState × Int) := Option.bind (r7_keys_m F t rv a) fun rv3 => Option.bind (lnO rv3.2.2.zones.length rv.zones.length) fun u4 => Option.bind (lnO rv3.2.2.holder.length rv.holder.length) fun u5 => Option.bind (lnO rv3.2.2.squibs.length rv.squibs.length) fun u6 => r7_done_J1 F a rv3.1.now rv3.2.2.zones rv3.2.2.holder rv3.2.2.squibs rv3.1.siren rv3.1.storm rv3.2.1
def r7_done_J4 (F : Nat) (t : PdPad) (a : PdAct) (rv : PdState) : Option (PdState × Int) := Option.bind (r7_squibs_m F t rv a) fun rv3 => Option.bind (lnO rv3.2.2.zones.length rv.zones.length) fun u4 => Option.bind (lnO rv3.2.2.holder.length rv.holder.length) fun u5 => Option.bind (lnO rv3.2.2.squibs.length rv.squibs.length) fun u6 => r7_done_J1 F a rv3.1.now rv3.2.2.zones rv3.2.2.holder rv3.2.2.squibs rv3.1.siren rv3.1.storm rv3.2.1
def r7_done (F : Nat) (t : PdPad) (o : PdState) (a : PdAct) : Option (PdState × Int) := if a.at_ < o.now then (some ((PdState.mk 0 ([] : List Int) ([] : List Int) ([] : List Int) 0 false), 170)) else (Option.bind (r7_Copy F o) fun rv => if a.kind = 1 then (Option.bind (r7_moved_m F t rv a) fun rv2 => Option.bind (lnO rv2.2.2.zones.length rv.zones.length) fun u => Option.bind (lnO rv2.2.2.holder.length rv.holder.length) fun u2 => Option.bind (lnO rv2.2.2.squibs.length rv.squibs.length) fun u3 => r7_done_J1 F a rv2.1.now rv2.2.2.zones rv2.2.2.holder rv2.2.2.squibs rv2.1.siren rv2.1.storm rv2.2.1) else (if a.kind = 2 then (r7_done_J3 F t a rv) else (if a.kind = 3 then (r7_done_J3 F t a rv) else (if a.kind = 4 then (r7_done_J3 F t a rv) else (if a.kind = 5 then (r7_done_J4 F t a rv) else (if a.kind = 6 then (r7_done_J4 F t a rv) else (if a.kind = 7 then (r7_done_J4 F t a rv) else (Option.bind (r7_signals_m F t rv a) fun rv3 => Option.bind (lnO rv3.2.2.zones.length rv.zones.length) fun u4 => Option.bind (lnO rv3.2.2.holder.length rv.holder.length) fun u5 => Option.bind (lnO rv3.2.2.squibs.length rv.squibs.length) fun u6 => r7_done_J1 F a rv3.1.now rv3.2.2.zones rv3.2.2.holder rv3.2.2.squibs rv3.1.siren rv3.1.storm rv3.2.1))))))))
theorem r7_done_scr {F : Nat} {t : PdPad} {o : PdState} {a : PdAct} {r : (PdState × Int)} (h : r7_done F t o a = some r) : SCR Tryz.prog 28 (List.map T.d [PdPad.d t, PdState.d o, PdAct.d a]) [] (.tup [PdState_T1 r.1 0 1 2, .d (.v (.int .i64 r.2))]) (List.map some [(lvI r.1.zones), (lvI r.1.holder), (lvI r.1.squibs)]) := by
 rw [r7_done] at h
 refine SC.of_sw Tryz.func28 R R R ?_
 dsimp only [argS, List.map]
 refine qG (q_box R (q_box R (q_box R (r_alloc tb R R R R R (q_asgD R (eN (sw_seq (qG (q_fa tb R (q_ldD (y := vI a.at_) tb R (q_fa tb R (q_ldD (y := vI o.now) tb R ?_))))))))))))
 refine r_lss R R R R ?_ ?_
 ·intro c
  replace h := ifP c h
  refine eN (sw_condT R (qG (r_build (v := .d (.agg [vI 0, .v (.slice none 0 0), .v (.slice none 0 0), .v (.slice none 0 0), vI 0, .v (.bool false)])) tb R R (List.cons_ne_nil _ _) R R R R R R (q_stE _ _ tb R (q_asgD R (eN ?_))))))
  refine SW.own (ts' := [(6, .ref 3 6 0 0), (7, .d (vI 170))]) (L' := [some ⟨7, [.d (PdPad.d t)]⟩, some ⟨6, [.d (PdState.d o)]⟩, some ⟨5, [.d (PdAct.d a)]⟩, some ⟨6, [.agg [.d (vI 0), .row 4 1 0 (([] : List Int)).length, .d (.v (.slice none 0 0)), .d (.v (.slice none 0 0)), .d (vI 0), .d (.v (.bool false))]]⟩]) 1 R R (.cons (.same _) (.cons (.same _) .nil)) (.same (.same (.same (.cons R (.cons (.aggDL (.cons (.same _) (.cons .nil (.cons (.same _) (.cons (.same _) (.cons (.same _) (.cons (.same _) .nil))))))) .nil) .nil)))) ?_
  simp only [List.cons_append, List.nil_append]
  refine SW.own (ts' := [(6, .ref 3 6 0 0), (7, .d (vI 170))]) (L' := [some ⟨7, [.d (PdPad.d t)]⟩, some ⟨6, [.d (PdState.d o)]⟩, some ⟨5, [.d (PdAct.d a)]⟩, some ⟨6, [.agg [.d (vI 0), .row 4 1 0 (([] : List Int)).length, .row 5 1 0 (([] : List Int)).length, .d (.v (.slice none 0 0)), .d (vI 0), .d (.v (.bool false))]]⟩, some (lvI ([] : List Int))]) 1 R R (.cons (.same _) (.cons (.same _) .nil)) (.same (.same (.same (.cons R (.cons (.aggL (.cons (.same _) (.cons (.same _) (.cons .nil (.cons (.same _) (.cons (.same _) (.cons (.same _) .nil))))))) .nil) (.same .nil))))) ?_
  simp only [List.cons_append, List.nil_append]
  refine SW.own (ts' := [(6, .ref 3 6 0 0), (7, .d (vI 170))]) (L' := [some ⟨7, [.d (PdPad.d t)]⟩, some ⟨6, [.d (PdState.d o)]⟩, some ⟨5, [.d (PdAct.d a)]⟩, some ⟨6, [PdState_T1 (PdState.mk 0 ([] : List Int) ([] : List Int) ([] : List Int) 0 false) 4 5 6]⟩, some (lvI ([] : List Int)), some (lvI ([] : List Int))]) 1 R R (.cons (.same _) (.cons (.same _) .nil)) (.same (.same (.same (.cons R (.cons (.aggL (.cons (.same _) (.cons (.same _) (.cons (.same _) (.cons .nil (.cons (.same _) (.cons (.same _) .nil))))))) .nil) (.same (.same .nil)))))) ?_
  simp only [List.cons_append, List.nil_append]
  refine sw_ret (then_ret ?_)
  obtain rfl := sI h
  exact f2 [4, 5, 6] (.row R (.row R (.row R .nil))) R (.cons (rc tb R) (.cons (.tmp 7) .nil)) R
 intro c
 replace h := ifN (Int.not_lt.2 c) h
 refine eN (sw_condF R (sw_skip (then_norm (qG (q_ldD (y := PdState.d o) tb R ?_)))))
 obtain ⟨rv, hrv, h⟩ := bnd h
 refine r_callN (t' := PdState_T1 rv 4 5 6) (news' := [(lvI rv.zones), (lvI rv.holder), (lvI rv.squibs)]) (r7_Copy_scr hrv) (.of (by kernel_rfl)) R R R ((.row (.row (.row .nil)))) R R R (r_alloc tb R R R R R (q_stE _ _ tb R (q_asgD R (eN (sw_seq ?_)))))
 refine sw_join (fun zz : Int × (List Int) × (List Int) × (List Int) × Int × Bool × Int => r7_done_J1 F a zz.1 zz.2.1 zz.2.2.1 zz.2.2.2.1 zz.2.2.2.2.1 zz.2.2.2.2.2.1 zz.2.2.2.2.2.2 = some r) (fun zz : Int × (List Int) × (List Int) × (List Int) × Int × Bool × Int => ⟨[(5, .ref 0 5 0 0), (6, .ref 1 6 0 0), (7, .d (vI 0)), (8, .ref 2 6 0 0), (9, .d (vI zz.2.2.2.2.2.2))], [some ⟨5, [.d (PdAct.d a)]⟩, some ⟨6, [.d (.agg [vI 0, .v (.slice none 0 0), .v (.slice none 0 0), .v (.slice none 0 0), vI 0, .v (.bool false)])]⟩, some ⟨6, [PdState_T1 (PdState.mk zz.1 zz.2.1 zz.2.2.1 zz.2.2.2.1 zz.2.2.2.2.1 zz.2.2.2.2.2.1) 3 4 5]⟩, some (lvI zz.2.1), some (lvI zz.2.2.1), some (lvI zz.2.2.2.1)]⟩) ?_ ?_
 ·clear h
  rintro ⟨x, lv, lv2, lv3, x2, x3, x4⟩ h
  dsimp only at h ⊢
  rw [r7_done_J1] at h
  refine sw_seq (qG (q_movD R ?_))
  refine r_neq R R R R ?_ ?_
  ·intro c9
   replace h := ifN c9 h
   refine eN (sw_condT R (qG (r_build (v := .d (.agg [vI 0, .v (.slice none 0 0), .v (.slice none 0 0), .v (.slice none 0 0), vI 0, .v (.bool false)])) tb R R (List.cons_ne_nil _ _) R R R R R R (q_movD R (q_stE _ _ tb R (q_asgD R (eN ?_)))))))
   refine SW.own (ts' := [(6, .ref 1 6 0 0), (7, .d (vI x4))]) (L' := [some ⟨5, [.d (PdAct.d a)]⟩, some ⟨6, [.agg [.d (vI 0), .row 6 1 0 (([] : List Int)).length, .d (.v (.slice none 0 0)), .d (.v (.slice none 0 0)), .d (vI 0), .d (.v (.bool false))]]⟩, some ⟨6, [PdState_T1 (PdState.mk x lv lv2 lv3 x2 x3) 3 4 5]⟩, some (lvI lv), some (lvI lv2), some (lvI lv3)]) 1 R R (.cons (.same _) (.cons (.same _) .nil)) (.same (.cons R (.cons (.aggDL (.cons (.same _) (.cons .nil (.cons (.same _) (.cons (.same _) (.cons (.same _) (.cons (.same _) .nil))))))) .nil) (.same (.same (.same (.same .nil)))))) ?_
   simp only [List.cons_append, List.nil_append]
   refine SW.own (ts' := [(6, .ref 1 6 0 0), (7, .d (vI x4))]) (L' := [some ⟨5, [.d (PdAct.d a)]⟩, some ⟨6, [.agg [.d (vI 0), .row 6 1 0 (([] : List Int)).length, .row 7 1 0 (([] : List Int)).length, .d (.v (.slice none 0 0)), .d (vI 0), .d (.v (.bool false))]]⟩, some ⟨6, [PdState_T1 (PdState.mk x lv lv2 lv3 x2 x3) 3 4 5]⟩, some (lvI lv), some (lvI lv2), some (lvI lv3), some (lvI ([] : List Int))]) 1 R R (.cons (.same _) (.cons (.same _) .nil)) (.same (.cons R (.cons (.aggL (.cons (.same _) (.cons (.same _) (.cons .nil (.cons (.same _) (.cons (.same _) (.cons (.same _) .nil))))))) .nil) (.same (.same (.same (.same (.same .nil))))))) ?_
   simp only [List.cons_append, List.nil_append]
   refine SW.own (ts' := [(6, .ref 1 6 0 0), (7, .d (vI x4))]) (L' := [some ⟨5, [.d (PdAct.d a)]⟩, some ⟨6, [PdState_T1 (PdState.mk 0 ([] : List Int) ([] : List Int) ([] : List Int) 0 false) 6 7 8]⟩, some ⟨6, [PdState_T1 (PdState.mk x lv lv2 lv3 x2 x3) 3 4 5]⟩, some (lvI lv), some (lvI lv2), some (lvI lv3), some (lvI ([] : List Int)), some (lvI ([] : List Int))]) 1 R R (.cons (.same _) (.cons (.same _) .nil)) (.same (.cons R (.cons (.aggL (.cons (.same _) (.cons (.same _) (.cons (.same _) (.cons .nil (.cons (.same _) (.cons (.same _) .nil))))))) .nil) (.same (.same (.same (.same (.same (.same .nil)))))))) ?_
   simp only [List.cons_append, List.nil_append]
   refine sw_ret (then_ret ?_)
   obtain rfl := sI h
   exact f2 [6, 7, 8] (.row R (.row R (.row R .nil))) R (.cons (rc tb R) (.cons (.tmp 7) .nil)) R
  intro c9
  replace h := ifP c9 h
  refine eN (sw_condF R (sw_skip (then_norm (qG (q_fa tb R (q_ldD (y := vI a.at_) tb R (q_fa tb R (q_stE _ _ tb R (eN (qG (r_ldG tb R R R R R R R R R (q_stE _ _ tb R (q_asgD R (eN (sw_ret ?_)))))))))))))))
  obtain rfl := sI h
  exact f2 [3, 4, 5] (.row R (.row R (.row R .nil))) R (.cons (rc tb R) (.cons (.tmp 7) .nil)) R
 refine qG (q_fa tb R (q_ldD (y := vI a.kind) tb R (eN (sw_block (qG ?_)))))
 refine r_eql R R R R ?_ ?_
 ·intro c2
  replace h := ifP c2 h
  refine q_asgD R (eN (sw_condT R (sw_rg (q_ldD (y := PdPad.d t) tb R (r_ldG tb R R R R R R R R R (q_ldD (y := PdAct.d a) tb R ?_))))))
  obtain ⟨rv2, hrv2, h⟩ := bnd h
  obtain ⟨u, hu, h⟩ := bnd h
  obtain ⟨u2, hu2, h⟩ := bnd h
  obtain ⟨u3, hu3, h⟩ := bnd h
  refine r_callO (t' := .tup [PdState_T1 {rv2.1 with zones := rv2.2.2.zones, holder := rv2.2.2.holder, squibs := rv2.2.2.squibs} 4 5 6, .d (vI rv2.2.1)]) (ls := [some (lvI rv2.2.2.zones), some (lvI rv2.2.2.holder), some (lvI rv2.2.2.squibs)]) (news := []) ([4, 5, 6]) ([some ⟨7, [.d (PdPad.d t)]⟩, some ⟨6, [.d (PdState.d o)]⟩, some ⟨5, [.d (PdAct.d a)]⟩, some ⟨6, [.d (.agg [vI 0, .v (.slice none 0 0), .v (.slice none 0 0), .v (.slice none 0 0), vI 0, .v (.bool false)])]⟩, some (lvI rv2.2.2.zones), some (lvI rv2.2.2.holder), some (lvI rv2.2.2.squibs), some ⟨6, [PdState_T1 rv 4 5 6]⟩]) (r7_moved_m_scr hrv2) (.of (by kernel_rfl)) R (.inl ⟨R, R, R⟩) R R R R ((.row R (.row R (.row R .nil)))) R R R ((.row (.row (.row .nil)))) .nil R R R R ?_
  dsimp only [PdState_T1]
  first | rw [← lnO_eq hu] | skip
  first | rw [← lnO_eq hu2] | skip
  first | rw [← lnO_eq hu3] | skip
  refine r_movT (.tup [PdState_T1 {rv2.1 with zones := rv2.2.2.zones, holder := rv2.2.2.holder, squibs := rv2.2.2.squibs} 4 5 6, .d (vI rv2.2.1)]) R R R (r_ext (t := PdState_T1 {rv2.1 with zones := rv2.2.2.zones, holder := rv2.2.2.holder, squibs := rv2.2.2.squibs} 4 5 6) R R R R (r_ext (t := .d (vI rv2.2.1)) R R R R (q_stE _ _ tb R (q_asgD R (ev_end (block_norm (then_norm ?_)))))))
  exact .inl ⟨(rv2.1.now, rv2.2.2.zones, rv2.2.2.holder, rv2.2.2.squibs, rv2.1.siren, rv2.1.storm, rv2.2.1), h, .vw (κ := [2, 3, 7, 4, 5, 6]) (vK (.cons R R (.cons R R (.cons R R (.row R (.row R (.row R .nil)))))) R)⟩
 intro c2
 replace h := ifN c2 h
 refine q_asgD R (eN (sw_condF R (sw_seq ?_)))
 refine sw_join (fun zz : Unit => r7_done_J3 F t a rv = some r) (fun zz : Unit => ⟨[(3, .ref 0 7 0 0), (5, .ref 1 5 0 0), (6, .ref 2 6 0 0), (7, .d (vI 0)), (8, .ref 3 6 0 0), (9, .d (vI 0)), (19, .d (vI a.kind)), (36, .d (.v (.bool true)))], [some ⟨7, [.d (PdPad.d t)]⟩, some ⟨5, [.d (PdAct.d a)]⟩, some ⟨6, [.d (.agg [vI 0, .v (.slice none 0 0), .v (.slice none 0 0), .v (.slice none 0 0), vI 0, .v (.bool false)])]⟩, some ⟨6, [PdState_T1 rv 4 5 6]⟩, some (lvI rv.zones), some (lvI rv.holder), some (lvI rv.squibs)]⟩) ?_ ?_
 ·clear h
  rintro ⟨⟩ h
  rw [r7_done_J3] at h
  refine sw_condT R (sw_rg (q_ldD (y := PdPad.d t) tb R (r_ldG tb R R R R R R R R R (q_ldD (y := PdAct.d a) tb R ?_))))
  obtain ⟨rv3, hrv3, h⟩ := bnd h
  obtain ⟨u4, hu4, h⟩ := bnd h
  obtain ⟨u5, hu5, h⟩ := bnd h
  obtain ⟨u6, hu6, h⟩ := bnd h
  refine r_callO (t' := .tup [PdState_T1 {rv3.1 with zones := rv3.2.2.zones, holder := rv3.2.2.holder, squibs := rv3.2.2.squibs} 4 5 6, .d (vI rv3.2.1)]) (ls := [some (lvI rv3.2.2.zones), some (lvI rv3.2.2.holder), some (lvI rv3.2.2.squibs)]) (news := []) ([4, 5, 6]) ([some ⟨7, [.d (PdPad.d t)]⟩, some ⟨5, [.d (PdAct.d a)]⟩, some ⟨6, [.d (.agg [vI 0, .v (.slice none 0 0), .v (.slice none 0 0), .v (.slice none 0 0), vI 0, .v (.bool false)])]⟩, some ⟨6, [PdState_T1 rv 4 5 6]⟩, some (lvI rv3.2.2.zones), some (lvI rv3.2.2.holder), some (lvI rv3.2.2.squibs)]) (r7_keys_m_scr hrv3) (.of (by kernel_rfl)) R (.inl ⟨R, R, R⟩) R R R R ((.row R (.row R (.row R .nil)))) R R R ((.row (.row (.row .nil)))) .nil R R R R ?_
  dsimp only [PdState_T1]
  first | rw [← lnO_eq hu4] | skip
  first | rw [← lnO_eq hu5] | skip
  first | rw [← lnO_eq hu6] | skip
  refine r_movT (.tup [PdState_T1 {rv3.1 with zones := rv3.2.2.zones, holder := rv3.2.2.holder, squibs := rv3.2.2.squibs} 4 5 6, .d (vI rv3.2.1)]) R R R (r_ext (t := PdState_T1 {rv3.1 with zones := rv3.2.2.zones, holder := rv3.2.2.holder, squibs := rv3.2.2.squibs} 4 5 6) R R R R (r_ext (t := .d (vI rv3.2.1)) R R R R (q_stE _ _ tb R (q_asgD R (ev_end (block_norm (then_norm ?_)))))))
  exact .inl ⟨(rv3.1.now, rv3.2.2.zones, rv3.2.2.holder, rv3.2.2.squibs, rv3.1.siren, rv3.1.storm, rv3.2.1), h, .vw (κ := [1, 2, 3, 4, 5, 6]) (vK (.cons R R (.cons R R (.cons R R (.row R (.row R (.row R .nil)))))) R)⟩
 refine qG ?_
 refine r_eql R R R R ?_ ?_
 ·intro c3
  replace h := ifP c3 h
  refine q_asgD R (eN (sw_condT R (sw_skip (then_norm ?_))))
  exact .inl ⟨(), h, .vw (κ := [0, 2, 3, 7, 4, 5, 6]) (vK (.cons R R (.cons R R (.cons R R (.cons R R (.row R (.row R (.row R .nil))))))) R)⟩
 intro c3
 replace h := ifN c3 h
 refine q_asgD R (eN (sw_condF R (qG ?_)))
 refine r_eql R R R R ?_ ?_
 ·intro c4
  replace h := ifP c4 h
  refine q_asgD R (eN (sw_condT R (sw_skip (then_norm ?_))))
  exact .inl ⟨(), h, .vw (κ := [0, 2, 3, 7, 4, 5, 6]) (vK (.cons R R (.cons R R (.cons R R (.cons R R (.row R (.row R (.row R .nil))))))) R)⟩
 intro c4
 replace h := ifN c4 h
 refine q_asgD R (eN (sw_condF R (sw_rg ?_)))
 refine r_eql R R R R ?_ ?_
 ·intro c5
  replace h := ifP c5 h
  refine q_asgD R (eN ?_)
  exact .inl ⟨(), h, .vw (κ := [0, 2, 3, 7, 4, 5, 6]) (vK (.cons R R (.cons R R (.cons R R (.cons R R (.row R (.row R (.row R .nil))))))) R)⟩
 intro c5
 replace h := ifN c5 h
 refine q_asgD R (eN (.inr (sw_condF R (sw_seq ?_))))
 refine sw_join (fun zz : Unit => r7_done_J4 F t a rv = some r) (fun zz : Unit => ⟨[(3, .ref 0 7 0 0), (5, .ref 1 5 0 0), (6, .ref 2 6 0 0), (7, .d (vI 0)), (8, .ref 3 6 0 0), (9, .d (vI 0)), (47, .d (.v (.bool true)))], [some ⟨7, [.d (PdPad.d t)]⟩, some ⟨5, [.d (PdAct.d a)]⟩, some ⟨6, [.d (.agg [vI 0, .v (.slice none 0 0), .v (.slice none 0 0), .v (.slice none 0 0), vI 0, .v (.bool false)])]⟩, some ⟨6, [PdState_T1 rv 4 5 6]⟩, some (lvI rv.zones), some (lvI rv.holder), some (lvI rv.squibs)]⟩) ?_ ?_
 ·clear h
  rintro ⟨⟩ h
  rw [r7_done_J4] at h
  refine sw_condT R (sw_rg (q_ldD (y := PdPad.d t) tb R (r_ldG tb R R R R R R R R R (q_ldD (y := PdAct.d a) tb R ?_))))
  obtain ⟨rv3, hrv3, h⟩ := bnd h
  obtain ⟨u4, hu4, h⟩ := bnd h
  obtain ⟨u5, hu5, h⟩ := bnd h
  obtain ⟨u6, hu6, h⟩ := bnd h
  refine r_callO (t' := .tup [PdState_T1 {rv3.1 with zones := rv3.2.2.zones, holder := rv3.2.2.holder, squibs := rv3.2.2.squibs} 4 5 6, .d (vI rv3.2.1)]) (ls := [some (lvI rv3.2.2.zones), some (lvI rv3.2.2.holder), some (lvI rv3.2.2.squibs)]) (news := []) ([4, 5, 6]) ([some ⟨7, [.d (PdPad.d t)]⟩, some ⟨5, [.d (PdAct.d a)]⟩, some ⟨6, [.d (.agg [vI 0, .v (.slice none 0 0), .v (.slice none 0 0), .v (.slice none 0 0), vI 0, .v (.bool false)])]⟩, some ⟨6, [PdState_T1 rv 4 5 6]⟩, some (lvI rv3.2.2.zones), some (lvI rv3.2.2.holder), some (lvI rv3.2.2.squibs)]) (r7_squibs_m_scr hrv3) (.of (by kernel_rfl)) R (.inl ⟨R, R, R⟩) R R R R ((.row R (.row R (.row R .nil)))) R R R ((.row (.row (.row .nil)))) .nil R R R R ?_
  dsimp only [PdState_T1]
  first | rw [← lnO_eq hu4] | skip
  first | rw [← lnO_eq hu5] | skip
  first | rw [← lnO_eq hu6] | skip
  refine r_movT (.tup [PdState_T1 {rv3.1 with zones := rv3.2.2.zones, holder := rv3.2.2.holder, squibs := rv3.2.2.squibs} 4 5 6, .d (vI rv3.2.1)]) R R R (r_ext (t := PdState_T1 {rv3.1 with zones := rv3.2.2.zones, holder := rv3.2.2.holder, squibs := rv3.2.2.squibs} 4 5 6) R R R R (r_ext (t := .d (vI rv3.2.1)) R R R R (q_stE _ _ tb R (q_asgD R (ev_end (block_norm (then_norm ?_)))))))
  exact .inl ⟨(rv3.1.now, rv3.2.2.zones, rv3.2.2.holder, rv3.2.2.squibs, rv3.1.siren, rv3.1.storm, rv3.2.1), h, .vw (κ := [1, 2, 3, 4, 5, 6]) (vK (.cons R R (.cons R R (.cons R R (.row R (.row R (.row R .nil)))))) R)⟩
 refine qG ?_
 refine r_eql R R R R ?_ ?_
 ·intro c6
  replace h := ifP c6 h
  refine q_asgD R (eN (sw_condT R (sw_skip (then_norm ?_))))
  exact .inl ⟨(), h, .vw (κ := [0, 2, 3, 7, 4, 5, 6]) (vK (.cons R R (.cons R R (.cons R R (.cons R R (.row R (.row R (.row R .nil))))))) R)⟩
 intro c6
 replace h := ifN c6 h
 refine q_asgD R (eN (sw_condF R (qG ?_)))
 refine r_eql R R R R ?_ ?_
 ·intro c7
  replace h := ifP c7 h
  refine q_asgD R (eN (sw_condT R (sw_skip (then_norm ?_))))
  exact .inl ⟨(), h, .vw (κ := [0, 2, 3, 7, 4, 5, 6]) (vK (.cons R R (.cons R R (.cons R R (.cons R R (.row R (.row R (.row R .nil))))))) R)⟩
 intro c7
 replace h := ifN c7 h
 refine q_asgD R (eN (sw_condF R (sw_rg ?_)))
 refine r_eql R R R R ?_ ?_
 ·intro c8
  replace h := ifP c8 h
  refine q_asgD R (eN ?_)
  exact .inl ⟨(), h, .vw (κ := [0, 2, 3, 7, 4, 5, 6]) (vK (.cons R R (.cons R R (.cons R R (.cons R R (.row R (.row R (.row R .nil))))))) R)⟩
 intro c8
 replace h := ifN c8 h
 refine q_asgD R (eN (.inr (sw_condF R (sw_rg (q_ldD (y := PdPad.d t) tb R (r_ldG tb R R R R R R R R R (q_ldD (y := PdAct.d a) tb R ?_)))))))
 obtain ⟨rv3, hrv3, h⟩ := bnd h
 obtain ⟨u4, hu4, h⟩ := bnd h
 obtain ⟨u5, hu5, h⟩ := bnd h
 obtain ⟨u6, hu6, h⟩ := bnd h
 refine r_callO (t' := .tup [PdState_T1 {rv3.1 with zones := rv3.2.2.zones, holder := rv3.2.2.holder, squibs := rv3.2.2.squibs} 4 5 6, .d (vI rv3.2.1)]) (ls := [some (lvI rv3.2.2.zones), some (lvI rv3.2.2.holder), some (lvI rv3.2.2.squibs)]) (news := []) ([4, 5, 6]) ([some ⟨7, [.d (PdPad.d t)]⟩, some ⟨6, [.d (PdState.d o)]⟩, some ⟨5, [.d (PdAct.d a)]⟩, some ⟨6, [.d (.agg [vI 0, .v (.slice none 0 0), .v (.slice none 0 0), .v (.slice none 0 0), vI 0, .v (.bool false)])]⟩, some (lvI rv3.2.2.zones), some (lvI rv3.2.2.holder), some (lvI rv3.2.2.squibs), some ⟨6, [PdState_T1 rv 4 5 6]⟩]) (r7_signals_m_scr hrv3) (.of (by kernel_rfl)) R (.inl ⟨R, R, R⟩) R R R R ((.row R (.row R (.row R .nil)))) R R R ((.row (.row (.row .nil)))) .nil R R R R ?_
 dsimp only [PdState_T1]
 first | rw [← lnO_eq hu4] | skip
 first | rw [← lnO_eq hu5] | skip
 first | rw [← lnO_eq hu6] | skip
 refine r_movT (.tup [PdState_T1 {rv3.1 with zones := rv3.2.2.zones, holder := rv3.2.2.holder, squibs := rv3.2.2.squibs} 4 5 6, .d (vI rv3.2.1)]) R R R (r_ext (t := PdState_T1 {rv3.1 with zones := rv3.2.2.zones, holder := rv3.2.2.holder, squibs := rv3.2.2.squibs} 4 5 6) R R R R (r_ext (t := .d (vI rv3.2.1)) R R R R (q_stE _ _ tb R (q_asgD R (ev_end (block_norm (then_norm ?_)))))))
 exact .inl ⟨(rv3.1.now, rv3.2.2.zones, rv3.2.2.holder, rv3.2.2.squibs, rv3.1.siren, rv3.1.storm, rv3.2.1), h, .vw (κ := [2, 3, 7, 4, 5, 6]) (vK (.cons R R (.cons R R (.cons R R (.row R (.row R (.row R .nil)))))) R)⟩
theorem r7_done_pc {F : Nat} {t : PdPad} {o : PdState} {a : PdAct} {r : (PdState × Int)} (h : r7_done F t o a = some r) : PC Tryz.prog 28 [PdPad.d t, PdState.d o, PdAct.d a] (.tup [PdState.d r.1, .v (.int .i64 r.2)]) := (r7_done_scr h).toPC (.tupL (.cons (.aggL (.cons (.d _) (.cons (.row rfl rfl) (.cons (.row rfl rfl) (.cons (.row rfl rfl) (.cons (.d _) (.cons (.d _) .nil))))))) (.cons (.d _) .nil)))
def r7_Play_J1 (F : Nat) (B3 : Int → (List Int) → (List Int) → (List Int) → Int → Bool → (List Int) → Int → Option (PdState × (List Int) × Int)) (x7 : Int) (x8 : Int) (lv5 : (List Int)) (lv6 : (List Int)) (lv7 : (List Int)) (x9 : Int) (x10 : Bool) (lv8 : (List Int)) : Option (PdState × (List Int) × Int) := B3 x8 lv5 lv6 lv7 x9 x10 lv8 (W (x7 + 1))
def r7_Play_J2 (F : Nat) (B3 : Int → (List Int) → (List Int) → (List Int) → Int → Bool → (List Int) → Int → Option (PdState × (List Int) × Int)) (lv4 : (List Int)) (x7 : Int) (rv4 : (PdState × Int)) (x8 : Int) (lv5 : (List Int)) (lv6 : (List Int)) (lv7 : (List Int)) (x9 : Int) (x10 : Bool) : Option (PdState × (List Int) × Int) := Option.bind (appO lv4 [rv4.2]) fun q => r7_Play_J1 F B3 x7 x8 lv5 lv6 lv7 x9 x10 q
def r7_Play_L1 (F : Nat) (t : PdPad) (a : (List PdAct)) (K : Int → (List Int) → (List Int) → (List Int) → Int → Bool → (List Int) → Int → Option (PdState × (List Int) × Int)) : Nat → Int → (List Int) → (List Int) → (List Int) → Int → Bool → (List Int) → Int → Option (PdState × (List Int) × Int)
 | 0, _, _, _, _, _, _, _, _ => none
 | n + 1, x4, lv, lv2, lv3, x5, x6, lv4, x7 => if x7 < (a.length : Int) then (Option.bind (ixO a x7) fun e2 => Option.bind (r7_done F t (PdState.mk x4 lv lv2 lv3 x5 x6) e2) fun rv4 => if rv4.2 = 0 then (r7_Play_J2 F (r7_Play_L1 F t a K n) lv4 x7 rv4 rv4.1.now rv4.1.zones rv4.1.holder rv4.1.squibs rv4.1.siren rv4.1.storm) else (r7_Play_J2 F (r7_Play_L1 F t a K n) lv4 x7 rv4 x4 lv lv2 lv3 x5 x6)) else (K x4 lv lv2 lv3 x5 x6 lv4 x7)
def r7_Play_J3 (F : Nat) (t : PdPad) (o : PdState) (a : (List PdAct)) (x2 : Int) : Option (PdState × (List Int) × Int) := if x2 = 0 then (Option.bind (r7_Copy F o) fun rv3 => r7_Play_L1 F t a (fun (x4 : Int) (lv : (List Int)) (lv2 : (List Int)) (lv3 : (List Int)) (x5 : Int) (x6 : Bool) (lv4 : (List Int)) (x7 : Int) => some ((PdState.mk x4 lv lv2 lv3 x5 x6), lv4, 0)) F rv3.now rv3.zones rv3.holder rv3.squibs rv3.siren rv3.storm ([] : List Int) 0) else (some ((PdState.mk 0 ([] : List Int) ([] : List Int) ([] : List Int) 0 false), ([] : List Int), x2))
def r7_Play_J4 (F : Nat) (B4 : Int → Int → Option (PdState × (List Int) × Int)) (t : PdPad) (a : (List PdAct)) (x3 : Int) : Option (PdState × (List Int) × Int) := Option.bind (ixO a x3) fun e => Option.bind (r7_act F t e) fun rv2 => B4 rv2 (W (x3 + 1))
def r7_Play_L2 (F : Nat) (t : PdPad) (a : (List PdAct)) (K : Int → Int → Option (PdState × (List Int) × Int)) : Nat → Int → Int → Option (PdState × (List Int) × Int)
 | 0, _, _ => none
 | n + 1, x2, x3 => if x3 < (a.length : Int) then (if x2 = 0 then (r7_Play_J4 F (r7_Play_L2 F t a K n) t a x3) else (K x2 x3)) else (K x2 x3)
def r7_Play_J5 (F : Nat) (t : PdPad) (o : PdState) (a : (List PdAct)) (x : Int) : Option (PdState × (List Int) × Int) := r7_Play_L2 F t a (fun (x2 : Int) (x3 : Int) => r7_Play_J3 F t o a x2) F x 0
def r7_Play (F : Nat) (t : PdPad) (o : PdState) (a : (List PdAct)) : Option (PdState × (List Int) × Int) := Option.bind (r7_CheckState F t o) fun rv => if rv = 0 then (if 60 < (a.length : Int) then (r7_Play_J5 F t o a 3) else (r7_Play_J5 F t o a rv)) else (r7_Play_J5 F t o a rv)
theorem r7_Play_scr {F : Nat} {t : PdPad} {o : PdState} {a : (List PdAct)} {r : (PdState × (List Int) × Int)} (h : r7_Play F t o a = some r) : SCR Tryz.prog 8 (List.map T.d [PdPad.d t, PdState.d o, .arr 5 ((a).map PdAct.d)]) [] (.tup [PdState_T1 r.1 0 1 2, .row 3 1 0 (r.2.1).length, .d (.v (.int .i64 r.2.2))]) (List.map some [(lvI r.1.zones), (lvI r.1.holder), (lvI r.1.squibs), (lvI r.2.1)]) := by
 rw [r7_Play] at h
 refine SC.of_sw Tryz.func8 R R R ?_
 dsimp only [argS, List.map]
 refine qG (q_box R (q_box R (r_alloc tb R R R R R (q_asgD R (q_asgD R (eN (qG (q_ldD (y := PdPad.d t) tb R (q_ldD (y := PdState.d o) tb R ?_)))))))))
 obtain ⟨rv, hrv, h⟩ := bnd h
 refine r_call (r7_CheckState_pc hrv) (.of (by kernel_rfl)) R R R R (q_asgD R (eN (sw_seq ?_)))
 refine sw_join (fun zz : Int => r7_Play_J5 F t o a zz = some r) (fun zz : Int => ⟨[(2, .d (.arr 5 ((a).map PdAct.d))), (3, .ref 0 7 0 0), (4, .ref 1 6 0 0), (6, .ref 2 6 0 0), (7, .d (.v (.slice none 0 0))), (8, .d (vI 0)), (9, .d (vI zz))], [some ⟨7, [.d (PdPad.d t)]⟩, some ⟨6, [.d (PdState.d o)]⟩, some ⟨6, [.d (.agg [vI 0, .v (.slice none 0 0), .v (.slice none 0 0), .v (.slice none 0 0), vI 0, .v (.bool false)])]⟩]⟩) ?_ ?_
 ·clear h
  rintro x h
  rw [r7_Play_J5] at h
  refine sw_seq ?_
  refine sw_join (fun zz : Int => r7_Play_J3 F t o a zz = some r) (fun zz : Int => ⟨[(2, .d (.arr 5 ((a).map PdAct.d))), (3, .ref 0 7 0 0), (4, .ref 1 6 0 0), (6, .ref 2 6 0 0), (7, .d (.v (.slice none 0 0))), (8, .d (vI 0)), (9, .d (vI zz))], [some ⟨7, [.d (PdPad.d t)]⟩, some ⟨6, [.d (PdState.d o)]⟩, some ⟨6, [.d (.agg [vI 0, .v (.slice none 0 0), .v (.slice none 0 0), .v (.slice none 0 0), vI 0, .v (.bool false)])]⟩]⟩) ?_ ?_
  ·clear h
   rintro x2 h
   rw [r7_Play_J3] at h
   refine sw_seq (qG (q_movD R ?_))
   refine r_neq R R R R ?_ ?_
   ·intro c5
    replace h := ifN c5 h
    refine eN (sw_condT R (qG (r_build (v := .d (.agg [vI 0, .v (.slice none 0 0), .v (.slice none 0 0), .v (.slice none 0 0), vI 0, .v (.bool false)])) tb R R (List.cons_ne_nil _ _) R R R R R R (q_movD R (q_stE _ _ tb R (q_asgD R (q_asgD R (eN ?_))))))))
    refine SW.own (ts' := [(6, .ref 2 6 0 0), (7, .d (.v (.slice none 0 0))), (8, .d (vI x2))]) (L' := [some ⟨7, [.d (PdPad.d t)]⟩, some ⟨6, [.d (PdState.d o)]⟩, some ⟨6, [.agg [.d (vI 0), .row 3 1 0 (([] : List Int)).length, .d (.v (.slice none 0 0)), .d (.v (.slice none 0 0)), .d (vI 0), .d (.v (.bool false))]]⟩]) 1 R R (.cons (.same _) (.cons (.same _) (.cons (.same _) .nil))) (.same (.same (.cons R (.cons (.aggDL (.cons (.same _) (.cons .nil (.cons (.same _) (.cons (.same _) (.cons (.same _) (.cons (.same _) .nil))))))) .nil) .nil))) ?_
    simp only [List.cons_append, List.nil_append]
    refine SW.own (ts' := [(6, .ref 2 6 0 0), (7, .d (.v (.slice none 0 0))), (8, .d (vI x2))]) (L' := [some ⟨7, [.d (PdPad.d t)]⟩, some ⟨6, [.d (PdState.d o)]⟩, some ⟨6, [.agg [.d (vI 0), .row 3 1 0 (([] : List Int)).length, .row 4 1 0 (([] : List Int)).length, .d (.v (.slice none 0 0)), .d (vI 0), .d (.v (.bool false))]]⟩, some (lvI ([] : List Int))]) 1 R R (.cons (.same _) (.cons (.same _) (.cons (.same _) .nil))) (.same (.same (.cons R (.cons (.aggL (.cons (.same _) (.cons (.same _) (.cons .nil (.cons (.same _) (.cons (.same _) (.cons (.same _) .nil))))))) .nil) (.same .nil)))) ?_
    simp only [List.cons_append, List.nil_append]
    refine SW.own (ts' := [(6, .ref 2 6 0 0), (7, .d (.v (.slice none 0 0))), (8, .d (vI x2))]) (L' := [some ⟨7, [.d (PdPad.d t)]⟩, some ⟨6, [.d (PdState.d o)]⟩, some ⟨6, [PdState_T1 (PdState.mk 0 ([] : List Int) ([] : List Int) ([] : List Int) 0 false) 3 4 5]⟩, some (lvI ([] : List Int)), some (lvI ([] : List Int))]) 1 R R (.cons (.same _) (.cons (.same _) (.cons (.same _) .nil))) (.same (.same (.cons R (.cons (.aggL (.cons (.same _) (.cons (.same _) (.cons (.same _) (.cons .nil (.cons (.same _) (.cons (.same _) .nil))))))) .nil) (.same (.same .nil))))) ?_
    simp only [List.cons_append, List.nil_append]
    refine SW.own (ts' := [(6, .ref 2 6 0 0), (7, .row 6 1 0 (([] : List Int)).length), (8, .d (vI x2))]) (L' := [some ⟨7, [.d (PdPad.d t)]⟩, some ⟨6, [.d (PdState.d o)]⟩, some ⟨6, [PdState_T1 (PdState.mk 0 ([] : List Int) ([] : List Int) ([] : List Int) 0 false) 3 4 5]⟩, some (lvI ([] : List Int)), some (lvI ([] : List Int)), some (lvI ([] : List Int))]) 1 R R (.cons (.same _) (.cons .nil (.cons (.same _) .nil))) (.same (.same (.same (.same (.same (.same .nil)))))) ?_
    simp only [List.cons_append, List.nil_append]
    refine sw_ret (then_ret ?_)
    obtain rfl := sI h
    exact f2 [3, 4, 5, 6] (.row R (.row R (.row R (.row R .nil)))) R (.cons (rc tb R) (.cons (.tmp 7) (.cons (.tmp 8) .nil))) R
   intro c5
   replace h := ifP c5 h
   refine eN (sw_condF R (sw_skip (then_norm (qG (q_ldD (y := PdState.d o) tb R ?_)))))
   obtain ⟨rv3, hrv3, h⟩ := bnd h
   refine r_callN (t' := PdState_T1 rv3 3 4 5) (news' := [(lvI rv3.zones), (lvI rv3.holder), (lvI rv3.squibs)]) (r7_Copy_scr hrv3) (.of (by kernel_rfl)) R R R ((.row (.row (.row .nil)))) R R R (r_alloc tb R R R R R (q_stE _ _ tb R (eN (qG (q_asgD R (eN (sw_seq (qG (q_asgD R (eN (sw_block ?_)))))))))))
   refine SW.own (ts' := [(2, .d (.arr 5 ((a).map PdAct.d))), (3, .ref 0 7 0 0), (6, .ref 2 6 0 0), (7, .d (.v (.slice none 0 0))), (8, .d (vI 0)), (11, .ref 6 6 0 0), (12, .row 7 1 0 (([] : List Int)).length), (13, .d (vI 0))]) (L' := [some ⟨7, [.d (PdPad.d t)]⟩, some ⟨6, [.d (PdState.d o)]⟩, some ⟨6, [.d (.agg [vI 0, .v (.slice none 0 0), .v (.slice none 0 0), .v (.slice none 0 0), vI 0, .v (.bool false)])]⟩, some (lvI rv3.zones), some (lvI rv3.holder), some (lvI rv3.squibs), some ⟨6, [PdState_T1 rv3 3 4 5]⟩]) 1 R R (.cons (.same _) (.cons (.same _) (.cons (.same _) (.cons (.same _) (.cons (.same _) (.cons (.same _) (.cons .nil (.cons (.same _) .nil)))))))) (.same (.same (.same (.same (.same (.same (.same .nil))))))) ?_
   simp only [List.cons_append, List.nil_append]
   obtain ⟨K3, hK3, h⟩ : ∃ K, K = _ ∧ r7_Play_L1 F t a K F rv3.now rv3.zones rv3.holder rv3.squibs rv3.siren rv3.storm ([] : List Int) 0 = some r := ⟨_, rfl, h⟩
   refine sw_loopS (st0 := ⟨[(2, .d (.arr 5 ((a).map PdAct.d))), (3, .ref 0 7 0 0), (6, .ref 1 6 0 0), (7, .d (.v (.slice none 0 0))), (8, .d (vI 0)), (11, .ref 2 6 0 0), (12, .row 6 1 0 (([] : List Int)).length), (13, .d (vI 0))], [some ⟨7, [.d (PdPad.d t)]⟩, some ⟨6, [.d (.agg [vI 0, .v (.slice none 0 0), .v (.slice none 0 0), .v (.slice none 0 0), vI 0, .v (.bool false)])]⟩, some ⟨6, [PdState_T1 rv3 3 4 5]⟩, some (lvI rv3.zones), some (lvI rv3.holder), some (lvI rv3.squibs), some (lvI ([] : List Int))]⟩) (fun m st => ∃ (x4 : Int) (lv : (List Int)) (lv2 : (List Int)) (lv3 : (List Int)) (x5 : Int) (x6 : Bool) (lv4 : (List Int)) (x7 : Int), r7_Play_L1 F t a K3 m x4 lv lv2 lv3 x5 x6 lv4 x7 = some r ∧ st = ⟨[(2, .d (.arr 5 ((a).map PdAct.d))), (3, .ref 0 7 0 0), (6, .ref 1 6 0 0), (7, .d (.v (.slice none 0 0))), (8, .d (vI 0)), (11, .ref 2 6 0 0), (12, .row 6 1 0 (lv4).length), (13, .d (vI x7))], [some ⟨7, [.d (PdPad.d t)]⟩, some ⟨6, [.d (.agg [vI 0, .v (.slice none 0 0), .v (.slice none 0 0), .v (.slice none 0 0), vI 0, .v (.bool false)])]⟩, some ⟨6, [PdState_T1 (PdState.mk x4 lv lv2 lv3 x5 x6) 3 4 5]⟩, some (lvI lv), some (lvI lv2), some (lvI lv3), some (lvI lv4)]⟩) (.vw (κ := [0, 2, 6, 3, 4, 5, 7]) (vK (.cons R R (.cons R R (.cons R R (.row R (.row R (.row R (.row R .nil))))))) R)) ⟨rv3.now, rv3.zones, rv3.holder, rv3.squibs, rv3.siren, rv3.storm, ([] : List Int), 0, h, R⟩ ?_
   clear h
   rintro m3 st ⟨x4, lv, lv2, lv3, x5, x6, lv4, x7, h, rfl⟩
   cases m3 with
   | zero => cases (show (none : Option (PdState × (List Int) × Int)) = some r from h)
   | succ m3 =>
   rw [r7_Play_L1] at h
   refine sw_seq (qG (q_movD R (q_movD R (q_lenM tb R ?_))))
   refine r_lss R R R R ?_ ?_
   ·intro c6
    replace h := ifP c6 h
    refine eN (sw_condT R (sw_skip (then_norm (sw_seq ?_))))
    refine sw_join (fun zz : Int × (List Int) × (List Int) × (List Int) × Int × Bool × (List Int) => r7_Play_J1 F (r7_Play_L1 F t a K3 m3) x7 zz.1 zz.2.1 zz.2.2.1 zz.2.2.2.1 zz.2.2.2.2.1 zz.2.2.2.2.2.1 zz.2.2.2.2.2.2 = some r) (fun zz : Int × (List Int) × (List Int) × (List Int) × Int × Bool × (List Int) => ⟨[(2, .d (.arr 5 ((a).map PdAct.d))), (3, .ref 0 7 0 0), (6, .ref 1 6 0 0), (7, .d (.v (.slice none 0 0))), (8, .d (vI 0)), (11, .ref 2 6 0 0), (12, .row 6 1 0 (zz.2.2.2.2.2.2).length), (13, .d (vI x7))], [some ⟨7, [.d (PdPad.d t)]⟩, some ⟨6, [.d (.agg [vI 0, .v (.slice none 0 0), .v (.slice none 0 0), .v (.slice none 0 0), vI 0, .v (.bool false)])]⟩, some ⟨6, [PdState_T1 (PdState.mk zz.1 zz.2.1 zz.2.2.1 zz.2.2.2.1 zz.2.2.2.2.1 zz.2.2.2.2.2.1) 3 4 5]⟩, some (lvI zz.2.1), some (lvI zz.2.2.1), some (lvI zz.2.2.2.1), some (lvI zz.2.2.2.2.2.2)]⟩) ?_ ?_
    ·clear h
     rintro ⟨x8, lv5, lv6, lv7, x9, x10, lv8⟩ h
     dsimp only at h ⊢
     rw [r7_Play_J1] at h
     refine sw_rg (q_movD R (q_add R (q_asgD R (eN ?_))))
     exact ⟨m3, _, Nat.lt_succ_self _, .prn [2, 3, 6, 7, 8, 11, 12, 13] R, x8, lv5, lv6, lv7, x9, x10, lv8, (W (x7 + 1)), h, R⟩
    refine sw_block (sw_seq (sw_dr (by kernel_rfl) (q_ldD (y := PdPad.d t) tb R (r_ldG tb R R R R R R R R R (q_movD R (q_movD R ?_))))))
    obtain ⟨e2, ie2, h⟩ := bnd h
    refine q_ixE tb (ix0 ie2) (ix1m ie2) R (q_ldE (y := PdAct.d e2) tb (ix2 (g := PdAct.d) ie2) R ?_)
    obtain ⟨rv4, hrv4, h⟩ := bnd h
    refine r_callLN (t' := .tup [PdState_T1 rv4.1 7 8 9, .d (vI rv4.2)]) (news' := [(lvI rv4.1.zones), (lvI rv4.1.holder), (lvI rv4.1.squibs)]) (r7_done_scr hrv4) R ((.row (fun _ => rfl) (.row (fun _ => rfl) (.row (fun _ => rfl) .nil)))) (.of (by kernel_rfl)) R R ((.cons (.d _) (.cons (.aggL (.cons (.d _) (.cons (.row R R) (.cons (.row R R) (.cons (.row R R) (.cons (.d _) (.cons (.d _) .nil))))))) (.cons (.d _) .nil)))) R ((.row (.row (.row .nil)))) R R R ?_
    refine r_movT (.tup [PdState_T1 rv4.1 7 8 9, .d (vI rv4.2)]) R R R (r_ext (t := PdState_T1 rv4.1 7 8 9) R R R R (r_ext (t := .d (vI rv4.2)) R R R R (r_alloc tb R R R R R (q_stE _ _ tb R (q_asgD R (ev_endD (by kernel_rfl) (then_norm (sw_seq ?_))))))))
    refine sw_join (fun zz : Int × (List Int) × (List Int) × (List Int) × Int × Bool => r7_Play_J2 F (r7_Play_L1 F t a K3 m3) lv4 x7 rv4 zz.1 zz.2.1 zz.2.2.1 zz.2.2.2.1 zz.2.2.2.2.1 zz.2.2.2.2.2 = some r) (fun zz : Int × (List Int) × (List Int) × (List Int) × Int × Bool => ⟨[(2, .d (.arr 5 ((a).map PdAct.d))), (3, .ref 0 7 0 0), (6, .ref 1 6 0 0), (7, .d (.v (.slice none 0 0))), (8, .d (vI 0)), (11, .ref 2 6 0 0), (12, .row 6 1 0 (lv4).length), (13, .d (vI x7)), (15, .d (vI rv4.2))], [some ⟨7, [.d (PdPad.d t)]⟩, some ⟨6, [.d (.agg [vI 0, .v (.slice none 0 0), .v (.slice none 0 0), .v (.slice none 0 0), vI 0, .v (.bool false)])]⟩, some ⟨6, [PdState_T1 (PdState.mk zz.1 zz.2.1 zz.2.2.1 zz.2.2.2.1 zz.2.2.2.2.1 zz.2.2.2.2.2) 3 4 5]⟩, some (lvI zz.2.1), some (lvI zz.2.2.1), some (lvI zz.2.2.2.1), some (lvI lv4)]⟩) ?_ ?_
    ·clear h
     rintro ⟨x8, lv5, lv6, lv7, x9, x10⟩ h
     dsimp only at h ⊢
     rw [r7_Play_J2] at h
     refine sw_rg (r_movW R R R (q_movD R (r_bslice tb R R R R R R R R R R R R R ?_)))
     obtain ⟨q, iq, h⟩ := bnd h
     refine r_apM (g := vI) (w := lv4) (v := [rv4.2]) ([some ⟨7, [.d (PdPad.d t)]⟩, some ⟨6, [.d (.agg [vI 0, .v (.slice none 0 0), .v (.slice none 0 0), .v (.slice none 0 0), vI 0, .v (.bool false)])]⟩, some ⟨6, [PdState_T1 (PdState.mk x8 lv5 lv6 lv7 x9 x10) 3 4 5]⟩, some (lvI lv5), some (lvI lv6), some (lvI lv7), none, some (lvI [rv4.2])]) tb R R R R R R R R R R R iq R R R R R (r_asgW R R R (ev_end (block_norm (then_norm ?_))))
     exact .inl ⟨(x8, lv5, lv6, lv7, x9, x10, q), h, .vw (κ := [0, 1, 2, 3, 4, 5, 8]) (vK (.cons R R (.cons R R (.cons R R (.row R (.row R (.row R (.row R .nil))))))) R)⟩
    refine qG (q_movD R ?_)
    refine r_eql R R R R ?_ ?_
    ·intro c7
     replace h := ifP c7 h
     refine eN (sw_condT R (sw_rg (r_ldG tb R R R R R R R R R (q_stE _ _ tb R (eN ?_)))))
     exact .inl ⟨(rv4.1.now, rv4.1.zones, rv4.1.holder, rv4.1.squibs, rv4.1.siren, rv4.1.storm), h, .vw (κ := [0, 1, 2, 7, 8, 9, 6]) (vK (.cons R R (.cons R R (.cons R R (.row R (.row R (.row R (.row R .nil))))))) R)⟩
    intro c7
    replace h := ifN c7 h
    refine eN (sw_condF R (sw_skip (then_norm ?_)))
    exact .inl ⟨(x4, lv, lv2, lv3, x5, x6), h, .vw (κ := [0, 1, 2, 3, 4, 5, 6]) (vK (.cons R R (.cons R R (.cons R R (.row R (.row R (.row R (.row R .nil))))))) R)⟩
   intro c6
   replace h := ifN (Int.not_lt.2 c6) h
   refine eN (sw_condF R (sw_exit (then_exit (then_exit ?_))))
   subst hK3
   refine block_exit (then_norm (qG (r_ldG tb R R R R R R R R R (r_movW R R R (q_stE _ _ tb R (r_asgW R R R (q_asgD R (eN (sw_ret ?_)))))))))
   obtain rfl := sI h
   exact f2 [3, 4, 5, 6] (.row R (.row R (.row R (.row R .nil)))) R (.cons (rc tb R) (.cons (.tmp 7) (.cons (.tmp 8) .nil))) R
  refine qG (q_asgD R (eN (sw_block ?_)))
  obtain ⟨K4, hK4, h⟩ : ∃ K, K = _ ∧ r7_Play_L2 F t a K F x 0 = some r := ⟨_, rfl, h⟩
  refine sw_loopS (fun m st => ∃ (x2 : Int) (x3 : Int), r7_Play_L2 F t a K4 m x2 x3 = some r ∧ st = ⟨[(2, .d (.arr 5 ((a).map PdAct.d))), (3, .ref 0 7 0 0), (4, .ref 1 6 0 0), (6, .ref 2 6 0 0), (7, .d (.v (.slice none 0 0))), (8, .d (vI 0)), (9, .d (vI x2)), (10, .d (vI x3))], [some ⟨7, [.d (PdPad.d t)]⟩, some ⟨6, [.d (PdState.d o)]⟩, some ⟨6, [.d (.agg [vI 0, .v (.slice none 0 0), .v (.slice none 0 0), .v (.slice none 0 0), vI 0, .v (.bool false)])]⟩]⟩) (.prn [2, 3, 4, 6, 7, 8, 9, 10] R) ⟨x, 0, h, R⟩ ?_
  clear h
  rintro m4 st ⟨x2, x3, h, rfl⟩
  cases m4 with
  | zero => cases (show (none : Option (PdState × (List Int) × Int)) = some r from h)
  | succ m4 =>
  rw [r7_Play_L2] at h
  refine sw_seq ?_
  refine sw_join (fun zz : Unit => r7_Play_J4 F (r7_Play_L2 F t a K4 m4) t a x3 = some r) (fun zz : Unit => ⟨[(2, .d (.arr 5 ((a).map PdAct.d))), (3, .ref 0 7 0 0), (4, .ref 1 6 0 0), (6, .ref 2 6 0 0), (7, .d (.v (.slice none 0 0))), (8, .d (vI 0)), (9, .d (vI x2)), (10, .d (vI x3))], [some ⟨7, [.d (PdPad.d t)]⟩, some ⟨6, [.d (PdState.d o)]⟩, some ⟨6, [.d (.agg [vI 0, .v (.slice none 0 0), .v (.slice none 0 0), .v (.slice none 0 0), vI 0, .v (.bool false)])]⟩]⟩) ?_ ?_
  ·clear h
   rintro ⟨⟩ h
   rw [r7_Play_J4] at h
   refine sw_seq (sw_block (sw_dr (by kernel_rfl) (q_ldD (y := PdPad.d t) tb R (q_movD R (q_movD R ?_)))))
   obtain ⟨e, ie, h⟩ := bnd h
   refine q_ixE tb (ix0 ie) (ix1m ie) R (q_ldE (y := PdAct.d e) tb (ix2 (g := PdAct.d) ie) R ?_)
   obtain ⟨rv2, hrv2, h⟩ := bnd h
   refine r_call (r7_act_pc hrv2) (.of (by kernel_rfl)) R R R R (q_asgD R (ev_endD (by kernel_rfl) (block_norm (then_norm (sw_rg (q_movD R (q_add R (q_asgD R (eN ?_)))))))))
   exact ⟨m4, _, Nat.lt_succ_self _, .prn [2, 3, 4, 6, 7, 8, 9, 10] R, rv2, (W (x3 + 1)), h, R⟩
  refine qG (q_movD R (q_movD R (q_lenM tb R ?_)))
  refine r_lss R R R R ?_ ?_
  ·intro c3
   replace h := ifP c3 h
   refine q_movD R (q_movD R ?_)
   refine r_eql R R R R ?_ ?_
   ·intro c4
    replace h := ifP c4 h
    refine q_pickT R (eN (sw_condT R (sw_skip (then_norm ?_))))
    exact .inl ⟨(), h, .prn [2, 3, 4, 6, 7, 8, 9, 10] R⟩
   intro c4
   replace h := ifN c4 h
   refine q_pickT R (eN (sw_condF R (sw_exit (then_exit (then_exit ?_)))))
   subst hK4
   refine block_exit (then_norm ?_)
   exact .inl ⟨x2, h, .prn [2, 3, 4, 6, 7, 8, 9] R⟩
  intro c3
  replace h := ifN (Int.not_lt.2 c3) h
  refine q_movD R (q_sk 2 R (q_pickF R (eN (sw_condF R (sw_exit (then_exit (then_exit ?_)))))))
  subst hK4
  refine block_exit (then_norm ?_)
  exact .inl ⟨x2, h, .prn [2, 3, 4, 6, 7, 8, 9] R⟩
 refine qG (q_movD R ?_)
 refine r_eql R R R R ?_ ?_
 ·intro c
  replace h := ifP c h
  refine q_movD R (q_movD R (q_lenM tb R ?_))
  refine r_gtr R R R R ?_ ?_
  ·intro c2
   replace h := ifP c2 h
   refine q_pickT R (eN (sw_condT R (sw_rg (q_asgD R (eN ?_)))))
   exact .inl ⟨3, h, .prn [2, 3, 4, 6, 7, 8, 9] R⟩
  intro c2
  replace h := ifN (Int.not_lt.2 c2) h
  refine q_pickT R (eN (sw_condF R (sw_skip (then_norm ?_))))
  exact .inl ⟨rv, h, .prn [2, 3, 4, 6, 7, 8, 9] R⟩
 intro c
 replace h := ifN c h
 refine q_movD R (q_sk 3 R (q_pickF R (eN (sw_condF R (sw_skip (then_norm ?_))))))
 exact .inl ⟨rv, h, .prn [2, 3, 4, 6, 7, 8, 9] R⟩
theorem r7_Play_pc {F : Nat} {t : PdPad} {o : PdState} {a : (List PdAct)} {r : (PdState × (List Int) × Int)} (h : r7_Play F t o a = some r) : PC Tryz.prog 8 [PdPad.d t, PdState.d o, .arr 5 ((a).map PdAct.d)] (.tup [PdState.d r.1, .arr 1 ((r.2.1).map vI), .v (.int .i64 r.2.2)]) := (r7_Play_scr h).toPC (.tupL (.cons (.aggL (.cons (.d _) (.cons (.row rfl rfl) (.cons (.row rfl rfl) (.cons (.row rfl rfl) (.cons (.d _) (.cons (.d _) .nil))))))) (.cons (.row rfl rfl) (.cons (.d _) .nil))))
def r1_Ints_L1 (F : Nat) (a : (List Int)) (b : (List Int)) (K : Int → Option Bool) : Nat → Int → Option Bool
 | 0, _ => none
 | n + 1, i => if i < (a.length : Int) then (Option.bind (ixO a i) fun e => Option.bind (ixO b i) fun e2 => if e = e2 then (r1_Ints_L1 F a b K n (W (i + 1))) else (some false)) else (K i)
def r1_Ints (F : Nat) (a : (List Int)) (b : (List Int)) : Option Bool := if (a.length : Int) = (b.length : Int) then (r1_Ints_L1 F a b (fun (i : Int) => some true) F 0) else (some false)
theorem r1_Ints_pc {F : Nat} {a : (List Int)} {b : (List Int)} {r : Bool} (h : r1_Ints F a b = some r) : PC Tryz.prog 16 [.arr 1 ((a).map vI), .arr 1 ((b).map vI)] (.v (.bool r)) := by
 rw [r1_Ints] at h
 refine SC.of_sw Tryz.func16 R R R ?_
 dsimp only [argS, List.map]
 refine qG (q_asgD R (eN (sw_seq (qG (q_movD R (q_lenM tb R (q_movD R (q_lenM tb R ?_))))))))
 refine r_neq R R R R ?_ ?_
 ·intro c
  replace h := ifN c h
  refine eN (sw_condT R (qG (q_asgD R (eN (sw_ret (then_ret ?_))))))
  obtain rfl := sI h
  exact f1 4 R
 intro c
 replace h := ifP c h
 refine eN (sw_condF R (sw_skip (then_norm (sw_seq (qG (q_asgD R (eN (sw_block ?_))))))))
 obtain ⟨K2, hK2, h⟩ : ∃ K, K = _ ∧ r1_Ints_L1 F a b K F 0 = some r := ⟨_, rfl, h⟩
 refine sw_loopS (fun m st => ∃ (i : Int), r1_Ints_L1 F a b K2 m i = some r ∧ st = ⟨[(0, .d (.arr 1 ((a).map vI))), (1, .d (.arr 1 ((b).map vI))), (4, .d (.v (.bool false))), (5, .d (vI i))], []⟩) (.prn [0, 1, 4, 5] R) ⟨0, h, R⟩ ?_
 clear h
 rintro m2 st ⟨i, h, rfl⟩
 cases m2 with
 | zero => cases (show (none : Option Bool) = some r from h)
 | succ m2 =>
 rw [r1_Ints_L1] at h
 refine sw_seq (qG (q_movD R (q_movD R (q_lenM tb R ?_))))
 refine r_lss R R R R ?_ ?_
 ·intro c2
  replace h := ifP c2 h
  refine eN (sw_condT R (sw_skip (then_norm (sw_seq (sw_block (sw_seq (sw_dr (by kernel_rfl) (q_movD R (q_movD R ?_)))))))))
  obtain ⟨e, ie, h⟩ := bnd h
  refine q_ixE tb (ix0 ie) (ix1m ie) R (q_ldE (y := vI e) tb (ix2 (g := vI) ie) R (q_movD R (q_movD R ?_)))
  obtain ⟨e2, ie2, h⟩ := bnd h
  refine q_ixE tb (ix0 ie2) (ix1m ie2) R (q_ldE (y := vI e2) tb (ix2 (g := vI) ie2) R ?_)
  refine r_neq R R R R ?_ ?_
  ·intro c3
   replace h := ifN c3 h
   refine ev_endD (by kernel_rfl) (then_norm (sw_condT R (qG (q_asgD R (eN (sw_ret (block_ret (then_ret (then_ret (block_ret (then_ret ?_)))))))))))
   obtain rfl := sI h
   exact f1 4 R
  intro c3
  replace h := ifP c3 h
  refine ev_endD (by kernel_rfl) (then_norm (sw_condF R (sw_skip (block_norm (then_norm (sw_rg (q_movD R (q_add R (q_asgD R (eN ?_))))))))))
  exact ⟨m2, _, Nat.lt_succ_self _, .prn [0, 1, 4, 5] R, (W (i + 1)), h, R⟩
 intro c2
 replace h := ifN (Int.not_lt.2 c2) h
 refine eN (sw_condF R (sw_exit (then_exit (then_exit ?_))))
 subst hK2
 refine block_exit (then_norm (qG (q_asgD R (eN (sw_ret ?_)))))
 obtain rfl := sI h
 exact f1 4 R
def r7_Same (F : Nat) (a : PdState) (b : PdState) : Option Bool := if a.now = b.now then (if a.siren = b.siren then (if (a.storm == b.storm) = true then (Option.bind (r1_Ints F a.zones b.zones) fun rv => if rv = true then (Option.bind (r1_Ints F a.holder b.holder) fun rv2 => if rv2 = true then (Option.bind (r1_Ints F a.squibs b.squibs) fun rv3 => some rv3) else (some false)) else (some false)) else (some false)) else (some false)) else (some false)
theorem r7_Same_pc {F : Nat} {a : PdState} {b : PdState} {r : Bool} (h : r7_Same F a b = some r) : PC Tryz.prog 9 [PdState.d a, PdState.d b] (.v (.bool r)) := by
 rw [r7_Same] at h
 refine SC.of_sw Tryz.func9 R R R ?_
 dsimp only [argS, List.map]
 refine qG (q_box R (q_box R (q_asgD R (eN (qG (q_fa tb R (q_ldD (y := vI a.now) tb R (q_fa tb R (q_ldD (y := vI b.now) tb R ?_)))))))))
 refine r_eql R R R R ?_ ?_
 ·intro c
  replace h := ifP c h
  refine q_movD R (q_fa tb R (q_ldD (y := vI a.siren) tb R (q_fa tb R (q_ldD (y := vI b.siren) tb R ?_))))
  refine r_eql R R R R ?_ ?_
  ·intro c2
   replace h := ifP c2 h
   refine q_pickT R (q_movD R (q_fa tb R (q_ldD (y := .v (.bool a.storm)) tb R (q_fa tb R (q_ldD (y := .v (.bool b.storm)) tb R (r_booleql R R R R R ?_))))))
   with_reducible apply ev_lit
   ·intro c3
    replace h := ifP c3 h
    refine q_pickT R (q_movD R (q_fa tb R (q_ldD (y := .arr 1 ((a.zones).map vI)) tb R (q_fa tb R (q_ldD (y := .arr 1 ((b.zones).map vI)) tb R ?_)))))
    obtain ⟨rv, hrv, h⟩ := bnd h
    refine r_callB (r1_Ints_pc hrv) (.of (by kernel_rfl)) R R R R ?_ ?_
    ·intro c4
     replace h := ifP c4 h
     refine q_pickT R (q_movD R (q_fa tb R (q_ldD (y := .arr 1 ((a.holder).map vI)) tb R (q_fa tb R (q_ldD (y := .arr 1 ((b.holder).map vI)) tb R ?_)))))
     obtain ⟨rv2, hrv2, h⟩ := bnd h
     refine r_callB (r1_Ints_pc hrv2) (.of (by kernel_rfl)) R R R R ?_ ?_
     ·intro c5
      replace h := ifP c5 h
      refine q_pickT R (q_movD R (q_fa tb R (q_ldD (y := .arr 1 ((a.squibs).map vI)) tb R (q_fa tb R (q_ldD (y := .arr 1 ((b.squibs).map vI)) tb R ?_)))))
      obtain ⟨rv3, hrv3, h⟩ := bnd h
      refine r_call (r1_Ints_pc hrv3) (.of (by kernel_rfl)) R R R R (q_pickT R (q_asgD R (eN (sw_ret ?_))))
      obtain rfl := sI h
      exact f1 4 R
     intro c5
     replace h := ifF c5 h
     refine q_pickT R (q_movD R (q_sk 5 R (q_pickF R (q_asgD R (eN (sw_ret ?_))))))
     obtain rfl := sI h
     exact f1 4 R
    intro c4
    replace h := ifF c4 h
    refine q_pickT R (q_movD R (q_sk 5 R (q_pickF R (q_movD R (q_sk 5 R (q_pickF R (q_asgD R (eN (sw_ret ?_)))))))))
    obtain rfl := sI h
    exact f1 4 R
   intro c3
   replace h := ifF c3 h
   refine q_pickT R (q_movD R (q_sk 5 R (q_pickF R (q_movD R (q_sk 5 R (q_pickF R (q_movD R (q_sk 5 R (q_pickF R (q_asgD R (eN (sw_ret ?_))))))))))))
   obtain rfl := sI h
   exact f1 4 R
  intro c2
  replace h := ifN c2 h
  refine q_pickT R (q_movD R (q_sk 5 R (q_pickF R (q_movD R (q_sk 5 R (q_pickF R (q_movD R (q_sk 5 R (q_pickF R (q_movD R (q_sk 5 R (q_pickF R (q_asgD R (eN (sw_ret ?_)))))))))))))))
  obtain rfl := sI h
  exact f1 4 R
 intro c
 replace h := ifN c h
 refine q_movD R (q_sk 5 R (q_pickF R (q_movD R (q_sk 5 R (q_pickF R (q_movD R (q_sk 5 R (q_pickF R (q_movD R (q_sk 5 R (q_pickF R (q_movD R (q_sk 5 R (q_pickF R (q_asgD R (eN (sw_ret ?_)))))))))))))))))
 obtain rfl := sI h
 exact f1 4 R
def r7_Errors_L1 (F : Nat) (a : (List Int)) (b : (List Int)) (K : Int → Option Bool) : Nat → Int → Option Bool
 | 0, _ => none
 | n + 1, i => if i < (a.length : Int) then (Option.bind (ixO a i) fun e => Option.bind (ixO b i) fun e2 => if e = e2 then (r7_Errors_L1 F a b K n (W (i + 1))) else (some false)) else (K i)
def r7_Errors (F : Nat) (a : (List Int)) (b : (List Int)) : Option Bool := if (a.length : Int) = (b.length : Int) then (r7_Errors_L1 F a b (fun (i : Int) => some true) F 0) else (some false)
theorem r7_Errors_pc {F : Nat} {a : (List Int)} {b : (List Int)} {r : Bool} (h : r7_Errors F a b = some r) : PC Tryz.prog 10 [.arr 1 ((a).map vI), .arr 1 ((b).map vI)] (.v (.bool r)) := by
 rw [r7_Errors] at h
 refine SC.of_sw Tryz.func10 R R R ?_
 dsimp only [argS, List.map]
 refine qG (q_asgD R (eN (sw_seq (qG (q_movD R (q_lenM tb R (q_movD R (q_lenM tb R ?_))))))))
 refine r_neq R R R R ?_ ?_
 ·intro c
  replace h := ifN c h
  refine eN (sw_condT R (qG (q_asgD R (eN (sw_ret (then_ret ?_))))))
  obtain rfl := sI h
  exact f1 4 R
 intro c
 replace h := ifP c h
 refine eN (sw_condF R (sw_skip (then_norm (sw_seq (qG (q_asgD R (eN (sw_block ?_))))))))
 obtain ⟨K3, hK3, h⟩ : ∃ K, K = _ ∧ r7_Errors_L1 F a b K F 0 = some r := ⟨_, rfl, h⟩
 refine sw_loopS (fun m st => ∃ (i : Int), r7_Errors_L1 F a b K3 m i = some r ∧ st = ⟨[(0, .d (.arr 1 ((a).map vI))), (1, .d (.arr 1 ((b).map vI))), (4, .d (.v (.bool false))), (5, .d (vI i))], []⟩) (.prn [0, 1, 4, 5] R) ⟨0, h, R⟩ ?_
 clear h
 rintro m3 st ⟨i, h, rfl⟩
 cases m3 with
 | zero => cases (show (none : Option Bool) = some r from h)
 | succ m3 =>
 rw [r7_Errors_L1] at h
 refine sw_seq (qG (q_movD R (q_movD R (q_lenM tb R ?_))))
 refine r_lss R R R R ?_ ?_
 ·intro c2
  replace h := ifP c2 h
  refine eN (sw_condT R (sw_skip (then_norm (sw_seq (sw_block (sw_seq (sw_dr (by kernel_rfl) (q_movD R (q_movD R ?_)))))))))
  obtain ⟨e, ie, h⟩ := bnd h
  refine q_ixE tb (ix0 ie) (ix1m ie) R (q_ldE (y := vI e) tb (ix2 (g := vI) ie) R (q_movD R (q_movD R ?_)))
  obtain ⟨e2, ie2, h⟩ := bnd h
  refine q_ixE tb (ix0 ie2) (ix1m ie2) R (q_ldE (y := vI e2) tb (ix2 (g := vI) ie2) R ?_)
  refine r_neq R R R R ?_ ?_
  ·intro c3
   replace h := ifN c3 h
   refine ev_endD (by kernel_rfl) (then_norm (sw_condT R (qG (q_asgD R (eN (sw_ret (block_ret (then_ret (then_ret (block_ret (then_ret ?_)))))))))))
   obtain rfl := sI h
   exact f1 4 R
  intro c3
  replace h := ifP c3 h
  refine ev_endD (by kernel_rfl) (then_norm (sw_condF R (sw_skip (block_norm (then_norm (sw_rg (q_movD R (q_add R (q_asgD R (eN ?_))))))))))
  exact ⟨m3, _, Nat.lt_succ_self _, .prn [0, 1, 4, 5] R, (W (i + 1)), h, R⟩
 intro c2
 replace h := ifN (Int.not_lt.2 c2) h
 refine eN (sw_condF R (sw_exit (then_exit (then_exit ?_))))
 subst hK3
 refine block_exit (then_norm (qG (q_asgD R (eN (sw_ret ?_)))))
 obtain rfl := sI h
 exact f1 4 R
def wind_out (F : Nat) (nv : Int) (lo : Int) (hi : Int) : Option Bool := if nv < lo then (some true) else (some (decide (hi < nv)))
theorem wind_out_pc {F : Nat} {nv : Int} {lo : Int} {hi : Int} {r : Bool} (h : wind_out F nv lo hi = some r) : PC Tryz.prog 120 [.v (.int .i64 nv), .v (.int .i64 lo), .v (.int .i64 hi)] (.v (.bool r)) := by
 rw [wind_out] at h
 refine SC.of_sw Tryz.func120 R R R ?_
 dsimp only [argS, List.map]
 refine qG (q_asgD R (eN (qG (q_movD R (q_movD R ?_)))))
 refine r_lss R R R R ?_ ?_
 ·intro c
  replace h := ifP c h
  refine q_movD R (q_sk 3 R (q_pickT R (q_asgD R (eN (sw_ret ?_)))))
  obtain rfl := sI h
  exact f1 6 R
 intro c
 replace h := ifN (Int.not_lt.2 c) h
 refine q_movD R (q_movD R (q_movD R (r_gtrV R R R R (q_pickF R (q_asgD R (eN (sw_ret ?_)))))))
 obtain rfl := sI h
 exact f1 6 R
def wind_Name_L1 (F : Nat) (s : ByteArray) (K : Int → Option Bool) : Nat → Int → Option Bool
 | 0, _ => none
 | n + 1, x => if x < ((bytesL s).length : Int) then (Option.bind (ixO (bytesL s) x) fun e => if 97 ≤ e then (if e ≤ 122 then (wind_Name_L1 F s K n (W (x + 1))) else (if x = 0 then (some false) else (if e = 45 then (wind_Name_L1 F s K n (W (x + 1))) else (if 48 ≤ e then (if e ≤ 57 then (wind_Name_L1 F s K n (W (x + 1))) else (some false)) else (some false))))) else (if x = 0 then (some false) else (if e = 45 then (wind_Name_L1 F s K n (W (x + 1))) else (if 48 ≤ e then (if e ≤ 57 then (wind_Name_L1 F s K n (W (x + 1))) else (some false)) else (some false))))) else (K x)
def wind_Name (F : Nat) (s : ByteArray) : Option Bool := wind_Name_L1 F s (fun (x : Int) => Option.bind (wind_out F (s.size : Int) 1 24) fun rv => some (!rv)) F 0
theorem wind_Name_pc {F : Nat} {s : ByteArray} {r : Bool} (h : wind_Name F s = some r) : PC Tryz.prog 98 [.v (.string s)] (.v (.bool r)) := by
 rw [wind_Name] at h
 refine SC.of_sw Tryz.func98 R R R ?_
 dsimp only [argS, List.map]
 refine qG (q_asgD R (eN (sw_seq (qG (q_movD R (r_bytes R R R R R R (q_lenM tb R (q_movD R (eN (sw_block ?_))))))))))
 obtain ⟨K2, hK2, h⟩ : ∃ K, K = _ ∧ wind_Name_L1 F s K F 0 = some r := ⟨_, rfl, h⟩
 refine sw_loopS (fun m st => ∃ (x : Int), wind_Name_L1 F s K2 m x = some r ∧ st = ⟨[(0, .d (.v (.string s))), (2, .d (.v (.bool false))), (6, .d (.arr 1 (((bytesL s)).map v8))), (7, .d (vI ((bytesL s).length : Int))), (8, .d (vI x))], []⟩) (.prn [0, 2, 6, 7, 8] R) ⟨0, h, R⟩ ?_
 clear h
 rintro m2 st ⟨x, h, rfl⟩
 cases m2 with
 | zero => cases (show (none : Option Bool) = some r from h)
 | succ m2 =>
 rw [wind_Name_L1] at h
 refine qG ?_
 refine r_lss R R R R ?_ ?_
 ·intro c
  replace h := ifP c h
  refine eN (sw_seq (sw_condT R (sw_skip (then_norm (sw_seq (sw_block (qG (q_movD R ?_))))))))
  obtain ⟨e, ie, h⟩ := bnd h
  refine q_ixE tb (ix0 ie) (ix1m ie) R (q_ldE (y := .v (.int .u8 e)) tb (ix2 (g := v8) ie) R (q_asgD R (q_asgD R (eN (qG (q_movD R ?_))))))
  refine r_geq R R R R ?_ ?_
  ·intro c2
   replace h := ifP c2 h
   refine q_movD R (q_movD R ?_)
   refine r_leq R R R R ?_ ?_
   ·intro c3
    replace h := ifP c3 h
    refine q_pickT R (r_notT R R R (q_movD R (q_sk 15 R (q_pickF R (eN (sw_condF R (sw_skip (block_norm (then_norm (sw_rg (q_add R (q_movD R (eN ?_)))))))))))))
    exact ⟨m2, _, Nat.lt_succ_self _, .prn [0, 2, 6, 7, 8] R, (W (x + 1)), h, R⟩
   intro c3
   replace h := ifN (Int.not_le.2 c3) h
   refine q_pickT R (r_notF R R R (q_movD R (q_movD R ?_)))
   refine r_eql R R R R ?_ ?_
   ·intro c4
    replace h := ifP c4 h
    refine q_movD R (q_sk 11 R (q_pickT R (q_pickT R (eN (sw_condT R (qG (q_asgD R (eN (sw_ret (block_ret (then_ret (then_ret (block_ret (then_ret ?_))))))))))))))
    obtain rfl := sI h
    exact f1 2 R
   intro c4
   replace h := ifN c4 h
   refine q_movD R (q_movD R ?_)
   refine r_neq R R R R ?_ ?_
   ·intro c5
    replace h := ifN c5 h
    refine q_movD R (q_movD R ?_)
    refine r_geq R R R R ?_ ?_
    ·intro c6
     replace h := ifP c6 h
     refine q_movD R (q_movD R ?_)
     refine r_leq R R R R ?_ ?_
     ·intro c7
      replace h := ifP c7 h
      refine q_pickT R (r_notT R R R (q_pickT R (q_pickF R (q_pickT R (eN (sw_condF R (sw_skip (block_norm (then_norm (sw_rg (q_add R (q_movD R (eN ?_)))))))))))))
      exact ⟨m2, _, Nat.lt_succ_self _, .prn [0, 2, 6, 7, 8] R, (W (x + 1)), h, R⟩
     intro c7
     replace h := ifN (Int.not_le.2 c7) h
     refine q_pickT R (r_notF R R R (q_pickT R (q_pickF R (q_pickT R (eN (sw_condT R (qG (q_asgD R (eN (sw_ret (block_ret (then_ret (then_ret (block_ret (then_ret ?_)))))))))))))))
     obtain rfl := sI h
     exact f1 2 R
    intro c6
    replace h := ifN (Int.not_le.2 c6) h
    refine q_movD R (q_sk 2 R (q_pickF R (r_notF R R R (q_pickT R (q_pickF R (q_pickT R (eN (sw_condT R (qG (q_asgD R (eN (sw_ret (block_ret (then_ret (then_ret (block_ret (then_ret ?_)))))))))))))))))
    obtain rfl := sI h
    exact f1 2 R
   intro c5
   replace h := ifP c5 h
   refine q_movD R (q_sk 7 R (q_pickF R (q_pickF R (q_pickT R (eN (sw_condF R (sw_skip (block_norm (then_norm (sw_rg (q_add R (q_movD R (eN ?_)))))))))))))
   exact ⟨m2, _, Nat.lt_succ_self _, .prn [0, 2, 6, 7, 8] R, (W (x + 1)), h, R⟩
  intro c2
  replace h := ifN (Int.not_le.2 c2) h
  refine q_movD R (q_sk 2 R (q_pickF R (r_notF R R R (q_movD R (q_movD R ?_)))))
  refine r_eql R R R R ?_ ?_
  ·intro c8
   replace h := ifP c8 h
   refine q_movD R (q_sk 11 R (q_pickT R (q_pickT R (eN (sw_condT R (qG (q_asgD R (eN (sw_ret (block_ret (then_ret (then_ret (block_ret (then_ret ?_))))))))))))))
   obtain rfl := sI h
   exact f1 2 R
  intro c8
  replace h := ifN c8 h
  refine q_movD R (q_movD R ?_)
  refine r_neq R R R R ?_ ?_
  ·intro c9
   replace h := ifN c9 h
   refine q_movD R (q_movD R ?_)
   refine r_geq R R R R ?_ ?_
   ·intro c10
    replace h := ifP c10 h
    refine q_movD R (q_movD R ?_)
    refine r_leq R R R R ?_ ?_
    ·intro c11
     replace h := ifP c11 h
     refine q_pickT R (r_notT R R R (q_pickT R (q_pickF R (q_pickT R (eN (sw_condF R (sw_skip (block_norm (then_norm (sw_rg (q_add R (q_movD R (eN ?_)))))))))))))
     exact ⟨m2, _, Nat.lt_succ_self _, .prn [0, 2, 6, 7, 8] R, (W (x + 1)), h, R⟩
    intro c11
    replace h := ifN (Int.not_le.2 c11) h
    refine q_pickT R (r_notF R R R (q_pickT R (q_pickF R (q_pickT R (eN (sw_condT R (qG (q_asgD R (eN (sw_ret (block_ret (then_ret (then_ret (block_ret (then_ret ?_)))))))))))))))
    obtain rfl := sI h
    exact f1 2 R
   intro c10
   replace h := ifN (Int.not_le.2 c10) h
   refine q_movD R (q_sk 2 R (q_pickF R (r_notF R R R (q_pickT R (q_pickF R (q_pickT R (eN (sw_condT R (qG (q_asgD R (eN (sw_ret (block_ret (then_ret (then_ret (block_ret (then_ret ?_)))))))))))))))))
   obtain rfl := sI h
   exact f1 2 R
  intro c9
  replace h := ifP c9 h
  refine q_movD R (q_sk 7 R (q_pickF R (q_pickF R (q_pickT R (eN (sw_condF R (sw_skip (block_norm (then_norm (sw_rg (q_add R (q_movD R (eN ?_)))))))))))))
  exact ⟨m2, _, Nat.lt_succ_self _, .prn [0, 2, 6, 7, 8] R, (W (x + 1)), h, R⟩
 intro c
 replace h := ifN (Int.not_lt.2 c) h
 refine eN (sw_seq (sw_condF R (sw_exit (then_exit (then_exit ?_)))))
 subst hK2
 refine block_exit (then_norm (qG (q_movD R (r_lenS R R R R ?_))))
 obtain ⟨rv, hrv, h⟩ := bnd h
 refine r_call (wind_out_pc hrv) (.of (by kernel_rfl)) R R R R (r_not R R R (q_asgD R (eN (sw_ret ?_))))
 obtain rfl := sI h
 exact f1 2 R
def pad_out (F : Nat) (nv : Int) (lo : Int) (hi : Int) : Option Bool := if nv < lo then (some true) else (some (decide (hi < nv)))
theorem pad_out_pc {F : Nat} {nv : Int} {lo : Int} {hi : Int} {r : Bool} (h : pad_out F nv lo hi = some r) : PC Tryz.prog 34 [.v (.int .i64 nv), .v (.int .i64 lo), .v (.int .i64 hi)] (.v (.bool r)) := by
 rw [pad_out] at h
 refine SC.of_sw Tryz.func34 R R R ?_
 dsimp only [argS, List.map]
 refine qG (q_asgD R (eN (qG (q_movD R (q_movD R ?_)))))
 refine r_lss R R R R ?_ ?_
 ·intro c
  replace h := ifP c h
  refine q_movD R (q_sk 3 R (q_pickT R (q_asgD R (eN (sw_ret ?_)))))
  obtain rfl := sI h
  exact f1 6 R
 intro c
 replace h := ifN (Int.not_lt.2 c) h
 refine q_movD R (q_movD R (q_movD R (r_gtrV R R R R (q_pickF R (q_asgD R (eN (sw_ret ?_)))))))
 obtain rfl := sI h
 exact f1 6 R
def pad_low (F : Nat) (nv : Int) : Option Bool := Option.bind (pad_out F nv 0 9) fun rv => some rv
theorem pad_low_pc {F : Nat} {nv : Int} {r : Bool} (h : pad_low F nv = some r) : PC Tryz.prog 66 [.v (.int .i64 nv)] (.v (.bool r)) := by
 rw [pad_low] at h
 refine SC.of_sw Tryz.func66 R R R ?_
 dsimp only [argS, List.map]
 refine qG (q_asgD R (eN (qG (q_movD R ?_))))
 obtain ⟨rv, hrv, h⟩ := bnd h
 refine r_call (pad_out_pc hrv) (.of (by kernel_rfl)) R R R R (q_asgD R (eN (sw_ret ?_)))
 obtain rfl := sI h
 exact f1 2 R
def pad_off_1 (F : Nat) (nv : Int) : Option Bool := Option.bind (pad_out F nv (-10000000) 10000000) fun rv => some rv
theorem pad_off_1_pc {F : Nat} {nv : Int} {r : Bool} (h : pad_off_1 F nv = some r) : PC Tryz.prog 121 [.v (.int .i64 nv)] (.v (.bool r)) := by
 rw [pad_off_1] at h
 refine SC.of_sw Tryz.func121 R R R ?_
 dsimp only [argS, List.map]
 refine qG (q_asgD R (eN (qG (q_movD R ?_))))
 obtain ⟨rv, hrv, h⟩ := bnd h
 refine r_call (pad_out_pc hrv) (.of (by kernel_rfl)) R R R R (q_asgD R (eN (sw_ret ?_)))
 obtain rfl := sI h
 exact f1 2 R
def slices_IndexFunc_int_L1 (F : Nat) (s : (List Int)) (f : (Int → Option Bool)) (K : Int → Option Int) : Nat → Int → Option Int
 | 0, _ => none
 | n + 1, x => if x < (s.length : Int) then (Option.bind (ixO s x) fun e => Option.bind (f e) fun rv => if rv = true then (some x) else (slices_IndexFunc_int_L1 F s f K n (W (x + 1)))) else (K x)
def slices_IndexFunc_int (F : Nat) (s : (List Int)) (f : (Int → Option Bool)) : Option Int := slices_IndexFunc_int_L1 F s f (fun (x : Int) => some (-1)) F 0
theorem slices_IndexFunc_int_scr {F : Nat} {s : (List Int)} {f : (Int → Option Bool)} {r : Int} {fi : Nat} {fc : List D} (fh : ∀ {a0 : Int} {r : Bool}, f a0 = some r → PC Tryz.prog fi ([.v (.int .i64 a0)] ++ fc) (.v (.bool r))) (fe : Ent Tryz.prog fi) (h : slices_IndexFunc_int F s f = some r) : SCR Tryz.prog 101 [.d (.arr 1 ((s).map vI)), .fn (.func fi) [] (fc.map .d)] [] (.d (.v (.int .i64 r))) (List.map some []) := by
 rw [slices_IndexFunc_int] at h
 refine SC.of_sw Tryz.func101 R R R ?_
 dsimp only [argS, List.map]
 refine qG (q_asgD R (eN (sw_seq (qG (q_movD R (q_lenM tb R (q_movD R (eN (sw_block ?_)))))))))
 obtain ⟨K2, hK2, h⟩ : ∃ K, K = _ ∧ slices_IndexFunc_int_L1 F s f K F 0 = some r := ⟨_, rfl, h⟩
 refine sw_loopS (fun m st => ∃ (x : Int), slices_IndexFunc_int_L1 F s f K2 m x = some r ∧ st = ⟨[(0, .d (.arr 1 ((s).map vI))), (1, .fn (.func fi) [] (fc.map .d)), (4, .d (vI 0)), (7, .d (vI (s.length : Int))), (8, .d (vI x))], []⟩) (.prn [0, 1, 4, 7, 8] R) ⟨0, h, R⟩ ?_
 clear h
 rintro m2 st ⟨x, h, rfl⟩
 cases m2 with
 | zero => cases (show (none : Option Int) = some r from h)
 | succ m2 =>
 rw [slices_IndexFunc_int_L1] at h
 refine qG ?_
 refine r_lss R R R R ?_ ?_
 ·intro c
  replace h := ifP c h
  refine eN (sw_seq (sw_condT R (sw_skip (then_norm (sw_seq (sw_block (qG (q_movD R (q_asgD R (eN (qG (r_movF R R R (q_movD R (q_movD R ?_))))))))))))))
  obtain ⟨e, ie, h⟩ := bnd h
  refine q_ixE tb (ix0 ie) (ix1m ie) R (q_ldE (y := vI e) tb (ix2 (g := vI) ie) R ?_)
  obtain ⟨rv, hrv, h⟩ := bnd h
  refine r_callH (vs := [vI e]) (fh hrv) fe R R R R ?_
  with_reducible apply ev_lit
  ·intro c2
   replace h := ifP c2 h
   refine eN (sw_condT R (qG (q_movD R (q_asgD R (eN (sw_ret (block_ret (then_ret (then_ret (block_ret (then_ret ?_)))))))))))
   obtain rfl := sI h
   exact f1 4 R
  intro c2
  replace h := ifF c2 h
  refine eN (sw_condF R (sw_skip (block_norm (then_norm (sw_rg (q_add R (q_movD R (eN ?_))))))))
  exact ⟨m2, _, Nat.lt_succ_self _, .prn [0, 1, 4, 7, 8] R, (W (x + 1)), h, R⟩
 intro c
 replace h := ifN (Int.not_lt.2 c) h
 refine eN (sw_seq (sw_condF R (sw_exit (then_exit (then_exit ?_)))))
 subst hK2
 refine block_exit (then_norm (qG (q_asgD R (eN (sw_ret ?_)))))
 obtain rfl := sI h
 exact f1 4 R
def slices_ContainsFunc_int (F : Nat) (s : (List Int)) (f : (Int → Option Bool)) : Option Bool := Option.bind (slices_IndexFunc_int F s f) fun rv => some (decide (0 ≤ rv))
theorem slices_ContainsFunc_int_scr {F : Nat} {s : (List Int)} {f : (Int → Option Bool)} {r : Bool} {fi : Nat} {fc : List D} (fh : ∀ {a0 : Int} {r : Bool}, f a0 = some r → PC Tryz.prog fi ([.v (.int .i64 a0)] ++ fc) (.v (.bool r))) (fe : Ent Tryz.prog fi) (h : slices_ContainsFunc_int F s f = some r) : SCR Tryz.prog 76 [.d (.arr 1 ((s).map vI)), .fn (.func fi) [] (fc.map .d)] [] (.d (.v (.bool r))) (List.map some []) := by
 rw [slices_ContainsFunc_int] at h
 refine SC.of_sw Tryz.func76 R R R ?_
 dsimp only [argS, List.map]
 refine qG (q_asgD R (eN (qG (q_movD R (r_movF R R R ?_)))))
 obtain ⟨rv, hrv, h⟩ := bnd h
 refine r_callX (t' := .d (vI rv)) (news' := []) (slices_IndexFunc_int_scr (f := f) (fh := fh) (fe := fe) hrv) R .nil (.of (by kernel_rfl)) R R ((.cons (.d (.d _)) (.cons .hof .nil))) R .nil R R R ?_
 simp only [List.map_nil, List.append_nil]
 refine r_geqV R R R R (q_asgD R (eN (sw_ret ?_)))
 obtain rfl := sI h
 exact f1 4 R
def pad_off (F : Nat) (lv : (List Int)) : Option Bool := Option.bind (slices_ContainsFunc_int F lv (fun a0 => pad_off_1 F a0)) fun rv => some rv
theorem pad_off_pc {F : Nat} {lv : (List Int)} {r : Bool} (h : pad_off F lv = some r) : PC Tryz.prog 99 [.arr 1 ((lv).map vI)] (.v (.bool r)) := by
 rw [pad_off] at h
 refine SC.of_sw Tryz.func99 R R R ?_
 dsimp only [argS, List.map]
 refine qG (q_asgD R (eN (qG (q_movD R ?_))))
 obtain ⟨rv, hrv, h⟩ := bnd h
 refine r_callX (t' := .d (.v (.bool rv))) (news' := []) (slices_ContainsFunc_int_scr (f := (fun a0 => pad_off_1 F a0)) (fc := []) (fh := fun hr => pad_off_1_pc hr) (fe := .of (by kernel_rfl)) hrv) R .nil (.of (by kernel_rfl)) R R ((.cons (.d (.d _)) (.cons .fnc .nil))) R .nil R R R ?_
 simp only [List.map_nil, List.append_nil]
 refine q_asgD R (eN (sw_ret ?_))
 obtain rfl := sI h
 exact f1 2 R
def pad_Check_1 (F : Nat) (z : PdZone) : Option ByteArray := some z.name
theorem pad_Check_1_pc {F : Nat} {z : PdZone} {r : ByteArray} (h : pad_Check_1 F z = some r) : PC Tryz.prog 61 [PdZone.d z] (.v (.string r)) := by
 rw [pad_Check_1] at h
 refine SC.of_sw Tryz.func61 R R R ?_
 dsimp only [argS, List.map]
 refine qG (q_box R (q_asgD R (eN (qG (q_fa tb R (q_ldD (y := .v (.string z.name)) tb R (q_asgD R (eN (sw_ret ?_)))))))))
 obtain rfl := sI h
 exact f1 2 R
def pad_Check_2 (F : Nat) (x : PdPerson) : Option ByteArray := some x.name
theorem pad_Check_2_pc {F : Nat} {x : PdPerson} {r : ByteArray} (h : pad_Check_2 F x = some r) : PC Tryz.prog 64 [PdPerson.d x] (.v (.string r)) := by
 rw [pad_Check_2] at h
 refine SC.of_sw Tryz.func64 R R R ?_
 dsimp only [argS, List.map]
 refine qG (q_box R (q_asgD R (eN (qG (q_fa tb R (q_ldD (y := .v (.string x.name)) tb R (q_asgD R (eN (sw_ret ?_)))))))))
 obtain rfl := sI h
 exact f1 2 R
def pad_Check_3 (F : Nat) (x : PdPerson) : Option Int := Option.bind (pad_low F x.grade) fun rv => if rv = true then (some 7) else (some 0)
theorem pad_Check_3_pc {F : Nat} {x : PdPerson} {r : Int} (h : pad_Check_3 F x = some r) : PC Tryz.prog 65 [PdPerson.d x] (.v (.int .i64 r)) := by
 rw [pad_Check_3] at h
 refine SC.of_sw Tryz.func65 R R R ?_
 dsimp only [argS, List.map]
 refine qG (q_box R (q_asgD R (eN (sw_seq (qG (q_fa tb R (q_ldD (y := vI x.grade) tb R ?_)))))))
 obtain ⟨rv, hrv, h⟩ := bnd h
 refine r_callB (pad_low_pc hrv) (.of (by kernel_rfl)) R R R R ?_ ?_
 ·intro c
  replace h := ifP c h
  refine eN (sw_condT R (qG (q_asgD R (eN (sw_ret (then_ret ?_))))))
  obtain rfl := sI h
  exact f1 2 R
 intro c
 replace h := ifF c h
 refine eN (sw_condF R (sw_skip (then_norm (qG (q_asgD R (eN (sw_ret ?_)))))))
 obtain rfl := sI h
 exact f1 2 R
def pad_Check_4 (F : Nat) (s : ByteArray) : Option ByteArray := some s
theorem pad_Check_4_pc {F : Nat} {s : ByteArray} {r : ByteArray} (h : pad_Check_4 F s = some r) : PC Tryz.prog 68 [.v (.string s)] (.v (.string r)) := by
 rw [pad_Check_4] at h
 refine SC.of_sw Tryz.func68 R R R ?_
 dsimp only [argS, List.map]
 refine qG (q_asgD R (eN (qG (q_movD R (q_asgD R (eN (sw_ret ?_)))))))
 obtain rfl := sI h
 exact f1 2 R
def pad_Check_5 (F : Nat) (a : ByteArray) : Option Int := some 0
theorem pad_Check_5_pc {F : Nat} {a : ByteArray} {r : Int} (h : pad_Check_5 F a = some r) : PC Tryz.prog 69 [.v (.string a)] (.v (.int .i64 r)) := by
 rw [pad_Check_5] at h
 refine SC.of_sw Tryz.func69 R R R ?_
 dsimp only [argS, List.map]
 refine qG (q_asgD R (eN (qG (q_asgD R (eN (sw_ret ?_))))))
 obtain rfl := sI h
 exact f1 2 R
def pad_Check_6 (F : Nat) (q : PdSquib) : Option ByteArray := some q.name
theorem pad_Check_6_pc {F : Nat} {q : PdSquib} {r : ByteArray} (h : pad_Check_6 F q = some r) : PC Tryz.prog 71 [PdSquib.d q] (.v (.string r)) := by
 rw [pad_Check_6] at h
 refine SC.of_sw Tryz.func71 R R R ?_
 dsimp only [argS, List.map]
 refine qG (q_box R (q_asgD R (eN (qG (q_fa tb R (q_ldD (y := .v (.string q.name)) tb R (q_asgD R (eN (sw_ret ?_)))))))))
 obtain rfl := sI h
 exact f1 2 R
def pad_zone_J1 (F : Nat)  : Option Int := some 7
def pad_zone (F : Nat) (z : PdZone) : Option Int := Option.bind (pad_off F [z.area_X_Lo, z.area_X_Hi, z.area_Y_Lo, z.area_Y_Hi]) fun rv => if rv = true then (pad_zone_J1 F) else (if z.area_X_Hi < z.area_X_Lo then (pad_zone_J1 F) else (if z.area_Y_Hi < z.area_Y_Lo then (pad_zone_J1 F) else (Option.bind (pad_low F z.grade) fun rv2 => if rv2 = true then (pad_zone_J1 F) else (Option.bind (pad_out F z.room 1 8) fun rv3 => if rv3 = true then (pad_zone_J1 F) else (some 0)))))
theorem pad_zone_pc {F : Nat} {z : PdZone} {r : Int} (h : pad_zone F z = some r) : PC Tryz.prog 62 [PdZone.d z] (.v (.int .i64 r)) := by
 rw [pad_zone] at h
 refine SC.of_sw Tryz.func62 R R R ?_
 dsimp only [argS, List.map]
 refine qG (q_box R (q_asgD R (eN (sw_seq (sw_dr (by kernel_rfl) (q_fa tb R (q_fa tb R (q_ldD (y := .agg [vI z.area_X_Lo, vI z.area_X_Hi]) tb R (q_fa tb R (q_fa tb R (q_ldD (y := .agg [vI z.area_Y_Lo, vI z.area_Y_Hi]) tb R (r_alloc tb R R R R R (r_alloc tb R R R R R (q_stE _ _ tb R (q_stE _ _ tb R (ev_endD (by kernel_rfl) (then_norm (sw_seq (sw_seq ?_)))))))))))))))))))
 refine sw_join (fun zz : Unit => pad_zone_J1 F = some r) (fun zz : Unit => ⟨[(2, .d (vI 0)), (44, .d (.v (.bool true)))], []⟩) ?_ ?_
 ·clear h
  rintro ⟨⟩ h
  rw [pad_zone_J1] at h
  refine sw_condT R (qG (q_asgD R (eN (sw_ret (then_ret ?_)))))
  obtain rfl := sI h
  exact f1 2 R
 refine sw_rg (q_fa tb R (q_ldD (y := vI z.area_X_Lo) tb R (q_fa tb R (q_ldD (y := vI z.area_X_Hi) tb R (q_fa tb R (q_ldD (y := vI z.area_Y_Lo) tb R (q_fa tb R (q_ldD (y := vI z.area_Y_Hi) tb R (r_bslice tb R R R R R R R R R R R R R ?_)))))))))
 obtain ⟨rv, hrv, h⟩ := bnd h
 refine r_callLB (pad_off_pc hrv) (.of (by kernel_rfl)) R R ((.cons (.row R R) .nil)) R R ?_ ?_
 ·intro c
  replace h := ifP c h
  refine q_movD R (q_sk 5 R (q_pickT R (q_movD R (q_sk 5 R (q_pickT R (q_movD R (q_sk 3 R (q_pickT R (q_movD R (q_sk 3 R (q_pickT R (eN ?_))))))))))))
  exact .inl ⟨(), h, .vw (κ := []) (v0 R)⟩
 intro c
 replace h := ifF c h
 refine q_movD R (q_fa tb R (q_ldD (y := vI z.area_X_Lo) tb R (q_fa tb R (q_ldD (y := vI z.area_X_Hi) tb R ?_))))
 refine r_gtr R R R R ?_ ?_
 ·intro c2
  replace h := ifP c2 h
  refine q_pickF R (q_movD R (q_sk 5 R (q_pickT R (q_movD R (q_sk 3 R (q_pickT R (q_movD R (q_sk 3 R (q_pickT R (eN ?_))))))))))
  exact .inl ⟨(), h, .vw (κ := []) (v0 R)⟩
 intro c2
 replace h := ifN (Int.not_lt.2 c2) h
 refine q_pickF R (q_movD R (q_fa tb R (q_ldD (y := vI z.area_Y_Lo) tb R (q_fa tb R (q_ldD (y := vI z.area_Y_Hi) tb R ?_)))))
 refine r_gtr R R R R ?_ ?_
 ·intro c3
  replace h := ifP c3 h
  refine q_pickF R (q_movD R (q_sk 3 R (q_pickT R (q_movD R (q_sk 3 R (q_pickT R (eN ?_)))))))
  exact .inl ⟨(), h, .vw (κ := []) (v0 R)⟩
 intro c3
 replace h := ifN (Int.not_lt.2 c3) h
 refine q_pickF R (q_movD R (q_fa tb R (q_ldD (y := vI z.grade) tb R ?_)))
 obtain ⟨rv2, hrv2, h⟩ := bnd h
 refine r_callB (pad_low_pc hrv2) (.of (by kernel_rfl)) R R R R ?_ ?_
 ·intro c4
  replace h := ifP c4 h
  refine q_pickF R (q_movD R (q_sk 3 R (q_pickT R (eN ?_))))
  exact .inl ⟨(), h, .vw (κ := []) (v0 R)⟩
 intro c4
 replace h := ifF c4 h
 refine q_pickF R (q_movD R (q_fa tb R (q_ldD (y := vI z.room) tb R ?_)))
 obtain ⟨rv3, hrv3, h⟩ := bnd h
 refine r_callB (pad_out_pc hrv3) (.of (by kernel_rfl)) R R R R ?_ ?_
 ·intro c5
  replace h := ifP c5 h
  refine q_pickF R (eN ?_)
  exact .inl ⟨(), h, .vw (κ := []) (v0 R)⟩
 intro c5
 replace h := ifF c5 h
 refine q_pickF R (eN (.inr (sw_condF R (sw_skip (then_norm (qG (q_asgD R (eN (sw_ret ?_)))))))))
 obtain rfl := sI h
 exact f1 2 R
def pad_squib_1 (F : Nat) (k : Int) (c : Int) : Option Bool := Option.bind (pad_out F k 0 (W (c - 1))) fun rv => some rv
theorem pad_squib_1_pc {F : Nat} {k : Int} {c : Int} {r : Bool} (h : pad_squib_1 F k c = some r) : PC Tryz.prog 100 [.v (.int .i64 k), .el 1 (([c]).map vI) ((0 : Int)).toNat 0] (.v (.bool r)) := by
 rw [pad_squib_1] at h
 refine SC.of_sw Tryz.func100 R R R ?_
 dsimp only [argS, List.map]
 refine qG (q_asgD R (eN (qG (q_movD R (q_ldE (y := vI c) tb (ix2 (g := vI) (R : ixO [c] 0 = some c)) R (r_sub R R R R ?_))))))
 obtain ⟨rv, hrv, h⟩ := bnd h
 refine r_call (pad_out_pc hrv) (.of (by kernel_rfl)) R R R R (q_asgD R (eN (sw_ret ?_)))
 obtain rfl := sI h
 exact f1 3 R
def pad_squib_L1 (F : Nat) (q : PdSquib) (q2 : (List Int)) (K : Int → Option Int) : Nat → Int → Option Int
 | 0, _ => none
 | n + 1, x => if x < (q2.length : Int) then (Option.bind (ixO q.keys x) fun e => Option.bind (ixO q.keys (W (x + 1))) fun e2 => if e2 ≤ e then (some 2) else (pad_squib_L1 F q q2 K n (W (x + 1)))) else (K x)
def pad_squib_J1 (F : Nat) (q : PdSquib) : Option Int := Option.bind (cutO q.keys 1 q.keys.length) fun q2 => pad_squib_L1 F q q2 (fun (x : Int) => some 0) F 0
def pad_squib (F : Nat) (q : PdSquib) (keys : Int) : Option Int := Option.bind (pad_off F [q.at_X, q.at_Y]) fun rv => if rv = true then (some 7) else (Option.bind (pad_out F q.clear 0 10000000) fun rv2 => if rv2 = true then (some 7) else (Option.bind (pad_low F q.grade) fun rv3 => if rv3 = true then (some 7) else (if (q.keys.length : Int) = 0 then (some 4) else (Option.bind (slices_ContainsFunc_int F q.keys (fun a0 => pad_squib_1 F a0 keys)) fun rv4 => if rv4 = true then (some 4) else (pad_squib_J1 F q)))))
theorem pad_squib_pc {F : Nat} {q : PdSquib} {keys : Int} {r : Int} (h : pad_squib F q keys = some r) : PC Tryz.prog 73 [PdSquib.d q, .v (.int .i64 keys)] (.v (.int .i64 r)) := by
 rw [pad_squib] at h
 refine SC.of_sw Tryz.func73 R R R ?_
 dsimp only [argS, List.map]
 refine qG (q_box R (q_box R (q_asgD R (eN (sw_seq ?_)))))
 refine sw_join (fun zz : Unit => pad_squib_J1 F q = some r) (fun zz : Unit => ⟨[(2, .ref 0 6 0 0), (4, .d (vI 0))], [some ⟨6, [.d (PdSquib.d q)]⟩]⟩) ?_ ?_
 ·clear h
  rintro ⟨⟩ h
  rw [pad_squib_J1] at h
  refine sw_seq (qG (q_fa tb R (q_ldD (y := .arr 1 ((q.keys).map vI)) tb R ?_)))
  obtain ⟨q2, iq2, h⟩ := bnd h
  refine r_sliceL tb R R R R R R iq2 R R (q_lenM tb R (q_movD R (eN (sw_block ?_))))
  obtain ⟨K3, hK3, h⟩ : ∃ K, K = _ ∧ pad_squib_L1 F q q2 K F 0 = some r := ⟨_, rfl, h⟩
  refine sw_loopS (fun m st => ∃ (x : Int), pad_squib_L1 F q q2 K3 m x = some r ∧ st = ⟨[(2, .ref 0 6 0 0), (4, .d (vI 0)), (39, .d (vI (q2.length : Int))), (40, .d (vI x))], [some ⟨6, [.d (PdSquib.d q)]⟩]⟩) (.prn [2, 4, 39, 40] R) ⟨0, h, R⟩ ?_
  clear h
  rintro m3 st ⟨x, h, rfl⟩
  cases m3 with
  | zero => cases (show (none : Option Int) = some r from h)
  | succ m3 =>
  rw [pad_squib_L1] at h
  refine qG ?_
  refine r_lss R R R R ?_ ?_
  ·intro c6
   replace h := ifP c6 h
   refine eN (sw_seq (sw_condT R (sw_skip (then_norm (sw_seq (sw_block (qG (q_movD R (q_asgD R (eN (sw_seq (sw_dr (by kernel_rfl) (q_fa tb R (q_ldD (y := .arr 1 ((q.keys).map vI)) tb R (q_movD R ?_)))))))))))))))
   obtain ⟨e, ie, h⟩ := bnd h
   refine q_ixE tb (ix0 ie) (ix1m ie) R (q_ldE (y := vI e) tb (ix2 (g := vI) ie) R (q_fa tb R (q_ldD (y := .arr 1 ((q.keys).map vI)) tb R (q_movD R (q_add R ?_)))))
   obtain ⟨e2, ie2, h⟩ := bnd h
   refine q_ixE tb (ix0 ie2) (ix1m ie2) R (q_ldE (y := vI e2) tb (ix2 (g := vI) ie2) R ?_)
   refine r_geq R R R R ?_ ?_
   ·intro c7
    replace h := ifP c7 h
    refine ev_endD (by kernel_rfl) (then_norm (sw_condT R (qG (q_asgD R (eN (sw_ret (block_ret (then_ret (then_ret (block_ret (then_ret ?_)))))))))))
    obtain rfl := sI h
    exact f1 4 R
   intro c7
   replace h := ifN (Int.not_le.2 c7) h
   refine ev_endD (by kernel_rfl) (then_norm (sw_condF R (sw_skip (block_norm (then_norm (sw_rg (q_add R (q_movD R (eN ?_)))))))))
   exact ⟨m3, _, Nat.lt_succ_self _, .prn [2, 4, 39, 40] R, (W (x + 1)), h, R⟩
  intro c6
  replace h := ifN (Int.not_lt.2 c6) h
  refine eN (sw_seq (sw_condF R (sw_exit (then_exit (then_exit ?_)))))
  subst hK3
  refine block_exit (then_norm (qG (q_asgD R (eN (sw_ret ?_)))))
  obtain rfl := sI h
  exact f1 4 R
 refine sw_block (qG (q_fa tb R (q_fa tb R (q_ldD (y := vI q.at_X) tb R (q_fa tb R (q_fa tb R (q_ldD (y := vI q.at_Y) tb R (r_bslice tb R R R R R R R R R R R R R ?_))))))))
 obtain ⟨rv, hrv, h⟩ := bnd h
 refine r_callLB (pad_off_pc hrv) (.of (by kernel_rfl)) R R ((.cons (.row R R) .nil)) R R ?_ ?_
 ·intro c
  replace h := ifP c h
  refine q_movD R (q_sk 3 R (q_pickT R (q_movD R (q_sk 3 R (q_pickT R (q_asgD R (eN (sw_condT R (qG (q_asgD R (eN (sw_ret (block_ret (then_ret ?_))))))))))))))
  obtain rfl := sI h
  exact f1 4 R
 intro c
 replace h := ifF c h
 refine q_movD R (q_fa tb R (q_ldD (y := vI q.clear) tb R ?_))
 obtain ⟨rv2, hrv2, h⟩ := bnd h
 refine r_callB (pad_out_pc hrv2) (.of (by kernel_rfl)) R R R R ?_ ?_
 ·intro c2
  replace h := ifP c2 h
  refine q_pickF R (q_movD R (q_sk 3 R (q_pickT R (q_asgD R (eN (sw_condT R (qG (q_asgD R (eN (sw_ret (block_ret (then_ret ?_))))))))))))
  obtain rfl := sI h
  exact f1 4 R
 intro c2
 replace h := ifF c2 h
 refine q_pickF R (q_movD R (q_fa tb R (q_ldD (y := vI q.grade) tb R ?_)))
 obtain ⟨rv3, hrv3, h⟩ := bnd h
 refine r_callB (pad_low_pc hrv3) (.of (by kernel_rfl)) R R R R ?_ ?_
 ·intro c3
  replace h := ifP c3 h
  refine q_pickF R (q_asgD R (eN (sw_condT R (qG (q_asgD R (eN (sw_ret (block_ret (then_ret ?_)))))))))
  obtain rfl := sI h
  exact f1 4 R
 intro c3
 replace h := ifF c3 h
 refine q_pickF R (q_asgD R (eN (sw_condF R (qG (q_fa tb R (q_ldD (y := .arr 1 ((q.keys).map vI)) tb R (q_lenM tb R ?_)))))))
 refine r_eql R R R R ?_ ?_
 ·intro c4
  replace h := ifP c4 h
  refine q_movD R (q_sk 4 R (q_pickT R (q_asgD R (eN (sw_condT R (qG (q_asgD R (eN (sw_ret (block_ret (then_ret ?_)))))))))))
  obtain rfl := sI h
  exact f1 4 R
 intro c4
 replace h := ifN c4 h
 refine q_movD R (q_fa tb R (q_ldD (y := .arr 1 ((q.keys).map vI)) tb R (r_func R R R R ?_)))
 obtain ⟨rv4, hrv4, h⟩ := bnd h
 refine r_callX (t' := .d (.v (.bool rv4))) (news' := []) (slices_ContainsFunc_int_scr (f := (fun a0 => pad_squib_1 F a0 keys)) (fc := [.el 1 [vI keys] 0 0]) (fh := fun hr => pad_squib_1_pc hr) (fe := .of (by kernel_rfl)) hrv4) R .nil (.of (by kernel_rfl)) R R ((.cons (.d (.d _)) (.cons (.fnC (.cons (.d (.ref R (.d _))) .nil)) .nil))) R .nil R R R ?_
 simp only [List.map_nil, List.append_nil]
 with_reducible apply ev_lit
 ·intro c5
  replace h := ifP c5 h
  refine q_pickF R (q_asgD R (eN (sw_condT R (qG (q_asgD R (eN (sw_ret (block_ret (then_ret ?_)))))))))
  obtain rfl := sI h
  exact f1 4 R
 intro c5
 replace h := ifF c5 h
 refine q_pickF R (q_asgD R (eN (sw_condF R (sw_skip (block_norm (then_norm ?_))))))
 exact .inl ⟨(), h, .vw (κ := [0]) (vK (.cons R R .nil) R)⟩
def pad_Check_7 (F : Nat) (q : PdSquib) (c : PdPad) : Option Int := Option.bind (pad_squib F q (c.keys.length : Int)) fun rv => some rv
theorem pad_Check_7_pc {F : Nat} {q : PdSquib} {c : PdPad} {r : Int} (h : pad_Check_7 F q c = some r) : PC Tryz.prog 72 [PdSquib.d q, .el 7 (([c]).map PdPad.d) ((0 : Int)).toNat 0] (.v (.int .i64 r)) := by
 rw [pad_Check_7] at h
 refine SC.of_sw Tryz.func72 R R R ?_
 dsimp only [argS, List.map]
 refine qG (q_box R (q_asgD R (eN (qG (q_ldD (y := PdSquib.d q) tb R (q_faE tb R (q_ldE (y := .arr 1 ((c.keys).map vS)) tb (ix2 (g := PdPad.d) (R : ixO [c] 0 = some c)) R (q_lenM tb R ?_))))))))
 obtain ⟨rv, hrv, h⟩ := bnd h
 refine r_call (pad_squib_pc hrv) (.of (by kernel_rfl)) R R R R (q_asgD R (eN (sw_ret ?_)))
 obtain rfl := sI h
 exact f1 3 R
def pad_named_PdZone_L1 (F : Nat) (lv : (List PdZone)) (name : (PdZone → Option ByteArray)) (rest : (PdZone → Option Int)) (K : (List (ByteArray × Bool)) → Int → Option (Int × Int)) : Nat → (List (ByteArray × Bool)) → Int → Option (Int × Int)
 | 0, _, _ => none
 | n + 1, seen, x => if x < (lv.length : Int) then (Option.bind (ixO lv x) fun e => Option.bind (name e) fun rv => Option.bind (wind_Name F rv) fun rv2 => if rv2 = true then (if ((mget seen rv).getD false) = true then (some (x, 5)) else (Option.bind (rest e) fun rv3 => if rv3 = 0 then (pad_named_PdZone_L1 F lv name rest K n (mset seen rv true) (W (x + 1))) else (some (x, rv3)))) else (some (x, 6))) else (K seen x)
def pad_named_PdZone (F : Nat) (lv : (List PdZone)) (name : (PdZone → Option ByteArray)) (rest : (PdZone → Option Int)) : Option (Int × Int) := pad_named_PdZone_L1 F lv name rest (fun (seen : (List (ByteArray × Bool))) (x : Int) => some (0, 0)) F ([] : List (ByteArray × Bool)) 0
theorem pad_named_PdZone_scr {F : Nat} {lv : (List PdZone)} {name : (PdZone → Option ByteArray)} {rest : (PdZone → Option Int)} {r : (Int × Int)} {namei : Nat} {namec : List D} (nameh : ∀ {a0 : PdZone} {r : ByteArray}, name a0 = some r → PC Tryz.prog namei ([PdZone.d a0] ++ namec) (.v (.string r))) (namee : Ent Tryz.prog namei) {resti : Nat} {restc : List D} (resth : ∀ {a0 : PdZone} {r : Int}, rest a0 = some r → PC Tryz.prog resti ([PdZone.d a0] ++ restc) (.v (.int .i64 r))) (reste : Ent Tryz.prog resti) (h : pad_named_PdZone F lv name rest = some r) : SCR Tryz.prog 60 [.d (.arr 8 ((lv).map PdZone.d)), .fn (.func namei) [] (namec.map .d), .fn (.func resti) [] (restc.map .d)] [] (.d (.tup [.v (.int .i64 r.1), .v (.int .i64 r.2)])) (List.map some []) := by
 rw [pad_named_PdZone] at h
 refine SC.of_sw Tryz.func60 R R R ?_
 dsimp only [argS, List.map]
 refine qG (q_asgD R (q_asgD R (eN (qG (r_makeMap R R R (r_asgT (.mp 0) R R R (eN (sw_seq (qG (q_movD R (q_lenM tb R (q_movD R (eN (sw_block ?_))))))))))))))
 obtain ⟨K3, hK3, h⟩ : ∃ K, K = _ ∧ pad_named_PdZone_L1 F lv name rest K F ([] : List (ByteArray × Bool)) 0 = some r := ⟨_, rfl, h⟩
 refine sw_loopS (fun m st => ∃ (seen : (List (ByteArray × Bool))) (x : Int), pad_named_PdZone_L1 F lv name rest K3 m seen x = some r ∧ st = ⟨[(1, .fn (.func namei) [] (namec.map .d)), (2, .fn (.func resti) [] (restc.map .d)), (6, .d (vI 0)), (7, .d (vI 0)), (8, .mp 0), (14, .d (.arr 8 ((lv).map PdZone.d))), (15, .d (vI (lv.length : Int))), (16, .d (vI x))], [some (m1w seen)]⟩) (.prn [1, 2, 6, 7, 8, 14, 15, 16] R) ⟨([] : List (ByteArray × Bool)), 0, h, R⟩ ?_
 clear h
 rintro m3 st ⟨seen, x, h, rfl⟩
 cases m3 with
 | zero => cases (show (none : Option (Int × Int)) = some r from h)
 | succ m3 =>
 rw [pad_named_PdZone_L1] at h
 refine qG ?_
 refine r_lss R R R R ?_ ?_
 ·intro c
  replace h := ifP c h
  refine eN (sw_seq (sw_condT R (sw_skip (then_norm (sw_seq (sw_block (qG (q_movD R ?_))))))))
  obtain ⟨e, ie, h⟩ := bnd h
  refine q_ixE tb (ix0 ie) (ix1m ie) R (q_ldE (y := PdZone.d e) tb (ix2 (g := PdZone.d) ie) R (r_alloc tb R R R R R (q_asgD R (q_stE _ _ tb R (eN (qG (r_movF R R R (q_ldD (y := PdZone.d e) tb R ?_))))))))
  obtain ⟨rv, hrv, h⟩ := bnd h
  refine r_callH (vs := [PdZone.d e]) (nameh hrv) namee R R R R (q_asgD R (eN (sw_seq (sw_block (qG (q_movD R ?_))))))
  obtain ⟨rv2, hrv2, h⟩ := bnd h
  refine r_callB (wind_Name_pc hrv2) (.of (by kernel_rfl)) R R R R ?_ ?_
  ·intro c2
   replace h := ifP c2 h
   refine r_notT R R R (q_asgD R (eN (sw_condF R (qG (r_movT (.mp 0) R R R (q_movD R ?_))))))
   refine r_lkS (vf := fun b => .v (.bool b)) (z0 := false) (u := .v (.bool ((mget seen rv).getD false))) tb R R R R R R R R R R ?_
   with_reducible apply ev_lit
   ·intro c3
    replace h := ifP c3 h
    refine q_asgD R (eN (sw_condT R (qG (q_movD R (q_asgD R (q_asgD R (eN (sw_ret (block_ret (then_ret (block_ret (then_ret (then_ret (block_ret (then_ret ?_)))))))))))))))
    obtain rfl := sI h
    exact fin_0 (t := .d (.tup [vI x, vI 5])) R R R (.cons (.tmp 6) (.cons (.tmp 7) .nil))
   intro c3
   replace h := ifF c3 h
   refine q_asgD R (eN (sw_condF R (sw_skip (block_norm (then_norm (sw_seq (qG (r_movF R R R (q_ldD (y := PdZone.d e) tb R ?_)))))))))
   obtain ⟨rv3, hrv3, h⟩ := bnd h
   refine r_callH (vs := [PdZone.d e]) (resth hrv3) reste R R R R (q_asgD R (eN (qG (q_movD R ?_))))
   refine r_neq R R R R ?_ ?_
   ·intro c4
    replace h := ifN c4 h
    refine eN (sw_condT R (qG (q_movD R (q_movD R (q_asgD R (q_asgD R (eN (sw_ret (then_ret (block_ret (then_ret (then_ret (block_ret (then_ret ?_))))))))))))))
    obtain rfl := sI h
    exact fin_0 (t := .d (.tup [vI x, vI rv3])) R R R (.cons (.tmp 6) (.cons (.tmp 7) .nil))
   intro c4
   replace h := ifP c4 h
   refine eN (sw_condF R (sw_skip (then_norm (sw_rg (r_movT (.mp 0) R R R (q_movD R ?_))))))
   refine r_msetS (vf := fun b => .v (.bool b)) (v := true) (q := (mset seen rv true)) ([some (m1w (mset seen rv true)), some ⟨8, [.d (PdZone.d e)]⟩]) R R R R R R R R R ?_
   refine ev_end (block_norm (then_norm (sw_rg (q_add R (q_movD R (eN ?_))))))
   exact ⟨m3, ⟨[(1, .fn (.func namei) [] (namec.map .d)), (2, .fn (.func resti) [] (restc.map .d)), (6, .d (vI 0)), (7, .d (vI 0)), (8, .mp 0), (14, .d (.arr 8 ((lv).map PdZone.d))), (15, .d (vI (lv.length : Int))), (16, .d (vI (W (x + 1))))], [some (m1w (mset seen rv true))]⟩, Nat.lt_succ_self _, .vw (κ := [0]) (vwK R R (.map R .nil) (.hof R (.hof R (.cons R R (.cons R R (.cons R R (.cons R R (.cons R R (.cons R R .nil))))))))), (mset seen rv true), (W (x + 1)), h, R⟩
  intro c2
  replace h := ifF c2 h
  refine r_notF R R R (q_asgD R (eN (sw_condT R (qG (q_movD R (q_asgD R (q_asgD R (eN (sw_ret (block_ret (then_ret (block_ret (then_ret (then_ret (block_ret (then_ret ?_))))))))))))))))
  obtain rfl := sI h
  exact fin_0 (t := .d (.tup [vI x, vI 6])) R R R (.cons (.tmp 6) (.cons (.tmp 7) .nil))
 intro c
 replace h := ifN (Int.not_lt.2 c) h
 refine eN (sw_seq (sw_condF R (sw_exit (then_exit (then_exit ?_)))))
 subst hK3
 refine block_exit (then_norm (qG (q_asgD R (q_asgD R (eN (sw_ret ?_))))))
 obtain rfl := sI h
 exact fin_0 (t := .d (.tup [vI 0, vI 0])) R R R (.cons (.tmp 6) (.cons (.tmp 7) .nil))
def pad_named_PdPerson_L1 (F : Nat) (lv : (List PdPerson)) (name : (PdPerson → Option ByteArray)) (rest : (PdPerson → Option Int)) (K : (List (ByteArray × Bool)) → Int → Option (Int × Int)) : Nat → (List (ByteArray × Bool)) → Int → Option (Int × Int)
 | 0, _, _ => none
 | n + 1, seen, x => if x < (lv.length : Int) then (Option.bind (ixO lv x) fun e => Option.bind (name e) fun rv => Option.bind (wind_Name F rv) fun rv2 => if rv2 = true then (if ((mget seen rv).getD false) = true then (some (x, 5)) else (Option.bind (rest e) fun rv3 => if rv3 = 0 then (pad_named_PdPerson_L1 F lv name rest K n (mset seen rv true) (W (x + 1))) else (some (x, rv3)))) else (some (x, 6))) else (K seen x)
def pad_named_PdPerson (F : Nat) (lv : (List PdPerson)) (name : (PdPerson → Option ByteArray)) (rest : (PdPerson → Option Int)) : Option (Int × Int) := pad_named_PdPerson_L1 F lv name rest (fun (seen : (List (ByteArray × Bool))) (x : Int) => some (0, 0)) F ([] : List (ByteArray × Bool)) 0
theorem pad_named_PdPerson_scr {F : Nat} {lv : (List PdPerson)} {name : (PdPerson → Option ByteArray)} {rest : (PdPerson → Option Int)} {r : (Int × Int)} {namei : Nat} {namec : List D} (nameh : ∀ {a0 : PdPerson} {r : ByteArray}, name a0 = some r → PC Tryz.prog namei ([PdPerson.d a0] ++ namec) (.v (.string r))) (namee : Ent Tryz.prog namei) {resti : Nat} {restc : List D} (resth : ∀ {a0 : PdPerson} {r : Int}, rest a0 = some r → PC Tryz.prog resti ([PdPerson.d a0] ++ restc) (.v (.int .i64 r))) (reste : Ent Tryz.prog resti) (h : pad_named_PdPerson F lv name rest = some r) : SCR Tryz.prog 63 [.d (.arr 2 ((lv).map PdPerson.d)), .fn (.func namei) [] (namec.map .d), .fn (.func resti) [] (restc.map .d)] [] (.d (.tup [.v (.int .i64 r.1), .v (.int .i64 r.2)])) (List.map some []) := by
 rw [pad_named_PdPerson] at h
 refine SC.of_sw Tryz.func63 R R R ?_
 dsimp only [argS, List.map]
 refine qG (q_asgD R (q_asgD R (eN (qG (r_makeMap R R R (r_asgT (.mp 0) R R R (eN (sw_seq (qG (q_movD R (q_lenM tb R (q_movD R (eN (sw_block ?_))))))))))))))
 obtain ⟨K3, hK3, h⟩ : ∃ K, K = _ ∧ pad_named_PdPerson_L1 F lv name rest K F ([] : List (ByteArray × Bool)) 0 = some r := ⟨_, rfl, h⟩
 refine sw_loopS (fun m st => ∃ (seen : (List (ByteArray × Bool))) (x : Int), pad_named_PdPerson_L1 F lv name rest K3 m seen x = some r ∧ st = ⟨[(1, .fn (.func namei) [] (namec.map .d)), (2, .fn (.func resti) [] (restc.map .d)), (6, .d (vI 0)), (7, .d (vI 0)), (8, .mp 0), (14, .d (.arr 2 ((lv).map PdPerson.d))), (15, .d (vI (lv.length : Int))), (16, .d (vI x))], [some (m1w seen)]⟩) (.prn [1, 2, 6, 7, 8, 14, 15, 16] R) ⟨([] : List (ByteArray × Bool)), 0, h, R⟩ ?_
 clear h
 rintro m3 st ⟨seen, x, h, rfl⟩
 cases m3 with
 | zero => cases (show (none : Option (Int × Int)) = some r from h)
 | succ m3 =>
 rw [pad_named_PdPerson_L1] at h
 refine qG ?_
 refine r_lss R R R R ?_ ?_
 ·intro c
  replace h := ifP c h
  refine eN (sw_seq (sw_condT R (sw_skip (then_norm (sw_seq (sw_block (qG (q_movD R ?_))))))))
  obtain ⟨e, ie, h⟩ := bnd h
  refine q_ixE tb (ix0 ie) (ix1m ie) R (q_ldE (y := PdPerson.d e) tb (ix2 (g := PdPerson.d) ie) R (r_alloc tb R R R R R (q_asgD R (q_stE _ _ tb R (eN (qG (r_movF R R R (q_ldD (y := PdPerson.d e) tb R ?_))))))))
  obtain ⟨rv, hrv, h⟩ := bnd h
  refine r_callH (vs := [PdPerson.d e]) (nameh hrv) namee R R R R (q_asgD R (eN (sw_seq (sw_block (qG (q_movD R ?_))))))
  obtain ⟨rv2, hrv2, h⟩ := bnd h
  refine r_callB (wind_Name_pc hrv2) (.of (by kernel_rfl)) R R R R ?_ ?_
  ·intro c2
   replace h := ifP c2 h
   refine r_notT R R R (q_asgD R (eN (sw_condF R (qG (r_movT (.mp 0) R R R (q_movD R ?_))))))
   refine r_lkS (vf := fun b => .v (.bool b)) (z0 := false) (u := .v (.bool ((mget seen rv).getD false))) tb R R R R R R R R R R ?_
   with_reducible apply ev_lit
   ·intro c3
    replace h := ifP c3 h
    refine q_asgD R (eN (sw_condT R (qG (q_movD R (q_asgD R (q_asgD R (eN (sw_ret (block_ret (then_ret (block_ret (then_ret (then_ret (block_ret (then_ret ?_)))))))))))))))
    obtain rfl := sI h
    exact fin_0 (t := .d (.tup [vI x, vI 5])) R R R (.cons (.tmp 6) (.cons (.tmp 7) .nil))
   intro c3
   replace h := ifF c3 h
   refine q_asgD R (eN (sw_condF R (sw_skip (block_norm (then_norm (sw_seq (qG (r_movF R R R (q_ldD (y := PdPerson.d e) tb R ?_)))))))))
   obtain ⟨rv3, hrv3, h⟩ := bnd h
   refine r_callH (vs := [PdPerson.d e]) (resth hrv3) reste R R R R (q_asgD R (eN (qG (q_movD R ?_))))
   refine r_neq R R R R ?_ ?_
   ·intro c4
    replace h := ifN c4 h
    refine eN (sw_condT R (qG (q_movD R (q_movD R (q_asgD R (q_asgD R (eN (sw_ret (then_ret (block_ret (then_ret (then_ret (block_ret (then_ret ?_))))))))))))))
    obtain rfl := sI h
    exact fin_0 (t := .d (.tup [vI x, vI rv3])) R R R (.cons (.tmp 6) (.cons (.tmp 7) .nil))
   intro c4
   replace h := ifP c4 h
   refine eN (sw_condF R (sw_skip (then_norm (sw_rg (r_movT (.mp 0) R R R (q_movD R ?_))))))
   refine r_msetS (vf := fun b => .v (.bool b)) (v := true) (q := (mset seen rv true)) ([some (m1w (mset seen rv true)), some ⟨2, [.d (PdPerson.d e)]⟩]) R R R R R R R R R ?_
   refine ev_end (block_norm (then_norm (sw_rg (q_add R (q_movD R (eN ?_))))))
   exact ⟨m3, ⟨[(1, .fn (.func namei) [] (namec.map .d)), (2, .fn (.func resti) [] (restc.map .d)), (6, .d (vI 0)), (7, .d (vI 0)), (8, .mp 0), (14, .d (.arr 2 ((lv).map PdPerson.d))), (15, .d (vI (lv.length : Int))), (16, .d (vI (W (x + 1))))], [some (m1w (mset seen rv true))]⟩, Nat.lt_succ_self _, .vw (κ := [0]) (vwK R R (.map R .nil) (.hof R (.hof R (.cons R R (.cons R R (.cons R R (.cons R R (.cons R R (.cons R R .nil))))))))), (mset seen rv true), (W (x + 1)), h, R⟩
  intro c2
  replace h := ifF c2 h
  refine r_notF R R R (q_asgD R (eN (sw_condT R (qG (q_movD R (q_asgD R (q_asgD R (eN (sw_ret (block_ret (then_ret (block_ret (then_ret (then_ret (block_ret (then_ret ?_))))))))))))))))
  obtain rfl := sI h
  exact fin_0 (t := .d (.tup [vI x, vI 6])) R R R (.cons (.tmp 6) (.cons (.tmp 7) .nil))
 intro c
 replace h := ifN (Int.not_lt.2 c) h
 refine eN (sw_seq (sw_condF R (sw_exit (then_exit (then_exit ?_)))))
 subst hK3
 refine block_exit (then_norm (qG (q_asgD R (q_asgD R (eN (sw_ret ?_))))))
 obtain rfl := sI h
 exact fin_0 (t := .d (.tup [vI 0, vI 0])) R R R (.cons (.tmp 6) (.cons (.tmp 7) .nil))
def pad_named_string_L1 (F : Nat) (lv : (List ByteArray)) (name : (ByteArray → Option ByteArray)) (rest : (ByteArray → Option Int)) (K : (List (ByteArray × Bool)) → Int → Option (Int × Int)) : Nat → (List (ByteArray × Bool)) → Int → Option (Int × Int)
 | 0, _, _ => none
 | n + 1, seen, x => if x < (lv.length : Int) then (Option.bind (ixO lv x) fun e => Option.bind (name e) fun rv => Option.bind (wind_Name F rv) fun rv2 => if rv2 = true then (if ((mget seen rv).getD false) = true then (some (x, 5)) else (Option.bind (rest e) fun rv3 => if rv3 = 0 then (pad_named_string_L1 F lv name rest K n (mset seen rv true) (W (x + 1))) else (some (x, rv3)))) else (some (x, 6))) else (K seen x)
def pad_named_string (F : Nat) (lv : (List ByteArray)) (name : (ByteArray → Option ByteArray)) (rest : (ByteArray → Option Int)) : Option (Int × Int) := pad_named_string_L1 F lv name rest (fun (seen : (List (ByteArray × Bool))) (x : Int) => some (0, 0)) F ([] : List (ByteArray × Bool)) 0
theorem pad_named_string_scr {F : Nat} {lv : (List ByteArray)} {name : (ByteArray → Option ByteArray)} {rest : (ByteArray → Option Int)} {r : (Int × Int)} {namei : Nat} {namec : List D} (nameh : ∀ {a0 : ByteArray} {r : ByteArray}, name a0 = some r → PC Tryz.prog namei ([.v (.string a0)] ++ namec) (.v (.string r))) (namee : Ent Tryz.prog namei) {resti : Nat} {restc : List D} (resth : ∀ {a0 : ByteArray} {r : Int}, rest a0 = some r → PC Tryz.prog resti ([.v (.string a0)] ++ restc) (.v (.int .i64 r))) (reste : Ent Tryz.prog resti) (h : pad_named_string F lv name rest = some r) : SCR Tryz.prog 67 [.d (.arr 1 ((lv).map vS)), .fn (.func namei) [] (namec.map .d), .fn (.func resti) [] (restc.map .d)] [] (.d (.tup [.v (.int .i64 r.1), .v (.int .i64 r.2)])) (List.map some []) := by
 rw [pad_named_string] at h
 refine SC.of_sw Tryz.func67 R R R ?_
 dsimp only [argS, List.map]
 refine qG (q_asgD R (q_asgD R (eN (qG (r_makeMap R R R (r_asgT (.mp 0) R R R (eN (sw_seq (qG (q_movD R (q_lenM tb R (q_movD R (eN (sw_block ?_))))))))))))))
 obtain ⟨K3, hK3, h⟩ : ∃ K, K = _ ∧ pad_named_string_L1 F lv name rest K F ([] : List (ByteArray × Bool)) 0 = some r := ⟨_, rfl, h⟩
 refine sw_loopS (fun m st => ∃ (seen : (List (ByteArray × Bool))) (x : Int), pad_named_string_L1 F lv name rest K3 m seen x = some r ∧ st = ⟨[(1, .fn (.func namei) [] (namec.map .d)), (2, .fn (.func resti) [] (restc.map .d)), (6, .d (vI 0)), (7, .d (vI 0)), (8, .mp 0), (14, .d (.arr 1 ((lv).map vS))), (15, .d (vI (lv.length : Int))), (16, .d (vI x))], [some (m1w seen)]⟩) (.prn [1, 2, 6, 7, 8, 14, 15, 16] R) ⟨([] : List (ByteArray × Bool)), 0, h, R⟩ ?_
 clear h
 rintro m3 st ⟨seen, x, h, rfl⟩
 cases m3 with
 | zero => cases (show (none : Option (Int × Int)) = some r from h)
 | succ m3 =>
 rw [pad_named_string_L1] at h
 refine qG ?_
 refine r_lss R R R R ?_ ?_
 ·intro c
  replace h := ifP c h
  refine eN (sw_seq (sw_condT R (sw_skip (then_norm (sw_seq (sw_block (qG (q_movD R ?_))))))))
  obtain ⟨e, ie, h⟩ := bnd h
  refine q_ixE tb (ix0 ie) (ix1m ie) R (q_ldE (y := .v (.string e)) tb (ix2 (g := vS) ie) R (q_asgD R (q_asgD R (eN (qG (r_movF R R R (q_movD R ?_)))))))
  obtain ⟨rv, hrv, h⟩ := bnd h
  refine r_callH (vs := [.v (.string e)]) (nameh hrv) namee R R R R (q_asgD R (eN (sw_seq (sw_block (qG (q_movD R ?_))))))
  obtain ⟨rv2, hrv2, h⟩ := bnd h
  refine r_callB (wind_Name_pc hrv2) (.of (by kernel_rfl)) R R R R ?_ ?_
  ·intro c2
   replace h := ifP c2 h
   refine r_notT R R R (q_asgD R (eN (sw_condF R (qG (r_movT (.mp 0) R R R (q_movD R ?_))))))
   refine r_lkS (vf := fun b => .v (.bool b)) (z0 := false) (u := .v (.bool ((mget seen rv).getD false))) tb R R R R R R R R R R ?_
   with_reducible apply ev_lit
   ·intro c3
    replace h := ifP c3 h
    refine q_asgD R (eN (sw_condT R (qG (q_movD R (q_asgD R (q_asgD R (eN (sw_ret (block_ret (then_ret (block_ret (then_ret (then_ret (block_ret (then_ret ?_)))))))))))))))
    obtain rfl := sI h
    exact fin_0 (t := .d (.tup [vI x, vI 5])) R R R (.cons (.tmp 6) (.cons (.tmp 7) .nil))
   intro c3
   replace h := ifF c3 h
   refine q_asgD R (eN (sw_condF R (sw_skip (block_norm (then_norm (sw_seq (qG (r_movF R R R (q_movD R ?_)))))))))
   obtain ⟨rv3, hrv3, h⟩ := bnd h
   refine r_callH (vs := [.v (.string e)]) (resth hrv3) reste R R R R (q_asgD R (eN (qG (q_movD R ?_))))
   refine r_neq R R R R ?_ ?_
   ·intro c4
    replace h := ifN c4 h
    refine eN (sw_condT R (qG (q_movD R (q_movD R (q_asgD R (q_asgD R (eN (sw_ret (then_ret (block_ret (then_ret (then_ret (block_ret (then_ret ?_))))))))))))))
    obtain rfl := sI h
    exact fin_0 (t := .d (.tup [vI x, vI rv3])) R R R (.cons (.tmp 6) (.cons (.tmp 7) .nil))
   intro c4
   replace h := ifP c4 h
   refine eN (sw_condF R (sw_skip (then_norm (sw_rg (r_movT (.mp 0) R R R (q_movD R ?_))))))
   refine r_msetS (vf := fun b => .v (.bool b)) (v := true) (q := (mset seen rv true)) ([some (m1w (mset seen rv true))]) R R R R R R R R R ?_
   refine ev_end (block_norm (then_norm (sw_rg (q_add R (q_movD R (eN ?_))))))
   exact ⟨m3, _, Nat.lt_succ_self _, .prn [1, 2, 6, 7, 8, 14, 15, 16] R, (mset seen rv true), (W (x + 1)), h, R⟩
  intro c2
  replace h := ifF c2 h
  refine r_notF R R R (q_asgD R (eN (sw_condT R (qG (q_movD R (q_asgD R (q_asgD R (eN (sw_ret (block_ret (then_ret (block_ret (then_ret (then_ret (block_ret (then_ret ?_))))))))))))))))
  obtain rfl := sI h
  exact fin_0 (t := .d (.tup [vI x, vI 6])) R R R (.cons (.tmp 6) (.cons (.tmp 7) .nil))
 intro c
 replace h := ifN (Int.not_lt.2 c) h
 refine eN (sw_seq (sw_condF R (sw_exit (then_exit (then_exit ?_)))))
 subst hK3
 refine block_exit (then_norm (qG (q_asgD R (q_asgD R (eN (sw_ret ?_))))))
 obtain rfl := sI h
 exact fin_0 (t := .d (.tup [vI 0, vI 0])) R R R (.cons (.tmp 6) (.cons (.tmp 7) .nil))
def pad_named_PdSquib_L1 (F : Nat) (lv : (List PdSquib)) (name : (PdSquib → Option ByteArray)) (rest : (PdSquib → Option Int)) (K : (List (ByteArray × Bool)) → Int → Option (Int × Int)) : Nat → (List (ByteArray × Bool)) → Int → Option (Int × Int)
 | 0, _, _ => none
 | n + 1, seen, x => if x < (lv.length : Int) then (Option.bind (ixO lv x) fun e => Option.bind (name e) fun rv => Option.bind (wind_Name F rv) fun rv2 => if rv2 = true then (if ((mget seen rv).getD false) = true then (some (x, 5)) else (Option.bind (rest e) fun rv3 => if rv3 = 0 then (pad_named_PdSquib_L1 F lv name rest K n (mset seen rv true) (W (x + 1))) else (some (x, rv3)))) else (some (x, 6))) else (K seen x)
def pad_named_PdSquib (F : Nat) (lv : (List PdSquib)) (name : (PdSquib → Option ByteArray)) (rest : (PdSquib → Option Int)) : Option (Int × Int) := pad_named_PdSquib_L1 F lv name rest (fun (seen : (List (ByteArray × Bool))) (x : Int) => some (0, 0)) F ([] : List (ByteArray × Bool)) 0
theorem pad_named_PdSquib_scr {F : Nat} {lv : (List PdSquib)} {name : (PdSquib → Option ByteArray)} {rest : (PdSquib → Option Int)} {r : (Int × Int)} {namei : Nat} {namec : List D} (nameh : ∀ {a0 : PdSquib} {r : ByteArray}, name a0 = some r → PC Tryz.prog namei ([PdSquib.d a0] ++ namec) (.v (.string r))) (namee : Ent Tryz.prog namei) {resti : Nat} {restc : List D} (resth : ∀ {a0 : PdSquib} {r : Int}, rest a0 = some r → PC Tryz.prog resti ([PdSquib.d a0] ++ restc) (.v (.int .i64 r))) (reste : Ent Tryz.prog resti) (h : pad_named_PdSquib F lv name rest = some r) : SCR Tryz.prog 70 [.d (.arr 6 ((lv).map PdSquib.d)), .fn (.func namei) [] (namec.map .d), .fn (.func resti) [] (restc.map .d)] [] (.d (.tup [.v (.int .i64 r.1), .v (.int .i64 r.2)])) (List.map some []) := by
 rw [pad_named_PdSquib] at h
 refine SC.of_sw Tryz.func70 R R R ?_
 dsimp only [argS, List.map]
 refine qG (q_asgD R (q_asgD R (eN (qG (r_makeMap R R R (r_asgT (.mp 0) R R R (eN (sw_seq (qG (q_movD R (q_lenM tb R (q_movD R (eN (sw_block ?_))))))))))))))
 obtain ⟨K3, hK3, h⟩ : ∃ K, K = _ ∧ pad_named_PdSquib_L1 F lv name rest K F ([] : List (ByteArray × Bool)) 0 = some r := ⟨_, rfl, h⟩
 refine sw_loopS (fun m st => ∃ (seen : (List (ByteArray × Bool))) (x : Int), pad_named_PdSquib_L1 F lv name rest K3 m seen x = some r ∧ st = ⟨[(1, .fn (.func namei) [] (namec.map .d)), (2, .fn (.func resti) [] (restc.map .d)), (6, .d (vI 0)), (7, .d (vI 0)), (8, .mp 0), (14, .d (.arr 6 ((lv).map PdSquib.d))), (15, .d (vI (lv.length : Int))), (16, .d (vI x))], [some (m1w seen)]⟩) (.prn [1, 2, 6, 7, 8, 14, 15, 16] R) ⟨([] : List (ByteArray × Bool)), 0, h, R⟩ ?_
 clear h
 rintro m3 st ⟨seen, x, h, rfl⟩
 cases m3 with
 | zero => cases (show (none : Option (Int × Int)) = some r from h)
 | succ m3 =>
 rw [pad_named_PdSquib_L1] at h
 refine qG ?_
 refine r_lss R R R R ?_ ?_
 ·intro c
  replace h := ifP c h
  refine eN (sw_seq (sw_condT R (sw_skip (then_norm (sw_seq (sw_block (qG (q_movD R ?_))))))))
  obtain ⟨e, ie, h⟩ := bnd h
  refine q_ixE tb (ix0 ie) (ix1m ie) R (q_ldE (y := PdSquib.d e) tb (ix2 (g := PdSquib.d) ie) R (r_alloc tb R R R R R (q_asgD R (q_stE _ _ tb R (eN (qG (r_movF R R R (q_ldD (y := PdSquib.d e) tb R ?_))))))))
  obtain ⟨rv, hrv, h⟩ := bnd h
  refine r_callH (vs := [PdSquib.d e]) (nameh hrv) namee R R R R (q_asgD R (eN (sw_seq (sw_block (qG (q_movD R ?_))))))
  obtain ⟨rv2, hrv2, h⟩ := bnd h
  refine r_callB (wind_Name_pc hrv2) (.of (by kernel_rfl)) R R R R ?_ ?_
  ·intro c2
   replace h := ifP c2 h
   refine r_notT R R R (q_asgD R (eN (sw_condF R (qG (r_movT (.mp 0) R R R (q_movD R ?_))))))
   refine r_lkS (vf := fun b => .v (.bool b)) (z0 := false) (u := .v (.bool ((mget seen rv).getD false))) tb R R R R R R R R R R ?_
   with_reducible apply ev_lit
   ·intro c3
    replace h := ifP c3 h
    refine q_asgD R (eN (sw_condT R (qG (q_movD R (q_asgD R (q_asgD R (eN (sw_ret (block_ret (then_ret (block_ret (then_ret (then_ret (block_ret (then_ret ?_)))))))))))))))
    obtain rfl := sI h
    exact fin_0 (t := .d (.tup [vI x, vI 5])) R R R (.cons (.tmp 6) (.cons (.tmp 7) .nil))
   intro c3
   replace h := ifF c3 h
   refine q_asgD R (eN (sw_condF R (sw_skip (block_norm (then_norm (sw_seq (qG (r_movF R R R (q_ldD (y := PdSquib.d e) tb R ?_)))))))))
   obtain ⟨rv3, hrv3, h⟩ := bnd h
   refine r_callH (vs := [PdSquib.d e]) (resth hrv3) reste R R R R (q_asgD R (eN (qG (q_movD R ?_))))
   refine r_neq R R R R ?_ ?_
   ·intro c4
    replace h := ifN c4 h
    refine eN (sw_condT R (qG (q_movD R (q_movD R (q_asgD R (q_asgD R (eN (sw_ret (then_ret (block_ret (then_ret (then_ret (block_ret (then_ret ?_))))))))))))))
    obtain rfl := sI h
    exact fin_0 (t := .d (.tup [vI x, vI rv3])) R R R (.cons (.tmp 6) (.cons (.tmp 7) .nil))
   intro c4
   replace h := ifP c4 h
   refine eN (sw_condF R (sw_skip (then_norm (sw_rg (r_movT (.mp 0) R R R (q_movD R ?_))))))
   refine r_msetS (vf := fun b => .v (.bool b)) (v := true) (q := (mset seen rv true)) ([some (m1w (mset seen rv true)), some ⟨6, [.d (PdSquib.d e)]⟩]) R R R R R R R R R ?_
   refine ev_end (block_norm (then_norm (sw_rg (q_add R (q_movD R (eN ?_))))))
   exact ⟨m3, ⟨[(1, .fn (.func namei) [] (namec.map .d)), (2, .fn (.func resti) [] (restc.map .d)), (6, .d (vI 0)), (7, .d (vI 0)), (8, .mp 0), (14, .d (.arr 6 ((lv).map PdSquib.d))), (15, .d (vI (lv.length : Int))), (16, .d (vI (W (x + 1))))], [some (m1w (mset seen rv true))]⟩, Nat.lt_succ_self _, .vw (κ := [0]) (vwK R R (.map R .nil) (.hof R (.hof R (.cons R R (.cons R R (.cons R R (.cons R R (.cons R R (.cons R R .nil))))))))), (mset seen rv true), (W (x + 1)), h, R⟩
  intro c2
  replace h := ifF c2 h
  refine r_notF R R R (q_asgD R (eN (sw_condT R (qG (q_movD R (q_asgD R (q_asgD R (eN (sw_ret (block_ret (then_ret (block_ret (then_ret (then_ret (block_ret (then_ret ?_))))))))))))))))
  obtain rfl := sI h
  exact fin_0 (t := .d (.tup [vI x, vI 6])) R R R (.cons (.tmp 6) (.cons (.tmp 7) .nil))
 intro c
 replace h := ifN (Int.not_lt.2 c) h
 refine eN (sw_seq (sw_condF R (sw_exit (then_exit (then_exit ?_)))))
 subst hK3
 refine block_exit (then_norm (qG (q_asgD R (q_asgD R (eN (sw_ret ?_))))))
 obtain rfl := sI h
 exact fin_0 (t := .d (.tup [vI 0, vI 0])) R R R (.cons (.tmp 6) (.cons (.tmp 7) .nil))
def pad_near (F : Nat) (p : PdPad) (zone : Int) : Option (Int × PdPad) := some (zone, p)
theorem pad_near_scr {F : Nat} {p : PdPad} {zone : Int} {r : (Int × PdPad)} (h : pad_near F p zone = some r) : SCR Tryz.prog 45 (List.map T.d [PdPad.d p, .v (.int .i64 zone)]) [] (.fn (.func 83) [] [.ref 0 1 0 0, .ref 1 7 0 0]) (List.map some [⟨1, [.d (.v (.int .i64 r.1))]⟩, ⟨7, [.d (PdPad.d r.2)]⟩]) := by
 rw [pad_near] at h
 refine SC.of_sw Tryz.func45 R R R ?_
 dsimp only [argS, List.map]
 refine qG (q_box R (q_box R (q_asgD R (eN (qG (r_func R R R R (r_asgF R R R (eN (sw_ret ?_)))))))))
 obtain rfl := sI h
 exact f2 [1, 0] (.cons R R (.cons R R .nil)) R (.cons (.tmp 4) .nil) R
def pad_Check_J1 (F : Nat) (x : Int) : Option (Int × Int × Int) := some (3, x, 4)
def pad_Check_J2 (F : Nat) (t : PdPad) : Option (Int × Int × Int) := Option.bind (pad_out F t.wait 0 6000) fun rv10 => if rv10 = true then (some (7, 0, 7)) else (some (0, 0, 0))
def pad_Check_L1 (F : Nat) (rv9 : (Int × PdPad)) (e2 : PdZone) (K : Int → Option (Int × Int × Int)) : Nat → Int → Option (Int × Int × Int)
 | 0, _ => none
 | n + 1, x2 => if x2 < (rv9.2.squibs.length : Int) then (Option.bind (ixO rv9.2.squibs x2) fun e3 => if (W ((W ((max (max (W (e2.area_X_Lo - e3.at_X)) (W (e3.at_X - e2.area_X_Hi))) 0) * (max (max (W (e2.area_X_Lo - e3.at_X)) (W (e3.at_X - e2.area_X_Hi))) 0))) + (W ((max (max (W (e2.area_Y_Lo - e3.at_Y)) (W (e3.at_Y - e2.area_Y_Hi))) 0) * (max (max (W (e2.area_Y_Lo - e3.at_Y)) (W (e3.at_Y - e2.area_Y_Hi))) 0))))) < (W (e3.clear * e3.clear)) then (some (7, 0, 2)) else (pad_Check_L1 F rv9 e2 K n (W (x2 + 1)))) else (K x2)
def pad_Check_L2 (F : Nat) (t : PdPad) (K : Int → Option (Int × Int × Int)) : Nat → Int → Option (Int × Int × Int)
 | 0, _ => none
 | n + 1, x => if x < (t.doors.length : Int) then (Option.bind (ixO t.doors x) fun e => Option.bind (pad_out F e.a (-1) (W ((t.zones.length : Int) - 1))) fun rv3 => if rv3 = true then (pad_Check_J1 F x) else (Option.bind (pad_out F e.b (-1) (W ((t.zones.length : Int) - 1))) fun rv4 => if rv4 = true then (pad_Check_J1 F x) else (if e.a = e.b then (some (3, x, 2)) else (pad_Check_L2 F t K n (W (x + 1)))))) else (K x)
def pad_Check_J3 (F : Nat) (t : PdPad) : Option (Int × Int × Int) := Option.bind (pad_named_PdZone F t.zones (fun a0 => pad_Check_1 F a0) (fun a0 => pad_zone F a0)) fun rv2 => if rv2.2 = 0 then (pad_Check_L2 F t (fun (x : Int) => Option.bind (pad_named_PdPerson F t.people (fun a0 => pad_Check_2 F a0) (fun a0 => pad_Check_3 F a0)) fun rv5 => if rv5.2 = 0 then (Option.bind (pad_named_string F t.keys (fun a0 => pad_Check_4 F a0) (fun a0 => pad_Check_5 F a0)) fun rv6 => if rv6.2 = 0 then (Option.bind (pad_named_PdSquib F t.squibs (fun a0 => pad_Check_6 F a0) (fun a0 => pad_Check_7 F a0 t)) fun rv7 => if rv7.2 = 0 then (Option.bind (pad_out F t.panel 0 (W ((t.zones.length : Int) - 1))) fun rv8 => if rv8 = true then (some (7, 0, 4)) else (Option.bind (pad_near F t t.panel) fun rv9 => if rv9.1 < 0 then (pad_Check_J2 F t) else (Option.bind (ixO rv9.2.zones rv9.1) fun e2 => pad_Check_L1 F rv9 e2 (fun (x2 : Int) => pad_Check_J2 F t) F 0))) else (some (6, rv7.1, rv7.2))) else (some (5, rv6.1, rv6.2))) else (some (4, rv5.1, rv5.2))) F 0) else (some (2, rv2.1, rv2.2))
def pad_Check_J4 (F : Nat)  : Option (Int × Int × Int) := some (1, 0, 3)
def pad_Check (F : Nat) (t : PdPad) : Option (Int × Int × Int) := Option.bind (pad_out F (W ((t.zones.length : Int) - 1)) 0 7) fun rv => if rv = true then (pad_Check_J4 F) else (if 24 < (t.doors.length : Int) then (pad_Check_J4 F) else (if 8 < (t.people.length : Int) then (pad_Check_J4 F) else (if 8 < (t.keys.length : Int) then (pad_Check_J4 F) else (if 6 < (t.squibs.length : Int) then (pad_Check_J4 F) else (pad_Check_J3 F t)))))
theorem pad_Check_pc {F : Nat} {t : PdPad} {r : (Int × Int × Int)} (h : pad_Check F t = some r) : PC Tryz.prog 39 [PdPad.d t] (.tup [.v (.int .i64 r.1), .v (.int .i64 r.2.1), .v (.int .i64 r.2.2)]) := by
 rw [pad_Check] at h
 refine SC.of_swm Tryz.func39 R R R ?_
 dsimp only [argS, List.map]
 refine swm_seq ?_
 refine swm_of fun df => ?_
 refine sw_rg (q_box R (r_alloc tb R R R R R (r_alloc tb R R R R R (r_alloc tb R R R R R (eN (swm_seq ?_))))))
 refine swm_of fun df => ?_
 refine sw_rg (q_fa tb R (q_ldD (y := .arr 8 ((t.zones).map PdZone.d)) tb R (q_lenM tb R (r_sub R R R R (q_asgD R (eN (swm_seq ?_)))))))
 refine swm_join (fun zz : Unit => pad_Check_J3 F t = some r) (fun zz : Unit => ⟨[(1, .ref 0 7 0 0), (2, .ref 1 1 0 0), (3, .ref 2 1 0 0), (4, .ref 3 1 0 0), (5, .d (vI (W ((t.zones.length : Int) - 1))))], [some ⟨7, [.d (PdPad.d t)]⟩, some ⟨1, [.d (vI 0)]⟩, some ⟨1, [.d (vI 0)]⟩, some ⟨1, [.d (vI 0)]⟩]⟩) ?_ ?_
 ·clear h
  rintro ⟨⟩ h
  rw [pad_Check_J3] at h
  refine swm_seq ?_
  refine swm_of fun df => ?_
  refine qG (q_fa tb R (q_ldD (y := .arr 8 ((t.zones).map PdZone.d)) tb R ?_))
  obtain ⟨rv2, hrv2, h⟩ := bnd h
  refine r_callX (t' := .d (.tup [vI rv2.1, vI rv2.2])) (news' := []) (pad_named_PdZone_scr (name := (fun a0 => pad_Check_1 F a0)) (namec := []) (nameh := fun hr => pad_Check_1_pc hr) (namee := .of (by kernel_rfl)) (rest := (fun a0 => pad_zone F a0)) (restc := []) (resth := fun hr => pad_zone_pc hr) (reste := .of (by kernel_rfl)) hrv2) R .nil (.of (by kernel_rfl)) R R ((.cons (.d (.d _)) (.cons .fnc (.cons .fnc .nil)))) R .nil R R R ?_
  simp only [List.map_nil, List.append_nil]
  refine q_movD R (r_extD (t := vI rv2.1) R R R R (r_extD (t := vI rv2.2) R R R R (q_stE _ _ tb R (q_stE _ _ tb R (eN (qG (q_ldD (y := vI rv2.2) tb R ?_)))))))
  refine r_neq R R R R ?_ ?_
  ·intro c6
   replace h := ifN c6 h
   refine eN (sw_condT R (sw_seq (sw_dr (by kernel_rfl) (q_ldD (y := vI rv2.1) tb R (q_ldD (y := vI rv2.2) tb R (q_stE _ _ tb R (q_stE _ _ tb R (q_stE _ _ tb R (ev_endD (by kernel_rfl) (then_norm (sw_ret (then_ret ?_))))))))))))
   obtain rfl := sI h
   exact fin_0 (t := .d (.tup [vI 2, vI rv2.1, vI rv2.2])) R R R (.cons (rc tb R) (.cons (rc tb R) (.cons (rc tb R) .nil)))
  intro c6
  replace h := ifP c6 h
  refine eN (sw_condF R (sw_skip (then_norm (swm_seq ?_))))
  refine swm_of fun df => ?_
  refine qG (q_fa tb R (q_ldD (y := .arr 2 ((t.doors).map PdDoor.d)) tb R (q_lenM tb R (q_movD R (eN (sw_block ?_))))))
  obtain ⟨K3, hK3, h⟩ : ∃ K, K = _ ∧ pad_Check_L2 F t K F 0 = some r := ⟨_, rfl, h⟩
  refine sw_loopS (fun m st => ∃ (x : Int), pad_Check_L2 F t K3 m x = some r ∧ st = ⟨[(1, .ref 0 7 0 0), (2, .ref 1 1 0 0), (3, .ref 2 1 0 0), (4, .ref 3 1 0 0), (5, .d (vI (W ((t.zones.length : Int) - 1)))), (49, .d (.arr 2 ((t.doors).map PdDoor.d))), (50, .d (vI (t.doors.length : Int))), (51, .d (vI x))], [some ⟨7, [.d (PdPad.d t)]⟩, some ⟨1, [.d (vI 0)]⟩, some ⟨1, [.d (vI rv2.1)]⟩, some ⟨1, [.d (vI rv2.2)]⟩]⟩) (.prn [1, 2, 3, 4, 5, 49, 50, 51] R) ⟨0, h, R⟩ ?_
  clear h
  rintro m3 st ⟨x, h, rfl⟩
  cases m3 with
  | zero => cases (show (none : Option (Int × Int × Int)) = some r from h)
  | succ m3 =>
  rw [pad_Check_L2] at h
  refine qG ?_
  refine r_lss R R R R ?_ ?_
  ·intro c7
   replace h := ifP c7 h
   refine eN (sw_seq (sw_condT R (sw_skip (then_norm (sw_seq (sw_block (qG (q_movD R ?_))))))))
   obtain ⟨e, ie, h⟩ := bnd h
   refine q_ixE tb (ix0 ie) (ix1m ie) R (q_ldE (y := PdDoor.d e) tb (ix2 (g := PdDoor.d) ie) R (r_alloc tb R R R R R (q_asgD R (q_stE _ _ tb R (eN (sw_block (sw_seq ?_)))))))
   refine sw_join (fun zz : Unit => pad_Check_J1 F x = some r) (fun zz : Unit => ⟨[(1, .ref 0 7 0 0), (2, .ref 1 1 0 0), (3, .ref 2 1 0 0), (4, .ref 3 1 0 0), (5, .d (vI (W ((t.zones.length : Int) - 1)))), (6, .d (vI x)), (7, .ref 4 2 0 0), (49, .d (.arr 2 ((t.doors).map PdDoor.d))), (50, .d (vI (t.doors.length : Int))), (51, .d (vI x)), (56, .d (.v (.bool true)))], [some ⟨7, [.d (PdPad.d t)]⟩, some ⟨1, [.d (vI 0)]⟩, some ⟨1, [.d (vI rv2.1)]⟩, some ⟨1, [.d (vI rv2.2)]⟩, some ⟨2, [.d (PdDoor.d e)]⟩]⟩) ?_ ?_
   ·clear h
    rintro ⟨⟩ h
    rw [pad_Check_J1] at h
    refine sw_condT R (qG (q_movD R (q_stE _ _ tb R (q_stE _ _ tb R (q_stE _ _ tb R (eN (sw_ret (block_ret (block_ret (then_ret (then_ret (block_ret (then_ret ?_)))))))))))))
    obtain rfl := sI h
    exact fin_0 (t := .d (.tup [vI 3, vI x, vI 4])) R R R (.cons (rc tb R) (.cons (rc tb R) (.cons (rc tb R) .nil)))
   refine sw_rg (q_fa tb R (q_ldD (y := vI e.a) tb R (q_movD R ?_)))
   obtain ⟨rv3, hrv3, h⟩ := bnd h
   refine r_callB (pad_out_pc hrv3) (.of (by kernel_rfl)) R R R R ?_ ?_
   ·intro c8
    replace h := ifP c8 h
    refine q_movD R (q_sk 4 R (q_pickT R (q_asgD R (eN ?_))))
    exact .inl ⟨(), h, .prn [1, 2, 3, 4, 5, 6, 7, 49, 50, 51, 56] R⟩
   intro c8
   replace h := ifF c8 h
   refine q_movD R (q_fa tb R (q_ldD (y := vI e.b) tb R (q_movD R ?_)))
   obtain ⟨rv4, hrv4, h⟩ := bnd h
   refine r_callB (pad_out_pc hrv4) (.of (by kernel_rfl)) R R R R ?_ ?_
   ·intro c9
    replace h := ifP c9 h
    refine q_pickF R (q_asgD R (eN ?_))
    exact .inl ⟨(), h, .prn [1, 2, 3, 4, 5, 6, 7, 49, 50, 51, 56] R⟩
   intro c9
   replace h := ifF c9 h
   refine q_pickF R (q_asgD R (eN (.inr (sw_condF R (qG (q_fa tb R (q_ldD (y := vI e.a) tb R (q_fa tb R (q_ldD (y := vI e.b) tb R ?_)))))))))
   refine r_eql R R R R ?_ ?_
   ·intro c10
    replace h := ifP c10 h
    refine q_asgD R (eN (sw_condT R (qG (q_movD R (q_stE _ _ tb R (q_stE _ _ tb R (q_stE _ _ tb R (eN (sw_ret (block_ret (block_ret (then_ret (then_ret (block_ret (then_ret ?_)))))))))))))))
    obtain rfl := sI h
    exact fin_0 (t := .d (.tup [vI 3, vI x, vI 2])) R R R (.cons (rc tb R) (.cons (rc tb R) (.cons (rc tb R) .nil)))
   intro c10
   replace h := ifN c10 h
   refine q_asgD R (eN (sw_condF R (sw_skip (block_norm (block_norm (then_norm (sw_rg (q_add R (q_movD R (eN ?_))))))))))
   exact ⟨m3, ⟨[(1, .ref 0 7 0 0), (2, .ref 1 1 0 0), (3, .ref 2 1 0 0), (4, .ref 3 1 0 0), (5, .d (vI (W ((t.zones.length : Int) - 1)))), (49, .d (.arr 2 ((t.doors).map PdDoor.d))), (50, .d (vI (t.doors.length : Int))), (51, .d (vI (W (x + 1))))], [some ⟨7, [.d (PdPad.d t)]⟩, some ⟨1, [.d (vI 0)]⟩, some ⟨1, [.d (vI rv2.1)]⟩, some ⟨1, [.d (vI rv2.2)]⟩]⟩, Nat.lt_succ_self _, .vw (κ := [0, 1, 2, 3]) (vK (.cons R R (.cons R R (.cons R R (.cons R R .nil)))) R), (W (x + 1)), h, R⟩
  intro c7
  replace h := ifN (Int.not_lt.2 c7) h
  refine eN (sw_seq (sw_condF R (sw_exit (then_exit (then_exit ?_)))))
  subst hK3
  refine block_exit (then_norm (swm_seq ?_))
  refine swm_of fun df => ?_
  refine sw_rg (q_fa tb R (q_ldD (y := .arr 2 ((t.people).map PdPerson.d)) tb R ?_))
  obtain ⟨rv5, hrv5, h⟩ := bnd h
  refine r_callX (t' := .d (.tup [vI rv5.1, vI rv5.2])) (news' := []) (pad_named_PdPerson_scr (name := (fun a0 => pad_Check_2 F a0)) (namec := []) (nameh := fun hr => pad_Check_2_pc hr) (namee := .of (by kernel_rfl)) (rest := (fun a0 => pad_Check_3 F a0)) (restc := []) (resth := fun hr => pad_Check_3_pc hr) (reste := .of (by kernel_rfl)) hrv5) R .nil (.of (by kernel_rfl)) R R ((.cons (.d (.d _)) (.cons .fnc (.cons .fnc .nil)))) R .nil R R R ?_
  simp only [List.map_nil, List.append_nil]
  refine q_movD R (r_extD (t := vI rv5.1) R R R R (r_extD (t := vI rv5.2) R R R R (q_stE _ _ tb R (q_stE _ _ tb R (eN (swm_seq ?_))))))
  refine swm_of fun df => ?_
  refine qG (q_ldD (y := vI rv5.2) tb R ?_)
  refine r_neq R R R R ?_ ?_
  ·intro c11
   replace h := ifN c11 h
   refine eN (sw_condT R (sw_seq (sw_dr (by kernel_rfl) (q_ldD (y := vI rv5.1) tb R (q_ldD (y := vI rv5.2) tb R (q_stE _ _ tb R (q_stE _ _ tb R (q_stE _ _ tb R (ev_endD (by kernel_rfl) (then_norm (sw_ret (then_ret ?_))))))))))))
   obtain rfl := sI h
   exact fin_0 (t := .d (.tup [vI 4, vI rv5.1, vI rv5.2])) R R R (.cons (rc tb R) (.cons (rc tb R) (.cons (rc tb R) .nil)))
  intro c11
  replace h := ifP c11 h
  refine eN (sw_condF R (sw_skip (then_norm (swm_seq ?_))))
  refine swm_of fun df => ?_
  refine qG (q_fa tb R (q_ldD (y := .arr 1 ((t.keys).map vS)) tb R ?_))
  obtain ⟨rv6, hrv6, h⟩ := bnd h
  refine r_callX (t' := .d (.tup [vI rv6.1, vI rv6.2])) (news' := []) (pad_named_string_scr (name := (fun a0 => pad_Check_4 F a0)) (namec := []) (nameh := fun hr => pad_Check_4_pc hr) (namee := .of (by kernel_rfl)) (rest := (fun a0 => pad_Check_5 F a0)) (restc := []) (resth := fun hr => pad_Check_5_pc hr) (reste := .of (by kernel_rfl)) hrv6) R .nil (.of (by kernel_rfl)) R R ((.cons (.d (.d _)) (.cons .fnc (.cons .fnc .nil)))) R .nil R R R ?_
  simp only [List.map_nil, List.append_nil]
  refine q_movD R (r_extD (t := vI rv6.1) R R R R (r_extD (t := vI rv6.2) R R R R (q_stE _ _ tb R (q_stE _ _ tb R (eN (qG (q_ldD (y := vI rv6.2) tb R ?_)))))))
  refine r_neq R R R R ?_ ?_
  ·intro c12
   replace h := ifN c12 h
   refine eN (sw_condT R (sw_seq (sw_dr (by kernel_rfl) (q_ldD (y := vI rv6.1) tb R (q_ldD (y := vI rv6.2) tb R (q_stE _ _ tb R (q_stE _ _ tb R (q_stE _ _ tb R (ev_endD (by kernel_rfl) (then_norm (sw_ret (then_ret ?_))))))))))))
   obtain rfl := sI h
   exact fin_0 (t := .d (.tup [vI 5, vI rv6.1, vI rv6.2])) R R R (.cons (rc tb R) (.cons (rc tb R) (.cons (rc tb R) .nil)))
  intro c12
  replace h := ifP c12 h
  refine eN (sw_condF R (sw_skip (then_norm (swm_seq ?_))))
  refine swm_of fun df => ?_
  refine qG (q_fa tb R (q_ldD (y := .arr 6 ((t.squibs).map PdSquib.d)) tb R (r_func R R R R ?_)))
  obtain ⟨rv7, hrv7, h⟩ := bnd h
  refine r_callX (t' := .d (.tup [vI rv7.1, vI rv7.2])) (news' := []) (pad_named_PdSquib_scr (name := (fun a0 => pad_Check_6 F a0)) (namec := []) (nameh := fun hr => pad_Check_6_pc hr) (namee := .of (by kernel_rfl)) (rest := (fun a0 => pad_Check_7 F a0 t)) (restc := [.el 7 [PdPad.d t] 0 0]) (resth := fun hr => pad_Check_7_pc hr) (reste := .of (by kernel_rfl)) hrv7) R .nil (.of (by kernel_rfl)) R R ((.cons (.d (.d _)) (.cons .fnc (.cons (.fnC (.cons (.d (.ref R (.d _))) .nil)) .nil)))) R .nil R R R ?_
  simp only [List.map_nil, List.append_nil]
  refine q_movD R (r_extD (t := vI rv7.1) R R R R (r_extD (t := vI rv7.2) R R R R (q_stE _ _ tb R (q_stE _ _ tb R (eN (qG (q_ldD (y := vI rv7.2) tb R ?_)))))))
  refine r_neq R R R R ?_ ?_
  ·intro c13
   replace h := ifN c13 h
   refine eN (sw_condT R (sw_seq (sw_dr (by kernel_rfl) (q_ldD (y := vI rv7.1) tb R (q_ldD (y := vI rv7.2) tb R (q_stE _ _ tb R (q_stE _ _ tb R (q_stE _ _ tb R (ev_endD (by kernel_rfl) (then_norm (sw_ret (then_ret ?_))))))))))))
   obtain rfl := sI h
   exact fin_0 (t := .d (.tup [vI 6, vI rv7.1, vI rv7.2])) R R R (.cons (rc tb R) (.cons (rc tb R) (.cons (rc tb R) .nil)))
  intro c13
  replace h := ifP c13 h
  refine eN (sw_condF R (sw_skip (then_norm (swm_seq ?_))))
  refine swm_of fun df => ?_
  refine qG (q_fa tb R (q_ldD (y := vI t.panel) tb R (q_movD R ?_)))
  obtain ⟨rv8, hrv8, h⟩ := bnd h
  refine r_callB (pad_out_pc hrv8) (.of (by kernel_rfl)) R R R R ?_ ?_
  ·intro c14
   replace h := ifP c14 h
   refine eN (sw_condT R (qG (q_stE _ _ tb R (q_stE _ _ tb R (q_stE _ _ tb R (eN (sw_ret (then_ret ?_))))))))
   obtain rfl := sI h
   exact fin_0 (t := .d (.tup [vI 7, vI 0, vI 4])) R R R (.cons (rc tb R) (.cons (rc tb R) (.cons (rc tb R) .nil)))
  intro c14
  replace h := ifF c14 h
  refine eN (sw_condF R (sw_skip (then_norm (swm_seq ?_))))
  refine swm_join (fun zz : Unit => pad_Check_J2 F t = some r) (fun zz : Unit => ⟨[(1, .ref 0 7 0 0), (2, .ref 1 1 0 0), (3, .ref 2 1 0 0), (4, .ref 3 1 0 0)], [some ⟨7, [.d (PdPad.d t)]⟩, some ⟨1, [.d (vI 0)]⟩, some ⟨1, [.d (vI rv7.1)]⟩, some ⟨1, [.d (vI rv7.2)]⟩]⟩) ?_ ?_
  ·clear h
   rintro ⟨⟩ h
   rw [pad_Check_J2] at h
   refine swm_of fun df => ?_
   refine sw_seq (qG (q_fa tb R (q_ldD (y := vI t.wait) tb R ?_)))
   obtain ⟨rv10, hrv10, h⟩ := bnd h
   refine r_callB (pad_out_pc hrv10) (.of (by kernel_rfl)) R R R R ?_ ?_
   ·intro c18
    replace h := ifP c18 h
    refine eN (sw_condT R (qG (q_stE _ _ tb R (q_stE _ _ tb R (q_stE _ _ tb R (eN (sw_ret (then_ret ?_))))))))
    obtain rfl := sI h
    exact fin_0 (t := .d (.tup [vI 7, vI 0, vI 7])) R R R (.cons (rc tb R) (.cons (rc tb R) (.cons (rc tb R) .nil)))
   intro c18
   replace h := ifF c18 h
   refine eN (sw_condF R (sw_skip (then_norm (qG (q_stE _ _ tb R (q_stE _ _ tb R (q_stE _ _ tb R (eN (sw_ret ?_)))))))))
   obtain rfl := sI h
   exact fin_0 (t := .d (.tup [vI 0, vI 0, vI 0])) R R R (.cons (rc tb R) (.cons (rc tb R) (.cons (rc tb R) .nil)))
  refine swm_seq ?_
  refine swm_of fun df => ?_
  refine sw_rg (q_ldD (y := PdPad.d t) tb R (q_fa tb R (q_ldD (y := vI t.panel) tb R ?_)))
  obtain ⟨rv9, hrv9, h⟩ := bnd h
  refine r_callN (t' := .fn (.func 83) [] [.ref 4 1 0 0, .ref 5 7 0 0]) (news' := [⟨1, [.d (vI rv9.1)]⟩, ⟨7, [.d (PdPad.d rv9.2)]⟩]) (pad_near_scr hrv9) (.of (by kernel_rfl)) R R R ((.cons R (.cons R .nil))) R R R (eN (swm_block ?_))
  refine swm_range (.of (by kernel_rfl)) Tryz.func83 R R R R R R fun lb => ?_
  simp only [argS, Nat.zero_add, Nat.reduceAdd]
  refine swj_seq (swj_seq (swj_rg (rgj_ev (q_ldD (y := vI rv9.1) tb R ?_))))
  refine r_lss R R R R ?_ ?_
  ·intro c15
   replace h := ifP c15 h
   refine ev_endJ (thenj_norm (swj_condT R (swj_ret (thenj_ret ?_))))
   refine ⟨R, [some ⟨7, [.d (PdPad.d t)]⟩, some ⟨1, [.d (vI 0)]⟩, some ⟨1, [.d (vI rv7.1)]⟩, some ⟨1, [.d (vI rv7.2)]⟩, some ⟨1, [.d (vI rv9.1)]⟩, some ⟨7, [.d (PdPad.d rv9.2)]⟩], [0, 1, 2, 3, 4, 5], (vK (.cons R R (.cons R R (.cons R R (.cons R R (.cons R R (.cons R R .nil)))))) R), ?_⟩
   refine block_norm (then_norm ?_)
   exact .inl ⟨(), h, .vw (κ := [0, 1, 2, 3]) (vK (.cons R R (.cons R R (.cons R R (.cons R R .nil)))) R)⟩
  intro c15
  replace h := ifN (Int.not_lt.2 c15) h
  refine ev_endJ (thenj_norm (swj_condF R (swj_skip (thenj_norm (swj_seq (swj_rg (rgj_ev (q_fa tb R (q_ldD (y := .arr 8 ((rv9.2.zones).map PdZone.d)) tb R (q_ldD (y := vI rv9.1) tb R ?_))))))))))
  obtain ⟨e2, ie2, h⟩ := bnd h
  refine q_ixE tb (ix0 ie2) (ix1m ie2) R (q_faE tb R (q_ldE (y := .agg [vI e2.area_X_Lo, vI e2.area_X_Hi, vI e2.area_Y_Lo, vI e2.area_Y_Hi]) tb (ix2 (g := PdZone.d) ie2) R (r_alloc tb R R R R R (q_stE _ _ tb R (ev_endJ (thenj_norm (swj_seq (swj_rg (rgj_ev (q_fa tb R (q_ldD (y := .arr 6 ((rv9.2.squibs).map PdSquib.d)) tb R (q_lenM tb R (q_movD R (ev_endJ (thenj_norm (swj_block ?_))))))))))))))))
  obtain ⟨K7, hK7, h⟩ : ∃ K, K = _ ∧ pad_Check_L1 F rv9 e2 K F 0 = some r := ⟨_, rfl, h⟩
  refine swj_loopS (fun m ph st => ∃ (x2 : Int), pad_Check_L1 F rv9 e2 K7 m x2 = some r ∧ ph = SX.norm ∧ st = ⟨[(0, .d (.v (.func (.yield lb) #[] #[]))), (4, .ref 6 4 0 0), (18, .d (.arr 6 ((rv9.2.squibs).map PdSquib.d))), (19, .d (vI (rv9.2.squibs.length : Int))), (20, .d (vI x2))], [some ⟨7, [.d (PdPad.d t)]⟩, some ⟨1, [.d (vI 0)]⟩, some ⟨1, [.d (vI rv7.1)]⟩, some ⟨1, [.d (vI rv7.2)]⟩, some ⟨1, [.d (vI rv9.1)]⟩, some ⟨7, [.d (PdPad.d rv9.2)]⟩, some ⟨4, [.d (.agg [vI e2.area_X_Lo, vI e2.area_X_Hi, vI e2.area_Y_Lo, vI e2.area_Y_Hi])]⟩]⟩) (.prn [0, 4, 18, 19, 20] R) ⟨0, h, R, R⟩ ?_
  clear h
  rintro m7 ph st ⟨x2, h, rfl, rfl⟩
  cases m7 with
  | zero => cases (show (none : Option (Int × Int × Int)) = some r from h)
  | succ m7 =>
  rw [pad_Check_L1] at h
  refine swj_seq (swj_rg (rgj_ev ?_))
  refine r_lss R R R R ?_ ?_
  ·intro c16
   replace h := ifP c16 h
   refine ev_endJ (thenj_norm (swj_seq (swj_condT R (swj_skip (thenj_norm (swj_seq (swj_block (swj_seq (swj_rg (rgj_ev (q_movD R ?_)))))))))))
   obtain ⟨e3, ie3, h⟩ := bnd h
   refine q_ixE tb (ix0 ie3) (ix1m ie3) R (q_ldE (y := PdSquib.d e3) tb (ix2 (g := PdSquib.d) ie3) R (r_alloc tb R R R R R (q_asgD R (q_stE _ _ tb R (ev_endJ (thenj_norm (swj_seq (swj_of (sw_dr (by kernel_rfl) (q_fa tb R (q_fa tb R (q_ldD (y := vI e2.area_X_Lo) tb R (q_fa tb R (q_fa tb R (q_ldD (y := vI e3.at_X) tb R (r_sub R R R R (q_fa tb R (q_fa tb R (q_ldD (y := vI e3.at_X) tb R (q_fa tb R (q_fa tb R (q_ldD (y := vI e2.area_X_Hi) tb R (r_sub R R R R ?_)))))))))))))))))))))))
   refine r_max3 R R R R R (q_fa tb R (q_fa tb R (q_ldD (y := vI e2.area_Y_Lo) tb R (q_fa tb R (q_fa tb R (q_ldD (y := vI e3.at_Y) tb R (r_sub R R R R (q_fa tb R (q_fa tb R (q_ldD (y := vI e3.at_Y) tb R (q_fa tb R (q_fa tb R (q_ldD (y := vI e2.area_Y_Hi) tb R (r_sub R R R R (r_max3 R R R R R (q_asgD R (q_asgD R (ev_endD (by kernel_rfl) (thenj_norm (swj_seq (swj_rg (rgj_ev (q_movD R (q_movD R (r_mul R R R R (q_movD R (q_movD R ?_)))))))))))))))))))))))))))
   refine r_mul R R R R (q_add R (q_fa tb R (q_ldD (y := vI e3.clear) tb R (q_fa tb R (q_ldD (y := vI e3.clear) tb R (r_mul R R R R ?_))))))
   refine r_lss R R R R ?_ ?_
   ·intro c17
    replace h := ifP c17 h
    refine q_movD R (q_movD R (q_movD R (ev_yieldJ ?_)))
    (with_reducible apply rgj_yield (ys := [vI x2])); (iterate 7 exact rfl)
    dsimp only [parS]
    refine sw_skip ?_
    refine ⟨R, swy_rd ?_⟩
    refine sw_block (qG (q_stE _ _ tb R (q_stE _ _ tb R (q_stE _ _ tb R (eN (sw_ret (block_ret ?_)))))))
    refine ⟨[some ⟨7, [.d (PdPad.d t)]⟩, some ⟨1, [.d (vI 7)]⟩, some ⟨1, [.d (vI 0)]⟩, some ⟨1, [.d (vI 2)]⟩, some ⟨1, [.d (vI rv9.1)]⟩, some ⟨7, [.d (PdPad.d rv9.2)]⟩, some ⟨4, [.d (.agg [vI e2.area_X_Lo, vI e2.area_X_Hi, vI e2.area_Y_Lo, vI e2.area_Y_Hi])]⟩, some ⟨6, [.d (PdSquib.d e3)]⟩], [0, 1, 2, 3, 4, 5, 6, 7], (vK (.cons R R (.cons R R (.cons R R (.cons R R (.cons R R (.cons R R (.cons R R (.cons R R .nil)))))))) R), ?_⟩
    with_reducible apply yk_ret
    refine rgj_ev (r_notF R R R (q_pickT R (ev_endJ (thenj_norm (swj_condT R (swj_ret (blockj_ret (thenj_ret (thenj_ret (blockj_ret ?_))))))))))
    refine ⟨R, [some ⟨7, [.d (PdPad.d t)]⟩, some ⟨1, [.d (vI 7)]⟩, some ⟨1, [.d (vI 0)]⟩, some ⟨1, [.d (vI 2)]⟩, some ⟨1, [.d (vI rv9.1)]⟩, some ⟨7, [.d (PdPad.d rv9.2)]⟩], [0, 1, 2, 3, 4, 5], (vK (.cons R R (.cons R R (.cons R R (.cons R R (.cons R R (.cons R R .nil)))))) R), ?_⟩
    refine block_ret (then_ret ?_)
    obtain rfl := sI h
    exact fin_0 (t := .d (.tup [vI 7, vI 0, vI 2])) R R R (.cons (rc tb R) (.cons (rc tb R) (.cons (rc tb R) .nil)))
   intro c17
   replace h := ifN (Int.not_lt.2 c17) h
   refine q_movD R (q_sk 4 R (q_pickF R (ev_endJ (thenj_norm (swj_condF R (swj_skip (blockj_norm (thenj_norm (swj_rg (rgj_ev (q_add R (q_movD R (ev_endJ (thenj_norm ?_))))))))))))))
   exact ⟨m7, ⟨[(0, .d (.v (.func (.yield lb) #[] #[]))), (4, .ref 6 4 0 0), (18, .d (.arr 6 ((rv9.2.squibs).map PdSquib.d))), (19, .d (vI (rv9.2.squibs.length : Int))), (20, .d (vI (W (x2 + 1))))], [some ⟨7, [.d (PdPad.d t)]⟩, some ⟨1, [.d (vI 0)]⟩, some ⟨1, [.d (vI rv7.1)]⟩, some ⟨1, [.d (vI rv7.2)]⟩, some ⟨1, [.d (vI rv9.1)]⟩, some ⟨7, [.d (PdPad.d rv9.2)]⟩, some ⟨4, [.d (.agg [vI e2.area_X_Lo, vI e2.area_X_Hi, vI e2.area_Y_Lo, vI e2.area_Y_Hi])]⟩]⟩, Nat.lt_succ_self _, .vw (κ := [0, 1, 2, 3, 4, 5, 6]) (vK (.cons R R (.cons R R (.cons R R (.cons R R (.cons R R (.cons R R (.cons R R .nil))))))) R), (W (x2 + 1)), h, R, R⟩
  intro c16
  replace h := ifN (Int.not_lt.2 c16) h
  refine ev_endJ (thenj_norm (swj_seq (swj_condF R (swj_exit (thenj_exit (thenj_exit ?_))))))
  subst hK7
  refine blockj_exit ?_
  refine ⟨R, [some ⟨7, [.d (PdPad.d t)]⟩, some ⟨1, [.d (vI 0)]⟩, some ⟨1, [.d (vI rv7.1)]⟩, some ⟨1, [.d (vI rv7.2)]⟩, some ⟨1, [.d (vI rv9.1)]⟩, some ⟨7, [.d (PdPad.d rv9.2)]⟩], [0, 1, 2, 3, 4, 5], (vK (.cons R R (.cons R R (.cons R R (.cons R R (.cons R R (.cons R R .nil)))))) R), ?_⟩
  refine block_norm (then_norm ?_)
  exact .inl ⟨(), h, .vw (κ := [0, 1, 2, 3]) (vK (.cons R R (.cons R R (.cons R R (.cons R R .nil)))) R)⟩
 refine swm_of fun df => ?_
 refine sw_seq ?_
 refine sw_join (fun zz : Unit => pad_Check_J4 F = some r) (fun zz : Unit => ⟨[(1, .ref 0 7 0 0), (2, .ref 1 1 0 0), (3, .ref 2 1 0 0), (4, .ref 3 1 0 0), (5, .d (vI (W ((t.zones.length : Int) - 1)))), (37, .d (.v (.bool true)))], [some ⟨7, [.d (PdPad.d t)]⟩, some ⟨1, [.d (vI 0)]⟩, some ⟨1, [.d (vI 0)]⟩, some ⟨1, [.d (vI 0)]⟩]⟩) ?_ ?_
 ·clear h
  rintro ⟨⟩ h
  rw [pad_Check_J4] at h
  refine sw_condT R (qG (q_stE _ _ tb R (q_stE _ _ tb R (q_stE _ _ tb R (eN (sw_ret (then_ret ?_)))))))
  obtain rfl := sI h
  exact fin_0 (t := .d (.tup [vI 1, vI 0, vI 3])) R R R (.cons (rc tb R) (.cons (rc tb R) (.cons (rc tb R) .nil)))
 refine sw_rg (q_movD R ?_)
 obtain ⟨rv, hrv, h⟩ := bnd h
 refine r_callB (pad_out_pc hrv) (.of (by kernel_rfl)) R R R R ?_ ?_
 ·intro c
  replace h := ifP c h
  refine q_movD R (q_sk 4 R (q_pickT R (q_movD R (q_sk 4 R (q_pickT R (q_movD R (q_sk 4 R (q_pickT R (q_movD R (q_sk 4 R (q_pickT R (eN ?_))))))))))))
  exact .inl ⟨(), h, .prn [1, 2, 3, 4, 5, 37] R⟩
 intro c
 replace h := ifF c h
 refine q_movD R (q_fa tb R (q_ldD (y := .arr 2 ((t.doors).map PdDoor.d)) tb R (q_lenM tb R ?_)))
 refine r_gtr R R R R ?_ ?_
 ·intro c2
  replace h := ifP c2 h
  refine q_pickF R (q_movD R (q_sk 4 R (q_pickT R (q_movD R (q_sk 4 R (q_pickT R (q_movD R (q_sk 4 R (q_pickT R (eN ?_))))))))))
  exact .inl ⟨(), h, .prn [1, 2, 3, 4, 5, 37] R⟩
 intro c2
 replace h := ifN (Int.not_lt.2 c2) h
 refine q_pickF R (q_movD R (q_fa tb R (q_ldD (y := .arr 2 ((t.people).map PdPerson.d)) tb R (q_lenM tb R ?_))))
 refine r_gtr R R R R ?_ ?_
 ·intro c3
  replace h := ifP c3 h
  refine q_pickF R (q_movD R (q_sk 4 R (q_pickT R (q_movD R (q_sk 4 R (q_pickT R (eN ?_)))))))
  exact .inl ⟨(), h, .prn [1, 2, 3, 4, 5, 37] R⟩
 intro c3
 replace h := ifN (Int.not_lt.2 c3) h
 refine q_pickF R (q_movD R (q_fa tb R (q_ldD (y := .arr 1 ((t.keys).map vS)) tb R (q_lenM tb R ?_))))
 refine r_gtr R R R R ?_ ?_
 ·intro c4
  replace h := ifP c4 h
  refine q_pickF R (q_movD R (q_sk 4 R (q_pickT R (eN ?_))))
  exact .inl ⟨(), h, .prn [1, 2, 3, 4, 5, 37] R⟩
 intro c4
 replace h := ifN (Int.not_lt.2 c4) h
 refine q_pickF R (q_movD R (q_fa tb R (q_ldD (y := .arr 6 ((t.squibs).map PdSquib.d)) tb R (q_lenM tb R ?_))))
 refine r_gtr R R R R ?_ ?_
 ·intro c5
  replace h := ifP c5 h
  refine q_pickF R (eN ?_)
  exact .inl ⟨(), h, .prn [1, 2, 3, 4, 5, 37] R⟩
 intro c5
 replace h := ifN (Int.not_lt.2 c5) h
 refine q_pickF R (eN (.inr (sw_condF R (sw_skip (then_norm ?_)))))
 exact .inl ⟨(), h, .prn [1, 2, 3, 4, 5] R⟩
def pad_act_1 (F : Nat) (nv : Int) (many : Int) : Option Bool := Option.bind (pad_out F nv 0 (W (many - 1))) fun rv => some rv
theorem pad_act_1_pc {F : Nat} {nv : Int} {many : Int} {r : Bool} (h : pad_act_1 F nv many = some r) : PC Tryz.prog 49 [.v (.int .i64 nv), .v (.int .i64 many)] (.v (.bool r)) := by
 rw [pad_act_1] at h
 refine SC.of_sw Tryz.func49 R R R ?_
 dsimp only [argS, List.map]
 refine qG (q_asgD R (eN (qG (q_movD R (q_movD R (r_sub R R R R ?_))))))
 obtain ⟨rv, hrv, h⟩ := bnd h
 refine r_call (pad_out_pc hrv) (.of (by kernel_rfl)) R R R R (q_asgD R (eN (sw_ret ?_)))
 obtain rfl := sI h
 exact f1 4 R
def pad_act_J1 (F : Nat) (t : PdPad) (o : PdAct) : Option Int := Option.bind (pad_act_1 F o.with_ (t.people.length : Int)) fun rv8 => if rv8 = true then (some 4) else (if o.with_ = o.who then (some 2) else (some 0))
def pad_act_J2 (F : Nat) (t : PdPad) (o : PdAct) : Option Int := Option.bind (pad_act_1 F o.what (t.squibs.length : Int)) fun rv6 => if rv6 = true then (some 4) else (pad_act_J1 F t o)
def pad_act_J3 (F : Nat) (t : PdPad) (o : PdAct) : Option Int := Option.bind (pad_act_1 F o.what (t.keys.length : Int)) fun rv5 => if rv5 = true then (some 4) else (pad_act_J1 F t o)
def pad_act_J4 (F : Nat) (t : PdPad) (o : PdAct) : Option Int := Option.bind (pad_act_1 F o.what (t.squibs.length : Int)) fun rv5 => if rv5 = true then (some 4) else (pad_act_J1 F t o)
def pad_act_J5 (F : Nat) (o : PdAct) : Option Int := if o.with_ = (-1) then (some 0) else (some 2)
def pad_act_J6 (F : Nat) (t : PdPad) (o : PdAct) : Option Int := Option.bind (pad_act_1 F o.what (t.squibs.length : Int)) fun rv14 => if rv14 = true then (some 4) else (pad_act_J5 F o)
def pad_act_J7 (F : Nat) (t : PdPad) (o : PdAct) : Option Int := Option.bind (pad_act_1 F o.what (t.keys.length : Int)) fun rv13 => if rv13 = true then (some 4) else (pad_act_J5 F o)
def pad_act_J8 (F : Nat) (t : PdPad) (o : PdAct) : Option Int := Option.bind (pad_act_1 F o.what (t.squibs.length : Int)) fun rv13 => if rv13 = true then (some 4) else (pad_act_J5 F o)
def pad_act_J9 (F : Nat) (t : PdPad) (o : PdAct) : Option Int := Option.bind (pad_out F o.at_ 0 100000) fun rv => if rv = true then (some 7) else (Option.bind (pad_out F o.kind 1 9) fun rv2 => if rv2 = true then (some 2) else (Option.bind (pad_act_1 F o.who (t.people.length : Int)) fun rv3 => if rv3 = true then (some 4) else (if o.kind = 1 then (if o.what = (-1) then (pad_act_J1 F t o) else (Option.bind (pad_act_1 F o.what (t.zones.length : Int)) fun rv4 => if rv4 = true then (some 4) else (pad_act_J1 F t o))) else (if o.kind = 2 then (pad_act_J3 F t o) else (if o.kind = 3 then (pad_act_J3 F t o) else (if o.kind = 4 then (pad_act_J3 F t o) else (if o.kind = 5 then (pad_act_J4 F t o) else (if o.kind = 6 then (pad_act_J4 F t o) else (if o.kind = 7 then (pad_act_J4 F t o) else (Option.bind (pad_out F o.what 0 1) fun rv5 => if rv5 = true then (some 2) else (pad_act_J1 F t o)))))))))))
def pad_act_J10 (F : Nat) (t : PdPad) (o : PdAct) : Option Int := Option.bind (pad_out F o.at_ 0 100000) fun rv9 => if rv9 = true then (some 7) else (Option.bind (pad_out F o.kind 1 9) fun rv10 => if rv10 = true then (some 2) else (Option.bind (pad_act_1 F o.who (t.people.length : Int)) fun rv11 => if rv11 = true then (some 4) else (if o.kind = 1 then (if o.what = (-1) then (pad_act_J5 F o) else (Option.bind (pad_act_1 F o.what (t.zones.length : Int)) fun rv12 => if rv12 = true then (some 4) else (pad_act_J5 F o))) else (if o.kind = 2 then (pad_act_J7 F t o) else (if o.kind = 3 then (pad_act_J7 F t o) else (if o.kind = 4 then (pad_act_J7 F t o) else (if o.kind = 5 then (pad_act_J8 F t o) else (if o.kind = 6 then (pad_act_J8 F t o) else (if o.kind = 7 then (pad_act_J8 F t o) else (Option.bind (pad_out F o.what 0 1) fun rv13 => if rv13 = true then (some 2) else (pad_act_J5 F o)))))))))))
def pad_act (F : Nat) (t : PdPad) (o : PdAct) : Option Int := if o.kind = 4 then (pad_act_J9 F t o) else (if o.kind = 1 then (if o.with_ = (-1) then (pad_act_J10 F t o) else (pad_act_J9 F t o)) else (pad_act_J10 F t o))
theorem pad_act_pc {F : Nat} {t : PdPad} {o : PdAct} {r : Int} (h : pad_act F t o = some r) : PC Tryz.prog 23 [PdPad.d t, PdAct.d o] (.v (.int .i64 r)) := by
 rw [pad_act] at h
 refine SC.of_sw Tryz.func23 R R R ?_
 dsimp only [argS, List.map]
 refine qG (q_box R (q_box R (q_asgD R (eN (qG (q_asgD R (eN (sw_seq ?_))))))))
 refine sw_join (Sum.elim (fun zz : Unit => pad_act_J9 F t o = some r) (fun zz : Unit => pad_act_J10 F t o = some r)) (Sum.elim (fun zz : Unit => ⟨[(2, .ref 0 7 0 0), (3, .ref 1 5 0 0), (4, .d (vI 0)), (5, .d (.v (.func (.func 49) #[] #[]))), (6, .d (.v (.bool true)))], [some ⟨7, [.d (PdPad.d t)]⟩, some ⟨5, [.d (PdAct.d o)]⟩]⟩) (fun zz : Unit => ⟨[(2, .ref 0 7 0 0), (3, .ref 1 5 0 0), (4, .d (vI 0)), (5, .d (.v (.func (.func 49) #[] #[]))), (6, .d (.v (.bool false)))], [some ⟨7, [.d (PdPad.d t)]⟩, some ⟨5, [.d (PdAct.d o)]⟩]⟩)) ?_ ?_
 ·clear h
  rintro (⟨⟩ | ⟨⟩) h
  ·dsimp only [Sum.elim] at h ⊢
   rw [pad_act_J9] at h
   refine sw_seq (sw_block (qG (q_fa tb R (q_ldD (y := vI o.at_) tb R ?_))))
   obtain ⟨rv, hrv, h⟩ := bnd h
   refine r_callB (pad_out_pc hrv) (.of (by kernel_rfl)) R R R R ?_ ?_
   ·intro c4
    replace h := ifP c4 h
    refine q_asgD R (eN (sw_condT R (qG (q_asgD R (eN (sw_ret (block_ret (then_ret ?_))))))))
    obtain rfl := sI h
    exact f1 4 R
   intro c4
   replace h := ifF c4 h
   refine q_asgD R (eN (sw_condF R (qG (q_fa tb R (q_ldD (y := vI o.kind) tb R ?_)))))
   obtain ⟨rv2, hrv2, h⟩ := bnd h
   refine r_callB (pad_out_pc hrv2) (.of (by kernel_rfl)) R R R R ?_ ?_
   ·intro c5
    replace h := ifP c5 h
    refine q_asgD R (eN (sw_condT R (qG (q_asgD R (eN (sw_ret (block_ret (then_ret ?_))))))))
    obtain rfl := sI h
    exact f1 4 R
   intro c5
   replace h := ifF c5 h
   refine q_asgD R (eN (sw_condF R (qG (q_movD R (q_fa tb R (q_ldD (y := vI o.who) tb R (q_fa tb R (q_ldD (y := .arr 2 ((t.people).map PdPerson.d)) tb R (q_lenM tb R ?_)))))))))
   obtain ⟨rv3, hrv3, h⟩ := bnd h
   refine r_callB (pad_act_1_pc hrv3) (.of (by kernel_rfl)) R R R R ?_ ?_
   ·intro c6
    replace h := ifP c6 h
    refine q_asgD R (eN (sw_condT R (qG (q_asgD R (eN (sw_ret (block_ret (then_ret ?_))))))))
    obtain rfl := sI h
    exact f1 4 R
   intro c6
   replace h := ifF c6 h
   refine q_asgD R (eN (sw_condF R (sw_skip (block_norm (then_norm (sw_seq ?_))))))
   refine sw_join (fun zz : Unit => pad_act_J1 F t o = some r) (fun zz : Unit => ⟨[(2, .ref 0 7 0 0), (3, .ref 1 5 0 0), (4, .d (vI 0)), (5, .d (.v (.func (.func 49) #[] #[]))), (6, .d (.v (.bool true)))], [some ⟨7, [.d (PdPad.d t)]⟩, some ⟨5, [.d (PdAct.d o)]⟩]⟩) ?_ ?_
   ·clear h
    rintro ⟨⟩ h
    rw [pad_act_J1] at h
    refine sw_seq (sw_block (qG (q_movD R (r_notT R R R (q_movD R (q_sk 3 R (q_pickF R (q_asgD R (eN (sw_condF R (qG (q_movD R (q_movD R (q_movD R (q_fa tb R (q_ldD (y := vI o.with_) tb R (q_fa tb R (q_ldD (y := .arr 2 ((t.people).map PdPerson.d)) tb R (q_lenM tb R ?_)))))))))))))))))))
    obtain ⟨rv8, hrv8, h⟩ := bnd h
    refine r_callB (pad_act_1_pc hrv8) (.of (by kernel_rfl)) R R R R ?_ ?_
    ·intro c19
     replace h := ifP c19 h
     refine q_pickT R (q_asgD R (eN (sw_condT R (qG (q_asgD R (eN (sw_ret (block_ret (then_ret ?_)))))))))
     obtain rfl := sI h
     exact f1 4 R
    intro c19
    replace h := ifF c19 h
    refine q_pickT R (q_asgD R (eN (sw_condF R (qG (q_movD R (q_movD R (q_fa tb R (q_ldD (y := vI o.with_) tb R (q_fa tb R (q_ldD (y := vI o.who) tb R ?_))))))))))
    refine r_eql R R R R ?_ ?_
    ·intro c20
     replace h := ifP c20 h
     refine q_pickT R (q_asgD R (eN (sw_condT R (qG (q_asgD R (eN (sw_ret (block_ret (then_ret ?_)))))))))
     obtain rfl := sI h
     exact f1 4 R
    intro c20
    replace h := ifN c20 h
    refine q_pickT R (q_asgD R (eN (sw_condF R (sw_skip (block_norm (then_norm (qG (q_asgD R (eN (sw_ret ?_))))))))))
    obtain rfl := sI h
    exact f1 4 R
   refine qG (q_fa tb R (q_ldD (y := vI o.kind) tb R (eN (sw_block (qG ?_)))))
   refine r_eql R R R R ?_ ?_
   ·intro c7
    replace h := ifP c7 h
    refine q_asgD R (eN (sw_condT R (qG (q_fa tb R (q_ldD (y := vI o.what) tb R ?_)))))
    refine r_neq R R R R ?_ ?_
    ·intro c8
     replace h := ifN c8 h
     refine q_movD R (q_movD R (q_fa tb R (q_ldD (y := vI o.what) tb R (q_fa tb R (q_ldD (y := .arr 8 ((t.zones).map PdZone.d)) tb R (q_lenM tb R ?_))))))
     obtain ⟨rv4, hrv4, h⟩ := bnd h
     refine r_callB (pad_act_1_pc hrv4) (.of (by kernel_rfl)) R R R R ?_ ?_
     ·intro c9
      replace h := ifP c9 h
      refine q_pickT R (eN (sw_condT R (qG (q_asgD R (eN (sw_ret (block_ret (then_ret ?_))))))))
      obtain rfl := sI h
      exact f1 4 R
     intro c9
     replace h := ifF c9 h
     refine q_pickT R (eN (sw_condF R (sw_skip (block_norm (then_norm ?_)))))
     exact .inl ⟨(), h, .prn [2, 3, 4, 5, 6] R⟩
    intro c8
    replace h := ifP c8 h
    refine q_movD R (q_sk 7 R (q_pickF R (eN (sw_condF R (sw_skip (block_norm (then_norm ?_)))))))
    exact .inl ⟨(), h, .prn [2, 3, 4, 5, 6] R⟩
   intro c7
   replace h := ifN c7 h
   refine q_asgD R (eN (sw_condF R (sw_seq ?_)))
   refine sw_join (fun zz : Unit => pad_act_J3 F t o = some r) (fun zz : Unit => ⟨[(2, .ref 0 7 0 0), (3, .ref 1 5 0 0), (4, .d (vI 0)), (5, .d (.v (.func (.func 49) #[] #[]))), (6, .d (.v (.bool true))), (37, .d (vI o.kind)), (55, .d (.v (.bool true)))], [some ⟨7, [.d (PdPad.d t)]⟩, some ⟨5, [.d (PdAct.d o)]⟩]⟩) ?_ ?_
   ·clear h
    rintro ⟨⟩ h
    rw [pad_act_J3] at h
    refine sw_condT R (qG (q_movD R (q_fa tb R (q_ldD (y := vI o.what) tb R (q_fa tb R (q_ldD (y := .arr 1 ((t.keys).map vS)) tb R (q_lenM tb R ?_)))))))
    obtain ⟨rv5, hrv5, h⟩ := bnd h
    refine r_callB (pad_act_1_pc hrv5) (.of (by kernel_rfl)) R R R R ?_ ?_
    ·intro c13
     replace h := ifP c13 h
     refine eN (sw_condT R (qG (q_asgD R (eN (sw_ret (block_ret (then_ret ?_)))))))
     obtain rfl := sI h
     exact f1 4 R
    intro c13
    replace h := ifF c13 h
    refine eN (sw_condF R (sw_skip (block_norm (then_norm ?_))))
    exact .inl ⟨(), h, .prn [2, 3, 4, 5, 6] R⟩
   refine qG ?_
   refine r_eql R R R R ?_ ?_
   ·intro c10
    replace h := ifP c10 h
    refine q_asgD R (eN (sw_condT R (sw_skip (then_norm ?_))))
    exact .inl ⟨(), h, .prn [2, 3, 4, 5, 6, 37, 55] R⟩
   intro c10
   replace h := ifN c10 h
   refine q_asgD R (eN (sw_condF R (qG ?_)))
   refine r_eql R R R R ?_ ?_
   ·intro c11
    replace h := ifP c11 h
    refine q_asgD R (eN (sw_condT R (sw_skip (then_norm ?_))))
    exact .inl ⟨(), h, .prn [2, 3, 4, 5, 6, 37, 55] R⟩
   intro c11
   replace h := ifN c11 h
   refine q_asgD R (eN (sw_condF R (sw_rg ?_)))
   refine r_eql R R R R ?_ ?_
   ·intro c12
    replace h := ifP c12 h
    refine q_asgD R (eN ?_)
    exact .inl ⟨(), h, .prn [2, 3, 4, 5, 6, 37, 55] R⟩
   intro c12
   replace h := ifN c12 h
   refine q_asgD R (eN (.inr (sw_condF R (sw_seq ?_))))
   refine sw_join (fun zz : Unit => pad_act_J4 F t o = some r) (fun zz : Unit => ⟨[(2, .ref 0 7 0 0), (3, .ref 1 5 0 0), (4, .d (vI 0)), (5, .d (.v (.func (.func 49) #[] #[]))), (6, .d (.v (.bool true))), (66, .d (.v (.bool true)))], [some ⟨7, [.d (PdPad.d t)]⟩, some ⟨5, [.d (PdAct.d o)]⟩]⟩) ?_ ?_
   ·clear h
    rintro ⟨⟩ h
    rw [pad_act_J4] at h
    refine sw_condT R (qG (q_movD R (q_fa tb R (q_ldD (y := vI o.what) tb R (q_fa tb R (q_ldD (y := .arr 6 ((t.squibs).map PdSquib.d)) tb R (q_lenM tb R ?_)))))))
    obtain ⟨rv5, hrv5, h⟩ := bnd h
    refine r_callB (pad_act_1_pc hrv5) (.of (by kernel_rfl)) R R R R ?_ ?_
    ·intro c16
     replace h := ifP c16 h
     refine eN (sw_condT R (qG (q_asgD R (eN (sw_ret (block_ret (then_ret ?_)))))))
     obtain rfl := sI h
     exact f1 4 R
    intro c16
    replace h := ifF c16 h
    refine eN (sw_condF R (sw_skip (block_norm (then_norm ?_))))
    exact .inl ⟨(), h, .prn [2, 3, 4, 5, 6] R⟩
   refine qG ?_
   refine r_eql R R R R ?_ ?_
   ·intro c13
    replace h := ifP c13 h
    refine q_asgD R (eN (sw_condT R (sw_skip (then_norm ?_))))
    exact .inl ⟨(), h, .prn [2, 3, 4, 5, 6, 66] R⟩
   intro c13
   replace h := ifN c13 h
   refine q_asgD R (eN (sw_condF R (qG ?_)))
   refine r_eql R R R R ?_ ?_
   ·intro c14
    replace h := ifP c14 h
    refine q_asgD R (eN (sw_condT R (sw_skip (then_norm ?_))))
    exact .inl ⟨(), h, .prn [2, 3, 4, 5, 6, 66] R⟩
   intro c14
   replace h := ifN c14 h
   refine q_asgD R (eN (sw_condF R (sw_rg ?_)))
   refine r_eql R R R R ?_ ?_
   ·intro c15
    replace h := ifP c15 h
    refine q_asgD R (eN ?_)
    exact .inl ⟨(), h, .prn [2, 3, 4, 5, 6, 66] R⟩
   intro c15
   replace h := ifN c15 h
   refine q_asgD R (eN (.inr (sw_condF R (qG (q_fa tb R (q_ldD (y := vI o.what) tb R ?_))))))
   obtain ⟨rv5, hrv5, h⟩ := bnd h
   refine r_callB (pad_out_pc hrv5) (.of (by kernel_rfl)) R R R R ?_ ?_
   ·intro c16
    replace h := ifP c16 h
    refine eN (sw_condT R (qG (q_asgD R (eN (sw_ret (block_ret (then_ret ?_)))))))
    obtain rfl := sI h
    exact f1 4 R
   intro c16
   replace h := ifF c16 h
   refine eN (sw_condF R (sw_skip (block_norm (then_norm ?_))))
   exact .inl ⟨(), h, .prn [2, 3, 4, 5, 6] R⟩
  ·dsimp only [Sum.elim] at h ⊢
   rw [pad_act_J10] at h
   refine sw_seq (sw_block (qG (q_fa tb R (q_ldD (y := vI o.at_) tb R ?_))))
   obtain ⟨rv9, hrv9, h⟩ := bnd h
   refine r_callB (pad_out_pc hrv9) (.of (by kernel_rfl)) R R R R ?_ ?_
   ·intro c21
    replace h := ifP c21 h
    refine q_asgD R (eN (sw_condT R (qG (q_asgD R (eN (sw_ret (block_ret (then_ret ?_))))))))
    obtain rfl := sI h
    exact f1 4 R
   intro c21
   replace h := ifF c21 h
   refine q_asgD R (eN (sw_condF R (qG (q_fa tb R (q_ldD (y := vI o.kind) tb R ?_)))))
   obtain ⟨rv10, hrv10, h⟩ := bnd h
   refine r_callB (pad_out_pc hrv10) (.of (by kernel_rfl)) R R R R ?_ ?_
   ·intro c22
    replace h := ifP c22 h
    refine q_asgD R (eN (sw_condT R (qG (q_asgD R (eN (sw_ret (block_ret (then_ret ?_))))))))
    obtain rfl := sI h
    exact f1 4 R
   intro c22
   replace h := ifF c22 h
   refine q_asgD R (eN (sw_condF R (qG (q_movD R (q_fa tb R (q_ldD (y := vI o.who) tb R (q_fa tb R (q_ldD (y := .arr 2 ((t.people).map PdPerson.d)) tb R (q_lenM tb R ?_)))))))))
   obtain ⟨rv11, hrv11, h⟩ := bnd h
   refine r_callB (pad_act_1_pc hrv11) (.of (by kernel_rfl)) R R R R ?_ ?_
   ·intro c23
    replace h := ifP c23 h
    refine q_asgD R (eN (sw_condT R (qG (q_asgD R (eN (sw_ret (block_ret (then_ret ?_))))))))
    obtain rfl := sI h
    exact f1 4 R
   intro c23
   replace h := ifF c23 h
   refine q_asgD R (eN (sw_condF R (sw_skip (block_norm (then_norm (sw_seq ?_))))))
   refine sw_join (fun zz : Unit => pad_act_J5 F o = some r) (fun zz : Unit => ⟨[(2, .ref 0 7 0 0), (3, .ref 1 5 0 0), (4, .d (vI 0)), (5, .d (.v (.func (.func 49) #[] #[]))), (6, .d (.v (.bool false)))], [some ⟨7, [.d (PdPad.d t)]⟩, some ⟨5, [.d (PdAct.d o)]⟩]⟩) ?_ ?_
   ·clear h
    rintro ⟨⟩ h
    rw [pad_act_J5] at h
    refine sw_seq (sw_block (qG (q_movD R (r_notF R R R (q_movD R (q_fa tb R (q_ldD (y := vI o.with_) tb R ?_)))))))
    refine r_neq R R R R ?_ ?_
    ·intro c36
     replace h := ifN c36 h
     refine q_pickT R (q_asgD R (eN (sw_condT R (qG (q_asgD R (eN (sw_ret (block_ret (then_ret ?_)))))))))
     obtain rfl := sI h
     exact f1 4 R
    intro c36
    replace h := ifP c36 h
    refine q_pickT R (q_asgD R (eN (sw_condF R (qG (q_movD R (q_movD R (q_sk 7 R (q_pickF R (q_asgD R (eN (sw_condF R (qG (q_movD R (q_movD R (q_sk 5 R (q_pickF R (q_asgD R (eN (sw_condF R (sw_skip (block_norm (then_norm (qG (q_asgD R (eN (sw_ret ?_))))))))))))))))))))))))))
    obtain rfl := sI h
    exact f1 4 R
   refine qG (q_fa tb R (q_ldD (y := vI o.kind) tb R (eN (sw_block (qG ?_)))))
   refine r_eql R R R R ?_ ?_
   ·intro c24
    replace h := ifP c24 h
    refine q_asgD R (eN (sw_condT R (qG (q_fa tb R (q_ldD (y := vI o.what) tb R ?_)))))
    refine r_neq R R R R ?_ ?_
    ·intro c25
     replace h := ifN c25 h
     refine q_movD R (q_movD R (q_fa tb R (q_ldD (y := vI o.what) tb R (q_fa tb R (q_ldD (y := .arr 8 ((t.zones).map PdZone.d)) tb R (q_lenM tb R ?_))))))
     obtain ⟨rv12, hrv12, h⟩ := bnd h
     refine r_callB (pad_act_1_pc hrv12) (.of (by kernel_rfl)) R R R R ?_ ?_
     ·intro c26
      replace h := ifP c26 h
      refine q_pickT R (eN (sw_condT R (qG (q_asgD R (eN (sw_ret (block_ret (then_ret ?_))))))))
      obtain rfl := sI h
      exact f1 4 R
     intro c26
     replace h := ifF c26 h
     refine q_pickT R (eN (sw_condF R (sw_skip (block_norm (then_norm ?_)))))
     exact .inl ⟨(), h, .prn [2, 3, 4, 5, 6] R⟩
    intro c25
    replace h := ifP c25 h
    refine q_movD R (q_sk 7 R (q_pickF R (eN (sw_condF R (sw_skip (block_norm (then_norm ?_)))))))
    exact .inl ⟨(), h, .prn [2, 3, 4, 5, 6] R⟩
   intro c24
   replace h := ifN c24 h
   refine q_asgD R (eN (sw_condF R (sw_seq ?_)))
   refine sw_join (fun zz : Unit => pad_act_J7 F t o = some r) (fun zz : Unit => ⟨[(2, .ref 0 7 0 0), (3, .ref 1 5 0 0), (4, .d (vI 0)), (5, .d (.v (.func (.func 49) #[] #[]))), (6, .d (.v (.bool false))), (37, .d (vI o.kind)), (55, .d (.v (.bool true)))], [some ⟨7, [.d (PdPad.d t)]⟩, some ⟨5, [.d (PdAct.d o)]⟩]⟩) ?_ ?_
   ·clear h
    rintro ⟨⟩ h
    rw [pad_act_J7] at h
    refine sw_condT R (qG (q_movD R (q_fa tb R (q_ldD (y := vI o.what) tb R (q_fa tb R (q_ldD (y := .arr 1 ((t.keys).map vS)) tb R (q_lenM tb R ?_)))))))
    obtain ⟨rv13, hrv13, h⟩ := bnd h
    refine r_callB (pad_act_1_pc hrv13) (.of (by kernel_rfl)) R R R R ?_ ?_
    ·intro c30
     replace h := ifP c30 h
     refine eN (sw_condT R (qG (q_asgD R (eN (sw_ret (block_ret (then_ret ?_)))))))
     obtain rfl := sI h
     exact f1 4 R
    intro c30
    replace h := ifF c30 h
    refine eN (sw_condF R (sw_skip (block_norm (then_norm ?_))))
    exact .inl ⟨(), h, .prn [2, 3, 4, 5, 6] R⟩
   refine qG ?_
   refine r_eql R R R R ?_ ?_
   ·intro c27
    replace h := ifP c27 h
    refine q_asgD R (eN (sw_condT R (sw_skip (then_norm ?_))))
    exact .inl ⟨(), h, .prn [2, 3, 4, 5, 6, 37, 55] R⟩
   intro c27
   replace h := ifN c27 h
   refine q_asgD R (eN (sw_condF R (qG ?_)))
   refine r_eql R R R R ?_ ?_
   ·intro c28
    replace h := ifP c28 h
    refine q_asgD R (eN (sw_condT R (sw_skip (then_norm ?_))))
    exact .inl ⟨(), h, .prn [2, 3, 4, 5, 6, 37, 55] R⟩
   intro c28
   replace h := ifN c28 h
   refine q_asgD R (eN (sw_condF R (sw_rg ?_)))
   refine r_eql R R R R ?_ ?_
   ·intro c29
    replace h := ifP c29 h
    refine q_asgD R (eN ?_)
    exact .inl ⟨(), h, .prn [2, 3, 4, 5, 6, 37, 55] R⟩
   intro c29
   replace h := ifN c29 h
   refine q_asgD R (eN (.inr (sw_condF R (sw_seq ?_))))
   refine sw_join (fun zz : Unit => pad_act_J8 F t o = some r) (fun zz : Unit => ⟨[(2, .ref 0 7 0 0), (3, .ref 1 5 0 0), (4, .d (vI 0)), (5, .d (.v (.func (.func 49) #[] #[]))), (6, .d (.v (.bool false))), (66, .d (.v (.bool true)))], [some ⟨7, [.d (PdPad.d t)]⟩, some ⟨5, [.d (PdAct.d o)]⟩]⟩) ?_ ?_
   ·clear h
    rintro ⟨⟩ h
    rw [pad_act_J8] at h
    refine sw_condT R (qG (q_movD R (q_fa tb R (q_ldD (y := vI o.what) tb R (q_fa tb R (q_ldD (y := .arr 6 ((t.squibs).map PdSquib.d)) tb R (q_lenM tb R ?_)))))))
    obtain ⟨rv13, hrv13, h⟩ := bnd h
    refine r_callB (pad_act_1_pc hrv13) (.of (by kernel_rfl)) R R R R ?_ ?_
    ·intro c33
     replace h := ifP c33 h
     refine eN (sw_condT R (qG (q_asgD R (eN (sw_ret (block_ret (then_ret ?_)))))))
     obtain rfl := sI h
     exact f1 4 R
    intro c33
    replace h := ifF c33 h
    refine eN (sw_condF R (sw_skip (block_norm (then_norm ?_))))
    exact .inl ⟨(), h, .prn [2, 3, 4, 5, 6] R⟩
   refine qG ?_
   refine r_eql R R R R ?_ ?_
   ·intro c30
    replace h := ifP c30 h
    refine q_asgD R (eN (sw_condT R (sw_skip (then_norm ?_))))
    exact .inl ⟨(), h, .prn [2, 3, 4, 5, 6, 66] R⟩
   intro c30
   replace h := ifN c30 h
   refine q_asgD R (eN (sw_condF R (qG ?_)))
   refine r_eql R R R R ?_ ?_
   ·intro c31
    replace h := ifP c31 h
    refine q_asgD R (eN (sw_condT R (sw_skip (then_norm ?_))))
    exact .inl ⟨(), h, .prn [2, 3, 4, 5, 6, 66] R⟩
   intro c31
   replace h := ifN c31 h
   refine q_asgD R (eN (sw_condF R (sw_rg ?_)))
   refine r_eql R R R R ?_ ?_
   ·intro c32
    replace h := ifP c32 h
    refine q_asgD R (eN ?_)
    exact .inl ⟨(), h, .prn [2, 3, 4, 5, 6, 66] R⟩
   intro c32
   replace h := ifN c32 h
   refine q_asgD R (eN (.inr (sw_condF R (qG (q_fa tb R (q_ldD (y := vI o.what) tb R ?_))))))
   obtain ⟨rv13, hrv13, h⟩ := bnd h
   refine r_callB (pad_out_pc hrv13) (.of (by kernel_rfl)) R R R R ?_ ?_
   ·intro c33
    replace h := ifP c33 h
    refine eN (sw_condT R (qG (q_asgD R (eN (sw_ret (block_ret (then_ret ?_)))))))
    obtain rfl := sI h
    exact f1 4 R
   intro c33
   replace h := ifF c33 h
   refine eN (sw_condF R (sw_skip (block_norm (then_norm ?_))))
   exact .inl ⟨(), h, .prn [2, 3, 4, 5, 6] R⟩
 refine sw_rg (q_fa tb R (q_ldD (y := vI o.kind) tb R ?_))
 refine r_eql R R R R ?_ ?_
 ·intro c
  replace h := ifP c h
  refine q_movD R (q_sk 8 R (q_pickT R (q_asgD R (eN ?_))))
  exact .inl ⟨.inl (), h, .prn [2, 3, 4, 5, 6] R⟩
 intro c
 replace h := ifN c h
 refine q_movD R (q_fa tb R (q_ldD (y := vI o.kind) tb R ?_))
 refine r_eql R R R R ?_ ?_
 ·intro c2
  replace h := ifP c2 h
  refine q_movD R (q_fa tb R (q_ldD (y := vI o.with_) tb R ?_))
  refine r_neq R R R R ?_ ?_
  ·intro c3
   replace h := ifN c3 h
   refine q_pickT R (q_pickF R (q_asgD R (eN ?_)))
   exact .inl ⟨.inl (), h, .prn [2, 3, 4, 5, 6] R⟩
  intro c3
  replace h := ifP c3 h
  refine q_pickT R (q_pickF R (q_asgD R (eN ?_)))
  exact .inl ⟨.inr (()), h, .prn [2, 3, 4, 5, 6] R⟩
 intro c2
 replace h := ifN c2 h
 refine q_movD R (q_sk 3 R (q_pickF R (q_pickF R (q_asgD R (eN ?_)))))
 exact .inl ⟨.inr (()), h, .prn [2, 3, 4, 5, 6] R⟩
def pad_demand (F : Nat) (so : Bool) (why : Int) : Option (Except Int Unit) := if so = true then (some (.ok ())) else (some (.error why))
theorem pad_demand_scx {F : Nat} {so : Bool} {why : Int} {r : (Except Int Unit)} (h : pad_demand F so why = some r) : SCX Tryz.prog 52 [.d (.v (.bool so)), .d (.v (.int .i64 why))] [] r 34 (fun (a : Unit) => .d (.tup [])) (fun (a : Unit) => []) := by
 rw [pad_demand] at h
 refine SC.of_sw Tryz.func52 R R R ?_
 dsimp only [argS, List.map]
 refine qG (q_movD R ?_)
 with_reducible apply ev_lit
 ·intro c
  replace h := ifP c h
  refine r_notT R R R (eN (sw_condF R (sw_skip ?_)))
  obtain rfl := sI h
  exact fin_n (fin_S (t := .d (.tup [])) (L := []) (κ := []) R .nil (v0 R) (.inl ⟨_, R, R, R⟩))
 intro c
 replace h := ifF c h
 refine r_notF R R R (eN (sw_condT R (sw_rgP (q_movD R (r_iface tb R R R R R (ev_pan ?_))))))
 (with_reducible apply op_panicD); (iterate 2 exact rfl)
 obtain rfl := sI h
 exact fin_pX (L := []) (κ := []) (v0 R) (.inr ⟨_, R, R⟩)
def slices_Clone_int (F : Nat) (s : (List Int)) : Option (List Int) := Option.bind (appI ([] : List Int) s) fun q => some q
theorem slices_Clone_int_scr {F : Nat} {s : (List Int)} {r : (List Int)} (h : slices_Clone_int F s = some r) : SCR Tryz.prog 50 (List.map T.d [.arr 1 ((s).map vI)]) [] (.row 0 1 0 (r).length) (List.map some [(lvI r)]) := by
 rw [slices_Clone_int] at h
 refine SC.of_sw Tryz.func50 R R R ?_
 dsimp only [argS, List.map]
 cases s with
 | nil =>
  refine SW.raw 0 1 R fun ad cap => ?_
  cases ad with
  | none =>
   replace h : some ([] : List Int) = some r := by simpa [appO, appI] using h
   refine qG (q_asgD R (eN (sw_seq (qG (q_movD R (r_nilRow (by intro o a n cap w; cases a <;> cases o <;> simp [go_sem, eqGuard] <;> rfl) R R R (eN (sw_condT R ?_))))))))
   refine SW.unraw 0 1 R ?_
   refine SW.unraw 3 1 R ?_
   refine qG (q_asgD R (eN ?_))
   refine SW.own (ts' := [(2, .row 0 1 0 (([] : List Int)).length)]) (L' := []) 1 R R (.cons .nil .nil) .nil ?_
   simp only [List.cons_append, List.nil_append]
   refine sw_ret (then_ret ?_)
   obtain rfl := sI h
   exact f2 [0] (.row R .nil) R (.cons (.tmp 2) .nil) R
  | some ad =>
   refine qG (q_asgD R (eN (sw_seq (qG (q_movD R (r_nilRaw (by intro o a n cap w; cases a <;> cases o <;> simp [go_sem, eqGuard] <;> rfl) R R R (eN (sw_condF R ?_))))))))
   refine SW.unraw 0 1 R ?_
   refine SW.unraw 3 1 R ?_
   refine sw_skip (then_norm (qG (r_bslice tb R R R R R R R R R R R R R (q_movD R ?_))))
   obtain ⟨q, iq, h⟩ := bnd h
   refine r_apEI (g := vI) (w := ([] : List Int)) (v := ([] : List Int)) ([none]) tb R R R R R R R R (by intro _; exact R) iq R R R R R (r_asgW R R R (eN (sw_ret ?_)))
   obtain rfl := sI h
   exact f2 [1] (.row R .nil) R (.cons (.tmp 2) .nil) R
 | cons x0 s =>
  refine qG (q_asgD R (eN (sw_seq (qG (q_movD R (r_nilArr (by intro o a n cap w; cases a <;> cases o <;> simp [go_sem, eqGuard] <;> rfl) R R R (eN (sw_condF R (sw_skip (then_norm (qG (r_bslice tb R R R R R R R R R R R R R (q_movD R ?_)))))))))))))
  obtain ⟨q, iq, h⟩ := bnd h
  refine r_apEI (g := vI) (w := ([] : List Int)) (v := (x0 :: s)) ([none]) tb R R R R R R R R (by intro _; exact R) iq R R R R R (r_asgW R R R (eN (sw_ret ?_)))
  obtain rfl := sI h
  exact f2 [1] (.row R .nil) R (.cons (.tmp 2) .nil) R
theorem slices_Clone_int_pc {F : Nat} {s : (List Int)} {r : (List Int)} (h : slices_Clone_int F s = some r) : PC Tryz.prog 50 [.arr 1 ((s).map vI)] (.arr 1 ((r).map vI)) := (slices_Clone_int_scr h).toPC (.row rfl rfl)
def pad_stage (F : Nat) (p : PdPad) (s : PdState) : Option (Option Scene) := Option.bind (slices_Clone_int F s.zones) fun rv => Option.bind (slices_Clone_int F s.holder) fun rv2 => Option.bind (slices_Clone_int F s.squibs) fun rv3 => some (some (Scene.mk p.zones p.doors p.people p.keys p.squibs p.panel p.wait s.now rv rv2 rv3 s.siren s.storm))
theorem pad_stage_sco {F : Nat} {p : PdPad} {s : PdState} {r : (Option Scene)} (h : pad_stage F p s = some r) : SCO Tryz.prog 24 (List.map T.d [PdPad.d p, PdState.d s]) [] r (.d (.v (.pointer none))) (List.map some []) (fun (tt : Scene) => .ref 0 13 0 0) (fun (tt : Scene) => List.map some [⟨13, [Scene_T1 tt 1 2 3]⟩, (lvI tt.pdState_Zones), (lvI tt.pdState_Holder), (lvI tt.pdState_Squibs)]) := by
 rw [pad_stage] at h
 refine SC.of_sw Tryz.func24 R R R ?_
 dsimp only [argS, List.map]
 refine qG (q_box R (q_box R (q_asgD R (eN (sw_seq (sw_dr (by kernel_rfl) (q_fa tb R (q_ldD (y := .arr 1 ((s.zones).map vI)) tb R ?_))))))))
 obtain ⟨rv, hrv, h⟩ := bnd h
 refine r_callN (t' := .row 2 1 0 (rv).length) (news' := [(lvI rv)]) (slices_Clone_int_scr hrv) (.of (by kernel_rfl)) R R R ((.row .nil)) R R R (q_fa tb R (q_ldD (y := .arr 1 ((s.holder).map vI)) tb R ?_))
 obtain ⟨rv2, hrv2, h⟩ := bnd h
 refine r_callN (t' := .row 3 1 0 (rv2).length) (news' := [(lvI rv2)]) (slices_Clone_int_scr hrv2) (.of (by kernel_rfl)) R R R ((.row .nil)) R R R (q_fa tb R (q_ldD (y := .arr 1 ((s.squibs).map vI)) tb R ?_))
 obtain ⟨rv3, hrv3, h⟩ := bnd h
 refine r_callN (t' := .row 4 1 0 (rv3).length) (news' := [(lvI rv3)]) (slices_Clone_int_scr hrv3) (.of (by kernel_rfl)) R R R ((.row .nil)) R R R (q_fa tb R (q_stE _ _ tb R (q_fa tb R (q_stE _ _ tb R (q_fa tb R (q_stE _ _ tb R (ev_endD (by kernel_rfl) (then_norm (qG (q_ldD (y := PdPad.d p) tb R (r_ldG tb R R R R R R R R R ?_)))))))))))
 refine r_build (v := Scene_T1 (Scene.mk p.zones p.doors p.people p.keys p.squibs p.panel p.wait s.now rv rv2 rv3 s.siren s.storm) 2 3 4) tb R R (List.cons_ne_nil _ _) (by kernel_rfl) (by kernel_rfl) (by kernel_rfl) (by kernel_rfl) R R (q_box R (r_asgR R R R (eN (sw_ret ?_))))
 obtain rfl := sI h
 exact (fin_S (t := .ref 0 13 0 0) (L := [some ⟨13, [Scene_T1 (Scene.mk p.zones p.doors p.people p.keys p.squibs p.panel p.wait s.now rv rv2 rv3 s.siren s.storm) 1 2 3]⟩, some (lvI rv), some (lvI rv2), some (lvI rv3)]) (κ := [5, 2, 3, 4]) R (.cons (.tmp 4) .nil) (vK (.cons R R (.row R (.row R (.row R .nil)))) R) (.inr ⟨_, R, R, R⟩))
def pad_scene_formed_1_1 (F : Nat) (nv : Int) (c : Int) (c2 : Int) : Option Bool := Option.bind (pad_out F nv c c2) fun rv => some rv
theorem pad_scene_formed_1_1_pc {F : Nat} {nv : Int} {c : Int} {c2 : Int} {r : Bool} (h : pad_scene_formed_1_1 F nv c c2 = some r) : PC Tryz.prog 75 [.v (.int .i64 nv), .el 1 (([c]).map vI) ((0 : Int)).toNat 0, .el 1 (([c2]).map vI) ((0 : Int)).toNat 0] (.v (.bool r)) := by
 rw [pad_scene_formed_1_1] at h
 refine SC.of_sw Tryz.func75 R R R ?_
 dsimp only [argS, List.map]
 refine qG (q_asgD R (eN (qG (q_movD R (q_ldE (y := vI c) tb (ix2 (g := vI) (R : ixO [c] 0 = some c)) R (q_ldE (y := vI c2) tb (ix2 (g := vI) (R : ixO [c2] 0 = some c2)) R ?_))))))
 obtain ⟨rv, hrv, h⟩ := bnd h
 refine r_call (pad_out_pc hrv) (.of (by kernel_rfl)) R R R R (q_asgD R (eN (sw_ret ?_)))
 obtain rfl := sI h
 exact f1 4 R
def pad_scene_formed_1 (F : Nat) (lo : Int) (hi : Int) : Option (Int × Int) := some (lo, hi)
theorem pad_scene_formed_1_scr {F : Nat} {lo : Int} {hi : Int} {r : (Int × Int)} (h : pad_scene_formed_1 F lo hi = some r) : SCR Tryz.prog 74 (List.map T.d [.v (.int .i64 lo), .v (.int .i64 hi)]) [] (.fn (.func 75) [] [.ref 0 1 0 0, .ref 1 1 0 0]) (List.map some [⟨1, [.d (.v (.int .i64 r.1))]⟩, ⟨1, [.d (.v (.int .i64 r.2))]⟩]) := by
 rw [pad_scene_formed_1] at h
 refine SC.of_sw Tryz.func74 R R R ?_
 dsimp only [argS, List.map]
 refine qG (q_box R (q_box R (q_asgD R (eN (qG (r_func R R R R (r_asgF R R R (eN (sw_ret ?_)))))))))
 obtain rfl := sI h
 exact f2 [0, 1] (.cons R R (.cons R R .nil)) R (.cons (.tmp 4) .nil) R
def pad_scene_formed_J1 (F : Nat) (t : Scene) : Option Bool := Option.bind (pad_scene_formed_1 F (-1) (W ((t.p_Zones.length : Int) - 1))) fun rv3 => Option.bind (slices_ContainsFunc_int F t.pdState_Zones (fun a0 => pad_scene_formed_1_1 F a0 rv3.1 rv3.2)) fun rv4 => if rv4 = true then (some false) else (Option.bind (pad_scene_formed_1 F (-1) (W ((t.p_People.length : Int) - 1))) fun rv5 => Option.bind (slices_ContainsFunc_int F t.pdState_Holder (fun a0 => pad_scene_formed_1_1 F a0 rv5.1 rv5.2)) fun rv6 => if rv6 = true then (some false) else (Option.bind (pad_scene_formed_1 F 0 2) fun rv7 => Option.bind (slices_ContainsFunc_int F t.pdState_Squibs (fun a0 => pad_scene_formed_1_1 F a0 rv7.1 rv7.2)) fun rv8 => some (!rv8)))
def pad_scene_formed (F : Nat) (t : Scene) : Option Bool := Option.bind (pad_out F t.pdState_Now 0 100000) fun rv => if rv = true then (some false) else (Option.bind (pad_out F t.pdState_Siren (-1) t.pdState_Now) fun rv2 => if rv2 = true then (some false) else (if (t.pdState_Zones.length : Int) = (t.p_People.length : Int) then (if (t.pdState_Holder.length : Int) = (t.p_Keys.length : Int) then (if (t.pdState_Squibs.length : Int) = (t.p_Squibs.length : Int) then (pad_scene_formed_J1 F t) else (some false)) else (some false)) else (some false)))
theorem pad_scene_formed_pc {F : Nat} {t : Scene} {r : Bool} (h : pad_scene_formed F t = some r) : PC Tryz.prog 40 [.el 13 (([t]).map Scene.d) ((0 : Int)).toNat 0] (.v (.bool r)) := by
 rw [pad_scene_formed] at h
 refine SC.of_sw Tryz.func40 R R R ?_
 dsimp only [argS, List.map]
 refine qG (q_asgD R (eN (qG (q_movD R (r_nilEl R R R (q_faE tb R (q_ldE (y := .agg [.arr 8 ((t.p_Zones).map PdZone.d), .arr 2 ((t.p_Doors).map PdDoor.d), .arr 2 ((t.p_People).map PdPerson.d), .arr 1 ((t.p_Keys).map vS), .arr 6 ((t.p_Squibs).map PdSquib.d), vI t.p_Panel, vI t.p_Wait]) tb (ix2 (g := Scene.d) (R : ixO [t] 0 = some t)) R (r_alloc tb R R R R R (q_stE _ _ tb R (eN (qG (q_asgD R (eN (sw_seq ?_))))))))))))))
 refine sw_join (fun zz : Unit => pad_scene_formed_J1 F t = some r) (fun zz : Unit => ⟨[(0, .d (.el 13 (([t]).map Scene.d) ((0 : Int)).toNat 0)), (2, .d (.v (.bool false))), (3, .ref 0 7 0 0), (4, .d (.v (.func (.func 74) #[] #[])))], [some ⟨7, [.d (.agg [.arr 8 ((t.p_Zones).map PdZone.d), .arr 2 ((t.p_Doors).map PdDoor.d), .arr 2 ((t.p_People).map PdPerson.d), .arr 1 ((t.p_Keys).map vS), .arr 6 ((t.p_Squibs).map PdSquib.d), vI t.p_Panel, vI t.p_Wait])]⟩]⟩) ?_ ?_
 ·clear h
  rintro ⟨⟩ h
  rw [pad_scene_formed_J1] at h
  refine sw_seq (sw_dr (by kernel_rfl) (q_movD R (r_nilEl R R R (q_faE tb R (q_faE tb R (q_ldE (y := .arr 1 ((t.pdState_Zones).map vI)) tb (ix2 (g := Scene.d) (R : ixO [t] 0 = some t)) R (q_movD R (q_fa tb R (q_ldD (y := .arr 8 ((t.p_Zones).map PdZone.d)) tb R (q_lenM tb R (r_sub R R R R ?_)))))))))))
  obtain ⟨rv3, hrv3, h⟩ := bnd h
  refine r_callN (t' := .fn (.func 75) [] [.ref 1 1 0 0, .ref 2 1 0 0]) (news' := [⟨1, [.d (vI rv3.1)]⟩, ⟨1, [.d (vI rv3.2)]⟩]) (pad_scene_formed_1_scr hrv3) (.of (by kernel_rfl)) R R R ((.cons R (.cons R .nil))) R R R ?_
  obtain ⟨rv4, hrv4, h⟩ := bnd h
  refine r_callX (t' := .d (.v (.bool rv4))) (news' := []) (slices_ContainsFunc_int_scr (f := (fun a0 => pad_scene_formed_1_1 F a0 rv3.1 rv3.2)) (fc := [.el 1 [vI rv3.1] 0 0, .el 1 [vI rv3.2] 0 0]) (fh := fun hr => pad_scene_formed_1_1_pc hr) (fe := .of (by kernel_rfl)) hrv4) R .nil (.of (by kernel_rfl)) R R ((.cons (.d (.d _)) (.cons (.fnC (.cons (.d (.ref R (.d _))) (.cons (.d (.ref R (.d _))) .nil))) .nil))) R .nil R R R ?_
  simp only [List.map_nil, List.append_nil]
  with_reducible apply ev_lit
  ·intro c6
   replace h := ifP c6 h
   refine r_notT R R R (q_movD R (q_sk 13 R (q_pickF R (q_movD R (q_sk 9 R (q_pickF R (q_asgD R (ev_endD (by kernel_rfl) (then_norm (sw_ret ?_))))))))))
   obtain rfl := sI h
   exact f1 2 R
  intro c6
  replace h := ifF c6 h
  refine r_notF R R R (q_movD R (q_movD R (r_nilEl R R R (q_faE tb R (q_faE tb R (q_ldE (y := .arr 1 ((t.pdState_Holder).map vI)) tb (ix2 (g := Scene.d) (R : ixO [t] 0 = some t)) R (q_movD R (q_fa tb R (q_ldD (y := .arr 2 ((t.p_People).map PdPerson.d)) tb R (q_lenM tb R (r_sub R R R R ?_)))))))))))
  obtain ⟨rv5, hrv5, h⟩ := bnd h
  refine r_callN (t' := .fn (.func 75) [] [.ref 3 1 0 0, .ref 4 1 0 0]) (news' := [⟨1, [.d (vI rv5.1)]⟩, ⟨1, [.d (vI rv5.2)]⟩]) (pad_scene_formed_1_scr hrv5) (.of (by kernel_rfl)) R R R ((.cons R (.cons R .nil))) R R R ?_
  obtain ⟨rv6, hrv6, h⟩ := bnd h
  refine r_callX (t' := .d (.v (.bool rv6))) (news' := []) (slices_ContainsFunc_int_scr (f := (fun a0 => pad_scene_formed_1_1 F a0 rv5.1 rv5.2)) (fc := [.el 1 [vI rv5.1] 0 0, .el 1 [vI rv5.2] 0 0]) (fh := fun hr => pad_scene_formed_1_1_pc hr) (fe := .of (by kernel_rfl)) hrv6) R .nil (.of (by kernel_rfl)) R R ((.cons (.d (.d _)) (.cons (.fnC (.cons (.d (.ref R (.d _))) (.cons (.d (.ref R (.d _))) .nil))) .nil))) R .nil R R R ?_
  simp only [List.map_nil, List.append_nil]
  with_reducible apply ev_lit
  ·intro c7
   replace h := ifP c7 h
   refine r_notT R R R (q_pickT R (q_movD R (q_sk 9 R (q_pickF R (q_asgD R (ev_endD (by kernel_rfl) (then_norm (sw_ret ?_))))))))
   obtain rfl := sI h
   exact f1 2 R
  intro c7
  replace h := ifF c7 h
  refine r_notF R R R (q_pickT R (q_movD R (q_movD R (r_nilEl R R R (q_faE tb R (q_faE tb R (q_ldE (y := .arr 1 ((t.pdState_Squibs).map vI)) tb (ix2 (g := Scene.d) (R : ixO [t] 0 = some t)) R (q_movD R ?_))))))))
  obtain ⟨rv7, hrv7, h⟩ := bnd h
  refine r_callN (t' := .fn (.func 75) [] [.ref 5 1 0 0, .ref 6 1 0 0]) (news' := [⟨1, [.d (vI rv7.1)]⟩, ⟨1, [.d (vI rv7.2)]⟩]) (pad_scene_formed_1_scr hrv7) (.of (by kernel_rfl)) R R R ((.cons R (.cons R .nil))) R R R ?_
  obtain ⟨rv8, hrv8, h⟩ := bnd h
  refine r_callX (t' := .d (.v (.bool rv8))) (news' := []) (slices_ContainsFunc_int_scr (f := (fun a0 => pad_scene_formed_1_1 F a0 rv7.1 rv7.2)) (fc := [.el 1 [vI rv7.1] 0 0, .el 1 [vI rv7.2] 0 0]) (fh := fun hr => pad_scene_formed_1_1_pc hr) (fe := .of (by kernel_rfl)) hrv8) R .nil (.of (by kernel_rfl)) R R ((.cons (.d (.d _)) (.cons (.fnC (.cons (.d (.ref R (.d _))) (.cons (.d (.ref R (.d _))) .nil))) .nil))) R .nil R R R ?_
  simp only [List.map_nil, List.append_nil]
  refine r_not R R R (q_pickT R (q_asgD R (ev_endD (by kernel_rfl) (then_norm (sw_ret ?_)))))
  obtain rfl := sI h
  exact f1 2 R
 refine sw_block (sw_seq (sw_dr (by kernel_rfl) (q_movD R (r_nilEl R R R (q_faE tb R (q_faE tb R (q_ldE (y := vI t.pdState_Now) tb (ix2 (g := Scene.d) (R : ixO [t] 0 = some t)) R ?_)))))))
 obtain ⟨rv, hrv, h⟩ := bnd h
 refine r_callB (pad_out_pc hrv) (.of (by kernel_rfl)) R R R R ?_ ?_
 ·intro c
  replace h := ifP c h
  refine q_movD R (q_sk 11 R (q_pickT R (q_asgD R (ev_endD (by kernel_rfl) (then_norm (sw_condT R (qG (q_asgD R (eN (sw_ret (block_ret (then_ret ?_))))))))))))
  obtain rfl := sI h
  exact f1 2 R
 intro c
 replace h := ifF c h
 refine q_movD R (q_movD R (r_nilEl R R R (q_faE tb R (q_faE tb R (q_ldE (y := vI t.pdState_Siren) tb (ix2 (g := Scene.d) (R : ixO [t] 0 = some t)) R (q_movD R (r_nilEl R R R (q_faE tb R (q_faE tb R (q_ldE (y := vI t.pdState_Now) tb (ix2 (g := Scene.d) (R : ixO [t] 0 = some t)) R ?_))))))))))
 obtain ⟨rv2, hrv2, h⟩ := bnd h
 refine r_callB (pad_out_pc hrv2) (.of (by kernel_rfl)) R R R R ?_ ?_
 ·intro c2
  replace h := ifP c2 h
  refine q_pickF R (q_asgD R (ev_endD (by kernel_rfl) (then_norm (sw_condT R (qG (q_asgD R (eN (sw_ret (block_ret (then_ret ?_))))))))))
  obtain rfl := sI h
  exact f1 2 R
 intro c2
 replace h := ifF c2 h
 refine q_pickF R (q_asgD R (ev_endD (by kernel_rfl) (then_norm (sw_condF R (sw_seq (sw_dr (by kernel_rfl) (q_movD R (r_nilEl R R R (q_faE tb R (q_faE tb R (q_ldE (y := .arr 1 ((t.pdState_Zones).map vI)) tb (ix2 (g := Scene.d) (R : ixO [t] 0 = some t)) R (q_lenM tb R (q_fa tb R (q_ldD (y := .arr 2 ((t.p_People).map PdPerson.d)) tb R (q_lenM tb R ?_)))))))))))))))
 refine r_neq R R R R ?_ ?_
 ·intro c3
  replace h := ifN c3 h
  refine q_movD R (q_sk 10 R (q_pickT R (q_movD R (q_sk 10 R (q_pickT R (q_asgD R (ev_endD (by kernel_rfl) (then_norm (sw_condT R (qG (q_asgD R (eN (sw_ret (block_ret (then_ret ?_)))))))))))))))
  obtain rfl := sI h
  exact f1 2 R
 intro c3
 replace h := ifP c3 h
 refine q_movD R (q_movD R (r_nilEl R R R (q_faE tb R (q_faE tb R (q_ldE (y := .arr 1 ((t.pdState_Holder).map vI)) tb (ix2 (g := Scene.d) (R : ixO [t] 0 = some t)) R (q_lenM tb R (q_fa tb R (q_ldD (y := .arr 1 ((t.p_Keys).map vS)) tb R (q_lenM tb R ?_)))))))))
 refine r_neq R R R R ?_ ?_
 ·intro c4
  replace h := ifN c4 h
  refine q_pickF R (q_movD R (q_sk 10 R (q_pickT R (q_asgD R (ev_endD (by kernel_rfl) (then_norm (sw_condT R (qG (q_asgD R (eN (sw_ret (block_ret (then_ret ?_)))))))))))))
  obtain rfl := sI h
  exact f1 2 R
 intro c4
 replace h := ifP c4 h
 refine q_pickF R (q_movD R (q_movD R (r_nilEl R R R (q_faE tb R (q_faE tb R (q_ldE (y := .arr 1 ((t.pdState_Squibs).map vI)) tb (ix2 (g := Scene.d) (R : ixO [t] 0 = some t)) R (q_lenM tb R (q_fa tb R (q_ldD (y := .arr 6 ((t.p_Squibs).map PdSquib.d)) tb R (q_lenM tb R ?_))))))))))
 refine r_neq R R R R ?_ ?_
 ·intro c5
  replace h := ifN c5 h
  refine q_pickF R (q_asgD R (ev_endD (by kernel_rfl) (then_norm (sw_condT R (qG (q_asgD R (eN (sw_ret (block_ret (then_ret ?_))))))))))
  obtain rfl := sI h
  exact f1 2 R
 intro c5
 replace h := ifP c5 h
 refine q_pickF R (q_asgD R (ev_endD (by kernel_rfl) (then_norm (sw_condF R (sw_skip (block_norm (then_norm ?_)))))))
 exact .inl ⟨(), h, .prn [0, 2, 3, 4] R⟩
def pad_scene_crowd_L1 (F : Nat) (c : Scene) (zone : Int) (K : Int → Int → Option Int) : Nat → Int → Int → Option Int
 | 0, _, _ => none
 | n + 1, nv, x => if x < (c.pdState_Zones.length : Int) then (Option.bind (ixO c.pdState_Zones x) fun e => if e = zone then (pad_scene_crowd_L1 F c zone K n (W (nv + 1)) (W (x + 1))) else (pad_scene_crowd_L1 F c zone K n nv (W (x + 1)))) else (K nv x)
def pad_scene_crowd (F : Nat) (c : Scene) (zone : Int) : Option Int := pad_scene_crowd_L1 F c zone (fun (nv : Int) (x : Int) => some nv) F 0 0
theorem pad_scene_crowd_pc {F : Nat} {c : Scene} {zone : Int} {r : Int} (h : pad_scene_crowd F c zone = some r) : PC Tryz.prog 77 [.el 13 (([c]).map Scene.d) ((0 : Int)).toNat 0, .v (.int .i64 zone)] (.v (.int .i64 r)) := by
 rw [pad_scene_crowd] at h
 refine SC.of_sw Tryz.func77 R R R ?_
 dsimp only [argS, List.map]
 refine qG (q_asgD R (eN (sw_seq (qG (q_movD R (r_nilEl R R R (q_faE tb R (q_faE tb R (q_ldE (y := .arr 1 ((c.pdState_Zones).map vI)) tb (ix2 (g := Scene.d) (R : ixO [c] 0 = some c)) R (q_lenM tb R (q_movD R (eN (sw_block ?_)))))))))))))
 obtain ⟨K3, hK3, h⟩ : ∃ K, K = _ ∧ pad_scene_crowd_L1 F c zone K F 0 0 = some r := ⟨_, rfl, h⟩
 refine sw_loopS (fun m st => ∃ (nv : Int) (x : Int), pad_scene_crowd_L1 F c zone K3 m nv x = some r ∧ st = ⟨[(1, .d (vI zone)), (4, .d (vI nv)), (11, .d (.arr 1 ((c.pdState_Zones).map vI))), (12, .d (vI (c.pdState_Zones.length : Int))), (13, .d (vI x))], []⟩) (.prn [1, 4, 11, 12, 13] R) ⟨0, 0, h, R⟩ ?_
 clear h
 rintro m3 st ⟨nv, x, h, rfl⟩
 cases m3 with
 | zero => cases (show (none : Option Int) = some r from h)
 | succ m3 =>
 rw [pad_scene_crowd_L1] at h
 refine qG ?_
 refine r_lss R R R R ?_ ?_
 ·intro c2
  replace h := ifP c2 h
  refine eN (sw_seq (sw_condT R (sw_skip (then_norm (sw_seq (sw_block (qG ?_)))))))
  obtain ⟨e, ie, h⟩ := bnd h
  refine q_ixE tb (ix0 ie) (ix1m ie) R (q_ldE (y := vI e) tb (ix2 (g := vI) ie) R (q_asgD R (eN (qG (q_movD R (q_movD R ?_))))))
  refine r_eql R R R R ?_ ?_
  ·intro c3
   replace h := ifP c3 h
   refine eN (sw_condT R (sw_rg (q_movD R (q_add R (q_asgD R (ev_end (block_norm (then_norm (sw_rg (q_add R (q_movD R (eN ?_))))))))))))
   exact ⟨m3, _, Nat.lt_succ_self _, .prn [1, 4, 11, 12, 13] R, (W (nv + 1)), (W (x + 1)), h, R⟩
  intro c3
  replace h := ifN c3 h
  refine eN (sw_condF R (sw_skip (block_norm (then_norm (sw_rg (q_add R (q_movD R (eN ?_))))))))
  exact ⟨m3, _, Nat.lt_succ_self _, .prn [1, 4, 11, 12, 13] R, nv, (W (x + 1)), h, R⟩
 intro c2
 replace h := ifN (Int.not_lt.2 c2) h
 refine eN (sw_seq (sw_condF R (sw_exit (then_exit (then_exit ?_)))))
 subst hK3
 refine block_exit (then_norm (qG (q_movD R (q_asgD R (eN (sw_ret ?_))))))
 obtain rfl := sI h
 exact f1 4 R
end Go.Proofs.YthcnganbnbhhoaaGreat
