/- What functions of the program compute: plain functions, and the proofs. -/
import Derived.Test.YtdefnmcjmklohaaW1
import Derived.Laws.BytesString
set_option linter.unusedVariables false
set_option linter.unusedSimpArgs false
open Go Go.Proofs.Ytdefnmcjmklohaa.Sh Go.Proofs
namespace Go.Proofs.Ytdefnmcjmklohaa
set_option maxRecDepth 100000
set_option maxHeartbeats 40000000
def window_table_launch_m_L1 (F : Nat) (rv3 : Table) (K : (List Int) → Int → Option (Except Int Table)) : Nat → (List Int) → Int → Option (Except Int Table)
 | 0, _, _ => none
 | n + 1, lv, x3 => if x3 < (rv3.p_Teams.length : Int) then (if ((mget rv3.done x3).getD false) = true then (window_table_launch_m_L1 F rv3 K n lv (W (x3 + 1))) else (Option.bind (window_table_why F {rv3 with s_Credit := lv} x3) fun rv4 => if rv4 = 0 then (Option.bind (ixO lv x3) fun e2 => Option.bind (setO lv x3 (W (e2 + 1))) fun lv2 => window_table_launch_m_L1 F rv3 K n lv2 (W (x3 + 1))) else (window_table_launch_m_L1 F rv3 K n lv (W (x3 + 1))))) else (K lv x3)
def window_table_launch_m_L2 (F : Nat) (rv6 : Table) (K : (List Int) → Int → Option (Except Int Table)) : Nat → (List Int) → Int → Option (Except Int Table)
 | 0, _, _ => none
 | n + 1, lv4, x6 => if x6 < (rv6.p_Teams.length : Int) then (if ((mget rv6.done x6).getD false) = true then (window_table_launch_m_L2 F rv6 K n lv4 (W (x6 + 1))) else (Option.bind (window_table_why F {rv6 with s_Credit := lv4} x6) fun rv7 => if rv7 = 0 then (Option.bind (ixO lv4 x6) fun e6 => Option.bind (setO lv4 x6 (W (e6 + 1))) fun lv5 => window_table_launch_m_L2 F rv6 K n lv5 (W (x6 + 1))) else (window_table_launch_m_L2 F rv6 K n lv4 (W (x6 + 1))))) else (K lv4 x6)
def window_table_launch_m (F : Nat) (t : Table) (o : Int) (a : WiTurn) : Option (Except Int Table) := if a.to_ = 0 then (Option.bind (ixO t.p_Teams o) fun e => Option.bind (window_out F a.at_ (W (t.minute + e.setup)) t.w_Until) fun rv => Option.bind (window_must F (!rv) 7) fun rv2 => exE rv2 (fun x => some (.error x)) (fun v => Option.bind (window_table_entitled_m F {t with done := (mset t.done o true)}) fun rv3 => window_table_launch_m_L1 F rv3 (fun (lv : (List Int)) (x3 : Int) => Option.bind (ixO rv3.s_Used o) fun e3 => Option.bind (setO rv3.s_Used o (W (e3 + 1))) fun q => Option.bind (ixO rv3.s_Last o) fun e4 => Option.bind (setO rv3.s_Last o rv3.w_Day) fun q2 => Option.bind (ixO lv o) fun e5 => Option.bind (setO lv o (W (e5 - rv3.p_Cost))) fun lv3 => if 0 ≤ rv3.given then (some (.ok {rv3 with s_Used := q, s_Credit := lv3, s_Last := q2, minute := a.at_, given := (-1), over := true, use_Team := o, use_At := a.at_, use_By := rv3.by_})) else (some (.ok {rv3 with s_Used := q, s_Credit := lv3, s_Last := q2, minute := a.at_, given := (-1), over := true, use_Team := o, use_At := a.at_}))) F rv3.s_Credit 0)) else (Option.bind (window_must F false 7) fun rv5 => exE rv5 (fun x4 => some (.error x4)) (fun v2 => Option.bind (window_table_entitled_m F {t with done := (mset t.done o true)}) fun rv6 => window_table_launch_m_L2 F rv6 (fun (lv4 : (List Int)) (x6 : Int) => Option.bind (ixO rv6.s_Used o) fun e7 => Option.bind (setO rv6.s_Used o (W (e7 + 1))) fun q3 => Option.bind (ixO rv6.s_Last o) fun e8 => Option.bind (setO rv6.s_Last o rv6.w_Day) fun q4 => Option.bind (ixO lv4 o) fun e9 => Option.bind (setO lv4 o (W (e9 - rv6.p_Cost))) fun lv6 => if 0 ≤ rv6.given then (some (.ok {rv6 with s_Used := q3, s_Credit := lv6, s_Last := q4, minute := a.at_, given := (-1), over := true, use_Team := o, use_At := a.at_, use_By := rv6.by_})) else (some (.ok {rv6 with s_Used := q3, s_Credit := lv6, s_Last := q4, minute := a.at_, given := (-1), over := true, use_Team := o, use_At := a.at_}))) F rv6.s_Credit 0))
theorem window_table_launch_m_scx {F : Nat} {t : Table} {o : Int} {a : WiTurn} {r : (Except Int Table)} (h : window_table_launch_m F t o a = some r) : SCX Try.prog 99 [.ref 0 22 0 0, .d (.v (.int .i64 o)), .d (WiTurn.d a)] [some ⟨22, [Table_T1 t 1 2 3 4]⟩, some (lvI t.s_Used), some (lvI t.s_Credit), some (lvI t.s_Last), some (m1w t.done)] r 29 (fun (a : Table) => .d (.tup [])) (fun (a : Table) => [some ⟨22, [Table_T1 a 1 2 3 4]⟩, some (lvI a.s_Used), some (lvI a.s_Credit), some (lvI a.s_Last), some (m1w a.done)]) := by
 rw [window_table_launch_m] at h
 refine SC.of_swm Try.func99 R R R ?_
 dsimp only [argS, List.map]
 refine swm_seq ?_
 refine swm_of fun df => ?_
 refine sw_rg (q_box R (q_box R (eN (swm_seq ?_))))
 refine swm_of fun df => ?_
 refine sw_drP (by kernel_rfl) (q_fa tb R (q_ldD (y := vI a.to_) tb R ?_))
 refine r_eql R R R R ?_ ?_
 ·intro c
  replace h := ifP c h
  refine q_movD R (q_fa tb R (q_ldD (y := vI a.at_) tb R (r_ldR tb R R R R R R R R R (r_nilRef R R R (q_fa tb R (q_ldD (y := vI t.minute) tb R (r_ldR tb R R R R R R R R R (r_nilRef R R R (q_fa tb R (q_fa tb R (q_ldD (y := .arr 9 ((t.p_Teams).map WiTeam.d)) tb R (q_movD R ?_))))))))))))
  obtain ⟨e, ie, h⟩ := bnd h
  refine q_ixE tb (ix0 ie) (ix1m ie) R (q_faE tb R (q_ldE (y := vI e.setup) tb (ix2 (g := WiTeam.d) ie) R (q_add R (r_ldR tb R R R R R R R R R (r_nilRef R R R (q_fa tb R (q_fa tb R (q_ldD (y := vI t.w_Until) tb R ?_))))))))
  obtain ⟨rv, hrv, h⟩ := bnd h
  refine r_call (window_out_pc hrv) (.of (by kernel_rfl)) R R R R (r_not R R R (q_pickT R ?_))
  obtain ⟨rv2, hrv2, h⟩ := bnd h
  rcases ex_or rv2 with ⟨x, nv⟩ | ⟨v, nv⟩
  ·replace h := (exN nv).symm.trans h
   refine ev_panD (by kernel_rfl) (by kernel_rfl) ?_
   (with_reducible apply op_call []); exact (window_must_scx hrv2).err nv; exact rfl; exact .of (by kernel_rfl); exact rfl; exact .inl ⟨rfl, rfl, rfl⟩; (iterate 4 exact rfl); exact .nil; exact rfl
   intro cnt
   refine then_pan ?_
   obtain rfl := sI h
   exact fin_pX (L := [some ⟨22, [Table_T1 t 1 2 3 4]⟩, some (lvI t.s_Used), some (lvI t.s_Credit), some (lvI t.s_Last), some (m1w t.done)]) (κ := [0, 1, 2, 3, 4]) (vK (.cons R R (.row R (.row R (.row R (.map R .nil))))) R) (.inr ⟨_, R, R⟩)
  replace h := (exO nv).symm.trans h
  refine r_callO (t' := .d (.tup [])) (ls := []) (news := []) ([]) ([some ⟨22, [Table_T1 t 1 2 3 4]⟩, some (lvI t.s_Used), some (lvI t.s_Credit), some (lvI t.s_Last), some (m1w t.done), some ⟨1, [.ref 0 22 0 0]⟩, some ⟨3, [.d (WiTurn.d a)]⟩]) ((window_must_scx hrv2).ok nv) (.of (by kernel_rfl)) R (.inl ⟨R, R, R⟩) R R R R .nil R R R .nil .nil R R R R (ev_endPD (by kernel_rfl) (then_norm (swm_seq ?_)))
  refine swm_of fun df => ?_
  refine sw_rg (r_ldR tb R R R R R R R R R (r_nilRef R R R (q_fa tb R (r_ldT (.mp 4) tb R R R R R R R R R (q_movD R ?_)))))
  refine r_mset (vf := fun b => .v (.bool b)) (v := true) (q := (mset t.done o true)) ([some ⟨22, [Table_T1 {t with done := (mset t.done o true)} 1 2 3 4]⟩, some (lvI t.s_Used), some (lvI t.s_Credit), some (lvI t.s_Last), some (m1w (mset t.done o true)), some ⟨1, [.ref 0 22 0 0]⟩, some ⟨3, [.d (WiTurn.d a)]⟩]) R R R R R R R R R ?_
  refine eN (swm_seq (swm_seq ?_))
  refine swm_of fun df => ?_
  refine sw_rg (r_ldR tb R R R R R R R R R ?_)
  obtain ⟨rv3, hrv3, h⟩ := bnd h
  refine r_callO (t' := .fn (.func 104) [] [.ref 7 1 0 0]) (ls := [some ⟨22, [Table_T1 rv3 1 2 3 4]⟩, some (lvI rv3.s_Used), some (lvI rv3.s_Credit), some (lvI rv3.s_Last), some (m1w rv3.done)]) (news := [⟨1, [.ref 0 22 0 0]⟩]) ([0, 1, 2, 3, 4]) ([some ⟨22, [Table_T1 rv3 1 2 3 4]⟩, some (lvI rv3.s_Used), some (lvI rv3.s_Credit), some (lvI rv3.s_Last), some (m1w rv3.done), some ⟨1, [.ref 0 22 0 0]⟩, some ⟨3, [.d (WiTurn.d a)]⟩, some ⟨1, [.ref 0 22 0 0]⟩]) (window_table_entitled_m_scr hrv3) (.of (by kernel_rfl)) R (.inl ⟨R, R, R⟩) R R R R ((.cons R R (.row R (.row R (.row R (.map R .nil)))))) R R R ((.cons R (.row (.row (.row (.map .nil)))))) ((.cons R .nil)) R R R R ?_
  refine eN (swm_block ?_)
  refine swm_range (.of (by kernel_rfl)) Try.func104 R R R R R R fun lb => ?_
  simp only [argS, Nat.zero_add, Nat.reduceAdd]
  refine swj_seq (swj_rg (rgj_ev (r_ldR tb R R R R R R R R R (r_nilRef R R R (q_fa tb R (q_fa tb R (q_ldD (y := .arr 9 ((rv3.p_Teams).map WiTeam.d)) tb R (q_lenM tb R (q_movD R (ev_endJ (thenj_norm (swj_block ?_))))))))))))
  obtain ⟨K3, hK3, h⟩ : ∃ K, K = _ ∧ window_table_launch_m_L1 F rv3 K F rv3.s_Credit 0 = some r := ⟨_, rfl, h⟩
  refine swj_loopS (fun m ph st => ∃ (lv : (List Int)) (x3 : Int), window_table_launch_m_L1 F rv3 K3 m lv x3 = some r ∧ ph = SX.norm ∧ st = ⟨[(0, .d (.v (.func (.yield lb) #[] #[]))), (1, .ref 7 1 0 0), (9, .d (vI (rv3.p_Teams.length : Int))), (10, .d (vI x3))], [some ⟨22, [Table_T1 {rv3 with s_Credit := lv} 1 2 3 4]⟩, some (lvI rv3.s_Used), some (lvI lv), some (lvI rv3.s_Last), some (m1w rv3.done), some ⟨1, [.ref 0 22 0 0]⟩, some ⟨3, [.d (WiTurn.d a)]⟩, some ⟨1, [.ref 0 22 0 0]⟩]⟩) (.prn [0, 1, 9, 10] R) ⟨rv3.s_Credit, 0, h, R, R⟩ ?_
  clear h
  rintro m3 ph st ⟨lv, x3, h, rfl, rfl⟩
  cases m3 with
  | zero => cases (show (none : Option (Except Int Table)) = some r from h)
  | succ m3 =>
  rw [window_table_launch_m_L1] at h
  refine swj_seq (swj_rg (rgj_ev ?_))
  refine r_lss R R R R ?_ ?_
  ·intro c2
   replace h := ifP c2 h
   refine ev_endJ (thenj_norm (swj_seq (swj_condT R (swj_skip (thenj_norm (swj_seq (swj_block (swj_seq (swj_rg (rgj_ev (q_movD R (q_asgD R (ev_endJ (thenj_norm (swj_seq (swj_rg (rgj_ev (r_ldR tb R R R R R R R R R (r_nilRef R R R (q_fa tb R (r_ldT (.mp 4) tb R R R R R R R R R (q_movD R ?_))))))))))))))))))))))
   refine r_lkI (vf := fun b => .v (.bool b)) (z0 := false) (u := .v (.bool ((mget rv3.done x3).getD false))) tb R R R R R R R R R R ?_
   with_reducible apply ev_lit
   ·intro c3
    replace h := ifP c3 h
    refine r_notT R R R (q_movD R (q_sk 4 R (q_pickF R (q_movD R (q_sk 4 R (q_pickF R (ev_endJ (thenj_norm (swj_condF R (swj_skip (blockj_norm (thenj_norm (swj_rg (rgj_ev (q_add R (q_movD R (ev_endJ (thenj_norm ?_))))))))))))))))))
    exact ⟨m3, _, Nat.lt_succ_self _, .prn [0, 1, 9, 10] R, lv, (W (x3 + 1)), h, R, R⟩
   intro c3
   replace h := ifF c3 h
   refine r_notF R R R (q_movD R (r_ldR tb R R R R R R R R R (q_movD R ?_)))
   obtain ⟨rv4, hrv4, h⟩ := bnd h
   refine r_callL (window_table_why_pc hrv4) R (.of (by kernel_rfl)) R R ((.cons (.ref R (.aggL (.cons (.d _) (.cons (.d _) (.cons (.d _) (.cons (.d _) (.cons (.row R R) (.cons (.row R R) (.cons (.row R R) (.cons (.d _) (.cons (.d _) (.cons (.d _) (.cons (.d _) (.cons (.d _) (.cons (.d _) (.cons (.d _) (.cons (.mpM R) (.cons (.d _) (.cons (.d _) (.cons (.d _) (.cons (.d _) (.cons (.d _) (.cons (.d _) (.cons (.d _) .nil)))))))))))))))))))))))) (.cons (.d _) .nil))) R R ?_
   refine r_eql R R R R ?_ ?_
   ·intro c4
    replace h := ifP c4 h
    refine q_pickT R (q_movD R (q_movD R (q_movD R (ev_yieldJ ?_))))
    (with_reducible apply rgj_yield (ys := [vI x3])); (iterate 7 exact rfl)
    dsimp only [parS]
    refine sw_rg (q_asgD R (ev_end ?_))
    refine ⟨R, swy_rd ?_⟩
    refine sw_block (sw_rg (r_ldR tb R R R R R R R R R (r_nilRef R R R (q_fa tb R (q_fa tb R (r_ldW tb R R R R R R R R R (q_movD R ?_)))))))
    obtain ⟨e2, ie2, h⟩ := bnd h
    refine r_ixI tb R R R R R R (ix0 ie2) (ix1 ie2) R R ?_
    refine r_ldD (y := vI e2) tb R R R R (ix2 (g := fun a => T.d (vI a)) ie2) R R R R ?_
    refine q_add R (r_ixI tb R R R R R R (ix0 ie2) (ix1 ie2) R R ?_)
    obtain ⟨lv2, ilv2, h⟩ := bnd h
    refine r_stQ (a' := ((W (e2 + 1)) : Int)) tb R R R R ie2 R R R R ilv2 R R ?_
    dsimp only [List.set_cons_zero, List.set_cons_succ, WiState_T1, Table_T1]
    first | rw [set_len ilv2] | skip
    refine ev_end (block_norm ?_)
    refine ⟨[some ⟨22, [Table_T1 {rv3 with s_Credit := lv2} 1 2 3 4]⟩, some (lvI rv3.s_Used), some (lvI lv2), some (lvI rv3.s_Last), some (m1w rv3.done), some ⟨1, [.ref 0 22 0 0]⟩, some ⟨3, [.d (WiTurn.d a)]⟩, some ⟨1, [.ref 0 22 0 0]⟩], [0, 1, 2, 3, 4, 5, 6, 7], (vK (.cons R R (.row R (.row R (.row R (.map R (.cons R R (.cons R R (.cons R R .nil)))))))) R), ?_⟩
    with_reducible apply yk_norm
    refine rgj_ev (r_notT R R R (q_pickT R (ev_endJ (thenj_norm (swj_condF R (swj_skip (blockj_norm (thenj_norm (swj_rg (rgj_ev (q_add R (q_movD R (ev_endJ (thenj_norm ?_))))))))))))))
    exact ⟨m3, _, Nat.lt_succ_self _, .prn [0, 1, 9, 10] R, lv2, (W (x3 + 1)), h, R, R⟩
   intro c4
   replace h := ifN c4 h
   refine q_pickT R (q_movD R (q_sk 4 R (q_pickF R (ev_endJ (thenj_norm (swj_condF R (swj_skip (blockj_norm (thenj_norm (swj_rg (rgj_ev (q_add R (q_movD R (ev_endJ (thenj_norm ?_)))))))))))))))
   exact ⟨m3, _, Nat.lt_succ_self _, .prn [0, 1, 9, 10] R, lv, (W (x3 + 1)), h, R, R⟩
  intro c2
  replace h := ifN (Int.not_lt.2 c2) h
  refine ev_endJ (thenj_norm (swj_seq (swj_condF R (swj_exit (thenj_exit (thenj_exit ?_))))))
  subst hK3
  refine blockj_exit ?_
  refine ⟨R, [some ⟨22, [Table_T1 {rv3 with s_Credit := lv} 1 2 3 4]⟩, some (lvI rv3.s_Used), some (lvI lv), some (lvI rv3.s_Last), some (m1w rv3.done), some ⟨1, [.ref 0 22 0 0]⟩, some ⟨3, [.d (WiTurn.d a)]⟩, some ⟨1, [.ref 0 22 0 0]⟩], [0, 1, 2, 3, 4, 5, 6, 7], (vK (.cons R R (.row R (.row R (.row R (.map R (.cons R R (.cons R R (.cons R R .nil)))))))) R), ?_⟩
  refine block_norm (then_norm ?_)
  refine swm_of fun df => ?_
  refine qG (r_ldR tb R R R R R R R R R (r_nilRef R R R (q_fa tb R (q_fa tb R (r_ldW tb R R R R R R R R R (q_movD R ?_))))))
  obtain ⟨e3, ie3, h⟩ := bnd h
  refine r_ixI tb R R R R R R (ix0 ie3) (ix1 ie3) R R ?_
  refine r_ldD (y := vI e3) tb R R R R (ix2 (g := fun a => T.d (vI a)) ie3) R R R R ?_
  refine q_add R (r_ixI tb R R R R R R (ix0 ie3) (ix1 ie3) R R ?_)
  obtain ⟨q, iq, h⟩ := bnd h
  refine r_stQ (a' := ((W (e3 + 1)) : Int)) tb R R R R ie3 R R R R iq R R ?_
  dsimp only [List.set_cons_zero, List.set_cons_succ, WiState_T1, Table_T1]
  first | rw [set_len iq] | skip
  refine eN (sw_seq (sw_dr (by kernel_rfl) (r_ldR tb R R R R R R R R R (r_nilRef R R R (q_fa tb R (q_fa tb R (r_ldW tb R R R R R R R R R (q_movD R (r_ldR tb R R R R R R R R R (r_nilRef R R R (q_fa tb R (q_fa tb R (q_ldD (y := vI rv3.w_Day) tb R ?_)))))))))))))
  obtain ⟨e4, ie4, h⟩ := bnd h
  refine r_ixI tb R R R R R R (ix0 ie4) (ix1 ie4) R R ?_
  obtain ⟨q2, iq2, h⟩ := bnd h
  refine r_stQ (a' := (rv3.w_Day : Int)) tb R R R R ie4 R R R R iq2 R R ?_
  dsimp only [List.set_cons_zero, List.set_cons_succ, WiState_T1, Table_T1]
  first | rw [set_len iq2] | skip
  refine ev_endD (by kernel_rfl) (then_norm (sw_seq (sw_dr (by kernel_rfl) (r_ldR tb R R R R R R R R R (r_nilRef R R R (q_fa tb R (q_fa tb R (r_ldW tb R R R R R R R R R (q_movD R ?_)))))))))
  obtain ⟨e5, ie5, h⟩ := bnd h
  refine r_ixI tb R R R R R R (ix0 ie5) (ix1 ie5) R R ?_
  refine r_ldD (y := vI e5) tb R R R R (ix2 (g := fun a => T.d (vI a)) ie5) R R R R ?_
  refine r_ldR tb R R R R R R R R R (r_nilRef R R R (q_fa tb R (q_fa tb R (q_ldD (y := vI rv3.p_Cost) tb R (r_sub R R R R (r_ixI tb R R R R R R (ix0 ie5) (ix1 ie5) R R ?_))))))
  obtain ⟨lv3, ilv3, h⟩ := bnd h
  refine r_stQ (a' := ((W (e5 - rv3.p_Cost)) : Int)) tb R R R R ie5 R R R R ilv3 R R ?_
  dsimp only [List.set_cons_zero, List.set_cons_succ, WiState_T1, Table_T1]
  first | rw [set_len ilv3] | skip
  refine ev_endD (by kernel_rfl) (then_norm (sw_seq (sw_dr (by kernel_rfl) (r_ldR tb R R R R R R R R R (r_ldR tb R R R R R R R R R (q_movD R (q_fa tb R (q_ldD (y := vI a.at_) tb R (r_nilRef R R R (q_fa tb R (q_fa tb R (q_stE _ ([some ⟨22, [Table_T1 {rv3 with s_Used := q, s_Credit := lv3, s_Last := q2, use_Team := o} 1 2 3 4]⟩, some (lvI q), some (lvI lv3), some (lvI q2), some (m1w rv3.done), some ⟨1, [.ref 0 22 0 0]⟩, some ⟨3, [.d (WiTurn.d a)]⟩, some ⟨1, [.ref 0 22 0 0]⟩]) tb R (r_nilRef R R R ?_)))))))))))))
  refine q_fa tb R (q_fa tb R (q_stE _ ([some ⟨22, [Table_T1 {rv3 with s_Used := q, s_Credit := lv3, s_Last := q2, use_Team := o, use_At := a.at_} 1 2 3 4]⟩, some (lvI q), some (lvI lv3), some (lvI q2), some (m1w rv3.done), some ⟨1, [.ref 0 22 0 0]⟩, some ⟨3, [.d (WiTurn.d a)]⟩, some ⟨1, [.ref 0 22 0 0]⟩]) tb R (ev_endD (by kernel_rfl) (then_norm (sw_seq (qG (r_ldR tb R R R R R R R R R (r_nilRef R R R (q_fa tb R (q_ldD (y := vI rv3.given) tb R ?_))))))))))
  refine r_geq R R R R ?_ ?_
  ·intro c5
   replace h := ifP c5 h
   refine eN (sw_condT R (sw_dr (by kernel_rfl) (r_ldR tb R R R R R R R R R (r_ldR tb R R R R R R R R R (r_nilRef R R R (q_fa tb R (q_ldD (y := vI rv3.by_) tb R (r_nilRef R R R (q_fa tb R (q_fa tb R (q_stE _ ([some ⟨22, [Table_T1 {rv3 with s_Used := q, s_Credit := lv3, s_Last := q2, use_Team := o, use_At := a.at_, use_By := rv3.by_} 1 2 3 4]⟩, some (lvI q), some (lvI lv3), some (lvI q2), some (m1w rv3.done), some ⟨1, [.ref 0 22 0 0]⟩, some ⟨3, [.d (WiTurn.d a)]⟩, some ⟨1, [.ref 0 22 0 0]⟩]) tb R ?_)))))))))))
   refine ev_endD (by kernel_rfl) (then_norm (sw_dr (by kernel_rfl) (r_ldR tb R R R R R R R R R (r_ldR tb R R R R R R R R R (r_ldR tb R R R R R R R R R (q_fa tb R (q_ldD (y := vI a.at_) tb R (r_nilRef R R R (q_fa tb R ?_)))))))))
   refine q_stE _ ([some ⟨22, [Table_T1 {rv3 with s_Used := q, s_Credit := lv3, s_Last := q2, over := true, use_Team := o, use_At := a.at_, use_By := rv3.by_} 1 2 3 4]⟩, some (lvI q), some (lvI lv3), some (lvI q2), some (m1w rv3.done), some ⟨1, [.ref 0 22 0 0]⟩, some ⟨3, [.d (WiTurn.d a)]⟩, some ⟨1, [.ref 0 22 0 0]⟩]) tb R (r_nilRef R R R (q_fa tb R ?_))
   refine q_stE _ ([some ⟨22, [Table_T1 {rv3 with s_Used := q, s_Credit := lv3, s_Last := q2, given := (-1), over := true, use_Team := o, use_At := a.at_, use_By := rv3.by_} 1 2 3 4]⟩, some (lvI q), some (lvI lv3), some (lvI q2), some (m1w rv3.done), some ⟨1, [.ref 0 22 0 0]⟩, some ⟨3, [.d (WiTurn.d a)]⟩, some ⟨1, [.ref 0 22 0 0]⟩]) tb R (r_nilRef R R R (q_fa tb R ?_))
   refine q_stE _ ([some ⟨22, [Table_T1 {rv3 with s_Used := q, s_Credit := lv3, s_Last := q2, minute := a.at_, given := (-1), over := true, use_Team := o, use_At := a.at_, use_By := rv3.by_} 1 2 3 4]⟩, some (lvI q), some (lvI lv3), some (lvI q2), some (m1w rv3.done), some ⟨1, [.ref 0 22 0 0]⟩, some ⟨3, [.d (WiTurn.d a)]⟩, some ⟨1, [.ref 0 22 0 0]⟩]) tb R (ev_endD (by kernel_rfl) ?_)
   obtain rfl := sI h
   exact fin_n (fin_S (t := .d (.tup [])) (L := [some ⟨22, [Table_T1 {rv3 with s_Used := q, s_Credit := lv3, s_Last := q2, minute := a.at_, given := (-1), over := true, use_Team := o, use_At := a.at_, use_By := rv3.by_} 1 2 3 4]⟩, some (lvI q), some (lvI lv3), some (lvI q2), some (m1w rv3.done)]) (κ := [0, 1, 2, 3, 4]) R .nil (vK (.cons R R (.row R (.row R (.row R (.map R .nil))))) R) (.inl ⟨_, R, R, R⟩))
  intro c5
  replace h := ifN (Int.not_le.2 c5) h
  refine eN (sw_condF R (sw_skip (then_norm (sw_dr (by kernel_rfl) (r_ldR tb R R R R R R R R R (r_ldR tb R R R R R R R R R (r_ldR tb R R R R R R R R R (q_fa tb R (q_ldD (y := vI a.at_) tb R (r_nilRef R R R (q_fa tb R ?_)))))))))))
  refine q_stE _ ([some ⟨22, [Table_T1 {rv3 with s_Used := q, s_Credit := lv3, s_Last := q2, over := true, use_Team := o, use_At := a.at_} 1 2 3 4]⟩, some (lvI q), some (lvI lv3), some (lvI q2), some (m1w rv3.done), some ⟨1, [.ref 0 22 0 0]⟩, some ⟨3, [.d (WiTurn.d a)]⟩, some ⟨1, [.ref 0 22 0 0]⟩]) tb R (r_nilRef R R R (q_fa tb R ?_))
  refine q_stE _ ([some ⟨22, [Table_T1 {rv3 with s_Used := q, s_Credit := lv3, s_Last := q2, given := (-1), over := true, use_Team := o, use_At := a.at_} 1 2 3 4]⟩, some (lvI q), some (lvI lv3), some (lvI q2), some (m1w rv3.done), some ⟨1, [.ref 0 22 0 0]⟩, some ⟨3, [.d (WiTurn.d a)]⟩, some ⟨1, [.ref 0 22 0 0]⟩]) tb R (r_nilRef R R R (q_fa tb R ?_))
  refine q_stE _ ([some ⟨22, [Table_T1 {rv3 with s_Used := q, s_Credit := lv3, s_Last := q2, minute := a.at_, given := (-1), over := true, use_Team := o, use_At := a.at_} 1 2 3 4]⟩, some (lvI q), some (lvI lv3), some (lvI q2), some (m1w rv3.done), some ⟨1, [.ref 0 22 0 0]⟩, some ⟨3, [.d (WiTurn.d a)]⟩, some ⟨1, [.ref 0 22 0 0]⟩]) tb R (ev_endD (by kernel_rfl) ?_)
  obtain rfl := sI h
  exact fin_n (fin_S (t := .d (.tup [])) (L := [some ⟨22, [Table_T1 {rv3 with s_Used := q, s_Credit := lv3, s_Last := q2, minute := a.at_, given := (-1), over := true, use_Team := o, use_At := a.at_} 1 2 3 4]⟩, some (lvI q), some (lvI lv3), some (lvI q2), some (m1w rv3.done)]) (κ := [0, 1, 2, 3, 4]) R .nil (vK (.cons R R (.row R (.row R (.row R (.map R .nil))))) R) (.inl ⟨_, R, R, R⟩))
 intro c
 replace h := ifN c h
 refine q_movD R (q_sk 23 R (q_pickF R ?_))
 obtain ⟨rv5, hrv5, h⟩ := bnd h
 rcases ex_or rv5 with ⟨x4, nv2⟩ | ⟨v2, nv2⟩
 ·replace h := (exN nv2).symm.trans h
  refine ev_panD (by kernel_rfl) (by kernel_rfl) ?_
  (with_reducible apply op_call []); exact (window_must_scx hrv5).err nv2; exact rfl; exact .of (by kernel_rfl); exact rfl; exact .inl ⟨rfl, rfl, rfl⟩; (iterate 4 exact rfl); exact .nil; exact rfl
  intro cnt
  refine then_pan ?_
  obtain rfl := sI h
  exact fin_pX (L := [some ⟨22, [Table_T1 t 1 2 3 4]⟩, some (lvI t.s_Used), some (lvI t.s_Credit), some (lvI t.s_Last), some (m1w t.done)]) (κ := [0, 1, 2, 3, 4]) (vK (.cons R R (.row R (.row R (.row R (.map R .nil))))) R) (.inr ⟨_, R, R⟩)
 replace h := (exO nv2).symm.trans h
 refine r_callO (t' := .d (.tup [])) (ls := []) (news := []) ([]) ([some ⟨22, [Table_T1 t 1 2 3 4]⟩, some (lvI t.s_Used), some (lvI t.s_Credit), some (lvI t.s_Last), some (m1w t.done), some ⟨1, [.ref 0 22 0 0]⟩, some ⟨3, [.d (WiTurn.d a)]⟩]) ((window_must_scx hrv5).ok nv2) (.of (by kernel_rfl)) R (.inl ⟨R, R, R⟩) R R R R .nil R R R .nil .nil R R R R (ev_endPD (by kernel_rfl) (then_norm (swm_seq ?_)))
 refine swm_of fun df => ?_
 refine sw_rg (r_ldR tb R R R R R R R R R (r_nilRef R R R (q_fa tb R (r_ldT (.mp 4) tb R R R R R R R R R (q_movD R ?_)))))
 refine r_mset (vf := fun b => .v (.bool b)) (v := true) (q := (mset t.done o true)) ([some ⟨22, [Table_T1 {t with done := (mset t.done o true)} 1 2 3 4]⟩, some (lvI t.s_Used), some (lvI t.s_Credit), some (lvI t.s_Last), some (m1w (mset t.done o true)), some ⟨1, [.ref 0 22 0 0]⟩, some ⟨3, [.d (WiTurn.d a)]⟩]) R R R R R R R R R ?_
 refine eN (swm_seq (swm_seq ?_))
 refine swm_of fun df => ?_
 refine sw_rg (r_ldR tb R R R R R R R R R ?_)
 obtain ⟨rv6, hrv6, h⟩ := bnd h
 refine r_callO (t' := .fn (.func 104) [] [.ref 7 1 0 0]) (ls := [some ⟨22, [Table_T1 rv6 1 2 3 4]⟩, some (lvI rv6.s_Used), some (lvI rv6.s_Credit), some (lvI rv6.s_Last), some (m1w rv6.done)]) (news := [⟨1, [.ref 0 22 0 0]⟩]) ([0, 1, 2, 3, 4]) ([some ⟨22, [Table_T1 rv6 1 2 3 4]⟩, some (lvI rv6.s_Used), some (lvI rv6.s_Credit), some (lvI rv6.s_Last), some (m1w rv6.done), some ⟨1, [.ref 0 22 0 0]⟩, some ⟨3, [.d (WiTurn.d a)]⟩, some ⟨1, [.ref 0 22 0 0]⟩]) (window_table_entitled_m_scr hrv6) (.of (by kernel_rfl)) R (.inl ⟨R, R, R⟩) R R R R ((.cons R R (.row R (.row R (.row R (.map R .nil)))))) R R R ((.cons R (.row (.row (.row (.map .nil)))))) ((.cons R .nil)) R R R R ?_
 refine eN (swm_block ?_)
 refine swm_range (.of (by kernel_rfl)) Try.func104 R R R R R R fun lb => ?_
 simp only [argS, Nat.zero_add, Nat.reduceAdd]
 refine swj_seq (swj_rg (rgj_ev (r_ldR tb R R R R R R R R R (r_nilRef R R R (q_fa tb R (q_fa tb R (q_ldD (y := .arr 9 ((rv6.p_Teams).map WiTeam.d)) tb R (q_lenM tb R (q_movD R (ev_endJ (thenj_norm (swj_block ?_))))))))))))
 obtain ⟨K6, hK6, h⟩ : ∃ K, K = _ ∧ window_table_launch_m_L2 F rv6 K F rv6.s_Credit 0 = some r := ⟨_, rfl, h⟩
 refine swj_loopS (fun m ph st => ∃ (lv4 : (List Int)) (x6 : Int), window_table_launch_m_L2 F rv6 K6 m lv4 x6 = some r ∧ ph = SX.norm ∧ st = ⟨[(0, .d (.v (.func (.yield lb) #[] #[]))), (1, .ref 7 1 0 0), (9, .d (vI (rv6.p_Teams.length : Int))), (10, .d (vI x6))], [some ⟨22, [Table_T1 {rv6 with s_Credit := lv4} 1 2 3 4]⟩, some (lvI rv6.s_Used), some (lvI lv4), some (lvI rv6.s_Last), some (m1w rv6.done), some ⟨1, [.ref 0 22 0 0]⟩, some ⟨3, [.d (WiTurn.d a)]⟩, some ⟨1, [.ref 0 22 0 0]⟩]⟩) (.prn [0, 1, 9, 10] R) ⟨rv6.s_Credit, 0, h, R, R⟩ ?_
 clear h
 rintro m6 ph st ⟨lv4, x6, h, rfl, rfl⟩
 cases m6 with
 | zero => cases (show (none : Option (Except Int Table)) = some r from h)
 | succ m6 =>
 rw [window_table_launch_m_L2] at h
 refine swj_seq (swj_rg (rgj_ev ?_))
 refine r_lss R R R R ?_ ?_
 ·intro c6
  replace h := ifP c6 h
  refine ev_endJ (thenj_norm (swj_seq (swj_condT R (swj_skip (thenj_norm (swj_seq (swj_block (swj_seq (swj_rg (rgj_ev (q_movD R (q_asgD R (ev_endJ (thenj_norm (swj_seq (swj_rg (rgj_ev (r_ldR tb R R R R R R R R R (r_nilRef R R R (q_fa tb R (r_ldT (.mp 4) tb R R R R R R R R R (q_movD R ?_))))))))))))))))))))))
  refine r_lkI (vf := fun b => .v (.bool b)) (z0 := false) (u := .v (.bool ((mget rv6.done x6).getD false))) tb R R R R R R R R R R ?_
  with_reducible apply ev_lit
  ·intro c7
   replace h := ifP c7 h
   refine r_notT R R R (q_movD R (q_sk 4 R (q_pickF R (q_movD R (q_sk 4 R (q_pickF R (ev_endJ (thenj_norm (swj_condF R (swj_skip (blockj_norm (thenj_norm (swj_rg (rgj_ev (q_add R (q_movD R (ev_endJ (thenj_norm ?_))))))))))))))))))
   exact ⟨m6, _, Nat.lt_succ_self _, .prn [0, 1, 9, 10] R, lv4, (W (x6 + 1)), h, R, R⟩
  intro c7
  replace h := ifF c7 h
  refine r_notF R R R (q_movD R (r_ldR tb R R R R R R R R R (q_movD R ?_)))
  obtain ⟨rv7, hrv7, h⟩ := bnd h
  refine r_callL (window_table_why_pc hrv7) R (.of (by kernel_rfl)) R R ((.cons (.ref R (.aggL (.cons (.d _) (.cons (.d _) (.cons (.d _) (.cons (.d _) (.cons (.row R R) (.cons (.row R R) (.cons (.row R R) (.cons (.d _) (.cons (.d _) (.cons (.d _) (.cons (.d _) (.cons (.d _) (.cons (.d _) (.cons (.d _) (.cons (.mpM R) (.cons (.d _) (.cons (.d _) (.cons (.d _) (.cons (.d _) (.cons (.d _) (.cons (.d _) (.cons (.d _) .nil)))))))))))))))))))))))) (.cons (.d _) .nil))) R R ?_
  refine r_eql R R R R ?_ ?_
  ·intro c8
   replace h := ifP c8 h
   refine q_pickT R (q_movD R (q_movD R (q_movD R (ev_yieldJ ?_))))
   (with_reducible apply rgj_yield (ys := [vI x6])); (iterate 7 exact rfl)
   dsimp only [parS]
   refine sw_rg (q_asgD R (ev_end ?_))
   refine ⟨R, swy_rd ?_⟩
   refine sw_block (sw_rg (r_ldR tb R R R R R R R R R (r_nilRef R R R (q_fa tb R (q_fa tb R (r_ldW tb R R R R R R R R R (q_movD R ?_)))))))
   obtain ⟨e6, ie6, h⟩ := bnd h
   refine r_ixI tb R R R R R R (ix0 ie6) (ix1 ie6) R R ?_
   refine r_ldD (y := vI e6) tb R R R R (ix2 (g := fun a => T.d (vI a)) ie6) R R R R ?_
   refine q_add R (r_ixI tb R R R R R R (ix0 ie6) (ix1 ie6) R R ?_)
   obtain ⟨lv5, ilv5, h⟩ := bnd h
   refine r_stQ (a' := ((W (e6 + 1)) : Int)) tb R R R R ie6 R R R R ilv5 R R ?_
   dsimp only [List.set_cons_zero, List.set_cons_succ, WiState_T1, Table_T1]
   first | rw [set_len ilv5] | skip
   refine ev_end (block_norm ?_)
   refine ⟨[some ⟨22, [Table_T1 {rv6 with s_Credit := lv5} 1 2 3 4]⟩, some (lvI rv6.s_Used), some (lvI lv5), some (lvI rv6.s_Last), some (m1w rv6.done), some ⟨1, [.ref 0 22 0 0]⟩, some ⟨3, [.d (WiTurn.d a)]⟩, some ⟨1, [.ref 0 22 0 0]⟩], [0, 1, 2, 3, 4, 5, 6, 7], (vK (.cons R R (.row R (.row R (.row R (.map R (.cons R R (.cons R R (.cons R R .nil)))))))) R), ?_⟩
   with_reducible apply yk_norm
   refine rgj_ev (r_notT R R R (q_pickT R (ev_endJ (thenj_norm (swj_condF R (swj_skip (blockj_norm (thenj_norm (swj_rg (rgj_ev (q_add R (q_movD R (ev_endJ (thenj_norm ?_))))))))))))))
   exact ⟨m6, _, Nat.lt_succ_self _, .prn [0, 1, 9, 10] R, lv5, (W (x6 + 1)), h, R, R⟩
  intro c8
  replace h := ifN c8 h
  refine q_pickT R (q_movD R (q_sk 4 R (q_pickF R (ev_endJ (thenj_norm (swj_condF R (swj_skip (blockj_norm (thenj_norm (swj_rg (rgj_ev (q_add R (q_movD R (ev_endJ (thenj_norm ?_)))))))))))))))
  exact ⟨m6, _, Nat.lt_succ_self _, .prn [0, 1, 9, 10] R, lv4, (W (x6 + 1)), h, R, R⟩
 intro c6
 replace h := ifN (Int.not_lt.2 c6) h
 refine ev_endJ (thenj_norm (swj_seq (swj_condF R (swj_exit (thenj_exit (thenj_exit ?_))))))
 subst hK6
 refine blockj_exit ?_
 refine ⟨R, [some ⟨22, [Table_T1 {rv6 with s_Credit := lv4} 1 2 3 4]⟩, some (lvI rv6.s_Used), some (lvI lv4), some (lvI rv6.s_Last), some (m1w rv6.done), some ⟨1, [.ref 0 22 0 0]⟩, some ⟨3, [.d (WiTurn.d a)]⟩, some ⟨1, [.ref 0 22 0 0]⟩], [0, 1, 2, 3, 4, 5, 6, 7], (vK (.cons R R (.row R (.row R (.row R (.map R (.cons R R (.cons R R (.cons R R .nil)))))))) R), ?_⟩
 refine block_norm (then_norm ?_)
 refine swm_of fun df => ?_
 refine qG (r_ldR tb R R R R R R R R R (r_nilRef R R R (q_fa tb R (q_fa tb R (r_ldW tb R R R R R R R R R (q_movD R ?_))))))
 obtain ⟨e7, ie7, h⟩ := bnd h
 refine r_ixI tb R R R R R R (ix0 ie7) (ix1 ie7) R R ?_
 refine r_ldD (y := vI e7) tb R R R R (ix2 (g := fun a => T.d (vI a)) ie7) R R R R ?_
 refine q_add R (r_ixI tb R R R R R R (ix0 ie7) (ix1 ie7) R R ?_)
 obtain ⟨q3, iq3, h⟩ := bnd h
 refine r_stQ (a' := ((W (e7 + 1)) : Int)) tb R R R R ie7 R R R R iq3 R R ?_
 dsimp only [List.set_cons_zero, List.set_cons_succ, WiState_T1, Table_T1]
 first | rw [set_len iq3] | skip
 refine eN (sw_seq (sw_dr (by kernel_rfl) (r_ldR tb R R R R R R R R R (r_nilRef R R R (q_fa tb R (q_fa tb R (r_ldW tb R R R R R R R R R (q_movD R (r_ldR tb R R R R R R R R R (r_nilRef R R R (q_fa tb R (q_fa tb R (q_ldD (y := vI rv6.w_Day) tb R ?_)))))))))))))
 obtain ⟨e8, ie8, h⟩ := bnd h
 refine r_ixI tb R R R R R R (ix0 ie8) (ix1 ie8) R R ?_
 obtain ⟨q4, iq4, h⟩ := bnd h
 refine r_stQ (a' := (rv6.w_Day : Int)) tb R R R R ie8 R R R R iq4 R R ?_
 dsimp only [List.set_cons_zero, List.set_cons_succ, WiState_T1, Table_T1]
 first | rw [set_len iq4] | skip
 refine ev_endD (by kernel_rfl) (then_norm (sw_seq (sw_dr (by kernel_rfl) (r_ldR tb R R R R R R R R R (r_nilRef R R R (q_fa tb R (q_fa tb R (r_ldW tb R R R R R R R R R (q_movD R ?_)))))))))
 obtain ⟨e9, ie9, h⟩ := bnd h
 refine r_ixI tb R R R R R R (ix0 ie9) (ix1 ie9) R R ?_
 refine r_ldD (y := vI e9) tb R R R R (ix2 (g := fun a => T.d (vI a)) ie9) R R R R ?_
 refine r_ldR tb R R R R R R R R R (r_nilRef R R R (q_fa tb R (q_fa tb R (q_ldD (y := vI rv6.p_Cost) tb R (r_sub R R R R (r_ixI tb R R R R R R (ix0 ie9) (ix1 ie9) R R ?_))))))
 obtain ⟨lv6, ilv6, h⟩ := bnd h
 refine r_stQ (a' := ((W (e9 - rv6.p_Cost)) : Int)) tb R R R R ie9 R R R R ilv6 R R ?_
 dsimp only [List.set_cons_zero, List.set_cons_succ, WiState_T1, Table_T1]
 first | rw [set_len ilv6] | skip
 refine ev_endD (by kernel_rfl) (then_norm (sw_seq (sw_dr (by kernel_rfl) (r_ldR tb R R R R R R R R R (r_ldR tb R R R R R R R R R (q_movD R (q_fa tb R (q_ldD (y := vI a.at_) tb R (r_nilRef R R R (q_fa tb R (q_fa tb R (q_stE _ ([some ⟨22, [Table_T1 {rv6 with s_Used := q3, s_Credit := lv6, s_Last := q4, use_Team := o} 1 2 3 4]⟩, some (lvI q3), some (lvI lv6), some (lvI q4), some (m1w rv6.done), some ⟨1, [.ref 0 22 0 0]⟩, some ⟨3, [.d (WiTurn.d a)]⟩, some ⟨1, [.ref 0 22 0 0]⟩]) tb R (r_nilRef R R R ?_)))))))))))))
 refine q_fa tb R (q_fa tb R (q_stE _ ([some ⟨22, [Table_T1 {rv6 with s_Used := q3, s_Credit := lv6, s_Last := q4, use_Team := o, use_At := a.at_} 1 2 3 4]⟩, some (lvI q3), some (lvI lv6), some (lvI q4), some (m1w rv6.done), some ⟨1, [.ref 0 22 0 0]⟩, some ⟨3, [.d (WiTurn.d a)]⟩, some ⟨1, [.ref 0 22 0 0]⟩]) tb R (ev_endD (by kernel_rfl) (then_norm (sw_seq (qG (r_ldR tb R R R R R R R R R (r_nilRef R R R (q_fa tb R (q_ldD (y := vI rv6.given) tb R ?_))))))))))
 refine r_geq R R R R ?_ ?_
 ·intro c9
  replace h := ifP c9 h
  refine eN (sw_condT R (sw_dr (by kernel_rfl) (r_ldR tb R R R R R R R R R (r_ldR tb R R R R R R R R R (r_nilRef R R R (q_fa tb R (q_ldD (y := vI rv6.by_) tb R (r_nilRef R R R (q_fa tb R (q_fa tb R (q_stE _ ([some ⟨22, [Table_T1 {rv6 with s_Used := q3, s_Credit := lv6, s_Last := q4, use_Team := o, use_At := a.at_, use_By := rv6.by_} 1 2 3 4]⟩, some (lvI q3), some (lvI lv6), some (lvI q4), some (m1w rv6.done), some ⟨1, [.ref 0 22 0 0]⟩, some ⟨3, [.d (WiTurn.d a)]⟩, some ⟨1, [.ref 0 22 0 0]⟩]) tb R ?_)))))))))))
  refine ev_endD (by kernel_rfl) (then_norm (sw_dr (by kernel_rfl) (r_ldR tb R R R R R R R R R (r_ldR tb R R R R R R R R R (r_ldR tb R R R R R R R R R (q_fa tb R (q_ldD (y := vI a.at_) tb R (r_nilRef R R R (q_fa tb R ?_)))))))))
  refine q_stE _ ([some ⟨22, [Table_T1 {rv6 with s_Used := q3, s_Credit := lv6, s_Last := q4, over := true, use_Team := o, use_At := a.at_, use_By := rv6.by_} 1 2 3 4]⟩, some (lvI q3), some (lvI lv6), some (lvI q4), some (m1w rv6.done), some ⟨1, [.ref 0 22 0 0]⟩, some ⟨3, [.d (WiTurn.d a)]⟩, some ⟨1, [.ref 0 22 0 0]⟩]) tb R (r_nilRef R R R (q_fa tb R ?_))
  refine q_stE _ ([some ⟨22, [Table_T1 {rv6 with s_Used := q3, s_Credit := lv6, s_Last := q4, given := (-1), over := true, use_Team := o, use_At := a.at_, use_By := rv6.by_} 1 2 3 4]⟩, some (lvI q3), some (lvI lv6), some (lvI q4), some (m1w rv6.done), some ⟨1, [.ref 0 22 0 0]⟩, some ⟨3, [.d (WiTurn.d a)]⟩, some ⟨1, [.ref 0 22 0 0]⟩]) tb R (r_nilRef R R R (q_fa tb R ?_))
  refine q_stE _ ([some ⟨22, [Table_T1 {rv6 with s_Used := q3, s_Credit := lv6, s_Last := q4, minute := a.at_, given := (-1), over := true, use_Team := o, use_At := a.at_, use_By := rv6.by_} 1 2 3 4]⟩, some (lvI q3), some (lvI lv6), some (lvI q4), some (m1w rv6.done), some ⟨1, [.ref 0 22 0 0]⟩, some ⟨3, [.d (WiTurn.d a)]⟩, some ⟨1, [.ref 0 22 0 0]⟩]) tb R (ev_endD (by kernel_rfl) ?_)
  obtain rfl := sI h
  exact fin_n (fin_S (t := .d (.tup [])) (L := [some ⟨22, [Table_T1 {rv6 with s_Used := q3, s_Credit := lv6, s_Last := q4, minute := a.at_, given := (-1), over := true, use_Team := o, use_At := a.at_, use_By := rv6.by_} 1 2 3 4]⟩, some (lvI q3), some (lvI lv6), some (lvI q4), some (m1w rv6.done)]) (κ := [0, 1, 2, 3, 4]) R .nil (vK (.cons R R (.row R (.row R (.row R (.map R .nil))))) R) (.inl ⟨_, R, R, R⟩))
 intro c9
 replace h := ifN (Int.not_le.2 c9) h
 refine eN (sw_condF R (sw_skip (then_norm (sw_dr (by kernel_rfl) (r_ldR tb R R R R R R R R R (r_ldR tb R R R R R R R R R (r_ldR tb R R R R R R R R R (q_fa tb R (q_ldD (y := vI a.at_) tb R (r_nilRef R R R (q_fa tb R ?_)))))))))))
 refine q_stE _ ([some ⟨22, [Table_T1 {rv6 with s_Used := q3, s_Credit := lv6, s_Last := q4, over := true, use_Team := o, use_At := a.at_} 1 2 3 4]⟩, some (lvI q3), some (lvI lv6), some (lvI q4), some (m1w rv6.done), some ⟨1, [.ref 0 22 0 0]⟩, some ⟨3, [.d (WiTurn.d a)]⟩, some ⟨1, [.ref 0 22 0 0]⟩]) tb R (r_nilRef R R R (q_fa tb R ?_))
 refine q_stE _ ([some ⟨22, [Table_T1 {rv6 with s_Used := q3, s_Credit := lv6, s_Last := q4, given := (-1), over := true, use_Team := o, use_At := a.at_} 1 2 3 4]⟩, some (lvI q3), some (lvI lv6), some (lvI q4), some (m1w rv6.done), some ⟨1, [.ref 0 22 0 0]⟩, some ⟨3, [.d (WiTurn.d a)]⟩, some ⟨1, [.ref 0 22 0 0]⟩]) tb R (r_nilRef R R R (q_fa tb R ?_))
 refine q_stE _ ([some ⟨22, [Table_T1 {rv6 with s_Used := q3, s_Credit := lv6, s_Last := q4, minute := a.at_, given := (-1), over := true, use_Team := o, use_At := a.at_} 1 2 3 4]⟩, some (lvI q3), some (lvI lv6), some (lvI q4), some (m1w rv6.done), some ⟨1, [.ref 0 22 0 0]⟩, some ⟨3, [.d (WiTurn.d a)]⟩, some ⟨1, [.ref 0 22 0 0]⟩]) tb R (ev_endD (by kernel_rfl) ?_)
 obtain rfl := sI h
 exact fin_n (fin_S (t := .d (.tup [])) (L := [some ⟨22, [Table_T1 {rv6 with s_Used := q3, s_Credit := lv6, s_Last := q4, minute := a.at_, given := (-1), over := true, use_Team := o, use_At := a.at_} 1 2 3 4]⟩, some (lvI q3), some (lvI lv6), some (lvI q4), some (m1w rv6.done)]) (κ := [0, 1, 2, 3, 4]) R .nil (vK (.cons R R (.row R (.row R (.row R (.map R .nil))))) R) (.inl ⟨_, R, R, R⟩))
def window_table_act_m (F : Nat) (b : Table) (x : WiTurn) : Option (Except Int Table) := Option.bind (window_table_turn F b) fun rv => Option.bind (window_must F (decide (0 ≤ rv)) 9) fun rv2 => exE rv2 (fun x2 => some (.error x2)) (fun v => if x.what = 1 then (Option.bind (window_must F true 2) fun rv3 => exE rv3 (fun x3 => some (.error x3)) (fun v2 => Option.bind (window_table_launch_m F b rv x) fun rv4 => exE rv4 (fun x4 => some (.error x4)) (fun v3 => some (.ok v3)))) else if x.what = 2 then (Option.bind (window_must F true 2) fun rv5 => exE rv5 (fun x5 => some (.error x5)) (fun v4 => Option.bind (window_table_scrub_m F b rv x) fun rv6 => exE rv6 (fun x6 => some (.error x6)) (fun v5 => some (.ok v5)))) else if x.what = 3 then (Option.bind (window_must F true 2) fun rv7 => exE rv7 (fun x7 => some (.error x7)) (fun v6 => Option.bind (window_table_give_m F b rv x) fun rv8 => exE rv8 (fun x8 => some (.error x8)) (fun v7 => some (.ok v7)))) else (Option.bind (window_must F false 2) fun rv9 => exE rv9 (fun x9 => some (.error x9)) (fun v8 => none)))
theorem window_table_act_m_dfc : DfC Try.prog 97 29 := ⟨fun b w => by
 refine callsDIn_of_wpSIn Try.func97 R trivial fun c₀ cs hu => ?_
 apply wpSIn_seq
 apply wpSIn_region
 simp [wpOpsSIn, go_sem, recoverD, hu, Try.ntmps97, Exit.thenS]
 apply wpSIn_seq
 apply wpSIn_region
 simp [wpOpsSIn, go_sem, Exit.thenS]
 refine wpSIn_cond (t := false) (by simp [Act.eval, Array.replicate]) ?_
 simp only [Bool.false_eq_true, if_false]
 refine wpSIn_of_wpIn R (wpIn_skip ?_)
 cases c₀
 simp_all [bodyPostS, results, Try.results97], fun b E older w v cells e hb hc => by
 have hta : ∀ w : World, (Instr.typeAssert (.iface 29 (.int .i64 E)) 20 29 false).run Try.prog w = .ok (.int .i64 E) w := fun _ => by kernel_rfl
 refine callsDIn_of_wpSIn Try.func97 R trivial fun c₀ cs hu => ?_
 apply wpSIn_seq
 apply wpSIn_region
 simp [wpOpsSIn, go_sem, recoverD, hu, Try.ntmps97, Exit.thenS]
 apply wpSIn_seq
 apply wpSIn_region
 simp [wpOpsSIn, go_sem, Exit.thenS]
 refine wpSIn_cond (t := true) (by simp [Act.eval, Array.replicate]) ?_
 simp only [if_true]
 apply wpSIn_region
 simp [wpOpsSIn, go_sem, Exit.thenS, hta]
 have h1 : w.cell? ⟨b, 0, none⟩ = some v := by simp [World.cell?, hb, hc]
 have h2 : w.frozen? ⟨b, 0, none⟩ = false := by simp [World.frozen?, hb]
 rw [h1, h2]
 simp [bodyPostS, results, Try.results97]⟩
theorem window_table_act_m_sca {F : Nat} {b : Table} {x : WiTurn} {r : (Except Int Table)} (h : window_table_act_m F b x = some r) : SCA Try.prog 77 [.ref 0 22 0 0, .d (WiTurn.d x)] [some ⟨22, [Table_T1 b 1 2 3 4]⟩, some (lvI b.s_Used), some (lvI b.s_Credit), some (lvI b.s_Last), some (m1w b.done)] r (.d (.v (.int .i64 0))) (fun (a : Table) => [some ⟨22, [Table_T1 a 1 2 3 4]⟩, some (lvI a.s_Used), some (lvI a.s_Credit), some (lvI a.s_Last), some (m1w a.done)]) (fun e => .d (.v (.int .i64 e))) [none, none, none, none, none] := by
 rw [window_table_act_m] at h
 refine SC.of_swd Try.func77 R R R ?_
 dsimp only [argS, List.map]
 refine swd_seq (sw_rg (q_box R (r_alloc tb R R R R R (ev_end ?_))))
 refine ⟨R, ?_⟩
 refine swd_defer window_table_act_m_dfc (.of (by kernel_rfl)) (r_func R R R R ?_)
 refine ev_stop ⟨8, 6, _, _, _, R, R, by simp, fun df => ?_⟩
 refine qG (r_movR R R R ?_)
 obtain ⟨rv, hrv, h⟩ := bnd h
 refine r_callL (window_table_turn_pc hrv) R (.of (by kernel_rfl)) R R ((.cons (.ref R (.aggL (.cons (.d _) (.cons (.d _) (.cons (.d _) (.cons (.d _) (.cons (.row R R) (.cons (.row R R) (.cons (.row R R) (.cons (.d _) (.cons (.d _) (.cons (.d _) (.cons (.d _) (.cons (.d _) (.cons (.d _) (.cons (.d _) (.cons (.mpM R) (.cons (.d _) (.cons (.d _) (.cons (.d _) (.cons (.d _) (.cons (.d _) (.cons (.d _) (.cons (.d _) .nil)))))))))))))))))))))))) .nil)) R R (q_asgD R (eN (sw_seq (sw_rgP (q_movD R (r_geqV R R R R ?_))))))
 obtain ⟨rv2, hrv2, h⟩ := bnd h
 rcases ex_or rv2 with ⟨x2, nv⟩ | ⟨v, nv⟩
 ·replace h := (exN nv).symm.trans h
  refine ev_pan ?_
  (with_reducible apply op_call []); exact (window_must_scx hrv2).err nv; exact rfl; exact .of (by kernel_rfl); exact rfl; exact .inl ⟨rfl, rfl, rfl⟩; (iterate 4 exact rfl); exact .nil; exact rfl
  intro cnt
  refine then_pan ?_
  obtain rfl := sI h
  refine ⟨_, _, R, R, ?_⟩
  exact (fin_S (t := .d (vI x2)) (L := [none, none, none, none, none]) (κ := [0, 1, 2, 3, 4]) R (.cons (rcell tb (u := .d (vI x2)) R R R R R R R) .nil) (vwK R R (.gone R (.gone R (.gone R (.gone R (.gone R .nil))))) (.cons R R .nil)) (.inr ⟨_, R, R, R⟩))
 replace h := (exO nv).symm.trans h
 refine r_callO (t' := .d (.tup [])) (ls := []) (news := []) ([]) ([some ⟨22, [Table_T1 b 1 2 3 4]⟩, some (lvI b.s_Used), some (lvI b.s_Credit), some (lvI b.s_Last), some (m1w b.done), some ⟨3, [.d (WiTurn.d x)]⟩, some ⟨1, [.d (vI 0)]⟩]) ((window_must_scx hrv2).ok nv) (.of (by kernel_rfl)) R (.inl ⟨R, R, R⟩) R R R R .nil R R R .nil .nil R R R R (ev_endP (then_norm (qG (r_makeMap R R R (r_movR R R R (r_func R R R R ?_))))))
 refine r_insT (([] : List (Int × T))) (([(1, .fn (.func 99) [.ref 0 22 0 0] [])] : List (Int × T))) ([some ⟨22, [Table_T1 b 1 2 3 4]⟩, some (lvI b.s_Used), some (lvI b.s_Credit), some (lvI b.s_Last), some (m1w b.done), some ⟨3, [.d (WiTurn.d x)]⟩, some ⟨1, [.d (vI 0)]⟩, some ⟨0, (([(1, .fn (.func 99) [.ref 0 22 0 0] [])] : List (Int × T))).map fun p => .agg [.d (vI p.1), p.2]⟩]) R R R R R R R R R ?_
 refine r_movR R R R (r_func R R R R ?_)
 refine r_insT (([(1, .fn (.func 99) [.ref 0 22 0 0] [])] : List (Int × T))) (([(1, .fn (.func 99) [.ref 0 22 0 0] []), (2, .fn (.func 100) [.ref 0 22 0 0] [])] : List (Int × T))) ([some ⟨22, [Table_T1 b 1 2 3 4]⟩, some (lvI b.s_Used), some (lvI b.s_Credit), some (lvI b.s_Last), some (m1w b.done), some ⟨3, [.d (WiTurn.d x)]⟩, some ⟨1, [.d (vI 0)]⟩, some ⟨0, (([(1, .fn (.func 99) [.ref 0 22 0 0] []), (2, .fn (.func 100) [.ref 0 22 0 0] [])] : List (Int × T))).map fun p => .agg [.d (vI p.1), p.2]⟩]) R R R R R R R R R ?_
 refine r_movR R R R (r_func R R R R ?_)
 refine r_insT (([(1, .fn (.func 99) [.ref 0 22 0 0] []), (2, .fn (.func 100) [.ref 0 22 0 0] [])] : List (Int × T))) (([(1, .fn (.func 99) [.ref 0 22 0 0] []), (2, .fn (.func 100) [.ref 0 22 0 0] []), (3, .fn (.func 101) [.ref 0 22 0 0] [])] : List (Int × T))) ([some ⟨22, [Table_T1 b 1 2 3 4]⟩, some (lvI b.s_Used), some (lvI b.s_Credit), some (lvI b.s_Last), some (m1w b.done), some ⟨3, [.d (WiTurn.d x)]⟩, some ⟨1, [.d (vI 0)]⟩, some ⟨0, (([(1, .fn (.func 99) [.ref 0 22 0 0] []), (2, .fn (.func 100) [.ref 0 22 0 0] []), (3, .fn (.func 101) [.ref 0 22 0 0] [])] : List (Int × T))).map fun p => .agg [.d (vI p.1), p.2]⟩]) R R R R R R R R R ?_
 refine r_movT (.mp 7) R R R (q_fa tb R (q_ldD (y := vI x.what) tb R ?_))
 by_cases c : x.what = 1
 ·replace h := ifP c h
  refine r_lkT (([(1, .fn (.func 99) [.ref 0 22 0 0] []), (2, .fn (.func 100) [.ref 0 22 0 0] []), (3, .fn (.func 101) [.ref 0 22 0 0] [])] : List (Int × T))) tb R R R R R R (by simp [mget, c]; try rfl) R R (r_movT (.tup [.fn (.func 99) [.ref 0 22 0 0] [], .d (.v (.bool true))]) R R R (r_ext (t := .fn (.func 99) [.ref 0 22 0 0] []) R R R R (r_ext (t := .d (.v (.bool true))) R R R R (r_asgF R R R (q_asgD R (eN (sw_seq (sw_rgP (q_movD R ?_)))))))))
  obtain ⟨rv3, hrv3, h⟩ := bnd h
  rcases ex_or rv3 with ⟨x3, nv2⟩ | ⟨v2, nv2⟩
  ·replace h := (exN nv2).symm.trans h
   refine ev_pan ?_
   (with_reducible apply op_call []); exact (window_must_scx hrv3).err nv2; exact rfl; exact .of (by kernel_rfl); exact rfl; exact .inl ⟨rfl, rfl, rfl⟩; (iterate 4 exact rfl); exact .nil; exact rfl
   intro cnt
   refine then_pan ?_
   obtain rfl := sI h
   refine ⟨_, _, R, R, ?_⟩
   exact (fin_S (t := .d (vI x3)) (L := [none, none, none, none, none]) (κ := [0, 1, 2, 3, 4]) R (.cons (rcell tb (u := .d (vI x3)) R R R R R R R) .nil) (vwK R R (.gone R (.gone R (.gone R (.gone R (.gone R .nil))))) (.cons R R .nil)) (.inr ⟨_, R, R, R⟩))
  replace h := (exO nv2).symm.trans h
  refine r_callO (t' := .d (.tup [])) (ls := []) (news := []) ([]) ([some ⟨22, [Table_T1 b 1 2 3 4]⟩, some (lvI b.s_Used), some (lvI b.s_Credit), some (lvI b.s_Last), some (m1w b.done), some ⟨3, [.d (WiTurn.d x)]⟩, some ⟨1, [.d (vI 0)]⟩, some ⟨0, (([(1, .fn (.func 99) [.ref 0 22 0 0] []), (2, .fn (.func 100) [.ref 0 22 0 0] []), (3, .fn (.func 101) [.ref 0 22 0 0] [])] : List (Int × T))).map fun p => .agg [.d (vI p.1), p.2]⟩]) ((window_must_scx hrv3).ok nv2) (.of (by kernel_rfl)) R (.inl ⟨R, R, R⟩) R R R R .nil R R R .nil .nil R R R R ?_
  refine ev_endP (then_norm (sw_seq (sw_rgP (r_movF R R R (q_movD R (q_ldD (y := WiTurn.d x) tb R ?_))))))
  obtain ⟨rv4, hrv4, h⟩ := bnd h
  rcases ex_or rv4 with ⟨x4, nv3⟩ | ⟨v3, nv3⟩
  ·replace h := (exN nv3).symm.trans h
   refine ev_pan ?_
   (with_reducible apply op_call [0, 1, 2, 3, 4]); exact (window_table_launch_m_scx hrv4).err nv3; exact rfl; exact .of (by kernel_rfl); exact rfl; exact .inr rfl; (iterate 4 exact rfl); exact (.cons rfl rfl (.row rfl (.row rfl (.row rfl (.map rfl .nil))))); exact rfl
   intro cnt
   refine then_pan ?_
   obtain rfl := sI h
   refine ⟨_, _, R, R, ?_⟩
   exact (fin_S (t := .d (vI x4)) (L := [none, none, none, none, none]) (κ := [0, 1, 2, 3, 4]) R (.cons (rcell tb (u := .d (vI x4)) R R R R R R R) .nil) (vwK R R (.gone R (.gone R (.gone R (.gone R (.gone R .nil))))) (.cons R R .nil)) (.inr ⟨_, R, R, R⟩))
  replace h := (exO nv3).symm.trans h
  refine r_callO (t' := .d (.tup [])) (ls := [some ⟨22, [Table_T1 v3 1 2 3 4]⟩, some (lvI v3.s_Used), some (lvI v3.s_Credit), some (lvI v3.s_Last), some (m1w v3.done)]) (news := []) ([0, 1, 2, 3, 4]) ([some ⟨22, [Table_T1 v3 1 2 3 4]⟩, some (lvI v3.s_Used), some (lvI v3.s_Credit), some (lvI v3.s_Last), some (m1w v3.done), some ⟨3, [.d (WiTurn.d x)]⟩, some ⟨1, [.d (vI 0)]⟩, some ⟨0, (([(1, .fn (.func 99) [.ref 0 22 0 0] []), (2, .fn (.func 100) [.ref 0 22 0 0] []), (3, .fn (.func 101) [.ref 0 22 0 0] [])] : List (Int × T))).map fun p => .agg [.d (vI p.1), p.2]⟩]) ((window_table_launch_m_scx hrv4).ok nv3) (.of (by kernel_rfl)) R (.inr R) R R R R ((.cons R R (.row R (.row R (.row R (.map R .nil)))))) R R R ((.cons R (.row (.row (.row (.map .nil)))))) .nil R R R R ?_
  refine ev_endP (then_norm (qG (q_stE _ _ tb R (eN (sw_ret ?_)))))
  obtain rfl := sI h
  exact qd_ret (fin_S (t := .d (vI 0)) (L := [some ⟨22, [Table_T1 v3 1 2 3 4]⟩, some (lvI v3.s_Used), some (lvI v3.s_Credit), some (lvI v3.s_Last), some (m1w v3.done)]) (κ := [0, 1, 2, 3, 4]) R (.cons (rcell tb (u := .d (vI 0)) R R R R R R R) .nil) (vK (.cons R R (.row R (.row R (.row R (.map R .nil))))) R) (.inl ⟨_, R, R, R⟩))
 replace h := ifN c h
 by_cases c2 : x.what = 2
 ·replace h := ifP c2 h
  refine r_lkT (([(1, .fn (.func 99) [.ref 0 22 0 0] []), (2, .fn (.func 100) [.ref 0 22 0 0] []), (3, .fn (.func 101) [.ref 0 22 0 0] [])] : List (Int × T))) tb R R R R R R (by simp [mget, c2]; try rfl) R R (r_movT (.tup [.fn (.func 100) [.ref 0 22 0 0] [], .d (.v (.bool true))]) R R R (r_ext (t := .fn (.func 100) [.ref 0 22 0 0] []) R R R R (r_ext (t := .d (.v (.bool true))) R R R R (r_asgF R R R (q_asgD R (eN (sw_seq (sw_rgP (q_movD R ?_)))))))))
  obtain ⟨rv5, hrv5, h⟩ := bnd h
  rcases ex_or rv5 with ⟨x5, nv4⟩ | ⟨v4, nv4⟩
  ·replace h := (exN nv4).symm.trans h
   refine ev_pan ?_
   (with_reducible apply op_call []); exact (window_must_scx hrv5).err nv4; exact rfl; exact .of (by kernel_rfl); exact rfl; exact .inl ⟨rfl, rfl, rfl⟩; (iterate 4 exact rfl); exact .nil; exact rfl
   intro cnt
   refine then_pan ?_
   obtain rfl := sI h
   refine ⟨_, _, R, R, ?_⟩
   exact (fin_S (t := .d (vI x5)) (L := [none, none, none, none, none]) (κ := [0, 1, 2, 3, 4]) R (.cons (rcell tb (u := .d (vI x5)) R R R R R R R) .nil) (vwK R R (.gone R (.gone R (.gone R (.gone R (.gone R .nil))))) (.cons R R .nil)) (.inr ⟨_, R, R, R⟩))
  replace h := (exO nv4).symm.trans h
  refine r_callO (t' := .d (.tup [])) (ls := []) (news := []) ([]) ([some ⟨22, [Table_T1 b 1 2 3 4]⟩, some (lvI b.s_Used), some (lvI b.s_Credit), some (lvI b.s_Last), some (m1w b.done), some ⟨3, [.d (WiTurn.d x)]⟩, some ⟨1, [.d (vI 0)]⟩, some ⟨0, (([(1, .fn (.func 99) [.ref 0 22 0 0] []), (2, .fn (.func 100) [.ref 0 22 0 0] []), (3, .fn (.func 101) [.ref 0 22 0 0] [])] : List (Int × T))).map fun p => .agg [.d (vI p.1), p.2]⟩]) ((window_must_scx hrv5).ok nv4) (.of (by kernel_rfl)) R (.inl ⟨R, R, R⟩) R R R R .nil R R R .nil .nil R R R R ?_
  refine ev_endP (then_norm (sw_seq (sw_rgP (r_movF R R R (q_movD R (q_ldD (y := WiTurn.d x) tb R ?_))))))
  obtain ⟨rv6, hrv6, h⟩ := bnd h
  rcases ex_or rv6 with ⟨x6, nv5⟩ | ⟨v5, nv5⟩
  ·replace h := (exN nv5).symm.trans h
   refine ev_pan ?_
   (with_reducible apply op_call [0, 1, 2, 3, 4]); exact (window_table_scrub_m_scx hrv6).err nv5; exact rfl; exact .of (by kernel_rfl); exact rfl; exact .inr rfl; (iterate 4 exact rfl); exact (.cons rfl rfl (.row rfl (.row rfl (.row rfl (.map rfl .nil))))); exact rfl
   intro cnt
   refine then_pan ?_
   obtain rfl := sI h
   refine ⟨_, _, R, R, ?_⟩
   exact (fin_S (t := .d (vI x6)) (L := [none, none, none, none, none]) (κ := [0, 1, 2, 3, 4]) R (.cons (rcell tb (u := .d (vI x6)) R R R R R R R) .nil) (vwK R R (.gone R (.gone R (.gone R (.gone R (.gone R .nil))))) (.cons R R .nil)) (.inr ⟨_, R, R, R⟩))
  replace h := (exO nv5).symm.trans h
  refine r_callO (t' := .d (.tup [])) (ls := [some ⟨22, [Table_T1 v5 1 2 3 4]⟩, some (lvI v5.s_Used), some (lvI v5.s_Credit), some (lvI v5.s_Last), some (m1w v5.done)]) (news := []) ([0, 1, 2, 3, 4]) ([some ⟨22, [Table_T1 v5 1 2 3 4]⟩, some (lvI v5.s_Used), some (lvI v5.s_Credit), some (lvI v5.s_Last), some (m1w v5.done), some ⟨3, [.d (WiTurn.d x)]⟩, some ⟨1, [.d (vI 0)]⟩, some ⟨0, (([(1, .fn (.func 99) [.ref 0 22 0 0] []), (2, .fn (.func 100) [.ref 0 22 0 0] []), (3, .fn (.func 101) [.ref 0 22 0 0] [])] : List (Int × T))).map fun p => .agg [.d (vI p.1), p.2]⟩]) ((window_table_scrub_m_scx hrv6).ok nv5) (.of (by kernel_rfl)) R (.inr R) R R R R ((.cons R R (.row R (.row R (.row R (.map R .nil)))))) R R R ((.cons R (.row (.row (.row (.map .nil)))))) .nil R R R R ?_
  refine ev_endP (then_norm (qG (q_stE _ _ tb R (eN (sw_ret ?_)))))
  obtain rfl := sI h
  exact qd_ret (fin_S (t := .d (vI 0)) (L := [some ⟨22, [Table_T1 v5 1 2 3 4]⟩, some (lvI v5.s_Used), some (lvI v5.s_Credit), some (lvI v5.s_Last), some (m1w v5.done)]) (κ := [0, 1, 2, 3, 4]) R (.cons (rcell tb (u := .d (vI 0)) R R R R R R R) .nil) (vK (.cons R R (.row R (.row R (.row R (.map R .nil))))) R) (.inl ⟨_, R, R, R⟩))
 replace h := ifN c2 h
 by_cases c3 : x.what = 3
 ·replace h := ifP c3 h
  refine r_lkT (([(1, .fn (.func 99) [.ref 0 22 0 0] []), (2, .fn (.func 100) [.ref 0 22 0 0] []), (3, .fn (.func 101) [.ref 0 22 0 0] [])] : List (Int × T))) tb R R R R R R (by simp [mget, c3]; try rfl) R R (r_movT (.tup [.fn (.func 101) [.ref 0 22 0 0] [], .d (.v (.bool true))]) R R R (r_ext (t := .fn (.func 101) [.ref 0 22 0 0] []) R R R R (r_ext (t := .d (.v (.bool true))) R R R R (r_asgF R R R (q_asgD R (eN (sw_seq (sw_rgP (q_movD R ?_)))))))))
  obtain ⟨rv7, hrv7, h⟩ := bnd h
  rcases ex_or rv7 with ⟨x7, nv6⟩ | ⟨v6, nv6⟩
  ·replace h := (exN nv6).symm.trans h
   refine ev_pan ?_
   (with_reducible apply op_call []); exact (window_must_scx hrv7).err nv6; exact rfl; exact .of (by kernel_rfl); exact rfl; exact .inl ⟨rfl, rfl, rfl⟩; (iterate 4 exact rfl); exact .nil; exact rfl
   intro cnt
   refine then_pan ?_
   obtain rfl := sI h
   refine ⟨_, _, R, R, ?_⟩
   exact (fin_S (t := .d (vI x7)) (L := [none, none, none, none, none]) (κ := [0, 1, 2, 3, 4]) R (.cons (rcell tb (u := .d (vI x7)) R R R R R R R) .nil) (vwK R R (.gone R (.gone R (.gone R (.gone R (.gone R .nil))))) (.cons R R .nil)) (.inr ⟨_, R, R, R⟩))
  replace h := (exO nv6).symm.trans h
  refine r_callO (t' := .d (.tup [])) (ls := []) (news := []) ([]) ([some ⟨22, [Table_T1 b 1 2 3 4]⟩, some (lvI b.s_Used), some (lvI b.s_Credit), some (lvI b.s_Last), some (m1w b.done), some ⟨3, [.d (WiTurn.d x)]⟩, some ⟨1, [.d (vI 0)]⟩, some ⟨0, (([(1, .fn (.func 99) [.ref 0 22 0 0] []), (2, .fn (.func 100) [.ref 0 22 0 0] []), (3, .fn (.func 101) [.ref 0 22 0 0] [])] : List (Int × T))).map fun p => .agg [.d (vI p.1), p.2]⟩]) ((window_must_scx hrv7).ok nv6) (.of (by kernel_rfl)) R (.inl ⟨R, R, R⟩) R R R R .nil R R R .nil .nil R R R R ?_
  refine ev_endP (then_norm (sw_seq (sw_rgP (r_movF R R R (q_movD R (q_ldD (y := WiTurn.d x) tb R ?_))))))
  obtain ⟨rv8, hrv8, h⟩ := bnd h
  rcases ex_or rv8 with ⟨x8, nv7⟩ | ⟨v7, nv7⟩
  ·replace h := (exN nv7).symm.trans h
   refine ev_pan ?_
   (with_reducible apply op_call [0, 1, 2, 3, 4]); exact (window_table_give_m_scx hrv8).err nv7; exact rfl; exact .of (by kernel_rfl); exact rfl; exact .inr rfl; (iterate 4 exact rfl); exact (.cons rfl rfl (.row rfl (.row rfl (.row rfl (.map rfl .nil))))); exact rfl
   intro cnt
   refine then_pan ?_
   obtain rfl := sI h
   refine ⟨_, _, R, R, ?_⟩
   exact (fin_S (t := .d (vI x8)) (L := [none, none, none, none, none]) (κ := [0, 1, 2, 3, 4]) R (.cons (rcell tb (u := .d (vI x8)) R R R R R R R) .nil) (vwK R R (.gone R (.gone R (.gone R (.gone R (.gone R .nil))))) (.cons R R .nil)) (.inr ⟨_, R, R, R⟩))
  replace h := (exO nv7).symm.trans h
  refine r_callO (t' := .d (.tup [])) (ls := [some ⟨22, [Table_T1 v7 1 2 3 4]⟩, some (lvI v7.s_Used), some (lvI v7.s_Credit), some (lvI v7.s_Last), some (m1w v7.done)]) (news := []) ([0, 1, 2, 3, 4]) ([some ⟨22, [Table_T1 v7 1 2 3 4]⟩, some (lvI v7.s_Used), some (lvI v7.s_Credit), some (lvI v7.s_Last), some (m1w v7.done), some ⟨3, [.d (WiTurn.d x)]⟩, some ⟨1, [.d (vI 0)]⟩, some ⟨0, (([(1, .fn (.func 99) [.ref 0 22 0 0] []), (2, .fn (.func 100) [.ref 0 22 0 0] []), (3, .fn (.func 101) [.ref 0 22 0 0] [])] : List (Int × T))).map fun p => .agg [.d (vI p.1), p.2]⟩]) ((window_table_give_m_scx hrv8).ok nv7) (.of (by kernel_rfl)) R (.inr R) R R R R ((.cons R R (.row R (.row R (.row R (.map R .nil)))))) R R R ((.cons R (.row (.row (.row (.map .nil)))))) .nil R R R R ?_
  refine ev_endP (then_norm (qG (q_stE _ _ tb R (eN (sw_ret ?_)))))
  obtain rfl := sI h
  exact qd_ret (fin_S (t := .d (vI 0)) (L := [some ⟨22, [Table_T1 v7 1 2 3 4]⟩, some (lvI v7.s_Used), some (lvI v7.s_Credit), some (lvI v7.s_Last), some (m1w v7.done)]) (κ := [0, 1, 2, 3, 4]) R (.cons (rcell tb (u := .d (vI 0)) R R R R R R R) .nil) (vK (.cons R R (.row R (.row R (.row R (.map R .nil))))) R) (.inl ⟨_, R, R, R⟩))
 replace h := ifN c3 h
 refine r_lkF (([(1, .fn (.func 99) [.ref 0 22 0 0] []), (2, .fn (.func 100) [.ref 0 22 0 0] []), (3, .fn (.func 101) [.ref 0 22 0 0] [])] : List (Int × T))) tb R R R R R R (by simp [mget, c, c2, c3]) R R R (r_movT (.tup [.d (.v .nilFunc), .d (.v (.bool false))]) R R R (r_ext (t := .d (.v .nilFunc)) R R R R (r_ext (t := .d (.v (.bool false))) R R R R (q_asgD R (q_asgD R (eN (sw_seq (sw_rgP (q_movD R ?_)))))))))
 obtain ⟨rv9, hrv9, h⟩ := bnd h
 rcases ex_or rv9 with ⟨x9, nv8⟩ | ⟨v8, nv8⟩
 ·replace h := (exN nv8).symm.trans h
  refine ev_pan ?_
  (with_reducible apply op_call []); exact (window_must_scx hrv9).err nv8; exact rfl; exact .of (by kernel_rfl); exact rfl; exact .inl ⟨rfl, rfl, rfl⟩; (iterate 4 exact rfl); exact .nil; exact rfl
  intro cnt
  refine then_pan ?_
  obtain rfl := sI h
  refine ⟨_, _, R, R, ?_⟩
  exact (fin_S (t := .d (vI x9)) (L := [none, none, none, none, none]) (κ := [0, 1, 2, 3, 4]) R (.cons (rcell tb (u := .d (vI x9)) R R R R R R R) .nil) (vwK R R (.gone R (.gone R (.gone R (.gone R (.gone R .nil))))) (.cons R R .nil)) (.inr ⟨_, R, R, R⟩))
 replace h := (exO nv8).symm.trans h
 refine r_callO (t' := .d (.tup [])) (ls := []) (news := []) ([]) ([some ⟨22, [Table_T1 b 1 2 3 4]⟩, some (lvI b.s_Used), some (lvI b.s_Credit), some (lvI b.s_Last), some (m1w b.done), some ⟨3, [.d (WiTurn.d x)]⟩, some ⟨1, [.d (vI 0)]⟩, some ⟨0, (([(1, .fn (.func 99) [.ref 0 22 0 0] []), (2, .fn (.func 100) [.ref 0 22 0 0] []), (3, .fn (.func 101) [.ref 0 22 0 0] [])] : List (Int × T))).map fun p => .agg [.d (vI p.1), p.2]⟩]) ((window_must_scx hrv9).ok nv8) (.of (by kernel_rfl)) R (.inl ⟨R, R, R⟩) R R R R .nil R R R .nil .nil R R R R ?_
 cases h
def window_play_L1 (F : Nat) (turns : (List WiTurn)) (K : Option ((Option Table) × Int)) : Nat → Option ((Option Table) × Int)
 | 0 => none
 | n + 1 => if 0 < (turns.length : Int) then (none) else (K )
def window_play_L2 (F : Nat) (turns : (List WiTurn)) (K : (List WiTeam) → (List WiWindow) → Int → Int → (List Int) → (List Int) → (List Int) → Int → (List Int) → Int → Int → Int → Int → Int → (List (Int × Bool)) → Int → Int → Bool → Int → Int → Int → Int → Int → Option ((Option Table) × Int)) : Nat → (List WiTeam) → (List WiWindow) → Int → Int → (List Int) → (List Int) → (List Int) → Int → (List Int) → Int → Int → Int → Int → Int → (List (Int × Bool)) → Int → Int → Bool → Int → Int → Int → Int → Int → Option ((Option Table) × Int)
 | 0, _, _, _, _, _, _, _, _, _, _, _, _, _, _, _, _, _, _, _, _, _, _, _ => none
 | n + 1, b, b2, b3, b4, b5, b6, b7, b8, b9, b10, b11, b12, b13, b14, b15, b16, b17, b18, b19, b20, b21, b22, x => if x < (turns.length : Int) then (Option.bind (ixO turns x) fun e2 => Option.bind (window_table_act_m F (Table.mk b b2 b3 b4 b5 b6 b7 b8 b9 b10 b11 b12 b13 b14 b15 b16 b17 b18 b19 b20 b21 b22) e2) fun rv2 => exE rv2 (fun x2 => if x2 = 0 then (none) else (some (none, x2))) (fun v => window_play_L2 F turns K n v.p_Teams v.p_Windows v.p_Cost v.p_Gift v.s_Used v.s_Credit v.s_Last v.s_Next v.sky_Kinds v.sky_Wind v.w_Day v.w_From v.w_Until v.minute v.done v.given v.by_ v.over v.use_Window v.use_Team v.use_At v.use_By (W (x + 1)))) else (K b b2 b3 b4 b5 b6 b7 b8 b9 b10 b11 b12 b13 b14 b15 b16 b17 b18 b19 b20 b21 b22 x)
def window_play (F : Nat) (p : WiPlan) (s : WiState) (sky : WiSky) (turns : (List WiTurn)) : Option ((Option Table) × Int) := Option.bind (window_begin F p s sky) fun rv => optE rv.1 (if rv.2 = 0 then (if 16 < (turns.length : Int) then (some (none, 3)) else (window_play_L1 F turns (some (none, 0)) F )) else (some (none, rv.2))) (fun t => if rv.2 = 0 then (if 16 < (turns.length : Int) then (some (none, 3)) else (window_play_L2 F turns (fun (b : (List WiTeam)) (b2 : (List WiWindow)) (b3 : Int) (b4 : Int) (b5 : (List Int)) (b6 : (List Int)) (b7 : (List Int)) (b8 : Int) (b9 : (List Int)) (b10 : Int) (b11 : Int) (b12 : Int) (b13 : Int) (b14 : Int) (b15 : (List (Int × Bool))) (b16 : Int) (b17 : Int) (b18 : Bool) (b19 : Int) (b20 : Int) (b21 : Int) (b22 : Int) (x : Int) => some ((some (Table.mk b b2 b3 b4 b5 b6 b7 b8 b9 b10 b11 b12 b13 b14 b15 b16 b17 b18 b19 b20 b21 b22)), 0)) F t.p_Teams t.p_Windows t.p_Cost t.p_Gift t.s_Used t.s_Credit t.s_Last t.s_Next t.sky_Kinds t.sky_Wind t.w_Day t.w_From t.w_Until t.minute t.done t.given t.by_ t.over t.use_Window t.use_Team t.use_At t.use_By 0)) else (some (none, rv.2)))
theorem window_play_sco {F : Nat} {p : WiPlan} {s : WiState} {sky : WiSky} {turns : (List WiTurn)} {r : ((Option Table) × Int)} (h : window_play F p s sky turns = some r) : SCO Try.prog 58 (List.map T.d [WiPlan.d p, WiState.d s, WiSky.d sky, .arr 3 ((turns).map WiTurn.d)]) [] r.1 (.d (.tup [.v (.pointer none), .v (.int .i64 r.2)])) (List.map some []) (fun (tt : Table) => .tup [.ref 0 22 0 0, .d (.v (.int .i64 r.2))]) (fun (tt : Table) => List.map some [⟨22, [Table_T1 tt 1 2 3 4]⟩, (lvI tt.s_Used), (lvI tt.s_Credit), (lvI tt.s_Last), (m1w tt.done)]) := by
 rw [window_play] at h
 refine SC.of_sw Try.func58 R R R ?_
 dsimp only [argS, List.map]
 refine qG (q_box R (q_box R (q_box R (q_asgD R (q_asgD R (eN (qG (q_ldD (y := WiPlan.d p) tb R (q_ldD (y := WiState.d s) tb R (q_ldD (y := WiSky.d sky) tb R ?_))))))))))
 obtain ⟨rv, hrv, h⟩ := bnd h
 rcases Option.eq_none_or_eq_some rv.1 with nv | ⟨t, nv⟩
 ·replace h := (optN nv).symm.trans h
  refine r_callO (t' := .d (.tup [.v (.pointer none), vI rv.2])) (ls := []) (news := []) ([]) ([some ⟨4, [.d (WiPlan.d p)]⟩, some ⟨4, [.d (WiState.d s)]⟩, some ⟨2, [.d (WiSky.d sky)]⟩]) ((window_begin_sco hrv).none nv) (.of (by kernel_rfl)) R (.inl ⟨R, R, R⟩) R R R R .nil R R R .nil .nil R R R R (q_movD R (r_extD (t := .v (.pointer none)) R R R R (r_extD (t := vI rv.2) R R R R (q_asgD R (q_asgD R (eN (sw_seq (sw_block (qG (q_movD R ?_))))))))))
  refine r_neq R R R R ?_ ?_
  ·intro c
   replace h := ifN c h
   refine q_asgD R (eN (sw_condT R (qG (q_movD R (q_asgD R (q_asgD R (eN (sw_ret (block_ret (then_ret ?_))))))))))
   obtain rfl := sI h
   exact (fin_S (t := .d (.tup [.v (.pointer none), vI rv.2])) (L := []) (κ := []) R (.cons (.tmp 8) (.cons (.tmp 9) .nil)) (v0 R) (.inl ⟨R, R, R⟩))
  intro c
  replace h := ifP c h
  refine q_asgD R (eN (sw_condF R (qG (q_movD R (q_lenM tb R ?_)))))
  refine r_gtr R R R R ?_ ?_
  ·intro c2
   replace h := ifP c2 h
   refine q_asgD R (eN (sw_condT R (qG (q_asgD R (q_asgD R (eN (sw_ret (block_ret (then_ret ?_)))))))))
   obtain rfl := sI h
   exact (fin_S (t := .d (.tup [.v (.pointer none), vI 3])) (L := []) (κ := []) R (.cons (.tmp 8) (.cons (.tmp 9) .nil)) (v0 R) (.inl ⟨R, R, R⟩))
  intro c2
  replace h := ifN (Int.not_lt.2 c2) h
  refine q_asgD R (eN (sw_condF R (sw_skip (block_norm (then_norm (sw_seq (qG (q_movD R (q_lenM tb R (q_movD R (eN (sw_block ?_))))))))))))
  obtain ⟨K1, hK1, h⟩ : ∃ K, K = _ ∧ window_play_L1 F turns K F  = some r := ⟨_, rfl, h⟩
  refine sw_loopS (st0 := ⟨[(8, .d (.v (.pointer none))), (9, .d (vI 0)), (10, .d (.v (.pointer none))), (29, .d (.arr 3 ((turns).map WiTurn.d))), (30, .d (vI (turns.length : Int))), (31, .d (vI 0))], []⟩) (fun m st => window_play_L1 F turns K1 m  = some r ∧ st = ⟨[(8, .d (.v (.pointer none))), (9, .d (vI 0)), (10, .d (.v (.pointer none))), (29, .d (.arr 3 ((turns).map WiTurn.d))), (30, .d (vI (turns.length : Int))), (31, .d (vI 0))], []⟩) (.vw (κ := []) (v0 R)) ⟨h, R⟩ ?_
  clear h
  rintro m1 st ⟨h, rfl⟩
  cases m1 with
  | zero => cases (show (none : Option ((Option Table) × Int)) = some r from h)
  | succ m1 =>
  rw [window_play_L1] at h
  refine qG ?_
  refine r_lss R R R R ?_ ?_
  ·intro c3
   replace h := ifP c3 h
   cases h
  intro c3
  replace h := ifN (Int.not_lt.2 c3) h
  refine eN (sw_seq (sw_condF R (sw_exit (then_exit (then_exit ?_)))))
  subst hK1
  refine block_exit (then_norm (qG (q_movD R (q_asgD R (q_asgD R (eN (sw_ret ?_)))))))
  obtain rfl := sI h
  exact (fin_S (t := .d (.tup [.v (.pointer none), vI 0])) (L := []) (κ := []) R (.cons (.tmp 8) (.cons (.tmp 9) .nil)) (v0 R) (.inl ⟨R, R, R⟩))
 replace h := (optS nv).symm.trans h
 refine r_callO (t' := .tup [.ref 3 22 0 0, .d (vI rv.2)]) (ls := []) (news := [⟨22, [Table_T1 t 1 2 3 4]⟩, (lvI t.s_Used), (lvI t.s_Credit), (lvI t.s_Last), (m1w t.done)]) ([]) ([some ⟨4, [.d (WiPlan.d p)]⟩, some ⟨4, [.d (WiState.d s)]⟩, some ⟨2, [.d (WiSky.d sky)]⟩, some ⟨22, [Table_T1 t 4 5 6 7]⟩, some (lvI t.s_Used), some (lvI t.s_Credit), some (lvI t.s_Last), some (m1w t.done)]) ((window_begin_sco hrv).some nv) (.of (by kernel_rfl)) R (.inl ⟨R, R, R⟩) R R R R .nil R R R .nil ((.cons R (.row (.row (.row (.map .nil)))))) R R R R ?_
 refine r_movT (.tup [.ref 3 22 0 0, .d (vI rv.2)]) R R R (r_ext (t := .ref 3 22 0 0) R R R R (r_ext (t := .d (vI rv.2)) R R R R (r_asgR R R R (q_asgD R (eN (sw_seq (sw_block (qG (q_movD R ?_)))))))))
 refine r_neq R R R R ?_ ?_
 ·intro c4
  replace h := ifN c4 h
  refine q_asgD R (eN (sw_condT R (qG (q_movD R (q_asgD R (q_asgD R (eN (sw_ret (block_ret (then_ret ?_))))))))))
  obtain rfl := sI h
  exact (fin_S (t := .d (.tup [.v (.pointer none), vI rv.2])) (L := []) (κ := []) R (.cons (.tmp 8) (.cons (.tmp 9) .nil)) (v0 R) (.inl ⟨R, R, R⟩))
 intro c4
 replace h := ifP c4 h
 refine q_asgD R (eN (sw_condF R (qG (q_movD R (q_lenM tb R ?_)))))
 refine r_gtr R R R R ?_ ?_
 ·intro c5
  replace h := ifP c5 h
  refine q_asgD R (eN (sw_condT R (qG (q_asgD R (q_asgD R (eN (sw_ret (block_ret (then_ret ?_)))))))))
  obtain rfl := sI h
  exact (fin_S (t := .d (.tup [.v (.pointer none), vI 3])) (L := []) (κ := []) R (.cons (.tmp 8) (.cons (.tmp 9) .nil)) (v0 R) (.inl ⟨R, R, R⟩))
 intro c5
 replace h := ifN (Int.not_lt.2 c5) h
 refine q_asgD R (eN (sw_condF R (sw_skip (block_norm (then_norm (sw_seq (qG (q_movD R (q_lenM tb R (q_movD R (eN (sw_block ?_))))))))))))
 obtain ⟨K3, hK3, h⟩ : ∃ K, K = _ ∧ window_play_L2 F turns K F t.p_Teams t.p_Windows t.p_Cost t.p_Gift t.s_Used t.s_Credit t.s_Last t.s_Next t.sky_Kinds t.sky_Wind t.w_Day t.w_From t.w_Until t.minute t.done t.given t.by_ t.over t.use_Window t.use_Team t.use_At t.use_By 0 = some r := ⟨_, rfl, h⟩
 refine sw_loopS (st0 := ⟨[(8, .d (.v (.pointer none))), (9, .d (vI 0)), (10, .ref 0 22 0 0), (29, .d (.arr 3 ((turns).map WiTurn.d))), (30, .d (vI (turns.length : Int))), (31, .d (vI 0))], [some ⟨22, [Table_T1 t 1 2 3 4]⟩, some (lvI t.s_Used), some (lvI t.s_Credit), some (lvI t.s_Last), some (m1w t.done)]⟩) (fun m st => ∃ (b : (List WiTeam)) (b2 : (List WiWindow)) (b3 : Int) (b4 : Int) (b5 : (List Int)) (b6 : (List Int)) (b7 : (List Int)) (b8 : Int) (b9 : (List Int)) (b10 : Int) (b11 : Int) (b12 : Int) (b13 : Int) (b14 : Int) (b15 : (List (Int × Bool))) (b16 : Int) (b17 : Int) (b18 : Bool) (b19 : Int) (b20 : Int) (b21 : Int) (b22 : Int) (x : Int), window_play_L2 F turns K3 m b b2 b3 b4 b5 b6 b7 b8 b9 b10 b11 b12 b13 b14 b15 b16 b17 b18 b19 b20 b21 b22 x = some r ∧ st = ⟨[(8, .d (.v (.pointer none))), (9, .d (vI 0)), (10, .ref 0 22 0 0), (29, .d (.arr 3 ((turns).map WiTurn.d))), (30, .d (vI (turns.length : Int))), (31, .d (vI x))], [some ⟨22, [Table_T1 (Table.mk b b2 b3 b4 b5 b6 b7 b8 b9 b10 b11 b12 b13 b14 b15 b16 b17 b18 b19 b20 b21 b22) 1 2 3 4]⟩, some (lvI b5), some (lvI b6), some (lvI b7), some (m1w b15)]⟩) (.vw (κ := [3, 4, 5, 6, 7]) (vK (.cons R R (.row R (.row R (.row R (.map R .nil))))) R)) ⟨t.p_Teams, t.p_Windows, t.p_Cost, t.p_Gift, t.s_Used, t.s_Credit, t.s_Last, t.s_Next, t.sky_Kinds, t.sky_Wind, t.w_Day, t.w_From, t.w_Until, t.minute, t.done, t.given, t.by_, t.over, t.use_Window, t.use_Team, t.use_At, t.use_By, 0, h, R⟩ ?_
 clear h
 rintro m3 st ⟨b, b2, b3, b4, b5, b6, b7, b8, b9, b10, b11, b12, b13, b14, b15, b16, b17, b18, b19, b20, b21, b22, x, h, rfl⟩
 cases m3 with
 | zero => cases (show (none : Option ((Option Table) × Int)) = some r from h)
 | succ m3 =>
 rw [window_play_L2] at h
 refine qG ?_
 refine r_lss R R R R ?_ ?_
 ·intro c6
  replace h := ifP c6 h
  refine eN (sw_seq (sw_condT R (sw_skip (then_norm (sw_seq (sw_block (qG ?_)))))))
  obtain ⟨e2, ie2, h⟩ := bnd h
  refine q_ixE tb (ix0 ie2) (ix1m ie2) R (q_ldE (y := WiTurn.d e2) tb (ix2 (g := WiTurn.d) ie2) R (r_alloc tb R R R R R (q_stE _ _ tb R (eN (qG (r_movR R R R (q_ldD (y := WiTurn.d e2) tb R ?_)))))))
  obtain ⟨rv2, hrv2, h⟩ := bnd h
  rcases ex_or rv2 with ⟨x2, nv2⟩ | ⟨v, nv2⟩
  ·replace h := (exN nv2).symm.trans h
   refine r_callO (t' := .d (vI x2)) (ls := [none, none, none, none, none]) (news := []) ([0, 1, 2, 3, 4]) ([none, none, none, none, none, some ⟨3, [.d (WiTurn.d e2)]⟩]) ((window_table_act_m_sca hrv2).err nv2) (.of (by kernel_rfl)) R (.inl ⟨R, R, R⟩) R R R R ((.cons R R (.row R (.row R (.row R (.map R .nil)))))) R R R ((.gone (.gone (.gone (.gone (.gone .nil)))))) .nil R R R R (q_asgD R (eN (qG (q_movD R ?_))))
   refine r_neq R R R R ?_ ?_
   ·intro c7
    replace h := ifN c7 h
    refine eN (sw_condT R (qG (q_movD R (q_asgD R (q_asgD R (eN (sw_ret (block_ret (then_ret (then_ret (block_ret (then_ret ?_))))))))))))
    obtain rfl := sI h
    exact (fin_S (t := .d (.tup [.v (.pointer none), vI x2])) (L := []) (κ := []) R (.cons (.tmp 8) (.cons (.tmp 9) .nil)) (v0 R) (.inl ⟨R, R, R⟩))
   intro c7
   replace h := ifP c7 h
   cases h
  replace h := (exO nv2).symm.trans h
  refine r_callO (t' := .d (vI 0)) (ls := [some ⟨22, [Table_T1 v 1 2 3 4]⟩, some (lvI v.s_Used), some (lvI v.s_Credit), some (lvI v.s_Last), some (m1w v.done)]) (news := []) ([0, 1, 2, 3, 4]) ([some ⟨22, [Table_T1 v 1 2 3 4]⟩, some (lvI v.s_Used), some (lvI v.s_Credit), some (lvI v.s_Last), some (m1w v.done), some ⟨3, [.d (WiTurn.d e2)]⟩]) ((window_table_act_m_sca hrv2).ok nv2) (.of (by kernel_rfl)) R (.inl ⟨R, R, R⟩) R R R R ((.cons R R (.row R (.row R (.row R (.map R .nil)))))) R R R ((.cons R (.row (.row (.row (.map .nil)))))) .nil R R R R ?_
  refine q_asgD R (eN (qG (q_movD R ?_)))
  refine r_neq R R R R ?_ ?_
  ·intro c8; exact absurd c8 (by decide)
  intro _
  refine eN (sw_condF R (sw_skip (block_norm (then_norm (sw_rg (q_add R (q_movD R (eN ?_))))))))
  exact ⟨m3, ⟨[(8, .d (.v (.pointer none))), (9, .d (vI 0)), (10, .ref 0 22 0 0), (29, .d (.arr 3 ((turns).map WiTurn.d))), (30, .d (vI (turns.length : Int))), (31, .d (vI (W (x + 1))))], [some ⟨22, [Table_T1 v 1 2 3 4]⟩, some (lvI v.s_Used), some (lvI v.s_Credit), some (lvI v.s_Last), some (m1w v.done)]⟩, Nat.lt_succ_self _, .vw (κ := [0, 1, 2, 3, 4]) (vK (.cons R R (.row R (.row R (.row R (.map R .nil))))) R), v.p_Teams, v.p_Windows, v.p_Cost, v.p_Gift, v.s_Used, v.s_Credit, v.s_Last, v.s_Next, v.sky_Kinds, v.sky_Wind, v.w_Day, v.w_From, v.w_Until, v.minute, v.done, v.given, v.by_, v.over, v.use_Window, v.use_Team, v.use_At, v.use_By, (W (x + 1)), h, R⟩
 intro c6
 replace h := ifN (Int.not_lt.2 c6) h
 refine eN (sw_seq (sw_condF R (sw_exit (then_exit (then_exit ?_)))))
 subst hK3
 refine block_exit (then_norm (qG (r_movR R R R (r_asgR R R R (q_asgD R (eN (sw_ret ?_)))))))
 obtain rfl := sI h
 exact (fin_S (t := .tup [.ref 0 22 0 0, .d (vI 0)]) (L := [some ⟨22, [Table_T1 (Table.mk b b2 b3 b4 b5 b6 b7 b8 b9 b10 b11 b12 b13 b14 b15 b16 b17 b18 b19 b20 b21 b22) 1 2 3 4]⟩, some (lvI b5), some (lvI b6), some (lvI b7), some (m1w b15)]) (κ := [0, 1, 2, 3, 4]) R (.cons (.tmp 8) (.cons (.tmp 9) .nil)) (vK (.cons R R (.row R (.row R (.row R (.map R .nil))))) R) (.inr ⟨_, R, R, R⟩))
def window_Play (F : Nat) (p : WiPlan) (s : WiState) (nv : WiNight) : Option (WiState × WiUse × Int) := Option.bind (window_play F p s (WiSky.mk nv.sky_Kinds nv.sky_Wind) nv.turns) fun rv => optE rv.1 (if rv.2 = 0 then (none) else (some ((WiState.mk ([] : List Int) ([] : List Int) ([] : List Int) 0), (WiUse.mk 0 0 0 0), rv.2))) (fun t => if rv.2 = 0 then (Option.bind (window_table_turn F t) fun rv2 => if 0 ≤ rv2 then (some ((WiState.mk ([] : List Int) ([] : List Int) ([] : List Int) 0), (WiUse.mk 0 0 0 0), 2)) else (some ((WiState.mk t.s_Used t.s_Credit t.s_Last (W (t.s_Next + 1))), (WiUse.mk t.use_Window t.use_Team t.use_At t.use_By), 0))) else (some ((WiState.mk ([] : List Int) ([] : List Int) ([] : List Int) 0), (WiUse.mk 0 0 0 0), rv.2)))
theorem window_Play_scr {F : Nat} {p : WiPlan} {s : WiState} {nv : WiNight} {r : (WiState × WiUse × Int)} (h : window_Play F p s nv = some r) : SCR Try.prog 24 (List.map T.d [WiPlan.d p, WiState.d s, WiNight.d nv]) [] (.tup [WiState_T1 r.1 0 1 2, .d (WiUse.d r.2.1), .d (.v (.int .i64 r.2.2))]) (List.map some [(lvI r.1.used), (lvI r.1.credit), (lvI r.1.last)]) := by
 rw [window_Play] at h
 refine SC.of_sw Try.func24 R R R ?_
 dsimp only [argS, List.map]
 refine qG (q_box R (q_box R (q_box R (r_alloc tb R R R R R (r_alloc tb R R R R R (q_asgD R (eN (qG (q_ldD (y := WiPlan.d p) tb R (q_ldD (y := WiState.d s) tb R (q_fa tb R (q_ldD (y := .agg [.arr 1 ((nv.sky_Kinds).map vI), vI nv.sky_Wind]) tb R (q_fa tb R (q_ldD (y := .arr 3 ((nv.turns).map WiTurn.d)) tb R ?_))))))))))))))
 obtain ⟨rv, hrv, h⟩ := bnd h
 rcases Option.eq_none_or_eq_some rv.1 with nv2 | ⟨t, nv2⟩
 ·replace h := (optN nv2).symm.trans h
  refine r_callO (t' := .d (.tup [.v (.pointer none), vI rv.2])) (ls := []) (news := []) ([]) ([some ⟨4, [.d (WiPlan.d p)]⟩, some ⟨4, [.d (WiState.d s)]⟩, some ⟨3, [.d (WiNight.d nv)]⟩, some ⟨4, [.d (.agg [.v (.slice none 0 0), .v (.slice none 0 0), .v (.slice none 0 0), vI 0])]⟩, some ⟨4, [.d (.agg [vI 0, vI 0, vI 0, vI 0])]⟩]) ((window_play_sco hrv).none nv2) (.of (by kernel_rfl)) R (.inl ⟨R, R, R⟩) R R R R .nil R R R .nil .nil R R R R (q_movD R ?_)
  refine r_extD (t := .v (.pointer none)) R R R R (r_extD (t := vI rv.2) R R R R (q_asgD R (q_asgD R (eN (sw_seq (sw_block (qG (q_movD R ?_))))))))
  refine r_neq R R R R ?_ ?_
  ·intro c
   replace h := ifN c h
   refine q_asgD R (eN (sw_condT R (qG (r_build (v := .d (.agg [.v (.slice none 0 0), .v (.slice none 0 0), .v (.slice none 0 0), vI 0])) tb R R (List.cons_ne_nil _ _) R R R R R R (r_build (v := .d (.agg [vI 0, vI 0, vI 0, vI 0])) tb R R (List.cons_ne_nil _ _) R R R R R R (q_movD R (q_stE _ _ tb R (q_stE _ _ tb R (q_asgD R (eN ?_))))))))))
   refine SW.own (ts' := [(6, .ref 3 4 0 0), (7, .ref 4 4 0 0), (8, .d (vI rv.2))]) (L' := [some ⟨4, [.d (WiPlan.d p)]⟩, some ⟨4, [.d (WiState.d s)]⟩, some ⟨3, [.d (WiNight.d nv)]⟩, some ⟨4, [.agg [.row 5 1 0 (([] : List Int)).length, .d (.v (.slice none 0 0)), .d (.v (.slice none 0 0)), .d (vI 0)]]⟩, some ⟨4, [.d (.agg [vI 0, vI 0, vI 0, vI 0])]⟩]) 1 R R (.cons (.same _) (.cons (.same _) (.cons (.same _) .nil))) (.same (.same (.same (.cons R (.cons (.aggDL (.cons .nil (.cons (.same _) (.cons (.same _) (.cons (.same _) .nil))))) .nil) (.same .nil))))) ?_
   simp only [List.cons_append, List.nil_append]
   refine SW.own (ts' := [(6, .ref 3 4 0 0), (7, .ref 4 4 0 0), (8, .d (vI rv.2))]) (L' := [some ⟨4, [.d (WiPlan.d p)]⟩, some ⟨4, [.d (WiState.d s)]⟩, some ⟨3, [.d (WiNight.d nv)]⟩, some ⟨4, [.agg [.row 5 1 0 (([] : List Int)).length, .row 6 1 0 (([] : List Int)).length, .d (.v (.slice none 0 0)), .d (vI 0)]]⟩, some ⟨4, [.d (.agg [vI 0, vI 0, vI 0, vI 0])]⟩, some (lvI ([] : List Int))]) 1 R R (.cons (.same _) (.cons (.same _) (.cons (.same _) .nil))) (.same (.same (.same (.cons R (.cons (.aggL (.cons (.same _) (.cons .nil (.cons (.same _) (.cons (.same _) .nil))))) .nil) (.same (.same .nil)))))) ?_
   simp only [List.cons_append, List.nil_append]
   refine SW.own (ts' := [(6, .ref 3 4 0 0), (7, .ref 4 4 0 0), (8, .d (vI rv.2))]) (L' := [some ⟨4, [.d (WiPlan.d p)]⟩, some ⟨4, [.d (WiState.d s)]⟩, some ⟨3, [.d (WiNight.d nv)]⟩, some ⟨4, [WiState_T1 (WiState.mk ([] : List Int) ([] : List Int) ([] : List Int) 0) 5 6 7]⟩, some ⟨4, [.d (.agg [vI 0, vI 0, vI 0, vI 0])]⟩, some (lvI ([] : List Int)), some (lvI ([] : List Int))]) 1 R R (.cons (.same _) (.cons (.same _) (.cons (.same _) .nil))) (.same (.same (.same (.cons R (.cons (.aggL (.cons (.same _) (.cons (.same _) (.cons .nil (.cons (.same _) .nil))))) .nil) (.same (.same (.same .nil))))))) ?_
   simp only [List.cons_append, List.nil_append]
   refine sw_ret (block_ret (then_ret ?_))
   obtain rfl := sI h
   exact f2 [5, 6, 7] (.row R (.row R (.row R .nil))) R (.cons (rc tb R) (.cons (rc tb R) (.cons (.tmp 8) .nil))) R
  intro c
  replace h := ifP c h
  cases h
 replace h := (optS nv2).symm.trans h
 refine r_callO (t' := .tup [.ref 5 22 0 0, .d (vI rv.2)]) (ls := []) (news := [⟨22, [Table_T1 t 1 2 3 4]⟩, (lvI t.s_Used), (lvI t.s_Credit), (lvI t.s_Last), (m1w t.done)]) ([]) ([some ⟨4, [.d (WiPlan.d p)]⟩, some ⟨4, [.d (WiState.d s)]⟩, some ⟨3, [.d (WiNight.d nv)]⟩, some ⟨4, [.d (.agg [.v (.slice none 0 0), .v (.slice none 0 0), .v (.slice none 0 0), vI 0])]⟩, some ⟨4, [.d (.agg [vI 0, vI 0, vI 0, vI 0])]⟩, some ⟨22, [Table_T1 t 6 7 8 9]⟩, some (lvI t.s_Used), some (lvI t.s_Credit), some (lvI t.s_Last), some (m1w t.done)]) ((window_play_sco hrv).some nv2) (.of (by kernel_rfl)) R (.inl ⟨R, R, R⟩) R R R R .nil R R R .nil ((.cons R (.row (.row (.row (.map .nil)))))) R R R R ?_
 refine r_movT (.tup [.ref 5 22 0 0, .d (vI rv.2)]) R R R (r_ext (t := .ref 5 22 0 0) R R R R (r_ext (t := .d (vI rv.2)) R R R R (r_asgR R R R (q_asgD R (eN (sw_seq (sw_block (qG (q_movD R ?_)))))))))
 refine r_neq R R R R ?_ ?_
 ·intro c2
  replace h := ifN c2 h
  refine q_asgD R (eN (sw_condT R (qG (r_build (v := .d (.agg [.v (.slice none 0 0), .v (.slice none 0 0), .v (.slice none 0 0), vI 0])) tb R R (List.cons_ne_nil _ _) R R R R R R (r_build (v := .d (.agg [vI 0, vI 0, vI 0, vI 0])) tb R R (List.cons_ne_nil _ _) R R R R R R (q_movD R (q_stE _ _ tb R (q_stE _ _ tb R (q_asgD R (eN ?_))))))))))
  refine SW.own (ts' := [(6, .ref 3 4 0 0), (7, .ref 4 4 0 0), (8, .d (vI rv.2))]) (L' := [some ⟨4, [.d (WiPlan.d p)]⟩, some ⟨4, [.d (WiState.d s)]⟩, some ⟨3, [.d (WiNight.d nv)]⟩, some ⟨4, [.agg [.row 10 1 0 (([] : List Int)).length, .d (.v (.slice none 0 0)), .d (.v (.slice none 0 0)), .d (vI 0)]]⟩, some ⟨4, [.d (.agg [vI 0, vI 0, vI 0, vI 0])]⟩, some ⟨22, [Table_T1 t 6 7 8 9]⟩, some (lvI t.s_Used), some (lvI t.s_Credit), some (lvI t.s_Last), some (m1w t.done)]) 1 R R (.cons (.same _) (.cons (.same _) (.cons (.same _) .nil))) (.same (.same (.same (.cons R (.cons (.aggDL (.cons .nil (.cons (.same _) (.cons (.same _) (.cons (.same _) .nil))))) .nil) (.same (.same (.same (.same (.same (.same .nil)))))))))) ?_
  simp only [List.cons_append, List.nil_append]
  refine SW.own (ts' := [(6, .ref 3 4 0 0), (7, .ref 4 4 0 0), (8, .d (vI rv.2))]) (L' := [some ⟨4, [.d (WiPlan.d p)]⟩, some ⟨4, [.d (WiState.d s)]⟩, some ⟨3, [.d (WiNight.d nv)]⟩, some ⟨4, [.agg [.row 10 1 0 (([] : List Int)).length, .row 11 1 0 (([] : List Int)).length, .d (.v (.slice none 0 0)), .d (vI 0)]]⟩, some ⟨4, [.d (.agg [vI 0, vI 0, vI 0, vI 0])]⟩, some ⟨22, [Table_T1 t 6 7 8 9]⟩, some (lvI t.s_Used), some (lvI t.s_Credit), some (lvI t.s_Last), some (m1w t.done), some (lvI ([] : List Int))]) 1 R R (.cons (.same _) (.cons (.same _) (.cons (.same _) .nil))) (.same (.same (.same (.cons R (.cons (.aggL (.cons (.same _) (.cons .nil (.cons (.same _) (.cons (.same _) .nil))))) .nil) (.same (.same (.same (.same (.same (.same (.same .nil))))))))))) ?_
  simp only [List.cons_append, List.nil_append]
  refine SW.own (ts' := [(6, .ref 3 4 0 0), (7, .ref 4 4 0 0), (8, .d (vI rv.2))]) (L' := [some ⟨4, [.d (WiPlan.d p)]⟩, some ⟨4, [.d (WiState.d s)]⟩, some ⟨3, [.d (WiNight.d nv)]⟩, some ⟨4, [WiState_T1 (WiState.mk ([] : List Int) ([] : List Int) ([] : List Int) 0) 10 11 12]⟩, some ⟨4, [.d (.agg [vI 0, vI 0, vI 0, vI 0])]⟩, some ⟨22, [Table_T1 t 6 7 8 9]⟩, some (lvI t.s_Used), some (lvI t.s_Credit), some (lvI t.s_Last), some (m1w t.done), some (lvI ([] : List Int)), some (lvI ([] : List Int))]) 1 R R (.cons (.same _) (.cons (.same _) (.cons (.same _) .nil))) (.same (.same (.same (.cons R (.cons (.aggL (.cons (.same _) (.cons (.same _) (.cons .nil (.cons (.same _) .nil))))) .nil) (.same (.same (.same (.same (.same (.same (.same (.same .nil)))))))))))) ?_
  simp only [List.cons_append, List.nil_append]
  refine sw_ret (block_ret (then_ret ?_))
  obtain rfl := sI h
  exact f2 [10, 11, 12] (.row R (.row R (.row R .nil))) R (.cons (rc tb R) (.cons (rc tb R) (.cons (.tmp 8) .nil))) R
 intro c2
 replace h := ifP c2 h
 refine q_asgD R (eN (sw_condF R (qG (r_movR R R R ?_))))
 obtain ⟨rv2, hrv2, h⟩ := bnd h
 refine r_callL (window_table_turn_pc hrv2) R (.of (by kernel_rfl)) R R ((.cons (.ref R (.aggL (.cons (.d _) (.cons (.d _) (.cons (.d _) (.cons (.d _) (.cons (.row R R) (.cons (.row R R) (.cons (.row R R) (.cons (.d _) (.cons (.d _) (.cons (.d _) (.cons (.d _) (.cons (.d _) (.cons (.d _) (.cons (.d _) (.cons (.mpM R) (.cons (.d _) (.cons (.d _) (.cons (.d _) (.cons (.d _) (.cons (.d _) (.cons (.d _) (.cons (.d _) .nil)))))))))))))))))))))))) .nil)) R R ?_
 refine r_geq R R R R ?_ ?_
 ·intro c3
  replace h := ifP c3 h
  refine q_asgD R (eN (sw_condT R (qG (r_build (v := .d (.agg [.v (.slice none 0 0), .v (.slice none 0 0), .v (.slice none 0 0), vI 0])) tb R R (List.cons_ne_nil _ _) R R R R R R (r_build (v := .d (.agg [vI 0, vI 0, vI 0, vI 0])) tb R R (List.cons_ne_nil _ _) R R R R R R (q_stE _ _ tb R (q_stE _ _ tb R (q_asgD R (eN ?_)))))))))
  refine SW.own (ts' := [(6, .ref 3 4 0 0), (7, .ref 4 4 0 0), (8, .d (vI 2))]) (L' := [some ⟨4, [.d (WiPlan.d p)]⟩, some ⟨4, [.d (WiState.d s)]⟩, some ⟨3, [.d (WiNight.d nv)]⟩, some ⟨4, [.agg [.row 10 1 0 (([] : List Int)).length, .d (.v (.slice none 0 0)), .d (.v (.slice none 0 0)), .d (vI 0)]]⟩, some ⟨4, [.d (.agg [vI 0, vI 0, vI 0, vI 0])]⟩, some ⟨22, [Table_T1 t 6 7 8 9]⟩, some (lvI t.s_Used), some (lvI t.s_Credit), some (lvI t.s_Last), some (m1w t.done)]) 1 R R (.cons (.same _) (.cons (.same _) (.cons (.same _) .nil))) (.same (.same (.same (.cons R (.cons (.aggDL (.cons .nil (.cons (.same _) (.cons (.same _) (.cons (.same _) .nil))))) .nil) (.same (.same (.same (.same (.same (.same .nil)))))))))) ?_
  simp only [List.cons_append, List.nil_append]
  refine SW.own (ts' := [(6, .ref 3 4 0 0), (7, .ref 4 4 0 0), (8, .d (vI 2))]) (L' := [some ⟨4, [.d (WiPlan.d p)]⟩, some ⟨4, [.d (WiState.d s)]⟩, some ⟨3, [.d (WiNight.d nv)]⟩, some ⟨4, [.agg [.row 10 1 0 (([] : List Int)).length, .row 11 1 0 (([] : List Int)).length, .d (.v (.slice none 0 0)), .d (vI 0)]]⟩, some ⟨4, [.d (.agg [vI 0, vI 0, vI 0, vI 0])]⟩, some ⟨22, [Table_T1 t 6 7 8 9]⟩, some (lvI t.s_Used), some (lvI t.s_Credit), some (lvI t.s_Last), some (m1w t.done), some (lvI ([] : List Int))]) 1 R R (.cons (.same _) (.cons (.same _) (.cons (.same _) .nil))) (.same (.same (.same (.cons R (.cons (.aggL (.cons (.same _) (.cons .nil (.cons (.same _) (.cons (.same _) .nil))))) .nil) (.same (.same (.same (.same (.same (.same (.same .nil))))))))))) ?_
  simp only [List.cons_append, List.nil_append]
  refine SW.own (ts' := [(6, .ref 3 4 0 0), (7, .ref 4 4 0 0), (8, .d (vI 2))]) (L' := [some ⟨4, [.d (WiPlan.d p)]⟩, some ⟨4, [.d (WiState.d s)]⟩, some ⟨3, [.d (WiNight.d nv)]⟩, some ⟨4, [WiState_T1 (WiState.mk ([] : List Int) ([] : List Int) ([] : List Int) 0) 10 11 12]⟩, some ⟨4, [.d (.agg [vI 0, vI 0, vI 0, vI 0])]⟩, some ⟨22, [Table_T1 t 6 7 8 9]⟩, some (lvI t.s_Used), some (lvI t.s_Credit), some (lvI t.s_Last), some (m1w t.done), some (lvI ([] : List Int)), some (lvI ([] : List Int))]) 1 R R (.cons (.same _) (.cons (.same _) (.cons (.same _) .nil))) (.same (.same (.same (.cons R (.cons (.aggL (.cons (.same _) (.cons (.same _) (.cons .nil (.cons (.same _) .nil))))) .nil) (.same (.same (.same (.same (.same (.same (.same (.same .nil)))))))))))) ?_
  simp only [List.cons_append, List.nil_append]
  refine sw_ret (block_ret (then_ret ?_))
  obtain rfl := sI h
  exact f2 [10, 11, 12] (.row R (.row R (.row R .nil))) R (.cons (rc tb R) (.cons (rc tb R) (.cons (.tmp 8) .nil))) R
 intro c3
 replace h := ifN (Int.not_le.2 c3) h
 refine q_asgD R (eN (sw_condF R (sw_skip (block_norm (then_norm (qG (r_movR R R R (r_nilRef R R R (q_fa tb R (q_fa tb R (q_ldD (y := vI t.s_Next) tb R (q_add R (r_nilRef R R R (q_fa tb R (q_fa tb R ?_)))))))))))))))
 refine q_stE _ ([some ⟨4, [.d (WiPlan.d p)]⟩, some ⟨4, [.d (WiState.d s)]⟩, some ⟨3, [.d (WiNight.d nv)]⟩, some ⟨4, [.d (.agg [.v (.slice none 0 0), .v (.slice none 0 0), .v (.slice none 0 0), vI 0])]⟩, some ⟨4, [.d (.agg [vI 0, vI 0, vI 0, vI 0])]⟩, some ⟨22, [Table_T1 {t with s_Next := (W (t.s_Next + 1))} 6 7 8 9]⟩, some (lvI t.s_Used), some (lvI t.s_Credit), some (lvI t.s_Last), some (m1w t.done)]) tb R (eN (sw_seq (sw_dr (by kernel_rfl) (r_movR R R R (r_nilRef R R R (q_fa tb R ?_))))))
 refine r_ldG tb R R R R R R R R R (r_movR R R R (r_nilRef R R R (q_fa tb R (q_ldD (y := .agg [vI t.use_Window, vI t.use_Team, vI t.use_At, vI t.use_By]) tb R (q_stE _ _ tb R (q_stE _ _ tb R (q_asgD R (ev_endD (by kernel_rfl) (then_norm (sw_ret ?_))))))))))
 obtain rfl := sI h
 exact f2 [6, 7, 8] (.row R (.row R (.row R .nil))) R (.cons (rc tb R) (.cons (rc tb R) (.cons (.tmp 8) .nil))) R
theorem window_Play_pc {F : Nat} {p : WiPlan} {s : WiState} {nv : WiNight} {r : (WiState × WiUse × Int)} (h : window_Play F p s nv = some r) : PC Try.prog 24 [WiPlan.d p, WiState.d s, WiNight.d nv] (.tup [WiState.d r.1, WiUse.d r.2.1, .v (.int .i64 r.2.2)]) := (window_Play_scr h).toPC (.tupL (.cons (.aggL (.cons (.row rfl rfl) (.cons (.row rfl rfl) (.cons (.row rfl rfl) (.cons (.d _) .nil))))) (.cons (.d _) (.cons (.d _) .nil))))
def window_Season_L1 (F : Nat) (p : WiPlan) (nights : (List WiNight)) (K : (List WiUse) → (List Int) → (List Int) → (List Int) → Int → Int → Option ((List WiUse) × WiState × Int)) : Nat → (List WiUse) → (List Int) → (List Int) → (List Int) → Int → Int → Option ((List WiUse) × WiState × Int)
 | 0, _, _, _, _, _, _ => none
 | n + 1, uses, after, after2, after3, after4, x => if x < (nights.length : Int) then (Option.bind (ixO nights x) fun e => Option.bind (window_Play F p (WiState.mk after after2 after3 after4) e) fun rv2 => if rv2.2.2 = 0 then (if 0 ≤ rv2.2.1.team then (Option.bind (appO uses [rv2.2.1]) fun q => window_Season_L1 F p nights K n q rv2.1.used rv2.1.credit rv2.1.last rv2.1.next (W (x + 1))) else (window_Season_L1 F p nights K n uses rv2.1.used rv2.1.credit rv2.1.last rv2.1.next (W (x + 1)))) else (some (([] : List WiUse), (WiState.mk ([] : List Int) ([] : List Int) ([] : List Int) 0), rv2.2.2))) else (K uses after after2 after3 after4 x)
def window_Season (F : Nat) (p : WiPlan) (nights : (List WiNight)) : Option ((List WiUse) × WiState × Int) := Option.bind (window_Start F p) fun rv => if rv.2 = 0 then (if (p.windows.length : Int) < (nights.length : Int) then (some (([] : List WiUse), (WiState.mk ([] : List Int) ([] : List Int) ([] : List Int) 0), 3)) else (window_Season_L1 F p nights (fun (uses : (List WiUse)) (after : (List Int)) (after2 : (List Int)) (after3 : (List Int)) (after4 : Int) (x : Int) => some (uses, (WiState.mk after after2 after3 after4), 0)) F ([] : List WiUse) rv.1.used rv.1.credit rv.1.last rv.1.next 0)) else (some (([] : List WiUse), (WiState.mk ([] : List Int) ([] : List Int) ([] : List Int) 0), rv.2))
theorem window_Season_scr {F : Nat} {p : WiPlan} {nights : (List WiNight)} {r : ((List WiUse) × WiState × Int)} (h : window_Season F p nights = some r) : SCR Try.prog 27 (List.map T.d [WiPlan.d p, .arr 3 ((nights).map WiNight.d)]) [] (.tup [.row 0 4 0 (r.1).length, WiState_T1 r.2.1 1 2 3, .d (.v (.int .i64 r.2.2))]) (List.map some [(lWiUsed r.1), (lvI r.2.1.used), (lvI r.2.1.credit), (lvI r.2.1.last)]) := by
 rw [window_Season] at h
 refine SC.of_sw Try.func27 R R R ?_
 dsimp only [argS, List.map]
 refine qG (q_box R (q_asgD R (r_alloc tb R R R R R (q_asgD R (eN (qG (q_ldD (y := WiPlan.d p) tb R ?_)))))))
 obtain ⟨rv, hrv, h⟩ := bnd h
 refine r_callN (t' := .tup [WiState_T1 rv.1 2 3 4, .d (vI rv.2)]) (news' := [(lvI rv.1.used), (lvI rv.1.credit), (lvI rv.1.last)]) (window_Start_scr hrv) (.of (by kernel_rfl)) R R R ((.row (.row (.row .nil)))) R R R (r_movT (.tup [WiState_T1 rv.1 2 3 4, .d (vI rv.2)]) R R R (r_ext (t := WiState_T1 rv.1 2 3 4) R R R R (r_ext (t := .d (vI rv.2)) R R R R (q_stE _ _ tb R (q_asgD R (eN (sw_seq (sw_block (qG (q_movD R ?_))))))))))
 refine r_neq R R R R ?_ ?_
 ·intro c
  replace h := ifN c h
  refine q_asgD R (eN (sw_condT R (qG (r_build (v := .d (.agg [.v (.slice none 0 0), .v (.slice none 0 0), .v (.slice none 0 0), vI 0])) tb R R (List.cons_ne_nil _ _) R R R R R R (q_movD R (q_asgD R (q_stE _ _ tb R (q_asgD R (eN ?_)))))))))
  refine SW.own (ts' := [(4, .row 5 4 0 (([] : List WiUse)).length), (5, .ref 1 4 0 0), (6, .d (vI rv.2))]) (L' := [some ⟨4, [.d (WiPlan.d p)]⟩, some ⟨4, [.d (.agg [.v (.slice none 0 0), .v (.slice none 0 0), .v (.slice none 0 0), vI 0])]⟩, some (lvI rv.1.used), some (lvI rv.1.credit), some (lvI rv.1.last)]) 4 R R (.cons .nil (.cons (.same _) (.cons (.same _) .nil))) (.same (.same (.same (.same (.same .nil))))) ?_
  simp only [List.cons_append, List.nil_append]
  refine SW.own (ts' := [(4, .row 5 4 0 (([] : List WiUse)).length), (5, .ref 1 4 0 0), (6, .d (vI rv.2))]) (L' := [some ⟨4, [.d (WiPlan.d p)]⟩, some ⟨4, [.agg [.row 6 1 0 (([] : List Int)).length, .d (.v (.slice none 0 0)), .d (.v (.slice none 0 0)), .d (vI 0)]]⟩, some (lvI rv.1.used), some (lvI rv.1.credit), some (lvI rv.1.last), some (lWiUsed ([] : List WiUse))]) 1 R R (.cons (.same _) (.cons (.same _) (.cons (.same _) .nil))) (.same (.cons R (.cons (.aggDL (.cons .nil (.cons (.same _) (.cons (.same _) (.cons (.same _) .nil))))) .nil) (.same (.same (.same (.same .nil)))))) ?_
  simp only [List.cons_append, List.nil_append]
  refine SW.own (ts' := [(4, .row 5 4 0 (([] : List WiUse)).length), (5, .ref 1 4 0 0), (6, .d (vI rv.2))]) (L' := [some ⟨4, [.d (WiPlan.d p)]⟩, some ⟨4, [.agg [.row 6 1 0 (([] : List Int)).length, .row 7 1 0 (([] : List Int)).length, .d (.v (.slice none 0 0)), .d (vI 0)]]⟩, some (lvI rv.1.used), some (lvI rv.1.credit), some (lvI rv.1.last), some (lWiUsed ([] : List WiUse)), some (lvI ([] : List Int))]) 1 R R (.cons (.same _) (.cons (.same _) (.cons (.same _) .nil))) (.same (.cons R (.cons (.aggL (.cons (.same _) (.cons .nil (.cons (.same _) (.cons (.same _) .nil))))) .nil) (.same (.same (.same (.same (.same .nil))))))) ?_
  simp only [List.cons_append, List.nil_append]
  refine SW.own (ts' := [(4, .row 5 4 0 (([] : List WiUse)).length), (5, .ref 1 4 0 0), (6, .d (vI rv.2))]) (L' := [some ⟨4, [.d (WiPlan.d p)]⟩, some ⟨4, [WiState_T1 (WiState.mk ([] : List Int) ([] : List Int) ([] : List Int) 0) 6 7 8]⟩, some (lvI rv.1.used), some (lvI rv.1.credit), some (lvI rv.1.last), some (lWiUsed ([] : List WiUse)), some (lvI ([] : List Int)), some (lvI ([] : List Int))]) 1 R R (.cons (.same _) (.cons (.same _) (.cons (.same _) .nil))) (.same (.cons R (.cons (.aggL (.cons (.same _) (.cons (.same _) (.cons .nil (.cons (.same _) .nil))))) .nil) (.same (.same (.same (.same (.same (.same .nil)))))))) ?_
  simp only [List.cons_append, List.nil_append]
  refine sw_ret (block_ret (then_ret ?_))
  obtain rfl := sI h
  exact f2 [5, 6, 7, 8] (.row R (.row R (.row R (.row R .nil)))) R (.cons (.tmp 4) (.cons (rc tb R) (.cons (.tmp 6) .nil))) R
 intro c
 replace h := ifP c h
 refine q_asgD R (eN (sw_condF R (qG (q_movD R (q_lenM tb R (q_fa tb R (q_ldD (y := .arr 3 ((p.windows).map WiWindow.d)) tb R (q_lenM tb R ?_))))))))
 refine r_gtr R R R R ?_ ?_
 ·intro c2
  replace h := ifP c2 h
  refine q_asgD R (eN (sw_condT R (qG (r_build (v := .d (.agg [.v (.slice none 0 0), .v (.slice none 0 0), .v (.slice none 0 0), vI 0])) tb R R (List.cons_ne_nil _ _) R R R R R R (q_asgD R (q_stE _ _ tb R (q_asgD R (eN ?_))))))))
  refine SW.own (ts' := [(4, .row 5 4 0 (([] : List WiUse)).length), (5, .ref 1 4 0 0), (6, .d (vI 3))]) (L' := [some ⟨4, [.d (WiPlan.d p)]⟩, some ⟨4, [.d (.agg [.v (.slice none 0 0), .v (.slice none 0 0), .v (.slice none 0 0), vI 0])]⟩, some (lvI rv.1.used), some (lvI rv.1.credit), some (lvI rv.1.last)]) 4 R R (.cons .nil (.cons (.same _) (.cons (.same _) .nil))) (.same (.same (.same (.same (.same .nil))))) ?_
  simp only [List.cons_append, List.nil_append]
  refine SW.own (ts' := [(4, .row 5 4 0 (([] : List WiUse)).length), (5, .ref 1 4 0 0), (6, .d (vI 3))]) (L' := [some ⟨4, [.d (WiPlan.d p)]⟩, some ⟨4, [.agg [.row 6 1 0 (([] : List Int)).length, .d (.v (.slice none 0 0)), .d (.v (.slice none 0 0)), .d (vI 0)]]⟩, some (lvI rv.1.used), some (lvI rv.1.credit), some (lvI rv.1.last), some (lWiUsed ([] : List WiUse))]) 1 R R (.cons (.same _) (.cons (.same _) (.cons (.same _) .nil))) (.same (.cons R (.cons (.aggDL (.cons .nil (.cons (.same _) (.cons (.same _) (.cons (.same _) .nil))))) .nil) (.same (.same (.same (.same .nil)))))) ?_
  simp only [List.cons_append, List.nil_append]
  refine SW.own (ts' := [(4, .row 5 4 0 (([] : List WiUse)).length), (5, .ref 1 4 0 0), (6, .d (vI 3))]) (L' := [some ⟨4, [.d (WiPlan.d p)]⟩, some ⟨4, [.agg [.row 6 1 0 (([] : List Int)).length, .row 7 1 0 (([] : List Int)).length, .d (.v (.slice none 0 0)), .d (vI 0)]]⟩, some (lvI rv.1.used), some (lvI rv.1.credit), some (lvI rv.1.last), some (lWiUsed ([] : List WiUse)), some (lvI ([] : List Int))]) 1 R R (.cons (.same _) (.cons (.same _) (.cons (.same _) .nil))) (.same (.cons R (.cons (.aggL (.cons (.same _) (.cons .nil (.cons (.same _) (.cons (.same _) .nil))))) .nil) (.same (.same (.same (.same (.same .nil))))))) ?_
  simp only [List.cons_append, List.nil_append]
  refine SW.own (ts' := [(4, .row 5 4 0 (([] : List WiUse)).length), (5, .ref 1 4 0 0), (6, .d (vI 3))]) (L' := [some ⟨4, [.d (WiPlan.d p)]⟩, some ⟨4, [WiState_T1 (WiState.mk ([] : List Int) ([] : List Int) ([] : List Int) 0) 6 7 8]⟩, some (lvI rv.1.used), some (lvI rv.1.credit), some (lvI rv.1.last), some (lWiUsed ([] : List WiUse)), some (lvI ([] : List Int)), some (lvI ([] : List Int))]) 1 R R (.cons (.same _) (.cons (.same _) (.cons (.same _) .nil))) (.same (.cons R (.cons (.aggL (.cons (.same _) (.cons (.same _) (.cons .nil (.cons (.same _) .nil))))) .nil) (.same (.same (.same (.same (.same (.same .nil)))))))) ?_
  simp only [List.cons_append, List.nil_append]
  refine sw_ret (block_ret (then_ret ?_))
  obtain rfl := sI h
  exact f2 [5, 6, 7, 8] (.row R (.row R (.row R (.row R .nil)))) R (.cons (.tmp 4) (.cons (rc tb R) (.cons (.tmp 6) .nil))) R
 intro c2
 replace h := ifN (Int.not_lt.2 c2) h
 refine q_asgD R (eN (sw_condF R (sw_skip (block_norm (then_norm (sw_seq (qG (q_movD R (q_lenM tb R (q_movD R (eN (sw_block ?_))))))))))))
 refine SW.own (ts' := [(2, .ref 0 4 0 0), (4, .row 5 4 0 (([] : List WiUse)).length), (5, .ref 1 4 0 0), (6, .d (vI rv.2)), (30, .d (.arr 3 ((nights).map WiNight.d))), (31, .d (vI (nights.length : Int))), (32, .d (vI 0))]) (L' := [some ⟨4, [.d (WiPlan.d p)]⟩, some ⟨4, [WiState_T1 rv.1 2 3 4]⟩, some (lvI rv.1.used), some (lvI rv.1.credit), some (lvI rv.1.last)]) 4 R R (.cons (.same _) (.cons .nil (.cons (.same _) (.cons (.same _) (.cons (.same _) (.cons (.same _) (.cons (.same _) .nil))))))) (.same (.same (.same (.same (.same .nil))))) ?_
 simp only [List.cons_append, List.nil_append]
 obtain ⟨K1, hK1, h⟩ : ∃ K, K = _ ∧ window_Season_L1 F p nights K F ([] : List WiUse) rv.1.used rv.1.credit rv.1.last rv.1.next 0 = some r := ⟨_, rfl, h⟩
 refine sw_loopS (st0 := ⟨[(2, .ref 0 4 0 0), (4, .row 1 4 0 (([] : List WiUse)).length), (5, .ref 2 4 0 0), (6, .d (vI rv.2)), (30, .d (.arr 3 ((nights).map WiNight.d))), (31, .d (vI (nights.length : Int))), (32, .d (vI 0))], [some ⟨4, [.d (WiPlan.d p)]⟩, some (lWiUsed ([] : List WiUse)), some ⟨4, [WiState_T1 rv.1 3 4 5]⟩, some (lvI rv.1.used), some (lvI rv.1.credit), some (lvI rv.1.last)]⟩) (fun m st => ∃ (uses : (List WiUse)) (after : (List Int)) (after2 : (List Int)) (after3 : (List Int)) (after4 : Int) (x : Int), window_Season_L1 F p nights K1 m uses after after2 after3 after4 x = some r ∧ st = ⟨[(2, .ref 0 4 0 0), (4, .row 1 4 0 (uses).length), (5, .ref 2 4 0 0), (6, .d (vI rv.2)), (30, .d (.arr 3 ((nights).map WiNight.d))), (31, .d (vI (nights.length : Int))), (32, .d (vI x))], [some ⟨4, [.d (WiPlan.d p)]⟩, some (lWiUsed uses), some ⟨4, [WiState_T1 (WiState.mk after after2 after3 after4) 3 4 5]⟩, some (lvI after), some (lvI after2), some (lvI after3)]⟩) (.vw (κ := [0, 5, 1, 2, 3, 4]) (vK (.cons R R (.row R (.cons R R (.row R (.row R (.row R .nil)))))) R)) ⟨([] : List WiUse), rv.1.used, rv.1.credit, rv.1.last, rv.1.next, 0, h, R⟩ ?_
 clear h
 rintro m1 st ⟨uses, after, after2, after3, after4, x, h, rfl⟩
 cases m1 with
 | zero => cases (show (none : Option ((List WiUse) × WiState × Int)) = some r from h)
 | succ m1 =>
 rw [window_Season_L1] at h
 refine qG ?_
 refine r_lss R R R R ?_ ?_
 ·intro c3
  replace h := ifP c3 h
  refine eN (sw_seq (sw_condT R (sw_skip (then_norm (sw_seq (sw_block (qG ?_)))))))
  obtain ⟨e, ie, h⟩ := bnd h
  refine q_ixE tb (ix0 ie) (ix1m ie) R (q_ldE (y := WiNight.d e) tb (ix2 (g := WiNight.d) ie) R (r_alloc tb R R R R R (q_stE _ _ tb R (eN (qG (q_ldD (y := WiPlan.d p) tb R (r_ldG tb R R R R R R R R R (q_ldD (y := WiNight.d e) tb R ?_))))))))
  obtain ⟨rv2, hrv2, h⟩ := bnd h
  refine r_callLN (t' := .tup [WiState_T1 rv2.1 7 8 9, .d (WiUse.d rv2.2.1), .d (vI rv2.2.2)]) (news' := [(lvI rv2.1.used), (lvI rv2.1.credit), (lvI rv2.1.last)]) (window_Play_scr hrv2) R ((.row (fun _ => rfl) (.row (fun _ => rfl) (.row (fun _ => rfl) .nil)))) (.of (by kernel_rfl)) R R ((.cons (.d _) (.cons (.aggL (.cons (.row R R) (.cons (.row R R) (.cons (.row R R) (.cons (.d _) .nil))))) (.cons (.d _) .nil)))) R ((.row (.row (.row .nil)))) R R R ?_
  refine r_movT (.tup [WiState_T1 rv2.1 7 8 9, .d (WiUse.d rv2.2.1), .d (vI rv2.2.2)]) R R R (r_ext (t := WiState_T1 rv2.1 7 8 9) R R R R (r_ext (t := .d (WiUse.d rv2.2.1)) R R R R (r_ext (t := .d (vI rv2.2.2)) R R R R (r_alloc tb R R R R R (r_alloc tb R R R R R (q_stE _ _ tb R (q_stE _ _ tb R (q_asgD R (eN (sw_seq (qG (q_movD R ?_))))))))))))
  refine r_neq R R R R ?_ ?_
  ·intro c4
   replace h := ifN c4 h
   refine eN (sw_condT R (qG (r_build (v := .d (.agg [.v (.slice none 0 0), .v (.slice none 0 0), .v (.slice none 0 0), vI 0])) tb R R (List.cons_ne_nil _ _) R R R R R R (q_movD R (q_asgD R (q_stE _ _ tb R (q_asgD R (eN ?_))))))))
   refine SW.own (ts' := [(4, .row 12 4 0 (([] : List WiUse)).length), (5, .ref 2 4 0 0), (6, .d (vI rv2.2.2))]) (L' := [some ⟨4, [.d (WiPlan.d p)]⟩, some (lWiUsed uses), some ⟨4, [.d (.agg [.v (.slice none 0 0), .v (.slice none 0 0), .v (.slice none 0 0), vI 0])]⟩, some (lvI after), some (lvI after2), some (lvI after3), some ⟨3, [.d (WiNight.d e)]⟩, some (lvI rv2.1.used), some (lvI rv2.1.credit), some (lvI rv2.1.last), some ⟨4, [WiState_T1 rv2.1 7 8 9]⟩, some ⟨4, [.d (WiUse.d rv2.2.1)]⟩]) 4 R R (.cons .nil (.cons (.same _) (.cons (.same _) .nil))) (.same (.same (.same (.same (.same (.same (.same (.same (.same (.same (.same (.same .nil)))))))))))) ?_
   simp only [List.cons_append, List.nil_append]
   refine SW.own (ts' := [(4, .row 12 4 0 (([] : List WiUse)).length), (5, .ref 2 4 0 0), (6, .d (vI rv2.2.2))]) (L' := [some ⟨4, [.d (WiPlan.d p)]⟩, some (lWiUsed uses), some ⟨4, [.agg [.row 13 1 0 (([] : List Int)).length, .d (.v (.slice none 0 0)), .d (.v (.slice none 0 0)), .d (vI 0)]]⟩, some (lvI after), some (lvI after2), some (lvI after3), some ⟨3, [.d (WiNight.d e)]⟩, some (lvI rv2.1.used), some (lvI rv2.1.credit), some (lvI rv2.1.last), some ⟨4, [WiState_T1 rv2.1 7 8 9]⟩, some ⟨4, [.d (WiUse.d rv2.2.1)]⟩, some (lWiUsed ([] : List WiUse))]) 1 R R (.cons (.same _) (.cons (.same _) (.cons (.same _) .nil))) (.same (.same (.cons R (.cons (.aggDL (.cons .nil (.cons (.same _) (.cons (.same _) (.cons (.same _) .nil))))) .nil) (.same (.same (.same (.same (.same (.same (.same (.same (.same (.same .nil))))))))))))) ?_
   simp only [List.cons_append, List.nil_append]
   refine SW.own (ts' := [(4, .row 12 4 0 (([] : List WiUse)).length), (5, .ref 2 4 0 0), (6, .d (vI rv2.2.2))]) (L' := [some ⟨4, [.d (WiPlan.d p)]⟩, some (lWiUsed uses), some ⟨4, [.agg [.row 13 1 0 (([] : List Int)).length, .row 14 1 0 (([] : List Int)).length, .d (.v (.slice none 0 0)), .d (vI 0)]]⟩, some (lvI after), some (lvI after2), some (lvI after3), some ⟨3, [.d (WiNight.d e)]⟩, some (lvI rv2.1.used), some (lvI rv2.1.credit), some (lvI rv2.1.last), some ⟨4, [WiState_T1 rv2.1 7 8 9]⟩, some ⟨4, [.d (WiUse.d rv2.2.1)]⟩, some (lWiUsed ([] : List WiUse)), some (lvI ([] : List Int))]) 1 R R (.cons (.same _) (.cons (.same _) (.cons (.same _) .nil))) (.same (.same (.cons R (.cons (.aggL (.cons (.same _) (.cons .nil (.cons (.same _) (.cons (.same _) .nil))))) .nil) (.same (.same (.same (.same (.same (.same (.same (.same (.same (.same (.same .nil)))))))))))))) ?_
   simp only [List.cons_append, List.nil_append]
   refine SW.own (ts' := [(4, .row 12 4 0 (([] : List WiUse)).length), (5, .ref 2 4 0 0), (6, .d (vI rv2.2.2))]) (L' := [some ⟨4, [.d (WiPlan.d p)]⟩, some (lWiUsed uses), some ⟨4, [WiState_T1 (WiState.mk ([] : List Int) ([] : List Int) ([] : List Int) 0) 13 14 15]⟩, some (lvI after), some (lvI after2), some (lvI after3), some ⟨3, [.d (WiNight.d e)]⟩, some (lvI rv2.1.used), some (lvI rv2.1.credit), some (lvI rv2.1.last), some ⟨4, [WiState_T1 rv2.1 7 8 9]⟩, some ⟨4, [.d (WiUse.d rv2.2.1)]⟩, some (lWiUsed ([] : List WiUse)), some (lvI ([] : List Int)), some (lvI ([] : List Int))]) 1 R R (.cons (.same _) (.cons (.same _) (.cons (.same _) .nil))) (.same (.same (.cons R (.cons (.aggL (.cons (.same _) (.cons (.same _) (.cons .nil (.cons (.same _) .nil))))) .nil) (.same (.same (.same (.same (.same (.same (.same (.same (.same (.same (.same (.same .nil))))))))))))))) ?_
   simp only [List.cons_append, List.nil_append]
   refine sw_ret (then_ret (block_ret (then_ret (then_ret (block_ret (then_ret ?_))))))
   obtain rfl := sI h
   exact f2 [12, 13, 14, 15] (.row R (.row R (.row R (.row R .nil)))) R (.cons (.tmp 4) (.cons (rc tb R) (.cons (.tmp 6) .nil))) R
  intro c4
  replace h := ifP c4 h
  refine eN (sw_condF R (sw_skip (then_norm (qG (r_ldG tb R R R R R R R R R (q_stE _ _ tb R (eN (qG (q_fa tb R (q_ldD (y := vI rv2.2.1.team) tb R ?_))))))))))
  refine r_geq R R R R ?_ ?_
  ·intro c5
   replace h := ifP c5 h
   refine eN (sw_condT R (sw_rg (r_movW R R R (q_ldD (y := WiUse.d rv2.2.1) tb R (r_bslice tb R R R R R R R R R R R R R ?_)))))
   obtain ⟨q, iq, h⟩ := bnd h
   refine r_apM (g := WiUse.d) (w := uses) (v := [rv2.2.1]) ([some ⟨4, [.d (WiPlan.d p)]⟩, none, some ⟨4, [WiState_T1 rv2.1 7 8 9]⟩, some (lvI after), some (lvI after2), some (lvI after3), some ⟨3, [.d (WiNight.d e)]⟩, some (lvI rv2.1.used), some (lvI rv2.1.credit), some (lvI rv2.1.last), some ⟨4, [WiState_T1 rv2.1 7 8 9]⟩, some ⟨4, [.d (WiUse.d rv2.2.1)]⟩, some (lWiUsed [rv2.2.1])]) tb R R R R R R R R R R R iq R R R R R (r_asgW R R R (ev_end (block_norm (then_norm (sw_rg (q_add R (q_movD R (eN ?_))))))))
   exact ⟨m1, ⟨[(2, .ref 0 4 0 0), (4, .row 1 4 0 (q).length), (5, .ref 2 4 0 0), (6, .d (vI rv.2)), (30, .d (.arr 3 ((nights).map WiNight.d))), (31, .d (vI (nights.length : Int))), (32, .d (vI (W (x + 1))))], [some ⟨4, [.d (WiPlan.d p)]⟩, some (lWiUsed q), some ⟨4, [WiState_T1 rv2.1 3 4 5]⟩, some (lvI rv2.1.used), some (lvI rv2.1.credit), some (lvI rv2.1.last)]⟩, Nat.lt_succ_self _, .vw (κ := [0, 13, 2, 7, 8, 9]) (vK (.cons R R (.row R (.cons R R (.row R (.row R (.row R .nil)))))) R), q, rv2.1.used, rv2.1.credit, rv2.1.last, rv2.1.next, (W (x + 1)), h, R⟩
  intro c5
  replace h := ifN (Int.not_le.2 c5) h
  refine eN (sw_condF R (sw_skip (block_norm (then_norm (sw_rg (q_add R (q_movD R (eN ?_))))))))
  exact ⟨m1, ⟨[(2, .ref 0 4 0 0), (4, .row 1 4 0 (uses).length), (5, .ref 2 4 0 0), (6, .d (vI rv.2)), (30, .d (.arr 3 ((nights).map WiNight.d))), (31, .d (vI (nights.length : Int))), (32, .d (vI (W (x + 1))))], [some ⟨4, [.d (WiPlan.d p)]⟩, some (lWiUsed uses), some ⟨4, [WiState_T1 rv2.1 3 4 5]⟩, some (lvI rv2.1.used), some (lvI rv2.1.credit), some (lvI rv2.1.last)]⟩, Nat.lt_succ_self _, .vw (κ := [0, 1, 2, 7, 8, 9]) (vK (.cons R R (.row R (.cons R R (.row R (.row R (.row R .nil)))))) R), uses, rv2.1.used, rv2.1.credit, rv2.1.last, rv2.1.next, (W (x + 1)), h, R⟩
 intro c3
 replace h := ifN (Int.not_lt.2 c3) h
 refine eN (sw_seq (sw_condF R (sw_exit (then_exit (then_exit ?_)))))
 subst hK1
 refine block_exit (then_norm (sw_seq (sw_dr (by kernel_rfl) (r_movW R R R (r_ldG tb R R R R R R R R R (r_asgW R R R (q_stE _ _ tb R (q_asgD R (ev_endD (by kernel_rfl) (then_norm (sw_ret ?_)))))))))))
 obtain rfl := sI h
 exact f2 [1, 3, 4, 5] (.row R (.row R (.row R (.row R .nil)))) R (.cons (.tmp 4) (.cons (rc tb R) (.cons (.tmp 6) .nil))) R
theorem window_Season_pc {F : Nat} {p : WiPlan} {nights : (List WiNight)} {r : ((List WiUse) × WiState × Int)} (h : window_Season F p nights = some r) : PC Try.prog 27 [WiPlan.d p, .arr 3 ((nights).map WiNight.d)] (.tup [.arr 4 ((r.1).map WiUse.d), WiState.d r.2.1, .v (.int .i64 r.2.2)]) := (window_Season_scr h).toPC (.tupL (.cons (.row rfl rfl) (.cons (.aggL (.cons (.row rfl rfl) (.cons (.row rfl rfl) (.cons (.row rfl rfl) (.cons (.d _) .nil))))) (.cons (.d _) .nil))))
def r_Ints_L1 (F : Nat) (a : (List Int)) (b : (List Int)) (K : Int → Option Bool) : Nat → Int → Option Bool
 | 0, _ => none
 | n + 1, i => if i < (a.length : Int) then (Option.bind (ixO a i) fun e => Option.bind (ixO b i) fun e2 => if e = e2 then (r_Ints_L1 F a b K n (W (i + 1))) else (some false)) else (K i)
def r_Ints (F : Nat) (a : (List Int)) (b : (List Int)) : Option Bool := if (a.length : Int) = (b.length : Int) then (r_Ints_L1 F a b (fun (i : Int) => some true) F 0) else (some false)
theorem r_Ints_pc {F : Nat} {a : (List Int)} {b : (List Int)} {r : Bool} (h : r_Ints F a b = some r) : PC Try.prog 28 [.arr 1 ((a).map vI), .arr 1 ((b).map vI)] (.v (.bool r)) := by
 rw [r_Ints] at h
 refine SC.of_sw Try.func28 R R R ?_
 dsimp only [argS, List.map]
 refine qG (q_asgD R (eN (sw_seq (qG (q_movD R (q_lenM tb R (q_movD R (q_lenM tb R ?_))))))))
 refine r_neq R R R R ?_ ?_
 ·intro c
  replace h := ifN c h
  refine eN (sw_condT R (qG (q_asgD R (eN (sw_ret (then_ret ?_))))))
  obtain rfl := sI h
  exact f1 4 R
 intro c
 replace h := ifP c h
 refine eN (sw_condF R (sw_skip (then_norm (sw_seq (qG (q_asgD R (eN (sw_block ?_))))))))
 obtain ⟨K2, hK2, h⟩ : ∃ K, K = _ ∧ r_Ints_L1 F a b K F 0 = some r := ⟨_, rfl, h⟩
 refine sw_loopS (fun m st => ∃ (i : Int), r_Ints_L1 F a b K2 m i = some r ∧ st = ⟨[(0, .d (.arr 1 ((a).map vI))), (1, .d (.arr 1 ((b).map vI))), (4, .d (.v (.bool false))), (5, .d (vI i))], []⟩) (.prn [0, 1, 4, 5] R) ⟨0, h, R⟩ ?_
 clear h
 rintro m2 st ⟨i, h, rfl⟩
 cases m2 with
 | zero => cases (show (none : Option Bool) = some r from h)
 | succ m2 =>
 rw [r_Ints_L1] at h
 refine sw_seq (qG (q_movD R (q_movD R (q_lenM tb R ?_))))
 refine r_lss R R R R ?_ ?_
 ·intro c2
  replace h := ifP c2 h
  refine eN (sw_condT R (sw_skip (then_norm (sw_seq (sw_block (sw_seq (sw_dr (by kernel_rfl) (q_movD R (q_movD R ?_)))))))))
  obtain ⟨e, ie, h⟩ := bnd h
  refine q_ixE tb (ix0 ie) (ix1m ie) R (q_ldE (y := vI e) tb (ix2 (g := vI) ie) R (q_movD R (q_movD R ?_)))
  obtain ⟨e2, ie2, h⟩ := bnd h
  refine q_ixE tb (ix0 ie2) (ix1m ie2) R (q_ldE (y := vI e2) tb (ix2 (g := vI) ie2) R ?_)
  refine r_neq R R R R ?_ ?_
  ·intro c3
   replace h := ifN c3 h
   refine ev_endD (by kernel_rfl) (then_norm (sw_condT R (qG (q_asgD R (eN (sw_ret (block_ret (then_ret (then_ret (block_ret (then_ret ?_)))))))))))
   obtain rfl := sI h
   exact f1 4 R
  intro c3
  replace h := ifP c3 h
  refine ev_endD (by kernel_rfl) (then_norm (sw_condF R (sw_skip (block_norm (then_norm (sw_rg (q_movD R (q_add R (q_asgD R (eN ?_))))))))))
  exact ⟨m2, _, Nat.lt_succ_self _, .prn [0, 1, 4, 5] R, (W (i + 1)), h, R⟩
 intro c2
 replace h := ifN (Int.not_lt.2 c2) h
 refine eN (sw_condF R (sw_exit (then_exit (then_exit ?_))))
 subst hK2
 refine block_exit (then_norm (qG (q_asgD R (eN (sw_ret ?_)))))
 obtain rfl := sI h
 exact f1 4 R
def r_SameUses_L1 (F : Nat) (a : (List WiUse)) (b : (List WiUse)) (K : Int → Option Bool) : Nat → Int → Option Bool
 | 0, _ => none
 | n + 1, i => if i < (a.length : Int) then (Option.bind (ixO a i) fun e => Option.bind (ixO b i) fun e2 => if (!(WiUse.beq e e2)) = true then (some false) else (r_SameUses_L1 F a b K n (W (i + 1)))) else (K i)
def r_SameUses (F : Nat) (a : (List WiUse)) (b : (List WiUse)) : Option Bool := if (a.length : Int) = (b.length : Int) then (r_SameUses_L1 F a b (fun (i : Int) => some true) F 0) else (some false)
theorem r_SameUses_pc {F : Nat} {a : (List WiUse)} {b : (List WiUse)} {r : Bool} (h : r_SameUses F a b = some r) : PC Try.prog 29 [.arr 4 ((a).map WiUse.d), .arr 4 ((b).map WiUse.d)] (.v (.bool r)) := by
 rw [r_SameUses] at h
 refine SC.of_sw Try.func29 R R R ?_
 dsimp only [argS, List.map]
 refine qG (q_asgD R (eN (sw_seq (qG (q_movD R (q_lenM tb R (q_movD R (q_lenM tb R ?_))))))))
 refine r_neq R R R R ?_ ?_
 ·intro c
  replace h := ifN c h
  refine eN (sw_condT R (qG (q_asgD R (eN (sw_ret (then_ret ?_))))))
  obtain rfl := sI h
  exact f1 4 R
 intro c
 replace h := ifP c h
 refine eN (sw_condF R (sw_skip (then_norm (sw_seq (qG (q_asgD R (eN (sw_block ?_))))))))
 obtain ⟨K2, hK2, h⟩ : ∃ K, K = _ ∧ r_SameUses_L1 F a b K F 0 = some r := ⟨_, rfl, h⟩
 refine sw_loopS (fun m st => ∃ (i : Int), r_SameUses_L1 F a b K2 m i = some r ∧ st = ⟨[(0, .d (.arr 4 ((a).map WiUse.d))), (1, .d (.arr 4 ((b).map WiUse.d))), (4, .d (.v (.bool false))), (5, .d (vI i))], []⟩) (.prn [0, 1, 4, 5] R) ⟨0, h, R⟩ ?_
 clear h
 rintro m2 st ⟨i, h, rfl⟩
 cases m2 with
 | zero => cases (show (none : Option Bool) = some r from h)
 | succ m2 =>
 rw [r_SameUses_L1] at h
 refine sw_seq (qG (q_movD R (q_movD R (q_lenM tb R ?_))))
 refine r_lss R R R R ?_ ?_
 ·intro c2
  replace h := ifP c2 h
  refine eN (sw_condT R (sw_skip (then_norm (sw_seq (sw_block (sw_seq (sw_dr (by kernel_rfl) (q_movD R (q_movD R ?_)))))))))
  obtain ⟨e, ie, h⟩ := bnd h
  refine q_ixE tb (ix0 ie) (ix1m ie) R (q_ldE (y := WiUse.d e) tb (ix2 (g := WiUse.d) ie) R (q_movD R (q_movD R ?_)))
  obtain ⟨e2, ie2, h⟩ := bnd h
  refine q_ixE tb (ix0 ie2) (ix1m ie2) R (q_ldE (y := WiUse.d e2) tb (ix2 (g := WiUse.d) ie2) R ?_)
  refine r_neqA (p := [.int .i64 e.window, .int .i64 e.team, .int .i64 e.at_, .int .i64 e.by_]) (q := [.int .i64 e2.window, .int .i64 e2.team, .int .i64 e2.at_, .int .i64 e2.by_]) R R (fun o1 o2 w => ne44 e e2 o1 o2 w) R R ?_
  with_reducible apply ev_lit
  ·intro c3
   replace h := ifP c3 h
   refine ev_endD (by kernel_rfl) (then_norm (sw_condT R (qG (q_asgD R (eN (sw_ret (block_ret (then_ret (then_ret (block_ret (then_ret ?_)))))))))))
   obtain rfl := sI h
   exact f1 4 R
  intro c3
  replace h := ifF c3 h
  refine ev_endD (by kernel_rfl) (then_norm (sw_condF R (sw_skip (block_norm (then_norm (sw_rg (q_movD R (q_add R (q_asgD R (eN ?_))))))))))
  exact ⟨m2, _, Nat.lt_succ_self _, .prn [0, 1, 4, 5] R, (W (i + 1)), h, R⟩
 intro c2
 replace h := ifN (Int.not_lt.2 c2) h
 refine eN (sw_condF R (sw_exit (then_exit (then_exit ?_))))
 subst hK2
 refine block_exit (then_norm (qG (q_asgD R (eN (sw_ret ?_)))))
 obtain rfl := sI h
 exact f1 4 R
end Go.Proofs.Ytdefnmcjmklohaa
namespace Go.Proofs.Ytdefnmcjmklohaa.Sh
open Go
def strL (ns : List Int) : ByteArray := ns.foldl (fun r n => r.push (UInt8.ofNat n.toNat)) ByteArray.empty
theorem flat_bytes : ∀ ns : List Int, flat (ns.map fun n => T.d (v8 n)) = ns.map fun n => T.d (v8 n)
 | [] => rfl
 | m :: l => by show T.cells (T.d (v8 m)) ++ flat (l.map fun n => T.d (v8 n)) = _; rw [flat_bytes l]; rfl
theorem vts_bytes {g : G} {ns : List Int} {vs : List Value} (h : VTs g (flat (ns.map fun n => T.d (v8 n))) vs) : vs = ns.map (Value.int .u8) := by
 rw [flat_bytes] at h
 obtain ⟨hl, hv⟩ := h
 rw [List.length_map] at hl
 apply List.ext_getElem?
 intro i
 by_cases hi : i < ns.length
 ·have h2 := hv i (.d (v8 ns[i])) vs[i] (by simp [hi]) (List.getElem?_eq_getElem (by omega))
  rw [List.getElem?_eq_getElem (by omega), h2.v_eq, List.getElem?_map, List.getElem?_eq_getElem hi]
  rfl
 ·rw [List.getElem?_eq_none (by omega), List.getElem?_eq_none (by simp; omega)]
theorem o_str {P : Program} {o : Oper} {fresh : Nat} {src dst e : TypeId} {x : Operand} {u : T} {ns : List Int} {rn : List (Nat × Rw)} (hop : o.op = .convert src dst x) (hs : P.underlying src = some (.slice e)) (he : P.underlying e = some (.int .u8)) (hd : P.underlying dst = some .string) (hu : srcIs u (ns.map fun n => .d (v8 n)) 1 rn) (h0 : 0 < ns.length) :
  OpS P o [(x, u)] rn [] fresh [] (.d (.v (.string (strL ns)))) :=
 .of_pure (fun c h => by rw [hop] at h; cases h) fun g a hg hi hr => by
  obtain ⟨A, cap, vs, e1, hc1, hv, had⟩ := src_spec hg (hi (x, u) (by simp)) hu hr
  rw [List.length_map] at e1 had
  obtain ⟨ad, rfl, hcell⟩ := had h0
  have e2 := vts_bytes hv
  have hrun := run_bytesToString (P := P) g.w ad ns.length cap ns (by
   have := run_loadCells_list (P := P) g.w ad (ns.map (Value.int .u8)) (fun j v hj => hcell j v (by rw [e2]; exact hj))
   rwa [List.length_map] at this)
  refine ⟨.string (strL ns), ?_, .d (.v _ rfl)⟩
  simp only [execOp, hop, e1, Sem.run_bind, run_convert_bytes_string (P := P) g.w src dst e (some ad) ns.length cap hs he hd, hrun]
  rfl
def catO (a b : ByteArray) : Option ByteArray := if a.size + b.size ≤ 9223372036854775807 then some (a ++ b) else none
section
variable {P : Program} {N : Nat} {ops : Array Oper} {l : List Oper} {ts : List (Nat × T)} {L : List (Option Rw)} {tr : List Stp} {d : Nat} {ty : TypeId} {pos : String} {af : Array Edge} {gd : Option (Nat × Bool)} {K : List Oper → List Stp → St → Prop}
theorem r_str {src dst e : TypeId} {x : Operand} {n len : Nat} {ns : List Int} (hs : P.underlying src = some (.slice e)) (he : P.underlying e = some (.int .u8)) (hd' : P.underlying dst = some .string) (hx : opT ts x = .row n 1 0 len) (hr : L[n]? = some (some ⟨1, ns.map fun a => .d (v8 a)⟩)) (hl : ns.length = len) (h0 : Nat.blt 0 ns.length = true) (hw : wantT ops ts ⟨some d, .convert src dst x, ty, pos, af, gd⟩ = some true) (hd : Nat.blt d N = true)
  (kk : EvK P N ops l ⟨(d, .d (.v (.string (strL ns)))) :: ts, L⟩ (tr ++ [.run [n] []]) K) : EvK P N ops (⟨some d, .convert src dst x, ty, pos, af, gd⟩ :: l) ⟨ts, L⟩ tr K := by
 subst hl
 refine ev_cons (.run hw (o_str (fresh := L.length) (u := .row n 1 0 ns.length) (ns := ns) (rn := [(n, ⟨1, ns.map fun a => .d (v8 a)⟩)]) rfl hs he hd' (.inr (.inr ⟨n, 0, ns.length, ⟨1, ns.map fun a => .d (v8 a)⟩, rfl, by simp, rfl, by simp, by rw [List.drop_zero, List.take_of_length_le (by simp)]⟩)) (Nat.le_of_ble_eq_true h0)) ?_ ?_ ?_ hd) ?_
 ·intro p hp
  simp only [List.mem_cons, List.not_mem_nil, or_false] at hp
  subst hp
  exact ⟨hx, by simp [Op.operands]⟩
 ·intro p hp; simp only [List.mem_cons, List.not_mem_nil, or_false] at hp; subst hp; exact hr
 ·intro p hp; simp at hp
 ·simpa [St.eff, putS, setL] using kk
theorem r_catS {t1 t2 : TypeId} {x y : Operand} {a b q : ByteArray} (hx : opT ts x = .d (.v (.string a))) (hy : opT ts y = .d (.v (.string b))) (hq : catO a b = some q) (hw : wantT ops ts ⟨some d, .binOp .add t1 x y t2, ty, pos, af, gd⟩ = some true) (hd : Nat.blt d N = true)
  (kk : EvK P N ops l ⟨(d, .d (.v (.string q))) :: ts, L⟩ (tr ++ [.run [] []]) K) : EvK P N ops (⟨some d, .binOp .add t1 x y t2, ty, pos, af, gd⟩ :: l) ⟨ts, L⟩ tr K := by
 unfold catO at hq
 split at hq
 ·rename_i h
  injection hq with hq
  subst hq
  exact ev_val (ins := [(x, .d (.v (.string a))), (y, .d (.v (.string b)))]) rfl (o_bin (p := .string a) (q := .string b) (z := .string (a ++ b)) rfl rfl (fun w => by simp [go_sem, h])) hw (by simp [Op.operands, hx, hy]) (by simp) hd kk
 ·cases hq
end
theorem o_buildSliceD {P : Program} {o : Oper} {fresh : Nat} {t e : TypeId} {i ei : TI} {len : Nat} {parts : Array (Nat × Operand)} {es : List D} (hop : o.op = .buildSlice t len parts) (ht : TOk P t i) (hsl : i.sl = some e) (he : TOk P e ei) (hl : parts.toList.length = es.length) (hlen : es.length = len)
  (hsq : seqParts 0 parts.toList = true) (hs : sizesOk ei.size (es.map .d) = true) (h1 : onesOk (es.map .d) = true) (hb : len * ei.size ≤ 16777216) (hs0 : Nat.beq ei.size 0 = false) : OpS P o ((parts.toList.map (·.2)).zip (es.map .d)) [] [] fresh [] (.d (.arr ei.size es)) :=
 .of_run (fun c h => by rw [hop] at h; cases h) fun g a hg hi hr hn => by
  obtain ⟨info, zv, hinf, hz, hsz, _, hzs, _⟩ := he.info
  obtain ⟨ts, hts⟩ : ∃ ts : List T, ts = es.map .d := ⟨_, rfl⟩
  rw [← hts] at hi hs h1
  replace hl : parts.toList.length = ts.length := by rw [hts, List.length_map]; exact hl
  replace hlen : ts.length = len := by rw [hts, List.length_map]; exact hlen
  have hvt := VTs.of_ins (g := g) (a := a) (xs := parts.toList.map (·.2)) (ts := ts) (by simpa using hl) (fun p hp => hi p hp)
  have hsm := sizes_mem hs
  have hseq : ∀ (ps : List (Nat × Operand)) (k : Nat), seqParts k ps = true → ∀ (j : Nat) (p : Nat × Operand), ps[j]? = some p → p.1 = k + j := by
   intro ps
   induction ps with
   | nil => intro k _ j p hp; simp at hp
   | cons q ps ih =>
    intro k hk j p hp
    obtain ⟨qi, qx⟩ := q
    simp only [seqParts, Bool.and_eq_true] at hk
    cases j with
    | zero => simp at hp; subst hp; exact Nat.eq_of_beq_eq_true hk.1
    | succ j => rw [ih (k + 1) hk.2 j p (by simpa using hp)]; omega
  obtain ⟨cells0, hc0⟩ : ∃ c : Array Value, c.size = len * ei.size ∧ ((len * ei.size = 0 → (Array.range (len * info.size)).map (fun k => (#[] : Array Value)[k % 0]!) = c) ∧ (len * ei.size ≠ 0 → (Array.range (len * info.size)).map (fun k => zv.cells[k % zv.cells.size]!) = c)) := by
   by_cases h0 : len * ei.size = 0
   ·exact ⟨_, by simp [hsz], fun _ => rfl, fun h => absurd h0 h⟩
   ·exact ⟨_, by simp [hsz], fun h => absurd h h0, fun _ => rfl⟩
  have hbot : VTs g (List.replicate (len * ei.size) .bot) cells0.toList := ⟨by simp [hc0.1], fun j d c hd _ => by
   rw [List.getElem?_replicate] at hd
   split at hd
   ·injection hd with hd; subst hd; exact .bot _
   ·cases hd⟩
  obtain ⟨cs', hf1, hf2⟩ := fill_spec (g := g) (fun k => some (k * info.size, info.size)) (parts.toList.map fun p => (p.1, a.eval p.2)) (seqPl ei.size 0 ts) cells0 (List.replicate (len * ei.size) .bot) (by simp [seqPl_len, ← hl]) (fun k p q hp hq => by
   simp only [List.getElem?_map, Option.map_eq_some_iff] at hp
   obtain ⟨⟨n, x⟩, hx, rfl⟩ := hp
   have hlt : k < ts.length := by rw [← hl]; exact (List.getElem?_eq_some_iff.1 hx).1
   have htk : ts[k]? = some ts[k] := List.getElem?_eq_getElem hlt
   have := seqPl_get ei.size ts 0 k _ htk
   rw [this] at hq
   injection hq with hq
   subst hq
   have hk := hseq _ 0 hsq k _ hx
   dsimp only at hk ⊢
   refine ⟨by rw [hk, hsz], hvt.2 k _ _ htk (by simp [hx]), one_mem h1 (List.getElem_mem hlt)⟩) hbot (seqPl_ok ts 0 hsm (by simp [hlen]))
  have hfl := fillT_seq ts [] (List.replicate (len * ei.size) .bot) 0 hsm (by simp) (by simp [hlen])
  simp only [List.nil_append] at hfl
  rw [hfl] at hf2
  have hcz : cs'.size = len * ei.size := by have := hf2.1; rw [flat_len hsm, hlen] at this; simpa using this.symm
  have hcell := cells_of_flat hsm hf2 (cells := cs') (fun k c h => by simpa using h)
  obtain ⟨w', hw'⟩ : ∃ w', w' = g.w.alloc (.cells cs' e) := ⟨_, rfl⟩
  have hh : w'.heap = g.w.heap.push (.cells cs' e) := by rw [hw']; rfl
  have hold : ∀ k, k < g.w.heap.size → w'.heap[k]? = g.w.heap[k]? := fun k hk => by rw [hh, Array.getElem?_push, if_neg (by omega)]
  obtain ⟨g', hg'⟩ : ∃ g' : G, g' = ⟨g.M, g.β, fun k => g.K k ∨ k = g.w.heap.size, w'⟩ := ⟨_, rfl⟩
  have hle : Le g g' := by
   rw [hg']
   exact ⟨fun n hn => ⟨hn, rfl⟩, by show _ ≤ w'.heap.size; rw [hh]; simp, by rw [hw']; rfl, by rw [hw']; rfl, by rw [hw']; rfl, fun k hk _ => hold k hk, fun k hk => .inl hk, fun k hk h => by rcases h with h | h; exact .inl h; omega, fun n r hn h0 _ hh => hh n r hn h0 rfl⟩
  have hgood : Good g' := by
   rw [hg'] at hle ⊢
   refine ⟨fun n r hn => (hg.rows n r hn).keep hg hle rfl fun h0 => hold _ ((hg.rows n r hn).lt h0), hg.inj, fun k hk => ?_, fun k hk n r hn h0 => ?_⟩
   ·show k < w'.heap.size
    rw [hh]
    simp only [Array.size_push]
    rcases hk with hk | hk
    ·have := hg.kd k hk; omega
    ·omega
   ·rcases hk with hk | hk
    ·exact hg.kl k hk n r hn h0
    ·have := (hg.rows n r hn).lt h0
     dsimp only
     omega
  have hdc : ∀ x : D, (T.d x).cells = x.cells.map .d := fun x => by cases x <;> rfl
  have hval : VT g' (.d (.arr ei.size es)) (.slice (some ⟨g.w.heap.size, 0, none⟩) len len) := by
   have hel : es.length = len := by rw [hts, List.length_map] at hlen; exact hlen
   have key : ∀ (i : Nat) (d : D), es[i]? = some d → d.cells.length = ei.size ∧ ∀ (j : Nat) (y : D), d.cells[j]? = some y → ∃ c, cs'[i * ei.size + j]? = some c ∧ VT g (.d y) c := fun i d hd => by
    have := hcell i (.d d) (by rw [hts, List.getElem?_map, hd]; rfl)
    rw [hdc, List.length_map] at this
    exact ⟨this.1, fun j y hy => this.2 j (.d y) (by rw [List.getElem?_map, hy]; rfl)⟩
   have := VD.arr (g := g') ei.size es g.w.heap.size 0 len (fun i j => (cs'[i * ei.size + j]?).getD undef) (by omega) (by rw [hg']; exact .inr rfl) (fun i d hd => (key i d hd).1) (fun i d hd j y hy => by
     obtain ⟨c, k5, _⟩ := (key i d hd).2 j y hy
     rw [hg']
     simp [World.cell?, hh, k5])
    (fun i d hd j y hy => by
     obtain ⟨c, k5, k6⟩ := (key i d hd).2 j y hy
     rw [k5, Option.getD_some]
     cases k6.mono hg hle with | d k6 => exact k6)
   rw [hel] at this
   exact .d this
  refine ⟨.slice (some ⟨g.w.heap.size, 0, none⟩) len len, g', .inl ?_, hgood, hle, by rw [hg', upd_nil], hval⟩
  rw [hg']
  have hb' : ¬ (len * info.size > 2 ^ 24) := by rw [hsz]; omega
  by_cases h0 : len * ei.size = 0
  ·have h0' : len * info.size = 0 := by rw [hsz]; exact h0
   have := hc0.2.1 h0
   have hcell : cells0 = #[] := by apply Array.eq_empty_of_size_eq_zero; rw [hc0.1, h0]
   have hr0 : Array.range 0 = #[] := rfl
   rw [hcell] at hf1
   simp [execOp, hop, Instr.buildSlice, run_underlying (ht.slice hsl), sizeOf, typeInfo, hinf, h0', hr0, hf1, newRow, hw']
  ·have h0' : len * info.size ≠ 0 := by rw [hsz]; exact h0
   have := hc0.2.2 h0
   rw [← this] at hf1
   simp [execOp, hop, Instr.buildSlice, run_underlying (ht.slice hsl), sizeOf, typeInfo, hinf, zeroValue, hz, h0', hb', hf1, newRow, hw']
section
variable {P : Program} {N : Nat} {ops : Array Oper} {l : List Oper} {ts : List (Nat × T)} {L : List (Option Rw)} {tr : List Stp} {d : Nat} {ty : TypeId} {pos : String} {af : Array Edge} {gd : Option (Nat × Bool)} {K : List Oper → List Stp → St → Prop}
theorem r_bsliceD {t e : TypeId} {i ei : TI} {len s : Nat} {parts : Array (Nat × Operand)} {es : List D} (tb : Tab P) (ht : tb.f t = some i) (hsl : i.sl = some e) (he : tb.f e = some ei) (hz : ei.size = s) (h0 : Nat.beq s 0 = false) (hx : (parts.toList.map (·.2)).map (opT ts) = es.map .d) (hlen : es.length = len) (hsq : seqParts 0 parts.toList = true) (hs : sizesOk s (es.map .d) = true) (h1 : onesOk (es.map .d) = true) (hb : Nat.ble (len * s) 16777216 = true) (hw : wantT ops ts ⟨some d, .buildSlice t len parts, ty, pos, af, gd⟩ = some true) (hd : Nat.blt d N = true)
  (kk : EvK P N ops l ⟨(d, .d (.arr s es)) :: ts, L⟩ (tr ++ [.run [] []]) K) : EvK P N ops (⟨some d, .buildSlice t len parts, ty, pos, af, gd⟩ :: l) ⟨ts, L⟩ tr K := by
 subst hz
 exact ev_val rfl (o_buildSliceD rfl (tb.ok _ _ ht) hsl (tb.ok _ _ he) (by have := congrArg List.length hx; simpa using this) hlen hsq hs h1 (Nat.le_of_ble_eq_true hb) h0) hw (fun p hp => by obtain ⟨a, b⟩ := zip_ins hx p hp; exact ⟨a, by simpa [Op.operands] using b⟩) (by simp) hd kk
theorem r_buildC {t : TypeId} {i : TI} {parts : Array (Nat × Operand)} {us : List T} {y y' : D} (hy : CastD y y') (tb : Tab P) (ht : tb.f t = some i) (hx : (parts.toList.map (·.2)).map (opT ts) = us) (hfs : i.fs ≠ []) (h1 : onesOk us = true) (hin : partsIn i.fs parts.toList = true) (hk : fillOk i.z.cells.length (partsOf i.fs parts.toList us) = true) (hv : mkAgg (fillT i.z.cells ((partsOf i.fs parts.toList us).map fun q => (q.1, q.2.2))) = .d y) (hw : wantT ops ts ⟨some d, .build t parts, ty, pos, af, gd⟩ = some true) (hd : Nat.blt d N = true)
  (kk : EvK P N ops l ⟨(d, .d y') :: ts, L⟩ (tr ++ [.run (List.map Prod.fst ([] : List (Nat × Rw))) []]) K) : EvK P N ops (⟨some d, .build t parts, ty, pos, af, gd⟩ :: l) ⟨ts, L⟩ tr K :=
 ev_val rfl ((show OpS P _ _ _ _ _ _ (.d y) from hv ▸ o_build rfl (tb.ok _ _ ht) hfs (by rw [← hx]; simp) h1 hin hk).castO fun _ _ => hy.valT) hw (fun p hp => by obtain ⟨a, b⟩ := zip_ins hx p hp; exact ⟨a, by simpa [Op.operands] using b⟩) (by simp) hd kk
end
end Go.Proofs.Ytdefnmcjmklohaa.Sh
namespace Go.Proofs.Ytdefnmcjmklohaa
set_option maxRecDepth 100000
set_option maxHeartbeats 40000000
def l_Plan (F : Nat)  : Option WiPlan := some (WiPlan.mk [(WiTeam.mk (ByteArray.mk #[110, 111, 114, 116, 104]) 5 2 10 [1] 100 2 30 []), (WiTeam.mk (ByteArray.mk #[115, 111, 117, 116, 104]) 5 3 12 [] 200 0 60 []), (WiTeam.mk (ByteArray.mk #[103, 117, 101, 115, 116]) 1 1 0 [] 300 0 20 [(Span.mk 4 5)])] [(WiWindow.mk 1 100 400), (WiWindow.mk 2 100 200), (WiWindow.mk 4 0 60)] 5 3)
theorem l_Plan_pc {F : Nat}  {r : WiPlan} (h : l_Plan F  = some r) : PC Try.prog 40 [] (WiPlan.d r) := by
 rw [l_Plan] at h
 refine PC.of_lend ?_
 refine SC.of_sw Try.func40 R R R ?_
 dsimp only [argS, List.map]
 refine qG (r_alloc tb R R R R R (eN (qG (r_bslice tb R R R R R R R R R R R R R (r_build (v := .agg [.d (.v (.string (ByteArray.mk #[110, 111, 114, 116, 104]))), .d (vI 5), .d (vI 2), .d (vI 10), .row 1 1 0 ([1]).length, .d (vI 100), .d (vI 2), .d (vI 30), .d (.v (.slice none 0 0))]) tb R R (List.cons_ne_nil _ _) R R R R R R ?_)))))
 refine r_build (v := .d (.agg [.v (.string (ByteArray.mk #[115, 111, 117, 116, 104])), vI 5, vI 3, vI 12, .v (.slice none 0 0), vI 200, vI 0, vI 60, .v (.slice none 0 0)])) tb R R (List.cons_ne_nil _ _) R R R R R R (r_build (v := .d (.agg [vI 4, vI 5])) tb R R (List.cons_ne_nil _ _) R R R R R R (r_bslice tb R R R R R R R R R R R R R ?_))
 refine r_build (v := .agg [.d (.v (.string (ByteArray.mk #[103, 117, 101, 115, 116]))), .d (vI 1), .d (vI 1), .d (vI 0), .d (.v (.slice none 0 0)), .d (vI 300), .d (vI 0), .d (vI 20), .row 2 2 0 ([(Span.mk 4 5)]).length]) tb R R (List.cons_ne_nil _ _) R R R R R R (r_bslice tb R R R R R R R R R R R R R (r_build (v := .d (.agg [vI 1, vI 100, vI 400])) tb R R (List.cons_ne_nil _ _) R R R R R R ?_))
 refine r_build (v := .d (.agg [vI 2, vI 100, vI 200])) tb R R (List.cons_ne_nil _ _) R R R R R R (r_build (v := .d (.agg [vI 4, vI 0, vI 60])) tb R R (List.cons_ne_nil _ _) R R R R R R (r_bslice tb R R R R R R R R R R R R R ?_))
 refine r_build (v := .agg [.row 3 9 0 3, .row 4 3 0 ([(WiWindow.mk 1 100 400), (WiWindow.mk 2 100 200), (WiWindow.mk 4 0 60)]).length, .d (vI 5), .d (vI 3)]) tb R R (List.cons_ne_nil _ _) R R R R R R (q_stE _ _ tb R (eN (sw_ret ?_)))
 obtain rfl := sI h
 exact (fin_S (t := .agg [.row 0 9 0 3, .row 3 3 0 ([(WiWindow.mk 1 100 400), (WiWindow.mk 2 100 200), (WiWindow.mk 4 0 60)]).length, .d (vI 5), .d (vI 3)]) (L := [some ⟨9, [.agg [.d (.v (.string (ByteArray.mk #[110, 111, 114, 116, 104]))), .d (vI 5), .d (vI 2), .d (vI 10), .row 1 1 0 ([1]).length, .d (vI 100), .d (vI 2), .d (vI 30), .d (.v (.slice none 0 0))], .d (.agg [.v (.string (ByteArray.mk #[115, 111, 117, 116, 104])), vI 5, vI 3, vI 12, .v (.slice none 0 0), vI 200, vI 0, vI 60, .v (.slice none 0 0)]), .agg [.d (.v (.string (ByteArray.mk #[103, 117, 101, 115, 116]))), .d (vI 1), .d (vI 1), .d (vI 0), .d (.v (.slice none 0 0)), .d (vI 300), .d (vI 0), .d (vI 20), .row 2 2 0 ([(Span.mk 4 5)]).length]]⟩, some (lvI [1]), some (lSpand [(Span.mk 4 5)]), some (lWiWindowd [(WiWindow.mk 1 100 400), (WiWindow.mk 2 100 200), (WiWindow.mk 4 0 60)])]) (κ := [3, 1, 2, 4]) R (.cons (rc tb R) .nil) (vK (.cons R R (.row R (.row R (.row R .nil)))) R) ⟨_, R, (.aggL (.cons (.rowL R R (.cons (.aggL (.cons (.d _) (.cons (.d _) (.cons (.d _) (.cons (.d _) (.cons (.row R R) (.cons (.d _) (.cons (.d _) (.cons (.d _) (.cons .nilA .nil)))))))))) (.cons (.aggDL (.cons (.d _) (.cons (.d _) (.cons (.d _) (.cons (.d _) (.cons .nilA (.cons (.d _) (.cons (.d _) (.cons (.d _) (.cons .nilA .nil)))))))))) (.cons (.aggL (.cons (.d _) (.cons (.d _) (.cons (.d _) (.cons (.d _) (.cons .nilA (.cons (.d _) (.cons (.d _) (.cons (.d _) (.cons (.row R R) .nil)))))))))) .nil)))) (.cons (.row R R) (.cons (.d _) (.cons (.d _) .nil)))))⟩)
def l_A (F : Nat)  : Option WiSky := some (WiSky.mk [1] 80)
theorem l_A_scr {F : Nat}  {r : WiSky} (h : l_A F  = some r) : SCR Try.prog 41 (List.map T.d []) [] (.agg [.row 0 1 0 (r.kinds).length, .d (.v (.int .i64 r.wind))]) (List.map some [(lvI r.kinds)]) := by
 rw [l_A] at h
 refine SC.of_sw Try.func41 R R R ?_
 dsimp only [argS, List.map]
 refine qG (r_alloc tb R R R R R (eN (qG (r_bslice tb R R R R R R R R R R R R R (r_build (v := .agg [.row 1 1 0 ([1]).length, .d (vI 80)]) tb R R (List.cons_ne_nil _ _) R R R R R R (q_stE _ _ tb R (eN (sw_ret ?_))))))))
 obtain rfl := sI h
 exact f2 [1] (.row R .nil) R (.cons (rc tb R) .nil) R
theorem l_A_pc {F : Nat}  {r : WiSky} (h : l_A F  = some r) : PC Try.prog 41 [] (WiSky.d r) := (l_A_scr h).toPC (.aggL (.cons (.row rfl rfl) (.cons (.d _) .nil)))
def l_launch (F : Nat) (atv : Int) : Option WiTurn := some (WiTurn.mk 1 atv 0)
theorem l_launch_pc {F : Nat} {atv : Int} {r : WiTurn} (h : l_launch F atv = some r) : PC Try.prog 26 [.v (.int .i64 atv)] (WiTurn.d r) := by
 rw [l_launch] at h
 refine SC.of_sw Try.func26 R R R ?_
 dsimp only [argS, List.map]
 refine qG (r_alloc tb R R R R R (eN (qG (q_movD R (r_build (v := .d (.agg [vI 1, vI atv, vI 0])) tb R R (List.cons_ne_nil _ _) R R R R R R (q_stE _ _ tb R (eN (sw_ret ?_))))))))
 obtain rfl := sI h
 exact fin_0 (t := .d (.agg [vI 1, vI atv, vI 0])) R R R (.cons (rc tb R) .nil)
def l_night_m (F : Nat) (lv : (List WiTurn)) : Option (WiNight × (List WiTurn)) := Option.bind (l_A F ) fun rv => some ((WiNight.mk rv.kinds rv.wind lv), lv)
theorem l_night_m_scr {F : Nat} {lv : (List WiTurn)} {r : (WiNight × (List WiTurn))} (h : l_night_m F lv = some r) : SCR Try.prog 43 [.row 0 3 0 (lv).length] [some (lWiTurnd lv)] (.agg [.row 1 1 0 (r.1.sky_Kinds).length, .d (.v (.int .i64 r.1.sky_Wind)), .row 0 3 0 (r.2).length]) [some (lWiTurnd r.2), some (lvI r.1.sky_Kinds)] := by
 rw [l_night_m] at h
 refine SC.of_sw Try.func43 R R R ?_
 dsimp only [argS, List.map]
 refine qG (r_alloc tb R R R R R (eN (qG ?_)))
 obtain ⟨rv, hrv, h⟩ := bnd h
 refine r_callN (t' := .agg [.row 2 1 0 (rv.kinds).length, .d (vI rv.wind)]) (news' := [(lvI rv.kinds)]) (l_A_scr hrv) (.of (by kernel_rfl)) R R R ((.row .nil)) R R R (r_movW R R R (r_build (v := .agg [.row 2 1 0 (rv.kinds).length, .d (vI rv.wind), .row 0 3 0 (lv).length]) tb R R (List.cons_ne_nil _ _) R R R R R R (q_stE _ _ tb R (eN (sw_ret ?_)))))
 obtain rfl := sI h
 exact f2 [0, 2] (.row R (.row R .nil)) R (.cons (rc tb R) .nil) R
def l_Awake (F : Nat)  : Option Bool := Option.bind (l_Plan F ) fun rv => Option.bind (window_Start F rv) fun rv2 => Option.bind (l_Plan F ) fun rv3 => Option.bind (l_A F ) fun rv4 => Option.bind (window_Rights F rv3 rv2.1 (WiSky.mk rv4.kinds rv4.wind) 100) fun rv5 => Option.bind (l_Plan F ) fun rv6 => Option.bind (l_launch F 160) fun rv7 => Option.bind (l_night_m F [rv7]) fun rv8 => Option.bind (lnO rv8.2.length [rv7].length) fun u => Option.bind (l_launch F 130) fun rv9 => Option.bind (l_night_m F [rv9]) fun rv10 => Option.bind (lnO rv10.2.length [rv9].length) fun u2 => Option.bind (l_launch F 60) fun rv11 => Option.bind (l_night_m F [rv11]) fun rv12 => Option.bind (lnO rv12.2.length [rv11].length) fun u3 => Option.bind (window_Season F rv6 [(WiNight.mk rv8.1.sky_Kinds rv8.1.sky_Wind rv8.2), (WiNight.mk rv10.1.sky_Kinds rv10.1.sky_Wind rv10.2), (WiNight.mk rv12.1.sky_Kinds rv12.1.sky_Wind rv12.2)]) fun rv13 => Option.bind (l_Plan F ) fun rv14 => Option.bind (l_launch F 159) fun rv15 => Option.bind (l_night_m F [rv15]) fun rv16 => Option.bind (lnO rv16.2.length [rv15].length) fun u4 => Option.bind (window_Play F rv14 rv2.1 (WiNight.mk rv16.1.sky_Kinds rv16.1.sky_Wind rv16.2)) fun rv17 => if rv2.2 = 0 then (if rv5.2 = 0 then (if rv13.2.2 = 0 then (if rv17.2.2 = 7 then (Option.bind (r_Ints F rv5.1 [1, 0, 2]) fun rv18 => if rv18 = true then (Option.bind (r_SameUses F rv13.1 [(WiUse.mk 0 1 160 (-1)), (WiUse.mk 1 0 130 (-1)), (WiUse.mk 2 1 60 (-1))]) fun rv19 => some rv19) else (some false)) else (some false)) else (some false)) else (some false)) else (some false)
theorem l_Awake_pc {F : Nat}  {r : Bool} (h : l_Awake F  = some r) : PC Try.prog 23 [] (.v (.bool r)) := by
 rw [l_Awake] at h
 refine SC.of_sw Try.func23 R R R ?_
 dsimp only [argS, List.map]
 refine qG (q_asgD R (eN (qG ?_)))
 obtain ⟨rv, hrv, h⟩ := bnd h
 refine r_call (l_Plan_pc hrv) (.of (by kernel_rfl)) R R R R ?_
 obtain ⟨rv2, hrv2, h⟩ := bnd h
 refine r_callN (t' := .tup [WiState_T1 rv2.1 0 1 2, .d (vI rv2.2)]) (news' := [(lvI rv2.1.used), (lvI rv2.1.credit), (lvI rv2.1.last)]) (window_Start_scr hrv2) (.of (by kernel_rfl)) R R R ((.row (.row (.row .nil)))) R R R (r_movT (.tup [WiState_T1 rv2.1 0 1 2, .d (vI rv2.2)]) R R R (r_ext (t := WiState_T1 rv2.1 0 1 2) R R R R (r_ext (t := .d (vI rv2.2)) R R R R (r_alloc tb R R R R R (q_stE _ _ tb R (q_asgD R (eN (sw_seq (sw_dr (by kernel_rfl) ?_)))))))))
 obtain ⟨rv3, hrv3, h⟩ := bnd h
 refine r_call (l_Plan_pc hrv3) (.of (by kernel_rfl)) R R R R (r_ldG tb R R R R R R R R R ?_)
 obtain ⟨rv4, hrv4, h⟩ := bnd h
 refine r_callN (t' := .agg [.row 4 1 0 (rv4.kinds).length, .d (vI rv4.wind)]) (news' := [(lvI rv4.kinds)]) (l_A_scr hrv4) (.of (by kernel_rfl)) R R R ((.row .nil)) R R R ?_
 obtain ⟨rv5, hrv5, h⟩ := bnd h
 refine r_callLN (t' := .tup [.row 5 1 0 (rv5.1).length, .d (vI rv5.2)]) (news' := [(lvI rv5.1)]) (window_Rights_scr hrv5) R ((.row (fun _ => rfl) .nil)) (.of (by kernel_rfl)) R R ((.cons (.d _) (.cons (.aggL (.cons (.row R R) (.cons (.row R R) (.cons (.row R R) (.cons (.d _) .nil))))) (.cons (.aggL (.cons (.row R R) (.cons (.d _) .nil))) (.cons (.d _) .nil))))) R ((.row .nil)) R R R ?_
 refine r_movT (.tup [.row 5 1 0 (rv5.1).length, .d (vI rv5.2)]) R R R (r_ext (t := .row 5 1 0 (rv5.1).length) R R R R (r_ext (t := .d (vI rv5.2)) R R R R (r_asgW R R R (q_asgD R (ev_endD (by kernel_rfl) (then_norm (qG ?_)))))))
 obtain ⟨rv6, hrv6, h⟩ := bnd h
 refine r_call (l_Plan_pc hrv6) (.of (by kernel_rfl)) R R R R ?_
 obtain ⟨rv7, hrv7, h⟩ := bnd h
 refine r_call (l_launch_pc hrv7) (.of (by kernel_rfl)) R R R R (r_bslice tb R R R R R R R R R R R R R ?_)
 obtain ⟨rv8, hrv8, h⟩ := bnd h
 obtain ⟨u, hu, h⟩ := bnd h
 refine r_callO (t' := .agg [.row 7 1 0 (rv8.1.sky_Kinds).length, .d (vI rv8.1.sky_Wind), .row 6 3 0 (rv8.2).length]) (ls := [some (lWiTurnd rv8.2)]) (news := [(lvI rv8.1.sky_Kinds)]) ([6]) ([some (lvI rv2.1.used), some (lvI rv2.1.credit), some (lvI rv2.1.last), some ⟨4, [WiState_T1 rv2.1 0 1 2]⟩, some (lvI rv4.kinds), some (lvI rv5.1), some (lWiTurnd rv8.2), some (lvI rv8.1.sky_Kinds)]) (l_night_m_scr hrv8) (.of (by kernel_rfl)) R (.inl ⟨R, R, R⟩) R R R R ((.row R .nil)) R R R ((.row .nil)) ((.row .nil)) R R R R ?_
 dsimp only [WiState_T1, Table_T1, Desk_T1, Desk_T2, Desk_T3, Desk_T4, Desk_T5]
 first | rw [← lnO_eq hu] | skip
 obtain ⟨rv9, hrv9, h⟩ := bnd h
 refine r_call (l_launch_pc hrv9) (.of (by kernel_rfl)) R R R R (r_bslice tb R R R R R R R R R R R R R ?_)
 obtain ⟨rv10, hrv10, h⟩ := bnd h
 obtain ⟨u2, hu2, h⟩ := bnd h
 refine r_callO (t' := .agg [.row 9 1 0 (rv10.1.sky_Kinds).length, .d (vI rv10.1.sky_Wind), .row 8 3 0 (rv10.2).length]) (ls := [some (lWiTurnd rv10.2)]) (news := [(lvI rv10.1.sky_Kinds)]) ([8]) ([some (lvI rv2.1.used), some (lvI rv2.1.credit), some (lvI rv2.1.last), some ⟨4, [WiState_T1 rv2.1 0 1 2]⟩, some (lvI rv4.kinds), some (lvI rv5.1), some (lWiTurnd rv8.2), some (lvI rv8.1.sky_Kinds), some (lWiTurnd rv10.2), some (lvI rv10.1.sky_Kinds)]) (l_night_m_scr hrv10) (.of (by kernel_rfl)) R (.inl ⟨R, R, R⟩) R R R R ((.row R .nil)) R R R ((.row .nil)) ((.row .nil)) R R R R ?_
 dsimp only [WiState_T1, Table_T1, Desk_T1, Desk_T2, Desk_T3, Desk_T4, Desk_T5]
 first | rw [← lnO_eq hu2] | skip
 obtain ⟨rv11, hrv11, h⟩ := bnd h
 refine r_call (l_launch_pc hrv11) (.of (by kernel_rfl)) R R R R (r_bslice tb R R R R R R R R R R R R R ?_)
 obtain ⟨rv12, hrv12, h⟩ := bnd h
 obtain ⟨u3, hu3, h⟩ := bnd h
 refine r_callO (t' := .agg [.row 11 1 0 (rv12.1.sky_Kinds).length, .d (vI rv12.1.sky_Wind), .row 10 3 0 (rv12.2).length]) (ls := [some (lWiTurnd rv12.2)]) (news := [(lvI rv12.1.sky_Kinds)]) ([10]) ([some (lvI rv2.1.used), some (lvI rv2.1.credit), some (lvI rv2.1.last), some ⟨4, [WiState_T1 rv2.1 0 1 2]⟩, some (lvI rv4.kinds), some (lvI rv5.1), some (lWiTurnd rv8.2), some (lvI rv8.1.sky_Kinds), some (lWiTurnd rv10.2), some (lvI rv10.1.sky_Kinds), some (lWiTurnd rv12.2), some (lvI rv12.1.sky_Kinds)]) (l_night_m_scr hrv12) (.of (by kernel_rfl)) R (.inl ⟨R, R, R⟩) R R R R ((.row R .nil)) R R R ((.row .nil)) ((.row .nil)) R R R R ?_
 dsimp only [WiState_T1, Table_T1, Desk_T1, Desk_T2, Desk_T3, Desk_T4, Desk_T5]
 first | rw [← lnO_eq hu3] | skip
 refine r_bslice tb R R R R R R R R R R R R R ?_
 obtain ⟨rv13, hrv13, h⟩ := bnd h
 refine r_callLN (t' := .tup [.row 13 4 0 (rv13.1).length, WiState_T1 rv13.2.1 14 15 16, .d (vI rv13.2.2)]) (news' := [(lWiUsed rv13.1), (lvI rv13.2.1.used), (lvI rv13.2.1.credit), (lvI rv13.2.1.last)]) (window_Season_scr hrv13) R ((.row (fun _ => rfl) (.row (fun _ => rfl) (.row (fun _ => rfl) (.row (fun _ => rfl) .nil))))) (.of (by kernel_rfl)) R R ((.cons (.d _) (.cons (.rowL R R (.cons (.aggL (.cons (.row R R) (.cons (.d _) (.cons (.row R R) .nil)))) (.cons (.aggL (.cons (.row R R) (.cons (.d _) (.cons (.row R R) .nil)))) (.cons (.aggL (.cons (.row R R) (.cons (.d _) (.cons (.row R R) .nil)))) .nil)))) .nil))) R ((.row (.row (.row (.row .nil))))) R R R ?_
 refine r_movT (.tup [.row 13 4 0 (rv13.1).length, WiState_T1 rv13.2.1 14 15 16, .d (vI rv13.2.2)]) R R R (r_ext (t := .row 13 4 0 (rv13.1).length) R R R R (r_ext (t := WiState_T1 rv13.2.1 14 15 16) R R R R (r_ext (t := .d (vI rv13.2.2)) R R R R (r_alloc tb R R R R R (r_asgW R R R (q_stE _ _ tb R (q_asgD R (eN (sw_seq (sw_dr (by kernel_rfl) ?_))))))))))
 obtain ⟨rv14, hrv14, h⟩ := bnd h
 refine r_call (l_Plan_pc hrv14) (.of (by kernel_rfl)) R R R R (r_ldG tb R R R R R R R R R ?_)
 obtain ⟨rv15, hrv15, h⟩ := bnd h
 refine r_call (l_launch_pc hrv15) (.of (by kernel_rfl)) R R R R (r_bslice tb R R R R R R R R R R R R R ?_)
 obtain ⟨rv16, hrv16, h⟩ := bnd h
 obtain ⟨u4, hu4, h⟩ := bnd h
 refine r_callO (t' := .agg [.row 19 1 0 (rv16.1.sky_Kinds).length, .d (vI rv16.1.sky_Wind), .row 18 3 0 (rv16.2).length]) (ls := [some (lWiTurnd rv16.2)]) (news := [(lvI rv16.1.sky_Kinds)]) ([18]) ([some (lvI rv2.1.used), some (lvI rv2.1.credit), some (lvI rv2.1.last), some ⟨4, [WiState_T1 rv2.1 0 1 2]⟩, some (lvI rv4.kinds), some (lvI rv5.1), some (lWiTurnd rv8.2), some (lvI rv8.1.sky_Kinds), some (lWiTurnd rv10.2), some (lvI rv10.1.sky_Kinds), some (lWiTurnd rv12.2), some (lvI rv12.1.sky_Kinds), some ⟨3, [.agg [.row 7 1 0 (rv8.1.sky_Kinds).length, .d (vI rv8.1.sky_Wind), .row 6 3 0 (rv8.2).length], .agg [.row 9 1 0 (rv10.1.sky_Kinds).length, .d (vI rv10.1.sky_Wind), .row 8 3 0 (rv10.2).length], .agg [.row 11 1 0 (rv12.1.sky_Kinds).length, .d (vI rv12.1.sky_Wind), .row 10 3 0 (rv12.2).length]]⟩, some (lWiUsed rv13.1), some (lvI rv13.2.1.used), some (lvI rv13.2.1.credit), some (lvI rv13.2.1.last), some ⟨4, [WiState_T1 rv13.2.1 14 15 16]⟩, some (lWiTurnd rv16.2), some (lvI rv16.1.sky_Kinds)]) (l_night_m_scr hrv16) (.of (by kernel_rfl)) R (.inl ⟨R, R, R⟩) R R R R ((.row R .nil)) R R R ((.row .nil)) ((.row .nil)) R R R R ?_
 dsimp only [WiState_T1, Table_T1, Desk_T1, Desk_T2, Desk_T3, Desk_T4, Desk_T5]
 first | rw [← lnO_eq hu4] | skip
 obtain ⟨rv17, hrv17, h⟩ := bnd h
 refine r_callLN (t' := .tup [WiState_T1 rv17.1 20 21 22, .d (WiUse.d rv17.2.1), .d (vI rv17.2.2)]) (news' := [(lvI rv17.1.used), (lvI rv17.1.credit), (lvI rv17.1.last)]) (window_Play_scr hrv17) R ((.row (fun _ => rfl) (.row (fun _ => rfl) (.row (fun _ => rfl) .nil)))) (.of (by kernel_rfl)) R R ((.cons (.d _) (.cons (.aggL (.cons (.row R R) (.cons (.row R R) (.cons (.row R R) (.cons (.d _) .nil))))) (.cons (.aggL (.cons (.row R R) (.cons (.d _) (.cons (.row R R) .nil)))) .nil)))) R ((.row (.row (.row .nil)))) R R R ?_
 refine r_movT (.tup [WiState_T1 rv17.1 20 21 22, .d (WiUse.d rv17.2.1), .d (vI rv17.2.2)]) R R R (r_ext (t := WiState_T1 rv17.1 20 21 22) R R R R (r_ext (t := .d (WiUse.d rv17.2.1)) R R R R (r_ext (t := .d (vI rv17.2.2)) R R R R (r_alloc tb R R R R R (r_alloc tb R R R R R (q_stE _ _ tb R (q_stE _ _ tb R (q_asgD R (ev_endD (by kernel_rfl) (then_norm (qG (q_movD R ?_))))))))))))
 refine r_eql R R R R ?_ ?_
 ·intro c
  replace h := ifP c h
  refine q_movD R (q_movD R ?_)
  refine r_eql R R R R ?_ ?_
  ·intro c2
   replace h := ifP c2 h
   refine q_pickT R (q_movD R (q_movD R ?_))
   refine r_eql R R R R ?_ ?_
   ·intro c3
    replace h := ifP c3 h
    refine q_pickT R (q_movD R (q_movD R ?_))
    refine r_eql R R R R ?_ ?_
    ·intro c4
     replace h := ifP c4 h
     refine q_pickT R (q_movD R (r_movW R R R (r_bslice tb R R R R R R R R R R R R R ?_)))
     obtain ⟨rv18, hrv18, h⟩ := bnd h
     refine r_callLB (r_Ints_pc hrv18) (.of (by kernel_rfl)) R R ((.cons (.row R R) (.cons (.row R R) .nil))) R R ?_ ?_
     ·intro c5
      replace h := ifP c5 h
      refine q_pickT R (q_movD R (r_movW R R R (r_build (v := .d (.agg [vI 0, vI 1, vI 160, vI (-1)])) tb R R (List.cons_ne_nil _ _) R R R R R R (r_build (v := .d (.agg [vI 1, vI 0, vI 130, vI (-1)])) tb R R (List.cons_ne_nil _ _) R R R R R R (r_build (v := .d (.agg [vI 2, vI 1, vI 60, vI (-1)])) tb R R (List.cons_ne_nil _ _) R R R R R R ?_)))))
      refine r_bslice tb R R R R R R R R R R R R R ?_
      obtain ⟨rv19, hrv19, h⟩ := bnd h
      refine r_callL (r_SameUses_pc hrv19) R (.of (by kernel_rfl)) R R ((.cons (.row R R) (.cons (.row R R) .nil))) R R (q_pickT R (q_asgD R (eN (sw_ret ?_))))
      obtain rfl := sI h
      exact f1 0 R
     intro c5
     replace h := ifF c5 h
     refine q_pickT R (q_movD R (q_sk 6 R (q_pickF R (q_asgD R (eN (sw_ret ?_))))))
     obtain rfl := sI h
     exact f1 0 R
    intro c4
    replace h := ifN c4 h
    refine q_pickT R (q_movD R (q_sk 3 R (q_pickF R (q_movD R (q_sk 6 R (q_pickF R (q_asgD R (eN (sw_ret ?_)))))))))
    obtain rfl := sI h
    exact f1 0 R
   intro c3
   replace h := ifN c3 h
   refine q_pickT R (q_movD R (q_sk 2 R (q_pickF R (q_movD R (q_sk 3 R (q_pickF R (q_movD R (q_sk 6 R (q_pickF R (q_asgD R (eN (sw_ret ?_))))))))))))
   obtain rfl := sI h
   exact f1 0 R
  intro c2
  replace h := ifN c2 h
  refine q_pickT R (q_movD R (q_sk 2 R (q_pickF R (q_movD R (q_sk 2 R (q_pickF R (q_movD R (q_sk 3 R (q_pickF R (q_movD R (q_sk 6 R (q_pickF R (q_asgD R (eN (sw_ret ?_)))))))))))))))
  obtain rfl := sI h
  exact f1 0 R
 intro c
 replace h := ifN c h
 refine q_movD R (q_sk 2 R (q_pickF R (q_movD R (q_sk 2 R (q_pickF R (q_movD R (q_sk 2 R (q_pickF R (q_movD R (q_sk 3 R (q_pickF R (q_movD R (q_sk 6 R (q_pickF R (q_asgD R (eN (sw_ret ?_)))))))))))))))))
 obtain rfl := sI h
 exact f1 0 R
def l_WindowFair_L1 (F : Nat) (e2 : WiUse) (lv5 : (List Int)) (K : Int → Option Bool) : Nat → Int → Option Bool
 | 0, _ => none
 | n + 1, x4 => if x4 < (lv5.length : Int) then (Option.bind (ixO lv5 e2.team) fun e4 => Option.bind (ixO lv5 x4) fun e5 => if (W (e5 + 1)) < e4 then (some false) else (l_WindowFair_L1 F e2 lv5 K n (W (x4 + 1)))) else (K x4)
def l_WindowFair_L2 (F : Nat) (rv3 : ((List WiUse) × WiState × Int)) (K : (List Int) → Int → Option Bool) : Nat → (List Int) → Int → Option Bool
 | 0, _, _ => none
 | n + 1, lv4, x3 => if x3 < (rv3.1.length : Int) then (Option.bind (ixO rv3.1 x3) fun e2 => if e2.team < 0 then (some false) else (if (lv4.length : Int) ≤ e2.team then (some false) else (Option.bind (ixO lv4 e2.team) fun e3 => Option.bind (setO lv4 e2.team (W (e3 + 1))) fun lv5 => l_WindowFair_L1 F e2 lv5 (fun (x4 : Int) => l_WindowFair_L2 F rv3 K n lv5 (W (x3 + 1))) F 0))) else (K lv4 x3)
def l_WindowFair_L3 (F : Nat) (a : (List Int)) (K : (List WiWindow) → (List WiNight) → Int → Option Bool) : Nat → (List WiWindow) → (List WiNight) → Int → Option Bool
 | 0, _, _, _ => none
 | n + 1, lv2, lv3, x2 => if x2 < (a.length : Int) then (Option.bind (appO lv2 [(WiWindow.mk x2 0 300)]) fun q3 => Option.bind (ixO a x2) fun e => Option.bind (l_launch F (W (1 + (W e)))) fun rv2 => Option.bind (appO lv3 [(WiNight.mk ([] : List Int) 0 [rv2])]) fun q4 => l_WindowFair_L3 F a K n q3 q4 (W (x2 + 1))) else (K lv2 lv3 x2)
def l_WindowFair_L4 (F : Nat) (t : Int) (K : (List WiTeam) → Int → Option Bool) : Nat → (List WiTeam) → Int → Option Bool
 | 0, _, _ => none
 | n + 1, lv, x => if x < (W (1 + (Int.tmod (W t) 8))) then (Option.bind (catO (ByteArray.mk #[116]) (strL [(W8 (W (97 + x)))])) fun q => Option.bind (appO lv [(WiTeam.mk q 3 100 0 ([] : List Int) 10 0 1 ([] : List Span))]) fun q2 => l_WindowFair_L4 F t K n q2 (W (x + 1))) else (K lv x)
def l_WindowFair (F : Nat) (t : Int) (o : Int) (a : (List Int)) : Option Bool := if 60 < (a.length : Int) then (Option.bind (l_Awake 100 ) fun rv => some rv) else (l_WindowFair_L4 F t (fun (lv : (List WiTeam)) (x : Int) => l_WindowFair_L3 F a (fun (lv2 : (List WiWindow)) (lv3 : (List WiNight)) (x2 : Int) => Option.bind (window_Season F (WiPlan.mk lv lv2 (Int.tmod (W o) 101) 0) lv3) fun rv3 => if rv3.2.2 = 0 then (if (rv3.1.length : Int) = (lv3.length : Int) then (if (rv3.2.1.used.length : Int) = (lv.length : Int) then (Option.bind (natM (lv.length : Int)) fun q5 => l_WindowFair_L2 F rv3 (fun (lv4 : (List Int)) (x3 : Int) => Option.bind (r_Ints F lv4 rv3.2.1.used) fun rv4 => if rv4 = true then (Option.bind (l_Awake 100 ) fun rv5 => some rv5) else (some false)) F (List.replicate q5 (0 : Int)) 0) else (some false)) else (some false)) else (some false)) F ([] : List WiWindow) ([] : List WiNight) 0) F ([] : List WiTeam) 0)
theorem l_WindowFair_pc {F : Nat} {t : Int} {o : Int} {a : (List Int)} {r : Bool} (h : l_WindowFair F t o a = some r) : PC Try.prog 5 [.v (.int .u8 t), .v (.int .u8 o), .arr 1 ((a).map v8)] (.v (.bool r)) := by
 rw [l_WindowFair] at h
 refine SC.of_sw Try.func5 R R R ?_
 dsimp only [argS, List.map]
 refine qG (q_asgD R (eN (sw_seq (qG (q_movD R (q_lenM tb R ?_))))))
 refine r_gtr R R R R ?_ ?_
 ·intro c
  replace h := ifP c h
  refine eN (sw_condT R (qG ?_))
  obtain ⟨rv, hrv, h⟩ := bnd h
  refine r_call (l_Awake_pc hrv) (.of (by kernel_rfl)) R R R R (q_asgD R (eN (sw_ret (then_ret ?_))))
  obtain rfl := sI h
  exact f1 6 R
 intro c
 replace h := ifN (Int.not_lt.2 c) h
 refine eN (sw_condF R (sw_skip (then_norm (qG (q_movD R (r_cvI (k2 := .i64) R R R R R R (r_rem R R (by decide) R R (r_build (v := .d (.agg [.v (.slice none 0 0), .v (.slice none 0 0), vI (Int.tmod (W o) 101), vI 0])) tb R R (List.cons_ne_nil _ _) R R R R R R (r_alloc tb R R R R R (q_stE _ ([some ⟨4, [.d (.agg [.v (.slice none 0 0), .v (.slice none 0 0), vI (Int.tmod (W o) 101), vI 0])]⟩]) tb R (eN (sw_seq (qG (q_asgD R (eN (sw_block ?_))))))))))))))))
 refine SW.own (ts' := [(0, .d (.v (.int .u8 t))), (2, .d (.arr 1 ((a).map v8))), (6, .d (.v (.bool false))), (7, .ref 0 4 0 0), (8, .d (vI 0))]) (L' := [some ⟨4, [.agg [.row 1 9 0 (([] : List WiTeam)).length, .d (.v (.slice none 0 0)), .d (vI (Int.tmod (W o) 101)), .d (vI 0)]]⟩]) 9 R R (.cons (.same _) (.cons (.same _) (.cons (.same _) (.cons (.same _) (.cons (.same _) .nil))))) (.cons R (.cons (.aggDL (.cons .nil (.cons (.same _) (.cons (.same _) (.cons (.same _) .nil))))) .nil) .nil) ?_
 simp only [List.cons_append, List.nil_append]
 obtain ⟨K3, hK3, h⟩ : ∃ K, K = _ ∧ l_WindowFair_L4 F t K F ([] : List WiTeam) 0 = some r := ⟨_, rfl, h⟩
 refine sw_loopS (fun m st => ∃ (lv : (List WiTeam)) (x : Int), l_WindowFair_L4 F t K3 m lv x = some r ∧ st = ⟨[(0, .d (.v (.int .u8 t))), (2, .d (.arr 1 ((a).map v8))), (6, .d (.v (.bool false))), (7, .ref 0 4 0 0), (8, .d (vI x))], [some ⟨4, [.agg [.row 1 9 0 (lv).length, .d (.v (.slice none 0 0)), .d (vI (Int.tmod (W o) 101)), .d (vI 0)]]⟩, some (lWiTeamd lv)]⟩) (.prn [0, 2, 6, 7, 8] R) ⟨([] : List WiTeam), 0, h, R⟩ ?_
 clear h
 rintro m3 st ⟨lv, x, h, rfl⟩
 cases m3 with
 | zero => cases (show (none : Option Bool) = some r from h)
 | succ m3 =>
 rw [l_WindowFair_L4] at h
 refine sw_seq (qG (q_movD R (q_movD R (r_cvI (k2 := .i64) R R R R R R (r_rem R R (by decide) R R (q_add R ?_))))))
 refine r_lss R R R R ?_ ?_
 ·intro c2
  replace h := ifP c2 h
  refine eN (sw_condT R (sw_skip (then_norm (sw_seq (sw_block (sw_rg (q_fa tb R (r_ldW tb R R R R R R R R R (q_movD R (q_add R (r_cvI (k2 := .u8) R R R R R R (r_bslice tb R R R R R R R R R R R R R (r_str (ns := [(W8 (W (97 + x)))]) R R R R R R R R R ?_)))))))))))))
  obtain ⟨q, iq, h⟩ := bnd h
  refine r_catS R R iq R R ?_
  refine r_buildC (y := .agg [.v (.string q), vI 3, vI 100, vI 0, .v (.slice none 0 0), vI 10, vI 0, vI 1, .v (.slice none 0 0)]) (y' := .agg [.v (.string q), vI 3, vI 100, vI 0, .arr 1 ((([] : List Int)).map vI), vI 10, vI 0, vI 1, .arr 2 ((([] : List Span)).map Span.d)]) ((.aggc (.same _) (.aggc (.same _) (.aggc (.same _) (.aggc (.same _) (.aggc (.nil _) (.aggc (.same _) (.aggc (.same _) (.aggc (.same _) (.aggc (.nil _) .agg0)))))))))) tb R R (List.cons_ne_nil _ _) R R R R R R ?_
  refine r_bslice tb R R R R R R R R R R R R R ?_
  obtain ⟨q2, iq2, h⟩ := bnd h
  refine r_apM (g := WiTeam.d) (w := lv) (v := [(WiTeam.mk q 3 100 0 ([] : List Int) 10 0 1 ([] : List Span))]) ([some ⟨4, [.agg [.row 1 9 0 (lv).length, .d (.v (.slice none 0 0)), .d (vI (Int.tmod (W o) 101)), .d (vI 0)]]⟩, none, some (lv8 [(W8 (W (97 + x)))]), some (lWiTeamd [(WiTeam.mk q 3 100 0 ([] : List Int) 10 0 1 ([] : List Span))])]) tb R R R R R R R R R R R iq2 R R R R R (q_fa tb R ?_)
  refine q_stE _ ([some ⟨4, [.agg [.row 4 9 0 (q2).length, .d (.v (.slice none 0 0)), .d (vI (Int.tmod (W o) 101)), .d (vI 0)]]⟩, none, some (lv8 [(W8 (W (97 + x)))]), some (lWiTeamd [(WiTeam.mk q 3 100 0 ([] : List Int) 10 0 1 ([] : List Span))]), some (lWiTeamd q2)]) tb R (ev_end (block_norm (then_norm (sw_rg (q_movD R (q_add R (q_asgD R (eN ?_))))))))
  exact ⟨m3, ⟨[(0, .d (.v (.int .u8 t))), (2, .d (.arr 1 ((a).map v8))), (6, .d (.v (.bool false))), (7, .ref 0 4 0 0), (8, .d (vI (W (x + 1))))], [some ⟨4, [.agg [.row 1 9 0 (q2).length, .d (.v (.slice none 0 0)), .d (vI (Int.tmod (W o) 101)), .d (vI 0)]]⟩, some (lWiTeamd q2)]⟩, Nat.lt_succ_self _, .vw (κ := [0, 4]) (vK (.cons R R (.row R .nil)) R), q2, (W (x + 1)), h, R⟩
 intro c2
 replace h := ifN (Int.not_lt.2 c2) h
 refine eN (sw_condF R (sw_exit (then_exit (then_exit ?_))))
 subst hK3
 refine block_exit (then_norm (qG (q_asgD R (eN (sw_seq (qG (q_asgD R (eN (sw_block ?_)))))))))
 refine SW.own (ts' := [(2, .d (.arr 1 ((a).map v8))), (6, .d (.v (.bool false))), (7, .ref 0 4 0 0), (9, .d (.v (.slice none 0 0))), (10, .d (vI 0))]) (L' := [some ⟨4, [WiPlan_T1 (WiPlan.mk lv ([] : List WiWindow) (Int.tmod (W o) 101) 0) 1 2]⟩, some (lWiTeamd lv)]) 3 R R (.cons (.same _) (.cons (.same _) (.cons (.same _) (.cons (.same _) (.cons (.same _) .nil))))) (.cons R (.cons (.aggL (.cons (.same _) (.cons .nil (.cons (.same _) (.cons (.same _) .nil))))) .nil) (.same .nil)) ?_
 simp only [List.cons_append, List.nil_append]
 refine SW.own (ts' := [(2, .d (.arr 1 ((a).map v8))), (6, .d (.v (.bool false))), (7, .ref 0 4 0 0), (9, .row 3 3 0 (([] : List WiNight)).length), (10, .d (vI 0))]) (L' := [some ⟨4, [WiPlan_T1 (WiPlan.mk lv ([] : List WiWindow) (Int.tmod (W o) 101) 0) 1 2]⟩, some (lWiTeamd lv), some (lWiWindowd ([] : List WiWindow))]) 3 R R (.cons (.same _) (.cons (.same _) (.cons (.same _) (.cons .nil (.cons (.same _) .nil))))) (.same (.same (.same .nil))) ?_
 simp only [List.cons_append, List.nil_append]
 obtain ⟨K6, hK6, h⟩ : ∃ K, K = _ ∧ l_WindowFair_L3 F a K F ([] : List WiWindow) ([] : List WiNight) 0 = some r := ⟨_, rfl, h⟩
 refine sw_loopS (fun m st => ∃ (lv2 : (List WiWindow)) (lv3 : (List WiNight)) (x2 : Int), l_WindowFair_L3 F a K6 m lv2 lv3 x2 = some r ∧ st = ⟨[(2, .d (.arr 1 ((a).map v8))), (6, .d (.v (.bool false))), (7, .ref 0 4 0 0), (9, .row 3 3 0 (lv3).length), (10, .d (vI x2))], [some ⟨4, [WiPlan_T1 (WiPlan.mk lv lv2 (Int.tmod (W o) 101) 0) 1 2]⟩, some (lWiTeamd lv), some (lWiWindowd lv2), some (lWiNightd lv3)]⟩) (.prn [2, 6, 7, 9, 10] R) ⟨([] : List WiWindow), ([] : List WiNight), 0, h, R⟩ ?_
 clear h
 rintro m6 st ⟨lv2, lv3, x2, h, rfl⟩
 cases m6 with
 | zero => cases (show (none : Option Bool) = some r from h)
 | succ m6 =>
 rw [l_WindowFair_L3] at h
 refine sw_seq (qG (q_movD R (q_movD R (q_lenM tb R ?_))))
 refine r_lss R R R R ?_ ?_
 ·intro c3
  replace h := ifP c3 h
  refine eN (sw_condT R (sw_skip (then_norm (sw_seq (sw_block (qG (q_fa tb R (r_ldW tb R R R R R R R R R (q_movD R (r_build (v := .d (.agg [vI x2, vI 0, vI 300])) tb R R (List.cons_ne_nil _ _) R R R R R R (r_bslice tb R R R R R R R R R R R R R ?_)))))))))))
  obtain ⟨q3, iq3, h⟩ := bnd h
  refine r_apM (g := WiWindow.d) (w := lv2) (v := [(WiWindow.mk x2 0 300)]) ([some ⟨4, [.agg [.row 1 9 0 (lv).length, .row 2 3 0 (lv2).length, .d (vI (Int.tmod (W o) 101)), .d (vI 0)]]⟩, some (lWiTeamd lv), none, some (lWiNightd lv3), some (lWiWindowd [(WiWindow.mk x2 0 300)])]) tb R R R R R R R R R R R iq3 R R R R R (q_fa tb R ?_)
  refine q_stE _ ([some ⟨4, [WiPlan_T1 (WiPlan.mk lv q3 (Int.tmod (W o) 101) 0) 1 5]⟩, some (lWiTeamd lv), none, some (lWiNightd lv3), some (lWiWindowd [(WiWindow.mk x2 0 300)]), some (lWiWindowd q3)]) tb R (eN (sw_rg (r_movW R R R (q_movD R (q_movD R ?_)))))
  obtain ⟨e, ie, h⟩ := bnd h
  refine q_ixE tb (ix0 ie) (ix1m ie) R (q_ldE (y := .v (.int .u8 e)) tb (ix2 (g := v8) ie) R (r_cvI (k2 := .i64) R R R R R R (q_add R ?_)))
  obtain ⟨rv2, hrv2, h⟩ := bnd h
  refine r_call (l_launch_pc hrv2) (.of (by kernel_rfl)) R R R R (r_bsliceD (es := [WiTurn.d rv2]) tb R R R R R R R R R R R R R (r_buildC (y := .agg [.v (.slice none 0 0), vI 0, .arr 3 (([rv2]).map WiTurn.d)]) (y' := .agg [.arr 1 ((([] : List Int)).map vI), vI 0, .arr 3 (([rv2]).map WiTurn.d)]) ((.aggc (.nil _) (.aggc (.same _) (.aggc (.same _) .agg0)))) tb R R (List.cons_ne_nil _ _) R R R R R R (r_bslice tb R R R R R R R R R R R R R ?_)))
  obtain ⟨q4, iq4, h⟩ := bnd h
  refine r_apM (g := WiNight.d) (w := lv3) (v := [(WiNight.mk ([] : List Int) 0 [rv2])]) ([some ⟨4, [WiPlan_T1 (WiPlan.mk lv q3 (Int.tmod (W o) 101) 0) 1 5]⟩, some (lWiTeamd lv), none, none, some (lWiWindowd [(WiWindow.mk x2 0 300)]), some (lWiWindowd q3), some (lWiNightd [(WiNight.mk ([] : List Int) 0 [rv2])])]) tb R R R R R R R R R R R iq4 R R R R R (r_asgW R R R (ev_end (block_norm (then_norm (sw_rg (q_movD R (q_add R (q_asgD R (eN ?_)))))))))
  exact ⟨m6, ⟨[(2, .d (.arr 1 ((a).map v8))), (6, .d (.v (.bool false))), (7, .ref 0 4 0 0), (9, .row 3 3 0 (q4).length), (10, .d (vI (W (x2 + 1))))], [some ⟨4, [WiPlan_T1 (WiPlan.mk lv q3 (Int.tmod (W o) 101) 0) 1 2]⟩, some (lWiTeamd lv), some (lWiWindowd q3), some (lWiNightd q4)]⟩, Nat.lt_succ_self _, .vw (κ := [0, 1, 5, 7]) (vK (.cons R R (.row R (.row R (.row R .nil)))) R), q3, q4, (W (x2 + 1)), h, R⟩
 intro c3
 replace h := ifN (Int.not_lt.2 c3) h
 refine eN (sw_condF R (sw_exit (then_exit (then_exit ?_))))
 subst hK6
 refine block_exit (then_norm (qG (r_ldG tb R R R R R R R R R (r_movW R R R ?_))))
 obtain ⟨rv3, hrv3, h⟩ := bnd h
 refine r_callLN (t' := .tup [.row 4 4 0 (rv3.1).length, WiState_T1 rv3.2.1 5 6 7, .d (vI rv3.2.2)]) (news' := [(lWiUsed rv3.1), (lvI rv3.2.1.used), (lvI rv3.2.1.credit), (lvI rv3.2.1.last)]) (window_Season_scr hrv3) R ((.row (fun _ => rfl) (.row (fun _ => rfl) (.row (fun _ => rfl) (.row (fun _ => rfl) .nil))))) (.of (by kernel_rfl)) R R ((.cons (.aggL (.cons (.row R R) (.cons (.row R R) (.cons (.d _) (.cons (.d _) .nil))))) (.cons (.row R R) .nil))) R ((.row (.row (.row (.row .nil))))) R R R ?_
 refine r_movT (.tup [.row 4 4 0 (rv3.1).length, WiState_T1 rv3.2.1 5 6 7, .d (vI rv3.2.2)]) R R R (r_ext (t := .row 4 4 0 (rv3.1).length) R R R R (r_ext (t := WiState_T1 rv3.2.1 5 6 7) R R R R (r_ext (t := .d (vI rv3.2.2)) R R R R (r_alloc tb R R R R R (r_asgW R R R ?_)))))
 refine q_stE _ ([some ⟨4, [WiPlan_T1 (WiPlan.mk lv lv2 (Int.tmod (W o) 101) 0) 1 2]⟩, some (lWiTeamd lv), some (lWiWindowd lv2), some (lWiNightd lv3), some (lWiUsed rv3.1), some (lvI rv3.2.1.used), some (lvI rv3.2.1.credit), some (lvI rv3.2.1.last), some ⟨4, [WiState_T1 rv3.2.1 5 6 7]⟩]) tb R (q_asgD R (eN (sw_seq (qG (q_movD R ?_)))))
 refine r_neq R R R R ?_ ?_
 ·intro c4
  replace h := ifN c4 h
  refine q_movD R (q_sk 5 R (q_pickT R (q_movD R (q_sk 7 R (q_pickT R (eN (sw_condT R (qG (q_asgD R (eN (sw_ret (then_ret ?_))))))))))))
  obtain rfl := sI h
  exact f1 6 R
 intro c4
 replace h := ifP c4 h
 refine q_movD R (r_movW R R R (r_lenR tb R R R R R (r_movW R R R (r_lenR tb R R R R R ?_))))
 refine r_neq R R R R ?_ ?_
 ·intro c5
  replace h := ifN c5 h
  refine q_pickF R (q_movD R (q_sk 7 R (q_pickT R (eN (sw_condT R (qG (q_asgD R (eN (sw_ret (then_ret ?_))))))))))
  obtain rfl := sI h
  exact f1 6 R
 intro c5
 replace h := ifP c5 h
 refine q_pickF R (q_movD R (q_fa tb R (r_ldW tb R R R R R R R R R (r_lenR tb R R R R R (q_fa tb R (r_ldW tb R R R R R R R R R (r_lenR tb R R R R R ?_)))))))
 refine r_neq R R R R ?_ ?_
 ·intro c6
  replace h := ifN c6 h
  refine q_pickF R (eN (sw_condT R (qG (q_asgD R (eN (sw_ret (then_ret ?_)))))))
  obtain rfl := sI h
  exact f1 6 R
 intro c6
 replace h := ifP c6 h
 refine q_pickF R (eN (sw_condF R (sw_skip (then_norm (qG (q_fa tb R (r_ldW tb R R R R R R R R R (r_lenR tb R R R R R ?_))))))))
 obtain ⟨q5, iq5, h⟩ := bnd h
 refine r_makeQ (v := (0 : Int)) (g := vI) tb R R R R R R R ((natM_eq iq5).1) ((natM_eq iq5).2) R R R R (r_asgW R R R (eN (sw_seq (qG (q_asgD R (eN (sw_block ?_)))))))
 obtain ⟨K10, hK10, h⟩ : ∃ K, K = _ ∧ l_WindowFair_L2 F rv3 K F (List.replicate q5 (0 : Int)) 0 = some r := ⟨_, rfl, h⟩
 refine sw_loopS (st0 := ⟨[(6, .d (.v (.bool false))), (11, .row 0 4 0 (rv3.1).length), (12, .ref 1 4 0 0), (14, .row 5 1 0 ((List.replicate q5 (0 : Int))).length), (15, .d (vI 0))], [some (lWiUsed rv3.1), some ⟨4, [WiState_T1 rv3.2.1 2 3 4]⟩, some (lvI rv3.2.1.used), some (lvI rv3.2.1.credit), some (lvI rv3.2.1.last), some (lvI (List.replicate q5 (0 : Int)))]⟩) (fun m st => ∃ (lv4 : (List Int)) (x3 : Int), l_WindowFair_L2 F rv3 K10 m lv4 x3 = some r ∧ st = ⟨[(6, .d (.v (.bool false))), (11, .row 0 4 0 (rv3.1).length), (12, .ref 1 4 0 0), (14, .row 5 1 0 (lv4).length), (15, .d (vI x3))], [some (lWiUsed rv3.1), some ⟨4, [WiState_T1 rv3.2.1 2 3 4]⟩, some (lvI rv3.2.1.used), some (lvI rv3.2.1.credit), some (lvI rv3.2.1.last), some (lvI lv4)]⟩) (.vw (κ := [4, 8, 5, 6, 7, 9]) (vK (.row R (.cons R R (.row R (.row R (.row R (.row R .nil)))))) R)) ⟨(List.replicate q5 (0 : Int)), 0, h, R⟩ ?_
 clear h
 rintro m10 st ⟨lv4, x3, h, rfl⟩
 cases m10 with
 | zero => cases (show (none : Option Bool) = some r from h)
 | succ m10 =>
 rw [l_WindowFair_L2] at h
 refine sw_seq (qG (q_movD R (r_movW R R R (r_lenR tb R R R R R ?_))))
 refine r_lss R R R R ?_ ?_
 ·intro c7
  replace h := ifP c7 h
  refine eN (sw_condT R (sw_skip (then_norm (sw_seq (sw_block (sw_seq (qG (r_movW R R R (q_movD R ?_)))))))))
  obtain ⟨e2, ie2, h⟩ := bnd h
  refine r_ixI tb R R R R R R (ix0 ie2) (ix1 ie2) R R (q_fa tb R ?_)
  refine r_ldD (y := vI e2.team) tb R R R R (ix2 (g := fun a => T.d (WiUse.d a)) ie2) R R R R ?_
  refine r_lss R R R R ?_ ?_
  ·intro c8
   replace h := ifP c8 h
   refine q_movD R (q_sk 8 R (q_pickT R (eN (sw_condT R (qG (q_asgD R (eN (sw_ret (then_ret (block_ret (then_ret (then_ret (block_ret (then_ret ?_))))))))))))))
   obtain rfl := sI h
   exact f1 6 R
  intro c8
  replace h := ifN (Int.not_lt.2 c8) h
  refine q_movD R (r_movW R R R (q_movD R (r_ixI tb R R R R R R (ix0 ie2) (ix1 ie2) R R (q_fa tb R ?_))))
  refine r_ldD (y := vI e2.team) tb R R R R (ix2 (g := fun a => T.d (WiUse.d a)) ie2) R R R R ?_
  refine r_movW R R R (r_lenR tb R R R R R ?_)
  refine r_geq R R R R ?_ ?_
  ·intro c9
   replace h := ifP c9 h
   refine q_pickF R (eN (sw_condT R (qG (q_asgD R (eN (sw_ret (then_ret (block_ret (then_ret (then_ret (block_ret (then_ret ?_))))))))))))
   obtain rfl := sI h
   exact f1 6 R
  intro c9
  replace h := ifN (Int.not_le.2 c9) h
  refine q_pickF R (eN (sw_condF R (sw_skip (then_norm (qG (r_movW R R R (r_movW R R R (q_movD R (r_ixI tb R R R R R R (ix0 ie2) (ix1 ie2) R R (q_fa tb R ?_))))))))))
  refine r_ldD (y := vI e2.team) tb R R R R (ix2 (g := fun a => T.d (WiUse.d a)) ie2) R R R R ?_
  obtain ⟨e3, ie3, h⟩ := bnd h
  refine r_ixI tb R R R R R R (ix0 ie3) (ix1 ie3) R R ?_
  refine r_ldD (y := vI e3) tb R R R R (ix2 (g := fun a => T.d (vI a)) ie3) R R R R ?_
  refine q_add R (r_ixI tb R R R R R R (ix0 ie3) (ix1 ie3) R R ?_)
  obtain ⟨lv5, ilv5, h⟩ := bnd h
  refine r_stQ (a' := ((W (e3 + 1)) : Int)) tb R R R R ie3 R R R R ilv5 R R ?_
  dsimp only [List.set_cons_zero, List.set_cons_succ, WiState_T1, Table_T1, Desk_T1, Desk_T2, Desk_T3, Desk_T4, Desk_T5, WiPlan_T1]
  first | rw [set_len ilv5] | skip
  refine eN (qG (q_asgD R (eN (sw_block ?_))))
  obtain ⟨K11, hK11, h⟩ : ∃ K, K = _ ∧ l_WindowFair_L1 F e2 lv5 K F 0 = some r := ⟨_, rfl, h⟩
  refine sw_loopS (fun m st => ∃ (x4 : Int), l_WindowFair_L1 F e2 lv5 K11 m x4 = some r ∧ st = ⟨[(6, .d (.v (.bool false))), (11, .row 0 4 0 (rv3.1).length), (12, .ref 1 4 0 0), (14, .row 5 1 0 (lv5).length), (15, .d (vI x3)), (16, .d (vI x4))], [some (lWiUsed rv3.1), some ⟨4, [WiState_T1 rv3.2.1 2 3 4]⟩, some (lvI rv3.2.1.used), some (lvI rv3.2.1.credit), some (lvI rv3.2.1.last), some (lvI lv5)]⟩) (.prn [6, 11, 12, 14, 15, 16] R) ⟨0, h, R⟩ ?_
  clear h
  rintro m11 st ⟨x4, h, rfl⟩
  cases m11 with
  | zero => cases (show (none : Option Bool) = some r from h)
  | succ m11 =>
  rw [l_WindowFair_L1] at h
  refine sw_seq (qG (q_movD R (r_movW R R R (r_lenR tb R R R R R ?_))))
  refine r_lss R R R R ?_ ?_
  ·intro c10
   replace h := ifP c10 h
   refine eN (sw_condT R (sw_skip (then_norm (sw_seq (sw_block (sw_seq (sw_dr (by kernel_rfl) (r_movW R R R (r_movW R R R (q_movD R (r_ixI tb R R R R R R (ix0 ie2) (ix1 ie2) R R (q_fa tb R ?_))))))))))))
   refine r_ldD (y := vI e2.team) tb R R R R (ix2 (g := fun a => T.d (WiUse.d a)) ie2) R R R R ?_
   obtain ⟨e4, ie4, h⟩ := bnd h
   refine r_ixI tb R R R R R R (ix0 ie4) (ix1 ie4) R R ?_
   refine r_ldD (y := vI e4) tb R R R R (ix2 (g := fun a => T.d (vI a)) ie4) R R R R ?_
   refine r_movW R R R (q_movD R ?_)
   obtain ⟨e5, ie5, h⟩ := bnd h
   refine r_ixI tb R R R R R R (ix0 ie5) (ix1 ie5) R R ?_
   refine r_ldD (y := vI e5) tb R R R R (ix2 (g := fun a => T.d (vI a)) ie5) R R R R ?_
   refine q_add R ?_
   refine r_gtr R R R R ?_ ?_
   ·intro c11
    replace h := ifP c11 h
    refine ev_endD (by kernel_rfl) (then_norm (sw_condT R (qG (q_asgD R (eN (sw_ret (block_ret (then_ret (then_ret (block_ret (block_ret (then_ret (then_ret (block_ret (then_ret ?_)))))))))))))))
    obtain rfl := sI h
    exact f1 6 R
   intro c11
   replace h := ifN (Int.not_lt.2 c11) h
   refine ev_endD (by kernel_rfl) (then_norm (sw_condF R (sw_skip (block_norm (then_norm (sw_rg (q_movD R (q_add R (q_asgD R (eN ?_))))))))))
   exact ⟨m11, _, Nat.lt_succ_self _, .prn [6, 11, 12, 14, 15, 16] R, (W (x4 + 1)), h, R⟩
  intro c10
  replace h := ifN (Int.not_lt.2 c10) h
  refine eN (sw_condF R (sw_exit (then_exit (then_exit ?_))))
  subst hK11
  refine block_exit (block_norm (then_norm (sw_rg (q_movD R (q_add R (q_asgD R (eN ?_)))))))
  exact ⟨m10, _, Nat.lt_succ_self _, .prn [6, 11, 12, 14, 15] R, lv5, (W (x3 + 1)), h, R⟩
 intro c7
 replace h := ifN (Int.not_lt.2 c7) h
 refine eN (sw_condF R (sw_exit (then_exit (then_exit ?_))))
 subst hK10
 refine block_exit (then_norm (qG (r_movW R R R (q_fa tb R (r_ldW tb R R R R R R R R R ?_)))))
 obtain ⟨rv4, hrv4, h⟩ := bnd h
 refine r_callLB (r_Ints_pc hrv4) (.of (by kernel_rfl)) R R ((.cons (.row R R) (.cons (.row R R) .nil))) R R ?_ ?_
 ·intro c12
  replace h := ifP c12 h
  refine q_movD R ?_
  obtain ⟨rv5, hrv5, h⟩ := bnd h
  refine r_call (l_Awake_pc hrv5) (.of (by kernel_rfl)) R R R R (q_pickT R (q_asgD R (eN (sw_ret ?_))))
  obtain rfl := sI h
  exact f1 6 R
 intro c12
 replace h := ifF c12 h
 refine q_movD R (q_skip R (q_pickF R (q_asgD R (eN (sw_ret ?_)))))
 obtain rfl := sI h
 exact f1 6 R
end Go.Proofs.Ytdefnmcjmklohaa
