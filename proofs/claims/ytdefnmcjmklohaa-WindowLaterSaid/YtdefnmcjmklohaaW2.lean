/- What functions of the program compute: plain functions, and the proofs. -/
import Derived.Test.YtdefnmcjmklohaaW1
open Go Go.Proofs.Ytdefnmcjmklohaa.Sh Go.Proofs
namespace Go.Proofs.Ytdefnmcjmklohaa
set_option linter.unusedVariables false
set_option linter.unusedSimpArgs false
set_option maxRecDepth 100000
/-- slices.Clone[[]int,int] -/
def slices_Clone_int (F : Nat) (s : (List Int)) : Option (List Int) := Option.bind (appO ([] : List Int) s) fun q => some q
set_option maxHeartbeats 4000000 in
theorem slices_Clone_int_scr {F : Nat} {s : (List Int)} {r : (List Int)} (h : slices_Clone_int F s = some r) : SCR Try.prog 83 (List.map T.d [.arr 1 ((s).map vI)]) [] (.row 0 1 0 (r).length) (List.map some [(lvI r)]) := by
 rw [slices_Clone_int] at h
 refine SC.of_sw Try.func83 rfl rfl rfl ?_
 simp only [List.map_cons, List.map_nil, argS, Nat.zero_add, Nat.reduceAdd]
 cases s with
 | nil =>
  refine SW.raw 0 1 rfl fun ad cap => ?_
  cases ad with
  | none =>
   replace h : some ([] : List Int) = some r := by simpa [appO] using h
   refine sw_seq (sw_rg (r_asgD rfl rfl rfl (ev_end (then_norm (sw_seq (sw_seq (sw_rg (r_movD rfl rfl rfl (r_nilRow (by intro o a n cap w; cases a <;> cases o <;> simp [go_sem, eqGuard] <;> rfl) rfl rfl rfl (ev_end (then_norm (sw_condT rfl ?_))))))))))))
   refine SW.unraw 0 1 rfl ?_
   refine SW.unraw 3 1 rfl ?_
   refine sw_seq (sw_rg (r_asgD rfl rfl rfl (ev_end (then_norm ?_))))
   refine SW.own (ts' := [(2, .row 0 1 0 (([] : List Int)).length)]) (L' := []) 1 rfl rfl (.cons .nil .nil) .nil ?_
   simp only [List.cons_append, List.nil_append]
   refine sw_ret (then_ret ?_)
   obtain rfl := Option.some.inj h
   exact (fin_S (t := .row 0 1 0 (([] : List Int)).length) (L := [some (lvI ([] : List Int))]) (κ := [0]) rfl (.cons (.tmp 2) .nil) (vwK rfl rfl (.row rfl .nil) (.cons rfl rfl .nil)) ⟨rfl, rfl⟩)
  | some ad =>
   refine sw_seq (sw_rg (r_asgD rfl rfl rfl (ev_end (then_norm (sw_seq (sw_seq (sw_rg (r_movD rfl rfl rfl (r_nilRaw (by intro o a n cap w; cases a <;> cases o <;> simp [go_sem, eqGuard] <;> rfl) rfl rfl rfl (ev_end (then_norm (sw_condF rfl ?_))))))))))))
   refine SW.unraw 0 1 rfl ?_
   refine SW.unraw 3 1 rfl ?_
   refine sw_skip (then_norm (sw_seq (sw_rg (r_bslice tb rfl rfl rfl rfl rfl rfl rfl rfl rfl rfl rfl rfl rfl (r_movD rfl rfl rfl ?_)))))
   obtain ⟨q, iq, h⟩ := bnd h
   refine r_apEM (g := vI) (w := ([] : List Int)) (v := ([] : List Int)) ([none]) tb rfl rfl rfl rfl rfl rfl rfl rfl (by intro _; exact rfl) iq rfl rfl rfl rfl rfl (r_asgW rfl rfl rfl (ev_end (then_norm (sw_ret ?_))))
   obtain rfl := Option.some.inj h
   exact (fin_S (t := .row 0 1 0 (q).length) (L := [some (lvI q)]) (κ := [1]) rfl (.cons (.tmp 2) .nil) (vwK rfl rfl (.row rfl .nil) (.cons rfl rfl .nil)) ⟨rfl, rfl⟩)
 | cons x0 s =>
  refine sw_seq (sw_rg (r_asgD rfl rfl rfl (ev_end (then_norm (sw_seq (sw_seq (sw_rg (r_movD rfl rfl rfl (r_nilArr (by intro o a n cap w; cases a <;> cases o <;> simp [go_sem, eqGuard] <;> rfl) rfl rfl rfl (ev_end (then_norm (sw_condF rfl (sw_skip (then_norm (sw_seq (sw_rg (r_bslice tb rfl rfl rfl rfl rfl rfl rfl rfl rfl rfl rfl rfl rfl (r_movD rfl rfl rfl ?_))))))))))))))))))
  obtain ⟨q, iq, h⟩ := bnd h
  refine r_apEM (g := vI) (w := ([] : List Int)) (v := (x0 :: s)) ([none]) tb rfl rfl rfl rfl rfl rfl rfl rfl (by intro _; exact rfl) iq rfl rfl rfl rfl rfl (r_asgW rfl rfl rfl (ev_end (then_norm (sw_ret ?_))))
  obtain rfl := Option.some.inj h
  exact (fin_S (t := .row 0 1 0 (q).length) (L := [some (lvI q)]) (κ := [1]) rfl (.cons (.tmp 2) .nil) (vwK rfl rfl (.row rfl .nil) (.cons rfl rfl .nil)) ⟨rfl, rfl⟩)
theorem slices_Clone_int_pc {F : Nat} {s : (List Int)} {r : (List Int)} (h : slices_Clone_int F s = some r) : PC Try.prog 83 [.arr 1 ((s).map vI)] (.arr 1 ((r).map vI)) := (slices_Clone_int_scr h).toPC (.row rfl rfl)
/-- window.begin -/
def window_begin (F : Nat) (p : WiPlan) (s : WiState) (sky : WiSky) : Option ((Option Table) × Int) := Option.bind (window_CheckState F p s) fun rv => if rv = 0 then (if s.next = (p.windows.length : Int) then (some (none, 9)) else (Option.bind (window_mixed F sky.kinds) fun rv2 => if rv2 = true then (some (none, 2)) else (Option.bind (window_out F sky.wind 0 1000) fun rv3 => if rv3 = true then (some (none, 2)) else (Option.bind (slices_Clone_int F s.used) fun rv4 => Option.bind (slices_Clone_int F s.credit) fun rv5 => Option.bind (slices_Clone_int F s.last) fun rv6 => Option.bind (ixO p.windows s.next) fun e => some ((some (Table.mk p.teams p.windows p.cost p.gift rv4 rv5 rv6 s.next sky.kinds sky.wind e.day e.from_ e.until_ e.from_ ([] : List (Int × Bool)) (-1) (-1) false s.next (-1) 0 (-1))), 0))))) else (some (none, rv))
set_option maxHeartbeats 4000000 in
theorem window_begin_sco {F : Nat} {p : WiPlan} {s : WiState} {sky : WiSky} {r : ((Option Table) × Int)} (h : window_begin F p s sky = some r) : SCO Try.prog 66 (List.map T.d [WiPlan.d p, WiState.d s, WiSky.d sky]) [] r.1 (.d (.tup [.v (.pointer none), .v (.int .i64 r.2)])) (List.map some []) (fun (tt : Table) => .tup [.ref 0 22 0 0, .d (.v (.int .i64 r.2))]) (fun (tt : Table) => List.map some [⟨22, [Table_T1 tt 1 2 3 4]⟩, (lvI tt.s_Used), (lvI tt.s_Credit), (lvI tt.s_Last), (m1w tt.done)]) := by
 rw [window_begin] at h
 refine SC.of_sw Try.func66 rfl rfl rfl ?_
 simp only [List.map_cons, List.map_nil, argS, Nat.zero_add, Nat.reduceAdd]
 refine sw_seq (sw_rg (r_box rfl rfl rfl rfl rfl rfl rfl (r_box rfl rfl rfl rfl rfl rfl rfl (r_box rfl rfl rfl rfl rfl rfl rfl (r_asgD rfl rfl rfl (r_asgD rfl rfl rfl (ev_end (then_norm (sw_seq (sw_rg (r_ldD (y := WiPlan.d p) tb rfl rfl rfl rfl rfl rfl rfl rfl rfl (r_ldD (y := WiState.d s) tb rfl rfl rfl rfl rfl rfl rfl rfl rfl ?_))))))))))))
 obtain ⟨rv, hrv, h⟩ := bnd h
 refine r_call (window_CheckState_pc hrv) (.of (by kernel_rfl)) rfl rfl rfl rfl (r_asgD rfl rfl rfl (ev_end (then_norm (sw_seq (sw_block (sw_seq (sw_rg (r_movD rfl rfl rfl ?_))))))))
 refine r_neq rfl rfl rfl rfl ?_ ?_
 ·intro c
  replace h := ifN c h
  refine r_asgD rfl rfl rfl (ev_end (then_norm (sw_condT rfl (sw_seq (sw_rg (r_movD rfl rfl rfl (r_asgD rfl rfl rfl (r_asgD rfl rfl rfl (ev_end (then_norm (sw_ret (block_ret (then_ret ?_)))))))))))))
  obtain rfl := Option.some.inj h
  exact (fin_S (t := .d (.tup [.v (.pointer none), .v (.int .i64 rv)])) (L := []) (κ := []) rfl (.cons (.tmp 6) (.cons (.tmp 7) .nil)) (vwK rfl rfl .nil (.cons rfl rfl .nil)) (.inl ⟨rfl, rfl, rfl⟩))
 intro c
 replace h := ifP c h
 refine r_asgD rfl rfl rfl (ev_end (then_norm (sw_condF rfl (sw_seq (sw_rg (r_fa tb rfl rfl rfl rfl rfl rfl rfl (r_ldD (y := .v (.int .i64 s.next)) tb rfl rfl rfl rfl rfl rfl rfl rfl rfl (r_fa tb rfl rfl rfl rfl rfl rfl rfl (r_ldD (y := .arr 3 ((p.windows).map WiWindow.d)) tb rfl rfl rfl rfl rfl rfl rfl rfl rfl (r_lenM tb rfl rfl rfl rfl rfl ?_))))))))))
 refine r_eql rfl rfl rfl rfl ?_ ?_
 ·intro c2
  replace h := ifP c2 h
  refine r_asgD rfl rfl rfl (ev_end (then_norm (sw_condT rfl (sw_seq (sw_rg (r_asgD rfl rfl rfl (r_asgD rfl rfl rfl (ev_end (then_norm (sw_ret (block_ret (then_ret ?_))))))))))))
  obtain rfl := Option.some.inj h
  exact (fin_S (t := .d (.tup [.v (.pointer none), .v (.int .i64 9)])) (L := []) (κ := []) rfl (.cons (.tmp 6) (.cons (.tmp 7) .nil)) (vwK rfl rfl .nil (.cons rfl rfl .nil)) (.inl ⟨rfl, rfl, rfl⟩))
 intro c2
 replace h := ifN c2 h
 refine r_asgD rfl rfl rfl (ev_end (then_norm (sw_condF rfl (sw_seq (sw_rg (r_fa tb rfl rfl rfl rfl rfl rfl rfl (r_ldD (y := .arr 1 ((sky.kinds).map vI)) tb rfl rfl rfl rfl rfl rfl rfl rfl rfl ?_)))))))
 obtain ⟨rv2, hrv2, h⟩ := bnd h
 refine r_callB (window_mixed_pc hrv2) (.of (by kernel_rfl)) rfl rfl rfl rfl ?_ ?_
 ·intro c3
  replace h := ifP c3 h
  refine r_movD rfl rfl rfl (r_skip rfl rfl rfl (r_skip rfl rfl rfl (r_skip rfl rfl rfl (r_pickT rfl rfl rfl rfl (r_asgD rfl rfl rfl (ev_end (then_norm (sw_condT rfl (sw_seq (sw_rg (r_asgD rfl rfl rfl (r_asgD rfl rfl rfl (ev_end (then_norm (sw_ret (block_ret (then_ret ?_)))))))))))))))))
  obtain rfl := Option.some.inj h
  exact (fin_S (t := .d (.tup [.v (.pointer none), .v (.int .i64 2)])) (L := []) (κ := []) rfl (.cons (.tmp 6) (.cons (.tmp 7) .nil)) (vwK rfl rfl .nil (.cons rfl rfl .nil)) (.inl ⟨rfl, rfl, rfl⟩))
 intro c3
 replace h := ifF c3 h
 refine r_movD rfl rfl rfl (r_fa tb rfl rfl rfl rfl rfl rfl rfl (r_ldD (y := .v (.int .i64 sky.wind)) tb rfl rfl rfl rfl rfl rfl rfl rfl rfl ?_))
 obtain ⟨rv3, hrv3, h⟩ := bnd h
 refine r_callB (window_out_pc hrv3) (.of (by kernel_rfl)) rfl rfl rfl rfl ?_ ?_
 ·intro c4
  replace h := ifP c4 h
  refine r_pickF rfl rfl rfl rfl (r_asgD rfl rfl rfl (ev_end (then_norm (sw_condT rfl (sw_seq (sw_rg (r_asgD rfl rfl rfl (r_asgD rfl rfl rfl (ev_end (then_norm (sw_ret (block_ret (then_ret ?_)))))))))))))
  obtain rfl := Option.some.inj h
  exact (fin_S (t := .d (.tup [.v (.pointer none), .v (.int .i64 2)])) (L := []) (κ := []) rfl (.cons (.tmp 6) (.cons (.tmp 7) .nil)) (vwK rfl rfl .nil (.cons rfl rfl .nil)) (.inl ⟨rfl, rfl, rfl⟩))
 intro c4
 replace h := ifF c4 h
 refine r_pickF rfl rfl rfl rfl (r_asgD rfl rfl rfl (ev_end (then_norm (sw_condF rfl (sw_skip (block_norm (then_norm (sw_seq (sw_dr (by kernel_rfl) (r_fa tb rfl rfl rfl rfl rfl rfl rfl (r_ldD (y := .arr 1 ((s.used).map vI)) tb rfl rfl rfl rfl rfl rfl rfl rfl rfl ?_)))))))))))
 obtain ⟨rv4, hrv4, h⟩ := bnd h
 refine r_callN (t' := .row 3 1 0 (rv4).length) (news' := [(lvI rv4)]) (slices_Clone_int_scr hrv4) (.of (by kernel_rfl)) rfl rfl rfl ((.row .nil)) rfl rfl rfl (r_fa tb rfl rfl rfl rfl rfl rfl rfl (r_ldD (y := .arr 1 ((s.credit).map vI)) tb rfl rfl rfl rfl rfl rfl rfl rfl rfl ?_))
 obtain ⟨rv5, hrv5, h⟩ := bnd h
 refine r_callN (t' := .row 4 1 0 (rv5).length) (news' := [(lvI rv5)]) (slices_Clone_int_scr hrv5) (.of (by kernel_rfl)) rfl rfl rfl ((.row .nil)) rfl rfl rfl (r_fa tb rfl rfl rfl rfl rfl rfl rfl (r_ldD (y := .arr 1 ((s.last).map vI)) tb rfl rfl rfl rfl rfl rfl rfl rfl rfl ?_))
 obtain ⟨rv6, hrv6, h⟩ := bnd h
 refine r_callN (t' := .row 5 1 0 (rv6).length) (news' := [(lvI rv6)]) (slices_Clone_int_scr hrv6) (.of (by kernel_rfl)) rfl rfl rfl ((.row .nil)) rfl rfl rfl (r_fa tb rfl rfl rfl rfl rfl rfl rfl (r_stE _ ([some ⟨4, [.d (WiPlan.d p)]⟩, some ⟨4, [WiState_T2 {s with used := rv4} 3]⟩, some ⟨2, [.d (WiSky.d sky)]⟩, some (lvI rv4), some (lvI rv5), some (lvI rv6)]) tb rfl rfl rfl rfl rfl rfl rfl rfl rfl rfl rfl rfl (r_fa tb rfl rfl rfl rfl rfl rfl rfl ?_)))
 refine r_stE _ ([some ⟨4, [.d (WiPlan.d p)]⟩, some ⟨4, [WiState_T3 {s with used := rv4, credit := rv5} 3 4]⟩, some ⟨2, [.d (WiSky.d sky)]⟩, some (lvI rv4), some (lvI rv5), some (lvI rv6)]) tb rfl rfl rfl rfl rfl rfl rfl rfl rfl rfl rfl rfl (r_fa tb rfl rfl rfl rfl rfl rfl rfl (r_stE _ ([some ⟨4, [.d (WiPlan.d p)]⟩, some ⟨4, [WiState_T1 (WiState.mk rv4 rv5 rv6 s.next) 3 4 5]⟩, some ⟨2, [.d (WiSky.d sky)]⟩, some (lvI rv4), some (lvI rv5), some (lvI rv6)]) tb rfl rfl rfl rfl rfl rfl rfl rfl rfl rfl rfl rfl (ev_endD (by kernel_rfl) (then_norm (sw_seq (sw_rg ?_))))))
 refine r_fa tb rfl rfl rfl rfl rfl rfl rfl (r_ldD (y := .arr 3 ((p.windows).map WiWindow.d)) tb rfl rfl rfl rfl rfl rfl rfl rfl rfl (r_fa tb rfl rfl rfl rfl rfl rfl rfl (r_ldD (y := .v (.int .i64 s.next)) tb rfl rfl rfl rfl rfl rfl rfl rfl rfl ?_)))
 obtain ⟨e, ie, h⟩ := bnd h
 refine r_ixE tb rfl rfl rfl rfl rfl rfl (ix0 ie) (ix1m ie) rfl rfl (r_ldE (y := WiWindow.d e) tb rfl rfl (ix2 (g := WiWindow.d) ie) rfl rfl rfl rfl (r_alloc tb rfl rfl rfl rfl rfl (r_stE _ ([some ⟨4, [.d (WiPlan.d p)]⟩, some ⟨4, [WiState_T1 (WiState.mk rv4 rv5 rv6 s.next) 3 4 5]⟩, some ⟨2, [.d (WiSky.d sky)]⟩, some (lvI rv4), some (lvI rv5), some (lvI rv6), some ⟨3, [.d (WiWindow.d e)]⟩]) tb rfl rfl rfl rfl rfl rfl rfl rfl rfl rfl rfl rfl (ev_end (then_norm (sw_seq (sw_rg (r_ldD (y := WiPlan.d p) tb rfl rfl rfl rfl rfl rfl rfl rfl rfl ?_))))))))
 refine r_ldG tb rfl rfl rfl rfl rfl rfl rfl rfl rfl (r_ldD (y := WiSky.d sky) tb rfl rfl rfl rfl rfl rfl rfl rfl rfl (r_ldD (y := WiWindow.d e) tb rfl rfl rfl rfl rfl rfl rfl rfl rfl (r_fa tb rfl rfl rfl rfl rfl rfl rfl (r_ldD (y := .v (.int .i64 e.from_)) tb rfl rfl rfl rfl rfl rfl rfl rfl rfl (r_makeMap rfl rfl rfl (r_fa tb rfl rfl rfl rfl rfl rfl rfl (r_ldD (y := .v (.int .i64 s.next)) tb rfl rfl rfl rfl rfl rfl rfl rfl rfl ?_)))))))
 refine r_build (v := .d (.agg [.v (.int .i64 s.next), .v (.int .i64 (-1)), .v (.int .i64 0), .v (.int .i64 (-1))])) tb rfl rfl (List.cons_ne_nil _ _) rfl rfl rfl rfl rfl rfl (r_build (v := Table_T1 (Table.mk p.teams p.windows p.cost p.gift rv4 rv5 rv6 s.next sky.kinds sky.wind e.day e.from_ e.until_ e.from_ ([] : List (Int × Bool)) (-1) (-1) false s.next (-1) 0 (-1)) 3 4 5 7) tb rfl rfl (List.cons_ne_nil _ _) (by kernel_rfl) (by kernel_rfl) (by kernel_rfl) (by kernel_rfl) rfl rfl (r_box rfl rfl rfl rfl rfl rfl rfl (r_asgR rfl rfl rfl (r_asgD rfl rfl rfl (ev_end (then_norm ?_))))))
 refine sw_ret ?_
 obtain rfl := Option.some.inj h
 exact (fin_S (t := .tup [.ref 0 22 0 0, .d (.v (.int .i64 0))]) (L := [some ⟨22, [Table_T1 (Table.mk p.teams p.windows p.cost p.gift rv4 rv5 rv6 s.next sky.kinds sky.wind e.day e.from_ e.until_ e.from_ ([] : List (Int × Bool)) (-1) (-1) false s.next (-1) 0 (-1)) 1 2 3 4]⟩, some (lvI rv4), some (lvI rv5), some (lvI rv6), some (m1w ([] : List (Int × Bool)))]) (κ := [8, 3, 4, 5, 7]) rfl (.cons (.tmp 6) (.cons (.tmp 7) .nil)) (vwK rfl rfl (.cons rfl rfl (.row rfl (.row rfl (.row rfl (.map rfl .nil))))) (.cons rfl rfl .nil)) (.inr ⟨_, rfl, rfl, rfl⟩))
/-- (*window.table).entitled -/
def window_table_entitled (F : Nat) (b : Table) : Option Table := some b
set_option maxHeartbeats 4000000 in
theorem window_table_entitled_scr {F : Nat} {b : Table} {r : Table} (h : window_table_entitled F b = some r) : SCR Try.prog 81 (List.map T.d [.el 22 (([b]).map Table.d) ((0 : Int)).toNat 0]) [] (.fn (.func 104) [] [.ref 0 1 0 0]) (List.map some [⟨1, [.d (.el 22 (([r]).map Table.d) ((0 : Int)).toNat 0)]⟩]) := by
 rw [window_table_entitled] at h
 refine SC.of_sw Try.func81 rfl rfl rfl ?_
 simp only [List.map_cons, List.map_nil, argS, Nat.zero_add, Nat.reduceAdd]
 refine sw_seq (sw_rg (r_box rfl rfl rfl rfl rfl rfl rfl (r_asgD rfl rfl rfl (ev_end (then_norm (sw_seq (sw_rg (r_func rfl rfl rfl rfl (r_asgF rfl rfl rfl (ev_end (then_norm (sw_ret ?_))))))))))))
 obtain rfl := Option.some.inj h
 exact (fin_S (t := .fn (.func 104) [] [.ref 0 1 0 0]) (L := [some ⟨1, [.d (.el 22 (([b]).map Table.d) ((0 : Int)).toNat 0)]⟩]) (κ := [0]) rfl (.cons (.tmp 2) .nil) (vwK rfl rfl (.cons rfl rfl .nil) (.cons rfl rfl .nil)) ⟨rfl, rfl⟩)
/-- (*window.table).entitled!0 -/
def window_table_entitled_m (F : Nat) (b : Table) : Option Table := some b
set_option maxHeartbeats 4000000 in
theorem window_table_entitled_m_scr {F : Nat} {b : Table} {r : Table} (h : window_table_entitled_m F b = some r) : SCR Try.prog 81 [.ref 0 22 0 0] [some ⟨22, [Table_T1 b 1 2 3 4]⟩, some (lvI b.s_Used), some (lvI b.s_Credit), some (lvI b.s_Last), some (m1w b.done)] (.fn (.func 104) [] [.ref 5 1 0 0]) [some ⟨22, [Table_T1 r 1 2 3 4]⟩, some (lvI r.s_Used), some (lvI r.s_Credit), some (lvI r.s_Last), some (m1w r.done), some ⟨1, [.ref 0 22 0 0]⟩] := by
 rw [window_table_entitled_m] at h
 refine SC.of_sw Try.func81 rfl rfl rfl ?_
 simp only [List.map_cons, List.map_nil, argS, Nat.zero_add, Nat.reduceAdd]
 refine sw_seq (sw_rg (r_box rfl rfl rfl rfl rfl rfl rfl (r_asgD rfl rfl rfl (ev_end (then_norm (sw_seq (sw_rg (r_func rfl rfl rfl rfl (r_asgF rfl rfl rfl (ev_end (then_norm (sw_ret ?_))))))))))))
 obtain rfl := Option.some.inj h
 exact (fin_S (t := .fn (.func 104) [] [.ref 5 1 0 0]) (L := [some ⟨22, [Table_T1 b 1 2 3 4]⟩, some (lvI b.s_Used), some (lvI b.s_Credit), some (lvI b.s_Last), some (m1w b.done), some ⟨1, [.ref 0 22 0 0]⟩]) (κ := [0, 1, 2, 3, 4, 5]) rfl (.cons (.tmp 2) .nil) (vwK rfl rfl (.cons rfl rfl (.row rfl (.row rfl (.row rfl (.map rfl (.cons rfl rfl .nil)))))) (.cons rfl rfl .nil)) ⟨rfl, rfl⟩)
/-- window.at -/
def window_at (F : Nat) (p : WiPlan) (s : WiState) (sky : WiSky) (minute : Int) : Option ((Option Table) × Int) := Option.bind (window_begin F p s sky) fun rv => optE rv.1 (if rv.2 = 0 then (none) else (some (none, rv.2))) (fun t => if rv.2 = 0 then (Option.bind (window_out F minute t.w_From t.w_Until) fun rv2 => if rv2 = true then (some (none, 7)) else (some ((some {t with minute := minute}), 0))) else (some (none, rv.2)))
set_option maxHeartbeats 4000000 in
theorem window_at_sco {F : Nat} {p : WiPlan} {s : WiState} {sky : WiSky} {minute : Int} {r : ((Option Table) × Int)} (h : window_at F p s sky minute = some r) : SCO Try.prog 62 (List.map T.d [WiPlan.d p, WiState.d s, WiSky.d sky, .v (.int .i64 minute)]) [] r.1 (.d (.tup [.v (.pointer none), .v (.int .i64 r.2)])) (List.map some []) (fun (tt : Table) => .tup [.ref 0 22 0 0, .d (.v (.int .i64 r.2))]) (fun (tt : Table) => List.map some [⟨22, [Table_T1 tt 1 2 3 4]⟩, (lvI tt.s_Used), (lvI tt.s_Credit), (lvI tt.s_Last), (m1w tt.done)]) := by
 rw [window_at] at h
 refine SC.of_sw Try.func62 rfl rfl rfl ?_
 simp only [List.map_cons, List.map_nil, argS, Nat.zero_add, Nat.reduceAdd]
 refine sw_seq (sw_rg (r_box rfl rfl rfl rfl rfl rfl rfl (r_box rfl rfl rfl rfl rfl rfl rfl (r_box rfl rfl rfl rfl rfl rfl rfl (r_asgD rfl rfl rfl (r_asgD rfl rfl rfl (ev_end (then_norm (sw_seq (sw_rg (r_ldD (y := WiPlan.d p) tb rfl rfl rfl rfl rfl rfl rfl rfl rfl (r_ldD (y := WiState.d s) tb rfl rfl rfl rfl rfl rfl rfl rfl rfl (r_ldD (y := WiSky.d sky) tb rfl rfl rfl rfl rfl rfl rfl rfl rfl ?_)))))))))))))
 obtain ⟨rv, hrv, h⟩ := bnd h
 rcases Option.eq_none_or_eq_some rv.1 with nv | ⟨t, nv⟩
 ·replace h := (optN nv).symm.trans h
  refine r_callO (t' := .d (.tup [.v (.pointer none), .v (.int .i64 rv.2)])) (ls := []) (news := []) ([]) ([some ⟨4, [.d (WiPlan.d p)]⟩, some ⟨4, [.d (WiState.d s)]⟩, some ⟨2, [.d (WiSky.d sky)]⟩]) ((window_begin_sco hrv).none nv) (.of (by kernel_rfl)) rfl (.inl ⟨rfl, rfl, rfl⟩) rfl rfl rfl rfl .nil rfl rfl rfl .nil .nil rfl rfl rfl rfl (r_movD rfl rfl rfl (r_extD (t := .v (.pointer none)) rfl rfl rfl rfl (r_extD (t := .v (.int .i64 rv.2)) rfl rfl rfl rfl (r_asgD rfl rfl rfl (r_asgD rfl rfl rfl (ev_end (then_norm (sw_seq (sw_block (sw_seq (sw_rg (r_movD rfl rfl rfl ?_))))))))))))
  refine r_neq rfl rfl rfl rfl ?_ ?_
  ·intro c
   replace h := ifN c h
   refine r_asgD rfl rfl rfl (ev_end (then_norm (sw_condT rfl (sw_seq (sw_rg (r_movD rfl rfl rfl (r_asgD rfl rfl rfl (r_asgD rfl rfl rfl (ev_end (then_norm (sw_ret (block_ret (then_ret ?_)))))))))))))
   obtain rfl := Option.some.inj h
   exact (fin_S (t := .d (.tup [.v (.pointer none), .v (.int .i64 rv.2)])) (L := []) (κ := []) rfl (.cons (.tmp 8) (.cons (.tmp 9) .nil)) (vwK rfl rfl .nil (.cons rfl rfl .nil)) (.inl ⟨rfl, rfl, rfl⟩))
  intro c
  replace h := ifP c h
  cases h
 replace h := (optS nv).symm.trans h
 refine r_callO (t' := .tup [.ref 3 22 0 0, .d (.v (.int .i64 rv.2))]) (ls := []) (news := [⟨22, [Table_T1 t 1 2 3 4]⟩, (lvI t.s_Used), (lvI t.s_Credit), (lvI t.s_Last), (m1w t.done)]) ([]) ([some ⟨4, [.d (WiPlan.d p)]⟩, some ⟨4, [.d (WiState.d s)]⟩, some ⟨2, [.d (WiSky.d sky)]⟩, some ⟨22, [Table_T1 t 4 5 6 7]⟩, some (lvI t.s_Used), some (lvI t.s_Credit), some (lvI t.s_Last), some (m1w t.done)]) ((window_begin_sco hrv).some nv) (.of (by kernel_rfl)) rfl (.inl ⟨rfl, rfl, rfl⟩) rfl rfl rfl rfl .nil rfl rfl rfl .nil ((.cons rfl (.row (.row (.row (.map .nil)))))) rfl rfl rfl rfl ?_
 refine r_movT (.tup [.ref 3 22 0 0, .d (.v (.int .i64 rv.2))]) rfl rfl rfl (r_ext (t := .ref 3 22 0 0) rfl rfl rfl rfl (r_ext (t := .d (.v (.int .i64 rv.2))) rfl rfl rfl rfl (r_asgR rfl rfl rfl (r_asgD rfl rfl rfl (ev_end (then_norm (sw_seq (sw_block (sw_seq (sw_rg (r_movD rfl rfl rfl ?_)))))))))))
 refine r_neq rfl rfl rfl rfl ?_ ?_
 ·intro c2
  replace h := ifN c2 h
  refine r_asgD rfl rfl rfl (ev_end (then_norm (sw_condT rfl (sw_seq (sw_rg (r_movD rfl rfl rfl (r_asgD rfl rfl rfl (r_asgD rfl rfl rfl (ev_end (then_norm (sw_ret (block_ret (then_ret ?_)))))))))))))
  obtain rfl := Option.some.inj h
  exact (fin_S (t := .d (.tup [.v (.pointer none), .v (.int .i64 rv.2)])) (L := []) (κ := []) rfl (.cons (.tmp 8) (.cons (.tmp 9) .nil)) (vwK rfl rfl .nil (.cons rfl rfl .nil)) (.inl ⟨rfl, rfl, rfl⟩))
 intro c2
 replace h := ifP c2 h
 refine r_asgD rfl rfl rfl (ev_end (then_norm (sw_condF rfl (sw_seq (sw_dr (by kernel_rfl) (r_movD rfl rfl rfl (r_movR rfl rfl rfl (r_nilRef rfl rfl rfl (r_fa tb rfl rfl rfl rfl rfl rfl rfl (r_fa tb rfl rfl rfl rfl rfl rfl rfl (r_ldD (y := .v (.int .i64 t.w_From)) tb rfl rfl rfl rfl rfl rfl rfl rfl rfl (r_movR rfl rfl rfl (r_nilRef rfl rfl rfl (r_fa tb rfl rfl rfl rfl rfl rfl rfl (r_fa tb rfl rfl rfl rfl rfl rfl rfl (r_ldD (y := .v (.int .i64 t.w_Until)) tb rfl rfl rfl rfl rfl rfl rfl rfl rfl ?_))))))))))))))))
 obtain ⟨rv2, hrv2, h⟩ := bnd h
 refine r_callB (window_out_pc hrv2) (.of (by kernel_rfl)) rfl rfl rfl rfl ?_ ?_
 ·intro c3
  replace h := ifP c3 h
  refine r_asgD rfl rfl rfl (ev_endD (by kernel_rfl) (then_norm (sw_condT rfl (sw_seq (sw_rg (r_asgD rfl rfl rfl (r_asgD rfl rfl rfl (ev_end (then_norm (sw_ret (block_ret (then_ret ?_))))))))))))
  obtain rfl := Option.some.inj h
  exact (fin_S (t := .d (.tup [.v (.pointer none), .v (.int .i64 7)])) (L := []) (κ := []) rfl (.cons (.tmp 8) (.cons (.tmp 9) .nil)) (vwK rfl rfl .nil (.cons rfl rfl .nil)) (.inl ⟨rfl, rfl, rfl⟩))
 intro c3
 replace h := ifF c3 h
 refine r_asgD rfl rfl rfl (ev_endD (by kernel_rfl) (then_norm (sw_condF rfl (sw_skip (block_norm (then_norm (sw_seq (sw_rg (r_movR rfl rfl rfl (r_movD rfl rfl rfl (r_nilRef rfl rfl rfl (r_fa tb rfl rfl rfl rfl rfl rfl rfl (r_stE _ ([some ⟨4, [.d (WiPlan.d p)]⟩, some ⟨4, [.d (WiState.d s)]⟩, some ⟨2, [.d (WiSky.d sky)]⟩, some ⟨22, [Table_T1 {t with minute := minute} 4 5 6 7]⟩, some (lvI t.s_Used), some (lvI t.s_Credit), some (lvI t.s_Last), some (m1w t.done)]) tb rfl rfl rfl rfl rfl rfl rfl rfl rfl rfl rfl rfl (ev_end (then_norm (sw_seq (sw_rg (r_movR rfl rfl rfl ?_))))))))))))))))))
 refine r_asgR rfl rfl rfl (r_asgD rfl rfl rfl (ev_end (then_norm (sw_ret ?_))))
 obtain rfl := Option.some.inj h
 exact (fin_S (t := .tup [.ref 0 22 0 0, .d (.v (.int .i64 0))]) (L := [some ⟨22, [Table_T1 {t with minute := minute} 1 2 3 4]⟩, some (lvI t.s_Used), some (lvI t.s_Credit), some (lvI t.s_Last), some (m1w t.done)]) (κ := [3, 4, 5, 6, 7]) rfl (.cons (.tmp 8) (.cons (.tmp 9) .nil)) (vwK rfl rfl (.cons rfl rfl (.row rfl (.row rfl (.row rfl (.map rfl .nil))))) (.cons rfl rfl .nil)) (.inr ⟨_, rfl, rfl, rfl⟩))
/-- window.Why -/
def window_Why (F : Nat) (p : WiPlan) (s : WiState) (sky : WiSky) (team : Int) (minute : Int) : Option (Int × Int) := Option.bind (window_begin F p s sky) fun rv => optE rv.1 (if rv.2 = 0 then (Option.bind (window_out F team 0 (W ((p.teams.length : Int) - 1))) fun rv2 => if rv2 = true then (some (0, 4)) else (Option.bind (window_at F p s sky minute) fun rv3 => optE rv3.1 (if rv3.2 = 0 then (none) else (some (0, rv3.2))) (fun t2 => if rv3.2 = 0 then (Option.bind (window_table_why F t2 team) fun rv4 => some (rv4, 0)) else (some (0, rv3.2))))) else (some (0, rv.2))) (fun t => if rv.2 = 0 then (Option.bind (window_out F team 0 (W ((p.teams.length : Int) - 1))) fun rv5 => if rv5 = true then (some (0, 4)) else (Option.bind (window_at F p s sky minute) fun rv6 => optE rv6.1 (if rv6.2 = 0 then (none) else (some (0, rv6.2))) (fun t3 => if rv6.2 = 0 then (Option.bind (window_table_why F t3 team) fun rv7 => some (rv7, 0)) else (some (0, rv6.2))))) else (some (0, rv.2)))
set_option maxHeartbeats 4000000 in
theorem window_Why_pc {F : Nat} {p : WiPlan} {s : WiState} {sky : WiSky} {team : Int} {minute : Int} {r : (Int × Int)} (h : window_Why F p s sky team minute = some r) : PC Try.prog 37 [WiPlan.d p, WiState.d s, WiSky.d sky, .v (.int .i64 team), .v (.int .i64 minute)] (.tup [.v (.int .i64 r.1), .v (.int .i64 r.2)]) := by
 rw [window_Why] at h
 refine SC.of_sw Try.func37 rfl rfl rfl ?_
 simp only [List.map_cons, List.map_nil, argS, Nat.zero_add, Nat.reduceAdd]
 refine sw_seq (sw_rg (r_box rfl rfl rfl rfl rfl rfl rfl (r_box rfl rfl rfl rfl rfl rfl rfl (r_box rfl rfl rfl rfl rfl rfl rfl (r_asgD rfl rfl rfl (r_asgD rfl rfl rfl (ev_end (then_norm (sw_seq (sw_rg (r_ldD (y := WiPlan.d p) tb rfl rfl rfl rfl rfl rfl rfl rfl rfl (r_ldD (y := WiState.d s) tb rfl rfl rfl rfl rfl rfl rfl rfl rfl (r_ldD (y := WiSky.d sky) tb rfl rfl rfl rfl rfl rfl rfl rfl rfl ?_)))))))))))))
 obtain ⟨rv, hrv, h⟩ := bnd h
 rcases Option.eq_none_or_eq_some rv.1 with nv | ⟨t, nv⟩
 ·replace h := (optN nv).symm.trans h
  refine r_callO (t' := .d (.tup [.v (.pointer none), .v (.int .i64 rv.2)])) (ls := []) (news := []) ([]) ([some ⟨4, [.d (WiPlan.d p)]⟩, some ⟨4, [.d (WiState.d s)]⟩, some ⟨2, [.d (WiSky.d sky)]⟩]) ((window_begin_sco hrv).none nv) (.of (by kernel_rfl)) rfl (.inl ⟨rfl, rfl, rfl⟩) rfl rfl rfl rfl .nil rfl rfl rfl .nil .nil rfl rfl rfl rfl (r_movD rfl rfl rfl (r_extD (t := .v (.pointer none)) rfl rfl rfl rfl (r_extD (t := .v (.int .i64 rv.2)) rfl rfl rfl rfl (r_asgD rfl rfl rfl (ev_end (then_norm (sw_seq (sw_block (sw_seq (sw_rg (r_movD rfl rfl rfl ?_)))))))))))
  refine r_neq rfl rfl rfl rfl ?_ ?_
  ·intro c
   replace h := ifN c h
   refine r_asgD rfl rfl rfl (ev_end (then_norm (sw_condT rfl (sw_seq (sw_rg (r_movD rfl rfl rfl (r_asgD rfl rfl rfl (r_asgD rfl rfl rfl (ev_end (then_norm (sw_ret (block_ret (then_ret ?_)))))))))))))
   obtain rfl := Option.some.inj h
   exact fin_0 (t := .d (.tup [.v (.int .i64 0), .v (.int .i64 rv.2)])) rfl rfl rfl (.cons (.tmp 10) (.cons (.tmp 11) .nil))
  intro c
  replace h := ifP c h
  refine r_asgD rfl rfl rfl (ev_end (then_norm (sw_condF rfl (sw_seq (sw_rg (r_movD rfl rfl rfl (r_fa tb rfl rfl rfl rfl rfl rfl rfl (r_ldD (y := .arr 9 ((p.teams).map WiTeam.d)) tb rfl rfl rfl rfl rfl rfl rfl rfl rfl (r_lenM tb rfl rfl rfl rfl rfl (r_sub rfl rfl rfl rfl ?_))))))))))
  obtain ⟨rv2, hrv2, h⟩ := bnd h
  refine r_callB (window_out_pc hrv2) (.of (by kernel_rfl)) rfl rfl rfl rfl ?_ ?_
  ·intro c2
   replace h := ifP c2 h
   refine r_asgD rfl rfl rfl (ev_end (then_norm (sw_condT rfl (sw_seq (sw_rg (r_asgD rfl rfl rfl (r_asgD rfl rfl rfl (ev_end (then_norm (sw_ret (block_ret (then_ret ?_))))))))))))
   obtain rfl := Option.some.inj h
   exact fin_0 (t := .d (.tup [.v (.int .i64 0), .v (.int .i64 4)])) rfl rfl rfl (.cons (.tmp 10) (.cons (.tmp 11) .nil))
  intro c2
  replace h := ifF c2 h
  refine r_asgD rfl rfl rfl (ev_end (then_norm (sw_condF rfl (sw_skip (block_norm (then_norm (sw_seq (sw_rg (r_ldD (y := WiPlan.d p) tb rfl rfl rfl rfl rfl rfl rfl rfl rfl (r_ldD (y := WiState.d s) tb rfl rfl rfl rfl rfl rfl rfl rfl rfl (r_ldD (y := WiSky.d sky) tb rfl rfl rfl rfl rfl rfl rfl rfl rfl (r_movD rfl rfl rfl ?_))))))))))))
  obtain ⟨rv3, hrv3, h⟩ := bnd h
  rcases Option.eq_none_or_eq_some rv3.1 with nv2 | ⟨t2, nv2⟩
  ·replace h := (optN nv2).symm.trans h
   refine r_callO (t' := .d (.tup [.v (.pointer none), .v (.int .i64 rv3.2)])) (ls := []) (news := []) ([]) ([some ⟨4, [.d (WiPlan.d p)]⟩, some ⟨4, [.d (WiState.d s)]⟩, some ⟨2, [.d (WiSky.d sky)]⟩]) ((window_at_sco hrv3).none nv2) (.of (by kernel_rfl)) rfl (.inl ⟨rfl, rfl, rfl⟩) rfl rfl rfl rfl .nil rfl rfl rfl .nil .nil rfl rfl rfl rfl (r_movD rfl rfl rfl (r_extD (t := .v (.pointer none)) rfl rfl rfl rfl (r_extD (t := .v (.int .i64 rv3.2)) rfl rfl rfl rfl (r_asgD rfl rfl rfl (r_asgD rfl rfl rfl (ev_end (then_norm (sw_seq (sw_seq (sw_rg (r_movD rfl rfl rfl ?_)))))))))))
   refine r_neq rfl rfl rfl rfl ?_ ?_
   ·intro c3
    replace h := ifN c3 h
    refine ev_end (then_norm (sw_condT rfl (sw_seq (sw_rg (r_movD rfl rfl rfl (r_asgD rfl rfl rfl (r_asgD rfl rfl rfl (ev_end (then_norm (sw_ret (then_ret ?_)))))))))))
    obtain rfl := Option.some.inj h
    exact fin_0 (t := .d (.tup [.v (.int .i64 0), .v (.int .i64 rv3.2)])) rfl rfl rfl (.cons (.tmp 10) (.cons (.tmp 11) .nil))
   intro c3
   replace h := ifP c3 h
   cases h
  replace h := (optS nv2).symm.trans h
  refine r_callO (t' := .tup [.ref 3 22 0 0, .d (.v (.int .i64 rv3.2))]) (ls := []) (news := [⟨22, [Table_T1 t2 1 2 3 4]⟩, (lvI t2.s_Used), (lvI t2.s_Credit), (lvI t2.s_Last), (m1w t2.done)]) ([]) ([some ⟨4, [.d (WiPlan.d p)]⟩, some ⟨4, [.d (WiState.d s)]⟩, some ⟨2, [.d (WiSky.d sky)]⟩, some ⟨22, [Table_T1 t2 4 5 6 7]⟩, some (lvI t2.s_Used), some (lvI t2.s_Credit), some (lvI t2.s_Last), some (m1w t2.done)]) ((window_at_sco hrv3).some nv2) (.of (by kernel_rfl)) rfl (.inl ⟨rfl, rfl, rfl⟩) rfl rfl rfl rfl .nil rfl rfl rfl .nil ((.cons rfl (.row (.row (.row (.map .nil)))))) rfl rfl rfl rfl ?_
  refine r_movT (.tup [.ref 3 22 0 0, .d (.v (.int .i64 rv3.2))]) rfl rfl rfl (r_ext (t := .ref 3 22 0 0) rfl rfl rfl rfl (r_ext (t := .d (.v (.int .i64 rv3.2))) rfl rfl rfl rfl (r_asgR rfl rfl rfl (r_asgD rfl rfl rfl (ev_end (then_norm (sw_seq (sw_seq (sw_rg (r_movD rfl rfl rfl ?_))))))))))
  refine r_neq rfl rfl rfl rfl ?_ ?_
  ·intro c4
   replace h := ifN c4 h
   refine ev_end (then_norm (sw_condT rfl (sw_seq (sw_rg (r_movD rfl rfl rfl (r_asgD rfl rfl rfl (r_asgD rfl rfl rfl (ev_end (then_norm (sw_ret (then_ret ?_)))))))))))
   obtain rfl := Option.some.inj h
   exact fin_0 (t := .d (.tup [.v (.int .i64 0), .v (.int .i64 rv3.2)])) rfl rfl rfl (.cons (.tmp 10) (.cons (.tmp 11) .nil))
  intro c4
  replace h := ifP c4 h
  refine ev_end (then_norm (sw_condF rfl (sw_skip (then_norm (sw_seq (sw_rg (r_movR rfl rfl rfl (r_movD rfl rfl rfl ?_))))))))
  obtain ⟨rv4, hrv4, h⟩ := bnd h
  refine r_callL (window_table_why_pc hrv4) rfl (.of (by kernel_rfl)) rfl rfl ((.cons (.ref rfl (.aggL (.cons (.d _) (.cons (.d _) (.cons (.d _) (.cons (.d _) (.cons (.row rfl rfl) (.cons (.row rfl rfl) (.cons (.row rfl rfl) (.cons (.d _) (.cons (.d _) (.cons (.d _) (.cons (.d _) (.cons (.d _) (.cons (.d _) (.cons (.d _) (.cons (.mpM rfl) (.cons (.d _) (.cons (.d _) (.cons (.d _) (.cons (.d _) (.cons (.d _) (.cons (.d _) (.cons (.d _) .nil)))))))))))))))))))))))) (.cons (.d _) .nil))) rfl rfl (r_asgD rfl rfl rfl (r_asgD rfl rfl rfl (ev_end (then_norm (sw_ret ?_)))))
  obtain rfl := Option.some.inj h
  exact fin_0 (t := .d (.tup [.v (.int .i64 rv4), .v (.int .i64 0)])) rfl rfl rfl (.cons (.tmp 10) (.cons (.tmp 11) .nil))
 replace h := (optS nv).symm.trans h
 refine r_callO (t' := .tup [.ref 3 22 0 0, .d (.v (.int .i64 rv.2))]) (ls := []) (news := [⟨22, [Table_T1 t 1 2 3 4]⟩, (lvI t.s_Used), (lvI t.s_Credit), (lvI t.s_Last), (m1w t.done)]) ([]) ([some ⟨4, [.d (WiPlan.d p)]⟩, some ⟨4, [.d (WiState.d s)]⟩, some ⟨2, [.d (WiSky.d sky)]⟩, some ⟨22, [Table_T1 t 4 5 6 7]⟩, some (lvI t.s_Used), some (lvI t.s_Credit), some (lvI t.s_Last), some (m1w t.done)]) ((window_begin_sco hrv).some nv) (.of (by kernel_rfl)) rfl (.inl ⟨rfl, rfl, rfl⟩) rfl rfl rfl rfl .nil rfl rfl rfl .nil ((.cons rfl (.row (.row (.row (.map .nil)))))) rfl rfl rfl rfl ?_
 refine r_movT (.tup [.ref 3 22 0 0, .d (.v (.int .i64 rv.2))]) rfl rfl rfl (r_ext (t := .ref 3 22 0 0) rfl rfl rfl rfl (r_ext (t := .d (.v (.int .i64 rv.2))) rfl rfl rfl rfl (r_asgD rfl rfl rfl (ev_end (then_norm (sw_seq (sw_block (sw_seq (sw_rg (r_movD rfl rfl rfl ?_))))))))))
 refine r_neq rfl rfl rfl rfl ?_ ?_
 ·intro c5
  replace h := ifN c5 h
  refine r_asgD rfl rfl rfl (ev_end (then_norm (sw_condT rfl (sw_seq (sw_rg (r_movD rfl rfl rfl (r_asgD rfl rfl rfl (r_asgD rfl rfl rfl (ev_end (then_norm (sw_ret (block_ret (then_ret ?_)))))))))))))
  obtain rfl := Option.some.inj h
  exact fin_0 (t := .d (.tup [.v (.int .i64 0), .v (.int .i64 rv.2)])) rfl rfl rfl (.cons (.tmp 10) (.cons (.tmp 11) .nil))
 intro c5
 replace h := ifP c5 h
 refine r_asgD rfl rfl rfl (ev_end (then_norm (sw_condF rfl (sw_seq (sw_rg (r_movD rfl rfl rfl (r_fa tb rfl rfl rfl rfl rfl rfl rfl (r_ldD (y := .arr 9 ((p.teams).map WiTeam.d)) tb rfl rfl rfl rfl rfl rfl rfl rfl rfl (r_lenM tb rfl rfl rfl rfl rfl (r_sub rfl rfl rfl rfl ?_))))))))))
 obtain ⟨rv5, hrv5, h⟩ := bnd h
 refine r_callB (window_out_pc hrv5) (.of (by kernel_rfl)) rfl rfl rfl rfl ?_ ?_
 ·intro c6
  replace h := ifP c6 h
  refine r_asgD rfl rfl rfl (ev_end (then_norm (sw_condT rfl (sw_seq (sw_rg (r_asgD rfl rfl rfl (r_asgD rfl rfl rfl (ev_end (then_norm (sw_ret (block_ret (then_ret ?_))))))))))))
  obtain rfl := Option.some.inj h
  exact fin_0 (t := .d (.tup [.v (.int .i64 0), .v (.int .i64 4)])) rfl rfl rfl (.cons (.tmp 10) (.cons (.tmp 11) .nil))
 intro c6
 replace h := ifF c6 h
 refine r_asgD rfl rfl rfl (ev_end (then_norm (sw_condF rfl (sw_skip (block_norm (then_norm (sw_seq (sw_rg (r_ldD (y := WiPlan.d p) tb rfl rfl rfl rfl rfl rfl rfl rfl rfl (r_ldD (y := WiState.d s) tb rfl rfl rfl rfl rfl rfl rfl rfl rfl (r_ldD (y := WiSky.d sky) tb rfl rfl rfl rfl rfl rfl rfl rfl rfl (r_movD rfl rfl rfl ?_))))))))))))
 obtain ⟨rv6, hrv6, h⟩ := bnd h
 rcases Option.eq_none_or_eq_some rv6.1 with nv3 | ⟨t3, nv3⟩
 ·replace h := (optN nv3).symm.trans h
  refine r_callO (t' := .d (.tup [.v (.pointer none), .v (.int .i64 rv6.2)])) (ls := []) (news := []) ([]) ([some ⟨4, [.d (WiPlan.d p)]⟩, some ⟨4, [.d (WiState.d s)]⟩, some ⟨2, [.d (WiSky.d sky)]⟩, some ⟨22, [Table_T1 t 4 5 6 7]⟩, some (lvI t.s_Used), some (lvI t.s_Credit), some (lvI t.s_Last), some (m1w t.done)]) ((window_at_sco hrv6).none nv3) (.of (by kernel_rfl)) rfl (.inl ⟨rfl, rfl, rfl⟩) rfl rfl rfl rfl .nil rfl rfl rfl .nil .nil rfl rfl rfl rfl (r_movD rfl rfl rfl (r_extD (t := .v (.pointer none)) rfl rfl rfl rfl (r_extD (t := .v (.int .i64 rv6.2)) rfl rfl rfl rfl ?_)))
  refine r_asgD rfl rfl rfl (r_asgD rfl rfl rfl (ev_end (then_norm (sw_seq (sw_seq (sw_rg (r_movD rfl rfl rfl ?_)))))))
  refine r_neq rfl rfl rfl rfl ?_ ?_
  ·intro c7
   replace h := ifN c7 h
   refine ev_end (then_norm (sw_condT rfl (sw_seq (sw_rg (r_movD rfl rfl rfl (r_asgD rfl rfl rfl (r_asgD rfl rfl rfl (ev_end (then_norm (sw_ret (then_ret ?_)))))))))))
   obtain rfl := Option.some.inj h
   exact fin_0 (t := .d (.tup [.v (.int .i64 0), .v (.int .i64 rv6.2)])) rfl rfl rfl (.cons (.tmp 10) (.cons (.tmp 11) .nil))
  intro c7
  replace h := ifP c7 h
  cases h
 replace h := (optS nv3).symm.trans h
 refine r_callO (t' := .tup [.ref 8 22 0 0, .d (.v (.int .i64 rv6.2))]) (ls := []) (news := [⟨22, [Table_T1 t3 1 2 3 4]⟩, (lvI t3.s_Used), (lvI t3.s_Credit), (lvI t3.s_Last), (m1w t3.done)]) ([]) ([some ⟨4, [.d (WiPlan.d p)]⟩, some ⟨4, [.d (WiState.d s)]⟩, some ⟨2, [.d (WiSky.d sky)]⟩, some ⟨22, [Table_T1 t 4 5 6 7]⟩, some (lvI t.s_Used), some (lvI t.s_Credit), some (lvI t.s_Last), some (m1w t.done), some ⟨22, [Table_T1 t3 9 10 11 12]⟩, some (lvI t3.s_Used), some (lvI t3.s_Credit), some (lvI t3.s_Last), some (m1w t3.done)]) ((window_at_sco hrv6).some nv3) (.of (by kernel_rfl)) rfl (.inl ⟨rfl, rfl, rfl⟩) rfl rfl rfl rfl .nil rfl rfl rfl .nil ((.cons rfl (.row (.row (.row (.map .nil)))))) rfl rfl rfl rfl ?_
 refine r_movT (.tup [.ref 8 22 0 0, .d (.v (.int .i64 rv6.2))]) rfl rfl rfl (r_ext (t := .ref 8 22 0 0) rfl rfl rfl rfl (r_ext (t := .d (.v (.int .i64 rv6.2))) rfl rfl rfl rfl (r_asgR rfl rfl rfl (r_asgD rfl rfl rfl (ev_end (then_norm (sw_seq (sw_seq (sw_rg (r_movD rfl rfl rfl ?_))))))))))
 refine r_neq rfl rfl rfl rfl ?_ ?_
 ·intro c8
  replace h := ifN c8 h
  refine ev_end (then_norm (sw_condT rfl (sw_seq (sw_rg (r_movD rfl rfl rfl (r_asgD rfl rfl rfl (r_asgD rfl rfl rfl (ev_end (then_norm (sw_ret (then_ret ?_)))))))))))
  obtain rfl := Option.some.inj h
  exact fin_0 (t := .d (.tup [.v (.int .i64 0), .v (.int .i64 rv6.2)])) rfl rfl rfl (.cons (.tmp 10) (.cons (.tmp 11) .nil))
 intro c8
 replace h := ifP c8 h
 refine ev_end (then_norm (sw_condF rfl (sw_skip (then_norm (sw_seq (sw_rg (r_movR rfl rfl rfl (r_movD rfl rfl rfl ?_))))))))
 obtain ⟨rv7, hrv7, h⟩ := bnd h
 refine r_callL (window_table_why_pc hrv7) rfl (.of (by kernel_rfl)) rfl rfl ((.cons (.ref rfl (.aggL (.cons (.d _) (.cons (.d _) (.cons (.d _) (.cons (.d _) (.cons (.row rfl rfl) (.cons (.row rfl rfl) (.cons (.row rfl rfl) (.cons (.d _) (.cons (.d _) (.cons (.d _) (.cons (.d _) (.cons (.d _) (.cons (.d _) (.cons (.d _) (.cons (.mpM rfl) (.cons (.d _) (.cons (.d _) (.cons (.d _) (.cons (.d _) (.cons (.d _) (.cons (.d _) (.cons (.d _) .nil)))))))))))))))))))))))) (.cons (.d _) .nil))) rfl rfl (r_asgD rfl rfl rfl (r_asgD rfl rfl rfl (ev_end (then_norm (sw_ret ?_)))))
 obtain rfl := Option.some.inj h
 exact fin_0 (t := .d (.tup [.v (.int .i64 rv7), .v (.int .i64 0)])) rfl rfl rfl (.cons (.tmp 10) (.cons (.tmp 11) .nil))
/-- slices.Collect[int]@0=(*window.table).entitled$1 -/
def slices_Collect_int_window_table_entitled_1 (F : Nat) (c : Table) : Option (List Int) := Option.bind (slices_AppendSeq_int_n_window_table_entitled_1 F c) fun rv => some rv
set_option maxHeartbeats 4000000 in
theorem slices_Collect_int_window_table_entitled_1_scr {F : Nat} {c : Table} {r : (List Int)} (h : slices_Collect_int_window_table_entitled_1 F c = some r) : SCR Try.prog 102 [.fn (.func 104) [] [.d (.el 1 (([c]).map (fun x => D.el 22 [Table.d x] 0 0)) ((0 : Int)).toNat 0)]] [] (.row 0 1 0 (r).length) (List.map some [(lvI r)]) := by
 rw [slices_Collect_int_window_table_entitled_1] at h
 refine SC.of_sw Try.func102 rfl rfl rfl ?_
 simp only [List.map_cons, List.map_nil, argS, Nat.zero_add, Nat.reduceAdd]
 refine sw_seq (sw_rg (r_asgD rfl rfl rfl (ev_end (then_norm (sw_seq (sw_rg (r_movF rfl rfl rfl ?_)))))))
 obtain ⟨rv, hrv, h⟩ := bnd h
 refine r_callX (t' := .row 0 1 0 (rv).length) (news' := [(lvI rv)]) (slices_AppendSeq_int_n_window_table_entitled_1_scr hrv) rfl ((.row (fun _ => rfl) .nil)) (.of (by kernel_rfl)) rfl rfl ((.cons (.d (.d _)) (.cons (.fnC (.cons (.d (.d _)) .nil)) .nil))) rfl ((.row .nil)) rfl rfl rfl ?_
 refine r_asgW rfl rfl rfl (ev_end (then_norm (sw_ret ?_)))
 obtain rfl := Option.some.inj h
 exact (fin_S (t := .row 0 1 0 (rv).length) (L := [some (lvI rv)]) (κ := [0]) rfl (.cons (.tmp 2) .nil) (vwK rfl rfl (.row rfl .nil) (.cons rfl rfl .nil)) ⟨rfl, rfl⟩)
/-- slices.SortedFunc[int]@0=(*window.table).entitled$1;1=+(*window.table).order -/
def slices_SortedFunc_int_window_table_entitled_1_window_table_order (F : Nat) (c : Table) (t : Table) : Option (List Int) := Option.bind (slices_Collect_int_window_table_entitled_1 F c) fun rv => Option.bind (lenO (slices_SortFunc_int_m_window_table_order F rv t) rv) fun rv2 => some rv2
set_option maxHeartbeats 4000000 in
theorem slices_SortedFunc_int_window_table_entitled_1_window_table_order_scr {F : Nat} {c : Table} {t : Table} {r : (List Int)} (h : slices_SortedFunc_int_window_table_entitled_1_window_table_order F c t = some r) : SCR Try.prog 80 [.fn (.func 104) [] [.d (.el 1 (([c]).map (fun x => D.el 22 [Table.d x] 0 0)) ((0 : Int)).toNat 0)], .fn (.func 82) [.d (.el 22 (([t]).map Table.d) ((0 : Int)).toNat 0)] []] [] (.row 0 1 0 (r).length) (List.map some [(lvI r)]) := by
 rw [slices_SortedFunc_int_window_table_entitled_1_window_table_order] at h
 refine SC.of_sw Try.func80 rfl rfl rfl ?_
 simp only [List.map_cons, List.map_nil, argS, Nat.zero_add, Nat.reduceAdd]
 refine sw_seq (sw_rg (r_asgD rfl rfl rfl (ev_end (then_norm (sw_seq (sw_rg (r_movF rfl rfl rfl ?_)))))))
 obtain ⟨rv, hrv, h⟩ := bnd h
 refine r_callX (t' := .row 0 1 0 (rv).length) (news' := [(lvI rv)]) (slices_Collect_int_window_table_entitled_1_scr hrv) rfl ((.row (fun _ => rfl) .nil)) (.of (by kernel_rfl)) rfl rfl ((.cons (.fnC (.cons (.d (.d _)) .nil)) .nil)) rfl ((.row .nil)) rfl rfl rfl ?_
 refine r_asgW rfl rfl rfl (ev_end (then_norm (sw_seq (sw_rg (r_movW rfl rfl rfl (r_movF rfl rfl rfl ?_))))))
 obtain ⟨rv2, hrv2, h⟩ := bnd h
 refine r_callO (t' := .d (.tup [])) (ls := [some (lvI rv2)]) (news := []) ([0]) ([some (lvI rv2)]) (slices_SortFunc_int_m_window_table_order_scr (lenO_eq hrv2).1) (.of (by kernel_rfl)) rfl (.inl ⟨rfl, rfl, rfl⟩) rfl rfl rfl rfl ((.row rfl .nil)) rfl rfl rfl ((.row .nil)) .nil rfl rfl rfl rfl ?_
 first | (dsimp only [WiState_T1, WiState_T2, WiState_T3, Table_T1]; rw [← (lenO_eq hrv2).2]) | rw [← (lenO_eq hrv2).2] | skip
 refine ev_end (then_norm (sw_seq (sw_rg (r_movW rfl rfl rfl (r_asgW rfl rfl rfl (ev_end (then_norm (sw_ret ?_))))))))
 obtain rfl := Option.some.inj h
 exact (fin_S (t := .row 0 1 0 (rv2).length) (L := [some (lvI rv2)]) (κ := [0]) rfl (.cons (.tmp 4) .nil) (vwK rfl rfl (.row rfl .nil) (.cons rfl rfl .nil)) ⟨rfl, rfl⟩)
/-- (*window.table).rights -/
def window_table_rights (F : Nat) (b : Table) : Option (List Int) := Option.bind (window_table_entitled F b) fun rv => Option.bind (slices_SortedFunc_int_window_table_entitled_1_window_table_order F rv b) fun rv2 => some rv2
set_option maxHeartbeats 4000000 in
theorem window_table_rights_scr {F : Nat} {b : Table} {r : (List Int)} (h : window_table_rights F b = some r) : SCR Try.prog 63 (List.map T.d [.el 22 (([b]).map Table.d) ((0 : Int)).toNat 0]) [] (.row 0 1 0 (r).length) (List.map some [(lvI r)]) := by
 rw [window_table_rights] at h
 refine SC.of_sw Try.func63 rfl rfl rfl ?_
 simp only [List.map_cons, List.map_nil, argS, Nat.zero_add, Nat.reduceAdd]
 refine sw_seq (sw_rg (r_asgD rfl rfl rfl (ev_end (then_norm (sw_seq (sw_rg (r_movD rfl rfl rfl ?_)))))))
 obtain ⟨rv, hrv, h⟩ := bnd h
 refine r_callN (t' := .fn (.func 104) [] [.ref 0 1 0 0]) (news' := [⟨1, [.d (.el 22 (([rv]).map Table.d) ((0 : Int)).toNat 0)]⟩]) (window_table_entitled_scr hrv) (.of (by kernel_rfl)) rfl rfl rfl ((.cons rfl .nil)) rfl rfl rfl (r_movD rfl rfl rfl (r_func rfl rfl rfl rfl ?_))
 obtain ⟨rv2, hrv2, h⟩ := bnd h
 refine r_callX (t' := .row 1 1 0 (rv2).length) (news' := [(lvI rv2)]) (slices_SortedFunc_int_window_table_entitled_1_window_table_order_scr hrv2) rfl ((.row (fun _ => rfl) .nil)) (.of (by kernel_rfl)) rfl rfl ((.cons (.fnC (.cons (.d (.ref rfl (.d _))) .nil)) (.cons (.fnF (.cons (.d (.d _)) .nil) .nil) .nil))) rfl ((.row .nil)) rfl rfl rfl ?_
 refine r_asgW rfl rfl rfl (ev_end (then_norm (sw_ret ?_)))
 obtain rfl := Option.some.inj h
 exact (fin_S (t := .row 0 1 0 (rv2).length) (L := [some (lvI rv2)]) (κ := [1]) rfl (.cons (.tmp 2) .nil) (vwK rfl rfl (.row rfl .nil) (.cons rfl rfl .nil)) ⟨rfl, rfl⟩)
theorem window_table_rights_pc {F : Nat} {b : Table} {r : (List Int)} (h : window_table_rights F b = some r) : PC Try.prog 63 [.el 22 (([b]).map Table.d) ((0 : Int)).toNat 0] (.arr 1 ((r).map vI)) := (window_table_rights_scr h).toPC (.row rfl rfl)
/-- (*window.table).turn -/
def window_table_turn (F : Nat) (b : Table) : Option Int := if 0 ≤ b.given then (some b.given) else (if b.over = true then (some b.given) else (Option.bind (window_table_rights F b) fun rv => if 0 < (rv.length : Int) then (Option.bind (ixO rv 0) fun e => some e) else (some (-1))))
set_option maxHeartbeats 4000000 in
theorem window_table_turn_pc {F : Nat} {b : Table} {r : Int} (h : window_table_turn F b = some r) : PC Try.prog 59 [.el 22 (([b]).map Table.d) ((0 : Int)).toNat 0] (.v (.int .i64 r)) := by
 rw [window_table_turn] at h
 refine SC.of_sw Try.func59 rfl rfl rfl ?_
 simp only [List.map_cons, List.map_nil, argS, Nat.zero_add, Nat.reduceAdd]
 refine sw_seq (sw_rg (r_asgD rfl rfl rfl (ev_end (then_norm (sw_seq (sw_seq (sw_rg (r_movD rfl rfl rfl (r_nilEl rfl rfl rfl (r_faE tb rfl rfl rfl rfl rfl rfl rfl (r_ldE (y := .v (.int .i64 b.given)) tb rfl rfl (ix2 (g := Table.d) (rfl : ixO [b] 0 = some b)) rfl rfl rfl rfl ?_)))))))))))
 refine r_geq rfl rfl rfl rfl ?_ ?_
 ·intro c
  replace h := ifP c h
  refine r_movD rfl rfl rfl (r_skip rfl rfl rfl (r_skip rfl rfl rfl (r_skip rfl rfl rfl (r_skip rfl rfl rfl (r_pickT rfl rfl rfl rfl (ev_end (then_norm (sw_condT rfl (sw_seq (sw_rg (r_movD rfl rfl rfl (r_nilEl rfl rfl rfl (r_faE tb rfl rfl rfl rfl rfl rfl rfl (r_ldE (y := .v (.int .i64 b.given)) tb rfl rfl (ix2 (g := Table.d) (rfl : ixO [b] 0 = some b)) rfl rfl rfl rfl (r_asgD rfl rfl rfl (ev_end (then_norm (sw_ret (then_ret ?_)))))))))))))))))))
  obtain rfl := Option.some.inj h
  exact fin_0 (t := .d (.v (.int .i64 b.given))) rfl rfl rfl (.cons (.tmp 2) .nil)
 intro c
 replace h := ifN (Int.not_le.2 c) h
 refine r_movD rfl rfl rfl (r_movD rfl rfl rfl (r_nilEl rfl rfl rfl (r_faE tb rfl rfl rfl rfl rfl rfl rfl (r_ldE (y := .v (.bool b.over)) tb rfl rfl (ix2 (g := Table.d) (rfl : ixO [b] 0 = some b)) rfl rfl rfl rfl ?_))))
 with_reducible apply ev_lit
 ·intro c2
  replace h := ifP c2 h
  refine r_pickF rfl rfl rfl rfl (ev_end (then_norm (sw_condT rfl (sw_seq (sw_rg (r_movD rfl rfl rfl (r_nilEl rfl rfl rfl (r_faE tb rfl rfl rfl rfl rfl rfl rfl (r_ldE (y := .v (.int .i64 b.given)) tb rfl rfl (ix2 (g := Table.d) (rfl : ixO [b] 0 = some b)) rfl rfl rfl rfl (r_asgD rfl rfl rfl (ev_end (then_norm (sw_ret (then_ret ?_))))))))))))))
  obtain rfl := Option.some.inj h
  exact fin_0 (t := .d (.v (.int .i64 b.given))) rfl rfl rfl (.cons (.tmp 2) .nil)
 intro c2
 replace h := ifF c2 h
 refine r_pickF rfl rfl rfl rfl (ev_end (then_norm (sw_condF rfl (sw_skip (then_norm (sw_seq (sw_seq (sw_rg (r_movD rfl rfl rfl ?_)))))))))
 obtain ⟨rv, hrv, h⟩ := bnd h
 refine r_callN (t' := .row 0 1 0 (rv).length) (news' := [(lvI rv)]) (window_table_rights_scr hrv) (.of (by kernel_rfl)) rfl rfl rfl ((.row .nil)) rfl rfl rfl (r_asgW rfl rfl rfl (ev_end (then_norm (sw_seq (sw_rg (r_movW rfl rfl rfl (r_lenR tb rfl rfl rfl rfl rfl ?_)))))))
 refine r_gtr rfl rfl rfl rfl ?_ ?_
 ·intro c3
  replace h := ifP c3 h
  refine ev_end (then_norm (sw_condT rfl (sw_seq (sw_rg (r_movW rfl rfl rfl ?_)))))
  obtain ⟨e, ie, h⟩ := bnd h
  refine r_ixI tb rfl rfl rfl rfl rfl rfl (ix0 ie) (ix1 ie) rfl rfl ?_
  refine r_ldD (y := .v (.int .i64 e)) tb rfl rfl rfl rfl (ix2 (g := fun a => T.d (vI a)) ie) rfl rfl rfl rfl ?_
  refine r_asgD rfl rfl rfl (ev_end (then_norm (sw_ret (then_ret ?_))))
  obtain rfl := Option.some.inj h
  exact fin_0 (t := .d (.v (.int .i64 e))) rfl rfl rfl (.cons (.tmp 2) .nil)
 intro c3
 replace h := ifN (Int.not_lt.2 c3) h
 refine ev_end (then_norm (sw_condF rfl (sw_skip (then_norm (sw_seq (sw_rg (r_asgD rfl rfl rfl (ev_end (then_norm (sw_ret ?_))))))))))
 obtain rfl := Option.some.inj h
 exact fin_0 (t := .d (.v (.int .i64 (-1)))) rfl rfl rfl (.cons (.tmp 2) .nil)
/-- window.Rights -/
def window_Rights (F : Nat) (p : WiPlan) (s : WiState) (sky : WiSky) (minute : Int) : Option ((List Int) × Int) := Option.bind (window_at F p s sky minute) fun rv => optE rv.1 (if rv.2 = 0 then (none) else (some (([] : List Int), rv.2))) (fun t => if rv.2 = 0 then (Option.bind (window_table_rights F t) fun rv2 => some (rv2, 0)) else (some (([] : List Int), rv.2)))
set_option maxHeartbeats 4000000 in
theorem window_Rights_scr {F : Nat} {p : WiPlan} {s : WiState} {sky : WiSky} {minute : Int} {r : ((List Int) × Int)} (h : window_Rights F p s sky minute = some r) : SCR Try.prog 30 (List.map T.d [WiPlan.d p, WiState.d s, WiSky.d sky, .v (.int .i64 minute)]) [] (.tup [.row 0 1 0 (r.1).length, .d (.v (.int .i64 r.2))]) (List.map some [(lvI r.1)]) := by
 rw [window_Rights] at h
 refine SC.of_sw Try.func30 rfl rfl rfl ?_
 simp only [List.map_cons, List.map_nil, argS, Nat.zero_add, Nat.reduceAdd]
 refine sw_seq (sw_rg (r_box rfl rfl rfl rfl rfl rfl rfl (r_box rfl rfl rfl rfl rfl rfl rfl (r_box rfl rfl rfl rfl rfl rfl rfl (r_asgD rfl rfl rfl (r_asgD rfl rfl rfl (ev_end (then_norm (sw_seq (sw_rg (r_ldD (y := WiPlan.d p) tb rfl rfl rfl rfl rfl rfl rfl rfl rfl (r_ldD (y := WiState.d s) tb rfl rfl rfl rfl rfl rfl rfl rfl rfl (r_ldD (y := WiSky.d sky) tb rfl rfl rfl rfl rfl rfl rfl rfl rfl (r_movD rfl rfl rfl ?_))))))))))))))
 obtain ⟨rv, hrv, h⟩ := bnd h
 rcases Option.eq_none_or_eq_some rv.1 with nv | ⟨t, nv⟩
 ·replace h := (optN nv).symm.trans h
  refine r_callO (t' := .d (.tup [.v (.pointer none), .v (.int .i64 rv.2)])) (ls := []) (news := []) ([]) ([some ⟨4, [.d (WiPlan.d p)]⟩, some ⟨4, [.d (WiState.d s)]⟩, some ⟨2, [.d (WiSky.d sky)]⟩]) ((window_at_sco hrv).none nv) (.of (by kernel_rfl)) rfl (.inl ⟨rfl, rfl, rfl⟩) rfl rfl rfl rfl .nil rfl rfl rfl .nil .nil rfl rfl rfl rfl (r_movD rfl rfl rfl (r_extD (t := .v (.pointer none)) rfl rfl rfl rfl (r_extD (t := .v (.int .i64 rv.2)) rfl rfl rfl rfl (r_asgD rfl rfl rfl (r_asgD rfl rfl rfl (ev_end (then_norm (sw_seq (sw_seq (sw_rg (r_movD rfl rfl rfl ?_)))))))))))
  refine r_neq rfl rfl rfl rfl ?_ ?_
  ·intro c
   replace h := ifN c h
   refine ev_end (then_norm (sw_condT rfl (sw_seq (sw_rg (r_movD rfl rfl rfl (r_asgD rfl rfl rfl (r_asgD rfl rfl rfl (ev_end (then_norm ?_)))))))))
   refine SW.own (ts' := [(8, .row 3 1 0 (([] : List Int)).length), (9, .d (.v (.int .i64 rv.2)))]) (L' := [some ⟨4, [.d (WiPlan.d p)]⟩, some ⟨4, [.d (WiState.d s)]⟩, some ⟨2, [.d (WiSky.d sky)]⟩]) 1 rfl rfl (.cons .nil (.cons (.same _) .nil)) (.same (.same (.same .nil))) ?_
   simp only [List.cons_append, List.nil_append]
   refine sw_ret (then_ret ?_)
   obtain rfl := Option.some.inj h
   exact (fin_S (t := .tup [.row 0 1 0 (([] : List Int)).length, .d (.v (.int .i64 rv.2))]) (L := [some (lvI ([] : List Int))]) (κ := [3]) rfl (.cons (.tmp 8) (.cons (.tmp 9) .nil)) (vwK rfl rfl (.row rfl .nil) (.cons rfl rfl .nil)) ⟨rfl, rfl⟩)
  intro c
  replace h := ifP c h
  cases h
 replace h := (optS nv).symm.trans h
 refine r_callO (t' := .tup [.ref 3 22 0 0, .d (.v (.int .i64 rv.2))]) (ls := []) (news := [⟨22, [Table_T1 t 1 2 3 4]⟩, (lvI t.s_Used), (lvI t.s_Credit), (lvI t.s_Last), (m1w t.done)]) ([]) ([some ⟨4, [.d (WiPlan.d p)]⟩, some ⟨4, [.d (WiState.d s)]⟩, some ⟨2, [.d (WiSky.d sky)]⟩, some ⟨22, [Table_T1 t 4 5 6 7]⟩, some (lvI t.s_Used), some (lvI t.s_Credit), some (lvI t.s_Last), some (m1w t.done)]) ((window_at_sco hrv).some nv) (.of (by kernel_rfl)) rfl (.inl ⟨rfl, rfl, rfl⟩) rfl rfl rfl rfl .nil rfl rfl rfl .nil ((.cons rfl (.row (.row (.row (.map .nil)))))) rfl rfl rfl rfl ?_
 refine r_movT (.tup [.ref 3 22 0 0, .d (.v (.int .i64 rv.2))]) rfl rfl rfl (r_ext (t := .ref 3 22 0 0) rfl rfl rfl rfl (r_ext (t := .d (.v (.int .i64 rv.2))) rfl rfl rfl rfl (r_asgR rfl rfl rfl (r_asgD rfl rfl rfl (ev_end (then_norm (sw_seq (sw_seq (sw_rg (r_movD rfl rfl rfl ?_))))))))))
 refine r_neq rfl rfl rfl rfl ?_ ?_
 ·intro c2
  replace h := ifN c2 h
  refine ev_end (then_norm (sw_condT rfl (sw_seq (sw_rg (r_movD rfl rfl rfl (r_asgD rfl rfl rfl (r_asgD rfl rfl rfl (ev_end (then_norm ?_)))))))))
  refine SW.own (ts' := [(8, .row 8 1 0 (([] : List Int)).length), (9, .d (.v (.int .i64 rv.2)))]) (L' := [some ⟨4, [.d (WiPlan.d p)]⟩, some ⟨4, [.d (WiState.d s)]⟩, some ⟨2, [.d (WiSky.d sky)]⟩, some ⟨22, [Table_T1 t 4 5 6 7]⟩, some (lvI t.s_Used), some (lvI t.s_Credit), some (lvI t.s_Last), some (m1w t.done)]) 1 rfl rfl (.cons .nil (.cons (.same _) .nil)) (.same (.same (.same (.same (.same (.same (.same (.same .nil)))))))) ?_
  simp only [List.cons_append, List.nil_append]
  refine sw_ret (then_ret ?_)
  obtain rfl := Option.some.inj h
  exact (fin_S (t := .tup [.row 0 1 0 (([] : List Int)).length, .d (.v (.int .i64 rv.2))]) (L := [some (lvI ([] : List Int))]) (κ := [8]) rfl (.cons (.tmp 8) (.cons (.tmp 9) .nil)) (vwK rfl rfl (.row rfl .nil) (.cons rfl rfl .nil)) ⟨rfl, rfl⟩)
 intro c2
 replace h := ifP c2 h
 refine ev_end (then_norm (sw_condF rfl (sw_skip (then_norm (sw_seq (sw_rg (r_movR rfl rfl rfl ?_)))))))
 obtain ⟨rv2, hrv2, h⟩ := bnd h
 refine r_callLN (t' := .row 8 1 0 (rv2).length) (news' := [(lvI rv2)]) (window_table_rights_scr hrv2) rfl ((.row (fun _ => rfl) .nil)) (.of (by kernel_rfl)) rfl rfl ((.cons (.ref rfl (.aggL (.cons (.d _) (.cons (.d _) (.cons (.d _) (.cons (.d _) (.cons (.row rfl rfl) (.cons (.row rfl rfl) (.cons (.row rfl rfl) (.cons (.d _) (.cons (.d _) (.cons (.d _) (.cons (.d _) (.cons (.d _) (.cons (.d _) (.cons (.d _) (.cons (.mpM rfl) (.cons (.d _) (.cons (.d _) (.cons (.d _) (.cons (.d _) (.cons (.d _) (.cons (.d _) (.cons (.d _) .nil)))))))))))))))))))))))) .nil)) rfl ((.row .nil)) rfl rfl rfl ?_
 refine r_asgW rfl rfl rfl (r_asgD rfl rfl rfl (ev_end (then_norm (sw_ret ?_))))
 obtain rfl := Option.some.inj h
 exact (fin_S (t := .tup [.row 0 1 0 (rv2).length, .d (.v (.int .i64 0))]) (L := [some (lvI rv2)]) (κ := [8]) rfl (.cons (.tmp 8) (.cons (.tmp 9) .nil)) (vwK rfl rfl (.row rfl .nil) (.cons rfl rfl .nil)) ⟨rfl, rfl⟩)
theorem window_Rights_pc {F : Nat} {p : WiPlan} {s : WiState} {sky : WiSky} {minute : Int} {r : ((List Int) × Int)} (h : window_Rights F p s sky minute = some r) : PC Try.prog 30 [WiPlan.d p, WiState.d s, WiSky.d sky, .v (.int .i64 minute)] (.tup [.arr 1 ((r.1).map vI), .v (.int .i64 r.2)]) := (window_Rights_scr h).toPC (.tupL (.cons (.row rfl rfl) (.cons (.d _) .nil)))
/-- (*window.table).receivers -/
def window_table_receivers (F : Nat) (b : Table) : Option (Option (List Int)) := Option.bind (window_table_turn F b) fun rv => if rv < 0 then (some none) else (if 0 ≤ b.given then (some none) else (Option.bind (window_table_rights F b) fun rv2 => if rv2.length = 0 then none else if rv2.length = 1 then (some none) else (some (some rv2))))
set_option maxHeartbeats 4000000 in
theorem window_table_receivers_sco {F : Nat} {b : Table} {r : (Option (List Int))} (h : window_table_receivers F b = some r) : SCO Try.prog 64 (List.map T.d [.el 22 (([b]).map Table.d) ((0 : Int)).toNat 0]) [] r (.d (.arr 1 ((([] : List Int)).map vI))) (List.map some []) (fun (tt : (List Int)) => .row 0 1 1 ((tt).length - 1)) (fun (tt : (List Int)) => List.map some [(lvI tt)]) := by
 rw [window_table_receivers] at h
 refine SC.of_sw Try.func64 rfl rfl rfl ?_
 simp only [List.map_cons, List.map_nil, argS, Nat.zero_add, Nat.reduceAdd]
 refine sw_seq (sw_rg (r_asgD rfl rfl rfl (ev_end (then_norm (sw_seq (sw_seq (sw_rg (r_movD rfl rfl rfl ?_))))))))
 obtain ⟨rv, hrv, h⟩ := bnd h
 refine r_call (window_table_turn_pc hrv) (.of (by kernel_rfl)) rfl rfl rfl rfl ?_
 refine r_lss rfl rfl rfl rfl ?_ ?_
 ·intro c
  replace h := ifP c h
  refine r_movD rfl rfl rfl (r_skip rfl rfl rfl (r_skip rfl rfl rfl (r_skip rfl rfl rfl (r_skip rfl rfl rfl (r_skip rfl rfl rfl (r_pickT rfl rfl rfl rfl (ev_end (then_norm (sw_condT rfl (sw_seq (sw_rg (r_asgD rfl rfl rfl (ev_end (then_norm ?_))))))))))))))
  refine SW.unraw 2 1 rfl ?_
  refine sw_ret (then_ret ?_)
  obtain rfl := Option.some.inj h
  exact (fin_S (t := .d (.arr 1 ((([] : List Int)).map vI))) (L := []) (κ := []) rfl (.cons (.tmp 2) .nil) (vwK rfl rfl .nil (.cons rfl rfl .nil)) (.inl ⟨rfl, rfl, rfl⟩))
 intro c
 replace h := ifN (Int.not_lt.2 c) h
 refine r_movD rfl rfl rfl (r_movD rfl rfl rfl (r_nilEl rfl rfl rfl (r_faE tb rfl rfl rfl rfl rfl rfl rfl (r_ldE (y := .v (.int .i64 b.given)) tb rfl rfl (ix2 (g := Table.d) (rfl : ixO [b] 0 = some b)) rfl rfl rfl rfl ?_))))
 refine r_geq rfl rfl rfl rfl ?_ ?_
 ·intro c2
  replace h := ifP c2 h
  refine r_pickF rfl rfl rfl rfl (ev_end (then_norm (sw_condT rfl (sw_seq (sw_rg (r_asgD rfl rfl rfl (ev_end (then_norm ?_))))))))
  refine SW.unraw 2 1 rfl ?_
  refine sw_ret (then_ret ?_)
  obtain rfl := Option.some.inj h
  exact (fin_S (t := .d (.arr 1 ((([] : List Int)).map vI))) (L := []) (κ := []) rfl (.cons (.tmp 2) .nil) (vwK rfl rfl .nil (.cons rfl rfl .nil)) (.inl ⟨rfl, rfl, rfl⟩))
 intro c2
 replace h := ifN (Int.not_le.2 c2) h
 refine r_pickF rfl rfl rfl rfl (ev_end (then_norm (sw_condF rfl (sw_skip (then_norm (sw_seq (sw_rg (r_movD rfl rfl rfl ?_))))))))
 obtain ⟨rv2, hrv2, h⟩ := bnd h
 refine r_callN (t' := .row 0 1 0 (rv2).length) (news' := [(lvI rv2)]) (window_table_rights_scr hrv2) (.of (by kernel_rfl)) rfl rfl rfl ((.row .nil)) rfl rfl rfl ?_
 by_cases c3 : rv2.length = 0
 ·cases (if_pos c3).symm.trans h
 replace h := ifN c3 h
 by_cases c4 : rv2.length = 1
 ·replace h := ifP c4 h
  refine r_slRowE (p := 1) tb rfl rfl rfl rfl rfl rfl c4 rfl rfl ?_
  refine r_asgD rfl rfl rfl (ev_end (then_norm (sw_ret ?_)))
  obtain rfl := Option.some.inj h
  exact (fin_S (t := .d (.arr 1 ((([] : List Int)).map vI))) (L := []) (κ := []) rfl (.cons (.tmp 2) .nil) (vwK rfl rfl .nil (.cons rfl rfl .nil)) (.inl ⟨rfl, rfl, rfl⟩))
 replace h := ifN c4 h
 refine r_slRow (p := 1) tb rfl rfl rfl rfl rfl rfl (by omega) rfl rfl ?_
 refine r_asgW rfl rfl rfl (ev_end (then_norm (sw_ret ?_)))
 obtain rfl := Option.some.inj h
 exact (fin_S (t := .row 0 1 1 ((rv2).length - 1)) (L := [some (lvI rv2)]) (κ := [0]) rfl (.cons (.tmp 2) .nil) (vwK rfl rfl (.row rfl .nil) (.cons rfl rfl .nil)) (.inr ⟨_, rfl, rfl, rfl⟩))
/-- window.must -/
def window_must (F : Nat) (is : Bool) (e : Int) : Option (Except Int Unit) := if is = true then (some (.ok ())) else (some (.error e))
set_option maxHeartbeats 4000000 in
theorem window_must_scx {F : Nat} {is : Bool} {e : Int} {r : (Except Int Unit)} (h : window_must F is e = some r) : SCX Try.prog 98 [.d (.v (.bool is)), .d (.v (.int .i64 e))] [] r 29 (fun (a : Unit) => .d (.tup [])) (fun (a : Unit) => []) := by
 rw [window_must] at h
 refine SC.of_sw Try.func98 rfl rfl rfl ?_
 simp only [List.map_cons, List.map_nil, argS, Nat.zero_add, Nat.reduceAdd]
 refine sw_seq (sw_rg (r_movD rfl rfl rfl ?_))
 with_reducible apply ev_lit
 ·intro c
  replace h := ifP c h
  refine r_notT rfl rfl rfl (ev_end (then_norm (sw_condF rfl (sw_skip ?_))))
  obtain rfl := Option.some.inj h
  exact fin_n (fin_S (t := .d (.tup [])) (L := []) (κ := []) rfl .nil (vwK rfl rfl .nil (.cons rfl rfl .nil)) (.inl ⟨_, rfl, rfl, rfl⟩))
 intro c
 replace h := ifF c h
 refine r_notF rfl rfl rfl (ev_end (then_norm (sw_condT rfl (sw_rgP (r_movD rfl rfl rfl (r_iface tb rfl rfl rfl rfl rfl (ev_pan ?_)))))))
 (with_reducible apply op_panicD); (iterate 2 exact rfl)
 obtain rfl := Option.some.inj h
 exact fin_pX (L := []) (κ := []) (vwK rfl rfl .nil .nil) (.inr ⟨_, rfl, rfl⟩)
/-- (*window.table).scrub!0 -/
def window_table_scrub_m (F : Nat) (b : Table) (t : Int) (x : WiTurn) : Option (Except Int Table) := if x.to_ = 0 then (Option.bind (window_out F x.at_ b.minute b.w_Until) fun rv => Option.bind (window_must F (!rv) 7) fun rv2 => exE rv2 (fun x2 => some (.error x2)) (fun v => some (.ok {b with minute := x.at_, done := (mset b.done t true), given := (-1)}))) else (Option.bind (window_must F false 7) fun rv3 => exE rv3 (fun x3 => some (.error x3)) (fun v2 => some (.ok {b with minute := x.at_, done := (mset b.done t true), given := (-1)})))
set_option maxHeartbeats 4000000 in
theorem window_table_scrub_m_scx {F : Nat} {b : Table} {t : Int} {x : WiTurn} {r : (Except Int Table)} (h : window_table_scrub_m F b t x = some r) : SCX Try.prog 100 [.ref 0 22 0 0, .d (.v (.int .i64 t)), .d (WiTurn.d x)] [some ⟨22, [Table_T1 b 1 2 3 4]⟩, some (lvI b.s_Used), some (lvI b.s_Credit), some (lvI b.s_Last), some (m1w b.done)] r 29 (fun (a : Table) => .d (.tup [])) (fun (a : Table) => [some ⟨22, [Table_T1 a 1 2 3 4]⟩, some (lvI a.s_Used), some (lvI a.s_Credit), some (lvI a.s_Last), some (m1w a.done)]) := by
 rw [window_table_scrub_m] at h
 refine SC.of_sw Try.func100 rfl rfl rfl ?_
 simp only [List.map_cons, List.map_nil, argS, Nat.zero_add, Nat.reduceAdd]
 refine sw_seq (sw_rg (r_box rfl rfl rfl rfl rfl rfl rfl (ev_end (then_norm (sw_seq (sw_drP (by kernel_rfl) (r_fa tb rfl rfl rfl rfl rfl rfl rfl (r_ldD (y := .v (.int .i64 x.to_)) tb rfl rfl rfl rfl rfl rfl rfl rfl rfl ?_))))))))
 refine r_eql rfl rfl rfl rfl ?_ ?_
 ·intro c
  replace h := ifP c h
  refine r_movD rfl rfl rfl (r_fa tb rfl rfl rfl rfl rfl rfl rfl (r_ldD (y := .v (.int .i64 x.at_)) tb rfl rfl rfl rfl rfl rfl rfl rfl rfl (r_movR rfl rfl rfl (r_nilRef rfl rfl rfl (r_fa tb rfl rfl rfl rfl rfl rfl rfl (r_ldD (y := .v (.int .i64 b.minute)) tb rfl rfl rfl rfl rfl rfl rfl rfl rfl (r_movR rfl rfl rfl (r_nilRef rfl rfl rfl (r_fa tb rfl rfl rfl rfl rfl rfl rfl (r_fa tb rfl rfl rfl rfl rfl rfl rfl (r_ldD (y := .v (.int .i64 b.w_Until)) tb rfl rfl rfl rfl rfl rfl rfl rfl rfl ?_)))))))))))
  obtain ⟨rv, hrv, h⟩ := bnd h
  refine r_call (window_out_pc hrv) (.of (by kernel_rfl)) rfl rfl rfl rfl (r_not rfl rfl rfl (r_pickT rfl rfl rfl rfl ?_))
  obtain ⟨rv2, hrv2, h⟩ := bnd h
  rcases ex_or rv2 with ⟨x2, nv⟩ | ⟨v, nv⟩
  ·replace h := (exN nv).symm.trans h
   refine ev_panD (by kernel_rfl) (by kernel_rfl) ?_
   (with_reducible apply op_call []); exact (window_must_scx hrv2).err nv; exact rfl; exact .of (by kernel_rfl); exact rfl; exact .inl ⟨rfl, rfl, rfl⟩; (iterate 4 exact rfl); exact .nil; exact rfl
   intro cnt
   refine then_pan ?_
   obtain rfl := Option.some.inj h
   exact fin_pX (L := [some ⟨22, [Table_T1 b 1 2 3 4]⟩, some (lvI b.s_Used), some (lvI b.s_Credit), some (lvI b.s_Last), some (m1w b.done)]) (κ := [0, 1, 2, 3, 4]) (vwK rfl rfl (.cons rfl rfl (.row rfl (.row rfl (.row rfl (.map rfl .nil))))) .nil) (.inr ⟨_, rfl, rfl⟩)
  replace h := (exO nv).symm.trans h
  refine r_callO (t' := .d (.tup [])) (ls := []) (news := []) ([]) ([some ⟨22, [Table_T1 b 1 2 3 4]⟩, some (lvI b.s_Used), some (lvI b.s_Credit), some (lvI b.s_Last), some (m1w b.done), some ⟨3, [.d (WiTurn.d x)]⟩]) ((window_must_scx hrv2).ok nv) (.of (by kernel_rfl)) rfl (.inl ⟨rfl, rfl, rfl⟩) rfl rfl rfl rfl .nil rfl rfl rfl .nil .nil rfl rfl rfl rfl (ev_endPD (by kernel_rfl) (then_norm (sw_seq (sw_rg (r_movR rfl rfl rfl (r_nilRef rfl rfl rfl (r_fa tb rfl rfl rfl rfl rfl rfl rfl (r_ldT (.mp 4) tb rfl rfl rfl rfl rfl rfl rfl rfl rfl (r_movD rfl rfl rfl ?_)))))))))
  refine r_mset (vf := fun b => .v (.bool b)) (v := true) (q := (mset b.done t true)) ([some ⟨22, [Table_T1 {b with done := (mset b.done t true)} 1 2 3 4]⟩, some (lvI b.s_Used), some (lvI b.s_Credit), some (lvI b.s_Last), some (m1w (mset b.done t true)), some ⟨3, [.d (WiTurn.d x)]⟩]) rfl rfl rfl rfl rfl rfl rfl rfl rfl ?_
  refine ev_end (then_norm (sw_dr (by kernel_rfl) (r_movR rfl rfl rfl (r_movR rfl rfl rfl (r_fa tb rfl rfl rfl rfl rfl rfl rfl (r_ldD (y := .v (.int .i64 x.at_)) tb rfl rfl rfl rfl rfl rfl rfl rfl rfl (r_nilRef rfl rfl rfl (r_fa tb rfl rfl rfl rfl rfl rfl rfl (r_stE _ ([some ⟨22, [Table_T1 {b with done := (mset b.done t true), given := (-1)} 1 2 3 4]⟩, some (lvI b.s_Used), some (lvI b.s_Credit), some (lvI b.s_Last), some (m1w (mset b.done t true)), some ⟨3, [.d (WiTurn.d x)]⟩]) tb rfl rfl rfl rfl rfl rfl rfl rfl rfl rfl rfl rfl (r_nilRef rfl rfl rfl ?_))))))))))
  refine r_fa tb rfl rfl rfl rfl rfl rfl rfl (r_stE _ ([some ⟨22, [Table_T1 {b with minute := x.at_, done := (mset b.done t true), given := (-1)} 1 2 3 4]⟩, some (lvI b.s_Used), some (lvI b.s_Credit), some (lvI b.s_Last), some (m1w (mset b.done t true)), some ⟨3, [.d (WiTurn.d x)]⟩]) tb rfl rfl rfl rfl rfl rfl rfl rfl rfl rfl rfl rfl (ev_endD (by kernel_rfl) ?_))
  obtain rfl := Option.some.inj h
  exact fin_n (fin_S (t := .d (.tup [])) (L := [some ⟨22, [Table_T1 {b with minute := x.at_, done := (mset b.done t true), given := (-1)} 1 2 3 4]⟩, some (lvI b.s_Used), some (lvI b.s_Credit), some (lvI b.s_Last), some (m1w (mset b.done t true))]) (κ := [0, 1, 2, 3, 4]) rfl .nil (vwK rfl rfl (.cons rfl rfl (.row rfl (.row rfl (.row rfl (.map rfl .nil))))) (.cons rfl rfl .nil)) (.inl ⟨_, rfl, rfl, rfl⟩))
 intro c
 replace h := ifN c h
 refine r_movD rfl rfl rfl (r_skip rfl rfl rfl (r_skip rfl rfl rfl (r_skip rfl rfl rfl (r_skip rfl rfl rfl (r_skip rfl rfl rfl (r_skip rfl rfl rfl (r_skip rfl rfl rfl (r_skip rfl rfl rfl (r_skip rfl rfl rfl (r_skip rfl rfl rfl (r_skip rfl rfl rfl (r_skip rfl rfl rfl (r_skip rfl rfl rfl (r_pickF rfl rfl rfl rfl ?_))))))))))))))
 obtain ⟨rv3, hrv3, h⟩ := bnd h
 rcases ex_or rv3 with ⟨x3, nv2⟩ | ⟨v2, nv2⟩
 ·replace h := (exN nv2).symm.trans h
  refine ev_panD (by kernel_rfl) (by kernel_rfl) ?_
  (with_reducible apply op_call []); exact (window_must_scx hrv3).err nv2; exact rfl; exact .of (by kernel_rfl); exact rfl; exact .inl ⟨rfl, rfl, rfl⟩; (iterate 4 exact rfl); exact .nil; exact rfl
  intro cnt
  refine then_pan ?_
  obtain rfl := Option.some.inj h
  exact fin_pX (L := [some ⟨22, [Table_T1 b 1 2 3 4]⟩, some (lvI b.s_Used), some (lvI b.s_Credit), some (lvI b.s_Last), some (m1w b.done)]) (κ := [0, 1, 2, 3, 4]) (vwK rfl rfl (.cons rfl rfl (.row rfl (.row rfl (.row rfl (.map rfl .nil))))) .nil) (.inr ⟨_, rfl, rfl⟩)
 replace h := (exO nv2).symm.trans h
 refine r_callO (t' := .d (.tup [])) (ls := []) (news := []) ([]) ([some ⟨22, [Table_T1 b 1 2 3 4]⟩, some (lvI b.s_Used), some (lvI b.s_Credit), some (lvI b.s_Last), some (m1w b.done), some ⟨3, [.d (WiTurn.d x)]⟩]) ((window_must_scx hrv3).ok nv2) (.of (by kernel_rfl)) rfl (.inl ⟨rfl, rfl, rfl⟩) rfl rfl rfl rfl .nil rfl rfl rfl .nil .nil rfl rfl rfl rfl (ev_endPD (by kernel_rfl) (then_norm (sw_seq (sw_rg (r_movR rfl rfl rfl (r_nilRef rfl rfl rfl (r_fa tb rfl rfl rfl rfl rfl rfl rfl (r_ldT (.mp 4) tb rfl rfl rfl rfl rfl rfl rfl rfl rfl (r_movD rfl rfl rfl ?_)))))))))
 refine r_mset (vf := fun b => .v (.bool b)) (v := true) (q := (mset b.done t true)) ([some ⟨22, [Table_T1 {b with done := (mset b.done t true)} 1 2 3 4]⟩, some (lvI b.s_Used), some (lvI b.s_Credit), some (lvI b.s_Last), some (m1w (mset b.done t true)), some ⟨3, [.d (WiTurn.d x)]⟩]) rfl rfl rfl rfl rfl rfl rfl rfl rfl ?_
 refine ev_end (then_norm (sw_dr (by kernel_rfl) (r_movR rfl rfl rfl (r_movR rfl rfl rfl (r_fa tb rfl rfl rfl rfl rfl rfl rfl (r_ldD (y := .v (.int .i64 x.at_)) tb rfl rfl rfl rfl rfl rfl rfl rfl rfl (r_nilRef rfl rfl rfl (r_fa tb rfl rfl rfl rfl rfl rfl rfl (r_stE _ ([some ⟨22, [Table_T1 {b with done := (mset b.done t true), given := (-1)} 1 2 3 4]⟩, some (lvI b.s_Used), some (lvI b.s_Credit), some (lvI b.s_Last), some (m1w (mset b.done t true)), some ⟨3, [.d (WiTurn.d x)]⟩]) tb rfl rfl rfl rfl rfl rfl rfl rfl rfl rfl rfl rfl (r_nilRef rfl rfl rfl ?_))))))))))
 refine r_fa tb rfl rfl rfl rfl rfl rfl rfl (r_stE _ ([some ⟨22, [Table_T1 {b with minute := x.at_, done := (mset b.done t true), given := (-1)} 1 2 3 4]⟩, some (lvI b.s_Used), some (lvI b.s_Credit), some (lvI b.s_Last), some (m1w (mset b.done t true)), some ⟨3, [.d (WiTurn.d x)]⟩]) tb rfl rfl rfl rfl rfl rfl rfl rfl rfl rfl rfl rfl (ev_endD (by kernel_rfl) ?_))
 obtain rfl := Option.some.inj h
 exact fin_n (fin_S (t := .d (.tup [])) (L := [some ⟨22, [Table_T1 {b with minute := x.at_, done := (mset b.done t true), given := (-1)} 1 2 3 4]⟩, some (lvI b.s_Used), some (lvI b.s_Credit), some (lvI b.s_Last), some (m1w (mset b.done t true))]) (κ := [0, 1, 2, 3, 4]) rfl .nil (vwK rfl rfl (.cons rfl rfl (.row rfl (.row rfl (.row rfl (.map rfl .nil))))) (.cons rfl rfl .nil)) (.inl ⟨_, rfl, rfl, rfl⟩))
/-- (*window.table).give!0 -/
def window_table_give_m (F : Nat) (t : Table) (o : Int) (a : WiTurn) : Option (Except Int Table) := Option.bind (window_must F (decide (t.given < 0)) 5) fun rv => exE rv (fun x => some (.error x)) (fun v => Option.bind (window_table_receivers F t) fun rv2 => optE rv2 (Option.bind (slices_Contains_int F ([] : List Int) a.to_) fun rv3 => Option.bind (window_must F rv3 4) fun rv4 => exE rv4 (fun x2 => some (.error x2)) (fun v2 => Option.bind (window_must F (decide (a.at_ = t.minute)) 7) fun rv5 => exE rv5 (fun x3 => some (.error x3)) (fun v3 => Option.bind (ixO t.s_Credit o) fun e => Option.bind (setO t.s_Credit o (W (e + t.p_Gift))) fun q => Option.bind (ixO q a.to_) fun e2 => Option.bind (setO q a.to_ (W (e2 - t.p_Gift))) fun q2 => some (.ok {t with s_Credit := q2, done := (mset t.done o true), given := a.to_, by_ := o})))) (fun t2 => if t2.length = 0 then none else (Option.bind (slices_Contains_int F (t2.drop 1) a.to_) fun rv6 => Option.bind (window_must F rv6 4) fun rv7 => exE rv7 (fun x4 => some (.error x4)) (fun v4 => Option.bind (window_must F (decide (a.at_ = t.minute)) 7) fun rv8 => exE rv8 (fun x5 => some (.error x5)) (fun v5 => Option.bind (ixO t.s_Credit o) fun e3 => Option.bind (setO t.s_Credit o (W (e3 + t.p_Gift))) fun q3 => Option.bind (ixO q3 a.to_) fun e4 => Option.bind (setO q3 a.to_ (W (e4 - t.p_Gift))) fun q4 => some (.ok {t with s_Credit := q4, done := (mset t.done o true), given := a.to_, by_ := o}))))))
set_option maxHeartbeats 4000000 in
theorem window_table_give_m_scx {F : Nat} {t : Table} {o : Int} {a : WiTurn} {r : (Except Int Table)} (h : window_table_give_m F t o a = some r) : SCX Try.prog 101 [.ref 0 22 0 0, .d (.v (.int .i64 o)), .d (WiTurn.d a)] [some ⟨22, [Table_T1 t 1 2 3 4]⟩, some (lvI t.s_Used), some (lvI t.s_Credit), some (lvI t.s_Last), some (m1w t.done)] r 29 (fun (a : Table) => .d (.tup [])) (fun (a : Table) => [some ⟨22, [Table_T1 a 1 2 3 4]⟩, some (lvI a.s_Used), some (lvI a.s_Credit), some (lvI a.s_Last), some (m1w a.done)]) := by
 rw [window_table_give_m] at h
 refine SC.of_sw Try.func101 rfl rfl rfl ?_
 simp only [List.map_cons, List.map_nil, argS, Nat.zero_add, Nat.reduceAdd]
 refine sw_seq (sw_rg (r_box rfl rfl rfl rfl rfl rfl rfl (ev_end (then_norm (sw_seq (sw_rgP (r_movR rfl rfl rfl (r_nilRef rfl rfl rfl (r_fa tb rfl rfl rfl rfl rfl rfl rfl (r_ldD (y := .v (.int .i64 t.given)) tb rfl rfl rfl rfl rfl rfl rfl rfl rfl (r_lssV rfl rfl rfl rfl ?_)))))))))))
 obtain ⟨rv, hrv, h⟩ := bnd h
 rcases ex_or rv with ⟨x, nv⟩ | ⟨v, nv⟩
 ·replace h := (exN nv).symm.trans h
  refine ev_pan ?_
  (with_reducible apply op_call []); exact (window_must_scx hrv).err nv; exact rfl; exact .of (by kernel_rfl); exact rfl; exact .inl ⟨rfl, rfl, rfl⟩; (iterate 4 exact rfl); exact .nil; exact rfl
  intro cnt
  refine then_pan ?_
  obtain rfl := Option.some.inj h
  exact fin_pX (L := [some ⟨22, [Table_T1 t 1 2 3 4]⟩, some (lvI t.s_Used), some (lvI t.s_Credit), some (lvI t.s_Last), some (m1w t.done)]) (κ := [0, 1, 2, 3, 4]) (vwK rfl rfl (.cons rfl rfl (.row rfl (.row rfl (.row rfl (.map rfl .nil))))) .nil) (.inr ⟨_, rfl, rfl⟩)
 replace h := (exO nv).symm.trans h
 refine r_callO (t' := .d (.tup [])) (ls := []) (news := []) ([]) ([some ⟨22, [Table_T1 t 1 2 3 4]⟩, some (lvI t.s_Used), some (lvI t.s_Credit), some (lvI t.s_Last), some (m1w t.done), some ⟨3, [.d (WiTurn.d a)]⟩]) ((window_must_scx hrv).ok nv) (.of (by kernel_rfl)) rfl (.inl ⟨rfl, rfl, rfl⟩) rfl rfl rfl rfl .nil rfl rfl rfl .nil .nil rfl rfl rfl rfl (ev_endP (then_norm (sw_seq (sw_drP (by kernel_rfl) (r_movR rfl rfl rfl ?_)))))
 obtain ⟨rv2, hrv2, h⟩ := bnd h
 rcases Option.eq_none_or_eq_some rv2 with nv2 | ⟨t2, nv2⟩
 ·replace h := (optN nv2).symm.trans h
  refine r_callLN (t' := .d (.arr 1 ((([] : List Int)).map vI))) (news' := []) ((window_table_receivers_sco hrv2).none nv2) rfl .nil (.of (by kernel_rfl)) rfl rfl ((.cons (.ref rfl (.aggL (.cons (.d _) (.cons (.d _) (.cons (.d _) (.cons (.d _) (.cons (.row rfl rfl) (.cons (.row rfl rfl) (.cons (.row rfl rfl) (.cons (.d _) (.cons (.d _) (.cons (.d _) (.cons (.d _) (.cons (.d _) (.cons (.d _) (.cons (.d _) (.cons (.mpM rfl) (.cons (.d _) (.cons (.d _) (.cons (.d _) (.cons (.d _) (.cons (.d _) (.cons (.d _) (.cons (.d _) .nil)))))))))))))))))))))))) .nil)) rfl .nil rfl rfl rfl ?_
  simp only [List.map_nil, List.append_nil]
  refine r_fa tb rfl rfl rfl rfl rfl rfl rfl (r_ldD (y := .v (.int .i64 a.to_)) tb rfl rfl rfl rfl rfl rfl rfl rfl rfl ?_)
  obtain ⟨rv3, hrv3, h⟩ := bnd h
  refine r_call (slices_Contains_int_pc hrv3) (.of (by kernel_rfl)) rfl rfl rfl rfl ?_
  obtain ⟨rv4, hrv4, h⟩ := bnd h
  rcases ex_or rv4 with ⟨x2, nv3⟩ | ⟨v2, nv3⟩
  ·replace h := (exN nv3).symm.trans h
   refine ev_panD (by kernel_rfl) (by kernel_rfl) ?_
   (with_reducible apply op_call []); exact (window_must_scx hrv4).err nv3; exact rfl; exact .of (by kernel_rfl); exact rfl; exact .inl ⟨rfl, rfl, rfl⟩; (iterate 4 exact rfl); exact .nil; exact rfl
   intro cnt
   refine then_pan ?_
   obtain rfl := Option.some.inj h
   exact fin_pX (L := [some ⟨22, [Table_T1 t 1 2 3 4]⟩, some (lvI t.s_Used), some (lvI t.s_Credit), some (lvI t.s_Last), some (m1w t.done)]) (κ := [0, 1, 2, 3, 4]) (vwK rfl rfl (.cons rfl rfl (.row rfl (.row rfl (.row rfl (.map rfl .nil))))) .nil) (.inr ⟨_, rfl, rfl⟩)
  replace h := (exO nv3).symm.trans h
  refine r_callO (t' := .d (.tup [])) (ls := []) (news := []) ([]) ([some ⟨22, [Table_T1 t 1 2 3 4]⟩, some (lvI t.s_Used), some (lvI t.s_Credit), some (lvI t.s_Last), some (m1w t.done), some ⟨3, [.d (WiTurn.d a)]⟩]) ((window_must_scx hrv4).ok nv3) (.of (by kernel_rfl)) rfl (.inl ⟨rfl, rfl, rfl⟩) rfl rfl rfl rfl .nil rfl rfl rfl .nil .nil rfl rfl rfl rfl (ev_endPD (by kernel_rfl) (then_norm (sw_seq (sw_drP (by kernel_rfl) (r_fa tb rfl rfl rfl rfl rfl rfl rfl (r_ldD (y := .v (.int .i64 a.at_)) tb rfl rfl rfl rfl rfl rfl rfl rfl rfl (r_movR rfl rfl rfl (r_nilRef rfl rfl rfl ?_))))))))
  refine r_fa tb rfl rfl rfl rfl rfl rfl rfl (r_ldD (y := .v (.int .i64 t.minute)) tb rfl rfl rfl rfl rfl rfl rfl rfl rfl (r_eqlV rfl rfl rfl rfl ?_))
  obtain ⟨rv5, hrv5, h⟩ := bnd h
  rcases ex_or rv5 with ⟨x3, nv4⟩ | ⟨v3, nv4⟩
  ·replace h := (exN nv4).symm.trans h
   refine ev_panD (by kernel_rfl) (by kernel_rfl) ?_
   (with_reducible apply op_call []); exact (window_must_scx hrv5).err nv4; exact rfl; exact .of (by kernel_rfl); exact rfl; exact .inl ⟨rfl, rfl, rfl⟩; (iterate 4 exact rfl); exact .nil; exact rfl
   intro cnt
   refine then_pan ?_
   obtain rfl := Option.some.inj h
   exact fin_pX (L := [some ⟨22, [Table_T1 t 1 2 3 4]⟩, some (lvI t.s_Used), some (lvI t.s_Credit), some (lvI t.s_Last), some (m1w t.done)]) (κ := [0, 1, 2, 3, 4]) (vwK rfl rfl (.cons rfl rfl (.row rfl (.row rfl (.row rfl (.map rfl .nil))))) .nil) (.inr ⟨_, rfl, rfl⟩)
  replace h := (exO nv4).symm.trans h
  refine r_callO (t' := .d (.tup [])) (ls := []) (news := []) ([]) ([some ⟨22, [Table_T1 t 1 2 3 4]⟩, some (lvI t.s_Used), some (lvI t.s_Credit), some (lvI t.s_Last), some (m1w t.done), some ⟨3, [.d (WiTurn.d a)]⟩]) ((window_must_scx hrv5).ok nv4) (.of (by kernel_rfl)) rfl (.inl ⟨rfl, rfl, rfl⟩) rfl rfl rfl rfl .nil rfl rfl rfl .nil .nil rfl rfl rfl rfl (ev_endPD (by kernel_rfl) (then_norm (sw_seq (sw_dr (by kernel_rfl) (r_movR rfl rfl rfl (r_nilRef rfl rfl rfl (r_fa tb rfl rfl rfl rfl rfl rfl rfl (r_fa tb rfl rfl rfl rfl rfl rfl rfl ?_))))))))
  refine r_ldW tb rfl rfl rfl rfl rfl rfl rfl rfl rfl (r_movD rfl rfl rfl ?_)
  obtain ⟨e, ie, h⟩ := bnd h
  refine r_ixI tb rfl rfl rfl rfl rfl rfl (ix0 ie) (ix1 ie) rfl rfl ?_
  refine r_ldD (y := .v (.int .i64 e)) tb rfl rfl rfl rfl (ix2 (g := fun a => T.d (vI a)) ie) rfl rfl rfl rfl ?_
  refine r_movR rfl rfl rfl (r_nilRef rfl rfl rfl (r_fa tb rfl rfl rfl rfl rfl rfl rfl (r_fa tb rfl rfl rfl rfl rfl rfl rfl (r_ldD (y := .v (.int .i64 t.p_Gift)) tb rfl rfl rfl rfl rfl rfl rfl rfl rfl (r_add rfl rfl rfl rfl (r_ixI tb rfl rfl rfl rfl rfl rfl (ix0 ie) (ix1 ie) rfl rfl ?_))))))
  obtain ⟨q, iq, h⟩ := bnd h
  refine r_stQ (a' := (W (e + t.p_Gift))) tb rfl rfl rfl rfl ie rfl rfl rfl rfl iq rfl rfl ?_
  dsimp only [List.set_cons_zero, List.set_cons_succ, WiState_T1, WiState_T2, WiState_T3, Table_T1]
  first | rw [set_len iq] | skip
  refine ev_endD (by kernel_rfl) (then_norm (sw_seq (sw_dr (by kernel_rfl) (r_movR rfl rfl rfl (r_nilRef rfl rfl rfl (r_fa tb rfl rfl rfl rfl rfl rfl rfl (r_fa tb rfl rfl rfl rfl rfl rfl rfl (r_ldW tb rfl rfl rfl rfl rfl rfl rfl rfl rfl (r_fa tb rfl rfl rfl rfl rfl rfl rfl (r_ldD (y := .v (.int .i64 a.to_)) tb rfl rfl rfl rfl rfl rfl rfl rfl rfl ?_))))))))))
  obtain ⟨e2, ie2, h⟩ := bnd h
  refine r_ixI tb rfl rfl rfl rfl rfl rfl (ix0 ie2) (ix1 ie2) rfl rfl ?_
  refine r_ldD (y := .v (.int .i64 e2)) tb rfl rfl rfl rfl (ix2 (g := fun a => T.d (vI a)) ie2) rfl rfl rfl rfl ?_
  refine r_movR rfl rfl rfl (r_nilRef rfl rfl rfl (r_fa tb rfl rfl rfl rfl rfl rfl rfl (r_fa tb rfl rfl rfl rfl rfl rfl rfl (r_ldD (y := .v (.int .i64 t.p_Gift)) tb rfl rfl rfl rfl rfl rfl rfl rfl rfl (r_sub rfl rfl rfl rfl (r_ixI tb rfl rfl rfl rfl rfl rfl (ix0 ie2) (ix1 ie2) rfl rfl ?_))))))
  obtain ⟨q2, iq2, h⟩ := bnd h
  refine r_stQ (a' := (W (e2 - t.p_Gift))) tb rfl rfl rfl rfl ie2 rfl rfl rfl rfl iq2 rfl rfl ?_
  dsimp only [List.set_cons_zero, List.set_cons_succ, WiState_T1, WiState_T2, WiState_T3, Table_T1]
  first | rw [set_len iq2] | skip
  refine ev_endD (by kernel_rfl) (then_norm (sw_seq (sw_rg (r_movR rfl rfl rfl (r_nilRef rfl rfl rfl (r_fa tb rfl rfl rfl rfl rfl rfl rfl (r_ldT (.mp 4) tb rfl rfl rfl rfl rfl rfl rfl rfl rfl (r_movD rfl rfl rfl ?_))))))))
  refine r_mset (vf := fun b => .v (.bool b)) (v := true) (q := (mset t.done o true)) ([some ⟨22, [Table_T1 {t with s_Credit := q2, done := (mset t.done o true)} 1 2 3 4]⟩, some (lvI t.s_Used), some (lvI q2), some (lvI t.s_Last), some (m1w (mset t.done o true)), some ⟨3, [.d (WiTurn.d a)]⟩]) rfl rfl rfl rfl rfl rfl rfl rfl rfl ?_
  refine ev_end (then_norm (sw_rg (r_movR rfl rfl rfl (r_movR rfl rfl rfl (r_fa tb rfl rfl rfl rfl rfl rfl rfl (r_ldD (y := .v (.int .i64 a.to_)) tb rfl rfl rfl rfl rfl rfl rfl rfl rfl (r_movD rfl rfl rfl (r_nilRef rfl rfl rfl (r_fa tb rfl rfl rfl rfl rfl rfl rfl (r_stE _ ([some ⟨22, [Table_T1 {t with s_Credit := q2, done := (mset t.done o true), given := a.to_} 1 2 3 4]⟩, some (lvI t.s_Used), some (lvI q2), some (lvI t.s_Last), some (m1w (mset t.done o true)), some ⟨3, [.d (WiTurn.d a)]⟩]) tb rfl rfl rfl rfl rfl rfl rfl rfl rfl rfl rfl rfl (r_nilRef rfl rfl rfl ?_)))))))))))
  refine r_fa tb rfl rfl rfl rfl rfl rfl rfl (r_stE _ ([some ⟨22, [Table_T1 {t with s_Credit := q2, done := (mset t.done o true), given := a.to_, by_ := o} 1 2 3 4]⟩, some (lvI t.s_Used), some (lvI q2), some (lvI t.s_Last), some (m1w (mset t.done o true)), some ⟨3, [.d (WiTurn.d a)]⟩]) tb rfl rfl rfl rfl rfl rfl rfl rfl rfl rfl rfl rfl (ev_end ?_))
  obtain rfl := Option.some.inj h
  exact fin_n (fin_S (t := .d (.tup [])) (L := [some ⟨22, [Table_T1 {t with s_Credit := q2, done := (mset t.done o true), given := a.to_, by_ := o} 1 2 3 4]⟩, some (lvI t.s_Used), some (lvI q2), some (lvI t.s_Last), some (m1w (mset t.done o true))]) (κ := [0, 1, 2, 3, 4]) rfl .nil (vwK rfl rfl (.cons rfl rfl (.row rfl (.row rfl (.row rfl (.map rfl .nil))))) (.cons rfl rfl .nil)) (.inl ⟨_, rfl, rfl, rfl⟩))
 replace h := (optS nv2).symm.trans h
 by_cases c : t2.length = 0
 ·cases (if_pos c).symm.trans h
 replace h := ifN c h
 refine r_callLN (t' := .row 6 1 1 ((t2).length - 1)) (news' := [(lvI t2)]) ((window_table_receivers_sco hrv2).some nv2) rfl ((.row (fun _ => rfl) .nil)) (.of (by kernel_rfl)) rfl rfl ((.cons (.ref rfl (.aggL (.cons (.d _) (.cons (.d _) (.cons (.d _) (.cons (.d _) (.cons (.row rfl rfl) (.cons (.row rfl rfl) (.cons (.row rfl rfl) (.cons (.d _) (.cons (.d _) (.cons (.d _) (.cons (.d _) (.cons (.d _) (.cons (.d _) (.cons (.d _) (.cons (.mpM rfl) (.cons (.d _) (.cons (.d _) (.cons (.d _) (.cons (.d _) (.cons (.d _) (.cons (.d _) (.cons (.d _) .nil)))))))))))))))))))))))) .nil)) rfl ((.row .nil)) rfl rfl rfl ?_
 refine r_fa tb rfl rfl rfl rfl rfl rfl rfl (r_ldD (y := .v (.int .i64 a.to_)) tb rfl rfl rfl rfl rfl rfl rfl rfl rfl ?_)
 obtain ⟨rv6, hrv6, h⟩ := bnd h
 refine r_callL (slices_Contains_int_pc hrv6) rfl (.of (by kernel_rfl)) rfl rfl ((.cons (.rowT rfl rfl (by omega)) (.cons (.d _) .nil))) rfl rfl ?_
 obtain ⟨rv7, hrv7, h⟩ := bnd h
 rcases ex_or rv7 with ⟨x4, nv5⟩ | ⟨v4, nv5⟩
 ·replace h := (exN nv5).symm.trans h
  refine ev_panD (by kernel_rfl) (by kernel_rfl) ?_
  (with_reducible apply op_call []); exact (window_must_scx hrv7).err nv5; exact rfl; exact .of (by kernel_rfl); exact rfl; exact .inl ⟨rfl, rfl, rfl⟩; (iterate 4 exact rfl); exact .nil; exact rfl
  intro cnt
  refine then_pan ?_
  obtain rfl := Option.some.inj h
  exact fin_pX (L := [some ⟨22, [Table_T1 t 1 2 3 4]⟩, some (lvI t.s_Used), some (lvI t.s_Credit), some (lvI t.s_Last), some (m1w t.done)]) (κ := [0, 1, 2, 3, 4]) (vwK rfl rfl (.cons rfl rfl (.row rfl (.row rfl (.row rfl (.map rfl .nil))))) .nil) (.inr ⟨_, rfl, rfl⟩)
 replace h := (exO nv5).symm.trans h
 refine r_callO (t' := .d (.tup [])) (ls := []) (news := []) ([]) ([some ⟨22, [Table_T1 t 1 2 3 4]⟩, some (lvI t.s_Used), some (lvI t.s_Credit), some (lvI t.s_Last), some (m1w t.done), some ⟨3, [.d (WiTurn.d a)]⟩, some (lvI t2)]) ((window_must_scx hrv7).ok nv5) (.of (by kernel_rfl)) rfl (.inl ⟨rfl, rfl, rfl⟩) rfl rfl rfl rfl .nil rfl rfl rfl .nil .nil rfl rfl rfl rfl (ev_endPD (by kernel_rfl) (then_norm (sw_seq (sw_drP (by kernel_rfl) (r_fa tb rfl rfl rfl rfl rfl rfl rfl (r_ldD (y := .v (.int .i64 a.at_)) tb rfl rfl rfl rfl rfl rfl rfl rfl rfl (r_movR rfl rfl rfl ?_)))))))
 refine r_nilRef rfl rfl rfl (r_fa tb rfl rfl rfl rfl rfl rfl rfl (r_ldD (y := .v (.int .i64 t.minute)) tb rfl rfl rfl rfl rfl rfl rfl rfl rfl (r_eqlV rfl rfl rfl rfl ?_)))
 obtain ⟨rv8, hrv8, h⟩ := bnd h
 rcases ex_or rv8 with ⟨x5, nv6⟩ | ⟨v5, nv6⟩
 ·replace h := (exN nv6).symm.trans h
  refine ev_panD (by kernel_rfl) (by kernel_rfl) ?_
  (with_reducible apply op_call []); exact (window_must_scx hrv8).err nv6; exact rfl; exact .of (by kernel_rfl); exact rfl; exact .inl ⟨rfl, rfl, rfl⟩; (iterate 4 exact rfl); exact .nil; exact rfl
  intro cnt
  refine then_pan ?_
  obtain rfl := Option.some.inj h
  exact fin_pX (L := [some ⟨22, [Table_T1 t 1 2 3 4]⟩, some (lvI t.s_Used), some (lvI t.s_Credit), some (lvI t.s_Last), some (m1w t.done)]) (κ := [0, 1, 2, 3, 4]) (vwK rfl rfl (.cons rfl rfl (.row rfl (.row rfl (.row rfl (.map rfl .nil))))) .nil) (.inr ⟨_, rfl, rfl⟩)
 replace h := (exO nv6).symm.trans h
 refine r_callO (t' := .d (.tup [])) (ls := []) (news := []) ([]) ([some ⟨22, [Table_T1 t 1 2 3 4]⟩, some (lvI t.s_Used), some (lvI t.s_Credit), some (lvI t.s_Last), some (m1w t.done), some ⟨3, [.d (WiTurn.d a)]⟩, some (lvI t2)]) ((window_must_scx hrv8).ok nv6) (.of (by kernel_rfl)) rfl (.inl ⟨rfl, rfl, rfl⟩) rfl rfl rfl rfl .nil rfl rfl rfl .nil .nil rfl rfl rfl rfl (ev_endPD (by kernel_rfl) (then_norm (sw_seq (sw_dr (by kernel_rfl) (r_movR rfl rfl rfl (r_nilRef rfl rfl rfl (r_fa tb rfl rfl rfl rfl rfl rfl rfl (r_fa tb rfl rfl rfl rfl rfl rfl rfl ?_))))))))
 refine r_ldW tb rfl rfl rfl rfl rfl rfl rfl rfl rfl (r_movD rfl rfl rfl ?_)
 obtain ⟨e3, ie3, h⟩ := bnd h
 refine r_ixI tb rfl rfl rfl rfl rfl rfl (ix0 ie3) (ix1 ie3) rfl rfl ?_
 refine r_ldD (y := .v (.int .i64 e3)) tb rfl rfl rfl rfl (ix2 (g := fun a => T.d (vI a)) ie3) rfl rfl rfl rfl ?_
 refine r_movR rfl rfl rfl (r_nilRef rfl rfl rfl (r_fa tb rfl rfl rfl rfl rfl rfl rfl (r_fa tb rfl rfl rfl rfl rfl rfl rfl (r_ldD (y := .v (.int .i64 t.p_Gift)) tb rfl rfl rfl rfl rfl rfl rfl rfl rfl (r_add rfl rfl rfl rfl (r_ixI tb rfl rfl rfl rfl rfl rfl (ix0 ie3) (ix1 ie3) rfl rfl ?_))))))
 obtain ⟨q3, iq3, h⟩ := bnd h
 refine r_stQ (a' := (W (e3 + t.p_Gift))) tb rfl rfl rfl rfl ie3 rfl rfl rfl rfl iq3 rfl rfl ?_
 dsimp only [List.set_cons_zero, List.set_cons_succ, WiState_T1, WiState_T2, WiState_T3, Table_T1]
 first | rw [set_len iq3] | skip
 refine ev_endD (by kernel_rfl) (then_norm (sw_seq (sw_dr (by kernel_rfl) (r_movR rfl rfl rfl (r_nilRef rfl rfl rfl (r_fa tb rfl rfl rfl rfl rfl rfl rfl (r_fa tb rfl rfl rfl rfl rfl rfl rfl (r_ldW tb rfl rfl rfl rfl rfl rfl rfl rfl rfl (r_fa tb rfl rfl rfl rfl rfl rfl rfl (r_ldD (y := .v (.int .i64 a.to_)) tb rfl rfl rfl rfl rfl rfl rfl rfl rfl ?_))))))))))
 obtain ⟨e4, ie4, h⟩ := bnd h
 refine r_ixI tb rfl rfl rfl rfl rfl rfl (ix0 ie4) (ix1 ie4) rfl rfl ?_
 refine r_ldD (y := .v (.int .i64 e4)) tb rfl rfl rfl rfl (ix2 (g := fun a => T.d (vI a)) ie4) rfl rfl rfl rfl ?_
 refine r_movR rfl rfl rfl (r_nilRef rfl rfl rfl (r_fa tb rfl rfl rfl rfl rfl rfl rfl (r_fa tb rfl rfl rfl rfl rfl rfl rfl (r_ldD (y := .v (.int .i64 t.p_Gift)) tb rfl rfl rfl rfl rfl rfl rfl rfl rfl (r_sub rfl rfl rfl rfl (r_ixI tb rfl rfl rfl rfl rfl rfl (ix0 ie4) (ix1 ie4) rfl rfl ?_))))))
 obtain ⟨q4, iq4, h⟩ := bnd h
 refine r_stQ (a' := (W (e4 - t.p_Gift))) tb rfl rfl rfl rfl ie4 rfl rfl rfl rfl iq4 rfl rfl ?_
 dsimp only [List.set_cons_zero, List.set_cons_succ, WiState_T1, WiState_T2, WiState_T3, Table_T1]
 first | rw [set_len iq4] | skip
 refine ev_endD (by kernel_rfl) (then_norm (sw_seq (sw_rg (r_movR rfl rfl rfl (r_nilRef rfl rfl rfl (r_fa tb rfl rfl rfl rfl rfl rfl rfl (r_ldT (.mp 4) tb rfl rfl rfl rfl rfl rfl rfl rfl rfl (r_movD rfl rfl rfl ?_))))))))
 refine r_mset (vf := fun b => .v (.bool b)) (v := true) (q := (mset t.done o true)) ([some ⟨22, [Table_T1 {t with s_Credit := q4, done := (mset t.done o true)} 1 2 3 4]⟩, some (lvI t.s_Used), some (lvI q4), some (lvI t.s_Last), some (m1w (mset t.done o true)), some ⟨3, [.d (WiTurn.d a)]⟩, some (lvI t2)]) rfl rfl rfl rfl rfl rfl rfl rfl rfl ?_
 refine ev_end (then_norm (sw_rg (r_movR rfl rfl rfl (r_movR rfl rfl rfl (r_fa tb rfl rfl rfl rfl rfl rfl rfl (r_ldD (y := .v (.int .i64 a.to_)) tb rfl rfl rfl rfl rfl rfl rfl rfl rfl (r_movD rfl rfl rfl (r_nilRef rfl rfl rfl (r_fa tb rfl rfl rfl rfl rfl rfl rfl (r_stE _ ([some ⟨22, [Table_T1 {t with s_Credit := q4, done := (mset t.done o true), given := a.to_} 1 2 3 4]⟩, some (lvI t.s_Used), some (lvI q4), some (lvI t.s_Last), some (m1w (mset t.done o true)), some ⟨3, [.d (WiTurn.d a)]⟩, some (lvI t2)]) tb rfl rfl rfl rfl rfl rfl rfl rfl rfl rfl rfl rfl ?_))))))))))
 refine r_nilRef rfl rfl rfl (r_fa tb rfl rfl rfl rfl rfl rfl rfl (r_stE _ ([some ⟨22, [Table_T1 {t with s_Credit := q4, done := (mset t.done o true), given := a.to_, by_ := o} 1 2 3 4]⟩, some (lvI t.s_Used), some (lvI q4), some (lvI t.s_Last), some (m1w (mset t.done o true)), some ⟨3, [.d (WiTurn.d a)]⟩, some (lvI t2)]) tb rfl rfl rfl rfl rfl rfl rfl rfl rfl rfl rfl rfl (ev_end ?_)))
 obtain rfl := Option.some.inj h
 exact fin_n (fin_S (t := .d (.tup [])) (L := [some ⟨22, [Table_T1 {t with s_Credit := q4, done := (mset t.done o true), given := a.to_, by_ := o} 1 2 3 4]⟩, some (lvI t.s_Used), some (lvI q4), some (lvI t.s_Last), some (m1w (mset t.done o true))]) (κ := [0, 1, 2, 3, 4]) rfl .nil (vwK rfl rfl (.cons rfl rfl (.row rfl (.row rfl (.row rfl (.map rfl .nil))))) (.cons rfl rfl .nil)) (.inl ⟨_, rfl, rfl, rfl⟩))
/-- (*window.table).launch!0 -/
def window_table_launch_m_L1 (F : Nat) (rv3 : Table) (K : (List Int) → Int → Option (Except Int Table)) : Nat → (List Int) → Int → Option (Except Int Table)
 | 0, _, _ => none
 | n + 1, lv, x3 => if x3 < (rv3.p_Teams.length : Int) then (if ((mget rv3.done x3).getD false) = true then (window_table_launch_m_L1 F rv3 K n lv (W (x3 + 1))) else (Option.bind (window_table_why F {rv3 with s_Credit := lv} x3) fun rv4 => if rv4 = 0 then (Option.bind (ixO lv x3) fun e2 => Option.bind (setO lv x3 (W (e2 + 1))) fun lv2 => window_table_launch_m_L1 F rv3 K n lv2 (W (x3 + 1))) else (window_table_launch_m_L1 F rv3 K n lv (W (x3 + 1))))) else (K lv x3)
def window_table_launch_m_L2 (F : Nat) (rv6 : Table) (K : (List Int) → Int → Option (Except Int Table)) : Nat → (List Int) → Int → Option (Except Int Table)
 | 0, _, _ => none
 | n + 1, lv4, x6 => if x6 < (rv6.p_Teams.length : Int) then (if ((mget rv6.done x6).getD false) = true then (window_table_launch_m_L2 F rv6 K n lv4 (W (x6 + 1))) else (Option.bind (window_table_why F {rv6 with s_Credit := lv4} x6) fun rv7 => if rv7 = 0 then (Option.bind (ixO lv4 x6) fun e6 => Option.bind (setO lv4 x6 (W (e6 + 1))) fun lv5 => window_table_launch_m_L2 F rv6 K n lv5 (W (x6 + 1))) else (window_table_launch_m_L2 F rv6 K n lv4 (W (x6 + 1))))) else (K lv4 x6)
def window_table_launch_m (F : Nat) (t : Table) (o : Int) (a : WiTurn) : Option (Except Int Table) := if a.to_ = 0 then (Option.bind (ixO t.p_Teams o) fun e => Option.bind (window_out F a.at_ (W (t.minute + e.setup)) t.w_Until) fun rv => Option.bind (window_must F (!rv) 7) fun rv2 => exE rv2 (fun x => some (.error x)) (fun v => Option.bind (window_table_entitled_m F {t with done := (mset t.done o true)}) fun rv3 => window_table_launch_m_L1 F rv3 (fun (lv : (List Int)) (x3 : Int) => Option.bind (ixO rv3.s_Used o) fun e3 => Option.bind (setO rv3.s_Used o (W (e3 + 1))) fun q => Option.bind (ixO rv3.s_Last o) fun e4 => Option.bind (setO rv3.s_Last o rv3.w_Day) fun q2 => Option.bind (ixO lv o) fun e5 => Option.bind (setO lv o (W (e5 - rv3.p_Cost))) fun lv3 => if 0 ≤ rv3.given then (some (.ok {rv3 with s_Used := q, s_Credit := lv3, s_Last := q2, minute := a.at_, given := (-1), over := true, use_Team := o, use_At := a.at_, use_By := rv3.by_})) else (some (.ok {rv3 with s_Used := q, s_Credit := lv3, s_Last := q2, minute := a.at_, given := (-1), over := true, use_Team := o, use_At := a.at_}))) F rv3.s_Credit 0)) else (Option.bind (window_must F false 7) fun rv5 => exE rv5 (fun x4 => some (.error x4)) (fun v2 => Option.bind (window_table_entitled_m F {t with done := (mset t.done o true)}) fun rv6 => window_table_launch_m_L2 F rv6 (fun (lv4 : (List Int)) (x6 : Int) => Option.bind (ixO rv6.s_Used o) fun e7 => Option.bind (setO rv6.s_Used o (W (e7 + 1))) fun q3 => Option.bind (ixO rv6.s_Last o) fun e8 => Option.bind (setO rv6.s_Last o rv6.w_Day) fun q4 => Option.bind (ixO lv4 o) fun e9 => Option.bind (setO lv4 o (W (e9 - rv6.p_Cost))) fun lv6 => if 0 ≤ rv6.given then (some (.ok {rv6 with s_Used := q3, s_Credit := lv6, s_Last := q4, minute := a.at_, given := (-1), over := true, use_Team := o, use_At := a.at_, use_By := rv6.by_})) else (some (.ok {rv6 with s_Used := q3, s_Credit := lv6, s_Last := q4, minute := a.at_, given := (-1), over := true, use_Team := o, use_At := a.at_}))) F rv6.s_Credit 0))
set_option maxHeartbeats 4000000 in
theorem window_table_launch_m_scx {F : Nat} {t : Table} {o : Int} {a : WiTurn} {r : (Except Int Table)} (h : window_table_launch_m F t o a = some r) : SCX Try.prog 99 [.ref 0 22 0 0, .d (.v (.int .i64 o)), .d (WiTurn.d a)] [some ⟨22, [Table_T1 t 1 2 3 4]⟩, some (lvI t.s_Used), some (lvI t.s_Credit), some (lvI t.s_Last), some (m1w t.done)] r 29 (fun (a : Table) => .d (.tup [])) (fun (a : Table) => [some ⟨22, [Table_T1 a 1 2 3 4]⟩, some (lvI a.s_Used), some (lvI a.s_Credit), some (lvI a.s_Last), some (m1w a.done)]) := by
 rw [window_table_launch_m] at h
 refine SC.of_swm Try.func99 rfl rfl rfl ?_
 simp only [List.map_cons, List.map_nil, argS, Nat.zero_add, Nat.reduceAdd]
 refine swm_seq ?_
 refine swm_of fun df => ?_
 refine sw_rg (r_box rfl rfl rfl rfl rfl rfl rfl (r_box rfl rfl rfl rfl rfl rfl rfl (ev_end (then_norm (swm_seq ?_)))))
 refine swm_of fun df => ?_
 refine sw_drP (by kernel_rfl) (r_fa tb rfl rfl rfl rfl rfl rfl rfl (r_ldD (y := .v (.int .i64 a.to_)) tb rfl rfl rfl rfl rfl rfl rfl rfl rfl ?_))
 refine r_eql rfl rfl rfl rfl ?_ ?_
 ·intro c
  replace h := ifP c h
  refine r_movD rfl rfl rfl (r_fa tb rfl rfl rfl rfl rfl rfl rfl (r_ldD (y := .v (.int .i64 a.at_)) tb rfl rfl rfl rfl rfl rfl rfl rfl rfl (r_ldR tb rfl rfl rfl rfl rfl rfl rfl rfl rfl (r_nilRef rfl rfl rfl (r_fa tb rfl rfl rfl rfl rfl rfl rfl (r_ldD (y := .v (.int .i64 t.minute)) tb rfl rfl rfl rfl rfl rfl rfl rfl rfl (r_ldR tb rfl rfl rfl rfl rfl rfl rfl rfl rfl (r_nilRef rfl rfl rfl (r_fa tb rfl rfl rfl rfl rfl rfl rfl (r_fa tb rfl rfl rfl rfl rfl rfl rfl (r_ldD (y := .arr 9 ((t.p_Teams).map WiTeam.d)) tb rfl rfl rfl rfl rfl rfl rfl rfl rfl (r_movD rfl rfl rfl ?_))))))))))))
  obtain ⟨e, ie, h⟩ := bnd h
  refine r_ixE tb rfl rfl rfl rfl rfl rfl (ix0 ie) (ix1m ie) rfl rfl (r_faE tb rfl rfl rfl rfl rfl rfl rfl (r_ldE (y := .v (.int .i64 e.setup)) tb rfl rfl (ix2 (g := WiTeam.d) ie) rfl rfl rfl rfl (r_add rfl rfl rfl rfl (r_ldR tb rfl rfl rfl rfl rfl rfl rfl rfl rfl (r_nilRef rfl rfl rfl (r_fa tb rfl rfl rfl rfl rfl rfl rfl (r_fa tb rfl rfl rfl rfl rfl rfl rfl (r_ldD (y := .v (.int .i64 t.w_Until)) tb rfl rfl rfl rfl rfl rfl rfl rfl rfl ?_))))))))
  obtain ⟨rv, hrv, h⟩ := bnd h
  refine r_call (window_out_pc hrv) (.of (by kernel_rfl)) rfl rfl rfl rfl (r_not rfl rfl rfl (r_pickT rfl rfl rfl rfl ?_))
  obtain ⟨rv2, hrv2, h⟩ := bnd h
  rcases ex_or rv2 with ⟨x, nv⟩ | ⟨v, nv⟩
  ·replace h := (exN nv).symm.trans h
   refine ev_panD (by kernel_rfl) (by kernel_rfl) ?_
   (with_reducible apply op_call []); exact (window_must_scx hrv2).err nv; exact rfl; exact .of (by kernel_rfl); exact rfl; exact .inl ⟨rfl, rfl, rfl⟩; (iterate 4 exact rfl); exact .nil; exact rfl
   intro cnt
   refine then_pan ?_
   obtain rfl := Option.some.inj h
   exact fin_pX (L := [some ⟨22, [Table_T1 t 1 2 3 4]⟩, some (lvI t.s_Used), some (lvI t.s_Credit), some (lvI t.s_Last), some (m1w t.done)]) (κ := [0, 1, 2, 3, 4]) (vwK rfl rfl (.cons rfl rfl (.row rfl (.row rfl (.row rfl (.map rfl .nil))))) .nil) (.inr ⟨_, rfl, rfl⟩)
  replace h := (exO nv).symm.trans h
  refine r_callO (t' := .d (.tup [])) (ls := []) (news := []) ([]) ([some ⟨22, [Table_T1 t 1 2 3 4]⟩, some (lvI t.s_Used), some (lvI t.s_Credit), some (lvI t.s_Last), some (m1w t.done), some ⟨1, [.ref 0 22 0 0]⟩, some ⟨3, [.d (WiTurn.d a)]⟩]) ((window_must_scx hrv2).ok nv) (.of (by kernel_rfl)) rfl (.inl ⟨rfl, rfl, rfl⟩) rfl rfl rfl rfl .nil rfl rfl rfl .nil .nil rfl rfl rfl rfl (ev_endPD (by kernel_rfl) (then_norm (swm_seq ?_)))
  refine swm_of fun df => ?_
  refine sw_rg (r_ldR tb rfl rfl rfl rfl rfl rfl rfl rfl rfl (r_nilRef rfl rfl rfl (r_fa tb rfl rfl rfl rfl rfl rfl rfl (r_ldT (.mp 4) tb rfl rfl rfl rfl rfl rfl rfl rfl rfl (r_movD rfl rfl rfl ?_)))))
  refine r_mset (vf := fun b => .v (.bool b)) (v := true) (q := (mset t.done o true)) ([some ⟨22, [Table_T1 {t with done := (mset t.done o true)} 1 2 3 4]⟩, some (lvI t.s_Used), some (lvI t.s_Credit), some (lvI t.s_Last), some (m1w (mset t.done o true)), some ⟨1, [.ref 0 22 0 0]⟩, some ⟨3, [.d (WiTurn.d a)]⟩]) rfl rfl rfl rfl rfl rfl rfl rfl rfl ?_
  refine ev_end (then_norm (swm_seq (swm_seq ?_)))
  refine swm_of fun df => ?_
  refine sw_rg (r_ldR tb rfl rfl rfl rfl rfl rfl rfl rfl rfl ?_)
  obtain ⟨rv3, hrv3, h⟩ := bnd h
  refine r_callO (t' := .fn (.func 104) [] [.ref 7 1 0 0]) (ls := [some ⟨22, [Table_T1 rv3 1 2 3 4]⟩, some (lvI rv3.s_Used), some (lvI rv3.s_Credit), some (lvI rv3.s_Last), some (m1w rv3.done)]) (news := [⟨1, [.ref 0 22 0 0]⟩]) ([0, 1, 2, 3, 4]) ([some ⟨22, [Table_T1 rv3 1 2 3 4]⟩, some (lvI rv3.s_Used), some (lvI rv3.s_Credit), some (lvI rv3.s_Last), some (m1w rv3.done), some ⟨1, [.ref 0 22 0 0]⟩, some ⟨3, [.d (WiTurn.d a)]⟩, some ⟨1, [.ref 0 22 0 0]⟩]) (window_table_entitled_m_scr hrv3) (.of (by kernel_rfl)) rfl (.inl ⟨rfl, rfl, rfl⟩) rfl rfl rfl rfl ((.cons rfl rfl (.row rfl (.row rfl (.row rfl (.map rfl .nil)))))) rfl rfl rfl ((.cons rfl (.row (.row (.row (.map .nil)))))) ((.cons rfl .nil)) rfl rfl rfl rfl ?_
  refine ev_end (then_norm (swm_block ?_))
  refine swm_range (.of (by kernel_rfl)) Try.func104 rfl rfl rfl rfl rfl rfl fun lb => ?_
  simp only [argS, Nat.zero_add, Nat.reduceAdd]
  refine swj_seq (swj_rg (rgj_ev (r_ldR tb rfl rfl rfl rfl rfl rfl rfl rfl rfl (r_nilRef rfl rfl rfl (r_fa tb rfl rfl rfl rfl rfl rfl rfl (r_fa tb rfl rfl rfl rfl rfl rfl rfl (r_ldD (y := .arr 9 ((rv3.p_Teams).map WiTeam.d)) tb rfl rfl rfl rfl rfl rfl rfl rfl rfl (r_lenM tb rfl rfl rfl rfl rfl (r_movD rfl rfl rfl (ev_endJ (thenj_norm (swj_block ?_))))))))))))
  obtain ⟨K3, hK3, h⟩ : ∃ K, K = _ ∧ window_table_launch_m_L1 F rv3 K F rv3.s_Credit 0 = some r := ⟨_, rfl, h⟩
  refine swj_loop (st0 := ⟨[(0, .d (.v (.func (.yield lb) #[] #[]))), (1, .ref 7 1 0 0), (9, .d (.v (.int .i64 (rv3.p_Teams.length : Int)))), (10, .d (.v (.int .i64 0)))], [some ⟨22, [Table_T1 rv3 1 2 3 4]⟩, some (lvI rv3.s_Used), some (lvI rv3.s_Credit), some (lvI rv3.s_Last), some (m1w rv3.done), some ⟨1, [.ref 0 22 0 0]⟩, some ⟨3, [.d (WiTurn.d a)]⟩, some ⟨1, [.ref 0 22 0 0]⟩]⟩) (κ := [0, 1, 2, 3, 4, 5, 6, 7]) (fun m ph st => ∃ (lv : (List Int)) (x3 : Int), window_table_launch_m_L1 F rv3 K3 m lv x3 = some r ∧ ph = SX.norm ∧ st = ⟨[(0, .d (.v (.func (.yield lb) #[] #[]))), (1, .ref 7 1 0 0), (9, .d (.v (.int .i64 (rv3.p_Teams.length : Int)))), (10, .d (.v (.int .i64 x3)))], [some ⟨22, [Table_T1 {rv3 with s_Credit := lv} 1 2 3 4]⟩, some (lvI rv3.s_Used), some (lvI lv), some (lvI rv3.s_Last), some (m1w rv3.done), some ⟨1, [.ref 0 22 0 0]⟩, some ⟨3, [.d (WiTurn.d a)]⟩, some ⟨1, [.ref 0 22 0 0]⟩]⟩) (vwK rfl rfl (.cons rfl rfl (.row rfl (.row rfl (.row rfl (.map rfl (.cons rfl rfl (.cons rfl rfl (.cons rfl rfl .nil)))))))) (.cons rfl rfl (.cons rfl rfl (.cons rfl rfl (.cons rfl rfl .nil))))) ⟨rv3.s_Credit, 0, h, rfl, rfl⟩ ?_
  clear h
  rintro m3 ph st ⟨lv, x3, h, rfl, rfl⟩
  cases m3 with
  | zero => cases (show (none : Option (Except Int Table)) = some r from h)
  | succ m3 =>
  rw [window_table_launch_m_L1] at h
  refine swj_seq (swj_rg (rgj_ev ?_))
  refine r_lss rfl rfl rfl rfl ?_ ?_
  ·intro c2
   replace h := ifP c2 h
   refine ev_endJ (thenj_norm (swj_seq (swj_condT rfl (swj_skip (thenj_norm (swj_seq (swj_block (swj_seq (swj_rg (rgj_ev (r_movD rfl rfl rfl (r_asgD rfl rfl rfl (ev_endJ (thenj_norm (swj_seq (swj_rg (rgj_ev (r_ldR tb rfl rfl rfl rfl rfl rfl rfl rfl rfl (r_nilRef rfl rfl rfl (r_fa tb rfl rfl rfl rfl rfl rfl rfl (r_ldT (.mp 4) tb rfl rfl rfl rfl rfl rfl rfl rfl rfl (r_movD rfl rfl rfl ?_))))))))))))))))))))))
   refine r_lkI (vf := fun b => .v (.bool b)) (z0 := false) (u := .v (.bool ((mget rv3.done x3).getD false))) tb rfl rfl rfl rfl rfl rfl rfl rfl rfl rfl ?_
   with_reducible apply ev_lit
   ·intro c3
    replace h := ifP c3 h
    refine r_notT rfl rfl rfl (r_movD rfl rfl rfl (r_skip rfl rfl rfl (r_skip rfl rfl rfl (r_skip rfl rfl rfl (r_skip rfl rfl rfl (r_pickF rfl rfl rfl rfl (r_movD rfl rfl rfl (r_skip rfl rfl rfl (r_skip rfl rfl rfl (r_skip rfl rfl rfl (r_skip rfl rfl rfl (r_pickF rfl rfl rfl rfl (ev_endJ (thenj_norm (swj_condF rfl (swj_skip (blockj_norm (thenj_norm (swj_rg (rgj_ev (r_add rfl rfl rfl rfl (r_movD rfl rfl rfl (ev_endJ (thenj_norm ?_))))))))))))))))))))))))
    exact ⟨m3, ⟨[(0, .d (.v (.func (.yield lb) #[] #[]))), (1, .ref 7 1 0 0), (9, .d (.v (.int .i64 (rv3.p_Teams.length : Int)))), (10, .d (.v (.int .i64 (W (x3 + 1)))))], [some ⟨22, [Table_T1 {rv3 with s_Credit := lv} 1 2 3 4]⟩, some (lvI rv3.s_Used), some (lvI lv), some (lvI rv3.s_Last), some (m1w rv3.done), some ⟨1, [.ref 0 22 0 0]⟩, some ⟨3, [.d (WiTurn.d a)]⟩, some ⟨1, [.ref 0 22 0 0]⟩]⟩, [0, 1, 2, 3, 4, 5, 6, 7], Nat.lt_succ_self _, (vwK rfl rfl (.cons rfl rfl (.row rfl (.row rfl (.row rfl (.map rfl (.cons rfl rfl (.cons rfl rfl (.cons rfl rfl .nil)))))))) (.cons rfl rfl (.cons rfl rfl (.cons rfl rfl (.cons rfl rfl .nil))))), lv, (W (x3 + 1)), h, rfl, rfl⟩
   intro c3
   replace h := ifF c3 h
   refine r_notF rfl rfl rfl (r_movD rfl rfl rfl (r_ldR tb rfl rfl rfl rfl rfl rfl rfl rfl rfl (r_movD rfl rfl rfl ?_)))
   obtain ⟨rv4, hrv4, h⟩ := bnd h
   refine r_callL (window_table_why_pc hrv4) rfl (.of (by kernel_rfl)) rfl rfl ((.cons (.ref rfl (.aggL (.cons (.d _) (.cons (.d _) (.cons (.d _) (.cons (.d _) (.cons (.row rfl rfl) (.cons (.row rfl rfl) (.cons (.row rfl rfl) (.cons (.d _) (.cons (.d _) (.cons (.d _) (.cons (.d _) (.cons (.d _) (.cons (.d _) (.cons (.d _) (.cons (.mpM rfl) (.cons (.d _) (.cons (.d _) (.cons (.d _) (.cons (.d _) (.cons (.d _) (.cons (.d _) (.cons (.d _) .nil)))))))))))))))))))))))) (.cons (.d _) .nil))) rfl rfl ?_
   refine r_eql rfl rfl rfl rfl ?_ ?_
   ·intro c4
    replace h := ifP c4 h
    refine r_pickT rfl rfl rfl rfl (r_movD rfl rfl rfl (r_movD rfl rfl rfl (r_movD rfl rfl rfl (ev_yieldJ ?_))))
    (with_reducible apply rgj_yield (ys := [.v (.int .i64 x3)])); (iterate 7 exact rfl)
    dsimp only [parS]
    refine sw_rg (r_asgD rfl rfl rfl (ev_end ?_))
    refine ⟨rfl, ?_⟩
    refine sw_block (sw_rg (r_ldR tb rfl rfl rfl rfl rfl rfl rfl rfl rfl (r_nilRef rfl rfl rfl (r_fa tb rfl rfl rfl rfl rfl rfl rfl (r_fa tb rfl rfl rfl rfl rfl rfl rfl (r_ldW tb rfl rfl rfl rfl rfl rfl rfl rfl rfl (r_movD rfl rfl rfl ?_)))))))
    obtain ⟨e2, ie2, h⟩ := bnd h
    refine r_ixI tb rfl rfl rfl rfl rfl rfl (ix0 ie2) (ix1 ie2) rfl rfl ?_
    refine r_ldD (y := .v (.int .i64 e2)) tb rfl rfl rfl rfl (ix2 (g := fun a => T.d (vI a)) ie2) rfl rfl rfl rfl ?_
    refine r_add rfl rfl rfl rfl (r_ixI tb rfl rfl rfl rfl rfl rfl (ix0 ie2) (ix1 ie2) rfl rfl ?_)
    obtain ⟨lv2, ilv2, h⟩ := bnd h
    refine r_stQ (a' := (W (e2 + 1))) tb rfl rfl rfl rfl ie2 rfl rfl rfl rfl ilv2 rfl rfl ?_
    dsimp only [List.set_cons_zero, List.set_cons_succ, WiState_T1, WiState_T2, WiState_T3, Table_T1]
    first | rw [set_len ilv2] | skip
    refine ev_end (block_norm ?_)
    refine ⟨[some ⟨22, [Table_T1 {rv3 with s_Credit := lv2} 1 2 3 4]⟩, some (lvI rv3.s_Used), some (lvI lv2), some (lvI rv3.s_Last), some (m1w rv3.done), some ⟨1, [.ref 0 22 0 0]⟩, some ⟨3, [.d (WiTurn.d a)]⟩, some ⟨1, [.ref 0 22 0 0]⟩], [0, 1, 2, 3, 4, 5, 6, 7], (vwK rfl rfl (.cons rfl rfl (.row rfl (.row rfl (.row rfl (.map rfl (.cons rfl rfl (.cons rfl rfl (.cons rfl rfl .nil)))))))) .nil), ?_⟩
    refine rgj_ev (r_notT rfl rfl rfl (r_pickT rfl rfl rfl rfl (ev_endJ (thenj_norm (swj_condF rfl (swj_skip (blockj_norm (thenj_norm (swj_rg (rgj_ev (r_add rfl rfl rfl rfl (r_movD rfl rfl rfl (ev_endJ (thenj_norm ?_))))))))))))))
    exact ⟨m3, ⟨[(0, .d (.v (.func (.yield lb) #[] #[]))), (1, .ref 7 1 0 0), (9, .d (.v (.int .i64 (rv3.p_Teams.length : Int)))), (10, .d (.v (.int .i64 (W (x3 + 1)))))], [some ⟨22, [Table_T1 {rv3 with s_Credit := lv2} 1 2 3 4]⟩, some (lvI rv3.s_Used), some (lvI lv2), some (lvI rv3.s_Last), some (m1w rv3.done), some ⟨1, [.ref 0 22 0 0]⟩, some ⟨3, [.d (WiTurn.d a)]⟩, some ⟨1, [.ref 0 22 0 0]⟩]⟩, [0, 1, 2, 3, 4, 5, 6, 7], Nat.lt_succ_self _, (vwK rfl rfl (.cons rfl rfl (.row rfl (.row rfl (.row rfl (.map rfl (.cons rfl rfl (.cons rfl rfl (.cons rfl rfl .nil)))))))) (.cons rfl rfl (.cons rfl rfl (.cons rfl rfl (.cons rfl rfl .nil))))), lv2, (W (x3 + 1)), h, rfl, rfl⟩
   intro c4
   replace h := ifN c4 h
   refine r_pickT rfl rfl rfl rfl (r_movD rfl rfl rfl (r_skip rfl rfl rfl (r_skip rfl rfl rfl (r_skip rfl rfl rfl (r_skip rfl rfl rfl (r_pickF rfl rfl rfl rfl (ev_endJ (thenj_norm (swj_condF rfl (swj_skip (blockj_norm (thenj_norm (swj_rg (rgj_ev (r_add rfl rfl rfl rfl (r_movD rfl rfl rfl (ev_endJ (thenj_norm ?_))))))))))))))))))
   exact ⟨m3, ⟨[(0, .d (.v (.func (.yield lb) #[] #[]))), (1, .ref 7 1 0 0), (9, .d (.v (.int .i64 (rv3.p_Teams.length : Int)))), (10, .d (.v (.int .i64 (W (x3 + 1)))))], [some ⟨22, [Table_T1 {rv3 with s_Credit := lv} 1 2 3 4]⟩, some (lvI rv3.s_Used), some (lvI lv), some (lvI rv3.s_Last), some (m1w rv3.done), some ⟨1, [.ref 0 22 0 0]⟩, some ⟨3, [.d (WiTurn.d a)]⟩, some ⟨1, [.ref 0 22 0 0]⟩]⟩, [0, 1, 2, 3, 4, 5, 6, 7], Nat.lt_succ_self _, (vwK rfl rfl (.cons rfl rfl (.row rfl (.row rfl (.row rfl (.map rfl (.cons rfl rfl (.cons rfl rfl (.cons rfl rfl .nil)))))))) (.cons rfl rfl (.cons rfl rfl (.cons rfl rfl (.cons rfl rfl .nil))))), lv, (W (x3 + 1)), h, rfl, rfl⟩
  intro c2
  replace h := ifN (Int.not_lt.2 c2) h
  refine ev_endJ (thenj_norm (swj_seq (swj_condF rfl (swj_exit (thenj_exit (thenj_exit ?_))))))
  subst hK3
  refine blockj_exit ?_
  refine ⟨.inr rfl, [some ⟨22, [Table_T1 {rv3 with s_Credit := lv} 1 2 3 4]⟩, some (lvI rv3.s_Used), some (lvI lv), some (lvI rv3.s_Last), some (m1w rv3.done), some ⟨1, [.ref 0 22 0 0]⟩, some ⟨3, [.d (WiTurn.d a)]⟩, some ⟨1, [.ref 0 22 0 0]⟩], [0, 1, 2, 3, 4, 5, 6, 7], (vwK rfl rfl (.cons rfl rfl (.row rfl (.row rfl (.row rfl (.map rfl (.cons rfl rfl (.cons rfl rfl (.cons rfl rfl .nil)))))))) .nil), ?_⟩
  refine block_norm (then_norm ?_)
  refine swm_of fun df => ?_
  refine sw_seq (sw_rg (r_ldR tb rfl rfl rfl rfl rfl rfl rfl rfl rfl (r_nilRef rfl rfl rfl (r_fa tb rfl rfl rfl rfl rfl rfl rfl (r_fa tb rfl rfl rfl rfl rfl rfl rfl (r_ldW tb rfl rfl rfl rfl rfl rfl rfl rfl rfl (r_movD rfl rfl rfl ?_)))))))
  obtain ⟨e3, ie3, h⟩ := bnd h
  refine r_ixI tb rfl rfl rfl rfl rfl rfl (ix0 ie3) (ix1 ie3) rfl rfl ?_
  refine r_ldD (y := .v (.int .i64 e3)) tb rfl rfl rfl rfl (ix2 (g := fun a => T.d (vI a)) ie3) rfl rfl rfl rfl ?_
  refine r_add rfl rfl rfl rfl (r_ixI tb rfl rfl rfl rfl rfl rfl (ix0 ie3) (ix1 ie3) rfl rfl ?_)
  obtain ⟨q, iq, h⟩ := bnd h
  refine r_stQ (a' := (W (e3 + 1))) tb rfl rfl rfl rfl ie3 rfl rfl rfl rfl iq rfl rfl ?_
  dsimp only [List.set_cons_zero, List.set_cons_succ, WiState_T1, WiState_T2, WiState_T3, Table_T1]
  first | rw [set_len iq] | skip
  refine ev_end (then_norm (sw_seq (sw_dr (by kernel_rfl) (r_ldR tb rfl rfl rfl rfl rfl rfl rfl rfl rfl (r_nilRef rfl rfl rfl (r_fa tb rfl rfl rfl rfl rfl rfl rfl (r_fa tb rfl rfl rfl rfl rfl rfl rfl (r_ldW tb rfl rfl rfl rfl rfl rfl rfl rfl rfl (r_movD rfl rfl rfl (r_ldR tb rfl rfl rfl rfl rfl rfl rfl rfl rfl (r_nilRef rfl rfl rfl (r_fa tb rfl rfl rfl rfl rfl rfl rfl (r_fa tb rfl rfl rfl rfl rfl rfl rfl (r_ldD (y := .v (.int .i64 rv3.w_Day)) tb rfl rfl rfl rfl rfl rfl rfl rfl rfl ?_))))))))))))))
  obtain ⟨e4, ie4, h⟩ := bnd h
  refine r_ixI tb rfl rfl rfl rfl rfl rfl (ix0 ie4) (ix1 ie4) rfl rfl ?_
  obtain ⟨q2, iq2, h⟩ := bnd h
  refine r_stQ (a' := rv3.w_Day) tb rfl rfl rfl rfl ie4 rfl rfl rfl rfl iq2 rfl rfl ?_
  dsimp only [List.set_cons_zero, List.set_cons_succ, WiState_T1, WiState_T2, WiState_T3, Table_T1]
  first | rw [set_len iq2] | skip
  refine ev_endD (by kernel_rfl) (then_norm (sw_seq (sw_dr (by kernel_rfl) (r_ldR tb rfl rfl rfl rfl rfl rfl rfl rfl rfl (r_nilRef rfl rfl rfl (r_fa tb rfl rfl rfl rfl rfl rfl rfl (r_fa tb rfl rfl rfl rfl rfl rfl rfl (r_ldW tb rfl rfl rfl rfl rfl rfl rfl rfl rfl (r_movD rfl rfl rfl ?_)))))))))
  obtain ⟨e5, ie5, h⟩ := bnd h
  refine r_ixI tb rfl rfl rfl rfl rfl rfl (ix0 ie5) (ix1 ie5) rfl rfl ?_
  refine r_ldD (y := .v (.int .i64 e5)) tb rfl rfl rfl rfl (ix2 (g := fun a => T.d (vI a)) ie5) rfl rfl rfl rfl ?_
  refine r_ldR tb rfl rfl rfl rfl rfl rfl rfl rfl rfl (r_nilRef rfl rfl rfl (r_fa tb rfl rfl rfl rfl rfl rfl rfl (r_fa tb rfl rfl rfl rfl rfl rfl rfl (r_ldD (y := .v (.int .i64 rv3.p_Cost)) tb rfl rfl rfl rfl rfl rfl rfl rfl rfl (r_sub rfl rfl rfl rfl (r_ixI tb rfl rfl rfl rfl rfl rfl (ix0 ie5) (ix1 ie5) rfl rfl ?_))))))
  obtain ⟨lv3, ilv3, h⟩ := bnd h
  refine r_stQ (a' := (W (e5 - rv3.p_Cost))) tb rfl rfl rfl rfl ie5 rfl rfl rfl rfl ilv3 rfl rfl ?_
  dsimp only [List.set_cons_zero, List.set_cons_succ, WiState_T1, WiState_T2, WiState_T3, Table_T1]
  first | rw [set_len ilv3] | skip
  refine ev_endD (by kernel_rfl) (then_norm (sw_seq (sw_dr (by kernel_rfl) (r_ldR tb rfl rfl rfl rfl rfl rfl rfl rfl rfl (r_ldR tb rfl rfl rfl rfl rfl rfl rfl rfl rfl (r_movD rfl rfl rfl (r_fa tb rfl rfl rfl rfl rfl rfl rfl (r_ldD (y := .v (.int .i64 a.at_)) tb rfl rfl rfl rfl rfl rfl rfl rfl rfl (r_nilRef rfl rfl rfl (r_fa tb rfl rfl rfl rfl rfl rfl rfl (r_fa tb rfl rfl rfl rfl rfl rfl rfl ?_)))))))))))
  refine r_stE _ ([some ⟨22, [Table_T1 {rv3 with s_Used := q, s_Credit := lv3, s_Last := q2, use_Team := o} 1 2 3 4]⟩, some (lvI q), some (lvI lv3), some (lvI q2), some (m1w rv3.done), some ⟨1, [.ref 0 22 0 0]⟩, some ⟨3, [.d (WiTurn.d a)]⟩, some ⟨1, [.ref 0 22 0 0]⟩]) tb rfl rfl rfl rfl rfl rfl rfl rfl rfl rfl rfl rfl (r_nilRef rfl rfl rfl (r_fa tb rfl rfl rfl rfl rfl rfl rfl (r_fa tb rfl rfl rfl rfl rfl rfl rfl ?_)))
  refine r_stE _ ([some ⟨22, [Table_T1 {rv3 with s_Used := q, s_Credit := lv3, s_Last := q2, use_Team := o, use_At := a.at_} 1 2 3 4]⟩, some (lvI q), some (lvI lv3), some (lvI q2), some (m1w rv3.done), some ⟨1, [.ref 0 22 0 0]⟩, some ⟨3, [.d (WiTurn.d a)]⟩, some ⟨1, [.ref 0 22 0 0]⟩]) tb rfl rfl rfl rfl rfl rfl rfl rfl rfl rfl rfl rfl (ev_endD (by kernel_rfl) (then_norm (sw_seq (sw_seq (sw_rg (r_ldR tb rfl rfl rfl rfl rfl rfl rfl rfl rfl (r_nilRef rfl rfl rfl (r_fa tb rfl rfl rfl rfl rfl rfl rfl (r_ldD (y := .v (.int .i64 rv3.given)) tb rfl rfl rfl rfl rfl rfl rfl rfl rfl ?_)))))))))
  refine r_geq rfl rfl rfl rfl ?_ ?_
  ·intro c5
   replace h := ifP c5 h
   refine ev_end (then_norm (sw_condT rfl (sw_dr (by kernel_rfl) (r_ldR tb rfl rfl rfl rfl rfl rfl rfl rfl rfl (r_ldR tb rfl rfl rfl rfl rfl rfl rfl rfl rfl (r_nilRef rfl rfl rfl (r_fa tb rfl rfl rfl rfl rfl rfl rfl (r_ldD (y := .v (.int .i64 rv3.by_)) tb rfl rfl rfl rfl rfl rfl rfl rfl rfl (r_nilRef rfl rfl rfl (r_fa tb rfl rfl rfl rfl rfl rfl rfl (r_fa tb rfl rfl rfl rfl rfl rfl rfl ?_)))))))))))
   refine r_stE _ ([some ⟨22, [Table_T1 {rv3 with s_Used := q, s_Credit := lv3, s_Last := q2, use_Team := o, use_At := a.at_, use_By := rv3.by_} 1 2 3 4]⟩, some (lvI q), some (lvI lv3), some (lvI q2), some (m1w rv3.done), some ⟨1, [.ref 0 22 0 0]⟩, some ⟨3, [.d (WiTurn.d a)]⟩, some ⟨1, [.ref 0 22 0 0]⟩]) tb rfl rfl rfl rfl rfl rfl rfl rfl rfl rfl rfl rfl (ev_endD (by kernel_rfl) (then_norm (sw_dr (by kernel_rfl) (r_ldR tb rfl rfl rfl rfl rfl rfl rfl rfl rfl (r_ldR tb rfl rfl rfl rfl rfl rfl rfl rfl rfl (r_ldR tb rfl rfl rfl rfl rfl rfl rfl rfl rfl ?_))))))
   refine r_fa tb rfl rfl rfl rfl rfl rfl rfl (r_ldD (y := .v (.int .i64 a.at_)) tb rfl rfl rfl rfl rfl rfl rfl rfl rfl (r_nilRef rfl rfl rfl (r_fa tb rfl rfl rfl rfl rfl rfl rfl (r_stE _ ([some ⟨22, [Table_T1 {rv3 with s_Used := q, s_Credit := lv3, s_Last := q2, over := true, use_Team := o, use_At := a.at_, use_By := rv3.by_} 1 2 3 4]⟩, some (lvI q), some (lvI lv3), some (lvI q2), some (m1w rv3.done), some ⟨1, [.ref 0 22 0 0]⟩, some ⟨3, [.d (WiTurn.d a)]⟩, some ⟨1, [.ref 0 22 0 0]⟩]) tb rfl rfl rfl rfl rfl rfl rfl rfl rfl rfl rfl rfl (r_nilRef rfl rfl rfl ?_)))))
   refine r_fa tb rfl rfl rfl rfl rfl rfl rfl (r_stE _ ([some ⟨22, [Table_T1 {rv3 with s_Used := q, s_Credit := lv3, s_Last := q2, given := (-1), over := true, use_Team := o, use_At := a.at_, use_By := rv3.by_} 1 2 3 4]⟩, some (lvI q), some (lvI lv3), some (lvI q2), some (m1w rv3.done), some ⟨1, [.ref 0 22 0 0]⟩, some ⟨3, [.d (WiTurn.d a)]⟩, some ⟨1, [.ref 0 22 0 0]⟩]) tb rfl rfl rfl rfl rfl rfl rfl rfl rfl rfl rfl rfl (r_nilRef rfl rfl rfl (r_fa tb rfl rfl rfl rfl rfl rfl rfl ?_)))
   refine r_stE _ ([some ⟨22, [Table_T1 {rv3 with s_Used := q, s_Credit := lv3, s_Last := q2, minute := a.at_, given := (-1), over := true, use_Team := o, use_At := a.at_, use_By := rv3.by_} 1 2 3 4]⟩, some (lvI q), some (lvI lv3), some (lvI q2), some (m1w rv3.done), some ⟨1, [.ref 0 22 0 0]⟩, some ⟨3, [.d (WiTurn.d a)]⟩, some ⟨1, [.ref 0 22 0 0]⟩]) tb rfl rfl rfl rfl rfl rfl rfl rfl rfl rfl rfl rfl (ev_endD (by kernel_rfl) ?_)
   obtain rfl := Option.some.inj h
   exact fin_n (fin_S (t := .d (.tup [])) (L := [some ⟨22, [Table_T1 {rv3 with s_Used := q, s_Credit := lv3, s_Last := q2, minute := a.at_, given := (-1), over := true, use_Team := o, use_At := a.at_, use_By := rv3.by_} 1 2 3 4]⟩, some (lvI q), some (lvI lv3), some (lvI q2), some (m1w rv3.done)]) (κ := [0, 1, 2, 3, 4]) rfl .nil (vwK rfl rfl (.cons rfl rfl (.row rfl (.row rfl (.row rfl (.map rfl .nil))))) (.cons rfl rfl .nil)) (.inl ⟨_, rfl, rfl, rfl⟩))
  intro c5
  replace h := ifN (Int.not_le.2 c5) h
  refine ev_end (then_norm (sw_condF rfl (sw_skip (then_norm (sw_dr (by kernel_rfl) (r_ldR tb rfl rfl rfl rfl rfl rfl rfl rfl rfl (r_ldR tb rfl rfl rfl rfl rfl rfl rfl rfl rfl (r_ldR tb rfl rfl rfl rfl rfl rfl rfl rfl rfl (r_fa tb rfl rfl rfl rfl rfl rfl rfl (r_ldD (y := .v (.int .i64 a.at_)) tb rfl rfl rfl rfl rfl rfl rfl rfl rfl (r_nilRef rfl rfl rfl (r_fa tb rfl rfl rfl rfl rfl rfl rfl ?_))))))))))))
  refine r_stE _ ([some ⟨22, [Table_T1 {rv3 with s_Used := q, s_Credit := lv3, s_Last := q2, over := true, use_Team := o, use_At := a.at_} 1 2 3 4]⟩, some (lvI q), some (lvI lv3), some (lvI q2), some (m1w rv3.done), some ⟨1, [.ref 0 22 0 0]⟩, some ⟨3, [.d (WiTurn.d a)]⟩, some ⟨1, [.ref 0 22 0 0]⟩]) tb rfl rfl rfl rfl rfl rfl rfl rfl rfl rfl rfl rfl (r_nilRef rfl rfl rfl (r_fa tb rfl rfl rfl rfl rfl rfl rfl ?_))
  refine r_stE _ ([some ⟨22, [Table_T1 {rv3 with s_Used := q, s_Credit := lv3, s_Last := q2, given := (-1), over := true, use_Team := o, use_At := a.at_} 1 2 3 4]⟩, some (lvI q), some (lvI lv3), some (lvI q2), some (m1w rv3.done), some ⟨1, [.ref 0 22 0 0]⟩, some ⟨3, [.d (WiTurn.d a)]⟩, some ⟨1, [.ref 0 22 0 0]⟩]) tb rfl rfl rfl rfl rfl rfl rfl rfl rfl rfl rfl rfl (r_nilRef rfl rfl rfl (r_fa tb rfl rfl rfl rfl rfl rfl rfl ?_))
  refine r_stE _ ([some ⟨22, [Table_T1 {rv3 with s_Used := q, s_Credit := lv3, s_Last := q2, minute := a.at_, given := (-1), over := true, use_Team := o, use_At := a.at_} 1 2 3 4]⟩, some (lvI q), some (lvI lv3), some (lvI q2), some (m1w rv3.done), some ⟨1, [.ref 0 22 0 0]⟩, some ⟨3, [.d (WiTurn.d a)]⟩, some ⟨1, [.ref 0 22 0 0]⟩]) tb rfl rfl rfl rfl rfl rfl rfl rfl rfl rfl rfl rfl (ev_endD (by kernel_rfl) ?_)
  obtain rfl := Option.some.inj h
  exact fin_n (fin_S (t := .d (.tup [])) (L := [some ⟨22, [Table_T1 {rv3 with s_Used := q, s_Credit := lv3, s_Last := q2, minute := a.at_, given := (-1), over := true, use_Team := o, use_At := a.at_} 1 2 3 4]⟩, some (lvI q), some (lvI lv3), some (lvI q2), some (m1w rv3.done)]) (κ := [0, 1, 2, 3, 4]) rfl .nil (vwK rfl rfl (.cons rfl rfl (.row rfl (.row rfl (.row rfl (.map rfl .nil))))) (.cons rfl rfl .nil)) (.inl ⟨_, rfl, rfl, rfl⟩))
 intro c
 replace h := ifN c h
 refine r_movD rfl rfl rfl (r_skip rfl rfl rfl (r_skip rfl rfl rfl (r_skip rfl rfl rfl (r_skip rfl rfl rfl (r_skip rfl rfl rfl (r_skip rfl rfl rfl (r_skip rfl rfl rfl (r_skip rfl rfl rfl (r_skip rfl rfl rfl (r_skip rfl rfl rfl (r_skip rfl rfl rfl (r_skip rfl rfl rfl (r_skip rfl rfl rfl (r_skip rfl rfl rfl (r_skip rfl rfl rfl (r_skip rfl rfl rfl (r_skip rfl rfl rfl (r_skip rfl rfl rfl (r_skip rfl rfl rfl (r_skip rfl rfl rfl (r_skip rfl rfl rfl (r_skip rfl rfl rfl (r_skip rfl rfl rfl (r_pickF rfl rfl rfl rfl ?_))))))))))))))))))))))))
 obtain ⟨rv5, hrv5, h⟩ := bnd h
 rcases ex_or rv5 with ⟨x4, nv2⟩ | ⟨v2, nv2⟩
 ·replace h := (exN nv2).symm.trans h
  refine ev_panD (by kernel_rfl) (by kernel_rfl) ?_
  (with_reducible apply op_call []); exact (window_must_scx hrv5).err nv2; exact rfl; exact .of (by kernel_rfl); exact rfl; exact .inl ⟨rfl, rfl, rfl⟩; (iterate 4 exact rfl); exact .nil; exact rfl
  intro cnt
  refine then_pan ?_
  obtain rfl := Option.some.inj h
  exact fin_pX (L := [some ⟨22, [Table_T1 t 1 2 3 4]⟩, some (lvI t.s_Used), some (lvI t.s_Credit), some (lvI t.s_Last), some (m1w t.done)]) (κ := [0, 1, 2, 3, 4]) (vwK rfl rfl (.cons rfl rfl (.row rfl (.row rfl (.row rfl (.map rfl .nil))))) .nil) (.inr ⟨_, rfl, rfl⟩)
 replace h := (exO nv2).symm.trans h
 refine r_callO (t' := .d (.tup [])) (ls := []) (news := []) ([]) ([some ⟨22, [Table_T1 t 1 2 3 4]⟩, some (lvI t.s_Used), some (lvI t.s_Credit), some (lvI t.s_Last), some (m1w t.done), some ⟨1, [.ref 0 22 0 0]⟩, some ⟨3, [.d (WiTurn.d a)]⟩]) ((window_must_scx hrv5).ok nv2) (.of (by kernel_rfl)) rfl (.inl ⟨rfl, rfl, rfl⟩) rfl rfl rfl rfl .nil rfl rfl rfl .nil .nil rfl rfl rfl rfl (ev_endPD (by kernel_rfl) (then_norm (swm_seq ?_)))
 refine swm_of fun df => ?_
 refine sw_rg (r_ldR tb rfl rfl rfl rfl rfl rfl rfl rfl rfl (r_nilRef rfl rfl rfl (r_fa tb rfl rfl rfl rfl rfl rfl rfl (r_ldT (.mp 4) tb rfl rfl rfl rfl rfl rfl rfl rfl rfl (r_movD rfl rfl rfl ?_)))))
 refine r_mset (vf := fun b => .v (.bool b)) (v := true) (q := (mset t.done o true)) ([some ⟨22, [Table_T1 {t with done := (mset t.done o true)} 1 2 3 4]⟩, some (lvI t.s_Used), some (lvI t.s_Credit), some (lvI t.s_Last), some (m1w (mset t.done o true)), some ⟨1, [.ref 0 22 0 0]⟩, some ⟨3, [.d (WiTurn.d a)]⟩]) rfl rfl rfl rfl rfl rfl rfl rfl rfl ?_
 refine ev_end (then_norm (swm_seq (swm_seq ?_)))
 refine swm_of fun df => ?_
 refine sw_rg (r_ldR tb rfl rfl rfl rfl rfl rfl rfl rfl rfl ?_)
 obtain ⟨rv6, hrv6, h⟩ := bnd h
 refine r_callO (t' := .fn (.func 104) [] [.ref 7 1 0 0]) (ls := [some ⟨22, [Table_T1 rv6 1 2 3 4]⟩, some (lvI rv6.s_Used), some (lvI rv6.s_Credit), some (lvI rv6.s_Last), some (m1w rv6.done)]) (news := [⟨1, [.ref 0 22 0 0]⟩]) ([0, 1, 2, 3, 4]) ([some ⟨22, [Table_T1 rv6 1 2 3 4]⟩, some (lvI rv6.s_Used), some (lvI rv6.s_Credit), some (lvI rv6.s_Last), some (m1w rv6.done), some ⟨1, [.ref 0 22 0 0]⟩, some ⟨3, [.d (WiTurn.d a)]⟩, some ⟨1, [.ref 0 22 0 0]⟩]) (window_table_entitled_m_scr hrv6) (.of (by kernel_rfl)) rfl (.inl ⟨rfl, rfl, rfl⟩) rfl rfl rfl rfl ((.cons rfl rfl (.row rfl (.row rfl (.row rfl (.map rfl .nil)))))) rfl rfl rfl ((.cons rfl (.row (.row (.row (.map .nil)))))) ((.cons rfl .nil)) rfl rfl rfl rfl ?_
 refine ev_end (then_norm (swm_block ?_))
 refine swm_range (.of (by kernel_rfl)) Try.func104 rfl rfl rfl rfl rfl rfl fun lb => ?_
 simp only [argS, Nat.zero_add, Nat.reduceAdd]
 refine swj_seq (swj_rg (rgj_ev (r_ldR tb rfl rfl rfl rfl rfl rfl rfl rfl rfl (r_nilRef rfl rfl rfl (r_fa tb rfl rfl rfl rfl rfl rfl rfl (r_fa tb rfl rfl rfl rfl rfl rfl rfl (r_ldD (y := .arr 9 ((rv6.p_Teams).map WiTeam.d)) tb rfl rfl rfl rfl rfl rfl rfl rfl rfl (r_lenM tb rfl rfl rfl rfl rfl (r_movD rfl rfl rfl (ev_endJ (thenj_norm (swj_block ?_))))))))))))
 obtain ⟨K6, hK6, h⟩ : ∃ K, K = _ ∧ window_table_launch_m_L2 F rv6 K F rv6.s_Credit 0 = some r := ⟨_, rfl, h⟩
 refine swj_loop (st0 := ⟨[(0, .d (.v (.func (.yield lb) #[] #[]))), (1, .ref 7 1 0 0), (9, .d (.v (.int .i64 (rv6.p_Teams.length : Int)))), (10, .d (.v (.int .i64 0)))], [some ⟨22, [Table_T1 rv6 1 2 3 4]⟩, some (lvI rv6.s_Used), some (lvI rv6.s_Credit), some (lvI rv6.s_Last), some (m1w rv6.done), some ⟨1, [.ref 0 22 0 0]⟩, some ⟨3, [.d (WiTurn.d a)]⟩, some ⟨1, [.ref 0 22 0 0]⟩]⟩) (κ := [0, 1, 2, 3, 4, 5, 6, 7]) (fun m ph st => ∃ (lv4 : (List Int)) (x6 : Int), window_table_launch_m_L2 F rv6 K6 m lv4 x6 = some r ∧ ph = SX.norm ∧ st = ⟨[(0, .d (.v (.func (.yield lb) #[] #[]))), (1, .ref 7 1 0 0), (9, .d (.v (.int .i64 (rv6.p_Teams.length : Int)))), (10, .d (.v (.int .i64 x6)))], [some ⟨22, [Table_T1 {rv6 with s_Credit := lv4} 1 2 3 4]⟩, some (lvI rv6.s_Used), some (lvI lv4), some (lvI rv6.s_Last), some (m1w rv6.done), some ⟨1, [.ref 0 22 0 0]⟩, some ⟨3, [.d (WiTurn.d a)]⟩, some ⟨1, [.ref 0 22 0 0]⟩]⟩) (vwK rfl rfl (.cons rfl rfl (.row rfl (.row rfl (.row rfl (.map rfl (.cons rfl rfl (.cons rfl rfl (.cons rfl rfl .nil)))))))) (.cons rfl rfl (.cons rfl rfl (.cons rfl rfl (.cons rfl rfl .nil))))) ⟨rv6.s_Credit, 0, h, rfl, rfl⟩ ?_
 clear h
 rintro m6 ph st ⟨lv4, x6, h, rfl, rfl⟩
 cases m6 with
 | zero => cases (show (none : Option (Except Int Table)) = some r from h)
 | succ m6 =>
 rw [window_table_launch_m_L2] at h
 refine swj_seq (swj_rg (rgj_ev ?_))
 refine r_lss rfl rfl rfl rfl ?_ ?_
 ·intro c6
  replace h := ifP c6 h
  refine ev_endJ (thenj_norm (swj_seq (swj_condT rfl (swj_skip (thenj_norm (swj_seq (swj_block (swj_seq (swj_rg (rgj_ev (r_movD rfl rfl rfl (r_asgD rfl rfl rfl (ev_endJ (thenj_norm (swj_seq (swj_rg (rgj_ev (r_ldR tb rfl rfl rfl rfl rfl rfl rfl rfl rfl (r_nilRef rfl rfl rfl (r_fa tb rfl rfl rfl rfl rfl rfl rfl (r_ldT (.mp 4) tb rfl rfl rfl rfl rfl rfl rfl rfl rfl (r_movD rfl rfl rfl ?_))))))))))))))))))))))
  refine r_lkI (vf := fun b => .v (.bool b)) (z0 := false) (u := .v (.bool ((mget rv6.done x6).getD false))) tb rfl rfl rfl rfl rfl rfl rfl rfl rfl rfl ?_
  with_reducible apply ev_lit
  ·intro c7
   replace h := ifP c7 h
   refine r_notT rfl rfl rfl (r_movD rfl rfl rfl (r_skip rfl rfl rfl (r_skip rfl rfl rfl (r_skip rfl rfl rfl (r_skip rfl rfl rfl (r_pickF rfl rfl rfl rfl (r_movD rfl rfl rfl (r_skip rfl rfl rfl (r_skip rfl rfl rfl (r_skip rfl rfl rfl (r_skip rfl rfl rfl (r_pickF rfl rfl rfl rfl (ev_endJ (thenj_norm (swj_condF rfl (swj_skip (blockj_norm (thenj_norm (swj_rg (rgj_ev (r_add rfl rfl rfl rfl (r_movD rfl rfl rfl (ev_endJ (thenj_norm ?_))))))))))))))))))))))))
   exact ⟨m6, ⟨[(0, .d (.v (.func (.yield lb) #[] #[]))), (1, .ref 7 1 0 0), (9, .d (.v (.int .i64 (rv6.p_Teams.length : Int)))), (10, .d (.v (.int .i64 (W (x6 + 1)))))], [some ⟨22, [Table_T1 {rv6 with s_Credit := lv4} 1 2 3 4]⟩, some (lvI rv6.s_Used), some (lvI lv4), some (lvI rv6.s_Last), some (m1w rv6.done), some ⟨1, [.ref 0 22 0 0]⟩, some ⟨3, [.d (WiTurn.d a)]⟩, some ⟨1, [.ref 0 22 0 0]⟩]⟩, [0, 1, 2, 3, 4, 5, 6, 7], Nat.lt_succ_self _, (vwK rfl rfl (.cons rfl rfl (.row rfl (.row rfl (.row rfl (.map rfl (.cons rfl rfl (.cons rfl rfl (.cons rfl rfl .nil)))))))) (.cons rfl rfl (.cons rfl rfl (.cons rfl rfl (.cons rfl rfl .nil))))), lv4, (W (x6 + 1)), h, rfl, rfl⟩
  intro c7
  replace h := ifF c7 h
  refine r_notF rfl rfl rfl (r_movD rfl rfl rfl (r_ldR tb rfl rfl rfl rfl rfl rfl rfl rfl rfl (r_movD rfl rfl rfl ?_)))
  obtain ⟨rv7, hrv7, h⟩ := bnd h
  refine r_callL (window_table_why_pc hrv7) rfl (.of (by kernel_rfl)) rfl rfl ((.cons (.ref rfl (.aggL (.cons (.d _) (.cons (.d _) (.cons (.d _) (.cons (.d _) (.cons (.row rfl rfl) (.cons (.row rfl rfl) (.cons (.row rfl rfl) (.cons (.d _) (.cons (.d _) (.cons (.d _) (.cons (.d _) (.cons (.d _) (.cons (.d _) (.cons (.d _) (.cons (.mpM rfl) (.cons (.d _) (.cons (.d _) (.cons (.d _) (.cons (.d _) (.cons (.d _) (.cons (.d _) (.cons (.d _) .nil)))))))))))))))))))))))) (.cons (.d _) .nil))) rfl rfl ?_
  refine r_eql rfl rfl rfl rfl ?_ ?_
  ·intro c8
   replace h := ifP c8 h
   refine r_pickT rfl rfl rfl rfl (r_movD rfl rfl rfl (r_movD rfl rfl rfl (r_movD rfl rfl rfl (ev_yieldJ ?_))))
   (with_reducible apply rgj_yield (ys := [.v (.int .i64 x6)])); (iterate 7 exact rfl)
   dsimp only [parS]
   refine sw_rg (r_asgD rfl rfl rfl (ev_end ?_))
   refine ⟨rfl, ?_⟩
   refine sw_block (sw_rg (r_ldR tb rfl rfl rfl rfl rfl rfl rfl rfl rfl (r_nilRef rfl rfl rfl (r_fa tb rfl rfl rfl rfl rfl rfl rfl (r_fa tb rfl rfl rfl rfl rfl rfl rfl (r_ldW tb rfl rfl rfl rfl rfl rfl rfl rfl rfl (r_movD rfl rfl rfl ?_)))))))
   obtain ⟨e6, ie6, h⟩ := bnd h
   refine r_ixI tb rfl rfl rfl rfl rfl rfl (ix0 ie6) (ix1 ie6) rfl rfl ?_
   refine r_ldD (y := .v (.int .i64 e6)) tb rfl rfl rfl rfl (ix2 (g := fun a => T.d (vI a)) ie6) rfl rfl rfl rfl ?_
   refine r_add rfl rfl rfl rfl (r_ixI tb rfl rfl rfl rfl rfl rfl (ix0 ie6) (ix1 ie6) rfl rfl ?_)
   obtain ⟨lv5, ilv5, h⟩ := bnd h
   refine r_stQ (a' := (W (e6 + 1))) tb rfl rfl rfl rfl ie6 rfl rfl rfl rfl ilv5 rfl rfl ?_
   dsimp only [List.set_cons_zero, List.set_cons_succ, WiState_T1, WiState_T2, WiState_T3, Table_T1]
   first | rw [set_len ilv5] | skip
   refine ev_end (block_norm ?_)
   refine ⟨[some ⟨22, [Table_T1 {rv6 with s_Credit := lv5} 1 2 3 4]⟩, some (lvI rv6.s_Used), some (lvI lv5), some (lvI rv6.s_Last), some (m1w rv6.done), some ⟨1, [.ref 0 22 0 0]⟩, some ⟨3, [.d (WiTurn.d a)]⟩, some ⟨1, [.ref 0 22 0 0]⟩], [0, 1, 2, 3, 4, 5, 6, 7], (vwK rfl rfl (.cons rfl rfl (.row rfl (.row rfl (.row rfl (.map rfl (.cons rfl rfl (.cons rfl rfl (.cons rfl rfl .nil)))))))) .nil), ?_⟩
   refine rgj_ev (r_notT rfl rfl rfl (r_pickT rfl rfl rfl rfl (ev_endJ (thenj_norm (swj_condF rfl (swj_skip (blockj_norm (thenj_norm (swj_rg (rgj_ev (r_add rfl rfl rfl rfl (r_movD rfl rfl rfl (ev_endJ (thenj_norm ?_))))))))))))))
   exact ⟨m6, ⟨[(0, .d (.v (.func (.yield lb) #[] #[]))), (1, .ref 7 1 0 0), (9, .d (.v (.int .i64 (rv6.p_Teams.length : Int)))), (10, .d (.v (.int .i64 (W (x6 + 1)))))], [some ⟨22, [Table_T1 {rv6 with s_Credit := lv5} 1 2 3 4]⟩, some (lvI rv6.s_Used), some (lvI lv5), some (lvI rv6.s_Last), some (m1w rv6.done), some ⟨1, [.ref 0 22 0 0]⟩, some ⟨3, [.d (WiTurn.d a)]⟩, some ⟨1, [.ref 0 22 0 0]⟩]⟩, [0, 1, 2, 3, 4, 5, 6, 7], Nat.lt_succ_self _, (vwK rfl rfl (.cons rfl rfl (.row rfl (.row rfl (.row rfl (.map rfl (.cons rfl rfl (.cons rfl rfl (.cons rfl rfl .nil)))))))) (.cons rfl rfl (.cons rfl rfl (.cons rfl rfl (.cons rfl rfl .nil))))), lv5, (W (x6 + 1)), h, rfl, rfl⟩
  intro c8
  replace h := ifN c8 h
  refine r_pickT rfl rfl rfl rfl (r_movD rfl rfl rfl (r_skip rfl rfl rfl (r_skip rfl rfl rfl (r_skip rfl rfl rfl (r_skip rfl rfl rfl (r_pickF rfl rfl rfl rfl (ev_endJ (thenj_norm (swj_condF rfl (swj_skip (blockj_norm (thenj_norm (swj_rg (rgj_ev (r_add rfl rfl rfl rfl (r_movD rfl rfl rfl (ev_endJ (thenj_norm ?_))))))))))))))))))
  exact ⟨m6, ⟨[(0, .d (.v (.func (.yield lb) #[] #[]))), (1, .ref 7 1 0 0), (9, .d (.v (.int .i64 (rv6.p_Teams.length : Int)))), (10, .d (.v (.int .i64 (W (x6 + 1)))))], [some ⟨22, [Table_T1 {rv6 with s_Credit := lv4} 1 2 3 4]⟩, some (lvI rv6.s_Used), some (lvI lv4), some (lvI rv6.s_Last), some (m1w rv6.done), some ⟨1, [.ref 0 22 0 0]⟩, some ⟨3, [.d (WiTurn.d a)]⟩, some ⟨1, [.ref 0 22 0 0]⟩]⟩, [0, 1, 2, 3, 4, 5, 6, 7], Nat.lt_succ_self _, (vwK rfl rfl (.cons rfl rfl (.row rfl (.row rfl (.row rfl (.map rfl (.cons rfl rfl (.cons rfl rfl (.cons rfl rfl .nil)))))))) (.cons rfl rfl (.cons rfl rfl (.cons rfl rfl (.cons rfl rfl .nil))))), lv4, (W (x6 + 1)), h, rfl, rfl⟩
 intro c6
 replace h := ifN (Int.not_lt.2 c6) h
 refine ev_endJ (thenj_norm (swj_seq (swj_condF rfl (swj_exit (thenj_exit (thenj_exit ?_))))))
 subst hK6
 refine blockj_exit ?_
 refine ⟨.inr rfl, [some ⟨22, [Table_T1 {rv6 with s_Credit := lv4} 1 2 3 4]⟩, some (lvI rv6.s_Used), some (lvI lv4), some (lvI rv6.s_Last), some (m1w rv6.done), some ⟨1, [.ref 0 22 0 0]⟩, some ⟨3, [.d (WiTurn.d a)]⟩, some ⟨1, [.ref 0 22 0 0]⟩], [0, 1, 2, 3, 4, 5, 6, 7], (vwK rfl rfl (.cons rfl rfl (.row rfl (.row rfl (.row rfl (.map rfl (.cons rfl rfl (.cons rfl rfl (.cons rfl rfl .nil)))))))) .nil), ?_⟩
 refine block_norm (then_norm ?_)
 refine swm_of fun df => ?_
 refine sw_seq (sw_rg (r_ldR tb rfl rfl rfl rfl rfl rfl rfl rfl rfl (r_nilRef rfl rfl rfl (r_fa tb rfl rfl rfl rfl rfl rfl rfl (r_fa tb rfl rfl rfl rfl rfl rfl rfl (r_ldW tb rfl rfl rfl rfl rfl rfl rfl rfl rfl (r_movD rfl rfl rfl ?_)))))))
 obtain ⟨e7, ie7, h⟩ := bnd h
 refine r_ixI tb rfl rfl rfl rfl rfl rfl (ix0 ie7) (ix1 ie7) rfl rfl ?_
 refine r_ldD (y := .v (.int .i64 e7)) tb rfl rfl rfl rfl (ix2 (g := fun a => T.d (vI a)) ie7) rfl rfl rfl rfl ?_
 refine r_add rfl rfl rfl rfl (r_ixI tb rfl rfl rfl rfl rfl rfl (ix0 ie7) (ix1 ie7) rfl rfl ?_)
 obtain ⟨q3, iq3, h⟩ := bnd h
 refine r_stQ (a' := (W (e7 + 1))) tb rfl rfl rfl rfl ie7 rfl rfl rfl rfl iq3 rfl rfl ?_
 dsimp only [List.set_cons_zero, List.set_cons_succ, WiState_T1, WiState_T2, WiState_T3, Table_T1]
 first | rw [set_len iq3] | skip
 refine ev_end (then_norm (sw_seq (sw_dr (by kernel_rfl) (r_ldR tb rfl rfl rfl rfl rfl rfl rfl rfl rfl (r_nilRef rfl rfl rfl (r_fa tb rfl rfl rfl rfl rfl rfl rfl (r_fa tb rfl rfl rfl rfl rfl rfl rfl (r_ldW tb rfl rfl rfl rfl rfl rfl rfl rfl rfl (r_movD rfl rfl rfl (r_ldR tb rfl rfl rfl rfl rfl rfl rfl rfl rfl (r_nilRef rfl rfl rfl (r_fa tb rfl rfl rfl rfl rfl rfl rfl (r_fa tb rfl rfl rfl rfl rfl rfl rfl (r_ldD (y := .v (.int .i64 rv6.w_Day)) tb rfl rfl rfl rfl rfl rfl rfl rfl rfl ?_))))))))))))))
 obtain ⟨e8, ie8, h⟩ := bnd h
 refine r_ixI tb rfl rfl rfl rfl rfl rfl (ix0 ie8) (ix1 ie8) rfl rfl ?_
 obtain ⟨q4, iq4, h⟩ := bnd h
 refine r_stQ (a' := rv6.w_Day) tb rfl rfl rfl rfl ie8 rfl rfl rfl rfl iq4 rfl rfl ?_
 dsimp only [List.set_cons_zero, List.set_cons_succ, WiState_T1, WiState_T2, WiState_T3, Table_T1]
 first | rw [set_len iq4] | skip
 refine ev_endD (by kernel_rfl) (then_norm (sw_seq (sw_dr (by kernel_rfl) (r_ldR tb rfl rfl rfl rfl rfl rfl rfl rfl rfl (r_nilRef rfl rfl rfl (r_fa tb rfl rfl rfl rfl rfl rfl rfl (r_fa tb rfl rfl rfl rfl rfl rfl rfl (r_ldW tb rfl rfl rfl rfl rfl rfl rfl rfl rfl (r_movD rfl rfl rfl ?_)))))))))
 obtain ⟨e9, ie9, h⟩ := bnd h
 refine r_ixI tb rfl rfl rfl rfl rfl rfl (ix0 ie9) (ix1 ie9) rfl rfl ?_
 refine r_ldD (y := .v (.int .i64 e9)) tb rfl rfl rfl rfl (ix2 (g := fun a => T.d (vI a)) ie9) rfl rfl rfl rfl ?_
 refine r_ldR tb rfl rfl rfl rfl rfl rfl rfl rfl rfl (r_nilRef rfl rfl rfl (r_fa tb rfl rfl rfl rfl rfl rfl rfl (r_fa tb rfl rfl rfl rfl rfl rfl rfl (r_ldD (y := .v (.int .i64 rv6.p_Cost)) tb rfl rfl rfl rfl rfl rfl rfl rfl rfl (r_sub rfl rfl rfl rfl (r_ixI tb rfl rfl rfl rfl rfl rfl (ix0 ie9) (ix1 ie9) rfl rfl ?_))))))
 obtain ⟨lv6, ilv6, h⟩ := bnd h
 refine r_stQ (a' := (W (e9 - rv6.p_Cost))) tb rfl rfl rfl rfl ie9 rfl rfl rfl rfl ilv6 rfl rfl ?_
 dsimp only [List.set_cons_zero, List.set_cons_succ, WiState_T1, WiState_T2, WiState_T3, Table_T1]
 first | rw [set_len ilv6] | skip
 refine ev_endD (by kernel_rfl) (then_norm (sw_seq (sw_dr (by kernel_rfl) (r_ldR tb rfl rfl rfl rfl rfl rfl rfl rfl rfl (r_ldR tb rfl rfl rfl rfl rfl rfl rfl rfl rfl (r_movD rfl rfl rfl (r_fa tb rfl rfl rfl rfl rfl rfl rfl (r_ldD (y := .v (.int .i64 a.at_)) tb rfl rfl rfl rfl rfl rfl rfl rfl rfl (r_nilRef rfl rfl rfl (r_fa tb rfl rfl rfl rfl rfl rfl rfl (r_fa tb rfl rfl rfl rfl rfl rfl rfl ?_)))))))))))
 refine r_stE _ ([some ⟨22, [Table_T1 {rv6 with s_Used := q3, s_Credit := lv6, s_Last := q4, use_Team := o} 1 2 3 4]⟩, some (lvI q3), some (lvI lv6), some (lvI q4), some (m1w rv6.done), some ⟨1, [.ref 0 22 0 0]⟩, some ⟨3, [.d (WiTurn.d a)]⟩, some ⟨1, [.ref 0 22 0 0]⟩]) tb rfl rfl rfl rfl rfl rfl rfl rfl rfl rfl rfl rfl (r_nilRef rfl rfl rfl (r_fa tb rfl rfl rfl rfl rfl rfl rfl (r_fa tb rfl rfl rfl rfl rfl rfl rfl ?_)))
 refine r_stE _ ([some ⟨22, [Table_T1 {rv6 with s_Used := q3, s_Credit := lv6, s_Last := q4, use_Team := o, use_At := a.at_} 1 2 3 4]⟩, some (lvI q3), some (lvI lv6), some (lvI q4), some (m1w rv6.done), some ⟨1, [.ref 0 22 0 0]⟩, some ⟨3, [.d (WiTurn.d a)]⟩, some ⟨1, [.ref 0 22 0 0]⟩]) tb rfl rfl rfl rfl rfl rfl rfl rfl rfl rfl rfl rfl (ev_endD (by kernel_rfl) (then_norm (sw_seq (sw_seq (sw_rg (r_ldR tb rfl rfl rfl rfl rfl rfl rfl rfl rfl (r_nilRef rfl rfl rfl (r_fa tb rfl rfl rfl rfl rfl rfl rfl (r_ldD (y := .v (.int .i64 rv6.given)) tb rfl rfl rfl rfl rfl rfl rfl rfl rfl ?_)))))))))
 refine r_geq rfl rfl rfl rfl ?_ ?_
 ·intro c9
  replace h := ifP c9 h
  refine ev_end (then_norm (sw_condT rfl (sw_dr (by kernel_rfl) (r_ldR tb rfl rfl rfl rfl rfl rfl rfl rfl rfl (r_ldR tb rfl rfl rfl rfl rfl rfl rfl rfl rfl (r_nilRef rfl rfl rfl (r_fa tb rfl rfl rfl rfl rfl rfl rfl (r_ldD (y := .v (.int .i64 rv6.by_)) tb rfl rfl rfl rfl rfl rfl rfl rfl rfl (r_nilRef rfl rfl rfl (r_fa tb rfl rfl rfl rfl rfl rfl rfl (r_fa tb rfl rfl rfl rfl rfl rfl rfl ?_)))))))))))
  refine r_stE _ ([some ⟨22, [Table_T1 {rv6 with s_Used := q3, s_Credit := lv6, s_Last := q4, use_Team := o, use_At := a.at_, use_By := rv6.by_} 1 2 3 4]⟩, some (lvI q3), some (lvI lv6), some (lvI q4), some (m1w rv6.done), some ⟨1, [.ref 0 22 0 0]⟩, some ⟨3, [.d (WiTurn.d a)]⟩, some ⟨1, [.ref 0 22 0 0]⟩]) tb rfl rfl rfl rfl rfl rfl rfl rfl rfl rfl rfl rfl (ev_endD (by kernel_rfl) (then_norm (sw_dr (by kernel_rfl) (r_ldR tb rfl rfl rfl rfl rfl rfl rfl rfl rfl (r_ldR tb rfl rfl rfl rfl rfl rfl rfl rfl rfl (r_ldR tb rfl rfl rfl rfl rfl rfl rfl rfl rfl ?_))))))
  refine r_fa tb rfl rfl rfl rfl rfl rfl rfl (r_ldD (y := .v (.int .i64 a.at_)) tb rfl rfl rfl rfl rfl rfl rfl rfl rfl (r_nilRef rfl rfl rfl (r_fa tb rfl rfl rfl rfl rfl rfl rfl (r_stE _ ([some ⟨22, [Table_T1 {rv6 with s_Used := q3, s_Credit := lv6, s_Last := q4, over := true, use_Team := o, use_At := a.at_, use_By := rv6.by_} 1 2 3 4]⟩, some (lvI q3), some (lvI lv6), some (lvI q4), some (m1w rv6.done), some ⟨1, [.ref 0 22 0 0]⟩, some ⟨3, [.d (WiTurn.d a)]⟩, some ⟨1, [.ref 0 22 0 0]⟩]) tb rfl rfl rfl rfl rfl rfl rfl rfl rfl rfl rfl rfl (r_nilRef rfl rfl rfl ?_)))))
  refine r_fa tb rfl rfl rfl rfl rfl rfl rfl (r_stE _ ([some ⟨22, [Table_T1 {rv6 with s_Used := q3, s_Credit := lv6, s_Last := q4, given := (-1), over := true, use_Team := o, use_At := a.at_, use_By := rv6.by_} 1 2 3 4]⟩, some (lvI q3), some (lvI lv6), some (lvI q4), some (m1w rv6.done), some ⟨1, [.ref 0 22 0 0]⟩, some ⟨3, [.d (WiTurn.d a)]⟩, some ⟨1, [.ref 0 22 0 0]⟩]) tb rfl rfl rfl rfl rfl rfl rfl rfl rfl rfl rfl rfl (r_nilRef rfl rfl rfl (r_fa tb rfl rfl rfl rfl rfl rfl rfl ?_)))
  refine r_stE _ ([some ⟨22, [Table_T1 {rv6 with s_Used := q3, s_Credit := lv6, s_Last := q4, minute := a.at_, given := (-1), over := true, use_Team := o, use_At := a.at_, use_By := rv6.by_} 1 2 3 4]⟩, some (lvI q3), some (lvI lv6), some (lvI q4), some (m1w rv6.done), some ⟨1, [.ref 0 22 0 0]⟩, some ⟨3, [.d (WiTurn.d a)]⟩, some ⟨1, [.ref 0 22 0 0]⟩]) tb rfl rfl rfl rfl rfl rfl rfl rfl rfl rfl rfl rfl (ev_endD (by kernel_rfl) ?_)
  obtain rfl := Option.some.inj h
  exact fin_n (fin_S (t := .d (.tup [])) (L := [some ⟨22, [Table_T1 {rv6 with s_Used := q3, s_Credit := lv6, s_Last := q4, minute := a.at_, given := (-1), over := true, use_Team := o, use_At := a.at_, use_By := rv6.by_} 1 2 3 4]⟩, some (lvI q3), some (lvI lv6), some (lvI q4), some (m1w rv6.done)]) (κ := [0, 1, 2, 3, 4]) rfl .nil (vwK rfl rfl (.cons rfl rfl (.row rfl (.row rfl (.row rfl (.map rfl .nil))))) (.cons rfl rfl .nil)) (.inl ⟨_, rfl, rfl, rfl⟩))
 intro c9
 replace h := ifN (Int.not_le.2 c9) h
 refine ev_end (then_norm (sw_condF rfl (sw_skip (then_norm (sw_dr (by kernel_rfl) (r_ldR tb rfl rfl rfl rfl rfl rfl rfl rfl rfl (r_ldR tb rfl rfl rfl rfl rfl rfl rfl rfl rfl (r_ldR tb rfl rfl rfl rfl rfl rfl rfl rfl rfl (r_fa tb rfl rfl rfl rfl rfl rfl rfl (r_ldD (y := .v (.int .i64 a.at_)) tb rfl rfl rfl rfl rfl rfl rfl rfl rfl (r_nilRef rfl rfl rfl (r_fa tb rfl rfl rfl rfl rfl rfl rfl ?_))))))))))))
 refine r_stE _ ([some ⟨22, [Table_T1 {rv6 with s_Used := q3, s_Credit := lv6, s_Last := q4, over := true, use_Team := o, use_At := a.at_} 1 2 3 4]⟩, some (lvI q3), some (lvI lv6), some (lvI q4), some (m1w rv6.done), some ⟨1, [.ref 0 22 0 0]⟩, some ⟨3, [.d (WiTurn.d a)]⟩, some ⟨1, [.ref 0 22 0 0]⟩]) tb rfl rfl rfl rfl rfl rfl rfl rfl rfl rfl rfl rfl (r_nilRef rfl rfl rfl (r_fa tb rfl rfl rfl rfl rfl rfl rfl ?_))
 refine r_stE _ ([some ⟨22, [Table_T1 {rv6 with s_Used := q3, s_Credit := lv6, s_Last := q4, given := (-1), over := true, use_Team := o, use_At := a.at_} 1 2 3 4]⟩, some (lvI q3), some (lvI lv6), some (lvI q4), some (m1w rv6.done), some ⟨1, [.ref 0 22 0 0]⟩, some ⟨3, [.d (WiTurn.d a)]⟩, some ⟨1, [.ref 0 22 0 0]⟩]) tb rfl rfl rfl rfl rfl rfl rfl rfl rfl rfl rfl rfl (r_nilRef rfl rfl rfl (r_fa tb rfl rfl rfl rfl rfl rfl rfl ?_))
 refine r_stE _ ([some ⟨22, [Table_T1 {rv6 with s_Used := q3, s_Credit := lv6, s_Last := q4, minute := a.at_, given := (-1), over := true, use_Team := o, use_At := a.at_} 1 2 3 4]⟩, some (lvI q3), some (lvI lv6), some (lvI q4), some (m1w rv6.done), some ⟨1, [.ref 0 22 0 0]⟩, some ⟨3, [.d (WiTurn.d a)]⟩, some ⟨1, [.ref 0 22 0 0]⟩]) tb rfl rfl rfl rfl rfl rfl rfl rfl rfl rfl rfl rfl (ev_endD (by kernel_rfl) ?_)
 obtain rfl := Option.some.inj h
 exact fin_n (fin_S (t := .d (.tup [])) (L := [some ⟨22, [Table_T1 {rv6 with s_Used := q3, s_Credit := lv6, s_Last := q4, minute := a.at_, given := (-1), over := true, use_Team := o, use_At := a.at_} 1 2 3 4]⟩, some (lvI q3), some (lvI lv6), some (lvI q4), some (m1w rv6.done)]) (κ := [0, 1, 2, 3, 4]) rfl .nil (vwK rfl rfl (.cons rfl rfl (.row rfl (.row rfl (.row rfl (.map rfl .nil))))) (.cons rfl rfl .nil)) (.inl ⟨_, rfl, rfl, rfl⟩))
/-- (*window.table).act!0 -/
def window_table_act_m (F : Nat) (b : Table) (x : WiTurn) : Option (Except Int Table) := Option.bind (window_table_turn F b) fun rv => Option.bind (window_must F (decide (0 ≤ rv)) 9) fun rv2 => exE rv2 (fun x2 => some (.error x2)) (fun v => if x.what = 1 then (Option.bind (window_must F true 2) fun rv3 => exE rv3 (fun x3 => some (.error x3)) (fun v2 => Option.bind (window_table_launch_m F b rv x) fun rv4 => exE rv4 (fun x4 => some (.error x4)) (fun v3 => some (.ok v3)))) else if x.what = 2 then (Option.bind (window_must F true 2) fun rv5 => exE rv5 (fun x5 => some (.error x5)) (fun v4 => Option.bind (window_table_scrub_m F b rv x) fun rv6 => exE rv6 (fun x6 => some (.error x6)) (fun v5 => some (.ok v5)))) else if x.what = 3 then (Option.bind (window_must F true 2) fun rv7 => exE rv7 (fun x7 => some (.error x7)) (fun v6 => Option.bind (window_table_give_m F b rv x) fun rv8 => exE rv8 (fun x8 => some (.error x8)) (fun v7 => some (.ok v7)))) else (Option.bind (window_must F false 2) fun rv9 => exE rv9 (fun x9 => some (.error x9)) (fun v8 => none)))
theorem window_table_act_m_dfc : DfC Try.prog 97 29 := ⟨fun b w => by
 refine callsDIn_of_wpSIn Try.func97 rfl trivial fun c₀ cs hu => ?_
 apply wpSIn_seq
 apply wpSIn_region
 simp [wpOpsSIn, go_sem, recoverD, hu, Try.ntmps97, Exit.thenS]
 apply wpSIn_seq
 apply wpSIn_region
 simp [wpOpsSIn, go_sem, Exit.thenS]
 refine wpSIn_cond (t := false) (by simp [Act.eval, Array.replicate]) ?_
 simp only [Bool.false_eq_true, if_false]
 refine wpSIn_of_wpIn rfl (wpIn_skip ?_)
 cases c₀
 simp_all [bodyPostS, results, Try.results97], fun b E older w v cells e hb hc => by
 have hta : ∀ w : World, (Instr.typeAssert (.iface 29 (.int .i64 E)) 20 29 false).run Try.prog w = .ok (.int .i64 E) w := fun _ => by kernel_rfl
 refine callsDIn_of_wpSIn Try.func97 rfl trivial fun c₀ cs hu => ?_
 apply wpSIn_seq
 apply wpSIn_region
 simp [wpOpsSIn, go_sem, recoverD, hu, Try.ntmps97, Exit.thenS]
 apply wpSIn_seq
 apply wpSIn_region
 simp [wpOpsSIn, go_sem, Exit.thenS]
 refine wpSIn_cond (t := true) (by simp [Act.eval, Array.replicate]) ?_
 simp only [if_true]
 apply wpSIn_region
 simp [wpOpsSIn, go_sem, Exit.thenS, hta]
 have h1 : w.cell? ⟨b, 0, none⟩ = some v := by simp [World.cell?, hb, hc]
 have h2 : w.frozen? ⟨b, 0, none⟩ = false := by simp [World.frozen?, hb]
 rw [h1, h2]
 simp [bodyPostS, results, Try.results97]⟩
set_option maxHeartbeats 4000000 in
theorem window_table_act_m_sca {F : Nat} {b : Table} {x : WiTurn} {r : (Except Int Table)} (h : window_table_act_m F b x = some r) : SCA Try.prog 77 [.ref 0 22 0 0, .d (WiTurn.d x)] [some ⟨22, [Table_T1 b 1 2 3 4]⟩, some (lvI b.s_Used), some (lvI b.s_Credit), some (lvI b.s_Last), some (m1w b.done)] r (.d (.v (.int .i64 0))) (fun (a : Table) => [some ⟨22, [Table_T1 a 1 2 3 4]⟩, some (lvI a.s_Used), some (lvI a.s_Credit), some (lvI a.s_Last), some (m1w a.done)]) (fun e => .d (.v (.int .i64 e))) [none, none, none, none, none] := by
 rw [window_table_act_m] at h
 refine SC.of_swd Try.func77 rfl rfl rfl ?_
 simp only [List.map_cons, List.map_nil, argS, Nat.zero_add, Nat.reduceAdd]
 refine swd_seq (sw_rg (r_box rfl rfl rfl rfl rfl rfl rfl (r_alloc tb rfl rfl rfl rfl rfl (ev_end ?_))))
 refine ⟨rfl, ?_⟩
 refine swd_defer window_table_act_m_dfc (.of (by kernel_rfl)) (r_func rfl rfl rfl rfl ?_)
 refine ev_stop ⟨8, 6, _, _, _, rfl, rfl, by simp, fun df => ?_⟩
 refine sw_seq (sw_rg (r_movR rfl rfl rfl ?_))
 obtain ⟨rv, hrv, h⟩ := bnd h
 refine r_callL (window_table_turn_pc hrv) rfl (.of (by kernel_rfl)) rfl rfl ((.cons (.ref rfl (.aggL (.cons (.d _) (.cons (.d _) (.cons (.d _) (.cons (.d _) (.cons (.row rfl rfl) (.cons (.row rfl rfl) (.cons (.row rfl rfl) (.cons (.d _) (.cons (.d _) (.cons (.d _) (.cons (.d _) (.cons (.d _) (.cons (.d _) (.cons (.d _) (.cons (.mpM rfl) (.cons (.d _) (.cons (.d _) (.cons (.d _) (.cons (.d _) (.cons (.d _) (.cons (.d _) (.cons (.d _) .nil)))))))))))))))))))))))) .nil)) rfl rfl (r_asgD rfl rfl rfl (ev_end (then_norm (sw_seq (sw_rgP (r_movD rfl rfl rfl (r_geqV rfl rfl rfl rfl ?_)))))))
 obtain ⟨rv2, hrv2, h⟩ := bnd h
 rcases ex_or rv2 with ⟨x2, nv⟩ | ⟨v, nv⟩
 ·replace h := (exN nv).symm.trans h
  refine ev_pan ?_
  (with_reducible apply op_call []); exact (window_must_scx hrv2).err nv; exact rfl; exact .of (by kernel_rfl); exact rfl; exact .inl ⟨rfl, rfl, rfl⟩; (iterate 4 exact rfl); exact .nil; exact rfl
  intro cnt
  refine then_pan ?_
  obtain rfl := Option.some.inj h
  refine ⟨_, _, rfl, rfl, ?_⟩
  exact (fin_S (t := .d (.v (.int .i64 x2))) (L := [none, none, none, none, none]) (κ := [0, 1, 2, 3, 4]) rfl (.cons (rcell tb (u := .d (.v (.int .i64 x2))) rfl rfl rfl rfl rfl rfl rfl) .nil) (vwK rfl rfl (.gone rfl (.gone rfl (.gone rfl (.gone rfl (.gone rfl .nil))))) (.cons rfl rfl .nil)) (.inr ⟨_, rfl, rfl, rfl⟩))
 replace h := (exO nv).symm.trans h
 refine r_callO (t' := .d (.tup [])) (ls := []) (news := []) ([]) ([some ⟨22, [Table_T1 b 1 2 3 4]⟩, some (lvI b.s_Used), some (lvI b.s_Credit), some (lvI b.s_Last), some (m1w b.done), some ⟨3, [.d (WiTurn.d x)]⟩, some ⟨1, [.d (.v (.int .i64 0))]⟩]) ((window_must_scx hrv2).ok nv) (.of (by kernel_rfl)) rfl (.inl ⟨rfl, rfl, rfl⟩) rfl rfl rfl rfl .nil rfl rfl rfl .nil .nil rfl rfl rfl rfl (ev_endP (then_norm (sw_seq (sw_rg (r_makeMap rfl rfl rfl (r_movR rfl rfl rfl (r_func rfl rfl rfl rfl ?_)))))))
 refine r_insT (([] : List (Int × T))) (([(1, .fn (.func 99) [.ref 0 22 0 0] [])] : List (Int × T))) ([some ⟨22, [Table_T1 b 1 2 3 4]⟩, some (lvI b.s_Used), some (lvI b.s_Credit), some (lvI b.s_Last), some (m1w b.done), some ⟨3, [.d (WiTurn.d x)]⟩, some ⟨1, [.d (.v (.int .i64 0))]⟩, some ⟨0, (([(1, .fn (.func 99) [.ref 0 22 0 0] [])] : List (Int × T))).map fun p => .agg [.d (.v (.int .i64 p.1)), p.2]⟩]) rfl rfl rfl rfl rfl rfl rfl rfl rfl ?_
 refine r_movR rfl rfl rfl (r_func rfl rfl rfl rfl ?_)
 refine r_insT (([(1, .fn (.func 99) [.ref 0 22 0 0] [])] : List (Int × T))) (([(1, .fn (.func 99) [.ref 0 22 0 0] []), (2, .fn (.func 100) [.ref 0 22 0 0] [])] : List (Int × T))) ([some ⟨22, [Table_T1 b 1 2 3 4]⟩, some (lvI b.s_Used), some (lvI b.s_Credit), some (lvI b.s_Last), some (m1w b.done), some ⟨3, [.d (WiTurn.d x)]⟩, some ⟨1, [.d (.v (.int .i64 0))]⟩, some ⟨0, (([(1, .fn (.func 99) [.ref 0 22 0 0] []), (2, .fn (.func 100) [.ref 0 22 0 0] [])] : List (Int × T))).map fun p => .agg [.d (.v (.int .i64 p.1)), p.2]⟩]) rfl rfl rfl rfl rfl rfl rfl rfl rfl ?_
 refine r_movR rfl rfl rfl (r_func rfl rfl rfl rfl ?_)
 refine r_insT (([(1, .fn (.func 99) [.ref 0 22 0 0] []), (2, .fn (.func 100) [.ref 0 22 0 0] [])] : List (Int × T))) (([(1, .fn (.func 99) [.ref 0 22 0 0] []), (2, .fn (.func 100) [.ref 0 22 0 0] []), (3, .fn (.func 101) [.ref 0 22 0 0] [])] : List (Int × T))) ([some ⟨22, [Table_T1 b 1 2 3 4]⟩, some (lvI b.s_Used), some (lvI b.s_Credit), some (lvI b.s_Last), some (m1w b.done), some ⟨3, [.d (WiTurn.d x)]⟩, some ⟨1, [.d (.v (.int .i64 0))]⟩, some ⟨0, (([(1, .fn (.func 99) [.ref 0 22 0 0] []), (2, .fn (.func 100) [.ref 0 22 0 0] []), (3, .fn (.func 101) [.ref 0 22 0 0] [])] : List (Int × T))).map fun p => .agg [.d (.v (.int .i64 p.1)), p.2]⟩]) rfl rfl rfl rfl rfl rfl rfl rfl rfl ?_
 refine r_movT (.mp 7) rfl rfl rfl (r_fa tb rfl rfl rfl rfl rfl rfl rfl (r_ldD (y := .v (.int .i64 x.what)) tb rfl rfl rfl rfl rfl rfl rfl rfl rfl ?_))
 by_cases c : x.what = 1
 ·replace h := ifP c h
  refine r_lkT (([(1, .fn (.func 99) [.ref 0 22 0 0] []), (2, .fn (.func 100) [.ref 0 22 0 0] []), (3, .fn (.func 101) [.ref 0 22 0 0] [])] : List (Int × T))) tb rfl rfl rfl rfl rfl rfl (by simp [mget, c]; try rfl) rfl rfl (r_movT (.tup [.fn (.func 99) [.ref 0 22 0 0] [], .d (.v (.bool true))]) rfl rfl rfl (r_ext (t := .fn (.func 99) [.ref 0 22 0 0] []) rfl rfl rfl rfl (r_ext (t := .d (.v (.bool true))) rfl rfl rfl rfl (r_asgF rfl rfl rfl (r_asgD rfl rfl rfl (ev_end (then_norm (sw_seq (sw_rgP (r_movD rfl rfl rfl ?_))))))))))
  obtain ⟨rv3, hrv3, h⟩ := bnd h
  rcases ex_or rv3 with ⟨x3, nv2⟩ | ⟨v2, nv2⟩
  ·replace h := (exN nv2).symm.trans h
   refine ev_pan ?_
   (with_reducible apply op_call []); exact (window_must_scx hrv3).err nv2; exact rfl; exact .of (by kernel_rfl); exact rfl; exact .inl ⟨rfl, rfl, rfl⟩; (iterate 4 exact rfl); exact .nil; exact rfl
   intro cnt
   refine then_pan ?_
   obtain rfl := Option.some.inj h
   refine ⟨_, _, rfl, rfl, ?_⟩
   exact (fin_S (t := .d (.v (.int .i64 x3))) (L := [none, none, none, none, none]) (κ := [0, 1, 2, 3, 4]) rfl (.cons (rcell tb (u := .d (.v (.int .i64 x3))) rfl rfl rfl rfl rfl rfl rfl) .nil) (vwK rfl rfl (.gone rfl (.gone rfl (.gone rfl (.gone rfl (.gone rfl .nil))))) (.cons rfl rfl .nil)) (.inr ⟨_, rfl, rfl, rfl⟩))
  replace h := (exO nv2).symm.trans h
  refine r_callO (t' := .d (.tup [])) (ls := []) (news := []) ([]) ([some ⟨22, [Table_T1 b 1 2 3 4]⟩, some (lvI b.s_Used), some (lvI b.s_Credit), some (lvI b.s_Last), some (m1w b.done), some ⟨3, [.d (WiTurn.d x)]⟩, some ⟨1, [.d (.v (.int .i64 0))]⟩, some ⟨0, (([(1, .fn (.func 99) [.ref 0 22 0 0] []), (2, .fn (.func 100) [.ref 0 22 0 0] []), (3, .fn (.func 101) [.ref 0 22 0 0] [])] : List (Int × T))).map fun p => .agg [.d (.v (.int .i64 p.1)), p.2]⟩]) ((window_must_scx hrv3).ok nv2) (.of (by kernel_rfl)) rfl (.inl ⟨rfl, rfl, rfl⟩) rfl rfl rfl rfl .nil rfl rfl rfl .nil .nil rfl rfl rfl rfl ?_
  refine ev_endP (then_norm (sw_seq (sw_rgP (r_movF rfl rfl rfl (r_movD rfl rfl rfl (r_ldD (y := WiTurn.d x) tb rfl rfl rfl rfl rfl rfl rfl rfl rfl ?_))))))
  obtain ⟨rv4, hrv4, h⟩ := bnd h
  rcases ex_or rv4 with ⟨x4, nv3⟩ | ⟨v3, nv3⟩
  ·replace h := (exN nv3).symm.trans h
   refine ev_pan ?_
   (with_reducible apply op_call [0, 1, 2, 3, 4]); exact (window_table_launch_m_scx hrv4).err nv3; exact rfl; exact .of (by kernel_rfl); exact rfl; exact .inr rfl; (iterate 4 exact rfl); exact (.cons rfl rfl (.row rfl (.row rfl (.row rfl (.map rfl .nil))))); exact rfl
   intro cnt
   refine then_pan ?_
   obtain rfl := Option.some.inj h
   refine ⟨_, _, rfl, rfl, ?_⟩
   exact (fin_S (t := .d (.v (.int .i64 x4))) (L := [none, none, none, none, none]) (κ := [0, 1, 2, 3, 4]) rfl (.cons (rcell tb (u := .d (.v (.int .i64 x4))) rfl rfl rfl rfl rfl rfl rfl) .nil) (vwK rfl rfl (.gone rfl (.gone rfl (.gone rfl (.gone rfl (.gone rfl .nil))))) (.cons rfl rfl .nil)) (.inr ⟨_, rfl, rfl, rfl⟩))
  replace h := (exO nv3).symm.trans h
  refine r_callO (t' := .d (.tup [])) (ls := [some ⟨22, [Table_T1 v3 1 2 3 4]⟩, some (lvI v3.s_Used), some (lvI v3.s_Credit), some (lvI v3.s_Last), some (m1w v3.done)]) (news := []) ([0, 1, 2, 3, 4]) ([some ⟨22, [Table_T1 v3 1 2 3 4]⟩, some (lvI v3.s_Used), some (lvI v3.s_Credit), some (lvI v3.s_Last), some (m1w v3.done), some ⟨3, [.d (WiTurn.d x)]⟩, some ⟨1, [.d (.v (.int .i64 0))]⟩, some ⟨0, (([(1, .fn (.func 99) [.ref 0 22 0 0] []), (2, .fn (.func 100) [.ref 0 22 0 0] []), (3, .fn (.func 101) [.ref 0 22 0 0] [])] : List (Int × T))).map fun p => .agg [.d (.v (.int .i64 p.1)), p.2]⟩]) ((window_table_launch_m_scx hrv4).ok nv3) (.of (by kernel_rfl)) rfl (.inr rfl) rfl rfl rfl rfl ((.cons rfl rfl (.row rfl (.row rfl (.row rfl (.map rfl .nil)))))) rfl rfl rfl ((.cons rfl (.row (.row (.row (.map .nil)))))) .nil rfl rfl rfl rfl ?_
  refine ev_endP (then_norm (sw_seq (sw_rg ?_)))
  refine r_stE _ ([some ⟨22, [Table_T1 v3 1 2 3 4]⟩, some (lvI v3.s_Used), some (lvI v3.s_Credit), some (lvI v3.s_Last), some (m1w v3.done), some ⟨3, [.d (WiTurn.d x)]⟩, some ⟨1, [.d (.v (.int .i64 0))]⟩, some ⟨0, (([(1, .fn (.func 99) [.ref 0 22 0 0] []), (2, .fn (.func 100) [.ref 0 22 0 0] []), (3, .fn (.func 101) [.ref 0 22 0 0] [])] : List (Int × T))).map fun p => .agg [.d (.v (.int .i64 p.1)), p.2]⟩]) tb rfl rfl rfl rfl rfl rfl rfl rfl rfl rfl rfl rfl ?_
  refine ev_end (then_norm (sw_ret ?_))
  obtain rfl := Option.some.inj h
  exact qd_ret (fin_S (t := .d (.v (.int .i64 0))) (L := [some ⟨22, [Table_T1 v3 1 2 3 4]⟩, some (lvI v3.s_Used), some (lvI v3.s_Credit), some (lvI v3.s_Last), some (m1w v3.done)]) (κ := [0, 1, 2, 3, 4]) rfl (.cons (rcell tb (u := .d (.v (.int .i64 0))) rfl rfl rfl rfl rfl rfl rfl) .nil) (vwK rfl rfl (.cons rfl rfl (.row rfl (.row rfl (.row rfl (.map rfl .nil))))) (.cons rfl rfl .nil)) (.inl ⟨_, rfl, rfl, rfl⟩))
 replace h := ifN c h
 by_cases c2 : x.what = 2
 ·replace h := ifP c2 h
  refine r_lkT (([(1, .fn (.func 99) [.ref 0 22 0 0] []), (2, .fn (.func 100) [.ref 0 22 0 0] []), (3, .fn (.func 101) [.ref 0 22 0 0] [])] : List (Int × T))) tb rfl rfl rfl rfl rfl rfl (by simp [mget, c2]; try rfl) rfl rfl (r_movT (.tup [.fn (.func 100) [.ref 0 22 0 0] [], .d (.v (.bool true))]) rfl rfl rfl (r_ext (t := .fn (.func 100) [.ref 0 22 0 0] []) rfl rfl rfl rfl (r_ext (t := .d (.v (.bool true))) rfl rfl rfl rfl (r_asgF rfl rfl rfl (r_asgD rfl rfl rfl (ev_end (then_norm (sw_seq (sw_rgP (r_movD rfl rfl rfl ?_))))))))))
  obtain ⟨rv5, hrv5, h⟩ := bnd h
  rcases ex_or rv5 with ⟨x5, nv4⟩ | ⟨v4, nv4⟩
  ·replace h := (exN nv4).symm.trans h
   refine ev_pan ?_
   (with_reducible apply op_call []); exact (window_must_scx hrv5).err nv4; exact rfl; exact .of (by kernel_rfl); exact rfl; exact .inl ⟨rfl, rfl, rfl⟩; (iterate 4 exact rfl); exact .nil; exact rfl
   intro cnt
   refine then_pan ?_
   obtain rfl := Option.some.inj h
   refine ⟨_, _, rfl, rfl, ?_⟩
   exact (fin_S (t := .d (.v (.int .i64 x5))) (L := [none, none, none, none, none]) (κ := [0, 1, 2, 3, 4]) rfl (.cons (rcell tb (u := .d (.v (.int .i64 x5))) rfl rfl rfl rfl rfl rfl rfl) .nil) (vwK rfl rfl (.gone rfl (.gone rfl (.gone rfl (.gone rfl (.gone rfl .nil))))) (.cons rfl rfl .nil)) (.inr ⟨_, rfl, rfl, rfl⟩))
  replace h := (exO nv4).symm.trans h
  refine r_callO (t' := .d (.tup [])) (ls := []) (news := []) ([]) ([some ⟨22, [Table_T1 b 1 2 3 4]⟩, some (lvI b.s_Used), some (lvI b.s_Credit), some (lvI b.s_Last), some (m1w b.done), some ⟨3, [.d (WiTurn.d x)]⟩, some ⟨1, [.d (.v (.int .i64 0))]⟩, some ⟨0, (([(1, .fn (.func 99) [.ref 0 22 0 0] []), (2, .fn (.func 100) [.ref 0 22 0 0] []), (3, .fn (.func 101) [.ref 0 22 0 0] [])] : List (Int × T))).map fun p => .agg [.d (.v (.int .i64 p.1)), p.2]⟩]) ((window_must_scx hrv5).ok nv4) (.of (by kernel_rfl)) rfl (.inl ⟨rfl, rfl, rfl⟩) rfl rfl rfl rfl .nil rfl rfl rfl .nil .nil rfl rfl rfl rfl ?_
  refine ev_endP (then_norm (sw_seq (sw_rgP (r_movF rfl rfl rfl (r_movD rfl rfl rfl (r_ldD (y := WiTurn.d x) tb rfl rfl rfl rfl rfl rfl rfl rfl rfl ?_))))))
  obtain ⟨rv6, hrv6, h⟩ := bnd h
  rcases ex_or rv6 with ⟨x6, nv5⟩ | ⟨v5, nv5⟩
  ·replace h := (exN nv5).symm.trans h
   refine ev_pan ?_
   (with_reducible apply op_call [0, 1, 2, 3, 4]); exact (window_table_scrub_m_scx hrv6).err nv5; exact rfl; exact .of (by kernel_rfl); exact rfl; exact .inr rfl; (iterate 4 exact rfl); exact (.cons rfl rfl (.row rfl (.row rfl (.row rfl (.map rfl .nil))))); exact rfl
   intro cnt
   refine then_pan ?_
   obtain rfl := Option.some.inj h
   refine ⟨_, _, rfl, rfl, ?_⟩
   exact (fin_S (t := .d (.v (.int .i64 x6))) (L := [none, none, none, none, none]) (κ := [0, 1, 2, 3, 4]) rfl (.cons (rcell tb (u := .d (.v (.int .i64 x6))) rfl rfl rfl rfl rfl rfl rfl) .nil) (vwK rfl rfl (.gone rfl (.gone rfl (.gone rfl (.gone rfl (.gone rfl .nil))))) (.cons rfl rfl .nil)) (.inr ⟨_, rfl, rfl, rfl⟩))
  replace h := (exO nv5).symm.trans h
  refine r_callO (t' := .d (.tup [])) (ls := [some ⟨22, [Table_T1 v5 1 2 3 4]⟩, some (lvI v5.s_Used), some (lvI v5.s_Credit), some (lvI v5.s_Last), some (m1w v5.done)]) (news := []) ([0, 1, 2, 3, 4]) ([some ⟨22, [Table_T1 v5 1 2 3 4]⟩, some (lvI v5.s_Used), some (lvI v5.s_Credit), some (lvI v5.s_Last), some (m1w v5.done), some ⟨3, [.d (WiTurn.d x)]⟩, some ⟨1, [.d (.v (.int .i64 0))]⟩, some ⟨0, (([(1, .fn (.func 99) [.ref 0 22 0 0] []), (2, .fn (.func 100) [.ref 0 22 0 0] []), (3, .fn (.func 101) [.ref 0 22 0 0] [])] : List (Int × T))).map fun p => .agg [.d (.v (.int .i64 p.1)), p.2]⟩]) ((window_table_scrub_m_scx hrv6).ok nv5) (.of (by kernel_rfl)) rfl (.inr rfl) rfl rfl rfl rfl ((.cons rfl rfl (.row rfl (.row rfl (.row rfl (.map rfl .nil)))))) rfl rfl rfl ((.cons rfl (.row (.row (.row (.map .nil)))))) .nil rfl rfl rfl rfl ?_
  refine ev_endP (then_norm (sw_seq (sw_rg ?_)))
  refine r_stE _ ([some ⟨22, [Table_T1 v5 1 2 3 4]⟩, some (lvI v5.s_Used), some (lvI v5.s_Credit), some (lvI v5.s_Last), some (m1w v5.done), some ⟨3, [.d (WiTurn.d x)]⟩, some ⟨1, [.d (.v (.int .i64 0))]⟩, some ⟨0, (([(1, .fn (.func 99) [.ref 0 22 0 0] []), (2, .fn (.func 100) [.ref 0 22 0 0] []), (3, .fn (.func 101) [.ref 0 22 0 0] [])] : List (Int × T))).map fun p => .agg [.d (.v (.int .i64 p.1)), p.2]⟩]) tb rfl rfl rfl rfl rfl rfl rfl rfl rfl rfl rfl rfl ?_
  refine ev_end (then_norm (sw_ret ?_))
  obtain rfl := Option.some.inj h
  exact qd_ret (fin_S (t := .d (.v (.int .i64 0))) (L := [some ⟨22, [Table_T1 v5 1 2 3 4]⟩, some (lvI v5.s_Used), some (lvI v5.s_Credit), some (lvI v5.s_Last), some (m1w v5.done)]) (κ := [0, 1, 2, 3, 4]) rfl (.cons (rcell tb (u := .d (.v (.int .i64 0))) rfl rfl rfl rfl rfl rfl rfl) .nil) (vwK rfl rfl (.cons rfl rfl (.row rfl (.row rfl (.row rfl (.map rfl .nil))))) (.cons rfl rfl .nil)) (.inl ⟨_, rfl, rfl, rfl⟩))
 replace h := ifN c2 h
 by_cases c3 : x.what = 3
 ·replace h := ifP c3 h
  refine r_lkT (([(1, .fn (.func 99) [.ref 0 22 0 0] []), (2, .fn (.func 100) [.ref 0 22 0 0] []), (3, .fn (.func 101) [.ref 0 22 0 0] [])] : List (Int × T))) tb rfl rfl rfl rfl rfl rfl (by simp [mget, c3]; try rfl) rfl rfl (r_movT (.tup [.fn (.func 101) [.ref 0 22 0 0] [], .d (.v (.bool true))]) rfl rfl rfl (r_ext (t := .fn (.func 101) [.ref 0 22 0 0] []) rfl rfl rfl rfl (r_ext (t := .d (.v (.bool true))) rfl rfl rfl rfl (r_asgF rfl rfl rfl (r_asgD rfl rfl rfl (ev_end (then_norm (sw_seq (sw_rgP (r_movD rfl rfl rfl ?_))))))))))
  obtain ⟨rv7, hrv7, h⟩ := bnd h
  rcases ex_or rv7 with ⟨x7, nv6⟩ | ⟨v6, nv6⟩
  ·replace h := (exN nv6).symm.trans h
   refine ev_pan ?_
   (with_reducible apply op_call []); exact (window_must_scx hrv7).err nv6; exact rfl; exact .of (by kernel_rfl); exact rfl; exact .inl ⟨rfl, rfl, rfl⟩; (iterate 4 exact rfl); exact .nil; exact rfl
   intro cnt
   refine then_pan ?_
   obtain rfl := Option.some.inj h
   refine ⟨_, _, rfl, rfl, ?_⟩
   exact (fin_S (t := .d (.v (.int .i64 x7))) (L := [none, none, none, none, none]) (κ := [0, 1, 2, 3, 4]) rfl (.cons (rcell tb (u := .d (.v (.int .i64 x7))) rfl rfl rfl rfl rfl rfl rfl) .nil) (vwK rfl rfl (.gone rfl (.gone rfl (.gone rfl (.gone rfl (.gone rfl .nil))))) (.cons rfl rfl .nil)) (.inr ⟨_, rfl, rfl, rfl⟩))
  replace h := (exO nv6).symm.trans h
  refine r_callO (t' := .d (.tup [])) (ls := []) (news := []) ([]) ([some ⟨22, [Table_T1 b 1 2 3 4]⟩, some (lvI b.s_Used), some (lvI b.s_Credit), some (lvI b.s_Last), some (m1w b.done), some ⟨3, [.d (WiTurn.d x)]⟩, some ⟨1, [.d (.v (.int .i64 0))]⟩, some ⟨0, (([(1, .fn (.func 99) [.ref 0 22 0 0] []), (2, .fn (.func 100) [.ref 0 22 0 0] []), (3, .fn (.func 101) [.ref 0 22 0 0] [])] : List (Int × T))).map fun p => .agg [.d (.v (.int .i64 p.1)), p.2]⟩]) ((window_must_scx hrv7).ok nv6) (.of (by kernel_rfl)) rfl (.inl ⟨rfl, rfl, rfl⟩) rfl rfl rfl rfl .nil rfl rfl rfl .nil .nil rfl rfl rfl rfl ?_
  refine ev_endP (then_norm (sw_seq (sw_rgP (r_movF rfl rfl rfl (r_movD rfl rfl rfl (r_ldD (y := WiTurn.d x) tb rfl rfl rfl rfl rfl rfl rfl rfl rfl ?_))))))
  obtain ⟨rv8, hrv8, h⟩ := bnd h
  rcases ex_or rv8 with ⟨x8, nv7⟩ | ⟨v7, nv7⟩
  ·replace h := (exN nv7).symm.trans h
   refine ev_pan ?_
   (with_reducible apply op_call [0, 1, 2, 3, 4]); exact (window_table_give_m_scx hrv8).err nv7; exact rfl; exact .of (by kernel_rfl); exact rfl; exact .inr rfl; (iterate 4 exact rfl); exact (.cons rfl rfl (.row rfl (.row rfl (.row rfl (.map rfl .nil))))); exact rfl
   intro cnt
   refine then_pan ?_
   obtain rfl := Option.some.inj h
   refine ⟨_, _, rfl, rfl, ?_⟩
   exact (fin_S (t := .d (.v (.int .i64 x8))) (L := [none, none, none, none, none]) (κ := [0, 1, 2, 3, 4]) rfl (.cons (rcell tb (u := .d (.v (.int .i64 x8))) rfl rfl rfl rfl rfl rfl rfl) .nil) (vwK rfl rfl (.gone rfl (.gone rfl (.gone rfl (.gone rfl (.gone rfl .nil))))) (.cons rfl rfl .nil)) (.inr ⟨_, rfl, rfl, rfl⟩))
  replace h := (exO nv7).symm.trans h
  refine r_callO (t' := .d (.tup [])) (ls := [some ⟨22, [Table_T1 v7 1 2 3 4]⟩, some (lvI v7.s_Used), some (lvI v7.s_Credit), some (lvI v7.s_Last), some (m1w v7.done)]) (news := []) ([0, 1, 2, 3, 4]) ([some ⟨22, [Table_T1 v7 1 2 3 4]⟩, some (lvI v7.s_Used), some (lvI v7.s_Credit), some (lvI v7.s_Last), some (m1w v7.done), some ⟨3, [.d (WiTurn.d x)]⟩, some ⟨1, [.d (.v (.int .i64 0))]⟩, some ⟨0, (([(1, .fn (.func 99) [.ref 0 22 0 0] []), (2, .fn (.func 100) [.ref 0 22 0 0] []), (3, .fn (.func 101) [.ref 0 22 0 0] [])] : List (Int × T))).map fun p => .agg [.d (.v (.int .i64 p.1)), p.2]⟩]) ((window_table_give_m_scx hrv8).ok nv7) (.of (by kernel_rfl)) rfl (.inr rfl) rfl rfl rfl rfl ((.cons rfl rfl (.row rfl (.row rfl (.row rfl (.map rfl .nil)))))) rfl rfl rfl ((.cons rfl (.row (.row (.row (.map .nil)))))) .nil rfl rfl rfl rfl ?_
  refine ev_endP (then_norm (sw_seq (sw_rg ?_)))
  refine r_stE _ ([some ⟨22, [Table_T1 v7 1 2 3 4]⟩, some (lvI v7.s_Used), some (lvI v7.s_Credit), some (lvI v7.s_Last), some (m1w v7.done), some ⟨3, [.d (WiTurn.d x)]⟩, some ⟨1, [.d (.v (.int .i64 0))]⟩, some ⟨0, (([(1, .fn (.func 99) [.ref 0 22 0 0] []), (2, .fn (.func 100) [.ref 0 22 0 0] []), (3, .fn (.func 101) [.ref 0 22 0 0] [])] : List (Int × T))).map fun p => .agg [.d (.v (.int .i64 p.1)), p.2]⟩]) tb rfl rfl rfl rfl rfl rfl rfl rfl rfl rfl rfl rfl ?_
  refine ev_end (then_norm (sw_ret ?_))
  obtain rfl := Option.some.inj h
  exact qd_ret (fin_S (t := .d (.v (.int .i64 0))) (L := [some ⟨22, [Table_T1 v7 1 2 3 4]⟩, some (lvI v7.s_Used), some (lvI v7.s_Credit), some (lvI v7.s_Last), some (m1w v7.done)]) (κ := [0, 1, 2, 3, 4]) rfl (.cons (rcell tb (u := .d (.v (.int .i64 0))) rfl rfl rfl rfl rfl rfl rfl) .nil) (vwK rfl rfl (.cons rfl rfl (.row rfl (.row rfl (.row rfl (.map rfl .nil))))) (.cons rfl rfl .nil)) (.inl ⟨_, rfl, rfl, rfl⟩))
 replace h := ifN c3 h
 refine r_lkF (([(1, .fn (.func 99) [.ref 0 22 0 0] []), (2, .fn (.func 100) [.ref 0 22 0 0] []), (3, .fn (.func 101) [.ref 0 22 0 0] [])] : List (Int × T))) tb rfl rfl rfl rfl rfl rfl (by simp [mget, c, c2, c3]) rfl rfl rfl (r_movT (.tup [.d (.v .nilFunc), .d (.v (.bool false))]) rfl rfl rfl (r_ext (t := .d (.v .nilFunc)) rfl rfl rfl rfl (r_ext (t := .d (.v (.bool false))) rfl rfl rfl rfl (r_asgD rfl rfl rfl (r_asgD rfl rfl rfl (ev_end (then_norm (sw_seq (sw_rgP (r_movD rfl rfl rfl ?_))))))))))
 obtain ⟨rv9, hrv9, h⟩ := bnd h
 rcases ex_or rv9 with ⟨x9, nv8⟩ | ⟨v8, nv8⟩
 ·replace h := (exN nv8).symm.trans h
  refine ev_pan ?_
  (with_reducible apply op_call []); exact (window_must_scx hrv9).err nv8; exact rfl; exact .of (by kernel_rfl); exact rfl; exact .inl ⟨rfl, rfl, rfl⟩; (iterate 4 exact rfl); exact .nil; exact rfl
  intro cnt
  refine then_pan ?_
  obtain rfl := Option.some.inj h
  refine ⟨_, _, rfl, rfl, ?_⟩
  exact (fin_S (t := .d (.v (.int .i64 x9))) (L := [none, none, none, none, none]) (κ := [0, 1, 2, 3, 4]) rfl (.cons (rcell tb (u := .d (.v (.int .i64 x9))) rfl rfl rfl rfl rfl rfl rfl) .nil) (vwK rfl rfl (.gone rfl (.gone rfl (.gone rfl (.gone rfl (.gone rfl .nil))))) (.cons rfl rfl .nil)) (.inr ⟨_, rfl, rfl, rfl⟩))
 replace h := (exO nv8).symm.trans h
 refine r_callO (t' := .d (.tup [])) (ls := []) (news := []) ([]) ([some ⟨22, [Table_T1 b 1 2 3 4]⟩, some (lvI b.s_Used), some (lvI b.s_Credit), some (lvI b.s_Last), some (m1w b.done), some ⟨3, [.d (WiTurn.d x)]⟩, some ⟨1, [.d (.v (.int .i64 0))]⟩, some ⟨0, (([(1, .fn (.func 99) [.ref 0 22 0 0] []), (2, .fn (.func 100) [.ref 0 22 0 0] []), (3, .fn (.func 101) [.ref 0 22 0 0] [])] : List (Int × T))).map fun p => .agg [.d (.v (.int .i64 p.1)), p.2]⟩]) ((window_must_scx hrv9).ok nv8) (.of (by kernel_rfl)) rfl (.inl ⟨rfl, rfl, rfl⟩) rfl rfl rfl rfl .nil rfl rfl rfl .nil .nil rfl rfl rfl rfl ?_
 cases h
/-- window.play -/
def window_play_L1 (F : Nat) (turns : (List WiTurn)) (K : Option ((Option Table) × Int)) : Nat → Option ((Option Table) × Int)
 | 0 => none
 | n + 1 => if 0 < (turns.length : Int) then (none) else (K )
def window_play_L2 (F : Nat) (turns : (List WiTurn)) (K : (List WiTeam) → (List WiWindow) → Int → Int → (List Int) → (List Int) → (List Int) → Int → (List Int) → Int → Int → Int → Int → Int → (List (Int × Bool)) → Int → Int → Bool → Int → Int → Int → Int → Int → Option ((Option Table) × Int)) : Nat → (List WiTeam) → (List WiWindow) → Int → Int → (List Int) → (List Int) → (List Int) → Int → (List Int) → Int → Int → Int → Int → Int → (List (Int × Bool)) → Int → Int → Bool → Int → Int → Int → Int → Int → Option ((Option Table) × Int)
 | 0, _, _, _, _, _, _, _, _, _, _, _, _, _, _, _, _, _, _, _, _, _, _, _ => none
 | n + 1, b, b2, b3, b4, b5, b6, b7, b8, b9, b10, b11, b12, b13, b14, b15, b16, b17, b18, b19, b20, b21, b22, x => if x < (turns.length : Int) then (Option.bind (ixO turns x) fun e2 => Option.bind (window_table_act_m F (Table.mk b b2 b3 b4 b5 b6 b7 b8 b9 b10 b11 b12 b13 b14 b15 b16 b17 b18 b19 b20 b21 b22) e2) fun rv2 => exE rv2 (fun x2 => if x2 = 0 then (none) else (some (none, x2))) (fun v => window_play_L2 F turns K n v.p_Teams v.p_Windows v.p_Cost v.p_Gift v.s_Used v.s_Credit v.s_Last v.s_Next v.sky_Kinds v.sky_Wind v.w_Day v.w_From v.w_Until v.minute v.done v.given v.by_ v.over v.use_Window v.use_Team v.use_At v.use_By (W (x + 1)))) else (K b b2 b3 b4 b5 b6 b7 b8 b9 b10 b11 b12 b13 b14 b15 b16 b17 b18 b19 b20 b21 b22 x)
def window_play (F : Nat) (p : WiPlan) (s : WiState) (sky : WiSky) (turns : (List WiTurn)) : Option ((Option Table) × Int) := Option.bind (window_begin F p s sky) fun rv => optE rv.1 (if rv.2 = 0 then (if 16 < (turns.length : Int) then (some (none, 3)) else (window_play_L1 F turns (some (none, 0)) F )) else (some (none, rv.2))) (fun t => if rv.2 = 0 then (if 16 < (turns.length : Int) then (some (none, 3)) else (window_play_L2 F turns (fun (b : (List WiTeam)) (b2 : (List WiWindow)) (b3 : Int) (b4 : Int) (b5 : (List Int)) (b6 : (List Int)) (b7 : (List Int)) (b8 : Int) (b9 : (List Int)) (b10 : Int) (b11 : Int) (b12 : Int) (b13 : Int) (b14 : Int) (b15 : (List (Int × Bool))) (b16 : Int) (b17 : Int) (b18 : Bool) (b19 : Int) (b20 : Int) (b21 : Int) (b22 : Int) (x : Int) => some ((some (Table.mk b b2 b3 b4 b5 b6 b7 b8 b9 b10 b11 b12 b13 b14 b15 b16 b17 b18 b19 b20 b21 b22)), 0)) F t.p_Teams t.p_Windows t.p_Cost t.p_Gift t.s_Used t.s_Credit t.s_Last t.s_Next t.sky_Kinds t.sky_Wind t.w_Day t.w_From t.w_Until t.minute t.done t.given t.by_ t.over t.use_Window t.use_Team t.use_At t.use_By 0)) else (some (none, rv.2)))
set_option maxHeartbeats 4000000 in
theorem window_play_sco {F : Nat} {p : WiPlan} {s : WiState} {sky : WiSky} {turns : (List WiTurn)} {r : ((Option Table) × Int)} (h : window_play F p s sky turns = some r) : SCO Try.prog 58 (List.map T.d [WiPlan.d p, WiState.d s, WiSky.d sky, .arr 3 ((turns).map WiTurn.d)]) [] r.1 (.d (.tup [.v (.pointer none), .v (.int .i64 r.2)])) (List.map some []) (fun (tt : Table) => .tup [.ref 0 22 0 0, .d (.v (.int .i64 r.2))]) (fun (tt : Table) => List.map some [⟨22, [Table_T1 tt 1 2 3 4]⟩, (lvI tt.s_Used), (lvI tt.s_Credit), (lvI tt.s_Last), (m1w tt.done)]) := by
 rw [window_play] at h
 refine SC.of_sw Try.func58 rfl rfl rfl ?_
 simp only [List.map_cons, List.map_nil, argS, Nat.zero_add, Nat.reduceAdd]
 refine sw_seq (sw_rg (r_box rfl rfl rfl rfl rfl rfl rfl (r_box rfl rfl rfl rfl rfl rfl rfl (r_box rfl rfl rfl rfl rfl rfl rfl (r_asgD rfl rfl rfl (r_asgD rfl rfl rfl (ev_end (then_norm (sw_seq (sw_rg (r_ldD (y := WiPlan.d p) tb rfl rfl rfl rfl rfl rfl rfl rfl rfl (r_ldD (y := WiState.d s) tb rfl rfl rfl rfl rfl rfl rfl rfl rfl (r_ldD (y := WiSky.d sky) tb rfl rfl rfl rfl rfl rfl rfl rfl rfl ?_)))))))))))))
 obtain ⟨rv, hrv, h⟩ := bnd h
 rcases Option.eq_none_or_eq_some rv.1 with nv | ⟨t, nv⟩
 ·replace h := (optN nv).symm.trans h
  refine r_callO (t' := .d (.tup [.v (.pointer none), .v (.int .i64 rv.2)])) (ls := []) (news := []) ([]) ([some ⟨4, [.d (WiPlan.d p)]⟩, some ⟨4, [.d (WiState.d s)]⟩, some ⟨2, [.d (WiSky.d sky)]⟩]) ((window_begin_sco hrv).none nv) (.of (by kernel_rfl)) rfl (.inl ⟨rfl, rfl, rfl⟩) rfl rfl rfl rfl .nil rfl rfl rfl .nil .nil rfl rfl rfl rfl (r_movD rfl rfl rfl (r_extD (t := .v (.pointer none)) rfl rfl rfl rfl (r_extD (t := .v (.int .i64 rv.2)) rfl rfl rfl rfl (r_asgD rfl rfl rfl (r_asgD rfl rfl rfl (ev_end (then_norm (sw_seq (sw_block (sw_seq (sw_rg (r_movD rfl rfl rfl ?_))))))))))))
  refine r_neq rfl rfl rfl rfl ?_ ?_
  ·intro c
   replace h := ifN c h
   refine r_asgD rfl rfl rfl (ev_end (then_norm (sw_condT rfl (sw_seq (sw_rg (r_movD rfl rfl rfl (r_asgD rfl rfl rfl (r_asgD rfl rfl rfl (ev_end (then_norm (sw_ret (block_ret (then_ret ?_)))))))))))))
   obtain rfl := Option.some.inj h
   exact (fin_S (t := .d (.tup [.v (.pointer none), .v (.int .i64 rv.2)])) (L := []) (κ := []) rfl (.cons (.tmp 8) (.cons (.tmp 9) .nil)) (vwK rfl rfl .nil (.cons rfl rfl .nil)) (.inl ⟨rfl, rfl, rfl⟩))
  intro c
  replace h := ifP c h
  refine r_asgD rfl rfl rfl (ev_end (then_norm (sw_condF rfl (sw_seq (sw_rg (r_movD rfl rfl rfl (r_lenM tb rfl rfl rfl rfl rfl ?_)))))))
  refine r_gtr rfl rfl rfl rfl ?_ ?_
  ·intro c2
   replace h := ifP c2 h
   refine r_asgD rfl rfl rfl (ev_end (then_norm (sw_condT rfl (sw_seq (sw_rg (r_asgD rfl rfl rfl (r_asgD rfl rfl rfl (ev_end (then_norm (sw_ret (block_ret (then_ret ?_))))))))))))
   obtain rfl := Option.some.inj h
   exact (fin_S (t := .d (.tup [.v (.pointer none), .v (.int .i64 3)])) (L := []) (κ := []) rfl (.cons (.tmp 8) (.cons (.tmp 9) .nil)) (vwK rfl rfl .nil (.cons rfl rfl .nil)) (.inl ⟨rfl, rfl, rfl⟩))
  intro c2
  replace h := ifN (Int.not_lt.2 c2) h
  refine r_asgD rfl rfl rfl (ev_end (then_norm (sw_condF rfl (sw_skip (block_norm (then_norm (sw_seq (sw_seq (sw_rg (r_movD rfl rfl rfl (r_lenM tb rfl rfl rfl rfl rfl (r_movD rfl rfl rfl (ev_end (then_norm (sw_block ?_)))))))))))))))
  obtain ⟨K1, hK1, h⟩ : ∃ K, K = _ ∧ window_play_L1 F turns K F  = some r := ⟨_, rfl, h⟩
  refine sw_loop (st0 := ⟨[(8, .d (.v (.pointer none))), (9, .d (.v (.int .i64 0))), (10, .d (.v (.pointer none))), (29, .d (.arr 3 ((turns).map WiTurn.d))), (30, .d (.v (.int .i64 (turns.length : Int)))), (31, .d (.v (.int .i64 0)))], []⟩) (κ := []) (fun m st => window_play_L1 F turns K1 m  = some r ∧ st = ⟨[(8, .d (.v (.pointer none))), (9, .d (.v (.int .i64 0))), (10, .d (.v (.pointer none))), (29, .d (.arr 3 ((turns).map WiTurn.d))), (30, .d (.v (.int .i64 (turns.length : Int)))), (31, .d (.v (.int .i64 0)))], []⟩) (vwK rfl rfl .nil (.cons rfl rfl (.cons rfl rfl (.cons rfl rfl (.cons rfl rfl (.cons rfl rfl (.cons rfl rfl .nil))))))) ⟨h, rfl⟩ ?_
  clear h
  rintro m1 st ⟨h, rfl⟩
  cases m1 with
  | zero => cases (show (none : Option ((Option Table) × Int)) = some r from h)
  | succ m1 =>
  rw [window_play_L1] at h
  refine sw_seq (sw_rg ?_)
  refine r_lss rfl rfl rfl rfl ?_ ?_
  ·intro c3
   replace h := ifP c3 h
   cases h
  intro c3
  replace h := ifN (Int.not_lt.2 c3) h
  refine ev_end (then_norm (sw_seq (sw_condF rfl (sw_exit (then_exit (then_exit ?_))))))
  subst hK1
  refine block_exit (then_norm (sw_seq (sw_rg (r_movD rfl rfl rfl (r_asgD rfl rfl rfl (r_asgD rfl rfl rfl (ev_end (then_norm (sw_ret ?_)))))))))
  obtain rfl := Option.some.inj h
  exact (fin_S (t := .d (.tup [.v (.pointer none), .v (.int .i64 0)])) (L := []) (κ := []) rfl (.cons (.tmp 8) (.cons (.tmp 9) .nil)) (vwK rfl rfl .nil (.cons rfl rfl .nil)) (.inl ⟨rfl, rfl, rfl⟩))
 replace h := (optS nv).symm.trans h
 refine r_callO (t' := .tup [.ref 3 22 0 0, .d (.v (.int .i64 rv.2))]) (ls := []) (news := [⟨22, [Table_T1 t 1 2 3 4]⟩, (lvI t.s_Used), (lvI t.s_Credit), (lvI t.s_Last), (m1w t.done)]) ([]) ([some ⟨4, [.d (WiPlan.d p)]⟩, some ⟨4, [.d (WiState.d s)]⟩, some ⟨2, [.d (WiSky.d sky)]⟩, some ⟨22, [Table_T1 t 4 5 6 7]⟩, some (lvI t.s_Used), some (lvI t.s_Credit), some (lvI t.s_Last), some (m1w t.done)]) ((window_begin_sco hrv).some nv) (.of (by kernel_rfl)) rfl (.inl ⟨rfl, rfl, rfl⟩) rfl rfl rfl rfl .nil rfl rfl rfl .nil ((.cons rfl (.row (.row (.row (.map .nil)))))) rfl rfl rfl rfl ?_
 refine r_movT (.tup [.ref 3 22 0 0, .d (.v (.int .i64 rv.2))]) rfl rfl rfl (r_ext (t := .ref 3 22 0 0) rfl rfl rfl rfl (r_ext (t := .d (.v (.int .i64 rv.2))) rfl rfl rfl rfl (r_asgR rfl rfl rfl (r_asgD rfl rfl rfl (ev_end (then_norm (sw_seq (sw_block (sw_seq (sw_rg (r_movD rfl rfl rfl ?_)))))))))))
 refine r_neq rfl rfl rfl rfl ?_ ?_
 ·intro c4
  replace h := ifN c4 h
  refine r_asgD rfl rfl rfl (ev_end (then_norm (sw_condT rfl (sw_seq (sw_rg (r_movD rfl rfl rfl (r_asgD rfl rfl rfl (r_asgD rfl rfl rfl (ev_end (then_norm (sw_ret (block_ret (then_ret ?_)))))))))))))
  obtain rfl := Option.some.inj h
  exact (fin_S (t := .d (.tup [.v (.pointer none), .v (.int .i64 rv.2)])) (L := []) (κ := []) rfl (.cons (.tmp 8) (.cons (.tmp 9) .nil)) (vwK rfl rfl .nil (.cons rfl rfl .nil)) (.inl ⟨rfl, rfl, rfl⟩))
 intro c4
 replace h := ifP c4 h
 refine r_asgD rfl rfl rfl (ev_end (then_norm (sw_condF rfl (sw_seq (sw_rg (r_movD rfl rfl rfl (r_lenM tb rfl rfl rfl rfl rfl ?_)))))))
 refine r_gtr rfl rfl rfl rfl ?_ ?_
 ·intro c5
  replace h := ifP c5 h
  refine r_asgD rfl rfl rfl (ev_end (then_norm (sw_condT rfl (sw_seq (sw_rg (r_asgD rfl rfl rfl (r_asgD rfl rfl rfl (ev_end (then_norm (sw_ret (block_ret (then_ret ?_))))))))))))
  obtain rfl := Option.some.inj h
  exact (fin_S (t := .d (.tup [.v (.pointer none), .v (.int .i64 3)])) (L := []) (κ := []) rfl (.cons (.tmp 8) (.cons (.tmp 9) .nil)) (vwK rfl rfl .nil (.cons rfl rfl .nil)) (.inl ⟨rfl, rfl, rfl⟩))
 intro c5
 replace h := ifN (Int.not_lt.2 c5) h
 refine r_asgD rfl rfl rfl (ev_end (then_norm (sw_condF rfl (sw_skip (block_norm (then_norm (sw_seq (sw_seq (sw_rg (r_movD rfl rfl rfl (r_lenM tb rfl rfl rfl rfl rfl (r_movD rfl rfl rfl (ev_end (then_norm (sw_block ?_)))))))))))))))
 obtain ⟨K3, hK3, h⟩ : ∃ K, K = _ ∧ window_play_L2 F turns K F t.p_Teams t.p_Windows t.p_Cost t.p_Gift t.s_Used t.s_Credit t.s_Last t.s_Next t.sky_Kinds t.sky_Wind t.w_Day t.w_From t.w_Until t.minute t.done t.given t.by_ t.over t.use_Window t.use_Team t.use_At t.use_By 0 = some r := ⟨_, rfl, h⟩
 refine sw_loop (st0 := ⟨[(8, .d (.v (.pointer none))), (9, .d (.v (.int .i64 0))), (10, .ref 0 22 0 0), (29, .d (.arr 3 ((turns).map WiTurn.d))), (30, .d (.v (.int .i64 (turns.length : Int)))), (31, .d (.v (.int .i64 0)))], [some ⟨22, [Table_T1 t 1 2 3 4]⟩, some (lvI t.s_Used), some (lvI t.s_Credit), some (lvI t.s_Last), some (m1w t.done)]⟩) (κ := [3, 4, 5, 6, 7]) (fun m st => ∃ (b : (List WiTeam)) (b2 : (List WiWindow)) (b3 : Int) (b4 : Int) (b5 : (List Int)) (b6 : (List Int)) (b7 : (List Int)) (b8 : Int) (b9 : (List Int)) (b10 : Int) (b11 : Int) (b12 : Int) (b13 : Int) (b14 : Int) (b15 : (List (Int × Bool))) (b16 : Int) (b17 : Int) (b18 : Bool) (b19 : Int) (b20 : Int) (b21 : Int) (b22 : Int) (x : Int), window_play_L2 F turns K3 m b b2 b3 b4 b5 b6 b7 b8 b9 b10 b11 b12 b13 b14 b15 b16 b17 b18 b19 b20 b21 b22 x = some r ∧ st = ⟨[(8, .d (.v (.pointer none))), (9, .d (.v (.int .i64 0))), (10, .ref 0 22 0 0), (29, .d (.arr 3 ((turns).map WiTurn.d))), (30, .d (.v (.int .i64 (turns.length : Int)))), (31, .d (.v (.int .i64 x)))], [some ⟨22, [Table_T1 (Table.mk b b2 b3 b4 b5 b6 b7 b8 b9 b10 b11 b12 b13 b14 b15 b16 b17 b18 b19 b20 b21 b22) 1 2 3 4]⟩, some (lvI b5), some (lvI b6), some (lvI b7), some (m1w b15)]⟩) (vwK rfl rfl (.cons rfl rfl (.row rfl (.row rfl (.row rfl (.map rfl .nil))))) (.cons rfl rfl (.cons rfl rfl (.cons rfl rfl (.cons rfl rfl (.cons rfl rfl (.cons rfl rfl .nil))))))) ⟨t.p_Teams, t.p_Windows, t.p_Cost, t.p_Gift, t.s_Used, t.s_Credit, t.s_Last, t.s_Next, t.sky_Kinds, t.sky_Wind, t.w_Day, t.w_From, t.w_Until, t.minute, t.done, t.given, t.by_, t.over, t.use_Window, t.use_Team, t.use_At, t.use_By, 0, h, rfl⟩ ?_
 clear h
 rintro m3 st ⟨b, b2, b3, b4, b5, b6, b7, b8, b9, b10, b11, b12, b13, b14, b15, b16, b17, b18, b19, b20, b21, b22, x, h, rfl⟩
 cases m3 with
 | zero => cases (show (none : Option ((Option Table) × Int)) = some r from h)
 | succ m3 =>
 rw [window_play_L2] at h
 refine sw_seq (sw_rg ?_)
 refine r_lss rfl rfl rfl rfl ?_ ?_
 ·intro c6
  replace h := ifP c6 h
  refine ev_end (then_norm (sw_seq (sw_condT rfl (sw_skip (then_norm (sw_seq (sw_block (sw_seq (sw_rg ?_)))))))))
  obtain ⟨e2, ie2, h⟩ := bnd h
  refine r_ixE tb rfl rfl rfl rfl rfl rfl (ix0 ie2) (ix1m ie2) rfl rfl (r_ldE (y := WiTurn.d e2) tb rfl rfl (ix2 (g := WiTurn.d) ie2) rfl rfl rfl rfl (r_alloc tb rfl rfl rfl rfl rfl (r_stE _ ([some ⟨22, [Table_T1 (Table.mk b b2 b3 b4 b5 b6 b7 b8 b9 b10 b11 b12 b13 b14 b15 b16 b17 b18 b19 b20 b21 b22) 1 2 3 4]⟩, some (lvI b5), some (lvI b6), some (lvI b7), some (m1w b15), some ⟨3, [.d (WiTurn.d e2)]⟩]) tb rfl rfl rfl rfl rfl rfl rfl rfl rfl rfl rfl rfl (ev_end (then_norm (sw_seq (sw_rg (r_movR rfl rfl rfl (r_ldD (y := WiTurn.d e2) tb rfl rfl rfl rfl rfl rfl rfl rfl rfl ?_)))))))))
  obtain ⟨rv2, hrv2, h⟩ := bnd h
  rcases ex_or rv2 with ⟨x2, nv2⟩ | ⟨v, nv2⟩
  ·replace h := (exN nv2).symm.trans h
   refine r_callO (t' := .d (.v (.int .i64 x2))) (ls := [none, none, none, none, none]) (news := []) ([0, 1, 2, 3, 4]) ([none, none, none, none, none, some ⟨3, [.d (WiTurn.d e2)]⟩]) ((window_table_act_m_sca hrv2).err nv2) (.of (by kernel_rfl)) rfl (.inl ⟨rfl, rfl, rfl⟩) rfl rfl rfl rfl ((.cons rfl rfl (.row rfl (.row rfl (.row rfl (.map rfl .nil)))))) rfl rfl rfl ((.gone (.gone (.gone (.gone (.gone .nil)))))) .nil rfl rfl rfl rfl (r_asgD rfl rfl rfl (ev_end (then_norm (sw_seq (sw_rg (r_movD rfl rfl rfl ?_))))))
   refine r_neq rfl rfl rfl rfl ?_ ?_
   ·intro c7
    replace h := ifN c7 h
    refine ev_end (then_norm (sw_condT rfl (sw_seq (sw_rg (r_movD rfl rfl rfl (r_asgD rfl rfl rfl (r_asgD rfl rfl rfl (ev_end (then_norm (sw_ret (block_ret (then_ret (then_ret (block_ret (then_ret ?_)))))))))))))))
    obtain rfl := Option.some.inj h
    exact (fin_S (t := .d (.tup [.v (.pointer none), .v (.int .i64 x2)])) (L := []) (κ := []) rfl (.cons (.tmp 8) (.cons (.tmp 9) .nil)) (vwK rfl rfl .nil (.cons rfl rfl .nil)) (.inl ⟨rfl, rfl, rfl⟩))
   intro c7
   replace h := ifP c7 h
   cases h
  replace h := (exO nv2).symm.trans h
  refine r_callO (t' := .d (.v (.int .i64 0))) (ls := [some ⟨22, [Table_T1 v 1 2 3 4]⟩, some (lvI v.s_Used), some (lvI v.s_Credit), some (lvI v.s_Last), some (m1w v.done)]) (news := []) ([0, 1, 2, 3, 4]) ([some ⟨22, [Table_T1 v 1 2 3 4]⟩, some (lvI v.s_Used), some (lvI v.s_Credit), some (lvI v.s_Last), some (m1w v.done), some ⟨3, [.d (WiTurn.d e2)]⟩]) ((window_table_act_m_sca hrv2).ok nv2) (.of (by kernel_rfl)) rfl (.inl ⟨rfl, rfl, rfl⟩) rfl rfl rfl rfl ((.cons rfl rfl (.row rfl (.row rfl (.row rfl (.map rfl .nil)))))) rfl rfl rfl ((.cons rfl (.row (.row (.row (.map .nil)))))) .nil rfl rfl rfl rfl ?_
  refine r_asgD rfl rfl rfl (ev_end (then_norm (sw_seq (sw_rg (r_movD rfl rfl rfl ?_)))))
  refine r_neq rfl rfl rfl rfl ?_ ?_
  ·intro c8; exact absurd c8 (by decide)
  intro _
  refine ev_end (then_norm (sw_condF rfl (sw_skip (block_norm (then_norm (sw_rg (r_add rfl rfl rfl rfl (r_movD rfl rfl rfl (ev_end (then_norm ?_))))))))))
  exact ⟨m3, ⟨[(8, .d (.v (.pointer none))), (9, .d (.v (.int .i64 0))), (10, .ref 0 22 0 0), (29, .d (.arr 3 ((turns).map WiTurn.d))), (30, .d (.v (.int .i64 (turns.length : Int)))), (31, .d (.v (.int .i64 (W (x + 1)))))], [some ⟨22, [Table_T1 v 1 2 3 4]⟩, some (lvI v.s_Used), some (lvI v.s_Credit), some (lvI v.s_Last), some (m1w v.done)]⟩, [0, 1, 2, 3, 4], Nat.lt_succ_self _, (vwK rfl rfl (.cons rfl rfl (.row rfl (.row rfl (.row rfl (.map rfl .nil))))) (.cons rfl rfl (.cons rfl rfl (.cons rfl rfl (.cons rfl rfl (.cons rfl rfl (.cons rfl rfl .nil))))))), v.p_Teams, v.p_Windows, v.p_Cost, v.p_Gift, v.s_Used, v.s_Credit, v.s_Last, v.s_Next, v.sky_Kinds, v.sky_Wind, v.w_Day, v.w_From, v.w_Until, v.minute, v.done, v.given, v.by_, v.over, v.use_Window, v.use_Team, v.use_At, v.use_By, (W (x + 1)), h, rfl⟩
 intro c6
 replace h := ifN (Int.not_lt.2 c6) h
 refine ev_end (then_norm (sw_seq (sw_condF rfl (sw_exit (then_exit (then_exit ?_))))))
 subst hK3
 refine block_exit (then_norm (sw_seq (sw_rg (r_movR rfl rfl rfl (r_asgR rfl rfl rfl (r_asgD rfl rfl rfl (ev_end (then_norm (sw_ret ?_)))))))))
 obtain rfl := Option.some.inj h
 exact (fin_S (t := .tup [.ref 0 22 0 0, .d (.v (.int .i64 0))]) (L := [some ⟨22, [Table_T1 (Table.mk b b2 b3 b4 b5 b6 b7 b8 b9 b10 b11 b12 b13 b14 b15 b16 b17 b18 b19 b20 b21 b22) 1 2 3 4]⟩, some (lvI b5), some (lvI b6), some (lvI b7), some (m1w b15)]) (κ := [0, 1, 2, 3, 4]) rfl (.cons (.tmp 8) (.cons (.tmp 9) .nil)) (vwK rfl rfl (.cons rfl rfl (.row rfl (.row rfl (.row rfl (.map rfl .nil))))) (.cons rfl rfl .nil)) (.inr ⟨_, rfl, rfl, rfl⟩))
/-- window.Play -/
def window_Play (F : Nat) (p : WiPlan) (s : WiState) (nv : WiNight) : Option (WiState × WiUse × Int) := Option.bind (window_play F p s (WiSky.mk nv.sky_Kinds nv.sky_Wind) nv.turns) fun rv => optE rv.1 (if rv.2 = 0 then (none) else (some ((WiState.mk ([] : List Int) ([] : List Int) ([] : List Int) 0), (WiUse.mk 0 0 0 0), rv.2))) (fun t => if rv.2 = 0 then (Option.bind (window_table_turn F t) fun rv2 => if 0 ≤ rv2 then (some ((WiState.mk ([] : List Int) ([] : List Int) ([] : List Int) 0), (WiUse.mk 0 0 0 0), 2)) else (some ((WiState.mk t.s_Used t.s_Credit t.s_Last (W (t.s_Next + 1))), (WiUse.mk t.use_Window t.use_Team t.use_At t.use_By), 0))) else (some ((WiState.mk ([] : List Int) ([] : List Int) ([] : List Int) 0), (WiUse.mk 0 0 0 0), rv.2)))
set_option maxHeartbeats 4000000 in
theorem window_Play_scr {F : Nat} {p : WiPlan} {s : WiState} {nv : WiNight} {r : (WiState × WiUse × Int)} (h : window_Play F p s nv = some r) : SCR Try.prog 24 (List.map T.d [WiPlan.d p, WiState.d s, WiNight.d nv]) [] (.tup [WiState_T1 r.1 0 1 2, .d (WiUse.d r.2.1), .d (.v (.int .i64 r.2.2))]) (List.map some [(lvI r.1.used), (lvI r.1.credit), (lvI r.1.last)]) := by
 rw [window_Play] at h
 refine SC.of_sw Try.func24 rfl rfl rfl ?_
 simp only [List.map_cons, List.map_nil, argS, Nat.zero_add, Nat.reduceAdd]
 refine sw_seq (sw_rg (r_box rfl rfl rfl rfl rfl rfl rfl (r_box rfl rfl rfl rfl rfl rfl rfl (r_box rfl rfl rfl rfl rfl rfl rfl (r_alloc tb rfl rfl rfl rfl rfl (r_alloc tb rfl rfl rfl rfl rfl (r_asgD rfl rfl rfl (ev_end (then_norm (sw_seq (sw_rg (r_ldD (y := WiPlan.d p) tb rfl rfl rfl rfl rfl rfl rfl rfl rfl (r_ldD (y := WiState.d s) tb rfl rfl rfl rfl rfl rfl rfl rfl rfl (r_fa tb rfl rfl rfl rfl rfl rfl rfl (r_ldD (y := .agg [.arr 1 ((nv.sky_Kinds).map vI), .v (.int .i64 nv.sky_Wind)]) tb rfl rfl rfl rfl rfl rfl rfl rfl rfl (r_fa tb rfl rfl rfl rfl rfl rfl rfl ?_))))))))))))))))
 refine r_ldD (y := .arr 3 ((nv.turns).map WiTurn.d)) tb rfl rfl rfl rfl rfl rfl rfl rfl rfl ?_
 obtain ⟨rv, hrv, h⟩ := bnd h
 rcases Option.eq_none_or_eq_some rv.1 with nv2 | ⟨t, nv2⟩
 ·replace h := (optN nv2).symm.trans h
  refine r_callO (t' := .d (.tup [.v (.pointer none), .v (.int .i64 rv.2)])) (ls := []) (news := []) ([]) ([some ⟨4, [.d (WiPlan.d p)]⟩, some ⟨4, [.d (WiState.d s)]⟩, some ⟨3, [.d (WiNight.d nv)]⟩, some ⟨4, [.d (.agg [.v (.slice none 0 0), .v (.slice none 0 0), .v (.slice none 0 0), .v (.int .i64 0)])]⟩, some ⟨4, [.d (.agg [.v (.int .i64 0), .v (.int .i64 0), .v (.int .i64 0), .v (.int .i64 0)])]⟩]) ((window_play_sco hrv).none nv2) (.of (by kernel_rfl)) rfl (.inl ⟨rfl, rfl, rfl⟩) rfl rfl rfl rfl .nil rfl rfl rfl .nil .nil rfl rfl rfl rfl (r_movD rfl rfl rfl ?_)
  refine r_extD (t := .v (.pointer none)) rfl rfl rfl rfl (r_extD (t := .v (.int .i64 rv.2)) rfl rfl rfl rfl (r_asgD rfl rfl rfl (r_asgD rfl rfl rfl (ev_end (then_norm (sw_seq (sw_block (sw_seq (sw_rg (r_movD rfl rfl rfl ?_))))))))))
  refine r_neq rfl rfl rfl rfl ?_ ?_
  ·intro c
   replace h := ifN c h
   refine r_asgD rfl rfl rfl (ev_end (then_norm (sw_condT rfl (sw_seq (sw_rg (r_build (v := .d (.agg [.v (.slice none 0 0), .v (.slice none 0 0), .v (.slice none 0 0), .v (.int .i64 0)])) tb rfl rfl (List.cons_ne_nil _ _) rfl rfl rfl rfl rfl rfl (r_build (v := .d (.agg [.v (.int .i64 0), .v (.int .i64 0), .v (.int .i64 0), .v (.int .i64 0)])) tb rfl rfl (List.cons_ne_nil _ _) rfl rfl rfl rfl rfl rfl (r_movD rfl rfl rfl ?_))))))))
   refine r_stE _ ([some ⟨4, [.d (WiPlan.d p)]⟩, some ⟨4, [.d (WiState.d s)]⟩, some ⟨3, [.d (WiNight.d nv)]⟩, some ⟨4, [.d (.agg [.v (.slice none 0 0), .v (.slice none 0 0), .v (.slice none 0 0), .v (.int .i64 0)])]⟩, some ⟨4, [.d (.agg [.v (.int .i64 0), .v (.int .i64 0), .v (.int .i64 0), .v (.int .i64 0)])]⟩]) tb rfl rfl rfl rfl rfl rfl rfl rfl rfl rfl rfl rfl ?_
   refine r_stE _ ([some ⟨4, [.d (WiPlan.d p)]⟩, some ⟨4, [.d (WiState.d s)]⟩, some ⟨3, [.d (WiNight.d nv)]⟩, some ⟨4, [.d (.agg [.v (.slice none 0 0), .v (.slice none 0 0), .v (.slice none 0 0), .v (.int .i64 0)])]⟩, some ⟨4, [.d (.agg [.v (.int .i64 0), .v (.int .i64 0), .v (.int .i64 0), .v (.int .i64 0)])]⟩]) tb rfl rfl rfl rfl rfl rfl rfl rfl rfl rfl rfl rfl (r_asgD rfl rfl rfl (ev_end (then_norm ?_)))
   refine SW.own (ts' := [(6, .ref 3 4 0 0), (7, .ref 4 4 0 0), (8, .d (.v (.int .i64 rv.2)))]) (L' := [some ⟨4, [.d (WiPlan.d p)]⟩, some ⟨4, [.d (WiState.d s)]⟩, some ⟨3, [.d (WiNight.d nv)]⟩, some ⟨4, [.agg [.row 5 1 0 (([] : List Int)).length, .d (.v (.slice none 0 0)), .d (.v (.slice none 0 0)), .d (.v (.int .i64 0))]]⟩, some ⟨4, [.d (.agg [.v (.int .i64 0), .v (.int .i64 0), .v (.int .i64 0), .v (.int .i64 0)])]⟩]) 1 rfl rfl (.cons (.same _) (.cons (.same _) (.cons (.same _) .nil))) (.same (.same (.same (.cons rfl (.cons (.aggDL (.cons .nil (.cons (.same _) (.cons (.same _) (.cons (.same _) .nil))))) .nil) (.same .nil))))) ?_
   simp only [List.cons_append, List.nil_append]
   refine SW.own (ts' := [(6, .ref 3 4 0 0), (7, .ref 4 4 0 0), (8, .d (.v (.int .i64 rv.2)))]) (L' := [some ⟨4, [.d (WiPlan.d p)]⟩, some ⟨4, [.d (WiState.d s)]⟩, some ⟨3, [.d (WiNight.d nv)]⟩, some ⟨4, [.agg [.row 5 1 0 (([] : List Int)).length, .row 6 1 0 (([] : List Int)).length, .d (.v (.slice none 0 0)), .d (.v (.int .i64 0))]]⟩, some ⟨4, [.d (.agg [.v (.int .i64 0), .v (.int .i64 0), .v (.int .i64 0), .v (.int .i64 0)])]⟩, some (lvI ([] : List Int))]) 1 rfl rfl (.cons (.same _) (.cons (.same _) (.cons (.same _) .nil))) (.same (.same (.same (.cons rfl (.cons (.aggL (.cons (.same _) (.cons .nil (.cons (.same _) (.cons (.same _) .nil))))) .nil) (.same (.same .nil)))))) ?_
   simp only [List.cons_append, List.nil_append]
   refine SW.own (ts' := [(6, .ref 3 4 0 0), (7, .ref 4 4 0 0), (8, .d (.v (.int .i64 rv.2)))]) (L' := [some ⟨4, [.d (WiPlan.d p)]⟩, some ⟨4, [.d (WiState.d s)]⟩, some ⟨3, [.d (WiNight.d nv)]⟩, some ⟨4, [WiState_T1 (WiState.mk ([] : List Int) ([] : List Int) ([] : List Int) 0) 5 6 7]⟩, some ⟨4, [.d (.agg [.v (.int .i64 0), .v (.int .i64 0), .v (.int .i64 0), .v (.int .i64 0)])]⟩, some (lvI ([] : List Int)), some (lvI ([] : List Int))]) 1 rfl rfl (.cons (.same _) (.cons (.same _) (.cons (.same _) .nil))) (.same (.same (.same (.cons rfl (.cons (.aggL (.cons (.same _) (.cons (.same _) (.cons .nil (.cons (.same _) .nil))))) .nil) (.same (.same (.same .nil))))))) ?_
   simp only [List.cons_append, List.nil_append]
   refine sw_ret (block_ret (then_ret ?_))
   obtain rfl := Option.some.inj h
   exact (fin_S (t := .tup [WiState_T1 (WiState.mk ([] : List Int) ([] : List Int) ([] : List Int) 0) 0 1 2, .d (.agg [.v (.int .i64 0), .v (.int .i64 0), .v (.int .i64 0), .v (.int .i64 0)]), .d (.v (.int .i64 rv.2))]) (L := [some (lvI ([] : List Int)), some (lvI ([] : List Int)), some (lvI ([] : List Int))]) (κ := [5, 6, 7]) rfl (.cons (rcell tb (u := WiState_T1 (WiState.mk ([] : List Int) ([] : List Int) ([] : List Int) 0) 5 6 7) rfl rfl rfl rfl rfl rfl rfl) (.cons (rcell tb (u := .d (.agg [.v (.int .i64 0), .v (.int .i64 0), .v (.int .i64 0), .v (.int .i64 0)])) rfl rfl rfl rfl rfl rfl rfl) (.cons (.tmp 8) .nil))) (vwK rfl rfl (.row rfl (.row rfl (.row rfl .nil))) (.cons rfl rfl .nil)) ⟨rfl, rfl⟩)
  intro c
  replace h := ifP c h
  cases h
 replace h := (optS nv2).symm.trans h
 refine r_callO (t' := .tup [.ref 5 22 0 0, .d (.v (.int .i64 rv.2))]) (ls := []) (news := [⟨22, [Table_T1 t 1 2 3 4]⟩, (lvI t.s_Used), (lvI t.s_Credit), (lvI t.s_Last), (m1w t.done)]) ([]) ([some ⟨4, [.d (WiPlan.d p)]⟩, some ⟨4, [.d (WiState.d s)]⟩, some ⟨3, [.d (WiNight.d nv)]⟩, some ⟨4, [.d (.agg [.v (.slice none 0 0), .v (.slice none 0 0), .v (.slice none 0 0), .v (.int .i64 0)])]⟩, some ⟨4, [.d (.agg [.v (.int .i64 0), .v (.int .i64 0), .v (.int .i64 0), .v (.int .i64 0)])]⟩, some ⟨22, [Table_T1 t 6 7 8 9]⟩, some (lvI t.s_Used), some (lvI t.s_Credit), some (lvI t.s_Last), some (m1w t.done)]) ((window_play_sco hrv).some nv2) (.of (by kernel_rfl)) rfl (.inl ⟨rfl, rfl, rfl⟩) rfl rfl rfl rfl .nil rfl rfl rfl .nil ((.cons rfl (.row (.row (.row (.map .nil)))))) rfl rfl rfl rfl ?_
 refine r_movT (.tup [.ref 5 22 0 0, .d (.v (.int .i64 rv.2))]) rfl rfl rfl (r_ext (t := .ref 5 22 0 0) rfl rfl rfl rfl (r_ext (t := .d (.v (.int .i64 rv.2))) rfl rfl rfl rfl (r_asgR rfl rfl rfl (r_asgD rfl rfl rfl (ev_end (then_norm (sw_seq (sw_block (sw_seq (sw_rg (r_movD rfl rfl rfl ?_)))))))))))
 refine r_neq rfl rfl rfl rfl ?_ ?_
 ·intro c2
  replace h := ifN c2 h
  refine r_asgD rfl rfl rfl (ev_end (then_norm (sw_condT rfl (sw_seq (sw_rg (r_build (v := .d (.agg [.v (.slice none 0 0), .v (.slice none 0 0), .v (.slice none 0 0), .v (.int .i64 0)])) tb rfl rfl (List.cons_ne_nil _ _) rfl rfl rfl rfl rfl rfl (r_build (v := .d (.agg [.v (.int .i64 0), .v (.int .i64 0), .v (.int .i64 0), .v (.int .i64 0)])) tb rfl rfl (List.cons_ne_nil _ _) rfl rfl rfl rfl rfl rfl (r_movD rfl rfl rfl ?_))))))))
  refine r_stE _ ([some ⟨4, [.d (WiPlan.d p)]⟩, some ⟨4, [.d (WiState.d s)]⟩, some ⟨3, [.d (WiNight.d nv)]⟩, some ⟨4, [.d (.agg [.v (.slice none 0 0), .v (.slice none 0 0), .v (.slice none 0 0), .v (.int .i64 0)])]⟩, some ⟨4, [.d (.agg [.v (.int .i64 0), .v (.int .i64 0), .v (.int .i64 0), .v (.int .i64 0)])]⟩, some ⟨22, [Table_T1 t 6 7 8 9]⟩, some (lvI t.s_Used), some (lvI t.s_Credit), some (lvI t.s_Last), some (m1w t.done)]) tb rfl rfl rfl rfl rfl rfl rfl rfl rfl rfl rfl rfl ?_
  refine r_stE _ ([some ⟨4, [.d (WiPlan.d p)]⟩, some ⟨4, [.d (WiState.d s)]⟩, some ⟨3, [.d (WiNight.d nv)]⟩, some ⟨4, [.d (.agg [.v (.slice none 0 0), .v (.slice none 0 0), .v (.slice none 0 0), .v (.int .i64 0)])]⟩, some ⟨4, [.d (.agg [.v (.int .i64 0), .v (.int .i64 0), .v (.int .i64 0), .v (.int .i64 0)])]⟩, some ⟨22, [Table_T1 t 6 7 8 9]⟩, some (lvI t.s_Used), some (lvI t.s_Credit), some (lvI t.s_Last), some (m1w t.done)]) tb rfl rfl rfl rfl rfl rfl rfl rfl rfl rfl rfl rfl (r_asgD rfl rfl rfl (ev_end (then_norm ?_)))
  refine SW.own (ts' := [(6, .ref 3 4 0 0), (7, .ref 4 4 0 0), (8, .d (.v (.int .i64 rv.2)))]) (L' := [some ⟨4, [.d (WiPlan.d p)]⟩, some ⟨4, [.d (WiState.d s)]⟩, some ⟨3, [.d (WiNight.d nv)]⟩, some ⟨4, [.agg [.row 10 1 0 (([] : List Int)).length, .d (.v (.slice none 0 0)), .d (.v (.slice none 0 0)), .d (.v (.int .i64 0))]]⟩, some ⟨4, [.d (.agg [.v (.int .i64 0), .v (.int .i64 0), .v (.int .i64 0), .v (.int .i64 0)])]⟩, some ⟨22, [Table_T1 t 6 7 8 9]⟩, some (lvI t.s_Used), some (lvI t.s_Credit), some (lvI t.s_Last), some (m1w t.done)]) 1 rfl rfl (.cons (.same _) (.cons (.same _) (.cons (.same _) .nil))) (.same (.same (.same (.cons rfl (.cons (.aggDL (.cons .nil (.cons (.same _) (.cons (.same _) (.cons (.same _) .nil))))) .nil) (.same (.same (.same (.same (.same (.same .nil)))))))))) ?_
  simp only [List.cons_append, List.nil_append]
  refine SW.own (ts' := [(6, .ref 3 4 0 0), (7, .ref 4 4 0 0), (8, .d (.v (.int .i64 rv.2)))]) (L' := [some ⟨4, [.d (WiPlan.d p)]⟩, some ⟨4, [.d (WiState.d s)]⟩, some ⟨3, [.d (WiNight.d nv)]⟩, some ⟨4, [.agg [.row 10 1 0 (([] : List Int)).length, .row 11 1 0 (([] : List Int)).length, .d (.v (.slice none 0 0)), .d (.v (.int .i64 0))]]⟩, some ⟨4, [.d (.agg [.v (.int .i64 0), .v (.int .i64 0), .v (.int .i64 0), .v (.int .i64 0)])]⟩, some ⟨22, [Table_T1 t 6 7 8 9]⟩, some (lvI t.s_Used), some (lvI t.s_Credit), some (lvI t.s_Last), some (m1w t.done), some (lvI ([] : List Int))]) 1 rfl rfl (.cons (.same _) (.cons (.same _) (.cons (.same _) .nil))) (.same (.same (.same (.cons rfl (.cons (.aggL (.cons (.same _) (.cons .nil (.cons (.same _) (.cons (.same _) .nil))))) .nil) (.same (.same (.same (.same (.same (.same (.same .nil))))))))))) ?_
  simp only [List.cons_append, List.nil_append]
  refine SW.own (ts' := [(6, .ref 3 4 0 0), (7, .ref 4 4 0 0), (8, .d (.v (.int .i64 rv.2)))]) (L' := [some ⟨4, [.d (WiPlan.d p)]⟩, some ⟨4, [.d (WiState.d s)]⟩, some ⟨3, [.d (WiNight.d nv)]⟩, some ⟨4, [WiState_T1 (WiState.mk ([] : List Int) ([] : List Int) ([] : List Int) 0) 10 11 12]⟩, some ⟨4, [.d (.agg [.v (.int .i64 0), .v (.int .i64 0), .v (.int .i64 0), .v (.int .i64 0)])]⟩, some ⟨22, [Table_T1 t 6 7 8 9]⟩, some (lvI t.s_Used), some (lvI t.s_Credit), some (lvI t.s_Last), some (m1w t.done), some (lvI ([] : List Int)), some (lvI ([] : List Int))]) 1 rfl rfl (.cons (.same _) (.cons (.same _) (.cons (.same _) .nil))) (.same (.same (.same (.cons rfl (.cons (.aggL (.cons (.same _) (.cons (.same _) (.cons .nil (.cons (.same _) .nil))))) .nil) (.same (.same (.same (.same (.same (.same (.same (.same .nil)))))))))))) ?_
  simp only [List.cons_append, List.nil_append]
  refine sw_ret (block_ret (then_ret ?_))
  obtain rfl := Option.some.inj h
  exact (fin_S (t := .tup [WiState_T1 (WiState.mk ([] : List Int) ([] : List Int) ([] : List Int) 0) 0 1 2, .d (.agg [.v (.int .i64 0), .v (.int .i64 0), .v (.int .i64 0), .v (.int .i64 0)]), .d (.v (.int .i64 rv.2))]) (L := [some (lvI ([] : List Int)), some (lvI ([] : List Int)), some (lvI ([] : List Int))]) (κ := [10, 11, 12]) rfl (.cons (rcell tb (u := WiState_T1 (WiState.mk ([] : List Int) ([] : List Int) ([] : List Int) 0) 10 11 12) rfl rfl rfl rfl rfl rfl rfl) (.cons (rcell tb (u := .d (.agg [.v (.int .i64 0), .v (.int .i64 0), .v (.int .i64 0), .v (.int .i64 0)])) rfl rfl rfl rfl rfl rfl rfl) (.cons (.tmp 8) .nil))) (vwK rfl rfl (.row rfl (.row rfl (.row rfl .nil))) (.cons rfl rfl .nil)) ⟨rfl, rfl⟩)
 intro c2
 replace h := ifP c2 h
 refine r_asgD rfl rfl rfl (ev_end (then_norm (sw_condF rfl (sw_seq (sw_rg (r_movR rfl rfl rfl ?_))))))
 obtain ⟨rv2, hrv2, h⟩ := bnd h
 refine r_callL (window_table_turn_pc hrv2) rfl (.of (by kernel_rfl)) rfl rfl ((.cons (.ref rfl (.aggL (.cons (.d _) (.cons (.d _) (.cons (.d _) (.cons (.d _) (.cons (.row rfl rfl) (.cons (.row rfl rfl) (.cons (.row rfl rfl) (.cons (.d _) (.cons (.d _) (.cons (.d _) (.cons (.d _) (.cons (.d _) (.cons (.d _) (.cons (.d _) (.cons (.mpM rfl) (.cons (.d _) (.cons (.d _) (.cons (.d _) (.cons (.d _) (.cons (.d _) (.cons (.d _) (.cons (.d _) .nil)))))))))))))))))))))))) .nil)) rfl rfl ?_
 refine r_geq rfl rfl rfl rfl ?_ ?_
 ·intro c3
  replace h := ifP c3 h
  refine r_asgD rfl rfl rfl (ev_end (then_norm (sw_condT rfl (sw_seq (sw_rg (r_build (v := .d (.agg [.v (.slice none 0 0), .v (.slice none 0 0), .v (.slice none 0 0), .v (.int .i64 0)])) tb rfl rfl (List.cons_ne_nil _ _) rfl rfl rfl rfl rfl rfl (r_build (v := .d (.agg [.v (.int .i64 0), .v (.int .i64 0), .v (.int .i64 0), .v (.int .i64 0)])) tb rfl rfl (List.cons_ne_nil _ _) rfl rfl rfl rfl rfl rfl ?_)))))))
  refine r_stE _ ([some ⟨4, [.d (WiPlan.d p)]⟩, some ⟨4, [.d (WiState.d s)]⟩, some ⟨3, [.d (WiNight.d nv)]⟩, some ⟨4, [.d (.agg [.v (.slice none 0 0), .v (.slice none 0 0), .v (.slice none 0 0), .v (.int .i64 0)])]⟩, some ⟨4, [.d (.agg [.v (.int .i64 0), .v (.int .i64 0), .v (.int .i64 0), .v (.int .i64 0)])]⟩, some ⟨22, [Table_T1 t 6 7 8 9]⟩, some (lvI t.s_Used), some (lvI t.s_Credit), some (lvI t.s_Last), some (m1w t.done)]) tb rfl rfl rfl rfl rfl rfl rfl rfl rfl rfl rfl rfl ?_
  refine r_stE _ ([some ⟨4, [.d (WiPlan.d p)]⟩, some ⟨4, [.d (WiState.d s)]⟩, some ⟨3, [.d (WiNight.d nv)]⟩, some ⟨4, [.d (.agg [.v (.slice none 0 0), .v (.slice none 0 0), .v (.slice none 0 0), .v (.int .i64 0)])]⟩, some ⟨4, [.d (.agg [.v (.int .i64 0), .v (.int .i64 0), .v (.int .i64 0), .v (.int .i64 0)])]⟩, some ⟨22, [Table_T1 t 6 7 8 9]⟩, some (lvI t.s_Used), some (lvI t.s_Credit), some (lvI t.s_Last), some (m1w t.done)]) tb rfl rfl rfl rfl rfl rfl rfl rfl rfl rfl rfl rfl (r_asgD rfl rfl rfl (ev_end (then_norm ?_)))
  refine SW.own (ts' := [(6, .ref 3 4 0 0), (7, .ref 4 4 0 0), (8, .d (.v (.int .i64 2)))]) (L' := [some ⟨4, [.d (WiPlan.d p)]⟩, some ⟨4, [.d (WiState.d s)]⟩, some ⟨3, [.d (WiNight.d nv)]⟩, some ⟨4, [.agg [.row 10 1 0 (([] : List Int)).length, .d (.v (.slice none 0 0)), .d (.v (.slice none 0 0)), .d (.v (.int .i64 0))]]⟩, some ⟨4, [.d (.agg [.v (.int .i64 0), .v (.int .i64 0), .v (.int .i64 0), .v (.int .i64 0)])]⟩, some ⟨22, [Table_T1 t 6 7 8 9]⟩, some (lvI t.s_Used), some (lvI t.s_Credit), some (lvI t.s_Last), some (m1w t.done)]) 1 rfl rfl (.cons (.same _) (.cons (.same _) (.cons (.same _) .nil))) (.same (.same (.same (.cons rfl (.cons (.aggDL (.cons .nil (.cons (.same _) (.cons (.same _) (.cons (.same _) .nil))))) .nil) (.same (.same (.same (.same (.same (.same .nil)))))))))) ?_
  simp only [List.cons_append, List.nil_append]
  refine SW.own (ts' := [(6, .ref 3 4 0 0), (7, .ref 4 4 0 0), (8, .d (.v (.int .i64 2)))]) (L' := [some ⟨4, [.d (WiPlan.d p)]⟩, some ⟨4, [.d (WiState.d s)]⟩, some ⟨3, [.d (WiNight.d nv)]⟩, some ⟨4, [.agg [.row 10 1 0 (([] : List Int)).length, .row 11 1 0 (([] : List Int)).length, .d (.v (.slice none 0 0)), .d (.v (.int .i64 0))]]⟩, some ⟨4, [.d (.agg [.v (.int .i64 0), .v (.int .i64 0), .v (.int .i64 0), .v (.int .i64 0)])]⟩, some ⟨22, [Table_T1 t 6 7 8 9]⟩, some (lvI t.s_Used), some (lvI t.s_Credit), some (lvI t.s_Last), some (m1w t.done), some (lvI ([] : List Int))]) 1 rfl rfl (.cons (.same _) (.cons (.same _) (.cons (.same _) .nil))) (.same (.same (.same (.cons rfl (.cons (.aggL (.cons (.same _) (.cons .nil (.cons (.same _) (.cons (.same _) .nil))))) .nil) (.same (.same (.same (.same (.same (.same (.same .nil))))))))))) ?_
  simp only [List.cons_append, List.nil_append]
  refine SW.own (ts' := [(6, .ref 3 4 0 0), (7, .ref 4 4 0 0), (8, .d (.v (.int .i64 2)))]) (L' := [some ⟨4, [.d (WiPlan.d p)]⟩, some ⟨4, [.d (WiState.d s)]⟩, some ⟨3, [.d (WiNight.d nv)]⟩, some ⟨4, [WiState_T1 (WiState.mk ([] : List Int) ([] : List Int) ([] : List Int) 0) 10 11 12]⟩, some ⟨4, [.d (.agg [.v (.int .i64 0), .v (.int .i64 0), .v (.int .i64 0), .v (.int .i64 0)])]⟩, some ⟨22, [Table_T1 t 6 7 8 9]⟩, some (lvI t.s_Used), some (lvI t.s_Credit), some (lvI t.s_Last), some (m1w t.done), some (lvI ([] : List Int)), some (lvI ([] : List Int))]) 1 rfl rfl (.cons (.same _) (.cons (.same _) (.cons (.same _) .nil))) (.same (.same (.same (.cons rfl (.cons (.aggL (.cons (.same _) (.cons (.same _) (.cons .nil (.cons (.same _) .nil))))) .nil) (.same (.same (.same (.same (.same (.same (.same (.same .nil)))))))))))) ?_
  simp only [List.cons_append, List.nil_append]
  refine sw_ret (block_ret (then_ret ?_))
  obtain rfl := Option.some.inj h
  exact (fin_S (t := .tup [WiState_T1 (WiState.mk ([] : List Int) ([] : List Int) ([] : List Int) 0) 0 1 2, .d (.agg [.v (.int .i64 0), .v (.int .i64 0), .v (.int .i64 0), .v (.int .i64 0)]), .d (.v (.int .i64 2))]) (L := [some (lvI ([] : List Int)), some (lvI ([] : List Int)), some (lvI ([] : List Int))]) (κ := [10, 11, 12]) rfl (.cons (rcell tb (u := WiState_T1 (WiState.mk ([] : List Int) ([] : List Int) ([] : List Int) 0) 10 11 12) rfl rfl rfl rfl rfl rfl rfl) (.cons (rcell tb (u := .d (.agg [.v (.int .i64 0), .v (.int .i64 0), .v (.int .i64 0), .v (.int .i64 0)])) rfl rfl rfl rfl rfl rfl rfl) (.cons (.tmp 8) .nil))) (vwK rfl rfl (.row rfl (.row rfl (.row rfl .nil))) (.cons rfl rfl .nil)) ⟨rfl, rfl⟩)
 intro c3
 replace h := ifN (Int.not_le.2 c3) h
 refine r_asgD rfl rfl rfl (ev_end (then_norm (sw_condF rfl (sw_skip (block_norm (then_norm (sw_seq (sw_rg (r_movR rfl rfl rfl (r_nilRef rfl rfl rfl (r_fa tb rfl rfl rfl rfl rfl rfl rfl (r_fa tb rfl rfl rfl rfl rfl rfl rfl (r_ldD (y := .v (.int .i64 t.s_Next)) tb rfl rfl rfl rfl rfl rfl rfl rfl rfl (r_add rfl rfl rfl rfl (r_nilRef rfl rfl rfl (r_fa tb rfl rfl rfl rfl rfl rfl rfl (r_fa tb rfl rfl rfl rfl rfl rfl rfl ?_)))))))))))))))))
 refine r_stE _ ([some ⟨4, [.d (WiPlan.d p)]⟩, some ⟨4, [.d (WiState.d s)]⟩, some ⟨3, [.d (WiNight.d nv)]⟩, some ⟨4, [.d (.agg [.v (.slice none 0 0), .v (.slice none 0 0), .v (.slice none 0 0), .v (.int .i64 0)])]⟩, some ⟨4, [.d (.agg [.v (.int .i64 0), .v (.int .i64 0), .v (.int .i64 0), .v (.int .i64 0)])]⟩, some ⟨22, [Table_T1 {t with s_Next := (W (t.s_Next + 1))} 6 7 8 9]⟩, some (lvI t.s_Used), some (lvI t.s_Credit), some (lvI t.s_Last), some (m1w t.done)]) tb rfl rfl rfl rfl rfl rfl rfl rfl rfl rfl rfl rfl (ev_end (then_norm (sw_seq (sw_dr (by kernel_rfl) ?_))))
 refine r_movR rfl rfl rfl (r_nilRef rfl rfl rfl (r_fa tb rfl rfl rfl rfl rfl rfl rfl (r_ldG tb rfl rfl rfl rfl rfl rfl rfl rfl rfl (r_movR rfl rfl rfl (r_nilRef rfl rfl rfl (r_fa tb rfl rfl rfl rfl rfl rfl rfl (r_ldD (y := .agg [.v (.int .i64 t.use_Window), .v (.int .i64 t.use_Team), .v (.int .i64 t.use_At), .v (.int .i64 t.use_By)]) tb rfl rfl rfl rfl rfl rfl rfl rfl rfl ?_)))))))
 refine r_stE _ ([some ⟨4, [.d (WiPlan.d p)]⟩, some ⟨4, [.d (WiState.d s)]⟩, some ⟨3, [.d (WiNight.d nv)]⟩, some ⟨4, [WiState_T1 (WiState.mk t.s_Used t.s_Credit t.s_Last (W (t.s_Next + 1))) 6 7 8]⟩, some ⟨4, [.d (.agg [.v (.int .i64 0), .v (.int .i64 0), .v (.int .i64 0), .v (.int .i64 0)])]⟩, some ⟨22, [Table_T1 {t with s_Next := (W (t.s_Next + 1))} 6 7 8 9]⟩, some (lvI t.s_Used), some (lvI t.s_Credit), some (lvI t.s_Last), some (m1w t.done)]) tb rfl rfl rfl rfl rfl rfl rfl rfl rfl rfl rfl rfl ?_
 refine r_stE _ ([some ⟨4, [.d (WiPlan.d p)]⟩, some ⟨4, [.d (WiState.d s)]⟩, some ⟨3, [.d (WiNight.d nv)]⟩, some ⟨4, [WiState_T1 (WiState.mk t.s_Used t.s_Credit t.s_Last (W (t.s_Next + 1))) 6 7 8]⟩, some ⟨4, [.d (.agg [.v (.int .i64 t.use_Window), .v (.int .i64 t.use_Team), .v (.int .i64 t.use_At), .v (.int .i64 t.use_By)])]⟩, some ⟨22, [Table_T1 {t with s_Next := (W (t.s_Next + 1))} 6 7 8 9]⟩, some (lvI t.s_Used), some (lvI t.s_Credit), some (lvI t.s_Last), some (m1w t.done)]) tb rfl rfl rfl rfl rfl rfl rfl rfl rfl rfl rfl rfl (r_asgD rfl rfl rfl (ev_endD (by kernel_rfl) ?_))
 refine then_norm (sw_ret ?_)
 obtain rfl := Option.some.inj h
 exact (fin_S (t := .tup [WiState_T1 (WiState.mk t.s_Used t.s_Credit t.s_Last (W (t.s_Next + 1))) 0 1 2, .d (.agg [.v (.int .i64 t.use_Window), .v (.int .i64 t.use_Team), .v (.int .i64 t.use_At), .v (.int .i64 t.use_By)]), .d (.v (.int .i64 0))]) (L := [some (lvI t.s_Used), some (lvI t.s_Credit), some (lvI t.s_Last)]) (κ := [6, 7, 8]) rfl (.cons (rcell tb (u := WiState_T1 (WiState.mk t.s_Used t.s_Credit t.s_Last (W (t.s_Next + 1))) 6 7 8) rfl rfl rfl rfl rfl rfl rfl) (.cons (rcell tb (u := .d (.agg [.v (.int .i64 t.use_Window), .v (.int .i64 t.use_Team), .v (.int .i64 t.use_At), .v (.int .i64 t.use_By)])) rfl rfl rfl rfl rfl rfl rfl) (.cons (.tmp 8) .nil))) (vwK rfl rfl (.row rfl (.row rfl (.row rfl .nil))) (.cons rfl rfl .nil)) ⟨rfl, rfl⟩)
theorem window_Play_pc {F : Nat} {p : WiPlan} {s : WiState} {nv : WiNight} {r : (WiState × WiUse × Int)} (h : window_Play F p s nv = some r) : PC Try.prog 24 [WiPlan.d p, WiState.d s, WiNight.d nv] (.tup [WiState.d r.1, WiUse.d r.2.1, .v (.int .i64 r.2.2)]) := (window_Play_scr h).toPC (.tupL (.cons (.aggL (.cons (.row rfl rfl) (.cons (.row rfl rfl) (.cons (.row rfl rfl) (.cons (.d _) .nil))))) (.cons (.d _) (.cons (.d _) .nil))))
end Go.Proofs.Ytdefnmcjmklohaa
