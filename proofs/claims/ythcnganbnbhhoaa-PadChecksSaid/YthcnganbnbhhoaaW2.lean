/- What functions of the program compute: plain functions, and the proofs. -/
import Derived.Test.YthcnganbnbhhoaaW1
open Go Go.Proofs.Ythcnganbnbhhoaa.Sh Go.Proofs
namespace Go.Proofs.Ythcnganbnbhhoaa
set_option linter.unusedVariables false
set_option linter.unusedSimpArgs false
set_option maxRecDepth 100000
set_option maxHeartbeats 4000000
def pad_act_J1 (F : Nat) (t : PdPad) (o : PdAct) : Option Int := Option.bind (pad_act_1 F o.with_ (t.people.length : Int)) fun rv8 => if rv8 = true then (some 4) else (if o.with_ = o.who then (some 2) else (some 0))
def pad_act_J2 (F : Nat) (t : PdPad) (o : PdAct) : Option Int := Option.bind (pad_act_1 F o.what (t.squibs.length : Int)) fun rv6 => if rv6 = true then (some 4) else (pad_act_J1 F t o)
def pad_act_J3 (F : Nat) (t : PdPad) (o : PdAct) : Option Int := Option.bind (pad_act_1 F o.what (t.keys.length : Int)) fun rv5 => if rv5 = true then (some 4) else (pad_act_J1 F t o)
def pad_act_J4 (F : Nat) (t : PdPad) (o : PdAct) : Option Int := Option.bind (pad_act_1 F o.what (t.squibs.length : Int)) fun rv5 => if rv5 = true then (some 4) else (pad_act_J1 F t o)
def pad_act_J5 (F : Nat) (o : PdAct) : Option Int := if o.with_ = (-1) then (some 0) else (some 2)
def pad_act_J6 (F : Nat) (t : PdPad) (o : PdAct) : Option Int := Option.bind (pad_act_1 F o.what (t.squibs.length : Int)) fun rv14 => if rv14 = true then (some 4) else (pad_act_J5 F o)
def pad_act_J7 (F : Nat) (t : PdPad) (o : PdAct) : Option Int := Option.bind (pad_act_1 F o.what (t.keys.length : Int)) fun rv13 => if rv13 = true then (some 4) else (pad_act_J5 F o)
def pad_act_J8 (F : Nat) (t : PdPad) (o : PdAct) : Option Int := Option.bind (pad_act_1 F o.what (t.squibs.length : Int)) fun rv13 => if rv13 = true then (some 4) else (pad_act_J5 F o)
def pad_act_J9 (F : Nat) (t : PdPad) (o : PdAct) : Option Int := Option.bind (pad_out F o.at_ 0 100000) fun rv => if rv = true then (some 7) else (Option.bind (pad_out F o.kind 1 9) fun rv2 => if rv2 = true then (some 2) else (Option.bind (pad_act_1 F o.who (t.people.length : Int)) fun rv3 => if rv3 = true then (some 4) else (if o.kind = 1 then (if o.what = (-1) then (pad_act_J1 F t o) else (Option.bind (pad_act_1 F o.what (t.zones.length : Int)) fun rv4 => if rv4 = true then (some 4) else (pad_act_J1 F t o))) else (if o.kind = 2 then (pad_act_J3 F t o) else (if o.kind = 3 then (pad_act_J3 F t o) else (if o.kind = 4 then (pad_act_J3 F t o) else (if o.kind = 5 then (pad_act_J4 F t o) else (if o.kind = 6 then (pad_act_J4 F t o) else (if o.kind = 7 then (pad_act_J4 F t o) else (Option.bind (pad_out F o.what 0 1) fun rv5 => if rv5 = true then (some 2) else (pad_act_J1 F t o)))))))))))
def pad_act_J10 (F : Nat) (t : PdPad) (o : PdAct) : Option Int := Option.bind (pad_out F o.at_ 0 100000) fun rv9 => if rv9 = true then (some 7) else (Option.bind (pad_out F o.kind 1 9) fun rv10 => if rv10 = true then (some 2) else (Option.bind (pad_act_1 F o.who (t.people.length : Int)) fun rv11 => if rv11 = true then (some 4) else (if o.kind = 1 then (if o.what = (-1) then (pad_act_J5 F o) else (Option.bind (pad_act_1 F o.what (t.zones.length : Int)) fun rv12 => if rv12 = true then (some 4) else (pad_act_J5 F o))) else (if o.kind = 2 then (pad_act_J7 F t o) else (if o.kind = 3 then (pad_act_J7 F t o) else (if o.kind = 4 then (pad_act_J7 F t o) else (if o.kind = 5 then (pad_act_J8 F t o) else (if o.kind = 6 then (pad_act_J8 F t o) else (if o.kind = 7 then (pad_act_J8 F t o) else (Option.bind (pad_out F o.what 0 1) fun rv13 => if rv13 = true then (some 2) else (pad_act_J5 F o)))))))))))
def pad_act (F : Nat) (t : PdPad) (o : PdAct) : Option Int := if o.kind = 4 then (pad_act_J9 F t o) else (if o.kind = 1 then (if o.with_ = (-1) then (pad_act_J10 F t o) else (pad_act_J9 F t o)) else (pad_act_J10 F t o))
theorem pad_act_pc {F : Nat} {t : PdPad} {o : PdAct} {r : Int} (h : pad_act F t o = some r) : PC Try.prog 65 [PdPad.d t, PdAct.d o] (.v (.int .i64 r)) := by
 rw [pad_act] at h
 refine SC.of_sw Try.func65 R R R ?_
 dsimp only [argS, List.map]
 refine qG (r_box R R R R R R R (r_box R R R R R R R (r_asgD R R R (eN (qG (r_asgD R R R (eN (sw_seq ?_))))))))
 refine sw_join (Sum.elim (fun zz : Unit => pad_act_J9 F t o = some r) (fun zz : Unit => pad_act_J10 F t o = some r)) (Sum.elim (fun zz : Unit => ⟨[(2, .ref 0 7 0 0), (3, .ref 1 5 0 0), (4, .d (.v (.int .i64 0))), (5, .d (.v (.func (.func 85) #[] #[]))), (6, .d (.v (.bool true)))], [some ⟨7, [.d (PdPad.d t)]⟩, some ⟨5, [.d (PdAct.d o)]⟩]⟩) (fun zz : Unit => ⟨[(2, .ref 0 7 0 0), (3, .ref 1 5 0 0), (4, .d (.v (.int .i64 0))), (5, .d (.v (.func (.func 85) #[] #[]))), (6, .d (.v (.bool false)))], [some ⟨7, [.d (PdPad.d t)]⟩, some ⟨5, [.d (PdAct.d o)]⟩]⟩)) ?_ ?_
 ·clear h
  rintro (⟨⟩ | ⟨⟩) h
  ·dsimp only [Sum.elim] at h ⊢
   rw [pad_act_J9] at h
   refine sw_seq (sw_block (qG (r_fa tb R R R R R R R (r_ldD (y := .v (.int .i64 o.at_)) tb R R R R R R R R R ?_))))
   obtain ⟨rv, hrv, h⟩ := bnd h
   refine r_callB (pad_out_pc hrv) (.of (by kernel_rfl)) R R R R ?_ ?_
   ·intro c4
    replace h := ifP c4 h
    refine r_asgD R R R (eN (sw_condT R (qG (r_asgD R R R (eN (sw_ret (block_ret (then_ret ?_))))))))
    obtain rfl := sI h
    exact fin_0 (t := .d (.v (.int .i64 7))) R R R (.cons (.tmp 4) .nil)
   intro c4
   replace h := ifF c4 h
   refine r_asgD R R R (eN (sw_condF R (qG (r_fa tb R R R R R R R (r_ldD (y := .v (.int .i64 o.kind)) tb R R R R R R R R R ?_)))))
   obtain ⟨rv2, hrv2, h⟩ := bnd h
   refine r_callB (pad_out_pc hrv2) (.of (by kernel_rfl)) R R R R ?_ ?_
   ·intro c5
    replace h := ifP c5 h
    refine r_asgD R R R (eN (sw_condT R (qG (r_asgD R R R (eN (sw_ret (block_ret (then_ret ?_))))))))
    obtain rfl := sI h
    exact fin_0 (t := .d (.v (.int .i64 2))) R R R (.cons (.tmp 4) .nil)
   intro c5
   replace h := ifF c5 h
   refine r_asgD R R R (eN (sw_condF R (qG (r_movD R R R (r_fa tb R R R R R R R (r_ldD (y := .v (.int .i64 o.who)) tb R R R R R R R R R (r_fa tb R R R R R R R (r_ldD (y := .arr 2 ((t.people).map PdPerson.d)) tb R R R R R R R R R (r_lenM tb R R R R R ?_)))))))))
   obtain ⟨rv3, hrv3, h⟩ := bnd h
   refine r_callB (pad_act_1_pc hrv3) (.of (by kernel_rfl)) R R R R ?_ ?_
   ·intro c6
    replace h := ifP c6 h
    refine r_asgD R R R (eN (sw_condT R (qG (r_asgD R R R (eN (sw_ret (block_ret (then_ret ?_))))))))
    obtain rfl := sI h
    exact fin_0 (t := .d (.v (.int .i64 4))) R R R (.cons (.tmp 4) .nil)
   intro c6
   replace h := ifF c6 h
   refine r_asgD R R R (eN (sw_condF R (sw_skip (block_norm (then_norm (sw_seq ?_))))))
   refine sw_join (fun zz : Unit => pad_act_J1 F t o = some r) (fun zz : Unit => ⟨[(2, .ref 0 7 0 0), (3, .ref 1 5 0 0), (4, .d (.v (.int .i64 0))), (5, .d (.v (.func (.func 85) #[] #[]))), (6, .d (.v (.bool true)))], [some ⟨7, [.d (PdPad.d t)]⟩, some ⟨5, [.d (PdAct.d o)]⟩]⟩) ?_ ?_
   ·clear h
    rintro ⟨⟩ h
    rw [pad_act_J1] at h
    refine sw_seq (sw_block (qG (r_movD R R R (r_notT R R R (r_movD R R R (r_skip R R R (r_skip R R R (r_skip R R R (r_pickF R R R R (r_asgD R R R (eN (sw_condF R (qG (r_movD R R R (r_movD R R R (r_movD R R R (r_fa tb R R R R R R R (r_ldD (y := .v (.int .i64 o.with_)) tb R R R R R R R R R (r_fa tb R R R R R R R (r_ldD (y := .arr 2 ((t.people).map PdPerson.d)) tb R R R R R R R R R (r_lenM tb R R R R R ?_)))))))))))))))))))))
    obtain ⟨rv8, hrv8, h⟩ := bnd h
    refine r_callB (pad_act_1_pc hrv8) (.of (by kernel_rfl)) R R R R ?_ ?_
    ·intro c19
     replace h := ifP c19 h
     refine r_pickT R R R R (r_asgD R R R (eN (sw_condT R (qG (r_asgD R R R (eN (sw_ret (block_ret (then_ret ?_)))))))))
     obtain rfl := sI h
     exact fin_0 (t := .d (.v (.int .i64 4))) R R R (.cons (.tmp 4) .nil)
    intro c19
    replace h := ifF c19 h
    refine r_pickT R R R R (r_asgD R R R (eN (sw_condF R (qG (r_movD R R R (r_movD R R R (r_fa tb R R R R R R R (r_ldD (y := .v (.int .i64 o.with_)) tb R R R R R R R R R (r_fa tb R R R R R R R (r_ldD (y := .v (.int .i64 o.who)) tb R R R R R R R R R ?_))))))))))
    refine r_eql R R R R ?_ ?_
    ·intro c20
     replace h := ifP c20 h
     refine r_pickT R R R R (r_asgD R R R (eN (sw_condT R (qG (r_asgD R R R (eN (sw_ret (block_ret (then_ret ?_)))))))))
     obtain rfl := sI h
     exact fin_0 (t := .d (.v (.int .i64 2))) R R R (.cons (.tmp 4) .nil)
    intro c20
    replace h := ifN c20 h
    refine r_pickT R R R R (r_asgD R R R (eN (sw_condF R (sw_skip (block_norm (then_norm (qG (r_asgD R R R (eN (sw_ret ?_))))))))))
    obtain rfl := sI h
    exact fin_0 (t := .d (.v (.int .i64 0))) R R R (.cons (.tmp 4) .nil)
   refine qG (r_fa tb R R R R R R R (r_ldD (y := .v (.int .i64 o.kind)) tb R R R R R R R R R (eN (sw_block (qG ?_)))))
   refine r_eql R R R R ?_ ?_
   ·intro c7
    replace h := ifP c7 h
    refine r_asgD R R R (eN (sw_condT R (qG (r_fa tb R R R R R R R (r_ldD (y := .v (.int .i64 o.what)) tb R R R R R R R R R ?_)))))
    refine r_neq R R R R ?_ ?_
    ·intro c8
     replace h := ifN c8 h
     refine r_movD R R R (r_movD R R R (r_fa tb R R R R R R R (r_ldD (y := .v (.int .i64 o.what)) tb R R R R R R R R R (r_fa tb R R R R R R R (r_ldD (y := .arr 8 ((t.zones).map PdZone.d)) tb R R R R R R R R R (r_lenM tb R R R R R ?_))))))
     obtain ⟨rv4, hrv4, h⟩ := bnd h
     refine r_callB (pad_act_1_pc hrv4) (.of (by kernel_rfl)) R R R R ?_ ?_
     ·intro c9
      replace h := ifP c9 h
      refine r_pickT R R R R (eN (sw_condT R (qG (r_asgD R R R (eN (sw_ret (block_ret (then_ret ?_))))))))
      obtain rfl := sI h
      exact fin_0 (t := .d (.v (.int .i64 4))) R R R (.cons (.tmp 4) .nil)
     intro c9
     replace h := ifF c9 h
     refine r_pickT R R R R (eN (sw_condF R (sw_skip (block_norm (then_norm ?_)))))
     exact .inl ⟨(), h, .prn [2, 3, 4, 5, 6] R⟩
    intro c8
    replace h := ifP c8 h
    refine r_movD R R R (r_skip R R R (r_skip R R R (r_skip R R R (r_skip R R R (r_skip R R R (r_skip R R R (r_skip R R R (r_pickF R R R R (eN (sw_condF R (sw_skip (block_norm (then_norm ?_)))))))))))))
    exact .inl ⟨(), h, .prn [2, 3, 4, 5, 6] R⟩
   intro c7
   replace h := ifN c7 h
   refine r_asgD R R R (eN (sw_condF R (sw_seq ?_)))
   refine sw_join (fun zz : Unit => pad_act_J3 F t o = some r) (fun zz : Unit => ⟨[(2, .ref 0 7 0 0), (3, .ref 1 5 0 0), (4, .d (.v (.int .i64 0))), (5, .d (.v (.func (.func 85) #[] #[]))), (6, .d (.v (.bool true))), (37, .d (.v (.int .i64 o.kind))), (55, .d (.v (.bool true)))], [some ⟨7, [.d (PdPad.d t)]⟩, some ⟨5, [.d (PdAct.d o)]⟩]⟩) ?_ ?_
   ·clear h
    rintro ⟨⟩ h
    rw [pad_act_J3] at h
    refine sw_condT R (qG (r_movD R R R (r_fa tb R R R R R R R (r_ldD (y := .v (.int .i64 o.what)) tb R R R R R R R R R (r_fa tb R R R R R R R (r_ldD (y := .arr 1 ((t.keys).map vS)) tb R R R R R R R R R (r_lenM tb R R R R R ?_)))))))
    obtain ⟨rv5, hrv5, h⟩ := bnd h
    refine r_callB (pad_act_1_pc hrv5) (.of (by kernel_rfl)) R R R R ?_ ?_
    ·intro c13
     replace h := ifP c13 h
     refine eN (sw_condT R (qG (r_asgD R R R (eN (sw_ret (block_ret (then_ret ?_)))))))
     obtain rfl := sI h
     exact fin_0 (t := .d (.v (.int .i64 4))) R R R (.cons (.tmp 4) .nil)
    intro c13
    replace h := ifF c13 h
    refine eN (sw_condF R (sw_skip (block_norm (then_norm ?_))))
    exact .inl ⟨(), h, .prn [2, 3, 4, 5, 6] R⟩
   refine qG ?_
   refine r_eql R R R R ?_ ?_
   ·intro c10
    replace h := ifP c10 h
    refine r_asgD R R R (eN (sw_condT R (sw_skip (then_norm ?_))))
    exact .inl ⟨(), h, .prn [2, 3, 4, 5, 6, 37, 55] R⟩
   intro c10
   replace h := ifN c10 h
   refine r_asgD R R R (eN (sw_condF R (qG ?_)))
   refine r_eql R R R R ?_ ?_
   ·intro c11
    replace h := ifP c11 h
    refine r_asgD R R R (eN (sw_condT R (sw_skip (then_norm ?_))))
    exact .inl ⟨(), h, .prn [2, 3, 4, 5, 6, 37, 55] R⟩
   intro c11
   replace h := ifN c11 h
   refine r_asgD R R R (eN (sw_condF R (sw_rg ?_)))
   refine r_eql R R R R ?_ ?_
   ·intro c12
    replace h := ifP c12 h
    refine r_asgD R R R (eN ?_)
    exact .inl ⟨(), h, .prn [2, 3, 4, 5, 6, 37, 55] R⟩
   intro c12
   replace h := ifN c12 h
   refine r_asgD R R R (eN (.inr (sw_condF R (sw_seq ?_))))
   refine sw_join (fun zz : Unit => pad_act_J4 F t o = some r) (fun zz : Unit => ⟨[(2, .ref 0 7 0 0), (3, .ref 1 5 0 0), (4, .d (.v (.int .i64 0))), (5, .d (.v (.func (.func 85) #[] #[]))), (6, .d (.v (.bool true))), (66, .d (.v (.bool true)))], [some ⟨7, [.d (PdPad.d t)]⟩, some ⟨5, [.d (PdAct.d o)]⟩]⟩) ?_ ?_
   ·clear h
    rintro ⟨⟩ h
    rw [pad_act_J4] at h
    refine sw_condT R (qG (r_movD R R R (r_fa tb R R R R R R R (r_ldD (y := .v (.int .i64 o.what)) tb R R R R R R R R R (r_fa tb R R R R R R R (r_ldD (y := .arr 6 ((t.squibs).map PdSquib.d)) tb R R R R R R R R R (r_lenM tb R R R R R ?_)))))))
    obtain ⟨rv5, hrv5, h⟩ := bnd h
    refine r_callB (pad_act_1_pc hrv5) (.of (by kernel_rfl)) R R R R ?_ ?_
    ·intro c16
     replace h := ifP c16 h
     refine eN (sw_condT R (qG (r_asgD R R R (eN (sw_ret (block_ret (then_ret ?_)))))))
     obtain rfl := sI h
     exact fin_0 (t := .d (.v (.int .i64 4))) R R R (.cons (.tmp 4) .nil)
    intro c16
    replace h := ifF c16 h
    refine eN (sw_condF R (sw_skip (block_norm (then_norm ?_))))
    exact .inl ⟨(), h, .prn [2, 3, 4, 5, 6] R⟩
   refine qG ?_
   refine r_eql R R R R ?_ ?_
   ·intro c13
    replace h := ifP c13 h
    refine r_asgD R R R (eN (sw_condT R (sw_skip (then_norm ?_))))
    exact .inl ⟨(), h, .prn [2, 3, 4, 5, 6, 66] R⟩
   intro c13
   replace h := ifN c13 h
   refine r_asgD R R R (eN (sw_condF R (qG ?_)))
   refine r_eql R R R R ?_ ?_
   ·intro c14
    replace h := ifP c14 h
    refine r_asgD R R R (eN (sw_condT R (sw_skip (then_norm ?_))))
    exact .inl ⟨(), h, .prn [2, 3, 4, 5, 6, 66] R⟩
   intro c14
   replace h := ifN c14 h
   refine r_asgD R R R (eN (sw_condF R (sw_rg ?_)))
   refine r_eql R R R R ?_ ?_
   ·intro c15
    replace h := ifP c15 h
    refine r_asgD R R R (eN ?_)
    exact .inl ⟨(), h, .prn [2, 3, 4, 5, 6, 66] R⟩
   intro c15
   replace h := ifN c15 h
   refine r_asgD R R R (eN (.inr (sw_condF R (qG (r_fa tb R R R R R R R (r_ldD (y := .v (.int .i64 o.what)) tb R R R R R R R R R ?_))))))
   obtain ⟨rv5, hrv5, h⟩ := bnd h
   refine r_callB (pad_out_pc hrv5) (.of (by kernel_rfl)) R R R R ?_ ?_
   ·intro c16
    replace h := ifP c16 h
    refine eN (sw_condT R (qG (r_asgD R R R (eN (sw_ret (block_ret (then_ret ?_)))))))
    obtain rfl := sI h
    exact fin_0 (t := .d (.v (.int .i64 2))) R R R (.cons (.tmp 4) .nil)
   intro c16
   replace h := ifF c16 h
   refine eN (sw_condF R (sw_skip (block_norm (then_norm ?_))))
   exact .inl ⟨(), h, .prn [2, 3, 4, 5, 6] R⟩
  ·dsimp only [Sum.elim] at h ⊢
   rw [pad_act_J10] at h
   refine sw_seq (sw_block (qG (r_fa tb R R R R R R R (r_ldD (y := .v (.int .i64 o.at_)) tb R R R R R R R R R ?_))))
   obtain ⟨rv9, hrv9, h⟩ := bnd h
   refine r_callB (pad_out_pc hrv9) (.of (by kernel_rfl)) R R R R ?_ ?_
   ·intro c21
    replace h := ifP c21 h
    refine r_asgD R R R (eN (sw_condT R (qG (r_asgD R R R (eN (sw_ret (block_ret (then_ret ?_))))))))
    obtain rfl := sI h
    exact fin_0 (t := .d (.v (.int .i64 7))) R R R (.cons (.tmp 4) .nil)
   intro c21
   replace h := ifF c21 h
   refine r_asgD R R R (eN (sw_condF R (qG (r_fa tb R R R R R R R (r_ldD (y := .v (.int .i64 o.kind)) tb R R R R R R R R R ?_)))))
   obtain ⟨rv10, hrv10, h⟩ := bnd h
   refine r_callB (pad_out_pc hrv10) (.of (by kernel_rfl)) R R R R ?_ ?_
   ·intro c22
    replace h := ifP c22 h
    refine r_asgD R R R (eN (sw_condT R (qG (r_asgD R R R (eN (sw_ret (block_ret (then_ret ?_))))))))
    obtain rfl := sI h
    exact fin_0 (t := .d (.v (.int .i64 2))) R R R (.cons (.tmp 4) .nil)
   intro c22
   replace h := ifF c22 h
   refine r_asgD R R R (eN (sw_condF R (qG (r_movD R R R (r_fa tb R R R R R R R (r_ldD (y := .v (.int .i64 o.who)) tb R R R R R R R R R (r_fa tb R R R R R R R (r_ldD (y := .arr 2 ((t.people).map PdPerson.d)) tb R R R R R R R R R (r_lenM tb R R R R R ?_)))))))))
   obtain ⟨rv11, hrv11, h⟩ := bnd h
   refine r_callB (pad_act_1_pc hrv11) (.of (by kernel_rfl)) R R R R ?_ ?_
   ·intro c23
    replace h := ifP c23 h
    refine r_asgD R R R (eN (sw_condT R (qG (r_asgD R R R (eN (sw_ret (block_ret (then_ret ?_))))))))
    obtain rfl := sI h
    exact fin_0 (t := .d (.v (.int .i64 4))) R R R (.cons (.tmp 4) .nil)
   intro c23
   replace h := ifF c23 h
   refine r_asgD R R R (eN (sw_condF R (sw_skip (block_norm (then_norm (sw_seq ?_))))))
   refine sw_join (fun zz : Unit => pad_act_J5 F o = some r) (fun zz : Unit => ⟨[(2, .ref 0 7 0 0), (3, .ref 1 5 0 0), (4, .d (.v (.int .i64 0))), (5, .d (.v (.func (.func 85) #[] #[]))), (6, .d (.v (.bool false)))], [some ⟨7, [.d (PdPad.d t)]⟩, some ⟨5, [.d (PdAct.d o)]⟩]⟩) ?_ ?_
   ·clear h
    rintro ⟨⟩ h
    rw [pad_act_J5] at h
    refine sw_seq (sw_block (qG (r_movD R R R (r_notF R R R (r_movD R R R (r_fa tb R R R R R R R (r_ldD (y := .v (.int .i64 o.with_)) tb R R R R R R R R R ?_)))))))
    refine r_neq R R R R ?_ ?_
    ·intro c36
     replace h := ifN c36 h
     refine r_pickT R R R R (r_asgD R R R (eN (sw_condT R (qG (r_asgD R R R (eN (sw_ret (block_ret (then_ret ?_)))))))))
     obtain rfl := sI h
     exact fin_0 (t := .d (.v (.int .i64 2))) R R R (.cons (.tmp 4) .nil)
    intro c36
    replace h := ifP c36 h
    refine r_pickT R R R R (r_asgD R R R (eN (sw_condF R (qG (r_movD R R R (r_movD R R R (r_skip R R R (r_skip R R R (r_skip R R R (r_skip R R R (r_skip R R R (r_skip R R R (r_skip R R R (r_pickF R R R R (r_asgD R R R (eN (sw_condF R (qG (r_movD R R R (r_movD R R R (r_skip R R R (r_skip R R R (r_skip R R R (r_skip R R R (r_skip R R R (r_pickF R R R R (r_asgD R R R (eN (sw_condF R (sw_skip (block_norm ?_)))))))))))))))))))))))))))))))
    refine then_norm (qG (r_asgD R R R (eN (sw_ret ?_))))
    obtain rfl := sI h
    exact fin_0 (t := .d (.v (.int .i64 0))) R R R (.cons (.tmp 4) .nil)
   refine qG (r_fa tb R R R R R R R (r_ldD (y := .v (.int .i64 o.kind)) tb R R R R R R R R R (eN (sw_block (qG ?_)))))
   refine r_eql R R R R ?_ ?_
   ·intro c24
    replace h := ifP c24 h
    refine r_asgD R R R (eN (sw_condT R (qG (r_fa tb R R R R R R R (r_ldD (y := .v (.int .i64 o.what)) tb R R R R R R R R R ?_)))))
    refine r_neq R R R R ?_ ?_
    ·intro c25
     replace h := ifN c25 h
     refine r_movD R R R (r_movD R R R (r_fa tb R R R R R R R (r_ldD (y := .v (.int .i64 o.what)) tb R R R R R R R R R (r_fa tb R R R R R R R (r_ldD (y := .arr 8 ((t.zones).map PdZone.d)) tb R R R R R R R R R (r_lenM tb R R R R R ?_))))))
     obtain ⟨rv12, hrv12, h⟩ := bnd h
     refine r_callB (pad_act_1_pc hrv12) (.of (by kernel_rfl)) R R R R ?_ ?_
     ·intro c26
      replace h := ifP c26 h
      refine r_pickT R R R R (eN (sw_condT R (qG (r_asgD R R R (eN (sw_ret (block_ret (then_ret ?_))))))))
      obtain rfl := sI h
      exact fin_0 (t := .d (.v (.int .i64 4))) R R R (.cons (.tmp 4) .nil)
     intro c26
     replace h := ifF c26 h
     refine r_pickT R R R R (eN (sw_condF R (sw_skip (block_norm (then_norm ?_)))))
     exact .inl ⟨(), h, .prn [2, 3, 4, 5, 6] R⟩
    intro c25
    replace h := ifP c25 h
    refine r_movD R R R (r_skip R R R (r_skip R R R (r_skip R R R (r_skip R R R (r_skip R R R (r_skip R R R (r_skip R R R (r_pickF R R R R (eN (sw_condF R (sw_skip (block_norm (then_norm ?_)))))))))))))
    exact .inl ⟨(), h, .prn [2, 3, 4, 5, 6] R⟩
   intro c24
   replace h := ifN c24 h
   refine r_asgD R R R (eN (sw_condF R (sw_seq ?_)))
   refine sw_join (fun zz : Unit => pad_act_J7 F t o = some r) (fun zz : Unit => ⟨[(2, .ref 0 7 0 0), (3, .ref 1 5 0 0), (4, .d (.v (.int .i64 0))), (5, .d (.v (.func (.func 85) #[] #[]))), (6, .d (.v (.bool false))), (37, .d (.v (.int .i64 o.kind))), (55, .d (.v (.bool true)))], [some ⟨7, [.d (PdPad.d t)]⟩, some ⟨5, [.d (PdAct.d o)]⟩]⟩) ?_ ?_
   ·clear h
    rintro ⟨⟩ h
    rw [pad_act_J7] at h
    refine sw_condT R (qG (r_movD R R R (r_fa tb R R R R R R R (r_ldD (y := .v (.int .i64 o.what)) tb R R R R R R R R R (r_fa tb R R R R R R R (r_ldD (y := .arr 1 ((t.keys).map vS)) tb R R R R R R R R R (r_lenM tb R R R R R ?_)))))))
    obtain ⟨rv13, hrv13, h⟩ := bnd h
    refine r_callB (pad_act_1_pc hrv13) (.of (by kernel_rfl)) R R R R ?_ ?_
    ·intro c30
     replace h := ifP c30 h
     refine eN (sw_condT R (qG (r_asgD R R R (eN (sw_ret (block_ret (then_ret ?_)))))))
     obtain rfl := sI h
     exact fin_0 (t := .d (.v (.int .i64 4))) R R R (.cons (.tmp 4) .nil)
    intro c30
    replace h := ifF c30 h
    refine eN (sw_condF R (sw_skip (block_norm (then_norm ?_))))
    exact .inl ⟨(), h, .prn [2, 3, 4, 5, 6] R⟩
   refine qG ?_
   refine r_eql R R R R ?_ ?_
   ·intro c27
    replace h := ifP c27 h
    refine r_asgD R R R (eN (sw_condT R (sw_skip (then_norm ?_))))
    exact .inl ⟨(), h, .prn [2, 3, 4, 5, 6, 37, 55] R⟩
   intro c27
   replace h := ifN c27 h
   refine r_asgD R R R (eN (sw_condF R (qG ?_)))
   refine r_eql R R R R ?_ ?_
   ·intro c28
    replace h := ifP c28 h
    refine r_asgD R R R (eN (sw_condT R (sw_skip (then_norm ?_))))
    exact .inl ⟨(), h, .prn [2, 3, 4, 5, 6, 37, 55] R⟩
   intro c28
   replace h := ifN c28 h
   refine r_asgD R R R (eN (sw_condF R (sw_rg ?_)))
   refine r_eql R R R R ?_ ?_
   ·intro c29
    replace h := ifP c29 h
    refine r_asgD R R R (eN ?_)
    exact .inl ⟨(), h, .prn [2, 3, 4, 5, 6, 37, 55] R⟩
   intro c29
   replace h := ifN c29 h
   refine r_asgD R R R (eN (.inr (sw_condF R (sw_seq ?_))))
   refine sw_join (fun zz : Unit => pad_act_J8 F t o = some r) (fun zz : Unit => ⟨[(2, .ref 0 7 0 0), (3, .ref 1 5 0 0), (4, .d (.v (.int .i64 0))), (5, .d (.v (.func (.func 85) #[] #[]))), (6, .d (.v (.bool false))), (66, .d (.v (.bool true)))], [some ⟨7, [.d (PdPad.d t)]⟩, some ⟨5, [.d (PdAct.d o)]⟩]⟩) ?_ ?_
   ·clear h
    rintro ⟨⟩ h
    rw [pad_act_J8] at h
    refine sw_condT R (qG (r_movD R R R (r_fa tb R R R R R R R (r_ldD (y := .v (.int .i64 o.what)) tb R R R R R R R R R (r_fa tb R R R R R R R (r_ldD (y := .arr 6 ((t.squibs).map PdSquib.d)) tb R R R R R R R R R (r_lenM tb R R R R R ?_)))))))
    obtain ⟨rv13, hrv13, h⟩ := bnd h
    refine r_callB (pad_act_1_pc hrv13) (.of (by kernel_rfl)) R R R R ?_ ?_
    ·intro c33
     replace h := ifP c33 h
     refine eN (sw_condT R (qG (r_asgD R R R (eN (sw_ret (block_ret (then_ret ?_)))))))
     obtain rfl := sI h
     exact fin_0 (t := .d (.v (.int .i64 4))) R R R (.cons (.tmp 4) .nil)
    intro c33
    replace h := ifF c33 h
    refine eN (sw_condF R (sw_skip (block_norm (then_norm ?_))))
    exact .inl ⟨(), h, .prn [2, 3, 4, 5, 6] R⟩
   refine qG ?_
   refine r_eql R R R R ?_ ?_
   ·intro c30
    replace h := ifP c30 h
    refine r_asgD R R R (eN (sw_condT R (sw_skip (then_norm ?_))))
    exact .inl ⟨(), h, .prn [2, 3, 4, 5, 6, 66] R⟩
   intro c30
   replace h := ifN c30 h
   refine r_asgD R R R (eN (sw_condF R (qG ?_)))
   refine r_eql R R R R ?_ ?_
   ·intro c31
    replace h := ifP c31 h
    refine r_asgD R R R (eN (sw_condT R (sw_skip (then_norm ?_))))
    exact .inl ⟨(), h, .prn [2, 3, 4, 5, 6, 66] R⟩
   intro c31
   replace h := ifN c31 h
   refine r_asgD R R R (eN (sw_condF R (sw_rg ?_)))
   refine r_eql R R R R ?_ ?_
   ·intro c32
    replace h := ifP c32 h
    refine r_asgD R R R (eN ?_)
    exact .inl ⟨(), h, .prn [2, 3, 4, 5, 6, 66] R⟩
   intro c32
   replace h := ifN c32 h
   refine r_asgD R R R (eN (.inr (sw_condF R (qG (r_fa tb R R R R R R R (r_ldD (y := .v (.int .i64 o.what)) tb R R R R R R R R R ?_))))))
   obtain ⟨rv13, hrv13, h⟩ := bnd h
   refine r_callB (pad_out_pc hrv13) (.of (by kernel_rfl)) R R R R ?_ ?_
   ·intro c33
    replace h := ifP c33 h
    refine eN (sw_condT R (qG (r_asgD R R R (eN (sw_ret (block_ret (then_ret ?_)))))))
    obtain rfl := sI h
    exact fin_0 (t := .d (.v (.int .i64 2))) R R R (.cons (.tmp 4) .nil)
   intro c33
   replace h := ifF c33 h
   refine eN (sw_condF R (sw_skip (block_norm (then_norm ?_))))
   exact .inl ⟨(), h, .prn [2, 3, 4, 5, 6] R⟩
 refine sw_rg (r_fa tb R R R R R R R (r_ldD (y := .v (.int .i64 o.kind)) tb R R R R R R R R R ?_))
 refine r_eql R R R R ?_ ?_
 ·intro c
  replace h := ifP c h
  refine r_movD R R R (r_skip R R R (r_skip R R R (r_skip R R R (r_skip R R R (r_skip R R R (r_skip R R R (r_skip R R R (r_skip R R R (r_pickT R R R R (r_asgD R R R (eN ?_)))))))))))
  exact .inl ⟨.inl (), h, .prn [2, 3, 4, 5, 6] R⟩
 intro c
 replace h := ifN c h
 refine r_movD R R R (r_fa tb R R R R R R R (r_ldD (y := .v (.int .i64 o.kind)) tb R R R R R R R R R ?_))
 refine r_eql R R R R ?_ ?_
 ·intro c2
  replace h := ifP c2 h
  refine r_movD R R R (r_fa tb R R R R R R R (r_ldD (y := .v (.int .i64 o.with_)) tb R R R R R R R R R ?_))
  refine r_neq R R R R ?_ ?_
  ·intro c3
   replace h := ifN c3 h
   refine r_pickT R R R R (r_pickF R R R R (r_asgD R R R (eN ?_)))
   exact .inl ⟨.inl (), h, .prn [2, 3, 4, 5, 6] R⟩
  intro c3
  replace h := ifP c3 h
  refine r_pickT R R R R (r_pickF R R R R (r_asgD R R R (eN ?_)))
  exact .inl ⟨.inr (()), h, .prn [2, 3, 4, 5, 6] R⟩
 intro c2
 replace h := ifN c2 h
 refine r_movD R R R (r_skip R R R (r_skip R R R (r_skip R R R (r_pickF R R R R (r_pickF R R R R (r_asgD R R R (eN ?_)))))))
 exact .inl ⟨.inr (()), h, .prn [2, 3, 4, 5, 6] R⟩
def pad_demand (F : Nat) (so : Bool) (why : Int) : Option (Except Int Unit) := if so = true then (some (.ok ())) else (some (.error why))
theorem pad_demand_scx {F : Nat} {so : Bool} {why : Int} {r : (Except Int Unit)} (h : pad_demand F so why = some r) : SCX Try.prog 88 [.d (.v (.bool so)), .d (.v (.int .i64 why))] [] r 29 (fun (a : Unit) => .d (.tup [])) (fun (a : Unit) => []) := by
 rw [pad_demand] at h
 refine SC.of_sw Try.func88 R R R ?_
 dsimp only [argS, List.map]
 refine qG (r_movD R R R ?_)
 with_reducible apply ev_lit
 ·intro c
  replace h := ifP c h
  refine r_notT R R R (eN (sw_condF R (sw_skip ?_)))
  obtain rfl := sI h
  exact fin_n (fin_S (t := .d (.tup [])) (L := []) (κ := []) R .nil (vwK R R .nil (.cons R R .nil)) (.inl ⟨_, R, R, R⟩))
 intro c
 replace h := ifF c h
 refine r_notF R R R (eN (sw_condT R (sw_rgP (r_movD R R R (r_iface tb R R R R R (ev_pan ?_))))))
 (with_reducible apply op_panicD); (iterate 2 exact rfl)
 obtain rfl := sI h
 exact fin_pX (L := []) (κ := []) (vwK R R .nil .nil) (.inr ⟨_, R, R⟩)
def slices_Clone_int (F : Nat) (s : (List Int)) : Option (List Int) := Option.bind (appO ([] : List Int) s) fun q => some q
theorem slices_Clone_int_scr {F : Nat} {s : (List Int)} {r : (List Int)} (h : slices_Clone_int F s = some r) : SCR Try.prog 86 (List.map T.d [.arr 1 ((s).map vI)]) [] (.row 0 1 0 (r).length) (List.map some [(lvI r)]) := by
 rw [slices_Clone_int] at h
 refine SC.of_sw Try.func86 R R R ?_
 dsimp only [argS, List.map]
 cases s with
 | nil =>
  refine SW.raw 0 1 R fun ad cap => ?_
  cases ad with
  | none =>
   replace h : some ([] : List Int) = some r := by simpa [appO] using h
   refine qG (r_asgD R R R (eN (sw_seq (qG (r_movD R R R (r_nilRow (by intro o a n cap w; cases a <;> cases o <;> simp [go_sem, eqGuard] <;> rfl) R R R (eN (sw_condT R ?_))))))))
   refine SW.unraw 0 1 R ?_
   refine SW.unraw 3 1 R ?_
   refine qG (r_asgD R R R (eN ?_))
   refine SW.own (ts' := [(2, .row 0 1 0 (([] : List Int)).length)]) (L' := []) 1 R R (.cons .nil .nil) .nil ?_
   simp only [List.cons_append, List.nil_append]
   refine sw_ret (then_ret ?_)
   obtain rfl := sI h
   exact (fin_S (t := .row 0 1 0 (([] : List Int)).length) (L := [some (lvI ([] : List Int))]) (κ := [0]) R (.cons (.tmp 2) .nil) (vwK R R (.row R .nil) (.cons R R .nil)) ⟨R, R⟩)
  | some ad =>
   refine qG (r_asgD R R R (eN (sw_seq (qG (r_movD R R R (r_nilRaw (by intro o a n cap w; cases a <;> cases o <;> simp [go_sem, eqGuard] <;> rfl) R R R (eN (sw_condF R ?_))))))))
   refine SW.unraw 0 1 R ?_
   refine SW.unraw 3 1 R ?_
   refine sw_skip (then_norm (qG (r_bslice tb R R R R R R R R R R R R R (r_movD R R R ?_))))
   obtain ⟨q, iq, h⟩ := bnd h
   refine r_apEM (g := vI) (w := ([] : List Int)) (v := ([] : List Int)) ([none]) tb R R R R R R R R (by intro _; exact R) iq R R R R R (r_asgW R R R (eN (sw_ret ?_)))
   obtain rfl := sI h
   exact (fin_S (t := .row 0 1 0 (q).length) (L := [some (lvI q)]) (κ := [1]) R (.cons (.tmp 2) .nil) (vwK R R (.row R .nil) (.cons R R .nil)) ⟨R, R⟩)
 | cons x0 s =>
  refine qG (r_asgD R R R (eN (sw_seq (qG (r_movD R R R (r_nilArr (by intro o a n cap w; cases a <;> cases o <;> simp [go_sem, eqGuard] <;> rfl) R R R (eN (sw_condF R (sw_skip (then_norm (qG (r_bslice tb R R R R R R R R R R R R R (r_movD R R R ?_)))))))))))))
  obtain ⟨q, iq, h⟩ := bnd h
  refine r_apEM (g := vI) (w := ([] : List Int)) (v := (x0 :: s)) ([none]) tb R R R R R R R R (by intro _; exact R) iq R R R R R (r_asgW R R R (eN (sw_ret ?_)))
  obtain rfl := sI h
  exact (fin_S (t := .row 0 1 0 (q).length) (L := [some (lvI q)]) (κ := [1]) R (.cons (.tmp 2) .nil) (vwK R R (.row R .nil) (.cons R R .nil)) ⟨R, R⟩)
theorem slices_Clone_int_pc {F : Nat} {s : (List Int)} {r : (List Int)} (h : slices_Clone_int F s = some r) : PC Try.prog 86 [.arr 1 ((s).map vI)] (.arr 1 ((r).map vI)) := (slices_Clone_int_scr h).toPC (.row rfl rfl)
def pad_stage (F : Nat) (p : PdPad) (s : PdState) : Option (Option Scene) := Option.bind (slices_Clone_int F s.zones) fun rv => Option.bind (slices_Clone_int F s.holder) fun rv2 => Option.bind (slices_Clone_int F s.squibs) fun rv3 => some (some (Scene.mk p.zones p.doors p.people p.keys p.squibs p.panel p.wait s.now rv rv2 rv3 s.siren s.storm))
theorem pad_stage_sco {F : Nat} {p : PdPad} {s : PdState} {r : (Option Scene)} (h : pad_stage F p s = some r) : SCO Try.prog 66 (List.map T.d [PdPad.d p, PdState.d s]) [] r (.d (.v (.pointer none))) (List.map some []) (fun (tt : Scene) => .ref 0 13 0 0) (fun (tt : Scene) => List.map some [⟨13, [Scene_T1 tt 1 2 3]⟩, (lvI tt.pdState_Zones), (lvI tt.pdState_Holder), (lvI tt.pdState_Squibs)]) := by
 rw [pad_stage] at h
 refine SC.of_sw Try.func66 R R R ?_
 dsimp only [argS, List.map]
 refine qG (r_box R R R R R R R (r_box R R R R R R R (r_asgD R R R (eN (sw_seq (sw_dr (by kernel_rfl) (r_fa tb R R R R R R R (r_ldD (y := .arr 1 ((s.zones).map vI)) tb R R R R R R R R R ?_))))))))
 obtain ⟨rv, hrv, h⟩ := bnd h
 refine r_callN (t' := .row 2 1 0 (rv).length) (news' := [(lvI rv)]) (slices_Clone_int_scr hrv) (.of (by kernel_rfl)) R R R ((.row .nil)) R R R (r_fa tb R R R R R R R (r_ldD (y := .arr 1 ((s.holder).map vI)) tb R R R R R R R R R ?_))
 obtain ⟨rv2, hrv2, h⟩ := bnd h
 refine r_callN (t' := .row 3 1 0 (rv2).length) (news' := [(lvI rv2)]) (slices_Clone_int_scr hrv2) (.of (by kernel_rfl)) R R R ((.row .nil)) R R R (r_fa tb R R R R R R R (r_ldD (y := .arr 1 ((s.squibs).map vI)) tb R R R R R R R R R ?_))
 obtain ⟨rv3, hrv3, h⟩ := bnd h
 refine r_callN (t' := .row 4 1 0 (rv3).length) (news' := [(lvI rv3)]) (slices_Clone_int_scr hrv3) (.of (by kernel_rfl)) R R R ((.row .nil)) R R R (r_fa tb R R R R R R R (r_stE _ ([some ⟨7, [.d (PdPad.d p)]⟩, some ⟨6, [PdState_T2 {s with zones := rv} 2]⟩, some (lvI rv), some (lvI rv2), some (lvI rv3)]) tb R R R R R R R R R R R R (r_fa tb R R R R R R R ?_)))
 refine r_stE _ ([some ⟨7, [.d (PdPad.d p)]⟩, some ⟨6, [PdState_T3 {s with zones := rv, holder := rv2} 2 3]⟩, some (lvI rv), some (lvI rv2), some (lvI rv3)]) tb R R R R R R R R R R R R (r_fa tb R R R R R R R (r_stE _ ([some ⟨7, [.d (PdPad.d p)]⟩, some ⟨6, [PdState_T1 {s with zones := rv, holder := rv2, squibs := rv3} 2 3 4]⟩, some (lvI rv), some (lvI rv2), some (lvI rv3)]) tb R R R R R R R R R R R R (ev_endD (by kernel_rfl) (then_norm (qG (r_ldD (y := PdPad.d p) tb R R R R R R R R R ?_))))))
 refine r_ldG tb R R R R R R R R R (r_build (v := Scene_T1 (Scene.mk p.zones p.doors p.people p.keys p.squibs p.panel p.wait s.now rv rv2 rv3 s.siren s.storm) 2 3 4) tb R R (List.cons_ne_nil _ _) (by kernel_rfl) (by kernel_rfl) (by kernel_rfl) (by kernel_rfl) R R (r_box R R R R R R R (r_asgR R R R (eN (sw_ret ?_)))))
 obtain rfl := sI h
 exact (fin_S (t := .ref 0 13 0 0) (L := [some ⟨13, [Scene_T1 (Scene.mk p.zones p.doors p.people p.keys p.squibs p.panel p.wait s.now rv rv2 rv3 s.siren s.storm) 1 2 3]⟩, some (lvI rv), some (lvI rv2), some (lvI rv3)]) (κ := [5, 2, 3, 4]) R (.cons (.tmp 4) .nil) (vwK R R (.cons R R (.row R (.row R (.row R .nil)))) (.cons R R .nil)) (.inr ⟨_, R, R, R⟩))
def pad_scene_formed_1_1 (F : Nat) (nv : Int) (c : Int) (c2 : Int) : Option Bool := Option.bind (pad_out F nv c c2) fun rv => some rv
theorem pad_scene_formed_1_1_pc {F : Nat} {nv : Int} {c : Int} {c2 : Int} {r : Bool} (h : pad_scene_formed_1_1 F nv c c2 = some r) : PC Try.prog 91 [.v (.int .i64 nv), .el 1 (([c]).map vI) ((0 : Int)).toNat 0, .el 1 (([c2]).map vI) ((0 : Int)).toNat 0] (.v (.bool r)) := by
 rw [pad_scene_formed_1_1] at h
 refine SC.of_sw Try.func91 R R R ?_
 dsimp only [argS, List.map]
 refine qG (r_asgD R R R (eN (qG (r_movD R R R (r_ldE (y := .v (.int .i64 c)) tb R R (ix2 (g := vI) (R : ixO [c] 0 = some c)) R R R R (r_ldE (y := .v (.int .i64 c2)) tb R R (ix2 (g := vI) (R : ixO [c2] 0 = some c2)) R R R R ?_))))))
 obtain ⟨rv, hrv, h⟩ := bnd h
 refine r_call (pad_out_pc hrv) (.of (by kernel_rfl)) R R R R (r_asgD R R R (eN (sw_ret ?_)))
 obtain rfl := sI h
 exact fin_0 (t := .d (.v (.bool rv))) R R R (.cons (.tmp 4) .nil)
def pad_scene_formed_1 (F : Nat) (lo : Int) (hi : Int) : Option (Int × Int) := some (lo, hi)
theorem pad_scene_formed_1_scr {F : Nat} {lo : Int} {hi : Int} {r : (Int × Int)} (h : pad_scene_formed_1 F lo hi = some r) : SCR Try.prog 90 (List.map T.d [.v (.int .i64 lo), .v (.int .i64 hi)]) [] (.fn (.func 91) [] [.ref 0 1 0 0, .ref 1 1 0 0]) (List.map some [⟨1, [.d (.v (.int .i64 r.1))]⟩, ⟨1, [.d (.v (.int .i64 r.2))]⟩]) := by
 rw [pad_scene_formed_1] at h
 refine SC.of_sw Try.func90 R R R ?_
 dsimp only [argS, List.map]
 refine qG (r_box R R R R R R R (r_box R R R R R R R (r_asgD R R R (eN (qG (r_func R R R R (r_asgF R R R (eN (sw_ret ?_)))))))))
 obtain rfl := sI h
 exact (fin_S (t := .fn (.func 91) [] [.ref 0 1 0 0, .ref 1 1 0 0]) (L := [some ⟨1, [.d (.v (.int .i64 lo))]⟩, some ⟨1, [.d (.v (.int .i64 hi))]⟩]) (κ := [0, 1]) R (.cons (.tmp 4) .nil) (vwK R R (.cons R R (.cons R R .nil)) (.cons R R .nil)) ⟨R, R⟩)
def pad_scene_formed_J1 (F : Nat) (t : Scene) : Option Bool := Option.bind (pad_scene_formed_1 F (-1) (W ((t.p_Zones.length : Int) - 1))) fun rv3 => Option.bind (slices_ContainsFunc_int F t.pdState_Zones (fun a0 => pad_scene_formed_1_1 F a0 rv3.1 rv3.2)) fun rv4 => if rv4 = true then (some false) else (Option.bind (pad_scene_formed_1 F (-1) (W ((t.p_People.length : Int) - 1))) fun rv5 => Option.bind (slices_ContainsFunc_int F t.pdState_Holder (fun a0 => pad_scene_formed_1_1 F a0 rv5.1 rv5.2)) fun rv6 => if rv6 = true then (some false) else (Option.bind (pad_scene_formed_1 F 0 2) fun rv7 => Option.bind (slices_ContainsFunc_int F t.pdState_Squibs (fun a0 => pad_scene_formed_1_1 F a0 rv7.1 rv7.2)) fun rv8 => some (!rv8)))
def pad_scene_formed (F : Nat) (t : Scene) : Option Bool := Option.bind (pad_out F t.pdState_Now 0 100000) fun rv => if rv = true then (some false) else (Option.bind (pad_out F t.pdState_Siren (-1) t.pdState_Now) fun rv2 => if rv2 = true then (some false) else (if (t.pdState_Zones.length : Int) = (t.p_People.length : Int) then (if (t.pdState_Holder.length : Int) = (t.p_Keys.length : Int) then (if (t.pdState_Squibs.length : Int) = (t.p_Squibs.length : Int) then (pad_scene_formed_J1 F t) else (some false)) else (some false)) else (some false)))
theorem pad_scene_formed_pc {F : Nat} {t : Scene} {r : Bool} (h : pad_scene_formed F t = some r) : PC Try.prog 68 [.el 13 (([t]).map Scene.d) ((0 : Int)).toNat 0] (.v (.bool r)) := by
 rw [pad_scene_formed] at h
 refine SC.of_sw Try.func68 R R R ?_
 dsimp only [argS, List.map]
 refine qG (r_asgD R R R (eN (qG (r_movD R R R (r_nilEl R R R (r_faE tb R R R R R R R (r_ldE (y := .agg [.arr 8 ((t.p_Zones).map PdZone.d), .arr 2 ((t.p_Doors).map PdDoor.d), .arr 2 ((t.p_People).map PdPerson.d), .arr 1 ((t.p_Keys).map vS), .arr 6 ((t.p_Squibs).map PdSquib.d), .v (.int .i64 t.p_Panel), .v (.int .i64 t.p_Wait)]) tb R R (ix2 (g := Scene.d) (R : ixO [t] 0 = some t)) R R R R (r_alloc tb R R R R R ?_))))))))
 refine r_stE _ ([some ⟨7, [.d (.agg [.arr 8 ((t.p_Zones).map PdZone.d), .arr 2 ((t.p_Doors).map PdDoor.d), .arr 2 ((t.p_People).map PdPerson.d), .arr 1 ((t.p_Keys).map vS), .arr 6 ((t.p_Squibs).map PdSquib.d), .v (.int .i64 t.p_Panel), .v (.int .i64 t.p_Wait)])]⟩]) tb R R R R R R R R R R R R (eN (qG (r_asgD R R R (eN (sw_seq ?_)))))
 refine sw_join (fun zz : Unit => pad_scene_formed_J1 F t = some r) (fun zz : Unit => ⟨[(0, .d (.el 13 (([t]).map Scene.d) ((0 : Int)).toNat 0)), (2, .d (.v (.bool false))), (3, .ref 0 7 0 0), (4, .d (.v (.func (.func 90) #[] #[])))], [some ⟨7, [.d (.agg [.arr 8 ((t.p_Zones).map PdZone.d), .arr 2 ((t.p_Doors).map PdDoor.d), .arr 2 ((t.p_People).map PdPerson.d), .arr 1 ((t.p_Keys).map vS), .arr 6 ((t.p_Squibs).map PdSquib.d), .v (.int .i64 t.p_Panel), .v (.int .i64 t.p_Wait)])]⟩]⟩) ?_ ?_
 ·clear h
  rintro ⟨⟩ h
  rw [pad_scene_formed_J1] at h
  refine sw_seq (sw_dr (by kernel_rfl) (r_movD R R R (r_nilEl R R R (r_faE tb R R R R R R R (r_faE tb R R R R R R R (r_ldE (y := .arr 1 ((t.pdState_Zones).map vI)) tb R R (ix2 (g := Scene.d) (R : ixO [t] 0 = some t)) R R R R (r_movD R R R (r_fa tb R R R R R R R (r_ldD (y := .arr 8 ((t.p_Zones).map PdZone.d)) tb R R R R R R R R R (r_lenM tb R R R R R (r_sub R R R R ?_)))))))))))
  obtain ⟨rv3, hrv3, h⟩ := bnd h
  refine r_callN (t' := .fn (.func 91) [] [.ref 1 1 0 0, .ref 2 1 0 0]) (news' := [⟨1, [.d (.v (.int .i64 rv3.1))]⟩, ⟨1, [.d (.v (.int .i64 rv3.2))]⟩]) (pad_scene_formed_1_scr hrv3) (.of (by kernel_rfl)) R R R ((.cons R (.cons R .nil))) R R R ?_
  obtain ⟨rv4, hrv4, h⟩ := bnd h
  refine r_callX (t' := .d (.v (.bool rv4))) (news' := []) (slices_ContainsFunc_int_scr (f := (fun a0 => pad_scene_formed_1_1 F a0 rv3.1 rv3.2)) (fc := [.el 1 [.v (.int .i64 rv3.1)] 0 0, .el 1 [.v (.int .i64 rv3.2)] 0 0]) (fh := fun hr => pad_scene_formed_1_1_pc hr) (fe := .of (by kernel_rfl)) hrv4) R .nil (.of (by kernel_rfl)) R R ((.cons (.d (.d _)) (.cons (.fnC (.cons (.d (.ref R (.d _))) (.cons (.d (.ref R (.d _))) .nil))) .nil))) R .nil R R R ?_
  simp only [List.map_nil, List.append_nil]
  with_reducible apply ev_lit
  ·intro c6
   replace h := ifP c6 h
   refine r_notT R R R (r_movD R R R (r_skip R R R (r_skip R R R (r_skip R R R (r_skip R R R (r_skip R R R (r_skip R R R (r_skip R R R (r_skip R R R (r_skip R R R (r_skip R R R (r_skip R R R (r_skip R R R (r_skip R R R (r_pickF R R R R (r_movD R R R (r_skip R R R (r_skip R R R (r_skip R R R (r_skip R R R (r_skip R R R (r_skip R R R (r_skip R R R (r_skip R R R (r_skip R R R (r_pickF R R R R ?_))))))))))))))))))))))))))
   refine r_asgD R R R (ev_endD (by kernel_rfl) (then_norm (sw_ret ?_)))
   obtain rfl := sI h
   exact fin_0 (t := .d (.v (.bool false))) R R R (.cons (.tmp 2) .nil)
  intro c6
  replace h := ifF c6 h
  refine r_notF R R R (r_movD R R R (r_movD R R R (r_nilEl R R R (r_faE tb R R R R R R R (r_faE tb R R R R R R R (r_ldE (y := .arr 1 ((t.pdState_Holder).map vI)) tb R R (ix2 (g := Scene.d) (R : ixO [t] 0 = some t)) R R R R (r_movD R R R (r_fa tb R R R R R R R (r_ldD (y := .arr 2 ((t.p_People).map PdPerson.d)) tb R R R R R R R R R (r_lenM tb R R R R R (r_sub R R R R ?_)))))))))))
  obtain ⟨rv5, hrv5, h⟩ := bnd h
  refine r_callN (t' := .fn (.func 91) [] [.ref 3 1 0 0, .ref 4 1 0 0]) (news' := [⟨1, [.d (.v (.int .i64 rv5.1))]⟩, ⟨1, [.d (.v (.int .i64 rv5.2))]⟩]) (pad_scene_formed_1_scr hrv5) (.of (by kernel_rfl)) R R R ((.cons R (.cons R .nil))) R R R ?_
  obtain ⟨rv6, hrv6, h⟩ := bnd h
  refine r_callX (t' := .d (.v (.bool rv6))) (news' := []) (slices_ContainsFunc_int_scr (f := (fun a0 => pad_scene_formed_1_1 F a0 rv5.1 rv5.2)) (fc := [.el 1 [.v (.int .i64 rv5.1)] 0 0, .el 1 [.v (.int .i64 rv5.2)] 0 0]) (fh := fun hr => pad_scene_formed_1_1_pc hr) (fe := .of (by kernel_rfl)) hrv6) R .nil (.of (by kernel_rfl)) R R ((.cons (.d (.d _)) (.cons (.fnC (.cons (.d (.ref R (.d _))) (.cons (.d (.ref R (.d _))) .nil))) .nil))) R .nil R R R ?_
  simp only [List.map_nil, List.append_nil]
  with_reducible apply ev_lit
  ·intro c7
   replace h := ifP c7 h
   refine r_notT R R R (r_pickT R R R R (r_movD R R R (r_skip R R R (r_skip R R R (r_skip R R R (r_skip R R R (r_skip R R R (r_skip R R R (r_skip R R R (r_skip R R R (r_skip R R R (r_pickF R R R R (r_asgD R R R (ev_endD (by kernel_rfl) (then_norm (sw_ret ?_))))))))))))))))
   obtain rfl := sI h
   exact fin_0 (t := .d (.v (.bool false))) R R R (.cons (.tmp 2) .nil)
  intro c7
  replace h := ifF c7 h
  refine r_notF R R R (r_pickT R R R R (r_movD R R R (r_movD R R R (r_nilEl R R R (r_faE tb R R R R R R R (r_faE tb R R R R R R R (r_ldE (y := .arr 1 ((t.pdState_Squibs).map vI)) tb R R (ix2 (g := Scene.d) (R : ixO [t] 0 = some t)) R R R R (r_movD R R R ?_))))))))
  obtain ⟨rv7, hrv7, h⟩ := bnd h
  refine r_callN (t' := .fn (.func 91) [] [.ref 5 1 0 0, .ref 6 1 0 0]) (news' := [⟨1, [.d (.v (.int .i64 rv7.1))]⟩, ⟨1, [.d (.v (.int .i64 rv7.2))]⟩]) (pad_scene_formed_1_scr hrv7) (.of (by kernel_rfl)) R R R ((.cons R (.cons R .nil))) R R R ?_
  obtain ⟨rv8, hrv8, h⟩ := bnd h
  refine r_callX (t' := .d (.v (.bool rv8))) (news' := []) (slices_ContainsFunc_int_scr (f := (fun a0 => pad_scene_formed_1_1 F a0 rv7.1 rv7.2)) (fc := [.el 1 [.v (.int .i64 rv7.1)] 0 0, .el 1 [.v (.int .i64 rv7.2)] 0 0]) (fh := fun hr => pad_scene_formed_1_1_pc hr) (fe := .of (by kernel_rfl)) hrv8) R .nil (.of (by kernel_rfl)) R R ((.cons (.d (.d _)) (.cons (.fnC (.cons (.d (.ref R (.d _))) (.cons (.d (.ref R (.d _))) .nil))) .nil))) R .nil R R R ?_
  simp only [List.map_nil, List.append_nil]
  refine r_not R R R (r_pickT R R R R (r_asgD R R R (ev_endD (by kernel_rfl) (then_norm (sw_ret ?_)))))
  obtain rfl := sI h
  exact fin_0 (t := .d (.v (.bool (!rv8)))) R R R (.cons (.tmp 2) .nil)
 refine sw_block (sw_seq (sw_dr (by kernel_rfl) (r_movD R R R (r_nilEl R R R (r_faE tb R R R R R R R (r_faE tb R R R R R R R (r_ldE (y := .v (.int .i64 t.pdState_Now)) tb R R (ix2 (g := Scene.d) (R : ixO [t] 0 = some t)) R R R R ?_)))))))
 obtain ⟨rv, hrv, h⟩ := bnd h
 refine r_callB (pad_out_pc hrv) (.of (by kernel_rfl)) R R R R ?_ ?_
 ·intro c
  replace h := ifP c h
  refine r_movD R R R (r_skip R R R (r_skip R R R (r_skip R R R (r_skip R R R (r_skip R R R (r_skip R R R (r_skip R R R (r_skip R R R (r_skip R R R (r_skip R R R (r_skip R R R (r_pickT R R R R (r_asgD R R R (ev_endD (by kernel_rfl) (then_norm (sw_condT R (qG (r_asgD R R R (eN (sw_ret (block_ret (then_ret ?_))))))))))))))))))))))
  obtain rfl := sI h
  exact fin_0 (t := .d (.v (.bool false))) R R R (.cons (.tmp 2) .nil)
 intro c
 replace h := ifF c h
 refine r_movD R R R (r_movD R R R (r_nilEl R R R (r_faE tb R R R R R R R (r_faE tb R R R R R R R (r_ldE (y := .v (.int .i64 t.pdState_Siren)) tb R R (ix2 (g := Scene.d) (R : ixO [t] 0 = some t)) R R R R (r_movD R R R (r_nilEl R R R (r_faE tb R R R R R R R (r_faE tb R R R R R R R (r_ldE (y := .v (.int .i64 t.pdState_Now)) tb R R (ix2 (g := Scene.d) (R : ixO [t] 0 = some t)) R R R R ?_))))))))))
 obtain ⟨rv2, hrv2, h⟩ := bnd h
 refine r_callB (pad_out_pc hrv2) (.of (by kernel_rfl)) R R R R ?_ ?_
 ·intro c2
  replace h := ifP c2 h
  refine r_pickF R R R R (r_asgD R R R (ev_endD (by kernel_rfl) (then_norm (sw_condT R (qG (r_asgD R R R (eN (sw_ret (block_ret (then_ret ?_))))))))))
  obtain rfl := sI h
  exact fin_0 (t := .d (.v (.bool false))) R R R (.cons (.tmp 2) .nil)
 intro c2
 replace h := ifF c2 h
 refine r_pickF R R R R (r_asgD R R R (ev_endD (by kernel_rfl) (then_norm (sw_condF R (sw_seq (sw_dr (by kernel_rfl) (r_movD R R R (r_nilEl R R R (r_faE tb R R R R R R R (r_faE tb R R R R R R R (r_ldE (y := .arr 1 ((t.pdState_Zones).map vI)) tb R R (ix2 (g := Scene.d) (R : ixO [t] 0 = some t)) R R R R (r_lenM tb R R R R R (r_fa tb R R R R R R R (r_ldD (y := .arr 2 ((t.p_People).map PdPerson.d)) tb R R R R R R R R R (r_lenM tb R R R R R ?_)))))))))))))))
 refine r_neq R R R R ?_ ?_
 ·intro c3
  replace h := ifN c3 h
  refine r_movD R R R (r_skip R R R (r_skip R R R (r_skip R R R (r_skip R R R (r_skip R R R (r_skip R R R (r_skip R R R (r_skip R R R (r_skip R R R (r_skip R R R (r_pickT R R R R (r_movD R R R (r_skip R R R (r_skip R R R (r_skip R R R (r_skip R R R (r_skip R R R (r_skip R R R (r_skip R R R (r_skip R R R (r_skip R R R (r_skip R R R (r_pickT R R R R (r_asgD R R R (ev_endD (by kernel_rfl) (then_norm ?_))))))))))))))))))))))))))
  refine sw_condT R (qG (r_asgD R R R (eN (sw_ret (block_ret (then_ret ?_))))))
  obtain rfl := sI h
  exact fin_0 (t := .d (.v (.bool false))) R R R (.cons (.tmp 2) .nil)
 intro c3
 replace h := ifP c3 h
 refine r_movD R R R (r_movD R R R (r_nilEl R R R (r_faE tb R R R R R R R (r_faE tb R R R R R R R (r_ldE (y := .arr 1 ((t.pdState_Holder).map vI)) tb R R (ix2 (g := Scene.d) (R : ixO [t] 0 = some t)) R R R R (r_lenM tb R R R R R (r_fa tb R R R R R R R (r_ldD (y := .arr 1 ((t.p_Keys).map vS)) tb R R R R R R R R R (r_lenM tb R R R R R ?_)))))))))
 refine r_neq R R R R ?_ ?_
 ·intro c4
  replace h := ifN c4 h
  refine r_pickF R R R R (r_movD R R R (r_skip R R R (r_skip R R R (r_skip R R R (r_skip R R R (r_skip R R R (r_skip R R R (r_skip R R R (r_skip R R R (r_skip R R R (r_skip R R R (r_pickT R R R R (r_asgD R R R (ev_endD (by kernel_rfl) (then_norm (sw_condT R (qG (r_asgD R R R (eN (sw_ret (block_ret (then_ret ?_))))))))))))))))))))))
  obtain rfl := sI h
  exact fin_0 (t := .d (.v (.bool false))) R R R (.cons (.tmp 2) .nil)
 intro c4
 replace h := ifP c4 h
 refine r_pickF R R R R (r_movD R R R (r_movD R R R (r_nilEl R R R (r_faE tb R R R R R R R (r_faE tb R R R R R R R (r_ldE (y := .arr 1 ((t.pdState_Squibs).map vI)) tb R R (ix2 (g := Scene.d) (R : ixO [t] 0 = some t)) R R R R (r_lenM tb R R R R R (r_fa tb R R R R R R R (r_ldD (y := .arr 6 ((t.p_Squibs).map PdSquib.d)) tb R R R R R R R R R (r_lenM tb R R R R R ?_))))))))))
 refine r_neq R R R R ?_ ?_
 ·intro c5
  replace h := ifN c5 h
  refine r_pickF R R R R (r_asgD R R R (ev_endD (by kernel_rfl) (then_norm (sw_condT R (qG (r_asgD R R R (eN (sw_ret (block_ret (then_ret ?_))))))))))
  obtain rfl := sI h
  exact fin_0 (t := .d (.v (.bool false))) R R R (.cons (.tmp 2) .nil)
 intro c5
 replace h := ifP c5 h
 refine r_pickF R R R R (r_asgD R R R (ev_endD (by kernel_rfl) (then_norm (sw_condF R (sw_skip (block_norm (then_norm ?_)))))))
 exact .inl ⟨(), h, .prn [0, 2, 3, 4] R⟩
def pad_scene_crowd_L1 (F : Nat) (c : Scene) (zone : Int) (K : Int → Int → Option Int) : Nat → Int → Int → Option Int
 | 0, _, _ => none
 | n + 1, nv, x => if x < (c.pdState_Zones.length : Int) then (Option.bind (ixO c.pdState_Zones x) fun e => if e = zone then (pad_scene_crowd_L1 F c zone K n (W (nv + 1)) (W (x + 1))) else (pad_scene_crowd_L1 F c zone K n nv (W (x + 1)))) else (K nv x)
def pad_scene_crowd (F : Nat) (c : Scene) (zone : Int) : Option Int := pad_scene_crowd_L1 F c zone (fun (nv : Int) (x : Int) => some nv) F 0 0
theorem pad_scene_crowd_pc {F : Nat} {c : Scene} {zone : Int} {r : Int} (h : pad_scene_crowd F c zone = some r) : PC Try.prog 92 [.el 13 (([c]).map Scene.d) ((0 : Int)).toNat 0, .v (.int .i64 zone)] (.v (.int .i64 r)) := by
 rw [pad_scene_crowd] at h
 refine SC.of_sw Try.func92 R R R ?_
 dsimp only [argS, List.map]
 refine qG (r_asgD R R R (eN (sw_seq (qG (r_movD R R R (r_nilEl R R R (r_faE tb R R R R R R R (r_faE tb R R R R R R R (r_ldE (y := .arr 1 ((c.pdState_Zones).map vI)) tb R R (ix2 (g := Scene.d) (R : ixO [c] 0 = some c)) R R R R (r_lenM tb R R R R R (r_movD R R R (eN (sw_block ?_)))))))))))))
 obtain ⟨K3, hK3, h⟩ : ∃ K, K = _ ∧ pad_scene_crowd_L1 F c zone K F 0 0 = some r := ⟨_, rfl, h⟩
 refine sw_loop (st0 := ⟨[(1, .d (.v (.int .i64 zone))), (4, .d (.v (.int .i64 0))), (11, .d (.arr 1 ((c.pdState_Zones).map vI))), (12, .d (.v (.int .i64 (c.pdState_Zones.length : Int)))), (13, .d (.v (.int .i64 0)))], []⟩) (κ := []) (fun m st => ∃ (nv : Int) (x : Int), pad_scene_crowd_L1 F c zone K3 m nv x = some r ∧ st = ⟨[(1, .d (.v (.int .i64 zone))), (4, .d (.v (.int .i64 nv))), (11, .d (.arr 1 ((c.pdState_Zones).map vI))), (12, .d (.v (.int .i64 (c.pdState_Zones.length : Int)))), (13, .d (.v (.int .i64 x)))], []⟩) (vwK R R .nil (.cons R R (.cons R R (.cons R R (.cons R R (.cons R R .nil)))))) ⟨0, 0, h, R⟩ ?_
 clear h
 rintro m3 st ⟨nv, x, h, rfl⟩
 cases m3 with
 | zero => cases (show (none : Option Int) = some r from h)
 | succ m3 =>
 rw [pad_scene_crowd_L1] at h
 refine qG ?_
 refine r_lss R R R R ?_ ?_
 ·intro c2
  replace h := ifP c2 h
  refine eN (sw_seq (sw_condT R (sw_skip (then_norm (sw_seq (sw_block (qG ?_)))))))
  obtain ⟨e, ie, h⟩ := bnd h
  refine r_ixE tb R R R R R R (ix0 ie) (ix1m ie) R R (r_ldE (y := .v (.int .i64 e)) tb R R (ix2 (g := vI) ie) R R R R (r_asgD R R R (eN (qG (r_movD R R R (r_movD R R R ?_))))))
  refine r_eql R R R R ?_ ?_
  ·intro c3
   replace h := ifP c3 h
   refine eN (sw_condT R (sw_rg (r_movD R R R (r_add R R R R (r_asgD R R R (ev_end (block_norm (then_norm (sw_rg (r_add R R R R (r_movD R R R (eN ?_))))))))))))
   exact ⟨m3, ⟨[(1, .d (.v (.int .i64 zone))), (4, .d (.v (.int .i64 (W (nv + 1))))), (11, .d (.arr 1 ((c.pdState_Zones).map vI))), (12, .d (.v (.int .i64 (c.pdState_Zones.length : Int)))), (13, .d (.v (.int .i64 (W (x + 1)))))], []⟩, [], Nat.lt_succ_self _, (vwK R R .nil (.cons R R (.cons R R (.cons R R (.cons R R (.cons R R .nil)))))), (W (nv + 1)), (W (x + 1)), h, R⟩
  intro c3
  replace h := ifN c3 h
  refine eN (sw_condF R (sw_skip (block_norm (then_norm (sw_rg (r_add R R R R (r_movD R R R (eN ?_))))))))
  exact ⟨m3, ⟨[(1, .d (.v (.int .i64 zone))), (4, .d (.v (.int .i64 nv))), (11, .d (.arr 1 ((c.pdState_Zones).map vI))), (12, .d (.v (.int .i64 (c.pdState_Zones.length : Int)))), (13, .d (.v (.int .i64 (W (x + 1)))))], []⟩, [], Nat.lt_succ_self _, (vwK R R .nil (.cons R R (.cons R R (.cons R R (.cons R R (.cons R R .nil)))))), nv, (W (x + 1)), h, R⟩
 intro c2
 replace h := ifN (Int.not_lt.2 c2) h
 refine eN (sw_seq (sw_condF R (sw_exit (then_exit (then_exit ?_)))))
 subst hK3
 refine block_exit (then_norm (qG (r_movD R R R (r_asgD R R R (eN (sw_ret ?_))))))
 obtain rfl := sI h
 exact fin_0 (t := .d (.v (.int .i64 nv))) R R R (.cons (.tmp 4) .nil)
def pad_scene_owed_L1 (F : Nat) (c : Scene) (e : PdSquib) (K : (List Int) → Int → Option (List Int)) : Nat → (List Int) → Int → Option (List Int)
 | 0, _, _ => none
 | n + 1, lv, x => if x < (e.keys.length : Int) then (Option.bind (ixO e.keys x) fun e2 => Option.bind (ixO c.pdState_Holder e2) fun e3 => if 0 ≤ e3 then (Option.bind (appO lv [e2]) fun q => pad_scene_owed_L1 F c e K n q (W (x + 1))) else (pad_scene_owed_L1 F c e K n lv (W (x + 1)))) else (K lv x)
def pad_scene_owed (F : Nat) (c : Scene) (squib : Int) : Option (List Int) := Option.bind (ixO c.p_Squibs squib) fun e => pad_scene_owed_L1 F c e (fun (lv : (List Int)) (x : Int) => some lv) F ([] : List Int) 0
theorem pad_scene_owed_scr {F : Nat} {c : Scene} {squib : Int} {r : (List Int)} (h : pad_scene_owed F c squib = some r) : SCR Try.prog 70 (List.map T.d [.el 13 (([c]).map Scene.d) ((0 : Int)).toNat 0, .v (.int .i64 squib)]) [] (.row 0 1 0 (r).length) (List.map some [(lvI r)]) := by
 rw [pad_scene_owed] at h
 refine SC.of_sw Try.func70 R R R ?_
 dsimp only [argS, List.map]
 refine qG (r_asgD R R R (eN (sw_seq (qG (r_movD R R R (r_nilEl R R R (r_faE tb R R R R R R R (r_faE tb R R R R R R R (r_ldE (y := .arr 6 ((c.p_Squibs).map PdSquib.d)) tb R R (ix2 (g := Scene.d) (R : ixO [c] 0 = some c)) R R R R (r_movD R R R ?_))))))))))
 obtain ⟨e, ie, h⟩ := bnd h
 refine r_ixE tb R R R R R R (ix0 ie) (ix1m ie) R R (r_faE tb R R R R R R R (r_ldE (y := .arr 1 ((e.keys).map vI)) tb R R (ix2 (g := PdSquib.d) ie) R R R R (r_lenM tb R R R R R (r_movD R R R (eN (sw_block ?_))))))
 refine SW.own (ts' := [(0, .d (.el 13 (([c]).map Scene.d) ((0 : Int)).toNat 0)), (4, .row 0 1 0 (([] : List Int)).length), (15, .d (.arr 1 ((e.keys).map vI))), (16, .d (.v (.int .i64 (e.keys.length : Int)))), (17, .d (.v (.int .i64 0)))]) (L' := []) 1 R R (.cons (.same _) (.cons .nil (.cons (.same _) (.cons (.same _) (.cons (.same _) .nil))))) .nil ?_
 simp only [List.cons_append, List.nil_append]
 obtain ⟨K2, hK2, h⟩ : ∃ K, K = _ ∧ pad_scene_owed_L1 F c e K F ([] : List Int) 0 = some r := ⟨_, rfl, h⟩
 refine sw_loop (st0 := ⟨[(0, .d (.el 13 (([c]).map Scene.d) ((0 : Int)).toNat 0)), (4, .row 0 1 0 (([] : List Int)).length), (15, .d (.arr 1 ((e.keys).map vI))), (16, .d (.v (.int .i64 (e.keys.length : Int)))), (17, .d (.v (.int .i64 0)))], [some (lvI ([] : List Int))]⟩) (κ := [0]) (fun m st => ∃ (lv : (List Int)) (x : Int), pad_scene_owed_L1 F c e K2 m lv x = some r ∧ st = ⟨[(0, .d (.el 13 (([c]).map Scene.d) ((0 : Int)).toNat 0)), (4, .row 0 1 0 (lv).length), (15, .d (.arr 1 ((e.keys).map vI))), (16, .d (.v (.int .i64 (e.keys.length : Int)))), (17, .d (.v (.int .i64 x)))], [some (lvI lv)]⟩) (vwK R R (.row R .nil) (.cons R R (.cons R R (.cons R R (.cons R R (.cons R R .nil)))))) ⟨([] : List Int), 0, h, R⟩ ?_
 clear h
 rintro m2 st ⟨lv, x, h, rfl⟩
 cases m2 with
 | zero => cases (show (none : Option (List Int)) = some r from h)
 | succ m2 =>
 rw [pad_scene_owed_L1] at h
 refine qG ?_
 refine r_lss R R R R ?_ ?_
 ·intro c2
  replace h := ifP c2 h
  refine eN (sw_seq (sw_condT R (sw_skip (then_norm (sw_seq (sw_block (qG ?_)))))))
  obtain ⟨e2, ie2, h⟩ := bnd h
  refine r_ixE tb R R R R R R (ix0 ie2) (ix1m ie2) R R (r_ldE (y := .v (.int .i64 e2)) tb R R (ix2 (g := vI) ie2) R R R R (r_asgD R R R (eN (qG (r_movD R R R (r_nilEl R R R (r_faE tb R R R R R R R (r_faE tb R R R R R R R (r_ldE (y := .arr 1 ((c.pdState_Holder).map vI)) tb R R (ix2 (g := Scene.d) (R : ixO [c] 0 = some c)) R R R R (r_movD R R R ?_))))))))))
  obtain ⟨e3, ie3, h⟩ := bnd h
  refine r_ixE tb R R R R R R (ix0 ie3) (ix1m ie3) R R (r_ldE (y := .v (.int .i64 e3)) tb R R (ix2 (g := vI) ie3) R R R R ?_)
  refine r_geq R R R R ?_ ?_
  ·intro c3
   replace h := ifP c3 h
   refine eN (sw_condT R (sw_rg (r_movW R R R (r_movD R R R (r_bslice tb R R R R R R R R R R R R R ?_)))))
   obtain ⟨q, iq, h⟩ := bnd h
   refine r_apM (g := vI) (w := lv) (v := [e2]) ([none, some (lvI [e2])]) tb R R R R R R R R R R R iq R R R R R (r_asgW R R R (ev_end (block_norm (then_norm (sw_rg (r_add R R R R (r_movD R R R (eN ?_))))))))
   exact ⟨m2, ⟨[(0, .d (.el 13 (([c]).map Scene.d) ((0 : Int)).toNat 0)), (4, .row 0 1 0 (q).length), (15, .d (.arr 1 ((e.keys).map vI))), (16, .d (.v (.int .i64 (e.keys.length : Int)))), (17, .d (.v (.int .i64 (W (x + 1)))))], [some (lvI q)]⟩, [2], Nat.lt_succ_self _, (vwK R R (.row R .nil) (.cons R R (.cons R R (.cons R R (.cons R R (.cons R R .nil)))))), q, (W (x + 1)), h, R⟩
  intro c3
  replace h := ifN (Int.not_le.2 c3) h
  refine eN (sw_condF R (sw_skip (block_norm (then_norm (sw_rg (r_add R R R R (r_movD R R R (eN ?_))))))))
  exact ⟨m2, ⟨[(0, .d (.el 13 (([c]).map Scene.d) ((0 : Int)).toNat 0)), (4, .row 0 1 0 (lv).length), (15, .d (.arr 1 ((e.keys).map vI))), (16, .d (.v (.int .i64 (e.keys.length : Int)))), (17, .d (.v (.int .i64 (W (x + 1)))))], [some (lvI lv)]⟩, [0], Nat.lt_succ_self _, (vwK R R (.row R .nil) (.cons R R (.cons R R (.cons R R (.cons R R (.cons R R .nil)))))), lv, (W (x + 1)), h, R⟩
 intro c2
 replace h := ifN (Int.not_lt.2 c2) h
 refine eN (sw_seq (sw_condF R (sw_exit (then_exit (then_exit ?_)))))
 subst hK2
 refine block_exit (then_norm (qG (r_movW R R R (r_asgW R R R (eN (sw_ret ?_))))))
 obtain rfl := sI h
 exact (fin_S (t := .row 0 1 0 (lv).length) (L := [some (lvI lv)]) (κ := [0]) R (.cons (.tmp 4) .nil) (vwK R R (.row R .nil) (.cons R R .nil)) ⟨R, R⟩)
theorem pad_scene_owed_pc {F : Nat} {c : Scene} {squib : Int} {r : (List Int)} (h : pad_scene_owed F c squib = some r) : PC Try.prog 70 [.el 13 (([c]).map Scene.d) ((0 : Int)).toNat 0, .v (.int .i64 squib)] (.arr 1 ((r).map vI)) := (pad_scene_owed_scr h).toPC (.row rfl rfl)
def pad_scene_keyed_1 (F : Nat) (k : Int) (c : Scene) (c2 : Int) : Option Bool := Option.bind (ixO c.pdState_Holder k) fun e => some (decide (e = c2))
theorem pad_scene_keyed_1_pc {F : Nat} {k : Int} {c : Scene} {c2 : Int} {r : Bool} (h : pad_scene_keyed_1 F k c c2 = some r) : PC Try.prog 110 [.v (.int .i64 k), .el 1 (([c]).map (fun x => D.el 13 [Scene.d x] 0 0)) ((0 : Int)).toNat 0, .el 1 (([c2]).map vI) ((0 : Int)).toNat 0] (.v (.bool r)) := by
 rw [pad_scene_keyed_1] at h
 refine SC.of_sw Try.func110 R R R ?_
 dsimp only [argS, List.map]
 refine qG (r_asgD R R R (eN (sw_seq (sw_dr (by kernel_rfl) ?_))))
 refine r_ldE (y := .el 13 (([c]).map Scene.d) ((0 : Int)).toNat 0) tb R R (ix2 (g := (fun x => D.el 13 [Scene.d x] 0 0)) (R : ixO [c] 0 = some c)) R R R R ?_
 refine r_nilEl R R R (r_faE tb R R R R R R R (r_faE tb R R R R R R R (r_ldE (y := .arr 1 ((c.pdState_Holder).map vI)) tb R R (ix2 (g := Scene.d) (R : ixO [c] 0 = some c)) R R R R (r_movD R R R ?_))))
 obtain ⟨e, ie, h⟩ := bnd h
 refine r_ixE tb R R R R R R (ix0 ie) (ix1m ie) R R (r_ldE (y := .v (.int .i64 e)) tb R R (ix2 (g := vI) ie) R R R R (r_ldE (y := .v (.int .i64 c2)) tb R R (ix2 (g := vI) (R : ixO [c2] 0 = some c2)) R R R R (r_eqlV R R R R (r_asgD R R R (ev_endD (by kernel_rfl) (then_norm (sw_ret ?_)))))))
 obtain rfl := sI h
 exact fin_0 (t := .d (.v (.bool (decide (e = c2))))) R R R (.cons (.tmp 4) .nil)
def pad_scene_keyed_J1 (F : Nat) (B4 : Int → Option Bool) (x : Int) : Option Bool := B4 (W (x + 1))
def pad_scene_keyed_L1 (F : Nat) (c : Scene) (person : Int) (rv : (Int × PdPad)) (e : PdZone) (K : Int → Option Bool) : Nat → Int → Option Bool
 | 0, _ => none
 | n + 1, x => if x < (rv.2.squibs.length : Int) then (Option.bind (ixO rv.2.squibs x) fun e2 => if (W ((W ((max (max (W (e.area_X_Lo - e2.at_X)) (W (e2.at_X - e.area_X_Hi))) 0) * (max (max (W (e.area_X_Lo - e2.at_X)) (W (e2.at_X - e.area_X_Hi))) 0))) + (W ((max (max (W (e.area_Y_Lo - e2.at_Y)) (W (e2.at_Y - e.area_Y_Hi))) 0) * (max (max (W (e.area_Y_Lo - e2.at_Y)) (W (e2.at_Y - e.area_Y_Hi))) 0))))) < (W (e2.clear * e2.clear)) then (Option.bind (ixO c.pdState_Squibs x) fun e3 => if e3 = 2 then (pad_scene_keyed_J1 F (pad_scene_keyed_L1 F c person rv e K n) x) else (Option.bind (ixO c.p_Squibs x) fun e4 => Option.bind (slices_ContainsFunc_int F e4.keys (fun a0 => pad_scene_keyed_1 F a0 c person)) fun rv2 => if rv2 = true then (pad_scene_keyed_J1 F (pad_scene_keyed_L1 F c person rv e K n) x) else (some false))) else (pad_scene_keyed_L1 F c person rv e K n (W (x + 1)))) else (K x)
def pad_scene_keyed (F : Nat) (c : Scene) (person : Int) (zone : Int) : Option Bool := Option.bind (pad_near F (PdPad.mk c.p_Zones c.p_Doors c.p_People c.p_Keys c.p_Squibs c.p_Panel c.p_Wait) zone) fun rv => if rv.1 < 0 then (some true) else (Option.bind (ixO rv.2.zones rv.1) fun e => pad_scene_keyed_L1 F c person rv e (fun (x : Int) => some true) F 0)
theorem pad_scene_keyed_pc {F : Nat} {c : Scene} {person : Int} {zone : Int} {r : Bool} (h : pad_scene_keyed F c person zone = some r) : PC Try.prog 94 [.el 13 (([c]).map Scene.d) ((0 : Int)).toNat 0, .v (.int .i64 person), .v (.int .i64 zone)] (.v (.bool r)) := by
 rw [pad_scene_keyed] at h
 refine SC.of_swm Try.func94 R R R ?_
 dsimp only [argS, List.map]
 refine swm_seq ?_
 refine swm_of fun df => ?_
 refine sw_rg (r_box R R R R R R R (r_box R R R R R R R (r_alloc tb R R R R R (eN (swm_seq (swm_seq ?_))))))
 refine swm_of fun df => ?_
 refine sw_rg (r_ldD (y := .el 13 (([c]).map Scene.d) ((0 : Int)).toNat 0) tb R R R R R R R R R (r_nilEl R R R (r_faE tb R R R R R R R (r_ldE (y := .agg [.arr 8 ((c.p_Zones).map PdZone.d), .arr 2 ((c.p_Doors).map PdDoor.d), .arr 2 ((c.p_People).map PdPerson.d), .arr 1 ((c.p_Keys).map vS), .arr 6 ((c.p_Squibs).map PdSquib.d), .v (.int .i64 c.p_Panel), .v (.int .i64 c.p_Wait)]) tb R R (ix2 (g := Scene.d) (R : ixO [c] 0 = some c)) R R R R (r_movD R R R ?_)))))
 obtain ⟨rv, hrv, h⟩ := bnd h
 refine r_callN (t' := .fn (.func 78) [] [.ref 3 1 0 0, .ref 4 7 0 0]) (news' := [⟨1, [.d (.v (.int .i64 rv.1))]⟩, ⟨7, [.d (PdPad.d rv.2)]⟩]) (pad_near_scr hrv) (.of (by kernel_rfl)) R R R ((.cons R (.cons R .nil))) R R R (eN (swm_block ?_))
 refine swm_range (.of (by kernel_rfl)) Try.func78 R R R R R R fun lb => ?_
 simp only [argS, Nat.zero_add, Nat.reduceAdd]
 refine swj_seq (swj_seq (swj_rg (rgj_ev (r_ldD (y := .v (.int .i64 rv.1)) tb R R R R R R R R R ?_))))
 refine r_lss R R R R ?_ ?_
 ·intro c2
  replace h := ifP c2 h
  refine ev_endJ (thenj_norm (swj_condT R (swj_ret (thenj_ret ?_))))
  refine ⟨R, [some ⟨1, [.d (.el 13 (([c]).map Scene.d) ((0 : Int)).toNat 0)]⟩, some ⟨1, [.d (.v (.int .i64 person))]⟩, some ⟨1, [.d (.v (.bool false))]⟩, some ⟨1, [.d (.v (.int .i64 rv.1))]⟩, some ⟨7, [.d (PdPad.d rv.2)]⟩], [0, 1, 2, 3, 4], (vwK R R (.cons R R (.cons R R (.cons R R (.cons R R (.cons R R .nil))))) .nil), ?_⟩
  refine block_norm (then_norm ?_)
  refine swm_of fun df => ?_
  refine qG (r_stE _ ([some ⟨1, [.d (.el 13 (([c]).map Scene.d) ((0 : Int)).toNat 0)]⟩, some ⟨1, [.d (.v (.int .i64 person))]⟩, some ⟨1, [.d (.v (.bool true))]⟩, some ⟨1, [.d (.v (.int .i64 rv.1))]⟩, some ⟨7, [.d (PdPad.d rv.2)]⟩]) tb R R R R R R R R R R R R (eN (sw_ret ?_)))
  obtain rfl := sI h
  exact fin_0 (t := .d (.v (.bool true))) R R R (.cons (rcell tb (u := .d (.v (.bool true))) R R R R R R R) .nil)
 intro c2
 replace h := ifN (Int.not_lt.2 c2) h
 refine ev_endJ (thenj_norm (swj_condF R (swj_skip (thenj_norm (swj_seq (swj_rg (rgj_ev (r_fa tb R R R R R R R (r_ldD (y := .arr 8 ((rv.2.zones).map PdZone.d)) tb R R R R R R R R R (r_ldD (y := .v (.int .i64 rv.1)) tb R R R R R R R R R ?_))))))))))
 obtain ⟨e, ie, h⟩ := bnd h
 refine r_ixE tb R R R R R R (ix0 ie) (ix1m ie) R R (r_faE tb R R R R R R R (r_ldE (y := .agg [.v (.int .i64 e.area_X_Lo), .v (.int .i64 e.area_X_Hi), .v (.int .i64 e.area_Y_Lo), .v (.int .i64 e.area_Y_Hi)]) tb R R (ix2 (g := PdZone.d) ie) R R R R (r_alloc tb R R R R R ?_)))
 refine r_stE _ ([some ⟨1, [.d (.el 13 (([c]).map Scene.d) ((0 : Int)).toNat 0)]⟩, some ⟨1, [.d (.v (.int .i64 person))]⟩, some ⟨1, [.d (.v (.bool false))]⟩, some ⟨1, [.d (.v (.int .i64 rv.1))]⟩, some ⟨7, [.d (PdPad.d rv.2)]⟩, some ⟨4, [.d (.agg [.v (.int .i64 e.area_X_Lo), .v (.int .i64 e.area_X_Hi), .v (.int .i64 e.area_Y_Lo), .v (.int .i64 e.area_Y_Hi)])]⟩]) tb R R R R R R R R R R R R (ev_endJ (thenj_norm (swj_seq (swj_rg (rgj_ev (r_fa tb R R R R R R R ?_))))))
 refine r_ldD (y := .arr 6 ((rv.2.squibs).map PdSquib.d)) tb R R R R R R R R R (r_lenM tb R R R R R (r_movD R R R (ev_endJ (thenj_norm (swj_block ?_)))))
 obtain ⟨K4, hK4, h⟩ : ∃ K, K = _ ∧ pad_scene_keyed_L1 F c person rv e K F 0 = some r := ⟨_, rfl, h⟩
 refine swj_loop (st0 := ⟨[(0, .d (.v (.func (.yield lb) #[] #[]))), (4, .ref 5 4 0 0), (18, .d (.arr 6 ((rv.2.squibs).map PdSquib.d))), (19, .d (.v (.int .i64 (rv.2.squibs.length : Int)))), (20, .d (.v (.int .i64 0)))], [some ⟨1, [.d (.el 13 (([c]).map Scene.d) ((0 : Int)).toNat 0)]⟩, some ⟨1, [.d (.v (.int .i64 person))]⟩, some ⟨1, [.d (.v (.bool false))]⟩, some ⟨1, [.d (.v (.int .i64 rv.1))]⟩, some ⟨7, [.d (PdPad.d rv.2)]⟩, some ⟨4, [.d (.agg [.v (.int .i64 e.area_X_Lo), .v (.int .i64 e.area_X_Hi), .v (.int .i64 e.area_Y_Lo), .v (.int .i64 e.area_Y_Hi)])]⟩]⟩) (κ := [0, 1, 2, 3, 4, 5]) (fun m ph st => ∃ (x : Int), pad_scene_keyed_L1 F c person rv e K4 m x = some r ∧ ph = SX.norm ∧ st = ⟨[(0, .d (.v (.func (.yield lb) #[] #[]))), (4, .ref 5 4 0 0), (18, .d (.arr 6 ((rv.2.squibs).map PdSquib.d))), (19, .d (.v (.int .i64 (rv.2.squibs.length : Int)))), (20, .d (.v (.int .i64 x)))], [some ⟨1, [.d (.el 13 (([c]).map Scene.d) ((0 : Int)).toNat 0)]⟩, some ⟨1, [.d (.v (.int .i64 person))]⟩, some ⟨1, [.d (.v (.bool false))]⟩, some ⟨1, [.d (.v (.int .i64 rv.1))]⟩, some ⟨7, [.d (PdPad.d rv.2)]⟩, some ⟨4, [.d (.agg [.v (.int .i64 e.area_X_Lo), .v (.int .i64 e.area_X_Hi), .v (.int .i64 e.area_Y_Lo), .v (.int .i64 e.area_Y_Hi)])]⟩]⟩) (vwK R R (.cons R R (.cons R R (.cons R R (.cons R R (.cons R R (.cons R R .nil)))))) (.cons R R (.cons R R (.cons R R (.cons R R (.cons R R .nil)))))) ⟨0, h, R, R⟩ ?_
 clear h
 rintro m4 ph st ⟨x, h, rfl, rfl⟩
 cases m4 with
 | zero => cases (show (none : Option Bool) = some r from h)
 | succ m4 =>
 rw [pad_scene_keyed_L1] at h
 refine swj_seq (swj_rg (rgj_ev ?_))
 refine r_lss R R R R ?_ ?_
 ·intro c3
  replace h := ifP c3 h
  refine ev_endJ (thenj_norm (swj_seq (swj_condT R (swj_skip (thenj_norm (swj_seq (swj_block (swj_seq (swj_rg (rgj_ev (r_movD R R R ?_)))))))))))
  obtain ⟨e2, ie2, h⟩ := bnd h
  refine r_ixE tb R R R R R R (ix0 ie2) (ix1m ie2) R R (r_ldE (y := PdSquib.d e2) tb R R (ix2 (g := PdSquib.d) ie2) R R R R (r_alloc tb R R R R R (r_asgD R R R ?_)))
  refine r_stE _ ([some ⟨1, [.d (.el 13 (([c]).map Scene.d) ((0 : Int)).toNat 0)]⟩, some ⟨1, [.d (.v (.int .i64 person))]⟩, some ⟨1, [.d (.v (.bool false))]⟩, some ⟨1, [.d (.v (.int .i64 rv.1))]⟩, some ⟨7, [.d (PdPad.d rv.2)]⟩, some ⟨4, [.d (.agg [.v (.int .i64 e.area_X_Lo), .v (.int .i64 e.area_X_Hi), .v (.int .i64 e.area_Y_Lo), .v (.int .i64 e.area_Y_Hi)])]⟩, some ⟨6, [.d (PdSquib.d e2)]⟩]) tb R R R R R R R R R R R R (ev_endJ (thenj_norm (swj_seq (swj_of (sw_dr (by kernel_rfl) (r_fa tb R R R R R R R (r_fa tb R R R R R R R ?_)))))))
  refine r_ldD (y := .v (.int .i64 e.area_X_Lo)) tb R R R R R R R R R (r_fa tb R R R R R R R (r_fa tb R R R R R R R (r_ldD (y := .v (.int .i64 e2.at_X)) tb R R R R R R R R R (r_sub R R R R (r_fa tb R R R R R R R (r_fa tb R R R R R R R (r_ldD (y := .v (.int .i64 e2.at_X)) tb R R R R R R R R R (r_fa tb R R R R R R R (r_fa tb R R R R R R R (r_ldD (y := .v (.int .i64 e.area_X_Hi)) tb R R R R R R R R R ?_))))))))))
  refine r_sub R R R R (r_max3 R R R R R (r_fa tb R R R R R R R (r_fa tb R R R R R R R (r_ldD (y := .v (.int .i64 e.area_Y_Lo)) tb R R R R R R R R R (r_fa tb R R R R R R R (r_fa tb R R R R R R R (r_ldD (y := .v (.int .i64 e2.at_Y)) tb R R R R R R R R R (r_sub R R R R (r_fa tb R R R R R R R (r_fa tb R R R R R R R (r_ldD (y := .v (.int .i64 e2.at_Y)) tb R R R R R R R R R (r_fa tb R R R R R R R ?_))))))))))))
  refine r_fa tb R R R R R R R (r_ldD (y := .v (.int .i64 e.area_Y_Hi)) tb R R R R R R R R R (r_sub R R R R (r_max3 R R R R R (r_asgD R R R (r_asgD R R R (ev_endD (by kernel_rfl) (thenj_norm (swj_seq (swj_rg (rgj_ev (r_movD R R R (r_movD R R R (r_mul R R R R (r_movD R R R (r_movD R R R (r_mul R R R R (r_add R R R R (r_fa tb R R R R R R R (r_ldD (y := .v (.int .i64 e2.clear)) tb R R R R R R R R R ?_)))))))))))))))))))
  refine r_fa tb R R R R R R R (r_ldD (y := .v (.int .i64 e2.clear)) tb R R R R R R R R R (r_mul R R R R ?_))
  refine r_lss R R R R ?_ ?_
  ·intro c4
   replace h := ifP c4 h
   refine r_movD R R R (r_movD R R R (r_movD R R R (ev_yieldJ ?_)))
   (with_reducible apply rgj_yield (ys := [.v (.int .i64 x)])); (iterate 7 exact rfl)
   dsimp only [parS]
   refine sw_rg (r_asgD R R R (ev_end ?_))
   refine ⟨R, swy_rd ?_⟩
   refine sw_block (sw_seq ?_)
   refine sw_join (fun zz : Unit => pad_scene_keyed_J1 F (pad_scene_keyed_L1 F c person rv e K4 m4) x = some r) (fun zz : Unit => ⟨[(6, .ref 2 1 0 0), (37, .d (.v (.bool false)))], [some ⟨1, [.d (.el 13 (([c]).map Scene.d) ((0 : Int)).toNat 0)]⟩, some ⟨1, [.d (.v (.int .i64 person))]⟩, some ⟨1, [.d (.v (.bool false))]⟩, some ⟨1, [.d (.v (.int .i64 rv.1))]⟩, some ⟨7, [.d (PdPad.d rv.2)]⟩, some ⟨4, [.d (.agg [.v (.int .i64 e.area_X_Lo), .v (.int .i64 e.area_X_Hi), .v (.int .i64 e.area_Y_Lo), .v (.int .i64 e.area_Y_Hi)])]⟩, some ⟨6, [.d (PdSquib.d e2)]⟩]⟩) ?_ ?_
   ·clear h
    rintro ⟨⟩ h
    rw [pad_scene_keyed_J1] at h
    refine sw_condF R (sw_skip (block_norm ?_))
    refine ⟨[some ⟨1, [.d (.el 13 (([c]).map Scene.d) ((0 : Int)).toNat 0)]⟩, some ⟨1, [.d (.v (.int .i64 person))]⟩, some ⟨1, [.d (.v (.bool false))]⟩, some ⟨1, [.d (.v (.int .i64 rv.1))]⟩, some ⟨7, [.d (PdPad.d rv.2)]⟩, some ⟨4, [.d (.agg [.v (.int .i64 e.area_X_Lo), .v (.int .i64 e.area_X_Hi), .v (.int .i64 e.area_Y_Lo), .v (.int .i64 e.area_Y_Hi)])]⟩, some ⟨6, [.d (PdSquib.d e2)]⟩], [0, 1, 2, 3, 4, 5, 6], (vwK R R (.cons R R (.cons R R (.cons R R (.cons R R (.cons R R (.cons R R (.cons R R .nil))))))) .nil), ?_⟩
    with_reducible apply yk_norm
    refine rgj_ev (r_notT R R R (r_pickT R R R R (ev_endJ (thenj_norm (swj_condF R (swj_skip (blockj_norm (thenj_norm (swj_rg (rgj_ev (r_add R R R R (r_movD R R R (ev_endJ (thenj_norm ?_))))))))))))))
    exact ⟨m4, ⟨[(0, .d (.v (.func (.yield lb) #[] #[]))), (4, .ref 5 4 0 0), (18, .d (.arr 6 ((rv.2.squibs).map PdSquib.d))), (19, .d (.v (.int .i64 (rv.2.squibs.length : Int)))), (20, .d (.v (.int .i64 (W (x + 1)))))], [some ⟨1, [.d (.el 13 (([c]).map Scene.d) ((0 : Int)).toNat 0)]⟩, some ⟨1, [.d (.v (.int .i64 person))]⟩, some ⟨1, [.d (.v (.bool false))]⟩, some ⟨1, [.d (.v (.int .i64 rv.1))]⟩, some ⟨7, [.d (PdPad.d rv.2)]⟩, some ⟨4, [.d (.agg [.v (.int .i64 e.area_X_Lo), .v (.int .i64 e.area_X_Hi), .v (.int .i64 e.area_Y_Lo), .v (.int .i64 e.area_Y_Hi)])]⟩]⟩, [0, 1, 2, 3, 4, 5], Nat.lt_succ_self _, (vwK R R (.cons R R (.cons R R (.cons R R (.cons R R (.cons R R (.cons R R .nil)))))) (.cons R R (.cons R R (.cons R R (.cons R R (.cons R R .nil)))))), (W (x + 1)), h, R, R⟩
   refine sw_rg (r_ldD (y := .el 13 (([c]).map Scene.d) ((0 : Int)).toNat 0) tb R R R R R R R R R (r_nilEl R R R (r_faE tb R R R R R R R (r_faE tb R R R R R R R (r_ldE (y := .arr 1 ((c.pdState_Squibs).map vI)) tb R R (ix2 (g := Scene.d) (R : ixO [c] 0 = some c)) R R R R (r_movD R R R ?_))))))
   obtain ⟨e3, ie3, h⟩ := bnd h
   refine r_ixE tb R R R R R R (ix0 ie3) (ix1m ie3) R R (r_ldE (y := .v (.int .i64 e3)) tb R R (ix2 (g := vI) ie3) R R R R ?_)
   refine r_neq R R R R ?_ ?_
   ·intro c5
    replace h := ifN c5 h
    refine r_movD R R R (r_ldD (y := .el 13 (([c]).map Scene.d) ((0 : Int)).toNat 0) tb R R R R R R R R R (r_nilEl R R R (r_faE tb R R R R R R R (r_faE tb R R R R R R R (r_ldE (y := .arr 6 ((c.p_Squibs).map PdSquib.d)) tb R R (ix2 (g := Scene.d) (R : ixO [c] 0 = some c)) R R R R (r_movD R R R ?_))))))
    obtain ⟨e4, ie4, h⟩ := bnd h
    refine r_ixE tb R R R R R R (ix0 ie4) (ix1m ie4) R R (r_faE tb R R R R R R R (r_ldE (y := .arr 1 ((e4.keys).map vI)) tb R R (ix2 (g := PdSquib.d) ie4) R R R R (r_func R R R R ?_)))
    obtain ⟨rv2, hrv2, h⟩ := bnd h
    refine r_callX (t' := .d (.v (.bool rv2))) (news' := []) (slices_ContainsFunc_int_scr (f := (fun a0 => pad_scene_keyed_1 F a0 c person)) (fc := [.el 1 [.el 13 (([c]).map Scene.d) ((0 : Int)).toNat 0] 0 0, .el 1 [.v (.int .i64 person)] 0 0]) (fh := fun hr => pad_scene_keyed_1_pc hr) (fe := .of (by kernel_rfl)) hrv2) R .nil (.of (by kernel_rfl)) R R ((.cons (.d (.d _)) (.cons (.fnC (.cons (.d (.ref R (.d _))) (.cons (.d (.ref R (.d _))) .nil))) .nil))) R .nil R R R ?_
    simp only [List.map_nil, List.append_nil]
    with_reducible apply ev_lit
    ·intro c6
     replace h := ifP c6 h
     refine r_notT R R R (r_pickT R R R R (eN ?_))
     exact .inl ⟨(), h, .prn [6, 37] R⟩
    intro c6
    replace h := ifF c6 h
    refine r_notF R R R (r_pickT R R R R (eN (.inr (sw_condT R (qG (r_stE _ ([some ⟨1, [.d (.el 13 (([c]).map Scene.d) ((0 : Int)).toNat 0)]⟩, some ⟨1, [.d (.v (.int .i64 person))]⟩, some ⟨1, [.d (.v (.bool false))]⟩, some ⟨1, [.d (.v (.int .i64 rv.1))]⟩, some ⟨7, [.d (PdPad.d rv.2)]⟩, some ⟨4, [.d (.agg [.v (.int .i64 e.area_X_Lo), .v (.int .i64 e.area_X_Hi), .v (.int .i64 e.area_Y_Lo), .v (.int .i64 e.area_Y_Hi)])]⟩, some ⟨6, [.d (PdSquib.d e2)]⟩]) tb R R R R R R R R R R R R (eN (sw_ret (block_ret ?_)))))))))
    refine ⟨[some ⟨1, [.d (.el 13 (([c]).map Scene.d) ((0 : Int)).toNat 0)]⟩, some ⟨1, [.d (.v (.int .i64 person))]⟩, some ⟨1, [.d (.v (.bool false))]⟩, some ⟨1, [.d (.v (.int .i64 rv.1))]⟩, some ⟨7, [.d (PdPad.d rv.2)]⟩, some ⟨4, [.d (.agg [.v (.int .i64 e.area_X_Lo), .v (.int .i64 e.area_X_Hi), .v (.int .i64 e.area_Y_Lo), .v (.int .i64 e.area_Y_Hi)])]⟩, some ⟨6, [.d (PdSquib.d e2)]⟩], [0, 1, 2, 3, 4, 5, 6], (vwK R R (.cons R R (.cons R R (.cons R R (.cons R R (.cons R R (.cons R R (.cons R R .nil))))))) .nil), ?_⟩
    with_reducible apply yk_ret
    refine rgj_ev (r_notF R R R (r_pickT R R R R (ev_endJ (thenj_norm (swj_condT R (swj_ret (blockj_ret (thenj_ret (thenj_ret (blockj_ret ?_))))))))))
    refine ⟨R, [some ⟨1, [.d (.el 13 (([c]).map Scene.d) ((0 : Int)).toNat 0)]⟩, some ⟨1, [.d (.v (.int .i64 person))]⟩, some ⟨1, [.d (.v (.bool false))]⟩, some ⟨1, [.d (.v (.int .i64 rv.1))]⟩, some ⟨7, [.d (PdPad.d rv.2)]⟩], [0, 1, 2, 3, 4], (vwK R R (.cons R R (.cons R R (.cons R R (.cons R R (.cons R R .nil))))) .nil), ?_⟩
    refine block_ret (then_ret ?_)
    obtain rfl := sI h
    exact fin_0 (t := .d (.v (.bool false))) R R R (.cons (rcell tb (u := .d (.v (.bool false))) R R R R R R R) .nil)
   intro c5
   replace h := ifP c5 h
   refine r_movD R R R (r_skip R R R (r_skip R R R (r_skip R R R (r_skip R R R (r_skip R R R (r_skip R R R (r_skip R R R (r_skip R R R (r_skip R R R (r_skip R R R (r_skip R R R (r_skip R R R (r_pickF R R R R (eN ?_))))))))))))))
   exact .inl ⟨(), h, .prn [6, 37] R⟩
  intro c4
  replace h := ifN (Int.not_lt.2 c4) h
  refine r_movD R R R (r_skip R R R (r_skip R R R (r_skip R R R (r_skip R R R (r_pickF R R R R (ev_endJ (thenj_norm (swj_condF R (swj_skip (blockj_norm (thenj_norm (swj_rg (rgj_ev (r_add R R R R (r_movD R R R (ev_endJ (thenj_norm ?_)))))))))))))))))
  exact ⟨m4, ⟨[(0, .d (.v (.func (.yield lb) #[] #[]))), (4, .ref 5 4 0 0), (18, .d (.arr 6 ((rv.2.squibs).map PdSquib.d))), (19, .d (.v (.int .i64 (rv.2.squibs.length : Int)))), (20, .d (.v (.int .i64 (W (x + 1)))))], [some ⟨1, [.d (.el 13 (([c]).map Scene.d) ((0 : Int)).toNat 0)]⟩, some ⟨1, [.d (.v (.int .i64 person))]⟩, some ⟨1, [.d (.v (.bool false))]⟩, some ⟨1, [.d (.v (.int .i64 rv.1))]⟩, some ⟨7, [.d (PdPad.d rv.2)]⟩, some ⟨4, [.d (.agg [.v (.int .i64 e.area_X_Lo), .v (.int .i64 e.area_X_Hi), .v (.int .i64 e.area_Y_Lo), .v (.int .i64 e.area_Y_Hi)])]⟩]⟩, [0, 1, 2, 3, 4, 5], Nat.lt_succ_self _, (vwK R R (.cons R R (.cons R R (.cons R R (.cons R R (.cons R R (.cons R R .nil)))))) (.cons R R (.cons R R (.cons R R (.cons R R (.cons R R .nil)))))), (W (x + 1)), h, R, R⟩
 intro c3
 replace h := ifN (Int.not_lt.2 c3) h
 refine ev_endJ (thenj_norm (swj_seq (swj_condF R (swj_exit (thenj_exit (thenj_exit ?_))))))
 subst hK4
 refine blockj_exit ?_
 refine ⟨R, [some ⟨1, [.d (.el 13 (([c]).map Scene.d) ((0 : Int)).toNat 0)]⟩, some ⟨1, [.d (.v (.int .i64 person))]⟩, some ⟨1, [.d (.v (.bool false))]⟩, some ⟨1, [.d (.v (.int .i64 rv.1))]⟩, some ⟨7, [.d (PdPad.d rv.2)]⟩], [0, 1, 2, 3, 4], (vwK R R (.cons R R (.cons R R (.cons R R (.cons R R (.cons R R .nil))))) .nil), ?_⟩
 refine block_norm (then_norm ?_)
 refine swm_of fun df => ?_
 refine qG (r_stE _ ([some ⟨1, [.d (.el 13 (([c]).map Scene.d) ((0 : Int)).toNat 0)]⟩, some ⟨1, [.d (.v (.int .i64 person))]⟩, some ⟨1, [.d (.v (.bool true))]⟩, some ⟨1, [.d (.v (.int .i64 rv.1))]⟩, some ⟨7, [.d (PdPad.d rv.2)]⟩]) tb R R R R R R R R R R R R (eN (sw_ret ?_)))
 obtain rfl := sI h
 exact fin_0 (t := .d (.v (.bool true))) R R R (.cons (rcell tb (u := .d (.v (.bool true))) R R R R R R R) .nil)
def pad_scene_alone (F : Nat) (c : Scene) (zone : Int) : Option Bool := if 0 ≤ zone then (Option.bind (ixO c.p_Zones zone) fun e => if e.pair = true then (Option.bind (pad_scene_crowd F c zone) fun rv => some (decide (rv = 1))) else (some false)) else (some false)
theorem pad_scene_alone_pc {F : Nat} {c : Scene} {zone : Int} {r : Bool} (h : pad_scene_alone F c zone = some r) : PC Try.prog 93 [.el 13 (([c]).map Scene.d) ((0 : Int)).toNat 0, .v (.int .i64 zone)] (.v (.bool r)) := by
 rw [pad_scene_alone] at h
 refine SC.of_sw Try.func93 R R R ?_
 dsimp only [argS, List.map]
 refine qG (r_asgD R R R (eN (qG (r_movD R R R ?_))))
 refine r_geq R R R R ?_ ?_
 ·intro c2
  replace h := ifP c2 h
  refine r_movD R R R (r_movD R R R (r_nilEl R R R (r_faE tb R R R R R R R (r_faE tb R R R R R R R (r_ldE (y := .arr 8 ((c.p_Zones).map PdZone.d)) tb R R (ix2 (g := Scene.d) (R : ixO [c] 0 = some c)) R R R R (r_movD R R R ?_))))))
  obtain ⟨e, ie, h⟩ := bnd h
  refine r_ixE tb R R R R R R (ix0 ie) (ix1m ie) R R (r_faE tb R R R R R R R (r_ldE (y := .v (.bool e.pair)) tb R R (ix2 (g := PdZone.d) ie) R R R R ?_))
  with_reducible apply ev_lit
  ·intro c3
   replace h := ifP c3 h
   refine r_pickT R R R R (r_movD R R R (r_movD R R R (r_movD R R R ?_)))
   obtain ⟨rv, hrv, h⟩ := bnd h
   refine r_call (pad_scene_crowd_pc hrv) (.of (by kernel_rfl)) R R R R (r_eqlV R R R R (r_pickT R R R R (r_asgD R R R (eN (sw_ret ?_)))))
   obtain rfl := sI h
   exact fin_0 (t := .d (.v (.bool (decide (rv = 1))))) R R R (.cons (.tmp 4) .nil)
  intro c3
  replace h := ifF c3 h
  refine r_pickT R R R R (r_movD R R R (r_skip R R R (r_skip R R R (r_skip R R R (r_skip R R R (r_pickF R R R R (r_asgD R R R (eN (sw_ret ?_)))))))))
  obtain rfl := sI h
  exact fin_0 (t := .d (.v (.bool false))) R R R (.cons (.tmp 4) .nil)
 intro c2
 replace h := ifN (Int.not_le.2 c2) h
 refine r_movD R R R (r_skip R R R (r_skip R R R (r_skip R R R (r_skip R R R (r_skip R R R (r_skip R R R (r_skip R R R (r_skip R R R (r_skip R R R (r_pickF R R R R (r_movD R R R (r_skip R R R (r_skip R R R (r_skip R R R (r_skip R R R (r_pickF R R R R (r_asgD R R R (eN (sw_ret ?_)))))))))))))))))))
 obtain rfl := sI h
 exact fin_0 (t := .d (.v (.bool false))) R R R (.cons (.tmp 4) .nil)
def pad_scene_sound_J1 (F : Nat) (B6 : Int → Option Bool) (x2 : Int) : Option Bool := B6 (W (x2 + 1))
def pad_scene_sound_J2 (F : Nat)  : Option Bool := some false
def pad_scene_sound_J3 (F : Nat) (B9 : Int → Option Bool) (x3 : Int) : Option Bool := B9 (W (x3 + 1))
def pad_scene_sound_L1 (F : Nat) (t : Scene) (K : Int → Option Bool) : Nat → Int → Option Bool
 | 0, _ => none
 | n + 1, x3 => if x3 < (t.pdState_Squibs.length : Int) then (Option.bind (ixO t.pdState_Squibs x3) fun e5 => if e5 = 1 then (Option.bind (pad_scene_owed F t x3) fun rv5 => if 0 < (rv5.length : Int) then (pad_scene_sound_J2 F) else (if t.pdState_Siren < 0 then (pad_scene_sound_J2 F) else (if t.pdState_Storm = true then (pad_scene_sound_J2 F) else (pad_scene_sound_J3 F (pad_scene_sound_L1 F t K n) x3)))) else (pad_scene_sound_J3 F (pad_scene_sound_L1 F t K n) x3)) else (K x3)
def pad_scene_sound_L2 (F : Nat) (t : Scene) (K : Int → Option Bool) : Nat → Int → Option Bool
 | 0, _ => none
 | n + 1, x2 => if x2 < (t.pdState_Zones.length : Int) then (Option.bind (ixO t.pdState_Zones x2) fun e2 => if 0 ≤ e2 then (Option.bind (ixO t.p_People x2) fun e3 => Option.bind (ixO t.p_Zones e2) fun e4 => if e3.grade < e4.grade then (pad_scene_sound_J2 F) else (Option.bind (pad_scene_keyed F t x2 e2) fun rv3 => if rv3 = true then (pad_scene_sound_J1 F (pad_scene_sound_L2 F t K n) x2) else (pad_scene_sound_J2 F))) else (Option.bind (pad_scene_keyed F t x2 e2) fun rv4 => if rv4 = true then (pad_scene_sound_J1 F (pad_scene_sound_L2 F t K n) x2) else (pad_scene_sound_J2 F))) else (K x2)
def pad_scene_sound_L3 (F : Nat) (t : Scene) (K : Int → Option Bool) : Nat → Int → Option Bool
 | 0, _ => none
 | n + 1, x => if x < (t.p_Zones.length : Int) then (Option.bind (ixO t.p_Zones x) fun e => Option.bind (pad_scene_crowd F t x) fun rv => if e.room < rv then (some false) else (Option.bind (pad_scene_alone F t x) fun rv2 => if rv2 = true then (some false) else (pad_scene_sound_L3 F t K n (W (x + 1))))) else (K x)
def pad_scene_sound (F : Nat) (t : Scene) : Option Bool := pad_scene_sound_L3 F t (fun (x : Int) => pad_scene_sound_L2 F t (fun (x2 : Int) => pad_scene_sound_L1 F t (fun (x3 : Int) => some true) F 0) F 0) F 0
theorem pad_scene_sound_pc {F : Nat} {t : Scene} {r : Bool} (h : pad_scene_sound F t = some r) : PC Try.prog 69 [.el 13 (([t]).map Scene.d) ((0 : Int)).toNat 0] (.v (.bool r)) := by
 rw [pad_scene_sound] at h
 refine SC.of_sw Try.func69 R R R ?_
 dsimp only [argS, List.map]
 refine qG (r_asgD R R R (eN (sw_seq (qG (r_movD R R R (r_nilEl R R R (r_faE tb R R R R R R R (r_faE tb R R R R R R R (r_ldE (y := .arr 8 ((t.p_Zones).map PdZone.d)) tb R R (ix2 (g := Scene.d) (R : ixO [t] 0 = some t)) R R R R (r_lenM tb R R R R R (r_movD R R R (eN (sw_block ?_)))))))))))))
 obtain ⟨K3, hK3, h⟩ : ∃ K, K = _ ∧ pad_scene_sound_L3 F t K F 0 = some r := ⟨_, rfl, h⟩
 refine sw_loop (st0 := ⟨[(0, .d (.el 13 (([t]).map Scene.d) ((0 : Int)).toNat 0)), (2, .d (.v (.bool false))), (13, .d (.arr 8 ((t.p_Zones).map PdZone.d))), (14, .d (.v (.int .i64 (t.p_Zones.length : Int)))), (15, .d (.v (.int .i64 0)))], []⟩) (κ := []) (fun m st => ∃ (x : Int), pad_scene_sound_L3 F t K3 m x = some r ∧ st = ⟨[(0, .d (.el 13 (([t]).map Scene.d) ((0 : Int)).toNat 0)), (2, .d (.v (.bool false))), (13, .d (.arr 8 ((t.p_Zones).map PdZone.d))), (14, .d (.v (.int .i64 (t.p_Zones.length : Int)))), (15, .d (.v (.int .i64 x)))], []⟩) (vwK R R .nil (.cons R R (.cons R R (.cons R R (.cons R R (.cons R R .nil)))))) ⟨0, h, R⟩ ?_
 clear h
 rintro m3 st ⟨x, h, rfl⟩
 cases m3 with
 | zero => cases (show (none : Option Bool) = some r from h)
 | succ m3 =>
 rw [pad_scene_sound_L3] at h
 refine qG ?_
 refine r_lss R R R R ?_ ?_
 ·intro c
  replace h := ifP c h
  refine eN (sw_seq (sw_condT R (sw_skip (then_norm (sw_seq (sw_block (qG (r_movD R R R ?_))))))))
  obtain ⟨e, ie, h⟩ := bnd h
  refine r_ixE tb R R R R R R (ix0 ie) (ix1m ie) R R (r_ldE (y := PdZone.d e) tb R R (ix2 (g := PdZone.d) ie) R R R R (r_alloc tb R R R R R (r_asgD R R R (r_stE _ ([some ⟨8, [.d (PdZone.d e)]⟩]) tb R R R R R R R R R R R R (eN (sw_seq (sw_dr (by kernel_rfl) (r_movD R R R (r_movD R R R ?_)))))))))
  obtain ⟨rv, hrv, h⟩ := bnd h
  refine r_call (pad_scene_crowd_pc hrv) (.of (by kernel_rfl)) R R R R (r_fa tb R R R R R R R (r_ldD (y := .v (.int .i64 e.room)) tb R R R R R R R R R ?_))
  refine r_gtr R R R R ?_ ?_
  ·intro c2
   replace h := ifP c2 h
   refine r_movD R R R (r_skip R R R (r_skip R R R (r_skip R R R (r_pickT R R R R (ev_endD (by kernel_rfl) (then_norm (sw_condT R (qG (r_asgD R R R (eN (sw_ret (block_ret (then_ret (then_ret (block_ret (then_ret ?_))))))))))))))))
   obtain rfl := sI h
   exact fin_0 (t := .d (.v (.bool false))) R R R (.cons (.tmp 2) .nil)
  intro c2
  replace h := ifN (Int.not_lt.2 c2) h
  refine r_movD R R R (r_movD R R R (r_movD R R R ?_))
  obtain ⟨rv2, hrv2, h⟩ := bnd h
  refine r_callB (pad_scene_alone_pc hrv2) (.of (by kernel_rfl)) R R R R ?_ ?_
  ·intro c3
   replace h := ifP c3 h
   refine r_pickF R R R R (ev_endD (by kernel_rfl) (then_norm (sw_condT R (qG (r_asgD R R R (eN (sw_ret (block_ret (then_ret (then_ret (block_ret (then_ret ?_))))))))))))
   obtain rfl := sI h
   exact fin_0 (t := .d (.v (.bool false))) R R R (.cons (.tmp 2) .nil)
  intro c3
  replace h := ifF c3 h
  refine r_pickF R R R R (ev_endD (by kernel_rfl) (then_norm (sw_condF R (sw_skip (block_norm (then_norm (sw_rg (r_add R R R R (r_movD R R R (eN ?_))))))))))
  exact ⟨m3, ⟨[(0, .d (.el 13 (([t]).map Scene.d) ((0 : Int)).toNat 0)), (2, .d (.v (.bool false))), (13, .d (.arr 8 ((t.p_Zones).map PdZone.d))), (14, .d (.v (.int .i64 (t.p_Zones.length : Int)))), (15, .d (.v (.int .i64 (W (x + 1)))))], []⟩, [], Nat.lt_succ_self _, (vwK R R .nil (.cons R R (.cons R R (.cons R R (.cons R R (.cons R R .nil)))))), (W (x + 1)), h, R⟩
 intro c
 replace h := ifN (Int.not_lt.2 c) h
 refine eN (sw_seq (sw_condF R (sw_exit (then_exit (then_exit ?_)))))
 subst hK3
 refine block_exit (then_norm (sw_seq (qG (r_movD R R R (r_nilEl R R R (r_faE tb R R R R R R R (r_faE tb R R R R R R R (r_ldE (y := .arr 1 ((t.pdState_Zones).map vI)) tb R R (ix2 (g := Scene.d) (R : ixO [t] 0 = some t)) R R R R (r_lenM tb R R R R R (r_movD R R R (eN (sw_block ?_))))))))))))
 obtain ⟨K6, hK6, h⟩ : ∃ K, K = _ ∧ pad_scene_sound_L2 F t K F 0 = some r := ⟨_, rfl, h⟩
 refine sw_loop (st0 := ⟨[(0, .d (.el 13 (([t]).map Scene.d) ((0 : Int)).toNat 0)), (2, .d (.v (.bool false))), (36, .d (.arr 1 ((t.pdState_Zones).map vI))), (37, .d (.v (.int .i64 (t.pdState_Zones.length : Int)))), (38, .d (.v (.int .i64 0)))], []⟩) (κ := []) (fun m st => ∃ (x2 : Int), pad_scene_sound_L2 F t K6 m x2 = some r ∧ st = ⟨[(0, .d (.el 13 (([t]).map Scene.d) ((0 : Int)).toNat 0)), (2, .d (.v (.bool false))), (36, .d (.arr 1 ((t.pdState_Zones).map vI))), (37, .d (.v (.int .i64 (t.pdState_Zones.length : Int)))), (38, .d (.v (.int .i64 x2)))], []⟩) (vwK R R .nil (.cons R R (.cons R R (.cons R R (.cons R R (.cons R R .nil)))))) ⟨0, h, R⟩ ?_
 clear h
 rintro m6 st ⟨x2, h, rfl⟩
 cases m6 with
 | zero => cases (show (none : Option Bool) = some r from h)
 | succ m6 =>
 rw [pad_scene_sound_L2] at h
 refine qG ?_
 refine r_lss R R R R ?_ ?_
 ·intro c4
  replace h := ifP c4 h
  refine eN (sw_seq (sw_condT R (sw_skip (then_norm (sw_seq ?_)))))
  refine sw_join (fun zz : Unit => pad_scene_sound_J1 F (pad_scene_sound_L2 F t K6 m6) x2 = some r) (fun zz : Unit => ⟨[(0, .d (.el 13 (([t]).map Scene.d) ((0 : Int)).toNat 0)), (2, .d (.v (.bool false))), (36, .d (.arr 1 ((t.pdState_Zones).map vI))), (37, .d (.v (.int .i64 (t.pdState_Zones.length : Int)))), (38, .d (.v (.int .i64 x2)))], []⟩) ?_ ?_
  ·clear h
   rintro ⟨⟩ h
   rw [pad_scene_sound_J1] at h
   refine sw_rg (r_add R R R R (r_movD R R R (eN ?_)))
   exact ⟨m6, ⟨[(0, .d (.el 13 (([t]).map Scene.d) ((0 : Int)).toNat 0)), (2, .d (.v (.bool false))), (36, .d (.arr 1 ((t.pdState_Zones).map vI))), (37, .d (.v (.int .i64 (t.pdState_Zones.length : Int)))), (38, .d (.v (.int .i64 (W (x2 + 1)))))], []⟩, [], Nat.lt_succ_self _, (vwK R R .nil (.cons R R (.cons R R (.cons R R (.cons R R (.cons R R .nil)))))), (W (x2 + 1)), h, R⟩
  refine sw_block (qG (r_movD R R R ?_))
  obtain ⟨e2, ie2, h⟩ := bnd h
  refine r_ixE tb R R R R R R (ix0 ie2) (ix1m ie2) R R (r_ldE (y := .v (.int .i64 e2)) tb R R (ix2 (g := vI) ie2) R R R R (r_asgD R R R (r_asgD R R R (eN (sw_seq ?_)))))
  refine sw_join (fun zz : Unit => pad_scene_sound_J2 F = some r) (fun zz : Unit => ⟨[(0, .d (.el 13 (([t]).map Scene.d) ((0 : Int)).toNat 0)), (2, .d (.v (.bool false))), (36, .d (.arr 1 ((t.pdState_Zones).map vI))), (37, .d (.v (.int .i64 (t.pdState_Zones.length : Int)))), (38, .d (.v (.int .i64 x2))), (72, .d (.v (.bool true)))], []⟩) ?_ ?_
  ·clear h
   rintro ⟨⟩ h
   rw [pad_scene_sound_J2] at h
   refine sw_condT R (qG (r_asgD R R R (eN (sw_ret (block_ret (then_ret (then_ret (block_ret (then_ret ?_)))))))))
   obtain rfl := sI h
   exact fin_0 (t := .d (.v (.bool false))) R R R (.cons (.tmp 2) .nil)
  refine sw_dr (by kernel_rfl) (r_movD R R R ?_)
  refine r_geq R R R R ?_ ?_
  ·intro c5
   replace h := ifP c5 h
   refine r_movD R R R (r_movD R R R (r_nilEl R R R (r_faE tb R R R R R R R (r_faE tb R R R R R R R (r_ldE (y := .arr 2 ((t.p_People).map PdPerson.d)) tb R R (ix2 (g := Scene.d) (R : ixO [t] 0 = some t)) R R R R (r_movD R R R ?_))))))
   obtain ⟨e3, ie3, h⟩ := bnd h
   refine r_ixE tb R R R R R R (ix0 ie3) (ix1m ie3) R R (r_faE tb R R R R R R R (r_ldE (y := .v (.int .i64 e3.grade)) tb R R (ix2 (g := PdPerson.d) ie3) R R R R (r_movD R R R (r_nilEl R R R (r_faE tb R R R R R R R (r_faE tb R R R R R R R (r_ldE (y := .arr 8 ((t.p_Zones).map PdZone.d)) tb R R (ix2 (g := Scene.d) (R : ixO [t] 0 = some t)) R R R R (r_movD R R R ?_))))))))
   obtain ⟨e4, ie4, h⟩ := bnd h
   refine r_ixE tb R R R R R R (ix0 ie4) (ix1m ie4) R R (r_faE tb R R R R R R R (r_ldE (y := .v (.int .i64 e4.grade)) tb R R (ix2 (g := PdZone.d) ie4) R R R R ?_))
   refine r_lss R R R R ?_ ?_
   ·intro c6
    replace h := ifP c6 h
    refine r_pickT R R R R (r_movD R R R (r_skip R R R (r_skip R R R (r_skip R R R (r_skip R R R (r_skip R R R (r_pickT R R R R (ev_endD (by kernel_rfl) (then_norm ?_)))))))))
    exact .inl ⟨(), h, .prn [0, 2, 36, 37, 38, 72] R⟩
   intro c6
   replace h := ifN (Int.not_lt.2 c6) h
   refine r_pickT R R R R (r_movD R R R (r_movD R R R (r_movD R R R (r_movD R R R ?_))))
   obtain ⟨rv3, hrv3, h⟩ := bnd h
   refine r_callB (pad_scene_keyed_pc hrv3) (.of (by kernel_rfl)) R R R R ?_ ?_
   ·intro c7
    replace h := ifP c7 h
    refine r_notT R R R (r_pickF R R R R (ev_endD (by kernel_rfl) (then_norm (.inr (sw_condF R (sw_skip (block_norm (then_norm ?_))))))))
    exact .inl ⟨(), h, .prn [0, 2, 36, 37, 38] R⟩
   intro c7
   replace h := ifF c7 h
   refine r_notF R R R (r_pickF R R R R (ev_endD (by kernel_rfl) (then_norm ?_)))
   exact .inl ⟨(), h, .prn [0, 2, 36, 37, 38, 72] R⟩
  intro c5
  replace h := ifN (Int.not_le.2 c5) h
  refine r_movD R R R (r_skip R R R (r_skip R R R (r_skip R R R (r_skip R R R (r_skip R R R (r_skip R R R (r_skip R R R (r_skip R R R (r_skip R R R (r_skip R R R (r_skip R R R (r_skip R R R (r_skip R R R (r_skip R R R (r_skip R R R (r_skip R R R (r_skip R R R (r_skip R R R (r_skip R R R (r_pickF R R R R (r_movD R R R (r_movD R R R (r_movD R R R (r_movD R R R ?_))))))))))))))))))))))))
  obtain ⟨rv4, hrv4, h⟩ := bnd h
  refine r_callB (pad_scene_keyed_pc hrv4) (.of (by kernel_rfl)) R R R R ?_ ?_
  ·intro c8
   replace h := ifP c8 h
   refine r_notT R R R (r_pickF R R R R (ev_endD (by kernel_rfl) (then_norm (.inr (sw_condF R (sw_skip (block_norm (then_norm ?_))))))))
   exact .inl ⟨(), h, .prn [0, 2, 36, 37, 38] R⟩
  intro c8
  replace h := ifF c8 h
  refine r_notF R R R (r_pickF R R R R (ev_endD (by kernel_rfl) (then_norm ?_)))
  exact .inl ⟨(), h, .prn [0, 2, 36, 37, 38, 72] R⟩
 intro c4
 replace h := ifN (Int.not_lt.2 c4) h
 refine eN (sw_seq (sw_condF R (sw_exit (then_exit (then_exit ?_)))))
 subst hK6
 refine block_exit (then_norm (sw_seq (qG (r_movD R R R (r_nilEl R R R (r_faE tb R R R R R R R (r_faE tb R R R R R R R (r_ldE (y := .arr 1 ((t.pdState_Squibs).map vI)) tb R R (ix2 (g := Scene.d) (R : ixO [t] 0 = some t)) R R R R (r_lenM tb R R R R R (r_movD R R R (eN (sw_block ?_))))))))))))
 obtain ⟨K9, hK9, h⟩ : ∃ K, K = _ ∧ pad_scene_sound_L1 F t K F 0 = some r := ⟨_, rfl, h⟩
 refine sw_loop (st0 := ⟨[(0, .d (.el 13 (([t]).map Scene.d) ((0 : Int)).toNat 0)), (2, .d (.v (.bool false))), (78, .d (.arr 1 ((t.pdState_Squibs).map vI))), (79, .d (.v (.int .i64 (t.pdState_Squibs.length : Int)))), (80, .d (.v (.int .i64 0)))], []⟩) (κ := []) (fun m st => ∃ (x3 : Int), pad_scene_sound_L1 F t K9 m x3 = some r ∧ st = ⟨[(0, .d (.el 13 (([t]).map Scene.d) ((0 : Int)).toNat 0)), (2, .d (.v (.bool false))), (78, .d (.arr 1 ((t.pdState_Squibs).map vI))), (79, .d (.v (.int .i64 (t.pdState_Squibs.length : Int)))), (80, .d (.v (.int .i64 x3)))], []⟩) (vwK R R .nil (.cons R R (.cons R R (.cons R R (.cons R R (.cons R R .nil)))))) ⟨0, h, R⟩ ?_
 clear h
 rintro m9 st ⟨x3, h, rfl⟩
 cases m9 with
 | zero => cases (show (none : Option Bool) = some r from h)
 | succ m9 =>
 rw [pad_scene_sound_L1] at h
 refine qG ?_
 refine r_lss R R R R ?_ ?_
 ·intro c9
  replace h := ifP c9 h
  refine eN (sw_seq (sw_condT R (sw_skip (then_norm (sw_seq ?_)))))
  refine sw_join (fun zz : Unit => pad_scene_sound_J3 F (pad_scene_sound_L1 F t K9 m9) x3 = some r) (fun zz : Unit => ⟨[(0, .d (.el 13 (([t]).map Scene.d) ((0 : Int)).toNat 0)), (2, .d (.v (.bool false))), (78, .d (.arr 1 ((t.pdState_Squibs).map vI))), (79, .d (.v (.int .i64 (t.pdState_Squibs.length : Int)))), (80, .d (.v (.int .i64 x3)))], []⟩) ?_ ?_
  ·clear h
   rintro ⟨⟩ h
   rw [pad_scene_sound_J3] at h
   refine sw_rg (r_add R R R R (r_movD R R R (eN ?_)))
   exact ⟨m9, ⟨[(0, .d (.el 13 (([t]).map Scene.d) ((0 : Int)).toNat 0)), (2, .d (.v (.bool false))), (78, .d (.arr 1 ((t.pdState_Squibs).map vI))), (79, .d (.v (.int .i64 (t.pdState_Squibs.length : Int)))), (80, .d (.v (.int .i64 (W (x3 + 1)))))], []⟩, [], Nat.lt_succ_self _, (vwK R R .nil (.cons R R (.cons R R (.cons R R (.cons R R (.cons R R .nil)))))), (W (x3 + 1)), h, R⟩
  refine sw_block (qG (r_movD R R R ?_))
  obtain ⟨e5, ie5, h⟩ := bnd h
  refine r_ixE tb R R R R R R (ix0 ie5) (ix1m ie5) R R (r_ldE (y := .v (.int .i64 e5)) tb R R (ix2 (g := vI) ie5) R R R R (r_asgD R R R (r_asgD R R R (eN (sw_seq ?_)))))
  refine sw_join (fun zz : Unit => pad_scene_sound_J2 F = some r) (fun zz : Unit => ⟨[(0, .d (.el 13 (([t]).map Scene.d) ((0 : Int)).toNat 0)), (2, .d (.v (.bool false))), (78, .d (.arr 1 ((t.pdState_Squibs).map vI))), (79, .d (.v (.int .i64 (t.pdState_Squibs.length : Int)))), (80, .d (.v (.int .i64 x3))), (108, .d (.v (.bool true)))], []⟩) ?_ ?_
  ·clear h
   rintro ⟨⟩ h
   rw [pad_scene_sound_J2] at h
   refine sw_condT R (qG (r_asgD R R R (eN (sw_ret (block_ret (then_ret (then_ret (block_ret (then_ret ?_)))))))))
   obtain rfl := sI h
   exact fin_0 (t := .d (.v (.bool false))) R R R (.cons (.tmp 2) .nil)
  refine sw_rg (r_movD R R R ?_)
  refine r_eql R R R R ?_ ?_
  ·intro c10
   replace h := ifP c10 h
   refine r_movD R R R (r_movD R R R (r_movD R R R ?_))
   obtain ⟨rv5, hrv5, h⟩ := bnd h
   refine r_callN (t' := .row 0 1 0 (rv5).length) (news' := [(lvI rv5)]) (pad_scene_owed_scr hrv5) (.of (by kernel_rfl)) R R R ((.row .nil)) R R R (r_lenR tb R R R R R ?_)
   refine r_gtr R R R R ?_ ?_
   ·intro c11
    replace h := ifP c11 h
    refine r_movD R R R (r_skip R R R (r_skip R R R (r_skip R R R (r_skip R R R (r_skip R R R (r_skip R R R (r_pickT R R R R (r_movD R R R (r_skip R R R (r_skip R R R (r_skip R R R (r_skip R R R (r_skip R R R (r_pickT R R R R (r_pickT R R R R (eN ?_))))))))))))))))
    exact .inl ⟨(), h, .vw (κ := []) (vwK R R .nil (.cons R R (.cons R R (.cons R R (.cons R R (.cons R R (.cons R R .nil)))))))⟩
   intro c11
   replace h := ifN (Int.not_lt.2 c11) h
   refine r_movD R R R (r_movD R R R (r_nilEl R R R (r_faE tb R R R R R R R (r_faE tb R R R R R R R (r_ldE (y := .v (.int .i64 t.pdState_Siren)) tb R R (ix2 (g := Scene.d) (R : ixO [t] 0 = some t)) R R R R ?_)))))
   refine r_lss R R R R ?_ ?_
   ·intro c12
    replace h := ifP c12 h
    refine r_pickF R R R R (r_movD R R R (r_skip R R R (r_skip R R R (r_skip R R R (r_skip R R R (r_skip R R R (r_pickT R R R R (r_pickT R R R R (eN ?_)))))))))
    exact .inl ⟨(), h, .vw (κ := []) (vwK R R .nil (.cons R R (.cons R R (.cons R R (.cons R R (.cons R R (.cons R R .nil)))))))⟩
   intro c12
   replace h := ifN (Int.not_lt.2 c12) h
   refine r_pickF R R R R (r_movD R R R (r_movD R R R (r_nilEl R R R (r_faE tb R R R R R R R (r_faE tb R R R R R R R (r_ldE (y := .v (.bool t.pdState_Storm)) tb R R (ix2 (g := Scene.d) (R : ixO [t] 0 = some t)) R R R R ?_))))))
   with_reducible apply ev_lit
   ·intro c13
    replace h := ifP c13 h
    refine r_pickF R R R R (r_pickT R R R R (eN ?_))
    exact .inl ⟨(), h, .vw (κ := []) (vwK R R .nil (.cons R R (.cons R R (.cons R R (.cons R R (.cons R R (.cons R R .nil)))))))⟩
   intro c13
   replace h := ifF c13 h
   refine r_pickF R R R R (r_pickT R R R R (eN (.inr (sw_condF R (sw_skip (block_norm (then_norm ?_)))))))
   exact .inl ⟨(), h, .vw (κ := []) (vwK R R .nil (.cons R R (.cons R R (.cons R R (.cons R R (.cons R R .nil))))))⟩
  intro c10
  replace h := ifN c10 h
  refine r_movD R R R (r_skip R R R (r_skip R R R (r_skip R R R (r_skip R R R (r_skip R R R (r_skip R R R (r_skip R R R (r_skip R R R (r_skip R R R (r_skip R R R (r_skip R R R (r_skip R R R (r_skip R R R (r_skip R R R (r_skip R R R (r_skip R R R (r_skip R R R (r_skip R R R (r_skip R R R (r_skip R R R (r_pickF R R R R (eN (.inr (sw_condF R (sw_skip (block_norm (then_norm ?_)))))))))))))))))))))))))))
  exact .inl ⟨(), h, .vw (κ := []) (vwK R R .nil (.cons R R (.cons R R (.cons R R (.cons R R (.cons R R .nil))))))⟩
 intro c9
 replace h := ifN (Int.not_lt.2 c9) h
 refine eN (sw_seq (sw_condF R (sw_exit (then_exit (then_exit ?_)))))
 subst hK9
 refine block_exit (then_norm (qG (r_asgD R R R (eN (sw_ret ?_)))))
 obtain rfl := sI h
 exact fin_0 (t := .d (.v (.bool true))) R R R (.cons (.tmp 2) .nil)
def pad_scene_atPanel_m (F : Nat) (c : Scene) (who : Int) : Option (Except Int Scene) := Option.bind (ixO c.pdState_Zones who) fun e => Option.bind (pad_demand F (decide (e = c.p_Panel)) 171) fun rv => exE rv (fun x => some (.error x)) (fun v => some (.ok c))
theorem pad_scene_atPanel_m_scx {F : Nat} {c : Scene} {who : Int} {r : (Except Int Scene)} (h : pad_scene_atPanel_m F c who = some r) : SCX Try.prog 114 [.ref 0 13 0 0, .d (.v (.int .i64 who))] [some ⟨13, [Scene_T1 c 1 2 3]⟩, some (lvI c.pdState_Zones), some (lvI c.pdState_Holder), some (lvI c.pdState_Squibs)] r 29 (fun (a : Scene) => .d (.tup [])) (fun (a : Scene) => [some ⟨13, [Scene_T1 a 1 2 3]⟩, some (lvI a.pdState_Zones), some (lvI a.pdState_Holder), some (lvI a.pdState_Squibs)]) := by
 rw [pad_scene_atPanel_m] at h
 refine SC.of_sw Try.func114 R R R ?_
 dsimp only [argS, List.map]
 refine sw_drP (by kernel_rfl) (r_movR R R R (r_nilRef R R R (r_fa tb R R R R R R R (r_fa tb R R R R R R R (r_ldW tb R R R R R R R R R (r_movD R R R ?_))))))
 obtain ⟨e, ie, h⟩ := bnd h
 refine r_ixI tb R R R R R R (ix0 ie) (ix1 ie) R R ?_
 refine r_ldD (y := .v (.int .i64 e)) tb R R R R (ix2 (g := fun a => T.d (vI a)) ie) R R R R ?_
 refine r_movR R R R (r_nilRef R R R (r_fa tb R R R R R R R (r_fa tb R R R R R R R (r_ldD (y := .v (.int .i64 c.p_Panel)) tb R R R R R R R R R (r_eqlV R R R R ?_)))))
 obtain ⟨rv, hrv, h⟩ := bnd h
 rcases ex_or rv with ⟨x, nv⟩ | ⟨v, nv⟩
 ·replace h := (exN nv).symm.trans h
  refine ev_panD (by kernel_rfl) (by kernel_rfl) ?_
  (with_reducible apply op_call []); exact (pad_demand_scx hrv).err nv; exact rfl; exact .of (by kernel_rfl); exact rfl; exact .inl ⟨rfl, rfl, rfl⟩; (iterate 4 exact rfl); exact .nil; exact rfl
  intro cnt
  obtain rfl := sI h
  exact fin_pX (L := [some ⟨13, [Scene_T1 c 1 2 3]⟩, some (lvI c.pdState_Zones), some (lvI c.pdState_Holder), some (lvI c.pdState_Squibs)]) (κ := [0, 1, 2, 3]) (vwK R R (.cons R R (.row R (.row R (.row R .nil)))) .nil) (.inr ⟨_, R, R⟩)
 replace h := (exO nv).symm.trans h
 refine r_callO (t' := .d (.tup [])) (ls := []) (news := []) ([]) ([some ⟨13, [Scene_T1 c 1 2 3]⟩, some (lvI c.pdState_Zones), some (lvI c.pdState_Holder), some (lvI c.pdState_Squibs)]) ((pad_demand_scx hrv).ok nv) (.of (by kernel_rfl)) R (.inl ⟨R, R, R⟩) R R R R .nil R R R .nil .nil R R R R (ev_endPD (by kernel_rfl) ?_)
 obtain rfl := sI h
 exact fin_n (fin_S (t := .d (.tup [])) (L := [some ⟨13, [Scene_T1 c 1 2 3]⟩, some (lvI c.pdState_Zones), some (lvI c.pdState_Holder), some (lvI c.pdState_Squibs)]) (κ := [0, 1, 2, 3]) R .nil (vwK R R (.cons R R (.row R (.row R (.row R .nil)))) (.cons R R .nil)) (.inl ⟨_, R, R, R⟩))
def pad_scene_armed_J1 (F : Nat) (B3 : Int → Option Bool) (x : Int) : Option Bool := B3 (W (x + 1))
def pad_scene_armed_L1 (F : Nat) (c : Scene) (so : (PdSquib → Option Bool)) (K : Int → Option Bool) : Nat → Int → Option Bool
 | 0, _ => none
 | n + 1, x => if x < (c.pdState_Squibs.length : Int) then (Option.bind (ixO c.pdState_Squibs x) fun e => if e = 1 then (Option.bind (ixO c.p_Squibs x) fun e2 => Option.bind (so e2) fun rv => if rv = true then (some true) else (pad_scene_armed_J1 F (pad_scene_armed_L1 F c so K n) x)) else (pad_scene_armed_J1 F (pad_scene_armed_L1 F c so K n) x)) else (K x)
def pad_scene_armed (F : Nat) (c : Scene) (so : (PdSquib → Option Bool)) : Option Bool := pad_scene_armed_L1 F c so (fun (x : Int) => some false) F 0
theorem pad_scene_armed_scr {F : Nat} {c : Scene} {so : (PdSquib → Option Bool)} {r : Bool} {soi : Nat} {soc : List D} (soh : ∀ {a0 : PdSquib} {r : Bool}, so a0 = some r → PC Try.prog soi ([PdSquib.d a0] ++ soc) (.v (.bool r))) (soe : Ent Try.prog soi) (h : pad_scene_armed F c so = some r) : SCR Try.prog 115 [.d (.el 13 (([c]).map Scene.d) ((0 : Int)).toNat 0), .fn (.func soi) [] (soc.map .d)] [] (.d (.v (.bool r))) (List.map some []) := by
 rw [pad_scene_armed] at h
 refine SC.of_sw Try.func115 R R R ?_
 dsimp only [argS, List.map]
 refine qG (r_asgD R R R (eN (sw_seq (qG (r_movD R R R (r_nilEl R R R (r_faE tb R R R R R R R (r_faE tb R R R R R R R (r_ldE (y := .arr 1 ((c.pdState_Squibs).map vI)) tb R R (ix2 (g := Scene.d) (R : ixO [c] 0 = some c)) R R R R (r_lenM tb R R R R R (r_movD R R R (eN (sw_block ?_)))))))))))))
 obtain ⟨K3, hK3, h⟩ : ∃ K, K = _ ∧ pad_scene_armed_L1 F c so K F 0 = some r := ⟨_, rfl, h⟩
 refine sw_loop (st0 := ⟨[(0, .d (.el 13 (([c]).map Scene.d) ((0 : Int)).toNat 0)), (1, .fn (.func soi) [] (soc.map .d)), (4, .d (.v (.bool false))), (11, .d (.arr 1 ((c.pdState_Squibs).map vI))), (12, .d (.v (.int .i64 (c.pdState_Squibs.length : Int)))), (13, .d (.v (.int .i64 0)))], []⟩) (κ := []) (fun m st => ∃ (x : Int), pad_scene_armed_L1 F c so K3 m x = some r ∧ st = ⟨[(0, .d (.el 13 (([c]).map Scene.d) ((0 : Int)).toNat 0)), (1, .fn (.func soi) [] (soc.map .d)), (4, .d (.v (.bool false))), (11, .d (.arr 1 ((c.pdState_Squibs).map vI))), (12, .d (.v (.int .i64 (c.pdState_Squibs.length : Int)))), (13, .d (.v (.int .i64 x)))], []⟩) (vwK R R .nil (.cons R R (.hof R (.cons R R (.cons R R (.cons R R (.cons R R .nil))))))) ⟨0, h, R⟩ ?_
 clear h
 rintro m3 st ⟨x, h, rfl⟩
 cases m3 with
 | zero => cases (show (none : Option Bool) = some r from h)
 | succ m3 =>
 rw [pad_scene_armed_L1] at h
 refine qG ?_
 refine r_lss R R R R ?_ ?_
 ·intro c2
  replace h := ifP c2 h
  refine eN (sw_seq (sw_condT R (sw_skip (then_norm (sw_seq ?_)))))
  refine sw_join (fun zz : Unit => pad_scene_armed_J1 F (pad_scene_armed_L1 F c so K3 m3) x = some r) (fun zz : Unit => ⟨[(0, .d (.el 13 (([c]).map Scene.d) ((0 : Int)).toNat 0)), (1, .fn (.func soi) [] (soc.map .d)), (4, .d (.v (.bool false))), (11, .d (.arr 1 ((c.pdState_Squibs).map vI))), (12, .d (.v (.int .i64 (c.pdState_Squibs.length : Int)))), (13, .d (.v (.int .i64 x)))], []⟩) ?_ ?_
  ·clear h
   rintro ⟨⟩ h
   rw [pad_scene_armed_J1] at h
   refine sw_rg (r_add R R R R (r_movD R R R (eN ?_)))
   exact ⟨m3, ⟨[(0, .d (.el 13 (([c]).map Scene.d) ((0 : Int)).toNat 0)), (1, .fn (.func soi) [] (soc.map .d)), (4, .d (.v (.bool false))), (11, .d (.arr 1 ((c.pdState_Squibs).map vI))), (12, .d (.v (.int .i64 (c.pdState_Squibs.length : Int)))), (13, .d (.v (.int .i64 (W (x + 1)))))], []⟩, [], Nat.lt_succ_self _, (vwK R R .nil (.cons R R (.hof R (.cons R R (.cons R R (.cons R R (.cons R R .nil))))))), (W (x + 1)), h, R⟩
  refine sw_block (qG (r_movD R R R ?_))
  obtain ⟨e, ie, h⟩ := bnd h
  refine r_ixE tb R R R R R R (ix0 ie) (ix1m ie) R R (r_ldE (y := .v (.int .i64 e)) tb R R (ix2 (g := vI) ie) R R R R (r_asgD R R R (r_asgD R R R (eN (qG (r_movD R R R ?_))))))
  refine r_eql R R R R ?_ ?_
  ·intro c3
   replace h := ifP c3 h
   refine r_movD R R R (r_movF R R R (r_movD R R R (r_nilEl R R R (r_faE tb R R R R R R R (r_faE tb R R R R R R R (r_ldE (y := .arr 6 ((c.p_Squibs).map PdSquib.d)) tb R R (ix2 (g := Scene.d) (R : ixO [c] 0 = some c)) R R R R (r_movD R R R ?_)))))))
   obtain ⟨e2, ie2, h⟩ := bnd h
   refine r_ixE tb R R R R R R (ix0 ie2) (ix1m ie2) R R (r_ldE (y := PdSquib.d e2) tb R R (ix2 (g := PdSquib.d) ie2) R R R R ?_)
   obtain ⟨rv, hrv, h⟩ := bnd h
   refine r_callH (vs := [PdSquib.d e2]) (soh hrv) soe R R R R ?_
   with_reducible apply ev_lit
   ·intro c4
    replace h := ifP c4 h
    refine r_pickT R R R R (eN (sw_condT R (qG (r_asgD R R R (eN (sw_ret (block_ret (then_ret (then_ret (block_ret (then_ret ?_)))))))))))
    obtain rfl := sI h
    exact fin_0 (t := .d (.v (.bool true))) R R R (.cons (.tmp 4) .nil)
   intro c4
   replace h := ifF c4 h
   refine r_pickT R R R R (eN (sw_condF R (sw_skip (block_norm (then_norm ?_)))))
   exact .inl ⟨(), h, .prn [0, 1, 4, 11, 12, 13] R⟩
  intro c3
  replace h := ifN c3 h
  refine r_movD R R R (r_skip R R R (r_skip R R R (r_skip R R R (r_skip R R R (r_skip R R R (r_skip R R R (r_skip R R R (r_skip R R R (r_skip R R R (r_skip R R R (r_pickF R R R R (eN (sw_condF R (sw_skip (block_norm (then_norm ?_))))))))))))))))
  exact .inl ⟨(), h, .prn [0, 1, 4, 11, 12, 13] R⟩
 intro c2
 replace h := ifN (Int.not_lt.2 c2) h
 refine eN (sw_seq (sw_condF R (sw_exit (then_exit (then_exit ?_)))))
 subst hK3
 refine block_exit (then_norm (qG (r_asgD R R R (eN (sw_ret ?_)))))
 obtain rfl := sI h
 exact fin_0 (t := .d (.v (.bool false))) R R R (.cons (.tmp 4) .nil)
def slices_Index_int_L1 (F : Nat) (s : (List Int)) (v : Int) (K : Int → Option Int) : Nat → Int → Option Int
 | 0, _ => none
 | n + 1, x => if x < (s.length : Int) then (Option.bind (ixO s x) fun e => if v = e then (some x) else (slices_Index_int_L1 F s v K n (W (x + 1)))) else (K x)
def slices_Index_int (F : Nat) (s : (List Int)) (v : Int) : Option Int := slices_Index_int_L1 F s v (fun (x : Int) => some (-1)) F 0
theorem slices_Index_int_pc {F : Nat} {s : (List Int)} {v : Int} {r : Int} (h : slices_Index_int F s v = some r) : PC Try.prog 122 [.arr 1 ((s).map vI), .v (.int .i64 v)] (.v (.int .i64 r)) := by
 rw [slices_Index_int] at h
 refine SC.of_sw Try.func122 R R R ?_
 dsimp only [argS, List.map]
 refine qG (r_asgD R R R (eN (sw_seq (qG (r_movD R R R (r_lenM tb R R R R R (r_movD R R R (eN (sw_block ?_)))))))))
 obtain ⟨K2, hK2, h⟩ : ∃ K, K = _ ∧ slices_Index_int_L1 F s v K F 0 = some r := ⟨_, rfl, h⟩
 refine sw_loop (st0 := ⟨[(0, .d (.arr 1 ((s).map vI))), (1, .d (.v (.int .i64 v))), (4, .d (.v (.int .i64 0))), (7, .d (.v (.int .i64 (s.length : Int)))), (8, .d (.v (.int .i64 0)))], []⟩) (κ := []) (fun m st => ∃ (x : Int), slices_Index_int_L1 F s v K2 m x = some r ∧ st = ⟨[(0, .d (.arr 1 ((s).map vI))), (1, .d (.v (.int .i64 v))), (4, .d (.v (.int .i64 0))), (7, .d (.v (.int .i64 (s.length : Int)))), (8, .d (.v (.int .i64 x)))], []⟩) (vwK R R .nil (.cons R R (.cons R R (.cons R R (.cons R R (.cons R R .nil)))))) ⟨0, h, R⟩ ?_
 clear h
 rintro m2 st ⟨x, h, rfl⟩
 cases m2 with
 | zero => cases (show (none : Option Int) = some r from h)
 | succ m2 =>
 rw [slices_Index_int_L1] at h
 refine qG ?_
 refine r_lss R R R R ?_ ?_
 ·intro c
  replace h := ifP c h
  refine eN (sw_seq (sw_condT R (sw_skip (then_norm (sw_seq (sw_block (qG (r_movD R R R (r_asgD R R R (eN (qG (r_movD R R R (r_movD R R R (r_movD R R R ?_))))))))))))))
  obtain ⟨e, ie, h⟩ := bnd h
  refine r_ixE tb R R R R R R (ix0 ie) (ix1m ie) R R (r_ldE (y := .v (.int .i64 e)) tb R R (ix2 (g := vI) ie) R R R R ?_)
  refine r_eql R R R R ?_ ?_
  ·intro c2
   replace h := ifP c2 h
   refine eN (sw_condT R (qG (r_movD R R R (r_asgD R R R (eN (sw_ret (block_ret (then_ret (then_ret (block_ret (then_ret ?_)))))))))))
   obtain rfl := sI h
   exact fin_0 (t := .d (.v (.int .i64 x))) R R R (.cons (.tmp 4) .nil)
  intro c2
  replace h := ifN c2 h
  refine eN (sw_condF R (sw_skip (block_norm (then_norm (sw_rg (r_add R R R R (r_movD R R R (eN ?_))))))))
  exact ⟨m2, ⟨[(0, .d (.arr 1 ((s).map vI))), (1, .d (.v (.int .i64 v))), (4, .d (.v (.int .i64 0))), (7, .d (.v (.int .i64 (s.length : Int)))), (8, .d (.v (.int .i64 (W (x + 1)))))], []⟩, [], Nat.lt_succ_self _, (vwK R R .nil (.cons R R (.cons R R (.cons R R (.cons R R (.cons R R .nil)))))), (W (x + 1)), h, R⟩
 intro c
 replace h := ifN (Int.not_lt.2 c) h
 refine eN (sw_seq (sw_condF R (sw_exit (then_exit (then_exit ?_)))))
 subst hK2
 refine block_exit (then_norm (qG (r_asgD R R R (eN (sw_ret ?_)))))
 obtain rfl := sI h
 exact fin_0 (t := .d (.v (.int .i64 (-1)))) R R R (.cons (.tmp 4) .nil)
def slices_Contains_int (F : Nat) (s : (List Int)) (v : Int) : Option Bool := Option.bind (slices_Index_int F s v) fun rv => some (decide (0 ≤ rv))
theorem slices_Contains_int_pc {F : Nat} {s : (List Int)} {v : Int} {r : Bool} (h : slices_Contains_int F s v = some r) : PC Try.prog 117 [.arr 1 ((s).map vI), .v (.int .i64 v)] (.v (.bool r)) := by
 rw [slices_Contains_int] at h
 refine SC.of_sw Try.func117 R R R ?_
 dsimp only [argS, List.map]
 refine qG (r_asgD R R R (eN (qG (r_movD R R R (r_movD R R R ?_)))))
 obtain ⟨rv, hrv, h⟩ := bnd h
 refine r_call (slices_Index_int_pc hrv) (.of (by kernel_rfl)) R R R R (r_geqV R R R R (r_asgD R R R (eN (sw_ret ?_))))
 obtain rfl := sI h
 exact fin_0 (t := .d (.v (.bool (decide (0 ≤ rv))))) R R R (.cons (.tmp 4) .nil)
def slices_Index_PdDoor_L1 (F : Nat) (s : (List PdDoor)) (v : PdDoor) (K : Int → Option Int) : Nat → Int → Option Int
 | 0, _ => none
 | n + 1, x => if x < (s.length : Int) then (Option.bind (ixO s x) fun e => if (PdDoor.beq v e) = true then (some x) else (slices_Index_PdDoor_L1 F s v K n (W (x + 1)))) else (K x)
def slices_Index_PdDoor (F : Nat) (s : (List PdDoor)) (v : PdDoor) : Option Int := slices_Index_PdDoor_L1 F s v (fun (x : Int) => some (-1)) F 0
theorem slices_Index_PdDoor_pc {F : Nat} {s : (List PdDoor)} {v : PdDoor} {r : Int} (h : slices_Index_PdDoor F s v = some r) : PC Try.prog 121 [.arr 2 ((s).map PdDoor.d), PdDoor.d v] (.v (.int .i64 r)) := by
 rw [slices_Index_PdDoor] at h
 refine SC.of_sw Try.func121 R R R ?_
 dsimp only [argS, List.map]
 refine qG (r_box R R R R R R R (r_asgD R R R (eN (sw_seq (qG (r_movD R R R (r_lenM tb R R R R R (r_movD R R R (eN (sw_block ?_))))))))))
 obtain ⟨K2, hK2, h⟩ : ∃ K, K = _ ∧ slices_Index_PdDoor_L1 F s v K F 0 = some r := ⟨_, rfl, h⟩
 refine sw_loop (st0 := ⟨[(0, .d (.arr 2 ((s).map PdDoor.d))), (3, .ref 0 2 0 0), (4, .d (.v (.int .i64 0))), (7, .d (.v (.int .i64 (s.length : Int)))), (8, .d (.v (.int .i64 0)))], [some ⟨2, [.d (PdDoor.d v)]⟩]⟩) (κ := [0]) (fun m st => ∃ (x : Int), slices_Index_PdDoor_L1 F s v K2 m x = some r ∧ st = ⟨[(0, .d (.arr 2 ((s).map PdDoor.d))), (3, .ref 0 2 0 0), (4, .d (.v (.int .i64 0))), (7, .d (.v (.int .i64 (s.length : Int)))), (8, .d (.v (.int .i64 x)))], [some ⟨2, [.d (PdDoor.d v)]⟩]⟩) (vwK R R (.cons R R .nil) (.cons R R (.cons R R (.cons R R (.cons R R (.cons R R .nil)))))) ⟨0, h, R⟩ ?_
 clear h
 rintro m2 st ⟨x, h, rfl⟩
 cases m2 with
 | zero => cases (show (none : Option Int) = some r from h)
 | succ m2 =>
 rw [slices_Index_PdDoor_L1] at h
 refine qG ?_
 refine r_lss R R R R ?_ ?_
 ·intro c
  replace h := ifP c h
  refine eN (sw_seq (sw_condT R (sw_skip (then_norm (sw_seq (sw_block (qG (r_movD R R R (r_asgD R R R (eN (sw_seq (sw_dr (by kernel_rfl) (r_ldD (y := PdDoor.d v) tb R R R R R R R R R (r_movD R R R (r_movD R R R ?_)))))))))))))))
  obtain ⟨e, ie, h⟩ := bnd h
  refine r_ixE tb R R R R R R (ix0 ie) (ix1m ie) R R (r_ldE (y := PdDoor.d e) tb R R (ix2 (g := PdDoor.d) ie) R R R R ?_)
  refine r_eqlA (p := [.int .i64 v.a, .int .i64 v.b]) (q := [.int .i64 e.a, .int .i64 e.b]) R R (fun o1 o2 w => eq89 v e o1 o2 w) R R ?_
  with_reducible apply ev_lit
  ·intro c2
   replace h := ifP c2 h
   refine ev_endD (by kernel_rfl) (then_norm (sw_condT R (qG (r_movD R R R (r_asgD R R R (eN (sw_ret (block_ret (then_ret (then_ret (block_ret (then_ret ?_))))))))))))
   obtain rfl := sI h
   exact fin_0 (t := .d (.v (.int .i64 x))) R R R (.cons (.tmp 4) .nil)
  intro c2
  replace h := ifF c2 h
  refine ev_endD (by kernel_rfl) (then_norm (sw_condF R (sw_skip (block_norm (then_norm (sw_rg (r_add R R R R (r_movD R R R (eN ?_)))))))))
  exact ⟨m2, ⟨[(0, .d (.arr 2 ((s).map PdDoor.d))), (3, .ref 0 2 0 0), (4, .d (.v (.int .i64 0))), (7, .d (.v (.int .i64 (s.length : Int)))), (8, .d (.v (.int .i64 (W (x + 1)))))], [some ⟨2, [.d (PdDoor.d v)]⟩]⟩, [0], Nat.lt_succ_self _, (vwK R R (.cons R R .nil) (.cons R R (.cons R R (.cons R R (.cons R R (.cons R R .nil)))))), (W (x + 1)), h, R⟩
 intro c
 replace h := ifN (Int.not_lt.2 c) h
 refine eN (sw_seq (sw_condF R (sw_exit (then_exit (then_exit ?_)))))
 subst hK2
 refine block_exit (then_norm (qG (r_asgD R R R (eN (sw_ret ?_)))))
 obtain rfl := sI h
 exact fin_0 (t := .d (.v (.int .i64 (-1)))) R R R (.cons (.tmp 4) .nil)
def slices_Contains_PdDoor (F : Nat) (s : (List PdDoor)) (v : PdDoor) : Option Bool := Option.bind (slices_Index_PdDoor F s v) fun rv => some (decide (0 ≤ rv))
theorem slices_Contains_PdDoor_pc {F : Nat} {s : (List PdDoor)} {v : PdDoor} {r : Bool} (h : slices_Contains_PdDoor F s v = some r) : PC Try.prog 113 [.arr 2 ((s).map PdDoor.d), PdDoor.d v] (.v (.bool r)) := by
 rw [slices_Contains_PdDoor] at h
 refine SC.of_sw Try.func113 R R R ?_
 dsimp only [argS, List.map]
 refine qG (r_box R R R R R R R (r_asgD R R R (eN (qG (r_movD R R R (r_ldD (y := PdDoor.d v) tb R R R R R R R R R ?_))))))
 obtain ⟨rv, hrv, h⟩ := bnd h
 refine r_call (slices_Index_PdDoor_pc hrv) (.of (by kernel_rfl)) R R R R (r_geqV R R R R (r_asgD R R R (eN (sw_ret ?_))))
 obtain rfl := sI h
 exact fin_0 (t := .d (.v (.bool (decide (0 ≤ rv))))) R R R (.cons (.tmp 4) .nil)
end Go.Proofs.Ythcnganbnbhhoaa
