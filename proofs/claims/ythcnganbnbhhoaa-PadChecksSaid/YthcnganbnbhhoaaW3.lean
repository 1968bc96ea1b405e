/- What functions of the program compute: plain functions, and the proofs. -/
import Derived.Test.YthcnganbnbhhoaaW2
open Go Go.Proofs.Ythcnganbnbhhoaa.Sh Go.Proofs
namespace Go.Proofs.Ythcnganbnbhhoaa
set_option linter.unusedVariables false
set_option linter.unusedSimpArgs false
set_option maxRecDepth 100000
set_option maxHeartbeats 4000000
def pad_scene_move_m_J1 (F : Nat) (B18 : Int → Option (Except Int Scene)) (t : Scene) (o : PdAct) (x3 : Int) (e3 : Int) : Option (Except Int Scene) := Option.bind (pad_scene_keyed F t e3 o.what) fun rv10 => Option.bind (pad_demand F rv10 174) fun rv11 => exE rv11 (fun x9 => some (.error x9)) (fun v7 => B18 (W (x3 + 1)))
def pad_scene_move_m_L1 (F : Nat) (t : Scene) (rv7 : (Int × PdPad)) (e6 : PdZone) (K : Int → Option (Except Int Scene)) : Nat → Int → Option (Except Int Scene)
 | 0, _ => none
 | n + 1, x6 => if x6 < (rv7.2.squibs.length : Int) then (Option.bind (ixO rv7.2.squibs x6) fun e7 => if (W ((W ((max (max (W (e6.area_X_Lo - e7.at_X)) (W (e7.at_X - e6.area_X_Hi))) 0) * (max (max (W (e6.area_X_Lo - e7.at_X)) (W (e7.at_X - e6.area_X_Hi))) 0))) + (W ((max (max (W (e6.area_Y_Lo - e7.at_Y)) (W (e7.at_Y - e6.area_Y_Hi))) 0) * (max (max (W (e6.area_Y_Lo - e7.at_Y)) (W (e7.at_Y - e6.area_Y_Hi))) 0))))) < (W (e7.clear * e7.clear)) then (if t.pdState_Storm = true then (Option.bind (ixO t.pdState_Squibs x6) fun e8 => Option.bind (pad_demand F (decide (e8 = 2)) 173) fun rv8 => exE rv8 (fun x7 => some (.error x7)) (fun v5 => pad_scene_move_m_L1 F t rv7 e6 K n (W (x6 + 1)))) else (Option.bind (pad_demand F true 173) fun rv9 => exE rv9 (fun x8 => some (.error x8)) (fun v6 => pad_scene_move_m_L1 F t rv7 e6 K n (W (x6 + 1))))) else (pad_scene_move_m_L1 F t rv7 e6 K n (W (x6 + 1)))) else (K x6)
def pad_scene_move_m_J2 (F : Nat) (B18 : Int → Option (Except Int Scene)) (t : Scene) (o : PdAct) (x3 : Int) (e3 : Int) : Option (Except Int Scene) := Option.bind (pad_near F (PdPad.mk t.p_Zones t.p_Doors t.p_People t.p_Keys t.p_Squibs t.p_Panel t.p_Wait) o.what) fun rv7 => if rv7.1 < 0 then (pad_scene_move_m_J1 F B18 t o x3 e3) else (Option.bind (ixO rv7.2.zones rv7.1) fun e6 => pad_scene_move_m_L1 F t rv7 e6 (fun (x6 : Int) => pad_scene_move_m_J1 F B18 t o x3 e3) F 0)
def pad_scene_move_m_J3 (F : Nat) (t : Scene) (o : PdAct) (e : Int) (A : (List Int)) : Option (Except Int Scene) := Option.bind (pad_scene_alone F {t with pdState_Zones := A} o.what) fun rv15 => if rv15 = true then (Option.bind (pad_demand F false 176) fun rv16 => exE rv16 (fun x13 => some (.error x13)) (fun v10 => some (.ok {t with pdState_Zones := A}))) else (Option.bind (pad_scene_alone F {t with pdState_Zones := A} e) fun rv17 => Option.bind (pad_demand F (!rv17) 176) fun rv18 => exE rv18 (fun x14 => some (.error x14)) (fun v11 => some (.ok {t with pdState_Zones := A})))
def pad_scene_move_m_L2 (F : Nat) (o : PdAct) (y : (List Int)) (K : (List Int) → Int → Option (Except Int Scene)) : Nat → (List Int) → Int → Option (Except Int Scene)
 | 0, _, _ => none
 | n + 1, A, x10 => if x10 < (y.length : Int) then (Option.bind (ixO y x10) fun e9 => Option.bind (ixO A e9) fun e10 => Option.bind (setO A e9 o.what) fun A2 => pad_scene_move_m_L2 F o y K n A2 (W (x10 + 1))) else (K A x10)
def pad_scene_move_m_L3 (F : Nat) (t : Scene) (o : PdAct) (y : (List Int)) (K : Int → Option (Except Int Scene)) : Nat → Int → Option (Except Int Scene)
 | 0, _ => none
 | n + 1, x3 => if x3 < (y.length : Int) then (Option.bind (ixO y x3) fun e3 => if o.what < 0 then (Option.bind (pad_demand F true 172) fun rv5 => exE rv5 (fun x4 => some (.error x4)) (fun v3 => pad_scene_move_m_J2 F (pad_scene_move_m_L3 F t o y K n) t o x3 e3)) else (Option.bind (ixO t.p_People e3) fun e4 => Option.bind (ixO t.p_Zones o.what) fun e5 => Option.bind (pad_demand F (decide (e5.grade ≤ e4.grade)) 172) fun rv6 => exE rv6 (fun x5 => some (.error x5)) (fun v4 => pad_scene_move_m_J2 F (pad_scene_move_m_L3 F t o y K n) t o x3 e3))) else (K x3)
def pad_scene_move_m_J4 (F : Nat) (t : Scene) (o : PdAct) (e : Int) (y : (List Int)) : Option (Except Int Scene) := pad_scene_move_m_L3 F t o y (fun (x3 : Int) => pad_scene_move_m_L2 F o y (fun (A : (List Int)) (x10 : Int) => if o.what < 0 then (Option.bind (pad_demand F true 175) fun rv12 => exE rv12 (fun x11 => some (.error x11)) (fun v8 => pad_scene_move_m_J3 F t o e A)) else (Option.bind (pad_scene_crowd F {t with pdState_Zones := A} o.what) fun rv13 => Option.bind (ixO t.p_Zones o.what) fun e11 => Option.bind (pad_demand F (decide (rv13 ≤ e11.room)) 175) fun rv14 => exE rv14 (fun x12 => some (.error x12)) (fun v9 => pad_scene_move_m_J3 F t o e A))) F t.pdState_Zones 0) F 0
def pad_scene_move_m_J5 (F : Nat) (t : Scene) (o : PdAct) (e : Int) : Option (Except Int Scene) := if 0 ≤ o.with_ then (Option.bind (appO [o.who] [o.with_]) fun q => pad_scene_move_m_J4 F t o e q) else (pad_scene_move_m_J4 F t o e [o.who])
def pad_scene_move_m_J6 (F : Nat) (B38 : Int → Option (Except Int Scene)) (t : Scene) (o : PdAct) (x16 : Int) (e12 : Int) : Option (Except Int Scene) := Option.bind (pad_scene_keyed F t e12 o.what) fun rv25 => Option.bind (pad_demand F rv25 174) fun rv26 => exE rv26 (fun x22 => some (.error x22)) (fun v17 => B38 (W (x16 + 1)))
def pad_scene_move_m_L4 (F : Nat) (t : Scene) (rv22 : (Int × PdPad)) (e15 : PdZone) (K : Int → Option (Except Int Scene)) : Nat → Int → Option (Except Int Scene)
 | 0, _ => none
 | n + 1, x19 => if x19 < (rv22.2.squibs.length : Int) then (Option.bind (ixO rv22.2.squibs x19) fun e16 => if (W ((W ((max (max (W (e15.area_X_Lo - e16.at_X)) (W (e16.at_X - e15.area_X_Hi))) 0) * (max (max (W (e15.area_X_Lo - e16.at_X)) (W (e16.at_X - e15.area_X_Hi))) 0))) + (W ((max (max (W (e15.area_Y_Lo - e16.at_Y)) (W (e16.at_Y - e15.area_Y_Hi))) 0) * (max (max (W (e15.area_Y_Lo - e16.at_Y)) (W (e16.at_Y - e15.area_Y_Hi))) 0))))) < (W (e16.clear * e16.clear)) then (if t.pdState_Storm = true then (Option.bind (ixO t.pdState_Squibs x19) fun e17 => Option.bind (pad_demand F (decide (e17 = 2)) 173) fun rv23 => exE rv23 (fun x20 => some (.error x20)) (fun v15 => pad_scene_move_m_L4 F t rv22 e15 K n (W (x19 + 1)))) else (Option.bind (pad_demand F true 173) fun rv24 => exE rv24 (fun x21 => some (.error x21)) (fun v16 => pad_scene_move_m_L4 F t rv22 e15 K n (W (x19 + 1))))) else (pad_scene_move_m_L4 F t rv22 e15 K n (W (x19 + 1)))) else (K x19)
def pad_scene_move_m_J7 (F : Nat) (B38 : Int → Option (Except Int Scene)) (t : Scene) (o : PdAct) (x16 : Int) (e12 : Int) : Option (Except Int Scene) := Option.bind (pad_near F (PdPad.mk t.p_Zones t.p_Doors t.p_People t.p_Keys t.p_Squibs t.p_Panel t.p_Wait) o.what) fun rv22 => if rv22.1 < 0 then (pad_scene_move_m_J6 F B38 t o x16 e12) else (Option.bind (ixO rv22.2.zones rv22.1) fun e15 => pad_scene_move_m_L4 F t rv22 e15 (fun (x19 : Int) => pad_scene_move_m_J6 F B38 t o x16 e12) F 0)
def pad_scene_move_m_J8 (F : Nat) (t : Scene) (o : PdAct) (e : Int) (A3 : (List Int)) : Option (Except Int Scene) := Option.bind (pad_scene_alone F {t with pdState_Zones := A3} o.what) fun rv30 => if rv30 = true then (Option.bind (pad_demand F false 176) fun rv31 => exE rv31 (fun x26 => some (.error x26)) (fun v20 => some (.ok {t with pdState_Zones := A3}))) else (Option.bind (pad_scene_alone F {t with pdState_Zones := A3} e) fun rv32 => Option.bind (pad_demand F (!rv32) 176) fun rv33 => exE rv33 (fun x27 => some (.error x27)) (fun v21 => some (.ok {t with pdState_Zones := A3})))
def pad_scene_move_m_L5 (F : Nat) (o : PdAct) (y2 : (List Int)) (K : (List Int) → Int → Option (Except Int Scene)) : Nat → (List Int) → Int → Option (Except Int Scene)
 | 0, _, _ => none
 | n + 1, A3, x23 => if x23 < (y2.length : Int) then (Option.bind (ixO y2 x23) fun e18 => Option.bind (ixO A3 e18) fun e19 => Option.bind (setO A3 e18 o.what) fun A4 => pad_scene_move_m_L5 F o y2 K n A4 (W (x23 + 1))) else (K A3 x23)
def pad_scene_move_m_L6 (F : Nat) (t : Scene) (o : PdAct) (y2 : (List Int)) (K : Int → Option (Except Int Scene)) : Nat → Int → Option (Except Int Scene)
 | 0, _ => none
 | n + 1, x16 => if x16 < (y2.length : Int) then (Option.bind (ixO y2 x16) fun e12 => if o.what < 0 then (Option.bind (pad_demand F true 172) fun rv20 => exE rv20 (fun x17 => some (.error x17)) (fun v13 => pad_scene_move_m_J7 F (pad_scene_move_m_L6 F t o y2 K n) t o x16 e12)) else (Option.bind (ixO t.p_People e12) fun e13 => Option.bind (ixO t.p_Zones o.what) fun e14 => Option.bind (pad_demand F (decide (e14.grade ≤ e13.grade)) 172) fun rv21 => exE rv21 (fun x18 => some (.error x18)) (fun v14 => pad_scene_move_m_J7 F (pad_scene_move_m_L6 F t o y2 K n) t o x16 e12))) else (K x16)
def pad_scene_move_m_J9 (F : Nat) (t : Scene) (o : PdAct) (e : Int) (y2 : (List Int)) : Option (Except Int Scene) := pad_scene_move_m_L6 F t o y2 (fun (x16 : Int) => pad_scene_move_m_L5 F o y2 (fun (A3 : (List Int)) (x23 : Int) => if o.what < 0 then (Option.bind (pad_demand F true 175) fun rv27 => exE rv27 (fun x24 => some (.error x24)) (fun v18 => pad_scene_move_m_J8 F t o e A3)) else (Option.bind (pad_scene_crowd F {t with pdState_Zones := A3} o.what) fun rv28 => Option.bind (ixO t.p_Zones o.what) fun e20 => Option.bind (pad_demand F (decide (rv28 ≤ e20.room)) 175) fun rv29 => exE rv29 (fun x25 => some (.error x25)) (fun v19 => pad_scene_move_m_J8 F t o e A3))) F t.pdState_Zones 0) F 0
def pad_scene_move_m_J10 (F : Nat) (t : Scene) (o : PdAct) (e : Int) : Option (Except Int Scene) := if o.with_ < 0 then (Option.bind (pad_demand F true 171) fun rv3 => exE rv3 (fun x => some (.error x)) (fun v => pad_scene_move_m_J5 F t o e)) else (Option.bind (ixO t.pdState_Zones o.with_) fun e2 => Option.bind (pad_demand F (decide (e2 = e)) 171) fun rv4 => exE rv4 (fun x2 => some (.error x2)) (fun v2 => pad_scene_move_m_J5 F t o e))
def pad_scene_move_m_J11 (F : Nat) (B55 : Int → Option (Except Int Scene)) (t : Scene) (o : PdAct) (x2 : Int) (e2 : Int) : Option (Except Int Scene) := Option.bind (pad_scene_keyed F t e2 o.what) fun rv9 => Option.bind (pad_demand F rv9 174) fun rv10 => exE rv10 (fun x8 => some (.error x8)) (fun v6 => B55 (W (x2 + 1)))
def pad_scene_move_m_L7 (F : Nat) (t : Scene) (rv6 : (Int × PdPad)) (e5 : PdZone) (K : Int → Option (Except Int Scene)) : Nat → Int → Option (Except Int Scene)
 | 0, _ => none
 | n + 1, x5 => if x5 < (rv6.2.squibs.length : Int) then (Option.bind (ixO rv6.2.squibs x5) fun e6 => if (W ((W ((max (max (W (e5.area_X_Lo - e6.at_X)) (W (e6.at_X - e5.area_X_Hi))) 0) * (max (max (W (e5.area_X_Lo - e6.at_X)) (W (e6.at_X - e5.area_X_Hi))) 0))) + (W ((max (max (W (e5.area_Y_Lo - e6.at_Y)) (W (e6.at_Y - e5.area_Y_Hi))) 0) * (max (max (W (e5.area_Y_Lo - e6.at_Y)) (W (e6.at_Y - e5.area_Y_Hi))) 0))))) < (W (e6.clear * e6.clear)) then (if t.pdState_Storm = true then (Option.bind (ixO t.pdState_Squibs x5) fun e7 => Option.bind (pad_demand F (decide (e7 = 2)) 173) fun rv7 => exE rv7 (fun x6 => some (.error x6)) (fun v4 => pad_scene_move_m_L7 F t rv6 e5 K n (W (x5 + 1)))) else (Option.bind (pad_demand F true 173) fun rv8 => exE rv8 (fun x7 => some (.error x7)) (fun v5 => pad_scene_move_m_L7 F t rv6 e5 K n (W (x5 + 1))))) else (pad_scene_move_m_L7 F t rv6 e5 K n (W (x5 + 1)))) else (K x5)
def pad_scene_move_m_J12 (F : Nat) (B55 : Int → Option (Except Int Scene)) (t : Scene) (o : PdAct) (x2 : Int) (e2 : Int) : Option (Except Int Scene) := Option.bind (pad_near F (PdPad.mk t.p_Zones t.p_Doors t.p_People t.p_Keys t.p_Squibs t.p_Panel t.p_Wait) o.what) fun rv6 => if rv6.1 < 0 then (pad_scene_move_m_J11 F B55 t o x2 e2) else (Option.bind (ixO rv6.2.zones rv6.1) fun e5 => pad_scene_move_m_L7 F t rv6 e5 (fun (x5 : Int) => pad_scene_move_m_J11 F B55 t o x2 e2) F 0)
def pad_scene_move_m_J13 (F : Nat) (t : Scene) (o : PdAct) (e : Int) (A : (List Int)) : Option (Except Int Scene) := Option.bind (pad_scene_alone F {t with pdState_Zones := A} o.what) fun rv14 => if rv14 = true then (Option.bind (pad_demand F false 176) fun rv15 => exE rv15 (fun x12 => some (.error x12)) (fun v9 => some (.ok {t with pdState_Zones := A}))) else (Option.bind (pad_scene_alone F {t with pdState_Zones := A} e) fun rv16 => Option.bind (pad_demand F (!rv16) 176) fun rv17 => exE rv17 (fun x13 => some (.error x13)) (fun v10 => some (.ok {t with pdState_Zones := A})))
def pad_scene_move_m_L8 (F : Nat) (o : PdAct) (y : (List Int)) (K : (List Int) → Int → Option (Except Int Scene)) : Nat → (List Int) → Int → Option (Except Int Scene)
 | 0, _, _ => none
 | n + 1, A, x9 => if x9 < (y.length : Int) then (Option.bind (ixO y x9) fun e8 => Option.bind (ixO A e8) fun e9 => Option.bind (setO A e8 o.what) fun A2 => pad_scene_move_m_L8 F o y K n A2 (W (x9 + 1))) else (K A x9)
def pad_scene_move_m_L9 (F : Nat) (t : Scene) (o : PdAct) (y : (List Int)) (K : Int → Option (Except Int Scene)) : Nat → Int → Option (Except Int Scene)
 | 0, _ => none
 | n + 1, x2 => if x2 < (y.length : Int) then (Option.bind (ixO y x2) fun e2 => if o.what < 0 then (Option.bind (pad_demand F true 172) fun rv4 => exE rv4 (fun x3 => some (.error x3)) (fun v2 => pad_scene_move_m_J12 F (pad_scene_move_m_L9 F t o y K n) t o x2 e2)) else (Option.bind (ixO t.p_People e2) fun e3 => Option.bind (ixO t.p_Zones o.what) fun e4 => Option.bind (pad_demand F (decide (e4.grade ≤ e3.grade)) 172) fun rv5 => exE rv5 (fun x4 => some (.error x4)) (fun v3 => pad_scene_move_m_J12 F (pad_scene_move_m_L9 F t o y K n) t o x2 e2))) else (K x2)
def pad_scene_move_m_J14 (F : Nat) (t : Scene) (o : PdAct) (e : Int) (y : (List Int)) : Option (Except Int Scene) := pad_scene_move_m_L9 F t o y (fun (x2 : Int) => pad_scene_move_m_L8 F o y (fun (A : (List Int)) (x9 : Int) => if o.what < 0 then (Option.bind (pad_demand F true 175) fun rv11 => exE rv11 (fun x10 => some (.error x10)) (fun v7 => pad_scene_move_m_J13 F t o e A)) else (Option.bind (pad_scene_crowd F {t with pdState_Zones := A} o.what) fun rv12 => Option.bind (ixO t.p_Zones o.what) fun e10 => Option.bind (pad_demand F (decide (rv12 ≤ e10.room)) 175) fun rv13 => exE rv13 (fun x11 => some (.error x11)) (fun v8 => pad_scene_move_m_J13 F t o e A))) F t.pdState_Zones 0) F 0
def pad_scene_move_m (F : Nat) (t : Scene) (o : PdAct) : Option (Except Int Scene) := Option.bind (ixO t.pdState_Zones o.who) fun e => Option.bind (slices_Contains_PdDoor F t.p_Doors (PdDoor.mk e o.what)) fun rv => if rv = true then (pad_scene_move_m_J10 F t o e) else (Option.bind (slices_Contains_PdDoor F t.p_Doors (PdDoor.mk o.what e)) fun rv2 => if rv2 = true then (pad_scene_move_m_J10 F t o e) else (Option.bind (pad_demand F false 171) fun rv3 => exE rv3 (fun x => some (.error x)) (fun v => if 0 ≤ o.with_ then (Option.bind (appO [o.who] [o.with_]) fun q => pad_scene_move_m_J14 F t o e q) else (pad_scene_move_m_J14 F t o e [o.who]))))
theorem pad_scene_move_m_scx {F : Nat} {t : Scene} {o : PdAct} {r : (Except Int Scene)} (h : pad_scene_move_m F t o = some r) : SCX Try.prog 101 [.ref 0 13 0 0, .d (PdAct.d o)] [some ⟨13, [Scene_T1 t 1 2 3]⟩, some (lvI t.pdState_Zones), some (lvI t.pdState_Holder), some (lvI t.pdState_Squibs)] r 29 (fun (a : Scene) => .d (.tup [])) (fun (a : Scene) => [some ⟨13, [Scene_T1 a 1 2 3]⟩, some (lvI a.pdState_Zones), some (lvI a.pdState_Holder), some (lvI a.pdState_Squibs)]) := by
 rw [pad_scene_move_m] at h
 refine SC.of_swm Try.func101 R R R ?_
 dsimp only [argS, List.map]
 refine swm_seq ?_
 refine swm_of fun df => ?_
 refine sw_rg (r_box R R R R R R R (r_box R R R R R R R (eN (swm_seq ?_))))
 refine swm_of fun df => ?_
 refine sw_dr (by kernel_rfl) (r_ldR tb R R R R R R R R R (r_nilRef R R R (r_fa tb R R R R R R R (r_fa tb R R R R R R R (r_ldW tb R R R R R R R R R (r_fa tb R R R R R R R (r_ldD (y := .v (.int .i64 o.who)) tb R R R R R R R R R ?_)))))))
 obtain ⟨e, ie, h⟩ := bnd h
 refine r_ixI tb R R R R R R (ix0 ie) (ix1 ie) R R ?_
 refine r_ldD (y := .v (.int .i64 e)) tb R R R R (ix2 (g := fun a => T.d (vI a)) ie) R R R R ?_
 refine r_asgD R R R (ev_endD (by kernel_rfl) (then_norm (swm_seq ?_)))
 refine swm_join (fun zz : Unit => pad_scene_move_m_J10 F t o e = some r) (fun zz : Unit => ⟨[(2, .ref 4 1 0 0), (3, .ref 5 5 0 0), (4, .d (.v (.int .i64 e))), (5, .d (.v (.bool true)))], [some ⟨13, [Scene_T1 t 1 2 3]⟩, some (lvI t.pdState_Zones), some (lvI t.pdState_Holder), some (lvI t.pdState_Squibs), some ⟨1, [.ref 0 13 0 0]⟩, some ⟨5, [.d (PdAct.d o)]⟩]⟩) ?_ ?_
 ·clear h
  rintro ⟨⟩ h
  rw [pad_scene_move_m_J10] at h
  refine swm_seq ?_
  refine swm_join (fun zz : Unit => pad_scene_move_m_J5 F t o e = some r) (fun zz : Unit => ⟨[(2, .ref 4 1 0 0), (3, .ref 5 5 0 0), (4, .d (.v (.int .i64 e)))], [some ⟨13, [Scene_T1 t 1 2 3]⟩, some (lvI t.pdState_Zones), some (lvI t.pdState_Holder), some (lvI t.pdState_Squibs), some ⟨1, [.ref 0 13 0 0]⟩, some ⟨5, [.d (PdAct.d o)]⟩]⟩) ?_ ?_
  ·clear h
   rintro ⟨⟩ h
   rw [pad_scene_move_m_J5] at h
   refine swm_seq ?_
   refine swm_of fun df => ?_
   refine sw_rg (r_fa tb R R R R R R R (r_ldD (y := .v (.int .i64 o.who)) tb R R R R R R R R R (r_bslice tb R R R R R R R R R R R R R (r_asgW R R R (eN (swm_seq ?_))))))
   refine swm_join (fun zz : (List Int) => pad_scene_move_m_J4 F t o e zz = some r) (fun zz : (List Int) => ⟨[(2, .ref 4 1 0 0), (3, .ref 5 5 0 0), (4, .d (.v (.int .i64 e))), (6, .row 6 1 0 (zz).length)], [some ⟨13, [Scene_T1 t 1 2 3]⟩, some (lvI t.pdState_Zones), some (lvI t.pdState_Holder), some (lvI t.pdState_Squibs), some ⟨1, [.ref 0 13 0 0]⟩, some ⟨5, [.d (PdAct.d o)]⟩, some (lvI zz)]⟩) ?_ ?_
   ·clear h
    rintro y h
    rw [pad_scene_move_m_J4] at h
    refine swm_seq (swm_seq ?_)
    refine swm_of fun df => ?_
    refine sw_rg (r_movW R R R (r_lenR tb R R R R R (r_movD R R R (eN (swm_block ?_)))))
    obtain ⟨K18, hK18, h⟩ : ∃ K, K = _ ∧ pad_scene_move_m_L3 F t o y K F 0 = some r := ⟨_, rfl, h⟩
    refine swm_loop (st0 := ⟨[(2, .ref 4 1 0 0), (3, .ref 5 5 0 0), (4, .d (.v (.int .i64 e))), (6, .row 6 1 0 (y).length), (74, .row 6 1 0 (y).length), (75, .d (.v (.int .i64 (y.length : Int)))), (76, .d (.v (.int .i64 0)))], [some ⟨13, [Scene_T1 t 1 2 3]⟩, some (lvI t.pdState_Zones), some (lvI t.pdState_Holder), some (lvI t.pdState_Squibs), some ⟨1, [.ref 0 13 0 0]⟩, some ⟨5, [.d (PdAct.d o)]⟩, some (lvI y)]⟩) (κ := [0, 1, 2, 3, 4, 5, 6]) (fun m st => ∃ (x3 : Int), pad_scene_move_m_L3 F t o y K18 m x3 = some r ∧ st = ⟨[(2, .ref 4 1 0 0), (3, .ref 5 5 0 0), (4, .d (.v (.int .i64 e))), (6, .row 6 1 0 (y).length), (74, .row 6 1 0 (y).length), (75, .d (.v (.int .i64 (y.length : Int)))), (76, .d (.v (.int .i64 x3)))], [some ⟨13, [Scene_T1 t 1 2 3]⟩, some (lvI t.pdState_Zones), some (lvI t.pdState_Holder), some (lvI t.pdState_Squibs), some ⟨1, [.ref 0 13 0 0]⟩, some ⟨5, [.d (PdAct.d o)]⟩, some (lvI y)]⟩) (vwK R R (.cons R R (.row R (.row R (.row R (.cons R R (.cons R R (.row R .nil))))))) (.cons R R (.cons R R (.cons R R (.cons R R (.cons R R (.cons R R (.cons R R .nil)))))))) ⟨0, h, R⟩ ?_
    clear h
    rintro m18 st ⟨x3, h, rfl⟩
    cases m18 with
    | zero => cases (show (none : Option (Except Int Scene)) = some r from h)
    | succ m18 =>
    rw [pad_scene_move_m_L3] at h
    refine swm_seq ?_
    refine swm_of fun df => ?_
    refine sw_rg ?_
    refine r_lss R R R R ?_ ?_
    ·intro c5
     replace h := ifP c5 h
     refine eN (swm_seq ?_)
     refine swm_of fun df => ?_
     refine sw_condT R (sw_skip (then_norm (swm_seq (swm_block (swm_seq ?_)))))
     refine swm_of fun df => ?_
     refine sw_rg ?_
     obtain ⟨e3, ie3, h⟩ := bnd h
     refine r_ixI tb R R R R R R (ix0 ie3) (ix1 ie3) R R ?_
     refine r_ldD (y := .v (.int .i64 e3)) tb R R R R (ix2 (g := fun a => T.d (vI a)) ie3) R R R R ?_
     refine r_asgD R R R (eN (swm_seq ?_))
     refine swm_join (fun zz : Unit => pad_scene_move_m_J2 F (pad_scene_move_m_L3 F t o y K18 m18) t o x3 e3 = some r) (fun zz : Unit => ⟨[(2, .ref 4 1 0 0), (3, .ref 5 5 0 0), (4, .d (.v (.int .i64 e))), (6, .row 6 1 0 (y).length), (8, .d (.v (.int .i64 e3))), (74, .row 6 1 0 (y).length), (75, .d (.v (.int .i64 (y.length : Int)))), (76, .d (.v (.int .i64 x3)))], [some ⟨13, [Scene_T1 t 1 2 3]⟩, some (lvI t.pdState_Zones), some (lvI t.pdState_Holder), some (lvI t.pdState_Squibs), some ⟨1, [.ref 0 13 0 0]⟩, some ⟨5, [.d (PdAct.d o)]⟩, some (lvI y)]⟩) ?_ ?_
     ·clear h
      rintro ⟨⟩ h
      rw [pad_scene_move_m_J2] at h
      refine swm_seq ?_
      refine swm_join (fun zz : Unit => pad_scene_move_m_J1 F (pad_scene_move_m_L3 F t o y K18 m18) t o x3 e3 = some r) (fun zz : Unit => ⟨[(2, .ref 4 1 0 0), (3, .ref 5 5 0 0), (4, .d (.v (.int .i64 e))), (6, .row 6 1 0 (y).length), (8, .d (.v (.int .i64 e3))), (74, .row 6 1 0 (y).length), (75, .d (.v (.int .i64 (y.length : Int)))), (76, .d (.v (.int .i64 x3)))], [some ⟨13, [Scene_T1 t 1 2 3]⟩, some (lvI t.pdState_Zones), some (lvI t.pdState_Holder), some (lvI t.pdState_Squibs), some ⟨1, [.ref 0 13 0 0]⟩, some ⟨5, [.d (PdAct.d o)]⟩, some (lvI y)]⟩) ?_ ?_
      ·clear h
       rintro ⟨⟩ h
       rw [pad_scene_move_m_J1] at h
       refine swm_of fun df => ?_
       refine sw_rgP (r_ldR tb R R R R R R R R R (r_movD R R R (r_fa tb R R R R R R R (r_ldD (y := .v (.int .i64 o.what)) tb R R R R R R R R R ?_))))
       obtain ⟨rv10, hrv10, h⟩ := bnd h
       refine r_callL (pad_scene_keyed_pc hrv10) R (.of (by kernel_rfl)) R R ((.cons (.ref R (.aggL (.cons (.d _) (.cons (.d _) (.cons (.d _) (.cons (.d _) (.cons (.d _) (.cons (.d _) (.cons (.d _) (.cons (.d _) (.cons (.row R R) (.cons (.row R R) (.cons (.row R R) (.cons (.d _) (.cons (.d _) .nil))))))))))))))) (.cons (.d _) (.cons (.d _) .nil)))) R R ?_
       obtain ⟨rv11, hrv11, h⟩ := bnd h
       rcases ex_or rv11 with ⟨x9, nv7⟩ | ⟨v7, nv7⟩
       ·replace h := (exN nv7).symm.trans h
        refine ev_pan ?_
        (with_reducible apply op_call []); exact (pad_demand_scx hrv11).err nv7; exact rfl; exact .of (by kernel_rfl); exact rfl; exact .inl ⟨rfl, rfl, rfl⟩; (iterate 4 exact rfl); exact .nil; exact rfl
        intro cnt
        refine block_pan (then_pan (then_pan (block_pan (then_pan ?_))))
        obtain rfl := sI h
        exact fin_pX (L := [some ⟨13, [Scene_T1 t 1 2 3]⟩, some (lvI t.pdState_Zones), some (lvI t.pdState_Holder), some (lvI t.pdState_Squibs)]) (κ := [0, 1, 2, 3]) (vwK R R (.cons R R (.row R (.row R (.row R .nil)))) .nil) (.inr ⟨_, R, R⟩)
       replace h := (exO nv7).symm.trans h
       refine r_callO (t' := .d (.tup [])) (ls := []) (news := []) ([]) ([some ⟨13, [Scene_T1 t 1 2 3]⟩, some (lvI t.pdState_Zones), some (lvI t.pdState_Holder), some (lvI t.pdState_Squibs), some ⟨1, [.ref 0 13 0 0]⟩, some ⟨5, [.d (PdAct.d o)]⟩, some (lvI y)]) ((pad_demand_scx hrv11).ok nv7) (.of (by kernel_rfl)) R (.inl ⟨R, R, R⟩) R R R R .nil R R R .nil .nil R R R R (ev_endP (block_norm (then_norm ?_)))
       refine swm_of fun df => ?_
       refine sw_rg (r_add R R R R (r_movD R R R (eN ?_)))
       exact ⟨m18, ⟨[(2, .ref 4 1 0 0), (3, .ref 5 5 0 0), (4, .d (.v (.int .i64 e))), (6, .row 6 1 0 (y).length), (74, .row 6 1 0 (y).length), (75, .d (.v (.int .i64 (y.length : Int)))), (76, .d (.v (.int .i64 (W (x3 + 1)))))], [some ⟨13, [Scene_T1 t 1 2 3]⟩, some (lvI t.pdState_Zones), some (lvI t.pdState_Holder), some (lvI t.pdState_Squibs), some ⟨1, [.ref 0 13 0 0]⟩, some ⟨5, [.d (PdAct.d o)]⟩, some (lvI y)]⟩, [0, 1, 2, 3, 4, 5, 6], Nat.lt_succ_self _, (vwK R R (.cons R R (.row R (.row R (.row R (.cons R R (.cons R R (.row R .nil))))))) (.cons R R (.cons R R (.cons R R (.cons R R (.cons R R (.cons R R (.cons R R .nil)))))))), (W (x3 + 1)), h, R⟩
      refine swm_seq ?_
      refine swm_of fun df => ?_
      refine sw_dr (by kernel_rfl) (r_ldR tb R R R R R R R R R (r_nilRef R R R (r_fa tb R R R R R R R (r_ldD (y := .agg [.arr 8 ((t.p_Zones).map PdZone.d), .arr 2 ((t.p_Doors).map PdDoor.d), .arr 2 ((t.p_People).map PdPerson.d), .arr 1 ((t.p_Keys).map vS), .arr 6 ((t.p_Squibs).map PdSquib.d), .v (.int .i64 t.p_Panel), .v (.int .i64 t.p_Wait)]) tb R R R R R R R R R (r_fa tb R R R R R R R (r_ldD (y := .v (.int .i64 o.what)) tb R R R R R R R R R ?_))))))
      obtain ⟨rv7, hrv7, h⟩ := bnd h
      refine r_callN (t' := .fn (.func 78) [] [.ref 7 1 0 0, .ref 8 7 0 0]) (news' := [⟨1, [.d (.v (.int .i64 rv7.1))]⟩, ⟨7, [.d (PdPad.d rv7.2)]⟩]) (pad_near_scr hrv7) (.of (by kernel_rfl)) R R R ((.cons R (.cons R .nil))) R R R (ev_endD (by kernel_rfl) (then_norm (swm_block ?_)))
      refine swm_range (.of (by kernel_rfl)) Try.func78 R R R R R R fun lb => ?_
      simp only [argS, Nat.zero_add, Nat.reduceAdd]
      refine swj_seq (swj_seq (swj_rg (rgj_ev (r_ldD (y := .v (.int .i64 rv7.1)) tb R R R R R R R R R ?_))))
      refine r_lss R R R R ?_ ?_
      ·intro c7
       replace h := ifP c7 h
       refine ev_endJ (thenj_norm (swj_condT R (swj_ret (thenj_ret ?_))))
       refine ⟨R, [some ⟨13, [Scene_T1 t 1 2 3]⟩, some (lvI t.pdState_Zones), some (lvI t.pdState_Holder), some (lvI t.pdState_Squibs), some ⟨1, [.ref 0 13 0 0]⟩, some ⟨5, [.d (PdAct.d o)]⟩, some (lvI y), some ⟨1, [.d (.v (.int .i64 rv7.1))]⟩, some ⟨7, [.d (PdPad.d rv7.2)]⟩], [0, 1, 2, 3, 4, 5, 6, 7, 8], (vwK R R (.cons R R (.row R (.row R (.row R (.cons R R (.cons R R (.row R (.cons R R (.cons R R .nil))))))))) .nil), ?_⟩
       refine block_norm (then_norm ?_)
       exact .inl ⟨(), h, .vw (κ := [0, 1, 2, 3, 4, 5, 6]) (vwK R R (.cons R R (.row R (.row R (.row R (.cons R R (.cons R R (.row R .nil))))))) (.cons R R (.cons R R (.cons R R (.cons R R (.cons R R (.cons R R (.cons R R (.cons R R .nil)))))))))⟩
      intro c7
      replace h := ifN (Int.not_lt.2 c7) h
      refine ev_endJ (thenj_norm (swj_condF R (swj_skip (thenj_norm (swj_seq (swj_rg (rgj_ev (r_fa tb R R R R R R R (r_ldD (y := .arr 8 ((rv7.2.zones).map PdZone.d)) tb R R R R R R R R R (r_ldD (y := .v (.int .i64 rv7.1)) tb R R R R R R R R R ?_))))))))))
      obtain ⟨e6, ie6, h⟩ := bnd h
      refine r_ixE tb R R R R R R (ix0 ie6) (ix1m ie6) R R (r_faE tb R R R R R R R (r_ldE (y := .agg [.v (.int .i64 e6.area_X_Lo), .v (.int .i64 e6.area_X_Hi), .v (.int .i64 e6.area_Y_Lo), .v (.int .i64 e6.area_Y_Hi)]) tb R R (ix2 (g := PdZone.d) ie6) R R R R (r_alloc tb R R R R R ?_)))
      refine r_stE _ ([some ⟨13, [Scene_T1 t 1 2 3]⟩, some (lvI t.pdState_Zones), some (lvI t.pdState_Holder), some (lvI t.pdState_Squibs), some ⟨1, [.ref 0 13 0 0]⟩, some ⟨5, [.d (PdAct.d o)]⟩, some (lvI y), some ⟨1, [.d (.v (.int .i64 rv7.1))]⟩, some ⟨7, [.d (PdPad.d rv7.2)]⟩, some ⟨4, [.d (.agg [.v (.int .i64 e6.area_X_Lo), .v (.int .i64 e6.area_X_Hi), .v (.int .i64 e6.area_Y_Lo), .v (.int .i64 e6.area_Y_Hi)])]⟩]) tb R R R R R R R R R R R R (ev_endJ (thenj_norm (swj_seq (swj_rg (rgj_ev (r_fa tb R R R R R R R ?_))))))
      refine r_ldD (y := .arr 6 ((rv7.2.squibs).map PdSquib.d)) tb R R R R R R R R R (r_lenM tb R R R R R (r_movD R R R (ev_endJ (thenj_norm (swj_block ?_)))))
      obtain ⟨K25, hK25, h⟩ : ∃ K, K = _ ∧ pad_scene_move_m_L1 F t rv7 e6 K F 0 = some r := ⟨_, rfl, h⟩
      refine swj_loop (st0 := ⟨[(0, .d (.v (.func (.yield lb) #[] #[]))), (4, .ref 9 4 0 0), (18, .d (.arr 6 ((rv7.2.squibs).map PdSquib.d))), (19, .d (.v (.int .i64 (rv7.2.squibs.length : Int)))), (20, .d (.v (.int .i64 0)))], [some ⟨13, [Scene_T1 t 1 2 3]⟩, some (lvI t.pdState_Zones), some (lvI t.pdState_Holder), some (lvI t.pdState_Squibs), some ⟨1, [.ref 0 13 0 0]⟩, some ⟨5, [.d (PdAct.d o)]⟩, some (lvI y), some ⟨1, [.d (.v (.int .i64 rv7.1))]⟩, some ⟨7, [.d (PdPad.d rv7.2)]⟩, some ⟨4, [.d (.agg [.v (.int .i64 e6.area_X_Lo), .v (.int .i64 e6.area_X_Hi), .v (.int .i64 e6.area_Y_Lo), .v (.int .i64 e6.area_Y_Hi)])]⟩]⟩) (κ := [0, 1, 2, 3, 4, 5, 6, 7, 8, 9]) (fun m ph st => ∃ (x6 : Int), pad_scene_move_m_L1 F t rv7 e6 K25 m x6 = some r ∧ ph = SX.norm ∧ st = ⟨[(0, .d (.v (.func (.yield lb) #[] #[]))), (4, .ref 9 4 0 0), (18, .d (.arr 6 ((rv7.2.squibs).map PdSquib.d))), (19, .d (.v (.int .i64 (rv7.2.squibs.length : Int)))), (20, .d (.v (.int .i64 x6)))], [some ⟨13, [Scene_T1 t 1 2 3]⟩, some (lvI t.pdState_Zones), some (lvI t.pdState_Holder), some (lvI t.pdState_Squibs), some ⟨1, [.ref 0 13 0 0]⟩, some ⟨5, [.d (PdAct.d o)]⟩, some (lvI y), some ⟨1, [.d (.v (.int .i64 rv7.1))]⟩, some ⟨7, [.d (PdPad.d rv7.2)]⟩, some ⟨4, [.d (.agg [.v (.int .i64 e6.area_X_Lo), .v (.int .i64 e6.area_X_Hi), .v (.int .i64 e6.area_Y_Lo), .v (.int .i64 e6.area_Y_Hi)])]⟩]⟩) (vwK R R (.cons R R (.row R (.row R (.row R (.cons R R (.cons R R (.row R (.cons R R (.cons R R (.cons R R .nil)))))))))) (.cons R R (.cons R R (.cons R R (.cons R R (.cons R R .nil)))))) ⟨0, h, R, R⟩ ?_
      clear h
      rintro m25 ph st ⟨x6, h, rfl, rfl⟩
      cases m25 with
      | zero => cases (show (none : Option (Except Int Scene)) = some r from h)
      | succ m25 =>
      rw [pad_scene_move_m_L1] at h
      refine swj_seq (swj_rg (rgj_ev ?_))
      refine r_lss R R R R ?_ ?_
      ·intro c8
       replace h := ifP c8 h
       refine ev_endJ (thenj_norm (swj_seq (swj_condT R (swj_skip (thenj_norm (swj_seq (swj_block (swj_seq (swj_rg (rgj_ev (r_movD R R R ?_)))))))))))
       obtain ⟨e7, ie7, h⟩ := bnd h
       refine r_ixE tb R R R R R R (ix0 ie7) (ix1m ie7) R R (r_ldE (y := PdSquib.d e7) tb R R (ix2 (g := PdSquib.d) ie7) R R R R (r_alloc tb R R R R R (r_asgD R R R ?_)))
       refine r_stE _ ([some ⟨13, [Scene_T1 t 1 2 3]⟩, some (lvI t.pdState_Zones), some (lvI t.pdState_Holder), some (lvI t.pdState_Squibs), some ⟨1, [.ref 0 13 0 0]⟩, some ⟨5, [.d (PdAct.d o)]⟩, some (lvI y), some ⟨1, [.d (.v (.int .i64 rv7.1))]⟩, some ⟨7, [.d (PdPad.d rv7.2)]⟩, some ⟨4, [.d (.agg [.v (.int .i64 e6.area_X_Lo), .v (.int .i64 e6.area_X_Hi), .v (.int .i64 e6.area_Y_Lo), .v (.int .i64 e6.area_Y_Hi)])]⟩, some ⟨6, [.d (PdSquib.d e7)]⟩]) tb R R R R R R R R R R R R (ev_endJ (thenj_norm (swj_seq (swj_of (sw_dr (by kernel_rfl) ?_)))))
       refine r_fa tb R R R R R R R (r_fa tb R R R R R R R (r_ldD (y := .v (.int .i64 e6.area_X_Lo)) tb R R R R R R R R R (r_fa tb R R R R R R R (r_fa tb R R R R R R R (r_ldD (y := .v (.int .i64 e7.at_X)) tb R R R R R R R R R (r_sub R R R R (r_fa tb R R R R R R R (r_fa tb R R R R R R R (r_ldD (y := .v (.int .i64 e7.at_X)) tb R R R R R R R R R (r_fa tb R R R R R R R (r_fa tb R R R R R R R ?_)))))))))))
       refine r_ldD (y := .v (.int .i64 e6.area_X_Hi)) tb R R R R R R R R R (r_sub R R R R (r_max3 R R R R R (r_fa tb R R R R R R R (r_fa tb R R R R R R R (r_ldD (y := .v (.int .i64 e6.area_Y_Lo)) tb R R R R R R R R R (r_fa tb R R R R R R R (r_fa tb R R R R R R R (r_ldD (y := .v (.int .i64 e7.at_Y)) tb R R R R R R R R R (r_sub R R R R (r_fa tb R R R R R R R (r_fa tb R R R R R R R ?_)))))))))))
       refine r_ldD (y := .v (.int .i64 e7.at_Y)) tb R R R R R R R R R (r_fa tb R R R R R R R (r_fa tb R R R R R R R (r_ldD (y := .v (.int .i64 e6.area_Y_Hi)) tb R R R R R R R R R (r_sub R R R R (r_max3 R R R R R (r_asgD R R R (r_asgD R R R (ev_endD (by kernel_rfl) (thenj_norm (swj_seq (swj_rg (rgj_ev (r_movD R R R (r_movD R R R (r_mul R R R R (r_movD R R R (r_movD R R R (r_mul R R R R (r_add R R R R ?_)))))))))))))))))))
       refine r_fa tb R R R R R R R (r_ldD (y := .v (.int .i64 e7.clear)) tb R R R R R R R R R (r_fa tb R R R R R R R (r_ldD (y := .v (.int .i64 e7.clear)) tb R R R R R R R R R (r_mul R R R R ?_))))
       refine r_lss R R R R ?_ ?_
       ·intro c9
        replace h := ifP c9 h
        refine r_movD R R R (r_movD R R R (r_movD R R R (ev_yieldJ ?_)))
        (with_reducible apply rgj_yield (ys := [.v (.int .i64 x6)])); (iterate 7 exact rfl)
        dsimp only [parS]
        refine sw_rg (r_asgD R R R (ev_end ?_))
        refine ⟨R, ?_⟩
        with_reducible apply swy_block
        with_reducible apply swy_rg
        refine r_ldR tb R R R R R R R R R (r_nilRef R R R (r_fa tb R R R R R R R (r_fa tb R R R R R R R (r_ldD (y := .v (.bool t.pdState_Storm)) tb R R R R R R R R R ?_))))
        with_reducible apply ev_lit
        ·intro c10
         replace h := ifP c10 h
         refine r_notT R R R (r_movD R R R (r_ldR tb R R R R R R R R R (r_nilRef R R R (r_fa tb R R R R R R R (r_fa tb R R R R R R R (r_ldW tb R R R R R R R R R (r_movD R R R ?_)))))))
         obtain ⟨e8, ie8, h⟩ := bnd h
         refine r_ixI tb R R R R R R (ix0 ie8) (ix1 ie8) R R ?_
         refine r_ldD (y := .v (.int .i64 e8)) tb R R R R (ix2 (g := fun a => T.d (vI a)) ie8) R R R R ?_
         refine r_eqlV R R R R (r_pickF R R R R ?_)
         obtain ⟨rv8, hrv8, h⟩ := bnd h
         rcases ex_or rv8 with ⟨x7, nv5⟩ | ⟨v5, nv5⟩
         ·replace h := (exN nv5).symm.trans h
          refine ev_pan ?_
          (with_reducible apply op_call []); exact (pad_demand_scx hrv8).err nv5; exact rfl; exact .of (by kernel_rfl); exact rfl; exact .inl ⟨rfl, rfl, rfl⟩; (iterate 4 exact rfl); exact .nil; exact rfl
          intro cnt
          refine block_pan ?_
          refine ⟨[some ⟨13, [Scene_T1 t 1 2 3]⟩, some (lvI t.pdState_Zones), some (lvI t.pdState_Holder), some (lvI t.pdState_Squibs), some ⟨1, [.ref 0 13 0 0]⟩, some ⟨5, [.d (PdAct.d o)]⟩, some (lvI y), some ⟨1, [.d (.v (.int .i64 rv7.1))]⟩, some ⟨7, [.d (PdPad.d rv7.2)]⟩, some ⟨4, [.d (.agg [.v (.int .i64 e6.area_X_Lo), .v (.int .i64 e6.area_X_Hi), .v (.int .i64 e6.area_Y_Lo), .v (.int .i64 e6.area_Y_Hi)])]⟩, some ⟨6, [.d (PdSquib.d e7)]⟩], [0, 1, 2, 3, 4, 5, 6, 7, 8, 9, 10], (vwK R R (.cons R R (.row R (.row R (.row R (.cons R R (.cons R R (.row R (.cons R R (.cons R R (.cons R R (.cons R R .nil))))))))))) .nil), R, ?_⟩
          with_reducible apply yk_pan
          refine thenj_pan (blockj_pan (thenj_pan (thenj_pan (blockj_pan ?_))))
          refine ⟨R, R, [some ⟨13, [Scene_T1 t 1 2 3]⟩, some (lvI t.pdState_Zones), some (lvI t.pdState_Holder), some (lvI t.pdState_Squibs), some ⟨1, [.ref 0 13 0 0]⟩, some ⟨5, [.d (PdAct.d o)]⟩, some (lvI y), some ⟨1, [.d (.v (.int .i64 rv7.1))]⟩, some ⟨7, [.d (PdPad.d rv7.2)]⟩], [0, 1, 2, 3, 4, 5, 6, 7, 8], (vwK R R (.cons R R (.row R (.row R (.row R (.cons R R (.cons R R (.row R (.cons R R (.cons R R .nil))))))))) .nil), ?_⟩
          refine block_pan (then_pan (block_pan (then_pan (then_pan (block_pan (then_pan ?_))))))
          obtain rfl := sI h
          exact fin_pX (L := [some ⟨13, [Scene_T1 t 1 2 3]⟩, some (lvI t.pdState_Zones), some (lvI t.pdState_Holder), some (lvI t.pdState_Squibs)]) (κ := [0, 1, 2, 3]) (vwK R R (.cons R R (.row R (.row R (.row R .nil)))) .nil) (.inr ⟨_, R, R⟩)
         replace h := (exO nv5).symm.trans h
         refine r_callO (t' := .d (.tup [])) (ls := []) (news := []) ([]) ([some ⟨13, [Scene_T1 t 1 2 3]⟩, some (lvI t.pdState_Zones), some (lvI t.pdState_Holder), some (lvI t.pdState_Squibs), some ⟨1, [.ref 0 13 0 0]⟩, some ⟨5, [.d (PdAct.d o)]⟩, some (lvI y), some ⟨1, [.d (.v (.int .i64 rv7.1))]⟩, some ⟨7, [.d (PdPad.d rv7.2)]⟩, some ⟨4, [.d (.agg [.v (.int .i64 e6.area_X_Lo), .v (.int .i64 e6.area_X_Hi), .v (.int .i64 e6.area_Y_Lo), .v (.int .i64 e6.area_Y_Hi)])]⟩, some ⟨6, [.d (PdSquib.d e7)]⟩]) ((pad_demand_scx hrv8).ok nv5) (.of (by kernel_rfl)) R (.inl ⟨R, R, R⟩) R R R R .nil R R R .nil .nil R R R R ?_
         refine ev_endP (block_norm ?_)
         refine ⟨[some ⟨13, [Scene_T1 t 1 2 3]⟩, some (lvI t.pdState_Zones), some (lvI t.pdState_Holder), some (lvI t.pdState_Squibs), some ⟨1, [.ref 0 13 0 0]⟩, some ⟨5, [.d (PdAct.d o)]⟩, some (lvI y), some ⟨1, [.d (.v (.int .i64 rv7.1))]⟩, some ⟨7, [.d (PdPad.d rv7.2)]⟩, some ⟨4, [.d (.agg [.v (.int .i64 e6.area_X_Lo), .v (.int .i64 e6.area_X_Hi), .v (.int .i64 e6.area_Y_Lo), .v (.int .i64 e6.area_Y_Hi)])]⟩, some ⟨6, [.d (PdSquib.d e7)]⟩], [0, 1, 2, 3, 4, 5, 6, 7, 8, 9, 10], (vwK R R (.cons R R (.row R (.row R (.row R (.cons R R (.cons R R (.row R (.cons R R (.cons R R (.cons R R (.cons R R .nil))))))))))) .nil), ?_⟩
         with_reducible apply yk_norm
         refine rgj_ev (r_notT R R R (r_pickT R R R R (ev_endJ (thenj_norm (swj_condF R (swj_skip (blockj_norm (thenj_norm (swj_rg (rgj_ev (r_add R R R R (r_movD R R R (ev_endJ (thenj_norm ?_))))))))))))))
         exact ⟨m25, ⟨[(0, .d (.v (.func (.yield lb) #[] #[]))), (4, .ref 9 4 0 0), (18, .d (.arr 6 ((rv7.2.squibs).map PdSquib.d))), (19, .d (.v (.int .i64 (rv7.2.squibs.length : Int)))), (20, .d (.v (.int .i64 (W (x6 + 1)))))], [some ⟨13, [Scene_T1 t 1 2 3]⟩, some (lvI t.pdState_Zones), some (lvI t.pdState_Holder), some (lvI t.pdState_Squibs), some ⟨1, [.ref 0 13 0 0]⟩, some ⟨5, [.d (PdAct.d o)]⟩, some (lvI y), some ⟨1, [.d (.v (.int .i64 rv7.1))]⟩, some ⟨7, [.d (PdPad.d rv7.2)]⟩, some ⟨4, [.d (.agg [.v (.int .i64 e6.area_X_Lo), .v (.int .i64 e6.area_X_Hi), .v (.int .i64 e6.area_Y_Lo), .v (.int .i64 e6.area_Y_Hi)])]⟩]⟩, [0, 1, 2, 3, 4, 5, 6, 7, 8, 9], Nat.lt_succ_self _, (vwK R R (.cons R R (.row R (.row R (.row R (.cons R R (.cons R R (.row R (.cons R R (.cons R R (.cons R R .nil)))))))))) (.cons R R (.cons R R (.cons R R (.cons R R (.cons R R .nil)))))), (W (x6 + 1)), h, R, R⟩
        intro c10
        replace h := ifF c10 h
        refine r_notF R R R (r_movD R R R (r_skip R R R (r_skip R R R (r_skip R R R (r_skip R R R (r_skip R R R (r_skip R R R (r_skip R R R (r_skip R R R (r_skip R R R (r_pickT R R R R ?_)))))))))))
        obtain ⟨rv9, hrv9, h⟩ := bnd h
        rcases ex_or rv9 with ⟨x8, nv6⟩ | ⟨v6, nv6⟩
        ·replace h := (exN nv6).symm.trans h
         refine ev_pan ?_
         (with_reducible apply op_call []); exact (pad_demand_scx hrv9).err nv6; exact rfl; exact .of (by kernel_rfl); exact rfl; exact .inl ⟨rfl, rfl, rfl⟩; (iterate 4 exact rfl); exact .nil; exact rfl
         intro cnt
         refine block_pan ?_
         refine ⟨[some ⟨13, [Scene_T1 t 1 2 3]⟩, some (lvI t.pdState_Zones), some (lvI t.pdState_Holder), some (lvI t.pdState_Squibs), some ⟨1, [.ref 0 13 0 0]⟩, some ⟨5, [.d (PdAct.d o)]⟩, some (lvI y), some ⟨1, [.d (.v (.int .i64 rv7.1))]⟩, some ⟨7, [.d (PdPad.d rv7.2)]⟩, some ⟨4, [.d (.agg [.v (.int .i64 e6.area_X_Lo), .v (.int .i64 e6.area_X_Hi), .v (.int .i64 e6.area_Y_Lo), .v (.int .i64 e6.area_Y_Hi)])]⟩, some ⟨6, [.d (PdSquib.d e7)]⟩], [0, 1, 2, 3, 4, 5, 6, 7, 8, 9, 10], (vwK R R (.cons R R (.row R (.row R (.row R (.cons R R (.cons R R (.row R (.cons R R (.cons R R (.cons R R (.cons R R .nil))))))))))) .nil), R, ?_⟩
         with_reducible apply yk_pan
         refine thenj_pan (blockj_pan (thenj_pan (thenj_pan (blockj_pan ?_))))
         refine ⟨R, R, [some ⟨13, [Scene_T1 t 1 2 3]⟩, some (lvI t.pdState_Zones), some (lvI t.pdState_Holder), some (lvI t.pdState_Squibs), some ⟨1, [.ref 0 13 0 0]⟩, some ⟨5, [.d (PdAct.d o)]⟩, some (lvI y), some ⟨1, [.d (.v (.int .i64 rv7.1))]⟩, some ⟨7, [.d (PdPad.d rv7.2)]⟩], [0, 1, 2, 3, 4, 5, 6, 7, 8], (vwK R R (.cons R R (.row R (.row R (.row R (.cons R R (.cons R R (.row R (.cons R R (.cons R R .nil))))))))) .nil), ?_⟩
         refine block_pan (then_pan (block_pan (then_pan (then_pan (block_pan (then_pan ?_))))))
         obtain rfl := sI h
         exact fin_pX (L := [some ⟨13, [Scene_T1 t 1 2 3]⟩, some (lvI t.pdState_Zones), some (lvI t.pdState_Holder), some (lvI t.pdState_Squibs)]) (κ := [0, 1, 2, 3]) (vwK R R (.cons R R (.row R (.row R (.row R .nil)))) .nil) (.inr ⟨_, R, R⟩)
        replace h := (exO nv6).symm.trans h
        refine r_callO (t' := .d (.tup [])) (ls := []) (news := []) ([]) ([some ⟨13, [Scene_T1 t 1 2 3]⟩, some (lvI t.pdState_Zones), some (lvI t.pdState_Holder), some (lvI t.pdState_Squibs), some ⟨1, [.ref 0 13 0 0]⟩, some ⟨5, [.d (PdAct.d o)]⟩, some (lvI y), some ⟨1, [.d (.v (.int .i64 rv7.1))]⟩, some ⟨7, [.d (PdPad.d rv7.2)]⟩, some ⟨4, [.d (.agg [.v (.int .i64 e6.area_X_Lo), .v (.int .i64 e6.area_X_Hi), .v (.int .i64 e6.area_Y_Lo), .v (.int .i64 e6.area_Y_Hi)])]⟩, some ⟨6, [.d (PdSquib.d e7)]⟩]) ((pad_demand_scx hrv9).ok nv6) (.of (by kernel_rfl)) R (.inl ⟨R, R, R⟩) R R R R .nil R R R .nil .nil R R R R ?_
        refine ev_endP (block_norm ?_)
        refine ⟨[some ⟨13, [Scene_T1 t 1 2 3]⟩, some (lvI t.pdState_Zones), some (lvI t.pdState_Holder), some (lvI t.pdState_Squibs), some ⟨1, [.ref 0 13 0 0]⟩, some ⟨5, [.d (PdAct.d o)]⟩, some (lvI y), some ⟨1, [.d (.v (.int .i64 rv7.1))]⟩, some ⟨7, [.d (PdPad.d rv7.2)]⟩, some ⟨4, [.d (.agg [.v (.int .i64 e6.area_X_Lo), .v (.int .i64 e6.area_X_Hi), .v (.int .i64 e6.area_Y_Lo), .v (.int .i64 e6.area_Y_Hi)])]⟩, some ⟨6, [.d (PdSquib.d e7)]⟩], [0, 1, 2, 3, 4, 5, 6, 7, 8, 9, 10], (vwK R R (.cons R R (.row R (.row R (.row R (.cons R R (.cons R R (.row R (.cons R R (.cons R R (.cons R R (.cons R R .nil))))))))))) .nil), ?_⟩
        with_reducible apply yk_norm
        refine rgj_ev (r_notT R R R (r_pickT R R R R (ev_endJ (thenj_norm (swj_condF R (swj_skip (blockj_norm (thenj_norm (swj_rg (rgj_ev (r_add R R R R (r_movD R R R (ev_endJ (thenj_norm ?_))))))))))))))
        exact ⟨m25, ⟨[(0, .d (.v (.func (.yield lb) #[] #[]))), (4, .ref 9 4 0 0), (18, .d (.arr 6 ((rv7.2.squibs).map PdSquib.d))), (19, .d (.v (.int .i64 (rv7.2.squibs.length : Int)))), (20, .d (.v (.int .i64 (W (x6 + 1)))))], [some ⟨13, [Scene_T1 t 1 2 3]⟩, some (lvI t.pdState_Zones), some (lvI t.pdState_Holder), some (lvI t.pdState_Squibs), some ⟨1, [.ref 0 13 0 0]⟩, some ⟨5, [.d (PdAct.d o)]⟩, some (lvI y), some ⟨1, [.d (.v (.int .i64 rv7.1))]⟩, some ⟨7, [.d (PdPad.d rv7.2)]⟩, some ⟨4, [.d (.agg [.v (.int .i64 e6.area_X_Lo), .v (.int .i64 e6.area_X_Hi), .v (.int .i64 e6.area_Y_Lo), .v (.int .i64 e6.area_Y_Hi)])]⟩]⟩, [0, 1, 2, 3, 4, 5, 6, 7, 8, 9], Nat.lt_succ_self _, (vwK R R (.cons R R (.row R (.row R (.row R (.cons R R (.cons R R (.row R (.cons R R (.cons R R (.cons R R .nil)))))))))) (.cons R R (.cons R R (.cons R R (.cons R R (.cons R R .nil)))))), (W (x6 + 1)), h, R, R⟩
       intro c9
       replace h := ifN (Int.not_lt.2 c9) h
       refine r_movD R R R (r_skip R R R (r_skip R R R (r_skip R R R (r_skip R R R (r_pickF R R R R (ev_endJ (thenj_norm (swj_condF R (swj_skip (blockj_norm (thenj_norm (swj_rg (rgj_ev (r_add R R R R (r_movD R R R (ev_endJ (thenj_norm ?_)))))))))))))))))
       exact ⟨m25, ⟨[(0, .d (.v (.func (.yield lb) #[] #[]))), (4, .ref 9 4 0 0), (18, .d (.arr 6 ((rv7.2.squibs).map PdSquib.d))), (19, .d (.v (.int .i64 (rv7.2.squibs.length : Int)))), (20, .d (.v (.int .i64 (W (x6 + 1)))))], [some ⟨13, [Scene_T1 t 1 2 3]⟩, some (lvI t.pdState_Zones), some (lvI t.pdState_Holder), some (lvI t.pdState_Squibs), some ⟨1, [.ref 0 13 0 0]⟩, some ⟨5, [.d (PdAct.d o)]⟩, some (lvI y), some ⟨1, [.d (.v (.int .i64 rv7.1))]⟩, some ⟨7, [.d (PdPad.d rv7.2)]⟩, some ⟨4, [.d (.agg [.v (.int .i64 e6.area_X_Lo), .v (.int .i64 e6.area_X_Hi), .v (.int .i64 e6.area_Y_Lo), .v (.int .i64 e6.area_Y_Hi)])]⟩]⟩, [0, 1, 2, 3, 4, 5, 6, 7, 8, 9], Nat.lt_succ_self _, (vwK R R (.cons R R (.row R (.row R (.row R (.cons R R (.cons R R (.row R (.cons R R (.cons R R (.cons R R .nil)))))))))) (.cons R R (.cons R R (.cons R R (.cons R R (.cons R R .nil)))))), (W (x6 + 1)), h, R, R⟩
      intro c8
      replace h := ifN (Int.not_lt.2 c8) h
      refine ev_endJ (thenj_norm (swj_seq (swj_condF R (swj_exit (thenj_exit (thenj_exit ?_))))))
      subst hK25
      refine blockj_exit ?_
      refine ⟨R, [some ⟨13, [Scene_T1 t 1 2 3]⟩, some (lvI t.pdState_Zones), some (lvI t.pdState_Holder), some (lvI t.pdState_Squibs), some ⟨1, [.ref 0 13 0 0]⟩, some ⟨5, [.d (PdAct.d o)]⟩, some (lvI y), some ⟨1, [.d (.v (.int .i64 rv7.1))]⟩, some ⟨7, [.d (PdPad.d rv7.2)]⟩], [0, 1, 2, 3, 4, 5, 6, 7, 8], (vwK R R (.cons R R (.row R (.row R (.row R (.cons R R (.cons R R (.row R (.cons R R (.cons R R .nil))))))))) .nil), ?_⟩
      refine block_norm (then_norm ?_)
      exact .inl ⟨(), h, .vw (κ := [0, 1, 2, 3, 4, 5, 6]) (vwK R R (.cons R R (.row R (.row R (.row R (.cons R R (.cons R R (.row R .nil))))))) (.cons R R (.cons R R (.cons R R (.cons R R (.cons R R (.cons R R (.cons R R (.cons R R .nil)))))))))⟩
     refine swm_of fun df => ?_
     refine sw_drP (by kernel_rfl) (r_fa tb R R R R R R R (r_ldD (y := .v (.int .i64 o.what)) tb R R R R R R R R R ?_))
     refine r_lss R R R R ?_ ?_
     ·intro c6
      replace h := ifP c6 h
      refine r_movD R R R (r_skip R R R (r_skip R R R (r_skip R R R (r_skip R R R (r_skip R R R (r_skip R R R (r_skip R R R (r_skip R R R (r_skip R R R (r_skip R R R (r_skip R R R (r_skip R R R (r_skip R R R (r_skip R R R (r_skip R R R (r_skip R R R (r_skip R R R (r_skip R R R (r_skip R R R (r_skip R R R (r_pickT R R R R ?_)))))))))))))))))))))
      obtain ⟨rv5, hrv5, h⟩ := bnd h
      rcases ex_or rv5 with ⟨x4, nv3⟩ | ⟨v3, nv3⟩
      ·replace h := (exN nv3).symm.trans h
       refine ev_panD (by kernel_rfl) (by kernel_rfl) ?_
       (with_reducible apply op_call []); exact (pad_demand_scx hrv5).err nv3; exact rfl; exact .of (by kernel_rfl); exact rfl; exact .inl ⟨rfl, rfl, rfl⟩; (iterate 4 exact rfl); exact .nil; exact rfl
       intro cnt
       refine then_pan (block_pan (then_pan (then_pan (block_pan (then_pan ?_)))))
       obtain rfl := sI h
       exact fin_pX (L := [some ⟨13, [Scene_T1 t 1 2 3]⟩, some (lvI t.pdState_Zones), some (lvI t.pdState_Holder), some (lvI t.pdState_Squibs)]) (κ := [0, 1, 2, 3]) (vwK R R (.cons R R (.row R (.row R (.row R .nil)))) .nil) (.inr ⟨_, R, R⟩)
      replace h := (exO nv3).symm.trans h
      refine r_callO (t' := .d (.tup [])) (ls := []) (news := []) ([]) ([some ⟨13, [Scene_T1 t 1 2 3]⟩, some (lvI t.pdState_Zones), some (lvI t.pdState_Holder), some (lvI t.pdState_Squibs), some ⟨1, [.ref 0 13 0 0]⟩, some ⟨5, [.d (PdAct.d o)]⟩, some (lvI y)]) ((pad_demand_scx hrv5).ok nv3) (.of (by kernel_rfl)) R (.inl ⟨R, R, R⟩) R R R R .nil R R R .nil .nil R R R R (ev_endPD (by kernel_rfl) (then_norm ?_))
      exact .inl ⟨(), h, .prn [2, 3, 4, 6, 8, 74, 75, 76] R⟩
     intro c6
     replace h := ifN (Int.not_lt.2 c6) h
     refine r_movD R R R (r_ldR tb R R R R R R R R R (r_nilRef R R R (r_fa tb R R R R R R R (r_fa tb R R R R R R R (r_ldD (y := .arr 2 ((t.p_People).map PdPerson.d)) tb R R R R R R R R R (r_movD R R R ?_))))))
     obtain ⟨e4, ie4, h⟩ := bnd h
     refine r_ixE tb R R R R R R (ix0 ie4) (ix1m ie4) R R (r_faE tb R R R R R R R (r_ldE (y := .v (.int .i64 e4.grade)) tb R R (ix2 (g := PdPerson.d) ie4) R R R R (r_ldR tb R R R R R R R R R (r_nilRef R R R (r_fa tb R R R R R R R (r_fa tb R R R R R R R (r_ldD (y := .arr 8 ((t.p_Zones).map PdZone.d)) tb R R R R R R R R R (r_fa tb R R R R R R R (r_ldD (y := .v (.int .i64 o.what)) tb R R R R R R R R R ?_)))))))))
     obtain ⟨e5, ie5, h⟩ := bnd h
     refine r_ixE tb R R R R R R (ix0 ie5) (ix1m ie5) R R (r_faE tb R R R R R R R (r_ldE (y := .v (.int .i64 e5.grade)) tb R R (ix2 (g := PdZone.d) ie5) R R R R (r_geqV R R R R (r_pickF R R R R ?_))))
     obtain ⟨rv6, hrv6, h⟩ := bnd h
     rcases ex_or rv6 with ⟨x5, nv4⟩ | ⟨v4, nv4⟩
     ·replace h := (exN nv4).symm.trans h
      refine ev_panD (by kernel_rfl) (by kernel_rfl) ?_
      (with_reducible apply op_call []); exact (pad_demand_scx hrv6).err nv4; exact rfl; exact .of (by kernel_rfl); exact rfl; exact .inl ⟨rfl, rfl, rfl⟩; (iterate 4 exact rfl); exact .nil; exact rfl
      intro cnt
      refine then_pan (block_pan (then_pan (then_pan (block_pan (then_pan ?_)))))
      obtain rfl := sI h
      exact fin_pX (L := [some ⟨13, [Scene_T1 t 1 2 3]⟩, some (lvI t.pdState_Zones), some (lvI t.pdState_Holder), some (lvI t.pdState_Squibs)]) (κ := [0, 1, 2, 3]) (vwK R R (.cons R R (.row R (.row R (.row R .nil)))) .nil) (.inr ⟨_, R, R⟩)
     replace h := (exO nv4).symm.trans h
     refine r_callO (t' := .d (.tup [])) (ls := []) (news := []) ([]) ([some ⟨13, [Scene_T1 t 1 2 3]⟩, some (lvI t.pdState_Zones), some (lvI t.pdState_Holder), some (lvI t.pdState_Squibs), some ⟨1, [.ref 0 13 0 0]⟩, some ⟨5, [.d (PdAct.d o)]⟩, some (lvI y)]) ((pad_demand_scx hrv6).ok nv4) (.of (by kernel_rfl)) R (.inl ⟨R, R, R⟩) R R R R .nil R R R .nil .nil R R R R (ev_endPD (by kernel_rfl) (then_norm ?_))
     exact .inl ⟨(), h, .prn [2, 3, 4, 6, 8, 74, 75, 76] R⟩
    intro c5
    replace h := ifN (Int.not_lt.2 c5) h
    refine eN (swm_seq ?_)
    refine swm_of fun df => ?_
    refine sw_condF R (sw_exit (then_exit (then_exit ?_)))
    subst hK18
    refine block_exit (then_norm ?_)
    refine swm_of fun df => ?_
    refine sw_seq (qG (r_movW R R R (r_lenR tb R R R R R (r_movD R R R (eN (sw_block ?_))))))
    obtain ⟨K28, hK28, h⟩ : ∃ K, K = _ ∧ pad_scene_move_m_L2 F o y K F t.pdState_Zones 0 = some r := ⟨_, rfl, h⟩
    refine sw_loop (st0 := ⟨[(2, .ref 4 1 0 0), (3, .ref 5 5 0 0), (4, .d (.v (.int .i64 e))), (139, .row 6 1 0 (y).length), (140, .d (.v (.int .i64 (y.length : Int)))), (141, .d (.v (.int .i64 0)))], [some ⟨13, [Scene_T1 t 1 2 3]⟩, some (lvI t.pdState_Zones), some (lvI t.pdState_Holder), some (lvI t.pdState_Squibs), some ⟨1, [.ref 0 13 0 0]⟩, some ⟨5, [.d (PdAct.d o)]⟩, some (lvI y)]⟩) (κ := [0, 1, 2, 3, 4, 5, 6]) (fun m st => ∃ (A : (List Int)) (x10 : Int), pad_scene_move_m_L2 F o y K28 m A x10 = some r ∧ st = ⟨[(2, .ref 4 1 0 0), (3, .ref 5 5 0 0), (4, .d (.v (.int .i64 e))), (139, .row 6 1 0 (y).length), (140, .d (.v (.int .i64 (y.length : Int)))), (141, .d (.v (.int .i64 x10)))], [some ⟨13, [Scene_T1 {t with pdState_Zones := A} 1 2 3]⟩, some (lvI A), some (lvI t.pdState_Holder), some (lvI t.pdState_Squibs), some ⟨1, [.ref 0 13 0 0]⟩, some ⟨5, [.d (PdAct.d o)]⟩, some (lvI y)]⟩) (vwK R R (.cons R R (.row R (.row R (.row R (.cons R R (.cons R R (.row R .nil))))))) (.cons R R (.cons R R (.cons R R (.cons R R (.cons R R (.cons R R .nil))))))) ⟨t.pdState_Zones, 0, h, R⟩ ?_
    clear h
    rintro m28 st ⟨A, x10, h, rfl⟩
    cases m28 with
    | zero => cases (show (none : Option (Except Int Scene)) = some r from h)
    | succ m28 =>
    rw [pad_scene_move_m_L2] at h
    refine qG ?_
    refine r_lss R R R R ?_ ?_
    ·intro c11
     replace h := ifP c11 h
     refine eN (sw_seq (sw_condT R (sw_skip (then_norm (sw_seq (sw_block (qG ?_)))))))
     obtain ⟨e9, ie9, h⟩ := bnd h
     refine r_ixI tb R R R R R R (ix0 ie9) (ix1 ie9) R R ?_
     refine r_ldD (y := .v (.int .i64 e9)) tb R R R R (ix2 (g := fun a => T.d (vI a)) ie9) R R R R ?_
     refine r_asgD R R R (eN (sw_dr (by kernel_rfl) (r_ldR tb R R R R R R R R R (r_nilRef R R R (r_fa tb R R R R R R R (r_fa tb R R R R R R R (r_ldW tb R R R R R R R R R (r_movD R R R (r_fa tb R R R R R R R (r_ldD (y := .v (.int .i64 o.what)) tb R R R R R R R R R ?_))))))))))
     obtain ⟨e10, ie10, h⟩ := bnd h
     refine r_ixI tb R R R R R R (ix0 ie10) (ix1 ie10) R R ?_
     obtain ⟨A2, iA2, h⟩ := bnd h
     refine r_stQ (a' := (o.what : Int)) tb R R R R ie10 R R R R iA2 R R ?_
     dsimp only [List.set_cons_zero, List.set_cons_succ, PdState_T1, PdState_T2, PdState_T3, Scene_T1]
     first | rw [set_len iA2] | skip
     refine ev_endD (by kernel_rfl) (block_norm (then_norm (sw_rg (r_add R R R R (r_movD R R R (eN ?_))))))
     exact ⟨m28, ⟨[(2, .ref 4 1 0 0), (3, .ref 5 5 0 0), (4, .d (.v (.int .i64 e))), (139, .row 6 1 0 (y).length), (140, .d (.v (.int .i64 (y.length : Int)))), (141, .d (.v (.int .i64 (W (x10 + 1)))))], [some ⟨13, [Scene_T1 {t with pdState_Zones := A2} 1 2 3]⟩, some (lvI A2), some (lvI t.pdState_Holder), some (lvI t.pdState_Squibs), some ⟨1, [.ref 0 13 0 0]⟩, some ⟨5, [.d (PdAct.d o)]⟩, some (lvI y)]⟩, [0, 1, 2, 3, 4, 5, 6], Nat.lt_succ_self _, (vwK R R (.cons R R (.row R (.row R (.row R (.cons R R (.cons R R (.row R .nil))))))) (.cons R R (.cons R R (.cons R R (.cons R R (.cons R R (.cons R R .nil))))))), A2, (W (x10 + 1)), h, R⟩
    intro c11
    replace h := ifN (Int.not_lt.2 c11) h
    refine eN (sw_seq (sw_condF R (sw_exit (then_exit (then_exit ?_)))))
    subst hK28
    refine block_exit (then_norm (sw_seq ?_))
    refine sw_join (fun zz : Unit => pad_scene_move_m_J3 F t o e A = some r) (fun zz : Unit => ⟨[(2, .ref 4 1 0 0), (3, .ref 5 5 0 0), (4, .d (.v (.int .i64 e)))], [some ⟨13, [Scene_T1 {t with pdState_Zones := A} 1 2 3]⟩, some (lvI A), some (lvI t.pdState_Holder), some (lvI t.pdState_Squibs), some ⟨1, [.ref 0 13 0 0]⟩, some ⟨5, [.d (PdAct.d o)]⟩]⟩) ?_ ?_
    ·clear h
     rintro ⟨⟩ h
     rw [pad_scene_move_m_J3] at h
     refine sw_rgP (r_ldR tb R R R R R R R R R (r_fa tb R R R R R R R (r_ldD (y := .v (.int .i64 o.what)) tb R R R R R R R R R ?_)))
     obtain ⟨rv15, hrv15, h⟩ := bnd h
     refine r_callLB (pad_scene_alone_pc hrv15) (.of (by kernel_rfl)) R R ((.cons (.ref R (.aggL (.cons (.d _) (.cons (.d _) (.cons (.d _) (.cons (.d _) (.cons (.d _) (.cons (.d _) (.cons (.d _) (.cons (.d _) (.cons (.row R R) (.cons (.row R R) (.cons (.row R R) (.cons (.d _) (.cons (.d _) .nil))))))))))))))) (.cons (.d _) .nil))) R R ?_ ?_
     ·intro c13
      replace h := ifP c13 h
      refine r_notT R R R (r_movD R R R (r_skip R R R (r_skip R R R (r_skip R R R (r_skip R R R (r_pickF R R R R ?_))))))
      obtain ⟨rv16, hrv16, h⟩ := bnd h
      rcases ex_or rv16 with ⟨x13, nv10⟩ | ⟨v10, nv10⟩
      ·replace h := (exN nv10).symm.trans h
       refine ev_pan ?_
       (with_reducible apply op_call []); exact (pad_demand_scx hrv16).err nv10; exact rfl; exact .of (by kernel_rfl); exact rfl; exact .inl ⟨rfl, rfl, rfl⟩; (iterate 4 exact rfl); exact .nil; exact rfl
       intro cnt
       obtain rfl := sI h
       exact fin_pX (L := [some ⟨13, [Scene_T1 {t with pdState_Zones := A} 1 2 3]⟩, some (lvI A), some (lvI t.pdState_Holder), some (lvI t.pdState_Squibs)]) (κ := [0, 1, 2, 3]) (vwK R R (.cons R R (.row R (.row R (.row R .nil)))) .nil) (.inr ⟨_, R, R⟩)
      replace h := (exO nv10).symm.trans h
      refine r_callO (t' := .d (.tup [])) (ls := []) (news := []) ([]) ([some ⟨13, [Scene_T1 {t with pdState_Zones := A} 1 2 3]⟩, some (lvI A), some (lvI t.pdState_Holder), some (lvI t.pdState_Squibs), some ⟨1, [.ref 0 13 0 0]⟩, some ⟨5, [.d (PdAct.d o)]⟩]) ((pad_demand_scx hrv16).ok nv10) (.of (by kernel_rfl)) R (.inl ⟨R, R, R⟩) R R R R .nil R R R .nil .nil R R R R (ev_endP ?_)
      obtain rfl := sI h
      exact fin_n (fin_S (t := .d (.tup [])) (L := [some ⟨13, [Scene_T1 {t with pdState_Zones := A} 1 2 3]⟩, some (lvI A), some (lvI t.pdState_Holder), some (lvI t.pdState_Squibs)]) (κ := [0, 1, 2, 3]) R .nil (vwK R R (.cons R R (.row R (.row R (.row R .nil)))) (.cons R R .nil)) (.inl ⟨_, R, R, R⟩))
     intro c13
     replace h := ifF c13 h
     refine r_notF R R R (r_movD R R R (r_ldR tb R R R R R R R R R (r_movD R R R ?_)))
     obtain ⟨rv17, hrv17, h⟩ := bnd h
     refine r_callL (pad_scene_alone_pc hrv17) R (.of (by kernel_rfl)) R R ((.cons (.ref R (.aggL (.cons (.d _) (.cons (.d _) (.cons (.d _) (.cons (.d _) (.cons (.d _) (.cons (.d _) (.cons (.d _) (.cons (.d _) (.cons (.row R R) (.cons (.row R R) (.cons (.row R R) (.cons (.d _) (.cons (.d _) .nil))))))))))))))) (.cons (.d _) .nil))) R R (r_not R R R (r_pickT R R R R ?_))
     obtain ⟨rv18, hrv18, h⟩ := bnd h
     rcases ex_or rv18 with ⟨x14, nv11⟩ | ⟨v11, nv11⟩
     ·replace h := (exN nv11).symm.trans h
      refine ev_pan ?_
      (with_reducible apply op_call []); exact (pad_demand_scx hrv18).err nv11; exact rfl; exact .of (by kernel_rfl); exact rfl; exact .inl ⟨rfl, rfl, rfl⟩; (iterate 4 exact rfl); exact .nil; exact rfl
      intro cnt
      obtain rfl := sI h
      exact fin_pX (L := [some ⟨13, [Scene_T1 {t with pdState_Zones := A} 1 2 3]⟩, some (lvI A), some (lvI t.pdState_Holder), some (lvI t.pdState_Squibs)]) (κ := [0, 1, 2, 3]) (vwK R R (.cons R R (.row R (.row R (.row R .nil)))) .nil) (.inr ⟨_, R, R⟩)
     replace h := (exO nv11).symm.trans h
     refine r_callO (t' := .d (.tup [])) (ls := []) (news := []) ([]) ([some ⟨13, [Scene_T1 {t with pdState_Zones := A} 1 2 3]⟩, some (lvI A), some (lvI t.pdState_Holder), some (lvI t.pdState_Squibs), some ⟨1, [.ref 0 13 0 0]⟩, some ⟨5, [.d (PdAct.d o)]⟩]) ((pad_demand_scx hrv18).ok nv11) (.of (by kernel_rfl)) R (.inl ⟨R, R, R⟩) R R R R .nil R R R .nil .nil R R R R (ev_endP ?_)
     obtain rfl := sI h
     exact fin_n (fin_S (t := .d (.tup [])) (L := [some ⟨13, [Scene_T1 {t with pdState_Zones := A} 1 2 3]⟩, some (lvI A), some (lvI t.pdState_Holder), some (lvI t.pdState_Squibs)]) (κ := [0, 1, 2, 3]) R .nil (vwK R R (.cons R R (.row R (.row R (.row R .nil)))) (.cons R R .nil)) (.inl ⟨_, R, R, R⟩))
    refine sw_drP (by kernel_rfl) (r_fa tb R R R R R R R (r_ldD (y := .v (.int .i64 o.what)) tb R R R R R R R R R ?_))
    refine r_lss R R R R ?_ ?_
    ·intro c12
     replace h := ifP c12 h
     refine r_movD R R R (r_skip R R R (r_skip R R R (r_skip R R R (r_skip R R R (r_skip R R R (r_skip R R R (r_skip R R R (r_skip R R R (r_skip R R R (r_skip R R R (r_skip R R R (r_skip R R R (r_skip R R R (r_skip R R R (r_skip R R R (r_pickT R R R R ?_))))))))))))))))
     obtain ⟨rv12, hrv12, h⟩ := bnd h
     rcases ex_or rv12 with ⟨x11, nv8⟩ | ⟨v8, nv8⟩
     ·replace h := (exN nv8).symm.trans h
      refine ev_panD (by kernel_rfl) (by kernel_rfl) ?_
      (with_reducible apply op_call []); exact (pad_demand_scx hrv12).err nv8; exact rfl; exact .of (by kernel_rfl); exact rfl; exact .inl ⟨rfl, rfl, rfl⟩; (iterate 4 exact rfl); exact .nil; exact rfl
      intro cnt
      refine then_pan ?_
      obtain rfl := sI h
      exact fin_pX (L := [some ⟨13, [Scene_T1 {t with pdState_Zones := A} 1 2 3]⟩, some (lvI A), some (lvI t.pdState_Holder), some (lvI t.pdState_Squibs)]) (κ := [0, 1, 2, 3]) (vwK R R (.cons R R (.row R (.row R (.row R .nil)))) .nil) (.inr ⟨_, R, R⟩)
     replace h := (exO nv8).symm.trans h
     refine r_callO (t' := .d (.tup [])) (ls := []) (news := []) ([]) ([some ⟨13, [Scene_T1 {t with pdState_Zones := A} 1 2 3]⟩, some (lvI A), some (lvI t.pdState_Holder), some (lvI t.pdState_Squibs), some ⟨1, [.ref 0 13 0 0]⟩, some ⟨5, [.d (PdAct.d o)]⟩, some (lvI y)]) ((pad_demand_scx hrv12).ok nv8) (.of (by kernel_rfl)) R (.inl ⟨R, R, R⟩) R R R R .nil R R R .nil .nil R R R R (ev_endPD (by kernel_rfl) (then_norm ?_))
     exact .inl ⟨(), h, .vw (κ := [0, 1, 2, 3, 4, 5]) (vwK R R (.cons R R (.row R (.row R (.row R (.cons R R (.cons R R .nil)))))) (.cons R R (.cons R R (.cons R R .nil))))⟩
    intro c12
    replace h := ifN (Int.not_lt.2 c12) h
    refine r_movD R R R (r_ldR tb R R R R R R R R R (r_fa tb R R R R R R R (r_ldD (y := .v (.int .i64 o.what)) tb R R R R R R R R R ?_)))
    obtain ⟨rv13, hrv13, h⟩ := bnd h
    refine r_callL (pad_scene_crowd_pc hrv13) R (.of (by kernel_rfl)) R R ((.cons (.ref R (.aggL (.cons (.d _) (.cons (.d _) (.cons (.d _) (.cons (.d _) (.cons (.d _) (.cons (.d _) (.cons (.d _) (.cons (.d _) (.cons (.row R R) (.cons (.row R R) (.cons (.row R R) (.cons (.d _) (.cons (.d _) .nil))))))))))))))) (.cons (.d _) .nil))) R R (r_ldR tb R R R R R R R R R (r_nilRef R R R (r_fa tb R R R R R R R (r_fa tb R R R R R R R ?_))))
    refine r_ldD (y := .arr 8 ((t.p_Zones).map PdZone.d)) tb R R R R R R R R R (r_fa tb R R R R R R R (r_ldD (y := .v (.int .i64 o.what)) tb R R R R R R R R R ?_))
    obtain ⟨e11, ie11, h⟩ := bnd h
    refine r_ixE tb R R R R R R (ix0 ie11) (ix1m ie11) R R (r_faE tb R R R R R R R (r_ldE (y := .v (.int .i64 e11.room)) tb R R (ix2 (g := PdZone.d) ie11) R R R R (r_leqV R R R R (r_pickF R R R R ?_))))
    obtain ⟨rv14, hrv14, h⟩ := bnd h
    rcases ex_or rv14 with ⟨x12, nv9⟩ | ⟨v9, nv9⟩
    ·replace h := (exN nv9).symm.trans h
     refine ev_panD (by kernel_rfl) (by kernel_rfl) ?_
     (with_reducible apply op_call []); exact (pad_demand_scx hrv14).err nv9; exact rfl; exact .of (by kernel_rfl); exact rfl; exact .inl ⟨rfl, rfl, rfl⟩; (iterate 4 exact rfl); exact .nil; exact rfl
     intro cnt
     refine then_pan ?_
     obtain rfl := sI h
     exact fin_pX (L := [some ⟨13, [Scene_T1 {t with pdState_Zones := A} 1 2 3]⟩, some (lvI A), some (lvI t.pdState_Holder), some (lvI t.pdState_Squibs)]) (κ := [0, 1, 2, 3]) (vwK R R (.cons R R (.row R (.row R (.row R .nil)))) .nil) (.inr ⟨_, R, R⟩)
    replace h := (exO nv9).symm.trans h
    refine r_callO (t' := .d (.tup [])) (ls := []) (news := []) ([]) ([some ⟨13, [Scene_T1 {t with pdState_Zones := A} 1 2 3]⟩, some (lvI A), some (lvI t.pdState_Holder), some (lvI t.pdState_Squibs), some ⟨1, [.ref 0 13 0 0]⟩, some ⟨5, [.d (PdAct.d o)]⟩, some (lvI y)]) ((pad_demand_scx hrv14).ok nv9) (.of (by kernel_rfl)) R (.inl ⟨R, R, R⟩) R R R R .nil R R R .nil .nil R R R R (ev_endPD (by kernel_rfl) (then_norm ?_))
    exact .inl ⟨(), h, .vw (κ := [0, 1, 2, 3, 4, 5]) (vwK R R (.cons R R (.row R (.row R (.row R (.cons R R (.cons R R .nil)))))) (.cons R R (.cons R R (.cons R R .nil))))⟩
   refine swm_of fun df => ?_
   refine qG (r_fa tb R R R R R R R (r_ldD (y := .v (.int .i64 o.with_)) tb R R R R R R R R R ?_))
   refine r_geq R R R R ?_ ?_
   ·intro c4
    replace h := ifP c4 h
    refine eN (sw_condT R (sw_rg (r_movW R R R (r_fa tb R R R R R R R (r_ldD (y := .v (.int .i64 o.with_)) tb R R R R R R R R R (r_bslice tb R R R R R R R R R R R R R ?_))))))
    obtain ⟨q, iq, h⟩ := bnd h
    refine r_apM (g := vI) (w := [o.who]) (v := [o.with_]) ([some ⟨13, [Scene_T1 t 1 2 3]⟩, some (lvI t.pdState_Zones), some (lvI t.pdState_Holder), some (lvI t.pdState_Squibs), some ⟨1, [.ref 0 13 0 0]⟩, some ⟨5, [.d (PdAct.d o)]⟩, none, some (lvI [o.with_])]) tb R R R R R R R R R R R iq R R R R R (r_asgW R R R (eN ?_))
    exact .inl ⟨q, h, .vw (κ := [0, 1, 2, 3, 4, 5, 8]) (vwK R R (.cons R R (.row R (.row R (.row R (.cons R R (.cons R R (.row R .nil))))))) (.cons R R (.cons R R (.cons R R (.cons R R .nil)))))⟩
   intro c4
   replace h := ifN (Int.not_le.2 c4) h
   refine eN (sw_condF R (sw_skip (then_norm ?_)))
   exact .inl ⟨[o.who], h, .vw (κ := [0, 1, 2, 3, 4, 5, 6]) (vwK R R (.cons R R (.row R (.row R (.row R (.cons R R (.cons R R (.row R .nil))))))) (.cons R R (.cons R R (.cons R R (.cons R R .nil)))))⟩
  refine swm_of fun df => ?_
  refine sw_drP (by kernel_rfl) (r_movD R R R (r_movD R R R (r_fa tb R R R R R R R (r_ldD (y := .v (.int .i64 o.with_)) tb R R R R R R R R R ?_))))
  refine r_lss R R R R ?_ ?_
  ·intro c3
   replace h := ifP c3 h
   refine r_movD R R R (r_skip R R R (r_skip R R R (r_skip R R R (r_skip R R R (r_skip R R R (r_skip R R R (r_skip R R R (r_skip R R R (r_skip R R R (r_skip R R R (r_skip R R R (r_pickT R R R R (r_pickT R R R R ?_)))))))))))))
   obtain ⟨rv3, hrv3, h⟩ := bnd h
   rcases ex_or rv3 with ⟨x, nv⟩ | ⟨v, nv⟩
   ·replace h := (exN nv).symm.trans h
    refine ev_panD (by kernel_rfl) (by kernel_rfl) ?_
    (with_reducible apply op_call []); exact (pad_demand_scx hrv3).err nv; exact rfl; exact .of (by kernel_rfl); exact rfl; exact .inl ⟨rfl, rfl, rfl⟩; (iterate 4 exact rfl); exact .nil; exact rfl
    intro cnt
    refine then_pan ?_
    obtain rfl := sI h
    exact fin_pX (L := [some ⟨13, [Scene_T1 t 1 2 3]⟩, some (lvI t.pdState_Zones), some (lvI t.pdState_Holder), some (lvI t.pdState_Squibs)]) (κ := [0, 1, 2, 3]) (vwK R R (.cons R R (.row R (.row R (.row R .nil)))) .nil) (.inr ⟨_, R, R⟩)
   replace h := (exO nv).symm.trans h
   refine r_callO (t' := .d (.tup [])) (ls := []) (news := []) ([]) ([some ⟨13, [Scene_T1 t 1 2 3]⟩, some (lvI t.pdState_Zones), some (lvI t.pdState_Holder), some (lvI t.pdState_Squibs), some ⟨1, [.ref 0 13 0 0]⟩, some ⟨5, [.d (PdAct.d o)]⟩]) ((pad_demand_scx hrv3).ok nv) (.of (by kernel_rfl)) R (.inl ⟨R, R, R⟩) R R R R .nil R R R .nil .nil R R R R (ev_endPD (by kernel_rfl) (then_norm ?_))
   exact .inl ⟨(), h, .prn [2, 3, 4] R⟩
  intro c3
  replace h := ifN (Int.not_lt.2 c3) h
  refine r_movD R R R (r_ldR tb R R R R R R R R R (r_nilRef R R R (r_fa tb R R R R R R R (r_fa tb R R R R R R R (r_ldW tb R R R R R R R R R (r_fa tb R R R R R R R (r_ldD (y := .v (.int .i64 o.with_)) tb R R R R R R R R R ?_)))))))
  obtain ⟨e2, ie2, h⟩ := bnd h
  refine r_ixI tb R R R R R R (ix0 ie2) (ix1 ie2) R R ?_
  refine r_ldD (y := .v (.int .i64 e2)) tb R R R R (ix2 (g := fun a => T.d (vI a)) ie2) R R R R ?_
  refine r_movD R R R (r_eqlV R R R R (r_pickF R R R R (r_pickT R R R R ?_)))
  obtain ⟨rv4, hrv4, h⟩ := bnd h
  rcases ex_or rv4 with ⟨x2, nv2⟩ | ⟨v2, nv2⟩
  ·replace h := (exN nv2).symm.trans h
   refine ev_panD (by kernel_rfl) (by kernel_rfl) ?_
   (with_reducible apply op_call []); exact (pad_demand_scx hrv4).err nv2; exact rfl; exact .of (by kernel_rfl); exact rfl; exact .inl ⟨rfl, rfl, rfl⟩; (iterate 4 exact rfl); exact .nil; exact rfl
   intro cnt
   refine then_pan ?_
   obtain rfl := sI h
   exact fin_pX (L := [some ⟨13, [Scene_T1 t 1 2 3]⟩, some (lvI t.pdState_Zones), some (lvI t.pdState_Holder), some (lvI t.pdState_Squibs)]) (κ := [0, 1, 2, 3]) (vwK R R (.cons R R (.row R (.row R (.row R .nil)))) .nil) (.inr ⟨_, R, R⟩)
  replace h := (exO nv2).symm.trans h
  refine r_callO (t' := .d (.tup [])) (ls := []) (news := []) ([]) ([some ⟨13, [Scene_T1 t 1 2 3]⟩, some (lvI t.pdState_Zones), some (lvI t.pdState_Holder), some (lvI t.pdState_Squibs), some ⟨1, [.ref 0 13 0 0]⟩, some ⟨5, [.d (PdAct.d o)]⟩]) ((pad_demand_scx hrv4).ok nv2) (.of (by kernel_rfl)) R (.inl ⟨R, R, R⟩) R R R R .nil R R R .nil .nil R R R R (ev_endPD (by kernel_rfl) (then_norm ?_))
  exact .inl ⟨(), h, .prn [2, 3, 4] R⟩
 refine swm_of fun df => ?_
 refine sw_dr (by kernel_rfl) (r_ldR tb R R R R R R R R R (r_nilRef R R R (r_fa tb R R R R R R R (r_fa tb R R R R R R R (r_ldD (y := .arr 2 ((t.p_Doors).map PdDoor.d)) tb R R R R R R R R R (r_movD R R R (r_fa tb R R R R R R R (r_ldD (y := .v (.int .i64 o.what)) tb R R R R R R R R R (r_build (v := .d (.agg [.v (.int .i64 e), .v (.int .i64 o.what)])) tb R R (List.cons_ne_nil _ _) R R R R R R ?_)))))))))
 obtain ⟨rv, hrv, h⟩ := bnd h
 refine r_callB (slices_Contains_PdDoor_pc hrv) (.of (by kernel_rfl)) R R R R ?_ ?_
 ·intro c
  replace h := ifP c h
  refine r_movD R R R (r_skip R R R (r_skip R R R (r_skip R R R (r_skip R R R (r_skip R R R (r_skip R R R (r_skip R R R (r_skip R R R (r_skip R R R (r_skip R R R (r_pickT R R R R (r_asgD R R R (ev_endD (by kernel_rfl) (then_norm ?_))))))))))))))
  exact .inl ⟨(), h, .prn [2, 3, 4, 5] R⟩
 intro c
 replace h := ifF c h
 refine r_movD R R R (r_ldR tb R R R R R R R R R (r_nilRef R R R (r_fa tb R R R R R R R (r_fa tb R R R R R R R (r_ldD (y := .arr 2 ((t.p_Doors).map PdDoor.d)) tb R R R R R R R R R (r_fa tb R R R R R R R (r_ldD (y := .v (.int .i64 o.what)) tb R R R R R R R R R (r_movD R R R (r_build (v := .d (.agg [.v (.int .i64 o.what), .v (.int .i64 e)])) tb R R (List.cons_ne_nil _ _) R R R R R R ?_)))))))))
 obtain ⟨rv2, hrv2, h⟩ := bnd h
 refine r_callB (slices_Contains_PdDoor_pc hrv2) (.of (by kernel_rfl)) R R R R ?_ ?_
 ·intro c2
  replace h := ifP c2 h
  refine r_pickF R R R R (r_asgD R R R (ev_endD (by kernel_rfl) (then_norm ?_)))
  exact .inl ⟨(), h, .prn [2, 3, 4, 5] R⟩
 intro c2
 replace h := ifF c2 h
 refine r_pickF R R R R (r_asgD R R R (ev_endD (by kernel_rfl) (then_norm (.inr (swm_seq ?_)))))
 refine swm_of fun df => ?_
 refine sw_drP (by kernel_rfl) (r_movD R R R (r_movD R R R (r_skip R R R (r_skip R R R (r_skip R R R (r_skip R R R (r_skip R R R (r_skip R R R (r_skip R R R (r_skip R R R (r_skip R R R (r_skip R R R (r_skip R R R (r_skip R R R (r_skip R R R (r_skip R R R (r_skip R R R (r_skip R R R (r_pickF R R R R ?_)))))))))))))))))))
 obtain ⟨rv3, hrv3, h⟩ := bnd h
 rcases ex_or rv3 with ⟨x, nv⟩ | ⟨v, nv⟩
 ·replace h := (exN nv).symm.trans h
  refine ev_panD (by kernel_rfl) (by kernel_rfl) ?_
  (with_reducible apply op_call []); exact (pad_demand_scx hrv3).err nv; exact rfl; exact .of (by kernel_rfl); exact rfl; exact .inl ⟨rfl, rfl, rfl⟩; (iterate 4 exact rfl); exact .nil; exact rfl
  intro cnt
  refine then_pan ?_
  obtain rfl := sI h
  exact fin_pX (L := [some ⟨13, [Scene_T1 t 1 2 3]⟩, some (lvI t.pdState_Zones), some (lvI t.pdState_Holder), some (lvI t.pdState_Squibs)]) (κ := [0, 1, 2, 3]) (vwK R R (.cons R R (.row R (.row R (.row R .nil)))) .nil) (.inr ⟨_, R, R⟩)
 replace h := (exO nv).symm.trans h
 refine r_callO (t' := .d (.tup [])) (ls := []) (news := []) ([]) ([some ⟨13, [Scene_T1 t 1 2 3]⟩, some (lvI t.pdState_Zones), some (lvI t.pdState_Holder), some (lvI t.pdState_Squibs), some ⟨1, [.ref 0 13 0 0]⟩, some ⟨5, [.d (PdAct.d o)]⟩]) ((pad_demand_scx hrv3).ok nv) (.of (by kernel_rfl)) R (.inl ⟨R, R, R⟩) R R R R .nil R R R .nil .nil R R R R (ev_endPD (by kernel_rfl) (then_norm (swm_seq ?_)))
 refine swm_of fun df => ?_
 refine sw_rg (r_fa tb R R R R R R R (r_ldD (y := .v (.int .i64 o.who)) tb R R R R R R R R R (r_bslice tb R R R R R R R R R R R R R (r_asgW R R R (eN (swm_seq ?_))))))
 refine swm_join (fun zz : (List Int) => pad_scene_move_m_J14 F t o e zz = some r) (fun zz : (List Int) => ⟨[(2, .ref 4 1 0 0), (3, .ref 5 5 0 0), (4, .d (.v (.int .i64 e))), (6, .row 6 1 0 (zz).length)], [some ⟨13, [Scene_T1 t 1 2 3]⟩, some (lvI t.pdState_Zones), some (lvI t.pdState_Holder), some (lvI t.pdState_Squibs), some ⟨1, [.ref 0 13 0 0]⟩, some ⟨5, [.d (PdAct.d o)]⟩, some (lvI zz)]⟩) ?_ ?_
 ·clear h
  rintro y h
  rw [pad_scene_move_m_J14] at h
  refine swm_seq (swm_seq ?_)
  refine swm_of fun df => ?_
  refine sw_rg (r_movW R R R (r_lenR tb R R R R R (r_movD R R R (eN (swm_block ?_)))))
  obtain ⟨K55, hK55, h⟩ : ∃ K, K = _ ∧ pad_scene_move_m_L9 F t o y K F 0 = some r := ⟨_, rfl, h⟩
  refine swm_loop (st0 := ⟨[(2, .ref 4 1 0 0), (3, .ref 5 5 0 0), (4, .d (.v (.int .i64 e))), (6, .row 6 1 0 (y).length), (74, .row 6 1 0 (y).length), (75, .d (.v (.int .i64 (y.length : Int)))), (76, .d (.v (.int .i64 0)))], [some ⟨13, [Scene_T1 t 1 2 3]⟩, some (lvI t.pdState_Zones), some (lvI t.pdState_Holder), some (lvI t.pdState_Squibs), some ⟨1, [.ref 0 13 0 0]⟩, some ⟨5, [.d (PdAct.d o)]⟩, some (lvI y)]⟩) (κ := [0, 1, 2, 3, 4, 5, 6]) (fun m st => ∃ (x2 : Int), pad_scene_move_m_L9 F t o y K55 m x2 = some r ∧ st = ⟨[(2, .ref 4 1 0 0), (3, .ref 5 5 0 0), (4, .d (.v (.int .i64 e))), (6, .row 6 1 0 (y).length), (74, .row 6 1 0 (y).length), (75, .d (.v (.int .i64 (y.length : Int)))), (76, .d (.v (.int .i64 x2)))], [some ⟨13, [Scene_T1 t 1 2 3]⟩, some (lvI t.pdState_Zones), some (lvI t.pdState_Holder), some (lvI t.pdState_Squibs), some ⟨1, [.ref 0 13 0 0]⟩, some ⟨5, [.d (PdAct.d o)]⟩, some (lvI y)]⟩) (vwK R R (.cons R R (.row R (.row R (.row R (.cons R R (.cons R R (.row R .nil))))))) (.cons R R (.cons R R (.cons R R (.cons R R (.cons R R (.cons R R (.cons R R .nil)))))))) ⟨0, h, R⟩ ?_
  clear h
  rintro m55 st ⟨x2, h, rfl⟩
  cases m55 with
  | zero => cases (show (none : Option (Except Int Scene)) = some r from h)
  | succ m55 =>
  rw [pad_scene_move_m_L9] at h
  refine swm_seq ?_
  refine swm_of fun df => ?_
  refine sw_rg ?_
  refine r_lss R R R R ?_ ?_
  ·intro c4
   replace h := ifP c4 h
   refine eN (swm_seq ?_)
   refine swm_of fun df => ?_
   refine sw_condT R (sw_skip (then_norm (swm_seq (swm_block (swm_seq ?_)))))
   refine swm_of fun df => ?_
   refine sw_rg ?_
   obtain ⟨e2, ie2, h⟩ := bnd h
   refine r_ixI tb R R R R R R (ix0 ie2) (ix1 ie2) R R ?_
   refine r_ldD (y := .v (.int .i64 e2)) tb R R R R (ix2 (g := fun a => T.d (vI a)) ie2) R R R R ?_
   refine r_asgD R R R (eN (swm_seq ?_))
   refine swm_join (fun zz : Unit => pad_scene_move_m_J12 F (pad_scene_move_m_L9 F t o y K55 m55) t o x2 e2 = some r) (fun zz : Unit => ⟨[(2, .ref 4 1 0 0), (3, .ref 5 5 0 0), (4, .d (.v (.int .i64 e))), (6, .row 6 1 0 (y).length), (8, .d (.v (.int .i64 e2))), (74, .row 6 1 0 (y).length), (75, .d (.v (.int .i64 (y.length : Int)))), (76, .d (.v (.int .i64 x2)))], [some ⟨13, [Scene_T1 t 1 2 3]⟩, some (lvI t.pdState_Zones), some (lvI t.pdState_Holder), some (lvI t.pdState_Squibs), some ⟨1, [.ref 0 13 0 0]⟩, some ⟨5, [.d (PdAct.d o)]⟩, some (lvI y)]⟩) ?_ ?_
   ·clear h
    rintro ⟨⟩ h
    rw [pad_scene_move_m_J12] at h
    refine swm_seq ?_
    refine swm_join (fun zz : Unit => pad_scene_move_m_J11 F (pad_scene_move_m_L9 F t o y K55 m55) t o x2 e2 = some r) (fun zz : Unit => ⟨[(2, .ref 4 1 0 0), (3, .ref 5 5 0 0), (4, .d (.v (.int .i64 e))), (6, .row 6 1 0 (y).length), (8, .d (.v (.int .i64 e2))), (74, .row 6 1 0 (y).length), (75, .d (.v (.int .i64 (y.length : Int)))), (76, .d (.v (.int .i64 x2)))], [some ⟨13, [Scene_T1 t 1 2 3]⟩, some (lvI t.pdState_Zones), some (lvI t.pdState_Holder), some (lvI t.pdState_Squibs), some ⟨1, [.ref 0 13 0 0]⟩, some ⟨5, [.d (PdAct.d o)]⟩, some (lvI y)]⟩) ?_ ?_
    ·clear h
     rintro ⟨⟩ h
     rw [pad_scene_move_m_J11] at h
     refine swm_of fun df => ?_
     refine sw_rgP (r_ldR tb R R R R R R R R R (r_movD R R R (r_fa tb R R R R R R R (r_ldD (y := .v (.int .i64 o.what)) tb R R R R R R R R R ?_))))
     obtain ⟨rv9, hrv9, h⟩ := bnd h
     refine r_callL (pad_scene_keyed_pc hrv9) R (.of (by kernel_rfl)) R R ((.cons (.ref R (.aggL (.cons (.d _) (.cons (.d _) (.cons (.d _) (.cons (.d _) (.cons (.d _) (.cons (.d _) (.cons (.d _) (.cons (.d _) (.cons (.row R R) (.cons (.row R R) (.cons (.row R R) (.cons (.d _) (.cons (.d _) .nil))))))))))))))) (.cons (.d _) (.cons (.d _) .nil)))) R R ?_
     obtain ⟨rv10, hrv10, h⟩ := bnd h
     rcases ex_or rv10 with ⟨x8, nv6⟩ | ⟨v6, nv6⟩
     ·replace h := (exN nv6).symm.trans h
      refine ev_pan ?_
      (with_reducible apply op_call []); exact (pad_demand_scx hrv10).err nv6; exact rfl; exact .of (by kernel_rfl); exact rfl; exact .inl ⟨rfl, rfl, rfl⟩; (iterate 4 exact rfl); exact .nil; exact rfl
      intro cnt
      refine block_pan (then_pan (then_pan (block_pan (then_pan ?_))))
      obtain rfl := sI h
      exact fin_pX (L := [some ⟨13, [Scene_T1 t 1 2 3]⟩, some (lvI t.pdState_Zones), some (lvI t.pdState_Holder), some (lvI t.pdState_Squibs)]) (κ := [0, 1, 2, 3]) (vwK R R (.cons R R (.row R (.row R (.row R .nil)))) .nil) (.inr ⟨_, R, R⟩)
     replace h := (exO nv6).symm.trans h
     refine r_callO (t' := .d (.tup [])) (ls := []) (news := []) ([]) ([some ⟨13, [Scene_T1 t 1 2 3]⟩, some (lvI t.pdState_Zones), some (lvI t.pdState_Holder), some (lvI t.pdState_Squibs), some ⟨1, [.ref 0 13 0 0]⟩, some ⟨5, [.d (PdAct.d o)]⟩, some (lvI y)]) ((pad_demand_scx hrv10).ok nv6) (.of (by kernel_rfl)) R (.inl ⟨R, R, R⟩) R R R R .nil R R R .nil .nil R R R R (ev_endP (block_norm (then_norm ?_)))
     refine swm_of fun df => ?_
     refine sw_rg (r_add R R R R (r_movD R R R (eN ?_)))
     exact ⟨m55, ⟨[(2, .ref 4 1 0 0), (3, .ref 5 5 0 0), (4, .d (.v (.int .i64 e))), (6, .row 6 1 0 (y).length), (74, .row 6 1 0 (y).length), (75, .d (.v (.int .i64 (y.length : Int)))), (76, .d (.v (.int .i64 (W (x2 + 1)))))], [some ⟨13, [Scene_T1 t 1 2 3]⟩, some (lvI t.pdState_Zones), some (lvI t.pdState_Holder), some (lvI t.pdState_Squibs), some ⟨1, [.ref 0 13 0 0]⟩, some ⟨5, [.d (PdAct.d o)]⟩, some (lvI y)]⟩, [0, 1, 2, 3, 4, 5, 6], Nat.lt_succ_self _, (vwK R R (.cons R R (.row R (.row R (.row R (.cons R R (.cons R R (.row R .nil))))))) (.cons R R (.cons R R (.cons R R (.cons R R (.cons R R (.cons R R (.cons R R .nil)))))))), (W (x2 + 1)), h, R⟩
    refine swm_seq ?_
    refine swm_of fun df => ?_
    refine sw_dr (by kernel_rfl) (r_ldR tb R R R R R R R R R (r_nilRef R R R (r_fa tb R R R R R R R (r_ldD (y := .agg [.arr 8 ((t.p_Zones).map PdZone.d), .arr 2 ((t.p_Doors).map PdDoor.d), .arr 2 ((t.p_People).map PdPerson.d), .arr 1 ((t.p_Keys).map vS), .arr 6 ((t.p_Squibs).map PdSquib.d), .v (.int .i64 t.p_Panel), .v (.int .i64 t.p_Wait)]) tb R R R R R R R R R (r_fa tb R R R R R R R (r_ldD (y := .v (.int .i64 o.what)) tb R R R R R R R R R ?_))))))
    obtain ⟨rv6, hrv6, h⟩ := bnd h
    refine r_callN (t' := .fn (.func 78) [] [.ref 7 1 0 0, .ref 8 7 0 0]) (news' := [⟨1, [.d (.v (.int .i64 rv6.1))]⟩, ⟨7, [.d (PdPad.d rv6.2)]⟩]) (pad_near_scr hrv6) (.of (by kernel_rfl)) R R R ((.cons R (.cons R .nil))) R R R (ev_endD (by kernel_rfl) (then_norm (swm_block ?_)))
    refine swm_range (.of (by kernel_rfl)) Try.func78 R R R R R R fun lb => ?_
    simp only [argS, Nat.zero_add, Nat.reduceAdd]
    refine swj_seq (swj_seq (swj_rg (rgj_ev (r_ldD (y := .v (.int .i64 rv6.1)) tb R R R R R R R R R ?_))))
    refine r_lss R R R R ?_ ?_
    ·intro c6
     replace h := ifP c6 h
     refine ev_endJ (thenj_norm (swj_condT R (swj_ret (thenj_ret ?_))))
     refine ⟨R, [some ⟨13, [Scene_T1 t 1 2 3]⟩, some (lvI t.pdState_Zones), some (lvI t.pdState_Holder), some (lvI t.pdState_Squibs), some ⟨1, [.ref 0 13 0 0]⟩, some ⟨5, [.d (PdAct.d o)]⟩, some (lvI y), some ⟨1, [.d (.v (.int .i64 rv6.1))]⟩, some ⟨7, [.d (PdPad.d rv6.2)]⟩], [0, 1, 2, 3, 4, 5, 6, 7, 8], (vwK R R (.cons R R (.row R (.row R (.row R (.cons R R (.cons R R (.row R (.cons R R (.cons R R .nil))))))))) .nil), ?_⟩
     refine block_norm (then_norm ?_)
     exact .inl ⟨(), h, .vw (κ := [0, 1, 2, 3, 4, 5, 6]) (vwK R R (.cons R R (.row R (.row R (.row R (.cons R R (.cons R R (.row R .nil))))))) (.cons R R (.cons R R (.cons R R (.cons R R (.cons R R (.cons R R (.cons R R (.cons R R .nil)))))))))⟩
    intro c6
    replace h := ifN (Int.not_lt.2 c6) h
    refine ev_endJ (thenj_norm (swj_condF R (swj_skip (thenj_norm (swj_seq (swj_rg (rgj_ev (r_fa tb R R R R R R R (r_ldD (y := .arr 8 ((rv6.2.zones).map PdZone.d)) tb R R R R R R R R R (r_ldD (y := .v (.int .i64 rv6.1)) tb R R R R R R R R R ?_))))))))))
    obtain ⟨e5, ie5, h⟩ := bnd h
    refine r_ixE tb R R R R R R (ix0 ie5) (ix1m ie5) R R (r_faE tb R R R R R R R (r_ldE (y := .agg [.v (.int .i64 e5.area_X_Lo), .v (.int .i64 e5.area_X_Hi), .v (.int .i64 e5.area_Y_Lo), .v (.int .i64 e5.area_Y_Hi)]) tb R R (ix2 (g := PdZone.d) ie5) R R R R (r_alloc tb R R R R R ?_)))
    refine r_stE _ ([some ⟨13, [Scene_T1 t 1 2 3]⟩, some (lvI t.pdState_Zones), some (lvI t.pdState_Holder), some (lvI t.pdState_Squibs), some ⟨1, [.ref 0 13 0 0]⟩, some ⟨5, [.d (PdAct.d o)]⟩, some (lvI y), some ⟨1, [.d (.v (.int .i64 rv6.1))]⟩, some ⟨7, [.d (PdPad.d rv6.2)]⟩, some ⟨4, [.d (.agg [.v (.int .i64 e5.area_X_Lo), .v (.int .i64 e5.area_X_Hi), .v (.int .i64 e5.area_Y_Lo), .v (.int .i64 e5.area_Y_Hi)])]⟩]) tb R R R R R R R R R R R R (ev_endJ (thenj_norm (swj_seq (swj_rg (rgj_ev (r_fa tb R R R R R R R ?_))))))
    refine r_ldD (y := .arr 6 ((rv6.2.squibs).map PdSquib.d)) tb R R R R R R R R R (r_lenM tb R R R R R (r_movD R R R (ev_endJ (thenj_norm (swj_block ?_)))))
    obtain ⟨K62, hK62, h⟩ : ∃ K, K = _ ∧ pad_scene_move_m_L7 F t rv6 e5 K F 0 = some r := ⟨_, rfl, h⟩
    refine swj_loop (st0 := ⟨[(0, .d (.v (.func (.yield lb) #[] #[]))), (4, .ref 9 4 0 0), (18, .d (.arr 6 ((rv6.2.squibs).map PdSquib.d))), (19, .d (.v (.int .i64 (rv6.2.squibs.length : Int)))), (20, .d (.v (.int .i64 0)))], [some ⟨13, [Scene_T1 t 1 2 3]⟩, some (lvI t.pdState_Zones), some (lvI t.pdState_Holder), some (lvI t.pdState_Squibs), some ⟨1, [.ref 0 13 0 0]⟩, some ⟨5, [.d (PdAct.d o)]⟩, some (lvI y), some ⟨1, [.d (.v (.int .i64 rv6.1))]⟩, some ⟨7, [.d (PdPad.d rv6.2)]⟩, some ⟨4, [.d (.agg [.v (.int .i64 e5.area_X_Lo), .v (.int .i64 e5.area_X_Hi), .v (.int .i64 e5.area_Y_Lo), .v (.int .i64 e5.area_Y_Hi)])]⟩]⟩) (κ := [0, 1, 2, 3, 4, 5, 6, 7, 8, 9]) (fun m ph st => ∃ (x5 : Int), pad_scene_move_m_L7 F t rv6 e5 K62 m x5 = some r ∧ ph = SX.norm ∧ st = ⟨[(0, .d (.v (.func (.yield lb) #[] #[]))), (4, .ref 9 4 0 0), (18, .d (.arr 6 ((rv6.2.squibs).map PdSquib.d))), (19, .d (.v (.int .i64 (rv6.2.squibs.length : Int)))), (20, .d (.v (.int .i64 x5)))], [some ⟨13, [Scene_T1 t 1 2 3]⟩, some (lvI t.pdState_Zones), some (lvI t.pdState_Holder), some (lvI t.pdState_Squibs), some ⟨1, [.ref 0 13 0 0]⟩, some ⟨5, [.d (PdAct.d o)]⟩, some (lvI y), some ⟨1, [.d (.v (.int .i64 rv6.1))]⟩, some ⟨7, [.d (PdPad.d rv6.2)]⟩, some ⟨4, [.d (.agg [.v (.int .i64 e5.area_X_Lo), .v (.int .i64 e5.area_X_Hi), .v (.int .i64 e5.area_Y_Lo), .v (.int .i64 e5.area_Y_Hi)])]⟩]⟩) (vwK R R (.cons R R (.row R (.row R (.row R (.cons R R (.cons R R (.row R (.cons R R (.cons R R (.cons R R .nil)))))))))) (.cons R R (.cons R R (.cons R R (.cons R R (.cons R R .nil)))))) ⟨0, h, R, R⟩ ?_
    clear h
    rintro m62 ph st ⟨x5, h, rfl, rfl⟩
    cases m62 with
    | zero => cases (show (none : Option (Except Int Scene)) = some r from h)
    | succ m62 =>
    rw [pad_scene_move_m_L7] at h
    refine swj_seq (swj_rg (rgj_ev ?_))
    refine r_lss R R R R ?_ ?_
    ·intro c7
     replace h := ifP c7 h
     refine ev_endJ (thenj_norm (swj_seq (swj_condT R (swj_skip (thenj_norm (swj_seq (swj_block (swj_seq (swj_rg (rgj_ev (r_movD R R R ?_)))))))))))
     obtain ⟨e6, ie6, h⟩ := bnd h
     refine r_ixE tb R R R R R R (ix0 ie6) (ix1m ie6) R R (r_ldE (y := PdSquib.d e6) tb R R (ix2 (g := PdSquib.d) ie6) R R R R (r_alloc tb R R R R R (r_asgD R R R ?_)))
     refine r_stE _ ([some ⟨13, [Scene_T1 t 1 2 3]⟩, some (lvI t.pdState_Zones), some (lvI t.pdState_Holder), some (lvI t.pdState_Squibs), some ⟨1, [.ref 0 13 0 0]⟩, some ⟨5, [.d (PdAct.d o)]⟩, some (lvI y), some ⟨1, [.d (.v (.int .i64 rv6.1))]⟩, some ⟨7, [.d (PdPad.d rv6.2)]⟩, some ⟨4, [.d (.agg [.v (.int .i64 e5.area_X_Lo), .v (.int .i64 e5.area_X_Hi), .v (.int .i64 e5.area_Y_Lo), .v (.int .i64 e5.area_Y_Hi)])]⟩, some ⟨6, [.d (PdSquib.d e6)]⟩]) tb R R R R R R R R R R R R (ev_endJ (thenj_norm (swj_seq (swj_of (sw_dr (by kernel_rfl) ?_)))))
     refine r_fa tb R R R R R R R (r_fa tb R R R R R R R (r_ldD (y := .v (.int .i64 e5.area_X_Lo)) tb R R R R R R R R R (r_fa tb R R R R R R R (r_fa tb R R R R R R R (r_ldD (y := .v (.int .i64 e6.at_X)) tb R R R R R R R R R (r_sub R R R R (r_fa tb R R R R R R R (r_fa tb R R R R R R R (r_ldD (y := .v (.int .i64 e6.at_X)) tb R R R R R R R R R (r_fa tb R R R R R R R (r_fa tb R R R R R R R ?_)))))))))))
     refine r_ldD (y := .v (.int .i64 e5.area_X_Hi)) tb R R R R R R R R R (r_sub R R R R (r_max3 R R R R R (r_fa tb R R R R R R R (r_fa tb R R R R R R R (r_ldD (y := .v (.int .i64 e5.area_Y_Lo)) tb R R R R R R R R R (r_fa tb R R R R R R R (r_fa tb R R R R R R R (r_ldD (y := .v (.int .i64 e6.at_Y)) tb R R R R R R R R R (r_sub R R R R (r_fa tb R R R R R R R (r_fa tb R R R R R R R ?_)))))))))))
     refine r_ldD (y := .v (.int .i64 e6.at_Y)) tb R R R R R R R R R (r_fa tb R R R R R R R (r_fa tb R R R R R R R (r_ldD (y := .v (.int .i64 e5.area_Y_Hi)) tb R R R R R R R R R (r_sub R R R R (r_max3 R R R R R (r_asgD R R R (r_asgD R R R (ev_endD (by kernel_rfl) (thenj_norm (swj_seq (swj_rg (rgj_ev (r_movD R R R (r_movD R R R (r_mul R R R R (r_movD R R R (r_movD R R R (r_mul R R R R (r_add R R R R ?_)))))))))))))))))))
     refine r_fa tb R R R R R R R (r_ldD (y := .v (.int .i64 e6.clear)) tb R R R R R R R R R (r_fa tb R R R R R R R (r_ldD (y := .v (.int .i64 e6.clear)) tb R R R R R R R R R (r_mul R R R R ?_))))
     refine r_lss R R R R ?_ ?_
     ·intro c8
      replace h := ifP c8 h
      refine r_movD R R R (r_movD R R R (r_movD R R R (ev_yieldJ ?_)))
      (with_reducible apply rgj_yield (ys := [.v (.int .i64 x5)])); (iterate 7 exact rfl)
      dsimp only [parS]
      refine sw_rg (r_asgD R R R (ev_end ?_))
      refine ⟨R, ?_⟩
      with_reducible apply swy_block
      with_reducible apply swy_rg
      refine r_ldR tb R R R R R R R R R (r_nilRef R R R (r_fa tb R R R R R R R (r_fa tb R R R R R R R (r_ldD (y := .v (.bool t.pdState_Storm)) tb R R R R R R R R R ?_))))
      with_reducible apply ev_lit
      ·intro c9
       replace h := ifP c9 h
       refine r_notT R R R (r_movD R R R (r_ldR tb R R R R R R R R R (r_nilRef R R R (r_fa tb R R R R R R R (r_fa tb R R R R R R R (r_ldW tb R R R R R R R R R (r_movD R R R ?_)))))))
       obtain ⟨e7, ie7, h⟩ := bnd h
       refine r_ixI tb R R R R R R (ix0 ie7) (ix1 ie7) R R ?_
       refine r_ldD (y := .v (.int .i64 e7)) tb R R R R (ix2 (g := fun a => T.d (vI a)) ie7) R R R R ?_
       refine r_eqlV R R R R (r_pickF R R R R ?_)
       obtain ⟨rv7, hrv7, h⟩ := bnd h
       rcases ex_or rv7 with ⟨x6, nv4⟩ | ⟨v4, nv4⟩
       ·replace h := (exN nv4).symm.trans h
        refine ev_pan ?_
        (with_reducible apply op_call []); exact (pad_demand_scx hrv7).err nv4; exact rfl; exact .of (by kernel_rfl); exact rfl; exact .inl ⟨rfl, rfl, rfl⟩; (iterate 4 exact rfl); exact .nil; exact rfl
        intro cnt
        refine block_pan ?_
        refine ⟨[some ⟨13, [Scene_T1 t 1 2 3]⟩, some (lvI t.pdState_Zones), some (lvI t.pdState_Holder), some (lvI t.pdState_Squibs), some ⟨1, [.ref 0 13 0 0]⟩, some ⟨5, [.d (PdAct.d o)]⟩, some (lvI y), some ⟨1, [.d (.v (.int .i64 rv6.1))]⟩, some ⟨7, [.d (PdPad.d rv6.2)]⟩, some ⟨4, [.d (.agg [.v (.int .i64 e5.area_X_Lo), .v (.int .i64 e5.area_X_Hi), .v (.int .i64 e5.area_Y_Lo), .v (.int .i64 e5.area_Y_Hi)])]⟩, some ⟨6, [.d (PdSquib.d e6)]⟩], [0, 1, 2, 3, 4, 5, 6, 7, 8, 9, 10], (vwK R R (.cons R R (.row R (.row R (.row R (.cons R R (.cons R R (.row R (.cons R R (.cons R R (.cons R R (.cons R R .nil))))))))))) .nil), R, ?_⟩
        with_reducible apply yk_pan
        refine thenj_pan (blockj_pan (thenj_pan (thenj_pan (blockj_pan ?_))))
        refine ⟨R, R, [some ⟨13, [Scene_T1 t 1 2 3]⟩, some (lvI t.pdState_Zones), some (lvI t.pdState_Holder), some (lvI t.pdState_Squibs), some ⟨1, [.ref 0 13 0 0]⟩, some ⟨5, [.d (PdAct.d o)]⟩, some (lvI y), some ⟨1, [.d (.v (.int .i64 rv6.1))]⟩, some ⟨7, [.d (PdPad.d rv6.2)]⟩], [0, 1, 2, 3, 4, 5, 6, 7, 8], (vwK R R (.cons R R (.row R (.row R (.row R (.cons R R (.cons R R (.row R (.cons R R (.cons R R .nil))))))))) .nil), ?_⟩
        refine block_pan (then_pan (block_pan (then_pan (then_pan (block_pan (then_pan ?_))))))
        obtain rfl := sI h
        exact fin_pX (L := [some ⟨13, [Scene_T1 t 1 2 3]⟩, some (lvI t.pdState_Zones), some (lvI t.pdState_Holder), some (lvI t.pdState_Squibs)]) (κ := [0, 1, 2, 3]) (vwK R R (.cons R R (.row R (.row R (.row R .nil)))) .nil) (.inr ⟨_, R, R⟩)
       replace h := (exO nv4).symm.trans h
       refine r_callO (t' := .d (.tup [])) (ls := []) (news := []) ([]) ([some ⟨13, [Scene_T1 t 1 2 3]⟩, some (lvI t.pdState_Zones), some (lvI t.pdState_Holder), some (lvI t.pdState_Squibs), some ⟨1, [.ref 0 13 0 0]⟩, some ⟨5, [.d (PdAct.d o)]⟩, some (lvI y), some ⟨1, [.d (.v (.int .i64 rv6.1))]⟩, some ⟨7, [.d (PdPad.d rv6.2)]⟩, some ⟨4, [.d (.agg [.v (.int .i64 e5.area_X_Lo), .v (.int .i64 e5.area_X_Hi), .v (.int .i64 e5.area_Y_Lo), .v (.int .i64 e5.area_Y_Hi)])]⟩, some ⟨6, [.d (PdSquib.d e6)]⟩]) ((pad_demand_scx hrv7).ok nv4) (.of (by kernel_rfl)) R (.inl ⟨R, R, R⟩) R R R R .nil R R R .nil .nil R R R R ?_
       refine ev_endP (block_norm ?_)
       refine ⟨[some ⟨13, [Scene_T1 t 1 2 3]⟩, some (lvI t.pdState_Zones), some (lvI t.pdState_Holder), some (lvI t.pdState_Squibs), some ⟨1, [.ref 0 13 0 0]⟩, some ⟨5, [.d (PdAct.d o)]⟩, some (lvI y), some ⟨1, [.d (.v (.int .i64 rv6.1))]⟩, some ⟨7, [.d (PdPad.d rv6.2)]⟩, some ⟨4, [.d (.agg [.v (.int .i64 e5.area_X_Lo), .v (.int .i64 e5.area_X_Hi), .v (.int .i64 e5.area_Y_Lo), .v (.int .i64 e5.area_Y_Hi)])]⟩, some ⟨6, [.d (PdSquib.d e6)]⟩], [0, 1, 2, 3, 4, 5, 6, 7, 8, 9, 10], (vwK R R (.cons R R (.row R (.row R (.row R (.cons R R (.cons R R (.row R (.cons R R (.cons R R (.cons R R (.cons R R .nil))))))))))) .nil), ?_⟩
       with_reducible apply yk_norm
       refine rgj_ev (r_notT R R R (r_pickT R R R R (ev_endJ (thenj_norm (swj_condF R (swj_skip (blockj_norm (thenj_norm (swj_rg (rgj_ev (r_add R R R R (r_movD R R R (ev_endJ (thenj_norm ?_))))))))))))))
       exact ⟨m62, ⟨[(0, .d (.v (.func (.yield lb) #[] #[]))), (4, .ref 9 4 0 0), (18, .d (.arr 6 ((rv6.2.squibs).map PdSquib.d))), (19, .d (.v (.int .i64 (rv6.2.squibs.length : Int)))), (20, .d (.v (.int .i64 (W (x5 + 1)))))], [some ⟨13, [Scene_T1 t 1 2 3]⟩, some (lvI t.pdState_Zones), some (lvI t.pdState_Holder), some (lvI t.pdState_Squibs), some ⟨1, [.ref 0 13 0 0]⟩, some ⟨5, [.d (PdAct.d o)]⟩, some (lvI y), some ⟨1, [.d (.v (.int .i64 rv6.1))]⟩, some ⟨7, [.d (PdPad.d rv6.2)]⟩, some ⟨4, [.d (.agg [.v (.int .i64 e5.area_X_Lo), .v (.int .i64 e5.area_X_Hi), .v (.int .i64 e5.area_Y_Lo), .v (.int .i64 e5.area_Y_Hi)])]⟩]⟩, [0, 1, 2, 3, 4, 5, 6, 7, 8, 9], Nat.lt_succ_self _, (vwK R R (.cons R R (.row R (.row R (.row R (.cons R R (.cons R R (.row R (.cons R R (.cons R R (.cons R R .nil)))))))))) (.cons R R (.cons R R (.cons R R (.cons R R (.cons R R .nil)))))), (W (x5 + 1)), h, R, R⟩
      intro c9
      replace h := ifF c9 h
      refine r_notF R R R (r_movD R R R (r_skip R R R (r_skip R R R (r_skip R R R (r_skip R R R (r_skip R R R (r_skip R R R (r_skip R R R (r_skip R R R (r_skip R R R (r_pickT R R R R ?_)))))))))))
      obtain ⟨rv8, hrv8, h⟩ := bnd h
      rcases ex_or rv8 with ⟨x7, nv5⟩ | ⟨v5, nv5⟩
      ·replace h := (exN nv5).symm.trans h
       refine ev_pan ?_
       (with_reducible apply op_call []); exact (pad_demand_scx hrv8).err nv5; exact rfl; exact .of (by kernel_rfl); exact rfl; exact .inl ⟨rfl, rfl, rfl⟩; (iterate 4 exact rfl); exact .nil; exact rfl
       intro cnt
       refine block_pan ?_
       refine ⟨[some ⟨13, [Scene_T1 t 1 2 3]⟩, some (lvI t.pdState_Zones), some (lvI t.pdState_Holder), some (lvI t.pdState_Squibs), some ⟨1, [.ref 0 13 0 0]⟩, some ⟨5, [.d (PdAct.d o)]⟩, some (lvI y), some ⟨1, [.d (.v (.int .i64 rv6.1))]⟩, some ⟨7, [.d (PdPad.d rv6.2)]⟩, some ⟨4, [.d (.agg [.v (.int .i64 e5.area_X_Lo), .v (.int .i64 e5.area_X_Hi), .v (.int .i64 e5.area_Y_Lo), .v (.int .i64 e5.area_Y_Hi)])]⟩, some ⟨6, [.d (PdSquib.d e6)]⟩], [0, 1, 2, 3, 4, 5, 6, 7, 8, 9, 10], (vwK R R (.cons R R (.row R (.row R (.row R (.cons R R (.cons R R (.row R (.cons R R (.cons R R (.cons R R (.cons R R .nil))))))))))) .nil), R, ?_⟩
       with_reducible apply yk_pan
       refine thenj_pan (blockj_pan (thenj_pan (thenj_pan (blockj_pan ?_))))
       refine ⟨R, R, [some ⟨13, [Scene_T1 t 1 2 3]⟩, some (lvI t.pdState_Zones), some (lvI t.pdState_Holder), some (lvI t.pdState_Squibs), some ⟨1, [.ref 0 13 0 0]⟩, some ⟨5, [.d (PdAct.d o)]⟩, some (lvI y), some ⟨1, [.d (.v (.int .i64 rv6.1))]⟩, some ⟨7, [.d (PdPad.d rv6.2)]⟩], [0, 1, 2, 3, 4, 5, 6, 7, 8], (vwK R R (.cons R R (.row R (.row R (.row R (.cons R R (.cons R R (.row R (.cons R R (.cons R R .nil))))))))) .nil), ?_⟩
       refine block_pan (then_pan (block_pan (then_pan (then_pan (block_pan (then_pan ?_))))))
       obtain rfl := sI h
       exact fin_pX (L := [some ⟨13, [Scene_T1 t 1 2 3]⟩, some (lvI t.pdState_Zones), some (lvI t.pdState_Holder), some (lvI t.pdState_Squibs)]) (κ := [0, 1, 2, 3]) (vwK R R (.cons R R (.row R (.row R (.row R .nil)))) .nil) (.inr ⟨_, R, R⟩)
      replace h := (exO nv5).symm.trans h
      refine r_callO (t' := .d (.tup [])) (ls := []) (news := []) ([]) ([some ⟨13, [Scene_T1 t 1 2 3]⟩, some (lvI t.pdState_Zones), some (lvI t.pdState_Holder), some (lvI t.pdState_Squibs), some ⟨1, [.ref 0 13 0 0]⟩, some ⟨5, [.d (PdAct.d o)]⟩, some (lvI y), some ⟨1, [.d (.v (.int .i64 rv6.1))]⟩, some ⟨7, [.d (PdPad.d rv6.2)]⟩, some ⟨4, [.d (.agg [.v (.int .i64 e5.area_X_Lo), .v (.int .i64 e5.area_X_Hi), .v (.int .i64 e5.area_Y_Lo), .v (.int .i64 e5.area_Y_Hi)])]⟩, some ⟨6, [.d (PdSquib.d e6)]⟩]) ((pad_demand_scx hrv8).ok nv5) (.of (by kernel_rfl)) R (.inl ⟨R, R, R⟩) R R R R .nil R R R .nil .nil R R R R ?_
      refine ev_endP (block_norm ?_)
      refine ⟨[some ⟨13, [Scene_T1 t 1 2 3]⟩, some (lvI t.pdState_Zones), some (lvI t.pdState_Holder), some (lvI t.pdState_Squibs), some ⟨1, [.ref 0 13 0 0]⟩, some ⟨5, [.d (PdAct.d o)]⟩, some (lvI y), some ⟨1, [.d (.v (.int .i64 rv6.1))]⟩, some ⟨7, [.d (PdPad.d rv6.2)]⟩, some ⟨4, [.d (.agg [.v (.int .i64 e5.area_X_Lo), .v (.int .i64 e5.area_X_Hi), .v (.int .i64 e5.area_Y_Lo), .v (.int .i64 e5.area_Y_Hi)])]⟩, some ⟨6, [.d (PdSquib.d e6)]⟩], [0, 1, 2, 3, 4, 5, 6, 7, 8, 9, 10], (vwK R R (.cons R R (.row R (.row R (.row R (.cons R R (.cons R R (.row R (.cons R R (.cons R R (.cons R R (.cons R R .nil))))))))))) .nil), ?_⟩
      with_reducible apply yk_norm
      refine rgj_ev (r_notT R R R (r_pickT R R R R (ev_endJ (thenj_norm (swj_condF R (swj_skip (blockj_norm (thenj_norm (swj_rg (rgj_ev (r_add R R R R (r_movD R R R (ev_endJ (thenj_norm ?_))))))))))))))
      exact ⟨m62, ⟨[(0, .d (.v (.func (.yield lb) #[] #[]))), (4, .ref 9 4 0 0), (18, .d (.arr 6 ((rv6.2.squibs).map PdSquib.d))), (19, .d (.v (.int .i64 (rv6.2.squibs.length : Int)))), (20, .d (.v (.int .i64 (W (x5 + 1)))))], [some ⟨13, [Scene_T1 t 1 2 3]⟩, some (lvI t.pdState_Zones), some (lvI t.pdState_Holder), some (lvI t.pdState_Squibs), some ⟨1, [.ref 0 13 0 0]⟩, some ⟨5, [.d (PdAct.d o)]⟩, some (lvI y), some ⟨1, [.d (.v (.int .i64 rv6.1))]⟩, some ⟨7, [.d (PdPad.d rv6.2)]⟩, some ⟨4, [.d (.agg [.v (.int .i64 e5.area_X_Lo), .v (.int .i64 e5.area_X_Hi), .v (.int .i64 e5.area_Y_Lo), .v (.int .i64 e5.area_Y_Hi)])]⟩]⟩, [0, 1, 2, 3, 4, 5, 6, 7, 8, 9], Nat.lt_succ_self _, (vwK R R (.cons R R (.row R (.row R (.row R (.cons R R (.cons R R (.row R (.cons R R (.cons R R (.cons R R .nil)))))))))) (.cons R R (.cons R R (.cons R R (.cons R R (.cons R R .nil)))))), (W (x5 + 1)), h, R, R⟩
     intro c8
     replace h := ifN (Int.not_lt.2 c8) h
     refine r_movD R R R (r_skip R R R (r_skip R R R (r_skip R R R (r_skip R R R (r_pickF R R R R (ev_endJ (thenj_norm (swj_condF R (swj_skip (blockj_norm (thenj_norm (swj_rg (rgj_ev (r_add R R R R (r_movD R R R (ev_endJ (thenj_norm ?_)))))))))))))))))
     exact ⟨m62, ⟨[(0, .d (.v (.func (.yield lb) #[] #[]))), (4, .ref 9 4 0 0), (18, .d (.arr 6 ((rv6.2.squibs).map PdSquib.d))), (19, .d (.v (.int .i64 (rv6.2.squibs.length : Int)))), (20, .d (.v (.int .i64 (W (x5 + 1)))))], [some ⟨13, [Scene_T1 t 1 2 3]⟩, some (lvI t.pdState_Zones), some (lvI t.pdState_Holder), some (lvI t.pdState_Squibs), some ⟨1, [.ref 0 13 0 0]⟩, some ⟨5, [.d (PdAct.d o)]⟩, some (lvI y), some ⟨1, [.d (.v (.int .i64 rv6.1))]⟩, some ⟨7, [.d (PdPad.d rv6.2)]⟩, some ⟨4, [.d (.agg [.v (.int .i64 e5.area_X_Lo), .v (.int .i64 e5.area_X_Hi), .v (.int .i64 e5.area_Y_Lo), .v (.int .i64 e5.area_Y_Hi)])]⟩]⟩, [0, 1, 2, 3, 4, 5, 6, 7, 8, 9], Nat.lt_succ_self _, (vwK R R (.cons R R (.row R (.row R (.row R (.cons R R (.cons R R (.row R (.cons R R (.cons R R (.cons R R .nil)))))))))) (.cons R R (.cons R R (.cons R R (.cons R R (.cons R R .nil)))))), (W (x5 + 1)), h, R, R⟩
    intro c7
    replace h := ifN (Int.not_lt.2 c7) h
    refine ev_endJ (thenj_norm (swj_seq (swj_condF R (swj_exit (thenj_exit (thenj_exit ?_))))))
    subst hK62
    refine blockj_exit ?_
    refine ⟨R, [some ⟨13, [Scene_T1 t 1 2 3]⟩, some (lvI t.pdState_Zones), some (lvI t.pdState_Holder), some (lvI t.pdState_Squibs), some ⟨1, [.ref 0 13 0 0]⟩, some ⟨5, [.d (PdAct.d o)]⟩, some (lvI y), some ⟨1, [.d (.v (.int .i64 rv6.1))]⟩, some ⟨7, [.d (PdPad.d rv6.2)]⟩], [0, 1, 2, 3, 4, 5, 6, 7, 8], (vwK R R (.cons R R (.row R (.row R (.row R (.cons R R (.cons R R (.row R (.cons R R (.cons R R .nil))))))))) .nil), ?_⟩
    refine block_norm (then_norm ?_)
    exact .inl ⟨(), h, .vw (κ := [0, 1, 2, 3, 4, 5, 6]) (vwK R R (.cons R R (.row R (.row R (.row R (.cons R R (.cons R R (.row R .nil))))))) (.cons R R (.cons R R (.cons R R (.cons R R (.cons R R (.cons R R (.cons R R (.cons R R .nil)))))))))⟩
   refine swm_of fun df => ?_
   refine sw_drP (by kernel_rfl) (r_fa tb R R R R R R R (r_ldD (y := .v (.int .i64 o.what)) tb R R R R R R R R R ?_))
   refine r_lss R R R R ?_ ?_
   ·intro c5
    replace h := ifP c5 h
    refine r_movD R R R (r_skip R R R (r_skip R R R (r_skip R R R (r_skip R R R (r_skip R R R (r_skip R R R (r_skip R R R (r_skip R R R (r_skip R R R (r_skip R R R (r_skip R R R (r_skip R R R (r_skip R R R (r_skip R R R (r_skip R R R (r_skip R R R (r_skip R R R (r_skip R R R (r_skip R R R (r_skip R R R (r_pickT R R R R ?_)))))))))))))))))))))
    obtain ⟨rv4, hrv4, h⟩ := bnd h
    rcases ex_or rv4 with ⟨x3, nv2⟩ | ⟨v2, nv2⟩
    ·replace h := (exN nv2).symm.trans h
     refine ev_panD (by kernel_rfl) (by kernel_rfl) ?_
     (with_reducible apply op_call []); exact (pad_demand_scx hrv4).err nv2; exact rfl; exact .of (by kernel_rfl); exact rfl; exact .inl ⟨rfl, rfl, rfl⟩; (iterate 4 exact rfl); exact .nil; exact rfl
     intro cnt
     refine then_pan (block_pan (then_pan (then_pan (block_pan (then_pan ?_)))))
     obtain rfl := sI h
     exact fin_pX (L := [some ⟨13, [Scene_T1 t 1 2 3]⟩, some (lvI t.pdState_Zones), some (lvI t.pdState_Holder), some (lvI t.pdState_Squibs)]) (κ := [0, 1, 2, 3]) (vwK R R (.cons R R (.row R (.row R (.row R .nil)))) .nil) (.inr ⟨_, R, R⟩)
    replace h := (exO nv2).symm.trans h
    refine r_callO (t' := .d (.tup [])) (ls := []) (news := []) ([]) ([some ⟨13, [Scene_T1 t 1 2 3]⟩, some (lvI t.pdState_Zones), some (lvI t.pdState_Holder), some (lvI t.pdState_Squibs), some ⟨1, [.ref 0 13 0 0]⟩, some ⟨5, [.d (PdAct.d o)]⟩, some (lvI y)]) ((pad_demand_scx hrv4).ok nv2) (.of (by kernel_rfl)) R (.inl ⟨R, R, R⟩) R R R R .nil R R R .nil .nil R R R R (ev_endPD (by kernel_rfl) (then_norm ?_))
    exact .inl ⟨(), h, .prn [2, 3, 4, 6, 8, 74, 75, 76] R⟩
   intro c5
   replace h := ifN (Int.not_lt.2 c5) h
   refine r_movD R R R (r_ldR tb R R R R R R R R R (r_nilRef R R R (r_fa tb R R R R R R R (r_fa tb R R R R R R R (r_ldD (y := .arr 2 ((t.p_People).map PdPerson.d)) tb R R R R R R R R R (r_movD R R R ?_))))))
   obtain ⟨e3, ie3, h⟩ := bnd h
   refine r_ixE tb R R R R R R (ix0 ie3) (ix1m ie3) R R (r_faE tb R R R R R R R (r_ldE (y := .v (.int .i64 e3.grade)) tb R R (ix2 (g := PdPerson.d) ie3) R R R R (r_ldR tb R R R R R R R R R (r_nilRef R R R (r_fa tb R R R R R R R (r_fa tb R R R R R R R (r_ldD (y := .arr 8 ((t.p_Zones).map PdZone.d)) tb R R R R R R R R R (r_fa tb R R R R R R R (r_ldD (y := .v (.int .i64 o.what)) tb R R R R R R R R R ?_)))))))))
   obtain ⟨e4, ie4, h⟩ := bnd h
   refine r_ixE tb R R R R R R (ix0 ie4) (ix1m ie4) R R (r_faE tb R R R R R R R (r_ldE (y := .v (.int .i64 e4.grade)) tb R R (ix2 (g := PdZone.d) ie4) R R R R (r_geqV R R R R (r_pickF R R R R ?_))))
   obtain ⟨rv5, hrv5, h⟩ := bnd h
   rcases ex_or rv5 with ⟨x4, nv3⟩ | ⟨v3, nv3⟩
   ·replace h := (exN nv3).symm.trans h
    refine ev_panD (by kernel_rfl) (by kernel_rfl) ?_
    (with_reducible apply op_call []); exact (pad_demand_scx hrv5).err nv3; exact rfl; exact .of (by kernel_rfl); exact rfl; exact .inl ⟨rfl, rfl, rfl⟩; (iterate 4 exact rfl); exact .nil; exact rfl
    intro cnt
    refine then_pan (block_pan (then_pan (then_pan (block_pan (then_pan ?_)))))
    obtain rfl := sI h
    exact fin_pX (L := [some ⟨13, [Scene_T1 t 1 2 3]⟩, some (lvI t.pdState_Zones), some (lvI t.pdState_Holder), some (lvI t.pdState_Squibs)]) (κ := [0, 1, 2, 3]) (vwK R R (.cons R R (.row R (.row R (.row R .nil)))) .nil) (.inr ⟨_, R, R⟩)
   replace h := (exO nv3).symm.trans h
   refine r_callO (t' := .d (.tup [])) (ls := []) (news := []) ([]) ([some ⟨13, [Scene_T1 t 1 2 3]⟩, some (lvI t.pdState_Zones), some (lvI t.pdState_Holder), some (lvI t.pdState_Squibs), some ⟨1, [.ref 0 13 0 0]⟩, some ⟨5, [.d (PdAct.d o)]⟩, some (lvI y)]) ((pad_demand_scx hrv5).ok nv3) (.of (by kernel_rfl)) R (.inl ⟨R, R, R⟩) R R R R .nil R R R .nil .nil R R R R (ev_endPD (by kernel_rfl) (then_norm ?_))
   exact .inl ⟨(), h, .prn [2, 3, 4, 6, 8, 74, 75, 76] R⟩
  intro c4
  replace h := ifN (Int.not_lt.2 c4) h
  refine eN (swm_seq ?_)
  refine swm_of fun df => ?_
  refine sw_condF R (sw_exit (then_exit (then_exit ?_)))
  subst hK55
  refine block_exit (then_norm ?_)
  refine swm_of fun df => ?_
  refine sw_seq (qG (r_movW R R R (r_lenR tb R R R R R (r_movD R R R (eN (sw_block ?_))))))
  obtain ⟨K64, hK64, h⟩ : ∃ K, K = _ ∧ pad_scene_move_m_L8 F o y K F t.pdState_Zones 0 = some r := ⟨_, rfl, h⟩
  refine sw_loop (st0 := ⟨[(2, .ref 4 1 0 0), (3, .ref 5 5 0 0), (4, .d (.v (.int .i64 e))), (139, .row 6 1 0 (y).length), (140, .d (.v (.int .i64 (y.length : Int)))), (141, .d (.v (.int .i64 0)))], [some ⟨13, [Scene_T1 t 1 2 3]⟩, some (lvI t.pdState_Zones), some (lvI t.pdState_Holder), some (lvI t.pdState_Squibs), some ⟨1, [.ref 0 13 0 0]⟩, some ⟨5, [.d (PdAct.d o)]⟩, some (lvI y)]⟩) (κ := [0, 1, 2, 3, 4, 5, 6]) (fun m st => ∃ (A : (List Int)) (x9 : Int), pad_scene_move_m_L8 F o y K64 m A x9 = some r ∧ st = ⟨[(2, .ref 4 1 0 0), (3, .ref 5 5 0 0), (4, .d (.v (.int .i64 e))), (139, .row 6 1 0 (y).length), (140, .d (.v (.int .i64 (y.length : Int)))), (141, .d (.v (.int .i64 x9)))], [some ⟨13, [Scene_T1 {t with pdState_Zones := A} 1 2 3]⟩, some (lvI A), some (lvI t.pdState_Holder), some (lvI t.pdState_Squibs), some ⟨1, [.ref 0 13 0 0]⟩, some ⟨5, [.d (PdAct.d o)]⟩, some (lvI y)]⟩) (vwK R R (.cons R R (.row R (.row R (.row R (.cons R R (.cons R R (.row R .nil))))))) (.cons R R (.cons R R (.cons R R (.cons R R (.cons R R (.cons R R .nil))))))) ⟨t.pdState_Zones, 0, h, R⟩ ?_
  clear h
  rintro m64 st ⟨A, x9, h, rfl⟩
  cases m64 with
  | zero => cases (show (none : Option (Except Int Scene)) = some r from h)
  | succ m64 =>
  rw [pad_scene_move_m_L8] at h
  refine qG ?_
  refine r_lss R R R R ?_ ?_
  ·intro c10
   replace h := ifP c10 h
   refine eN (sw_seq (sw_condT R (sw_skip (then_norm (sw_seq (sw_block (qG ?_)))))))
   obtain ⟨e8, ie8, h⟩ := bnd h
   refine r_ixI tb R R R R R R (ix0 ie8) (ix1 ie8) R R ?_
   refine r_ldD (y := .v (.int .i64 e8)) tb R R R R (ix2 (g := fun a => T.d (vI a)) ie8) R R R R ?_
   refine r_asgD R R R (eN (sw_dr (by kernel_rfl) (r_ldR tb R R R R R R R R R (r_nilRef R R R (r_fa tb R R R R R R R (r_fa tb R R R R R R R (r_ldW tb R R R R R R R R R (r_movD R R R (r_fa tb R R R R R R R (r_ldD (y := .v (.int .i64 o.what)) tb R R R R R R R R R ?_))))))))))
   obtain ⟨e9, ie9, h⟩ := bnd h
   refine r_ixI tb R R R R R R (ix0 ie9) (ix1 ie9) R R ?_
   obtain ⟨A2, iA2, h⟩ := bnd h
   refine r_stQ (a' := (o.what : Int)) tb R R R R ie9 R R R R iA2 R R ?_
   dsimp only [List.set_cons_zero, List.set_cons_succ, PdState_T1, PdState_T2, PdState_T3, Scene_T1]
   first | rw [set_len iA2] | skip
   refine ev_endD (by kernel_rfl) (block_norm (then_norm (sw_rg (r_add R R R R (r_movD R R R (eN ?_))))))
   exact ⟨m64, ⟨[(2, .ref 4 1 0 0), (3, .ref 5 5 0 0), (4, .d (.v (.int .i64 e))), (139, .row 6 1 0 (y).length), (140, .d (.v (.int .i64 (y.length : Int)))), (141, .d (.v (.int .i64 (W (x9 + 1)))))], [some ⟨13, [Scene_T1 {t with pdState_Zones := A2} 1 2 3]⟩, some (lvI A2), some (lvI t.pdState_Holder), some (lvI t.pdState_Squibs), some ⟨1, [.ref 0 13 0 0]⟩, some ⟨5, [.d (PdAct.d o)]⟩, some (lvI y)]⟩, [0, 1, 2, 3, 4, 5, 6], Nat.lt_succ_self _, (vwK R R (.cons R R (.row R (.row R (.row R (.cons R R (.cons R R (.row R .nil))))))) (.cons R R (.cons R R (.cons R R (.cons R R (.cons R R (.cons R R .nil))))))), A2, (W (x9 + 1)), h, R⟩
  intro c10
  replace h := ifN (Int.not_lt.2 c10) h
  refine eN (sw_seq (sw_condF R (sw_exit (then_exit (then_exit ?_)))))
  subst hK64
  refine block_exit (then_norm (sw_seq ?_))
  refine sw_join (fun zz : Unit => pad_scene_move_m_J13 F t o e A = some r) (fun zz : Unit => ⟨[(2, .ref 4 1 0 0), (3, .ref 5 5 0 0), (4, .d (.v (.int .i64 e)))], [some ⟨13, [Scene_T1 {t with pdState_Zones := A} 1 2 3]⟩, some (lvI A), some (lvI t.pdState_Holder), some (lvI t.pdState_Squibs), some ⟨1, [.ref 0 13 0 0]⟩, some ⟨5, [.d (PdAct.d o)]⟩]⟩) ?_ ?_
  ·clear h
   rintro ⟨⟩ h
   rw [pad_scene_move_m_J13] at h
   refine sw_rgP (r_ldR tb R R R R R R R R R (r_fa tb R R R R R R R (r_ldD (y := .v (.int .i64 o.what)) tb R R R R R R R R R ?_)))
   obtain ⟨rv14, hrv14, h⟩ := bnd h
   refine r_callLB (pad_scene_alone_pc hrv14) (.of (by kernel_rfl)) R R ((.cons (.ref R (.aggL (.cons (.d _) (.cons (.d _) (.cons (.d _) (.cons (.d _) (.cons (.d _) (.cons (.d _) (.cons (.d _) (.cons (.d _) (.cons (.row R R) (.cons (.row R R) (.cons (.row R R) (.cons (.d _) (.cons (.d _) .nil))))))))))))))) (.cons (.d _) .nil))) R R ?_ ?_
   ·intro c12
    replace h := ifP c12 h
    refine r_notT R R R (r_movD R R R (r_skip R R R (r_skip R R R (r_skip R R R (r_skip R R R (r_pickF R R R R ?_))))))
    obtain ⟨rv15, hrv15, h⟩ := bnd h
    rcases ex_or rv15 with ⟨x12, nv9⟩ | ⟨v9, nv9⟩
    ·replace h := (exN nv9).symm.trans h
     refine ev_pan ?_
     (with_reducible apply op_call []); exact (pad_demand_scx hrv15).err nv9; exact rfl; exact .of (by kernel_rfl); exact rfl; exact .inl ⟨rfl, rfl, rfl⟩; (iterate 4 exact rfl); exact .nil; exact rfl
     intro cnt
     obtain rfl := sI h
     exact fin_pX (L := [some ⟨13, [Scene_T1 {t with pdState_Zones := A} 1 2 3]⟩, some (lvI A), some (lvI t.pdState_Holder), some (lvI t.pdState_Squibs)]) (κ := [0, 1, 2, 3]) (vwK R R (.cons R R (.row R (.row R (.row R .nil)))) .nil) (.inr ⟨_, R, R⟩)
    replace h := (exO nv9).symm.trans h
    refine r_callO (t' := .d (.tup [])) (ls := []) (news := []) ([]) ([some ⟨13, [Scene_T1 {t with pdState_Zones := A} 1 2 3]⟩, some (lvI A), some (lvI t.pdState_Holder), some (lvI t.pdState_Squibs), some ⟨1, [.ref 0 13 0 0]⟩, some ⟨5, [.d (PdAct.d o)]⟩]) ((pad_demand_scx hrv15).ok nv9) (.of (by kernel_rfl)) R (.inl ⟨R, R, R⟩) R R R R .nil R R R .nil .nil R R R R (ev_endP ?_)
    obtain rfl := sI h
    exact fin_n (fin_S (t := .d (.tup [])) (L := [some ⟨13, [Scene_T1 {t with pdState_Zones := A} 1 2 3]⟩, some (lvI A), some (lvI t.pdState_Holder), some (lvI t.pdState_Squibs)]) (κ := [0, 1, 2, 3]) R .nil (vwK R R (.cons R R (.row R (.row R (.row R .nil)))) (.cons R R .nil)) (.inl ⟨_, R, R, R⟩))
   intro c12
   replace h := ifF c12 h
   refine r_notF R R R (r_movD R R R (r_ldR tb R R R R R R R R R (r_movD R R R ?_)))
   obtain ⟨rv16, hrv16, h⟩ := bnd h
   refine r_callL (pad_scene_alone_pc hrv16) R (.of (by kernel_rfl)) R R ((.cons (.ref R (.aggL (.cons (.d _) (.cons (.d _) (.cons (.d _) (.cons (.d _) (.cons (.d _) (.cons (.d _) (.cons (.d _) (.cons (.d _) (.cons (.row R R) (.cons (.row R R) (.cons (.row R R) (.cons (.d _) (.cons (.d _) .nil))))))))))))))) (.cons (.d _) .nil))) R R (r_not R R R (r_pickT R R R R ?_))
   obtain ⟨rv17, hrv17, h⟩ := bnd h
   rcases ex_or rv17 with ⟨x13, nv10⟩ | ⟨v10, nv10⟩
   ·replace h := (exN nv10).symm.trans h
    refine ev_pan ?_
    (with_reducible apply op_call []); exact (pad_demand_scx hrv17).err nv10; exact rfl; exact .of (by kernel_rfl); exact rfl; exact .inl ⟨rfl, rfl, rfl⟩; (iterate 4 exact rfl); exact .nil; exact rfl
    intro cnt
    obtain rfl := sI h
    exact fin_pX (L := [some ⟨13, [Scene_T1 {t with pdState_Zones := A} 1 2 3]⟩, some (lvI A), some (lvI t.pdState_Holder), some (lvI t.pdState_Squibs)]) (κ := [0, 1, 2, 3]) (vwK R R (.cons R R (.row R (.row R (.row R .nil)))) .nil) (.inr ⟨_, R, R⟩)
   replace h := (exO nv10).symm.trans h
   refine r_callO (t' := .d (.tup [])) (ls := []) (news := []) ([]) ([some ⟨13, [Scene_T1 {t with pdState_Zones := A} 1 2 3]⟩, some (lvI A), some (lvI t.pdState_Holder), some (lvI t.pdState_Squibs), some ⟨1, [.ref 0 13 0 0]⟩, some ⟨5, [.d (PdAct.d o)]⟩]) ((pad_demand_scx hrv17).ok nv10) (.of (by kernel_rfl)) R (.inl ⟨R, R, R⟩) R R R R .nil R R R .nil .nil R R R R (ev_endP ?_)
   obtain rfl := sI h
   exact fin_n (fin_S (t := .d (.tup [])) (L := [some ⟨13, [Scene_T1 {t with pdState_Zones := A} 1 2 3]⟩, some (lvI A), some (lvI t.pdState_Holder), some (lvI t.pdState_Squibs)]) (κ := [0, 1, 2, 3]) R .nil (vwK R R (.cons R R (.row R (.row R (.row R .nil)))) (.cons R R .nil)) (.inl ⟨_, R, R, R⟩))
  refine sw_drP (by kernel_rfl) (r_fa tb R R R R R R R (r_ldD (y := .v (.int .i64 o.what)) tb R R R R R R R R R ?_))
  refine r_lss R R R R ?_ ?_
  ·intro c11
   replace h := ifP c11 h
   refine r_movD R R R (r_skip R R R (r_skip R R R (r_skip R R R (r_skip R R R (r_skip R R R (r_skip R R R (r_skip R R R (r_skip R R R (r_skip R R R (r_skip R R R (r_skip R R R (r_skip R R R (r_skip R R R (r_skip R R R (r_skip R R R (r_pickT R R R R ?_))))))))))))))))
   obtain ⟨rv11, hrv11, h⟩ := bnd h
   rcases ex_or rv11 with ⟨x10, nv7⟩ | ⟨v7, nv7⟩
   ·replace h := (exN nv7).symm.trans h
    refine ev_panD (by kernel_rfl) (by kernel_rfl) ?_
    (with_reducible apply op_call []); exact (pad_demand_scx hrv11).err nv7; exact rfl; exact .of (by kernel_rfl); exact rfl; exact .inl ⟨rfl, rfl, rfl⟩; (iterate 4 exact rfl); exact .nil; exact rfl
    intro cnt
    refine then_pan ?_
    obtain rfl := sI h
    exact fin_pX (L := [some ⟨13, [Scene_T1 {t with pdState_Zones := A} 1 2 3]⟩, some (lvI A), some (lvI t.pdState_Holder), some (lvI t.pdState_Squibs)]) (κ := [0, 1, 2, 3]) (vwK R R (.cons R R (.row R (.row R (.row R .nil)))) .nil) (.inr ⟨_, R, R⟩)
   replace h := (exO nv7).symm.trans h
   refine r_callO (t' := .d (.tup [])) (ls := []) (news := []) ([]) ([some ⟨13, [Scene_T1 {t with pdState_Zones := A} 1 2 3]⟩, some (lvI A), some (lvI t.pdState_Holder), some (lvI t.pdState_Squibs), some ⟨1, [.ref 0 13 0 0]⟩, some ⟨5, [.d (PdAct.d o)]⟩, some (lvI y)]) ((pad_demand_scx hrv11).ok nv7) (.of (by kernel_rfl)) R (.inl ⟨R, R, R⟩) R R R R .nil R R R .nil .nil R R R R (ev_endPD (by kernel_rfl) (then_norm ?_))
   exact .inl ⟨(), h, .vw (κ := [0, 1, 2, 3, 4, 5]) (vwK R R (.cons R R (.row R (.row R (.row R (.cons R R (.cons R R .nil)))))) (.cons R R (.cons R R (.cons R R .nil))))⟩
  intro c11
  replace h := ifN (Int.not_lt.2 c11) h
  refine r_movD R R R (r_ldR tb R R R R R R R R R (r_fa tb R R R R R R R (r_ldD (y := .v (.int .i64 o.what)) tb R R R R R R R R R ?_)))
  obtain ⟨rv12, hrv12, h⟩ := bnd h
  refine r_callL (pad_scene_crowd_pc hrv12) R (.of (by kernel_rfl)) R R ((.cons (.ref R (.aggL (.cons (.d _) (.cons (.d _) (.cons (.d _) (.cons (.d _) (.cons (.d _) (.cons (.d _) (.cons (.d _) (.cons (.d _) (.cons (.row R R) (.cons (.row R R) (.cons (.row R R) (.cons (.d _) (.cons (.d _) .nil))))))))))))))) (.cons (.d _) .nil))) R R (r_ldR tb R R R R R R R R R (r_nilRef R R R (r_fa tb R R R R R R R (r_fa tb R R R R R R R ?_))))
  refine r_ldD (y := .arr 8 ((t.p_Zones).map PdZone.d)) tb R R R R R R R R R (r_fa tb R R R R R R R (r_ldD (y := .v (.int .i64 o.what)) tb R R R R R R R R R ?_))
  obtain ⟨e10, ie10, h⟩ := bnd h
  refine r_ixE tb R R R R R R (ix0 ie10) (ix1m ie10) R R (r_faE tb R R R R R R R (r_ldE (y := .v (.int .i64 e10.room)) tb R R (ix2 (g := PdZone.d) ie10) R R R R (r_leqV R R R R (r_pickF R R R R ?_))))
  obtain ⟨rv13, hrv13, h⟩ := bnd h
  rcases ex_or rv13 with ⟨x11, nv8⟩ | ⟨v8, nv8⟩
  ·replace h := (exN nv8).symm.trans h
   refine ev_panD (by kernel_rfl) (by kernel_rfl) ?_
   (with_reducible apply op_call []); exact (pad_demand_scx hrv13).err nv8; exact rfl; exact .of (by kernel_rfl); exact rfl; exact .inl ⟨rfl, rfl, rfl⟩; (iterate 4 exact rfl); exact .nil; exact rfl
   intro cnt
   refine then_pan ?_
   obtain rfl := sI h
   exact fin_pX (L := [some ⟨13, [Scene_T1 {t with pdState_Zones := A} 1 2 3]⟩, some (lvI A), some (lvI t.pdState_Holder), some (lvI t.pdState_Squibs)]) (κ := [0, 1, 2, 3]) (vwK R R (.cons R R (.row R (.row R (.row R .nil)))) .nil) (.inr ⟨_, R, R⟩)
  replace h := (exO nv8).symm.trans h
  refine r_callO (t' := .d (.tup [])) (ls := []) (news := []) ([]) ([some ⟨13, [Scene_T1 {t with pdState_Zones := A} 1 2 3]⟩, some (lvI A), some (lvI t.pdState_Holder), some (lvI t.pdState_Squibs), some ⟨1, [.ref 0 13 0 0]⟩, some ⟨5, [.d (PdAct.d o)]⟩, some (lvI y)]) ((pad_demand_scx hrv13).ok nv8) (.of (by kernel_rfl)) R (.inl ⟨R, R, R⟩) R R R R .nil R R R .nil .nil R R R R (ev_endPD (by kernel_rfl) (then_norm ?_))
  exact .inl ⟨(), h, .vw (κ := [0, 1, 2, 3, 4, 5]) (vwK R R (.cons R R (.row R (.row R (.row R (.cons R R (.cons R R .nil)))))) (.cons R R (.cons R R (.cons R R .nil))))⟩
 refine swm_of fun df => ?_
 refine qG (r_fa tb R R R R R R R (r_ldD (y := .v (.int .i64 o.with_)) tb R R R R R R R R R ?_))
 refine r_geq R R R R ?_ ?_
 ·intro c3
  replace h := ifP c3 h
  refine eN (sw_condT R (sw_rg (r_movW R R R (r_fa tb R R R R R R R (r_ldD (y := .v (.int .i64 o.with_)) tb R R R R R R R R R (r_bslice tb R R R R R R R R R R R R R ?_))))))
  obtain ⟨q, iq, h⟩ := bnd h
  refine r_apM (g := vI) (w := [o.who]) (v := [o.with_]) ([some ⟨13, [Scene_T1 t 1 2 3]⟩, some (lvI t.pdState_Zones), some (lvI t.pdState_Holder), some (lvI t.pdState_Squibs), some ⟨1, [.ref 0 13 0 0]⟩, some ⟨5, [.d (PdAct.d o)]⟩, none, some (lvI [o.with_])]) tb R R R R R R R R R R R iq R R R R R (r_asgW R R R (eN ?_))
  exact .inl ⟨q, h, .vw (κ := [0, 1, 2, 3, 4, 5, 8]) (vwK R R (.cons R R (.row R (.row R (.row R (.cons R R (.cons R R (.row R .nil))))))) (.cons R R (.cons R R (.cons R R (.cons R R .nil)))))⟩
 intro c3
 replace h := ifN (Int.not_le.2 c3) h
 refine eN (sw_condF R (sw_skip (then_norm ?_)))
 exact .inl ⟨[o.who], h, .vw (κ := [0, 1, 2, 3, 4, 5, 6]) (vwK R R (.cons R R (.row R (.row R (.row R (.cons R R (.cons R R (.row R .nil))))))) (.cons R R (.cons R R (.cons R R (.cons R R .nil)))))⟩
def pad_scene_take_1 (F : Nat) (q : PdSquib) (c : PdAct) : Option Bool := Option.bind (slices_Contains_int F q.keys c.what) fun rv => some rv
theorem pad_scene_take_1_pc {F : Nat} {q : PdSquib} {c : PdAct} {r : Bool} (h : pad_scene_take_1 F q c = some r) : PC Try.prog 116 [PdSquib.d q, .el 5 (([c]).map PdAct.d) ((0 : Int)).toNat 0] (.v (.bool r)) := by
 rw [pad_scene_take_1] at h
 refine SC.of_sw Try.func116 R R R ?_
 dsimp only [argS, List.map]
 refine qG (r_box R R R R R R R (r_asgD R R R (eN (qG (r_fa tb R R R R R R R (r_ldD (y := .arr 1 ((q.keys).map vI)) tb R R R R R R R R R (r_faE tb R R R R R R R (r_ldE (y := .v (.int .i64 c.what)) tb R R (ix2 (g := PdAct.d) (R : ixO [c] 0 = some c)) R R R R ?_))))))))
 obtain ⟨rv, hrv, h⟩ := bnd h
 refine r_call (slices_Contains_int_pc hrv) (.of (by kernel_rfl)) R R R R (r_asgD R R R (eN (sw_ret ?_)))
 obtain rfl := sI h
 exact fin_0 (t := .d (.v (.bool rv))) R R R (.cons (.tmp 3) .nil)
def pad_scene_take_m (F : Nat) (c : Scene) (a : PdAct) : Option (Except Int Scene) := Option.bind (pad_scene_atPanel_m F c a.who) fun rv => exE rv (fun x => some (.error x)) (fun v => Option.bind (ixO v.pdState_Holder a.what) fun e => Option.bind (pad_demand F (decide (e < 0)) 174) fun rv2 => exE rv2 (fun x2 => some (.error x2)) (fun v2 => Option.bind (pad_scene_armed F v (fun a0 => pad_scene_take_1 F a0 a)) fun rv3 => Option.bind (pad_demand F (!rv3) 177) fun rv4 => exE rv4 (fun x3 => some (.error x3)) (fun v3 => Option.bind (setO v.pdState_Holder a.what a.who) fun q => some (.ok {v with pdState_Holder := q}))))
theorem pad_scene_take_m_scx {F : Nat} {c : Scene} {a : PdAct} {r : (Except Int Scene)} (h : pad_scene_take_m F c a = some r) : SCX Try.prog 102 [.ref 0 13 0 0, .d (PdAct.d a)] [some ⟨13, [Scene_T1 c 1 2 3]⟩, some (lvI c.pdState_Zones), some (lvI c.pdState_Holder), some (lvI c.pdState_Squibs)] r 29 (fun (a : Scene) => .d (.tup [])) (fun (a : Scene) => [some ⟨13, [Scene_T1 a 1 2 3]⟩, some (lvI a.pdState_Zones), some (lvI a.pdState_Holder), some (lvI a.pdState_Squibs)]) := by
 rw [pad_scene_take_m] at h
 refine SC.of_sw Try.func102 R R R ?_
 dsimp only [argS, List.map]
 refine qG (r_box R R R R R R R (eN (sw_seq (sw_rgP (r_movR R R R (r_fa tb R R R R R R R (r_ldD (y := .v (.int .i64 a.who)) tb R R R R R R R R R ?_)))))))
 obtain ⟨rv, hrv, h⟩ := bnd h
 rcases ex_or rv with ⟨x, nv⟩ | ⟨v, nv⟩
 ·replace h := (exN nv).symm.trans h
  refine ev_pan ?_
  (with_reducible apply op_call [0, 1, 2, 3]); exact (pad_scene_atPanel_m_scx hrv).err nv; exact rfl; exact .of (by kernel_rfl); exact rfl; exact .inl ⟨rfl, rfl, rfl⟩; (iterate 4 exact rfl); exact (.cons rfl rfl (.row rfl (.row rfl (.row rfl .nil)))); exact rfl
  intro cnt
  refine then_pan ?_
  obtain rfl := sI h
  exact fin_pX (L := [none, none, none, none]) (κ := [0, 1, 2, 3]) (vwK R R (.gone R (.gone R (.gone R (.gone R .nil)))) .nil) (.inr ⟨_, R, R⟩)
 replace h := (exO nv).symm.trans h
 refine r_callO (t' := .d (.tup [])) (ls := [some ⟨13, [Scene_T1 v 1 2 3]⟩, some (lvI v.pdState_Zones), some (lvI v.pdState_Holder), some (lvI v.pdState_Squibs)]) (news := []) ([0, 1, 2, 3]) ([some ⟨13, [Scene_T1 v 1 2 3]⟩, some (lvI v.pdState_Zones), some (lvI v.pdState_Holder), some (lvI v.pdState_Squibs), some ⟨5, [.d (PdAct.d a)]⟩]) ((pad_scene_atPanel_m_scx hrv).ok nv) (.of (by kernel_rfl)) R (.inl ⟨R, R, R⟩) R R R R ((.cons R R (.row R (.row R (.row R .nil))))) R R R ((.cons R (.row (.row (.row .nil))))) .nil R R R R (ev_endP ?_)
 refine then_norm (sw_seq (sw_drP (by kernel_rfl) (r_movR R R R (r_nilRef R R R (r_fa tb R R R R R R R (r_fa tb R R R R R R R (r_ldW tb R R R R R R R R R (r_fa tb R R R R R R R (r_ldD (y := .v (.int .i64 a.what)) tb R R R R R R R R R ?_)))))))))
 obtain ⟨e, ie, h⟩ := bnd h
 refine r_ixI tb R R R R R R (ix0 ie) (ix1 ie) R R ?_
 refine r_ldD (y := .v (.int .i64 e)) tb R R R R (ix2 (g := fun a => T.d (vI a)) ie) R R R R ?_
 refine r_lssV R R R R ?_
 obtain ⟨rv2, hrv2, h⟩ := bnd h
 rcases ex_or rv2 with ⟨x2, nv2⟩ | ⟨v2, nv2⟩
 ·replace h := (exN nv2).symm.trans h
  refine ev_panD (by kernel_rfl) (by kernel_rfl) ?_
  (with_reducible apply op_call []); exact (pad_demand_scx hrv2).err nv2; exact rfl; exact .of (by kernel_rfl); exact rfl; exact .inl ⟨rfl, rfl, rfl⟩; (iterate 4 exact rfl); exact .nil; exact rfl
  intro cnt
  refine then_pan ?_
  obtain rfl := sI h
  exact fin_pX (L := [some ⟨13, [Scene_T1 v 1 2 3]⟩, some (lvI v.pdState_Zones), some (lvI v.pdState_Holder), some (lvI v.pdState_Squibs)]) (κ := [0, 1, 2, 3]) (vwK R R (.cons R R (.row R (.row R (.row R .nil)))) .nil) (.inr ⟨_, R, R⟩)
 replace h := (exO nv2).symm.trans h
 refine r_callO (t' := .d (.tup [])) (ls := []) (news := []) ([]) ([some ⟨13, [Scene_T1 v 1 2 3]⟩, some (lvI v.pdState_Zones), some (lvI v.pdState_Holder), some (lvI v.pdState_Squibs), some ⟨5, [.d (PdAct.d a)]⟩]) ((pad_demand_scx hrv2).ok nv2) (.of (by kernel_rfl)) R (.inl ⟨R, R, R⟩) R R R R .nil R R R .nil .nil R R R R (ev_endPD (by kernel_rfl) (then_norm (sw_seq (sw_rgP (r_movR R R R (r_func R R R R ?_))))))
 obtain ⟨rv3, hrv3, h⟩ := bnd h
 refine r_callX (t' := .d (.v (.bool rv3))) (news' := []) (pad_scene_armed_scr (so := (fun a0 => pad_scene_take_1 F a0 a)) (soc := [.el 5 [PdAct.d a] 0 0]) (soh := fun hr => pad_scene_take_1_pc hr) (soe := .of (by kernel_rfl)) hrv3) R .nil (.of (by kernel_rfl)) R R ((.cons (.d (.ref R (.aggL (.cons (.d _) (.cons (.d _) (.cons (.d _) (.cons (.d _) (.cons (.d _) (.cons (.d _) (.cons (.d _) (.cons (.d _) (.cons (.row R R) (.cons (.row R R) (.cons (.row R R) (.cons (.d _) (.cons (.d _) .nil)))))))))))))))) (.cons (.fnC (.cons (.d (.ref R (.d _))) .nil)) .nil))) R .nil R R R ?_
 simp only [List.map_nil, List.append_nil]
 refine r_not R R R ?_
 obtain ⟨rv4, hrv4, h⟩ := bnd h
 rcases ex_or rv4 with ⟨x3, nv3⟩ | ⟨v3, nv3⟩
 ·replace h := (exN nv3).symm.trans h
  refine ev_pan ?_
  (with_reducible apply op_call []); exact (pad_demand_scx hrv4).err nv3; exact rfl; exact .of (by kernel_rfl); exact rfl; exact .inl ⟨rfl, rfl, rfl⟩; (iterate 4 exact rfl); exact .nil; exact rfl
  intro cnt
  refine then_pan ?_
  obtain rfl := sI h
  exact fin_pX (L := [some ⟨13, [Scene_T1 v 1 2 3]⟩, some (lvI v.pdState_Zones), some (lvI v.pdState_Holder), some (lvI v.pdState_Squibs)]) (κ := [0, 1, 2, 3]) (vwK R R (.cons R R (.row R (.row R (.row R .nil)))) .nil) (.inr ⟨_, R, R⟩)
 replace h := (exO nv3).symm.trans h
 refine r_callO (t' := .d (.tup [])) (ls := []) (news := []) ([]) ([some ⟨13, [Scene_T1 v 1 2 3]⟩, some (lvI v.pdState_Zones), some (lvI v.pdState_Holder), some (lvI v.pdState_Squibs), some ⟨5, [.d (PdAct.d a)]⟩]) ((pad_demand_scx hrv4).ok nv3) (.of (by kernel_rfl)) R (.inl ⟨R, R, R⟩) R R R R .nil R R R .nil .nil R R R R (ev_endP (then_norm (sw_dr (by kernel_rfl) (r_movR R R R (r_nilRef R R R (r_fa tb R R R R R R R (r_fa tb R R R R R R R (r_ldW tb R R R R R R R R R ?_))))))))
 refine r_fa tb R R R R R R R (r_ldD (y := .v (.int .i64 a.what)) tb R R R R R R R R R (r_fa tb R R R R R R R (r_ldD (y := .v (.int .i64 a.who)) tb R R R R R R R R R (r_ixI tb R R R R R R (ix0 ie) (ix1 ie) R R ?_))))
 obtain ⟨q, iq, h⟩ := bnd h
 refine r_stQ (a' := (a.who : Int)) tb R R R R ie R R R R iq R R ?_
 dsimp only [List.set_cons_zero, List.set_cons_succ, PdState_T1, PdState_T2, PdState_T3, Scene_T1]
 first | rw [set_len iq] | skip
 refine ev_endD (by kernel_rfl) ?_
 obtain rfl := sI h
 exact fin_n (fin_S (t := .d (.tup [])) (L := [some ⟨13, [Scene_T1 {v with pdState_Holder := q} 1 2 3]⟩, some (lvI v.pdState_Zones), some (lvI q), some (lvI v.pdState_Squibs)]) (κ := [0, 1, 2, 3]) R .nil (vwK R R (.cons R R (.row R (.row R (.row R .nil)))) (.cons R R .nil)) (.inl ⟨_, R, R, R⟩))
def pad_scene_put_m (F : Nat) (c : Scene) (a : PdAct) : Option (Except Int Scene) := Option.bind (pad_scene_atPanel_m F c a.who) fun rv => exE rv (fun x => some (.error x)) (fun v => Option.bind (ixO v.pdState_Holder a.what) fun e => Option.bind (pad_demand F (decide (e = a.who)) 174) fun rv2 => exE rv2 (fun x2 => some (.error x2)) (fun v2 => Option.bind (setO v.pdState_Holder a.what (-1)) fun q => some (.ok {v with pdState_Holder := q})))
theorem pad_scene_put_m_scx {F : Nat} {c : Scene} {a : PdAct} {r : (Except Int Scene)} (h : pad_scene_put_m F c a = some r) : SCX Try.prog 103 [.ref 0 13 0 0, .d (PdAct.d a)] [some ⟨13, [Scene_T1 c 1 2 3]⟩, some (lvI c.pdState_Zones), some (lvI c.pdState_Holder), some (lvI c.pdState_Squibs)] r 29 (fun (a : Scene) => .d (.tup [])) (fun (a : Scene) => [some ⟨13, [Scene_T1 a 1 2 3]⟩, some (lvI a.pdState_Zones), some (lvI a.pdState_Holder), some (lvI a.pdState_Squibs)]) := by
 rw [pad_scene_put_m] at h
 refine SC.of_sw Try.func103 R R R ?_
 dsimp only [argS, List.map]
 refine qG (r_box R R R R R R R (eN (sw_seq (sw_rgP (r_movR R R R (r_fa tb R R R R R R R (r_ldD (y := .v (.int .i64 a.who)) tb R R R R R R R R R ?_)))))))
 obtain ⟨rv, hrv, h⟩ := bnd h
 rcases ex_or rv with ⟨x, nv⟩ | ⟨v, nv⟩
 ·replace h := (exN nv).symm.trans h
  refine ev_pan ?_
  (with_reducible apply op_call [0, 1, 2, 3]); exact (pad_scene_atPanel_m_scx hrv).err nv; exact rfl; exact .of (by kernel_rfl); exact rfl; exact .inl ⟨rfl, rfl, rfl⟩; (iterate 4 exact rfl); exact (.cons rfl rfl (.row rfl (.row rfl (.row rfl .nil)))); exact rfl
  intro cnt
  refine then_pan ?_
  obtain rfl := sI h
  exact fin_pX (L := [none, none, none, none]) (κ := [0, 1, 2, 3]) (vwK R R (.gone R (.gone R (.gone R (.gone R .nil)))) .nil) (.inr ⟨_, R, R⟩)
 replace h := (exO nv).symm.trans h
 refine r_callO (t' := .d (.tup [])) (ls := [some ⟨13, [Scene_T1 v 1 2 3]⟩, some (lvI v.pdState_Zones), some (lvI v.pdState_Holder), some (lvI v.pdState_Squibs)]) (news := []) ([0, 1, 2, 3]) ([some ⟨13, [Scene_T1 v 1 2 3]⟩, some (lvI v.pdState_Zones), some (lvI v.pdState_Holder), some (lvI v.pdState_Squibs), some ⟨5, [.d (PdAct.d a)]⟩]) ((pad_scene_atPanel_m_scx hrv).ok nv) (.of (by kernel_rfl)) R (.inl ⟨R, R, R⟩) R R R R ((.cons R R (.row R (.row R (.row R .nil))))) R R R ((.cons R (.row (.row (.row .nil))))) .nil R R R R (ev_endP ?_)
 refine then_norm (sw_seq (sw_drP (by kernel_rfl) (r_movR R R R (r_nilRef R R R (r_fa tb R R R R R R R (r_fa tb R R R R R R R (r_ldW tb R R R R R R R R R (r_fa tb R R R R R R R (r_ldD (y := .v (.int .i64 a.what)) tb R R R R R R R R R ?_)))))))))
 obtain ⟨e, ie, h⟩ := bnd h
 refine r_ixI tb R R R R R R (ix0 ie) (ix1 ie) R R ?_
 refine r_ldD (y := .v (.int .i64 e)) tb R R R R (ix2 (g := fun a => T.d (vI a)) ie) R R R R ?_
 refine r_fa tb R R R R R R R (r_ldD (y := .v (.int .i64 a.who)) tb R R R R R R R R R (r_eqlV R R R R ?_))
 obtain ⟨rv2, hrv2, h⟩ := bnd h
 rcases ex_or rv2 with ⟨x2, nv2⟩ | ⟨v2, nv2⟩
 ·replace h := (exN nv2).symm.trans h
  refine ev_panD (by kernel_rfl) (by kernel_rfl) ?_
  (with_reducible apply op_call []); exact (pad_demand_scx hrv2).err nv2; exact rfl; exact .of (by kernel_rfl); exact rfl; exact .inl ⟨rfl, rfl, rfl⟩; (iterate 4 exact rfl); exact .nil; exact rfl
  intro cnt
  refine then_pan ?_
  obtain rfl := sI h
  exact fin_pX (L := [some ⟨13, [Scene_T1 v 1 2 3]⟩, some (lvI v.pdState_Zones), some (lvI v.pdState_Holder), some (lvI v.pdState_Squibs)]) (κ := [0, 1, 2, 3]) (vwK R R (.cons R R (.row R (.row R (.row R .nil)))) .nil) (.inr ⟨_, R, R⟩)
 replace h := (exO nv2).symm.trans h
 refine r_callO (t' := .d (.tup [])) (ls := []) (news := []) ([]) ([some ⟨13, [Scene_T1 v 1 2 3]⟩, some (lvI v.pdState_Zones), some (lvI v.pdState_Holder), some (lvI v.pdState_Squibs), some ⟨5, [.d (PdAct.d a)]⟩]) ((pad_demand_scx hrv2).ok nv2) (.of (by kernel_rfl)) R (.inl ⟨R, R, R⟩) R R R R .nil R R R .nil .nil R R R R (ev_endPD (by kernel_rfl) (then_norm (sw_dr (by kernel_rfl) (r_movR R R R (r_nilRef R R R (r_fa tb R R R R R R R (r_fa tb R R R R R R R (r_ldW tb R R R R R R R R R ?_))))))))
 refine r_fa tb R R R R R R R (r_ldD (y := .v (.int .i64 a.what)) tb R R R R R R R R R (r_ixI tb R R R R R R (ix0 ie) (ix1 ie) R R ?_))
 obtain ⟨q, iq, h⟩ := bnd h
 refine r_stQ (a' := ((-1) : Int)) tb R R R R ie R R R R iq R R ?_
 dsimp only [List.set_cons_zero, List.set_cons_succ, PdState_T1, PdState_T2, PdState_T3, Scene_T1]
 first | rw [set_len iq] | skip
 refine ev_endD (by kernel_rfl) ?_
 obtain rfl := sI h
 exact fin_n (fin_S (t := .d (.tup [])) (L := [some ⟨13, [Scene_T1 {v with pdState_Holder := q} 1 2 3]⟩, some (lvI v.pdState_Zones), some (lvI q), some (lvI v.pdState_Squibs)]) (κ := [0, 1, 2, 3]) R .nil (vwK R R (.cons R R (.row R (.row R (.row R .nil)))) (.cons R R .nil)) (.inl ⟨_, R, R, R⟩))
def pad_scene_give_m (F : Nat) (c : Scene) (a : PdAct) : Option (Except Int Scene) := Option.bind (ixO c.pdState_Holder a.what) fun e => Option.bind (pad_demand F (decide (e = a.who)) 174) fun rv => exE rv (fun x => some (.error x)) (fun v => Option.bind (ixO c.pdState_Zones a.with_) fun e2 => Option.bind (ixO c.pdState_Zones a.who) fun e3 => Option.bind (pad_demand F (decide (e2 = e3)) 171) fun rv2 => exE rv2 (fun x2 => some (.error x2)) (fun v2 => Option.bind (setO c.pdState_Holder a.what a.with_) fun q => Option.bind (pad_scene_keyed F {c with pdState_Holder := q} a.who e3) fun rv3 => Option.bind (pad_demand F rv3 178) fun rv4 => exE rv4 (fun x3 => some (.error x3)) (fun v3 => some (.ok {c with pdState_Holder := q}))))
theorem pad_scene_give_m_scx {F : Nat} {c : Scene} {a : PdAct} {r : (Except Int Scene)} (h : pad_scene_give_m F c a = some r) : SCX Try.prog 104 [.ref 0 13 0 0, .d (PdAct.d a)] [some ⟨13, [Scene_T1 c 1 2 3]⟩, some (lvI c.pdState_Zones), some (lvI c.pdState_Holder), some (lvI c.pdState_Squibs)] r 29 (fun (a : Scene) => .d (.tup [])) (fun (a : Scene) => [some ⟨13, [Scene_T1 a 1 2 3]⟩, some (lvI a.pdState_Zones), some (lvI a.pdState_Holder), some (lvI a.pdState_Squibs)]) := by
 rw [pad_scene_give_m] at h
 refine SC.of_sw Try.func104 R R R ?_
 dsimp only [argS, List.map]
 refine qG (r_box R R R R R R R (eN (sw_seq (sw_drP (by kernel_rfl) (r_movR R R R (r_nilRef R R R (r_fa tb R R R R R R R (r_fa tb R R R R R R R (r_ldW tb R R R R R R R R R (r_fa tb R R R R R R R (r_ldD (y := .v (.int .i64 a.what)) tb R R R R R R R R R ?_)))))))))))
 obtain ⟨e, ie, h⟩ := bnd h
 refine r_ixI tb R R R R R R (ix0 ie) (ix1 ie) R R ?_
 refine r_ldD (y := .v (.int .i64 e)) tb R R R R (ix2 (g := fun a => T.d (vI a)) ie) R R R R ?_
 refine r_fa tb R R R R R R R (r_ldD (y := .v (.int .i64 a.who)) tb R R R R R R R R R (r_eqlV R R R R ?_))
 obtain ⟨rv, hrv, h⟩ := bnd h
 rcases ex_or rv with ⟨x, nv⟩ | ⟨v, nv⟩
 ·replace h := (exN nv).symm.trans h
  refine ev_panD (by kernel_rfl) (by kernel_rfl) ?_
  (with_reducible apply op_call []); exact (pad_demand_scx hrv).err nv; exact rfl; exact .of (by kernel_rfl); exact rfl; exact .inl ⟨rfl, rfl, rfl⟩; (iterate 4 exact rfl); exact .nil; exact rfl
  intro cnt
  refine then_pan ?_
  obtain rfl := sI h
  exact fin_pX (L := [some ⟨13, [Scene_T1 c 1 2 3]⟩, some (lvI c.pdState_Zones), some (lvI c.pdState_Holder), some (lvI c.pdState_Squibs)]) (κ := [0, 1, 2, 3]) (vwK R R (.cons R R (.row R (.row R (.row R .nil)))) .nil) (.inr ⟨_, R, R⟩)
 replace h := (exO nv).symm.trans h
 refine r_callO (t' := .d (.tup [])) (ls := []) (news := []) ([]) ([some ⟨13, [Scene_T1 c 1 2 3]⟩, some (lvI c.pdState_Zones), some (lvI c.pdState_Holder), some (lvI c.pdState_Squibs), some ⟨5, [.d (PdAct.d a)]⟩]) ((pad_demand_scx hrv).ok nv) (.of (by kernel_rfl)) R (.inl ⟨R, R, R⟩) R R R R .nil R R R .nil .nil R R R R (ev_endPD (by kernel_rfl) (then_norm (sw_seq (sw_drP (by kernel_rfl) (r_movR R R R (r_nilRef R R R (r_fa tb R R R R R R R (r_fa tb R R R R R R R ?_))))))))
 refine r_ldW tb R R R R R R R R R (r_fa tb R R R R R R R (r_ldD (y := .v (.int .i64 a.with_)) tb R R R R R R R R R ?_))
 obtain ⟨e2, ie2, h⟩ := bnd h
 refine r_ixI tb R R R R R R (ix0 ie2) (ix1 ie2) R R ?_
 refine r_ldD (y := .v (.int .i64 e2)) tb R R R R (ix2 (g := fun a => T.d (vI a)) ie2) R R R R ?_
 refine r_movR R R R (r_nilRef R R R (r_fa tb R R R R R R R (r_fa tb R R R R R R R (r_ldW tb R R R R R R R R R (r_fa tb R R R R R R R (r_ldD (y := .v (.int .i64 a.who)) tb R R R R R R R R R ?_))))))
 obtain ⟨e3, ie3, h⟩ := bnd h
 refine r_ixI tb R R R R R R (ix0 ie3) (ix1 ie3) R R ?_
 refine r_ldD (y := .v (.int .i64 e3)) tb R R R R (ix2 (g := fun a => T.d (vI a)) ie3) R R R R ?_
 refine r_eqlV R R R R ?_
 obtain ⟨rv2, hrv2, h⟩ := bnd h
 rcases ex_or rv2 with ⟨x2, nv2⟩ | ⟨v2, nv2⟩
 ·replace h := (exN nv2).symm.trans h
  refine ev_panD (by kernel_rfl) (by kernel_rfl) ?_
  (with_reducible apply op_call []); exact (pad_demand_scx hrv2).err nv2; exact rfl; exact .of (by kernel_rfl); exact rfl; exact .inl ⟨rfl, rfl, rfl⟩; (iterate 4 exact rfl); exact .nil; exact rfl
  intro cnt
  refine then_pan ?_
  obtain rfl := sI h
  exact fin_pX (L := [some ⟨13, [Scene_T1 c 1 2 3]⟩, some (lvI c.pdState_Zones), some (lvI c.pdState_Holder), some (lvI c.pdState_Squibs)]) (κ := [0, 1, 2, 3]) (vwK R R (.cons R R (.row R (.row R (.row R .nil)))) .nil) (.inr ⟨_, R, R⟩)
 replace h := (exO nv2).symm.trans h
 refine r_callO (t' := .d (.tup [])) (ls := []) (news := []) ([]) ([some ⟨13, [Scene_T1 c 1 2 3]⟩, some (lvI c.pdState_Zones), some (lvI c.pdState_Holder), some (lvI c.pdState_Squibs), some ⟨5, [.d (PdAct.d a)]⟩]) ((pad_demand_scx hrv2).ok nv2) (.of (by kernel_rfl)) R (.inl ⟨R, R, R⟩) R R R R .nil R R R .nil .nil R R R R (ev_endPD (by kernel_rfl) (then_norm (sw_seq (sw_dr (by kernel_rfl) (r_movR R R R (r_nilRef R R R (r_fa tb R R R R R R R (r_fa tb R R R R R R R ?_))))))))
 refine r_ldW tb R R R R R R R R R (r_fa tb R R R R R R R (r_ldD (y := .v (.int .i64 a.what)) tb R R R R R R R R R (r_fa tb R R R R R R R (r_ldD (y := .v (.int .i64 a.with_)) tb R R R R R R R R R (r_ixI tb R R R R R R (ix0 ie) (ix1 ie) R R ?_)))))
 obtain ⟨q, iq, h⟩ := bnd h
 refine r_stQ (a' := (a.with_ : Int)) tb R R R R ie R R R R iq R R ?_
 dsimp only [List.set_cons_zero, List.set_cons_succ, PdState_T1, PdState_T2, PdState_T3, Scene_T1]
 first | rw [set_len iq] | skip
 refine ev_endD (by kernel_rfl) (then_norm (sw_drP (by kernel_rfl) (r_movR R R R (r_fa tb R R R R R R R (r_ldD (y := .v (.int .i64 a.who)) tb R R R R R R R R R (r_movR R R R (r_nilRef R R R (r_fa tb R R R R R R R (r_fa tb R R R R R R R (r_ldW tb R R R R R R R R R (r_fa tb R R R R R R R (r_ldD (y := .v (.int .i64 a.who)) tb R R R R R R R R R (r_ixI tb R R R R R R (ix0 ie3) (ix1 ie3) R R ?_)))))))))))))
 refine r_ldD (y := .v (.int .i64 e3)) tb R R R R (ix2 (g := fun a => T.d (vI a)) ie3) R R R R ?_
 obtain ⟨rv3, hrv3, h⟩ := bnd h
 refine r_callL (pad_scene_keyed_pc hrv3) R (.of (by kernel_rfl)) R R ((.cons (.ref R (.aggL (.cons (.d _) (.cons (.d _) (.cons (.d _) (.cons (.d _) (.cons (.d _) (.cons (.d _) (.cons (.d _) (.cons (.d _) (.cons (.row R R) (.cons (.row R R) (.cons (.row R R) (.cons (.d _) (.cons (.d _) .nil))))))))))))))) (.cons (.d _) (.cons (.d _) .nil)))) R R ?_
 obtain ⟨rv4, hrv4, h⟩ := bnd h
 rcases ex_or rv4 with ⟨x3, nv3⟩ | ⟨v3, nv3⟩
 ·replace h := (exN nv3).symm.trans h
  refine ev_panD (by kernel_rfl) (by kernel_rfl) ?_
  (with_reducible apply op_call []); exact (pad_demand_scx hrv4).err nv3; exact rfl; exact .of (by kernel_rfl); exact rfl; exact .inl ⟨rfl, rfl, rfl⟩; (iterate 4 exact rfl); exact .nil; exact rfl
  intro cnt
  obtain rfl := sI h
  exact fin_pX (L := [some ⟨13, [Scene_T1 {c with pdState_Holder := q} 1 2 3]⟩, some (lvI c.pdState_Zones), some (lvI q), some (lvI c.pdState_Squibs)]) (κ := [0, 1, 2, 3]) (vwK R R (.cons R R (.row R (.row R (.row R .nil)))) .nil) (.inr ⟨_, R, R⟩)
 replace h := (exO nv3).symm.trans h
 refine r_callO (t' := .d (.tup [])) (ls := []) (news := []) ([]) ([some ⟨13, [Scene_T1 {c with pdState_Holder := q} 1 2 3]⟩, some (lvI c.pdState_Zones), some (lvI q), some (lvI c.pdState_Squibs), some ⟨5, [.d (PdAct.d a)]⟩]) ((pad_demand_scx hrv4).ok nv3) (.of (by kernel_rfl)) R (.inl ⟨R, R, R⟩) R R R R .nil R R R .nil .nil R R R R (ev_endPD (by kernel_rfl) ?_)
 obtain rfl := sI h
 exact fin_n (fin_S (t := .d (.tup [])) (L := [some ⟨13, [Scene_T1 {c with pdState_Holder := q} 1 2 3]⟩, some (lvI c.pdState_Zones), some (lvI q), some (lvI c.pdState_Squibs)]) (κ := [0, 1, 2, 3]) R .nil (vwK R R (.cons R R (.row R (.row R (.row R .nil)))) (.cons R R .nil)) (.inl ⟨_, R, R, R⟩))
def pad_scene_badge_m (F : Nat) (c : Scene) (a : PdAct) : Option (Except Int Scene) := Option.bind (pad_scene_atPanel_m F c a.who) fun rv => exE rv (fun x => some (.error x)) (fun v => Option.bind (ixO v.p_People a.who) fun e => Option.bind (ixO v.p_Squibs a.what) fun e2 => Option.bind (pad_demand F (decide (e2.grade ≤ e.grade)) 172) fun rv2 => exE rv2 (fun x2 => some (.error x2)) (fun v2 => some (.ok v)))
theorem pad_scene_badge_m_scx {F : Nat} {c : Scene} {a : PdAct} {r : (Except Int Scene)} (h : pad_scene_badge_m F c a = some r) : SCX Try.prog 118 [.ref 0 13 0 0, .d (PdAct.d a)] [some ⟨13, [Scene_T1 c 1 2 3]⟩, some (lvI c.pdState_Zones), some (lvI c.pdState_Holder), some (lvI c.pdState_Squibs)] r 29 (fun (a : Scene) => .d (.tup [])) (fun (a : Scene) => [some ⟨13, [Scene_T1 a 1 2 3]⟩, some (lvI a.pdState_Zones), some (lvI a.pdState_Holder), some (lvI a.pdState_Squibs)]) := by
 rw [pad_scene_badge_m] at h
 refine SC.of_sw Try.func118 R R R ?_
 dsimp only [argS, List.map]
 refine qG (r_box R R R R R R R (eN (sw_seq (sw_rgP (r_movR R R R (r_fa tb R R R R R R R (r_ldD (y := .v (.int .i64 a.who)) tb R R R R R R R R R ?_)))))))
 obtain ⟨rv, hrv, h⟩ := bnd h
 rcases ex_or rv with ⟨x, nv⟩ | ⟨v, nv⟩
 ·replace h := (exN nv).symm.trans h
  refine ev_pan ?_
  (with_reducible apply op_call [0, 1, 2, 3]); exact (pad_scene_atPanel_m_scx hrv).err nv; exact rfl; exact .of (by kernel_rfl); exact rfl; exact .inl ⟨rfl, rfl, rfl⟩; (iterate 4 exact rfl); exact (.cons rfl rfl (.row rfl (.row rfl (.row rfl .nil)))); exact rfl
  intro cnt
  refine then_pan ?_
  obtain rfl := sI h
  exact fin_pX (L := [none, none, none, none]) (κ := [0, 1, 2, 3]) (vwK R R (.gone R (.gone R (.gone R (.gone R .nil)))) .nil) (.inr ⟨_, R, R⟩)
 replace h := (exO nv).symm.trans h
 refine r_callO (t' := .d (.tup [])) (ls := [some ⟨13, [Scene_T1 v 1 2 3]⟩, some (lvI v.pdState_Zones), some (lvI v.pdState_Holder), some (lvI v.pdState_Squibs)]) (news := []) ([0, 1, 2, 3]) ([some ⟨13, [Scene_T1 v 1 2 3]⟩, some (lvI v.pdState_Zones), some (lvI v.pdState_Holder), some (lvI v.pdState_Squibs), some ⟨5, [.d (PdAct.d a)]⟩]) ((pad_scene_atPanel_m_scx hrv).ok nv) (.of (by kernel_rfl)) R (.inl ⟨R, R, R⟩) R R R R ((.cons R R (.row R (.row R (.row R .nil))))) R R R ((.cons R (.row (.row (.row .nil))))) .nil R R R R (ev_endP ?_)
 refine then_norm (sw_drP (by kernel_rfl) (r_movR R R R (r_nilRef R R R (r_fa tb R R R R R R R (r_fa tb R R R R R R R (r_ldD (y := .arr 2 ((v.p_People).map PdPerson.d)) tb R R R R R R R R R (r_fa tb R R R R R R R (r_ldD (y := .v (.int .i64 a.who)) tb R R R R R R R R R ?_))))))))
 obtain ⟨e, ie, h⟩ := bnd h
 refine r_ixE tb R R R R R R (ix0 ie) (ix1m ie) R R (r_faE tb R R R R R R R (r_ldE (y := .v (.int .i64 e.grade)) tb R R (ix2 (g := PdPerson.d) ie) R R R R (r_movR R R R (r_nilRef R R R (r_fa tb R R R R R R R (r_fa tb R R R R R R R (r_ldD (y := .arr 6 ((v.p_Squibs).map PdSquib.d)) tb R R R R R R R R R (r_fa tb R R R R R R R (r_ldD (y := .v (.int .i64 a.what)) tb R R R R R R R R R ?_)))))))))
 obtain ⟨e2, ie2, h⟩ := bnd h
 refine r_ixE tb R R R R R R (ix0 ie2) (ix1m ie2) R R (r_faE tb R R R R R R R (r_ldE (y := .v (.int .i64 e2.grade)) tb R R (ix2 (g := PdSquib.d) ie2) R R R R (r_geqV R R R R ?_)))
 obtain ⟨rv2, hrv2, h⟩ := bnd h
 rcases ex_or rv2 with ⟨x2, nv2⟩ | ⟨v2, nv2⟩
 ·replace h := (exN nv2).symm.trans h
  refine ev_panD (by kernel_rfl) (by kernel_rfl) ?_
  (with_reducible apply op_call []); exact (pad_demand_scx hrv2).err nv2; exact rfl; exact .of (by kernel_rfl); exact rfl; exact .inl ⟨rfl, rfl, rfl⟩; (iterate 4 exact rfl); exact .nil; exact rfl
  intro cnt
  obtain rfl := sI h
  exact fin_pX (L := [some ⟨13, [Scene_T1 v 1 2 3]⟩, some (lvI v.pdState_Zones), some (lvI v.pdState_Holder), some (lvI v.pdState_Squibs)]) (κ := [0, 1, 2, 3]) (vwK R R (.cons R R (.row R (.row R (.row R .nil)))) .nil) (.inr ⟨_, R, R⟩)
 replace h := (exO nv2).symm.trans h
 refine r_callO (t' := .d (.tup [])) (ls := []) (news := []) ([]) ([some ⟨13, [Scene_T1 v 1 2 3]⟩, some (lvI v.pdState_Zones), some (lvI v.pdState_Holder), some (lvI v.pdState_Squibs), some ⟨5, [.d (PdAct.d a)]⟩]) ((pad_demand_scx hrv2).ok nv2) (.of (by kernel_rfl)) R (.inl ⟨R, R, R⟩) R R R R .nil R R R .nil .nil R R R R (ev_endPD (by kernel_rfl) ?_)
 obtain rfl := sI h
 exact fin_n (fin_S (t := .d (.tup [])) (L := [some ⟨13, [Scene_T1 v 1 2 3]⟩, some (lvI v.pdState_Zones), some (lvI v.pdState_Holder), some (lvI v.pdState_Squibs)]) (κ := [0, 1, 2, 3]) R .nil (vwK R R (.cons R R (.row R (.row R (.row R .nil)))) (.cons R R .nil)) (.inl ⟨_, R, R, R⟩))
def pad_scene_arm_m_J1 (F : Nat) (a : PdAct) (v : Scene) : Option (Except Int Scene) := Option.bind (setO v.pdState_Squibs a.what 1) fun q => some (.ok {v with pdState_Squibs := q})
def pad_scene_arm_m (F : Nat) (c : Scene) (a : PdAct) : Option (Except Int Scene) := Option.bind (pad_scene_badge_m F c a) fun rv => exE rv (fun x => some (.error x)) (fun v => Option.bind (ixO v.pdState_Squibs a.what) fun e => Option.bind (pad_demand F (decide (e = 0)) 177) fun rv2 => exE rv2 (fun x2 => some (.error x2)) (fun v2 => Option.bind (pad_demand F (!v.pdState_Storm) 173) fun rv3 => exE rv3 (fun x3 => some (.error x3)) (fun v3 => Option.bind (pad_scene_owed F v a.what) fun rv4 => Option.bind (pad_demand F (decide ((rv4.length : Int) = 0)) 174) fun rv5 => exE rv5 (fun x4 => some (.error x4)) (fun v4 => if 0 ≤ v.pdState_Siren then (Option.bind (pad_demand F (decide (v.p_Wait ≤ (W (a.at_ - v.pdState_Siren)))) 179) fun rv6 => exE rv6 (fun x5 => some (.error x5)) (fun v5 => pad_scene_arm_m_J1 F a v)) else (Option.bind (pad_demand F false 179) fun rv7 => exE rv7 (fun x6 => some (.error x6)) (fun v6 => pad_scene_arm_m_J1 F a v))))))
theorem pad_scene_arm_m_scx {F : Nat} {c : Scene} {a : PdAct} {r : (Except Int Scene)} (h : pad_scene_arm_m F c a = some r) : SCX Try.prog 105 [.ref 0 13 0 0, .d (PdAct.d a)] [some ⟨13, [Scene_T1 c 1 2 3]⟩, some (lvI c.pdState_Zones), some (lvI c.pdState_Holder), some (lvI c.pdState_Squibs)] r 29 (fun (a : Scene) => .d (.tup [])) (fun (a : Scene) => [some ⟨13, [Scene_T1 a 1 2 3]⟩, some (lvI a.pdState_Zones), some (lvI a.pdState_Holder), some (lvI a.pdState_Squibs)]) := by
 rw [pad_scene_arm_m] at h
 refine SC.of_sw Try.func105 R R R ?_
 dsimp only [argS, List.map]
 refine qG (r_box R R R R R R R (eN (sw_seq (sw_rgP (r_movR R R R (r_ldD (y := PdAct.d a) tb R R R R R R R R R ?_))))))
 obtain ⟨rv, hrv, h⟩ := bnd h
 rcases ex_or rv with ⟨x, nv⟩ | ⟨v, nv⟩
 ·replace h := (exN nv).symm.trans h
  refine ev_pan ?_
  (with_reducible apply op_call [0, 1, 2, 3]); exact (pad_scene_badge_m_scx hrv).err nv; exact rfl; exact .of (by kernel_rfl); exact rfl; exact .inl ⟨rfl, rfl, rfl⟩; (iterate 4 exact rfl); exact (.cons rfl rfl (.row rfl (.row rfl (.row rfl .nil)))); exact rfl
  intro cnt
  refine then_pan ?_
  obtain rfl := sI h
  exact fin_pX (L := [none, none, none, none]) (κ := [0, 1, 2, 3]) (vwK R R (.gone R (.gone R (.gone R (.gone R .nil)))) .nil) (.inr ⟨_, R, R⟩)
 replace h := (exO nv).symm.trans h
 refine r_callO (t' := .d (.tup [])) (ls := [some ⟨13, [Scene_T1 v 1 2 3]⟩, some (lvI v.pdState_Zones), some (lvI v.pdState_Holder), some (lvI v.pdState_Squibs)]) (news := []) ([0, 1, 2, 3]) ([some ⟨13, [Scene_T1 v 1 2 3]⟩, some (lvI v.pdState_Zones), some (lvI v.pdState_Holder), some (lvI v.pdState_Squibs), some ⟨5, [.d (PdAct.d a)]⟩]) ((pad_scene_badge_m_scx hrv).ok nv) (.of (by kernel_rfl)) R (.inl ⟨R, R, R⟩) R R R R ((.cons R R (.row R (.row R (.row R .nil))))) R R R ((.cons R (.row (.row (.row .nil))))) .nil R R R R (ev_endP ?_)
 refine then_norm (sw_seq (sw_drP (by kernel_rfl) (r_movR R R R (r_nilRef R R R (r_fa tb R R R R R R R (r_fa tb R R R R R R R (r_ldW tb R R R R R R R R R (r_fa tb R R R R R R R (r_ldD (y := .v (.int .i64 a.what)) tb R R R R R R R R R ?_)))))))))
 obtain ⟨e, ie, h⟩ := bnd h
 refine r_ixI tb R R R R R R (ix0 ie) (ix1 ie) R R ?_
 refine r_ldD (y := .v (.int .i64 e)) tb R R R R (ix2 (g := fun a => T.d (vI a)) ie) R R R R ?_
 refine r_eqlV R R R R ?_
 obtain ⟨rv2, hrv2, h⟩ := bnd h
 rcases ex_or rv2 with ⟨x2, nv2⟩ | ⟨v2, nv2⟩
 ·replace h := (exN nv2).symm.trans h
  refine ev_panD (by kernel_rfl) (by kernel_rfl) ?_
  (with_reducible apply op_call []); exact (pad_demand_scx hrv2).err nv2; exact rfl; exact .of (by kernel_rfl); exact rfl; exact .inl ⟨rfl, rfl, rfl⟩; (iterate 4 exact rfl); exact .nil; exact rfl
  intro cnt
  refine then_pan ?_
  obtain rfl := sI h
  exact fin_pX (L := [some ⟨13, [Scene_T1 v 1 2 3]⟩, some (lvI v.pdState_Zones), some (lvI v.pdState_Holder), some (lvI v.pdState_Squibs)]) (κ := [0, 1, 2, 3]) (vwK R R (.cons R R (.row R (.row R (.row R .nil)))) .nil) (.inr ⟨_, R, R⟩)
 replace h := (exO nv2).symm.trans h
 refine r_callO (t' := .d (.tup [])) (ls := []) (news := []) ([]) ([some ⟨13, [Scene_T1 v 1 2 3]⟩, some (lvI v.pdState_Zones), some (lvI v.pdState_Holder), some (lvI v.pdState_Squibs), some ⟨5, [.d (PdAct.d a)]⟩]) ((pad_demand_scx hrv2).ok nv2) (.of (by kernel_rfl)) R (.inl ⟨R, R, R⟩) R R R R .nil R R R .nil .nil R R R R (ev_endPD (by kernel_rfl) (then_norm (sw_seq (sw_rgP (r_movR R R R (r_nilRef R R R (r_fa tb R R R R R R R (r_fa tb R R R R R R R ?_))))))))
 refine r_ldD (y := .v (.bool v.pdState_Storm)) tb R R R R R R R R R (r_not R R R ?_)
 obtain ⟨rv3, hrv3, h⟩ := bnd h
 rcases ex_or rv3 with ⟨x3, nv3⟩ | ⟨v3, nv3⟩
 ·replace h := (exN nv3).symm.trans h
  refine ev_pan ?_
  (with_reducible apply op_call []); exact (pad_demand_scx hrv3).err nv3; exact rfl; exact .of (by kernel_rfl); exact rfl; exact .inl ⟨rfl, rfl, rfl⟩; (iterate 4 exact rfl); exact .nil; exact rfl
  intro cnt
  refine then_pan ?_
  obtain rfl := sI h
  exact fin_pX (L := [some ⟨13, [Scene_T1 v 1 2 3]⟩, some (lvI v.pdState_Zones), some (lvI v.pdState_Holder), some (lvI v.pdState_Squibs)]) (κ := [0, 1, 2, 3]) (vwK R R (.cons R R (.row R (.row R (.row R .nil)))) .nil) (.inr ⟨_, R, R⟩)
 replace h := (exO nv3).symm.trans h
 refine r_callO (t' := .d (.tup [])) (ls := []) (news := []) ([]) ([some ⟨13, [Scene_T1 v 1 2 3]⟩, some (lvI v.pdState_Zones), some (lvI v.pdState_Holder), some (lvI v.pdState_Squibs), some ⟨5, [.d (PdAct.d a)]⟩]) ((pad_demand_scx hrv3).ok nv3) (.of (by kernel_rfl)) R (.inl ⟨R, R, R⟩) R R R R .nil R R R .nil .nil R R R R (ev_endP (then_norm (sw_seq (sw_rgP (r_movR R R R (r_fa tb R R R R R R R (r_ldD (y := .v (.int .i64 a.what)) tb R R R R R R R R R ?_)))))))
 obtain ⟨rv4, hrv4, h⟩ := bnd h
 refine r_callLN (t' := .row 5 1 0 (rv4).length) (news' := [(lvI rv4)]) (pad_scene_owed_scr hrv4) R ((.row (fun _ => rfl) .nil)) (.of (by kernel_rfl)) R R ((.cons (.ref R (.aggL (.cons (.d _) (.cons (.d _) (.cons (.d _) (.cons (.d _) (.cons (.d _) (.cons (.d _) (.cons (.d _) (.cons (.d _) (.cons (.row R R) (.cons (.row R R) (.cons (.row R R) (.cons (.d _) (.cons (.d _) .nil))))))))))))))) (.cons (.d _) .nil))) R ((.row .nil)) R R R ?_
 refine r_lenR tb R R R R R (r_eqlV R R R R ?_)
 obtain ⟨rv5, hrv5, h⟩ := bnd h
 rcases ex_or rv5 with ⟨x4, nv4⟩ | ⟨v4, nv4⟩
 ·replace h := (exN nv4).symm.trans h
  refine ev_pan ?_
  (with_reducible apply op_call []); exact (pad_demand_scx hrv5).err nv4; exact rfl; exact .of (by kernel_rfl); exact rfl; exact .inl ⟨rfl, rfl, rfl⟩; (iterate 4 exact rfl); exact .nil; exact rfl
  intro cnt
  refine then_pan ?_
  obtain rfl := sI h
  exact fin_pX (L := [some ⟨13, [Scene_T1 v 1 2 3]⟩, some (lvI v.pdState_Zones), some (lvI v.pdState_Holder), some (lvI v.pdState_Squibs)]) (κ := [0, 1, 2, 3]) (vwK R R (.cons R R (.row R (.row R (.row R .nil)))) .nil) (.inr ⟨_, R, R⟩)
 replace h := (exO nv4).symm.trans h
 refine r_callO (t' := .d (.tup [])) (ls := []) (news := []) ([]) ([some ⟨13, [Scene_T1 v 1 2 3]⟩, some (lvI v.pdState_Zones), some (lvI v.pdState_Holder), some (lvI v.pdState_Squibs), some ⟨5, [.d (PdAct.d a)]⟩, some (lvI rv4)]) ((pad_demand_scx hrv5).ok nv4) (.of (by kernel_rfl)) R (.inl ⟨R, R, R⟩) R R R R .nil R R R .nil .nil R R R R (ev_endP (then_norm (sw_seq ?_)))
 refine sw_join (fun zz : Unit => pad_scene_arm_m_J1 F a v = some r) (fun zz : Unit => ⟨[(0, .ref 0 13 0 0), (3, .ref 4 5 0 0)], [some ⟨13, [Scene_T1 v 1 2 3]⟩, some (lvI v.pdState_Zones), some (lvI v.pdState_Holder), some (lvI v.pdState_Squibs), some ⟨5, [.d (PdAct.d a)]⟩]⟩) ?_ ?_
 ·clear h
  rintro ⟨⟩ h
  rw [pad_scene_arm_m_J1] at h
  refine sw_dr (by kernel_rfl) (r_movR R R R (r_nilRef R R R (r_fa tb R R R R R R R (r_fa tb R R R R R R R (r_ldW tb R R R R R R R R R (r_fa tb R R R R R R R (r_ldD (y := .v (.int .i64 a.what)) tb R R R R R R R R R (r_ixI tb R R R R R R (ix0 ie) (ix1 ie) R R ?_))))))))
  obtain ⟨q, iq, h⟩ := bnd h
  refine r_stQ (a' := (1 : Int)) tb R R R R ie R R R R iq R R ?_
  dsimp only [List.set_cons_zero, List.set_cons_succ, PdState_T1, PdState_T2, PdState_T3, Scene_T1]
  first | rw [set_len iq] | skip
  refine ev_endD (by kernel_rfl) ?_
  obtain rfl := sI h
  exact fin_n (fin_S (t := .d (.tup [])) (L := [some ⟨13, [Scene_T1 {v with pdState_Squibs := q} 1 2 3]⟩, some (lvI v.pdState_Zones), some (lvI v.pdState_Holder), some (lvI q)]) (κ := [0, 1, 2, 3]) R .nil (vwK R R (.cons R R (.row R (.row R (.row R .nil)))) (.cons R R .nil)) (.inl ⟨_, R, R, R⟩))
 refine sw_drP (by kernel_rfl) (r_movR R R R (r_nilRef R R R (r_fa tb R R R R R R R (r_fa tb R R R R R R R (r_ldD (y := .v (.int .i64 v.pdState_Siren)) tb R R R R R R R R R ?_)))))
 refine r_geq R R R R ?_ ?_
 ·intro c2
  replace h := ifP c2 h
  refine r_movD R R R (r_fa tb R R R R R R R (r_ldD (y := .v (.int .i64 a.at_)) tb R R R R R R R R R (r_movR R R R (r_nilRef R R R (r_fa tb R R R R R R R (r_fa tb R R R R R R R (r_ldD (y := .v (.int .i64 v.pdState_Siren)) tb R R R R R R R R R (r_sub R R R R (r_movR R R R (r_nilRef R R R (r_fa tb R R R R R R R (r_fa tb R R R R R R R (r_ldD (y := .v (.int .i64 v.p_Wait)) tb R R R R R R R R R ?_)))))))))))))
  refine r_geqV R R R R (r_pickT R R R R ?_)
  obtain ⟨rv6, hrv6, h⟩ := bnd h
  rcases ex_or rv6 with ⟨x5, nv5⟩ | ⟨v5, nv5⟩
  ·replace h := (exN nv5).symm.trans h
   refine ev_panD (by kernel_rfl) (by kernel_rfl) ?_
   (with_reducible apply op_call []); exact (pad_demand_scx hrv6).err nv5; exact rfl; exact .of (by kernel_rfl); exact rfl; exact .inl ⟨rfl, rfl, rfl⟩; (iterate 4 exact rfl); exact .nil; exact rfl
   intro cnt
   refine then_pan ?_
   obtain rfl := sI h
   exact fin_pX (L := [some ⟨13, [Scene_T1 v 1 2 3]⟩, some (lvI v.pdState_Zones), some (lvI v.pdState_Holder), some (lvI v.pdState_Squibs)]) (κ := [0, 1, 2, 3]) (vwK R R (.cons R R (.row R (.row R (.row R .nil)))) .nil) (.inr ⟨_, R, R⟩)
  replace h := (exO nv5).symm.trans h
  refine r_callO (t' := .d (.tup [])) (ls := []) (news := []) ([]) ([some ⟨13, [Scene_T1 v 1 2 3]⟩, some (lvI v.pdState_Zones), some (lvI v.pdState_Holder), some (lvI v.pdState_Squibs), some ⟨5, [.d (PdAct.d a)]⟩, some (lvI rv4)]) ((pad_demand_scx hrv6).ok nv5) (.of (by kernel_rfl)) R (.inl ⟨R, R, R⟩) R R R R .nil R R R .nil .nil R R R R (ev_endPD (by kernel_rfl) (then_norm ?_))
  exact .inl ⟨(), h, .vw (κ := [0, 1, 2, 3, 4]) (vwK R R (.cons R R (.row R (.row R (.row R (.cons R R .nil))))) (.cons R R (.cons R R .nil)))⟩
 intro c2
 replace h := ifN (Int.not_le.2 c2) h
 refine r_movD R R R (r_skip R R R (r_skip R R R (r_skip R R R (r_skip R R R (r_skip R R R (r_skip R R R (r_skip R R R (r_skip R R R (r_skip R R R (r_skip R R R (r_skip R R R (r_skip R R R (r_skip R R R (r_skip R R R (r_pickF R R R R ?_)))))))))))))))
 obtain ⟨rv7, hrv7, h⟩ := bnd h
 rcases ex_or rv7 with ⟨x6, nv6⟩ | ⟨v6, nv6⟩
 ·replace h := (exN nv6).symm.trans h
  refine ev_panD (by kernel_rfl) (by kernel_rfl) ?_
  (with_reducible apply op_call []); exact (pad_demand_scx hrv7).err nv6; exact rfl; exact .of (by kernel_rfl); exact rfl; exact .inl ⟨rfl, rfl, rfl⟩; (iterate 4 exact rfl); exact .nil; exact rfl
  intro cnt
  refine then_pan ?_
  obtain rfl := sI h
  exact fin_pX (L := [some ⟨13, [Scene_T1 v 1 2 3]⟩, some (lvI v.pdState_Zones), some (lvI v.pdState_Holder), some (lvI v.pdState_Squibs)]) (κ := [0, 1, 2, 3]) (vwK R R (.cons R R (.row R (.row R (.row R .nil)))) .nil) (.inr ⟨_, R, R⟩)
 replace h := (exO nv6).symm.trans h
 refine r_callO (t' := .d (.tup [])) (ls := []) (news := []) ([]) ([some ⟨13, [Scene_T1 v 1 2 3]⟩, some (lvI v.pdState_Zones), some (lvI v.pdState_Holder), some (lvI v.pdState_Squibs), some ⟨5, [.d (PdAct.d a)]⟩, some (lvI rv4)]) ((pad_demand_scx hrv7).ok nv6) (.of (by kernel_rfl)) R (.inl ⟨R, R, R⟩) R R R R .nil R R R .nil .nil R R R R (ev_endPD (by kernel_rfl) (then_norm ?_))
 exact .inl ⟨(), h, .vw (κ := [0, 1, 2, 3, 4]) (vwK R R (.cons R R (.row R (.row R (.row R (.cons R R .nil))))) (.cons R R (.cons R R .nil)))⟩
def pad_scene_disarm_m (F : Nat) (c : Scene) (a : PdAct) : Option (Except Int Scene) := Option.bind (pad_scene_atPanel_m F c a.who) fun rv => exE rv (fun x => some (.error x)) (fun v => Option.bind (ixO v.pdState_Squibs a.what) fun e => Option.bind (pad_demand F (decide (e = 1)) 177) fun rv2 => exE rv2 (fun x2 => some (.error x2)) (fun v2 => Option.bind (setO v.pdState_Squibs a.what 0) fun q => some (.ok {v with pdState_Squibs := q})))
theorem pad_scene_disarm_m_scx {F : Nat} {c : Scene} {a : PdAct} {r : (Except Int Scene)} (h : pad_scene_disarm_m F c a = some r) : SCX Try.prog 106 [.ref 0 13 0 0, .d (PdAct.d a)] [some ⟨13, [Scene_T1 c 1 2 3]⟩, some (lvI c.pdState_Zones), some (lvI c.pdState_Holder), some (lvI c.pdState_Squibs)] r 29 (fun (a : Scene) => .d (.tup [])) (fun (a : Scene) => [some ⟨13, [Scene_T1 a 1 2 3]⟩, some (lvI a.pdState_Zones), some (lvI a.pdState_Holder), some (lvI a.pdState_Squibs)]) := by
 rw [pad_scene_disarm_m] at h
 refine SC.of_sw Try.func106 R R R ?_
 dsimp only [argS, List.map]
 refine qG (r_box R R R R R R R (eN (sw_seq (sw_rgP (r_movR R R R (r_fa tb R R R R R R R (r_ldD (y := .v (.int .i64 a.who)) tb R R R R R R R R R ?_)))))))
 obtain ⟨rv, hrv, h⟩ := bnd h
 rcases ex_or rv with ⟨x, nv⟩ | ⟨v, nv⟩
 ·replace h := (exN nv).symm.trans h
  refine ev_pan ?_
  (with_reducible apply op_call [0, 1, 2, 3]); exact (pad_scene_atPanel_m_scx hrv).err nv; exact rfl; exact .of (by kernel_rfl); exact rfl; exact .inl ⟨rfl, rfl, rfl⟩; (iterate 4 exact rfl); exact (.cons rfl rfl (.row rfl (.row rfl (.row rfl .nil)))); exact rfl
  intro cnt
  refine then_pan ?_
  obtain rfl := sI h
  exact fin_pX (L := [none, none, none, none]) (κ := [0, 1, 2, 3]) (vwK R R (.gone R (.gone R (.gone R (.gone R .nil)))) .nil) (.inr ⟨_, R, R⟩)
 replace h := (exO nv).symm.trans h
 refine r_callO (t' := .d (.tup [])) (ls := [some ⟨13, [Scene_T1 v 1 2 3]⟩, some (lvI v.pdState_Zones), some (lvI v.pdState_Holder), some (lvI v.pdState_Squibs)]) (news := []) ([0, 1, 2, 3]) ([some ⟨13, [Scene_T1 v 1 2 3]⟩, some (lvI v.pdState_Zones), some (lvI v.pdState_Holder), some (lvI v.pdState_Squibs), some ⟨5, [.d (PdAct.d a)]⟩]) ((pad_scene_atPanel_m_scx hrv).ok nv) (.of (by kernel_rfl)) R (.inl ⟨R, R, R⟩) R R R R ((.cons R R (.row R (.row R (.row R .nil))))) R R R ((.cons R (.row (.row (.row .nil))))) .nil R R R R (ev_endP ?_)
 refine then_norm (sw_seq (sw_drP (by kernel_rfl) (r_movR R R R (r_nilRef R R R (r_fa tb R R R R R R R (r_fa tb R R R R R R R (r_ldW tb R R R R R R R R R (r_fa tb R R R R R R R (r_ldD (y := .v (.int .i64 a.what)) tb R R R R R R R R R ?_)))))))))
 obtain ⟨e, ie, h⟩ := bnd h
 refine r_ixI tb R R R R R R (ix0 ie) (ix1 ie) R R ?_
 refine r_ldD (y := .v (.int .i64 e)) tb R R R R (ix2 (g := fun a => T.d (vI a)) ie) R R R R ?_
 refine r_eqlV R R R R ?_
 obtain ⟨rv2, hrv2, h⟩ := bnd h
 rcases ex_or rv2 with ⟨x2, nv2⟩ | ⟨v2, nv2⟩
 ·replace h := (exN nv2).symm.trans h
  refine ev_panD (by kernel_rfl) (by kernel_rfl) ?_
  (with_reducible apply op_call []); exact (pad_demand_scx hrv2).err nv2; exact rfl; exact .of (by kernel_rfl); exact rfl; exact .inl ⟨rfl, rfl, rfl⟩; (iterate 4 exact rfl); exact .nil; exact rfl
  intro cnt
  refine then_pan ?_
  obtain rfl := sI h
  exact fin_pX (L := [some ⟨13, [Scene_T1 v 1 2 3]⟩, some (lvI v.pdState_Zones), some (lvI v.pdState_Holder), some (lvI v.pdState_Squibs)]) (κ := [0, 1, 2, 3]) (vwK R R (.cons R R (.row R (.row R (.row R .nil)))) .nil) (.inr ⟨_, R, R⟩)
 replace h := (exO nv2).symm.trans h
 refine r_callO (t' := .d (.tup [])) (ls := []) (news := []) ([]) ([some ⟨13, [Scene_T1 v 1 2 3]⟩, some (lvI v.pdState_Zones), some (lvI v.pdState_Holder), some (lvI v.pdState_Squibs), some ⟨5, [.d (PdAct.d a)]⟩]) ((pad_demand_scx hrv2).ok nv2) (.of (by kernel_rfl)) R (.inl ⟨R, R, R⟩) R R R R .nil R R R .nil .nil R R R R (ev_endPD (by kernel_rfl) (then_norm (sw_dr (by kernel_rfl) (r_movR R R R (r_nilRef R R R (r_fa tb R R R R R R R (r_fa tb R R R R R R R (r_ldW tb R R R R R R R R R ?_))))))))
 refine r_fa tb R R R R R R R (r_ldD (y := .v (.int .i64 a.what)) tb R R R R R R R R R (r_ixI tb R R R R R R (ix0 ie) (ix1 ie) R R ?_))
 obtain ⟨q, iq, h⟩ := bnd h
 refine r_stQ (a' := (0 : Int)) tb R R R R ie R R R R iq R R ?_
 dsimp only [List.set_cons_zero, List.set_cons_succ, PdState_T1, PdState_T2, PdState_T3, Scene_T1]
 first | rw [set_len iq] | skip
 refine ev_endD (by kernel_rfl) ?_
 obtain rfl := sI h
 exact fin_n (fin_S (t := .d (.tup [])) (L := [some ⟨13, [Scene_T1 {v with pdState_Squibs := q} 1 2 3]⟩, some (lvI v.pdState_Zones), some (lvI v.pdState_Holder), some (lvI q)]) (κ := [0, 1, 2, 3]) R .nil (vwK R R (.cons R R (.row R (.row R (.row R .nil)))) (.cons R R .nil)) (.inl ⟨_, R, R, R⟩))
def pad_scene_fire_m (F : Nat) (c : Scene) (a : PdAct) : Option (Except Int Scene) := Option.bind (pad_scene_badge_m F c a) fun rv => exE rv (fun x => some (.error x)) (fun v => Option.bind (ixO v.pdState_Squibs a.what) fun e => Option.bind (pad_demand F (decide (e = 1)) 177) fun rv2 => exE rv2 (fun x2 => some (.error x2)) (fun v2 => Option.bind (setO v.pdState_Squibs a.what 2) fun q => some (.ok {v with pdState_Squibs := q})))
theorem pad_scene_fire_m_scx {F : Nat} {c : Scene} {a : PdAct} {r : (Except Int Scene)} (h : pad_scene_fire_m F c a = some r) : SCX Try.prog 107 [.ref 0 13 0 0, .d (PdAct.d a)] [some ⟨13, [Scene_T1 c 1 2 3]⟩, some (lvI c.pdState_Zones), some (lvI c.pdState_Holder), some (lvI c.pdState_Squibs)] r 29 (fun (a : Scene) => .d (.tup [])) (fun (a : Scene) => [some ⟨13, [Scene_T1 a 1 2 3]⟩, some (lvI a.pdState_Zones), some (lvI a.pdState_Holder), some (lvI a.pdState_Squibs)]) := by
 rw [pad_scene_fire_m] at h
 refine SC.of_sw Try.func107 R R R ?_
 dsimp only [argS, List.map]
 refine qG (r_box R R R R R R R (eN (sw_seq (sw_rgP (r_movR R R R (r_ldD (y := PdAct.d a) tb R R R R R R R R R ?_))))))
 obtain ⟨rv, hrv, h⟩ := bnd h
 rcases ex_or rv with ⟨x, nv⟩ | ⟨v, nv⟩
 ·replace h := (exN nv).symm.trans h
  refine ev_pan ?_
  (with_reducible apply op_call [0, 1, 2, 3]); exact (pad_scene_badge_m_scx hrv).err nv; exact rfl; exact .of (by kernel_rfl); exact rfl; exact .inl ⟨rfl, rfl, rfl⟩; (iterate 4 exact rfl); exact (.cons rfl rfl (.row rfl (.row rfl (.row rfl .nil)))); exact rfl
  intro cnt
  refine then_pan ?_
  obtain rfl := sI h
  exact fin_pX (L := [none, none, none, none]) (κ := [0, 1, 2, 3]) (vwK R R (.gone R (.gone R (.gone R (.gone R .nil)))) .nil) (.inr ⟨_, R, R⟩)
 replace h := (exO nv).symm.trans h
 refine r_callO (t' := .d (.tup [])) (ls := [some ⟨13, [Scene_T1 v 1 2 3]⟩, some (lvI v.pdState_Zones), some (lvI v.pdState_Holder), some (lvI v.pdState_Squibs)]) (news := []) ([0, 1, 2, 3]) ([some ⟨13, [Scene_T1 v 1 2 3]⟩, some (lvI v.pdState_Zones), some (lvI v.pdState_Holder), some (lvI v.pdState_Squibs), some ⟨5, [.d (PdAct.d a)]⟩]) ((pad_scene_badge_m_scx hrv).ok nv) (.of (by kernel_rfl)) R (.inl ⟨R, R, R⟩) R R R R ((.cons R R (.row R (.row R (.row R .nil))))) R R R ((.cons R (.row (.row (.row .nil))))) .nil R R R R (ev_endP ?_)
 refine then_norm (sw_seq (sw_drP (by kernel_rfl) (r_movR R R R (r_nilRef R R R (r_fa tb R R R R R R R (r_fa tb R R R R R R R (r_ldW tb R R R R R R R R R (r_fa tb R R R R R R R (r_ldD (y := .v (.int .i64 a.what)) tb R R R R R R R R R ?_)))))))))
 obtain ⟨e, ie, h⟩ := bnd h
 refine r_ixI tb R R R R R R (ix0 ie) (ix1 ie) R R ?_
 refine r_ldD (y := .v (.int .i64 e)) tb R R R R (ix2 (g := fun a => T.d (vI a)) ie) R R R R ?_
 refine r_eqlV R R R R ?_
 obtain ⟨rv2, hrv2, h⟩ := bnd h
 rcases ex_or rv2 with ⟨x2, nv2⟩ | ⟨v2, nv2⟩
 ·replace h := (exN nv2).symm.trans h
  refine ev_panD (by kernel_rfl) (by kernel_rfl) ?_
  (with_reducible apply op_call []); exact (pad_demand_scx hrv2).err nv2; exact rfl; exact .of (by kernel_rfl); exact rfl; exact .inl ⟨rfl, rfl, rfl⟩; (iterate 4 exact rfl); exact .nil; exact rfl
  intro cnt
  refine then_pan ?_
  obtain rfl := sI h
  exact fin_pX (L := [some ⟨13, [Scene_T1 v 1 2 3]⟩, some (lvI v.pdState_Zones), some (lvI v.pdState_Holder), some (lvI v.pdState_Squibs)]) (κ := [0, 1, 2, 3]) (vwK R R (.cons R R (.row R (.row R (.row R .nil)))) .nil) (.inr ⟨_, R, R⟩)
 replace h := (exO nv2).symm.trans h
 refine r_callO (t' := .d (.tup [])) (ls := []) (news := []) ([]) ([some ⟨13, [Scene_T1 v 1 2 3]⟩, some (lvI v.pdState_Zones), some (lvI v.pdState_Holder), some (lvI v.pdState_Squibs), some ⟨5, [.d (PdAct.d a)]⟩]) ((pad_demand_scx hrv2).ok nv2) (.of (by kernel_rfl)) R (.inl ⟨R, R, R⟩) R R R R .nil R R R .nil .nil R R R R (ev_endPD (by kernel_rfl) (then_norm (sw_dr (by kernel_rfl) (r_movR R R R (r_nilRef R R R (r_fa tb R R R R R R R (r_fa tb R R R R R R R (r_ldW tb R R R R R R R R R ?_))))))))
 refine r_fa tb R R R R R R R (r_ldD (y := .v (.int .i64 a.what)) tb R R R R R R R R R (r_ixI tb R R R R R R (ix0 ie) (ix1 ie) R R ?_))
 obtain ⟨q, iq, h⟩ := bnd h
 refine r_stQ (a' := (2 : Int)) tb R R R R ie R R R R iq R R ?_
 dsimp only [List.set_cons_zero, List.set_cons_succ, PdState_T1, PdState_T2, PdState_T3, Scene_T1]
 first | rw [set_len iq] | skip
 refine ev_endD (by kernel_rfl) ?_
 obtain rfl := sI h
 exact fin_n (fin_S (t := .d (.tup [])) (L := [some ⟨13, [Scene_T1 {v with pdState_Squibs := q} 1 2 3]⟩, some (lvI v.pdState_Zones), some (lvI v.pdState_Holder), some (lvI q)]) (κ := [0, 1, 2, 3]) R .nil (vwK R R (.cons R R (.row R (.row R (.row R .nil)))) (.cons R R .nil)) (.inl ⟨_, R, R, R⟩))
def pad_scene_siren_1 (F : Nat) (a : PdSquib) : Option Bool := some true
theorem pad_scene_siren_1_pc {F : Nat} {a : PdSquib} {r : Bool} (h : pad_scene_siren_1 F a = some r) : PC Try.prog 119 [PdSquib.d a] (.v (.bool r)) := by
 rw [pad_scene_siren_1] at h
 refine SC.of_sw Try.func119 R R R ?_
 dsimp only [argS, List.map]
 refine qG (r_box R R R R R R R (r_asgD R R R (eN (qG (r_asgD R R R (eN (sw_ret ?_)))))))
 obtain rfl := sI h
 exact fin_0 (t := .d (.v (.bool true))) R R R (.cons (.tmp 2) .nil)
def pad_scene_siren_m (F : Nat) (c : Scene) (a : PdAct) : Option (Except Int Scene) := if a.what = 1 then (Option.bind (pad_scene_atPanel_m F c a.who) fun rv => exE rv (fun x => some (.error x)) (fun v => Option.bind (pad_demand F ((decide (0 ≤ v.pdState_Siren)) != true) 177) fun rv2 => exE rv2 (fun x2 => some (.error x2)) (fun v2 => Option.bind (pad_demand F true 179) fun rv3 => exE rv3 (fun x3 => some (.error x3)) (fun v3 => some (.ok {v with pdState_Siren := a.at_}))))) else (Option.bind (pad_scene_atPanel_m F c a.who) fun rv4 => exE rv4 (fun x4 => some (.error x4)) (fun v4 => Option.bind (pad_demand F ((decide (0 ≤ v4.pdState_Siren)) != false) 177) fun rv5 => exE rv5 (fun x5 => some (.error x5)) (fun v5 => Option.bind (pad_scene_armed F v4 (fun a0 => pad_scene_siren_1 F a0)) fun rv6 => Option.bind (pad_demand F (!rv6) 179) fun rv7 => exE rv7 (fun x6 => some (.error x6)) (fun v6 => some (.ok {v4 with pdState_Siren := (-1)})))))
theorem pad_scene_siren_m_scx {F : Nat} {c : Scene} {a : PdAct} {r : (Except Int Scene)} (h : pad_scene_siren_m F c a = some r) : SCX Try.prog 108 [.ref 0 13 0 0, .d (PdAct.d a)] [some ⟨13, [Scene_T1 c 1 2 3]⟩, some (lvI c.pdState_Zones), some (lvI c.pdState_Holder), some (lvI c.pdState_Squibs)] r 29 (fun (a : Scene) => .d (.tup [])) (fun (a : Scene) => [some ⟨13, [Scene_T1 a 1 2 3]⟩, some (lvI a.pdState_Zones), some (lvI a.pdState_Holder), some (lvI a.pdState_Squibs)]) := by
 rw [pad_scene_siren_m] at h
 refine SC.of_sw Try.func108 R R R ?_
 dsimp only [argS, List.map]
 refine qG (r_box R R R R R R R (eN (qG (r_fa tb R R R R R R R (r_ldD (y := .v (.int .i64 a.what)) tb R R R R R R R R R ?_)))))
 refine r_eql R R R R ?_ ?_
 ·intro c2
  replace h := ifP c2 h
  refine r_asgD R R R (eN (sw_seq (sw_rgP (r_movR R R R (r_fa tb R R R R R R R (r_ldD (y := .v (.int .i64 a.who)) tb R R R R R R R R R ?_))))))
  obtain ⟨rv, hrv, h⟩ := bnd h
  rcases ex_or rv with ⟨x, nv⟩ | ⟨v, nv⟩
  ·replace h := (exN nv).symm.trans h
   refine ev_pan ?_
   (with_reducible apply op_call [0, 1, 2, 3]); exact (pad_scene_atPanel_m_scx hrv).err nv; exact rfl; exact .of (by kernel_rfl); exact rfl; exact .inl ⟨rfl, rfl, rfl⟩; (iterate 4 exact rfl); exact (.cons rfl rfl (.row rfl (.row rfl (.row rfl .nil)))); exact rfl
   intro cnt
   refine then_pan ?_
   obtain rfl := sI h
   exact fin_pX (L := [none, none, none, none]) (κ := [0, 1, 2, 3]) (vwK R R (.gone R (.gone R (.gone R (.gone R .nil)))) .nil) (.inr ⟨_, R, R⟩)
  replace h := (exO nv).symm.trans h
  refine r_callO (t' := .d (.tup [])) (ls := [some ⟨13, [Scene_T1 v 1 2 3]⟩, some (lvI v.pdState_Zones), some (lvI v.pdState_Holder), some (lvI v.pdState_Squibs)]) (news := []) ([0, 1, 2, 3]) ([some ⟨13, [Scene_T1 v 1 2 3]⟩, some (lvI v.pdState_Zones), some (lvI v.pdState_Holder), some (lvI v.pdState_Squibs), some ⟨5, [.d (PdAct.d a)]⟩]) ((pad_scene_atPanel_m_scx hrv).ok nv) (.of (by kernel_rfl)) R (.inl ⟨R, R, R⟩) R R R R ((.cons R R (.row R (.row R (.row R .nil))))) R R R ((.cons R (.row (.row (.row .nil))))) .nil R R R R (ev_endP ?_)
  refine then_norm (sw_seq (sw_rgP (r_movR R R R (r_nilRef R R R (r_fa tb R R R R R R R (r_fa tb R R R R R R R (r_ldD (y := .v (.int .i64 v.pdState_Siren)) tb R R R R R R R R R (r_geqV R R R R (r_movD R R R (r_boolneq R R R R R ?_))))))))))
  obtain ⟨rv2, hrv2, h⟩ := bnd h
  rcases ex_or rv2 with ⟨x2, nv2⟩ | ⟨v2, nv2⟩
  ·replace h := (exN nv2).symm.trans h
   refine ev_pan ?_
   (with_reducible apply op_call []); exact (pad_demand_scx hrv2).err nv2; exact rfl; exact .of (by kernel_rfl); exact rfl; exact .inl ⟨rfl, rfl, rfl⟩; (iterate 4 exact rfl); exact .nil; exact rfl
   intro cnt
   refine then_pan ?_
   obtain rfl := sI h
   exact fin_pX (L := [some ⟨13, [Scene_T1 v 1 2 3]⟩, some (lvI v.pdState_Zones), some (lvI v.pdState_Holder), some (lvI v.pdState_Squibs)]) (κ := [0, 1, 2, 3]) (vwK R R (.cons R R (.row R (.row R (.row R .nil)))) .nil) (.inr ⟨_, R, R⟩)
  replace h := (exO nv2).symm.trans h
  refine r_callO (t' := .d (.tup [])) (ls := []) (news := []) ([]) ([some ⟨13, [Scene_T1 v 1 2 3]⟩, some (lvI v.pdState_Zones), some (lvI v.pdState_Holder), some (lvI v.pdState_Squibs), some ⟨5, [.d (PdAct.d a)]⟩]) ((pad_demand_scx hrv2).ok nv2) (.of (by kernel_rfl)) R (.inl ⟨R, R, R⟩) R R R R .nil R R R .nil .nil R R R R (ev_endP (then_norm (sw_seq (sw_rgP (r_movD R R R (r_movD R R R (r_skip R R R (r_skip R R R (r_skip R R R (r_pickT R R R R ?_))))))))))
  obtain ⟨rv3, hrv3, h⟩ := bnd h
  rcases ex_or rv3 with ⟨x3, nv3⟩ | ⟨v3, nv3⟩
  ·replace h := (exN nv3).symm.trans h
   refine ev_pan ?_
   (with_reducible apply op_call []); exact (pad_demand_scx hrv3).err nv3; exact rfl; exact .of (by kernel_rfl); exact rfl; exact .inl ⟨rfl, rfl, rfl⟩; (iterate 4 exact rfl); exact .nil; exact rfl
   intro cnt
   refine then_pan ?_
   obtain rfl := sI h
   exact fin_pX (L := [some ⟨13, [Scene_T1 v 1 2 3]⟩, some (lvI v.pdState_Zones), some (lvI v.pdState_Holder), some (lvI v.pdState_Squibs)]) (κ := [0, 1, 2, 3]) (vwK R R (.cons R R (.row R (.row R (.row R .nil)))) .nil) (.inr ⟨_, R, R⟩)
  replace h := (exO nv3).symm.trans h
  refine r_callO (t' := .d (.tup [])) (ls := []) (news := []) ([]) ([some ⟨13, [Scene_T1 v 1 2 3]⟩, some (lvI v.pdState_Zones), some (lvI v.pdState_Holder), some (lvI v.pdState_Squibs), some ⟨5, [.d (PdAct.d a)]⟩]) ((pad_demand_scx hrv3).ok nv3) (.of (by kernel_rfl)) R (.inl ⟨R, R, R⟩) R R R R .nil R R R .nil .nil R R R R (ev_endP (then_norm (qG (r_movR R R R (r_nilRef R R R (r_fa tb R R R R R R R (r_fa tb R R R R R R R ?_)))))))
  refine r_stE _ ([some ⟨13, [Scene_T1 {v with pdState_Siren := (-1)} 1 2 3]⟩, some (lvI v.pdState_Zones), some (lvI v.pdState_Holder), some (lvI v.pdState_Squibs), some ⟨5, [.d (PdAct.d a)]⟩]) tb R R R R R R R R R R R R (eN (qG (r_movD R R R (eN (sw_condT R (sw_rg (r_movR R R R (r_fa tb R R R R R R R (r_ldD (y := .v (.int .i64 a.at_)) tb R R R R R R R R R (r_nilRef R R R (r_fa tb R R R R R R R (r_fa tb R R R R R R R ?_))))))))))))
  refine r_stE _ ([some ⟨13, [Scene_T1 {v with pdState_Siren := a.at_} 1 2 3]⟩, some (lvI v.pdState_Zones), some (lvI v.pdState_Holder), some (lvI v.pdState_Squibs), some ⟨5, [.d (PdAct.d a)]⟩]) tb R R R R R R R R R R R R (ev_end ?_)
  obtain rfl := sI h
  exact fin_n (fin_S (t := .d (.tup [])) (L := [some ⟨13, [Scene_T1 {v with pdState_Siren := a.at_} 1 2 3]⟩, some (lvI v.pdState_Zones), some (lvI v.pdState_Holder), some (lvI v.pdState_Squibs)]) (κ := [0, 1, 2, 3]) R .nil (vwK R R (.cons R R (.row R (.row R (.row R .nil)))) (.cons R R .nil)) (.inl ⟨_, R, R, R⟩))
 intro c2
 replace h := ifN c2 h
 refine r_asgD R R R (eN (sw_seq (sw_rgP (r_movR R R R (r_fa tb R R R R R R R (r_ldD (y := .v (.int .i64 a.who)) tb R R R R R R R R R ?_))))))
 obtain ⟨rv4, hrv4, h⟩ := bnd h
 rcases ex_or rv4 with ⟨x4, nv4⟩ | ⟨v4, nv4⟩
 ·replace h := (exN nv4).symm.trans h
  refine ev_pan ?_
  (with_reducible apply op_call [0, 1, 2, 3]); exact (pad_scene_atPanel_m_scx hrv4).err nv4; exact rfl; exact .of (by kernel_rfl); exact rfl; exact .inl ⟨rfl, rfl, rfl⟩; (iterate 4 exact rfl); exact (.cons rfl rfl (.row rfl (.row rfl (.row rfl .nil)))); exact rfl
  intro cnt
  refine then_pan ?_
  obtain rfl := sI h
  exact fin_pX (L := [none, none, none, none]) (κ := [0, 1, 2, 3]) (vwK R R (.gone R (.gone R (.gone R (.gone R .nil)))) .nil) (.inr ⟨_, R, R⟩)
 replace h := (exO nv4).symm.trans h
 refine r_callO (t' := .d (.tup [])) (ls := [some ⟨13, [Scene_T1 v4 1 2 3]⟩, some (lvI v4.pdState_Zones), some (lvI v4.pdState_Holder), some (lvI v4.pdState_Squibs)]) (news := []) ([0, 1, 2, 3]) ([some ⟨13, [Scene_T1 v4 1 2 3]⟩, some (lvI v4.pdState_Zones), some (lvI v4.pdState_Holder), some (lvI v4.pdState_Squibs), some ⟨5, [.d (PdAct.d a)]⟩]) ((pad_scene_atPanel_m_scx hrv4).ok nv4) (.of (by kernel_rfl)) R (.inl ⟨R, R, R⟩) R R R R ((.cons R R (.row R (.row R (.row R .nil))))) R R R ((.cons R (.row (.row (.row .nil))))) .nil R R R R ?_
 refine ev_endP (then_norm (sw_seq (sw_rgP (r_movR R R R (r_nilRef R R R (r_fa tb R R R R R R R (r_fa tb R R R R R R R (r_ldD (y := .v (.int .i64 v4.pdState_Siren)) tb R R R R R R R R R (r_geqV R R R R (r_movD R R R (r_boolneq R R R R R ?_)))))))))))
 obtain ⟨rv5, hrv5, h⟩ := bnd h
 rcases ex_or rv5 with ⟨x5, nv5⟩ | ⟨v5, nv5⟩
 ·replace h := (exN nv5).symm.trans h
  refine ev_pan ?_
  (with_reducible apply op_call []); exact (pad_demand_scx hrv5).err nv5; exact rfl; exact .of (by kernel_rfl); exact rfl; exact .inl ⟨rfl, rfl, rfl⟩; (iterate 4 exact rfl); exact .nil; exact rfl
  intro cnt
  refine then_pan ?_
  obtain rfl := sI h
  exact fin_pX (L := [some ⟨13, [Scene_T1 v4 1 2 3]⟩, some (lvI v4.pdState_Zones), some (lvI v4.pdState_Holder), some (lvI v4.pdState_Squibs)]) (κ := [0, 1, 2, 3]) (vwK R R (.cons R R (.row R (.row R (.row R .nil)))) .nil) (.inr ⟨_, R, R⟩)
 replace h := (exO nv5).symm.trans h
 refine r_callO (t' := .d (.tup [])) (ls := []) (news := []) ([]) ([some ⟨13, [Scene_T1 v4 1 2 3]⟩, some (lvI v4.pdState_Zones), some (lvI v4.pdState_Holder), some (lvI v4.pdState_Squibs), some ⟨5, [.d (PdAct.d a)]⟩]) ((pad_demand_scx hrv5).ok nv5) (.of (by kernel_rfl)) R (.inl ⟨R, R, R⟩) R R R R .nil R R R .nil .nil R R R R (ev_endP (then_norm (sw_seq (sw_rgP (r_movD R R R (r_movD R R R (r_movR R R R ?_)))))))
 obtain ⟨rv6, hrv6, h⟩ := bnd h
 refine r_callX (t' := .d (.v (.bool rv6))) (news' := []) (pad_scene_armed_scr (so := (fun a0 => pad_scene_siren_1 F a0)) (soc := []) (soh := fun hr => pad_scene_siren_1_pc hr) (soe := .of (by kernel_rfl)) hrv6) R .nil (.of (by kernel_rfl)) R R ((.cons (.d (.ref R (.aggL (.cons (.d _) (.cons (.d _) (.cons (.d _) (.cons (.d _) (.cons (.d _) (.cons (.d _) (.cons (.d _) (.cons (.d _) (.cons (.row R R) (.cons (.row R R) (.cons (.row R R) (.cons (.d _) (.cons (.d _) .nil)))))))))))))))) (.cons .fnc .nil))) R .nil R R R ?_
 simp only [List.map_nil, List.append_nil]
 refine r_not R R R (r_pickF R R R R ?_)
 obtain ⟨rv7, hrv7, h⟩ := bnd h
 rcases ex_or rv7 with ⟨x6, nv6⟩ | ⟨v6, nv6⟩
 ·replace h := (exN nv6).symm.trans h
  refine ev_pan ?_
  (with_reducible apply op_call []); exact (pad_demand_scx hrv7).err nv6; exact rfl; exact .of (by kernel_rfl); exact rfl; exact .inl ⟨rfl, rfl, rfl⟩; (iterate 4 exact rfl); exact .nil; exact rfl
  intro cnt
  refine then_pan ?_
  obtain rfl := sI h
  exact fin_pX (L := [some ⟨13, [Scene_T1 v4 1 2 3]⟩, some (lvI v4.pdState_Zones), some (lvI v4.pdState_Holder), some (lvI v4.pdState_Squibs)]) (κ := [0, 1, 2, 3]) (vwK R R (.cons R R (.row R (.row R (.row R .nil)))) .nil) (.inr ⟨_, R, R⟩)
 replace h := (exO nv6).symm.trans h
 refine r_callO (t' := .d (.tup [])) (ls := []) (news := []) ([]) ([some ⟨13, [Scene_T1 v4 1 2 3]⟩, some (lvI v4.pdState_Zones), some (lvI v4.pdState_Holder), some (lvI v4.pdState_Squibs), some ⟨5, [.d (PdAct.d a)]⟩]) ((pad_demand_scx hrv7).ok nv6) (.of (by kernel_rfl)) R (.inl ⟨R, R, R⟩) R R R R .nil R R R .nil .nil R R R R (ev_endP (then_norm (qG (r_movR R R R (r_nilRef R R R (r_fa tb R R R R R R R (r_fa tb R R R R R R R ?_)))))))
 refine r_stE _ ([some ⟨13, [Scene_T1 {v4 with pdState_Siren := (-1)} 1 2 3]⟩, some (lvI v4.pdState_Zones), some (lvI v4.pdState_Holder), some (lvI v4.pdState_Squibs), some ⟨5, [.d (PdAct.d a)]⟩]) tb R R R R R R R R R R R R (eN (qG (r_movD R R R (eN (sw_condF R (sw_skip ?_))))))
 obtain rfl := sI h
 exact fin_n (fin_S (t := .d (.tup [])) (L := [some ⟨13, [Scene_T1 {v4 with pdState_Siren := (-1)} 1 2 3]⟩, some (lvI v4.pdState_Zones), some (lvI v4.pdState_Holder), some (lvI v4.pdState_Squibs)]) (κ := [0, 1, 2, 3]) R .nil (vwK R R (.cons R R (.row R (.row R (.row R .nil)))) (.cons R R .nil)) (.inl ⟨_, R, R, R⟩))
def pad_scene_thunder_m_L1 (F : Nat)  (K : (List Int) → Int → Int → Option (Except Int Scene)) : Nat → (List Int) → Int → Int → Option (Except Int Scene)
 | 0, _, _, _ => none
 | n + 1, c3, x2, x3 => if x3 < x2 then (Option.bind (ixO c3 x3) fun e => if e = 1 then (Option.bind (setO c3 x3 0) fun c6 => pad_scene_thunder_m_L1 F K n c6 x2 (W (x3 + 1))) else (pad_scene_thunder_m_L1 F K n c3 x2 (W (x3 + 1)))) else (K c3 x2 x3)
def pad_scene_thunder_m_L2 (F : Nat)  (K : (List Int) → Int → Int → Option (Except Int Scene)) : Nat → (List Int) → Int → Int → Option (Except Int Scene)
 | 0, _, _, _ => none
 | n + 1, c7, x5, x6 => if x6 < x5 then (Option.bind (ixO c7 x6) fun e2 => pad_scene_thunder_m_L2 F K n c7 x5 (W (x6 + 1))) else (K c7 x5 x6)
def pad_scene_thunder_m (F : Nat) (c : Scene) (a : PdAct) : Option (Except Int Scene) := if a.what = 1 then (Option.bind (pad_demand F (c.pdState_Storm != true) 177) fun rv => exE rv (fun x => some (.error x)) (fun v => pad_scene_thunder_m_L1 F (fun (c3 : (List Int)) (x2 : Int) (x3 : Int) => some (.ok {c with pdState_Squibs := c3, pdState_Storm := true})) F c.pdState_Squibs (c.pdState_Squibs.length : Int) 0)) else (Option.bind (pad_demand F (c.pdState_Storm != false) 177) fun rv2 => exE rv2 (fun x4 => some (.error x4)) (fun v2 => pad_scene_thunder_m_L2 F (fun (c7 : (List Int)) (x5 : Int) (x6 : Int) => some (.ok {c with pdState_Squibs := c7, pdState_Storm := false})) F c.pdState_Squibs (c.pdState_Squibs.length : Int) 0))
theorem pad_scene_thunder_m_scx {F : Nat} {c : Scene} {a : PdAct} {r : (Except Int Scene)} (h : pad_scene_thunder_m F c a = some r) : SCX Try.prog 109 [.ref 0 13 0 0, .d (PdAct.d a)] [some ⟨13, [Scene_T1 c 1 2 3]⟩, some (lvI c.pdState_Zones), some (lvI c.pdState_Holder), some (lvI c.pdState_Squibs)] r 29 (fun (a : Scene) => .d (.tup [])) (fun (a : Scene) => [some ⟨13, [Scene_T1 a 1 2 3]⟩, some (lvI a.pdState_Zones), some (lvI a.pdState_Holder), some (lvI a.pdState_Squibs)]) := by
 rw [pad_scene_thunder_m] at h
 refine SC.of_sw Try.func109 R R R ?_
 dsimp only [argS, List.map]
 refine qG (r_box R R R R R R R (eN (qG (r_fa tb R R R R R R R (r_ldD (y := .v (.int .i64 a.what)) tb R R R R R R R R R ?_)))))
 refine r_eql R R R R ?_ ?_
 ·intro c2
  replace h := ifP c2 h
  refine r_asgD R R R (eN (sw_seq (sw_rgP (r_movR R R R (r_nilRef R R R (r_fa tb R R R R R R R (r_fa tb R R R R R R R (r_ldD (y := .v (.bool c.pdState_Storm)) tb R R R R R R R R R (r_movD R R R (r_boolneq R R R R R ?_))))))))))
  obtain ⟨rv, hrv, h⟩ := bnd h
  rcases ex_or rv with ⟨x, nv⟩ | ⟨v, nv⟩
  ·replace h := (exN nv).symm.trans h
   refine ev_pan ?_
   (with_reducible apply op_call []); exact (pad_demand_scx hrv).err nv; exact rfl; exact .of (by kernel_rfl); exact rfl; exact .inl ⟨rfl, rfl, rfl⟩; (iterate 4 exact rfl); exact .nil; exact rfl
   intro cnt
   refine then_pan ?_
   obtain rfl := sI h
   exact fin_pX (L := [some ⟨13, [Scene_T1 c 1 2 3]⟩, some (lvI c.pdState_Zones), some (lvI c.pdState_Holder), some (lvI c.pdState_Squibs)]) (κ := [0, 1, 2, 3]) (vwK R R (.cons R R (.row R (.row R (.row R .nil)))) .nil) (.inr ⟨_, R, R⟩)
  replace h := (exO nv).symm.trans h
  refine r_callO (t' := .d (.tup [])) (ls := []) (news := []) ([]) ([some ⟨13, [Scene_T1 c 1 2 3]⟩, some (lvI c.pdState_Zones), some (lvI c.pdState_Holder), some (lvI c.pdState_Squibs), some ⟨5, [.d (PdAct.d a)]⟩]) ((pad_demand_scx hrv).ok nv) (.of (by kernel_rfl)) R (.inl ⟨R, R, R⟩) R R R R .nil R R R .nil .nil R R R R (ev_endP (then_norm (qG (r_movR R R R (r_movD R R R (r_nilRef R R R (r_fa tb R R R R R R R (r_fa tb R R R R R R R ?_))))))))
  refine r_stE _ ([some ⟨13, [Scene_T1 {c with pdState_Storm := true} 1 2 3]⟩, some (lvI c.pdState_Zones), some (lvI c.pdState_Holder), some (lvI c.pdState_Squibs), some ⟨5, [.d (PdAct.d a)]⟩]) tb R R R R R R R R R R R R (eN (qG (r_movR R R R (r_nilRef R R R (r_fa tb R R R R R R R (r_fa tb R R R R R R R (r_ldW tb R R R R R R R R R (r_lenR tb R R R R R (r_movD R R R (eN (sw_block ?_)))))))))))
  obtain ⟨K2, hK2, h⟩ : ∃ K, K = _ ∧ pad_scene_thunder_m_L1 F K F c.pdState_Squibs (c.pdState_Squibs.length : Int) 0 = some r := ⟨_, rfl, h⟩
  refine sw_loop (st0 := ⟨[(0, .ref 0 13 0 0), (4, .d (.v (.bool true))), (27, .row 3 1 0 (c.pdState_Squibs).length), (28, .d (.v (.int .i64 (c.pdState_Squibs.length : Int)))), (29, .d (.v (.int .i64 0)))], [some ⟨13, [Scene_T1 {c with pdState_Storm := true} 1 2 3]⟩, some (lvI c.pdState_Zones), some (lvI c.pdState_Holder), some (lvI c.pdState_Squibs)]⟩) (κ := [0, 1, 2, 3]) (fun m st => ∃ (c3 : (List Int)) (x2 : Int) (x3 : Int), pad_scene_thunder_m_L1 F K2 m c3 x2 x3 = some r ∧ st = ⟨[(0, .ref 0 13 0 0), (4, .d (.v (.bool true))), (27, .row 3 1 0 (c3).length), (28, .d (.v (.int .i64 x2))), (29, .d (.v (.int .i64 x3)))], [some ⟨13, [Scene_T1 {c with pdState_Squibs := c3, pdState_Storm := true} 1 2 3]⟩, some (lvI c.pdState_Zones), some (lvI c.pdState_Holder), some (lvI c3)]⟩) (vwK R R (.cons R R (.row R (.row R (.row R .nil)))) (.cons R R (.cons R R (.cons R R (.cons R R (.cons R R .nil)))))) ⟨c.pdState_Squibs, (c.pdState_Squibs.length : Int), 0, h, R⟩ ?_
  clear h
  rintro m2 st ⟨c3, x2, x3, h, rfl⟩
  cases m2 with
  | zero => cases (show (none : Option (Except Int Scene)) = some r from h)
  | succ m2 =>
  rw [pad_scene_thunder_m_L1] at h
  refine qG ?_
  refine r_lss R R R R ?_ ?_
  ·intro c4
   replace h := ifP c4 h
   refine eN (sw_seq (sw_condT R (sw_skip (then_norm (sw_seq (sw_block (qG (r_movD R R R ?_))))))))
   obtain ⟨e, ie, h⟩ := bnd h
   refine r_ixI tb R R R R R R (ix0 ie) (ix1 ie) R R ?_
   refine r_ldD (y := .v (.int .i64 e)) tb R R R R (ix2 (g := fun a => T.d (vI a)) ie) R R R R ?_
   refine r_asgD R R R (r_asgD R R R (eN (qG (r_movD R R R (r_movD R R R (r_movD R R R ?_))))))
   refine r_eql R R R R ?_ ?_
   ·intro c5
    replace h := ifP c5 h
    refine r_pickT R R R R (eN (sw_condT R (sw_rg (r_movR R R R (r_nilRef R R R (r_fa tb R R R R R R R (r_fa tb R R R R R R R (r_ldW tb R R R R R R R R R (r_movD R R R (r_ixI tb R R R R R R (ix0 ie) (ix1 ie) R R ?_))))))))))
    obtain ⟨c6, ic6, h⟩ := bnd h
    refine r_stQ (a' := (0 : Int)) tb R R R R ie R R R R ic6 R R ?_
    dsimp only [List.set_cons_zero, List.set_cons_succ, PdState_T1, PdState_T2, PdState_T3, Scene_T1]
    first | rw [set_len ic6] | skip
    refine ev_end (block_norm (then_norm (sw_rg (r_add R R R R (r_movD R R R (eN ?_))))))
    exact ⟨m2, ⟨[(0, .ref 0 13 0 0), (4, .d (.v (.bool true))), (27, .row 3 1 0 (c6).length), (28, .d (.v (.int .i64 x2))), (29, .d (.v (.int .i64 (W (x3 + 1)))))], [some ⟨13, [Scene_T1 {c with pdState_Squibs := c6, pdState_Storm := true} 1 2 3]⟩, some (lvI c.pdState_Zones), some (lvI c.pdState_Holder), some (lvI c6)]⟩, [0, 1, 2, 3], Nat.lt_succ_self _, (vwK R R (.cons R R (.row R (.row R (.row R .nil)))) (.cons R R (.cons R R (.cons R R (.cons R R (.cons R R .nil)))))), c6, x2, (W (x3 + 1)), h, R⟩
   intro c5
   replace h := ifN c5 h
   refine r_pickT R R R R (eN (sw_condF R (sw_skip (block_norm (then_norm (sw_rg (r_add R R R R (r_movD R R R (eN ?_)))))))))
   exact ⟨m2, ⟨[(0, .ref 0 13 0 0), (4, .d (.v (.bool true))), (27, .row 3 1 0 (c3).length), (28, .d (.v (.int .i64 x2))), (29, .d (.v (.int .i64 (W (x3 + 1)))))], [some ⟨13, [Scene_T1 {c with pdState_Squibs := c3, pdState_Storm := true} 1 2 3]⟩, some (lvI c.pdState_Zones), some (lvI c.pdState_Holder), some (lvI c3)]⟩, [0, 1, 2, 3], Nat.lt_succ_self _, (vwK R R (.cons R R (.row R (.row R (.row R .nil)))) (.cons R R (.cons R R (.cons R R (.cons R R (.cons R R .nil)))))), c3, x2, (W (x3 + 1)), h, R⟩
  intro c4
  replace h := ifN (Int.not_lt.2 c4) h
  refine eN (sw_seq (sw_condF R (sw_exit (then_exit (then_exit ?_)))))
  subst hK2
  refine block_exit ?_
  obtain rfl := sI h
  exact fin_n (fin_S (t := .d (.tup [])) (L := [some ⟨13, [Scene_T1 {c with pdState_Squibs := c3, pdState_Storm := true} 1 2 3]⟩, some (lvI c.pdState_Zones), some (lvI c.pdState_Holder), some (lvI c3)]) (κ := [0, 1, 2, 3]) R .nil (vwK R R (.cons R R (.row R (.row R (.row R .nil)))) (.cons R R .nil)) (.inl ⟨_, R, R, R⟩))
 intro c2
 replace h := ifN c2 h
 refine r_asgD R R R (eN (sw_seq (sw_rgP (r_movR R R R (r_nilRef R R R (r_fa tb R R R R R R R (r_fa tb R R R R R R R (r_ldD (y := .v (.bool c.pdState_Storm)) tb R R R R R R R R R (r_movD R R R (r_boolneq R R R R R ?_))))))))))
 obtain ⟨rv2, hrv2, h⟩ := bnd h
 rcases ex_or rv2 with ⟨x4, nv2⟩ | ⟨v2, nv2⟩
 ·replace h := (exN nv2).symm.trans h
  refine ev_pan ?_
  (with_reducible apply op_call []); exact (pad_demand_scx hrv2).err nv2; exact rfl; exact .of (by kernel_rfl); exact rfl; exact .inl ⟨rfl, rfl, rfl⟩; (iterate 4 exact rfl); exact .nil; exact rfl
  intro cnt
  refine then_pan ?_
  obtain rfl := sI h
  exact fin_pX (L := [some ⟨13, [Scene_T1 c 1 2 3]⟩, some (lvI c.pdState_Zones), some (lvI c.pdState_Holder), some (lvI c.pdState_Squibs)]) (κ := [0, 1, 2, 3]) (vwK R R (.cons R R (.row R (.row R (.row R .nil)))) .nil) (.inr ⟨_, R, R⟩)
 replace h := (exO nv2).symm.trans h
 refine r_callO (t' := .d (.tup [])) (ls := []) (news := []) ([]) ([some ⟨13, [Scene_T1 c 1 2 3]⟩, some (lvI c.pdState_Zones), some (lvI c.pdState_Holder), some (lvI c.pdState_Squibs), some ⟨5, [.d (PdAct.d a)]⟩]) ((pad_demand_scx hrv2).ok nv2) (.of (by kernel_rfl)) R (.inl ⟨R, R, R⟩) R R R R .nil R R R .nil .nil R R R R (ev_endP (then_norm (qG (r_movR R R R (r_movD R R R (r_nilRef R R R (r_fa tb R R R R R R R (r_fa tb R R R R R R R ?_))))))))
 refine r_stE _ ([some ⟨13, [Scene_T1 {c with pdState_Storm := false} 1 2 3]⟩, some (lvI c.pdState_Zones), some (lvI c.pdState_Holder), some (lvI c.pdState_Squibs), some ⟨5, [.d (PdAct.d a)]⟩]) tb R R R R R R R R R R R R (eN (qG (r_movR R R R (r_nilRef R R R (r_fa tb R R R R R R R (r_fa tb R R R R R R R (r_ldW tb R R R R R R R R R (r_lenR tb R R R R R (r_movD R R R (eN (sw_block ?_)))))))))))
 obtain ⟨K3, hK3, h⟩ : ∃ K, K = _ ∧ pad_scene_thunder_m_L2 F K F c.pdState_Squibs (c.pdState_Squibs.length : Int) 0 = some r := ⟨_, rfl, h⟩
 refine sw_loop (st0 := ⟨[(0, .ref 0 13 0 0), (4, .d (.v (.bool false))), (27, .row 3 1 0 (c.pdState_Squibs).length), (28, .d (.v (.int .i64 (c.pdState_Squibs.length : Int)))), (29, .d (.v (.int .i64 0)))], [some ⟨13, [Scene_T1 {c with pdState_Storm := false} 1 2 3]⟩, some (lvI c.pdState_Zones), some (lvI c.pdState_Holder), some (lvI c.pdState_Squibs)]⟩) (κ := [0, 1, 2, 3]) (fun m st => ∃ (c7 : (List Int)) (x5 : Int) (x6 : Int), pad_scene_thunder_m_L2 F K3 m c7 x5 x6 = some r ∧ st = ⟨[(0, .ref 0 13 0 0), (4, .d (.v (.bool false))), (27, .row 3 1 0 (c7).length), (28, .d (.v (.int .i64 x5))), (29, .d (.v (.int .i64 x6)))], [some ⟨13, [Scene_T1 {c with pdState_Squibs := c7, pdState_Storm := false} 1 2 3]⟩, some (lvI c.pdState_Zones), some (lvI c.pdState_Holder), some (lvI c7)]⟩) (vwK R R (.cons R R (.row R (.row R (.row R .nil)))) (.cons R R (.cons R R (.cons R R (.cons R R (.cons R R .nil)))))) ⟨c.pdState_Squibs, (c.pdState_Squibs.length : Int), 0, h, R⟩ ?_
 clear h
 rintro m3 st ⟨c7, x5, x6, h, rfl⟩
 cases m3 with
 | zero => cases (show (none : Option (Except Int Scene)) = some r from h)
 | succ m3 =>
 rw [pad_scene_thunder_m_L2] at h
 refine qG ?_
 refine r_lss R R R R ?_ ?_
 ·intro c8
  replace h := ifP c8 h
  refine eN (sw_seq (sw_condT R (sw_skip (then_norm (sw_seq (sw_block (qG (r_movD R R R ?_))))))))
  obtain ⟨e2, ie2, h⟩ := bnd h
  refine r_ixI tb R R R R R R (ix0 ie2) (ix1 ie2) R R ?_
  refine r_ldD (y := .v (.int .i64 e2)) tb R R R R (ix2 (g := fun a => T.d (vI a)) ie2) R R R R ?_
  refine r_asgD R R R (r_asgD R R R (eN (qG (r_movD R R R (r_movD R R R (r_skip R R R (r_skip R R R (r_pickF R R R R (eN (sw_condF R (sw_skip (block_norm (then_norm (sw_rg (r_add R R R R (r_movD R R R (eN ?_)))))))))))))))))
  exact ⟨m3, ⟨[(0, .ref 0 13 0 0), (4, .d (.v (.bool false))), (27, .row 3 1 0 (c7).length), (28, .d (.v (.int .i64 x5))), (29, .d (.v (.int .i64 (W (x6 + 1)))))], [some ⟨13, [Scene_T1 {c with pdState_Squibs := c7, pdState_Storm := false} 1 2 3]⟩, some (lvI c.pdState_Zones), some (lvI c.pdState_Holder), some (lvI c7)]⟩, [0, 1, 2, 3], Nat.lt_succ_self _, (vwK R R (.cons R R (.row R (.row R (.row R .nil)))) (.cons R R (.cons R R (.cons R R (.cons R R (.cons R R .nil)))))), c7, x5, (W (x6 + 1)), h, R⟩
 intro c8
 replace h := ifN (Int.not_lt.2 c8) h
 refine eN (sw_seq (sw_condF R (sw_exit (then_exit (then_exit ?_)))))
 subst hK3
 refine block_exit ?_
 obtain rfl := sI h
 exact fin_n (fin_S (t := .d (.tup [])) (L := [some ⟨13, [Scene_T1 {c with pdState_Squibs := c7, pdState_Storm := false} 1 2 3]⟩, some (lvI c.pdState_Zones), some (lvI c.pdState_Holder), some (lvI c7)]) (κ := [0, 1, 2, 3]) R .nil (vwK R R (.cons R R (.row R (.row R (.row R .nil)))) (.cons R R .nil)) (.inl ⟨_, R, R, R⟩))
def pad_does (F : Nat)  : Option Unit := some ()
theorem pad_does_pc {F : Nat}  {r : Unit} (h : pad_does F  = some r) : PC Try.prog 89 [] (.agg [.v .nilFunc, .v (.func (.func 101) #[] #[]), .v (.func (.func 102) #[] #[]), .v (.func (.func 103) #[] #[]), .v (.func (.func 104) #[] #[]), .v (.func (.func 105) #[] #[]), .v (.func (.func 106) #[] #[]), .v (.func (.func 107) #[] #[]), .v (.func (.func 108) #[] #[]), .v (.func (.func 109) #[] #[])]) := by
 rw [pad_does] at h
 refine SC.of_sw Try.func89 R R R ?_
 dsimp only [argS, List.map]
 refine qG (r_alloc tb R R R R R (eN (qG (r_buildA (v := .d (.agg [.v .nilFunc, .v (.func (.func 101) #[] #[]), .v (.func (.func 102) #[] #[]), .v (.func (.func 103) #[] #[]), .v (.func (.func 104) #[] #[]), .v (.func (.func 105) #[] #[]), .v (.func (.func 106) #[] #[]), .v (.func (.func 107) #[] #[]), .v (.func (.func 108) #[] #[]), .v (.func (.func 109) #[] #[])])) tb R R R R R R R R R ?_))))
 refine r_stE _ ([some ⟨10, [.d (.agg [.v .nilFunc, .v (.func (.func 101) #[] #[]), .v (.func (.func 102) #[] #[]), .v (.func (.func 103) #[] #[]), .v (.func (.func 104) #[] #[]), .v (.func (.func 105) #[] #[]), .v (.func (.func 106) #[] #[]), .v (.func (.func 107) #[] #[]), .v (.func (.func 108) #[] #[]), .v (.func (.func 109) #[] #[])])]⟩]) tb R R R R R R R R R R R R (eN (sw_ret ?_))
 obtain rfl := sI h
 exact fin_0 (t := .d (.agg [.v .nilFunc, .v (.func (.func 101) #[] #[]), .v (.func (.func 102) #[] #[]), .v (.func (.func 103) #[] #[]), .v (.func (.func 104) #[] #[]), .v (.func (.func 105) #[] #[]), .v (.func (.func 106) #[] #[]), .v (.func (.func 107) #[] #[]), .v (.func (.func 108) #[] #[]), .v (.func (.func 109) #[] #[])])) R R R (.cons (rcell tb (u := .d (.agg [.v .nilFunc, .v (.func (.func 101) #[] #[]), .v (.func (.func 102) #[] #[]), .v (.func (.func 103) #[] #[]), .v (.func (.func 104) #[] #[]), .v (.func (.func 105) #[] #[]), .v (.func (.func 106) #[] #[]), .v (.func (.func 107) #[] #[]), .v (.func (.func 108) #[] #[]), .v (.func (.func 109) #[] #[])])) R R R R R R R) .nil)
end Go.Proofs.Ythcnganbnbhhoaa
