/- The plain part of pad.Check, to its end. -/
import Derived.Test.YthcnganbnbhhoaaQ1
open Go Go.Proofs.Ythcnganbnbhhoaa.Sh Go.Proofs
namespace Go.Proofs.Ythcnganbnbhhoaa
set_option linter.unusedVariables false
set_option linter.unusedSimpArgs false
theorem z0 : ((0 : Nat) : Int) = 0 := rfl
theorem rsq_L1 {F : Nat} {q : PdSquib} (hl : q.keys.length < 9223372036854775808) : ∀ (n k : Nat), q.keys.length < n + k → 1 ≤ k → k ≤ q.keys.length → r7_squib_L1 F q (fun _ => some 0) n k = some (bif ascP (q.keys.drop (k - 1)) then 0 else 2)
 | 0, k, h1, _, h2 => absurd h1 (by omega)
 | n + 1, k, h1, h0, h2 => by
  rw [r7_squib_L1]
  obtain ⟨j, rfl⟩ : ∃ j, k = j + 1 := ⟨k - 1, by omega⟩
  by_cases hk : j + 1 < q.keys.length
  ·have ih := rsq_L1 (F := F) hl n (j + 1 + 1) (by omega) (by omega) (by omega)
   rw [if_pos (by omega), ixO_nat hk, Option.bind_some, W_pred (by omega) (by omega), show j + 1 - 1 = j from rfl, ixO_nat (show j < q.keys.length by omega), Option.bind_some, W_succ (by omega), ih, List.drop_eq_getElem_cons (show j < q.keys.length by omega), show j + 1 + 1 - 1 = j + 1 from rfl, List.drop_eq_getElem_cons hk, ascP]
   by_cases h : q.keys[j + 1] ≤ q.keys[j]
   ·rw [if_pos h, show decide (q.keys[j] < q.keys[j + 1]) = false by simp; omega]; rfl
   ·rw [if_neg h, show decide (q.keys[j] < q.keys[j + 1]) = true by simp; omega]; rfl
  ·rw [if_neg (by omega), show j + 1 - 1 = j from rfl, List.drop_eq_getElem_cons (show j < q.keys.length by omega), List.drop_of_length_le (by omega)]
   rfl
theorem rsq_L2 {F : Nat} {p : PdPad} (h : PadF F p) {q : PdSquib} (hl : q.keys.length < 9223372036854775808) (c : Option Int) : ∀ (n k : Nat), q.keys.length < n + k → k ≤ q.keys.length → r7_squib_L2 F p q (fun _ => c) n k = bif (q.keys.drop k).any (fun k => outP k 0 ((p.keys.length : Int) - 1)) then some 4 else c
 | 0, k, h1, h2 => absurd h1 (by omega)
 | n + 1, k, h1, h2 => by
  rw [r7_squib_L2]
  by_cases hk : k < q.keys.length
  ·rw [if_pos (by omega), ixO_nat hk, Option.bind_some, W_len h.lk, r7_in_eq, Option.bind_some, W_succ (by omega), rsq_L2 h hl c n (k + 1) (by omega) (by omega), List.drop_eq_getElem_cons hk, List.any_cons]
   cases outP q.keys[k] 0 ((p.keys.length : Int) - 1) <;> simp
  ·rw [if_neg (by omega), List.drop_of_length_le (by omega)]
   rfl
theorem take_snoc {α β : Type} (f : α → β) {l : List α} {k : Nat} (h : k < l.length) : (l.take k).map f ++ [f l[k]] = (l.take (k + 1)).map f := by
 rw [List.take_succ_eq_append_getElem h, List.map_append]
 rfl
theorem rsq_L3 {F : Nat} {p : PdPad} {o : Nat} (ho : o ≤ p.squibs.length) (hl : p.squibs.length ≤ 6) (K : List ByteArray → Int → Option Int) : ∀ (n k : Nat), o < n + k → k ≤ o → r7_squib_L3 F p o K n ((p.squibs.take k).map (·.name)) k = K ((p.squibs.take o).map (·.name)) o
 | 0, k, h1, h2 => absurd h1 (by omega)
 | n + 1, k, h1, h2 => by
  rw [r7_squib_L3]
  by_cases hk : k < o
  ·have hk' : k < p.squibs.length := by omega
   rw [if_pos (by omega), ixO_nat hk', Option.bind_some, app_one (by simp; omega), Option.bind_some, take_snoc (·.name) hk', W_succ (by omega), rsq_L3 ho hl K n (k + 1) (by omega) (by omega)]
  ·rw [if_neg (by omega), show k = o by omega]
def squibsE (nk : Nat) (all : List PdSquib) : Nat → List PdSquib → Int × Int := fun k l => namedE (·.name) (squibR nk) ((all.take k).map (·.name)) k l
theorem r7_squib_eq {F : Nat} {p : PdPad} (h : PadF F p) (hl : p.squibs.length ≤ 6) {k : Nat} (hk : k < p.squibs.length) : r7_squib F p k = some (bif decide (nmE ((p.squibs.take k).map (·.name)) p.squibs[k].name = 0) then squibR p.keys.length p.squibs[k] else nmE ((p.squibs.take k).map (·.name)) p.squibs[k].name) := by
 have hx := List.getElem_mem hk
 have hf := h.f
 have hq := h.qk _ hx
 have hn := h.qn _ hx
 have := rsq_L3 (F := F) (p := p) (o := k) (by omega) hl (fun a y => Option.bind (ixO p.squibs k) fun e2 => Option.bind (r7_name F e2.name a) fun rv => if rv = 0 then (Option.bind (r7_place F e2.at_X) fun rv2 => if rv2 = true then (Option.bind (r7_place F e2.at_Y) fun rv3 => if rv3 = true then (Option.bind (r7_in F e2.clear 0 10000000) fun rv4 => if rv4 = true then (Option.bind (r7_grade F e2.grade) fun rv5 => if rv5 = true then (r7_squib_J1 F p e2) else (r7_squib_J2 F)) else (r7_squib_J2 F)) else (r7_squib_J2 F)) else (r7_squib_J2 F)) else (some rv)) F 0 (by omega) (by omega)
 rw [List.take_zero, List.map_nil, z0] at this
 rw [r7_squib]
 refine Eq.trans this ?_
 simp only [ixO_nat hk, Option.bind_some]
 rw [r7_name_eq (by simp; omega) (by simp; omega) hn.2 hn.1, Option.bind_some]
 generalize nmE ((p.squibs.take k).map (·.name)) p.squibs[k].name = e
 generalize p.squibs[k] = q at hq
 have hJ : r7_squib_J1 F p q = some (bif keysBad p.keys.length q then 4 else bif ascP q.keys then 0 else 2) := by
  rw [r7_squib_J1]
  unfold keysBad
  by_cases h0 : q.keys = []
  ·rw [if_pos (by simp [h0])]; simp [h0]
  ·have hp := List.length_pos_iff.2 h0
   rw [if_neg (by omega)]
   have h1 := rsq_L1 (F := F) hq.2 F 1 (by omega) (by omega) (by omega)
   have h2 := rsq_L2 h hq.2 (r7_squib_L1 F q (fun x2 => some 0) F 1) F 0 (by omega) (by omega)
   rw [z0] at h2
   rw [show ((1 : Nat) : Int) = 1 from rfl] at h1
   rw [h2, h1, List.drop_zero]
   simp only [h0, decide_false, Bool.false_or]
   cases (q.keys.any fun k => outP k 0 ((p.keys.length : Int) - 1)) <;> rfl
 simp only [hJ, r7_place, r7_grade, r7_in_eq, Option.bind_some, iteP, dec_true, r7_squib_J2, squibR, squibBad, offP]
 cases decide (e = 0) <;> cases outP q.at_X (-10000000) 10000000 <;> cases outP q.at_Y (-10000000) 10000000 <;> cases outP q.clear 0 10000000 <;> cases outP q.grade 0 9 <;> rfl
/-! ### Near -/
def distW (lo hi n : Int) : Int := max (max (W (lo - n)) (W (n - hi))) 0
def nearW (z : PdZone) (q : PdSquib) : Bool := decide (W (W (distW z.area_X_Lo z.area_X_Hi q.at_X * distW z.area_X_Lo z.area_X_Hi q.at_X) + W (distW z.area_Y_Lo z.area_Y_Hi q.at_Y * distW z.area_Y_Lo z.area_Y_Hi q.at_Y)) < W (q.clear * q.clear))
theorem r7_near_eq {F : Nat} {p : PdPad} {z q : Nat} (hz : z < p.zones.length) (hq : q < p.squibs.length) : r7_near F p z q = some (nearW p.zones[z] p.squibs[q]) := by
 rw [r7_near, ixO_nat hz, Option.bind_some, ixO_nat hq]
 rfl
/-! ### Check -/
theorem Check_near {F : Nat} {p : PdPad} (h : PadF F p) (z : PdZone) (a : Int) (c : Option (Int × Int × Int)) : ∀ (n k : Nat), p.squibs.length < n + k → k ≤ p.squibs.length → pad_Check_L1 F (a, p) z (fun _ => c) n k = bif (p.squibs.drop k).any (nearW z) then some (7, 0, 2) else c
 | 0, k, h1, h2 => absurd h1 (by omega)
 | n + 1, k, h1, h2 => by
  have hl := h.lq
  rw [pad_Check_L1]
  by_cases hk : k < p.squibs.length
  ·rw [if_pos (by dsimp only; omega), ixO_nat hk, Option.bind_some, W_succ (by omega), Check_near h z a c n (k + 1) (by omega) (by omega), List.drop_eq_getElem_cons hk, List.any_cons, iteP]
   show (bif nearW z p.squibs[k] then _ else _) = _
   cases nearW z p.squibs[k] <;> rfl
  ·rw [if_neg (by dsimp only; omega), List.drop_of_length_le (by omega)]
   rfl
theorem rCheck_near {F : Nat} {p : PdPad} (h : PadF F p) {z : Nat} (hz : z < p.zones.length) (hp : p.panel = z) (c : Option (Int × Int × Int)) : ∀ (n k : Nat), p.squibs.length < n + k → k ≤ p.squibs.length → r7_Check_L1 F p (fun _ => c) n k = bif (p.squibs.drop k).any (nearW p.zones[z]) then some (7, 0, 2) else c
 | 0, k, h1, h2 => absurd h1 (by omega)
 | n + 1, k, h1, h2 => by
  have hl := h.lq
  rw [r7_Check_L1]
  by_cases hk : k < p.squibs.length
  ·rw [if_pos (by omega), hp, r7_near_eq hz hk, Option.bind_some, W_succ (by omega), rCheck_near h hz hp c n (k + 1) (by omega) (by omega), List.drop_eq_getElem_cons hk, List.any_cons]
   cases nearW p.zones[z] p.squibs[k] <;> rfl
  ·rw [if_neg (by omega), List.drop_of_length_le (by omega)]
   rfl
def partO (n : Int) (x : Int × Int) (c : Option (Int × Int × Int)) : Option (Int × Int × Int) := bif decide (x.2 = 0) then c else some (n, x.1, x.2)
theorem partO_cond (n : Int) (b : Bool) (x y : Int × Int) (c : Option (Int × Int × Int)) : partO n (bif b then x else y) c = bif b then partO n x c else partO n y c := by cases b <;> rfl
theorem Check_doors {F : Nat} {p : PdPad} (h : PadF F p) (c : Option (Int × Int × Int)) : ∀ (n k : Nat), p.doors.length < n + k → k ≤ p.doors.length → pad_Check_L2 F p (fun _ => c) n k = partO 3 (doorsE p.zones.length k (p.doors.drop k)) c
 | 0, k, h1, h2 => absurd h1 (by omega)
 | n + 1, k, h1, h2 => by
  have hl := h.ld
  rw [pad_Check_L2]
  by_cases hk : k < p.doors.length
  ·rw [if_pos (by omega), ixO_nat hk, Option.bind_some, List.drop_eq_getElem_cons hk, doorsE]
   simp only [pad_Check_J1, W_succ (show k < 9223372036854775807 by omega), Check_doors h c n (k + 1) (by omega) (by omega), pad_out_eq, W_len h.lz, Option.bind_some, iteP, dec_true, doorBad, partO_cond]
   cases outP p.doors[k].a (-1) ((p.zones.length : Int) - 1) <;> cases outP p.doors[k].b (-1) ((p.zones.length : Int) - 1) <;> cases decide (p.doors[k].a = p.doors[k].b) <;> rfl
  ·rw [if_neg (by omega), List.drop_of_length_le (by omega)]
   rfl
theorem rCheck_keys {F : Nat} {p : PdPad} (h : PadF F p) (c : Option (Int × Int × Int)) : ∀ (n k : Nat), p.keys.length < n + k → k ≤ p.keys.length → p.keys.length ≤ 8 → r7_Check_L3 F p (fun _ => c) n k = partO 5 (namedE id (fun _ => 0) (p.keys.take k) k (p.keys.drop k)) c
 | 0, k, h1, h2, _ => absurd h1 (by omega)
 | n + 1, k, h1, h2, h3 => by
  have hf := h.f
  rw [r7_Check_L3]
  by_cases hk : k < p.keys.length
  ·have hx := h.kn _ (List.getElem_mem hk)
   rw [if_pos (by omega), ixO_nat hk, Option.bind_some, cut_nat (by omega), Option.bind_some, r7_name_eq (by simp; omega) (by simp; omega) hx.2 hx.1, Option.bind_some, List.drop_eq_getElem_cons hk, namedE, W_succ (by omega), rCheck_keys h c n (k + 1) (by omega) (by omega) h3]
   rw [List.take_succ_eq_append_getElem hk]
   show (if nmE (p.keys.take k) p.keys[k] = 0 then _ else _) = partO 5 (if nmE (p.keys.take k) p.keys[k] = 0 then _ else _) c
   by_cases h0 : nmE (p.keys.take k) p.keys[k] = 0
   ·rw [if_pos h0, if_pos h0]; rfl
   ·rw [if_neg h0, if_neg h0]
    unfold partO
    rw [show decide (((k : Int), nmE (p.keys.take k) (id p.keys[k])).2 = 0) = false from decide_eq_false h0]; rfl
  ·rw [if_neg (by omega), List.drop_of_length_le (by omega)]
   rfl
theorem rCheck_squibs {F : Nat} {p : PdPad} (h : PadF F p) (hl : p.squibs.length ≤ 6) (c : Option (Int × Int × Int)) : ∀ (n k : Nat), p.squibs.length < n + k → k ≤ p.squibs.length → r7_Check_L2 F p (fun _ => c) n k = partO 6 (squibsE p.keys.length p.squibs k (p.squibs.drop k)) c
 | 0, k, h1, h2 => absurd h1 (by omega)
 | n + 1, k, h1, h2 => by
  rw [r7_Check_L2]
  by_cases hk : k < p.squibs.length
  ·rw [if_pos (by omega), r7_squib_eq h hl hk, Option.bind_some, W_succ (by omega), rCheck_squibs h hl c n (k + 1) (by omega) (by omega), List.drop_eq_getElem_cons hk]
   have e : squibsE p.keys.length p.squibs k (p.squibs[k] :: p.squibs.drop (k + 1)) = if nmE ((p.squibs.take k).map (·.name)) p.squibs[k].name = 0 then (if squibR p.keys.length p.squibs[k] = 0 then squibsE p.keys.length p.squibs (k + 1) (p.squibs.drop (k + 1)) else ((k : Int), squibR p.keys.length p.squibs[k])) else ((k : Int), nmE ((p.squibs.take k).map (·.name)) p.squibs[k].name) := by
    unfold squibsE
    rw [namedE, take_snoc (·.name) hk]
   rw [e]
   by_cases h0 : nmE ((p.squibs.take k).map (·.name)) p.squibs[k].name = 0
   ·rw [if_pos h0, show decide (nmE ((p.squibs.take k).map (·.name)) p.squibs[k].name = 0) = true from decide_eq_true h0, cond_true]
    by_cases h1 : squibR p.keys.length p.squibs[k] = 0
    ·rw [if_pos h1, if_pos h1]
    ·rw [if_neg h1, if_neg h1, partO, show decide (((k : Int), squibR p.keys.length p.squibs[k]).2 = 0) = false from decide_eq_false h1]; rfl
   ·rw [if_neg h0, show decide (nmE ((p.squibs.take k).map (·.name)) p.squibs[k].name = 0) = false from decide_eq_false h0, cond_false, if_neg h0, partO, show decide (((k : Int), nmE ((p.squibs.take k).map (·.name)) p.squibs[k].name).2 = 0) = false from decide_eq_false h0]
    rfl
  ·rw [if_neg (by omega), List.drop_of_length_le (by omega)]
   rfl
def longP (p : PdPad) : Bool := outP p.zones.length 1 8 || decide (24 < p.doors.length) || decide (8 < p.people.length) || decide (8 < p.keys.length) || decide (6 < p.squibs.length)
def panelE (p : PdPad) : Int × Int × Int := bif outP p.panel 0 ((p.zones.length : Int) - 1) then (7, 0, 4) else bif (p.squibs.any (nearW (p.zones.getD p.panel.toNat default))) then (7, 0, 2) else bif outP p.wait 0 6000 then (7, 0, 7) else (0, 0, 0)
def part (n : Int) (x : Int × Int) (c : Int × Int × Int) : Int × Int × Int := bif decide (x.2 = 0) then c else (n, x.1, x.2)
def checkP (p : PdPad) : Int × Int × Int := bif longP p then (1, 0, 3) else part 2 (namedE (·.name) zoneR [] 0 p.zones) (part 3 (doorsE p.zones.length 0 p.doors) (part 4 (namedE (·.name) personR [] 0 p.people) (part 5 (namedE id (fun _ => 0) [] 0 p.keys) (part 6 (namedE (·.name) (squibR p.keys.length) [] 0 p.squibs) (panelE p)))))
theorem longP_false {p : PdPad} (h : longP p = false) : 1 ≤ p.zones.length ∧ p.zones.length ≤ 8 ∧ p.doors.length ≤ 24 ∧ p.people.length ≤ 8 ∧ p.keys.length ≤ 8 ∧ p.squibs.length ≤ 6 := by
 simp only [longP, Bool.or_eq_false_iff, decide_eq_false_iff_not, outP_false] at h
 omega
theorem part_some (n : Int) (x : Int × Int) (c : Int × Int × Int) : (if x.2 = 0 then some c else some (n, x.1, x.2)) = some (part n x c) := by
 unfold part
 by_cases h : x.2 = 0 <;> simp [h]
theorem partO_some (n : Int) (x : Int × Int) (c : Int × Int × Int) : partO n x (some c) = some (part n x c) := by
 unfold part partO
 cases decide (x.2 = 0) <;> rfl
theorem panel_at {p : PdPad} (h : outP p.panel 0 ((p.zones.length : Int) - 1) = false) : ∃ z : Nat, ∃ _ : z < p.zones.length, p.panel = z := by
 have := outP_false.1 h
 exact ⟨p.panel.toNat, by omega, by omega⟩
theorem pad_Check_eq {F : Nat} {p : PdPad} (h : PadF F p) : pad_Check F p = some (checkP p) := by
 have hf := h.f
 have hz := h.lz
 have hJ : longP p = false → pad_Check_J3 F p = some (checkP p) := fun hl => by
  obtain ⟨l1, l2, l3, l4, l5, l6⟩ := longP_false hl
  have hn : ∀ n : Nat, pad_Check_J2 F p = some (bif outP p.wait 0 6000 then (7, 0, 7) else (0, 0, 0)) := fun _ => by
   rw [pad_Check_J2, pad_out_eq, Option.bind_some]; cases outP p.wait 0 6000 <;> rfl
  have hpan : (if outP p.panel 0 ((p.zones.length : Int) - 1) = true then (some ((7, 0, 4) : Int × Int × Int)) else (Option.bind (pad_near F p p.panel) fun rv9 => if rv9.1 < 0 then (pad_Check_J2 F p) else (Option.bind (ixO rv9.2.zones rv9.1) fun e2 => pad_Check_L1 F rv9 e2 (fun (x2 : Int) => pad_Check_J2 F p) F 0))) = some (panelE p) := by
   unfold panelE
   cases ho : outP p.panel 0 ((p.zones.length : Int) - 1) with
   | true => rfl
   | false =>
    obtain ⟨z, hz, e⟩ := panel_at ho
    rw [if_neg (by simp), pad_near, Option.bind_some]
    dsimp only
    rw [if_neg (by omega), e, ixO_nat hz, Option.bind_some, hn 0]
    have := Check_near h p.zones[z] z (some (bif outP p.wait 0 6000 then ((7, 0, 7) : Int × Int × Int) else (0, 0, 0))) F 0 (by omega) (by omega)
    rw [z0] at this
    rw [this, Int.toNat_natCast, List.drop_zero, List.getD_eq_getElem?_getD, List.getElem?_eq_getElem hz, Option.getD_some]
    cases (p.squibs.any (nearW p.zones[z])) <;> rfl
  have hd := Check_doors h (some (part 4 (namedE (·.name) personR [] 0 p.people) (part 5 (namedE id (fun _ => 0) [] 0 p.keys) (part 6 (namedE (·.name) (squibR p.keys.length) [] 0 p.squibs) (panelE p))))) F 0 (by omega) (by omega)
  rw [pad_Check_J3, named_PdZone_eq (nm := (·.name)) (rest := zoneR) (fun x _ => by rw [pad_Check_1]) (fun x _ => pad_zone_eq hf x) (by omega) (by omega) h.zn, Option.bind_some]
  simp only [named_PdPerson_eq (F := F) (lv := p.people) (nm := (·.name)) (rest := personR) (name := fun a0 => pad_Check_2 F a0) (re := fun a0 => pad_Check_3 F a0) (fun x _ => by rw [pad_Check_2]) (fun x _ => by rw [pad_Check_3, pad_low, pad_out_eq]; simp only [Option.bind_some, personR]; cases outP x.grade 0 9 <;> rfl) (by omega) (by omega) h.pn,
   named_string_eq (F := F) (lv := p.keys) (nm := id) (rest := fun _ => 0) (name := fun a0 => pad_Check_4 F a0) (re := fun a0 => pad_Check_5 F a0) (fun x _ => by rw [pad_Check_4]; rfl) (fun x _ => by rw [pad_Check_5]) (by omega) (by omega) h.kn,
   named_PdSquib_eq (F := F) (lv := p.squibs) (nm := (·.name)) (rest := squibR p.keys.length) (name := fun a0 => pad_Check_6 F a0) (re := fun a0 => pad_Check_7 F a0 p) (fun x _ => by rw [pad_Check_6]) (fun x hx => by rw [pad_Check_7, pad_squib_eq h hx]; rfl) (by omega) (by omega) h.qn, Option.bind_some, W_len hz, pad_out_eq, hpan, part_some]
  rw [z0, partO_some, List.drop_zero] at hd
  rw [hd, part_some]
  unfold checkP
  rw [hl, cond_false]
 have hJ4 : longP p = true → pad_Check_J4 F = some (checkP p) := fun hl => by
  unfold checkP; rw [hl]; rfl
 rw [pad_Check, W_len hz, pad_out_eq, Option.bind_some]
 have ez : outP ((p.zones.length : Int) - 1) 0 7 = outP p.zones.length 1 8 := by
  unfold outP; rw [decide_eq_decide]; omega
 rw [ez]
 have hb : longP p = (outP p.zones.length 1 8 || decide (24 < p.doors.length) || decide (8 < p.people.length) || decide (8 < p.keys.length) || decide (6 < p.squibs.length)) := rfl
 have c1 : decide ((24 : Int) < p.doors.length) = decide (24 < p.doors.length) := by rw [decide_eq_decide]; omega
 have c2 : decide ((8 : Int) < p.people.length) = decide (8 < p.people.length) := by rw [decide_eq_decide]; omega
 have c3 : decide ((8 : Int) < p.keys.length) = decide (8 < p.keys.length) := by rw [decide_eq_decide]; omega
 have c4 : decide ((6 : Int) < p.squibs.length) = decide (6 < p.squibs.length) := by rw [decide_eq_decide]; omega
 simp only [iteP, dec_true, bif_or, c1, c2, c3, c4]
 simp only [Bool.or_assoc] at hb
 rw [← hb]
 cases hl : longP p with
 | true => exact hJ4 hl
 | false => exact hJ hl
theorem r7_Check_eq {F : Nat} {p : PdPad} (h : PadF F p) : r7_Check F p = some (checkP p) := by
 have hf := h.f
 have hz := h.lz
 have hJ : longP p = false → r7_Check_J1 F p = some (checkP p) := fun hl => by
  obtain ⟨l1, l2, l3, l4, l5, l6⟩ := longP_false hl
  have hw : (Option.bind (r7_in F p.wait 0 6000) fun rv9 => if rv9 = true then (some ((0, 0, 0) : Int × Int × Int)) else (some (7, 0, 7))) = some (bif outP p.wait 0 6000 then (7, 0, 7) else (0, 0, 0)) := by
   rw [r7_in_eq, Option.bind_some]; cases outP p.wait 0 6000 <;> rfl
  have hpan : (Option.bind (r7_zone F p p.panel) fun rv7 => if rv7 = true then (r7_Check_L1 F p (fun (x3 : Int) => some (bif outP p.wait 0 6000 then ((7, 0, 7) : Int × Int × Int) else (0, 0, 0))) F 0) else (some (7, 0, 4))) = some (panelE p) := by
   rw [r7_zone_eq h, Option.bind_some]
   unfold panelE
   cases ho : outP p.panel 0 ((p.zones.length : Int) - 1) with
   | true => rfl
   | false =>
    obtain ⟨z, hz, e⟩ := panel_at ho
    have := rCheck_near h hz e (some (bif outP p.wait 0 6000 then ((7, 0, 7) : Int × Int × Int) else (0, 0, 0))) F 0 (by omega) (by omega)
    rw [z0] at this
    rw [if_pos (by simp), this, e, Int.toNat_natCast, List.drop_zero, List.getD_eq_getElem?_getD, List.getElem?_eq_getElem hz, Option.getD_some]
    cases (p.squibs.any (nearW p.zones[z])) <;> rfl
  have hq := rCheck_squibs h l6 (some (panelE p)) F 0 (by omega) (by omega)
  have hk := rCheck_keys h (some (part 6 (namedE (·.name) (squibR p.keys.length) [] 0 p.squibs) (panelE p))) F 0 (by omega) (by omega) l5
  rw [r7_Check_J1, r7_zones_eq h l2, Option.bind_some]
  simp only [r7_doors_eq h l3, r7_people_eq h l4, Option.bind_some, hw, hpan]
  rw [z0] at hq hk
  rw [hq]
  simp only [squibsE, List.take_zero, List.map_nil, List.drop_zero]
  rw [partO_some, hk, partO_some]
  unfold checkP
  rw [hl, cond_false]
  simp only [List.take_zero, List.drop_zero, part_some]
 have hJ2 : longP p = true → r7_Check_J2 F = some (checkP p) := fun hl => by
  unfold checkP; rw [hl]; rfl
 rw [r7_Check, r7_in_eq, Option.bind_some]
 have hb : longP p = (outP p.zones.length 1 8 || decide (24 < p.doors.length) || decide (8 < p.people.length) || decide (8 < p.keys.length) || decide (6 < p.squibs.length)) := rfl
 have c1 : decide ((24 : Int) < p.doors.length) = decide (24 < p.doors.length) := by rw [decide_eq_decide]; omega
 have c2 : decide ((8 : Int) < p.people.length) = decide (8 < p.people.length) := by rw [decide_eq_decide]; omega
 have c3 : decide ((8 : Int) < p.keys.length) = decide (8 < p.keys.length) := by rw [decide_eq_decide]; omega
 have c4 : decide ((6 : Int) < p.squibs.length) = decide (6 < p.squibs.length) := by rw [decide_eq_decide]; omega
 simp only [iteP, dec_true, Bool.cond_not, bif_or, c1, c2, c3, c4]
 simp only [Bool.or_assoc] at hb
 rw [← hb]
 cases hl : longP p with
 | true => exact hJ2 hl
 | false => exact hJ hl
theorem fuel_ex {α : Type} (f : α → Nat) : ∀ l : List α, ∃ N, ∀ x ∈ l, f x < N
 | [] => ⟨0, fun _ h => by simp at h⟩
 | a :: l => by
  obtain ⟨N, h⟩ := fuel_ex f l
  refine ⟨N + f a + 1, fun x hx => ?_⟩
  rcases List.mem_cons.1 hx with rfl | hx
  ·omega
  ·have := h x hx; omega
theorem padF_ex {p : PdPad} (h1 : p.zones.length < 9223372036854775808) (h2 : p.doors.length < 9223372036854775808) (h3 : p.people.length < 9223372036854775808) (h4 : p.keys.length < 9223372036854775808) (h5 : p.squibs.length < 9223372036854775808)
  (k1 : ∀ x ∈ p.zones, x.name.size < 9223372036854775808) (k2 : ∀ x ∈ p.people, x.name.size < 9223372036854775808) (k3 : ∀ x ∈ p.keys, x.size < 9223372036854775808) (k4 : ∀ x ∈ p.squibs, x.name.size < 9223372036854775808) (k5 : ∀ x ∈ p.squibs, x.keys.length < 9223372036854775808) : ∃ F0, ∀ F, F0 ≤ F → PadF F p := by
 obtain ⟨a, ha⟩ := fuel_ex (fun x : PdZone => x.name.size) p.zones
 obtain ⟨b, hb⟩ := fuel_ex (fun x : PdPerson => x.name.size) p.people
 obtain ⟨c, hc⟩ := fuel_ex (fun x : ByteArray => x.size) p.keys
 obtain ⟨d, hd⟩ := fuel_ex (fun x : PdSquib => x.name.size) p.squibs
 obtain ⟨e, he⟩ := fuel_ex (fun x : PdSquib => x.keys.length) p.squibs
 refine ⟨101 + a + b + c + d + e, fun F hF => ⟨by omega, h1, h2, h3, h4, h5, fun x hx => ⟨?_, k1 x hx⟩, fun x hx => ⟨?_, k2 x hx⟩, fun x hx => ⟨?_, k3 x hx⟩, fun x hx => ⟨?_, k4 x hx⟩, fun x hx => ⟨?_, k5 x hx⟩⟩⟩
 ·have := ha x hx; omega
 ·have := hb x hx; omega
 ·have := hc x hx; omega
 ·have := hd x hx; omega
 ·have := he x hx; omega
end Go.Proofs.Ythcnganbnbhhoaa
