/- The plain part of pad.Check: the program's answer and the document's are the same. -/
import Derived.Test.YthcnganbnbhhoaaW4
import Derived.MapKept
import Derived.Laws.Strings
open Go Go.Proofs.Ythcnganbnbhhoaa.Sh Go.Proofs
namespace Go.Proofs.Ythcnganbnbhhoaa
set_option linter.unusedVariables false
set_option linter.unusedSimpArgs false
theorem W_id {x : Int} (h : -9223372036854775808 ≤ x := by omega) (k : x < 9223372036854775808 := by omega) : W x = x := by
 unfold W IntKind.wrap
 simp [IntKind.bits, IntKind.signed]
 omega
theorem W_succ {k : Nat} (h : k < 9223372036854775807) : W ((k : Int) + 1) = ((k + 1 : Nat) : Int) := by rw [W_id]; omega
theorem W_pred {k : Nat} (h : 0 < k) (h2 : k < 9223372036854775808) : W ((k : Int) - 1) = ((k - 1 : Nat) : Int) := by rw [W_id]; omega
theorem ixO_nat {α : Type} {l : List α} {k : Nat} (h : k < l.length) : ixO l (k : Int) = some l[k] := by
 unfold ixO
 rw [if_pos (Int.natCast_nonneg k), Int.toNat_natCast, List.getElem?_eq_getElem h]
theorem app_one {α : Type} {l : List α} {a : α} (h : l.length < 100000) : appO l [a] = some (l ++ [a]) := by
 unfold appO
 rw [if_pos (by simp; omega)]
theorem cut_nat {α : Type} {l : List α} {k : Nat} (h : k ≤ l.length) : cutO l 0 (k : Int) = some (l.take k) := by
 unfold cutO
 rw [if_pos (by omega)]
 simp
/-! ### Ifs as truths -/
theorem iteP {α : Type} (p : Prop) [Decidable p] (A B : α) : (if p then A else B) = bif decide p then A else B := by
 by_cases h : p <;> simp [h]
theorem bif_or {α : Type} (a b : Bool) (A B : α) : (bif a then A else bif b then A else B) = bif (a || b) then A else B := by cases a <;> rfl
theorem bif_some {α : Type} (a : Bool) (A B : α) : some (bif a then A else B) = bif a then some A else some B := by cases a <;> rfl
theorem dec_true (b : Bool) [Decidable (b = true)] : decide (b = true) = b := by cases b <;> simp
/-! ### out and in -/
def outP (n lo hi : Int) : Bool := decide (n < lo ∨ hi < n)
theorem pad_out_eq (F : Nat) (n lo hi : Int) : pad_out F n lo hi = some (outP n lo hi) := by
 unfold pad_out outP
 split <;> simp [*]
theorem wind_out_eq (F : Nat) (n lo hi : Int) : wind_out F n lo hi = some (outP n lo hi) := by
 unfold wind_out outP
 split <;> simp [*]
theorem r7_in_eq (F : Nat) (n lo hi : Int) : r7_in F n lo hi = some (!outP n lo hi) := by
 unfold r7_in outP
 by_cases h : lo ≤ n
 ·rw [if_pos h]
  have : ¬ n < lo := by omega
  by_cases h2 : n ≤ hi
  ·have : ¬ hi < n := by omega
   simp [*]
  ·have : hi < n := by omega
   simp [*]
 ·rw [if_neg h]
  have : n < lo := by omega
  simp [this]
theorem outP_false {n lo hi : Int} : outP n lo hi = false ↔ lo ≤ n ∧ n ≤ hi := by
 unfold outP
 simp
/-! ### Names -/
def chOk (k : Nat) (e : Int) : Bool := (decide (97 ≤ e) && decide (e ≤ 122)) || (decide (k ≠ 0) && (decide (e = 45) || (decide (48 ≤ e) && decide (e ≤ 57))))
def charsP : Nat → List Int → Bool
 | _, [] => true
 | k, e :: l => chOk k e && charsP (k + 1) l
theorem bytesL_len (s : ByteArray) : (bytesL s).length = s.size := by simp [bytesL]
theorem ixB_nat {s : ByteArray} {k : Nat} (h : k < (bytesL s).length) : ixB s (k : Int) = some (bytesL s)[k] := by
 have h2 : k < s.size := by rwa [bytesL_len] at h
 unfold ixB
 rw [if_pos (Int.natCast_nonneg k), Int.toNat_natCast, getElem?_pos s k h2]
 simp [bytesL]
 rfl
theorem chOk_ite {α : Type} (k : Nat) (e : Int) (A B : α) (k' : Int) (hk : k' = k) : (if 97 ≤ e then (if e ≤ 122 then A else (if k' = 0 then B else (if e = 45 then A else (if 48 ≤ e then (if e ≤ 57 then A else B) else B)))) else (if k' = 0 then B else (if e = 45 then A else (if 48 ≤ e then (if e ≤ 57 then A else B) else B)))) = if chOk k e = true then A else B := by
 subst hk
 unfold chOk
 by_cases h1 : 97 ≤ e <;> by_cases h2 : e ≤ 122 <;> by_cases h3 : k = 0 <;> by_cases h4 : e = 45 <;> by_cases h5 : 48 ≤ e <;> by_cases h6 : e ≤ 57 <;> simp [*] <;> omega
theorem chOk_ite2 {α : Type} (k : Nat) (e : Int) (A B : α) (k' : Int) (hk : k' = k) : (if 97 ≤ e then (if e ≤ 122 then A else (if k' = 0 then B else (if 48 ≤ e then (if e ≤ 57 then A else (if e = 45 then A else B)) else (if e = 45 then A else B)))) else (if k' = 0 then B else (if 48 ≤ e then (if e ≤ 57 then A else (if e = 45 then A else B)) else (if e = 45 then A else B)))) = if chOk k e = true then A else B := by
 subst hk
 unfold chOk
 by_cases h1 : 97 ≤ e <;> by_cases h2 : e ≤ 122 <;> by_cases h3 : k = 0 <;> by_cases h4 : e = 45 <;> by_cases h5 : 48 ≤ e <;> by_cases h6 : e ≤ 57 <;> simp [*] <;> omega
theorem Name_L1 {F : Nat} {s : ByteArray} (hl : (bytesL s).length < 9223372036854775808) (c : Option Bool) : ∀ (n k : Nat), (bytesL s).length < n + k → k ≤ (bytesL s).length → wind_Name_L1 F s (fun _ => c) n k = if charsP k ((bytesL s).drop k) = true then c else some false
 | 0, k, h, h2 => absurd h (by omega)
 | n + 1, k, h, h2 => by
  rw [wind_Name_L1]
  by_cases hk : k < (bytesL s).length
  ·rw [if_pos (by omega), ixO_nat hk, Option.bind_some, chOk_ite k _ _ _ _ rfl, W_succ (by omega), Name_L1 hl c n (k + 1) (by omega) (by omega), List.drop_eq_getElem_cons hk, charsP]
   cases chOk k (bytesL s)[k] <;> simp
  ·rw [if_neg (by omega), List.drop_of_length_le (by omega)]
   rfl
theorem r1Name_L1 {F : Nat} {s : ByteArray} (hl : (bytesL s).length < 9223372036854775808) (c : Option Bool) : ∀ (n k : Nat), (bytesL s).length < n + k → k ≤ (bytesL s).length → r1_Name_L1 F s (fun _ => c) n k = if charsP k ((bytesL s).drop k) = true then c else some false
 | 0, k, h, h2 => absurd h (by omega)
 | n + 1, k, h, h2 => by
  have hs := bytesL_len s
  rw [r1_Name_L1]
  by_cases hk : k < (bytesL s).length
  ·rw [if_pos (by omega), ixB_nat hk, Option.bind_some, chOk_ite2 k _ _ _ _ rfl, W_succ (by omega), r1Name_L1 hl c n (k + 1) (by omega) (by omega), List.drop_eq_getElem_cons hk, charsP]
   cases chOk k (bytesL s)[k] <;> simp
  ·rw [if_neg (by omega), List.drop_of_length_le (by omega)]
   rfl
def nameP (s : ByteArray) : Bool := charsP 0 (bytesL s) && !outP s.size 1 24
theorem wind_Name_eq {F : Nat} {s : ByteArray} (hl : s.size < 9223372036854775808) (hF : s.size < F) : wind_Name F s = some (nameP s) := by
 have hs := bytesL_len s
 have := Name_L1 (F := F) (s := s) (by omega) (some (!outP s.size 1 24)) F 0 (by omega) (by omega)
 unfold wind_Name
 simp only [wind_out_eq, Option.bind_some]
 rw [show (0 : Int) = ((0 : Nat) : Int) from rfl, this, List.drop_zero, nameP]
 cases charsP 0 (bytesL s) <;> simp
theorem r1_Name_eq {F : Nat} {s : ByteArray} (hl : s.size < 9223372036854775808) (hF : s.size < F) : r1_Name F s = some (nameP s) := by
 have hs := bytesL_len s
 have := r1Name_L1 (F := F) (s := s) (by omega) (some true) F 0 (by omega) (by omega)
 unfold r1_Name
 rw [show (0 : Int) = ((0 : Nat) : Int) from rfl, this, List.drop_zero, nameP]
 by_cases h1 : (s.size : Int) < 1
 ·rw [if_pos h1]; simp [outP, h1]
 ·rw [if_neg h1]
  by_cases h2 : 24 < (s.size : Int)
  ·rw [if_pos h2]; simp [outP, h2]
  ·rw [if_neg h2]
   have : outP s.size 1 24 = false := by simp [outP]; omega
   rw [this]
   cases charsP 0 (bytesL s) <;> simp

theorem bytes_dec (a b : ByteArray) : decide (a.toList = b.toList) = (a == b) := by
 rw [Bool.eq_iff_iff, decide_eq_true_iff, MapKept.bytes_beq]
 constructor
 ·intro h
  rw [ByteArray.toList_eq, ByteArray.toList_eq] at h
  cases a; cases b
  simp at h
  simp [h]
 ·rintro rfl; rfl
/-- The error of a name behind others. -/
def nmE (seen : List ByteArray) (s : ByteArray) : Int := if nameP s = true then (if seen.any (fun b => decide (b.toList = s.toList)) = true then 5 else 0) else 6
def namedE {α : Type} (nm : α → ByteArray) (rest : α → Int) : List ByteArray → Nat → List α → Int × Int
 | _, _, [] => (0, 0)
 | seen, k, x :: l => if nmE seen (nm x) = 0 then (if rest x = 0 then namedE nm rest (seen ++ [nm x]) (k + 1) l else ((k : Int), rest x)) else ((k : Int), nmE seen (nm x))
theorem mget_mset {m : List (ByteArray × Bool)} (a b : ByteArray) : (mget (mset m a true) b).getD false = ((mget m b).getD false || (b == a)) := by
 have hs : ∀ x y : ByteArray, (x == y) = true → x = y := fun x y h => (MapKept.bytes_beq x y).1 h
 have hr : ∀ x : ByteArray, (x == x) = true := fun x => (MapKept.bytes_beq x x).2 rfl
 induction m with
 | nil => cases h : (b == a) <;> simp [mset, mget, h]
 | cons p m ih =>
  simp only [mset]
  cases h : (a == p.1) with
  | true =>
   have e := hs _ _ h
   simp only [cond_true, mget, List.find?_cons]
   cases h2 : (b == a) with
   | true => simp
   | false => rw [show (b == p.1) = false by rw [← e]; exact h2]; simp [mget]
  | false =>
   simp only [cond_false]
   unfold mget at ih ⊢
   simp only [List.find?_cons]
   cases h2 : (b == p.1) with
   | true =>
    have : (b == a) = false := by
     cases h3 : (b == a) with
     | false => rfl
     | true => rw [hs _ _ h3] at h2; rw [h] at h2; cases h2
    simp [this]
   | false => simpa using ih
def SeenM (m : List (ByteArray × Bool)) (seen : List ByteArray) : Prop := ∀ s, (mget m s).getD false = seen.any (fun b => decide (b.toList = s.toList))
theorem SeenM.nil : SeenM [] [] := fun _ => rfl
theorem SeenM.snoc {m : List (ByteArray × Bool)} {seen : List ByteArray} (h : SeenM m seen) (a : ByteArray) : SeenM (mset m a true) (seen ++ [a]) := fun s => by
 rw [mget_mset, h s, List.any_append]
 simp only [List.any_cons, List.any_nil, Bool.or_false, bytes_dec]
 congr 1
 rw [Bool.eq_iff_iff, MapKept.bytes_beq, MapKept.bytes_beq]
 exact eq_comm
theorem named_PdZone_L1 {F : Nat} {lv : List PdZone} {nm : PdZone → ByteArray} {rest : PdZone → Int} {name : PdZone → Option ByteArray} {re : PdZone → Option Int} (hn : ∀ x ∈ lv, name x = some (nm x)) (hr : ∀ x ∈ lv, re x = some (rest x)) (hl : lv.length < 100000) (hF : ∀ x ∈ lv, (nm x).size < F ∧ (nm x).size < 9223372036854775808) :
 ∀ (n k : Nat) (m : List (ByteArray × Bool)) (seen : List ByteArray), SeenM m seen → lv.length < n + k → k ≤ lv.length → pad_named_PdZone_L1 F lv name re (fun _ _ => some (0, 0)) n m k = some (namedE nm rest seen k (lv.drop k))
 | 0, k, _, _, _, h, h2 => absurd h (by omega)
 | n + 1, k, m, seen, hm, h, h2 => by
  rw [pad_named_PdZone_L1]
  by_cases hk : k < lv.length
  ·have hx := List.getElem_mem hk
   rw [if_pos (by omega), ixO_nat hk, Option.bind_some, hn _ hx, Option.bind_some, wind_Name_eq (hF _ hx).2 (hF _ hx).1, Option.bind_some, List.drop_eq_getElem_cons hk, namedE, W_succ (by omega)]
   cases hp : nameP (nm lv[k]) with
   | false =>
    have e : nmE seen (nm lv[k]) = 6 := by simp [nmE, hp]
    rw [e, if_neg (by simp), if_neg (by decide)]
   | true =>
    rw [if_pos rfl, hm]
    cases ha : seen.any (fun b => decide (b.toList = (nm lv[k]).toList)) with
    | true =>
     have e : nmE seen (nm lv[k]) = 5 := by unfold nmE; rw [if_pos hp, if_pos ha]
     rw [e, if_pos rfl, if_neg (by decide)]
    | false =>
     have e : nmE seen (nm lv[k]) = 0 := by unfold nmE; rw [if_pos hp, if_neg (by rw [ha]; exact Bool.false_ne_true)]
     rw [e, if_neg (by simp), if_pos rfl, hr _ hx, Option.bind_some]
     by_cases h0 : rest lv[k] = 0
     ·rw [if_pos h0, if_pos h0, named_PdZone_L1 hn hr hl hF n (k + 1) _ _ (hm.snoc _) (by omega) (by omega)]
     ·rw [if_neg h0, if_neg h0]
  ·rw [if_neg (by omega), List.drop_of_length_le (by omega)]
   rfl
theorem named_PdZone_eq {F : Nat} {lv : List PdZone} {nm : PdZone → ByteArray} {rest : PdZone → Int} {name : PdZone → Option ByteArray} {re : PdZone → Option Int} (hn : ∀ x ∈ lv, name x = some (nm x)) (hr : ∀ x ∈ lv, re x = some (rest x)) (hl : lv.length < 100000) (h0 : lv.length < F) (hF : ∀ x ∈ lv, (nm x).size < F ∧ (nm x).size < 9223372036854775808) :
 pad_named_PdZone F lv name re = some (namedE nm rest [] 0 lv) := by
 have := named_PdZone_L1 hn hr hl hF F 0 [] [] .nil (by omega) (by omega)
 simpa [pad_named_PdZone] using this
theorem named_PdPerson_L1 {F : Nat} {lv : List PdPerson} {nm : PdPerson → ByteArray} {rest : PdPerson → Int} {name : PdPerson → Option ByteArray} {re : PdPerson → Option Int} (hn : ∀ x ∈ lv, name x = some (nm x)) (hr : ∀ x ∈ lv, re x = some (rest x)) (hl : lv.length < 100000) (hF : ∀ x ∈ lv, (nm x).size < F ∧ (nm x).size < 9223372036854775808) :
 ∀ (n k : Nat) (m : List (ByteArray × Bool)) (seen : List ByteArray), SeenM m seen → lv.length < n + k → k ≤ lv.length → pad_named_PdPerson_L1 F lv name re (fun _ _ => some (0, 0)) n m k = some (namedE nm rest seen k (lv.drop k))
 | 0, k, _, _, _, h, h2 => absurd h (by omega)
 | n + 1, k, m, seen, hm, h, h2 => by
  rw [pad_named_PdPerson_L1]
  by_cases hk : k < lv.length
  ·have hx := List.getElem_mem hk
   rw [if_pos (by omega), ixO_nat hk, Option.bind_some, hn _ hx, Option.bind_some, wind_Name_eq (hF _ hx).2 (hF _ hx).1, Option.bind_some, List.drop_eq_getElem_cons hk, namedE, W_succ (by omega)]
   cases hp : nameP (nm lv[k]) with
   | false =>
    have e : nmE seen (nm lv[k]) = 6 := by simp [nmE, hp]
    rw [e, if_neg (by simp), if_neg (by decide)]
   | true =>
    rw [if_pos rfl, hm]
    cases ha : seen.any (fun b => decide (b.toList = (nm lv[k]).toList)) with
    | true =>
     have e : nmE seen (nm lv[k]) = 5 := by unfold nmE; rw [if_pos hp, if_pos ha]
     rw [e, if_pos rfl, if_neg (by decide)]
    | false =>
     have e : nmE seen (nm lv[k]) = 0 := by unfold nmE; rw [if_pos hp, if_neg (by rw [ha]; exact Bool.false_ne_true)]
     rw [e, if_neg (by simp), if_pos rfl, hr _ hx, Option.bind_some]
     by_cases h0 : rest lv[k] = 0
     ·rw [if_pos h0, if_pos h0, named_PdPerson_L1 hn hr hl hF n (k + 1) _ _ (hm.snoc _) (by omega) (by omega)]
     ·rw [if_neg h0, if_neg h0]
  ·rw [if_neg (by omega), List.drop_of_length_le (by omega)]
   rfl
theorem named_PdPerson_eq {F : Nat} {lv : List PdPerson} {nm : PdPerson → ByteArray} {rest : PdPerson → Int} {name : PdPerson → Option ByteArray} {re : PdPerson → Option Int} (hn : ∀ x ∈ lv, name x = some (nm x)) (hr : ∀ x ∈ lv, re x = some (rest x)) (hl : lv.length < 100000) (h0 : lv.length < F) (hF : ∀ x ∈ lv, (nm x).size < F ∧ (nm x).size < 9223372036854775808) :
 pad_named_PdPerson F lv name re = some (namedE nm rest [] 0 lv) := by
 have := named_PdPerson_L1 hn hr hl hF F 0 [] [] .nil (by omega) (by omega)
 simpa [pad_named_PdPerson] using this
theorem named_string_L1 {F : Nat} {lv : List ByteArray} {nm : ByteArray → ByteArray} {rest : ByteArray → Int} {name : ByteArray → Option ByteArray} {re : ByteArray → Option Int} (hn : ∀ x ∈ lv, name x = some (nm x)) (hr : ∀ x ∈ lv, re x = some (rest x)) (hl : lv.length < 100000) (hF : ∀ x ∈ lv, (nm x).size < F ∧ (nm x).size < 9223372036854775808) :
 ∀ (n k : Nat) (m : List (ByteArray × Bool)) (seen : List ByteArray), SeenM m seen → lv.length < n + k → k ≤ lv.length → pad_named_string_L1 F lv name re (fun _ _ => some (0, 0)) n m k = some (namedE nm rest seen k (lv.drop k))
 | 0, k, _, _, _, h, h2 => absurd h (by omega)
 | n + 1, k, m, seen, hm, h, h2 => by
  rw [pad_named_string_L1]
  by_cases hk : k < lv.length
  ·have hx := List.getElem_mem hk
   rw [if_pos (by omega), ixO_nat hk, Option.bind_some, hn _ hx, Option.bind_some, wind_Name_eq (hF _ hx).2 (hF _ hx).1, Option.bind_some, List.drop_eq_getElem_cons hk, namedE, W_succ (by omega)]
   cases hp : nameP (nm lv[k]) with
   | false =>
    have e : nmE seen (nm lv[k]) = 6 := by simp [nmE, hp]
    rw [e, if_neg (by simp), if_neg (by decide)]
   | true =>
    rw [if_pos rfl, hm]
    cases ha : seen.any (fun b => decide (b.toList = (nm lv[k]).toList)) with
    | true =>
     have e : nmE seen (nm lv[k]) = 5 := by unfold nmE; rw [if_pos hp, if_pos ha]
     rw [e, if_pos rfl, if_neg (by decide)]
    | false =>
     have e : nmE seen (nm lv[k]) = 0 := by unfold nmE; rw [if_pos hp, if_neg (by rw [ha]; exact Bool.false_ne_true)]
     rw [e, if_neg (by simp), if_pos rfl, hr _ hx, Option.bind_some]
     by_cases h0 : rest lv[k] = 0
     ·rw [if_pos h0, if_pos h0, named_string_L1 hn hr hl hF n (k + 1) _ _ (hm.snoc _) (by omega) (by omega)]
     ·rw [if_neg h0, if_neg h0]
  ·rw [if_neg (by omega), List.drop_of_length_le (by omega)]
   rfl
theorem named_string_eq {F : Nat} {lv : List ByteArray} {nm : ByteArray → ByteArray} {rest : ByteArray → Int} {name : ByteArray → Option ByteArray} {re : ByteArray → Option Int} (hn : ∀ x ∈ lv, name x = some (nm x)) (hr : ∀ x ∈ lv, re x = some (rest x)) (hl : lv.length < 100000) (h0 : lv.length < F) (hF : ∀ x ∈ lv, (nm x).size < F ∧ (nm x).size < 9223372036854775808) :
 pad_named_string F lv name re = some (namedE nm rest [] 0 lv) := by
 have := named_string_L1 hn hr hl hF F 0 [] [] .nil (by omega) (by omega)
 simpa [pad_named_string] using this
theorem named_PdSquib_L1 {F : Nat} {lv : List PdSquib} {nm : PdSquib → ByteArray} {rest : PdSquib → Int} {name : PdSquib → Option ByteArray} {re : PdSquib → Option Int} (hn : ∀ x ∈ lv, name x = some (nm x)) (hr : ∀ x ∈ lv, re x = some (rest x)) (hl : lv.length < 100000) (hF : ∀ x ∈ lv, (nm x).size < F ∧ (nm x).size < 9223372036854775808) :
 ∀ (n k : Nat) (m : List (ByteArray × Bool)) (seen : List ByteArray), SeenM m seen → lv.length < n + k → k ≤ lv.length → pad_named_PdSquib_L1 F lv name re (fun _ _ => some (0, 0)) n m k = some (namedE nm rest seen k (lv.drop k))
 | 0, k, _, _, _, h, h2 => absurd h (by omega)
 | n + 1, k, m, seen, hm, h, h2 => by
  rw [pad_named_PdSquib_L1]
  by_cases hk : k < lv.length
  ·have hx := List.getElem_mem hk
   rw [if_pos (by omega), ixO_nat hk, Option.bind_some, hn _ hx, Option.bind_some, wind_Name_eq (hF _ hx).2 (hF _ hx).1, Option.bind_some, List.drop_eq_getElem_cons hk, namedE, W_succ (by omega)]
   cases hp : nameP (nm lv[k]) with
   | false =>
    have e : nmE seen (nm lv[k]) = 6 := by simp [nmE, hp]
    rw [e, if_neg (by simp), if_neg (by decide)]
   | true =>
    rw [if_pos rfl, hm]
    cases ha : seen.any (fun b => decide (b.toList = (nm lv[k]).toList)) with
    | true =>
     have e : nmE seen (nm lv[k]) = 5 := by unfold nmE; rw [if_pos hp, if_pos ha]
     rw [e, if_pos rfl, if_neg (by decide)]
    | false =>
     have e : nmE seen (nm lv[k]) = 0 := by unfold nmE; rw [if_pos hp, if_neg (by rw [ha]; exact Bool.false_ne_true)]
     rw [e, if_neg (by simp), if_pos rfl, hr _ hx, Option.bind_some]
     by_cases h0 : rest lv[k] = 0
     ·rw [if_pos h0, if_pos h0, named_PdSquib_L1 hn hr hl hF n (k + 1) _ _ (hm.snoc _) (by omega) (by omega)]
     ·rw [if_neg h0, if_neg h0]
  ·rw [if_neg (by omega), List.drop_of_length_le (by omega)]
   rfl
theorem named_PdSquib_eq {F : Nat} {lv : List PdSquib} {nm : PdSquib → ByteArray} {rest : PdSquib → Int} {name : PdSquib → Option ByteArray} {re : PdSquib → Option Int} (hn : ∀ x ∈ lv, name x = some (nm x)) (hr : ∀ x ∈ lv, re x = some (rest x)) (hl : lv.length < 100000) (h0 : lv.length < F) (hF : ∀ x ∈ lv, (nm x).size < F ∧ (nm x).size < 9223372036854775808) :
 pad_named_PdSquib F lv name re = some (namedE nm rest [] 0 lv) := by
 have := named_PdSquib_L1 hn hr hl hF F 0 [] [] .nil (by omega) (by omega)
 simpa [pad_named_PdSquib] using this
theorem r7_name_L1s {F : Nat} {s : ByteArray} {before : List ByteArray} (hl : before.length < 9223372036854775808) : ∀ (n k : Nat), before.length < n + k → k ≤ before.length → r7_name_L1 F s before (fun _ => some 0) n k = some (if (before.drop k).any (fun b => decide (b.toList = s.toList)) = true then 5 else 0)
 | 0, k, h, h2 => absurd h (by omega)
 | n + 1, k, h, h2 => by
  rw [r7_name_L1]
  by_cases hk : k < before.length
  ·rw [if_pos (by omega), ixO_nat hk, Option.bind_some, List.drop_eq_getElem_cons hk, List.any_cons, W_succ (by omega), r7_name_L1s hl n (k + 1) (by omega) (by omega)]
   by_cases he : before[k].toList = s.toList
   ·rw [if_pos he]; simp [he]
   ·rw [if_neg he]; simp [he]
  ·rw [if_neg (by omega), List.drop_of_length_le (by omega)]
   rfl
theorem r7_name_eq {F : Nat} {s : ByteArray} {before : List ByteArray} (hl : before.length < 9223372036854775808) (h0 : before.length < F) (hs : s.size < 9223372036854775808) (hF : s.size < F) : r7_name F s before = some (nmE before s) := by
 have := r7_name_L1s (F := F) (s := s) hl F 0 (by omega) (by omega)
 rw [r7_name, r1_Name_eq hs hF, Option.bind_some, nmE]
 cases nameP s with
 | false => rfl
 | true => simpa using this
/-! ### Fuel for a pad -/
structure PadF (F : Nat) (p : PdPad) : Prop where
 f : 100 < F
 lz : p.zones.length < 9223372036854775808
 ld : p.doors.length < 9223372036854775808
 lp : p.people.length < 9223372036854775808
 lk : p.keys.length < 9223372036854775808
 lq : p.squibs.length < 9223372036854775808
 zn : ∀ x ∈ p.zones, x.name.size < F ∧ x.name.size < 9223372036854775808
 pn : ∀ x ∈ p.people, x.name.size < F ∧ x.name.size < 9223372036854775808
 kn : ∀ x ∈ p.keys, x.size < F ∧ x.size < 9223372036854775808
 qn : ∀ x ∈ p.squibs, x.name.size < F ∧ x.name.size < 9223372036854775808
 qk : ∀ x ∈ p.squibs, x.keys.length < F ∧ x.keys.length < 9223372036854775808
/-! ### Functions over lists of numbers -/
theorem IndexFunc_L1s {F : Nat} {s : List Int} {f : Int → Option Bool} {p : Int → Bool} (hf : ∀ x ∈ s, f x = some (p x)) (hl : s.length < 9223372036854775808) : ∀ (n k : Nat), s.length < n + k → k ≤ s.length → ∃ r, slices_IndexFunc_int_L1 F s f (fun _ => some (-1)) n k = some r ∧ decide (0 ≤ r) = (s.drop k).any p
 | 0, k, h, h2 => absurd h (by omega)
 | n + 1, k, h, h2 => by
  rw [slices_IndexFunc_int_L1]
  by_cases hk : k < s.length
  ·rw [if_pos (by omega), ixO_nat hk, Option.bind_some, hf _ (List.getElem_mem hk), Option.bind_some, List.drop_eq_getElem_cons hk, List.any_cons, W_succ (by omega)]
   cases hp : p s[k] with
   | true => exact ⟨k, by simp, by simp⟩
   | false => simpa using IndexFunc_L1s hf hl n (k + 1) (by omega) (by omega)
  ·rw [if_neg (by omega), List.drop_of_length_le (by omega)]
   exact ⟨-1, rfl, by simp⟩
theorem ContainsFunc_eq {F : Nat} {s : List Int} {f : Int → Option Bool} {p : Int → Bool} (hf : ∀ x ∈ s, f x = some (p x)) (hl : s.length < 9223372036854775808) (hF : s.length < F) : slices_ContainsFunc_int F s f = some (s.any p) := by
 obtain ⟨r, h1, h2⟩ := IndexFunc_L1s (F := F) hf hl F 0 (by omega) (by omega)
 rw [slices_ContainsFunc_int, slices_IndexFunc_int, show (0 : Int) = ((0 : Nat) : Int) from rfl, h1, Option.bind_some, show ((0 : Nat) : Int) = 0 from rfl, h2, List.drop_zero]
/-! ### Zones, people, doors -/
def offP (n : Int) : Bool := outP n (-10000000) 10000000
theorem pad_off_eq {F : Nat} {l : List Int} (hl : l.length < 9223372036854775808) (hF : l.length < F) : pad_off F l = some (l.any offP) := by
 rw [pad_off, ContainsFunc_eq (p := offP) (fun x _ => by rw [pad_off_1, pad_out_eq]; rfl) hl hF]
 rfl
def zoneBad (z : PdZone) : Bool := offP z.area_X_Lo || offP z.area_X_Hi || offP z.area_Y_Lo || offP z.area_Y_Hi || decide (z.area_X_Hi < z.area_X_Lo) || decide (z.area_Y_Hi < z.area_Y_Lo) || outP z.grade 0 9 || outP z.room 1 8
def zoneR (z : PdZone) : Int := if zoneBad z = true then 7 else 0
theorem pad_zone_eq {F : Nat} (hF : 100 < F) (z : PdZone) : pad_zone F z = some (zoneR z) := by
 rw [pad_zone, pad_off_eq (by simp) (by simp; omega)]
 simp only [Option.bind_some, pad_low, pad_out_eq, List.any_cons, List.any_nil, zoneR, zoneBad, pad_zone_J1, iteP, dec_true, bif_or, bif_some, Bool.or_assoc, Bool.or_false]
theorem r7_side_eq (F : Nat) (s : Span) : r7_side F s = some (!(offP s.lo || offP s.hi || decide (s.hi < s.lo))) := by
 simp only [r7_side, r7_place, r7_in_eq, Option.bind_some, offP]
 by_cases h : s.hi < s.lo
 ·have : ¬ s.lo ≤ s.hi := by omega
  cases outP s.lo (-10000000) 10000000 <;> cases outP s.hi (-10000000) 10000000 <;> simp [h, this]
 ·have : s.lo ≤ s.hi := by omega
  cases outP s.lo (-10000000) 10000000 <;> cases outP s.hi (-10000000) 10000000 <;> simp [h, this]
theorem zones_L1s {F : Nat} {p : PdPad} (h : PadF F p) (hl : p.zones.length ≤ 8) : ∀ (n k : Nat) (seen : List ByteArray), seen.length = k → p.zones.length < n + k → k ≤ p.zones.length → r7_zones_L1 F p (fun _ _ => some (0, 0)) n seen k = some (namedE (·.name) zoneR seen k (p.zones.drop k))
 | 0, k, _, _, h1, h2 => absurd h1 (by omega)
 | n + 1, k, seen, hs, h1, h2 => by
  rw [r7_zones_L1]
  by_cases hk : k < p.zones.length
  ·have hx := List.getElem_mem hk
   have hf := h.f
   rw [if_pos (by omega), ixO_nat hk, Option.bind_some, r7_name_eq (by omega) (by omega) (h.zn _ hx).2 (h.zn _ hx).1, Option.bind_some, List.drop_eq_getElem_cons hk, namedE]
   simp only [r7_side_eq, r7_grade, r7_in_eq, Option.bind_some, r7_zones_J1]
   by_cases h0 : nmE seen p.zones[k].name = 0
   ·rw [if_pos h0, if_pos h0]
    have ih := zones_L1s h hl n (k + 1) (seen ++ [p.zones[k].name]) (by simp [hs]) (by omega) (by omega)
    simp only [app_one (show seen.length < 100000 by omega), Option.bind_some, W_succ (show k < 9223372036854775807 by omega), h0, ih]
    have e : zoneR p.zones[k] = if zoneBad p.zones[k] = true then 7 else 0 := rfl
    have e2 : zoneBad p.zones[k] = ((offP p.zones[k].area_X_Lo || offP p.zones[k].area_X_Hi || decide (p.zones[k].area_X_Hi < p.zones[k].area_X_Lo)) || (offP p.zones[k].area_Y_Lo || offP p.zones[k].area_Y_Hi || decide (p.zones[k].area_Y_Hi < p.zones[k].area_Y_Lo)) || outP p.zones[k].grade 0 9 || outP p.zones[k].room 1 8) := by
     unfold zoneBad
     generalize decide (p.zones[k].area_X_Hi < p.zones[k].area_X_Lo) = a
     generalize decide (p.zones[k].area_Y_Hi < p.zones[k].area_Y_Lo) = b
     cases offP p.zones[k].area_X_Lo <;> cases offP p.zones[k].area_X_Hi <;> cases offP p.zones[k].area_Y_Lo <;> cases offP p.zones[k].area_Y_Hi <;> cases a <;> cases b <;> rfl
    rw [e, e2]
    simp only [iteP, dec_true]
    generalize (offP p.zones[k].area_X_Lo || offP p.zones[k].area_X_Hi || decide (p.zones[k].area_X_Hi < p.zones[k].area_X_Lo)) = a
    generalize (offP p.zones[k].area_Y_Lo || offP p.zones[k].area_Y_Hi || decide (p.zones[k].area_Y_Hi < p.zones[k].area_Y_Lo)) = b
    cases a <;> cases b <;> cases outP p.zones[k].grade 0 9 <;> cases outP p.zones[k].room 1 8 <;> rfl
   ·rw [if_neg h0, if_neg h0, if_neg h0]
  ·rw [if_neg (by omega), List.drop_of_length_le (by omega)]
   rfl
theorem r7_zones_eq {F : Nat} {p : PdPad} (h : PadF F p) (hl : p.zones.length ≤ 8) : r7_zones F p = some (namedE (·.name) zoneR [] 0 p.zones) := by
 have := zones_L1s h hl F 0 [] rfl (by have := h.f; omega) (by omega)
 simpa [r7_zones] using this
def personR (x : PdPerson) : Int := if outP x.grade 0 9 = true then 7 else 0
theorem people_L1s {F : Nat} {p : PdPad} (h : PadF F p) (hl : p.people.length ≤ 8) : ∀ (n k : Nat) (seen : List ByteArray), seen.length = k → p.people.length < n + k → k ≤ p.people.length → r7_people_L1 F p (fun _ _ => some (0, 0)) n seen k = some (namedE (·.name) personR seen k (p.people.drop k))
 | 0, k, _, _, h1, h2 => absurd h1 (by omega)
 | n + 1, k, seen, hs, h1, h2 => by
  rw [r7_people_L1]
  by_cases hk : k < p.people.length
  ·have hx := List.getElem_mem hk
   have hf := h.f
   rw [if_pos (by omega), ixO_nat hk, Option.bind_some, r7_name_eq (by omega) (by omega) (h.pn _ hx).2 (h.pn _ hx).1, Option.bind_some, List.drop_eq_getElem_cons hk, namedE]
   simp only [r7_grade, r7_in_eq, Option.bind_some]
   by_cases h0 : nmE seen p.people[k].name = 0
   ·rw [if_pos h0, if_pos h0]
    have ih := people_L1s h hl n (k + 1) (seen ++ [p.people[k].name]) (by simp [hs]) (by omega) (by omega)
    simp only [r7_people_J1, app_one (show seen.length < 100000 by omega), Option.bind_some, W_succ (show k < 9223372036854775807 by omega), h0, ih]
    rw [show personR p.people[k] = if outP p.people[k].grade 0 9 = true then 7 else 0 from rfl]
    simp only [iteP, dec_true]
    cases outP p.people[k].grade 0 9 <;> rfl
   ·rw [if_neg h0, if_neg h0, r7_people_J1, if_neg h0]
  ·rw [if_neg (by omega), List.drop_of_length_le (by omega)]
   rfl
theorem r7_people_eq {F : Nat} {p : PdPad} (h : PadF F p) (hl : p.people.length ≤ 8) : r7_people F p = some (namedE (·.name) personR [] 0 p.people) := by
 have := people_L1s h hl F 0 [] rfl (by have := h.f; omega) (by omega)
 simpa [r7_people] using this
def doorBad (nz : Nat) (d : PdDoor) : Bool := outP d.a (-1) ((nz : Int) - 1) || outP d.b (-1) ((nz : Int) - 1)
def doorsE (nz : Nat) : Nat → List PdDoor → Int × Int
 | _, [] => (0, 0)
 | k, d :: l => bif doorBad nz d then ((k : Int), 4) else bif decide (d.a = d.b) then ((k : Int), 2) else doorsE nz (k + 1) l
theorem W_len {n : Nat} (h : n < 9223372036854775808) : W ((n : Int) - 1) = (n : Int) - 1 := by rw [W_id]
theorem r7_zone_eq {F : Nat} {p : PdPad} (h : PadF F p) (n : Int) : r7_zone F p n = some (!outP n 0 ((p.zones.length : Int) - 1)) := by
 rw [r7_zone, W_len h.lz, r7_in_eq]; rfl
theorem outP_neg (n m : Int) : outP n (-1) m = (!decide (n = -1) && outP n 0 m || decide (n = -1) && decide (m < -1)) := by
 unfold outP
 by_cases h : n = -1
 ·subst h; simp
 ·simp [h]
  rw [show decide (n < -1) = decide (n < 0) by rw [decide_eq_decide]; omega]
theorem outP_len (n : Int) (k : Nat) : outP n (-1) ((k : Int) - 1) = (!decide (n = -1) && outP n 0 ((k : Int) - 1)) := by
 rw [outP_neg, show decide ((k : Int) - 1 < -1) = false by simp; omega]; simp
theorem doors_L1s {F : Nat} {p : PdPad} (h : PadF F p) : ∀ (n k : Nat), p.doors.length < n + k → k ≤ p.doors.length → r7_doors_L1 F p (fun _ => some (0, 0)) n k = some (doorsE p.zones.length k (p.doors.drop k))
 | 0, k, h1, h2 => absurd h1 (by omega)
 | n + 1, k, h1, h2 => by
  have hl := h.ld
  rw [r7_doors_L1]
  by_cases hk : k < p.doors.length
  ·rw [if_pos (by omega), ixO_nat hk, Option.bind_some, List.drop_eq_getElem_cons hk, doorsE]
   simp only [r7_doors_J1, r7_doors_J2, W_succ (show k < 9223372036854775807 by omega), doors_L1s h n (k + 1) (by omega) (by omega), r7_zone_eq h, Option.bind_some, iteP, dec_true, doorBad, outP_len]
   cases decide (p.doors[k].a = -1) <;> cases decide (p.doors[k].b = -1) <;> cases outP p.doors[k].a 0 ((p.zones.length : Int) - 1) <;> cases outP p.doors[k].b 0 ((p.zones.length : Int) - 1) <;> cases decide (p.doors[k].a = p.doors[k].b) <;> rfl
  ·rw [if_neg (by omega), List.drop_of_length_le (by omega)]
   rfl
theorem r7_doors_eq {F : Nat} {p : PdPad} (h : PadF F p) (hl : p.doors.length ≤ 24) : r7_doors F p = some (doorsE p.zones.length 0 p.doors) := by
 have := doors_L1s h F 0 (by have := h.f; omega) (by omega)
 simpa [r7_doors] using this
/-! ### Squibs -/
def ascP : List Int → Bool
 | x :: y :: l => decide (x < y) && ascP (y :: l)
 | _ => true
def squibBad (q : PdSquib) : Bool := offP q.at_X || offP q.at_Y || outP q.clear 0 10000000 || outP q.grade 0 9
def keysBad (nk : Nat) (q : PdSquib) : Bool := decide (q.keys = []) || q.keys.any (fun k => outP k 0 ((nk : Int) - 1))
def squibR (nk : Nat) (q : PdSquib) : Int := bif squibBad q then 7 else bif keysBad nk q then 4 else bif ascP q.keys then 0 else 2
theorem asc_L1 {F : Nat} {q : PdSquib} (hl : q.keys.length < 9223372036854775808) (hm : q.keys.length ≤ 1000000000 ∨ True) {q2 : List Int} (h2 : q2.length + 1 = q.keys.length) : ∀ (n k : Nat), q2.length < n + k → k ≤ q2.length → pad_squib_L1 F q q2 (fun _ => some 0) n k = some (bif ascP (q.keys.drop k) then 0 else 2)
 | 0, k, h1, h2 => absurd h1 (by omega)
 | n + 1, k, h1, h3 => by
  rw [pad_squib_L1]
  by_cases hk : k < q2.length
  ·have hk1 : k < q.keys.length := by omega
   have hk2 : k + 1 < q.keys.length := by omega
   rw [if_pos (by omega), ixO_nat hk1, Option.bind_some, W_succ (by omega), ixO_nat hk2, Option.bind_some, asc_L1 hl hm h2 n (k + 1) (by omega) (by omega), List.drop_eq_getElem_cons hk1, List.drop_eq_getElem_cons hk2, ascP]
   by_cases h : q.keys[k + 1] ≤ q.keys[k]
   ·rw [if_pos h, show decide (q.keys[k] < q.keys[k + 1]) = false by simp; omega]; rfl
   ·rw [if_neg h, show decide (q.keys[k] < q.keys[k + 1]) = true by simp; omega]; rfl
  ·rw [if_neg (by omega)]
   have : k + 1 = q.keys.length := by omega
   rw [List.drop_eq_getElem_cons (by omega : k < q.keys.length), List.drop_of_length_le (by omega)]
   rfl
theorem pad_squib_eq {F : Nat} {p : PdPad} (h : PadF F p) {q : PdSquib} (hq : q ∈ p.squibs) : pad_squib F q (p.keys.length : Int) = some (squibR p.keys.length q) := by
 have hk := h.qk _ hq
 have hf := h.f
 rw [pad_squib, pad_off_eq (by simp) (by simp; omega)]
 simp only [Option.bind_some, pad_low, pad_out_eq]
 rw [ContainsFunc_eq (p := fun k => outP k 0 ((p.keys.length : Int) - 1)) (fun x _ => by rw [pad_squib_1, pad_out_eq, W_len h.lk]; rfl) hk.2 hk.1]
 have hJ : q.keys ≠ [] → pad_squib_J1 F q = some (bif ascP q.keys then 0 else 2) := fun hne => by
  have h0 : 0 < q.keys.length := List.length_pos_iff.2 hne
  have hc : cutO q.keys 1 (q.keys.length : Int) = some (q.keys.drop 1) := by
   unfold cutO
   rw [if_pos (by omega), show (1 : Int).toNat = 1 from rfl, Int.toNat_natCast, List.take_of_length_le (by simp)]
  have := asc_L1 (F := F) (q := q) hk.2 (.inr trivial) (q2 := q.keys.drop 1) (by simp; omega) F 0 (by simp; omega) (by omega)
  rw [pad_squib_J1, hc, Option.bind_some]
  simpa using this
 unfold squibR squibBad keysBad
 simp only [List.any_cons, List.any_nil, iteP, dec_true, Option.bind_some]
 by_cases hne : q.keys = []
 ·simp only [hne, List.length_nil]
  cases offP q.at_X <;> cases offP q.at_Y <;> cases outP q.clear 0 10000000 <;> cases outP q.grade 0 9 <;> rfl
 ·rw [hJ hne]
  have : decide ((q.keys.length : Int) = 0) = false := by
   have h0 : 0 < q.keys.length := List.length_pos_iff.2 hne
   simp; omega
  rw [this, show decide (q.keys = []) = false by simp [hne]]
  cases offP q.at_X <;> cases offP q.at_Y <;> cases outP q.clear 0 10000000 <;> cases outP q.grade 0 9 <;> cases (q.keys.any fun k => outP k 0 ((p.keys.length : Int) - 1)) <;> rfl
end Go.Proofs.Ythcnganbnbhhoaa
