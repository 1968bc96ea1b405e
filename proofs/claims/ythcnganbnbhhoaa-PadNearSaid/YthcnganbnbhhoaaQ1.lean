/- The plain part of pad.Check: the program's answer and the document's are the same. -/
import Derived.Test.YthcnganbnbhhoaaW3
import Derived.MapKept
import Derived.Laws.Strings
open Go Go.Proofs.Ythcnganbnbhhoaa.Sh Go.Proofs
namespace Go.Proofs.Ythcnganbnbhhoaa
set_option linter.unusedVariables false
set_option linter.unusedSimpArgs false
theorem W_id {x : Int} (h : -9223372036854775808 ≤ x := by omega) (k : x < 9223372036854775808 := by omega) : W x = x := by
 unfold W IntKind.wrap
 simp [IntKind.bits, IntKind.signed]
 omega
theorem W_succ {k : Nat} (h : k < 9223372036854775807) : W ((k : Int) + 1) = ((k + 1 : Nat) : Int) := by rw [W_id]; omega
theorem W_pred {k : Nat} (h : 0 < k) (h2 : k < 9223372036854775808) : W ((k : Int) - 1) = ((k - 1 : Nat) : Int) := by rw [W_id]; omega
theorem ixO_nat {α : Type} {l : List α} {k : Nat} (h : k < l.length) : ixO l (k : Int) = some l[k] := by
 unfold ixO
 rw [if_pos (Int.natCast_nonneg k), Int.toNat_natCast, List.getElem?_eq_getElem h]
theorem app_one {α : Type} {l : List α} {a : α} (h : l.length < 100000) : appO l [a] = some (l ++ [a]) := by
 unfold appO
 rw [if_pos (by simp; omega)]
theorem cut_nat {α : Type} {l : List α} {k : Nat} (h : k ≤ l.length) : cutO l 0 (k : Int) = some (l.take k) := by
 unfold cutO
 rw [if_pos (by omega)]
 simp
theorem iteP {α : Type} (p : Prop) [Decidable p] (A B : α) : (if p then A else B) = bif decide p then A else B := by
 by_cases h : p <;> simp [h]
theorem bif_or {α : Type} (a b : Bool) (A B : α) : (bif a then A else bif b then A else B) = bif (a || b) then A else B := by cases a <;> rfl
theorem bif_some {α : Type} (a : Bool) (A B : α) : some (bif a then A else B) = bif a then some A else some B := by cases a <;> rfl
theorem dec_true (b : Bool) [Decidable (b = true)] : decide (b = true) = b := by cases b <;> simp
def outP (n lo hi : Int) : Bool := decide (n < lo ∨ hi < n)
theorem pad_out_eq (F : Nat) (n lo hi : Int) : pad_out F n lo hi = some (outP n lo hi) := by
 unfold pad_out outP
 split <;> simp [*]
theorem wind_out_eq (F : Nat) (n lo hi : Int) : wind_out F n lo hi = some (outP n lo hi) := by
 unfold wind_out outP
 split <;> simp [*]
theorem r7_in_eq (F : Nat) (n lo hi : Int) : r7_in F n lo hi = some (!outP n lo hi) := by
 unfold r7_in outP
 by_cases h : lo ≤ n
 ·rw [if_pos h]
  have : ¬ n < lo := by omega
  by_cases h2 : n ≤ hi
  ·have : ¬ hi < n := by omega
   simp [*]
  ·have : hi < n := by omega
   simp [*]
 ·rw [if_neg h]
  have : n < lo := by omega
  simp [this]
theorem outP_false {n lo hi : Int} : outP n lo hi = false ↔ lo ≤ n ∧ n ≤ hi := by
 unfold outP
 simp
def chOk (k : Nat) (e : Int) : Bool := (decide (97 ≤ e) && decide (e ≤ 122)) || (decide (k ≠ 0) && (decide (e = 45) || (decide (48 ≤ e) && decide (e ≤ 57))))
def charsP : Nat → List Int → Bool
 | _, [] => true
 | k, e :: l => chOk k e && charsP (k + 1) l
theorem bytesL_len (s : ByteArray) : (bytesL s).length = s.size := by simp [bytesL]
theorem ixB_nat {s : ByteArray} {k : Nat} (h : k < (bytesL s).length) : ixB s (k : Int) = some (bytesL s)[k] := by
 have h2 : k < s.size := by rwa [bytesL_len] at h
 unfold ixB
 rw [if_pos (Int.natCast_nonneg k), Int.toNat_natCast, getElem?_pos s k h2]
 simp [bytesL]
 rfl
theorem chOk_ite {α : Type} (k : Nat) (e : Int) (A B : α) (k' : Int) (hk : k' = k) : (if 97 ≤ e then (if e ≤ 122 then A else (if k' = 0 then B else (if e = 45 then A else (if 48 ≤ e then (if e ≤ 57 then A else B) else B)))) else (if k' = 0 then B else (if e = 45 then A else (if 48 ≤ e then (if e ≤ 57 then A else B) else B)))) = if chOk k e = true then A else B := by
 subst hk
 unfold chOk
 by_cases h1 : 97 ≤ e <;> by_cases h2 : e ≤ 122 <;> by_cases h3 : k = 0 <;> by_cases h4 : e = 45 <;> by_cases h5 : 48 ≤ e <;> by_cases h6 : e ≤ 57 <;> simp [*] <;> omega
theorem chOk_ite2 {α : Type} (k : Nat) (e : Int) (A B : α) (k' : Int) (hk : k' = k) : (if 97 ≤ e then (if e ≤ 122 then A else (if k' = 0 then B else (if 48 ≤ e then (if e ≤ 57 then A else (if e = 45 then A else B)) else (if e = 45 then A else B)))) else (if k' = 0 then B else (if 48 ≤ e then (if e ≤ 57 then A else (if e = 45 then A else B)) else (if e = 45 then A else B)))) = if chOk k e = true then A else B := by
 subst hk
 unfold chOk
 by_cases h1 : 97 ≤ e <;> by_cases h2 : e ≤ 122 <;> by_cases h3 : k = 0 <;> by_cases h4 : e = 45 <;> by_cases h5 : 48 ≤ e <;> by_cases h6 : e ≤ 57 <;> simp [*] <;> omega
theorem Name_L1 {F : Nat} {s : ByteArray} (hl : (bytesL s).length < 9223372036854775808) (c : Option Bool) : ∀ (n k : Nat), (bytesL s).length < n + k → k ≤ (bytesL s).length → wind_Name_L1 F s (fun _ => c) n k = if charsP k ((bytesL s).drop k) = true then c else some false
 | 0, k, h, h2 => absurd h (by omega)
 | n + 1, k, h, h2 => by
  rw [wind_Name_L1]
  by_cases hk : k < (bytesL s).length
  ·rw [if_pos (by omega), ixO_nat hk, Option.bind_some, chOk_ite k _ _ _ _ rfl, W_succ (by omega), Name_L1 hl c n (k + 1) (by omega) (by omega), List.drop_eq_getElem_cons hk, charsP]
   cases chOk k (bytesL s)[k] <;> simp
  ·rw [if_neg (by omega), List.drop_of_length_le (by omega)]
   rfl
theorem r1Name_L1 {F : Nat} {s : ByteArray} (hl : (bytesL s).length < 9223372036854775808) (c : Option Bool) : ∀ (n k : Nat), (bytesL s).length < n + k → k ≤ (bytesL s).length → r1_Name_L1 F s (fun _ => c) n k = if charsP k ((bytesL s).drop k) = true then c else some false
 | 0, k, h, h2 => absurd h (by omega)
 | n + 1, k, h, h2 => by
  have hs := bytesL_len s
  rw [r1_Name_L1]
  by_cases hk : k < (bytesL s).length
  ·rw [if_pos (by omega), ixB_nat hk, Option.bind_some, chOk_ite2 k _ _ _ _ rfl, W_succ (by omega), r1Name_L1 hl c n (k + 1) (by omega) (by omega), List.drop_eq_getElem_cons hk, charsP]
   cases chOk k (bytesL s)[k] <;> simp
  ·rw [if_neg (by omega), List.drop_of_length_le (by omega)]
   rfl
def nameP (s : ByteArray) : Bool := charsP 0 (bytesL s) && !outP s.size 1 24
theorem wind_Name_eq {F : Nat} {s : ByteArray} (hl : s.size < 9223372036854775808) (hF : s.size < F) : wind_Name F s = some (nameP s) := by
 have hs := bytesL_len s
 have := Name_L1 (F := F) (s := s) (by omega) (some (!outP s.size 1 24)) F 0 (by omega) (by omega)
 unfold wind_Name
 simp only [wind_out_eq, Option.bind_some]
 rw [show (0 : Int) = ((0 : Nat) : Int) from rfl, this, List.drop_zero, nameP]
 cases charsP 0 (bytesL s) <;> simp
theorem r1_Name_eq {F : Nat} {s : ByteArray} (hl : s.size < 9223372036854775808) (hF : s.size < F) : r1_Name F s = some (nameP s) := by
 have hs := bytesL_len s
 have := r1Name_L1 (F := F) (s := s) (by omega) (some true) F 0 (by omega) (by omega)
 unfold r1_Name
 rw [show (0 : Int) = ((0 : Nat) : Int) from rfl, this, List.drop_zero, nameP]
 by_cases h1 : (s.size : Int) < 1
 ·rw [if_pos h1]; simp [outP, h1]
 ·rw [if_neg h1]
  by_cases h2 : 24 < (s.size : Int)
  ·rw [if_pos h2]; simp [outP, h2]
  ·rw [if_neg h2]
   have : outP s.size 1 24 = false := by simp [outP]; omega
   rw [this]
   cases charsP 0 (bytesL s) <;> simp

theorem bytes_dec (a b : ByteArray) : decide (a.toList = b.toList) = (a == b) := by
 rw [Bool.eq_iff_iff, decide_eq_true_iff, MapKept.bytes_beq]
 constructor
 ·intro h
  rw [ByteArray.toList_eq, ByteArray.toList_eq] at h
  cases a; cases b
  simp at h
  simp [h]
 ·rintro rfl; rfl
def nmE (seen : List ByteArray) (s : ByteArray) : Int := if nameP s = true then (if seen.any (fun b => decide (b.toList = s.toList)) = true then 5 else 0) else 6
def namedE {α : Type} (nm : α → ByteArray) (rest : α → Int) : List ByteArray → Nat → List α → Int × Int
 | _, _, [] => (0, 0)
 | seen, k, x :: l => if nmE seen (nm x) = 0 then (if rest x = 0 then namedE nm rest (seen ++ [nm x]) (k + 1) l else ((k : Int), rest x)) else ((k : Int), nmE seen (nm x))
theorem mget_mset {m : List (ByteArray × Bool)} (a b : ByteArray) : (mget (mset m a true) b).getD false = ((mget m b).getD false || (b == a)) := by
 have hs : ∀ x y : ByteArray, (x == y) = true → x = y := fun x y h => (MapKept.bytes_beq x y).1 h
 have hr : ∀ x : ByteArray, (x == x) = true := fun x => (MapKept.bytes_beq x x).2 rfl
 induction m with
 | nil => cases h : (b == a) <;> simp [mset, mget, h]
 | cons p m ih =>
  simp only [mset]
  cases h : (a == p.1) with
  | true =>
   have e := hs _ _ h
   simp only [cond_true, mget, List.find?_cons]
   cases h2 : (b == a) with
   | true => simp
   | false => rw [show (b == p.1) = false by rw [← e]; exact h2]; simp [mget]
  | false =>
   simp only [cond_false]
   unfold mget at ih ⊢
   simp only [List.find?_cons]
   cases h2 : (b == p.1) with
   | true =>
    have : (b == a) = false := by
     cases h3 : (b == a) with
     | false => rfl
     | true => rw [hs _ _ h3] at h2; rw [h] at h2; cases h2
    simp [this]
   | false => simpa using ih
def SeenM (m : List (ByteArray × Bool)) (seen : List ByteArray) : Prop := ∀ s, (mget m s).getD false = seen.any (fun b => decide (b.toList = s.toList))
theorem SeenM.nil : SeenM [] [] := fun _ => rfl
theorem SeenM.snoc {m : List (ByteArray × Bool)} {seen : List ByteArray} (h : SeenM m seen) (a : ByteArray) : SeenM (mset m a true) (seen ++ [a]) := fun s => by
 rw [mget_mset, h s, List.any_append]
 simp only [List.any_cons, List.any_nil, Bool.or_false, bytes_dec]
 congr 1
 rw [Bool.eq_iff_iff, MapKept.bytes_beq, MapKept.bytes_beq]
 exact eq_comm
theorem named_PdZone_L1 {F : Nat} {lv : List PdZone} {nm : PdZone → ByteArray} {rest : PdZone → Int} {name : PdZone → Option ByteArray} {re : PdZone → Option Int} (hn : ∀ x ∈ lv, name x = some (nm x)) (hr : ∀ x ∈ lv, re x = some (rest x)) (hl : lv.length < 100000) (hF : ∀ x ∈ lv, (nm x).size < F ∧ (nm x).size < 9223372036854775808) :
 ∀ (n k : Nat) (m : List (ByteArray × Bool)) (seen : List ByteArray), SeenM m seen → lv.length < n + k → k ≤ lv.length → pad_named_PdZone_L1 F lv name re (fun _ _ => some (0, 0)) n m k = some (namedE nm rest seen k (lv.drop k))
 | 0, k, _, _, _, h, h2 => absurd h (by omega)
 | n + 1, k, m, seen, hm, h, h2 => by
  rw [pad_named_PdZone_L1]
  by_cases hk : k < lv.length
  ·have hx := List.getElem_mem hk
   rw [if_pos (by omega), ixO_nat hk, Option.bind_some, hn _ hx, Option.bind_some, wind_Name_eq (hF _ hx).2 (hF _ hx).1, Option.bind_some, List.drop_eq_getElem_cons hk, namedE, W_succ (by omega)]
   cases hp : nameP (nm lv[k]) with
   | false =>
    have e : nmE seen (nm lv[k]) = 6 := by simp [nmE, hp]
    rw [e, if_neg (by simp), if_neg (by decide)]
   | true =>
    rw [if_pos rfl, hm]
    cases ha : seen.any (fun b => decide (b.toList = (nm lv[k]).toList)) with
    | true =>
     have e : nmE seen (nm lv[k]) = 5 := by unfold nmE; rw [if_pos hp, if_pos ha]
     rw [e, if_pos rfl, if_neg (by decide)]
    | false =>
     have e : nmE seen (nm lv[k]) = 0 := by unfold nmE; rw [if_pos hp, if_neg (by rw [ha]; exact Bool.false_ne_true)]
     rw [e, if_neg (by simp), if_pos rfl, hr _ hx, Option.bind_some]
     by_cases h0 : rest lv[k] = 0
     ·rw [if_pos h0, if_pos h0, named_PdZone_L1 hn hr hl hF n (k + 1) _ _ (hm.snoc _) (by omega) (by omega)]
     ·rw [if_neg h0, if_neg h0]
  ·rw [if_neg (by omega), List.drop_of_length_le (by omega)]
   rfl
theorem named_PdZone_eq {F : Nat} {lv : List PdZone} {nm : PdZone → ByteArray} {rest : PdZone → Int} {name : PdZone → Option ByteArray} {re : PdZone → Option Int} (hn : ∀ x ∈ lv, name x = some (nm x)) (hr : ∀ x ∈ lv, re x = some (rest x)) (hl : lv.length < 100000) (h0 : lv.length < F) (hF : ∀ x ∈ lv, (nm x).size < F ∧ (nm x).size < 9223372036854775808) :
 pad_named_PdZone F lv name re = some (namedE nm rest [] 0 lv) := by
 have := named_PdZone_L1 hn hr hl hF F 0 [] [] .nil (by omega) (by omega)
 simpa [pad_named_PdZone] using this
theorem named_PdPerson_L1 {F : Nat} {lv : List PdPerson} {nm : PdPerson → ByteArray} {rest : PdPerson → Int} {name : PdPerson → Option ByteArray} {re : PdPerson → Option Int} (hn : ∀ x ∈ lv, name x = some (nm x)) (hr : ∀ x ∈ lv, re x = some (rest x)) (hl : lv.length < 100000) (hF : ∀ x ∈ lv, (nm x).size < F ∧ (nm x).size < 9223372036854775808) :
 ∀ (n k : Nat) (m : List (ByteArray × Bool)) (seen : List ByteArray), SeenM m seen → lv.length < n + k → k ≤ lv.length → pad_named_PdPerson_L1 F lv name re (fun _ _ => some (0, 0)) n m k = some (namedE nm rest seen k (lv.drop k))
 | 0, k, _, _, _, h, h2 => absurd h (by omega)
 | n + 1, k, m, seen, hm, h, h2 => by
  rw [pad_named_PdPerson_L1]
  by_cases hk : k < lv.length
  ·have hx := List.getElem_mem hk
   rw [if_pos (by omega), ixO_nat hk, Option.bind_some, hn _ hx, Option.bind_some, wind_Name_eq (hF _ hx).2 (hF _ hx).1, Option.bind_some, List.drop_eq_getElem_cons hk, namedE, W_succ (by omega)]
   cases hp : nameP (nm lv[k]) with
   | false =>
    have e : nmE seen (nm lv[k]) = 6 := by simp [nmE, hp]
    rw [e, if_neg (by simp), if_neg (by decide)]
   | true =>
    rw [if_pos rfl, hm]
    cases ha : seen.any (fun b => decide (b.toList = (nm lv[k]).toList)) with
    | true =>
     have e : nmE seen (nm lv[k]) = 5 := by unfold nmE; rw [if_pos hp, if_pos ha]
     rw [e, if_pos rfl, if_neg (by decide)]
    | false =>
     have e : nmE seen (nm lv[k]) = 0 := by unfold nmE; rw [if_pos hp, if_neg (by rw [ha]; exact Bool.false_ne_true)]
     rw [e, if_neg (by simp), if_pos rfl, hr _ hx, Option.bind_some]
     by_cases h0 : rest lv[k] = 0
     ·rw [if_pos h0, if_pos h0, named_PdPerson_L1 hn hr hl hF n (k + 1) _ _ (hm.snoc _) (by omega) (by omega)]
     ·rw [if_neg h0, if_neg h0]
  ·rw [if_neg (by omega), List.drop_of_length_le (by omega)]
   rfl
theorem named_PdPerson_eq {F : Nat} {lv : List PdPerson} {nm : PdPerson → ByteArray} {rest : PdPerson → Int} {name : PdPerson → Option ByteArray} {re : PdPerson → Option Int} (hn : ∀ x ∈ lv, name x = some (nm x)) (hr : ∀ x ∈ lv, re x = some (rest x)) (hl : lv.length < 100000) (h0 : lv.length < F) (hF : ∀ x ∈ lv, (nm x).size < F ∧ (nm x).size < 9223372036854775808) :
 pad_named_PdPerson F lv name re = some (namedE nm rest [] 0 lv) := by
 have := named_PdPerson_L1 hn hr hl hF F 0 [] [] .nil (by omega) (by omega)
 simpa [pad_named_PdPerson] using this
theorem named_string_L1 {F : Nat} {lv : List ByteArray} {nm : ByteArray → ByteArray} {rest : ByteArray → Int} {name : ByteArray → Option ByteArray} {re : ByteArray → Option Int} (hn : ∀ x ∈ lv, name x = some (nm x)) (hr : ∀ x ∈ lv, re x = some (rest x)) (hl : lv.length < 100000) (hF : ∀ x ∈ lv, (nm x).size < F ∧ (nm x).size < 9223372036854775808) :
 ∀ (n k : Nat) (m : List (ByteArray × Bool)) (seen : List ByteArray), SeenM m seen → lv.length < n + k → k ≤ lv.length → pad_named_string_L1 F lv name re (fun _ _ => some (0, 0)) n m k = some (namedE nm rest seen k (lv.drop k))
 | 0, k, _, _, _, h, h2 => absurd h (by omega)
 | n + 1, k, m, seen, hm, h, h2 => by
  rw [pad_named_string_L1]
  by_cases hk : k < lv.length
  ·have hx := List.getElem_mem hk
   rw [if_pos (by omega), ixO_nat hk, Option.bind_some, hn _ hx, Option.bind_some, wind_Name_eq (hF _ hx).2 (hF _ hx).1, Option.bind_some, List.drop_eq_getElem_cons hk, namedE, W_succ (by omega)]
   cases hp : nameP (nm lv[k]) with
   | false =>
    have e : nmE seen (nm lv[k]) = 6 := by simp [nmE, hp]
    rw [e, if_neg (by simp), if_neg (by decide)]
   | true =>
    rw [if_pos rfl, hm]
    cases ha : seen.any (fun b => decide (b.toList = (nm lv[k]).toList)) with
    | true =>
     have e : nmE seen (nm lv[k]) = 5 := by unfold nmE; rw [if_pos hp, if_pos ha]
     rw [e, if_pos rfl, if_neg (by decide)]
    | false =>
     have e : nmE seen (nm lv[k]) = 0 := by unfold nmE; rw [if_pos hp, if_neg (by rw [ha]; exact Bool.false_ne_true)]
     rw [e, if_neg (by simp), if_pos rfl, hr _ hx, Option.bind_some]
     by_cases h0 : rest lv[k] = 0
     ·rw [if_pos h0, if_pos h0, named_string_L1 hn hr hl hF n (k + 1) _ _ (hm.snoc _) (by omega) (by omega)]
     ·rw [if_neg h0, if_neg h0]
  ·rw [if_neg (by omega), List.drop_of_length_le (by omega)]
   rfl
theorem named_string_eq {F : Nat} {lv : List ByteArray} {nm : ByteArray → ByteArray} {rest : ByteArray → Int} {name : ByteArray → Option ByteArray} {re : ByteArray → Option Int} (hn : ∀ x ∈ lv, name x = some (nm x)) (hr : ∀ x ∈ lv, re x = some (rest x)) (hl : lv.length < 100000) (h0 : lv.length < F) (hF : ∀ x ∈ lv, (nm x).size < F ∧ (nm x).size < 9223372036854775808) :
 pad_named_string F lv name re = some (namedE nm rest [] 0 lv) := by
 have := named_string_L1 hn hr hl hF F 0 [] [] .nil (by omega) (by omega)
 simpa [pad_named_string] using this
theorem named_PdSquib_L1 {F : Nat} {lv : List PdSquib} {nm : PdSquib → ByteArray} {rest : PdSquib → Int} {name : PdSquib → Option ByteArray} {re : PdSquib → Option Int} (hn : ∀ x ∈ lv, name x = some (nm x)) (hr : ∀ x ∈ lv, re x = some (rest x)) (hl : lv.length < 100000) (hF : ∀ x ∈ lv, (nm x).size < F ∧ (nm x).size < 9223372036854775808) :
 ∀ (n k : Nat) (m : List (ByteArray × Bool)) (seen : List ByteArray), SeenM m seen → lv.length < n + k → k ≤ lv.length → pad_named_PdSquib_L1 F lv name re (fun _ _ => some (0, 0)) n m k = some (namedE nm rest seen k (lv.drop k))
 | 0, k, _, _, _, h, h2 => absurd h (by omega)
 | n + 1, k, m, seen, hm, h, h2 => by
  rw [pad_named_PdSquib_L1]
  by_cases hk : k < lv.length
  ·have hx := List.getElem_mem hk
   rw [if_pos (by omega), ixO_nat hk, Option.bind_some, hn _ hx, Option.bind_some, wind_Name_eq (hF _ hx).2 (hF _ hx).1, Option.bind_some, List.drop_eq_getElem_cons hk, namedE, W_succ (by omega)]
   cases hp : nameP (nm lv[k]) with
   | false =>
    have e : nmE seen (nm lv[k]) = 6 := by simp [nmE, hp]
    rw [e, if_neg (by simp), if_neg (by decide)]
   | true =>
    rw [if_pos rfl, hm]
    cases ha : seen.any (fun b => decide (b.toList = (nm lv[k]).toList)) with
    | true =>
     have e : nmE seen (nm lv[k]) = 5 := by unfold nmE; rw [if_pos hp, if_pos ha]
     rw [e, if_pos rfl, if_neg (by decide)]
    | false =>
     have e : nmE seen (nm lv[k]) = 0 := by unfold nmE; rw [if_pos hp, if_neg (by rw [ha]; exact Bool.false_ne_true)]
     rw [e, if_neg (by simp), if_pos rfl, hr _ hx, Option.bind_some]
     by_cases h0 : rest lv[k] = 0
     ·rw [if_pos h0, if_pos h0, named_PdSquib_L1 hn hr hl hF n (k + 1) _ _ (hm.snoc _) (by omega) (by omega)]
     ·rw [if_neg h0, if_neg h0]
  ·rw [if_neg (by omega), List.drop_of_length_le (by omega)]
   rfl
theorem named_PdSquib_eq {F : Nat} {lv : List PdSquib} {nm : PdSquib → ByteArray} {rest : PdSquib → Int} {name : PdSquib → Option ByteArray} {re : PdSquib → Option Int} (hn : ∀ x ∈ lv, name x = some (nm x)) (hr : ∀ x ∈ lv, re x = some (rest x)) (hl : lv.length < 100000) (h0 : lv.length < F) (hF : ∀ x ∈ lv, (nm x).size < F ∧ (nm x).size < 9223372036854775808) :
 pad_named_PdSquib F lv name re = some (namedE nm rest [] 0 lv) := by
 have := named_PdSquib_L1 hn hr hl hF F 0 [] [] .nil (by omega) (by omega)
 simpa [pad_named_PdSquib] using this
theorem r7_name_L1s {F : Nat} {s : ByteArray} {before : List ByteArray} (hl : before.length < 9223372036854775808) : ∀ (n k : Nat), before.length < n + k → k ≤ before.length → r7_name_L1 F s before (fun _ => some 0) n k = some (if (before.drop k).any (fun b => decide (b.toList = s.toList)) = true then 5 else 0)
 | 0, k, h, h2 => absurd h (by omega)
 | n + 1, k, h, h2 => by
  rw [r7_name_L1]
  by_cases hk : k < before.length
  ·rw [if_pos (by omega), ixO_nat hk, Option.bind_some, List.drop_eq_getElem_cons hk, List.any_cons, W_succ (by omega), r7_name_L1s hl n (k + 1) (by omega) (by omega)]
   by_cases he : before[k].toList = s.toList
   ·rw [if_pos he]; simp [he]
   ·rw [if_neg he]; simp [he]
  ·rw [if_neg (by omega), List.drop_of_length_le (by omega)]
   rfl
theorem r7_name_eq {F : Nat} {s : ByteArray} {before : List ByteArray} (hl : before.length < 9223372036854775808) (h0 : before.length < F) (hs : s.size < 9223372036854775808) (hF : s.size < F) : r7_name F s before = some (nmE before s) := by
 have := r7_name_L1s (F := F) (s := s) hl F 0 (by omega) (by omega)
 rw [r7_name, r1_Name_eq hs hF, Option.bind_some, nmE]
 cases nameP s with
 | false => rfl
 | true => simpa using this
structure PadF (F : Nat) (p : PdPad) : Prop where
 f : 100 < F
 lz : p.zones.length < 9223372036854775808
 ld : p.doors.length < 9223372036854775808
 lp : p.people.length < 9223372036854775808
 lk : p.keys.length < 9223372036854775808
 lq : p.squibs.length < 9223372036854775808
 zn : ∀ x ∈ p.zones, x.name.size < F ∧ x.name.size < 9223372036854775808
 pn : ∀ x ∈ p.people, x.name.size < F ∧ x.name.size < 9223372036854775808
 kn : ∀ x ∈ p.keys, x.size < F ∧ x.size < 9223372036854775808
 qn : ∀ x ∈ p.squibs, x.name.size < F ∧ x.name.size < 9223372036854775808
 qk : ∀ x ∈ p.squibs, x.keys.length < F ∧ x.keys.length < 9223372036854775808
theorem IndexFunc_L1s {F : Nat} {s : List Int} {f : Int → Option Bool} {p : Int → Bool} (hf : ∀ x ∈ s, f x = some (p x)) (hl : s.length < 9223372036854775808) : ∀ (n k : Nat), s.length < n + k → k ≤ s.length → ∃ r, slices_IndexFunc_int_L1 F s f (fun _ => some (-1)) n k = some r ∧ decide (0 ≤ r) = (s.drop k).any p
 | 0, k, h, h2 => absurd h (by omega)
 | n + 1, k, h, h2 => by
  rw [slices_IndexFunc_int_L1]
  by_cases hk : k < s.length
  ·rw [if_pos (by omega), ixO_nat hk, Option.bind_some, hf _ (List.getElem_mem hk), Option.bind_some, List.drop_eq_getElem_cons hk, List.any_cons, W_succ (by omega)]
   cases hp : p s[k] with
   | true => exact ⟨k, by simp, by simp⟩
   | false => simpa using IndexFunc_L1s hf hl n (k + 1) (by omega) (by omega)
  ·rw [if_neg (by omega), List.drop_of_length_le (by omega)]
   exact ⟨-1, rfl, by simp⟩
theorem ContainsFunc_eq {F : Nat} {s : List Int} {f : Int → Option Bool} {p : Int → Bool} (hf : ∀ x ∈ s, f x = some (p x)) (hl : s.length < 9223372036854775808) (hF : s.length < F) : slices_ContainsFunc_int F s f = some (s.any p) := by
 obtain ⟨r, h1, h2⟩ := IndexFunc_L1s (F := F) hf hl F 0 (by omega) (by omega)
 rw [slices_ContainsFunc_int, slices_IndexFunc_int, show (0 : Int) = ((0 : Nat) : Int) from rfl, h1, Option.bind_some, show ((0 : Nat) : Int) = 0 from rfl, h2, List.drop_zero]
def offP (n : Int) : Bool := outP n (-10000000) 10000000
theorem pad_off_eq {F : Nat} {l : List Int} (hl : l.length < 9223372036854775808) (hF : l.length < F) : pad_off F l = some (l.any offP) := by
 rw [pad_off, ContainsFunc_eq (p := offP) (fun x _ => by rw [pad_off_1, pad_out_eq]; rfl) hl hF]
 rfl
def zoneBad (z : PdZone) : Bool := offP z.area_X_Lo || offP z.area_X_Hi || offP z.area_Y_Lo || offP z.area_Y_Hi || decide (z.area_X_Hi < z.area_X_Lo) || decide (z.area_Y_Hi < z.area_Y_Lo) || outP z.grade 0 9 || outP z.room 1 8
def zoneR (z : PdZone) : Int := if zoneBad z = true then 7 else 0
theorem pad_zone_eq {F : Nat} (hF : 100 < F) (z : PdZone) : pad_zone F z = some (zoneR z) := by
 rw [pad_zone, pad_off_eq (by simp) (by simp; omega)]
 simp only [Option.bind_some, pad_low, pad_out_eq, List.any_cons, List.any_nil, zoneR, zoneBad, pad_zone_J1, iteP, dec_true, bif_or, bif_some, Bool.or_assoc, Bool.or_false]
theorem r7_side_eq (F : Nat) (s : Span) : r7_side F s = some (!(offP s.lo || offP s.hi || decide (s.hi < s.lo))) := by
 simp only [r7_side, r7_place, r7_in_eq, Option.bind_some, offP]
 by_cases h : s.hi < s.lo
 ·have : ¬ s.lo ≤ s.hi := by omega
  cases outP s.lo (-10000000) 10000000 <;> cases outP s.hi (-10000000) 10000000 <;> simp [h, this]
 ·have : s.lo ≤ s.hi := by omega
  cases outP s.lo (-10000000) 10000000 <;> cases outP s.hi (-10000000) 10000000 <;> simp [h, this]
theorem zones_L1s {F : Nat} {p : PdPad} (h : PadF F p) (hl : p.zones.length ≤ 8) : ∀ (n k : Nat) (seen : List ByteArray), seen.length = k → p.zones.length < n + k → k ≤ p.zones.length → r7_zones_L1 F p (fun _ _ => some (0, 0)) n seen k = some (namedE (·.name) zoneR seen k (p.zones.drop k))
 | 0, k, _, _, h1, h2 => absurd h1 (by omega)
 | n + 1, k, seen, hs, h1, h2 => by
  rw [r7_zones_L1]
  by_cases hk : k < p.zones.length
  ·have hx := List.getElem_mem hk
   have hf := h.f
   rw [if_pos (by omega), ixO_nat hk, Option.bind_some, r7_name_eq (by omega) (by omega) (h.zn _ hx).2 (h.zn _ hx).1, Option.bind_some, List.drop_eq_getElem_cons hk, namedE]
   simp only [r7_side_eq, r7_grade, r7_in_eq, Option.bind_some, r7_zones_J1]
   by_cases h0 : nmE seen p.zones[k].name = 0
   ·rw [if_pos h0, if_pos h0]
    have ih := zones_L1s h hl n (k + 1) (seen ++ [p.zones[k].name]) (by simp [hs]) (by omega) (by omega)
    simp only [app_one (show seen.length < 100000 by omega), Option.bind_some, W_succ (show k < 9223372036854775807 by omega), h0, ih]
    have e : zoneR p.zones[k] = if zoneBad p.zones[k] = true then 7 else 0 := rfl
    have e2 : zoneBad p.zones[k] = ((offP p.zones[k].area_X_Lo || offP p.zones[k].area_X_Hi || decide (p.zones[k].area_X_Hi < p.zones[k].area_X_Lo)) || (offP p.zones[k].area_Y_Lo || offP p.zones[k].area_Y_Hi || decide (p.zones[k].area_Y_Hi < p.zones[k].area_Y_Lo)) || outP p.zones[k].grade 0 9 || outP p.zones[k].room 1 8) := by
     unfold zoneBad
     generalize decide (p.zones[k].area_X_Hi < p.zones[k].area_X_Lo) = a
     generalize decide (p.zones[k].area_Y_Hi < p.zones[k].area_Y_Lo) = b
     cases offP p.zones[k].area_X_Lo <;> cases offP p.zones[k].area_X_Hi <;> cases offP p.zones[k].area_Y_Lo <;> cases offP p.zones[k].area_Y_Hi <;> cases a <;> cases b <;> rfl
    rw [e, e2]
    simp only [iteP, dec_true]
    generalize (offP p.zones[k].area_X_Lo || offP p.zones[k].area_X_Hi || decide (p.zones[k].area_X_Hi < p.zones[k].area_X_Lo)) = a
    generalize (offP p.zones[k].area_Y_Lo || offP p.zones[k].area_Y_Hi || decide (p.zones[k].area_Y_Hi < p.zones[k].area_Y_Lo)) = b
    cases a <;> cases b <;> cases outP p.zones[k].grade 0 9 <;> cases outP p.zones[k].room 1 8 <;> rfl
   ·rw [if_neg h0, if_neg h0, if_neg h0]
  ·rw [if_neg (by omega), List.drop_of_length_le (by omega)]
   rfl
theorem r7_zones_eq {F : Nat} {p : PdPad} (h : PadF F p) (hl : p.zones.length ≤ 8) : r7_zones F p = some (namedE (·.name) zoneR [] 0 p.zones) := by
 have := zones_L1s h hl F 0 [] rfl (by have := h.f; omega) (by omega)
 simpa [r7_zones] using this
def personR (x : PdPerson) : Int := if outP x.grade 0 9 = true then 7 else 0
theorem people_L1s {F : Nat} {p : PdPad} (h : PadF F p) (hl : p.people.length ≤ 8) : ∀ (n k : Nat) (seen : List ByteArray), seen.length = k → p.people.length < n + k → k ≤ p.people.length → r7_people_L1 F p (fun _ _ => some (0, 0)) n seen k = some (namedE (·.name) personR seen k (p.people.drop k))
 | 0, k, _, _, h1, h2 => absurd h1 (by omega)
 | n + 1, k, seen, hs, h1, h2 => by
  rw [r7_people_L1]
  by_cases hk : k < p.people.length
  ·have hx := List.getElem_mem hk
   have hf := h.f
   rw [if_pos (by omega), ixO_nat hk, Option.bind_some, r7_name_eq (by omega) (by omega) (h.pn _ hx).2 (h.pn _ hx).1, Option.bind_some, List.drop_eq_getElem_cons hk, namedE]
   simp only [r7_grade, r7_in_eq, Option.bind_some]
   by_cases h0 : nmE seen p.people[k].name = 0
   ·rw [if_pos h0, if_pos h0]
    have ih := people_L1s h hl n (k + 1) (seen ++ [p.people[k].name]) (by simp [hs]) (by omega) (by omega)
    simp only [r7_people_J1, app_one (show seen.length < 100000 by omega), Option.bind_some, W_succ (show k < 9223372036854775807 by omega), h0, ih]
    rw [show personR p.people[k] = if outP p.people[k].grade 0 9 = true then 7 else 0 from rfl]
    simp only [iteP, dec_true]
    cases outP p.people[k].grade 0 9 <;> rfl
   ·rw [if_neg h0, if_neg h0, r7_people_J1, if_neg h0]
  ·rw [if_neg (by omega), List.drop_of_length_le (by omega)]
   rfl
theorem r7_people_eq {F : Nat} {p : PdPad} (h : PadF F p) (hl : p.people.length ≤ 8) : r7_people F p = some (namedE (·.name) personR [] 0 p.people) := by
 have := people_L1s h hl F 0 [] rfl (by have := h.f; omega) (by omega)
 simpa [r7_people] using this
def doorBad (nz : Nat) (d : PdDoor) : Bool := outP d.a (-1) ((nz : Int) - 1) || outP d.b (-1) ((nz : Int) - 1)
def doorsE (nz : Nat) : Nat → List PdDoor → Int × Int
 | _, [] => (0, 0)
 | k, d :: l => bif doorBad nz d then ((k : Int), 4) else bif decide (d.a = d.b) then ((k : Int), 2) else doorsE nz (k + 1) l
theorem W_len {n : Nat} (h : n < 9223372036854775808) : W ((n : Int) - 1) = (n : Int) - 1 := by rw [W_id]
theorem r7_zone_eq {F : Nat} {p : PdPad} (h : PadF F p) (n : Int) : r7_zone F p n = some (!outP n 0 ((p.zones.length : Int) - 1)) := by
 rw [r7_zone, W_len h.lz, r7_in_eq]; rfl
theorem outP_neg (n m : Int) : outP n (-1) m = (!decide (n = -1) && outP n 0 m || decide (n = -1) && decide (m < -1)) := by
 unfold outP
 by_cases h : n = -1
 ·subst h; simp
 ·simp [h]
  rw [show decide (n < -1) = decide (n < 0) by rw [decide_eq_decide]; omega]
theorem outP_len (n : Int) (k : Nat) : outP n (-1) ((k : Int) - 1) = (!decide (n = -1) && outP n 0 ((k : Int) - 1)) := by
 rw [outP_neg, show decide ((k : Int) - 1 < -1) = false by simp; omega]; simp
theorem doors_L1s {F : Nat} {p : PdPad} (h : PadF F p) : ∀ (n k : Nat), p.doors.length < n + k → k ≤ p.doors.length → r7_doors_L1 F p (fun _ => some (0, 0)) n k = some (doorsE p.zones.length k (p.doors.drop k))
 | 0, k, h1, h2 => absurd h1 (by omega)
 | n + 1, k, h1, h2 => by
  have hl := h.ld
  rw [r7_doors_L1]
  by_cases hk : k < p.doors.length
  ·rw [if_pos (by omega), ixO_nat hk, Option.bind_some, List.drop_eq_getElem_cons hk, doorsE]
   simp only [r7_doors_J1, r7_doors_J2, W_succ (show k < 9223372036854775807 by omega), doors_L1s h n (k + 1) (by omega) (by omega), r7_zone_eq h, Option.bind_some, iteP, dec_true, doorBad, outP_len]
   cases decide (p.doors[k].a = -1) <;> cases decide (p.doors[k].b = -1) <;> cases outP p.doors[k].a 0 ((p.zones.length : Int) - 1) <;> cases outP p.doors[k].b 0 ((p.zones.length : Int) - 1) <;> cases decide (p.doors[k].a = p.doors[k].b) <;> rfl
  ·rw [if_neg (by omega), List.drop_of_length_le (by omega)]
   rfl
theorem r7_doors_eq {F : Nat} {p : PdPad} (h : PadF F p) (hl : p.doors.length ≤ 24) : r7_doors F p = some (doorsE p.zones.length 0 p.doors) := by
 have := doors_L1s h F 0 (by have := h.f; omega) (by omega)
 simpa [r7_doors] using this
def ascP : List Int → Bool
 | x :: y :: l => decide (x < y) && ascP (y :: l)
 | _ => true
def squibBad (q : PdSquib) : Bool := offP q.at_X || offP q.at_Y || outP q.clear 0 10000000 || outP q.grade 0 9
def keysBad (nk : Nat) (q : PdSquib) : Bool := decide (q.keys = []) || q.keys.any (fun k => outP k 0 ((nk : Int) - 1))
def squibR (nk : Nat) (q : PdSquib) : Int := bif squibBad q then 7 else bif keysBad nk q then 4 else bif ascP q.keys then 0 else 2
theorem asc_L1 {F : Nat} {q : PdSquib} (hl : q.keys.length < 9223372036854775808) (hm : q.keys.length ≤ 1000000000 ∨ True) {q2 : List Int} (h2 : q2.length + 1 = q.keys.length) : ∀ (n k : Nat), q2.length < n + k → k ≤ q2.length → pad_squib_L1 F q q2 (fun _ => some 0) n k = some (bif ascP (q.keys.drop k) then 0 else 2)
 | 0, k, h1, h2 => absurd h1 (by omega)
 | n + 1, k, h1, h3 => by
  rw [pad_squib_L1]
  by_cases hk : k < q2.length
  ·have hk1 : k < q.keys.length := by omega
   have hk2 : k + 1 < q.keys.length := by omega
   rw [if_pos (by omega), ixO_nat hk1, Option.bind_some, W_succ (by omega), ixO_nat hk2, Option.bind_some, asc_L1 hl hm h2 n (k + 1) (by omega) (by omega), List.drop_eq_getElem_cons hk1, List.drop_eq_getElem_cons hk2, ascP]
   by_cases h : q.keys[k + 1] ≤ q.keys[k]
   ·rw [if_pos h, show decide (q.keys[k] < q.keys[k + 1]) = false by simp; omega]; rfl
   ·rw [if_neg h, show decide (q.keys[k] < q.keys[k + 1]) = true by simp; omega]; rfl
  ·rw [if_neg (by omega)]
   have : k + 1 = q.keys.length := by omega
   rw [List.drop_eq_getElem_cons (by omega : k < q.keys.length), List.drop_of_length_le (by omega)]
   rfl
theorem pad_squib_eq {F : Nat} {p : PdPad} (h : PadF F p) {q : PdSquib} (hq : q ∈ p.squibs) : pad_squib F q (p.keys.length : Int) = some (squibR p.keys.length q) := by
 have hk := h.qk _ hq
 have hf := h.f
 rw [pad_squib, pad_off_eq (by simp) (by simp; omega)]
 simp only [Option.bind_some, pad_low, pad_out_eq]
 rw [ContainsFunc_eq (p := fun k => outP k 0 ((p.keys.length : Int) - 1)) (fun x _ => by rw [pad_squib_1, pad_out_eq, W_len h.lk]; rfl) hk.2 hk.1]
 have hJ : q.keys ≠ [] → pad_squib_J1 F q = some (bif ascP q.keys then 0 else 2) := fun hne => by
  have h0 : 0 < q.keys.length := List.length_pos_iff.2 hne
  have hc : cutO q.keys 1 (q.keys.length : Int) = some (q.keys.drop 1) := by
   unfold cutO
   rw [if_pos (by omega), show (1 : Int).toNat = 1 from rfl, Int.toNat_natCast, List.take_of_length_le (by simp)]
  have := asc_L1 (F := F) (q := q) hk.2 (.inr trivial) (q2 := q.keys.drop 1) (by simp; omega) F 0 (by simp; omega) (by omega)
  rw [pad_squib_J1, hc, Option.bind_some]
  simpa using this
 unfold squibR squibBad keysBad
 simp only [List.any_cons, List.any_nil, iteP, dec_true, Option.bind_some]
 by_cases hne : q.keys = []
 ·simp only [hne, List.length_nil]
  cases offP q.at_X <;> cases offP q.at_Y <;> cases outP q.clear 0 10000000 <;> cases outP q.grade 0 9 <;> rfl
 ·rw [hJ hne]
  have : decide ((q.keys.length : Int) = 0) = false := by
   have h0 : 0 < q.keys.length := List.length_pos_iff.2 hne
   simp; omega
  rw [this, show decide (q.keys = []) = false by simp [hne]]
  cases offP q.at_X <;> cases offP q.at_Y <;> cases outP q.clear 0 10000000 <;> cases outP q.grade 0 9 <;> cases (q.keys.any fun k => outP k 0 ((p.keys.length : Int) - 1)) <;> rfl
end Go.Proofs.Ythcnganbnbhhoaa
open Go Go.Proofs.Ythcnganbnbhhoaa.Sh Go.Proofs
namespace Go.Proofs.Ythcnganbnbhhoaa
theorem z0 : ((0 : Nat) : Int) = 0 := rfl
theorem rsq_L1 {F : Nat} {q : PdSquib} (hl : q.keys.length < 9223372036854775808) : ∀ (n k : Nat), q.keys.length < n + k → 1 ≤ k → k ≤ q.keys.length → r7_squib_L1 F q (fun _ => some 0) n k = some (bif ascP (q.keys.drop (k - 1)) then 0 else 2)
 | 0, k, h1, _, h2 => absurd h1 (by omega)
 | n + 1, k, h1, h0, h2 => by
  rw [r7_squib_L1]
  obtain ⟨j, rfl⟩ : ∃ j, k = j + 1 := ⟨k - 1, by omega⟩
  by_cases hk : j + 1 < q.keys.length
  ·have ih := rsq_L1 (F := F) hl n (j + 1 + 1) (by omega) (by omega) (by omega)
   rw [if_pos (by omega), ixO_nat hk, Option.bind_some, W_pred (by omega) (by omega), show j + 1 - 1 = j from rfl, ixO_nat (show j < q.keys.length by omega), Option.bind_some, W_succ (by omega), ih, List.drop_eq_getElem_cons (show j < q.keys.length by omega), show j + 1 + 1 - 1 = j + 1 from rfl, List.drop_eq_getElem_cons hk, ascP]
   by_cases h : q.keys[j + 1] ≤ q.keys[j]
   ·rw [if_pos h, show decide (q.keys[j] < q.keys[j + 1]) = false by simp; omega]; rfl
   ·rw [if_neg h, show decide (q.keys[j] < q.keys[j + 1]) = true by simp; omega]; rfl
  ·rw [if_neg (by omega), show j + 1 - 1 = j from rfl, List.drop_eq_getElem_cons (show j < q.keys.length by omega), List.drop_of_length_le (by omega)]
   rfl
theorem rsq_L2 {F : Nat} {p : PdPad} (h : PadF F p) {q : PdSquib} (hl : q.keys.length < 9223372036854775808) (c : Option Int) : ∀ (n k : Nat), q.keys.length < n + k → k ≤ q.keys.length → r7_squib_L2 F p q (fun _ => c) n k = bif (q.keys.drop k).any (fun k => outP k 0 ((p.keys.length : Int) - 1)) then some 4 else c
 | 0, k, h1, h2 => absurd h1 (by omega)
 | n + 1, k, h1, h2 => by
  rw [r7_squib_L2]
  by_cases hk : k < q.keys.length
  ·rw [if_pos (by omega), ixO_nat hk, Option.bind_some, W_len h.lk, r7_in_eq, Option.bind_some, W_succ (by omega), rsq_L2 h hl c n (k + 1) (by omega) (by omega), List.drop_eq_getElem_cons hk, List.any_cons]
   cases outP q.keys[k] 0 ((p.keys.length : Int) - 1) <;> simp
  ·rw [if_neg (by omega), List.drop_of_length_le (by omega)]
   rfl
theorem take_snoc {α β : Type} (f : α → β) {l : List α} {k : Nat} (h : k < l.length) : (l.take k).map f ++ [f l[k]] = (l.take (k + 1)).map f := by
 rw [List.take_succ_eq_append_getElem h, List.map_append]
 rfl
theorem rsq_L3 {F : Nat} {p : PdPad} {o : Nat} (ho : o ≤ p.squibs.length) (hl : p.squibs.length ≤ 6) (K : List ByteArray → Int → Option Int) : ∀ (n k : Nat), o < n + k → k ≤ o → r7_squib_L3 F p o K n ((p.squibs.take k).map (·.name)) k = K ((p.squibs.take o).map (·.name)) o
 | 0, k, h1, h2 => absurd h1 (by omega)
 | n + 1, k, h1, h2 => by
  rw [r7_squib_L3]
  by_cases hk : k < o
  ·have hk' : k < p.squibs.length := by omega
   rw [if_pos (by omega), ixO_nat hk', Option.bind_some, app_one (by simp; omega), Option.bind_some, take_snoc (·.name) hk', W_succ (by omega), rsq_L3 ho hl K n (k + 1) (by omega) (by omega)]
  ·rw [if_neg (by omega), show k = o by omega]
def squibsE (nk : Nat) (all : List PdSquib) : Nat → List PdSquib → Int × Int := fun k l => namedE (·.name) (squibR nk) ((all.take k).map (·.name)) k l
theorem r7_squib_eq {F : Nat} {p : PdPad} (h : PadF F p) (hl : p.squibs.length ≤ 6) {k : Nat} (hk : k < p.squibs.length) : r7_squib F p k = some (bif decide (nmE ((p.squibs.take k).map (·.name)) p.squibs[k].name = 0) then squibR p.keys.length p.squibs[k] else nmE ((p.squibs.take k).map (·.name)) p.squibs[k].name) := by
 have hx := List.getElem_mem hk
 have hf := h.f
 have hq := h.qk _ hx
 have hn := h.qn _ hx
 have := rsq_L3 (F := F) (p := p) (o := k) (by omega) hl (fun a y => Option.bind (ixO p.squibs k) fun e2 => Option.bind (r7_name F e2.name a) fun rv => if rv = 0 then (Option.bind (r7_place F e2.at_X) fun rv2 => if rv2 = true then (Option.bind (r7_place F e2.at_Y) fun rv3 => if rv3 = true then (Option.bind (r7_in F e2.clear 0 10000000) fun rv4 => if rv4 = true then (Option.bind (r7_grade F e2.grade) fun rv5 => if rv5 = true then (r7_squib_J1 F p e2) else (r7_squib_J2 F)) else (r7_squib_J2 F)) else (r7_squib_J2 F)) else (r7_squib_J2 F)) else (some rv)) F 0 (by omega) (by omega)
 rw [List.take_zero, List.map_nil, z0] at this
 rw [r7_squib]
 refine Eq.trans this ?_
 simp only [ixO_nat hk, Option.bind_some]
 rw [r7_name_eq (by simp; omega) (by simp; omega) hn.2 hn.1, Option.bind_some]
 generalize nmE ((p.squibs.take k).map (·.name)) p.squibs[k].name = e
 generalize p.squibs[k] = q at hq
 have hJ : r7_squib_J1 F p q = some (bif keysBad p.keys.length q then 4 else bif ascP q.keys then 0 else 2) := by
  rw [r7_squib_J1]
  unfold keysBad
  by_cases h0 : q.keys = []
  ·rw [if_pos (by simp [h0])]; simp [h0]
  ·have hp := List.length_pos_iff.2 h0
   rw [if_neg (by omega)]
   have h1 := rsq_L1 (F := F) hq.2 F 1 (by omega) (by omega) (by omega)
   have h2 := rsq_L2 h hq.2 (r7_squib_L1 F q (fun x2 => some 0) F 1) F 0 (by omega) (by omega)
   rw [z0] at h2
   rw [show ((1 : Nat) : Int) = 1 from rfl] at h1
   rw [h2, h1, List.drop_zero]
   simp only [h0, decide_false, Bool.false_or]
   cases (q.keys.any fun k => outP k 0 ((p.keys.length : Int) - 1)) <;> rfl
 simp only [hJ, r7_place, r7_grade, r7_in_eq, Option.bind_some, iteP, dec_true, r7_squib_J2, squibR, squibBad, offP]
 cases decide (e = 0) <;> cases outP q.at_X (-10000000) 10000000 <;> cases outP q.at_Y (-10000000) 10000000 <;> cases outP q.clear 0 10000000 <;> cases outP q.grade 0 9 <;> rfl
def distW (lo hi n : Int) : Int := max (max (W (lo - n)) (W (n - hi))) 0
def nearW (z : PdZone) (q : PdSquib) : Bool := decide (W (W (distW z.area_X_Lo z.area_X_Hi q.at_X * distW z.area_X_Lo z.area_X_Hi q.at_X) + W (distW z.area_Y_Lo z.area_Y_Hi q.at_Y * distW z.area_Y_Lo z.area_Y_Hi q.at_Y)) < W (q.clear * q.clear))
theorem r7_near_eq {F : Nat} {p : PdPad} {z q : Nat} (hz : z < p.zones.length) (hq : q < p.squibs.length) : r7_near F p z q = some (nearW p.zones[z] p.squibs[q]) := by
 rw [r7_near, ixO_nat hz, Option.bind_some, ixO_nat hq]
 rfl
theorem Check_near {F : Nat} {p : PdPad} (h : PadF F p) (z : PdZone) (a : Int) (c : Option (Int × Int × Int)) : ∀ (n k : Nat), p.squibs.length < n + k → k ≤ p.squibs.length → pad_Check_L1 F (a, p) z (fun _ => c) n k = bif (p.squibs.drop k).any (nearW z) then some (7, 0, 2) else c
 | 0, k, h1, h2 => absurd h1 (by omega)
 | n + 1, k, h1, h2 => by
  have hl := h.lq
  rw [pad_Check_L1]
  by_cases hk : k < p.squibs.length
  ·rw [if_pos (by dsimp only; omega), ixO_nat hk, Option.bind_some, W_succ (by omega), Check_near h z a c n (k + 1) (by omega) (by omega), List.drop_eq_getElem_cons hk, List.any_cons, iteP]
   show (bif nearW z p.squibs[k] then _ else _) = _
   cases nearW z p.squibs[k] <;> rfl
  ·rw [if_neg (by dsimp only; omega), List.drop_of_length_le (by omega)]
   rfl
theorem rCheck_near {F : Nat} {p : PdPad} (h : PadF F p) {z : Nat} (hz : z < p.zones.length) (hp : p.panel = z) (c : Option (Int × Int × Int)) : ∀ (n k : Nat), p.squibs.length < n + k → k ≤ p.squibs.length → r7_Check_L1 F p (fun _ => c) n k = bif (p.squibs.drop k).any (nearW p.zones[z]) then some (7, 0, 2) else c
 | 0, k, h1, h2 => absurd h1 (by omega)
 | n + 1, k, h1, h2 => by
  have hl := h.lq
  rw [r7_Check_L1]
  by_cases hk : k < p.squibs.length
  ·rw [if_pos (by omega), hp, r7_near_eq hz hk, Option.bind_some, W_succ (by omega), rCheck_near h hz hp c n (k + 1) (by omega) (by omega), List.drop_eq_getElem_cons hk, List.any_cons]
   cases nearW p.zones[z] p.squibs[k] <;> rfl
  ·rw [if_neg (by omega), List.drop_of_length_le (by omega)]
   rfl
def partO (n : Int) (x : Int × Int) (c : Option (Int × Int × Int)) : Option (Int × Int × Int) := bif decide (x.2 = 0) then c else some (n, x.1, x.2)
theorem partO_cond (n : Int) (b : Bool) (x y : Int × Int) (c : Option (Int × Int × Int)) : partO n (bif b then x else y) c = bif b then partO n x c else partO n y c := by cases b <;> rfl
theorem Check_doors {F : Nat} {p : PdPad} (h : PadF F p) (c : Option (Int × Int × Int)) : ∀ (n k : Nat), p.doors.length < n + k → k ≤ p.doors.length → pad_Check_L2 F p (fun _ => c) n k = partO 3 (doorsE p.zones.length k (p.doors.drop k)) c
 | 0, k, h1, h2 => absurd h1 (by omega)
 | n + 1, k, h1, h2 => by
  have hl := h.ld
  rw [pad_Check_L2]
  by_cases hk : k < p.doors.length
  ·rw [if_pos (by omega), ixO_nat hk, Option.bind_some, List.drop_eq_getElem_cons hk, doorsE]
   simp only [pad_Check_J1, W_succ (show k < 9223372036854775807 by omega), Check_doors h c n (k + 1) (by omega) (by omega), pad_out_eq, W_len h.lz, Option.bind_some, iteP, dec_true, doorBad, partO_cond]
   cases outP p.doors[k].a (-1) ((p.zones.length : Int) - 1) <;> cases outP p.doors[k].b (-1) ((p.zones.length : Int) - 1) <;> cases decide (p.doors[k].a = p.doors[k].b) <;> rfl
  ·rw [if_neg (by omega), List.drop_of_length_le (by omega)]
   rfl
theorem rCheck_keys {F : Nat} {p : PdPad} (h : PadF F p) (c : Option (Int × Int × Int)) : ∀ (n k : Nat), p.keys.length < n + k → k ≤ p.keys.length → p.keys.length ≤ 8 → r7_Check_L3 F p (fun _ => c) n k = partO 5 (namedE id (fun _ => 0) (p.keys.take k) k (p.keys.drop k)) c
 | 0, k, h1, h2, _ => absurd h1 (by omega)
 | n + 1, k, h1, h2, h3 => by
  have hf := h.f
  rw [r7_Check_L3]
  by_cases hk : k < p.keys.length
  ·have hx := h.kn _ (List.getElem_mem hk)
   rw [if_pos (by omega), ixO_nat hk, Option.bind_some, cut_nat (by omega), Option.bind_some, r7_name_eq (by simp; omega) (by simp; omega) hx.2 hx.1, Option.bind_some, List.drop_eq_getElem_cons hk, namedE, W_succ (by omega), rCheck_keys h c n (k + 1) (by omega) (by omega) h3]
   rw [List.take_succ_eq_append_getElem hk]
   show (if nmE (p.keys.take k) p.keys[k] = 0 then _ else _) = partO 5 (if nmE (p.keys.take k) p.keys[k] = 0 then _ else _) c
   by_cases h0 : nmE (p.keys.take k) p.keys[k] = 0
   ·rw [if_pos h0, if_pos h0]; rfl
   ·rw [if_neg h0, if_neg h0]
    unfold partO
    rw [show decide (((k : Int), nmE (p.keys.take k) (id p.keys[k])).2 = 0) = false from decide_eq_false h0]; rfl
  ·rw [if_neg (by omega), List.drop_of_length_le (by omega)]
   rfl
theorem rCheck_squibs {F : Nat} {p : PdPad} (h : PadF F p) (hl : p.squibs.length ≤ 6) (c : Option (Int × Int × Int)) : ∀ (n k : Nat), p.squibs.length < n + k → k ≤ p.squibs.length → r7_Check_L2 F p (fun _ => c) n k = partO 6 (squibsE p.keys.length p.squibs k (p.squibs.drop k)) c
 | 0, k, h1, h2 => absurd h1 (by omega)
 | n + 1, k, h1, h2 => by
  rw [r7_Check_L2]
  by_cases hk : k < p.squibs.length
  ·rw [if_pos (by omega), r7_squib_eq h hl hk, Option.bind_some, W_succ (by omega), rCheck_squibs h hl c n (k + 1) (by omega) (by omega), List.drop_eq_getElem_cons hk]
   have e : squibsE p.keys.length p.squibs k (p.squibs[k] :: p.squibs.drop (k + 1)) = if nmE ((p.squibs.take k).map (·.name)) p.squibs[k].name = 0 then (if squibR p.keys.length p.squibs[k] = 0 then squibsE p.keys.length p.squibs (k + 1) (p.squibs.drop (k + 1)) else ((k : Int), squibR p.keys.length p.squibs[k])) else ((k : Int), nmE ((p.squibs.take k).map (·.name)) p.squibs[k].name) := by
    unfold squibsE
    rw [namedE, take_snoc (·.name) hk]
   rw [e]
   by_cases h0 : nmE ((p.squibs.take k).map (·.name)) p.squibs[k].name = 0
   ·rw [if_pos h0, show decide (nmE ((p.squibs.take k).map (·.name)) p.squibs[k].name = 0) = true from decide_eq_true h0, cond_true]
    by_cases h1 : squibR p.keys.length p.squibs[k] = 0
    ·rw [if_pos h1, if_pos h1]
    ·rw [if_neg h1, if_neg h1, partO, show decide (((k : Int), squibR p.keys.length p.squibs[k]).2 = 0) = false from decide_eq_false h1]; rfl
   ·rw [if_neg h0, show decide (nmE ((p.squibs.take k).map (·.name)) p.squibs[k].name = 0) = false from decide_eq_false h0, cond_false, if_neg h0, partO, show decide (((k : Int), nmE ((p.squibs.take k).map (·.name)) p.squibs[k].name).2 = 0) = false from decide_eq_false h0]
    rfl
  ·rw [if_neg (by omega), List.drop_of_length_le (by omega)]
   rfl
def longP (p : PdPad) : Bool := outP p.zones.length 1 8 || decide (24 < p.doors.length) || decide (8 < p.people.length) || decide (8 < p.keys.length) || decide (6 < p.squibs.length)
def panelE (p : PdPad) : Int × Int × Int := bif outP p.panel 0 ((p.zones.length : Int) - 1) then (7, 0, 4) else bif (p.squibs.any (nearW (p.zones.getD p.panel.toNat default))) then (7, 0, 2) else bif outP p.wait 0 6000 then (7, 0, 7) else (0, 0, 0)
def part (n : Int) (x : Int × Int) (c : Int × Int × Int) : Int × Int × Int := bif decide (x.2 = 0) then c else (n, x.1, x.2)
def checkP (p : PdPad) : Int × Int × Int := bif longP p then (1, 0, 3) else part 2 (namedE (·.name) zoneR [] 0 p.zones) (part 3 (doorsE p.zones.length 0 p.doors) (part 4 (namedE (·.name) personR [] 0 p.people) (part 5 (namedE id (fun _ => 0) [] 0 p.keys) (part 6 (namedE (·.name) (squibR p.keys.length) [] 0 p.squibs) (panelE p)))))
theorem longP_false {p : PdPad} (h : longP p = false) : 1 ≤ p.zones.length ∧ p.zones.length ≤ 8 ∧ p.doors.length ≤ 24 ∧ p.people.length ≤ 8 ∧ p.keys.length ≤ 8 ∧ p.squibs.length ≤ 6 := by
 simp only [longP, Bool.or_eq_false_iff, decide_eq_false_iff_not, outP_false] at h
 omega
theorem part_some (n : Int) (x : Int × Int) (c : Int × Int × Int) : (if x.2 = 0 then some c else some (n, x.1, x.2)) = some (part n x c) := by
 unfold part
 by_cases h : x.2 = 0 <;> simp [h]
theorem partO_some (n : Int) (x : Int × Int) (c : Int × Int × Int) : partO n x (some c) = some (part n x c) := by
 unfold part partO
 cases decide (x.2 = 0) <;> rfl
theorem panel_at {p : PdPad} (h : outP p.panel 0 ((p.zones.length : Int) - 1) = false) : ∃ z : Nat, ∃ _ : z < p.zones.length, p.panel = z := by
 have := outP_false.1 h
 exact ⟨p.panel.toNat, by omega, by omega⟩
theorem pad_Check_eq {F : Nat} {p : PdPad} (h : PadF F p) : pad_Check F p = some (checkP p) := by
 have hf := h.f
 have hz := h.lz
 have hJ : longP p = false → pad_Check_J3 F p = some (checkP p) := fun hl => by
  obtain ⟨l1, l2, l3, l4, l5, l6⟩ := longP_false hl
  have hn : ∀ n : Nat, pad_Check_J2 F p = some (bif outP p.wait 0 6000 then (7, 0, 7) else (0, 0, 0)) := fun _ => by
   rw [pad_Check_J2, pad_out_eq, Option.bind_some]; cases outP p.wait 0 6000 <;> rfl
  have hpan : (if outP p.panel 0 ((p.zones.length : Int) - 1) = true then (some ((7, 0, 4) : Int × Int × Int)) else (Option.bind (pad_near F p p.panel) fun rv9 => if rv9.1 < 0 then (pad_Check_J2 F p) else (Option.bind (ixO rv9.2.zones rv9.1) fun e2 => pad_Check_L1 F rv9 e2 (fun (x2 : Int) => pad_Check_J2 F p) F 0))) = some (panelE p) := by
   unfold panelE
   cases ho : outP p.panel 0 ((p.zones.length : Int) - 1) with
   | true => rfl
   | false =>
    obtain ⟨z, hz, e⟩ := panel_at ho
    rw [if_neg (by simp), pad_near, Option.bind_some]
    dsimp only
    rw [if_neg (by omega), e, ixO_nat hz, Option.bind_some, hn 0]
    have := Check_near h p.zones[z] z (some (bif outP p.wait 0 6000 then ((7, 0, 7) : Int × Int × Int) else (0, 0, 0))) F 0 (by omega) (by omega)
    rw [z0] at this
    rw [this, Int.toNat_natCast, List.drop_zero, List.getD_eq_getElem?_getD, List.getElem?_eq_getElem hz, Option.getD_some]
    cases (p.squibs.any (nearW p.zones[z])) <;> rfl
  have hd := Check_doors h (some (part 4 (namedE (·.name) personR [] 0 p.people) (part 5 (namedE id (fun _ => 0) [] 0 p.keys) (part 6 (namedE (·.name) (squibR p.keys.length) [] 0 p.squibs) (panelE p))))) F 0 (by omega) (by omega)
  rw [pad_Check_J3, named_PdZone_eq (nm := (·.name)) (rest := zoneR) (fun x _ => by rw [pad_Check_1]) (fun x _ => pad_zone_eq hf x) (by omega) (by omega) h.zn, Option.bind_some]
  simp only [named_PdPerson_eq (F := F) (lv := p.people) (nm := (·.name)) (rest := personR) (name := fun a0 => pad_Check_2 F a0) (re := fun a0 => pad_Check_3 F a0) (fun x _ => by rw [pad_Check_2]) (fun x _ => by rw [pad_Check_3, pad_low, pad_out_eq]; simp only [Option.bind_some, personR]; cases outP x.grade 0 9 <;> rfl) (by omega) (by omega) h.pn,
   named_string_eq (F := F) (lv := p.keys) (nm := id) (rest := fun _ => 0) (name := fun a0 => pad_Check_4 F a0) (re := fun a0 => pad_Check_5 F a0) (fun x _ => by rw [pad_Check_4]; rfl) (fun x _ => by rw [pad_Check_5]) (by omega) (by omega) h.kn,
   named_PdSquib_eq (F := F) (lv := p.squibs) (nm := (·.name)) (rest := squibR p.keys.length) (name := fun a0 => pad_Check_6 F a0) (re := fun a0 => pad_Check_7 F a0 p) (fun x _ => by rw [pad_Check_6]) (fun x hx => by rw [pad_Check_7, pad_squib_eq h hx]; rfl) (by omega) (by omega) h.qn, Option.bind_some, W_len hz, pad_out_eq, hpan, part_some]
  rw [z0, partO_some, List.drop_zero] at hd
  rw [hd, part_some]
  unfold checkP
  rw [hl, cond_false]
 have hJ4 : longP p = true → pad_Check_J4 F = some (checkP p) := fun hl => by
  unfold checkP; rw [hl]; rfl
 rw [pad_Check, W_len hz, pad_out_eq, Option.bind_some]
 have ez : outP ((p.zones.length : Int) - 1) 0 7 = outP p.zones.length 1 8 := by
  unfold outP; rw [decide_eq_decide]; omega
 rw [ez]
 have hb : longP p = (outP p.zones.length 1 8 || decide (24 < p.doors.length) || decide (8 < p.people.length) || decide (8 < p.keys.length) || decide (6 < p.squibs.length)) := rfl
 have c1 : decide ((24 : Int) < p.doors.length) = decide (24 < p.doors.length) := by rw [decide_eq_decide]; omega
 have c2 : decide ((8 : Int) < p.people.length) = decide (8 < p.people.length) := by rw [decide_eq_decide]; omega
 have c3 : decide ((8 : Int) < p.keys.length) = decide (8 < p.keys.length) := by rw [decide_eq_decide]; omega
 have c4 : decide ((6 : Int) < p.squibs.length) = decide (6 < p.squibs.length) := by rw [decide_eq_decide]; omega
 simp only [iteP, dec_true, bif_or, c1, c2, c3, c4]
 simp only [Bool.or_assoc] at hb
 rw [← hb]
 cases hl : longP p with
 | true => exact hJ4 hl
 | false => exact hJ hl
theorem r7_Check_eq {F : Nat} {p : PdPad} (h : PadF F p) : r7_Check F p = some (checkP p) := by
 have hf := h.f
 have hz := h.lz
 have hJ : longP p = false → r7_Check_J1 F p = some (checkP p) := fun hl => by
  obtain ⟨l1, l2, l3, l4, l5, l6⟩ := longP_false hl
  have hw : (Option.bind (r7_in F p.wait 0 6000) fun rv9 => if rv9 = true then (some ((0, 0, 0) : Int × Int × Int)) else (some (7, 0, 7))) = some (bif outP p.wait 0 6000 then (7, 0, 7) else (0, 0, 0)) := by
   rw [r7_in_eq, Option.bind_some]; cases outP p.wait 0 6000 <;> rfl
  have hpan : (Option.bind (r7_zone F p p.panel) fun rv7 => if rv7 = true then (r7_Check_L1 F p (fun (x3 : Int) => some (bif outP p.wait 0 6000 then ((7, 0, 7) : Int × Int × Int) else (0, 0, 0))) F 0) else (some (7, 0, 4))) = some (panelE p) := by
   rw [r7_zone_eq h, Option.bind_some]
   unfold panelE
   cases ho : outP p.panel 0 ((p.zones.length : Int) - 1) with
   | true => rfl
   | false =>
    obtain ⟨z, hz, e⟩ := panel_at ho
    have := rCheck_near h hz e (some (bif outP p.wait 0 6000 then ((7, 0, 7) : Int × Int × Int) else (0, 0, 0))) F 0 (by omega) (by omega)
    rw [z0] at this
    rw [if_pos (by simp), this, e, Int.toNat_natCast, List.drop_zero, List.getD_eq_getElem?_getD, List.getElem?_eq_getElem hz, Option.getD_some]
    cases (p.squibs.any (nearW p.zones[z])) <;> rfl
  have hq := rCheck_squibs h l6 (some (panelE p)) F 0 (by omega) (by omega)
  have hk := rCheck_keys h (some (part 6 (namedE (·.name) (squibR p.keys.length) [] 0 p.squibs) (panelE p))) F 0 (by omega) (by omega) l5
  rw [r7_Check_J1, r7_zones_eq h l2, Option.bind_some]
  simp only [r7_doors_eq h l3, r7_people_eq h l4, Option.bind_some, hw, hpan]
  rw [z0] at hq hk
  rw [hq]
  simp only [squibsE, List.take_zero, List.map_nil, List.drop_zero]
  rw [partO_some, hk, partO_some]
  unfold checkP
  rw [hl, cond_false]
  simp only [List.take_zero, List.drop_zero, part_some]
 have hJ2 : longP p = true → r7_Check_J2 F = some (checkP p) := fun hl => by
  unfold checkP; rw [hl]; rfl
 rw [r7_Check, r7_in_eq, Option.bind_some]
 have hb : longP p = (outP p.zones.length 1 8 || decide (24 < p.doors.length) || decide (8 < p.people.length) || decide (8 < p.keys.length) || decide (6 < p.squibs.length)) := rfl
 have c1 : decide ((24 : Int) < p.doors.length) = decide (24 < p.doors.length) := by rw [decide_eq_decide]; omega
 have c2 : decide ((8 : Int) < p.people.length) = decide (8 < p.people.length) := by rw [decide_eq_decide]; omega
 have c3 : decide ((8 : Int) < p.keys.length) = decide (8 < p.keys.length) := by rw [decide_eq_decide]; omega
 have c4 : decide ((6 : Int) < p.squibs.length) = decide (6 < p.squibs.length) := by rw [decide_eq_decide]; omega
 simp only [iteP, dec_true, Bool.cond_not, bif_or, c1, c2, c3, c4]
 simp only [Bool.or_assoc] at hb
 rw [← hb]
 cases hl : longP p with
 | true => exact hJ2 hl
 | false => exact hJ hl
theorem fuel_ex {α : Type} (f : α → Nat) : ∀ l : List α, ∃ N, ∀ x ∈ l, f x < N
 | [] => ⟨0, fun _ h => by simp at h⟩
 | a :: l => by
  obtain ⟨N, h⟩ := fuel_ex f l
  refine ⟨N + f a + 1, fun x hx => ?_⟩
  rcases List.mem_cons.1 hx with rfl | hx
  ·omega
  ·have := h x hx; omega
theorem padF_ex {p : PdPad} (h1 : p.zones.length < 9223372036854775808) (h2 : p.doors.length < 9223372036854775808) (h3 : p.people.length < 9223372036854775808) (h4 : p.keys.length < 9223372036854775808) (h5 : p.squibs.length < 9223372036854775808)
  (k1 : ∀ x ∈ p.zones, x.name.size < 9223372036854775808) (k2 : ∀ x ∈ p.people, x.name.size < 9223372036854775808) (k3 : ∀ x ∈ p.keys, x.size < 9223372036854775808) (k4 : ∀ x ∈ p.squibs, x.name.size < 9223372036854775808) (k5 : ∀ x ∈ p.squibs, x.keys.length < 9223372036854775808) : ∃ F0, ∀ F, F0 ≤ F → PadF F p := by
 obtain ⟨a, ha⟩ := fuel_ex (fun x : PdZone => x.name.size) p.zones
 obtain ⟨b, hb⟩ := fuel_ex (fun x : PdPerson => x.name.size) p.people
 obtain ⟨c, hc⟩ := fuel_ex (fun x : ByteArray => x.size) p.keys
 obtain ⟨d, hd⟩ := fuel_ex (fun x : PdSquib => x.name.size) p.squibs
 obtain ⟨e, he⟩ := fuel_ex (fun x : PdSquib => x.keys.length) p.squibs
 refine ⟨101 + a + b + c + d + e, fun F hF => ⟨by omega, h1, h2, h3, h4, h5, fun x hx => ⟨?_, k1 x hx⟩, fun x hx => ⟨?_, k2 x hx⟩, fun x hx => ⟨?_, k3 x hx⟩, fun x hx => ⟨?_, k4 x hx⟩, fun x hx => ⟨?_, k5 x hx⟩⟩⟩
 ·have := ha x hx; omega
 ·have := hb x hx; omega
 ·have := hc x hx; omega
 ·have := hd x hx; omega
 ·have := he x hx; omega
end Go.Proofs.Ythcnganbnbhhoaa
open Go Go.Proofs.Ythcnganbnbhhoaa.Sh Go.Proofs
namespace Go.Proofs.Ythcnganbnbhhoaa
theorem allLoop {ρ : Type} {g : Nat → Int → Option ρ} {f : Nat → Bool} {len : Nat} {c fl : Option ρ} (h0 : ∀ n k : Nat, k < len → g (n + 1) k = bif f k then g n ((k + 1 : Nat) : Int) else fl) (h1 : ∀ n, g (n + 1) len = c) :
 ∀ n k : Nat, len < n + k → k ≤ len → g n k = bif (List.range' k (len - k)).all f then c else fl
 | 0, k, h, h2 => absurd h (by omega)
 | n + 1, k, h, h2 => by
  by_cases hk : k < len
  ·rw [h0 n k hk, allLoop h0 h1 n (k + 1) (by omega) (by omega), show len - k = (len - (k + 1)) + 1 by omega, List.range'_succ, List.all_cons]
   cases f k <;> rfl
  ·obtain rfl : k = len := by omega
   rw [h1 n, Nat.sub_self]; rfl
theorem getD_at {α : Type} {l : List α} {k : Nat} (d : α) (h : k < l.length) : l.getD k d = l[k] := by simp [List.getD_eq_getElem?_getD, List.getElem?_eq_getElem h]
structure PadOk (p : PdPad) : Prop where
 z1 : 1 ≤ p.zones.length
 z8 : p.zones.length ≤ 8
 d24 : p.doors.length ≤ 24
 p8 : p.people.length ≤ 8
 k8 : p.keys.length ≤ 8
 q6 : p.squibs.length ≤ 6
 z : ∀ z ∈ p.zones, zoneBad z = false
 d : ∀ d ∈ p.doors, doorBad p.zones.length d = false
 g : ∀ x ∈ p.people, outP x.grade 0 9 = false
 q : ∀ q ∈ p.squibs, squibBad q = false ∧ keysBad p.keys.length q = false ∧ ascP q.keys = true
 panel : outP p.panel 0 ((p.zones.length : Int) - 1) = false
 far : p.squibs.any (nearW (p.zones.getD p.panel.toNat default)) = false
 wait : outP p.wait 0 6000 = false
theorem namedE_ok {α : Type} {nm : α → ByteArray} {rest : α → Int} : ∀ {l : List α} {seen : List ByteArray} {k : Nat}, (namedE nm rest seen k l).2 = 0 → ∀ x ∈ l, rest x = 0
 | [], _, _, _ => fun _ h => by simp at h
 | x :: l, seen, k, h => fun y hy => by
  rw [namedE] at h
  by_cases h1 : nmE seen (nm x) = 0
  ·rw [if_pos h1] at h
   by_cases h2 : rest x = 0
   ·rw [if_pos h2] at h
    rcases List.mem_cons.1 hy with rfl | hy
    ·exact h2
    ·exact namedE_ok h y hy
   ·rw [if_neg h2] at h; exact absurd h h2
  ·rw [if_neg h1] at h; exact absurd h h1
theorem doorsE_ok {nz : Nat} : ∀ {l : List PdDoor} {k : Nat}, (doorsE nz k l).2 = 0 → ∀ x ∈ l, doorBad nz x = false
 | [], _, _ => fun _ h => by simp at h
 | x :: l, k, h => fun y hy => by
  rw [doorsE] at h
  cases h1 : doorBad nz x with
  | true => rw [h1] at h; exact absurd h (by simp)
  | false =>
   rw [h1, cond_false] at h
   cases h2 : decide (x.a = x.b) with
   | true => rw [h2] at h; exact absurd h (by simp)
   | false =>
    rw [h2, cond_false] at h
    rcases List.mem_cons.1 hy with rfl | hy
    ·exact h1
    ·exact doorsE_ok h y hy
theorem part_ok {n : Int} {x : Int × Int} {c : Int × Int × Int} (hn : (part n x c).2.2 = 0) : x.2 = 0 ∧ c.2.2 = 0 := by
 unfold part at hn
 by_cases h : x.2 = 0
 ·rw [decide_eq_true h] at hn; exact ⟨h, hn⟩
 ·rw [decide_eq_false h] at hn; exact absurd hn h
theorem checkP_ok {p : PdPad} (h : (checkP p).2.2 = 0) : PadOk p := by
 unfold checkP at h
 cases hl : longP p with
 | true => rw [hl] at h; exact absurd h (by simp)
 | false =>
  obtain ⟨l1, l2, l3, l4, l5, l6⟩ := longP_false hl
  rw [hl, cond_false] at h
  obtain ⟨h1, h⟩ := part_ok h
  obtain ⟨h2, h⟩ := part_ok h
  obtain ⟨h3, h⟩ := part_ok h
  obtain ⟨h4, h⟩ := part_ok h
  obtain ⟨h5, h⟩ := part_ok h
  unfold panelE at h
  cases e1 : outP p.panel 0 ((p.zones.length : Int) - 1) with
  | true => rw [e1] at h; exact absurd h (by simp)
  | false =>
   rw [e1, cond_false] at h
   cases e2 : p.squibs.any (nearW (p.zones.getD p.panel.toNat default)) with
   | true => rw [e2] at h; exact absurd h (by simp)
   | false =>
    rw [e2, cond_false] at h
    cases e3 : outP p.wait 0 6000 with
    | true => rw [e3] at h; exact absurd h (by simp)
    | false =>
     refine ⟨l1, l2, l3, l4, l5, l6, fun z hz => ?_, doorsE_ok h2, fun x hx => ?_, fun q hq => ?_, e1, e2, e3⟩
     ·have := namedE_ok h1 z hz
      unfold zoneR at this
      cases hb : zoneBad z with
      | false => rfl
      | true => rw [hb] at this; exact absurd this (by simp)
     ·have := namedE_ok h3 x hx
      unfold personR at this
      cases hb : outP x.grade 0 9 with
      | false => rfl
      | true => rw [hb] at this; exact absurd this (by simp)
     ·have := namedE_ok h5 q hq
      unfold squibR at this
      cases a : squibBad q with
      | true => rw [a] at this; exact absurd this (by simp)
      | false =>
       rw [a, cond_false] at this
       cases b : keysBad p.keys.length q with
       | true => rw [b] at this; exact absurd this (by simp)
       | false =>
        rw [b, cond_false] at this
        cases c : ascP q.keys with
        | true => exact ⟨rfl, rfl, rfl⟩
        | false => rw [c] at this; exact absurd this (by simp)
structure StF (F : Nat) (s : PdState) : Prop where
 z : s.zones.length < F ∧ s.zones.length ≤ 17592186044416
 h : s.holder.length < F ∧ s.holder.length ≤ 17592186044416
 q : s.squibs.length < F ∧ s.squibs.length ≤ 17592186044416
abbrev scn (p : PdPad) (s : PdState) : Scene := Scene.mk p.zones p.doors p.people p.keys p.squibs p.panel p.wait s.now s.zones s.holder s.squibs s.siren s.storm
end Go.Proofs.Ythcnganbnbhhoaa
open Go Go.Proofs.Ythcnganbnbhhoaa.Sh Go.Proofs
namespace Go.Proofs.Ythcnganbnbhhoaa
structure Formed (p : PdPad) (s : PdState) : Prop where
 now : 0 ≤ s.now ∧ s.now ≤ 100000
 siren : -1 ≤ s.siren ∧ s.siren ≤ s.now
 lz : s.zones.length = p.people.length
 lh : s.holder.length = p.keys.length
 lq : s.squibs.length = p.squibs.length
 z : ∀ x ∈ s.zones, -1 ≤ x ∧ x < p.zones.length
 h : ∀ x ∈ s.holder, -1 ≤ x ∧ x < p.people.length
 q : ∀ x ∈ s.squibs, 0 ≤ x ∧ x ≤ 2
def crowdP (s : PdState) (z : Int) : Nat := s.zones.countP (fun e => decide (e = z))
def heldP (s : PdState) (k : Int) : Bool := decide (0 ≤ s.holder.getD k.toNat (-1))
def owedP (s : PdState) (q : PdSquib) : List Int := q.keys.filter (heldP s)
def holdsP (s : PdState) (i : Int) (q : PdSquib) : Bool := q.keys.any (fun k => decide (s.holder.getD k.toNat (-1) = i))
def keyAt (p : PdPad) (s : PdState) (i : Int) (z : PdZone) (k : Nat) : Bool := decide (s.squibs.getD k 0 = 2) || !nearW z (p.squibs.getD k default) || holdsP s i (p.squibs.getD k default)
def keyedP (p : PdPad) (s : PdState) (i z : Int) : Bool := decide (z < 0) || (List.range' 0 p.squibs.length).all (keyAt p s i (p.zones.getD z.toNat default))
end Go.Proofs.Ythcnganbnbhhoaa
open Go Go.Proofs.Ythcnganbnbhhoaa.Sh Go.Proofs
namespace Go.Proofs.Ythcnganbnbhhoaa
def aloneP (p : PdPad) (s : PdState) (z : Int) : Bool := decide (0 ≤ z) && ((p.zones.getD z.toNat default).pair && decide (crowdP s z = 1))
def zoneS (p : PdPad) (s : PdState) (k : Nat) : Bool := !decide ((p.zones.getD k default).room < (crowdP s k : Int)) && !aloneP p s k
def personS (p : PdPad) (s : PdState) (k : Nat) : Bool := !(decide (0 ≤ s.zones.getD k 0) && decide ((p.people.getD k default).grade < (p.zones.getD (s.zones.getD k 0).toNat default).grade)) && keyedP p s k (s.zones.getD k 0)
def squibS (p : PdPad) (s : PdState) (k : Nat) : Bool := !decide (s.squibs.getD k 0 = 1) || (decide (owedP s (p.squibs.getD k default) = []) && (!decide (s.siren < 0) && !s.storm))
def soundP (p : PdPad) (s : PdState) : Bool := (List.range' 0 p.zones.length).all (zoneS p s) && ((List.range' 0 s.zones.length).all (personS p s) && (List.range' 0 s.squibs.length).all (squibS p s))
theorem r7_valid_eq {F : Nat} {p : PdPad} (h : PadF F p) : r7_valid F p = some (checkP p).2.2 := by
 rw [r7_valid, r7_Check_eq h]; rfl
structure StOk (p : PdPad) (s : PdState) : Prop where
 o : PadOk p
 f : Formed p s
 s : soundP p s = true
end Go.Proofs.Ythcnganbnbhhoaa
open Go Go.Proofs.Ythcnganbnbhhoaa.Sh Go.Proofs
namespace Go.Proofs.Ythcnganbnbhhoaa
structure ActOk (p : PdPad) (a : PdAct) : Prop where
 t : 0 ≤ a.at_ ∧ a.at_ ≤ 100000
 k : a.kind = 1 ∨ a.kind = 2 ∨ a.kind = 3 ∨ a.kind = 4 ∨ a.kind = 5 ∨ a.kind = 6 ∨ a.kind = 7 ∨ a.kind = 8 ∨ a.kind = 9
 who : 0 ≤ a.who ∧ a.who < p.people.length
 zone : a.kind = 1 → -1 ≤ a.what ∧ a.what < p.zones.length
 key : a.kind = 2 ∨ a.kind = 3 ∨ a.kind = 4 → 0 ≤ a.what ∧ a.what < p.keys.length
 squib : a.kind = 5 ∨ a.kind = 6 ∨ a.kind = 7 → 0 ≤ a.what ∧ a.what < p.squibs.length
 sig : a.kind = 8 ∨ a.kind = 9 → a.what = 0 ∨ a.what = 1
 give : a.kind = 4 → (0 ≤ a.with_ ∧ a.with_ < p.people.length) ∧ a.with_ ≠ a.who
 move : a.kind = 1 → (a.with_ = -1 ∨ (0 ≤ a.with_ ∧ a.with_ < p.people.length)) ∧ a.with_ ≠ a.who
end Go.Proofs.Ythcnganbnbhhoaa
open Go Go.Proofs.Ythcnganbnbhhoaa.Sh Go.Proofs
namespace Go.Proofs.Ythcnganbnbhhoaa
structure Acts (F : Nat) (p : PdPad) (s : PdState) (a : PdAct) : Prop where
 h : PadF F p
 hs : StF F s
 o : PadOk p
 f : Formed p s
 a : ActOk p a
theorem Acts.who {F : Nat} {p : PdPad} {s : PdState} {a : PdAct} (h : Acts F p s a) : ∃ i : Nat, a.who = i ∧ i < p.people.length ∧ i < s.zones.length := by
 have h1 := h.a.who
 have h2 := h.f.lz
 exact ⟨a.who.toNat, by omega, by omega, by omega⟩
theorem Acts.key {F : Nat} {p : PdPad} {s : PdState} {a : PdAct} (h : Acts F p s a) (k : a.kind = 2 ∨ a.kind = 3 ∨ a.kind = 4) : ∃ i : Nat, a.what = i ∧ i < p.keys.length ∧ i < s.holder.length := by
 have h1 := h.a.key k
 have h2 := h.f.lh
 exact ⟨a.what.toNat, by omega, by omega, by omega⟩
theorem Acts.squib {F : Nat} {p : PdPad} {s : PdState} {a : PdAct} (h : Acts F p s a) (k : a.kind = 5 ∨ a.kind = 6 ∨ a.kind = 7) : ∃ i : Nat, a.what = i ∧ i < p.squibs.length ∧ i < s.squibs.length := by
 have h1 := h.a.squib k
 have h2 := h.f.lq
 exact ⟨a.what.toNat, by omega, by omega, by omega⟩
end Go.Proofs.Ythcnganbnbhhoaa
open Go Go.Proofs.Ythcnganbnbhhoaa.Sh Go.Proofs
namespace Go.Proofs.Ythcnganbnbhhoaa
end Go.Proofs.Ythcnganbnbhhoaa
open Go Go.Proofs.Ythcnganbnbhhoaa.Sh Go.Proofs
namespace Go.Proofs.Ythcnganbnbhhoaa
def Rm (o : Option (PdState × Int × PdState)) (s : PdState) (r : Except Int PdState) : Prop :=
 ∃ x e m, o = some (x, e, m) ∧ (m.zones.length = s.zones.length ∧ m.holder.length = s.holder.length ∧ m.squibs.length = s.squibs.length) ∧
  match r with
  | .ok s' => e = 0 ∧ s' = {x with zones := m.zones, holder := m.holder, squibs := m.squibs}
  | .error e' => e = e' ∧ e' ≠ 0
theorem Rm.bif {b : Bool} {o1 o2 : Option (PdState × Int × PdState)} {s : PdState} {r1 r2 : Except Int PdState} (h1 : b = true → Rm o1 s r1) (h2 : b = false → Rm o2 s r2) : Rm (bif b then o1 else o2) s (bif b then r1 else r2) := by
 cases b with
 | true => exact h1 rfl
 | false => exact h2 rfl
theorem Rm.ok {s x m s' : PdState} (hs : s' = {x with zones := m.zones, holder := m.holder, squibs := m.squibs}) (h1 : m.zones.length = s.zones.length := by simp) (h2 : m.holder.length = s.holder.length := by simp) (h3 : m.squibs.length = s.squibs.length := by simp) : Rm (some (x, 0, m)) s (.ok s') := ⟨x, 0, m, rfl, ⟨h1, h2, h3⟩, rfl, hs⟩
theorem Rm.of {o o' : Option (PdState × Int × PdState)} {s : PdState} {r r' : Except Int PdState} (h : Rm o s r) (ho : o' = o) (hr : r' = r) : Rm o' s r' := by
 subst ho hr; exact h
end Go.Proofs.Ythcnganbnbhhoaa
open Go Go.Proofs.Ythcnganbnbhhoaa.Sh Go.Proofs
namespace Go.Proofs.Ythcnganbnbhhoaa
end Go.Proofs.Ythcnganbnbhhoaa
open Go Go.Proofs.Ythcnganbnbhhoaa.Sh Go.Proofs
namespace Go.Proofs.Ythcnganbnbhhoaa
theorem Ints_L1s {F : Nat} {a b : List Int} (hl : a.length < 9223372036854775808) (hab : a.length = b.length) : ∀ (n k : Nat), a.length < n + k → k ≤ a.length → r1_Ints_L1 F a b (fun _ => some true) n k = some (decide (a.drop k = b.drop k))
 | 0, k, h, h2 => absurd h (by omega)
 | n + 1, k, h, h2 => by
  rw [r1_Ints_L1]
  by_cases hk : k < a.length
  ·rw [if_pos (by omega), ixO_nat hk, Option.bind_some, ixO_nat (by omega), Option.bind_some, W_succ (by omega), Ints_L1s hl hab n (k + 1) (by omega) (by omega), List.drop_eq_getElem_cons hk, List.drop_eq_getElem_cons (show k < b.length by omega)]
   by_cases he : a[k] = b[k]'(by omega)
   ·rw [if_pos he, he]; simp only [List.cons.injEq, true_and]
   ·rw [if_neg he]; simp only [List.cons.injEq, he, false_and, decide_false]
  ·rw [if_neg (by omega), List.drop_of_length_le (by omega), List.drop_of_length_le (by omega)]
   rfl
theorem r1_Ints_eq {F : Nat} {a b : List Int} (hl : a.length < 9223372036854775808) (hF : a.length < F) : r1_Ints F a b = some (decide (a = b)) := by
 rw [r1_Ints]
 by_cases h : a.length = b.length
 ·rw [if_pos (by omega)]
  have := Ints_L1s (F := F) hl h F 0 (by omega) (by omega)
  rw [z0] at this
  rw [this]; simp
 ·rw [if_neg (by omega), decide_eq_false (fun e => h (by rw [e]))]
theorem same_self {F : Nat} {s : PdState} (h : StF F s) : r7_Same F s s = some true := by
 have h1 := h.z
 have h2 := h.h
 have h3 := h.q
 rw [r7_Same, r1_Ints_eq (by omega) h1.1, r1_Ints_eq (by omega) h2.1, r1_Ints_eq (by omega) h3.1]
 simp
end Go.Proofs.Ythcnganbnbhhoaa
open Go Go.Proofs.Ythcnganbnbhhoaa.Sh Go.Proofs
namespace Go.Proofs.Ythcnganbnbhhoaa
theorem rep_eq {F : Nat} (hF : 100 < F) {n : Nat} (hn : n ≤ 8) : slices_Repeat_int F [-1] (n : Int) = some (List.replicate n (-1)) := by
 obtain ⟨m, rfl⟩ : ∃ m, F = m + 20 := ⟨F - 20, by omega⟩
 match n, hn with
 | 0, _ => rfl
 | 1, _ => rfl
 | 2, _ => rfl
 | 3, _ => rfl
 | 4, _ => rfl
 | 5, _ => rfl
 | 6, _ => rfl
 | 7, _ => rfl
 | 8, _ => rfl
theorem fill_eq {F : Nat} (hF : 100 < F) (x : Int) {n : Nat} (hn : n ≤ 8) : r7_fill F x (n : Int) = some (List.replicate n x) := by
 obtain ⟨m, rfl⟩ : ∃ m, F = m + 20 := ⟨F - 20, by omega⟩
 match n, hn with
 | 0, _ => rfl
 | 1, _ => rfl
 | 2, _ => rfl
 | 3, _ => rfl
 | 4, _ => rfl
 | 5, _ => rfl
 | 6, _ => rfl
 | 7, _ => rfl
 | 8, _ => rfl
theorem natM_nat {n : Nat} (h : n ≤ 1000) : natM (n : Int) = some n := by
 unfold natM
 rw [if_pos (by omega), Int.toNat_natCast]
def StartP (p : PdPad) : PdState × Int := if (checkP p).2.2 = 0 then (⟨0, List.replicate p.people.length (-1), List.replicate p.keys.length (-1), List.replicate p.squibs.length 0, -1, false⟩, 0) else (⟨0, [], [], [], 0, false⟩, (checkP p).2.2)
theorem pad_Start_eq {F : Nat} {p : PdPad} (h : PadF F p) : pad_Start F p = some (StartP p) := by
 rw [pad_Start, pad_Check_eq h, Option.bind_some]
 unfold StartP
 by_cases h0 : (checkP p).2.2 = 0
 ·have ho := checkP_ok h0
  have k1 := ho.p8
  have k2 := ho.k8
  have k3 := ho.q6
  rw [if_pos h0, if_pos h0, rep_eq h.f k1, Option.bind_some, rep_eq h.f k2, Option.bind_some, natM_nat (by omega)]
  rfl
 ·rw [if_neg h0, if_neg h0]
theorem r7_Start_eq {F : Nat} {p : PdPad} (h : PadF F p) : r7_Start F p = some (StartP p) := by
 rw [r7_Start, r7_valid_eq h, Option.bind_some]
 unfold StartP
 by_cases h0 : (checkP p).2.2 = 0
 ·have ho := checkP_ok h0
  have k1 := ho.p8
  have k2 := ho.k8
  have k3 := ho.q6
  rw [if_pos h0, if_pos h0, fill_eq h.f _ k1, Option.bind_some, fill_eq h.f _ k2, Option.bind_some, fill_eq h.f _ (by omega)]
  rfl
 ·rw [if_neg h0, if_neg h0]
def NearP (p : PdPad) (z q : Int) : Bool × Int := if (checkP p).2.2 = 0 then (bif outP z 0 ((p.zones.length : Int) - 1) then (false, 4) else bif outP q 0 ((p.squibs.length : Int) - 1) then (false, 4) else (nearW (p.zones.getD z.toNat default) (p.squibs.getD q.toNat default), 0)) else (false, (checkP p).2.2)
theorem outP_in {x lo hi : Int} (h : outP x lo hi = false) : lo ≤ x ∧ x ≤ hi := by
 unfold outP at h
 rw [decide_eq_false_iff_not] at h
 omega
theorem near_all {p : PdPad} {z : PdZone} {m : Nat} (hm : m < p.squibs.length) : (List.range' 0 p.squibs.length).all (fun k => !(nearW z (p.squibs.getD k default) && decide (k = m))) = !nearW z (p.squibs.getD m default) := by
 cases hn : nearW z (p.squibs.getD m default) with
 | true =>
  rw [Bool.not_true, ← Bool.not_eq_true, List.all_eq_true]
  intro h
  have := h m (by rw [List.mem_range'_1]; omega)
  rw [hn] at this
  simp at this
 | false =>
  rw [Bool.not_false, List.all_eq_true]
  intro k hk
  by_cases e : k = m
  ·rw [e, hn]; rfl
  ·simp [e]
theorem pad_Near_eq {F : Nat} {p : PdPad} (h : PadF F p) (z q : Int) : pad_Near F p z q = some (NearP p z q) := by
 have hF := h.f
 rw [pad_Near, pad_Check_eq h, Option.bind_some]
 unfold NearP
 by_cases h0 : (checkP p).2.2 = 0
 ·have ho := checkP_ok h0
  have k3 := ho.q6
  rw [if_pos h0, if_pos h0, pad_out_eq, Option.bind_some, W_len h.lz, W_len h.lq, pad_out_eq, Option.bind_some]
  cases e1 : outP z 0 ((p.zones.length : Int) - 1) with
  | true => rfl
  | false =>
   cases e2 : outP q 0 ((p.squibs.length : Int) - 1) with
   | true => rfl
   | false =>
    have h1 := outP_in e1
    have h2 := outP_in e2
    obtain ⟨j, rfl⟩ : ∃ j : Nat, z = j := ⟨z.toNat, by omega⟩
    obtain ⟨m, rfl⟩ : ∃ m : Nat, q = m := ⟨q.toNat, by omega⟩
    have hj : j < p.zones.length := by omega
    have hm : m < p.squibs.length := by omega
    rw [if_neg Bool.false_ne_true, if_neg Bool.false_ne_true, pad_Near_J2]
    show (if (j : Int) < 0 then pad_Near_J1 F else Option.bind (ixO p.zones j) fun e => pad_Near_L1 F m (j, p) e (fun (x : Int) => pad_Near_J1 F) F 0) = _
    rw [if_neg (by omega), ixO_nat hj, Option.bind_some]
    have := allLoop (g := fun n y => pad_Near_L1 F m ((j : Int), p) p.zones[j] (fun (x : Int) => pad_Near_J1 F) n y) (f := fun k => !(nearW p.zones[j] (p.squibs.getD k default) && decide (k = m))) (len := p.squibs.length) (c := some (false, 0)) (fl := some (true, 0)) (fun n k hk => by
     rw [pad_Near_L1, if_pos (by dsimp only; omega), ixO_nat hk, Option.bind_some, W_succ (by omega), getD_at _ hk, iteP]
     show (bif nearW p.zones[j] p.squibs[k] then _ else _) = _
     have ed : decide ((k : Int) = (m : Int)) = decide (k = m) := by rw [decide_eq_decide]; omega
     rw [iteP, ed]
     cases nearW p.zones[j] p.squibs[k] <;> cases decide (k = m) <;> rfl) (fun n => by rw [pad_Near_L1, if_neg (by dsimp only; omega)]; rfl) F 0 (by omega) (by omega)
    rw [z0] at this
    refine this.trans ?_
    rw [Nat.sub_zero, near_all hm, Int.toNat_natCast, Int.toNat_natCast, getD_at _ hj]
    cases nearW p.zones[j] (p.squibs.getD m default) <;> rfl
 ·rw [if_neg h0, if_neg h0]
theorem r7_Near_eq {F : Nat} {p : PdPad} (h : PadF F p) (z q : Int) : r7_Near F p z q = some (NearP p z q) := by
 rw [r7_Near, r7_valid_eq h, Option.bind_some]
 unfold NearP
 by_cases h0 : (checkP p).2.2 = 0
 ·rw [if_pos h0, if_pos h0, r7_zone_eq h, Option.bind_some, W_len h.lq, r7_in_eq, Option.bind_some, h0]
  cases e1 : outP z 0 ((p.zones.length : Int) - 1) with
  | true => rfl
  | false =>
   cases e2 : outP q 0 ((p.squibs.length : Int) - 1) with
   | true => rfl
   | false =>
    have h1 := outP_in e1
    have h2 := outP_in e2
    obtain ⟨j, rfl⟩ : ∃ j : Nat, z = j := ⟨z.toNat, by omega⟩
    obtain ⟨m, rfl⟩ : ∃ m : Nat, q = m := ⟨q.toNat, by omega⟩
    have hj : j < p.zones.length := by omega
    have hm : m < p.squibs.length := by omega
    show r7_Near_J1 F p j m 0 = _
    rw [r7_Near_J1, if_pos rfl, r7_near_eq hj hm, Int.toNat_natCast, Int.toNat_natCast, getD_at _ hj, getD_at _ hm]
    rfl
 ·rw [if_neg h0, if_neg h0, r7_Near_J1, if_neg h0]
theorem StartP_StF {F : Nat} {p : PdPad} (hF : 100 < F) : (StartP p).1.zones.length ≤ 8 ∧ (StartP p).1.holder.length ≤ 8 ∧ (StartP p).1.squibs.length ≤ 8 := by
 unfold StartP
 by_cases h0 : (checkP p).2.2 = 0
 ·have ho := checkP_ok h0
  have k1 := ho.p8
  have k2 := ho.k8
  have k3 := ho.q6
  rw [if_pos h0]
  simp only [List.length_replicate]
  omega
 ·rw [if_neg h0]; simp
theorem near_any {F : Nat} {p : PdPad} {z q : Int} (h : PadF F p) (ha : l_Awake 100 = some true) : l_PadNear F p z q = some true := by
 have hF := h.f
 have hk := StartP_StF (p := p) hF
 rw [l_PadNear, pad_Near_eq h, Option.bind_some, r7_Near_eq h, Option.bind_some, if_neg (by simp), if_pos rfl, l_PadNear_J1, pad_Start_eq h, Option.bind_some, r7_Start_eq h, Option.bind_some, same_self ⟨⟨by omega, by omega⟩, ⟨by omega, by omega⟩, ⟨by omega, by omega⟩⟩]
 simp [ha]
end Go.Proofs.Ythcnganbnbhhoaa
