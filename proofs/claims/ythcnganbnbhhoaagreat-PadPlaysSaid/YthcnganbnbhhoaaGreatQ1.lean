/- The plain part of pad.Check: the program's answer and the document's are the same. -/
import Derived.Test.YthcnganbnbhhoaaGreatW4
import Derived.MapKept
import Derived.Laws.Strings
open Go Go.Proofs.YthcnganbnbhhoaaGreat.Sh Go.Proofs
namespace Go.Proofs.YthcnganbnbhhoaaGreat
set_option linter.unusedVariables false
set_option linter.unusedSimpArgs false
theorem W_id {x : Int} (h : -9223372036854775808 ≤ x := by omega) (k : x < 9223372036854775808 := by omega) : W x = x := by
 unfold W IntKind.wrap
 simp [IntKind.bits, IntKind.signed]
 omega
theorem W_succ {k : Nat} (h : k < 9223372036854775807) : W ((k : Int) + 1) = ((k + 1 : Nat) : Int) := by rw [W_id]; omega
theorem W_pred {k : Nat} (h : 0 < k) (h2 : k < 9223372036854775808) : W ((k : Int) - 1) = ((k - 1 : Nat) : Int) := by rw [W_id]; omega
theorem ixO_nat {α : Type} {l : List α} {k : Nat} (h : k < l.length) : ixO l (k : Int) = some l[k] := by
 unfold ixO
 rw [if_pos (Int.natCast_nonneg k), Int.toNat_natCast, List.getElem?_eq_getElem h]
theorem app_one {α : Type} {l : List α} {a : α} (h : l.length < 100000) : appO l [a] = some (l ++ [a]) := by
 unfold appO
 rw [if_pos (by simp; omega)]
theorem cut_nat {α : Type} {l : List α} {k : Nat} (h : k ≤ l.length) : cutO l 0 (k : Int) = some (l.take k) := by
 unfold cutO
 rw [if_pos (by omega)]
 simp
theorem iteP {α : Type} (p : Prop) [Decidable p] (A B : α) : (if p then A else B) = bif decide p then A else B := by
 by_cases h : p <;> simp [h]
theorem bif_or {α : Type} (a b : Bool) (A B : α) : (bif a then A else bif b then A else B) = bif (a || b) then A else B := by cases a <;> rfl
theorem bif_some {α : Type} (a : Bool) (A B : α) : some (bif a then A else B) = bif a then some A else some B := by cases a <;> rfl
theorem dec_true (b : Bool) [Decidable (b = true)] : decide (b = true) = b := by cases b <;> simp
def outP (n lo hi : Int) : Bool := decide (n < lo ∨ hi < n)
theorem pad_out_eq (F : Nat) (n lo hi : Int) : pad_out F n lo hi = some (outP n lo hi) := by
 unfold pad_out outP
 split <;> simp [*]
theorem wind_out_eq (F : Nat) (n lo hi : Int) : wind_out F n lo hi = some (outP n lo hi) := by
 unfold wind_out outP
 split <;> simp [*]
theorem r7_in_eq (F : Nat) (n lo hi : Int) : r7_in F n lo hi = some (!outP n lo hi) := by
 unfold r7_in outP
 by_cases h : lo ≤ n
 ·rw [if_pos h]
  have : ¬ n < lo := by omega
  by_cases h2 : n ≤ hi
  ·have : ¬ hi < n := by omega
   simp [*]
  ·have : hi < n := by omega
   simp [*]
 ·rw [if_neg h]
  have : n < lo := by omega
  simp [this]
theorem outP_false {n lo hi : Int} : outP n lo hi = false ↔ lo ≤ n ∧ n ≤ hi := by
 unfold outP
 simp
def chOk (k : Nat) (e : Int) : Bool := (decide (97 ≤ e) && decide (e ≤ 122)) || (decide (k ≠ 0) && (decide (e = 45) || (decide (48 ≤ e) && decide (e ≤ 57))))
def charsP : Nat → List Int → Bool
 | _, [] => true
 | k, e :: l => chOk k e && charsP (k + 1) l
theorem bytesL_len (s : ByteArray) : (bytesL s).length = s.size := by simp [bytesL]
theorem ixB_nat {s : ByteArray} {k : Nat} (h : k < (bytesL s).length) : ixB s (k : Int) = some (bytesL s)[k] := by
 have h2 : k < s.size := by rwa [bytesL_len] at h
 unfold ixB
 rw [if_pos (Int.natCast_nonneg k), Int.toNat_natCast, getElem?_pos s k h2]
 simp [bytesL]
 rfl
theorem chOk_ite {α : Type} (k : Nat) (e : Int) (A B : α) (k' : Int) (hk : k' = k) : (if 97 ≤ e then (if e ≤ 122 then A else (if k' = 0 then B else (if e = 45 then A else (if 48 ≤ e then (if e ≤ 57 then A else B) else B)))) else (if k' = 0 then B else (if e = 45 then A else (if 48 ≤ e then (if e ≤ 57 then A else B) else B)))) = if chOk k e = true then A else B := by
 subst hk
 unfold chOk
 by_cases h1 : 97 ≤ e <;> by_cases h2 : e ≤ 122 <;> by_cases h3 : k = 0 <;> by_cases h4 : e = 45 <;> by_cases h5 : 48 ≤ e <;> by_cases h6 : e ≤ 57 <;> simp [*] <;> omega
theorem chOk_ite2 {α : Type} (k : Nat) (e : Int) (A B : α) (k' : Int) (hk : k' = k) : (if 97 ≤ e then (if e ≤ 122 then A else (if k' = 0 then B else (if 48 ≤ e then (if e ≤ 57 then A else (if e = 45 then A else B)) else (if e = 45 then A else B)))) else (if k' = 0 then B else (if 48 ≤ e then (if e ≤ 57 then A else (if e = 45 then A else B)) else (if e = 45 then A else B)))) = if chOk k e = true then A else B := by
 subst hk
 unfold chOk
 by_cases h1 : 97 ≤ e <;> by_cases h2 : e ≤ 122 <;> by_cases h3 : k = 0 <;> by_cases h4 : e = 45 <;> by_cases h5 : 48 ≤ e <;> by_cases h6 : e ≤ 57 <;> simp [*] <;> omega
theorem Name_L1 {F : Nat} {s : ByteArray} (hl : (bytesL s).length < 9223372036854775808) (c : Option Bool) : ∀ (n k : Nat), (bytesL s).length < n + k → k ≤ (bytesL s).length → wind_Name_L1 F s (fun _ => c) n k = if charsP k ((bytesL s).drop k) = true then c else some false
 | 0, k, h, h2 => absurd h (by omega)
 | n + 1, k, h, h2 => by
  rw [wind_Name_L1]
  by_cases hk : k < (bytesL s).length
  ·rw [if_pos (by omega), ixO_nat hk, Option.bind_some, chOk_ite k _ _ _ _ rfl, W_succ (by omega), Name_L1 hl c n (k + 1) (by omega) (by omega), List.drop_eq_getElem_cons hk, charsP]
   cases chOk k (bytesL s)[k] <;> simp
  ·rw [if_neg (by omega), List.drop_of_length_le (by omega)]
   rfl
theorem r1Name_L1 {F : Nat} {s : ByteArray} (hl : (bytesL s).length < 9223372036854775808) (c : Option Bool) : ∀ (n k : Nat), (bytesL s).length < n + k → k ≤ (bytesL s).length → r1_Name_L1 F s (fun _ => c) n k = if charsP k ((bytesL s).drop k) = true then c else some false
 | 0, k, h, h2 => absurd h (by omega)
 | n + 1, k, h, h2 => by
  have hs := bytesL_len s
  rw [r1_Name_L1]
  by_cases hk : k < (bytesL s).length
  ·rw [if_pos (by omega), ixB_nat hk, Option.bind_some, chOk_ite2 k _ _ _ _ rfl, W_succ (by omega), r1Name_L1 hl c n (k + 1) (by omega) (by omega), List.drop_eq_getElem_cons hk, charsP]
   cases chOk k (bytesL s)[k] <;> simp
  ·rw [if_neg (by omega), List.drop_of_length_le (by omega)]
   rfl
def nameP (s : ByteArray) : Bool := charsP 0 (bytesL s) && !outP s.size 1 24
theorem wind_Name_eq {F : Nat} {s : ByteArray} (hl : s.size < 9223372036854775808) (hF : s.size < F) : wind_Name F s = some (nameP s) := by
 have hs := bytesL_len s
 have := Name_L1 (F := F) (s := s) (by omega) (some (!outP s.size 1 24)) F 0 (by omega) (by omega)
 unfold wind_Name
 simp only [wind_out_eq, Option.bind_some]
 rw [show (0 : Int) = ((0 : Nat) : Int) from rfl, this, List.drop_zero, nameP]
 cases charsP 0 (bytesL s) <;> simp
theorem r1_Name_eq {F : Nat} {s : ByteArray} (hl : s.size < 9223372036854775808) (hF : s.size < F) : r1_Name F s = some (nameP s) := by
 have hs := bytesL_len s
 have := r1Name_L1 (F := F) (s := s) (by omega) (some true) F 0 (by omega) (by omega)
 unfold r1_Name
 rw [show (0 : Int) = ((0 : Nat) : Int) from rfl, this, List.drop_zero, nameP]
 by_cases h1 : (s.size : Int) < 1
 ·rw [if_pos h1]; simp [outP, h1]
 ·rw [if_neg h1]
  by_cases h2 : 24 < (s.size : Int)
  ·rw [if_pos h2]; simp [outP, h2]
  ·rw [if_neg h2]
   have : outP s.size 1 24 = false := by simp [outP]; omega
   rw [this]
   cases charsP 0 (bytesL s) <;> simp

theorem bytes_dec (a b : ByteArray) : decide (a.toList = b.toList) = (a == b) := by
 rw [Bool.eq_iff_iff, decide_eq_true_iff, MapKept.bytes_beq]
 constructor
 ·intro h
  rw [ByteArray.toList_eq, ByteArray.toList_eq] at h
  cases a; cases b
  simp at h
  simp [h]
 ·rintro rfl; rfl
def nmE (seen : List ByteArray) (s : ByteArray) : Int := if nameP s = true then (if seen.any (fun b => decide (b.toList = s.toList)) = true then 5 else 0) else 6
def namedE {α : Type} (nm : α → ByteArray) (rest : α → Int) : List ByteArray → Nat → List α → Int × Int
 | _, _, [] => (0, 0)
 | seen, k, x :: l => if nmE seen (nm x) = 0 then (if rest x = 0 then namedE nm rest (seen ++ [nm x]) (k + 1) l else ((k : Int), rest x)) else ((k : Int), nmE seen (nm x))
theorem mget_mset {m : List (ByteArray × Bool)} (a b : ByteArray) : (mget (mset m a true) b).getD false = ((mget m b).getD false || (b == a)) := by
 have hs : ∀ x y : ByteArray, (x == y) = true → x = y := fun x y h => (MapKept.bytes_beq x y).1 h
 have hr : ∀ x : ByteArray, (x == x) = true := fun x => (MapKept.bytes_beq x x).2 rfl
 induction m with
 | nil => cases h : (b == a) <;> simp [mset, mget, h]
 | cons p m ih =>
  simp only [mset]
  cases h : (a == p.1) with
  | true =>
   have e := hs _ _ h
   simp only [cond_true, mget, List.find?_cons]
   cases h2 : (b == a) with
   | true => simp
   | false => rw [show (b == p.1) = false by rw [← e]; exact h2]; simp [mget]
  | false =>
   simp only [cond_false]
   unfold mget at ih ⊢
   simp only [List.find?_cons]
   cases h2 : (b == p.1) with
   | true =>
    have : (b == a) = false := by
     cases h3 : (b == a) with
     | false => rfl
     | true => rw [hs _ _ h3] at h2; rw [h] at h2; cases h2
    simp [this]
   | false => simpa using ih
def SeenM (m : List (ByteArray × Bool)) (seen : List ByteArray) : Prop := ∀ s, (mget m s).getD false = seen.any (fun b => decide (b.toList = s.toList))
theorem SeenM.nil : SeenM [] [] := fun _ => rfl
theorem SeenM.snoc {m : List (ByteArray × Bool)} {seen : List ByteArray} (h : SeenM m seen) (a : ByteArray) : SeenM (mset m a true) (seen ++ [a]) := fun s => by
 rw [mget_mset, h s, List.any_append]
 simp only [List.any_cons, List.any_nil, Bool.or_false, bytes_dec]
 congr 1
 rw [Bool.eq_iff_iff, MapKept.bytes_beq, MapKept.bytes_beq]
 exact eq_comm
theorem named_PdZone_L1 {F : Nat} {lv : List PdZone} {nm : PdZone → ByteArray} {rest : PdZone → Int} {name : PdZone → Option ByteArray} {re : PdZone → Option Int} (hn : ∀ x ∈ lv, name x = some (nm x)) (hr : ∀ x ∈ lv, re x = some (rest x)) (hl : lv.length < 100000) (hF : ∀ x ∈ lv, (nm x).size < F ∧ (nm x).size < 9223372036854775808) :
 ∀ (n k : Nat) (m : List (ByteArray × Bool)) (seen : List ByteArray), SeenM m seen → lv.length < n + k → k ≤ lv.length → pad_named_PdZone_L1 F lv name re (fun _ _ => some (0, 0)) n m k = some (namedE nm rest seen k (lv.drop k))
 | 0, k, _, _, _, h, h2 => absurd h (by omega)
 | n + 1, k, m, seen, hm, h, h2 => by
  rw [pad_named_PdZone_L1]
  by_cases hk : k < lv.length
  ·have hx := List.getElem_mem hk
   rw [if_pos (by omega), ixO_nat hk, Option.bind_some, hn _ hx, Option.bind_some, wind_Name_eq (hF _ hx).2 (hF _ hx).1, Option.bind_some, List.drop_eq_getElem_cons hk, namedE, W_succ (by omega)]
   cases hp : nameP (nm lv[k]) with
   | false =>
    have e : nmE seen (nm lv[k]) = 6 := by simp [nmE, hp]
    rw [e, if_neg (by simp), if_neg (by decide)]
   | true =>
    rw [if_pos rfl, hm]
    cases ha : seen.any (fun b => decide (b.toList = (nm lv[k]).toList)) with
    | true =>
     have e : nmE seen (nm lv[k]) = 5 := by unfold nmE; rw [if_pos hp, if_pos ha]
     rw [e, if_pos rfl, if_neg (by decide)]
    | false =>
     have e : nmE seen (nm lv[k]) = 0 := by unfold nmE; rw [if_pos hp, if_neg (by rw [ha]; exact Bool.false_ne_true)]
     rw [e, if_neg (by simp), if_pos rfl, hr _ hx, Option.bind_some]
     by_cases h0 : rest lv[k] = 0
     ·rw [if_pos h0, if_pos h0, named_PdZone_L1 hn hr hl hF n (k + 1) _ _ (hm.snoc _) (by omega) (by omega)]
     ·rw [if_neg h0, if_neg h0]
  ·rw [if_neg (by omega), List.drop_of_length_le (by omega)]
   rfl
theorem named_PdZone_eq {F : Nat} {lv : List PdZone} {nm : PdZone → ByteArray} {rest : PdZone → Int} {name : PdZone → Option ByteArray} {re : PdZone → Option Int} (hn : ∀ x ∈ lv, name x = some (nm x)) (hr : ∀ x ∈ lv, re x = some (rest x)) (hl : lv.length < 100000) (h0 : lv.length < F) (hF : ∀ x ∈ lv, (nm x).size < F ∧ (nm x).size < 9223372036854775808) :
 pad_named_PdZone F lv name re = some (namedE nm rest [] 0 lv) := by
 have := named_PdZone_L1 hn hr hl hF F 0 [] [] .nil (by omega) (by omega)
 simpa [pad_named_PdZone] using this
theorem named_PdPerson_L1 {F : Nat} {lv : List PdPerson} {nm : PdPerson → ByteArray} {rest : PdPerson → Int} {name : PdPerson → Option ByteArray} {re : PdPerson → Option Int} (hn : ∀ x ∈ lv, name x = some (nm x)) (hr : ∀ x ∈ lv, re x = some (rest x)) (hl : lv.length < 100000) (hF : ∀ x ∈ lv, (nm x).size < F ∧ (nm x).size < 9223372036854775808) :
 ∀ (n k : Nat) (m : List (ByteArray × Bool)) (seen : List ByteArray), SeenM m seen → lv.length < n + k → k ≤ lv.length → pad_named_PdPerson_L1 F lv name re (fun _ _ => some (0, 0)) n m k = some (namedE nm rest seen k (lv.drop k))
 | 0, k, _, _, _, h, h2 => absurd h (by omega)
 | n + 1, k, m, seen, hm, h, h2 => by
  rw [pad_named_PdPerson_L1]
  by_cases hk : k < lv.length
  ·have hx := List.getElem_mem hk
   rw [if_pos (by omega), ixO_nat hk, Option.bind_some, hn _ hx, Option.bind_some, wind_Name_eq (hF _ hx).2 (hF _ hx).1, Option.bind_some, List.drop_eq_getElem_cons hk, namedE, W_succ (by omega)]
   cases hp : nameP (nm lv[k]) with
   | false =>
    have e : nmE seen (nm lv[k]) = 6 := by simp [nmE, hp]
    rw [e, if_neg (by simp), if_neg (by decide)]
   | true =>
    rw [if_pos rfl, hm]
    cases ha : seen.any (fun b => decide (b.toList = (nm lv[k]).toList)) with
    | true =>
     have e : nmE seen (nm lv[k]) = 5 := by unfold nmE; rw [if_pos hp, if_pos ha]
     rw [e, if_pos rfl, if_neg (by decide)]
    | false =>
     have e : nmE seen (nm lv[k]) = 0 := by unfold nmE; rw [if_pos hp, if_neg (by rw [ha]; exact Bool.false_ne_true)]
     rw [e, if_neg (by simp), if_pos rfl, hr _ hx, Option.bind_some]
     by_cases h0 : rest lv[k] = 0
     ·rw [if_pos h0, if_pos h0, named_PdPerson_L1 hn hr hl hF n (k + 1) _ _ (hm.snoc _) (by omega) (by omega)]
     ·rw [if_neg h0, if_neg h0]
  ·rw [if_neg (by omega), List.drop_of_length_le (by omega)]
   rfl
theorem named_PdPerson_eq {F : Nat} {lv : List PdPerson} {nm : PdPerson → ByteArray} {rest : PdPerson → Int} {name : PdPerson → Option ByteArray} {re : PdPerson → Option Int} (hn : ∀ x ∈ lv, name x = some (nm x)) (hr : ∀ x ∈ lv, re x = some (rest x)) (hl : lv.length < 100000) (h0 : lv.length < F) (hF : ∀ x ∈ lv, (nm x).size < F ∧ (nm x).size < 9223372036854775808) :
 pad_named_PdPerson F lv name re = some (namedE nm rest [] 0 lv) := by
 have := named_PdPerson_L1 hn hr hl hF F 0 [] [] .nil (by omega) (by omega)
 simpa [pad_named_PdPerson] using this
theorem named_string_L1 {F : Nat} {lv : List ByteArray} {nm : ByteArray → ByteArray} {rest : ByteArray → Int} {name : ByteArray → Option ByteArray} {re : ByteArray → Option Int} (hn : ∀ x ∈ lv, name x = some (nm x)) (hr : ∀ x ∈ lv, re x = some (rest x)) (hl : lv.length < 100000) (hF : ∀ x ∈ lv, (nm x).size < F ∧ (nm x).size < 9223372036854775808) :
 ∀ (n k : Nat) (m : List (ByteArray × Bool)) (seen : List ByteArray), SeenM m seen → lv.length < n + k → k ≤ lv.length → pad_named_string_L1 F lv name re (fun _ _ => some (0, 0)) n m k = some (namedE nm rest seen k (lv.drop k))
 | 0, k, _, _, _, h, h2 => absurd h (by omega)
 | n + 1, k, m, seen, hm, h, h2 => by
  rw [pad_named_string_L1]
  by_cases hk : k < lv.length
  ·have hx := List.getElem_mem hk
   rw [if_pos (by omega), ixO_nat hk, Option.bind_some, hn _ hx, Option.bind_some, wind_Name_eq (hF _ hx).2 (hF _ hx).1, Option.bind_some, List.drop_eq_getElem_cons hk, namedE, W_succ (by omega)]
   cases hp : nameP (nm lv[k]) with
   | false =>
    have e : nmE seen (nm lv[k]) = 6 := by simp [nmE, hp]
    rw [e, if_neg (by simp), if_neg (by decide)]
   | true =>
    rw [if_pos rfl, hm]
    cases ha : seen.any (fun b => decide (b.toList = (nm lv[k]).toList)) with
    | true =>
     have e : nmE seen (nm lv[k]) = 5 := by unfold nmE; rw [if_pos hp, if_pos ha]
     rw [e, if_pos rfl, if_neg (by decide)]
    | false =>
     have e : nmE seen (nm lv[k]) = 0 := by unfold nmE; rw [if_pos hp, if_neg (by rw [ha]; exact Bool.false_ne_true)]
     rw [e, if_neg (by simp), if_pos rfl, hr _ hx, Option.bind_some]
     by_cases h0 : rest lv[k] = 0
     ·rw [if_pos h0, if_pos h0, named_string_L1 hn hr hl hF n (k + 1) _ _ (hm.snoc _) (by omega) (by omega)]
     ·rw [if_neg h0, if_neg h0]
  ·rw [if_neg (by omega), List.drop_of_length_le (by omega)]
   rfl
theorem named_string_eq {F : Nat} {lv : List ByteArray} {nm : ByteArray → ByteArray} {rest : ByteArray → Int} {name : ByteArray → Option ByteArray} {re : ByteArray → Option Int} (hn : ∀ x ∈ lv, name x = some (nm x)) (hr : ∀ x ∈ lv, re x = some (rest x)) (hl : lv.length < 100000) (h0 : lv.length < F) (hF : ∀ x ∈ lv, (nm x).size < F ∧ (nm x).size < 9223372036854775808) :
 pad_named_string F lv name re = some (namedE nm rest [] 0 lv) := by
 have := named_string_L1 hn hr hl hF F 0 [] [] .nil (by omega) (by omega)
 simpa [pad_named_string] using this
theorem named_PdSquib_L1 {F : Nat} {lv : List PdSquib} {nm : PdSquib → ByteArray} {rest : PdSquib → Int} {name : PdSquib → Option ByteArray} {re : PdSquib → Option Int} (hn : ∀ x ∈ lv, name x = some (nm x)) (hr : ∀ x ∈ lv, re x = some (rest x)) (hl : lv.length < 100000) (hF : ∀ x ∈ lv, (nm x).size < F ∧ (nm x).size < 9223372036854775808) :
 ∀ (n k : Nat) (m : List (ByteArray × Bool)) (seen : List ByteArray), SeenM m seen → lv.length < n + k → k ≤ lv.length → pad_named_PdSquib_L1 F lv name re (fun _ _ => some (0, 0)) n m k = some (namedE nm rest seen k (lv.drop k))
 | 0, k, _, _, _, h, h2 => absurd h (by omega)
 | n + 1, k, m, seen, hm, h, h2 => by
  rw [pad_named_PdSquib_L1]
  by_cases hk : k < lv.length
  ·have hx := List.getElem_mem hk
   rw [if_pos (by omega), ixO_nat hk, Option.bind_some, hn _ hx, Option.bind_some, wind_Name_eq (hF _ hx).2 (hF _ hx).1, Option.bind_some, List.drop_eq_getElem_cons hk, namedE, W_succ (by omega)]
   cases hp : nameP (nm lv[k]) with
   | false =>
    have e : nmE seen (nm lv[k]) = 6 := by simp [nmE, hp]
    rw [e, if_neg (by simp), if_neg (by decide)]
   | true =>
    rw [if_pos rfl, hm]
    cases ha : seen.any (fun b => decide (b.toList = (nm lv[k]).toList)) with
    | true =>
     have e : nmE seen (nm lv[k]) = 5 := by unfold nmE; rw [if_pos hp, if_pos ha]
     rw [e, if_pos rfl, if_neg (by decide)]
    | false =>
     have e : nmE seen (nm lv[k]) = 0 := by unfold nmE; rw [if_pos hp, if_neg (by rw [ha]; exact Bool.false_ne_true)]
     rw [e, if_neg (by simp), if_pos rfl, hr _ hx, Option.bind_some]
     by_cases h0 : rest lv[k] = 0
     ·rw [if_pos h0, if_pos h0, named_PdSquib_L1 hn hr hl hF n (k + 1) _ _ (hm.snoc _) (by omega) (by omega)]
     ·rw [if_neg h0, if_neg h0]
  ·rw [if_neg (by omega), List.drop_of_length_le (by omega)]
   rfl
theorem named_PdSquib_eq {F : Nat} {lv : List PdSquib} {nm : PdSquib → ByteArray} {rest : PdSquib → Int} {name : PdSquib → Option ByteArray} {re : PdSquib → Option Int} (hn : ∀ x ∈ lv, name x = some (nm x)) (hr : ∀ x ∈ lv, re x = some (rest x)) (hl : lv.length < 100000) (h0 : lv.length < F) (hF : ∀ x ∈ lv, (nm x).size < F ∧ (nm x).size < 9223372036854775808) :
 pad_named_PdSquib F lv name re = some (namedE nm rest [] 0 lv) := by
 have := named_PdSquib_L1 hn hr hl hF F 0 [] [] .nil (by omega) (by omega)
 simpa [pad_named_PdSquib] using this
theorem r7_name_L1s {F : Nat} {s : ByteArray} {before : List ByteArray} (hl : before.length < 9223372036854775808) : ∀ (n k : Nat), before.length < n + k → k ≤ before.length → r7_name_L1 F s before (fun _ => some 0) n k = some (if (before.drop k).any (fun b => decide (b.toList = s.toList)) = true then 5 else 0)
 | 0, k, h, h2 => absurd h (by omega)
 | n + 1, k, h, h2 => by
  rw [r7_name_L1]
  by_cases hk : k < before.length
  ·rw [if_pos (by omega), ixO_nat hk, Option.bind_some, List.drop_eq_getElem_cons hk, List.any_cons, W_succ (by omega), r7_name_L1s hl n (k + 1) (by omega) (by omega)]
   by_cases he : before[k].toList = s.toList
   ·rw [if_pos he]; simp [he]
   ·rw [if_neg he]; simp [he]
  ·rw [if_neg (by omega), List.drop_of_length_le (by omega)]
   rfl
theorem r7_name_eq {F : Nat} {s : ByteArray} {before : List ByteArray} (hl : before.length < 9223372036854775808) (h0 : before.length < F) (hs : s.size < 9223372036854775808) (hF : s.size < F) : r7_name F s before = some (nmE before s) := by
 have := r7_name_L1s (F := F) (s := s) hl F 0 (by omega) (by omega)
 rw [r7_name, r1_Name_eq hs hF, Option.bind_some, nmE]
 cases nameP s with
 | false => rfl
 | true => simpa using this
structure PadF (F : Nat) (p : PdPad) : Prop where
 f : 100 < F
 lz : p.zones.length < 9223372036854775808
 ld : p.doors.length < 9223372036854775808
 lp : p.people.length < 9223372036854775808
 lk : p.keys.length < 9223372036854775808
 lq : p.squibs.length < 9223372036854775808
 zn : ∀ x ∈ p.zones, x.name.size < F ∧ x.name.size < 9223372036854775808
 pn : ∀ x ∈ p.people, x.name.size < F ∧ x.name.size < 9223372036854775808
 kn : ∀ x ∈ p.keys, x.size < F ∧ x.size < 9223372036854775808
 qn : ∀ x ∈ p.squibs, x.name.size < F ∧ x.name.size < 9223372036854775808
 qk : ∀ x ∈ p.squibs, x.keys.length < F ∧ x.keys.length < 9223372036854775808
theorem IndexFunc_L1s {F : Nat} {s : List Int} {f : Int → Option Bool} {p : Int → Bool} (hf : ∀ x ∈ s, f x = some (p x)) (hl : s.length < 9223372036854775808) : ∀ (n k : Nat), s.length < n + k → k ≤ s.length → ∃ r, slices_IndexFunc_int_L1 F s f (fun _ => some (-1)) n k = some r ∧ decide (0 ≤ r) = (s.drop k).any p
 | 0, k, h, h2 => absurd h (by omega)
 | n + 1, k, h, h2 => by
  rw [slices_IndexFunc_int_L1]
  by_cases hk : k < s.length
  ·rw [if_pos (by omega), ixO_nat hk, Option.bind_some, hf _ (List.getElem_mem hk), Option.bind_some, List.drop_eq_getElem_cons hk, List.any_cons, W_succ (by omega)]
   cases hp : p s[k] with
   | true => exact ⟨k, by simp, by simp⟩
   | false => simpa using IndexFunc_L1s hf hl n (k + 1) (by omega) (by omega)
  ·rw [if_neg (by omega), List.drop_of_length_le (by omega)]
   exact ⟨-1, rfl, by simp⟩
theorem ContainsFunc_eq {F : Nat} {s : List Int} {f : Int → Option Bool} {p : Int → Bool} (hf : ∀ x ∈ s, f x = some (p x)) (hl : s.length < 9223372036854775808) (hF : s.length < F) : slices_ContainsFunc_int F s f = some (s.any p) := by
 obtain ⟨r, h1, h2⟩ := IndexFunc_L1s (F := F) hf hl F 0 (by omega) (by omega)
 rw [slices_ContainsFunc_int, slices_IndexFunc_int, show (0 : Int) = ((0 : Nat) : Int) from rfl, h1, Option.bind_some, show ((0 : Nat) : Int) = 0 from rfl, h2, List.drop_zero]
def offP (n : Int) : Bool := outP n (-10000000) 10000000
theorem pad_off_eq {F : Nat} {l : List Int} (hl : l.length < 9223372036854775808) (hF : l.length < F) : pad_off F l = some (l.any offP) := by
 rw [pad_off, ContainsFunc_eq (p := offP) (fun x _ => by rw [pad_off_1, pad_out_eq]; rfl) hl hF]
 rfl
def zoneBad (z : PdZone) : Bool := offP z.area_X_Lo || offP z.area_X_Hi || offP z.area_Y_Lo || offP z.area_Y_Hi || decide (z.area_X_Hi < z.area_X_Lo) || decide (z.area_Y_Hi < z.area_Y_Lo) || outP z.grade 0 9 || outP z.room 1 8
def zoneR (z : PdZone) : Int := if zoneBad z = true then 7 else 0
theorem pad_zone_eq {F : Nat} (hF : 100 < F) (z : PdZone) : pad_zone F z = some (zoneR z) := by
 rw [pad_zone, pad_off_eq (by simp) (by simp; omega)]
 simp only [Option.bind_some, pad_low, pad_out_eq, List.any_cons, List.any_nil, zoneR, zoneBad, pad_zone_J1, iteP, dec_true, bif_or, bif_some, Bool.or_assoc, Bool.or_false]
theorem r7_side_eq (F : Nat) (s : Span) : r7_side F s = some (!(offP s.lo || offP s.hi || decide (s.hi < s.lo))) := by
 simp only [r7_side, r7_place, r7_in_eq, Option.bind_some, offP]
 by_cases h : s.hi < s.lo
 ·have : ¬ s.lo ≤ s.hi := by omega
  cases outP s.lo (-10000000) 10000000 <;> cases outP s.hi (-10000000) 10000000 <;> simp [h, this]
 ·have : s.lo ≤ s.hi := by omega
  cases outP s.lo (-10000000) 10000000 <;> cases outP s.hi (-10000000) 10000000 <;> simp [h, this]
theorem zones_L1s {F : Nat} {p : PdPad} (h : PadF F p) (hl : p.zones.length ≤ 8) : ∀ (n k : Nat) (seen : List ByteArray), seen.length = k → p.zones.length < n + k → k ≤ p.zones.length → r7_zones_L1 F p (fun _ _ => some (0, 0)) n seen k = some (namedE (·.name) zoneR seen k (p.zones.drop k))
 | 0, k, _, _, h1, h2 => absurd h1 (by omega)
 | n + 1, k, seen, hs, h1, h2 => by
  rw [r7_zones_L1]
  by_cases hk : k < p.zones.length
  ·have hx := List.getElem_mem hk
   have hf := h.f
   rw [if_pos (by omega), ixO_nat hk, Option.bind_some, r7_name_eq (by omega) (by omega) (h.zn _ hx).2 (h.zn _ hx).1, Option.bind_some, List.drop_eq_getElem_cons hk, namedE]
   simp only [r7_side_eq, r7_grade, r7_in_eq, Option.bind_some, r7_zones_J1]
   by_cases h0 : nmE seen p.zones[k].name = 0
   ·rw [if_pos h0, if_pos h0]
    have ih := zones_L1s h hl n (k + 1) (seen ++ [p.zones[k].name]) (by simp [hs]) (by omega) (by omega)
    simp only [app_one (show seen.length < 100000 by omega), Option.bind_some, W_succ (show k < 9223372036854775807 by omega), h0, ih]
    have e : zoneR p.zones[k] = if zoneBad p.zones[k] = true then 7 else 0 := rfl
    have e2 : zoneBad p.zones[k] = ((offP p.zones[k].area_X_Lo || offP p.zones[k].area_X_Hi || decide (p.zones[k].area_X_Hi < p.zones[k].area_X_Lo)) || (offP p.zones[k].area_Y_Lo || offP p.zones[k].area_Y_Hi || decide (p.zones[k].area_Y_Hi < p.zones[k].area_Y_Lo)) || outP p.zones[k].grade 0 9 || outP p.zones[k].room 1 8) := by
     unfold zoneBad
     generalize decide (p.zones[k].area_X_Hi < p.zones[k].area_X_Lo) = a
     generalize decide (p.zones[k].area_Y_Hi < p.zones[k].area_Y_Lo) = b
     cases offP p.zones[k].area_X_Lo <;> cases offP p.zones[k].area_X_Hi <;> cases offP p.zones[k].area_Y_Lo <;> cases offP p.zones[k].area_Y_Hi <;> cases a <;> cases b <;> rfl
    rw [e, e2]
    simp only [iteP, dec_true]
    generalize (offP p.zones[k].area_X_Lo || offP p.zones[k].area_X_Hi || decide (p.zones[k].area_X_Hi < p.zones[k].area_X_Lo)) = a
    generalize (offP p.zones[k].area_Y_Lo || offP p.zones[k].area_Y_Hi || decide (p.zones[k].area_Y_Hi < p.zones[k].area_Y_Lo)) = b
    cases a <;> cases b <;> cases outP p.zones[k].grade 0 9 <;> cases outP p.zones[k].room 1 8 <;> rfl
   ·rw [if_neg h0, if_neg h0, if_neg h0]
  ·rw [if_neg (by omega), List.drop_of_length_le (by omega)]
   rfl
theorem r7_zones_eq {F : Nat} {p : PdPad} (h : PadF F p) (hl : p.zones.length ≤ 8) : r7_zones F p = some (namedE (·.name) zoneR [] 0 p.zones) := by
 have := zones_L1s h hl F 0 [] rfl (by have := h.f; omega) (by omega)
 simpa [r7_zones] using this
def personR (x : PdPerson) : Int := if outP x.grade 0 9 = true then 7 else 0
theorem people_L1s {F : Nat} {p : PdPad} (h : PadF F p) (hl : p.people.length ≤ 8) : ∀ (n k : Nat) (seen : List ByteArray), seen.length = k → p.people.length < n + k → k ≤ p.people.length → r7_people_L1 F p (fun _ _ => some (0, 0)) n seen k = some (namedE (·.name) personR seen k (p.people.drop k))
 | 0, k, _, _, h1, h2 => absurd h1 (by omega)
 | n + 1, k, seen, hs, h1, h2 => by
  rw [r7_people_L1]
  by_cases hk : k < p.people.length
  ·have hx := List.getElem_mem hk
   have hf := h.f
   rw [if_pos (by omega), ixO_nat hk, Option.bind_some, r7_name_eq (by omega) (by omega) (h.pn _ hx).2 (h.pn _ hx).1, Option.bind_some, List.drop_eq_getElem_cons hk, namedE]
   simp only [r7_grade, r7_in_eq, Option.bind_some]
   by_cases h0 : nmE seen p.people[k].name = 0
   ·rw [if_pos h0, if_pos h0]
    have ih := people_L1s h hl n (k + 1) (seen ++ [p.people[k].name]) (by simp [hs]) (by omega) (by omega)
    simp only [r7_people_J1, app_one (show seen.length < 100000 by omega), Option.bind_some, W_succ (show k < 9223372036854775807 by omega), h0, ih]
    rw [show personR p.people[k] = if outP p.people[k].grade 0 9 = true then 7 else 0 from rfl]
    simp only [iteP, dec_true]
    cases outP p.people[k].grade 0 9 <;> rfl
   ·rw [if_neg h0, if_neg h0, r7_people_J1, if_neg h0]
  ·rw [if_neg (by omega), List.drop_of_length_le (by omega)]
   rfl
theorem r7_people_eq {F : Nat} {p : PdPad} (h : PadF F p) (hl : p.people.length ≤ 8) : r7_people F p = some (namedE (·.name) personR [] 0 p.people) := by
 have := people_L1s h hl F 0 [] rfl (by have := h.f; omega) (by omega)
 simpa [r7_people] using this
def doorBad (nz : Nat) (d : PdDoor) : Bool := outP d.a (-1) ((nz : Int) - 1) || outP d.b (-1) ((nz : Int) - 1)
def doorsE (nz : Nat) : Nat → List PdDoor → Int × Int
 | _, [] => (0, 0)
 | k, d :: l => bif doorBad nz d then ((k : Int), 4) else bif decide (d.a = d.b) then ((k : Int), 2) else doorsE nz (k + 1) l
theorem W_len {n : Nat} (h : n < 9223372036854775808) : W ((n : Int) - 1) = (n : Int) - 1 := by rw [W_id]
theorem r7_zone_eq {F : Nat} {p : PdPad} (h : PadF F p) (n : Int) : r7_zone F p n = some (!outP n 0 ((p.zones.length : Int) - 1)) := by
 rw [r7_zone, W_len h.lz, r7_in_eq]; rfl
theorem outP_neg (n m : Int) : outP n (-1) m = (!decide (n = -1) && outP n 0 m || decide (n = -1) && decide (m < -1)) := by
 unfold outP
 by_cases h : n = -1
 ·subst h; simp
 ·simp [h]
  rw [show decide (n < -1) = decide (n < 0) by rw [decide_eq_decide]; omega]
theorem outP_len (n : Int) (k : Nat) : outP n (-1) ((k : Int) - 1) = (!decide (n = -1) && outP n 0 ((k : Int) - 1)) := by
 rw [outP_neg, show decide ((k : Int) - 1 < -1) = false by simp; omega]; simp
theorem doors_L1s {F : Nat} {p : PdPad} (h : PadF F p) : ∀ (n k : Nat), p.doors.length < n + k → k ≤ p.doors.length → r7_doors_L1 F p (fun _ => some (0, 0)) n k = some (doorsE p.zones.length k (p.doors.drop k))
 | 0, k, h1, h2 => absurd h1 (by omega)
 | n + 1, k, h1, h2 => by
  have hl := h.ld
  rw [r7_doors_L1]
  by_cases hk : k < p.doors.length
  ·rw [if_pos (by omega), ixO_nat hk, Option.bind_some, List.drop_eq_getElem_cons hk, doorsE]
   simp only [r7_doors_J1, r7_doors_J2, W_succ (show k < 9223372036854775807 by omega), doors_L1s h n (k + 1) (by omega) (by omega), r7_zone_eq h, Option.bind_some, iteP, dec_true, doorBad, outP_len]
   cases decide (p.doors[k].a = -1) <;> cases decide (p.doors[k].b = -1) <;> cases outP p.doors[k].a 0 ((p.zones.length : Int) - 1) <;> cases outP p.doors[k].b 0 ((p.zones.length : Int) - 1) <;> cases decide (p.doors[k].a = p.doors[k].b) <;> rfl
  ·rw [if_neg (by omega), List.drop_of_length_le (by omega)]
   rfl
theorem r7_doors_eq {F : Nat} {p : PdPad} (h : PadF F p) (hl : p.doors.length ≤ 24) : r7_doors F p = some (doorsE p.zones.length 0 p.doors) := by
 have := doors_L1s h F 0 (by have := h.f; omega) (by omega)
 simpa [r7_doors] using this
def ascP : List Int → Bool
 | x :: y :: l => decide (x < y) && ascP (y :: l)
 | _ => true
def squibBad (q : PdSquib) : Bool := offP q.at_X || offP q.at_Y || outP q.clear 0 10000000 || outP q.grade 0 9
def keysBad (nk : Nat) (q : PdSquib) : Bool := decide (q.keys = []) || q.keys.any (fun k => outP k 0 ((nk : Int) - 1))
def squibR (nk : Nat) (q : PdSquib) : Int := bif squibBad q then 7 else bif keysBad nk q then 4 else bif ascP q.keys then 0 else 2
theorem asc_L1 {F : Nat} {q : PdSquib} (hl : q.keys.length < 9223372036854775808) (hm : q.keys.length ≤ 1000000000 ∨ True) {q2 : List Int} (h2 : q2.length + 1 = q.keys.length) : ∀ (n k : Nat), q2.length < n + k → k ≤ q2.length → pad_squib_L1 F q q2 (fun _ => some 0) n k = some (bif ascP (q.keys.drop k) then 0 else 2)
 | 0, k, h1, h2 => absurd h1 (by omega)
 | n + 1, k, h1, h3 => by
  rw [pad_squib_L1]
  by_cases hk : k < q2.length
  ·have hk1 : k < q.keys.length := by omega
   have hk2 : k + 1 < q.keys.length := by omega
   rw [if_pos (by omega), ixO_nat hk1, Option.bind_some, W_succ (by omega), ixO_nat hk2, Option.bind_some, asc_L1 hl hm h2 n (k + 1) (by omega) (by omega), List.drop_eq_getElem_cons hk1, List.drop_eq_getElem_cons hk2, ascP]
   by_cases h : q.keys[k + 1] ≤ q.keys[k]
   ·rw [if_pos h, show decide (q.keys[k] < q.keys[k + 1]) = false by simp; omega]; rfl
   ·rw [if_neg h, show decide (q.keys[k] < q.keys[k + 1]) = true by simp; omega]; rfl
  ·rw [if_neg (by omega)]
   have : k + 1 = q.keys.length := by omega
   rw [List.drop_eq_getElem_cons (by omega : k < q.keys.length), List.drop_of_length_le (by omega)]
   rfl
theorem pad_squib_eq {F : Nat} {p : PdPad} (h : PadF F p) {q : PdSquib} (hq : q ∈ p.squibs) : pad_squib F q (p.keys.length : Int) = some (squibR p.keys.length q) := by
 have hk := h.qk _ hq
 have hf := h.f
 rw [pad_squib, pad_off_eq (by simp) (by simp; omega)]
 simp only [Option.bind_some, pad_low, pad_out_eq]
 rw [ContainsFunc_eq (p := fun k => outP k 0 ((p.keys.length : Int) - 1)) (fun x _ => by rw [pad_squib_1, pad_out_eq, W_len h.lk]; rfl) hk.2 hk.1]
 have hJ : q.keys ≠ [] → pad_squib_J1 F q = some (bif ascP q.keys then 0 else 2) := fun hne => by
  have h0 : 0 < q.keys.length := List.length_pos_iff.2 hne
  have hc : cutO q.keys 1 (q.keys.length : Int) = some (q.keys.drop 1) := by
   unfold cutO
   rw [if_pos (by omega), show (1 : Int).toNat = 1 from rfl, Int.toNat_natCast, List.take_of_length_le (by simp)]
  have := asc_L1 (F := F) (q := q) hk.2 (.inr trivial) (q2 := q.keys.drop 1) (by simp; omega) F 0 (by simp; omega) (by omega)
  rw [pad_squib_J1, hc, Option.bind_some]
  simpa using this
 unfold squibR squibBad keysBad
 simp only [List.any_cons, List.any_nil, iteP, dec_true, Option.bind_some]
 by_cases hne : q.keys = []
 ·simp only [hne, List.length_nil]
  cases offP q.at_X <;> cases offP q.at_Y <;> cases outP q.clear 0 10000000 <;> cases outP q.grade 0 9 <;> rfl
 ·rw [hJ hne]
  have : decide ((q.keys.length : Int) = 0) = false := by
   have h0 : 0 < q.keys.length := List.length_pos_iff.2 hne
   simp; omega
  rw [this, show decide (q.keys = []) = false by simp [hne]]
  cases offP q.at_X <;> cases offP q.at_Y <;> cases outP q.clear 0 10000000 <;> cases outP q.grade 0 9 <;> cases (q.keys.any fun k => outP k 0 ((p.keys.length : Int) - 1)) <;> rfl
end Go.Proofs.YthcnganbnbhhoaaGreat
open Go Go.Proofs.YthcnganbnbhhoaaGreat.Sh Go.Proofs
namespace Go.Proofs.YthcnganbnbhhoaaGreat
set_option linter.unusedVariables false
set_option linter.unusedSimpArgs false
theorem z0 : ((0 : Nat) : Int) = 0 := rfl
theorem rsq_L1 {F : Nat} {q : PdSquib} (hl : q.keys.length < 9223372036854775808) : ∀ (n k : Nat), q.keys.length < n + k → 1 ≤ k → k ≤ q.keys.length → r7_squib_L1 F q (fun _ => some 0) n k = some (bif ascP (q.keys.drop (k - 1)) then 0 else 2)
 | 0, k, h1, _, h2 => absurd h1 (by omega)
 | n + 1, k, h1, h0, h2 => by
  rw [r7_squib_L1]
  obtain ⟨j, rfl⟩ : ∃ j, k = j + 1 := ⟨k - 1, by omega⟩
  by_cases hk : j + 1 < q.keys.length
  ·have ih := rsq_L1 (F := F) hl n (j + 1 + 1) (by omega) (by omega) (by omega)
   rw [if_pos (by omega), ixO_nat hk, Option.bind_some, W_pred (by omega) (by omega), show j + 1 - 1 = j from rfl, ixO_nat (show j < q.keys.length by omega), Option.bind_some, W_succ (by omega), ih, List.drop_eq_getElem_cons (show j < q.keys.length by omega), show j + 1 + 1 - 1 = j + 1 from rfl, List.drop_eq_getElem_cons hk, ascP]
   by_cases h : q.keys[j + 1] ≤ q.keys[j]
   ·rw [if_pos h, show decide (q.keys[j] < q.keys[j + 1]) = false by simp; omega]; rfl
   ·rw [if_neg h, show decide (q.keys[j] < q.keys[j + 1]) = true by simp; omega]; rfl
  ·rw [if_neg (by omega), show j + 1 - 1 = j from rfl, List.drop_eq_getElem_cons (show j < q.keys.length by omega), List.drop_of_length_le (by omega)]
   rfl
theorem rsq_L2 {F : Nat} {p : PdPad} (h : PadF F p) {q : PdSquib} (hl : q.keys.length < 9223372036854775808) (c : Option Int) : ∀ (n k : Nat), q.keys.length < n + k → k ≤ q.keys.length → r7_squib_L2 F p q (fun _ => c) n k = bif (q.keys.drop k).any (fun k => outP k 0 ((p.keys.length : Int) - 1)) then some 4 else c
 | 0, k, h1, h2 => absurd h1 (by omega)
 | n + 1, k, h1, h2 => by
  rw [r7_squib_L2]
  by_cases hk : k < q.keys.length
  ·rw [if_pos (by omega), ixO_nat hk, Option.bind_some, W_len h.lk, r7_in_eq, Option.bind_some, W_succ (by omega), rsq_L2 h hl c n (k + 1) (by omega) (by omega), List.drop_eq_getElem_cons hk, List.any_cons]
   cases outP q.keys[k] 0 ((p.keys.length : Int) - 1) <;> simp
  ·rw [if_neg (by omega), List.drop_of_length_le (by omega)]
   rfl
theorem take_snoc {α β : Type} (f : α → β) {l : List α} {k : Nat} (h : k < l.length) : (l.take k).map f ++ [f l[k]] = (l.take (k + 1)).map f := by
 rw [List.take_succ_eq_append_getElem h, List.map_append]
 rfl
theorem rsq_L3 {F : Nat} {p : PdPad} {o : Nat} (ho : o ≤ p.squibs.length) (hl : p.squibs.length ≤ 6) (K : List ByteArray → Int → Option Int) : ∀ (n k : Nat), o < n + k → k ≤ o → r7_squib_L3 F p o K n ((p.squibs.take k).map (·.name)) k = K ((p.squibs.take o).map (·.name)) o
 | 0, k, h1, h2 => absurd h1 (by omega)
 | n + 1, k, h1, h2 => by
  rw [r7_squib_L3]
  by_cases hk : k < o
  ·have hk' : k < p.squibs.length := by omega
   rw [if_pos (by omega), ixO_nat hk', Option.bind_some, app_one (by simp; omega), Option.bind_some, take_snoc (·.name) hk', W_succ (by omega), rsq_L3 ho hl K n (k + 1) (by omega) (by omega)]
  ·rw [if_neg (by omega), show k = o by omega]
def squibsE (nk : Nat) (all : List PdSquib) : Nat → List PdSquib → Int × Int := fun k l => namedE (·.name) (squibR nk) ((all.take k).map (·.name)) k l
theorem r7_squib_eq {F : Nat} {p : PdPad} (h : PadF F p) (hl : p.squibs.length ≤ 6) {k : Nat} (hk : k < p.squibs.length) : r7_squib F p k = some (bif decide (nmE ((p.squibs.take k).map (·.name)) p.squibs[k].name = 0) then squibR p.keys.length p.squibs[k] else nmE ((p.squibs.take k).map (·.name)) p.squibs[k].name) := by
 have hx := List.getElem_mem hk
 have hf := h.f
 have hq := h.qk _ hx
 have hn := h.qn _ hx
 have := rsq_L3 (F := F) (p := p) (o := k) (by omega) hl (fun a y => Option.bind (ixO p.squibs k) fun e2 => Option.bind (r7_name F e2.name a) fun rv => if rv = 0 then (Option.bind (r7_place F e2.at_X) fun rv2 => if rv2 = true then (Option.bind (r7_place F e2.at_Y) fun rv3 => if rv3 = true then (Option.bind (r7_in F e2.clear 0 10000000) fun rv4 => if rv4 = true then (Option.bind (r7_grade F e2.grade) fun rv5 => if rv5 = true then (r7_squib_J1 F p e2) else (r7_squib_J2 F)) else (r7_squib_J2 F)) else (r7_squib_J2 F)) else (r7_squib_J2 F)) else (some rv)) F 0 (by omega) (by omega)
 rw [List.take_zero, List.map_nil, z0] at this
 rw [r7_squib]
 refine Eq.trans this ?_
 simp only [ixO_nat hk, Option.bind_some]
 rw [r7_name_eq (by simp; omega) (by simp; omega) hn.2 hn.1, Option.bind_some]
 generalize nmE ((p.squibs.take k).map (·.name)) p.squibs[k].name = e
 generalize p.squibs[k] = q at hq
 have hJ : r7_squib_J1 F p q = some (bif keysBad p.keys.length q then 4 else bif ascP q.keys then 0 else 2) := by
  rw [r7_squib_J1]
  unfold keysBad
  by_cases h0 : q.keys = []
  ·rw [if_pos (by simp [h0])]; simp [h0]
  ·have hp := List.length_pos_iff.2 h0
   rw [if_neg (by omega)]
   have h1 := rsq_L1 (F := F) hq.2 F 1 (by omega) (by omega) (by omega)
   have h2 := rsq_L2 h hq.2 (r7_squib_L1 F q (fun x2 => some 0) F 1) F 0 (by omega) (by omega)
   rw [z0] at h2
   rw [show ((1 : Nat) : Int) = 1 from rfl] at h1
   rw [h2, h1, List.drop_zero]
   simp only [h0, decide_false, Bool.false_or]
   cases (q.keys.any fun k => outP k 0 ((p.keys.length : Int) - 1)) <;> rfl
 simp only [hJ, r7_place, r7_grade, r7_in_eq, Option.bind_some, iteP, dec_true, r7_squib_J2, squibR, squibBad, offP]
 cases decide (e = 0) <;> cases outP q.at_X (-10000000) 10000000 <;> cases outP q.at_Y (-10000000) 10000000 <;> cases outP q.clear 0 10000000 <;> cases outP q.grade 0 9 <;> rfl
def distW (lo hi n : Int) : Int := max (max (W (lo - n)) (W (n - hi))) 0
def nearW (z : PdZone) (q : PdSquib) : Bool := decide (W (W (distW z.area_X_Lo z.area_X_Hi q.at_X * distW z.area_X_Lo z.area_X_Hi q.at_X) + W (distW z.area_Y_Lo z.area_Y_Hi q.at_Y * distW z.area_Y_Lo z.area_Y_Hi q.at_Y)) < W (q.clear * q.clear))
theorem r7_near_eq {F : Nat} {p : PdPad} {z q : Nat} (hz : z < p.zones.length) (hq : q < p.squibs.length) : r7_near F p z q = some (nearW p.zones[z] p.squibs[q]) := by
 rw [r7_near, ixO_nat hz, Option.bind_some, ixO_nat hq]
 rfl
theorem Check_near {F : Nat} {p : PdPad} (h : PadF F p) (z : PdZone) (a : Int) (c : Option (Int × Int × Int)) : ∀ (n k : Nat), p.squibs.length < n + k → k ≤ p.squibs.length → pad_Check_L1 F (a, p) z (fun _ => c) n k = bif (p.squibs.drop k).any (nearW z) then some (7, 0, 2) else c
 | 0, k, h1, h2 => absurd h1 (by omega)
 | n + 1, k, h1, h2 => by
  have hl := h.lq
  rw [pad_Check_L1]
  by_cases hk : k < p.squibs.length
  ·rw [if_pos (by dsimp only; omega), ixO_nat hk, Option.bind_some, W_succ (by omega), Check_near h z a c n (k + 1) (by omega) (by omega), List.drop_eq_getElem_cons hk, List.any_cons, iteP]
   show (bif nearW z p.squibs[k] then _ else _) = _
   cases nearW z p.squibs[k] <;> rfl
  ·rw [if_neg (by dsimp only; omega), List.drop_of_length_le (by omega)]
   rfl
theorem rCheck_near {F : Nat} {p : PdPad} (h : PadF F p) {z : Nat} (hz : z < p.zones.length) (hp : p.panel = z) (c : Option (Int × Int × Int)) : ∀ (n k : Nat), p.squibs.length < n + k → k ≤ p.squibs.length → r7_Check_L1 F p (fun _ => c) n k = bif (p.squibs.drop k).any (nearW p.zones[z]) then some (7, 0, 2) else c
 | 0, k, h1, h2 => absurd h1 (by omega)
 | n + 1, k, h1, h2 => by
  have hl := h.lq
  rw [r7_Check_L1]
  by_cases hk : k < p.squibs.length
  ·rw [if_pos (by omega), hp, r7_near_eq hz hk, Option.bind_some, W_succ (by omega), rCheck_near h hz hp c n (k + 1) (by omega) (by omega), List.drop_eq_getElem_cons hk, List.any_cons]
   cases nearW p.zones[z] p.squibs[k] <;> rfl
  ·rw [if_neg (by omega), List.drop_of_length_le (by omega)]
   rfl
def partO (n : Int) (x : Int × Int) (c : Option (Int × Int × Int)) : Option (Int × Int × Int) := bif decide (x.2 = 0) then c else some (n, x.1, x.2)
theorem partO_cond (n : Int) (b : Bool) (x y : Int × Int) (c : Option (Int × Int × Int)) : partO n (bif b then x else y) c = bif b then partO n x c else partO n y c := by cases b <;> rfl
theorem Check_doors {F : Nat} {p : PdPad} (h : PadF F p) (c : Option (Int × Int × Int)) : ∀ (n k : Nat), p.doors.length < n + k → k ≤ p.doors.length → pad_Check_L2 F p (fun _ => c) n k = partO 3 (doorsE p.zones.length k (p.doors.drop k)) c
 | 0, k, h1, h2 => absurd h1 (by omega)
 | n + 1, k, h1, h2 => by
  have hl := h.ld
  rw [pad_Check_L2]
  by_cases hk : k < p.doors.length
  ·rw [if_pos (by omega), ixO_nat hk, Option.bind_some, List.drop_eq_getElem_cons hk, doorsE]
   simp only [pad_Check_J1, W_succ (show k < 9223372036854775807 by omega), Check_doors h c n (k + 1) (by omega) (by omega), pad_out_eq, W_len h.lz, Option.bind_some, iteP, dec_true, doorBad, partO_cond]
   cases outP p.doors[k].a (-1) ((p.zones.length : Int) - 1) <;> cases outP p.doors[k].b (-1) ((p.zones.length : Int) - 1) <;> cases decide (p.doors[k].a = p.doors[k].b) <;> rfl
  ·rw [if_neg (by omega), List.drop_of_length_le (by omega)]
   rfl
theorem rCheck_keys {F : Nat} {p : PdPad} (h : PadF F p) (c : Option (Int × Int × Int)) : ∀ (n k : Nat), p.keys.length < n + k → k ≤ p.keys.length → p.keys.length ≤ 8 → r7_Check_L3 F p (fun _ => c) n k = partO 5 (namedE id (fun _ => 0) (p.keys.take k) k (p.keys.drop k)) c
 | 0, k, h1, h2, _ => absurd h1 (by omega)
 | n + 1, k, h1, h2, h3 => by
  have hf := h.f
  rw [r7_Check_L3]
  by_cases hk : k < p.keys.length
  ·have hx := h.kn _ (List.getElem_mem hk)
   rw [if_pos (by omega), ixO_nat hk, Option.bind_some, cut_nat (by omega), Option.bind_some, r7_name_eq (by simp; omega) (by simp; omega) hx.2 hx.1, Option.bind_some, List.drop_eq_getElem_cons hk, namedE, W_succ (by omega), rCheck_keys h c n (k + 1) (by omega) (by omega) h3]
   rw [List.take_succ_eq_append_getElem hk]
   show (if nmE (p.keys.take k) p.keys[k] = 0 then _ else _) = partO 5 (if nmE (p.keys.take k) p.keys[k] = 0 then _ else _) c
   by_cases h0 : nmE (p.keys.take k) p.keys[k] = 0
   ·rw [if_pos h0, if_pos h0]; rfl
   ·rw [if_neg h0, if_neg h0]
    unfold partO
    rw [show decide (((k : Int), nmE (p.keys.take k) (id p.keys[k])).2 = 0) = false from decide_eq_false h0]; rfl
  ·rw [if_neg (by omega), List.drop_of_length_le (by omega)]
   rfl
theorem rCheck_squibs {F : Nat} {p : PdPad} (h : PadF F p) (hl : p.squibs.length ≤ 6) (c : Option (Int × Int × Int)) : ∀ (n k : Nat), p.squibs.length < n + k → k ≤ p.squibs.length → r7_Check_L2 F p (fun _ => c) n k = partO 6 (squibsE p.keys.length p.squibs k (p.squibs.drop k)) c
 | 0, k, h1, h2 => absurd h1 (by omega)
 | n + 1, k, h1, h2 => by
  rw [r7_Check_L2]
  by_cases hk : k < p.squibs.length
  ·rw [if_pos (by omega), r7_squib_eq h hl hk, Option.bind_some, W_succ (by omega), rCheck_squibs h hl c n (k + 1) (by omega) (by omega), List.drop_eq_getElem_cons hk]
   have e : squibsE p.keys.length p.squibs k (p.squibs[k] :: p.squibs.drop (k + 1)) = if nmE ((p.squibs.take k).map (·.name)) p.squibs[k].name = 0 then (if squibR p.keys.length p.squibs[k] = 0 then squibsE p.keys.length p.squibs (k + 1) (p.squibs.drop (k + 1)) else ((k : Int), squibR p.keys.length p.squibs[k])) else ((k : Int), nmE ((p.squibs.take k).map (·.name)) p.squibs[k].name) := by
    unfold squibsE
    rw [namedE, take_snoc (·.name) hk]
   rw [e]
   by_cases h0 : nmE ((p.squibs.take k).map (·.name)) p.squibs[k].name = 0
   ·rw [if_pos h0, show decide (nmE ((p.squibs.take k).map (·.name)) p.squibs[k].name = 0) = true from decide_eq_true h0, cond_true]
    by_cases h1 : squibR p.keys.length p.squibs[k] = 0
    ·rw [if_pos h1, if_pos h1]
    ·rw [if_neg h1, if_neg h1, partO, show decide (((k : Int), squibR p.keys.length p.squibs[k]).2 = 0) = false from decide_eq_false h1]; rfl
   ·rw [if_neg h0, show decide (nmE ((p.squibs.take k).map (·.name)) p.squibs[k].name = 0) = false from decide_eq_false h0, cond_false, if_neg h0, partO, show decide (((k : Int), nmE ((p.squibs.take k).map (·.name)) p.squibs[k].name).2 = 0) = false from decide_eq_false h0]
    rfl
  ·rw [if_neg (by omega), List.drop_of_length_le (by omega)]
   rfl
def longP (p : PdPad) : Bool := outP p.zones.length 1 8 || decide (24 < p.doors.length) || decide (8 < p.people.length) || decide (8 < p.keys.length) || decide (6 < p.squibs.length)
def panelE (p : PdPad) : Int × Int × Int := bif outP p.panel 0 ((p.zones.length : Int) - 1) then (7, 0, 4) else bif (p.squibs.any (nearW (p.zones.getD p.panel.toNat default))) then (7, 0, 2) else bif outP p.wait 0 6000 then (7, 0, 7) else (0, 0, 0)
def part (n : Int) (x : Int × Int) (c : Int × Int × Int) : Int × Int × Int := bif decide (x.2 = 0) then c else (n, x.1, x.2)
def checkP (p : PdPad) : Int × Int × Int := bif longP p then (1, 0, 3) else part 2 (namedE (·.name) zoneR [] 0 p.zones) (part 3 (doorsE p.zones.length 0 p.doors) (part 4 (namedE (·.name) personR [] 0 p.people) (part 5 (namedE id (fun _ => 0) [] 0 p.keys) (part 6 (namedE (·.name) (squibR p.keys.length) [] 0 p.squibs) (panelE p)))))
theorem longP_false {p : PdPad} (h : longP p = false) : 1 ≤ p.zones.length ∧ p.zones.length ≤ 8 ∧ p.doors.length ≤ 24 ∧ p.people.length ≤ 8 ∧ p.keys.length ≤ 8 ∧ p.squibs.length ≤ 6 := by
 simp only [longP, Bool.or_eq_false_iff, decide_eq_false_iff_not, outP_false] at h
 omega
theorem part_some (n : Int) (x : Int × Int) (c : Int × Int × Int) : (if x.2 = 0 then some c else some (n, x.1, x.2)) = some (part n x c) := by
 unfold part
 by_cases h : x.2 = 0 <;> simp [h]
theorem partO_some (n : Int) (x : Int × Int) (c : Int × Int × Int) : partO n x (some c) = some (part n x c) := by
 unfold part partO
 cases decide (x.2 = 0) <;> rfl
theorem panel_at {p : PdPad} (h : outP p.panel 0 ((p.zones.length : Int) - 1) = false) : ∃ z : Nat, ∃ _ : z < p.zones.length, p.panel = z := by
 have := outP_false.1 h
 exact ⟨p.panel.toNat, by omega, by omega⟩
theorem pad_Check_eq {F : Nat} {p : PdPad} (h : PadF F p) : pad_Check F p = some (checkP p) := by
 have hf := h.f
 have hz := h.lz
 have hJ : longP p = false → pad_Check_J3 F p = some (checkP p) := fun hl => by
  obtain ⟨l1, l2, l3, l4, l5, l6⟩ := longP_false hl
  have hn : ∀ n : Nat, pad_Check_J2 F p = some (bif outP p.wait 0 6000 then (7, 0, 7) else (0, 0, 0)) := fun _ => by
   rw [pad_Check_J2, pad_out_eq, Option.bind_some]; cases outP p.wait 0 6000 <;> rfl
  have hpan : (if outP p.panel 0 ((p.zones.length : Int) - 1) = true then (some ((7, 0, 4) : Int × Int × Int)) else (Option.bind (pad_near F p p.panel) fun rv9 => if rv9.1 < 0 then (pad_Check_J2 F p) else (Option.bind (ixO rv9.2.zones rv9.1) fun e2 => pad_Check_L1 F rv9 e2 (fun (x2 : Int) => pad_Check_J2 F p) F 0))) = some (panelE p) := by
   unfold panelE
   cases ho : outP p.panel 0 ((p.zones.length : Int) - 1) with
   | true => rfl
   | false =>
    obtain ⟨z, hz, e⟩ := panel_at ho
    rw [if_neg (by simp), pad_near, Option.bind_some]
    dsimp only
    rw [if_neg (by omega), e, ixO_nat hz, Option.bind_some, hn 0]
    have := Check_near h p.zones[z] z (some (bif outP p.wait 0 6000 then ((7, 0, 7) : Int × Int × Int) else (0, 0, 0))) F 0 (by omega) (by omega)
    rw [z0] at this
    rw [this, Int.toNat_natCast, List.drop_zero, List.getD_eq_getElem?_getD, List.getElem?_eq_getElem hz, Option.getD_some]
    cases (p.squibs.any (nearW p.zones[z])) <;> rfl
  have hd := Check_doors h (some (part 4 (namedE (·.name) personR [] 0 p.people) (part 5 (namedE id (fun _ => 0) [] 0 p.keys) (part 6 (namedE (·.name) (squibR p.keys.length) [] 0 p.squibs) (panelE p))))) F 0 (by omega) (by omega)
  rw [pad_Check_J3, named_PdZone_eq (nm := (·.name)) (rest := zoneR) (fun x _ => by rw [pad_Check_1]) (fun x _ => pad_zone_eq hf x) (by omega) (by omega) h.zn, Option.bind_some]
  simp only [named_PdPerson_eq (F := F) (lv := p.people) (nm := (·.name)) (rest := personR) (name := fun a0 => pad_Check_2 F a0) (re := fun a0 => pad_Check_3 F a0) (fun x _ => by rw [pad_Check_2]) (fun x _ => by rw [pad_Check_3, pad_low, pad_out_eq]; simp only [Option.bind_some, personR]; cases outP x.grade 0 9 <;> rfl) (by omega) (by omega) h.pn,
   named_string_eq (F := F) (lv := p.keys) (nm := id) (rest := fun _ => 0) (name := fun a0 => pad_Check_4 F a0) (re := fun a0 => pad_Check_5 F a0) (fun x _ => by rw [pad_Check_4]; rfl) (fun x _ => by rw [pad_Check_5]) (by omega) (by omega) h.kn,
   named_PdSquib_eq (F := F) (lv := p.squibs) (nm := (·.name)) (rest := squibR p.keys.length) (name := fun a0 => pad_Check_6 F a0) (re := fun a0 => pad_Check_7 F a0 p) (fun x _ => by rw [pad_Check_6]) (fun x hx => by rw [pad_Check_7, pad_squib_eq h hx]; rfl) (by omega) (by omega) h.qn, Option.bind_some, W_len hz, pad_out_eq, hpan, part_some]
  rw [z0, partO_some, List.drop_zero] at hd
  rw [hd, part_some]
  unfold checkP
  rw [hl, cond_false]
 have hJ4 : longP p = true → pad_Check_J4 F = some (checkP p) := fun hl => by
  unfold checkP; rw [hl]; rfl
 rw [pad_Check, W_len hz, pad_out_eq, Option.bind_some]
 have ez : outP ((p.zones.length : Int) - 1) 0 7 = outP p.zones.length 1 8 := by
  unfold outP; rw [decide_eq_decide]; omega
 rw [ez]
 have hb : longP p = (outP p.zones.length 1 8 || decide (24 < p.doors.length) || decide (8 < p.people.length) || decide (8 < p.keys.length) || decide (6 < p.squibs.length)) := rfl
 have c1 : decide ((24 : Int) < p.doors.length) = decide (24 < p.doors.length) := by rw [decide_eq_decide]; omega
 have c2 : decide ((8 : Int) < p.people.length) = decide (8 < p.people.length) := by rw [decide_eq_decide]; omega
 have c3 : decide ((8 : Int) < p.keys.length) = decide (8 < p.keys.length) := by rw [decide_eq_decide]; omega
 have c4 : decide ((6 : Int) < p.squibs.length) = decide (6 < p.squibs.length) := by rw [decide_eq_decide]; omega
 simp only [iteP, dec_true, bif_or, c1, c2, c3, c4]
 simp only [Bool.or_assoc] at hb
 rw [← hb]
 cases hl : longP p with
 | true => exact hJ4 hl
 | false => exact hJ hl
theorem r7_Check_eq {F : Nat} {p : PdPad} (h : PadF F p) : r7_Check F p = some (checkP p) := by
 have hf := h.f
 have hz := h.lz
 have hJ : longP p = false → r7_Check_J1 F p = some (checkP p) := fun hl => by
  obtain ⟨l1, l2, l3, l4, l5, l6⟩ := longP_false hl
  have hw : (Option.bind (r7_in F p.wait 0 6000) fun rv9 => if rv9 = true then (some ((0, 0, 0) : Int × Int × Int)) else (some (7, 0, 7))) = some (bif outP p.wait 0 6000 then (7, 0, 7) else (0, 0, 0)) := by
   rw [r7_in_eq, Option.bind_some]; cases outP p.wait 0 6000 <;> rfl
  have hpan : (Option.bind (r7_zone F p p.panel) fun rv7 => if rv7 = true then (r7_Check_L1 F p (fun (x3 : Int) => some (bif outP p.wait 0 6000 then ((7, 0, 7) : Int × Int × Int) else (0, 0, 0))) F 0) else (some (7, 0, 4))) = some (panelE p) := by
   rw [r7_zone_eq h, Option.bind_some]
   unfold panelE
   cases ho : outP p.panel 0 ((p.zones.length : Int) - 1) with
   | true => rfl
   | false =>
    obtain ⟨z, hz, e⟩ := panel_at ho
    have := rCheck_near h hz e (some (bif outP p.wait 0 6000 then ((7, 0, 7) : Int × Int × Int) else (0, 0, 0))) F 0 (by omega) (by omega)
    rw [z0] at this
    rw [if_pos (by simp), this, e, Int.toNat_natCast, List.drop_zero, List.getD_eq_getElem?_getD, List.getElem?_eq_getElem hz, Option.getD_some]
    cases (p.squibs.any (nearW p.zones[z])) <;> rfl
  have hq := rCheck_squibs h l6 (some (panelE p)) F 0 (by omega) (by omega)
  have hk := rCheck_keys h (some (part 6 (namedE (·.name) (squibR p.keys.length) [] 0 p.squibs) (panelE p))) F 0 (by omega) (by omega) l5
  rw [r7_Check_J1, r7_zones_eq h l2, Option.bind_some]
  simp only [r7_doors_eq h l3, r7_people_eq h l4, Option.bind_some, hw, hpan]
  rw [z0] at hq hk
  rw [hq]
  simp only [squibsE, List.take_zero, List.map_nil, List.drop_zero]
  rw [partO_some, hk, partO_some]
  unfold checkP
  rw [hl, cond_false]
  simp only [List.take_zero, List.drop_zero, part_some]
 have hJ2 : longP p = true → r7_Check_J2 F = some (checkP p) := fun hl => by
  unfold checkP; rw [hl]; rfl
 rw [r7_Check, r7_in_eq, Option.bind_some]
 have hb : longP p = (outP p.zones.length 1 8 || decide (24 < p.doors.length) || decide (8 < p.people.length) || decide (8 < p.keys.length) || decide (6 < p.squibs.length)) := rfl
 have c1 : decide ((24 : Int) < p.doors.length) = decide (24 < p.doors.length) := by rw [decide_eq_decide]; omega
 have c2 : decide ((8 : Int) < p.people.length) = decide (8 < p.people.length) := by rw [decide_eq_decide]; omega
 have c3 : decide ((8 : Int) < p.keys.length) = decide (8 < p.keys.length) := by rw [decide_eq_decide]; omega
 have c4 : decide ((6 : Int) < p.squibs.length) = decide (6 < p.squibs.length) := by rw [decide_eq_decide]; omega
 simp only [iteP, dec_true, Bool.cond_not, bif_or, c1, c2, c3, c4]
 simp only [Bool.or_assoc] at hb
 rw [← hb]
 cases hl : longP p with
 | true => exact hJ2 hl
 | false => exact hJ hl
theorem fuel_ex {α : Type} (f : α → Nat) : ∀ l : List α, ∃ N, ∀ x ∈ l, f x < N
 | [] => ⟨0, fun _ h => by simp at h⟩
 | a :: l => by
  obtain ⟨N, h⟩ := fuel_ex f l
  refine ⟨N + f a + 1, fun x hx => ?_⟩
  rcases List.mem_cons.1 hx with rfl | hx
  ·omega
  ·have := h x hx; omega
theorem padF_ex {p : PdPad} (h1 : p.zones.length < 9223372036854775808) (h2 : p.doors.length < 9223372036854775808) (h3 : p.people.length < 9223372036854775808) (h4 : p.keys.length < 9223372036854775808) (h5 : p.squibs.length < 9223372036854775808)
  (k1 : ∀ x ∈ p.zones, x.name.size < 9223372036854775808) (k2 : ∀ x ∈ p.people, x.name.size < 9223372036854775808) (k3 : ∀ x ∈ p.keys, x.size < 9223372036854775808) (k4 : ∀ x ∈ p.squibs, x.name.size < 9223372036854775808) (k5 : ∀ x ∈ p.squibs, x.keys.length < 9223372036854775808) : ∃ F0, ∀ F, F0 ≤ F → PadF F p := by
 obtain ⟨a, ha⟩ := fuel_ex (fun x : PdZone => x.name.size) p.zones
 obtain ⟨b, hb⟩ := fuel_ex (fun x : PdPerson => x.name.size) p.people
 obtain ⟨c, hc⟩ := fuel_ex (fun x : ByteArray => x.size) p.keys
 obtain ⟨d, hd⟩ := fuel_ex (fun x : PdSquib => x.name.size) p.squibs
 obtain ⟨e, he⟩ := fuel_ex (fun x : PdSquib => x.keys.length) p.squibs
 refine ⟨101 + a + b + c + d + e, fun F hF => ⟨by omega, h1, h2, h3, h4, h5, fun x hx => ⟨?_, k1 x hx⟩, fun x hx => ⟨?_, k2 x hx⟩, fun x hx => ⟨?_, k3 x hx⟩, fun x hx => ⟨?_, k4 x hx⟩, fun x hx => ⟨?_, k5 x hx⟩⟩⟩
 ·have := ha x hx; omega
 ·have := hb x hx; omega
 ·have := hc x hx; omega
 ·have := hd x hx; omega
 ·have := he x hx; omega
end Go.Proofs.YthcnganbnbhhoaaGreat
open Go Go.Proofs.YthcnganbnbhhoaaGreat.Sh Go.Proofs
namespace Go.Proofs.YthcnganbnbhhoaaGreat
set_option linter.unusedVariables false
set_option linter.unusedSimpArgs false
theorem allLoop {ρ : Type} {g : Nat → Int → Option ρ} {f : Nat → Bool} {len : Nat} {c fl : Option ρ} (h0 : ∀ n k : Nat, k < len → g (n + 1) k = bif f k then g n ((k + 1 : Nat) : Int) else fl) (h1 : ∀ n, g (n + 1) len = c) :
 ∀ n k : Nat, len < n + k → k ≤ len → g n k = bif (List.range' k (len - k)).all f then c else fl
 | 0, k, h, h2 => absurd h (by omega)
 | n + 1, k, h, h2 => by
  by_cases hk : k < len
  ·rw [h0 n k hk, allLoop h0 h1 n (k + 1) (by omega) (by omega), show len - k = (len - (k + 1)) + 1 by omega, List.range'_succ, List.all_cons]
   cases f k <;> rfl
  ·obtain rfl : k = len := by omega
   rw [h1 n, Nat.sub_self]; rfl
theorem foldLoop {σ ρ : Type} {g : Nat → σ → Int → Option ρ} {f : σ → Nat → σ} {len : Nat} {c : σ → Option ρ} (I : σ → Nat → Prop) (hI : ∀ s k, k < len → I s k → I (f s k) (k + 1)) (h0 : ∀ (n : Nat) s (k : Nat), k < len → I s k → g (n + 1) s k = g n (f s k) ((k + 1 : Nat) : Int)) (h1 : ∀ n s, I s len → g (n + 1) s len = c s) :
 ∀ (n : Nat) (s : σ) (k : Nat), I s k → len < n + k → k ≤ len → g n s k = c ((List.range' k (len - k)).foldl f s)
 | 0, s, k, _, h, h2 => absurd h (by omega)
 | n + 1, s, k, hs, h, h2 => by
  by_cases hk : k < len
  ·rw [h0 n s k hk hs, foldLoop I hI h0 h1 n _ (k + 1) (hI s k hk hs) (by omega) (by omega), show len - k = (len - (k + 1)) + 1 by omega, List.range'_succ, List.foldl_cons]
  ·obtain rfl : k = len := by omega
   rw [h1 n s hs, Nat.sub_self]; rfl
theorem getD_at {α : Type} {l : List α} {k : Nat} (d : α) (h : k < l.length) : l.getD k d = l[k] := by simp [List.getD_eq_getElem?_getD, List.getElem?_eq_getElem h]
theorem all_range {α : Type} (l : List α) (d : α) (f : α → Bool) : (List.range' 0 l.length).all (fun k => f (l.getD k d)) = l.all f := by
 have key : ∀ m k, k + m = l.length → (List.range' k m).all (fun k => f (l.getD k d)) = (l.drop k).all f := fun m => by
  induction m with
  | zero => intro k hk; rw [List.drop_of_length_le (by omega)]; rfl
  | succ m ih =>
   intro k hk
   rw [List.range'_succ, List.all_cons, ih (k + 1) (by omega), List.drop_eq_getElem_cons (by omega : k < l.length), List.all_cons, getD_at d (by omega)]
 simpa using key l.length 0 (by omega)
structure PadOk (p : PdPad) : Prop where
 z1 : 1 ≤ p.zones.length
 z8 : p.zones.length ≤ 8
 d24 : p.doors.length ≤ 24
 p8 : p.people.length ≤ 8
 k8 : p.keys.length ≤ 8
 q6 : p.squibs.length ≤ 6
 z : ∀ z ∈ p.zones, zoneBad z = false
 d : ∀ d ∈ p.doors, doorBad p.zones.length d = false
 g : ∀ x ∈ p.people, outP x.grade 0 9 = false
 q : ∀ q ∈ p.squibs, squibBad q = false ∧ keysBad p.keys.length q = false ∧ ascP q.keys = true
 panel : outP p.panel 0 ((p.zones.length : Int) - 1) = false
 far : p.squibs.any (nearW (p.zones.getD p.panel.toNat default)) = false
 wait : outP p.wait 0 6000 = false
theorem namedE_ok {α : Type} {nm : α → ByteArray} {rest : α → Int} : ∀ {l : List α} {seen : List ByteArray} {k : Nat}, (namedE nm rest seen k l).2 = 0 → ∀ x ∈ l, rest x = 0
 | [], _, _, _ => fun _ h => by simp at h
 | x :: l, seen, k, h => fun y hy => by
  rw [namedE] at h
  by_cases h1 : nmE seen (nm x) = 0
  ·rw [if_pos h1] at h
   by_cases h2 : rest x = 0
   ·rw [if_pos h2] at h
    rcases List.mem_cons.1 hy with rfl | hy
    ·exact h2
    ·exact namedE_ok h y hy
   ·rw [if_neg h2] at h; exact absurd h h2
  ·rw [if_neg h1] at h; exact absurd h h1
theorem doorsE_ok {nz : Nat} : ∀ {l : List PdDoor} {k : Nat}, (doorsE nz k l).2 = 0 → ∀ x ∈ l, doorBad nz x = false
 | [], _, _ => fun _ h => by simp at h
 | x :: l, k, h => fun y hy => by
  rw [doorsE] at h
  cases h1 : doorBad nz x with
  | true => rw [h1] at h; exact absurd h (by simp)
  | false =>
   rw [h1, cond_false] at h
   cases h2 : decide (x.a = x.b) with
   | true => rw [h2] at h; exact absurd h (by simp)
   | false =>
    rw [h2, cond_false] at h
    rcases List.mem_cons.1 hy with rfl | hy
    ·exact h1
    ·exact doorsE_ok h y hy
theorem part_ok {n : Int} {x : Int × Int} {c : Int × Int × Int} (hn : (part n x c).2.2 = 0) : x.2 = 0 ∧ c.2.2 = 0 := by
 unfold part at hn
 by_cases h : x.2 = 0
 ·rw [decide_eq_true h] at hn; exact ⟨h, hn⟩
 ·rw [decide_eq_false h] at hn; exact absurd hn h
theorem checkP_ok {p : PdPad} (h : (checkP p).2.2 = 0) : PadOk p := by
 unfold checkP at h
 cases hl : longP p with
 | true => rw [hl] at h; exact absurd h (by simp)
 | false =>
  obtain ⟨l1, l2, l3, l4, l5, l6⟩ := longP_false hl
  rw [hl, cond_false] at h
  obtain ⟨h1, h⟩ := part_ok h
  obtain ⟨h2, h⟩ := part_ok h
  obtain ⟨h3, h⟩ := part_ok h
  obtain ⟨h4, h⟩ := part_ok h
  obtain ⟨h5, h⟩ := part_ok h
  unfold panelE at h
  cases e1 : outP p.panel 0 ((p.zones.length : Int) - 1) with
  | true => rw [e1] at h; exact absurd h (by simp)
  | false =>
   rw [e1, cond_false] at h
   cases e2 : p.squibs.any (nearW (p.zones.getD p.panel.toNat default)) with
   | true => rw [e2] at h; exact absurd h (by simp)
   | false =>
    rw [e2, cond_false] at h
    cases e3 : outP p.wait 0 6000 with
    | true => rw [e3] at h; exact absurd h (by simp)
    | false =>
     refine ⟨l1, l2, l3, l4, l5, l6, fun z hz => ?_, doorsE_ok h2, fun x hx => ?_, fun q hq => ?_, e1, e2, e3⟩
     ·have := namedE_ok h1 z hz
      unfold zoneR at this
      cases hb : zoneBad z with
      | false => rfl
      | true => rw [hb] at this; exact absurd this (by simp)
     ·have := namedE_ok h3 x hx
      unfold personR at this
      cases hb : outP x.grade 0 9 with
      | false => rfl
      | true => rw [hb] at this; exact absurd this (by simp)
     ·have := namedE_ok h5 q hq
      unfold squibR at this
      cases a : squibBad q with
      | true => rw [a] at this; exact absurd this (by simp)
      | false =>
       rw [a, cond_false] at this
       cases b : keysBad p.keys.length q with
       | true => rw [b] at this; exact absurd this (by simp)
       | false =>
        rw [b, cond_false] at this
        cases c : ascP q.keys with
        | true => exact ⟨rfl, rfl, rfl⟩
        | false => rw [c] at this; exact absurd this (by simp)
theorem key_in {p : PdPad} (h : PadOk p) {q : PdSquib} (hq : q ∈ p.squibs) {k : Int} (hk : k ∈ q.keys) : ∃ j : Nat, k = j ∧ j < p.keys.length := by
 have := (h.q q hq).2.1
 unfold keysBad at this
 rw [Bool.or_eq_false_iff, List.any_eq_false] at this
 have := this.2 k hk
 have := outP_false.1 (by simpa using this)
 exact ⟨k.toNat, by omega, by omega⟩
structure StF (F : Nat) (s : PdState) : Prop where
 z : s.zones.length < F ∧ s.zones.length ≤ 17592186044416
 h : s.holder.length < F ∧ s.holder.length ≤ 17592186044416
 q : s.squibs.length < F ∧ s.squibs.length ≤ 17592186044416
abbrev scn (p : PdPad) (s : PdState) : Scene := Scene.mk p.zones p.doors p.people p.keys p.squibs p.panel p.wait s.now s.zones s.holder s.squibs s.siren s.storm
theorem clone_eq {F : Nat} {l : List Int} (h : l.length ≤ 17592186044416) : slices_Clone_int F l = some l := by
 unfold slices_Clone_int appI
 rw [if_pos (by simpa using h)]; rfl
theorem pad_stage_eq {F : Nat} {s : PdState} (h : StF F s) (p : PdPad) : pad_stage F p s = some (some (scn p s)) := by
 rw [pad_stage, clone_eq h.z.2, clone_eq h.h.2, clone_eq h.q.2]; rfl
def formedP (p : PdPad) (s : PdState) : Bool := !outP s.now 0 100000 && (!outP s.siren (-1) s.now && (decide (s.zones.length = p.people.length) && (decide (s.holder.length = p.keys.length) && (decide (s.squibs.length = p.squibs.length) && (s.zones.all (fun x => !outP x (-1) ((p.zones.length : Int) - 1)) && (s.holder.all (fun x => !outP x (-1) ((p.people.length : Int) - 1)) && s.squibs.all (fun x => !outP x 0 2)))))))
theorem all_not {α : Type} (l : List α) (f : α → Bool) : l.all (fun x => !f x) = !l.any f := by simp [List.all_eq_not_any_not]
theorem pad_formed_eq {F : Nat} {p : PdPad} {s : PdState} (h : PadF F p) (hs : StF F s) : pad_scene_formed F (scn p s) = some (formedP p s) := by
 have c1 : decide ((s.zones.length : Int) = p.people.length) = decide (s.zones.length = p.people.length) := by rw [decide_eq_decide]; omega
 have c2 : decide ((s.holder.length : Int) = p.keys.length) = decide (s.holder.length = p.keys.length) := by rw [decide_eq_decide]; omega
 have c3 : decide ((s.squibs.length : Int) = p.squibs.length) = decide (s.squibs.length = p.squibs.length) := by rw [decide_eq_decide]; omega
 have hc : ∀ (l : List Int) (a b : Int), l.length < F ∧ l.length ≤ 17592186044416 → slices_ContainsFunc_int F l (fun a0 => pad_scene_formed_1_1 F a0 a b) = some (l.any (fun x => outP x a b)) := fun l a b hl =>
  ContainsFunc_eq (fun x _ => by rw [pad_scene_formed_1_1, pad_out_eq]; rfl) (by omega) hl.1
 rw [pad_scene_formed]
 simp only [pad_scene_formed_J1, pad_scene_formed_1, pad_out_eq, Option.bind_some, W_len h.lz, W_len h.lp, hc _ _ _ hs.z, hc _ _ _ hs.h, hc _ _ _ hs.q, iteP, dec_true, c1, c2, c3, formedP, all_not]
 cases outP s.now 0 100000 <;> cases outP s.siren (-1) s.now <;> cases decide (s.zones.length = p.people.length) <;> cases decide (s.holder.length = p.keys.length) <;> cases decide (s.squibs.length = p.squibs.length) <;> cases (s.zones.any fun x => outP x (-1) ((p.zones.length : Int) - 1)) <;> cases (s.holder.any fun x => outP x (-1) ((p.people.length : Int) - 1)) <;> rfl
end Go.Proofs.YthcnganbnbhhoaaGreat
open Go Go.Proofs.YthcnganbnbhhoaaGreat.Sh Go.Proofs
namespace Go.Proofs.YthcnganbnbhhoaaGreat
set_option linter.unusedVariables false
set_option linter.unusedSimpArgs false
theorem foldl_and {f : Nat → Bool} : ∀ (l : List Nat) (b : Bool), l.foldl (fun b k => b && f k) b = (b && l.all f)
 | [], b => by simp
 | k :: l, b => by rw [List.foldl_cons, foldl_and l, List.all_cons, Bool.and_assoc]
theorem andLoop {ρ : Type} {g : Nat → Bool → Int → Option ρ} {f : Nat → Bool} {len : Nat} {c : Bool → Option ρ} (h0 : ∀ (n : Nat) (b : Bool) (k : Nat), k < len → g (n + 1) b k = g n (b && f k) ((k + 1 : Nat) : Int)) (h1 : ∀ n b, g (n + 1) b len = c b) {n : Nat} (b : Bool) (h : len < n) : g n b 0 = c (b && (List.range' 0 len).all f) := by
 have := foldLoop (σ := Bool) (g := g) (f := fun b k => b && f k) (c := c) (fun _ _ => True) (fun _ _ _ _ => trivial) (fun n s k hk _ => h0 n s k hk) (fun n s _ => h1 n s) n b 0 trivial (by omega) (by omega)
 rw [z0] at this
 rw [this, Nat.sub_zero, foldl_and]
theorem formed_L {F : Nat} {l : List Int} {lo hi : Int} (hl : l.length < 9223372036854775808) {g : Nat → Bool → Int → Option Bool} {c : Bool → Option Bool}
 (h0 : ∀ (n : Nat) (a : Bool) (x : Int), g (n + 1) a x = if x < (l.length : Int) then (if a = true then (Option.bind (ixO l x) fun e => Option.bind (r7_in F e lo hi) fun rv => if rv = true then g n true (W (x + 1)) else g n false (W (x + 1))) else g n false (W (x + 1))) else c a) (hF : l.length < F) (b : Bool) : g F b 0 = c (b && l.all (fun x => !outP x lo hi)) := by
 have := andLoop (g := g) (f := fun k => !outP (l.getD k 0) lo hi) (len := l.length) (c := c) (fun n a k hk => by
  rw [h0, if_pos (by omega), ixO_nat hk, Option.bind_some, r7_in_eq, Option.bind_some, W_succ (by omega)]
  rw [getD_at 0 hk]
  cases a <;> cases outP l[k] lo hi <;> rfl) (fun n a => by rw [h0, if_neg (by omega)]) b hF
 rw [this, all_range l 0 (fun x => !outP x lo hi)]
theorem r7_formed_eq {F : Nat} {p : PdPad} {s : PdState} (h : PadF F p) (hs : StF F s) : r7_formed F p s = some (formedP p s) := by
 have hz := hs.z
 have hh := hs.h
 have hq := hs.q
 have c1 : decide ((s.zones.length : Int) = p.people.length) = decide (s.zones.length = p.people.length) := by rw [decide_eq_decide]; omega
 have c2 : decide ((s.holder.length : Int) = p.keys.length) = decide (s.holder.length = p.keys.length) := by rw [decide_eq_decide]; omega
 have c3 : decide ((s.squibs.length : Int) = p.squibs.length) = decide (s.squibs.length = p.squibs.length) := by rw [decide_eq_decide]; omega
 have w1 := W_len h.lz
 have w2 := W_len h.lp
 have e1 : ∀ (c : Bool → Option Bool) b, r7_formed_L1 F s (fun a _ => c a) F b 0 = c (b && s.squibs.all (fun x => !outP x 0 2)) := fun c b => formed_L (F := F) (l := s.squibs) (g := fun n b x => r7_formed_L1 F s (fun a _ => c a) n b x) (by omega) (fun n a x => by rw [r7_formed_L1]) hq.1 b
 have e2 : ∀ (c : Bool → Option Bool) b, r7_formed_L2 F p s (fun a _ => c a) F b 0 = c (b && s.holder.all (fun x => !outP x (-1) ((p.people.length : Int) - 1))) := fun c b => formed_L (F := F) (l := s.holder) (g := fun n b x => r7_formed_L2 F p s (fun a _ => c a) n b x) (by omega) (fun n a x => by rw [r7_formed_L2, w2]) hh.1 b
 have e3 : ∀ (c : Bool → Option Bool) b, r7_formed_L3 F p s (fun a _ => c a) F b 0 = c (b && s.zones.all (fun x => !outP x (-1) ((p.zones.length : Int) - 1))) := fun c b => formed_L (F := F) (l := s.zones) (g := fun n b x => r7_formed_L3 F p s (fun a _ => c a) n b x) (by omega) (fun n a x => by rw [r7_formed_L3, w1]) hz.1 b
 have e4 : ∀ (c : Bool → Option Bool) b, r7_formed_L4 F s (fun a _ => c a) F b 0 = c (b && s.squibs.all (fun x => !outP x 0 2)) := fun c b => formed_L (F := F) (l := s.squibs) (g := fun n b x => r7_formed_L4 F s (fun a _ => c a) n b x) (by omega) (fun n a x => by rw [r7_formed_L4]) hq.1 b
 have e5 : ∀ (c : Bool → Option Bool) b, r7_formed_L5 F p s (fun a _ => c a) F b 0 = c (b && s.holder.all (fun x => !outP x (-1) ((p.people.length : Int) - 1))) := fun c b => formed_L (F := F) (l := s.holder) (g := fun n b x => r7_formed_L5 F p s (fun a _ => c a) n b x) (by omega) (fun n a x => by rw [r7_formed_L5, w2]) hh.1 b
 have e6 : ∀ (c : Bool → Option Bool) b, r7_formed_L6 F p s (fun a _ => c a) F b 0 = c (b && s.zones.all (fun x => !outP x (-1) ((p.zones.length : Int) - 1))) := fun c b => formed_L (F := F) (l := s.zones) (g := fun n b x => r7_formed_L6 F p s (fun a _ => c a) n b x) (by omega) (fun n a x => by rw [r7_formed_L6, w1]) hz.1 b
 have hJ : r7_formed_J1 F p s = some false := by
  rw [r7_formed_J1]
  refine (e6 (fun a4 => r7_formed_L5 F p s (fun a5 x3 => r7_formed_L4 F s (fun a6 x4 => some a6) F a5 0) F a4 0) false).trans ?_
  refine (e5 (fun a5 => r7_formed_L4 F s (fun a6 x4 => some a6) F a5 0) _).trans ?_
  exact e4 some _
 have hL : r7_formed_L3 F p s (fun a _ => r7_formed_L2 F p s (fun a2 _ => r7_formed_L1 F s (fun a3 _ => some a3) F a2 0) F a 0) F true 0 = some (s.zones.all (fun x => !outP x (-1) ((p.zones.length : Int) - 1)) && s.holder.all (fun x => !outP x (-1) ((p.people.length : Int) - 1)) && s.squibs.all (fun x => !outP x 0 2)) := by
  refine (e3 (fun a4 => r7_formed_L2 F p s (fun a5 x3 => r7_formed_L1 F s (fun a6 x4 => some a6) F a5 0) F a4 0) true).trans ?_
  refine (e2 (fun a5 => r7_formed_L1 F s (fun a6 x4 => some a6) F a5 0) _).trans ?_
  refine (e1 some _).trans ?_
  rw [Bool.true_and]
 rw [r7_formed]
 simp only [hJ, hL, r7_in_eq, Option.bind_some, iteP, dec_true, c1, c2, c3, formedP]
 cases outP s.now 0 100000 <;> cases outP s.siren (-1) s.now <;> cases decide (s.zones.length = p.people.length) <;> cases decide (s.holder.length = p.keys.length) <;> cases decide (s.squibs.length = p.squibs.length) <;> simp [Bool.and_assoc]
structure Formed (p : PdPad) (s : PdState) : Prop where
 now : 0 ≤ s.now ∧ s.now ≤ 100000
 siren : -1 ≤ s.siren ∧ s.siren ≤ s.now
 lz : s.zones.length = p.people.length
 lh : s.holder.length = p.keys.length
 lq : s.squibs.length = p.squibs.length
 z : ∀ x ∈ s.zones, -1 ≤ x ∧ x < p.zones.length
 h : ∀ x ∈ s.holder, -1 ≤ x ∧ x < p.people.length
 q : ∀ x ∈ s.squibs, 0 ≤ x ∧ x ≤ 2
theorem formedP_iff {p : PdPad} {s : PdState} : formedP p s = true ↔ Formed p s := by
 have hn : ∀ x a b, (!outP x a b) = true ↔ a ≤ x ∧ x ≤ b := fun x a b => by
  rw [Bool.not_eq_true', outP_false]
 unfold formedP
 simp only [Bool.and_eq_true, decide_eq_true_eq, List.all_eq_true, hn]
 constructor
 ·rintro ⟨h1, h2, h3, h4, h5, h6, h7, h8⟩
  exact ⟨h1, h2, h3, h4, h5, fun x hx => by have := h6 x hx; omega, fun x hx => by have := h7 x hx; omega, h8⟩
 ·rintro ⟨h1, h2, h3, h4, h5, h6, h7, h8⟩
  exact ⟨h1, h2, h3, h4, h5, fun x hx => by have := h6 x hx; omega, fun x hx => by have := h7 x hx; omega, h8⟩
def crowdP (s : PdState) (z : Int) : Nat := s.zones.countP (fun e => decide (e = z))
theorem countP_range {α : Type} (l : List α) (d : α) (f : α → Bool) : ∀ (m k c : Nat), k + m = l.length → (List.range' k m).foldl (fun (c : Nat) k => if f (l.getD k d) = true then c + 1 else c) c = c + (l.drop k).countP f
 | 0, k, c, h => by rw [List.drop_of_length_le (by omega)]; rfl
 | m + 1, k, c, h => by
  rw [List.range'_succ, List.foldl_cons, countP_range l d f m (k + 1) _ (by omega), List.drop_eq_getElem_cons (by omega : k < l.length), List.countP_cons, getD_at d (by omega)]
  cases f l[k] <;> simp
  omega
theorem crowdLoop {F : Nat} {l : List Int} {z : Int} (hl : l.length < 9223372036854775807) {g : Nat → Int → Int → Option Int} (h0 : ∀ (n : Nat) (c x : Int), g (n + 1) c x = if x < (l.length : Int) then (Option.bind (ixO l x) fun e => if e = z then g n (W (c + 1)) (W (x + 1)) else g n c (W (x + 1))) else some c) (hF : l.length < F) : g F 0 0 = some ((l.countP (fun e => decide (e = z)) : Nat) : Int) := by
 have := foldLoop (σ := Nat) (g := fun n (s : Nat) x => g n (s : Int) x) (f := fun c k => if decide (l.getD k 0 = z) = true then c + 1 else c) (len := l.length) (c := fun c => some (c : Int)) (fun c k => c ≤ k) (fun c k hk hc => by split <;> omega) (fun n c k hk hc => by
  rw [h0, if_pos (by omega), ixO_nat hk, Option.bind_some, W_succ (show k < 9223372036854775807 by omega), getD_at 0 hk]
  by_cases h : l[k] = z
  ·rw [if_pos h, if_pos (by simp [h]), W_succ (show c < 9223372036854775807 by omega)]
  ·rw [if_neg h, if_neg (by simp [h])]) (fun n c _ => by rw [h0, if_neg (by omega)]) F 0 0 (Nat.le_refl _) (by omega) (by omega)
 rw [z0] at this
 rw [this, Nat.sub_zero, countP_range l 0 (fun e => decide (e = z)) l.length 0 0 (by omega), Nat.zero_add, List.drop_zero]
theorem pad_crowd_eq {F : Nat} {s : PdState} (hs : StF F s) (p : PdPad) (z : Int) : pad_scene_crowd F (scn p s) z = some (crowdP s z : Int) := by
 have := hs.z
 exact crowdLoop (F := F) (l := s.zones) (g := fun n c x => pad_scene_crowd_L1 F (scn p s) z (fun nv _ => some nv) n c x) (by omega) (fun n c x => by rw [pad_scene_crowd_L1]) this.1
theorem r7_many_eq {F : Nat} {s : PdState} (hs : StF F s) (z : Int) : r7_many F s z = some (crowdP s z : Int) := by
 have := hs.z
 exact crowdLoop (F := F) (l := s.zones) (g := fun n c x => r7_many_L1 F s z (fun nv _ => some nv) n c x) (by omega) (fun n c x => by rw [r7_many_L1]) this.1
theorem holder_at {p : PdPad} {s : PdState} (h : PadOk p) (hf : Formed p s) {q : PdSquib} (hq : q ∈ p.squibs) {k : Int} (hk : k ∈ q.keys) : ixO s.holder k = some (s.holder.getD k.toNat (-1)) := by
 obtain ⟨j, rfl, hj⟩ := key_in h hq hk
 have := hf.lh
 rw [ixO_nat (by omega), Int.toNat_natCast, getD_at _ (by omega)]
theorem holder_ge {p : PdPad} {s : PdState} (hf : Formed p s) (j : Nat) : -1 ≤ s.holder.getD j (-1) ∧ s.holder.getD j (-1) < p.people.length := by
 rw [List.getD_eq_getElem?_getD]
 cases h : s.holder[j]? with
 | none => simp; omega
 | some x => simpa using hf.h x (List.mem_of_getElem? h)
def heldP (s : PdState) (k : Int) : Bool := decide (0 ≤ s.holder.getD k.toNat (-1))
def owedP (s : PdState) (q : PdSquib) : List Int := q.keys.filter (heldP s)
theorem foldl_filter {α : Type} (l : List α) (d : α) (f : α → Bool) : ∀ (m k : Nat) (acc : List α), k + m = l.length → (List.range' k m).foldl (fun (a : List α) k => bif f (l.getD k d) then a ++ [l.getD k d] else a) acc = acc ++ (l.drop k).filter f
 | 0, k, c, h => by rw [List.drop_of_length_le (by omega)]; simp
 | m + 1, k, c, h => by
  rw [List.range'_succ, List.foldl_cons, foldl_filter l d f m (k + 1) _ (by omega), List.drop_eq_getElem_cons (by omega : k < l.length), List.filter_cons, getD_at d (by omega)]
  cases f l[k] <;> simp
theorem owedLoop {F : Nat} {l : List Int} {f : Int → Bool} (hl : l.length ≤ 8) {g : Nat → List Int → Int → Option (List Int)} (h0 : ∀ (n : Nat) (a : List Int) (k : Nat) (h : k < l.length), g (n + 1) a k = bif f l[k] then (Option.bind (appO a [l[k]]) fun q => g n q (W ((k : Int) + 1))) else g n a (W ((k : Int) + 1))) (h1 : ∀ n a, g (n + 1) a l.length = some a) (hF : l.length < F) : g F [] 0 = some (l.filter f) := by
 have := foldLoop (σ := List Int) (g := g) (f := fun a k => bif f (l.getD k 0) then a ++ [l.getD k 0] else a) (len := l.length) (c := some) (fun a k => a.length ≤ k) (fun a k hk hc => by cases f (l.getD k 0) <;> simp <;> omega) (fun n a k hk hc => by
  rw [h0 n a k hk, app_one (by omega), Option.bind_some, W_succ (show k < 9223372036854775807 by omega), getD_at 0 hk]
  cases f l[k] <;> rfl) (fun n a _ => h1 n a) F [] 0 (Nat.le_refl _) (by omega) (by omega)
 rw [z0] at this
 rw [this, Nat.sub_zero, foldl_filter l 0 f l.length 0 [] (by omega)]
 rfl
theorem asc_len {nk : Nat} : ∀ {l : List Int}, ascP l = true → (∀ x ∈ l, 0 ≤ x ∧ x < nk) → l.length ≤ nk := by
 have key : ∀ (l : List Int) (b : Int), ascP (b :: l) = true → (∀ x ∈ b :: l, 0 ≤ x ∧ x < nk) → (l.length : Int) < nk - b := fun l => by
  induction l with
  | nil => intro b _ h; have := h b (by simp); simp; omega
  | cons y l ih =>
   intro b ha h
   rw [ascP, Bool.and_eq_true, decide_eq_true_eq] at ha
   have := ih y ha.2 (fun x hx => h x (by simp at hx ⊢; right; exact hx))
   simp only [List.length_cons]
   omega
 intro l ha h
 cases l with
 | nil => simp
 | cons b l =>
  have h1 := key l b ha h
  have h2 := h b (by simp)
  simp only [List.length_cons]
  omega
theorem keys_len {p : PdPad} (h : PadOk p) {q : PdSquib} (hq : q ∈ p.squibs) : q.keys.length ≤ 8 := by
 have := asc_len (nk := p.keys.length) (h.q q hq).2.2 (fun x hx => by obtain ⟨j, rfl, hj⟩ := key_in h hq hx; omega)
 have := h.k8
 omega
theorem pad_owed_eq {F : Nat} {p : PdPad} {s : PdState} (h : PadF F p) (ho : PadOk p) (hf : Formed p s) {k : Nat} (hk : k < p.squibs.length) : pad_scene_owed F (scn p s) k = some (owedP s p.squibs[k]) := by
 have hm := List.getElem_mem hk
 have hF := h.f
 rw [pad_scene_owed, show (scn p s).p_Squibs = p.squibs from rfl, ixO_nat hk, Option.bind_some]
 refine owedLoop (F := F) (f := heldP s) (keys_len ho hm) (g := fun n a x => pad_scene_owed_L1 F (scn p s) p.squibs[k] (fun lv _ => some lv) n a x) (fun n a j hj => ?_) (fun n a => ?_) (by have := keys_len ho hm; omega)
 ·rw [pad_scene_owed_L1, if_pos (by omega), ixO_nat hj, Option.bind_some, show (scn p s).pdState_Holder = s.holder from rfl, holder_at ho hf hm (List.getElem_mem hj), Option.bind_some, iteP]
  rfl
 ·rw [pad_scene_owed_L1, if_neg (by omega)]
theorem r7_owed_eq {F : Nat} {p : PdPad} {s : PdState} (h : PadF F p) (ho : PadOk p) (hf : Formed p s) {k : Nat} (hk : k < p.squibs.length) : r7_owed F p s k = some (owedP s p.squibs[k]) := by
 have hm := List.getElem_mem hk
 have hF := h.f
 rw [r7_owed, ixO_nat hk, Option.bind_some]
 refine owedLoop (F := F) (f := heldP s) (keys_len ho hm) (g := fun n a x => r7_owed_L1 F s p.squibs[k] (fun lv _ => some lv) n a x) (fun n a j hj => ?_) (fun n a => ?_) (by have := keys_len ho hm; omega)
 ·rw [r7_owed_L1, if_pos (by omega), ixO_nat hj, Option.bind_some, holder_at ho hf hm (List.getElem_mem hj), Option.bind_some]
  have hg := holder_ge hf p.squibs[k].keys[j].toNat
  unfold heldP
  by_cases h0 : s.holder.getD p.squibs[k].keys[j].toNat (-1) = -1
  ·rw [if_pos h0, show decide (0 ≤ s.holder.getD p.squibs[k].keys[j].toNat (-1)) = false from decide_eq_false (by omega)]; rfl
  ·rw [if_neg h0, show decide (0 ≤ s.holder.getD p.squibs[k].keys[j].toNat (-1)) = true from decide_eq_true (by omega)]; rfl
 ·rw [r7_owed_L1, if_neg (by omega)]
def holdsP (s : PdState) (i : Int) (q : PdSquib) : Bool := q.keys.any (fun k => decide (s.holder.getD k.toNat (-1) = i))
theorem pad_holds_eq {F : Nat} {p : PdPad} {s : PdState} (h : PadF F p) (ho : PadOk p) (hf : Formed p s) {q : PdSquib} (hq : q ∈ p.squibs) (i : Int) : slices_ContainsFunc_int F q.keys (fun a0 => pad_scene_keyed_1 F a0 (scn p s) i) = some (holdsP s i q) :=
 ContainsFunc_eq (fun x hx => by rw [pad_scene_keyed_1, show (scn p s).pdState_Holder = s.holder from rfl, holder_at ho hf hq hx]; rfl) (h.qk q hq).2 (h.qk q hq).1
theorem holds_L1 {F : Nat} {p : PdPad} {s : PdState} (ho : PadOk p) (hf : Formed p s) {q : PdSquib} (hq : q ∈ p.squibs) (i : Int) : ∀ (n k : Nat), q.keys.length < n + k → k ≤ q.keys.length → r7_holds_L1 F s i q (fun _ => some false) n k = some ((q.keys.drop k).any (fun k => decide (s.holder.getD k.toNat (-1) = i)))
 | 0, k, h1, h2 => absurd h1 (by omega)
 | n + 1, k, h1, h2 => by
  have hl := keys_len ho hq
  rw [r7_holds_L1]
  by_cases hk : k < q.keys.length
  ·rw [if_pos (by omega), ixO_nat hk, Option.bind_some, holder_at ho hf hq (List.getElem_mem hk), Option.bind_some, List.drop_eq_getElem_cons hk, List.any_cons, W_succ (by omega), holds_L1 ho hf hq i n (k + 1) (by omega) (by omega), iteP]
   cases decide (s.holder.getD q.keys[k].toNat (-1) = i) <;> rfl
  ·rw [if_neg (by omega), List.drop_of_length_le (by omega)]; rfl
theorem r7_holds_eq {F : Nat} {p : PdPad} {s : PdState} (h : PadF F p) (ho : PadOk p) (hf : Formed p s) {k : Nat} (hk : k < p.squibs.length) (i : Int) : r7_holds F p s i k = some (holdsP s i p.squibs[k]) := by
 have hm := List.getElem_mem hk
 have := holds_L1 (F := F) ho hf hm i F 0 (by have := keys_len ho hm; have := h.f; omega) (by omega)
 rw [r7_holds, ixO_nat hk, Option.bind_some]
 rw [z0] at this
 exact this
def keyAt (p : PdPad) (s : PdState) (i : Int) (z : PdZone) (k : Nat) : Bool := decide (s.squibs.getD k 0 = 2) || !nearW z (p.squibs.getD k default) || holdsP s i (p.squibs.getD k default)
def keyedP (p : PdPad) (s : PdState) (i z : Int) : Bool := decide (z < 0) || (List.range' 0 p.squibs.length).all (keyAt p s i (p.zones.getD z.toNat default))
theorem pad_keyed_L1s {F : Nat} {p : PdPad} {s : PdState} (h : PadF F p) (ho : PadOk p) (hf : Formed p s) (i a : Int) (z : PdZone) : pad_scene_keyed_L1 F (scn p s) i (a, p) z (fun _ => some true) F 0 = some ((List.range' 0 p.squibs.length).all (keyAt p s i z)) := by
 have hF := h.f
 have hq6 := ho.q6
 have := allLoop (g := fun n x => pad_scene_keyed_L1 F (scn p s) i (a, p) z (fun _ => some true) n x) (f := keyAt p s i z) (len := p.squibs.length) (c := some true) (fl := some false) (fun n k hk => by
  have hk' : k < s.squibs.length := by have := hf.lq; omega
  rw [pad_scene_keyed_L1, if_pos (by dsimp only; omega), ixO_nat hk, Option.bind_some, show (scn p s).pdState_Squibs = s.squibs from rfl, ixO_nat hk', Option.bind_some, Option.bind_some, pad_holds_eq h ho hf (List.getElem_mem hk), Option.bind_some, pad_scene_keyed_J1, W_succ (by omega)]
  unfold keyAt
  rw [getD_at _ hk, getD_at _ hk', iteP]
  show (bif nearW z p.squibs[k] then _ else _) = _
  simp only [iteP, dec_true]
  cases nearW z p.squibs[k] <;> cases decide (s.squibs[k] = 2) <;> cases holdsP s i p.squibs[k] <;> rfl) (fun n => by rw [pad_scene_keyed_L1, if_neg (by dsimp only; omega)]) F 0 (by omega) (by omega)
 rw [z0] at this
 refine this.trans ?_
 rw [Nat.sub_zero]
 cases (List.range' 0 p.squibs.length).all (keyAt p s i z) <;> rfl
theorem pad_keyed_eq {F : Nat} {p : PdPad} {s : PdState} (h : PadF F p) (ho : PadOk p) (hf : Formed p s) (i : Int) {z : Int} (hz : z < p.zones.length) : pad_scene_keyed F (scn p s) i z = some (keyedP p s i z) := by
 rw [pad_scene_keyed, pad_near, Option.bind_some]
 dsimp only
 unfold keyedP
 by_cases h0 : z < 0
 ·rw [if_pos h0, decide_eq_true h0]; rfl
 ·obtain ⟨j, rfl⟩ : ∃ j : Nat, z = j := ⟨z.toNat, by omega⟩
  have hj : j < p.zones.length := by omega
  rw [if_neg h0, decide_eq_false h0, Bool.false_or, ixO_nat hj, Option.bind_some, Int.toNat_natCast, getD_at _ hj]
  exact pad_keyed_L1s h ho hf i j _
theorem r7_keyed_eq {F : Nat} {p : PdPad} {s : PdState} (h : PadF F p) (ho : PadOk p) (hf : Formed p s) (i : Int) {z : Int} (hz : z < p.zones.length) : r7_keyed F p s i z = some (keyedP p s i z) := by
 have hF := h.f
 have hq6 := ho.q6
 rw [r7_keyed]
 unfold keyedP
 by_cases h0 : z < 0
 ·obtain ⟨m, rfl⟩ : ∃ m, F = m + 1 := ⟨F - 1, by omega⟩
  rw [r7_keyed_L1, if_neg (show ¬ 0 ≤ z by omega), decide_eq_true h0]
  simp
 ·obtain ⟨j, rfl⟩ : ∃ j : Nat, z = j := ⟨z.toNat, by omega⟩
  have hj : j < p.zones.length := by omega
  rw [decide_eq_false h0, Bool.false_or, Int.toNat_natCast, getD_at _ hj]
  have := allLoop (g := fun n x => r7_keyed_L1 F p s i j (fun _ => some true) n x) (f := keyAt p s i p.zones[j]) (len := p.squibs.length) (c := some true) (fl := some false) (fun n k hk => by
   have hk' : k < s.squibs.length := by have := hf.lq; omega
   rw [r7_keyed_L1, if_pos (by omega), if_pos (by omega), r7_keyed_J2, ixO_nat hk', Option.bind_some, r7_near_eq hj hk, Option.bind_some, r7_holds_eq h ho hf hk, Option.bind_some, r7_keyed_J1, W_succ (by omega)]
   unfold keyAt
   rw [getD_at _ hk, getD_at _ hk']
   simp only [iteP, dec_true]
   cases nearW p.zones[j] p.squibs[k] <;> cases decide (s.squibs[k] = 2) <;> cases holdsP s i p.squibs[k] <;> rfl) (fun n => by rw [r7_keyed_L1, if_neg (by omega)]) F 0 (by omega) (by omega)
  rw [z0] at this
  refine this.trans ?_
  rw [Nat.sub_zero]
  cases (List.range' 0 p.squibs.length).all (keyAt p s i p.zones[j]) <;> rfl
end Go.Proofs.YthcnganbnbhhoaaGreat
open Go Go.Proofs.YthcnganbnbhhoaaGreat.Sh Go.Proofs
namespace Go.Proofs.YthcnganbnbhhoaaGreat
set_option linter.unusedVariables false
set_option linter.unusedSimpArgs false
def aloneP (p : PdPad) (s : PdState) (z : Int) : Bool := decide (0 ≤ z) && ((p.zones.getD z.toNat default).pair && decide (crowdP s z = 1))
theorem pad_alone_eq {F : Nat} {p : PdPad} {s : PdState} (hs : StF F s) {z : Int} (hz : z < p.zones.length) : pad_scene_alone F (scn p s) z = some (aloneP p s z) := by
 rw [pad_scene_alone]
 unfold aloneP
 by_cases h0 : 0 ≤ z
 ·obtain ⟨j, rfl⟩ : ∃ j : Nat, z = j := ⟨z.toNat, by omega⟩
  have hj : j < p.zones.length := by omega
  rw [if_pos h0, show (scn p s).p_Zones = p.zones from rfl, ixO_nat hj, Option.bind_some, pad_crowd_eq hs, Option.bind_some, decide_eq_true h0, Bool.true_and, Int.toNat_natCast, getD_at _ hj, show decide (((crowdP s j : Nat) : Int) = 1) = decide (crowdP s j = 1) by rw [decide_eq_decide]; omega]
  cases p.zones[j].pair <;> rfl
 ·rw [if_neg h0, decide_eq_false h0]; rfl
def zoneS (p : PdPad) (s : PdState) (k : Nat) : Bool := !decide ((p.zones.getD k default).room < (crowdP s k : Int)) && !aloneP p s k
def personS (p : PdPad) (s : PdState) (k : Nat) : Bool := !(decide (0 ≤ s.zones.getD k 0) && decide ((p.people.getD k default).grade < (p.zones.getD (s.zones.getD k 0).toNat default).grade)) && keyedP p s k (s.zones.getD k 0)
def squibS (p : PdPad) (s : PdState) (k : Nat) : Bool := !decide (s.squibs.getD k 0 = 1) || (decide (owedP s (p.squibs.getD k default) = []) && (!decide (s.siren < 0) && !s.storm))
def soundP (p : PdPad) (s : PdState) : Bool := (List.range' 0 p.zones.length).all (zoneS p s) && ((List.range' 0 s.zones.length).all (personS p s) && (List.range' 0 s.squibs.length).all (squibS p s))
theorem len_pos_dec {α : Type} (l : List α) : decide ((0 : Int) < (l.length : Int)) = !decide (l = []) := by
 cases l <;> simp
theorem pad_sound_eq {F : Nat} {p : PdPad} {s : PdState} (h : PadF F p) (hs : StF F s) (ho : PadOk p) (hf : Formed p s) : pad_scene_sound F (scn p s) = some (soundP p s) := by
 have hF := h.f
 have o1 := ho.z8
 have o2 := ho.p8
 have o3 := ho.q6
 have f1 := hf.lz
 have f2 := hf.lq
 have e1 : pad_scene_sound_L1 F (scn p s) (fun _ => some true) F 0 = bif (List.range' 0 s.squibs.length).all (squibS p s) then some true else some false := by
  have := allLoop (g := fun n x => pad_scene_sound_L1 F (scn p s) (fun _ => some true) n x) (f := squibS p s) (len := s.squibs.length) (c := some true) (fl := some false) (fun n k hk => by
   have hk' : k < p.squibs.length := by omega
   rw [pad_scene_sound_L1, if_pos (by dsimp only; omega), show (scn p s).pdState_Squibs = s.squibs from rfl, ixO_nat hk, Option.bind_some, pad_owed_eq h ho hf hk', Option.bind_some, pad_scene_sound_J2, pad_scene_sound_J3, W_succ (by omega)]
   unfold squibS
   rw [getD_at _ hk, getD_at _ hk']
   simp only [iteP, dec_true, len_pos_dec]
   show (bif decide (s.squibs[k] = 1) then bif !decide (owedP s p.squibs[k] = []) then _ else bif decide (s.siren < 0) then _ else bif s.storm then _ else _ else _) = _
   cases decide (s.squibs[k] = 1) <;> cases decide (owedP s p.squibs[k] = []) <;> cases decide (s.siren < 0) <;> cases s.storm <;> rfl) (fun n => by rw [pad_scene_sound_L1, if_neg (by dsimp only; omega)]) F 0 (by omega) (by omega)
  rw [z0] at this
  exact this
 have e2 : ∀ c : Option Bool, pad_scene_sound_L2 F (scn p s) (fun _ => c) F 0 = bif (List.range' 0 s.zones.length).all (personS p s) then c else some false := fun c => by
  have := allLoop (g := fun n x => pad_scene_sound_L2 F (scn p s) (fun _ => c) n x) (f := personS p s) (len := s.zones.length) (c := c) (fl := some false) (fun n k hk => by
   have hk' : k < p.people.length := by omega
   have hz := hf.z _ (List.getElem_mem hk)
   rw [pad_scene_sound_L2, if_pos (by dsimp only; omega), show (scn p s).pdState_Zones = s.zones from rfl, ixO_nat hk, Option.bind_some, show (scn p s).p_People = p.people from rfl, ixO_nat hk', Option.bind_some, pad_keyed_eq h ho hf k hz.2, Option.bind_some, pad_scene_sound_J1, pad_scene_sound_J2, W_succ (by omega)]
   unfold personS
   rw [getD_at _ hk, getD_at _ hk']
   by_cases h0 : 0 ≤ s.zones[k]
   ·obtain ⟨j, ej⟩ : ∃ j : Nat, s.zones[k] = j := ⟨s.zones[k].toNat, by omega⟩
    have hj : j < p.zones.length := by omega
    rw [if_pos h0, decide_eq_true h0, ej, ixO_nat hj, Option.bind_some, Int.toNat_natCast, getD_at _ hj]
    simp only [iteP, dec_true]
    cases decide (p.people[k].grade < p.zones[j].grade) <;> cases keyedP p s k j <;> rfl
   ·rw [if_neg h0, decide_eq_false h0]
    simp only [iteP, dec_true]
    cases keyedP p s k s.zones[k] <;> rfl) (fun n => by rw [pad_scene_sound_L2, if_neg (by dsimp only; omega)]) F 0 (by omega) (by omega)
  rw [z0] at this
  exact this
 have e3 : ∀ c : Option Bool, pad_scene_sound_L3 F (scn p s) (fun _ => c) F 0 = bif (List.range' 0 p.zones.length).all (zoneS p s) then c else some false := fun c => by
  have := allLoop (g := fun n x => pad_scene_sound_L3 F (scn p s) (fun _ => c) n x) (f := zoneS p s) (len := p.zones.length) (c := c) (fl := some false) (fun n k hk => by
   rw [pad_scene_sound_L3, if_pos (by dsimp only; omega), show (scn p s).p_Zones = p.zones from rfl, ixO_nat hk, Option.bind_some, pad_crowd_eq hs, Option.bind_some, pad_alone_eq hs (by omega), Option.bind_some, W_succ (by omega)]
   unfold zoneS
   rw [getD_at _ hk]
   simp only [iteP, dec_true]
   cases decide (p.zones[k].room < (crowdP s k : Int)) <;> cases aloneP p s k <;> rfl) (fun n => by rw [pad_scene_sound_L3, if_neg (by dsimp only; omega)]) F 0 (by omega) (by omega)
  rw [z0] at this
  exact this
 rw [pad_scene_sound, e3, e2, e1]
 unfold soundP
 cases (List.range' 0 p.zones.length).all (zoneS p s) <;> cases (List.range' 0 s.zones.length).all (personS p s) <;> cases (List.range' 0 s.squibs.length).all (squibS p s) <;> rfl
theorem r7_sound_eq {F : Nat} {p : PdPad} {s : PdState} (h : PadF F p) (hs : StF F s) (ho : PadOk p) (hf : Formed p s) : r7_sound F p s = some (soundP p s) := by
 have hF := h.f
 have o1 := ho.z8
 have o2 := ho.p8
 have o3 := ho.q6
 have f1 := hf.lz
 have f2 := hf.lq
 have e1 : r7_sound_L1 F p s (fun _ => some true) F 0 = bif (List.range' 0 s.squibs.length).all (squibS p s) then some true else some false := by
  have := allLoop (g := fun n x => r7_sound_L1 F p s (fun _ => some true) n x) (f := squibS p s) (len := s.squibs.length) (c := some true) (fl := some false) (fun n k hk => by
   have hk' : k < p.squibs.length := by omega
   rw [r7_sound_L1, if_pos (by omega), ixO_nat hk, Option.bind_some, r7_owed_eq h ho hf hk', Option.bind_some, r7_sound_J3, r7_sound_J4, W_succ (by omega)]
   unfold squibS
   rw [getD_at _ hk, getD_at _ hk']
   simp only [iteP, dec_true, len_pos_dec]
   cases decide (s.squibs[k] = 1) <;> cases decide (owedP s p.squibs[k] = []) <;> cases decide (s.siren < 0) <;> cases s.storm <;> rfl) (fun n => by rw [r7_sound_L1, if_neg (by omega)]) F 0 (by omega) (by omega)
  rw [z0] at this
  exact this
 have e2 : ∀ c : Option Bool, r7_sound_L2 F p s (fun _ => c) F 0 = bif (List.range' 0 s.zones.length).all (personS p s) then c else some false := fun c => by
  have := allLoop (g := fun n x => r7_sound_L2 F p s (fun _ => c) n x) (f := personS p s) (len := s.zones.length) (c := c) (fl := some false) (fun n k hk => by
   have hk' : k < p.people.length := by omega
   have hz := hf.z _ (List.getElem_mem hk)
   rw [r7_sound_L2, if_pos (by omega), ixO_nat hk, Option.bind_some, ixO_nat hk', Option.bind_some, r7_keyed_eq h ho hf k hz.2, Option.bind_some, r7_sound_J2, r7_sound_J3, W_succ (by omega)]
   unfold personS
   rw [getD_at _ hk, getD_at _ hk']
   by_cases h0 : 0 ≤ s.zones[k]
   ·obtain ⟨j, ej⟩ : ∃ j : Nat, s.zones[k] = j := ⟨s.zones[k].toNat, by omega⟩
    have hj : j < p.zones.length := by omega
    rw [if_pos h0, decide_eq_true h0, ej, ixO_nat hj, Option.bind_some, Int.toNat_natCast, getD_at _ hj]
    simp only [iteP, dec_true]
    cases decide (p.people[k].grade < p.zones[j].grade) <;> cases keyedP p s k j <;> rfl
   ·rw [if_neg h0, decide_eq_false h0]
    simp only [iteP, dec_true]
    cases keyedP p s k s.zones[k] <;> rfl) (fun n => by rw [r7_sound_L2, if_neg (by omega)]) F 0 (by omega) (by omega)
  rw [z0] at this
  exact this
 have e3 : ∀ c : Option Bool, r7_sound_L3 F p s (fun _ => c) F 0 = bif (List.range' 0 p.zones.length).all (zoneS p s) then c else some false := fun c => by
  have := allLoop (g := fun n x => r7_sound_L3 F p s (fun _ => c) n x) (f := zoneS p s) (len := p.zones.length) (c := c) (fl := some false) (fun n k hk => by
   rw [r7_sound_L3, if_pos (by omega), r7_many_eq hs, Option.bind_some, ixO_nat hk, Option.bind_some, r7_sound_J1, W_succ (by omega)]
   unfold zoneS aloneP
   rw [Int.toNat_natCast, getD_at _ hk, decide_eq_true (show (0 : Int) ≤ (k : Int) by omega)]
   simp only [iteP, dec_true, show decide (((crowdP s k : Nat) : Int) = 1) = decide (crowdP s k = 1) by rw [decide_eq_decide]; omega]
   cases decide (p.zones[k].room < (crowdP s k : Int)) <;> cases p.zones[k].pair <;> cases decide (crowdP s k = 1) <;> rfl) (fun n => by rw [r7_sound_L3, if_neg (by omega)]) F 0 (by omega) (by omega)
  rw [z0] at this
  exact this
 rw [r7_sound, e3, e2, e1]
 unfold soundP
 cases (List.range' 0 p.zones.length).all (zoneS p s) <;> cases (List.range' 0 s.zones.length).all (personS p s) <;> cases (List.range' 0 s.squibs.length).all (squibS p s) <;> rfl
def stateE (p : PdPad) (s : PdState) : Int := bif decide ((checkP p).2.2 = 0) then (bif formedP p s && soundP p s then 0 else 6) else (checkP p).2.2
theorem pad_CheckState_eq {F : Nat} {p : PdPad} {s : PdState} (h : PadF F p) (hs : StF F s) : pad_CheckState F p s = some (stateE p s) := by
 rw [pad_CheckState, pad_Check_eq h, Option.bind_some]
 unfold stateE
 by_cases h0 : (checkP p).2.2 = 0
 ·rw [if_pos h0, decide_eq_true h0, cond_true, pad_stage_eq hs, Option.bind_some]
  show (Option.bind (pad_scene_formed F (scn p s)) _) = _
  rw [pad_formed_eq h hs, Option.bind_some]
  cases hf : formedP p s with
  | false => rfl
  | true =>
   rw [if_pos rfl, pad_sound_eq h hs (checkP_ok h0) (formedP_iff.1 hf), Option.bind_some]
   cases soundP p s <;> rfl
 ·rw [if_neg h0, decide_eq_false h0]; rfl
theorem r7_valid_eq {F : Nat} {p : PdPad} (h : PadF F p) : r7_valid F p = some (checkP p).2.2 := by
 rw [r7_valid, r7_Check_eq h]; rfl
theorem r7_CheckState_eq {F : Nat} {p : PdPad} {s : PdState} (h : PadF F p) (hs : StF F s) : r7_CheckState F p s = some (stateE p s) := by
 rw [r7_CheckState, r7_valid_eq h, Option.bind_some]
 unfold stateE
 by_cases h0 : (checkP p).2.2 = 0
 ·rw [if_pos h0, decide_eq_true h0, cond_true, r7_formed_eq h hs, Option.bind_some]
  cases hf : formedP p s with
  | false => rfl
  | true =>
   rw [if_pos rfl, r7_sound_eq h hs (checkP_ok h0) (formedP_iff.1 hf), Option.bind_some]
   cases soundP p s <;> simp [r7_CheckState_J1, h0]
 ·rw [if_neg h0, decide_eq_false h0]; rfl
structure StOk (p : PdPad) (s : PdState) : Prop where
 o : PadOk p
 f : Formed p s
 s : soundP p s = true
theorem stateE_ok {p : PdPad} {s : PdState} (h : stateE p s = 0) : StOk p s := by
 unfold stateE at h
 by_cases h0 : (checkP p).2.2 = 0
 ·rw [decide_eq_true h0, cond_true] at h
  cases h1 : formedP p s && soundP p s with
  | false => rw [h1] at h; exact absurd h (by simp)
  | true =>
   rw [Bool.and_eq_true] at h1
   exact ⟨checkP_ok h0, formedP_iff.1 h1.1, h1.2⟩
 ·rw [decide_eq_false h0] at h; exact absurd h h0
end Go.Proofs.YthcnganbnbhhoaaGreat
open Go Go.Proofs.YthcnganbnbhhoaaGreat.Sh Go.Proofs
namespace Go.Proofs.YthcnganbnbhhoaaGreat
set_option linter.unusedVariables false
set_option linter.unusedSimpArgs false
def whatE (p : PdPad) (a : PdAct) : Int :=
 bif decide (a.kind = 1) then (bif decide (a.what = -1) then 0 else bif outP a.what 0 ((p.zones.length : Int) - 1) then 4 else 0)
 else bif decide (a.kind = 2) || (decide (a.kind = 3) || decide (a.kind = 4)) then (bif outP a.what 0 ((p.keys.length : Int) - 1) then 4 else 0)
 else bif decide (a.kind = 5) || (decide (a.kind = 6) || decide (a.kind = 7)) then (bif outP a.what 0 ((p.squibs.length : Int) - 1) then 4 else 0)
 else bif outP a.what 0 1 then 2 else 0
def withE (p : PdPad) (a : PdAct) : Int :=
 bif decide (a.kind = 4) || (decide (a.kind = 1) && !decide (a.with_ = -1)) then (bif outP a.with_ 0 ((p.people.length : Int) - 1) then 4 else bif decide (a.with_ = a.who) then 2 else 0)
 else bif decide (a.with_ = -1) then 0 else 2
def actE (p : PdPad) (a : PdAct) : Int := bif outP a.at_ 0 100000 then 7 else bif outP a.kind 1 9 then 2 else bif outP a.who 0 ((p.people.length : Int) - 1) then 4 else bif decide (whatE p a = 0) then withE p a else whatE p a
theorem kinds {k : Int} (h : outP k 1 9 = false) : k = 1 ∨ k = 2 ∨ k = 3 ∨ k = 4 ∨ k = 5 ∨ k = 6 ∨ k = 7 ∨ k = 8 ∨ k = 9 := by
 have := outP_false.1 h
 omega
theorem pad_act_eq {F : Nat} {p : PdPad} (h : PadF F p) (a : PdAct) : pad_act F p a = some (actE p a) := by
 simp only [pad_act, pad_act_J1, pad_act_J2, pad_act_J3, pad_act_J4, pad_act_J5, pad_act_J6, pad_act_J7, pad_act_J8, pad_act_J9, pad_act_J10, pad_act_1, pad_out_eq, W_len h.lz, W_len h.lp, W_len h.lk, W_len h.lq, Option.bind_some, iteP, dec_true]
 unfold actE whatE withE
 cases e1 : outP a.at_ 0 100000 with
 | true => cases decide (a.kind = 4) <;> cases decide (a.kind = 1) <;> cases decide (a.with_ = -1) <;> rfl
 | false =>
  cases e2 : outP a.kind 1 9 with
  | true => cases decide (a.kind = 4) <;> cases decide (a.kind = 1) <;> cases decide (a.with_ = -1) <;> rfl
  | false =>
   cases outP a.who 0 ((p.people.length : Int) - 1) with
   | true => cases decide (a.kind = 4) <;> cases decide (a.kind = 1) <;> cases decide (a.with_ = -1) <;> rfl
   | false =>
    rcases kinds e2 with k | k | k | k | k | k | k | k | k <;> rw [k]
    ·cases decide (a.with_ = -1) <;> cases decide (a.what = -1) <;> cases outP a.what 0 ((p.zones.length : Int) - 1) <;> cases outP a.with_ 0 ((p.people.length : Int) - 1) <;> cases decide (a.with_ = a.who) <;> rfl
    all_goals cases decide (a.with_ = -1) <;> cases outP a.what 0 1 <;> cases outP a.what 0 ((p.keys.length : Int) - 1) <;> cases outP a.what 0 ((p.squibs.length : Int) - 1) <;> cases outP a.with_ 0 ((p.people.length : Int) - 1) <;> cases decide (a.with_ = a.who) <;> rfl
theorem r7_act_eq {F : Nat} {p : PdPad} (h : PadF F p) (a : PdAct) : r7_act F p a = some (actE p a) := by
 simp only [r7_act, r7_act_J1, r7_act_J2, r7_act_J3, r7_act_J4, r7_act_J5, r7_act_J6, r7_zone_eq h, r7_in_eq, W_len h.lz, W_len h.lp, W_len h.lk, W_len h.lq, Option.bind_some, iteP, dec_true]
 unfold actE whatE withE
 cases e1 : outP a.at_ 0 100000 with
 | true => rfl
 | false =>
  cases e2 : outP a.kind 1 9 with
  | true => rfl
  | false =>
   cases outP a.who 0 ((p.people.length : Int) - 1) with
   | true => rfl
   | false =>
    rcases kinds e2 with k | k | k | k | k | k | k | k | k <;> rw [k]
    ·cases decide (a.with_ = -1) <;> cases decide (a.what = -1) <;> cases outP a.what 0 ((p.zones.length : Int) - 1) <;> cases outP a.with_ 0 ((p.people.length : Int) - 1) <;> cases decide (a.with_ = a.who) <;> rfl
    all_goals cases decide (a.with_ = -1) <;> cases outP a.what 0 1 <;> cases outP a.what 0 ((p.keys.length : Int) - 1) <;> cases outP a.what 0 ((p.squibs.length : Int) - 1) <;> cases outP a.with_ 0 ((p.people.length : Int) - 1) <;> cases decide (a.with_ = a.who) <;> rfl
structure ActOk (p : PdPad) (a : PdAct) : Prop where
 t : 0 ≤ a.at_ ∧ a.at_ ≤ 100000
 k : a.kind = 1 ∨ a.kind = 2 ∨ a.kind = 3 ∨ a.kind = 4 ∨ a.kind = 5 ∨ a.kind = 6 ∨ a.kind = 7 ∨ a.kind = 8 ∨ a.kind = 9
 who : 0 ≤ a.who ∧ a.who < p.people.length
 zone : a.kind = 1 → -1 ≤ a.what ∧ a.what < p.zones.length
 key : a.kind = 2 ∨ a.kind = 3 ∨ a.kind = 4 → 0 ≤ a.what ∧ a.what < p.keys.length
 squib : a.kind = 5 ∨ a.kind = 6 ∨ a.kind = 7 → 0 ≤ a.what ∧ a.what < p.squibs.length
 sig : a.kind = 8 ∨ a.kind = 9 → a.what = 0 ∨ a.what = 1
 give : a.kind = 4 → (0 ≤ a.with_ ∧ a.with_ < p.people.length) ∧ a.with_ ≠ a.who
 move : a.kind = 1 → (a.with_ = -1 ∨ (0 ≤ a.with_ ∧ a.with_ < p.people.length)) ∧ a.with_ ≠ a.who
theorem bif0 {b : Bool} {x : Int} (hx : x ≠ 0) : (bif b then x else 0) = 0 ↔ b = false := by cases b <;> simp [hx]
theorem actE_ok {p : PdPad} {a : PdAct} (h : actE p a = 0) : ActOk p a := by
 unfold actE at h
 cases e1 : outP a.at_ 0 100000 with
 | true => rw [e1] at h; exact absurd h (by simp)
 | false =>
  rw [e1, cond_false] at h
  cases e2 : outP a.kind 1 9 with
  | true => rw [e2] at h; exact absurd h (by simp)
  | false =>
   rw [e2, cond_false] at h
   cases e3 : outP a.who 0 ((p.people.length : Int) - 1) with
   | true => rw [e3] at h; exact absurd h (by simp)
   | false =>
    rw [e3, cond_false] at h
    by_cases hw : whatE p a = 0
    ·rw [decide_eq_true hw, cond_true] at h
     have o1 := outP_false.1 e1
     have o3 := outP_false.1 e3
     have hk := kinds e2
     unfold whatE at hw
     unfold withE at h
     refine ⟨o1, hk, by omega, fun k => ?_, fun k => ?_, fun k => ?_, fun k => ?_, fun k => ?_, fun k => ?_⟩
     ·simp only [k, decide_true, cond_true] at hw
      by_cases h0 : a.what = -1
      ·omega
      ·rw [decide_eq_false h0, cond_false, bif0 (by decide), outP_false] at hw; omega
     ·rcases k with k | k | k <;> simp [k] at hw
      all_goals (rw [bif0 (by decide), outP_false] at hw; omega)
     ·rcases k with k | k | k <;> simp [k] at hw
      all_goals (rw [bif0 (by decide), outP_false] at hw; omega)
     ·rcases k with k | k <;> simp [k] at hw
      all_goals (rw [bif0 (by decide), outP_false] at hw; omega)
     ·simp [k] at h
      cases e : outP a.with_ 0 ((p.people.length : Int) - 1) with
      | true => rw [e] at h; exact absurd h (by simp)
      | false =>
       rw [e, cond_false, bif0 (by decide), decide_eq_false_iff_not] at h
       have := outP_false.1 e
       exact ⟨by omega, h⟩
     ·by_cases h0 : a.with_ = -1
      ·exact ⟨.inl h0, by omega⟩
      ·simp [k, h0] at h
       cases e : outP a.with_ 0 ((p.people.length : Int) - 1) with
       | true => rw [e] at h; exact absurd h (by simp)
       | false =>
        rw [e, cond_false, bif0 (by decide), decide_eq_false_iff_not] at h
        have := outP_false.1 e
        exact ⟨.inr (by omega), h⟩
    ·rw [decide_eq_false hw, cond_false] at h; exact absurd h hw
end Go.Proofs.YthcnganbnbhhoaaGreat
open Go Go.Proofs.YthcnganbnbhhoaaGreat.Sh Go.Proofs
namespace Go.Proofs.YthcnganbnbhhoaaGreat
set_option linter.unusedVariables false
set_option linter.unusedSimpArgs false
theorem dem_eq {ρ : Type} (F : Nat) (b : Bool) (e : Int) (f : Int → Option ρ) (G : Unit → Option ρ) : (Option.bind (pad_demand F b e) fun rv => exE rv f G) = bif b then G () else f e := by cases b <;> rfl
theorem exR {ρ : Type} (b : Bool) (e : Int) (v : Scene) (f : Int → Option ρ) (G : Scene → Option ρ) : exE (bif b then (.ok v : Except Int Scene) else .error e) f G = bif b then G v else f e := by cases b <;> rfl
def scR (p : PdPad) : Except Int PdState → Except Int Scene
 | .ok s => .ok (scn p s)
 | .error e => .error e
theorem scR_bif (p : PdPad) (b : Bool) (x y : Except Int PdState) : some (scR p (bif b then x else y)) = bif b then some (scR p x) else some (scR p y) := by cases b <;> rfl
theorem setO_nat {α : Type} (l : List α) (k : Nat) (a : α) : setO l k a = some (l.set k a) := rfl
theorem Index_int_L1s {F : Nat} {s : List Int} {v : Int} (hl : s.length < 9223372036854775808) : ∀ (n k : Nat), s.length < n + k → k ≤ s.length → ∃ r, slices_Index_int_L1 F s v (fun _ => some (-1)) n k = some r ∧ decide (0 ≤ r) = (s.drop k).any (fun e => decide (v = e))
 | 0, k, h, h2 => absurd h (by omega)
 | n + 1, k, h, h2 => by
  rw [slices_Index_int_L1]
  by_cases hk : k < s.length
  ·rw [if_pos (by omega), ixO_nat hk, Option.bind_some, List.drop_eq_getElem_cons hk, List.any_cons, W_succ (by omega)]
   by_cases hp : v = s[k]
   ·rw [if_pos hp]; exact ⟨k, rfl, by simp [hp]⟩
   ·rw [if_neg hp, decide_eq_false hp, Bool.false_or]; exact Index_int_L1s hl n (k + 1) (by omega) (by omega)
  ·rw [if_neg (by omega), List.drop_of_length_le (by omega)]
   exact ⟨-1, rfl, by simp⟩
theorem Contains_int_eq {F : Nat} {s : List Int} {v : Int} (hl : s.length < 9223372036854775808) (hF : s.length < F) : slices_Contains_int F s v = some (s.any (fun e => decide (v = e))) := by
 obtain ⟨r, h1, h2⟩ := Index_int_L1s (F := F) (v := v) hl F 0 (by omega) (by omega)
 rw [z0] at h1
 rw [slices_Contains_int, slices_Index_int, h1, Option.bind_some, h2, List.drop_zero]
theorem Index_door_L1s {F : Nat} {s : List PdDoor} {v : PdDoor} (hl : s.length < 9223372036854775808) : ∀ (n k : Nat), s.length < n + k → k ≤ s.length → ∃ r, slices_Index_PdDoor_L1 F s v (fun _ => some (-1)) n k = some r ∧ decide (0 ≤ r) = (s.drop k).any (fun e => PdDoor.beq v e)
 | 0, k, h, h2 => absurd h (by omega)
 | n + 1, k, h, h2 => by
  rw [slices_Index_PdDoor_L1]
  by_cases hk : k < s.length
  ·rw [if_pos (by omega), ixO_nat hk, Option.bind_some, List.drop_eq_getElem_cons hk, List.any_cons, W_succ (by omega)]
   cases hp : PdDoor.beq v s[k] with
   | true => exact ⟨k, rfl, by simp⟩
   | false => simpa using Index_door_L1s hl n (k + 1) (by omega) (by omega)
  ·rw [if_neg (by omega), List.drop_of_length_le (by omega)]
   exact ⟨-1, rfl, by simp⟩
theorem Contains_door_eq {F : Nat} {s : List PdDoor} {v : PdDoor} (hl : s.length < 9223372036854775808) (hF : s.length < F) : slices_Contains_PdDoor F s v = some (s.any (fun e => PdDoor.beq v e)) := by
 obtain ⟨r, h1, h2⟩ := Index_door_L1s (F := F) (v := v) hl F 0 (by omega) (by omega)
 rw [z0] at h1
 rw [slices_Contains_PdDoor, slices_Index_PdDoor, h1, Option.bind_some, h2, List.drop_zero]
structure Acts (F : Nat) (p : PdPad) (s : PdState) (a : PdAct) : Prop where
 h : PadF F p
 hs : StF F s
 o : PadOk p
 f : Formed p s
 a : ActOk p a
theorem Acts.who {F : Nat} {p : PdPad} {s : PdState} {a : PdAct} (h : Acts F p s a) : ∃ i : Nat, a.who = i ∧ i < p.people.length ∧ i < s.zones.length := by
 have h1 := h.a.who
 have h2 := h.f.lz
 exact ⟨a.who.toNat, by omega, by omega, by omega⟩
theorem Acts.key {F : Nat} {p : PdPad} {s : PdState} {a : PdAct} (h : Acts F p s a) (k : a.kind = 2 ∨ a.kind = 3 ∨ a.kind = 4) : ∃ i : Nat, a.what = i ∧ i < p.keys.length ∧ i < s.holder.length := by
 have h1 := h.a.key k
 have h2 := h.f.lh
 exact ⟨a.what.toNat, by omega, by omega, by omega⟩
theorem Acts.squib {F : Nat} {p : PdPad} {s : PdState} {a : PdAct} (h : Acts F p s a) (k : a.kind = 5 ∨ a.kind = 6 ∨ a.kind = 7) : ∃ i : Nat, a.what = i ∧ i < p.squibs.length ∧ i < s.squibs.length := by
 have h1 := h.a.squib k
 have h2 := h.f.lq
 exact ⟨a.what.toNat, by omega, by omega, by omega⟩
def atP (p : PdPad) (s : PdState) (i : Int) : Bool := decide (s.zones.getD i.toNat 0 = p.panel)
theorem ix_zone {s : PdState} {i : Nat} (hi : i < s.zones.length) : ixO s.zones (i : Int) = some (s.zones.getD (i : Int).toNat 0) := by rw [ixO_nat hi, Int.toNat_natCast, getD_at _ hi]
theorem ix_holder {s : PdState} {i : Nat} (hi : i < s.holder.length) : ixO s.holder (i : Int) = some (s.holder.getD (i : Int).toNat (-1)) := by rw [ixO_nat hi, Int.toNat_natCast, getD_at _ hi]
theorem ix_squib {s : PdState} {i : Nat} (hi : i < s.squibs.length) : ixO s.squibs (i : Int) = some (s.squibs.getD (i : Int).toNat 0) := by rw [ixO_nat hi, Int.toNat_natCast, getD_at _ hi]
theorem ix_person {p : PdPad} {i : Nat} (hi : i < p.people.length) : ixO p.people (i : Int) = some (p.people.getD (i : Int).toNat default) := by rw [ixO_nat hi, Int.toNat_natCast, getD_at _ hi]
theorem ix_sq {p : PdPad} {i : Nat} (hi : i < p.squibs.length) : ixO p.squibs (i : Int) = some (p.squibs.getD (i : Int).toNat default) := by rw [ixO_nat hi, Int.toNat_natCast, getD_at _ hi]
theorem ix_zn {p : PdPad} {i : Nat} (hi : i < p.zones.length) : ixO p.zones (i : Int) = some (p.zones.getD (i : Int).toNat default) := by rw [ixO_nat hi, Int.toNat_natCast, getD_at _ hi]
theorem atPanel_eq {F : Nat} {p : PdPad} {s : PdState} {i : Nat} (hi : i < s.zones.length) : pad_scene_atPanel_m F (scn p s) i = some (bif atP p s i then .ok (scn p s) else .error 171) := by
 rw [pad_scene_atPanel_m, show (scn p s).pdState_Zones = s.zones from rfl, ix_zone hi, Option.bind_some, dem_eq]
 unfold atP
 cases decide (s.zones.getD (i : Int).toNat 0 = p.panel) <;> rfl
def armedP (p : PdPad) (s : PdState) (f : PdSquib → Bool) : Bool := !(List.range' 0 s.squibs.length).all (fun k => !(decide (s.squibs.getD k 0 = 1) && f (p.squibs.getD k default)))
theorem armed_eq {F : Nat} {p : PdPad} {s : PdState} {a : PdAct} (h : Acts F p s a) {so : PdSquib → Option Bool} {f : PdSquib → Bool} (hf : ∀ q ∈ p.squibs, so q = some (f q)) : pad_scene_armed F (scn p s) so = some (armedP p s f) := by
 have h1 := h.h.f
 have h2 := h.o.q6
 have h3 := h.f.lq
 have := allLoop (g := fun n x => pad_scene_armed_L1 F (scn p s) so (fun _ => some false) n x) (f := fun k => !(decide (s.squibs.getD k 0 = 1) && f (p.squibs.getD k default))) (len := s.squibs.length) (c := some false) (fl := some true) (fun n k hk => by
  have hk' : k < p.squibs.length := by omega
  rw [pad_scene_armed_L1, if_pos (by dsimp only; omega), show (scn p s).pdState_Squibs = s.squibs from rfl, ixO_nat hk, Option.bind_some, show (scn p s).p_Squibs = p.squibs from rfl, ixO_nat hk', Option.bind_some, hf _ (List.getElem_mem hk'), Option.bind_some, pad_scene_armed_J1, W_succ (by omega), getD_at _ hk, getD_at _ hk']
  simp only [iteP, dec_true]
  cases decide (s.squibs[k] = 1) <;> cases f p.squibs[k] <;> rfl) (fun n => by rw [pad_scene_armed_L1, if_neg (by dsimp only; omega)]) F 0 (by omega) (by omega)
 rw [z0] at this
 refine this.trans ?_
 unfold armedP
 rw [Nat.sub_zero]
 cases (List.range' 0 s.squibs.length).all (fun k => !(decide (s.squibs.getD k 0 = 1) && f (p.squibs.getD k default))) <;> rfl
def dm (b : Bool) (e : Int) (x : Except Int PdState) : Except Int PdState := bif b then x else .error e
def holdSet (s : PdState) (k v : Int) : PdState := {s with holder := s.holder.set k.toNat v}
def sqSet (s : PdState) (k v : Int) : PdState := {s with squibs := s.squibs.set k.toNat v}
def takeP (p : PdPad) (s : PdState) (a : PdAct) : Except Int PdState := dm (atP p s a.who) 171 (dm (!heldP s a.what) 174 (dm (!armedP p s (fun q => q.keys.any (fun e => decide (a.what = e)))) 177 (.ok (holdSet s a.what a.who))))
def putP (p : PdPad) (s : PdState) (a : PdAct) : Except Int PdState := dm (atP p s a.who) 171 (dm (decide (s.holder.getD a.what.toNat (-1) = a.who)) 174 (.ok (holdSet s a.what (-1))))
def giveP (p : PdPad) (s : PdState) (a : PdAct) : Except Int PdState := dm (decide (s.holder.getD a.what.toNat (-1) = a.who)) 174 (dm (decide (s.zones.getD a.with_.toNat 0 = s.zones.getD a.who.toNat 0)) 171 (dm (keyedP p (holdSet s a.what a.with_) a.who (s.zones.getD a.who.toNat 0)) 178 (.ok (holdSet s a.what a.with_))))
def gradeP (p : PdPad) (a : PdAct) : Bool := decide ((p.squibs.getD a.what.toNat default).grade ≤ (p.people.getD a.who.toNat default).grade)
def waitedP (p : PdPad) (s : PdState) (a : PdAct) : Bool := decide (0 ≤ s.siren) && decide (p.wait ≤ a.at_ - s.siren)
def armP (p : PdPad) (s : PdState) (a : PdAct) : Except Int PdState := dm (atP p s a.who) 171 (dm (gradeP p a) 172 (dm (decide (s.squibs.getD a.what.toNat 0 = 0)) 177 (dm (!s.storm) 173 (dm (decide (owedP s (p.squibs.getD a.what.toNat default) = [])) 174 (dm (waitedP p s a) 179 (.ok (sqSet s a.what 1)))))))
def disarmP (p : PdPad) (s : PdState) (a : PdAct) : Except Int PdState := dm (atP p s a.who) 171 (dm (decide (s.squibs.getD a.what.toNat 0 = 1)) 177 (.ok (sqSet s a.what 0)))
def fireP (p : PdPad) (s : PdState) (a : PdAct) : Except Int PdState := dm (atP p s a.who) 171 (dm (gradeP p a) 172 (dm (decide (s.squibs.getD a.what.toNat 0 = 1)) 177 (.ok (sqSet s a.what 2))))
def sirenP (p : PdPad) (s : PdState) (a : PdAct) : Except Int PdState := dm (atP p s a.who) 171 (dm (decide (0 ≤ s.siren) != decide (a.what = 1)) 177 (dm (decide (a.what = 1) || !armedP p s (fun _ => true)) 179 (.ok {s with siren := bif decide (a.what = 1) then a.at_ else -1})))
def safeL (l : List Int) : List Int := l.map fun x => bif decide (x = 1) then 0 else x
def thunderP (s : PdState) (a : PdAct) : Except Int PdState := dm (s.storm != decide (a.what = 1)) 177 (.ok {s with storm := decide (a.what = 1), squibs := bif decide (a.what = 1) then safeL s.squibs else s.squibs})
theorem take_eq {F : Nat} {p : PdPad} {s : PdState} {a : PdAct} (h : Acts F p s a) (k : a.kind = 2) : pad_scene_take_m F (scn p s) a = some (scR p (takeP p s a)) := by
 obtain ⟨i, ei, hi, hi'⟩ := h.who
 obtain ⟨j, ej, hj, hj'⟩ := h.key (.inl k)
 rw [pad_scene_take_m, ei, atPanel_eq hi', Option.bind_some, exR, show (scn p s).pdState_Holder = s.holder from rfl, ej, ix_holder hj', Option.bind_some, dem_eq, armed_eq h (f := fun q => q.keys.any (fun e => decide (a.what = e))) (fun q hq => by rw [pad_scene_take_1, Contains_int_eq (h.h.qk q hq).2 (h.h.qk q hq).1]; rfl), Option.bind_some, dem_eq, setO_nat, Option.bind_some, ej]
 unfold takeP dm
 rw [ei, ej, scR_bif, scR_bif, scR_bif, show (decide (s.holder.getD (j : Int).toNat (-1) < 0)) = !heldP s (j : Int) by unfold heldP; rw [← decide_not, decide_eq_decide]; omega]
 rfl
theorem put_eq {F : Nat} {p : PdPad} {s : PdState} {a : PdAct} (h : Acts F p s a) (k : a.kind = 3) : pad_scene_put_m F (scn p s) a = some (scR p (putP p s a)) := by
 obtain ⟨i, ei, hi, hi'⟩ := h.who
 obtain ⟨j, ej, hj, hj'⟩ := h.key (.inr (.inl k))
 rw [pad_scene_put_m, ei, atPanel_eq hi', Option.bind_some, exR, show (scn p s).pdState_Holder = s.holder from rfl, ej, ix_holder hj', Option.bind_some, dem_eq, setO_nat, Option.bind_some]
 unfold putP dm
 rw [ei, ej, scR_bif, scR_bif]
 rfl
theorem formed_hold {p : PdPad} {s : PdState} (hf : Formed p s) (k : Int) {v : Int} (hv : -1 ≤ v ∧ v < p.people.length) : Formed p (holdSet s k v) :=
 ⟨hf.now, hf.siren, hf.lz, by simpa [holdSet] using hf.lh, hf.lq, hf.z, fun x hx => by
  rcases List.mem_or_eq_of_mem_set hx with h | h
  ·exact hf.h x h
  ·subst h; exact hv, hf.q⟩
theorem give_eq {F : Nat} {p : PdPad} {s : PdState} {a : PdAct} (h : Acts F p s a) (k : a.kind = 4) : pad_scene_give_m F (scn p s) a = some (scR p (giveP p s a)) := by
 obtain ⟨i, ei, hi, hi'⟩ := h.who
 obtain ⟨j, ej, hj, hj'⟩ := h.key (.inr (.inr k))
 have hw := h.a.give k
 have hl := h.f.lz
 obtain ⟨m, em⟩ : ∃ m : Nat, a.with_ = m := ⟨a.with_.toNat, by omega⟩
 have hm : m < s.zones.length := by omega
 have hz : s.zones.getD (i : Int).toNat 0 < p.zones.length := by rw [Int.toNat_natCast, getD_at _ hi']; exact (h.f.z _ (List.getElem_mem hi')).2
 have hk := pad_keyed_eq h.h h.o (formed_hold h.f (j : Int) (v := (m : Int)) (by omega)) i hz
 rw [pad_scene_give_m, show (scn p s).pdState_Holder = s.holder from rfl, ej, ix_holder hj', Option.bind_some, dem_eq, show (scn p s).pdState_Zones = s.zones from rfl, em, ix_zone hm, Option.bind_some, ei, ix_zone hi', Option.bind_some, dem_eq, setO_nat, Option.bind_some]
 show (bif decide (s.holder.getD (j : Int).toNat (-1) = i) then (bif decide (s.zones.getD (m : Int).toNat 0 = s.zones.getD (i : Int).toNat 0) then (Option.bind (pad_scene_keyed F (scn p (holdSet s j m)) i (s.zones.getD (i : Int).toNat 0)) fun rv3 => Option.bind (pad_demand F rv3 178) fun rv4 => exE rv4 (fun x3 => some (.error x3)) (fun _ => some (.ok (scn p (holdSet s j m))))) else some (.error 171)) else some (.error 174) : Option (Except Int Scene)) = _
 rw [hk]
 rw [Option.bind_some, dem_eq]
 unfold giveP dm
 rw [ei, ej, em, scR_bif, scR_bif, scR_bif]
 rfl
theorem badge_eq {F : Nat} {p : PdPad} {s : PdState} {a : PdAct} (h : Acts F p s a) (k : a.kind = 5 ∨ a.kind = 6 ∨ a.kind = 7) : pad_scene_badge_m F (scn p s) a = some (bif atP p s a.who then (bif gradeP p a then .ok (scn p s) else .error 172) else .error 171) := by
 obtain ⟨i, ei, hi, hi'⟩ := h.who
 obtain ⟨j, ej, hj, hj'⟩ := h.squib k
 rw [pad_scene_badge_m, ei, atPanel_eq hi', Option.bind_some, exR, show (scn p s).p_People = p.people from rfl, ix_person hi, Option.bind_some, show (scn p s).p_Squibs = p.squibs from rfl, ej, ix_sq hj, Option.bind_some, dem_eq]
 unfold gradeP
 rw [ei, ej]
 cases atP p s i <;> cases decide ((p.squibs.getD (j : Int).toNat default).grade ≤ (p.people.getD (i : Int).toNat default).grade) <;> rfl
theorem exR2 {ρ : Type} (b c : Bool) (e e2 : Int) (v : Scene) (f : Int → Option ρ) (G : Scene → Option ρ) : exE (bif b then (bif c then (.ok v : Except Int Scene) else .error e2) else .error e) f G = bif b then (bif c then G v else f e2) else f e := by cases b <;> cases c <;> rfl
theorem disarm_eq {F : Nat} {p : PdPad} {s : PdState} {a : PdAct} (h : Acts F p s a) (k : a.kind = 6) : pad_scene_disarm_m F (scn p s) a = some (scR p (disarmP p s a)) := by
 obtain ⟨i, ei, hi, hi'⟩ := h.who
 obtain ⟨j, ej, hj, hj'⟩ := h.squib (.inr (.inl k))
 rw [pad_scene_disarm_m, ei, atPanel_eq hi', Option.bind_some, exR, show (scn p s).pdState_Squibs = s.squibs from rfl, ej, ix_squib hj', Option.bind_some, dem_eq, setO_nat, Option.bind_some]
 unfold disarmP dm
 rw [ei, ej, scR_bif, scR_bif]
 rfl
theorem fire_eq {F : Nat} {p : PdPad} {s : PdState} {a : PdAct} (h : Acts F p s a) (k : a.kind = 7) : pad_scene_fire_m F (scn p s) a = some (scR p (fireP p s a)) := by
 obtain ⟨j, ej, hj, hj'⟩ := h.squib (.inr (.inr k))
 rw [pad_scene_fire_m, badge_eq h (.inr (.inr k)), Option.bind_some, exR2, show (scn p s).pdState_Squibs = s.squibs from rfl]
 unfold fireP dm
 rw [scR_bif, scR_bif, scR_bif, ej, ix_squib hj', Option.bind_some, dem_eq, setO_nat, Option.bind_some]
 rfl
theorem len0_dec {α : Type} (l : List α) : decide ((l.length : Int) = 0) = decide (l = []) := by
 cases l <;> simp
 omega
theorem arm_eq {F : Nat} {p : PdPad} {s : PdState} {a : PdAct} (h : Acts F p s a) (k : a.kind = 5) : pad_scene_arm_m F (scn p s) a = some (scR p (armP p s a)) := by
 obtain ⟨j, ej, hj, hj'⟩ := h.squib (.inl k)
 have ht := h.a.t
 have hsi := h.f.siren
 have hn := h.f.now
 rw [pad_scene_arm_m, badge_eq h (.inl k), Option.bind_some, exR2, show (scn p s).pdState_Squibs = s.squibs from rfl]
 unfold armP dm
 rw [scR_bif, scR_bif, scR_bif, scR_bif, scR_bif, scR_bif, ej, ix_squib hj', Option.bind_some, dem_eq, dem_eq, pad_owed_eq h.h h.o h.f hj, Option.bind_some, dem_eq, dem_eq, dem_eq, setO_nat, Option.bind_some, iteP, len0_dec, show (scn p s).pdState_Siren = s.siren from rfl, W_id (x := a.at_ - s.siren)]
 unfold waitedP
 rw [Int.toNat_natCast, getD_at _ hj]
 show (bif atP p s a.who then bif gradeP p a then bif decide (s.squibs.getD j 0 = 0) then bif !s.storm then bif decide (owedP s p.squibs[j] = []) then bif decide (0 ≤ s.siren) then bif decide (p.wait ≤ a.at_ - s.siren) then _ else _ else _ else _ else _ else _ else _ else _) = _
 cases atP p s a.who <;> cases gradeP p a <;> cases decide (s.squibs.getD j 0 = 0) <;> cases s.storm <;> cases decide (owedP s p.squibs[j] = []) <;> cases decide (0 ≤ s.siren) <;> cases decide (p.wait ≤ a.at_ - s.siren) <;> rfl
theorem siren_eq {F : Nat} {p : PdPad} {s : PdState} {a : PdAct} (h : Acts F p s a) (k : a.kind = 8) : pad_scene_siren_m F (scn p s) a = some (scR p (sirenP p s a)) := by
 obtain ⟨i, ei, hi, hi'⟩ := h.who
 rw [pad_scene_siren_m, ei, atPanel_eq hi', Option.bind_some, exR, Option.bind_some, exR, armed_eq h (f := fun _ => true) (fun q hq => by rw [pad_scene_siren_1]), Option.bind_some, dem_eq, dem_eq, dem_eq, dem_eq]
 unfold sirenP dm
 rw [ei, scR_bif, scR_bif, scR_bif]
 by_cases hw : a.what = 1
 ·rw [if_pos hw, decide_eq_true hw]
  rfl
 ·rw [if_neg hw, decide_eq_false hw]
  rfl
theorem safe_take (l : List Int) (k : Nat) (h : k < l.length) : ((safeL l).take k ++ l.drop k).set k (bif decide (l[k] = 1) then 0 else l[k]) = (safeL l).take (k + 1) ++ l.drop (k + 1) := by
 have hk : ((safeL l).take k).length = k := by simp [safeL]; omega
 rw [List.set_append_right _ _ (by omega), hk, Nat.sub_self, List.drop_eq_getElem_cons h, List.set_cons_zero, List.take_succ_eq_append_getElem (by simpa [safeL] using h)]
 simp [safeL]
theorem safe_at (l : List Int) (k : Nat) (h : k < l.length) : ((safeL l).take k ++ l.drop k)[k]? = some l[k] := by
 have hk : ((safeL l).take k).length = k := by simp [safeL]; omega
 rw [List.getElem?_append_right (by omega), hk, Nat.sub_self, List.drop_eq_getElem_cons h]
 rfl
theorem thunder_eq {F : Nat} {p : PdPad} {s : PdState} {a : PdAct} (h : Acts F p s a) : pad_scene_thunder_m F (scn p s) a = some (scR p (thunderP s a)) := by
 have h1 := h.h.f
 have h2 := h.o.q6
 have h3 := h.f.lq
 have e1 : ∀ (c : List Int → Option (Except Int Scene)), pad_scene_thunder_m_L1 F (fun c3 _ _ => c c3) F s.squibs (s.squibs.length : Int) 0 = c (safeL s.squibs) := fun c => by
  have := foldLoop (σ := List Int) (g := fun n l x => pad_scene_thunder_m_L1 F (fun c3 _ _ => c c3) n l (s.squibs.length : Int) x) (len := s.squibs.length) (f := fun _ k => (safeL s.squibs).take (k + 1) ++ s.squibs.drop (k + 1)) (c := c) (fun l k => l = (safeL s.squibs).take k ++ s.squibs.drop k) (fun l k _ _ => rfl) (fun n l k hk hl => by
   have hix : ixO l (k : Int) = some s.squibs[k] := by
    unfold ixO
    rw [if_pos (by omega), Int.toNat_natCast, hl, safe_at _ _ hk]
   rw [pad_scene_thunder_m_L1, if_pos (by omega), hix, Option.bind_some, setO_nat, Option.bind_some, W_succ (by omega), ← safe_take _ _ hk, ← hl]
   by_cases h0 : s.squibs[k] = 1
   ·rw [if_pos h0, decide_eq_true h0]; rfl
   ·rw [if_neg h0, decide_eq_false h0, cond_false]
    congr 1
    apply List.ext_getElem?
    intro m
    rw [List.getElem?_set]
    by_cases hm : k = m
    ·subst hm
     rw [if_pos rfl, hl, safe_at _ _ hk, if_pos (by simp [safeL]; omega)]
    ·rw [if_neg hm]) (fun n l _ => by rw [pad_scene_thunder_m_L1, if_neg (by omega)]) F s.squibs 0 (by simp) (by omega) (by omega)
  rw [z0] at this
  refine this.trans ?_
  rw [Nat.sub_zero]
  cases hn : s.squibs.length with
  | zero =>
   have : s.squibs = [] := List.eq_nil_of_length_eq_zero hn
   rw [this]; rfl
  | succ m =>
   rw [List.range'_1_concat, List.foldl_append]
   simp only [List.foldl_cons, List.foldl_nil, Nat.zero_add]
   rw [List.take_of_length_le (by simp [safeL]; omega), List.drop_of_length_le (by omega), List.append_nil]
 have e2 : ∀ (c : List Int → Option (Except Int Scene)), pad_scene_thunder_m_L2 F (fun c3 _ _ => c c3) F s.squibs (s.squibs.length : Int) 0 = c s.squibs := fun c => by
  have := foldLoop (σ := List Int) (g := fun n l x => pad_scene_thunder_m_L2 F (fun c3 _ _ => c c3) n l (s.squibs.length : Int) x) (len := s.squibs.length) (f := fun l _ => l) (c := c) (fun l _ => l = s.squibs) (fun l k _ hl => hl) (fun n l k hk hl => by
   rw [pad_scene_thunder_m_L2, if_pos (by omega), hl, ixO_nat hk, Option.bind_some, W_succ (by omega)]) (fun n l _ => by rw [pad_scene_thunder_m_L2, if_neg (by omega)]) F s.squibs 0 rfl (by omega) (by omega)
  rw [z0] at this
  refine this.trans ?_
  congr 1
  generalize List.range' 0 (s.squibs.length - 0) = r
  induction r with
  | nil => rfl
  | cons x r ih => exact ih
 rw [pad_scene_thunder_m, dem_eq, dem_eq]
 unfold thunderP dm
 rw [scR_bif]
 by_cases hw : a.what = 1
 ·rw [if_pos hw, decide_eq_true hw]
  show (bif s.storm != true then pad_scene_thunder_m_L1 F _ F s.squibs (s.squibs.length : Int) 0 else _) = _
  rw [e1]
  rfl
 ·rw [if_neg hw, decide_eq_false hw]
  show (bif s.storm != false then pad_scene_thunder_m_L2 F _ F s.squibs (s.squibs.length : Int) 0 else _) = _
  rw [e2]
  rfl
end Go.Proofs.YthcnganbnbhhoaaGreat
open Go Go.Proofs.YthcnganbnbhhoaaGreat.Sh Go.Proofs
namespace Go.Proofs.YthcnganbnbhhoaaGreat
set_option linter.unusedVariables false
set_option linter.unusedSimpArgs false
def stormyP (p : PdPad) (s : PdState) (z : PdZone) : Bool := !(List.range' 0 p.squibs.length).all (fun k => decide (s.squibs.getD k 0 = 2) || !nearW z (p.squibs.getD k default))
def comesE (p : PdPad) (s : PdState) (i z : Int) : Int := bif decide (z < 0) then 0 else bif decide ((p.people.getD i.toNat default).grade < (p.zones.getD z.toNat default).grade) then 172 else bif s.storm && stormyP p s (p.zones.getD z.toNat default) then 173 else bif keyedP p s i z then 0 else 174
def doorP (p : PdPad) (a b : Int) : Bool := p.doors.any (fun d => PdDoor.beq ⟨a, b⟩ d) || p.doors.any (fun d => PdDoor.beq ⟨b, a⟩ d)
def zonesSet (s : PdState) (a : PdAct) : List Int := bif decide (0 ≤ a.with_) then (s.zones.set a.who.toNat a.what).set a.with_.toNat a.what else s.zones.set a.who.toNat a.what
def zoneSet (s : PdState) (l : List Int) : PdState := {s with zones := l}
def fullP (p : PdPad) (s : PdState) (z : Int) : Bool := decide (0 ≤ z) && decide ((p.zones.getD z.toNat default).room < (crowdP s z : Int))
def c2E (p : PdPad) (s : PdState) (a : PdAct) : Int := bif decide (0 ≤ a.with_) then comesE p s a.with_ a.what else 0
def moveP (p : PdPad) (s : PdState) (a : PdAct) : Except Int PdState :=
 dm (doorP p (s.zones.getD a.who.toNat 0) a.what && (!decide (0 ≤ a.with_) || decide (s.zones.getD a.with_.toNat 0 = s.zones.getD a.who.toNat 0))) 171
  (dm (decide (comesE p s a.who a.what = 0)) (comesE p s a.who a.what)
   (dm (decide (c2E p s a = 0)) (c2E p s a)
    (dm (!fullP p (zoneSet s (zonesSet s a)) a.what) 175
     (dm (!aloneP p (zoneSet s (zonesSet s a)) a.what && !aloneP p (zoneSet s (zonesSet s a)) (s.zones.getD a.who.toNat 0)) 176 (.ok (zoneSet s (zonesSet s a)))))))
theorem move_round {F : Nat} {p : PdPad} {s : PdState} {a : PdAct} (h : Acts F p s a) (k : a.kind = 1) {y : List Int} {x i : Nat} (hx : y[x]? = some (i : Int)) (hi : i < p.people.length) (hy : y.length < 1000) (K : Int → Option (Except Int Scene)) (n : Nat) :
 pad_scene_move_m_L3 F (scn p s) a y K (n + 1) x = bif decide (comesE p s i a.what = 0) then pad_scene_move_m_L3 F (scn p s) a y K n ((x + 1 : Nat) : Int) else some (.error (comesE p s i a.what)) := by
 have hF := h.h.f
 have hz := h.a.zone k
 have hq6 := h.o.q6
 obtain ⟨hxl, hxe⟩ := List.getElem?_eq_some_iff.1 hx
 have hke := pad_keyed_eq h.h h.o h.f (i : Int) (z := a.what) hz.2
 have hJ1 : ∀ c : Int → Option (Except Int Scene), pad_scene_move_m_J1 F c (scn p s) a x i = bif keyedP p s i a.what then c ((x + 1 : Nat) : Int) else some (.error 174) := fun c => by
  rw [pad_scene_move_m_J1, hke, Option.bind_some, dem_eq, W_succ (by omega)]
 rw [pad_scene_move_m_L3, if_pos (by omega), ixO_nat hxl, Option.bind_some, hxe]
 unfold comesE
 by_cases h0 : a.what < 0
 ·rw [if_pos h0, dem_eq, cond_true, decide_eq_true h0, cond_true, pad_scene_move_m_J2, pad_near, Option.bind_some]
  dsimp only
  rw [if_pos h0, hJ1]
  unfold keyedP
  rw [decide_eq_true h0]
  rfl
 ·obtain ⟨j, ej⟩ : ∃ j : Nat, a.what = j := ⟨a.what.toNat, by omega⟩
  have hj : j < p.zones.length := by omega
  rw [if_neg h0, decide_eq_false h0, cond_false, show (scn p s).p_People = p.people from rfl, ix_person hi, Option.bind_some, show (scn p s).p_Zones = p.zones from rfl, ej, ix_zn hj, Option.bind_some, dem_eq, pad_scene_move_m_J2, pad_near, Option.bind_some, ej]
  dsimp only
  rw [if_neg (by omega), ix_zn hj, Option.bind_some]
  rw [ej] at hJ1
  rw [hJ1]
  have hl : ∀ c : Option (Except Int Scene), pad_scene_move_m_L1 F (scn p s) ((j : Int), p) (p.zones.getD (j : Int).toNat default) (fun _ => c) F 0 = bif s.storm && stormyP p s (p.zones.getD (j : Int).toNat default) then some (.error 173) else c := fun c => by
   have := allLoop (g := fun n x6 => pad_scene_move_m_L1 F (scn p s) ((j : Int), p) (p.zones.getD (j : Int).toNat default) (fun _ => c) n x6) (f := fun k => !s.storm || (decide (s.squibs.getD k 0 = 2) || !nearW (p.zones.getD (j : Int).toNat default) (p.squibs.getD k default))) (len := p.squibs.length) (c := c) (fl := some (.error 173)) (fun n k hk => by
    have hk' : k < s.squibs.length := by have := h.f.lq; omega
    rw [pad_scene_move_m_L1, if_pos (by dsimp only; omega), ixO_nat hk, Option.bind_some, show (scn p s).pdState_Squibs = s.squibs from rfl, ixO_nat hk', Option.bind_some, dem_eq, dem_eq, W_succ (by omega), getD_at _ hk, getD_at _ hk']
    simp only [iteP, dec_true]
    show (bif nearW (p.zones.getD (j : Int).toNat default) p.squibs[k] then bif s.storm then _ else _ else _) = _
    cases nearW (p.zones.getD (j : Int).toNat default) p.squibs[k] <;> cases s.storm <;> cases decide (s.squibs[k] = 2) <;> rfl) (fun n => by rw [pad_scene_move_m_L1, if_neg (by dsimp only; omega)]) F 0 (by omega) (by omega)
   rw [z0] at this
   refine this.trans ?_
   unfold stormyP
   rw [Nat.sub_zero]
   cases s.storm
   ·have e : ((List.range' 0 p.squibs.length).all fun k => !false || (decide (s.squibs.getD k 0 = 2) || !nearW (p.zones.getD (j : Int).toNat default) (p.squibs.getD k default))) = true := List.all_eq_true.2 fun _ _ => rfl
    rw [e]; rfl
   ·simp only [Bool.not_true, Bool.false_or, Bool.true_and]
    cases (List.range' 0 p.squibs.length).all (fun k => decide (s.squibs.getD k 0 = 2) || !nearW (p.zones.getD (j : Int).toNat default) (p.squibs.getD k default)) <;> rfl
  rw [hl, show decide ((p.zones.getD (j : Int).toNat default).grade ≤ (p.people.getD (i : Int).toNat default).grade) = !decide ((p.people.getD (i : Int).toNat default).grade < (p.zones.getD (j : Int).toNat default).grade) by rw [← decide_not, decide_eq_decide]; omega]
  cases decide ((p.people.getD (i : Int).toNat default).grade < (p.zones.getD (j : Int).toNat default).grade) <;> cases s.storm && stormyP p s (p.zones.getD (j : Int).toNat default) <;> cases keyedP p s i j <;> rfl
theorem zoneSet_StF {F : Nat} {s : PdState} (h : StF F s) {l : List Int} (hl : l.length = s.zones.length) : StF F (zoneSet s l) := ⟨by rw [show (zoneSet s l).zones = l from rfl, hl]; exact h.z, h.h, h.q⟩
theorem zonesSet_len (s : PdState) (a : PdAct) : (zonesSet s a).length = s.zones.length := by
 unfold zonesSet
 cases decide (0 ≤ a.with_) <;> simp
theorem move_J3 {F : Nat} {p : PdPad} {s : PdState} {a : PdAct} (h : Acts F p s a) (k : a.kind = 1) {i : Nat} (hi : i < s.zones.length) {A : List Int} (hA : A.length = s.zones.length) : pad_scene_move_m_J3 F (scn p s) a (s.zones.getD i 0) A = some (scR p (dm (!aloneP p (zoneSet s A) a.what && !aloneP p (zoneSet s A) (s.zones.getD i 0)) 176 (.ok (zoneSet s A)))) := by
 have hz := h.a.zone k
 have hz2 : s.zones.getD i 0 < p.zones.length := by rw [getD_at _ hi]; exact (h.f.z _ (List.getElem_mem hi)).2
 have hs := zoneSet_StF h.hs hA
 have e1 := pad_alone_eq (F := F) (p := p) hs hz.2
 have e2 := pad_alone_eq (F := F) (p := p) hs hz2
 rw [pad_scene_move_m_J3]
 show ((Option.bind (pad_scene_alone F (scn p (zoneSet s A)) a.what) fun rv15 => if rv15 = true then (Option.bind (pad_demand F false 176) fun rv16 => exE rv16 (fun x13 => some (.error x13)) (fun _ => none)) else (Option.bind (pad_scene_alone F (scn p (zoneSet s A)) (s.zones.getD i 0)) fun rv17 => Option.bind (pad_demand F (!rv17) 176) fun rv18 => exE rv18 (fun x14 => some (.error x14)) (fun _ => some (.ok (scn p (zoneSet s A)))))) : Option (Except Int Scene)) = _
 rw [e1, Option.bind_some, e2, Option.bind_some, dem_eq, dem_eq]
 unfold dm
 rw [scR_bif]
 cases aloneP p (zoneSet s A) a.what <;> cases aloneP p (zoneSet s A) (s.zones.getD i 0) <;> rfl
theorem move_end {F : Nat} {p : PdPad} {s : PdState} {a : PdAct} (h : Acts F p s a) (k : a.kind = 1) {i : Nat} (hi : i < s.zones.length) {A : List Int} (hA : A.length = s.zones.length) :
 (if a.what < 0 then (Option.bind (pad_demand F true 175) fun rv12 => exE rv12 (fun x11 => some (.error x11)) (fun _ => pad_scene_move_m_J3 F (scn p s) a (s.zones.getD i 0) A)) else (Option.bind (pad_scene_crowd F {scn p s with pdState_Zones := A} a.what) fun rv13 => Option.bind (ixO (scn p s).p_Zones a.what) fun e11 => Option.bind (pad_demand F (decide (rv13 ≤ e11.room)) 175) fun rv14 => exE rv14 (fun x12 => some (.error x12)) (fun _ => pad_scene_move_m_J3 F (scn p s) a (s.zones.getD i 0) A)) : Option (Except Int Scene))
 = some (scR p (dm (!fullP p (zoneSet s A) a.what) 175 (dm (!aloneP p (zoneSet s A) a.what && !aloneP p (zoneSet s A) (s.zones.getD i 0)) 176 (.ok (zoneSet s A))))) := by
 have hz := h.a.zone k
 rw [move_J3 h k hi hA]
 have hs := zoneSet_StF h.hs hA
 unfold fullP
 by_cases h0 : a.what < 0
 ·rw [if_pos h0, dem_eq, decide_eq_false (by omega)]; rfl
 ·obtain ⟨j, ej⟩ : ∃ j : Nat, a.what = j := ⟨a.what.toNat, by omega⟩
  have hj : j < p.zones.length := by omega
  rw [if_neg h0, decide_eq_true (by omega), Bool.true_and]
  show (Option.bind (pad_scene_crowd F (scn p (zoneSet s A)) a.what) _) = _
  rw [pad_crowd_eq hs, Option.bind_some, show (scn p s).p_Zones = p.zones from rfl, ej, ix_zn hj, Option.bind_some, dem_eq, show decide ((crowdP (zoneSet s A) (j : Int) : Int) ≤ (p.zones.getD (j : Int).toNat default).room) = !decide ((p.zones.getD (j : Int).toNat default).room < (crowdP (zoneSet s A) (j : Int) : Int)) by rw [← decide_not, decide_eq_decide]; omega]
  unfold dm
  simp only [scR_bif]
  rfl
theorem move_eq {F : Nat} {p : PdPad} {s : PdState} {a : PdAct} (h : Acts F p s a) (k : a.kind = 1) : pad_scene_move_m F (scn p s) a = some (scR p (moveP p s a)) := by
 obtain ⟨i, ei, hi, hi'⟩ := h.who
 have hF := h.h.f
 have hw := h.a.move k
 have hl := h.f.lz
 have hd := h.h.ld
 have hd2 := h.o.d24
 obtain ⟨F2, eF⟩ : ∃ m, F = m + 1 + 1 + 1 := ⟨F - 3, by omega⟩
 have hJ4 : pad_scene_move_m_J5 F (scn p s) a (s.zones.getD i 0) = some (scR p (dm (decide (comesE p s a.who a.what = 0)) (comesE p s a.who a.what)
   (dm (decide (c2E p s a = 0)) (c2E p s a)
    (dm (!fullP p (zoneSet s (zonesSet s a)) a.what) 175
     (dm (!aloneP p (zoneSet s (zonesSet s a)) a.what && !aloneP p (zoneSet s (zonesSet s a)) (s.zones.getD i 0)) 176 (.ok (zoneSet s (zonesSet s a)))))))) := by
  rw [pad_scene_move_m_J5]
  by_cases h0 : 0 ≤ a.with_
  ·obtain ⟨m, em⟩ : ∃ m : Nat, a.with_ = m := ⟨a.with_.toNat, by omega⟩
   have hm : m < p.people.length := by omega
   have hA : zonesSet s a = (s.zones.set i a.what).set m a.what := by unfold zonesSet; rw [decide_eq_true h0, ei, em]; rfl
   have hend := move_end h k hi' (A := (s.zones.set i a.what).set m a.what) (by simp)
   rw [if_pos h0, app_one (by simp), Option.bind_some, pad_scene_move_m_J4, ei, em, show ([(i : Int)] ++ [(m : Int)]) = [(i : Int), (m : Int)] from rfl]
   have r1 := fun K n => move_round h k (y := [(i : Int), (m : Int)]) (x := 0) (i := i) rfl hi (by simp) K n
   have r2 := fun K n => move_round h k (y := [(i : Int), (m : Int)]) (x := 1) (i := m) rfl hm (by simp) K n
   rw [z0] at r1
   show pad_scene_move_m_L3 F (scn p s) a [(i : Int), (m : Int)] _ F 0 = _
   rw [show ∀ K : Int → Option (Except Int Scene), pad_scene_move_m_L3 F (scn p s) a [(i : Int), (m : Int)] K F 0 = bif decide (comesE p s i a.what = 0) then (bif decide (comesE p s m a.what = 0) then K 2 else some (.error (comesE p s m a.what))) else some (.error (comesE p s i a.what)) from fun K => by
    conv => lhs; rw [show pad_scene_move_m_L3 F (scn p s) a [(i : Int), (m : Int)] K F 0 = pad_scene_move_m_L3 F (scn p s) a [(i : Int), (m : Int)] K (F2 + 1 + 1 + 1) 0 by rw [← eF]]
    rw [r1, show ((0 + 1 : Nat) : Int) = ((1 : Nat) : Int) from rfl, r2, show ((1 + 1 : Nat) : Int) = 2 from rfl, pad_scene_move_m_L3, if_neg (by simp)]]
   show (bif decide (comesE p s i a.what = 0) then (bif decide (comesE p s m a.what = 0) then pad_scene_move_m_L2 F a [(i : Int), (m : Int)] _ F s.zones 0 else _) else _) = _
   rw [show ∀ K : List Int → Int → Option (Except Int Scene), pad_scene_move_m_L2 F a [(i : Int), (m : Int)] K F s.zones 0 = K ((s.zones.set i a.what).set m a.what) 2 from fun K => by
    conv => lhs; rw [show pad_scene_move_m_L2 F a [(i : Int), (m : Int)] K F s.zones 0 = pad_scene_move_m_L2 F a [(i : Int), (m : Int)] K (F2 + 1 + 1 + 1) s.zones 0 by rw [← eF]]
    rw [pad_scene_move_m_L2, if_pos (by simp), show ixO [(i : Int), (m : Int)] 0 = some (i : Int) from rfl, Option.bind_some, ixO_nat hi', Option.bind_some, setO_nat, Option.bind_some, show W ((0 : Int) + 1) = 1 from rfl,
     pad_scene_move_m_L2, if_pos (by simp), show ixO [(i : Int), (m : Int)] 1 = some (m : Int) from rfl, Option.bind_some, ixO_nat (by simp; omega), Option.bind_some, setO_nat, Option.bind_some, show W ((1 : Int) + 1) = 2 from rfl, pad_scene_move_m_L2, if_neg (by simp)]]
   refine Eq.trans (congrArg (fun z : Option (Except Int Scene) => bif decide (comesE p s i a.what = 0) then (bif decide (comesE p s m a.what = 0) then z else some (.error (comesE p s m a.what))) else some (.error (comesE p s i a.what))) hend) ?_
   rw [hA]
   unfold c2E dm
   rw [em, decide_eq_true (show (0 : Int) ≤ (m : Int) by omega), cond_true]
   simp only [scR_bif]
   rfl
  ·have hA : zonesSet s a = s.zones.set i a.what := by unfold zonesSet; rw [decide_eq_false h0, ei]; rfl
   have hend := move_end h k hi' (A := s.zones.set i a.what) (by simp)
   rw [if_neg h0, pad_scene_move_m_J4, ei]
   have r1 := fun K n => move_round h k (y := [(i : Int)]) (x := 0) (i := i) rfl hi (by simp) K n
   rw [z0] at r1
   show pad_scene_move_m_L3 F (scn p s) a [(i : Int)] _ F 0 = _
   rw [show ∀ K : Int → Option (Except Int Scene), pad_scene_move_m_L3 F (scn p s) a [(i : Int)] K F 0 = bif decide (comesE p s i a.what = 0) then K 1 else some (.error (comesE p s i a.what)) from fun K => by
    conv => lhs; rw [show pad_scene_move_m_L3 F (scn p s) a [(i : Int)] K F 0 = pad_scene_move_m_L3 F (scn p s) a [(i : Int)] K (F2 + 1 + 1 + 1) 0 by rw [← eF]]
    rw [r1, show ((0 + 1 : Nat) : Int) = 1 from rfl, pad_scene_move_m_L3, if_neg (by simp)]]
   show (bif decide (comesE p s i a.what = 0) then pad_scene_move_m_L2 F a [(i : Int)] _ F s.zones 0 else _) = _
   rw [show ∀ K : List Int → Int → Option (Except Int Scene), pad_scene_move_m_L2 F a [(i : Int)] K F s.zones 0 = K (s.zones.set i a.what) 1 from fun K => by
    conv => lhs; rw [show pad_scene_move_m_L2 F a [(i : Int)] K F s.zones 0 = pad_scene_move_m_L2 F a [(i : Int)] K (F2 + 1 + 1 + 1) s.zones 0 by rw [← eF]]
    rw [pad_scene_move_m_L2, if_pos (by simp), show ixO [(i : Int)] 0 = some (i : Int) from rfl, Option.bind_some, ixO_nat hi', Option.bind_some, setO_nat, Option.bind_some, show W ((0 : Int) + 1) = 1 from rfl, pad_scene_move_m_L2, if_neg (by simp)]]
   refine Eq.trans (congrArg (fun z : Option (Except Int Scene) => bif decide (comesE p s i a.what = 0) then z else some (.error (comesE p s i a.what))) hend) ?_
   rw [hA]
   unfold c2E dm
   rw [decide_eq_false h0, cond_false]
   simp only [scR_bif]
   rfl
 have hJ6 : pad_scene_move_m_J6 F (scn p s) a (s.zones.getD i 0) = bif (!decide (0 ≤ a.with_) || decide (s.zones.getD a.with_.toNat 0 = s.zones.getD i 0)) then pad_scene_move_m_J5 F (scn p s) a (s.zones.getD i 0) else some (.error 171) := by
  rw [pad_scene_move_m_J6]
  by_cases h0 : a.with_ < 0
  ·rw [if_pos h0, dem_eq, decide_eq_false (by omega)]; rfl
  ·obtain ⟨m, em⟩ : ∃ m : Nat, a.with_ = m := ⟨a.with_.toNat, by omega⟩
   have hm : m < s.zones.length := by omega
   rw [if_neg h0, decide_eq_true (by omega), show (scn p s).pdState_Zones = s.zones from rfl, em, ix_zone hm, Option.bind_some, dem_eq]
   rfl
 rw [pad_scene_move_m, show (scn p s).pdState_Zones = s.zones from rfl, ei, ixO_nat hi', Option.bind_some, ← getD_at 0 hi', show (scn p s).p_Doors = p.doors from rfl, Contains_door_eq hd (by omega), Option.bind_some, Contains_door_eq hd (by omega), Option.bind_some, hJ6, hJ4, dem_eq]
 unfold moveP doorP dm
 rw [ei]
 simp only [scR_bif, iteP, dec_true, Int.toNat_natCast]
 generalize p.doors.any (fun d => PdDoor.beq ⟨s.zones.getD i 0, a.what⟩ d) = b1
 generalize p.doors.any (fun d => PdDoor.beq ⟨a.what, s.zones.getD i 0⟩ d) = b2
 generalize (!decide (0 ≤ a.with_) || decide (s.zones.getD a.with_.toNat 0 = s.zones.getD i 0)) = b3
 cases b1 <;> cases b2 <;> cases b3 <;> rfl
end Go.Proofs.YthcnganbnbhhoaaGreat
