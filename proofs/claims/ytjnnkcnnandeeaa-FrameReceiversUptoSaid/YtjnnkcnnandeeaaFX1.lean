/- Plain facts about numbers, lists and bits, for FrameAxis. -/
import Derived.Test.YtjnnkcnnandeeaaW2
import Derived.MapKept
import Derived.Laws.Strings
set_option linter.unusedVariables false
set_option linter.unusedSimpArgs false
open Go Go.Proofs.Ytjnnkcnnandeeaa.Sh Go.Proofs
namespace Go.Proofs.Ytjnnkcnnandeeaa
theorem W_id {x : Int} (h : -9223372036854775808 ≤ x := by omega) (k : x < 9223372036854775808 := by omega) : W x = x := by
 unfold W IntKind.wrap
 simp [IntKind.bits, IntKind.signed]
 omega
theorem W_succ {k : Nat} (h : k < 9223372036854775807) : W ((k : Int) + 1) = ((k + 1 : Nat) : Int) := by rw [W_id]; omega
theorem ixO_nat {α : Type} {l : List α} {k : Nat} (h : k < l.length) : ixO l (k : Int) = some l[k] := by
 unfold ixO
 rw [if_pos (Int.natCast_nonneg k), Int.toNat_natCast, List.getElem?_eq_getElem h]
theorem app_one {α : Type} {l : List α} {a : α} (h : l.length < 100000) : appO l [a] = some (l ++ [a]) := by
 unfold appO
 rw [if_pos (by simp; omega)]
theorem cut_nat {α : Type} {l : List α} {k : Nat} (h : k ≤ l.length) : cutO l 0 (k : Int) = some (l.take k) := by
 unfold cutO
 rw [if_pos (by omega)]
 simp
theorem bytesL_len (s : ByteArray) : (bytesL s).length = s.size := by simp [bytesL]
def bitAt (x k : Int) : Prop := 0 < iand .u32 (ishr .u32 x k) 1
theorem ofInt_u32 (a : Nat) (ha : a < 4294967296) : (BitVec.ofInt 32 (a : Int)).toNat = a := by
 rw [BitVec.ofInt_natCast, BitVec.toNat_ofNat]; exact Nat.mod_eq_of_lt (by omega)
theorem and_nat (a b : Nat) (ha : a < 4294967296) (hb : b < 4294967296) : iand .u32 (a : Int) (b : Int) = ((a &&& b : Nat) : Int) := by
 have hx : a &&& b < 2 ^ 32 := Nat.and_lt_two_pow _ (by omega)
 show IntKind.u32.wrap ((BitVec.ofInt 32 (a : Int) &&& BitVec.ofInt 32 (b : Int)).toNat : Int) = _
 rw [BitVec.toNat_and, ofInt_u32 a ha, ofInt_u32 b hb, IntKind.wrap_u32]
 omega
theorem shl_nat (k : Nat) (hk : k < 32) : ishl .u32 1 (k : Int) = ((2 ^ k : Nat) : Int) := by
 have h2 := Nat.pow_lt_pow_right (a := 2) (by omega) hk
 show IntKind.u32.wrap (1 * 2 ^ (min (k : Int).toNat 32)) = _
 rw [Int.toNat_natCast, Nat.min_eq_left (by omega), IntKind.wrap_u32, Int.one_mul]
 have e : ((2 : Int) ^ k) = ((2 ^ k : Nat) : Int) := by simp
 rw [e]
 generalize (2 ^ k : Nat) = z at *
 omega
theorem shr_nat (M k : Nat) (hk : k < 32) : ishr .u32 (M : Int) (k : Int) = ((M / 2 ^ k : Nat) : Int) := by
 show (M : Int).fdiv (2 ^ (min (k : Int).toNat 32)) = _
 rw [Int.toNat_natCast, Nat.min_eq_left (by omega), Int.fdiv_eq_ediv_of_nonneg _ (Int.le_of_lt (Int.pow_pos (by omega))), Int.natCast_ediv]
 simp
theorem bit_nat {M k : Nat} (hM : M < 4294967296) (hk : k < 32) : bitAt (M : Int) (k : Int) ↔ M.testBit k = true := by
 unfold bitAt
 have hq : M / 2 ^ k < 4294967296 := Nat.lt_of_le_of_lt (Nat.div_le_self _ _) hM
 rw [shr_nat M k hk, show (1 : Int) = ((1 : Nat) : Int) from rfl, and_nat _ 1 hq (by omega), Nat.and_one_is_mod, Nat.testBit_eq_decide_div_mod_eq]
 generalize M / 2 ^ k = q
 simp only [decide_eq_true_eq]
 omega
def Msk (x : Int) : Prop := ∃ M : Nat, x = (M : Int) ∧ M < 4294967296
theorem Msk.zero : Msk 0 := ⟨0, rfl, by omega⟩
theorem Msk.clear {x : Int} (h : Msk x) {k : Nat} (hk : k < 32) : Msk (iandN .u32 x (ishl .u32 1 k)) ∧ ∀ j : Nat, j < 32 → j ≠ k → bitAt x j → bitAt (iandN .u32 x (ishl .u32 1 k)) j := by
 obtain ⟨M, rfl, hM⟩ := h
 have h2 := Nat.pow_lt_pow_right (a := 2) (by omega) hk
 rw [shl_nat k hk]
 have hlt := BitVec.isLt (BitVec.ofInt 32 (M : Int) &&& ~~~ BitVec.ofInt 32 ((2 ^ k : Nat) : Int))
 have e : iandN .u32 (M : Int) ((2 ^ k : Nat) : Int) = (((BitVec.ofInt 32 (M : Int) &&& ~~~ BitVec.ofInt 32 ((2 ^ k : Nat) : Int)).toNat : Nat) : Int) := by
  show IntKind.u32.wrap ((BitVec.ofInt 32 (M : Int) &&& ~~~ BitVec.ofInt 32 ((2 ^ k : Nat) : Int)).toNat : Int) = _
  rw [IntKind.wrap_u32]
  omega
 rw [e]
 refine ⟨⟨_, rfl, by omega⟩, fun j hj hne hb => (bit_nat (by omega) hj).2 ?_⟩
 rw [BitVec.testBit_toNat, BitVec.getLsbD_and, BitVec.getLsbD_not, ← BitVec.testBit_toNat, ← BitVec.testBit_toNat, ofInt_u32 M hM, ofInt_u32 (2 ^ k) (by omega), (bit_nat hM hj).1 hb, Nat.testBit_two_pow, decide_eq_true hj, decide_eq_false (Ne.symm hne)]
 rfl
theorem Msk.all {n : Nat} (hn : n < 32) : Msk (IntKind.u32.wrap ((ishl .u32 1 (n : Int)) - 1)) ∧ ∀ j : Nat, j < n → bitAt (IntKind.u32.wrap ((ishl .u32 1 (n : Int)) - 1)) j := by
 have h := Nat.pow_lt_pow_right (a := 2) (by omega) hn
 have h0 := Nat.two_pow_pos n
 have e : IntKind.u32.wrap ((ishl .u32 1 (n : Int)) - 1) = ((2 ^ n - 1 : Nat) : Int) := by
  rw [shl_nat n hn, IntKind.wrap_u32]
  generalize (2 ^ n : Nat) = z at *
  omega
 rw [e]
 exact ⟨⟨_, rfl, by omega⟩, fun j hj => (bit_nat (by omega) (by omega)).2 (by rw [Nat.testBit_two_pow_sub_one, decide_eq_true hj])⟩
end Go.Proofs.Ytjnnkcnnandeeaa
open Go Go.Proofs.Ytjnnkcnnandeeaa.Sh Go.Proofs
namespace Go.Proofs.Ytjnnkcnnandeeaa
def outP (n lo hi : Int) : Bool := decide (n < lo) || decide (hi < n)
theorem out_eq (F : Nat) (n lo hi : Int) : frame_out_int F n lo hi = some (outP n lo hi) := by
 unfold frame_out_int outP
 by_cases h : n < lo
 ·rw [if_pos h, decide_eq_true h]; rfl
 ·rw [if_neg h, decide_eq_false h]; rfl
theorem outP_f {n lo hi : Int} : outP n lo hi = false ↔ lo ≤ n ∧ n ≤ hi := by
 unfold outP
 rw [Bool.or_eq_false_iff, decide_eq_false_iff_not, decide_eq_false_iff_not]
 omega
theorem wout_eq (F : Nat) (n lo hi : Int) : wind_out F n lo hi = some (outP n lo hi) := by
 unfold wind_out outP
 by_cases h : n < lo
 ·rw [if_pos h, decide_eq_true h]; rfl
 ·rw [if_neg h, decide_eq_false h]; rfl
theorem idxI {F : Nat} {s : List Int} {f : Int → Option Bool} {p : Int → Bool} (hf : ∀ x ∈ s, f x = some (p x)) (hl : s.length < 100000) : ∀ n k : Nat, s.length < n + k → k ≤ s.length →
  ∃ r, slices_IndexFunc_int_L1 F s f (fun _ => some (-1)) n k = some r ∧ decide (0 ≤ r) = (s.drop k).any p := by
 intro n
 induction n with
 | zero => intro k h1 h2; omega
 | succ n ih =>
  intro k h1 h2
  rw [slices_IndexFunc_int_L1]
  by_cases hk : k < s.length
  ·rw [if_pos (by omega : (k : Int) < (s.length : Int)), ixO_nat hk, W_succ (by omega), List.drop_eq_getElem_cons hk]
   show ∃ r, Option.bind (f s[k]) _ = some r ∧ _
   rw [hf _ (List.getElem_mem hk)]
   show ∃ r, (if p s[k] = true then _ else _) = some r ∧ _
   by_cases hp : p s[k] = true
   ·rw [if_pos hp]; exact ⟨_, rfl, by rw [List.any_cons, hp]; simp⟩
   ·rw [if_neg hp]
    obtain ⟨r, h3, h4⟩ := ih (k + 1) (by omega) (by omega)
    exact ⟨r, h3, by rw [List.any_cons, h4, eq_false_of_ne_true hp]; rfl⟩
  ·rw [if_neg (by omega)]
   exact ⟨-1, rfl, by rw [List.drop_of_length_le (by omega)]; rfl⟩
theorem hasI {F : Nat} {s : List Int} {f : Int → Option Bool} {p : Int → Bool} (hf : ∀ x ∈ s, f x = some (p x)) (hl : s.length < 100000) (hF : s.length < F) : slices_ContainsFunc_int F s f = some (s.any p) := by
 obtain ⟨r, h1, h2⟩ := idxI (F := F) hf hl F 0 (by omega) (Nat.zero_le _)
 unfold slices_ContainsFunc_int slices_IndexFunc_int
 rw [show slices_IndexFunc_int_L1 F s f (fun _ => some (-1)) F 0 = some r from h1]
 show some (decide (0 ≤ r)) = _
 rw [h2]; rfl
def ChOk (t : FrFormat) (c : FrChannel) : Prop := 1 ≤ c.every ∧ 0 ≤ c.word ∧ c.word < t.words
structure FmF (F : Nat) (t : FrFormat) : Prop where
 f : 1000 < F
 n : ∀ c ∈ t.channels, c.name.size < F ∧ c.name.size ≤ 9223372036854775807
structure FmOk (t : FrFormat) : Prop where
 c : t.channels.length ≤ 12
 w : 1 ≤ t.words ∧ t.words ≤ 32
 a : ∀ c ∈ t.channels, ChOk t c
end Go.Proofs.Ytjnnkcnnandeeaa
open Go Go.Proofs.Ytjnnkcnnandeeaa.Sh Go.Proofs
namespace Go.Proofs.Ytjnnkcnnandeeaa.Fm
def okC (b : Int) (z : Bool) : Bool := (decide (97 ≤ b) && decide (b ≤ 122)) || (!z && (decide (b = 45) || (decide (48 ≤ b) && decide (b ≤ 57))))
def nmD : Nat → List Int → Bool
 | _, [] => true
 | i, b :: l => okC b (decide (i = 0)) && nmD (i + 1) l
def nameP (s : ByteArray) : Bool := decide (1 ≤ s.size) && decide (s.size ≤ 24) && nmD 0 (bytesL s)
theorem ixB_L {s : ByteArray} {k : Nat} : ixB s (k : Int) = ixO (bytesL s) (k : Int) := by
 unfold ixB ixO bytesL
 rw [if_pos (Int.natCast_nonneg k), if_pos (Int.natCast_nonneg k), Int.toNat_natCast, List.getElem?_map, Array.getElem?_toList]
 rfl
theorem wname_L {F : Nat} {s : ByteArray} {K : Int → Option Bool} (hl : (bytesL s).length ≤ 9223372036854775807) : ∀ n k : Nat, (bytesL s).length < n + k → k ≤ (bytesL s).length →
  wind_Name_L1 F s K n k = if nmD k ((bytesL s).drop k) = true then K ((bytesL s).length : Nat) else some false := by
 intro n
 induction n with
 | zero => intro k h1 h2; omega
 | succ n ih =>
  intro k h1 h2
  rw [wind_Name_L1]
  by_cases hk : k < (bytesL s).length
  ·rw [if_pos (by omega : (k : Int) < ((bytesL s).length : Int)), ixO_nat hk, W_succ (by omega), Option.bind_some, List.drop_eq_getElem_cons hk, nmD]
   have := ih (k + 1) (by omega) (by omega)
   rw [this]
   generalize (bytesL s)[k] = b
   have hz : ((k : Int) = 0) ↔ k = 0 := by omega
   by_cases c1 : 97 ≤ b <;> by_cases c2 : b ≤ 122 <;> by_cases c3 : k = 0 <;> by_cases c4 : b = 45 <;> by_cases c5 : 48 ≤ b <;> by_cases c6 : b ≤ 57 <;> simp [okC, c1, c2, c3, c4, c5, c6, hz] <;> first | omega | skip
   all_goals (subst c4; first | omega | simp)
  ·rw [if_neg (by omega), List.drop_of_length_le (by omega)]
   have : k = (bytesL s).length := by omega
   rw [this]; rfl
theorem rname_L {F : Nat} {s : ByteArray} {K : Int → Option Bool} (hl : (bytesL s).length ≤ 9223372036854775807) : ∀ n k : Nat, (bytesL s).length < n + k → k ≤ (bytesL s).length →
  r1_Name_L1 F s K n k = if nmD k ((bytesL s).drop k) = true then K ((bytesL s).length : Nat) else some false := by
 intro n
 induction n with
 | zero => intro k h1 h2; omega
 | succ n ih =>
  intro k h1 h2
  have hs := bytesL_len s
  rw [r1_Name_L1]
  by_cases hk : k < (bytesL s).length
  ·rw [if_pos (by omega : (k : Int) < (s.size : Int)), ixB_L, ixO_nat hk, W_succ (by omega), Option.bind_some, List.drop_eq_getElem_cons hk, nmD]
   have := ih (k + 1) (by omega) (by omega)
   rw [this]
   generalize (bytesL s)[k] = b
   have hz : ((k : Int) = 0) ↔ k = 0 := by omega
   by_cases c1 : 97 ≤ b <;> by_cases c2 : b ≤ 122 <;> by_cases c3 : k = 0 <;> by_cases c4 : b = 45 <;> by_cases c5 : 48 ≤ b <;> by_cases c6 : b ≤ 57 <;> simp [okC, c1, c2, c3, c4, c5, c6, hz] <;> first | omega | skip
   all_goals (subst c4; first | omega | simp)
  ·rw [if_neg (by omega), List.drop_of_length_le (by omega)]
   have : k = (bytesL s).length := by omega
   rw [this]; rfl
theorem wname_eq {F : Nat} {s : ByteArray} (hl : s.size ≤ 9223372036854775807) (hF : s.size < F) : wind_Name F s = some (nameP s) := by
 have hb := bytesL_len s
 unfold wind_Name
 have := wname_L (F := F) (s := s) (K := fun (x : Int) => Option.bind (wind_out F (s.size : Int) 1 24) fun rv => some (!rv)) (by omega) F 0 (by omega) (Nat.zero_le _)
 rw [show ((0 : Nat) : Int) = 0 from rfl, List.drop_zero] at this
 rw [this, wout_eq]
 unfold nameP outP
 by_cases h : nmD 0 (bytesL s) = true
 ·rw [if_pos h, h]
  simp only [Option.bind_some, Bool.and_true]
  congr 1
  by_cases h1 : (s.size : Int) < 1 <;> by_cases h2 : 24 < (s.size : Int) <;> simp [h1, h2] <;> omega
 ·rw [if_neg h, eq_false_of_ne_true h, Bool.and_false]
theorem rname_eq {F : Nat} {s : ByteArray} (hl : s.size ≤ 9223372036854775807) (hF : s.size < F) : r1_Name F s = some (nameP s) := by
 have hb := bytesL_len s
 unfold r1_Name nameP
 by_cases h1 : (s.size : Int) < 1
 ·rw [if_pos h1, decide_eq_false (by omega : ¬ 1 ≤ s.size)]; rfl
 rw [if_neg h1]
 by_cases h2 : 24 < (s.size : Int)
 ·rw [if_pos h2, decide_eq_false (by omega : ¬ s.size ≤ 24), Bool.and_false]; rfl
 rw [if_neg h2, decide_eq_true (by omega : 1 ≤ s.size), decide_eq_true (by omega : s.size ≤ 24)]
 have := rname_L (F := F) (s := s) (K := fun _ => some true) (by omega) F 0 (by omega) (Nat.zero_le _)
 rw [show ((0 : Nat) : Int) = 0 from rfl, List.drop_zero] at this
 rw [this]
 cases nmD 0 (bytesL s) <;> rfl
theorem idxK {F : Nat} {s : List FrChannel} {f : FrChannel → Option Bool} {p : FrChannel → Bool} (hf : ∀ x ∈ s, f x = some (p x)) (hl : s.length < 100000) : ∀ n k : Nat, s.length < n + k → k ≤ s.length →
  ∃ r, slices_IndexFunc_FrChannel_L1 F s f (fun _ => some (-1)) n k = some r ∧ decide (0 ≤ r) = (s.drop k).any p := by
 intro n
 induction n with
 | zero => intro k h1 h2; omega
 | succ n ih =>
  intro k h1 h2
  rw [slices_IndexFunc_FrChannel_L1]
  by_cases hk : k < s.length
  ·rw [if_pos (by omega : (k : Int) < (s.length : Int)), ixO_nat hk, W_succ (by omega), List.drop_eq_getElem_cons hk]
   show ∃ r, Option.bind (f s[k]) _ = some r ∧ _
   rw [hf _ (List.getElem_mem hk)]
   show ∃ r, (if p s[k] = true then _ else _) = some r ∧ _
   by_cases hp : p s[k] = true
   ·rw [if_pos hp]; exact ⟨_, rfl, by rw [List.any_cons, hp]; simp⟩
   ·rw [if_neg hp]
    obtain ⟨r, h3, h4⟩ := ih (k + 1) (by omega) (by omega)
    exact ⟨r, h3, by rw [List.any_cons, h4, eq_false_of_ne_true hp]; rfl⟩
  ·rw [if_neg (by omega)]
   exact ⟨-1, rfl, by rw [List.drop_of_length_le (by omega)]; rfl⟩
theorem hasK {F : Nat} {s : List FrChannel} {f : FrChannel → Option Bool} {p : FrChannel → Bool} (hf : ∀ x ∈ s, f x = some (p x)) (hl : s.length < 100000) (hF : s.length < F) : slices_ContainsFunc_FrChannel F s f = some (s.any p) := by
 obtain ⟨r, h1, h2⟩ := idxK (F := F) hf hl F 0 (by omega) (Nat.zero_le _)
 unfold slices_ContainsFunc_FrChannel slices_IndexFunc_FrChannel
 rw [show slices_IndexFunc_FrChannel_L1 F s f (fun _ => some (-1)) F 0 = some r from h1]
 show some (decide (0 ≤ r)) = _
 rw [h2]; rfl
def sameN (e d : FrChannel) : Bool := decide (d.name.toList = e.name.toList)
def meetP (c d : FrChannel) : Bool := decide (c.word = d.word) && decide (Int.tmod c.phase (min c.every d.every) = Int.tmod d.phase (min c.every d.every))
def meet16 (e d : FrChannel) : Bool := decide (d.word = e.word) && (List.range 16).any fun n => decide (Int.tmod (n : Int) d.every = d.phase) && decide (Int.tmod (n : Int) e.every = e.phase)
structure ChV (t : FrFormat) (c : FrChannel) : Prop where
 e : 1 ≤ c.every
 d : Int.tmod t.depth c.every = 0
 p : 0 ≤ c.phase ∧ c.phase < c.every
def DepOk (x : Int) : Prop := x = 1 ∨ x = 2 ∨ x = 4 ∨ x = 8 ∨ x = 16
theorem dep_and (x : Int) (h : 1 ≤ x ∧ x ≤ 16) : iand .i64 x (W (x - 1)) = 0 ↔ DepOk x := by
 have : x = 1 ∨ x = 2 ∨ x = 3 ∨ x = 4 ∨ x = 5 ∨ x = 6 ∨ x = 7 ∨ x = 8 ∨ x = 9 ∨ x = 10 ∨ x = 11 ∨ x = 12 ∨ x = 13 ∨ x = 14 ∨ x = 15 ∨ x = 16 := by omega
 unfold DepOk
 rcases this with rfl | rfl | rfl | rfl | rfl | rfl | rfl | rfl | rfl | rfl | rfl | rfl | rfl | rfl | rfl | rfl <;> simp <;> decide +kernel
theorem every_of {t : FrFormat} {c : FrChannel} (hd : DepOk t.depth) (h : ChV t c) : DepOk c.every := by
 obtain ⟨h1, h2, _⟩ := h
 have h3 : c.every ∣ t.depth := Int.dvd_of_tmod_eq_zero h2
 have h4 : c.every ≤ t.depth := Int.le_of_dvd (by unfold DepOk at hd; omega) h3
 unfold DepOk at hd ⊢
 obtain ⟨q, hq⟩ := h3
 rcases hd with hd | hd | hd | hd | hd <;> rw [hd] at hq h4 <;> (have : c.every = 1 ∨ c.every = 2 ∨ c.every = 3 ∨ c.every = 4 ∨ c.every = 5 ∨ c.every = 6 ∨ c.every = 7 ∨ c.every = 8 ∨ c.every = 9 ∨ c.every = 10 ∨ c.every = 11 ∨ c.every = 12 ∨ c.every = 13 ∨ c.every = 14 ∨ c.every = 15 ∨ c.every = 16 := by omega) <;> rcases this with h | h | h | h | h | h | h | h | h | h | h | h | h | h | h | h <;> rw [h] at hq ⊢ <;> omega
theorem meet_dec : ∀ a ∈ [1, 2, 4, 8, 16], ∀ b ∈ [1, 2, 4, 8, 16], ∀ p : Nat, p < a → ∀ q : Nat, q < b → ((List.range 16).any fun n => decide (n % b = q) && decide (n % a = p)) = decide (p % min a b = q % min a b) := by
 decide +kernel
theorem dep_nat {x : Int} (h : DepOk x) : ∃ a : Nat, x = a ∧ a ∈ [1, 2, 4, 8, 16] := by
 rcases h with h | h | h | h | h
 ·exact ⟨1, h, by simp⟩
 ·exact ⟨2, h, by simp⟩
 ·exact ⟨4, h, by simp⟩
 ·exact ⟨8, h, by simp⟩
 ·exact ⟨16, h, by simp⟩
theorem tmodN (n b : Nat) : Int.tmod (n : Int) (b : Int) = ((n % b : Nat) : Int) := rfl
theorem meet_eq {t : FrFormat} (hd : DepOk t.depth) {c d : FrChannel} (hc : ChV t c) (hdd : ChV t d) : meet16 c d = meetP c d := by
 obtain ⟨a, ha, ham⟩ := dep_nat (every_of hd hc)
 obtain ⟨b, hb, hbm⟩ := dep_nat (every_of hd hdd)
 obtain ⟨p, hp⟩ := Int.eq_ofNat_of_zero_le hc.p.1
 obtain ⟨q, hq⟩ := Int.eq_ofNat_of_zero_le hdd.p.1
 have h1 := hc.p.2
 have h2 := hdd.p.2
 rw [ha, hp] at h1
 rw [hb, hq] at h2
 have := meet_dec a ham b hbm p (by omega) q (by omega)
 unfold meet16 meetP
 rw [ha, hb, hp, hq]
 have e1 : ∀ n : Nat, (decide (Int.tmod (n : Int) (b : Int) = (q : Int)) && decide (Int.tmod (n : Int) (a : Int) = (p : Int))) = (decide (n % b = q) && decide (n % a = p)) := fun n => by
  rw [tmodN, tmodN]
  simp only [Int.natCast_inj]
 have e2 : (min (a : Int) (b : Int)) = ((min a b : Nat) : Int) := by omega
 simp only [e1]
 rw [this, e2, tmodN, tmodN]
 simp only [Int.natCast_inj]
 rw [show decide (d.word = c.word) = decide (c.word = d.word) from decide_eq_decide.2 eq_comm]
theorem ch_L1 {F : Nat} {e d : FrChannel} {K : Int → Option Int} (he : 1 ≤ d.every) : ∀ n k : Nat, 16 < n + k → k ≤ 16 →
  r9_channel_L1 F e d K n k = if (decide (d.word = e.word) && ((List.range 16).drop k).any fun n => decide (Int.tmod (n : Int) d.every = d.phase) && decide (Int.tmod (n : Int) e.every = e.phase)) = true then some 2 else K 16 := by
 intro n
 induction n with
 | zero => intro k h1 h2; omega
 | succ n ih =>
  intro k h1 h2
  rw [r9_channel_L1]
  by_cases hk : k < 16
  ·have h3 := ih (k + 1) (by omega) (by omega)
   rw [if_pos (by omega : (k : Int) < 16), W_succ (by omega), h3, if_neg (by omega : ¬ d.every = 0), List.drop_eq_getElem_cons (i := k) (by rw [List.length_range]; exact hk), List.any_cons]
   simp only [List.getElem_range]
   by_cases c1 : d.word = e.word <;> by_cases c2 : Int.tmod (k : Int) d.every = d.phase <;> by_cases c3 : Int.tmod (k : Int) e.every = e.phase <;> simp [c1, c2, c3]
  ·have : k = 16 := by omega
   subst this
   rw [if_neg (by omega), List.drop_of_length_le (by rw [List.length_range]; omega)]
   simp
theorem ch_L2 {F : Nat} {t : FrFormat} {o : Nat} {e : FrChannel} {K : Int → Option Int} (hF : 1000 < F) (ho : o ≤ t.channels.length) (hl : t.channels.length ≤ 12) (hv : ∀ c ∈ t.channels.take o, 1 ≤ c.every) : ∀ n k : Nat, o < n + k → k ≤ o →
  r9_channel_L2 F t o e K n k = if (((t.channels.take o).drop k).any fun d => meet16 e d) = true then some 2 else K o := by
 intro n
 induction n with
 | zero => intro k h1 h2; omega
 | succ n ih =>
  intro k h1 h2
  rw [r9_channel_L2]
  have hlen : (t.channels.take o).length = o := by rw [List.length_take]; omega
  by_cases hk : k < o
  ·have h3 := ih (k + 1) (by omega) (by omega)
   have hkl : k < t.channels.length := by omega
   have hg : (t.channels.take o)[k]'(by omega) = t.channels[k] := List.getElem_take
   rw [if_pos (by omega : (k : Int) < o), ixO_nat hkl, Option.bind_some, W_succ (by omega), List.drop_eq_getElem_cons (i := k) (by omega), List.any_cons, hg, h3]
   have := ch_L1 (F := F) (e := e) (d := t.channels[k]) (K := fun _ => if (((t.channels.take o).drop (k + 1)).any fun d => meet16 e d) = true then some 2 else K o) (hv _ (by rw [← hg]; exact List.getElem_mem _)) F 0 (by omega) (by omega)
   rw [List.drop_zero] at this
   rw [show ((0 : Nat) : Int) = 0 from rfl] at this
   rw [this]
   change (if meet16 e t.channels[k] = true then some 2 else _) = _
   cases meet16 e t.channels[k] <;> simp
  ·have : k = o := by omega
   subst this
   rw [if_neg (by omega), List.drop_of_length_le (by omega)]
   simp
theorem ch_L3 {F : Nat} {t : FrFormat} {o : Nat} {e : FrChannel} {K : Int → Option Int} (ho : o ≤ t.channels.length) (hl : t.channels.length ≤ 12) : ∀ n k : Nat, o < n + k → k ≤ o →
  r9_channel_L3 F t o e K n k = if ((t.channels.take o).drop k).any (sameN e) = true then some 5 else K o := by
 intro n
 induction n with
 | zero => intro k h1 h2; omega
 | succ n ih =>
  intro k h1 h2
  rw [r9_channel_L3]
  have hlen : (t.channels.take o).length = o := by rw [List.length_take]; omega
  by_cases hk : k < o
  ·have h3 := ih (k + 1) (by omega) (by omega)
   have hkl : k < t.channels.length := by omega
   have hg : (t.channels.take o)[k]'(by omega) = t.channels[k] := List.getElem_take
   rw [if_pos (by omega : (k : Int) < o), ixO_nat hkl, Option.bind_some, W_succ (by omega), List.drop_eq_getElem_cons (i := k) (by omega), List.any_cons, hg, h3]
   by_cases c : t.channels[k].name.toList = e.name.toList <;> simp [sameN, c]
  ·have : k = o := by omega
   subst this
   rw [if_neg (by omega), List.drop_of_length_le (by omega)]
   simp
theorem rin_eq (F : Nat) (n lo hi : Int) : r9_in F n lo hi = some (!outP n lo hi) := by
 unfold r9_in outP
 by_cases h1 : lo ≤ n
 ·rw [if_pos h1]; congr 1; by_cases h2 : n ≤ hi <;> simp [h1, h2] <;> omega
 ·rw [if_neg h1]; congr 1; simp; omega
def chP (t : FrFormat) (k : Nat) (e : FrChannel) : Int :=
 if nameP e.name = true then (if (t.channels.take k).any (sameN e) = true then 5 else if outP e.word 0 (t.words - 1) = true then 7 else if e.every < 1 then 7 else if Int.tmod t.depth e.every = 0 then (if outP e.phase 0 (e.every - 1) = true then 7 else if (t.channels.take k).any (meetP e) = true then 2 else 0) else 7) else 6
theorem chP_ok {t : FrFormat} {k : Nat} {e : FrChannel} (h : chP t k e = 0) : ChV t e ∧ ChOk t e := by
 unfold chP at h
 repeat' split at h
 all_goals first | omega | skip
 rename_i h1 h2 h3 h4 h5 h6 h7
 have h3' := outP_f.1 (eq_false_of_ne_true h3)
 have h6' := outP_f.1 (eq_false_of_ne_true h6)
 exact ⟨⟨by omega, h5, by omega⟩, by omega, by omega, by omega⟩
theorem frame_step {F : Nat} {t : FrFormat} (hF : FmF F t) (hc : t.channels.length ≤ 12) (hw : 1 ≤ t.words ∧ t.words ≤ 32) (hd : 1 ≤ t.depth ∧ t.depth ≤ 16) (K : Int → Option (Int × Int × Int)) {n k : Nat} (hk : k < t.channels.length) (hv : ∀ c ∈ t.channels.take k, ChV t c) :
  frame_Check_L1 F t K (n + 1) k = (if chP t k t.channels[k] = 0 then frame_Check_L1 F t K n ((k + 1 : Nat) : Int) else some (2, (k : Int), chP t k t.channels[k])) := by
 obtain ⟨g1, g2⟩ := hF.n _ (List.getElem_mem hk)
 have hf := hF.f
 have hlt : (t.channels.take k).length < 100 := by rw [List.length_take]; omega
 rw [frame_Check_L1, if_pos (by omega : (k : Int) < (t.channels.length : Int)), ixO_nat hk, cut_nat (by omega), W_succ (by omega)]
 simp only [Option.bind_some]
 generalize t.channels[k] = e at *
 rw [wname_eq g2 g1]
 unfold chP
 simp only [Option.bind_some]
 by_cases c1 : nameP e.name = true
 case neg => rw [if_neg c1, if_neg c1, if_neg (by omega)]
 rw [if_pos c1, if_pos c1, hasK (p := sameN e) (fun x _ => by unfold frame_Check_1 sameN; by_cases h : x.name.toList = e.name.toList <;> simp [h]) (by omega) (by omega)]
 simp only [Option.bind_some]
 by_cases c2 : (t.channels.take k).any (sameN e) = true
 ·rw [if_pos c2, if_pos c2, if_neg (by omega)]
 rw [if_neg c2, if_neg c2, out_eq, W_id]
 simp only [Option.bind_some]
 by_cases c3 : outP e.word 0 (t.words - 1) = true
 ·rw [if_pos c3, if_pos c3, if_neg (by omega)]
 rw [if_neg c3, if_neg c3]
 by_cases c4 : e.every < 1
 ·rw [if_pos c4, if_pos c4, if_neg (by omega)]
 rw [if_neg c4, if_neg c4, if_neg (by omega : ¬ e.every = 0)]
 by_cases c5 : Int.tmod t.depth e.every = 0
 case neg => rw [if_neg c5, if_neg c5, if_neg (by omega)]
 rw [if_pos c5, if_pos c5, out_eq]
 have hW : outP e.phase 0 (W (e.every - 1)) = outP e.phase 0 (e.every - 1) := by
  have := Int.le_of_dvd (by omega) (Int.dvd_of_tmod_eq_zero c5)
  rw [W_id]
 rw [hW]
 simp only [Option.bind_some]
 by_cases c6 : outP e.phase 0 (e.every - 1) = true
 ·rw [if_pos c6, if_pos c6, if_neg (by omega)]
 rw [if_neg c6, if_neg c6, hasK (p := meetP e) (fun x hx => by
  have hx1 := (hv x hx).e
  unfold frame_Check_2 frame_meet meetP
  by_cases h : e.word = x.word
  ·rw [if_pos h, if_neg (by omega)]; simp [h]
  ·rw [if_neg h]; simp [h]) (by omega) (by omega)]
 simp only [Option.bind_some]
 by_cases c7 : (t.channels.take k).any (meetP e) = true
 ·rw [if_pos c7, if_pos c7, if_neg (by omega)]
 rw [if_neg c7, if_neg c7, if_pos rfl]
theorem ref_step {F : Nat} {t : FrFormat} (hF : FmF F t) (hc : t.channels.length ≤ 12) (hw : 1 ≤ t.words ∧ t.words ≤ 32) (hd : DepOk t.depth) {k : Nat} (hk : k < t.channels.length) (hv : ∀ c ∈ t.channels.take k, ChV t c) :
  r9_channel F t k = some (chP t k t.channels[k]) := by
 obtain ⟨g1, g2⟩ := hF.n _ (List.getElem_mem hk)
 have hf := hF.f
 have hlt : (t.channels.take k).length < 100 := by rw [List.length_take]; omega
 unfold r9_channel
 rw [ixO_nat hk]
 simp only [Option.bind_some]
 generalize t.channels[k] = e at *
 rw [rname_eq g2 g1]
 unfold chP
 simp only [Option.bind_some]
 by_cases c1 : nameP e.name = true
 case neg => rw [if_neg c1, if_neg c1]
 rw [if_pos c1, if_pos c1]
 have h3 := ch_L3 (F := F) (t := t) (o := k) (e := e) (K := fun (y : Int) => Option.bind (r9_in F e.word 0 (W (t.words - 1))) fun rv2 => if rv2 = true then (if e.every < 1 then (some 7) else (if e.every = 0 then none else (if (Int.tmod t.depth e.every) = 0 then (Option.bind (r9_in F e.phase 0 (W (e.every - 1))) fun rv3 => if rv3 = true then (r9_channel_L2 F t k e (fun (x : Int) => some 0) F 0) else (some 7)) else (some 7)))) else (some 7)) (by omega) hc F 0 (by omega) (by omega)
 rw [show ((0 : Nat) : Int) = 0 from rfl, List.drop_zero] at h3
 rw [h3]
 by_cases c2 : (t.channels.take k).any (sameN e) = true
 ·rw [if_pos c2, if_pos c2]
 rw [if_neg c2, if_neg c2, rin_eq, W_id]
 simp only [Option.bind_some]
 by_cases c3 : outP e.word 0 (t.words - 1) = true
 ·rw [if_pos c3, c3]; rfl
 rw [if_neg c3, eq_false_of_ne_true c3]
 simp only [Bool.not_false, if_true]
 by_cases c4 : e.every < 1
 ·rw [if_pos c4, if_pos c4]
 rw [if_neg c4, if_neg c4, if_neg (by omega : ¬ e.every = 0)]
 by_cases c5 : Int.tmod t.depth e.every = 0
 case neg => rw [if_neg c5, if_neg c5]
 rw [if_pos c5, if_pos c5, rin_eq]
 have hdp : 1 ≤ t.depth ∧ t.depth ≤ 16 := by unfold DepOk at hd; omega
 have hW : outP e.phase 0 (W (e.every - 1)) = outP e.phase 0 (e.every - 1) := by
  have := Int.le_of_dvd (by omega) (Int.dvd_of_tmod_eq_zero c5)
  rw [W_id]
 rw [hW]
 simp only [Option.bind_some]
 by_cases c6 : outP e.phase 0 (e.every - 1) = true
 ·rw [if_pos c6, c6]; rfl
 rw [if_neg c6, eq_false_of_ne_true c6]
 have c6' := outP_f.1 (eq_false_of_ne_true c6)
 simp only [Bool.not_false, if_true]
 have h2 := ch_L2 (F := F) (t := t) (o := k) (e := e) (K := fun _ => some 0) (by omega) (by omega) hc (fun c h => (hv c h).e) F 0 (by omega) (by omega)
 rw [show ((0 : Nat) : Int) = 0 from rfl, List.drop_zero] at h2
 rw [h2]
 have hm : ((t.channels.take k).any fun d => meet16 e d) = (t.channels.take k).any (meetP e) := by
  have : ∀ l : List FrChannel, (∀ c ∈ l, ChV t c) → l.any (fun d => meet16 e d) = l.any (meetP e) := fun l hl => by
   induction l with
   | nil => rfl
   | cons x l ih => rw [List.any_cons, List.any_cons, ih (fun c h => hl c (by simp [h])), meet_eq hd ⟨by omega, c5, by omega⟩ (hl x (by simp))]
  exact this _ hv
 rw [hm]
 by_cases c7 : (t.channels.take k).any (meetP e) = true
 ·rw [if_pos c7, if_pos c7]
 rw [if_neg c7, if_neg c7]
theorem both_L1 {F : Nat} {t : FrFormat} (hF : FmF F t) (hc : t.channels.length ≤ 12) (hw : 1 ≤ t.words ∧ t.words ≤ 32) (hd : DepOk t.depth) : ∀ n k : Nat, t.channels.length < n + k → k ≤ t.channels.length → (∀ c ∈ t.channels.take k, ChV t c ∧ ChOk t c) →
  ∃ a b e, frame_Check_L1 F t (fun _ => some (0, 0, 0)) n k = some (a, b, e) ∧ (∃ a b, r9_Check_L1 F t (fun _ => some (0, 0, 0)) n k = some (a, b, e)) ∧ (e = 0 → ∀ c ∈ t.channels, ChOk t c) := by
 have hdp : 1 ≤ t.depth ∧ t.depth ≤ 16 := by unfold DepOk at hd; omega
 intro n
 induction n with
 | zero => intro k h1 h2; omega
 | succ n ih =>
  intro k h1 h2 h3
  by_cases hk : k < t.channels.length
  ·rw [frame_step hF hc hw hdp _ hk (fun c h => (h3 c h).1), r9_Check_L1, if_pos (by omega : (k : Int) < (t.channels.length : Int)), ref_step hF hc hw hd hk (fun c h => (h3 c h).1), W_succ (by omega)]
   simp only [Option.bind_some]
   by_cases h0 : chP t k t.channels[k] = 0
   ·rw [if_pos h0, if_pos h0]
    refine ih (k + 1) (by omega) (by omega) fun c h => ?_
    rw [List.take_succ_eq_append_getElem hk] at h
    rcases List.mem_append.1 h with h | h
    ·exact h3 c h
    ·rw [List.mem_singleton.1 h]; exact chP_ok h0
   ·rw [if_neg h0, if_neg h0]
    exact ⟨_, _, _, rfl, ⟨_, _, rfl⟩, fun h => absurd h h0⟩
  ·rw [frame_Check_L1, r9_Check_L1, if_neg (by omega), if_neg (by omega)]
   refine ⟨_, _, _, rfl, ⟨_, _, rfl⟩, fun _ c hcm => ?_⟩
   rw [List.take_of_length_le (by omega)] at h3
   exact (h3 c hcm).2
theorem L2_eq {F : Nat} {t : FrFormat} {K : Int → Option (Int × Int × Int)} : ∀ n i, r9_Check_L2 F t K n i = r9_Check_L1 F t K n i
 | 0, _ => rfl
 | n + 1, i => by rw [r9_Check_L2, r9_Check_L1]; simp only [L2_eq n]
theorem L3_eq {F : Nat} {t : FrFormat} {K : Int → Option (Int × Int × Int)} : ∀ n i, r9_Check_L3 F t K n i = r9_Check_L1 F t K n i
 | 0, _ => rfl
 | n + 1, i => by rw [r9_Check_L3, r9_Check_L1]; simp only [L3_eq n]
theorem L4_eq {F : Nat} {t : FrFormat} {K : Int → Option (Int × Int × Int)} : ∀ n i, r9_Check_L4 F t K n i = r9_Check_L1 F t K n i
 | 0, _ => rfl
 | n + 1, i => by rw [r9_Check_L4, r9_Check_L1]; simp only [L4_eq n]
theorem L5_eq {F : Nat} {t : FrFormat} {K : Int → Option (Int × Int × Int)} : ∀ n i, r9_Check_L5 F t K n i = r9_Check_L1 F t K n i
 | 0, _ => rfl
 | n + 1, i => by rw [r9_Check_L5, r9_Check_L1]; simp only [L5_eq n]
structure FmV (t : FrFormat) : Prop where
 s : 1 ≤ t.sync.size ∧ t.sync.size ≤ 4
 w : 1 ≤ t.words ∧ t.words ≤ 32
theorem check_both {F : Nat} {t : FrFormat} (hF : FmF F t) : ∃ a b e, frame_Check F t = some (a, b, e) ∧ r9_valid F t = some e ∧ (e = 0 → FmV t) := by
 unfold frame_Check r9_valid r9_Check
 rw [out_eq, rin_eq]
 simp only [Option.bind_some]
 by_cases c1 : outP (t.sync.size : Int) 1 4 = true
 ·rw [if_pos c1, c1]; exact ⟨_, _, _, rfl, rfl, fun h => by cases h⟩
 rw [if_neg c1, eq_false_of_ne_true c1]
 have c1' := outP_f.1 (eq_false_of_ne_true c1)
 simp only [Bool.not_false, if_true]
 by_cases c2 : 12 < (t.channels.length : Int)
 ·rw [if_pos c2, if_pos c2]; exact ⟨_, _, _, rfl, rfl, fun h => by cases h⟩
 rw [if_neg c2, if_neg c2]
 simp only [out_eq, rin_eq, Option.bind_some]
 by_cases c3 : outP t.words 1 32 = true
 ·rw [if_pos c3, c3]
  simp only [Bool.not_true, Bool.false_eq_true, if_false, ite_self]
  exact ⟨_, _, _, rfl, rfl, fun h => by cases h⟩
 rw [if_neg c3, eq_false_of_ne_true c3]
 have c3' := outP_f.1 (eq_false_of_ne_true c3)
 simp only [Bool.not_false, if_true]
 have hf := hF.f
 by_cases c4 : outP t.depth 1 16 = true
 ·rw [if_pos c4]
  have h1 : ¬ t.depth = 1 := fun h => by rw [h] at c4; cases c4
  have h2 : ¬ t.depth = 2 := fun h => by rw [h] at c4; cases c4
  have h3 : ¬ t.depth = 4 := fun h => by rw [h] at c4; cases c4
  have h4 : ¬ t.depth = 8 := fun h => by rw [h] at c4; cases c4
  have h5 : ¬ t.depth = 16 := fun h => by rw [h] at c4; cases c4
  rw [if_neg h1, if_neg h2, if_neg h3, if_neg h4, if_neg h5]
  exact ⟨_, _, _, rfl, rfl, fun h => by cases h⟩
 rw [if_neg c4]
 have c4' := outP_f.1 (eq_false_of_ne_true c4)
 by_cases c5 : DepOk t.depth
 ·rw [if_pos ((dep_and _ c4').2 c5)]
  obtain ⟨a, b, e, k1, ⟨a2, b2, k2⟩, k3⟩ := both_L1 hF (by omega) c3' c5 F 0 (by omega) (Nat.zero_le _) (fun c h => by cases h)
  rw [show ((0 : Nat) : Int) = 0 from rfl] at k1 k2
  refine ⟨a, b, e, k1, ?_, fun _ => ⟨by omega, c3'⟩⟩
  simp only [L2_eq, L3_eq, L4_eq, L5_eq, k2, Option.bind_some]
  rcases c5 with h | h | h | h | h <;> rw [h] <;> rfl
 ·rw [if_neg (fun h => c5 ((dep_and _ c4').1 h))]
  unfold DepOk at c5
  rw [if_neg (by omega), if_neg (by omega), if_neg (by omega), if_neg (by omega), if_neg (by omega)]
  exact ⟨_, _, _, rfl, rfl, fun h => by cases h⟩
end Go.Proofs.Ytjnnkcnnandeeaa.Fm
open Go Go.Proofs.Ytjnnkcnnandeeaa.Sh Go.Proofs
namespace Go.Proofs.Ytjnnkcnnandeeaa.Fm
theorem ofInt_u16 (a : Nat) (ha : a < 65536) : (BitVec.ofInt 16 (a : Int)).toNat = a := by
 rw [BitVec.ofInt_natCast, BitVec.toNat_ofNat]; exact Nat.mod_eq_of_lt (by omega)
theorem ofInt_i64 (a : Nat) (ha : a < 65536) : (BitVec.ofInt 64 (a : Int)).toNat = a := by
 rw [BitVec.ofInt_natCast, BitVec.toNat_ofNat]; exact Nat.mod_eq_of_lt (by omega)
theorem wrap16 (x : Int) (h : 0 ≤ x ∧ x < 65536) : IntKind.u16.wrap x = x := by
 unfold IntKind.wrap
 simp [IntKind.bits, IntKind.signed]
 omega
theorem xor16 (a b : Nat) (ha : a < 65536) (hb : b < 65536) : ixor .u16 (a : Int) (b : Int) = ((a ^^^ b : Nat) : Int) := by
 have hx : a ^^^ b < 2 ^ 16 := Nat.xor_lt_two_pow (by omega) (by omega)
 show IntKind.u16.wrap ((BitVec.ofInt 16 (a : Int) ^^^ BitVec.ofInt 16 (b : Int)).toNat : Int) = _
 rw [BitVec.toNat_xor, ofInt_u16 a ha, ofInt_u16 b hb, wrap16 _ (by omega)]
theorem shl16 (a k : Nat) (hk : k < 16) : ishl .u16 (a : Int) (k : Int) = ((a * 2 ^ k % 65536 : Nat) : Int) := by
 show IntKind.u16.wrap ((a : Int) * 2 ^ (min (k : Int).toNat 16)) = _
 rw [Int.toNat_natCast, Nat.min_eq_left (by omega)]
 unfold IntKind.wrap
 simp [IntKind.bits, IntKind.signed]
def stepN (s : Nat) : Nat := if 32768 ≤ s then (2 * s % 65536) ^^^ 4129 else 2 * s % 65536
theorem stepN_lt (s : Nat) : stepN s < 65536 := by
 unfold stepN
 split
 ·exact Nat.xor_lt_two_pow (n := 16) (by omega) (by omega)
 ·omega
def iterN : Nat → Nat → Nat
 | 0, s => s
 | m + 1, s => iterN m (stepN s)
theorem iterN_lt : ∀ m s, s < 65536 → iterN m s < 65536
 | 0, _, h => h
 | m + 1, s, _ => iterN_lt m _ (stepN_lt s)
theorem add_L1 {F : Nat} {K : Int → Int → Option Int} : ∀ n k m s : Nat, 8 < n + k → k + m = 8 → s < 65536 → frame_sum_add_L1 F K n s k = K (iterN m s : Nat) 8 := by
 intro n
 induction n with
 | zero => intro k m s h1 h2; omega
 | succ n ih =>
  intro k m s h1 h2 hs
  rw [frame_sum_add_L1]
  cases m with
  | zero => rw [if_neg (by omega)]; have : k = 8 := by omega
            subst this; rfl
  | succ m =>
   rw [if_pos (by omega : (k : Int) < 8), W_succ (by omega)]
   unfold frame_out_sum
   have h3 := ih (k + 1) m (stepN s) (by omega) (by omega) (stepN_lt s)
   have e1 : ishl .u16 (s : Int) 1 = ((2 * s % 65536 : Nat) : Int) := by
    have := shl16 s 1 (by omega)
    rw [show ((1 : Nat) : Int) = 1 from rfl] at this
    rw [this, Nat.pow_one, Nat.mul_comm]
   by_cases hc : (s : Int) < 32768
   ·rw [if_pos hc]
    simp only [Option.bind_some, if_true]
    rw [e1, show 2 * s % 65536 = stepN s by unfold stepN; rw [if_neg (by omega)], h3]; rfl
   ·rw [if_neg hc]
    simp only [Option.bind_some]
    rw [if_neg (by simp <;> omega), e1, show (4129 : Int) = ((4129 : Nat) : Int) from rfl, xor16 _ _ (by omega) (by omega), show (2 * s % 65536) ^^^ 4129 = stepN s by unfold stepN; rw [if_pos (by omega)], h3]; rfl
def addN (s c : Nat) : Nat := iterN 8 (s ^^^ (c * 256))
theorem addN_lt {s c : Nat} (hs : s < 65536) (hc : c < 256) : addN s c < 65536 := iterN_lt _ _ (Nat.xor_lt_two_pow (n := 16) (by omega) (by omega))
def isByte (b : Int) : Prop := 0 ≤ b ∧ b ≤ 255
def sumN (l : List Int) : Nat := l.foldl (fun s c => addN s c.toNat) 65535
theorem foldN_lt (l : List Int) : ∀ (s : Nat), (∀ b ∈ l, isByte b) → s < 65536 → l.foldl (fun s c => addN s c.toNat) s < 65536 := by
 induction l with
 | nil => intro s _ h; exact h
 | cons b l ih =>
  intro s hb h
  rw [List.foldl_cons]
  exact ih _ (fun c hc => hb c (by simp [hc])) (addN_lt h (by have := hb b (by simp); unfold isByte at this; omega))
theorem sumN_lt {l : List Int} (h : ∀ b ∈ l, isByte b) : sumN l < 65536 := foldN_lt l _ h (by omega)
theorem fadd_eq {F : Nat} (hF : 8 < F) {s : Nat} {c : Int} (hs : s < 65536) (hc : isByte c) : frame_sum_add F s c = some ((addN s c.toNat : Nat) : Int) := by
 obtain ⟨q, rfl⟩ := Int.eq_ofNat_of_zero_le hc.1
 have h2 := hc.2
 unfold frame_sum_add
 rw [wrap16 _ (by omega), show (8 : Int) = ((8 : Nat) : Int) from rfl, shl16 q 8 (by omega), xor16 _ _ hs (by omega)]
 have := add_L1 (F := F) (K := fun s2 _ => some s2) F 0 8 (s ^^^ (q * 2 ^ 8 % 65536)) (by omega) (by omega) (Nat.xor_lt_two_pow (n := 16) (by omega) (by omega))
 rw [show ((0 : Nat) : Int) = 0 from rfl] at this
 rw [this]
 show some _ = some _
 unfold addN
 rw [Int.toNat_natCast, Nat.mod_eq_of_lt (by omega)]
theorem fsum_L {F : Nat} (hF : 8 < F) {b : List Int} (hb : ∀ c ∈ b, isByte c) (hl : b.length < 100000) {K : Int → Int → Option Int} : ∀ n k s : Nat, b.length < n + k → k ≤ b.length → s < 65536 →
  frame_Sum_L1 F b K n s k = K ((b.drop k).foldl (fun s c => addN s c.toNat) s : Nat) (b.length : Nat) := by
 intro n
 induction n with
 | zero => intro k s h1 h2; omega
 | succ n ih =>
  intro k s h1 h2 hs
  rw [frame_Sum_L1]
  by_cases hk : k < b.length
  ·have hby := hb _ (List.getElem_mem hk)
   rw [if_pos (by omega : (k : Int) < (b.length : Int)), ixO_nat hk, W_succ (by omega)]
   simp only [Option.bind_some]
   rw [fadd_eq hF hs hby]
   simp only [Option.bind_some]
   rw [ih (k + 1) _ (by omega) (by omega) (addN_lt hs (by unfold isByte at hby; omega)), List.drop_eq_getElem_cons hk, List.foldl_cons]
  ·rw [if_neg (by omega), List.drop_of_length_le (by omega)]
   have : k = b.length := by omega
   subst this; rfl
theorem fsum_eq {F : Nat} {b : List Int} (hb : ∀ c ∈ b, isByte c) (hl : b.length < 100000) (hF : b.length < F) (hF8 : 8 < F) : frame_Sum F b = some ((sumN b : Nat) : Int) := by
 unfold frame_Sum
 have := fsum_L hF8 hb hl (K := fun s _ => some (W s)) F 0 65535 (by omega) (Nat.zero_le _) (by omega)
 rw [show ((0 : Nat) : Int) = 0 from rfl, show ((65535 : Nat) : Int) = 65535 from rfl, List.drop_zero] at this
 rw [this]
 have := sumN_lt hb
 show some (W (sumN b : Nat)) = _
 rw [W_id]
end Go.Proofs.Ytjnnkcnnandeeaa.Fm
open Go Go.Proofs.Ytjnnkcnnandeeaa.Sh Go.Proofs
namespace Go.Proofs.Ytjnnkcnnandeeaa.Fm
theorem strL_data (l : List Int) : ∀ r : ByteArray, (l.foldl (fun r n => r.push (UInt8.ofNat n.toNat)) r).data.toList = r.data.toList ++ l.map fun n => UInt8.ofNat n.toNat := by
 induction l with
 | nil => intro r; simp
 | cons x l ih => intro r; rw [List.foldl_cons, ih, List.map_cons]; simp [ByteArray.push]
theorem bytes_str {l : List Int} (h : ∀ b ∈ l, isByte b) : bytesL (strL l) = l := by
 unfold bytesL strL
 rw [strL_data, show ByteArray.empty.data.toList = ([] : List UInt8) from rfl, List.nil_append, List.map_map]
 have : ∀ l : List Int, (∀ b ∈ l, isByte b) → l.map ((fun b : UInt8 => (b.toNat : Int)) ∘ fun n => UInt8.ofNat n.toNat) = l := fun l => by
  induction l with
  | nil => intro _; rfl
  | cons x l ih =>
   intro h
   rw [List.map_cons, ih fun b hb => h b (by simp [hb])]
   have hx := h x (by simp)
   unfold isByte at hx
   congr 1
   show ((UInt8.ofNat x.toNat).toNat : Int) = x
   rw [UInt8.toNat_ofNat']
   omega
 exact this l h
theorem bytesL_inj {a b : ByteArray} : a.toList = b.toList ↔ bytesL a = bytesL b := by
 rw [ByteArray.toList_eq, ByteArray.toList_eq]
 unfold bytesL
 constructor
 ·intro h; rw [h]
 ·intro h
  have hinj : ∀ l m : List UInt8, l.map (fun b : UInt8 => (b.toNat : Int)) = m.map (fun b : UInt8 => (b.toNat : Int)) → l = m := fun l => by
   induction l with
   | nil => intro m h; cases m with | nil => rfl | cons y m => cases h
   | cons x l ih =>
    intro m h
    cases m with
    | nil => cases h
    | cons y m =>
     rw [List.map_cons, List.map_cons] at h
     injection h with h1 h2
     rw [ih m h2, UInt8.toNat_inj.1 (by omega : x.toNat = y.toNat)]
  exact hinj _ _ h
theorem bytesL_byte (s : ByteArray) : ∀ b ∈ bytesL s, isByte b := by
 intro b hb
 unfold bytesL at hb
 obtain ⟨c, _, rfl⟩ := List.mem_map.1 hb
 have := c.toNat_lt
 unfold isByte
 omega
theorem ixD {l : List Int} {k : Nat} (h : k < l.length) : ixO l (k : Int) = some (l.getD k 0) := by
 rw [ixO_nat h, List.getD_eq_getElem?_getD, List.getElem?_eq_getElem h]; rfl
theorem cutN {l : List Int} {a b : Nat} (h : a ≤ b) (k : b ≤ l.length) : cutO l (a : Int) (b : Int) = some ((l.drop a).take (b - a)) := by
 unfold cutO
 rw [if_pos (by omega), Int.toNat_natCast, Int.toNat_natCast]
theorem byteD {l : List Int} (h : ∀ b ∈ l, isByte b) (k : Nat) : isByte (l.getD k 0) := by
 rw [List.getD_eq_getElem?_getD]
 by_cases hk : k < l.length
 ·rw [List.getElem?_eq_getElem hk]; exact h _ (List.getElem_mem hk)
 ·rw [List.getElem?_eq_none (by omega)]; exact ⟨by decide, by decide⟩
theorem eq_L {F : Nat} {s1 s2 : List Int} (hl : s1.length = s2.length) (hs : s1.length < 100000) : ∀ n k : Nat, s1.length < n + k → k ≤ s1.length →
  slices_Equal_byte_L1 F s1 s2 (fun _ => some true) n k = some (decide (s1.drop k = s2.drop k)) := by
 intro n
 induction n with
 | zero => intro k h1 h2; omega
 | succ n ih =>
  intro k h1 h2
  rw [slices_Equal_byte_L1]
  by_cases hk : k < s1.length
  ·rw [if_pos (by omega : (k : Int) < (s1.length : Int)), ixO_nat hk, ixO_nat (by omega : k < s2.length), W_succ (by omega), ih (k + 1) (by omega) (by omega), List.drop_eq_getElem_cons (l := s1) hk, List.drop_eq_getElem_cons (l := s2) (i := k) (by omega)]
   simp only [Option.bind_some]
   by_cases c : s1[k] = s2[k]
   ·rw [if_pos c, c]; congr 1; exact decide_eq_decide.2 ⟨fun h => by rw [h], fun h => (List.cons.inj h).2⟩
   ·rw [if_neg c]; congr 1; exact (decide_eq_false fun h => c (List.cons.inj h).1).symm
  ·rw [if_neg (by omega), List.drop_of_length_le (by omega), List.drop_of_length_le (by omega)]; simp
theorem equal_eq {F : Nat} {s1 s2 : List Int} (hs : s1.length < 100000) (hF : s1.length < F) : slices_Equal_byte F s1 s2 = some (decide (s1 = s2)) := by
 unfold slices_Equal_byte
 by_cases h : s1.length = s2.length
 ·rw [if_pos (by omega)]
  have := eq_L (F := F) h hs F 0 (by omega) (Nat.zero_le _)
  rw [show ((0 : Nat) : Int) = 0 from rfl, List.drop_zero, List.drop_zero] at this
  exact this
 ·rw [if_neg (by omega)]
  congr 1
  simp
  intro e; exact h (by rw [e])
def pr (s : Nat) : List Int := [((s / 256 : Nat) : Int), ((s % 256 : Nat) : Int)]
theorem W8_mod {x : Nat} : W8 (x : Int) = ((x % 256 : Nat) : Int) := by
 unfold W8 IntKind.wrap
 simp [IntKind.bits, IntKind.signed]
theorem pair_eq {F s : Nat} (h : s < 65536) : frame_pair F (s : Int) = some (pr s) := by
 unfold frame_pair pr
 have e : ishr .i64 (s : Int) 8 = ((s / 256 : Nat) : Int) := by
  show (s : Int).fdiv (2 ^ (min (8 : Int).toNat 64)) = _
  rw [show min (8 : Int).toNat 64 = 8 from rfl, Int.fdiv_eq_ediv_of_nonneg _ (by decide)]
  omega
 rw [e, W8_mod, W8_mod, Nat.mod_eq_of_lt (by omega : s / 256 < 256)]
theorem two_eq {a b : Int} (ha : isByte a) (hb : isByte b) : ior .i64 (ishl .i64 (W a) 8) (W b) = 256 * a + b := by
 obtain ⟨x, rfl⟩ := Int.eq_ofNat_of_zero_le ha.1
 obtain ⟨y, rfl⟩ := Int.eq_ofNat_of_zero_le hb.1
 have hx := ha.2
 have hy := hb.2
 rw [W_id, W_id]
 have e1 : ishl .i64 (x : Int) 8 = ((x * 256 : Nat) : Int) := by
  show W ((x : Int) * 2 ^ (min (8 : Int).toNat 64)) = _
  rw [show min (8 : Int).toNat 64 = 8 from rfl, W_id]
  omega
 rw [e1]
 show W ((BitVec.ofInt 64 ((x * 256 : Nat) : Int) ||| BitVec.ofInt 64 (y : Int)).toNat : Int) = _
 rw [BitVec.toNat_or, ofInt_i64 _ (by omega), ofInt_i64 _ (by omega)]
 have e2 : x * 256 ||| y = x * 256 + y := by
  have := Nat.shiftLeft_add_eq_or_of_lt (i := 8) (b := y) (by omega) x
  rw [Nat.shiftLeft_eq] at this
  exact this.symm
 rw [e2, W_id]
 omega
theorem and255 {x : Int} (h : -9223372036854775808 ≤ x ∧ x < 9223372036854775808) : iand .i64 x 255 = x % 256 := by
 show W ((BitVec.ofInt 64 x &&& BitVec.ofInt 64 255).toNat : Int) = _
 rw [BitVec.toNat_and, BitVec.toNat_ofInt, show (BitVec.ofInt 64 255).toNat = 2 ^ 8 - 1 from rfl, Nat.and_two_pow_sub_one_eq_mod]
 rw [W_id]
 omega
def wN (t : FrFormat) : Nat := t.words.toNat
def szN (t : FrFormat) : Nat := t.sync.size + 1 + 2 * wN t + 2
def wordAt (o : List Int) (h j : Nat) : Int := 256 * o.getD (h + 1 + 2 * j) 0 + o.getD (h + 1 + 2 * j + 1) 0
def wordsOf (o : List Int) (h w : Nat) : List Int := (List.range w).map (wordAt o h)
theorem words_succ (o : List Int) (h w : Nat) : wordsOf o h (w + 1) = wordsOf o h w ++ [wordAt o h w] := by
 unfold wordsOf; rw [List.range_succ, List.map_append]; rfl
theorem words_len (o : List Int) (h w : Nat) : (wordsOf o h w).length = w := by simp [wordsOf]
def own (t : FrFormat) (b : List Int) (p : Nat) : List Int := (b.drop p).take (szN t)
def okO (t : FrFormat) (o : List Int) : Prop := o.take t.sync.size = bytesL t.sync ∧ o.drop (szN t - 2) = pr (sumN (o.take (szN t - 2)))
instance (t : FrFormat) (o : List Int) : Decidable (okO t o) := by unfold okO; exact inferInstance
def encW (ws : List Int) : List Int := ws.flatMap fun w => [w / 256, w % 256]
theorem encW_byte {ws : List Int} (h : ∀ w ∈ ws, 0 ≤ w ∧ w ≤ 65535) : ∀ b ∈ encW ws, isByte b := by
 intro b hb
 unfold encW at hb
 obtain ⟨w, hw, hb⟩ := List.mem_flatMap.1 hb
 have := h w hw
 unfold isByte
 rcases List.mem_cons.1 hb with rfl | hb
 ·omega
 ·rw [List.mem_singleton.1 hb]; omega
theorem encW_len (ws : List Int) : (encW ws).length = 2 * ws.length := by
 unfold encW
 induction ws with
 | nil => rfl
 | cons w ws ih => rw [List.flatMap_cons, List.length_append, ih]; simp; omega
theorem wordAt_le {o : List Int} (ho : ∀ b ∈ o, isByte b) (h j : Nat) : 0 ≤ wordAt o h j ∧ wordAt o h j ≤ 65535 := by
 have k1 := byteD ho (h + 1 + 2 * j)
 have k2 := byteD ho (h + 1 + 2 * j + 1)
 unfold isByte at k1 k2
 unfold wordAt
 omega
theorem words_le {o : List Int} (ho : ∀ b ∈ o, isByte b) (h w : Nat) : ∀ x ∈ wordsOf o h w, 0 ≤ x ∧ x ≤ 65535 := by
 intro x hx
 unfold wordsOf at hx
 obtain ⟨j, _, rfl⟩ := List.mem_map.1 hx
 exact wordAt_le ho h j
theorem size_eq {t : FrFormat} (hv : FmV t) : W ((W ((W ((t.sync.size : Int) + 1)) + (W (2 * t.words)))) + 2) = (szN t : Int) := by
 have h1 := hv.s
 have h2 := hv.w
 have h3 : ((wN t : Nat) : Int) = t.words := by unfold wN; omega
 rw [W_id (x := 2 * t.words), W_id (x := (t.sync.size : Int) + 1), W_id (x := (t.sync.size : Int) + 1 + 2 * t.words), W_id]
 all_goals (unfold szN; omega)
theorem sz_le {t : FrFormat} (hv : FmV t) : szN t ≤ 71 ∧ t.sync.size + 5 ≤ szN t := by
 have h1 := hv.s
 have h2 := hv.w
 have h3 : ((wN t : Nat) : Int) = t.words := by unfold wN; omega
 unfold szN
 omega
end Go.Proofs.Ytjnnkcnnandeeaa.Fm
open Go Go.Proofs.Ytjnnkcnnandeeaa.Sh Go.Proofs
namespace Go.Proofs.Ytjnnkcnnandeeaa.Fm
def frameAt (t : FrFormat) (b : List Int) (p : Nat) : FrFrame := ⟨p, (own t b p).getD t.sync.size 0, wordsOf (own t b p) t.sync.size (wN t)⟩
def scan (t : FrFormat) (b : List Int) : Nat → Nat → List FrFrame
 | 0, _ => []
 | n + 1, p => if p + szN t ≤ b.length then (if okO t (own t b p) then frameAt t b p :: scan t b n (p + szN t) else scan t b n (p + 1)) else []
theorem scan_nil {t : FrFormat} {b : List Int} {p : Nat} (h : b.length < p + szN t) : ∀ n, scan t b n p = []
 | 0 => rfl
 | n + 1 => by rw [scan, if_neg (by omega)]
def nextN (x c : Int) : Int := x + (c - x) % 256
def nums : Int → List FrFrame → Option (List Int)
 | _, [] => some []
 | x, f :: l => if 1000000 < nextN x f.count then none else (nums (nextN x f.count + 1) l).map fun ns => nextN x f.count :: ns
theorem own_len {t : FrFormat} {b : List Int} {p : Nat} (h : p + szN t ≤ b.length) : (own t b p).length = szN t := by
 unfold own; rw [List.length_take, List.length_drop]; omega
theorem own_byte {t : FrFormat} {b : List Int} (hb : ∀ c ∈ b, isByte c) (p : Nat) : ∀ c ∈ own t b p, isByte c := fun c hc => hb c (List.mem_of_mem_drop (List.mem_of_mem_take hc))
section
variable {F : Nat} {t : FrFormat} {b : List Int}
def rvOf (t : FrFormat) (b : List Int) : Int × List Int × Int × FrFormat := ((szN t : Int), b, (t.sync.size : Int), t)
theorem fr_L1 {q : List Int} (hv : FmV t) (hq : q.length = szN t) (hb : ∀ c ∈ q, isByte c) {K : List Int → Int → Option (List FrFrame × List Int × Int)} : ∀ n j : Nat, wN t < n + j → j ≤ wN t →
  frame_read_L1 F (rvOf t b) q K n (wordsOf q t.sync.size j) ((t.sync.size + 1 + 2 * j : Nat) : Int) = K (wordsOf q t.sync.size (wN t)) ((szN t - 2 : Nat) : Int) := by
 have hz := sz_le hv
 have hsz : szN t = t.sync.size + 1 + 2 * wN t + 2 := rfl
 intro n
 induction n with
 | zero => intro j h1 h2; omega
 | succ n ih =>
  intro j h1 h2
  rw [frame_read_L1]
  have e0 : W ((rvOf t b).1 - 2) = ((szN t - 2 : Nat) : Int) := by show W ((szN t : Int) - 2) = _; rw [W_id]; omega
  rw [e0]
  by_cases hj : j < wN t
  ·rw [if_pos (by omega), ixD (by omega), show W (((t.sync.size + 1 + 2 * j : Nat) : Int) + 1) = ((t.sync.size + 1 + 2 * j + 1 : Nat) : Int) from W_succ (by omega), ixD (by omega)]
   simp only [Option.bind_some]
   rw [two_eq (byteD hb _) (byteD hb _), app_one (by rw [words_len]; omega)]
   simp only [Option.bind_some]
   have := ih (j + 1) (by omega) (by omega)
   rw [words_succ] at this
   rw [show W (((t.sync.size + 1 + 2 * j : Nat) : Int) + 2) = ((t.sync.size + 1 + 2 * (j + 1) : Nat) : Int) by rw [W_id]; all_goals omega]
   exact this
  ·rw [if_neg (by omega)]
   have : j = wN t := by omega
   subst this
   rw [show t.sync.size + 1 + 2 * wN t = szN t - 2 by omega]
theorem next_eq {x c : Int} (hx : 0 ≤ x ∧ x ≤ 2000000) (hc : isByte c) : W (x + (iand .i64 (W ((W c) - (iand .i64 x 255))) 255)) = nextN x c ∧ x ≤ nextN x c ∧ nextN x c ≤ x + 255 := by
 obtain ⟨h1, h2⟩ := hc
 rw [W_id (x := c), and255 (x := x) (by omega), W_id (x := c - x % 256), and255 (x := c - x % 256) (by omega)]
 unfold nextN
 have : (c - x % 256) % 256 = (c - x) % 256 := by omega
 rw [this, W_id]
 omega
theorem fr_L2 (hv : FmV t) (hb : ∀ c ∈ b, isByte c) (hl : b.length ≤ 4000) (hF : 100000 < F) : ∀ (n p : Nat) (lv : List FrFrame) (lv2 : List Int) (x : Int), b.length < n + p → p ≤ b.length → lv.length ≤ p → lv2.length ≤ p → 0 ≤ x ∧ x ≤ 1000001 →
  frame_read_L2 F (rvOf t b) (fun (_ : Int) (lv : List FrFrame) (lv2 : List Int) (_ : Int) => some (lv, lv2, 0)) n p lv lv2 x = some (match nums x (scan t b n p) with | some ns => (lv ++ scan t b n p, lv2 ++ ns, 0) | none => ([], [], 7)) := by
 have hz := sz_le hv
 have hsz : szN t = t.sync.size + 1 + 2 * wN t + 2 := rfl
 intro n
 induction n with
 | zero => intro p lv lv2 x h1 h2; omega
 | succ n ih =>
  intro p lv lv2 x h1 h2 h3 h4 hx
  have e0 : W ((p : Int) + (rvOf t b).1) = ((p + szN t : Nat) : Int) := by show W ((p : Int) + (szN t : Int)) = _; rw [W_id]; all_goals omega
  rw [frame_read_L2, e0]
  by_cases hp : p + szN t ≤ b.length
  case neg =>
   rw [if_neg (by show ¬ ((p + szN t : Nat) : Int) ≤ (b.length : Int); omega), scan, if_neg hp]
   simp [nums]
  rw [if_pos (by show ((p + szN t : Nat) : Int) ≤ (b.length : Int); omega), scan, if_pos hp]
  have c1 : cutO (rvOf t b).2.1 (p : Int) ((p + szN t : Nat) : Int) = some (own t b p) := by
   show cutO b _ _ = _
   rw [cutN (by omega) hp, show p + szN t - p = szN t by omega]; rfl
  rw [c1]
  simp only [Option.bind_some]
  have ho := own_len hp
  have hob := own_byte (t := t) hb p
  generalize hO : own t b p = O at *
  have c2 : cutO O 0 (rvOf t b).2.2.1 = some (O.take t.sync.size) := by
   show cutO O 0 (t.sync.size : Int) = _
   exact cut_nat (by omega)
  have hs1 := hv.s
  have hlen : 0 < (O.take t.sync.size).length := by rw [List.length_take]; omega
  rw [c2]
  simp only [Option.bind_some]
  rw [show strO (O.take t.sync.size) = some (strL (O.take t.sync.size)) from if_pos hlen]
  simp only [Option.bind_some]
  have hib : ∀ c ∈ O.take t.sync.size, isByte c := fun c hc => hob c (List.mem_of_mem_take hc)
  have hcmp : ((strL (O.take t.sync.size)).toList = (rvOf t b).2.2.2.sync.toList) ↔ O.take t.sync.size = bytesL t.sync := by
   show ((strL (O.take t.sync.size)).toList = t.sync.toList) ↔ _
   rw [bytesL_inj, bytes_str hib]
  have step : frame_read_L2 F (rvOf t b) (fun (_ : Int) (lv : List FrFrame) (lv2 : List Int) (_ : Int) => some (lv, lv2, 0)) n (W ((p : Int) + 1)) lv lv2 x = some (match nums x (scan t b n (p + 1)) with | some ns => (lv ++ scan t b n (p + 1), lv2 ++ ns, 0) | none => ([], [], 7)) := by
   rw [W_succ (by omega)]
   exact ih (p + 1) lv lv2 x (by omega) (by omega) (by omega) (by omega) hx
  by_cases hc1 : O.take t.sync.size = bytesL t.sync
  case neg => rw [if_neg (fun h => hc1 (hcmp.1 h)), if_neg (fun h => hc1 h.1), step]
  rw [if_pos (hcmp.2 hc1)]
  have e2 : W ((rvOf t b).1 - 2) = ((szN t - 2 : Nat) : Int) := by show W ((szN t : Int) - 2) = _; rw [W_id]; omega
  have e3 : W ((t.sync.size : Int) + 1) = ((t.sync.size + 1 : Nat) : Int) := W_succ (by omega)
  have c3 : cutO O (W ((rvOf t b).1 - 2)) O.length = some (O.drop (szN t - 2)) := by
   rw [e2, cutN (by omega) (Nat.le_refl _), List.take_of_length_le (by rw [List.length_drop]; exact Nat.le_refl _)]
  have c4 : cutO O 0 (W ((rvOf t b).1 - 2)) = some (O.take (szN t - 2)) := by rw [e2]; exact cut_nat (by omega)
  rw [c3, c4]
  simp only [Option.bind_some]
  have hib2 : ∀ c ∈ O.take (szN t - 2), isByte c := fun c hc => hob c (List.mem_of_mem_take hc)
  rw [fsum_eq hib2 (by rw [List.length_take]; omega) (by rw [List.length_take]; omega) (by omega)]
  simp only [Option.bind_some]
  rw [pair_eq (sumN_lt hib2)]
  simp only [Option.bind_some]
  rw [equal_eq (by rw [List.length_drop]; omega) (by rw [List.length_drop]; omega)]
  simp only [Option.bind_some]
  by_cases hc2 : O.drop (szN t - 2) = pr (sumN (O.take (szN t - 2)))
  case neg => rw [if_neg (by simpa using hc2), if_neg (fun h => hc2 h.2), step]
  rw [if_pos (by simpa using hc2), if_pos ⟨hc1, hc2⟩]
  have c5 : ixO O (rvOf t b).2.2.1 = some (O.getD t.sync.size 0) := ixD (by omega)
  rw [c5]
  simp only [Option.bind_some]
  have hcb := byteD hob t.sync.size
  have hfr : frameAt t b p = ⟨p, O.getD t.sync.size 0, wordsOf O t.sync.size (wN t)⟩ := by unfold frameAt; rw [hO]
  have hn := next_eq (by omega : 0 ≤ x ∧ x ≤ 2000000) hcb
  have hL := fr_L1 (F := F) (b := b) hv ho hob (K := fun (lv3 : List Int) (_ : Int) => if 1000000 < (W (x + (iand .i64 (W ((W (O.getD t.sync.size 0)) - (iand .i64 x 255))) 255))) then (some (([] : List FrFrame), ([] : List Int), 7)) else (Option.bind (appO lv [(FrFrame.mk p (W (O.getD t.sync.size 0)) lv3)]) fun q7 => Option.bind (appO lv2 [(W (x + (iand .i64 (W ((W (O.getD t.sync.size 0)) - (iand .i64 x 255))) 255)))]) fun q8 => frame_read_L2 F (rvOf t b) (fun (_ : Int) (lv : List FrFrame) (lv2 : List Int) (_ : Int) => some (lv, lv2, 0)) n ((p + szN t : Nat) : Int) q7 q8 (W ((W (x + (iand .i64 (W ((W (O.getD t.sync.size 0)) - (iand .i64 x 255))) 255))) + 1)))) F 0 (by omega) (by omega)
  rw [show wordsOf O t.sync.size 0 = [] from rfl, Nat.mul_zero, Nat.add_zero] at hL
  rw [show W ((rvOf t b).2.2.1 + 1) = ((t.sync.size + 1 : Nat) : Int) from e3, hL, hn.1, hfr, nums]
  have hWc : W (O.getD t.sync.size 0) = O.getD t.sync.size 0 := by unfold isByte at hcb; rw [W_id]
  rw [hWc]
  by_cases hm : 1000000 < nextN x (O.getD t.sync.size 0)
  ·rw [if_pos hm, if_pos hm]
  rw [if_neg hm, if_neg hm, app_one (by omega), app_one (by omega)]
  simp only [Option.bind_some]
  rw [W_id (x := nextN x (O.getD t.sync.size 0) + 1), ih (p + szN t) _ _ _ (by omega) hp (by simp <;> omega) (by simp <;> omega) (by omega)]
  cases nums (nextN x (O.getD t.sync.size 0) + 1) (scan t b n (p + szN t)) with
  | none => rfl
  | some ns => simp
theorem fread_eq (hv : FmV t) {x : FrTape} (hb : ∀ c ∈ x.bytes, isByte c) (hl : x.bytes.length ≤ 4000) (hF : 100000 < F) (hx : 0 ≤ x.first ∧ x.first ≤ 1000000) :
  frame_read F t x = some (match nums x.first (scan t x.bytes F 0) with | some ns => (scan t x.bytes F 0, ns, 0) | none => ([], [], 7)) := by
 unfold frame_read frame_frames
 simp only [Option.bind_some]
 rw [size_eq hv]
 have := fr_L2 hv hb hl hF F 0 [] [] x.first (by omega) (Nat.zero_le _) (Nat.le_refl _) (Nat.le_refl _) (by omega)
 rw [show ((0 : Nat) : Int) = 0 from rfl] at this
 simp only [List.nil_append] at this
 exact this
end
end Go.Proofs.Ytjnnkcnnandeeaa.Fm
open Go Go.Proofs.Ytjnnkcnnandeeaa.Sh Go.Proofs
namespace Go.Proofs.Ytjnnkcnnandeeaa.Fm
section
variable {F : Nat} {t : FrFormat} {b : List Int}
theorem scan_words : ∀ n p, ∀ f ∈ scan t b n p, f.words.length = wN t
 | 0, _, f, h => by cases h
 | n + 1, p, f, h => by
  rw [scan] at h
  split at h
  ·split at h
   ·rcases List.mem_cons.1 h with rfl | h
    ·exact words_len _ _ _
    ·exact scan_words n _ f h
   ·exact scan_words n _ f h
  ·cases h
theorem scan_range (hb : ∀ c ∈ b, isByte c) : ∀ n p, ∀ f ∈ scan t b n p, ∀ w ∈ f.words, 0 ≤ w ∧ w ≤ 65535
 | 0, _, f, h => by cases h
 | n + 1, p, f, h => by
  rw [scan] at h
  split at h
  ·split at h
   ·rcases List.mem_cons.1 h with rfl | h
    ·exact words_le (own_byte hb p) _ _
    ·exact scan_range hb n _ f h
   ·exact scan_range hb n _ f h
  ·cases h
theorem scan_len (hv : FmV t) : ∀ n p, p ≤ b.length → (scan t b n p).length + p ≤ b.length
 | 0, p, h => by simp [scan]; exact h
 | n + 1, p, h => by
  have hz := sz_le hv
  rw [scan]
  split
  ·rename_i h1
   split
   ·have := scan_len hv n (p + szN t) h1
    rw [List.length_cons]; omega
   ·have := scan_len hv n (p + 1) (by omega)
    omega
  ·simp; exact h
end
end Go.Proofs.Ytjnnkcnnandeeaa.Fm
open Go Go.Proofs.Ytjnnkcnnandeeaa.Sh Go.Proofs
namespace Go.Proofs.Ytjnnkcnnandeeaa.Fm
theorem kput_cases (A : KL) (k : List Int) : (∃ i p, A[i]? = some p ∧ p.1 = k ∧ kget A k = p.2 ∧ ∀ v, kput A k v = A.set i (k, v)) ∨ ((∀ p ∈ A, p.1 ≠ k) ∧ kget A k = [] ∧ ∀ v, kput A k v = A ++ [(k, v)]) := by
 by_cases h : kidx A k < A.length
 ·obtain ⟨p, h1, h2⟩ := kidx_get h
  refine .inl ⟨kidx A k, p, h1, h2, ?_, fun v => ?_⟩
  ·unfold kget kadd; rw [if_pos h, h1]; rfl
  ·unfold kput kadd; rw [if_pos h]
 ·have he : kidx A k = A.length := by have := kidx_le k A; omega
  refine .inr ⟨fun p hp e => ?_, ?_, fun v => ?_⟩
  ·have : ∀ A : KL, p ∈ A → kidx A k < A.length := fun A => by
    induction A with
    | nil => intro h; cases h
    | cons q A ih =>
     intro h
     unfold kidx
     by_cases hq : q.1 = k
     ·rw [if_pos hq]; simp
     ·rw [if_neg hq]
      rcases List.mem_cons.1 h with rfl | h
      ·exact absurd e hq
      ·have := ih h; simp; omega
   exact h (this A hp)
  ·unfold kget kadd; rw [if_neg h, he, List.getElem?_append_right (Nat.le_refl _), Nat.sub_self]; rfl
  ·unfold kput kadd; rw [if_neg h, he, List.set_append_right _ _ (Nat.le_refl _), Nat.sub_self]; rfl
def keyR (r : FrReport) : List Int := keyF 32 r.number r.words
structure AInv (A : KL) (P : List FrReport) : Prop where
 nd : (A.map (·.1)).Nodup
 ls : ∀ p ∈ A, p.2 = (P.filter fun x => decide (keyR x = p.1)).map (·.from_) ∧ ∃ x ∈ P, keyR x = p.1
 all : ∀ x ∈ P, ∃ p ∈ A, p.1 = keyR x
theorem AInv.nil : AInv [] [] := ⟨List.nodup_nil, fun p h => (by cases h), fun x h => (by cases h)⟩
theorem AInv.get {A : KL} {P : List FrReport} (h : AInv A P) (k : List Int) : kget A k = (P.filter fun x => decide (keyR x = k)).map (·.from_) := by
 rcases kput_cases A k with ⟨i, p, h1, h2, h3, _⟩ | ⟨h1, h2, _⟩
 ·rw [h3, (h.ls p (List.mem_of_getElem? h1)).1, h2]
 ·rw [h2]
  symm
  rw [List.map_eq_nil_iff, List.filter_eq_nil_iff]
  intro x hx
  obtain ⟨p, hp, e⟩ := h.all x hx
  simpa using fun e2 => h1 p hp (e.trans e2)
theorem AInv.add {A : KL} {P : List FrReport} (h : AInv A P) (x : FrReport) : AInv (kput A (keyR x) (kget A (keyR x) ++ [x.from_])) (P ++ [x]) := by
 have hf : ∀ k, ((P ++ [x]).filter fun y => decide (keyR y = k)).map (·.from_) = (P.filter fun y => decide (keyR y = k)).map (·.from_) ++ (if keyR x = k then [x.from_] else []) := fun k => by
  rw [List.filter_append, List.map_append]
  by_cases e : keyR x = k
  ·simp [e]
  ·simp [e]
 have hg := h.get (keyR x)
 rcases kput_cases A (keyR x) with ⟨i, p, h1, h2, h3, h4⟩ | ⟨h1, h2, h3⟩
 ·rw [h4]
  obtain ⟨hi, hip⟩ := List.getElem?_eq_some_iff.1 h1
  have hmap : (A.set i (keyR x, kget A (keyR x) ++ [x.from_])).map (·.1) = A.map (·.1) := by
   rw [List.map_set]
   apply List.ext_getElem? ; intro j
   rw [List.getElem?_set]
   split
   ·rename_i e; subst e
    split
    ·rw [List.getElem?_map, h1]; simp [h2]
    ·rename_i hn; simp at hn; omega
   ·rfl
  refine ⟨by rw [hmap]; exact h.nd, fun q hq => ?_, fun y hy => ?_⟩
  ·obtain ⟨j, hj⟩ := List.getElem?_of_mem hq
   rw [List.getElem?_set] at hj
   by_cases e : i = j
   ·subst e
    rw [if_pos rfl, if_pos hi] at hj
    have hj := (Option.some.inj hj).symm
    subst hj
    dsimp only
    exact ⟨by rw [hf, hg, if_pos rfl], x, by simp, rfl⟩
   ·rw [if_neg e] at hj
    have hqm := List.mem_of_getElem? hj
    have hne : q.1 ≠ keyR x := fun e2 => by
     have := (kidx_of h.nd h1 h2).symm.trans (kidx_of h.nd hj e2)
     exact e this
    obtain ⟨k1, z, k2, k3⟩ := h.ls q hqm
    exact ⟨by rw [hf, if_neg (fun e2 => hne e2.symm), List.append_nil]; exact k1, z, by simp [k2], k3⟩
  ·have key : ∀ k, (∃ q ∈ A, q.1 = k) → ∃ q ∈ A.set i (keyR x, kget A (keyR x) ++ [x.from_]), q.1 = k := fun k ⟨q, hq, e⟩ => by
    have : k ∈ (A.set i (keyR x, kget A (keyR x) ++ [x.from_])).map (·.1) := by rw [hmap]; exact List.mem_map.2 ⟨q, hq, e⟩
    exact List.mem_map.1 this
   rcases List.mem_append.1 hy with hy | hy
   ·exact key _ (h.all y hy)
   ·rw [List.mem_singleton.1 hy]; exact key _ ⟨p, List.mem_of_getElem? h1, h2⟩
 ·rw [h3, h2, List.nil_append]
  have hP : ∀ y ∈ P, keyR y ≠ keyR x := fun y hy e => by
   obtain ⟨q, hq, e2⟩ := h.all y hy
   exact h1 q hq (e2.trans e)
  refine ⟨?_, fun q hq => ?_, fun y hy => ?_⟩
  ·rw [List.map_append, List.nodup_append]
   refine ⟨h.nd, by simp, fun a ha b hb e => ?_⟩
   obtain ⟨q, hq, rfl⟩ := List.mem_map.1 ha
   simp at hb
   exact h1 q hq (e.trans hb)
  ·rcases List.mem_append.1 hq with hq | hq
   ·obtain ⟨k1, z, k2, k3⟩ := h.ls q hq
    exact ⟨by rw [hf, if_neg (fun e => h1 q hq e.symm), List.append_nil]; exact k1, z, by simp [k2], k3⟩
   ·rw [List.mem_singleton.1 hq]
    dsimp only
    refine ⟨?_, x, by simp, rfl⟩
    rw [hf, if_pos rfl, show (P.filter fun y => decide (keyR y = keyR x)) = [] from List.filter_eq_nil_iff.2 fun y hy => by simpa using hP y hy]
    rfl
  ·rcases List.mem_append.1 hy with hy | hy
   ·obtain ⟨q, hq, e⟩ := h.all y hy; exact ⟨q, by simp [hq], e⟩
   ·rw [List.mem_singleton.1 hy]; exact ⟨(keyR x, [x.from_]), by simp, rfl⟩
def foldA (A : KL) (P : List FrReport) : KL := P.foldl (fun A x => kput A (keyR x) (kget A (keyR x) ++ [x.from_])) A
theorem AInv.fold {A : KL} : ∀ {T P : List FrReport}, AInv A P → AInv (foldA A T) (P ++ T) := by
 intro T
 induction T generalizing A with
 | nil => intro P h; rw [List.append_nil]; exact h
 | cons x T ih =>
  intro P h
  have := ih (h.add x)
  rw [List.append_assoc] at this
  exact this
def tell (i : Int) (l : List FrFrame) (ns : List Int) : List FrReport := List.zipWith (fun f n => ⟨n, i, 0, false, f.words⟩) l ns
theorem key_ok1 {n : Int} {ws : List Int} (hn : 0 ≤ n ∧ n ≤ 2000000) (hw : ∀ w ∈ ws, 0 ≤ w ∧ w ≤ 65535) : keyB 33 (keyF 32 n ws) = true := by
 unfold keyB
 rw [Bool.and_eq_true]
 refine ⟨by rw [← keyF_len]; rfl, ?_⟩
 rw [List.all_eq_true]
 intro x hx
 have hx : 0 ≤ x ∧ x ≤ 2000000 := by
  unfold keyF copyL at hx
  rcases List.mem_append.1 hx with hx | hx
  ·rcases List.mem_append.1 hx with hx | hx
   ·have := List.mem_of_mem_take hx
    rcases List.mem_cons.1 this with rfl | h
    ·exact hn
    ·rw [List.eq_of_mem_replicate h]; omega
   ·have := hw x (List.mem_of_mem_take hx); omega
  ·have := List.mem_of_mem_drop hx
   rcases List.mem_cons.1 this with rfl | h
   ·exact hn
   ·rw [List.eq_of_mem_replicate h]; omega
 unfold inR
 simp
 omega
structure RvOk (t : FrFormat) (l : List FrFrame) (ns : List Int) : Prop where
 len : ns.length = l.length
 le : l.length ≤ 4000
 n : ∀ n ∈ ns, 0 ≤ n ∧ n ≤ 1000000
 inc : ns.Pairwise (· < ·)
 w : ∀ f ∈ l, f.words.length = wN t ∧ ∀ w ∈ f.words, 0 ≤ w ∧ w ≤ 65535
theorem nums_ok : ∀ (l : List FrFrame) (x : Int) (ns : List Int), 0 ≤ x → nums x l = some ns → ns.length = l.length ∧ (∀ n ∈ ns, x ≤ n ∧ n ≤ 1000000) ∧ ns.Pairwise (· < ·)
 | [], x, ns, _, h => by cases h; exact ⟨rfl, (fun n h => (by cases h)), List.Pairwise.nil⟩
 | f :: l, x, ns, hx, h => by
  rw [nums] at h
  split at h
  ·cases h
  ·rename_i hm
   obtain ⟨q, h1, rfl⟩ := Option.map_eq_some_iff.1 h
   have hb : x ≤ nextN x f.count := by unfold nextN; omega
   obtain ⟨k1, k2, k3⟩ := nums_ok l _ q (by omega) h1
   refine ⟨by simp [k1], fun n hn => ?_, ?_⟩
   ·rcases List.mem_cons.1 hn with rfl | hn
    ·omega
    ·have := k2 n hn; omega
   ·rw [List.pairwise_cons]
    exact ⟨fun n hn => by have := k2 n hn; omega, k3⟩
section
variable {F : Nat} {t : FrFormat}
theorem tell_get {i : Int} {l : List FrFrame} {ns : List Int} (hl : ns.length = l.length) {k : Nat} (hk : k < l.length) : (tell i l ns).drop k = ⟨ns[k], i, 0, false, l[k].words⟩ :: (tell i l ns).drop (k + 1) := by
 have hlen : (tell i l ns).length = l.length := by unfold tell; rw [List.length_zipWith]; omega
 rw [List.drop_eq_getElem_cons (by omega)]
 congr 1
 unfold tell
 rw [List.getElem_zipWith]
theorem tell_len {i : Int} {l : List FrFrame} {ns : List Int} (hl : ns.length = l.length) : (tell i l ns).length = l.length := by unfold tell; rw [List.length_zipWith]; omega
theorem pm_L1 {x : Int} {l : List FrFrame} {ns : List Int} {e : Int} (hv : RvOk t l ns) {K : Int → KL → Option (List FrReport × Int)} : ∀ (n k : Nat) (A : KL) (P : List FrReport), l.length < n + k → k ≤ l.length → AInv A P → P.length ≤ 50000 + k →
  frame_Merge_L1 F x (l, ns, e) K n k A = K (l.length : Nat) (foldA A ((tell x l ns).drop k)) := by
 have hl := hv.len
 have hle := hv.le
 intro n
 induction n with
 | zero => intro k A P h1 h2; omega
 | succ n ih =>
  intro k A P h1 h2 h3 h4
  rw [frame_Merge_L1]
  by_cases hk : k < l.length
  ·rw [if_pos (by show (k : Int) < (l.length : Int); omega)]
   have e1 : ixO (l, ns, e).2.1 (k : Int) = some ns[k] := ixO_nat (l := ns) (by omega)
   have e2 : ixO (l, ns, e).1 (k : Int) = some l[k] := ixO_nat hk
   rw [e1, e2]
   simp only [Option.bind_some]
   have hn := hv.n _ (List.getElem_mem (by omega : k < ns.length))
   rw [if_pos (key_ok1 (by omega) (hv.w _ (List.getElem_mem hk)).2), app_one (by rw [h3.get, List.length_map]; have := List.length_filter_le (fun x => decide (keyR x = keyF 32 ns[k] l[k].words)) P; omega)]
   simp only [Option.bind_some]
   have := ih (k + 1) _ (P ++ [⟨ns[k], x, 0, false, l[k].words⟩]) (by omega) (by omega) (h3.add ⟨ns[k], x, 0, false, l[k].words⟩) (by simp <;> omega)
   rw [W_succ (by omega), tell_get hl hk]
   exact this
  ·rw [if_neg (by show ¬ (k : Int) < (l.length : Int); omega)]
   have : k = l.length := by omega
   subst this
   rw [List.drop_of_length_le (by rw [tell_len hl]; exact Nat.le_refl _)]
   rfl
end
end Go.Proofs.Ytjnnkcnnandeeaa.Fm
open Go Go.Proofs.Ytjnnkcnnandeeaa.Sh Go.Proofs
namespace Go.Proofs.Ytjnnkcnnandeeaa.Fm
section
variable {F : Nat} {t : FrFormat}
def resT (t : FrFormat) (F : Nat) (x : FrTape) : List FrFrame × List Int × Int := if 4000 < x.bytes.length then ([], [], 3) else if outP x.first 0 1000000 = true then ([], [], 7) else match nums x.first (scan t x.bytes F 0) with | some ns => (scan t x.bytes F 0, ns, 0) | none => ([], [], 7)
theorem res_ok (hv : FmV t) {x : FrTape} (hb : ∀ c ∈ x.bytes, isByte c) (h : (resT t F x).2.2 = 0) : RvOk t (resT t F x).1 (resT t F x).2.1 := by
 unfold resT at h ⊢
 by_cases h1 : 4000 < x.bytes.length
 ·rw [if_pos h1] at h; cases h
 rw [if_neg h1] at h ⊢
 by_cases h2 : outP x.first 0 1000000 = true
 ·rw [if_pos h2] at h; cases h
 rw [if_neg h2] at h ⊢
 have hx := outP_f.1 (eq_false_of_ne_true h2)
 have hl := scan_len (b := x.bytes) hv F 0 (Nat.zero_le _)
 cases hn : nums x.first (scan t x.bytes F 0) with
 | none => rw [hn] at h; cases h
 | some ns =>
  obtain ⟨k1, k2, k3⟩ := nums_ok _ _ _ hx.1 hn
  exact ⟨k1, by dsimp only; omega, fun n h => by have := k2 n h; omega, k3, fun f hf => ⟨scan_words F 0 f hf, scan_range hb F 0 f hf⟩⟩
def allT (t : FrFormat) (F : Nat) : Int → List FrTape → Int × List FrReport
 | _, [] => (0, [])
 | i, x :: o => if (resT t F x).2.2 = 0 then (if (allT t F (i + 1) o).1 = 0 then (0, tell i (resT t F x).1 (resT t F x).2.1 ++ (allT t F (i + 1) o).2) else ((allT t F (i + 1) o).1, [])) else ((resT t F x).2.2, [])
theorem tape_eq {a b : Int} (hc : frame_Check F t = some (a, b, 0)) (x : FrTape) : frame_tape F t x = some (if 4000 < x.bytes.length then 3 else if outP x.first 0 1000000 = true then (7 : Int) else 0) := by
 unfold frame_tape
 rw [hc]
 simp only [Option.bind_some, if_true]
 by_cases h1 : 4000 < x.bytes.length
 ·rw [if_pos (by omega), if_pos h1]
 rw [if_neg (by omega), if_neg h1, out_eq]
 simp only [Option.bind_some]
 by_cases h2 : outP x.first 0 1000000 = true
 ·rw [if_pos h2, if_pos h2]
 ·rw [if_neg h2, if_neg h2]
theorem pm_L3 (hv : FmV t) {a0 b0 : Int} (hc : frame_Check F t = some (a0, b0, 0)) (hF : 100000 < F) {o : List FrTape} (ho : o.length ≤ 4) (hb : ∀ x ∈ o, ∀ c ∈ x.bytes, isByte c) {K : KL → Option (List FrReport × Int)} : ∀ (n k : Nat) (a : Int) (A : KL) (P : List FrReport), o.length < n + k → k ≤ o.length → AInv A P → P.length ≤ 4000 * k →
  frame_Merge_L3 F t o (fun _ _ A => K A) n a k A = if (allT t F k (o.drop k)).1 = 0 then K (foldA A (allT t F k (o.drop k)).2) else some ([], (allT t F k (o.drop k)).1) := by
 intro n
 induction n with
 | zero => intro k a A P h1 h2; omega
 | succ n ih =>
  intro k a A P h1 h2 hA hP
  rw [frame_Merge_L3]
  by_cases hk : k < o.length
  ·have hbk := hb _ (List.getElem_mem hk)
   rw [if_pos (by omega : (k : Int) < (o.length : Int)), ixO_nat hk, List.drop_eq_getElem_cons hk, allT]
   simp only [Option.bind_some]
   rw [tape_eq hc]
   simp only [Option.bind_some]
   have hok := res_ok (F := F) hv hbk
   by_cases h1 : 4000 < o[k].bytes.length
   ·have : resT t F o[k] = ([], [], 3) := by unfold resT; rw [if_pos h1]
    rw [if_pos h1, if_neg (by omega), this]
    rfl
   rw [if_neg h1]
   by_cases h2 : outP o[k].first 0 1000000 = true
   ·have : resT t F o[k] = ([], [], 7) := by unfold resT; rw [if_neg h1, if_pos h2]
    rw [if_pos h2, if_neg (by omega), this]
    rfl
   have hr : frame_read F t o[k] = some (resT t F o[k]) := by
    rw [fread_eq hv hbk (by omega) hF (outP_f.1 (eq_false_of_ne_true h2))]; unfold resT; rw [if_neg h1, if_neg h2] <;> rfl
   rw [if_neg h2, if_pos rfl, hr]
   simp only [Option.bind_some]
   by_cases h0 : (resT t F o[k]).2.2 = 0
   ·have hok := hok h0
    rw [if_pos h0, if_pos h0]
    have hL := pm_L1 (F := F) (x := (k : Int)) (e := (resT t F o[k]).2.2) hok (K := fun (x2 : Int) (A2 : KL) => frame_Merge_L3 F t o (fun _ _ A => K A) n 0 (W ((k : Int) + 1)) A2) F 0 A P (by have := hok.le; omega) (Nat.zero_le _) hA (by omega)
    rw [show ((0 : Nat) : Int) = 0 from rfl, List.drop_zero] at hL
    change frame_Merge_L1 F (k : Int) ((resT t F o[k]).1, (resT t F o[k]).2.1, (resT t F o[k]).2.2) _ F 0 A = _
    rw [hL, W_succ (by omega), ih (k + 1) 0 _ (P ++ tell (k : Int) (resT t F o[k]).1 (resT t F o[k]).2.1) (by omega) (by omega) hA.fold (by rw [List.length_append, tell_len hok.len]; have := hok.le; omega)]
    rw [show ((k + 1 : Nat) : Int) = (k : Int) + 1 from rfl]
    by_cases h4 : (allT t F ((k : Int) + 1) (o.drop (k + 1))).1 = 0
    ·rw [if_pos h4, if_pos h4, if_pos rfl]
     unfold foldA
     rw [List.foldl_append]
    ·rw [if_neg h4, if_neg h4, if_neg h4]
   ·rw [if_neg h0, if_neg h0, if_neg h0]
  ·rw [if_neg (by omega), List.drop_of_length_le (by omega), allT, if_pos rfl]
   rfl
structure TOk (t : FrFormat) (i : Int) (T : List FrReport) : Prop where
 a : ∀ x ∈ T, x.agree = 0 ∧ x.marked = false ∧ (0 ≤ x.number ∧ x.number ≤ 1000000) ∧ x.words.length = wN t ∧ (∀ w ∈ x.words, 0 ≤ w ∧ w ≤ 65535) ∧ i ≤ x.from_
 s : T.Pairwise fun x y => x.from_ ≤ y.from_
 u : ∀ x ∈ T, ∀ y ∈ T, x.number = y.number → x.from_ = y.from_ → x = y
theorem tell_mem {i : Int} {l : List FrFrame} {ns : List Int} {x : FrReport} (h : x ∈ tell i l ns) : ∃ (k : Nat) (h1 : k < l.length) (h2 : k < ns.length), x = ⟨ns[k], i, 0, false, l[k].words⟩ := by
 unfold tell at h
 obtain ⟨k, hk, e⟩ := List.getElem_of_mem h
 rw [List.length_zipWith] at hk
 rw [List.getElem_zipWith] at e
 exact ⟨k, by omega, by omega, e.symm⟩
theorem tell_ok {i : Int} {l : List FrFrame} {ns : List Int} (h : RvOk t l ns) : TOk t i (tell i l ns) := by
 refine ⟨fun x hx => ?_, ?_, fun x hx y hy e _ => ?_⟩
 ·obtain ⟨k, h1, h2, rfl⟩ := tell_mem hx
  have := h.w _ (List.getElem_mem h1)
  exact ⟨rfl, rfl, h.n _ (List.getElem_mem h2), this.1, this.2, Int.le_refl _⟩
 ·refine List.pairwise_of_forall_mem_list fun x hx y hy => ?_
  obtain ⟨k, h1, h2, rfl⟩ := tell_mem hx
  obtain ⟨j, h3, h4, rfl⟩ := tell_mem hy
  exact Int.le_refl _
 ·obtain ⟨k, h1, h2, rfl⟩ := tell_mem hx
  obtain ⟨j, h3, h4, rfl⟩ := tell_mem hy
  have hp := List.pairwise_iff_getElem.1 h.inc
  dsimp only at e
  rcases Nat.lt_trichotomy k j with hkj | hkj | hkj
  ·have := hp k j h2 h4 hkj; omega
  ·subst hkj; rfl
  ·have := hp j k h4 h2 hkj; omega
theorem all_ok (hv : FmV t) : ∀ (o : List FrTape) (i : Int), (∀ x ∈ o, ∀ c ∈ x.bytes, isByte c) → TOk t i (allT t F i o).2 ∧ (allT t F i o).2.length ≤ 4000 * o.length
 | [], i, _ => ⟨⟨fun x h => (by cases h), List.Pairwise.nil, fun x h => (by cases h)⟩, Nat.zero_le _⟩
 | x :: o, i, hb => by
  have hnil : TOk t i [] := ⟨fun x h => (by cases h), List.Pairwise.nil, fun x h => (by cases h)⟩
  rw [allT]
  by_cases h0 : (resT t F x).2.2 = 0
  case neg => rw [if_neg h0]; exact ⟨hnil, Nat.zero_le _⟩
  rw [if_pos h0]
  obtain ⟨k1, k2⟩ := all_ok hv o (i + 1) fun y hy => hb y (by simp [hy])
  by_cases h4 : (allT t F (i + 1) o).1 = 0
  case neg => rw [if_neg h4]; exact ⟨hnil, Nat.zero_le _⟩
  rw [if_pos h4]
  have hok := res_ok (F := F) hv (hb x (by simp)) h0
  have ht := tell_ok (i := i) hok
  have hfr : ∀ y ∈ tell i (resT t F x).1 (resT t F x).2.1, y.from_ = i := fun y hy => by
   obtain ⟨k, h1, h2, rfl⟩ := tell_mem hy; rfl
  refine ⟨⟨fun y hy => ?_, ?_, fun y hy z hz e1 e2 => ?_⟩, ?_⟩
  ·rcases List.mem_append.1 hy with hy | hy
   ·exact ht.a y hy
   ·obtain ⟨q1, q2, q3, q4, q5, q6⟩ := k1.a y hy
    exact ⟨q1, q2, q3, q4, q5, by omega⟩
  ·dsimp only
   rw [List.pairwise_append]
   refine ⟨ht.s, k1.s, fun y hy z hz => ?_⟩
   have := hfr y hy
   have := (k1.a z hz).2.2.2.2.2
   omega
  ·rcases List.mem_append.1 hy with hy | hy <;> rcases List.mem_append.1 hz with hz | hz
   ·exact ht.u y hy z hz e1 e2
   ·have := hfr y hy
    have := (k1.a z hz).2.2.2.2.2
    omega
   ·have := hfr z hz
    have := (k1.a y hy).2.2.2.2.2
    omega
   ·exact k1.u y hy z hz e1 e2
  ·dsimp only
   rw [List.length_append, tell_len hok.len, List.length_cons]
   have := hok.le
   omega
end
end Go.Proofs.Ytjnnkcnnandeeaa.Fm
open Go Go.Proofs.Ytjnnkcnnandeeaa.Sh Go.Proofs
namespace Go.Proofs.Ytjnnkcnnandeeaa.Fm
theorem ints_L {F : Nat} {a b : List Int} (hl : a.length = b.length) (hs : a.length < 100000) : ∀ n k : Nat, a.length < n + k → k ≤ a.length →
  r1_Ints_L1 F a b (fun _ => some true) n k = some (decide (a.drop k = b.drop k)) := by
 intro n
 induction n with
 | zero => intro k h1 h2; omega
 | succ n ih =>
  intro k h1 h2
  rw [r1_Ints_L1]
  by_cases hk : k < a.length
  ·rw [if_pos (by omega : (k : Int) < (a.length : Int)), ixO_nat hk, ixO_nat (by omega : k < b.length), W_succ (by omega), ih (k + 1) (by omega) (by omega), List.drop_eq_getElem_cons (l := a) hk, List.drop_eq_getElem_cons (l := b) (i := k) (by omega)]
   simp only [Option.bind_some]
   by_cases c : a[k] = b[k]
   ·rw [if_pos c, c]; congr 1; exact decide_eq_decide.2 ⟨fun h => by rw [h], fun h => (List.cons.inj h).2⟩
   ·rw [if_neg c]; congr 1; exact (decide_eq_false fun h => c (List.cons.inj h).1).symm
  ·rw [if_neg (by omega), List.drop_of_length_le (by omega), List.drop_of_length_le (by omega)]; simp
theorem ints_eq {F : Nat} {a b : List Int} (hs : a.length < 100000) (hF : a.length < F) : r9_Ints F a b = some (decide (a = b)) := by
 unfold r9_Ints r1_Ints
 by_cases h : a.length = b.length
 ·rw [if_pos (by omega)]
  have := ints_L (F := F) h hs F 0 (by omega) (Nat.zero_le _)
  rw [show ((0 : Nat) : Int) = 0 from rfl, List.drop_zero, List.drop_zero] at this
  rw [this]; rfl
 ·rw [if_neg (by omega), decide_eq_false (fun e => h (by rw [e]))]; rfl
def sameK (r x : FrReport) : Bool := decide (x.number = r.number) && decide (x.words = r.words)
def othK (r x : FrReport) : Bool := decide (x.number = r.number) && !decide (x.words = r.words)
def cnt (T : List FrReport) (r : FrReport) : Nat := T.countP (sameK r)
def oth (T : List FrReport) (r : FrReport) : Bool := T.any (othK r)
def full (T : List FrReport) (x : FrReport) : FrReport := {x with agree := (cnt T x : Int), marked := oth T x}
def best (T P : List FrReport) (x : FrReport) : Prop := ∀ y ∈ P, y.number = x.number → cnt T y < cnt T x ∨ (cnt T y = cnt T x ∧ x.from_ ≤ y.from_)
structure OutP (T P out : List FrReport) : Prop where
 s : out.Pairwise fun x y => x.number < y.number
 m : ∀ r ∈ out, ∃ x ∈ P, r = full T x ∧ best T P x
 c : ∀ x ∈ P, ∃ r ∈ out, r.number = x.number
theorem OutP.one {t : FrFormat} {i : Int} {T a b : List FrReport} (ht : TOk t i T) (ha : OutP T T a) (hb : OutP T T b) : a = b := by
 have key : ∀ a b : List FrReport, OutP T T a → OutP T T b → ∀ r ∈ a, r ∈ b := fun a b ha hb r hr => by
  obtain ⟨x, hx, rfl, hbx⟩ := ha.m r hr
  obtain ⟨r2, hr2, e⟩ := hb.c x hx
  obtain ⟨y, hy, rfl, hby⟩ := hb.m r2 hr2
  have e : y.number = x.number := e
  have h1 := hbx y hy e
  have h2 := hby x hx e.symm
  have : x = y := ht.u x hx y hy e.symm (by omega)
  exact this ▸ hr2
 have hnd : ∀ a : List FrReport, OutP T T a → a.Nodup := fun a ha => ha.s.imp fun {x y} h e => by rw [e] at h; exact Int.lt_irrefl _ h
 have hp : a.Perm b := (List.perm_ext_iff_of_nodup (hnd a ha) (hnd b hb)).2 fun r => ⟨key a b ha hb r, key b a hb ha r⟩
 exact List.Perm.eq_of_pairwise (le := fun x y => x.number < y.number) (fun x y _ _ h1 h2 => absurd (Int.lt_trans h1 h2) (Int.lt_irrefl _)) ha.s hb.s hp
section
variable {F : Nat} {T : List FrReport}
end
end Go.Proofs.Ytjnnkcnnandeeaa.Fm
open Go Go.Proofs.Ytjnnkcnnandeeaa.Sh Go.Proofs
namespace Go.Proofs.Ytjnnkcnnandeeaa.Fm
section
variable {F : Nat} {t : FrFormat} {T : List FrReport}
theorem app_any {α : Type} {l m : List α} (h : l.length + m.length ≤ 1000000000) : appO l m = some (l ++ m) := if_pos h
end
end Go.Proofs.Ytjnnkcnnandeeaa.Fm
open Go Go.Proofs.Ytjnnkcnnandeeaa.Sh Go.Proofs
namespace Go.Proofs.Ytjnnkcnnandeeaa.Fm
section
variable {F : Nat} {t : FrFormat} {T : List FrReport}
theorem key_eq {n : Int} {ws : List Int} {w : Nat} (hl : ws.length = w) (hw : w ≤ 32) : keyF 32 n ws = n :: (ws ++ List.replicate (32 - w) 0) := by
 unfold keyF copyL
 rw [hl, Nat.min_eq_left hw, List.take_of_length_le (l := ws) (by omega), Nat.add_comm 1 w, List.drop_succ_cons, List.drop_replicate]
 rfl
theorem key_inj {n m : Int} {ws vs : List Int} {w : Nat} (h1 : ws.length = w) (h2 : vs.length = w) (hw : w ≤ 32) : keyF 32 n ws = keyF 32 m vs ↔ n = m ∧ ws = vs := by
 rw [key_eq h1 hw, key_eq h2 hw]
 constructor
 ·intro h
  injection h with e1 e2
  exact ⟨e1, (List.append_inj e2 (by omega)).1⟩
 ·rintro ⟨rfl, rfl⟩; rfl
theorem foldA_len : ∀ (T : List FrReport) (A : KL), (foldA A T).length ≤ A.length + T.length := by
 intro T
 induction T with
 | nil => intro A; exact Nat.le_refl _
 | cons x T ih =>
  intro A
  have h1 := ih (kput A (keyR x) (kget A (keyR x) ++ [x.from_]))
  have h2 : (kput A (keyR x) (kget A (keyR x) ++ [x.from_])).length ≤ A.length + 1 := by
   rcases kput_cases A (keyR x) with ⟨i, p, _, _, _, h4⟩ | ⟨_, _, h3⟩
   ·rw [h4, List.length_set]; omega
   ·rw [h3]; simp
  rw [List.length_cons]
  exact Nat.le_trans h1 (by omega)
def B (T : List FrReport) (x : FrReport) : FrReport := {x with agree := (cnt T x : Int)}
def base (w : Nat) (p : List Int × List Int) : FrReport := ⟨p.1.getD 0 0, p.2.getD 0 0, (p.2.length : Int), false, (p.1.drop 1).take w⟩
def firstK (T : List FrReport) (x : FrReport) : Prop := x ∈ T ∧ ∀ z ∈ T, keyR z = keyR x → x.from_ ≤ z.from_
theorem base_of (hw : wN t ≤ 32) {i0 : Int} (ht : TOk t i0 T) {A : KL} (hA : AInv A T) {p : List Int × List Int} (hp : p ∈ A) : ∃ x, firstK T x ∧ keyR x = p.1 ∧ base (wN t) p = B T x ∧ p.1.length = 33 ∧ 0 < p.2.length := by
 obtain ⟨h1, z, hz, ez⟩ := hA.ls p hp
 cases hf : T.filter (fun x => decide (keyR x = p.1)) with
 | nil => exact absurd (List.filter_eq_nil_iff.1 hf z hz) (by simp [ez])
 | cons x l =>
  have hxm : x ∈ T.filter (fun x => decide (keyR x = p.1)) := by rw [hf]; simp
  have hxT := (List.mem_filter.1 hxm).1
  have hxk : keyR x = p.1 := by simpa using (List.mem_filter.1 hxm).2
  have hfirst : firstK T x := ⟨hxT, fun z hz ez => by
   have hs := ht.s.sublist (List.filter_sublist (p := fun x => decide (keyR x = p.1)))
   rw [hf, List.pairwise_cons] at hs
   have hzm : z ∈ T.filter (fun x => decide (keyR x = p.1)) := List.mem_filter.2 ⟨hz, by simpa using ez.trans hxk⟩
   rw [hf] at hzm
   rcases List.mem_cons.1 hzm with rfl | hzm
   ·exact Int.le_refl _
   ·exact hs.1 z hzm⟩
  obtain ⟨q1, q2, q3, q4, q5, _⟩ := ht.a x hxT
  have hcnt : (T.filter (fun x => decide (keyR x = p.1))).length = cnt T x := by
   unfold cnt
   rw [List.countP_eq_length_filter]
   congr 1
   refine List.filter_congr fun y hy => ?_
   obtain ⟨_, _, _, r4, _⟩ := ht.a y hy
   rw [← hxk]
   unfold sameK keyR
   rw [← Bool.decide_and]
   exact decide_eq_decide.2 (key_inj r4 q4 hw)
  refine ⟨x, hfirst, hxk, ?_, ?_, ?_⟩
  ·unfold base B
   rw [h1, List.length_map, hcnt, hf, ← hxk]
   unfold keyR
   rw [key_eq q4 hw]
   cases x with
   | mk n f a m ws =>
    dsimp only at q1 q2 q4
    subst q1 q2
    simp [← q4]
  ·rw [← hxk]; unfold keyR; exact (keyF_len _ _ _).symm
  ·rw [h1, hf]; simp
theorem R_eq (hv : FmV t) {i0 : Int} (ht : TOk t i0 T) (hT : T.length ≤ 20000) {A : KL} (hA : AInv A T) {p : List Int × List Int} (hp : p ∈ A) : frame_Merge_R F t p.1 p.2 = some (base (wN t) p) := by
 have hw : wN t ≤ 32 := by have := hv.w; unfold wN; omega
 have hwi : ((wN t : Nat) : Int) = t.words := by have := hv.w; unfold wN; omega
 obtain ⟨x, _, _, _, h1, h2⟩ := base_of hw ht hA hp
 unfold frame_Merge_R
 rw [if_pos h1]
 have e1 : ixO p.1 0 = some (p.1.getD 0 0) := ixD (k := 0) (by omega)
 have e2 : ixO p.2 0 = some (p.2.getD 0 0) := ixD (k := 0) h2
 have e3 : cutO p.1 1 (W (1 + t.words)) = some ((p.1.drop 1).take (wN t)) := by
  have := hv.w
  rw [W_id (x := 1 + t.words), show (1 : Int) + t.words = ((1 + wN t : Nat) : Int) by omega, show (1 : Int) = ((1 : Nat) : Int) from rfl, cutN (by omega) (by omega), show 1 + wN t - 1 = wN t by omega]
 rw [e1, e2, e3]
 simp only [Option.bind_some]
 have e4 : slices_Clone_int F ((p.1.drop 1).take (wN t)) = some ((p.1.drop 1).take (wN t)) := by
  unfold slices_Clone_int appI
  rw [if_pos (by simp <;> omega)]
  rfl
 rw [e4]
 rfl
theorem hrg_all {β : Type} {R : List Int → List Int → Option β} {f : List Int × List Int → β} : ∀ A : KL, (∀ p ∈ A, R p.1 p.2 = some (f p)) → hrgO R A = some (A.map f)
 | [], _ => rfl
 | p :: A, h => by
  rw [hrgO, h p (by simp), hrg_all A fun q hq => h q (by simp [hq])]
  rfl
structure Srt (T m : List FrReport) : Prop where
 lt : ∀ i j (hi : i < m.length) (hj : j < m.length), i < j → rpLt m[i] m[j] = true
 mem : ∀ r ∈ m, ∃ x, firstK T x ∧ r = B T x
 c : ∀ x ∈ T, ∃ r ∈ m, ∃ z, firstK T z ∧ r = B T z ∧ keyR z = keyR x
theorem rpLt_iff' (x y : FrReport) : rpLt x y = true ↔ x.number < y.number ∨ (x.number = y.number ∧ (y.agree < x.agree ∨ (x.agree = y.agree ∧ x.from_ < y.from_))) := by simp [rpLt]
theorem rpLt_as' : LtOk rpLt where
 asym x y h := by
  rw [rpLt_iff'] at h
  cases h2 : rpLt y x with
  | false => rfl
  | true => rw [rpLt_iff'] at h2; omega
 nt x y z h1 h2 := by
  cases h3 : rpLt x z with
  | false => rfl
  | true =>
   have h1 : ¬ rpLt x y = true := by rw [h1]; exact Bool.false_ne_true
   have h2 : ¬ rpLt y z = true := by rw [h2]; exact Bool.false_ne_true
   rw [rpLt_iff'] at h1 h2 h3
   omega
theorem srt_ex (hw : wN t ≤ 32) {i0 : Int} (ht : TOk t i0 T) (hT : T.length ≤ 20000) {A : KL} (hA : AInv A T) (hAl : A.length ≤ T.length) : ∃ m, srtO rpLt (A.map (base (wN t))) = some m ∧ Srt T m ∧ m.length = A.length := by
 obtain ⟨m, hm⟩ : ∃ m, m = (A.map (base (wN t))).mergeSort fun x y => !rpLt y x := ⟨_, rfl⟩
 have hp : m.Perm (A.map (base (wN t))) := by rw [hm]; exact List.mergeSort_perm _ _
 have hs : m.Pairwise fun x y => ¬ rpLt y x = true := by rw [hm]; exact srt_sorted rpLt_as' _
 have hpart : (A.map (base (wN t))).Pairwise fun x y => rpLt x y = true ∨ rpLt y x = true := by
  rw [List.pairwise_map]
  have hnd := hA.nd
  unfold List.Nodup at hnd
  rw [List.pairwise_map] at hnd
  refine List.Pairwise.imp_of_mem (fun {p q} hp hq hne => ?_) hnd
  obtain ⟨x, hx, ex, bx, _⟩ := base_of hw ht hA hp
  obtain ⟨y, hy, ey, by', _⟩ := base_of hw ht hA hq
  rw [bx, by', rpLt_iff', rpLt_iff']
  refine Classical.byContradiction fun hn => ?_
  have hnum : (B T x).number = (B T y).number := by omega
  have hfr : (B T x).from_ = (B T y).from_ := by omega
  have : x = y := ht.u x hx.1 y hy.1 hnum hfr
  exact hne (by rw [← ex, ← ey, this])
 have hpart' : m.Pairwise fun x y => rpLt x y = true ∨ rpLt y x = true := (hp.symm.pairwise_iff (fun {x y} h => h.symm)).1 hpart
 have hstrict : m.Pairwise fun x y => rpLt x y = true := (hs.and hpart').imp fun {x y} h => h.2.resolve_right h.1
 refine ⟨m, ?_, ⟨fun i j hi hj hij => List.pairwise_iff_getElem.1 hstrict i j hi hj hij, fun r hr => ?_, fun x hx => ?_⟩, by rw [hp.length_eq, List.length_map]⟩
 ·unfold srtO
  rw [← hm, if_pos ⟨hstrict, by rw [List.length_map]; omega⟩]
 ·obtain ⟨p, hpA, rfl⟩ := List.mem_map.1 (hp.mem_iff.1 hr)
  obtain ⟨x, hx, _, bx, _⟩ := base_of hw ht hA hpA
  exact ⟨x, hx, bx⟩
 ·obtain ⟨p, hpA, e⟩ := hA.all x hx
  obtain ⟨z, hz, ez, bz, _⟩ := base_of hw ht hA hpA
  exact ⟨_, hp.mem_iff.2 (List.mem_map.2 ⟨p, hpA, rfl⟩), z, hz, bz, ez.trans e⟩
end
end Go.Proofs.Ytjnnkcnnandeeaa.Fm
open Go Go.Proofs.Ytjnnkcnnandeeaa.Sh Go.Proofs
namespace Go.Proofs.Ytjnnkcnnandeeaa.Fm
section
variable {F : Nat}
def gD (l : List FrReport) (i : Nat) : FrReport := l.getD i default
theorem gD_eq {l : List FrReport} {i : Nat} (h : i < l.length) : gD l i = l[i] := by
 unfold gD; rw [List.getD_eq_getElem?_getD, List.getElem?_eq_getElem h]; rfl
theorem gD_set {l : List FrReport} {i j : Nat} (h : j ≠ i) (z : FrReport) : gD (l.set j z) i = gD l i := by
 unfold gD; rw [List.getD_eq_getElem?_getD, List.getD_eq_getElem?_getD, List.getElem?_set_ne h]
theorem ixG {l : List FrReport} {i : Nat} (h : i < l.length) : ixO l (i : Int) = some (gD l i) := by rw [ixO_nat h, gD_eq h]
def mkAt (m : List FrReport) (i : Nat) : FrReport := {gD m i with marked := decide (i + 1 < m.length) && decide ((gD m (i + 1)).number = (gD m i).number)}
def mkL (m : List FrReport) : List FrReport := (List.range m.length).map (mkAt m)
theorem mkL_len (m : List FrReport) : (mkL m).length = m.length := by simp [mkL]
theorem mkL_get {m : List FrReport} {i : Nat} (h : i < m.length) : gD (mkL m) i = mkAt m i := by
 rw [gD_eq (by rw [mkL_len]; exact h)]; simp [mkL]
def mkS (m : List FrReport) (k : Nat) : List FrReport := (mkL m).take k ++ m.drop k
theorem mkS_len {m : List FrReport} {k : Nat} (h : k ≤ m.length) : (mkS m k).length = m.length := by unfold mkS; rw [List.length_append, List.length_take, List.length_drop, mkL_len]; omega
theorem mkS_get {m : List FrReport} {k i : Nat} (hk : k ≤ i) (hi : i < m.length) : gD (mkS m k) i = gD m i := by
 unfold gD mkS
 rw [List.getD_eq_getElem?_getD, List.getD_eq_getElem?_getD, List.getElem?_append_right (by rw [List.length_take, mkL_len]; omega), List.getElem?_drop, List.length_take, mkL_len, show k + (i - min k m.length) = i by omega]
theorem mkS_set {m : List FrReport} {k : Nat} (hk : k < m.length) : (mkS m k).set k (mkAt m k) = mkS m (k + 1) := by
 have hl := mkL_len m
 unfold mkS
 rw [List.set_append_right _ _ (by rw [List.length_take]; omega), List.length_take, show k - min k (mkL m).length = 0 by omega, List.drop_eq_getElem_cons hk, List.set_cons_zero, List.take_succ_eq_append_getElem (by omega), List.append_assoc]
 congr 1
 rw [← gD_eq (l := mkL m) (by omega), mkL_get hk]
 rfl
theorem mark_L {m : List FrReport} (hl : m.length ≤ 100000) {K : List FrReport → Int → Int → Option (List FrReport × Int)} : ∀ n k : Nat, m.length < n + k → k ≤ m.length →
  frame_Merge_L2 F K n (mkS m k) (m.length : Nat) k = K (mkL m) (m.length : Nat) (m.length : Nat) := by
 intro n
 induction n with
 | zero => intro k h1 h2; omega
 | succ n ih =>
  intro k h1 h2
  have hlen := mkS_len h2
  rw [frame_Merge_L2]
  by_cases hk : k < m.length
  ·rw [if_pos (by omega : (k : Int) < (m.length : Int)), W_succ (by omega), ixG (i := k) (by omega), mkS_get (Nat.le_refl _) hk]
   by_cases hk1 : k + 1 < m.length
   ·rw [if_pos (by omega), ixG (i := k + 1) (by omega), mkS_get (by omega) hk1]
    simp only [Option.bind_some]
    unfold setO
    simp only [Option.bind_some]
    have : ({gD m k with marked := decide ((gD m (k + 1)).number = (gD m k).number)} : FrReport) = mkAt m k := by unfold mkAt; rw [decide_eq_true hk1, Bool.true_and]
    rw [this, Int.toNat_natCast, mkS_set hk]
    exact ih (k + 1) (by omega) (by omega)
   ·rw [if_neg (by omega)]
    simp only [Option.bind_some]
    unfold setO
    simp only [Option.bind_some]
    have : ({gD m k with marked := false} : FrReport) = mkAt m k := by unfold mkAt; rw [decide_eq_false hk1, Bool.false_and]
    rw [this, Int.toNat_natCast, mkS_set hk]
    exact ih (k + 1) (by omega) (by omega)
  ·rw [if_neg (by omega)]
   have : k = m.length := by omega
   subst this
   unfold mkS
   rw [List.drop_length, List.append_nil, List.take_of_length_le (by rw [mkL_len]; exact Nat.le_refl _)]
theorem mark_eq {m : List FrReport} (hl : m.length ≤ 100000) (hF : 100000 < F) {K : List FrReport → Int → Int → Option (List FrReport × Int)} : frame_Merge_L2 F K F m (m.length : Nat) 0 = K (mkL m) (m.length : Nat) (m.length : Nat) := by
 have := mark_L (F := F) hl (K := K) F 0 (by omega) (Nat.zero_le _)
 rw [show mkS m 0 = m by unfold mkS; simp, show ((0 : Nat) : Int) = 0 from rfl] at this
 exact this
def fst? (q : List FrReport) (i : Nat) : Bool := decide (i = 0) || !decide ((gD q i).number = (gD q (i - 1)).number)
def cpI (q : List FrReport) (k : Nat) : List FrReport := ((List.range k).filter (fst? q)).map (gD q)
theorem cpI_succ (q : List FrReport) (k : Nat) : cpI q (k + 1) = cpI q k ++ (if fst? q k = true then [gD q k] else []) := by
 unfold cpI
 rw [List.range_succ, List.filter_append, List.map_append]
 congr 1
 by_cases h : fst? q k = true
 ·rw [if_pos h, List.filter_cons_of_pos h]; rfl
 ·rw [if_neg h, List.filter_cons_of_neg h]; rfl
theorem cpI_all {q : List FrReport} : ∀ k, k ≤ q.length → (∀ i, i < k → fst? q i = true) → cpI q k = q.take k
 | 0, _, _ => rfl
 | k + 1, hk, h => by
  rw [cpI_succ, cpI_all k (by omega) (fun i hi => h i (by omega)), if_pos (h k (by omega)), List.take_succ_eq_append_getElem (by omega), gD_eq (by omega)]
theorem cpI_len (q : List FrReport) (k : Nat) : (cpI q k).length ≤ k := by
 unfold cpI
 rw [List.length_map]
 exact Nat.le_trans (List.length_filter_le _ _) (by simp)
theorem eqM (a b : FrReport) : frame_Merge_2 F a b = some (decide (a.number = b.number)) := rfl
def cEnd (t5 : List FrReport) (a3 : Int) : Option (List FrReport × List FrReport) := Option.bind (natO a3 t5.length) fun p5 => if t5.length = p5 then (Option.bind (natO a3 t5.length) fun p6 => some ((t5.take p6), t5)) else (Option.bind (clrPO t5 p5 (FrReport.mk 0 0 0 false ([] : List Int))) fun t7 => Option.bind (natO a3 t7.length) fun p7 => some ((t7.take p7), t7))
theorem cEnd_eq {t5 : List FrReport} {a : Nat} (h : a ≤ t5.length) : ∃ w, cEnd t5 a = some (t5.take a, w) ∧ w.length = t5.length ∧ w.take a = t5.take a := by
 have hn : natO (a : Int) t5.length = some a := by unfold natO; rw [if_pos (by omega), Int.toNat_natCast]
 unfold cEnd
 rw [hn]
 simp only [Option.bind_some]
 by_cases c : t5.length = a
 ·rw [if_pos c]
  exact ⟨t5, rfl, rfl, rfl⟩
 ·rw [if_neg c]
  unfold clrPO
  rw [if_pos h]
  simp only [Option.bind_some]
  have hl : (t5.take a ++ List.replicate (t5.length - a) (FrReport.mk 0 0 0 false [])).length = t5.length := by simp <;> omega
  have ht : (t5.take a ++ List.replicate (t5.length - a) (FrReport.mk 0 0 0 false [])).take a = t5.take a := by
   rw [List.take_append_of_le_length (by rw [List.length_take]; omega), List.take_take, Nat.min_self]
  rw [hl, hn]
  simp only [Option.bind_some]
  exact ⟨_, by rw [ht], hl, ht⟩
theorem comp_L2 {q : List FrReport} {p : Nat} (hq : q.length ≤ 100000) : ∀ (n x : Nat) (t5 : List FrReport), q.length < n + (p + x) → p + x ≤ q.length → 1 ≤ x → t5.length = q.length → (cpI q (p + x)).length ≤ p + x - 1 → t5.take (cpI q (p + x)).length = cpI q (p + x) → (∀ i, p + x - 1 ≤ i → i < q.length → gD t5 i = gD q i) →
  ∃ w, slices_CompactFunc_FrReport_m_frame_Merge_2_L2 F p (fun t5 a3 _ => cEnd t5 a3) n t5 ((cpI q (p + x)).length : Nat) x = some (cpI q q.length, w) ∧ w.length = q.length ∧ w.take (cpI q q.length).length = cpI q q.length := by
 intro n
 induction n with
 | zero => intro x t5 h1 h2; omega
 | succ n ih =>
  intro x t5 h1 h2 hx h3 h4 h5 h6
  rw [slices_CompactFunc_FrReport_m_frame_Merge_2_L2]
  by_cases hk : p + x < q.length
  ·have hd : ∀ j, p + j < q.length → ixO (t5.drop p) (j : Int) = some (gD t5 (p + j)) := fun j hj => by
    rw [ixG (by rw [List.length_drop]; omega)]
    unfold gD
    rw [List.getD_eq_getElem?_getD, List.getD_eq_getElem?_getD, List.getElem?_drop]
   rw [if_pos (by omega), hd x hk, W_id (x := (x : Int) - 1), show (x : Int) - 1 = ((x - 1 : Nat) : Int) by omega, hd (x - 1) (by omega), h6 (p + x) (by omega) hk, h6 (p + (x - 1)) (by omega) (by omega)]
   simp only [Option.bind_some]
   rw [eqM]
   simp only [Option.bind_some]
   have hf : fst? q (p + x) = !decide ((gD q (p + x)).number = (gD q (p + (x - 1))).number) := by
    unfold fst?
    rw [decide_eq_false (by omega), Bool.false_or, show p + x - 1 = p + (x - 1) by omega]
   have hs := cpI_succ q (p + x)
   by_cases c : (gD q (p + x)).number = (gD q (p + (x - 1))).number
   ·rw [decide_eq_true c, if_pos rfl, W_succ (by omega)]
    rw [hf, decide_eq_true c, if_neg (by simp), List.append_nil] at hs
    have := ih (x + 1) t5 (by omega) (by omega) (by omega) h3 (by rw [← Nat.add_assoc, hs]; omega) (by rw [← Nat.add_assoc, hs]; exact h5) (fun i hi hiq => h6 i (by omega) hiq)
    rw [← Nat.add_assoc, hs] at this
    exact this
   ·rw [decide_eq_false c, if_neg (by simp), ixG (l := t5) (i := (cpI q (p + x)).length) (by omega)]
    simp only [Option.bind_some]
    unfold setO
    simp only [Option.bind_some]
    rw [hf, decide_eq_false c, if_pos (by simp)] at hs
    rw [Int.toNat_natCast, W_succ (by omega), W_succ (by omega)]
    have hsl : (cpI q (p + x + 1)).length = (cpI q (p + x)).length + 1 := by rw [hs]; simp
    have := ih (x + 1) (t5.set (cpI q (p + x)).length (gD q (p + x))) (by omega) (by omega) (by omega) (by simpa using h3) (by rw [← Nat.add_assoc, hsl]; omega) (by
     rw [← Nat.add_assoc, hsl, hs, List.take_succ_eq_append_getElem (by rw [List.length_set]; omega), List.getElem_set_self, List.take_set_of_le (Nat.le_refl _), h5]) (fun i hi hiq => by
     rw [gD_set (by omega)]; exact h6 i (by omega) hiq)
    rw [← Nat.add_assoc, hsl] at this
    exact this
  ·rw [if_neg (by omega)]
   have e : p + x = q.length := by omega
   rw [e] at h4 h5 ⊢
   obtain ⟨w, k1, k2, k3⟩ := cEnd_eq (t5 := t5) (a := (cpI q q.length).length) (by omega)
   rw [h5] at k1 k3
   exact ⟨w, k1, by omega, k3⟩
theorem comp_L3 {q : List FrReport} (hq : q.length ≤ 100000) (hF : 100000 < F) : ∀ (n a : Nat), q.length < n + a → a ≤ q.length → 1 ≤ a → (∀ i, i < a → fst? q i = true) →
  ∃ r w, slices_CompactFunc_FrReport_m_frame_Merge_2_L3 F q (fun _ => some (q, q)) n a = some (r, w) ∧ r = cpI q q.length ∧ w.length = q.length ∧ w.take r.length = r := by
 intro n
 induction n with
 | zero => intro a h1 h2; omega
 | succ n ih =>
  intro a h1 h2 ha h3
  rw [slices_CompactFunc_FrReport_m_frame_Merge_2_L3]
  by_cases hk : a < q.length
  ·rw [if_pos (by omega : (a : Int) < (q.length : Int)), ixG hk, W_id (x := (a : Int) - 1), show (a : Int) - 1 = ((a - 1 : Nat) : Int) by omega, ixG (by omega)]
   simp only [Option.bind_some]
   rw [eqM]
   simp only [Option.bind_some]
   have hf : fst? q a = !decide ((gD q a).number = (gD q (a - 1)).number) := by
    unfold fst?
    rw [decide_eq_false (by omega), Bool.false_or]
   by_cases c : (gD q a).number = (gD q (a - 1)).number
   ·rw [decide_eq_true c, if_pos rfl]
    have hn : natO (a : Int) q.length = some a := by unfold natO; rw [if_pos (by omega), Int.toNat_natCast]
    rw [hn]
    simp only [Option.bind_some]
    rw [if_neg (by omega)]
    have e1 : cpI q a = q.take a := cpI_all a h2 h3
    have e2 : cpI q (a + 1) = q.take a := by rw [cpI_succ, hf, decide_eq_true c, if_neg (by simp), List.append_nil, e1]
    have e3 : (cpI q (a + 1)).length = a := by rw [e2, List.length_take]; omega
    obtain ⟨w, k1, k2, k3⟩ := comp_L2 (F := F) (p := a) hq F 1 q (by omega) (by omega) (Nat.le_refl _) rfl (by rw [e3]; omega) (by rw [e3, e2]) (fun i _ _ => rfl)
    rw [e3] at k1
    exact ⟨_, w, k1, rfl, k2, k3⟩
   ·rw [decide_eq_false c, if_neg (by simp), W_succ (by omega)]
    refine ih (a + 1) (by omega) (by omega) (by omega) fun i hi => ?_
    by_cases e : i = a
    ·subst e; rw [hf, decide_eq_false c]; rfl
    ·exact h3 i (by omega)
  ·rw [if_neg (by omega)]
   have e : a = q.length := by omega
   subst e
   exact ⟨q, q, rfl, by rw [cpI_all q.length (Nat.le_refl _) h3, List.take_length], rfl, List.take_length⟩
theorem comp_eq {q : List FrReport} (hq : q.length ≤ 100000) (hF : 100000 < F) : ∃ w, slices_CompactFunc_FrReport_m_frame_Merge_2 F q = some (cpI q q.length, w) ∧ w.length = q.length ∧ w.take (cpI q q.length).length = cpI q q.length := by
 unfold slices_CompactFunc_FrReport_m_frame_Merge_2
 by_cases c : (q.length : Int) < 2
 ·rw [if_pos c]
  have e : cpI q q.length = q := by
   rw [cpI_all q.length (Nat.le_refl _) fun i hi => ?_, List.take_length]
   have : i = 0 := by omega
   subst this; rfl
  rw [e]
  exact ⟨q, rfl, rfl, List.take_length⟩
 ·rw [if_neg c]
  obtain ⟨r, w, k1, rfl, k2, k3⟩ := comp_L3 (F := F) hq hF F 1 (by omega) (by omega) (Nat.le_refl _) (fun i hi => by have : i = 0 := by omega
                                                                                                                     subst this; rfl)
  exact ⟨w, k1, k2, k3⟩
end
end Go.Proofs.Ytjnnkcnnandeeaa.Fm
open Go Go.Proofs.Ytjnnkcnnandeeaa.Sh Go.Proofs
namespace Go.Proofs.Ytjnnkcnnandeeaa.Fm
section
variable {F : Nat} {t : FrFormat} {T : List FrReport}
theorem mk_num {m : List FrReport} {i : Nat} : (mkAt m i).number = (gD m i).number := rfl
theorem srt_le {m : List FrReport} (h : Srt T m) {i j : Nat} (hij : i ≤ j) (hj : j < m.length) : (gD m i).number ≤ (gD m j).number := by
 by_cases e : i = j
 ·subst e; exact Int.le_refl _
 ·have := h.lt i j (by omega) hj (by omega)
  rw [rpLt_iff'] at this
  rw [gD_eq (by omega), gD_eq hj]
  omega
theorem fst_iff {m : List FrReport} {i : Nat} (hi : i < m.length) : fst? (mkL m) i = true ↔ i = 0 ∨ (gD m i).number ≠ (gD m (i - 1)).number := by
 unfold fst?
 rw [mkL_get hi, mkL_get (by omega), mk_num, mk_num]
 simp
theorem out_mem {m : List FrReport} {r : FrReport} (h : r ∈ cpI (mkL m) m.length) : ∃ i, i < m.length ∧ (i = 0 ∨ (gD m i).number ≠ (gD m (i - 1)).number) ∧ r = mkAt m i := by
 unfold cpI at h
 obtain ⟨i, hi, rfl⟩ := List.mem_map.1 h
 rw [List.mem_filter, List.mem_range] at hi
 exact ⟨i, hi.1, (fst_iff hi.1).1 hi.2, mkL_get hi.1⟩
theorem first_le {m : List FrReport} (h : Srt T m) {i j : Nat} (hi : i < m.length) (hj : j < m.length) (hf : i = 0 ∨ (gD m i).number ≠ (gD m (i - 1)).number) (e : (gD m j).number = (gD m i).number) : i ≤ j := by
 refine Classical.byContradiction fun hn => ?_
 have h1 := srt_le h (i := j) (j := i - 1) (by omega) (by omega)
 have h2 := srt_le h (i := i - 1) (j := i) (by omega) hi
 rcases hf with hf | hf
 ·omega
 ·exact hf (by omega)
theorem first_ex {m : List FrReport} : ∀ j, j < m.length → ∃ i, i ≤ j ∧ (gD m i).number = (gD m j).number ∧ (i = 0 ∨ (gD m i).number ≠ (gD m (i - 1)).number)
 | 0, _ => ⟨0, Nat.le_refl _, rfl, .inl rfl⟩
 | j + 1, hj => by
  by_cases c : (gD m (j + 1)).number = (gD m j).number
  ·obtain ⟨i, h1, h2, h3⟩ := first_ex (m := m) j (by omega)
   exact ⟨i, by omega, h2.trans c.symm, h3⟩
  ·exact ⟨j + 1, Nat.le_refl _, rfl, .inr c⟩
theorem cnt_key {x y : FrReport} (h1 : x.number = y.number) (h2 : x.words = y.words) : cnt T x = cnt T y := by unfold cnt sameK; rw [h1, h2]
theorem out_ok (hw : wN t ≤ 32) {i0 : Int} (ht : TOk t i0 T) {m : List FrReport} (h : Srt T m) : OutP T T (cpI (mkL m) m.length) := by
 have hin : ∀ y ∈ T, ∃ j, j < m.length ∧ ∃ z, firstK T z ∧ gD m j = B T z ∧ z.number = y.number ∧ z.words = y.words := fun y hy => by
  obtain ⟨r, hr, z, hz, e1, e2⟩ := h.c y hy
  obtain ⟨j, hj, e⟩ := List.getElem_of_mem hr
  have := (key_inj (ht.a z hz.1).2.2.2.1 (ht.a y hy).2.2.2.1 hw).1 e2
  exact ⟨j, hj, z, hz, by rw [gD_eq hj, e, e1], this.1, this.2⟩
 have hB : ∀ i, i < m.length → ∃ x, firstK T x ∧ gD m i = B T x := fun i hi => by
  obtain ⟨x, hx, e⟩ := h.mem _ (List.getElem_mem hi)
  exact ⟨x, hx, by rw [gD_eq hi]; exact e⟩
 have hsame : ∀ x z, firstK T x → firstK T z → x.number = z.number → x.words = z.words → x = z := fun x z hx hz e1 e2 => by
  have k := (key_inj (ht.a x hx.1).2.2.2.1 (ht.a z hz.1).2.2.2.1 hw).2 ⟨e1, e2⟩
  have h1 := hx.2 z hz.1 k.symm
  have h2 := hz.2 x hx.1 k
  exact ht.u x hx.1 z hz.1 e1 (by omega)
 refine ⟨?_, fun r hr => ?_, fun x hx => ?_⟩
 ·unfold cpI
  rw [List.pairwise_map]
  refine List.Pairwise.imp_of_mem (fun {i j} hi hj hij => ?_) (List.pairwise_lt_range.sublist List.filter_sublist)
  rw [List.mem_filter, List.mem_range] at hi hj
  rw [mkL_get hi.1, mkL_get hj.1, mk_num, mk_num]
  have h1 := srt_le h (i := i) (j := j - 1) (by omega) (by omega)
  have h2 := srt_le h (i := j - 1) (j := j) (by omega) hj.1
  rcases (fst_iff hj.1).1 hj.2 with h3 | h3
  ·omega
  ·omega
 ·obtain ⟨i, hi, hf, rfl⟩ := out_mem hr
  obtain ⟨x, hx, e⟩ := hB i hi
  have hnum : (gD m i).number = x.number := by rw [e]; rfl
  refine ⟨x, hx.1, ?_, fun y hy hyx => ?_⟩
  ·unfold mkAt full
   rw [e]
   have hmk : (decide (i + 1 < m.length) && decide ((gD m (i + 1)).number = (B T x).number)) = oth T x := by
    rw [Bool.eq_iff_iff, Bool.and_eq_true, decide_eq_true_iff, decide_eq_true_iff]
    unfold oth othK
    rw [List.any_eq_true]
    constructor
    ·rintro ⟨h1, h2⟩
     obtain ⟨z, hz, ez⟩ := hB (i + 1) h1
     rw [ez] at h2
     have h2 : z.number = x.number := h2
     refine ⟨z, hz.1, ?_⟩
     rw [Bool.and_eq_true, decide_eq_true_iff]
     refine ⟨h2, ?_⟩
     rw [Bool.not_eq_true', decide_eq_false_iff_not]
     intro hww
     have := hsame z x hz hx h2 hww
     have hl := h.lt i (i + 1) hi h1 (by omega)
     rw [← gD_eq hi, ← gD_eq h1, e, ez, this, rpLt_iff'] at hl
     omega
    ·rintro ⟨z, hz, h2⟩
     rw [Bool.and_eq_true, decide_eq_true_iff, Bool.not_eq_true', decide_eq_false_iff_not] at h2
     obtain ⟨j, hj, z0, hz0, ez, n1, n2⟩ := hin z hz
     have hjn : (gD m j).number = (gD m i).number := by rw [ez, hnum]; exact n1.trans h2.1
     have hij := first_le h hi hj hf hjn
     have hne : i ≠ j := fun e2 => by
      subst e2
      rw [e] at ez
      have : x.words = z0.words := by have := congrArg FrReport.words ez; exact this
      exact h2.2 (n2.symm.trans this.symm)
     have h3 : i + 1 < m.length := by omega
     refine ⟨h3, ?_⟩
     have h4 := srt_le h (i := i) (j := i + 1) (by omega) h3
     have h5 := srt_le h (i := i + 1) (j := j) (by omega) hj
     rw [e] at hjn h4
     show (gD m (i + 1)).number = (B T x).number
     omega
   rw [hmk]
   rfl
  ·obtain ⟨j, hj, y0, hy0, ey, n1, n2⟩ := hin y hy
   have hjn : (gD m j).number = (gD m i).number := by rw [ey, hnum]; exact n1.trans hyx
   have hij := first_le h hi hj hf hjn
   have hc := cnt_key (T := T) n1 n2
   have hyf := hy0.2 y hy ((key_inj (ht.a y hy).2.2.2.1 (ht.a y0 hy0.1).2.2.2.1 hw).2 ⟨n1.symm, n2.symm⟩)
   by_cases e2 : i = j
   ·subst e2
    rw [e] at ey
    have hwd : x.words = y0.words := by have := congrArg FrReport.words ey; exact this
    have := hsame x y0 hx hy0 (by omega) hwd
    subst this
    exact .inr ⟨hc.symm, hyf⟩
   ·have hl := h.lt i j hi hj (by omega)
    rw [← gD_eq hi, ← gD_eq hj, e, ey, rpLt_iff'] at hl
    rw [e, ey] at hjn
    have a1 : (B T x).agree = (cnt T x : Int) := rfl
    have a2 : (B T y0).agree = (cnt T y0 : Int) := rfl
    have a3 : (B T x).from_ = x.from_ := rfl
    have a4 : (B T y0).from_ = y0.from_ := rfl
    rw [a1, a2, a3, a4] at hl
    rw [← hc]
    omega
 ·obtain ⟨j, hj, z, hz, ez, n1, n2⟩ := hin x hx
  obtain ⟨i, h1, h2, h3⟩ := first_ex (m := m) j hj
  have hi : i < m.length := by omega
  refine ⟨mkAt m i, ?_, ?_⟩
  ·unfold cpI
   exact List.mem_map.2 ⟨i, List.mem_filter.2 ⟨List.mem_range.2 hi, (fst_iff hi).2 h3⟩, mkL_get hi⟩
  ·rw [mk_num, h2, ez]; exact n1
def progEnd (F : Nat) (t : FrFormat) (A : KL) : Option (List FrReport × Int) := if A.length ≤ 1000000000 then (Option.bind (Option.bind (hrgO (frame_Merge_R F t) A) (srtO rpLt)) fun q3 => frame_Merge_L2 F (fun (rv5 : (List FrReport)) (x3 : Int) (x4 : Int) => Option.bind (slices_CompactFunc_FrReport_m_frame_Merge_2 F rv5) fun rv8 => Option.bind (lnO rv8.2.length rv5.length) fun u => Option.bind (preO rv8.1 rv8.2) fun q6 => some (q6, 0)) F q3 (q3.length : Int) 0) else none
theorem prog_un {a b : Int} (h1 : frame_Check F t = some (a, b, 0)) {o : List FrTape} (ho : o.length ≤ 4) : frame_Merge F t o = frame_Merge_L3 F t o (fun _ _ A => progEnd F t A) F 0 0 [] := by
 unfold frame_Merge
 rw [h1]
 simp only [Option.bind_some, if_true]
 rw [if_neg (by omega : ¬ 4 < (o.length : Int))]
 rfl
theorem merge_spec (hv : FmV t) {a b : Int} (h1 : frame_Check F t = some (a, b, 0)) (hF : 100000 < F) (o : List FrTape) (ho : o.length ≤ 4) (hb : ∀ x ∈ o, ∀ c ∈ x.bytes, isByte c) : ((allT t F 0 o).1 = 0 → ∃ out, frame_Merge F t o = some (out, 0) ∧ OutP (allT t F 0 o).2 (allT t F 0 o).2 out) ∧ ((allT t F 0 o).1 ≠ 0 → frame_Merge F t o = some ([], (allT t F 0 o).1)) := by
 have hw : wN t ≤ 32 := by have := hv.w; unfold wN; omega
 obtain ⟨ht, hlen⟩ := all_ok (F := F) hv o 0 hb
 have hT : (allT t F 0 o).2.length ≤ 20000 := by omega
 have hA : AInv (foldA [] (allT t F 0 o).2) (allT t F 0 o).2 := by have := AInv.nil.fold (T := (allT t F 0 o).2); rwa [List.nil_append] at this
 have hAl := foldA_len (allT t F 0 o).2 []
 have hp := pm_L3 hv h1 hF (by omega) hb (K := progEnd F t) F 0 0 [] [] (by omega) (Nat.zero_le _) AInv.nil (Nat.zero_le _)
 rw [show ((0 : Nat) : Int) = 0 from rfl, List.drop_zero, ← prog_un h1 ho] at hp
 rw [hp]
 refine ⟨fun hz => ?_, fun hz => if_neg hz⟩
 rw [if_pos hz]
 clear hp
 generalize (allT t F 0 o).2 = T at *
 have hAl' : (foldA [] T).length ≤ T.length := by simpa using hAl
 obtain ⟨m, s1, s2, s3⟩ := srt_ex hw ht hT hA hAl'
 have hR := hrg_all (R := frame_Merge_R F t) (f := base (wN t)) (foldA [] T) fun p hp => R_eq (F := F) hv ht hT hA hp
 have hm : m.length ≤ 100000 := by omega
 obtain ⟨w, c1, c2, c3⟩ := comp_eq (F := F) (q := mkL m) (by rw [mkL_len]; exact hm) hF
 rw [mkL_len] at c1 c2 c3
 refine ⟨_, ?_, out_ok hw ht s2⟩
 unfold progEnd
 rw [if_pos (by omega), hR]
 simp only [Option.bind_some]
 rw [s1]
 simp only [Option.bind_some]
 rw [mark_eq hm hF, c1]
 simp only [Option.bind_some]
 rw [show lnO w.length (mkL m).length = some () from if_pos (by rw [c2, mkL_len])]
 simp only [Option.bind_some]
 have hcl := cpI_len (mkL m) m.length
 rw [show preO (cpI (mkL m) m.length) w = some (cpI (mkL m) m.length) by unfold preO; rw [if_pos (by omega), c3]]
 rfl
end
end Go.Proofs.Ytjnnkcnnandeeaa.Fm
open Go Go.Proofs.Ytjnnkcnnandeeaa.Sh Go.Proofs
namespace Go.Proofs.Ytjnnkcnnandeeaa.Fm
section
variable {F : Nat} {t : FrFormat}
def encB (t : FrFormat) (n : Int) (ws : List Int) : List Int := (bytesL t.sync ++ [n % 256] ++ encW ws) ++ pr (sumN (bytesL t.sync ++ [n % 256] ++ encW ws))
structure WsOk (t : FrFormat) (ws : List Int) : Prop where
 l : ws.length = wN t
 r : ∀ w ∈ ws, 0 ≤ w ∧ w ≤ 65535
theorem body_byte {n : Int} {ws : List Int} (h : WsOk t ws) : ∀ c ∈ bytesL t.sync ++ [n % 256] ++ encW ws, isByte c := fun x hx => by
 rcases List.mem_append.1 hx with hx | hx
 ·rcases List.mem_append.1 hx with hx | hx
  ·exact bytesL_byte _ x hx
  ·rw [List.mem_singleton.1 hx]; unfold isByte; omega
 ·exact encW_byte h.r x hx
theorem enc_byte {n : Int} {ws : List Int} (h : WsOk t ws) : ∀ c ∈ encB t n ws, isByte c := fun x hx => by
 have hs := sumN_lt (body_byte (t := t) (n := n) h)
 unfold encB at hx
 rcases List.mem_append.1 hx with hx | hx
 ·exact body_byte h x hx
 ·unfold pr at hx
  unfold isByte
  rcases List.mem_cons.1 hx with rfl | hx
  ·omega
  ·rw [List.mem_singleton.1 hx]; omega
theorem body_len {n : Int} {ws : List Int} (h : WsOk t ws) : (bytesL t.sync ++ [n % 256] ++ encW ws).length = szN t - 2 := by
 have := bytesL_len t.sync
 have := h.l
 simp only [List.length_append, encW_len, List.length_singleton]
 unfold szN
 omega
theorem enc_len {n : Int} {ws : List Int} (h : WsOk t ws) : (encB t n ws).length = szN t := by
 unfold encB
 rw [List.length_append, body_len h]
 unfold pr szN
 simp
theorem fb_L {ws : List Int} (hw : ∀ w ∈ ws, 0 ≤ w ∧ w ≤ 65535) (hl : ws.length ≤ 100) {K : List Int → Int → Option (List Int)} : ∀ (n j : Nat) (out : List Int), ws.length < n + j → j ≤ ws.length → out.length ≤ 10 + 2 * j →
  frame_bytes_L1 F ws K n out j = K (out ++ encW (ws.drop j)) (ws.length : Nat) := by
 intro n
 induction n with
 | zero => intro j out h1 h2; omega
 | succ n ih =>
  intro j out h1 h2 h3
  rw [frame_bytes_L1]
  by_cases hj : j < ws.length
  ·rw [if_pos (by omega : (j : Int) < (ws.length : Int)), ixO_nat hj, W_succ (by omega), List.drop_eq_getElem_cons hj]
   simp only [Option.bind_some]
   have hx := hw _ (List.getElem_mem hj)
   generalize ws[j] = w at *
   obtain ⟨q, rfl⟩ := Int.eq_ofNat_of_zero_le hx.1
   have hx2 := hx.2
   rw [pair_eq (by omega)]
   simp only [Option.bind_some]
   have h4 : appO out (pr q) = some (out ++ pr q) := by unfold appO pr; rw [if_pos (by simp <;> omega)]
   rw [h4]
   simp only [Option.bind_some]
   rw [ih (j + 1) _ (by omega) (by omega) (by unfold pr; simp <;> omega)]
   unfold pr
   simp [encW]
  ·rw [if_neg (by omega), List.drop_of_length_le (by omega)]
   have : j = ws.length := by omega
   subst this; simp [encW]
theorem fbytes_eq (hv : FmV t) (hF : 100000 < F) {c : Int} (hc : 0 ≤ c ∧ c ≤ 1000000) {ws : List Int} (hw : WsOk t ws) : frame_bytes F t c ws = some (encB t c ws) := by
 have hs := hv.s
 have hsl := bytesL_len t.sync
 have hwn : wN t ≤ 32 := by have := hv.w; unfold wN; omega
 have hwl := hw.l
 obtain ⟨q, rfl⟩ := Int.eq_ofNat_of_zero_le hc.1
 unfold frame_bytes
 rw [W8_mod, app_one (by omega)]
 simp only [Option.bind_some]
 have h1 := fb_L (F := F) hw.r (by omega) (K := fun (b : (List Int)) (x : Int) => Option.bind (frame_Sum F b) fun rv2 => Option.bind (frame_pair F rv2) fun rv3 => Option.bind (appO b rv3) fun q3 => some q3) F 0 (bytesL t.sync ++ [((q % 256 : Nat) : Int)]) (by omega) (Nat.zero_le _) (by simp <;> omega)
 rw [show ((0 : Nat) : Int) = 0 from rfl, List.drop_zero] at h1
 rw [h1, show ((q % 256 : Nat) : Int) = (q : Int) % 256 by omega]
 have hib := body_byte (t := t) (n := (q : Int)) hw
 have hlen := body_len (t := t) (n := (q : Int)) hw
 have hz := sz_le hv
 rw [fsum_eq hib (by omega) (by omega) (by omega)]
 simp only [Option.bind_some]
 rw [pair_eq (sumN_lt hib)]
 simp only [Option.bind_some]
 rw [app_any (by unfold pr; simp only [List.length_cons, List.length_nil]; omega)]
 rfl
theorem fenc_eq (hv : FmV t) (hF : 100000 < F) {a b : Int} (hck : frame_Check F t = some (a, b, 0)) {c : Int} (hc : 0 ≤ c ∧ c ≤ 1000000) {ws : List Int} (hw : WsOk t ws) : frame_Encode F t c ws = some (encB t c ws, 0) := by
 have hwn : wN t ≤ 32 := by have := hv.w; unfold wN; omega
 have hwi : ((wN t : Nat) : Int) = t.words := by have := hv.w; unfold wN; omega
 have hwl := hw.l
 unfold frame_Encode frame_asked
 rw [hck]
 simp only [Option.bind_some, if_true]
 rw [out_eq]
 simp only [Option.bind_some]
 rw [if_neg (by rw [outP_f.2 ⟨hc.1, hc.2⟩]; exact Bool.false_ne_true)]
 simp only [Option.bind_some, if_true]
 rw [if_pos (by omega)]
 have hbad : frame_bad F ws = some false := by
  unfold frame_bad
  rw [hasI (p := fun w => outP w 0 65535) (fun x _ => by unfold frame_bad_1; rw [out_eq]; rfl) (by omega) (by omega)]
  simp only [Option.bind_some]
  congr 1
  rw [List.any_eq_false]
  intro w hwm
  rw [outP_f.2 (hw.r w hwm)]
  exact Bool.false_ne_true
 rw [hbad]
 simp only [Option.bind_some]
 rw [if_neg Bool.false_ne_true, fbytes_eq hv hF hc hw]
 rfl
abbrev Fs := List (Int × List Int)
def flatB (t : FrFormat) (fs : Fs) : List Int := fs.flatMap fun f => encB t f.1 f.2
def FsOk (t : FrFormat) (fs : Fs) : Prop := ∀ f ∈ fs, WsOk t f.2
theorem flat_byte {fs : Fs} (h : FsOk t fs) : ∀ c ∈ flatB t fs, isByte c := fun c hc => by
 obtain ⟨f, hf, hc⟩ := List.mem_flatMap.1 hc
 exact enc_byte (h f hf) c hc
theorem encW_even {ws : List Int} : ∀ j, j < ws.length → (encW ws).getD (2 * j) 0 = ws.getD j 0 / 256 ∧ (encW ws).getD (2 * j + 1) 0 = ws.getD j 0 % 256 := by
 induction ws with
 | nil => intro j h; cases h
 | cons w ws ih =>
  intro j h
  cases j with
  | zero => simp [encW]
  | succ j =>
   have := ih j (by simpa using h)
   have e : encW (w :: ws) = w / 256 :: w % 256 :: encW ws := by simp [encW]
   rw [e, show 2 * (j + 1) = 2 * j + 1 + 1 by omega]
   simpa using this
theorem enc_own {n : Int} {ws : List Int} (hv : FmV t) (h : WsOk t ws) : okO t (encB t n ws) ∧ (encB t n ws).getD t.sync.size 0 = n % 256 ∧ wordsOf (encB t n ws) t.sync.size (wN t) = ws := by
 have hsl := bytesL_len t.sync
 have hbl := body_len (t := t) (n := n) h
 have hsz : szN t = t.sync.size + 1 + 2 * wN t + 2 := rfl
 have hwl := h.l
 refine ⟨⟨?_, ?_⟩, ?_, ?_⟩
 ·unfold encB
  rw [List.append_assoc, List.append_assoc, ← hsl, List.take_left']
  rfl
 ·unfold encB
  rw [← hbl, List.drop_left', List.take_left'] <;> rfl
 ·unfold encB
  rw [List.getD_eq_getElem?_getD, List.append_assoc, List.append_assoc, List.getElem?_append_right (by omega), hsl, Nat.sub_self]
  rfl
 ·have hg : ∀ j, j < 2 * wN t → (encB t n ws).getD (t.sync.size + 1 + j) 0 = (encW ws).getD j 0 := fun j hj => by
   unfold encB
   rw [List.getD_eq_getElem?_getD, List.getD_eq_getElem?_getD, List.getElem?_append_left (by rw [hbl]; omega), List.getElem?_append_right (by simp <;> omega)]
   congr 2
   simp <;> omega
  unfold wordsOf
  apply List.ext_getElem?
  intro i
  by_cases hi : i < wN t
  ·rw [List.getElem?_map, List.getElem?_range hi]
   obtain ⟨k1, k2⟩ := encW_even (ws := ws) i (by omega)
   simp only [Option.map_some]
   unfold wordAt
   rw [hg (2 * i) (by omega), show t.sync.size + 1 + 2 * i + 1 = t.sync.size + 1 + (2 * i + 1) by omega, hg (2 * i + 1) (by omega), k1, k2, List.getD_eq_getElem?_getD, List.getElem?_eq_getElem (by omega)]
   simp only [Option.getD_some]
   congr 1
   omega
  ·rw [List.getElem?_eq_none (by simp <;> omega), List.getElem?_eq_none (by omega)]
def frO (t : FrFormat) : Nat → Fs → List FrFrame
 | _, [] => []
 | p, f :: fs => ⟨p, f.1 % 256, f.2⟩ :: frO t (p + szN t) fs
theorem scan_flat (hv : FmV t) {b : List Int} : ∀ (fs : Fs) (pre : List Int) (n : Nat), FsOk t fs → b = pre ++ flatB t fs → b.length < n + pre.length → scan t b n pre.length = frO t pre.length fs := by
 have hz := sz_le hv
 intro fs
 induction fs with
 | nil =>
  intro pre n _ hb hn
  have : b.length = pre.length := by rw [hb]; simp [flatB]
  exact scan_nil (by omega) n
 | cons f fs ih =>
  intro pre n hok hb hn
  have hw := hok f (by simp)
  have hlen := enc_len (n := f.1) hw
  have hfl : flatB t (f :: fs) = encB t f.1 f.2 ++ flatB t fs := rfl
  have hbl : b.length = pre.length + szN t + (flatB t fs).length := by rw [hb, hfl]; simp <;> omega
  cases n with
  | zero => omega
  | succ n =>
   have hown : own t b pre.length = encB t f.1 f.2 := by
    unfold own
    rw [hb, List.drop_left', hfl, ← hlen, List.take_left'] <;> rfl
   obtain ⟨k1, k2, k3⟩ := enc_own (n := f.1) hv hw
   rw [scan, if_pos (by omega), hown, if_pos k1, frO]
   congr 1
   ·unfold frameAt
    rw [hown, k2, k3]
   ·have := ih (pre ++ encB t f.1 f.2) n (fun g hg => hok g (by simp [hg])) (by rw [hb, hfl, List.append_assoc]) (by rw [List.length_append, hlen]; omega)
    rw [List.length_append, hlen] at this
    exact this
def gapOk : Int → Fs → Prop
 | _, [] => True
 | x, f :: fs => (x ≤ f.1 ∧ f.1 ≤ x + 255 ∧ f.1 ≤ 1000000) ∧ gapOk (f.1 + 1) fs
theorem nums_fr : ∀ (fs : Fs) (x : Int) (p : Nat), gapOk x fs → nums x (frO t p fs) = some (fs.map (·.1))
 | [], x, p, _ => rfl
 | f :: fs, x, p, h => by
  obtain ⟨⟨h1, h2, h3⟩, h4⟩ := h
  have hn : nextN x (f.1 % 256) = f.1 := by unfold nextN; omega
  rw [frO, nums]
  simp only
  rw [hn, if_neg (by omega), nums_fr fs _ _ h4]
  rfl
theorem flat_len {fs : Fs} (h : FsOk t fs) : (flatB t fs).length = szN t * fs.length := by
 induction fs with
 | nil => rfl
 | cons f fs ih =>
  show (encB t f.1 f.2 ++ flatB t fs).length = _
  rw [List.length_append, enc_len (h f (by simp)), ih fun g hg => h g (by simp [hg]), List.length_cons, Nat.mul_succ]
  omega
theorem res_flat (hv : FmV t) (hF : 100000 < F) {fs : Fs} (hok : FsOk t fs) {x : Int} (hx : 0 ≤ x ∧ x ≤ 1000000) (hl : (flatB t fs).length ≤ 4000) (hg : gapOk x fs) : resT t F ⟨flatB t fs, x⟩ = (frO t 0 fs, fs.map (·.1), 0) := by
 unfold resT
 dsimp only
 rw [if_neg (by omega), if_neg (by rw [outP_f.2 hx]; exact Bool.false_ne_true)]
 have := scan_flat hv fs [] F hok rfl (by simp <;> omega)
 rw [List.length_nil, List.nil_append] at this
 rw [this, nums_fr fs x 0 hg]
theorem tell_fr {i : Int} : ∀ (fs : Fs) (p : Nat), tell i (frO t p fs) (fs.map (·.1)) = fs.map fun f => ⟨f.1, i, 0, false, f.2⟩
 | [], _ => rfl
 | f :: fs, p => by
  have := tell_fr (i := i) fs (p + szN t)
  unfold tell at this ⊢
  rw [frO, List.map_cons, List.zipWith_cons_cons, this]
  rfl
def tellS : Int → List Fs → List FrReport
 | _, [] => []
 | i, fs :: r => (fs.map fun f => (⟨f.1, i, 0, false, f.2⟩ : FrReport)) ++ tellS (i + 1) r
theorem all_flat (hv : FmV t) (hF : 100000 < F) {x : Int} (hx : 0 ≤ x ∧ x ≤ 1000000) : ∀ (r : List Fs) (i : Int), (∀ fs ∈ r, FsOk t fs ∧ (flatB t fs).length ≤ 4000 ∧ gapOk x fs) → allT t F i (r.map fun fs => ⟨flatB t fs, x⟩) = (0, tellS i r)
 | [], i, _ => rfl
 | fs :: r, i, h => by
  obtain ⟨h1, h2, h3⟩ := h fs (by simp)
  rw [List.map_cons, allT, res_flat hv hF h1 hx h2 h3, all_flat hv hF hx r (i + 1) fun g hg => h g (by simp [hg])]
  simp only [if_true]
  rw [tell_fr]
  rfl
end
end Go.Proofs.Ytjnnkcnnandeeaa.Fm
open Go Go.Proofs.Ytjnnkcnnandeeaa.Sh Go.Proofs
namespace Go.Proofs.Ytjnnkcnnandeeaa.Fm
section
variable {F : Nat} {t : FrFormat} {x : Sent}
structure SentOk (x : Sent) : Prop where
 s : ∀ e ∈ x.steps, 0 ≤ e ∧ e ≤ 255
 w : ∀ e ∈ x.words, 0 ≤ e ∧ e ≤ 65535
 ls : x.steps.length ≤ 1048576
 lw : x.words.length ≤ 1048576
def wl (x : Sent) (i many : Nat) : List Int := (List.range many).map fun k => if 0 < x.words.length then x.words.getD ((i * many + k) % x.words.length) 0 else 0
theorem wl_succ (x : Sent) (i many k : Nat) : ((List.range (k + 1)).map fun k => if 0 < x.words.length then x.words.getD ((i * many + k) % x.words.length) 0 else 0) = ((List.range k).map fun k => if 0 < x.words.length then x.words.getD ((i * many + k) % x.words.length) 0 else 0) ++ [if 0 < x.words.length then x.words.getD ((i * many + k) % x.words.length) 0 else 0] := by rw [List.range_succ, List.map_append]; rfl
theorem wl_ok (hx : SentOk x) (i : Nat) : WsOk t (wl x i (wN t)) := by
 refine ⟨by simp [wl], fun w hw => ?_⟩
 unfold wl at hw
 obtain ⟨k, _, rfl⟩ := List.mem_map.1 hw
 by_cases h : 0 < x.words.length
 ·rw [if_pos h]
  have hm : (i * wN t + k) % x.words.length < x.words.length := Nat.mod_lt _ h
  rw [List.getD_eq_getElem?_getD, List.getElem?_eq_getElem hm]
  exact hx.w _ (List.getElem_mem hm)
 ·rw [if_neg h]; omega
theorem list_L (hx : SentOk x) {i many : Nat} (hi : i ≤ 2000000) (hm : many ≤ 32) {K : List Int → Int → Option (List Int)} : ∀ n k : Nat, many < n + k → k ≤ many →
  hangfirelaw09_Sent_list_L1 F x i many K n ((List.range k).map fun k => if 0 < x.words.length then x.words.getD ((i * many + k) % x.words.length) 0 else 0) k = K (wl x i many) (many : Nat) := by
 intro n
 induction n with
 | zero => intro k h1 h2; omega
 | succ n ih =>
  intro k h1 h2
  rw [hangfirelaw09_Sent_list_L1]
  by_cases hk : k < many
  ·have := ih (k + 1) (by omega) (by omega)
   rw [wl_succ] at this
   rw [if_pos (by omega : (k : Int) < (many : Int)), W_succ (by omega)]
   by_cases c : 0 < x.words.length
   ·rw [if_pos c] at this
    have hmul : i * many ≤ 2000000 * 32 := Nat.mul_le_mul hi hm
    rw [if_pos (by omega : 0 < (x.words.length : Int)), if_neg (by omega)]
    have e : W ((W ((i : Int) * (many : Int))) + (k : Int)) = ((i * many + k : Nat) : Int) := by
     rw [show (i : Int) * (many : Int) = ((i * many : Nat) : Int) by simp, W_id (x := ((i * many : Nat) : Int)), W_id]
     all_goals omega
    have hml : (i * many + k) % x.words.length < x.words.length := Nat.mod_lt _ c
    rw [e, tmodN, ixD hml]
    simp only [Option.bind_some]
    have hwm : 0 ≤ x.words.getD ((i * many + k) % x.words.length) 0 ∧ x.words.getD ((i * many + k) % x.words.length) 0 ≤ 65535 := by
     rw [List.getD_eq_getElem?_getD, List.getElem?_eq_getElem hml]
     exact hx.w _ (List.getElem_mem hml)
    rw [W_id (x := x.words.getD ((i * many + k) % x.words.length) 0), app_one (by simp <;> omega)]
    simp only [Option.bind_some]
    exact this
   ·rw [if_neg c] at this
    rw [if_neg (by omega), app_one (by simp <;> omega)]
    simp only [Option.bind_some]
    exact this
  ·rw [if_neg (by omega)]
   have : k = many := by omega
   subst this; rfl
theorem list_eq (hv : FmV t) (hF : 100000 < F) (hx : SentOk x) {i : Nat} (hi : i ≤ 2000000) : hangfirelaw09_Sent_list F x i t.words = some (wl x i (wN t)) := by
 have hwn : wN t ≤ 32 := by have := hv.w; unfold wN; omega
 have hwi : ((wN t : Nat) : Int) = t.words := by have := hv.w; unfold wN; omega
 unfold hangfirelaw09_Sent_list
 rw [← hwi]
 exact list_L hx hi hwn (K := fun out _ => some out) F 0 (by omega) (Nat.zero_le _)
def numL : Int → List Int → List Int
 | _, [] => []
 | n, s :: r => (n + s) :: numL (n + s + 1) r
def endN : Int → List Int → Int
 | n, [] => n
 | n, s :: r => endN (n + s + 1) r
theorem num_facts : ∀ (l : List Int) (n : Int), (∀ e ∈ l, 0 ≤ e ∧ e ≤ 255) → (numL n l).length = l.length ∧ (∀ m ∈ numL n l, n ≤ m ∧ m ≤ endN n l - 1) ∧ (numL n l).Pairwise (· < ·) ∧ n ≤ endN n l ∧ endN n l ≤ n + 256 * l.length
 | [], n, _ => ⟨rfl, (fun m h => (by cases h)), List.Pairwise.nil, Int.le_refl _, by simp [endN]⟩
 | s :: r, n, h => by
  obtain ⟨k1, k2, k3, k4, k5⟩ := num_facts r (n + s + 1) fun e he => h e (by simp [he])
  have hs := h s (by simp)
  refine ⟨by simp [numL, k1], fun m hm => ?_, ?_, ?_, ?_⟩
  ·rw [numL] at hm
   rw [endN]
   rcases List.mem_cons.1 hm with rfl | hm
   ·omega
   ·have := k2 m hm; omega
  ·rw [numL, List.pairwise_cons]
   exact ⟨fun m hm => by have := k2 m hm; omega, k3⟩
  ·rw [endN]; omega
  ·rw [endN, List.length_cons]; omega
theorem num_L (hx : SentOk x) {K : List Int → Int → Int → Option (List Int × Bool)} : ∀ (n k : Nat) (out : List Int) (v : Int), x.steps.length < n + k → k ≤ x.steps.length → out.length ≤ k → 0 ≤ v ∧ v ≤ 1000000 + 256 * k →
  hangfirelaw09_Sent_numbers_L1 F x K n out v k = K (out ++ numL v (x.steps.drop k)) (endN v (x.steps.drop k)) (x.steps.length : Nat) := by
 have hls := hx.ls
 intro n
 induction n with
 | zero => intro k out v h1 h2; omega
 | succ n ih =>
  intro k out v h1 h2 h3 h4
  rw [hangfirelaw09_Sent_numbers_L1]
  by_cases hk : k < x.steps.length
  ·have hs := hx.s _ (List.getElem_mem hk)
   rw [if_pos (by omega : (k : Int) < (x.steps.length : Int)), ixO_nat hk, W_succ (by omega), List.drop_eq_getElem_cons hk]
   simp only [Option.bind_some]
   generalize x.steps[k] = s at *
   rw [W_id (x := s), W_id (x := v + s), app_any (by simp <;> omega)]
   simp only [Option.bind_some]
   rw [W_id (x := v + s + 1), ih (k + 1) _ _ (by omega) (by omega) (by simp <;> omega) (by omega), numL, endN]
   simp
  ·rw [if_neg (by omega), List.drop_of_length_le (by omega)]
   have : k = x.steps.length := by omega
   subst this
   simp [numL, endN]
theorem num_eq (hx : SentOk x) (hF : 2000000 < F) : hangfirelaw09_Sent_numbers F x = some (if 0 ≤ x.first ∧ x.first ≤ 1000000 then (numL x.first x.steps, decide (endN x.first x.steps - 1 ≤ 1000000)) else ([], false)) := by
 have hls := hx.ls
 unfold hangfirelaw09_Sent_numbers
 by_cases h1 : x.first < 0
 ·rw [if_pos h1, if_neg (by omega)]
 rw [if_neg h1]
 by_cases h2 : 1000000 < x.first
 ·rw [if_pos h2, if_neg (by omega)]
 rw [if_neg h2, if_pos ⟨by omega, by omega⟩]
 have := num_L (F := F) hx (K := fun (out : (List Int)) (nv : Int) (i : Int) => some (out, (decide ((W (nv - 1)) ≤ 1000000)))) F 0 [] x.first (by omega) (Nat.zero_le _) (Nat.le_refl _) (by omega)
 rw [show ((0 : Nat) : Int) = 0 from rfl, List.drop_zero, List.nil_append] at this
 rw [this]
 obtain ⟨_, _, _, k4, k5⟩ := num_facts x.steps x.first hx.s
 rw [W_id (x := endN x.first x.steps - 1)]
def fsFrom (t : FrFormat) (x : Sent) (l : List Int) (k : Nat) : Fs := ((List.range l.length).drop k).map fun j => (l.getD j 0, wl x j (wN t))
theorem fsFrom_step {l : List Int} {k : Nat} (hk : k < l.length) : fsFrom t x l k = (l[k], wl x k (wN t)) :: fsFrom t x l (k + 1) := by
 unfold fsFrom
 rw [List.drop_eq_getElem_cons (by rw [List.length_range]; exact hk), List.map_cons, List.getElem_range, List.getD_eq_getElem?_getD, List.getElem?_eq_getElem hk]
 rfl
theorem fsFrom_ok (hx : SentOk x) (l : List Int) (k : Nat) : FsOk t (fsFrom t x l k) := fun f hf => by
 unfold fsFrom at hf
 obtain ⟨j, _, rfl⟩ := List.mem_map.1 hf
 exact wl_ok hx j
theorem byt_L (hv : FmV t) (hF : 2000000 < F) {a b : Int} (hck : frame_Check F t = some (a, b, 0)) (hx : SentOk x) {l : List Int} {e : Bool} (hl : ∀ n ∈ l, 0 ≤ n ∧ n ≤ 1000000) (hll : l.length ≤ 1048576) {K : List Int → Int → Option (List Int × List Int × Bool)} : ∀ (n k : Nat) (lv : List Int), l.length < n + k → k ≤ l.length → lv.length ≤ 71 * k →
  hangfirelaw09_Sent_bytes_L1 F x t (l, e) K n lv k = K (lv ++ flatB t (fsFrom t x l k)) (l.length : Nat) := by
 have hz := sz_le hv
 intro n
 induction n with
 | zero => intro k lv h1 h2; omega
 | succ n ih =>
  intro k lv h1 h2 h3
  rw [hangfirelaw09_Sent_bytes_L1]
  by_cases hk : k < l.length
  ·have hn := hl _ (List.getElem_mem hk)
   have hw := wl_ok (t := t) hx k
   rw [if_pos (by show (k : Int) < (l.length : Int); omega)]
   have e1 : ixO (l, e).1 (k : Int) = some l[k] := ixO_nat hk
   rw [e1]
   simp only [Option.bind_some]
   rw [list_eq hv (by omega) hx (by omega)]
   simp only [Option.bind_some]
   rw [fenc_eq hv (by omega) hck hn hw]
   simp only [Option.bind_some, if_true]
   have hel := enc_len (t := t) (n := l[k]) hw
   rw [app_any (by omega)]
   simp only [Option.bind_some]
   rw [W_succ (by omega), ih (k + 1) _ (by omega) (by omega) (by rw [List.length_append, hel]; omega), fsFrom_step hk, List.append_assoc]
   rfl
  ·rw [if_neg (by show ¬ (k : Int) < (l.length : Int); omega)]
   have : k = l.length := by omega
   subst this
   unfold fsFrom
   rw [List.drop_of_length_le (by rw [List.length_range]; exact Nat.le_refl _)]
   simp [flatB]
theorem bytes_eq (hf : FmF F t) (hF : 2000000 < F) (hx : SentOk x) : ∃ b l is, hangfirelaw09_Sent_bytes F x t = some (b, l, is) ∧ (is = true → (∃ a c, frame_Check F t = some (a, c, 0)) ∧ FmV t ∧ (0 ≤ x.first ∧ x.first ≤ 1000000) ∧ (∀ n ∈ l, x.first ≤ n ∧ n ≤ 1000000) ∧ l.Pairwise (· < ·) ∧ l.length ≤ 1048576 ∧ (flatB t (fsFrom t x l 0)).length ≤ 4000) := by
 obtain ⟨a, c, e, h1, _, h3⟩ := check_both hf
 have hls := hx.ls
 unfold hangfirelaw09_Sent_bytes
 rw [h1, num_eq hx hF]
 simp only [Option.bind_some]
 by_cases hfi : 0 ≤ x.first ∧ x.first ≤ 1000000
 case neg =>
  rw [if_neg hfi, if_neg Bool.false_ne_true]
  by_cases he : e = 0
  ·rw [if_pos he]; exact ⟨_, _, _, rfl, fun h => by cases h⟩
  ·rw [if_neg he]; exact ⟨_, _, _, rfl, fun h => by cases h⟩
 rw [if_pos hfi]
 obtain ⟨k1, k2, k3, k4, k5⟩ := num_facts x.steps x.first hx.s
 by_cases hend : endN x.first x.steps - 1 ≤ 1000000
 case neg =>
  rw [decide_eq_false hend, if_neg Bool.false_ne_true]
  by_cases he : e = 0
  ·rw [if_pos he]; exact ⟨_, _, _, rfl, fun h => by cases h⟩
  ·rw [if_neg he]; exact ⟨_, _, _, rfl, fun h => by cases h⟩
 rw [decide_eq_true hend]
 simp only [if_true]
 by_cases he : e = 0
 case neg => rw [if_neg he]; exact ⟨_, _, _, rfl, fun h => by cases h⟩
 subst he
 have hv := h3 rfl
 have hw := hv.w
 rw [if_pos rfl, if_neg (by omega), if_neg (by omega)]
 have hb := byt_L (F := F) hv hF h1 hx (l := numL x.first x.steps) (e := true) (fun n hn => by have := k2 n hn; omega) (by omega) (K := fun (lv : (List Int)) (_ : Int) => some (lv, numL x.first x.steps, (decide ((lv.length : Int) ≤ 4000)))) F 0 [] (by omega) (Nat.zero_le _) (Nat.zero_le _)
 rw [show ((0 : Nat) : Int) = 0 from rfl, List.nil_append] at hb
 refine ⟨_, _, _, hb, fun h => ⟨⟨a, c, rfl⟩, hv, hfi, fun n hn => by have := k2 n hn; omega, k3, by omega, ?_⟩⟩
 have := of_decide_eq_true h
 omega
end
end Go.Proofs.Ytjnnkcnnandeeaa.Fm
open Go Go.Proofs.Ytjnnkcnnandeeaa.Sh Go.Proofs
namespace Go.Proofs.Ytjnnkcnnandeeaa.Fm
section
variable {F : Nat} {t : FrFormat} {x : Sent} {a l : List Int} {b : List Int} {is : Bool}
def bitB (e : Int) (k : Nat) : Bool := !decide (Int.tmod (ishr .u32 e (IntKind.u64.wrap (k : Int))) 2 = 0)
def frK (t : FrFormat) (x : Sent) (l : List Int) (j : Nat) : Int × List Int := (l.getD j 0, wl x j (wN t))
def selF (t : FrFormat) (x : Sent) (l : List Int) (e : Int) (k : Nat) : Fs := (((List.range l.length).drop k).filter (bitB e)).map (frK t x l)
theorem sel_step {e : Int} {k : Nat} (hk : k < l.length) : selF t x l e k = if bitB e k = true then frK t x l k :: selF t x l e (k + 1) else selF t x l e (k + 1) := by
 unfold selF
 rw [List.drop_eq_getElem_cons (by rw [List.length_range]; exact hk), List.getElem_range]
 by_cases h : bitB e k = true
 ·rw [if_pos h, List.filter_cons_of_pos h]; rfl
 ·rw [if_neg h, List.filter_cons_of_neg h]
theorem sel_ok (hx : SentOk x) (e : Int) (k : Nat) : FsOk t (selF t x l e k) := fun f hf => by
 unfold selF at hf
 obtain ⟨j, _, rfl⟩ := List.mem_map.1 hf
 exact wl_ok hx j
theorem sel_len (e : Int) (k : Nat) : (selF t x l e k).length ≤ l.length := by
 unfold selF
 rw [List.length_map]
 refine Nat.le_trans (List.length_filter_le _ _) ?_
 rw [List.length_drop, List.length_range]
 omega
theorem u64_k {k : Nat} (hk : k < 100) : ¬ IntKind.u64.wrap (k : Int) < 0 := by
 unfold IntKind.wrap
 simp [IntKind.bits, IntKind.signed]
 omega
theorem rc_L1 (hv : FmV t) (hF : 2000000 < F) {q1 q2 : Int} (hck : frame_Check F t = some (q1, q2, 0)) (hx : SentOk x) (hA : hangfirelaw09_Awake F = some true) (hl : ∀ n ∈ l, 0 ≤ n ∧ n ≤ 1000000) (hinc : l.Pairwise (· < ·)) (hll : l.length ≤ 32) {i : Nat} {e : Int} (hi : ixO a (i : Int) = some e) {K : List Int → Int → Int → Option Bool} : ∀ (n k : Nat) (lv : List Int) (last : Int), l.length < n + k → k ≤ l.length → lv.length ≤ 71 * k → -1 ≤ last ∧ last ≤ 1000000 → (∀ j (h : j < l.length), k ≤ j → last < l[j]) →
  hangfirelaw09_FrameReceivers_L1 F t x a (b, l, is) i K n lv last k = some true ∨ (gapOk (last + 1) (selF t x l e k) ∧ ∃ y z, hangfirelaw09_FrameReceivers_L1 F t x a (b, l, is) i K n lv last k = K (lv ++ flatB t (selF t x l e k)) y z) := by
 have hz := sz_le hv
 intro n
 induction n with
 | zero => intro k lv last h1 h2; omega
 | succ n ih =>
  intro k lv last h1 h2 h3 h4 h5
  rw [hangfirelaw09_FrameReceivers_L1]
  by_cases hk : k < l.length
  case neg =>
   rw [if_neg (by show ¬ (k : Int) < (l.length : Int); omega)]
   refine .inr ?_
   have : selF t x l e k = [] := by unfold selF; rw [List.drop_of_length_le (by rw [List.length_range]; omega)]; rfl
   rw [this]
   exact ⟨trivial, _, _, by simp [flatB]; rfl⟩
  have hn := hl _ (List.getElem_mem hk)
  have hw := wl_ok (t := t) hx k
  have hlk := h5 k hk (Nat.le_refl _)
  rw [if_pos (by show (k : Int) < (l.length : Int); omega), hi]
  simp only [Option.bind_some]
  rw [if_neg (u64_k (by omega)), sel_step hk]
  by_cases hb : bitB e k = true
  case neg =>
   have hb' : Int.tmod (ishr .u32 e (IntKind.u64.wrap (k : Int))) 2 = 0 := by unfold bitB at hb; simpa using hb
   rw [if_pos hb', if_neg hb, W_succ (by omega)]
   exact ih (k + 1) lv last (by omega) (by omega) (by omega) h4 fun j hj hkj => h5 j hj (by omega)
  have hb' : ¬ Int.tmod (ishr .u32 e (IntKind.u64.wrap (k : Int))) 2 = 0 := by unfold bitB at hb; simpa using hb
  have e1 : ixO (b, l, is).2.1 (k : Int) = some l[k] := ixO_nat hk
  rw [if_neg hb', if_pos hb, e1]
  simp only [Option.bind_some]
  rw [W_id (x := l[k] - last)]
  by_cases hg : 256 < l[k] - last
  ·rw [if_pos hg, hA]; exact .inl rfl
  rw [if_neg hg, list_eq hv (by omega) hx (by omega)]
  simp only [Option.bind_some]
  rw [fenc_eq hv (by omega) hck hn hw]
  simp only [Option.bind_some, if_true]
  have hel := enc_len (t := t) (n := l[k]) hw
  rw [app_any (by omega)]
  simp only [Option.bind_some]
  rw [W_succ (by omega)]
  have hf : frK t x l k = (l[k], wl x k (wN t)) := by unfold frK; rw [List.getD_eq_getElem?_getD, List.getElem?_eq_getElem hk]; rfl
  rcases ih (k + 1) (lv ++ encB t l[k] (wl x k (wN t))) l[k] (by omega) (by omega) (by rw [List.length_append, hel]; omega) (by omega) (fun j hj hkj => List.pairwise_iff_getElem.1 hinc k j hk hj (by omega)) with h | ⟨h6, y, z, h7⟩
  ·exact .inl h
  ·refine .inr ⟨?_, y, z, ?_⟩
   ·rw [hf]
    exact ⟨⟨by dsimp only; omega, by dsimp only; omega, hn.2⟩, h6⟩
   ·rw [h7, hf, List.append_assoc]
    rfl
theorem rc_L4 (hv : FmV t) (hF : 2000000 < F) {q1 q2 : Int} (hck : frame_Check F t = some (q1, q2, 0)) (hx : SentOk x) (hA : hangfirelaw09_Awake F = some true) (hfi : 0 ≤ x.first ∧ x.first ≤ 1000000) (hl : ∀ n ∈ l, x.first ≤ n ∧ n ≤ 1000000) (hinc : l.Pairwise (· < ·)) (hll : l.length ≤ 32) (ha : a.length ≤ 4) {K : List FrTape → Int → Option Bool} : ∀ (n i : Nat) (lv : List FrTape), a.length < n + i → i ≤ a.length → lv.length ≤ i →
  hangfirelaw09_FrameReceivers_L4 F t x a (b, l, is) K n lv i = some true ∨ ((∀ e ∈ a.drop i, gapOk x.first (selF t x l e 0)) ∧ ∃ z, hangfirelaw09_FrameReceivers_L4 F t x a (b, l, is) K n lv i = K (lv ++ (a.drop i).map fun e => ⟨flatB t (selF t x l e 0), x.first⟩) z) := by
 intro n
 induction n with
 | zero => intro i lv h1 h2; omega
 | succ n ih =>
  intro i lv h1 h2 h3
  rw [hangfirelaw09_FrameReceivers_L4]
  by_cases hi : i < a.length
  case neg =>
   rw [if_neg (by omega), List.drop_of_length_le (by omega)]
   exact .inr ⟨(fun e h => (by cases h)), _, by rw [List.map_nil, List.append_nil]⟩
  rw [if_pos (by omega : (i : Int) < (a.length : Int)), W_id (x := x.first - 1), List.drop_eq_getElem_cons hi]
  have hL := rc_L1 (F := F) (b := b) (is := is) hv hF hck hx hA (fun n hn => by have := hl n hn; omega) hinc hll (i := i) (e := a[i]) (ixO_nat hi) (K := fun (lv2 : (List Int)) (x2 : Int) (x3 : Int) => Option.bind (appO lv [(FrTape.mk lv2 x.first)]) fun q2 => hangfirelaw09_FrameReceivers_L4 F t x a (b, l, is) K n q2 (W ((i : Int) + 1))) F 0 [] (x.first - 1) (by omega) (Nat.zero_le _) (Nat.zero_le _) (by omega) (fun j hj _ => by have := hl _ (List.getElem_mem hj); omega)
  rw [show ((0 : Nat) : Int) = 0 from rfl, List.nil_append, show x.first - 1 + 1 = x.first by omega] at hL
  rcases hL with h | ⟨h4, y, z, h5⟩
  ·exact .inl h
  ·rw [h5, app_one (by omega)]
   simp only [Option.bind_some]
   rw [W_succ (by omega)]
   rcases ih (i + 1) (lv ++ [⟨flatB t (selF t x l a[i] 0), x.first⟩]) (by omega) (by omega) (by simp <;> omega) with h | ⟨h6, z2, h7⟩
   ·exact .inl h
   ·refine .inr ⟨fun e he => ?_, z2, ?_⟩
    ·rcases List.mem_cons.1 he with rfl | he
     ·exact h4
     ·exact h6 e he
    ·rw [h7, List.append_assoc]; rfl
def firstI (k : Nat) : Int → List Int → Int
 | _, [] => -1
 | i, e :: r => if bitB e k = true then i else firstI k (i + 1) r
def cntK (k : Nat) (a : List Int) : Nat := a.countP fun e => bitB e k
theorem first_spec (k : Nat) : ∀ (a : List Int) (i : Int), 0 < cntK k a → ∃ j, ∃ h : j < a.length, firstI k i a = i + j ∧ bitB a[j] k = true ∧ ∀ m (hm : m < a.length), bitB a[m] k = true → j ≤ m
 | [], i, h => by cases h
 | e :: r, i, h => by
  by_cases hb : bitB e k = true
  ·exact ⟨0, by simp, by rw [firstI, if_pos hb]; simp, hb, fun m _ _ => Nat.zero_le _⟩
  ·have h' : 0 < cntK k r := by
    unfold cntK at h ⊢
    rw [List.countP_cons_of_neg (by simpa using hb)] at h; exact h
   obtain ⟨j, hj, e1, e2, e3⟩ := first_spec k r (i + 1) h'
   refine ⟨j + 1, by simp <;> omega, by rw [firstI, if_neg hb, e1]; omega, by simpa using e2, fun m hm hbm => ?_⟩
   cases m with
   | zero => exact absurd (by simpa using hbm) hb
   | succ m => have := e3 m (by simpa using hm) (by simpa using hbm); omega
def repK (t : FrFormat) (x : Sent) (l a : List Int) (k : Nat) : FrReport := ⟨l.getD k 0, firstI k 0 a, (cntK k a : Int), false, wl x k (wN t)⟩
def anyK (a : List Int) (k : Nat) : Bool := decide (0 < cntK k a)
def expE (t : FrFormat) (x : Sent) (l a : List Int) : List FrReport := ((List.range l.length).filter (anyK a)).map (repK t x l a)
def tapesS (t : FrFormat) (x : Sent) (l a : List Int) : List Fs := a.map fun e => selF t x l e 0
theorem tellS_mem : ∀ (a : List Int) (i : Int) (y : FrReport), y ∈ tellS i (tapesS t x l a) ↔ ∃ j, ∃ h : j < a.length, ∃ k, k < l.length ∧ bitB a[j] k = true ∧ y = ⟨l.getD k 0, i + j, 0, false, wl x k (wN t)⟩
 | [], i, y => by simp [tapesS, tellS]
 | e :: r, i, y => by
  have ih := tellS_mem r (i + 1) y
  unfold tapesS at ih ⊢
  rw [List.map_cons, tellS, List.mem_append, ih]
  constructor
  ·rintro (h | ⟨j, hj, k, h1, h2, h3⟩)
   ·obtain ⟨f, hf, rfl⟩ := List.mem_map.1 h
    unfold selF at hf
    rw [List.drop_zero] at hf
    obtain ⟨k, hk, rfl⟩ := List.mem_map.1 hf
    rw [List.mem_filter, List.mem_range] at hk
    exact ⟨0, by simp, k, hk.1, hk.2, by simp [frK]⟩
   ·exact ⟨j + 1, by simp <;> omega, k, h1, by simpa using h2, by rw [h3]; congr 1; omega⟩
  ·rintro ⟨j, hj, k, h1, h2, h3⟩
   cases j with
   | zero =>
    refine .inl (List.mem_map.2 ⟨frK t x l k, ?_, by rw [h3]; simp [frK]⟩)
    unfold selF
    rw [List.drop_zero]
    exact List.mem_map.2 ⟨k, List.mem_filter.2 ⟨List.mem_range.2 h1, by simpa using h2⟩, rfl⟩
   | succ j => exact .inr ⟨j, by simpa using hj, k, h1, by simpa using h2, by rw [h3]; congr 1; omega⟩
theorem inc_inj (hinc : l.Pairwise (· < ·)) {i j : Nat} (hi : i < l.length) (hj : j < l.length) (h : l.getD i 0 = l.getD j 0) : i = j := by
 rw [List.getD_eq_getElem?_getD, List.getD_eq_getElem?_getD, List.getElem?_eq_getElem hi, List.getElem?_eq_getElem hj] at h
 have h : l[i] = l[j] := h
 have hp := List.pairwise_iff_getElem.1 hinc
 rcases Nat.lt_trichotomy i j with hij | hij | hij
 ·have := hp i j hi hj hij; omega
 ·exact hij
 ·have := hp j i hj hi hij; omega
theorem count_one {k : Nat} : ∀ {l : List Nat}, l.Nodup → k ∈ l → List.count k l = 1
 | [], _, h => by cases h
 | j :: l, hn, h => by
  rw [List.nodup_cons] at hn
  by_cases e : j = k
  ·subst e
   rw [List.count_cons_self, List.count_eq_zero.2 hn.1]
  ·rw [List.count_cons_of_ne e]
   rcases List.mem_cons.1 h with h | h
   ·exact absurd h.symm e
   ·exact count_one hn.2 h
theorem cnt_tell (hinc : l.Pairwise (· < ·)) {k : Nat} (hk : k < l.length) (z : FrReport) (hz1 : z.number = l.getD k 0) (hz2 : z.words = wl x k (wN t)) : ∀ (a : List Int) (i : Int), cnt (tellS i (tapesS t x l a)) z = cntK k a
 | [], i => rfl
 | e :: r, i => by
  have ih := cnt_tell hinc hk z hz1 hz2 r (i + 1)
  unfold cnt tapesS cntK at ih ⊢
  rw [List.map_cons, tellS, List.countP_append, ih, List.countP_cons, Nat.add_comm]
  congr 1
  unfold selF
  rw [List.drop_zero, List.map_map, List.countP_map]
  have hc : ((List.range l.length).filter (bitB e)).countP (sameK z ∘ ((fun f => (⟨f.1, i, 0, false, f.2⟩ : FrReport)) ∘ frK t x l)) = ((List.range l.length).filter (bitB e)).countP (fun j => j == k) := by
   refine List.countP_congr fun j hj => ?_
   rw [List.mem_filter, List.mem_range] at hj
   simp only [Function.comp, sameK, frK, hz1, hz2, Bool.and_eq_true, decide_eq_true_iff, beq_iff_eq]
   constructor
   ·rintro ⟨h1, _⟩; exact inc_inj hinc hj.1 hk h1
   ·rintro rfl; exact ⟨rfl, rfl⟩
  rw [hc]
  show List.count k ((List.range l.length).filter (bitB e)) = _
  by_cases hb : bitB e k = true
  ·rw [if_pos hb]
   exact count_one (List.nodup_range.filter _) (List.mem_filter.2 ⟨List.mem_range.2 hk, hb⟩)
  ·rw [if_neg hb]
   exact List.count_eq_zero.2 fun h => hb (List.mem_filter.1 h).2
theorem exp_ok (hinc : l.Pairwise (· < ·)) : OutP (tellS 0 (tapesS t x l a)) (tellS 0 (tapesS t x l a)) (expE t x l a) := by
 have hpos : ∀ (j : Nat) (hj : j < a.length) (k : Nat), bitB a[j] k = true → 0 < cntK k a := fun j hj k h => by
  unfold cntK
  exact List.countP_pos_iff.2 ⟨a[j], List.getElem_mem hj, h⟩
 refine ⟨?_, fun r hr => ?_, fun y hy => ?_⟩
 ·unfold expE
  rw [List.pairwise_map]
  refine List.Pairwise.imp_of_mem (fun {i j} hi hj hij => ?_) (List.pairwise_lt_range.sublist List.filter_sublist)
  rw [List.mem_filter, List.mem_range] at hi hj
  show l.getD i 0 < l.getD j 0
  rw [List.getD_eq_getElem?_getD, List.getD_eq_getElem?_getD, List.getElem?_eq_getElem hi.1, List.getElem?_eq_getElem hj.1]
  exact List.pairwise_iff_getElem.1 hinc i j hi.1 hj.1 hij
 ·unfold expE at hr
  obtain ⟨k, hk, rfl⟩ := List.mem_map.1 hr
  rw [List.mem_filter, List.mem_range] at hk
  have hc : 0 < cntK k a := of_decide_eq_true hk.2
  obtain ⟨j, hj, e1, e2, e3⟩ := first_spec k a 0 hc
  have hcn := fun z h1 h2 => cnt_tell (t := t) (x := x) hinc hk.1 z h1 h2 a 0
  refine ⟨⟨l.getD k 0, 0 + (j : Int), 0, false, wl x k (wN t)⟩, (tellS_mem a 0 _).2 ⟨j, hj, k, hk.1, e2, rfl⟩, ?_, fun y hy hyn => ?_⟩
  ·unfold full repK
   rw [hcn _ rfl rfl, e1]
   have ho : oth (tellS 0 (tapesS t x l a)) ⟨l.getD k 0, 0 + (j : Int), 0, false, wl x k (wN t)⟩ = false := by
    unfold oth
    rw [List.any_eq_false]
    intro y hy
    obtain ⟨j2, hj2, k2, h1, h2, rfl⟩ := (tellS_mem a 0 y).1 hy
    unfold othK
    rw [Bool.and_eq_true, decide_eq_true_iff, Bool.not_eq_true', decide_eq_false_iff_not]
    rintro ⟨q1, q2⟩
    exact q2 (by rw [inc_inj hinc h1 hk.1 q1])
   rw [ho]
  ·obtain ⟨j2, hj2, k2, h1, h2, rfl⟩ := (tellS_mem a 0 y).1 hy
   have := inc_inj hinc h1 hk.1 hyn
   subst this
   refine .inr ⟨by rw [hcn _ rfl rfl, hcn _ rfl rfl], ?_⟩
   have := e3 j2 hj2 h2
   dsimp only
   omega
 ·obtain ⟨j, hj, k, h1, h2, rfl⟩ := (tellS_mem a 0 y).1 hy
  refine ⟨repK t x l a k, List.mem_map.2 ⟨k, List.mem_filter.2 ⟨List.mem_range.2 h1, decide_eq_true (hpos j hj k h2)⟩, rfl⟩, rfl⟩
end
end Go.Proofs.Ytjnnkcnnandeeaa.Fm
