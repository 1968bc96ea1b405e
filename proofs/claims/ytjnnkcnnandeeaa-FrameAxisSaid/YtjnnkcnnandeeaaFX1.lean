/- Plain facts about numbers, lists and bits, for FrameAxis. -/
import Derived.Test.YtjnnkcnnandeeaaW1
import Derived.MapKept
import Derived.Laws.Strings
set_option linter.unusedVariables false
set_option linter.unusedSimpArgs false
open Go Go.Proofs.Ytjnnkcnnandeeaa.Sh Go.Proofs
namespace Go.Proofs.Ytjnnkcnnandeeaa
theorem W_id {x : Int} (h : -9223372036854775808 ≤ x := by omega) (k : x < 9223372036854775808 := by omega) : W x = x := by
 unfold W IntKind.wrap
 simp [IntKind.bits, IntKind.signed]
 omega
theorem W_succ {k : Nat} (h : k < 9223372036854775807) : W ((k : Int) + 1) = ((k + 1 : Nat) : Int) := by rw [W_id]; omega
theorem ixO_nat {α : Type} {l : List α} {k : Nat} (h : k < l.length) : ixO l (k : Int) = some l[k] := by
 unfold ixO
 rw [if_pos (Int.natCast_nonneg k), Int.toNat_natCast, List.getElem?_eq_getElem h]
theorem ixO_int {α : Type} {l : List α} {i : Int} (h0 : 0 ≤ i) (h : i < l.length) : ∃ k : Nat, ∃ hk : k < l.length, i = k ∧ ixO l i = some l[k] := by
 obtain ⟨k, rfl⟩ := Int.eq_ofNat_of_zero_le h0
 exact ⟨k, by omega, rfl, ixO_nat (by omega)⟩
theorem app_one {α : Type} {l : List α} {a : α} (h : l.length < 100000) : appO l [a] = some (l ++ [a]) := by
 unfold appO
 rw [if_pos (by simp; omega)]
theorem cut_nat {α : Type} {l : List α} {k : Nat} (h : k ≤ l.length) : cutO l 0 (k : Int) = some (l.take k) := by
 unfold cutO
 rw [if_pos (by omega)]
 simp
theorem bytesL_len (s : ByteArray) : (bytesL s).length = s.size := by simp [bytesL]
def bitAt (x k : Int) : Prop := 0 < iand .u32 (ishr .u32 x k) 1
theorem ofInt_u32 (a : Nat) (ha : a < 4294967296) : (BitVec.ofInt 32 (a : Int)).toNat = a := by
 rw [BitVec.ofInt_natCast, BitVec.toNat_ofNat]; exact Nat.mod_eq_of_lt (by omega)
theorem and_nat (a b : Nat) (ha : a < 4294967296) (hb : b < 4294967296) : iand .u32 (a : Int) (b : Int) = ((a &&& b : Nat) : Int) := by
 have hx : a &&& b < 2 ^ 32 := Nat.and_lt_two_pow _ (by omega)
 show IntKind.u32.wrap ((BitVec.ofInt 32 (a : Int) &&& BitVec.ofInt 32 (b : Int)).toNat : Int) = _
 rw [BitVec.toNat_and, ofInt_u32 a ha, ofInt_u32 b hb, IntKind.wrap_u32]
 omega
theorem or_nat (a b : Nat) (ha : a < 4294967296) (hb : b < 4294967296) : ior .u32 (a : Int) (b : Int) = ((a ||| b : Nat) : Int) := by
 have hx : a ||| b < 2 ^ 32 := Nat.or_lt_two_pow (by omega) (by omega)
 show IntKind.u32.wrap ((BitVec.ofInt 32 (a : Int) ||| BitVec.ofInt 32 (b : Int)).toNat : Int) = _
 rw [BitVec.toNat_or, ofInt_u32 a ha, ofInt_u32 b hb, IntKind.wrap_u32]
 omega
theorem shl_nat (k : Nat) (hk : k < 32) : ishl .u32 1 (k : Int) = ((2 ^ k : Nat) : Int) := by
 have h2 := Nat.pow_lt_pow_right (a := 2) (by omega) hk
 show IntKind.u32.wrap (1 * 2 ^ (min (k : Int).toNat 32)) = _
 rw [Int.toNat_natCast, Nat.min_eq_left (by omega), IntKind.wrap_u32, Int.one_mul]
 have e : ((2 : Int) ^ k) = ((2 ^ k : Nat) : Int) := by simp
 rw [e]
 generalize (2 ^ k : Nat) = z at *
 omega
theorem shr_nat (M k : Nat) (hk : k < 32) : ishr .u32 (M : Int) (k : Int) = ((M / 2 ^ k : Nat) : Int) := by
 show (M : Int).fdiv (2 ^ (min (k : Int).toNat 32)) = _
 rw [Int.toNat_natCast, Nat.min_eq_left (by omega), Int.fdiv_eq_ediv_of_nonneg _ (Int.le_of_lt (Int.pow_pos (by omega))), Int.natCast_ediv]
 simp
theorem bit_nat {M k : Nat} (hM : M < 4294967296) (hk : k < 32) : bitAt (M : Int) (k : Int) ↔ M.testBit k = true := by
 unfold bitAt
 have hq : M / 2 ^ k < 4294967296 := Nat.lt_of_le_of_lt (Nat.div_le_self _ _) hM
 rw [shr_nat M k hk, show (1 : Int) = ((1 : Nat) : Int) from rfl, and_nat _ 1 hq (by omega), Nat.and_one_is_mod, Nat.testBit_eq_decide_div_mod_eq]
 generalize M / 2 ^ k = q
 simp only [decide_eq_true_eq]
 omega
def Msk (x : Int) : Prop := ∃ M : Nat, x = (M : Int) ∧ M < 4294967296
theorem Msk.zero : Msk 0 := ⟨0, rfl, by omega⟩
theorem Msk.or {x : Int} (h : Msk x) {k : Nat} (hk : k < 32) : Msk (ior .u32 x (ishl .u32 1 k)) ∧ bitAt (ior .u32 x (ishl .u32 1 k)) k ∧ ∀ j : Nat, j < 32 → bitAt x j → bitAt (ior .u32 x (ishl .u32 1 k)) j := by
 obtain ⟨M, rfl, hM⟩ := h
 have h2 := Nat.pow_lt_pow_right (a := 2) (by omega) hk
 have h3 : M ||| 2 ^ k < 2 ^ 32 := Nat.or_lt_two_pow (by omega) (by omega)
 rw [shl_nat k hk, or_nat M _ hM (by omega)]
 refine ⟨⟨_, rfl, by omega⟩, (bit_nat (by omega) hk).2 (by rw [Nat.testBit_or, Nat.testBit_two_pow_self, Bool.or_true]), fun j hj hb => (bit_nat (by omega) hj).2 ?_⟩
 rw [Nat.testBit_or, (bit_nat hM hj).1 hb, Bool.true_or]
theorem Msk.clear {x : Int} (h : Msk x) {k : Nat} (hk : k < 32) : Msk (iandN .u32 x (ishl .u32 1 k)) ∧ ∀ j : Nat, j < 32 → j ≠ k → bitAt x j → bitAt (iandN .u32 x (ishl .u32 1 k)) j := by
 obtain ⟨M, rfl, hM⟩ := h
 have h2 := Nat.pow_lt_pow_right (a := 2) (by omega) hk
 rw [shl_nat k hk]
 have hlt := BitVec.isLt (BitVec.ofInt 32 (M : Int) &&& ~~~ BitVec.ofInt 32 ((2 ^ k : Nat) : Int))
 have e : iandN .u32 (M : Int) ((2 ^ k : Nat) : Int) = (((BitVec.ofInt 32 (M : Int) &&& ~~~ BitVec.ofInt 32 ((2 ^ k : Nat) : Int)).toNat : Nat) : Int) := by
  show IntKind.u32.wrap ((BitVec.ofInt 32 (M : Int) &&& ~~~ BitVec.ofInt 32 ((2 ^ k : Nat) : Int)).toNat : Int) = _
  rw [IntKind.wrap_u32]
  omega
 rw [e]
 refine ⟨⟨_, rfl, by omega⟩, fun j hj hne hb => (bit_nat (by omega) hj).2 ?_⟩
 rw [BitVec.testBit_toNat, BitVec.getLsbD_and, BitVec.getLsbD_not, ← BitVec.testBit_toNat, ← BitVec.testBit_toNat, ofInt_u32 M hM, ofInt_u32 (2 ^ k) (by omega), (bit_nat hM hj).1 hb, Nat.testBit_two_pow, decide_eq_true hj, decide_eq_false (Ne.symm hne)]
 rfl
theorem Msk.all {n : Nat} (hn : n < 32) : Msk (IntKind.u32.wrap ((ishl .u32 1 (n : Int)) - 1)) ∧ ∀ j : Nat, j < n → bitAt (IntKind.u32.wrap ((ishl .u32 1 (n : Int)) - 1)) j := by
 have h := Nat.pow_lt_pow_right (a := 2) (by omega) hn
 have h0 := Nat.two_pow_pos n
 have e : IntKind.u32.wrap ((ishl .u32 1 (n : Int)) - 1) = ((2 ^ n - 1 : Nat) : Int) := by
  rw [shl_nat n hn, IntKind.wrap_u32]
  generalize (2 ^ n : Nat) = z at *
  omega
 rw [e]
 exact ⟨⟨_, rfl, by omega⟩, fun j hj => (bit_nat (by omega) (by omega)).2 (by rw [Nat.testBit_two_pow_sub_one, decide_eq_true hj])⟩
end Go.Proofs.Ytjnnkcnnandeeaa
open Go Go.Proofs.Ytjnnkcnnandeeaa.Sh Go.Proofs
namespace Go.Proofs.Ytjnnkcnnandeeaa
def outP (n lo hi : Int) : Bool := decide (n < lo) || decide (hi < n)
theorem out_eq (F : Nat) (n lo hi : Int) : frame_out_int F n lo hi = some (outP n lo hi) := by
 unfold frame_out_int outP
 by_cases h : n < lo
 ·rw [if_pos h, decide_eq_true h]; rfl
 ·rw [if_neg h, decide_eq_false h]; rfl
theorem outP_f {n lo hi : Int} : outP n lo hi = false ↔ lo ≤ n ∧ n ≤ hi := by
 unfold outP
 rw [Bool.or_eq_false_iff, decide_eq_false_iff_not, decide_eq_false_iff_not]
 omega
theorem wout_eq (F : Nat) (n lo hi : Int) : wind_out F n lo hi = some (outP n lo hi) := by
 unfold wind_out outP
 by_cases h : n < lo
 ·rw [if_pos h, decide_eq_true h]; rfl
 ·rw [if_neg h, decide_eq_false h]; rfl
theorem ite_ex {p : Prop} [Decidable p] {A B : Option Bool} (h : p → ∃ b, A = some b) (k : ¬ p → ∃ b, B = some b) : ∃ b, (if p then A else B) = some b := by
 by_cases hp : p
 ·rw [if_pos hp]; exact h hp
 ·rw [if_neg hp]; exact k hp
theorem Name_ex {F : Nat} {s : ByteArray} (hl : (bytesL s).length < 9223372036854775808) : ∀ n k : Nat, (bytesL s).length < n + k → k ≤ (bytesL s).length →
  ∃ b, wind_Name_L1 F s (fun (x : Int) => Option.bind (wind_out F (s.size : Int) 1 24) fun rv => some (!rv)) n k = some b := by
 intro n
 induction n with
 | zero => intro k h1 h2; omega
 | succ n ih =>
  intro k h1 h2
  rw [wind_Name_L1]
  by_cases hk : k < (bytesL s).length
  ·rw [if_pos (by omega : (k : Int) < ((bytesL s).length : Int)), ixO_nat hk, W_succ (by omega)]
   have := ih (k + 1) (by omega) (by omega)
   rw [Option.bind_some]
   repeat' (first | exact this | exact ⟨_, rfl⟩ | refine ite_ex (fun _ => ?_) (fun _ => ?_))
  ·rw [if_neg (by omega), wout_eq]
   exact ⟨_, rfl⟩
theorem wind_Name_ex {F : Nat} {s : ByteArray} (hl : s.size ≤ 9223372036854775807) (hF : s.size < F) : ∃ b, wind_Name F s = some b :=
 Name_ex (by rw [bytesL_len]; omega) F 0 (by rw [bytesL_len]; omega) (Nat.zero_le _)
theorem idxI {F : Nat} {s : List Int} {f : Int → Option Bool} {p : Int → Bool} (hf : ∀ x ∈ s, f x = some (p x)) (hl : s.length < 100000) : ∀ n k : Nat, s.length < n + k → k ≤ s.length →
  ∃ r, slices_IndexFunc_int_L1 F s f (fun _ => some (-1)) n k = some r ∧ decide (0 ≤ r) = (s.drop k).any p := by
 intro n
 induction n with
 | zero => intro k h1 h2; omega
 | succ n ih =>
  intro k h1 h2
  rw [slices_IndexFunc_int_L1]
  by_cases hk : k < s.length
  ·rw [if_pos (by omega : (k : Int) < (s.length : Int)), ixO_nat hk, W_succ (by omega), List.drop_eq_getElem_cons hk]
   show ∃ r, Option.bind (f s[k]) _ = some r ∧ _
   rw [hf _ (List.getElem_mem hk)]
   show ∃ r, (if p s[k] = true then _ else _) = some r ∧ _
   by_cases hp : p s[k] = true
   ·rw [if_pos hp]; exact ⟨_, rfl, by rw [List.any_cons, hp]; simp⟩
   ·rw [if_neg hp]
    obtain ⟨r, h3, h4⟩ := ih (k + 1) (by omega) (by omega)
    exact ⟨r, h3, by rw [List.any_cons, h4, eq_false_of_ne_true hp]; rfl⟩
  ·rw [if_neg (by omega)]
   exact ⟨-1, rfl, by rw [List.drop_of_length_le (by omega)]; rfl⟩
theorem hasI {F : Nat} {s : List Int} {f : Int → Option Bool} {p : Int → Bool} (hf : ∀ x ∈ s, f x = some (p x)) (hl : s.length < 100000) (hF : s.length < F) : slices_ContainsFunc_int F s f = some (s.any p) := by
 obtain ⟨r, h1, h2⟩ := idxI (F := F) hf hl F 0 (by omega) (Nat.zero_le _)
 unfold slices_ContainsFunc_int slices_IndexFunc_int
 rw [show slices_IndexFunc_int_L1 F s f (fun _ => some (-1)) F 0 = some r from h1]
 show some (decide (0 ≤ r)) = _
 rw [h2]; rfl
theorem idxC {F : Nat} {s : List FrChannel} {f : FrChannel → Option Bool} (hf : ∀ x ∈ s, ∃ b, f x = some b) (hl : s.length < 100000) : ∀ n k : Nat, s.length < n + k → k ≤ s.length →
  ∃ r, slices_IndexFunc_FrChannel_L1 F s f (fun _ => some (-1)) n k = some r := by
 intro n
 induction n with
 | zero => intro k h1 h2; omega
 | succ n ih =>
  intro k h1 h2
  rw [slices_IndexFunc_FrChannel_L1]
  by_cases hk : k < s.length
  ·rw [if_pos (by omega : (k : Int) < (s.length : Int)), ixO_nat hk, W_succ (by omega)]
   obtain ⟨b, hb⟩ := hf _ (List.getElem_mem hk)
   show ∃ r, Option.bind (f s[k]) _ = some r
   rw [hb]
   show ∃ r, (if b = true then _ else _) = some r
   by_cases hp : b = true
   ·rw [if_pos hp]; exact ⟨_, rfl⟩
   ·rw [if_neg hp]; exact ih (k + 1) (by omega) (by omega)
  ·rw [if_neg (by omega)]; exact ⟨_, rfl⟩
theorem hasC {F : Nat} {s : List FrChannel} {f : FrChannel → Option Bool} (hf : ∀ x ∈ s, ∃ b, f x = some b) (hl : s.length < 100000) (hF : s.length < F) : ∃ b, slices_ContainsFunc_FrChannel F s f = some b := by
 obtain ⟨r, h1⟩ := idxC (F := F) hf hl F 0 (by omega) (Nat.zero_le _)
 unfold slices_ContainsFunc_FrChannel slices_IndexFunc_FrChannel
 rw [show slices_IndexFunc_FrChannel_L1 F s f (fun _ => some (-1)) F 0 = some r from h1]
 exact ⟨_, rfl⟩
def ChOk (t : FrFormat) (c : FrChannel) : Prop := 1 ≤ c.every ∧ 0 ≤ c.word ∧ c.word < t.words
structure FmF (F : Nat) (t : FrFormat) : Prop where
 f : 1000 < F
 n : ∀ c ∈ t.channels, c.name.size < F ∧ c.name.size ≤ 9223372036854775807
theorem check_L1 {F : Nat} {t : FrFormat} (hF : FmF F t) (hc : t.channels.length ≤ 12) (hw : 1 ≤ t.words ∧ t.words ≤ 32) : ∀ n k : Nat, t.channels.length < n + k → k ≤ t.channels.length → (∀ c ∈ t.channels.take k, ChOk t c) →
  ∃ r, frame_Check_L1 F t (fun _ => some (0, 0, 0)) n k = some r ∧ (r.2.2 = 0 → ∀ c ∈ t.channels, ChOk t c) := by
 intro n
 induction n with
 | zero => intro k h1 h2; omega
 | succ n ih =>
  intro k h1 h2 h3
  rw [frame_Check_L1]
  by_cases hk : k < t.channels.length
  ·rw [if_pos (by omega : (k : Int) < (t.channels.length : Int)), ixO_nat hk, cut_nat h2, W_succ (by omega)]
   obtain ⟨g1, g2⟩ := hF.n _ (List.getElem_mem hk)
   have hf := hF.f
   have hlt : (t.channels.take k).length < 100 := by rw [List.length_take]; omega
   obtain ⟨b1, e1⟩ := wind_Name_ex g2 g1
   obtain ⟨b2, e2⟩ := hasC (F := F) (s := t.channels.take k) (f := fun a0 => frame_Check_1 F a0 t.channels[k]) (fun x _ => by unfold frame_Check_1; exact ite_ex (fun _ => ⟨_, rfl⟩) fun _ => ⟨_, rfl⟩) (by omega) (by omega)
   show ∃ r, Option.bind (wind_Name F t.channels[k].name) _ = some r ∧ _
   rw [e1]
   show ∃ r, (if b1 = true then _ else _) = some r ∧ _
   by_cases c1 : b1 = true
   ·rw [if_pos c1, e2]
    show ∃ r, (if b2 = true then _ else _) = some r ∧ _
    by_cases c2 : b2 = true
    ·rw [if_pos c2]; exact ⟨_, rfl, fun h => by cases h⟩
    ·rw [if_neg c2, out_eq]
     show ∃ r, (if outP t.channels[k].word 0 (W (t.words - 1)) = true then _ else _) = some r ∧ _
     rw [W_id]
     by_cases c3 : outP t.channels[k].word 0 (t.words - 1) = true
     ·rw [if_pos c3]; exact ⟨_, rfl, fun h => by cases h⟩
     ·rw [if_neg c3]
      have c3' := outP_f.1 (eq_false_of_ne_true c3)
      by_cases c4 : t.channels[k].every < 1
      ·rw [if_pos c4]; exact ⟨_, rfl, fun h => by cases h⟩
      ·rw [if_neg c4, if_neg (by omega : ¬ t.channels[k].every = 0)]
       by_cases c5 : Int.tmod t.depth t.channels[k].every = 0
       ·rw [if_pos c5, out_eq]
        show ∃ r, (if outP t.channels[k].phase 0 _ = true then _ else _) = some r ∧ _
        by_cases c6 : outP t.channels[k].phase 0 (W (t.channels[k].every - 1)) = true
        ·rw [if_pos c6]; exact ⟨_, rfl, fun h => by cases h⟩
        ·rw [if_neg c6]
         obtain ⟨b3, e3⟩ := hasC (F := F) (s := t.channels.take k) (f := fun a0 => frame_Check_2 F a0 t.channels[k]) (fun x hx => by
          have hx2 := (h3 x hx).1
          unfold frame_Check_2 frame_meet
          by_cases d1 : t.channels[k].word = x.word
          ·rw [if_pos d1, if_neg (by omega : ¬ min t.channels[k].every x.every = 0)]; exact ⟨_, rfl⟩
          ·rw [if_neg d1]; exact ⟨_, rfl⟩) (by omega) (by omega)
         rw [e3]
         show ∃ r, (if b3 = true then _ else _) = some r ∧ _
         by_cases c7 : b3 = true
         ·rw [if_pos c7]; exact ⟨_, rfl, fun h => by cases h⟩
         ·rw [if_neg c7]
          refine ih (k + 1) (by omega) (by omega) fun c hc' => ?_
          rw [List.take_succ_eq_append_getElem hk] at hc'
          rcases List.mem_append.1 hc' with h | h
          ·exact h3 c h
          ·rw [List.mem_singleton.1 h]; exact ⟨by omega, by omega, by omega⟩
       ·rw [if_neg c5]; exact ⟨_, rfl, fun h => by cases h⟩
   ·rw [if_neg c1]; exact ⟨_, rfl, fun h => by cases h⟩
  ·rw [if_neg (by omega)]
   refine ⟨_, rfl, fun _ => ?_⟩
   rwa [List.take_of_length_le (by omega)] at h3
structure FmOk (t : FrFormat) : Prop where
 c : t.channels.length ≤ 12
 w : 1 ≤ t.words ∧ t.words ≤ 32
 a : ∀ c ∈ t.channels, ChOk t c
theorem check_ex {F : Nat} {t : FrFormat} (hF : FmF F t) : ∃ r, frame_Check F t = some r ∧ (r.2.2 = 0 → FmOk t) := by
 unfold frame_Check
 rw [out_eq]
 show ∃ r, (if outP _ 1 4 = true then _ else _) = some r ∧ _
 by_cases c1 : outP (t.sync.size : Int) 1 4 = true
 ·rw [if_pos c1]; exact ⟨_, rfl, fun h => by cases h⟩
 rw [if_neg c1]
 by_cases c2 : 12 < (t.channels.length : Int)
 ·rw [if_pos c2]; exact ⟨_, rfl, fun h => by cases h⟩
 rw [if_neg c2, out_eq]
 show ∃ r, (if outP t.words 1 32 = true then _ else _) = some r ∧ _
 by_cases c3 : outP t.words 1 32 = true
 ·rw [if_pos c3]; exact ⟨_, rfl, fun h => by cases h⟩
 rw [if_neg c3, out_eq]
 have c3' := outP_f.1 (eq_false_of_ne_true c3)
 show ∃ r, (if outP t.depth 1 16 = true then _ else _) = some r ∧ _
 by_cases c4 : outP t.depth 1 16 = true
 ·rw [if_pos c4]; exact ⟨_, rfl, fun h => by cases h⟩
 rw [if_neg c4]
 by_cases c5 : (iand .i64 t.depth (W (t.depth - 1))) = 0
 ·rw [if_pos c5]
  have hf := hF.f
  obtain ⟨r, h1, h2⟩ := check_L1 hF (by omega) c3' F 0 (by omega) (Nat.zero_le _) (fun c h => by cases h)
  exact ⟨r, h1, fun h => ⟨by omega, c3', h2 h⟩⟩
 ·rw [if_neg c5]; exact ⟨_, rfl, fun h => by cases h⟩
end Go.Proofs.Ytjnnkcnnandeeaa
open Go Go.Proofs.Ytjnnkcnnandeeaa.Sh Go.Proofs
namespace Go.Proofs.Ytjnnkcnnandeeaa
theorem mulB {x y A B : Int} (hx : -A ≤ x ∧ x ≤ A) (hy : -B ≤ y ∧ y ≤ B) : -(A * B) ≤ x * y ∧ x * y ≤ A * B := by
 have h1 : x.natAbs ≤ A.natAbs := by omega
 have h2 : y.natAbs ≤ B.natAbs := by omega
 have h3 : (x * y).natAbs ≤ A.natAbs * B.natAbs := by rw [Int.natAbs_mul]; exact Nat.mul_le_mul h1 h2
 have h4 : A * B = ((A.natAbs * B.natAbs : Nat) : Int) := by
  rw [Int.natCast_mul, Int.natAbs_of_nonneg (by omega), Int.natAbs_of_nonneg (by omega)]
 rw [h4]
 omega
def far (m : Int) (d : FlDir) : Prop := (-m ≤ d.x ∧ d.x ≤ m) ∧ (-m ≤ d.y ∧ d.y ≤ m) ∧ (-m ≤ d.z ∧ d.z ≤ m)
def dotP (a b : FlDir) : Int := a.x * b.x + a.y * b.y + a.z * b.z
theorem dotW {a b : FlDir} (ha : far 10000 a) (hb : far 1000000 b) : W ((W ((W (a.x * b.x)) + (W (a.y * b.y)))) + (W (a.z * b.z))) = dotP a b ∧ -30000000000 ≤ dotP a b ∧ dotP a b ≤ 30000000000 := by
 obtain ⟨a1, a2, a3⟩ := ha
 obtain ⟨b1, b2, b3⟩ := hb
 have h1 := mulB a1 b1
 have h2 := mulB a2 b2
 have h3 := mulB a3 b3
 rw [show (10000 : Int) * 1000000 = 10000000000 from rfl] at h1 h2 h3
 unfold dotP
 generalize a.x * b.x = p at *
 generalize a.y * b.y = q at *
 generalize a.z * b.z = r at *
 rw [W_id (x := p), W_id (x := q), W_id (x := r), W_id (x := p + q), W_id]
 exact ⟨rfl, by omega, by omega⟩
theorem far_le {d : FlDir} (h : far 10000 d) : far 1000000 d := by unfold far at *; omega
theorem times_eq {F : Nat} {a b : FlDir} (ha : far 10000 a) (hb : far 1000000 b) : frame_axis_times F a b = some (dotP a b) := by
 unfold frame_axis_times; rw [(dotW ha hb).1]
theorem dot_eq {F : Nat} {a : FlDir} {x y z : Int} (ha : far 10000 a) (hb : far 1000000 ⟨x, y, z⟩) : hangfirelaw09_dot F a x y z = some (dotP a ⟨x, y, z⟩) := by
 have := (dotW ha hb).1
 unfold hangfirelaw09_dot; rw [← this]
theorem far_eq {F : Nat} (hF : 1000 < F) (m : Int) (hm : 0 ≤ m ∧ m ≤ 1000000) (x y z : Int) : frame_CheckSky_1 F m [x, y, z] = some (outP x (-m) m || (outP y (-m) m || outP z (-m) m)) := by
 unfold frame_CheckSky_1
 rw [hasI (p := fun n => outP n (-m) m) (fun n _ => by unfold frame_CheckSky_1_1; rw [out_eq, show W (0 - m) = -m by rw [W_id]; omega]; rfl) (by simp) (by simp; omega)]
 simp
def SeOk (t : FrFormat) (x : FrSensor) : Prop := (0 ≤ x.channel ∧ x.channel < t.channels.length) ∧ far 1000000 ⟨x.x, x.y, x.z⟩ ∧ (1 ≤ x.scale ∧ x.scale ≤ 1000) ∧ (0 ≤ x.error ∧ x.error ≤ 1000000)
structure SkyOk (t : FrFormat) (o : FrSky) : Prop where
 fm : FmOk t
 n : 1 ≤ o.dirs.length ∧ o.dirs.length ≤ 30
 s : o.sensors.length ≤ 6
 tu : -100000000 ≤ o.turn ∧ o.turn ≤ 100000000
 d : ∀ d ∈ o.dirs, far 10000 d ∧ o.turn ≤ dotP d d
 x : ∀ x ∈ o.sensors, SeOk t x
theorem far_f {m x y z : Int} (h : ¬ (outP x (-m) m || (outP y (-m) m || outP z (-m) m)) = true) : far m ⟨x, y, z⟩ := by
 have h' := eq_false_of_ne_true h
 rw [Bool.or_eq_false_iff, Bool.or_eq_false_iff, outP_f, outP_f, outP_f] at h'
 exact h'
theorem sky_L1 {F : Nat} {t : FrFormat} {o : FrSky} (hF : 1000 < F) (hc : t.channels.length ≤ 12) (hs : o.sensors.length ≤ 6) : ∀ n k : Nat, o.sensors.length < n + k → k ≤ o.sensors.length → (∀ x ∈ o.sensors.take k, SeOk t x) →
  ∃ r, frame_CheckSky_L1 F t o (fun _ => some (0, 0)) n k = some r ∧ (r.2 = 0 → ∀ x ∈ o.sensors, SeOk t x) := by
 intro n
 induction n with
 | zero => intro k h1 h2; omega
 | succ n ih =>
  intro k h1 h2 h3
  rw [frame_CheckSky_L1]
  by_cases hk : k < o.sensors.length
  ·rw [if_pos (by omega : (k : Int) < (o.sensors.length : Int)), ixO_nat hk, W_succ (by omega), Option.bind_some, out_eq, Option.bind_some, W_id (x := (t.channels.length : Int) - 1)]
   by_cases c1 : outP o.sensors[k].channel 0 ((t.channels.length : Int) - 1) = true
   ·rw [if_pos c1]; exact ⟨_, rfl, fun h => by cases h⟩
   rw [if_neg c1, far_eq hF 1000000 (by omega), Option.bind_some]
   by_cases c2 : (outP o.sensors[k].x (-1000000) 1000000 || (outP o.sensors[k].y (-1000000) 1000000 || outP o.sensors[k].z (-1000000) 1000000)) = true
   ·rw [if_pos c2]; exact ⟨_, rfl, fun h => by cases h⟩
   rw [if_neg c2, out_eq, Option.bind_some]
   by_cases c3 : outP o.sensors[k].scale 1 1000 = true
   ·rw [if_pos c3]; exact ⟨_, rfl, fun h => by cases h⟩
   rw [if_neg c3, out_eq, Option.bind_some]
   by_cases c4 : outP o.sensors[k].error 0 1000000 = true
   ·rw [if_pos c4]; exact ⟨_, rfl, fun h => by cases h⟩
   rw [if_neg c4]
   have c1' := outP_f.1 (eq_false_of_ne_true c1)
   refine ih (k + 1) (by omega) (by omega) fun x hx => ?_
   rw [List.take_succ_eq_append_getElem hk] at hx
   rcases List.mem_append.1 hx with h | h
   ·exact h3 x h
   ·rw [List.mem_singleton.1 h]; exact ⟨⟨c1'.1, by omega⟩, far_f c2, outP_f.1 (eq_false_of_ne_true c3), outP_f.1 (eq_false_of_ne_true c4)⟩
  ·rw [if_neg (by omega)]
   refine ⟨_, rfl, fun _ => ?_⟩
   rwa [List.take_of_length_le (by omega)] at h3
theorem sky_L2 {F : Nat} {o : FrSky} {K : Int → Option (Int × Int)} (hF : 1000 < F) (hs : o.dirs.length ≤ 30) {R : Int × Int → Prop} (hR : ∀ x y, y ≠ 0 → R (x, y)) (hK : (∀ d ∈ o.dirs, far 10000 d ∧ o.turn ≤ dotP d d) → ∀ x, ∃ r, K x = some r ∧ R r) : ∀ n k : Nat, o.dirs.length < n + k → k ≤ o.dirs.length → (∀ d ∈ o.dirs.take k, far 10000 d ∧ o.turn ≤ dotP d d) →
  ∃ r, frame_CheckSky_L2 F o K n k = some r ∧ R r := by
 intro n
 induction n with
 | zero => intro k h1 h2; omega
 | succ n ih =>
  intro k h1 h2 h3
  rw [frame_CheckSky_L2]
  by_cases hk : k < o.dirs.length
  ·rw [if_pos (by omega : (k : Int) < (o.dirs.length : Int)), ixO_nat hk, W_succ (by omega), Option.bind_some, far_eq hF 10000 (by omega), Option.bind_some]
   by_cases c2 : (outP o.dirs[k].x (-10000) 10000 || (outP o.dirs[k].y (-10000) 10000 || outP o.dirs[k].z (-10000) 10000)) = true
   ·rw [if_pos c2]; exact ⟨_, rfl, hR _ _ (by decide)⟩
   have hd : far 10000 o.dirs[k] := far_f c2
   rw [if_neg c2, times_eq hd (far_le hd), Option.bind_some]
   by_cases c3 : dotP o.dirs[k] o.dirs[k] < o.turn
   ·rw [if_pos c3]; exact ⟨_, rfl, hR _ _ (by decide)⟩
   rw [if_neg c3]
   refine ih (k + 1) (by omega) (by omega) fun x hx => ?_
   rw [List.take_succ_eq_append_getElem hk] at hx
   rcases List.mem_append.1 hx with h | h
   ·exact h3 x h
   ·rw [List.mem_singleton.1 h]; exact ⟨hd, by omega⟩
  ·rw [if_neg (by omega)]
   refine hK ?_ _
   rwa [List.take_of_length_le (by omega)] at h3
theorem sky_ex {F : Nat} {t : FrFormat} (hF : FmF F t) (o : FrSky) : ∃ r, frame_CheckSky F t o = some r ∧ (r.2 = 0 → SkyOk t o) := by
 have hf := hF.f
 obtain ⟨r0, e0, h0⟩ := check_ex hF
 unfold frame_CheckSky
 rw [e0, Option.bind_some]
 by_cases c0 : r0.2.2 = 0
 ·have hm := h0 c0
  have hc := hm.c
  rw [if_pos c0, out_eq, Option.bind_some]
  by_cases c1 : outP (o.dirs.length : Int) 1 30 = true
  ·rw [if_pos c1]; exact ⟨_, rfl, fun h => by cases h⟩
  have c1' := outP_f.1 (eq_false_of_ne_true c1)
  rw [if_neg c1]
  by_cases c2 : 6 < (o.sensors.length : Int)
  ·rw [if_pos c2]; exact ⟨_, rfl, fun h => by cases h⟩
  rw [if_neg c2, out_eq, Option.bind_some]
  by_cases c3 : outP o.turn (W (0 - 100000000)) 100000000 = true
  ·rw [if_pos c3]; exact ⟨_, rfl, fun h => by cases h⟩
  have c3' := outP_f.1 (eq_false_of_ne_true c3)
  rw [W_id] at c3'
  rw [if_neg c3]
  refine sky_L2 (R := fun r => r.2 = 0 → SkyOk t o) hf (by omega) (fun x y h h' => absurd h' h) (fun hd x => ?_) F 0 (by omega) (Nat.zero_le _) (fun d h => by cases h)
  obtain ⟨r, e1, h1⟩ := sky_L1 (F := F) (t := t) (o := o) hf hc (by omega) F 0 (by omega) (Nat.zero_le _) (fun d h => by cases h)
  exact ⟨r, e1, fun h => ⟨hm, by omega, by omega, by omega, hd, h1 h⟩⟩
 ·rw [if_neg c0]; exact ⟨_, rfl, fun h => absurd h c0⟩
section
variable {F : Nat} {t : FrFormat} {o : FrSky} (hs : SkyOk t o) {M : Int}
theorem turned_L1 {x : Nat} (hx : x < o.dirs.length) {K : Int → Int → Option Int} (hs : SkyOk t o) : ∀ n k : Nat, o.dirs.length < n + k → k ≤ o.dirs.length → ∀ to : Int, Msk to →
  ∃ to' y, frame_turned_L1 F o M x o.dirs[x] K n to k = K to' y ∧ Msk to' ∧ (∀ j : Nat, j < 32 → bitAt to j → bitAt to' j) ∧
   ((∃ l : Nat, ∃ hl : l < o.dirs.length, k ≤ l ∧ bitAt M l ∧ o.turn ≤ dotP o.dirs[l] o.dirs[x]) → bitAt to' x) := by
 intro n
 have hn := hs.n
 induction n with
 | zero => intro k h1 h2; omega
 | succ n ih =>
  intro k h1 h2 to ht
  rw [frame_turned_L1]
  by_cases hk : k < o.dirs.length
  ·rw [if_pos (by omega : (k : Int) < (o.dirs.length : Int)), ixO_nat hk, W_succ (by omega), Option.bind_some, if_neg (by omega : ¬ (k : Int) < 0)]
   have hg := ih (k + 1) (by omega) (by omega) to ht
   by_cases hb : 0 < iand .u32 (ishr .u32 M k) 1
   ·rw [if_pos hb, times_eq (hs.d _ (List.getElem_mem hk)).1 (far_le (hs.d _ (List.getElem_mem hx)).1), Option.bind_some]
    by_cases hd : o.turn ≤ dotP o.dirs[k] o.dirs[x]
    ·rw [if_pos hd, if_neg (by omega : ¬ (x : Int) < 0)]
     obtain ⟨m1, m2, m3⟩ := ht.or (k := x) (by omega)
     exact ⟨_, _, rfl, m1, m3, fun _ => m2⟩
    ·rw [if_neg hd]
     obtain ⟨to', y, g1, g2, g3, g4⟩ := hg
     refine ⟨to', y, g1, g2, g3, fun ⟨l, hl, l1, l2, l3⟩ => g4 ⟨l, hl, ?_, l2, l3⟩⟩
     rcases Nat.eq_or_lt_of_le l1 with e | e
     ·subst e; exact absurd l3 hd
     ·exact e
   ·rw [if_neg hb]
    obtain ⟨to', y, g1, g2, g3, g4⟩ := hg
    refine ⟨to', y, g1, g2, g3, fun ⟨l, hl, l1, l2, l3⟩ => g4 ⟨l, hl, ?_, l2, l3⟩⟩
    rcases Nat.eq_or_lt_of_le l1 with e | e
    ·subst e; exact absurd l2 hb
    ·exact e
  ·rw [if_neg (by omega)]
   exact ⟨to, _, rfl, ht, fun _ _ h => h, fun ⟨l, hl, l1, _⟩ => by omega⟩
theorem turned_L2 (hs : SkyOk t o) (hF : 1000 < F) : ∀ n k : Nat, o.dirs.length < n + k → k ≤ o.dirs.length → ∀ to : Int, Msk to →
  ∃ to', frame_turned_L2 F o M (fun to _ => some to) n to k = some to' ∧ Msk to' ∧ (∀ j : Nat, j < 32 → bitAt to j → bitAt to' j) ∧
   ∀ (x : Nat) (hx : x < o.dirs.length), k ≤ x → (∃ l : Nat, ∃ hl : l < o.dirs.length, bitAt M l ∧ o.turn ≤ dotP o.dirs[l] o.dirs[x]) → bitAt to' x := by
 intro n
 have hn := hs.n
 induction n with
 | zero => intro k h1 h2; omega
 | succ n ih =>
  intro k h1 h2 to ht
  rw [frame_turned_L2]
  by_cases hk : k < o.dirs.length
  ·rw [if_pos (by omega : (k : Int) < (o.dirs.length : Int)), ixO_nat hk, Option.bind_some]
   obtain ⟨to1, y, g1, g2, g3, g4⟩ := turned_L1 (F := F) (M := M) hk (K := fun (tov2 : Int) (x2 : Int) => frame_turned_L2 F o M (fun to _ => some to) n tov2 (W ((k : Int) + 1))) hs F 0 (by omega) (Nat.zero_le _) to ht
   rw [show ((0 : Nat) : Int) = 0 from rfl] at g1
   rw [g1, W_succ (by omega)]
   obtain ⟨to', e1, e2, e3, e4⟩ := ih (k + 1) (by omega) (by omega) to1 g2
   refine ⟨to', e1, e2, fun j hj h => e3 j hj (g3 j hj h), fun x hx hkx hl => ?_⟩
   rcases Nat.eq_or_lt_of_le hkx with e | e
   ·subst e
    obtain ⟨l, hl, l2, l3⟩ := hl
    exact e3 _ (by omega) (g4 ⟨l, hl, Nat.zero_le _, l2, l3⟩)
   ·exact e4 x hx e hl
  ·rw [if_neg (by omega)]
   exact ⟨to, rfl, ht, fun _ _ h => h, fun x hx hk' => by omega⟩
theorem turned_ex (hs : SkyOk t o) (hF : 1000 < F) : ∃ to', frame_turned F o M = some to' ∧ Msk to' ∧
   ∀ (x : Nat) (hx : x < o.dirs.length), (∃ l : Nat, ∃ hl : l < o.dirs.length, bitAt M l ∧ o.turn ≤ dotP o.dirs[l] o.dirs[x]) → bitAt to' x := by
 have hn := hs.n
 obtain ⟨to', e1, e2, _, e4⟩ := turned_L2 (F := F) (M := M) hs hF F 0 (by omega) (Nat.zero_le _) 0 Msk.zero
 exact ⟨to', e1, e2, fun x hx h => e4 x hx (Nat.zero_le _) h⟩
end
end Go.Proofs.Ytjnnkcnnandeeaa
open Go Go.Proofs.Ytjnnkcnnandeeaa.Sh Go.Proofs
namespace Go.Proofs.Ytjnnkcnnandeeaa
theorem ixO_getD {α : Type} {l : List α} {i : Int} (d : α) (h0 : 0 ≤ i) (h : i < l.length) : ixO l i = some (l.getD i.toNat d) ∧ l.getD i.toNat d ∈ l := by
 obtain ⟨k, hk, rfl, e⟩ := ixO_int h0 h
 rw [e, Int.toNat_natCast, List.getD_eq_getElem?_getD, List.getElem?_eq_getElem hk]
 exact ⟨rfl, List.getElem_mem hk⟩
def chan (t : FrFormat) (x : FrSensor) : FrChannel := t.channels.getD x.channel.toNat default
def seen (t : FrFormat) (x : FrSensor) (num : Int) : Prop := Int.tmod num (chan t x).every = (chan t x).phase
def prodP (d : FlDir) (x : FrSensor) : Int := if x.sun = true then max (dotP d ⟨x.x, x.y, x.z⟩) 0 else dotP d ⟨x.x, x.y, x.z⟩
def offN (d : FlDir) (x : FrSensor) (w : Int) : Int := prodP d x - 10000 * x.scale * (w - 32768)
def agr (d : FlDir) (x : FrSensor) (w : Int) : Prop := -(10000 * x.error) ≤ offN d x w ∧ offN d x w ≤ 10000 * x.error
def FitP (t : FrFormat) (o : FrSky) (d : FlDir) (num : Int) (ws : List Int) : Prop := ∀ x ∈ o.sensors, seen t x num → agr d x (ws.getD (chan t x).word.toNat 0)
def WdOk (t : FrFormat) (ws : List Int) : Prop := (ws.length : Int) = t.words ∧ ∀ w ∈ ws, 0 ≤ w ∧ w ≤ 65535
theorem prod_le {d : FlDir} {x : FrSensor} (hd : far 10000 d) (hx : far 1000000 ⟨x.x, x.y, x.z⟩) : -30000000000 ≤ prodP d x ∧ prodP d x ≤ 30000000000 := by
 have := (dotW hd hx).2
 unfold prodP
 split <;> omega
theorem scaleB {t : FrFormat} {x : FrSensor} (hx : SeOk t x) {w : Int} (hw : 0 ≤ w ∧ w ≤ 65535) : -327680000000 ≤ 10000 * x.scale * (w - 32768) ∧ 10000 * x.scale * (w - 32768) ≤ 327680000000 := by
 have h3 := hx.2.2.1
 have := mulB (x := 10000 * x.scale) (y := w - 32768) (A := 10000000) (B := 32768) (by omega) (by omega)
 omega
theorem offW {t : FrFormat} {d : FlDir} {x : FrSensor} {w p : Int} (hd : far 10000 d) (hx : SeOk t x) (hw : 0 ≤ w ∧ w ≤ 65535) (hp : p = prodP d x) :
  W (p - (W ((W (10000 * x.scale)) * (W (w - 32768))))) = offN d x w ∧ -1000000000000 ≤ offN d x w ∧ offN d x w ≤ 1000000000000 := by
 have h1 := prod_le hd hx.2.1
 have h2 := scaleB hx hw
 have h3 := hx.2.2.1
 subst hp
 rw [W_id (x := 10000 * x.scale), W_id (x := w - 32768)]
 unfold offN
 generalize 10000 * x.scale * (w - 32768) = z at *
 generalize prodP d x = p at *
 rw [W_id (x := z), W_id]
 exact ⟨rfl, by omega, by omega⟩
theorem in_eq {F : Nat} {c : FrChannel} (h : 1 ≤ c.every) (n : Int) : frame_in F c n = some (decide (Int.tmod n c.every = c.phase)) := by
 unfold frame_in; rw [if_neg (by omega)]
theorem fits_L1 {F : Nat} {t : FrFormat} {o : FrSky} (hs : SkyOk t o) {d : FlDir} (hd : far 10000 d) {r : FrReport} (hr : WdOk t r.words) : ∀ n k : Nat, o.sensors.length < n + k → k ≤ o.sensors.length →
  ∃ b, frame_fits_L1 F t o d r (fun _ => some true) n k = some b ∧ (FitP t o d r.number r.words → b = true) := by
 intro n
 have hsl := hs.s
 induction n with
 | zero => intro k h1 h2; omega
 | succ n ih =>
  intro k h1 h2
  rw [frame_fits_L1]
  by_cases hk : k < o.sensors.length
  ·have hm := List.getElem_mem hk
   rw [if_pos (by omega : (k : Int) < (o.sensors.length : Int)), ixO_nat hk, W_succ (by omega), Option.bind_some]
   have hx := hs.x _ hm
   obtain ⟨c1, c2⟩ : ixO t.channels o.sensors[k].channel = some (chan t o.sensors[k]) ∧ chan t o.sensors[k] ∈ t.channels := ixO_getD (l := t.channels) default hx.1.1 hx.1.2
   have hc := hs.fm.a _ c2
   rw [c1, Option.bind_some]
   rw [in_eq hc.1, Option.bind_some]
   have hg := ih (k + 1) (by omega) (by omega)
   by_cases hi : decide (Int.tmod r.number (chan t o.sensors[k]).every = (chan t o.sensors[k]).phase) = true
   ·have hi' := of_decide_eq_true hi
    rw [if_pos hi, times_eq hd hx.2.1, Option.bind_some]
    obtain ⟨w1, w2⟩ := ixO_getD (l := r.words) (i := (chan t o.sensors[k]).word) 0 hc.2.1 (by have := hr.1; have := hc.2.2; omega)
    have hw := hr.2 _ w2
    have main : ∀ p, p = prodP d o.sensors[k] → ∃ b, (Option.bind (ixO r.words (chan t o.sensors[k]).word) fun e3 => Option.bind (frame_out_int F (W (p - (W ((W (10000 * o.sensors[k].scale)) * (W (e3 - 32768)))))) (W ((-10000) * o.sensors[k].error)) (W (10000 * o.sensors[k].error))) fun rv4 => if rv4 = true then (some false) else (frame_fits_L1 F t o d r (fun _ => some true) n ((k + 1 : Nat) : Int))) = some b ∧ (FitP t o d r.number r.words → b = true) := by
     intro p hp
     have he := hx.2.2.2
     rw [w1, Option.bind_some, (offW hd hx hw hp).1, out_eq, Option.bind_some, W_id (x := (-10000) * o.sensors[k].error), W_id (x := 10000 * o.sensors[k].error)]
     by_cases ho : outP (offN d o.sensors[k] (r.words.getD (chan t o.sensors[k]).word.toNat 0)) ((-10000) * o.sensors[k].error) (10000 * o.sensors[k].error) = true
     ·rw [if_pos ho]
      refine ⟨_, rfl, fun hf => ?_⟩
      have := hf _ hm hi'
      unfold agr at this
      rw [outP_f.2 (by omega)] at ho
      cases ho
     ·rw [if_neg ho]; exact hg
    by_cases hsun : o.sensors[k].sun = true
    ·rw [if_pos hsun]; exact main _ (by unfold prodP; rw [if_pos hsun])
    ·rw [if_neg hsun]; exact main _ (by unfold prodP; rw [if_neg hsun])
   ·rw [if_neg hi]; exact hg
  ·rw [if_neg (by omega)]; exact ⟨_, rfl, fun _ => rfl⟩
theorem fits_ex {F : Nat} (hF : 1000 < F) {t : FrFormat} {o : FrSky} (hs : SkyOk t o) {d : FlDir} (hd : far 10000 d) {r : FrReport} (hr : WdOk t r.words) :
  ∃ b, frame_fits F t o d r = some b ∧ (FitP t o d r.number r.words → b = true) := by
 have := hs.s
 exact fits_L1 hs hd hr F 0 (by omega) (Nat.zero_le _)
theorem ax_L1 {F : Nat} {t : FrFormat} {o : FrSky} (hs : SkyOk t o) {e : FrReport} {num : Int} {k0 : Nat} (hk0 : k0 < o.dirs.length) {K : Int → List Int → Int → Option (List FrAxes × Int)}
  (hex : ∀ d ∈ o.dirs, ∃ b, frame_fits F t o d e = some b) (hfit : num = e.number → e.marked = true ∨ frame_fits F t o o.dirs[k0] e = some true) :
  ∀ n k : Nat, o.dirs.length < n + k → k ≤ o.dirs.length → ∀ (x : Int) (lv : List Int), Msk x → lv.length ≤ k → bitAt x k0 → (k0 < k → (k0 : Int) ∈ lv) →
  ∃ x' lv' y, frame_Axes_L1 F t o e num K n x lv k = K x' lv' y ∧ Msk x' ∧ bitAt x' k0 ∧ (k0 : Int) ∈ lv' ∧ lv'.length ≤ 30 := by
 intro n
 have hn := hs.n
 induction n with
 | zero => intro k h1 h2; omega
 | succ n ih =>
  intro k h1 h2 x lv hm hl hb hin
  rw [frame_Axes_L1]
  by_cases hk : k < o.dirs.length
  ·rw [if_pos (by omega : (k : Int) < (o.dirs.length : Int)), ixO_nat hk, Option.bind_some]
   have step : ∀ x1, Msk x1 → bitAt x1 k0 → ∃ x' lv' y, frame_Axes_J1 F (frame_Axes_L1 F t o e num K n) lv k x1 = K x' lv' y ∧ Msk x' ∧ bitAt x' k0 ∧ (k0 : Int) ∈ lv' ∧ lv'.length ≤ 30 := by
    intro x1 m1 b1
    unfold frame_Axes_J1
    rw [if_neg (by omega : ¬ (k : Int) < 0), W_succ (by omega)]
    by_cases hbk : 0 < iand .u32 (ishr .u32 x1 k) 1
    ·rw [if_pos hbk, app_one (by omega), Option.bind_some]
     refine ih (k + 1) (by omega) (by omega) x1 _ m1 (by simp; omega) b1 fun h => ?_
     rcases Nat.eq_or_lt_of_le (Nat.le_of_lt_succ h) with h' | h'
     ·rw [h']; simp
     ·exact List.mem_append_left _ (hin h')
    ·rw [if_neg hbk]
     refine ih (k + 1) (by omega) (by omega) x1 _ m1 (by omega) b1 fun h => ?_
     rcases Nat.eq_or_lt_of_le (Nat.le_of_lt_succ h) with h' | h'
     ·subst h'; exact absurd b1 hbk
     ·exact hin h'
   by_cases hnum : num = e.number
   ·rw [if_pos hnum]
    by_cases hmk : e.marked = true
    ·rw [if_pos hmk]; exact step x hm hb
    ·rw [if_neg hmk]
     obtain ⟨b, hbv⟩ := hex _ (List.getElem_mem hk)
     rw [hbv, Option.bind_some]
     by_cases hbt : b = true
     ·rw [if_pos hbt]; exact step x hm hb
     ·rw [if_neg hbt, if_neg (by omega : ¬ (k : Int) < 0)]
      have hne : k0 ≠ k := by
       intro he
       subst he
       rcases hfit hnum with h | h
       ·exact hmk h
       ·rw [hbv] at h; injection h with h; exact hbt h
      obtain ⟨m1, m2⟩ := hm.clear (k := k) (by omega)
      exact step _ m1 (m2 k0 (by omega) hne hb)
   ·rw [if_neg hnum]; exact step x hm hb
  ·rw [if_neg (by omega)]
   exact ⟨x, lv, _, rfl, hm, hb, hin (by omega), by omega⟩
structure Given (t : FrFormat) (o : FrSky) (first : Int) (ax : Nat → Nat) (a : List FrReport) : Prop where
 f : 0 ≤ first ∧ first ≤ 65535
 lt : ∀ j, ax j < o.dirs.length
 near : ∀ j, o.turn ≤ dotP (o.dirs[ax j]'(lt j)) (o.dirs[ax (j + 1)]'(lt (j + 1)))
 r : ∀ r ∈ a, WdOk t r.words ∧ ∃ j : Nat, r.number = first + j ∧ j < 100 ∧ (r.marked = true ∨ FitP t o (o.dirs[ax j]'(lt j)) r.number r.words)
 up : ∀ (i : Nat) (h : i + 1 < a.length), a[i].number < a[i + 1].number
 z : ∀ (h : 0 < a.length), a[0].number = first
structure Inv (o : FrSky) (first : Int) (ax : Nat → Nat) (y : List FrAxes) (x : Int) : Prop where
 e : ∀ (j : Nat) (h : j < y.length), y[j].number = first + j ∧ (ax j : Int) ∈ y[j].dirs ∧ y[j].dirs.length ≤ 30
 m : Msk x
 z : y = [] → ∀ k : Nat, k < o.dirs.length → bitAt x k
 s : ∀ m, y.length = m + 1 → bitAt x (ax m)
section
variable {F : Nat} {t : FrFormat} {o : FrSky} {first : Int} {ax : Nat → Nat} {a : List FrReport}
theorem ax_J2 (hF : 1000 < F) (hs : SkyOk t o) (hg : Given t o first ax a) {e : FrReport} (he : e ∈ a) {B : List FrAxes → Int → Int → Option (List FrAxes × Int)} {y : List FrAxes} {x x0 : Int} (hi : Inv o first ax y x0) (hm : Msk x) (hb : bitAt x (ax y.length)) (hl : y.length < 1000) :
  ∃ y' x', frame_Axes_J2 F B t o e y (first + y.length) x = B y' x' (first + y'.length) ∧ Inv o first ax y' x' ∧ y'.length = y.length + 1 := by
 have hn := hs.n
 obtain ⟨hw, j, hj, hj2, hfit⟩ := hg.r e he
 unfold frame_Axes_J2
 obtain ⟨x', lv', yy, g1, g2, g3, g4, g5⟩ := ax_L1 (F := F) hs (e := e) (num := first + y.length) (hg.lt y.length) (K := fun (x7 : Int) (lv : (List Int)) (x8 : Int) => Option.bind (appO y [(FrAxes.mk (first + y.length) lv)]) fun q2 => B q2 x7 (W ((first + y.length) + 1)))
  (fun d hd => let ⟨b, hb, _⟩ := fits_ex hF hs (hs.d d hd).1 hw; ⟨b, hb⟩)
  (fun hnum => by
   obtain rfl : j = y.length := by omega
   rcases hfit with h | h
   ·exact .inl h
   ·obtain ⟨b, h1, h2⟩ := fits_ex hF hs (hs.d _ (List.getElem_mem (hg.lt y.length))).1 hw
    rw [h2 h] at h1
    exact .inr h1) F 0 (by omega) (Nat.zero_le _) x [] hm (Nat.le_refl _) hb (fun h => absurd h (Nat.not_lt_zero _))
 rw [show ((0 : Nat) : Int) = 0 from rfl] at g1
 rw [g1]
 have hf := hg.f
 rw [app_one (by omega), Option.bind_some, W_id]
 refine ⟨y ++ [FrAxes.mk (first + y.length) lv'], x', by rw [List.length_append, List.length_singleton]; congr 1; omega, ⟨fun i h => ?_, g2, fun h => by simp at h, fun m h => ?_⟩, by simp⟩
 ·by_cases hlt : i < y.length
  ·rw [List.getElem_append_left hlt]; exact hi.e i hlt
  ·have : i = y.length := by simp at h; omega
   subst this
   rw [List.getElem_concat_length rfl]
   exact ⟨rfl, g4, g5⟩
 ·have : m = y.length := by simp at h; omega
  rw [this]; exact g3
theorem ax_L2 (hF : 1000 < F) (hs : SkyOk t o) (hg : Given t o first ax a) {e : FrReport} (he : e ∈ a) {K : List FrAxes → Int → Int → Option (List FrAxes × Int)} :
  ∀ (n : Nat) (y : List FrAxes) (x : Int), (e.number + 1 - (first + y.length)).toNat < n → first + y.length ≤ e.number + 1 → Inv o first ax y x →
  ∃ y' x' z, frame_Axes_L2 F t o e K n y x (first + y.length) = K y' x' z ∧ Inv o first ax y' x' ∧ first + y'.length = e.number + 1 := by
 intro n
 obtain ⟨hw, j, hj, hj2, hfit⟩ := hg.r e he
 induction n with
 | zero => intro y x h; omega
 | succ n ih =>
  intro y x h1 h2 hi
  rw [frame_Axes_L2]
  by_cases hle : first + y.length ≤ e.number
  ·rw [if_pos hle]
   have fin : ∀ x1, Msk x1 → bitAt x1 (ax y.length) → ∃ y' x' z, frame_Axes_J2 F (frame_Axes_L2 F t o e K n) t o e y (first + y.length) x1 = K y' x' z ∧ Inv o first ax y' x' ∧ first + y'.length = e.number + 1 := by
    intro x1 m1 b1
    obtain ⟨y', x', g1, g2, g3⟩ := ax_J2 (B := frame_Axes_L2 F t o e K n) hF hs hg he hi m1 b1 (by omega)
    rw [g1]
    exact ih y' x' (by omega) (by omega) g2
   by_cases h0 : 0 < (y.length : Int)
   ·rw [if_pos h0]
    obtain ⟨m, hm⟩ : ∃ m, y.length = m + 1 := ⟨y.length - 1, by omega⟩
    obtain ⟨x1, t1, t2, t3⟩ := turned_ex (F := F) (M := x) hs hF
    rw [t1, Option.bind_some]
    refine fin x1 t2 ?_
    rw [hm]
    exact t3 _ (hg.lt (m + 1)) ⟨ax m, hg.lt m, hi.s m hm, hg.near m⟩
   ·rw [if_neg h0]
    have hy : y = [] := List.eq_nil_of_length_eq_zero (by omega)
    exact fin x hi.m (hi.z hy _ (hg.lt _))
  ·rw [if_neg hle]
   exact ⟨y, x, _, rfl, hi, by omega⟩
theorem ax_L3 (hF : 1000 < F) (hs : SkyOk t o) (hg : Given t o first ax a) (ha : a.length < 1000) :
  ∀ (n k : Nat), a.length < n + k → ∀ (_h2 : k ≤ a.length) (y : List FrAxes) (x : Int), Inv o first ax y x → (k = 0 → y = []) → (∀ (h : 0 < k), first + y.length = (a[k - 1]'(by omega)).number + 1) →
  ∃ y' x', frame_Axes_L3 F t o a (fun y _ _ => some (y, 0)) n y x k = some (y', 0) ∧ Inv o first ax y' x' ∧ ∀ (h : 0 < a.length), first + y'.length = (a[a.length - 1]'(by omega)).number + 1 := by
 intro n
 induction n with
 | zero => intro k h1 h2; omega
 | succ n ih =>
  intro k h1 h2 y x hi h0 hk'
  rw [frame_Axes_L3]
  by_cases hk : k < a.length
  ·rw [if_pos (by omega : (k : Int) < (a.length : Int)), ixO_nat hk, Option.bind_some]
   have hm := List.getElem_mem hk
   obtain ⟨hw, j, hj, hj2, hfit⟩ := hg.r _ hm
   have hf := hg.f
   have fin : first + y.length ≤ a[k].number + 1 → ∃ y' x', frame_Axes_J3 F (frame_Axes_L3 F t o a (fun y _ _ => some (y, 0)) n) t o y x k a[k] (first + y.length) = some (y', 0) ∧ Inv o first ax y' x' ∧ ∀ (h : 0 < a.length), first + y'.length = (a[a.length - 1]'(by omega)).number + 1 := by
    intro hle
    unfold frame_Axes_J3
    obtain ⟨y1, x1, z, g1, g2, g3⟩ := ax_L2 hF hs hg hm (K := fun (y2 : (List FrAxes)) (x4 : Int) (x5 : Int) => frame_Axes_L3 F t o a (fun y _ _ => some (y, 0)) n y2 x4 (W ((k : Int) + 1))) F y x (by omega) hle hi
    rw [g1]
    rw [W_succ (by omega)]
    exact ih (k + 1) (by omega) (by omega) y1 x1 g2 (fun h => by omega) (fun _ => g3)
   by_cases hp : 0 < (k : Int)
   ·have hp' : 0 < k := by omega
    have e1 := hk' hp'
    have e2 : (a[k - 1]'(by omega)).number < a[k].number := by
     have := hg.up (k - 1) (by omega)
     simpa only [Nat.sub_add_cancel hp'] using this
    obtain ⟨_, j', hj', hj3, _⟩ := hg.r _ (List.getElem_mem (show k - 1 < a.length by omega))
    rw [if_pos hp, W_id (x := (k : Int) - 1), show ((k : Int) - 1) = ((k - 1 : Nat) : Int) by omega, ixO_nat (show k - 1 < a.length by omega), Option.bind_some, W_id, ← e1]
    exact fin (by omega)
   ·rw [if_neg hp]
    have hk0 : k = 0 := by omega
    subst hk0
    have hy := h0 rfl
    subst hy
    have := hg.z (by omega)
    have h3 := fin (by rw [this]; simp; omega)
    simpa [this] using h3
  ·rw [if_neg (by omega)]
   refine ⟨y, x, rfl, hi, fun h => ?_⟩
   have : k = a.length := by omega
   subst this
   exact hk' h
end
end Go.Proofs.Ytjnnkcnnandeeaa
open Go Go.Proofs.Ytjnnkcnnandeeaa.Sh Go.Proofs
namespace Go.Proofs.Ytjnnkcnnandeeaa
section
variable {F : Nat} {t : FrFormat} {o : FrSky} {first : Int} {ax : Nat → Nat} {a : List FrReport}
theorem bad_eq (hF : 1000 < F) {l : List Int} (hl : l.length ≤ 100) (h : ∀ w ∈ l, 0 ≤ w ∧ w ≤ 65535) : frame_bad F l = some false := by
 unfold frame_bad
 rw [hasI (p := fun n => outP n 0 65535) (fun n _ => by unfold frame_bad_1; rw [out_eq]; rfl) (by omega) (by omega), Option.bind_some]
 congr 1
 rw [List.any_eq_false]
 intro w hw
 rw [outP_f.2 (h w hw)]
 decide
theorem rep_L1 (hF : 1000 < F) (hs : SkyOk t o) (hg : Given t o first ax a) (ha : a.length < 1000) {K : Int → Option Int} : ∀ n k : Nat, a.length < n + k → k ≤ a.length → frame_reports_L1 F a K n k = K (a.length : Int) := by
 intro n
 have hw := hs.fm.w
 induction n with
 | zero => intro k h1 h2; omega
 | succ n ih =>
  intro k h1 h2
  rw [frame_reports_L1]
  by_cases hk : k < a.length
  ·obtain ⟨hwd, j, hj, hj2, _⟩ := hg.r _ (List.getElem_mem hk)
   have hf := hg.f
   rw [if_pos (by omega : (k : Int) < (a.length : Int)), ixO_nat hk, Option.bind_some, out_eq, Option.bind_some, outP_f.2 (by omega), if_neg Bool.false_ne_true, bad_eq hF (by have := hwd.1; omega) hwd.2, Option.bind_some, if_neg Bool.false_ne_true, W_succ (by omega)]
   exact ih (k + 1) (by omega) (by omega)
  ·rw [if_neg (by omega), show k = a.length by omega]
theorem rep_L2 (hF : 1000 < F) (hg : Given t o first ax a) (ha : a.length < 1000) {K : Int → Option Int} : ∀ n k : Nat, a.length < n + k → k ≤ a.length → frame_reports_L2 F t a K n k = K (a.length : Int) := by
 intro n
 induction n with
 | zero => intro k h1 h2; omega
 | succ n ih =>
  intro k h1 h2
  rw [frame_reports_L2]
  by_cases hk : k < a.length
  ·obtain ⟨hwd, j, hj, hj2, _⟩ := hg.r _ (List.getElem_mem hk)
   rw [if_pos (by omega : (k : Int) < (a.length : Int)), ixO_nat hk, Option.bind_some, if_pos hwd.1, W_succ (by omega)]
   have hi := ih (k + 1) (by omega) (by omega)
   by_cases hp : 0 < (k : Int)
   ·have hp' : 0 < k := by omega
    have e2 : (a[k - 1]'(by omega)).number < a[k].number := by
     have := hg.up (k - 1) (by omega)
     simpa only [Nat.sub_add_cancel hp'] using this
    rw [if_pos hp, W_id (x := (k : Int) - 1), show ((k : Int) - 1) = ((k - 1 : Nat) : Int) by omega, ixO_nat (show k - 1 < a.length by omega), Option.bind_some, if_neg (by omega)]
    exact hi
   ·rw [if_neg hp]; exact hi
  ·rw [if_neg (by omega), show k = a.length by omega]
theorem reports_eq (hF : 1000 < F) (hs : SkyOk t o) (hg : Given t o first ax a) (ha : a.length < 1000) : frame_reports F t a = some 0 := by
 unfold frame_reports
 have h1 := rep_L2 (K := fun (x : Int) => frame_reports_L1 F a (fun (x2 : Int) => if 0 < (a.length : Int) then (Option.bind (ixO a (W ((a.length : Int) - 1))) fun e4 => Option.bind (ixO a 0) fun e5 => if 300 < (W (e4.number - e5.number)) then (some 3) else (some 0)) else (some 0)) F 0) hF hg ha F 0 (by omega) (Nat.zero_le _)
 rw [show ((0 : Nat) : Int) = 0 from rfl] at h1
 rw [h1]
 have h2 := rep_L1 (K := fun (x2 : Int) => if 0 < (a.length : Int) then (Option.bind (ixO a (W ((a.length : Int) - 1))) fun e4 => Option.bind (ixO a 0) fun e5 => if 300 < (W (e4.number - e5.number)) then (some 3) else (some 0)) else (some 0)) hF hs hg ha F 0 (by omega) (Nat.zero_le _)
 rw [show ((0 : Nat) : Int) = 0 from rfl] at h2
 rw [h2]
 by_cases h0 : 0 < (a.length : Int)
 ·have e0 : ixO a 0 = some (a[0]'(by omega)) := ixO_nat (k := 0) (by omega)
  rw [if_pos h0, W_id, show ((a.length : Int) - 1) = ((a.length - 1 : Nat) : Int) by omega, ixO_nat (show a.length - 1 < a.length by omega), Option.bind_some, e0, Option.bind_some]
  obtain ⟨_, j, hj, hj2, _⟩ := hg.r _ (List.getElem_mem (show a.length - 1 < a.length by omega))
  have hz := hg.z (by omega)
  have hf := hg.f
  rw [if_neg]
  rw [W_id] <;> omega
 ·rw [if_neg h0]
theorem Axes_eq (hF : FmF F t) {rv : Int × Int} (hrv : frame_CheckSky F t o = some rv) (h0 : rv.2 = 0) (hs : SkyOk t o) (hg : Given t o first ax a) (ha : a.length < 1000) (hp : 0 < a.length) :
  ∃ y, frame_Axes F t o a = some (y, 0) ∧ (∀ (j : Nat) (h : j < y.length), y[j].number = first + j ∧ (ax j : Int) ∈ y[j].dirs ∧ y[j].dirs.length ≤ 30) ∧ first + y.length = (a[a.length - 1]'(by omega)).number + 1 := by
 have hf := hF.f
 have hn := hs.n
 unfold frame_Axes
 rw [hrv, Option.bind_some, if_pos h0, reports_eq hf hs hg ha, Option.bind_some, if_pos rfl, if_neg (by omega)]
 obtain ⟨m1, m2⟩ := Msk.all (n := o.dirs.length) (by omega)
 obtain ⟨y', x', e1, e2, e3⟩ := ax_L3 hf hs hg ha F 0 (by omega) (Nat.zero_le _) [] _ ⟨fun j h => absurd h (Nat.not_lt_zero _), m1, fun _ => m2, fun m h => by simp at h⟩ (fun _ => rfl) (fun h => absurd h (Nat.lt_irrefl _))
 rw [show ((0 : Nat) : Int) = 0 from rfl] at e1
 exact ⟨y', e1, e2.e, e3 hp⟩
end
end Go.Proofs.Ytjnnkcnnandeeaa
open Go Go.Proofs.Ytjnnkcnnandeeaa.Sh Go.Proofs
namespace Go.Proofs.Ytjnnkcnnandeeaa
structure Half (t : FrFormat) (o : FrSky) (d : FlDir) (num : Int) (k : Nat) (ws : List Int) (st : List Bool) (good : Bool) : Prop where
 w : WdOk t ws
 l : st.length = ws.length
 s : ∀ (j : Nat) (hj : j < o.sensors.length), j < k → seen t o.sensors[j] num → st.getD (chan t o.sensors[j]).word.toNat false = true ∧ (good = true → agr d o.sensors[j] (ws.getD (chan t o.sensors[j]).word.toNat 0))
structure SpinOk (a : Spin) : Prop where
 f : 0 ≤ a.first ∧ a.first ≤ 65535
 m : 0 ≤ a.many ∧ a.many ≤ 255
 s : ∀ e ∈ a.steps, 0 ≤ e ∧ e ≤ 255
 l : ∀ e ∈ a.lost, 0 ≤ e ∧ e ≤ 255
 w : ∀ e ∈ a.wrong, -128 ≤ e ∧ e ≤ 127
section
variable {F : Nat} {t : FrFormat} {o : FrSky} {a : Spin} {d : FlDir} {num : Int} {k : Nat} {ws : List Int} {st : List Bool} {good : Bool} {G : Option Bool → Prop} {B : List Int → Bool → List Bool → Int → Option Bool}
theorem Half.skip (h : Half t o d num k ws st good) (hk : k < o.sensors.length) (hn : ¬ seen t o.sensors[k] num) : Half t o d num (k + 1) ws st good :=
 ⟨h.w, h.l, fun j hj hlt hs => by
  rcases Nat.eq_or_lt_of_le (Nat.le_of_lt_succ hlt) with e | e
  ·subst e; exact absurd hs hn
  ·exact h.s j hj e hs⟩
theorem Half.next {good' : Bool} (h : Half t o d num k ws st good) (hk : k < o.sensors.length) (hst : st.getD (chan t o.sensors[k]).word.toNat false = true)
  (hg : good' = true → good = true ∧ agr d o.sensors[k] (ws.getD (chan t o.sensors[k]).word.toNat 0)) : Half t o d num (k + 1) ws st good' :=
 ⟨h.w, h.l, fun j hj hlt hs => by
  rcases Nat.eq_or_lt_of_le (Nat.le_of_lt_succ hlt) with e | e
  ·subst e; exact ⟨hst, fun h' => (hg h').2⟩
  ·obtain ⟨h1, h2⟩ := h.s j hj e hs
   exact ⟨h1, fun h' => h2 (hg h').1⟩⟩
theorem getD_set {α : Type} (l : List α) (i j : Nat) (v d : α) (h : i < l.length) : (l.set i v).getD j d = if j = i then v else l.getD j d := by
 rw [List.getD_eq_getElem?_getD, List.getElem?_set, List.getD_eq_getElem?_getD]
 by_cases e : i = j
 ·rw [if_pos e, if_pos e.symm, if_pos h]; rfl
 ·rw [if_neg e, if_neg (Ne.symm e)]
theorem Half.lay {p : Nat} {v : Int} (h : Half t o d num k ws st good) (hp : p < ws.length) (hs0 : st.getD p false = false) (hv : 0 ≤ v ∧ v ≤ 65535) : Half t o d num k (ws.set p v) (st.set p true) good :=
 ⟨⟨by rw [List.length_set]; exact h.w.1, fun y hy => by
   rcases List.mem_or_eq_of_mem_set hy with hy | hy
   ·exact h.w.2 y hy
   ·rw [hy]; exact hv⟩, by rw [List.length_set, List.length_set]; exact h.l, fun j hj hlt hs => by
  obtain ⟨h1, h2⟩ := h.s j hj hlt hs
  have hne : (chan t o.sensors[j]).word.toNat ≠ p := fun e => by rw [e, hs0] at h1; cases h1
  rw [getD_set _ _ _ _ _ (by have := h.l; omega), if_neg hne, getD_set _ _ _ _ _ hp, if_neg hne]
  exact ⟨h1, h2⟩⟩
theorem wd_ix {ws : List Int} (hw : WdOk t ws) {c : FrChannel} (hc : ChOk t c) : c.word.toNat < ws.length ∧ ixO ws c.word = some (ws.getD c.word.toNat 0) ∧ ws.getD c.word.toNat 0 ∈ ws := by
 have h1 := hw.1
 have h2 := hc.2
 obtain ⟨e1, e2⟩ := ixO_getD (l := ws) (i := c.word) 0 hc.2.1 (by omega)
 exact ⟨by omega, e1, e2⟩
theorem J1_ok (hs : SkyOk t o) (hd : far 10000 d) (hk : k < o.sensors.length) (hB : ∀ ws st good, Half t o d num (k + 1) ws st good → G (B ws good st ((k + 1 : Nat) : Int)))
  {p : Int} (hp : p = prodP d o.sensors[k]) (h : Half t o d num k ws st good) (hst : st.getD (chan t o.sensors[k]).word.toNat false = true) (hc : ChOk t (chan t o.sensors[k])) :
  G (hangfirelaw09_FrameAxis_J1 F B good k o.sensors[k] (chan t o.sensors[k]) p ws st) := by
 have hx := hs.x _ (List.getElem_mem hk)
 obtain ⟨i1, i2, i3⟩ := wd_ix h.w hc
 have hw := h.w.2 _ i3
 obtain ⟨o1, o2, o3⟩ := offW hd hx hw hp
 have he := hx.2.2.2
 have hsl := hs.s
 unfold hangfirelaw09_FrameAxis_J1
 rw [i2, Option.bind_some, o1, W_id (x := 10000 * o.sensors[k].error), W_id (x := 0 - _), W_succ (by omega)]
 have hf : G (B ws false st ((k + 1 : Nat) : Int)) := hB _ _ _ (h.next hk hst fun h' => by cases h')
 by_cases c1 : good = true
 ·rw [if_pos c1]
  by_cases c2 : offN d o.sensors[k] (ws.getD (chan t o.sensors[k]).word.toNat 0) ≤ 10000 * o.sensors[k].error
  ·rw [if_pos c2]
   by_cases c3 : 0 - offN d o.sensors[k] (ws.getD (chan t o.sensors[k]).word.toNat 0) ≤ 10000 * o.sensors[k].error
   ·rw [if_pos c3]
    exact hB _ _ _ (h.next hk hst fun _ => ⟨c1, by unfold agr; omega⟩)
   ·rw [if_neg c3]; exact hf
  ·rw [if_neg c2]; exact hf
 ·rw [if_neg c1]; exact hf
theorem J2_ok (hs : SkyOk t o) (hd : far 10000 d) (hk : k < o.sensors.length) (hB : ∀ ws st good, Half t o d num (k + 1) ws st good → G (B ws good st ((k + 1 : Nat) : Int)))
  {p q : Int} (hp : p = prodP d o.sensors[k]) (h : Half t o d num k ws st good) (hst : st.getD (chan t o.sensors[k]).word.toNat false = false) (hc : ChOk t (chan t o.sensors[k])) :
  G (hangfirelaw09_FrameAxis_J2 F B ws good st k o.sensors[k] (chan t o.sensors[k]) p q) := by
 have hx := hs.x _ (List.getElem_mem hk)
 have hsc := hx.2.2.1
 obtain ⟨i1, i2, i3⟩ := wd_ix h.w hc
 unfold hangfirelaw09_FrameAxis_J2
 rw [if_neg (by omega : ¬ o.sensors[k].scale = 0), i2, Option.bind_some]
 unfold setO
 rw [Option.bind_some, Option.bind_some]
 refine J1_ok hs hd hk hB hp (h.lay i1 hst (by omega)) ?_ hc
 rw [getD_set _ _ _ _ _ (by have := h.l; omega), if_pos rfl]
theorem J3_ok (hs : SkyOk t o) (hd : far 10000 d) (hk : k < o.sensors.length) (hB : ∀ ws st good, Half t o d num (k + 1) ws st good → G (B ws good st ((k + 1 : Nat) : Int)))
  {p : Int} {i : Nat} (hi : i < 100) (hp : p = prodP d o.sensors[k]) (h : Half t o d num k ws st good) (hc : ChOk t (chan t o.sensors[k])) :
  G (hangfirelaw09_FrameAxis_J3 F B a i ws good st k o.sensors[k] (chan t o.sensors[k]) p) := by
 have hsl := hs.s
 obtain ⟨i1, i2, i3⟩ := wd_ix h.w hc
 obtain ⟨b1, b2⟩ := ixO_getD (l := st) (i := (chan t o.sensors[k]).word) false hc.2.1 (by have := h.l; have := h.w.1; have := hc.2.2; omega)
 unfold hangfirelaw09_FrameAxis_J3
 rw [b1, Option.bind_some]
 by_cases c1 : st.getD (chan t o.sensors[k]).word.toNat false = true
 ·rw [if_pos c1]; exact J1_ok hs hd hk hB hp h c1 hc
 ·rw [if_neg c1]
  have c1' := eq_false_of_ne_true c1
  by_cases c2 : 0 < (a.wrong.length : Int)
  ·rw [if_pos c2, if_neg (by omega), W_id (x := (i : Int) + k)]
   obtain ⟨e1, _⟩ := ixO_getD (l := a.wrong) (i := Int.tmod ((i : Int) + k) a.wrong.length) 0 (Int.tmod_nonneg _ (by omega)) (Int.tmod_lt_of_pos _ c2)
   rw [e1, Option.bind_some]
   exact J2_ok hs hd hk hB hp h c1' hc
  ·rw [if_neg c2]; exact J2_ok hs hd hk hB hp h c1' hc
theorem J4_ok (hs : SkyOk t o) {x3 : Nat} (hx3 : x3 < o.dirs.length) (hk : k < o.sensors.length) (hB : ∀ ws st good, Half t o o.dirs[x3] num (k + 1) ws st good → G (B ws good st ((k + 1 : Nat) : Int)))
  {i : Nat} (hi : i < 100) (h : Half t o o.dirs[x3] num k ws st good) (hc : ChOk t (chan t o.sensors[k])) :
  G (hangfirelaw09_FrameAxis_J4 F B o a i x3 ws good st k o.sensors[k] (chan t o.sensors[k])) := by
 have hx := hs.x _ (List.getElem_mem hk)
 have hd := (hs.d _ (List.getElem_mem hx3)).1
 unfold hangfirelaw09_FrameAxis_J4
 rw [ixO_nat hx3, Option.bind_some, dot_eq hd hx.2.1, Option.bind_some]
 by_cases c : o.sensors[k].sun = true
 ·rw [if_pos c]; exact J3_ok hs hd hk hB hi (by unfold prodP; rw [if_pos c]) h hc
 ·rw [if_neg c]; exact J3_ok hs hd hk hB hi (by unfold prodP; rw [if_neg c]) h hc
theorem J6_ok (hs : SkyOk t o) (ha : SpinOk a) {x3 : Nat} (hx3 : x3 < o.dirs.length) (hk : k < o.sensors.length) {i : Nat} (hi : i < 100) (hB : ∀ ws st good, Half t o o.dirs[x3] (a.first + i) (k + 1) ws st good → G (B ws good st ((k + 1 : Nat) : Int)))
  (h : Half t o o.dirs[x3] (a.first + i) k ws st good) :
  G (hangfirelaw09_FrameAxis_J6 F B t o a i x3 ws good st k o.sensors[k]) := by
 have hx := hs.x _ (List.getElem_mem hk)
 have hf := ha.f
 have hsl := hs.s
 obtain ⟨c1, c2⟩ : ixO t.channels o.sensors[k].channel = some (chan t o.sensors[k]) ∧ chan t o.sensors[k] ∈ t.channels := ixO_getD (l := t.channels) default hx.1.1 hx.1.2
 have hc := hs.fm.a _ c2
 have hc1 := hc.1
 have hc2 := hc.2
 unfold hangfirelaw09_FrameAxis_J6
 rw [c1, Option.bind_some, if_neg (by omega), if_neg (by omega), if_neg (by omega), if_neg (by omega), W_id (x := a.first), W_id (x := a.first + i)]
 by_cases c : Int.tmod (a.first + i) (chan t o.sensors[k]).every = (chan t o.sensors[k]).phase
 ·rw [if_pos c]; exact J4_ok hs hx3 hk hB hi h hc
 ·rw [if_neg c]
  unfold hangfirelaw09_FrameAxis_J5
  rw [W_succ (by omega)]
  exact hB _ _ _ (h.skip hk c)
theorem L1_ok (hs : SkyOk t o) (ha : SpinOk a) {x3 : Nat} (hx3 : x3 < o.dirs.length) {i : Nat} (hi : i < 100) {K : List Int → Bool → List Bool → Int → Option Bool} : ∀ n k : Nat, o.sensors.length < n + k → k ≤ o.sensors.length → ∀ ws st good, Half t o o.dirs[x3] (a.first + i) k ws st good →
  ∃ ws' good' st' y, hangfirelaw09_FrameAxis_L1 F t o a i x3 K n ws good st k = K ws' good' st' y ∧ WdOk t ws' ∧ (good' = true → FitP t o o.dirs[x3] (a.first + i) ws') := by
 intro n
 have hsl := hs.s
 induction n with
 | zero => intro k h1 h2; omega
 | succ n ih =>
  intro k h1 h2 ws st good h
  rw [hangfirelaw09_FrameAxis_L1]
  by_cases hk : k < o.sensors.length
  ·have hx := hs.x _ (List.getElem_mem hk)
   have hx1 := hx.1
   have hx2 := hx.2.2.1
   rw [if_pos (by omega : (k : Int) < (o.sensors.length : Int)), ixO_nat hk, Option.bind_some, if_neg (by omega), if_neg (by omega), if_neg (by omega)]
   exact J6_ok (G := fun q => ∃ ws' good' st' y, q = K ws' good' st' y ∧ WdOk t ws' ∧ (good' = true → FitP t o o.dirs[x3] (a.first + i) ws')) hs ha hx3 hk hi (fun ws st good h' => ih (k + 1) (by omega) (by omega) ws st good h') h
  ·rw [if_neg (by omega)]
   refine ⟨ws, good, st, _, rfl, h.w, fun hg x hx hsee => ?_⟩
   obtain ⟨j, hj, rfl⟩ := List.getElem_of_mem hx
   exact (h.s j hj (by omega) hsee).2 hg
end
end Go.Proofs.Ytjnnkcnnandeeaa
open Go Go.Proofs.Ytjnnkcnnandeeaa.Sh Go.Proofs
namespace Go.Proofs.Ytjnnkcnnandeeaa
section
variable (o : FrSky) (a : Spin)
def dirOf (k : Nat) : FlDir := o.dirs.getD k default
def toD (i : Nat) : Nat := (Int.tmod (a.steps.getD (Int.tmod (i : Int) a.steps.length).toNat 0) o.dirs.length).toNat
def nextD (i prev : Nat) : Nat := if 0 < a.steps.length then (if i = 0 ∨ o.turn ≤ dotP (dirOf o prev) (dirOf o (toD o a i)) then toD o a i else prev) else prev
def nowTo : Nat → Nat
 | 0 => 0
 | i + 1 => nextD o a i (nowTo i)
end
section
variable {F : Nat} {t : FrFormat} {o : FrSky} {a : Spin}
theorem dot_eq2 {a b : FlDir} (ha : far 10000 a) (hb : far 10000 b) : hangfirelaw09_dot F a b.x b.y b.z = some (dotP a b) := dot_eq ha (far_le hb)
theorem dirOf_eq {k : Nat} (h : k < o.dirs.length) : dirOf o k = o.dirs[k] := by
 unfold dirOf; rw [List.getD_eq_getElem?_getD, List.getElem?_eq_getElem h]; rfl
theorem toD_lt (hs : SkyOk t o) (i : Nat) : toD o a i < o.dirs.length := by
 have hn := hs.n
 have := Int.tmod_lt_of_pos (a.steps.getD (Int.tmod (i : Int) a.steps.length).toNat 0) (show (0 : Int) < o.dirs.length by omega)
 unfold toD
 omega
theorem nowTo_lt (hs : SkyOk t o) (i : Nat) : nowTo o a i < o.dirs.length := by
 have hn := hs.n
 induction i with
 | zero => exact hn.1
 | succ i ih =>
  rw [nowTo, nextD]
  split
  ·split
   ·exact toD_lt hs i
   ·exact ih
  ·exact ih
theorem nowTo_near (hs : SkyOk t o) (i : Nat) : o.turn ≤ dotP (dirOf o (nowTo o a (i + 1))) (dirOf o (nowTo o a (i + 2))) := by
 have hself : o.turn ≤ dotP (dirOf o (nowTo o a (i + 1))) (dirOf o (nowTo o a (i + 1))) := by
  rw [dirOf_eq (nowTo_lt hs _)]; exact (hs.d _ (List.getElem_mem _)).2
 rw [show nowTo o a (i + 2) = nextD o a (i + 1) (nowTo o a (i + 1)) from rfl]
 unfold nextD
 split
 ·split
  ·rename_i h
   rcases h with h | h
   ·omega
   ·exact h
  ·exact hself
 ·exact hself
structure Made (t : FrFormat) (o : FrSky) (a : Spin) (i : Nat) (lv : List FrReport) (ls : List Int) : Prop where
 al : ls.length = i
 ae : ∀ (j : Nat) (h : j < ls.length), ls[j] = (nowTo o a (j + 1) : Int)
 r : ∀ r ∈ lv, WdOk t r.words ∧ ∃ j : Nat, j < i ∧ r.number = a.first + j ∧ (r.marked = true ∨ FitP t o (dirOf o (nowTo o a (j + 1))) r.number r.words)
 up : ∀ (k : Nat) (h : k + 1 < lv.length), lv[k].number < lv[k + 1].number
 z : 0 < i → ∃ h : 0 < lv.length, lv[0].number = a.first
 n : lv.length ≤ i
theorem Made.axis {i : Nat} {ls : List Int} (h : ls.length = i) (ha : ∀ (j : Nat) (h : j < ls.length), ls[j] = (nowTo o a (j + 1) : Int)) : ∀ (j : Nat) (h : j < (ls ++ [((nowTo o a (i + 1) : Nat) : Int)]).length), (ls ++ [((nowTo o a (i + 1) : Nat) : Int)])[j] = (nowTo o a (j + 1) : Int) := by
 intro j hj
 by_cases hl : j < ls.length
 ·rw [List.getElem_append_left hl]; exact ha j hl
 ·have : j = ls.length := by simp at hj; omega
  subst this
  rw [List.getElem_concat_length rfl, h]
theorem Made.lost {i : Nat} {lv : List FrReport} {ls : List Int} (h : Made t o a i lv ls) (hi : i ≠ 0) : Made t o a (i + 1) lv (ls ++ [((nowTo o a (i + 1) : Nat) : Int)]) :=
 ⟨by rw [List.length_append, h.al]; rfl, Made.axis h.al h.ae, fun r hr => by
  obtain ⟨h1, j, h2, h3⟩ := h.r r hr
  exact ⟨h1, j, by omega, h3⟩, h.up, fun _ => h.z (by omega), by have := h.n; omega⟩
theorem Made.more {i : Nat} {lv : List FrReport} {ls : List Int} (h : Made t o a i lv ls) {r : FrReport} (hw : WdOk t r.words) (hn : r.number = a.first + i) (hf : r.marked = true ∨ FitP t o (dirOf o (nowTo o a (i + 1))) r.number r.words) : Made t o a (i + 1) (lv ++ [r]) (ls ++ [((nowTo o a (i + 1) : Nat) : Int)]) := by
 refine ⟨by rw [List.length_append, h.al]; rfl, Made.axis h.al h.ae, fun r' hr => ?_, fun k hk => ?_, fun _ => ⟨by simp, ?_⟩, by have := h.n; simp; omega⟩
 ·rcases List.mem_append.1 hr with hr | hr
  ·obtain ⟨h1, j, h2, h3⟩ := h.r r' hr
   exact ⟨h1, j, by omega, h3⟩
  ·rw [List.mem_singleton.1 hr]; exact ⟨hw, i, by omega, hn, hf⟩
 ·by_cases hl : k + 1 < lv.length
  ·rw [List.getElem_append_left (by omega), List.getElem_append_left hl]; exact h.up k hl
  ·have hk' : k + 1 = lv.length := by simp at hk; omega
   obtain ⟨_, j, h2, h3, _⟩ := h.r lv[k] (List.getElem_mem (by omega))
   rw [List.getElem_append_left (by omega), List.getElem_append_right (by omega)]
   simp only [hk', Nat.sub_self, List.getElem_cons_zero]
   omega
 ·by_cases hi : 0 < i
  ·obtain ⟨g1, g2⟩ := h.z hi
   rw [List.getElem_append_left g1]; exact g2
  ·have h0 : lv = [] := List.eq_nil_of_length_eq_zero (by have := h.n; omega)
   subst h0
   simp only [List.nil_append, List.getElem_cons_zero]
   omega
variable {G : Option Bool → Prop} {B : List FrReport → List Int → Int → Int → Option Bool}
theorem J9_ok (ha : SpinOk a) {i : Nat} (hi : i < 100) {lv : List FrReport} {ls : List Int} (h : Made t o a i lv ls) (hB : ∀ lv, Made t o a (i + 1) lv (ls ++ [((nowTo o a (i + 1) : Nat) : Int)]) → G (B lv (ls ++ [((nowTo o a (i + 1) : Nat) : Int)]) (nowTo o a (i + 1)) ((i + 1 : Nat) : Int)))
  {ws : List Int} {x8 : Int} {mk : Bool} (hw : WdOk t ws) (hm : mk = true ∨ FitP t o (dirOf o (nowTo o a (i + 1))) (a.first + i) ws) :
  G (hangfirelaw09_FrameAxis_J9 F B a lv i (nowTo o a (i + 1)) (ls ++ [((nowTo o a (i + 1) : Nat) : Int)]) ws x8 mk) := by
 have hf := ha.f
 have hn := h.n
 have h8 : G (hangfirelaw09_FrameAxis_J8 F B a lv i (nowTo o a (i + 1)) (ls ++ [((nowTo o a (i + 1) : Nat) : Int)]) ws mk) := by
  unfold hangfirelaw09_FrameAxis_J8
  rw [app_one (by omega), Option.bind_some, W_succ (by omega), W_id (x := a.first), W_id (x := a.first + i)]
  exact hB _ (h.more hw rfl hm)
 unfold hangfirelaw09_FrameAxis_J9
 by_cases c1 : Int.tmod x8 2 = 0
 ·rw [if_pos c1]; exact h8
 ·rw [if_neg c1]
  by_cases c2 : (i : Int) = 0
  ·rw [if_pos c2]; exact h8
  ·rw [if_neg c2, W_succ (by omega)]
   exact hB _ (h.lost (by omega))
theorem J10_ok (ha : SpinOk a) {i : Nat} (hi : i < 100) {lv : List FrReport} {ls : List Int} (h : Made t o a i lv ls) (hB : ∀ lv, Made t o a (i + 1) lv (ls ++ [((nowTo o a (i + 1) : Nat) : Int)]) → G (B lv (ls ++ [((nowTo o a (i + 1) : Nat) : Int)]) (nowTo o a (i + 1)) ((i + 1 : Nat) : Int)))
  {ws : List Int} {x8 : Int} {good : Bool} (hw : WdOk t ws) (hg : good = true → FitP t o (dirOf o (nowTo o a (i + 1))) (a.first + i) ws) :
  G (hangfirelaw09_FrameAxis_J10 F B a lv i (nowTo o a (i + 1)) (ls ++ [((nowTo o a (i + 1) : Nat) : Int)]) ws good x8) := by
 unfold hangfirelaw09_FrameAxis_J10
 by_cases c : Int.tmod (W8 (Int.tdiv x8 2)) 2 = 1
 ·rw [if_pos c]; exact J9_ok ha hi h hB hw (.inl rfl)
 ·rw [if_neg c]
  refine J9_ok ha hi h hB hw ?_
  cases good with
  | true => exact .inr (hg rfl)
  | false => exact .inl rfl
theorem J11_ok (hF : 1000 < F) (hs : SkyOk t o) (ha : SpinOk a) {i : Nat} (hi : i < 100) {lv : List FrReport} {ls : List Int} (h : Made t o a i lv ls) (hB : ∀ lv, Made t o a (i + 1) lv (ls ++ [((nowTo o a (i + 1) : Nat) : Int)]) → G (B lv (ls ++ [((nowTo o a (i + 1) : Nat) : Int)]) (nowTo o a (i + 1)) ((i + 1 : Nat) : Int))) :
  G (hangfirelaw09_FrameAxis_J11 F B t o a lv ls i (nowTo o a (i + 1))) := by
 have hlt := nowTo_lt (a := a) hs (i + 1)
 have hw := hs.fm.w
 have hsl := hs.s
 have hal := h.al
 unfold hangfirelaw09_FrameAxis_J11
 rw [app_one (by omega), Option.bind_some]
 have hnat : natM t.words = some t.words.toNat := by
  unfold natM; rw [if_pos (by omega)]
 rw [hnat, Option.bind_some]
 obtain ⟨ws', good', st', y, e1, e2, e3⟩ := L1_ok (F := F) hs ha hlt hi (K := fun (lv3 : (List Int)) (x4 : Bool) (lv4 : (List Bool)) (x5 : Int) => if 0 < (a.lost.length : Int) then (if (a.lost.length : Int) = 0 then none else (Option.bind (ixO a.lost (Int.tmod i (a.lost.length : Int))) fun e11 => hangfirelaw09_FrameAxis_J10 F B a lv i (nowTo o a (i + 1)) (ls ++ [((nowTo o a (i + 1) : Nat) : Int)]) lv3 x4 e11)) else (hangfirelaw09_FrameAxis_J10 F B a lv i (nowTo o a (i + 1)) (ls ++ [((nowTo o a (i + 1) : Nat) : Int)]) lv3 x4 0)) F 0 (by omega) (Nat.zero_le _) (List.replicate t.words.toNat 0) (List.replicate t.words.toNat false) true
  ⟨⟨by rw [List.length_replicate]; omega, fun w hw => by rw [List.eq_of_mem_replicate hw]; omega⟩, by simp, fun j _ h => absurd h (Nat.not_lt_zero _)⟩
 rw [show ((0 : Nat) : Int) = 0 from rfl] at e1
 rw [e1]
 rw [← dirOf_eq hlt] at e3
 by_cases c : 0 < (a.lost.length : Int)
 ·rw [if_pos c, if_neg (by omega)]
  obtain ⟨e4, _⟩ := ixO_getD (l := a.lost) (i := Int.tmod (i : Int) a.lost.length) 0 (Int.tmod_nonneg _ (by omega)) (Int.tmod_lt_of_pos _ c)
  rw [e4, Option.bind_some]
  exact J10_ok ha hi h hB e2 e3
 ·rw [if_neg c]; exact J10_ok ha hi h hB e2 e3
theorem L4_ok (hF : 1000 < F) (hs : SkyOk t o) (ha : SpinOk a) {K : List FrReport → List Int → Int → Int → Option Bool} {M : Nat} (hM : Int.tmod (W a.many) 40 = M) (hM2 : M < 40) : ∀ n i : Nat, M + 1 < n + i → i ≤ M + 1 → ∀ lv ls, Made t o a i lv ls →
  ∃ lv' ls' x' y, hangfirelaw09_FrameAxis_L4 F t o a K n lv ls (nowTo o a i) i = K lv' ls' x' y ∧ Made t o a (M + 1) lv' ls' := by
 intro n
 have hn := hs.n
 induction n with
 | zero => intro i h1 h2; omega
 | succ n ih =>
  intro i h1 h2 lv ls h
  rw [hangfirelaw09_FrameAxis_L4, hM]
  by_cases hle : (i : Int) ≤ (M : Int)
  ·rw [if_pos hle]
   have main : ∃ lv' ls' x' y, hangfirelaw09_FrameAxis_J11 F (hangfirelaw09_FrameAxis_L4 F t o a K n) t o a lv ls i (nowTo o a (i + 1)) = K lv' ls' x' y ∧ Made t o a (M + 1) lv' ls' :=
    J11_ok (G := fun q => ∃ lv' ls' x' y, q = K lv' ls' x' y ∧ Made t o a (M + 1) lv' ls') hF hs ha (by omega) h (fun lv' h' => ih (i + 1) (by omega) (by omega) lv' _ h')
   have hnx : nowTo o a (i + 1) = nextD o a i (nowTo o a i) := rfl
   rw [hnx] at main
   unfold nextD at main
   by_cases c1 : 0 < a.steps.length
   ·obtain ⟨e1, e2⟩ := ixO_getD (l := a.steps) (i := Int.tmod (i : Int) a.steps.length) 0 (Int.tmod_nonneg _ (by omega)) (Int.tmod_lt_of_pos _ (by omega))
    have hr := ha.s _ e2
    rw [if_pos c1] at main
    have hto : Int.tmod (W (a.steps.getD (Int.tmod (i : Int) a.steps.length).toNat 0)) (o.dirs.length : Int) = (toD o a i : Int) := by
     rw [W_id]
     have := Int.tmod_nonneg (o.dirs.length : Int) hr.1
     unfold toD
     omega
    have hlt := toD_lt (a := a) hs i
    rw [if_pos (by omega : 0 < (a.steps.length : Int)), if_neg (by omega : ¬ (a.steps.length : Int) = 0), e1, Option.bind_some, if_neg (by omega : ¬ (o.dirs.length : Int) = 0), hto, ixO_nat hlt, Option.bind_some]
    by_cases c2 : (i : Int) = 0
    ·rw [if_pos c2]
     rw [if_pos (Or.inl (by omega))] at main
     exact main
    ·have hl2 := nowTo_lt (a := a) hs i
     have hd1 := (hs.d _ (List.getElem_mem hl2)).1
     have hd2 := (hs.d _ (List.getElem_mem hlt)).1
     rw [if_neg c2, ixO_nat hl2, Option.bind_some, dot_eq2 hd1 hd2, Option.bind_some]
     rw [dirOf_eq hl2, dirOf_eq hlt] at main
     by_cases c3 : o.turn ≤ dotP o.dirs[nowTo o a i] o.dirs[toD o a i]
     ·rw [if_pos (Or.inr c3)] at main
      rw [if_pos c3]
      exact main
     ·rw [if_neg (by rintro (h | h); omega; exact c3 h)] at main
      rw [if_neg c3]
      exact main
   ·rw [if_neg c1] at main
    rw [if_neg (by omega : ¬ 0 < (a.steps.length : Int))]
    exact main
  ·rw [if_neg hle]
   have : i = M + 1 := by omega
   subst this
   exact ⟨lv, ls, _, _, rfl, h⟩
end
end Go.Proofs.Ytjnnkcnnandeeaa
open Go Go.Proofs.Ytjnnkcnnandeeaa.Sh Go.Proofs
namespace Go.Proofs.Ytjnnkcnnandeeaa
section
variable {F : Nat} {t : FrFormat} {o : FrSky} {a : Spin}
theorem find_L2 {ls : List Int} {y : List FrAxes × Int} {i : Nat} (hi : i < y.1.length) (hl : i < ls.length) (hlen : y.1[i].dirs.length ≤ 30) {K : Bool → Int → Option Bool} : ∀ n k : Nat, y.1[i].dirs.length < n + k → k ≤ y.1[i].dirs.length → ∀ b : Bool, (b = true ∨ ls[i] ∈ y.1[i].dirs.drop k) →
  ∃ z, hangfirelaw09_FrameAxis_L2 F ls y i K n b k = K true z := by
 intro n
 induction n with
 | zero => intro k h1 h2; omega
 | succ n ih =>
  intro k h1 h2 b h
  rw [hangfirelaw09_FrameAxis_L2, ixO_nat hi, Option.bind_some]
  by_cases hk : k < y.1[i].dirs.length
  ·rw [if_pos (by omega : (k : Int) < (y.1[i].dirs.length : Int)), W_succ (by omega)]
   by_cases hb : b = true
   ·rw [if_pos hb]; exact ih (k + 1) (by omega) (by omega) true (.inl rfl)
   ·rw [if_neg hb, ixO_nat hk, Option.bind_some, ixO_nat hl, Option.bind_some]
    by_cases he : y.1[i].dirs[k] = ls[i]
    ·rw [if_pos he]; exact ih (k + 1) (by omega) (by omega) true (.inl rfl)
    ·rw [if_neg he]
     refine ih (k + 1) (by omega) (by omega) false (.inr ?_)
     rcases h with h | h
     ·exact absurd h hb
     ·rw [List.drop_eq_getElem_cons hk] at h
      rcases List.mem_cons.1 h with h | h
      ·exact absurd h.symm he
      ·exact h
  ·rw [if_neg (by omega)]
   rcases h with h | h
   ·rw [h]; exact ⟨_, rfl⟩
   ·rw [List.drop_of_length_le (by omega)] at h; cases h
theorem all_L3 (hF : 1000 < F) {ls : List Int} {y : List FrAxes × Int} (hy : y.1.length ≤ 100) (hl : y.1.length ≤ ls.length) (hfi : 0 ≤ a.first ∧ a.first ≤ 65535)
  (hv : ∀ (j : Nat) (h : j < y.1.length), y.1[j].number = a.first + j ∧ ls[j]'(by omega) ∈ y.1[j].dirs ∧ y.1[j].dirs.length ≤ 30) {K : Int → Option Bool} (hK : ∀ x, K x = some true) : ∀ n k : Nat, y.1.length < n + k → k ≤ y.1.length →
  hangfirelaw09_FrameAxis_L3 F a ls y K n k = some true := by
 intro n
 induction n with
 | zero => intro k h1 h2; omega
 | succ n ih =>
  intro k h1 h2
  rw [hangfirelaw09_FrameAxis_L3]
  by_cases hk : k < y.1.length
  ·rw [if_pos (by omega : (k : Int) < (y.1.length : Int))]
   obtain ⟨v1, v2, v3⟩ := hv k hk
   obtain ⟨z, e⟩ := find_L2 (F := F) (ls := ls) hk (by omega) v3 (K := fun (x11 : Bool) (x12 : Int) => if x11 = true then (Option.bind (ixO y.1 k) fun e17 => if e17.number = (W ((W a.first) + k)) then (hangfirelaw09_FrameAxis_L3 F a ls y K n (W ((k : Int) + 1))) else (some false)) else (some false)) F 0 (by omega) (Nat.zero_le _) false (.inr (by rw [List.drop_zero]; exact v2))
   rw [show ((0 : Nat) : Int) = 0 from rfl] at e
   rw [e, if_pos rfl, ixO_nat hk, Option.bind_some, W_id (x := a.first), W_id (x := a.first + k), if_pos v1, W_succ (by omega)]
   exact ih (k + 1) (by omega) (by omega)
  ·rw [if_neg (by omega)]; exact hK _
theorem axis_any (hF : FmF F t) (ha : SpinOk a) (hA : hangfirelaw09_Awake F = some true) (o : FrSky) : hangfirelaw09_FrameAxis F t o a = some true := by
 have hf := hF.f
 have hfi := ha.f
 have hJ : hangfirelaw09_FrameAxis_J14 F = some true := by unfold hangfirelaw09_FrameAxis_J14; rw [hA]; rfl
 obtain ⟨rv, e0, h0⟩ := sky_ex hF o
 unfold hangfirelaw09_FrameAxis
 rw [e0, Option.bind_some]
 by_cases c0 : rv.2 = 0
 ·have hs := h0 c0
  have hn := hs.n
  have hw := hs.fm.w
  rw [if_pos c0, if_neg (by omega), if_neg (by omega), if_neg (by omega)]
  unfold hangfirelaw09_FrameAxis_J13
  obtain ⟨M, hM, hM2⟩ : ∃ M : Nat, Int.tmod (W a.many) 40 = M ∧ M < 40 := by
   have hm := ha.m
   rw [W_id (x := a.many)]
   have h1 := Int.tmod_nonneg 40 hm.1
   have h2 := Int.tmod_lt_of_pos a.many (show (0 : Int) < 40 by omega)
   exact ⟨(Int.tmod a.many 40).toNat, by omega, by omega⟩
  obtain ⟨lv, ls, x, y, e1, hmd⟩ := L4_ok (F := F) hf hs ha hM hM2 (K := fun (lv : (List FrReport)) (lv2 : (List Int)) (x : Int) (x2 : Int) => Option.bind (frame_Axes F t o lv) fun rv8 => if rv8.2 = 0 then (Option.bind (ixO lv (W ((lv.length : Int) - 1))) fun e12 => Option.bind (ixO lv 0) fun e13 => if (rv8.1.length : Int) = (W ((W (e12.number - e13.number)) + 1)) then (hangfirelaw09_FrameAxis_J12 F a lv2 rv8) else (some false)) else (some false)) F 0 (by omega) (Nat.zero_le _) [] []
   ⟨rfl, fun j h => absurd h (Nat.not_lt_zero _), (fun r h => by cases h), fun k h => absurd h (Nat.not_lt_zero _), fun h => absurd h (Nat.lt_irrefl _), Nat.le_refl _⟩
  rw [show ((0 : Nat) : Int) = 0 from rfl, show ((nowTo o a 0 : Nat) : Int) = 0 from rfl] at e1
  rw [e1]
  obtain ⟨z1, z2⟩ := hmd.z (by omega)
  have hln := hmd.n
  have hal := hmd.al
  have hg : Given t o a.first (fun j => nowTo o a (j + 1)) lv := ⟨hfi, fun j => nowTo_lt hs _, fun j => by
    have := nowTo_near (a := a) hs j
    rwa [dirOf_eq (nowTo_lt hs _), dirOf_eq (nowTo_lt hs _)] at this, fun r hr => by
    obtain ⟨h1, j, h2, h3, h4⟩ := hmd.r r hr
    rw [dirOf_eq (nowTo_lt hs _)] at h4
    exact ⟨h1, j, h3, by omega, h4⟩, hmd.up, fun _ => z2⟩
  obtain ⟨ys, e2, e3, e4⟩ := Axes_eq hF e0 c0 hs hg (by omega) z1
  obtain ⟨_, j, hj, hjn, _⟩ := hmd.r _ (List.getElem_mem (show lv.length - 1 < lv.length by omega))
  have ez : ixO lv 0 = some lv[0] := ixO_nat (k := 0) z1
  rw [e2, Option.bind_some, if_pos rfl, W_id (x := (lv.length : Int) - 1), show ((lv.length : Int) - 1) = ((lv.length - 1 : Nat) : Int) by omega, ixO_nat (show lv.length - 1 < lv.length by omega), Option.bind_some, ez, Option.bind_some, if_pos (show (ys.length : Int) = W (W (lv[lv.length - 1].number - lv[0].number) + 1) by rw [W_id (x := lv[lv.length - 1].number - lv[0].number), W_id] <;> omega)]
  unfold hangfirelaw09_FrameAxis_J12
  refine all_L3 hf (y := (ys, 0)) (by show ys.length ≤ 100; omega) (by show ys.length ≤ ls.length; omega) hfi (fun i hi => ?_) (fun x => by rw [hA]; rfl) F 0 (by show ys.length < _; omega) (Nat.zero_le _)
  obtain ⟨q1, q2, q3⟩ := e3 i hi
  have hi' : i < ys.length := hi
  rw [hmd.ae i (by omega)]
  exact ⟨q1, q2, q3⟩
 ·rw [if_neg c0]; exact hJ
end
end Go.Proofs.Ytjnnkcnnandeeaa
