/- Receivers: what is looked at is as expected. -/
import Derived.Test.YtjnnkcnnandeeaaFX1
set_option linter.unusedVariables false
set_option linter.unusedSimpArgs false
open Go Go.Proofs.Ytjnnkcnnandeeaa.Sh Go.Proofs
namespace Go.Proofs.Ytjnnkcnnandeeaa.Fm
section
variable {F : Nat} {t : FrFormat} {x : Sent} {a l : List Int} {b : List Int} {is : Bool}
theorem rc_L2 {k : Nat} (hk : k < 100) (ha : a.length ≤ 100) {K : Int → Int → Int → Option Bool} : ∀ (n i c : Nat) (x7 : Int), a.length < n + i → i ≤ a.length → c ≤ i → (x7 = -1 ∨ 0 ≤ x7) →
  hangfirelaw09_FrameReceivers_L2 F a k K n x7 c i = K (if x7 < 0 then firstI k i (a.drop i) else x7) ((c + cntK k (a.drop i) : Nat) : Int) (a.length : Nat) := by
 intro n
 induction n with
 | zero => intro i c x7 h1 h2; omega
 | succ n ih =>
  intro i c x7 h1 h2 h3 h4
  rw [hangfirelaw09_FrameReceivers_L2]
  by_cases hi : i < a.length
  ·rw [if_pos (by omega : (i : Int) < (a.length : Int)), ixO_nat hi, W_succ (by omega), List.drop_eq_getElem_cons hi, firstI]
   simp only [Option.bind_some]
   rw [if_neg (u64_k hk)]
   have hcnt : cntK k (a[i] :: a.drop (i + 1)) = cntK k (a.drop (i + 1)) + (if bitB a[i] k = true then 1 else 0) := by unfold cntK; rw [List.countP_cons]
   rw [hcnt]
   by_cases hb : bitB a[i] k = true
   case neg =>
    have hb' : Int.tmod (ishr .u32 a[i] (IntKind.u64.wrap (k : Int))) 2 = 0 := by unfold bitB at hb; simpa using hb
    rw [if_pos hb', if_neg hb, if_neg hb, ih (i + 1) c x7 (by omega) (by omega) (by omega) h4]
    rfl
   have hb' : ¬ Int.tmod (ishr .u32 a[i] (IntKind.u64.wrap (k : Int))) 2 = 0 := by unfold bitB at hb; simpa using hb
   rw [if_neg hb', if_pos hb, if_pos hb, W_succ (by omega)]
   by_cases h7 : x7 < 0
   ·rw [if_pos h7, if_pos h7, ih (i + 1) (c + 1) i (by omega) (by omega) (by omega) (.inr (by omega)), if_neg (by omega)]
    congr 2
    omega
   ·rw [if_neg h7, if_neg h7, ih (i + 1) (c + 1) x7 (by omega) (by omega) (by omega) h4, if_neg h7]
    congr 2
    omega
  ·rw [if_neg (by omega), List.drop_of_length_le (by omega)]
   have : i = a.length := by omega
   subst this
   rw [firstI]
   have : (if x7 < 0 then (-1 : Int) else x7) = x7 := by split <;> omega
   rw [this]
   rfl
def posK (a : List Int) (k : Nat) : Nat := ((List.range k).filter (anyK a)).length
theorem exp_at {k : Nat} (hk : k < l.length) (h : anyK a k = true) : ixO (expE t x l a) (posK a k : Int) = some (repK t x l a k) := by
 have e : List.range l.length = List.range k ++ k :: (List.range l.length).drop (k + 1) := by
  have e1 : (List.range l.length).drop k = k :: (List.range l.length).drop (k + 1) := by
   rw [List.drop_eq_getElem_cons (by rw [List.length_range]; exact hk), List.getElem_range]
  have e2 : (List.range l.length).take k = List.range k := by rw [List.take_range]; congr 1; omega
  rw [← e1, ← e2, List.take_append_drop]
 unfold ixO expE posK
 rw [if_pos (Int.natCast_nonneg _), Int.toNat_natCast]
 conv => lhs; rw [e]
 rw [List.filter_append, List.filter_cons_of_pos h, List.map_append, List.getElem?_append_right (by rw [List.length_map]; exact Nat.le_refl _), List.length_map, Nat.sub_self]
 rfl
theorem pos_succ (k : Nat) : posK a (k + 1) = posK a k + (if anyK a k = true then 1 else 0) := by
 unfold posK
 rw [List.range_succ, List.filter_append, List.length_append]
 congr 1
 by_cases h : anyK a k = true
 ·rw [if_pos h, List.filter_cons_of_pos h]; rfl
 ·rw [if_neg h, List.filter_cons_of_neg h]; rfl
theorem pos_le (k : Nat) : posK a k ≤ k := by
 unfold posK
 exact Nat.le_trans (List.length_filter_le _ _) (by simp)
theorem exp_len : (expE t x l a).length = posK a l.length := by unfold expE posK; rw [List.length_map]
theorem pos_lt {k : Nat} (hk : k < l.length) (h : anyK a k = true) : posK a k < (expE t x l a).length := by
 have := exp_at (t := t) (x := x) hk h
 unfold ixO at this
 rw [if_pos (Int.natCast_nonneg _), Int.toNat_natCast] at this
 exact (List.getElem?_eq_some_iff.1 this).1
theorem rc_L3 (hv : FmV t) (hF : 2000000 < F) (hx : SentOk x) (hll : l.length ≤ 32) (ha : a.length ≤ 4) {e : Int} {K : Int → Int → Option Bool} : ∀ n k : Nat, l.length < n + k → k ≤ l.length →
  hangfirelaw09_FrameReceivers_L3 F t x a (b, l, is) (expE t x l a, e) K n (posK a k : Nat) k = K ((expE t x l a).length : Nat) (l.length : Nat) := by
 have hwn : wN t ≤ 32 := by have := hv.w; unfold wN; omega
 intro n
 induction n with
 | zero => intro k h1 h2; omega
 | succ n ih =>
  intro k h1 h2
  rw [hangfirelaw09_FrameReceivers_L3]
  by_cases hk : k < l.length
  case neg =>
   rw [if_neg (by show ¬ (k : Int) < (l.length : Int); omega)]
   have : k = l.length := by omega
   subst this
   rw [exp_len]
  rw [if_pos (by show (k : Int) < (l.length : Int); omega)]
  have hL := fun K => rc_L2 (F := F) (a := a) (k := k) (by omega) (by omega) (K := K) F 0 0 (-1) (by omega) (Nat.zero_le _) (Nat.le_refl _) (.inl rfl)
  rw [show ((0 : Nat) : Int) = 0 from rfl, List.drop_zero, Nat.zero_add, if_pos (by omega : (-1 : Int) < 0)] at hL
  rw [hL]
  have hps := pos_succ (a := a) k
  have hih := ih (k + 1) (by omega) (by omega)
  by_cases hc : 0 < cntK k a
  case neg =>
   have hany : anyK a k = false := decide_eq_false hc
   rw [if_pos (by omega), W_succ (by omega)]
   rw [hps, hany, if_neg Bool.false_ne_true, Nat.add_zero] at hih
   exact hih
  have hany : anyK a k = true := decide_eq_true hc
  rw [if_neg (by omega)]
  have hlt := pos_lt (t := t) (x := x) hk hany
  rw [if_neg (by show ¬ ((expE t x l a).length : Int) ≤ (posK a k : Int); omega)]
  have e1 : ixO (expE t x l a, e).1 (posK a k : Int) = some (repK t x l a k) := exp_at hk hany
  have e2 : ixO (b, l, is).2.1 (k : Int) = some (l.getD k 0) := ixD hk
  rw [e1]
  simp only [Option.bind_some]
  rw [if_neg (by unfold repK; exact Bool.false_ne_true), e2]
  simp only [Option.bind_some]
  have hw := wl_ok (t := t) hx k
  have hwl := hw.l
  rw [if_pos (show (repK t x l a k).number = l.getD k 0 from rfl), if_pos (show (repK t x l a k).from_ = firstI k 0 a from rfl), if_pos (show (repK t x l a k).agree = (cntK k a : Int) from rfl), list_eq hv (by omega) hx (by omega)]
  simp only [Option.bind_some]
  rw [show (repK t x l a k).words = wl x k (wN t) from rfl, ints_eq (by omega) (by omega), decide_eq_true rfl]
  simp only [Option.bind_some, if_true]
  have hpl := pos_le (a := a) k
  rw [W_succ (by omega), W_succ (by omega)]
  rw [hps, hany, if_pos rfl] at hih
  exact hih
theorem receivers_any (hf : FmF F t) (hF : 2000000 < F) (hA : hangfirelaw09_Awake F = some true) (hx : SentOk x) (a : List Int) : hangfirelaw09_FrameReceivers F t x a = some true := by
 obtain ⟨b, l, is, h1, h2⟩ := bytes_eq hf hF hx
 unfold hangfirelaw09_FrameReceivers
 rw [h1]
 simp only [Option.bind_some]
 cases is with
 | false => rw [if_neg Bool.false_ne_true, hA]; rfl
 | true =>
  obtain ⟨⟨q1, q2, hck⟩, hv, hfi, hl, hinc, hll, hfl⟩ := h2 rfl
  rw [if_pos rfl]
  by_cases ha : 4 < (a.length : Int)
  ·rw [if_pos ha, hA]; rfl
  rw [if_neg ha]
  by_cases hl32 : 32 < (l.length : Int)
  ·rw [if_pos hl32, hA]; rfl
  rw [if_neg hl32]
  have hL := rc_L4 (F := F) (b := b) (is := true) (a := a) hv hF hck hx hA hfi hl hinc (by omega) (by omega) (K := fun (lv : (List FrTape)) (z : Int) => Option.bind (frame_Merge F t lv) fun rv7 => if rv7.2 = 0 then (hangfirelaw09_FrameReceivers_L3 F t x a (b, l, true) rv7 (fun (x5 : Int) (x6 : Int) => if x5 = (rv7.1.length : Int) then (Option.bind (hangfirelaw09_Awake F ) fun rv10 => some rv10) else (some false)) F 0 0) else (some false)) F 0 [] (by omega) (Nat.zero_le _) (Nat.zero_le _)
  rw [show ((0 : Nat) : Int) = 0 from rfl, List.drop_zero, List.nil_append] at hL
  rcases hL with h | ⟨hg, z, h⟩
  ·exact h
  rw [h]
  have htp : (a.map fun e => (⟨flatB t (selF t x l e 0), x.first⟩ : FrTape)) = (tapesS t x l a).map fun fs => ⟨flatB t fs, x.first⟩ := by unfold tapesS; rw [List.map_map]; rfl
  rw [htp]
  have hfs : (flatB t (fsFrom t x l 0)).length = szN t * l.length := by
   rw [flat_len (fsFrom_ok hx l 0)]
   unfold fsFrom
   simp
  have hok : ∀ fs ∈ tapesS t x l a, FsOk t fs ∧ (flatB t fs).length ≤ 4000 ∧ gapOk x.first fs := fun fs h => by
   unfold tapesS at h
   obtain ⟨e, he, rfl⟩ := List.mem_map.1 h
   refine ⟨sel_ok hx e 0, ?_, hg e he⟩
   rw [flat_len (sel_ok hx e 0)]
   have := Nat.mul_le_mul_left (szN t) (sel_len (t := t) (x := x) (l := l) e 0)
   omega
  have hall := all_flat (F := F) hv (by omega) hfi (tapesS t x l a) 0 hok
  have hb : ∀ y ∈ (tapesS t x l a).map (fun fs => (⟨flatB t fs, x.first⟩ : FrTape)), ∀ c ∈ y.bytes, isByte c := fun y hy => by
   obtain ⟨fs, hfs, rfl⟩ := List.mem_map.1 hy
   exact flat_byte (hok fs hfs).1
  have hlen4 : ((tapesS t x l a).map (fun fs => (⟨flatB t fs, x.first⟩ : FrTape))).length ≤ 4 := by unfold tapesS; simp <;> omega
  obtain ⟨hm, _⟩ := merge_spec hv hck (by omega) ((tapesS t x l a).map fun fs => ⟨flatB t fs, x.first⟩) hlen4 hb
  have htok := (all_ok (F := F) hv ((tapesS t x l a).map fun fs => ⟨flatB t fs, x.first⟩) 0 hb).1
  rw [hall] at hm htok
  obtain ⟨out, k1, k2⟩ := hm rfl
  have heq := OutP.one htok k2 (exp_ok (a := a) hinc)
  rw [k1, heq]
  simp only [Option.bind_some, if_true]
  have h3 := rc_L3 (F := F) (b := b) (is := true) (a := a) (l := l) (e := 0) hv hF hx (by omega) (by omega) (K := fun (x5 : Int) (x6 : Int) => if x5 = ((expE t x l a).length : Int) then (Option.bind (hangfirelaw09_Awake F ) fun rv10 => some rv10) else (some false)) F 0 (by omega) (Nat.zero_le _)
  rw [show posK a 0 = 0 from rfl, show ((0 : Nat) : Int) = 0 from rfl] at h3
  rw [h3, if_pos rfl, hA]
  rfl
end
end Go.Proofs.Ytjnnkcnnandeeaa.Fm
