/- The pad's rules in plain words: what is a state, what acts do. Where a pad and a scene lie in memory. -/
import Derived.Test.YthcnganbnbhhoaaCheck
namespace Go.Proofs.Ythcnganbnbhhoaa
open Go.RowKit
/-- Whether f holds below n. -/
def allN (f : Nat → Bool) (n : Nat) : Bool := (List.range n).all f
theorem allN_t {f : Nat → Bool} {n : Nat} (h : ∀ j, j < n → f j = true) : allN f n = true := by
 unfold allN; rw [List.all_eq_true]; intro x hx; exact h x (List.mem_range.1 hx)
theorem allN_f {f : Nat → Bool} {n k : Nat} (hk : k < n) (h : f k = false) : allN f n = false := by
 unfold allN; rw [List.all_eq_false]; exact ⟨k, List.mem_range.2 hk, by rw [h]; decide⟩
theorem allN_iff {f : Nat → Bool} {n : Nat} : allN f n = true ↔ ∀ j, j < n → f j = true := by
 unfold allN; rw [List.all_eq_true]; exact ⟨fun h j hj => h j (List.mem_range.2 hj), fun h x hx => h x (List.mem_range.1 hx)⟩
/-- How many numbers of a list are z. -/
def manyN (l : List Int) (z : Int) : Nat := (l.filter fun x => decide (x = z)).length
theorem manyN_le (l : List Int) (z : Int) : manyN l z ≤ l.length := List.length_filter_le _ _
theorem manyN_take (l : List Int) (z : Int) (k : Nat) (h : k < l.length) : manyN (l.take (k + 1)) z = manyN (l.take k) z + if l.getD k 0 = z then 1 else 0 := by
 unfold manyN
 rw [List.take_succ_eq_append_getElem h, List.filter_append, List.length_append, List.getD_eq_getElem?_getD, List.getElem?_eq_getElem h, Option.getD_some]
 by_cases hz : l[k] = z <;> simp [hz]
def zoneOf (p : Pad) (z : Int) : Zone := p.zones.getD z.toNat default
def personOf (p : Pad) (i : Int) : Person := p.people.getD i.toNat default
def squibOf (p : Pad) (q : Int) : Squib := (p.squibs.getD q.toNat default).1
/-- What Check makes sure of. -/
structure PadOk (p : Pad) : Prop where
 nz : 1 ≤ p.zones.length ∧ p.zones.length ≤ 8
 nd : p.doors.length ≤ 24
 np : p.people.length ≤ 8
 nk : p.keys.length ≤ 8
 nq : p.squibs.length ≤ 6
 zin : ∀ z ∈ p.zones, ZoneIn z
 zgr : ∀ z ∈ p.zones, (0 ≤ z.grade ∧ z.grade ≤ 9) ∧ 1 ≤ z.room ∧ z.room ≤ 8
 din : ∀ d ∈ p.doors, (-1 ≤ d.a ∧ d.a < p.zones.length) ∧ (-1 ≤ d.b ∧ d.b < p.zones.length) ∧ d.a ≠ d.b
 pgr : ∀ x ∈ p.people, 0 ≤ x.grade ∧ x.grade ≤ 9
 qin : ∀ q ∈ p.squibs, SquibIn q.1
 qgr : ∀ q ∈ p.squibs, 0 ≤ q.1.grade ∧ q.1.grade ≤ 9
 qne : ∀ q ∈ p.squibs, q.1.keys ≠ []
 qks : ∀ q ∈ p.squibs, ∀ k, k < q.1.keys.length → 0 ≤ q.1.keys.getD k 0 ∧ q.1.keys.getD k 0 < p.keys.length
 qso : ∀ q ∈ p.squibs, ∀ k, k + 1 < q.1.keys.length → q.1.keys.getD k 0 < q.1.keys.getD (k + 1) 0
 pan : 0 ≤ p.panel ∧ p.panel < p.zones.length
 far : nears p.zones p.squibs p.panel = []
 wai : 0 ≤ p.wait ∧ p.wait ≤ 6000
theorem firstE_mem {α : Type} [Inhabited α] {l : List α} {f : α → Int} {nm : Nat → ByteArray} (h : (firstE (nameE nm (fun k => f (l.getD k default))) l.length).2 = 0) : ∀ x ∈ l, f x = 0 := by
 intro z hz
 obtain ⟨j, hj, e⟩ := List.getElem_of_mem hz
 have := nameE_zero (firstE_zero h j hj)
 rwa [List.getD_eq_getElem?_getD, List.getElem?_eq_getElem hj, Option.getD_some, e] at this
theorem padOk_of {p : Pad} (h : (padE p).2.2 = 0) : PadOk p := by
 unfold padE at h
 split at h
 ·cases h
 rename_i h1
 split at h
 ·rename_i h2; exact absurd h h2
 rename_i h2
 split at h
 ·rename_i h3; exact absurd h h3
 rename_i h3
 split at h
 ·rename_i h4; exact absurd h h4
 rename_i h4
 split at h
 ·rename_i h5; exact absurd h h5
 rename_i h5
 split at h
 ·rename_i h6; exact absurd h h6
 rename_i h6
 split at h
 ·cases h
 rename_i h7
 split at h
 ·cases h
 rename_i h8
 split at h
 ·cases h
 rename_i h9
 simp only [Decidable.not_not] at h2 h3 h4 h5 h6 h8
 rw [Bool.not_eq_true] at h1 h7 h9
 unfold longB at h1
 simp only [Bool.or_eq_false_iff, outB_f, decide_eq_false_iff_not] at h1
 obtain ⟨⟨⟨⟨h1, hd⟩, hp⟩, hk⟩, hq⟩ := h1
 have hz0 := firstE_mem (f := zoneE) h2
 have hq0 := firstE_mem (f := fun q : SquibX => squibE q.1 p.keys.length) h6
 have hx0 := firstE_mem (f := personE) h4
 have hsq : ∀ q ∈ p.squibs, (placeB q.1.x && placeB q.1.y && inB q.1.clear 0 10000000 && inB q.1.grade 0 9) = true ∧ q.1.keys.length ≠ 0 ∧ anyB (fun k => outB (q.1.keys.getD k 0) 0 ((p.keys.length : Int) - 1)) q.1.keys.length = false ∧ anyB (fun i => decide (q.1.keys.getD (i + 1) 0 ≤ q.1.keys.getD i 0)) (q.1.keys.length - 1) = false := by
  intro q hq
  have h := hq0 q hq
  unfold squibE at h
  split at h
  ·cases h
  rename_i a1
  split at h
  ·cases h
  rename_i a2
  split at h
  ·cases h
  rename_i a3
  split at h
  ·cases h
  rename_i a4
  exact ⟨by rwa [Bool.not_eq_false] at a1, a2, by simpa using a3, by simpa using a4⟩
 refine ⟨by omega, by omega, by omega, by omega, by omega, fun z hz => zoneE_in (hz0 z hz), ?_, ?_, ?_, fun q hq => squibE_in (hq0 q hq), ?_, ?_, ?_, ?_, ?_, h8, ?_⟩
 ·intro z hz
  have := hz0 z hz
  unfold zoneE at this
  split at this
  ·rename_i h1
   simp only [Bool.and_eq_true, inB_t] at h1
   exact ⟨h1.1.2, h1.2⟩
  ·cases this
 ·intro d hd
  obtain ⟨j, hj, e⟩ := List.getElem_of_mem hd
  have := firstE_zero h3 j hj
  rw [List.getD_eq_getElem?_getD, List.getElem?_eq_getElem hj, Option.getD_some, e] at this
  unfold doorE at this
  split at this
  ·cases this
  rename_i a1
  split at this
  ·cases this
  rename_i a2
  simp only [Bool.or_eq_true, not_or, Bool.not_eq_true, outB_f] at a1
  exact ⟨by omega, by omega, a2⟩
 ·intro x hx
  have := hx0 x hx
  unfold personE at this
  split at this
  ·cases this
  ·rename_i h1
   rw [Bool.not_eq_true, outB_f] at h1
   exact h1
 ·intro q hq
  have := (hsq q hq).1
  simp only [Bool.and_eq_true, inB_t] at this
  exact this.2
 ·intro q hq e
  exact (hsq q hq).2.1 (by rw [e]; rfl)
 ·intro q hq k hk
  have := outB_f.1 (anyB_f.1 (hsq q hq).2.2.1 k hk)
  omega
 ·intro q hq k hk
  have := anyB_f.1 (hsq q hq).2.2.2 k (by omega)
  simpa using this
 ·have := outB_f.1 h7; omega
 ·exact outB_f.1 h9
/-- Whether a state is one of the pad, sound or not. -/
def formedB (p : Pad) (s : State) : Bool :=
 !(outB s.now 0 100000 || outB s.siren (-1) s.now) && !(decide (s.zones.length ≠ p.people.length) || decide (s.holder.length ≠ p.keys.length) || decide (s.squibs.length ≠ p.squibs.length)) &&
 (!anyB (fun k => outB (s.zones.getD k 0) (-1) ((p.zones.length : Int) - 1)) s.zones.length && !anyB (fun k => outB (s.holder.getD k 0) (-1) ((p.people.length : Int) - 1)) s.holder.length && !anyB (fun k => outB (s.squibs.getD k 0) 0 2) s.squibs.length)
structure StateOk (p : Pad) (s : State) : Prop where
 now : 0 ≤ s.now ∧ s.now ≤ 100000
 siren : -1 ≤ s.siren ∧ s.siren ≤ s.now
 lz : s.zones.length = p.people.length
 lh : s.holder.length = p.keys.length
 lq : s.squibs.length = p.squibs.length
 z : ∀ k, k < s.zones.length → -1 ≤ s.zones.getD k 0 ∧ s.zones.getD k 0 < p.zones.length
 h : ∀ k, k < s.holder.length → -1 ≤ s.holder.getD k 0 ∧ s.holder.getD k 0 < p.people.length
 q : ∀ k, k < s.squibs.length → 0 ≤ s.squibs.getD k 0 ∧ s.squibs.getD k 0 ≤ 2
theorem stateOk_iff {p : Pad} {s : State} : formedB p s = true ↔ StateOk p s := by
 unfold formedB
 simp only [Bool.and_eq_true, Bool.not_eq_true', Bool.or_eq_false_iff, outB_f, decide_eq_false_iff_not, Decidable.not_not, anyB_f]
 constructor
 ·rintro ⟨⟨⟨h1, h2⟩, ⟨h3, h4⟩, h5⟩, ⟨h6, h7⟩, h8⟩
  exact ⟨h1, h2, h3, h4, h5, fun k hk => by have := h6 k hk; omega, fun k hk => by have := h7 k hk; omega, h8⟩
 ·rintro ⟨h1, h2, h3, h4, h5, h6, h7, h8⟩
  exact ⟨⟨⟨h1, h2⟩, ⟨h3, h4⟩, h5⟩, ⟨fun k hk => by have := h6 k hk; omega, fun k hk => by have := h7 k hk; omega⟩, h8⟩
def aloneB (p : Pad) (s : State) (z : Int) : Bool := decide (0 ≤ z) && (zoneOf p z).pair && decide (manyN s.zones z = 1)
def holdsB (p : Pad) (s : State) (i : Int) (q : Nat) : Bool := anyB (fun k => decide (s.holder.getD ((p.squibs.getD q default).1.keys.getD k 0).toNat 0 = i)) (p.squibs.getD q default).1.keys.length
/-- Whether a person may be in a zone because of keys: of each squib that is not fired and that the zone is near they hold one. -/
def keyedAt (p : Pad) (s : State) (i : Int) (q : Nat) : Bool := decide (s.squibs.getD q 0 = 2) || holdsB p s i q
def keyedB (p : Pad) (s : State) (i z : Int) : Bool := (nears p.zones p.squibs z).all (keyedAt p s i)
def owedL (p : Pad) (s : State) (q : Int) : List Int := (squibOf p q).keys.filter fun k => decide (0 ≤ s.holder.getD k.toNat 0)
def roomOk (p : Pad) (s : State) (z : Nat) : Bool := !(decide ((p.zones.getD z default).room < manyN s.zones z) || aloneB p s z)
def placeOk (p : Pad) (s : State) (i : Nat) : Bool := !((decide (0 ≤ s.zones.getD i 0) && decide ((p.people.getD i default).grade < (zoneOf p (s.zones.getD i 0)).grade)) || !keyedB p s i (s.zones.getD i 0))
def safeOk (p : Pad) (s : State) (q : Nat) : Bool := !(decide (s.squibs.getD q 0 = 1) && (!(owedL p s q).isEmpty || decide (s.siren < 0) || s.storm))
def soundB (p : Pad) (s : State) : Bool := allN (roomOk p s) p.zones.length && allN (placeOk p s) s.zones.length && allN (safeOk p s) s.squibs.length
/-- The error of a state. -/
def stateE (p : Pad) (s : State) : Int := if (padE p).2.2 ≠ 0 then (padE p).2.2 else if (!formedB p s || !soundB p s) = true then 6 else 0
/-- The error of an act, but for reasons. -/
def withB (a : PAct) : Bool := decide (a.kind = 4) || decide (a.kind = 1) && decide (a.with_ ≠ -1)
def whatE (p : Pad) (a : PAct) : Int :=
 if a.kind = 1 then (if (decide (a.what ≠ -1) && outB a.what 0 ((p.zones.length : Int) - 1)) = true then 4 else 0)
 else if a.kind = 2 ∨ a.kind = 3 ∨ a.kind = 4 then (if outB a.what 0 ((p.keys.length : Int) - 1) = true then 4 else 0)
 else if a.kind = 5 ∨ a.kind = 6 ∨ a.kind = 7 then (if outB a.what 0 ((p.squibs.length : Int) - 1) = true then 4 else 0)
 else if outB a.what 0 1 = true then 2 else 0
def actE (p : Pad) (a : PAct) : Int :=
 if outB a.at_ 0 100000 = true then 7 else if outB a.kind 1 9 = true then 2 else if outB a.who 0 ((p.people.length : Int) - 1) = true then 4
 else if whatE p a ≠ 0 then whatE p a
 else if (!withB a && decide (a.with_ ≠ -1)) = true then 2 else if (withB a && outB a.with_ 0 ((p.people.length : Int) - 1)) = true then 4 else if (withB a && decide (a.with_ = a.who)) = true then 2 else 0
/-- What an act about people, keys, squibs does (the error: 0 is none). -/
def hasDoor (p : Pad) (a b : Int) : Bool := anyB (fun k => decide (a = (p.doors.getD k default).a) && decide (b = (p.doors.getD k default).b)) p.doors.length
def doorB (p : Pad) (a b : Int) : Bool := hasDoor p a b || hasDoor p b a
def stormy (s : State) (q : Nat) : Bool := s.storm && !decide (s.squibs.getD q 0 = 2)
def comesE (p : Pad) (s : State) (i z : Int) : Int :=
 if (decide (0 ≤ z) && decide ((personOf p i).grade < (zoneOf p z).grade)) = true then 172
 else if (nears p.zones p.squibs z).any (stormy s) = true then 173 else if keyedB p s i z = false then 174 else 0
def movedS (s : State) (a : PAct) : State := { s with zones := if a.with_ < 0 then s.zones.set a.who.toNat a.what else (s.zones.set a.who.toNat a.what).set a.with_.toNat a.what }
def fromZ (s : State) (a : PAct) : Int := s.zones.getD a.who.toNat 0
def moveE (p : Pad) (s : State) (a : PAct) : Int :=
 if (doorB p (fromZ s a) a.what && (decide (a.with_ < 0) || decide (s.zones.getD a.with_.toNat 0 = fromZ s a))) = false then 171
 else if comesE p s a.who a.what ≠ 0 then comesE p s a.who a.what
 else if 0 ≤ a.with_ ∧ comesE p s a.with_ a.what ≠ 0 then comesE p s a.with_ a.what
 else if 0 ≤ a.what ∧ (zoneOf p a.what).room < manyN (movedS s a).zones a.what then 175
 else if (aloneB p (movedS s a) a.what || aloneB p (movedS s a) (fromZ s a)) = true then 176 else 0
def atPanelB (p : Pad) (s : State) (i : Int) : Bool := decide (s.zones.getD i.toNat 0 = p.panel)
def armedB (s : State) (f : Nat → Bool) : Bool := anyB (fun q => decide (s.squibs.getD q 0 = 1) && f q) s.squibs.length
def hasKey (p : Pad) (k : Int) (q : Nat) : Bool := anyB (fun j => decide (k = (p.squibs.getD q default).1.keys.getD j 0)) (p.squibs.getD q default).1.keys.length
def takeE (p : Pad) (s : State) (a : PAct) : Int :=
 if atPanelB p s a.who = false then 171 else if 0 ≤ s.holder.getD a.what.toNat 0 then 174 else if armedB s (hasKey p a.what) = true then 177 else 0
def heldS (s : State) (k i : Int) : State := { s with holder := s.holder.set k.toNat i }
def putE (p : Pad) (s : State) (a : PAct) : Int :=
 if atPanelB p s a.who = false then 171 else if s.holder.getD a.what.toNat 0 ≠ a.who then 174 else 0
def giveE (p : Pad) (s : State) (a : PAct) : Int :=
 if s.holder.getD a.what.toNat 0 ≠ a.who then 174 else if s.zones.getD a.with_.toNat 0 ≠ s.zones.getD a.who.toNat 0 then 171
 else if keyedB p (heldS s a.what a.with_) a.who (s.zones.getD a.who.toNat 0) = false then 178 else 0
def badgeE (p : Pad) (s : State) (a : PAct) : Int :=
 if atPanelB p s a.who = false then 171 else if (personOf p a.who).grade < (squibOf p a.what).grade then 172 else 0
def squibS (s : State) (q x : Int) : State := { s with squibs := s.squibs.set q.toNat x }
def armE (p : Pad) (s : State) (a : PAct) : Int :=
 if badgeE p s a ≠ 0 then badgeE p s a else if s.squibs.getD a.what.toNat 0 ≠ 0 then 177 else if s.storm = true then 173
 else if (owedL p s a.what).isEmpty = false then 174 else if ¬ (0 ≤ s.siren ∧ p.wait ≤ a.at_ - s.siren) then 179 else 0
def disarmE (p : Pad) (s : State) (a : PAct) : Int :=
 if atPanelB p s a.who = false then 171 else if s.squibs.getD a.what.toNat 0 ≠ 1 then 177 else 0
def fireE (p : Pad) (s : State) (a : PAct) : Int :=
 if badgeE p s a ≠ 0 then badgeE p s a else if s.squibs.getD a.what.toNat 0 ≠ 1 then 177 else 0
def onB (a : PAct) : Bool := decide (a.what = 1)
def sirenE (p : Pad) (s : State) (a : PAct) : Int :=
 if atPanelB p s a.who = false then 171 else if decide (0 ≤ s.siren) = onB a then 177 else if (!onB a && armedB s (fun _ => true)) = true then 179 else 0
def sirenS (s : State) (a : PAct) : State := { s with siren := if onB a = true then a.at_ else -1 }
def thunderE (s : State) (a : PAct) : Int := if s.storm = onB a then 177 else 0
def calm (on : Bool) (x : Int) : Int := if (on && decide (x = 1)) = true then 0 else x
def thunderS (s : State) (a : PAct) : State := { s with storm := onB a, squibs := s.squibs.map (calm (onB a)) }
def kindE (p : Pad) (s : State) (a : PAct) : Int :=
 if a.kind = 1 then moveE p s a else if a.kind = 2 then takeE p s a else if a.kind = 3 then putE p s a else if a.kind = 4 then giveE p s a else if a.kind = 5 then armE p s a
 else if a.kind = 6 then disarmE p s a else if a.kind = 7 then fireE p s a else if a.kind = 8 then sirenE p s a else thunderE s a
def kindS (s : State) (a : PAct) : State :=
 if a.kind = 1 then movedS s a else if a.kind = 2 then heldS s a.what a.who else if a.kind = 3 then heldS s a.what (-1) else if a.kind = 4 then heldS s a.what a.with_ else if a.kind = 5 then squibS s a.what 1
 else if a.kind = 6 then squibS s a.what 0 else if a.kind = 7 then squibS s a.what 2 else if a.kind = 8 then sirenS s a else thunderS s a
def doneE (p : Pad) (s : State) (a : PAct) : Int := if a.at_ < s.now then 170 else kindE p s a
def nowS (s : State) (t : Int) : State := { s with now := t }
def zeroS : State := ⟨0, [], [], [], 0, false⟩
def doneS (p : Pad) (s : State) (a : PAct) : State := if doneE p s a = 0 then nowS (kindS s a) a.at_ else zeroS
def doE (p : Pad) (s : State) (a : PAct) : Int := if stateE p s ≠ 0 then stateE p s else if actE p a ≠ 0 then actE p a else doneE p s a
def doS (p : Pad) (s : State) (a : PAct) : State := if doE p s a = 0 then doneS p s a else zeroS
/-- The state after acts; the reasons why they are refused. -/
def stepS (p : Pad) (s : State) (a : PAct) : State := if doneE p s a = 0 then doneS p s a else s
def runS (p : Pad) (s : State) (l : List PAct) : State := l.foldl (stepS p) s
def runE (p : Pad) (s : State) : List PAct → List Int
 | [] => []
 | a :: l => doneE p s a :: runE p (stepS p s a) l
def actsE (p : Pad) (l : List PAct) : Int := (firstE (fun k => actE p (l.getD k default)) l.length).2
def playE (p : Pad) (s : State) (l : List PAct) : Int := if stateE p s ≠ 0 then stateE p s else if 60 < l.length then 3 else actsE p l
def startS (p : Pad) : State := ⟨0, List.replicate p.people.length (-1), List.replicate p.keys.length (-1), List.replicate p.squibs.length 0, -1, false⟩
/-- Where a pad's lists lie. -/
structure PadX where
 az : Option Addr
 cz : Nat
 ad : Option Addr
 cd : Nat
 ap : Option Addr
 cp : Nat
 ak : Option Addr
 ck : Nat
 aq : Option Addr
 cq : Nat
def PadX.cells (X : PadX) (p : Pad) : List Value := [.slice X.az p.zones.length X.cz, .slice X.ad p.doors.length X.cd, .slice X.ap p.people.length X.cp, .slice X.ak p.keys.length X.ck, .slice X.aq p.squibs.length X.cq, .int .i64 p.panel, .int .i64 p.wait]
structure PadAt (w : World) (X : PadX) (p : Pad) : Prop where
 strs : p.StrsOk
 kv : ∀ q ∈ p.squibs, IntsV w .i64 q.2 q.1.keys
 z : ListV 8 Zone.cell w (.slice X.az p.zones.length X.cz) p.zones
 d : ListV 2 Door.cell w (.slice X.ad p.doors.length X.cd) p.doors
 x : ListV 2 Person.cell w (.slice X.ap p.people.length X.cp) p.people
 k : ListV 1 keyCell w (.slice X.ak p.keys.length X.ck) p.keys
 q : ListV 6 SquibX.cell w (.slice X.aq p.squibs.length X.cq) p.squibs
theorem padV_iff {w : World} {v : Value} {p : Pad} : PadV w v p ↔ ∃ X : PadX, v = .agg (X.cells p).toArray ∧ PadAt w X p := by
 constructor
 ·rintro ⟨h0, h1, a, b, c, d, e, rfl, h3, h4, h5, h6, h7⟩
  have h3' := h3
  have h4' := h4
  have h5' := h5
  have h6' := h6
  have h7' := h7
  obtain ⟨A1, c1, rfl, _⟩ := h3
  obtain ⟨A2, c2, rfl, _⟩ := h4
  obtain ⟨A3, c3, rfl, _⟩ := h5
  obtain ⟨A4, c4, rfl, _⟩ := h6
  obtain ⟨A5, c5, rfl, _⟩ := h7
  exact ⟨⟨A1, c1, A2, c2, A3, c3, A4, c4, A5, c5⟩, rfl, h0, h1, h3', h4', h5', h6', h7'⟩
 ·rintro ⟨X, rfl, h⟩
  exact ⟨h.strs, h.kv, _, _, _, _, _, rfl, h.z, h.d, h.x, h.k, h.q⟩
theorem PadAt.cext {w w' : World} {X : PadX} {p : Pad} (h : PadAt w X p) (k : CExt w w') : PadAt w' X p :=
 ⟨h.strs, fun q hq => (h.kv q hq).cext k, h.z.cext k, h.d.cext k, h.x.cext k, h.k.cext k, h.q.cext k⟩
theorem PadAt.ext {w w' : World} {X : PadX} {p : Pad} (h : PadAt w X p) (k : Ext w w') : PadAt w' X p := h.cext k.c
/-- A slice of integers, its address written out. -/
theorem IntsV.rows {w : World} {A : Option Addr} {n c : Nat} {l : List Int} (h : IntsV w .i64 (.slice A n c) l) : n = l.length ∧ n ≤ c ∧ c ≤ 9223372036854775807 ∧ Row w A l.length (fun j => .int .i64 (l.getD j 0)) := by
 obtain ⟨A', c', e, h1, h2, h3⟩ := h
 injection e with e1 e2 e3
 subst e1 e2 e3
 exact ⟨rfl, h1, by simpa [maxLen] using h2, h3⟩
theorem ListV.rows {α : Type} [Inhabited α] {size : Nat} {cell : α → Nat → Value} {w : World} {A : Option Addr} {n c : Nat} {l : List α} (h : ListV size cell w (.slice A n c) l) :
 n = l.length ∧ n ≤ c ∧ c ≤ 9223372036854775807 ∧ Rows2 w A l.length size (fun i k => cell (l.getD i default) k) := by
 obtain ⟨A', c', e, h1, h2, h3⟩ := h
 injection e with e1 e2 e3
 subst e1 e2 e3
 exact ⟨rfl, h1, by simpa [maxLen] using h2, h3⟩
/-- Where a scene's lists lie. -/
structure SceneX where
 pad : PadX
 sz : Option Addr
 zc : Nat
 sh : Option Addr
 hc : Nat
 sq : Option Addr
 qc : Nat
def SceneX.cells (X : SceneX) (p : Pad) (s : State) : Array Value := #[.slice X.pad.az p.zones.length X.pad.cz, .slice X.pad.ad p.doors.length X.pad.cd, .slice X.pad.ap p.people.length X.pad.cp, .slice X.pad.ak p.keys.length X.pad.ck, .slice X.pad.aq p.squibs.length X.pad.cq, .int .i64 p.panel, .int .i64 p.wait,
 .int .i64 s.now, .slice X.sz s.zones.length X.zc, .slice X.sh s.holder.length X.hc, .slice X.sq s.squibs.length X.qc, .int .i64 s.siren, .bool s.storm]
/-- A scene in block B: a pad, and a state of it. -/
structure SceneAt (w : World) (B : Nat) (X : SceneX) (p : Pad) (s : State) : Prop where
 blk : Blk w B 114 (X.cells p s)
 pad : PadAt w X.pad p
 z : IntsV w .i64 (.slice X.sz s.zones.length X.zc) s.zones
 h : IntsV w .i64 (.slice X.sh s.holder.length X.hc) s.holder
 q : IntsV w .i64 (.slice X.sq s.squibs.length X.qc) s.squibs
theorem SceneAt.ext {w w' : World} {B : Nat} {X : SceneX} {p : Pad} {s : State} (h : SceneAt w B X p s) (k : Ext w w') : SceneAt w' B X p s :=
 ⟨h.blk.ext k, h.pad.ext k, h.z.ext k, h.h.ext k, h.q.ext k⟩
theorem SceneAt.turn {w w' : World} {N B : Nat} {X : SceneX} {p : Pad} {s : State} (h : SceneAt w B X p s) (k : Turn N w w') : SceneAt w' B X p s :=
 ⟨h.blk.turn k, h.pad.cext k.c, h.z.cext k.c, h.h.cext k.c, h.q.cext k.c⟩
/-- A cell of a scene. -/
theorem SceneAt.cell {w : World} {B : Nat} {X : SceneX} {p : Pad} {s : State} (h : SceneAt w B X p s) (k : Nat) (v : Value) (hk : (X.cells p s)[k]? = some v) : w.cell? ⟨B, k, none⟩ = some v := cell_heap h.blk k v hk
theorem SceneAt.k0 {w : World} {B : Nat} {X : SceneX} {p : Pad} {s : State} (h : SceneAt w B X p s) : w.cell? ⟨B, 0, none⟩ = some (.slice X.pad.az p.zones.length X.pad.cz) := h.cell 0 _ rfl
theorem SceneAt.k1 {w : World} {B : Nat} {X : SceneX} {p : Pad} {s : State} (h : SceneAt w B X p s) : w.cell? ⟨B, 1, none⟩ = some (.slice X.pad.ad p.doors.length X.pad.cd) := h.cell 1 _ rfl
theorem SceneAt.k2 {w : World} {B : Nat} {X : SceneX} {p : Pad} {s : State} (h : SceneAt w B X p s) : w.cell? ⟨B, 2, none⟩ = some (.slice X.pad.ap p.people.length X.pad.cp) := h.cell 2 _ rfl
theorem SceneAt.k3 {w : World} {B : Nat} {X : SceneX} {p : Pad} {s : State} (h : SceneAt w B X p s) : w.cell? ⟨B, 3, none⟩ = some (.slice X.pad.ak p.keys.length X.pad.ck) := h.cell 3 _ rfl
theorem SceneAt.k4 {w : World} {B : Nat} {X : SceneX} {p : Pad} {s : State} (h : SceneAt w B X p s) : w.cell? ⟨B, 4, none⟩ = some (.slice X.pad.aq p.squibs.length X.pad.cq) := h.cell 4 _ rfl
theorem SceneAt.k5 {w : World} {B : Nat} {X : SceneX} {p : Pad} {s : State} (h : SceneAt w B X p s) : w.cell? ⟨B, 5, none⟩ = some (.int .i64 p.panel) := h.cell 5 _ rfl
theorem SceneAt.k6 {w : World} {B : Nat} {X : SceneX} {p : Pad} {s : State} (h : SceneAt w B X p s) : w.cell? ⟨B, 6, none⟩ = some (.int .i64 p.wait) := h.cell 6 _ rfl
theorem SceneAt.k7 {w : World} {B : Nat} {X : SceneX} {p : Pad} {s : State} (h : SceneAt w B X p s) : w.cell? ⟨B, 7, none⟩ = some (.int .i64 s.now) := h.cell 7 _ rfl
theorem SceneAt.k8 {w : World} {B : Nat} {X : SceneX} {p : Pad} {s : State} (h : SceneAt w B X p s) : w.cell? ⟨B, 8, none⟩ = some (.slice X.sz s.zones.length X.zc) := h.cell 8 _ rfl
theorem SceneAt.k9 {w : World} {B : Nat} {X : SceneX} {p : Pad} {s : State} (h : SceneAt w B X p s) : w.cell? ⟨B, 9, none⟩ = some (.slice X.sh s.holder.length X.hc) := h.cell 9 _ rfl
theorem SceneAt.k10 {w : World} {B : Nat} {X : SceneX} {p : Pad} {s : State} (h : SceneAt w B X p s) : w.cell? ⟨B, 10, none⟩ = some (.slice X.sq s.squibs.length X.qc) := h.cell 10 _ rfl
theorem SceneAt.k11 {w : World} {B : Nat} {X : SceneX} {p : Pad} {s : State} (h : SceneAt w B X p s) : w.cell? ⟨B, 11, none⟩ = some (.int .i64 s.siren) := h.cell 11 _ rfl
theorem SceneAt.k12 {w : World} {B : Nat} {X : SceneX} {p : Pad} {s : State} (h : SceneAt w B X p s) : w.cell? ⟨B, 12, none⟩ = some (.bool s.storm) := h.cell 12 _ rfl
end Go.Proofs.Ythcnganbnbhhoaa
