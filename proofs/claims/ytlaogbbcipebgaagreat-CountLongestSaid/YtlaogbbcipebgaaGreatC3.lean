/- A countdown in plain words: events, the desk at first, time that passes. -/
import Derived.Test.YtlaogbbcipebgaaGreatQ1
set_option linter.unusedVariables false
set_option linter.unusedSimpArgs false
open Go Go.Proofs.YtlaogbbcipebgaaGreat.Sh Go.Proofs
namespace Go.Proofs.YtlaogbbcipebgaaGreat
abbrev A8M (x:C7):D2:=D2.mk x.A04 x.A0D x.A1L x.A0E x.A0F
def A20 (p:D4) (k:Int):Int:=bif decide (k=1)||decide (k=2)then p.steps.length else bif decide (k=5)||decide (k=6)then p.stations.length else bif decide (k=7)then p.points.length else p.batteries.length
def A3r (k:Int):Bool:=decide (k=3)||decide (k=4)||decide (k=8)
def B0C (x:C7):Bool:=bif decide (x.kind=8)then !decide (x.A04=x.at_)else !D2.beq (A8M x) (D2.mk 0 0 0 0 0)
def A5H (p:D4) (x:C7):Int :=
 bif N9 x.at_ 0 100000 then 7 else bif N9 x.kind 1 9 then 2 else
 bif !A3r x.kind&&N9 x.what 0 (A20 p x.kind-1)then 4 else
 bif (A3r x.kind && !decide (x.what=0))||B0C x then 2 else
 bif decide (x.kind=8)then A9U (A1w p) (A8M x)else 0
theorem C00 {p:D4} {k:Int} (h:1≤k∧k≤9):(A2e (M0 (M0 (M0 (M0 (M0 (M0 ([]:List (Int × Int)) 1 (p.steps.length:Int)) 2 (p.steps.length:Int)) 5 (p.stations.length:Int)) 6 (p.stations.length:Int)) 7 (p.points.length:Int)) 9 (p.batteries.length:Int)) k).isSome=!A3r k ∧
  (A3r k=false→(A2e (M0 (M0 (M0 (M0 (M0 (M0 ([]:List (Int × Int)) 1 (p.steps.length:Int)) 2 (p.steps.length:Int)) 5 (p.stations.length:Int)) 6 (p.stations.length:Int)) 7 (p.points.length:Int)) 9 (p.batteries.length:Int)) k).getD 0=A20 p k):=by
 have h9:k=1∨k=2∨k=3∨k=4∨k=5∨k=6∨k=7∨k=8∨k=9:=by omega
 rcases h9 with rfl | rfl | rfl | rfl | rfl | rfl | rfl | rfl | rfl<;>first | exact⟨rfl,fun _=>rfl⟩ | exact⟨rfl,fun h=>absurd h dM⟩
theorem B71 {F:Nat} {p:D4} (h:CtF F p) (ho:A5Y p) (x:C7):A3I F p x=some (A5H p x):=by
 have hl:0≤A20 p x.kind∧A20 p x.kind<9223372036854775808:=by
  have:=h.lp;have:=ho.t16;have:=ho.s8;have:=ho.b6
  unfold A20
  cases decide (x.kind=1)||decide (x.kind=2)<;>cases decide (x.kind=5)||decide (x.kind=6)<;>cases decide (x.kind=7)<;>simp only[cT,cF]<;>omega
 rw[A3I,X2,oS,X2,oS]
 unfold A5H
 cases h1:N9 x.at_ 0 100000 with
 | true=>rw[if_pos rfl,cT]
 | false =>
  cases h2:N9 x.kind 1 9 with
  | true=>rw[if_neg sM,if_pos rfl,cF,cT]
  | false =>
   obtain⟨m1,m2⟩:=C00 (p:=p) (O6.1 h2)
   rw[if_neg sM,if_neg sM,cF,cF,m1,A1t,A1u,A1v,B4C h.pd,oS,X2,oS]
   cases hn:A3r x.kind with
   | false =>
    rw[m2 hn,A8K oM oM,if_pos sM]
    unfold B0C
    by_cases h8:x.kind=8
    ·rw[h8]at hn;cases hn
    ·simp only[if_neg h8,dF h8,cF,Bool.not_false,Bool.true_and,Bool.false_and,Bool.false_or]
     cases N9 x.what 0 (A20 p x.kind-1)<;>cases D2.beq (A8M x) (D2.mk 0 0 0 0 0)<;>rfl
   | true =>
    rw[if_neg sM]
    unfold B0C
    by_cases h8:x.kind=8
    ·simp only[if_pos h8,dT h8,cT,Bool.not_true,Bool.false_and,Bool.true_and,cF,A4e]
     cases decide (x.what=0)<;>cases decide (x.A04=x.at_)<;>rfl
    ·simp only[if_neg h8,dF h8,cF,Bool.not_true,Bool.false_and,Bool.true_and,A4e]
     cases decide (x.what=0)<;>cases D2.beq (A8M x) (D2.mk 0 0 0 0 0)<;>rfl
structure B18 (p:D4) (x:C7):Prop where
 t:0≤x.at_∧x.at_≤100000
 k:1≤x.kind∧x.kind≤9
 w:A3r x.kind=false→0≤x.what∧x.what<A20 p x.kind
 a:x.kind=8→x.A04=x.at_∧A9U (A1w p) (A8M x)=0
theorem B60 {p:D4} {x:C7} (h:A5H p x=0):B18 p x:=by
 unfold A5H at h
 cases h1:N9 x.at_ 0 100000 with
 | true=>rw[h1]at h;cases h
 | false =>
  cases h2:N9 x.kind 1 9 with
  | true=>rw[h1,h2]at h;cases h
  | false =>
   rw[h1,h2]at h
   simp only[cF]at h
   cases h3:!A3r x.kind&&N9 x.what 0 (A20 p x.kind-1)with
   | true=>rw[h3]at h;cases h
   | false =>
    cases h4:(A3r x.kind && !decide (x.what=0))||B0C x with
    | true=>rw[h3,h4]at h;cases h
    | false =>
     rw[h3,h4]at h
     simp only[cF]at h
     refine⟨O6.1 h1,O6.1 h2,fun hn=>?_,fun h8=>?_⟩
     ·rw[hn]at h3
      have:=O6.1 (show N9 x.what 0 (A20 p x.kind-1)=false from h3)
      omega
     ·rw[dT h8,cT]at h
      refine⟨?_,h⟩
      rw[Bool.or_eq_false_iff]at h4
      have:=h4.2
      unfold B0C at this
      rw[dT h8,cT]at this
      simpa using this
abbrev dsk (p:D4) (s:H2):F7:=F7.mk p.N4 p.P5 p.N6 p.S5 p.J3 p.Q7 p.T9 p.stations p.batteries p.steps p.points p.Q8 p.O8 s.now s.A9j s.N4 s.A5M s.J3 s.A68 s.A69 s.begun s.ended s.held s.go s.left s.on_
abbrev B1c (s:H2):C3:=C3.mk s.A9j s.N4 s.A5M s.J3 s.A68 s.A69
abbrev B3q (s:H2) (d:C3):H2:={s with A9j:=d.now,N4:=d.zones,A5M:=d.holder,J3:=d.squibs,A68:=d.siren,A69:=d.storm}
def A0U (p:D4):H2:=B3q ⟨0,0,[],[],[],0,false,List.replicate p.steps.length (-1),List.replicate p.steps.length (-1),false,List.replicate p.stations.length false,p.batteries.map (·.charge),List.replicate p.batteries.length false⟩ (A4C (A1w p)).1
theorem B34 {F:Nat} {p:D4} (hb:p.batteries.length≤6) {K:List Int→Option ((Option F7) × Int)}:∀ (n k:Nat),p.batteries.length<n+k→k≤p.batteries.length→A1r F p (fun lv _=>K lv) n ((p.batteries.take k).map (·.charge)) k=K (p.batteries.map (·.charge))
 | 0,k,h,h2=>absurd h oM
 | n+1,k,h,h2=>by
  rw[A1r]
  by_cases hk:k<p.batteries.length
  ·rw[if_pos oM,H3 hk,oS,A8O (by rw[List.length_map,List.length_take];omega),oS,S0 oM,B6V (fun b:D9=>b.charge) hk,B34 hb n (k+1) oM oM]
  ·rw[if_neg oM,List.take_of_length_le oM]
theorem B7o {F:Nat} {p:D4} (h:CtF F p):A4Q F p=some (if(A35 p).2.2=0 then(some (dsk p (A0U p)),0)else(none,(A35 p).2.2)):=by
 have hF:=h.pd.f
 rw[A4Q,B7s h,oS]
 by_cases h0:(A35 p).2.2=0
 ·have ho:=A95 h0
  have k1:=ho.b6
  have k2:=ho.t16
  have k3:=ho.s8
  rw[if_pos h0,if_pos h0,B2f h.pd,oS,B5w hF k2,oS,oS]
  have:=B34 (F:=F) k1 (K:=fun lv=>(B1D (p.stations.length:Int)).bind fun q2=>(B1D (p.batteries.length:Int)).bind fun q3=>some ((some (F7.mk p.N4 p.P5 p.N6 p.S5 p.J3 p.Q7 p.T9 p.stations p.batteries p.steps p.points p.Q8 p.O8 0 (A4C (A1w p)).1.now (A4C (A1w p)).1.zones (A4C (A1w p)).1.holder (A4C (A1w p)).1.squibs (A4C (A1w p)).1.siren (A4C (A1w p)).1.storm (List.replicate p.steps.length (-1)) (List.replicate p.steps.length (-1)) false (List.replicate q2 false) lv (List.replicate q3 false))),0)) F 0 oM oM
  rw[List.take_zero,List.map_nil]at this
  refine this.trans ?_
  rw[B0U oM,oS,B0U oM,oS]
  rfl
 ·rw[if_neg h0,if_neg h0]
structure CF (p:D4) (s:H2):Prop where
 lb:s.begun.length=p.steps.length
 le:s.ended.length=p.steps.length
 lg:s.go.length=p.stations.length
 ll:s.left.length=p.batteries.length
 lo:s.on_.length=p.batteries.length
 now:0≤s.now∧s.now≤100000
 b:∀ k,k<p.steps.length → -1≤s.begun.getD k 0∧s.begun.getD k 0≤s.now
 e:∀ k,k<p.steps.length → -1≤s.ended.getD k 0∧s.ended.getD k 0≤s.now
 l:∀ k,k<p.batteries.length→0≤s.left.getD k 0∧s.left.getD k 0≤(p.batteries.getD k default).charge
 pd:∀ F,A5x F (A1w p)→StF F (B1c s)
theorem A5J {α:Type} (n k:Nat) (a d:α) (h:k<n):(List.replicate n a).getD k d=a:=by simp[List.getD_eq_getElem?_getD,h]
theorem B1z {p:D4} (ho:A5Y p):CF p (A0U p) where
 lb:=List.length_replicate
 le:=List.length_replicate
 lg:=List.length_replicate
 ll:=List.length_map _
 lo:=List.length_replicate
 now:=⟨Int.le_refl 0,by show(0:Int)≤100000;decide⟩
 b k hk:=by
  rw[show(A0U p).begun.getD k 0 = -1 from A5J _ _ _ _ hk]
  exact⟨by decide,by show(-1:Int)≤0;decide⟩
 e k hk:=by
  rw[show(A0U p).ended.getD k 0 = -1 from A5J _ _ _ _ hk]
  exact⟨by decide,by show(-1:Int)≤0;decide⟩
 l k hk:=by
  have h1:(A0U p).left.getD k 0=(p.batteries.getD k default).charge:=by
   show(p.batteries.map (·.charge)).getD k 0=_
   simp[List.getD_eq_getElem?_getD,List.getElem?_eq_getElem hk]
  rw[h1]
  have:=(ho.b k hk).1
  omega
 pd F hF:=B42 hF.f
def B14 {α:Type} (n:Nat) (f:Nat→α):List α:=(List.range n).map f
theorem B15 {α:Type} (n:Nat) (f:Nat→α):(B14 n f).length=n:=by simp[B14]
theorem B48 {α:Type} {n:Nat} {f:Nat→α} {k:Nat} {d:α} (h:k<n):(B14 n f).getD k d=f k:=by simp[B14,List.getD_eq_getElem?_getD,h]
theorem B2D {α:Type} {l:List α} {n:Nat} {f:Nat→α} (d:α) (h:l.length=n) (hf:∀ k,k<n→l.getD k d=f k):l=B14 n f:=by
 apply List.ext_getElem (by rw[B15,h])
 intro k h1 h2
 have:=hf k oM
 rw[J6 d h1]at this
 rw[this]
 simp[B14]
theorem A6I {α:Type} (l:List α) (i k:Nat) (a d:α) (h:i<l.length):(l.set i a).getD k d=if k=i then a else l.getD k d:=by
 simp only[List.getD_eq_getElem?_getD,List.getElem?_set]
 by_cases e:k=i
 ·subst e;simp[h]
 ·simp[e,Ne.symm e]
theorem sG {α:Type} {l:List α} {i k:Nat} {a d:α} (h:i<l.length):(l.set i a).getD k d=if k=i then a else l.getD k d:=A6I l i k a d h
def B0f (p:D4) (s:H2) (t:Int) (k:Nat):Int:=bif s.on_.getD k false then max 0 (s.left.getD k 0-(t-s.now)*(p.batteries.getD k default).rate)else s.left.getD k 0
def B4e (p:D4) (s:H2) (t:Int):H2:={s with now:=t,left:=B14 p.batteries.length (B0f p s t)}
theorem A96 {F:Nat} {l:List Int} (h:l.length≤100):T3 F l=some l:=A8R oM
theorem B0J {F:Nat} {l:List Bool} (h:l.length≤100):A0v F l=some l:=by
 unfold A0v B26
 rw[if_pos (by simp;omega)];rfl
theorem B6u {F:Nat} {p:D4} {s:H2} (ho:A5Y p) (hs:CF p s):A0Y F (dsk p s)=some (dsk p s):=by
 have:=ho.t16;have:=ho.s8;have:=ho.b6
 have:=hs.lb;have:=hs.le;have:=hs.lg;have:=hs.ll;have:=hs.lo
 rw[A0Y,A96 (by show s.begun.length≤_;omega),oS,A96 (by show s.ended.length≤_;omega),oS,A96 (by show s.left.length≤_;omega),oS,B0J (by show s.go.length≤_;omega),oS,B0J (by show s.on_.length≤_;omega),oS]
theorem B4n {a b:Int} (h1:0≤a∧a≤100000) (h2:1≤b∧b≤1000):0≤a*b∧a*b≤100000000:=by
 constructor
 ·exact Int.mul_nonneg h1.1 oM
 ·calc a*b≤100000*1000:=Int.mul_le_mul h1.2 h2.2 oM oM
   _=100000000:=by decide
theorem B8Z {F:Nat} {p:D4} {s:H2} (hF:100<F) (ho:A5Y p) (hs:CF p s) {t:Int} (ht:s.now≤t∧t≤100000):A2V F (dsk p s) t=some (dsk p (B4e p s t)):=by
 have k1:=ho.b6
 have k2:=hs.ll
 have k3:=hs.lo
 have kn:=hs.now
 have key:∀ (n k:Nat) (d:List Int),d.length=p.batteries.length→(∀ j,j<k→d.getD j 0=B0f p s t j)→(∀ j,k≤j→d.getD j 0=s.left.getD j 0)→p.batteries.length<n+k→k≤p.batteries.length →
   T6 F (dsk p s) t (fun d2 _=>some {dsk p s with H6:=t,A7:=d2}) n d k=some (dsk p (B4e p s t)):=fun n=>by
  induction n with
  | zero=>intro k d _ _ _ h;omega
  | succ n ih =>
   intro k d h1 h2 h3 h h4
   rw[T6]
   by_cases hk:k<p.batteries.length
   ·have hb:=(ho.b k hk).2
    have hl:=hs.l k hk
    have hc:=(ho.b k hk).1
    have hm:=B4n (a:=t-s.now) oM hb
    rw[if_pos (by show(k:Int)<(p.batteries.length:Int);omega),show P3 (dsk p s).E7 k=some p.batteries[k]from H3 hk,oS,show P3 (dsk p s).B0 k=some (s.on_[k]'oM)from H3 (show k<s.on_.length by omega),oS,S0 oM]
    have ek:B0f p s t k=bif s.on_[k]'oM then max 0 (s.left.getD k 0-(t-s.now)*p.batteries[k].rate)else s.left.getD k 0:=by
     unfold B0f
     rw[J6 false (by omega:k<s.on_.length),J6 default hk]
    rw[J6 default hk]at hm hb
    cases ho2:s.on_[k]'oM with
    | true =>
     rw[ho2,cT]at ek
     rw[if_pos rfl,H3 (by omega:k<d.length),oS,← J6 0 (by omega:k<d.length),h3 k (Nat.le_refl _)]
     unfold A5g
     have w1:W (t-s.now)=t-s.now:=A8K oM oM
     have w2:W ((t-s.now)*p.batteries[k].rate)=(t-s.now)*p.batteries[k].rate:=A8K oM oM
     have w3:W (s.left.getD k 0-(t-s.now)*p.batteries[k].rate)=s.left.getD k 0-(t-s.now)*p.batteries[k].rate:=A8K oM oM
     rw[oS]
     show T6 F (dsk p s) t _ n (d.set (k:Int).toNat (max 0 (W (s.left.getD k 0-W (W (t-s.now)*p.batteries[k].rate))))) _=_
     rw[w1,w2,w3]
     have hkn:(k:Int).toNat=k:=by omega
     rw[hkn]
     refine ih (k+1) _ (by rw[List.length_set];exact h1) (fun j hj=>?_) (fun j hj=>?_) oM oM
     ·rw[sG oM]
      by_cases e:j=k
      ·rw[if_pos e,e,ek]
      ·rw[if_neg e];exact h2 j oM
     ·rw[sG oM,if_neg oM];exact h3 j oM
    | false =>
     rw[ho2,cF]at ek
     rw[if_neg sM]
     refine ih (k+1) d h1 (fun j hj=>?_) (fun j hj=>h3 j oM) oM oM
     by_cases e:j=k
     ·rw[e,ek];exact h3 k (Nat.le_refl _)
     ·exact h2 j oM
   ·rw[if_neg (by show ¬ (k:Int)<(p.batteries.length:Int);omega)]
    have:d=B14 p.batteries.length (B0f p s t):=B2D 0 h1 fun j hj=>h2 j oM
    rw[this]
    rfl
 exact key F 0 s.left k2 (fun j hj=>by omega) (fun j _=>rfl) oM oM
theorem B5P {p:D4} {s:H2} (ho:A5Y p) (hs:CF p s) {t:Int} (ht:s.now≤t∧t≤100000):CF p (B4e p s t) where
 lb:=hs.lb
 le:=hs.le
 lg:=hs.lg
 ll:=B15 _ _
 lo:=hs.lo
 now:=by have:=hs.now;show 0≤t∧t≤100000;omega
 b k hk:=by have:=hs.b k hk;show -1≤s.begun.getD k 0∧s.begun.getD k 0≤t;omega
 e k hk:=by have:=hs.e k hk;show -1≤s.ended.getD k 0∧s.ended.getD k 0≤t;omega
 l k hk:=by
  show 0≤(B14 p.batteries.length (B0f p s t)).getD k 0∧(B14 p.batteries.length (B0f p s t)).getD k 0≤_
  rw[B48 hk]
  have hl:=hs.l k hk
  have hn:=hs.now
  have hm:=B4n (a:=t-s.now) oM (ho.b k hk).2
  unfold B0f
  cases s.on_.getD k false
  ·rw[cF];exact hl
  ·rw[cT];omega
 pd:=hs.pd
def scD (p:D4):Except Int H2→Except Int F7
 | .ok s => .ok (dsk p s)
 | .error e => .error e
theorem Z0 {α:Type} (F:Nat) (b:Bool) (w:Int) (f:Int→Option α) (g:Unit→Option α):((P4 F b w).bind fun rv=>exE rv f g)=bif b then g ()else f w:=by cases b<;>rfl
theorem B3C {σ α:Type} (l:List α) (d:α) (h:σ→α→σ) (s:σ):(List.range' 0 l.length).foldl (fun s k=>h s (l.getD k d)) s=l.foldl h s:=by
 have key:∀ m k s,k+m=l.length→(List.range' k m).foldl (fun s k=>h s (l.getD k d)) s=(l.drop k).foldl h s:=fun m=>by
  induction m with
  | zero=>intro k s hk;rw[lL oM];rfl
  | succ m ih =>
   intro k s hk
   rw[List.range'_succ,List.foldl_cons,ih (k+1) _ oM,lD (by omega:k<l.length),List.foldl_cons,J6 d oM]
 simpa using key l.length 0 s oM
theorem A6T {F:Nat} {l:List Int} (hl:l.length<F∧l.length<9223372036854775808) (v:Int):S9 F l v=some (l.any fun e=>decide (v=e)):=by
 obtain⟨r,h1,h2⟩:=A6P (g:=T0 F l v (fun _=>some (-1))) (s:=l) (p:=fun e=>decide (v=e)) (fun n k hk=>by rw[T0,if_pos oM,H3 hk,oS,S0 oM];simp only[decide_eq_true_eq]) (fun n=>by rw[T0,if_neg oM]) F 0 oM oM
 rw[S9,A2x,show(0:Int)=((0:Nat):Int)from rfl,h1,oS,show((0:Nat):Int)=0 from rfl,h2,List.drop_zero]
theorem B1A {F:Nat} {l:List Bool} (hl:l.length<F∧l.length<9223372036854775808) (v:Bool):A0H F l v=some (l.any fun e=>v==e):=by
 obtain⟨r,h1,h2⟩:=A6P (g:=V7 F l v (fun _=>some (-1))) (s:=l) (p:=fun e=>v==e) (fun n k hk=>by rw[V7,if_pos oM,H3 hk,oS,S0 oM]) (fun n=>by rw[V7,if_neg oM]) F 0 oM oM
 rw[A0H,A2Y,show(0:Int)=((0:Nat):Int)from rfl,h1,oS,show((0:Nat):Int)=0 from rfl,h2,List.drop_zero]
theorem B0F {m:Nat} {l:List Int} (h:A6a l=true) (hl:∀ n∈l,0≤n∧n<m):l.length≤m:=B59 h hl
def A4N (x:E0) (s:H2):Bool:=!x.poll || !s.go.any (fun e=>false==e)
theorem B2j {F:Nat} {p:D4} {s:H2} (hF:100<F) (ho:A5Y p) (hs:CF p s) (x:E0):Z4 F (dsk p s) x=some (bif A4N x s then .ok (dsk p s)else .error 184):=by
 have:=ho.s8;have:=hs.lg
 rw[Z4,B1A (by show s.go.length<F∧s.go.length<_;omega),oS,Z0,Z0]
 unfold A4N
 cases x.poll
 ·rfl
 ·rw[if_pos rfl]
  show(bif !(s.go.any fun e=>false==e)then _ else _)=_
  cases s.go.any (fun e=>false==e)<;>rfl
def A1Y (x:E0) (s:H2) (others:List Int):Bool:=x.use_.all fun b=>decide (0<s.left.getD b.toNat 0)&&(s.on_.getD b.toNat false||others.any fun e=>decide (b=e))
theorem B1s {p:D4} {s:H2} {k:Nat} {x:E0} (hs:CF p s) (hx:B0B p k x) {j:Nat} (hj:j<x.use_.length):P3 (dsk p s).A7 x.use_[j]=some (s.left.getD x.use_[j].toNat 0)∧P3 (dsk p s).B0 x.use_[j]=some (s.on_.getD x.use_[j].toNat false):=by
 obtain⟨h1,h2⟩:=hx.us _ (List.getElem_mem hj)
 have k1:=hs.ll;have k2:=hs.lo
 have e:x.use_[j]=((x.use_[j].toNat:Nat):Int):=by omega
 constructor
 ·show P3 s.left x.use_[j]=_
  rw[e,H3 (by omega:x.use_[j].toNat<s.left.length),← e,J6 0 oM]
 ·show P3 s.on_ x.use_[j]=_
  rw[e,H3 (by omega:x.use_[j].toNat<s.on_.length),← e,J6 false oM]
theorem B5s {F:Nat} {p:D4} {s:H2} {k:Nat} {x:E0} (hF:100<F) (ho:A5Y p) (hs:CF p s) (hx:B0B p k x) {others:List Int} (hl:others.length<F∧others.length<9223372036854775808):X7 F (dsk p s) x others=some (bif A1Y x s others then .ok (dsk p s)else .error 185):=by
 have hu:=B0F hx.ua hx.us
 have hb:=ho.b6
 rw[X7]
 have:=A4H (g:=Q5 F (dsk p s) x others fun _=>some (.ok (dsk p s))) (f:=fun j=>decide (0<s.left.getD (x.use_.getD j 0).toNat 0)&&(s.on_.getD (x.use_.getD j 0).toNat false||others.any fun e=>decide (x.use_.getD j 0=e))) (len:=x.use_.length) (c:=some (.ok (dsk p s))) (fl:=some (.error 185)) (fun n j hj=>?_) (fun n=>by rw[Q5,if_neg oM]) F 0 oM oM
 ·refine this.trans ?_
  rw[Nat.sub_zero,A93 x.use_ 0 (fun b=>decide (0<s.left.getD b.toNat 0)&&(s.on_.getD b.toNat false||others.any fun e=>decide (b=e)))]
  show(bif A1Y x s others then _ else _)=_
  cases A1Y x s others<;>rfl
 ·obtain⟨h1,h2⟩:=B1s hs hx hj
  rw[Q5,if_pos oM,H3 hj,oS,h1,oS,h2,oS,A6T hl,oS,S0 oM,J6 0 hj]
  simp only[Z0,cT,cF,A4e,A0q]
  cases decide (0<s.left.getD x.use_[j].toNat 0)<;>cases s.on_.getD x.use_[j].toNat false<;>cases(others.any fun e=>decide (x.use_[j]=e))<;>rfl
theorem B4g {F:Nat} {p:D4} {s:H2} {k:Nat} {x:E0} (hF:100<F) (ho:A5Y p) (hs:CF p s) (hx:B0B p k x):Y6 F (dsk p s) x=some (bif A1Y x s []then .ok (dsk p s)else .error 185):=by
 have hu:=B0F hx.ua hx.us
 have hb:=ho.b6
 rw[Y6]
 have:=A4H (g:=P2 F (dsk p s) x fun _=>some (.ok (dsk p s))) (f:=fun j=>decide (0<s.left.getD (x.use_.getD j 0).toNat 0)&&(s.on_.getD (x.use_.getD j 0).toNat false||([]:List Int).any fun e=>decide (x.use_.getD j 0=e))) (len:=x.use_.length) (c:=some (.ok (dsk p s))) (fl:=some (.error 185)) (fun n j hj=>?_) (fun n=>by rw[P2,if_neg oM]) F 0 oM oM
 ·refine this.trans ?_
  rw[Nat.sub_zero,A93 x.use_ 0 (fun b=>decide (0<s.left.getD b.toNat 0)&&(s.on_.getD b.toNat false||([]:List Int).any fun e=>decide (b=e)))]
  show(bif A1Y x s []then _ else _)=_
  cases A1Y x s []<;>rfl
 ·obtain⟨h1,h2⟩:=B1s hs hx hj
  rw[P2,if_pos oM,H3 hj,oS,h1,oS,h2,oS,A6T (l:=[]) ⟨by simp;omega,by simp⟩,oS,S0 oM,J6 0 hj]
  simp only[Z0,cT,cF,A4e,A0q]
  cases decide (0<s.left.getD x.use_[j].toNat 0)<;>cases s.on_.getD x.use_[j].toNat false<;>rfl
def A6e (s:H2) (k:Nat):Bool:=decide (0≤s.ended.getD k 0)
def B2o (s:H2) (k:Nat):Bool:=decide (0≤s.begun.getD k 0) && !A6e s k
theorem B2C {F:Nat} {p:D4} {s:H2} (hs:CF p s) {k:Nat} (hk:k<p.steps.length):Y5 F (dsk p s) k=some (A6e s k):=by
 have:=hs.le
 rw[Y5,show P3 (dsk p s).A5 k=some (s.ended[k]'oM)from H3 (show k<s.ended.length by omega),oS,A6e,J6 0 oM]
theorem B9l {F:Nat} {p:D4} {s:H2} (hs:CF p s) {k:Nat} (hk:k<p.steps.length):A0R F (dsk p s) k=some (B2o s k):=by
 have:=hs.lb
 rw[A0R,show P3 (dsk p s).A1 k=some (s.begun[k]'oM)from H3 (show k<s.begun.length by omega),oS,B2C hs hk,oS,B2o,J6 0 oM]
 simp only[A4e]
 cases decide (0≤s.begun[k]'oM)<;>rfl
theorem B2K {F:Nat} {p:D4} {s:H2} (ho:A5Y p):U8 F (dsk p s)=some ((p.steps.length-1:Nat):Int):=by
 have:=ho.t1;have:=ho.t16
 rw[U8]
 show some (W ((p.steps.length:Int)-1))=_
 rw[B23 oM oM]
def onL (l:List Int) (v:Bool) (o:List Bool):List Bool:=l.foldl (fun o b=>o.set b.toNat v) o
theorem B5M (l:List Int) (v:Bool):∀ o:List Bool,(onL l v o).length=o.length:=by
 induction l with
 | nil=>intro o;rfl
 | cons x l ih=>intro o;show(onL l v (o.set x.toNat v)).length=_;rw[ih,List.length_set]
theorem B2c (l:List Int) (v:Bool) (o:List Bool):(List.range' 0 l.length).foldl (fun o j=>o.set (l.getD j 0).toNat v) o=onL l v o:=B3C l 0 (fun o b=>o.set b.toNat v) o
def B0G (p:D4) (s:H2) (i:Nat) (t:Int):Except Int H2 :=
 bif decide (s.begun.getD i 0<0)then
  bif (p.steps.getD i default).need.all (fun n=>A6e s n.toNat)then
   bif !s.held then
    bif A4N (p.steps.getD i default) s then
     bif A1Y (p.steps.getD i default) s (p.steps.getD i default).on_ then
      .ok {s with begun:=s.begun.set i t,on_:=onL (p.steps.getD i default).on_ true s.on_}
     else .error 185
    else .error 184
   else .error 183
  else .error 182
 else .error 181
theorem B9y {p:D4} {o:List Bool} (h:o.length=p.batteries.length) {b:Int} (hb:0≤b∧b<p.batteries.length):∃ e,P3 o b=some e:=by
 obtain⟨m,rfl⟩:∃ m:Nat,b=m:=⟨b.toNat,by omega⟩
 exact⟨_,H3 oM⟩
theorem B6n {F:Nat} {p:D4} {s:H2} (hF:100<F) (hf:CtF F p) (ho:A5Y p) (hs:CF p s) {i:Nat} (hi:i<p.steps.length) {e:C7} (he:e.what=i):A0X F (dsk p s) e=some (scD p (B0G p s i e.at_)):=by
 have hx:=ho.t i hi
 have hxF:=hf.st _ (List.getElem_mem hi)
 have k1:=hs.lb;have k2:=ho.t16;have k3:=ho.b6
 have hn:=B0F hx.na hx.nd
 have hon:=B0F hx.oa hx.on
 rw[J6 default hi]at hx hn hon
 rw[A0X,he,show P3 (dsk p s).F8 i=some p.steps[i]from H3 hi,oS,show P3 (dsk p s).A1 i=some (s.begun[i]'oM)from H3 (show i<s.begun.length by omega),oS,Z0]
 unfold B0G
 rw[J6 default hi,J6 0 (by omega:i<s.begun.length)]
 cases decide (s.begun[i]'oM<0)with
 | false=>rfl
 | true =>
  rw[cT,cT]
  have:=A4H (g:=T4 F (dsk p s) p.steps[i] fun _=>(P4 F (!(dsk p s).F9) 183).bind fun rv4=>exE rv4 (fun x4=>some (.error x4)) (fun v3=>(Z4 F (dsk p s) p.steps[i]).bind fun rv5=>exE rv5 (fun x5=>some (.error x5)) (fun v4=>(X7 F v4 p.steps[i] p.steps[i].on_).bind fun rv6=>exE rv6 (fun x6=>some (.error x6)) (fun v5=>(P3 v5.A1 i).bind fun e4=>(A5g v5.A1 i e.at_).bind fun q=>P8 F p.steps[i] (fun(t2:(List Bool)) (x7:Int)=>some (.ok {v5 with A1:=q,B0:=t2})) F v5.B0 0))))
   (f:=fun j=>A6e s (p.steps[i].need.getD j 0).toNat) (len:=p.steps[i].need.length) (fl:=some (.error 182)) (fun n j hj=>?_) (fun n=>by rw[T4,if_neg oM]) F 0 oM oM
  ·refine this.trans ?_
   rw[Nat.sub_zero,A93 p.steps[i].need 0 (fun n=>A6e s n.toNat)]
   cases p.steps[i].need.all (fun n=>A6e s n.toNat)with
   | false=>rfl
   | true =>
    rw[cT,cT,Z0]
    show(bif !s.held then _ else _)=_
    cases hh:!s.held with
    | false=>rfl
    | true =>
     rw[cT,cT,B2j hF ho hs,oS]
     cases A4N p.steps[i] s with
     | false=>rfl
     | true =>
      rw[cT,cT]
      show((X7 F (dsk p s) p.steps[i] p.steps[i].on_).bind _)=_
      rw[B5s hF ho hs hx oM,oS]
      cases A1Y p.steps[i] s p.steps[i].on_ with
      | false=>rfl
      | true =>
       rw[cT,cT]
       show((P3 s.begun i).bind _)=_
       rw[H3 (by omega:i<s.begun.length),oS]
       show P8 F p.steps[i] (fun t2 _=>some (.ok {dsk p s with A1:=s.begun.set i e.at_,B0:=t2})) F s.on_ 0=_
       refine(A5I (g:=P8 F p.steps[i] fun t2 _=>some (.ok {dsk p s with A1:=s.begun.set i e.at_,B0:=t2})) (f:=fun o j=>o.set (p.steps[i].on_.getD j 0).toNat true) (len:=p.steps[i].on_.length) (c:=fun t2=>some (.ok {dsk p s with A1:=s.begun.set i e.at_,B0:=t2})) (fun o _=>o.length=p.batteries.length) (fun o k _ h=>by rw[List.length_set];exact h) (fun n o k hk h=>?_) (fun n o h=>by rw[P8,if_neg oM]) F s.on_ 0 hs.lo oM oM).trans ?_
       ·obtain⟨q,hq⟩:=B9y h (hx.on _ (List.getElem_mem hk))
        rw[P8,if_pos oM,H3 hk,oS,hq,oS,J6 0 hk,S0 oM]
        rfl
       ·rw[Nat.sub_zero,B2c]
        rfl
  ·have hd:=hx.nd _ (List.getElem_mem hj)
   have e1:p.steps[i].need[j]=((p.steps[i].need[j].toNat:Nat):Int):=by omega
   rw[T4,if_pos oM,H3 hj,oS,J6 0 hj]
   rw[show Y5 F (dsk p s) p.steps[i].need[j]=some (A6e s p.steps[i].need[j].toNat) by rw[e1,B2C hs oM];rfl,oS,Z0,S0 oM]
theorem B9H {α β:Type} (a:α) (f:Int→β) (g:α→β):exE (.ok a) f g=g a:=rfl
def A8L (p:D4) (s:H2) (a:D2):Except Int H2:=bif decide ((DoP (A1w p) (B1c s) a).2=0)then .ok (B3q s (DoP (A1w p) (B1c s) a).1)else .error (DoP (A1w p) (B1c s) a).2
theorem B7l {F:Nat} {p:D4} {s:H2} (hf:CtF F p) (hs:StF F (B1c s)) (a:D2):A07 F (dsk p s) a=some (scD p (A8L p s a)):=by
 rw[A07,show A7D F _ _ a=some (DoP (A1w p) (B1c s) a)from B2e hf.pd hs,oS,Z0]
 unfold A8L
 cases decide ((DoP (A1w p) (B1c s) a).2=0)<;>rfl
def PdK (p:D4) (s:H2):Prop:=∀ F,A5x F (A1w p)→StF F (B1c s)
theorem B24 {p:D4} {s s':H2} {a:D2} (hs:PdK p s) (h:A8L p s a = .ok s'):PdK p s':=fun F hF=>by
 unfold A8L at h
 cases hd:decide ((DoP (A1w p) (B1c s) a).2=0)with
 | false=>rw[hd]at h;cases h
 | true =>
  rw[hd,cT]at h
  injection h with h
  subst h
  exact B81 hF (hs F hF)
def A8v (p:D4) (t:Int):List D2→H2→Except Int H2
 | [],s => .ok s
 | a::l,s=>match A8L p s {a with at_:=t}with
  | .ok s'=>A8v p t l s'
  | .error e => .error e
abbrev B7z (F:Nat) (e:C7) (x:E0) (K:F7→Option (Except Int F7)) (n:Nat) (d:F7) (k:Int):Option (Except Int F7):=A0k F e x (fun t2 t3 t4 t5 t6 t7 t8 t9 t10 t11 t12 t13 t14 t15 t16 t17 t18 t19 t20 t21 t22 t23 t24 t25 t26 t27 _=>K (F7.mk t2 t3 t4 t5 t6 t7 t8 t9 t10 t11 t12 t13 t14 t15 t16 t17 t18 t19 t20 t21 t22 t23 t24 t25 t26 t27)) n d.H0 d.G8 d.G2 d.H4 d.G3 d.G9 d.H5 d.H9 d.E7 d.F8 d.I9 d.D8 d.G0 d.H6 d.G5 d.F5 d.E8 d.E5 d.F3 d.F4 d.A1 d.A5 d.F9 d.B1 d.A7 d.B0 k
theorem B4P (F:Nat) (e:C7) (x:E0) (K:F7→Option (Except Int F7)) (n:Nat) (d:F7) (k:Int):B7z F e x K (n+1) d k=if k<(x.acts.length:Int)then((P3 x.acts k).bind fun e3=>(A07 F d {e3 with at_:=e.at_}).bind fun rv=>exE rv (fun w=>some (.error w)) fun v=>B7z F e x K n v (W (k+1)))else K d:=rfl
theorem B1L {F:Nat} {p:D4} (hf:CtF F p) {e:C7} {x:E0} (hx:x.acts.length≤8) {K:F7→Option (Except Int F7)}:∀ (n k:Nat) (s:H2),PdK p s→x.acts.length<n+k→k≤x.acts.length →
  B7z F e x K n (dsk p s) k=match A8v p e.at_ (x.acts.drop k) s with | .ok s'=>K (dsk p s') | .error w=>some (.error w)
 | 0,k,s,_,h,h2=>absurd h oM
 | n+1,k,s,hs,h,h2=>by
  rw[B4P]
  by_cases hk:k<x.acts.length
  ·rw[if_pos oM,H3 hk,oS,lD hk,S0 oM]
   change _=match (match A8L p s {x.acts[k]with at_:=e.at_}with | .ok s'=>A8v p e.at_ (x.acts.drop (k+1)) s' | .error e => .error e)with | .ok s'=>K (dsk p s') | .error w=>some (.error w)
   rw[B7l hf (hs F hf.pd),oS]
   cases ha:A8L p s {x.acts[k]with at_:=e.at_}with
   | error w=>rfl
   | ok s'=>exact B1L hf hx n (k+1) s' (B24 hs ha) oM oM
  ·rw[if_neg oM,lL oM]
   rfl
theorem A83 {p:D4} {t:Int}:∀ {l:List D2} {s s':H2},A8v p t l s = .ok s'→PdK p s→PdK p s'∧s'.now=s.now∧s'.begun=s.begun∧s'.ended=s.ended∧s'.held=s.held∧s'.go=s.go∧s'.left=s.left∧s'.on_=s.on_
 | [],s,s',h,hs=>by injection h with h;subst h;exact⟨hs,rfl,rfl,rfl,rfl,rfl,rfl,rfl⟩
 | a::l,s,s',h,hs=>by
  change (match A8L p s {a with at_:=t}with | .ok s'=>A8v p t l s' | .error e => .error e)=_ at h
  cases ha:A8L p s {a with at_:=t}with
  | error w=>rw[ha]at h;cases h
  | ok s2 =>
   rw[ha]at h
   obtain⟨h0,h1,h2,h3,h4,h5,h6,h7⟩:=A83 h (B24 hs ha)
   have hd:∃ d,s2=B3q s d:=by
    unfold A8L at ha
    cases hd:decide ((DoP (A1w p) (B1c s) {a with at_:=t}).2=0)with
    | false=>rw[hd]at ha;cases ha
    | true=>rw[hd,cT]at ha;injection ha with ha;exact⟨_,ha.symm⟩
   obtain⟨d,rfl⟩:=hd
   exact⟨h0,h1,h2,h3,h4,h5,h6,h7⟩
def B7v (p:D4) (s:H2) (i:Nat) (t:Int):Except Int H2 :=
 bif B2o s i then
  bif !N9 (t-s.begun.getD i 0) (p.steps.getD i default).least (p.steps.getD i default).most then
   bif A4N (p.steps.getD i default) s then
    bif A1Y (p.steps.getD i default) s []then
     bif decide (i<p.steps.length-1) || !N9 t p.Q8 p.O8 then
      match A8v p t (p.steps.getD i default).acts s with
      | .ok s' => .ok {s' with ended:=s'.ended.set i t,on_:=onL (p.steps.getD i default).off false s'.on_}
      | .error e => .error e
     else .error 187
    else .error 185
   else .error 184
  else .error 186
 else .error 181
theorem B6y {F:Nat} {p:D4} {s:H2} (hF:100<F) (hf:CtF F p) (ho:A5Y p) (hs:CF p s) {i:Nat} (hi:i<p.steps.length) {e:C7} (he:e.what=i) :
 A0j F e p.steps[i] (dsk p s)=some (scD p (match A8v p e.at_ p.steps[i].acts s with | .ok s' => .ok {s' with ended:=s'.ended.set i e.at_,on_:=onL p.steps[i].off false s'.on_} | .error e => .error e)):=by
 have hx:=ho.t i hi
 have k3:=ho.b6
 have hoff:=B0F hx.fa hx.off
 rw[J6 default hi]at hx hoff
 rw[A0j,he]
 refine(B1L hf hx.a (K:=fun d=>(P3 d.A5 i).bind fun e4=>(A5g d.A5 i e.at_).bind fun t28=>R6 F p.steps[i] (fun t29 _=>some (.ok {d with A5:=t28,B0:=t29})) F d.B0 0) F 0 s hs.pd (by have:=hx.a;omega) oM).trans ?_
 rw[List.drop_zero]
 cases ha:A8v p e.at_ p.steps[i].acts s with
 | error w=>rfl
 | ok s' =>
  obtain⟨h0,h1,h2,h3,h4,h5,h6,h7⟩:=A83 ha hs.pd
  have le:s'.ended.length=p.steps.length:=by rw[h3];exact hs.le
  have lo:s'.on_.length=p.batteries.length:=by rw[h7];exact hs.lo
  show(P3 s'.ended i).bind _=_
  rw[H3 (by omega:i<s'.ended.length),oS]
  show R6 F p.steps[i] (fun t29 _=>some (.ok {dsk p s' with A5:=s'.ended.set i e.at_,B0:=t29})) F s'.on_ 0=_
  refine(A5I (g:=R6 F p.steps[i] fun t29 _=>some (.ok {dsk p s' with A5:=s'.ended.set i e.at_,B0:=t29})) (f:=fun o j=>o.set (p.steps[i].off.getD j 0).toNat false) (len:=p.steps[i].off.length) (c:=fun t29=>some (.ok {dsk p s' with A5:=s'.ended.set i e.at_,B0:=t29})) (fun o _=>o.length=p.batteries.length) (fun o k _ h=>by rw[List.length_set];exact h) (fun n o k hk h=>?_) (fun n o h=>by rw[R6,if_neg oM]) F s'.on_ 0 lo oM oM).trans ?_
  ·obtain⟨q,hq⟩:=B9y h (hx.off _ (List.getElem_mem hk))
   rw[R6,if_pos oM,H3 hk,oS,hq,oS,J6 0 hk,S0 oM]
   rfl
  ·rw[Nat.sub_zero,B2c]
   rfl
theorem B8B {F:Nat} {p:D4} {s:H2} (hF:100<F) (hf:CtF F p) (ho:A5Y p) (hs:CF p s) {i:Nat} (hi:i<p.steps.length) {e:C7} (he:e.what=i) (ht:e.at_=s.now):A1O F (dsk p s) e=some (scD p (B7v p s i e.at_)):=by
 have hx:=ho.t i hi
 have k1:=hs.lb;have k2:=ho.t16
 have kb:=hs.b i hi
 have kn:=hs.now
 have tl:=B6y hF hf ho hs hi he
 rw[J6 default hi]at hx
 rw[A1O,he,show P3 (dsk p s).F8 i=some p.steps[i]from H3 hi,oS,B9l hs hi,oS,Z0]
 unfold B7v
 rw[J6 default hi]
 rw[J6 0 (by omega:i<s.begun.length)]at kb ⊢
 cases B2o s i with
 | false=>rfl
 | true =>
  rw[cT,cT,show P3 (dsk p s).A1 i=some (s.begun[i]'oM)from H3 (show i<s.begun.length by omega),oS,X2,oS,Z0,A8K oM oM]
  cases !N9 (e.at_-s.begun[i]'oM) p.steps[i].least p.steps[i].most with
  | false=>rfl
  | true =>
   rw[cT,cT,B2j hF ho hs,oS]
   cases A4N p.steps[i] s with
   | false=>rfl
   | true =>
    rw[cT,cT]
    show(Y6 F (dsk p s) p.steps[i]).bind _=_
    rw[B4g hF ho hs hx,oS]
    cases A1Y p.steps[i] s []with
    | false=>rfl
    | true =>
     rw[cT,cT]
     rw[B9H,B2K ho,oS,Z0,X2,oS,Z0,tl]
     by_cases hl:i<p.steps.length-1
     ·rw[if_pos oM,dT hl];rfl
     ·rw[if_neg oM,dF hl,Bool.false_or]
      show(bif !N9 e.at_ p.Q8 p.O8 then _ else _)=_
      cases !N9 e.at_ p.Q8 p.O8<;>rfl
def B5G (s:H2) (k:Int):Except Int H2:=bif s.held != decide (k=3)then .ok {s with held:=decide (k=3)}else .error 181
theorem B3I {F:Nat} {p:D4} {s:H2} (e:C7):A08 F (dsk p s) e=some (scD p (B5G s e.kind)):=by
 rw[A08,Z0]
 unfold B5G
 show(bif s.held != decide (e.kind=3)then _ else _)=_
 cases s.held != decide (e.kind=3)<;>rfl
def B9m (s:H2) (k:Int) (i:Nat):Except Int H2:=bif s.go.getD i false != decide (k=5)then .ok {s with held:=s.held || !decide (k=5),go:=s.go.set i (decide (k=5))}else .error 181
theorem B5X {F:Nat} {p:D4} {s:H2} (hs:CF p s) {i:Nat} (hi:i<p.stations.length) {e:C7} (he:e.what=i):A0K F (dsk p s) e=some (scD p (B9m s e.kind i)):=by
 have k1:=hs.lg
 rw[A0K,he,show P3 (dsk p s).B1 i=some (s.go[i]'oM)from H3 (show i<s.go.length by omega),oS,Z0]
 unfold B9m
 rw[J6 false (by omega:i<s.go.length)]
 cases s.go[i]'oM != decide (e.kind=5)with
 | false=>rfl
 | true =>
  rw[cT,cT]
  unfold A5g
  rw[oS]
  show(if s.held=true then some (Except.ok {dsk p s with F9:=true,B1:=s.go.set i (decide (e.kind=5))})else some (Except.ok {dsk p s with F9:=!decide (e.kind=5),B1:=s.go.set i (decide (e.kind=5))}))=some (Except.ok {dsk p s with F9:=s.held || !decide (e.kind=5),B1:=s.go.set i (decide (e.kind=5))})
  cases s.held<;>rfl
def A6r (p:D4) (l:List Int) (from_:Nat):List Int:=B14 p.steps.length fun k=>if from_≤k then -1 else l.getD k 0
def B9i (p:D4) (s:H2) (i:Nat):Except Int H2 :=
 bif decide (0≤s.begun.getD (p.points.getD i 0).toNat 0)then
  bif !s.J3.any (fun e=>decide ((1:Int)=e))then
   .ok {s with begun:=A6r p s.begun (p.points.getD i 0).toNat,ended:=A6r p s.ended (p.points.getD i 0).toNat,held:=true,go:=List.replicate s.go.length false,on_:=List.replicate s.on_.length false}
  else .error 188
 else .error 181
theorem B4o {F:Nat} {p:D4} {s:H2} (hF:100<F) (hf:CtF F p) (ho:A5Y p) (hs:CF p s) {i:Nat} (hi:i<p.points.length) {e:C7} (he:e.what=i):A05 F (dsk p s) e=some (scD p (B9i p s i)):=by
 have k1:=hs.lb;have k2:=hs.le;have k16:=ho.t16
 have hp:=ho.pt i hi
 have hq:=(hs.pd F hf.pd).q
 rw[J6 0 hi]at hp
 obtain⟨m,hm⟩:∃ m:Nat,p.points[i]=m:=⟨p.points[i].toNat,by omega⟩
 have hm':m<p.steps.length:=by omega
 rw[A05,he,show P3 (dsk p s).I9 i=some p.points[i]from H3 hi,oS,hm,show P3 (dsk p s).A1 m=some (s.begun[m]'oM)from H3 (show m<s.begun.length by omega),oS,Z0]
 unfold B9i
 rw[J6 0 hi,hm,show(m:Int).toNat=m by omega,J6 0 (by omega:m<s.begun.length)]
 cases decide (0≤s.begun[m]'oM)with
 | false=>rfl
 | true =>
  rw[cT,cT,A6T (l:=s.J3) (by have:s.J3.length<F∧s.J3.length≤17592186044416:=hq;omega),oS,Z0]
  cases !s.J3.any (fun e=>decide ((1:Int)=e))with
  | false=>rfl
  | true =>
   rw[cT,cT]
   have key:∀ (n k:Nat) (a b:List Int),m≤k→a.length=p.steps.length→b.length=p.steps.length→(∀ j,a.getD j 0=if m≤j∧j<k then -1 else s.begun.getD j 0)→(∀ j,b.getD j 0=if m≤j∧j<k then -1 else s.ended.getD j 0)→p.steps.length<n+k→k≤p.steps.length →
    U1 F (dsk p s) (fun t2 t3 _=>(B6t (dsk p s).B1 false).bind fun q=>(B6t (dsk p s).B0 false).bind fun q2=>some (.ok {dsk p s with A1:=t2,A5:=t3,F9:=true,B1:=q,B0:=q2})) n a b k
     = some (.ok (dsk p {s with begun:=A6r p s.begun m,ended:=A6r p s.ended m,held:=true,go:=List.replicate s.go.length false,on_:=List.replicate s.on_.length false})):=fun n=>by
    induction n with
    | zero=>intro k a b _ _ _ _ _ h;omega
    | succ n ih =>
     intro k a b hmk ha hb h1 h2 h h'
     rw[U1,show U8 F {dsk p s with A1:=a,A5:=b}=some ((p.steps.length-1:Nat):Int)from B2K (s:={s with begun:=a,ended:=b}) ho,oS]
     by_cases hk:k<p.steps.length
     ·rw[if_pos oM,H3 (by omega:k<a.length),oS,H3 (by omega:k<b.length),S0 oM]
      unfold A5g
      rw[oS,oS,oS,show(k:Int).toNat=k by omega]
      refine ih (k+1) _ _ oM (by rw[List.length_set];exact ha) (by rw[List.length_set];exact hb) (fun j=>?_) (fun j=>?_) oM oM
      ·rw[sG oM,h1 j]
       by_cases e1:j=k
       ·rw[if_pos e1]
        by_cases e2:m≤j
        ·rw[if_pos oM]
        ·omega
       ·rw[if_neg e1]
        by_cases e2:m≤j∧j<k
        ·rw[if_pos e2,if_pos oM]
        ·rw[if_neg e2,if_neg oM]
      ·rw[sG oM,h2 j]
       by_cases e1:j=k
       ·rw[if_pos e1]
        by_cases e2:m≤j
        ·rw[if_pos oM]
        ·omega
       ·rw[if_neg e1]
        by_cases e2:m≤j∧j<k
        ·rw[if_pos e2,if_pos oM]
        ·rw[if_neg e2,if_neg oM]
     ·rw[if_neg oM]
      have ea:a=A6r p s.begun m:=B2D 0 ha fun j hj=>by
       rw[h1 j]
       by_cases e2:m≤j
       ·rw[if_pos oM,if_pos e2]
       ·rw[if_neg oM,if_neg e2]
      have eb:b=A6r p s.ended m:=B2D 0 hb fun j hj=>by
       rw[h2 j]
       by_cases e2:m≤j
       ·rw[if_pos oM,if_pos e2]
       ·rw[if_neg oM,if_neg e2]
      rw[ea,eb]
      rfl
   exact key F m s.begun s.ended (Nat.le_refl _) k1 k2 (fun j=>by rw[if_neg oM]) (fun j=>by rw[if_neg oM]) oM oM
def B0v (p:D4) (s:H2) (i:Nat):Except Int H2:=bif !s.on_.getD i false then .ok {s with left:=s.left.set i (p.batteries.getD i default).charge}else .error 181
theorem B4O {F:Nat} {p:D4} {s:H2} (hs:CF p s) {i:Nat} (hi:i<p.batteries.length) {e:C7} (he:e.what=i):A0G F (dsk p s) e=some (scD p (B0v p s i)):=by
 have k1:=hs.lo;have k2:=hs.ll
 rw[A0G,he,show P3 (dsk p s).B0 i=some (s.on_[i]'oM)from H3 (show i<s.on_.length by omega),oS,Z0]
 unfold B0v
 rw[J6 false (by omega:i<s.on_.length)]
 cases !s.on_[i]'oM with
 | false=>rfl
 | true =>
  rw[cT,cT,show P3 (dsk p s).E7 i=some p.batteries[i]from H3 hi,oS,show P3 (dsk p s).A7 i=some (s.left[i]'oM)from H3 (show i<s.left.length by omega),oS,J6 default hi]
  rfl
theorem B85 {F:Nat} {p:D4} {s:H2} (hf:CtF F p) (hs:CF p s) (e:C7):A1N F (dsk p s) e=some (scD p (A8L p s (A8M e))):=by
 rw[A1N,B7l hf (hs.pd F hf.pd),oS]
 cases A8L p s (A8M e)<;>rfl
def B3L (p:D4) (s:H2) (e:C7):Except Int H2 :=
 if e.kind=1 then B0G p s e.what.toNat e.at_ else if e.kind=2 then B7v p s e.what.toNat e.at_ else if e.kind=3∨e.kind=4 then B5G s e.kind else
 if e.kind=5∨e.kind=6 then B9m s e.kind e.what.toNat else if e.kind=7 then B9i p s e.what.toNat else if e.kind=8 then A8L p s (A8M e)else B0v p s e.what.toNat
def doC (p:D4) (s:H2) (e:C7):Except Int H2 :=
 bif decide (s.now≤e.at_)then(bif !A6e s (p.steps.length-1)then B3L p (B4e p s e.at_) e else .error 181)else .error 180
theorem A6Y {F:Nat} {p:D4} (o:Except Int H2):(exE (scD p o) (fun x=>some (.error x)) (fun v=>Q9 F v.H0 v.G8 v.G2 v.H4 v.G3 v.G9 v.H5 v.H9 v.E7 v.F8 v.I9 v.D8 v.G0 v.H6 v.G5 v.F5 v.E8 v.E5 v.F3 v.F4 v.A1 v.A5 v.F9 v.B1 v.A7 v.B0):Option (Except Int F7))=some (scD p o):=by cases o<;>rfl
theorem C0v {F:Nat} {p:D4} {s:H2} (hf:CtF F p) (ho:A5Y p) (hs:CF p s) {e:C7} (he:B18 p e):A1F F (dsk p s) e=some (scD p (doC p s e)):=by
 have hF:=hf.pd.f
 have t1:=ho.t1
 rw[A1F,Z0]
 unfold doC
 show(bif decide (s.now≤e.at_)then _ else _)=_
 by_cases ht:s.now≤e.at_
 ·rw[dT ht,cT,cT,B2K ho,oS,B2C hs oM,oS,Z0]
  cases !A6e s (p.steps.length-1)with
  | false=>rfl
  | true =>
   have hs2:=B5P ho hs ⟨ht,he.t.2⟩
   rw[cT,cT,B6u ho hs,oS,B8Z hF ho hs ⟨ht,he.t.2⟩,oS,if_neg (by have:=he.k;omega)]
   unfold B3L
   have wn:A3r e.kind=false→e.what=(e.what.toNat:Int):=fun h=>by have:=he.w h;omega
   by_cases h1:e.kind=1
   ·have hn:A3r e.kind=false:=by rw[h1];rfl
    have hw:=he.w hn
    have hm:A20 p e.kind=p.steps.length:=by rw[h1];rfl
    rw[if_pos h1,if_pos h1,B6n hF hf ho hs2 oM (wn hn),oS,A6Y]
   rw[if_neg h1,if_neg h1]
   by_cases h2:e.kind=2
   ·have hn:A3r e.kind=false:=by rw[h2];rfl
    have hw:=he.w hn
    have hm:A20 p e.kind=p.steps.length:=by rw[h2];rfl
    rw[if_pos h2,if_pos h2,B8B hF hf ho hs2 oM (wn hn) rfl,oS,A6Y]
   rw[if_neg h2,if_neg h2]
   by_cases h3:e.kind=3
   ·rw[if_pos h3,if_pos (.inl h3),B3I,oS,A6Y]
   rw[if_neg h3]
   by_cases h4:e.kind=4
   ·rw[if_pos h4,if_pos (.inr h4),B3I,oS,A6Y]
   rw[if_neg h4,if_neg (show ¬ (e.kind=3∨e.kind=4) by omega)]
   by_cases h5:e.kind=5
   ·have hn:A3r e.kind=false:=by rw[h5];rfl
    have hw:=he.w hn
    have hm:A20 p e.kind=p.stations.length:=by rw[h5];rfl
    rw[if_pos h5,if_pos (.inl h5),B5X hs2 oM (wn hn),oS,A6Y]
   rw[if_neg h5]
   by_cases h6:e.kind=6
   ·have hn:A3r e.kind=false:=by rw[h6];rfl
    have hw:=he.w hn
    have hm:A20 p e.kind=p.stations.length:=by rw[h6];rfl
    rw[if_pos h6,if_pos (.inr h6),B5X hs2 oM (wn hn),oS,A6Y]
   rw[if_neg h6,if_neg (show ¬ (e.kind=5∨e.kind=6) by omega)]
   by_cases h7:e.kind=7
   ·have hn:A3r e.kind=false:=by rw[h7];rfl
    have hw:=he.w hn
    have hm:A20 p e.kind=p.points.length:=by rw[h7];rfl
    rw[if_pos h7,if_pos h7,B4o hF hf ho hs2 oM (wn hn),oS,A6Y]
   rw[if_neg h7,if_neg h7]
   by_cases h8:e.kind=8
   ·rw[if_pos h8,if_pos h8,B85 hf hs2,oS,A6Y]
   have h9:e.kind=9:=by have:=he.k;omega
   have hn:A3r e.kind=false:=by rw[h9];rfl
   have hw:=he.w hn
   have hm:A20 p e.kind=p.batteries.length:=by rw[h9];rfl
   rw[if_neg h8,if_neg h8,if_pos h9,B4O hs2 oM (wn hn),oS,A6Y]
 ·rw[dF ht];rfl
theorem CF.keep {p:D4} {s s':H2} (h:CF p s) (hp:PdK p s') (h1:s'.now=s.now) (h2:s'.begun=s.begun) (h3:s'.ended=s.ended) (h5:s'.go.length=s.go.length) (h6:s'.left=s.left) (h7:s'.on_.length=s.on_.length):CF p s' where
 lb:=by rw[h2];exact h.lb
 le:=by rw[h3];exact h.le
 lg:=by rw[h5];exact h.lg
 ll:=by rw[h6];exact h.ll
 lo:=by rw[h7];exact h.lo
 now:=by rw[h1];exact h.now
 b:=by rw[h2,h1];exact h.b
 e:=by rw[h3,h1];exact h.e
 l:=by rw[h6];exact h.l
 pd:=hp
theorem B7p {p:D4} {s s':H2} {i:Nat} {t:Int} (h:B0G p s i t = .ok s'):s.begun.getD i 0<0∧(∀ n∈(p.steps.getD i default).need,A6e s n.toNat=true)∧s.held=false∧A4N (p.steps.getD i default) s=true∧A1Y (p.steps.getD i default) s (p.steps.getD i default).on_=true∧s'={s with begun:=s.begun.set i t,on_:=onL (p.steps.getD i default).on_ true s.on_}:=by
 unfold B0G at h
 by_cases h1:s.begun.getD i 0<0
 ·rw[dT h1,cT]at h
  cases h2:(p.steps.getD i default).need.all (fun n=>A6e s n.toNat)with
  | false=>rw[h2]at h;cases h
  | true =>
   rw[h2,cT]at h
   cases h3:!s.held with
   | false=>rw[h3]at h;cases h
   | true =>
    cases h4:A4N (p.steps.getD i default) s with
    | false=>rw[h3,h4]at h;cases h
    | true =>
     cases h5:A1Y (p.steps.getD i default) s (p.steps.getD i default).on_ with
     | false=>rw[h3,h4,h5]at h;cases h
     | true =>
      rw[h3,h4,h5]at h
      injection h with h
      exact⟨h1,List.all_eq_true.1 h2,by simpa using h3,rfl,rfl,h.symm⟩
 ·rw[dF h1]at h;cases h
theorem B9G {p:D4} {s s':H2} {i:Nat} {t:Int} (h:B7v p s i t = .ok s'):B2o s i=true∧((p.steps.getD i default).least≤t-s.begun.getD i 0∧t-s.begun.getD i 0≤(p.steps.getD i default).most)∧A4N (p.steps.getD i default) s=true∧A1Y (p.steps.getD i default) s []=true∧(i<p.steps.length-1∨(p.Q8≤t∧t≤p.O8)) ∧
  ∃ s2,A8v p t (p.steps.getD i default).acts s = .ok s2∧s'={s2 with ended:=s2.ended.set i t,on_:=onL (p.steps.getD i default).off false s2.on_}:=by
 unfold B7v at h
 cases h1:B2o s i with
 | false=>rw[h1]at h;cases h
 | true =>
  cases h2:N9 (t-s.begun.getD i 0) (p.steps.getD i default).least (p.steps.getD i default).most with
  | true=>rw[h1,h2]at h;cases h
  | false =>
   cases h3:A4N (p.steps.getD i default) s with
   | false=>rw[h1,h2,h3]at h;cases h
   | true =>
    cases h4:A1Y (p.steps.getD i default) s []with
    | false=>rw[h1,h2,h3,h4]at h;cases h
    | true =>
     cases h5:decide (i<p.steps.length-1) || !N9 t p.Q8 p.O8 with
     | false=>rw[h1,h2,h3,h4,h5]at h;cases h
     | true =>
      rw[h1,h2,h3,h4,h5]at h
      simp only[cT,Bool.not_false]at h
      cases h6:A8v p t (p.steps.getD i default).acts s with
      | error w=>rw[h6]at h;cases h
      | ok s2 =>
       rw[h6]at h
       injection h with h
       refine⟨rfl,O6.1 h2,rfl,rfl,?_,s2,rfl,h.symm⟩
       rw[Bool.or_eq_true,decide_eq_true_eq,Bool.not_eq_true']at h5
       rcases h5 with h5 | h5
       ·exact .inl h5
       ·exact .inr (O6.1 h5)
theorem CF.set {p:D4} {s s':H2} (h:CF p s) (hp:PdK p s') (h1:s'.now=s.now) {b e:List Int} (h2:s'.begun=b) (h3:s'.ended=e) (hb:b.length=p.steps.length∧∀ k,k<p.steps.length → -1≤b.getD k 0∧b.getD k 0≤s.now) (he:e.length=p.steps.length∧∀ k,k<p.steps.length → -1≤e.getD k 0∧e.getD k 0≤s.now) (h5:s'.go.length=s.go.length) (h6:s'.left=s.left) (h7:s'.on_.length=s.on_.length):CF p s' where
 lb:=by rw[h2];exact hb.1
 le:=by rw[h3];exact he.1
 lg:=by rw[h5];exact h.lg
 ll:=by rw[h6];exact h.ll
 lo:=by rw[h7];exact h.lo
 now:=by rw[h1];exact h.now
 b:=by rw[h2,h1];exact hb.2
 e:=by rw[h3,h1];exact he.2
 l:=by rw[h6];exact h.l
 pd:=hp
theorem B6b {l:List Int} {n i:Nat} {t m:Int} (hl:l.length=n) (h:∀ k,k<n → -1≤l.getD k 0∧l.getD k 0≤m) (hi:i<n) (ht:0≤t∧t≤m):(l.set i t).length=n∧∀ k,k<n → -1≤(l.set i t).getD k 0∧(l.set i t).getD k 0≤m:=by
 refine⟨by rw[List.length_set];exact hl,fun k hk=>?_⟩
 rw[sG oM]
 split
 ·omega
 ·exact h k hk
theorem B2m {p:D4} {l:List Int} {m:Int} {f:Nat} (h:∀ k,k<p.steps.length → -1≤l.getD k 0∧l.getD k 0≤m) (hm:0≤m):(A6r p l f).length=p.steps.length∧∀ k,k<p.steps.length → -1≤(A6r p l f).getD k 0∧(A6r p l f).getD k 0≤m:=by
 unfold A6r
 refine⟨B15 _ _,fun k hk=>?_⟩
 rw[B48 hk]
 split
 ·omega
 ·exact h k hk
theorem B2E {p:D4} {e:C7} (he:B18 p e) (hk:A3r e.kind=false):e.what.toNat<A20 p e.kind∧0≤e.what:=by
 have:=he.w hk
 omega
theorem B8H {p:D4} {s s':H2} {e:C7} (ho:A5Y p) (hs:CF p s) (he:B18 p e) (ht:s.now=e.at_) (h:B3L p s e = .ok s'):CF p s'∧s'.now=s.now:=by
 have hn:=hs.now
 unfold B3L at h
 by_cases h1:e.kind=1
 ·rw[if_pos h1]at h
  obtain⟨_,_,_,_,_,rfl⟩:=B7p h
  have hw:=B2E he (by rw[h1];rfl)
  have hm:A20 p e.kind=p.steps.length:=by rw[h1];rfl
  exact⟨hs.set hs.pd rfl rfl rfl (B6b hs.lb hs.b oM oM) ⟨hs.le,hs.e⟩ rfl rfl (B5M _ _ _),rfl⟩
 rw[if_neg h1]at h
 by_cases h2:e.kind=2
 ·rw[if_pos h2]at h
  obtain⟨_,_,_,_,_,s2,h6,rfl⟩:=B9G h
  obtain⟨k0,k1,k2,k3,k4,k5,k6,k7⟩:=A83 h6 hs.pd
  have hw:=B2E he (by rw[h2];rfl)
  have hm:A20 p e.kind=p.steps.length:=by rw[h2];rfl
  refine⟨hs.set k0 k1 rfl rfl ⟨by rw[k2];exact hs.lb,by rw[k2];exact hs.b⟩ ?_ (by rw[← k5]) (by rw[← k6]) (by rw[← k7];exact B5M _ _ _),k1⟩
  rw[k3]
  exact B6b hs.le hs.e oM oM
 rw[if_neg h2]at h
 by_cases h3:e.kind=3∨e.kind=4
 ·rw[if_pos h3]at h
  unfold B5G at h
  cases hh:s.held != decide (e.kind=3)with
  | false=>rw[hh]at h;cases h
  | true =>
   rw[hh,cT]at h
   injection h with h
   subst h
   exact⟨hs.keep hs.pd rfl rfl rfl rfl rfl rfl,rfl⟩
 rw[if_neg h3]at h
 by_cases h5:e.kind=5∨e.kind=6
 ·rw[if_pos h5]at h
  unfold B9m at h
  cases hh:s.go.getD e.what.toNat false != decide (e.kind=5)with
  | false=>rw[hh]at h;cases h
  | true =>
   rw[hh,cT]at h
   injection h with h
   subst h
   exact⟨hs.keep hs.pd rfl rfl rfl (List.length_set ..) rfl rfl,rfl⟩
 rw[if_neg h5]at h
 by_cases h7:e.kind=7
 ·rw[if_pos h7]at h
  unfold B9i at h
  cases hh:decide (0≤s.begun.getD (p.points.getD e.what.toNat 0).toNat 0)with
  | false=>rw[hh]at h;cases h
  | true =>
   cases h8:!s.J3.any (fun e=>decide ((1:Int)=e))with
   | false=>rw[hh,h8]at h;cases h
   | true =>
    rw[hh,h8,cT,cT]at h
    injection h with h
    subst h
    exact⟨hs.set hs.pd rfl rfl rfl (B2m hs.b hn.1) (B2m hs.e hn.1) (List.length_replicate ..) rfl (List.length_replicate ..),rfl⟩
 rw[if_neg h7]at h
 by_cases h8:e.kind=8
 ·rw[if_pos h8]at h
  have hp:=B24 hs.pd h
  unfold A8L at h
  cases hd:decide ((DoP (A1w p) (B1c s) (A8M e)).2=0)with
  | false=>rw[hd]at h;cases h
  | true =>
   rw[hd,cT]at h
   injection h with h
   subst h
   exact⟨hs.keep hp rfl rfl rfl rfl rfl rfl,rfl⟩
 rw[if_neg h8]at h
 have h9:e.kind=9:=by have:=he.k;omega
 have hw:=B2E he (by rw[h9];rfl)
 have hm:A20 p e.kind=p.batteries.length:=by rw[h9];rfl
 unfold B0v at h
 cases hh:!s.on_.getD e.what.toNat false with
 | false=>rw[hh]at h;cases h
 | true =>
  rw[hh,cT]at h
  injection h with h
  subst h
  refine⟨⟨hs.lb,hs.le,hs.lg,by show(s.left.set _ _).length=_;rw[List.length_set];exact hs.ll,hs.lo,hs.now,hs.b,hs.e,fun k hk=>?_,hs.pd⟩,rfl⟩
  show 0≤(s.left.set _ _).getD k 0∧(s.left.set _ _).getD k 0≤_
  rw[sG (by have:=hs.ll;omega)]
  split
  ·next e1 =>
   have:=(ho.b k hk).1
   rw[e1]at this
   rw[e1]
   omega
  ·exact hs.l k hk
theorem C0w {p:D4} {s s':H2} {e:C7} (h:doC p s e = .ok s'):s.now≤e.at_∧A6e s (p.steps.length-1)=false∧B3L p (B4e p s e.at_) e = .ok s':=by
 unfold doC at h
 by_cases h1:s.now≤e.at_
 ·rw[dT h1,cT]at h
  cases h2:A6e s (p.steps.length-1)with
  | true=>rw[h2]at h;cases h
  | false=>rw[h2]at h;exact⟨h1,rfl,h⟩
 ·rw[dF h1]at h;cases h
theorem C0u {p:D4} {s s':H2} {e:C7} (ho:A5Y p) (hs:CF p s) (he:B18 p e) (h:doC p s e = .ok s'):CF p s'∧s'.now=e.at_:=by
 obtain⟨h1,h2,h3⟩:=C0w h
 exact B8H ho (B5P ho hs ⟨h1,he.t.2⟩) he rfl h3
def A8k (p:D4):List C7→Int
 | []=>0
 | x::l=>bif decide (A5H p x=0)then A8k p l else A5H p x
theorem B2F {p:D4}:∀ {l:List C7},A8k p l=0→∀ x∈l,B18 p x
 | [],_=>fun x hx=>by simp at hx
 | y::l,h=>fun x hx=>by
  rw[A8k]at h
  by_cases h0:A5H p y=0
  ·rw[dT h0,cT]at h
   rcases List.mem_cons.1 hx with rfl | hx
   ·exact B60 h0
   ·exact B2F h x hx
  ·rw[dF h0,cF]at h;exact absurd h h0
def A7y (p:D4) (x:H2 × List Int) (e:C7):H2 × List Int:=match doC p x.1 e with
 | .ok s=>(s,x.2++[0])
 | .error w=>(x.1,x.2++[w])
def A3F (p:D4) (x:H2 × List Int) (l:List C7):H2 × List Int:=l.foldl (A7y p) x
theorem B43 {p:D4} {x:H2 × List Int} {e:C7} (ho:A5Y p) (hs:CF p x.1) (he:B18 p e):CF p (A7y p x e).1∧(A7y p x e).2.length=x.2.length+1:=by
 unfold A7y
 cases h:doC p x.1 e with
 | ok s=>exact⟨(C0u ho hs he h).1,by simp⟩
 | error w=>exact⟨hs,by simp⟩
def A0O (p:D4) (l:List C7):Option H2 × List Int × Int :=
 if(A35 p).2.2=0 then(if 100<(l.length:Int)then(none,[],3)else if A8k p l=0 then(some (A3F p (A0U p,[]) l).1,(A3F p (A0U p,[]) l).2,0)else(none,[],A8k p l))else(none,[],(A35 p).2.2)
abbrev B5Q (F:Nat) (log:List C7) (K:F7→List Int→Option ((Option F7) × (List Int) × Int)) (n:Nat) (d:F7) (why:List Int) (k:Int):Option ((Option F7) × (List Int) × Int):=A2c F log (fun d1 d2 d3 d4 d5 d6 d7 d8 d9 d10 d11 d12 d13 d14 d15 d16 d17 d18 d19 d20 d21 d22 d23 d24 d25 d26 why2 _=>K (F7.mk d1 d2 d3 d4 d5 d6 d7 d8 d9 d10 d11 d12 d13 d14 d15 d16 d17 d18 d19 d20 d21 d22 d23 d24 d25 d26) why2) n d.H0 d.G8 d.G2 d.H4 d.G3 d.G9 d.H5 d.H9 d.E7 d.F8 d.I9 d.D8 d.G0 d.H6 d.G5 d.F5 d.E8 d.E5 d.F3 d.F4 d.A1 d.A5 d.F9 d.B1 d.A7 d.B0 why k
theorem B5r (F:Nat) (log:List C7) (K:F7→List Int→Option ((Option F7) × (List Int) × Int)) (n:Nat) (d:F7) (why:List Int) (k:Int):B5Q F log K (n+1) d why k=if k<(log.length:Int)then((P3 log k).bind fun e6=>(A1F F d e6).bind fun rv4=>exE rv4 (fun x5=>(A8i why [x5]).bind fun q=>B5Q F log K n d q (W (k+1))) (fun v=>(A8i why [0]).bind fun q2=>B5Q F log K n v q2 (W (k+1))))else K d why:=rfl
theorem B2i {F:Nat} {p:D4} (hf:CtF F p) (ho:A5Y p) {l:List C7} (hl:l.length≤100) (he:∀ e∈l,B18 p e) {K:F7→List Int→Option ((Option F7) × (List Int) × Int)}:∀ (n k:Nat) (x:H2 × List Int),CF p x.1→x.2.length=k→l.length<n+k→k≤l.length →
  B5Q F l K n (dsk p x.1) x.2 k=K (dsk p (A3F p x (l.drop k)).1) (A3F p x (l.drop k)).2
 | 0,k,x,_,_,h,h2=>absurd h oM
 | n+1,k,x,hs,hx,h,h2=>by
  rw[B5r]
  by_cases hk:k<l.length
  ·have hev:=he _ (List.getElem_mem hk)
   obtain⟨c1,c2⟩:=B43 (x:=x) ho hs hev
   have ih:=B2i hf ho hl he (K:=K) n (k+1) (A7y p x l[k]) c1 oM oM oM
   rw[if_pos oM,H3 hk,oS,C0v hf ho hs hev,oS,lD hk,S0 oM,show A3F p x (l[k]::l.drop (k+1))=A3F p (A7y p x l[k]) (l.drop (k+1))from rfl,← ih]
   unfold A7y
   cases hd:doC p x.1 l[k]with
   | ok s=>exact congrArg (fun o=>Option.bind o _) (A8O oM)
   | error w=>exact congrArg (fun o=>Option.bind o _) (A8O oM)
  ·rw[if_neg oM,lL oM]
   rfl
theorem B72 {F:Nat} {p:D4} (hf:CtF F p) (ho:A5Y p) {l:List C7} (hl:l.length≤100) {c:Option ((Option F7) × (List Int) × Int)}:∀ (n k:Nat) (r:Int),l.length<n+k→k≤l.length →
  A2d F p l (fun _ _=>c) n r k=if A8k p (l.drop k)=0 then c else some (none,[],A8k p (l.drop k))
 | 0,k,r,h,h2=>absurd h oM
 | n+1,k,r,h,h2=>by
  rw[A2d]
  by_cases hk:k<l.length
  ·rw[if_pos oM,H3 hk,oS,B71 hf ho,oS,S0 oM,lD hk,A8k]
   by_cases h0:A5H p l[k]=0
   ·rw[if_pos h0,dT h0,cT,B72 hf ho hl n (k+1) _ oM oM]
   ·rw[if_neg h0,dF h0,cF,if_neg h0]
  ·rw[if_neg oM,lL oM]
   rfl
theorem B9a {F:Nat} {p:D4} (hf:CtF F p) (l:List C7):A42 F p l=some ((A0O p l).1.map (dsk p),(A0O p l).2.1,(A0O p l).2.2):=by
 have hF:=hf.pd.f
 rw[A42,B7o hf,oS]
 unfold A0O
 by_cases h0:(A35 p).2.2=0
 ·have ho:=A95 h0
  rw[if_pos h0,if_pos h0]
  show(if(0:Int)=0 then _ else(some (none,[],0):Option ((Option F7) × (List Int) × Int)))=_
  rw[if_pos rfl]
  by_cases h1:100<(l.length:Int)
  ·rw[if_pos h1,if_pos h1];rfl
  ·rw[if_neg h1,if_neg h1]
   refine(B72 hf ho oM F 0 0 oM oM).trans ?_
   rw[List.drop_zero]
   by_cases h2:A8k p l=0
   ·rw[if_pos h2,if_pos h2]
    exact(B2i hf ho oM (B2F h2) (K:=fun d w=>some (some d,w,0)) F 0 (A0U p,[]) (B1z ho) rfl oM oM).trans (by rw[List.drop_zero];rfl)
   ·rw[if_neg h2,if_neg h2];rfl
 ·rw[if_neg h0,if_neg h0,if_neg h0]
  rfl
theorem B1r {p:D4} {l:List C7} (h:(A0O p l).1=none):(A0O p l).2.2≠0:=by
 unfold A0O at h ⊢
 by_cases h0:(A35 p).2.2=0
 ·rw[if_pos h0]at h ⊢
  by_cases h1:100<(l.length:Int)
  ·rw[if_pos h1];decide
  ·rw[if_neg h1]at h ⊢
   by_cases h2:A8k p l=0
   ·rw[if_pos h2]at h;cases h
   ·rw[if_neg h2];exact h2
 ·rw[if_neg h0];exact h0
theorem A8D {p:D4} {l:List C7} {s:H2} (h:(A0O p l).1=some s):(A0O p l).2.2=0∧A5Y p∧l.length≤100∧(∀ e∈l,B18 p e)∧s=(A3F p (A0U p,[]) l).1∧(A0O p l).2.1=(A3F p (A0U p,[]) l).2∧(A35 p).2.2=0∧A8k p l=0:=by
 unfold A0O at h ⊢
 by_cases h0:(A35 p).2.2=0
 ·rw[if_pos h0]at h ⊢
  by_cases h1:100<(l.length:Int)
  ·rw[if_pos h1]at h;cases h
  ·rw[if_neg h1]at h ⊢
   by_cases h2:A8k p l=0
   ·rw[if_pos h2]at h ⊢
    injection h with h
    exact⟨rfl,A95 h0,by omega,B2F h2,h.symm,rfl,h0,h2⟩
   ·rw[if_neg h2]at h;cases h
 ·rw[if_neg h0]at h;cases h
def A91 (p:D4) (s:H2) (e:C7):H2:=match doC p s e with
 | .ok s'=>s'
 | .error _=>s
def B91:Except Int H2→Int
 | .ok _=>0
 | .error w=>w
def B8z (p:D4) (s:H2) (l:List C7):H2:=l.foldl (A91 p) s
def B57 (p:D4):H2→List C7→List Int
 | _,[]=>[]
 | s,e::l=>B91 (doC p s e)::B57 p (A91 p s e) l
theorem C1z (p:D4) (s:H2) (w:List Int) (e:C7):A7y p (s,w) e=(A91 p s e,w++[B91 (doC p s e)]):=by
 unfold A7y A91
 cases h:doC p (s,w).1 e<;>rfl
theorem C0n (p:D4):∀ (l:List C7) (s:H2) (w:List Int),A3F p (s,w) l=(B8z p s l,w++B57 p s l)
 | [],s,w=>by simp[A3F,B8z,B57]
 | e::l,s,w=>by
  rw[show A3F p (s,w) (e::l)=A3F p (A7y p (s,w) e) l from rfl,C1z,C0n p l,B57,List.append_assoc]
  rfl
theorem C1l {p:D4} {l:List C7} {s:H2} (h:(A0O p l).1=some s):s=B8z p (A0U p) l∧(A0O p l).2.1=B57 p (A0U p) l:=by
 obtain⟨_,_,_,_,h1,h2,_,_⟩:=A8D h
 rw[C0n]at h1 h2
 exact⟨h1,by rw[h2];rfl⟩
theorem C0S {p:D4} (ho:A5Y p) (I:H2→Prop) (hI:∀ s e s',I s→CF p s→B18 p e→doC p s e = .ok s'→I s'):∀ {l:List C7} {s:H2},I s→CF p s→(∀ e∈l,B18 p e)→I (B8z p s l)∧CF p (B8z p s l)
 | [],s,h,hs,_=>⟨h,hs⟩
 | e::l,s,h,hs,he=>by
  have h1:I (A91 p s e)∧CF p (A91 p s e):=by
   unfold A91
   cases hd:doC p s e with
   | ok s'=>exact⟨hI s e s' h hs (he e sM) hd,(C0u ho hs (he e sM) hd).1⟩
   | error w=>exact⟨h,hs⟩
  exact C0S ho I hI (l:=l) h1.1 h1.2 fun x hx=>he x (by simp[hx])
theorem C16 {p:D4} (ho:A5Y p) {l:List C7} {s:H2} (hs:CF p s) (he:∀ e∈l,B18 p e):CF p (B8z p s l):=(C0S ho (fun _=>True) (fun _ _ _ _ _ _ _=>trivial) trivial hs he).2
structure C1t (p:D4) (s:H2):Prop where
 a:∀ k,k<p.steps.length→s.begun.getD k 0<0→s.ended.getD k 0<0
 l:∀ k,k<p.steps.length→0≤s.ended.getD k 0→(p.steps.getD k default).least≤s.ended.getD k 0-s.begun.getD k 0∧s.ended.getD k 0-s.begun.getD k 0≤(p.steps.getD k default).most
 n:∀ k,k<p.steps.length→0≤s.begun.getD k 0→∀ m∈(p.steps.getD k default).need,0≤s.ended.getD m.toNat 0∧s.ended.getD m.toNat 0≤s.begun.getD k 0
 e:0≤s.ended.getD (p.steps.length-1) 0→(p.Q8≤s.ended.getD (p.steps.length-1) 0∧s.ended.getD (p.steps.length-1) 0≤p.O8)∧s.ended.getD (p.steps.length-1) 0=s.now
def C0m (y:List Int) (l:List Int) (n:Int):Int:=l.foldl (fun n m=>max n (y.getD m.toNat 0)) n
def C1H (p:D4) (s:H2) (t:Int) (y:List Int) (k:Nat):Int :=
 bif A6e s k then s.ended.getD k 0 else bif B2o s k then max t (s.begun.getD k 0+(p.steps.getD k default).least)else C0m y (p.steps.getD k default).need t+(p.steps.getD k default).least
def B3l (p:D4) (s:H2) (t:Int):Nat→List Int
 | 0=>[]
 | k+1=>B3l p s t k++[C1H p s t (B3l p s t k) k]
theorem C1g (p:D4) (s:H2) (t:Int):∀ k,(B3l p s t k).length=k
 | 0=>rfl
 | k+1=>by rw[B3l,List.length_append,C1g p s t k];rfl
theorem C1p {p:D4} {s:H2} {t:Int} {j:Nat}:∀ {k:Nat},j<k→(B3l p s t k).getD j 0=C1H p s t (B3l p s t j) j
 | 0,h=>by omega
 | k+1,h=>by
  rw[B3l]
  have hl:=C1g p s t k
  by_cases hj:j=k
  ·subst hj
   simp[List.getD_eq_getElem?_getD,List.getElem?_append_right,hl]
  ·rw[← C1p (p:=p) (s:=s) (t:=t) (j:=j) (k:=k) oM]
   have hjk:j<(B3l p s t k).length:=by rw[hl];omega
   simp[List.getD_eq_getElem?_getD,List.getElem?_append_left hjk]
theorem C1L (y:List Int):∀ (l:List Int) (n:Int),n≤C0m y l n∧∀ m∈l,y.getD m.toNat 0≤C0m y l n
 | [],n=>⟨Int.le_refl _,fun m h=>by simp at h⟩
 | x::l,n=>by
  obtain⟨h1,h2⟩:=C1L y l (max n (y.getD x.toNat 0))
  refine⟨by show n≤C0m y l (max n (y.getD x.toNat 0));omega,fun m hm=>?_⟩
  show y.getD m.toNat 0≤C0m y l (max n (y.getD x.toNat 0))
  rcases List.mem_cons.1 hm with rfl | hm
  ·omega
  ·exact h2 m hm
theorem C1M (y:List Int) {b:Int}:∀ (l:List Int) (n:Int),n≤b→(∀ m∈l,y.getD m.toNat 0≤b)→C0m y l n≤b
 | [],n,h,_=>h
 | x::l,n,h,h2=>C1M y l (max n (y.getD x.toNat 0)) (by have:=h2 x sM;omega) fun m hm=>h2 m (by simp[hm])
theorem C1R {p:D4} {s:H2} {t:Int} (ho:A5Y p) (hs:CF p s) (ht:0≤t∧t≤100000):∀ k,k≤p.steps.length→∀ j,j<k→0≤(B3l p s t k).getD j 0∧(B3l p s t k).getD j 0≤120000+20000*j
 | 0,_,j,h=>by omega
 | k+1,hk,j,hj=>by
  rw[C1p hj]
  have hjk:j<p.steps.length:=by omega
  have hx:=ho.t j hjk
  have hl:=hx.l;have hm:=hx.m
  have hb:=hs.b j hjk
  have hee:=hs.e j hjk
  have hn:=hs.now
  unfold C1H
  cases hd:A6e s j with
  | true =>
   rw[cT]
   have:0≤s.ended.getD j 0:=of_decide_eq_true hd
   omega
  | false =>
   rw[cF]
   cases B2o s j with
   | true=>rw[cT];omega
   | false =>
    rw[cF]
    have h1:=(C1L (B3l p s t j) (p.steps.getD j default).need t).1
    have h2:C0m (B3l p s t j) (p.steps.getD j default).need t≤100000+20000*j:=by
     refine C1M _ _ _ oM fun m hm=>?_
     have hmd:=hx.nd m hm
     have:=(C1R ho hs ht j oM m.toNat oM).2
     omega
    omega
theorem C1T {F:Nat} {x:E0} {k:Nat} {y:List Int} (hy:y.length=k) (hd:∀ n∈x.need,0≤n∧n<k) (hl:x.need.length≤16) {K:Int→Option (Int × Bool)}:∀ (n j:Nat) (v:Int),x.need.length<n+j→j≤x.need.length →
  A0o F y x (fun v _=>K v) n v j=K (C0m y (x.need.drop j) v)
 | 0,j,v,h,h2=>absurd h oM
 | n+1,j,v,h,h2=>by
  rw[A0o]
  by_cases hj:j<x.need.length
  ·have hm:=hd _ (List.getElem_mem hj)
   have em:x.need[j]=((x.need[j].toNat:Nat):Int):=by omega
   have hx:P3 y x.need[j]=some (y.getD x.need[j].toNat 0):=by
    have:=H3 (show x.need[j].toNat<y.length by omega)
    rw[← em]at this
    rw[this,J6 0 oM]
   rw[if_pos oM,H3 hj,oS,hx,oS,S0 oM,C1T hy hd hl n (j+1) _ oM oM,lD hj]
   rfl
  ·rw[if_neg oM,lL oM]
   rfl
theorem C1S {F:Nat} {p:D4} {s:H2} {t:Int} (hF:100<F) (ho:A5Y p) (hs:CF p s) (ht:0≤t∧t≤100000) {K:List Int→Option (Int × Bool)}:∀ (n k:Nat),p.steps.length<n+k→k≤p.steps.length →
  T5 F (dsk p s) t (fun y _=>K y) n (B3l p s t k) k=K (B3l p s t p.steps.length)
 | 0,k,h,h2=>absurd h oM
 | n+1,k,h,h2=>by
  have t16:=ho.t16
  rw[T5]
  by_cases hk:k<p.steps.length
  ·have hx:=ho.t k hk
   have hl:=B0F hx.na hx.nd
   have hb:=hs.b k hk
   have hee:=hs.e k hk
   have hn:=hs.now
   have hxl:=hx.l;have hxm:=hx.m
   have lb:=hs.lb;have le:=hs.le
   have hrng:=C1R ho hs ht (k+1) oM k oM
   rw[C1p oM]at hrng
   have j1:∀ v,v=C1H p s t (B3l p s t k) k→A0n F (T5 F (dsk p s) t (fun y _=>K y) n) (B3l p s t k) k v=K (B3l p s t p.steps.length):=fun v hv=>by
    rw[A0n,A8O (by rw[C1g];omega),oS,S0 oM,hv]
    exact C1S hF ho hs ht n (k+1) oM oM
   rw[if_pos (by show(k:Int)<(p.steps.length:Int);omega),show P3 (dsk p s).F8 k=some (p.steps.getD k default) by rw[J6 default hk];exact H3 hk,oS,B2C hs hk,oS,B9l hs hk,oS]
   have hend:C1H p s t (B3l p s t k) k=C1H p s t (B3l p s t k) k:=rfl
   unfold C1H at hend j1 hrng
   cases hd:A6e s k with
   | true =>
    rw[hd]at j1
    rw[if_pos rfl,show P3 (dsk p s).A5 k=some (s.ended.getD k 0) by rw[J6 0 oM];exact H3 (show k<s.ended.length by omega),oS]
    exact j1 _ rfl
   | false =>
    rw[hd]at j1 hrng
    rw[if_neg sM]
    cases hr:B2o s k with
    | true =>
     rw[hr]at j1
     rw[if_pos rfl,show P3 (dsk p s).A1 k=some (s.begun.getD k 0) by rw[J6 0 oM];exact H3 (show k<s.begun.length by omega),oS,A8K oM oM]
     exact j1 _ rfl
    | false =>
     rw[hr]at j1 hrng
     rw[if_neg sM]
     refine(C1T (K:=fun x2=>A0n F (T5 F (dsk p s) t (fun y _=>K y) n) (B3l p s t k) k (W (x2+(p.steps.getD k default).least))) (C1g p s t k) hx.nd oM F 0 t oM oM).trans ?_
     rw[List.drop_zero]
     simp only[cF]at hrng
     rw[A8K oM oM]
     exact j1 _ rfl
  ·obtain rfl:k=p.steps.length:=by omega
   rw[if_neg (by show ¬ (p.steps.length:Int)<(p.steps.length:Int);omega)]
def C1I (p:D4) (s:H2) (t n:Int) (i:Nat):Bool:=B2o s i&&(decide (s.begun.getD i 0+(p.steps.getD i default).most<t)||(decide (i=p.steps.length-1)&&decide (s.begun.getD i 0+(p.steps.getD i default).most<n)))
def C0p (p:D4) (s:H2) (t n:Int):Nat→(Nat→Bool)→Bool
 | 0,_=>false
 | i+1,f=>bif f i then(bif C1I p s t n i then true else C0p p s t n i fun j=>f j||(p.steps.getD i default).need.any fun m=>decide (m=(j:Int)))else C0p p s t n i f
def C0t (p:D4) (s:H2) (t:Int):Int:=max ((B3l p s t p.steps.length).getD (p.steps.length-1) 0) p.Q8
def C1w (p:D4) (s:H2) (t:Int):Bool:=C0p p s t (C0t p s t) p.steps.length fun j=>decide (j=p.steps.length-1)
def A6b (p:D4) (s:H2) (t:Int):Int × Bool:=bif C1w p s t then(0,false)else(C0t p s t,decide (C0t p s t≤p.O8))
theorem C2g (m:List (Int × Bool)) (a b:Int):(A2e (M0 m a true) b).getD false=((A2e m b).getD false||decide (a=b)):=by
 induction m with
 | nil =>
  show(A2e [(a,true)] b).getD false=_
  unfold A2e
  by_cases h:a=b
  ·subst h;simp
  ·have h2:¬ b=a:=fun e=>h e.symm
   simp[h,h2]
 | cons x m ih =>
  unfold M0
  by_cases hx:(a==x.1)=true
  ·rw[hx,cT]
   have hx':a=x.1:=by simpa using hx
   unfold A2e
   by_cases hb:b=x.1
   ·simp[hb,hx']
   ·have h2:¬ a=b:=fun e=>hb (by rw[← e,hx'])
    simp[hb,h2,hx']
    intro e;exact absurd e.symm hb
  ·rw[show(a==x.1)=false by simpa using hx,cF]
   unfold A2e at ih ⊢
   by_cases hb:b=x.1
   ·have h2:¬ a=b:=fun e=>hx (by rw[e,hb];simp)
    simp[hb]
    intro e
    exact absurd (by rw[e];simp) hx
   ·simpa[hb]using ih
theorem C2i {F:Nat} {x:E0} {i:Nat} (hl:x.need.length≤16) (hF:100<F) {K:List (Int × Bool)→Option (Int × Bool)}:∀ (n j:Nat) (m:List (Int × Bool)),x.need.length<n+j→j≤x.need.length →
  ∃ m',A0p F x (fun m _=>K m) n m j=K m'∧∀ b:Int,(A2e m' b).getD false=((A2e m b).getD false||(x.need.drop j).any fun a=>decide (a=b))
 | 0,j,m,h,h2=>absurd h oM
 | n+1,j,m,h,h2=>by
  rw[A0p]
  by_cases hj:j<x.need.length
  ·obtain⟨m',h3,h4⟩:=C2i (i:=i) hl hF n (j+1) (M0 m x.need[j] true) oM oM
   refine⟨m',by rw[if_pos oM,H3 hj,oS,S0 oM];exact h3,fun b=>?_⟩
   rw[h4,C2g,lD hj,List.any_cons,Bool.or_assoc]
  ·exact⟨m,by rw[if_neg oM],fun b=>by rw[lL oM];simp⟩
theorem C12 {F:Nat} {p:D4} {s:H2} {t:Int} (hF:100<F) (ho:A5Y p) (hs:CF p s) {e6:Int} {mm0:List (Int × Bool)} {c:Option (Int × Bool)}:∀ (n k:Nat) (m:List (Int × Bool)) (f:Nat→Bool),(∀ j:Nat,(A2e m j).getD false=f j)→k<n→k≤p.steps.length →
  R4 F (dsk p s) t e6 (dsk p s,mm0) p.steps (fun _ _=>c) n ((k:Int)-1) m=bif C0p p s t (max e6 p.Q8) k f then some (0,false)else c
 | 0,k,m,f,_,h,h2=>absurd h oM
 | n+1,0,m,f,hm,h,h2=>by
  rw[R4,if_neg oM]
  rfl
 | n+1,k+1,m,f,hm,h,h2=>by
  have hk:k<p.steps.length:=by omega
  have t16:=ho.t16
  have hx:=ho.t k hk
  have hl:=B0F hx.na hx.nd
  have hb:=hs.b k hk
  have hn:=hs.now
  have hxm:=hx.m
  have lb:=hs.lb
  have ek:(((k+1:Nat):Int)-1)=(k:Int):=by omega
  rw[ek,R4,if_pos oM,show P3 p.steps (k:Int)=some (p.steps.getD k default) by rw[J6 default hk];exact H3 hk,oS,hm,C0p,show W ((k:Int)-1)=(k:Int)-1 from A8K oM oM]
  cases hf:f k with
  | false =>
   rw[if_neg sM,cF]
   exact C12 hF ho hs n k m f hm oM oM
  | true =>
   rw[if_pos rfl,cT]
   obtain⟨m',h3,h4⟩:=C2i (F:=F) (i:=k) (x:=p.steps.getD k default) oM hF (K:=fun mm2=>(A0R F (dsk p s) k).bind fun rv6=>if rv6=true then((P3 (dsk p s).A1 k).bind fun e9=>(some (p.steps.getD k default)).bind fun e10=>if(W (e9+e10.most))<t then(A1b F)else((U8 F (dsk p s)).bind fun rv7=>if(k:Int)=rv7 then(if(W (e9+e10.most))<(max e6 (dsk p s).D8)then(A1b F)else(A1c F (R4 F (dsk p s) t e6 (dsk p s,mm0) p.steps (fun _ _=>c) n) k mm2))else(A1c F (R4 F (dsk p s) t e6 (dsk p s,mm0) p.steps (fun _ _=>c) n) k mm2)))else(R4 F (dsk p s) t e6 (dsk p s,mm0) p.steps (fun _ _=>c) n ((k:Int)-1) mm2)) F 0 m oM oM
   refine Eq.trans (Eq.trans ?_ h3) ?_
   ·rfl
   rw[List.drop_zero]at h4
   have ih:=C12 (t:=t) (e6:=e6) (mm0:=mm0) (c:=c) hF ho hs n k m' (fun j=>f j||(p.steps.getD k default).need.any fun m=>decide (m=(j:Int))) (fun j=>by rw[h4,hm]) oM oM
   rw[B9l hs hk,oS]
   unfold C1I
   cases hr:B2o s k with
   | false=>rw[if_neg sM,ih];rfl
   | true =>
    rw[if_pos rfl,show P3 (dsk p s).A1 k=some (s.begun.getD k 0) by rw[J6 0 oM];exact H3 (show k<s.begun.length by omega),oS,oS,A8K (x:=s.begun.getD k 0+(p.steps.getD k default).most) oM oM,B2K ho,oS,A1b,A1c,A8K (x:=(k:Int)-1) oM oM,ih,Bool.true_and]
    by_cases c1:s.begun.getD k 0+(p.steps.getD k default).most<t
    ·rw[if_pos c1,dT c1];rfl
    ·rw[if_neg c1,dF c1,Bool.false_or]
     by_cases c2:k=p.steps.length-1
     ·rw[if_pos oM,dT c2,Bool.true_and]
      show(if s.begun.getD k 0+(p.steps.getD k default).most<max e6 p.Q8 then _ else _)=_
      by_cases c3:s.begun.getD k 0+(p.steps.getD k default).most<max e6 p.Q8
      ·rw[if_pos c3,dT c3];rfl
      ·rw[if_neg c3,dF c3];rfl
     ·rw[if_neg oM,dF c2];rfl
theorem C1G {F:Nat} {p:D4} {s:H2} {t:Int} (hF:100<F) (ho:A5Y p) (hs:CF p s) (ht:0≤t∧t≤100000):A2h F (dsk p s) t=some (A6b p s t):=by
 have t1:=ho.t1;have t16:=ho.t16
 rw[A2h]
 refine(C1S hF ho hs ht F 0 oM oM).trans ?_
 rw[B2K ho,oS,show P3 (B3l p s t p.steps.length) ((p.steps.length-1:Nat):Int)=some ((B3l p s t p.steps.length).getD (p.steps.length-1) 0) by rw[J6 0 (by rw[C1g];omega)];exact H3 (by rw[C1g];omega),oS]
 rw[A37,B2K ho,oS,oS,A2C,oS]
 show R4 F (dsk p s) t _ (dsk p s,_) p.steps _ F (W ((p.steps.length:Int)-1)) _=_
 rw[A8K oM oM]
 refine(C12 hF ho hs F p.steps.length _ (fun j=>decide (j=p.steps.length-1)) (fun j=>?_) oM (Nat.le_refl _)).trans ?_
 ·rw[C2g]
  show(false||_)=_
  rw[Bool.false_or,decide_eq_decide]
  omega
 ·unfold A6b C1w C0t
  cases C0p p s t (max ((B3l p s t p.steps.length).getD (p.steps.length-1) 0) p.Q8) p.steps.length fun j=>decide (j=p.steps.length-1)<;>rfl
def B8x (p:D4) (s:H2) (t:Int):Bool:=(A6b p s t).2
theorem C1O {p:D4} {s:H2} {t:Int}:B8x p s t=true↔C1w p s t=false∧C0t p s t≤p.O8:=by
 unfold B8x A6b
 cases C1w p s t<;>simp
theorem C2h {p:D4} {s:H2} {t:Int} (h:B8x p s t=true):(A6b p s t).1=C0t p s t:=by
 have:=(C1O.1 h).1
 unfold A6b
 rw[this];rfl
def B6Z (p:D4) (l:List C7):Option H2 × Int:=match (A0O p l).1 with
 | none=>(none,(A0O p l).2.2)
 | some s=>bif A6e s (p.steps.length-1)then(none,9)else(some s,0)
theorem C18 {p:D4} {l:List C7} (h:(B6Z p l).1=none):(B6Z p l).2≠0:=by
 unfold B6Z at h ⊢
 cases hp:(A0O p l).1 with
 | none=>exact B1r hp
 | some s =>
  rw[hp]at h
  simp only at h ⊢
  cases hd:A6e s (p.steps.length-1)with
  | true=>show(9:Int)≠0;decide
  | false=>rw[hd]at h;cases h
theorem C19 {p:D4} {l:List C7} {s:H2} (h:(B6Z p l).1=some s):(B6Z p l).2=0∧(A0O p l).1=some s∧A6e s (p.steps.length-1)=false:=by
 unfold B6Z at h ⊢
 cases hp:(A0O p l).1 with
 | none=>rw[hp]at h;cases h
 | some s2 =>
  rw[hp]at h
  simp only at h ⊢
  cases hd:A6e s2 (p.steps.length-1)with
  | true=>rw[hd]at h;cases h
  | false=>rw[hd]at h;injection h with h;subst h;exact⟨rfl,rfl,hd⟩
theorem C2a {F:Nat} {p:D4} (hf:CtF F p) (l:List C7):A6V F p l=some ((B6Z p l).1.map (dsk p),(B6Z p l).2):=by
 rw[A6V,B9a hf,oS]
 unfold B6Z
 cases hp:(A0O p l).1 with
 | none =>
  have h1:=B1r hp
  show(if(A0O p l).2.2=0 then _ else _)=_
  rw[if_neg h1];rfl
 | some s =>
  obtain⟨h1,ho,hl,he,_,_,_,_⟩:=A8D hp
  have hs:CF p s:=by rw[(C1l hp).1];exact C16 ho (B1z ho) he
  have t1:=ho.t1
  show(if(A0O p l).2.2=0 then _ else _)=_
  rw[if_pos h1,B2K ho,oS,B2C hs oM,oS]
  show _=some ((bif A6e s (p.steps.length-1)then((none,9):Option H2 × Int)else(some s,0)).1.map (dsk p),(bif A6e s (p.steps.length-1)then((none,9):Option H2 × Int)else(some s,0)).2)
  cases A6e s (p.steps.length-1)<;>rfl
theorem C2b {p:D4} {l:List C7} {s:H2} (h:(A0O p l).1=some s):A5Y p∧CF p s:=by
 obtain⟨h1,ho,hl,he,_,_,_,_⟩:=A8D h
 exact⟨ho,by rw[(C1l h).1];exact C16 ho (B1z ho) he⟩
def B22 (p:D4) (l:List C7) (t:Int):Int × Int:=match (B6Z p l).1 with
 | none=>(0,(B6Z p l).2)
 | some s=>bif N9 t s.now 100000 then(0,7)else bif B8x p s t then((A6b p s t).1,0)else(0,9)
theorem C2m {F:Nat} {p:D4} (hf:CtF F p) (l:List C7) (t:Int):A3Z F p l t=some (B22 p l t):=by
 rw[A3Z,C2a hf,oS]
 unfold B22
 cases hp:(B6Z p l).1 with
 | none =>
  have h1:=C18 hp
  show(if(B6Z p l).2=0 then _ else _)=_
  rw[if_neg h1]
 | some s =>
  obtain⟨h1,h2,h3⟩:=C19 hp
  obtain⟨ho,hs⟩:=C2b h2
  have hn:=hs.now
  show(if(B6Z p l).2=0 then _ else _)=_
  rw[if_pos h1,X2,oS]
  show(if N9 t s.now 100000=true then _ else _)=some (bif N9 t s.now 100000 then((0:Int),(7:Int))else bif B8x p s t then((A6b p s t).1,0)else(0,9))
  cases hb:N9 t s.now 100000 with
  | true=>rfl
  | false =>
   have:=O6.1 hb
   rw[if_neg sM,C1G hf.pd.f ho hs oM,oS]
   rw[cF]
   unfold B8x
   cases(A6b p s t).2<;>rfl
def C3i (p:D4) (k:Nat):Int:=(B3l p (A0U p) 0 p.steps.length).getD k 0
def C4k (f:Nat→Int) (l:List Int) (v:Int):Int:=l.foldl (fun v m=>if v<0 then m else if f v.toNat<f m.toNat then m else v) v
theorem C5x (f:Nat→Int):∀ (l:List Int) (v:Int),(∀ m∈l,0≤m)→(v<0∧l=[]∧C4k f l v=v)∨(0≤C4k f l v∧(C4k f l v=v∨C4k f l v∈l)∧(0≤v→f v.toNat≤f (C4k f l v).toNat)∧∀ m∈l,f m.toNat≤f (C4k f l v).toNat)
 | [],v,h=>by
  by_cases hv:v<0
  ·exact .inl ⟨hv,rfl,rfl⟩
  ·exact .inr ⟨by show 0≤v;omega,.inl rfl,fun _=>Int.le_refl _,fun m hm=>by simp at hm⟩
 | m::l,v,h=>by
  have hm:=h m sM
  have e:C4k f (m::l) v=C4k f l (if v<0 then m else if f v.toNat<f m.toNat then m else v):=rfl
  rw[e]
  have ih:=fun w=>C5x f l w fun x hx=>h x (by simp[hx])
  have fin:∀ w,0≤w→(w=v∨w=m)→(0≤v→f v.toNat≤f w.toNat)→f m.toNat≤f w.toNat→(v<0∧m::l=[]∧C4k f l w=v)∨(0≤C4k f l w∧(C4k f l w=v∨C4k f l w∈m::l)∧(0≤v→f v.toNat≤f (C4k f l w).toNat)∧∀ x∈m::l,f x.toNat≤f (C4k f l w).toNat):=fun w h0 h1 h2 h3=>by
   rcases ih w with⟨k1,_,_⟩ | ⟨k1,k2,k3,k4⟩
   ·omega
   ·have k3:=k3 h0
    refine .inr ⟨k1,?_,fun hv=>by have:=h2 hv;omega,fun x hx=>?_⟩
    ·rcases k2 with k2 | k2
     ·rcases h1 with h1 | h1
      ·exact .inl (by rw[k2,h1])
      ·exact .inr (by rw[k2,h1];simp)
     ·exact .inr (by simp[k2])
    ·rcases List.mem_cons.1 hx with rfl | hx
     ·omega
     ·exact k4 x hx
  by_cases hv:v<0
  ·rw[if_pos hv]
   exact fin m hm (.inr rfl) (fun h0=>by omega) (Int.le_refl _)
  ·rw[if_neg hv]
   by_cases hf:f v.toNat<f m.toNat
   ·rw[if_pos hf]
    exact fin m hm (.inr rfl) (fun _=>by omega) (Int.le_refl _)
   ·rw[if_neg hf]
    exact fin v oM (.inl rfl) (fun _=>Int.le_refl _) oM
def C3S (p:D4) (k:Nat):Int:=C4k (C3i p) (p.steps.getD k default).need (-1)
theorem C4D {p:D4} {k:Nat} (h:k<p.steps.length):A6e (A0U p) k=false∧B2o (A0U p) k=false:=by
 have h1:(A0U p).begun.getD k 0 = -1:=A5J _ _ _ _ h
 have h2:(A0U p).ended.getD k 0 = -1:=A5J _ _ _ _ h
 unfold B2o A6e
 rw[h1,h2]
 exact⟨rfl,rfl⟩
theorem C5V {p:D4} {k:Nat} (h:k<p.steps.length):C3i p k=C0m (B3l p (A0U p) 0 k) (p.steps.getD k default).need 0+(p.steps.getD k default).least:=by
 unfold C3i
 rw[C1p h]
 unfold C1H
 rw[(C4D h).1,(C4D h).2]
 rfl
theorem C5g {p:D4} {k m:Nat} (h:k≤p.steps.length) (hm:m<k):(B3l p (A0U p) 0 k).getD m 0=C3i p m:=by
 unfold C3i
 rw[C1p hm,C1p oM]
theorem C4r {p:D4} (ho:A5Y p) {k:Nat} (h:k<p.steps.length):0≤C3i p k∧C3i p k≤120000+20000*k:=C1R ho (B1z ho) ⟨Int.le_refl 0,by decide⟩ p.steps.length (Nat.le_refl _) k h
theorem C5a {p:D4} (ho:A5Y p) {k:Nat} (h:k<p.steps.length) :
 ((p.steps.getD k default).need=[]∧C3S p k = -1∧C3i p k=(p.steps.getD k default).least)∨(C3S p k∈(p.steps.getD k default).need∧(∀ m∈(p.steps.getD k default).need,C3i p m.toNat≤C3i p (C3S p k).toNat)∧C3i p k=C3i p (C3S p k).toNat+(p.steps.getD k default).least):=by
 have hso:=ho.t k h
 rw[C5V h]
 have hnd:=hso.nd
 rcases C5x (C3i p) (p.steps.getD k default).need (-1) fun m hm=>(hnd m hm).1 with⟨_,k2,k3⟩ | ⟨k1,k2,_,k4⟩
 ·refine .inl ⟨k2,k3,?_⟩
  rw[k2]
  show 0+_=_
  omega
 ·have hb:C3S p k∈(p.steps.getD k default).need:=by
   rcases k2 with k2 | k2
   ·rw[k2]at k1;omega
   ·exact k2
  refine .inr ⟨hb,k4,?_⟩
  have hbr:=hnd _ hb
  have hg:=C1L (B3l p (A0U p) 0 k) (p.steps.getD k default).need 0
  have h1:=hg.2 _ hb
  rw[C5g oM oM]at h1
  have h0:=(C4r ho (k:=(C3S p k).toNat) oM).1
  have h2:=C1M (B3l p (A0U p) 0 k) (b:=C3i p (C3S p k).toNat) (p.steps.getD k default).need 0 h0 fun m hm=>by
   have:=hnd m hm
   rw[C5g oM oM]
   exact k4 m hm
  omega
def C5Y (p:D4) (k:Nat):List Int:=B14 p.steps.length fun j=>if j<k then C3i p j else 0
def aT (p:D4) (k:Nat) (v:Int):List Int:=B14 p.steps.length fun j=>if j<k then C3S p j else if j=k then v else -1
theorem C4Z {F:Nat} {p:D4} (ho:A5Y p) {k:Nat} (hk:k<p.steps.length) {K:List Int→Int→Option (List Int × Int)}:∀ (n j:Nat) (v:Int),(p.steps.getD k default).need.length<n+j→j≤(p.steps.getD k default).need.length→(v<0∨(0≤v∧v<k)) →
  B90 F (C5Y p k) k (p.steps.getD k default) K n (aT p k v) j=K (aT p k (C4k (C3i p) ((p.steps.getD k default).need.drop j) v)) ((p.steps.getD k default).need.length:Int)
 | 0,j,v,h,h2,_=>absurd h oM
 | n+1,j,v,h,h2,hv=>by
  have t16:=ho.t16
  have hso:=ho.t k hk
  have hnl:=B0F hso.na hso.nd
  rw[B90]
  by_cases hj:j<(p.steps.getD k default).need.length
  ·have hm:=hso.nd _ (List.getElem_mem hj)
   obtain⟨m,hme⟩:∃ m,(p.steps.getD k default).need[j]=m:=⟨_,rfl⟩
   rw[hme]at hm
   have hal:k<(aT p k v).length:=by unfold aT;rw[B15];exact hk
   have hav:P3 (aT p k v) (k:Int)=some v:=by
    rw[H3 hal,← J6 0 hal]
    unfold aT
    rw[B48 hk,if_neg oM,if_pos rfl]
   have hset:∀ w,A5g (aT p k v) (k:Int) w=some (aT p k w):=fun w=>by
    rw[A31]
    refine congrArg some (B2D 0 (by rw[List.length_set];unfold aT;rw[B15]) fun i hi=>?_)
    rw[sG hal]
    unfold aT
    rw[B48 hi]
    by_cases hik:i=k
    ·rw[if_pos hik,if_neg oM,if_pos hik]
    ·rw[if_neg hik,if_neg hik,if_neg hik]
   have hd:∀ q:Int,0≤q∧q<k→P3 (C5Y p k) q=some (C3i p q.toNat):=fun q hq=>by
    obtain⟨i,rfl⟩:∃ i:Nat,q=i:=⟨q.toNat,by omega⟩
    have hdl:i<(C5Y p k).length:=by unfold C5Y;rw[B15];omega
    rw[H3 hdl,← J6 0 hdl]
    unfold C5Y
    rw[B48 oM,if_pos oM]
    rfl
   have hdrop:C4k (C3i p) ((p.steps.getD k default).need.drop j) v=C4k (C3i p) ((p.steps.getD k default).need.drop (j+1)) (if v<0 then m else if C3i p v.toNat<C3i p m.toNat then m else v):=by
    rw[lD hj,hme]
    rfl
   rw[if_pos oM,H3 hj,oS,hme,hav,oS,S0 oM,hdrop]
   by_cases hv0:v<0
   ·rw[if_pos hv0,if_pos hv0,hset,oS,C4Z ho hk n (j+1) m oM oM oM]
   ·rw[if_neg hv0,if_neg hv0,hd m hm,oS,hd v oM,oS]
    by_cases hlt:C3i p v.toNat<C3i p m.toNat
    ·rw[if_pos hlt,if_pos hlt,hset,oS,C4Z ho hk n (j+1) m oM oM oM]
    ·rw[if_neg hlt,if_neg hlt,C4Z ho hk n (j+1) v oM oM hv]
  ·obtain rfl:j=(p.steps.getD k default).need.length:=by omega
   rw[if_neg oM,List.drop_length]
   rfl
theorem C6Q {p:D4} {k:Nat} (hk:k<p.steps.length) {l:List Int} {w:Int} (hl:l=(C5Y p k).set k w):l.set k (C3i p k)=C5Y p (k+1):=by
 have h1:(C5Y p k).length=p.steps.length:=by unfold C5Y;rw[B15]
 subst hl
 rw[List.set_set]
 refine B2D 0 (by rw[List.length_set,h1]) fun i hi=>?_
 rw[sG oM]
 unfold C5Y
 rw[B48 hi]
 by_cases hik:i=k
 ·rw[if_pos hik,if_pos oM,hik]
 ·rw[if_neg hik]
  by_cases hlt:i<k
  ·rw[if_pos hlt,if_pos oM]
  ·rw[if_neg hlt,if_neg oM]
theorem C5U {p:D4} {k:Nat}:aT p k (C3S p k)=aT p (k+1) (-1):=by
 refine B2D 0 (by unfold aT;rw[B15]) fun i hi=>?_
 unfold aT
 rw[B48 hi]
 by_cases hik:i=k
 ·rw[if_neg oM,if_pos hik,if_pos oM,hik]
 ·rw[if_neg hik]
  by_cases hlt:i<k
  ·rw[if_pos hlt,if_pos oM]
  ·rw[if_neg hlt,if_neg oM,ite_self]
theorem C5p {F:Nat} {p:D4} (hF:100<F) (ho:A5Y p) {K:List Int→List Int→Int→Option (List Int × Int)}:∀ (n k:Nat),p.steps.length<n+k→k≤p.steps.length →
  C1B F p K n (C5Y p k) (aT p k (-1)) k=K (C5Y p p.steps.length) (aT p p.steps.length (-1)) p.steps.length
 | 0,k,h,h2=>absurd h oM
 | n+1,k,h,h2=>by
  have t16:=ho.t16
  rw[C1B]
  by_cases hk:k<p.steps.length
  ·have hso:=ho.t k hk
   have hnl:=B0F hso.na hso.nd
   have hm:=hso.m;have hle:=hso.l
   have hdl:(C5Y p k).length=p.steps.length:=by unfold C5Y;rw[B15]
   have hal:(aT p (k+1) (-1)).length=p.steps.length:=by unfold aT;rw[B15]
   have h1:=C4Z (F:=F) ho hk (K:=fun(a2:List Int) (x2:Int)=>(P3 (C5Y p k) k).bind fun e6=>(A5g (C5Y p k) k (p.steps.getD k default).least).bind fun rv4=>(P3 a2 k).bind fun e7=>if 0≤e7 then((P3 rv4 k).bind fun e8=>(P3 rv4 e7).bind fun e9=>(A5g rv4 k (W (e8+e9))).bind fun rv5=>C1B F p K n rv5 a2 (W ((k:Int)+1)))else(C1B F p K n rv4 a2 (W ((k:Int)+1)))) F 0 (-1) oM oM (.inl dM)
   rw[if_pos oM,H3 hk,oS,← J6 default hk]
   refine h1.trans ?_
   rw[List.drop_zero]
   show(P3 (C5Y p k) k).bind _=_
   rw[show aT p k (C4k (C3i p) (p.steps.getD k default).need (-1))=aT p (k+1) (-1)from C5U,H3 (show k<(C5Y p k).length by omega),oS,A31,oS,H3 (show k<(aT p (k+1) (-1)).length by omega),oS,S0 oM,← J6 0 (show k<(aT p (k+1) (-1)).length by omega),show(aT p (k+1) (-1)).getD k 0=C3S p k by unfold aT;rw[B48 hk,if_pos oM]]
   have hr:=C4r ho hk
   rcases C5a ho hk with⟨e1,e2,e3⟩ | ⟨e1,e2,e3⟩
   ·rw[e2,if_neg dM,← e3]
    have:=C6Q hk (l:=(C5Y p k).set k 0) (w:=0) rfl
    rw[List.set_set]at this
    rw[this]
    exact C5p hF ho n (k+1) oM oM
   ·have hb:=hso.nd _ e1
    have hbr:=C4r ho (k:=(C3S p k).toNat) oM
    obtain⟨b,hbe⟩:∃ b:Nat,C3S p k=b:=⟨(C3S p k).toNat,by omega⟩
    rw[hbe,tN]at e3 hbr
    rw[hbe]at hb
    have hsl:((C5Y p k).set k (p.steps.getD k default).least).length=p.steps.length:=by rw[List.length_set,hdl]
    rw[hbe,if_pos oM,H3 (show k<((C5Y p k).set k (p.steps.getD k default).least).length by omega),oS,H3 (show b<((C5Y p k).set k (p.steps.getD k default).least).length by omega),oS,A31,oS,← J6 0 (show k<((C5Y p k).set k (p.steps.getD k default).least).length by omega),← J6 0 (show b<((C5Y p k).set k (p.steps.getD k default).least).length by omega),sG oM,if_pos rfl,sG oM,if_neg oM,show(C5Y p k).getD b 0=C3i p b by unfold C5Y;rw[B48 oM,if_pos oM],A8K oM oM,show(p.steps.getD k default).least+C3i p b=C3i p k by omega,C6Q hk rfl]
    exact C5p hF ho n (k+1) oM oM
  ·obtain rfl:k=p.steps.length:=by omega
   rw[if_neg oM]
def C50 (o:List Int) (i:Nat):List Int:=B14 o.length fun k=>if k<i∨o.length-1-i<k then o.getD (o.length-1-k) 0 else o.getD k 0
theorem C51 {F:Nat} {o:List Int} (hl:o.length≤100) (h0:0<o.length) {c:List Int→Option (List Int)}:∀ (n i:Nat),o.length<n+i→2*i≤o.length→i<o.length→N3 F (fun s _ _=>c s) n (C50 o i) i ((o.length-1-i:Nat):Int)=c o.reverse
 | 0,i,h,h2,h3=>absurd h oM
 | n+1,i,h,h2,h3=>by
  have hlen:(C50 o i).length=o.length:=by unfold C50;rw[B15]
  have hg:∀ k,k<o.length→(C50 o i).getD k 0=if k<i∨o.length-1-i<k then o.getD (o.length-1-k) 0 else o.getD k 0:=fun k hk=>by unfold C50;rw[B48 hk]
  have hix:∀ (l:List Int) (k:Nat),l.length=o.length→k<o.length→P3 l (k:Int)=some (l.getD k 0):=fun l k hl hk=>by rw[J6 0 oM];exact H3 oM
  rw[N3]
  by_cases hij:(i:Int)<((o.length-1-i:Nat):Int)
  ·rw[if_pos hij,hix _ _ hlen oM,oS,hix _ _ hlen oM,oS,A31,oS,hix _ _ (by rw[List.length_set,hlen]) oM,oS,A31,oS,S0 oM,A8K (x:=((o.length-1-i:Nat):Int)-1) oM oM,show((o.length-1-i:Nat):Int)-1=((o.length-1-(i+1):Nat):Int) by omega]
   rw[hg _ (show o.length-1-i<o.length by omega),if_neg oM,hg _ h3,if_neg oM]
   have:((C50 o i).set i (o.getD (o.length-1-i) 0)).set (o.length-1-i) (o.getD i 0)=C50 o (i+1):=by
    refine B2D 0 (by rw[List.length_set,List.length_set,hlen]) fun k hk=>?_
    rw[sG (by rw[List.length_set,hlen];omega),sG oM,hg k hk]
    by_cases h5:k=o.length-1-i
    ·rw[if_pos h5,if_pos oM,h5,show o.length-1-(o.length-1-i)=i by omega]
    ·rw[if_neg h5]
     by_cases h6:k=i
     ·rw[if_pos h6,if_pos oM,h6]
     ·rw[if_neg h6]
      by_cases h7:k<i∨o.length-1-i<k
      ·rw[if_pos h7,if_pos oM]
      ·rw[if_neg h7,if_neg oM]
   rw[this]
   exact C51 hl h0 n (i+1) oM oM oM
  ·rw[if_neg hij]
   refine congrArg c (List.ext_getElem (by rw[hlen,List.length_reverse]) fun k h5 h6=>?_)
   have hk:k<o.length:=by omega
   rw[List.getElem_reverse,← J6 0 h5,hg k hk,← J6 0 (show o.length-1-k<o.length by omega)]
   by_cases h7:k<i∨o.length-1-i<k
   ·rw[if_pos h7]
   ·rw[if_neg h7,show o.length-1-k=k by omega]
theorem C55 {F:Nat} (hF:100<F) {o:List Int} (hl:o.length≤100):C1C F o=some o.reverse:=by
 rw[C1C]
 cases o with
 | nil =>
  obtain⟨m,rfl⟩:∃ m,F=m+1:=⟨F-1,by omega⟩
  rw[N3,if_neg dM]
  rfl
 | cons a l =>
  have h1:C50 (a::l) 0=a::l:=(B2D 0 rfl fun k hk=>by rw[if_neg oM]).symm
  have:=C51 (F:=F) (o:=a::l) (c:=some) hl sM F 0 oM oM sM
  rw[h1]at this
  rw[A8K oM oM,show((a::l).length:Int)-1=(((a::l).length-1-0:Nat):Int) by simp]
  exact this
def upC (p:D4):Nat→Int→List Int
 | 0,_=>[]
 | n+1,x=>if 0≤x then upC p n (C3S p x.toNat)++[x]else[]
theorem C5c {p:D4} (ho:A5Y p) {k:Nat} (h:k<p.steps.length) : -1≤C3S p k∧C3S p k<k:=by
 rcases C5a ho h with⟨_,e,_⟩ | ⟨e,_,_⟩
 ·rw[e];omega
 ·have:=(ho.t k h).nd _ e;omega
theorem C5B {F:Nat} {p:D4} (ho:A5Y p) {c:List Int→Option (List Int × Int)}:∀ (n:Nat) (A:List Int) (x:Int),-1≤x→x<p.steps.length→x+1<n→A.length+x≤100→C1P F (aT p p.steps.length (-1)) (fun A _=>c A) n A x=c (A++(upC p n x).reverse)
 | 0,A,x,h1,h2,h3,_=>by omega
 | n+1,A,x,h1,h2,h3,h4=>by
  rw[C1P]
  unfold upC
  by_cases hx:0≤x
  ·obtain⟨k,rfl⟩:∃ k:Nat,x=k:=⟨x.toNat,by omega⟩
   have hk:k<p.steps.length:=by omega
   have hal:k<(aT p p.steps.length (-1)).length:=by unfold aT;rw[B15];exact hk
   have hr:=C5c ho hk
   rw[if_pos hx,if_pos hx,A8O oM,oS,H3 hal,oS,← J6 0 hal,show(aT p p.steps.length (-1)).getD k 0=C3S p k by unfold aT;rw[B48 hk,if_pos hk],C5B ho n (A++[(k:Int)]) (C3S p k) oM oM oM (by rw[List.length_append];simp;omega),List.reverse_append,tN]
   simp
  ·rw[if_neg hx,if_neg hx]
   simp
theorem C56 {p:D4} (ho:A5Y p):∀ (n:Nat) (x:Int),-1≤x→x<p.steps.length→((upC p n x).length:Int)≤x+1
 | 0,x,h,_=>by show((0:Nat):Int)≤_;omega
 | n+1,x,h,h2=>by
  unfold upC
  by_cases hx:0≤x
  ·have hr:=C5c ho (k:=x.toNat) oM
   have:=C56 ho n (C3S p x.toNat) oM oM
   rw[if_pos hx,List.length_append]
   simp
   omega
  ·rw[if_neg hx]
   show((0:Nat):Int)≤_
   omega
structure C6i (p:D4) (l:List Int) (i:Nat):Prop where
 r:0≤l.getD i 0∧l.getD i 0<p.steps.length
 z:i=0→(p.steps.getD (l.getD i 0).toNat default).need=[]∧C3i p (l.getD i 0).toNat=(p.steps.getD (l.getD i 0).toNat default).least
 s:0<i→l.getD (i-1) 0∈(p.steps.getD (l.getD i 0).toNat default).need∧C3i p (l.getD i 0).toNat=C3i p (l.getD (i-1) 0).toNat+(p.steps.getD (l.getD i 0).toNat default).least
theorem C4E {l:List Int} {x:Int} {i:Nat}:(l++[x]).getD i 0=if i<l.length then l.getD i 0 else if i=l.length then x else 0:=by
 by_cases h:i<l.length
 ·rw[if_pos h];simp[List.getD_eq_getElem?_getD,List.getElem?_append_left h]
 ·rw[if_neg h]
  by_cases h2:i=l.length
  ·rw[if_pos h2,h2];simp[List.getD_eq_getElem?_getD]
  ·rw[if_neg h2]
   simp[List.getD_eq_getElem?_getD,List.getElem?_append_right (by omega:l.length≤i),List.getElem?_eq_none (by simp;omega:[x].length≤i-l.length)]
theorem C5O {p:D4} (ho:A5Y p):∀ (n:Nat) (x:Int),0≤x→x<p.steps.length→x+1<n→0<(upC p n x).length∧(upC p n x).getD ((upC p n x).length-1) 0=x∧∀ i,i<(upC p n x).length→C6i p (upC p n x) i
 | 0,x,h1,h2,h3=>by omega
 | n+1,x,h1,h2,h3=>by
  have hk:x.toNat<p.steps.length:=by omega
  have hr:=C5c ho hk
  have e:upC p (n+1) x=upC p n (C3S p x.toNat)++[x]:=by rw[upC,if_pos h1]
  rw[e]
  obtain⟨l,hl⟩:∃ l,upC p n (C3S p x.toNat)=l:=⟨_,rfl⟩
  rw[hl]
  have hlast:(l++[x]).getD l.length 0=x:=by rw[C4E,if_neg oM,if_pos rfl]
  refine⟨by simp,by rw[List.length_append,show l.length+[x].length-1=l.length from rfl];exact hlast,fun i hi=>?_⟩
  have hi:i<l.length+1:=by simpa using hi
  rcases C5a ho hk with⟨e1,e2,e3⟩ | ⟨e1,e2,e3⟩
  ·have hl0:l=[]:=by
    rw[← hl,e2]
    obtain⟨m,rfl⟩:∃ m,n=m+1:=⟨n-1,by omega⟩
    rw[upC,if_neg dM]
   subst hl0
   have:i=0:=by simp at hi;exact hi
   subst this
   refine⟨?_,fun _=>?_,fun h=>by omega⟩
   ·show 0≤x∧x<_
    exact⟨h1,h2⟩
   ·show(p.steps.getD x.toNat default).need=[]∧C3i p x.toNat=(p.steps.getD x.toNat default).least
    exact⟨e1,e3⟩
  ·have hb:=(ho.t _ hk).nd _ e1
   obtain⟨k1,k2,k3⟩:=C5O ho n (C3S p x.toNat) oM oM oM
   rw[hl]at k1 k2 k3
   by_cases hil:i<l.length
   ·have hw:=k3 i hil
    have g1:(l++[x]).getD i 0=l.getD i 0:=by rw[C4E,if_pos hil]
    refine⟨by rw[g1];exact hw.r,fun h=>by rw[g1];exact hw.z h,fun h=>?_⟩
    rw[g1,C4E,if_pos oM]
    exact hw.s h
   ·obtain rfl:i=l.length:=by omega
    refine⟨by rw[hlast];exact⟨h1,h2⟩,fun h=>by omega,fun h=>?_⟩
    rw[hlast,C4E,if_pos oM,k2]
    exact⟨e1,e3⟩
def C6k (p:D4) (F:Nat):List Int:=upC p F (p.steps.length-1)
theorem C5S {F:Nat} {p:D4} (hf:CtF F p):C2x F p=some (if(A35 p).2.2=0 then(C6k p F,0)else([],(A35 p).2.2)):=by
 have hF:=hf.pd.f
 rw[C2x,B7s hf,oS]
 by_cases h0:(A35 p).2.2=0
 ·have ho:=A95 h0
  have t1:=ho.t1;have t16:=ho.t16
  rw[if_pos h0,if_pos h0,B0U oM,oS,B5w hF t16,oS]
  have e1:List.replicate p.steps.length (0:Int)=C5Y p 0:=B2D 0 List.length_replicate fun k hk=>by rw[A5J _ _ _ _ hk,if_neg oM]
  have e2:List.replicate p.steps.length (-1:Int)=aT p 0 (-1):=B2D 0 List.length_replicate fun k hk=>by rw[A5J _ _ _ _ hk,if_neg oM,ite_self]
  rw[e1,e2,A8K (x:=(p.steps.length:Int)-1) oM oM]
  refine(C5p hF ho F 0 oM oM).trans ?_
  refine(C5B (c:=fun A=>(C3u (C1C F A) A).bind fun rv6=>some (rv6,(0:Int))) ho F [] ((p.steps.length:Int)-1) oM oM oM (by simp;omega)).trans ?_
  have hl:=C56 ho F ((p.steps.length:Int)-1) oM oM
  have hre:=C55 hF (o:=(upC p F ((p.steps.length:Int)-1)).reverse) (by rw[List.length_reverse];omega)
  rw[List.reverse_reverse]at hre
  rw[List.nil_append,hre]
  show(C3u (some (upC p F ((p.steps.length:Int)-1))) _).bind _=_
  unfold C3u
  rw[oS,if_pos (by rw[List.length_reverse])]
  rfl
 ·rw[if_neg h0,if_neg h0]
theorem C4U {F:Nat} {p:D4} {l:List Int} {r:Int} {i:Nat} {x:Int} {e:E0} (hx:P3 p.steps x=some e) (hi:0<i) (hil:i≤l.length) (hl:l.length≤16) (hn:e.need.length≤16) {K:Bool→Int→Option Bool}:∀ (n j:Nat) (b:Bool),e.need.length<n+j→j≤e.need.length →
  C2P F p (l,r) i x K n b j=K (b||(e.need.drop j).any fun m=>decide (m=l.getD (i-1) 0)) (e.need.length:Int)
 | 0,j,b,h,h2=>absurd h oM
 | n+1,j,b,h,h2=>by
  rw[C2P,hx,oS]
  by_cases hj:j<e.need.length
  ·rw[if_pos oM,if_pos oM,S0 oM,lD hj,List.any_cons]
   cases b with
   | true=>rw[if_pos rfl,C4U hx hi hil hl hn n (j+1) true oM oM,Bool.true_or,Bool.true_or]
   | false =>
    rw[if_neg sM,H3 hj,oS,A8K (x:=(i:Int)-1) oM oM,show(i:Int)-1=((i-1:Nat):Int) by omega]
    show(P3 l ((i-1:Nat):Int)).bind _=_
    rw[H3 (show i-1<l.length by omega),oS,← J6 0 (show i-1<l.length by omega)]
    by_cases he:e.need[j]=l.getD (i-1) 0
    ·rw[if_pos he,dT he,C4U hx hi hil hl hn n (j+1) true oM oM,Bool.false_or,Bool.true_or]
    ·rw[if_neg he,dF he,C4U hx hi hil hl hn n (j+1) false oM oM,Bool.false_or,Bool.false_or]
  ·obtain rfl:j=e.need.length:=by omega
   rw[if_neg oM,List.drop_length,List.any_nil,Bool.or_false]
theorem C5A {F:Nat} {p:D4} {l:List Int} {r:Int} (hF:100<F) (ho:A5Y p) (hl:l.length≤16) (hw:∀ i,i<l.length→C6i p l i) {K:Int→Int→Option Bool}:∀ (n i:Nat) (x:Int),l.length<n+i→i≤l.length→x=(if i=0 then 0 else C3i p (l.getD (i-1) 0).toNat) →
  C2L F p (l,r) K n x i=K (if l.length=0 then 0 else C3i p (l.getD (l.length-1) 0).toNat) l.length
 | 0,i,x,h,h2,_=>absurd h oM
 | n+1,i,x,h,h2,hx=>by
  have t16:=ho.t16
  rw[C2L]
  by_cases hi:i<l.length
  ·have hwi:=hw i hi
   have hr:=hwi.r
   obtain⟨e,he⟩:∃ e,l.getD i 0=e:=⟨_,rfl⟩
   have hge:l[i]=e:=by rw[← J6 0 hi];exact he
   have hz:=hwi.z;have hs:=hwi.s
   rw[he]at hr hz hs
   obtain⟨k,rfl⟩:∃ k:Nat,e=k:=⟨e.toNat,by omega⟩
   have hk:k<p.steps.length:=by omega
   rw[tN]at hz hs
   have hso:=ho.t k hk
   have hnl:=B0F hso.na hso.nd
   have hle:=hso.l;have hm:=hso.m
   have hix:P3 p.steps (k:Int)=some (p.steps.getD k default):=by rw[H3 hk,J6 default hk]
   have hdr:=C4r ho hk
   rw[if_pos (show(i:Int)<((l,r).1.length:Int) by show(i:Int)<(l.length:Int);omega),show P3 (l,r).1 (i:Int)=some (k:Int) by rw[← hge];exact H3 hi,oS,if_neg oM,if_neg oM]
   have next:∀ y,y=C3i p k→C2L F p (l,r) K n (W y) (W ((i:Int)+1))=K (if l.length=0 then 0 else C3i p (l.getD (l.length-1) 0).toNat) l.length:=fun y hy=>by
    rw[S0 oM,A8K (x:=y) oM oM]
    exact C5A hF ho hl hw n (i+1) y oM oM (by rw[if_neg oM,show i+1-1=i by omega,he,tN];exact hy)
   by_cases h0:i=0
   ·obtain⟨z1,z2⟩:=hz h0
    rw[if_pos oM,hix,oS,z1,if_pos sM]
    obtain⟨m,rfl⟩:∃ m,F=m+1:=⟨F-1,by omega⟩
    rw[C3t,z1,if_neg sM]
    rw[if_pos h0]at hx
    exact next _ (by rw[z2,hx];omega)
   ·obtain⟨s1,s2⟩:=hs oM
    have hlen16:(p.steps.getD k default).need.length≤16:=by omega
    have h3:=C4U (F:=F) (p:=p) (l:=l) (r:=r) (i:=i) (x:=(k:Int)) (K:=fun(x7:Bool) (x8:Int)=>if x7=true then((P3 p.steps (k:Int)).bind fun e8=>C2L F p (l,r) K n (W (x+e8.least)) (W ((i:Int)+1)))else(some false)) hix oM oM hl hlen16 F 0 false oM oM
    have hany:((p.steps.getD k default).need.drop 0).any (fun m=>decide (m=l.getD (i-1) 0))=true:=List.any_eq_true.2 ⟨_,by rw[List.drop_zero];exact s1,dT rfl⟩
    rw[hany]at h3
    rw[if_neg oM]
    refine h3.trans ?_
    rw[Bool.false_or,if_pos rfl,hix,oS]
    rw[if_neg h0]at hx
    exact next _ (by rw[s2,hx])
  ·obtain rfl:i=l.length:=by omega
   rw[if_neg (show ¬ ((l.length:Nat):Int)<((l,r).1.length:Int) by show ¬ (l.length:Int)<(l.length:Int);omega),hx]
theorem C59 {F:Nat} {p:D4} {o:List Int} {D:Int} {c:Option Bool} (ho:A5Y p) (hD:D≤1000000) (hob:∀ z∈o,0≤z∧z≤255) {K:Int→Int→Int→Option Bool} (hK:∀ x y j,y≤D→K x y j=c):∀ (n k j:Nat) (s:Int),16<n+j→j≤16→k<p.steps.length→0≤s→s+C3i p k≤D→C2W F p o K n k s j=c
 | 0,k,j,s,h,h2,_,_,_=>absurd h oM
 | n+1,k,j,s,h,h2,hk,hs,hD2=>by
  have t16:=ho.t16
  have hso:=ho.t k hk
  have hnl:=B0F hso.na hso.nd
  have hle:=hso.l;have hm:=hso.m
  have hdr:=C4r ho hk
  have hix:P3 p.steps (k:Int)=some (p.steps.getD k default):=by rw[H3 hk,J6 default hk]
  rw[C2W]
  by_cases hj:(j:Int)<16
  ·rw[if_pos hj,hix,oS]
   rcases C5a ho hk with⟨e1,e2,e3⟩ | ⟨e1,e2,e3⟩
   ·rw[e1,if_pos sM,A8K oM oM]
    exact hK _ _ _ oM
   ·have hne:0<(p.steps.getD k default).need.length:=List.length_pos_of_mem e1
    have hb:=hso.nd _ e1
    have hbr:=C4r ho (k:=(C3S p k).toNat) oM
    have next:∀ q:Nat,q<(p.steps.getD k default).need.length→((P3 (p.steps.getD k default).need (q:Int)).bind fun e12=>if e12<0 then(some false)else(if(p.steps.length:Int)≤e12 then(some false)else(C2W F p o K n e12 (W (s+(p.steps.getD k default).least)) (W ((j:Int)+1)))))=c:=fun q hq=>by
     have hmem:=List.getElem_mem hq
     have hr:=hso.nd _ hmem
     have hle2:=e2 _ hmem
     rw[H3 hq,oS,if_neg oM,if_neg oM,S0 oM,A8K oM oM]
     obtain⟨m,hme⟩:∃ m:Nat,(p.steps.getD k default).need[q]=m:=⟨((p.steps.getD k default).need[q]).toNat,by omega⟩
     rw[hme]at hr hle2 ⊢
     rw[tN]at hle2
     exact C59 ho hD hob hK n m (j+1) _ oM oM oM oM oM
    rw[if_neg oM]
    by_cases hjo:j<o.length
    ·have ha:=hob _ (List.getElem_mem hjo)
     rw[if_pos oM,H3 hjo,oS,if_neg oM,A8K (x:=o[j]) oM oM]
     have hq0:=Int.tmod_nonneg ((p.steps.getD k default).need.length:Int) ha.1
     have hq1:=Int.tmod_lt_of_pos o[j] (show(0:Int)<((p.steps.getD k default).need.length:Int) by omega)
     obtain⟨q,hqe⟩:∃ q:Nat,Int.tmod o[j] ((p.steps.getD k default).need.length:Int)=q:=⟨(Int.tmod o[j] ((p.steps.getD k default).need.length:Int)).toNat,by omega⟩
     rw[hqe]
     exact next q oM
    ·rw[if_neg oM]
     exact next 0 hne
  ·rw[if_neg hj]
   exact hK _ _ _ oM
theorem C5z {F:Nat} {p:D4} (hf:CtF F p) (o:List Int) (hob:∀ z∈o,0≤z∧z≤255) (ha:A7X 100=some true):C3Q F p o=some true:=by
 have hF:=hf.pd.f
 rw[C3Q,C5S hf,oS,ha]
 by_cases h0:(A35 p).2.2=0
 ·have ho:=A95 h0
  have t1:=ho.t1;have t16:=ho.t16
  obtain⟨w1,w2,w3⟩:=C5O ho F ((p.steps.length:Int)-1) oM oM oM
  have wl:=C56 ho F ((p.steps.length:Int)-1) oM oM
  obtain⟨l,hl⟩:∃ l,C6k p F=l:=⟨_,rfl⟩
  have hl2:upC p F ((p.steps.length:Int)-1)=l:=hl
  rw[hl2]at w1 w2 w3 wl
  have hdr:=C4r ho (k:=p.steps.length-1) oM
  obtain⟨D,hD⟩:∃ D,C3i p (p.steps.length-1)=D:=⟨_,rfl⟩
  rw[if_pos h0,hl,if_pos rfl,if_neg oM]
  refine(C5A hF ho oM w3 F 0 0 oM oM rfl).trans ?_
  have e0:(if l.length=0 then(0:Int)else C3i p (l.getD (l.length-1) 0).toNat)=D:=by rw[if_neg oM,w2,show((p.steps.length:Int)-1).toNat=p.steps.length-1 by omega,hD]
  rw[e0]
  show(if(l.length:Int)=0 then _ else((P3 l (W ((l.length:Int)-1))).bind _))=_
  rw[if_neg oM,A8K (x:=(l.length:Int)-1) oM oM,show(l.length:Int)-1=((l.length-1:Nat):Int) by omega,H3 (show l.length-1<l.length by omega),oS,← J6 0 (show l.length-1<l.length by omega),w2,A8K (x:=(p.steps.length:Int)-1) oM oM,if_pos rfl,show(p.steps.length:Int)-1=((p.steps.length-1:Nat):Int) by omega]
  refine C59 (D:=D) ho oM hob (fun x y j hy=>?_) F (p.steps.length-1) 0 0 oM oM oM oM oM
  have hp:(A0O p []).1=some (A0U p):=by
   unfold A0O
   rw[if_pos h0,if_neg sM,if_pos (show A8k p []=0 from rfl)]
   rfl
  have hopen:(B6Z p []).1=some (A0U p):=by
   unfold B6Z
   rw[hp]
   show(bif A6e (A0U p) (p.steps.length-1)then((none:Option H2),(9:Int))else(some (A0U p),0)).1=_
   rw[(C4D (p:=p) (k:=p.steps.length-1) oM).1]
   rfl
  have hE:B22 p [] 0=bif B8x p (A0U p) 0 then((A6b p (A0U p) 0).1,0)else(0,9):=by
   unfold B22
   rw[hopen]
   rfl
  show(A3Z F p [] 0).bind _=_
  rw[C2m hf,oS,hE,if_pos hy]
  cases hps:B8x p (A0U p) 0 with
  | true =>
   have h1:=C2h hps
   have h2:C0t p (A0U p) 0=max D p.Q8:=by unfold C0t;rw[← hD];rfl
   show(if(0:Int)=0 then(if(A6b p (A0U p) 0).1=_ then _ else _)else _)=_
   rw[if_pos rfl,if_pos oM]
   rfl
  | false =>
   show(if(9:Int)=0 then _ else _)=_
   rw[if_neg dM]
   rfl
 ·rw[if_neg h0,if_neg h0,if_neg h0]
  rfl
end Go.Proofs.YtlaogbbcipebgaaGreat
