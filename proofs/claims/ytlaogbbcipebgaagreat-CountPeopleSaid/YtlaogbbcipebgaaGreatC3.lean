/- A countdown in plain words: events, the desk at first, time that passes. -/
import Derived.Test.YtlaogbbcipebgaaGreatQ1
set_option linter.unusedVariables false
set_option linter.unusedSimpArgs false
open Go Go.Proofs.YtlaogbbcipebgaaGreat.Sh Go.Proofs
namespace Go.Proofs.YtlaogbbcipebgaaGreat
abbrev A8M (x:C7):D2:=D2.mk x.A04 x.A0D x.A1L x.A0E x.A0F
def A20 (p:D4) (k:Int):Int:=bif decide (k=1)||decide (k=2)then p.steps.length else bif decide (k=5)||decide (k=6)then p.stations.length else bif decide (k=7)then p.points.length else p.batteries.length
def A3r (k:Int):Bool:=decide (k=3)||decide (k=4)||decide (k=8)
def B0C (x:C7):Bool:=bif decide (x.kind=8)then !decide (x.A04=x.at_)else !D2.beq (A8M x) (D2.mk 0 0 0 0 0)
def A5H (p:D4) (x:C7):Int :=
 bif N9 x.at_ 0 100000 then 7 else bif N9 x.kind 1 9 then 2 else
 bif !A3r x.kind&&N9 x.what 0 (A20 p x.kind-1)then 4 else
 bif (A3r x.kind && !decide (x.what=0))||B0C x then 2 else
 bif decide (x.kind=8)then A9U (A1w p) (A8M x)else 0
theorem C00 {p:D4} {k:Int} (h:1≤k∧k≤9):(A2e (M0 (M0 (M0 (M0 (M0 (M0 ([]:List (Int × Int)) 1 (p.steps.length:Int)) 2 (p.steps.length:Int)) 5 (p.stations.length:Int)) 6 (p.stations.length:Int)) 7 (p.points.length:Int)) 9 (p.batteries.length:Int)) k).isSome=!A3r k ∧
  (A3r k=false→(A2e (M0 (M0 (M0 (M0 (M0 (M0 ([]:List (Int × Int)) 1 (p.steps.length:Int)) 2 (p.steps.length:Int)) 5 (p.stations.length:Int)) 6 (p.stations.length:Int)) 7 (p.points.length:Int)) 9 (p.batteries.length:Int)) k).getD 0=A20 p k):=by
 have h9:k=1∨k=2∨k=3∨k=4∨k=5∨k=6∨k=7∨k=8∨k=9:=by omega
 rcases h9 with rfl | rfl | rfl | rfl | rfl | rfl | rfl | rfl | rfl<;>first | exact⟨rfl,fun _=>rfl⟩ | exact⟨rfl,fun h=>absurd h dM⟩
theorem B71 {F:Nat} {p:D4} (h:CtF F p) (ho:A5Y p) (x:C7):A3I F p x=some (A5H p x):=by
 have hl:0≤A20 p x.kind∧A20 p x.kind<9223372036854775808:=by
  have:=h.lp;have:=ho.t16;have:=ho.s8;have:=ho.b6
  unfold A20
  cases decide (x.kind=1)||decide (x.kind=2)<;>cases decide (x.kind=5)||decide (x.kind=6)<;>cases decide (x.kind=7)<;>simp only[cT,cF]<;>omega
 rw[A3I,X2,oS,X2,oS]
 unfold A5H
 cases h1:N9 x.at_ 0 100000 with
 | true=>rw[if_pos rfl,cT]
 | false =>
  cases h2:N9 x.kind 1 9 with
  | true=>rw[if_neg sM,if_pos rfl,cF,cT]
  | false =>
   obtain⟨m1,m2⟩:=C00 (p:=p) (O6.1 h2)
   rw[if_neg sM,if_neg sM,cF,cF,m1,A1t,A1u,A1v,B4C h.pd,oS,X2,oS]
   cases hn:A3r x.kind with
   | false =>
    rw[m2 hn,A8K oM oM,if_pos sM]
    unfold B0C
    by_cases h8:x.kind=8
    ·rw[h8]at hn;cases hn
    ·simp only[if_neg h8,dF h8,cF,Bool.not_false,Bool.true_and,Bool.false_and,Bool.false_or]
     cases N9 x.what 0 (A20 p x.kind-1)<;>cases D2.beq (A8M x) (D2.mk 0 0 0 0 0)<;>rfl
   | true =>
    rw[if_neg sM]
    unfold B0C
    by_cases h8:x.kind=8
    ·simp only[if_pos h8,dT h8,cT,Bool.not_true,Bool.false_and,Bool.true_and,cF,A4e]
     cases decide (x.what=0)<;>cases decide (x.A04=x.at_)<;>rfl
    ·simp only[if_neg h8,dF h8,cF,Bool.not_true,Bool.false_and,Bool.true_and,A4e]
     cases decide (x.what=0)<;>cases D2.beq (A8M x) (D2.mk 0 0 0 0 0)<;>rfl
structure B18 (p:D4) (x:C7):Prop where
 t:0≤x.at_∧x.at_≤100000
 k:1≤x.kind∧x.kind≤9
 w:A3r x.kind=false→0≤x.what∧x.what<A20 p x.kind
 a:x.kind=8→x.A04=x.at_∧A9U (A1w p) (A8M x)=0
theorem B60 {p:D4} {x:C7} (h:A5H p x=0):B18 p x:=by
 unfold A5H at h
 cases h1:N9 x.at_ 0 100000 with
 | true=>rw[h1]at h;cases h
 | false =>
  cases h2:N9 x.kind 1 9 with
  | true=>rw[h1,h2]at h;cases h
  | false =>
   rw[h1,h2]at h
   simp only[cF]at h
   cases h3:!A3r x.kind&&N9 x.what 0 (A20 p x.kind-1)with
   | true=>rw[h3]at h;cases h
   | false =>
    cases h4:(A3r x.kind && !decide (x.what=0))||B0C x with
    | true=>rw[h3,h4]at h;cases h
    | false =>
     rw[h3,h4]at h
     simp only[cF]at h
     refine⟨O6.1 h1,O6.1 h2,fun hn=>?_,fun h8=>?_⟩
     ·rw[hn]at h3
      have:=O6.1 (show N9 x.what 0 (A20 p x.kind-1)=false from h3)
      omega
     ·rw[dT h8,cT]at h
      refine⟨?_,h⟩
      rw[Bool.or_eq_false_iff]at h4
      have:=h4.2
      unfold B0C at this
      rw[dT h8,cT]at this
      simpa using this
abbrev dsk (p:D4) (s:H2):F7:=F7.mk p.N4 p.P5 p.N6 p.S5 p.J3 p.Q7 p.T9 p.stations p.batteries p.steps p.points p.Q8 p.O8 s.now s.A9j s.N4 s.A5M s.J3 s.A68 s.A69 s.begun s.ended s.held s.go s.left s.on_
abbrev B1c (s:H2):C3:=C3.mk s.A9j s.N4 s.A5M s.J3 s.A68 s.A69
abbrev B3q (s:H2) (d:C3):H2:={s with A9j:=d.now,N4:=d.zones,A5M:=d.holder,J3:=d.squibs,A68:=d.siren,A69:=d.storm}
def B9C:H2:=H2.mk 0 0 [] [] [] 0 false [] [] false [] [] []
def A0U (p:D4):H2:=B3q ⟨0,0,[],[],[],0,false,List.replicate p.steps.length (-1),List.replicate p.steps.length (-1),false,List.replicate p.stations.length false,p.batteries.map (·.charge),List.replicate p.batteries.length false⟩ (A4C (A1w p)).1
theorem B34 {F:Nat} {p:D4} (hb:p.batteries.length≤6) {K:List Int→Option ((Option F7) × Int)}:∀ (n k:Nat),p.batteries.length<n+k→k≤p.batteries.length→A1r F p (fun lv _=>K lv) n ((p.batteries.take k).map (·.charge)) k=K (p.batteries.map (·.charge))
 | 0,k,h,h2=>absurd h oM
 | n+1,k,h,h2=>by
  rw[A1r]
  by_cases hk:k<p.batteries.length
  ·rw[if_pos oM,H3 hk,oS,A8O (by rw[List.length_map,List.length_take];omega),oS,S0 oM,B6V (fun b:D9=>b.charge) hk,B34 hb n (k+1) oM oM]
  ·rw[if_neg oM,List.take_of_length_le oM]
theorem B7o {F:Nat} {p:D4} (h:CtF F p):A4Q F p=some (if(A35 p).2.2=0 then(some (dsk p (A0U p)),0)else(none,(A35 p).2.2)):=by
 have hF:=h.pd.f
 rw[A4Q,B7s h,oS]
 by_cases h0:(A35 p).2.2=0
 ·have ho:=A95 h0
  have k1:=ho.b6
  have k2:=ho.t16
  have k3:=ho.s8
  rw[if_pos h0,if_pos h0,B2f h.pd,oS,B5w hF k2,oS,oS]
  have:=B34 (F:=F) k1 (K:=fun lv=>(B1D (p.stations.length:Int)).bind fun q2=>(B1D (p.batteries.length:Int)).bind fun q3=>some ((some (F7.mk p.N4 p.P5 p.N6 p.S5 p.J3 p.Q7 p.T9 p.stations p.batteries p.steps p.points p.Q8 p.O8 0 (A4C (A1w p)).1.now (A4C (A1w p)).1.zones (A4C (A1w p)).1.holder (A4C (A1w p)).1.squibs (A4C (A1w p)).1.siren (A4C (A1w p)).1.storm (List.replicate p.steps.length (-1)) (List.replicate p.steps.length (-1)) false (List.replicate q2 false) lv (List.replicate q3 false))),0)) F 0 oM oM
  rw[List.take_zero,List.map_nil]at this
  refine this.trans ?_
  rw[B0U oM,oS,B0U oM,oS]
  rfl
 ·rw[if_neg h0,if_neg h0]
structure CF (p:D4) (s:H2):Prop where
 lb:s.begun.length=p.steps.length
 le:s.ended.length=p.steps.length
 lg:s.go.length=p.stations.length
 ll:s.left.length=p.batteries.length
 lo:s.on_.length=p.batteries.length
 now:0≤s.now∧s.now≤100000
 b:∀ k,k<p.steps.length → -1≤s.begun.getD k 0∧s.begun.getD k 0≤s.now
 e:∀ k,k<p.steps.length → -1≤s.ended.getD k 0∧s.ended.getD k 0≤s.now
 l:∀ k,k<p.batteries.length→0≤s.left.getD k 0∧s.left.getD k 0≤(p.batteries.getD k default).charge
 pd:∀ F,A5x F (A1w p)→StF F (B1c s)
theorem A5J {α:Type} (n k:Nat) (a d:α) (h:k<n):(List.replicate n a).getD k d=a:=by simp[List.getD_eq_getElem?_getD,h]
theorem B1z {p:D4} (ho:A5Y p):CF p (A0U p) where
 lb:=List.length_replicate
 le:=List.length_replicate
 lg:=List.length_replicate
 ll:=List.length_map _
 lo:=List.length_replicate
 now:=⟨Int.le_refl 0,by show(0:Int)≤100000;decide⟩
 b k hk:=by
  rw[show(A0U p).begun.getD k 0 = -1 from A5J _ _ _ _ hk]
  exact⟨by decide,by show(-1:Int)≤0;decide⟩
 e k hk:=by
  rw[show(A0U p).ended.getD k 0 = -1 from A5J _ _ _ _ hk]
  exact⟨by decide,by show(-1:Int)≤0;decide⟩
 l k hk:=by
  have h1:(A0U p).left.getD k 0=(p.batteries.getD k default).charge:=by
   show(p.batteries.map (·.charge)).getD k 0=_
   simp[List.getD_eq_getElem?_getD,List.getElem?_eq_getElem hk]
  rw[h1]
  have:=(ho.b k hk).1
  omega
 pd F hF:=B42 hF.f
def B14 {α:Type} (n:Nat) (f:Nat→α):List α:=(List.range n).map f
theorem B15 {α:Type} (n:Nat) (f:Nat→α):(B14 n f).length=n:=by simp[B14]
theorem B48 {α:Type} {n:Nat} {f:Nat→α} {k:Nat} {d:α} (h:k<n):(B14 n f).getD k d=f k:=by simp[B14,List.getD_eq_getElem?_getD,h]
theorem B2D {α:Type} {l:List α} {n:Nat} {f:Nat→α} (d:α) (h:l.length=n) (hf:∀ k,k<n→l.getD k d=f k):l=B14 n f:=by
 apply List.ext_getElem (by rw[B15,h])
 intro k h1 h2
 have:=hf k oM
 rw[J6 d h1]at this
 rw[this]
 simp[B14]
theorem A6I {α:Type} (l:List α) (i k:Nat) (a d:α) (h:i<l.length):(l.set i a).getD k d=if k=i then a else l.getD k d:=by
 simp only[List.getD_eq_getElem?_getD,List.getElem?_set]
 by_cases e:k=i
 ·subst e;simp[h]
 ·simp[e,Ne.symm e]
theorem sG {α:Type} {l:List α} {i k:Nat} {a d:α} (h:i<l.length):(l.set i a).getD k d=if k=i then a else l.getD k d:=A6I l i k a d h
def B0f (p:D4) (s:H2) (t:Int) (k:Nat):Int:=bif s.on_.getD k false then max 0 (s.left.getD k 0-(t-s.now)*(p.batteries.getD k default).rate)else s.left.getD k 0
def B4e (p:D4) (s:H2) (t:Int):H2:={s with now:=t,left:=B14 p.batteries.length (B0f p s t)}
theorem A96 {F:Nat} {l:List Int} (h:l.length≤100):T3 F l=some l:=A8R oM
theorem B0J {F:Nat} {l:List Bool} (h:l.length≤100):A0v F l=some l:=by
 unfold A0v B26
 rw[if_pos (by simp;omega)];rfl
theorem B6u {F:Nat} {p:D4} {s:H2} (ho:A5Y p) (hs:CF p s):A0Y F (dsk p s)=some (dsk p s):=by
 have:=ho.t16;have:=ho.s8;have:=ho.b6
 have:=hs.lb;have:=hs.le;have:=hs.lg;have:=hs.ll;have:=hs.lo
 rw[A0Y,A96 (by show s.begun.length≤_;omega),oS,A96 (by show s.ended.length≤_;omega),oS,A96 (by show s.left.length≤_;omega),oS,B0J (by show s.go.length≤_;omega),oS,B0J (by show s.on_.length≤_;omega),oS]
theorem B4n {a b:Int} (h1:0≤a∧a≤100000) (h2:1≤b∧b≤1000):0≤a*b∧a*b≤100000000:=by
 constructor
 ·exact Int.mul_nonneg h1.1 oM
 ·calc a*b≤100000*1000:=Int.mul_le_mul h1.2 h2.2 oM oM
   _=100000000:=by decide
theorem B8Z {F:Nat} {p:D4} {s:H2} (hF:100<F) (ho:A5Y p) (hs:CF p s) {t:Int} (ht:s.now≤t∧t≤100000):A2V F (dsk p s) t=some (dsk p (B4e p s t)):=by
 have k1:=ho.b6
 have k2:=hs.ll
 have k3:=hs.lo
 have kn:=hs.now
 have key:∀ (n k:Nat) (d:List Int),d.length=p.batteries.length→(∀ j,j<k→d.getD j 0=B0f p s t j)→(∀ j,k≤j→d.getD j 0=s.left.getD j 0)→p.batteries.length<n+k→k≤p.batteries.length →
   T6 F (dsk p s) t (fun d2 _=>some {dsk p s with H6:=t,A7:=d2}) n d k=some (dsk p (B4e p s t)):=fun n=>by
  induction n with
  | zero=>intro k d _ _ _ h;omega
  | succ n ih =>
   intro k d h1 h2 h3 h h4
   rw[T6]
   by_cases hk:k<p.batteries.length
   ·have hb:=(ho.b k hk).2
    have hl:=hs.l k hk
    have hc:=(ho.b k hk).1
    have hm:=B4n (a:=t-s.now) oM hb
    rw[if_pos (by show(k:Int)<(p.batteries.length:Int);omega),show P3 (dsk p s).E7 k=some p.batteries[k]from H3 hk,oS,show P3 (dsk p s).B0 k=some (s.on_[k]'oM)from H3 (show k<s.on_.length by omega),oS,S0 oM]
    have ek:B0f p s t k=bif s.on_[k]'oM then max 0 (s.left.getD k 0-(t-s.now)*p.batteries[k].rate)else s.left.getD k 0:=by
     unfold B0f
     rw[J6 false (by omega:k<s.on_.length),J6 default hk]
    rw[J6 default hk]at hm hb
    cases ho2:s.on_[k]'oM with
    | true =>
     rw[ho2,cT]at ek
     rw[if_pos rfl,H3 (by omega:k<d.length),oS,← J6 0 (by omega:k<d.length),h3 k (Nat.le_refl _)]
     unfold A5g
     have w1:W (t-s.now)=t-s.now:=A8K oM oM
     have w2:W ((t-s.now)*p.batteries[k].rate)=(t-s.now)*p.batteries[k].rate:=A8K oM oM
     have w3:W (s.left.getD k 0-(t-s.now)*p.batteries[k].rate)=s.left.getD k 0-(t-s.now)*p.batteries[k].rate:=A8K oM oM
     rw[oS]
     show T6 F (dsk p s) t _ n (d.set (k:Int).toNat (max 0 (W (s.left.getD k 0-W (W (t-s.now)*p.batteries[k].rate))))) _=_
     rw[w1,w2,w3]
     have hkn:(k:Int).toNat=k:=by omega
     rw[hkn]
     refine ih (k+1) _ (by rw[List.length_set];exact h1) (fun j hj=>?_) (fun j hj=>?_) oM oM
     ·rw[sG oM]
      by_cases e:j=k
      ·rw[if_pos e,e,ek]
      ·rw[if_neg e];exact h2 j oM
     ·rw[sG oM,if_neg oM];exact h3 j oM
    | false =>
     rw[ho2,cF]at ek
     rw[if_neg sM]
     refine ih (k+1) d h1 (fun j hj=>?_) (fun j hj=>h3 j oM) oM oM
     by_cases e:j=k
     ·rw[e,ek];exact h3 k (Nat.le_refl _)
     ·exact h2 j oM
   ·rw[if_neg (by show ¬ (k:Int)<(p.batteries.length:Int);omega)]
    have:d=B14 p.batteries.length (B0f p s t):=B2D 0 h1 fun j hj=>h2 j oM
    rw[this]
    rfl
 exact key F 0 s.left k2 (fun j hj=>by omega) (fun j _=>rfl) oM oM
theorem B5P {p:D4} {s:H2} (ho:A5Y p) (hs:CF p s) {t:Int} (ht:s.now≤t∧t≤100000):CF p (B4e p s t) where
 lb:=hs.lb
 le:=hs.le
 lg:=hs.lg
 ll:=B15 _ _
 lo:=hs.lo
 now:=by have:=hs.now;show 0≤t∧t≤100000;omega
 b k hk:=by have:=hs.b k hk;show -1≤s.begun.getD k 0∧s.begun.getD k 0≤t;omega
 e k hk:=by have:=hs.e k hk;show -1≤s.ended.getD k 0∧s.ended.getD k 0≤t;omega
 l k hk:=by
  show 0≤(B14 p.batteries.length (B0f p s t)).getD k 0∧(B14 p.batteries.length (B0f p s t)).getD k 0≤_
  rw[B48 hk]
  have hl:=hs.l k hk
  have hn:=hs.now
  have hm:=B4n (a:=t-s.now) oM (ho.b k hk).2
  unfold B0f
  cases s.on_.getD k false
  ·rw[cF];exact hl
  ·rw[cT];omega
 pd:=hs.pd
def scD (p:D4):Except Int H2→Except Int F7
 | .ok s => .ok (dsk p s)
 | .error e => .error e
theorem Z0 {α:Type} (F:Nat) (b:Bool) (w:Int) (f:Int→Option α) (g:Unit→Option α):((P4 F b w).bind fun rv=>exE rv f g)=bif b then g ()else f w:=by cases b<;>rfl
theorem B3C {σ α:Type} (l:List α) (d:α) (h:σ→α→σ) (s:σ):(List.range' 0 l.length).foldl (fun s k=>h s (l.getD k d)) s=l.foldl h s:=by
 have key:∀ m k s,k+m=l.length→(List.range' k m).foldl (fun s k=>h s (l.getD k d)) s=(l.drop k).foldl h s:=fun m=>by
  induction m with
  | zero=>intro k s hk;rw[lL oM];rfl
  | succ m ih =>
   intro k s hk
   rw[List.range'_succ,List.foldl_cons,ih (k+1) _ oM,lD (by omega:k<l.length),List.foldl_cons,J6 d oM]
 simpa using key l.length 0 s oM
theorem A6T {F:Nat} {l:List Int} (hl:l.length<F∧l.length<9223372036854775808) (v:Int):S9 F l v=some (l.any fun e=>decide (v=e)):=by
 obtain⟨r,h1,h2⟩:=A6P (g:=T0 F l v (fun _=>some (-1))) (s:=l) (p:=fun e=>decide (v=e)) (fun n k hk=>by rw[T0,if_pos oM,H3 hk,oS,S0 oM];simp only[decide_eq_true_eq]) (fun n=>by rw[T0,if_neg oM]) F 0 oM oM
 rw[S9,A2x,show(0:Int)=((0:Nat):Int)from rfl,h1,oS,show((0:Nat):Int)=0 from rfl,h2,List.drop_zero]
theorem B1A {F:Nat} {l:List Bool} (hl:l.length<F∧l.length<9223372036854775808) (v:Bool):A0H F l v=some (l.any fun e=>v==e):=by
 obtain⟨r,h1,h2⟩:=A6P (g:=V7 F l v (fun _=>some (-1))) (s:=l) (p:=fun e=>v==e) (fun n k hk=>by rw[V7,if_pos oM,H3 hk,oS,S0 oM]) (fun n=>by rw[V7,if_neg oM]) F 0 oM oM
 rw[A0H,A2Y,show(0:Int)=((0:Nat):Int)from rfl,h1,oS,show((0:Nat):Int)=0 from rfl,h2,List.drop_zero]
theorem B0F {m:Nat} {l:List Int} (h:A6a l=true) (hl:∀ n∈l,0≤n∧n<m):l.length≤m:=B59 h hl
def A4N (x:E0) (s:H2):Bool:=!x.poll || !s.go.any (fun e=>false==e)
theorem B2j {F:Nat} {p:D4} {s:H2} (hF:100<F) (ho:A5Y p) (hs:CF p s) (x:E0):Z4 F (dsk p s) x=some (bif A4N x s then .ok (dsk p s)else .error 184):=by
 have:=ho.s8;have:=hs.lg
 rw[Z4,B1A (by show s.go.length<F∧s.go.length<_;omega),oS,Z0,Z0]
 unfold A4N
 cases x.poll
 ·rfl
 ·rw[if_pos rfl]
  show(bif !(s.go.any fun e=>false==e)then _ else _)=_
  cases s.go.any (fun e=>false==e)<;>rfl
def A1Y (x:E0) (s:H2) (others:List Int):Bool:=x.use_.all fun b=>decide (0<s.left.getD b.toNat 0)&&(s.on_.getD b.toNat false||others.any fun e=>decide (b=e))
theorem B1s {p:D4} {s:H2} {k:Nat} {x:E0} (hs:CF p s) (hx:B0B p k x) {j:Nat} (hj:j<x.use_.length):P3 (dsk p s).A7 x.use_[j]=some (s.left.getD x.use_[j].toNat 0)∧P3 (dsk p s).B0 x.use_[j]=some (s.on_.getD x.use_[j].toNat false):=by
 obtain⟨h1,h2⟩:=hx.us _ (List.getElem_mem hj)
 have k1:=hs.ll;have k2:=hs.lo
 have e:x.use_[j]=((x.use_[j].toNat:Nat):Int):=by omega
 constructor
 ·show P3 s.left x.use_[j]=_
  rw[e,H3 (by omega:x.use_[j].toNat<s.left.length),← e,J6 0 oM]
 ·show P3 s.on_ x.use_[j]=_
  rw[e,H3 (by omega:x.use_[j].toNat<s.on_.length),← e,J6 false oM]
theorem B5s {F:Nat} {p:D4} {s:H2} {k:Nat} {x:E0} (hF:100<F) (ho:A5Y p) (hs:CF p s) (hx:B0B p k x) {others:List Int} (hl:others.length<F∧others.length<9223372036854775808):X7 F (dsk p s) x others=some (bif A1Y x s others then .ok (dsk p s)else .error 185):=by
 have hu:=B0F hx.ua hx.us
 have hb:=ho.b6
 rw[X7]
 have:=A4H (g:=Q5 F (dsk p s) x others fun _=>some (.ok (dsk p s))) (f:=fun j=>decide (0<s.left.getD (x.use_.getD j 0).toNat 0)&&(s.on_.getD (x.use_.getD j 0).toNat false||others.any fun e=>decide (x.use_.getD j 0=e))) (len:=x.use_.length) (c:=some (.ok (dsk p s))) (fl:=some (.error 185)) (fun n j hj=>?_) (fun n=>by rw[Q5,if_neg oM]) F 0 oM oM
 ·refine this.trans ?_
  rw[Nat.sub_zero,A93 x.use_ 0 (fun b=>decide (0<s.left.getD b.toNat 0)&&(s.on_.getD b.toNat false||others.any fun e=>decide (b=e)))]
  show(bif A1Y x s others then _ else _)=_
  cases A1Y x s others<;>rfl
 ·obtain⟨h1,h2⟩:=B1s hs hx hj
  rw[Q5,if_pos oM,H3 hj,oS,h1,oS,h2,oS,A6T hl,oS,S0 oM,J6 0 hj]
  simp only[Z0,cT,cF,A4e,A0q]
  cases decide (0<s.left.getD x.use_[j].toNat 0)<;>cases s.on_.getD x.use_[j].toNat false<;>cases(others.any fun e=>decide (x.use_[j]=e))<;>rfl
theorem B4g {F:Nat} {p:D4} {s:H2} {k:Nat} {x:E0} (hF:100<F) (ho:A5Y p) (hs:CF p s) (hx:B0B p k x):Y6 F (dsk p s) x=some (bif A1Y x s []then .ok (dsk p s)else .error 185):=by
 have hu:=B0F hx.ua hx.us
 have hb:=ho.b6
 rw[Y6]
 have:=A4H (g:=P2 F (dsk p s) x fun _=>some (.ok (dsk p s))) (f:=fun j=>decide (0<s.left.getD (x.use_.getD j 0).toNat 0)&&(s.on_.getD (x.use_.getD j 0).toNat false||([]:List Int).any fun e=>decide (x.use_.getD j 0=e))) (len:=x.use_.length) (c:=some (.ok (dsk p s))) (fl:=some (.error 185)) (fun n j hj=>?_) (fun n=>by rw[P2,if_neg oM]) F 0 oM oM
 ·refine this.trans ?_
  rw[Nat.sub_zero,A93 x.use_ 0 (fun b=>decide (0<s.left.getD b.toNat 0)&&(s.on_.getD b.toNat false||([]:List Int).any fun e=>decide (b=e)))]
  show(bif A1Y x s []then _ else _)=_
  cases A1Y x s []<;>rfl
 ·obtain⟨h1,h2⟩:=B1s hs hx hj
  rw[P2,if_pos oM,H3 hj,oS,h1,oS,h2,oS,A6T (l:=[]) ⟨by simp;omega,by simp⟩,oS,S0 oM,J6 0 hj]
  simp only[Z0,cT,cF,A4e,A0q]
  cases decide (0<s.left.getD x.use_[j].toNat 0)<;>cases s.on_.getD x.use_[j].toNat false<;>rfl
def A6e (s:H2) (k:Nat):Bool:=decide (0≤s.ended.getD k 0)
def B2o (s:H2) (k:Nat):Bool:=decide (0≤s.begun.getD k 0) && !A6e s k
theorem B2C {F:Nat} {p:D4} {s:H2} (hs:CF p s) {k:Nat} (hk:k<p.steps.length):Y5 F (dsk p s) k=some (A6e s k):=by
 have:=hs.le
 rw[Y5,show P3 (dsk p s).A5 k=some (s.ended[k]'oM)from H3 (show k<s.ended.length by omega),oS,A6e,J6 0 oM]
theorem B9l {F:Nat} {p:D4} {s:H2} (hs:CF p s) {k:Nat} (hk:k<p.steps.length):A0R F (dsk p s) k=some (B2o s k):=by
 have:=hs.lb
 rw[A0R,show P3 (dsk p s).A1 k=some (s.begun[k]'oM)from H3 (show k<s.begun.length by omega),oS,B2C hs hk,oS,B2o,J6 0 oM]
 simp only[A4e]
 cases decide (0≤s.begun[k]'oM)<;>rfl
theorem B2K {F:Nat} {p:D4} {s:H2} (ho:A5Y p):U8 F (dsk p s)=some ((p.steps.length-1:Nat):Int):=by
 have:=ho.t1;have:=ho.t16
 rw[U8]
 show some (W ((p.steps.length:Int)-1))=_
 rw[B23 oM oM]
def onL (l:List Int) (v:Bool) (o:List Bool):List Bool:=l.foldl (fun o b=>o.set b.toNat v) o
theorem B5M (l:List Int) (v:Bool):∀ o:List Bool,(onL l v o).length=o.length:=by
 induction l with
 | nil=>intro o;rfl
 | cons x l ih=>intro o;show(onL l v (o.set x.toNat v)).length=_;rw[ih,List.length_set]
theorem B2c (l:List Int) (v:Bool) (o:List Bool):(List.range' 0 l.length).foldl (fun o j=>o.set (l.getD j 0).toNat v) o=onL l v o:=B3C l 0 (fun o b=>o.set b.toNat v) o
def B0G (p:D4) (s:H2) (i:Nat) (t:Int):Except Int H2 :=
 bif decide (s.begun.getD i 0<0)then
  bif (p.steps.getD i default).need.all (fun n=>A6e s n.toNat)then
   bif !s.held then
    bif A4N (p.steps.getD i default) s then
     bif A1Y (p.steps.getD i default) s (p.steps.getD i default).on_ then
      .ok {s with begun:=s.begun.set i t,on_:=onL (p.steps.getD i default).on_ true s.on_}
     else .error 185
    else .error 184
   else .error 183
  else .error 182
 else .error 181
theorem B9y {p:D4} {o:List Bool} (h:o.length=p.batteries.length) {b:Int} (hb:0≤b∧b<p.batteries.length):∃ e,P3 o b=some e:=by
 obtain⟨m,rfl⟩:∃ m:Nat,b=m:=⟨b.toNat,by omega⟩
 exact⟨_,H3 oM⟩
theorem B6n {F:Nat} {p:D4} {s:H2} (hF:100<F) (hf:CtF F p) (ho:A5Y p) (hs:CF p s) {i:Nat} (hi:i<p.steps.length) {e:C7} (he:e.what=i):A0X F (dsk p s) e=some (scD p (B0G p s i e.at_)):=by
 have hx:=ho.t i hi
 have hxF:=hf.st _ (List.getElem_mem hi)
 have k1:=hs.lb;have k2:=ho.t16;have k3:=ho.b6
 have hn:=B0F hx.na hx.nd
 have hon:=B0F hx.oa hx.on
 rw[J6 default hi]at hx hn hon
 rw[A0X,he,show P3 (dsk p s).F8 i=some p.steps[i]from H3 hi,oS,show P3 (dsk p s).A1 i=some (s.begun[i]'oM)from H3 (show i<s.begun.length by omega),oS,Z0]
 unfold B0G
 rw[J6 default hi,J6 0 (by omega:i<s.begun.length)]
 cases decide (s.begun[i]'oM<0)with
 | false=>rfl
 | true =>
  rw[cT,cT]
  have:=A4H (g:=T4 F (dsk p s) p.steps[i] fun _=>(P4 F (!(dsk p s).F9) 183).bind fun rv4=>exE rv4 (fun x4=>some (.error x4)) (fun v3=>(Z4 F (dsk p s) p.steps[i]).bind fun rv5=>exE rv5 (fun x5=>some (.error x5)) (fun v4=>(X7 F v4 p.steps[i] p.steps[i].on_).bind fun rv6=>exE rv6 (fun x6=>some (.error x6)) (fun v5=>(P3 v5.A1 i).bind fun e4=>(A5g v5.A1 i e.at_).bind fun q=>P8 F p.steps[i] (fun(t2:(List Bool)) (x7:Int)=>some (.ok {v5 with A1:=q,B0:=t2})) F v5.B0 0))))
   (f:=fun j=>A6e s (p.steps[i].need.getD j 0).toNat) (len:=p.steps[i].need.length) (fl:=some (.error 182)) (fun n j hj=>?_) (fun n=>by rw[T4,if_neg oM]) F 0 oM oM
  ·refine this.trans ?_
   rw[Nat.sub_zero,A93 p.steps[i].need 0 (fun n=>A6e s n.toNat)]
   cases p.steps[i].need.all (fun n=>A6e s n.toNat)with
   | false=>rfl
   | true =>
    rw[cT,cT,Z0]
    show(bif !s.held then _ else _)=_
    cases hh:!s.held with
    | false=>rfl
    | true =>
     rw[cT,cT,B2j hF ho hs,oS]
     cases A4N p.steps[i] s with
     | false=>rfl
     | true =>
      rw[cT,cT]
      show((X7 F (dsk p s) p.steps[i] p.steps[i].on_).bind _)=_
      rw[B5s hF ho hs hx oM,oS]
      cases A1Y p.steps[i] s p.steps[i].on_ with
      | false=>rfl
      | true =>
       rw[cT,cT]
       show((P3 s.begun i).bind _)=_
       rw[H3 (by omega:i<s.begun.length),oS]
       show P8 F p.steps[i] (fun t2 _=>some (.ok {dsk p s with A1:=s.begun.set i e.at_,B0:=t2})) F s.on_ 0=_
       refine(A5I (g:=P8 F p.steps[i] fun t2 _=>some (.ok {dsk p s with A1:=s.begun.set i e.at_,B0:=t2})) (f:=fun o j=>o.set (p.steps[i].on_.getD j 0).toNat true) (len:=p.steps[i].on_.length) (c:=fun t2=>some (.ok {dsk p s with A1:=s.begun.set i e.at_,B0:=t2})) (fun o _=>o.length=p.batteries.length) (fun o k _ h=>by rw[List.length_set];exact h) (fun n o k hk h=>?_) (fun n o h=>by rw[P8,if_neg oM]) F s.on_ 0 hs.lo oM oM).trans ?_
       ·obtain⟨q,hq⟩:=B9y h (hx.on _ (List.getElem_mem hk))
        rw[P8,if_pos oM,H3 hk,oS,hq,oS,J6 0 hk,S0 oM]
        rfl
       ·rw[Nat.sub_zero,B2c]
        rfl
  ·have hd:=hx.nd _ (List.getElem_mem hj)
   have e1:p.steps[i].need[j]=((p.steps[i].need[j].toNat:Nat):Int):=by omega
   rw[T4,if_pos oM,H3 hj,oS,J6 0 hj]
   rw[show Y5 F (dsk p s) p.steps[i].need[j]=some (A6e s p.steps[i].need[j].toNat) by rw[e1,B2C hs oM];rfl,oS,Z0,S0 oM]
theorem B9H {α β:Type} (a:α) (f:Int→β) (g:α→β):exE (.ok a) f g=g a:=rfl
def A8L (p:D4) (s:H2) (a:D2):Except Int H2:=bif decide ((DoP (A1w p) (B1c s) a).2=0)then .ok (B3q s (DoP (A1w p) (B1c s) a).1)else .error (DoP (A1w p) (B1c s) a).2
theorem B7l {F:Nat} {p:D4} {s:H2} (hf:CtF F p) (hs:StF F (B1c s)) (a:D2):A07 F (dsk p s) a=some (scD p (A8L p s a)):=by
 rw[A07,show A7D F _ _ a=some (DoP (A1w p) (B1c s) a)from B2e hf.pd hs,oS,Z0]
 unfold A8L
 cases decide ((DoP (A1w p) (B1c s) a).2=0)<;>rfl
def PdK (p:D4) (s:H2):Prop:=∀ F,A5x F (A1w p)→StF F (B1c s)
theorem B24 {p:D4} {s s':H2} {a:D2} (hs:PdK p s) (h:A8L p s a = .ok s'):PdK p s':=fun F hF=>by
 unfold A8L at h
 cases hd:decide ((DoP (A1w p) (B1c s) a).2=0)with
 | false=>rw[hd]at h;cases h
 | true =>
  rw[hd,cT]at h
  injection h with h
  subst h
  exact B81 hF (hs F hF)
def A8v (p:D4) (t:Int):List D2→H2→Except Int H2
 | [],s => .ok s
 | a::l,s=>match A8L p s {a with at_:=t}with
  | .ok s'=>A8v p t l s'
  | .error e => .error e
abbrev B7z (F:Nat) (e:C7) (x:E0) (K:F7→Option (Except Int F7)) (n:Nat) (d:F7) (k:Int):Option (Except Int F7):=A0k F e x (fun t2 t3 t4 t5 t6 t7 t8 t9 t10 t11 t12 t13 t14 t15 t16 t17 t18 t19 t20 t21 t22 t23 t24 t25 t26 t27 _=>K (F7.mk t2 t3 t4 t5 t6 t7 t8 t9 t10 t11 t12 t13 t14 t15 t16 t17 t18 t19 t20 t21 t22 t23 t24 t25 t26 t27)) n d.H0 d.G8 d.G2 d.H4 d.G3 d.G9 d.H5 d.H9 d.E7 d.F8 d.I9 d.D8 d.G0 d.H6 d.G5 d.F5 d.E8 d.E5 d.F3 d.F4 d.A1 d.A5 d.F9 d.B1 d.A7 d.B0 k
theorem B4P (F:Nat) (e:C7) (x:E0) (K:F7→Option (Except Int F7)) (n:Nat) (d:F7) (k:Int):B7z F e x K (n+1) d k=if k<(x.acts.length:Int)then((P3 x.acts k).bind fun e3=>(A07 F d {e3 with at_:=e.at_}).bind fun rv=>exE rv (fun w=>some (.error w)) fun v=>B7z F e x K n v (W (k+1)))else K d:=rfl
theorem B1L {F:Nat} {p:D4} (hf:CtF F p) {e:C7} {x:E0} (hx:x.acts.length≤8) {K:F7→Option (Except Int F7)}:∀ (n k:Nat) (s:H2),PdK p s→x.acts.length<n+k→k≤x.acts.length →
  B7z F e x K n (dsk p s) k=match A8v p e.at_ (x.acts.drop k) s with | .ok s'=>K (dsk p s') | .error w=>some (.error w)
 | 0,k,s,_,h,h2=>absurd h oM
 | n+1,k,s,hs,h,h2=>by
  rw[B4P]
  by_cases hk:k<x.acts.length
  ·rw[if_pos oM,H3 hk,oS,lD hk,S0 oM]
   change _=match (match A8L p s {x.acts[k]with at_:=e.at_}with | .ok s'=>A8v p e.at_ (x.acts.drop (k+1)) s' | .error e => .error e)with | .ok s'=>K (dsk p s') | .error w=>some (.error w)
   rw[B7l hf (hs F hf.pd),oS]
   cases ha:A8L p s {x.acts[k]with at_:=e.at_}with
   | error w=>rfl
   | ok s'=>exact B1L hf hx n (k+1) s' (B24 hs ha) oM oM
  ·rw[if_neg oM,lL oM]
   rfl
theorem A83 {p:D4} {t:Int}:∀ {l:List D2} {s s':H2},A8v p t l s = .ok s'→PdK p s→PdK p s'∧s'.now=s.now∧s'.begun=s.begun∧s'.ended=s.ended∧s'.held=s.held∧s'.go=s.go∧s'.left=s.left∧s'.on_=s.on_
 | [],s,s',h,hs=>by injection h with h;subst h;exact⟨hs,rfl,rfl,rfl,rfl,rfl,rfl,rfl⟩
 | a::l,s,s',h,hs=>by
  change (match A8L p s {a with at_:=t}with | .ok s'=>A8v p t l s' | .error e => .error e)=_ at h
  cases ha:A8L p s {a with at_:=t}with
  | error w=>rw[ha]at h;cases h
  | ok s2 =>
   rw[ha]at h
   obtain⟨h0,h1,h2,h3,h4,h5,h6,h7⟩:=A83 h (B24 hs ha)
   have hd:∃ d,s2=B3q s d:=by
    unfold A8L at ha
    cases hd:decide ((DoP (A1w p) (B1c s) {a with at_:=t}).2=0)with
    | false=>rw[hd]at ha;cases ha
    | true=>rw[hd,cT]at ha;injection ha with ha;exact⟨_,ha.symm⟩
   obtain⟨d,rfl⟩:=hd
   exact⟨h0,h1,h2,h3,h4,h5,h6,h7⟩
def B7v (p:D4) (s:H2) (i:Nat) (t:Int):Except Int H2 :=
 bif B2o s i then
  bif !N9 (t-s.begun.getD i 0) (p.steps.getD i default).least (p.steps.getD i default).most then
   bif A4N (p.steps.getD i default) s then
    bif A1Y (p.steps.getD i default) s []then
     bif decide (i<p.steps.length-1) || !N9 t p.Q8 p.O8 then
      match A8v p t (p.steps.getD i default).acts s with
      | .ok s' => .ok {s' with ended:=s'.ended.set i t,on_:=onL (p.steps.getD i default).off false s'.on_}
      | .error e => .error e
     else .error 187
    else .error 185
   else .error 184
  else .error 186
 else .error 181
theorem B6y {F:Nat} {p:D4} {s:H2} (hF:100<F) (hf:CtF F p) (ho:A5Y p) (hs:CF p s) {i:Nat} (hi:i<p.steps.length) {e:C7} (he:e.what=i) :
 A0j F e p.steps[i] (dsk p s)=some (scD p (match A8v p e.at_ p.steps[i].acts s with | .ok s' => .ok {s' with ended:=s'.ended.set i e.at_,on_:=onL p.steps[i].off false s'.on_} | .error e => .error e)):=by
 have hx:=ho.t i hi
 have k3:=ho.b6
 have hoff:=B0F hx.fa hx.off
 rw[J6 default hi]at hx hoff
 rw[A0j,he]
 refine(B1L hf hx.a (K:=fun d=>(P3 d.A5 i).bind fun e4=>(A5g d.A5 i e.at_).bind fun t28=>R6 F p.steps[i] (fun t29 _=>some (.ok {d with A5:=t28,B0:=t29})) F d.B0 0) F 0 s hs.pd (by have:=hx.a;omega) oM).trans ?_
 rw[List.drop_zero]
 cases ha:A8v p e.at_ p.steps[i].acts s with
 | error w=>rfl
 | ok s' =>
  obtain⟨h0,h1,h2,h3,h4,h5,h6,h7⟩:=A83 ha hs.pd
  have le:s'.ended.length=p.steps.length:=by rw[h3];exact hs.le
  have lo:s'.on_.length=p.batteries.length:=by rw[h7];exact hs.lo
  show(P3 s'.ended i).bind _=_
  rw[H3 (by omega:i<s'.ended.length),oS]
  show R6 F p.steps[i] (fun t29 _=>some (.ok {dsk p s' with A5:=s'.ended.set i e.at_,B0:=t29})) F s'.on_ 0=_
  refine(A5I (g:=R6 F p.steps[i] fun t29 _=>some (.ok {dsk p s' with A5:=s'.ended.set i e.at_,B0:=t29})) (f:=fun o j=>o.set (p.steps[i].off.getD j 0).toNat false) (len:=p.steps[i].off.length) (c:=fun t29=>some (.ok {dsk p s' with A5:=s'.ended.set i e.at_,B0:=t29})) (fun o _=>o.length=p.batteries.length) (fun o k _ h=>by rw[List.length_set];exact h) (fun n o k hk h=>?_) (fun n o h=>by rw[R6,if_neg oM]) F s'.on_ 0 lo oM oM).trans ?_
  ·obtain⟨q,hq⟩:=B9y h (hx.off _ (List.getElem_mem hk))
   rw[R6,if_pos oM,H3 hk,oS,hq,oS,J6 0 hk,S0 oM]
   rfl
  ·rw[Nat.sub_zero,B2c]
   rfl
theorem B8B {F:Nat} {p:D4} {s:H2} (hF:100<F) (hf:CtF F p) (ho:A5Y p) (hs:CF p s) {i:Nat} (hi:i<p.steps.length) {e:C7} (he:e.what=i) (ht:e.at_=s.now):A1O F (dsk p s) e=some (scD p (B7v p s i e.at_)):=by
 have hx:=ho.t i hi
 have k1:=hs.lb;have k2:=ho.t16
 have kb:=hs.b i hi
 have kn:=hs.now
 have tl:=B6y hF hf ho hs hi he
 rw[J6 default hi]at hx
 rw[A1O,he,show P3 (dsk p s).F8 i=some p.steps[i]from H3 hi,oS,B9l hs hi,oS,Z0]
 unfold B7v
 rw[J6 default hi]
 rw[J6 0 (by omega:i<s.begun.length)]at kb ⊢
 cases B2o s i with
 | false=>rfl
 | true =>
  rw[cT,cT,show P3 (dsk p s).A1 i=some (s.begun[i]'oM)from H3 (show i<s.begun.length by omega),oS,X2,oS,Z0,A8K oM oM]
  cases !N9 (e.at_-s.begun[i]'oM) p.steps[i].least p.steps[i].most with
  | false=>rfl
  | true =>
   rw[cT,cT,B2j hF ho hs,oS]
   cases A4N p.steps[i] s with
   | false=>rfl
   | true =>
    rw[cT,cT]
    show(Y6 F (dsk p s) p.steps[i]).bind _=_
    rw[B4g hF ho hs hx,oS]
    cases A1Y p.steps[i] s []with
    | false=>rfl
    | true =>
     rw[cT,cT]
     rw[B9H,B2K ho,oS,Z0,X2,oS,Z0,tl]
     by_cases hl:i<p.steps.length-1
     ·rw[if_pos oM,dT hl];rfl
     ·rw[if_neg oM,dF hl,Bool.false_or]
      show(bif !N9 e.at_ p.Q8 p.O8 then _ else _)=_
      cases !N9 e.at_ p.Q8 p.O8<;>rfl
def B5G (s:H2) (k:Int):Except Int H2:=bif s.held != decide (k=3)then .ok {s with held:=decide (k=3)}else .error 181
theorem B3I {F:Nat} {p:D4} {s:H2} (e:C7):A08 F (dsk p s) e=some (scD p (B5G s e.kind)):=by
 rw[A08,Z0]
 unfold B5G
 show(bif s.held != decide (e.kind=3)then _ else _)=_
 cases s.held != decide (e.kind=3)<;>rfl
def B9m (s:H2) (k:Int) (i:Nat):Except Int H2:=bif s.go.getD i false != decide (k=5)then .ok {s with held:=s.held || !decide (k=5),go:=s.go.set i (decide (k=5))}else .error 181
theorem B5X {F:Nat} {p:D4} {s:H2} (hs:CF p s) {i:Nat} (hi:i<p.stations.length) {e:C7} (he:e.what=i):A0K F (dsk p s) e=some (scD p (B9m s e.kind i)):=by
 have k1:=hs.lg
 rw[A0K,he,show P3 (dsk p s).B1 i=some (s.go[i]'oM)from H3 (show i<s.go.length by omega),oS,Z0]
 unfold B9m
 rw[J6 false (by omega:i<s.go.length)]
 cases s.go[i]'oM != decide (e.kind=5)with
 | false=>rfl
 | true =>
  rw[cT,cT]
  unfold A5g
  rw[oS]
  show(if s.held=true then some (Except.ok {dsk p s with F9:=true,B1:=s.go.set i (decide (e.kind=5))})else some (Except.ok {dsk p s with F9:=!decide (e.kind=5),B1:=s.go.set i (decide (e.kind=5))}))=some (Except.ok {dsk p s with F9:=s.held || !decide (e.kind=5),B1:=s.go.set i (decide (e.kind=5))})
  cases s.held<;>rfl
def A6r (p:D4) (l:List Int) (from_:Nat):List Int:=B14 p.steps.length fun k=>if from_≤k then -1 else l.getD k 0
def B9i (p:D4) (s:H2) (i:Nat):Except Int H2 :=
 bif decide (0≤s.begun.getD (p.points.getD i 0).toNat 0)then
  bif !s.J3.any (fun e=>decide ((1:Int)=e))then
   .ok {s with begun:=A6r p s.begun (p.points.getD i 0).toNat,ended:=A6r p s.ended (p.points.getD i 0).toNat,held:=true,go:=List.replicate s.go.length false,on_:=List.replicate s.on_.length false}
  else .error 188
 else .error 181
theorem B4o {F:Nat} {p:D4} {s:H2} (hF:100<F) (hf:CtF F p) (ho:A5Y p) (hs:CF p s) {i:Nat} (hi:i<p.points.length) {e:C7} (he:e.what=i):A05 F (dsk p s) e=some (scD p (B9i p s i)):=by
 have k1:=hs.lb;have k2:=hs.le;have k16:=ho.t16
 have hp:=ho.pt i hi
 have hq:=(hs.pd F hf.pd).q
 rw[J6 0 hi]at hp
 obtain⟨m,hm⟩:∃ m:Nat,p.points[i]=m:=⟨p.points[i].toNat,by omega⟩
 have hm':m<p.steps.length:=by omega
 rw[A05,he,show P3 (dsk p s).I9 i=some p.points[i]from H3 hi,oS,hm,show P3 (dsk p s).A1 m=some (s.begun[m]'oM)from H3 (show m<s.begun.length by omega),oS,Z0]
 unfold B9i
 rw[J6 0 hi,hm,show(m:Int).toNat=m by omega,J6 0 (by omega:m<s.begun.length)]
 cases decide (0≤s.begun[m]'oM)with
 | false=>rfl
 | true =>
  rw[cT,cT,A6T (l:=s.J3) (by have:s.J3.length<F∧s.J3.length≤17592186044416:=hq;omega),oS,Z0]
  cases !s.J3.any (fun e=>decide ((1:Int)=e))with
  | false=>rfl
  | true =>
   rw[cT,cT]
   have key:∀ (n k:Nat) (a b:List Int),m≤k→a.length=p.steps.length→b.length=p.steps.length→(∀ j,a.getD j 0=if m≤j∧j<k then -1 else s.begun.getD j 0)→(∀ j,b.getD j 0=if m≤j∧j<k then -1 else s.ended.getD j 0)→p.steps.length<n+k→k≤p.steps.length →
    U1 F (dsk p s) (fun t2 t3 _=>(B6t (dsk p s).B1 false).bind fun q=>(B6t (dsk p s).B0 false).bind fun q2=>some (.ok {dsk p s with A1:=t2,A5:=t3,F9:=true,B1:=q,B0:=q2})) n a b k
     = some (.ok (dsk p {s with begun:=A6r p s.begun m,ended:=A6r p s.ended m,held:=true,go:=List.replicate s.go.length false,on_:=List.replicate s.on_.length false})):=fun n=>by
    induction n with
    | zero=>intro k a b _ _ _ _ _ h;omega
    | succ n ih =>
     intro k a b hmk ha hb h1 h2 h h'
     rw[U1,show U8 F {dsk p s with A1:=a,A5:=b}=some ((p.steps.length-1:Nat):Int)from B2K (s:={s with begun:=a,ended:=b}) ho,oS]
     by_cases hk:k<p.steps.length
     ·rw[if_pos oM,H3 (by omega:k<a.length),oS,H3 (by omega:k<b.length),S0 oM]
      unfold A5g
      rw[oS,oS,oS,show(k:Int).toNat=k by omega]
      refine ih (k+1) _ _ oM (by rw[List.length_set];exact ha) (by rw[List.length_set];exact hb) (fun j=>?_) (fun j=>?_) oM oM
      ·rw[sG oM,h1 j]
       by_cases e1:j=k
       ·rw[if_pos e1]
        by_cases e2:m≤j
        ·rw[if_pos oM]
        ·omega
       ·rw[if_neg e1]
        by_cases e2:m≤j∧j<k
        ·rw[if_pos e2,if_pos oM]
        ·rw[if_neg e2,if_neg oM]
      ·rw[sG oM,h2 j]
       by_cases e1:j=k
       ·rw[if_pos e1]
        by_cases e2:m≤j
        ·rw[if_pos oM]
        ·omega
       ·rw[if_neg e1]
        by_cases e2:m≤j∧j<k
        ·rw[if_pos e2,if_pos oM]
        ·rw[if_neg e2,if_neg oM]
     ·rw[if_neg oM]
      have ea:a=A6r p s.begun m:=B2D 0 ha fun j hj=>by
       rw[h1 j]
       by_cases e2:m≤j
       ·rw[if_pos oM,if_pos e2]
       ·rw[if_neg oM,if_neg e2]
      have eb:b=A6r p s.ended m:=B2D 0 hb fun j hj=>by
       rw[h2 j]
       by_cases e2:m≤j
       ·rw[if_pos oM,if_pos e2]
       ·rw[if_neg oM,if_neg e2]
      rw[ea,eb]
      rfl
   exact key F m s.begun s.ended (Nat.le_refl _) k1 k2 (fun j=>by rw[if_neg oM]) (fun j=>by rw[if_neg oM]) oM oM
def B0v (p:D4) (s:H2) (i:Nat):Except Int H2:=bif !s.on_.getD i false then .ok {s with left:=s.left.set i (p.batteries.getD i default).charge}else .error 181
theorem B4O {F:Nat} {p:D4} {s:H2} (hs:CF p s) {i:Nat} (hi:i<p.batteries.length) {e:C7} (he:e.what=i):A0G F (dsk p s) e=some (scD p (B0v p s i)):=by
 have k1:=hs.lo;have k2:=hs.ll
 rw[A0G,he,show P3 (dsk p s).B0 i=some (s.on_[i]'oM)from H3 (show i<s.on_.length by omega),oS,Z0]
 unfold B0v
 rw[J6 false (by omega:i<s.on_.length)]
 cases !s.on_[i]'oM with
 | false=>rfl
 | true =>
  rw[cT,cT,show P3 (dsk p s).E7 i=some p.batteries[i]from H3 hi,oS,show P3 (dsk p s).A7 i=some (s.left[i]'oM)from H3 (show i<s.left.length by omega),oS,J6 default hi]
  rfl
theorem B85 {F:Nat} {p:D4} {s:H2} (hf:CtF F p) (hs:CF p s) (e:C7):A1N F (dsk p s) e=some (scD p (A8L p s (A8M e))):=by
 rw[A1N,B7l hf (hs.pd F hf.pd),oS]
 cases A8L p s (A8M e)<;>rfl
def B3L (p:D4) (s:H2) (e:C7):Except Int H2 :=
 if e.kind=1 then B0G p s e.what.toNat e.at_ else if e.kind=2 then B7v p s e.what.toNat e.at_ else if e.kind=3∨e.kind=4 then B5G s e.kind else
 if e.kind=5∨e.kind=6 then B9m s e.kind e.what.toNat else if e.kind=7 then B9i p s e.what.toNat else if e.kind=8 then A8L p s (A8M e)else B0v p s e.what.toNat
def doC (p:D4) (s:H2) (e:C7):Except Int H2 :=
 bif decide (s.now≤e.at_)then(bif !A6e s (p.steps.length-1)then B3L p (B4e p s e.at_) e else .error 181)else .error 180
theorem A6Y {F:Nat} {p:D4} (o:Except Int H2):(exE (scD p o) (fun x=>some (.error x)) (fun v=>Q9 F v.H0 v.G8 v.G2 v.H4 v.G3 v.G9 v.H5 v.H9 v.E7 v.F8 v.I9 v.D8 v.G0 v.H6 v.G5 v.F5 v.E8 v.E5 v.F3 v.F4 v.A1 v.A5 v.F9 v.B1 v.A7 v.B0):Option (Except Int F7))=some (scD p o):=by cases o<;>rfl
theorem C0v {F:Nat} {p:D4} {s:H2} (hf:CtF F p) (ho:A5Y p) (hs:CF p s) {e:C7} (he:B18 p e):A1F F (dsk p s) e=some (scD p (doC p s e)):=by
 have hF:=hf.pd.f
 have t1:=ho.t1
 rw[A1F,Z0]
 unfold doC
 show(bif decide (s.now≤e.at_)then _ else _)=_
 by_cases ht:s.now≤e.at_
 ·rw[dT ht,cT,cT,B2K ho,oS,B2C hs oM,oS,Z0]
  cases !A6e s (p.steps.length-1)with
  | false=>rfl
  | true =>
   have hs2:=B5P ho hs ⟨ht,he.t.2⟩
   rw[cT,cT,B6u ho hs,oS,B8Z hF ho hs ⟨ht,he.t.2⟩,oS,if_neg (by have:=he.k;omega)]
   unfold B3L
   have wn:A3r e.kind=false→e.what=(e.what.toNat:Int):=fun h=>by have:=he.w h;omega
   by_cases h1:e.kind=1
   ·have hn:A3r e.kind=false:=by rw[h1];rfl
    have hw:=he.w hn
    have hm:A20 p e.kind=p.steps.length:=by rw[h1];rfl
    rw[if_pos h1,if_pos h1,B6n hF hf ho hs2 oM (wn hn),oS,A6Y]
   rw[if_neg h1,if_neg h1]
   by_cases h2:e.kind=2
   ·have hn:A3r e.kind=false:=by rw[h2];rfl
    have hw:=he.w hn
    have hm:A20 p e.kind=p.steps.length:=by rw[h2];rfl
    rw[if_pos h2,if_pos h2,B8B hF hf ho hs2 oM (wn hn) rfl,oS,A6Y]
   rw[if_neg h2,if_neg h2]
   by_cases h3:e.kind=3
   ·rw[if_pos h3,if_pos (.inl h3),B3I,oS,A6Y]
   rw[if_neg h3]
   by_cases h4:e.kind=4
   ·rw[if_pos h4,if_pos (.inr h4),B3I,oS,A6Y]
   rw[if_neg h4,if_neg (show ¬ (e.kind=3∨e.kind=4) by omega)]
   by_cases h5:e.kind=5
   ·have hn:A3r e.kind=false:=by rw[h5];rfl
    have hw:=he.w hn
    have hm:A20 p e.kind=p.stations.length:=by rw[h5];rfl
    rw[if_pos h5,if_pos (.inl h5),B5X hs2 oM (wn hn),oS,A6Y]
   rw[if_neg h5]
   by_cases h6:e.kind=6
   ·have hn:A3r e.kind=false:=by rw[h6];rfl
    have hw:=he.w hn
    have hm:A20 p e.kind=p.stations.length:=by rw[h6];rfl
    rw[if_pos h6,if_pos (.inr h6),B5X hs2 oM (wn hn),oS,A6Y]
   rw[if_neg h6,if_neg (show ¬ (e.kind=5∨e.kind=6) by omega)]
   by_cases h7:e.kind=7
   ·have hn:A3r e.kind=false:=by rw[h7];rfl
    have hw:=he.w hn
    have hm:A20 p e.kind=p.points.length:=by rw[h7];rfl
    rw[if_pos h7,if_pos h7,B4o hF hf ho hs2 oM (wn hn),oS,A6Y]
   rw[if_neg h7,if_neg h7]
   by_cases h8:e.kind=8
   ·rw[if_pos h8,if_pos h8,B85 hf hs2,oS,A6Y]
   have h9:e.kind=9:=by have:=he.k;omega
   have hn:A3r e.kind=false:=by rw[h9];rfl
   have hw:=he.w hn
   have hm:A20 p e.kind=p.batteries.length:=by rw[h9];rfl
   rw[if_neg h8,if_neg h8,if_pos h9,B4O hs2 oM (wn hn),oS,A6Y]
 ·rw[dF ht];rfl
theorem CF.keep {p:D4} {s s':H2} (h:CF p s) (hp:PdK p s') (h1:s'.now=s.now) (h2:s'.begun=s.begun) (h3:s'.ended=s.ended) (h5:s'.go.length=s.go.length) (h6:s'.left=s.left) (h7:s'.on_.length=s.on_.length):CF p s' where
 lb:=by rw[h2];exact h.lb
 le:=by rw[h3];exact h.le
 lg:=by rw[h5];exact h.lg
 ll:=by rw[h6];exact h.ll
 lo:=by rw[h7];exact h.lo
 now:=by rw[h1];exact h.now
 b:=by rw[h2,h1];exact h.b
 e:=by rw[h3,h1];exact h.e
 l:=by rw[h6];exact h.l
 pd:=hp
theorem B7p {p:D4} {s s':H2} {i:Nat} {t:Int} (h:B0G p s i t = .ok s'):s.begun.getD i 0<0∧(∀ n∈(p.steps.getD i default).need,A6e s n.toNat=true)∧s.held=false∧A4N (p.steps.getD i default) s=true∧A1Y (p.steps.getD i default) s (p.steps.getD i default).on_=true∧s'={s with begun:=s.begun.set i t,on_:=onL (p.steps.getD i default).on_ true s.on_}:=by
 unfold B0G at h
 by_cases h1:s.begun.getD i 0<0
 ·rw[dT h1,cT]at h
  cases h2:(p.steps.getD i default).need.all (fun n=>A6e s n.toNat)with
  | false=>rw[h2]at h;cases h
  | true =>
   rw[h2,cT]at h
   cases h3:!s.held with
   | false=>rw[h3]at h;cases h
   | true =>
    cases h4:A4N (p.steps.getD i default) s with
    | false=>rw[h3,h4]at h;cases h
    | true =>
     cases h5:A1Y (p.steps.getD i default) s (p.steps.getD i default).on_ with
     | false=>rw[h3,h4,h5]at h;cases h
     | true =>
      rw[h3,h4,h5]at h
      injection h with h
      exact⟨h1,List.all_eq_true.1 h2,by simpa using h3,rfl,rfl,h.symm⟩
 ·rw[dF h1]at h;cases h
theorem B9G {p:D4} {s s':H2} {i:Nat} {t:Int} (h:B7v p s i t = .ok s'):B2o s i=true∧((p.steps.getD i default).least≤t-s.begun.getD i 0∧t-s.begun.getD i 0≤(p.steps.getD i default).most)∧A4N (p.steps.getD i default) s=true∧A1Y (p.steps.getD i default) s []=true∧(i<p.steps.length-1∨(p.Q8≤t∧t≤p.O8)) ∧
  ∃ s2,A8v p t (p.steps.getD i default).acts s = .ok s2∧s'={s2 with ended:=s2.ended.set i t,on_:=onL (p.steps.getD i default).off false s2.on_}:=by
 unfold B7v at h
 cases h1:B2o s i with
 | false=>rw[h1]at h;cases h
 | true =>
  cases h2:N9 (t-s.begun.getD i 0) (p.steps.getD i default).least (p.steps.getD i default).most with
  | true=>rw[h1,h2]at h;cases h
  | false =>
   cases h3:A4N (p.steps.getD i default) s with
   | false=>rw[h1,h2,h3]at h;cases h
   | true =>
    cases h4:A1Y (p.steps.getD i default) s []with
    | false=>rw[h1,h2,h3,h4]at h;cases h
    | true =>
     cases h5:decide (i<p.steps.length-1) || !N9 t p.Q8 p.O8 with
     | false=>rw[h1,h2,h3,h4,h5]at h;cases h
     | true =>
      rw[h1,h2,h3,h4,h5]at h
      simp only[cT,Bool.not_false]at h
      cases h6:A8v p t (p.steps.getD i default).acts s with
      | error w=>rw[h6]at h;cases h
      | ok s2 =>
       rw[h6]at h
       injection h with h
       refine⟨rfl,O6.1 h2,rfl,rfl,?_,s2,rfl,h.symm⟩
       rw[Bool.or_eq_true,decide_eq_true_eq,Bool.not_eq_true']at h5
       rcases h5 with h5 | h5
       ·exact .inl h5
       ·exact .inr (O6.1 h5)
theorem CF.set {p:D4} {s s':H2} (h:CF p s) (hp:PdK p s') (h1:s'.now=s.now) {b e:List Int} (h2:s'.begun=b) (h3:s'.ended=e) (hb:b.length=p.steps.length∧∀ k,k<p.steps.length → -1≤b.getD k 0∧b.getD k 0≤s.now) (he:e.length=p.steps.length∧∀ k,k<p.steps.length → -1≤e.getD k 0∧e.getD k 0≤s.now) (h5:s'.go.length=s.go.length) (h6:s'.left=s.left) (h7:s'.on_.length=s.on_.length):CF p s' where
 lb:=by rw[h2];exact hb.1
 le:=by rw[h3];exact he.1
 lg:=by rw[h5];exact h.lg
 ll:=by rw[h6];exact h.ll
 lo:=by rw[h7];exact h.lo
 now:=by rw[h1];exact h.now
 b:=by rw[h2,h1];exact hb.2
 e:=by rw[h3,h1];exact he.2
 l:=by rw[h6];exact h.l
 pd:=hp
theorem B6b {l:List Int} {n i:Nat} {t m:Int} (hl:l.length=n) (h:∀ k,k<n → -1≤l.getD k 0∧l.getD k 0≤m) (hi:i<n) (ht:0≤t∧t≤m):(l.set i t).length=n∧∀ k,k<n → -1≤(l.set i t).getD k 0∧(l.set i t).getD k 0≤m:=by
 refine⟨by rw[List.length_set];exact hl,fun k hk=>?_⟩
 rw[sG oM]
 split
 ·omega
 ·exact h k hk
theorem B2m {p:D4} {l:List Int} {m:Int} {f:Nat} (h:∀ k,k<p.steps.length → -1≤l.getD k 0∧l.getD k 0≤m) (hm:0≤m):(A6r p l f).length=p.steps.length∧∀ k,k<p.steps.length → -1≤(A6r p l f).getD k 0∧(A6r p l f).getD k 0≤m:=by
 unfold A6r
 refine⟨B15 _ _,fun k hk=>?_⟩
 rw[B48 hk]
 split
 ·omega
 ·exact h k hk
theorem B2E {p:D4} {e:C7} (he:B18 p e) (hk:A3r e.kind=false):e.what.toNat<A20 p e.kind∧0≤e.what:=by
 have:=he.w hk
 omega
theorem B8H {p:D4} {s s':H2} {e:C7} (ho:A5Y p) (hs:CF p s) (he:B18 p e) (ht:s.now=e.at_) (h:B3L p s e = .ok s'):CF p s'∧s'.now=s.now:=by
 have hn:=hs.now
 unfold B3L at h
 by_cases h1:e.kind=1
 ·rw[if_pos h1]at h
  obtain⟨_,_,_,_,_,rfl⟩:=B7p h
  have hw:=B2E he (by rw[h1];rfl)
  have hm:A20 p e.kind=p.steps.length:=by rw[h1];rfl
  exact⟨hs.set hs.pd rfl rfl rfl (B6b hs.lb hs.b oM oM) ⟨hs.le,hs.e⟩ rfl rfl (B5M _ _ _),rfl⟩
 rw[if_neg h1]at h
 by_cases h2:e.kind=2
 ·rw[if_pos h2]at h
  obtain⟨_,_,_,_,_,s2,h6,rfl⟩:=B9G h
  obtain⟨k0,k1,k2,k3,k4,k5,k6,k7⟩:=A83 h6 hs.pd
  have hw:=B2E he (by rw[h2];rfl)
  have hm:A20 p e.kind=p.steps.length:=by rw[h2];rfl
  refine⟨hs.set k0 k1 rfl rfl ⟨by rw[k2];exact hs.lb,by rw[k2];exact hs.b⟩ ?_ (by rw[← k5]) (by rw[← k6]) (by rw[← k7];exact B5M _ _ _),k1⟩
  rw[k3]
  exact B6b hs.le hs.e oM oM
 rw[if_neg h2]at h
 by_cases h3:e.kind=3∨e.kind=4
 ·rw[if_pos h3]at h
  unfold B5G at h
  cases hh:s.held != decide (e.kind=3)with
  | false=>rw[hh]at h;cases h
  | true =>
   rw[hh,cT]at h
   injection h with h
   subst h
   exact⟨hs.keep hs.pd rfl rfl rfl rfl rfl rfl,rfl⟩
 rw[if_neg h3]at h
 by_cases h5:e.kind=5∨e.kind=6
 ·rw[if_pos h5]at h
  unfold B9m at h
  cases hh:s.go.getD e.what.toNat false != decide (e.kind=5)with
  | false=>rw[hh]at h;cases h
  | true =>
   rw[hh,cT]at h
   injection h with h
   subst h
   exact⟨hs.keep hs.pd rfl rfl rfl (List.length_set ..) rfl rfl,rfl⟩
 rw[if_neg h5]at h
 by_cases h7:e.kind=7
 ·rw[if_pos h7]at h
  unfold B9i at h
  cases hh:decide (0≤s.begun.getD (p.points.getD e.what.toNat 0).toNat 0)with
  | false=>rw[hh]at h;cases h
  | true =>
   cases h8:!s.J3.any (fun e=>decide ((1:Int)=e))with
   | false=>rw[hh,h8]at h;cases h
   | true =>
    rw[hh,h8,cT,cT]at h
    injection h with h
    subst h
    exact⟨hs.set hs.pd rfl rfl rfl (B2m hs.b hn.1) (B2m hs.e hn.1) (List.length_replicate ..) rfl (List.length_replicate ..),rfl⟩
 rw[if_neg h7]at h
 by_cases h8:e.kind=8
 ·rw[if_pos h8]at h
  have hp:=B24 hs.pd h
  unfold A8L at h
  cases hd:decide ((DoP (A1w p) (B1c s) (A8M e)).2=0)with
  | false=>rw[hd]at h;cases h
  | true =>
   rw[hd,cT]at h
   injection h with h
   subst h
   exact⟨hs.keep hp rfl rfl rfl rfl rfl rfl,rfl⟩
 rw[if_neg h8]at h
 have h9:e.kind=9:=by have:=he.k;omega
 have hw:=B2E he (by rw[h9];rfl)
 have hm:A20 p e.kind=p.batteries.length:=by rw[h9];rfl
 unfold B0v at h
 cases hh:!s.on_.getD e.what.toNat false with
 | false=>rw[hh]at h;cases h
 | true =>
  rw[hh,cT]at h
  injection h with h
  subst h
  refine⟨⟨hs.lb,hs.le,hs.lg,by show(s.left.set _ _).length=_;rw[List.length_set];exact hs.ll,hs.lo,hs.now,hs.b,hs.e,fun k hk=>?_,hs.pd⟩,rfl⟩
  show 0≤(s.left.set _ _).getD k 0∧(s.left.set _ _).getD k 0≤_
  rw[sG (by have:=hs.ll;omega)]
  split
  ·next e1 =>
   have:=(ho.b k hk).1
   rw[e1]at this
   rw[e1]
   omega
  ·exact hs.l k hk
theorem C0w {p:D4} {s s':H2} {e:C7} (h:doC p s e = .ok s'):s.now≤e.at_∧A6e s (p.steps.length-1)=false∧B3L p (B4e p s e.at_) e = .ok s':=by
 unfold doC at h
 by_cases h1:s.now≤e.at_
 ·rw[dT h1,cT]at h
  cases h2:A6e s (p.steps.length-1)with
  | true=>rw[h2]at h;cases h
  | false=>rw[h2]at h;exact⟨h1,rfl,h⟩
 ·rw[dF h1]at h;cases h
theorem C0u {p:D4} {s s':H2} {e:C7} (ho:A5Y p) (hs:CF p s) (he:B18 p e) (h:doC p s e = .ok s'):CF p s'∧s'.now=e.at_:=by
 obtain⟨h1,h2,h3⟩:=C0w h
 exact B8H ho (B5P ho hs ⟨h1,he.t.2⟩) he rfl h3
def A8k (p:D4):List C7→Int
 | []=>0
 | x::l=>bif decide (A5H p x=0)then A8k p l else A5H p x
theorem B2F {p:D4}:∀ {l:List C7},A8k p l=0→∀ x∈l,B18 p x
 | [],_=>fun x hx=>by simp at hx
 | y::l,h=>fun x hx=>by
  rw[A8k]at h
  by_cases h0:A5H p y=0
  ·rw[dT h0,cT]at h
   rcases List.mem_cons.1 hx with rfl | hx
   ·exact B60 h0
   ·exact B2F h x hx
  ·rw[dF h0,cF]at h;exact absurd h h0
def A7y (p:D4) (x:H2 × List Int) (e:C7):H2 × List Int:=match doC p x.1 e with
 | .ok s=>(s,x.2++[0])
 | .error w=>(x.1,x.2++[w])
def A3F (p:D4) (x:H2 × List Int) (l:List C7):H2 × List Int:=l.foldl (A7y p) x
theorem B43 {p:D4} {x:H2 × List Int} {e:C7} (ho:A5Y p) (hs:CF p x.1) (he:B18 p e):CF p (A7y p x e).1∧(A7y p x e).2.length=x.2.length+1:=by
 unfold A7y
 cases h:doC p x.1 e with
 | ok s=>exact⟨(C0u ho hs he h).1,by simp⟩
 | error w=>exact⟨hs,by simp⟩
theorem B3i {p:D4} (ho:A5Y p):∀ {l:List C7} {x:H2 × List Int},CF p x.1→(∀ e∈l,B18 p e)→CF p (A3F p x l).1∧(A3F p x l).2.length=x.2.length+l.length
 | [],x,hs,he=>⟨hs,rfl⟩
 | e::l,x,hs,he=>by
  obtain⟨h1,h2⟩:=B43 ho hs (he e sM)
  obtain⟨h3,h4⟩:=B3i ho (l:=l) h1 (fun y hy=>he y (by simp[hy]))
  exact⟨h3,by rw[show(A3F p x (e::l))=A3F p (A7y p x e) l from rfl,h4,h2,List.length_cons];omega⟩
def A0O (p:D4) (l:List C7):Option H2 × List Int × Int :=
 if(A35 p).2.2=0 then(if 100<(l.length:Int)then(none,[],3)else if A8k p l=0 then(some (A3F p (A0U p,[]) l).1,(A3F p (A0U p,[]) l).2,0)else(none,[],A8k p l))else(none,[],(A35 p).2.2)
abbrev B5Q (F:Nat) (log:List C7) (K:F7→List Int→Option ((Option F7) × (List Int) × Int)) (n:Nat) (d:F7) (why:List Int) (k:Int):Option ((Option F7) × (List Int) × Int):=A2c F log (fun d1 d2 d3 d4 d5 d6 d7 d8 d9 d10 d11 d12 d13 d14 d15 d16 d17 d18 d19 d20 d21 d22 d23 d24 d25 d26 why2 _=>K (F7.mk d1 d2 d3 d4 d5 d6 d7 d8 d9 d10 d11 d12 d13 d14 d15 d16 d17 d18 d19 d20 d21 d22 d23 d24 d25 d26) why2) n d.H0 d.G8 d.G2 d.H4 d.G3 d.G9 d.H5 d.H9 d.E7 d.F8 d.I9 d.D8 d.G0 d.H6 d.G5 d.F5 d.E8 d.E5 d.F3 d.F4 d.A1 d.A5 d.F9 d.B1 d.A7 d.B0 why k
theorem B5r (F:Nat) (log:List C7) (K:F7→List Int→Option ((Option F7) × (List Int) × Int)) (n:Nat) (d:F7) (why:List Int) (k:Int):B5Q F log K (n+1) d why k=if k<(log.length:Int)then((P3 log k).bind fun e6=>(A1F F d e6).bind fun rv4=>exE rv4 (fun x5=>(A8i why [x5]).bind fun q=>B5Q F log K n d q (W (k+1))) (fun v=>(A8i why [0]).bind fun q2=>B5Q F log K n v q2 (W (k+1))))else K d why:=rfl
theorem B2i {F:Nat} {p:D4} (hf:CtF F p) (ho:A5Y p) {l:List C7} (hl:l.length≤100) (he:∀ e∈l,B18 p e) {K:F7→List Int→Option ((Option F7) × (List Int) × Int)}:∀ (n k:Nat) (x:H2 × List Int),CF p x.1→x.2.length=k→l.length<n+k→k≤l.length →
  B5Q F l K n (dsk p x.1) x.2 k=K (dsk p (A3F p x (l.drop k)).1) (A3F p x (l.drop k)).2
 | 0,k,x,_,_,h,h2=>absurd h oM
 | n+1,k,x,hs,hx,h,h2=>by
  rw[B5r]
  by_cases hk:k<l.length
  ·have hev:=he _ (List.getElem_mem hk)
   obtain⟨c1,c2⟩:=B43 (x:=x) ho hs hev
   have ih:=B2i hf ho hl he (K:=K) n (k+1) (A7y p x l[k]) c1 oM oM oM
   rw[if_pos oM,H3 hk,oS,C0v hf ho hs hev,oS,lD hk,S0 oM,show A3F p x (l[k]::l.drop (k+1))=A3F p (A7y p x l[k]) (l.drop (k+1))from rfl,← ih]
   unfold A7y
   cases hd:doC p x.1 l[k]with
   | ok s=>exact congrArg (fun o=>Option.bind o _) (A8O oM)
   | error w=>exact congrArg (fun o=>Option.bind o _) (A8O oM)
  ·rw[if_neg oM,lL oM]
   rfl
theorem B72 {F:Nat} {p:D4} (hf:CtF F p) (ho:A5Y p) {l:List C7} (hl:l.length≤100) {c:Option ((Option F7) × (List Int) × Int)}:∀ (n k:Nat) (r:Int),l.length<n+k→k≤l.length →
  A2d F p l (fun _ _=>c) n r k=if A8k p (l.drop k)=0 then c else some (none,[],A8k p (l.drop k))
 | 0,k,r,h,h2=>absurd h oM
 | n+1,k,r,h,h2=>by
  rw[A2d]
  by_cases hk:k<l.length
  ·rw[if_pos oM,H3 hk,oS,B71 hf ho,oS,S0 oM,lD hk,A8k]
   by_cases h0:A5H p l[k]=0
   ·rw[if_pos h0,dT h0,cT,B72 hf ho hl n (k+1) _ oM oM]
   ·rw[if_neg h0,dF h0,cF,if_neg h0]
  ·rw[if_neg oM,lL oM]
   rfl
theorem B9a {F:Nat} {p:D4} (hf:CtF F p) (l:List C7):A42 F p l=some ((A0O p l).1.map (dsk p),(A0O p l).2.1,(A0O p l).2.2):=by
 have hF:=hf.pd.f
 rw[A42,B7o hf,oS]
 unfold A0O
 by_cases h0:(A35 p).2.2=0
 ·have ho:=A95 h0
  rw[if_pos h0,if_pos h0]
  show(if(0:Int)=0 then _ else(some (none,[],0):Option ((Option F7) × (List Int) × Int)))=_
  rw[if_pos rfl]
  by_cases h1:100<(l.length:Int)
  ·rw[if_pos h1,if_pos h1];rfl
  ·rw[if_neg h1,if_neg h1]
   refine(B72 hf ho oM F 0 0 oM oM).trans ?_
   rw[List.drop_zero]
   by_cases h2:A8k p l=0
   ·rw[if_pos h2,if_pos h2]
    exact(B2i hf ho oM (B2F h2) (K:=fun d w=>some (some d,w,0)) F 0 (A0U p,[]) (B1z ho) rfl oM oM).trans (by rw[List.drop_zero];rfl)
   ·rw[if_neg h2,if_neg h2];rfl
 ·rw[if_neg h0,if_neg h0,if_neg h0]
  rfl
def C1e:Option H2→H2
 | some s=>s
 | none=>B9C
theorem B1r {p:D4} {l:List C7} (h:(A0O p l).1=none):(A0O p l).2.2≠0:=by
 unfold A0O at h ⊢
 by_cases h0:(A35 p).2.2=0
 ·rw[if_pos h0]at h ⊢
  by_cases h1:100<(l.length:Int)
  ·rw[if_pos h1];decide
  ·rw[if_neg h1]at h ⊢
   by_cases h2:A8k p l=0
   ·rw[if_pos h2]at h;cases h
   ·rw[if_neg h2];exact h2
 ·rw[if_neg h0];exact h0
theorem A8D {p:D4} {l:List C7} {s:H2} (h:(A0O p l).1=some s):(A0O p l).2.2=0∧A5Y p∧l.length≤100∧(∀ e∈l,B18 p e)∧s=(A3F p (A0U p,[]) l).1∧(A0O p l).2.1=(A3F p (A0U p,[]) l).2∧(A35 p).2.2=0∧A8k p l=0:=by
 unfold A0O at h ⊢
 by_cases h0:(A35 p).2.2=0
 ·rw[if_pos h0]at h ⊢
  by_cases h1:100<(l.length:Int)
  ·rw[if_pos h1]at h;cases h
  ·rw[if_neg h1]at h ⊢
   by_cases h2:A8k p l=0
   ·rw[if_pos h2]at h ⊢
    injection h with h
    exact⟨rfl,A95 h0,by omega,B2F h2,h.symm,rfl,h0,h2⟩
   ·rw[if_neg h2]at h;cases h
 ·rw[if_neg h0]at h;cases h
theorem B2h {p:D4} {l:List C7} (h:(A0O p l).1=none):(A0O p l).2.1=[]:=by
 unfold A0O at h ⊢
 by_cases h0:(A35 p).2.2=0
 ·rw[if_pos h0]at h ⊢
  by_cases h1:100<(l.length:Int)
  ·rw[if_pos h1]
  ·rw[if_neg h1]at h ⊢
   by_cases h2:A8k p l=0
   ·rw[if_pos h2]at h;cases h
   ·rw[if_neg h2]
 ·rw[if_neg h0]
theorem B56 {F:Nat} {p:D4} (hf:CtF F p) (l:List C7):A36 F p l=some (C1e (A0O p l).1,(A0O p l).2.1,(A0O p l).2.2):=by
 rw[A36,B9a hf,oS]
 cases h:(A0O p l).1 with
 | none =>
  have h1:=B1r h
  have h2:=B2h h
  show(if(A0O p l).2.2=0 then _ else _)=_
  rw[if_neg h1,h2]
  rfl
 | some s =>
  have h1:=(A8D h).1
  show(if(A0O p l).2.2=0 then _ else _)=_
  rw[if_pos h1,h1]
  rfl
def A91 (p:D4) (s:H2) (e:C7):H2:=match doC p s e with
 | .ok s'=>s'
 | .error _=>s
def B91:Except Int H2→Int
 | .ok _=>0
 | .error w=>w
def B8z (p:D4) (s:H2) (l:List C7):H2:=l.foldl (A91 p) s
def B57 (p:D4):H2→List C7→List Int
 | _,[]=>[]
 | s,e::l=>B91 (doC p s e)::B57 p (A91 p s e) l
theorem C1z (p:D4) (s:H2) (w:List Int) (e:C7):A7y p (s,w) e=(A91 p s e,w++[B91 (doC p s e)]):=by
 unfold A7y A91
 cases h:doC p (s,w).1 e<;>rfl
theorem C0n (p:D4):∀ (l:List C7) (s:H2) (w:List Int),A3F p (s,w) l=(B8z p s l,w++B57 p s l)
 | [],s,w=>by simp[A3F,B8z,B57]
 | e::l,s,w=>by
  rw[show A3F p (s,w) (e::l)=A3F p (A7y p (s,w) e) l from rfl,C1z,C0n p l,B57,List.append_assoc]
  rfl
theorem C1l {p:D4} {l:List C7} {s:H2} (h:(A0O p l).1=some s):s=B8z p (A0U p) l∧(A0O p l).2.1=B57 p (A0U p) l:=by
 obtain⟨_,_,_,_,h1,h2,_,_⟩:=A8D h
 rw[C0n]at h1 h2
 exact⟨h1,by rw[h2];rfl⟩
theorem C0S {p:D4} (ho:A5Y p) (I:H2→Prop) (hI:∀ s e s',I s→CF p s→B18 p e→doC p s e = .ok s'→I s'):∀ {l:List C7} {s:H2},I s→CF p s→(∀ e∈l,B18 p e)→I (B8z p s l)∧CF p (B8z p s l)
 | [],s,h,hs,_=>⟨h,hs⟩
 | e::l,s,h,hs,he=>by
  have h1:I (A91 p s e)∧CF p (A91 p s e):=by
   unfold A91
   cases hd:doC p s e with
   | ok s'=>exact⟨hI s e s' h hs (he e sM) hd,(C0u ho hs (he e sM) hd).1⟩
   | error w=>exact⟨h,hs⟩
  exact C0S ho I hI (l:=l) h1.1 h1.2 fun x hx=>he x (by simp[hx])
theorem B1S {F:Nat} {a:List Int} (hl:a.length≤100):∀ (n k:Nat),a.length<n+k→k≤a.length→A3e F a a (fun _=>some true) n k=some true
 | 0,k,h,h2=>absurd h oM
 | n+1,k,h,h2=>by
  rw[A3e]
  by_cases hk:k<a.length
  ·rw[if_pos oM,H3 hk,oS,oS,if_pos rfl,S0 oM,B1S hl n (k+1) oM oM]
  ·rw[if_neg oM]
theorem B6z {F:Nat} (hF:100<F) {a:List Int} (hl:a.length≤100):A66 F a a=some true:=by
 rw[A66,if_pos rfl]
 exact B1S hl F 0 oM oM
theorem C1W {p:D4} {s s':H2} {i:Nat} (h:B9i p s i = .ok s'):0≤s.begun.getD (p.points.getD i 0).toNat 0∧s'={s with begun:=A6r p s.begun (p.points.getD i 0).toNat,ended:=A6r p s.ended (p.points.getD i 0).toNat,held:=true,go:=List.replicate s.go.length false,on_:=List.replicate s.on_.length false}:=by
 unfold B9i at h
 cases hh:decide (0≤s.begun.getD (p.points.getD i 0).toNat 0)with
 | false=>rw[hh]at h;cases h
 | true =>
  cases h8:!s.J3.any (fun e=>decide ((1:Int)=e))with
  | false=>rw[hh,h8]at h;cases h
  | true =>
   rw[hh,h8,cT,cT]at h
   injection h with h
   exact⟨of_decide_eq_true hh,h.symm⟩
structure C1t (p:D4) (s:H2):Prop where
 a:∀ k,k<p.steps.length→s.begun.getD k 0<0→s.ended.getD k 0<0
 l:∀ k,k<p.steps.length→0≤s.ended.getD k 0→(p.steps.getD k default).least≤s.ended.getD k 0-s.begun.getD k 0∧s.ended.getD k 0-s.begun.getD k 0≤(p.steps.getD k default).most
 n:∀ k,k<p.steps.length→0≤s.begun.getD k 0→∀ m∈(p.steps.getD k default).need,0≤s.ended.getD m.toNat 0∧s.ended.getD m.toNat 0≤s.begun.getD k 0
 e:0≤s.ended.getD (p.steps.length-1) 0→(p.Q8≤s.ended.getD (p.steps.length-1) 0∧s.ended.getD (p.steps.length-1) 0≤p.O8)∧s.ended.getD (p.steps.length-1) 0=s.now
theorem C4i {n:Nat} {f:Nat→Bool}:(List.range' 0 n).all f=true↔∀ k,k<n→f k=true:=by
 rw[List.all_eq_true]
 constructor
 ·intro h k hk
  exact h k (List.mem_range'_1.2 ⟨by omega,by omega⟩)
 ·intro h k hk
  have:=List.mem_range'_1.1 hk
  exact h k oM
structure C2M (p:D5) (s:C3):Prop where
 z:∀ k,k<p.zones.length→B4E p s k=true
 pr:∀ k,k<s.zones.length→A9o p s k=true
 q:∀ k,k<s.squibs.length→B1y p s k=true
theorem C4Q {p:D5} {s:C3}:A9O p s=true↔C2M p s:=by
 unfold A9O
 rw[Bool.and_eq_true,Bool.and_eq_true,C4i,C4i,C4i]
 exact⟨fun⟨a,b,c⟩=>⟨a,b,c⟩,fun h=>⟨h.z,h.pr,h.q⟩⟩
theorem C3N {p:D5} {s:C3} {i:Int} {z:F6} {k:Nat}:B3J p s i z k=true↔(s.squibs.getD k 0=2∨A5r z (p.squibs.getD k default)=false)∨B4R s i (p.squibs.getD k default)=true:=by
 unfold B3J
 rw[Bool.or_eq_true,Bool.or_eq_true,decide_eq_true_iff,Bool.not_eq_true']
theorem C3I {p:D5} {s s':C3} {i z:Int} (hk:∀ j,j<p.squibs.length→B3J p s i (p.zones.getD z.toNat default) j=true→B3J p s' i (p.zones.getD z.toNat default) j=true) (h:A6n p s i z=true):A6n p s' i z=true:=by
 unfold A6n at h ⊢
 rw[Bool.or_eq_true]at h ⊢
 rcases h with h | h
 ·exact .inl h
 ·rw[C4i]at h ⊢
  exact .inr fun j hj=>hk j hj (h j hj)
theorem C3V {p:D5} {s s':C3} {k:Nat} (hz:s'.zones=s.zones) (hk:A6n p s k (s.zones.getD k 0)=true→A6n p s' k (s.zones.getD k 0)=true) (h:A9o p s k=true):A9o p s' k=true:=by
 unfold A9o at h ⊢
 rw[hz]
 rw[Bool.and_eq_true]at h ⊢
 exact⟨h.1,hk h.2⟩
theorem C3R {s:C3} {q:D1}:B1b s q=[]↔∀ e∈q.keys,B3H s e=false:=by
 unfold B1b
 rw[List.filter_eq_nil_iff]
 simp only[Bool.not_eq_true]
theorem C2K {p:D5} {s:C3} {k:Nat}:B1y p s k=true↔(s.squibs.getD k 0=1→B1b s (p.squibs.getD k default)=[]∧0≤s.siren∧s.storm=false):=by
 unfold B1y
 rw[Bool.or_eq_true,Bool.and_eq_true,Bool.and_eq_true,Bool.not_eq_true',Bool.not_eq_true',Bool.not_eq_true',decide_eq_false_iff_not,decide_eq_true_iff,decide_eq_false_iff_not,Int.not_lt]
 constructor
 ·rintro(h | h) h1
  ·exact absurd h1 h
  ·exact h
 ·intro h
  by_cases h1:s.squibs.getD k 0=1
  ·exact .inr (h h1)
  ·exact .inl h1
theorem C3Z {s s':C3} {i:Int} {q:D1} (hk:∀ e∈q.keys,s.holder.getD e.toNat (-1)=i→s'.holder.getD e.toNat (-1)=i) (h:B4R s i q=true):B4R s' i q=true:=by
 unfold B4R at h ⊢
 obtain⟨e,he,h2⟩:=List.any_eq_true.1 h
 exact List.any_eq_true.2 ⟨e,he,dT (hk e he (of_decide_eq_true h2))⟩
theorem C4G {p:D5} {s:C3} {f:D1→Bool} (h:(!B27 p s f)=true):∀ k,k<s.squibs.length→s.squibs.getD k 0=1→f (p.squibs.getD k default)=false:=by
 unfold B27 at h
 rw[Bool.not_not,C4i]at h
 intro k hk h1
 have:=h k hk
 rw[h1]at this
 simpa using this
theorem C4t {p:D5} {s:C3} (h:C2M p s) (hf:A2l p s) (k:Nat) (v:Int) (hv:s.squibs.getD k 0≠2) (h1:v=1→B1b s (p.squibs.getD k default)=[]∧0≤s.siren∧s.storm=false) (t:Int):C2M p {s with squibs:=s.squibs.set k v,now:=t}:=by
 have hg:∀ j,j<s.squibs.length→(s.squibs.set k v).getD j 0=if j=k then v else s.squibs.getD j 0:=fun j hj=>by
  by_cases hk:k<s.squibs.length
  ·exact sG hk
  ·rw[if_neg oM]
   rw[List.set_eq_of_length_le oM]
 refine⟨h.z,fun j hj=>C3V (s:=s) rfl (C3I fun i hi hk=>?_) (h.pr j hj),fun j hj=>?_⟩
 ·rw[C3N]at hk ⊢
  rcases hk with(h2 | h2) | h2
  ·refine .inl (.inl ?_)
   show(s.squibs.set k v).getD i 0=2
   rw[hg i (by have:=hf.lq;omega)]
   by_cases hik:i=k
   ·rw[hik]at h2;exact absurd h2 hv
   ·rw[if_neg hik];exact h2
  ·exact .inl (.inr h2)
  ·exact .inr h2
 ·have hj:j<(s.squibs.set k v).length:=hj
  rw[List.length_set]at hj
  rw[C2K]
  intro h2
  have h2:(s.squibs.set k v).getD j 0=1:=h2
  rw[hg j hj]at h2
  by_cases hjk:j=k
  ·rw[if_pos hjk]at h2
   rw[hjk]
   exact h1 h2
  ·rw[if_neg hjk]at h2
   have:=C2K.1 (h.q j hj) h2
   exact this
theorem C4j {p:D5} {s:C3} (h:C2M p s) (k:Nat) (v:Int) (t:Int) (hq:∀ j,j<s.squibs.length→s.squibs.getD j 0=1→B1b {s with holder:=s.holder.set k v,now:=t} (p.squibs.getD j default)=[])
 (hp:∀ j:Nat,j<s.zones.length→A6n p s j (s.zones.getD j 0)=true→A6n p {s with holder:=s.holder.set k v,now:=t} j (s.zones.getD j 0)=true):C2M p {s with holder:=s.holder.set k v,now:=t} :=
 ⟨h.z,fun j hj=>C3V (s:=s) rfl (hp j hj) (h.pr j hj),fun j hj=>C2K.2 fun h1=>⟨hq j hj h1,by have:=(C2K.1 (h.q j hj) h1).2;exact this⟩⟩
theorem C3H {s:C3} {k:Nat} {v:Int} {j:Nat} (hk:k<s.holder.length):(s.holder.set k v).getD j (-1)=if j=k then v else s.holder.getD j (-1):=sG hk
theorem C4X {p:D5} {s:C3} (h:C2M p s) (t:Int):C2M p {s with now:=t}:=⟨h.z,h.pr,h.q⟩
theorem C5t {p:D5} (ho:A6x p) {j:Nat} (hj:j<p.squibs.length) {e:Int} (he:e∈(p.squibs.getD j default).keys):0≤e∧e<p.keys.length:=by
 have hm:p.squibs.getD j default∈p.squibs:=by rw[J6 _ hj];exact List.getElem_mem hj
 have:=(ho.q _ hm).2.1
 unfold A8Z at this
 rw[Bool.or_eq_false_iff,List.any_eq_false]at this
 have:=this.2 e he
 rw[Bool.not_eq_true,O6]at this
 omega
theorem C4S {p:D5} {s:C3} {a:D2} (ho:A6x p) (hf:A2l p s) (ha:B7e p a) (hk:a.kind=2) (h:C2M p s) {x:C3} (hx:B8p p s a = .ok x):C2M p x:=by
 obtain⟨_,hx⟩:=A2g hx
 obtain⟨h2,hx⟩:=A2g hx
 obtain⟨h3,hx⟩:=A2g hx
 injection hx with hx
 subst hx
 have hkey:=ha.key (.inl hk)
 have hlh:=hf.lh
 have hkl:a.what.toNat<s.holder.length:=by omega
 have h2:¬ 0≤s.holder.getD a.what.toNat (-1):=by
  unfold B3H at h2
  rw[Bool.not_eq_true',decide_eq_false_iff_not]at h2
  exact h2
 refine C4j h a.what.toNat a.who s.now (fun j hj h1=>?_) fun j hj=>C3I fun i hi hk=>?_
 ·rw[C3R]
  intro e he
  have hn:=C4G h3 j hj h1
  rw[List.any_eq_false]at hn
  have hne:a.what≠e:=fun hc=>hn e he (dT hc)
  have:=C3R.1 (C2K.1 (h.q j hj) h1).1 e he
  unfold B3H at this ⊢
  rw[decide_eq_false_iff_not]at this ⊢
  show ¬ 0≤(s.holder.set a.what.toNat a.who).getD e.toNat (-1)
  rw[C3H hkl]
  by_cases hc:e.toNat=a.what.toNat
  ·have:=(C5t ho (by have:=hf.lq;omega) he).1;omega
  ·rw[if_neg hc];exact this
 ·rw[C3N]at hk ⊢
  rcases hk with h5 | h5
  ·exact .inl h5
  ·refine .inr (C3Z (fun e he h6=>?_) h5)
   show(s.holder.set a.what.toNat a.who).getD e.toNat (-1)=_
   rw[C3H hkl]
   by_cases hc:e.toNat=a.what.toNat
   ·rw[hc]at h6;omega
   ·rw[if_neg hc];exact h6
theorem C4W {p:D5} {s:C3} {a:D2} (ho:A6x p) (hf:A2l p s) (ha:B7e p a) (hk:a.kind=3) (h:C2M p s) {x:C3} (hx:B9T p s a = .ok x):C2M p x:=by
 obtain⟨h1,hx⟩:=A2g hx
 obtain⟨h2,hx⟩:=A2g hx
 injection hx with hx
 subst hx
 have h1:s.zones.getD a.who.toNat 0=p.panel:=of_decide_eq_true h1
 have h2:s.holder.getD a.what.toNat (-1)=a.who:=of_decide_eq_true h2
 have hkey:=ha.key (.inr (.inl hk))
 have hlh:=hf.lh
 have hw:=ha.who
 have hkl:a.what.toNat<s.holder.length:=by omega
 refine C4j h a.what.toNat (-1) s.now (fun j hj h5=>?_) fun j hj hkd=>?_
 ·rw[C3R]
  intro e he
  have:=C3R.1 (C2K.1 (h.q j hj) h5).1 e he
  unfold B3H at this ⊢
  rw[decide_eq_false_iff_not]at this ⊢
  show ¬ 0≤(s.holder.set a.what.toNat (-1)).getD e.toNat (-1)
  rw[C3H hkl]
  by_cases hc:e.toNat=a.what.toNat
  ·rw[if_pos hc];omega
  ·rw[if_neg hc];exact this
 ·by_cases hjw:(j:Int)=a.who
  ·have e1:s.zones.getD j 0=p.panel:=by rw[← h1,← hjw];rfl
   unfold A6n
   rw[e1,Bool.or_eq_true,C4i]
   refine .inr fun i hi=>C3N.2 (.inl (.inr ?_))
   have hm:p.squibs.getD i default∈p.squibs:=by rw[J6 _ hi];exact List.getElem_mem hi
   have:=List.any_eq_false.1 ho.far _ hm
   simpa using this
  ·refine C3I (fun i hi hk=>?_) hkd
   rw[C3N]at hk ⊢
   rcases hk with h5 | h5
   ·exact .inl h5
   ·refine .inr (C3Z (fun e he h6=>?_) h5)
    show(s.holder.set a.what.toNat (-1)).getD e.toNat (-1)=_
    rw[C3H hkl]
    by_cases hc:e.toNat=a.what.toNat
    ·rw[hc,h2]at h6;exact absurd h6.symm hjw
    ·rw[if_neg hc];exact h6
theorem C4O {p:D5} {s:C3} {a:D2} (ho:A6x p) (hf:A2l p s) (ha:B7e p a) (hk:a.kind=4) (h:C2M p s) {x:C3} (hx:B74 p s a = .ok x):C2M p x:=by
 obtain⟨h2,hx⟩:=A2g hx
 obtain⟨_,hx⟩:=A2g hx
 obtain⟨h3,hx⟩:=A2g hx
 injection hx with hx
 subst hx
 have h2:s.holder.getD a.what.toNat (-1)=a.who:=of_decide_eq_true h2
 have hkey:=ha.key (.inr (.inr hk))
 have hlh:=hf.lh
 have hw:=ha.who
 have hkl:a.what.toNat<s.holder.length:=by omega
 refine C4j h a.what.toNat a.with_ s.now (fun j hj h5=>?_) fun j hj hkd=>?_
 ·rw[C3R]
  intro e he
  have:=C3R.1 (C2K.1 (h.q j hj) h5).1 e he
  unfold B3H at this ⊢
  rw[decide_eq_false_iff_not]at this ⊢
  show ¬ 0≤(s.holder.set a.what.toNat a.with_).getD e.toNat (-1)
  rw[C3H hkl]
  by_cases hc:e.toNat=a.what.toNat
  ·rw[hc,h2]at this;omega
  ·rw[if_neg hc];exact this
 ·by_cases hjw:(j:Int)=a.who
  ·have e1:s.zones.getD a.who.toNat 0=s.zones.getD j 0:=by rw[← hjw];rfl
   rw[e1,← hjw]at h3
   exact h3
  ·refine C3I (fun i hi hk=>?_) hkd
   rw[C3N]at hk ⊢
   rcases hk with h5 | h5
   ·exact .inl h5
   ·refine .inr (C3Z (fun e he h6=>?_) h5)
    show(s.holder.set a.what.toNat a.with_).getD e.toNat (-1)=_
    rw[C3H hkl]
    by_cases hc:e.toNat=a.what.toNat
    ·rw[hc,h2]at h6;exact absurd h6.symm hjw
    ·rw[if_neg hc];exact h6
theorem C4V {p:D5} {s:C3} {a:D2} (hf:A2l p s) (h:C2M p s) {x:C3} (hx:B97 p s a = .ok x):C2M p x:=by
 obtain⟨_,hx⟩:=A2g hx
 obtain⟨_,hx⟩:=A2g hx
 obtain⟨h1,hx⟩:=A2g hx
 obtain⟨h2,hx⟩:=A2g hx
 obtain⟨h3,hx⟩:=A2g hx
 obtain⟨h4,hx⟩:=A2g hx
 injection hx with hx
 subst hx
 have h1:s.squibs.getD a.what.toNat 0=0:=of_decide_eq_true h1
 unfold B6i at h4
 rw[Bool.and_eq_true]at h4
 exact C4t h hf a.what.toNat 1 oM (fun _=>⟨of_decide_eq_true h3,of_decide_eq_true h4.1,by rw[Bool.not_eq_true']at h2;exact h2⟩) s.now
theorem C4A {p:D5} {s:C3} {a:D2} (hf:A2l p s) (h:C2M p s) {x:C3} (hx:B2B p s a = .ok x):C2M p x:=by
 obtain⟨_,hx⟩:=A2g hx
 obtain⟨h1,hx⟩:=A2g hx
 injection hx with hx
 subst hx
 have h1:s.squibs.getD a.what.toNat 0=1:=of_decide_eq_true h1
 exact C4t h hf a.what.toNat 0 oM (fun hc=>by cases hc) s.now
theorem C4N {p:D5} {s:C3} {a:D2} (hf:A2l p s) (h:C2M p s) {x:C3} (hx:B73 p s a = .ok x):C2M p x:=by
 obtain⟨_,hx⟩:=A2g hx
 obtain⟨_,hx⟩:=A2g hx
 obtain⟨h1,hx⟩:=A2g hx
 injection hx with hx
 subst hx
 have h1:s.squibs.getD a.what.toNat 0=1:=of_decide_eq_true h1
 exact C4t h hf a.what.toNat 2 oM (fun hc=>by cases hc) s.now
theorem C4H {p:D5} {s:C3} {a:D2} (ha:B7e p a) (h:C2M p s) {x:C3} (hx:B5y p s a = .ok x):C2M p x:=by
 obtain⟨_,hx⟩:=A2g hx
 obtain⟨_,hx⟩:=A2g hx
 obtain⟨h1,hx⟩:=A2g hx
 injection hx with hx
 subst hx
 refine⟨h.z,fun j hj=>C3V (s:=s) rfl (fun h=>h) (h.pr j hj),fun j hj=>C2K.2 fun h5=>?_⟩
 have h6:=C2K.1 (h.q j hj) h5
 refine⟨h6.1,?_,h6.2.2⟩
 show 0≤(bif decide (a.what=1)then a.at_ else -1)
 cases hd:decide (a.what=1)with
 | true=>exact ha.t.1
 | false =>
  rw[hd,Bool.false_or]at h1
  have:=C4G h1 j hj h5
  cases this
theorem C4w {p:D5} {s:C3} {a:D2} (hf:A2l p s) (h:C2M p s) {x:C3} (hx:B16 s a = .ok x):C2M p x:=by
 obtain⟨_,hx⟩:=A2g hx
 injection hx with hx
 subst hx
 cases hd:decide (a.what=1)with
 | false =>
  refine⟨h.z,fun j hj=>C3V (s:=s) rfl (fun h=>h) (h.pr j hj),fun j hj=>C2K.2 fun h5=>?_⟩
  have h6:=C2K.1 (h.q j hj) h5
  exact⟨h6.1,h6.2.1,rfl⟩
 | true =>
  have hg:∀ j,j<s.squibs.length→(A4x s.squibs).getD j 0=bif decide (s.squibs.getD j 0=1)then 0 else s.squibs.getD j 0:=fun j hj=>by
   have hj2:j<(A4x s.squibs).length:=by simpa[A4x]using hj
   rw[J6 0 hj2,J6 0 hj]
   simp[A4x]
  refine⟨h.z,fun j hj=>C3V (s:=s) rfl (C3I fun i hi hk=>?_) (h.pr j hj),fun j hj=>C2K.2 fun h5=>?_⟩
  ·rw[C3N]at hk ⊢
   rcases hk with(h5 | h5) | h5
   ·refine .inl (.inl ?_)
    show(A4x s.squibs).getD i 0=2
    rw[hg i (by have:=hf.lq;omega),h5]
    rfl
   ·exact .inl (.inr h5)
   ·exact .inr h5
  ·have hj:j<(A4x s.squibs).length:=hj
   have hj:j<s.squibs.length:=by simpa[A4x]using hj
   have h5:(A4x s.squibs).getD j 0=1:=h5
   rw[hg j hj]at h5
   cases h6:decide (s.squibs.getD j 0=1)with
   | true=>rw[h6]at h5;cases h5
   | false=>rw[h6]at h5;exact absurd h5 (of_decide_eq_false h6)
theorem C4q (f:Int→Bool):∀ (l:List Int) (i:Nat) (y:Int),i<l.length→(l.set i y).countP f+(if f (l.getD i 0)=true then 1 else 0)=l.countP f+(if f y=true then 1 else 0)
 | [],i,y,h=>by simp at h
 | a::l,0,y,h=>by
  rw[List.set_cons_zero,List.countP_cons,List.countP_cons]
  show _+(if f a=true then 1 else 0)=_
  omega
 | a::l,i+1,y,h=>by
  have ih:=C4q f l i y (by simpa using h)
  rw[List.set_cons_succ,List.countP_cons,List.countP_cons]
  show _+(if f (l.getD i 0)=true then 1 else 0)=_
  omega
theorem C5i {p:D5} {s:C3} {i z:Int} (h:A1q p s i z=0):z<0∨(¬ (p.people.getD i.toNat default).grade<(p.zones.getD z.toNat default).grade∧A6n p s i z=true):=by
 unfold A1q at h
 by_cases hz:z<0
 ·exact .inl hz
 rw[dF hz,cF]at h
 by_cases hg:(p.people.getD i.toNat default).grade<(p.zones.getD z.toNat default).grade
 ·rw[dT hg,cT]at h;cases h
 rw[dF hg,cF]at h
 cases hs:s.storm&&B03 p s (p.zones.getD z.toNat default)with
 | true=>rw[hs]at h;cases h
 | false =>
  rw[hs,cF]at h
  cases hk:A6n p s i z with
  | true=>exact .inr ⟨hg,rfl⟩
  | false=>rw[hk]at h;cases h
theorem C5l {p:D5} {s s':C3} {j:Nat} {x:Int} (hq:s'.squibs=s.squibs) (hh:s'.holder=s.holder) (hz:s'.zones.getD j 0=x) (h:A1q p s j x=0):A9o p s' j=true:=by
 unfold A9o
 rw[hz]
 rcases C5i h with hx | ⟨hg,hk⟩
 ·have:A6n p s' j x=true:=by unfold A6n;rw[dT hx,Bool.true_or]
  rw[this,dF oM]
  rfl
 ·have hg:¬ (p.people.getD j default).grade<(p.zones.getD x.toNat default).grade:=hg
  have:A6n p s' j x=true:=C3I (s:=s) (fun i hi hk=>by
   rw[C3N]at hk ⊢
   rw[hq]
   rcases hk with hk | hk
   ·exact .inl hk
   ·exact .inr (C3Z (fun e he h6=>by rw[hh];exact h6) hk)) hk
  rw[this,dF hg,Bool.and_false]
  rfl
theorem C4P {p:D5} {s:C3} {a:D2} (hf:A2l p s) (ha:B7e p a) (hk:a.kind=1) (h:C2M p s) {x:C3} (hx:B7I p s a = .ok x):C2M p x:=by
 obtain⟨h1,hx⟩:=A2g hx
 obtain⟨h2,hx⟩:=A2g hx
 obtain⟨h3,hx⟩:=A2g hx
 obtain⟨h4,hx⟩:=A2g hx
 obtain⟨h5,hx⟩:=A2g hx
 injection hx with hx
 subst hx
 have hw:=ha.who
 have hlz:=hf.lz
 have hmv:=ha.move hk
 rw[Bool.and_eq_true]at h1 h5
 have h2:A1q p s a.who a.what=0:=of_decide_eq_true h2
 have hwl:a.who.toNat<s.zones.length:=by omega
 obtain⟨fr,hfr⟩:∃ fr,s.zones.getD a.who.toNat 0=fr:=⟨_,rfl⟩
 rw[hfr]at h1 h5
 -- what the zones are afterwards
 have hz:∃ c:Nat,(∀ k:Int,(A0y s a).countP (fun e=>decide (e=k))+c*(if fr=k then 1 else 0)=s.zones.countP (fun e=>decide (e=k))+c*(if a.what=k then 1 else 0))∧(A0y s a).length=s.zones.length∧∀ j:Nat,j<s.zones.length→(A1q p s j a.what=0∧(A0y s a).getD j 0=a.what)∨(A0y s a).getD j 0=s.zones.getD j 0:=by
  unfold A0y
  by_cases h0:0≤a.with_
  ·rw[dT h0,cT]
   have hv:a.with_.toNat<s.zones.length:=by omega
   have hvw:a.with_.toNat≠a.who.toNat:=by omega
   have h6:s.zones.getD a.with_.toNat 0=fr:=by
    have:=h1.2
    rw[dT h0,Bool.not_true,Bool.false_or]at this
    exact of_decide_eq_true this
   have h3:A1q p s a.with_ a.what=0:=by
    have h3:c2E p s a=0:=of_decide_eq_true h3
    unfold c2E at h3
    rw[dT h0,cT]at h3
    exact h3
   refine⟨2,fun k=>?_,by rw[List.length_set,List.length_set],fun j hj=>?_⟩
   ·have c1:=C4q (fun e=>decide (e=k)) s.zones a.who.toNat a.what hwl
    have c2:=C4q (fun e=>decide (e=k)) (s.zones.set a.who.toNat a.what) a.with_.toNat a.what (by rw[List.length_set];exact hv)
    rw[sG hwl,if_neg hvw,h6]at c2
    rw[hfr]at c1
    simp only[decide_eq_true_eq]at c1 c2
    omega
   ·rw[sG (by rw[List.length_set];exact hv),sG hwl]
    by_cases hjv:j=a.with_.toNat
    ·rw[if_pos hjv]
     refine .inl ⟨?_,rfl⟩
     rw[hjv,show((a.with_.toNat:Nat):Int)=a.with_ by omega]
     exact h3
    ·rw[if_neg hjv]
     by_cases hjw:j=a.who.toNat
     ·rw[if_pos hjw]
      refine .inl ⟨?_,rfl⟩
      rw[hjw,show((a.who.toNat:Nat):Int)=a.who by omega]
      exact h2
     ·rw[if_neg hjw];exact .inr rfl
  ·rw[dF h0,cF]
   refine⟨1,fun k=>?_,List.length_set,fun j hj=>?_⟩
   ·have c1:=C4q (fun e=>decide (e=k)) s.zones a.who.toNat a.what hwl
    rw[hfr]at c1
    simp only[decide_eq_true_eq]at c1
    omega
   ·rw[sG hwl]
    by_cases hjw:j=a.who.toNat
    ·rw[if_pos hjw]
     refine .inl ⟨?_,rfl⟩
     rw[hjw,show((a.who.toNat:Nat):Int)=a.who by omega]
     exact h2
    ·rw[if_neg hjw];exact .inr rfl
 obtain⟨c,hcnt,hlen,hget⟩:=hz
 refine⟨fun k hkz=>?_,fun j hj=>?_,fun j hj=>C2K.2 fun h5=>by have:=C2K.1 (h.q j hj) h5;exact this⟩
 ·have hold:=h.z k hkz
  have hc:=hcnt k
  have hcr:A6W (Z2 s (A0y s a)) k=(A0y s a).countP (fun e=>decide (e=(k:Int))):=rfl
  have hco:A6W s k=s.zones.countP (fun e=>decide (e=(k:Int))):=rfl
  rw[← hcr,← hco]at hc
  by_cases hxk:a.what=k
  ·unfold B4E
   rw[hxk]at h4 h5
   rw[h5.1,Bool.and_true]
   unfold B5E at h4
   rw[dT oM,Bool.true_and]at h4
   exact h4
  ·rw[if_neg hxk]at hc
   unfold B4E at hold ⊢
   rw[Bool.and_eq_true,Bool.not_eq_true',decide_eq_false_iff_not]at hold ⊢
   by_cases hfk:fr=k
   ·rw[hfk]at h5
    exact⟨by omega,h5.2⟩
   ·rw[if_neg hfk]at hc
    have he:A6W (Z2 s (A0y s a)) k=A6W s k:=by omega
    refine⟨by rw[he];exact hold.1,?_⟩
    have:=hold.2
    unfold A3X at this ⊢
    rw[he]
    exact this
 ·have hj:j<(A0y s a).length:=hj
  rw[hlen]at hj
  rcases hget j hj with⟨h6,h7⟩ | h6
  ·exact C5l (s:=s) rfl rfl h7 h6
  ·have hp:=h.pr j hj
   unfold A9o at hp ⊢
   rw[show(Z2 s (A0y s a)).zones.getD j 0=s.zones.getD j 0 from h6]
   exact hp
theorem C4M {p:D5} {s s':C3} {a:D2} (ho:A6x p) (hf:A2l p s) (ha:B7e p a) (hs:C2M p s) (h:B1Q p s a = .ok s'):C2M p s':=by
 unfold B1Q at h
 by_cases ht:a.at_<s.now
 ·rw[if_pos ht]at h;cases h
 rw[if_neg ht]at h
 have key:∀ {r:Except Int C3},B4L a.at_ r = .ok s'→∃ x,r = .ok x∧s'={x with now:=a.at_}:=fun {r} hr=>by
  cases r with
  | ok x=>injection hr with hr;exact⟨x,rfl,hr.symm⟩
  | error e=>cases hr
 obtain⟨x,hx,rfl⟩:=key h
 refine C4X ?_ _
 unfold B79 at hx
 rcases ha.k with k | k | k | k | k | k | k | k | k<;>simp only[k,Int.reduceEq,if_true,if_false]at hx
 ·exact C4P hf ha k hs hx
 ·exact C4S ho hf ha k hs hx
 ·exact C4W ho hf ha k hs hx
 ·exact C4O ho hf ha k hs hx
 ·exact C4V hf hs hx
 ·exact C4A hf hs hx
 ·exact C4N hf hs hx
 ·exact C4H ha hs hx
 ·exact C4w hf hs hx
theorem C4c {p:D5} {s:C3} (h0:(A2n p).2.2=0):A7q p s=0↔A2l p s∧C2M p s:=by
 unfold A7q
 rw[dT h0,cT,← A9Y,← C4Q,← Bool.and_eq_true]
 cases A7a p s&&A9O p s<;>simp
theorem C2O {b:Bool} {e e':Int} {x:Except Int C3} (h:dm b e x = .error e') (he:b=false→e≠0) (hx:x = .error e'→e'≠0):e'≠0:=by
 cases b with
 | true=>exact hx h
 | false=>injection h with h;rw[← h];exact he rfl
theorem C4a {s:C3} {e':Int} (h:Except.ok (ε:=Int) s = .error e'):e'≠0:=by cases h
theorem C5j {p:D5} {s:C3} {a:D2} {e:Int} (h:B1Q p s a = .error e):e≠0:=by
 unfold B1Q at h
 by_cases ht:a.at_<s.now
 ·rw[if_pos ht]at h;injection h with h;omega
 rw[if_neg ht]at h
 have key:B79 p s a = .error e:=by
  cases hr:B79 p s a with
  | ok x=>rw[hr]at h;cases h
  | error e2=>rw[hr]at h;injection h with h;rw[h]
 have c:∀ {k:Int} {b:Bool},k≠0→b=false→k≠0:=fun hk _=>hk
 unfold B79 at key
 split at key
 ·refine C2O key (c dM) fun key=>C2O key (fun hb=>of_decide_eq_false hb) fun key=>C2O key (fun hb=>of_decide_eq_false hb) fun key=>C2O key (c dM) fun key=>C2O key (c dM) fun key=>C4a key
 split at key
 ·exact C2O key (c dM) fun key=>C2O key (c dM) fun key=>C2O key (c dM) fun key=>C4a key
 split at key
 ·exact C2O key (c dM) fun key=>C2O key (c dM) fun key=>C4a key
 split at key
 ·exact C2O key (c dM) fun key=>C2O key (c dM) fun key=>C2O key (c dM) fun key=>C4a key
 split at key
 ·exact C2O key (c dM) fun key=>C2O key (c dM) fun key=>C2O key (c dM) fun key=>C2O key (c dM) fun key=>C2O key (c dM) fun key=>C2O key (c dM) fun key=>C4a key
 split at key
 ·exact C2O key (c dM) fun key=>C2O key (c dM) fun key=>C4a key
 split at key
 ·exact C2O key (c dM) fun key=>C2O key (c dM) fun key=>C2O key (c dM) fun key=>C4a key
 split at key
 ·exact C2O key (c dM) fun key=>C2O key (c dM) fun key=>C2O key (c dM) fun key=>C4a key
 ·exact C2O key (c dM) fun key=>C4a key
theorem C4T {p:D5} {s:C3} {a:D2} (h0:(A2n p).2.2=0) (h:(DoP p s a).2=0):A7q p (DoP p s a).1=0:=by
 have ho:=A60 h0
 unfold DoP at h ⊢
 by_cases h1:A7q p s=0
 ·rw[dT h1,cT]at h ⊢
  by_cases h2:B25 p a=0
  ·rw[dT h2,cT]at h ⊢
   obtain⟨hf,hs⟩:=(C4c h0).1 h1
   cases hd:B1Q p s a with
   | ok s'=>exact(C4c h0).2 ⟨(B3A hf (B84 h2) hd).1,C4M ho hf (B84 h2) hs hd⟩
   | error e =>
    rw[hd]at h
    exact absurd h (C5j hd)
  ·rw[dF h2,cF]at h;exact absurd h h2
 ·rw[dF h1,cF]at h;exact absurd h h1
def C4m (p:D4) (s:H2):Prop:=A7q (A1w p) (B1c s)=0
theorem C4F {p:D4} {s s':H2} {a:D2} (h0:(A2n (A1w p)).2.2=0) (h:A8L p s a = .ok s'):C4m p s':=by
 unfold A8L at h
 by_cases h1:(DoP (A1w p) (B1c s) a).2=0
 ·rw[dT h1,cT]at h
  injection h with h
  subst h
  exact C4T h0 h1
 ·rw[dF h1,cF]at h;cases h
theorem C5n {F:Nat} (hF:100<F):C21 F []=some []:=by
 obtain⟨m,rfl⟩:∃ m,F=m+1:=⟨F-1,by omega⟩
 have h1:C1X (m+1) [] 0 0=some []:=by
  rw[C1X,C1D,if_neg dM]
 have h2:C2v (m+1) [] 0=some []:=by
  rw[C2v,C2c,if_neg dM,h1]
  show C1F (m+1) 0 _ (m+1) 20=_
  rw[C1F,if_neg dM]
 rw[C21]
 show(C3u (C2v (m+1) [] 0) []).bind _=_
 rw[h2]
 rfl
theorem C49 {F:Nat} {p:D5} {s:C3} {x a:Int} {z:F6} (hq:p.squibs.length≤100) (hl:s.squibs.length=p.squibs.length) (hn:∀ j,j<p.squibs.length→A5r z (p.squibs.getD j default)=true→s.squibs.getD j 0≠1) {K:Int→List A8I→Option (List A8I × Int)}:∀ (n k:Nat) (lv:List A8I),p.squibs.length<n+k→k≤p.squibs.length→C2Q F s x (a,p) z K n k lv=K p.squibs.length lv
 | 0,k,lv,h,h2=>absurd h oM
 | n+1,k,lv,h,h2=>by
  rw[C2Q]
  by_cases hk:k<p.squibs.length
  ·have hk2:k<s.squibs.length:=by omega
   rw[if_pos (by dsimp only;omega),show P3 (a,p).2.squibs (k:Int)=some p.squibs[k]from H3 hk,oS,H3 hk2,oS,S0 oM,C49 hq hl hn n (k+1) lv oM oM]
   have hn:=hn k hk
   rw[J6 _ hk,J6 _ hk2]at hn
   by_cases h1:s.squibs[k]=1
   ·have hnn:A5r z p.squibs[k]=false:=by
     cases hh:A5r z p.squibs[k]with
     | true=>exact absurd h1 (hn hh)
     | false=>rfl
    have hnn:=of_decide_eq_false hnn
    exact if_neg hnn
   ·rw[if_neg h1,ite_self]
  ·obtain rfl:k=p.squibs.length:=by omega
   rw[if_neg (by dsimp only;omega)]
theorem C4l {F:Nat} {p:D5} {s:C3} (h:A5x F p) (ho:A6x p) (hf:A2l p s) (hs:C2M p s) {K:List A8I→Int→Option (List A8I × Int)}:∀ (n k:Nat),s.zones.length<n+k→k≤s.zones.length→C3d F p s K n [] k=K [] s.zones.length
 | 0,k,h1,h2=>absurd h1 oM
 | n+1,k,h1,h2=>by
  have h8:=ho.p8;have hlz:=hf.lz;have hq6:=ho.q6;have hF:=h.f
  rw[C3d]
  by_cases hk:k<s.zones.length
  ·rw[if_pos oM,H3 hk,oS,A30,oS,S0 oM,C4l h ho hf hs n (k+1) oM oM]
   by_cases h0:s.zones[k]<0
   ·rw[if_pos h0]
   ·rw[if_neg h0]
    have hz:=hf.z s.zones[k] (List.getElem_mem hk)
    obtain⟨j,hj⟩:∃ j:Nat,s.zones[k]=j:=⟨s.zones[k].toNat,by omega⟩
    have hjl:j<p.zones.length:=by omega
    rw[show((s.zones[k],p):Int × D5).1=(j:Int)from hj,show P3 ((s.zones[k],p):Int × D5).2.zones (j:Int)=some p.zones[j]from H3 hjl,oS]
    refine(C49 (F:=F) (x:=(k:Int)) (a:=s.zones[k]) oM hf.lq (fun i hi hnear h1=>?_) F 0 [] oM oM).trans (C4l h ho hf hs n (k+1) oM oM)
    have hp:=hs.pr k hk
    unfold A9o A6n at hp
    rw[J6 _ hk,hj,Bool.and_eq_true,Bool.or_eq_true,C4i]at hp
    rcases hp.2 with hp | hp
    ·have:=of_decide_eq_true hp;omega
    ·have:=C3N.1 (hp i hi)
     rw[tN,J6 _ hjl]at this
     rcases this with(h5 | h5) | h5
     ·omega
     ·rw[hnear]at h5;cases h5
     ·have h6:=(C2K.1 (hs.q i (by have:=hf.lq;omega)) h1).1
      unfold B4R at h5
      obtain⟨e,he,h7⟩:=List.any_eq_true.1 h5
      have h7:s.holder.getD e.toNat (-1)=(k:Int):=of_decide_eq_true h7
      have h8:=C3R.1 h6 e he
      unfold B3H at h8
      have:=of_decide_eq_false h8
      omega
  ·obtain rfl:k=s.zones.length:=by omega
   rw[if_neg oM]
theorem C4K {F:Nat} {p:D5} {s:C3} (h:A5x F p) (hs:StF F s) (h1:A7q p s=0) (h0:(A2n p).2.2=0):C33 F p s=some ([],0):=by
 obtain⟨hf,hsn⟩:=(C4c h0).1 h1
 have ho:=A60 h0
 have hF:=h.f;have h8:=ho.p8;have hlz:=hf.lz
 rw[C33,A7e h,oS,if_pos h0,A9l hs,oS]
 show((A1o F (scn p s)).bind _)=_
 rw[B1F h hs,oS,A9Y.2 hf,if_pos rfl]
 refine(C4l h ho hf hsn F 0 oM oM).trans ?_
 rw[C5n hF]
 rfl
theorem C48 {p:D4} {t:Int} (h0:(A2n (A1w p)).2.2=0):∀ {l:List D2} {s s':H2},A8v p t l s = .ok s'→C4m p s→C4m p s'
 | [],s,s',h,hs=>by injection h with h;subst h;exact hs
 | a::l,s,s',h,hs=>by
  change (match A8L p s {a with at_:=t}with | .ok s'=>A8v p t l s' | .error e => .error e)=_ at h
  cases ha:A8L p s {a with at_:=t}with
  | error w=>rw[ha]at h;cases h
  | ok s2=>rw[ha]at h;exact C48 h0 h (C4F h0 ha)
theorem C5k {p:D4} {s s':H2} {e:C7} (ho:A5Y p) (hs:C4m p s) (h:B3L p s e = .ok s'):C4m p s':=by
 unfold B3L at h
 split at h
 ·obtain⟨_,_,_,_,_,rfl⟩:=B7p h
  exact hs
 split at h
 ·obtain⟨_,_,_,_,_,s2,h6,rfl⟩:=B9G h
  have:=C48 ho.c h6 hs
  exact this
 split at h
 ·unfold B5G at h
  cases hb:s.held != decide (e.kind=3)with
  | true=>rw[hb]at h;injection h with h;subst h;exact hs
  | false=>rw[hb]at h;cases h
 split at h
 ·unfold B9m at h
  cases hb:s.go.getD e.what.toNat false != decide (e.kind=5)with
  | true=>rw[hb]at h;injection h with h;subst h;exact hs
  | false=>rw[hb]at h;cases h
 split at h
 ·obtain⟨_,rfl⟩:=C1W h
  exact hs
 split at h
 ·exact C4F ho.c h
 ·unfold B0v at h
  cases hb:!s.on_.getD e.what.toNat false with
  | true=>rw[hb]at h;injection h with h;subst h;exact hs
  | false=>rw[hb]at h;cases h
theorem C53 {p:D4} {s s':H2} {e:C7} (ho:A5Y p) (hs:C4m p s) (h:doC p s e = .ok s'):C4m p s':=by
 obtain⟨_,_,h3⟩:=C0w h
 exact C5k ho (s:=B4e p s e.at_) hs h3
theorem C4Y {p:D4} (ho:A5Y p):C4m p (A0U p):=by
 have h0:=ho.c
 have hpo:=A60 h0
 have hst:(A4C (A1w p)).1=⟨0,List.replicate (A1w p).people.length (-1),List.replicate (A1w p).keys.length (-1),List.replicate (A1w p).squibs.length 0,-1,false⟩:=by
  unfold A4C
  rw[if_pos h0]
 have e1:B1c (A0U p)=(A4C (A1w p)).1:=rfl
 unfold C4m
 rw[e1,hst,C4c h0]
 have hr:∀ {a:Int} {n k:Nat},k<n→(List.replicate n a).getD k 0=a:=fun h=>A5J _ _ _ _ h
 refine⟨⟨⟨by show(0:Int)≤0;decide,by show(0:Int)≤100000;decide⟩,⟨by show(-1:Int) ≤ -1;decide,by show(-1:Int)≤0;decide⟩,List.length_replicate,List.length_replicate,List.length_replicate,fun x hx=>?_,fun x hx=>?_,fun x hx=>?_⟩,fun k hk=>?_,fun k hk=>?_,fun k hk=>C2K.2 fun h1=>?_⟩
 ·rw[(List.mem_replicate.1 hx).2];omega
 ·rw[(List.mem_replicate.1 hx).2];omega
 ·rw[(List.mem_replicate.1 hx).2];omega
 ·have hc:∀ z:Nat,A6W ⟨0,List.replicate (A1w p).people.length (-1),List.replicate (A1w p).keys.length (-1),List.replicate (A1w p).squibs.length 0,-1,false⟩ z=0:=fun z=>by
   unfold A6W
   rw[List.countP_eq_zero]
   intro x hx
   rw[(List.mem_replicate.1 hx).2,decide_eq_true_iff]
   omega
  have hm:(A1w p).zones.getD k default∈(A1w p).zones:=by rw[J6 _ hk];exact List.getElem_mem hk
  have hb:=hpo.z _ hm
  unfold B05 at hb
  simp only[Bool.or_eq_false_iff]at hb
  have:1≤((A1w p).zones.getD k default).room∧((A1w p).zones.getD k default).room≤8:=O6.1 hb.2
  unfold B4E A3X
  rw[hc,dF oM]
  simp
 ·have hk:k<(List.replicate (A1w p).people.length (-1:Int)).length:=hk
  rw[List.length_replicate]at hk
  unfold A9o A6n
  rw[show(List.replicate (A1w p).people.length (-1:Int)).getD k 0 = -1 from hr hk]
  rfl
 ·have hk:k<(List.replicate (A1w p).squibs.length (0:Int)).length:=hk
  rw[List.length_replicate]at hk
  have h1:(List.replicate (A1w p).squibs.length (0:Int)).getD k 0=1:=h1
  rw[hr hk]at h1
  cases h1
theorem C5u {p:D4} (ho:A5Y p) {l:List C7} (he:∀ e∈l,B18 p e):C4m p (B8z p (A0U p) l):=(C0S ho (C4m p) (fun _ _ _ h _ _ hd=>C53 ho h hd) (C4Y ho) (B1z ho) he).1
def C5r (p:D5) (x:C3 × List Int) (a:D2):C3 × List Int:=(if(C0d (B1Q p x.1 a)).2=0 then(C0d (B1Q p x.1 a)).1 else x.1,x.2++[(C0d (B1Q p x.1 a)).2])
theorem C6f {F:Nat} {p:D5} {x:C3 × List Int} {a:D2} (h:A5X F p x.1 a):A2l p (C5r p x a).1:=by
 unfold C5r
 cases hd:B1Q p x.1 a with
 | ok s'=>exact(B3A h.f h.a hd).1
 | error e =>
  have:=C5j hd
  show A2l p (if e=0 then _ else _)
  rw[if_neg this];exact h.f
def C36 (p:D5):List D2→Int
 | []=>0
 | a::l=>bif decide (B25 p a=0)then C36 p l else B25 p a
theorem C5R {p:D5}:∀ {l:List D2},C36 p l=0→∀ a∈l,B7e p a
 | [],_,a,h=>by cases h
 | b::l,h,a,ha=>by
  unfold C36 at h
  by_cases hb:B25 p b=0
  ·rw[dT hb,cT]at h
   rcases List.mem_cons.1 ha with rfl | ha
   ·exact B84 hb
   ·exact C5R h a ha
  ·rw[dF hb,cF]at h;exact absurd h hb
def C5I (p:D5) (s:C3) (l:List D2):C3 × List Int:=(List.range' 0 l.length).foldl (fun x k=>C5r p x (l.getD k default)) (s,[])
def C5H (p:D5) (s:C3) (l:List D2):C3 × List Int × Int :=
 if A7q p s=0 then(if 60<(l.length:Int)then(A87,[],3)else if C36 p l=0 then((C5I p s l).1,(C5I p s l).2,0)else(A87,[],C36 p l))else(A87,[],A7q p s)
structure PlI (p:D5) (x:C3 × List Int) (k:Nat):Prop where
 f:A2l p x.1
 l:x.2.length=k
theorem PlI.acts {F:Nat} {p:D5} {x:C3 × List Int} {k:Nat} {l:List D2} (h:A5x F p) (ho:A6x p) (hl:C36 p l=0) (hk:k<l.length) (hi:PlI p x k):A5X F p x.1 l[k] :=
 ⟨h,B4Q h ho hi.f,ho,hi.f,C5R hl _ (List.getElem_mem hk)⟩
theorem PlI.step {F:Nat} {p:D5} {x:C3 × List Int} {k:Nat} {l:List D2} (h:A5x F p) (ho:A6x p) (hl:C36 p l=0) (hk:k<l.length) (hi:PlI p x k):PlI p (C5r p x (l.getD k default)) (k+1):=by
 rw[J6 _ hk]
 refine⟨C6f (hi.acts h ho hl hk),?_⟩
 show(x.2++_).length=_
 rw[List.length_append,hi.l];rfl
theorem C6U {l:List Int} {x:Int} (h:l.length≤1000):A8i l [x]=some (l++[x]):=by
 unfold A8i
 rw[if_pos (by simp;omega)]
theorem C5P {F:Nat} {p:D5} {s:C3} {l:List D2} (h:A5x F p) (ho:A6x p) (hf:A2l p s) (hl:C36 p l=0) (h60:l.length≤60) {c:Int→List Int→List Int→List Int→Int→Bool→List Int→Int→Option (C3 × List Int × Int)} :
 C3a F p l c F s.now s.zones s.holder s.squibs s.siren s.storm [] 0=(fun x:C3 × List Int=>c x.1.now x.1.zones x.1.holder x.1.squibs x.1.siren x.1.storm x.2 l.length) (C5I p s l):=by
 have hF:=h.f
 have:=A5I (g:=fun n (x:C3 × List Int) y=>C3a F p l c n x.1.now x.1.zones x.1.holder x.1.squibs x.1.siren x.1.storm x.2 y) (f:=fun x k=>C5r p x (l.getD k default)) (len:=l.length) (c:=fun x:C3 × List Int=>c x.1.now x.1.zones x.1.holder x.1.squibs x.1.siren x.1.storm x.2 l.length) (PlI p) (fun x k hk hi=>hi.step h ho hl hk) (fun n x k hk hi=>by
  have hx:=B6I (hi.acts h ho hl hk)
  have hl2:=hi.l
  rw[C3a,if_pos oM,H3 hk,oS,J6 _ hk]
  show((A9J F p x.1 l[k]).bind _)=_
  rw[hx,oS]
  unfold C5r C4L C5h
  rw[C6U oM,oS,S0 oM]
  by_cases he:(C0d (B1Q p x.1 l[k])).2=0
  ·simp only[if_pos he]
  ·simp only[if_neg he];rfl) (fun n x _=>by rw[C3a,if_neg oM]) F (s,[]) 0 ⟨hf,rfl⟩ oM oM
 rw[z0]at this
 exact this
theorem C5T {F:Nat} {p:D5} {l:List D2} (h:A5x F p) (h60:l.length≤60) {K:Int→Int→Option (C3 × List Int × Int)}:∀ (n k:Nat),l.length<n+k→k≤l.length→C4f F p l K n 0 k=bif decide (C36 p (l.drop k)=0)then K 0 l.length else some (A87,[],C36 p (l.drop k))
 | 0,k,h1,h2=>absurd h1 oM
 | n+1,k,h1,h2=>by
  rw[C4f]
  by_cases hk:k<l.length
  ·rw[if_pos oM,H3 hk,oS,B5l h,oS,lD hk]
   unfold C36
   by_cases he:B25 p l[k]=0
   ·rw[if_pos he,dT he,cT,he,S0 oM,C5T h h60 n (k+1) oM oM]
   ·simp only[if_neg he,dF he,cF];rfl
  ·obtain rfl:k=l.length:=by omega
   rw[if_neg oM,List.drop_length];rfl
theorem C6d {F:Nat} {p:D5} {s:C3} {l:List D2} (h:A5x F p) (hs:StF F s):C5d F p s l=some (C5H p s l):=by
 have hF:=h.f
 rw[C5d,A9h h hs,oS]
 unfold C5H
 by_cases h1:A7q p s=0
 ·rw[if_pos h1,if_pos h1]
  by_cases h60:60<(l.length:Int)
  ·rw[if_pos h60,if_pos h60];rfl
  rw[if_neg h60,if_neg h60,h1]
  have:=C5T (l:=l) (K:=fun(x:Int) (x2:Int)=>(A56 F p s).bind fun rv3=>B2S rv3 (none) (fun t2=>C3a F p l (fun(y:Int) (y2:List Int) (y3:List Int) (y4:List Int) (y5:Int) (y6:Bool) (lv:List Int) (x3:Int)=>some ((C3.mk y y2 y3 y4 y5 y6),lv,0)) F t2.N7 t2.A9 t2.A8 t2.A4 t2.I3 t2.I1 ([]:List Int) 0)) h oM F 0 oM oM
  rw[z0]at this
  refine this.trans ?_
  rw[List.drop_zero]
  by_cases h2:C36 p l=0
  ·rw[dT h2,cT,if_pos h2,A9l hs,oS]
   have hok:=B6Q h1
   exact C5P h hok.o hok.f h2 oM
  ·rw[dF h2,if_neg h2];rfl
 ·rw[if_neg h1,if_neg h1];rfl
theorem C3T {b:Bool} {e e':Int} {x:Except Int C3} (h:dm b e x = .error e') (he:b=false→170≤e) (hx:x = .error e'→170≤e'):170≤e':=by
 cases b with
 | true=>exact hx h
 | false=>injection h with h;rw[← h];exact he rfl
theorem C54 {s:C3} {e':Int} (h:Except.ok (ε:=Int) s = .error e'):170≤e':=by cases h
theorem C6b {p:D5} {s:C3} {i z:Int} (h:A1q p s i z≠0):170≤A1q p s i z:=by
 revert h
 unfold A1q
 cases decide (z<0)with
 | true=>exact fun h=>absurd rfl h
 | false =>
  cases decide ((p.people.getD i.toNat default).grade<(p.zones.getD z.toNat default).grade)with
  | true=>intro _;show(170:Int)≤172;decide
  | false =>
   cases s.storm&&B03 p s (p.zones.getD z.toNat default)with
   | true=>intro _;show(170:Int)≤173;decide
   | false =>
    cases A6n p s i z with
    | true=>exact fun h=>absurd rfl h
    | false=>intro _;show(170:Int)≤174;decide
theorem C62 {p:D5} {s:C3} {a:D2} {e:Int} (h:B1Q p s a = .error e):170≤e:=by
 unfold B1Q at h
 by_cases ht:a.at_<s.now
 ·rw[if_pos ht]at h;injection h with h;omega
 rw[if_neg ht]at h
 have key:B79 p s a = .error e:=by
  cases hr:B79 p s a with
  | ok x=>rw[hr]at h;cases h
  | error e2=>rw[hr]at h;injection h with h;rw[h]
 have c:∀ {k:Int} {b:Bool},170≤k→b=false→170≤k:=fun hk _=>hk
 have c2:c2E p s a≠0→170≤c2E p s a:=fun h=>by
  unfold c2E at h ⊢
  cases hd:decide (0≤a.with_)with
  | true=>rw[hd,cT]at h;rw[cT];exact C6b h
  | false=>rw[hd]at h;exact absurd rfl h
 unfold B79 at key
 split at key
 ·exact C3T key (c dM) fun key=>C3T key (fun hb=>C6b (of_decide_eq_false hb)) fun key=>C3T key (fun hb=>c2 (of_decide_eq_false hb)) fun key=>C3T key (c dM) fun key=>C3T key (c dM) fun key=>C54 key
 split at key
 ·exact C3T key (c dM) fun key=>C3T key (c dM) fun key=>C3T key (c dM) fun key=>C54 key
 split at key
 ·exact C3T key (c dM) fun key=>C3T key (c dM) fun key=>C54 key
 split at key
 ·exact C3T key (c dM) fun key=>C3T key (c dM) fun key=>C3T key (c dM) fun key=>C54 key
 split at key
 ·exact C3T key (c dM) fun key=>C3T key (c dM) fun key=>C3T key (c dM) fun key=>C3T key (c dM) fun key=>C3T key (c dM) fun key=>C3T key (c dM) fun key=>C54 key
 split at key
 ·exact C3T key (c dM) fun key=>C3T key (c dM) fun key=>C54 key
 split at key
 ·exact C3T key (c dM) fun key=>C3T key (c dM) fun key=>C3T key (c dM) fun key=>C54 key
 split at key
 ·exact C3T key (c dM) fun key=>C3T key (c dM) fun key=>C3T key (c dM) fun key=>C54 key
 ·exact C3T key (c dM) fun key=>C54 key
theorem C68 {p:D5} {a:D2}:B25 p a<170:=by
 have h1:B49 p a<170:=by
  unfold B49
  repeat' (first | split | (simp only[Bool.cond_eq_ite];split) | decide)
 have h2:B8s p a<170:=by
  unfold B8s
  repeat' (first | split | (simp only[Bool.cond_eq_ite];split) | decide)
 unfold B25
 simp only[Bool.cond_eq_ite]
 repeat' (first | split | decide | assumption)
theorem C6l {p:D4} (ho:A5Y p) (a:D2):A9U (A1w p) a=B25 (A1w p) a:=by
 have hs:A7q (A1w p) (A4C (A1w p)).1=0:=C4Y ho
 have hl:=C68 (p:=A1w p) (a:=a)
 unfold A9U DoP
 rw[dT hs,cT]
 by_cases h0:B25 (A1w p) a=0
 ·rw[dT h0,cT]
  cases hd:B1Q (A1w p) (A4C (A1w p)).1 a with
  | ok s=>show(bif decide ((0:Int)<170)then(0:Int)else 0)=_;rw[h0];rfl
  | error e =>
   have:=C62 hd
   show(bif decide (e<170)then e else 0)=_
   rw[dF oM,h0]
   rfl
 ·rw[dF h0,cF]
  show(bif decide (B25 (A1w p) a<170)then B25 (A1w p) a else 0)=_
  rw[dT hl]
  rfl
def C4e (a:D2):C7:=C7.mk a.at_ 8 0 a.at_ a.kind a.who a.what a.with_
theorem C6o {p:D4} (ho:A5Y p) (a:D2):A5H p (C4e a)=B25 (A1w p) a:=by
 unfold A5H
 show(bif N9 a.at_ 0 100000 then(7:Int)else bif false then 2 else bif false then 4 else bif B0C (C4e a)then 2 else bif true then A9U (A1w p) a else 0)=_
 have hb:B0C (C4e a)=false:=by
  show(!decide (a.at_=a.at_))=false
  rw[dT rfl];rfl
 rw[hb,C6l ho]
 cases ha:N9 a.at_ 0 100000 with
 | true=>unfold B25;rw[ha];rfl
 | false=>rfl
theorem C6c {p:D4} (ho:A5Y p):∀ l:List D2,A8k p (l.map C4e)=C36 (A1w p) l
 | []=>rfl
 | a::l=>by
  show(bif decide (A5H p (C4e a)=0)then A8k p (l.map C4e)else A5H p (C4e a))=(bif decide (B25 (A1w p) a=0)then C36 (A1w p) l else B25 (A1w p) a)
  rw[C6o ho,C6c ho l]
structure C6m (p:D4) (s:H2):Prop where
 e:s.ended=List.replicate p.steps.length (-1)
 snd:C4m p s
theorem C6p {p:D4} {s:H2} (ho:A5Y p) (h:C6m p s):A6e s (p.steps.length-1)=false:=by
 have t1:=ho.t1
 unfold A6e
 rw[h.e,show(List.replicate p.steps.length (-1:Int)).getD (p.steps.length-1) 0 = -1 from A5J _ _ _ _ oM]
 rfl
def C6H:Int→List D2→Prop
 | _,[]=>True
 | t,a::l=>t≤a.at_∧C6H a.at_ l
theorem C6r {p:D4} {s:H2} {w:List Int} {a:D2} (ho:A5Y p) (hi:C6m p s) (ha:B25 (A1w p) a=0) (ht:s.now≤a.at_) :
 C6m p (A7y p (s,w) (C4e a)).1∧(A7y p (s,w) (C4e a)).1.now≤a.at_∧(B1c (A7y p (s,w) (C4e a)).1,(A7y p (s,w) (C4e a)).2)=C5r (A1w p) (B1c s,w) a:=by
 have hd:doC p s (C4e a)=A8L p (B4e p s a.at_) a:=by
  unfold doC
  rw[show decide (s.now≤(C4e a).at_)=true from dT ht,C6p ho hi]
  rfl
 have hD:DoP (A1w p) (B1c s) a=C0d (B1Q (A1w p) (B1c s) a):=by
  unfold DoP
  rw[dT (show A7q (A1w p) (B1c s)=0 from hi.snd),dT ha,cT,cT]
 unfold A7y
 rw[show doC p (s,w).1 (C4e a)=A8L p (B4e p s a.at_) a from hd]
 have hA:A8L p (B4e p s a.at_) a=bif decide ((DoP (A1w p) (B1c s) a).2=0)then .ok (B3q (B4e p s a.at_) (DoP (A1w p) (B1c s) a).1)else .error (DoP (A1w p) (B1c s) a).2:=rfl
 rw[hD]at hA
 unfold C5r
 by_cases h0:(C0d (B1Q (A1w p) (B1c s) a)).2=0
 ·rw[dT h0,cT]at hA
  have hsn:=C4F ho.c hA
  rw[hA,if_pos h0,h0]
  exact⟨⟨hi.e,hsn⟩,Int.le_refl _,rfl⟩
 ·rw[dF h0,cF]at hA
  rw[hA,if_neg h0]
  exact⟨hi,ht,rfl⟩
theorem C6e {p:D4} (ho:A5Y p):∀ (l:List D2) (s:H2) (w:List Int) (t:Int),C6m p s→s.now≤t→C6H t l→C36 (A1w p) l=0 →
  (B1c (A3F p (s,w) (l.map C4e)).1,(A3F p (s,w) (l.map C4e)).2)=l.foldl (C5r (A1w p)) (B1c s,w)
 | [],s,w,t,_,_,_,_=>rfl
 | a::l,s,w,t,hi,hn,hasc,hf=>by
  obtain⟨h1,h2⟩:=hasc
  unfold C36 at hf
  by_cases ha:B25 (A1w p) a=0
  ·rw[dT ha,cT]at hf
   obtain⟨k1,k2,k3⟩:=C6r (w:=w) ho hi ha oM
   have:=C6e ho l (A7y p (s,w) (C4e a)).1 (A7y p (s,w) (C4e a)).2 a.at_ k1 k2 h2 hf
   show(B1c (A3F p (A7y p (s,w) (C4e a)) (l.map C4e)).1,(A3F p (A7y p (s,w) (C4e a)) (l.map C4e)).2)=l.foldl (C5r (A1w p)) (C5r (A1w p) (B1c s,w) a)
   rw[← k3]
   exact this
  ·rw[dF ha,cF]at hf;exact absurd hf ha
theorem C6q (p:D5) (s:C3) (l:List D2):C5I p s l=l.foldl (C5r p) (s,[]):=by
 unfold C5I
 exact B3C l default (C5r p) (s,[])
theorem C5D {F:Nat} {o:List D2} (hl:o.length≤60) (ha:A7X 100=some true) {K:List C7→Int→Int→Option Bool}:∀ (n k:Nat) (x:Int),o.length<n+k→k≤o.length→(C6H x (o.drop k)→∀ x',K (o.map C4e) x' o.length=some true)→C3s F o K n ((o.take k).map C4e) x k=some true
 | 0,k,x,h,h2,_=>absurd h oM
 | n+1,k,x,h,h2,hK=>by
  rw[C3s]
  by_cases hk:k<o.length
  ·rw[if_pos oM,H3 hk,oS,ha]
   by_cases hx:o[k].at_<x
   ·rw[if_pos hx];rfl
   ·have e1:A8i ((o.take k).map C4e) [C4e o[k]]=some ((o.take (k+1)).map C4e):=by
     unfold A8i
     rw[if_pos (by simp;omega),List.take_succ_eq_append_getElem hk,List.map_append]
     rfl
    rw[if_neg hx,S0 oM]
    refine Eq.trans (congrArg (fun z=>Option.bind z _) e1) ?_
    rw[oS]
    refine C5D hl ha n (k+1) o[k].at_ oM oM fun h3=>hK ?_
    rw[lD hk]
    exact⟨by omega,h3⟩
  ·obtain rfl:k=o.length:=by omega
   rw[if_neg oM,List.take_length]
   exact hK (by rw[List.drop_length];exact trivial) x
theorem C6j {F:Nat} {p:D4} (hf:CtF F p) (o:List D2) (ha:A7X 100=some true):C4x F p o=some true:=by
 have hF:=hf.pd.f
 rw[C4x,show A44 F (D5.mk p.N4 p.P5 p.N6 p.S5 p.J3 p.Q7 p.T9)=some (A4C (A1w p))from B2f hf.pd,oS,B7s hf,oS,ha]
 by_cases h0:(A35 p).2.2=0
 ·have ho:=A95 h0
  have hst:A7q (A1w p) (A4C (A1w p)).1=0:=C4Y ho
  have hs2:(A4C (A1w p)).2=0:=by unfold A4C;rw[if_pos ho.c]
  rw[if_pos h0,if_pos hs2]
  by_cases h60:60<(o.length:Int)
  ·rw[if_pos h60];rfl
  rw[if_neg h60,C4p]
  refine C5D (o:=o) oM ha F 0 0 oM oM fun hasc x'=>?_
  rw[List.drop_zero]at hasc
  show(A36 F p (o.map C4e)).bind _=_
  rw[B56 hf,oS,show C5d F (D5.mk p.N4 p.P5 p.N6 p.S5 p.J3 p.Q7 p.T9) (A4C (A1w p)).1 o=some (C5H (A1w p) (A4C (A1w p)).1 o)from C6d hf.pd (B42 hF),oS,ha]
  have hc:=C6c ho o
  by_cases h1:C36 (A1w p) o=0
  ·rw[h1]at hc
   have hp:A0O p (o.map C4e)=(some (A3F p (A0U p,[]) (o.map C4e)).1,(A3F p (A0U p,[]) (o.map C4e)).2,0):=by
    unfold A0O
    rw[if_pos h0,if_neg (by rw[List.length_map];omega),if_pos hc]
   have hP:C5H (A1w p) (A4C (A1w p)).1 o=((C5I (A1w p) (A4C (A1w p)).1 o).1,(C5I (A1w p) (A4C (A1w p)).1 o).2,0):=by
    unfold C5H
    rw[if_pos hst,if_neg h60,if_pos h1]
   have hsame:=C6e ho o (A0U p) [] 0 ⟨rfl,C4Y ho⟩ (Int.le_refl _) hasc h1
   rw[show B1c (A0U p)=(A4C (A1w p)).1 from rfl,← C6q]at hsame
   obtain⟨s,hs⟩:∃ s,(A3F p (A0U p,[]) (o.map C4e)).1=s:=⟨_,rfl⟩
   obtain⟨w,hw⟩:∃ w,(A3F p (A0U p,[]) (o.map C4e)).2=w:=⟨_,rfl⟩
   have hev:∀ e∈o.map C4e,B18 p e:=B2F hc
   have hcf:=B3i ho (x:=(A0U p,[])) (B1z ho) hev
   rw[hs,hw]at hcf hsame hp
   have hwl:w.length≤100:=by have:=hcf.2;rw[List.length_map]at this;simp at this;omega
   have hps:(A0O p (o.map C4e)).1=some s:=by rw[hp]
   obtain⟨hsr,_⟩:=C1l hps
   have hsn:C4m p s:=by rw[hsr];exact C5u ho hev
   have hD:=C4K hf.pd (hcf.1.pd F hf.pd) hsn ho.c
   rw[hp,hP,← hsame]
   show(if(0:Int)=0 then(if(0:Int)=0 then C3U F p (s,w,0) (B1c s,w,0)else _)else _)=_
   rw[if_pos rfl,if_pos rfl,C3U]
   show(A66 F w w).bind _=_
   rw[B6z hF hwl,oS,if_pos rfl]
   show(C33 F (A1w p) (B1c s)).bind (fun rv12=>(C33 F (A1w p) (B1c s)).bind _)=_
   rw[hD,oS,oS,if_pos rfl,if_pos rfl]
   show(if s.A9j=s.A9j then _ else _)=_
   rw[if_pos rfl,ha]
   rfl
  ·have hp:A0O p (o.map C4e)=(none,[],C36 (A1w p) o):=by
    unfold A0O
    rw[if_pos h0,if_neg (by rw[List.length_map];omega),hc,if_neg h1]
   have hP:C5H (A1w p) (A4C (A1w p)).1 o=(A87,[],C36 (A1w p) o):=by
    unfold C5H
    rw[if_pos hst,if_neg h60,if_neg h1]
   rw[hp,hP]
   show(if C36 (A1w p) o=0 then _ else(if C36 (A1w p) o=C36 (A1w p) o then _ else _))=_
   rw[if_neg h1,if_pos rfl]
   rfl
 ·rw[if_neg h0];rfl
end Go.Proofs.YtlaogbbcipebgaaGreat
