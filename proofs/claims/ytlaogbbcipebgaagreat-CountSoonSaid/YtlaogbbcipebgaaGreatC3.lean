/- A countdown in plain words: events, the desk at first, time that passes. -/
import Derived.Test.YtlaogbbcipebgaaGreatQ1
set_option linter.unusedVariables false
set_option linter.unusedSimpArgs false
open Go Go.Proofs.YtlaogbbcipebgaaGreat.Sh Go.Proofs
namespace Go.Proofs.YtlaogbbcipebgaaGreat
abbrev A8M (x:C7):D2:=D2.mk x.A04 x.A0D x.A1L x.A0E x.A0F
def A20 (p:D4) (k:Int):Int:=bif decide (k=1)||decide (k=2)then p.steps.length else bif decide (k=5)||decide (k=6)then p.stations.length else bif decide (k=7)then p.points.length else p.batteries.length
def A3r (k:Int):Bool:=decide (k=3)||decide (k=4)||decide (k=8)
def B0C (x:C7):Bool:=bif decide (x.kind=8)then !decide (x.A04=x.at_)else !D2.beq (A8M x) (D2.mk 0 0 0 0 0)
def A5H (p:D4) (x:C7):Int :=
 bif N9 x.at_ 0 100000 then 7 else bif N9 x.kind 1 9 then 2 else
 bif !A3r x.kind&&N9 x.what 0 (A20 p x.kind-1)then 4 else
 bif (A3r x.kind && !decide (x.what=0))||B0C x then 2 else
 bif decide (x.kind=8)then A9U (A1w p) (A8M x)else 0
theorem C00 {p:D4} {k:Int} (h:1≤k∧k≤9):(A2e (M0 (M0 (M0 (M0 (M0 (M0 ([]:List (Int × Int)) 1 (p.steps.length:Int)) 2 (p.steps.length:Int)) 5 (p.stations.length:Int)) 6 (p.stations.length:Int)) 7 (p.points.length:Int)) 9 (p.batteries.length:Int)) k).isSome=!A3r k ∧
  (A3r k=false→(A2e (M0 (M0 (M0 (M0 (M0 (M0 ([]:List (Int × Int)) 1 (p.steps.length:Int)) 2 (p.steps.length:Int)) 5 (p.stations.length:Int)) 6 (p.stations.length:Int)) 7 (p.points.length:Int)) 9 (p.batteries.length:Int)) k).getD 0=A20 p k):=by
 have h9:k=1∨k=2∨k=3∨k=4∨k=5∨k=6∨k=7∨k=8∨k=9:=by omega
 rcases h9 with rfl | rfl | rfl | rfl | rfl | rfl | rfl | rfl | rfl<;>first | exact⟨rfl,fun _=>rfl⟩ | exact⟨rfl,fun h=>absurd h dM⟩
theorem B71 {F:Nat} {p:D4} (h:CtF F p) (ho:A5Y p) (x:C7):A3I F p x=some (A5H p x):=by
 have hl:0≤A20 p x.kind∧A20 p x.kind<9223372036854775808:=by
  have:=h.lp;have:=ho.t16;have:=ho.s8;have:=ho.b6
  unfold A20
  cases decide (x.kind=1)||decide (x.kind=2)<;>cases decide (x.kind=5)||decide (x.kind=6)<;>cases decide (x.kind=7)<;>simp only[cT,cF]<;>omega
 rw[A3I,X2,oS,X2,oS]
 unfold A5H
 cases h1:N9 x.at_ 0 100000 with
 | true=>rw[if_pos rfl,cT]
 | false =>
  cases h2:N9 x.kind 1 9 with
  | true=>rw[if_neg sM,if_pos rfl,cF,cT]
  | false =>
   obtain⟨m1,m2⟩:=C00 (p:=p) (O6.1 h2)
   rw[if_neg sM,if_neg sM,cF,cF,m1,A1t,A1u,A1v,B4C h.pd,oS,X2,oS]
   cases hn:A3r x.kind with
   | false =>
    rw[m2 hn,A8K oM oM,if_pos sM]
    unfold B0C
    by_cases h8:x.kind=8
    ·rw[h8]at hn;cases hn
    ·simp only[if_neg h8,dF h8,cF,Bool.not_false,Bool.true_and,Bool.false_and,Bool.false_or]
     cases N9 x.what 0 (A20 p x.kind-1)<;>cases D2.beq (A8M x) (D2.mk 0 0 0 0 0)<;>rfl
   | true =>
    rw[if_neg sM]
    unfold B0C
    by_cases h8:x.kind=8
    ·simp only[if_pos h8,dT h8,cT,Bool.not_true,Bool.false_and,Bool.true_and,cF,A4e]
     cases decide (x.what=0)<;>cases decide (x.A04=x.at_)<;>rfl
    ·simp only[if_neg h8,dF h8,cF,Bool.not_true,Bool.false_and,Bool.true_and,A4e]
     cases decide (x.what=0)<;>cases D2.beq (A8M x) (D2.mk 0 0 0 0 0)<;>rfl
structure B18 (p:D4) (x:C7):Prop where
 t:0≤x.at_∧x.at_≤100000
 k:1≤x.kind∧x.kind≤9
 w:A3r x.kind=false→0≤x.what∧x.what<A20 p x.kind
 a:x.kind=8→x.A04=x.at_∧A9U (A1w p) (A8M x)=0
theorem B60 {p:D4} {x:C7} (h:A5H p x=0):B18 p x:=by
 unfold A5H at h
 cases h1:N9 x.at_ 0 100000 with
 | true=>rw[h1]at h;cases h
 | false =>
  cases h2:N9 x.kind 1 9 with
  | true=>rw[h1,h2]at h;cases h
  | false =>
   rw[h1,h2]at h
   simp only[cF]at h
   cases h3:!A3r x.kind&&N9 x.what 0 (A20 p x.kind-1)with
   | true=>rw[h3]at h;cases h
   | false =>
    cases h4:(A3r x.kind && !decide (x.what=0))||B0C x with
    | true=>rw[h3,h4]at h;cases h
    | false =>
     rw[h3,h4]at h
     simp only[cF]at h
     refine⟨O6.1 h1,O6.1 h2,fun hn=>?_,fun h8=>?_⟩
     ·rw[hn]at h3
      have:=O6.1 (show N9 x.what 0 (A20 p x.kind-1)=false from h3)
      omega
     ·rw[dT h8,cT]at h
      refine⟨?_,h⟩
      rw[Bool.or_eq_false_iff]at h4
      have:=h4.2
      unfold B0C at this
      rw[dT h8,cT]at this
      simpa using this
abbrev dsk (p:D4) (s:H2):F7:=F7.mk p.N4 p.P5 p.N6 p.S5 p.J3 p.Q7 p.T9 p.stations p.batteries p.steps p.points p.Q8 p.O8 s.now s.A9j s.N4 s.A5M s.J3 s.A68 s.A69 s.begun s.ended s.held s.go s.left s.on_
abbrev B1c (s:H2):C3:=C3.mk s.A9j s.N4 s.A5M s.J3 s.A68 s.A69
abbrev B3q (s:H2) (d:C3):H2:={s with A9j:=d.now,N4:=d.zones,A5M:=d.holder,J3:=d.squibs,A68:=d.siren,A69:=d.storm}
def B9C:H2:=H2.mk 0 0 [] [] [] 0 false [] [] false [] [] []
def A0U (p:D4):H2:=B3q ⟨0,0,[],[],[],0,false,List.replicate p.steps.length (-1),List.replicate p.steps.length (-1),false,List.replicate p.stations.length false,p.batteries.map (·.charge),List.replicate p.batteries.length false⟩ (A4C (A1w p)).1
theorem B34 {F:Nat} {p:D4} (hb:p.batteries.length≤6) {K:List Int→Option ((Option F7) × Int)}:∀ (n k:Nat),p.batteries.length<n+k→k≤p.batteries.length→A1r F p (fun lv _=>K lv) n ((p.batteries.take k).map (·.charge)) k=K (p.batteries.map (·.charge))
 | 0,k,h,h2=>absurd h oM
 | n+1,k,h,h2=>by
  rw[A1r]
  by_cases hk:k<p.batteries.length
  ·rw[if_pos oM,H3 hk,oS,A8O (by rw[List.length_map,List.length_take];omega),oS,S0 oM,B6V (fun b:D9=>b.charge) hk,B34 hb n (k+1) oM oM]
  ·rw[if_neg oM,List.take_of_length_le oM]
theorem B7o {F:Nat} {p:D4} (h:CtF F p):A4Q F p=some (if(A35 p).2.2=0 then(some (dsk p (A0U p)),0)else(none,(A35 p).2.2)):=by
 have hF:=h.pd.f
 rw[A4Q,B7s h,oS]
 by_cases h0:(A35 p).2.2=0
 ·have ho:=A95 h0
  have k1:=ho.b6
  have k2:=ho.t16
  have k3:=ho.s8
  rw[if_pos h0,if_pos h0,B2f h.pd,oS,B5w hF k2,oS,oS]
  have:=B34 (F:=F) k1 (K:=fun lv=>(B1D (p.stations.length:Int)).bind fun q2=>(B1D (p.batteries.length:Int)).bind fun q3=>some ((some (F7.mk p.N4 p.P5 p.N6 p.S5 p.J3 p.Q7 p.T9 p.stations p.batteries p.steps p.points p.Q8 p.O8 0 (A4C (A1w p)).1.now (A4C (A1w p)).1.zones (A4C (A1w p)).1.holder (A4C (A1w p)).1.squibs (A4C (A1w p)).1.siren (A4C (A1w p)).1.storm (List.replicate p.steps.length (-1)) (List.replicate p.steps.length (-1)) false (List.replicate q2 false) lv (List.replicate q3 false))),0)) F 0 oM oM
  rw[List.take_zero,List.map_nil]at this
  refine this.trans ?_
  rw[B0U oM,oS,B0U oM,oS]
  rfl
 ·rw[if_neg h0,if_neg h0]
structure CF (p:D4) (s:H2):Prop where
 lb:s.begun.length=p.steps.length
 le:s.ended.length=p.steps.length
 lg:s.go.length=p.stations.length
 ll:s.left.length=p.batteries.length
 lo:s.on_.length=p.batteries.length
 now:0≤s.now∧s.now≤100000
 b:∀ k,k<p.steps.length → -1≤s.begun.getD k 0∧s.begun.getD k 0≤s.now
 e:∀ k,k<p.steps.length → -1≤s.ended.getD k 0∧s.ended.getD k 0≤s.now
 l:∀ k,k<p.batteries.length→0≤s.left.getD k 0∧s.left.getD k 0≤(p.batteries.getD k default).charge
 pd:∀ F,A5x F (A1w p)→StF F (B1c s)
theorem A5J {α:Type} (n k:Nat) (a d:α) (h:k<n):(List.replicate n a).getD k d=a:=by simp[List.getD_eq_getElem?_getD,h]
theorem B1z {p:D4} (ho:A5Y p):CF p (A0U p) where
 lb:=List.length_replicate
 le:=List.length_replicate
 lg:=List.length_replicate
 ll:=List.length_map _
 lo:=List.length_replicate
 now:=⟨Int.le_refl 0,by show(0:Int)≤100000;decide⟩
 b k hk:=by
  rw[show(A0U p).begun.getD k 0 = -1 from A5J _ _ _ _ hk]
  exact⟨by decide,by show(-1:Int)≤0;decide⟩
 e k hk:=by
  rw[show(A0U p).ended.getD k 0 = -1 from A5J _ _ _ _ hk]
  exact⟨by decide,by show(-1:Int)≤0;decide⟩
 l k hk:=by
  have h1:(A0U p).left.getD k 0=(p.batteries.getD k default).charge:=by
   show(p.batteries.map (·.charge)).getD k 0=_
   simp[List.getD_eq_getElem?_getD,List.getElem?_eq_getElem hk]
  rw[h1]
  have:=(ho.b k hk).1
  omega
 pd F hF:=B42 hF.f
def B14 {α:Type} (n:Nat) (f:Nat→α):List α:=(List.range n).map f
theorem B15 {α:Type} (n:Nat) (f:Nat→α):(B14 n f).length=n:=by simp[B14]
theorem B48 {α:Type} {n:Nat} {f:Nat→α} {k:Nat} {d:α} (h:k<n):(B14 n f).getD k d=f k:=by simp[B14,List.getD_eq_getElem?_getD,h]
theorem B2D {α:Type} {l:List α} {n:Nat} {f:Nat→α} (d:α) (h:l.length=n) (hf:∀ k,k<n→l.getD k d=f k):l=B14 n f:=by
 apply List.ext_getElem (by rw[B15,h])
 intro k h1 h2
 have:=hf k oM
 rw[J6 d h1]at this
 rw[this]
 simp[B14]
theorem A6I {α:Type} (l:List α) (i k:Nat) (a d:α) (h:i<l.length):(l.set i a).getD k d=if k=i then a else l.getD k d:=by
 simp only[List.getD_eq_getElem?_getD,List.getElem?_set]
 by_cases e:k=i
 ·subst e;simp[h]
 ·simp[e,Ne.symm e]
theorem sG {α:Type} {l:List α} {i k:Nat} {a d:α} (h:i<l.length):(l.set i a).getD k d=if k=i then a else l.getD k d:=A6I l i k a d h
def B0f (p:D4) (s:H2) (t:Int) (k:Nat):Int:=bif s.on_.getD k false then max 0 (s.left.getD k 0-(t-s.now)*(p.batteries.getD k default).rate)else s.left.getD k 0
def B4e (p:D4) (s:H2) (t:Int):H2:={s with now:=t,left:=B14 p.batteries.length (B0f p s t)}
theorem A96 {F:Nat} {l:List Int} (h:l.length≤100):T3 F l=some l:=A8R oM
theorem B0J {F:Nat} {l:List Bool} (h:l.length≤100):A0v F l=some l:=by
 unfold A0v B26
 rw[if_pos (by simp;omega)];rfl
theorem B6u {F:Nat} {p:D4} {s:H2} (ho:A5Y p) (hs:CF p s):A0Y F (dsk p s)=some (dsk p s):=by
 have:=ho.t16;have:=ho.s8;have:=ho.b6
 have:=hs.lb;have:=hs.le;have:=hs.lg;have:=hs.ll;have:=hs.lo
 rw[A0Y,A96 (by show s.begun.length≤_;omega),oS,A96 (by show s.ended.length≤_;omega),oS,A96 (by show s.left.length≤_;omega),oS,B0J (by show s.go.length≤_;omega),oS,B0J (by show s.on_.length≤_;omega),oS]
theorem B4n {a b:Int} (h1:0≤a∧a≤100000) (h2:1≤b∧b≤1000):0≤a*b∧a*b≤100000000:=by
 constructor
 ·exact Int.mul_nonneg h1.1 oM
 ·calc a*b≤100000*1000:=Int.mul_le_mul h1.2 h2.2 oM oM
   _=100000000:=by decide
theorem B8Z {F:Nat} {p:D4} {s:H2} (hF:100<F) (ho:A5Y p) (hs:CF p s) {t:Int} (ht:s.now≤t∧t≤100000):A2V F (dsk p s) t=some (dsk p (B4e p s t)):=by
 have k1:=ho.b6
 have k2:=hs.ll
 have k3:=hs.lo
 have kn:=hs.now
 have key:∀ (n k:Nat) (d:List Int),d.length=p.batteries.length→(∀ j,j<k→d.getD j 0=B0f p s t j)→(∀ j,k≤j→d.getD j 0=s.left.getD j 0)→p.batteries.length<n+k→k≤p.batteries.length →
   T6 F (dsk p s) t (fun d2 _=>some {dsk p s with H6:=t,A7:=d2}) n d k=some (dsk p (B4e p s t)):=fun n=>by
  induction n with
  | zero=>intro k d _ _ _ h;omega
  | succ n ih =>
   intro k d h1 h2 h3 h h4
   rw[T6]
   by_cases hk:k<p.batteries.length
   ·have hb:=(ho.b k hk).2
    have hl:=hs.l k hk
    have hc:=(ho.b k hk).1
    have hm:=B4n (a:=t-s.now) oM hb
    rw[if_pos (by show(k:Int)<(p.batteries.length:Int);omega),show P3 (dsk p s).E7 k=some p.batteries[k]from H3 hk,oS,show P3 (dsk p s).B0 k=some (s.on_[k]'oM)from H3 (show k<s.on_.length by omega),oS,S0 oM]
    have ek:B0f p s t k=bif s.on_[k]'oM then max 0 (s.left.getD k 0-(t-s.now)*p.batteries[k].rate)else s.left.getD k 0:=by
     unfold B0f
     rw[J6 false (by omega:k<s.on_.length),J6 default hk]
    rw[J6 default hk]at hm hb
    cases ho2:s.on_[k]'oM with
    | true =>
     rw[ho2,cT]at ek
     rw[if_pos rfl,H3 (by omega:k<d.length),oS,← J6 0 (by omega:k<d.length),h3 k (Nat.le_refl _)]
     unfold A5g
     have w1:W (t-s.now)=t-s.now:=A8K oM oM
     have w2:W ((t-s.now)*p.batteries[k].rate)=(t-s.now)*p.batteries[k].rate:=A8K oM oM
     have w3:W (s.left.getD k 0-(t-s.now)*p.batteries[k].rate)=s.left.getD k 0-(t-s.now)*p.batteries[k].rate:=A8K oM oM
     rw[oS]
     show T6 F (dsk p s) t _ n (d.set (k:Int).toNat (max 0 (W (s.left.getD k 0-W (W (t-s.now)*p.batteries[k].rate))))) _=_
     rw[w1,w2,w3]
     have hkn:(k:Int).toNat=k:=by omega
     rw[hkn]
     refine ih (k+1) _ (by rw[List.length_set];exact h1) (fun j hj=>?_) (fun j hj=>?_) oM oM
     ·rw[sG oM]
      by_cases e:j=k
      ·rw[if_pos e,e,ek]
      ·rw[if_neg e];exact h2 j oM
     ·rw[sG oM,if_neg oM];exact h3 j oM
    | false =>
     rw[ho2,cF]at ek
     rw[if_neg sM]
     refine ih (k+1) d h1 (fun j hj=>?_) (fun j hj=>h3 j oM) oM oM
     by_cases e:j=k
     ·rw[e,ek];exact h3 k (Nat.le_refl _)
     ·exact h2 j oM
   ·rw[if_neg (by show ¬ (k:Int)<(p.batteries.length:Int);omega)]
    have:d=B14 p.batteries.length (B0f p s t):=B2D 0 h1 fun j hj=>h2 j oM
    rw[this]
    rfl
 exact key F 0 s.left k2 (fun j hj=>by omega) (fun j _=>rfl) oM oM
theorem B5P {p:D4} {s:H2} (ho:A5Y p) (hs:CF p s) {t:Int} (ht:s.now≤t∧t≤100000):CF p (B4e p s t) where
 lb:=hs.lb
 le:=hs.le
 lg:=hs.lg
 ll:=B15 _ _
 lo:=hs.lo
 now:=by have:=hs.now;show 0≤t∧t≤100000;omega
 b k hk:=by have:=hs.b k hk;show -1≤s.begun.getD k 0∧s.begun.getD k 0≤t;omega
 e k hk:=by have:=hs.e k hk;show -1≤s.ended.getD k 0∧s.ended.getD k 0≤t;omega
 l k hk:=by
  show 0≤(B14 p.batteries.length (B0f p s t)).getD k 0∧(B14 p.batteries.length (B0f p s t)).getD k 0≤_
  rw[B48 hk]
  have hl:=hs.l k hk
  have hn:=hs.now
  have hm:=B4n (a:=t-s.now) oM (ho.b k hk).2
  unfold B0f
  cases s.on_.getD k false
  ·rw[cF];exact hl
  ·rw[cT];omega
 pd:=hs.pd
def scD (p:D4):Except Int H2→Except Int F7
 | .ok s => .ok (dsk p s)
 | .error e => .error e
theorem Z0 {α:Type} (F:Nat) (b:Bool) (w:Int) (f:Int→Option α) (g:Unit→Option α):((P4 F b w).bind fun rv=>exE rv f g)=bif b then g ()else f w:=by cases b<;>rfl
theorem B3C {σ α:Type} (l:List α) (d:α) (h:σ→α→σ) (s:σ):(List.range' 0 l.length).foldl (fun s k=>h s (l.getD k d)) s=l.foldl h s:=by
 have key:∀ m k s,k+m=l.length→(List.range' k m).foldl (fun s k=>h s (l.getD k d)) s=(l.drop k).foldl h s:=fun m=>by
  induction m with
  | zero=>intro k s hk;rw[lL oM];rfl
  | succ m ih =>
   intro k s hk
   rw[List.range'_succ,List.foldl_cons,ih (k+1) _ oM,lD (by omega:k<l.length),List.foldl_cons,J6 d oM]
 simpa using key l.length 0 s oM
theorem A6T {F:Nat} {l:List Int} (hl:l.length<F∧l.length<9223372036854775808) (v:Int):S9 F l v=some (l.any fun e=>decide (v=e)):=by
 obtain⟨r,h1,h2⟩:=A6P (g:=T0 F l v (fun _=>some (-1))) (s:=l) (p:=fun e=>decide (v=e)) (fun n k hk=>by rw[T0,if_pos oM,H3 hk,oS,S0 oM];simp only[decide_eq_true_eq]) (fun n=>by rw[T0,if_neg oM]) F 0 oM oM
 rw[S9,A2x,show(0:Int)=((0:Nat):Int)from rfl,h1,oS,show((0:Nat):Int)=0 from rfl,h2,List.drop_zero]
theorem B1A {F:Nat} {l:List Bool} (hl:l.length<F∧l.length<9223372036854775808) (v:Bool):A0H F l v=some (l.any fun e=>v==e):=by
 obtain⟨r,h1,h2⟩:=A6P (g:=V7 F l v (fun _=>some (-1))) (s:=l) (p:=fun e=>v==e) (fun n k hk=>by rw[V7,if_pos oM,H3 hk,oS,S0 oM]) (fun n=>by rw[V7,if_neg oM]) F 0 oM oM
 rw[A0H,A2Y,show(0:Int)=((0:Nat):Int)from rfl,h1,oS,show((0:Nat):Int)=0 from rfl,h2,List.drop_zero]
theorem B0F {m:Nat} {l:List Int} (h:A6a l=true) (hl:∀ n∈l,0≤n∧n<m):l.length≤m:=B59 h hl
def A4N (x:E0) (s:H2):Bool:=!x.poll || !s.go.any (fun e=>false==e)
theorem B2j {F:Nat} {p:D4} {s:H2} (hF:100<F) (ho:A5Y p) (hs:CF p s) (x:E0):Z4 F (dsk p s) x=some (bif A4N x s then .ok (dsk p s)else .error 184):=by
 have:=ho.s8;have:=hs.lg
 rw[Z4,B1A (by show s.go.length<F∧s.go.length<_;omega),oS,Z0,Z0]
 unfold A4N
 cases x.poll
 ·rfl
 ·rw[if_pos rfl]
  show(bif !(s.go.any fun e=>false==e)then _ else _)=_
  cases s.go.any (fun e=>false==e)<;>rfl
def A1Y (x:E0) (s:H2) (others:List Int):Bool:=x.use_.all fun b=>decide (0<s.left.getD b.toNat 0)&&(s.on_.getD b.toNat false||others.any fun e=>decide (b=e))
theorem B1s {p:D4} {s:H2} {k:Nat} {x:E0} (hs:CF p s) (hx:B0B p k x) {j:Nat} (hj:j<x.use_.length):P3 (dsk p s).A7 x.use_[j]=some (s.left.getD x.use_[j].toNat 0)∧P3 (dsk p s).B0 x.use_[j]=some (s.on_.getD x.use_[j].toNat false):=by
 obtain⟨h1,h2⟩:=hx.us _ (List.getElem_mem hj)
 have k1:=hs.ll;have k2:=hs.lo
 have e:x.use_[j]=((x.use_[j].toNat:Nat):Int):=by omega
 constructor
 ·show P3 s.left x.use_[j]=_
  rw[e,H3 (by omega:x.use_[j].toNat<s.left.length),← e,J6 0 oM]
 ·show P3 s.on_ x.use_[j]=_
  rw[e,H3 (by omega:x.use_[j].toNat<s.on_.length),← e,J6 false oM]
theorem B5s {F:Nat} {p:D4} {s:H2} {k:Nat} {x:E0} (hF:100<F) (ho:A5Y p) (hs:CF p s) (hx:B0B p k x) {others:List Int} (hl:others.length<F∧others.length<9223372036854775808):X7 F (dsk p s) x others=some (bif A1Y x s others then .ok (dsk p s)else .error 185):=by
 have hu:=B0F hx.ua hx.us
 have hb:=ho.b6
 rw[X7]
 have:=A4H (g:=Q5 F (dsk p s) x others fun _=>some (.ok (dsk p s))) (f:=fun j=>decide (0<s.left.getD (x.use_.getD j 0).toNat 0)&&(s.on_.getD (x.use_.getD j 0).toNat false||others.any fun e=>decide (x.use_.getD j 0=e))) (len:=x.use_.length) (c:=some (.ok (dsk p s))) (fl:=some (.error 185)) (fun n j hj=>?_) (fun n=>by rw[Q5,if_neg oM]) F 0 oM oM
 ·refine this.trans ?_
  rw[Nat.sub_zero,A93 x.use_ 0 (fun b=>decide (0<s.left.getD b.toNat 0)&&(s.on_.getD b.toNat false||others.any fun e=>decide (b=e)))]
  show(bif A1Y x s others then _ else _)=_
  cases A1Y x s others<;>rfl
 ·obtain⟨h1,h2⟩:=B1s hs hx hj
  rw[Q5,if_pos oM,H3 hj,oS,h1,oS,h2,oS,A6T hl,oS,S0 oM,J6 0 hj]
  simp only[Z0,cT,cF,A4e,A0q]
  cases decide (0<s.left.getD x.use_[j].toNat 0)<;>cases s.on_.getD x.use_[j].toNat false<;>cases(others.any fun e=>decide (x.use_[j]=e))<;>rfl
theorem B4g {F:Nat} {p:D4} {s:H2} {k:Nat} {x:E0} (hF:100<F) (ho:A5Y p) (hs:CF p s) (hx:B0B p k x):Y6 F (dsk p s) x=some (bif A1Y x s []then .ok (dsk p s)else .error 185):=by
 have hu:=B0F hx.ua hx.us
 have hb:=ho.b6
 rw[Y6]
 have:=A4H (g:=P2 F (dsk p s) x fun _=>some (.ok (dsk p s))) (f:=fun j=>decide (0<s.left.getD (x.use_.getD j 0).toNat 0)&&(s.on_.getD (x.use_.getD j 0).toNat false||([]:List Int).any fun e=>decide (x.use_.getD j 0=e))) (len:=x.use_.length) (c:=some (.ok (dsk p s))) (fl:=some (.error 185)) (fun n j hj=>?_) (fun n=>by rw[P2,if_neg oM]) F 0 oM oM
 ·refine this.trans ?_
  rw[Nat.sub_zero,A93 x.use_ 0 (fun b=>decide (0<s.left.getD b.toNat 0)&&(s.on_.getD b.toNat false||([]:List Int).any fun e=>decide (b=e)))]
  show(bif A1Y x s []then _ else _)=_
  cases A1Y x s []<;>rfl
 ·obtain⟨h1,h2⟩:=B1s hs hx hj
  rw[P2,if_pos oM,H3 hj,oS,h1,oS,h2,oS,A6T (l:=[]) ⟨by simp;omega,by simp⟩,oS,S0 oM,J6 0 hj]
  simp only[Z0,cT,cF,A4e,A0q]
  cases decide (0<s.left.getD x.use_[j].toNat 0)<;>cases s.on_.getD x.use_[j].toNat false<;>rfl
def A6e (s:H2) (k:Nat):Bool:=decide (0≤s.ended.getD k 0)
def B2o (s:H2) (k:Nat):Bool:=decide (0≤s.begun.getD k 0) && !A6e s k
theorem B2C {F:Nat} {p:D4} {s:H2} (hs:CF p s) {k:Nat} (hk:k<p.steps.length):Y5 F (dsk p s) k=some (A6e s k):=by
 have:=hs.le
 rw[Y5,show P3 (dsk p s).A5 k=some (s.ended[k]'oM)from H3 (show k<s.ended.length by omega),oS,A6e,J6 0 oM]
theorem B9l {F:Nat} {p:D4} {s:H2} (hs:CF p s) {k:Nat} (hk:k<p.steps.length):A0R F (dsk p s) k=some (B2o s k):=by
 have:=hs.lb
 rw[A0R,show P3 (dsk p s).A1 k=some (s.begun[k]'oM)from H3 (show k<s.begun.length by omega),oS,B2C hs hk,oS,B2o,J6 0 oM]
 simp only[A4e]
 cases decide (0≤s.begun[k]'oM)<;>rfl
theorem B2K {F:Nat} {p:D4} {s:H2} (ho:A5Y p):U8 F (dsk p s)=some ((p.steps.length-1:Nat):Int):=by
 have:=ho.t1;have:=ho.t16
 rw[U8]
 show some (W ((p.steps.length:Int)-1))=_
 rw[B23 oM oM]
def onL (l:List Int) (v:Bool) (o:List Bool):List Bool:=l.foldl (fun o b=>o.set b.toNat v) o
theorem B5M (l:List Int) (v:Bool):∀ o:List Bool,(onL l v o).length=o.length:=by
 induction l with
 | nil=>intro o;rfl
 | cons x l ih=>intro o;show(onL l v (o.set x.toNat v)).length=_;rw[ih,List.length_set]
theorem B2c (l:List Int) (v:Bool) (o:List Bool):(List.range' 0 l.length).foldl (fun o j=>o.set (l.getD j 0).toNat v) o=onL l v o:=B3C l 0 (fun o b=>o.set b.toNat v) o
def B0G (p:D4) (s:H2) (i:Nat) (t:Int):Except Int H2 :=
 bif decide (s.begun.getD i 0<0)then
  bif (p.steps.getD i default).need.all (fun n=>A6e s n.toNat)then
   bif !s.held then
    bif A4N (p.steps.getD i default) s then
     bif A1Y (p.steps.getD i default) s (p.steps.getD i default).on_ then
      .ok {s with begun:=s.begun.set i t,on_:=onL (p.steps.getD i default).on_ true s.on_}
     else .error 185
    else .error 184
   else .error 183
  else .error 182
 else .error 181
theorem B9y {p:D4} {o:List Bool} (h:o.length=p.batteries.length) {b:Int} (hb:0≤b∧b<p.batteries.length):∃ e,P3 o b=some e:=by
 obtain⟨m,rfl⟩:∃ m:Nat,b=m:=⟨b.toNat,by omega⟩
 exact⟨_,H3 oM⟩
theorem B6n {F:Nat} {p:D4} {s:H2} (hF:100<F) (hf:CtF F p) (ho:A5Y p) (hs:CF p s) {i:Nat} (hi:i<p.steps.length) {e:C7} (he:e.what=i):A0X F (dsk p s) e=some (scD p (B0G p s i e.at_)):=by
 have hx:=ho.t i hi
 have hxF:=hf.st _ (List.getElem_mem hi)
 have k1:=hs.lb;have k2:=ho.t16;have k3:=ho.b6
 have hn:=B0F hx.na hx.nd
 have hon:=B0F hx.oa hx.on
 rw[J6 default hi]at hx hn hon
 rw[A0X,he,show P3 (dsk p s).F8 i=some p.steps[i]from H3 hi,oS,show P3 (dsk p s).A1 i=some (s.begun[i]'oM)from H3 (show i<s.begun.length by omega),oS,Z0]
 unfold B0G
 rw[J6 default hi,J6 0 (by omega:i<s.begun.length)]
 cases decide (s.begun[i]'oM<0)with
 | false=>rfl
 | true =>
  rw[cT,cT]
  have:=A4H (g:=T4 F (dsk p s) p.steps[i] fun _=>(P4 F (!(dsk p s).F9) 183).bind fun rv4=>exE rv4 (fun x4=>some (.error x4)) (fun v3=>(Z4 F (dsk p s) p.steps[i]).bind fun rv5=>exE rv5 (fun x5=>some (.error x5)) (fun v4=>(X7 F v4 p.steps[i] p.steps[i].on_).bind fun rv6=>exE rv6 (fun x6=>some (.error x6)) (fun v5=>(P3 v5.A1 i).bind fun e4=>(A5g v5.A1 i e.at_).bind fun q=>P8 F p.steps[i] (fun(t2:(List Bool)) (x7:Int)=>some (.ok {v5 with A1:=q,B0:=t2})) F v5.B0 0))))
   (f:=fun j=>A6e s (p.steps[i].need.getD j 0).toNat) (len:=p.steps[i].need.length) (fl:=some (.error 182)) (fun n j hj=>?_) (fun n=>by rw[T4,if_neg oM]) F 0 oM oM
  ·refine this.trans ?_
   rw[Nat.sub_zero,A93 p.steps[i].need 0 (fun n=>A6e s n.toNat)]
   cases p.steps[i].need.all (fun n=>A6e s n.toNat)with
   | false=>rfl
   | true =>
    rw[cT,cT,Z0]
    show(bif !s.held then _ else _)=_
    cases hh:!s.held with
    | false=>rfl
    | true =>
     rw[cT,cT,B2j hF ho hs,oS]
     cases A4N p.steps[i] s with
     | false=>rfl
     | true =>
      rw[cT,cT]
      show((X7 F (dsk p s) p.steps[i] p.steps[i].on_).bind _)=_
      rw[B5s hF ho hs hx oM,oS]
      cases A1Y p.steps[i] s p.steps[i].on_ with
      | false=>rfl
      | true =>
       rw[cT,cT]
       show((P3 s.begun i).bind _)=_
       rw[H3 (by omega:i<s.begun.length),oS]
       show P8 F p.steps[i] (fun t2 _=>some (.ok {dsk p s with A1:=s.begun.set i e.at_,B0:=t2})) F s.on_ 0=_
       refine(A5I (g:=P8 F p.steps[i] fun t2 _=>some (.ok {dsk p s with A1:=s.begun.set i e.at_,B0:=t2})) (f:=fun o j=>o.set (p.steps[i].on_.getD j 0).toNat true) (len:=p.steps[i].on_.length) (c:=fun t2=>some (.ok {dsk p s with A1:=s.begun.set i e.at_,B0:=t2})) (fun o _=>o.length=p.batteries.length) (fun o k _ h=>by rw[List.length_set];exact h) (fun n o k hk h=>?_) (fun n o h=>by rw[P8,if_neg oM]) F s.on_ 0 hs.lo oM oM).trans ?_
       ·obtain⟨q,hq⟩:=B9y h (hx.on _ (List.getElem_mem hk))
        rw[P8,if_pos oM,H3 hk,oS,hq,oS,J6 0 hk,S0 oM]
        rfl
       ·rw[Nat.sub_zero,B2c]
        rfl
  ·have hd:=hx.nd _ (List.getElem_mem hj)
   have e1:p.steps[i].need[j]=((p.steps[i].need[j].toNat:Nat):Int):=by omega
   rw[T4,if_pos oM,H3 hj,oS,J6 0 hj]
   rw[show Y5 F (dsk p s) p.steps[i].need[j]=some (A6e s p.steps[i].need[j].toNat) by rw[e1,B2C hs oM];rfl,oS,Z0,S0 oM]
theorem B9H {α β:Type} (a:α) (f:Int→β) (g:α→β):exE (.ok a) f g=g a:=rfl
def A8L (p:D4) (s:H2) (a:D2):Except Int H2:=bif decide ((DoP (A1w p) (B1c s) a).2=0)then .ok (B3q s (DoP (A1w p) (B1c s) a).1)else .error (DoP (A1w p) (B1c s) a).2
theorem B7l {F:Nat} {p:D4} {s:H2} (hf:CtF F p) (hs:StF F (B1c s)) (a:D2):A07 F (dsk p s) a=some (scD p (A8L p s a)):=by
 rw[A07,show A7D F _ _ a=some (DoP (A1w p) (B1c s) a)from B2e hf.pd hs,oS,Z0]
 unfold A8L
 cases decide ((DoP (A1w p) (B1c s) a).2=0)<;>rfl
def PdK (p:D4) (s:H2):Prop:=∀ F,A5x F (A1w p)→StF F (B1c s)
theorem B24 {p:D4} {s s':H2} {a:D2} (hs:PdK p s) (h:A8L p s a = .ok s'):PdK p s':=fun F hF=>by
 unfold A8L at h
 cases hd:decide ((DoP (A1w p) (B1c s) a).2=0)with
 | false=>rw[hd]at h;cases h
 | true =>
  rw[hd,cT]at h
  injection h with h
  subst h
  exact B81 hF (hs F hF)
def A8v (p:D4) (t:Int):List D2→H2→Except Int H2
 | [],s => .ok s
 | a::l,s=>match A8L p s {a with at_:=t}with
  | .ok s'=>A8v p t l s'
  | .error e => .error e
abbrev B7z (F:Nat) (e:C7) (x:E0) (K:F7→Option (Except Int F7)) (n:Nat) (d:F7) (k:Int):Option (Except Int F7):=A0k F e x (fun t2 t3 t4 t5 t6 t7 t8 t9 t10 t11 t12 t13 t14 t15 t16 t17 t18 t19 t20 t21 t22 t23 t24 t25 t26 t27 _=>K (F7.mk t2 t3 t4 t5 t6 t7 t8 t9 t10 t11 t12 t13 t14 t15 t16 t17 t18 t19 t20 t21 t22 t23 t24 t25 t26 t27)) n d.H0 d.G8 d.G2 d.H4 d.G3 d.G9 d.H5 d.H9 d.E7 d.F8 d.I9 d.D8 d.G0 d.H6 d.G5 d.F5 d.E8 d.E5 d.F3 d.F4 d.A1 d.A5 d.F9 d.B1 d.A7 d.B0 k
theorem B4P (F:Nat) (e:C7) (x:E0) (K:F7→Option (Except Int F7)) (n:Nat) (d:F7) (k:Int):B7z F e x K (n+1) d k=if k<(x.acts.length:Int)then((P3 x.acts k).bind fun e3=>(A07 F d {e3 with at_:=e.at_}).bind fun rv=>exE rv (fun w=>some (.error w)) fun v=>B7z F e x K n v (W (k+1)))else K d:=rfl
theorem B1L {F:Nat} {p:D4} (hf:CtF F p) {e:C7} {x:E0} (hx:x.acts.length≤8) {K:F7→Option (Except Int F7)}:∀ (n k:Nat) (s:H2),PdK p s→x.acts.length<n+k→k≤x.acts.length →
  B7z F e x K n (dsk p s) k=match A8v p e.at_ (x.acts.drop k) s with | .ok s'=>K (dsk p s') | .error w=>some (.error w)
 | 0,k,s,_,h,h2=>absurd h oM
 | n+1,k,s,hs,h,h2=>by
  rw[B4P]
  by_cases hk:k<x.acts.length
  ·rw[if_pos oM,H3 hk,oS,lD hk,S0 oM]
   change _=match (match A8L p s {x.acts[k]with at_:=e.at_}with | .ok s'=>A8v p e.at_ (x.acts.drop (k+1)) s' | .error e => .error e)with | .ok s'=>K (dsk p s') | .error w=>some (.error w)
   rw[B7l hf (hs F hf.pd),oS]
   cases ha:A8L p s {x.acts[k]with at_:=e.at_}with
   | error w=>rfl
   | ok s'=>exact B1L hf hx n (k+1) s' (B24 hs ha) oM oM
  ·rw[if_neg oM,lL oM]
   rfl
theorem A83 {p:D4} {t:Int}:∀ {l:List D2} {s s':H2},A8v p t l s = .ok s'→PdK p s→PdK p s'∧s'.now=s.now∧s'.begun=s.begun∧s'.ended=s.ended∧s'.held=s.held∧s'.go=s.go∧s'.left=s.left∧s'.on_=s.on_
 | [],s,s',h,hs=>by injection h with h;subst h;exact⟨hs,rfl,rfl,rfl,rfl,rfl,rfl,rfl⟩
 | a::l,s,s',h,hs=>by
  change (match A8L p s {a with at_:=t}with | .ok s'=>A8v p t l s' | .error e => .error e)=_ at h
  cases ha:A8L p s {a with at_:=t}with
  | error w=>rw[ha]at h;cases h
  | ok s2 =>
   rw[ha]at h
   obtain⟨h0,h1,h2,h3,h4,h5,h6,h7⟩:=A83 h (B24 hs ha)
   have hd:∃ d,s2=B3q s d:=by
    unfold A8L at ha
    cases hd:decide ((DoP (A1w p) (B1c s) {a with at_:=t}).2=0)with
    | false=>rw[hd]at ha;cases ha
    | true=>rw[hd,cT]at ha;injection ha with ha;exact⟨_,ha.symm⟩
   obtain⟨d,rfl⟩:=hd
   exact⟨h0,h1,h2,h3,h4,h5,h6,h7⟩
def B7v (p:D4) (s:H2) (i:Nat) (t:Int):Except Int H2 :=
 bif B2o s i then
  bif !N9 (t-s.begun.getD i 0) (p.steps.getD i default).least (p.steps.getD i default).most then
   bif A4N (p.steps.getD i default) s then
    bif A1Y (p.steps.getD i default) s []then
     bif decide (i<p.steps.length-1) || !N9 t p.Q8 p.O8 then
      match A8v p t (p.steps.getD i default).acts s with
      | .ok s' => .ok {s' with ended:=s'.ended.set i t,on_:=onL (p.steps.getD i default).off false s'.on_}
      | .error e => .error e
     else .error 187
    else .error 185
   else .error 184
  else .error 186
 else .error 181
theorem B6y {F:Nat} {p:D4} {s:H2} (hF:100<F) (hf:CtF F p) (ho:A5Y p) (hs:CF p s) {i:Nat} (hi:i<p.steps.length) {e:C7} (he:e.what=i) :
 A0j F e p.steps[i] (dsk p s)=some (scD p (match A8v p e.at_ p.steps[i].acts s with | .ok s' => .ok {s' with ended:=s'.ended.set i e.at_,on_:=onL p.steps[i].off false s'.on_} | .error e => .error e)):=by
 have hx:=ho.t i hi
 have k3:=ho.b6
 have hoff:=B0F hx.fa hx.off
 rw[J6 default hi]at hx hoff
 rw[A0j,he]
 refine(B1L hf hx.a (K:=fun d=>(P3 d.A5 i).bind fun e4=>(A5g d.A5 i e.at_).bind fun t28=>R6 F p.steps[i] (fun t29 _=>some (.ok {d with A5:=t28,B0:=t29})) F d.B0 0) F 0 s hs.pd (by have:=hx.a;omega) oM).trans ?_
 rw[List.drop_zero]
 cases ha:A8v p e.at_ p.steps[i].acts s with
 | error w=>rfl
 | ok s' =>
  obtain⟨h0,h1,h2,h3,h4,h5,h6,h7⟩:=A83 ha hs.pd
  have le:s'.ended.length=p.steps.length:=by rw[h3];exact hs.le
  have lo:s'.on_.length=p.batteries.length:=by rw[h7];exact hs.lo
  show(P3 s'.ended i).bind _=_
  rw[H3 (by omega:i<s'.ended.length),oS]
  show R6 F p.steps[i] (fun t29 _=>some (.ok {dsk p s' with A5:=s'.ended.set i e.at_,B0:=t29})) F s'.on_ 0=_
  refine(A5I (g:=R6 F p.steps[i] fun t29 _=>some (.ok {dsk p s' with A5:=s'.ended.set i e.at_,B0:=t29})) (f:=fun o j=>o.set (p.steps[i].off.getD j 0).toNat false) (len:=p.steps[i].off.length) (c:=fun t29=>some (.ok {dsk p s' with A5:=s'.ended.set i e.at_,B0:=t29})) (fun o _=>o.length=p.batteries.length) (fun o k _ h=>by rw[List.length_set];exact h) (fun n o k hk h=>?_) (fun n o h=>by rw[R6,if_neg oM]) F s'.on_ 0 lo oM oM).trans ?_
  ·obtain⟨q,hq⟩:=B9y h (hx.off _ (List.getElem_mem hk))
   rw[R6,if_pos oM,H3 hk,oS,hq,oS,J6 0 hk,S0 oM]
   rfl
  ·rw[Nat.sub_zero,B2c]
   rfl
theorem B8B {F:Nat} {p:D4} {s:H2} (hF:100<F) (hf:CtF F p) (ho:A5Y p) (hs:CF p s) {i:Nat} (hi:i<p.steps.length) {e:C7} (he:e.what=i) (ht:e.at_=s.now):A1O F (dsk p s) e=some (scD p (B7v p s i e.at_)):=by
 have hx:=ho.t i hi
 have k1:=hs.lb;have k2:=ho.t16
 have kb:=hs.b i hi
 have kn:=hs.now
 have tl:=B6y hF hf ho hs hi he
 rw[J6 default hi]at hx
 rw[A1O,he,show P3 (dsk p s).F8 i=some p.steps[i]from H3 hi,oS,B9l hs hi,oS,Z0]
 unfold B7v
 rw[J6 default hi]
 rw[J6 0 (by omega:i<s.begun.length)]at kb ⊢
 cases B2o s i with
 | false=>rfl
 | true =>
  rw[cT,cT,show P3 (dsk p s).A1 i=some (s.begun[i]'oM)from H3 (show i<s.begun.length by omega),oS,X2,oS,Z0,A8K oM oM]
  cases !N9 (e.at_-s.begun[i]'oM) p.steps[i].least p.steps[i].most with
  | false=>rfl
  | true =>
   rw[cT,cT,B2j hF ho hs,oS]
   cases A4N p.steps[i] s with
   | false=>rfl
   | true =>
    rw[cT,cT]
    show(Y6 F (dsk p s) p.steps[i]).bind _=_
    rw[B4g hF ho hs hx,oS]
    cases A1Y p.steps[i] s []with
    | false=>rfl
    | true =>
     rw[cT,cT]
     rw[B9H,B2K ho,oS,Z0,X2,oS,Z0,tl]
     by_cases hl:i<p.steps.length-1
     ·rw[if_pos oM,dT hl];rfl
     ·rw[if_neg oM,dF hl,Bool.false_or]
      show(bif !N9 e.at_ p.Q8 p.O8 then _ else _)=_
      cases !N9 e.at_ p.Q8 p.O8<;>rfl
def B5G (s:H2) (k:Int):Except Int H2:=bif s.held != decide (k=3)then .ok {s with held:=decide (k=3)}else .error 181
theorem B3I {F:Nat} {p:D4} {s:H2} (e:C7):A08 F (dsk p s) e=some (scD p (B5G s e.kind)):=by
 rw[A08,Z0]
 unfold B5G
 show(bif s.held != decide (e.kind=3)then _ else _)=_
 cases s.held != decide (e.kind=3)<;>rfl
def B9m (s:H2) (k:Int) (i:Nat):Except Int H2:=bif s.go.getD i false != decide (k=5)then .ok {s with held:=s.held || !decide (k=5),go:=s.go.set i (decide (k=5))}else .error 181
theorem B5X {F:Nat} {p:D4} {s:H2} (hs:CF p s) {i:Nat} (hi:i<p.stations.length) {e:C7} (he:e.what=i):A0K F (dsk p s) e=some (scD p (B9m s e.kind i)):=by
 have k1:=hs.lg
 rw[A0K,he,show P3 (dsk p s).B1 i=some (s.go[i]'oM)from H3 (show i<s.go.length by omega),oS,Z0]
 unfold B9m
 rw[J6 false (by omega:i<s.go.length)]
 cases s.go[i]'oM != decide (e.kind=5)with
 | false=>rfl
 | true =>
  rw[cT,cT]
  unfold A5g
  rw[oS]
  show(if s.held=true then some (Except.ok {dsk p s with F9:=true,B1:=s.go.set i (decide (e.kind=5))})else some (Except.ok {dsk p s with F9:=!decide (e.kind=5),B1:=s.go.set i (decide (e.kind=5))}))=some (Except.ok {dsk p s with F9:=s.held || !decide (e.kind=5),B1:=s.go.set i (decide (e.kind=5))})
  cases s.held<;>rfl
def A6r (p:D4) (l:List Int) (from_:Nat):List Int:=B14 p.steps.length fun k=>if from_≤k then -1 else l.getD k 0
def B9i (p:D4) (s:H2) (i:Nat):Except Int H2 :=
 bif decide (0≤s.begun.getD (p.points.getD i 0).toNat 0)then
  bif !s.J3.any (fun e=>decide ((1:Int)=e))then
   .ok {s with begun:=A6r p s.begun (p.points.getD i 0).toNat,ended:=A6r p s.ended (p.points.getD i 0).toNat,held:=true,go:=List.replicate s.go.length false,on_:=List.replicate s.on_.length false}
  else .error 188
 else .error 181
theorem B4o {F:Nat} {p:D4} {s:H2} (hF:100<F) (hf:CtF F p) (ho:A5Y p) (hs:CF p s) {i:Nat} (hi:i<p.points.length) {e:C7} (he:e.what=i):A05 F (dsk p s) e=some (scD p (B9i p s i)):=by
 have k1:=hs.lb;have k2:=hs.le;have k16:=ho.t16
 have hp:=ho.pt i hi
 have hq:=(hs.pd F hf.pd).q
 rw[J6 0 hi]at hp
 obtain⟨m,hm⟩:∃ m:Nat,p.points[i]=m:=⟨p.points[i].toNat,by omega⟩
 have hm':m<p.steps.length:=by omega
 rw[A05,he,show P3 (dsk p s).I9 i=some p.points[i]from H3 hi,oS,hm,show P3 (dsk p s).A1 m=some (s.begun[m]'oM)from H3 (show m<s.begun.length by omega),oS,Z0]
 unfold B9i
 rw[J6 0 hi,hm,show(m:Int).toNat=m by omega,J6 0 (by omega:m<s.begun.length)]
 cases decide (0≤s.begun[m]'oM)with
 | false=>rfl
 | true =>
  rw[cT,cT,A6T (l:=s.J3) (by have:s.J3.length<F∧s.J3.length≤17592186044416:=hq;omega),oS,Z0]
  cases !s.J3.any (fun e=>decide ((1:Int)=e))with
  | false=>rfl
  | true =>
   rw[cT,cT]
   have key:∀ (n k:Nat) (a b:List Int),m≤k→a.length=p.steps.length→b.length=p.steps.length→(∀ j,a.getD j 0=if m≤j∧j<k then -1 else s.begun.getD j 0)→(∀ j,b.getD j 0=if m≤j∧j<k then -1 else s.ended.getD j 0)→p.steps.length<n+k→k≤p.steps.length →
    U1 F (dsk p s) (fun t2 t3 _=>(B6t (dsk p s).B1 false).bind fun q=>(B6t (dsk p s).B0 false).bind fun q2=>some (.ok {dsk p s with A1:=t2,A5:=t3,F9:=true,B1:=q,B0:=q2})) n a b k
     = some (.ok (dsk p {s with begun:=A6r p s.begun m,ended:=A6r p s.ended m,held:=true,go:=List.replicate s.go.length false,on_:=List.replicate s.on_.length false})):=fun n=>by
    induction n with
    | zero=>intro k a b _ _ _ _ _ h;omega
    | succ n ih =>
     intro k a b hmk ha hb h1 h2 h h'
     rw[U1,show U8 F {dsk p s with A1:=a,A5:=b}=some ((p.steps.length-1:Nat):Int)from B2K (s:={s with begun:=a,ended:=b}) ho,oS]
     by_cases hk:k<p.steps.length
     ·rw[if_pos oM,H3 (by omega:k<a.length),oS,H3 (by omega:k<b.length),S0 oM]
      unfold A5g
      rw[oS,oS,oS,show(k:Int).toNat=k by omega]
      refine ih (k+1) _ _ oM (by rw[List.length_set];exact ha) (by rw[List.length_set];exact hb) (fun j=>?_) (fun j=>?_) oM oM
      ·rw[sG oM,h1 j]
       by_cases e1:j=k
       ·rw[if_pos e1]
        by_cases e2:m≤j
        ·rw[if_pos oM]
        ·omega
       ·rw[if_neg e1]
        by_cases e2:m≤j∧j<k
        ·rw[if_pos e2,if_pos oM]
        ·rw[if_neg e2,if_neg oM]
      ·rw[sG oM,h2 j]
       by_cases e1:j=k
       ·rw[if_pos e1]
        by_cases e2:m≤j
        ·rw[if_pos oM]
        ·omega
       ·rw[if_neg e1]
        by_cases e2:m≤j∧j<k
        ·rw[if_pos e2,if_pos oM]
        ·rw[if_neg e2,if_neg oM]
     ·rw[if_neg oM]
      have ea:a=A6r p s.begun m:=B2D 0 ha fun j hj=>by
       rw[h1 j]
       by_cases e2:m≤j
       ·rw[if_pos oM,if_pos e2]
       ·rw[if_neg oM,if_neg e2]
      have eb:b=A6r p s.ended m:=B2D 0 hb fun j hj=>by
       rw[h2 j]
       by_cases e2:m≤j
       ·rw[if_pos oM,if_pos e2]
       ·rw[if_neg oM,if_neg e2]
      rw[ea,eb]
      rfl
   exact key F m s.begun s.ended (Nat.le_refl _) k1 k2 (fun j=>by rw[if_neg oM]) (fun j=>by rw[if_neg oM]) oM oM
def B0v (p:D4) (s:H2) (i:Nat):Except Int H2:=bif !s.on_.getD i false then .ok {s with left:=s.left.set i (p.batteries.getD i default).charge}else .error 181
theorem B4O {F:Nat} {p:D4} {s:H2} (hs:CF p s) {i:Nat} (hi:i<p.batteries.length) {e:C7} (he:e.what=i):A0G F (dsk p s) e=some (scD p (B0v p s i)):=by
 have k1:=hs.lo;have k2:=hs.ll
 rw[A0G,he,show P3 (dsk p s).B0 i=some (s.on_[i]'oM)from H3 (show i<s.on_.length by omega),oS,Z0]
 unfold B0v
 rw[J6 false (by omega:i<s.on_.length)]
 cases !s.on_[i]'oM with
 | false=>rfl
 | true =>
  rw[cT,cT,show P3 (dsk p s).E7 i=some p.batteries[i]from H3 hi,oS,show P3 (dsk p s).A7 i=some (s.left[i]'oM)from H3 (show i<s.left.length by omega),oS,J6 default hi]
  rfl
theorem B85 {F:Nat} {p:D4} {s:H2} (hf:CtF F p) (hs:CF p s) (e:C7):A1N F (dsk p s) e=some (scD p (A8L p s (A8M e))):=by
 rw[A1N,B7l hf (hs.pd F hf.pd),oS]
 cases A8L p s (A8M e)<;>rfl
def B3L (p:D4) (s:H2) (e:C7):Except Int H2 :=
 if e.kind=1 then B0G p s e.what.toNat e.at_ else if e.kind=2 then B7v p s e.what.toNat e.at_ else if e.kind=3∨e.kind=4 then B5G s e.kind else
 if e.kind=5∨e.kind=6 then B9m s e.kind e.what.toNat else if e.kind=7 then B9i p s e.what.toNat else if e.kind=8 then A8L p s (A8M e)else B0v p s e.what.toNat
def doC (p:D4) (s:H2) (e:C7):Except Int H2 :=
 bif decide (s.now≤e.at_)then(bif !A6e s (p.steps.length-1)then B3L p (B4e p s e.at_) e else .error 181)else .error 180
theorem A6Y {F:Nat} {p:D4} (o:Except Int H2):(exE (scD p o) (fun x=>some (.error x)) (fun v=>Q9 F v.H0 v.G8 v.G2 v.H4 v.G3 v.G9 v.H5 v.H9 v.E7 v.F8 v.I9 v.D8 v.G0 v.H6 v.G5 v.F5 v.E8 v.E5 v.F3 v.F4 v.A1 v.A5 v.F9 v.B1 v.A7 v.B0):Option (Except Int F7))=some (scD p o):=by cases o<;>rfl
theorem C0v {F:Nat} {p:D4} {s:H2} (hf:CtF F p) (ho:A5Y p) (hs:CF p s) {e:C7} (he:B18 p e):A1F F (dsk p s) e=some (scD p (doC p s e)):=by
 have hF:=hf.pd.f
 have t1:=ho.t1
 rw[A1F,Z0]
 unfold doC
 show(bif decide (s.now≤e.at_)then _ else _)=_
 by_cases ht:s.now≤e.at_
 ·rw[dT ht,cT,cT,B2K ho,oS,B2C hs oM,oS,Z0]
  cases !A6e s (p.steps.length-1)with
  | false=>rfl
  | true =>
   have hs2:=B5P ho hs ⟨ht,he.t.2⟩
   rw[cT,cT,B6u ho hs,oS,B8Z hF ho hs ⟨ht,he.t.2⟩,oS,if_neg (by have:=he.k;omega)]
   unfold B3L
   have wn:A3r e.kind=false→e.what=(e.what.toNat:Int):=fun h=>by have:=he.w h;omega
   by_cases h1:e.kind=1
   ·have hn:A3r e.kind=false:=by rw[h1];rfl
    have hw:=he.w hn
    have hm:A20 p e.kind=p.steps.length:=by rw[h1];rfl
    rw[if_pos h1,if_pos h1,B6n hF hf ho hs2 oM (wn hn),oS,A6Y]
   rw[if_neg h1,if_neg h1]
   by_cases h2:e.kind=2
   ·have hn:A3r e.kind=false:=by rw[h2];rfl
    have hw:=he.w hn
    have hm:A20 p e.kind=p.steps.length:=by rw[h2];rfl
    rw[if_pos h2,if_pos h2,B8B hF hf ho hs2 oM (wn hn) rfl,oS,A6Y]
   rw[if_neg h2,if_neg h2]
   by_cases h3:e.kind=3
   ·rw[if_pos h3,if_pos (.inl h3),B3I,oS,A6Y]
   rw[if_neg h3]
   by_cases h4:e.kind=4
   ·rw[if_pos h4,if_pos (.inr h4),B3I,oS,A6Y]
   rw[if_neg h4,if_neg (show ¬ (e.kind=3∨e.kind=4) by omega)]
   by_cases h5:e.kind=5
   ·have hn:A3r e.kind=false:=by rw[h5];rfl
    have hw:=he.w hn
    have hm:A20 p e.kind=p.stations.length:=by rw[h5];rfl
    rw[if_pos h5,if_pos (.inl h5),B5X hs2 oM (wn hn),oS,A6Y]
   rw[if_neg h5]
   by_cases h6:e.kind=6
   ·have hn:A3r e.kind=false:=by rw[h6];rfl
    have hw:=he.w hn
    have hm:A20 p e.kind=p.stations.length:=by rw[h6];rfl
    rw[if_pos h6,if_pos (.inr h6),B5X hs2 oM (wn hn),oS,A6Y]
   rw[if_neg h6,if_neg (show ¬ (e.kind=5∨e.kind=6) by omega)]
   by_cases h7:e.kind=7
   ·have hn:A3r e.kind=false:=by rw[h7];rfl
    have hw:=he.w hn
    have hm:A20 p e.kind=p.points.length:=by rw[h7];rfl
    rw[if_pos h7,if_pos h7,B4o hF hf ho hs2 oM (wn hn),oS,A6Y]
   rw[if_neg h7,if_neg h7]
   by_cases h8:e.kind=8
   ·rw[if_pos h8,if_pos h8,B85 hf hs2,oS,A6Y]
   have h9:e.kind=9:=by have:=he.k;omega
   have hn:A3r e.kind=false:=by rw[h9];rfl
   have hw:=he.w hn
   have hm:A20 p e.kind=p.batteries.length:=by rw[h9];rfl
   rw[if_neg h8,if_neg h8,if_pos h9,B4O hs2 oM (wn hn),oS,A6Y]
 ·rw[dF ht];rfl
theorem CF.keep {p:D4} {s s':H2} (h:CF p s) (hp:PdK p s') (h1:s'.now=s.now) (h2:s'.begun=s.begun) (h3:s'.ended=s.ended) (h5:s'.go.length=s.go.length) (h6:s'.left=s.left) (h7:s'.on_.length=s.on_.length):CF p s' where
 lb:=by rw[h2];exact h.lb
 le:=by rw[h3];exact h.le
 lg:=by rw[h5];exact h.lg
 ll:=by rw[h6];exact h.ll
 lo:=by rw[h7];exact h.lo
 now:=by rw[h1];exact h.now
 b:=by rw[h2,h1];exact h.b
 e:=by rw[h3,h1];exact h.e
 l:=by rw[h6];exact h.l
 pd:=hp
theorem B7p {p:D4} {s s':H2} {i:Nat} {t:Int} (h:B0G p s i t = .ok s'):s.begun.getD i 0<0∧(∀ n∈(p.steps.getD i default).need,A6e s n.toNat=true)∧s.held=false∧A4N (p.steps.getD i default) s=true∧A1Y (p.steps.getD i default) s (p.steps.getD i default).on_=true∧s'={s with begun:=s.begun.set i t,on_:=onL (p.steps.getD i default).on_ true s.on_}:=by
 unfold B0G at h
 by_cases h1:s.begun.getD i 0<0
 ·rw[dT h1,cT]at h
  cases h2:(p.steps.getD i default).need.all (fun n=>A6e s n.toNat)with
  | false=>rw[h2]at h;cases h
  | true =>
   rw[h2,cT]at h
   cases h3:!s.held with
   | false=>rw[h3]at h;cases h
   | true =>
    cases h4:A4N (p.steps.getD i default) s with
    | false=>rw[h3,h4]at h;cases h
    | true =>
     cases h5:A1Y (p.steps.getD i default) s (p.steps.getD i default).on_ with
     | false=>rw[h3,h4,h5]at h;cases h
     | true =>
      rw[h3,h4,h5]at h
      injection h with h
      exact⟨h1,List.all_eq_true.1 h2,by simpa using h3,rfl,rfl,h.symm⟩
 ·rw[dF h1]at h;cases h
theorem B9G {p:D4} {s s':H2} {i:Nat} {t:Int} (h:B7v p s i t = .ok s'):B2o s i=true∧((p.steps.getD i default).least≤t-s.begun.getD i 0∧t-s.begun.getD i 0≤(p.steps.getD i default).most)∧A4N (p.steps.getD i default) s=true∧A1Y (p.steps.getD i default) s []=true∧(i<p.steps.length-1∨(p.Q8≤t∧t≤p.O8)) ∧
  ∃ s2,A8v p t (p.steps.getD i default).acts s = .ok s2∧s'={s2 with ended:=s2.ended.set i t,on_:=onL (p.steps.getD i default).off false s2.on_}:=by
 unfold B7v at h
 cases h1:B2o s i with
 | false=>rw[h1]at h;cases h
 | true =>
  cases h2:N9 (t-s.begun.getD i 0) (p.steps.getD i default).least (p.steps.getD i default).most with
  | true=>rw[h1,h2]at h;cases h
  | false =>
   cases h3:A4N (p.steps.getD i default) s with
   | false=>rw[h1,h2,h3]at h;cases h
   | true =>
    cases h4:A1Y (p.steps.getD i default) s []with
    | false=>rw[h1,h2,h3,h4]at h;cases h
    | true =>
     cases h5:decide (i<p.steps.length-1) || !N9 t p.Q8 p.O8 with
     | false=>rw[h1,h2,h3,h4,h5]at h;cases h
     | true =>
      rw[h1,h2,h3,h4,h5]at h
      simp only[cT,Bool.not_false]at h
      cases h6:A8v p t (p.steps.getD i default).acts s with
      | error w=>rw[h6]at h;cases h
      | ok s2 =>
       rw[h6]at h
       injection h with h
       refine⟨rfl,O6.1 h2,rfl,rfl,?_,s2,rfl,h.symm⟩
       rw[Bool.or_eq_true,decide_eq_true_eq,Bool.not_eq_true']at h5
       rcases h5 with h5 | h5
       ·exact .inl h5
       ·exact .inr (O6.1 h5)
theorem CF.set {p:D4} {s s':H2} (h:CF p s) (hp:PdK p s') (h1:s'.now=s.now) {b e:List Int} (h2:s'.begun=b) (h3:s'.ended=e) (hb:b.length=p.steps.length∧∀ k,k<p.steps.length → -1≤b.getD k 0∧b.getD k 0≤s.now) (he:e.length=p.steps.length∧∀ k,k<p.steps.length → -1≤e.getD k 0∧e.getD k 0≤s.now) (h5:s'.go.length=s.go.length) (h6:s'.left=s.left) (h7:s'.on_.length=s.on_.length):CF p s' where
 lb:=by rw[h2];exact hb.1
 le:=by rw[h3];exact he.1
 lg:=by rw[h5];exact h.lg
 ll:=by rw[h6];exact h.ll
 lo:=by rw[h7];exact h.lo
 now:=by rw[h1];exact h.now
 b:=by rw[h2,h1];exact hb.2
 e:=by rw[h3,h1];exact he.2
 l:=by rw[h6];exact h.l
 pd:=hp
theorem B6b {l:List Int} {n i:Nat} {t m:Int} (hl:l.length=n) (h:∀ k,k<n → -1≤l.getD k 0∧l.getD k 0≤m) (hi:i<n) (ht:0≤t∧t≤m):(l.set i t).length=n∧∀ k,k<n → -1≤(l.set i t).getD k 0∧(l.set i t).getD k 0≤m:=by
 refine⟨by rw[List.length_set];exact hl,fun k hk=>?_⟩
 rw[sG oM]
 split
 ·omega
 ·exact h k hk
theorem B2m {p:D4} {l:List Int} {m:Int} {f:Nat} (h:∀ k,k<p.steps.length → -1≤l.getD k 0∧l.getD k 0≤m) (hm:0≤m):(A6r p l f).length=p.steps.length∧∀ k,k<p.steps.length → -1≤(A6r p l f).getD k 0∧(A6r p l f).getD k 0≤m:=by
 unfold A6r
 refine⟨B15 _ _,fun k hk=>?_⟩
 rw[B48 hk]
 split
 ·omega
 ·exact h k hk
theorem B2E {p:D4} {e:C7} (he:B18 p e) (hk:A3r e.kind=false):e.what.toNat<A20 p e.kind∧0≤e.what:=by
 have:=he.w hk
 omega
theorem B8H {p:D4} {s s':H2} {e:C7} (ho:A5Y p) (hs:CF p s) (he:B18 p e) (ht:s.now=e.at_) (h:B3L p s e = .ok s'):CF p s'∧s'.now=s.now:=by
 have hn:=hs.now
 unfold B3L at h
 by_cases h1:e.kind=1
 ·rw[if_pos h1]at h
  obtain⟨_,_,_,_,_,rfl⟩:=B7p h
  have hw:=B2E he (by rw[h1];rfl)
  have hm:A20 p e.kind=p.steps.length:=by rw[h1];rfl
  exact⟨hs.set hs.pd rfl rfl rfl (B6b hs.lb hs.b oM oM) ⟨hs.le,hs.e⟩ rfl rfl (B5M _ _ _),rfl⟩
 rw[if_neg h1]at h
 by_cases h2:e.kind=2
 ·rw[if_pos h2]at h
  obtain⟨_,_,_,_,_,s2,h6,rfl⟩:=B9G h
  obtain⟨k0,k1,k2,k3,k4,k5,k6,k7⟩:=A83 h6 hs.pd
  have hw:=B2E he (by rw[h2];rfl)
  have hm:A20 p e.kind=p.steps.length:=by rw[h2];rfl
  refine⟨hs.set k0 k1 rfl rfl ⟨by rw[k2];exact hs.lb,by rw[k2];exact hs.b⟩ ?_ (by rw[← k5]) (by rw[← k6]) (by rw[← k7];exact B5M _ _ _),k1⟩
  rw[k3]
  exact B6b hs.le hs.e oM oM
 rw[if_neg h2]at h
 by_cases h3:e.kind=3∨e.kind=4
 ·rw[if_pos h3]at h
  unfold B5G at h
  cases hh:s.held != decide (e.kind=3)with
  | false=>rw[hh]at h;cases h
  | true =>
   rw[hh,cT]at h
   injection h with h
   subst h
   exact⟨hs.keep hs.pd rfl rfl rfl rfl rfl rfl,rfl⟩
 rw[if_neg h3]at h
 by_cases h5:e.kind=5∨e.kind=6
 ·rw[if_pos h5]at h
  unfold B9m at h
  cases hh:s.go.getD e.what.toNat false != decide (e.kind=5)with
  | false=>rw[hh]at h;cases h
  | true =>
   rw[hh,cT]at h
   injection h with h
   subst h
   exact⟨hs.keep hs.pd rfl rfl rfl (List.length_set ..) rfl rfl,rfl⟩
 rw[if_neg h5]at h
 by_cases h7:e.kind=7
 ·rw[if_pos h7]at h
  unfold B9i at h
  cases hh:decide (0≤s.begun.getD (p.points.getD e.what.toNat 0).toNat 0)with
  | false=>rw[hh]at h;cases h
  | true =>
   cases h8:!s.J3.any (fun e=>decide ((1:Int)=e))with
   | false=>rw[hh,h8]at h;cases h
   | true =>
    rw[hh,h8,cT,cT]at h
    injection h with h
    subst h
    exact⟨hs.set hs.pd rfl rfl rfl (B2m hs.b hn.1) (B2m hs.e hn.1) (List.length_replicate ..) rfl (List.length_replicate ..),rfl⟩
 rw[if_neg h7]at h
 by_cases h8:e.kind=8
 ·rw[if_pos h8]at h
  have hp:=B24 hs.pd h
  unfold A8L at h
  cases hd:decide ((DoP (A1w p) (B1c s) (A8M e)).2=0)with
  | false=>rw[hd]at h;cases h
  | true =>
   rw[hd,cT]at h
   injection h with h
   subst h
   exact⟨hs.keep hp rfl rfl rfl rfl rfl rfl,rfl⟩
 rw[if_neg h8]at h
 have h9:e.kind=9:=by have:=he.k;omega
 have hw:=B2E he (by rw[h9];rfl)
 have hm:A20 p e.kind=p.batteries.length:=by rw[h9];rfl
 unfold B0v at h
 cases hh:!s.on_.getD e.what.toNat false with
 | false=>rw[hh]at h;cases h
 | true =>
  rw[hh,cT]at h
  injection h with h
  subst h
  refine⟨⟨hs.lb,hs.le,hs.lg,by show(s.left.set _ _).length=_;rw[List.length_set];exact hs.ll,hs.lo,hs.now,hs.b,hs.e,fun k hk=>?_,hs.pd⟩,rfl⟩
  show 0≤(s.left.set _ _).getD k 0∧(s.left.set _ _).getD k 0≤_
  rw[sG (by have:=hs.ll;omega)]
  split
  ·next e1 =>
   have:=(ho.b k hk).1
   rw[e1]at this
   rw[e1]
   omega
  ·exact hs.l k hk
theorem C0w {p:D4} {s s':H2} {e:C7} (h:doC p s e = .ok s'):s.now≤e.at_∧A6e s (p.steps.length-1)=false∧B3L p (B4e p s e.at_) e = .ok s':=by
 unfold doC at h
 by_cases h1:s.now≤e.at_
 ·rw[dT h1,cT]at h
  cases h2:A6e s (p.steps.length-1)with
  | true=>rw[h2]at h;cases h
  | false=>rw[h2]at h;exact⟨h1,rfl,h⟩
 ·rw[dF h1]at h;cases h
theorem C0u {p:D4} {s s':H2} {e:C7} (ho:A5Y p) (hs:CF p s) (he:B18 p e) (h:doC p s e = .ok s'):CF p s'∧s'.now=e.at_:=by
 obtain⟨h1,h2,h3⟩:=C0w h
 exact B8H ho (B5P ho hs ⟨h1,he.t.2⟩) he rfl h3
def A8k (p:D4):List C7→Int
 | []=>0
 | x::l=>bif decide (A5H p x=0)then A8k p l else A5H p x
theorem B2F {p:D4}:∀ {l:List C7},A8k p l=0→∀ x∈l,B18 p x
 | [],_=>fun x hx=>by simp at hx
 | y::l,h=>fun x hx=>by
  rw[A8k]at h
  by_cases h0:A5H p y=0
  ·rw[dT h0,cT]at h
   rcases List.mem_cons.1 hx with rfl | hx
   ·exact B60 h0
   ·exact B2F h x hx
  ·rw[dF h0,cF]at h;exact absurd h h0
def A7y (p:D4) (x:H2 × List Int) (e:C7):H2 × List Int:=match doC p x.1 e with
 | .ok s=>(s,x.2++[0])
 | .error w=>(x.1,x.2++[w])
def A3F (p:D4) (x:H2 × List Int) (l:List C7):H2 × List Int:=l.foldl (A7y p) x
theorem B43 {p:D4} {x:H2 × List Int} {e:C7} (ho:A5Y p) (hs:CF p x.1) (he:B18 p e):CF p (A7y p x e).1∧(A7y p x e).2.length=x.2.length+1:=by
 unfold A7y
 cases h:doC p x.1 e with
 | ok s=>exact⟨(C0u ho hs he h).1,by simp⟩
 | error w=>exact⟨hs,by simp⟩
def A0O (p:D4) (l:List C7):Option H2 × List Int × Int :=
 if(A35 p).2.2=0 then(if 100<(l.length:Int)then(none,[],3)else if A8k p l=0 then(some (A3F p (A0U p,[]) l).1,(A3F p (A0U p,[]) l).2,0)else(none,[],A8k p l))else(none,[],(A35 p).2.2)
abbrev B5Q (F:Nat) (log:List C7) (K:F7→List Int→Option ((Option F7) × (List Int) × Int)) (n:Nat) (d:F7) (why:List Int) (k:Int):Option ((Option F7) × (List Int) × Int):=A2c F log (fun d1 d2 d3 d4 d5 d6 d7 d8 d9 d10 d11 d12 d13 d14 d15 d16 d17 d18 d19 d20 d21 d22 d23 d24 d25 d26 why2 _=>K (F7.mk d1 d2 d3 d4 d5 d6 d7 d8 d9 d10 d11 d12 d13 d14 d15 d16 d17 d18 d19 d20 d21 d22 d23 d24 d25 d26) why2) n d.H0 d.G8 d.G2 d.H4 d.G3 d.G9 d.H5 d.H9 d.E7 d.F8 d.I9 d.D8 d.G0 d.H6 d.G5 d.F5 d.E8 d.E5 d.F3 d.F4 d.A1 d.A5 d.F9 d.B1 d.A7 d.B0 why k
theorem B5r (F:Nat) (log:List C7) (K:F7→List Int→Option ((Option F7) × (List Int) × Int)) (n:Nat) (d:F7) (why:List Int) (k:Int):B5Q F log K (n+1) d why k=if k<(log.length:Int)then((P3 log k).bind fun e6=>(A1F F d e6).bind fun rv4=>exE rv4 (fun x5=>(A8i why [x5]).bind fun q=>B5Q F log K n d q (W (k+1))) (fun v=>(A8i why [0]).bind fun q2=>B5Q F log K n v q2 (W (k+1))))else K d why:=rfl
theorem B2i {F:Nat} {p:D4} (hf:CtF F p) (ho:A5Y p) {l:List C7} (hl:l.length≤100) (he:∀ e∈l,B18 p e) {K:F7→List Int→Option ((Option F7) × (List Int) × Int)}:∀ (n k:Nat) (x:H2 × List Int),CF p x.1→x.2.length=k→l.length<n+k→k≤l.length →
  B5Q F l K n (dsk p x.1) x.2 k=K (dsk p (A3F p x (l.drop k)).1) (A3F p x (l.drop k)).2
 | 0,k,x,_,_,h,h2=>absurd h oM
 | n+1,k,x,hs,hx,h,h2=>by
  rw[B5r]
  by_cases hk:k<l.length
  ·have hev:=he _ (List.getElem_mem hk)
   obtain⟨c1,c2⟩:=B43 (x:=x) ho hs hev
   have ih:=B2i hf ho hl he (K:=K) n (k+1) (A7y p x l[k]) c1 oM oM oM
   rw[if_pos oM,H3 hk,oS,C0v hf ho hs hev,oS,lD hk,S0 oM,show A3F p x (l[k]::l.drop (k+1))=A3F p (A7y p x l[k]) (l.drop (k+1))from rfl,← ih]
   unfold A7y
   cases hd:doC p x.1 l[k]with
   | ok s=>exact congrArg (fun o=>Option.bind o _) (A8O oM)
   | error w=>exact congrArg (fun o=>Option.bind o _) (A8O oM)
  ·rw[if_neg oM,lL oM]
   rfl
theorem B72 {F:Nat} {p:D4} (hf:CtF F p) (ho:A5Y p) {l:List C7} (hl:l.length≤100) {c:Option ((Option F7) × (List Int) × Int)}:∀ (n k:Nat) (r:Int),l.length<n+k→k≤l.length →
  A2d F p l (fun _ _=>c) n r k=if A8k p (l.drop k)=0 then c else some (none,[],A8k p (l.drop k))
 | 0,k,r,h,h2=>absurd h oM
 | n+1,k,r,h,h2=>by
  rw[A2d]
  by_cases hk:k<l.length
  ·rw[if_pos oM,H3 hk,oS,B71 hf ho,oS,S0 oM,lD hk,A8k]
   by_cases h0:A5H p l[k]=0
   ·rw[if_pos h0,dT h0,cT,B72 hf ho hl n (k+1) _ oM oM]
   ·rw[if_neg h0,dF h0,cF,if_neg h0]
  ·rw[if_neg oM,lL oM]
   rfl
theorem B9a {F:Nat} {p:D4} (hf:CtF F p) (l:List C7):A42 F p l=some ((A0O p l).1.map (dsk p),(A0O p l).2.1,(A0O p l).2.2):=by
 have hF:=hf.pd.f
 rw[A42,B7o hf,oS]
 unfold A0O
 by_cases h0:(A35 p).2.2=0
 ·have ho:=A95 h0
  rw[if_pos h0,if_pos h0]
  show(if(0:Int)=0 then _ else(some (none,[],0):Option ((Option F7) × (List Int) × Int)))=_
  rw[if_pos rfl]
  by_cases h1:100<(l.length:Int)
  ·rw[if_pos h1,if_pos h1];rfl
  ·rw[if_neg h1,if_neg h1]
   refine(B72 hf ho oM F 0 0 oM oM).trans ?_
   rw[List.drop_zero]
   by_cases h2:A8k p l=0
   ·rw[if_pos h2,if_pos h2]
    exact(B2i hf ho oM (B2F h2) (K:=fun d w=>some (some d,w,0)) F 0 (A0U p,[]) (B1z ho) rfl oM oM).trans (by rw[List.drop_zero];rfl)
   ·rw[if_neg h2,if_neg h2];rfl
 ·rw[if_neg h0,if_neg h0,if_neg h0]
  rfl
def C1e:Option H2→H2
 | some s=>s
 | none=>B9C
theorem B1r {p:D4} {l:List C7} (h:(A0O p l).1=none):(A0O p l).2.2≠0:=by
 unfold A0O at h ⊢
 by_cases h0:(A35 p).2.2=0
 ·rw[if_pos h0]at h ⊢
  by_cases h1:100<(l.length:Int)
  ·rw[if_pos h1];decide
  ·rw[if_neg h1]at h ⊢
   by_cases h2:A8k p l=0
   ·rw[if_pos h2]at h;cases h
   ·rw[if_neg h2];exact h2
 ·rw[if_neg h0];exact h0
theorem A8D {p:D4} {l:List C7} {s:H2} (h:(A0O p l).1=some s):(A0O p l).2.2=0∧A5Y p∧l.length≤100∧(∀ e∈l,B18 p e)∧s=(A3F p (A0U p,[]) l).1∧(A0O p l).2.1=(A3F p (A0U p,[]) l).2∧(A35 p).2.2=0∧A8k p l=0:=by
 unfold A0O at h ⊢
 by_cases h0:(A35 p).2.2=0
 ·rw[if_pos h0]at h ⊢
  by_cases h1:100<(l.length:Int)
  ·rw[if_pos h1]at h;cases h
  ·rw[if_neg h1]at h ⊢
   by_cases h2:A8k p l=0
   ·rw[if_pos h2]at h ⊢
    injection h with h
    exact⟨rfl,A95 h0,by omega,B2F h2,h.symm,rfl,h0,h2⟩
   ·rw[if_neg h2]at h;cases h
 ·rw[if_neg h0]at h;cases h
theorem B2h {p:D4} {l:List C7} (h:(A0O p l).1=none):(A0O p l).2.1=[]:=by
 unfold A0O at h ⊢
 by_cases h0:(A35 p).2.2=0
 ·rw[if_pos h0]at h ⊢
  by_cases h1:100<(l.length:Int)
  ·rw[if_pos h1]
  ·rw[if_neg h1]at h ⊢
   by_cases h2:A8k p l=0
   ·rw[if_pos h2]at h;cases h
   ·rw[if_neg h2]
 ·rw[if_neg h0]
theorem B56 {F:Nat} {p:D4} (hf:CtF F p) (l:List C7):A36 F p l=some (C1e (A0O p l).1,(A0O p l).2.1,(A0O p l).2.2):=by
 rw[A36,B9a hf,oS]
 cases h:(A0O p l).1 with
 | none =>
  have h1:=B1r h
  have h2:=B2h h
  show(if(A0O p l).2.2=0 then _ else _)=_
  rw[if_neg h1,h2]
  rfl
 | some s =>
  have h1:=(A8D h).1
  show(if(A0O p l).2.2=0 then _ else _)=_
  rw[if_pos h1,h1]
  rfl
theorem B0O {p:D4}:∀ {l:List C7},A8k p l=0↔∀ x∈l,A5H p x=0
 | []=>by simp[A8k]
 | y::l=>by
  rw[A8k]
  by_cases h0:A5H p y=0
  ·rw[dT h0,cT,B0O]
   simp[h0]
  ·rw[dF h0,cF]
   simp[h0]
theorem B7X {p:D4} {l:List C7} (h0:(A35 p).2.2=0) (h1:l.length≤100) (h2:∀ x∈l,A5H p x=0):A0O p l=(some (A3F p (A0U p,[]) l).1,(A3F p (A0U p,[]) l).2,0):=by
 unfold A0O
 rw[if_pos h0,if_neg oM,if_pos (B0O.2 h2)]
def A91 (p:D4) (s:H2) (e:C7):H2:=match doC p s e with
 | .ok s'=>s'
 | .error _=>s
def B91:Except Int H2→Int
 | .ok _=>0
 | .error w=>w
def B8z (p:D4) (s:H2) (l:List C7):H2:=l.foldl (A91 p) s
def B57 (p:D4):H2→List C7→List Int
 | _,[]=>[]
 | s,e::l=>B91 (doC p s e)::B57 p (A91 p s e) l
theorem C1z (p:D4) (s:H2) (w:List Int) (e:C7):A7y p (s,w) e=(A91 p s e,w++[B91 (doC p s e)]):=by
 unfold A7y A91
 cases h:doC p (s,w).1 e<;>rfl
theorem C0n (p:D4):∀ (l:List C7) (s:H2) (w:List Int),A3F p (s,w) l=(B8z p s l,w++B57 p s l)
 | [],s,w=>by simp[A3F,B8z,B57]
 | e::l,s,w=>by
  rw[show A3F p (s,w) (e::l)=A3F p (A7y p (s,w) e) l from rfl,C1z,C0n p l,B57,List.append_assoc]
  rfl
theorem B4G (p:D4):∀ (l:List C7) (s:H2),(B57 p s l).length=l.length
 | [],_=>rfl
 | e::l,s=>by rw[B57,List.length_cons,B4G p l,List.length_cons]
theorem C2Y (p:D4) (s:H2) (a b:List C7):B8z p s (a++b)=B8z p (B8z p s a) b:=List.foldl_append
theorem C1l {p:D4} {l:List C7} {s:H2} (h:(A0O p l).1=some s):s=B8z p (A0U p) l∧(A0O p l).2.1=B57 p (A0U p) l:=by
 obtain⟨_,_,_,_,h1,h2,_,_⟩:=A8D h
 rw[C0n]at h1 h2
 exact⟨h1,by rw[h2];rfl⟩
theorem C0S {p:D4} (ho:A5Y p) (I:H2→Prop) (hI:∀ s e s',I s→CF p s→B18 p e→doC p s e = .ok s'→I s'):∀ {l:List C7} {s:H2},I s→CF p s→(∀ e∈l,B18 p e)→I (B8z p s l)∧CF p (B8z p s l)
 | [],s,h,hs,_=>⟨h,hs⟩
 | e::l,s,h,hs,he=>by
  have h1:I (A91 p s e)∧CF p (A91 p s e):=by
   unfold A91
   cases hd:doC p s e with
   | ok s'=>exact⟨hI s e s' h hs (he e sM) hd,(C0u ho hs (he e sM) hd).1⟩
   | error w=>exact⟨h,hs⟩
  exact C0S ho I hI (l:=l) h1.1 h1.2 fun x hx=>he x (by simp[hx])
theorem C16 {p:D4} (ho:A5Y p) {l:List C7} {s:H2} (hs:CF p s) (he:∀ e∈l,B18 p e):CF p (B8z p s l):=(C0S ho (fun _=>True) (fun _ _ _ _ _ _ _=>trivial) trivial hs he).2
structure C1t (p:D4) (s:H2):Prop where
 a:∀ k,k<p.steps.length→s.begun.getD k 0<0→s.ended.getD k 0<0
 l:∀ k,k<p.steps.length→0≤s.ended.getD k 0→(p.steps.getD k default).least≤s.ended.getD k 0-s.begun.getD k 0∧s.ended.getD k 0-s.begun.getD k 0≤(p.steps.getD k default).most
 n:∀ k,k<p.steps.length→0≤s.begun.getD k 0→∀ m∈(p.steps.getD k default).need,0≤s.ended.getD m.toNat 0∧s.ended.getD m.toNat 0≤s.begun.getD k 0
 e:0≤s.ended.getD (p.steps.length-1) 0→(p.Q8≤s.ended.getD (p.steps.length-1) 0∧s.ended.getD (p.steps.length-1) 0≤p.O8)∧s.ended.getD (p.steps.length-1) 0=s.now
def C0m (y:List Int) (l:List Int) (n:Int):Int:=l.foldl (fun n m=>max n (y.getD m.toNat 0)) n
def C1H (p:D4) (s:H2) (t:Int) (y:List Int) (k:Nat):Int :=
 bif A6e s k then s.ended.getD k 0 else bif B2o s k then max t (s.begun.getD k 0+(p.steps.getD k default).least)else C0m y (p.steps.getD k default).need t+(p.steps.getD k default).least
def B3l (p:D4) (s:H2) (t:Int):Nat→List Int
 | 0=>[]
 | k+1=>B3l p s t k++[C1H p s t (B3l p s t k) k]
theorem C1g (p:D4) (s:H2) (t:Int):∀ k,(B3l p s t k).length=k
 | 0=>rfl
 | k+1=>by rw[B3l,List.length_append,C1g p s t k];rfl
theorem C1p {p:D4} {s:H2} {t:Int} {j:Nat}:∀ {k:Nat},j<k→(B3l p s t k).getD j 0=C1H p s t (B3l p s t j) j
 | 0,h=>by omega
 | k+1,h=>by
  rw[B3l]
  have hl:=C1g p s t k
  by_cases hj:j=k
  ·subst hj
   simp[List.getD_eq_getElem?_getD,List.getElem?_append_right,hl]
  ·rw[← C1p (p:=p) (s:=s) (t:=t) (j:=j) (k:=k) oM]
   have hjk:j<(B3l p s t k).length:=by rw[hl];omega
   simp[List.getD_eq_getElem?_getD,List.getElem?_append_left hjk]
theorem C1L (y:List Int):∀ (l:List Int) (n:Int),n≤C0m y l n∧∀ m∈l,y.getD m.toNat 0≤C0m y l n
 | [],n=>⟨Int.le_refl _,fun m h=>by simp at h⟩
 | x::l,n=>by
  obtain⟨h1,h2⟩:=C1L y l (max n (y.getD x.toNat 0))
  refine⟨by show n≤C0m y l (max n (y.getD x.toNat 0));omega,fun m hm=>?_⟩
  show y.getD m.toNat 0≤C0m y l (max n (y.getD x.toNat 0))
  rcases List.mem_cons.1 hm with rfl | hm
  ·omega
  ·exact h2 m hm
theorem C1M (y:List Int) {b:Int}:∀ (l:List Int) (n:Int),n≤b→(∀ m∈l,y.getD m.toNat 0≤b)→C0m y l n≤b
 | [],n,h,_=>h
 | x::l,n,h,h2=>C1M y l (max n (y.getD x.toNat 0)) (by have:=h2 x sM;omega) fun m hm=>h2 m (by simp[hm])
theorem C1R {p:D4} {s:H2} {t:Int} (ho:A5Y p) (hs:CF p s) (ht:0≤t∧t≤100000):∀ k,k≤p.steps.length→∀ j,j<k→0≤(B3l p s t k).getD j 0∧(B3l p s t k).getD j 0≤120000+20000*j
 | 0,_,j,h=>by omega
 | k+1,hk,j,hj=>by
  rw[C1p hj]
  have hjk:j<p.steps.length:=by omega
  have hx:=ho.t j hjk
  have hl:=hx.l;have hm:=hx.m
  have hb:=hs.b j hjk
  have hee:=hs.e j hjk
  have hn:=hs.now
  unfold C1H
  cases hd:A6e s j with
  | true =>
   rw[cT]
   have:0≤s.ended.getD j 0:=of_decide_eq_true hd
   omega
  | false =>
   rw[cF]
   cases B2o s j with
   | true=>rw[cT];omega
   | false =>
    rw[cF]
    have h1:=(C1L (B3l p s t j) (p.steps.getD j default).need t).1
    have h2:C0m (B3l p s t j) (p.steps.getD j default).need t≤100000+20000*j:=by
     refine C1M _ _ _ oM fun m hm=>?_
     have hmd:=hx.nd m hm
     have:=(C1R ho hs ht j oM m.toNat oM).2
     omega
    omega
theorem C1T {F:Nat} {x:E0} {k:Nat} {y:List Int} (hy:y.length=k) (hd:∀ n∈x.need,0≤n∧n<k) (hl:x.need.length≤16) {K:Int→Option (Int × Bool)}:∀ (n j:Nat) (v:Int),x.need.length<n+j→j≤x.need.length →
  A0o F y x (fun v _=>K v) n v j=K (C0m y (x.need.drop j) v)
 | 0,j,v,h,h2=>absurd h oM
 | n+1,j,v,h,h2=>by
  rw[A0o]
  by_cases hj:j<x.need.length
  ·have hm:=hd _ (List.getElem_mem hj)
   have em:x.need[j]=((x.need[j].toNat:Nat):Int):=by omega
   have hx:P3 y x.need[j]=some (y.getD x.need[j].toNat 0):=by
    have:=H3 (show x.need[j].toNat<y.length by omega)
    rw[← em]at this
    rw[this,J6 0 oM]
   rw[if_pos oM,H3 hj,oS,hx,oS,S0 oM,C1T hy hd hl n (j+1) _ oM oM,lD hj]
   rfl
  ·rw[if_neg oM,lL oM]
   rfl
theorem C1S {F:Nat} {p:D4} {s:H2} {t:Int} (hF:100<F) (ho:A5Y p) (hs:CF p s) (ht:0≤t∧t≤100000) {K:List Int→Option (Int × Bool)}:∀ (n k:Nat),p.steps.length<n+k→k≤p.steps.length →
  T5 F (dsk p s) t (fun y _=>K y) n (B3l p s t k) k=K (B3l p s t p.steps.length)
 | 0,k,h,h2=>absurd h oM
 | n+1,k,h,h2=>by
  have t16:=ho.t16
  rw[T5]
  by_cases hk:k<p.steps.length
  ·have hx:=ho.t k hk
   have hl:=B0F hx.na hx.nd
   have hb:=hs.b k hk
   have hee:=hs.e k hk
   have hn:=hs.now
   have hxl:=hx.l;have hxm:=hx.m
   have lb:=hs.lb;have le:=hs.le
   have hrng:=C1R ho hs ht (k+1) oM k oM
   rw[C1p oM]at hrng
   have j1:∀ v,v=C1H p s t (B3l p s t k) k→A0n F (T5 F (dsk p s) t (fun y _=>K y) n) (B3l p s t k) k v=K (B3l p s t p.steps.length):=fun v hv=>by
    rw[A0n,A8O (by rw[C1g];omega),oS,S0 oM,hv]
    exact C1S hF ho hs ht n (k+1) oM oM
   rw[if_pos (by show(k:Int)<(p.steps.length:Int);omega),show P3 (dsk p s).F8 k=some (p.steps.getD k default) by rw[J6 default hk];exact H3 hk,oS,B2C hs hk,oS,B9l hs hk,oS]
   have hend:C1H p s t (B3l p s t k) k=C1H p s t (B3l p s t k) k:=rfl
   unfold C1H at hend j1 hrng
   cases hd:A6e s k with
   | true =>
    rw[hd]at j1
    rw[if_pos rfl,show P3 (dsk p s).A5 k=some (s.ended.getD k 0) by rw[J6 0 oM];exact H3 (show k<s.ended.length by omega),oS]
    exact j1 _ rfl
   | false =>
    rw[hd]at j1 hrng
    rw[if_neg sM]
    cases hr:B2o s k with
    | true =>
     rw[hr]at j1
     rw[if_pos rfl,show P3 (dsk p s).A1 k=some (s.begun.getD k 0) by rw[J6 0 oM];exact H3 (show k<s.begun.length by omega),oS,A8K oM oM]
     exact j1 _ rfl
    | false =>
     rw[hr]at j1 hrng
     rw[if_neg sM]
     refine(C1T (K:=fun x2=>A0n F (T5 F (dsk p s) t (fun y _=>K y) n) (B3l p s t k) k (W (x2+(p.steps.getD k default).least))) (C1g p s t k) hx.nd oM F 0 t oM oM).trans ?_
     rw[List.drop_zero]
     simp only[cF]at hrng
     rw[A8K oM oM]
     exact j1 _ rfl
  ·obtain rfl:k=p.steps.length:=by omega
   rw[if_neg (by show ¬ (p.steps.length:Int)<(p.steps.length:Int);omega)]
def C1I (p:D4) (s:H2) (t n:Int) (i:Nat):Bool:=B2o s i&&(decide (s.begun.getD i 0+(p.steps.getD i default).most<t)||(decide (i=p.steps.length-1)&&decide (s.begun.getD i 0+(p.steps.getD i default).most<n)))
def C0p (p:D4) (s:H2) (t n:Int):Nat→(Nat→Bool)→Bool
 | 0,_=>false
 | i+1,f=>bif f i then(bif C1I p s t n i then true else C0p p s t n i fun j=>f j||(p.steps.getD i default).need.any fun m=>decide (m=(j:Int)))else C0p p s t n i f
def C0t (p:D4) (s:H2) (t:Int):Int:=max ((B3l p s t p.steps.length).getD (p.steps.length-1) 0) p.Q8
def C1w (p:D4) (s:H2) (t:Int):Bool:=C0p p s t (C0t p s t) p.steps.length fun j=>decide (j=p.steps.length-1)
def A6b (p:D4) (s:H2) (t:Int):Int × Bool:=bif C1w p s t then(0,false)else(C0t p s t,decide (C0t p s t≤p.O8))
theorem C2g (m:List (Int × Bool)) (a b:Int):(A2e (M0 m a true) b).getD false=((A2e m b).getD false||decide (a=b)):=by
 induction m with
 | nil =>
  show(A2e [(a,true)] b).getD false=_
  unfold A2e
  by_cases h:a=b
  ·subst h;simp
  ·have h2:¬ b=a:=fun e=>h e.symm
   simp[h,h2]
 | cons x m ih =>
  unfold M0
  by_cases hx:(a==x.1)=true
  ·rw[hx,cT]
   have hx':a=x.1:=by simpa using hx
   unfold A2e
   by_cases hb:b=x.1
   ·simp[hb,hx']
   ·have h2:¬ a=b:=fun e=>hb (by rw[← e,hx'])
    simp[hb,h2,hx']
    intro e;exact absurd e.symm hb
  ·rw[show(a==x.1)=false by simpa using hx,cF]
   unfold A2e at ih ⊢
   by_cases hb:b=x.1
   ·have h2:¬ a=b:=fun e=>hx (by rw[e,hb];simp)
    simp[hb]
    intro e
    exact absurd (by rw[e];simp) hx
   ·simpa[hb]using ih
theorem C2i {F:Nat} {x:E0} {i:Nat} (hl:x.need.length≤16) (hF:100<F) {K:List (Int × Bool)→Option (Int × Bool)}:∀ (n j:Nat) (m:List (Int × Bool)),x.need.length<n+j→j≤x.need.length →
  ∃ m',A0p F x (fun m _=>K m) n m j=K m'∧∀ b:Int,(A2e m' b).getD false=((A2e m b).getD false||(x.need.drop j).any fun a=>decide (a=b))
 | 0,j,m,h,h2=>absurd h oM
 | n+1,j,m,h,h2=>by
  rw[A0p]
  by_cases hj:j<x.need.length
  ·obtain⟨m',h3,h4⟩:=C2i (i:=i) hl hF n (j+1) (M0 m x.need[j] true) oM oM
   refine⟨m',by rw[if_pos oM,H3 hj,oS,S0 oM];exact h3,fun b=>?_⟩
   rw[h4,C2g,lD hj,List.any_cons,Bool.or_assoc]
  ·exact⟨m,by rw[if_neg oM],fun b=>by rw[lL oM];simp⟩
theorem C12 {F:Nat} {p:D4} {s:H2} {t:Int} (hF:100<F) (ho:A5Y p) (hs:CF p s) {e6:Int} {mm0:List (Int × Bool)} {c:Option (Int × Bool)}:∀ (n k:Nat) (m:List (Int × Bool)) (f:Nat→Bool),(∀ j:Nat,(A2e m j).getD false=f j)→k<n→k≤p.steps.length →
  R4 F (dsk p s) t e6 (dsk p s,mm0) p.steps (fun _ _=>c) n ((k:Int)-1) m=bif C0p p s t (max e6 p.Q8) k f then some (0,false)else c
 | 0,k,m,f,_,h,h2=>absurd h oM
 | n+1,0,m,f,hm,h,h2=>by
  rw[R4,if_neg oM]
  rfl
 | n+1,k+1,m,f,hm,h,h2=>by
  have hk:k<p.steps.length:=by omega
  have t16:=ho.t16
  have hx:=ho.t k hk
  have hl:=B0F hx.na hx.nd
  have hb:=hs.b k hk
  have hn:=hs.now
  have hxm:=hx.m
  have lb:=hs.lb
  have ek:(((k+1:Nat):Int)-1)=(k:Int):=by omega
  rw[ek,R4,if_pos oM,show P3 p.steps (k:Int)=some (p.steps.getD k default) by rw[J6 default hk];exact H3 hk,oS,hm,C0p,show W ((k:Int)-1)=(k:Int)-1 from A8K oM oM]
  cases hf:f k with
  | false =>
   rw[if_neg sM,cF]
   exact C12 hF ho hs n k m f hm oM oM
  | true =>
   rw[if_pos rfl,cT]
   obtain⟨m',h3,h4⟩:=C2i (F:=F) (i:=k) (x:=p.steps.getD k default) oM hF (K:=fun mm2=>(A0R F (dsk p s) k).bind fun rv6=>if rv6=true then((P3 (dsk p s).A1 k).bind fun e9=>(some (p.steps.getD k default)).bind fun e10=>if(W (e9+e10.most))<t then(A1b F)else((U8 F (dsk p s)).bind fun rv7=>if(k:Int)=rv7 then(if(W (e9+e10.most))<(max e6 (dsk p s).D8)then(A1b F)else(A1c F (R4 F (dsk p s) t e6 (dsk p s,mm0) p.steps (fun _ _=>c) n) k mm2))else(A1c F (R4 F (dsk p s) t e6 (dsk p s,mm0) p.steps (fun _ _=>c) n) k mm2)))else(R4 F (dsk p s) t e6 (dsk p s,mm0) p.steps (fun _ _=>c) n ((k:Int)-1) mm2)) F 0 m oM oM
   refine Eq.trans (Eq.trans ?_ h3) ?_
   ·rfl
   rw[List.drop_zero]at h4
   have ih:=C12 (t:=t) (e6:=e6) (mm0:=mm0) (c:=c) hF ho hs n k m' (fun j=>f j||(p.steps.getD k default).need.any fun m=>decide (m=(j:Int))) (fun j=>by rw[h4,hm]) oM oM
   rw[B9l hs hk,oS]
   unfold C1I
   cases hr:B2o s k with
   | false=>rw[if_neg sM,ih];rfl
   | true =>
    rw[if_pos rfl,show P3 (dsk p s).A1 k=some (s.begun.getD k 0) by rw[J6 0 oM];exact H3 (show k<s.begun.length by omega),oS,oS,A8K (x:=s.begun.getD k 0+(p.steps.getD k default).most) oM oM,B2K ho,oS,A1b,A1c,A8K (x:=(k:Int)-1) oM oM,ih,Bool.true_and]
    by_cases c1:s.begun.getD k 0+(p.steps.getD k default).most<t
    ·rw[if_pos c1,dT c1];rfl
    ·rw[if_neg c1,dF c1,Bool.false_or]
     by_cases c2:k=p.steps.length-1
     ·rw[if_pos oM,dT c2,Bool.true_and]
      show(if s.begun.getD k 0+(p.steps.getD k default).most<max e6 p.Q8 then _ else _)=_
      by_cases c3:s.begun.getD k 0+(p.steps.getD k default).most<max e6 p.Q8
      ·rw[if_pos c3,dT c3];rfl
      ·rw[if_neg c3,dF c3];rfl
     ·rw[if_neg oM,dF c2];rfl
theorem C1G {F:Nat} {p:D4} {s:H2} {t:Int} (hF:100<F) (ho:A5Y p) (hs:CF p s) (ht:0≤t∧t≤100000):A2h F (dsk p s) t=some (A6b p s t):=by
 have t1:=ho.t1;have t16:=ho.t16
 rw[A2h]
 refine(C1S hF ho hs ht F 0 oM oM).trans ?_
 rw[B2K ho,oS,show P3 (B3l p s t p.steps.length) ((p.steps.length-1:Nat):Int)=some ((B3l p s t p.steps.length).getD (p.steps.length-1) 0) by rw[J6 0 (by rw[C1g];omega)];exact H3 (by rw[C1g];omega),oS]
 rw[A37,B2K ho,oS,oS,A2C,oS]
 show R4 F (dsk p s) t _ (dsk p s,_) p.steps _ F (W ((p.steps.length:Int)-1)) _=_
 rw[A8K oM oM]
 refine(C12 hF ho hs F p.steps.length _ (fun j=>decide (j=p.steps.length-1)) (fun j=>?_) oM (Nat.le_refl _)).trans ?_
 ·rw[C2g]
  show(false||_)=_
  rw[Bool.false_or,decide_eq_decide]
  omega
 ·unfold A6b C1w C0t
  cases C0p p s t (max ((B3l p s t p.steps.length).getD (p.steps.length-1) 0) p.Q8) p.steps.length fun j=>decide (j=p.steps.length-1)<;>rfl
def B8x (p:D4) (s:H2) (t:Int):Bool:=(A6b p s t).2
theorem C1O {p:D4} {s:H2} {t:Int}:B8x p s t=true↔C1w p s t=false∧C0t p s t≤p.O8:=by
 unfold B8x A6b
 cases C1w p s t<;>simp
theorem C2h {p:D4} {s:H2} {t:Int} (h:B8x p s t=true):(A6b p s t).1=C0t p s t:=by
 have:=(C1O.1 h).1
 unfold A6b
 rw[this];rfl
def B6Z (p:D4) (l:List C7):Option H2 × Int:=match (A0O p l).1 with
 | none=>(none,(A0O p l).2.2)
 | some s=>bif A6e s (p.steps.length-1)then(none,9)else(some s,0)
theorem C18 {p:D4} {l:List C7} (h:(B6Z p l).1=none):(B6Z p l).2≠0:=by
 unfold B6Z at h ⊢
 cases hp:(A0O p l).1 with
 | none=>exact B1r hp
 | some s =>
  rw[hp]at h
  simp only at h ⊢
  cases hd:A6e s (p.steps.length-1)with
  | true=>show(9:Int)≠0;decide
  | false=>rw[hd]at h;cases h
theorem C19 {p:D4} {l:List C7} {s:H2} (h:(B6Z p l).1=some s):(B6Z p l).2=0∧(A0O p l).1=some s∧A6e s (p.steps.length-1)=false:=by
 unfold B6Z at h ⊢
 cases hp:(A0O p l).1 with
 | none=>rw[hp]at h;cases h
 | some s2 =>
  rw[hp]at h
  simp only at h ⊢
  cases hd:A6e s2 (p.steps.length-1)with
  | true=>rw[hd]at h;cases h
  | false=>rw[hd]at h;injection h with h;subst h;exact⟨rfl,rfl,hd⟩
theorem C2a {F:Nat} {p:D4} (hf:CtF F p) (l:List C7):A6V F p l=some ((B6Z p l).1.map (dsk p),(B6Z p l).2):=by
 rw[A6V,B9a hf,oS]
 unfold B6Z
 cases hp:(A0O p l).1 with
 | none =>
  have h1:=B1r hp
  show(if(A0O p l).2.2=0 then _ else _)=_
  rw[if_neg h1];rfl
 | some s =>
  obtain⟨h1,ho,hl,he,_,_,_,_⟩:=A8D hp
  have hs:CF p s:=by rw[(C1l hp).1];exact C16 ho (B1z ho) he
  have t1:=ho.t1
  show(if(A0O p l).2.2=0 then _ else _)=_
  rw[if_pos h1,B2K ho,oS,B2C hs oM,oS]
  show _=some ((bif A6e s (p.steps.length-1)then((none,9):Option H2 × Int)else(some s,0)).1.map (dsk p),(bif A6e s (p.steps.length-1)then((none,9):Option H2 × Int)else(some s,0)).2)
  cases A6e s (p.steps.length-1)<;>rfl
theorem C2b {p:D4} {l:List C7} {s:H2} (h:(A0O p l).1=some s):A5Y p∧CF p s:=by
 obtain⟨h1,ho,hl,he,_,_,_,_⟩:=A8D h
 exact⟨ho,by rw[(C1l h).1];exact C16 ho (B1z ho) he⟩
def B22 (p:D4) (l:List C7) (t:Int):Int × Int:=match (B6Z p l).1 with
 | none=>(0,(B6Z p l).2)
 | some s=>bif N9 t s.now 100000 then(0,7)else bif B8x p s t then((A6b p s t).1,0)else(0,9)
theorem C2m {F:Nat} {p:D4} (hf:CtF F p) (l:List C7) (t:Int):A3Z F p l t=some (B22 p l t):=by
 rw[A3Z,C2a hf,oS]
 unfold B22
 cases hp:(B6Z p l).1 with
 | none =>
  have h1:=C18 hp
  show(if(B6Z p l).2=0 then _ else _)=_
  rw[if_neg h1]
 | some s =>
  obtain⟨h1,h2,h3⟩:=C19 hp
  obtain⟨ho,hs⟩:=C2b h2
  have hn:=hs.now
  show(if(B6Z p l).2=0 then _ else _)=_
  rw[if_pos h1,X2,oS]
  show(if N9 t s.now 100000=true then _ else _)=some (bif N9 t s.now 100000 then((0:Int),(7:Int))else bif B8x p s t then((A6b p s t).1,0)else(0,9))
  cases hb:N9 t s.now 100000 with
  | true=>rfl
  | false =>
   have:=O6.1 hb
   rw[if_neg sM,C1G hf.pd.f ho hs oM,oS]
   rw[cF]
   unfold B8x
   cases(A6b p s t).2<;>rfl
def C6w:List Bool→Nat
 | []=>0
 | b::l=>(bif b then 1 else 0)+C6w l
theorem C6J:∀ l:List Bool,C6w l≤l.length
 | []=>Nat.le_refl 0
 | b::l=>by
  have:=C6J l
  show(bif b then 1 else 0)+C6w l≤l.length+1
  cases b<;>simp<;>omega
theorem C6v:∀ (l:List Bool) (i:Nat),i<l.length→l.getD i false=false→C6w (l.set i true)=C6w l+1
 | b::l,0,_,h=>by
  have h:b=false:=h
  subst h
  show 1+C6w l=0+C6w l+1
  omega
 | b::l,i+1,hi,h=>by
  have:=C6v l i (by simpa using hi) (by simpa using h)
  show(bif b then 1 else 0)+C6w (l.set i true)=(bif b then 1 else 0)+C6w l+1
  omega
theorem C6O:∀ n,C6w (List.replicate n false)=0
 | 0=>rfl
 | n+1=>by show 0+C6w (List.replicate n false)=0;rw[C6O n]
theorem C64 {l:List Bool} {i:Nat} (hi:i<l.length) (h:l.getD i false=false):C6w l+1≤l.length:=by
 have:=C6v l i hi h
 have:=C6J (l.set i true)
 rw[List.length_set]at this
 omega
theorem C7s {l:List Bool} {i j:Nat} (hi:i<l.length) (hj:j<l.length) (hij:i≠j) (h:l.getD i false=false) (h2:l.getD j false=false):C6w l+2≤l.length:=by
 have h3:=C6v l i hi h
 have h4:=C64 (l:=l.set i true) (i:=j) (by rw[List.length_set];exact hj) (by rw[sG hi,if_neg (fun hc=>hij hc.symm)];exact h2)
 rw[List.length_set]at h4
 omega
abbrev evS (t k:Int) (i:Nat):C7:=C7.mk t k i 0 0 0 0 0
structure C7q (q:D4) (k:Nat):Prop where
 p:(q.steps.getD k default).poll=false
 n:(q.steps.getD k default).on_=[]
 u:(q.steps.getD k default).use_=[]
 f:(q.steps.getD k default).off=[]
 a:(q.steps.getD k default).acts=[]
inductive Mk (q:D4) (B E:Nat→Int):List C7→List Bool→List Bool→Prop
 | nil:Mk q B E [] (List.replicate q.steps.length false) (List.replicate q.steps.length false)
 | beg {l:List C7} {bg en:List Bool} {k:Nat} (h:Mk q B E l bg en) (hk:k<q.steps.length) (hb:bg.getD k false=false) (hn:∀ m∈(q.steps.getD k default).need,en.getD m.toNat false=true) (hl:k=q.steps.length-1→2*q.steps.length-2≤l.length):Mk q B E (l++[evS (B k) 1 k]) (bg.set k true) en
 | fin {l:List C7} {bg en:List Bool} {k:Nat} (h:Mk q B E l bg en) (hk:k<q.steps.length) (hb:bg.getD k false=true) (he:en.getD k false=false):Mk q B E (l++[evS (E k) 2 k]) bg (en.set k true)
structure MkI (N:Nat) (E:Nat→Int) (l:List C7) (bg en:List Bool):Prop where
 lb:bg.length=N
 le:en.length=N
 c:l.length=C6w bg+C6w en
 i:∀ k,k<N→en.getD k false=true→bg.getD k false=true
 o:bg.getD (N-1) false=true→∀ k,k<N-1→en.getD k false=true
 f:en.getD (N-1) false=true→∃ l',l=l'++[evS (E (N-1)) 2 (N-1:Nat)]
theorem C6h (n k:Nat):(List.replicate n false).getD k false=false:=by
 rw[List.getD_eq_getElem?_getD,List.getElem?_replicate]
 by_cases h:k<n
 ·rw[if_pos h];rfl
 ·rw[if_neg h];rfl
theorem Mk.inv {q:D4} {B E:Nat→Int} (h1:1≤q.steps.length) {l:List C7} {bg en:List Bool} (h:Mk q B E l bg en):MkI q.steps.length E l bg en:=by
 induction h with
 | nil=>exact⟨List.length_replicate,List.length_replicate,by rw[C6O];rfl,fun k _ hk=>(by rw[C6h]at hk;cases hk),fun hk=>(by rw[C6h]at hk;cases hk),fun hk=>(by rw[C6h]at hk;cases hk)⟩
 | @beg l bg en k h hk hb hn hl ih =>
  have hek:en.getD k false=false:=by
   cases hc:en.getD k false with
   | false=>rfl
   | true=>rw[ih.i k hk hc]at hb;cases hb
  have hg:∀ j,(bg.set k true).getD j false=if j=k then true else bg.getD j false:=fun j=>sG (by rw[ih.lb];exact hk)
  have all:bg.getD (q.steps.length-1) false=true→k=q.steps.length-1:=fun hc=>by
   by_cases hkn:k=q.steps.length-1
   ·exact hkn
   ·rw[ih.o hc k oM]at hek;cases hek
  refine⟨by rw[List.length_set];exact ih.lb,ih.le,?_,fun j hj hc=>?_,fun hc j hj=>?_,fun hc=>?_⟩
  ·rw[List.length_append,C6v _ _ (by rw[ih.lb];exact hk) hb,ih.c];simp only[List.length_cons,List.length_nil];omega
  ·rw[hg]
   by_cases hjk:j=k
   ·rw[if_pos hjk]
   ·rw[if_neg hjk];exact ih.i j hj hc
  ·by_cases hkn:k=q.steps.length-1
   ·have hl2:=hl hkn
    cases hcj:en.getD j false with
    | true=>rfl
    | false =>
     have e1:=C7s (l:=en) (i:=k) (j:=j) (by rw[ih.le];exact hk) (by rw[ih.le];omega) oM hek hcj
     have e2:=C64 (l:=bg) (i:=k) (by rw[ih.lb];exact hk) hb
     rw[ih.le]at e1;rw[ih.lb]at e2
     have:=ih.c
     omega
   ·rw[hg,if_neg oM]at hc
    exact ih.o hc j hj
  ·have hbt:=ih.i _ oM hc
   have hkn:=all hbt
   rw[hkn]at hb;rw[hbt]at hb;cases hb
 | @fin l bg en k h hk hb he ih =>
  have hg:∀ j,(en.set k true).getD j false=if j=k then true else en.getD j false:=fun j=>sG (by rw[ih.le];exact hk)
  refine⟨ih.lb,by rw[List.length_set];exact ih.le,?_,fun j hj hc=>?_,fun hc j hj=>?_,fun hc=>?_⟩
  ·rw[List.length_append,C6v _ _ (by rw[ih.le];exact hk) he,ih.c];simp only[List.length_cons,List.length_nil];omega
  ·rw[hg]at hc
   by_cases hjk:j=k
   ·rw[hjk];exact hb
   ·rw[if_neg hjk]at hc;exact ih.i j hj hc
  ·rw[hg]
   by_cases hjk:j=k
   ·rw[if_pos hjk]
   ·rw[if_neg hjk];exact ih.o hc j hj
  ·by_cases hkn:k=q.steps.length-1
   ·exact⟨l,by rw[hkn]⟩
   ·rw[hg,if_neg (fun hx=>hkn hx.symm)]at hc
    have:=ih.o (ih.i _ oM hc) k oM
    rw[this]at he;cases he
theorem C72 {q:D4} {B E:Nat→Int} (h1:1≤q.steps.length) {l:List C7} {bg en:List Bool} (h:Mk q B E l bg en) (hl:l.length=2*q.steps.length):∀ k,k<q.steps.length→en.getD k false=true:=fun k hk=>by
 have hi:=h.inv h1
 cases hc:en.getD k false with
 | true=>rfl
 | false =>
  have e1:=C64 (l:=en) (by rw[hi.le];exact hk) hc
  have e2:=C6J bg
  rw[hi.le]at e1;rw[hi.lb]at e2
  have:=hi.c
  omega
theorem C67 (p:D4):∀ (a b:List C7) (s:H2),B57 p s (a++b)=B57 p s a++B57 p (B8z p s a) b
 | [],b,s=>rfl
 | e::a,b,s=>by
  show B91 (doC p s e)::B57 p (A91 p s e) (a++b)=B91 (doC p s e)::(B57 p (A91 p s e) a++B57 p (B8z p (A91 p s e) a) b)
  rw[C67 p a b]
theorem C7B {q:D4} {s:H2} {k:Nat} {t:Int} (hx:C7q q k) (hnow:s.now≤t) (hd:s.ended.getD (q.steps.length-1) 0<0) (hb:s.begun.getD k 0<0) (hn:∀ m∈(q.steps.getD k default).need,0≤s.ended.getD m.toNat 0) (hh:s.held=false):∃ s',doC q s (evS t 1 k) = .ok s'∧s'.now=t∧s'.begun=s.begun.set k t∧s'.ended=s.ended∧s'.held=false:=by
 refine⟨{(B4e q s t)with begun:=s.begun.set k t,held:=false,on_:=s.on_},?_,rfl,rfl,rfl,rfl⟩
 unfold doC
 rw[show decide (s.now≤(evS t 1 k).at_)=true from dT hnow,cT,show A6e s (q.steps.length-1)=false from dF oM]
 show B3L q (B4e q s t) (evS t 1 k)=_
 unfold B3L
 rw[if_pos rfl]
 show B0G q (B4e q s t) (k:Int).toNat t=_
 rw[tN]
 unfold B0G
 rw[show decide ((B4e q s t).begun.getD k 0<0)=true from dT hb,cT,show((q.steps.getD k default).need.all fun n=>A6e (B4e q s t) n.toNat)=true from List.all_eq_true.2 fun m hm=>dT (hn m hm),cT]
 rw[show(B4e q s t).held=false from hh]
 show(bif A4N (q.steps.getD k default) (B4e q s t)then _ else _)=_
 rw[show A4N (q.steps.getD k default) (B4e q s t)=true by unfold A4N;rw[hx.p];rfl,cT,show A1Y (q.steps.getD k default) (B4e q s t) (q.steps.getD k default).on_=true by unfold A1Y;rw[hx.u];rfl,cT,hx.n]
 rfl
theorem C7C {q:D4} {s:H2} {k:Nat} {t:Int} (hx:C7q q k) (hnow:s.now≤t) (hd:s.ended.getD (q.steps.length-1) 0<0) (hb:0≤s.begun.getD k 0) (he:s.ended.getD k 0<0) (hl:(q.steps.getD k default).least≤t-s.begun.getD k 0∧t-s.begun.getD k 0≤(q.steps.getD k default).most) (hw:k<q.steps.length-1∨(q.Q8≤t∧t≤q.O8)) (hh:s.held=false):∃ s',doC q s (evS t 2 k) = .ok s'∧s'.now=t∧s'.begun=s.begun∧s'.ended=s.ended.set k t∧s'.held=false:=by
 refine⟨{(B4e q s t)with ended:=s.ended.set k t,on_:=s.on_},?_,rfl,rfl,rfl,hh⟩
 unfold doC
 rw[show decide (s.now≤(evS t 2 k).at_)=true from dT hnow,cT,show A6e s (q.steps.length-1)=false from dF oM]
 show B3L q (B4e q s t) (evS t 2 k)=_
 unfold B3L
 rw[if_neg (show ¬ (2:Int)=1 by decide),if_pos rfl]
 show B7v q (B4e q s t) (k:Int).toNat t=_
 rw[tN]
 unfold B7v
 rw[show B2o (B4e q s t) k=true by unfold B2o A6e;rw[Bool.and_eq_true,Bool.not_eq_true',decide_eq_true_iff,decide_eq_false_iff_not];exact⟨hb,by show ¬ 0≤s.ended.getD k 0;omega⟩,cT]
 rw[show N9 (t-(B4e q s t).begun.getD k 0) (q.steps.getD k default).least (q.steps.getD k default).most=false from O6.2 hl]
 show(bif A4N (q.steps.getD k default) (B4e q s t)then _ else _)=_
 rw[show A4N (q.steps.getD k default) (B4e q s t)=true by unfold A4N;rw[hx.p];rfl,cT,show A1Y (q.steps.getD k default) (B4e q s t) []=true by unfold A1Y;rw[hx.u];rfl,cT]
 rw[show(decide (k<q.steps.length-1) || !N9 t q.Q8 q.O8)=true by
  rcases hw with hw | hw
  ·rw[dT hw];rfl
  ·rw[O6.2 hw,Bool.or_comm];rfl,cT,hx.a,hx.f]
 rfl
structure C7S (q:D4) (B E:Nat→Int) (l:List C7) (bg en:List Bool) (s:H2):Prop where
 cf:CF q s
 b:∀ k,k<q.steps.length→s.begun.getD k 0=if bg.getD k false=true then B k else -1
 e:∀ k,k<q.steps.length→s.ended.getD k 0=if en.getD k false=true then E k else -1
 h:s.held=false
 n:∀ t,0≤t→(∀ x∈l,x.at_≤t)→s.now≤t
theorem C7F {q:D4} {B E:Nat→Int} (ho:A5Y q) (hx:∀ k,k<q.steps.length→C7q q k) (hB:∀ k,k<q.steps.length→0≤B k) (hE:∀ k,k<q.steps.length→E k=B k+(q.steps.getD k default).least) (hw:q.Q8≤E (q.steps.length-1)∧E (q.steps.length-1)≤q.O8) {l:List C7} {bg en:List Bool} (h:Mk q B E l bg en) :
 l.Pairwise (fun a b=>a.at_≤b.at_)→(∀ x∈l,B18 q x)→(∀ w∈B57 q (A0U q) l,w=0)∧C7S q B E l bg en (B8z q (A0U q) l):=by
 have h1:=ho.t1
 induction h with
 | nil =>
  intro _ _
  refine⟨fun w hw=>by simp[B57]at hw,B1z ho,fun k hk=>?_,fun k hk=>?_,rfl,fun t ht _=>ht⟩
  ·rw[C6h,if_neg dM];exact A5J _ _ _ _ hk
  ·rw[C6h,if_neg dM];exact A5J _ _ _ _ hk
 | @beg l bg en k h hk hb hn hl ih =>
  intro hs he
  rw[List.pairwise_append]at hs
  obtain⟨hw0,ri⟩:=ih hs.1 fun x hm=>he x (by simp[hm])
  have mi:=h.inv h1
  have hee:=he (evS (B k) 1 k) sM
  have hend:∀ j,j<q.steps.length→(en.getD j false=true→0≤(B8z q (A0U q) l).ended.getD j 0)∧(en.getD j false=false→(B8z q (A0U q) l).ended.getD j 0<0):=fun j hj=>by
   rw[ri.e j hj]
   have:=hB j hj;have:=hE j hj;have:=(ho.t j hj).l
   exact⟨fun hc=>by rw[if_pos hc];omega,fun hc=>by rw[if_neg (by rw[hc];decide)];omega⟩
  have hlast:en.getD (q.steps.length-1) false=false:=by
   cases hc:en.getD (q.steps.length-1) false with
   | false=>rfl
   | true =>
    have hbt:=mi.i _ oM hc
    by_cases hkn:k=q.steps.length-1
    ·rw[hkn,hbt]at hb;cases hb
    ·rw[mi.i k hk (mi.o hbt k oM)]at hb;cases hb
  obtain⟨s',hd,e1,e2,e3,e4⟩:=C7B (q:=q) (s:=B8z q (A0U q) l) (k:=k) (t:=B k) (hx k hk) (ri.n _ (hB k hk) fun x hm=>hs.2.2 x hm _ List.mem_cons_self) ((hend _ oM).2 hlast) (by rw[ri.b k hk,if_neg (by rw[hb];decide)];omega) (fun m hm=>(hend _ (by have:=(ho.t k hk).nd m hm;omega)).1 (hn m hm)) ri.h
  have hr:B8z q (A0U q) (l++[evS (B k) 1 k])=s':=by
   rw[C2Y]
   show A91 q _ _=_
   unfold A91
   rw[hd]
  refine⟨fun w hm=>?_,?_⟩
  ·rw[C67]at hm
   rcases List.mem_append.1 hm with hm | hm
   ·exact hw0 w hm
   ·simp only[B57,List.mem_cons,List.not_mem_nil,or_false]at hm
    rw[hm,hd];rfl
  ·rw[hr]
   have hcf:=(C0u ho ri.cf hee hd).1
   refine⟨hcf,fun j hj=>?_,fun j hj=>by rw[e3];exact ri.e j hj,e4,fun t ht hm=>by rw[e1];exact hm (evS (B k) 1 k) sM⟩
   rw[e2,sG (by rw[ri.cf.lb];exact hk),sG (by rw[mi.lb];exact hk)]
   by_cases hjk:j=k
   ·rw[if_pos hjk,if_pos hjk,if_pos rfl,hjk]
   ·rw[if_neg hjk,if_neg hjk];exact ri.b j hj
 | @fin l bg en k h hk hb hen ih =>
  intro hs he
  rw[List.pairwise_append]at hs
  obtain⟨hw0,ri⟩:=ih hs.1 fun x hm=>he x (by simp[hm])
  have mi:=h.inv h1
  have hee:=he (evS (E k) 2 k) sM
  have hlast:en.getD (q.steps.length-1) false=false:=by
   cases hc:en.getD (q.steps.length-1) false with
   | false=>rfl
   | true =>
    have hbt:=mi.i _ oM hc
    by_cases hkn:k=q.steps.length-1
    ·rw[hkn,hc]at hen;cases hen
    ·rw[mi.o hbt k oM]at hen;cases hen
  have hbk:(B8z q (A0U q) l).begun.getD k 0=B k:=by rw[ri.b k hk,if_pos hb]
  have e0:=hE k hk;have b0:=hB k hk;have so:=(ho.t k hk).l
  obtain⟨s',hd,e1,e2,e3,e4⟩:=C7C (q:=q) (s:=B8z q (A0U q) l) (k:=k) (t:=E k) (hx k hk) (ri.n _ oM fun x hm=>hs.2.2 x hm _ List.mem_cons_self) (by rw[ri.e _ oM,if_neg (by rw[hlast];decide)];omega) (by rw[hbk];exact b0) (by rw[ri.e _ hk,if_neg (by rw[hen];decide)];omega) (by rw[hbk];omega) (by
   by_cases hkn:k=q.steps.length-1
   ·rw[hkn];exact .inr hw
   ·exact .inl oM) ri.h
  have hr:B8z q (A0U q) (l++[evS (E k) 2 k])=s':=by
   rw[C2Y]
   show A91 q _ _=_
   unfold A91
   rw[hd]
  refine⟨fun w hm=>?_,?_⟩
  ·rw[C67]at hm
   rcases List.mem_append.1 hm with hm | hm
   ·exact hw0 w hm
   ·simp only[B57,List.mem_cons,List.not_mem_nil,or_false]at hm
    rw[hm,hd];rfl
  ·rw[hr]
   have hcf:=(C0u ho ri.cf hee hd).1
   refine⟨hcf,fun j hj=>by rw[e2];exact ri.b j hj,fun j hj=>?_,e4,fun t ht hm=>by rw[e1];exact hm (evS (E k) 2 k) sM⟩
   rw[e3,sG (by rw[ri.cf.le];exact hk),sG (by rw[mi.le];exact hk)]
   by_cases hjk:j=k
   ·rw[if_pos hjk,if_pos hjk,if_pos rfl,hjk]
   ·rw[if_neg hjk,if_neg hjk];exact ri.e j hj
def C5X (x:E0):E0:=E0.mk x.name x.need x.least x.most false [] [] [] []
def C6x (t:D4):D4:={t with stations:=[],batteries:=[],steps:=t.steps.map C5X}
theorem C7d {F:Nat} {t:D4} {K:List E0→Int→Option Bool} (hw:t.steps.length*160≤140737488355328):∀ n k,t.steps.length<n+k→k≤t.steps.length→C5e F t K n ((t.steps.take k).map C5X) k=K (t.steps.map C5X) t.steps.length
 | 0,k,h,h2=>absurd h oM
 | n+1,k,h,h2=>by
  rw[C5e]
  by_cases hk:k<t.steps.length
  ·rw[if_pos oM,H3 hk,oS]
   have e:C7f 160 ((t.steps.take k).map C5X) [C5X t.steps[k]]=some ((t.steps.take (k+1)).map C5X):=by
    unfold C7f
    have hl:((t.steps.take k).map C5X).length=k:=by rw[List.length_map,List.length_take];omega
    rw[hl,if_pos ⟨by show(k+1)*160≤_;omega,by show k+1≤_;omega⟩,← List.take_append_getElem hk,List.map_append]
    rfl
   refine Eq.trans (congrArg (fun o=>Option.bind o _) e) ?_
   rw[oS,S0 oM]
   exact C7d hw n (k+1) oM oM
  ·obtain rfl:k=t.steps.length:=by omega
   rw[if_neg oM,List.take_length]
theorem C7G {F:Nat} {t:D4} (hf:CtF F t):CtF F (C6x t):=by
 have hF:=hf.pd.f
 refine⟨hf.pd,by show(0:Nat)<_;omega,by show(0:Nat)<_;omega,by have:=hf.lt;show(t.steps.map C5X).length<_;rw[List.length_map];exact this,hf.lp,fun x hx=>(by cases hx),fun x hx=>(by cases hx),fun x hx=>?_⟩
 obtain⟨y,hy,rfl⟩:=List.mem_map.1 hx
 have h:=hf.st y hy
 exact⟨h.n,h.d,⟨by show 0<F;omega,by show(0:Nat)<9223372036854775808;decide⟩,⟨by show 0<F;omega,by show(0:Nat)<9223372036854775808;decide⟩,⟨by show 0<F;omega,by show(0:Nat)<9223372036854775808;decide⟩,⟨by show 0<F;omega,by show(0:Nat)<9223372036854775808;decide⟩⟩
theorem C7h {t:D4} {k:Nat} (hk:k<(C6x t).steps.length):∃ x,(C6x t).steps.getD k default=C5X x:=by
 have h2:k<t.steps.length:=by have:=hk;show k<t.steps.length;simpa[C6x]using this
 exact⟨t.steps[k],by show(t.steps.map C5X).getD k default=_;simp[List.getD_eq_getElem?_getD,h2]⟩
theorem C6V {t:D4} {k:Nat} (hk:k<(C6x t).steps.length):C7q (C6x t) k:=by
 obtain⟨x,hx⟩:=C7h hk
 refine⟨?_,?_,?_,?_,?_⟩<;>rw[hx]<;>rfl
def nB (q:D4) (k:Nat):Int:=C0m (B3l q (A0U q) 0 k) (q.steps.getD k default).need 0
def sB (q:D4) (m:Int) (k:Nat):Int:=if k=q.steps.length-1 then max (nB q k) (m-(q.steps.getD k default).least)else nB q k
def sE (q:D4) (m:Int) (k:Nat):Int:=sB q m k+(q.steps.getD k default).least
theorem C65 {q:D4} {j k:Nat} (hj:j<k) (hk:k≤q.steps.length):(B3l q (A0U q) 0 k).getD j 0=nB q j+(q.steps.getD j default).least:=by
 rw[C1p hj]
 unfold C1H
 have e:(A0U q).ended.getD j 0 = -1:=A5J _ _ _ _ oM
 have e2:(A0U q).begun.getD j 0 = -1:=A5J _ _ _ _ oM
 rw[show A6e (A0U q) j=false from dF (by rw[e];decide),cF,show B2o (A0U q) j=false by unfold B2o;rw[e2];rfl,cF]
 rfl
theorem C7N {q:D4} {m:Int} {k:Nat} (hk:k≤q.steps.length-1) (h1:1≤q.steps.length):B14 k (sE q m)=B3l q (A0U q) 0 k:=by
 refine(B2D 0 (C1g _ _ _ _) fun j hj=>?_).symm
 rw[C65 hj oM]
 unfold sE sB
 rw[if_neg oM]
theorem C7D {q:D4} (ho:A5Y q) {k:Nat} (hk:k<q.steps.length):0≤nB q k∧nB q k≤500000:=by
 have t16:=ho.t16
 refine⟨(C1L _ _ _).1,C1M _ _ _ oM fun m hm=>?_⟩
 have hm2:=(ho.t k hk).nd m hm
 have:=C1R (t:=0) ho (B1z ho) oM k oM m.toNat oM
 omega
theorem C7v {q:D4} (ho:A5Y q) {m:Int} (hm:0≤m∧m≤100000) {k:Nat} (hk:k<q.steps.length):0≤sB q m k∧sB q m k≤500000:=by
 have:=C7D ho hk
 have:=(ho.t k hk).l
 unfold sB
 split<;>omega
theorem C6Y {F:Nat} {x:E0} {k:Nat} {y:List Int} (hy:y.length=k) (hd:∀ n∈x.need,0≤n∧n<k) (hl:x.need.length≤16) {K:Int→Option Bool}:∀ (n j:Nat) (v:Int),x.need.length<n+j→j≤x.need.length →
  C4J F y k x (fun v _=>K v) n v j=K (C0m y (x.need.drop j) v)
 | 0,j,v,h,h2=>absurd h oM
 | n+1,j,v,h,h2=>by
  rw[C4J]
  by_cases hj:j<x.need.length
  ·have hm:=hd _ (List.getElem_mem hj)
   have em:x.need[j]=((x.need[j].toNat:Nat):Int):=by omega
   have hx:P3 y x.need[j]=some (y.getD x.need[j].toNat 0):=by
    have:=H3 (show x.need[j].toNat<y.length by omega)
    rw[← em]at this
    rw[this,J6 0 oM]
   rw[if_pos oM,H3 hj,oS,if_neg oM,if_neg oM,hx,oS,S0 oM,C6Y hy hd hl n (j+1) _ oM oM,lD hj]
   rfl
  ·rw[if_neg oM,lL oM]
   rfl
theorem C6F {α:Type} (n:Nat) (f:Nat→α):B14 (n+1) f=B14 n f++[f n]:=by simp[B14,List.range_succ]
theorem C7c {F:Nat} {q:D4} (hF:100<F) (ho:A5Y q) {m:Int} {z:Int} (hm:0≤m∧m≤100000) {K:List Int→List Int→Option Bool}:∀ n k,q.steps.length<n+k→k≤q.steps.length →
  C32 F q.steps (m,z) (fun a b _=>K a b) n (B14 k (sB q m)) (B14 k (sE q m)) k=K (B14 q.steps.length (sB q m)) (B14 q.steps.length (sE q m))
 | 0,k,h,h2=>absurd h oM
 | n+1,k,h,h2=>by
  have t1:=ho.t1;have t16:=ho.t16
  rw[C32]
  by_cases hk:k<q.steps.length
  ·have so:=ho.t k hk
   have hg:q.steps[k]=q.steps.getD k default:=(J6 _ hk).symm
   have hr:=C7v ho hm hk
   have hl:=so.l;have hmo:=so.m
   rw[if_pos oM,H3 hk,oS,hg]
   have hlen:(B14 k (sE q m)).length=k:=B15 _ _
   have hn:=C6Y (F:=F) (x:=q.steps.getD k default) (K:=fun x2=>if(k:Int)=(W ((q.steps.length:Int)-1))then(C3E F (C32 F q.steps (m,z) (fun a b _=>K a b) n) (B14 k (sB q m)) (B14 k (sE q m)) k (q.steps.getD k default) (max x2 (W ((m,z).1-(q.steps.getD k default).least))))else(C3E F (C32 F q.steps (m,z) (fun a b _=>K a b) n) (B14 k (sB q m)) (B14 k (sE q m)) k (q.steps.getD k default) x2)) hlen so.nd (by have:=B0F so.na fun n hn=>so.nd n hn;omega) F 0 0 (by have:=B0F so.na fun n hn=>so.nd n hn;omega) oM
   refine Eq.trans hn ?_
   rw[List.drop_zero,C7N oM t1]
   have hx:(if(k:Int)=(W ((q.steps.length:Int)-1))then(C3E F (C32 F q.steps (m,z) (fun a b _=>K a b) n) (B14 k (sB q m)) (B3l q (A0U q) 0 k) k (q.steps.getD k default) (max (nB q k) (W ((m,z).1-(q.steps.getD k default).least))))else(C3E F (C32 F q.steps (m,z) (fun a b _=>K a b) n) (B14 k (sB q m)) (B3l q (A0U q) 0 k) k (q.steps.getD k default) (nB q k)))=C3E F (C32 F q.steps (m,z) (fun a b _=>K a b) n) (B14 k (sB q m)) (B3l q (A0U q) 0 k) k (q.steps.getD k default) (sB q m k):=by
    rw[A8K (x:=(q.steps.length:Int)-1) oM oM,A8K (x:=(m,z).1-_) (by show _≤m-_;omega) (by show m-_<_;omega)]
    unfold sB
    by_cases hkn:k=q.steps.length-1
    ·rw[if_pos oM,if_pos hkn]
    ·rw[if_neg oM,if_neg hkn]
   refine Eq.trans hx ?_
   rw[C3E,A8O (by rw[B15];omega),oS,A8O (by rw[C1g];omega),oS,S0 oM,A8K (x:=sB q m k+_) oM oM,← C7N (m:=m) oM t1]
   have ih:=C7c hF ho (z:=z) hm (K:=K) n (k+1) oM oM
   rw[C6F,C6F]at ih
   exact ih
  ·obtain rfl:k=q.steps.length:=by omega
   rw[if_neg oM]
abbrev fr (q:D4) (en:List Bool) (k:Nat):Bool:=(q.steps.getD k default).need.all fun m=>en.getD m.toNat false
theorem C60 {F:Nat} {q:D4} {en:List Bool} {k:Nat} (ho:A5Y q) (hk:k<q.steps.length) (he:en.length=q.steps.length) {K:Bool→Option Bool}:∀ (n j:Nat) (v:Bool),(q.steps.getD k default).need.length<n+j→j≤(q.steps.getD k default).need.length →
  C4d F q.steps en k (fun v _=>K v) n v j=K (v&&((q.steps.getD k default).need.drop j).all fun m=>en.getD m.toNat false)
 | 0,j,v,h,h2=>absurd h oM
 | n+1,j,v,h,h2=>by
  have so:=ho.t k hk;have t16:=ho.t16
  have hlen:=B0F so.na fun n hn=>so.nd n hn
  rw[C4d,H3 hk,oS,← J6 default hk]
  by_cases hj:j<(q.steps.getD k default).need.length
  ·have hm:=so.nd _ (List.getElem_mem hj)
   have em:(q.steps.getD k default).need[j]=(((q.steps.getD k default).need[j].toNat:Nat):Int):=by omega
   have hx:P3 en (q.steps.getD k default).need[j]=some (en.getD (q.steps.getD k default).need[j].toNat false):=by
    have:=H3 (show(q.steps.getD k default).need[j].toNat<en.length by omega)
    rw[← em]at this
    rw[this,J6 false oM]
   rw[if_pos oM,lD hj,List.all_cons,S0 oM]
   cases v with
   | false=>rw[if_neg dM,C60 ho hk he n (j+1) _ oM oM];rfl
   | true =>
    rw[if_pos rfl,H3 hj,oS,hx,oS]
    cases en.getD (q.steps.getD k default).need[j].toNat false with
    | true=>rw[if_pos rfl,C60 ho hk he n (j+1) _ oM oM];rfl
    | false=>rw[if_neg dM,C60 ho hk he n (j+1) _ oM oM];rfl
  ·rw[if_neg oM,lL oM,List.all_nil,Bool.and_true]
def Nx (q:D4) (B E:Nat→Int) (l:List C7) (bg en:List Bool) (x5 x6 x7:Int):Prop :=
 x5<0∨∃ i:Nat,x5=i∧i<q.steps.length∧en.getD i false=false∧fr q en i=true∧(i=q.steps.length-1→2*q.steps.length-2≤l.length)∧((x6=1∧bg.getD i false=false∧x7=B i)∨(x6=2∧bg.getD i false=true∧x7=E i))
theorem C6X {F:Nat} {q:D4} {B E:Nat→Int} {l:List C7} {bg en:List Bool} (hF:100<F) (ho:A5Y q) (he:en.length=q.steps.length) {G:Int→Int→Int→Int→Option Bool} {k:Nat} (hk:k<q.steps.length) (hll:l.length≤100) {x5 x6 x7 x9 x10:Int} (h:Nx q B E l bg en x5 x6 x7) (hn:(x9=1∧bg.getD k false=false∧x10=B k)∨(x9=2∧bg.getD k false=true∧x10=E k)) :
 ∃ y5 y6 y7,C5v F G q.steps l en x5 x6 x7 k x9 x10=G y5 y6 y7 ((k+1:Nat):Int)∧Nx q B E l bg en y5 y6 y7:=by
 have t1:=ho.t1;have t16:=ho.t16
 have so:=ho.t k hk
 have hlen:=B0F so.na fun n hn=>so.nd n hn
 have hJ2:∀ a b c,C3v F G k a b c=G a b c ((k+1:Nat):Int):=fun a b c=>by rw[C3v,S0 oM]
 rw[C5v]
 suffices hh:∃ y5 y6 y7,((P3 en (k:Int)).bind fun e11=>if e11=true then(C3v F G k x5 x6 x7)else(if(true&&((q.steps.getD k default).need.drop 0).all fun m=>en.getD m.toNat false)=true then(if(k:Int)=(W ((q.steps.length:Int)-1))then(if(l.length:Int)<(W ((W (2*(q.steps.length:Int)))-2))then(C3v F G k x5 x6 x7)else(C3M F G x5 x6 x7 k x9 x10))else(C3M F G x5 x6 x7 k x9 x10))else(C3v F G k x5 x6 x7)))=G y5 y6 y7 ((k+1:Nat):Int)∧Nx q B E l bg en y5 y6 y7 by
  obtain⟨y5,y6,y7,h1,h2⟩:=hh
  exact⟨y5,y6,y7,(C60 (F:=F) ho hk he (K:=fun x11=>(P3 en (k:Int)).bind fun e11=>if e11=true then(C3v F G k x5 x6 x7)else(if x11=true then(if(k:Int)=(W ((q.steps.length:Int)-1))then(if(l.length:Int)<(W ((W (2*(q.steps.length:Int)))-2))then(C3v F G k x5 x6 x7)else(C3M F G x5 x6 x7 k x9 x10))else(C3M F G x5 x6 x7 k x9 x10))else(C3v F G k x5 x6 x7))) F 0 true oM oM).trans h1,h2⟩
 rw[List.drop_zero,Bool.true_and,H3 oM,oS,← J6 false oM]
 have same:∃ y5 y6 y7,C3v F G k x5 x6 x7=G y5 y6 y7 ((k+1:Nat):Int)∧Nx q B E l bg en y5 y6 y7:=⟨x5,x6,x7,hJ2 _ _ _,h⟩
 cases hen:en.getD k false with
 | true=>rw[if_pos rfl];exact same
 | false =>
  rw[if_neg dM]
  cases hfr:(q.steps.getD k default).need.all fun m=>en.getD m.toNat false with
  | false=>rw[if_neg dM];exact same
  | true =>
   rw[if_pos rfl,A8K (x:=(q.steps.length:Int)-1) oM oM,A8K (x:=2*(q.steps.length:Int)) oM oM,A8K (x:=2*(q.steps.length:Int)-2) oM oM]
   have new:(k=q.steps.length-1→2*q.steps.length-2≤l.length)→∃ y5 y6 y7,C3M F G x5 x6 x7 k x9 x10=G y5 y6 y7 ((k+1:Nat):Int)∧Nx q B E l bg en y5 y6 y7:=fun hl=>by
    have hnx:Nx q B E l bg en k x9 x10 := .inr ⟨k,rfl,hk,hen,hfr,hl,hn⟩
    rw[C3M]
    by_cases h5:x5<0
    ·rw[if_pos h5];exact⟨k,x9,x10,hJ2 _ _ _,hnx⟩
    ·rw[if_neg h5]
     by_cases h7:x10<x7
     ·rw[if_pos h7];exact⟨k,x9,x10,hJ2 _ _ _,hnx⟩
     ·rw[if_neg h7];exact same
   by_cases hkn:k=q.steps.length-1
   ·rw[if_pos oM]
    by_cases hl:(l.length:Int)<2*(q.steps.length:Int)-2
    ·rw[if_pos hl];exact same
    ·rw[if_neg hl];exact new fun _=>by omega
   ·rw[if_neg oM];exact new fun hc=>absurd hc hkn
theorem C6Z {F:Nat} {q:D4} {B E:Nat→Int} {l:List C7} {bg en:List Bool} (hF:100<F) (ho:A5Y q) (hb:bg.length=q.steps.length) (he:en.length=q.steps.length) (hll:l.length≤100) {K:Int→Int→Int→Option Bool}:∀ n k x5 x6 x7,q.steps.length<n+k→k≤q.steps.length→Nx q B E l bg en x5 x6 x7 →
 ∃ y5 y6 y7,C3w F q.steps (B14 q.steps.length B) (B14 q.steps.length E) l bg en (fun a b c _=>K a b c) n x5 x6 x7 k=K y5 y6 y7∧Nx q B E l bg en y5 y6 y7
 | 0,k,_,_,_,h,h2,_=>absurd h oM
 | n+1,k,x5,x6,x7,h,h2,hx=>by
  have t16:=ho.t16
  rw[C3w]
  by_cases hk:k<q.steps.length
  ·have hg:∀ f:Nat→Int,P3 (B14 q.steps.length f) k=some (f k):=fun f=>by
    rw[H3 (by rw[B15];exact hk),← J6 0 (by rw[B15];exact hk),B48 hk]
   rw[if_pos oM,hg,oS,H3 oM,oS,← J6 false oM]
   have go:∀ y5 y6 y7,Nx q B E l bg en y5 y6 y7→∃ z5 z6 z7,C3w F q.steps (B14 q.steps.length B) (B14 q.steps.length E) l bg en (fun a b c _=>K a b c) n y5 y6 y7 ((k+1:Nat):Int)=K z5 z6 z7∧Nx q B E l bg en z5 z6 z7:=fun y5 y6 y7 hy=>C6Z hF ho hb he hll n (k+1) y5 y6 y7 oM oM hy
   cases hbg:bg.getD k false with
   | true =>
    rw[if_pos rfl,hg,oS]
    obtain⟨y5,y6,y7,e,hy⟩:=C6X (F:=F) (G:=C3w F q.steps (B14 q.steps.length B) (B14 q.steps.length E) l bg en (fun a b c _=>K a b c) n) (x9:=2) (x10:=E k) hF ho he hk hll hx (.inr ⟨rfl,hbg,rfl⟩)
    rw[e]
    exact go y5 y6 y7 hy
   | false =>
    rw[if_neg dM]
    obtain⟨y5,y6,y7,e,hy⟩:=C6X (F:=F) (G:=C3w F q.steps (B14 q.steps.length B) (B14 q.steps.length E) l bg en (fun a b c _=>K a b c) n) (x9:=1) (x10:=B k) hF ho he hk hll hx (.inl ⟨rfl,hbg,rfl⟩)
    rw[e]
    exact go y5 y6 y7 hy
  ·obtain rfl:k=q.steps.length:=by omega
   rw[if_neg oM]
   exact⟨x5,x6,x7,rfl,hx⟩
theorem C6L {F:Nat} {q:D4} {B E:Nat→Int} (hF:100<F) (ho:A5Y q) (ha:A7X 100=some true) {K:List C7→List Bool→List Bool→Option Bool} (hK:∀ l bg en,Mk q B E l bg en→l.length=2*q.steps.length→K l bg en=some true):∀ n l bg en,Mk q B E l bg en→2*q.steps.length<n+l.length→l.length≤2*q.steps.length →
 C35 F q.steps (B14 q.steps.length B) (B14 q.steps.length E) K n l bg en=some true
 | 0,l,bg,en,_,h,h2=>absurd h oM
 | n+1,l,bg,en,hm,h,h2=>by
  have t1:=ho.t1;have t16:=ho.t16
  have mi:=hm.inv t1
  rw[C35,A8K (x:=2*(q.steps.length:Int)) oM oM]
  by_cases hl:l.length<2*q.steps.length
  ·rw[if_pos oM]
   obtain⟨y5,y6,y7,e,hy⟩:=C6Z (F:=F) (q:=q) (B:=B) (E:=E) (l:=l) (bg:=bg) (en:=en) hF ho mi.lb mi.le oM (K:=fun(x5:Int) (x6:Int) (x7:Int)=>if x5<0 then((A7X 100 ).bind fun rv7=>some rv7)else(if x6=1 then((P3 bg x5).bind fun e12=>(A5g bg x5 true).bind fun lv6=>C4v F (C35 F q.steps (B14 q.steps.length B) (B14 q.steps.length E) K n) l x5 x6 x7 lv6 en)else((P3 en x5).bind fun e13=>(A5g en x5 true).bind fun lv7=>C4v F (C35 F q.steps (B14 q.steps.length B) (B14 q.steps.length E) K n) l x5 x6 x7 bg lv7))) F 0 (-1) 0 0 oM oM (.inl dM)
   refine Eq.trans e ?_
   rcases hy with h5 | ⟨i,rfl,hi,hen,hfr,hlast,hd⟩
   ·rw[if_pos h5,ha];rfl
   rw[if_neg oM]
   have hfr2:∀ m∈(q.steps.getD i default).need,en.getD m.toNat false=true:=fun m hm=>List.all_eq_true.1 hfr m hm
   rcases hd with⟨rfl,hbg,rfl⟩ | ⟨rfl,hbg,rfl⟩
   ·rw[if_pos rfl,H3 (by rw[mi.lb];exact hi),oS,A31,oS,C4v]
    show(some (evS (B i) 1 i)).bind _=_
    rw[oS,A8O oM,oS]
    exact C6L hF ho ha hK n _ _ _ (hm.beg hi hbg hfr2 hlast) (by rw[List.length_append];show _<n+(l.length+1);omega) (by rw[List.length_append];show l.length+1≤_;omega)
   ·rw[if_neg dM,H3 (by rw[mi.le];exact hi),oS,A31,oS,C4v]
    show(some (evS (E i) 2 i)).bind _=_
    rw[oS,A8O oM,oS]
    exact C6L hF ho ha hK n _ _ _ (hm.fin hi hbg hen) (by rw[List.length_append];show _<n+(l.length+1);omega) (by rw[List.length_append];show l.length+1≤_;omega)
  ·rw[if_neg oM]
   exact hK l bg en hm oM
theorem C7b {F:Nat} {l:List C7} (hl:l.length≤100) (ha:A7X 100=some true) {K:Int→Option Bool} (hK:(∀ j,1≤j→j<l.length→(l.getD (j-1) default).at_≤(l.getD j default).at_)→∀ x,K x=some true):∀ n k,l.length+1<n+k→1≤k→k≤max 1 l.length→(∀ j,1≤j→j<k→j<l.length→(l.getD (j-1) default).at_≤(l.getD j default).at_) →
 C4y F l K n k=some true
 | 0,k,h,h1,hm,hs=>by
  exact absurd h oM
 | n+1,k,h,h1,hm,hs=>by
  rw[C4y]
  by_cases hk:k<l.length
  ·rw[if_pos oM,H3 hk,oS,B23 oM oM,H3 oM,oS,← J6 default hk,← J6 default (by omega:k-1<l.length)]
   by_cases hc:(l.getD k default).at_<(l.getD (k-1) default).at_
   ·rw[if_pos hc,ha];rfl
   ·rw[if_neg hc,S0 oM]
    refine C7b hl ha hK n (k+1) oM oM oM fun j h1 h2 h3=>?_
    by_cases hjk:j=k
    ·rw[hjk];omega
    ·exact hs j h1 oM h3
  ·rw[if_neg oM]
   exact hK (fun j h1 h2=>hs j h1 oM h2) _
theorem C7g {l:List C7} (h:∀ j,1≤j→j<l.length→(l.getD (j-1) default).at_≤(l.getD j default).at_):l.Pairwise fun a b=>a.at_≤b.at_:=by
 have key:∀ d i,i+d<l.length→(l.getD i default).at_≤(l.getD (i+d) default).at_:=fun d=>by
  induction d with
  | zero=>intro i _;exact Int.le_refl _
  | succ d ih =>
   intro i hi
   have h1:=ih i oM
   have h2:=h (i+d+1) oM oM
   rw[Nat.add_sub_cancel]at h2
   have h3:i+(d+1)=i+d+1:=by omega
   rw[h3];omega
 rw[List.pairwise_iff_getElem]
 intro i j hi hj hij
 have:=key (j-i) i oM
 rw[show i+(j-i)=j by omega,J6 default hi,J6 default hj]at this
 exact this
theorem C75 {q:D4} {B E:Nat→Int} {l:List C7} {bg en:List Bool} (h:Mk q B E l bg en):∀ x∈l,∃ k,k<q.steps.length∧(x=evS (B k) 1 k∨x=evS (E k) 2 k):=by
 induction h with
 | nil=>intro x hx;cases hx
 | @beg l bg en k h hk hb hn hl ih =>
  intro x hx
  rcases List.mem_append.1 hx with hx | hx
  ·exact ih x hx
  ·exact⟨k,hk,.inl (List.mem_singleton.1 hx)⟩
 | @fin l bg en k h hk hb he ih =>
  intro x hx
  rcases List.mem_append.1 hx with hx | hx
  ·exact ih x hx
  ·exact⟨k,hk,.inr (List.mem_singleton.1 hx)⟩
theorem C6P {q:D4} {t kd:Int} {k:Nat} (hk:k<q.steps.length) (hkd:kd=1∨kd=2) (ht:0≤t∧t≤100000):A5H q (evS t kd k)=0:=by
 unfold A5H
 rw[show N9 (evS t kd k).at_ 0 100000=false from O6.2 ht,cF]
 rcases hkd with rfl | rfl
 all_goals
  show(bif N9 (evS t _ k).kind 1 9 then _ else _)=_
  rw[O6.2 (by first | exact(show(1:Int)≤1∧(1:Int)≤9 by decide) | exact(show(1:Int)≤2∧(2:Int)≤9 by decide)),cF]
  show(bif true&&N9 (k:Int) 0 ((q.steps.length:Int)-1)then _ else _)=_
  rw[O6.2 oM]
  rfl
theorem C7a {F:Nat} {r:H2 × List Int × Int} (hl:r.2.1.length≤100) (hz:∀ w∈r.2.1,w=0) {K:Int→Option Bool} (hK:∀ x,K x=some true):∀ n k,r.2.1.length<n+k→k≤r.2.1.length→C5b F r K n k=some true
 | 0,k,h,h2=>absurd h oM
 | n+1,k,h,h2=>by
  rw[C5b]
  by_cases hk:k<r.2.1.length
  ·rw[if_pos oM,H3 hk,oS,if_pos (hz _ (List.getElem_mem hk)),S0 oM]
   exact C7a hl hz hK n (k+1) oM oM
  ·rw[if_neg oM];exact hK _
theorem C7w {F:Nat} {t:D4} (hf:CtF F t) (hfs:t.steps.length<F) (hw:t.steps.length*160≤140737488355328) (ha:A7X 100=some true):C5W F t=some true:=by
 have hF:=hf.pd.f
 rw[C5W]
 have h8:=C7d (F:=F) (t:=t) (K:=fun(rv:(List E0)) (rv2:Int)=>(A3Z F {t with stations:=[],batteries:=[],steps:=rv} [] 0).bind fun rv3=>if rv3.2=0 then(if(rv.length:Int)=0 then((A7X 100 ).bind fun rv5=>some rv5)else(if 16<(rv.length:Int)then((A7X 100 ).bind fun rv6=>some rv6)else(C58 F t rv rv3)))else((A7X 100 ).bind fun rv4=>some rv4)) hw F 0 oM oM
 refine Eq.trans h8 ?_
 obtain⟨q,hq⟩:∃ q,q=C6x t:=⟨_,rfl⟩
 have hqf:CtF F q:=by rw[hq];exact C7G hf
 have hqs:t.steps.map C5X=q.steps:=by rw[hq];rfl
 have hqe:({t with stations:=[],batteries:=[],steps:=q.steps}:D4)=q:=by rw[hq];rfl
 have hx:∀ k,k<q.steps.length→C7q q k:=fun k hk=>by rw[hq]at hk ⊢;exact C6V hk
 rw[hqs]
 show(A3Z F {t with stations:=[],batteries:=[],steps:=q.steps} [] 0).bind _=_
 rw[hqe,C2m hqf,oS,ha]
 by_cases h0':¬ (B22 q [] 0).2=0
 ·rw[if_neg h0'];rfl
 have h0:=Classical.not_not.1 h0'
 rw[if_pos h0]
 unfold B22 at h0 ⊢
 cases hop:(B6Z q []).1 with
 | none=>rw[hop]at h0;exact absurd h0 (C18 hop)
 | some s =>
  rw[hop]at h0
  simp only at h0 ⊢
  obtain⟨_,hp,hdn⟩:=C19 hop
  obtain⟨_,ho,_,_,_,_,hc0,_⟩:=A8D hp
  have hs:s=A0U q:=(C1l hp).1
  subst hs
  have t1:=ho.t1;have t16:=ho.t16
  rw[if_neg oM,if_neg oM]
  rw[show N9 0 (A0U q).now 100000=false from O6.2 (by show(0:Int)≤0∧_;decide),cF]at h0 ⊢
  cases hps:B8x q (A0U q) 0 with
  | false=>rw[hps]at h0;cases h0
  | true =>
   rw[cT,C2h hps]
   have hpi:=(C1O.1 hps).2
   obtain⟨m,hm⟩:∃ m,m=C0t q (A0U q) 0:=⟨_,rfl⟩
   rw[← hm]at hpi ⊢
   have hlast:m=max (nB q (q.steps.length-1)+(q.steps.getD (q.steps.length-1) default).least) q.Q8:=by
    rw[hm];unfold C0t;rw[C65 oM (Nat.le_refl _)]
   have hwn:=ho.w
   have hm0:0≤m∧m≤100000:=by omega
   have hEm:sE q m (q.steps.length-1)=m:=by
    unfold sE sB;rw[if_pos rfl];omega
   rw[C58]
   have h7:=C7c (F:=F) (q:=q) (m:=m) (z:=0) hF ho hm0 (K:=fun(lv:(List Int)) (lv2:(List Int))=>(B1D (q.steps.length:Int)).bind fun q4=>C35 F q.steps lv lv2 (fun(lv3:(List C7)) (lv4:(List Bool)) (lv5:(List Bool))=>C4y F lv3 (fun(x16:Int)=>(A36 F {t with stations:=([]:List ByteArray),batteries:=([]:List D9),steps:=q.steps} lv3).bind fun rv10=>if rv10.2.2=0 then(if(rv10.1.ended.length:Int)=(q.steps.length:Int)then((P3 rv10.1.ended (W ((rv10.1.ended.length:Int)-1))).bind fun e16=>if e16=m then(C52 F rv10)else(some false))else(some false))else(some false)) F 1) F ([]:List C7) (List.replicate q4 false) (List.replicate q4 false)) F 0 oM oM
   refine Eq.trans h7 ?_
   rw[B0U oM,oS]
   refine C6L hF ho ha (fun l bg en hmk hlen=>?_) F [] _ _ .nil (by show _<F+0;omega) (by show 0≤_;omega)
   refine C7b oM ha (fun hsd x=>?_) F 1 oM oM oM fun j h1 h2=>absurd h1 oM
   have hpw:=C7g hsd
   have hB:∀ k,k<q.steps.length→0≤sB q m k:=fun k hk=>(C7v ho hm0 hk).1
   have hen:=C72 t1 hmk hlen
   obtain⟨l',hl'⟩:=(hmk.inv t1).f (hen _ oM)
   have hat:∀ x∈l,0≤x.at_∧x.at_≤100000:=fun x hxl=>by
    refine⟨?_,?_⟩
    ·obtain⟨k,hk,hxe⟩:=C75 hmk x hxl
     have hb0:=hB k hk
     have:=(ho.t k hk).l
     rcases hxe with rfl | rfl
     ·exact hb0
     ·show 0≤sE q m k;unfold sE;omega
    ·rw[hl']at hxl hpw
     rcases List.mem_append.1 hxl with hx1 | hx1
     ·have:=(List.pairwise_append.1 hpw).2.2 x hx1 _ List.mem_cons_self
      have:x.at_≤sE q m (q.steps.length-1):=this
      omega
     ·rw[List.mem_singleton.1 hx1];show sE q m (q.steps.length-1)≤_;omega
   have hev:∀ x∈l,A5H q x=0:=fun x hxl=>by
    obtain⟨k,hk,hxe⟩:=C75 hmk x hxl
    have h5:=hat x hxl
    rcases hxe with rfl | rfl
    ·exact C6P hk (.inl rfl) h5
    ·exact C6P hk (.inr rfl) h5
   obtain⟨hz,ri⟩:=C7F ho hx hB (E:=sE q m) (fun k hk=>rfl) (by rw[hEm];omega) hmk hpw fun x hxl=>B60 (hev x hxl)
   have hpl:=B7X hc0 (by omega:l.length≤100) hev
   rw[C0n,List.nil_append]at hpl
   rw[hqe,B56 hqf,oS,hpl]
   have le:=ri.cf.le
   have he2:=ri.e (q.steps.length-1) oM
   rw[if_pos (hen _ oM),hEm]at he2
   show(if(0:Int)=0 then(if((B8z q (A0U q) l).ended.length:Int)=(q.steps.length:Int)then((P3 (B8z q (A0U q) l).ended (W (((B8z q (A0U q) l).ended.length:Int)-1))).bind _)else _)else _)=_
   rw[if_pos rfl,if_pos oM,A8K oM oM,show((B8z q (A0U q) l).ended.length:Int)-1=((q.steps.length-1:Nat):Int) by omega,H3 oM,oS,← J6 0 oM,he2,if_pos rfl,C52]
   exact C7a (r:=(C1e (some (B8z q (A0U q) l)),B57 q (A0U q) l,0)) (by show(B57 _ _ _).length≤100;rw[B4G];omega) hz (fun x=>by rw[ha];rfl) F 0 (by show(B57 _ _ _).length<_;rw[B4G];omega) oM
end Go.Proofs.YtlaogbbcipebgaaGreat
