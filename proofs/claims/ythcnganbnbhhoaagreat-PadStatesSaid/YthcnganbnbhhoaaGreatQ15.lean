/- The stable sort of dangers: symMerge. -/
import Derived.Test.YthcnganbnbhhoaaGreatQ1
set_option linter.unusedVariables false
set_option linter.unusedSimpArgs false
open Go Go.Proofs.YthcnganbnbhhoaaGreat.Sh Go.Proofs
namespace Go.Proofs.YthcnganbnbhhoaaGreat
def A9Z (F nn:Nat) (rv mid e:Int) (d:List A4):Option (List A4):=if mid<e then(if e<rv then((Y3 (B2 F nn d mid e rv) d).bind fun x=>some x)else(some d))else(some d)
def A9I (F nn:Nat) (o x mid e rv:Int) (d:List A4):Option (List A4):=if o<x then(if x<mid then((Y3 (B2 F nn d o x mid) d).bind fun d2=>A9Z F nn rv mid e d2)else(A9Z F nn rv mid e d))else(A9Z F nn rv mid e d)
def A9R (F nn:Nat) (t:List A4) (o a rv mid x:Int):Option (List A4):=if x<a then(if a<(W ((W (mid+a))-x))then((Y3 (I6 F t x a (W ((W (mid+a))-x))) t).bind fun d=>A9I F nn o x mid (W ((W (mid+a))-x)) rv d)else(A9I F nn o x mid (W ((W (mid+a))-x)) rv t))else(A9I F nn o x mid (W ((W (mid+a))-x)) rv t)
theorem B5U (F nn:Nat) (t:List A4) (o a rv:Int):B2 F (nn+1) t o a rv=if(W (a-o))=1 then(D9 F t o (fun x2 _=>E7 F x2 (fun t2 _=>some t2) F t o) F a rv)else(if(W (rv-a))=1 then(E0 F t a (fun x6 _=>E8 F x6 (fun t5 _=>some t5) F t a) F o a)else(if(W (I3 .u64 (IntKind.u64.wrap (W (o+rv))) 1))<a then(E1 F t o a rv (fun x _=>A9R F nn t o a rv (W (I3 .u64 (IntKind.u64.wrap (W (o+rv))) 1)) x) F (W ((W ((W (I3 .u64 (IntKind.u64.wrap (W (o+rv))) 1))+a))-rv)) (W (I3 .u64 (IntKind.u64.wrap (W (o+rv))) 1)))else(E2 F t o a rv (fun x _=>A9R F nn t o a rv (W (I3 .u64 (IntKind.u64.wrap (W (o+rv))) 1)) x) F o a))):=rfl
def B2G (F nn:Nat):Prop:=∀ A X Y C:List A4,0<X.length→0<Y.length→X.length+Y.length≤nn→A.length+X.length+Y.length+C.length≤400→Few X→Few Y→Srt X→Srt Y→Crs X Y→∃ Z,B2 F nn (A++(X++(Y++C))) (A.length:Nat) ((A.length+X.length:Nat):Int) ((A.length+X.length+Y.length:Nat):Int)=some (A++(Z++C))∧Mer X Y Z
theorem B5F {F nn:Nat} (IH:B2G F nn) {A X Y C:List A4} {mid e rv:Int} (hn:X.length+Y.length≤nn) (hl:A.length+X.length+Y.length+C.length≤400) (hfx:Few X) (hfy:Few Y) (hx:Srt X) (hy:Srt Y) (hc:Crs X Y) (h1:mid=A.length) (h2:e=((A.length+X.length:Nat):Int)) (h3:rv=((A.length+X.length+Y.length:Nat):Int)):∃ Z,A9Z F nn rv mid e (A++(X++(Y++C)))=some (A++(Z++C))∧Mer X Y Z:=by
 subst h1 h2 h3
 unfold A9Z
 by_cases hX:X=[]
 ·subst hX
  rw[if_neg sM]
  exact⟨Y,rfl,Mer.nilL hy⟩
 have hX0:0<X.length:=List.length_pos_iff.2 hX
 rw[if_pos oM]
 by_cases hY:Y=[]
 ·subst hY
  rw[if_neg sM]
  exact⟨X,by simp,Mer.nilR hx⟩
 have hY0:0<Y.length:=List.length_pos_iff.2 hY
 obtain⟨Z,e,hm⟩:=IH A X Y C hX0 hY0 hn hl hfx hfy hx hy hc
 rw[if_pos oM,e,A1W (by simp[hm.l];omega),oS]
 exact⟨Z,rfl,hm⟩
theorem B5i {F nn:Nat} (IH:B2G F nn) {A X1 Y1 X2 Y2 C:List A4} {o x mid e rv:Int} (hn1:X1.length+Y1.length≤nn) (hn2:X2.length+Y2.length≤nn) (hl:A.length+X1.length+Y1.length+X2.length+Y2.length+C.length≤400) (hf1:Few X1) (hf2:Few X2) (hg1:Few Y1) (hg2:Few Y2) (hx1:Srt X1) (hx2:Srt X2) (hy1:Srt Y1) (hy2:Srt Y2) (hc1:Crs X1 Y1) (hc2:Crs X2 Y2) (h0:o=A.length) (h1:x=((A.length+X1.length:Nat):Int)) (h2:mid=((A.length+X1.length+Y1.length:Nat):Int)) (h3:e=((A.length+X1.length+Y1.length+X2.length:Nat):Int)) (h4:rv=((A.length+X1.length+Y1.length+X2.length+Y2.length:Nat):Int)) :
 ∃ Z1 Z2,A9I F nn o x mid e rv (A++(X1++(Y1++(X2++(Y2++C)))))=some (A++(Z1++(Z2++C)))∧Mer X1 Y1 Z1∧Mer X2 Y2 Z2:=by
 have fin:∀ Z1,Mer X1 Y1 Z1→∃ Z2,A9Z F nn rv mid e (A++(Z1++(X2++(Y2++C))))=some (A++(Z1++(Z2++C)))∧Mer X2 Y2 Z2:=fun Z1 hm=>by
  have hlz:=hm.l
  have hal:(A++Z1).length=A.length+Z1.length:=List.length_append
  obtain⟨Z2,e1,hm2⟩:=B5F IH (A:=A++Z1) (C:=C) (mid:=mid) (e:=e) (rv:=rv) hn2 oM hf2 hg2 hx2 hy2 hc2 oM oM oM
  rw[List.append_assoc,List.append_assoc]at e1
  exact⟨Z2,e1,hm2⟩
 unfold A9I
 by_cases hX:X1=[]
 ·subst hX
  obtain⟨Z2,e1,hm2⟩:=fin Y1 (Mer.nilL hy1)
  rw[if_neg (by rw[h0,h1];simp)]
  exact⟨Y1,Z2,e1,Mer.nilL hy1,hm2⟩
 have hX0:0<X1.length:=List.length_pos_iff.2 hX
 rw[if_pos oM]
 by_cases hY:Y1=[]
 ·subst hY
  obtain⟨Z2,e1,hm2⟩:=fin X1 (Mer.nilR hx1)
  rw[if_neg (by rw[h1,h2];simp)]
  exact⟨X1,Z2,e1,Mer.nilR hx1,hm2⟩
 have hY0:0<Y1.length:=List.length_pos_iff.2 hY
 obtain⟨Z1,e1,hm⟩:=IH A X1 Y1 (X2++(Y2++C)) hX0 hY0 hn1 (by simp;omega) hf1 hg1 hx1 hy1 hc1
 obtain⟨Z2,e2,hm2⟩:=fin Z1 hm
 rw[if_pos oM,h0,h1,h2,e1,A1W (by simp[hm.l];omega),oS,← h2]
 exact⟨Z1,Z2,e2,hm,hm2⟩
theorem A2J {X Y:List A4} (h:Few X) (hs:∀ z∈Y,z∈X):Few Y:=fun z hz=>h z (hs z hz)
theorem B2X {F nn:Nat} (hF:1000<F) (IH:B2G F nn) {A X Y C:List A4} (hX0:0<X.length) (hY0:0<Y.length) (hn:X.length+Y.length≤nn+1) (hl:A.length+X.length+Y.length+C.length≤400) (hfx:Few X) (hfy:Few Y) (hx:Srt X) (hy:Srt Y) (hc:Crs X Y) {s lo hi:Nat}
 (hb:(A.length+(A.length+X.length+Y.length))/2<A.length+X.length∧lo=(A.length+(A.length+X.length+Y.length))/2+(A.length+X.length)-(A.length+X.length+Y.length)∧hi=(A.length+(A.length+X.length+Y.length))/2∨A.length+X.length≤(A.length+(A.length+X.length+Y.length))/2∧lo=A.length∧hi=A.length+X.length) (h1:lo≤s) (h2:s≤hi)
 (h4:∀ c,lo≤c→c<s→¬ ((A++(X++(Y++C))).getD ((A.length+(A.length+X.length+Y.length))/2+(A.length+X.length)-1-c) default).squib<((A++(X++(Y++C))).getD c default).squib) (h5:∀ c,s≤c→c<hi→((A++(X++(Y++C))).getD ((A.length+(A.length+X.length+Y.length))/2+(A.length+X.length)-1-c) default).squib<((A++(X++(Y++C))).getD c default).squib) :
 ∃ Z,A9R F nn (A++(X++(Y++C))) (A.length:Nat) ((A.length+X.length:Nat):Int) ((A.length+X.length+Y.length:Nat):Int) ((((A.length+(A.length+X.length+Y.length))/2:Nat):Int)) s=some (A++(Z++C))∧Mer X Y Z:=by
 obtain⟨mid,hmid⟩:∃ mid,mid=(A.length+(A.length+X.length+Y.length))/2:=⟨_,rfl⟩
 rw[← hmid]at hb h4 h5 ⊢
 have hs1:A.length≤s:=by omega
 have hs2:s≤A.length+X.length:=by omega
 obtain⟨e,he⟩:∃ e,e=mid+(A.length+X.length)-s:=⟨_,rfl⟩
 have he1:A.length+X.length≤e:=by omega
 have he2:e≤A.length+X.length+Y.length:=by omega
 obtain⟨X1,X2,hXX,hX1,hX2,hm1,hm2⟩:∃ X1 X2,X=X1++X2∧X1.length=s-A.length∧X2.length=A.length+X.length-s∧(∀ x∈X1,∃ i,i<s-A.length∧i<X.length∧x=X.getD i default)∧(∀ x∈X2,∃ i,s-A.length≤i∧i<X.length∧x=X.getD i default):=⟨X.take (s-A.length),X.drop (s-A.length),(List.take_append_drop _ _).symm,by rw[List.length_take];omega,by rw[List.length_drop];omega,fun x h=>A3A h,fun x h=>A39 h⟩
 obtain⟨Y1,Y2,hYY,hY1,hY2,hn1,hn2⟩:∃ Y1 Y2,Y=Y1++Y2∧Y1.length=e-(A.length+X.length)∧Y2.length=A.length+X.length+Y.length-e∧(∀ x∈Y1,∃ i,i<e-(A.length+X.length)∧i<Y.length∧x=Y.getD i default)∧(∀ x∈Y2,∃ i,e-(A.length+X.length)≤i∧i<Y.length∧x=Y.getD i default):=⟨Y.take (e-(A.length+X.length)),Y.drop (e-(A.length+X.length)),(List.take_append_drop _ _).symm,by rw[List.length_take];omega,by rw[List.length_drop];omega,fun x h=>A3A h,fun x h=>A39 h⟩
 have h12:∀ x∈X1,∀ y∈Y2,dLt x y:=fun x hxm y hym=>by
  obtain⟨i,hi1,hi2,rfl⟩:=hm1 x hxm
  obtain⟨j,hj1,hj2,rfl⟩:=hn2 y hym
  have k:=h4 (s-1) oM oM
  rw[show mid+(A.length+X.length)-1-(s-1)=e by omega,B3Z he1 oM,B3Y oM oM]at k
  have k2:=B2d (hc _ (A49 (i:=s-1-A.length) oM) _ (A49 (i:=e-A.length-X.length) oM)) k
  have k3:dLt (X.getD i default) (Y.getD (e-A.length-X.length) default):=by
   by_cases hi3:i=s-1-A.length
   ·rw[hi3];exact k2
   ·exact(hx.get (show i<s-1-A.length by omega) oM).trans k2
  by_cases hj3:j=e-A.length-X.length
  ·rw[hj3];exact k3
  ·exact k3.trans (hy.get (show e-A.length-X.length<j by omega) oM)
 have h21:∀ y∈Y1,∀ x∈X2,dLt y x:=fun y hym x hxm=>by
  obtain⟨i,hi1,hi2,rfl⟩:=hm2 x hxm
  obtain⟨j,hj1,hj2,rfl⟩:=hn1 y hym
  have k:=h5 s (Nat.le_refl _) oM
  rw[show mid+(A.length+X.length)-1-s=e-1 by omega,B3Z oM oM,B3Y hs1 oM]at k
  have k2:dLt (Y.getD (e-1-A.length-X.length) default) (X.getD (s-A.length) default) := .inl k
  have k3:dLt (Y.getD j default) (X.getD (s-A.length) default):=by
   by_cases hj3:j=e-1-A.length-X.length
   ·rw[hj3];exact k2
   ·exact(hy.get (show j<e-1-A.length-X.length by omega) oM).trans k2
  by_cases hi3:i=s-A.length
  ·rw[hi3];exact k3
  ·exact k3.trans (hx.get (show s-A.length<i by omega) oM)
 have hlX:X.length=X1.length+X2.length:=by rw[hXX,List.length_append]
 have hlY:Y.length=Y1.length+Y2.length:=by rw[hYY,List.length_append]
 have hEe:W ((W ((mid:Int)+((A.length+X.length:Nat):Int)))-(s:Int))=((e:Nat):Int):=by rw[A1p (x:=(mid:Int)+_) oM oM,A1p oM oM];omega
 have hhead:∃ Z,A9I F nn (A.length:Nat) s mid e ((A.length+X.length+Y.length:Nat):Int) (A++(X1++(Y1++(X2++(Y2++C)))))=some (A++(Z++C))∧Mer X Y Z:=by
  have px:=hx;have py:=hy
  rw[hXX]at px;rw[hYY]at py
  have px2:=List.pairwise_append.1 px;have py2:=List.pairwise_append.1 py
  obtain⟨Z1,Z2,e1,m1,m2⟩:=B5i IH (A:=A) (X1:=X1) (Y1:=Y1) (X2:=X2) (Y2:=Y2) (C:=C) (o:=(A.length:Nat)) (x:=s) (mid:=mid) (e:=e) (rv:=((A.length+X.length+Y.length:Nat):Int)) oM oM oM (A2J hfx fun z hz=>by rw[hXX];simp[hz]) (A2J hfx fun z hz=>by rw[hXX];simp[hz]) (A2J hfy fun z hz=>by rw[hYY];simp[hz]) (A2J hfy fun z hz=>by rw[hYY];simp[hz]) px2.1 px2.2.1 py2.1 py2.2.1 (fun x h y k=>hc x (by rw[hXX];simp[h]) y (by rw[hYY];simp[k])) (fun x h y k=>hc x (by rw[hXX];simp[h]) y (by rw[hYY];simp[k])) rfl oM oM oM oM
  refine⟨Z1++Z2,by rw[e1];simp,?_⟩
  rw[hXX,hYY]
  exact m1.join m2 px py h12 h21
 unfold A9R
 rw[hEe]
 by_cases c1:s<A.length+X.length
 ·rw[if_pos oM]
  by_cases c2:A.length+X.length<e
  ·rw[if_pos oM]
   have hal:(A++X1).length=A.length+X1.length:=List.length_append
   have hr:=B6z (F:=F) (A:=A++X1) (X:=X2) (Y:=Y1) (C:=Y2++C) (a:=s) (mv:=((A.length+X.length:Nat):Int)) (b:=e) hF oM oM oM oM oM oM
   have hd:A++(X++(Y++C))=A++X1++(X2++(Y1++(Y2++C))):=by rw[hXX,hYY];simp
   rw[hd,hr,oS,List.append_assoc]
   exact hhead
  ·rw[if_neg oM]
   have:Y1=[]:=List.eq_nil_of_length_eq_zero oM
   subst this
   have hd:A++(X++(Y++C))=A++(X1++([]++(X2++(Y2++C)))):=by rw[hXX,hYY];simp
   rw[hd]
   exact hhead
 ·rw[if_neg oM]
  have:X2=[]:=List.eq_nil_of_length_eq_zero oM
  subst this
  have hd:A++(X++(Y++C))=A++(X1++(Y1++([]++(Y2++C)))):=by rw[hXX,hYY];simp
  rw[hd]
  exact hhead
theorem B4M {F:Nat} (hF:1000<F):∀ nn,B2G F nn
 | 0=>fun A X Y C hX0 hY0 hn=>absurd hn oM
 | nn+1=>fun A X Y C hX0 hY0 hn hl hfx hfy hx hy hc=>by
  have IH:=B4M hF nn
  have dX:∀ c,A.length≤c→c<A.length+X.length→(A++(X++(Y++C))).getD c default=X.getD (c-A.length) default:=fun c h1 h2=>B3Y h1 h2
  have dY:∀ c,A.length+X.length≤c→c<A.length+X.length+Y.length→(A++(X++(Y++C))).getD c default=Y.getD (c-A.length-X.length) default:=fun c h1 h2=>B3Z h1 h2
  have hlen:(A++(X++(Y++C))).length=A.length+X.length+Y.length+C.length:=by simp;omega
  have fewD:∀ c,A.length≤c→c<A.length+X.length+Y.length→0≤((A++(X++(Y++C))).getD c default).squib∧((A++(X++(Y++C))).getD c default).squib≤1000:=fun c h1 h2=>by
   by_cases h3:c<A.length+X.length
   ·rw[dX c h1 h3];exact hfx _ (A49 oM)
   ·rw[dY c oM h2];exact hfy _ (A49 oM)
  rw[B5U]
  rw[A1p (x:=((A.length+X.length:Nat):Int)-_) oM oM,A1p (x:=((A.length+X.length+Y.length:Nat):Int)-_) oM oM]
  by_cases c1:X.length=1
  ·rw[if_pos oM]
   obtain⟨x,rfl⟩:=List.length_eq_one_iff.1 c1
   obtain⟨s,h1,h2,h3,h4,h5⟩:=sL2 (F:=F) hF (t:=A++([x]++(Y++C))) oM (k:=A.length) oM (K:=fun x2=>E7 F x2 (fun t2 _=>some t2) F (A++([x]++(Y++C))) (A.length:Nat)) (L:=A.length+[x].length) (H:=A.length+[x].length+Y.length) oM oM (fewD _ oM (by simp;omega)) (fun c k1 k2=>fewD c oM k2) (fun c d k1 k2 k3=>by rw[dY c k1 oM,dY d oM k3];exact hy.le oM oM)
   have hx0:(A++([x]++(Y++C))).getD A.length default=x:=by rw[dX _ (Nat.le_refl _) sM];simp
   rw[hx0]at h4 h5
   have hYY:Y=Y.take (s-(A.length+1))++Y.drop (s-(A.length+1)):=(List.take_append_drop _ _).symm
   simp only[List.length_singleton]at h1 h2 dY h4 h5
   have t1:(Y.take (s-(A.length+1))).length=s-(A.length+1):=by rw[List.length_take];omega
   have hmv:=B5K (F:=F) (x2:=(s:Int)) (K:=fun d=>some d) (x:=x) (Y.take (s-(A.length+1))) A (Y.drop (s-(A.length+1))++C) F oM oM oM
   have hd:A++([x]++(Y++C))=A++(x::(Y.take (s-(A.length+1))++(Y.drop (s-(A.length+1))++C))):=by rw[← List.append_assoc (Y.take _),← hYY];rfl
   refine⟨Y.take (s-(A.length+1))++(x::Y.drop (s-(A.length+1))),h3.trans ?_,?_,fun z=>?_,?_⟩
   ·show E7 F s (fun t2 _=>some t2) F (A++([x]++(Y++C))) (A.length:Nat)=_
    rw[hd]
    refine hmv.trans ?_
    simp
   ·have py:=hy
    rw[hYY]at py
    have py2:=List.pairwise_append.1 py
    show List.Pairwise dLt (_++_)
    rw[List.pairwise_append,List.pairwise_cons]
    have kx:∀ y∈Y.drop (s-(A.length+1)),dLt x y:=fun y hym=>by
     obtain⟨i,hi1,hi2,rfl⟩:=A39 hym
     have:=h5 (A.length+1+i) oM oM
     rw[dY _ oM oM,show A.length+1+i-A.length-1=i by omega]at this
     exact B2d (hc x sM _ (A49 hi2)) this
    have ky:∀ y∈Y.take (s-(A.length+1)),dLt y x:=fun y hym=>by
     obtain⟨i,hi1,hi2,rfl⟩:=A3A hym
     have:=h4 (A.length+1+i) oM oM
     rw[dY _ oM oM,show A.length+1+i-A.length-1=i by omega]at this
     exact .inl this
    refine⟨py2.1,⟨kx,py2.2.1⟩,fun y hym z hz=>?_⟩
    rcases List.mem_cons.1 hz with rfl | hz
    ·exact ky y hym
    ·exact py2.2.2 y hym z hz
   ·rw[List.mem_append,List.mem_cons,List.mem_singleton]
    conv=>rhs;rw[hYY,List.mem_append]
    constructor
    ·rintro(h | h | h)
     ·exact .inr (.inl h)
     ·exact .inl h
     ·exact .inr (.inr h)
    ·rintro(h | h | h)
     ·exact .inr (.inl h)
     ·exact .inl h
     ·exact .inr (.inr h)
   ·simp;omega
  rw[if_neg oM]
  by_cases c2:Y.length=1
  ·rw[if_pos oM]
   obtain⟨y,rfl⟩:=List.length_eq_one_iff.1 c2
   obtain⟨s,h1,h2,h3,h4,h5⟩:=sL4 (F:=F) hF (t:=A++(X++([y]++C))) oM (k:=A.length+X.length) (by simp only[List.length_singleton]at hlen;omega) (K:=fun x6=>E8 F x6 (fun t5 _=>some t5) F (A++(X++([y]++C))) ((A.length+X.length:Nat):Int)) (L:=A.length) (H:=A.length+X.length) oM oM (fewD _ oM sM) (fun c k1 k2=>fewD c k1 oM) (fun c d k1 k2 k3=>by rw[dX c k1 oM,dX d oM k3];exact hx.le oM oM)
   have hy0:(A++(X++([y]++C))).getD (A.length+X.length) default=y:=by rw[dY _ (Nat.le_refl _) sM];simp
   rw[hy0]at h4 h5
   have hXX:X=X.take (s-A.length)++X.drop (s-A.length):=(List.take_append_drop _ _).symm
   have t1:(X.take (s-A.length)).length=s-A.length:=by rw[List.length_take];omega
   have t2:(X.drop (s-A.length)).length=X.length-(s-A.length):=List.length_drop
   have hal:(A++X.take (s-A.length)).length=s:=by rw[List.length_append];omega
   have hmv:=B5J (F:=F) (x6:=(s:Int)) (K:=fun d=>some d) (y:=y) (P:=A++X.take (s-A.length)) oM (X.drop (s-A.length)).reverse C F (by rw[List.length_reverse];omega) (by rw[List.length_reverse];omega)
   rw[List.length_reverse,List.reverse_reverse,show(A++X.take (s-A.length)).length+(X.drop (s-A.length)).length=A.length+X.length by omega]at hmv
   have hd:A++(X++([y]++C))=A++X.take (s-A.length)++(X.drop (s-A.length)++(y::C)):=by
    rw[List.append_assoc,← List.append_assoc (X.take _) (X.drop _),← hXX]
    rfl
   refine⟨X.take (s-A.length)++(y::X.drop (s-A.length)),h3.trans ?_,?_,fun z=>?_,?_⟩
   ·show E8 F s (fun t5 _=>some t5) F (A++(X++([y]++C))) ((A.length+X.length:Nat):Int)=_
    rw[hd]
    refine hmv.trans ?_
    simp
   ·have px:=hx
    rw[hXX]at px
    have px2:=List.pairwise_append.1 px
    show List.Pairwise dLt (_++_)
    rw[List.pairwise_append,List.pairwise_cons]
    have kx:∀ x∈X.drop (s-A.length),dLt y x:=fun x hxm=>by
     obtain⟨i,hi1,hi2,rfl⟩:=A39 hxm
     have:=h5 (A.length+i) oM oM
     rw[dX _ oM oM,show A.length+i-A.length=i by omega]at this
     exact .inl this
    have ky:∀ x∈X.take (s-A.length),dLt x y:=fun x hxm=>by
     obtain⟨i,hi1,hi2,rfl⟩:=A3A hxm
     have:=h4 (A.length+i) oM oM
     rw[dX _ oM oM,show A.length+i-A.length=i by omega]at this
     exact B2d (hc _ (A49 hi2) y sM) this
    refine⟨px2.1,⟨kx,px2.2.1⟩,fun x hxm z hz=>?_⟩
    rcases List.mem_cons.1 hz with rfl | hz
    ·exact ky x hxm
    ·exact px2.2.2 x hxm z hz
   ·rw[List.mem_append,List.mem_cons,List.mem_singleton]
    conv=>rhs;rw[hXX,List.mem_append]
    constructor
    ·rintro(h | h | h)
     ·exact .inl (.inl h)
     ·exact .inr h
     ·exact .inl (.inr h)
    ·rintro((h | h) | h)
     ·exact .inl h
     ·exact .inr (.inr h)
     ·exact .inr (.inl h)
   ·simp;omega
  rw[if_neg oM,A6U oM]
  by_cases c3:(A.length+(A.length+X.length+Y.length))/2<A.length+X.length
  ·rw[if_pos oM,show W ((W ((((A.length+(A.length+X.length+Y.length))/2:Nat):Int)+((A.length+X.length:Nat):Int)))-((A.length+X.length+Y.length:Nat):Int))=(((A.length+(A.length+X.length+Y.length))/2+(A.length+X.length)-(A.length+X.length+Y.length):Nat):Int) by rw[A1p (x:=(((A.length+(A.length+X.length+Y.length))/2:Nat):Int)+_) oM oM,A1p oM oM];omega]
   obtain⟨s,h1,h2,h3,h4,h5⟩:=sL5 (F:=F) hF (t:=A++(X++(Y++C))) (o:=A.length) (a:=A.length+X.length) (rv:=A.length+X.length+Y.length) (by simp;omega) oM oM (K:=fun x=>A9R F nn (A++(X++(Y++C))) (A.length:Nat) ((A.length+X.length:Nat):Int) ((A.length+X.length+Y.length:Nat):Int) ((((A.length+(A.length+X.length+Y.length))/2:Nat):Int)) x) (L:=(A.length+(A.length+X.length+Y.length))/2+(A.length+X.length)-(A.length+X.length+Y.length)) (H:=(A.length+(A.length+X.length+Y.length))/2) (B:=A.length+X.length+Y.length) (by rw[hlen];omega) oM oM (fun c k1 k2=>by omega) (fun c k1 k2=>fewD c oM k1) (fun c k1 k2=>by omega) (fun c d k1 k2 k3 k4=>by
     have q1:=dX c oM oM
     have q2:=dX d oM oM
     have q3:=dY ((A.length+(A.length+X.length+Y.length))/2+(A.length+X.length)-1-c) oM oM
     have q4:=dY ((A.length+(A.length+X.length+Y.length))/2+(A.length+X.length)-1-d) oM oM
     rw[q1,q3]at k4
     rw[q2,q4]
     have z1:=hx.le (i:=c-A.length) (j:=d-A.length) oM oM
     have z2:=hy.le (i:=(A.length+(A.length+X.length+Y.length))/2+(A.length+X.length)-1-d-A.length-X.length) (j:=(A.length+(A.length+X.length+Y.length))/2+(A.length+X.length)-1-c-A.length-X.length) oM oM
     omega)
   obtain⟨Z,e,hm⟩:=B2X hF IH hX0 hY0 hn hl hfx hfy hx hy hc (s:=s) (lo:=(A.length+(A.length+X.length+Y.length))/2+(A.length+X.length)-(A.length+X.length+Y.length)) (hi:=(A.length+(A.length+X.length+Y.length))/2) oM h1 h2 h4 h5
   exact⟨Z,(congrArg _ rfl).trans (h3.trans e),hm⟩
  ·rw[if_neg oM]
   obtain⟨s,h1,h2,h3,h4,h5⟩:=sL6 (F:=F) hF (t:=A++(X++(Y++C))) (o:=A.length) (a:=A.length+X.length) (rv:=A.length+X.length+Y.length) (by simp;omega) oM oM (K:=fun x=>A9R F nn (A++(X++(Y++C))) (A.length:Nat) ((A.length+X.length:Nat):Int) ((A.length+X.length+Y.length:Nat):Int) ((((A.length+(A.length+X.length+Y.length))/2:Nat):Int)) x) (L:=A.length) (H:=A.length+X.length) (B:=A.length+X.length+Y.length) (by rw[hlen];omega) oM oM (fun c k1 k2=>by omega) (fun c k1 k2=>fewD c oM k1) (fun c k1 k2=>by omega) (fun c d k1 k2 k3 k4=>by
     have q1:=dX c oM oM
     have q2:=dX d oM oM
     have q3:=dY ((A.length+(A.length+X.length+Y.length))/2+(A.length+X.length)-1-c) oM oM
     have q4:=dY ((A.length+(A.length+X.length+Y.length))/2+(A.length+X.length)-1-d) oM oM
     rw[q1,q3]at k4
     rw[q2,q4]
     have z1:=hx.le (i:=c-A.length) (j:=d-A.length) oM oM
     have z2:=hy.le (i:=(A.length+(A.length+X.length+Y.length))/2+(A.length+X.length)-1-d-A.length-X.length) (j:=(A.length+(A.length+X.length+Y.length))/2+(A.length+X.length)-1-c-A.length-X.length) oM oM
     omega)
   obtain⟨Z,e,hm⟩:=B2X hF IH hX0 hY0 hn hl hfx hfy hx hy hc (s:=s) (lo:=A.length) (hi:=A.length+X.length) oM h1 h2 h4 h5
   exact⟨Z,(congrArg _ rfl).trans (h3.trans e),hm⟩
def A07 (X:List A4):List A4:=(A4e [] X).reverse
theorem A3P {X:List A4} (h:X.Pairwise Bef):Srt (A07 X):=B61 h
theorem W7 {X:List A4} (z:A4):z∈A07 X↔z∈X:=by unfold A07;rw[List.mem_reverse,A9W];simp
theorem O8 (X:List A4):(A07 X).length=X.length:=by unfold A07;rw[List.length_reverse,A7Z];simp
theorem A3O {X:List A4} (h:Few X):Few (A07 X):=A2J h fun z hz=>(W7 z).1 hz
theorem B5l {X Y Z:List A4} (hx:Few X) (hy:Few Y) (h:Mer X Y Z):Few Z:=fun z hz=>by
 rcases(h.m z).1 hz with k | k
 ·exact hx z k
 ·exact hy z k
theorem A7Q {F:Nat} (hF:1000<F) {a b:Int} (A X C:List A4) (ha:a=A.length) (hb:b=A.length+X.length) (hl:A.length+X.length≤400) (hf:Few X):Y3 (G1 F (A++(X++C)) a b) (A++(X++C))=some (A++(A07 X++C)):=B0k hF ha hb hl hf
theorem A8U {F:Nat} (hF:1000<F) {a m b:Int} (A X Y C:List A4) (hX:0<X.length) (hY:0<Y.length) (ha:a=A.length) (hm:m=A.length+X.length) (hb:b=A.length+X.length+Y.length) (hl:A.length+X.length+Y.length+C.length≤400) (hfx:Few X) (hfy:Few Y) (hx:Srt X) (hy:Srt Y) (hc:Crs X Y):∃ Z,Y3 (K0 F (A++(X++(Y++C))) a m b) (A++(X++(Y++C)))=some (A++(Z++C))∧Mer X Y Z:=by
 obtain⟨Z,e,hz⟩:=B4M hF F A X Y C hX hY oM hl hfx hfy hx hy hc
 refine⟨Z,?_,hz⟩
 rw[K0,ha,show m=((A.length+X.length:Nat):Int) by omega,show b=((A.length+X.length+Y.length:Nat):Int) by omega,e]
 exact A1W (by simp[hz.l];omega)
structure B3M (l Z:List A4):Prop where
 s:Srt Z
 m:∀ z,z∈Z↔z∈l
 l:Z.length=l.length
theorem B3B {F:Nat} (hF:1000<F) {l:List A4} (hl:l.length<60) (hf:Few l) (hb:l.Pairwise Bef):∃ Z,L6 F l (l.length:Nat)=some Z∧B3M l Z:=by
 obtain⟨G,hG⟩:∃ G,F=G+3:=⟨F-3,by omega⟩
 rw[L6]
 by_cases c1:l.length<20
 ·have e1:D7 F (l.length:Nat) (fun data2 a b=>(Y3 (G1 F data2 a (l.length:Nat)) data2).bind fun rv2=>D2 F (l.length:Nat) (fun data3 _=>some data3) F rv2 20) F l 0 20=some (A07 l):=by
   conv=>lhs;arg 4;rw[hG]
   rw[D7,if_neg oM]
   have:=A7Q hF (a:=0) (b:=(l.length:Nat)) [] l [] sM sM (by simp;omega) hf
   rw[List.append_nil,List.nil_append,List.nil_append,List.append_nil]at this
   rw[this,oS]
   conv=>lhs;arg 4;rw[hG]
   rw[D2,if_neg oM]
  exact⟨A07 l,e1,A3P hb,W7,O8 l⟩
 by_cases c2:l.length<40
 ·obtain⟨P1,P2,rfl,h1⟩:∃ P1 P2,l=P1++P2∧P1.length=20:=⟨l.take 20,l.drop 20,(List.take_append_drop _ _).symm,by rw[List.length_take];omega⟩
  have hl2:(P1++P2).length=20+P2.length:=by rw[List.length_append,h1]
  have hb2:=List.pairwise_append.1 hb
  have f1:Few P1:=A2J hf fun z hz=>by simp[hz]
  have f2:Few P2:=A2J hf fun z hz=>by simp[hz]
  have i1:=A7Q hF (a:=0) (b:=20) [] P1 P2 sM (by simp[h1]) (by simp;omega) f1
  have i2:=A7Q hF (a:=20) (b:=((P1++P2).length:Nat)) (A07 P1) P2 [] (by rw[O8,h1];rfl) (by rw[O8,hl2,h1];omega) (by rw[O8];omega) f2
  simp only[List.nil_append,List.append_nil]at i1 i2
  have hcr:Crs (A07 P1) (A07 P2):=fun x hx y hy=>hb2.2.2 x ((W7 x).1 hx) y ((W7 y).1 hy)
  have e0:∀ K:List A4→Int→Int→Option (List A4),D7 F ((P1++P2).length:Nat) K F (P1++P2) 0 20=K (A07 P1++P2) 20 40:=fun K=>by
   conv=>lhs;arg 4;rw[hG]
   rw[D7,if_pos oM,i1,oS,show W ((20:Int)+20)=40 from rfl,D7,if_neg oM]
  rw[e0,i2,oS]
  by_cases c3:P2.length=0
  ·have:P2=[]:=List.eq_nil_of_length_eq_zero c3
   subst this
   refine⟨A07 P1++A07 [],?_,?_⟩
   ·conv=>lhs;arg 4;rw[hG]
    rw[D2,if_neg oM]
   ·have:A07 P1++A07 []=A07 P1:=by simp[A07,A4e]
    rw[this]
    exact⟨A3P hb2.1,fun z=>by rw[W7];simp,by rw[O8];simp⟩
  obtain⟨Z,e1,hz⟩:=A8U hF (a:=0) (m:=20) (b:=((P1++P2).length:Nat)) [] (A07 P1) (A07 P2) [] (by rw[O8];omega) (by rw[O8];omega) sM (by simp[O8,h1]) (by simp[O8]) (by simp[O8];omega) (A3O f1) (A3O f2) (A3P hb2.1) (A3P hb2.2.1) hcr
  simp only[List.nil_append,List.append_nil]at e1
  refine⟨Z,?_,hz.s,fun z=>by rw[hz.m,W7,W7,List.mem_append],by rw[hz.l,O8,O8,List.length_append]⟩
  conv=>lhs;arg 4;rw[hG]
  rw[D2,if_pos oM,show W (2*(20:Int))=40 from rfl]
  conv=>lhs;arg 5;rw[hG]
  rw[G6,if_neg oM,show W ((0:Int)+20)=20 from rfl,if_pos oM,e1,oS,show W ((20:Int)*2)=40 from rfl,D2,if_neg oM]
 ·obtain⟨P1,Q,rfl,h1⟩:∃ P1 P2,l=P1++P2∧P1.length=20:=⟨l.take 20,l.drop 20,(List.take_append_drop _ _).symm,by rw[List.length_take];omega⟩
  have hl2:(P1++Q).length=20+Q.length:=by rw[List.length_append,h1]
  obtain⟨P2,P3,rfl,h2⟩:∃ P1 P2,Q=P1++P2∧P1.length=20:=⟨Q.take 20,Q.drop 20,(List.take_append_drop _ _).symm,by rw[List.length_take];omega⟩
  have hl3:(P1++(P2++P3)).length=40+P3.length:=by rw[List.length_append,List.length_append,h1,h2];omega
  have hb2:=List.pairwise_append.1 hb
  have hb3:=List.pairwise_append.1 hb2.2.1
  have f1:Few P1:=A2J hf fun z hz=>by simp[hz]
  have f2:Few P2:=A2J hf fun z hz=>by simp[hz]
  have f3:Few P3:=A2J hf fun z hz=>by simp[hz]
  have i1:=A7Q hF (a:=0) (b:=20) [] P1 (P2++P3) sM (by simp[h1]) (by simp;omega) f1
  have i2:=A7Q hF (a:=20) (b:=40) (A07 P1) P2 P3 (by rw[O8,h1];rfl) (by rw[O8,h1,h2];rfl) (by rw[O8];omega) f2
  have hii:(A07 P1++A07 P2).length=40:=by rw[List.length_append,O8,O8,h1,h2]
  have i3:=A7Q hF (a:=40) (b:=((P1++(P2++P3)).length:Nat)) (A07 P1++A07 P2) P3 [] (by rw[hii];rfl) (by rw[hl3,hii];omega) (by rw[hii];omega) f3
  simp only[List.nil_append,List.append_nil,List.append_assoc]at i1 i2 i3
  have cr12:Crs (A07 P1) (A07 P2):=fun x hx y hy=>hb2.2.2 x ((W7 x).1 hx) y (by rw[List.mem_append];exact .inl ((W7 y).1 hy))
  obtain⟨Z12,e1,hz⟩:=A8U hF (a:=0) (m:=20) (b:=40) [] (A07 P1) (A07 P2) (A07 P3) (by rw[O8];omega) (by rw[O8];omega) sM (by simp[O8,h1]) (by simp[O8,h1,h2]) (by simp[O8];omega) (A3O f1) (A3O f2) (A3P hb2.1) (A3P hb3.1) cr12
  simp only[List.nil_append]at e1
  have hzl:Z12.length=40:=by rw[hz.l,O8,O8,h1,h2]
  have cr3:Crs Z12 (A07 P3):=fun x hx y hy=>by
   have hy:=(W7 y).1 hy
   rcases(hz.m x).1 hx with k | k
   ·exact hb2.2.2 x ((W7 x).1 k) y (by rw[List.mem_append];exact .inr hy)
   ·exact hb3.2.2 x ((W7 x).1 k) y hy
  have e0:∀ K:List A4→Int→Int→Option (List A4),D7 F ((P1++(P2++P3)).length:Nat) K F (P1++(P2++P3)) 0 20=K (A07 P1++(A07 P2++P3)) 40 60:=fun K=>by
   conv=>lhs;arg 4;rw[hG]
   rw[D7,if_pos oM,i1,oS,show W ((20:Int)+20)=40 from rfl,D7,if_pos oM,i2,oS,show W ((40:Int)+20)=60 from rfl,D7,if_neg oM]
  rw[e0,i3,oS]
  have e2:∀ c:Int,D2 F ((P1++(P2++P3)).length:Nat) (fun data3 _=>some data3) F (A07 P1++(A07 P2++A07 P3)) 20=D2 F ((P1++(P2++P3)).length:Nat) (fun data3 _=>some data3) (G+2) (Z12++A07 P3) 40:=fun c=>by
   conv=>lhs;arg 4;rw[hG]
   rw[D2,if_pos oM,show W (2*(20:Int))=40 from rfl]
   conv=>lhs;arg 5;rw[hG]
   rw[G6,if_pos oM,show W ((0:Int)+20)=20 from rfl,e1,oS,show W ((40:Int)+W (2*20))=80 from rfl,G6,if_neg oM,show W ((40:Int)+20)=60 from rfl,if_neg oM]
   rfl
  rw[e2 0]
  by_cases c3:P3.length=0
  ·have:P3=[]:=List.eq_nil_of_length_eq_zero c3
   subst this
   refine⟨Z12++A07 [],?_,?_⟩
   ·rw[D2,if_neg oM]
   ·have:Z12++A07 []=Z12:=by simp[A07,A4e]
    rw[this]
    exact⟨hz.s,fun z=>by rw[hz.m,W7,W7];simp,by rw[hz.l,O8,O8];simp⟩
  obtain⟨Z,e3,hz2⟩:=A8U hF (a:=0) (m:=40) (b:=((P1++(P2++P3)).length:Nat)) [] Z12 (A07 P3) [] oM (by rw[O8];omega) sM (by simp[hzl]) (by simp[O8,hzl,h1,h2];omega) (by simp[O8];omega) (B5l (A3O f1) (A3O f2) hz) (A3O f3) hz.s (A3P hb3.2.1) cr3
  simp only[List.nil_append,List.append_nil]at e3
  refine⟨Z,?_,hz2.s,fun z=>by rw[hz2.m,hz.m,W7,W7,W7];simp[or_assoc],by rw[hz2.l,hzl,O8,hl3]⟩
  rw[D2,if_pos oM,show W (2*(40:Int))=80 from rfl]
  conv=>lhs;arg 5;rw[hG]
  rw[G6,if_neg oM,show W ((0:Int)+40)=40 from rfl,if_pos oM,e3,oS,show W ((40:Int)*2)=80 from rfl,D2,if_neg oM]
theorem A95 {F:Nat} (hF:1000<F) {l:List A4} (hl:l.length<60) (hf:Few l) (hb:l.Pairwise Bef):∃ Z,Y3 (J1 F l) l=some Z∧B3M l Z:=by
 obtain⟨Z,e,h⟩:=B3B hF hl hf hb
 refine⟨Z,?_,h⟩
 rw[J1,e,A1W h.l,oS]
 exact A1W h.l
theorem A9w:∀ {l m:List A4},Srt l→Srt m→(∀ z,z∈l↔z∈m)→l=m
 | [],[],_,_,_=>rfl
 | [],y::m,_,_,h=>by have:=(h y).2 sM;simp at this
 | x::l,[],_,_,h=>by have:=(h x).1 sM;simp at this
 | x::l,y::m,h1,h2,h=>by
  have k1:=List.pairwise_cons.1 h1
  have k2:=List.pairwise_cons.1 h2
  have hxy:x=y:=by
   rcases List.mem_cons.1 ((h x).1 sM)with e | e
   ·exact e
   ·rcases List.mem_cons.1 ((h y).2 sM)with e2 | e2
    ·exact e2.symm
    ·exact((k1.1 y e2).trans (k2.1 x e)).irr.elim
  subst hxy
  rw[A9w k1.2 k2.2 fun z=>?_]
  constructor
  ·intro hz
   rcases List.mem_cons.1 ((h z).1 (by simp[hz]))with e | e
   ·subst e;exact((k1.1 z hz).irr).elim
   ·exact e
  ·intro hz
   rcases List.mem_cons.1 ((h z).2 (by simp[hz]))with e | e
   ·subst e;exact((k2.1 z hz).irr).elim
   ·exact e
def A4B (p:B0) (s:A6) (q i:Nat):Bool:=decide (s.squibs.getD q 0=1)&&(decide (0≤s.zones.getD i 0)&&A1X (p.zones.getD (s.zones.getD i 0).toNat default) (p.squibs.getD q default))
def A7C (p:B0) (s:A6) (i:Nat):Nat→Nat→List A4
 | 0,_=>[]
 | m+1,k=>(bif A4B p s k i then[A4.mk k i]else[])++A7C p s i m (k+1)
def A8u (p:B0) (s:A6) (q:Nat):Nat→Nat→List A4
 | 0,_=>[]
 | m+1,k=>(bif A4B p s q k then[A4.mk q k]else[])++A8u p s q m (k+1)
def A28 (p:B0) (s:A6) (Q:Nat):Nat→Nat→List A4
 | 0,_=>[]
 | m+1,i=>A7C p s i Q 0++A28 p s Q m (i+1)
def A7Y (p:B0) (s:A6) (Z:Nat):Nat→Nat→List A4
 | 0,_=>[]
 | m+1,q=>A8u p s q Z 0++A7Y p s Z m (q+1)
section
variable {p:B0} {s:A6}
theorem A82 {b:Bool} {x z:A4}:z∈(bif b then[x]else[])↔b=true∧z=x:=by cases b<;>simp
theorem B2I {b:Bool} {x:A4}:(bif b then[x]else[]).length≤1:=by cases b<;>simp
theorem A7D {i:Nat} {z:A4}:∀ {m k:Nat},z∈A7C p s i m k↔∃ q:Nat,k≤q∧q<k+m∧A4B p s q i=true∧z=A4.mk q i
 | 0,k=>by
  simp only[A7C,List.not_mem_nil,false_iff]
  rintro⟨q,h1,h2,_⟩
  omega
 | m+1,k=>by
  rw[A7C,List.mem_append,A82,A7D]
  constructor
  ·rintro(⟨h,rfl⟩ | ⟨q,h1,h2,h3,rfl⟩)
   ·exact⟨k,by omega,by omega,h,rfl⟩
   ·exact⟨q,by omega,by omega,h3,rfl⟩
  ·rintro⟨q,h1,h2,h3,rfl⟩
   by_cases hq:q=k
   ·subst hq;exact .inl ⟨h3,rfl⟩
   ·exact .inr ⟨q,by omega,by omega,h3,rfl⟩
theorem A7i {q:Nat} {z:A4}:∀ {m k:Nat},z∈A8u p s q m k↔∃ i:Nat,k≤i∧i<k+m∧A4B p s q i=true∧z=A4.mk q i
 | 0,k=>by
  simp only[A8u,List.not_mem_nil,false_iff]
  rintro⟨q,h1,h2,_⟩
  omega
 | m+1,k=>by
  rw[A8u,List.mem_append,A82,A7i]
  constructor
  ·rintro(⟨h,rfl⟩ | ⟨i,h1,h2,h3,rfl⟩)
   ·exact⟨k,by omega,by omega,h,rfl⟩
   ·exact⟨i,by omega,by omega,h3,rfl⟩
  ·rintro⟨i,h1,h2,h3,rfl⟩
   by_cases hq:i=k
   ·subst hq;exact .inl ⟨h3,rfl⟩
   ·exact .inr ⟨i,by omega,by omega,h3,rfl⟩
theorem A7g {Q:Nat} {z:A4}:∀ {m k:Nat},z∈A28 p s Q m k↔∃ i q:Nat,k≤i∧i<k+m∧q<Q∧A4B p s q i=true∧z=A4.mk q i
 | 0,k=>by
  simp only[A28,List.not_mem_nil,false_iff]
  rintro⟨i,q,h1,h2,_⟩
  omega
 | m+1,k=>by
  rw[A28,List.mem_append,A7D,A7g]
  constructor
  ·rintro(⟨q,h1,h2,h3,rfl⟩ | ⟨i,q,h1,h2,h3,h4,rfl⟩)
   ·exact⟨k,q,by omega,by omega,by omega,h3,rfl⟩
   ·exact⟨i,q,by omega,by omega,h3,h4,rfl⟩
  ·rintro⟨i,q,h1,h2,h3,h4,rfl⟩
   by_cases hi:i=k
   ·subst hi;exact .inl ⟨q,by omega,by omega,h4,rfl⟩
   ·exact .inr ⟨i,q,by omega,by omega,h3,h4,rfl⟩
theorem A9p {Z:Nat} {z:A4}:∀ {m k:Nat},z∈A7Y p s Z m k↔∃ q i:Nat,k≤q∧q<k+m∧i<Z∧A4B p s q i=true∧z=A4.mk q i
 | 0,k=>by
  simp only[A7Y,List.not_mem_nil,false_iff]
  rintro⟨i,q,h1,h2,_⟩
  omega
 | m+1,k=>by
  rw[A7Y,List.mem_append,A7i,A9p]
  constructor
  ·rintro(⟨i,h1,h2,h3,rfl⟩ | ⟨q,i,h1,h2,h3,h4,rfl⟩)
   ·exact⟨k,i,by omega,by omega,by omega,h3,rfl⟩
   ·exact⟨q,i,by omega,by omega,h3,h4,rfl⟩
  ·rintro⟨q,i,h1,h2,h3,h4,rfl⟩
   by_cases hi:q=k
   ·subst hi;exact .inl ⟨i,by omega,by omega,h4,rfl⟩
   ·exact .inr ⟨q,i,by omega,by omega,h3,h4,rfl⟩
theorem A9q {i:Nat}:∀ m k:Nat,(A7C p s i m k).length≤m
 | 0,_=>Nat.le_refl 0
 | m+1,k=>by
  have h1:=A9q (i:=i) m (k+1)
  have h2:(bif A4B p s k i then[A4.mk (k:Int) i]else[]).length≤1:=B2I
  rw[A7C,List.length_append]
  omega
theorem A8N {i:Nat}:∀ m k:Nat,(A8u p s i m k).length≤m
 | 0,_=>Nat.le_refl 0
 | m+1,k=>by
  have h1:=A8N (i:=i) m (k+1)
  have h2:(bif A4B p s i k then[A4.mk (i:Int) k]else[]).length≤1:=B2I
  rw[A8u,List.length_append]
  omega
theorem B0R {Q:Nat} (hQ:Q≤6):∀ m k:Nat,(A28 p s Q m k).length≤6*m
 | 0,_=>Nat.le_refl 0
 | m+1,k=>by
  have h1:=B0R (Q:=Q) hQ m (k+1)
  have h2:=A9q (p:=p) (s:=s) (i:=k) Q 0
  rw[A28,List.length_append]
  omega
theorem B18 {Z:Nat} (hZ:Z≤8):∀ m k:Nat,(A7Y p s Z m k).length≤8*m
 | 0,_=>Nat.le_refl 0
 | m+1,k=>by
  have h1:=B18 (Z:=Z) hZ m (k+1)
  have h2:=A8N (p:=p) (s:=s) (i:=k) Z 0
  rw[A7Y,List.length_append]
  omega
theorem B1F {i:Nat}:∀ m k:Nat,(A7C p s i m k).Pairwise Bef
 | 0,_ => .nil
 | m+1,k=>by
  rw[A7C,List.pairwise_append]
  refine⟨by cases A4B p s k i<;>simp,B1F m (k+1),fun x hx y hy=>?_⟩
  obtain⟨_,rfl⟩:=A82.1 hx
  obtain⟨q,h1,_,_,rfl⟩:=A7D.1 hy
  intro he
  have he:(k:Int)=q:=he
  omega
theorem B0Q {Q:Nat}:∀ m k:Nat,(A28 p s Q m k).Pairwise Bef
 | 0,_ => .nil
 | m+1,k=>by
  rw[A28,List.pairwise_append]
  refine⟨B1F _ _,B0Q m (k+1),fun x hx y hy=>?_⟩
  obtain⟨q,_,_,_,rfl⟩:=A7D.1 hx
  obtain⟨i,q2,h1,_,_,_,rfl⟩:=A7g.1 hy
  intro _
  show(k:Int)<i
  omega
theorem B0V {q:Nat}:∀ m k:Nat,Srt (A8u p s q m k)
 | 0,_ => .nil
 | m+1,k=>by
  show List.Pairwise dLt _
  rw[A8u,List.pairwise_append]
  refine⟨by cases A4B p s q k<;>simp,B0V m (k+1),fun x hx y hy=>?_⟩
  obtain⟨_,rfl⟩:=A82.1 hx
  obtain⟨i,h1,_,_,rfl⟩:=A7i.1 hy
  exact .inr ⟨rfl,by show(k:Int)<i;omega⟩
theorem B1A {Z:Nat}:∀ m k:Nat,Srt (A7Y p s Z m k)
 | 0,_ => .nil
 | m+1,k=>by
  show List.Pairwise dLt _
  rw[A7Y,List.pairwise_append]
  refine⟨B0V _ _,B1A m (k+1),fun x hx y hy=>?_⟩
  obtain⟨i,_,_,_,rfl⟩:=A7i.1 hx
  obtain⟨q,i2,h1,_,_,_,rfl⟩:=A9p.1 hy
  exact .inl (by show(k:Int)<q;omega)
theorem B2H {b:Bool} {lv:List A4} {x:A4} {R:List A4}:(lv++((bif b then[x]else[])++R))=(bif b then lv++[x]else lv)++R:=by cases b<;>simp
theorem B5O {F:Nat} {i zi:Nat} {a:Int} (hz:s.zones.getD i 0=zi) (hq:p.squibs.length≤100) (hl:s.squibs.length=p.squibs.length) {K:List A4→Option (List A4 × Int)}:∀ (n k:Nat) (lv:List A4),p.squibs.length<n+k→k≤p.squibs.length→lv.length+(p.squibs.length-k)≤1000→W0 F s i (a,p) (p.zones.getD zi default) (fun _ lv=>K lv) n k lv=K (lv++A7C p s i (p.squibs.length-k) k)
 | 0,k,lv,h,h2,_=>absurd h oM
 | n+1,k,lv,h,h2,h3=>by
  rw[W0]
  by_cases hk:k<p.squibs.length
  ·have hk2:k<s.squibs.length:=by omega
   rw[if_pos (by dsimp only;omega),show P7 (a,p).2.squibs (k:Int)=some p.squibs[k]from I7 hk,oS,I7 hk2,oS,O9 oM]
   rw[show p.squibs.length-k=(p.squibs.length-(k+1))+1 by omega,A7C,B2H]
   have e1:s.squibs.getD k 0=s.squibs[k]:=M5 0 hk2
   have e2:p.squibs.getD k default=p.squibs[k]:=M5 default hk
   have ih:=fun lv' (h':lv'.length≤lv.length+1)=>B5O (F:=F) (a:=a) hz hq hl (K:=K) n (k+1) lv' oM oM oM
   have hh:A4B p s k i=(decide (s.squibs[k]=1)&&A1X (p.zones.getD zi default) p.squibs[k]):=by
    unfold A4B
    rw[e1,e2,hz,dT (by omega:(0:Int)≤zi),Bool.true_and,tN]
   rw[hh]
   by_cases h1:s.squibs[k]=1
   ·rw[if_pos h1,A6j oM,oS,ih _ sM,ih _ oM,dT h1,Bool.true_and]
    cases hn:A1X (p.zones.getD zi default) p.squibs[k]with
    | true=>exact if_pos (of_decide_eq_true hn)
    | false=>exact if_neg (of_decide_eq_false hn)
   ·rw[if_neg h1,ite_self,ih _ oM,dF h1,Bool.false_and,cF]
  ·obtain rfl:k=p.squibs.length:=by omega
   rw[if_neg (by dsimp only;omega),Nat.sub_self,A7C,List.append_nil]
theorem A9S {i:Nat} (h:s.zones.getD i 0<0):∀ m k:Nat,A7C p s i m k=[]
 | 0,_=>rfl
 | m+1,k=>by
  rw[A7C,A9S h m (k+1),show A4B p s k i=false by unfold A4B;rw[dF (by omega:¬ 0≤s.zones.getD i 0),Bool.false_and,Bool.and_false]]
  rfl
theorem B42 {F:Nat} (hF:100<F) (ho:A24 p) (hf:A1h p s) {K:List A4→Option (List A4 × Int)}:∀ (n k:Nat) (lv:List A4),s.zones.length<n+k→k≤s.zones.length→lv.length+6*(s.zones.length-k)≤500→W3 F p s (fun lv _=>K lv) n lv k=K (lv++A28 p s p.squibs.length (s.zones.length-k) k)
 | 0,k,lv,h1,h2,_=>absurd h1 oM
 | n+1,k,lv,h1,h2,h3=>by
  have h8:=ho.p8;have hlz:=hf.lz;have hq6:=ho.q6
  rw[W3]
  by_cases hk:k<s.zones.length
  ·have e0:s.zones.getD k 0=s.zones[k]:=M5 0 hk
   rw[if_pos oM,I7 hk,oS,A1t,oS,O9 oM,show s.zones.length-k=(s.zones.length-(k+1))+1 by omega,A28]
   by_cases h0:s.zones[k]<0
   ·rw[if_pos h0,A9S oM,List.nil_append]
    exact B42 hF ho hf n (k+1) lv oM oM oM
   ·rw[if_neg h0]
    have hz:=hf.z s.zones[k] (List.getElem_mem hk)
    obtain⟨j,hj⟩:∃ j:Nat,s.zones[k]=j:=⟨s.zones[k].toNat,by omega⟩
    have hjl:j<p.zones.length:=by omega
    have hrl:=A9q (p:=p) (s:=s) (i:=k) p.squibs.length 0
    rw[show((s.zones[k],p):Int × B0).1=(j:Int)from hj,show P7 ((s.zones[k],p):Int × B0).2.zones (j:Int)=some p.zones[j]from I7 hjl,oS,← M5 default hjl]
    refine(B5O (F:=F) (i:=k) (zi:=j) (a:=s.zones[k]) oM oM hf.lq (K:=fun lv=>W3 F p s (fun lv _=>K lv) n lv ((k+1:Nat):Int)) F 0 lv oM oM oM).trans ?_
    rw[Nat.sub_zero,← List.append_assoc]
    exact B42 hF ho hf n (k+1) _ oM oM (by rw[List.length_append];omega)
  ·obtain rfl:k=s.zones.length:=by omega
   rw[if_neg oM,Nat.sub_self,A28,List.append_nil]
def A6n (p:B0) (s:A6):List A4 × Int:=if(A0r p).2.2=0 then(if A17 p s=true then(A7Y p s s.zones.length s.squibs.length 0,0)else([],6))else([],(A0r p).2.2)
theorem A93 {F:Nat} (hF:1000<F) (h:A1i F p) (hs:StF F s):A2B F p s=some (A6n p s):=by
 unfold A6n
 rw[A2B,A7y h,oS]
 by_cases h0:(A0r p).2.2=0
 ·rw[if_pos h0,if_pos h0,A72 hs,oS]
  show((U2 F (scn p s)).bind _)=_
  rw[A6M h hs,oS]
  have ho:=A46 h0
  have h8:=ho.p8;have hq6:=ho.q6
  cases hfp:A17 p s with
  | false=>rw[if_neg dM,if_neg dM]
  | true =>
   have hf:=A2U.1 hfp
   have hlz:=hf.lz
   rw[if_pos rfl,if_pos rfl]
   refine(B42 (F:=F) oM ho hf (K:=fun lv=>(Y3 (J1 F lv) lv).bind fun rv5=>some (rv5,0)) F 0 [] oM oM (by simp;omega)).trans ?_
   rw[List.nil_append,Nat.sub_zero]
   have hlen:=B0R (p:=p) (s:=s) (Q:=p.squibs.length) oM s.zones.length 0
   obtain⟨Z,e,hz⟩:=A95 hF (l:=A28 p s p.squibs.length s.zones.length 0) oM (fun z hzm=>by
    obtain⟨i,q,_,_,h3,_,rfl⟩:=A7g.1 hzm
    exact⟨by show(0:Int)≤q;omega,by show(q:Int)≤1000;omega⟩) (B0Q _ _)
   rw[e,oS]
   have:Z=A7Y p s s.zones.length s.squibs.length 0:=A9w hz.s (B1A _ _) fun z=>by
    rw[hz.m,A7g,A9p,hf.lq]
    constructor
    ·rintro⟨i,q,h1,h2,h3,h4,rfl⟩;exact⟨q,i,by omega,by omega,by omega,h4,rfl⟩
    ·rintro⟨q,i,h1,h2,h3,h4,rfl⟩;exact⟨i,q,by omega,by omega,by omega,h4,rfl⟩
   rw[this]
 ·rw[if_neg h0,if_neg h0]
theorem B5Q {F:Nat} (hf:A1h p s) {q:Nat} (hq:q<p.squibs.length) (hz8:s.zones.length≤8) {K:List A4→Option (List A4 × Int)}:∀ (n k:Nat) (lv:List A4),s.zones.length<n+k→k≤s.zones.length→lv.length+(s.zones.length-k)≤1000→S7 F p s q (fun lv _=>K lv) n lv k=K (lv++A8u p s q (s.zones.length-k) k)
 | 0,k,lv,h,h2,_=>absurd h oM
 | n+1,k,lv,h,h2,h3=>by
  have hlq:=hf.lq
  rw[S7]
  by_cases hk:k<s.zones.length
  ·have hq2:q<s.squibs.length:=by omega
   have e1:s.squibs.getD q 0=s.squibs[q]:=M5 0 hq2
   have e2:p.squibs.getD q default=p.squibs[q]:=M5 default hq
   have e0:s.zones.getD k 0=s.zones[k]:=M5 0 hk
   have ih:=fun lv' (h':lv'.length≤lv.length+1)=>B5Q (F:=F) hf hq hz8 (K:=K) n (k+1) lv' oM oM oM
   have hJ:∀ lv',A0y F (S7 F p s q (fun lv _=>K lv) n) k lv'=S7 F p s q (fun lv _=>K lv) n lv' ((k+1:Nat):Int):=fun lv'=>by rw[A0y,O9 oM]
   rw[if_pos oM,I7 hq2,oS,I7 hk,oS,hJ,show s.zones.length-k=(s.zones.length-(k+1))+1 by omega,A8u,B2H]
   by_cases h1:s.squibs[q]=1
   ·rw[if_pos h1]
    by_cases h0:0≤s.zones[k]
    ·have hz:=hf.z s.zones[k] (List.getElem_mem hk)
     obtain⟨j,hj⟩:∃ j:Nat,s.zones[k]=j:=⟨s.zones[k].toNat,by omega⟩
     have hjl:j<p.zones.length:=by omega
     rw[if_pos h0,hj,A6Z hjl hq,oS,A6j oM,oS,hJ,ih _ sM,ih _ oM]
     have hh:A4B p s q k=A1X p.zones[j] p.squibs[q]:=by
      unfold A4B
      rw[e1,e2,e0,hj,dT h1,dT (by omega:(0:Int)≤j),Bool.true_and,Bool.true_and,tN,M5 default hjl]
     rw[hh]
     cases A1X p.zones[j] p.squibs[q]with
     | true=>rw[if_pos rfl];rfl
     | false=>rw[if_neg dM];rfl
    ·rw[if_neg h0,ih _ oM]
     have hh:A4B p s q k=false:=by unfold A4B;rw[e0,dF h0,Bool.false_and,Bool.and_false]
     rw[hh];rfl
   ·rw[if_neg h1,ih _ oM]
    have hh:A4B p s q k=false:=by unfold A4B;rw[e1,dF h1,Bool.false_and]
    rw[hh];rfl
  ·obtain rfl:k=s.zones.length:=by omega
   rw[if_neg oM,Nat.sub_self,A8u,List.append_nil]
theorem B5R {F:Nat} (hF:100<F) (ho:A24 p) (hf:A1h p s):∀ (n k:Nat) (lv:List A4),s.squibs.length<n+k→k≤s.squibs.length→lv.length+8*(s.squibs.length-k)≤500→A00 F p s (fun lv _=>some (lv,0)) n lv k=some (lv++A7Y p s s.zones.length (s.squibs.length-k) k,0)
 | 0,k,lv,h1,h2,_=>absurd h1 oM
 | n+1,k,lv,h1,h2,h3=>by
  have h8:=ho.p8;have hlz:=hf.lz;have hq6:=ho.q6;have hlq:=hf.lq
  rw[A00]
  by_cases hk:k<s.squibs.length
  ·have hcl:=A8N (p:=p) (s:=s) (i:=k) s.zones.length 0
   rw[if_pos oM,O9 oM,show s.squibs.length-k=(s.squibs.length-(k+1))+1 by omega,A7Y]
   refine(B5Q (F:=F) hf (q:=k) oM oM (K:=fun lv=>A00 F p s (fun lv _=>some (lv,0)) n lv ((k+1:Nat):Int)) F 0 lv oM oM oM).trans ?_
   rw[Nat.sub_zero,← List.append_assoc]
   exact B5R hF ho hf n (k+1) _ oM oM (by rw[List.length_append];omega)
  ·obtain rfl:k=s.squibs.length:=by omega
   rw[if_neg oM,Nat.sub_self,A7Y,List.append_nil]
theorem B05 {F:Nat} (hF:1000<F) (h:A1i F p) (hs:StF F s):A3J F p s=some (A6n p s):=by
 unfold A6n
 rw[A3J,A8l h,oS]
 by_cases h0:(A0r p).2.2=0
 ·rw[if_pos h0,if_pos h0,A76 h hs,oS]
  have ho:=A46 h0
  have h8:=ho.p8;have hq6:=ho.q6
  cases hfp:A17 p s with
  | false=>rw[if_neg dM,if_neg dM,A0z,if_neg dM]
  | true =>
   have hf:=A2U.1 hfp
   have hlz:=hf.lz;have hlq:=hf.lq
   rw[if_pos rfl,if_pos rfl,A0z,if_pos h0]
   refine(B5R (F:=F) oM ho hf F 0 [] oM oM (by simp;omega)).trans ?_
   rw[List.nil_append,Nat.sub_zero]
 ·rw[if_neg h0,if_neg h0,A0z,if_neg h0]
theorem A8e (p:B0) (s:A6):(A6n p s).1.length≤48:=by
 unfold A6n
 by_cases h0:(A0r p).2.2=0
 ·rw[if_pos h0]
  have ho:=A46 h0
  have h8:=ho.p8;have hq6:=ho.q6
  cases hfp:A17 p s with
  | false=>rw[if_neg dM];simp
  | true =>
   have hf:=A2U.1 hfp
   have hlz:=hf.lz;have hlq:=hf.lq
   have:=B18 (p:=p) (s:=s) (Z:=s.zones.length) oM s.squibs.length 0
   rw[if_pos rfl]
   dsimp only
   omega
 ·rw[if_neg h0];simp
theorem B3P (x:A4):A4.beq x x=true:=by simp[A4.beq]
theorem A9X {F:Nat} {a:List A4 × Int} {c:Option Bool} (hl:a.1.length≤48):∀ n k:Nat,a.1.length<n+k→k≤a.1.length→A0c F a a (fun _=>c) n k=c
 | 0,k,h,h2=>absurd h oM
 | n+1,k,h,h2=>by
  rw[A0c]
  by_cases hk:k<a.1.length
  ·rw[if_pos oM,I7 hk,oS,oS,B3P,if_neg dM,O9 oM]
   exact A9X hl n (k+1) oM oM
  ·rw[if_neg oM]
theorem B29 {F:Nat} (hF:1000<F) (h:A1i F p) (hs:StF F s) (hA:A7r 100=some true):A2W F p s=some true:=by
 rw[A2W,A7x h hs,oS,A7V h hs,oS,if_pos rfl,A93 hF h hs,oS,B05 hF h hs,oS,if_pos rfl,if_pos rfl,A2o,hA]
 exact A9X (A8e p s) F 0 (by have:=A8e p s;omega) oM
end
end Go.Proofs.YthcnganbnbhhoaaGreat
