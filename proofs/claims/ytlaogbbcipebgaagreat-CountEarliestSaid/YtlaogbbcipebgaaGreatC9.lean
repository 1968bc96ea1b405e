/- A countdown in plain words: the earliest launch. -/
import Derived.Test.YtlaogbbcipebgaaGreatQ9
set_option linter.unusedVariables false
set_option linter.unusedSimpArgs false
open Bool renaming true_and→bf,false_or→bu,and_eq_true→aF,or_eq_true→cd,eq_iff_iff→dj,or_false→bU,not_false→cU,false_and→bO
open Eq renaming trans→eW
open Int renaming le_refl→cm,pow_succ→fj,tdiv_eq_ediv_of_nonneg→dS
open List renaming getD_eq_getElem?_getD→am,getElem_mem→aj,drop_zero→aB,any_cons→bd,length_take→aN,getElem_take→dD,take_take→eO,mem_of_mem_take→dk,replicate→ak,length_map→aS,mem_map→bZ,any_nil→cW,length_replicate→aL,eq_of_mem_replicate→cX,length_set→aX,drop_length→eD
open Nat renaming le_refl→aw,pow_le_pow_right→ep,sub_self→cJ,min_eq_left→cI,sub_zero→aP
open Go Go.Proofs.YtlaogbbcipebgaaGreat.Sh Go.Proofs
namespace Go.Proofs.YtlaogbbcipebgaaGreat
def C0m (y:List Int) (l:List Int) (n:Int):Int:=l.foldl (fun n m=>max n (y.getD m.toNat 0)) n
def C1H (p:D4) (s:H2) (t:Int) (y:List Int) (k:Nat):Int :=
 bif A6e s k then s.ended.getD k 0 else bif B2o s k then max t (s.begun.getD k 0+(p.steps.getD k default).least)else C0m y (p.steps.getD k default).need t+(p.steps.getD k default).least
def B3l (p:D4) (s:H2) (t:Int):Nat→List Int
 | 0=>[]
 | k+1=>B3l p s t k++[C1H p s t (B3l p s t k) k]
theorem C1g (p:D4) (s:H2) (t:Int):∀ k,(B3l p s t k).length=k
 | 0=>rfl
 | k+1=>by rw[B3l,List.length_append,C1g p s t k];rfl
theorem C1p {p:D4} {s:H2} {t:Int} {j:Nat}:∀ {k:Nat},j<k→(B3l p s t k).getD j 0=C1H p s t (B3l p s t j) j
 | 0,h=>by omega
 | k+1,h=>by
  rw[B3l];have hl:=C1g p s t k;by_cases hj:j=k
  ·subst hj;simp[am,List.getElem?_append_right,hl]
  ·rw[← C1p (p:=p) (s:=s) (t:=t) (j:=j) (k:=k) oM];have hjk:j<(B3l p s t k).length:=by rw[hl];omega
   simp[am,List.getElem?_append_left hjk]
theorem C1L (y:List Int):∀ (l:List Int) (n:Int),n≤C0m y l n∧∀ m∈l,y.getD m.toNat 0≤C0m y l n
 | [],n=>⟨cm _,fun m h=>by simp at h⟩
 | x::l,n=>by
  obtain⟨h1,h2⟩:=C1L y l (max n (y.getD x.toNat 0));refine⟨by show n≤C0m y l (max n (y.getD x.toNat 0));omega,fun m hm=>?_⟩;show y.getD m.toNat 0≤C0m y l (max n (y.getD x.toNat 0));rcases List.mem_cons.1 hm with rfl | hm
  ·omega
  ·exact h2 m hm
theorem C1M (y:List Int) {b:Int}:∀ (l:List Int) (n:Int),n≤b→(∀ m∈l,y.getD m.toNat 0≤b)→C0m y l n≤b
 | [],n,h,_=>h
 | x::l,n,h,h2=>C1M y l (max n (y.getD x.toNat 0)) (by have:=h2 x sM;omega) fun m hm=>h2 m (by simp[hm])
theorem C1R {p:D4} {s:H2} {t:Int} (ho:A5Y p) (hs:CF p s) (ht:0≤t∧t≤100000):∀ k,k≤p.steps.length→∀ j,j<k→0≤(B3l p s t k).getD j 0∧(B3l p s t k).getD j 0≤120000+20000*j
 | 0,_,j,h=>by omega
 | k+1,hk,j,hj=>by
  rw[C1p hj];have hjk:j<p.steps.length:=by omega
  have hx:=ho.t j hjk;have hl:=hx.l;have hm:=hx.m;have hb:=hs.b j hjk;have hee:=hs.e j hjk;have hn:=hs.now;unfold C1H;cases hd:A6e s j with
  | true =>
   rw[cT];have:0≤s.ended.getD j 0:=of_decide_eq_true hd;omega
  | false =>
   rw[cF];cases B2o s j with
   | true=>rw[cT];omega
   | false =>
    rw[cF];have h1:=(C1L (B3l p s t j) (p.steps.getD j default).need t).1;have h2:C0m (B3l p s t j) (p.steps.getD j default).need t≤100000+20000*j:=by
     refine C1M _ _ _ oM fun m hm=>?_;have hmd:=hx.nd m hm;have:=(C1R ho hs ht j oM m.toNat oM).2;omega
    omega
theorem C1T {F:Nat} {x:E0} {k:Nat} {y:List Int} (hy:y.length=k) (hd:∀ n∈x.need,0≤n∧n<k) (hl:x.need.length≤16) {K:Int→Option (Int × Bool)}:∀ (n j:Nat) (v:Int),x.need.length<n+j→j≤x.need.length →
  A0o F y x (fun v _=>K v) n v j=K (C0m y (x.need.drop j) v)
 | 0,j,v,h,h2=>absurd h oM
 | n+1,j,v,h,h2=>by
  rw[A0o];by_cases hj:j<x.need.length
  ·have hm:=hd _ (aj hj);have em:x.need[j]=((x.need[j].toNat:Nat):Int):=by omega
   have hx:P3 y x.need[j]=some (y.getD x.need[j].toNat 0):=by
    have:=H3 (show x.need[j].toNat<y.length by omega);rw[← em]at this;rw[this,J6 0 oM]
   rw[if_pos oM,H3 hj,oS,hx,oS,S0 oM,C1T hy hd hl n (j+1) _ oM oM,lD hj];rfl
  ·rw[if_neg oM,lL oM];rfl
theorem C1S {F:Nat} {p:D4} {s:H2} {t:Int} (hF:100<F) (ho:A5Y p) (hs:CF p s) (ht:0≤t∧t≤100000) {K:List Int→Option (Int × Bool)}:∀ (n k:Nat),p.steps.length<n+k→k≤p.steps.length →
  T5 F (dsk p s) t (fun y _=>K y) n (B3l p s t k) k=K (B3l p s t p.steps.length)
 | 0,k,h,h2=>absurd h oM
 | n+1,k,h,h2=>by
  have t16:=ho.t16;rw[T5];by_cases hk:k<p.steps.length
  ·have hx:=ho.t k hk;have hl:=B0F hx.na hx.nd;have hb:=hs.b k hk;have hee:=hs.e k hk;have hn:=hs.now;have hxl:=hx.l;have hxm:=hx.m;have lb:=hs.lb;have le:=hs.le;have hrng:=C1R ho hs ht (k+1) oM k oM;rw[C1p oM]at hrng;have j1:∀ v,v=C1H p s t (B3l p s t k) k→A0n F (T5 F (dsk p s) t (fun y _=>K y) n) (B3l p s t k) k v=K (B3l p s t p.steps.length):=fun v hv=>by
    rw[A0n,A8O (by rw[C1g];omega),oS,S0 oM,hv];exact C1S hF ho hs ht n (k+1) oM oM
   rw[if_pos (by show(k:Int)<(p.steps.length:Int);omega),show P3 (dsk p s).F8 k=some (p.steps.getD k default) by rw[J6 default hk];exact H3 hk,oS,B2C hs hk,oS,B9l hs hk,oS];have hend:C1H p s t (B3l p s t k) k=C1H p s t (B3l p s t k) k:=rfl;unfold C1H at hend j1 hrng;cases hd:A6e s k with
   | true =>
    rw[hd]at j1;rw[if_pos rfl,show P3 (dsk p s).A5 k=some (s.ended.getD k 0) by rw[J6 0 oM];exact H3 (show k<s.ended.length by omega),oS];exact j1 _ rfl
   | false =>
    rw[hd]at j1 hrng;rw[if_neg sM];cases hr:B2o s k with
    | true =>
     rw[hr]at j1;rw[if_pos rfl,show P3 (dsk p s).A1 k=some (s.begun.getD k 0) by rw[J6 0 oM];exact H3 (show k<s.begun.length by omega),oS,A8K oM oM];exact j1 _ rfl
    | false =>
     rw[hr]at j1 hrng;rw[if_neg sM];refine(C1T (K:=fun x2=>A0n F (T5 F (dsk p s) t (fun y _=>K y) n) (B3l p s t k) k (W (x2+(p.steps.getD k default).least))) (C1g p s t k) hx.nd oM F 0 t oM oM).trans ?_;rw[aB];simp only[cF]at hrng;rw[A8K oM oM];exact j1 _ rfl
  ·obtain rfl:k=p.steps.length:=by omega
   rw[if_neg (by show ¬ (p.steps.length:Int)<(p.steps.length:Int);omega)]
def C1I (p:D4) (s:H2) (t n:Int) (i:Nat):Bool:=B2o s i&&(decide (s.begun.getD i 0+(p.steps.getD i default).most<t)||(decide (i=p.steps.length-1)&&decide (s.begun.getD i 0+(p.steps.getD i default).most<n)))
def C0p (p:D4) (s:H2) (t n:Int):Nat→(Nat→Bool)→Bool
 | 0,_=>false
 | i+1,f=>bif f i then(bif C1I p s t n i then true else C0p p s t n i fun j=>f j||(p.steps.getD i default).need.any fun m=>decide (m=(j:Int)))else C0p p s t n i f
def C0t (p:D4) (s:H2) (t:Int):Int:=max ((B3l p s t p.steps.length).getD (p.steps.length-1) 0) p.Q8
def C1w (p:D4) (s:H2) (t:Int):Bool:=C0p p s t (C0t p s t) p.steps.length fun j=>decide (j=p.steps.length-1)
def A6b (p:D4) (s:H2) (t:Int):Int × Bool:=bif C1w p s t then(0,false)else(C0t p s t,decide (C0t p s t≤p.O8))
theorem C2g (m:List (Int × Bool)) (a b:Int):(A2e (M0 m a true) b).getD false=((A2e m b).getD false||decide (a=b)):=by
 induction m with
 | nil =>
  show(A2e [(a,true)] b).getD false=_;unfold A2e;by_cases h:a=b
  ·subst h;simp
  ·have h2:¬ b=a:=fun e=>h e.symm;simp[h,h2]
 | cons x m ih =>
  unfold M0;by_cases hx:(a==x.1)=true
  ·rw[hx,cT];have hx':a=x.1:=by simpa using hx
   unfold A2e;by_cases hb:b=x.1
   ·simp[hb,hx']
   ·have h2:¬ a=b:=fun e=>hb (by rw[← e,hx']);simp[hb,h2,hx'];intro e;exact absurd e.symm hb
  ·rw[show(a==x.1)=false by simpa using hx,cF];unfold A2e at ih ⊢;by_cases hb:b=x.1
   ·have h2:¬ a=b:=fun e=>hx (by rw[e,hb];simp);simp[hb];intro e;exact absurd (by rw[e];simp) hx
   ·simpa[hb]using ih
theorem C2i {F:Nat} {x:E0} {i:Nat} (hl:x.need.length≤16) (hF:100<F) {K:List (Int × Bool)→Option (Int × Bool)}:∀ (n j:Nat) (m:List (Int × Bool)),x.need.length<n+j→j≤x.need.length →
  ∃ m',A0p F x (fun m _=>K m) n m j=K m'∧∀ b:Int,(A2e m' b).getD false=((A2e m b).getD false||(x.need.drop j).any fun a=>decide (a=b))
 | 0,j,m,h,h2=>absurd h oM
 | n+1,j,m,h,h2=>by
  rw[A0p];by_cases hj:j<x.need.length
  ·obtain⟨m',h3,h4⟩:=C2i (i:=i) hl hF n (j+1) (M0 m x.need[j] true) oM oM;refine⟨m',by rw[if_pos oM,H3 hj,oS,S0 oM];exact h3,fun b=>?_⟩;rw[h4,C2g,lD hj,bd,Bool.or_assoc]
  ·exact⟨m,by rw[if_neg oM],fun b=>by rw[lL oM];simp⟩
theorem C12 {F:Nat} {p:D4} {s:H2} {t:Int} (hF:100<F) (ho:A5Y p) (hs:CF p s) {e6:Int} {mm0:List (Int × Bool)} {c:Option (Int × Bool)}:∀ (n k:Nat) (m:List (Int × Bool)) (f:Nat→Bool),(∀ j:Nat,(A2e m j).getD false=f j)→k<n→k≤p.steps.length →
  R4 F (dsk p s) t e6 (dsk p s,mm0) p.steps (fun _ _=>c) n ((k:Int)-1) m=bif C0p p s t (max e6 p.Q8) k f then some (0,false)else c
 | 0,k,m,f,_,h,h2=>absurd h oM
 | n+1,0,m,f,hm,h,h2=>by
  rw[R4,if_neg oM];rfl
 | n+1,k+1,m,f,hm,h,h2=>by
  have hk:k<p.steps.length:=by omega
  have t16:=ho.t16;have hx:=ho.t k hk;have hl:=B0F hx.na hx.nd;have hb:=hs.b k hk;have hn:=hs.now;have hxm:=hx.m;have lb:=hs.lb;have ek:(((k+1:Nat):Int)-1)=(k:Int):=by omega
  rw[ek,R4,if_pos oM,show P3 p.steps (k:Int)=some (p.steps.getD k default) by rw[J6 default hk];exact H3 hk,oS,hm,C0p,show W ((k:Int)-1)=(k:Int)-1 from A8K oM oM];cases hf:f k with
  | false =>
   rw[if_neg sM,cF];exact C12 hF ho hs n k m f hm oM oM
  | true =>
   rw[if_pos rfl,cT];obtain⟨m',h3,h4⟩:=C2i (F:=F) (i:=k) (x:=p.steps.getD k default) oM hF (K:=fun mm2=>(A0R F (dsk p s) k).bind fun rv6=>if rv6=true then((P3 (dsk p s).A1 k).bind fun e9=>(some (p.steps.getD k default)).bind fun e10=>if(W (e9+e10.most))<t then(A1b F)else((U8 F (dsk p s)).bind fun rv7=>if(k:Int)=rv7 then(if(W (e9+e10.most))<(max e6 (dsk p s).D8)then(A1b F)else(A1c F (R4 F (dsk p s) t e6 (dsk p s,mm0) p.steps (fun _ _=>c) n) k mm2))else(A1c F (R4 F (dsk p s) t e6 (dsk p s,mm0) p.steps (fun _ _=>c) n) k mm2)))else(R4 F (dsk p s) t e6 (dsk p s,mm0) p.steps (fun _ _=>c) n ((k:Int)-1) mm2)) F 0 m oM oM;refine eW (eW ?_ h3) ?_
   ·rfl
   rw[aB]at h4;have ih:=C12 (t:=t) (e6:=e6) (mm0:=mm0) (c:=c) hF ho hs n k m' (fun j=>f j||(p.steps.getD k default).need.any fun m=>decide (m=(j:Int))) (fun j=>by rw[h4,hm]) oM oM;rw[B9l hs hk,oS];unfold C1I;cases hr:B2o s k with
   | false=>rw[if_neg sM,ih];rfl
   | true =>
    rw[if_pos rfl,show P3 (dsk p s).A1 k=some (s.begun.getD k 0) by rw[J6 0 oM];exact H3 (show k<s.begun.length by omega),oS,oS,A8K (x:=s.begun.getD k 0+(p.steps.getD k default).most) oM oM,B2K ho,oS,A1b,A1c,A8K (x:=(k:Int)-1) oM oM,ih,bf];by_cases c1:s.begun.getD k 0+(p.steps.getD k default).most<t
    ·rw[if_pos c1,dT c1];rfl
    ·rw[if_neg c1,dF c1,bu];by_cases c2:k=p.steps.length-1
     ·rw[if_pos oM,dT c2,bf];show(if s.begun.getD k 0+(p.steps.getD k default).most<max e6 p.Q8 then _ else _)=_;by_cases c3:s.begun.getD k 0+(p.steps.getD k default).most<max e6 p.Q8
      ·rw[if_pos c3,dT c3];rfl
      ·rw[if_neg c3,dF c3];rfl
     ·rw[if_neg oM,dF c2];rfl
theorem C1G {F:Nat} {p:D4} {s:H2} {t:Int} (hF:100<F) (ho:A5Y p) (hs:CF p s) (ht:0≤t∧t≤100000):A2h F (dsk p s) t=some (A6b p s t):=by
 have t1:=ho.t1;have t16:=ho.t16;rw[A2h];refine(C1S hF ho hs ht F 0 oM oM).trans ?_;rw[B2K ho,oS,show P3 (B3l p s t p.steps.length) ((p.steps.length-1:Nat):Int)=some ((B3l p s t p.steps.length).getD (p.steps.length-1) 0) by rw[J6 0 (by rw[C1g];omega)];exact H3 (by rw[C1g];omega),oS];rw[A37,B2K ho,oS,oS,A2C,oS];show R4 F (dsk p s) t _ (dsk p s,_) p.steps _ F (W ((p.steps.length:Int)-1)) _=_;rw[A8K oM oM];refine(C12 hF ho hs F p.steps.length _ (fun j=>decide (j=p.steps.length-1)) (fun j=>?_) oM (aw _)).trans ?_
 ·rw[C2g];show(false||_)=_;rw[bu,decide_eq_decide];omega
 ·unfold A6b C1w C0t;cases C0p p s t (max ((B3l p s t p.steps.length).getD (p.steps.length-1) 0) p.Q8) p.steps.length fun j=>decide (j=p.steps.length-1)<;>rfl
theorem C1A {y y':List Int}:∀ (l:List Int) {n n':Int},n≤n'→(∀ m∈l,y.getD m.toNat 0≤y'.getD m.toNat 0)→C0m y l n≤C0m y' l n'
 | [],n,n',h,_=>h
 | x::l,n,n',h,h2=>C1A l (n:=max n (y.getD x.toNat 0)) (n':=max n' (y'.getD x.toNat 0)) (by have:=h2 x sM;omega) fun m hm=>h2 m (by simp[hm])
theorem C1J {p:D4} {s:H2} {t u:Int} (ho:A5Y p) (htu:t≤u):∀ k,k≤p.steps.length→∀ j,j<k→(B3l p s t k).getD j 0≤(B3l p s u k).getD j 0
 | 0,_,j,h=>by omega
 | k+1,hk,j,hj=>by
  rw[C1p hj,C1p hj];have hx:=ho.t j oM;unfold C1H;cases A6e s j with
  | true=>exact cm _
  | false =>
   rw[cF,cF];cases B2o s j with
   | true=>rw[cT,cT];omega
   | false =>
    rw[cF,cF];have:=C1A (y:=B3l p s t j) (y':=B3l p s u j) (p.steps.getD j default).need htu fun m hm=>by
     have:=hx.nd m hm;exact C1J ho htu j oM m.toNat oM
    omega
theorem C2f {p:D4} {s:H2} {t u:Int} (ho:A5Y p) (htu:t≤u):C0t p s t≤C0t p s u:=by
 have t1:=ho.t1;have:=C1J (s:=s) ho htu p.steps.length (aw _) (p.steps.length-1) oM;unfold C0t;omega
theorem C2p {p:D4} {s:H2} {t u n m:Int} (htu:t≤u) (hnm:n≤m) {i:Nat} (h:C1I p s t n i=true):C1I p s u m i=true:=by
 unfold C1I at h ⊢;simp only[aF,cd,decide_eq_true_eq]at h ⊢;exact⟨h.1,h.2.elim (fun h => .inl oM) fun h => .inr ⟨h.1,by omega⟩⟩
theorem C1s {p:D4} {s:H2} {t u n m:Int} (htu:t≤u) (hnm:n≤m):∀ (i:Nat) (f:Nat→Bool),C0p p s t n i f=true→C0p p s u m i f=true
 | 0,_,h=>by cases h
 | i+1,f,h=>by
  rw[C0p]at h ⊢;cases hf:f i with
  | false=>rw[hf]at h;exact C1s htu hnm i f h
  | true =>
   rw[hf,cT]at h;rw[cT];cases h2:C1I p s u m i with
   | true=>rfl
   | false =>
    have h1:C1I p s t n i=false:=by
     cases h1:C1I p s t n i with
     | false=>rfl
     | true=>rw[C2p htu hnm h1]at h2;cases h2
    rw[h1]at h;exact C1s htu hnm i _ h
def B8x (p:D4) (s:H2) (t:Int):Bool:=(A6b p s t).2
theorem C1O {p:D4} {s:H2} {t:Int}:B8x p s t=true↔C1w p s t=false∧C0t p s t≤p.O8:=by
 unfold B8x A6b;cases C1w p s t<;>simp
theorem C2h {p:D4} {s:H2} {t:Int} (h:B8x p s t=true):(A6b p s t).1=C0t p s t:=by
 have:=(C1O.1 h).1;unfold A6b;rw[this];rfl
theorem C1x {p:D4} {s:H2} {t u:Int} (ho:A5Y p) (htu:t≤u) (h:B8x p s u=true):B8x p s t=true∧(A6b p s t).1≤(A6b p s u).1:=by
 obtain⟨h1,h2⟩:=C1O.1 h;have hl:=C2f (s:=s) ho htu;have ht:B8x p s t=true:=by
  refine C1O.2 ⟨?_,by omega⟩;cases hb:C1w p s t with
  | false=>rfl
  | true =>
   have:=C1s (p:=p) (s:=s) htu hl _ _ hb;unfold C1w at h1;rw[this]at h1;cases h1
 exact⟨ht,by rw[C2h ht,C2h h];exact hl⟩
def B6Z (p:D4) (l:List C7):Option H2 × Int:=match (A0O p l).1 with
 | none=>(none,(A0O p l).2.2)
 | some s=>bif A6e s (p.steps.length-1)then(none,9)else(some s,0)
theorem C18 {p:D4} {l:List C7} (h:(B6Z p l).1=none):(B6Z p l).2≠0:=by
 unfold B6Z at h ⊢;cases hp:(A0O p l).1 with
 | none=>exact B1r hp
 | some s =>
  rw[hp]at h;simp only at h ⊢;cases hd:A6e s (p.steps.length-1)with
  | true=>show(9:Int)≠0;decide
  | false=>rw[hd]at h;cases h
theorem C19 {p:D4} {l:List C7} {s:H2} (h:(B6Z p l).1=some s):(B6Z p l).2=0∧(A0O p l).1=some s∧A6e s (p.steps.length-1)=false:=by
 unfold B6Z at h ⊢;cases hp:(A0O p l).1 with
 | none=>rw[hp]at h;cases h
 | some s2 =>
  rw[hp]at h;simp only at h ⊢;cases hd:A6e s2 (p.steps.length-1)with
  | true=>rw[hd]at h;cases h
  | false=>rw[hd]at h;injection h with h;subst h;exact⟨rfl,rfl,hd⟩
theorem C2a {F:Nat} {p:D4} (hf:CtF F p) (l:List C7):A6V F p l=some ((B6Z p l).1.map (dsk p),(B6Z p l).2):=by
 rw[A6V,B9a hf,oS];unfold B6Z;cases hp:(A0O p l).1 with
 | none =>
  have h1:=B1r hp;show(if(A0O p l).2.2=0 then _ else _)=_;rw[if_neg h1];rfl
 | some s =>
  obtain⟨h1,ho,hl,he,_,_,_,_⟩:=A8D hp;have hs:CF p s:=by rw[(C1l hp).1];exact C16 ho (B1z ho) he
  have t1:=ho.t1;show(if(A0O p l).2.2=0 then _ else _)=_;rw[if_pos h1,B2K ho,oS,B2C hs oM,oS];show _=some ((bif A6e s (p.steps.length-1)then((none,9):Option H2 × Int)else(some s,0)).1.map (dsk p),(bif A6e s (p.steps.length-1)then((none,9):Option H2 × Int)else(some s,0)).2);cases A6e s (p.steps.length-1)<;>rfl
theorem C2b {p:D4} {l:List C7} {s:H2} (h:(A0O p l).1=some s):A5Y p∧CF p s:=by
 obtain⟨h1,ho,hl,he,_,_,_,_⟩:=A8D h;exact⟨ho,by rw[(C1l h).1];exact C16 ho (B1z ho) he⟩
def B22 (p:D4) (l:List C7) (t:Int):Int × Int:=match (B6Z p l).1 with
 | none=>(0,(B6Z p l).2)
 | some s=>bif N9 t s.now 100000 then(0,7)else bif B8x p s t then((A6b p s t).1,0)else(0,9)
theorem C2m {F:Nat} {p:D4} (hf:CtF F p) (l:List C7) (t:Int):A3Z F p l t=some (B22 p l t):=by
 rw[A3Z,C2a hf,oS];unfold B22;cases hp:(B6Z p l).1 with
 | none =>
  have h1:=C18 hp;show(if(B6Z p l).2=0 then _ else _)=_;rw[if_neg h1]
 | some s =>
  obtain⟨h1,h2,h3⟩:=C19 hp;obtain⟨ho,hs⟩:=C2b h2;have hn:=hs.now;show(if(B6Z p l).2=0 then _ else _)=_;rw[if_pos h1,X2,oS];show(if N9 t s.now 100000=true then _ else _)=some (bif N9 t s.now 100000 then((0:Int),(7:Int))else bif B8x p s t then((A6b p s t).1,0)else(0,9));cases hb:N9 t s.now 100000 with
  | true=>rfl
  | false =>
   have:=O6.1 hb;rw[if_neg sM,C1G hf.pd.f ho hs oM,oS];rw[cF];unfold B8x;cases(A6b p s t).2<;>rfl
def C2z (p:D4) (s:H2) (r:Int):Prop:=(r = -1∧∀ u,s.now≤u→u≤100000→B8x p s u=false)∨((s.now≤r∧r≤100000)∧B8x p s r=true∧∀ u,r<u→u≤100000→B8x p s u=false)
theorem C1E {F:Nat} {p:D4} {s:H2} (hF:100<F) (ho:A5Y p) (hs:CF p s):∀ (n:Nat) (late lo hi:Int),(hi-lo+1<(2:Int)^n)→s.now≤lo→hi≤100000→lo≤hi+1→((late = -1∧lo=s.now)∨(late=lo-1∧s.now≤late∧B8x p s late=true))→(∀ u,hi<u→u≤100000→B8x p s u=false) →
  ∃ r,A2P F (dsk p s) (fun late _ _=>some (late,0)) (n+1) late lo hi=some (r,0)∧C2z p s r
 | n,late,lo,hi,hn,h1,h2,h3,h4,h5=>by
  have hnow:=hs.now;rw[A2P];by_cases hc:lo≤hi
  ·cases n with
   | zero=>simp at hn;omega
   | succ n =>
    rw[fj]at hn;obtain⟨m,hm⟩:∃ m,(lo+hi)/2=m:=⟨_,rfl⟩;have hm1:lo≤m∧m≤hi:=by omega
    have ew:W (Int.tdiv (W (lo+hi)) 2)=m:=by
     rw[A8K (x:=lo+hi) oM oM,dS oM,hm,A8K oM oM]
    rw[if_pos hc,ew,C1G hF ho hs oM,oS,A8K (x:=m+1) oM oM,A8K (x:=m-1) oM oM];cases hp:(A6b p s m).2 with
    | true =>
     rw[if_pos rfl];exact C1E hF ho hs n m (m+1) hi oM oM h2 oM (.inr ⟨by omega,by omega,hp⟩) h5
    | false =>
     rw[if_neg sM];refine C1E hF ho hs n late lo (m-1) oM h1 oM oM h4 fun u hu hu2=>?_;cases hq:B8x p s u with
     | false=>rfl
     | true =>
      have:B8x p s m=true:=(C1x ho oM hq).1;unfold B8x at this;rw[hp]at this;cases this
  ·rw[if_neg hc];refine⟨late,rfl,?_⟩;rcases h4 with⟨e1,e2⟩ | ⟨e1,e2,e3⟩
   ·exact .inl ⟨e1,fun u hu hu2=>h5 u oM hu2⟩
   ·exact .inr ⟨by omega,e3,fun u hu hu2=>h5 u oM hu2⟩
theorem C28 {F:Nat} {p:D4} (hf:CtF F p) (l:List C7):match (B6Z p l).1 with
 | none=>A85 F p l=some (0,(B6Z p l).2)
 | some s=>∃ r,A85 F p l=some (r,0)∧C2z p s r:=by
 cases hp:(B6Z p l).1 with
 | none =>
  have h1:=C18 hp;show A85 F p l=some (0,(B6Z p l).2);rw[A85,C2a hf,oS,hp];show(if(B6Z p l).2=0 then _ else _)=_;rw[if_neg h1]
 | some s =>
  obtain⟨h1,h2,h3⟩:=C19 hp;obtain⟨ho,hs⟩:=C2b h2;have hn:=hs.now;have hF:=hf.pd.f;show ∃ r,A85 F p l=some (r,0)∧C2z p s r;obtain⟨n,rfl⟩:∃ n,F=n+1:=⟨F-1,by omega⟩;have hpow:(131072:Int)≤(2:Int)^n:=by
   have:(2:Nat)^17≤2^n:=ep dM oM;have h3:((2^n:Nat):Int)=(2:Int)^n:=by simp
   rw[← h3];have h4:(2:Nat)^17=131072:=by decide
   omega
  obtain⟨r,h4,h5⟩:=C1E (F:=n+1) hF ho hs n (-1) s.now 100000 oM (cm _) (cm _) oM (.inl ⟨rfl,rfl⟩) (fun u hu hu2=>by omega);refine⟨r,?_,h5⟩;rw[A85,C2a hf,oS,hp];show(if(B6Z p l).2=0 then _ else _)=_;rw[if_pos h1];exact h4
def C3i (p:D4) (k:Nat):Int:=(B3l p (A0U p) 0 p.steps.length).getD k 0
structure C6i (p:D4) (l:List Int) (i:Nat):Prop where
 r:0≤l.getD i 0∧l.getD i 0<p.steps.length
 z:i=0→(p.steps.getD (l.getD i 0).toNat default).need=[]∧C3i p (l.getD i 0).toNat=(p.steps.getD (l.getD i 0).toNat default).least
 s:0<i→l.getD (i-1) 0∈(p.steps.getD (l.getD i 0).toNat default).need∧C3i p (l.getD i 0).toNat=C3i p (l.getD (i-1) 0).toNat+(p.steps.getD (l.getD i 0).toNat default).least
theorem C7L (F:Nat) (n lo hi:Int):C8N F n lo hi=some (!N9 n lo hi):=by
 unfold C8N N9;split
 ·rename_i h;by_cases h2:n≤hi
  ·rw[dT h2,dF oM];rfl
  ·rw[dF h2,dT oM];rfl
 ·rename_i h;rw[dT oM];rfl
theorem C8U {F:Nat} {many:Int} (hm:0≤many∧many<9223372036854775808) {l:List Int} (hl:l.length<F∧l.length<9223372036854775808):C8i F l many=some (!A4n many l):=by
 have key:∀ (n k:Nat),l.length<n+k→k≤l.length→C7Q F l many (fun _=>some true) n k=some (!(l.drop k).any fun n=>N9 n 0 (many-1)):=fun n=>by
  induction n with
  | zero=>intro k h;omega
  | succ n ih =>
   intro k h h2;rw[C7Q];by_cases hk:k<l.length
   ·rw[if_pos oM,H3 hk,oS,A8K,C7L,oS,S0 oM,ih (k+1) oM oM,lD hk,bd];cases N9 l[k] 0 (many-1)<;>simp
   ·rw[if_neg oM,lL oM];rfl
 rw[C8i,show(0:Int)=((0:Nat):Int)from rfl,key F 0 oM oM,aB];rfl
theorem C8t {F:Nat} {l:List Int} (hl:l.length<F∧l.length<9223372036854775808):C7y F l=some (A6a l):=by
 have key:∀ (n k:Nat),l.length<n+k→1≤k→k≤l.length→C7o F l (fun _=>some true) n k=some (A6a (l.drop (k-1))):=fun n=>by
  induction n with
  | zero=>intro k h;omega
  | succ n ih =>
   intro k h h1 h2;rw[C7o];by_cases hk:k<l.length
   ·rw[if_pos oM,H3 hk,oS,B23 h1 oM,H3 (by omega:k-1<l.length),oS,S0 oM,ih (k+1) oM oM oM,
     lD (by omega:k-1<l.length),show k-1+1=k by omega,show k+1-1=k by omega,lD hk,A6a]
    by_cases hc:l[k]≤l[k-1]
    ·rw[if_pos hc,dF (by omega:¬ l[k-1]<l[k])];rfl
    ·rw[if_neg hc,dT (by omega:l[k-1]<l[k])];rfl
   ·rw[if_neg oM,lD (by omega:k-1<l.length),lL oM];rfl
 rw[C7y];by_cases h0:0<l.length
 ·have:=key F 1 oM oM oM;rw[cJ,aB]at this;exact this
 ·have:l=[]:=by cases l<;>simp at h0 ⊢
  subst this;obtain⟨n,rfl⟩:∃ n,F=n+1:=⟨F-1,by omega⟩;rfl
def stN (l:List ByteArray) (k:Nat):Int:=nmE (l.take k) (l.getD k default)
theorem D1t {F:Nat} {l:List ByteArray} (hl:l.length<9223372036854775808) {e:ByteArray} {i:Nat} (hi:i≤l.length) {c:Option (Int × Int)}:∀ (n k:Nat),i<n+k→k≤i→C8C F l i e (fun _=>c) n k=bif ((l.take i).drop k).any (fun b=>decide (b.toList=e.toList))then some ((i:Int),5)else c
 | 0,k,h,h2=>absurd h oM
 | n+1,k,h,h2=>by
  rw[C8C];by_cases hk:k<i
  ·have hk2:k<(l.take i).length:=by rw[aN];omega
   rw[if_pos oM,H3 (by omega:k<l.length),oS,S0 oM,D1t hl hi n (k+1) oM oM,lD hk2,bd,dD];by_cases hc:l[k].toList=e.toList
   ·rw[if_pos hc,dT hc];rfl
   ·rw[if_neg hc,dF hc];rfl
  ·rw[if_neg oM,lL (by rw[aN];omega)];rfl
theorem D0Q {F:Nat} {l:List ByteArray} (hl:l.length<F∧l.length<9223372036854775808) (hn:∀ x∈l,x.size<F∧x.size<9223372036854775808):C9G F l=some (A4d (stN l) l.length 0):=by
 have key:∀ (n k:Nat),l.length<n+k→k≤l.length→C8k F l (fun _=>some (0,0)) n k=some (A4d (stN l) (l.length-k) k):=fun n=>by
  induction n with
  | zero=>intro k h;omega
  | succ n ih =>
   intro k h h2;rw[C8k];by_cases hk:k<l.length
   ·have hx:=hn _ (aj hk);have e0:stN l k=nmE (l.take k) l[k]:=by unfold stN;rw[J6 default hk]
    rw[if_pos oM,H3 hk,oS,D1e hx.2 hx.1,oS,show l.length-k=(l.length-(k+1))+1 by omega,A4d];have:=D1t (F:=F) hl.2 (e:=l[k]) (by omega:k≤l.length) (c:=C8k F l (fun _=>some (0,0)) n (W ((k:Int)+1))) F 0 oM oM;rw[show((0:Nat):Int)=0 from rfl,aB]at this;rw[this,S0 oM,ih (k+1) oM oM,e0];unfold nmE;cases hp:A7C l[k]with
    | false=>simp
    | true =>
     cases ha:(l.take k).any (fun b=>decide (b.toList=l[k].toList))<;>simp
   ·rw[if_neg oM,show l.length-k=0 by omega];rfl
 rw[C9G,show(0:Int)=((0:Nat):Int)from rfl];exact key F 0 oM oM
theorem D0H {f:Nat→Int}:∀ (m k:Nat),(∀ j,k≤j→j<k+m→f j=0)→A4d f (m+1) k=if f (k+m)=0 then(0,0)else(((k+m:Nat):Int),f (k+m))
 | 0,k,h=>by
  rw[A4d,A4e];rfl
 | m+1,k,h=>by
  rw[A4d,dT (h k (aw _) oM),cT,D0H m (k+1) fun j h1 h2=>h j oM oM,show k+1+m=k+(m+1) by omega]
theorem D1r {F:Nat} {l:List ByteArray} (hl:l.length<F∧l.length<9223372036854775807) (hn:∀ x∈l,x.size<F∧x.size<9223372036854775808) {i:Nat} (hi:i<l.length) (h0:∀ j,j<i→stN l j=0):D0m F l i=some (stN l i):=by
 have hlen:(l.take (i+1)).length=i+1:=by rw[aN];omega
 have hst:∀ j,j<i+1→stN (l.take (i+1)) j=stN l j:=fun j hj=>by
  unfold stN;rw[eO,cI oM,J6 default (by omega:j<(l.take (i+1)).length),J6 default (by omega:j<l.length),dD]
 rw[D0m,S0 oM,B0w oM,oS,D0Q (by rw[hlen];omega) fun x hx=>hn x (dk hx),oS,hlen,
  D0H i 0 fun j _ h2=>(hst j oM).trans (h0 j oM),Nat.zero_add,hst i oM]
 by_cases hz:stN l i=0
 ·rw[if_pos hz,hz];split<;>rfl
 ·rw[if_neg hz,if_pos rfl]
theorem D1L {F:Nat} (hF:100<F) (x:Int) {n:Nat} (hn:n≤8):C9J F x (n:Int)=some (ak n x):=by
 obtain⟨m,rfl⟩:∃ m,F=m+20:=⟨F-20,by omega⟩
 match n,hn with
 | 0,_=>rfl
 | 1,_=>rfl
 | 2,_=>rfl
 | 3,_=>rfl
 | 4,_=>rfl
 | 5,_=>rfl
 | 6,_=>rfl
 | 7,_=>rfl
 | 8,_=>rfl
theorem D2c {F:Nat} {p:D5} (h:A5x F p):C9l F p=some (A4C p):=by
 rw[C9l,D0O h,oS];unfold A4C;by_cases h0:(A2n p).2.2=0
 ·have ho:=A60 h0;have k1:=ho.p8;have k2:=ho.k8;have k3:=ho.q6;rw[if_pos h0,if_pos h0,D1L h.f _ k1,oS,D1L h.f _ k2,oS,D1L h.f _ oM];rfl
 ·rw[if_neg h0,if_neg h0]
theorem D0S {F:Nat} {p:D4} (h:A5x F (A1w p)) (a:D2):C8P F p a=some (A9U (A1w p) a):=by
 rw[C8P,show D5.mk p.N4 p.P5 p.N6 p.S5 p.J3 p.Q7 p.T9=A1w p from rfl,D2c h,oS,D1g h (B42 h.f),oS];unfold A9U;by_cases hc:(DoP (A1w p) (A4C (A1w p)).1 a).2<170
 ·rw[if_neg oM,dT hc];rfl
 ·rw[if_pos oM,dF hc];rfl
theorem D2A {F:Nat} {p:D4} (h:CtF F p) {x:E0} (hx:B7k F x):∀ (n k:Nat),x.acts.length<n+k→k≤x.acts.length→C8z F p x (fun _=>some 0) n k=some (B3z (A1w p) (x.acts.drop k))
 | 0,k,h1,h2=>absurd h1 oM
 | n+1,k,h1,h2=>by
  rw[C8z];by_cases hk:k<x.acts.length
  ·have:=hx.a;rw[if_pos oM,H3 hk,oS,D0S h.pd,oS,S0 oM,D2A h hx n (k+1) oM oM,lD hk,B3z,A4e,A4e,← A6z,← A6z]
  ·rw[if_neg oM,lL oM];rfl
theorem D00 {α:Type} (a:Bool) (X Y:α):(if(!a)=true then X else Y)=bif a then Y else X:=by cases a<;>rfl
theorem D3K {α:Type} (a:Bool) [Decidable (a=true)] (X Y:α):(bif decide (a=true)then X else Y)=bif !a then Y else X:=by cases a<;>simp
theorem D1b {α:Type} [Inhabited α] (nm:α→ByteArray) (l:List α) {j k:Nat} (hj:j≤k) (hk:k<l.length):stN ((l.take (k+1)).map nm) j=nmE ((l.take j).map nm) (nm (l.getD j default)):=by
 unfold stN;rw[← List.map_take,eO,cI oM,J6 default (by rw[aS,aN];omega),J6 default (by omega:j<l.length),List.getElem_map,dD]
theorem D13 {α:Type} {a b:Bool} {A B:α} (h:a=b):(bif a then A else B)=bif b then A else B:=by rw[h]
theorem D3V {a b:Int} {α:Type} (A B:α):(bif N9 a 0 20000 then A else bif N9 b a 20000 then A else B)=bif N9 b 0 20000 then A else bif N9 a 0 b then A else B:=by
 rw[B7q,B7q];refine D13 ?_;rw[dj];simp only[N9,cd,decide_eq_true_eq];omega
theorem D2z {F:Nat} {p:D4} (h:CtF F p) (h16:p.steps.length≤16) {k:Nat} (hk:k<p.steps.length) (h0:∀ j,j<k→nmE ((p.steps.take j).map (·.name)) (p.steps.getD j default).name=0):D08 F p ((p.steps.take (k+1)).map (·.name)) k=some (B10 p k):=by
 have hx:=h.st _ (aj hk);have hF:=h.pd.f;have hb:=h.lb;have hlen:((p.steps.take (k+1)).map (·.name)).length=k+1:=by rw[aS,aN];omega
 have hnm:=D1r (F:=F) (l:=(p.steps.take (k+1)).map (·.name)) (by rw[hlen];omega) (fun x hx=>by
  obtain⟨y,hy,rfl⟩:=bZ.1 hx;exact(h.st y (dk hy)).n) (i:=k) oM fun j hj=>(D1b (·.name) p.steps oM hk).trans (h0 j hj)
 rw[D1b (·.name) p.steps (aw _) hk]at hnm;have ha:C8z F p p.steps[k] (fun _=>some 0) F 0=_:=D2A h hx F 0 (by have:=hx.a;omega) oM;rw[D08,H3 hk,oS,hnm,oS]
 simp only[C9R,C9Q,C9P,C8U (F:=F) (many:=k) ⟨by omega,by omega⟩ hx.d,C8U (F:=F) (many:=(p.batteries.length:Int)) ⟨by omega,by omega⟩ hx.o,C8U (F:=F) (many:=(p.batteries.length:Int)) ⟨by omega,by omega⟩ hx.u,C8U (F:=F) (many:=(p.batteries.length:Int)) ⟨by omega,by omega⟩ hx.f,
  C8t hx.d,C8t hx.o,C8t hx.u,C8t hx.f,C7L,oS,ha,aB,D00]
 unfold B10;rw[J6 default hk];simp only[D3V,bd,cW,bU,← B7q,A6z,A4e,D3K]
theorem D0z {ρ:Type} {g:Nat→ρ→Int→Option (Int × Int × Int)} {f:Nat→Int} {len:Nat} {pt:Int} {c:Option (Int × Int × Int)} (rk:Nat→ρ) (h0:∀ (n k:Nat),k<len→(∀ j,j<k→f j=0)→f k=0→g (n+1) (rk k) k=g n (rk (k+1)) ((k+1:Nat):Int)) (he:∀ (n k:Nat),k<len→(∀ j,j<k→f j=0)→f k≠0→g (n+1) (rk k) k=some (pt,(k:Int),f k)) (h1:∀ n r,g (n+1) r len=c) :
 ∀ (n k:Nat),(∀ j,j<k→f j=0)→len<n+k→k≤len→g n (rk k) k=A7x pt (A4d f (len-k) k) c
 | 0,k,_,h,h2=>absurd h oM
 | n+1,k,hj,h,h2=>by
  by_cases hk:k<len
  ·rw[show len-k=(len-(k+1))+1 by omega,A4d];by_cases hf:f k=0
   ·rw[h0 n k hk hj hf,D0z rk h0 he h1 n (k+1) (fun j h3=>by
     rcases Nat.lt_or_ge j k with h4 | h4
     ·exact hj j h4
     ·obtain rfl:j=k:=by omega
      exact hf) oM oM,dT hf,cT]
   ·rw[he n k hk hj hf,dF hf,cF,A7x,dF hf,cF]
  ·obtain rfl:k=len:=by omega
   rw[h1,cJ,A4d];rfl
theorem D1w {α β:Type} (nm:α→β) {l:List α} {k:Nat} (h:k<l.length):(l.take k).map nm++[nm l[k]]=(l.take (k+1)).map nm:=by
 rw[List.take_succ_eq_append_getElem h,List.map_append];rfl
theorem D3t {p:D4} {k:Nat} (h:B10 p k=0):nmE ((p.steps.take k).map (·.name)) (p.steps.getD k default).name=0:=by
 unfold B10 at h;by_cases h0:nmE ((p.steps.take k).map (·.name)) (p.steps.getD k default).name=0
 ·exact h0
 ·rw[dF h0,cF]at h;exact h
theorem D32 {p:D4} {k:Nat} (h:B6m p k=0):nmE ((p.batteries.take k).map (·.name)) (p.batteries.getD k default).name=0:=by
 unfold B6m at h;by_cases h0:nmE ((p.batteries.take k).map (·.name)) (p.batteries.getD k default).name=0
 ·exact h0
 ·rw[dF h0,cF]at h;exact h
theorem RL2 {F:Nat} {p:D4} (h:CtF F p) (hs:1≤p.steps.length∧p.steps.length≤16) (c:Option (Int × Int × Int)):C7i F p (fun _ _=>c) F [] 0=A7x 5 (A4d (B10 p) p.steps.length 0) c:=by
 have hF:=h.pd.f;have one:∀ (n k:Nat) (hk:k<p.steps.length),(∀ j,j<k→B10 p j=0)→C7i F p (fun _ _=>c) (n+1) ((p.steps.take k).map (·.name)) k=if B10 p k=0 then C7i F p (fun _ _=>c) n ((p.steps.take (k+1)).map (·.name)) ((k+1:Nat):Int)else some (5,(k:Int),B10 p k):=fun n k hk hj=>by
  rw[C7i,if_pos oM,H3 hk,oS,A8O (by rw[aS,aN];omega),oS,D1w (·.name) hk,D2z h hs.2 hk fun j h3=>D3t (hj j h3),oS,S0 oM]
 exact D0z (g:=C7i F p (fun _ _=>c)) (f:=B10 p) (len:=p.steps.length) (pt:=5) (c:=c) (fun k=>(p.steps.take k).map (·.name))
  (fun n k hk hj hf=>by rw[one n k hk hj,if_pos hf]) (fun n k hk hj hf=>by rw[one n k hk hj,if_neg hf]) (fun n r=>by rw[C7i,if_neg oM]) F 0 (fun j h3=>absurd h3 oM) oM oM
theorem RL3 {F:Nat} {p:D4} (h:CtF F p) (hs:p.batteries.length≤6) (c:Option (Int × Int × Int)):C5w F p (fun _ _=>c) F [] 0=A7x 4 (A4d (B6m p) p.batteries.length 0) c:=by
 have hF:=h.pd.f;have one:∀ (n k:Nat) (hk:k<p.batteries.length),(∀ j,j<k→B6m p j=0)→C5w F p (fun _ _=>c) (n+1) ((p.batteries.take k).map (·.name)) k=if B6m p k=0 then C5w F p (fun _ _=>c) n ((p.batteries.take (k+1)).map (·.name)) ((k+1:Nat):Int)else some (4,(k:Int),B6m p k):=fun n k hk hj=>by
  have hlen:((p.batteries.take (k+1)).map (·.name)).length=k+1:=by rw[aS,aN];omega
  have hnm:=D1r (F:=F) (l:=(p.batteries.take (k+1)).map (·.name)) (by rw[hlen];omega) (fun x hx=>by
   obtain⟨y,hy,rfl⟩:=bZ.1 hx;exact h.bn y (dk hy)) (i:=k) oM fun j h3=>(D1b (·.name) p.batteries oM hk).trans (D32 (hj j h3))
  rw[D1b (·.name) p.batteries (aw _) hk]at hnm;rw[C5w,if_pos oM,H3 hk,oS,A8O (by rw[aS,aN];omega),oS,D1w (·.name) hk,hnm,oS,C7L,C7L];unfold B6m;rw[J6 default hk];simp only[oS,C8c,S0 (show k<9223372036854775807 by omega)];by_cases h0:nmE ((p.batteries.take k).map (·.name)) p.batteries[k].name=0
  ·rw[if_pos h0,dT h0,cT];cases N9 p.batteries[k].charge 1 1000000<;>cases N9 p.batteries[k].rate 1 1000<;>simp only[h0,cU,Bool.not_true,if_true,Bool.false_eq_true,if_false,cT,cF]<;>rfl
  ·rw[if_neg h0,dF h0,cF,if_neg h0]
 exact D0z (g:=C5w F p (fun _ _=>c)) (f:=B6m p) (len:=p.batteries.length) (pt:=4) (c:=c) (fun k=>(p.batteries.take k).map (·.name))
  (fun n k hk hj hf=>by rw[one n k hk hj,if_pos hf]) (fun n k hk hj hf=>by rw[one n k hk hj,if_neg hf]) (fun n r=>by rw[C5w,if_neg oM]) F 0 (fun j h3=>absurd h3 oM) oM oM
theorem RL1 {F:Nat} {p:D4} (h:CtF F p) (hs:1≤p.steps.length∧p.steps.length≤16) (c:Option (Int × Int × Int)):C5s F p (fun _=>c) F 0=A7x 6 (A4d (A9K p) p.points.length 0) c:=by
 have hp:=h.lp;have one:∀ (n k:Nat) (hk:k<p.points.length),C5s F p (fun _=>c) (n+1) k=if A9K p k=0 then C5s F p (fun _=>c) n ((k+1:Nat):Int)else some (6,(k:Int),A9K p k):=fun n k hk=>by
  rw[C5s,if_pos oM,H3 hk,oS,A8K,C7L,oS,S0 oM,D00];unfold A9K;rw[J6 0 hk];cases N9 p.points[k] 0 ((p.steps.length:Int)-1)with
  | true=>rfl
  | false =>
   rw[cF,cF];by_cases h0:0<k
   ·rw[if_pos oM,B23 h0 oM,H3 (by omega:k-1<p.points.length),oS,dT h0,bf,J6 0 (by omega:k-1<p.points.length)];by_cases hc:p.points[k]≤p.points[k-1]
    ·rw[if_pos hc,dT hc];rfl
    ·rw[if_neg hc,dF hc];rfl
   ·rw[if_neg oM,dF h0];rfl
 exact D0z (ρ:=Unit) (g:=fun n _ k=>C5s F p (fun _=>c) n k) (f:=A9K p) (len:=p.points.length) (pt:=6) (c:=c) (fun _=>())
  (fun n k hk hj hf=>by show C5s F p (fun _=>c) (n+1) k=_;rw[one n k hk,if_pos hf]) (fun n k hk hj hf=>by show C5s F p (fun _=>c) (n+1) k=_;rw[one n k hk,if_neg hf]) (fun n r=>by show C5s F p (fun _=>c) (n+1) _=c;rw[C5s,if_neg oM]) F 0 (fun j h3=>absurd h3 oM) oM oM
theorem D2h {F:Nat} {p:D4} (h:CtF F p):D0d F p=some (A35 p):=by
 have hF:=h.pd.f;rw[D0d,show D5.mk p.N4 p.P5 p.N6 p.S5 p.J3 p.Q7 p.T9=A1w p from rfl,D0I h.pd,oS,C7L,oS,D00];unfold A35;by_cases h0:(A2n (A1w p)).2.2=0
 ·rw[if_pos h0,dT h0,cT];unfold B6p;by_cases h1:8<(p.stations.length:Int)
  ·rw[if_pos h1,dT h1];rfl
  ·rw[if_neg h1,dF h1,bu];by_cases h2:6<(p.batteries.length:Int)
   ·rw[if_pos h2,dT h2];rfl
   ·rw[if_neg h2,dF h2,bu];cases h3:N9 p.steps.length 1 16 with
    | true=>rfl
    | false =>
     have h4:=O6.1 h3;rw[cF,cF,C9w,D0Q ⟨by omega,by omega⟩ h.sn,oS];simp only[RL1 h ⟨by omega,by omega⟩,RL2 h ⟨by omega,by omega⟩,RL3 h (show p.batteries.length≤6 by omega),C7L,oS,D00];unfold B8g;rw[← A5O,← A5O,← A5O,← A5O];have ew:(bif N9 p.Q8 0 100000 then some ((7:Int),(0:Int),(7:Int))else bif N9 p.O8 p.Q8 100000 then some (7,0,7)else some (0,0,0))=some (B3p p):=by
      unfold B3p;rw[B7q,A6z,A6z,B7q];refine D13 ?_;rw[dj];simp only[N9,cd,decide_eq_true_eq];omega
     rw[ew];show _=A7x 3 (A4d (stN p.stations) p.stations.length 0) _;unfold A7x;by_cases h5:(A4d (stN p.stations) p.stations.length 0).2=0
     ·rw[if_pos h5,dT h5,cT]
     ·rw[if_neg h5,dF h5,cF]
 ·rw[if_neg h0,dF h0,cF]
theorem D2D {α:Type} (a:α) (k:Nat):ak k a++[a]=ak (k+1) a:=by rw[List.replicate_succ']
theorem RS2 {F:Nat} {p:D4} (h16:p.steps.length≤16) {K:List Int→List Int→Int→Option H2}:∀ (n k:Nat),p.steps.length<n+k→k≤p.steps.length→C8E F p K n (ak k (-1)) (ak k (-1)) k=K (ak p.steps.length (-1)) (ak p.steps.length (-1)) (p.steps.length:Int)
 | 0,k,h,h2=>absurd h oM
 | n+1,k,h,h2=>by
  rw[C8E];by_cases hk:k<p.steps.length
  ·rw[if_pos oM,A8O (by rw[aL];omega),oS,oS,D2D,S0 oM,RS2 h16 n (k+1) oM oM]
  ·obtain rfl:k=p.steps.length:=by omega
   rw[if_neg oM]
theorem RS1 {F:Nat} {p:D4} (h6:p.batteries.length≤6) {K:List Int→List Bool→Int→Option H2}:∀ (n k:Nat),p.batteries.length<n+k→k≤p.batteries.length→C8D F p K n ((p.batteries.take k).map (·.charge)) (ak k false) k=K (p.batteries.map (·.charge)) (ak p.batteries.length false) (p.batteries.length:Int)
 | 0,k,h,h2=>absurd h oM
 | n+1,k,h,h2=>by
  rw[C8D];by_cases hk:k<p.batteries.length
  ·rw[if_pos oM,H3 hk,oS,A8O (by rw[aS,aN];omega),oS,A8O (by rw[aL];omega),oS,D2D,D1w (·.charge) hk,S0 oM,RS1 h6 n (k+1) oM oM]
  ·obtain rfl:k=p.batteries.length:=by omega
   rw[if_neg oM,List.take_length]
theorem D2m {F:Nat} {p:D4} (h:CtF F p) (ho:A5Y p):C9H F p=some (A0U p):=by
 have hF:=h.pd.f;have t16:=ho.t16;have b6:=ho.b6;have s8:=ho.s8;rw[C9H,show D5.mk p.N4 p.P5 p.N6 p.S5 p.J3 p.Q7 p.T9=A1w p from rfl,D2c h.pd,oS];refine(RS2 t16 F 0 oM oM).trans ?_;refine(RS1 b6 F 0 oM oM).trans ?_;rw[B0U oM];rfl
theorem D1o {F:Nat} {p:D4} (h:CtF F p) (x:C7):(if x.kind=8 then(if x.A04=x.at_ then((C8P F p (D2.mk x.A04 x.A0D x.A1L x.A0E x.A0F)).bind fun rv3=>some rv3)else(some 2))else(if(!(D2.beq (D2.mk x.A04 x.A0D x.A1L x.A0E x.A0F) (D2.mk 0 0 0 0 0)))=true then(some 2)else(some (0:Int))))=some (bif B0C x then 2 else bif decide (x.kind=8)then A9U (A1w p) (A8M x)else 0):=by
 rw[D0S h.pd,oS];unfold B0C;by_cases h8:x.kind=8
 ·rw[if_pos h8,dT h8,cT,cT];by_cases ha:x.A04=x.at_
  ·rw[if_pos ha,dT ha];rfl
  ·rw[if_neg ha,dF ha];rfl
 ·rw[if_neg h8,dF h8,cF,cF];cases D2.beq (A8M x) (D2.mk 0 0 0 0 0)<;>rfl
theorem D2j {F:Nat} {p:D4} (h:CtF F p) (ho:A5Y p) (x:C7):D0f F p x=some (A5H p x):=by
 have lp:=h.lp;have t16:=ho.t16;have s8:=ho.s8;have b6:=ho.b6;rw[D0f,C7L,oS,C7L,oS,D00,D00];unfold A5H;cases h1:N9 x.at_ 0 100000 with
 | true=>rfl
 | false =>
  cases h2:N9 x.kind 1 9 with
  | true=>rfl
  | false =>
   rw[cF,cF,cF,cF];have hk:=O6.1 h2;have h9:x.kind=1∨x.kind=2∨x.kind=3∨x.kind=4∨x.kind=5∨x.kind=6∨x.kind=7∨x.kind=8∨x.kind=9:=by omega
   have hJ:A3r x.kind=true→C8h F p x=some (bif (!A3r x.kind&&N9 x.what 0 (A20 p x.kind-1))then 4 else bif (A3r x.kind && !decide (x.what=0))||B0C x then 2 else bif decide (x.kind=8)then A9U (A1w p) (A8M x)else 0):=fun hn=>by
    rw[C8h,D1o h,hn];by_cases hw:x.what=0
    ·rw[if_pos hw,dT hw];cases B0C x<;>rfl
    ·rw[if_neg hw,dF hw];rfl
   have hN:∀ e:Int,A3r x.kind=false→e=A20 p x.kind→0≤e∧e<9223372036854775808→((C8N F x.what 0 (W (e-1))).bind fun rv3=>if rv3=true then(if x.kind=8 then(if x.A04=x.at_ then((C8P F p (D2.mk x.A04 x.A0D x.A1L x.A0E x.A0F)).bind fun rv4=>some rv4)else(some 2))else(if(!(D2.beq (D2.mk x.A04 x.A0D x.A1L x.A0E x.A0F) (D2.mk 0 0 0 0 0)))=true then(some 2)else(some 0)))else(some 4))
      = some (bif (!A3r x.kind&&N9 x.what 0 (A20 p x.kind-1))then 4 else bif (A3r x.kind && !decide (x.what=0))||B0C x then 2 else bif decide (x.kind=8)then A9U (A1w p) (A8M x)else 0):=fun e hn he hr=>by
    rw[A8K oM oM,C7L,oS,D1o h,D00,hn,he];cases N9 x.what 0 (A20 p x.kind-1)with
    | true=>rfl
    | false=>cases B0C x<;>rfl
   rcases h9 with e | e | e | e | e | e | e | e | e
   ·rw[e]at hN ⊢;exact hN _ rfl rfl oM
   ·rw[e]at hN ⊢;exact hN _ rfl rfl oM
   ·rw[e]at hJ ⊢;exact hJ rfl
   ·rw[e]at hJ ⊢;exact hJ rfl
   ·rw[e]at hN ⊢;exact hN _ rfl rfl oM
   ·rw[e]at hN ⊢;exact hN _ rfl rfl oM
   ·rw[e]at hN ⊢;exact hN _ rfl rfl oM
   ·rw[e]at hJ ⊢;exact hJ rfl
   ·rw[e]at hN ⊢;exact hN _ rfl rfl oM
abbrev FmC (p:D4) (s:H2):Prop:=A2l (A1w p) (B1c s)
def Nz (r:Except Int C3):Prop:=∀ e,r = .error e→e≠0
theorem Nz.ok (s:C3):Nz (.ok s):=fun e h=>by cases h
theorem Nz.dm {b:Bool} {w:Int} {r:Except Int C3} (h1:b=false→w≠0) (h2:Nz r):Nz (dm b w r):=by
 unfold Go.Proofs.YtlaogbbcipebgaaGreat.dm;cases b with
 | true=>exact h2
 | false=>intro e he;injection he with he;subst he;exact h1 rfl
theorem C5j {p:D5} {s:C3} {a:D2} {e:Int} (h:B1Q p s a = .error e):e≠0:=by
 have one:∀ {w:Int} {b:Bool},w≠0→b=false→w≠0:=fun h _=>h;have dz:∀ {w:Int},decide (w=0)=false→w≠0:=fun h=>of_decide_eq_false h;unfold B1Q at h;by_cases ht:a.at_<s.now
 ·rw[if_pos ht]at h;injection h with h;subst h;decide
 rw[if_neg ht]at h;have hk:Nz (B79 p s a):=by
  unfold B79
  repeat' split
  ·exact .dm (one dM) (.dm dz (.dm dz (.dm (one dM) (.dm (one dM) (.ok _)))))
  all_goals repeat (first | exact .ok _ | refine .dm (one dM) ?_)
 cases hr:B79 p s a with
 | ok x=>rw[hr]at h;cases h
 | error w=>rw[hr]at h;injection h with h;subst h;exact hk w hr
theorem D24 {p:D4} {s s':H2} {a:D2} (hs:FmC p s) (h:A8L p s a = .ok s'):FmC p s':=by
 unfold A8L at h;cases hd:decide ((DoP (A1w p) (B1c s) a).2=0)with
 | false=>rw[hd]at h;cases h
 | true =>
  rw[hd,cT]at h;injection h with h
  subst h;rw[decide_eq_true_eq]at hd;show A2l (A1w p) (DoP (A1w p) (B1c s) a).1;unfold DoP at hd ⊢;by_cases h1:A7q (A1w p) (B1c s)=0
  ·rw[dT h1,cT]at hd ⊢;by_cases h2:B25 (A1w p) a=0
   ·rw[dT h2,cT]at hd ⊢;cases he:B1Q (A1w p) (B1c s) a with
    | ok s'=>exact(B3A (B6Q h1).f (B84 h2) he).1
    | error e=>rw[he]at hd;exact absurd hd (C5j he)
   ·rw[dF h2]at hd;exact absurd hd h2
  ·rw[dF h1]at hd;exact absurd hd h1
theorem D1P {p:D4} {t:Int}:∀ {l:List D2} {s s':H2},A8v p t l s = .ok s'→FmC p s→FmC p s'
 | [],s,s',h,hs=>by injection h with h;subst h;exact hs
 | a::l,s,s',h,hs=>by
  change (match A8L p s {a with at_:=t}with | .ok s'=>A8v p t l s' | .error e => .error e)=_ at h;cases ha:A8L p s {a with at_:=t}with
  | error w=>rw[ha]at h;cases h
  | ok s2=>rw[ha]at h;exact D1P h (D24 hs ha)
theorem D36 {p:D4} {s s':H2} {e:C7} (hs:FmC p s) (h:B3L p s e = .ok s'):FmC p s':=by
 unfold B3L at h;split at h
 ·obtain⟨_,_,_,_,_,rfl⟩:=B7p h;exact hs
 split at h
 ·obtain⟨_,_,_,_,_,s2,h6,rfl⟩:=B9G h;have:=D1P h6 hs;exact this
 split at h
 ·unfold B5G at h;cases hh:s.held != decide (e.kind=3)with
  | false=>rw[hh]at h;cases h
  | true=>rw[hh,cT]at h;injection h with h;subst h;exact hs
 split at h
 ·unfold B9m at h;cases hh:s.go.getD e.what.toNat false != decide (e.kind=5)with
  | false=>rw[hh]at h;cases h
  | true=>rw[hh,cT]at h;injection h with h;subst h;exact hs
 split at h
 ·unfold B9i at h;cases hh:decide (0≤s.begun.getD (p.points.getD e.what.toNat 0).toNat 0)with
  | false=>rw[hh]at h;cases h
  | true =>
   cases h8:!s.J3.any (fun e=>decide ((1:Int)=e))with
   | false=>rw[hh,h8]at h;cases h
   | true=>rw[hh,h8,cT,cT]at h;injection h with h;subst h;exact hs
 split at h
 ·exact D24 hs h
 ·unfold B0v at h;cases hh:!s.on_.getD e.what.toNat false with
  | false=>rw[hh]at h;cases h
  | true=>rw[hh,cT]at h;injection h with h;subst h;exact hs
theorem D4d {p:D4} {s s':H2} {e:C7} (hs:FmC p s) (h:doC p s e = .ok s'):FmC p s':=D36 (s:=B4e p s e.at_) hs (C0w h).2.2
theorem D3s {p:D4} (ho:A5Y p):FmC p (A0U p):=by
 show A2l (A1w p) (A4C (A1w p)).1;unfold A4C;rw[if_pos ho.c];have hz:=ho.pd;refine⟨⟨cm 0,show(0:Int)≤100000 by decide⟩,⟨cm _,show(-1:Int)≤0 by decide⟩,aL ..,aL ..,aL ..,fun x hx=>?_,fun x hx=>?_,fun x hx=>?_⟩
 ·rw[cX hx];omega
 ·rw[cX hx];omega
 ·rw[cX hx];omega
theorem D0x {α:Type} {l:List α} (h:l.length≤1000000):A8i ([]:List α) l=some l:=by
 unfold A8i;rw[if_pos (by simp;omega)];rfl
theorem D1J {F:Nat} {p:D4} {s:H2} (ho:A5Y p) (hs:CF p s) (hm:FmC p s):C9j F s=some s:=by
 have:=ho.t16;have:=ho.s8;have:=ho.b6;have:=hs.lb;have:=hs.le;have:=hs.lg;have:=hs.ll;have:=hs.lo;have h1:=ho.pd.p8;have h2:=ho.pd.k8;have h3:=ho.pd.q6;have m1:s.N4.length=p.N6.length:=hm.lz;have m2:s.A5M.length=p.S5.length:=hm.lh;have m3:s.J3.length=p.J3.length:=hm.lq;have k1:p.N6.length≤8:=h1;have k2:p.S5.length≤8:=h2;have k3:p.J3.length≤100:=by have:p.J3.length≤_:=h3;omega
 rw[C9j,D22 (s:=B1c s) (by show s.N4.length≤_;omega) (by show s.A5M.length≤_;omega) (by show s.J3.length≤_;omega),oS,D0x oM,oS,D0x oM,oS,D0x oM,oS,D0x oM,oS,D0x oM,oS]
theorem D2l {F:Nat} {p:D4} {s:H2} (hF:100<F) (ho:A5Y p) (hs:CF p s) (hm:FmC p s) {t:Int} (ht:s.now≤t∧t≤100000):C9F F p s t=some (B4e p s t):=by
 have k1:=ho.b6;have k2:=hs.ll;have k3:=hs.lo;have kn:=hs.now;rw[C9F,D1J ho hs hm,oS];have key:∀ (n k:Nat) (d:List Int),d.length=p.batteries.length→(∀ j,j<k→d.getD j 0=B0f p s t j)→(∀ j,k≤j→d.getD j 0=s.left.getD j 0)→p.batteries.length<n+k→k≤p.batteries.length →
   C8j F p t s (fun d2 _=>some {s with now:=t,left:=d2}) n d k=some (B4e p s t):=fun n=>by
  induction n with
  | zero=>intro k d _ _ _ h;omega
  | succ n ih =>
   intro k d h1 h2 h3 h h4;rw[C8j];by_cases hk:k<p.batteries.length
   ·have hb:=(ho.b k hk).2;have hl:=hs.l k hk;have hc:=(ho.b k hk).1;have hm:=B4n (a:=t-s.now) oM hb;rw[if_pos oM,H3 (by omega:k<s.on_.length),oS,S0 oM];have ek:B0f p s t k=bif s.on_[k]'oM then max 0 (s.left.getD k 0-(t-s.now)*p.batteries[k].rate)else s.left.getD k 0:=by
     unfold B0f;rw[J6 false (by omega:k<s.on_.length),J6 default hk]
    rw[J6 default hk]at hm hb;cases ho2:s.on_[k]'oM with
    | true =>
     rw[ho2,cT]at ek;rw[if_pos rfl,H3 (by omega:k<d.length),oS,← J6 0 (by omega:k<d.length),h3 k (aw _),H3 hk,oS];unfold A5g;have w1:W (t-s.now)=t-s.now:=A8K oM oM;have w2:W ((t-s.now)*p.batteries[k].rate)=(t-s.now)*p.batteries[k].rate:=A8K oM oM;have w3:W (s.left.getD k 0-(t-s.now)*p.batteries[k].rate)=s.left.getD k 0-(t-s.now)*p.batteries[k].rate:=A8K oM oM;rw[oS,w1,w2,w3,show(k:Int).toNat=k by omega];refine ih (k+1) _ (by rw[aX];exact h1) (fun j hj=>?_) (fun j hj=>?_) oM oM
     ·rw[sG oM];by_cases e:j=k
      ·rw[if_pos e,e,ek]
      ·rw[if_neg e];exact h2 j oM
     ·rw[sG oM,if_neg oM];exact h3 j oM
    | false =>
     rw[ho2,cF]at ek;rw[if_neg sM];refine ih (k+1) d h1 (fun j hj=>?_) (fun j hj=>h3 j oM) oM oM;by_cases e:j=k
     ·rw[e,ek];exact h3 k (aw _)
     ·exact h2 j oM
   ·rw[if_neg oM];have:d=B14 p.batteries.length (B0f p s t):=B2D 0 h1 fun j hj=>h2 j oM;rw[this];rfl
 exact key F 0 s.left k2 (fun j hj=>by omega) (fun j _=>rfl) oM oM
theorem D1A {F:Nat} {l:List Int} (hl:l.length<F∧l.length<9223372036854775808) (v:Int):D0F F l v=some (l.any fun e=>decide (v=e)):=by
 have key:∀ (n k:Nat),l.length<n+k→k≤l.length→C9k F l v (fun _=>some false) n k=some ((l.drop k).any fun e=>decide (v=e)):=fun n=>by
  induction n with
  | zero=>intro k h;omega
  | succ n ih =>
   intro k h h2;rw[C9k];by_cases hk:k<l.length
   ·rw[if_pos oM,H3 hk,oS,S0 oM,ih (k+1) oM oM,lD hk,bd];by_cases hc:l[k]=v
    ·rw[if_pos hc,dT hc.symm];rfl
    ·rw[if_neg hc,dF (Ne.symm hc)];rfl
   ·rw[if_neg oM,lL oM];rfl
 rw[D0F,show(0:Int)=((0:Nat):Int)from rfl,key F 0 oM oM,aB]
theorem D1u {F:Nat} {s:H2} (hl:s.go.length<F∧s.go.length<9223372036854775808):C70 F s=some (s.go.any fun e=>false==e):=by
 have key:∀ (n k:Nat),s.go.length<n+k→k≤s.go.length→C77 F s (fun _=>some false) n k=some ((s.go.drop k).any fun e=>false==e):=fun n=>by
  induction n with
  | zero=>intro k h;omega
  | succ n ih =>
   intro k h h2;rw[C77];by_cases hk:k<s.go.length
   ·rw[if_pos oM,H3 hk,oS,S0 oM,ih (k+1) oM oM,lD hk,bd];cases s.go[k]<;>rfl
   ·rw[if_neg oM,lL oM];rfl
 rw[C70,show(0:Int)=((0:Nat):Int)from rfl,key F 0 oM oM,aB]
theorem D2C {F:Nat} {p:D4} {s:H2} (hF:100<F) (ho:A5Y p) (hs:CF p s) (x:E0) {α:Type} (A B:Option α):(if x.poll=true then((C70 F s).bind fun rv=>if rv=true then A else B)else B)=bif A4N x s then B else A:=by
 have:=ho.s8;have:=hs.lg;rw[D1u oM,oS];unfold A4N;cases x.poll
 ·rfl
 ·rw[if_pos rfl];cases s.go.any (fun e=>false==e)<;>rfl
theorem D1m {F:Nat} {p:D4} {s:H2} {k:Nat} {x:E0} (hF:100<F) (ho:A5Y p) (hs:CF p s) (hx:B0B p k x) {others:List Int} (hl:others.length<F∧others.length<9223372036854775808):D0l F x s others=some (!A1Y x s others):=by
 have hu:=B0F hx.ua hx.us;have hb:=ho.b6;rw[D0l];have:=A4H (g:=C8g F x s others fun _=>some false) (f:=fun j=>decide (0<s.left.getD (x.use_.getD j 0).toNat 0)&&(s.on_.getD (x.use_.getD j 0).toNat false||others.any fun e=>decide (x.use_.getD j 0=e))) (len:=x.use_.length) (c:=some false) (fl:=some true) (fun n j hj=>?_) (fun n=>by rw[C8g,if_neg oM]) F 0 oM oM
 ·refine this.trans ?_;rw[aP,A93 x.use_ 0 (fun b=>decide (0<s.left.getD b.toNat 0)&&(s.on_.getD b.toNat false||others.any fun e=>decide (b=e)))];show(bif A1Y x s others then _ else _)=_;cases A1Y x s others<;>rfl
 ·obtain⟨h1,h2⟩:=B1s hs hx hj;have hd:=hx.us _ (aj hj);have hp:=(hs.l x.use_[j].toNat oM).1;rw[C8g,if_pos oM,H3 hj,oS,show P3 s.left x.use_[j]=_ from h1,oS,show P3 s.on_ x.use_[j]=_ from h2,oS,D1A hl,oS,S0 oM,J6 0 hj];by_cases hz:s.left.getD x.use_[j].toNat 0=0
  ·rw[if_pos hz,dF oM];rfl
  ·rw[if_neg hz,dT oM];cases s.on_.getD x.use_[j].toNat false<;>cases(others.any fun e=>decide (x.use_[j]=e))<;>rfl
def C9y (o:Option (H2 × Int × H2)) (s:H2) (r:Except Int H2):Prop :=
 ∃ x e m,o=some (x,e,m)∧(m.begun.length=s.begun.length∧m.ended.length=s.ended.length∧m.go.length=s.go.length∧m.left.length=s.left.length∧m.on_.length=s.on_.length) ∧
  match r with
  | .ok s'=>e=0∧s'={x with begun:=m.begun,ended:=m.ended,go:=m.go,left:=m.left,on_:=m.on_}
  | .error w=>e=w∧w≠0
theorem C9y.err {s x:H2} {w:Int} (h:w≠0):C9y (some (x,w,s)) s (.error w):=⟨_,_,_,rfl,⟨rfl,rfl,rfl,rfl,rfl⟩,rfl,h⟩
theorem C9y.bif {b:Bool} {A B:Option (H2 × Int × H2)} {s:H2} {r q:Except Int H2} (h1:b=true→C9y A s r) (h2:b=false→C9y B s q):C9y (bif b then A else B) s (bif b then r else q):=by
 cases b with
 | true=>exact h1 rfl
 | false=>exact h2 rfl
theorem D2g {F:Nat} {p:D4} {s:H2} (hF:100<F) (ho:A5Y p) (hs:CF p s) {i:Nat} (hi:i<p.steps.length):C9y (C9r F p s i) s (B0G p s i s.now):=by
 have hx:=ho.t i hi;have k1:=hs.lb;have k2:=ho.t16;have k3:=ho.b6;have k4:=hs.le;have hbi:=hs.b i hi;have hn:=B0F hx.na hx.nd;have hon:=B0F hx.oa hx.on;rw[J6 default hi]at hx hn hon;rw[J6 0 oM]at hbi;rw[C9r,H3 hi,oS,H3 (by omega:i<s.begun.length),oS];unfold B0G;rw[J6 default hi,J6 0 (by omega:i<s.begun.length)];by_cases hb:s.begun[i]'oM = -1
 ·rw[if_pos hb,dT (by omega:s.begun[i]'oM<0),cT];have hrest:C9y (if s.held=true then(some (s,183,s))else(if p.steps[i].poll=true then((C70 F s).bind fun rv=>if rv=true then(some (s,184,s))else(C6y F s i p.steps[i]))else(C6y F s i p.steps[i]))) s (bif !s.held then
    bif A4N p.steps[i] s then
     bif A1Y p.steps[i] s p.steps[i].on_ then
      .ok {s with begun:=s.begun.set i s.now,on_:=onL p.steps[i].on_ true s.on_}
     else .error 185
    else .error 184
   else .error 183):=by
   rw[D2C hF ho hs];rw[show ∀ {α:Type} (b:Bool) (A B:α),(if b=true then A else B)=bif !b then B else A from fun b A B=>by cases b<;>rfl];refine C9y.bif (fun _=>?_) fun _ => .err dM
   ·refine C9y.bif (fun _=>?_) fun _ => .err dM;rw[C6y,D1m hF ho hs hx oM,oS,D00];refine C9y.bif (fun _=>?_) fun _ => .err dM;have hq:C6z F p.steps[i] (fun rv3 _=>some ({s with begun:=s.begun.set i s.now,on_:=rv3},(0:Int),{s with begun:=s.begun.set i s.now,on_:=rv3})) F s.on_ 0=some ({s with begun:=s.begun.set i s.now,on_:=onL p.steps[i].on_ true s.on_},0,{s with begun:=s.begun.set i s.now,on_:=onL p.steps[i].on_ true s.on_}):=by
     refine(A5I (g:=C6z F p.steps[i] (fun rv3 _=>some ({s with begun:=s.begun.set i s.now,on_:=rv3},(0:Int),{s with begun:=s.begun.set i s.now,on_:=rv3}))) (f:=fun o j=>o.set (p.steps[i].on_.getD j 0).toNat true) (len:=p.steps[i].on_.length) (c:=fun t2=>some ({s with begun:=s.begun.set i s.now,on_:=t2},(0:Int),{s with begun:=s.begun.set i s.now,on_:=t2})) (fun o _=>o.length=p.batteries.length) (fun o k _ h=>by rw[aX];exact h) (fun n o k hk h=>?_) (fun n o h=>by rw[C6z,if_neg oM]) F s.on_ 0 hs.lo oM oM).trans ?_
     ·obtain⟨q,hq⟩:=B9y h (hx.on _ (aj hk));rw[C6z,if_pos oM,H3 hk,oS,hq,oS,J6 0 hk,S0 oM];rfl
     ·rw[aP,B2c]
    show C9y (C6z F p.steps[i] (fun rv3 _=>some ({s with begun:=s.begun.set i s.now,on_:=rv3},(0:Int),{s with begun:=s.begun.set i s.now,on_:=rv3})) F s.on_ 0) _ _;rw[hq];exact⟨_,_,_,rfl,⟨aX ..,rfl,rfl,rfl,B5M _ _ _⟩,rfl,rfl⟩
  have:=A4H (g:=C76 F s p.steps[i] fun _=>if s.held=true then(some (s,183,s))else(if p.steps[i].poll=true then((C70 F s).bind fun rv=>if rv=true then(some (s,184,s))else(C6y F s i p.steps[i]))else(C6y F s i p.steps[i])))
   (f:=fun j=>A6e s (p.steps[i].need.getD j 0).toNat) (len:=p.steps[i].need.length) (fl:=some (s,182,s)) (fun n j hj=>?_) (fun n=>by rw[C76,if_neg oM]) F 0 oM oM
  ·refine this.symm▸?_;rw[aP,A93 p.steps[i].need 0 (fun n=>A6e s n.toNat)];exact C9y.bif (fun _=>hrest) fun _ => .err dM
  ·have hd:=hx.nd _ (aj hj);have hen:=hs.e p.steps[i].need[j].toNat oM;have e1:p.steps[i].need[j]=((p.steps[i].need[j].toNat:Nat):Int):=by omega
   rw[C76,if_pos oM,H3 hj,oS,J6 0 hj,S0 oM];rw[show P3 s.ended p.steps[i].need[j]=some (s.ended.getD p.steps[i].need[j].toNat 0) by rw[e1,H3 (by omega:p.steps[i].need[j].toNat<s.ended.length),← e1,J6 0 oM],oS];unfold A6e;by_cases hz:s.ended.getD p.steps[i].need[j].toNat 0 = -1
   ·rw[if_pos hz,dF oM];rfl
   ·rw[if_neg hz,dT oM];rfl
 ·rw[if_neg hb,dF (by omega:¬ s.begun[i]'oM<0)];exact .err dM
theorem D30 {p:D4} {s s2:H2} {a:D2} (h:A8L p s a = .ok s2):s2=B3q s (DoP (A1w p) (B1c s) a).1∧(DoP (A1w p) (B1c s) a).2=0:=by
 unfold A8L at h;cases hd:decide ((DoP (A1w p) (B1c s) a).2=0)with
 | false=>rw[hd]at h;cases h
 | true=>rw[hd,cT]at h;injection h with h;exact⟨h.symm,of_decide_eq_true hd⟩
theorem D3z {p:D4} {s:H2} {a:D2} {w:Int} (h:A8L p s a = .error w):w=(DoP (A1w p) (B1c s) a).2∧w≠0:=by
 unfold A8L at h;cases hd:decide ((DoP (A1w p) (B1c s) a).2=0)with
 | true=>rw[hd]at h;cases h
 | false=>rw[hd,cF]at h;injection h with h;subst h;exact⟨rfl,of_decide_eq_false hd⟩
abbrev D2r (F:Nat) (p:D4) (o:H2) (x:E0) (K:C3→Option (H2 × Int × H2)) (n:Nat) (d:C3) (k:Int):Option (H2 × Int × H2):=C9e F p o x (fun a b c d e f _=>K (C3.mk a b c d e f)) n d.now d.zones d.holder d.squibs d.siren d.storm k
theorem D2K (F:Nat) (p:D4) (o:H2) (x:E0) (K:C3→Option (H2 × Int × H2)) (n:Nat) (d:C3) (k:Int):D2r F p o x K (n+1) d k=if k<(x.acts.length:Int)then((P3 x.acts k).bind fun e5=>(D0o F (A1w p) d {e5 with at_:=o.now}).bind fun rv11=>if rv11.2=0 then D2r F p o x K n rv11.1 (W (k+1))else(some (B3q o d,rv11.2,o)))else K d:=rfl
theorem D04 {F:Nat} {p:D4} (hf:CtF F p) {o:H2} {x:E0} (hx:x.acts.length≤8) {K:C3→Option (H2 × Int × H2)}:∀ (n k:Nat) (d:C3),PdK p (B3q o d)→x.acts.length<n+k→k≤x.acts.length →
  (∃ d',A8v p o.now (x.acts.drop k) (B3q o d) = .ok (B3q o d')∧D2r F p o x K n d k=K d')∨(∃ w y,A8v p o.now (x.acts.drop k) (B3q o d) = .error w∧w≠0∧D2r F p o x K n d k=some (y,w,o))
 | 0,k,d,_,h,h2=>absurd h oM
 | n+1,k,d,hd,h,h2=>by
  rw[D2K];by_cases hk:k<x.acts.length
  ·rw[if_pos oM,H3 hk,oS,lD hk,S0 oM,D1g hf.pd (s:=d) (hd F hf.pd),oS];rw[show A8v p o.now (x.acts[k]::x.acts.drop (k+1)) (B3q o d)=(match A8L p (B3q o d) {x.acts[k]with at_:=o.now}with | .ok s'=>A8v p o.now (x.acts.drop (k+1)) s' | .error e => .error e)from rfl];cases ha:A8L p (B3q o d) {x.acts[k]with at_:=o.now}with
   | error w =>
    obtain⟨e1,e2⟩:=D3z ha;have e1:w=(DoP (A1w p) d {x.acts[k]with at_:=o.now}).2:=e1;refine .inr ⟨w,B3q o d,rfl,e2,?_⟩;rw[← e1,if_neg e2]
   | ok s' =>
    obtain⟨e1,e2⟩:=D30 ha;have e2:(DoP (A1w p) d {x.acts[k]with at_:=o.now}).2=0:=e2;subst e1;rw[if_pos e2];exact D04 hf hx n (k+1) (DoP (A1w p) d {x.acts[k]with at_:=o.now}).1 (B24 hd ha) oM oM
  ·rw[if_neg oM,lL oM];exact .inl ⟨d,rfl,rfl⟩
theorem D2Q {F:Nat} {p:D4} {s:H2} (hF:100<F) (hf:CtF F p) (ho:A5Y p) (hs:CF p s) {i:Nat} (hi:i<p.steps.length):C9y (D0e F p s i) s (B7v p s i s.now):=by
 have hx:=ho.t i hi;have k1:=hs.lb;have k2:=ho.t16;have k3:=ho.b6;have k4:=hs.le;have t1:=ho.t1;have hn:=hs.now;have hbi:=hs.b i hi;have hei:=hs.e i hi;have hfn:=B0F hx.fa hx.off;rw[J6 default hi]at hx hfn;rw[J6 0 oM]at hbi hei;rw[D0e,H3 hi,oS,H3 (by omega:i<s.begun.length),oS,H3 (by omega:i<s.ended.length),oS];unfold B7v B2o A6e;rw[J6 default hi,J6 0 (by omega:i<s.begun.length),J6 0 (by omega:i<s.ended.length)];by_cases hb:s.begun[i]'oM = -1
 ·rw[if_pos hb,dF (by omega:¬ 0≤s.begun[i]'oM)];exact .err dM
 rw[if_neg hb,dT (by omega:0≤s.begun[i]'oM),bf];by_cases he:s.ended[i]'oM = -1
 ·rw[if_pos he,dF (by omega:¬ 0≤s.ended[i]'oM),cU,cT];rw[C9x,H3 (by omega:i<s.begun.length),oS,A8K (x:=s.now-s.begun[i]'oM) oM oM,C7L,oS,D2C hF ho hs,A4e,A0q];refine C9y.bif (fun _=>?_) fun _ => .err dM;refine C9y.bif (fun _=>?_) fun _ => .err dM;rw[C9d,D1m (others:=[]) hF ho hs hx ⟨by simp;omega,by simp⟩,oS,D00,C7L,oS,B23 t1 oM];refine C9y.bif (fun _=>?_) fun _ => .err dM;have hJ:C9y (C8B F p s i p.steps[i]) s (match A8v p s.now p.steps[i].acts s with | .ok s' => .ok {s' with ended:=s'.ended.set i s.now,on_:=onL p.steps[i].off false s'.on_} | .error e => .error e):=by
   rw[show C8B F p s i p.steps[i]=D2r F p s p.steps[i] (fun d=>(P3 s.ended (i:Int)).bind fun e6=>(A5g s.ended (i:Int) s.now).bind fun q=>C6B F p.steps[i] (fun(rv12:(List Bool)) (x2:Int)=>some ((H2.mk s.now d.now d.zones d.holder d.squibs d.siren d.storm s.begun q s.held s.go s.left rv12),0,{s with ended:=q,on_:=rv12})) F s.on_ 0) F (B1c s) 0 from rfl];have hl:=D04 (F:=F) (o:=s) (K:=fun d=>(P3 s.ended (i:Int)).bind fun e6=>(A5g s.ended (i:Int) s.now).bind fun q=>C6B F p.steps[i] (fun(rv12:(List Bool)) (x2:Int)=>some ((H2.mk s.now d.now d.zones d.holder d.squibs d.siren d.storm s.begun q s.held s.go s.left rv12),0,{s with ended:=q,on_:=rv12})) F s.on_ 0) hf hx.a F 0 (B1c s) hs.pd (by have:=hx.a;omega) oM;rw[aB]at hl;rcases hl with⟨d,h1,h2⟩ | ⟨w,y,h1,h2,h3⟩
   ·change D2r F p s p.steps[i] _ F (B1c s) 0=_ at h2;rw[h2,show A8v p s.now p.steps[i].acts s = .ok (B3q s d)from h1,H3 (by omega:i<s.ended.length),oS];show C9y (C6B F p.steps[i] (fun rv12 _=>some ((H2.mk s.now d.now d.zones d.holder d.squibs d.siren d.storm s.begun (s.ended.set i s.now) s.held s.go s.left rv12),(0:Int),{s with ended:=s.ended.set i s.now,on_:=rv12})) F s.on_ 0) _ _;have hq:C6B F p.steps[i] (fun rv12 _=>some ((H2.mk s.now d.now d.zones d.holder d.squibs d.siren d.storm s.begun (s.ended.set i s.now) s.held s.go s.left rv12),(0:Int),{s with ended:=s.ended.set i s.now,on_:=rv12})) F s.on_ 0=some ((H2.mk s.now d.now d.zones d.holder d.squibs d.siren d.storm s.begun (s.ended.set i s.now) s.held s.go s.left (onL p.steps[i].off false s.on_)),(0:Int),{s with ended:=s.ended.set i s.now,on_:=onL p.steps[i].off false s.on_}):=by
     refine(A5I (g:=C6B F p.steps[i] (fun rv12 _=>some ((H2.mk s.now d.now d.zones d.holder d.squibs d.siren d.storm s.begun (s.ended.set i s.now) s.held s.go s.left rv12),(0:Int),{s with ended:=s.ended.set i s.now,on_:=rv12}))) (f:=fun o j=>o.set (p.steps[i].off.getD j 0).toNat false) (len:=p.steps[i].off.length) (c:=fun rv12=>some ((H2.mk s.now d.now d.zones d.holder d.squibs d.siren d.storm s.begun (s.ended.set i s.now) s.held s.go s.left rv12),(0:Int),{s with ended:=s.ended.set i s.now,on_:=rv12})) (fun o _=>o.length=p.batteries.length) (fun o k _ h=>by rw[aX];exact h) (fun n o k hk h=>?_) (fun n o h=>by rw[C6B,if_neg oM]) F s.on_ 0 hs.lo oM oM).trans ?_
     ·obtain⟨q,hq⟩:=B9y h (hx.off _ (aj hk));rw[C6B,if_pos oM,H3 hk,oS,hq,oS,J6 0 hk,S0 oM];rfl
     ·rw[aP,B2c]
    rw[hq];exact⟨_,_,_,rfl,⟨rfl,aX ..,rfl,rfl,B5M _ _ _⟩,rfl,rfl⟩
   ·change D2r F p s p.steps[i] _ F (B1c s) 0=_ at h3;rw[h3,show A8v p s.now p.steps[i].acts s = .error w from h1];exact .err h2
  by_cases hl:i=p.steps.length-1
  ·rw[if_pos oM,dF (by omega:¬ i<p.steps.length-1),bu,A4e,A0q];exact C9y.bif (fun _=>hJ) fun _ => .err dM
  ·rw[if_neg oM,dT (by omega:i<p.steps.length-1)];exact hJ
 ·rw[if_neg he,dT (by omega:0≤s.ended[i]'oM)];exact .err dM
def C9T (o:Option (H2 × Int)) (r:Except Int H2):Prop :=
 ∃ x,o=some x∧match r with
  | .ok s'=>x=(s',0)
  | .error w=>x.2=w∧w≠0
theorem C9T.ok {s:H2}:C9T (some (s,0)) (.ok s):=⟨_,rfl,rfl⟩
theorem C9T.err {s:H2} {w:Int} (h:w≠0):C9T (some (s,w)) (.error w):=⟨_,rfl,rfl,h⟩
theorem C9T.bif {b:Bool} {A B:Option (H2 × Int)} {r q:Except Int H2} (h1:b=true→C9T A r) (h2:b=false→C9T B q):C9T (bif b then A else B) (bif b then r else q):=by
 cases b with
 | true=>exact h1 rfl
 | false=>exact h2 rfl
theorem C4B {a b:Nat} (h:a=b):lnO a b=some ():=by unfold lnO;rw[if_pos h]
theorem C9y.fin {o:Option (H2 × Int × H2)} {s:H2} {r:Except Int H2} (h:C9y o s r):C9T (Option.bind o fun rv3=>(lnO rv3.2.2.begun.length s.begun.length).bind fun u=>(lnO rv3.2.2.ended.length s.ended.length).bind fun u2=>(lnO rv3.2.2.go.length s.go.length).bind fun u3=>(lnO rv3.2.2.left.length s.left.length).bind fun u4=>(lnO rv3.2.2.on_.length s.on_.length).bind fun u5=>some ({rv3.1 with begun:=rv3.2.2.begun,ended:=rv3.2.2.ended,go:=rv3.2.2.go,left:=rv3.2.2.left,on_:=rv3.2.2.on_},rv3.2.1)) r:=by
 obtain⟨x,e,m,rfl,⟨h1,h2,h3,h4,h5⟩,hr⟩:=h;rw[oS,C4B h1,oS,C4B h2,oS,C4B h3,oS,C4B h4,oS,C4B h5,oS];cases r with
 | ok s'=>obtain⟨rfl,rfl⟩:=hr;exact .ok
 | error w=>obtain⟨rfl,hw⟩:=hr;exact .err hw
theorem D1z {F:Nat} {p:D4} {s:H2} (hF:100<F) (hf:CtF F p) (ho:A5Y p) (hs:CF p s) {i:Nat} (hi:i<p.points.length):C9T ((C8O F p s i).bind fun rv5=>(lnO rv5.2.2.begun.length s.begun.length).bind fun u11=>(lnO rv5.2.2.ended.length s.ended.length).bind fun u12=>some ({rv5.1 with begun:=rv5.2.2.begun,ended:=rv5.2.2.ended},rv5.2.1)) (B9i p s i):=by
 have k1:=hs.lb;have k2:=hs.le;have k16:=ho.t16;have k3:=hs.lg;have k4:=hs.lo;have k5:=ho.s8;have k6:=ho.b6;have hp:=ho.pt i hi;have hq:=(hs.pd F hf.pd).q;rw[J6 0 hi]at hp;obtain⟨m,hm⟩:∃ m:Nat,p.points[i]=m:=⟨p.points[i].toNat,by omega⟩;have hm':m<p.steps.length:=by omega
 have hbm:=hs.b m hm';rw[J6 0 oM]at hbm;rw[C8O,H3 hi,oS,hm,H3 (by omega:m<s.begun.length),oS];unfold B9i;rw[J6 0 hi,hm,show(m:Int).toNat=m by omega,J6 0 (by omega:m<s.begun.length)];by_cases hb:s.begun[m]'oM = -1
 ·rw[if_pos hb,dF (by omega:¬ 0≤s.begun[m]'oM),oS,C4B rfl,oS,C4B rfl,oS];exact .err (show(181:Int)≠0 by decide)
 rw[if_neg hb,dT (by omega:0≤s.begun[m]'oM),cT,D1A (l:=s.J3) (by have:s.J3.length<F∧s.J3.length≤17592186044416:=hq;omega),oS];cases s.J3.any (fun e=>decide ((1:Int)=e))with
 | true =>
  rw[if_pos rfl,oS,C4B rfl,oS,C4B rfl,oS];exact .err (show(188:Int)≠0 by decide)
 | false =>
  rw[if_neg sM,cU,cT];have key:∀ (n k:Nat) (a b:List Int),m≤k→a.length=p.steps.length→b.length=p.steps.length→(∀ j,a.getD j 0=if m≤j∧j<k then -1 else s.begun.getD j 0)→(∀ j,b.getD j 0=if m≤j∧j<k then -1 else s.ended.getD j 0)→p.steps.length<n+k→k≤p.steps.length →
   C7p F (fun(s2:(List Int)) (s3:(List Int)) (i:Int)=>(B1D (s.go.length:Int)).bind fun q=>(B1D (s.on_.length:Int)).bind fun q2=>some ({s with begun:=s2,ended:=s3,held:=true,go:=(ak q false),on_:=(ak q2 false)},0,{s with begun:=s2,ended:=s3})) n a b k
    = some ({s with begun:=A6r p s.begun m,ended:=A6r p s.ended m,held:=true,go:=ak s.go.length false,on_:=ak s.on_.length false},0,{s with begun:=A6r p s.begun m,ended:=A6r p s.ended m}):=fun n=>by
   induction n with
   | zero=>intro k a b _ _ _ _ _ h;omega
   | succ n ih =>
    intro k a b hmk ha hb h1 h2 h h';rw[C7p];by_cases hk:k<p.steps.length
    ·rw[if_pos oM,H3 (by omega:k<a.length),oS,H3 (by omega:k<b.length),S0 oM];unfold A5g;rw[oS,oS,oS,show(k:Int).toNat=k by omega];refine ih (k+1) _ _ oM (by rw[aX];exact ha) (by rw[aX];exact hb) (fun j=>?_) (fun j=>?_) oM oM
     ·rw[sG oM,h1 j];by_cases e1:j=k
      ·rw[if_pos e1];by_cases e2:m≤j
       ·rw[if_pos oM]
       ·omega
      ·rw[if_neg e1];by_cases e2:m≤j∧j<k
       ·rw[if_pos e2,if_pos oM]
       ·rw[if_neg e2,if_neg oM]
     ·rw[sG oM,h2 j];by_cases e1:j=k
      ·rw[if_pos e1];by_cases e2:m≤j
       ·rw[if_pos oM]
       ·omega
      ·rw[if_neg e1];by_cases e2:m≤j∧j<k
       ·rw[if_pos e2,if_pos oM]
       ·rw[if_neg e2,if_neg oM]
    ·rw[if_neg oM,B0U oM,oS,B0U oM,oS];have ea:a=A6r p s.begun m:=B2D 0 ha fun j hj=>by
      rw[h1 j];by_cases e2:m≤j
      ·rw[if_pos oM,if_pos e2]
      ·rw[if_neg oM,if_neg e2]
     have eb:b=A6r p s.ended m:=B2D 0 hb fun j hj=>by
      rw[h2 j];by_cases e2:m≤j
      ·rw[if_pos oM,if_pos e2]
      ·rw[if_neg oM,if_neg e2]
     rw[ea,eb]
  rw[key F m s.begun s.ended (aw _) k1 k2 (fun j=>by rw[if_neg oM]) (fun j=>by rw[if_neg oM]) oM oM,oS,C4B (by show(A6r p s.begun m).length=_;unfold A6r;rw[B15,k1]),oS,C4B (by show(A6r p s.ended m).length=_;unfold A6r;rw[B15,k2]),oS];exact .ok
theorem D1p {F:Nat} {p:D4} {s:H2} (ho:A5Y p) (hs:CF p s):C9f F s=some (A6e s (p.steps.length-1)):=by
 have t1:=ho.t1;have t16:=ho.t16;have k:=hs.le;have he:=hs.e (p.steps.length-1) oM;rw[C9f,k,B23 oM oM,H3 (by omega:p.steps.length-1<s.ended.length),oS,A6e];rw[J6 0 oM]at he ⊢;by_cases h:s.ended[p.steps.length-1]'oM = -1
 ·rw[dT h,dF oM];rfl
 ·rw[dF h,dT oM];rfl
theorem D2B {F:Nat} {s:H2} (e:C7):C9T (C9E F e s) (B5G s e.kind):=by
 rw[C9E];unfold B5G C8s;cases h1:s.held<;>cases h2:decide (e.kind=3)<;>first | exact .err dM | exact .ok
theorem D3S {F:Nat} {p:D4} {s:H2} (hs:CF p s) {i:Nat} (hi:i<p.stations.length) {e:C7} (he:e.what=i) (hk:e.kind=5∨e.kind=6):C9T (C9D F e s) (B9m s e.kind i):=by
 have k1:=hs.lg;have h6:decide (e.kind=6)=!decide (e.kind=5):=by rcases hk with h | h<;>rw[h]<;>rfl
 rw[C9D,he,H3 (by omega:i<s.go.length),oS,h6];unfold B9m C8s;rw[J6 false (by omega:i<s.go.length)];cases h1:s.go[i]'oM<;>cases h2:decide (e.kind=5)<;>first | exact .err dM | (cases h3:s.held<;>exact .ok)
theorem D3R {F:Nat} {p:D4} {s:H2} (hf:CtF F p) (hs:CF p s) (e:C7):C9T ((D0o F (A1w p) (B1c s) (A8M e)).bind fun rv6=>if rv6.2=0 then(D05 F s rv6)else(some (s,rv6.2))) (A8L p s (A8M e)):=by
 rw[D1g hf.pd (hs.pd F hf.pd),oS,A4e];exact C9T.bif (fun _ => .ok) fun h => .err (of_decide_eq_false h)
theorem D2P {F:Nat} {p:D4} {s:H2} (hs:CF p s) {i:Nat} (hi:i<p.batteries.length):C9T ((P3 s.on_ (i:Int)).bind fun e=>if e=true then(some (s,181))else((P3 p.batteries (i:Int)).bind fun e2=>(P3 s.left (i:Int)).bind fun e3=>(A5g s.left (i:Int) e2.charge).bind fun q=>C8s F s s.held s.go q)) (B0v p s i):=by
 have k1:=hs.lo;have k2:=hs.ll;rw[H3 (by omega:i<s.on_.length),oS,H3 hi,oS,H3 (by omega:i<s.left.length),oS];unfold B0v;rw[J6 false (by omega:i<s.on_.length),J6 default hi];cases s.on_[i]'oM
 ·exact .ok
 ·exact .err dM
theorem D3k {F:Nat} {p:D4} {s:H2} (hf:CtF F p) (ho:A5Y p) (hs:CF p s) (hm:FmC p s) {e:C7} (he:B18 p e):C9T (D2i F p s e) (doC p s e):=by
 have hF:=hf.pd.f;rw[D2i];unfold doC;by_cases ht:s.now≤e.at_
 ·rw[if_neg oM,dT ht,cT,D1p ho hs,oS];rw[show ∀ {α:Type} (b:Bool) (A B:α),(if b=true then A else B)=bif !b then B else A from fun b A B=>by cases b<;>rfl];refine C9T.bif (fun _=>?_) fun _ => .err dM;have hs2:=B5P ho hs ⟨ht,he.t.2⟩;rw[D2l hF ho hs hm ⟨ht,he.t.2⟩,oS];have hw:A3r e.kind=false→∃ i:Nat,e.what=i∧i<A20 p e.kind:=fun hn=>by
   have:=he.w hn;exact⟨e.what.toNat,by omega,by omega⟩
  have hk:=he.k;unfold B3L;by_cases h1:e.kind=1
  ·rw[if_pos h1,if_pos h1];obtain⟨i,hi,hi2⟩:=hw (by rw[h1];rfl)
   have hi3:i<p.steps.length:=by have:A20 p e.kind=p.steps.length:=by rw[h1];rfl
                                 omega
   rw[hi];exact C9y.fin (D2g hF ho hs2 hi3)
  rw[if_neg h1,if_neg h1];by_cases h2:e.kind=2
  ·rw[if_pos h2,if_pos h2];obtain⟨i,hi,hi2⟩:=hw (by rw[h2];rfl)
   have hi3:i<p.steps.length:=by have:A20 p e.kind=p.steps.length:=by rw[h2];rfl
                                 omega
   rw[hi];exact C9y.fin (D2Q hF hf ho hs2 hi3)
  rw[if_neg h2,if_neg h2];by_cases h3:e.kind=3
  ·rw[if_pos h3,if_pos (.inl h3)];exact D2B e
  rw[if_neg h3];by_cases h4:e.kind=4
  ·rw[if_pos h4,if_pos (.inr h4)];exact D2B e
  rw[if_neg h4,if_neg (by omega:¬ (e.kind=3∨e.kind=4))];by_cases h5:e.kind=5∨e.kind=6
  ·obtain⟨i,hi,hi2⟩:=hw (by rcases h5 with h | h<;>rw[h]<;>rfl)
   have hi3:i<p.stations.length:=by have:A20 p e.kind=p.stations.length:=by rcases h5 with h | h<;>rw[h]<;>rfl
                                    omega
   have:=D3S (F:=F) hs2 hi3 hi h5;rw[if_pos h5,show e.what.toNat=i by omega];rcases h5 with h | h
   ·rw[if_pos h];exact this
   ·rw[if_neg oM,if_pos h];exact this
  rw[if_neg h5,if_neg oM,if_neg oM];by_cases h7:e.kind=7
  ·rw[if_pos h7,if_pos h7];obtain⟨i,hi,hi2⟩:=hw (by rw[h7];rfl)
   have hi3:i<p.points.length:=by have:A20 p e.kind=p.points.length:=by rw[h7];rfl
                                  omega
   rw[hi];exact D1z hF hf ho hs2 hi3
  rw[if_neg h7,if_neg h7];by_cases h8:e.kind=8
  ·rw[if_pos h8,if_pos h8];exact D3R hf hs2 e
  rw[if_neg h8,if_neg h8,if_pos oM];obtain⟨i,hi,hi2⟩:=hw (by rw[show e.kind=9 by omega];rfl)
  have hi3:i<p.batteries.length:=by have:A20 p e.kind=p.batteries.length:=by rw[show e.kind=9 by omega];rfl
                                    omega
  rw[hi];exact D2P hs2 hi3
 ·rw[if_pos oM,dF ht];exact .err dM
theorem D3n {F:Nat} {p:D4} (hf:CtF F p) (ho:A5Y p) {l:List C7} (hl:l.length≤100) (he:∀ e∈l,B18 p e) {K:H2→List Int→Option (H2 × List Int × Int)}:∀ (n k:Nat) (x:H2 × List Int),CF p x.1→FmC p x.1→x.2.length=k→l.length<n+k→k≤l.length →
  C8e F p l (fun a w _=>K a w) n x.1 x.2 k=K (A3F p x (l.drop k)).1 (A3F p x (l.drop k)).2
 | 0,k,x,_,_,_,h,h2=>absurd h oM
 | n+1,k,x,hs,hm,hx,h,h2=>by
  rw[C8e];by_cases hk:k<l.length
  ·have hev:=he _ (aj hk);obtain⟨c1,c2⟩:=B43 (x:=x) ho hs hev;have c3:FmC p (A7y p x l[k]).1:=by
    unfold A7y;cases hd:doC p x.1 l[k]with
    | ok s=>exact D4d hm hd
    | error w=>exact hm
   have ih:=D3n hf ho hl he (K:=K) n (k+1) (A7y p x l[k]) c1 c3 oM oM oM;obtain⟨y,hy,hr⟩:=D3k hf ho hs hm hev;rw[if_pos oM,H3 hk,oS,hy,oS,lD hk,show A3F p x (l[k]::l.drop (k+1))=A3F p (A7y p x l[k]) (l.drop (k+1))from rfl,← ih];unfold A7y C9q;rw[A8O oM,oS,S0 oM];cases hd:doC p x.1 l[k]with
   | ok s=>rw[hd]at hr;subst hr;rw[if_pos rfl]
   | error w=>rw[hd]at hr;obtain⟨rfl,hw⟩:=hr;rw[if_neg hw];rfl
  ·rw[if_neg oM,lL oM];rfl
theorem D3m {F:Nat} {p:D4} (hf:CtF F p) (ho:A5Y p) {l:List C7} (hl:l.length≤100) {K:Int→Option (H2 × List Int × Int)}:∀ (n k:Nat),l.length<n+k→k≤l.length →
  C8f F p l (fun r _=>K r) n 0 k=K (A8k p (l.drop k))
 | 0,k,h,h2=>absurd h oM
 | n+1,k,h,h2=>by
  rw[C8f];by_cases hk:k<l.length
  ·rw[if_pos oM,if_pos rfl,H3 hk,oS,D2j hf ho,oS,S0 oM,lD hk,A8k];by_cases h0:A5H p l[k]=0
   ·rw[h0,D3m hf ho hl n (k+1) oM oM];rfl
   ·rw[dF h0,cF];obtain⟨m,rfl⟩:∃ m,n=m+1:=⟨n-1,by omega⟩;rw[C8f];split<;>first | rfl | (rw[if_neg h0];rfl) | rw[if_neg h0]
  ·rw[if_neg oM,lL oM];rfl
theorem D2x {F:Nat} {p:D4} (hf:CtF F p) (l:List C7):D03 F p l=some (C1e (A0O p l).1,(A0O p l).2.1,(A0O p l).2.2):=by
 have hF:=hf.pd.f;have hJ:∀ w:Int,w≠0→C8d F p l w=some (B9C,[],w):=fun w hw=>by
  rw[C8d];obtain⟨m,rfl⟩:∃ m,F=m+1:=⟨F-1,by omega⟩;rw[C8f];have:C8y (m+1) p l w=some (B9C,[],w):=by rw[C8y,if_neg hw];rfl
  split<;>first | exact this | (rw[if_neg hw];exact this)
 rw[D03,D2h hf,oS];unfold A0O;by_cases h0:(A35 p).2.2=0
 ·have ho:=A95 h0;rw[if_pos h0,if_pos h0];by_cases h1:100<(l.length:Int)
  ·rw[if_pos h1,if_pos h1];exact hJ 3 dM
  ·rw[if_neg h1,if_neg h1,h0,C8d];refine(D3m (K:=fun x=>C8y F p l x) hf ho oM F 0 oM oM).trans ?_;rw[aB];unfold C8y;by_cases h2:A8k p l=0
   ·rw[if_pos h2,if_pos h2,D2m hf ho,oS];exact(D3n (K:=fun a w=>some (a,w,(0:Int))) hf ho oM (B2F h2) F 0 (A0U p,[]) (B1z ho) (D3s ho) rfl oM oM).trans (by rw[aB];rfl)
   ·rw[if_neg h2,if_neg h2];rfl
 ·rw[if_neg h0,if_neg h0];exact hJ _ h0
theorem D4E {p:D4}:∀ {l:List C7} {x:H2 × List Int},FmC p x.1→FmC p (A3F p x l).1
 | [],x,h=>h
 | e::l,x,h=>D4E (l:=l) (x:=A7y p x e) (by
  unfold A7y;cases hd:doC p x.1 e with
  | ok s=>exact D4d h hd
  | error w=>exact h)
theorem D4K {p:D4} {l:List C7} {s:H2} (h:(A0O p l).1=some s):(A0O p l).2.2=0∧A5Y p∧CF p s∧FmC p s:=by
 obtain⟨h1,ho,hl,he,hr,_,_,_⟩:=A8D h;exact⟨h1,ho,by rw[hr];exact(B3i (x:=(A0U p,[])) ho (B1z ho) he).1,by rw[hr];exact D4E (x:=(A0U p,[])) (D3s ho)⟩
theorem D3L {F:Nat} {p:D4} {k:Nat} {y:List Int} (hk:k<p.steps.length) (hy:y.length=k) (hd:∀ n∈(p.steps.getD k default).need,0≤n∧n<k) (hl:(p.steps.getD k default).need.length≤16) {K:Int→Int→Option (List Int)}:∀ (n j:Nat) (v:Int),(p.steps.getD k default).need.length<n+j→j≤(p.steps.getD k default).need.length →
  D1N F p y k K n v j=K (C0m y ((p.steps.getD k default).need.drop j) v) ((p.steps.getD k default).need.length:Int)
 | 0,j,v,h,h2=>absurd h oM
 | n+1,j,v,h,h2=>by
  rw[D1N,H3 hk,← J6 default hk,oS];by_cases hj:j<(p.steps.getD k default).need.length
  ·have hm:=hd _ (aj hj);have em:(p.steps.getD k default).need[j]=(((p.steps.getD k default).need[j].toNat:Nat):Int):=by omega
   have hx:P3 y (p.steps.getD k default).need[j]=some (y.getD (p.steps.getD k default).need[j].toNat 0):=by
    have:=H3 (show(p.steps.getD k default).need[j].toNat<y.length by omega);rw[← em]at this;rw[this,J6 0 oM]
   rw[if_pos oM,H3 hj,oS,hx,oS,S0 oM,D3L hk hy hd hl n (j+1) _ oM oM,lD hj];rfl
  ·obtain rfl:j=(p.steps.getD k default).need.length:=by omega
   rw[if_neg oM,eD];rfl
theorem D3I {F:Nat} {p:D4} {s:H2} {t:Int} (hF:100<F) (ho:A5Y p) (hs:CF p s) (ht:0≤t∧t≤100000):∀ (n k:Nat),p.steps.length<n+k→k≤p.steps.length →
  C7I F p s t (fun lv _=>some lv) n (B3l p s t k) k=some (B3l p s t p.steps.length)
 | 0,k,h,h2=>absurd h oM
 | n+1,k,h,h2=>by
  have t16:=ho.t16;rw[C7I];by_cases hk:k<p.steps.length
  ·have hx:=ho.t k hk;have hl:=B0F hx.na hx.nd;have hb:=hs.b k hk;have hee:=hs.e k hk;have hn:=hs.now;have hxl:=hx.l;have hxm:=hx.m;have lb:=hs.lb;have le:=hs.le;have hrng:=C1R ho hs ht (k+1) oM k oM;rw[C1p oM]at hrng;have j1:∀ v,v=C1H p s t (B3l p s t k) k→D1M F (C7I F p s t (fun lv _=>some lv) n) (B3l p s t k) k v=some (B3l p s t p.steps.length):=fun v hv=>by
    rw[D1M,A8O (by rw[C1g];omega),oS,S0 oM,hv];exact D3I hF ho hs ht n (k+1) oM oM
   rw[if_pos oM];refine(D3L (K:=fun x2 x3=>(P3 p.steps (k:Int)).bind fun e4=>(P3 s.begun (k:Int)).bind fun e5=>if e5=(-1)then(D0B F (C7I F p s t (fun lv _=>some lv) n) s (B3l p s t k) k (W (x2+e4.least)))else(D0B F (C7I F p s t (fun lv _=>some lv) n) s (B3l p s t k) k (max t (W (e5+e4.least))))) hk (C1g p s t k) hx.nd oM F 0 t oM oM).trans ?_;rw[aB,H3 hk,← J6 default hk,oS,H3 (by omega:k<s.begun.length),← J6 0 oM,oS];have j2:∀ v,(A6e s k=false→v=C1H p s t (B3l p s t k) k)→D0B F (C7I F p s t (fun lv _=>some lv) n) s (B3l p s t k) k v=some (B3l p s t p.steps.length):=fun v hv=>by
    rw[D0B,H3 (by omega:k<s.ended.length),← J6 0 oM,oS];by_cases he:s.ended.getD k 0 = -1
    ·rw[if_pos he];exact j1 _ (hv (by unfold A6e;rw[dF oM]))
    ·rw[if_neg he];refine j1 _ ?_;unfold C1H;rw[show A6e s k=true by unfold A6e;rw[dT oM]];rfl
   by_cases hz:s.begun.getD k 0 = -1
   ·rw[if_pos hz];refine j2 _ fun hd=>?_;have hr:B2o s k=false:=by unfold B2o;rw[dF oM,bO]
    unfold C1H at hrng ⊢;rw[hd,hr]at hrng ⊢;simp only[cF]at hrng ⊢;exact A8K oM oM
   ·rw[if_neg hz];refine j2 _ fun hd=>?_;have hr:B2o s k=true:=by unfold B2o;rw[dT oM,hd];rfl
    unfold C1H;rw[hd,hr,cF,cT,A8K oM oM]
  ·obtain rfl:k=p.steps.length:=by omega
   rw[if_neg oM]
theorem D4y {F:Nat} {p:D4} {s:H2} {t:Int} (hF:100<F) (ho:A5Y p) (hs:CF p s) (ht:0≤t∧t≤100000):D2W F p s t=some (B3l p s t p.steps.length):=by
 have t16:=ho.t16;rw[D2W];exact D3I hF ho hs ht F 0 oM oM
def C5Q (p:D4):Nat→(Nat→Bool)→Nat→Bool
 | 0,f=>f
 | i+1,f=>bif f i then C5Q p i (fun j=>f j||(p.steps.getD i default).need.any fun m=>decide (m=(j:Int)))else C5Q p i f
theorem D2F {p:D4} (ho:A5Y p):∀ (i:Nat) (f:Nat→Bool) (j:Nat),i≤p.steps.length→i≤j→C5Q p i f j=f j
 | 0,f,j,_,_=>rfl
 | i+1,f,j,hl,h=>by
  rw[C5Q];cases f i with
  | false=>exact D2F ho i f j oM oM
  | true =>
   rw[cT,D2F ho i _ j oM oM];have:((p.steps.getD i default).need.any fun m=>decide (m=(j:Int)))=false:=by
    rw[List.any_eq_false];intro m hm;have:=(ho.t i oM).nd m hm;simp;omega
   rw[this,bU]
theorem D2J {p:D4} {s:H2} {t n:Int} (ho:A5Y p):∀ (i:Nat) (f:Nat→Bool),i≤p.steps.length→C0p p s t n i f=(List.range i).any fun j=>C5Q p i f j&&C1I p s t n j
 | 0,f,_=>rfl
 | i+1,f,h=>by
  rw[C0p,List.range_succ,List.any_append,bd,cW,bU];have hi:C5Q p (i+1) f i=f i:=by
   rw[C5Q];cases hf:f i with
   | false=>rw[cF,D2F ho i f i oM (aw i),hf]
   | true=>rw[cT,D2F ho i _ i oM (aw i),hf];rfl
  rw[hi];cases hf:f i with
  | false =>
   rw[cF,bO,bU,D2J ho i f oM];rw[show C5Q p (i+1) f=C5Q p i f by rw[C5Q,hf,cF]]
  | true =>
   rw[cT,bf];rw[show C5Q p (i+1) f=C5Q p i (fun j=>f j||(p.steps.getD i default).need.any fun m=>decide (m=(j:Int))) by rw[C5Q,hf,cT]];cases C1I p s t n i with
   | true=>rw[cT,Bool.or_true]
   | false=>rw[cF,bU,D2J ho i _ oM]
theorem D4z:∀ (l:List Int) (o:List Bool) (j:Nat),(∀ m∈l,0≤m∧m<o.length)→(onL l true o).getD j false=(o.getD j false||l.any fun m=>decide (m=(j:Int)))
 | [],o,j,h=>by rw[cW,bU];rfl
 | x::l,o,j,h=>by
  have hx:=h x sM;show(onL l true (o.set x.toNat true)).getD j false=_;rw[D4z l _ j (fun m hm=>by rw[aX];exact h m (by simp[hm])),sG oM,bd];by_cases hj:j=x.toNat
  ·rw[if_pos hj,dT (by omega:x=(j:Int))];simp
  ·rw[if_neg hj,dF (by omega:¬ x=(j:Int)),bu]
theorem D4q {F:Nat} {p:D4} {i:Nat} (ho:A5Y p) (hi:i<p.steps.length) {K:List Bool→Int→Int→Option (List Bool)}:∀ (n k:Nat) (o:List Bool),o.length=p.steps.length→o.getD i false=true→(p.steps.getD i default).need.length<n+k→k≤(p.steps.getD i default).need.length →
  C7j F p K n o i k=K (onL ((p.steps.getD i default).need.drop k) true o) i ((p.steps.getD i default).need.length:Int)
 | 0,k,o,_,_,h,h2=>absurd h oM
 | n+1,k,o,hl,ht,h,h2=>by
  have hx:=ho.t i hi;have t16:=ho.t16;have hnl:=B0F hx.na hx.nd;rw[C7j,H3 hi,← J6 default hi,oS];by_cases hk:k<(p.steps.getD i default).need.length
  ·have hm:=hx.nd _ (aj hk);have em:(p.steps.getD i default).need[k]=(((p.steps.getD i default).need[k].toNat:Nat):Int):=by omega
   rw[if_pos oM,H3 (by omega:i<o.length),← J6 false oM,ht,oS,if_pos rfl,D1Q,H3 hi,← J6 default hi,oS,H3 hk,oS];obtain⟨q,hq⟩:∃ q,P3 o (p.steps.getD i default).need[k]=some q:=by rw[em];exact⟨_,H3 oM⟩
   rw[hq,oS,S0 oM];unfold A5g;rw[oS,D4q ho hi n (k+1) _ (by rw[aX];exact hl) (by rw[sG oM,if_neg oM];exact ht) oM oM,lD hk];rfl
  ·obtain rfl:k=(p.steps.getD i default).need.length:=by omega
   rw[if_neg oM,eD];rfl
theorem D3y {F:Nat} {p:D4} (hF:100<F) (ho:A5Y p):∀ (n i:Nat) (o:List Bool) (f:Nat→Bool),o.length=p.steps.length→(∀ j,j<p.steps.length→o.getD j false=f j)→i<n→i≤p.steps.length →
  C7n F p (fun o _=>some o) n o ((i:Int)-1)=some (B14 p.steps.length (C5Q p i f))
 | 0,i,o,f,_,_,h,_=>absurd h oM
 | n+1,0,o,f,hl,hf,h,h2=>by
  rw[C7n,if_neg oM];exact congrArg some (B2D false hl hf)
 | n+1,i+1,o,f,hl,hf,h,h2=>by
  have t16:=ho.t16;have hi:i<p.steps.length:=by omega
  have hx:=ho.t i hi;have hnl:=B0F hx.na hx.nd;rw[C7n,if_pos oM,show(((i+1:Nat):Int)-1)=(i:Int) by omega,C5Q];have hfi:=hf i hi;have hw:W ((i:Int)-1)=(i:Int)-1:=A8K oM oM;cases hfv:f i with
  | true =>
   rw[hfv]at hfi;refine(D4q ho hi F 0 o hl hfi oM oM).trans ?_;rw[aB,cT,hw];refine D3y hF ho n i _ _ (by rw[B5M];exact hl) (fun j hj=>?_) oM oM;rw[D4z _ _ _ (fun m hm=>by have:=hx.nd m hm;omega),hf j hj]
  | false =>
   rw[hfv]at hfi;rw[cF];have e:C7j F p (fun out2 i2 k=>C7n F p (fun o _=>some o) n out2 (W (i2-1))) F o i 0=C7n F p (fun o _=>some o) n o ((i:Int)-1):=by
    obtain⟨m,hm⟩:∃ m,F=m+1:=⟨F-1,by omega⟩;rw[show C7j F p (fun out2 i2 k=>C7n F p (fun o _=>some o) n out2 (W (i2-1))) F o i 0=C7j F p (fun out2 i2 k=>C7n F p (fun o _=>some o) n out2 (W (i2-1))) (m+1) o i 0 by rw[← hm],C7j,H3 hi,oS,H3 (by omega:i<o.length),← J6 false oM,hfi,oS,hw];split<;>rfl
   rw[e];exact D3y hF ho n i o f hl hf oM oM
theorem D4j {F:Nat} {p:D4} (hF:100<F) (ho:A5Y p):D2o F p=some (B14 p.steps.length (C5Q p p.steps.length fun j=>decide (j=p.steps.length-1))):=by
 have t16:=ho.t16;have t1:=ho.t1;have hlen:(ak p.steps.length false).length=p.steps.length:=aL;rw[D2o,B0U oM,oS,hlen,B23 t1 oM,H3 (by rw[hlen];omega),oS];unfold A5g;rw[oS,aX,hlen,A8K (x:=(p.steps.length:Int)-1) oM oM,tN];refine D3y hF ho F p.steps.length _ _ (by rw[aX,hlen]) (fun j hj=>?_) oM (aw _);rw[sG (by rw[hlen];omega),A5J _ _ _ _ hj,A4e];cases decide (j=p.steps.length-1)<;>rfl
theorem D4r {p:D4} {s:H2} {t:Int} (ho:A5Y p) (h:B2o s (p.steps.length-1)=true):t≤C0t p s t:=by
 have t1:=ho.t1;unfold C0t;rw[C1p oM];unfold C1H;have hd:A6e s (p.steps.length-1)=false:=by
  unfold B2o at h;rw[aF]at h;simpa using h.2
 rw[hd,h,cF,cT];omega
theorem D2T {F:Nat} {p:D4} {s:H2} {t:Int} (hF:100<F) (ho:A5Y p) (hs:CF p s) (ht:0≤t∧t≤100000):D0A F p s t=some (A6b p s t):=by
 have t16:=ho.t16;have t1:=ho.t1;have lb:=hs.lb;have le:=hs.le;have hl:=C1g p s t p.steps.length;have hw:W ((p.steps.length:Int)-1)=((p.steps.length-1:Nat):Int):=B23 t1 oM;rw[D0A,D4y hF ho hs ht,oS,hl,hw,H3 (by rw[hl];omega),← J6 0 (by rw[hl];omega),oS,D4j hF ho,oS];have hlc:max ((B3l p s t p.steps.length).getD (p.steps.length-1) 0) p.Q8=C0t p s t:=rfl;rw[hlc];have key:=A4H (g:=C5J F p s t (B3l p s t p.steps.length) ((B3l p s t p.steps.length).getD (p.steps.length-1) 0) (B14 p.steps.length (C5Q p p.steps.length fun j=>decide (j=p.steps.length-1))) (fun x=>some (C0t p s t,decide (C0t p s t≤p.O8))))
  (f:=fun j=>!(C5Q p p.steps.length (fun j=>decide (j=p.steps.length-1)) j&&C1I p s t (C0t p s t) j)) (len:=p.steps.length) (c:=some (C0t p s t,decide (C0t p s t≤p.O8))) (fl:=some ((0:Int),false)) (fun n k hk=>?_) (fun n=>by rw[C5J,hl,hw,if_neg oM]) F 0 oM oM
 ·refine key.trans ?_;rw[aP];unfold A6b C1w;rw[D2J ho p.steps.length _ (aw _),List.range_eq_range',List.any_eq_not_all_not];cases(List.range' 0 p.steps.length).all fun j=>!(C5Q p p.steps.length (fun j=>decide (j=p.steps.length-1)) j&&C1I p s t (C0t p s t) j)<;>rfl
 ·have hb:=hs.b k hk;have he:=hs.e k hk;have hx:=ho.t k hk;have hxm:=hx.m;have hxl:=hx.l;have hn:=hs.now;have hj:∀ v,(B2o s k=true→(decide (s.begun.getD k 0+(p.steps.getD k default).most<t)||(decide (k=p.steps.length-1)&&decide (s.begun.getD k 0+(p.steps.getD k default).most<C0t p s t)))=decide (s.begun.getD k 0+(p.steps.getD k default).most<v))→C90 F (C5J F p s t (B3l p s t p.steps.length) ((B3l p s t p.steps.length).getD (p.steps.length-1) 0) (B14 p.steps.length (C5Q p p.steps.length fun j=>decide (j=p.steps.length-1))) (fun x=>some (C0t p s t,decide (C0t p s t≤p.O8))) n) p s (B14 p.steps.length (C5Q p p.steps.length fun j=>decide (j=p.steps.length-1))) k v
    = bif !(C5Q p p.steps.length (fun j=>decide (j=p.steps.length-1)) k&&C1I p s t (C0t p s t) k)then C5J F p s t (B3l p s t p.steps.length) ((B3l p s t p.steps.length).getD (p.steps.length-1) 0) (B14 p.steps.length (C5Q p p.steps.length fun j=>decide (j=p.steps.length-1))) (fun x=>some (C0t p s t,decide (C0t p s t≤p.O8))) n ((k+1:Nat):Int)else some (0,false):=fun v hv=>by
   have hlt:k<(B14 p.steps.length (C5Q p p.steps.length fun j=>decide (j=p.steps.length-1))).length:=by rw[B15];exact hk
   rw[C90,H3 hlt,← J6 false hlt,B48 hk,oS,H3 (by omega:k<s.begun.length),← J6 0 oM,oS,H3 (by omega:k<s.ended.length),← J6 0 oM,oS,H3 hk,← J6 default hk,oS,C8F,S0 oM,A8K (x:=s.begun.getD k 0+(p.steps.getD k default).most) oM oM];cases C5Q p p.steps.length (fun j=>decide (j=p.steps.length-1)) k with
   | false=>rfl
   | true =>
    rw[if_pos rfl,bf];unfold C1I;by_cases hbz:s.begun.getD k 0 = -1
    ·rw[if_pos hbz,show B2o s k=false by unfold B2o;rw[dF oM,bO]];rfl
    ·rw[if_neg hbz];by_cases hez:s.ended.getD k 0 = -1
     ·have hr:B2o s k=true:=by unfold B2o A6e;rw[dT oM,dF oM];rfl
      rw[if_pos hez,hr,bf,hv hr];by_cases hc:s.begun.getD k 0+(p.steps.getD k default).most<v
      ·rw[if_pos hc,dT hc];rfl
      ·rw[if_neg hc,dF hc];rfl
     ·rw[if_neg hez,show B2o s k=false by unfold B2o A6e;rw[dT (by omega:0≤s.ended.getD k 0)];simp];rfl
  rw[C5J,hl,hw,if_pos oM,hlc];by_cases hk2:k=p.steps.length-1
  ·rw[if_pos oM];refine hj _ fun hr=>?_;have:=D4r (t:=t) ho (by rw[← hk2];exact hr);rw[dT hk2,bf,dj];simp only[cd,decide_eq_true_eq];omega
  ·rw[if_neg oM];refine hj _ fun hr=>?_;rw[dF hk2,bO,bU]
theorem D4O {F:Nat} {p:D4} (hf:CtF F p) (l:List C7) {α:Type} (G:H2→Int→Option α):(if(A0O p l).2.2=0 then((C9f F (C1e (A0O p l).1)).bind fun rv2=>if rv2=true then G (C1e (A0O p l).1) 9 else G (C1e (A0O p l).1) (A0O p l).2.2)else G (C1e (A0O p l).1) (A0O p l).2.2)=G (C1e (A0O p l).1) (B6Z p l).2:=by
 unfold B6Z;cases h:(A0O p l).1 with
 | none=>rw[if_neg (B1r h)]
 | some s =>
  obtain⟨h1,ho,hs,hm⟩:=D4K h;rw[if_pos h1,show C1e (some s)=s from rfl,D1p ho hs,oS,h1];show _=G s (bif A6e s (p.steps.length-1)then((none:Option H2),(9:Int))else(some s,0)).2;cases A6e s (p.steps.length-1)<;>rfl
theorem D3Y {F:Nat} {p:D4} (hf:CtF F p) (l:List C7) (t:Int):D1O F p l t=some (B22 p l t):=by
 have hF:=hf.pd.f;rw[D1O,D2x hf,oS];refine(D4O hf l (fun s e=>C8n F p t (s,(A0O p l).2.1,(A0O p l).2.2) e)).trans ?_;unfold B22;cases hp:(B6Z p l).1 with
 | none =>
  have h1:=C18 hp;rw[C8n,if_neg h1,C80,if_neg h1]
 | some s =>
  obtain⟨h1,h2,h3⟩:=C19 hp;obtain⟨ho,hs⟩:=C2b h2;have hn:=hs.now;rw[h2,C8n,if_pos h1,C7L,oS,D00,h1];show(bif N9 t s.now 100000 then _ else _)=some (bif N9 t s.now 100000 then((0:Int),(7:Int))else bif B8x p s t then((A6b p s t).1,0)else(0,9));cases hc:N9 t s.now 100000 with
  | true=>rfl
  | false =>
   have:=O6.1 hc;rw[cF,C80,if_pos rfl];show((D0A F p s t).bind _)=_;rw[D2T hF ho hs ⟨by omega,by omega⟩,oS];unfold B8x;cases(A6b p s t).2<;>rfl
theorem D4w {F:Nat} {p:D4} {s:H2} {rv:H2 × List Int × Int} (hF:100<F) (ho:A5Y p) (hs:CF p s) (hv:rv.1=s):∀ (n:Nat) (lo hi:Int),hi-lo≤(2:Int)^n→s.now-1≤lo→hi≤100001→lo<hi→(lo=s.now-1∨(s.now≤lo∧B8x p s lo=true))→(∀ u,hi≤u→u≤100000→B8x p s u=false) →
  ∃ r,C8H F p rv (fun low _=>if low<rv.1.now then some (-1,0)else some (low,0)) (n+1) lo hi=some (r,0)∧C2z p s r:=fun n=>by
 have hn:=hs.now;have fin:∀ (m:Nat) (lo hi:Int),hi-lo≤1→s.now-1≤lo→hi≤100001→lo<hi→(lo=s.now-1∨(s.now≤lo∧B8x p s lo=true))→(∀ u,hi≤u→u≤100000→B8x p s u=false) →
   ∃ r,C8H F p rv (fun low _=>if low<rv.1.now then some (-1,0)else some (low,0)) (m+1) lo hi=some (r,0)∧C2z p s r:=fun m lo hi h1 h2 h3 h4 h5 h6=>by
  rw[C8H,A8K oM oM,if_neg oM,hv];by_cases hc:lo<s.now
  ·rw[if_pos hc];exact⟨-1,rfl,.inl ⟨rfl,fun u hu hu2=>h6 u oM hu2⟩⟩
  ·rw[if_neg hc];exact⟨lo,rfl,.inr ⟨⟨by omega,by omega⟩,by rcases h5 with h | h;omega;exact h.2,fun u hu hu2=>h6 u oM hu2⟩⟩
 induction n with
 | zero=>intro lo hi h1;exact fin 0 lo hi (by simpa using h1)
 | succ n ih =>
  intro lo hi h1 h2 h3 h4 h5 h6;by_cases hd:hi-lo≤1
  ·exact fin (n+1) lo hi hd h2 h3 h4 h5 h6
  ·rw[C8H,A8K (x:=hi-lo) oM oM,if_pos oM,A8K (x:=lo+hi) oM oM,dS oM,A8K (x:=(lo+hi)/2) oM oM,hv,D2T hF ho hs ⟨by omega,by omega⟩,oS];have hp:(2:Int)^(n+1)=2^n*2:=fj ..;cases hm:(A6b p s ((lo+hi)/2)).2 with
   | true =>
    rw[if_pos rfl];have:=ih ((lo+hi)/2) hi oM oM h3 oM (.inr ⟨by omega,hm⟩) h6;rw[hv]at this;exact this
   | false =>
    rw[if_neg sM];have:=ih lo ((lo+hi)/2) oM h2 oM oM h5 (fun u hu hu2=>by
     cases hq:B8x p s u with
     | false=>rfl
     | true=>have:=(C1x ho hu hq).1;unfold B8x at this;rw[hm]at this;cases this)
    rw[hv]at this;exact this
theorem D44 {p:D4} {s:H2} {a b:Int} (ha:C2z p s a) (hb:C2z p s b):a=b:=by
 rcases ha with⟨a1,a2⟩ | ⟨a1,a2,a3⟩
 ·rcases hb with⟨b1,b2⟩ | ⟨b1,b2,b3⟩
  ·omega
  ·rw[a2 b b1.1 b1.2]at b2;cases b2
 ·rcases hb with⟨b1,b2⟩ | ⟨b1,b2,b3⟩
  ·rw[b2 a a1.1 a1.2]at a2;cases a2
  ·rcases Int.lt_trichotomy a b with h | h | h
   ·rw[a3 b h b1.2]at b2;cases b2
   ·exact h
   ·rw[b3 a h a1.2]at a2;cases a2
theorem D45 {F:Nat} {p:D4} (hf:CtF F p) (l:List C7):∃ x,A85 F p l=some x∧D2V F p l=some x:=by
 have hF:=hf.pd.f;have h0:=C28 hf l;have hd:D2V F p l=C92 F p (C1e (A0O p l).1,(A0O p l).2.1,(A0O p l).2.2) (B6Z p l).2:=by
  rw[D2V,D2x hf,oS];exact D4O hf l (fun s e=>C92 F p (s,(A0O p l).2.1,(A0O p l).2.2) e)
 rw[hd];cases hp:(B6Z p l).1 with
 | none =>
  rw[hp]at h0;refine⟨_,h0,?_⟩;rw[C92,if_neg (C18 hp)]
 | some s =>
  rw[hp]at h0;obtain⟨r,h1,h2⟩:=h0;obtain⟨e1,e2,e3⟩:=C19 hp;obtain⟨ho,hs⟩:=C2b e2;have hn:=hs.now;obtain⟨n,rfl⟩:∃ n,F=n+1:=⟨F-1,by omega⟩;have hpow:(131072:Int)≤(2:Int)^n:=by
   have:(2:Nat)^17≤2^n:=ep dM oM;have h3:((2^n:Nat):Int)=(2:Int)^n:=by simp
   rw[← h3];have h4:(2:Nat)^17=131072:=by decide
   omega
  obtain⟨q,h4,h5⟩:=D4w (F:=n+1) (rv:=(C1e (A0O p l).1,(A0O p l).2.1,(A0O p l).2.2)) hF ho hs (by rw[e2];rfl) n (s.now-1) 100001 oM (cm _) (cm _) oM (.inl rfl) (fun u hu hu2=>by omega);refine⟨(r,0),h1,?_⟩;rw[D44 h2 h5,C92,if_pos e1,← h4];show C8H _ _ _ _ _ (W ((C1e (A0O p l).1).now-1)) _=_;rw[e2,show(C1e (some s)).now=s.now from rfl,A8K (x:=s.now-1) oM oM]
theorem D4g {F:Nat} {p:D4} {l:List C7} {t:Int} (hf:CtF F p) (ha:A7X 100=some true):D0n F p l t=some true:=by
 obtain⟨x,h1,h2⟩:=D45 hf l;rw[D0n,C2m hf,oS,D3Y hf,oS];simp only[if_true,C91,h1,h2,oS,ha]
end Go.Proofs.YtlaogbbcipebgaaGreat
