/- The document's Check of a countdown's plan in plain words. -/
import Derived.Test.YtlaogbbcipebgaaGreatQ9
set_option linter.unusedVariables false
set_option linter.unusedSimpArgs false
open Go Go.Proofs.YtlaogbbcipebgaaGreat.Sh Go.Proofs
namespace Go.Proofs.YtlaogbbcipebgaaGreat
theorem C7L (F:Nat) (n lo hi:Int):C8N F n lo hi=some (!N9 n lo hi):=by
 unfold C8N N9
 split
 ·rename_i h
  by_cases h2:n≤hi
  ·rw[dT h2,dF oM];rfl
  ·rw[dF h2,dT oM];rfl
 ·rename_i h;rw[dT oM];rfl
theorem C8U {F:Nat} {many:Int} (hm:0≤many∧many<9223372036854775808) {l:List Int} (hl:l.length<F∧l.length<9223372036854775808):C8i F l many=some (!A4n many l):=by
 have key:∀ (n k:Nat),l.length<n+k→k≤l.length→C7Q F l many (fun _=>some true) n k=some (!(l.drop k).any fun n=>N9 n 0 (many-1)):=fun n=>by
  induction n with
  | zero=>intro k h;omega
  | succ n ih =>
   intro k h h2
   rw[C7Q]
   by_cases hk:k<l.length
   ·rw[if_pos oM,H3 hk,oS,A8K,C7L,oS,S0 oM,ih (k+1) oM oM,lD hk,List.any_cons]
    cases N9 l[k] 0 (many-1)<;>simp
   ·rw[if_neg oM,lL oM];rfl
 rw[C8i,show(0:Int)=((0:Nat):Int)from rfl,key F 0 oM oM,List.drop_zero]
 rfl
theorem C8t {F:Nat} {l:List Int} (hl:l.length<F∧l.length<9223372036854775808):C7y F l=some (A6a l):=by
 have key:∀ (n k:Nat),l.length<n+k→1≤k→k≤l.length→C7o F l (fun _=>some true) n k=some (A6a (l.drop (k-1))):=fun n=>by
  induction n with
  | zero=>intro k h;omega
  | succ n ih =>
   intro k h h1 h2
   rw[C7o]
   by_cases hk:k<l.length
   ·rw[if_pos oM,H3 hk,oS,B23 h1 oM,H3 (by omega:k-1<l.length),oS,S0 oM,ih (k+1) oM oM oM,
     lD (by omega:k-1<l.length),show k-1+1=k by omega,show k+1-1=k by omega,lD hk,A6a]
    by_cases hc:l[k]≤l[k-1]
    ·rw[if_pos hc,dF (by omega:¬ l[k-1]<l[k])];rfl
    ·rw[if_neg hc,dT (by omega:l[k-1]<l[k])];rfl
   ·rw[if_neg oM,lD (by omega:k-1<l.length),lL oM]
    rfl
 rw[C7y]
 by_cases h0:0<l.length
 ·have:=key F 1 oM oM oM
  rw[Nat.sub_self,List.drop_zero]at this
  exact this
 ·have:l=[]:=by cases l<;>simp at h0 ⊢
  subst this
  obtain⟨n,rfl⟩:∃ n,F=n+1:=⟨F-1,by omega⟩
  rfl
def stN (l:List ByteArray) (k:Nat):Int:=nmE (l.take k) (l.getD k default)
theorem D1t {F:Nat} {l:List ByteArray} (hl:l.length<9223372036854775808) {e:ByteArray} {i:Nat} (hi:i≤l.length) {c:Option (Int × Int)}:∀ (n k:Nat),i<n+k→k≤i→C8C F l i e (fun _=>c) n k=bif ((l.take i).drop k).any (fun b=>decide (b.toList=e.toList))then some ((i:Int),5)else c
 | 0,k,h,h2=>absurd h oM
 | n+1,k,h,h2=>by
  rw[C8C]
  by_cases hk:k<i
  ·have hk2:k<(l.take i).length:=by rw[List.length_take];omega
   rw[if_pos oM,H3 (by omega:k<l.length),oS,S0 oM,D1t hl hi n (k+1) oM oM,lD hk2,List.any_cons,List.getElem_take]
   by_cases hc:l[k].toList=e.toList
   ·rw[if_pos hc,dT hc];rfl
   ·rw[if_neg hc,dF hc];rfl
  ·rw[if_neg oM,lL (by rw[List.length_take];omega)];rfl
theorem D0Q {F:Nat} {l:List ByteArray} (hl:l.length<F∧l.length<9223372036854775808) (hn:∀ x∈l,x.size<F∧x.size<9223372036854775808):C9G F l=some (A4d (stN l) l.length 0):=by
 have key:∀ (n k:Nat),l.length<n+k→k≤l.length→C8k F l (fun _=>some (0,0)) n k=some (A4d (stN l) (l.length-k) k):=fun n=>by
  induction n with
  | zero=>intro k h;omega
  | succ n ih =>
   intro k h h2
   rw[C8k]
   by_cases hk:k<l.length
   ·have hx:=hn _ (List.getElem_mem hk)
    have e0:stN l k=nmE (l.take k) l[k]:=by unfold stN;rw[J6 default hk]
    rw[if_pos oM,H3 hk,oS,D1e hx.2 hx.1,oS,show l.length-k=(l.length-(k+1))+1 by omega,A4d]
    have:=D1t (F:=F) hl.2 (e:=l[k]) (by omega:k≤l.length) (c:=C8k F l (fun _=>some (0,0)) n (W ((k:Int)+1))) F 0 oM oM
    rw[show((0:Nat):Int)=0 from rfl,List.drop_zero]at this
    rw[this,S0 oM,ih (k+1) oM oM,e0]
    unfold nmE
    cases hp:A7C l[k]with
    | false=>simp
    | true =>
     cases ha:(l.take k).any (fun b=>decide (b.toList=l[k].toList))<;>simp
   ·rw[if_neg oM,show l.length-k=0 by omega];rfl
 rw[C9G,show(0:Int)=((0:Nat):Int)from rfl]
 exact key F 0 oM oM
theorem D0H {f:Nat→Int}:∀ (m k:Nat),(∀ j,k≤j→j<k+m→f j=0)→A4d f (m+1) k=if f (k+m)=0 then(0,0)else(((k+m:Nat):Int),f (k+m))
 | 0,k,h=>by
  rw[A4d,A4e];rfl
 | m+1,k,h=>by
  rw[A4d,dT (h k (Nat.le_refl _) oM),cT,D0H m (k+1) fun j h1 h2=>h j oM oM,show k+1+m=k+(m+1) by omega]
theorem D1r {F:Nat} {l:List ByteArray} (hl:l.length<F∧l.length<9223372036854775807) (hn:∀ x∈l,x.size<F∧x.size<9223372036854775808) {i:Nat} (hi:i<l.length) (h0:∀ j,j<i→stN l j=0):D0m F l i=some (stN l i):=by
 have hlen:(l.take (i+1)).length=i+1:=by rw[List.length_take];omega
 have hst:∀ j,j<i+1→stN (l.take (i+1)) j=stN l j:=fun j hj=>by
  unfold stN
  rw[List.take_take,Nat.min_eq_left oM,J6 default (by omega:j<(l.take (i+1)).length),J6 default (by omega:j<l.length),List.getElem_take]
 rw[D0m,S0 oM,B0w oM,oS,D0Q (by rw[hlen];omega) fun x hx=>hn x (List.mem_of_mem_take hx),oS,hlen,
  D0H i 0 fun j _ h2=>(hst j oM).trans (h0 j oM),Nat.zero_add,hst i oM]
 by_cases hz:stN l i=0
 ·rw[if_pos hz,hz]
  split<;>rfl
 ·rw[if_neg hz,if_pos rfl]
theorem D1L {F:Nat} (hF:100<F) (x:Int) {n:Nat} (hn:n≤8):C9J F x (n:Int)=some (List.replicate n x):=by
 obtain⟨m,rfl⟩:∃ m,F=m+20:=⟨F-20,by omega⟩
 match n,hn with
 | 0,_=>rfl
 | 1,_=>rfl
 | 2,_=>rfl
 | 3,_=>rfl
 | 4,_=>rfl
 | 5,_=>rfl
 | 6,_=>rfl
 | 7,_=>rfl
 | 8,_=>rfl
theorem D2c {F:Nat} {p:D5} (h:A5x F p):C9l F p=some (A4C p):=by
 rw[C9l,D0O h,oS]
 unfold A4C
 by_cases h0:(A2n p).2.2=0
 ·have ho:=A60 h0
  have k1:=ho.p8
  have k2:=ho.k8
  have k3:=ho.q6
  rw[if_pos h0,if_pos h0,D1L h.f _ k1,oS,D1L h.f _ k2,oS,D1L h.f _ oM]
  rfl
 ·rw[if_neg h0,if_neg h0]
theorem D0S {F:Nat} {p:D4} (h:A5x F (A1w p)) (a:D2):C8P F p a=some (A9U (A1w p) a):=by
 rw[C8P,show D5.mk p.N4 p.P5 p.N6 p.S5 p.J3 p.Q7 p.T9=A1w p from rfl,D2c h,oS,D1g h (B42 h.f),oS]
 unfold A9U
 by_cases hc:(DoP (A1w p) (A4C (A1w p)).1 a).2<170
 ·rw[if_neg oM,dT hc];rfl
 ·rw[if_pos oM,dF hc];rfl
theorem D2A {F:Nat} {p:D4} (h:CtF F p) {x:E0} (hx:B7k F x):∀ (n k:Nat),x.acts.length<n+k→k≤x.acts.length→C8z F p x (fun _=>some 0) n k=some (B3z (A1w p) (x.acts.drop k))
 | 0,k,h1,h2=>absurd h1 oM
 | n+1,k,h1,h2=>by
  rw[C8z]
  by_cases hk:k<x.acts.length
  ·have:=hx.a
   rw[if_pos oM,H3 hk,oS,D0S h.pd,oS,S0 oM,D2A h hx n (k+1) oM oM,lD hk,B3z,A4e,A4e,← A6z,← A6z]
  ·rw[if_neg oM,lL oM]
   rfl
theorem D00 {α:Type} (a:Bool) (X Y:α):(if(!a)=true then X else Y)=bif a then Y else X:=by cases a<;>rfl
theorem D3K {α:Type} (a:Bool) [Decidable (a=true)] (X Y:α):(bif decide (a=true)then X else Y)=bif !a then Y else X:=by cases a<;>simp
theorem D1b {α:Type} [Inhabited α] (nm:α→ByteArray) (l:List α) {j k:Nat} (hj:j≤k) (hk:k<l.length):stN ((l.take (k+1)).map nm) j=nmE ((l.take j).map nm) (nm (l.getD j default)):=by
 unfold stN
 rw[← List.map_take,List.take_take,Nat.min_eq_left oM,J6 default (by rw[List.length_map,List.length_take];omega),J6 default (by omega:j<l.length),List.getElem_map,List.getElem_take]
theorem D13 {α:Type} {a b:Bool} {A B:α} (h:a=b):(bif a then A else B)=bif b then A else B:=by rw[h]
theorem D3V {a b:Int} {α:Type} (A B:α):(bif N9 a 0 20000 then A else bif N9 b a 20000 then A else B)=bif N9 b 0 20000 then A else bif N9 a 0 b then A else B:=by
 rw[B7q,B7q]
 refine D13 ?_
 rw[Bool.eq_iff_iff]
 simp only[N9,Bool.or_eq_true,decide_eq_true_eq]
 omega
theorem D2z {F:Nat} {p:D4} (h:CtF F p) (h16:p.steps.length≤16) {k:Nat} (hk:k<p.steps.length) (h0:∀ j,j<k→nmE ((p.steps.take j).map (·.name)) (p.steps.getD j default).name=0):D08 F p ((p.steps.take (k+1)).map (·.name)) k=some (B10 p k):=by
 have hx:=h.st _ (List.getElem_mem hk)
 have hF:=h.pd.f
 have hb:=h.lb
 have hlen:((p.steps.take (k+1)).map (·.name)).length=k+1:=by rw[List.length_map,List.length_take];omega
 have hnm:=D1r (F:=F) (l:=(p.steps.take (k+1)).map (·.name)) (by rw[hlen];omega) (fun x hx=>by
  obtain⟨y,hy,rfl⟩:=List.mem_map.1 hx
  exact(h.st y (List.mem_of_mem_take hy)).n) (i:=k) oM fun j hj=>(D1b (·.name) p.steps oM hk).trans (h0 j hj)
 rw[D1b (·.name) p.steps (Nat.le_refl _) hk]at hnm
 have ha:C8z F p p.steps[k] (fun _=>some 0) F 0=_:=D2A h hx F 0 (by have:=hx.a;omega) oM
 rw[D08,H3 hk,oS,hnm,oS]
 simp only[C9R,C9Q,C9P,C8U (F:=F) (many:=k) ⟨by omega,by omega⟩ hx.d,C8U (F:=F) (many:=(p.batteries.length:Int)) ⟨by omega,by omega⟩ hx.o,C8U (F:=F) (many:=(p.batteries.length:Int)) ⟨by omega,by omega⟩ hx.u,C8U (F:=F) (many:=(p.batteries.length:Int)) ⟨by omega,by omega⟩ hx.f,
  C8t hx.d,C8t hx.o,C8t hx.u,C8t hx.f,C7L,oS,ha,List.drop_zero,D00]
 unfold B10
 rw[J6 default hk]
 simp only[D3V,List.any_cons,List.any_nil,Bool.or_false,← B7q,A6z,A4e,D3K]
theorem D0z {ρ:Type} {g:Nat→ρ→Int→Option (Int × Int × Int)} {f:Nat→Int} {len:Nat} {pt:Int} {c:Option (Int × Int × Int)} (rk:Nat→ρ) (h0:∀ (n k:Nat),k<len→(∀ j,j<k→f j=0)→f k=0→g (n+1) (rk k) k=g n (rk (k+1)) ((k+1:Nat):Int)) (he:∀ (n k:Nat),k<len→(∀ j,j<k→f j=0)→f k≠0→g (n+1) (rk k) k=some (pt,(k:Int),f k)) (h1:∀ n r,g (n+1) r len=c) :
 ∀ (n k:Nat),(∀ j,j<k→f j=0)→len<n+k→k≤len→g n (rk k) k=A7x pt (A4d f (len-k) k) c
 | 0,k,_,h,h2=>absurd h oM
 | n+1,k,hj,h,h2=>by
  by_cases hk:k<len
  ·rw[show len-k=(len-(k+1))+1 by omega,A4d]
   by_cases hf:f k=0
   ·rw[h0 n k hk hj hf,D0z rk h0 he h1 n (k+1) (fun j h3=>by
     rcases Nat.lt_or_ge j k with h4 | h4
     ·exact hj j h4
     ·obtain rfl:j=k:=by omega
      exact hf) oM oM,dT hf,cT]
   ·rw[he n k hk hj hf,dF hf,cF,A7x,dF hf,cF]
  ·obtain rfl:k=len:=by omega
   rw[h1,Nat.sub_self,A4d];rfl
theorem D1w {α β:Type} (nm:α→β) {l:List α} {k:Nat} (h:k<l.length):(l.take k).map nm++[nm l[k]]=(l.take (k+1)).map nm:=by
 rw[List.take_succ_eq_append_getElem h,List.map_append];rfl
theorem D3t {p:D4} {k:Nat} (h:B10 p k=0):nmE ((p.steps.take k).map (·.name)) (p.steps.getD k default).name=0:=by
 unfold B10 at h
 by_cases h0:nmE ((p.steps.take k).map (·.name)) (p.steps.getD k default).name=0
 ·exact h0
 ·rw[dF h0,cF]at h;exact h
theorem D32 {p:D4} {k:Nat} (h:B6m p k=0):nmE ((p.batteries.take k).map (·.name)) (p.batteries.getD k default).name=0:=by
 unfold B6m at h
 by_cases h0:nmE ((p.batteries.take k).map (·.name)) (p.batteries.getD k default).name=0
 ·exact h0
 ·rw[dF h0,cF]at h;exact h
theorem RL2 {F:Nat} {p:D4} (h:CtF F p) (hs:1≤p.steps.length∧p.steps.length≤16) (c:Option (Int × Int × Int)):C7i F p (fun _ _=>c) F [] 0=A7x 5 (A4d (B10 p) p.steps.length 0) c:=by
 have hF:=h.pd.f
 have one:∀ (n k:Nat) (hk:k<p.steps.length),(∀ j,j<k→B10 p j=0)→C7i F p (fun _ _=>c) (n+1) ((p.steps.take k).map (·.name)) k=if B10 p k=0 then C7i F p (fun _ _=>c) n ((p.steps.take (k+1)).map (·.name)) ((k+1:Nat):Int)else some (5,(k:Int),B10 p k):=fun n k hk hj=>by
  rw[C7i,if_pos oM,H3 hk,oS,A8O (by rw[List.length_map,List.length_take];omega),oS,D1w (·.name) hk,D2z h hs.2 hk fun j h3=>D3t (hj j h3),oS,S0 oM]
 exact D0z (g:=C7i F p (fun _ _=>c)) (f:=B10 p) (len:=p.steps.length) (pt:=5) (c:=c) (fun k=>(p.steps.take k).map (·.name))
  (fun n k hk hj hf=>by rw[one n k hk hj,if_pos hf]) (fun n k hk hj hf=>by rw[one n k hk hj,if_neg hf]) (fun n r=>by rw[C7i,if_neg oM]) F 0 (fun j h3=>absurd h3 oM) oM oM
theorem RL3 {F:Nat} {p:D4} (h:CtF F p) (hs:p.batteries.length≤6) (c:Option (Int × Int × Int)):C5w F p (fun _ _=>c) F [] 0=A7x 4 (A4d (B6m p) p.batteries.length 0) c:=by
 have hF:=h.pd.f
 have one:∀ (n k:Nat) (hk:k<p.batteries.length),(∀ j,j<k→B6m p j=0)→C5w F p (fun _ _=>c) (n+1) ((p.batteries.take k).map (·.name)) k=if B6m p k=0 then C5w F p (fun _ _=>c) n ((p.batteries.take (k+1)).map (·.name)) ((k+1:Nat):Int)else some (4,(k:Int),B6m p k):=fun n k hk hj=>by
  have hlen:((p.batteries.take (k+1)).map (·.name)).length=k+1:=by rw[List.length_map,List.length_take];omega
  have hnm:=D1r (F:=F) (l:=(p.batteries.take (k+1)).map (·.name)) (by rw[hlen];omega) (fun x hx=>by
   obtain⟨y,hy,rfl⟩:=List.mem_map.1 hx
   exact h.bn y (List.mem_of_mem_take hy)) (i:=k) oM fun j h3=>(D1b (·.name) p.batteries oM hk).trans (D32 (hj j h3))
  rw[D1b (·.name) p.batteries (Nat.le_refl _) hk]at hnm
  rw[C5w,if_pos oM,H3 hk,oS,A8O (by rw[List.length_map,List.length_take];omega),oS,D1w (·.name) hk,hnm,oS,C7L,C7L]
  unfold B6m
  rw[J6 default hk]
  simp only[oS,C8c,S0 (show k<9223372036854775807 by omega)]
  by_cases h0:nmE ((p.batteries.take k).map (·.name)) p.batteries[k].name=0
  ·rw[if_pos h0,dT h0,cT]
   cases N9 p.batteries[k].charge 1 1000000<;>cases N9 p.batteries[k].rate 1 1000<;>simp only[h0,Bool.not_false,Bool.not_true,if_true,Bool.false_eq_true,if_false,cT,cF]<;>rfl
  ·rw[if_neg h0,dF h0,cF,if_neg h0]
 exact D0z (g:=C5w F p (fun _ _=>c)) (f:=B6m p) (len:=p.batteries.length) (pt:=4) (c:=c) (fun k=>(p.batteries.take k).map (·.name))
  (fun n k hk hj hf=>by rw[one n k hk hj,if_pos hf]) (fun n k hk hj hf=>by rw[one n k hk hj,if_neg hf]) (fun n r=>by rw[C5w,if_neg oM]) F 0 (fun j h3=>absurd h3 oM) oM oM
theorem RL1 {F:Nat} {p:D4} (h:CtF F p) (hs:1≤p.steps.length∧p.steps.length≤16) (c:Option (Int × Int × Int)):C5s F p (fun _=>c) F 0=A7x 6 (A4d (A9K p) p.points.length 0) c:=by
 have hp:=h.lp
 have one:∀ (n k:Nat) (hk:k<p.points.length),C5s F p (fun _=>c) (n+1) k=if A9K p k=0 then C5s F p (fun _=>c) n ((k+1:Nat):Int)else some (6,(k:Int),A9K p k):=fun n k hk=>by
  rw[C5s,if_pos oM,H3 hk,oS,A8K,C7L,oS,S0 oM,D00]
  unfold A9K
  rw[J6 0 hk]
  cases N9 p.points[k] 0 ((p.steps.length:Int)-1)with
  | true=>rfl
  | false =>
   rw[cF,cF]
   by_cases h0:0<k
   ·rw[if_pos oM,B23 h0 oM,H3 (by omega:k-1<p.points.length),oS,dT h0,Bool.true_and,J6 0 (by omega:k-1<p.points.length)]
    by_cases hc:p.points[k]≤p.points[k-1]
    ·rw[if_pos hc,dT hc];rfl
    ·rw[if_neg hc,dF hc];rfl
   ·rw[if_neg oM,dF h0];rfl
 exact D0z (ρ:=Unit) (g:=fun n _ k=>C5s F p (fun _=>c) n k) (f:=A9K p) (len:=p.points.length) (pt:=6) (c:=c) (fun _=>())
  (fun n k hk hj hf=>by show C5s F p (fun _=>c) (n+1) k=_;rw[one n k hk,if_pos hf]) (fun n k hk hj hf=>by show C5s F p (fun _=>c) (n+1) k=_;rw[one n k hk,if_neg hf]) (fun n r=>by show C5s F p (fun _=>c) (n+1) _=c;rw[C5s,if_neg oM]) F 0 (fun j h3=>absurd h3 oM) oM oM
theorem D2h {F:Nat} {p:D4} (h:CtF F p):D0d F p=some (A35 p):=by
 have hF:=h.pd.f
 rw[D0d,show D5.mk p.N4 p.P5 p.N6 p.S5 p.J3 p.Q7 p.T9=A1w p from rfl,D0I h.pd,oS,C7L,oS,D00]
 unfold A35
 by_cases h0:(A2n (A1w p)).2.2=0
 ·rw[if_pos h0,dT h0,cT]
  unfold B6p
  by_cases h1:8<(p.stations.length:Int)
  ·rw[if_pos h1,dT h1];rfl
  ·rw[if_neg h1,dF h1,Bool.false_or]
   by_cases h2:6<(p.batteries.length:Int)
   ·rw[if_pos h2,dT h2];rfl
   ·rw[if_neg h2,dF h2,Bool.false_or]
    cases h3:N9 p.steps.length 1 16 with
    | true=>rfl
    | false =>
     have h4:=O6.1 h3
     rw[cF,cF,C9w,D0Q ⟨by omega,by omega⟩ h.sn,oS]
     simp only[RL1 h ⟨by omega,by omega⟩,RL2 h ⟨by omega,by omega⟩,RL3 h (show p.batteries.length≤6 by omega),C7L,oS,D00]
     unfold B8g
     rw[← A5O,← A5O,← A5O,← A5O]
     have ew:(bif N9 p.Q8 0 100000 then some ((7:Int),(0:Int),(7:Int))else bif N9 p.O8 p.Q8 100000 then some (7,0,7)else some (0,0,0))=some (B3p p):=by
      unfold B3p
      rw[B7q,A6z,A6z,B7q]
      refine D13 ?_
      rw[Bool.eq_iff_iff]
      simp only[N9,Bool.or_eq_true,decide_eq_true_eq]
      omega
     rw[ew]
     show _=A7x 3 (A4d (stN p.stations) p.stations.length 0) _
     unfold A7x
     by_cases h5:(A4d (stN p.stations) p.stations.length 0).2=0
     ·rw[if_pos h5,dT h5,cT]
     ·rw[if_neg h5,dF h5,cF]
 ·rw[if_neg h0,dF h0,cF]
theorem D2D {α:Type} (a:α) (k:Nat):List.replicate k a++[a]=List.replicate (k+1) a:=by rw[List.replicate_succ']
theorem RS2 {F:Nat} {p:D4} (h16:p.steps.length≤16) {K:List Int→List Int→Int→Option H2}:∀ (n k:Nat),p.steps.length<n+k→k≤p.steps.length→C8E F p K n (List.replicate k (-1)) (List.replicate k (-1)) k=K (List.replicate p.steps.length (-1)) (List.replicate p.steps.length (-1)) (p.steps.length:Int)
 | 0,k,h,h2=>absurd h oM
 | n+1,k,h,h2=>by
  rw[C8E]
  by_cases hk:k<p.steps.length
  ·rw[if_pos oM,A8O (by rw[List.length_replicate];omega),oS,oS,D2D,S0 oM,RS2 h16 n (k+1) oM oM]
  ·obtain rfl:k=p.steps.length:=by omega
   rw[if_neg oM]
theorem RS1 {F:Nat} {p:D4} (h6:p.batteries.length≤6) {K:List Int→List Bool→Int→Option H2}:∀ (n k:Nat),p.batteries.length<n+k→k≤p.batteries.length→C8D F p K n ((p.batteries.take k).map (·.charge)) (List.replicate k false) k=K (p.batteries.map (·.charge)) (List.replicate p.batteries.length false) (p.batteries.length:Int)
 | 0,k,h,h2=>absurd h oM
 | n+1,k,h,h2=>by
  rw[C8D]
  by_cases hk:k<p.batteries.length
  ·rw[if_pos oM,H3 hk,oS,A8O (by rw[List.length_map,List.length_take];omega),oS,A8O (by rw[List.length_replicate];omega),oS,D2D,D1w (·.charge) hk,S0 oM,RS1 h6 n (k+1) oM oM]
  ·obtain rfl:k=p.batteries.length:=by omega
   rw[if_neg oM,List.take_length]
theorem D2m {F:Nat} {p:D4} (h:CtF F p) (ho:A5Y p):C9H F p=some (A0U p):=by
 have hF:=h.pd.f
 have t16:=ho.t16;have b6:=ho.b6;have s8:=ho.s8
 rw[C9H,show D5.mk p.N4 p.P5 p.N6 p.S5 p.J3 p.Q7 p.T9=A1w p from rfl,D2c h.pd,oS]
 refine(RS2 t16 F 0 oM oM).trans ?_
 refine(RS1 b6 F 0 oM oM).trans ?_
 rw[B0U oM]
 rfl
theorem C6F {α:Type} (f:Nat→α) (k:Nat):B14 k f++[f k]=B14 (k+1) f:=by
 unfold B14
 rw[List.range_succ,List.map_append];rfl
theorem D1o {F:Nat} {p:D4} (h:CtF F p) (x:C7):(if x.kind=8 then(if x.A04=x.at_ then((C8P F p (D2.mk x.A04 x.A0D x.A1L x.A0E x.A0F)).bind fun rv3=>some rv3)else(some 2))else(if(!(D2.beq (D2.mk x.A04 x.A0D x.A1L x.A0E x.A0F) (D2.mk 0 0 0 0 0)))=true then(some 2)else(some (0:Int))))=some (bif B0C x then 2 else bif decide (x.kind=8)then A9U (A1w p) (A8M x)else 0):=by
 rw[D0S h.pd,oS]
 unfold B0C
 by_cases h8:x.kind=8
 ·rw[if_pos h8,dT h8,cT,cT]
  by_cases ha:x.A04=x.at_
  ·rw[if_pos ha,dT ha];rfl
  ·rw[if_neg ha,dF ha];rfl
 ·rw[if_neg h8,dF h8,cF,cF]
  cases D2.beq (A8M x) (D2.mk 0 0 0 0 0)<;>rfl
theorem D2j {F:Nat} {p:D4} (h:CtF F p) (ho:A5Y p) (x:C7):D0f F p x=some (A5H p x):=by
 have lp:=h.lp;have t16:=ho.t16;have s8:=ho.s8;have b6:=ho.b6
 rw[D0f,C7L,oS,C7L,oS,D00,D00]
 unfold A5H
 cases h1:N9 x.at_ 0 100000 with
 | true=>rfl
 | false =>
  cases h2:N9 x.kind 1 9 with
  | true=>rfl
  | false =>
   rw[cF,cF,cF,cF]
   have hk:=O6.1 h2
   have h9:x.kind=1∨x.kind=2∨x.kind=3∨x.kind=4∨x.kind=5∨x.kind=6∨x.kind=7∨x.kind=8∨x.kind=9:=by omega
   have hJ:A3r x.kind=true→C8h F p x=some (bif (!A3r x.kind&&N9 x.what 0 (A20 p x.kind-1))then 4 else bif (A3r x.kind && !decide (x.what=0))||B0C x then 2 else bif decide (x.kind=8)then A9U (A1w p) (A8M x)else 0):=fun hn=>by
    rw[C8h,D1o h,hn]
    by_cases hw:x.what=0
    ·rw[if_pos hw,dT hw]
     cases B0C x<;>rfl
    ·rw[if_neg hw,dF hw];rfl
   have hN:∀ e:Int,A3r x.kind=false→e=A20 p x.kind→0≤e∧e<9223372036854775808→((C8N F x.what 0 (W (e-1))).bind fun rv3=>if rv3=true then(if x.kind=8 then(if x.A04=x.at_ then((C8P F p (D2.mk x.A04 x.A0D x.A1L x.A0E x.A0F)).bind fun rv4=>some rv4)else(some 2))else(if(!(D2.beq (D2.mk x.A04 x.A0D x.A1L x.A0E x.A0F) (D2.mk 0 0 0 0 0)))=true then(some 2)else(some 0)))else(some 4))
      = some (bif (!A3r x.kind&&N9 x.what 0 (A20 p x.kind-1))then 4 else bif (A3r x.kind && !decide (x.what=0))||B0C x then 2 else bif decide (x.kind=8)then A9U (A1w p) (A8M x)else 0):=fun e hn he hr=>by
    rw[A8K oM oM,C7L,oS,D1o h,D00,hn,he]
    cases N9 x.what 0 (A20 p x.kind-1)with
    | true=>rfl
    | false=>cases B0C x<;>rfl
   rcases h9 with e | e | e | e | e | e | e | e | e
   ·rw[e]at hN ⊢;exact hN _ rfl rfl oM
   ·rw[e]at hN ⊢;exact hN _ rfl rfl oM
   ·rw[e]at hJ ⊢;exact hJ rfl
   ·rw[e]at hJ ⊢;exact hJ rfl
   ·rw[e]at hN ⊢;exact hN _ rfl rfl oM
   ·rw[e]at hN ⊢;exact hN _ rfl rfl oM
   ·rw[e]at hN ⊢;exact hN _ rfl rfl oM
   ·rw[e]at hJ ⊢;exact hJ rfl
   ·rw[e]at hN ⊢;exact hN _ rfl rfl oM
abbrev FmC (p:D4) (s:H2):Prop:=A2l (A1w p) (B1c s)
def Nz (r:Except Int C3):Prop:=∀ e,r = .error e→e≠0
theorem Nz.ok (s:C3):Nz (.ok s):=fun e h=>by cases h
theorem Nz.dm {b:Bool} {w:Int} {r:Except Int C3} (h1:b=false→w≠0) (h2:Nz r):Nz (dm b w r):=by
 unfold Go.Proofs.YtlaogbbcipebgaaGreat.dm
 cases b with
 | true=>exact h2
 | false=>intro e he;injection he with he;subst he;exact h1 rfl
theorem C5j {p:D5} {s:C3} {a:D2} {e:Int} (h:B1Q p s a = .error e):e≠0:=by
 have one:∀ {w:Int} {b:Bool},w≠0→b=false→w≠0:=fun h _=>h
 have dz:∀ {w:Int},decide (w=0)=false→w≠0:=fun h=>of_decide_eq_false h
 unfold B1Q at h
 by_cases ht:a.at_<s.now
 ·rw[if_pos ht]at h;injection h with h;subst h;decide
 rw[if_neg ht]at h
 have hk:Nz (B79 p s a):=by
  unfold B79
  repeat' split
  ·exact .dm (one dM) (.dm dz (.dm dz (.dm (one dM) (.dm (one dM) (.ok _)))))
  all_goals repeat (first | exact .ok _ | refine .dm (one dM) ?_)
 cases hr:B79 p s a with
 | ok x=>rw[hr]at h;cases h
 | error w=>rw[hr]at h;injection h with h;subst h;exact hk w hr
theorem D24 {p:D4} {s s':H2} {a:D2} (hs:FmC p s) (h:A8L p s a = .ok s'):FmC p s':=by
 unfold A8L at h
 cases hd:decide ((DoP (A1w p) (B1c s) a).2=0)with
 | false=>rw[hd]at h;cases h
 | true =>
  rw[hd,cT]at h
  injection h with h
  subst h
  rw[decide_eq_true_eq]at hd
  show A2l (A1w p) (DoP (A1w p) (B1c s) a).1
  unfold DoP at hd ⊢
  by_cases h1:A7q (A1w p) (B1c s)=0
  ·rw[dT h1,cT]at hd ⊢
   by_cases h2:B25 (A1w p) a=0
   ·rw[dT h2,cT]at hd ⊢
    cases he:B1Q (A1w p) (B1c s) a with
    | ok s'=>exact(B3A (B6Q h1).f (B84 h2) he).1
    | error e=>rw[he]at hd;exact absurd hd (C5j he)
   ·rw[dF h2]at hd;exact absurd hd h2
  ·rw[dF h1]at hd;exact absurd hd h1
theorem D1P {p:D4} {t:Int}:∀ {l:List D2} {s s':H2},A8v p t l s = .ok s'→FmC p s→FmC p s'
 | [],s,s',h,hs=>by injection h with h;subst h;exact hs
 | a::l,s,s',h,hs=>by
  change (match A8L p s {a with at_:=t}with | .ok s'=>A8v p t l s' | .error e => .error e)=_ at h
  cases ha:A8L p s {a with at_:=t}with
  | error w=>rw[ha]at h;cases h
  | ok s2=>rw[ha]at h;exact D1P h (D24 hs ha)
theorem D36 {p:D4} {s s':H2} {e:C7} (hs:FmC p s) (h:B3L p s e = .ok s'):FmC p s':=by
 unfold B3L at h
 split at h
 ·obtain⟨_,_,_,_,_,rfl⟩:=B7p h;exact hs
 split at h
 ·obtain⟨_,_,_,_,_,s2,h6,rfl⟩:=B9G h;have:=D1P h6 hs;exact this
 split at h
 ·unfold B5G at h
  cases hh:s.held != decide (e.kind=3)with
  | false=>rw[hh]at h;cases h
  | true=>rw[hh,cT]at h;injection h with h;subst h;exact hs
 split at h
 ·unfold B9m at h
  cases hh:s.go.getD e.what.toNat false != decide (e.kind=5)with
  | false=>rw[hh]at h;cases h
  | true=>rw[hh,cT]at h;injection h with h;subst h;exact hs
 split at h
 ·unfold B9i at h
  cases hh:decide (0≤s.begun.getD (p.points.getD e.what.toNat 0).toNat 0)with
  | false=>rw[hh]at h;cases h
  | true =>
   cases h8:!s.J3.any (fun e=>decide ((1:Int)=e))with
   | false=>rw[hh,h8]at h;cases h
   | true=>rw[hh,h8,cT,cT]at h;injection h with h;subst h;exact hs
 split at h
 ·exact D24 hs h
 ·unfold B0v at h
  cases hh:!s.on_.getD e.what.toNat false with
  | false=>rw[hh]at h;cases h
  | true=>rw[hh,cT]at h;injection h with h;subst h;exact hs
theorem D4d {p:D4} {s s':H2} {e:C7} (hs:FmC p s) (h:doC p s e = .ok s'):FmC p s':=D36 (s:=B4e p s e.at_) hs (C0w h).2.2
theorem D3s {p:D4} (ho:A5Y p):FmC p (A0U p):=by
 show A2l (A1w p) (A4C (A1w p)).1
 unfold A4C
 rw[if_pos ho.c]
 have hz:=ho.pd
 refine⟨⟨Int.le_refl 0,show(0:Int)≤100000 by decide⟩,⟨Int.le_refl _,show(-1:Int)≤0 by decide⟩,List.length_replicate ..,List.length_replicate ..,List.length_replicate ..,fun x hx=>?_,fun x hx=>?_,fun x hx=>?_⟩
 ·rw[List.eq_of_mem_replicate hx];omega
 ·rw[List.eq_of_mem_replicate hx];omega
 ·rw[List.eq_of_mem_replicate hx];omega
theorem D0x {α:Type} {l:List α} (h:l.length≤1000000):A8i ([]:List α) l=some l:=by
 unfold A8i
 rw[if_pos (by simp;omega)];rfl
theorem D1J {F:Nat} {p:D4} {s:H2} (ho:A5Y p) (hs:CF p s) (hm:FmC p s):C9j F s=some s:=by
 have:=ho.t16;have:=ho.s8;have:=ho.b6
 have:=hs.lb;have:=hs.le;have:=hs.lg;have:=hs.ll;have:=hs.lo
 have h1:=ho.pd.p8;have h2:=ho.pd.k8;have h3:=ho.pd.q6
 have m1:s.N4.length=p.N6.length:=hm.lz
 have m2:s.A5M.length=p.S5.length:=hm.lh
 have m3:s.J3.length=p.J3.length:=hm.lq
 have k1:p.N6.length≤8:=h1
 have k2:p.S5.length≤8:=h2
 have k3:p.J3.length≤100:=by have:p.J3.length≤_:=h3;omega
 rw[C9j,D22 (s:=B1c s) (by show s.N4.length≤_;omega) (by show s.A5M.length≤_;omega) (by show s.J3.length≤_;omega),oS,D0x oM,oS,D0x oM,oS,D0x oM,oS,D0x oM,oS,D0x oM,oS]
theorem D2l {F:Nat} {p:D4} {s:H2} (hF:100<F) (ho:A5Y p) (hs:CF p s) (hm:FmC p s) {t:Int} (ht:s.now≤t∧t≤100000):C9F F p s t=some (B4e p s t):=by
 have k1:=ho.b6
 have k2:=hs.ll
 have k3:=hs.lo
 have kn:=hs.now
 rw[C9F,D1J ho hs hm,oS]
 have key:∀ (n k:Nat) (d:List Int),d.length=p.batteries.length→(∀ j,j<k→d.getD j 0=B0f p s t j)→(∀ j,k≤j→d.getD j 0=s.left.getD j 0)→p.batteries.length<n+k→k≤p.batteries.length →
   C8j F p t s (fun d2 _=>some {s with now:=t,left:=d2}) n d k=some (B4e p s t):=fun n=>by
  induction n with
  | zero=>intro k d _ _ _ h;omega
  | succ n ih =>
   intro k d h1 h2 h3 h h4
   rw[C8j]
   by_cases hk:k<p.batteries.length
   ·have hb:=(ho.b k hk).2
    have hl:=hs.l k hk
    have hc:=(ho.b k hk).1
    have hm:=B4n (a:=t-s.now) oM hb
    rw[if_pos oM,H3 (by omega:k<s.on_.length),oS,S0 oM]
    have ek:B0f p s t k=bif s.on_[k]'oM then max 0 (s.left.getD k 0-(t-s.now)*p.batteries[k].rate)else s.left.getD k 0:=by
     unfold B0f
     rw[J6 false (by omega:k<s.on_.length),J6 default hk]
    rw[J6 default hk]at hm hb
    cases ho2:s.on_[k]'oM with
    | true =>
     rw[ho2,cT]at ek
     rw[if_pos rfl,H3 (by omega:k<d.length),oS,← J6 0 (by omega:k<d.length),h3 k (Nat.le_refl _),H3 hk,oS]
     unfold A5g
     have w1:W (t-s.now)=t-s.now:=A8K oM oM
     have w2:W ((t-s.now)*p.batteries[k].rate)=(t-s.now)*p.batteries[k].rate:=A8K oM oM
     have w3:W (s.left.getD k 0-(t-s.now)*p.batteries[k].rate)=s.left.getD k 0-(t-s.now)*p.batteries[k].rate:=A8K oM oM
     rw[oS,w1,w2,w3,show(k:Int).toNat=k by omega]
     refine ih (k+1) _ (by rw[List.length_set];exact h1) (fun j hj=>?_) (fun j hj=>?_) oM oM
     ·rw[sG oM]
      by_cases e:j=k
      ·rw[if_pos e,e,ek]
      ·rw[if_neg e];exact h2 j oM
     ·rw[sG oM,if_neg oM];exact h3 j oM
    | false =>
     rw[ho2,cF]at ek
     rw[if_neg sM]
     refine ih (k+1) d h1 (fun j hj=>?_) (fun j hj=>h3 j oM) oM oM
     by_cases e:j=k
     ·rw[e,ek];exact h3 k (Nat.le_refl _)
     ·exact h2 j oM
   ·rw[if_neg oM]
    have:d=B14 p.batteries.length (B0f p s t):=B2D 0 h1 fun j hj=>h2 j oM
    rw[this]
    rfl
 exact key F 0 s.left k2 (fun j hj=>by omega) (fun j _=>rfl) oM oM
theorem D1A {F:Nat} {l:List Int} (hl:l.length<F∧l.length<9223372036854775808) (v:Int):D0F F l v=some (l.any fun e=>decide (v=e)):=by
 have key:∀ (n k:Nat),l.length<n+k→k≤l.length→C9k F l v (fun _=>some false) n k=some ((l.drop k).any fun e=>decide (v=e)):=fun n=>by
  induction n with
  | zero=>intro k h;omega
  | succ n ih =>
   intro k h h2
   rw[C9k]
   by_cases hk:k<l.length
   ·rw[if_pos oM,H3 hk,oS,S0 oM,ih (k+1) oM oM,lD hk,List.any_cons]
    by_cases hc:l[k]=v
    ·rw[if_pos hc,dT hc.symm];rfl
    ·rw[if_neg hc,dF (Ne.symm hc)];rfl
   ·rw[if_neg oM,lL oM];rfl
 rw[D0F,show(0:Int)=((0:Nat):Int)from rfl,key F 0 oM oM,List.drop_zero]
theorem D1u {F:Nat} {s:H2} (hl:s.go.length<F∧s.go.length<9223372036854775808):C70 F s=some (s.go.any fun e=>false==e):=by
 have key:∀ (n k:Nat),s.go.length<n+k→k≤s.go.length→C77 F s (fun _=>some false) n k=some ((s.go.drop k).any fun e=>false==e):=fun n=>by
  induction n with
  | zero=>intro k h;omega
  | succ n ih =>
   intro k h h2
   rw[C77]
   by_cases hk:k<s.go.length
   ·rw[if_pos oM,H3 hk,oS,S0 oM,ih (k+1) oM oM,lD hk,List.any_cons]
    cases s.go[k]<;>rfl
   ·rw[if_neg oM,lL oM];rfl
 rw[C70,show(0:Int)=((0:Nat):Int)from rfl,key F 0 oM oM,List.drop_zero]
theorem D2C {F:Nat} {p:D4} {s:H2} (hF:100<F) (ho:A5Y p) (hs:CF p s) (x:E0) {α:Type} (A B:Option α):(if x.poll=true then((C70 F s).bind fun rv=>if rv=true then A else B)else B)=bif A4N x s then B else A:=by
 have:=ho.s8;have:=hs.lg
 rw[D1u oM,oS]
 unfold A4N
 cases x.poll
 ·rfl
 ·rw[if_pos rfl]
  cases s.go.any (fun e=>false==e)<;>rfl
theorem D1m {F:Nat} {p:D4} {s:H2} {k:Nat} {x:E0} (hF:100<F) (ho:A5Y p) (hs:CF p s) (hx:B0B p k x) {others:List Int} (hl:others.length<F∧others.length<9223372036854775808):D0l F x s others=some (!A1Y x s others):=by
 have hu:=B0F hx.ua hx.us
 have hb:=ho.b6
 rw[D0l]
 have:=A4H (g:=C8g F x s others fun _=>some false) (f:=fun j=>decide (0<s.left.getD (x.use_.getD j 0).toNat 0)&&(s.on_.getD (x.use_.getD j 0).toNat false||others.any fun e=>decide (x.use_.getD j 0=e))) (len:=x.use_.length) (c:=some false) (fl:=some true) (fun n j hj=>?_) (fun n=>by rw[C8g,if_neg oM]) F 0 oM oM
 ·refine this.trans ?_
  rw[Nat.sub_zero,A93 x.use_ 0 (fun b=>decide (0<s.left.getD b.toNat 0)&&(s.on_.getD b.toNat false||others.any fun e=>decide (b=e)))]
  show(bif A1Y x s others then _ else _)=_
  cases A1Y x s others<;>rfl
 ·obtain⟨h1,h2⟩:=B1s hs hx hj
  have hd:=hx.us _ (List.getElem_mem hj)
  have hp:=(hs.l x.use_[j].toNat oM).1
  rw[C8g,if_pos oM,H3 hj,oS,show P3 s.left x.use_[j]=_ from h1,oS,show P3 s.on_ x.use_[j]=_ from h2,oS,D1A hl,oS,S0 oM,J6 0 hj]
  by_cases hz:s.left.getD x.use_[j].toNat 0=0
  ·rw[if_pos hz,dF oM];rfl
  ·rw[if_neg hz,dT oM]
   cases s.on_.getD x.use_[j].toNat false<;>cases(others.any fun e=>decide (x.use_[j]=e))<;>rfl
def C9y (o:Option (H2 × Int × H2)) (s:H2) (r:Except Int H2):Prop :=
 ∃ x e m,o=some (x,e,m)∧(m.begun.length=s.begun.length∧m.ended.length=s.ended.length∧m.go.length=s.go.length∧m.left.length=s.left.length∧m.on_.length=s.on_.length) ∧
  match r with
  | .ok s'=>e=0∧s'={x with begun:=m.begun,ended:=m.ended,go:=m.go,left:=m.left,on_:=m.on_}
  | .error w=>e=w∧w≠0
theorem C9y.err {s x:H2} {w:Int} (h:w≠0):C9y (some (x,w,s)) s (.error w):=⟨_,_,_,rfl,⟨rfl,rfl,rfl,rfl,rfl⟩,rfl,h⟩
theorem C9y.bif {b:Bool} {A B:Option (H2 × Int × H2)} {s:H2} {r q:Except Int H2} (h1:b=true→C9y A s r) (h2:b=false→C9y B s q):C9y (bif b then A else B) s (bif b then r else q):=by
 cases b with
 | true=>exact h1 rfl
 | false=>exact h2 rfl
theorem D2g {F:Nat} {p:D4} {s:H2} (hF:100<F) (ho:A5Y p) (hs:CF p s) {i:Nat} (hi:i<p.steps.length):C9y (C9r F p s i) s (B0G p s i s.now):=by
 have hx:=ho.t i hi
 have k1:=hs.lb;have k2:=ho.t16;have k3:=ho.b6;have k4:=hs.le
 have hbi:=hs.b i hi
 have hn:=B0F hx.na hx.nd
 have hon:=B0F hx.oa hx.on
 rw[J6 default hi]at hx hn hon
 rw[J6 0 oM]at hbi
 rw[C9r,H3 hi,oS,H3 (by omega:i<s.begun.length),oS]
 unfold B0G
 rw[J6 default hi,J6 0 (by omega:i<s.begun.length)]
 by_cases hb:s.begun[i]'oM = -1
 ·rw[if_pos hb,dT (by omega:s.begun[i]'oM<0),cT]
  have hrest:C9y (if s.held=true then(some (s,183,s))else(if p.steps[i].poll=true then((C70 F s).bind fun rv=>if rv=true then(some (s,184,s))else(C6y F s i p.steps[i]))else(C6y F s i p.steps[i]))) s (bif !s.held then
    bif A4N p.steps[i] s then
     bif A1Y p.steps[i] s p.steps[i].on_ then
      .ok {s with begun:=s.begun.set i s.now,on_:=onL p.steps[i].on_ true s.on_}
     else .error 185
    else .error 184
   else .error 183):=by
   rw[D2C hF ho hs]
   rw[show ∀ {α:Type} (b:Bool) (A B:α),(if b=true then A else B)=bif !b then B else A from fun b A B=>by cases b<;>rfl]
   refine C9y.bif (fun _=>?_) fun _ => .err dM
   ·refine C9y.bif (fun _=>?_) fun _ => .err dM
    rw[C6y,D1m hF ho hs hx oM,oS,D00]
    refine C9y.bif (fun _=>?_) fun _ => .err dM
    have hq:C6z F p.steps[i] (fun rv3 _=>some ({s with begun:=s.begun.set i s.now,on_:=rv3},(0:Int),{s with begun:=s.begun.set i s.now,on_:=rv3})) F s.on_ 0=some ({s with begun:=s.begun.set i s.now,on_:=onL p.steps[i].on_ true s.on_},0,{s with begun:=s.begun.set i s.now,on_:=onL p.steps[i].on_ true s.on_}):=by
     refine(A5I (g:=C6z F p.steps[i] (fun rv3 _=>some ({s with begun:=s.begun.set i s.now,on_:=rv3},(0:Int),{s with begun:=s.begun.set i s.now,on_:=rv3}))) (f:=fun o j=>o.set (p.steps[i].on_.getD j 0).toNat true) (len:=p.steps[i].on_.length) (c:=fun t2=>some ({s with begun:=s.begun.set i s.now,on_:=t2},(0:Int),{s with begun:=s.begun.set i s.now,on_:=t2})) (fun o _=>o.length=p.batteries.length) (fun o k _ h=>by rw[List.length_set];exact h) (fun n o k hk h=>?_) (fun n o h=>by rw[C6z,if_neg oM]) F s.on_ 0 hs.lo oM oM).trans ?_
     ·obtain⟨q,hq⟩:=B9y h (hx.on _ (List.getElem_mem hk))
      rw[C6z,if_pos oM,H3 hk,oS,hq,oS,J6 0 hk,S0 oM]
      rfl
     ·rw[Nat.sub_zero,B2c]
    show C9y (C6z F p.steps[i] (fun rv3 _=>some ({s with begun:=s.begun.set i s.now,on_:=rv3},(0:Int),{s with begun:=s.begun.set i s.now,on_:=rv3})) F s.on_ 0) _ _
    rw[hq]
    exact⟨_,_,_,rfl,⟨List.length_set ..,rfl,rfl,rfl,B5M _ _ _⟩,rfl,rfl⟩
  have:=A4H (g:=C76 F s p.steps[i] fun _=>if s.held=true then(some (s,183,s))else(if p.steps[i].poll=true then((C70 F s).bind fun rv=>if rv=true then(some (s,184,s))else(C6y F s i p.steps[i]))else(C6y F s i p.steps[i])))
   (f:=fun j=>A6e s (p.steps[i].need.getD j 0).toNat) (len:=p.steps[i].need.length) (fl:=some (s,182,s)) (fun n j hj=>?_) (fun n=>by rw[C76,if_neg oM]) F 0 oM oM
  ·refine this.symm▸?_
   rw[Nat.sub_zero,A93 p.steps[i].need 0 (fun n=>A6e s n.toNat)]
   exact C9y.bif (fun _=>hrest) fun _ => .err dM
  ·have hd:=hx.nd _ (List.getElem_mem hj)
   have hen:=hs.e p.steps[i].need[j].toNat oM
   have e1:p.steps[i].need[j]=((p.steps[i].need[j].toNat:Nat):Int):=by omega
   rw[C76,if_pos oM,H3 hj,oS,J6 0 hj,S0 oM]
   rw[show P3 s.ended p.steps[i].need[j]=some (s.ended.getD p.steps[i].need[j].toNat 0) by rw[e1,H3 (by omega:p.steps[i].need[j].toNat<s.ended.length),← e1,J6 0 oM],oS]
   unfold A6e
   by_cases hz:s.ended.getD p.steps[i].need[j].toNat 0 = -1
   ·rw[if_pos hz,dF oM];rfl
   ·rw[if_neg hz,dT oM];rfl
 ·rw[if_neg hb,dF (by omega:¬ s.begun[i]'oM<0)]
  exact .err dM
theorem D30 {p:D4} {s s2:H2} {a:D2} (h:A8L p s a = .ok s2):s2=B3q s (DoP (A1w p) (B1c s) a).1∧(DoP (A1w p) (B1c s) a).2=0:=by
 unfold A8L at h
 cases hd:decide ((DoP (A1w p) (B1c s) a).2=0)with
 | false=>rw[hd]at h;cases h
 | true=>rw[hd,cT]at h;injection h with h;exact⟨h.symm,of_decide_eq_true hd⟩
theorem D3z {p:D4} {s:H2} {a:D2} {w:Int} (h:A8L p s a = .error w):w=(DoP (A1w p) (B1c s) a).2∧w≠0:=by
 unfold A8L at h
 cases hd:decide ((DoP (A1w p) (B1c s) a).2=0)with
 | true=>rw[hd]at h;cases h
 | false=>rw[hd,cF]at h;injection h with h;subst h;exact⟨rfl,of_decide_eq_false hd⟩
abbrev D2r (F:Nat) (p:D4) (o:H2) (x:E0) (K:C3→Option (H2 × Int × H2)) (n:Nat) (d:C3) (k:Int):Option (H2 × Int × H2):=C9e F p o x (fun a b c d e f _=>K (C3.mk a b c d e f)) n d.now d.zones d.holder d.squibs d.siren d.storm k
theorem D2K (F:Nat) (p:D4) (o:H2) (x:E0) (K:C3→Option (H2 × Int × H2)) (n:Nat) (d:C3) (k:Int):D2r F p o x K (n+1) d k=if k<(x.acts.length:Int)then((P3 x.acts k).bind fun e5=>(D0o F (A1w p) d {e5 with at_:=o.now}).bind fun rv11=>if rv11.2=0 then D2r F p o x K n rv11.1 (W (k+1))else(some (B3q o d,rv11.2,o)))else K d:=rfl
theorem D04 {F:Nat} {p:D4} (hf:CtF F p) {o:H2} {x:E0} (hx:x.acts.length≤8) {K:C3→Option (H2 × Int × H2)}:∀ (n k:Nat) (d:C3),PdK p (B3q o d)→x.acts.length<n+k→k≤x.acts.length →
  (∃ d',A8v p o.now (x.acts.drop k) (B3q o d) = .ok (B3q o d')∧D2r F p o x K n d k=K d')∨(∃ w y,A8v p o.now (x.acts.drop k) (B3q o d) = .error w∧w≠0∧D2r F p o x K n d k=some (y,w,o))
 | 0,k,d,_,h,h2=>absurd h oM
 | n+1,k,d,hd,h,h2=>by
  rw[D2K]
  by_cases hk:k<x.acts.length
  ·rw[if_pos oM,H3 hk,oS,lD hk,S0 oM,D1g hf.pd (s:=d) (hd F hf.pd),oS]
   rw[show A8v p o.now (x.acts[k]::x.acts.drop (k+1)) (B3q o d)=(match A8L p (B3q o d) {x.acts[k]with at_:=o.now}with | .ok s'=>A8v p o.now (x.acts.drop (k+1)) s' | .error e => .error e)from rfl]
   cases ha:A8L p (B3q o d) {x.acts[k]with at_:=o.now}with
   | error w =>
    obtain⟨e1,e2⟩:=D3z ha
    have e1:w=(DoP (A1w p) d {x.acts[k]with at_:=o.now}).2:=e1
    refine .inr ⟨w,B3q o d,rfl,e2,?_⟩
    rw[← e1,if_neg e2]
   | ok s' =>
    obtain⟨e1,e2⟩:=D30 ha
    have e2:(DoP (A1w p) d {x.acts[k]with at_:=o.now}).2=0:=e2
    subst e1
    rw[if_pos e2]
    exact D04 hf hx n (k+1) (DoP (A1w p) d {x.acts[k]with at_:=o.now}).1 (B24 hd ha) oM oM
  ·rw[if_neg oM,lL oM]
   exact .inl ⟨d,rfl,rfl⟩
theorem D2Q {F:Nat} {p:D4} {s:H2} (hF:100<F) (hf:CtF F p) (ho:A5Y p) (hs:CF p s) {i:Nat} (hi:i<p.steps.length):C9y (D0e F p s i) s (B7v p s i s.now):=by
 have hx:=ho.t i hi
 have k1:=hs.lb;have k2:=ho.t16;have k3:=ho.b6;have k4:=hs.le;have t1:=ho.t1
 have hn:=hs.now
 have hbi:=hs.b i hi
 have hei:=hs.e i hi
 have hfn:=B0F hx.fa hx.off
 rw[J6 default hi]at hx hfn
 rw[J6 0 oM]at hbi hei
 rw[D0e,H3 hi,oS,H3 (by omega:i<s.begun.length),oS,H3 (by omega:i<s.ended.length),oS]
 unfold B7v B2o A6e
 rw[J6 default hi,J6 0 (by omega:i<s.begun.length),J6 0 (by omega:i<s.ended.length)]
 by_cases hb:s.begun[i]'oM = -1
 ·rw[if_pos hb,dF (by omega:¬ 0≤s.begun[i]'oM)]
  exact .err dM
 rw[if_neg hb,dT (by omega:0≤s.begun[i]'oM),Bool.true_and]
 by_cases he:s.ended[i]'oM = -1
 ·rw[if_pos he,dF (by omega:¬ 0≤s.ended[i]'oM),Bool.not_false,cT]
  rw[C9x,H3 (by omega:i<s.begun.length),oS,A8K (x:=s.now-s.begun[i]'oM) oM oM,C7L,oS,D2C hF ho hs,A4e,A0q]
  refine C9y.bif (fun _=>?_) fun _ => .err dM
  refine C9y.bif (fun _=>?_) fun _ => .err dM
  rw[C9d,D1m (others:=[]) hF ho hs hx ⟨by simp;omega,by simp⟩,oS,D00,C7L,oS,B23 t1 oM]
  refine C9y.bif (fun _=>?_) fun _ => .err dM
  have hJ:C9y (C8B F p s i p.steps[i]) s (match A8v p s.now p.steps[i].acts s with | .ok s' => .ok {s' with ended:=s'.ended.set i s.now,on_:=onL p.steps[i].off false s'.on_} | .error e => .error e):=by
   rw[show C8B F p s i p.steps[i]=D2r F p s p.steps[i] (fun d=>(P3 s.ended (i:Int)).bind fun e6=>(A5g s.ended (i:Int) s.now).bind fun q=>C6B F p.steps[i] (fun(rv12:(List Bool)) (x2:Int)=>some ((H2.mk s.now d.now d.zones d.holder d.squibs d.siren d.storm s.begun q s.held s.go s.left rv12),0,{s with ended:=q,on_:=rv12})) F s.on_ 0) F (B1c s) 0 from rfl]
   have hl:=D04 (F:=F) (o:=s) (K:=fun d=>(P3 s.ended (i:Int)).bind fun e6=>(A5g s.ended (i:Int) s.now).bind fun q=>C6B F p.steps[i] (fun(rv12:(List Bool)) (x2:Int)=>some ((H2.mk s.now d.now d.zones d.holder d.squibs d.siren d.storm s.begun q s.held s.go s.left rv12),0,{s with ended:=q,on_:=rv12})) F s.on_ 0) hf hx.a F 0 (B1c s) hs.pd (by have:=hx.a;omega) oM
   rw[List.drop_zero]at hl
   rcases hl with⟨d,h1,h2⟩ | ⟨w,y,h1,h2,h3⟩
   ·change D2r F p s p.steps[i] _ F (B1c s) 0=_ at h2
    rw[h2,show A8v p s.now p.steps[i].acts s = .ok (B3q s d)from h1,H3 (by omega:i<s.ended.length),oS]
    show C9y (C6B F p.steps[i] (fun rv12 _=>some ((H2.mk s.now d.now d.zones d.holder d.squibs d.siren d.storm s.begun (s.ended.set i s.now) s.held s.go s.left rv12),(0:Int),{s with ended:=s.ended.set i s.now,on_:=rv12})) F s.on_ 0) _ _
    have hq:C6B F p.steps[i] (fun rv12 _=>some ((H2.mk s.now d.now d.zones d.holder d.squibs d.siren d.storm s.begun (s.ended.set i s.now) s.held s.go s.left rv12),(0:Int),{s with ended:=s.ended.set i s.now,on_:=rv12})) F s.on_ 0=some ((H2.mk s.now d.now d.zones d.holder d.squibs d.siren d.storm s.begun (s.ended.set i s.now) s.held s.go s.left (onL p.steps[i].off false s.on_)),(0:Int),{s with ended:=s.ended.set i s.now,on_:=onL p.steps[i].off false s.on_}):=by
     refine(A5I (g:=C6B F p.steps[i] (fun rv12 _=>some ((H2.mk s.now d.now d.zones d.holder d.squibs d.siren d.storm s.begun (s.ended.set i s.now) s.held s.go s.left rv12),(0:Int),{s with ended:=s.ended.set i s.now,on_:=rv12}))) (f:=fun o j=>o.set (p.steps[i].off.getD j 0).toNat false) (len:=p.steps[i].off.length) (c:=fun rv12=>some ((H2.mk s.now d.now d.zones d.holder d.squibs d.siren d.storm s.begun (s.ended.set i s.now) s.held s.go s.left rv12),(0:Int),{s with ended:=s.ended.set i s.now,on_:=rv12})) (fun o _=>o.length=p.batteries.length) (fun o k _ h=>by rw[List.length_set];exact h) (fun n o k hk h=>?_) (fun n o h=>by rw[C6B,if_neg oM]) F s.on_ 0 hs.lo oM oM).trans ?_
     ·obtain⟨q,hq⟩:=B9y h (hx.off _ (List.getElem_mem hk))
      rw[C6B,if_pos oM,H3 hk,oS,hq,oS,J6 0 hk,S0 oM]
      rfl
     ·rw[Nat.sub_zero,B2c]
    rw[hq]
    exact⟨_,_,_,rfl,⟨rfl,List.length_set ..,rfl,rfl,B5M _ _ _⟩,rfl,rfl⟩
   ·change D2r F p s p.steps[i] _ F (B1c s) 0=_ at h3
    rw[h3,show A8v p s.now p.steps[i].acts s = .error w from h1]
    exact .err h2
  by_cases hl:i=p.steps.length-1
  ·rw[if_pos oM,dF (by omega:¬ i<p.steps.length-1),Bool.false_or,A4e,A0q]
   exact C9y.bif (fun _=>hJ) fun _ => .err dM
  ·rw[if_neg oM,dT (by omega:i<p.steps.length-1)]
   exact hJ
 ·rw[if_neg he,dT (by omega:0≤s.ended[i]'oM)]
  exact .err dM
def C9T (o:Option (H2 × Int)) (r:Except Int H2):Prop :=
 ∃ x,o=some x∧match r with
  | .ok s'=>x=(s',0)
  | .error w=>x.2=w∧w≠0
theorem C9T.ok {s:H2}:C9T (some (s,0)) (.ok s):=⟨_,rfl,rfl⟩
theorem C9T.err {s:H2} {w:Int} (h:w≠0):C9T (some (s,w)) (.error w):=⟨_,rfl,rfl,h⟩
theorem C9T.bif {b:Bool} {A B:Option (H2 × Int)} {r q:Except Int H2} (h1:b=true→C9T A r) (h2:b=false→C9T B q):C9T (bif b then A else B) (bif b then r else q):=by
 cases b with
 | true=>exact h1 rfl
 | false=>exact h2 rfl
theorem C4B {a b:Nat} (h:a=b):lnO a b=some ():=by unfold lnO;rw[if_pos h]
theorem C9y.fin {o:Option (H2 × Int × H2)} {s:H2} {r:Except Int H2} (h:C9y o s r):C9T (Option.bind o fun rv3=>(lnO rv3.2.2.begun.length s.begun.length).bind fun u=>(lnO rv3.2.2.ended.length s.ended.length).bind fun u2=>(lnO rv3.2.2.go.length s.go.length).bind fun u3=>(lnO rv3.2.2.left.length s.left.length).bind fun u4=>(lnO rv3.2.2.on_.length s.on_.length).bind fun u5=>some ({rv3.1 with begun:=rv3.2.2.begun,ended:=rv3.2.2.ended,go:=rv3.2.2.go,left:=rv3.2.2.left,on_:=rv3.2.2.on_},rv3.2.1)) r:=by
 obtain⟨x,e,m,rfl,⟨h1,h2,h3,h4,h5⟩,hr⟩:=h
 rw[oS,C4B h1,oS,C4B h2,oS,C4B h3,oS,C4B h4,oS,C4B h5,oS]
 cases r with
 | ok s'=>obtain⟨rfl,rfl⟩:=hr;exact .ok
 | error w=>obtain⟨rfl,hw⟩:=hr;exact .err hw
theorem D1z {F:Nat} {p:D4} {s:H2} (hF:100<F) (hf:CtF F p) (ho:A5Y p) (hs:CF p s) {i:Nat} (hi:i<p.points.length):C9T ((C8O F p s i).bind fun rv5=>(lnO rv5.2.2.begun.length s.begun.length).bind fun u11=>(lnO rv5.2.2.ended.length s.ended.length).bind fun u12=>some ({rv5.1 with begun:=rv5.2.2.begun,ended:=rv5.2.2.ended},rv5.2.1)) (B9i p s i):=by
 have k1:=hs.lb;have k2:=hs.le;have k16:=ho.t16;have k3:=hs.lg;have k4:=hs.lo;have k5:=ho.s8;have k6:=ho.b6
 have hp:=ho.pt i hi
 have hq:=(hs.pd F hf.pd).q
 rw[J6 0 hi]at hp
 obtain⟨m,hm⟩:∃ m:Nat,p.points[i]=m:=⟨p.points[i].toNat,by omega⟩
 have hm':m<p.steps.length:=by omega
 have hbm:=hs.b m hm'
 rw[J6 0 oM]at hbm
 rw[C8O,H3 hi,oS,hm,H3 (by omega:m<s.begun.length),oS]
 unfold B9i
 rw[J6 0 hi,hm,show(m:Int).toNat=m by omega,J6 0 (by omega:m<s.begun.length)]
 by_cases hb:s.begun[m]'oM = -1
 ·rw[if_pos hb,dF (by omega:¬ 0≤s.begun[m]'oM),oS,C4B rfl,oS,C4B rfl,oS]
  exact .err (show(181:Int)≠0 by decide)
 rw[if_neg hb,dT (by omega:0≤s.begun[m]'oM),cT,D1A (l:=s.J3) (by have:s.J3.length<F∧s.J3.length≤17592186044416:=hq;omega),oS]
 cases s.J3.any (fun e=>decide ((1:Int)=e))with
 | true =>
  rw[if_pos rfl,oS,C4B rfl,oS,C4B rfl,oS]
  exact .err (show(188:Int)≠0 by decide)
 | false =>
  rw[if_neg sM,Bool.not_false,cT]
  have key:∀ (n k:Nat) (a b:List Int),m≤k→a.length=p.steps.length→b.length=p.steps.length→(∀ j,a.getD j 0=if m≤j∧j<k then -1 else s.begun.getD j 0)→(∀ j,b.getD j 0=if m≤j∧j<k then -1 else s.ended.getD j 0)→p.steps.length<n+k→k≤p.steps.length →
   C7p F (fun(s2:(List Int)) (s3:(List Int)) (i:Int)=>(B1D (s.go.length:Int)).bind fun q=>(B1D (s.on_.length:Int)).bind fun q2=>some ({s with begun:=s2,ended:=s3,held:=true,go:=(List.replicate q false),on_:=(List.replicate q2 false)},0,{s with begun:=s2,ended:=s3})) n a b k
    = some ({s with begun:=A6r p s.begun m,ended:=A6r p s.ended m,held:=true,go:=List.replicate s.go.length false,on_:=List.replicate s.on_.length false},0,{s with begun:=A6r p s.begun m,ended:=A6r p s.ended m}):=fun n=>by
   induction n with
   | zero=>intro k a b _ _ _ _ _ h;omega
   | succ n ih =>
    intro k a b hmk ha hb h1 h2 h h'
    rw[C7p]
    by_cases hk:k<p.steps.length
    ·rw[if_pos oM,H3 (by omega:k<a.length),oS,H3 (by omega:k<b.length),S0 oM]
     unfold A5g
     rw[oS,oS,oS,show(k:Int).toNat=k by omega]
     refine ih (k+1) _ _ oM (by rw[List.length_set];exact ha) (by rw[List.length_set];exact hb) (fun j=>?_) (fun j=>?_) oM oM
     ·rw[sG oM,h1 j]
      by_cases e1:j=k
      ·rw[if_pos e1]
       by_cases e2:m≤j
       ·rw[if_pos oM]
       ·omega
      ·rw[if_neg e1]
       by_cases e2:m≤j∧j<k
       ·rw[if_pos e2,if_pos oM]
       ·rw[if_neg e2,if_neg oM]
     ·rw[sG oM,h2 j]
      by_cases e1:j=k
      ·rw[if_pos e1]
       by_cases e2:m≤j
       ·rw[if_pos oM]
       ·omega
      ·rw[if_neg e1]
       by_cases e2:m≤j∧j<k
       ·rw[if_pos e2,if_pos oM]
       ·rw[if_neg e2,if_neg oM]
    ·rw[if_neg oM,B0U oM,oS,B0U oM,oS]
     have ea:a=A6r p s.begun m:=B2D 0 ha fun j hj=>by
      rw[h1 j]
      by_cases e2:m≤j
      ·rw[if_pos oM,if_pos e2]
      ·rw[if_neg oM,if_neg e2]
     have eb:b=A6r p s.ended m:=B2D 0 hb fun j hj=>by
      rw[h2 j]
      by_cases e2:m≤j
      ·rw[if_pos oM,if_pos e2]
      ·rw[if_neg oM,if_neg e2]
     rw[ea,eb]
  rw[key F m s.begun s.ended (Nat.le_refl _) k1 k2 (fun j=>by rw[if_neg oM]) (fun j=>by rw[if_neg oM]) oM oM,oS,C4B (by show(A6r p s.begun m).length=_;unfold A6r;rw[B15,k1]),oS,C4B (by show(A6r p s.ended m).length=_;unfold A6r;rw[B15,k2]),oS]
  exact .ok
theorem D1p {F:Nat} {p:D4} {s:H2} (ho:A5Y p) (hs:CF p s):C9f F s=some (A6e s (p.steps.length-1)):=by
 have t1:=ho.t1;have t16:=ho.t16;have k:=hs.le
 have he:=hs.e (p.steps.length-1) oM
 rw[C9f,k,B23 oM oM,H3 (by omega:p.steps.length-1<s.ended.length),oS,A6e]
 rw[J6 0 oM]at he ⊢
 by_cases h:s.ended[p.steps.length-1]'oM = -1
 ·rw[dT h,dF oM];rfl
 ·rw[dF h,dT oM];rfl
theorem D2B {F:Nat} {s:H2} (e:C7):C9T (C9E F e s) (B5G s e.kind):=by
 rw[C9E]
 unfold B5G C8s
 cases h1:s.held<;>cases h2:decide (e.kind=3)<;>first | exact .err dM | exact .ok
theorem D3S {F:Nat} {p:D4} {s:H2} (hs:CF p s) {i:Nat} (hi:i<p.stations.length) {e:C7} (he:e.what=i) (hk:e.kind=5∨e.kind=6):C9T (C9D F e s) (B9m s e.kind i):=by
 have k1:=hs.lg
 have h6:decide (e.kind=6)=!decide (e.kind=5):=by rcases hk with h | h<;>rw[h]<;>rfl
 rw[C9D,he,H3 (by omega:i<s.go.length),oS,h6]
 unfold B9m C8s
 rw[J6 false (by omega:i<s.go.length)]
 cases h1:s.go[i]'oM<;>cases h2:decide (e.kind=5)<;>first | exact .err dM | (cases h3:s.held<;>exact .ok)
theorem D3R {F:Nat} {p:D4} {s:H2} (hf:CtF F p) (hs:CF p s) (e:C7):C9T ((D0o F (A1w p) (B1c s) (A8M e)).bind fun rv6=>if rv6.2=0 then(D05 F s rv6)else(some (s,rv6.2))) (A8L p s (A8M e)):=by
 rw[D1g hf.pd (hs.pd F hf.pd),oS,A4e]
 exact C9T.bif (fun _ => .ok) fun h => .err (of_decide_eq_false h)
theorem D2P {F:Nat} {p:D4} {s:H2} (hs:CF p s) {i:Nat} (hi:i<p.batteries.length):C9T ((P3 s.on_ (i:Int)).bind fun e=>if e=true then(some (s,181))else((P3 p.batteries (i:Int)).bind fun e2=>(P3 s.left (i:Int)).bind fun e3=>(A5g s.left (i:Int) e2.charge).bind fun q=>C8s F s s.held s.go q)) (B0v p s i):=by
 have k1:=hs.lo;have k2:=hs.ll
 rw[H3 (by omega:i<s.on_.length),oS,H3 hi,oS,H3 (by omega:i<s.left.length),oS]
 unfold B0v
 rw[J6 false (by omega:i<s.on_.length),J6 default hi]
 cases s.on_[i]'oM
 ·exact .ok
 ·exact .err dM
theorem D3k {F:Nat} {p:D4} {s:H2} (hf:CtF F p) (ho:A5Y p) (hs:CF p s) (hm:FmC p s) {e:C7} (he:B18 p e):C9T (D2i F p s e) (doC p s e):=by
 have hF:=hf.pd.f
 rw[D2i]
 unfold doC
 by_cases ht:s.now≤e.at_
 ·rw[if_neg oM,dT ht,cT,D1p ho hs,oS]
  rw[show ∀ {α:Type} (b:Bool) (A B:α),(if b=true then A else B)=bif !b then B else A from fun b A B=>by cases b<;>rfl]
  refine C9T.bif (fun _=>?_) fun _ => .err dM
  have hs2:=B5P ho hs ⟨ht,he.t.2⟩
  rw[D2l hF ho hs hm ⟨ht,he.t.2⟩,oS]
  have hw:A3r e.kind=false→∃ i:Nat,e.what=i∧i<A20 p e.kind:=fun hn=>by
   have:=he.w hn
   exact⟨e.what.toNat,by omega,by omega⟩
  have hk:=he.k
  unfold B3L
  by_cases h1:e.kind=1
  ·rw[if_pos h1,if_pos h1]
   obtain⟨i,hi,hi2⟩:=hw (by rw[h1];rfl)
   have hi3:i<p.steps.length:=by have:A20 p e.kind=p.steps.length:=by rw[h1];rfl
                                 omega
   rw[hi]
   exact C9y.fin (D2g hF ho hs2 hi3)
  rw[if_neg h1,if_neg h1]
  by_cases h2:e.kind=2
  ·rw[if_pos h2,if_pos h2]
   obtain⟨i,hi,hi2⟩:=hw (by rw[h2];rfl)
   have hi3:i<p.steps.length:=by have:A20 p e.kind=p.steps.length:=by rw[h2];rfl
                                 omega
   rw[hi]
   exact C9y.fin (D2Q hF hf ho hs2 hi3)
  rw[if_neg h2,if_neg h2]
  by_cases h3:e.kind=3
  ·rw[if_pos h3,if_pos (.inl h3)];exact D2B e
  rw[if_neg h3]
  by_cases h4:e.kind=4
  ·rw[if_pos h4,if_pos (.inr h4)];exact D2B e
  rw[if_neg h4,if_neg (by omega:¬ (e.kind=3∨e.kind=4))]
  by_cases h5:e.kind=5∨e.kind=6
  ·obtain⟨i,hi,hi2⟩:=hw (by rcases h5 with h | h<;>rw[h]<;>rfl)
   have hi3:i<p.stations.length:=by have:A20 p e.kind=p.stations.length:=by rcases h5 with h | h<;>rw[h]<;>rfl
                                    omega
   have:=D3S (F:=F) hs2 hi3 hi h5
   rw[if_pos h5,show e.what.toNat=i by omega]
   rcases h5 with h | h
   ·rw[if_pos h];exact this
   ·rw[if_neg oM,if_pos h];exact this
  rw[if_neg h5,if_neg oM,if_neg oM]
  by_cases h7:e.kind=7
  ·rw[if_pos h7,if_pos h7]
   obtain⟨i,hi,hi2⟩:=hw (by rw[h7];rfl)
   have hi3:i<p.points.length:=by have:A20 p e.kind=p.points.length:=by rw[h7];rfl
                                  omega
   rw[hi]
   exact D1z hF hf ho hs2 hi3
  rw[if_neg h7,if_neg h7]
  by_cases h8:e.kind=8
  ·rw[if_pos h8,if_pos h8];exact D3R hf hs2 e
  rw[if_neg h8,if_neg h8,if_pos oM]
  obtain⟨i,hi,hi2⟩:=hw (by rw[show e.kind=9 by omega];rfl)
  have hi3:i<p.batteries.length:=by have:A20 p e.kind=p.batteries.length:=by rw[show e.kind=9 by omega];rfl
                                    omega
  rw[hi]
  exact D2P hs2 hi3
 ·rw[if_pos oM,dF ht]
  exact .err dM
theorem D3n {F:Nat} {p:D4} (hf:CtF F p) (ho:A5Y p) {l:List C7} (hl:l.length≤100) (he:∀ e∈l,B18 p e) {K:H2→List Int→Option (H2 × List Int × Int)}:∀ (n k:Nat) (x:H2 × List Int),CF p x.1→FmC p x.1→x.2.length=k→l.length<n+k→k≤l.length →
  C8e F p l (fun a w _=>K a w) n x.1 x.2 k=K (A3F p x (l.drop k)).1 (A3F p x (l.drop k)).2
 | 0,k,x,_,_,_,h,h2=>absurd h oM
 | n+1,k,x,hs,hm,hx,h,h2=>by
  rw[C8e]
  by_cases hk:k<l.length
  ·have hev:=he _ (List.getElem_mem hk)
   obtain⟨c1,c2⟩:=B43 (x:=x) ho hs hev
   have c3:FmC p (A7y p x l[k]).1:=by
    unfold A7y
    cases hd:doC p x.1 l[k]with
    | ok s=>exact D4d hm hd
    | error w=>exact hm
   have ih:=D3n hf ho hl he (K:=K) n (k+1) (A7y p x l[k]) c1 c3 oM oM oM
   obtain⟨y,hy,hr⟩:=D3k hf ho hs hm hev
   rw[if_pos oM,H3 hk,oS,hy,oS,lD hk,show A3F p x (l[k]::l.drop (k+1))=A3F p (A7y p x l[k]) (l.drop (k+1))from rfl,← ih]
   unfold A7y C9q
   rw[A8O oM,oS,S0 oM]
   cases hd:doC p x.1 l[k]with
   | ok s=>rw[hd]at hr;subst hr;rw[if_pos rfl]
   | error w=>rw[hd]at hr;obtain⟨rfl,hw⟩:=hr;rw[if_neg hw];rfl
  ·rw[if_neg oM,lL oM]
   rfl
theorem D3m {F:Nat} {p:D4} (hf:CtF F p) (ho:A5Y p) {l:List C7} (hl:l.length≤100) {K:Int→Option (H2 × List Int × Int)}:∀ (n k:Nat),l.length<n+k→k≤l.length →
  C8f F p l (fun r _=>K r) n 0 k=K (A8k p (l.drop k))
 | 0,k,h,h2=>absurd h oM
 | n+1,k,h,h2=>by
  rw[C8f]
  by_cases hk:k<l.length
  ·rw[if_pos oM,if_pos rfl,H3 hk,oS,D2j hf ho,oS,S0 oM,lD hk,A8k]
   by_cases h0:A5H p l[k]=0
   ·rw[h0,D3m hf ho hl n (k+1) oM oM];rfl
   ·rw[dF h0,cF]
    obtain⟨m,rfl⟩:∃ m,n=m+1:=⟨n-1,by omega⟩
    rw[C8f]
    split<;>first | rfl | (rw[if_neg h0];rfl) | rw[if_neg h0]
  ·rw[if_neg oM,lL oM]
   rfl
theorem D2x {F:Nat} {p:D4} (hf:CtF F p) (l:List C7):D03 F p l=some (C1e (A0O p l).1,(A0O p l).2.1,(A0O p l).2.2):=by
 have hF:=hf.pd.f
 have hJ:∀ w:Int,w≠0→C8d F p l w=some (B9C,[],w):=fun w hw=>by
  rw[C8d]
  obtain⟨m,rfl⟩:∃ m,F=m+1:=⟨F-1,by omega⟩
  rw[C8f]
  have:C8y (m+1) p l w=some (B9C,[],w):=by rw[C8y,if_neg hw];rfl
  split<;>first | exact this | (rw[if_neg hw];exact this)
 rw[D03,D2h hf,oS]
 unfold A0O
 by_cases h0:(A35 p).2.2=0
 ·have ho:=A95 h0
  rw[if_pos h0,if_pos h0]
  by_cases h1:100<(l.length:Int)
  ·rw[if_pos h1,if_pos h1];exact hJ 3 dM
  ·rw[if_neg h1,if_neg h1,h0,C8d]
   refine(D3m (K:=fun x=>C8y F p l x) hf ho oM F 0 oM oM).trans ?_
   rw[List.drop_zero]
   unfold C8y
   by_cases h2:A8k p l=0
   ·rw[if_pos h2,if_pos h2,D2m hf ho,oS]
    exact(D3n (K:=fun a w=>some (a,w,(0:Int))) hf ho oM (B2F h2) F 0 (A0U p,[]) (B1z ho) (D3s ho) rfl oM oM).trans (by rw[List.drop_zero];rfl)
   ·rw[if_neg h2,if_neg h2];rfl
 ·rw[if_neg h0,if_neg h0]
  exact hJ _ h0
def A5Z (p:D4) (s:H2) (k:Nat):Int:=bif s.on_.getD k false then s.now+(s.left.getD k 0+(p.batteries.getD k default).rate-1)/(p.batteries.getD k default).rate else -1
theorem C2F {a r:Int} (ha:0≤a∧a≤2000000) (hr:1≤r):0≤a/r∧a/r≤2000000:=by
 constructor
 ·exact Int.ediv_nonneg ha.1 oM
 ·exact Int.le_trans (Int.ediv_le_self _ ha.1) ha.2
theorem C2u {F:Nat} {p:D4} {s:H2} (hF:100<F) (ho:A5Y p) (hs:CF p s):∀ (n k:Nat),p.batteries.length<n+k→k≤p.batteries.length →
  A3S F p (dsk p s) (fun lv _=>some (lv,0)) n (B14 k (A5Z p s)) k=some (B14 p.batteries.length (A5Z p s),0)
 | 0,k,h,h2=>absurd h oM
 | n+1,k,h,h2=>by
  have b6:=ho.b6
  rw[A3S]
  by_cases hk:k<p.batteries.length
  ·have k1:=hs.lo;have k2:=hs.ll;have hn:=hs.now
   obtain⟨hc,hr⟩:=ho.b k hk
   have hl:=hs.l k hk
   have hsn:B14 k (A5Z p s)++[A5Z p s k]=B14 (k+1) (A5Z p s):=by unfold B14;rw[List.range_succ,List.map_append];rfl
   have j1:∀ v,v=A5Z p s k→C1n F (A3S F p (dsk p s) (fun lv _=>some (lv,0)) n) (B14 k (A5Z p s)) k v=some (B14 p.batteries.length (A5Z p s),0):=fun v hv=>by
    rw[C1n,A8O (by rw[B15];omega),oS,S0 oM,hv,hsn]
    exact C2u hF ho hs n (k+1) oM oM
   rw[if_pos oM,H3 hk,oS,← J6 default hk,show P3 (dsk p s).B0 k=some (s.on_.getD k false) by rw[J6 false oM];exact H3 (show k<s.on_.length by omega),oS]
   unfold A5Z at j1
   cases hon:s.on_.getD k false with
   | true =>
    rw[hon]at j1
    have hd:=C2F (a:=s.left.getD k 0+(p.batteries.getD k default).rate-1) oM hr.1
    rw[if_pos rfl,show P3 (dsk p s).A7 k=some (s.left.getD k 0) by rw[J6 0 oM];exact H3 (show k<s.left.length by omega),oS,if_neg oM,A8K (x:=s.left.getD k 0+(p.batteries.getD k default).rate) oM oM,A8K (x:=s.left.getD k 0+(p.batteries.getD k default).rate-1) oM oM,Int.tdiv_eq_ediv_of_nonneg oM,A8K (x:=(s.left.getD k 0+(p.batteries.getD k default).rate-1)/(p.batteries.getD k default).rate) oM oM,A8K (x:=(dsk p s).H6+_) (by show _≤s.now+_;omega) (by show s.now+_<_;omega)]
    exact j1 _ rfl
   | false =>
    rw[hon]at j1
    rw[if_neg sM]
    exact j1 _ rfl
  ·obtain rfl:k=p.batteries.length:=by omega
   rw[if_neg oM]
theorem C27 {F:Nat} {p:D4} (hf:CtF F p) {l:List C7} {s:H2} (h:(A0O p l).1=some s):C10 F p l=some (B14 p.batteries.length (A5Z p s),0):=by
 obtain⟨h1,ho,hl,he,_,_,_,_⟩:=A8D h
 have hs:CF p s:=by rw[(C1l h).1];exact C16 ho (B1z ho) he
 have hF:=hf.pd.f
 have b6:=ho.b6
 rw[C10,B9a hf,oS,h]
 show(if(A0O p l).2.2=0 then _ else _)=_
 rw[if_pos h1]
 exact C2u hF ho hs F 0 oM oM
def D3H (p:D4) (s:H2) (t:Int) (acc:List Int) (k:Nat):List Int:=match doC p s (C7.mk t 1 k 0 0 0 0 0)with
 | .ok _=>acc++[(k:Int)]
 | .error _=>acc
theorem D4f {p:D4} {s:H2} {t:Int} {acc:List Int} {k:Nat} (h:acc.length≤k):(D3H p s t acc k).length≤k+1:=by
 unfold D3H
 split
 ·rw[List.length_append];exact Nat.succ_le_succ h
 ·exact Nat.le_succ_of_le h
def D4p (p:D4) (s:H2) (t:Int):List Int:=(List.range' 0 p.steps.length).foldl (D3H p s t) []
theorem D4M {p:D4} {s:H2} {t:Int}:(D4p p s t).length≤p.steps.length:=by
 have key:∀ (m k:Nat) (acc:List Int),acc.length≤k→((List.range' k m).foldl (D3H p s t) acc).length≤k+m:=fun m=>by
  induction m with
  | zero=>intro k acc h;exact h
  | succ m ih=>intro k acc h;rw[List.range'_succ,List.foldl_cons];have:=ih (k+1) (D3H p s t acc k) (D4f h);omega
 have:=key p.steps.length 0 [] (Nat.le_refl 0)
 rw[Nat.zero_add]at this
 exact this
def D42 (p:D4) (l:List C7) (t:Int):List Int × Int:=match (A0O p l).1 with
 | none=>([],(A0O p l).2.2)
 | some s=>bif N9 t s.now 100000 then([],7)else(D4p p s t,0)
theorem D4N {p:D4} {t:Int} (ht:0≤t∧t≤100000) {k:Nat} (hk:k<p.steps.length):B18 p (C7.mk t 1 k 0 0 0 0 0) where
 t:=ht
 k:=⟨by show(1:Int)≤1;decide,by show(1:Int)≤9;decide⟩
 w _:=by
  show(0:Int)≤(k:Int)∧(k:Int)<(p.steps.length:Int)
  omega
 a h:=by cases h
theorem D5t {F:Nat} {p:D4} {s:H2} {t:Int} (hf:CtF F p) (ho:A5Y p) (hs:CF p s) (hm:FmC p s) (ht:0≤t∧t≤100000):B7j F p t (dsk p s) (fun lv _=>some (lv,0)) F [] 0=some (D4p p s t,0):=by
 have t16:=ho.t16;have hF:=hf.pd.f
 refine(A5I (g:=B7j F p t (dsk p s) (fun lv _=>some (lv,0))) (f:=D3H p s t) (len:=p.steps.length) (c:=fun lv=>some (lv,(0:Int))) (fun acc k=>acc.length≤k) (fun acc k _ h=>D4f h) (fun n acc k hk h=>?_) (fun n acc h=>by rw[B7j,if_neg oM]) F [] 0 (Nat.le_refl 0) oM oM).trans ?_
 ·have he:=D4N (p:=p) ht hk
  obtain⟨x,_,hr⟩:=D3k hf ho hs hm he
  rw[B7j,if_pos oM,C0v hf ho hs he,oS]
  unfold D3H
  cases hd:doC p s (C7.mk t 1 k 0 0 0 0 0)with
  | ok s' =>
   show C2j F _ acc k 0=_
   rw[C2j,if_pos rfl,A8O oM,oS,S0 oM]
  | error w =>
   rw[hd]at hr
   show C2j F _ acc k w=_
   rw[C2j,if_neg hr.2,S0 oM]
 ·rfl
theorem D5r {F:Nat} {p:D4} {s:H2} {t:Int} {rv:H2 × List Int × Int} (hf:CtF F p) (ho:A5Y p) (hs:CF p s) (hm:FmC p s) (ht:0≤t∧t≤100000) (hv:rv.1=s):C9S F p t rv (fun lv _=>some (lv,0)) F [] 0=some (D4p p s t,0):=by
 have t16:=ho.t16;have hF:=hf.pd.f
 refine(A5I (g:=C9S F p t rv (fun lv _=>some (lv,0))) (f:=D3H p s t) (len:=p.steps.length) (c:=fun lv=>some (lv,(0:Int))) (fun acc k=>acc.length≤k) (fun acc k _ h=>D4f h) (fun n acc k hk h=>?_) (fun n acc h=>by rw[C9S,if_neg oM]) F [] 0 (Nat.le_refl 0) oM oM).trans ?_
 ·have he:=D4N (p:=p) ht hk
  obtain⟨x,hx,hr⟩:=D3k hf ho hs hm he
  rw[C9S,if_pos oM,hv,hx,oS]
  unfold D3H
  cases hd:doC p s (C7.mk t 1 k 0 0 0 0 0)with
  | ok s' =>
   rw[hd]at hr
   subst hr
   rw[if_pos rfl,A8O oM,oS,S0 oM]
  | error w =>
   rw[hd]at hr
   obtain⟨rfl,hw⟩:=hr
   rw[if_neg hw,S0 oM]
 ·rfl
theorem D4E {p:D4}:∀ {l:List C7} {x:H2 × List Int},FmC p x.1→FmC p (A3F p x l).1
 | [],x,h=>h
 | e::l,x,h=>D4E (l:=l) (x:=A7y p x e) (by
  unfold A7y
  cases hd:doC p x.1 e with
  | ok s=>exact D4d h hd
  | error w=>exact h)
theorem D4K {p:D4} {l:List C7} {s:H2} (h:(A0O p l).1=some s):(A0O p l).2.2=0∧A5Y p∧CF p s∧FmC p s:=by
 obtain⟨h1,ho,hl,he,hr,_,_,_⟩:=A8D h
 exact⟨h1,ho,by rw[hr];exact(B3i (x:=(A0U p,[])) ho (B1z ho) he).1,by rw[hr];exact D4E (x:=(A0U p,[])) (D3s ho)⟩
theorem D5c {F:Nat} {p:D4} (hf:CtF F p) (l:List C7) (t:Int):C2r F p l t=some (D42 p l t)∧D3G F p l t=some (D42 p l t):=by
 rw[C2r,B9a hf,oS,D3G,D2x hf,oS]
 unfold D42
 cases h:(A0O p l).1 with
 | none =>
  have h1:=B1r h
  constructor
  ·show(if(A0O p l).2.2=0 then _ else _)=_
   rw[if_neg h1]
  ·rw[if_neg h1,D1x,if_neg h1]
 | some s =>
  obtain⟨h1,ho,hs,hm⟩:=D4K h
  have hn:=hs.now
  constructor
  ·show(if(A0O p l).2.2=0 then _ else _)=_
   rw[if_pos h1,X2,oS]
   show(if N9 t s.now 100000=true then _ else _)=some (bif N9 t s.now 100000 then _ else _)
   cases hc:N9 t s.now 100000 with
   | true=>rfl
   | false =>
    have:=O6.1 hc
    exact D5t hf ho hs hm ⟨by omega,by omega⟩
  ·rw[if_pos h1,C7L,oS,D00]
   show(bif N9 t s.now 100000 then _ else _)=some (bif N9 t s.now 100000 then _ else _)
   cases hc:N9 t s.now 100000 with
   | true=>rfl
   | false =>
    have:=O6.1 hc
    rw[cF,cF,D1x,if_pos h1]
    exact D5r hf ho hs hm ⟨by omega,by omega⟩ rfl
theorem D5f {F:Nat} {p:D4} {s:H2} {rv:H2 × List Int × Int} (hF:100<F) (ho:A5Y p) (hs:CF p s) (hv:rv.1=s):∀ (n k:Nat),p.batteries.length<n+k→k≤p.batteries.length →
  C8G F p rv (fun lv _=>some (lv,0)) n (B14 k (A5Z p s)) k=some (B14 p.batteries.length (A5Z p s),0)
 | 0,k,h,h2=>absurd h oM
 | n+1,k,h,h2=>by
  have b6:=ho.b6
  have k1:=hs.lo;have k2:=hs.ll;have hn:=hs.now
  rw[C8G,hv]
  by_cases hk:k<p.batteries.length
  ·obtain⟨hc,hr⟩:=ho.b k hk
   have hl:=hs.l k hk
   have j1:∀ v,v=A5Z p s k→D2q F (C8G F p rv (fun lv _=>some (lv,0)) n) (B14 k (A5Z p s)) k v=some (B14 p.batteries.length (A5Z p s),0):=fun v hv2=>by
    rw[D2q,A8O (by rw[B15];omega),oS,S0 oM,hv2,C6F]
    exact D5f hF ho hs hv n (k+1) oM oM
   rw[if_pos oM,H3 hk,← J6 default hk,H3 (by omega:k<s.on_.length),← J6 false oM,oS,H3 (by omega:k<s.left.length),← J6 0 oM]
   unfold A5Z at j1
   cases hon:s.on_.getD k false with
   | true =>
    rw[hon]at j1
    have hd:=C2F (a:=s.left.getD k 0+(p.batteries.getD k default).rate-1) oM hr.1
    rw[if_pos rfl,oS,oS,if_neg oM,A8K (x:=s.left.getD k 0+(p.batteries.getD k default).rate) oM oM,A8K (x:=s.left.getD k 0+(p.batteries.getD k default).rate-1) oM oM,Int.tdiv_eq_ediv_of_nonneg oM,A8K (x:=(s.left.getD k 0+(p.batteries.getD k default).rate-1)/(p.batteries.getD k default).rate) oM oM,A8K (x:=s.now+_) oM oM]
    exact j1 _ rfl
   | false =>
    rw[hon]at j1
    rw[if_neg sM]
    exact j1 _ rfl
  ·obtain rfl:k=p.batteries.length:=by omega
   rw[if_neg oM]
def D41 (p:D4) (l:List C7):List Int × Int:=match (A0O p l).1 with
 | none=>([],(A0O p l).2.2)
 | some s=>(B14 p.batteries.length (A5Z p s),0)
theorem D4I {F:Nat} {p:D4} (hf:CtF F p) (l:List C7):C10 F p l=some (D41 p l)∧D2X F p l=some (D41 p l):=by
 have hF:=hf.pd.f
 unfold D41
 cases h:(A0O p l).1 with
 | none =>
  have h1:=B1r h
  constructor
  ·rw[C10,B9a hf,oS,h]
   show(if(A0O p l).2.2=0 then _ else _)=_
   rw[if_neg h1]
  ·rw[D2X,D2x hf,oS,if_neg h1]
 | some s =>
  obtain⟨h1,ho,hs,hm⟩:=D4K h
  have b6:=ho.b6
  refine⟨C27 hf h,?_⟩
  rw[D2X,D2x hf,oS,if_pos h1]
  exact D5f hF ho hs (by rw[h];rfl) F 0 oM oM
theorem D4V {F:Nat} {p:D4} {l:List C7} {t:Int} (hf:CtF F p) (ha:A7X 100=some true):D2H F p l t=some true:=by
 have hF:=hf.pd.f
 obtain⟨a1,a2⟩:=D5c hf l t
 obtain⟨b1,b2⟩:=D4I hf l
 have h1:(D42 p l t).1.length≤100:=by
  unfold D42
  cases h:(A0O p l).1 with
  | none=>simp
  | some s =>
   have ho:=(D4K h).2.1
   have t16:=ho.t16
   show(bif N9 t s.now 100000 then(([]:List Int),(7:Int))else(D4p p s t,0)).1.length≤100
   cases N9 t s.now 100000 with
   | true=>simp
   | false=>have:=D4M (p:=p) (s:=s) (t:=t);show(D4p p s t).length≤100;omega
 have h2:(D41 p l).1.length≤100:=by
  unfold D41
  cases h:(A0O p l).1 with
  | none=>simp
  | some s =>
   have b6:=(D4K h).2.1.b6
   show(B14 p.batteries.length (A5Z p s)).length≤100
   rw[B15];omega
 rw[D2H,a1,oS,a2,oS,B8y hF h1,oS,if_pos rfl,if_pos rfl,D1C,b1,oS,b2,oS,B8y hF h2,oS,if_pos rfl,if_pos rfl,ha]
 rfl
end Go.Proofs.YtlaogbbcipebgaaGreat
