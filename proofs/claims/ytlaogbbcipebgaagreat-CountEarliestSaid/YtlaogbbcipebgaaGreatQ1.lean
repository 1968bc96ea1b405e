/- The plain part of pad.Check: the program's answer and the document's are the same. -/
import Derived.Test.YtlaogbbcipebgaaGreatW5
import Derived.MapKept
import Derived.Laws.Strings
set_option linter.unusedVariables false
set_option linter.unusedSimpArgs false
open Bool renaming eq_iff_iff→dj,or_false→bU,false_ne_true→cH,or_assoc→dW,false_or→bu,or_eq_false_iff→cg,and_assoc→eM,true_and→bf,and_eq_true→aF
open Eq renaming trans→eW
open Int renaming natCast_nonneg→eA
open List renaming getElem?_eq_getElem→co,drop_zero→aB,find?_cons→cc,any_cons→bd,any_nil→cW,getElem_mem→aj,length_pos_iff→cp,take_of_length_le→di,take_succ_eq_append_getElem→cr,take_zero→cM,map_nil→bb,getD_eq_getElem?_getD→am,mem_cons→ap,range'→az,range'_succ→cy,all_cons→dq,foldl_cons→bY,all_eq_true→ax,length_cons→cj
open Nat renaming sub_self→cJ,sub_zero→aP,le_refl→aw,zero_add→aZ
open Option renaming getD_some→aR
open Go Go.Proofs.YtlaogbbcipebgaaGreat.Sh Go.Proofs
namespace Go.Proofs.YtlaogbbcipebgaaGreat
theorem oS {α β:Type} (a:α) (f:α→Option β):(some a).bind f=f a:=rfl
theorem dF {p:Prop} [Decidable p] (h:¬p):decide p=false:=decide_eq_false h
theorem dT {p:Prop} [Decidable p] (h:p):decide p=true:=decide_eq_true h
theorem lD {α:Type} {i:Nat} {l:List α} (h:i<l.length):l.drop i=l[i]::l.drop (i+1):=List.drop_eq_getElem_cons h
theorem cT {α:Type} {a b:α}:cond true a b=a:=rfl
theorem cF {α:Type} {a b:α}:cond false a b=b:=rfl
theorem lL {α:Type} {l:List α} {i:Nat} (h:l.length≤i):l.drop i=[]:=List.drop_of_length_le h
theorem tN (n:Nat):(n:Int).toNat=n:=rfl
theorem A8K {x:Int} (h : -9223372036854775808≤x:=by omega) (k:x<9223372036854775808:=by omega):W x=x:=by
 unfold W IntKind.wrap;simp[IntKind.bits,IntKind.signed];omega
theorem S0 {k:Nat} (h:k<9223372036854775807):W ((k:Int)+1)=((k+1:Nat):Int):=by rw[A8K];omega
theorem B23 {k:Nat} (h:0<k) (h2:k<9223372036854775808):W ((k:Int)-1)=((k-1:Nat):Int):=by rw[A8K];omega
theorem H3 {α:Type} {l:List α} {k:Nat} (h:k<l.length):P3 l (k:Int)=some l[k]:=by
 unfold P3;rw[if_pos (eA k),tN,co h]
theorem A8O {α:Type} {l:List α} {a:α} (h:l.length<100000):A8i l [a]=some (l++[a]):=by
 unfold A8i;rw[if_pos (by simp;omega)]
theorem B0w {α:Type} {l:List α} {k:Nat} (h:k≤l.length):A7A l 0 (k:Int)=some (l.take k):=by
 unfold A7A;rw[if_pos oM];simp
theorem A4e {α:Type} (p:Prop) [Decidable p] (A B:α):(if p then A else B)=bif decide p then A else B:=by
 by_cases h:p<;>simp[h]
theorem B7q {α:Type} (a b:Bool) (A B:α):(bif a then A else bif b then A else B)=bif (a||b)then A else B:=by cases a<;>rfl
theorem A6z {α:Type} (a:Bool) (A B:α):some (bif a then A else B)=bif a then some A else some B:=by cases a<;>rfl
theorem A0q (b:Bool) [Decidable (b=true)]:decide (b=true)=b:=by cases b<;>simp
def N9 (n lo hi:Int):Bool:=decide (n<lo∨hi<n)
theorem A0S (F:Nat) (n lo hi:Int):A0m F n lo hi=some (N9 n lo hi):=by
 unfold A0m N9;split<;>simp[*]
theorem B4A (F:Nat) (n lo hi:Int):A7N F n lo hi=some (N9 n lo hi):=by
 unfold A7N N9;split<;>simp[*]
theorem C7V (F:Nat) (n lo hi:Int):C7m F n lo hi=some (!N9 n lo hi):=by
 unfold C7m N9;by_cases h:lo≤n
 ·rw[if_pos h];have:¬ n<lo:=by omega
  by_cases h2:n≤hi
  ·have:¬ hi<n:=by omega
   simp[*]
  ·have:hi<n:=by omega
   simp[*]
 ·rw[if_neg h];have:n<lo:=by omega
  simp[this]
theorem O6 {n lo hi:Int}:N9 n lo hi=false↔lo≤n∧n≤hi:=by
 unfold N9;simp
def B88 (k:Nat) (e:Int):Bool:=(decide (97≤e)&&decide (e≤122))||(decide (k≠0)&&(decide (e=45)||(decide (48≤e)&&decide (e≤57))))
def B0I:Nat→List Int→Bool
 | _,[]=>true
 | k,e::l=>B88 k e&&B0I (k+1) l
theorem B4M (s:ByteArray):(A1a s).length=s.size:=by simp[A1a]
theorem D33 {s:ByteArray} {k:Nat} (h:k<(A1a s).length):ixB s (k:Int)=some (A1a s)[k]:=by
 have h2:k<s.size:=by rwa [B4M]at h
 unfold ixB;rw[if_pos (eA k),tN,getElem?_pos s k h2];simp[A1a];rfl
theorem B7r {α:Type} (k:Nat) (e:Int) (A B:α) (k':Int) (hk:k'=k):(if 97≤e then(if e≤122 then A else(if k'=0 then B else(if e=45 then A else(if 48≤e then(if e≤57 then A else B)else B))))else(if k'=0 then B else(if e=45 then A else(if 48≤e then(if e≤57 then A else B)else B))))=if B88 k e=true then A else B:=by
 subst hk;unfold B88;by_cases h1:97≤e<;>by_cases h2:e≤122<;>by_cases h3:k=0<;>by_cases h4:e=45<;>by_cases h5:48≤e<;>by_cases h6:e≤57<;>simp[*]<;>omega
theorem D2I {α:Type} (k:Nat) (e:Int) (A B:α) (k':Int) (hk:k'=k):(if 97≤e then(if e≤122 then A else(if k'=0 then B else(if 48≤e then(if e≤57 then A else(if e=45 then A else B))else(if e=45 then A else B))))else(if k'=0 then B else(if 48≤e then(if e≤57 then A else(if e=45 then A else B))else(if e=45 then A else B))))=if B88 k e=true then A else B:=by
 subst hk;unfold B88;by_cases h1:97≤e<;>by_cases h2:e≤122<;>by_cases h3:k=0<;>by_cases h4:e=45<;>by_cases h5:48≤e<;>by_cases h6:e≤57<;>simp[*]<;>omega
theorem B54 {F:Nat} {s:ByteArray} (hl:(A1a s).length<9223372036854775808) (c:Option Bool):∀ (n k:Nat),(A1a s).length<n+k→k≤(A1a s).length→A0x F s (fun _=>c) n k=if B0I k ((A1a s).drop k)=true then c else some false
 | 0,k,h,h2=>absurd h oM
 | n+1,k,h,h2=>by
  rw[A0x];by_cases hk:k<(A1a s).length
  ·rw[if_pos oM,H3 hk,oS,B7r k _ _ _ _ rfl,S0 oM,B54 hl c n (k+1) oM oM,lD hk,B0I];cases B88 k (A1a s)[k]<;>simp
  ·rw[if_neg oM,lL oM];rfl
theorem D17 {F:Nat} {s:ByteArray} (hl:(A1a s).length<9223372036854775808) (c:Option Bool):∀ (n k:Nat),(A1a s).length<n+k→k≤(A1a s).length→C6D F s (fun _=>c) n k=if B0I k ((A1a s).drop k)=true then c else some false
 | 0,k,h,h2=>absurd h oM
 | n+1,k,h,h2=>by
  have hs:=B4M s;rw[C6D];by_cases hk:k<(A1a s).length
  ·rw[if_pos oM,D33 hk,oS,D2I k _ _ _ _ rfl,S0 oM,D17 hl c n (k+1) oM oM,lD hk,B0I];cases B88 k (A1a s)[k]<;>simp
  ·rw[if_neg oM,lL oM];rfl
def A7C (s:ByteArray):Bool:=B0I 0 (A1a s) && !N9 s.size 1 24
theorem A2E {F:Nat} {s:ByteArray} (hl:s.size<9223372036854775808) (hF:s.size<F):A2y F s=some (A7C s):=by
 have hs:=B4M s;have:=B54 (F:=F) (s:=s) oM (some (!N9 s.size 1 24)) F 0 oM oM;unfold A2y;simp only[B4A,oS];rw[show(0:Int)=((0:Nat):Int)from rfl,this,aB,A7C];cases B0I 0 (A1a s)<;>simp
theorem D1e {F:Nat} {s:ByteArray} (hl:s.size<9223372036854775808) (hF:s.size<F):D0i F s=some (A7C s):=by
 have hs:=B4M s;have:=D17 (F:=F) (s:=s) oM (some true) F 0 oM oM;unfold D0i;rw[show(0:Int)=((0:Nat):Int)from rfl,this,aB,A7C];by_cases h1:(s.size:Int)<1
 ·rw[if_pos h1];simp[N9,h1]
 ·rw[if_neg h1];by_cases h2:24<(s.size:Int)
  ·rw[if_pos h2];simp[N9,h2]
  ·rw[if_neg h2];have:N9 s.size 1 24=false:=by simp[N9];omega
   rw[this];cases B0I 0 (A1a s)<;>simp

theorem B6q (a b:ByteArray):decide (a.toList=b.toList)=(a==b):=by
 rw[dj,decide_eq_true_iff,MapKept.bytes_beq];constructor
 ·intro h;rw[ByteArray.toList_eq,ByteArray.toList_eq]at h;cases a;cases b;simp at h;simp[h]
 ·rintro rfl;rfl
def nmE (seen:List ByteArray) (s:ByteArray):Int:=if A7C s=true then(if seen.any (fun b=>decide (b.toList=s.toList))=true then 5 else 0)else 6
def A1C {α:Type} (nm:α→ByteArray) (rest:α→Int):List ByteArray→Nat→List α→Int × Int
 | _,_,[]=>(0,0)
 | seen,k,x::l=>if nmE seen (nm x)=0 then(if rest x=0 then A1C nm rest (seen++[nm x]) (k+1) l else((k:Int),rest x))else((k:Int),nmE seen (nm x))
theorem B66 {m:List (ByteArray × Bool)} (a b:ByteArray):(A2e (M0 m a true) b).getD false=((A2e m b).getD false||(b==a)):=by
 have hs:∀ x y:ByteArray,(x==y)=true→x=y:=fun x y h=>(MapKept.bytes_beq x y).1 h;have hr:∀ x:ByteArray,(x==x)=true:=fun x=>(MapKept.bytes_beq x x).2 rfl;induction m with
 | nil=>cases h:(b==a)<;>simp[M0,A2e,h]
 | cons p m ih =>
  simp only[M0];cases h:(a==p.1)with
  | true =>
   have e:=hs _ _ h;simp only[cT,A2e,cc];cases h2:(b==a)with
   | true=>simp
   | false=>rw[show(b==p.1)=false by rw[← e];exact h2];simp[A2e]
  | false =>
   simp only[cF];unfold A2e at ih ⊢;simp only[cc];cases h2:(b==p.1)with
   | true =>
    have:(b==a)=false:=by
     cases h3:(b==a)with
     | false=>rfl
     | true=>rw[hs _ _ h3]at h2;rw[h]at h2;cases h2
    simp[this]
   | false=>simpa using ih
def A8J (m:List (ByteArray × Bool)) (seen:List ByteArray):Prop:=∀ s,(A2e m s).getD false=seen.any (fun b=>decide (b.toList=s.toList))
theorem A8J.nil:A8J [] []:=fun _=>rfl
theorem A8J.snoc {m:List (ByteArray × Bool)} {seen:List ByteArray} (h:A8J m seen) (a:ByteArray):A8J (M0 m a true) (seen++[a]):=fun s=>by
 rw[B66,h s,List.any_append];simp only[bd,cW,bU,B6q];congr 1;rw[dj,MapKept.bytes_beq,MapKept.bytes_beq];exact eq_comm
theorem A7v {F:Nat} {lv:List F6} {nm:F6→ByteArray} {rest:F6→Int} {name:F6→Option ByteArray} {re:F6→Option Int} (hn:∀ x∈lv,name x=some (nm x)) (hr:∀ x∈lv,re x=some (rest x)) (hl:lv.length<100000) (hF:∀ x∈lv,(nm x).size<F∧(nm x).size<9223372036854775808) :
 ∀ (n k:Nat) (m:List (ByteArray × Bool)) (seen:List ByteArray),A8J m seen→lv.length<n+k→k≤lv.length→Z6 F lv name re (fun _ _=>some (0,0)) n m k=some (A1C nm rest seen k (lv.drop k))
 | 0,k,_,_,_,h,h2=>absurd h oM
 | n+1,k,m,seen,hm,h,h2=>by
  rw[Z6];by_cases hk:k<lv.length
  ·have hx:=aj hk;rw[if_pos oM,H3 hk,oS,hn _ hx,oS,A2E (hF _ hx).2 (hF _ hx).1,oS,lD hk,A1C,S0 oM];cases hp:A7C (nm lv[k])with
   | false =>
    have e:nmE seen (nm lv[k])=6:=by simp[nmE,hp]
    rw[e,if_neg sM,if_neg dM]
   | true =>
    rw[if_pos rfl,hm];cases ha:seen.any (fun b=>decide (b.toList=(nm lv[k]).toList))with
    | true =>
     have e:nmE seen (nm lv[k])=5:=by unfold nmE;rw[if_pos hp,if_pos ha]
     rw[e,if_pos rfl,if_neg dM]
    | false =>
     have e:nmE seen (nm lv[k])=0:=by unfold nmE;rw[if_pos hp,if_neg (by rw[ha];exact cH)]
     rw[e,if_neg sM,if_pos rfl,hr _ hx,oS];by_cases h0:rest lv[k]=0
     ·rw[if_pos h0,if_pos h0,A7v hn hr hl hF n (k+1) _ _ (hm.snoc _) oM oM]
     ·rw[if_neg h0,if_neg h0]
  ·rw[if_neg oM,lL oM];rfl
theorem B0p {F:Nat} {lv:List F6} {nm:F6→ByteArray} {rest:F6→Int} {name:F6→Option ByteArray} {re:F6→Option Int} (hn:∀ x∈lv,name x=some (nm x)) (hr:∀ x∈lv,re x=some (rest x)) (hl:lv.length<100000) (h0:lv.length<F) (hF:∀ x∈lv,(nm x).size<F∧(nm x).size<9223372036854775808) :
 A2p F lv name re=some (A1C nm rest [] 0 lv):=by
 have:=A7v hn hr hl hF F 0 [] [] .nil oM oM;simpa[A2p]using this
theorem A6h {F:Nat} {lv:List E2} {nm:E2→ByteArray} {rest:E2→Int} {name:E2→Option ByteArray} {re:E2→Option Int} (hn:∀ x∈lv,name x=some (nm x)) (hr:∀ x∈lv,re x=some (rest x)) (hl:lv.length<100000) (hF:∀ x∈lv,(nm x).size<F∧(nm x).size<9223372036854775808) :
 ∀ (n k:Nat) (m:List (ByteArray × Bool)) (seen:List ByteArray),A8J m seen→lv.length<n+k→k≤lv.length→W9 F lv name re (fun _ _=>some (0,0)) n m k=some (A1C nm rest seen k (lv.drop k))
 | 0,k,_,_,_,h,h2=>absurd h oM
 | n+1,k,m,seen,hm,h,h2=>by
  rw[W9];by_cases hk:k<lv.length
  ·have hx:=aj hk;rw[if_pos oM,H3 hk,oS,hn _ hx,oS,A2E (hF _ hx).2 (hF _ hx).1,oS,lD hk,A1C,S0 oM];cases hp:A7C (nm lv[k])with
   | false =>
    have e:nmE seen (nm lv[k])=6:=by simp[nmE,hp]
    rw[e,if_neg sM,if_neg dM]
   | true =>
    rw[if_pos rfl,hm];cases ha:seen.any (fun b=>decide (b.toList=(nm lv[k]).toList))with
    | true =>
     have e:nmE seen (nm lv[k])=5:=by unfold nmE;rw[if_pos hp,if_pos ha]
     rw[e,if_pos rfl,if_neg dM]
    | false =>
     have e:nmE seen (nm lv[k])=0:=by unfold nmE;rw[if_pos hp,if_neg (by rw[ha];exact cH)]
     rw[e,if_neg sM,if_pos rfl,hr _ hx,oS];by_cases h0:rest lv[k]=0
     ·rw[if_pos h0,if_pos h0,A6h hn hr hl hF n (k+1) _ _ (hm.snoc _) oM oM]
     ·rw[if_neg h0,if_neg h0]
  ·rw[if_neg oM,lL oM];rfl
theorem A9e {F:Nat} {lv:List E2} {nm:E2→ByteArray} {rest:E2→Int} {name:E2→Option ByteArray} {re:E2→Option Int} (hn:∀ x∈lv,name x=some (nm x)) (hr:∀ x∈lv,re x=some (rest x)) (hl:lv.length<100000) (h0:lv.length<F) (hF:∀ x∈lv,(nm x).size<F∧(nm x).size<9223372036854775808) :
 A1x F lv name re=some (A1C nm rest [] 0 lv):=by
 have:=A6h hn hr hl hF F 0 [] [] .nil oM oM;simpa[A1x]using this
theorem A7w {F:Nat} {lv:List ByteArray} {nm:ByteArray→ByteArray} {rest:ByteArray→Int} {name:ByteArray→Option ByteArray} {re:ByteArray→Option Int} (hn:∀ x∈lv,name x=some (nm x)) (hr:∀ x∈lv,re x=some (rest x)) (hl:lv.length<100000) (hF:∀ x∈lv,(nm x).size<F∧(nm x).size<9223372036854775808) :
 ∀ (n k:Nat) (m:List (ByteArray × Bool)) (seen:List ByteArray),A8J m seen→lv.length<n+k→k≤lv.length→Z7 F lv name re (fun _ _=>some (0,0)) n m k=some (A1C nm rest seen k (lv.drop k))
 | 0,k,_,_,_,h,h2=>absurd h oM
 | n+1,k,m,seen,hm,h,h2=>by
  rw[Z7];by_cases hk:k<lv.length
  ·have hx:=aj hk;rw[if_pos oM,H3 hk,oS,hn _ hx,oS,A2E (hF _ hx).2 (hF _ hx).1,oS,lD hk,A1C,S0 oM];cases hp:A7C (nm lv[k])with
   | false =>
    have e:nmE seen (nm lv[k])=6:=by simp[nmE,hp]
    rw[e,if_neg sM,if_neg dM]
   | true =>
    rw[if_pos rfl,hm];cases ha:seen.any (fun b=>decide (b.toList=(nm lv[k]).toList))with
    | true =>
     have e:nmE seen (nm lv[k])=5:=by unfold nmE;rw[if_pos hp,if_pos ha]
     rw[e,if_pos rfl,if_neg dM]
    | false =>
     have e:nmE seen (nm lv[k])=0:=by unfold nmE;rw[if_pos hp,if_neg (by rw[ha];exact cH)]
     rw[e,if_neg sM,if_pos rfl,hr _ hx,oS];by_cases h0:rest lv[k]=0
     ·rw[if_pos h0,if_pos h0,A7w hn hr hl hF n (k+1) _ _ (hm.snoc _) oM oM]
     ·rw[if_neg h0,if_neg h0]
  ·rw[if_neg oM,lL oM];rfl
theorem B0q {F:Nat} {lv:List ByteArray} {nm:ByteArray→ByteArray} {rest:ByteArray→Int} {name:ByteArray→Option ByteArray} {re:ByteArray→Option Int} (hn:∀ x∈lv,name x=some (nm x)) (hr:∀ x∈lv,re x=some (rest x)) (hl:lv.length<100000) (h0:lv.length<F) (hF:∀ x∈lv,(nm x).size<F∧(nm x).size<9223372036854775808) :
 A2q F lv name re=some (A1C nm rest [] 0 lv):=by
 have:=A7w hn hr hl hF F 0 [] [] .nil oM oM;simpa[A2q]using this
theorem A67 {F:Nat} {lv:List D1} {nm:D1→ByteArray} {rest:D1→Int} {name:D1→Option ByteArray} {re:D1→Option Int} (hn:∀ x∈lv,name x=some (nm x)) (hr:∀ x∈lv,re x=some (rest x)) (hl:lv.length<100000) (hF:∀ x∈lv,(nm x).size<F∧(nm x).size<9223372036854775808) :
 ∀ (n k:Nat) (m:List (ByteArray × Bool)) (seen:List ByteArray),A8J m seen→lv.length<n+k→k≤lv.length→X9 F lv name re (fun _ _=>some (0,0)) n m k=some (A1C nm rest seen k (lv.drop k))
 | 0,k,_,_,_,h,h2=>absurd h oM
 | n+1,k,m,seen,hm,h,h2=>by
  rw[X9];by_cases hk:k<lv.length
  ·have hx:=aj hk;rw[if_pos oM,H3 hk,oS,hn _ hx,oS,A2E (hF _ hx).2 (hF _ hx).1,oS,lD hk,A1C,S0 oM];cases hp:A7C (nm lv[k])with
   | false =>
    have e:nmE seen (nm lv[k])=6:=by simp[nmE,hp]
    rw[e,if_neg sM,if_neg dM]
   | true =>
    rw[if_pos rfl,hm];cases ha:seen.any (fun b=>decide (b.toList=(nm lv[k]).toList))with
    | true =>
     have e:nmE seen (nm lv[k])=5:=by unfold nmE;rw[if_pos hp,if_pos ha]
     rw[e,if_pos rfl,if_neg dM]
    | false =>
     have e:nmE seen (nm lv[k])=0:=by unfold nmE;rw[if_pos hp,if_neg (by rw[ha];exact cH)]
     rw[e,if_neg sM,if_pos rfl,hr _ hx,oS];by_cases h0:rest lv[k]=0
     ·rw[if_pos h0,if_pos h0,A67 hn hr hl hF n (k+1) _ _ (hm.snoc _) oM oM]
     ·rw[if_neg h0,if_neg h0]
  ·rw[if_neg oM,lL oM];rfl
theorem A9I {F:Nat} {lv:List D1} {nm:D1→ByteArray} {rest:D1→Int} {name:D1→Option ByteArray} {re:D1→Option Int} (hn:∀ x∈lv,name x=some (nm x)) (hr:∀ x∈lv,re x=some (rest x)) (hl:lv.length<100000) (h0:lv.length<F) (hF:∀ x∈lv,(nm x).size<F∧(nm x).size<9223372036854775808) :
 A1V F lv name re=some (A1C nm rest [] 0 lv):=by
 have:=A67 hn hr hl hF F 0 [] [] .nil oM oM;simpa[A1V]using this
theorem D0N {F:Nat} {s:ByteArray} {before:List ByteArray} (hl:before.length<9223372036854775808):∀ (n k:Nat),before.length<n+k→k≤before.length→C8S F s before (fun _=>some 0) n k=some (if(before.drop k).any (fun b=>decide (b.toList=s.toList))=true then 5 else 0)
 | 0,k,h,h2=>absurd h oM
 | n+1,k,h,h2=>by
  rw[C8S];by_cases hk:k<before.length
  ·rw[if_pos oM,H3 hk,oS,lD hk,bd,S0 oM,D0N hl n (k+1) oM oM];by_cases he:before[k].toList=s.toList
   ·rw[if_pos he];simp[he]
   ·rw[if_neg he];simp[he]
  ·rw[if_neg oM,lL oM];rfl
theorem C9L {F:Nat} {s:ByteArray} {before:List ByteArray} (hl:before.length<9223372036854775808) (h0:before.length<F) (hs:s.size<9223372036854775808) (hF:s.size<F):C9g F s before=some (nmE before s):=by
 have:=D0N (F:=F) (s:=s) hl F 0 oM oM;rw[C9g,D1e hs hF,oS,nmE];cases A7C s with
 | false=>rfl
 | true=>simpa using this
structure A5x (F:Nat) (p:D5):Prop where
 f:100<F
 lz:p.zones.length<9223372036854775808
 ld:p.doors.length<9223372036854775808
 lp:p.people.length<9223372036854775808
 lk:p.keys.length<9223372036854775808
 lq:p.squibs.length<9223372036854775808
 zn:∀ x∈p.zones,x.name.size<F∧x.name.size<9223372036854775808
 pn:∀ x∈p.people,x.name.size<F∧x.name.size<9223372036854775808
 kn:∀ x∈p.keys,x.size<F∧x.size<9223372036854775808
 qn:∀ x∈p.squibs,x.name.size<F∧x.name.size<9223372036854775808
 qk:∀ x∈p.squibs,x.keys.length<F∧x.keys.length<9223372036854775808
theorem A8r {F:Nat} {s:List Int} {f:Int→Option Bool} {p:Int→Bool} (hf:∀ x∈s,f x=some (p x)) (hl:s.length<9223372036854775808):∀ (n k:Nat),s.length<n+k→k≤s.length→∃ r,V3 F s f (fun _=>some (-1)) n k=some r∧decide (0≤r)=(s.drop k).any p
 | 0,k,h,h2=>absurd h oM
 | n+1,k,h,h2=>by
  rw[V3];by_cases hk:k<s.length
  ·rw[if_pos oM,H3 hk,oS,hf _ (aj hk),oS,lD hk,bd,S0 oM];cases hp:p s[k]with
   | true=>exact⟨k,by simp,by simp⟩
   | false=>simpa using A8r hf hl n (k+1) oM oM
  ·rw[if_neg oM,lL oM];exact⟨-1,rfl,by simp⟩
theorem A2H {F:Nat} {s:List Int} {f:Int→Option Bool} {p:Int→Bool} (hf:∀ x∈s,f x=some (p x)) (hl:s.length<9223372036854775808) (hF:s.length<F):M1 F s f=some (s.any p):=by
 obtain⟨r,h1,h2⟩:=A8r (F:=F) hf hl F 0 oM oM;rw[M1,A2b,show(0:Int)=((0:Nat):Int)from rfl,h1,oS,show((0:Nat):Int)=0 from rfl,h2,aB]
def B0r (n:Int):Bool:=N9 n (-10000000) 10000000
theorem B1m {F:Nat} {l:List Int} (hl:l.length<9223372036854775808) (hF:l.length<F):A8d F l=some (l.any B0r):=by
 rw[A8d,A2H (p:=B0r) (fun x _=>by rw[A6A,A0S];rfl) hl hF];rfl
def B05 (z:F6):Bool:=B0r z.L5||B0r z.L4||B0r z.L7||B0r z.L6||decide (z.L4<z.L5)||decide (z.L6<z.L7)||N9 z.grade 0 9||N9 z.room 1 8
def B4D (z:F6):Int:=if B05 z=true then 7 else 0
theorem B4c {F:Nat} (hF:100<F) (z:F6):A6C F z=some (B4D z):=by
 rw[A6C,B1m sM (by simp;omega)];simp only[oS,A6j,A0S,bd,cW,B4D,B05,A2z,A4e,A0q,B7q,A6z,dW,bU]
theorem D2w (F:Nat) (s:B4J):D0k F s=some (!(B0r s.lo||B0r s.hi||decide (s.hi<s.lo))):=by
 simp only[D0k,C8r,C7V,oS,B0r];by_cases h:s.hi<s.lo
 ·have:¬ s.lo≤s.hi:=by omega
  cases N9 s.lo (-10000000) 10000000<;>cases N9 s.hi (-10000000) 10000000<;>simp[h,this]
 ·have:s.lo≤s.hi:=by omega
  cases N9 s.lo (-10000000) 10000000<;>cases N9 s.hi (-10000000) 10000000<;>simp[h,this]
theorem D1D {F:Nat} {p:D5} (h:A5x F p) (hl:p.zones.length≤8):∀ (n k:Nat) (seen:List ByteArray),seen.length=k→p.zones.length<n+k→k≤p.zones.length→C6g F p (fun _ _=>some (0,0)) n seen k=some (A1C (·.name) B4D seen k (p.zones.drop k))
 | 0,k,_,_,h1,h2=>absurd h1 oM
 | n+1,k,seen,hs,h1,h2=>by
  rw[C6g];by_cases hk:k<p.zones.length
  ·have hx:=aj hk;have hf:=h.f;rw[if_pos oM,H3 hk,oS,C9L oM oM (h.zn _ hx).2 (h.zn _ hx).1,oS,lD hk,A1C];simp only[D2w,C8J,C7V,oS,C7x];by_cases h0:nmE seen p.zones[k].name=0
   ·rw[if_pos h0,if_pos h0];have ih:=D1D h hl n (k+1) (seen++[p.zones[k].name]) (by simp[hs]) oM oM;simp only[A8O (show seen.length<100000 by omega),oS,S0 (show k<9223372036854775807 by omega),h0,ih];have e:B4D p.zones[k]=if B05 p.zones[k]=true then 7 else 0:=rfl
    have e2:B05 p.zones[k]=((B0r p.zones[k].L5||B0r p.zones[k].L4||decide (p.zones[k].L4<p.zones[k].L5))||(B0r p.zones[k].L7||B0r p.zones[k].L6||decide (p.zones[k].L6<p.zones[k].L7))||N9 p.zones[k].grade 0 9||N9 p.zones[k].room 1 8):=by
     unfold B05;generalize decide (p.zones[k].L4<p.zones[k].L5)=a;generalize decide (p.zones[k].L6<p.zones[k].L7)=b;cases B0r p.zones[k].L5<;>cases B0r p.zones[k].L4<;>cases B0r p.zones[k].L7<;>cases B0r p.zones[k].L6<;>cases a<;>cases b<;>rfl
    rw[e,e2];simp only[A4e,A0q];generalize (B0r p.zones[k].L5||B0r p.zones[k].L4||decide (p.zones[k].L4<p.zones[k].L5))=a;generalize (B0r p.zones[k].L7||B0r p.zones[k].L6||decide (p.zones[k].L6<p.zones[k].L7))=b;cases a<;>cases b<;>cases N9 p.zones[k].grade 0 9<;>cases N9 p.zones[k].room 1 8<;>rfl
   ·rw[if_neg h0,if_neg h0,if_neg h0]
  ·rw[if_neg oM,lL oM];rfl
theorem D2d {F:Nat} {p:D5} (h:A5x F p) (hl:p.zones.length≤8):D0c F p=some (A1C (·.name) B4D [] 0 p.zones):=by
 have:=D1D h hl F 0 [] rfl (by have:=h.f;omega) oM;simpa[D0c]using this
def A9n (x:E2):Int:=if N9 x.grade 0 9=true then 7 else 0
theorem D1d {F:Nat} {p:D5} (h:A5x F p) (hl:p.people.length≤8):∀ (n k:Nat) (seen:List ByteArray),seen.length=k→p.people.length<n+k→k≤p.people.length→C6I F p (fun _ _=>some (0,0)) n seen k=some (A1C (·.name) A9n seen k (p.people.drop k))
 | 0,k,_,_,h1,h2=>absurd h1 oM
 | n+1,k,seen,hs,h1,h2=>by
  rw[C6I];by_cases hk:k<p.people.length
  ·have hx:=aj hk;have hf:=h.f;rw[if_pos oM,H3 hk,oS,C9L oM oM (h.pn _ hx).2 (h.pn _ hx).1,oS,lD hk,A1C];simp only[C8J,C7V,oS];by_cases h0:nmE seen p.people[k].name=0
   ·rw[if_pos h0,if_pos h0];have ih:=D1d h hl n (k+1) (seen++[p.people[k].name]) (by simp[hs]) oM oM;simp only[C7A,A8O (show seen.length<100000 by omega),oS,S0 (show k<9223372036854775807 by omega),h0,ih];rw[show A9n p.people[k]=if N9 p.people[k].grade 0 9=true then 7 else 0 from rfl];simp only[A4e,A0q];cases N9 p.people[k].grade 0 9<;>rfl
   ·rw[if_neg h0,if_neg h0,C7A,if_neg h0]
  ·rw[if_neg oM,lL oM];rfl
theorem D1H {F:Nat} {p:D5} (h:A5x F p) (hl:p.people.length≤8):C9B F p=some (A1C (·.name) A9n [] 0 p.people):=by
 have:=D1d h hl F 0 [] rfl (by have:=h.f;omega) oM;simpa[C9B]using this
def A8T (nz:Nat) (d:G6):Bool:=N9 d.a (-1) ((nz:Int)-1)||N9 d.b (-1) ((nz:Int)-1)
def A98 (nz:Nat):Nat→List G6→Int × Int
 | _,[]=>(0,0)
 | k,d::l=>bif A8T nz d then((k:Int),4)else bif decide (d.a=d.b)then((k:Int),2)else A98 nz (k+1) l
theorem A8u {n:Nat} (h:n<9223372036854775808):W ((n:Int)-1)=(n:Int)-1:=by rw[A8K]
theorem D0v {F:Nat} {p:D5} (h:A5x F p) (n:Int):C8T F p n=some (!N9 n 0 ((p.zones.length:Int)-1)):=by
 rw[C8T,A8u h.lz,C7V];rfl
theorem D3g (n m:Int):N9 n (-1) m=(!decide (n = -1)&&N9 n 0 m||decide (n = -1)&&decide (m < -1)):=by
 unfold N9;by_cases h:n = -1
 ·subst h;simp
 ·simp[h];rw[show decide (n < -1)=decide (n<0) by rw[decide_eq_decide];omega]
theorem D3f (n:Int) (k:Nat):N9 n (-1) ((k:Int)-1)=(!decide (n = -1)&&N9 n 0 ((k:Int)-1)):=by
 rw[D3g,show decide ((k:Int)-1 < -1)=false by simp;omega];simp
theorem D14 {F:Nat} {p:D5} (h:A5x F p):∀ (n k:Nat),p.doors.length<n+k→k≤p.doors.length→C6K F p (fun _=>some (0,0)) n k=some (A98 p.zones.length k (p.doors.drop k))
 | 0,k,h1,h2=>absurd h1 oM
 | n+1,k,h1,h2=>by
  have hl:=h.ld;rw[C6K];by_cases hk:k<p.doors.length
  ·rw[if_pos oM,H3 hk,oS,lD hk,A98];simp only[C7U,C84,S0 (show k<9223372036854775807 by omega),D14 h n (k+1) oM oM,D0v h,oS,A4e,A0q,A8T,D3f];cases decide (p.doors[k].a = -1)<;>cases decide (p.doors[k].b = -1)<;>cases N9 p.doors[k].a 0 ((p.zones.length:Int)-1)<;>cases N9 p.doors[k].b 0 ((p.zones.length:Int)-1)<;>cases decide (p.doors[k].a=p.doors[k].b)<;>rfl
  ·rw[if_neg oM,lL oM];rfl
theorem D1U {F:Nat} {p:D5} (h:A5x F p) (hl:p.doors.length≤24):C9V F p=some (A98 p.zones.length 0 p.doors):=by
 have:=D14 h F 0 (by have:=h.f;omega) oM;simpa[C9V]using this
def A6a:List Int→Bool
 | x::y::l=>decide (x<y)&&A6a (y::l)
 | _=>true
def A9u (q:D1):Bool:=B0r q.A4s||B0r q.A4t||N9 q.clear 0 10000000||N9 q.grade 0 9
def A8Z (nk:Nat) (q:D1):Bool:=decide (q.keys=[])||q.keys.any (fun k=>N9 k 0 ((nk:Int)-1))
def A9P (nk:Nat) (q:D1):Int:=bif A9u q then 7 else bif A8Z nk q then 4 else bif A6a q.keys then 0 else 2
theorem B7m {F:Nat} {q:D1} (hl:q.keys.length<9223372036854775808) (hm:q.keys.length≤1000000000∨True) {q2:List Int} (h2:q2.length+1=q.keys.length):∀ (n k:Nat),q2.length<n+k→k≤q2.length→A28 F q q2 (fun _=>some 0) n k=some (bif A6a (q.keys.drop k)then 0 else 2)
 | 0,k,h1,h2=>absurd h1 oM
 | n+1,k,h1,h3=>by
  rw[A28];by_cases hk:k<q2.length
  ·have hk1:k<q.keys.length:=by omega
   have hk2:k+1<q.keys.length:=by omega
   rw[if_pos oM,H3 hk1,oS,S0 oM,H3 hk2,oS,B7m hl hm h2 n (k+1) oM oM,lD hk1,lD hk2,A6a];by_cases h:q.keys[k+1]≤q.keys[k]
   ·rw[if_pos h,show decide (q.keys[k]<q.keys[k+1])=false by simp;omega];rfl
   ·rw[if_neg h,show decide (q.keys[k]<q.keys[k+1])=true by simp;omega];rfl
  ·rw[if_neg oM];have:k+1=q.keys.length:=by omega
   rw[lD (by omega:k<q.keys.length),lL oM];rfl
theorem B2X {F:Nat} {p:D5} (h:A5x F p) {q:D1} (hq:q∈p.squibs):A6B F q (p.keys.length:Int)=some (A9P p.keys.length q):=by
 have hk:=h.qk _ hq;have hf:=h.f;rw[A6B,B1m sM (by simp;omega)];simp only[oS,A6j,A0S];rw[A2H (p:=fun k=>N9 k 0 ((p.keys.length:Int)-1)) (fun x _=>by rw[A5a,A0S,A8u h.lk];rfl) hk.2 hk.1];have hJ:q.keys≠[]→A4j F q=some (bif A6a q.keys then 0 else 2):=fun hne=>by
  have h0:0<q.keys.length:=cp.2 hne;have hc:A7A q.keys 1 (q.keys.length:Int)=some (q.keys.drop 1):=by
   unfold A7A;rw[if_pos oM,show(1:Int).toNat=1 from rfl,tN,di sM]
  have:=B7m (F:=F) (q:=q) hk.2 (.inr trivial) (q2:=q.keys.drop 1) (by simp;omega) F 0 (by simp;omega) oM;rw[A4j,hc,oS];simpa using this
 unfold A9P A9u A8Z;simp only[bd,cW,A4e,A0q,oS];by_cases hne:q.keys=[]
 ·simp only[hne,List.length_nil];cases B0r q.A4s<;>cases B0r q.A4t<;>cases N9 q.clear 0 10000000<;>cases N9 q.grade 0 9<;>rfl
 ·rw[hJ hne];have:decide ((q.keys.length:Int)=0)=false:=by
   have h0:0<q.keys.length:=cp.2 hne;simp;omega
  rw[this,show decide (q.keys=[])=false by simp[hne]];cases B0r q.A4s<;>cases B0r q.A4t<;>cases N9 q.clear 0 10000000<;>cases N9 q.grade 0 9<;>cases(q.keys.any fun k=>N9 k 0 ((p.keys.length:Int)-1))<;>rfl
theorem z0:((0:Nat):Int)=0:=rfl
theorem D3o {F:Nat} {q:D1} (hl:q.keys.length<9223372036854775808):∀ (n k:Nat),q.keys.length<n+k→1≤k→k≤q.keys.length→C7X F q (fun _=>some 0) n k=some (bif A6a (q.keys.drop (k-1))then 0 else 2)
 | 0,k,h1,_,h2=>absurd h1 oM
 | n+1,k,h1,h0,h2=>by
  rw[C7X];obtain⟨j,rfl⟩:∃ j,k=j+1:=⟨k-1,by omega⟩;by_cases hk:j+1<q.keys.length
  ·have ih:=D3o (F:=F) hl n (j+1+1) oM oM oM;rw[if_pos oM,H3 hk,oS,B23 oM oM,show j+1-1=j from rfl,H3 (show j<q.keys.length by omega),oS,S0 oM,ih,lD (show j<q.keys.length by omega),show j+1+1-1=j+1 from rfl,lD hk,A6a];by_cases h:q.keys[j+1]≤q.keys[j]
   ·rw[if_pos h,show decide (q.keys[j]<q.keys[j+1])=false by simp;omega];rfl
   ·rw[if_neg h,show decide (q.keys[j]<q.keys[j+1])=true by simp;omega];rfl
  ·rw[if_neg oM,show j+1-1=j from rfl,lD (show j<q.keys.length by omega),lL oM];rfl
theorem D3p {F:Nat} {p:D5} (h:A5x F p) {q:D1} (hl:q.keys.length<9223372036854775808) (c:Option Int):∀ (n k:Nat),q.keys.length<n+k→k≤q.keys.length→C88 F p q (fun _=>c) n k=bif (q.keys.drop k).any (fun k=>N9 k 0 ((p.keys.length:Int)-1))then some 4 else c
 | 0,k,h1,h2=>absurd h1 oM
 | n+1,k,h1,h2=>by
  rw[C88];by_cases hk:k<q.keys.length
  ·rw[if_pos oM,H3 hk,oS,A8u h.lk,C7V,oS,S0 oM,D3p h hl c n (k+1) oM oM,lD hk,bd];cases N9 q.keys[k] 0 ((p.keys.length:Int)-1)<;>simp
  ·rw[if_neg oM,lL oM];rfl
theorem B6V {α β:Type} (f:α→β) {l:List α} {k:Nat} (h:k<l.length):(l.take k).map f++[f l[k]]=(l.take (k+1)).map f:=by
 rw[cr h,List.map_append];rfl
theorem D3q {F:Nat} {p:D5} {o:Nat} (ho:o≤p.squibs.length) (hl:p.squibs.length≤6) (K:List ByteArray→Int→Option Int):∀ (n k:Nat),o<n+k→k≤o→C89 F p o K n ((p.squibs.take k).map (·.name)) k=K ((p.squibs.take o).map (·.name)) o
 | 0,k,h1,h2=>absurd h1 oM
 | n+1,k,h1,h2=>by
  rw[C89];by_cases hk:k<o
  ·have hk':k<p.squibs.length:=by omega
   rw[if_pos oM,H3 hk',oS,A8O (by simp;omega),oS,B6V (·.name) hk',S0 oM,D3q ho hl K n (k+1) oM oM]
  ·rw[if_neg oM,show k=o by omega]
def D09 (nk:Nat) (all:List D1):Nat→List D1→Int × Int:=fun k l=>A1C (·.name) (A9P nk) ((all.take k).map (·.name)) k l
theorem D2a {F:Nat} {p:D5} (h:A5x F p) (hl:p.squibs.length≤6) {k:Nat} (hk:k<p.squibs.length):D0b F p k=some (bif decide (nmE ((p.squibs.take k).map (·.name)) p.squibs[k].name=0)then A9P p.keys.length p.squibs[k]else nmE ((p.squibs.take k).map (·.name)) p.squibs[k].name):=by
 have hx:=aj hk;have hf:=h.f;have hq:=h.qk _ hx;have hn:=h.qn _ hx;have:=D3q (F:=F) (p:=p) (o:=k) oM hl (fun a y=>(P3 p.squibs k).bind fun e2=>(C9g F e2.name a).bind fun rv=>if rv=0 then((C8r F e2.A4s).bind fun rv2=>if rv2=true then((C8r F e2.A4t).bind fun rv3=>if rv3=true then((C7m F e2.clear 0 10000000).bind fun rv4=>if rv4=true then((C8J F e2.grade).bind fun rv5=>if rv5=true then(C87 F p e2)else(C6A F))else(C6A F))else(C6A F))else(C6A F))else(some rv)) F 0 oM oM;rw[cM,bb,z0]at this;rw[D0b];refine eW this ?_;simp only[H3 hk,oS];rw[C9L (by simp;omega) (by simp;omega) hn.2 hn.1,oS];generalize nmE ((p.squibs.take k).map (·.name)) p.squibs[k].name=e;generalize p.squibs[k]=q at hq;have hJ:C87 F p q=some (bif A8Z p.keys.length q then 4 else bif A6a q.keys then 0 else 2):=by
  rw[C87];unfold A8Z;by_cases h0:q.keys=[]
  ·rw[if_pos (by simp[h0])];simp[h0]
  ·have hp:=cp.2 h0;rw[if_neg oM];have h1:=D3o (F:=F) hq.2 F 1 oM oM oM;have h2:=D3p h hq.2 (C7X F q (fun x2=>some 0) F 1) F 0 oM oM;rw[z0]at h2;rw[show((1:Nat):Int)=1 from rfl]at h1;rw[h2,h1,aB];simp only[h0,decide_false,bu];cases(q.keys.any fun k=>N9 k 0 ((p.keys.length:Int)-1))<;>rfl
 simp only[hJ,C8r,C8J,C7V,oS,A4e,A0q,C6A,A9P,A9u,B0r];cases decide (e=0)<;>cases N9 q.A4s (-10000000) 10000000<;>cases N9 q.A4t (-10000000) 10000000<;>cases N9 q.clear 0 10000000<;>cases N9 q.grade 0 9<;>rfl
def B5C (lo hi n:Int):Int:=max (max (W (lo-n)) (W (n-hi))) 0
def A5r (z:F6) (q:D1):Bool:=decide (W (W (B5C z.L5 z.L4 q.A4s*B5C z.L5 z.L4 q.A4s)+W (B5C z.L7 z.L6 q.A4t*B5C z.L7 z.L6 q.A4t))<W (q.clear*q.clear))
theorem D0t {F:Nat} {p:D5} {z q:Nat} (hz:z<p.zones.length) (hq:q<p.squibs.length):C9N F p z q=some (A5r p.zones[z] p.squibs[q]):=by
 rw[C9N,H3 hz,oS,H3 hq];rfl
theorem B09 {F:Nat} {p:D5} (h:A5x F p) (z:F6) (a:Int) (c:Option (Int × Int × Int)):∀ (n k:Nat),p.squibs.length<n+k→k≤p.squibs.length→A1U F (a,p) z (fun _=>c) n k=bif (p.squibs.drop k).any (A5r z)then some (7,0,2)else c
 | 0,k,h1,h2=>absurd h1 oM
 | n+1,k,h1,h2=>by
  have hl:=h.lq;rw[A1U];by_cases hk:k<p.squibs.length
  ·rw[if_pos (by dsimp only;omega),H3 hk,oS,S0 oM,B09 h z a c n (k+1) oM oM,lD hk,bd,A4e];show(bif A5r z p.squibs[k]then _ else _)=_;cases A5r z p.squibs[k]<;>rfl
  ·rw[if_neg (by dsimp only;omega),lL oM];rfl
theorem D0U {F:Nat} {p:D5} (h:A5x F p) {z:Nat} (hz:z<p.zones.length) (hp:p.panel=z) (c:Option (Int × Int × Int)):∀ (n k:Nat),p.squibs.length<n+k→k≤p.squibs.length→C7T F p (fun _=>c) n k=bif (p.squibs.drop k).any (A5r p.zones[z])then some (7,0,2)else c
 | 0,k,h1,h2=>absurd h1 oM
 | n+1,k,h1,h2=>by
  have hl:=h.lq;rw[C7T];by_cases hk:k<p.squibs.length
  ·rw[if_pos oM,hp,D0t hz hk,oS,S0 oM,D0U h hz hp c n (k+1) oM oM,lD hk,bd];cases A5r p.zones[z] p.squibs[k]<;>rfl
  ·rw[if_neg oM,lL oM];rfl
def A7x (n:Int) (x:Int × Int) (c:Option (Int × Int × Int)):Option (Int × Int × Int):=bif decide (x.2=0)then c else some (n,x.1,x.2)
theorem B5q (n:Int) (b:Bool) (x y:Int × Int) (c:Option (Int × Int × Int)):A7x n (bif b then x else y) c=bif b then A7x n x c else A7x n y c:=by cases b<;>rfl
theorem A9V {F:Nat} {p:D5} (h:A5x F p) (c:Option (Int × Int × Int)):∀ (n k:Nat),p.doors.length<n+k→k≤p.doors.length→A22 F p (fun _=>c) n k=A7x 3 (A98 p.zones.length k (p.doors.drop k)) c
 | 0,k,h1,h2=>absurd h1 oM
 | n+1,k,h1,h2=>by
  have hl:=h.ld;rw[A22];by_cases hk:k<p.doors.length
  ·rw[if_pos oM,H3 hk,oS,lD hk,A98];simp only[A4g,S0 (show k<9223372036854775807 by omega),A9V h c n (k+1) oM oM,A0S,A8u h.lz,oS,A4e,A0q,A8T,B5q];cases N9 p.doors[k].a (-1) ((p.zones.length:Int)-1)<;>cases N9 p.doors[k].b (-1) ((p.zones.length:Int)-1)<;>cases decide (p.doors[k].a=p.doors[k].b)<;>rfl
  ·rw[if_neg oM,lL oM];rfl
theorem D0T {F:Nat} {p:D5} (h:A5x F p) (c:Option (Int × Int × Int)):∀ (n k:Nat),p.keys.length<n+k→k≤p.keys.length→p.keys.length≤8→C82 F p (fun _=>c) n k=A7x 5 (A1C id (fun _=>0) (p.keys.take k) k (p.keys.drop k)) c
 | 0,k,h1,h2,_=>absurd h1 oM
 | n+1,k,h1,h2,h3=>by
  have hf:=h.f;rw[C82];by_cases hk:k<p.keys.length
  ·have hx:=h.kn _ (aj hk);rw[if_pos oM,H3 hk,oS,B0w oM,oS,C9L (by simp;omega) (by simp;omega) hx.2 hx.1,oS,lD hk,A1C,S0 oM,D0T h c n (k+1) oM oM h3];rw[cr hk];show(if nmE (p.keys.take k) p.keys[k]=0 then _ else _)=A7x 5 (if nmE (p.keys.take k) p.keys[k]=0 then _ else _) c;by_cases h0:nmE (p.keys.take k) p.keys[k]=0
   ·rw[if_pos h0,if_pos h0];rfl
   ·rw[if_neg h0,if_neg h0];unfold A7x;rw[show decide (((k:Int),nmE (p.keys.take k) (id p.keys[k])).2=0)=false from dF h0];rfl
  ·rw[if_neg oM,lL oM];rfl
theorem D0q {F:Nat} {p:D5} (h:A5x F p) (hl:p.squibs.length≤6) (c:Option (Int × Int × Int)):∀ (n k:Nat),p.squibs.length<n+k→k≤p.squibs.length→C81 F p (fun _=>c) n k=A7x 6 (D09 p.keys.length p.squibs k (p.squibs.drop k)) c
 | 0,k,h1,h2=>absurd h1 oM
 | n+1,k,h1,h2=>by
  rw[C81];by_cases hk:k<p.squibs.length
  ·rw[if_pos oM,D2a h hl hk,oS,S0 oM,D0q h hl c n (k+1) oM oM,lD hk];have e:D09 p.keys.length p.squibs k (p.squibs[k]::p.squibs.drop (k+1))=if nmE ((p.squibs.take k).map (·.name)) p.squibs[k].name=0 then(if A9P p.keys.length p.squibs[k]=0 then D09 p.keys.length p.squibs (k+1) (p.squibs.drop (k+1))else((k:Int),A9P p.keys.length p.squibs[k]))else((k:Int),nmE ((p.squibs.take k).map (·.name)) p.squibs[k].name):=by
    unfold D09;rw[A1C,B6V (·.name) hk]
   rw[e];by_cases h0:nmE ((p.squibs.take k).map (·.name)) p.squibs[k].name=0
   ·rw[if_pos h0,show decide (nmE ((p.squibs.take k).map (·.name)) p.squibs[k].name=0)=true from dT h0,cT];by_cases h1:A9P p.keys.length p.squibs[k]=0
    ·rw[if_pos h1,if_pos h1]
    ·rw[if_neg h1,if_neg h1,A7x,show decide (((k:Int),A9P p.keys.length p.squibs[k]).2=0)=false from dF h1];rfl
   ·rw[if_neg h0,show decide (nmE ((p.squibs.take k).map (·.name)) p.squibs[k].name=0)=false from dF h0,cF,if_neg h0,A7x,show decide (((k:Int),nmE ((p.squibs.take k).map (·.name)) p.squibs[k].name).2=0)=false from dF h0];rfl
  ·rw[if_neg oM,lL oM];rfl
def A9Z (p:D5):Bool:=N9 p.zones.length 1 8||decide (24<p.doors.length)||decide (8<p.people.length)||decide (8<p.keys.length)||decide (6<p.squibs.length)
def B1p (p:D5):Int × Int × Int:=bif N9 p.panel 0 ((p.zones.length:Int)-1)then(7,0,4)else bif (p.squibs.any (A5r (p.zones.getD p.panel.toNat default)))then(7,0,2)else bif N9 p.wait 0 6000 then(7,0,7)else(0,0,0)
def part (n:Int) (x:Int × Int) (c:Int × Int × Int):Int × Int × Int:=bif decide (x.2=0)then c else(n,x.1,x.2)
def A2n (p:D5):Int × Int × Int:=bif A9Z p then(1,0,3)else part 2 (A1C (·.name) B4D [] 0 p.zones) (part 3 (A98 p.zones.length 0 p.doors) (part 4 (A1C (·.name) A9n [] 0 p.people) (part 5 (A1C id (fun _=>0) [] 0 p.keys) (part 6 (A1C (·.name) (A9P p.keys.length) [] 0 p.squibs) (B1p p)))))
theorem B0a {p:D5} (h:A9Z p=false):1≤p.zones.length∧p.zones.length≤8∧p.doors.length≤24∧p.people.length≤8∧p.keys.length≤8∧p.squibs.length≤6:=by
 simp only[A9Z,cg,decide_eq_false_iff_not,O6]at h;omega
theorem B2g (n:Int) (x:Int × Int) (c:Int × Int × Int):(if x.2=0 then some c else some (n,x.1,x.2))=some (part n x c):=by
 unfold part;by_cases h:x.2=0<;>simp[h]
theorem A5O (n:Int) (x:Int × Int) (c:Int × Int × Int):A7x n x (some c)=some (part n x c):=by
 unfold part A7x;cases decide (x.2=0)<;>rfl
theorem B7W {p:D5} (h:N9 p.panel 0 ((p.zones.length:Int)-1)=false):∃ z:Nat,∃ _:z<p.zones.length,p.panel=z:=by
 have:=O6.1 h;exact⟨p.panel.toNat,by omega,by omega⟩
theorem A7e {F:Nat} {p:D5} (h:A5x F p):A43 F p=some (A2n p):=by
 have hf:=h.f;have hz:=h.lz;have hJ:A9Z p=false→A4h F p=some (A2n p):=fun hl=>by
  obtain⟨l1,l2,l3,l4,l5,l6⟩:=B0a hl;have hn:∀ n:Nat,A1S F p=some (bif N9 p.wait 0 6000 then(7,0,7)else(0,0,0)):=fun _=>by
   rw[A1S,A0S,oS];cases N9 p.wait 0 6000<;>rfl
  have hpan:(if N9 p.panel 0 ((p.zones.length:Int)-1)=true then(some ((7,0,4):Int × Int × Int))else((A30 F p p.panel).bind fun rv9=>if rv9.1<0 then(A1S F p)else((P3 rv9.2.zones rv9.1).bind fun e2=>A1U F rv9 e2 (fun(x2:Int)=>A1S F p) F 0)))=some (B1p p):=by
   unfold B1p;cases ho:N9 p.panel 0 ((p.zones.length:Int)-1)with
   | true=>rfl
   | false =>
    obtain⟨z,hz,e⟩:=B7W ho;rw[if_neg sM,A30,oS];dsimp only;rw[if_neg oM,e,H3 hz,oS,hn 0];have:=B09 h p.zones[z] z (some (bif N9 p.wait 0 6000 then((7,0,7):Int × Int × Int)else(0,0,0))) F 0 oM oM;rw[z0]at this;rw[this,tN,aB,am,co hz,aR];cases(p.squibs.any (A5r p.zones[z]))<;>rfl
  have hd:=A9V h (some (part 4 (A1C (·.name) A9n [] 0 p.people) (part 5 (A1C id (fun _=>0) [] 0 p.keys) (part 6 (A1C (·.name) (A9P p.keys.length) [] 0 p.squibs) (B1p p))))) F 0 oM oM;rw[A4h,B0p (nm:=(·.name)) (rest:=B4D) (fun x _=>by rw[A4U]) (fun x _=>B4c hf x) oM oM h.zn,oS]
  simp only[A9e (F:=F) (lv:=p.people) (nm:=(·.name)) (rest:=A9n) (name:=fun a0=>A3J F a0) (re:=fun a0=>A3K F a0) (fun x _=>by rw[A3J]) (fun x _=>by rw[A3K,A6j,A0S];simp only[oS,A9n];cases N9 x.grade 0 9<;>rfl) oM oM h.pn,
   B0q (F:=F) (lv:=p.keys) (nm:=id) (rest:=fun _=>0) (name:=fun a0=>A3L F a0) (re:=fun a0=>A3M F a0) (fun x _=>by rw[A3L];rfl) (fun x _=>by rw[A3M]) oM oM h.kn,
   A9I (F:=F) (lv:=p.squibs) (nm:=(·.name)) (rest:=A9P p.keys.length) (name:=fun a0=>A3N F a0) (re:=fun a0=>A3O F a0 p) (fun x _=>by rw[A3N]) (fun x hx=>by rw[A3O,B2X h hx];rfl) oM oM h.qn,oS,A8u hz,A0S,hpan,B2g]
  rw[z0,A5O,aB]at hd;rw[hd,B2g];unfold A2n;rw[hl,cF]
 have hJ4:A9Z p=true→A1T F=some (A2n p):=fun hl=>by
  unfold A2n;rw[hl];rfl
 rw[A43,A8u hz,A0S,oS];have ez:N9 ((p.zones.length:Int)-1) 0 7=N9 p.zones.length 1 8:=by
  unfold N9;rw[decide_eq_decide];omega
 rw[ez];have hb:A9Z p=(N9 p.zones.length 1 8||decide (24<p.doors.length)||decide (8<p.people.length)||decide (8<p.keys.length)||decide (6<p.squibs.length)):=rfl;have c1:decide ((24:Int)<p.doors.length)=decide (24<p.doors.length):=by rw[decide_eq_decide];omega
 have c2:decide ((8:Int)<p.people.length)=decide (8<p.people.length):=by rw[decide_eq_decide];omega
 have c3:decide ((8:Int)<p.keys.length)=decide (8<p.keys.length):=by rw[decide_eq_decide];omega
 have c4:decide ((6:Int)<p.squibs.length)=decide (6<p.squibs.length):=by rw[decide_eq_decide];omega
 simp only[A4e,A0q,B7q,c1,c2,c3,c4];simp only[dW]at hb;rw[← hb];cases hl:A9Z p with
 | true=>exact hJ4 hl
 | false=>exact hJ hl
theorem D0I {F:Nat} {p:D5} (h:A5x F p):C94 F p=some (A2n p):=by
 have hf:=h.f;have hz:=h.lz;have hJ:A9Z p=false→C8W F p=some (A2n p):=fun hl=>by
  obtain⟨l1,l2,l3,l4,l5,l6⟩:=B0a hl;have hw:((C7m F p.wait 0 6000).bind fun rv9=>if rv9=true then(some ((0,0,0):Int × Int × Int))else(some (7,0,7)))=some (bif N9 p.wait 0 6000 then(7,0,7)else(0,0,0)):=by
   rw[C7V,oS];cases N9 p.wait 0 6000<;>rfl
  have hpan:((C8T F p p.panel).bind fun rv7=>if rv7=true then(C7T F p (fun(x3:Int)=>some (bif N9 p.wait 0 6000 then((7,0,7):Int × Int × Int)else(0,0,0))) F 0)else(some (7,0,4)))=some (B1p p):=by
   rw[D0v h,oS];unfold B1p;cases ho:N9 p.panel 0 ((p.zones.length:Int)-1)with
   | true=>rfl
   | false =>
    obtain⟨z,hz,e⟩:=B7W ho;have:=D0U h hz e (some (bif N9 p.wait 0 6000 then((7,0,7):Int × Int × Int)else(0,0,0))) F 0 oM oM;rw[z0]at this;rw[if_pos sM,this,e,tN,aB,am,co hz,aR];cases(p.squibs.any (A5r p.zones[z]))<;>rfl
  have hq:=D0q h l6 (some (B1p p)) F 0 oM oM;have hk:=D0T h (some (part 6 (A1C (·.name) (A9P p.keys.length) [] 0 p.squibs) (B1p p))) F 0 oM oM l5;rw[C8W,D2d h l2,oS];simp only[D1U h l3,D1H h l4,oS,hw,hpan];rw[z0]at hq hk;rw[hq];simp only[D09,cM,bb,aB];rw[A5O,hk,A5O];unfold A2n;rw[hl,cF];simp only[cM,aB,B2g]
 have hJ2:A9Z p=true→C78 F=some (A2n p):=fun hl=>by
  unfold A2n;rw[hl];rfl
 rw[C94,C7V,oS];have hb:A9Z p=(N9 p.zones.length 1 8||decide (24<p.doors.length)||decide (8<p.people.length)||decide (8<p.keys.length)||decide (6<p.squibs.length)):=rfl;have c1:decide ((24:Int)<p.doors.length)=decide (24<p.doors.length):=by rw[decide_eq_decide];omega
 have c2:decide ((8:Int)<p.people.length)=decide (8<p.people.length):=by rw[decide_eq_decide];omega
 have c3:decide ((8:Int)<p.keys.length)=decide (8<p.keys.length):=by rw[decide_eq_decide];omega
 have c4:decide ((6:Int)<p.squibs.length)=decide (6<p.squibs.length):=by rw[decide_eq_decide];omega
 simp only[A4e,A0q,Bool.cond_not,B7q,c1,c2,c3,c4];simp only[dW]at hb;rw[← hb];cases hl:A9Z p with
 | true=>exact hJ2 hl
 | false=>exact hJ hl
theorem A5z {α:Type} (f:α→Nat):∀ l:List α,∃ N,∀ x∈l,f x<N
 | []=>⟨0,fun _ h=>by simp at h⟩
 | a::l=>by
  obtain⟨N,h⟩:=A5z f l;refine⟨N+f a+1,fun x hx=>?_⟩;rcases ap.1 hx with rfl | hx
  ·omega
  ·have:=h x hx;omega
theorem B8Y {p:D5} (h1:p.zones.length<9223372036854775808) (h2:p.doors.length<9223372036854775808) (h3:p.people.length<9223372036854775808) (h4:p.keys.length<9223372036854775808) (h5:p.squibs.length<9223372036854775808)
  (k1:∀ x∈p.zones,x.name.size<9223372036854775808) (k2:∀ x∈p.people,x.name.size<9223372036854775808) (k3:∀ x∈p.keys,x.size<9223372036854775808) (k4:∀ x∈p.squibs,x.name.size<9223372036854775808) (k5:∀ x∈p.squibs,x.keys.length<9223372036854775808):∃ F0,∀ F,F0≤F→A5x F p:=by
 obtain⟨a,ha⟩:=A5z (fun x:F6=>x.name.size) p.zones;obtain⟨b,hb⟩:=A5z (fun x:E2=>x.name.size) p.people;obtain⟨c,hc⟩:=A5z (fun x:ByteArray=>x.size) p.keys;obtain⟨d,hd⟩:=A5z (fun x:D1=>x.name.size) p.squibs;obtain⟨e,he⟩:=A5z (fun x:D1=>x.keys.length) p.squibs;refine⟨101+a+b+c+d+e,fun F hF=>⟨by omega,h1,h2,h3,h4,h5,fun x hx=>⟨?_,k1 x hx⟩,fun x hx=>⟨?_,k2 x hx⟩,fun x hx=>⟨?_,k3 x hx⟩,fun x hx=>⟨?_,k4 x hx⟩,fun x hx=>⟨?_,k5 x hx⟩⟩⟩
 ·have:=ha x hx;omega
 ·have:=hb x hx;omega
 ·have:=hc x hx;omega
 ·have:=hd x hx;omega
 ·have:=he x hx;omega
theorem A4H {ρ:Type} {g:Nat→Int→Option ρ} {f:Nat→Bool} {len:Nat} {c fl:Option ρ} (h0:∀ n k:Nat,k<len→g (n+1) k=bif f k then g n ((k+1:Nat):Int)else fl) (h1:∀ n,g (n+1) len=c) :
 ∀ n k:Nat,len<n+k→k≤len→g n k=bif (az k (len-k)).all f then c else fl
 | 0,k,h,h2=>absurd h oM
 | n+1,k,h,h2=>by
  by_cases hk:k<len
  ·rw[h0 n k hk,A4H h0 h1 n (k+1) oM oM,show len-k=(len-(k+1))+1 by omega,cy,dq];cases f k<;>rfl
  ·obtain rfl:k=len:=by omega
   rw[h1 n,cJ];rfl
theorem A5I {σ ρ:Type} {g:Nat→σ→Int→Option ρ} {f:σ→Nat→σ} {len:Nat} {c:σ→Option ρ} (I:σ→Nat→Prop) (hI:∀ s k,k<len→I s k→I (f s k) (k+1)) (h0:∀ (n:Nat) s (k:Nat),k<len→I s k→g (n+1) s k=g n (f s k) ((k+1:Nat):Int)) (h1:∀ n s,I s len→g (n+1) s len=c s) :
 ∀ (n:Nat) (s:σ) (k:Nat),I s k→len<n+k→k≤len→g n s k=c ((az k (len-k)).foldl f s)
 | 0,s,k,_,h,h2=>absurd h oM
 | n+1,s,k,hs,h,h2=>by
  by_cases hk:k<len
  ·rw[h0 n s k hk hs,A5I I hI h0 h1 n _ (k+1) (hI s k hk hs) oM oM,show len-k=(len-(k+1))+1 by omega,cy,bY]
  ·obtain rfl:k=len:=by omega
   rw[h1 n s hs,cJ];rfl
theorem J6 {α:Type} {l:List α} {k:Nat} (d:α) (h:k<l.length):l.getD k d=l[k]:=by simp[am,co h]
theorem A93 {α:Type} (l:List α) (d:α) (f:α→Bool):(az 0 l.length).all (fun k=>f (l.getD k d))=l.all f:=by
 have key:∀ m k,k+m=l.length→(az k m).all (fun k=>f (l.getD k d))=(l.drop k).all f:=fun m=>by
  induction m with
  | zero=>intro k hk;rw[lL oM];rfl
  | succ m ih =>
   intro k hk;rw[cy,dq,ih (k+1) oM,lD (by omega:k<l.length),dq,J6 d oM]
 simpa using key l.length 0 oM
structure A6x (p:D5):Prop where
 z1:1≤p.zones.length
 z8:p.zones.length≤8
 d24:p.doors.length≤24
 p8:p.people.length≤8
 k8:p.keys.length≤8
 q6:p.squibs.length≤6
 z:∀ z∈p.zones,B05 z=false
 d:∀ d∈p.doors,A8T p.zones.length d=false
 g:∀ x∈p.people,N9 x.grade 0 9=false
 q:∀ q∈p.squibs,A9u q=false∧A8Z p.keys.length q=false∧A6a q.keys=true
 panel:N9 p.panel 0 ((p.zones.length:Int)-1)=false
 far:p.squibs.any (A5r (p.zones.getD p.panel.toNat default))=false
 wait:N9 p.wait 0 6000=false
theorem A8a {α:Type} {nm:α→ByteArray} {rest:α→Int}:∀ {l:List α} {seen:List ByteArray} {k:Nat},(A1C nm rest seen k l).2=0→∀ x∈l,rest x=0
 | [],_,_,_=>fun _ h=>by simp at h
 | x::l,seen,k,h=>fun y hy=>by
  rw[A1C]at h;by_cases h1:nmE seen (nm x)=0
  ·rw[if_pos h1]at h;by_cases h2:rest x=0
   ·rw[if_pos h2]at h;rcases ap.1 hy with rfl | hy
    ·exact h2
    ·exact A8a h y hy
   ·rw[if_neg h2]at h;exact absurd h h2
  ·rw[if_neg h1]at h;exact absurd h h1
theorem B1R {nz:Nat}:∀ {l:List G6} {k:Nat},(A98 nz k l).2=0→∀ x∈l,A8T nz x=false
 | [],_,_=>fun _ h=>by simp at h
 | x::l,k,h=>fun y hy=>by
  rw[A98]at h;cases h1:A8T nz x with
  | true=>rw[h1]at h;exact absurd h sM
  | false =>
   rw[h1,cF]at h;cases h2:decide (x.a=x.b)with
   | true=>rw[h2]at h;exact absurd h sM
   | false =>
    rw[h2,cF]at h;rcases ap.1 hy with rfl | hy
    ·exact h1
    ·exact B1R h y hy
theorem A9m {n:Int} {x:Int × Int} {c:Int × Int × Int} (hn:(part n x c).2.2=0):x.2=0∧c.2.2=0:=by
 unfold part at hn;by_cases h:x.2=0
 ·rw[dT h]at hn;exact⟨h,hn⟩
 ·rw[dF h]at hn;exact absurd hn h
theorem A60 {p:D5} (h:(A2n p).2.2=0):A6x p:=by
 unfold A2n at h;cases hl:A9Z p with
 | true=>rw[hl]at h;exact absurd h sM
 | false =>
  obtain⟨l1,l2,l3,l4,l5,l6⟩:=B0a hl;rw[hl,cF]at h;obtain⟨h1,h⟩:=A9m h;obtain⟨h2,h⟩:=A9m h;obtain⟨h3,h⟩:=A9m h;obtain⟨h4,h⟩:=A9m h;obtain⟨h5,h⟩:=A9m h;unfold B1p at h;cases e1:N9 p.panel 0 ((p.zones.length:Int)-1)with
  | true=>rw[e1]at h;exact absurd h sM
  | false =>
   rw[e1,cF]at h;cases e2:p.squibs.any (A5r (p.zones.getD p.panel.toNat default))with
   | true=>rw[e2]at h;exact absurd h sM
   | false =>
    rw[e2,cF]at h;cases e3:N9 p.wait 0 6000 with
    | true=>rw[e3]at h;exact absurd h sM
    | false =>
     refine⟨l1,l2,l3,l4,l5,l6,fun z hz=>?_,B1R h2,fun x hx=>?_,fun q hq=>?_,e1,e2,e3⟩
     ·have:=A8a h1 z hz;unfold B4D at this;cases hb:B05 z with
      | false=>rfl
      | true=>rw[hb]at this;exact absurd this sM
     ·have:=A8a h3 x hx;unfold A9n at this;cases hb:N9 x.grade 0 9 with
      | false=>rfl
      | true=>rw[hb]at this;exact absurd this sM
     ·have:=A8a h5 q hq;unfold A9P at this;cases a:A9u q with
      | true=>rw[a]at this;exact absurd this sM
      | false =>
       rw[a,cF]at this;cases b:A8Z p.keys.length q with
       | true=>rw[b]at this;exact absurd this sM
       | false =>
        rw[b,cF]at this;cases c:A6a q.keys with
        | true=>exact⟨rfl,rfl,rfl⟩
        | false=>rw[c]at this;exact absurd this sM
theorem B78 {p:D5} (h:A6x p) {q:D1} (hq:q∈p.squibs) {k:Int} (hk:k∈q.keys):∃ j:Nat,k=j∧j<p.keys.length:=by
 have:=(h.q q hq).2.1;unfold A8Z at this;rw[cg,List.any_eq_false]at this;have:=this.2 k hk;have:=O6.1 (by simpa using this);exact⟨k.toNat,by omega,by omega⟩
structure StF (F:Nat) (s:C3):Prop where
 z:s.zones.length<F∧s.zones.length≤17592186044416
 h:s.holder.length<F∧s.holder.length≤17592186044416
 q:s.squibs.length<F∧s.squibs.length≤17592186044416
abbrev scn (p:D5) (s:C3):E6:=E6.mk p.zones p.doors p.people p.keys p.squibs p.panel p.wait s.now s.zones s.holder s.squibs s.siren s.storm
theorem A8R {F:Nat} {l:List Int} (h:l.length≤17592186044416):T3 F l=some l:=by
 unfold T3 B26;rw[if_pos (by simpa using h)];rfl
theorem A9l {F:Nat} {s:C3} (h:StF F s) (p:D5):A56 F p s=some (some (scn p s)):=by
 rw[A56,A8R h.z.2,A8R h.h.2,A8R h.q.2];rfl
def A7a (p:D5) (s:C3):Bool:=!N9 s.now 0 100000&&(!N9 s.siren (-1) s.now&&(decide (s.zones.length=p.people.length)&&(decide (s.holder.length=p.keys.length)&&(decide (s.squibs.length=p.squibs.length)&&(s.zones.all (fun x=>!N9 x (-1) ((p.zones.length:Int)-1))&&(s.holder.all (fun x=>!N9 x (-1) ((p.people.length:Int)-1))&&s.squibs.all (fun x=>!N9 x 0 2)))))))
theorem B86 {α:Type} (l:List α) (f:α→Bool):l.all (fun x=>!f x)=!l.any f:=by simp[List.all_eq_not_any_not]
theorem B1F {F:Nat} {p:D5} {s:C3} (h:A5x F p) (hs:StF F s):A1o F (scn p s)=some (A7a p s):=by
 have c1:decide ((s.zones.length:Int)=p.people.length)=decide (s.zones.length=p.people.length):=by rw[decide_eq_decide];omega
 have c2:decide ((s.holder.length:Int)=p.keys.length)=decide (s.holder.length=p.keys.length):=by rw[decide_eq_decide];omega
 have c3:decide ((s.squibs.length:Int)=p.squibs.length)=decide (s.squibs.length=p.squibs.length):=by rw[decide_eq_decide];omega
 have hc:∀ (l:List Int) (a b:Int),l.length<F∧l.length≤17592186044416→M1 F l (fun a0=>R8 F a0 a b)=some (l.any (fun x=>N9 x a b)):=fun l a b hl =>
  A2H (fun x _=>by rw[R8,A0S];rfl) oM hl.1
 rw[A1o];simp only[A2j,A0A,A0S,oS,A8u h.lz,A8u h.lp,hc _ _ _ hs.z,hc _ _ _ hs.h,hc _ _ _ hs.q,A4e,A0q,c1,c2,c3,A7a,B86];cases N9 s.now 0 100000<;>cases N9 s.siren (-1) s.now<;>cases decide (s.zones.length=p.people.length)<;>cases decide (s.holder.length=p.keys.length)<;>cases decide (s.squibs.length=p.squibs.length)<;>cases(s.zones.any fun x=>N9 x (-1) ((p.zones.length:Int)-1))<;>cases(s.holder.any fun x=>N9 x (-1) ((p.people.length:Int)-1))<;>rfl
theorem D15 {f:Nat→Bool}:∀ (l:List Nat) (b:Bool),l.foldl (fun b k=>b&&f k) b=(b&&l.all f)
 | [],b=>by simp
 | k::l,b=>by rw[bY,D15 l,dq,eM]
theorem D31 {ρ:Type} {g:Nat→Bool→Int→Option ρ} {f:Nat→Bool} {len:Nat} {c:Bool→Option ρ} (h0:∀ (n:Nat) (b:Bool) (k:Nat),k<len→g (n+1) b k=g n (b&&f k) ((k+1:Nat):Int)) (h1:∀ n b,g (n+1) b len=c b) {n:Nat} (b:Bool) (h:len<n):g n b 0=c (b&&(az 0 len).all f):=by
 have:=A5I (σ:=Bool) (g:=g) (f:=fun b k=>b&&f k) (c:=c) (fun _ _=>True) (fun _ _ _ _=>trivial) (fun n s k hk _=>h0 n s k hk) (fun n s _=>h1 n s) n b 0 trivial oM oM;rw[z0]at this;rw[this,aP,D15]
theorem C93 {F:Nat} {l:List Int} {lo hi:Int} (hl:l.length<9223372036854775808) {g:Nat→Bool→Int→Option Bool} {c:Bool→Option Bool}
 (h0:∀ (n:Nat) (a:Bool) (x:Int),g (n+1) a x=if x<(l.length:Int)then(if a=true then((P3 l x).bind fun e=>(C7m F e lo hi).bind fun rv=>if rv=true then g n true (W (x+1))else g n false (W (x+1)))else g n false (W (x+1)))else c a) (hF:l.length<F) (b:Bool):g F b 0=c (b&&l.all (fun x=>!N9 x lo hi)):=by
 have:=D31 (g:=g) (f:=fun k=>!N9 (l.getD k 0) lo hi) (len:=l.length) (c:=c) (fun n a k hk=>by
  rw[h0,if_pos oM,H3 hk,oS,C7V,oS,S0 oM];rw[J6 0 hk];cases a<;>cases N9 l[k] lo hi<;>rfl) (fun n a=>by rw[h0,if_neg oM]) b hF
 rw[this,A93 l 0 (fun x=>!N9 x lo hi)]
theorem D1F {F:Nat} {p:D5} {s:C3} (h:A5x F p) (hs:StF F s):C99 F p s=some (A7a p s):=by
 have hz:=hs.z;have hh:=hs.h;have hq:=hs.q;have c1:decide ((s.zones.length:Int)=p.people.length)=decide (s.zones.length=p.people.length):=by rw[decide_eq_decide];omega
 have c2:decide ((s.holder.length:Int)=p.keys.length)=decide (s.holder.length=p.keys.length):=by rw[decide_eq_decide];omega
 have c3:decide ((s.squibs.length:Int)=p.squibs.length)=decide (s.squibs.length=p.squibs.length):=by rw[decide_eq_decide];omega
 have w1:=A8u h.lz;have w2:=A8u h.lp;have e1:∀ (c:Bool→Option Bool) b,C5E F s (fun a _=>c a) F b 0=c (b&&s.squibs.all (fun x=>!N9 x 0 2)):=fun c b=>C93 (F:=F) (l:=s.squibs) (g:=fun n b x=>C5E F s (fun a _=>c a) n b x) oM (fun n a x=>by rw[C5E]) hq.1 b;have e2:∀ (c:Bool→Option Bool) b,C5K F p s (fun a _=>c a) F b 0=c (b&&s.holder.all (fun x=>!N9 x (-1) ((p.people.length:Int)-1))):=fun c b=>C93 (F:=F) (l:=s.holder) (g:=fun n b x=>C5K F p s (fun a _=>c a) n b x) oM (fun n a x=>by rw[C5K,w2]) hh.1 b;have e3:∀ (c:Bool→Option Bool) b,C6s F p s (fun a _=>c a) F b 0=c (b&&s.zones.all (fun x=>!N9 x (-1) ((p.zones.length:Int)-1))):=fun c b=>C93 (F:=F) (l:=s.zones) (g:=fun n b x=>C6s F p s (fun a _=>c a) n b x) oM (fun n a x=>by rw[C6s,w1]) hz.1 b;have e4:∀ (c:Bool→Option Bool) b,C5L F s (fun a _=>c a) F b 0=c (b&&s.squibs.all (fun x=>!N9 x 0 2)):=fun c b=>C93 (F:=F) (l:=s.squibs) (g:=fun n b x=>C5L F s (fun a _=>c a) n b x) oM (fun n a x=>by rw[C5L]) hq.1 b;have e5:∀ (c:Bool→Option Bool) b,C6t F p s (fun a _=>c a) F b 0=c (b&&s.holder.all (fun x=>!N9 x (-1) ((p.people.length:Int)-1))):=fun c b=>C93 (F:=F) (l:=s.holder) (g:=fun n b x=>C6t F p s (fun a _=>c a) n b x) oM (fun n a x=>by rw[C6t,w2]) hh.1 b;have e6:∀ (c:Bool→Option Bool) b,C6G F p s (fun a _=>c a) F b 0=c (b&&s.zones.all (fun x=>!N9 x (-1) ((p.zones.length:Int)-1))):=fun c b=>C93 (F:=F) (l:=s.zones) (g:=fun n b x=>C6G F p s (fun a _=>c a) n b x) oM (fun n a x=>by rw[C6G,w1]) hz.1 b;have hJ:C6E F p s=some false:=by
  rw[C6E];refine(e6 (fun a4=>C6t F p s (fun a5 x3=>C5L F s (fun a6 x4=>some a6) F a5 0) F a4 0) false).trans ?_;refine(e5 (fun a5=>C5L F s (fun a6 x4=>some a6) F a5 0) _).trans ?_;exact e4 some _
 have hL:C6s F p s (fun a _=>C5K F p s (fun a2 _=>C5E F s (fun a3 _=>some a3) F a2 0) F a 0) F true 0=some (s.zones.all (fun x=>!N9 x (-1) ((p.zones.length:Int)-1))&&s.holder.all (fun x=>!N9 x (-1) ((p.people.length:Int)-1))&&s.squibs.all (fun x=>!N9 x 0 2)):=by
  refine(e3 (fun a4=>C5K F p s (fun a5 x3=>C5E F s (fun a6 x4=>some a6) F a5 0) F a4 0) true).trans ?_;refine(e2 (fun a5=>C5E F s (fun a6 x4=>some a6) F a5 0) _).trans ?_;refine(e1 some _).trans ?_;rw[bf]
 rw[C99];simp only[hJ,hL,C7V,oS,A4e,A0q,c1,c2,c3,A7a];cases N9 s.now 0 100000<;>cases N9 s.siren (-1) s.now<;>cases decide (s.zones.length=p.people.length)<;>cases decide (s.holder.length=p.keys.length)<;>cases decide (s.squibs.length=p.squibs.length)<;>simp[eM]
structure A2l (p:D5) (s:C3):Prop where
 now:0≤s.now∧s.now≤100000
 siren : -1≤s.siren∧s.siren≤s.now
 lz:s.zones.length=p.people.length
 lh:s.holder.length=p.keys.length
 lq:s.squibs.length=p.squibs.length
 z:∀ x∈s.zones,-1≤x∧x<p.zones.length
 h:∀ x∈s.holder,-1≤x∧x<p.people.length
 q:∀ x∈s.squibs,0≤x∧x≤2
theorem A9Y {p:D5} {s:C3}:A7a p s=true↔A2l p s:=by
 have hn:∀ x a b,(!N9 x a b)=true↔a≤x∧x≤b:=fun x a b=>by
  rw[Bool.not_eq_true',O6]
 unfold A7a;simp only[aF,decide_eq_true_eq,ax,hn];constructor
 ·rintro⟨h1,h2,h3,h4,h5,h6,h7,h8⟩;exact⟨h1,h2,h3,h4,h5,fun x hx=>by have:=h6 x hx;omega,fun x hx=>by have:=h7 x hx;omega,h8⟩
 ·rintro⟨h1,h2,h3,h4,h5,h6,h7,h8⟩;exact⟨h1,h2,h3,h4,h5,fun x hx=>by have:=h6 x hx;omega,fun x hx=>by have:=h7 x hx;omega,h8⟩
def A6W (s:C3) (z:Int):Nat:=s.zones.countP (fun e=>decide (e=z))
theorem A8S {α:Type} (l:List α) (d:α) (f:α→Bool):∀ (m k c:Nat),k+m=l.length→(az k m).foldl (fun(c:Nat) k=>if f (l.getD k d)=true then c+1 else c) c=c+(l.drop k).countP f
 | 0,k,c,h=>by rw[lL oM];rfl
 | m+1,k,c,h=>by
  rw[cy,bY,A8S l d f m (k+1) _ oM,lD (by omega:k<l.length),List.countP_cons,J6 d oM];cases f l[k]<;>simp;omega
theorem B6v {F:Nat} {l:List Int} {z:Int} (hl:l.length<9223372036854775807) {g:Nat→Int→Int→Option Int} (h0:∀ (n:Nat) (c x:Int),g (n+1) c x=if x<(l.length:Int)then((P3 l x).bind fun e=>if e=z then g n (W (c+1)) (W (x+1))else g n c (W (x+1)))else some c) (hF:l.length<F):g F 0 0=some ((l.countP (fun e=>decide (e=z)):Nat):Int):=by
 have:=A5I (σ:=Nat) (g:=fun n (s:Nat) x=>g n (s:Int) x) (f:=fun c k=>if decide (l.getD k 0=z)=true then c+1 else c) (len:=l.length) (c:=fun c=>some (c:Int)) (fun c k=>c≤k) (fun c k hk hc=>by split<;>omega) (fun n c k hk hc=>by
  rw[h0,if_pos oM,H3 hk,oS,S0 (show k<9223372036854775807 by omega),J6 0 hk];by_cases h:l[k]=z
  ·rw[if_pos h,if_pos (by simp[h]),S0 (show c<9223372036854775807 by omega)]
  ·rw[if_neg h,if_neg (by simp[h])]) (fun n c _=>by rw[h0,if_neg oM]) F 0 0 (aw _) oM oM
 rw[z0]at this;rw[this,aP,A8S l 0 (fun e=>decide (e=z)) l.length 0 0 oM,aZ,aB]
theorem A7h {F:Nat} {s:C3} (hs:StF F s) (p:D5) (z:Int):A03 F (scn p s) z=some (A6W s z:Int):=by
 have:=hs.z;exact B6v (F:=F) (l:=s.zones) (g:=fun n c x=>Y0 F (scn p s) z (fun nv _=>some nv) n c x) oM (fun n c x=>by rw[Y0]) this.1
theorem D0s {F:Nat} {s:C3} (hs:StF F s) (z:Int):C8L F s z=some (A6W s z:Int):=by
 have:=hs.z;exact B6v (F:=F) (l:=s.zones) (g:=fun n c x=>C8x F s z (fun nv _=>some nv) n c x) oM (fun n c x=>by rw[C8x]) this.1
theorem B1X {p:D5} {s:C3} (h:A6x p) (hf:A2l p s) {q:D1} (hq:q∈p.squibs) {k:Int} (hk:k∈q.keys):P3 s.holder k=some (s.holder.getD k.toNat (-1)):=by
 obtain⟨j,rfl,hj⟩:=B78 h hq hk;have:=hf.lh;rw[H3 oM,tN,J6 _ oM]
theorem D16 {p:D5} {s:C3} (hf:A2l p s) (j:Nat) : -1≤s.holder.getD j (-1)∧s.holder.getD j (-1)<p.people.length:=by
 rw[am];cases h:s.holder[j]? with
 | none=>simp;omega
 | some x=>simpa using hf.h x (List.mem_of_getElem? h)
def B3H (s:C3) (k:Int):Bool:=decide (0≤s.holder.getD k.toNat (-1))
def B1b (s:C3) (q:D1):List Int:=q.keys.filter (B3H s)
theorem A8Y {α:Type} (l:List α) (d:α) (f:α→Bool):∀ (m k:Nat) (acc:List α),k+m=l.length→(az k m).foldl (fun(a:List α) k=>bif f (l.getD k d)then a++[l.getD k d]else a) acc=acc++(l.drop k).filter f
 | 0,k,c,h=>by rw[lL oM];simp
 | m+1,k,c,h=>by
  rw[cy,bY,A8Y l d f m (k+1) _ oM,lD (by omega:k<l.length),List.filter_cons,J6 d oM];cases f l[k]<;>simp
theorem B7V {F:Nat} {l:List Int} {f:Int→Bool} (hl:l.length≤8) {g:Nat→List Int→Int→Option (List Int)} (h0:∀ (n:Nat) (a:List Int) (k:Nat) (h:k<l.length),g (n+1) a k=bif f l[k]then((A8i a [l[k]]).bind fun q=>g n q (W ((k:Int)+1)))else g n a (W ((k:Int)+1))) (h1:∀ n a,g (n+1) a l.length=some a) (hF:l.length<F):g F [] 0=some (l.filter f):=by
 have:=A5I (σ:=List Int) (g:=g) (f:=fun a k=>bif f (l.getD k 0)then a++[l.getD k 0]else a) (len:=l.length) (c:=some) (fun a k=>a.length≤k) (fun a k hk hc=>by cases f (l.getD k 0)<;>simp<;>omega) (fun n a k hk hc=>by
  rw[h0 n a k hk,A8O oM,oS,S0 (show k<9223372036854775807 by omega),J6 0 hk];cases f l[k]<;>rfl) (fun n a _=>h1 n a) F [] 0 (aw _) oM oM
 rw[z0]at this;rw[this,aP,A8Y l 0 f l.length 0 [] oM];rfl
theorem B59 {nk:Nat}:∀ {l:List Int},A6a l=true→(∀ x∈l,0≤x∧x<nk)→l.length≤nk:=by
 have key:∀ (l:List Int) (b:Int),A6a (b::l)=true→(∀ x∈b::l,0≤x∧x<nk)→(l.length:Int)<nk-b:=fun l=>by
  induction l with
  | nil=>intro b _ h;have:=h b sM;simp;omega
  | cons y l ih =>
   intro b ha h;rw[A6a,aF,decide_eq_true_eq]at ha;have:=ih y ha.2 (fun x hx=>h x (by simp at hx ⊢;right;exact hx));simp only[cj];omega
 intro l ha h;cases l with
 | nil=>simp
 | cons b l =>
  have h1:=key l b ha h;have h2:=h b sM;simp only[cj];omega
theorem B3K {p:D5} (h:A6x p) {q:D1} (hq:q∈p.squibs):q.keys.length≤8:=by
 have:=B59 (nk:=p.keys.length) (h.q q hq).2.2 (fun x hx=>by obtain⟨j,rfl,hj⟩:=B78 h hq hx;omega);have:=h.k8;omega
theorem B0d {F:Nat} {p:D5} {s:C3} (h:A5x F p) (ho:A6x p) (hf:A2l p s) {k:Nat} (hk:k<p.squibs.length):A11 F (scn p s) k=some (B1b s p.squibs[k]):=by
 have hm:=aj hk;have hF:=h.f;rw[A11,show(scn p s).O4=p.squibs from rfl,H3 hk,oS];refine B7V (F:=F) (f:=B3H s) (B3K ho hm) (g:=fun n a x=>X4 F (scn p s) p.squibs[k] (fun lv _=>some lv) n a x) (fun n a j hj=>?_) (fun n a=>?_) (by have:=B3K ho hm;omega)
 ·rw[X4,if_pos oM,H3 hj,oS,show(scn p s).A8=s.holder from rfl,B1X ho hf hm (aj hj),oS,A4e];rfl
 ·rw[X4,if_neg oM]
theorem D1j {F:Nat} {p:D5} {s:C3} (h:A5x F p) (ho:A6x p) (hf:A2l p s) {k:Nat} (hk:k<p.squibs.length):C9O F p s k=some (B1b s p.squibs[k]):=by
 have hm:=aj hk;have hF:=h.f;rw[C9O,H3 hk,oS];refine B7V (F:=F) (f:=B3H s) (B3K ho hm) (g:=fun n a x=>C7W F s p.squibs[k] (fun lv _=>some lv) n a x) (fun n a j hj=>?_) (fun n a=>?_) (by have:=B3K ho hm;omega)
 ·rw[C7W,if_pos oM,H3 hj,oS,B1X ho hf hm (aj hj),oS];have hg:=D16 hf p.squibs[k].keys[j].toNat;unfold B3H;by_cases h0:s.holder.getD p.squibs[k].keys[j].toNat (-1) = -1
  ·rw[if_pos h0,show decide (0≤s.holder.getD p.squibs[k].keys[j].toNat (-1))=false from dF oM];rfl
  ·rw[if_neg h0,show decide (0≤s.holder.getD p.squibs[k].keys[j].toNat (-1))=true from dT oM];rfl
 ·rw[C7W,if_neg oM]
def B4R (s:C3) (i:Int) (q:D1):Bool:=q.keys.any (fun k=>decide (s.holder.getD k.toNat (-1)=i))
theorem B2U {F:Nat} {p:D5} {s:C3} (h:A5x F p) (ho:A6x p) (hf:A2l p s) {q:D1} (hq:q∈p.squibs) (i:Int):M1 F q.keys (fun a0=>A0N F a0 (scn p s) i)=some (B4R s i q) :=
 A2H (fun x hx=>by rw[A0N,show(scn p s).A8=s.holder from rfl,B1X ho hf hq hx];rfl) (h.qk q hq).2 (h.qk q hq).1
theorem D1R {F:Nat} {p:D5} {s:C3} (ho:A6x p) (hf:A2l p s) {q:D1} (hq:q∈p.squibs) (i:Int):∀ (n k:Nat),q.keys.length<n+k→k≤q.keys.length→C85 F s i q (fun _=>some false) n k=some ((q.keys.drop k).any (fun k=>decide (s.holder.getD k.toNat (-1)=i)))
 | 0,k,h1,h2=>absurd h1 oM
 | n+1,k,h1,h2=>by
  have hl:=B3K ho hq;rw[C85];by_cases hk:k<q.keys.length
  ·rw[if_pos oM,H3 hk,oS,B1X ho hf hq (aj hk),oS,lD hk,bd,S0 oM,D1R ho hf hq i n (k+1) oM oM,A4e];cases decide (s.holder.getD q.keys[k].toNat (-1)=i)<;>rfl
  ·rw[if_neg oM,lL oM];rfl
theorem D1W {F:Nat} {p:D5} {s:C3} (h:A5x F p) (ho:A6x p) (hf:A2l p s) {k:Nat} (hk:k<p.squibs.length) (i:Int):C9X F p s i k=some (B4R s i p.squibs[k]):=by
 have hm:=aj hk;have:=D1R (F:=F) ho hf hm i F 0 (by have:=B3K ho hm;have:=h.f;omega) oM;rw[C9X,H3 hk,oS];rw[z0]at this;exact this
def B3J (p:D5) (s:C3) (i:Int) (z:F6) (k:Nat):Bool:=decide (s.squibs.getD k 0=2) || !A5r z (p.squibs.getD k default)||B4R s i (p.squibs.getD k default)
def A6n (p:D5) (s:C3) (i z:Int):Bool:=decide (z<0)||(az 0 p.squibs.length).all (B3J p s i (p.zones.getD z.toNat default))
theorem B1G {F:Nat} {p:D5} {s:C3} (h:A5x F p) (ho:A6x p) (hf:A2l p s) (i a:Int) (z:F6):R0 F (scn p s) i (a,p) z (fun _=>some true) F 0=some ((az 0 p.squibs.length).all (B3J p s i z)):=by
 have hF:=h.f;have hq6:=ho.q6;have:=A4H (g:=fun n x=>R0 F (scn p s) i (a,p) z (fun _=>some true) n x) (f:=B3J p s i z) (len:=p.squibs.length) (c:=some true) (fl:=some false) (fun n k hk=>by
  have hk':k<s.squibs.length:=by have:=hf.lq;omega
  rw[R0,if_pos (by dsimp only;omega),H3 hk,oS,show(scn p s).A4=s.squibs from rfl,H3 hk',oS,oS,B2U h ho hf (aj hk),oS,A10,S0 oM];unfold B3J;rw[J6 _ hk,J6 _ hk',A4e];show(bif A5r z p.squibs[k]then _ else _)=_;simp only[A4e,A0q];cases A5r z p.squibs[k]<;>cases decide (s.squibs[k]=2)<;>cases B4R s i p.squibs[k]<;>rfl) (fun n=>by rw[R0,if_neg (by dsimp only;omega)]) F 0 oM oM
 rw[z0]at this;refine this.trans ?_;rw[aP];cases(az 0 p.squibs.length).all (B3J p s i z)<;>rfl
theorem A7i {F:Nat} {p:D5} {s:C3} (h:A5x F p) (ho:A6x p) (hf:A2l p s) (i:Int) {z:Int} (hz:z<p.zones.length):A0g F (scn p s) i z=some (A6n p s i z):=by
 rw[A0g,A30,oS];dsimp only;unfold A6n;by_cases h0:z<0
 ·rw[if_pos h0,dT h0];rfl
 ·obtain⟨j,rfl⟩:∃ j:Nat,z=j:=⟨z.toNat,by omega⟩;have hj:j<p.zones.length:=by omega
  rw[if_neg h0,dF h0,bu,H3 hj,oS,tN,J6 _ hj];exact B1G h ho hf i j _
theorem C9Y {F:Nat} {p:D5} {s:C3} (h:A5x F p) (ho:A6x p) (hf:A2l p s) (i:Int) {z:Int} (hz:z<p.zones.length):C8q F p s i z=some (A6n p s i z):=by
 have hF:=h.f;have hq6:=ho.q6;rw[C8q];unfold A6n;by_cases h0:z<0
 ·obtain⟨m,rfl⟩:∃ m,F=m+1:=⟨F-1,by omega⟩;rw[C6M,if_neg (show ¬ 0≤z by omega),dT h0];simp
 ·obtain⟨j,rfl⟩:∃ j:Nat,z=j:=⟨z.toNat,by omega⟩;have hj:j<p.zones.length:=by omega
  rw[dF h0,bu,tN,J6 _ hj];have:=A4H (g:=fun n x=>C6M F p s i j (fun _=>some true) n x) (f:=B3J p s i p.zones[j]) (len:=p.squibs.length) (c:=some true) (fl:=some false) (fun n k hk=>by
   have hk':k<s.squibs.length:=by have:=hf.lq;omega
   rw[C6M,if_pos oM,if_pos oM,C9u,H3 hk',oS,D0t hj hk,oS,D1W h ho hf hk,oS,C86,S0 oM];unfold B3J;rw[J6 _ hk,J6 _ hk'];simp only[A4e,A0q];cases A5r p.zones[j] p.squibs[k]<;>cases decide (s.squibs[k]=2)<;>cases B4R s i p.squibs[k]<;>rfl) (fun n=>by rw[C6M,if_neg oM]) F 0 oM oM
  rw[z0]at this;refine this.trans ?_;rw[aP];cases(az 0 p.squibs.length).all (B3J p s i p.zones[j])<;>rfl
def A3X (p:D5) (s:C3) (z:Int):Bool:=decide (0≤z)&&((p.zones.getD z.toNat default).pair&&decide (A6W s z=1))
theorem A7g {F:Nat} {p:D5} {s:C3} (hs:StF F s) {z:Int} (hz:z<p.zones.length):A0f F (scn p s) z=some (A3X p s z):=by
 rw[A0f];unfold A3X;by_cases h0:0≤z
 ·obtain⟨j,rfl⟩:∃ j:Nat,z=j:=⟨z.toNat,by omega⟩;have hj:j<p.zones.length:=by omega
  rw[if_pos h0,show(scn p s).O0=p.zones from rfl,H3 hj,oS,A7h hs,oS,dT h0,bf,tN,J6 _ hj,show decide (((A6W s j:Nat):Int)=1)=decide (A6W s j=1) by rw[decide_eq_decide];omega];cases p.zones[j].pair<;>rfl
 ·rw[if_neg h0,dF h0];rfl
def B4E (p:D5) (s:C3) (k:Nat):Bool:=!decide ((p.zones.getD k default).room<(A6W s k:Int)) && !A3X p s k
def A9o (p:D5) (s:C3) (k:Nat):Bool:=!(decide (0≤s.zones.getD k 0)&&decide ((p.people.getD k default).grade<(p.zones.getD (s.zones.getD k 0).toNat default).grade))&&A6n p s k (s.zones.getD k 0)
def B1y (p:D5) (s:C3) (k:Nat):Bool:=!decide (s.squibs.getD k 0=1)||(decide (B1b s (p.squibs.getD k default)=[])&&(!decide (s.siren<0) && !s.storm))
def A9O (p:D5) (s:C3):Bool:=(az 0 p.zones.length).all (B4E p s)&&((az 0 s.zones.length).all (A9o p s)&&(az 0 s.squibs.length).all (B1y p s))
theorem B3O {α:Type} (l:List α):decide ((0:Int)<(l.length:Int))=!decide (l=[]):=by
 cases l<;>simp
theorem B2W {F:Nat} {p:D5} {s:C3} (h:A5x F p) (hs:StF F s) (ho:A6x p) (hf:A2l p s):A2L F (scn p s)=some (A9O p s):=by
 have hF:=h.f;have o1:=ho.z8;have o2:=ho.p8;have o3:=ho.q6;have f1:=hf.lz;have f2:=hf.lq;have e1:S6 F (scn p s) (fun _=>some true) F 0=bif (az 0 s.squibs.length).all (B1y p s)then some true else some false:=by
  have:=A4H (g:=fun n x=>S6 F (scn p s) (fun _=>some true) n x) (f:=B1y p s) (len:=s.squibs.length) (c:=some true) (fl:=some false) (fun n k hk=>by
   have hk':k<p.squibs.length:=by omega
   rw[S6,if_pos (by dsimp only;omega),show(scn p s).A4=s.squibs from rfl,H3 hk,oS,B0d h ho hf hk',oS,R1,A13,S0 oM];unfold B1y;rw[J6 _ hk,J6 _ hk'];simp only[A4e,A0q,B3O];show(bif decide (s.squibs[k]=1)then bif !decide (B1b s p.squibs[k]=[])then _ else bif decide (s.siren<0)then _ else bif s.storm then _ else _ else _)=_;cases decide (s.squibs[k]=1)<;>cases decide (B1b s p.squibs[k]=[])<;>cases decide (s.siren<0)<;>cases s.storm<;>rfl) (fun n=>by rw[S6,if_neg (by dsimp only;omega)]) F 0 oM oM
  rw[z0]at this;exact this
 have e2:∀ c:Option Bool,S7 F (scn p s) (fun _=>c) F 0=bif (az 0 s.zones.length).all (A9o p s)then c else some false:=fun c=>by
  have:=A4H (g:=fun n x=>S7 F (scn p s) (fun _=>c) n x) (f:=A9o p s) (len:=s.zones.length) (c:=c) (fl:=some false) (fun n k hk=>by
   have hk':k<p.people.length:=by omega
   have hz:=hf.z _ (aj hk);rw[S7,if_pos (by dsimp only;omega),show(scn p s).A9=s.zones from rfl,H3 hk,oS,show(scn p s).O3=p.people from rfl,H3 hk',oS,A7i h ho hf k hz.2,oS,A12,R1,S0 oM];unfold A9o;rw[J6 _ hk,J6 _ hk'];by_cases h0:0≤s.zones[k]
   ·obtain⟨j,ej⟩:∃ j:Nat,s.zones[k]=j:=⟨s.zones[k].toNat,by omega⟩;have hj:j<p.zones.length:=by omega
    rw[if_pos h0,dT h0,ej,H3 hj,oS,tN,J6 _ hj];simp only[A4e,A0q];cases decide (p.people[k].grade<p.zones[j].grade)<;>cases A6n p s k j<;>rfl
   ·rw[if_neg h0,dF h0];simp only[A4e,A0q];cases A6n p s k s.zones[k]<;>rfl) (fun n=>by rw[S7,if_neg (by dsimp only;omega)]) F 0 oM oM
  rw[z0]at this;exact this
 have e3:∀ c:Option Bool,V9 F (scn p s) (fun _=>c) F 0=bif (az 0 p.zones.length).all (B4E p s)then c else some false:=fun c=>by
  have:=A4H (g:=fun n x=>V9 F (scn p s) (fun _=>c) n x) (f:=B4E p s) (len:=p.zones.length) (c:=c) (fl:=some false) (fun n k hk=>by
   rw[V9,if_pos (by dsimp only;omega),show(scn p s).O0=p.zones from rfl,H3 hk,oS,A7h hs,oS,A7g hs oM,oS,S0 oM];unfold B4E;rw[J6 _ hk];simp only[A4e,A0q];cases decide (p.zones[k].room<(A6W s k:Int))<;>cases A3X p s k<;>rfl) (fun n=>by rw[V9,if_neg (by dsimp only;omega)]) F 0 oM oM
  rw[z0]at this;exact this
 rw[A2L,e3,e2,e1];unfold A9O;cases(az 0 p.zones.length).all (B4E p s)<;>cases(az 0 s.zones.length).all (A9o p s)<;>cases(az 0 s.squibs.length).all (B1y p s)<;>rfl
theorem D1Y {F:Nat} {p:D5} {s:C3} (h:A5x F p) (hs:StF F s) (ho:A6x p) (hf:A2l p s):D0a F p s=some (A9O p s):=by
 have hF:=h.f;have o1:=ho.z8;have o2:=ho.p8;have o3:=ho.q6;have f1:=hf.lz;have f2:=hf.lq;have e1:C6R F p s (fun _=>some true) F 0=bif (az 0 s.squibs.length).all (B1y p s)then some true else some false:=by
  have:=A4H (g:=fun n x=>C6R F p s (fun _=>some true) n x) (f:=B1y p s) (len:=s.squibs.length) (c:=some true) (fl:=some false) (fun n k hk=>by
   have hk':k<p.squibs.length:=by omega
   rw[C6R,if_pos oM,H3 hk,oS,D1j h ho hf hk',oS,C6a,C9b,S0 oM];unfold B1y;rw[J6 _ hk,J6 _ hk'];simp only[A4e,A0q,B3O];cases decide (s.squibs[k]=1)<;>cases decide (B1b s p.squibs[k]=[])<;>cases decide (s.siren<0)<;>cases s.storm<;>rfl) (fun n=>by rw[C6R,if_neg oM]) F 0 oM oM
  rw[z0]at this;exact this
 have e2:∀ c:Option Bool,C6W F p s (fun _=>c) F 0=bif (az 0 s.zones.length).all (A9o p s)then c else some false:=fun c=>by
  have:=A4H (g:=fun n x=>C6W F p s (fun _=>c) n x) (f:=A9o p s) (len:=s.zones.length) (c:=c) (fl:=some false) (fun n k hk=>by
   have hk':k<p.people.length:=by omega
   have hz:=hf.z _ (aj hk);rw[C6W,if_pos oM,H3 hk,oS,H3 hk',oS,C9Y h ho hf k hz.2,oS,C9a,C6a,S0 oM];unfold A9o;rw[J6 _ hk,J6 _ hk'];by_cases h0:0≤s.zones[k]
   ·obtain⟨j,ej⟩:∃ j:Nat,s.zones[k]=j:=⟨s.zones[k].toNat,by omega⟩;have hj:j<p.zones.length:=by omega
    rw[if_pos h0,dT h0,ej,H3 hj,oS,tN,J6 _ hj];simp only[A4e,A0q];cases decide (p.people[k].grade<p.zones[j].grade)<;>cases A6n p s k j<;>rfl
   ·rw[if_neg h0,dF h0];simp only[A4e,A0q];cases A6n p s k s.zones[k]<;>rfl) (fun n=>by rw[C6W,if_neg oM]) F 0 oM oM
  rw[z0]at this;exact this
 have e3:∀ c:Option Bool,C7e F p s (fun _=>c) F 0=bif (az 0 p.zones.length).all (B4E p s)then c else some false:=fun c=>by
  have:=A4H (g:=fun n x=>C7e F p s (fun _=>c) n x) (f:=B4E p s) (len:=p.zones.length) (c:=c) (fl:=some false) (fun n k hk=>by
   rw[C7e,if_pos oM,D0s hs,oS,H3 hk,oS,C8Z,S0 oM];unfold B4E A3X;rw[tN,J6 _ hk,dT (show(0:Int)≤(k:Int) by omega)];simp only[A4e,A0q,show decide (((A6W s k:Nat):Int)=1)=decide (A6W s k=1) by rw[decide_eq_decide];omega];cases decide (p.zones[k].room<(A6W s k:Int))<;>cases p.zones[k].pair<;>cases decide (A6W s k=1)<;>rfl) (fun n=>by rw[C7e,if_neg oM]) F 0 oM oM
  rw[z0]at this;exact this
 rw[D0a,e3,e2,e1];unfold A9O;cases(az 0 p.zones.length).all (B4E p s)<;>cases(az 0 s.zones.length).all (A9o p s)<;>cases(az 0 s.squibs.length).all (B1y p s)<;>rfl
def A7q (p:D5) (s:C3):Int:=bif decide ((A2n p).2.2=0)then(bif A7a p s&&A9O p s then 0 else 6)else(A2n p).2.2
theorem A9h {F:Nat} {p:D5} {s:C3} (h:A5x F p) (hs:StF F s):A3g F p s=some (A7q p s):=by
 rw[A3g,A7e h,oS];unfold A7q;by_cases h0:(A2n p).2.2=0
 ·rw[if_pos h0,dT h0,cT,A9l hs,oS];show((A1o F (scn p s)).bind _)=_;rw[B1F h hs,oS];cases hf:A7a p s with
  | false=>rfl
  | true =>
   rw[if_pos rfl,B2W h hs (A60 h0) (A9Y.1 hf),oS];cases A9O p s<;>rfl
 ·rw[if_neg h0,dF h0];rfl
theorem D0O {F:Nat} {p:D5} (h:A5x F p):C9C F p=some (A2n p).2.2:=by
 rw[C9C,D0I h];rfl
theorem D0C {F:Nat} {p:D5} {s:C3} (h:A5x F p) (hs:StF F s):C8p F p s=some (A7q p s):=by
 rw[C8p,D0O h,oS];unfold A7q;by_cases h0:(A2n p).2.2=0
 ·rw[if_pos h0,dT h0,cT,D1F h hs,oS];cases hf:A7a p s with
  | false=>rfl
  | true =>
   rw[if_pos rfl,D1Y h hs (A60 h0) (A9Y.1 hf),oS];cases A9O p s<;>simp[C6n,h0]
 ·rw[if_neg h0,dF h0];rfl
structure C0V (p:D5) (s:C3):Prop where
 o:A6x p
 f:A2l p s
 s:A9O p s=true
theorem B6Q {p:D5} {s:C3} (h:A7q p s=0):C0V p s:=by
 unfold A7q at h;by_cases h0:(A2n p).2.2=0
 ·rw[dT h0,cT]at h;cases h1:A7a p s&&A9O p s with
  | false=>rw[h1]at h;exact absurd h sM
  | true =>
   rw[aF]at h1;exact⟨A60 h0,A9Y.1 h1.1,h1.2⟩
 ·rw[dF h0]at h;exact absurd h h0
def B49 (p:D5) (a:D2):Int :=
 bif decide (a.kind=1)then(bif decide (a.what = -1)then 0 else bif N9 a.what 0 ((p.zones.length:Int)-1)then 4 else 0)
 else bif decide (a.kind=2)||(decide (a.kind=3)||decide (a.kind=4))then(bif N9 a.what 0 ((p.keys.length:Int)-1)then 4 else 0)
 else bif decide (a.kind=5)||(decide (a.kind=6)||decide (a.kind=7))then(bif N9 a.what 0 ((p.squibs.length:Int)-1)then 4 else 0)
 else bif N9 a.what 0 1 then 2 else 0
def B8s (p:D5) (a:D2):Int :=
 bif decide (a.kind=4)||(decide (a.kind=1) && !decide (a.with_ = -1))then(bif N9 a.with_ 0 ((p.people.length:Int)-1)then 4 else bif decide (a.with_=a.who)then 2 else 0)
 else bif decide (a.with_ = -1)then 0 else 2
def B25 (p:D5) (a:D2):Int:=bif N9 a.at_ 0 100000 then 7 else bif N9 a.kind 1 9 then 2 else bif N9 a.who 0 ((p.people.length:Int)-1)then 4 else bif decide (B49 p a=0)then B8s p a else B49 p a
theorem B9u {k:Int} (h:N9 k 1 9=false):k=1∨k=2∨k=3∨k=4∨k=5∨k=6∨k=7∨k=8∨k=9:=by
 have:=O6.1 h;omega
theorem B5l {F:Nat} {p:D5} (h:A5x F p) (a:D2):A9k F p a=some (B25 p a):=by
 simp only[A9k,A23,B5j,A45,A46,A24,B5k,A47,A48,A5N,A4V,A0L,A0S,A8u h.lz,A8u h.lp,A8u h.lk,A8u h.lq,oS,A4e,A0q];unfold B25 B49 B8s;cases e1:N9 a.at_ 0 100000 with
 | true=>cases decide (a.kind=4)<;>cases decide (a.kind=1)<;>cases decide (a.with_ = -1)<;>rfl
 | false =>
  cases e2:N9 a.kind 1 9 with
  | true=>cases decide (a.kind=4)<;>cases decide (a.kind=1)<;>cases decide (a.with_ = -1)<;>rfl
  | false =>
   cases N9 a.who 0 ((p.people.length:Int)-1)with
   | true=>cases decide (a.kind=4)<;>cases decide (a.kind=1)<;>cases decide (a.with_ = -1)<;>rfl
   | false =>
    rcases B9u e2 with k | k | k | k | k | k | k | k | k<;>rw[k]
    ·cases decide (a.with_ = -1)<;>cases decide (a.what = -1)<;>cases N9 a.what 0 ((p.zones.length:Int)-1)<;>cases N9 a.with_ 0 ((p.people.length:Int)-1)<;>cases decide (a.with_=a.who)<;>rfl
    all_goals cases decide (a.with_ = -1)<;>cases N9 a.what 0 1<;>cases N9 a.what 0 ((p.keys.length:Int)-1)<;>cases N9 a.what 0 ((p.squibs.length:Int)-1)<;>cases N9 a.with_ 0 ((p.people.length:Int)-1)<;>cases decide (a.with_=a.who)<;>rfl
theorem D2N {F:Nat} {p:D5} (h:A5x F p) (a:D2):D1h F p a=some (B25 p a):=by
 simp only[D1h,C96,C97,C8l,D2M,C9h,C9i,D0v h,C7V,A8u h.lz,A8u h.lp,A8u h.lk,A8u h.lq,oS,A4e,A0q];unfold B25 B49 B8s;cases e1:N9 a.at_ 0 100000 with
 | true=>rfl
 | false =>
  cases e2:N9 a.kind 1 9 with
  | true=>rfl
  | false =>
   cases N9 a.who 0 ((p.people.length:Int)-1)with
   | true=>rfl
   | false =>
    rcases B9u e2 with k | k | k | k | k | k | k | k | k<;>rw[k]
    ·cases decide (a.with_ = -1)<;>cases decide (a.what = -1)<;>cases N9 a.what 0 ((p.zones.length:Int)-1)<;>cases N9 a.with_ 0 ((p.people.length:Int)-1)<;>cases decide (a.with_=a.who)<;>rfl
    all_goals cases decide (a.with_ = -1)<;>cases N9 a.what 0 1<;>cases N9 a.what 0 ((p.keys.length:Int)-1)<;>cases N9 a.what 0 ((p.squibs.length:Int)-1)<;>cases N9 a.with_ 0 ((p.people.length:Int)-1)<;>cases decide (a.with_=a.who)<;>rfl
structure B7e (p:D5) (a:D2):Prop where
 t:0≤a.at_∧a.at_≤100000
 k:a.kind=1∨a.kind=2∨a.kind=3∨a.kind=4∨a.kind=5∨a.kind=6∨a.kind=7∨a.kind=8∨a.kind=9
 who:0≤a.who∧a.who<p.people.length
 zone:a.kind=1 → -1≤a.what∧a.what<p.zones.length
 key:a.kind=2∨a.kind=3∨a.kind=4→0≤a.what∧a.what<p.keys.length
 squib:a.kind=5∨a.kind=6∨a.kind=7→0≤a.what∧a.what<p.squibs.length
 sig:a.kind=8∨a.kind=9→a.what=0∨a.what=1
 give:a.kind=4→(0≤a.with_∧a.with_<p.people.length)∧a.with_≠a.who
 move:a.kind=1→(a.with_ = -1∨(0≤a.with_∧a.with_<p.people.length))∧a.with_≠a.who
theorem B6o {b:Bool} {x:Int} (hx:x≠0):(bif b then x else 0)=0↔b=false:=by cases b<;>simp[hx]
theorem B84 {p:D5} {a:D2} (h:B25 p a=0):B7e p a:=by
 unfold B25 at h;cases e1:N9 a.at_ 0 100000 with
 | true=>rw[e1]at h;exact absurd h sM
 | false =>
  rw[e1,cF]at h;cases e2:N9 a.kind 1 9 with
  | true=>rw[e2]at h;exact absurd h sM
  | false =>
   rw[e2,cF]at h;cases e3:N9 a.who 0 ((p.people.length:Int)-1)with
   | true=>rw[e3]at h;exact absurd h sM
   | false =>
    rw[e3,cF]at h;by_cases hw:B49 p a=0
    ·rw[dT hw,cT]at h;have o1:=O6.1 e1;have o3:=O6.1 e3;have hk:=B9u e2;unfold B49 at hw;unfold B8s at h;refine⟨o1,hk,by omega,fun k=>?_,fun k=>?_,fun k=>?_,fun k=>?_,fun k=>?_,fun k=>?_⟩
     ·simp only[k,decide_true,cT]at hw;by_cases h0:a.what = -1
      ·omega
      ·rw[dF h0,cF,B6o dM,O6]at hw;omega
     ·rcases k with k | k | k<;>simp[k]at hw
      all_goals (rw[B6o dM,O6]at hw;omega)
     ·rcases k with k | k | k<;>simp[k]at hw
      all_goals (rw[B6o dM,O6]at hw;omega)
     ·rcases k with k | k<;>simp[k]at hw
      all_goals (rw[B6o dM,O6]at hw;omega)
     ·simp[k]at h;cases e:N9 a.with_ 0 ((p.people.length:Int)-1)with
      | true=>rw[e]at h;exact absurd h sM
      | false =>
       rw[e,cF,B6o dM,decide_eq_false_iff_not]at h;have:=O6.1 e;exact⟨by omega,h⟩
     ·by_cases h0:a.with_ = -1
      ·exact⟨.inl h0,by omega⟩
      ·simp[k,h0]at h;cases e:N9 a.with_ 0 ((p.people.length:Int)-1)with
       | true=>rw[e]at h;exact absurd h sM
       | false =>
        rw[e,cF,B6o dM,decide_eq_false_iff_not]at h;have:=O6.1 e;exact⟨.inr oM,h⟩
    ·rw[dF hw,cF]at h;exact absurd h hw
theorem Y8 {ρ:Type} (F:Nat) (b:Bool) (e:Int) (f:Int→Option ρ) (G:Unit→Option ρ):((J4 F b e).bind fun rv=>exE rv f G)=bif b then G ()else f e:=by cases b<;>rfl
theorem exR {ρ:Type} (b:Bool) (e:Int) (v:E6) (f:Int→Option ρ) (G:E6→Option ρ):exE (bif b then(.ok v:Except Int E6)else .error e) f G=bif b then G v else f e:=by cases b<;>rfl
def scR (p:D5):Except Int C3→Except Int E6
 | .ok s => .ok (scn p s)
 | .error e => .error e
theorem X5 (p:D5) (b:Bool) (x y:Except Int C3):some (scR p (bif b then x else y))=bif b then some (scR p x)else some (scR p y):=by cases b<;>rfl
theorem A31 {α:Type} (l:List α) (k:Nat) (a:α):A5g l k a=some (l.set k a):=rfl
theorem A8s {F:Nat} {s:List Int} {v:Int} (hl:s.length<9223372036854775808):∀ (n k:Nat),s.length<n+k→k≤s.length→∃ r,T0 F s v (fun _=>some (-1)) n k=some r∧decide (0≤r)=(s.drop k).any (fun e=>decide (v=e))
 | 0,k,h,h2=>absurd h oM
 | n+1,k,h,h2=>by
  rw[T0];by_cases hk:k<s.length
  ·rw[if_pos oM,H3 hk,oS,lD hk,bd,S0 oM];by_cases hp:v=s[k]
   ·rw[if_pos hp];exact⟨k,rfl,by simp[hp]⟩
   ·rw[if_neg hp,dF hp,bu];exact A8s hl n (k+1) oM oM
  ·rw[if_neg oM,lL oM];exact⟨-1,rfl,by simp⟩
theorem B0m {F:Nat} {s:List Int} {v:Int} (hl:s.length<9223372036854775808) (hF:s.length<F):S9 F s v=some (s.any (fun e=>decide (v=e))):=by
 obtain⟨r,h1,h2⟩:=A8s (F:=F) (v:=v) hl F 0 oM oM;rw[z0]at h1;rw[S9,A2x,h1,oS,h2,aB]
theorem A73 {F:Nat} {s:List G6} {v:G6} (hl:s.length<9223372036854775808):∀ (n k:Nat),s.length<n+k→k≤s.length→∃ r,W0 F s v (fun _=>some (-1)) n k=some r∧decide (0≤r)=(s.drop k).any (fun e=>G6.beq v e)
 | 0,k,h,h2=>absurd h oM
 | n+1,k,h,h2=>by
  rw[W0];by_cases hk:k<s.length
  ·rw[if_pos oM,H3 hk,oS,lD hk,bd,S0 oM];cases hp:G6.beq v s[k]with
   | true=>exact⟨k,rfl,by simp⟩
   | false=>simpa using A73 hl n (k+1) oM oM
  ·rw[if_neg oM,lL oM];exact⟨-1,rfl,by simp⟩
theorem A6t {F:Nat} {s:List G6} {v:G6} (hl:s.length<9223372036854775808) (hF:s.length<F):Z1 F s v=some (s.any (fun e=>G6.beq v e)):=by
 obtain⟨r,h1,h2⟩:=A73 (F:=F) (v:=v) hl F 0 oM oM;rw[z0]at h1;rw[Z1,A2k,h1,oS,h2,aB]
structure A5X (F:Nat) (p:D5) (s:C3) (a:D2):Prop where
 h:A5x F p
 hs:StF F s
 o:A6x p
 f:A2l p s
 a:B7e p a
theorem A5X.who {F:Nat} {p:D5} {s:C3} {a:D2} (h:A5X F p s a):∃ i:Nat,a.who=i∧i<p.people.length∧i<s.zones.length:=by
 have h1:=h.a.who;have h2:=h.f.lz;exact⟨a.who.toNat,by omega,by omega,by omega⟩
theorem A5X.key {F:Nat} {p:D5} {s:C3} {a:D2} (h:A5X F p s a) (k:a.kind=2∨a.kind=3∨a.kind=4):∃ i:Nat,a.what=i∧i<p.keys.length∧i<s.holder.length:=by
 have h1:=h.a.key k;have h2:=h.f.lh;exact⟨a.what.toNat,by omega,by omega,by omega⟩
theorem A5X.squib {F:Nat} {p:D5} {s:C3} {a:D2} (h:A5X F p s a) (k:a.kind=5∨a.kind=6∨a.kind=7):∃ i:Nat,a.what=i∧i<p.squibs.length∧i<s.squibs.length:=by
 have h1:=h.a.squib k;have h2:=h.f.lq;exact⟨a.what.toNat,by omega,by omega,by omega⟩
def atP (p:D5) (s:C3) (i:Int):Bool:=decide (s.zones.getD i.toNat 0=p.panel)
theorem B0x {s:C3} {i:Nat} (hi:i<s.zones.length):P3 s.zones (i:Int)=some (s.zones.getD (i:Int).toNat 0):=by rw[H3 hi,tN,J6 _ hi]
theorem A9C {s:C3} {i:Nat} (hi:i<s.holder.length):P3 s.holder (i:Int)=some (s.holder.getD (i:Int).toNat (-1)):=by rw[H3 hi,tN,J6 _ hi]
theorem B0Q {s:C3} {i:Nat} (hi:i<s.squibs.length):P3 s.squibs (i:Int)=some (s.squibs.getD (i:Int).toNat 0):=by rw[H3 hi,tN,J6 _ hi]
theorem B1Y {p:D5} {i:Nat} (hi:i<p.people.length):P3 p.people (i:Int)=some (p.people.getD (i:Int).toNat default):=by rw[H3 hi,tN,J6 _ hi]
theorem C03 {p:D5} {i:Nat} (hi:i<p.squibs.length):P3 p.squibs (i:Int)=some (p.squibs.getD (i:Int).toNat default):=by rw[H3 hi,tN,J6 _ hi]
theorem B77 {p:D5} {i:Nat} (hi:i<p.zones.length):P3 p.zones (i:Int)=some (p.zones.getD (i:Int).toNat default):=by rw[H3 hi,tN,J6 _ hi]
theorem A5C {F:Nat} {p:D5} {s:C3} {i:Nat} (hi:i<s.zones.length):S8 F (scn p s) i=some (bif atP p s i then .ok (scn p s)else .error 171):=by
 rw[S8,show(scn p s).A9=s.zones from rfl,B0x hi,oS,Y8];unfold atP;cases decide (s.zones.getD (i:Int).toNat 0=p.panel)<;>rfl
def B27 (p:D5) (s:C3) (f:D1→Bool):Bool:=!(az 0 s.squibs.length).all (fun k=>!(decide (s.squibs.getD k 0=1)&&f (p.squibs.getD k default)))
theorem B31 {F:Nat} {p:D5} {s:C3} {a:D2} (h:A5X F p s a) {so:D1→Option Bool} {f:D1→Bool} (hf:∀ q∈p.squibs,so q=some (f q)):A2J F (scn p s) so=some (B27 p s f):=by
 have h1:=h.h.f;have h2:=h.o.q6;have h3:=h.f.lq;have:=A4H (g:=fun n x=>U2 F (scn p s) so (fun _=>some false) n x) (f:=fun k=>!(decide (s.squibs.getD k 0=1)&&f (p.squibs.getD k default))) (len:=s.squibs.length) (c:=some false) (fl:=some true) (fun n k hk=>by
  have hk':k<p.squibs.length:=by omega
  rw[U2,if_pos (by dsimp only;omega),show(scn p s).A4=s.squibs from rfl,H3 hk,oS,show(scn p s).O4=p.squibs from rfl,H3 hk',oS,hf _ (aj hk'),oS,A1y,S0 oM,J6 _ hk,J6 _ hk'];simp only[A4e,A0q];cases decide (s.squibs[k]=1)<;>cases f p.squibs[k]<;>rfl) (fun n=>by rw[U2,if_neg (by dsimp only;omega)]) F 0 oM oM
 rw[z0]at this;refine this.trans ?_;unfold B27;rw[aP];cases(az 0 s.squibs.length).all (fun k=>!(decide (s.squibs.getD k 0=1)&&f (p.squibs.getD k default)))<;>rfl
def dm (b:Bool) (e:Int) (x:Except Int C3):Except Int C3:=bif b then x else .error e
def A6g (s:C3) (k v:Int):C3:={s with holder:=s.holder.set k.toNat v}
def B40 (s:C3) (k v:Int):C3:={s with squibs:=s.squibs.set k.toNat v}
def B8p (p:D5) (s:C3) (a:D2):Except Int C3:=dm (atP p s a.who) 171 (dm (!B3H s a.what) 174 (dm (!B27 p s (fun q=>q.keys.any (fun e=>decide (a.what=e)))) 177 (.ok (A6g s a.what a.who))))
def B9T (p:D5) (s:C3) (a:D2):Except Int C3:=dm (atP p s a.who) 171 (dm (decide (s.holder.getD a.what.toNat (-1)=a.who)) 174 (.ok (A6g s a.what (-1))))
def B74 (p:D5) (s:C3) (a:D2):Except Int C3:=dm (decide (s.holder.getD a.what.toNat (-1)=a.who)) 174 (dm (decide (s.zones.getD a.with_.toNat 0=s.zones.getD a.who.toNat 0)) 171 (dm (A6n p (A6g s a.what a.with_) a.who (s.zones.getD a.who.toNat 0)) 178 (.ok (A6g s a.what a.with_))))
def A9B (p:D5) (a:D2):Bool:=decide ((p.squibs.getD a.what.toNat default).grade≤(p.people.getD a.who.toNat default).grade)
def B6i (p:D5) (s:C3) (a:D2):Bool:=decide (0≤s.siren)&&decide (p.wait≤a.at_-s.siren)
def B97 (p:D5) (s:C3) (a:D2):Except Int C3:=dm (atP p s a.who) 171 (dm (A9B p a) 172 (dm (decide (s.squibs.getD a.what.toNat 0=0)) 177 (dm (!s.storm) 173 (dm (decide (B1b s (p.squibs.getD a.what.toNat default)=[])) 174 (dm (B6i p s a) 179 (.ok (B40 s a.what 1)))))))
def B2B (p:D5) (s:C3) (a:D2):Except Int C3:=dm (atP p s a.who) 171 (dm (decide (s.squibs.getD a.what.toNat 0=1)) 177 (.ok (B40 s a.what 0)))
def B73 (p:D5) (s:C3) (a:D2):Except Int C3:=dm (atP p s a.who) 171 (dm (A9B p a) 172 (dm (decide (s.squibs.getD a.what.toNat 0=1)) 177 (.ok (B40 s a.what 2))))
def B5y (p:D5) (s:C3) (a:D2):Except Int C3:=dm (atP p s a.who) 171 (dm (decide (0≤s.siren) != decide (a.what=1)) 177 (dm (decide (a.what=1) || !B27 p s (fun _=>true)) 179 (.ok {s with siren:=bif decide (a.what=1)then a.at_ else -1})))
def A4x (l:List Int):List Int:=l.map fun x=>bif decide (x=1)then 0 else x
def B16 (s:C3) (a:D2):Except Int C3:=dm (s.storm != decide (a.what=1)) 177 (.ok {s with storm:=decide (a.what=1),squibs:=bif decide (a.what=1)then A4x s.squibs else s.squibs})
theorem B9o {F:Nat} {p:D5} {s:C3} {a:D2} (h:A5X F p s a) (k:a.kind=2):A2w F (scn p s) a=some (scR p (B8p p s a)):=by
 obtain⟨i,ei,hi,hi'⟩:=h.who;obtain⟨j,ej,hj,hj'⟩:=h.key (.inl k);rw[A2w,ei,A5C hi',oS,exR,show(scn p s).A8=s.holder from rfl,ej,A9C hj',oS,Y8,B31 h (f:=fun q=>q.keys.any (fun e=>decide (a.what=e))) (fun q hq=>by rw[A2v,B0m (h.h.qk q hq).2 (h.h.qk q hq).1];rfl),oS,Y8,A31,oS,ej];unfold B8p dm;rw[ei,ej,X5,X5,X5,show(decide (s.holder.getD (j:Int).toNat (-1)<0))=!B3H s (j:Int) by unfold B3H;rw[← decide_not,decide_eq_decide];omega];rfl
theorem B9U {F:Nat} {p:D5} {s:C3} {a:D2} (h:A5X F p s a) (k:a.kind=3):A2K F (scn p s) a=some (scR p (B9T p s a)):=by
 obtain⟨i,ei,hi,hi'⟩:=h.who;obtain⟨j,ej,hj,hj'⟩:=h.key (.inr (.inl k));rw[A2K,ei,A5C hi',oS,exR,show(scn p s).A8=s.holder from rfl,ej,A9C hj',oS,Y8,A31,oS];unfold B9T dm;rw[ei,ej,X5,X5];rfl
theorem A6f {p:D5} {s:C3} (hf:A2l p s) (k:Int) {v:Int} (hv : -1≤v∧v<p.people.length):A2l p (A6g s k v) :=
 ⟨hf.now,hf.siren,hf.lz,by simpa[A6g]using hf.lh,hf.lq,hf.z,fun x hx=>by
  rcases List.mem_or_eq_of_mem_set hx with h | h
  ·exact hf.h x h
  ·subst h;exact hv,hf.q⟩
theorem B8G {F:Nat} {p:D5} {s:C3} {a:D2} (h:A5X F p s a) (k:a.kind=4):A2t F (scn p s) a=some (scR p (B74 p s a)):=by
 obtain⟨i,ei,hi,hi'⟩:=h.who;obtain⟨j,ej,hj,hj'⟩:=h.key (.inr (.inr k));have hw:=h.a.give k;have hl:=h.f.lz;obtain⟨m,em⟩:∃ m:Nat,a.with_=m:=⟨a.with_.toNat,by omega⟩;have hm:m<s.zones.length:=by omega
 have hz:s.zones.getD (i:Int).toNat 0<p.zones.length:=by rw[tN,J6 _ hi'];exact(h.f.z _ (aj hi')).2
 have hk:=A7i h.h h.o (A6f h.f (j:Int) (v:=(m:Int)) oM) i hz;rw[A2t,show(scn p s).A8=s.holder from rfl,ej,A9C hj',oS,Y8,show(scn p s).A9=s.zones from rfl,em,B0x hm,oS,ei,B0x hi',oS,Y8,A31,oS];show(bif decide (s.holder.getD (j:Int).toNat (-1)=i)then(bif decide (s.zones.getD (m:Int).toNat 0=s.zones.getD (i:Int).toNat 0)then((A0g F (scn p (A6g s j m)) i (s.zones.getD (i:Int).toNat 0)).bind fun rv3=>(J4 F rv3 178).bind fun rv4=>exE rv4 (fun x3=>some (.error x3)) (fun _=>some (.ok (scn p (A6g s j m)))))else some (.error 171))else some (.error 174):Option (Except Int E6))=_;rw[hk];rw[oS,Y8];unfold B74 dm;rw[ei,ej,em,X5,X5,X5];rfl
theorem B32 {F:Nat} {p:D5} {s:C3} {a:D2} (h:A5X F p s a) (k:a.kind=5∨a.kind=6∨a.kind=7):A0M F (scn p s) a=some (bif atP p s a.who then(bif A9B p a then .ok (scn p s)else .error 172)else .error 171):=by
 obtain⟨i,ei,hi,hi'⟩:=h.who;obtain⟨j,ej,hj,hj'⟩:=h.squib k;rw[A0M,ei,A5C hi',oS,exR,show(scn p s).O3=p.people from rfl,B1Y hi,oS,show(scn p s).O4=p.squibs from rfl,ej,C03 hj,oS,Y8];unfold A9B;rw[ei,ej];cases atP p s i<;>cases decide ((p.squibs.getD (j:Int).toNat default).grade≤(p.people.getD (i:Int).toNat default).grade)<;>rfl
theorem C01 {ρ:Type} (b c:Bool) (e e2:Int) (v:E6) (f:Int→Option ρ) (G:E6→Option ρ):exE (bif b then(bif c then(.ok v:Except Int E6)else .error e2)else .error e) f G=bif b then(bif c then G v else f e2)else f e:=by cases b<;>cases c<;>rfl
theorem B6w {F:Nat} {p:D5} {s:C3} {a:D2} (h:A5X F p s a) (k:a.kind=6):A1z F (scn p s) a=some (scR p (B2B p s a)):=by
 obtain⟨i,ei,hi,hi'⟩:=h.who;obtain⟨j,ej,hj,hj'⟩:=h.squib (.inr (.inl k));rw[A1z,ei,A5C hi',oS,exR,show(scn p s).A4=s.squibs from rfl,ej,B0Q hj',oS,Y8,A31,oS];unfold B2B dm;rw[ei,ej,X5,X5];rfl
theorem B8D {F:Nat} {p:D5} {s:C3} {a:D2} (h:A5X F p s a) (k:a.kind=7):A2r F (scn p s) a=some (scR p (B73 p s a)):=by
 obtain⟨j,ej,hj,hj'⟩:=h.squib (.inr (.inr k));rw[A2r,B32 h (.inr (.inr k)),oS,C01,show(scn p s).A4=s.squibs from rfl];unfold B73 dm;rw[X5,X5,X5,ej,B0Q hj',oS,Y8,A31,oS];rfl
theorem B7C {α:Type} (l:List α):decide ((l.length:Int)=0)=decide (l=[]):=by
 cases l<;>simp;omega
theorem B98 {F:Nat} {p:D5} {s:C3} {a:D2} (h:A5X F p s a) (k:a.kind=5):A2I F (scn p s) a=some (scR p (B97 p s a)):=by
 obtain⟨j,ej,hj,hj'⟩:=h.squib (.inl k);have ht:=h.a.t;have hsi:=h.f.siren;have hn:=h.f.now;rw[A2I,B32 h (.inl k),oS,C01,show(scn p s).A4=s.squibs from rfl];unfold B97 dm;rw[X5,X5,X5,X5,X5,X5,ej,B0Q hj',oS,Y8,Y8,B0d h.h h.o h.f hj,oS,Y8,Y8,Y8,A31,oS,A4e,B7C,show(scn p s).I3=s.siren from rfl,A8K (x:=a.at_-s.siren)];unfold B6i;rw[tN,J6 _ hj];show(bif atP p s a.who then bif A9B p a then bif decide (s.squibs.getD j 0=0)then bif !s.storm then bif decide (B1b s p.squibs[j]=[])then bif decide (0≤s.siren)then bif decide (p.wait≤a.at_-s.siren)then _ else _ else _ else _ else _ else _ else _ else _)=_;cases atP p s a.who<;>cases A9B p a<;>cases decide (s.squibs.getD j 0=0)<;>cases s.storm<;>cases decide (B1b s p.squibs[j]=[])<;>cases decide (0≤s.siren)<;>cases decide (p.wait≤a.at_-s.siren)<;>rfl
theorem B8j {F:Nat} {p:D5} {s:C3} {a:D2} (h:A5X F p s a) (k:a.kind=8):A1X F (scn p s) a=some (scR p (B5y p s a)):=by
 obtain⟨i,ei,hi,hi'⟩:=h.who;rw[A1X,ei,A5C hi',oS,exR,oS,exR,B31 h (f:=fun _=>true) (fun q hq=>by rw[A1W]),oS,Y8,Y8,Y8,Y8];unfold B5y dm;rw[ei,X5,X5,X5];by_cases hw:a.what=1
 ·rw[if_pos hw,dT hw];rfl
 ·rw[if_neg hw,dF hw];rfl
theorem B6O (l:List Int) (k:Nat) (h:k<l.length):((A4x l).take k++l.drop k).set k (bif decide (l[k]=1)then 0 else l[k])=(A4x l).take (k+1)++l.drop (k+1):=by
 have hk:((A4x l).take k).length=k:=by simp[A4x];omega
 rw[List.set_append_right _ _ oM,hk,cJ,lD h,List.set_cons_zero,cr (by simpa[A4x]using h)];simp[A4x]
theorem B5W (l:List Int) (k:Nat) (h:k<l.length):((A4x l).take k++l.drop k)[k]?=some l[k]:=by
 have hk:((A4x l).take k).length=k:=by simp[A4x];omega
 rw[List.getElem?_append_right oM,hk,cJ,lD h];rfl
theorem B50 {F:Nat} {p:D5} {s:C3} {a:D2} (h:A5X F p s a):A0Z F (scn p s) a=some (scR p (B16 s a)):=by
 have h1:=h.h.f;have h2:=h.o.q6;have h3:=h.f.lq;have e1:∀ (c:List Int→Option (Except Int E6)),O7 F (fun c3 _ _=>c c3) F s.squibs (s.squibs.length:Int) 0=c (A4x s.squibs):=fun c=>by
  have:=A5I (σ:=List Int) (g:=fun n l x=>O7 F (fun c3 _ _=>c c3) n l (s.squibs.length:Int) x) (len:=s.squibs.length) (f:=fun _ k=>(A4x s.squibs).take (k+1)++s.squibs.drop (k+1)) (c:=c) (fun l k=>l=(A4x s.squibs).take k++s.squibs.drop k) (fun l k _ _=>rfl) (fun n l k hk hl=>by
   have hix:P3 l (k:Int)=some s.squibs[k]:=by
    unfold P3;rw[if_pos oM,tN,hl,B5W _ _ hk]
   rw[O7,if_pos oM,hix,oS,A31,oS,S0 oM,← B6O _ _ hk,← hl];by_cases h0:s.squibs[k]=1
   ·rw[if_pos h0,dT h0];rfl
   ·rw[if_neg h0,dF h0,cF];congr 1;apply List.ext_getElem?;intro m;rw[List.getElem?_set];by_cases hm:k=m
    ·subst hm;rw[if_pos rfl,hl,B5W _ _ hk,if_pos (by simp[A4x];omega)]
    ·rw[if_neg hm]) (fun n l _=>by rw[O7,if_neg oM]) F s.squibs 0 sM oM oM
  rw[z0]at this;refine this.trans ?_;rw[aP];cases hn:s.squibs.length with
  | zero =>
   have:s.squibs=[]:=List.eq_nil_of_length_eq_zero hn;rw[this];rfl
  | succ m =>
   rw[List.range'_1_concat,List.foldl_append];simp only[bY,List.foldl_nil,aZ];rw[di (by simp[A4x];omega),lL oM,List.append_nil]
 have e2:∀ (c:List Int→Option (Except Int E6)),P9 F (fun c3 _ _=>c c3) F s.squibs (s.squibs.length:Int) 0=c s.squibs:=fun c=>by
  have:=A5I (σ:=List Int) (g:=fun n l x=>P9 F (fun c3 _ _=>c c3) n l (s.squibs.length:Int) x) (len:=s.squibs.length) (f:=fun l _=>l) (c:=c) (fun l _=>l=s.squibs) (fun l k _ hl=>hl) (fun n l k hk hl=>by
   rw[P9,if_pos oM,hl,H3 hk,oS,S0 oM]) (fun n l _=>by rw[P9,if_neg oM]) F s.squibs 0 rfl oM oM
  rw[z0]at this;refine this.trans ?_;congr 1;generalize az 0 (s.squibs.length-0)=r;induction r with
  | nil=>rfl
  | cons x r ih=>exact ih
 rw[A0Z,Y8,Y8];unfold B16 dm;rw[X5];by_cases hw:a.what=1
 ·rw[if_pos hw,dT hw];show(bif s.storm != true then O7 F _ F s.squibs (s.squibs.length:Int) 0 else _)=_;rw[e1];rfl
 ·rw[if_neg hw,dF hw];show(bif s.storm != false then P9 F _ F s.squibs (s.squibs.length:Int) 0 else _)=_;rw[e2];rfl
def B03 (p:D5) (s:C3) (z:F6):Bool:=!(az 0 p.squibs.length).all (fun k=>decide (s.squibs.getD k 0=2) || !A5r z (p.squibs.getD k default))
def A1q (p:D5) (s:C3) (i z:Int):Int:=bif decide (z<0)then 0 else bif decide ((p.people.getD i.toNat default).grade<(p.zones.getD z.toNat default).grade)then 172 else bif s.storm&&B03 p s (p.zones.getD z.toNat default)then 173 else bif A6n p s i z then 0 else 174
def B9t (p:D5) (a b:Int):Bool:=p.doors.any (fun d=>G6.beq ⟨a,b⟩ d)||p.doors.any (fun d=>G6.beq ⟨b,a⟩ d)
def A0y (s:C3) (a:D2):List Int:=bif decide (0≤a.with_)then(s.zones.set a.who.toNat a.what).set a.with_.toNat a.what else s.zones.set a.who.toNat a.what
def Z2 (s:C3) (l:List Int):C3:={s with zones:=l}
def B5E (p:D5) (s:C3) (z:Int):Bool:=decide (0≤z)&&decide ((p.zones.getD z.toNat default).room<(A6W s z:Int))
def c2E (p:D5) (s:C3) (a:D2):Int:=bif decide (0≤a.with_)then A1q p s a.with_ a.what else 0
def B7I (p:D5) (s:C3) (a:D2):Except Int C3 :=
 dm (B9t p (s.zones.getD a.who.toNat 0) a.what&&(!decide (0≤a.with_)||decide (s.zones.getD a.with_.toNat 0=s.zones.getD a.who.toNat 0))) 171
  (dm (decide (A1q p s a.who a.what=0)) (A1q p s a.who a.what)
   (dm (decide (c2E p s a=0)) (c2E p s a)
    (dm (!B5E p (Z2 s (A0y s a)) a.what) 175
     (dm (!A3X p (Z2 s (A0y s a)) a.what && !A3X p (Z2 s (A0y s a)) (s.zones.getD a.who.toNat 0)) 176 (.ok (Z2 s (A0y s a)))))))
theorem A8A {F:Nat} {p:D5} {s:C3} {a:D2} (h:A5X F p s a) (k:a.kind=1) {y:List Int} {x i:Nat} (hx:y[x]?=some (i:Int)) (hi:i<p.people.length) (hy:y.length<1000) (K:Int→Option (Except Int E6)) (n:Nat) :
 J0 F (scn p s) a y K (n+1) x=bif decide (A1q p s i a.what=0)then J0 F (scn p s) a y K n ((x+1:Nat):Int)else some (.error (A1q p s i a.what)):=by
 have hF:=h.h.f;have hz:=h.a.zone k;have hq6:=h.o.q6;obtain⟨hxl,hxe⟩:=List.getElem?_eq_some_iff.1 hx;have hke:=A7i h.h h.o h.f (i:Int) (z:=a.what) hz.2;have hJ1:∀ c:Int→Option (Except Int E6),A0z F c (scn p s) a x i=bif A6n p s i a.what then c ((x+1:Nat):Int)else some (.error 174):=fun c=>by
  rw[A0z,hke,oS,Y8,S0 oM]
 rw[J0,if_pos oM,H3 hxl,oS,hxe];unfold A1q;by_cases h0:a.what<0
 ·rw[if_pos h0,Y8,cT,dT h0,cT,A00,A30,oS];dsimp only;rw[if_pos h0,hJ1];unfold A6n;rw[dT h0];rfl
 ·obtain⟨j,ej⟩:∃ j:Nat,a.what=j:=⟨a.what.toNat,by omega⟩;have hj:j<p.zones.length:=by omega
  rw[if_neg h0,dF h0,cF,show(scn p s).O3=p.people from rfl,B1Y hi,oS,show(scn p s).O0=p.zones from rfl,ej,B77 hj,oS,Y8,A00,A30,oS,ej];dsimp only;rw[if_neg oM,B77 hj,oS];rw[ej]at hJ1;rw[hJ1];have hl:∀ c:Option (Except Int E6),R3 F (scn p s) ((j:Int),p) (p.zones.getD (j:Int).toNat default) (fun _=>c) F 0=bif s.storm&&B03 p s (p.zones.getD (j:Int).toNat default)then some (.error 173)else c:=fun c=>by
   have:=A4H (g:=fun n x6=>R3 F (scn p s) ((j:Int),p) (p.zones.getD (j:Int).toNat default) (fun _=>c) n x6) (f:=fun k=>!s.storm||(decide (s.squibs.getD k 0=2) || !A5r (p.zones.getD (j:Int).toNat default) (p.squibs.getD k default))) (len:=p.squibs.length) (c:=c) (fl:=some (.error 173)) (fun n k hk=>by
    have hk':k<s.squibs.length:=by have:=h.f.lq;omega
    rw[R3,if_pos (by dsimp only;omega),H3 hk,oS,show(scn p s).A4=s.squibs from rfl,H3 hk',oS,Y8,Y8,S0 oM,J6 _ hk,J6 _ hk'];simp only[A4e,A0q];show(bif A5r (p.zones.getD (j:Int).toNat default) p.squibs[k]then bif s.storm then _ else _ else _)=_;cases A5r (p.zones.getD (j:Int).toNat default) p.squibs[k]<;>cases s.storm<;>cases decide (s.squibs[k]=2)<;>rfl) (fun n=>by rw[R3,if_neg (by dsimp only;omega)]) F 0 oM oM
   rw[z0]at this;refine this.trans ?_;unfold B03;rw[aP];cases s.storm
   ·have e:((az 0 p.squibs.length).all fun k=>!false||(decide (s.squibs.getD k 0=2) || !A5r (p.zones.getD (j:Int).toNat default) (p.squibs.getD k default)))=true:=ax.2 fun _ _=>rfl;rw[e];rfl
   ·simp only[Bool.not_true,bu,bf];cases(az 0 p.squibs.length).all (fun k=>decide (s.squibs.getD k 0=2) || !A5r (p.zones.getD (j:Int).toNat default) (p.squibs.getD k default))<;>rfl
  rw[hl,show decide ((p.zones.getD (j:Int).toNat default).grade≤(p.people.getD (i:Int).toNat default).grade)=!decide ((p.people.getD (i:Int).toNat default).grade<(p.zones.getD (j:Int).toNat default).grade) by rw[← decide_not,decide_eq_decide];omega];cases decide ((p.people.getD (i:Int).toNat default).grade<(p.zones.getD (j:Int).toNat default).grade)<;>cases s.storm&&B03 p s (p.zones.getD (j:Int).toNat default)<;>cases A6n p s i j<;>rfl
theorem B0k {F:Nat} {s:C3} (h:StF F s) {l:List Int} (hl:l.length=s.zones.length):StF F (Z2 s l):=⟨by rw[show(Z2 s l).zones=l from rfl,hl];exact h.z,h.h,h.q⟩
theorem B3u (s:C3) (a:D2):(A0y s a).length=s.zones.length:=by
 unfold A0y;cases decide (0≤a.with_)<;>simp
theorem B8I {F:Nat} {p:D5} {s:C3} {a:D2} (h:A5X F p s a) (k:a.kind=1) {i:Nat} (hi:i<s.zones.length) {A:List Int} (hA:A.length=s.zones.length):W7 F (scn p s) a (s.zones.getD i 0) A=some (scR p (dm (!A3X p (Z2 s A) a.what && !A3X p (Z2 s A) (s.zones.getD i 0)) 176 (.ok (Z2 s A)))):=by
 have hz:=h.a.zone k;have hz2:s.zones.getD i 0<p.zones.length:=by rw[J6 _ hi];exact(h.f.z _ (aj hi)).2
 have hs:=B0k h.hs hA;have e1:=A7g (F:=F) (p:=p) hs hz.2;have e2:=A7g (F:=F) (p:=p) hs hz2;rw[W7];show(((A0f F (scn p (Z2 s A)) a.what).bind fun rv15=>if rv15=true then((J4 F false 176).bind fun rv16=>exE rv16 (fun x13=>some (.error x13)) (fun _=>none))else((A0f F (scn p (Z2 s A)) (s.zones.getD i 0)).bind fun rv17=>(J4 F (!rv17) 176).bind fun rv18=>exE rv18 (fun x14=>some (.error x14)) (fun _=>some (.ok (scn p (Z2 s A)))))):Option (Except Int E6))=_;rw[e1,oS,e2,oS,Y8,Y8];unfold dm;rw[X5];cases A3X p (Z2 s A) a.what<;>cases A3X p (Z2 s A) (s.zones.getD i 0)<;>rfl
theorem B3Q {F:Nat} {p:D5} {s:C3} {a:D2} (h:A5X F p s a) (k:a.kind=1) {i:Nat} (hi:i<s.zones.length) {A:List Int} (hA:A.length=s.zones.length) :
 (if a.what<0 then((J4 F true 175).bind fun rv12=>exE rv12 (fun x11=>some (.error x11)) (fun _=>W7 F (scn p s) a (s.zones.getD i 0) A))else((A03 F {scn p s with A9:=A} a.what).bind fun rv13=>(P3 (scn p s).O0 a.what).bind fun e11=>(J4 F (decide (rv13≤e11.room)) 175).bind fun rv14=>exE rv14 (fun x12=>some (.error x12)) (fun _=>W7 F (scn p s) a (s.zones.getD i 0) A)):Option (Except Int E6))
 = some (scR p (dm (!B5E p (Z2 s A) a.what) 175 (dm (!A3X p (Z2 s A) a.what && !A3X p (Z2 s A) (s.zones.getD i 0)) 176 (.ok (Z2 s A))))):=by
 have hz:=h.a.zone k;rw[B8I h k hi hA];have hs:=B0k h.hs hA;unfold B5E;by_cases h0:a.what<0
 ·rw[if_pos h0,Y8,dF oM];rfl
 ·obtain⟨j,ej⟩:∃ j:Nat,a.what=j:=⟨a.what.toNat,by omega⟩;have hj:j<p.zones.length:=by omega
  rw[if_neg h0,dT oM,bf];show((A03 F (scn p (Z2 s A)) a.what).bind _)=_;rw[A7h hs,oS,show(scn p s).O0=p.zones from rfl,ej,B77 hj,oS,Y8,show decide ((A6W (Z2 s A) (j:Int):Int)≤(p.zones.getD (j:Int).toNat default).room)=!decide ((p.zones.getD (j:Int).toNat default).room<(A6W (Z2 s A) (j:Int):Int)) by rw[← decide_not,decide_eq_decide];omega];unfold dm;simp only[X5];rfl
theorem B8J {F:Nat} {p:D5} {s:C3} {a:D2} (h:A5X F p s a) (k:a.kind=1):A2u F (scn p s) a=some (scR p (B7I p s a)):=by
 obtain⟨i,ei,hi,hi'⟩:=h.who;have hF:=h.h.f;have hw:=h.a.move k;have hl:=h.f.lz;have hd:=h.h.ld;have hd2:=h.o.d24;obtain⟨F2,eF⟩:∃ m,F=m+1+1+1:=⟨F-3,by omega⟩;have hJ4:Z8 F (scn p s) a (s.zones.getD i 0)=some (scR p (dm (decide (A1q p s a.who a.what=0)) (A1q p s a.who a.what)
   (dm (decide (c2E p s a=0)) (c2E p s a)
    (dm (!B5E p (Z2 s (A0y s a)) a.what) 175
     (dm (!A3X p (Z2 s (A0y s a)) a.what && !A3X p (Z2 s (A0y s a)) (s.zones.getD i 0)) 176 (.ok (Z2 s (A0y s a)))))))):=by
  rw[Z8];by_cases h0:0≤a.with_
  ·obtain⟨m,em⟩:∃ m:Nat,a.with_=m:=⟨a.with_.toNat,by omega⟩;have hm:m<p.people.length:=by omega
   have hA:A0y s a=(s.zones.set i a.what).set m a.what:=by unfold A0y;rw[dT h0,ei,em];rfl
   have hend:=B3Q h k hi' (A:=(s.zones.set i a.what).set m a.what) sM;rw[if_pos h0,A8O sM,oS,A01,ei,em,show([(i:Int)]++[(m:Int)])=[(i:Int),(m:Int)]from rfl];have r1:=fun K n=>A8A h k (y:=[(i:Int),(m:Int)]) (x:=0) (i:=i) rfl hi sM K n;have r2:=fun K n=>A8A h k (y:=[(i:Int),(m:Int)]) (x:=1) (i:=m) rfl hm sM K n;rw[z0]at r1;show J0 F (scn p s) a [(i:Int),(m:Int)] _ F 0=_;rw[show ∀ K:Int→Option (Except Int E6),J0 F (scn p s) a [(i:Int),(m:Int)] K F 0=bif decide (A1q p s i a.what=0)then(bif decide (A1q p s m a.what=0)then K 2 else some (.error (A1q p s m a.what)))else some (.error (A1q p s i a.what))from fun K=>by
    conv=>lhs;rw[show J0 F (scn p s) a [(i:Int),(m:Int)] K F 0=J0 F (scn p s) a [(i:Int),(m:Int)] K (F2+1+1+1) 0 by rw[← eF]]
    rw[r1,show((0+1:Nat):Int)=((1:Nat):Int)from rfl,r2,show((1+1:Nat):Int)=2 from rfl,J0,if_neg sM]]
   show(bif decide (A1q p s i a.what=0)then(bif decide (A1q p s m a.what=0)then J9 F a [(i:Int),(m:Int)] _ F s.zones 0 else _)else _)=_;rw[show ∀ K:List Int→Int→Option (Except Int E6),J9 F a [(i:Int),(m:Int)] K F s.zones 0=K ((s.zones.set i a.what).set m a.what) 2 from fun K=>by
    conv=>lhs;rw[show J9 F a [(i:Int),(m:Int)] K F s.zones 0=J9 F a [(i:Int),(m:Int)] K (F2+1+1+1) s.zones 0 by rw[← eF]]
    rw[J9,if_pos sM,show P3 [(i:Int),(m:Int)] 0=some (i:Int)from rfl,oS,H3 hi',oS,A31,oS,show W ((0:Int)+1)=1 from rfl,
     J9,if_pos sM,show P3 [(i:Int),(m:Int)] 1=some (m:Int)from rfl,oS,H3 (by simp;omega),oS,A31,oS,show W ((1:Int)+1)=2 from rfl,J9,if_neg sM]]
   refine eW (congrArg (fun z:Option (Except Int E6)=>bif decide (A1q p s i a.what=0)then(bif decide (A1q p s m a.what=0)then z else some (.error (A1q p s m a.what)))else some (.error (A1q p s i a.what))) hend) ?_;rw[hA];unfold c2E dm;rw[em,dT (show(0:Int)≤(m:Int) by omega),cT];simp only[X5];rfl
  ·have hA:A0y s a=s.zones.set i a.what:=by unfold A0y;rw[dF h0,ei];rfl
   have hend:=B3Q h k hi' (A:=s.zones.set i a.what) sM;rw[if_neg h0,A01,ei];have r1:=fun K n=>A8A h k (y:=[(i:Int)]) (x:=0) (i:=i) rfl hi sM K n;rw[z0]at r1;show J0 F (scn p s) a [(i:Int)] _ F 0=_;rw[show ∀ K:Int→Option (Except Int E6),J0 F (scn p s) a [(i:Int)] K F 0=bif decide (A1q p s i a.what=0)then K 1 else some (.error (A1q p s i a.what))from fun K=>by
    conv=>lhs;rw[show J0 F (scn p s) a [(i:Int)] K F 0=J0 F (scn p s) a [(i:Int)] K (F2+1+1+1) 0 by rw[← eF]]
    rw[r1,show((0+1:Nat):Int)=1 from rfl,J0,if_neg sM]]
   show(bif decide (A1q p s i a.what=0)then J9 F a [(i:Int)] _ F s.zones 0 else _)=_;rw[show ∀ K:List Int→Int→Option (Except Int E6),J9 F a [(i:Int)] K F s.zones 0=K (s.zones.set i a.what) 1 from fun K=>by
    conv=>lhs;rw[show J9 F a [(i:Int)] K F s.zones 0=J9 F a [(i:Int)] K (F2+1+1+1) s.zones 0 by rw[← eF]]
    rw[J9,if_pos sM,show P3 [(i:Int)] 0=some (i:Int)from rfl,oS,H3 hi',oS,A31,oS,show W ((0:Int)+1)=1 from rfl,J9,if_neg sM]]
   refine eW (congrArg (fun z:Option (Except Int E6)=>bif decide (A1q p s i a.what=0)then z else some (.error (A1q p s i a.what))) hend) ?_;rw[hA];unfold c2E dm;rw[dF h0,cF];simp only[X5];rfl
 have hJ6:A02 F (scn p s) a (s.zones.getD i 0)=bif (!decide (0≤a.with_)||decide (s.zones.getD a.with_.toNat 0=s.zones.getD i 0))then Z8 F (scn p s) a (s.zones.getD i 0)else some (.error 171):=by
  rw[A02];by_cases h0:a.with_<0
  ·rw[if_pos h0,Y8,dF oM];rfl
  ·obtain⟨m,em⟩:∃ m:Nat,a.with_=m:=⟨a.with_.toNat,by omega⟩;have hm:m<s.zones.length:=by omega
   rw[if_neg h0,dT oM,show(scn p s).A9=s.zones from rfl,em,B0x hm,oS,Y8];rfl
 rw[A2u,show(scn p s).A9=s.zones from rfl,ei,H3 hi',oS,← J6 0 hi',show(scn p s).V4=p.doors from rfl,A6t hd oM,oS,A6t hd oM,oS,hJ6,hJ4,Y8];unfold B7I B9t dm;rw[ei];simp only[X5,A4e,A0q,tN];generalize p.doors.any (fun d=>G6.beq ⟨s.zones.getD i 0,a.what⟩ d)=b1;generalize p.doors.any (fun d=>G6.beq ⟨a.what,s.zones.getD i 0⟩ d)=b2;generalize (!decide (0≤a.with_)||decide (s.zones.getD a.with_.toNat 0=s.zones.getD i 0))=b3;cases b1<;>cases b2<;>cases b3<;>rfl
end Go.Proofs.YtlaogbbcipebgaaGreat
