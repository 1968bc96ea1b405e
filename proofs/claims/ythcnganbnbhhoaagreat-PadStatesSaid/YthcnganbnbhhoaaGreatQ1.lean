/- The plain part of pad.Check: the program's answer and the document's are the same. -/
import Derived.Test.YthcnganbnbhhoaaGreatW4
import Derived.MapKept
import Derived.Laws.Strings
set_option linter.unusedVariables false
set_option linter.unusedSimpArgs false
open Go Go.Proofs.YthcnganbnbhhoaaGreat.Sh Go.Proofs
namespace Go.Proofs.YthcnganbnbhhoaaGreat
theorem oS {α β:Type} (a:α) (f:α→Option β):(some a).bind f=f a:=rfl
theorem dF {p:Prop} [Decidable p] (h:¬p):decide p=false:=decide_eq_false h
theorem dT {p:Prop} [Decidable p] (h:p):decide p=true:=decide_eq_true h
theorem lD {α:Type} {i:Nat} {l:List α} (h:i<l.length):l.drop i=l[i]::l.drop (i+1):=List.drop_eq_getElem_cons h
theorem cT {α:Type} {a b:α}:cond true a b=a:=rfl
theorem cF {α:Type} {a b:α}:cond false a b=b:=rfl
theorem lL {α:Type} {l:List α} {i:Nat} (h:l.length≤i):l.drop i=[]:=List.drop_of_length_le h
theorem tN (n:Nat):(n:Int).toNat=n:=rfl
theorem A1p {x:Int} (h : -9223372036854775808≤x:=by omega) (k:x<9223372036854775808:=by omega):W x=x:=by
 unfold W IntKind.wrap
 simp[IntKind.bits,IntKind.signed]
 omega
theorem O9 {k:Nat} (h:k<9223372036854775807):W ((k:Int)+1)=((k+1:Nat):Int):=by rw[A1p];omega
theorem B5Y {k:Nat} (h:0<k) (h2:k<9223372036854775808):W ((k:Int)-1)=((k-1:Nat):Int):=by rw[A1p];omega
theorem I7 {α:Type} {l:List α} {k:Nat} (h:k<l.length):P7 l (k:Int)=some l[k]:=by
 unfold P7
 rw[if_pos (Int.natCast_nonneg k),tN,List.getElem?_eq_getElem h]
theorem A6j {α:Type} {l:List α} {a:α} (h:l.length<100000):A67 l [a]=some (l++[a]):=by
 unfold A67
 rw[if_pos (by simp;omega)]
theorem B5d {α:Type} {l:List α} {k:Nat} (h:k≤l.length):A91 l 0 (k:Int)=some (l.take k):=by
 unfold A91
 rw[if_pos oM]
 simp
theorem A3s {α:Type} (p:Prop) [Decidable p] (A B:α):(if p then A else B)=bif decide p then A else B:=by
 by_cases h:p<;>simp[h]
theorem B2a {α:Type} (a b:Bool) (A B:α):(bif a then A else bif b then A else B)=bif (a||b)then A else B:=by cases a<;>rfl
theorem B3Q {α:Type} (a:Bool) (A B:α):some (bif a then A else B)=bif a then some A else some B:=by cases a<;>rfl
theorem T7 (b:Bool) [Decidable (b=true)]:decide (b=true)=b:=by cases b<;>simp
def N4 (n lo hi:Int):Bool:=decide (n<lo∨hi<n)
theorem A0e (F:Nat) (n lo hi:Int):T5 F n lo hi=some (N4 n lo hi):=by
 unfold T5 N4
 split<;>simp[*]
theorem B1P (F:Nat) (n lo hi:Int):A6b F n lo hi=some (N4 n lo hi):=by
 unfold A6b N4
 split<;>simp[*]
theorem A1K (F:Nat) (n lo hi:Int):A10 F n lo hi=some (!N4 n lo hi):=by
 unfold A10 N4
 by_cases h:lo≤n
 ·rw[if_pos h]
  have:¬ n<lo:=by omega
  by_cases h2:n≤hi
  ·have:¬ hi<n:=by omega
   simp[*]
  ·have:hi<n:=by omega
   simp[*]
 ·rw[if_neg h]
  have:n<lo:=by omega
  simp[this]
theorem A5f {n lo hi:Int}:N4 n lo hi=false↔lo≤n∧n≤hi:=by
 unfold N4
 simp
def B2c (k:Nat) (e:Int):Bool:=(decide (97≤e)&&decide (e≤122))||(decide (k≠0)&&(decide (e=45)||(decide (48≤e)&&decide (e≤57))))
def A57:Nat→List Int→Bool
 | _,[]=>true
 | k,e::l=>B2c k e&&A57 (k+1) l
theorem A4X (s:ByteArray):(S5 s).length=s.size:=by simp[S5]
theorem B5j {s:ByteArray} {k:Nat} (h:k<(S5 s).length):ixB s (k:Int)=some (S5 s)[k]:=by
 have h2:k<s.size:=by rwa [A4X]at h
 unfold ixB
 rw[if_pos (Int.natCast_nonneg k),tN,getElem?_pos s k h2]
 simp[S5]
 rfl
theorem B3R {α:Type} (k:Nat) (e:Int) (A B:α) (k':Int) (hk:k'=k):(if 97≤e then(if e≤122 then A else(if k'=0 then B else(if e=45 then A else(if 48≤e then(if e≤57 then A else B)else B))))else(if k'=0 then B else(if e=45 then A else(if 48≤e then(if e≤57 then A else B)else B))))=if B2c k e=true then A else B:=by
 subst hk
 unfold B2c
 by_cases h1:97≤e<;>by_cases h2:e≤122<;>by_cases h3:k=0<;>by_cases h4:e=45<;>by_cases h5:48≤e<;>by_cases h6:e≤57<;>simp[*]<;>omega
theorem B3p {α:Type} (k:Nat) (e:Int) (A B:α) (k':Int) (hk:k'=k):(if 97≤e then(if e≤122 then A else(if k'=0 then B else(if 48≤e then(if e≤57 then A else(if e=45 then A else B))else(if e=45 then A else B))))else(if k'=0 then B else(if 48≤e then(if e≤57 then A else(if e=45 then A else B))else(if e=45 then A else B))))=if B2c k e=true then A else B:=by
 subst hk
 unfold B2c
 by_cases h1:97≤e<;>by_cases h2:e≤122<;>by_cases h3:k=0<;>by_cases h4:e=45<;>by_cases h5:48≤e<;>by_cases h6:e≤57<;>simp[*]<;>omega
theorem B2D {F:Nat} {s:ByteArray} (hl:(S5 s).length<9223372036854775808) (c:Option Bool):∀ (n k:Nat),(S5 s).length<n+k→k≤(S5 s).length→U9 F s (fun _=>c) n k=if A57 k ((S5 s).drop k)=true then c else some false
 | 0,k,h,h2=>absurd h oM
 | n+1,k,h,h2=>by
  rw[U9]
  by_cases hk:k<(S5 s).length
  ·rw[if_pos oM,I7 hk,oS,B3R k _ _ _ _ rfl,O9 oM,B2D hl c n (k+1) oM oM,lD hk,A57]
   cases B2c k (S5 s)[k]<;>simp
  ·rw[if_neg oM,lL oM]
   rfl
theorem A9N {F:Nat} {s:ByteArray} (hl:(S5 s).length<9223372036854775808) (c:Option Bool):∀ (n k:Nat),(S5 s).length<n+k→k≤(S5 s).length→V6 F s (fun _=>c) n k=if A57 k ((S5 s).drop k)=true then c else some false
 | 0,k,h,h2=>absurd h oM
 | n+1,k,h,h2=>by
  have hs:=A4X s
  rw[V6]
  by_cases hk:k<(S5 s).length
  ·rw[if_pos oM,B5j hk,oS,B3p k _ _ _ _ rfl,O9 oM,A9N hl c n (k+1) oM oM,lD hk,A57]
   cases B2c k (S5 s)[k]<;>simp
  ·rw[if_neg oM,lL oM]
   rfl
def A6K (s:ByteArray):Bool:=A57 0 (S5 s) && !N4 s.size 1 24
theorem A3G {F:Nat} {s:ByteArray} (hl:s.size<9223372036854775808) (hF:s.size<F):A2l F s=some (A6K s):=by
 have hs:=A4X s
 have:=B2D (F:=F) (s:=s) oM (some (!N4 s.size 1 24)) F 0 oM oM
 unfold A2l
 simp only[B1P,oS]
 rw[show(0:Int)=((0:Nat):Int)from rfl,this,List.drop_zero,A6K]
 cases A57 0 (S5 s)<;>simp
theorem B2y {F:Nat} {s:ByteArray} (hl:s.size<9223372036854775808) (hF:s.size<F):A75 F s=some (A6K s):=by
 have hs:=A4X s
 have:=A9N (F:=F) (s:=s) oM (some true) F 0 oM oM
 unfold A75
 rw[show(0:Int)=((0:Nat):Int)from rfl,this,List.drop_zero,A6K]
 by_cases h1:(s.size:Int)<1
 ·rw[if_pos h1];simp[N4,h1]
 ·rw[if_neg h1]
  by_cases h2:24<(s.size:Int)
  ·rw[if_pos h2];simp[N4,h2]
  ·rw[if_neg h2]
   have:N4 s.size 1 24=false:=by simp[N4];omega
   rw[this]
   cases A57 0 (S5 s)<;>simp

theorem B3m (a b:ByteArray):decide (a.toList=b.toList)=(a==b):=by
 rw[Bool.eq_iff_iff,decide_eq_true_iff,MapKept.bytes_beq]
 constructor
 ·intro h
  rw[ByteArray.toList_eq,ByteArray.toList_eq]at h
  cases a;cases b
  simp at h
  simp[h]
 ·rintro rfl;rfl
def nmE (seen:List ByteArray) (s:ByteArray):Int:=if A6K s=true then(if seen.any (fun b=>decide (b.toList=s.toList))=true then 5 else 0)else 6
def T1 {α:Type} (nm:α→ByteArray) (rest:α→Int):List ByteArray→Nat→List α→Int × Int
 | _,_,[]=>(0,0)
 | seen,k,x::l=>if nmE seen (nm x)=0 then(if rest x=0 then T1 nm rest (seen++[nm x]) (k+1) l else((k:Int),rest x))else((k:Int),nmE seen (nm x))
theorem B3v {m:List (ByteArray × Bool)} (a b:ByteArray):(A2X (A1o m a true) b).getD false=((A2X m b).getD false||(b==a)):=by
 have hs:∀ x y:ByteArray,(x==y)=true→x=y:=fun x y h=>(MapKept.bytes_beq x y).1 h
 have hr:∀ x:ByteArray,(x==x)=true:=fun x=>(MapKept.bytes_beq x x).2 rfl
 induction m with
 | nil=>cases h:(b==a)<;>simp[A1o,A2X,h]
 | cons p m ih =>
  simp only[A1o]
  cases h:(a==p.1)with
  | true =>
   have e:=hs _ _ h
   simp only[cT,A2X,List.find?_cons]
   cases h2:(b==a)with
   | true=>simp
   | false=>rw[show(b==p.1)=false by rw[← e];exact h2];simp[A2X]
  | false =>
   simp only[cF]
   unfold A2X at ih ⊢
   simp only[List.find?_cons]
   cases h2:(b==p.1)with
   | true =>
    have:(b==a)=false:=by
     cases h3:(b==a)with
     | false=>rfl
     | true=>rw[hs _ _ h3]at h2;rw[h]at h2;cases h2
    simp[this]
   | false=>simpa using ih
def A7f (m:List (ByteArray × Bool)) (seen:List ByteArray):Prop:=∀ s,(A2X m s).getD false=seen.any (fun b=>decide (b.toList=s.toList))
theorem A7f.nil:A7f [] []:=fun _=>rfl
theorem A7f.snoc {m:List (ByteArray × Bool)} {seen:List ByteArray} (h:A7f m seen) (a:ByteArray):A7f (A1o m a true) (seen++[a]):=fun s=>by
 rw[B3v,h s,List.any_append]
 simp only[List.any_cons,List.any_nil,Bool.or_false,B3m]
 congr 1
 rw[Bool.eq_iff_iff,MapKept.bytes_beq,MapKept.bytes_beq]
 exact eq_comm
theorem A5z {F:Nat} {lv:List E9} {nm:E9→ByteArray} {rest:E9→Int} {name:E9→Option ByteArray} {re:E9→Option Int} (hn:∀ x∈lv,name x=some (nm x)) (hr:∀ x∈lv,re x=some (rest x)) (hl:lv.length<100000) (hF:∀ x∈lv,(nm x).size<F∧(nm x).size<9223372036854775808) :
 ∀ (n k:Nat) (m:List (ByteArray × Bool)) (seen:List ByteArray),A7f m seen→lv.length<n+k→k≤lv.length→T2 F lv name re (fun _ _=>some (0,0)) n m k=some (T1 nm rest seen k (lv.drop k))
 | 0,k,_,_,_,h,h2=>absurd h oM
 | n+1,k,m,seen,hm,h,h2=>by
  rw[T2]
  by_cases hk:k<lv.length
  ·have hx:=List.getElem_mem hk
   rw[if_pos oM,I7 hk,oS,hn _ hx,oS,A3G (hF _ hx).2 (hF _ hx).1,oS,lD hk,T1,O9 oM]
   cases hp:A6K (nm lv[k])with
   | false =>
    have e:nmE seen (nm lv[k])=6:=by simp[nmE,hp]
    rw[e,if_neg sM,if_neg dM]
   | true =>
    rw[if_pos rfl,hm]
    cases ha:seen.any (fun b=>decide (b.toList=(nm lv[k]).toList))with
    | true =>
     have e:nmE seen (nm lv[k])=5:=by unfold nmE;rw[if_pos hp,if_pos ha]
     rw[e,if_pos rfl,if_neg dM]
    | false =>
     have e:nmE seen (nm lv[k])=0:=by unfold nmE;rw[if_pos hp,if_neg (by rw[ha];exact Bool.false_ne_true)]
     rw[e,if_neg sM,if_pos rfl,hr _ hx,oS]
     by_cases h0:rest lv[k]=0
     ·rw[if_pos h0,if_pos h0,A5z hn hr hl hF n (k+1) _ _ (hm.snoc _) oM oM]
     ·rw[if_neg h0,if_neg h0]
  ·rw[if_neg oM,lL oM]
   rfl
theorem A8w {F:Nat} {lv:List E9} {nm:E9→ByteArray} {rest:E9→Int} {name:E9→Option ByteArray} {re:E9→Option Int} (hn:∀ x∈lv,name x=some (nm x)) (hr:∀ x∈lv,re x=some (rest x)) (hl:lv.length<100000) (h0:lv.length<F) (hF:∀ x∈lv,(nm x).size<F∧(nm x).size<9223372036854775808) :
 A0I F lv name re=some (T1 nm rest [] 0 lv):=by
 have:=A5z hn hr hl hF F 0 [] [] .nil oM oM
 simpa[A0I]using this
theorem A4i {F:Nat} {lv:List E3} {nm:E3→ByteArray} {rest:E3→Int} {name:E3→Option ByteArray} {re:E3→Option Int} (hn:∀ x∈lv,name x=some (nm x)) (hr:∀ x∈lv,re x=some (rest x)) (hl:lv.length<100000) (hF:∀ x∈lv,(nm x).size<F∧(nm x).size<9223372036854775808) :
 ∀ (n k:Nat) (m:List (ByteArray × Bool)) (seen:List ByteArray),A7f m seen→lv.length<n+k→k≤lv.length→R5 F lv name re (fun _ _=>some (0,0)) n m k=some (T1 nm rest seen k (lv.drop k))
 | 0,k,_,_,_,h,h2=>absurd h oM
 | n+1,k,m,seen,hm,h,h2=>by
  rw[R5]
  by_cases hk:k<lv.length
  ·have hx:=List.getElem_mem hk
   rw[if_pos oM,I7 hk,oS,hn _ hx,oS,A3G (hF _ hx).2 (hF _ hx).1,oS,lD hk,T1,O9 oM]
   cases hp:A6K (nm lv[k])with
   | false =>
    have e:nmE seen (nm lv[k])=6:=by simp[nmE,hp]
    rw[e,if_neg sM,if_neg dM]
   | true =>
    rw[if_pos rfl,hm]
    cases ha:seen.any (fun b=>decide (b.toList=(nm lv[k]).toList))with
    | true =>
     have e:nmE seen (nm lv[k])=5:=by unfold nmE;rw[if_pos hp,if_pos ha]
     rw[e,if_pos rfl,if_neg dM]
    | false =>
     have e:nmE seen (nm lv[k])=0:=by unfold nmE;rw[if_pos hp,if_neg (by rw[ha];exact Bool.false_ne_true)]
     rw[e,if_neg sM,if_pos rfl,hr _ hx,oS]
     by_cases h0:rest lv[k]=0
     ·rw[if_pos h0,if_pos h0,A4i hn hr hl hF n (k+1) _ _ (hm.snoc _) oM oM]
     ·rw[if_neg h0,if_neg h0]
  ·rw[if_neg oM,lL oM]
   rfl
theorem A7v {F:Nat} {lv:List E3} {nm:E3→ByteArray} {rest:E3→Int} {name:E3→Option ByteArray} {re:E3→Option Int} (hn:∀ x∈lv,name x=some (nm x)) (hr:∀ x∈lv,re x=some (rest x)) (hl:lv.length<100000) (h0:lv.length<F) (hF:∀ x∈lv,(nm x).size<F∧(nm x).size<9223372036854775808) :
 A0d F lv name re=some (T1 nm rest [] 0 lv):=by
 have:=A4i hn hr hl hF F 0 [] [] .nil oM oM
 simpa[A0d]using this
theorem A50 {F:Nat} {lv:List ByteArray} {nm:ByteArray→ByteArray} {rest:ByteArray→Int} {name:ByteArray→Option ByteArray} {re:ByteArray→Option Int} (hn:∀ x∈lv,name x=some (nm x)) (hr:∀ x∈lv,re x=some (rest x)) (hl:lv.length<100000) (hF:∀ x∈lv,(nm x).size<F∧(nm x).size<9223372036854775808) :
 ∀ (n k:Nat) (m:List (ByteArray × Bool)) (seen:List ByteArray),A7f m seen→lv.length<n+k→k≤lv.length→T3 F lv name re (fun _ _=>some (0,0)) n m k=some (T1 nm rest seen k (lv.drop k))
 | 0,k,_,_,_,h,h2=>absurd h oM
 | n+1,k,m,seen,hm,h,h2=>by
  rw[T3]
  by_cases hk:k<lv.length
  ·have hx:=List.getElem_mem hk
   rw[if_pos oM,I7 hk,oS,hn _ hx,oS,A3G (hF _ hx).2 (hF _ hx).1,oS,lD hk,T1,O9 oM]
   cases hp:A6K (nm lv[k])with
   | false =>
    have e:nmE seen (nm lv[k])=6:=by simp[nmE,hp]
    rw[e,if_neg sM,if_neg dM]
   | true =>
    rw[if_pos rfl,hm]
    cases ha:seen.any (fun b=>decide (b.toList=(nm lv[k]).toList))with
    | true =>
     have e:nmE seen (nm lv[k])=5:=by unfold nmE;rw[if_pos hp,if_pos ha]
     rw[e,if_pos rfl,if_neg dM]
    | false =>
     have e:nmE seen (nm lv[k])=0:=by unfold nmE;rw[if_pos hp,if_neg (by rw[ha];exact Bool.false_ne_true)]
     rw[e,if_neg sM,if_pos rfl,hr _ hx,oS]
     by_cases h0:rest lv[k]=0
     ·rw[if_pos h0,if_pos h0,A50 hn hr hl hF n (k+1) _ _ (hm.snoc _) oM oM]
     ·rw[if_neg h0,if_neg h0]
  ·rw[if_neg oM,lL oM]
   rfl
theorem A8x {F:Nat} {lv:List ByteArray} {nm:ByteArray→ByteArray} {rest:ByteArray→Int} {name:ByteArray→Option ByteArray} {re:ByteArray→Option Int} (hn:∀ x∈lv,name x=some (nm x)) (hr:∀ x∈lv,re x=some (rest x)) (hl:lv.length<100000) (h0:lv.length<F) (hF:∀ x∈lv,(nm x).size<F∧(nm x).size<9223372036854775808) :
 A0J F lv name re=some (T1 nm rest [] 0 lv):=by
 have:=A50 hn hr hl hF F 0 [] [] .nil oM oM
 simpa[A0J]using this
theorem A4G {F:Nat} {lv:List C6} {nm:C6→ByteArray} {rest:C6→Int} {name:C6→Option ByteArray} {re:C6→Option Int} (hn:∀ x∈lv,name x=some (nm x)) (hr:∀ x∈lv,re x=some (rest x)) (hl:lv.length<100000) (hF:∀ x∈lv,(nm x).size<F∧(nm x).size<9223372036854775808) :
 ∀ (n k:Nat) (m:List (ByteArray × Bool)) (seen:List ByteArray),A7f m seen→lv.length<n+k→k≤lv.length→S1 F lv name re (fun _ _=>some (0,0)) n m k=some (T1 nm rest seen k (lv.drop k))
 | 0,k,_,_,_,h,h2=>absurd h oM
 | n+1,k,m,seen,hm,h,h2=>by
  rw[S1]
  by_cases hk:k<lv.length
  ·have hx:=List.getElem_mem hk
   rw[if_pos oM,I7 hk,oS,hn _ hx,oS,A3G (hF _ hx).2 (hF _ hx).1,oS,lD hk,T1,O9 oM]
   cases hp:A6K (nm lv[k])with
   | false =>
    have e:nmE seen (nm lv[k])=6:=by simp[nmE,hp]
    rw[e,if_neg sM,if_neg dM]
   | true =>
    rw[if_pos rfl,hm]
    cases ha:seen.any (fun b=>decide (b.toList=(nm lv[k]).toList))with
    | true =>
     have e:nmE seen (nm lv[k])=5:=by unfold nmE;rw[if_pos hp,if_pos ha]
     rw[e,if_pos rfl,if_neg dM]
    | false =>
     have e:nmE seen (nm lv[k])=0:=by unfold nmE;rw[if_pos hp,if_neg (by rw[ha];exact Bool.false_ne_true)]
     rw[e,if_neg sM,if_pos rfl,hr _ hx,oS]
     by_cases h0:rest lv[k]=0
     ·rw[if_pos h0,if_pos h0,A4G hn hr hl hF n (k+1) _ _ (hm.snoc _) oM oM]
     ·rw[if_neg h0,if_neg h0]
  ·rw[if_neg oM,lL oM]
   rfl
theorem A7T {F:Nat} {lv:List C6} {nm:C6→ByteArray} {rest:C6→Int} {name:C6→Option ByteArray} {re:C6→Option Int} (hn:∀ x∈lv,name x=some (nm x)) (hr:∀ x∈lv,re x=some (rest x)) (hl:lv.length<100000) (h0:lv.length<F) (hF:∀ x∈lv,(nm x).size<F∧(nm x).size<9223372036854775808) :
 A0x F lv name re=some (T1 nm rest [] 0 lv):=by
 have:=A4G hn hr hl hF F 0 [] [] .nil oM oM
 simpa[A0x]using this
theorem A8j {F:Nat} {s:ByteArray} {before:List ByteArray} (hl:before.length<9223372036854775808):∀ (n k:Nat),before.length<n+k→k≤before.length→A1V F s before (fun _=>some 0) n k=some (if(before.drop k).any (fun b=>decide (b.toList=s.toList))=true then 5 else 0)
 | 0,k,h,h2=>absurd h oM
 | n+1,k,h,h2=>by
  rw[A1V]
  by_cases hk:k<before.length
  ·rw[if_pos oM,I7 hk,oS,lD hk,List.any_cons,O9 oM,A8j hl n (k+1) oM oM]
   by_cases he:before[k].toList=s.toList
   ·rw[if_pos he];simp[he]
   ·rw[if_neg he];simp[he]
  ·rw[if_neg oM,lL oM]
   rfl
theorem A5l {F:Nat} {s:ByteArray} {before:List ByteArray} (hl:before.length<9223372036854775808) (h0:before.length<F) (hs:s.size<9223372036854775808) (hF:s.size<F):A3D F s before=some (nmE before s):=by
 have:=A8j (F:=F) (s:=s) hl F 0 oM oM
 rw[A3D,B2y hs hF,oS,nmE]
 cases A6K s with
 | false=>rfl
 | true=>simpa using this
structure A1i (F:Nat) (p:B0):Prop where
 f:100<F
 lz:p.zones.length<9223372036854775808
 ld:p.doors.length<9223372036854775808
 lp:p.people.length<9223372036854775808
 lk:p.keys.length<9223372036854775808
 lq:p.squibs.length<9223372036854775808
 zn:∀ x∈p.zones,x.name.size<F∧x.name.size<9223372036854775808
 pn:∀ x∈p.people,x.name.size<F∧x.name.size<9223372036854775808
 kn:∀ x∈p.keys,x.size<F∧x.size<9223372036854775808
 qn:∀ x∈p.squibs,x.name.size<F∧x.name.size<9223372036854775808
 qk:∀ x∈p.squibs,x.keys.length<F∧x.keys.length<9223372036854775808
theorem A6D {F:Nat} {s:List Int} {f:Int→Option Bool} {p:Int→Bool} (hf:∀ x∈s,f x=some (p x)) (hl:s.length<9223372036854775808):∀ (n k:Nat),s.length<n+k→k≤s.length→∃ r,Q3 F s f (fun _=>some (-1)) n k=some r∧decide (0≤r)=(s.drop k).any p
 | 0,k,h,h2=>absurd h oM
 | n+1,k,h,h2=>by
  rw[Q3]
  by_cases hk:k<s.length
  ·rw[if_pos oM,I7 hk,oS,hf _ (List.getElem_mem hk),oS,lD hk,List.any_cons,O9 oM]
   cases hp:p s[k]with
   | true=>exact⟨k,by simp,by simp⟩
   | false=>simpa using A6D hf hl n (k+1) oM oM
  ·rw[if_neg oM,lL oM]
   exact⟨-1,rfl,by simp⟩
theorem A1M {F:Nat} {s:List Int} {f:Int→Option Bool} {p:Int→Bool} (hf:∀ x∈s,f x=some (p x)) (hl:s.length<9223372036854775808) (hF:s.length<F):J8 F s f=some (s.any p):=by
 obtain⟨r,h1,h2⟩:=A6D (F:=F) hf hl F 0 oM oM
 rw[J8,A04,show(0:Int)=((0:Nat):Int)from rfl,h1,oS,show((0:Nat):Int)=0 from rfl,h2,List.drop_zero]
def A22 (n:Int):Bool:=N4 n (-10000000) 10000000
theorem A9g {F:Nat} {l:List Int} (hl:l.length<9223372036854775808) (hF:l.length<F):A6x F l=some (l.any A22):=by
 rw[A6x,A1M (p:=A22) (fun x _=>by rw[A4H,A0e];rfl) hl hF]
 rfl
def A5u (z:E9):Bool:=A22 z.F8||A22 z.F7||A22 z.G0||A22 z.F9||decide (z.F7<z.F8)||decide (z.F9<z.G0)||N4 z.grade 0 9||N4 z.room 1 8
def A8t (z:E9):Int:=if A5u z=true then 7 else 0
theorem B1q {F:Nat} (hF:100<F) (z:E9):A4J F z=some (A8t z):=by
 rw[A4J,A9g sM (by simp;omega)]
 simp only[oS,A4q,A0e,List.any_cons,List.any_nil,A8t,A5u,A0P,A3s,T7,B2a,B3Q,Bool.or_assoc,Bool.or_false]
theorem B23 (F:Nat) (s:A52):A61 F s=some (!(A22 s.lo||A22 s.hi||decide (s.hi<s.lo))):=by
 simp only[A61,A1L,A1K,oS,A22]
 by_cases h:s.hi<s.lo
 ·have:¬ s.lo≤s.hi:=by omega
  cases N4 s.lo (-10000000) 10000000<;>cases N4 s.hi (-10000000) 10000000<;>simp[h,this]
 ·have:s.lo≤s.hi:=by omega
  cases N4 s.lo (-10000000) 10000000<;>cases N4 s.hi (-10000000) 10000000<;>simp[h,this]
theorem B0d {F:Nat} {p:B0} (h:A1i F p) (hl:p.zones.length≤8):∀ (n k:Nat) (seen:List ByteArray),seen.length=k→p.zones.length<n+k→k≤p.zones.length→U3 F p (fun _ _=>some (0,0)) n seen k=some (T1 (·.name) A8t seen k (p.zones.drop k))
 | 0,k,_,_,h1,h2=>absurd h1 oM
 | n+1,k,seen,hs,h1,h2=>by
  rw[U3]
  by_cases hk:k<p.zones.length
  ·have hx:=List.getElem_mem hk
   have hf:=h.f
   rw[if_pos oM,I7 hk,oS,A5l oM oM (h.zn _ hx).2 (h.zn _ hx).1,oS,lD hk,T1]
   simp only[B23,A2x,A1K,oS,A01]
   by_cases h0:nmE seen p.zones[k].name=0
   ·rw[if_pos h0,if_pos h0]
    have ih:=B0d h hl n (k+1) (seen++[p.zones[k].name]) (by simp[hs]) oM oM
    simp only[A6j (show seen.length<100000 by omega),oS,O9 (show k<9223372036854775807 by omega),h0,ih]
    have e:A8t p.zones[k]=if A5u p.zones[k]=true then 7 else 0:=rfl
    have e2:A5u p.zones[k]=((A22 p.zones[k].F8||A22 p.zones[k].F7||decide (p.zones[k].F7<p.zones[k].F8))||(A22 p.zones[k].G0||A22 p.zones[k].F9||decide (p.zones[k].F9<p.zones[k].G0))||N4 p.zones[k].grade 0 9||N4 p.zones[k].room 1 8):=by
     unfold A5u
     generalize decide (p.zones[k].F7<p.zones[k].F8)=a
     generalize decide (p.zones[k].F9<p.zones[k].G0)=b
     cases A22 p.zones[k].F8<;>cases A22 p.zones[k].F7<;>cases A22 p.zones[k].G0<;>cases A22 p.zones[k].F9<;>cases a<;>cases b<;>rfl
    rw[e,e2]
    simp only[A3s,T7]
    generalize (A22 p.zones[k].F8||A22 p.zones[k].F7||decide (p.zones[k].F7<p.zones[k].F8))=a
    generalize (A22 p.zones[k].G0||A22 p.zones[k].F9||decide (p.zones[k].F9<p.zones[k].G0))=b
    cases a<;>cases b<;>cases N4 p.zones[k].grade 0 9<;>cases N4 p.zones[k].room 1 8<;>rfl
   ·rw[if_neg h0,if_neg h0,if_neg h0]
  ·rw[if_neg oM,lL oM]
   rfl
theorem B16 {F:Nat} {p:B0} (h:A1i F p) (hl:p.zones.length≤8):A5R F p=some (T1 (·.name) A8t [] 0 p.zones):=by
 have:=B0d h hl F 0 [] rfl (by have:=h.f;omega) oM
 simpa[A5R]using this
def A4s (x:E3):Int:=if N4 x.grade 0 9=true then 7 else 0
theorem A9k {F:Nat} {p:B0} (h:A1i F p) (hl:p.people.length≤8):∀ (n k:Nat) (seen:List ByteArray),seen.length=k→p.people.length<n+k→k≤p.people.length→W5 F p (fun _ _=>some (0,0)) n seen k=some (T1 (·.name) A4s seen k (p.people.drop k))
 | 0,k,_,_,h1,h2=>absurd h1 oM
 | n+1,k,seen,hs,h1,h2=>by
  rw[W5]
  by_cases hk:k<p.people.length
  ·have hx:=List.getElem_mem hk
   have hf:=h.f
   rw[if_pos oM,I7 hk,oS,A5l oM oM (h.pn _ hx).2 (h.pn _ hx).1,oS,lD hk,T1]
   simp only[A2x,A1K,oS]
   by_cases h0:nmE seen p.people[k].name=0
   ·rw[if_pos h0,if_pos h0]
    have ih:=A9k h hl n (k+1) (seen++[p.people[k].name]) (by simp[hs]) oM oM
    simp only[A1d,A6j (show seen.length<100000 by omega),oS,O9 (show k<9223372036854775807 by omega),h0,ih]
    rw[show A4s p.people[k]=if N4 p.people[k].grade 0 9=true then 7 else 0 from rfl]
    simp only[A3s,T7]
    cases N4 p.people[k].grade 0 9<;>rfl
   ·rw[if_neg h0,if_neg h0,A1d,if_neg h0]
  ·rw[if_neg oM,lL oM]
   rfl
theorem B08 {F:Nat} {p:B0} (h:A1i F p) (hl:p.people.length≤8):A4L F p=some (T1 (·.name) A4s [] 0 p.people):=by
 have:=A9k h hl F 0 [] rfl (by have:=h.f;omega) oM
 simpa[A4L]using this
def A6o (nz:Nat) (d:I0):Bool:=N4 d.a (-1) ((nz:Int)-1)||N4 d.b (-1) ((nz:Int)-1)
def A4Y (nz:Nat):Nat→List I0→Int × Int
 | _,[]=>(0,0)
 | k,d::l=>bif A6o nz d then((k:Int),4)else bif decide (d.a=d.b)then((k:Int),2)else A4Y nz (k+1) l
theorem A6G {n:Nat} (h:n<9223372036854775808):W ((n:Int)-1)=(n:Int)-1:=by rw[A1p]
theorem A9m {F:Nat} {p:B0} (h:A1i F p) (n:Int):A3E F p n=some (!N4 n 0 ((p.zones.length:Int)-1)):=by
 rw[A3E,A6G h.lz,A1K];rfl
theorem B40 (n m:Int):N4 n (-1) m=(!decide (n = -1)&&N4 n 0 m||decide (n = -1)&&decide (m < -1)):=by
 unfold N4
 by_cases h:n = -1
 ·subst h;simp
 ·simp[h]
  rw[show decide (n < -1)=decide (n<0) by rw[decide_eq_decide];omega]
theorem B4z (n:Int) (k:Nat):N4 n (-1) ((k:Int)-1)=(!decide (n = -1)&&N4 n 0 ((k:Int)-1)):=by
 rw[B40,show decide ((k:Int)-1 < -1)=false by simp;omega];simp
theorem A9D {F:Nat} {p:B0} (h:A1i F p):∀ (n k:Nat),p.doors.length<n+k→k≤p.doors.length→W8 F p (fun _=>some (0,0)) n k=some (A4Y p.zones.length k (p.doors.drop k))
 | 0,k,h1,h2=>absurd h1 oM
 | n+1,k,h1,h2=>by
  have hl:=h.ld
  rw[W8]
  by_cases hk:k<p.doors.length
  ·rw[if_pos oM,I7 hk,oS,lD hk,A4Y]
   simp only[A1y,A2i,O9 (show k<9223372036854775807 by omega),A9D h n (k+1) oM oM,A9m h,oS,A3s,T7,A6o,B4z]
   cases decide (p.doors[k].a = -1)<;>cases decide (p.doors[k].b = -1)<;>cases N4 p.doors[k].a 0 ((p.zones.length:Int)-1)<;>cases N4 p.doors[k].b 0 ((p.zones.length:Int)-1)<;>cases decide (p.doors[k].a=p.doors[k].b)<;>rfl
  ·rw[if_neg oM,lL oM]
   rfl
theorem B1x {F:Nat} {p:B0} (h:A1i F p) (hl:p.doors.length≤24):A5M F p=some (A4Y p.zones.length 0 p.doors):=by
 have:=A9D h F 0 (by have:=h.f;omega) oM
 simpa[A5M]using this
def A7M:List Int→Bool
 | x::y::l=>decide (x<y)&&A7M (y::l)
 | _=>true
def A5X (q:C6):Bool:=A22 q.A0o||A22 q.A0p||N4 q.clear 0 10000000||N4 q.grade 0 9
def A5c (nk:Nat) (q:C6):Bool:=decide (q.keys=[])||q.keys.any (fun k=>N4 k 0 ((nk:Int)-1))
def A2y (nk:Nat) (q:C6):Int:=bif A5X q then 7 else bif A5c nk q then 4 else bif A7M q.keys then 0 else 2
theorem B3N {F:Nat} {q:C6} (hl:q.keys.length<9223372036854775808) (hm:q.keys.length≤1000000000∨True) {q2:List Int} (h2:q2.length+1=q.keys.length):∀ (n k:Nat),q2.length<n+k→k≤q2.length→A1b F q q2 (fun _=>some 0) n k=some (bif A7M (q.keys.drop k)then 0 else 2)
 | 0,k,h1,h2=>absurd h1 oM
 | n+1,k,h1,h3=>by
  rw[A1b]
  by_cases hk:k<q2.length
  ·have hk1:k<q.keys.length:=by omega
   have hk2:k+1<q.keys.length:=by omega
   rw[if_pos oM,I7 hk1,oS,O9 oM,I7 hk2,oS,B3N hl hm h2 n (k+1) oM oM,lD hk1,lD hk2,A7M]
   by_cases h:q.keys[k+1]≤q.keys[k]
   ·rw[if_pos h,show decide (q.keys[k]<q.keys[k+1])=false by simp;omega];rfl
   ·rw[if_neg h,show decide (q.keys[k]<q.keys[k+1])=true by simp;omega];rfl
  ·rw[if_neg oM]
   have:k+1=q.keys.length:=by omega
   rw[lD (by omega:k<q.keys.length),lL oM]
   rfl
theorem B01 {F:Nat} {p:B0} (h:A1i F p) {q:C6} (hq:q∈p.squibs):A4I F q (p.keys.length:Int)=some (A2y p.keys.length q):=by
 have hk:=h.qk _ hq
 have hf:=h.f
 rw[A4I,A9g sM (by simp;omega)]
 simp only[oS,A4q,A0e]
 rw[A1M (p:=fun k=>N4 k 0 ((p.keys.length:Int)-1)) (fun x _=>by rw[A3e,A0e,A6G h.lk];rfl) hk.2 hk.1]
 have hJ:q.keys≠[]→A2v F q=some (bif A7M q.keys then 0 else 2):=fun hne=>by
  have h0:0<q.keys.length:=List.length_pos_iff.2 hne
  have hc:A91 q.keys 1 (q.keys.length:Int)=some (q.keys.drop 1):=by
   unfold A91
   rw[if_pos oM,show(1:Int).toNat=1 from rfl,tN,List.take_of_length_le sM]
  have:=B3N (F:=F) (q:=q) hk.2 (.inr trivial) (q2:=q.keys.drop 1) (by simp;omega) F 0 (by simp;omega) oM
  rw[A2v,hc,oS]
  simpa using this
 unfold A2y A5X A5c
 simp only[List.any_cons,List.any_nil,A3s,T7,oS]
 by_cases hne:q.keys=[]
 ·simp only[hne,List.length_nil]
  cases A22 q.A0o<;>cases A22 q.A0p<;>cases N4 q.clear 0 10000000<;>cases N4 q.grade 0 9<;>rfl
 ·rw[hJ hne]
  have:decide ((q.keys.length:Int)=0)=false:=by
   have h0:0<q.keys.length:=List.length_pos_iff.2 hne
   simp;omega
  rw[this,show decide (q.keys=[])=false by simp[hne]]
  cases A22 q.A0o<;>cases A22 q.A0p<;>cases N4 q.clear 0 10000000<;>cases N4 q.grade 0 9<;>cases(q.keys.any fun k=>N4 k 0 ((p.keys.length:Int)-1))<;>rfl
theorem z0:((0:Nat):Int)=0:=rfl
theorem B4G {F:Nat} {q:C6} (hl:q.keys.length<9223372036854775808):∀ (n k:Nat),q.keys.length<n+k→1≤k→k≤q.keys.length→A0S F q (fun _=>some 0) n k=some (bif A7M (q.keys.drop (k-1))then 0 else 2)
 | 0,k,h1,_,h2=>absurd h1 oM
 | n+1,k,h1,h0,h2=>by
  rw[A0S]
  obtain⟨j,rfl⟩:∃ j,k=j+1:=⟨k-1,by omega⟩
  by_cases hk:j+1<q.keys.length
  ·have ih:=B4G (F:=F) hl n (j+1+1) oM oM oM
   rw[if_pos oM,I7 hk,oS,B5Y oM oM,show j+1-1=j from rfl,I7 (show j<q.keys.length by omega),oS,O9 oM,ih,lD (show j<q.keys.length by omega),show j+1+1-1=j+1 from rfl,lD hk,A7M]
   by_cases h:q.keys[j+1]≤q.keys[j]
   ·rw[if_pos h,show decide (q.keys[j]<q.keys[j+1])=false by simp;omega];rfl
   ·rw[if_neg h,show decide (q.keys[j]<q.keys[j+1])=true by simp;omega];rfl
  ·rw[if_neg oM,show j+1-1=j from rfl,lD (show j<q.keys.length by omega),lL oM]
   rfl
theorem B4H {F:Nat} {p:B0} (h:A1i F p) {q:C6} (hl:q.keys.length<9223372036854775808) (c:Option Int):∀ (n k:Nat),q.keys.length<n+k→k≤q.keys.length→A12 F p q (fun _=>c) n k=bif (q.keys.drop k).any (fun k=>N4 k 0 ((p.keys.length:Int)-1))then some 4 else c
 | 0,k,h1,h2=>absurd h1 oM
 | n+1,k,h1,h2=>by
  rw[A12]
  by_cases hk:k<q.keys.length
  ·rw[if_pos oM,I7 hk,oS,A6G h.lk,A1K,oS,O9 oM,B4H h hl c n (k+1) oM oM,lD hk,List.any_cons]
   cases N4 q.keys[k] 0 ((p.keys.length:Int)-1)<;>simp
  ·rw[if_neg oM,lL oM]
   rfl
theorem B0a {α β:Type} (f:α→β) {l:List α} {k:Nat} (h:k<l.length):(l.take k).map f++[f l[k]]=(l.take (k+1)).map f:=by
 rw[List.take_succ_eq_append_getElem h,List.map_append]
 rfl
theorem B4I {F:Nat} {p:B0} {o:Nat} (ho:o≤p.squibs.length) (hl:p.squibs.length≤6) (K:List ByteArray→Int→Option Int):∀ (n k:Nat),o<n+k→k≤o→A13 F p o K n ((p.squibs.take k).map (·.name)) k=K ((p.squibs.take o).map (·.name)) o
 | 0,k,h1,h2=>absurd h1 oM
 | n+1,k,h1,h2=>by
  rw[A13]
  by_cases hk:k<o
  ·have hk':k<p.squibs.length:=by omega
   rw[if_pos oM,I7 hk',oS,A6j (by simp;omega),oS,B0a (·.name) hk',O9 oM,B4I ho hl K n (k+1) oM oM]
  ·rw[if_neg oM,show k=o by omega]
def A7G (nk:Nat) (all:List C6):Nat→List C6→Int × Int:=fun k l=>T1 (·.name) (A2y nk) ((all.take k).map (·.name)) k l
theorem B14 {F:Nat} {p:B0} (h:A1i F p) (hl:p.squibs.length≤6) {k:Nat} (hk:k<p.squibs.length):A5Q F p k=some (bif decide (nmE ((p.squibs.take k).map (·.name)) p.squibs[k].name=0)then A2y p.keys.length p.squibs[k]else nmE ((p.squibs.take k).map (·.name)) p.squibs[k].name):=by
 have hx:=List.getElem_mem hk
 have hf:=h.f
 have hq:=h.qk _ hx
 have hn:=h.qn _ hx
 have:=B4I (F:=F) (p:=p) (o:=k) oM hl (fun a y=>(P7 p.squibs k).bind fun e2=>(A3D F e2.name a).bind fun rv=>if rv=0 then((A1L F e2.A0o).bind fun rv2=>if rv2=true then((A1L F e2.A0p).bind fun rv3=>if rv3=true then((A10 F e2.clear 0 10000000).bind fun rv4=>if rv4=true then((A2x F e2.grade).bind fun rv5=>if rv5=true then(A2k F p e2)else(X5 F))else(X5 F))else(X5 F))else(X5 F))else(some rv)) F 0 oM oM
 rw[List.take_zero,List.map_nil,z0]at this
 rw[A5Q]
 refine Eq.trans this ?_
 simp only[I7 hk,oS]
 rw[A5l (by simp;omega) (by simp;omega) hn.2 hn.1,oS]
 generalize nmE ((p.squibs.take k).map (·.name)) p.squibs[k].name=e
 generalize p.squibs[k]=q at hq
 have hJ:A2k F p q=some (bif A5c p.keys.length q then 4 else bif A7M q.keys then 0 else 2):=by
  rw[A2k]
  unfold A5c
  by_cases h0:q.keys=[]
  ·rw[if_pos (by simp[h0])];simp[h0]
  ·have hp:=List.length_pos_iff.2 h0
   rw[if_neg oM]
   have h1:=B4G (F:=F) hq.2 F 1 oM oM oM
   have h2:=B4H h hq.2 (A0S F q (fun x2=>some 0) F 1) F 0 oM oM
   rw[z0]at h2
   rw[show((1:Nat):Int)=1 from rfl]at h1
   rw[h2,h1,List.drop_zero]
   simp only[h0,decide_false,Bool.false_or]
   cases(q.keys.any fun k=>N4 k 0 ((p.keys.length:Int)-1))<;>rfl
 simp only[hJ,A1L,A2x,A1K,oS,A3s,T7,X5,A2y,A5X,A22]
 cases decide (e=0)<;>cases N4 q.A0o (-10000000) 10000000<;>cases N4 q.A0p (-10000000) 10000000<;>cases N4 q.clear 0 10000000<;>cases N4 q.grade 0 9<;>rfl
def B2K (lo hi n:Int):Int:=max (max (W (lo-n)) (W (n-hi))) 0
def A1X (z:E9) (q:C6):Bool:=decide (W (W (B2K z.F8 z.F7 q.A0o*B2K z.F8 z.F7 q.A0o)+W (B2K z.G0 z.F9 q.A0p*B2K z.G0 z.F9 q.A0p))<W (q.clear*q.clear))
theorem A6Z {F:Nat} {p:B0} {z q:Nat} (hz:z<p.zones.length) (hq:q<p.squibs.length):A5n F p z q=some (A1X p.zones[z] p.squibs[q]):=by
 rw[A5n,I7 hz,oS,I7 hq]
 rfl
theorem A8E {F:Nat} {p:B0} (h:A1i F p) (z:E9) (a:Int) (c:Option (Int × Int × Int)):∀ (n k:Nat),p.squibs.length<n+k→k≤p.squibs.length→A0w F (a,p) z (fun _=>c) n k=bif (p.squibs.drop k).any (A1X z)then some (7,0,2)else c
 | 0,k,h1,h2=>absurd h1 oM
 | n+1,k,h1,h2=>by
  have hl:=h.lq
  rw[A0w]
  by_cases hk:k<p.squibs.length
  ·rw[if_pos (by dsimp only;omega),I7 hk,oS,O9 oM,A8E h z a c n (k+1) oM oM,lD hk,List.any_cons,A3s]
   show(bif A1X z p.squibs[k]then _ else _)=_
   cases A1X z p.squibs[k]<;>rfl
  ·rw[if_neg (by dsimp only;omega),lL oM]
   rfl
theorem A8o {F:Nat} {p:B0} (h:A1i F p) {z:Nat} (hz:z<p.zones.length) (hp:p.panel=z) (c:Option (Int × Int × Int)):∀ (n k:Nat),p.squibs.length<n+k→k≤p.squibs.length→A0R F p (fun _=>c) n k=bif (p.squibs.drop k).any (A1X p.zones[z])then some (7,0,2)else c
 | 0,k,h1,h2=>absurd h1 oM
 | n+1,k,h1,h2=>by
  have hl:=h.lq
  rw[A0R]
  by_cases hk:k<p.squibs.length
  ·rw[if_pos oM,hp,A6Z hz hk,oS,O9 oM,A8o h hz hp c n (k+1) oM oM,lD hk,List.any_cons]
   cases A1X p.zones[z] p.squibs[k]<;>rfl
  ·rw[if_neg oM,lL oM]
   rfl
def A51 (n:Int) (x:Int × Int) (c:Option (Int × Int × Int)):Option (Int × Int × Int):=bif decide (x.2=0)then c else some (n,x.1,x.2)
theorem B2x (n:Int) (b:Bool) (x y:Int × Int) (c:Option (Int × Int × Int)):A51 n (bif b then x else y) c=bif b then A51 n x c else A51 n y c:=by cases b<;>rfl
theorem A8b {F:Nat} {p:B0} (h:A1i F p) (c:Option (Int × Int × Int)):∀ (n k:Nat),p.doors.length<n+k→k≤p.doors.length→A0W F p (fun _=>c) n k=A51 3 (A4Y p.zones.length k (p.doors.drop k)) c
 | 0,k,h1,h2=>absurd h1 oM
 | n+1,k,h1,h2=>by
  have hl:=h.ld
  rw[A0W]
  by_cases hk:k<p.doors.length
  ·rw[if_pos oM,I7 hk,oS,lD hk,A4Y]
   simp only[A2q,O9 (show k<9223372036854775807 by omega),A8b h c n (k+1) oM oM,A0e,A6G h.lz,oS,A3s,T7,A6o,B2x]
   cases N4 p.doors[k].a (-1) ((p.zones.length:Int)-1)<;>cases N4 p.doors[k].b (-1) ((p.zones.length:Int)-1)<;>cases decide (p.doors[k].a=p.doors[k].b)<;>rfl
  ·rw[if_neg oM,lL oM]
   rfl
theorem A8n {F:Nat} {p:B0} (h:A1i F p) (c:Option (Int × Int × Int)):∀ (n k:Nat),p.keys.length<n+k→k≤p.keys.length→p.keys.length≤8→A1x F p (fun _=>c) n k=A51 5 (T1 id (fun _=>0) (p.keys.take k) k (p.keys.drop k)) c
 | 0,k,h1,h2,_=>absurd h1 oM
 | n+1,k,h1,h2,h3=>by
  have hf:=h.f
  rw[A1x]
  by_cases hk:k<p.keys.length
  ·have hx:=h.kn _ (List.getElem_mem hk)
   rw[if_pos oM,I7 hk,oS,B5d oM,oS,A5l (by simp;omega) (by simp;omega) hx.2 hx.1,oS,lD hk,T1,O9 oM,A8n h c n (k+1) oM oM h3]
   rw[List.take_succ_eq_append_getElem hk]
   show(if nmE (p.keys.take k) p.keys[k]=0 then _ else _)=A51 5 (if nmE (p.keys.take k) p.keys[k]=0 then _ else _) c
   by_cases h0:nmE (p.keys.take k) p.keys[k]=0
   ·rw[if_pos h0,if_pos h0];rfl
   ·rw[if_neg h0,if_neg h0]
    unfold A51
    rw[show decide (((k:Int),nmE (p.keys.take k) (id p.keys[k])).2=0)=false from dF h0];rfl
  ·rw[if_neg oM,lL oM]
   rfl
theorem A6O {F:Nat} {p:B0} (h:A1i F p) (hl:p.squibs.length≤6) (c:Option (Int × Int × Int)):∀ (n k:Nat),p.squibs.length<n+k→k≤p.squibs.length→A1w F p (fun _=>c) n k=A51 6 (A7G p.keys.length p.squibs k (p.squibs.drop k)) c
 | 0,k,h1,h2=>absurd h1 oM
 | n+1,k,h1,h2=>by
  rw[A1w]
  by_cases hk:k<p.squibs.length
  ·rw[if_pos oM,B14 h hl hk,oS,O9 oM,A6O h hl c n (k+1) oM oM,lD hk]
   have e:A7G p.keys.length p.squibs k (p.squibs[k]::p.squibs.drop (k+1))=if nmE ((p.squibs.take k).map (·.name)) p.squibs[k].name=0 then(if A2y p.keys.length p.squibs[k]=0 then A7G p.keys.length p.squibs (k+1) (p.squibs.drop (k+1))else((k:Int),A2y p.keys.length p.squibs[k]))else((k:Int),nmE ((p.squibs.take k).map (·.name)) p.squibs[k].name):=by
    unfold A7G
    rw[T1,B0a (·.name) hk]
   rw[e]
   by_cases h0:nmE ((p.squibs.take k).map (·.name)) p.squibs[k].name=0
   ·rw[if_pos h0,show decide (nmE ((p.squibs.take k).map (·.name)) p.squibs[k].name=0)=true from dT h0,cT]
    by_cases h1:A2y p.keys.length p.squibs[k]=0
    ·rw[if_pos h1,if_pos h1]
    ·rw[if_neg h1,if_neg h1,A51,show decide (((k:Int),A2y p.keys.length p.squibs[k]).2=0)=false from dF h1];rfl
   ·rw[if_neg h0,show decide (nmE ((p.squibs.take k).map (·.name)) p.squibs[k].name=0)=false from dF h0,cF,if_neg h0,A51,show decide (((k:Int),nmE ((p.squibs.take k).map (·.name)) p.squibs[k].name).2=0)=false from dF h0]
    rfl
  ·rw[if_neg oM,lL oM]
   rfl
def A5x (p:B0):Bool:=N4 p.zones.length 1 8||decide (24<p.doors.length)||decide (8<p.people.length)||decide (8<p.keys.length)||decide (6<p.squibs.length)
def A5i (p:B0):Int × Int × Int:=bif N4 p.panel 0 ((p.zones.length:Int)-1)then(7,0,4)else bif (p.squibs.any (A1X (p.zones.getD p.panel.toNat default)))then(7,0,2)else bif N4 p.wait 0 6000 then(7,0,7)else(0,0,0)
def part (n:Int) (x:Int × Int) (c:Int × Int × Int):Int × Int × Int:=bif decide (x.2=0)then c else(n,x.1,x.2)
def A0r (p:B0):Int × Int × Int:=bif A5x p then(1,0,3)else part 2 (T1 (·.name) A8t [] 0 p.zones) (part 3 (A4Y p.zones.length 0 p.doors) (part 4 (T1 (·.name) A4s [] 0 p.people) (part 5 (T1 id (fun _=>0) [] 0 p.keys) (part 6 (T1 (·.name) (A2y p.keys.length) [] 0 p.squibs) (A5i p)))))
theorem A5B {p:B0} (h:A5x p=false):1≤p.zones.length∧p.zones.length≤8∧p.doors.length≤24∧p.people.length≤8∧p.keys.length≤8∧p.squibs.length≤6:=by
 simp only[A5x,Bool.or_eq_false_iff,decide_eq_false_iff_not,A5f]at h
 omega
theorem A7U (n:Int) (x:Int × Int) (c:Int × Int × Int):(if x.2=0 then some c else some (n,x.1,x.2))=some (part n x c):=by
 unfold part
 by_cases h:x.2=0<;>simp[h]
theorem A6Y (n:Int) (x:Int × Int) (c:Int × Int × Int):A51 n x (some c)=some (part n x c):=by
 unfold part A51
 cases decide (x.2=0)<;>rfl
theorem B1s {p:B0} (h:N4 p.panel 0 ((p.zones.length:Int)-1)=false):∃ z:Nat,∃ _:z<p.zones.length,p.panel=z:=by
 have:=A5f.1 h
 exact⟨p.panel.toNat,by omega,by omega⟩
theorem A7y {F:Nat} {p:B0} (h:A1i F p):A1Y F p=some (A0r p):=by
 have hf:=h.f
 have hz:=h.lz
 have hJ:A5x p=false→A2r F p=some (A0r p):=fun hl=>by
  obtain⟨l1,l2,l3,l4,l5,l6⟩:=A5B hl
  have hn:∀ n:Nat,A0u F p=some (bif N4 p.wait 0 6000 then(7,0,7)else(0,0,0)):=fun _=>by
   rw[A0u,A0e,oS];cases N4 p.wait 0 6000<;>rfl
  have hpan:(if N4 p.panel 0 ((p.zones.length:Int)-1)=true then(some ((7,0,4):Int × Int × Int))else((A1t F p p.panel).bind fun rv9=>if rv9.1<0 then(A0u F p)else((P7 rv9.2.zones rv9.1).bind fun e2=>A0w F rv9 e2 (fun(x2:Int)=>A0u F p) F 0)))=some (A5i p):=by
   unfold A5i
   cases ho:N4 p.panel 0 ((p.zones.length:Int)-1)with
   | true=>rfl
   | false =>
    obtain⟨z,hz,e⟩:=B1s ho
    rw[if_neg sM,A1t,oS]
    dsimp only
    rw[if_neg oM,e,I7 hz,oS,hn 0]
    have:=A8E h p.zones[z] z (some (bif N4 p.wait 0 6000 then((7,0,7):Int × Int × Int)else(0,0,0))) F 0 oM oM
    rw[z0]at this
    rw[this,tN,List.drop_zero,List.getD_eq_getElem?_getD,List.getElem?_eq_getElem hz,Option.getD_some]
    cases(p.squibs.any (A1X p.zones[z]))<;>rfl
  have hd:=A8b h (some (part 4 (T1 (·.name) A4s [] 0 p.people) (part 5 (T1 id (fun _=>0) [] 0 p.keys) (part 6 (T1 (·.name) (A2y p.keys.length) [] 0 p.squibs) (A5i p))))) F 0 oM oM
  rw[A2r,A8w (nm:=(·.name)) (rest:=A8t) (fun x _=>by rw[A2Y]) (fun x _=>B1q hf x) oM oM h.zn,oS]
  simp only[A7v (F:=F) (lv:=p.people) (nm:=(·.name)) (rest:=A4s) (name:=fun a0=>A1Z F a0) (re:=fun a0=>A2a F a0) (fun x _=>by rw[A1Z]) (fun x _=>by rw[A2a,A4q,A0e];simp only[oS,A4s];cases N4 x.grade 0 9<;>rfl) oM oM h.pn,
   A8x (F:=F) (lv:=p.keys) (nm:=id) (rest:=fun _=>0) (name:=fun a0=>A2b F a0) (re:=fun a0=>A2c F a0) (fun x _=>by rw[A2b];rfl) (fun x _=>by rw[A2c]) oM oM h.kn,
   A7T (F:=F) (lv:=p.squibs) (nm:=(·.name)) (rest:=A2y p.keys.length) (name:=fun a0=>A2d F a0) (re:=fun a0=>A2e F a0 p) (fun x _=>by rw[A2d]) (fun x hx=>by rw[A2e,B01 h hx];rfl) oM oM h.qn,oS,A6G hz,A0e,hpan,A7U]
  rw[z0,A6Y,List.drop_zero]at hd
  rw[hd,A7U]
  unfold A0r
  rw[hl,cF]
 have hJ4:A5x p=true→A0v F=some (A0r p):=fun hl=>by
  unfold A0r;rw[hl];rfl
 rw[A1Y,A6G hz,A0e,oS]
 have ez:N4 ((p.zones.length:Int)-1) 0 7=N4 p.zones.length 1 8:=by
  unfold N4;rw[decide_eq_decide];omega
 rw[ez]
 have hb:A5x p=(N4 p.zones.length 1 8||decide (24<p.doors.length)||decide (8<p.people.length)||decide (8<p.keys.length)||decide (6<p.squibs.length)):=rfl
 have c1:decide ((24:Int)<p.doors.length)=decide (24<p.doors.length):=by rw[decide_eq_decide];omega
 have c2:decide ((8:Int)<p.people.length)=decide (8<p.people.length):=by rw[decide_eq_decide];omega
 have c3:decide ((8:Int)<p.keys.length)=decide (8<p.keys.length):=by rw[decide_eq_decide];omega
 have c4:decide ((6:Int)<p.squibs.length)=decide (6<p.squibs.length):=by rw[decide_eq_decide];omega
 simp only[A3s,T7,B2a,c1,c2,c3,c4]
 simp only[Bool.or_assoc]at hb
 rw[← hb]
 cases hl:A5x p with
 | true=>exact hJ4 hl
 | false=>exact hJ hl
theorem B1v {F:Nat} {p:B0} (h:A1i F p):A5L F p=some (A0r p):=by
 have hf:=h.f
 have hz:=h.lz
 have hJ:A5x p=false→A3f F p=some (A0r p):=fun hl=>by
  obtain⟨l1,l2,l3,l4,l5,l6⟩:=A5B hl
  have hw:((A10 F p.wait 0 6000).bind fun rv9=>if rv9=true then(some ((0,0,0):Int × Int × Int))else(some (7,0,7)))=some (bif N4 p.wait 0 6000 then(7,0,7)else(0,0,0)):=by
   rw[A1K,oS];cases N4 p.wait 0 6000<;>rfl
  have hpan:((A3E F p p.panel).bind fun rv7=>if rv7=true then(A0R F p (fun(x3:Int)=>some (bif N4 p.wait 0 6000 then((7,0,7):Int × Int × Int)else(0,0,0))) F 0)else(some (7,0,4)))=some (A5i p):=by
   rw[A9m h,oS]
   unfold A5i
   cases ho:N4 p.panel 0 ((p.zones.length:Int)-1)with
   | true=>rfl
   | false =>
    obtain⟨z,hz,e⟩:=B1s ho
    have:=A8o h hz e (some (bif N4 p.wait 0 6000 then((7,0,7):Int × Int × Int)else(0,0,0))) F 0 oM oM
    rw[z0]at this
    rw[if_pos sM,this,e,tN,List.drop_zero,List.getD_eq_getElem?_getD,List.getElem?_eq_getElem hz,Option.getD_some]
    cases(p.squibs.any (A1X p.zones[z]))<;>rfl
  have hq:=A6O h l6 (some (A5i p)) F 0 oM oM
  have hk:=A8n h (some (part 6 (T1 (·.name) (A2y p.keys.length) [] 0 p.squibs) (A5i p))) F 0 oM oM l5
  rw[A3f,B16 h l2,oS]
  simp only[B1x h l3,B08 h l4,oS,hw,hpan]
  rw[z0]at hq hk
  rw[hq]
  simp only[A7G,List.take_zero,List.map_nil,List.drop_zero]
  rw[A6Y,hk,A6Y]
  unfold A0r
  rw[hl,cF]
  simp only[List.take_zero,List.drop_zero,A7U]
 have hJ2:A5x p=true→A0Q F=some (A0r p):=fun hl=>by
  unfold A0r;rw[hl];rfl
 rw[A5L,A1K,oS]
 have hb:A5x p=(N4 p.zones.length 1 8||decide (24<p.doors.length)||decide (8<p.people.length)||decide (8<p.keys.length)||decide (6<p.squibs.length)):=rfl
 have c1:decide ((24:Int)<p.doors.length)=decide (24<p.doors.length):=by rw[decide_eq_decide];omega
 have c2:decide ((8:Int)<p.people.length)=decide (8<p.people.length):=by rw[decide_eq_decide];omega
 have c3:decide ((8:Int)<p.keys.length)=decide (8<p.keys.length):=by rw[decide_eq_decide];omega
 have c4:decide ((6:Int)<p.squibs.length)=decide (6<p.squibs.length):=by rw[decide_eq_decide];omega
 simp only[A3s,T7,Bool.cond_not,B2a,c1,c2,c3,c4]
 simp only[Bool.or_assoc]at hb
 rw[← hb]
 cases hl:A5x p with
 | true=>exact hJ2 hl
 | false=>exact hJ hl
theorem A6q {α:Type} (f:α→Nat):∀ l:List α,∃ N,∀ x∈l,f x<N
 | []=>⟨0,fun _ h=>by simp at h⟩
 | a::l=>by
  obtain⟨N,h⟩:=A6q f l
  refine⟨N+f a+1,fun x hx=>?_⟩
  rcases List.mem_cons.1 hx with rfl | hx
  ·omega
  ·have:=h x hx;omega
theorem B50 {p:B0} (h1:p.zones.length<9223372036854775808) (h2:p.doors.length<9223372036854775808) (h3:p.people.length<9223372036854775808) (h4:p.keys.length<9223372036854775808) (h5:p.squibs.length<9223372036854775808)
  (k1:∀ x∈p.zones,x.name.size<9223372036854775808) (k2:∀ x∈p.people,x.name.size<9223372036854775808) (k3:∀ x∈p.keys,x.size<9223372036854775808) (k4:∀ x∈p.squibs,x.name.size<9223372036854775808) (k5:∀ x∈p.squibs,x.keys.length<9223372036854775808):∃ F0,∀ F,F0≤F→A1i F p:=by
 obtain⟨a,ha⟩:=A6q (fun x:E9=>x.name.size) p.zones
 obtain⟨b,hb⟩:=A6q (fun x:E3=>x.name.size) p.people
 obtain⟨c,hc⟩:=A6q (fun x:ByteArray=>x.size) p.keys
 obtain⟨d,hd⟩:=A6q (fun x:C6=>x.name.size) p.squibs
 obtain⟨e,he⟩:=A6q (fun x:C6=>x.keys.length) p.squibs
 refine⟨101+a+b+c+d+e,fun F hF=>⟨by omega,h1,h2,h3,h4,h5,fun x hx=>⟨?_,k1 x hx⟩,fun x hx=>⟨?_,k2 x hx⟩,fun x hx=>⟨?_,k3 x hx⟩,fun x hx=>⟨?_,k4 x hx⟩,fun x hx=>⟨?_,k5 x hx⟩⟩⟩
 ·have:=ha x hx;omega
 ·have:=hb x hx;omega
 ·have:=hc x hx;omega
 ·have:=hd x hx;omega
 ·have:=he x hx;omega
theorem A37 {ρ:Type} {g:Nat→Int→Option ρ} {f:Nat→Bool} {len:Nat} {c fl:Option ρ} (h0:∀ n k:Nat,k<len→g (n+1) k=bif f k then g n ((k+1:Nat):Int)else fl) (h1:∀ n,g (n+1) len=c) :
 ∀ n k:Nat,len<n+k→k≤len→g n k=bif (List.range' k (len-k)).all f then c else fl
 | 0,k,h,h2=>absurd h oM
 | n+1,k,h,h2=>by
  by_cases hk:k<len
  ·rw[h0 n k hk,A37 h0 h1 n (k+1) oM oM,show len-k=(len-(k+1))+1 by omega,List.range'_succ,List.all_cons]
   cases f k<;>rfl
  ·obtain rfl:k=len:=by omega
   rw[h1 n,Nat.sub_self];rfl
theorem A7n {σ ρ:Type} {g:Nat→σ→Int→Option ρ} {f:σ→Nat→σ} {len:Nat} {c:σ→Option ρ} (I:σ→Nat→Prop) (hI:∀ s k,k<len→I s k→I (f s k) (k+1)) (h0:∀ (n:Nat) s (k:Nat),k<len→I s k→g (n+1) s k=g n (f s k) ((k+1:Nat):Int)) (h1:∀ n s,I s len→g (n+1) s len=c s) :
 ∀ (n:Nat) (s:σ) (k:Nat),I s k→len<n+k→k≤len→g n s k=c ((List.range' k (len-k)).foldl f s)
 | 0,s,k,_,h,h2=>absurd h oM
 | n+1,s,k,hs,h,h2=>by
  by_cases hk:k<len
  ·rw[h0 n s k hk hs,A7n I hI h0 h1 n _ (k+1) (hI s k hk hs) oM oM,show len-k=(len-(k+1))+1 by omega,List.range'_succ,List.foldl_cons]
  ·obtain rfl:k=len:=by omega
   rw[h1 n s hs,Nat.sub_self];rfl
theorem M5 {α:Type} {l:List α} {k:Nat} (d:α) (h:k<l.length):l.getD k d=l[k]:=by simp[List.getD_eq_getElem?_getD,List.getElem?_eq_getElem h]
theorem B3j {α:Type} (l:List α) (d:α) (f:α→Bool):(List.range' 0 l.length).all (fun k=>f (l.getD k d))=l.all f:=by
 have key:∀ m k,k+m=l.length→(List.range' k m).all (fun k=>f (l.getD k d))=(l.drop k).all f:=fun m=>by
  induction m with
  | zero=>intro k hk;rw[lL oM];rfl
  | succ m ih =>
   intro k hk
   rw[List.range'_succ,List.all_cons,ih (k+1) oM,lD (by omega:k<l.length),List.all_cons,M5 d oM]
 simpa using key l.length 0 oM
structure A24 (p:B0):Prop where
 z1:1≤p.zones.length
 z8:p.zones.length≤8
 d24:p.doors.length≤24
 p8:p.people.length≤8
 k8:p.keys.length≤8
 q6:p.squibs.length≤6
 z:∀ z∈p.zones,A5u z=false
 d:∀ d∈p.doors,A6o p.zones.length d=false
 g:∀ x∈p.people,N4 x.grade 0 9=false
 q:∀ q∈p.squibs,A5X q=false∧A5c p.keys.length q=false∧A7M q.keys=true
 panel:N4 p.panel 0 ((p.zones.length:Int)-1)=false
 far:p.squibs.any (A1X (p.zones.getD p.panel.toNat default))=false
 wait:N4 p.wait 0 6000=false
theorem A6u {α:Type} {nm:α→ByteArray} {rest:α→Int}:∀ {l:List α} {seen:List ByteArray} {k:Nat},(T1 nm rest seen k l).2=0→∀ x∈l,rest x=0
 | [],_,_,_=>fun _ h=>by simp at h
 | x::l,seen,k,h=>fun y hy=>by
  rw[T1]at h
  by_cases h1:nmE seen (nm x)=0
  ·rw[if_pos h1]at h
   by_cases h2:rest x=0
   ·rw[if_pos h2]at h
    rcases List.mem_cons.1 hy with rfl | hy
    ·exact h2
    ·exact A6u h y hy
   ·rw[if_neg h2]at h;exact absurd h h2
  ·rw[if_neg h1]at h;exact absurd h h1
theorem A9C {nz:Nat}:∀ {l:List I0} {k:Nat},(A4Y nz k l).2=0→∀ x∈l,A6o nz x=false
 | [],_,_=>fun _ h=>by simp at h
 | x::l,k,h=>fun y hy=>by
  rw[A4Y]at h
  cases h1:A6o nz x with
  | true=>rw[h1]at h;exact absurd h sM
  | false =>
   rw[h1,cF]at h
   cases h2:decide (x.a=x.b)with
   | true=>rw[h2]at h;exact absurd h sM
   | false =>
    rw[h2,cF]at h
    rcases List.mem_cons.1 hy with rfl | hy
    ·exact h1
    ·exact A9C h y hy
theorem A73 {n:Int} {x:Int × Int} {c:Int × Int × Int} (hn:(part n x c).2.2=0):x.2=0∧c.2.2=0:=by
 unfold part at hn
 by_cases h:x.2=0
 ·rw[dT h]at hn;exact⟨h,hn⟩
 ·rw[dF h]at hn;exact absurd hn h
theorem A46 {p:B0} (h:(A0r p).2.2=0):A24 p:=by
 unfold A0r at h
 cases hl:A5x p with
 | true=>rw[hl]at h;exact absurd h sM
 | false =>
  obtain⟨l1,l2,l3,l4,l5,l6⟩:=A5B hl
  rw[hl,cF]at h
  obtain⟨h1,h⟩:=A73 h
  obtain⟨h2,h⟩:=A73 h
  obtain⟨h3,h⟩:=A73 h
  obtain⟨h4,h⟩:=A73 h
  obtain⟨h5,h⟩:=A73 h
  unfold A5i at h
  cases e1:N4 p.panel 0 ((p.zones.length:Int)-1)with
  | true=>rw[e1]at h;exact absurd h sM
  | false =>
   rw[e1,cF]at h
   cases e2:p.squibs.any (A1X (p.zones.getD p.panel.toNat default))with
   | true=>rw[e2]at h;exact absurd h sM
   | false =>
    rw[e2,cF]at h
    cases e3:N4 p.wait 0 6000 with
    | true=>rw[e3]at h;exact absurd h sM
    | false =>
     refine⟨l1,l2,l3,l4,l5,l6,fun z hz=>?_,A9C h2,fun x hx=>?_,fun q hq=>?_,e1,e2,e3⟩
     ·have:=A6u h1 z hz
      unfold A8t at this
      cases hb:A5u z with
      | false=>rfl
      | true=>rw[hb]at this;exact absurd this sM
     ·have:=A6u h3 x hx
      unfold A4s at this
      cases hb:N4 x.grade 0 9 with
      | false=>rfl
      | true=>rw[hb]at this;exact absurd this sM
     ·have:=A6u h5 q hq
      unfold A2y at this
      cases a:A5X q with
      | true=>rw[a]at this;exact absurd this sM
      | false =>
       rw[a,cF]at this
       cases b:A5c p.keys.length q with
       | true=>rw[b]at this;exact absurd this sM
       | false =>
        rw[b,cF]at this
        cases c:A7M q.keys with
        | true=>exact⟨rfl,rfl,rfl⟩
        | false=>rw[c]at this;exact absurd this sM
theorem B4e {p:B0} (h:A24 p) {q:C6} (hq:q∈p.squibs) {k:Int} (hk:k∈q.keys):∃ j:Nat,k=j∧j<p.keys.length:=by
 have:=(h.q q hq).2.1
 unfold A5c at this
 rw[Bool.or_eq_false_iff,List.any_eq_false]at this
 have:=this.2 k hk
 have:=A5f.1 (by simpa using this)
 exact⟨k.toNat,by omega,by omega⟩
structure StF (F:Nat) (s:A6):Prop where
 z:s.zones.length<F∧s.zones.length≤17592186044416
 h:s.holder.length<F∧s.holder.length≤17592186044416
 q:s.squibs.length<F∧s.squibs.length≤17592186044416
abbrev scn (p:B0) (s:A6):E4:=E4.mk p.zones p.doors p.people p.keys p.squibs p.panel p.wait s.now s.zones s.holder s.squibs s.siren s.storm
theorem A8L {F:Nat} {l:List Int} (h:l.length≤17592186044416):U4 F l=some l:=by
 unfold U4 B3l
 rw[if_pos (by simpa using h)];rfl
theorem A72 {F:Nat} {s:A6} (h:StF F s) (p:B0):A2h F p s=some (some (scn p s)):=by
 rw[A2h,A8L h.z.2,A8L h.h.2,A8L h.q.2];rfl
def A17 (p:B0) (s:A6):Bool:=!N4 s.now 0 100000&&(!N4 s.siren (-1) s.now&&(decide (s.zones.length=p.people.length)&&(decide (s.holder.length=p.keys.length)&&(decide (s.squibs.length=p.squibs.length)&&(s.zones.all (fun x=>!N4 x (-1) ((p.zones.length:Int)-1))&&(s.holder.all (fun x=>!N4 x (-1) ((p.people.length:Int)-1))&&s.squibs.all (fun x=>!N4 x 0 2)))))))
theorem B4Z {α:Type} (l:List α) (f:α→Bool):l.all (fun x=>!f x)=!l.any f:=by simp[List.all_eq_not_any_not]
theorem A6M {F:Nat} {p:B0} {s:A6} (h:A1i F p) (hs:StF F s):U2 F (scn p s)=some (A17 p s):=by
 have c1:decide ((s.zones.length:Int)=p.people.length)=decide (s.zones.length=p.people.length):=by rw[decide_eq_decide];omega
 have c2:decide ((s.holder.length:Int)=p.keys.length)=decide (s.holder.length=p.keys.length):=by rw[decide_eq_decide];omega
 have c3:decide ((s.squibs.length:Int)=p.squibs.length)=decide (s.squibs.length=p.squibs.length):=by rw[decide_eq_decide];omega
 have hc:∀ (l:List Int) (a b:Int),l.length<F∧l.length≤17592186044416→J8 F l (fun a0=>O2 F a0 a b)=some (l.any (fun x=>N4 x a b)):=fun l a b hl =>
  A1M (fun x _=>by rw[O2,A0e];rfl) oM hl.1
 rw[U2]
 simp only[A08,V5,A0e,oS,A6G h.lz,A6G h.lp,hc _ _ _ hs.z,hc _ _ _ hs.h,hc _ _ _ hs.q,A3s,T7,c1,c2,c3,A17,B4Z]
 cases N4 s.now 0 100000<;>cases N4 s.siren (-1) s.now<;>cases decide (s.zones.length=p.people.length)<;>cases decide (s.holder.length=p.keys.length)<;>cases decide (s.squibs.length=p.squibs.length)<;>cases(s.zones.any fun x=>N4 x (-1) ((p.zones.length:Int)-1))<;>cases(s.holder.any fun x=>N4 x (-1) ((p.people.length:Int)-1))<;>rfl
theorem A9G {f:Nat→Bool}:∀ (l:List Nat) (b:Bool),l.foldl (fun b k=>b&&f k) b=(b&&l.all f)
 | [],b=>by simp
 | k::l,b=>by rw[List.foldl_cons,A9G l,List.all_cons,Bool.and_assoc]
theorem B5a {ρ:Type} {g:Nat→Bool→Int→Option ρ} {f:Nat→Bool} {len:Nat} {c:Bool→Option ρ} (h0:∀ (n:Nat) (b:Bool) (k:Nat),k<len→g (n+1) b k=g n (b&&f k) ((k+1:Nat):Int)) (h1:∀ n b,g (n+1) b len=c b) {n:Nat} (b:Bool) (h:len<n):g n b 0=c (b&&(List.range' 0 len).all f):=by
 have:=A7n (σ:=Bool) (g:=g) (f:=fun b k=>b&&f k) (c:=c) (fun _ _=>True) (fun _ _ _ _=>trivial) (fun n s k hk _=>h0 n s k hk) (fun n s _=>h1 n s) n b 0 trivial oM oM
 rw[z0]at this
 rw[this,Nat.sub_zero,A9G]
theorem A48 {F:Nat} {l:List Int} {lo hi:Int} (hl:l.length<9223372036854775808) {g:Nat→Bool→Int→Option Bool} {c:Bool→Option Bool}
 (h0:∀ (n:Nat) (a:Bool) (x:Int),g (n+1) a x=if x<(l.length:Int)then(if a=true then((P7 l x).bind fun e=>(A10 F e lo hi).bind fun rv=>if rv=true then g n true (W (x+1))else g n false (W (x+1)))else g n false (W (x+1)))else c a) (hF:l.length<F) (b:Bool):g F b 0=c (b&&l.all (fun x=>!N4 x lo hi)):=by
 have:=B5a (g:=g) (f:=fun k=>!N4 (l.getD k 0) lo hi) (len:=l.length) (c:=c) (fun n a k hk=>by
  rw[h0,if_pos oM,I7 hk,oS,A1K,oS,O9 oM]
  rw[M5 0 hk]
  cases a<;>cases N4 l[k] lo hi<;>rfl) (fun n a=>by rw[h0,if_neg oM]) b hF
 rw[this,B3j l 0 (fun x=>!N4 x lo hi)]
theorem A76 {F:Nat} {p:B0} {s:A6} (h:A1i F p) (hs:StF F s):A3K F p s=some (A17 p s):=by
 have hz:=hs.z
 have hh:=hs.h
 have hq:=hs.q
 have c1:decide ((s.zones.length:Int)=p.people.length)=decide (s.zones.length=p.people.length):=by rw[decide_eq_decide];omega
 have c2:decide ((s.holder.length:Int)=p.keys.length)=decide (s.holder.length=p.keys.length):=by rw[decide_eq_decide];omega
 have c3:decide ((s.squibs.length:Int)=p.squibs.length)=decide (s.squibs.length=p.squibs.length):=by rw[decide_eq_decide];omega
 have w1:=A6G h.lz
 have w2:=A6G h.lp
 have e1:∀ (c:Bool→Option Bool) b,S8 F s (fun a _=>c a) F b 0=c (b&&s.squibs.all (fun x=>!N4 x 0 2)):=fun c b=>A48 (F:=F) (l:=s.squibs) (g:=fun n b x=>S8 F s (fun a _=>c a) n b x) oM (fun n a x=>by rw[S8]) hq.1 b
 have e2:∀ (c:Bool→Option Bool) b,T9 F p s (fun a _=>c a) F b 0=c (b&&s.holder.all (fun x=>!N4 x (-1) ((p.people.length:Int)-1))):=fun c b=>A48 (F:=F) (l:=s.holder) (g:=fun n b x=>T9 F p s (fun a _=>c a) n b x) oM (fun n a x=>by rw[T9,w2]) hh.1 b
 have e3:∀ (c:Bool→Option Bool) b,U6 F p s (fun a _=>c a) F b 0=c (b&&s.zones.all (fun x=>!N4 x (-1) ((p.zones.length:Int)-1))):=fun c b=>A48 (F:=F) (l:=s.zones) (g:=fun n b x=>U6 F p s (fun a _=>c a) n b x) oM (fun n a x=>by rw[U6,w1]) hz.1 b
 have e4:∀ (c:Bool→Option Bool) b,U0 F s (fun a _=>c a) F b 0=c (b&&s.squibs.all (fun x=>!N4 x 0 2)):=fun c b=>A48 (F:=F) (l:=s.squibs) (g:=fun n b x=>U0 F s (fun a _=>c a) n b x) oM (fun n a x=>by rw[U0]) hq.1 b
 have e5:∀ (c:Bool→Option Bool) b,U7 F p s (fun a _=>c a) F b 0=c (b&&s.holder.all (fun x=>!N4 x (-1) ((p.people.length:Int)-1))):=fun c b=>A48 (F:=F) (l:=s.holder) (g:=fun n b x=>U7 F p s (fun a _=>c a) n b x) oM (fun n a x=>by rw[U7,w2]) hh.1 b
 have e6:∀ (c:Bool→Option Bool) b,W4 F p s (fun a _=>c a) F b 0=c (b&&s.zones.all (fun x=>!N4 x (-1) ((p.zones.length:Int)-1))):=fun c b=>A48 (F:=F) (l:=s.zones) (g:=fun n b x=>W4 F p s (fun a _=>c a) n b x) oM (fun n a x=>by rw[W4,w1]) hz.1 b
 have hJ:Z4 F p s=some false:=by
  rw[Z4]
  refine(e6 (fun a4=>U7 F p s (fun a5 x3=>U0 F s (fun a6 x4=>some a6) F a5 0) F a4 0) false).trans ?_
  refine(e5 (fun a5=>U0 F s (fun a6 x4=>some a6) F a5 0) _).trans ?_
  exact e4 some _
 have hL:U6 F p s (fun a _=>T9 F p s (fun a2 _=>S8 F s (fun a3 _=>some a3) F a2 0) F a 0) F true 0=some (s.zones.all (fun x=>!N4 x (-1) ((p.zones.length:Int)-1))&&s.holder.all (fun x=>!N4 x (-1) ((p.people.length:Int)-1))&&s.squibs.all (fun x=>!N4 x 0 2)):=by
  refine(e3 (fun a4=>T9 F p s (fun a5 x3=>S8 F s (fun a6 x4=>some a6) F a5 0) F a4 0) true).trans ?_
  refine(e2 (fun a5=>S8 F s (fun a6 x4=>some a6) F a5 0) _).trans ?_
  refine(e1 some _).trans ?_
  rw[Bool.true_and]
 rw[A3K]
 simp only[hJ,hL,A1K,oS,A3s,T7,c1,c2,c3,A17]
 cases N4 s.now 0 100000<;>cases N4 s.siren (-1) s.now<;>cases decide (s.zones.length=p.people.length)<;>cases decide (s.holder.length=p.keys.length)<;>cases decide (s.squibs.length=p.squibs.length)<;>simp[Bool.and_assoc]
structure A1h (p:B0) (s:A6):Prop where
 now:0≤s.now∧s.now≤100000
 siren : -1≤s.siren∧s.siren≤s.now
 lz:s.zones.length=p.people.length
 lh:s.holder.length=p.keys.length
 lq:s.squibs.length=p.squibs.length
 z:∀ x∈s.zones,-1≤x∧x<p.zones.length
 h:∀ x∈s.holder,-1≤x∧x<p.people.length
 q:∀ x∈s.squibs,0≤x∧x≤2
theorem A2U {p:B0} {s:A6}:A17 p s=true↔A1h p s:=by
 have hn:∀ x a b,(!N4 x a b)=true↔a≤x∧x≤b:=fun x a b=>by
  rw[Bool.not_eq_true',A5f]
 unfold A17
 simp only[Bool.and_eq_true,decide_eq_true_eq,List.all_eq_true,hn]
 constructor
 ·rintro⟨h1,h2,h3,h4,h5,h6,h7,h8⟩
  exact⟨h1,h2,h3,h4,h5,fun x hx=>by have:=h6 x hx;omega,fun x hx=>by have:=h7 x hx;omega,h8⟩
 ·rintro⟨h1,h2,h3,h4,h5,h6,h7,h8⟩
  exact⟨h1,h2,h3,h4,h5,fun x hx=>by have:=h6 x hx;omega,fun x hx=>by have:=h7 x hx;omega,h8⟩
def A3M (s:A6) (z:Int):Nat:=s.zones.countP (fun e=>decide (e=z))
theorem A7j {α:Type} (l:List α) (d:α) (f:α→Bool):∀ (m k c:Nat),k+m=l.length→(List.range' k m).foldl (fun(c:Nat) k=>if f (l.getD k d)=true then c+1 else c) c=c+(l.drop k).countP f
 | 0,k,c,h=>by rw[lL oM];rfl
 | m+1,k,c,h=>by
  rw[List.range'_succ,List.foldl_cons,A7j l d f m (k+1) _ oM,lD (by omega:k<l.length),List.countP_cons,M5 d oM]
  cases f l[k]<;>simp
  omega
theorem A9B {F:Nat} {l:List Int} {z:Int} (hl:l.length<9223372036854775807) {g:Nat→Int→Int→Option Int} (h0:∀ (n:Nat) (c x:Int),g (n+1) c x=if x<(l.length:Int)then((P7 l x).bind fun e=>if e=z then g n (W (c+1)) (W (x+1))else g n c (W (x+1)))else some c) (hF:l.length<F):g F 0 0=some ((l.countP (fun e=>decide (e=z)):Nat):Int):=by
 have:=A7n (σ:=Nat) (g:=fun n (s:Nat) x=>g n (s:Int) x) (f:=fun c k=>if decide (l.getD k 0=z)=true then c+1 else c) (len:=l.length) (c:=fun c=>some (c:Int)) (fun c k=>c≤k) (fun c k hk hc=>by split<;>omega) (fun n c k hk hc=>by
  rw[h0,if_pos oM,I7 hk,oS,O9 (show k<9223372036854775807 by omega),M5 0 hk]
  by_cases h:l[k]=z
  ·rw[if_pos h,if_pos (by simp[h]),O9 (show c<9223372036854775807 by omega)]
  ·rw[if_neg h,if_neg (by simp[h])]) (fun n c _=>by rw[h0,if_neg oM]) F 0 0 (Nat.le_refl _) oM oM
 rw[z0]at this
 rw[this,Nat.sub_zero,A7j l 0 (fun e=>decide (e=z)) l.length 0 0 oM,Nat.zero_add,List.drop_zero]
theorem A71 {F:Nat} {s:A6} (hs:StF F s) (p:B0) (z:Int):A0t F (scn p s) z=some (A3M s z:Int):=by
 have:=hs.z
 exact A9B (F:=F) (l:=s.zones) (g:=fun n c x=>S2 F (scn p s) z (fun nv _=>some nv) n c x) oM (fun n c x=>by rw[S2]) this.1
theorem B20 {F:Nat} {s:A6} (hs:StF F s) (z:Int):A87 F s z=some (A3M s z:Int):=by
 have:=hs.z
 exact A9B (F:=F) (l:=s.zones) (g:=fun n c x=>A11 F s z (fun nv _=>some nv) n c x) oM (fun n c x=>by rw[A11]) this.1
theorem A6r {p:B0} {s:A6} (h:A24 p) (hf:A1h p s) {q:C6} (hq:q∈p.squibs) {k:Int} (hk:k∈q.keys):P7 s.holder k=some (s.holder.getD k.toNat (-1)):=by
 obtain⟨j,rfl,hj⟩:=B4e h hq hk
 have:=hf.lh
 rw[I7 oM,tN,M5 _ oM]
theorem B3s {p:B0} {s:A6} (hf:A1h p s) (j:Nat) : -1≤s.holder.getD j (-1)∧s.holder.getD j (-1)<p.people.length:=by
 rw[List.getD_eq_getElem?_getD]
 cases h:s.holder[j]? with
 | none=>simp;omega
 | some x=>simpa using hf.h x (List.mem_of_getElem? h)
def B2N (s:A6) (k:Int):Bool:=decide (0≤s.holder.getD k.toNat (-1))
def A9M (s:A6) (q:C6):List Int:=q.keys.filter (B2N s)
theorem A7o {α:Type} (l:List α) (d:α) (f:α→Bool):∀ (m k:Nat) (acc:List α),k+m=l.length→(List.range' k m).foldl (fun(a:List α) k=>bif f (l.getD k d)then a++[l.getD k d]else a) acc=acc++(l.drop k).filter f
 | 0,k,c,h=>by rw[lL oM];simp
 | m+1,k,c,h=>by
  rw[List.range'_succ,List.foldl_cons,A7o l d f m (k+1) _ oM,lD (by omega:k<l.length),List.filter_cons,M5 d oM]
  cases f l[k]<;>simp
theorem B1l {F:Nat} {l:List Int} {f:Int→Bool} (hl:l.length≤8) {g:Nat→List Int→Int→Option (List Int)} (h0:∀ (n:Nat) (a:List Int) (k:Nat) (h:k<l.length),g (n+1) a k=bif f l[k]then((A67 a [l[k]]).bind fun q=>g n q (W ((k:Int)+1)))else g n a (W ((k:Int)+1))) (h1:∀ n a,g (n+1) a l.length=some a) (hF:l.length<F):g F [] 0=some (l.filter f):=by
 have:=A7n (σ:=List Int) (g:=g) (f:=fun a k=>bif f (l.getD k 0)then a++[l.getD k 0]else a) (len:=l.length) (c:=some) (fun a k=>a.length≤k) (fun a k hk hc=>by cases f (l.getD k 0)<;>simp<;>omega) (fun n a k hk hc=>by
  rw[h0 n a k hk,A6j oM,oS,O9 (show k<9223372036854775807 by omega),M5 0 hk]
  cases f l[k]<;>rfl) (fun n a _=>h1 n a) F [] 0 (Nat.le_refl _) oM oM
 rw[z0]at this
 rw[this,Nat.sub_zero,A7o l 0 f l.length 0 [] oM]
 rfl
theorem B5c {nk:Nat}:∀ {l:List Int},A7M l=true→(∀ x∈l,0≤x∧x<nk)→l.length≤nk:=by
 have key:∀ (l:List Int) (b:Int),A7M (b::l)=true→(∀ x∈b::l,0≤x∧x<nk)→(l.length:Int)<nk-b:=fun l=>by
  induction l with
  | nil=>intro b _ h;have:=h b sM;simp;omega
  | cons y l ih =>
   intro b ha h
   rw[A7M,Bool.and_eq_true,decide_eq_true_eq]at ha
   have:=ih y ha.2 (fun x hx=>h x (by simp at hx ⊢;right;exact hx))
   simp only[List.length_cons]
   omega
 intro l ha h
 cases l with
 | nil=>simp
 | cons b l =>
  have h1:=key l b ha h
  have h2:=h b sM
  simp only[List.length_cons]
  omega
theorem A4E {p:B0} (h:A24 p) {q:C6} (hq:q∈p.squibs):q.keys.length≤8:=by
 have:=B5c (nk:=p.keys.length) (h.q q hq).2.2 (fun x hx=>by obtain⟨j,rfl,hj⟩:=B4e h hq hx;omega)
 have:=h.k8
 omega
theorem B1p {F:Nat} {p:B0} {s:A6} (h:A1i F p) (ho:A24 p) (hf:A1h p s) {k:Nat} (hk:k<p.squibs.length):A0g F (scn p s) k=some (A9M s p.squibs[k]):=by
 have hm:=List.getElem_mem hk
 have hF:=h.f
 rw[A0g,show(scn p s).M8=p.squibs from rfl,I7 hk,oS]
 refine B1l (F:=F) (f:=B2N s) (A4E ho hm) (g:=fun n a x=>R7 F (scn p s) p.squibs[k] (fun lv _=>some lv) n a x) (fun n a j hj=>?_) (fun n a=>?_) (by have:=A4E ho hm;omega)
 ·rw[R7,if_pos oM,I7 hj,oS,show(scn p s).C2=s.holder from rfl,A6r ho hf hm (List.getElem_mem hj),oS,A3s]
  rfl
 ·rw[R7,if_neg oM]
theorem B22 {F:Nat} {p:B0} {s:A6} (h:A1i F p) (ho:A24 p) (hf:A1h p s) {k:Nat} (hk:k<p.squibs.length):A60 F p s k=some (A9M s p.squibs[k]):=by
 have hm:=List.getElem_mem hk
 have hF:=h.f
 rw[A60,I7 hk,oS]
 refine B1l (F:=F) (f:=B2N s) (A4E ho hm) (g:=fun n a x=>A1c F s p.squibs[k] (fun lv _=>some lv) n a x) (fun n a j hj=>?_) (fun n a=>?_) (by have:=A4E ho hm;omega)
 ·rw[A1c,if_pos oM,I7 hj,oS,A6r ho hf hm (List.getElem_mem hj),oS]
  have hg:=B3s hf p.squibs[k].keys[j].toNat
  unfold B2N
  by_cases h0:s.holder.getD p.squibs[k].keys[j].toNat (-1) = -1
  ·rw[if_pos h0,show decide (0≤s.holder.getD p.squibs[k].keys[j].toNat (-1))=false from dF oM];rfl
  ·rw[if_neg h0,show decide (0≤s.holder.getD p.squibs[k].keys[j].toNat (-1))=true from dT oM];rfl
 ·rw[A1c,if_neg oM]
def A8Q (s:A6) (i:Int) (q:C6):Bool:=q.keys.any (fun k=>decide (s.holder.getD k.toNat (-1)=i))
theorem B0x {F:Nat} {p:B0} {s:A6} (h:A1i F p) (ho:A24 p) (hf:A1h p s) {q:C6} (hq:q∈p.squibs) (i:Int):J8 F q.keys (fun a0=>Y0 F a0 (scn p s) i)=some (A8Q s i q) :=
 A1M (fun x hx=>by rw[Y0,show(scn p s).C2=s.holder from rfl,A6r ho hf hq hx];rfl) (h.qk q hq).2 (h.qk q hq).1
theorem B1c {F:Nat} {p:B0} {s:A6} (ho:A24 p) (hf:A1h p s) {q:C6} (hq:q∈p.squibs) (i:Int):∀ (n k:Nat),q.keys.length<n+k→k≤q.keys.length→A1z F s i q (fun _=>some false) n k=some ((q.keys.drop k).any (fun k=>decide (s.holder.getD k.toNat (-1)=i)))
 | 0,k,h1,h2=>absurd h1 oM
 | n+1,k,h1,h2=>by
  have hl:=A4E ho hq
  rw[A1z]
  by_cases hk:k<q.keys.length
  ·rw[if_pos oM,I7 hk,oS,A6r ho hf hq (List.getElem_mem hk),oS,lD hk,List.any_cons,O9 oM,B1c ho hf hq i n (k+1) oM oM,A3s]
   cases decide (s.holder.getD q.keys[k].toNat (-1)=i)<;>rfl
  ·rw[if_neg oM,lL oM];rfl
theorem B1z {F:Nat} {p:B0} {s:A6} (h:A1i F p) (ho:A24 p) (hf:A1h p s) {k:Nat} (hk:k<p.squibs.length) (i:Int):A5O F p s i k=some (A8Q s i p.squibs[k]):=by
 have hm:=List.getElem_mem hk
 have:=B1c (F:=F) ho hf hm i F 0 (by have:=A4E ho hm;have:=h.f;omega) oM
 rw[A5O,I7 hk,oS]
 rw[z0]at this
 exact this
def A8f (p:B0) (s:A6) (i:Int) (z:E9) (k:Nat):Bool:=decide (s.squibs.getD k 0=2) || !A1X z (p.squibs.getD k default)||A8Q s i (p.squibs.getD k default)
def A5b (p:B0) (s:A6) (i z:Int):Bool:=decide (z<0)||(List.range' 0 p.squibs.length).all (A8f p s i (p.zones.getD z.toNat default))
theorem A94 {F:Nat} {p:B0} {s:A6} (h:A1i F p) (ho:A24 p) (hf:A1h p s) (i a:Int) (z:E9):N8 F (scn p s) i (a,p) z (fun _=>some true) F 0=some ((List.range' 0 p.squibs.length).all (A8f p s i z)):=by
 have hF:=h.f
 have hq6:=ho.q6
 have:=A37 (g:=fun n x=>N8 F (scn p s) i (a,p) z (fun _=>some true) n x) (f:=A8f p s i z) (len:=p.squibs.length) (c:=some true) (fl:=some false) (fun n k hk=>by
  have hk':k<s.squibs.length:=by have:=hf.lq;omega
  rw[N8,if_pos (by dsimp only;omega),I7 hk,oS,show(scn p s).A7=s.squibs from rfl,I7 hk',oS,oS,B0x h ho hf (List.getElem_mem hk),oS,A0f,O9 oM]
  unfold A8f
  rw[M5 _ hk,M5 _ hk',A3s]
  show(bif A1X z p.squibs[k]then _ else _)=_
  simp only[A3s,T7]
  cases A1X z p.squibs[k]<;>cases decide (s.squibs[k]=2)<;>cases A8Q s i p.squibs[k]<;>rfl) (fun n=>by rw[N8,if_neg (by dsimp only;omega)]) F 0 oM oM
 rw[z0]at this
 refine this.trans ?_
 rw[Nat.sub_zero]
 cases(List.range' 0 p.squibs.length).all (A8f p s i z)<;>rfl
theorem B0y {F:Nat} {p:B0} {s:A6} (h:A1i F p) (ho:A24 p) (hf:A1h p s) (i:Int) {z:Int} (hz:z<p.zones.length):V0 F (scn p s) i z=some (A5b p s i z):=by
 rw[V0,A1t,oS]
 dsimp only
 unfold A5b
 by_cases h0:z<0
 ·rw[if_pos h0,dT h0];rfl
 ·obtain⟨j,rfl⟩:∃ j:Nat,z=j:=⟨z.toNat,by omega⟩
  have hj:j<p.zones.length:=by omega
  rw[if_neg h0,dF h0,Bool.false_or,I7 hj,oS,tN,M5 _ hj]
  exact A94 h ho hf i j _
theorem B11 {F:Nat} {p:B0} {s:A6} (h:A1i F p) (ho:A24 p) (hf:A1h p s) (i:Int) {z:Int} (hz:z<p.zones.length):A4K F p s i z=some (A5b p s i z):=by
 have hF:=h.f
 have hq6:=ho.q6
 rw[A4K]
 unfold A5b
 by_cases h0:z<0
 ·obtain⟨m,rfl⟩:∃ m,F=m+1:=⟨F-1,by omega⟩
  rw[W9,if_neg (show ¬ 0≤z by omega),dT h0]
  simp
 ·obtain⟨j,rfl⟩:∃ j:Nat,z=j:=⟨z.toNat,by omega⟩
  have hj:j<p.zones.length:=by omega
  rw[dF h0,Bool.false_or,tN,M5 _ hj]
  have:=A37 (g:=fun n x=>W9 F p s i j (fun _=>some true) n x) (f:=A8f p s i p.zones[j]) (len:=p.squibs.length) (c:=some true) (fl:=some false) (fun n k hk=>by
   have hk':k<s.squibs.length:=by have:=hf.lq;omega
   rw[W9,if_pos oM,if_pos oM,A4u,I7 hk',oS,A6Z hj hk,oS,B1z h ho hf hk,oS,A2j,O9 oM]
   unfold A8f
   rw[M5 _ hk,M5 _ hk']
   simp only[A3s,T7]
   cases A1X p.zones[j] p.squibs[k]<;>cases decide (s.squibs[k]=2)<;>cases A8Q s i p.squibs[k]<;>rfl) (fun n=>by rw[W9,if_neg oM]) F 0 oM oM
  rw[z0]at this
  refine this.trans ?_
  rw[Nat.sub_zero]
  cases(List.range' 0 p.squibs.length).all (A8f p s i p.zones[j])<;>rfl
def A8I (p:B0) (s:A6) (z:Int):Bool:=decide (0≤z)&&((p.zones.getD z.toNat default).pair&&decide (A3M s z=1))
theorem B0v {F:Nat} {p:B0} {s:A6} (hs:StF F s) {z:Int} (hz:z<p.zones.length):Y5 F (scn p s) z=some (A8I p s z):=by
 rw[Y5]
 unfold A8I
 by_cases h0:0≤z
 ·obtain⟨j,rfl⟩:∃ j:Nat,z=j:=⟨z.toNat,by omega⟩
  have hj:j<p.zones.length:=by omega
  rw[if_pos h0,show(scn p s).M6=p.zones from rfl,I7 hj,oS,A71 hs,oS,dT h0,Bool.true_and,tN,M5 _ hj,show decide (((A3M s j:Nat):Int)=1)=decide (A3M s j=1) by rw[decide_eq_decide];omega]
  cases p.zones[j].pair<;>rfl
 ·rw[if_neg h0,dF h0];rfl
def A7J (p:B0) (s:A6) (k:Nat):Bool:=!decide ((p.zones.getD k default).room<(A3M s k:Int)) && !A8I p s k
def A3C (p:B0) (s:A6) (k:Nat):Bool:=!(decide (0≤s.zones.getD k 0)&&decide ((p.people.getD k default).grade<(p.zones.getD (s.zones.getD k 0).toNat default).grade))&&A5b p s k (s.zones.getD k 0)
def A5t (p:B0) (s:A6) (k:Nat):Bool:=!decide (s.squibs.getD k 0=1)||(decide (A9M s (p.squibs.getD k default)=[])&&(!decide (s.siren<0) && !s.storm))
def A5W (p:B0) (s:A6):Bool:=(List.range' 0 p.zones.length).all (A7J p s)&&((List.range' 0 s.zones.length).all (A3C p s)&&(List.range' 0 s.squibs.length).all (A5t p s))
theorem A8g {α:Type} (l:List α):decide ((0:Int)<(l.length:Int))=!decide (l=[]):=by
 cases l<;>simp
theorem B00 {F:Nat} {p:B0} {s:A6} (h:A1i F p) (hs:StF F s) (ho:A24 p) (hf:A1h p s):A1f F (scn p s)=some (A5W p s):=by
 have hF:=h.f
 have o1:=ho.z8
 have o2:=ho.p8
 have o3:=ho.q6
 have f1:=hf.lz
 have f2:=hf.lq
 have e1:O4 F (scn p s) (fun _=>some true) F 0=bif (List.range' 0 s.squibs.length).all (A5t p s)then some true else some false:=by
  have:=A37 (g:=fun n x=>O4 F (scn p s) (fun _=>some true) n x) (f:=A5t p s) (len:=s.squibs.length) (c:=some true) (fl:=some false) (fun n k hk=>by
   have hk':k<p.squibs.length:=by omega
   rw[O4,if_pos (by dsimp only;omega),show(scn p s).A7=s.squibs from rfl,I7 hk,oS,B1p h ho hf hk',oS,N9,A0i,O9 oM]
   unfold A5t
   rw[M5 _ hk,M5 _ hk']
   simp only[A3s,T7,A8g]
   show(bif decide (s.squibs[k]=1)then bif !decide (A9M s p.squibs[k]=[])then _ else bif decide (s.siren<0)then _ else bif s.storm then _ else _ else _)=_
   cases decide (s.squibs[k]=1)<;>cases decide (A9M s p.squibs[k]=[])<;>cases decide (s.siren<0)<;>cases s.storm<;>rfl) (fun n=>by rw[O4,if_neg (by dsimp only;omega)]) F 0 oM oM
  rw[z0]at this
  exact this
 have e2:∀ c:Option Bool,O5 F (scn p s) (fun _=>c) F 0=bif (List.range' 0 s.zones.length).all (A3C p s)then c else some false:=fun c=>by
  have:=A37 (g:=fun n x=>O5 F (scn p s) (fun _=>c) n x) (f:=A3C p s) (len:=s.zones.length) (c:=c) (fl:=some false) (fun n k hk=>by
   have hk':k<p.people.length:=by omega
   have hz:=hf.z _ (List.getElem_mem hk)
   rw[O5,if_pos (by dsimp only;omega),show(scn p s).C1=s.zones from rfl,I7 hk,oS,show(scn p s).M7=p.people from rfl,I7 hk',oS,B0y h ho hf k hz.2,oS,A0h,N9,O9 oM]
   unfold A3C
   rw[M5 _ hk,M5 _ hk']
   by_cases h0:0≤s.zones[k]
   ·obtain⟨j,ej⟩:∃ j:Nat,s.zones[k]=j:=⟨s.zones[k].toNat,by omega⟩
    have hj:j<p.zones.length:=by omega
    rw[if_pos h0,dT h0,ej,I7 hj,oS,tN,M5 _ hj]
    simp only[A3s,T7]
    cases decide (p.people[k].grade<p.zones[j].grade)<;>cases A5b p s k j<;>rfl
   ·rw[if_neg h0,dF h0]
    simp only[A3s,T7]
    cases A5b p s k s.zones[k]<;>rfl) (fun n=>by rw[O5,if_neg (by dsimp only;omega)]) F 0 oM oM
  rw[z0]at this
  exact this
 have e3:∀ c:Option Bool,Q7 F (scn p s) (fun _=>c) F 0=bif (List.range' 0 p.zones.length).all (A7J p s)then c else some false:=fun c=>by
  have:=A37 (g:=fun n x=>Q7 F (scn p s) (fun _=>c) n x) (f:=A7J p s) (len:=p.zones.length) (c:=c) (fl:=some false) (fun n k hk=>by
   rw[Q7,if_pos (by dsimp only;omega),show(scn p s).M6=p.zones from rfl,I7 hk,oS,A71 hs,oS,B0v hs oM,oS,O9 oM]
   unfold A7J
   rw[M5 _ hk]
   simp only[A3s,T7]
   cases decide (p.zones[k].room<(A3M s k:Int))<;>cases A8I p s k<;>rfl) (fun n=>by rw[Q7,if_neg (by dsimp only;omega)]) F 0 oM oM
  rw[z0]at this
  exact this
 rw[A1f,e3,e2,e1]
 unfold A5W
 cases(List.range' 0 p.zones.length).all (A7J p s)<;>cases(List.range' 0 s.zones.length).all (A3C p s)<;>cases(List.range' 0 s.squibs.length).all (A5t p s)<;>rfl
theorem B12 {F:Nat} {p:B0} {s:A6} (h:A1i F p) (hs:StF F s) (ho:A24 p) (hf:A1h p s):A5P F p s=some (A5W p s):=by
 have hF:=h.f
 have o1:=ho.z8
 have o2:=ho.p8
 have o3:=ho.q6
 have f1:=hf.lz
 have f2:=hf.lq
 have e1:X0 F p s (fun _=>some true) F 0=bif (List.range' 0 s.squibs.length).all (A5t p s)then some true else some false:=by
  have:=A37 (g:=fun n x=>X0 F p s (fun _=>some true) n x) (f:=A5t p s) (len:=s.squibs.length) (c:=some true) (fl:=some false) (fun n k hk=>by
   have hk':k<p.squibs.length:=by omega
   rw[X0,if_pos oM,I7 hk,oS,B22 h ho hf hk',oS,V1,A3i,O9 oM]
   unfold A5t
   rw[M5 _ hk,M5 _ hk']
   simp only[A3s,T7,A8g]
   cases decide (s.squibs[k]=1)<;>cases decide (A9M s p.squibs[k]=[])<;>cases decide (s.siren<0)<;>cases s.storm<;>rfl) (fun n=>by rw[X0,if_neg oM]) F 0 oM oM
  rw[z0]at this
  exact this
 have e2:∀ c:Option Bool,X3 F p s (fun _=>c) F 0=bif (List.range' 0 s.zones.length).all (A3C p s)then c else some false:=fun c=>by
  have:=A37 (g:=fun n x=>X3 F p s (fun _=>c) n x) (f:=A3C p s) (len:=s.zones.length) (c:=c) (fl:=some false) (fun n k hk=>by
   have hk':k<p.people.length:=by omega
   have hz:=hf.z _ (List.getElem_mem hk)
   rw[X3,if_pos oM,I7 hk,oS,I7 hk',oS,B11 h ho hf k hz.2,oS,A3h,V1,O9 oM]
   unfold A3C
   rw[M5 _ hk,M5 _ hk']
   by_cases h0:0≤s.zones[k]
   ·obtain⟨j,ej⟩:∃ j:Nat,s.zones[k]=j:=⟨s.zones[k].toNat,by omega⟩
    have hj:j<p.zones.length:=by omega
    rw[if_pos h0,dT h0,ej,I7 hj,oS,tN,M5 _ hj]
    simp only[A3s,T7]
    cases decide (p.people[k].grade<p.zones[j].grade)<;>cases A5b p s k j<;>rfl
   ·rw[if_neg h0,dF h0]
    simp only[A3s,T7]
    cases A5b p s k s.zones[k]<;>rfl) (fun n=>by rw[X3,if_neg oM]) F 0 oM oM
  rw[z0]at this
  exact this
 have e3:∀ c:Option Bool,X4 F p s (fun _=>c) F 0=bif (List.range' 0 p.zones.length).all (A7J p s)then c else some false:=fun c=>by
  have:=A37 (g:=fun n x=>X4 F p s (fun _=>c) n x) (f:=A7J p s) (len:=p.zones.length) (c:=c) (fl:=some false) (fun n k hk=>by
   rw[X4,if_pos oM,B20 hs,oS,I7 hk,oS,A3g,O9 oM]
   unfold A7J A8I
   rw[tN,M5 _ hk,dT (show(0:Int)≤(k:Int) by omega)]
   simp only[A3s,T7,show decide (((A3M s k:Nat):Int)=1)=decide (A3M s k=1) by rw[decide_eq_decide];omega]
   cases decide (p.zones[k].room<(A3M s k:Int))<;>cases p.zones[k].pair<;>cases decide (A3M s k=1)<;>rfl) (fun n=>by rw[X4,if_neg oM]) F 0 oM oM
  rw[z0]at this
  exact this
 rw[A5P,e3,e2,e1]
 unfold A5W
 cases(List.range' 0 p.zones.length).all (A7J p s)<;>cases(List.range' 0 s.zones.length).all (A3C p s)<;>cases(List.range' 0 s.squibs.length).all (A5t p s)<;>rfl
def B0K (p:B0) (s:A6):Int:=bif decide ((A0r p).2.2=0)then(bif A17 p s&&A5W p s then 0 else 6)else(A0r p).2.2
theorem A7x {F:Nat} {p:B0} {s:A6} (h:A1i F p) (hs:StF F s):A0G F p s=some (B0K p s):=by
 rw[A0G,A7y h,oS]
 unfold B0K
 by_cases h0:(A0r p).2.2=0
 ·rw[if_pos h0,dT h0,cT,A72 hs,oS]
  show((U2 F (scn p s)).bind _)=_
  rw[A6M h hs,oS]
  cases hf:A17 p s with
  | false=>rfl
  | true =>
   rw[if_pos rfl,B00 h hs (A46 h0) (A2U.1 hf),oS]
   cases A5W p s<;>rfl
 ·rw[if_neg h0,dF h0];rfl
theorem A8l {F:Nat} {p:B0} (h:A1i F p):A4M F p=some (A0r p).2.2:=by
 rw[A4M,B1v h];rfl
theorem A7V {F:Nat} {p:B0} {s:A6} (h:A1i F p) (hs:StF F s):A1J F p s=some (B0K p s):=by
 rw[A1J,A8l h,oS]
 unfold B0K
 by_cases h0:(A0r p).2.2=0
 ·rw[if_pos h0,dT h0,cT,A76 h hs,oS]
  cases hf:A17 p s with
  | false=>rfl
  | true =>
   rw[if_pos rfl,B12 h hs (A46 h0) (A2U.1 hf),oS]
   cases A5W p s<;>simp[V7,h0]
 ·rw[if_neg h0,dF h0];rfl
structure B70 (p:B0) (s:A6):Prop where
 o:A24 p
 f:A1h p s
 s:A5W p s=true
structure B6E (p:B0) (a:D4):Prop where
 t:0≤a.at_∧a.at_≤100000
 k:a.kind=1∨a.kind=2∨a.kind=3∨a.kind=4∨a.kind=5∨a.kind=6∨a.kind=7∨a.kind=8∨a.kind=9
 who:0≤a.who∧a.who<p.people.length
 zone:a.kind=1 → -1≤a.what∧a.what<p.zones.length
 key:a.kind=2∨a.kind=3∨a.kind=4→0≤a.what∧a.what<p.keys.length
 squib:a.kind=5∨a.kind=6∨a.kind=7→0≤a.what∧a.what<p.squibs.length
 sig:a.kind=8∨a.kind=9→a.what=0∨a.what=1
 give:a.kind=4→(0≤a.with_∧a.with_<p.people.length)∧a.with_≠a.who
 move:a.kind=1→(a.with_ = -1∨(0≤a.with_∧a.with_<p.people.length))∧a.with_≠a.who
theorem B4J {α:Type} (l:List α) (k:Nat) (a:α):A4g l k a=some (l.set k a):=rfl
structure B3h (F:Nat) (p:B0) (s:A6) (a:D4):Prop where
 h:A1i F p
 hs:StF F s
 o:A24 p
 f:A1h p s
 a:B6E p a
theorem B3h.who {F:Nat} {p:B0} {s:A6} {a:D4} (h:B3h F p s a):∃ i:Nat,a.who=i∧i<p.people.length∧i<s.zones.length:=by
 have h1:=h.a.who
 have h2:=h.f.lz
 exact⟨a.who.toNat,by omega,by omega,by omega⟩
theorem B3h.key {F:Nat} {p:B0} {s:A6} {a:D4} (h:B3h F p s a) (k:a.kind=2∨a.kind=3∨a.kind=4):∃ i:Nat,a.what=i∧i<p.keys.length∧i<s.holder.length:=by
 have h1:=h.a.key k
 have h2:=h.f.lh
 exact⟨a.what.toNat,by omega,by omega,by omega⟩
theorem B3h.squib {F:Nat} {p:B0} {s:A6} {a:D4} (h:B3h F p s a) (k:a.kind=5∨a.kind=6∨a.kind=7):∃ i:Nat,a.what=i∧i<p.squibs.length∧i<s.squibs.length:=by
 have h1:=h.a.squib k
 have h2:=h.f.lq
 exact⟨a.what.toNat,by omega,by omega,by omega⟩
def Rm (o:Option (A6 × Int × A6)) (s:A6) (r:Except Int A6):Prop :=
 ∃ x e m,o=some (x,e,m)∧(m.zones.length=s.zones.length∧m.holder.length=s.holder.length∧m.squibs.length=s.squibs.length) ∧
  match r with
  | .ok s'=>e=0∧s'={x with zones:=m.zones,holder:=m.holder,squibs:=m.squibs}
  | .error e'=>e=e'∧e'≠0
theorem Rm.bif {b:Bool} {o1 o2:Option (A6 × Int × A6)} {s:A6} {r1 r2:Except Int A6} (h1:b=true→Rm o1 s r1) (h2:b=false→Rm o2 s r2):Rm (bif b then o1 else o2) s (bif b then r1 else r2):=by
 cases b with
 | true=>exact h1 rfl
 | false=>exact h2 rfl
theorem Rm.ok {s x m s':A6} (hs:s'={x with zones:=m.zones,holder:=m.holder,squibs:=m.squibs}) (h1:m.zones.length=s.zones.length:=by simp) (h2:m.holder.length=s.holder.length:=by simp) (h3:m.squibs.length=s.squibs.length:=by simp):Rm (some (x,0,m)) s (.ok s'):=⟨x,0,m,rfl,⟨h1,h2,h3⟩,rfl,hs⟩
theorem Rm.of {o o':Option (A6 × Int × A6)} {s:A6} {r r':Except Int A6} (h:Rm o s r) (ho:o'=o) (hr:r'=r):Rm o' s r':=by
 subst ho hr;exact h
theorem B62 (s:A6) (h:s.zones.length*8≤140737488355328∧s.holder.length*8≤140737488355328∧s.squibs.length*8≤140737488355328):∃ F0,∀ F,F0≤F→StF F s :=
 ⟨s.zones.length+s.holder.length+s.squibs.length+1,fun F hF=>⟨by omega,by omega,by omega⟩⟩
theorem A3t {α:Type} {A C:List α} {x:α} {k:Nat} (h:A.length=k):P7 (A++x::C) (k:Int)=some x:=by
 subst h
 rw[I7 sM]
 simp
theorem A4w {α:Type} {A C:List α} {x:α} (y:α) {k:Nat} (h:A.length=k):A4g (A++x::C) (k:Int) y=some (A++y::C):=by
 subst h
 rw[B4J]
 simp
theorem A1W {α:Type} {r l:List α} (h:r.length=l.length):Y3 (some r) l=some r:=by
 unfold Y3
 rw[oS,if_pos h]
theorem B3c {F:Nat} {a b n:Int} {K:List A4→Option (List A4)}:∀ (X Y P Q C:List A4) (m i:Nat),X.length=Y.length→a+i=P.length→b+i=P.length+X.length+Q.length→n=i+X.length→P.length+X.length+Q.length+X.length≤100000→X.length<m→i+X.length≤100000 →
 G9 F a b n (fun d _=>K d) m (P++(X++(Q++(Y++C)))) i=K (P++(Y++(Q++(X++C))))
 | [],Y,P,Q,C,m,i,h1,h2,h3,h4,h5,h6,h7=>by
  obtain rfl:=List.length_eq_zero_iff.1 h1.symm
  obtain⟨m,rfl⟩:∃ j,m=j+1:=⟨m-1,by simp at h6;omega⟩
  rw[G9,if_neg (by simp at h4;omega)]
 | x::X,[],P,Q,C,m,i,h1,_,_,_,_,_,_=>by simp at h1
 | x::X,y::Y,P,Q,C,m,i,h1,h2,h3,h4,h5,h6,h7=>by
  simp only[List.length_cons]at h1 h3 h4 h5 h6 h7
  obtain⟨m,rfl⟩:∃ j,m=j+1:=⟨m-1,by omega⟩
  have e1:W (a+i)=((P.length:Nat):Int):=by rw[A1p oM oM,h2]
  have e2:W (b+i)=((P.length+(X.length+1)+Q.length:Nat):Int):=by rw[A1p oM oM];omega
  rw[G9,if_pos oM,e1,e2]
  have f1:P++(x::X++(Q++(y::Y++C)))=(P++x::X++Q)++y::(Y++C):=by simp
  have f2:P++(x::X++(Q++(y::Y++C)))=P++x::(X++Q++y::(Y++C)):=by simp
  have f3:P++y::(X++Q++y::(Y++C))=(P++y::X++Q)++y::(Y++C):=by simp
  rw[show P7 (P++(x::X++(Q++(y::Y++C)))) ((P.length+(X.length+1)+Q.length:Nat):Int)=some y by rw[f1];exact A3t (by simp;omega),oS,show P7 (P++(x::X++(Q++(y::Y++C)))) ((P.length:Nat):Int)=some x by rw[f2];exact A3t rfl,oS,show A4g (P++(x::X++(Q++(y::Y++C)))) ((P.length:Nat):Int) y=some ((P++y::X++Q)++y::(Y++C)) by rw[f2,A4w y rfl,f3],oS,A3t (by simp;omega),oS,A4w x (by simp;omega),oS,O9 oM]
  have ih:=B3c (F:=F) (a:=a) (b:=b) (n:=n) (K:=K) X Y (P++[y]) (Q++[x]) C m (i+1) oM (by simp;omega) (by simp;omega) (by simp;omega) (by simp;omega) oM oM
  rw[show(P++y::X++Q)++x::(Y++C)=(P++[y])++(X++((Q++[x])++(Y++C))) by simp,ih]
  simp
theorem B5E {F:Nat} {A X M Y C:List A4} {a b n:Int} (hF:1000<F) (h:X.length=Y.length) (ha:a=A.length) (hb:b=A.length+X.length+M.length) (hn:n=X.length) (hl:A.length+X.length+M.length+X.length≤1000):G7 F (A++(X++(M++(Y++C)))) a b n=some (A++(Y++(M++(X++C)))):=by
 rw[G7]
 exact B3c (F:=F) (a:=a) (b:=b) (n:=n) (K:=fun d=>some d) X Y A M C F 0 h (by simp;omega) (by simp;omega) (by simp;omega) oM oM oM
theorem A9x {F:Nat} {A X M Y C:List A4} {a b n:Int} (hF:1000<F) (h:X.length=Y.length) (ha:a=A.length) (hb:b=A.length+X.length+M.length) (hn:n=X.length) (hl:A.length+X.length+M.length+X.length≤1000):Y3 (G7 F (A++(X++(M++(Y++C)))) a b n) (A++(X++(M++(Y++C))))=some (A++(Y++(M++(X++C)))):=by
 rw[B5E hF h ha hb hn hl]
 exact A1W (by simp;omega)
theorem B27 {F:Nat} {mv:Int} (hF:1000<F) {K:List A4→Option (List A4)}:∀ (N:Nat) (A X Y C:List A4) (m:Nat),X.length+Y.length≤N→0<X.length→0<Y.length→mv=A.length+X.length→A.length+X.length+Y.length≤500→X.length+Y.length<m →
 H2 F mv (fun d i _=>(Y3 (G7 F d (W (mv-i)) mv i) d).bind fun rv3=>K rv3) m (A++(X++(Y++C))) X.length Y.length=K (A++(Y++(X++C)))
 | 0,A,X,Y,C,m,h,h1,h2,_,_,_=>absurd h oM
 | N+1,A,X,Y,C,m,h,h1,h2,h3,h4,h5=>by
  obtain⟨m,rfl⟩:∃ j,m=j+1:=⟨m-1,by omega⟩
  rw[H2]
  by_cases he:X.length=Y.length
  ·rw[if_pos oM,A1p oM oM]
   have:=A9x (F:=F) (A:=A) (X:=X) (M:=[]) (Y:=Y) (C:=C) (a:=mv-X.length) (b:=mv) (n:=X.length) hF he oM (by simp;omega) rfl (by simp;omega)
   rw[List.nil_append,List.nil_append]at this
   rw[this]
   rfl
  ·rw[if_neg oM]
   by_cases hlt:Y.length<X.length
   ·rw[if_pos oM,A1p (x:=mv-X.length) oM oM]
    obtain⟨X1,X2,rfl,hx1⟩:∃ X1 X2,X=X1++X2∧X1.length=Y.length:=⟨X.take Y.length,X.drop Y.length,(List.take_append_drop _ _).symm,by rw[List.length_take];omega⟩
    have hxx:(X1++X2).length=X1.length+X2.length:=List.length_append
    have hay:(A++Y).length=A.length+Y.length:=List.length_append
    rw[List.length_append]at h h1 h3 h4 h5 hlt
    have:=A9x (F:=F) (A:=A) (X:=X1) (M:=X2) (Y:=Y) (C:=C) (a:=mv-(X1++X2).length) (b:=mv) (n:=Y.length) hF hx1 oM oM oM oM
    rw[show A++(X1++X2++(Y++C))=A++(X1++(X2++(Y++C))) by simp,this,oS,A1p oM oM,show(((X1++X2).length:Nat):Int)-(Y.length:Int)=((X2.length:Nat):Int) by omega]
    have ih:=B27 (mv:=mv) hF (K:=K) N (A++Y) X2 X1 C m oM oM oM oM oM oM
    rw[hx1]at ih
    rw[show A++(Y++(X2++(X1++C)))=A++Y++(X2++(X1++C)) by simp,ih]
    simp
   ·rw[if_neg oM,A1p (x:=mv-X.length) oM oM,A1p (x:=mv+Y.length) oM oM,A1p (x:=mv+Y.length-X.length) oM oM]
    obtain⟨Y1,Y2,rfl,hy2⟩:∃ Y1 Y2,Y=Y1++Y2∧Y2.length=X.length:=⟨Y.take (Y.length-X.length),Y.drop (Y.length-X.length),(List.take_append_drop _ _).symm,by rw[List.length_drop];omega⟩
    have hyy:(Y1++Y2).length=Y1.length+Y2.length:=List.length_append
    rw[List.length_append]at h h2 h4 h5 hlt he
    have:=A9x (F:=F) (A:=A) (X:=X) (M:=Y1) (Y:=Y2) (C:=C) (a:=mv-X.length) (b:=mv+(Y1++Y2).length-X.length) (n:=X.length) hF hy2.symm oM oM rfl oM
    rw[show A++(X++(Y1++Y2++C))=A++(X++(Y1++(Y2++C))) by simp,this,oS,A1p oM oM,show(((Y1++Y2).length:Nat):Int)-(X.length:Int)=((Y1.length:Nat):Int) by omega]
    have ih:=B27 (mv:=mv) hF (K:=K) N A Y2 Y1 (X++C) m oM oM oM oM oM oM
    rw[hy2]at ih
    rw[ih]
    simp
theorem B6z {F:Nat} {A X Y C:List A4} {a mv b:Int} (hF:1000<F) (hx:0<X.length) (hy:0<Y.length) (ha:a=A.length) (hm:mv=A.length+X.length) (hb:b=A.length+X.length+Y.length) (hl:A.length+X.length+Y.length≤500):Y3 (I6 F (A++(X++(Y++C))) a mv b) (A++(X++(Y++C)))=some (A++(Y++(X++C))):=by
 rw[I6,A1p (x:=mv-a) oM oM,A1p (x:=b-mv) oM oM,show mv-a=((X.length:Nat):Int) by omega,show b-mv=((Y.length:Nat):Int) by omega]
 rw[B27 (F:=F) (mv:=mv) hF (K:=fun d=>some d) _ A X Y C F (Nat.le_refl _) hx hy hm hl oM]
 exact A1W (by simp;omega)
def dLt (x y:A4):Prop:=x.squib<y.squib∨(x.squib=y.squib∧x.person<y.person)
theorem dLt.trans {x y z:A4} (h:dLt x y) (k:dLt y z):dLt x z:=by unfold dLt at *;omega
theorem dLt.irr {x:A4} (h:dLt x x):False:=by unfold dLt at h;omega
def Bef (x y:A4):Prop:=x.squib=y.squib→x.person<y.person
def Few (l:List A4):Prop:=∀ z∈l,0≤z.squib∧z.squib≤1000
theorem A8M {F:Nat} {x y:A4} (hx:0≤x.squib∧x.squib≤1000) (hy:0≤y.squib∧y.squib≤1000):Z0 F x y=some (x.squib-y.squib):=by
 rw[Z0,A1p oM oM]
def A7P (x:A4):List A4→List A4
 | []=>[x]
 | y::R=>if x.squib<y.squib then y::A7P x R else x::y::R
theorem A5A {x z:A4}:∀ {R:List A4},z∈A7P x R↔z=x∨z∈R
 | []=>by simp[A7P]
 | y::R=>by
  rw[A7P]
  split
  ·rw[List.mem_cons,A5A,List.mem_cons]
   constructor
   ·rintro(h | h | h)
    ·exact .inr (.inl h)
    ·exact .inl h
    ·exact .inr (.inr h)
   ·rintro(h | h | h)
    ·exact .inr (.inl h)
    ·exact .inl h
    ·exact .inr (.inr h)
  ·simp
theorem A4D (x:A4):∀ R:List A4,(A7P x R).length=R.length+1
 | []=>rfl
 | y::R=>by
  rw[A7P]
  split
  ·rw[List.length_cons,A4D x R,List.length_cons]
  ·rfl
def B1X (R:List A4):Prop:=R.Pairwise fun y z=>dLt z y
theorem A9J {x:A4}:∀ {R:List A4},B1X R→(∀ y∈R,Bef y x)→B1X (A7P x R)
 | [],_,_=>by simp[A7P,B1X]
 | y::R,h,hb=>by
  unfold B1X at h ⊢
  rw[List.pairwise_cons]at h
  rw[A7P]
  split
  ·rename_i hlt
   rw[List.pairwise_cons]
   refine⟨fun z hz=>?_,A9J h.2 fun z hz=>hb z (by simp[hz])⟩
   rcases A5A.1 hz with rfl | hz
   ·exact .inl hlt
   ·exact h.1 z hz
  ·rename_i hlt
   have hyx:dLt y x:=by
    have:=hb y sM
    unfold Bef at this
    unfold dLt
    by_cases he:y.squib=x.squib
    ·exact .inr ⟨he,this he⟩
    ·exact .inl oM
   rw[List.pairwise_cons,List.pairwise_cons]
   refine⟨fun z hz=>?_,h.1,h.2⟩
   rcases List.mem_cons.1 hz with rfl | hz
   ·exact hyx
   ·exact(h.1 z hz).trans hyx
def A4e:List A4→List A4→List A4
 | R,[]=>R
 | R,x::Z=>A4e (A7P x R) Z
theorem A9W {z:A4}:∀ {Z R:List A4},z∈A4e R Z↔z∈R∨z∈Z
 | [],R=>by simp[A4e]
 | x::Z,R=>by
  rw[A4e,A9W,A5A,List.mem_cons]
  constructor
  ·rintro((h | h) | h)
   ·exact .inr (.inl h)
   ·exact .inl h
   ·exact .inr (.inr h)
  ·rintro(h | h | h)
   ·exact .inl (.inr h)
   ·exact .inl (.inl h)
   ·exact .inr h
theorem A7Z:∀ Z R:List A4,(A4e R Z).length=R.length+Z.length
 | [],R=>rfl
 | x::Z,R=>by rw[A4e,A7Z Z,A4D,List.length_cons];omega
theorem A9v:∀ {Z R:List A4},B1X R→(∀ y∈R,∀ z∈Z,Bef y z)→Z.Pairwise Bef→B1X (A4e R Z)
 | [],R,h,_,_=>h
 | x::Z,R,h,hb,hz=>by
  rw[List.pairwise_cons]at hz
  rw[A4e]
  refine A9v (A9J h fun y hy=>hb y hy x sM) (fun y hy z hzz=>?_) hz.2
  rcases A5A.1 hy with rfl | hy
  ·exact hz.1 z hzz
  ·exact hb y hy z (by simp[hzz])
theorem B4c {F:Nat} {a:Int} {A:List A4} (ha:a=A.length) {K:List A4→Option (List A4)} {x:A4} (hx:0≤x.squib∧x.squib≤1000):∀ (R C:List A4) (m:Nat),Few R→R.length<m→A.length+R.length≤100000 →
 G3 F a (fun d _=>K d) m (A++(R.reverse++(x::C))) ((A.length+R.length:Nat):Int)=K (A++((A7P x R).reverse++C))
 | [],C,m,_,hm,_=>by
  obtain⟨m,rfl⟩:∃ j,m=j+1:=⟨m-1,by simp at hm;omega⟩
  rw[G3,if_neg (by simp;omega)]
  rfl
 | y::R,C,m,hf,hm,hl=>by
  simp only[List.length_cons]at hm hl
  obtain⟨m,rfl⟩:∃ j,m=j+1:=⟨m-1,by omega⟩
  have hy:=hf y sM
  have e1:((A.length+(y::R).length:Nat):Int)=((A.length+R.length+1:Nat):Int):=by simp[Nat.add_assoc]
  have e2:W (((A.length+R.length+1:Nat):Int)-1)=((A.length+R.length:Nat):Int):=by rw[A1p oM oM];omega
  have f0:A++((y::R).reverse++(x::C))=(A++R.reverse++[y])++x::C:=by simp
  have f1:(A++R.reverse++[y])++x::C=(A++R.reverse)++y::(x::C):=by simp
  rw[G3,e1,if_pos oM,e2,f0,A3t (by simp;omega),oS]
  rw[show P7 ((A++R.reverse++[y])++x::C) ((A.length+R.length:Nat):Int)=some y by rw[f1];exact A3t sM,oS,A8M hx hy,oS]
  rw[A7P]
  by_cases hlt:x.squib<y.squib
  ·rw[if_pos oM,if_pos hlt,A4w y (by simp;omega),oS]
   rw[show(A++R.reverse++[y])++y::C=(A++R.reverse)++y::(y::C) by simp,A3t sM,oS,A4w x sM,oS]
   have ih:=B4c (F:=F) (a:=a) (A:=A) ha (K:=K) hx R (y::C) m (fun z hz=>hf z (by simp[hz])) oM oM
   rw[show(A++R.reverse)++x::y::C=A++(R.reverse++(x::(y::C))) by simp,ih]
   simp
  ·rw[if_neg oM,if_neg hlt]
   simp
theorem B4d {F:Nat} (hF:1000<F) {a b:Int} {A:List A4} (ha:a=A.length) {C:List A4} {K:List A4→Option (List A4)}:∀ (Z R:List A4) (m:Nat),Few R→Few Z→0<R.length→b=A.length+R.length+Z.length→A.length+R.length+Z.length≤500→Z.length<m →
 E6 F a b (fun d _=>K d) m (A++(R.reverse++(Z++C))) ((A.length+R.length:Nat):Int)=K (A++((A4e R Z).reverse++C))
 | [],R,m,_,_,_,hb,hl,hm=>by
  obtain⟨m,rfl⟩:∃ j,m=j+1:=⟨m-1,by simp at hm;omega⟩
  rw[E6,if_neg (by simp at hb;omega)]
  rfl
 | x::Z,R,m,hr,hz,h0,hb,hl,hm=>by
  simp only[List.length_cons]at hb hl hm
  obtain⟨m,rfl⟩:∃ j,m=j+1:=⟨m-1,by omega⟩
  rw[E6,if_pos oM,O9 oM]
  have e:=B4c (F:=F) (a:=a) (A:=A) ha (K:=fun d=>E6 F a b (fun d _=>K d) m d ((A.length+R.length+1:Nat):Int)) (hz x sM) R (Z++C) F hr oM oM
  refine Eq.trans e ?_
  have ih:=B4d hF ha (b:=b) (C:=C) (K:=K) Z (A7P x R) m (fun z hzz=>by
    rcases A5A.1 hzz with rfl | h
    ·exact hz z sM
    ·exact hr z h) (fun z hzz=>hz z (by simp[hzz])) (by rw[A4D];omega) (by rw[A4D];omega) (by rw[A4D];omega) oM
  rw[A4D]at ih
  exact ih
theorem B61 {X:List A4} (h:X.Pairwise Bef):(A4e [] X).reverse.Pairwise dLt:=by
 have:=A9v (R:=[]) (Z:=X) (by simp[B1X]) (fun y hy=>by simp at hy) h
 rw[List.pairwise_reverse]
 exact this
theorem B0k {F:Nat} (hF:1000<F) {a b:Int} {A X C:List A4} (ha:a=A.length) (hb:b=A.length+X.length) (hl:A.length+X.length≤400) (hf:Few X):Y3 (G1 F (A++(X++C)) a b) (A++(X++C))=some (A++((A4e [] X).reverse++C)):=by
 have key:G1 F (A++(X++C)) a b=some (A++((A4e [] X).reverse++C)):=by
  rw[G1]
  cases X with
  | nil =>
   obtain⟨F,rfl⟩:∃ j,F=j+1:=⟨F-1,by omega⟩
   rw[E6,if_neg (by rw[A1p oM oM];simp at hb;omega)]
   rfl
  | cons x Z =>
   simp only[List.length_cons]at hb hl
   have:=B4d (F:=F) hF ha (b:=b) (C:=C) (K:=fun d=>some d) Z [x] F (fun z hz=>hf z (by simp at hz;simp[hz])) (fun z hz=>hf z (by simp[hz])) sM (by simp;omega) (by simp;omega) oM
   rw[show W (a+1)=((A.length+[x].length:Nat):Int) by rw[A1p oM oM];simp;omega]
   exact this
 rw[key]
 exact A1W (by simp[A7Z])
theorem A6U {x y:Nat} (h:x+y≤100000):W (I3 .u64 (IntKind.u64.wrap (W ((x:Int)+(y:Int)))) 1)=(((x+y)/2:Nat):Int):=by
 have h1:W ((x:Int)+(y:Int))=((x+y:Nat):Int):=by rw[A1p oM oM];omega
 have h2:IntKind.u64.wrap ((x+y:Nat):Int)=((x+y:Nat):Int):=by
  unfold IntKind.wrap
  simp[IntKind.bits,IntKind.signed]
  omega
 have h3:I3 .u64 ((x+y:Nat):Int) 1=(((x+y)/2:Nat):Int):=by
  unfold I3
  show Int.fdiv _ 2=_
  rw[Int.fdiv_eq_ediv_of_nonneg _ dM]
  omega
 rw[h1,h2,h3,A1p oM oM]
theorem A6l {ρ:Type} {g:Nat→Int→Int→ρ} {P:Nat→Bool} {K:Int→ρ} {L H:Nat} (hs:∀ n lo hi:Nat,L≤lo→lo<hi→hi≤H→g (n+1) lo hi=if P ((lo+hi)/2)=true then g n lo (((lo+hi)/2:Nat):Int)else g n (((lo+hi)/2+1:Nat):Int) hi) (he:∀ n (s:Nat),L≤s→s≤H→g (n+1) s s=K s) (mono:∀ c d,L≤c→c≤d→d<H→P c=true→P d=true):∀ m lo hi:Nat,hi-lo<m→L≤lo→lo≤hi→hi≤H→(∀ c,L≤c→c<lo→P c=false)→(∀ c,hi≤c→c<H→P c=true)→∃ s:Nat,L≤s∧s≤H∧g m lo hi=K s∧(∀ c,L≤c→c<s→P c=false)∧(∀ c,s≤c→c<H→P c=true)
 | 0,lo,hi,h,_,_,_,_,_=>absurd h oM
 | m+1,lo,hi,h,h1,h2,h3,h4,h5=>by
  by_cases hlt:lo<hi
  ·rw[hs m lo hi h1 hlt h3]
   cases hP:P ((lo+hi)/2)with
   | true =>
    rw[if_pos rfl]
    exact A6l hs he mono m lo ((lo+hi)/2) oM h1 oM oM h4 fun c hc hH=>mono _ _ oM hc hH hP
   | false =>
    rw[if_neg dM]
    refine A6l hs he mono m ((lo+hi)/2+1) hi oM oM oM h3 (fun c hc hlo=>?_) h5
    cases hPc:P c with
    | false=>rfl
    | true=>rw[mono c _ hc oM oM hPc]at hP;cases hP
  ·obtain rfl:lo=hi:=by omega
   exact⟨lo,h1,h3,he m lo h1 h3,h4,h5⟩
theorem B5K {F:Nat} {x2:Int} {K:List A4→Option (List A4)} {x:A4}:∀ (Y P C:List A4) (m:Nat),x2=P.length+Y.length+1→P.length+Y.length≤1000→Y.length<m→E7 F x2 (fun d _=>K d) m (P++(x::(Y++C))) (P.length:Nat)=K (P++(Y++(x::C)))
 | [],P,C,m,h,hl,hm=>by
  obtain⟨m,rfl⟩:∃ j,m=j+1:=⟨m-1,by simp at hm;omega⟩
  rw[E7,if_neg (by rw[A1p oM oM];simp at h;omega)]
  rfl
 | y::Y,P,C,m,h,hl,hm=>by
  simp only[List.length_cons]at h hl hm
  obtain⟨m,rfl⟩:∃ j,m=j+1:=⟨m-1,by omega⟩
  have f1:P++(x::(y::Y++C))=(P++[x])++y::(Y++C):=by simp
  rw[E7,if_pos (by rw[A1p oM oM];omega),O9 oM,show P7 (P++(x::(y::Y++C))) ((P.length+1:Nat):Int)=some y by rw[f1];exact A3t sM,oS,A3t rfl,oS,A4w y rfl,oS,show P++(y::(y::Y++C))=(P++[y])++y::(Y++C) by simp,A3t sM,oS,A4w x sM,oS]
  have ih:=B5K (F:=F) (x2:=x2) (K:=K) (x:=x) Y (P++[y]) C m (by simp;omega) (by simp;omega) oM
  rw[List.length_append,List.length_singleton]at ih
  rw[ih]
  simp
theorem B5J {F:Nat} {x6:Int} {K:List A4→Option (List A4)} {y:A4} {P:List A4} (hx:x6=P.length):∀ (R C:List A4) (m:Nat),P.length+R.length≤1000→R.length<m→E8 F x6 (fun d _=>K d) m (P++(R.reverse++(y::C))) ((P.length+R.length:Nat):Int)=K (P++(y::(R.reverse++C)))
 | [],C,m,hl,hm=>by
  obtain⟨m,rfl⟩:∃ j,m=j+1:=⟨m-1,by simp at hm;omega⟩
  rw[E8,if_neg (by simp;omega)]
  rfl
 | x::R,C,m,hl,hm=>by
  simp only[List.length_cons]at hl hm
  obtain⟨m,rfl⟩:∃ j,m=j+1:=⟨m-1,by omega⟩
  have e1:((P.length+(x::R).length:Nat):Int)=((P.length+R.length+1:Nat):Int):=by simp[Nat.add_assoc]
  have e2:W (((P.length+R.length+1:Nat):Int)-1)=((P.length+R.length:Nat):Int):=by rw[A1p oM oM];omega
  have f0:P++((x::R).reverse++(y::C))=(P++R.reverse++[x])++y::C:=by simp
  have f1:(P++R.reverse++[x])++y::C=(P++R.reverse)++x::(y::C):=by simp
  rw[E8,e1,if_pos oM,e2,f0]
  rw[show P7 ((P++R.reverse++[x])++y::C) ((P.length+R.length:Nat):Int)=some x by rw[f1];exact A3t sM,oS,A3t (by simp;omega),oS,A4w x (by simp;omega),oS,show(P++R.reverse++[x])++x::C=(P++R.reverse)++x::(x::C) by simp,A3t sM,oS,A4w y sM,oS]
  have ih:=B5J (F:=F) (K:=K) (y:=y) hx R (x::C) m oM oM
  rw[show(P++R.reverse)++y::x::C=P++(R.reverse++(y::(x::C))) by simp,ih]
  simp
theorem sL2 {F:Nat} (hF:1000<F) {t:List A4} (hl:t.length≤400) {k:Nat} (hk:k<t.length) {K:Int→Option (List A4)} {L H:Nat} (hH:H≤t.length) (hLH:L≤H) (hk2:0≤(t.getD k default).squib∧(t.getD k default).squib≤1000) (hf:∀ c,L≤c→c<H→0≤(t.getD c default).squib∧(t.getD c default).squib≤1000)
 (mono:∀ c d,L≤c→c≤d→d<H→(t.getD c default).squib≤(t.getD d default).squib) :
 ∃ s:Nat,L≤s∧s≤H∧D9 F t k (fun x _=>K x) F L H=K s∧(∀ c,L≤c→c<s→(t.getD c default).squib<(t.getD k default).squib)∧(∀ c,s≤c→c<H→¬ (t.getD c default).squib<(t.getD k default).squib):=by
 obtain⟨s,h1,h2,h3,h4,h5⟩:=A6l (g:=fun n lo hi=>D9 F t k (fun x _=>K x) n lo hi) (P:=fun c=>!decide ((t.getD c default).squib<(t.getD k default).squib)) (K:=K) (L:=L) (H:=H) (fun n lo hi k1 k2 k3=>by
   show D9 F t k (fun x _=>K x) (n+1) lo hi=_
   rw[D9,if_pos oM,A6U oM,I7 (show(lo+hi)/2<t.length by omega),oS,I7 hk,oS,← M5 default (show(lo+hi)/2<t.length by omega),← M5 default hk,A8M (hf _ oM oM) hk2,oS,O9 oM]
   by_cases hc:(t.getD ((lo+hi)/2) default).squib<(t.getD k default).squib
   ·rw[if_pos oM,dT hc,Bool.not_true,if_neg dM]
   ·rw[if_neg oM,dF hc,Bool.not_false,if_pos rfl])
  (fun n s k1 k2=>by show D9 F t k (fun x _=>K x) (n+1) s s=_;rw[D9,if_neg oM])
  (fun c d k1 k2 k3 k4=>by
   have:=mono c d k1 k2 k3
   rw[Bool.not_eq_true',decide_eq_false_iff_not]at k4 ⊢
   omega) F L H oM (Nat.le_refl _) hLH (Nat.le_refl _) (fun c k1 k2=>by omega) fun c k1 k2=>by omega
 refine⟨s,h1,h2,h3,fun c k1 k2=>?_,fun c k1 k2=>?_⟩
 ·have:=h4 c k1 k2
  rw[Bool.not_eq_false',decide_eq_true_iff]at this
  exact this
 ·have:=h5 c k1 k2
  rw[Bool.not_eq_true',decide_eq_false_iff_not]at this
  exact this
theorem sL4 {F:Nat} (hF:1000<F) {t:List A4} (hl:t.length≤400) {k:Nat} (hk:k<t.length) {K:Int→Option (List A4)} {L H:Nat} (hH:H≤t.length) (hLH:L≤H) (hk2:0≤(t.getD k default).squib∧(t.getD k default).squib≤1000) (hf:∀ c,L≤c→c<H→0≤(t.getD c default).squib∧(t.getD c default).squib≤1000)
 (mono:∀ c d,L≤c→c≤d→d<H→(t.getD c default).squib≤(t.getD d default).squib) :
 ∃ s:Nat,L≤s∧s≤H∧E0 F t k (fun x _=>K x) F L H=K s∧(∀ c,L≤c→c<s→¬ (t.getD k default).squib<(t.getD c default).squib)∧(∀ c,s≤c→c<H→(t.getD k default).squib<(t.getD c default).squib):=by
 obtain⟨s,h1,h2,h3,h4,h5⟩:=A6l (g:=fun n lo hi=>E0 F t k (fun x _=>K x) n lo hi) (P:=fun c=>decide ((t.getD k default).squib<(t.getD c default).squib)) (K:=K) (L:=L) (H:=H) (fun n lo hi k1 k2 k3=>by
   show E0 F t k (fun x _=>K x) (n+1) lo hi=_
   rw[E0,if_pos oM,A6U oM,I7 hk,oS,I7 (show(lo+hi)/2<t.length by omega),oS,← M5 default (show(lo+hi)/2<t.length by omega),← M5 default hk,A8M hk2 (hf _ oM oM),oS,O9 oM]
   by_cases hc:(t.getD k default).squib<(t.getD ((lo+hi)/2) default).squib
   ·rw[if_pos oM,dT hc,if_pos rfl]
   ·rw[if_neg oM,dF hc,if_neg dM])
  (fun n s k1 k2=>by show E0 F t k (fun x _=>K x) (n+1) s s=_;rw[E0,if_neg oM])
  (fun c d k1 k2 k3 k4=>by
   have:=mono c d k1 k2 k3
   have k4:=of_decide_eq_true k4
   exact dT oM) F L H oM (Nat.le_refl _) hLH (Nat.le_refl _) (fun c k1 k2=>by omega) fun c k1 k2=>by omega
 exact⟨s,h1,h2,h3,fun c k1 k2=>of_decide_eq_false (h4 c k1 k2),fun c k1 k2=>of_decide_eq_true (h5 c k1 k2)⟩
theorem sL5 {F:Nat} (hF:1000<F) {t:List A4} {o a rv:Nat} (hl:t.length≤400) (ho:o+rv≤1000) (ha:a≤400) {K:Int→Option (List A4)} {L H B:Nat} (hB:B≤t.length) (hH:H≤B) (hLH:L≤H) (hp:∀ c,L≤c→c<H→c+1≤(o+rv)/2+a∧(o+rv)/2+a-1-c<B) (hf:∀ c,c<B→L≤c→0≤(t.getD c default).squib∧(t.getD c default).squib≤1000) (hL:∀ c,L≤c→c<H→L≤(o+rv)/2+a-1-c)
 (mono:∀ c d,L≤c→c≤d→d<H→(t.getD ((o+rv)/2+a-1-c) default).squib<(t.getD c default).squib→(t.getD ((o+rv)/2+a-1-d) default).squib<(t.getD d default).squib) :
 ∃ s:Nat,L≤s∧s≤H∧E1 F t o a rv (fun x _=>K x) F L H=K s∧(∀ c,L≤c→c<s→¬ (t.getD ((o+rv)/2+a-1-c) default).squib<(t.getD c default).squib)∧(∀ c,s≤c→c<H→(t.getD ((o+rv)/2+a-1-c) default).squib<(t.getD c default).squib):=by
 obtain⟨s,h1,h2,h3,h4,h5⟩:=A6l (g:=fun n lo hi=>E1 F t o a rv (fun x _=>K x) n lo hi) (P:=fun c=>decide ((t.getD ((o+rv)/2+a-1-c) default).squib<(t.getD c default).squib)) (K:=K) (L:=L) (H:=H) (fun n lo hi k1 k2 k3=>by
   have hq0:=hp ((lo+hi)/2) oM oM
   have hq:(lo+hi)/2+1≤(o+rv)/2+a∧(o+rv)/2+a-1-(lo+hi)/2<t.length:=⟨hq0.1,by omega⟩
   have hq2:=hL ((lo+hi)/2) oM oM
   have e0:W ((((o+rv)/2:Nat):Int)+(a:Int))=(((o+rv)/2+a:Nat):Int):=by rw[A1p oM oM];omega
   have e1:W ((((o+rv)/2+a:Nat):Int)-1)=(((o+rv)/2+a-1:Nat):Int):=by rw[A1p oM oM];omega
   have e2:W ((((o+rv)/2+a-1:Nat):Int)-(((lo+hi)/2:Nat):Int))=(((o+rv)/2+a-1-(lo+hi)/2:Nat):Int):=by rw[A1p oM oM];omega
   show E1 F t o a rv (fun x _=>K x) (n+1) lo hi=_
   rw[E1,if_pos oM,A6U oM,A6U oM,e0,e1,e2,I7 hq.2,oS,I7 (show(lo+hi)/2<t.length by omega),oS,← M5 default hq.2,← M5 default (show(lo+hi)/2<t.length by omega),A8M (hf _ hq0.2 hq2) (hf _ oM oM),oS,O9 oM]
   by_cases hc:(t.getD ((o+rv)/2+a-1-(lo+hi)/2) default).squib<(t.getD ((lo+hi)/2) default).squib
   ·rw[if_pos oM,dT hc,if_pos rfl]
   ·rw[if_neg oM,dF hc,if_neg dM])
  (fun n s k1 k2=>by show E1 F t o a rv (fun x _=>K x) (n+1) s s=_;rw[E1,if_neg oM])
  (fun c d k1 k2 k3 k4=>dT (mono c d k1 k2 k3 (of_decide_eq_true k4))) F L H oM (Nat.le_refl _) hLH (Nat.le_refl _) (fun c k1 k2=>by omega) fun c k1 k2=>by omega
 exact⟨s,h1,h2,h3,fun c k1 k2=>of_decide_eq_false (h4 c k1 k2),fun c k1 k2=>of_decide_eq_true (h5 c k1 k2)⟩
theorem sL6 {F:Nat} (hF:1000<F) {t:List A4} {o a rv:Nat} (hl:t.length≤400) (ho:o+rv≤1000) (ha:a≤400) {K:Int→Option (List A4)} {L H B:Nat} (hB:B≤t.length) (hH:H≤B) (hLH:L≤H) (hp:∀ c,L≤c→c<H→c+1≤(o+rv)/2+a∧(o+rv)/2+a-1-c<B) (hf:∀ c,c<B→L≤c→0≤(t.getD c default).squib∧(t.getD c default).squib≤1000) (hL:∀ c,L≤c→c<H→L≤(o+rv)/2+a-1-c)
 (mono:∀ c d,L≤c→c≤d→d<H→(t.getD ((o+rv)/2+a-1-c) default).squib<(t.getD c default).squib→(t.getD ((o+rv)/2+a-1-d) default).squib<(t.getD d default).squib) :
 ∃ s:Nat,L≤s∧s≤H∧E2 F t o a rv (fun x _=>K x) F L H=K s∧(∀ c,L≤c→c<s→¬ (t.getD ((o+rv)/2+a-1-c) default).squib<(t.getD c default).squib)∧(∀ c,s≤c→c<H→(t.getD ((o+rv)/2+a-1-c) default).squib<(t.getD c default).squib):=by
 obtain⟨s,h1,h2,h3,h4,h5⟩:=A6l (g:=fun n lo hi=>E2 F t o a rv (fun x _=>K x) n lo hi) (P:=fun c=>decide ((t.getD ((o+rv)/2+a-1-c) default).squib<(t.getD c default).squib)) (K:=K) (L:=L) (H:=H) (fun n lo hi k1 k2 k3=>by
   have hq0:=hp ((lo+hi)/2) oM oM
   have hq:(lo+hi)/2+1≤(o+rv)/2+a∧(o+rv)/2+a-1-(lo+hi)/2<t.length:=⟨hq0.1,by omega⟩
   have hq2:=hL ((lo+hi)/2) oM oM
   have e0:W ((((o+rv)/2:Nat):Int)+(a:Int))=(((o+rv)/2+a:Nat):Int):=by rw[A1p oM oM];omega
   have e1:W ((((o+rv)/2+a:Nat):Int)-1)=(((o+rv)/2+a-1:Nat):Int):=by rw[A1p oM oM];omega
   have e2:W ((((o+rv)/2+a-1:Nat):Int)-(((lo+hi)/2:Nat):Int))=(((o+rv)/2+a-1-(lo+hi)/2:Nat):Int):=by rw[A1p oM oM];omega
   show E2 F t o a rv (fun x _=>K x) (n+1) lo hi=_
   rw[E2,if_pos oM,A6U oM,A6U oM,e0,e1,e2,I7 hq.2,oS,I7 (show(lo+hi)/2<t.length by omega),oS,← M5 default hq.2,← M5 default (show(lo+hi)/2<t.length by omega),A8M (hf _ hq0.2 hq2) (hf _ oM oM),oS,O9 oM]
   by_cases hc:(t.getD ((o+rv)/2+a-1-(lo+hi)/2) default).squib<(t.getD ((lo+hi)/2) default).squib
   ·rw[if_pos oM,dT hc,if_pos rfl]
   ·rw[if_neg oM,dF hc,if_neg dM])
  (fun n s k1 k2=>by show E2 F t o a rv (fun x _=>K x) (n+1) s s=_;rw[E2,if_neg oM])
  (fun c d k1 k2 k3 k4=>dT (mono c d k1 k2 k3 (of_decide_eq_true k4))) F L H oM (Nat.le_refl _) hLH (Nat.le_refl _) (fun c k1 k2=>by omega) fun c k1 k2=>by omega
 exact⟨s,h1,h2,h3,fun c k1 k2=>of_decide_eq_false (h4 c k1 k2),fun c k1 k2=>of_decide_eq_true (h5 c k1 k2)⟩

abbrev Srt (l:List A4):Prop:=l.Pairwise dLt
def Crs (X Y:List A4):Prop:=∀ x∈X,∀ y∈Y,Bef x y
structure Mer (X Y Z:List A4):Prop where
 s:Srt Z
 m:∀ z,z∈Z↔z∈X∨z∈Y
 l:Z.length=X.length+Y.length
theorem Mer.nilR {X:List A4} (h:Srt X):Mer X [] X:=⟨h,by simp,by simp⟩
theorem Mer.nilL {Y:List A4} (h:Srt Y):Mer [] Y Y:=⟨h,by simp,by simp⟩
theorem Mer.join {X1 X2 Y1 Y2 Z1 Z2:List A4} (h1:Mer X1 Y1 Z1) (h2:Mer X2 Y2 Z2) (hx:Srt (X1++X2)) (hy:Srt (Y1++Y2)) (h12:∀ x∈X1,∀ y∈Y2,dLt x y) (h21:∀ y∈Y1,∀ x∈X2,dLt y x):Mer (X1++X2) (Y1++Y2) (Z1++Z2):=by
 refine⟨?_,fun z=>?_,by rw[List.length_append,h1.l,h2.l,List.length_append,List.length_append];omega⟩
 ·replace hx:=List.pairwise_append.1 hx;replace hy:=List.pairwise_append.1 hy
  show(Z1++Z2).Pairwise dLt
  rw[List.pairwise_append]
  refine⟨h1.s,h2.s,fun z hz w hw=>?_⟩
  rcases(h1.m z).1 hz with hz | hz<;>rcases(h2.m w).1 hw with hw | hw
  ·exact hx.2.2 z hz w hw
  ·exact h12 z hz w hw
  ·exact h21 z hz w hw
  ·exact hy.2.2 z hz w hw
 ·rw[List.mem_append,h1.m,h2.m,List.mem_append,List.mem_append]
  constructor
  ·rintro((h | h) | (h | h))
   ·exact .inl (.inl h)
   ·exact .inr (.inl h)
   ·exact .inl (.inr h)
   ·exact .inr (.inr h)
  ·rintro((h | h) | (h | h))
   ·exact .inl (.inl h)
   ·exact .inr (.inl h)
   ·exact .inl (.inr h)
   ·exact .inr (.inr h)
theorem B2d {x y:A4} (hb:Bef x y) (h:¬ y.squib<x.squib):dLt x y:=by
 unfold Bef at hb
 unfold dLt
 by_cases he:x.squib=y.squib
 ·exact .inr ⟨he,hb he⟩
 ·exact .inl oM
theorem Srt.get {X:List A4} (h:Srt X) {i j:Nat} (hij:i<j) (hj:j<X.length):dLt (X.getD i default) (X.getD j default):=by
 rw[M5 default oM,M5 default hj]
 exact List.pairwise_iff_getElem.1 h i j oM hj hij
theorem Srt.le {X:List A4} (h:Srt X) {i j:Nat} (hij:i≤j) (hj:j<X.length):(X.getD i default).squib≤(X.getD j default).squib:=by
 by_cases he:i=j
 ·rw[he];exact Int.le_refl _
 ·have:=h.get (show i<j by omega) hj
  unfold dLt at this
  omega
theorem B3Y {A X Y C:List A4} {c:Nat} (h1:A.length≤c) (h2:c<A.length+X.length):(A++(X++(Y++C))).getD c default=X.getD (c-A.length) default:=by
 rw[List.getD_eq_getElem?_getD,List.getElem?_append_right h1,List.getElem?_append_left oM,← List.getD_eq_getElem?_getD]
theorem B3Z {A X Y C:List A4} {c:Nat} (h1:A.length+X.length≤c) (h2:c<A.length+X.length+Y.length):(A++(X++(Y++C))).getD c default=Y.getD (c-A.length-X.length) default:=by
 rw[List.getD_eq_getElem?_getD,List.getElem?_append_right oM,List.getElem?_append_right oM,List.getElem?_append_left oM,← List.getD_eq_getElem?_getD]
theorem A49 {X:List A4} {i:Nat} (h:i<X.length):X.getD i default∈X:=by rw[M5 default h];exact List.getElem_mem h
theorem A3A {X:List A4} {n:Nat} {x:A4} (h:x∈X.take n):∃ i,i<n∧i<X.length∧x=X.getD i default:=by
 obtain⟨i,hi⟩:=List.getElem?_of_mem h
 rw[List.getElem?_take]at hi
 split at hi
 ·rename_i hn
  have hl:=(List.getElem?_eq_some_iff.1 hi).1
  exact⟨i,hn,hl,by rw[List.getD_eq_getElem?_getD,hi];rfl⟩
 ·cases hi
theorem A39 {X:List A4} {n:Nat} {x:A4} (h:x∈X.drop n):∃ i,n≤i∧i<X.length∧x=X.getD i default:=by
 obtain⟨i,hi⟩:=List.getElem?_of_mem h
 rw[List.getElem?_drop]at hi
 have hl:=(List.getElem?_eq_some_iff.1 hi).1
 exact⟨n+i,by omega,hl,by rw[List.getD_eq_getElem?_getD,hi];rfl⟩
end Go.Proofs.YthcnganbnbhhoaaGreat
