/- The plain part of pad.Do, to its end. -/
import Derived.Test.YtlaogbbcipebgaaGreatQ1
set_option linter.unusedVariables false
set_option linter.unusedSimpArgs false
open Go Go.Proofs.YtlaogbbcipebgaaGreat.Sh Go.Proofs
namespace Go.Proofs.YtlaogbbcipebgaaGreat
def B79 (p:D5) (s:C3) (a:D2):Except Int C3 :=
 if a.kind=1 then B7I p s a else if a.kind=2 then B8p p s a else if a.kind=3 then B9T p s a else if a.kind=4 then B74 p s a else if a.kind=5 then B97 p s a else if a.kind=6 then B2B p s a else if a.kind=7 then B73 p s a else if a.kind=8 then B5y p s a else B16 s a
def B4L (t:Int):Except Int C3→Except Int C3
 | .ok s => .ok {s with now:=t}
 | .error e => .error e
def B1Q (p:D5) (s:C3) (a:D2):Except Int C3:=if a.at_<s.now then .error 170 else B4L a.at_ (B79 p s a)
def A87:C3:=⟨0,[],[],[],0,false⟩
def C0d:Except Int C3→C3 × Int
 | .ok s=>(s,0)
 | .error e=>(A87,e)
theorem A6X {F:Nat} {p:D5} {a:D2} (r:Except Int C3):exE (scR p r) (fun x=>some ((C3.mk 0 ([]:List Int) ([]:List Int) ([]:List Int) 0 false),x)) (fun v2=>A1J F a v2.O0 v2.V4 v2.O3 v2.A0r v2.O4 v2.X3 v2.A0s v2.N7 v2.A9 v2.A8 v2.A4 v2.I3 v2.I1)=some (C0d (B4L a.at_ r)):=by
 cases r<;>rfl
theorem B6I {F:Nat} {p:D5} {s:C3} {a:D2} (h:A5X F p s a):A9J F p s a=some (C0d (B1Q p s a)):=by
 rw[A9J,A9l h.hs,oS]
 show((J4 F (decide (s.now≤a.at_)) 170).bind _)=_
 rw[Y8]
 unfold B1Q B79
 by_cases ht:a.at_<s.now
 ·rw[if_pos ht,show decide (s.now≤a.at_)=false from dF oM];rfl
 rw[if_neg ht,show decide (s.now≤a.at_)=true from dT oM,cT]
 rcases h.a.k with k | k | k | k | k | k | k | k | k<;>simp only[k,Int.reduceEq,if_true,if_false]
 ·rw[B8J h k,oS];exact A6X _
 ·rw[B9o h k,oS];exact A6X _
 ·rw[B9U h k,oS];exact A6X _
 ·rw[B8G h k,oS];exact A6X _
 ·rw[B98 h k,oS];exact A6X _
 ·rw[B6w h k,oS];exact A6X _
 ·rw[B8D h k,oS];exact A6X _
 ·rw[B8j h k,oS];exact A6X _
 ·rw[B50 h,oS];exact A6X _
def Rm (o:Option (C3 × Int × C3)) (s:C3) (r:Except Int C3):Prop :=
 ∃ x e m,o=some (x,e,m)∧(m.zones.length=s.zones.length∧m.holder.length=s.holder.length∧m.squibs.length=s.squibs.length) ∧
  match r with
  | .ok s'=>e=0∧s'={x with zones:=m.zones,holder:=m.holder,squibs:=m.squibs}
  | .error e'=>e=e'∧e'≠0
theorem Rm.bif {b:Bool} {o1 o2:Option (C3 × Int × C3)} {s:C3} {r1 r2:Except Int C3} (h1:b=true→Rm o1 s r1) (h2:b=false→Rm o2 s r2):Rm (bif b then o1 else o2) s (bif b then r1 else r2):=by
 cases b with
 | true=>exact h1 rfl
 | false=>exact h2 rfl
theorem Rm.err {s x m:C3} {e:Int} (h1:m.zones.length=s.zones.length:=by simp) (h2:m.holder.length=s.holder.length:=by simp) (h3:m.squibs.length=s.squibs.length:=by simp) (he:e≠0:=by decide):Rm (some (x,e,m)) s (.error e):=⟨x,e,m,rfl,⟨h1,h2,h3⟩,rfl,he⟩
theorem Rm.ok {s x m s':C3} (hs:s'={x with zones:=m.zones,holder:=m.holder,squibs:=m.squibs}) (h1:m.zones.length=s.zones.length:=by simp) (h2:m.holder.length=s.holder.length:=by simp) (h3:m.squibs.length=s.squibs.length:=by simp):Rm (some (x,0,m)) s (.ok s'):=⟨x,0,m,rfl,⟨h1,h2,h3⟩,rfl,hs⟩
theorem Rm.of {o o':Option (C3 × Int × C3)} {s:C3} {r r':Except Int C3} (h:Rm o s r) (ho:o'=o) (hr:r'=r):Rm o' s r':=by
 subst ho hr;exact h
theorem C9O (p q:Prop) [Decidable p] [Decidable q] (h:p↔¬ q):decide p=!decide q:=by
 by_cases hq:q
 ·rw[dT hq,dF (fun hp=>h.1 hp hq)];rfl
 ·rw[dF hq,dT (h.2 hq)];rfl
theorem D2h {F:Nat} {p:D5} {s:C3} {a:D2} (h:A5X F p s a) {x:Nat} (hx:x<p.squibs.length) (c:Option (C3 × Int × C3)):C5K F p s a x (fun _=>c) F 0=bif decide (s.squibs.getD x 0=1)&&(p.squibs.getD x default).keys.any (fun e=>decide (a.what=e))then some (s,177,s)else c:=by
 have hF:=h.h.f
 have hx':x<s.squibs.length:=by have:=h.f.lq;omega
 have hk:=B3K h.o (List.getElem_mem hx)
 have:=A4H (g:=fun n y=>C5K F p s a x (fun _=>c) n y) (f:=fun k=>!(decide (s.squibs.getD x 0=1)&&decide (a.what=p.squibs[x].keys.getD k 0))) (len:=p.squibs[x].keys.length) (c:=c) (fl:=some (s,177,s)) (fun n k hk'=>by
  rw[C5K,H3 hx,oS,if_pos oM,H3 hx',oS,H3 hk',oS,C81,S0 oM,J6 _ hx',J6 _ hk']
  simp only[A4e]
  rw[show decide (p.squibs[x].keys[k]=a.what)=decide (a.what=p.squibs[x].keys[k]) by rw[decide_eq_decide];exact eq_comm]
  cases decide (s.squibs[x]=1)<;>cases decide (a.what=p.squibs[x].keys[k])<;>rfl) (fun n=>by rw[C5K,H3 hx,oS,if_neg oM]) F 0 oM oM
 rw[z0]at this
 refine this.trans ?_
 rw[Nat.sub_zero,J6 _ hx]
 have e:=A93 p.squibs[x].keys 0 (fun e=>!(decide (s.squibs.getD x 0=1)&&decide (a.what=e)))
 rw[e,B86]
 cases decide (s.squibs.getD x 0=1)
 ·rw[show(p.squibs[x].keys.any fun e=>false&&decide (a.what=e))=false from List.any_eq_false.2 sM];rfl
 ·simp only[Bool.true_and]
  cases(p.squibs[x].keys.any fun e=>decide (a.what=e))<;>rfl
theorem D2i {F:Nat} {p:D5} {s:C3} {a:D2} (h:A5X F p s a) (c:Option (C3 × Int × C3)):C6K F p s a (fun _=>c) F 0=bif B27 p s (fun q=>q.keys.any (fun e=>decide (a.what=e)))then some (s,177,s)else c:=by
 have hF:=h.h.f
 have hq6:=h.o.q6
 have hlq:=h.f.lq
 have:=A4H (g:=fun n y=>C6K F p s a (fun _=>c) n y) (f:=fun k=>!(decide (s.squibs.getD k 0=1)&&(p.squibs.getD k default).keys.any (fun e=>decide (a.what=e)))) (len:=p.squibs.length) (c:=c) (fl:=some (s,177,s)) (fun n k hk=>by
  rw[C6K,if_pos oM,D2h h hk,S0 oM]
  cases decide (s.squibs.getD k 0=1)&&(p.squibs.getD k default).keys.any (fun e=>decide (a.what=e))<;>rfl) (fun n=>by rw[C6K,if_neg oM]) F 0 oM oM
 rw[z0]at this
 refine this.trans ?_
 unfold B27
 rw[Nat.sub_zero,hlq]
 cases(List.range' 0 p.squibs.length).all (fun k=>!(decide (s.squibs.getD k 0=1)&&(p.squibs.getD k default).keys.any (fun e=>decide (a.what=e))))<;>rfl
theorem D05 {F:Nat} {p:D5} {s:C3} {a:D2} (h:A5X F p s a) (k:a.kind=2∨a.kind=3∨a.kind=4):Rm (C9j F p s a) s (B79 p s a):=by
 obtain⟨i,ei,hi,hi'⟩:=h.who
 obtain⟨j,ej,hj,hj'⟩:=h.key k
 have hg:=D0H h.f j
 rw[C9j,ei,B0x hi',oS]
 simp only[ej,A9C hj',oS,A31,D2i h]
 unfold B79
 rcases k with k | k | k<;>simp only[k,Int.reduceEq,if_true,if_false]
 ·unfold B8p dm atP
  rw[ei,ej]
  simp only[A4e]
  refine Rm.bif (fun _=>?_) (fun _ => .err)
  rw[show B3H s (j:Int)=!decide (s.holder.getD (j:Int).toNat (-1) = -1)from C9O _ _ (by rw[tN];omega),Bool.not_not]
  refine Rm.bif (fun _=>?_) (fun _ => .err)
  rw[Bool.cond_not]
  exact Rm.bif (fun _ => .err) (fun _ => .ok rfl)
 ·unfold B9T dm atP
  rw[ei,ej]
  simp only[A4e]
  exact Rm.bif (fun _=>Rm.bif (fun _ => .ok rfl) (fun _ => .err)) (fun _ => .err)
 ·have hw:=h.a.give k
  have hl:=h.f.lz
  obtain⟨m,em⟩:∃ m:Nat,a.with_=m:=⟨a.with_.toNat,by omega⟩
  have hm:m<s.zones.length:=by omega
  have hz:s.zones.getD (i:Int).toNat 0<p.zones.length:=by rw[tN,J6 _ hi'];exact(h.f.z _ (List.getElem_mem hi')).2
  have hk:=C90 h.h h.o (A6f h.f (j:Int) (v:=(m:Int)) oM) i hz
  unfold B74 dm
  rw[ei,ej,em,B0x hm]
  simp only[oS]
  have e:∀ c:Option (C3 × Int × C3),(if s.zones.getD (i:Int).toNat 0=p.panel then c else c)=c:=fun c=>by split<;>rfl
  rw[e]
  simp only[A4e]
  refine Rm.bif (fun _=>Rm.bif (fun _=>?_) (fun _ => .err)) (fun _ => .err)
  show Rm ((C8j F p (A6g s j m) i (s.zones.getD (i:Int).toNat 0)).bind _) s _
  rw[hk,oS]
  simp only[A0q]
  exact Rm.bif (fun _ => .ok rfl) (fun _ => .err)
theorem C9N {F:Nat} {p:D5} {s:C3} {a:D2} (h:A5X F p s a) (k:a.kind=5∨a.kind=6∨a.kind=7):Rm (C8u F p s a) s (B79 p s a):=by
 obtain⟨i,ei,hi,hi'⟩:=h.who
 obtain⟨j,ej,hj,hj'⟩:=h.squib k
 have ht:=h.a.t
 have hsi:=h.f.siren
 have hn:=h.f.now
 have hgr:A9B p a=!decide ((p.people.getD a.who.toNat default).grade<(p.squibs.getD a.what.toNat default).grade):=C9O _ _ oM
 rw[C8u,ei,B0x hi',B1Y hi,ej,C03 hj]
 simp only[oS,C7T,C7R,C7Q,C7P,ej,B0Q hj',A31,D00 h.h h.o h.f hj,A8K (x:=a.at_-s.siren)]
 unfold B79
 rcases k with k | k | k<;>simp only[k,Int.reduceEq,if_true,if_false]
 ·unfold B97 dm atP
  rw[hgr,ei,ej]
  simp only[A4e,A0q,B3O,Bool.cond_not]
  refine Rm.bif (fun _=>?_) (fun _ => .err)
  refine Rm.bif (fun _ => .err) (fun _=>?_)
  refine Rm.bif (fun _=>?_) (fun _ => .err)
  refine Rm.bif (fun _ => .err) (fun _=>?_)
  rw[tN,J6 _ hj]
  refine Rm.bif (fun _=>?_) (fun _ => .err)
  unfold B6i
  rw[show decide (0≤s.siren)=!decide (s.siren<0)from C9O _ _ oM,show decide (p.wait≤a.at_-s.siren)=!decide (a.at_-s.siren<p.wait)from C9O _ _ oM]
  cases decide (s.siren<0)with
  | true=>exact .err
  | false =>
   cases decide (a.at_-s.siren<p.wait)with
   | true=>exact .err
   | false=>exact .ok rfl
 ·unfold B2B dm atP
  rw[ei,ej]
  simp only[A4e]
  exact Rm.bif (fun _=>Rm.bif (fun _ => .ok rfl) (fun _ => .err)) (fun _ => .err)
 ·unfold B73 dm atP
  rw[hgr,ei,ej]
  simp only[A4e,Bool.cond_not]
  refine Rm.bif (fun _=>?_) (fun _ => .err)
  exact Rm.bif (fun _ => .err) (fun _=>Rm.bif (fun _ => .ok rfl) (fun _ => .err))
theorem D2k {F:Nat} {p:D5} {s:C3} {a:D2} (h:A5X F p s a) (c:List Int→Option (C3 × Int × C3)):C3X F a (fun rv _=>c rv) F s.squibs 0=c (bif decide (a.what=1)then A4x s.squibs else s.squibs):=by
 have h1:=h.h.f
 have h2:=h.o.q6
 have h3:=h.f.lq
 by_cases hw:a.what=1
 ·rw[dT hw,cT]
  have:=A5I (σ:=List Int) (g:=fun n l x=>C3X F a (fun rv _=>c rv) n l x) (len:=s.squibs.length) (f:=fun _ k=>(A4x s.squibs).take (k+1)++s.squibs.drop (k+1)) (c:=c) (fun l k=>l=(A4x s.squibs).take k++s.squibs.drop k) (fun l k _ _=>rfl) (fun n l k hk hl=>by
   have hix:P3 l (k:Int)=some s.squibs[k]:=by
    unfold P3
    rw[if_pos oM,tN,hl,B5W _ _ hk]
   have hll:l.length=s.squibs.length:=by rw[hl];simp[A4x];omega
   rw[C3X,if_pos oM,if_pos (by simp[hw]),hix,oS,A31,oS,C5Q,C5Q,S0 oM,← B6O _ _ hk,← hl]
   by_cases h0:s.squibs[k]=1
   ·rw[if_pos h0,dT h0];rfl
   ·rw[if_neg h0,dF h0,cF]
    congr 1
    apply List.ext_getElem?
    intro m
    rw[List.getElem?_set]
    by_cases hm:k=m
    ·subst hm
     rw[if_pos rfl,hl,B5W _ _ hk,if_pos (by simp[A4x];omega)]
    ·rw[if_neg hm]) (fun n l hl=>by rw[C3X,if_neg (by rw[hl];simp[A4x])]) F s.squibs 0 sM oM oM
  rw[z0]at this
  refine this.trans ?_
  rw[Nat.sub_zero]
  cases hn:s.squibs.length with
  | zero =>
   have:s.squibs=[]:=List.eq_nil_of_length_eq_zero hn
   rw[this];rfl
  | succ m =>
   rw[List.range'_1_concat,List.foldl_append]
   simp only[List.foldl_cons,List.foldl_nil,Nat.zero_add]
   rw[List.take_of_length_le (by simp[A4x];omega),lL oM,List.append_nil]
 ·rw[dF hw,cF]
  have:=A5I (σ:=List Int) (g:=fun n l x=>C3X F a (fun rv _=>c rv) n l x) (len:=s.squibs.length) (f:=fun l _=>l) (c:=c) (fun l _=>l=s.squibs) (fun l k _ hl=>hl) (fun n l k hk hl=>by
   rw[C3X,if_pos (by rw[hl];omega),if_neg (by simp[hw]),C5Q,S0 oM]) (fun n l hl=>by rw[C3X,if_neg (by rw[hl];omega)]) F s.squibs 0 rfl oM oM
  rw[z0]at this
  refine this.trans ?_
  congr 1
  generalize List.range' 0 (s.squibs.length-0)=r
  induction r with
  | nil=>rfl
  | cons x r ih=>exact ih
theorem D2l {F:Nat} {p:D5} {s:C3} {a:D2} (h:A5X F p s a) (hw:a.what=0∨a.what=1) (c:Option (C3 × Int × C3)):C4u F s a (fun _=>c) F 0=bif decide (a.what=1) || !B27 p s (fun _=>true)then c else some (s,179,s):=by
 have h1:=h.h.f
 have h2:=h.o.q6
 have h3:=h.f.lq
 have:=A4H (g:=fun n y=>C4u F s a (fun _=>c) n y) (f:=fun k=>decide (a.what=1) || !(decide (s.squibs.getD k 0=1)&&true)) (len:=s.squibs.length) (c:=c) (fl:=some (s,179,s)) (fun n k hk=>by
  rw[C4u,if_pos oM,H3 hk,oS,C70,S0 oM,J6 _ hk]
  rcases hw with hw | hw<;>simp only[hw,A4e]
  all_goals cases decide (s.squibs[k]=1)<;>rfl) (fun n=>by rw[C4u,if_neg oM]) F 0 oM oM
 rw[z0]at this
 refine this.trans ?_
 unfold B27
 rw[Nat.sub_zero]
 cases decide (a.what=1)
 ·simp only[Bool.false_or,Bool.not_not]
 ·have e:((List.range' 0 s.squibs.length).all fun k=>true || !(decide (s.squibs.getD k 0=1)&&true))=true:=List.all_eq_true.2 fun _ _=>rfl
  rw[e];rfl
theorem D18 {F:Nat} {p:D5} {s:C3} {a:D2} (h:A5X F p s a) (k:a.kind=8∨a.kind=9):Rm (C83 F p s a) s (B79 p s a):=by
 obtain⟨i,ei,hi,hi'⟩:=h.who
 have hw:=h.a.sig k
 rw[C83,ei,B0x hi',oS,D2k h,D2l h hw]
 unfold B79
 rcases k with k | k<;>simp only[k,Int.reduceEq,if_true,if_false]
 ·unfold B5y dm atP
  rw[ei]
  simp only[A4e,A0q,C73]
  refine Rm.bif (fun _=>?_) (fun _ => .err)
  rw[show(decide (0≤s.siren) != decide (a.what=1))=!(decide (0≤s.siren)==decide (a.what=1))from rfl,Bool.cond_not]
  refine Rm.bif (fun _ => .err) (fun _=>Rm.bif (fun _=>?_) (fun _ => .err))
  cases decide (a.what=1)<;>exact .ok rfl
 ·unfold B16 dm
  simp only[A4e,A0q]
  rw[show(s.storm != decide (a.what=1))=!(s.storm==decide (a.what=1))from rfl,Bool.cond_not]
  refine Rm.bif (fun _ => .err) (fun _ => .ok rfl sM sM ?_)
  cases decide (a.what=1)<;>simp[A4x]
theorem D26 {α:Type} (l:List α) (f g:α→Bool):(l.any f||l.any g)=l.any (fun x=>f x||g x):=by
 induction l with
 | nil=>rfl
 | cons x l ih =>
  simp only[List.any_cons,← ih]
  cases f x<;>cases g x<;>cases l.any f<;>rfl
theorem D1x {F:Nat} {p:D5} (h:A5x F p) (hd:p.doors.length≤24) (a b:Int):D0q F p a b=some (B9t p a b):=by
 have hF:=h.f
 have:=A4H (g:=fun n y=>C6D F p a b (fun _=>some false) n y) (f:=fun k=>!(G6.beq ⟨a,b⟩ (p.doors.getD k default)||G6.beq ⟨b,a⟩ (p.doors.getD k default))) (len:=p.doors.length) (c:=some false) (fl:=some true) (fun n k hk=>by
  rw[C6D,if_pos oM,H3 hk,oS,C8n,C85,S0 oM,J6 _ hk]
  unfold G6.beq
  simp only[A4e]
  have e:∀ x y:Int,(x==y)=decide (y=x):=fun x y=>by
   rw[Bool.eq_iff_iff,beq_iff_eq,decide_eq_true_iff];exact eq_comm
  simp only[e]
  cases decide (p.doors[k].a=a)<;>cases decide (p.doors[k].b=b)<;>cases decide (p.doors[k].a=b)<;>cases decide (p.doors[k].b=a)<;>rfl) (fun n=>by rw[C6D,if_neg oM]) F 0 oM oM
 rw[z0]at this
 refine this.trans ?_
 unfold B9t
 rw[D26,Nat.sub_zero,A93 p.doors default (fun d=>!(G6.beq ⟨a,b⟩ d||G6.beq ⟨b,a⟩ d)),B86]
 cases(p.doors.any fun d=>G6.beq ⟨a,b⟩ d||G6.beq ⟨b,a⟩ d)<;>rfl
theorem D0e {F:Nat} {p:D5} {s:C3} (h:A5x F p) (ho:A6x p) (hf:A2l p s) {i:Nat} (hi:i<p.people.length) {z:Int} (hz:z<p.zones.length):C9h F p s i z=some (A1q p s i z):=by
 have hF:=h.f
 have hq6:=ho.q6
 rw[C9h]
 unfold A1q
 by_cases h0:z<0
 ·rw[if_pos h0,dT h0];rfl
 obtain⟨j,rfl⟩:∃ j:Nat,z=j:=⟨z.toNat,by omega⟩
 have hj:j<p.zones.length:=by omega
 have hJ:C8q F p s i j=some (bif A6n p s i j then 0 else 174):=by
  rw[C8q,C90 h ho hf i hz,oS]
  cases A6n p s i j<;>rfl
 have hL:C5L F p s j (fun _=>C8q F p s i j) F 0=some (bif s.storm&&B03 p s (p.zones.getD (j:Int).toNat default)then 173 else bif A6n p s i j then 0 else 174):=by
  rw[hJ]
  cases hs:s.storm with
  | false =>
   obtain⟨m,rfl⟩:∃ m,F=m+1:=⟨F-1,by omega⟩
   rw[C5L,if_neg (show ¬ s.storm=true by rw[hs];simp)]
   split<;>rfl
  | true =>
   have:=A4H (g:=fun n y=>C5L F p s j (fun _=>some (bif A6n p s i j then(0:Int)else 174)) n y) (f:=fun k=>decide (s.squibs.getD k 0=2) || !A5r (p.zones.getD (j:Int).toNat default) (p.squibs.getD k default)) (len:=p.squibs.length) (c:=some (bif A6n p s i j then(0:Int)else 174)) (fl:=some 173) (fun n k hk=>by
    have hk':k<s.squibs.length:=by have:=hf.lq;omega
    rw[C5L,if_pos oM,if_pos hs,C8U,H3 hk',oS,C9K hj hk,oS,C8C,S0 oM,J6 _ hk',J6 _ hk,tN,J6 _ hj]
    simp only[A4e,A0q]
    cases decide (s.squibs[k]=2)<;>cases A5r p.zones[j] p.squibs[k]<;>rfl) (fun n=>by rw[C5L,if_neg oM]) F 0 oM oM
   rw[z0]at this
   refine this.trans ?_
   unfold B03
   rw[Nat.sub_zero]
   cases((List.range' 0 p.squibs.length).all fun k=>decide (s.squibs.getD k 0=2) || !A5r (p.zones.getD (j:Int).toNat default) (p.squibs.getD k default))<;>rfl
 rw[if_neg h0,dF h0,cF,B1Y hi,oS,B77 hj,oS,hL,A4e]
 cases decide ((p.people.getD (i:Int).toNat default).grade<(p.zones.getD (j:Int).toNat default).grade)<;>rfl
theorem D1E {F:Nat} {p:D5} {s:C3} {a:D2} (h:A5X F p s a) (k:a.kind=1):Rm (C8Q F p s a) s (B79 p s a):=by
 obtain⟨i,ei,hi,hi'⟩:=h.who
 have hw:=h.a.move k
 have hl:=h.f.lz
 have hz:=h.a.zone k
 have hz2:s.zones.getD i 0<p.zones.length:=by rw[J6 _ hi'];exact(h.f.z _ (List.getElem_mem hi')).2
 have hs:=B0k h.hs (B3u s a)
 have hlen:∀ A:List Int,A.length=s.zones.length→({s with zones:=A}:C3).zones.length=s.zones.length:=fun A hA=>hA
 have hJ4:Rm (C74 F p s a (s.zones.getD i 0) (A0y s a)) s (dm (!A3X p (Z2 s (A0y s a)) a.what && !A3X p (Z2 s (A0y s a)) (s.zones.getD i 0)) 176 (.ok (Z2 s (A0y s a)))):=by
  have he:Rm (C7k F s (A0y s a)) s (.error 176) := .err (B3u s a)
  have hk:Rm (C5f F s (A0y s a)) s (.ok (Z2 s (A0y s a))) := .ok rfl (B3u s a)
  have m1:∀ z,C82 F ({s with zones:=A0y s a}) z=some (A6W (Z2 s (A0y s a)) z:Int):=fun z=>C9J hs z
  have d1:∀ z,decide (((A6W (Z2 s (A0y s a)) z:Nat):Int)=1)=decide (A6W (Z2 s (A0y s a)) z=1):=fun z=>by rw[decide_eq_decide];omega
  rw[C74]
  unfold dm A3X
  generalize s.zones.getD i 0=f at hz2
  by_cases h0:0≤a.what
  ·obtain⟨j,ej⟩:∃ j:Nat,a.what=j:=⟨a.what.toNat,by omega⟩
   have hj:j<p.zones.length:=by omega
   by_cases h1:0≤f
   ·obtain⟨m,rfl⟩:∃ m:Nat,f=m:=⟨f.toNat,by omega⟩
    have hm:m<p.zones.length:=by omega
    simp only[if_pos h0,if_pos h1,dT h0,dT h1,ej,B77 hj,B77 hm,oS,m1,A4e,A0q,d1,Bool.true_and]
    cases(p.zones.getD (j:Int).toNat default).pair<;>cases decide (A6W (Z2 s (A0y s a)) (j:Int)=1)<;>cases(p.zones.getD (m:Int).toNat default).pair<;>cases decide (A6W (Z2 s (A0y s a)) (m:Int)=1)<;>first | exact hk | exact he
   ·simp only[if_pos h0,if_neg h1,dT h0,dF h1,ej,B77 hj,oS,m1,A4e,A0q,d1,Bool.true_and,Bool.false_and]
    cases(p.zones.getD (j:Int).toNat default).pair<;>cases decide (A6W (Z2 s (A0y s a)) (j:Int)=1)<;>first | exact hk | exact he
  ·by_cases h1:0≤f
   ·obtain⟨m,rfl⟩:∃ m:Nat,f=m:=⟨f.toNat,by omega⟩
    have hm:m<p.zones.length:=by omega
    simp only[if_neg h0,if_pos h1,dF h0,dT h1,B77 hm,oS,m1,A4e,A0q,d1,Bool.true_and,Bool.false_and]
    cases(p.zones.getD (m:Int).toNat default).pair<;>cases decide (A6W (Z2 s (A0y s a)) (m:Int)=1)<;>first | exact hk | exact he
   ·simp only[if_neg h0,if_neg h1,dF h0,dF h1,Bool.false_and]
    exact hk
 have hJ5:Rm (C76 F p s a (s.zones.getD i 0) (A0y s a)) s (dm (!B5E p (Z2 s (A0y s a)) a.what) 175 (dm (!A3X p (Z2 s (A0y s a)) a.what && !A3X p (Z2 s (A0y s a)) (s.zones.getD i 0)) 176 (.ok (Z2 s (A0y s a))))):=by
  rw[C76]
  unfold B5E
  by_cases h0:0≤a.what
  ·obtain⟨j,ej⟩:∃ j:Nat,a.what=j:=⟨a.what.toNat,by omega⟩
   have hj:j<p.zones.length:=by omega
   have m1:=C9J (F:=F) hs a.what
   rw[if_pos h0,dT h0]
   show Rm ((C82 F (Z2 s (A0y s a)) a.what).bind _) s _
   rw[m1,oS,ej,B77 hj,oS,← ej,A4e,Bool.true_and]
   generalize hr:dm (!A3X p (Z2 s (A0y s a)) a.what && !A3X p (Z2 s (A0y s a)) (s.zones.getD i 0)) 176 (.ok (Z2 s (A0y s a)))=r at hJ4
   unfold dm
   rw[Bool.cond_not]
   exact Rm.bif (fun _ => .err (B3u s a)) (fun _=>hJ4)
  ·rw[if_neg h0,dF h0]
   exact hJ4
 have hJ6:∀ x:Int,x=c2E p s a→Rm (C6M F p s a (s.zones.getD i 0) x) s (dm (decide (c2E p s a=0)) (c2E p s a) (dm (!B5E p (Z2 s (A0y s a)) a.what) 175 (dm (!A3X p (Z2 s (A0y s a)) a.what && !A3X p (Z2 s (A0y s a)) (s.zones.getD i 0)) 176 (.ok (Z2 s (A0y s a)))))):=fun x hx=>by
  subst hx
  rw[C6M,A4e]
  generalize hr:dm (!B5E p (Z2 s (A0y s a)) a.what) 175 (dm (!A3X p (Z2 s (A0y s a)) a.what && !A3X p (Z2 s (A0y s a)) (s.zones.getD i 0)) 176 (.ok (Z2 s (A0y s a))))=r at hJ5
  unfold dm
  refine Rm.bif (fun _=>?_) (fun hb => .err rfl rfl rfl (of_decide_eq_false hb))
  refine Rm.of hJ5 ?_ rfl
  rw[ei,A31,oS]
  unfold A0y
  by_cases h0:0≤a.with_
  ·obtain⟨m,em⟩:∃ m:Nat,a.with_=m:=⟨a.with_.toNat,by omega⟩
   have hm:m<s.zones.length:=by omega
   rw[if_pos h0,dT h0,em,H3 (by simp;omega),oS,A31,oS,ei]
   rfl
  ·rw[if_neg h0,dF h0,ei]
   rfl
 have hJ7:Rm (C77 F p s a (s.zones.getD i 0)) s (dm (decide (A1q p s a.who a.what=0)) (A1q p s a.who a.what) (dm (decide (c2E p s a=0)) (c2E p s a) (dm (!B5E p (Z2 s (A0y s a)) a.what) 175 (dm (!A3X p (Z2 s (A0y s a)) a.what && !A3X p (Z2 s (A0y s a)) (s.zones.getD i 0)) 176 (.ok (Z2 s (A0y s a))))))):=by
  rw[C77,ei,D0e h.h h.o h.f hi hz.2,oS,A4e]
  generalize hr:dm (decide (c2E p s a=0)) (c2E p s a) (dm (!B5E p (Z2 s (A0y s a)) a.what) 175 (dm (!A3X p (Z2 s (A0y s a)) a.what && !A3X p (Z2 s (A0y s a)) (s.zones.getD i 0)) 176 (.ok (Z2 s (A0y s a)))))=r at hJ6
  unfold dm
  refine Rm.bif (fun hb=>?_) (fun hb=>?_)
  ·by_cases h0:0≤a.with_
   ·obtain⟨m,em⟩:∃ m:Nat,a.with_=m:=⟨a.with_.toNat,by omega⟩
    have hm:m<p.people.length:=by omega
    rw[if_pos h0,em,D0e h.h h.o h.f hm hz.2,oS]
    refine hJ6 _ ?_
    unfold c2E
    rw[dT h0,em];rfl
   ·rw[if_neg h0]
    refine hJ6 _ ?_
    unfold c2E
    rw[dF h0]
    exact of_decide_eq_true hb
  ·rw[C6M,if_neg (of_decide_eq_false hb)]
   exact .err rfl rfl rfl (of_decide_eq_false hb)
 rw[C8Q,ei,H3 hi',oS,← J6 0 hi',D1x h.h h.o.d24,oS]
 unfold B79
 rw[if_pos k]
 unfold B7I
 rw[ei,tN]
 rw[ei]at hJ7
 generalize hr:dm (decide (A1q p s (i:Int) a.what=0)) (A1q p s (i:Int) a.what) (dm (decide (c2E p s a=0)) (c2E p s a) (dm (!B5E p (Z2 s (A0y s a)) a.what) 175 (dm (!A3X p (Z2 s (A0y s a)) a.what && !A3X p (Z2 s (A0y s a)) (s.zones.getD i 0)) 176 (.ok (Z2 s (A0y s a))))))=r at hJ7
 unfold dm
 by_cases h0:0≤a.with_
 ·obtain⟨m,em⟩:∃ m:Nat,a.with_=m:=⟨a.with_.toNat,by omega⟩
  have hm:m<s.zones.length:=by omega
  rw[if_pos h0,dT h0,em,B0x hm,oS]
  simp only[A4e,A0q,Bool.not_true,Bool.false_or]
  cases B9t p (s.zones.getD i 0) a.what
  ·exact .err
  ·cases decide (s.zones.getD (m:Int).toNat 0=s.zones.getD i 0)
   ·exact .err
   ·exact hJ7
 ·rw[if_neg h0,dF h0]
  simp only[A4e,A0q,Bool.not_false,Bool.true_or,Bool.and_true]
  exact Rm.bif (fun _=>hJ7) (fun _ => .err)
theorem D2c {F:Nat} {s:C3} (h1:s.zones.length≤1000000) (h2:s.holder.length≤1000000) (h3:s.squibs.length≤1000000):C9A F s=some s:=by
 have e:∀ l:List Int,l.length≤1000000→A8i ([]:List Int) l=some l:=fun l hl=>by
  unfold A8i
  rw[if_pos (by simp;omega)];rfl
 rw[C9A,e _ h1,e _ h2,e _ h3]
 rfl
theorem C8e {F:Nat} {a:D2} {s:C3} {o:Option (C3 × Int × C3)} {r:Except Int C3} (h:Rm o s r):(Option.bind o fun rv2=>(lnO rv2.2.2.zones.length s.zones.length).bind fun _=>(lnO rv2.2.2.holder.length s.holder.length).bind fun _=>(lnO rv2.2.2.squibs.length s.squibs.length).bind fun _=>C7r F a rv2.1.now rv2.2.2.zones rv2.2.2.holder rv2.2.2.squibs rv2.1.siren rv2.1.storm rv2.2.1)=some (C0d (B4L a.at_ r)):=by
 obtain⟨x,e,m,rfl,⟨h1,h2,h3⟩,hr⟩:=h
 have hl:∀ {n k:Nat},n=k→lnO n k=some ():=fun h=>by unfold lnO;rw[if_pos h]
 rw[oS]
 dsimp only
 rw[hl h1,oS,hl h2,oS,hl h3,oS,C7r]
 cases r with
 | ok s' =>
  obtain⟨rfl,rfl⟩:=hr
  rfl
 | error e' =>
  obtain⟨rfl,he⟩:=hr
  rw[if_neg he]
  rfl
theorem D1w {F:Nat} {p:D5} {s:C3} {a:D2} (h:A5X F p s a):C9B F p s a=some (C0d (B1Q p s a)):=by
 have l1:=h.f.lz
 have l2:=h.f.lh
 have l3:=h.f.lq
 have k1:=h.o.p8
 have k2:=h.o.k8
 have k3:=h.o.q6
 rw[C9B]
 unfold B1Q
 by_cases ht:a.at_<s.now
 ·rw[if_pos ht,if_pos ht];rfl
 rw[if_neg ht,if_neg ht,D2c oM oM oM,oS]
 rcases h.a.k with k | k | k | k | k | k | k | k | k
 ·rw[if_pos k];exact C8e (D1E h k)
 ·simp only[k,Int.reduceEq,if_true,if_false];exact C8e (D05 h (.inl k))
 ·simp only[k,Int.reduceEq,if_true,if_false];exact C8e (D05 h (.inr (.inl k)))
 ·simp only[k,Int.reduceEq,if_true,if_false];exact C8e (D05 h (.inr (.inr k)))
 ·simp only[k,Int.reduceEq,if_true,if_false];exact C8e (C9N h (.inl k))
 ·simp only[k,Int.reduceEq,if_true,if_false];exact C8e (C9N h (.inr (.inl k)))
 ·simp only[k,Int.reduceEq,if_true,if_false];exact C8e (C9N h (.inr (.inr k)))
 ·simp only[k,Int.reduceEq,if_true,if_false];exact C8e (D18 h (.inl k))
 ·simp only[k,Int.reduceEq,if_true,if_false];exact C8e (D18 h (.inr k))
def DoP (p:D5) (s:C3) (a:D2):C3 × Int:=bif decide (A7q p s=0)then(bif decide (B25 p a=0)then C0d (B1Q p s a)else(A87,B25 p a))else(A87,A7q p s)
theorem B58 {F:Nat} {p:D5} {s:C3} {a:D2} (h:A5x F p) (hs:StF F s) (h1:A7q p s=0) (h2:B25 p a=0):A5X F p s a :=
 have hok:=B6Q h1
 ⟨h,hs,hok.o,hok.f,B84 h2⟩
theorem B2e {F:Nat} {p:D5} {s:C3} {a:D2} (h:A5x F p) (hs:StF F s):A7D F p s a=some (DoP p s a):=by
 rw[A7D,A9h h hs,oS]
 unfold DoP
 by_cases h1:A7q p s=0
 ·rw[if_pos h1,dT h1,B5l h,oS,A55]
  by_cases h2:B25 p a=0
  ·rw[if_pos h2,dT h2,B6I (B58 h hs h1 h2)];rfl
  ·rw[if_neg h2,dF h2];rfl
 ·rw[if_neg h1,dF h1,A55,if_neg h1];rfl
theorem D1S {F:Nat} {p:D5} {s:C3} {a:D2} (h:A5x F p) (hs:StF F s):D0J F p s a=some (DoP p s a):=by
 rw[D0J,C9X h hs,oS]
 unfold DoP
 by_cases h1:A7q p s=0
 ·rw[if_pos h1,dT h1,D1C h,oS]
  simp only[C9e]
  by_cases h2:B25 p a=0
  ·rw[if_pos h2,dT h2,D1w (B58 h hs h1 h2)];rfl
  ·rw[if_neg h2,dF h2];rfl
 ·rw[if_neg h1,dF h1]
  simp only[C9e]
  rw[if_neg h1];rfl
theorem C0P {F:Nat} {a b:List Int} (hl:a.length<9223372036854775808) (hab:a.length=b.length):∀ (n k:Nat),a.length<n+k→k≤a.length→A6N F a b (fun _=>some true) n k=some (decide (a.drop k=b.drop k))
 | 0,k,h,h2=>absurd h oM
 | n+1,k,h,h2=>by
  rw[A6N]
  by_cases hk:k<a.length
  ·rw[if_pos oM,H3 hk,oS,H3 oM,oS,S0 oM,C0P hl hab n (k+1) oM oM,lD hk,lD (show k<b.length by omega)]
   by_cases he:a[k]=b[k]'oM
   ·rw[if_pos he,he];simp only[List.cons.injEq,true_and]
   ·rw[if_neg he];simp only[List.cons.injEq,he,false_and,decide_false]
  ·rw[if_neg oM,lL oM,lL oM]
   rfl
theorem B7a {F:Nat} {a b:List Int} (hl:a.length<9223372036854775808) (hF:a.length<F):B3v F a b=some (decide (a=b)):=by
 rw[B3v]
 by_cases h:a.length=b.length
 ·rw[if_pos oM]
  have:=C0P (F:=F) hl h F 0 oM oM
  rw[z0]at this
  rw[this];simp
 ·rw[if_neg oM,dF (fun e=>h (by rw[e]))]
theorem C1m {F:Nat} {s:C3} (h:StF F s):B7h F s s=some true:=by
 have h1:=h.z
 have h2:=h.h
 have h3:=h.q
 rw[B7h,B7a oM h1.1,B7a oM h2.1,B7a oM h3.1]
 simp
theorem X2 (F:Nat) (n lo hi:Int):Y7 F n lo hi=some (N9 n lo hi):=by
 unfold Y7 N9
 split<;>simp[*]
theorem A6P {α:Type} {g:Nat→Int→Option Int} {s:List α} {p:α→Bool} (h0:∀ (n k:Nat) (h:k<s.length),g (n+1) k=if p s[k]=true then some (k:Int)else g n ((k+1:Nat):Int)) (h1:∀ n,g (n+1) s.length=some (-1)) :
 ∀ (n k:Nat),s.length<n+k→k≤s.length→∃ r,g n k=some r∧decide (0≤r)=(s.drop k).any p
 | 0,k,h,h2=>absurd h oM
 | n+1,k,h,h2=>by
  by_cases hk:k<s.length
  ·rw[h0 n k hk,lD hk,List.any_cons]
   cases hp:p s[k]with
   | true=>exact⟨k,by simp,by simp⟩
   | false=>simpa using A6P h0 h1 n (k+1) oM oM
  ·obtain rfl:k=s.length:=by omega
   rw[h1,lL oM]
   exact⟨-1,rfl,by simp⟩
theorem A8q {F:Nat} {s:List (List Int)} {f:List Int→Option Bool} {p:List Int→Bool} (hf:∀ x∈s,f x=some (p x)) (hl:s.length<9223372036854775808) (hF:s.length<F):W6 F s f=some (s.any p):=by
 obtain⟨r,h1,h2⟩:=A6P (g:=R9 F s f (fun _=>some (-1))) (s:=s) (p:=p) (fun n k hk=>by rw[R9,if_pos oM,H3 hk,oS,hf _ (List.getElem_mem hk),oS,S0 oM]) (fun n=>by rw[R9,if_neg oM]) F 0 oM oM
 rw[W6,A1A,show(0:Int)=((0:Nat):Int)from rfl,h1,oS,show((0:Nat):Int)=0 from rfl,h2,List.drop_zero]
theorem B0n {F:Nat} {s:List ByteArray} {f:ByteArray→Option Bool} {p:ByteArray→Bool} (hf:∀ x∈s,f x=some (p x)) (hl:s.length<9223372036854775808) (hF:s.length<F):Y4 F s f=some (s.any p):=by
 obtain⟨r,h1,h2⟩:=A6P (g:=Q3 F s f (fun _=>some (-1))) (s:=s) (p:=p) (fun n k hk=>by rw[Q3,if_pos oM,H3 hk,oS,hf _ (List.getElem_mem hk),oS,S0 oM]) (fun n=>by rw[Q3,if_neg oM]) F 0 oM oM
 rw[Y4,A0Q,show(0:Int)=((0:Nat):Int)from rfl,h1,oS,show((0:Nat):Int)=0 from rfl,h2,List.drop_zero]
theorem A80 {F:Nat} {s:List D9} {f:D9→Option Bool} {p:D9→Bool} (hf:∀ x∈s,f x=some (p x)) (hl:s.length<9223372036854775808) (hF:s.length<F):V6 F s f=some (s.any p):=by
 obtain⟨r,h1,h2⟩:=A6P (g:=O5 F s f (fun _=>some (-1))) (s:=s) (p:=p) (fun n k hk=>by rw[O5,if_pos oM,H3 hk,oS,hf _ (List.getElem_mem hk),oS,S0 oM]) (fun n=>by rw[O5,if_neg oM]) F 0 oM oM
 rw[V6,A0w,show(0:Int)=((0:Nat):Int)from rfl,h1,oS,show((0:Nat):Int)=0 from rfl,h2,List.drop_zero]
theorem B0l {F:Nat} {s:List E0} {f:E0→Option Bool} {p:E0→Bool} (hf:∀ x∈s,f x=some (p x)) (hl:s.length<9223372036854775808) (hF:s.length<F):Y3 F s f=some (s.any p):=by
 obtain⟨r,h1,h2⟩:=A6P (g:=Q2 F s f (fun _=>some (-1))) (s:=s) (p:=p) (fun n k hk=>by rw[Q2,if_pos oM,H3 hk,oS,hf _ (List.getElem_mem hk),oS,S0 oM]) (fun n=>by rw[Q2,if_neg oM]) F 0 oM oM
 rw[Y3,A0P,show(0:Int)=((0:Nat):Int)from rfl,h1,oS,show((0:Nat):Int)=0 from rfl,h2,List.drop_zero]
abbrev A1w (p:D4):D5:=D5.mk p.N4 p.P5 p.N6 p.S5 p.J3 p.Q7 p.T9
structure B7k (F:Nat) (x:E0):Prop where
 n:x.name.size<F∧x.name.size<9223372036854775808
 d:x.need.length<F∧x.need.length<9223372036854775808
 o:x.on_.length<F∧x.on_.length<9223372036854775808
 u:x.use_.length<F∧x.use_.length<9223372036854775808
 f:x.off.length<F∧x.off.length<9223372036854775808
 a:x.acts.length<F∧x.acts.length<9223372036854775808
structure CtF (F:Nat) (p:D4):Prop where
 pd:A5x F (A1w p)
 ls:p.stations.length<9223372036854775808
 lb:p.batteries.length<9223372036854775808
 lt:p.steps.length<9223372036854775808
 lp:p.points.length<F∧p.points.length<9223372036854775808
 sn:∀ x∈p.stations,x.size<F∧x.size<9223372036854775808
 bn:∀ x∈p.batteries,x.name.size<F∧x.name.size<9223372036854775808
 st:∀ x∈p.steps,B7k F x
theorem B9A {p:D4} (hp:∃ F0,∀ F,F0≤F→A5x F (A1w p)) (h1:p.stations.length<9223372036854775808) (h2:p.batteries.length<9223372036854775808) (h3:p.steps.length<9223372036854775808) (h4:p.points.length<9223372036854775808)
  (hs:∀ x∈p.stations,x.size<9223372036854775808) (hb:∀ x∈p.batteries,x.name.size<9223372036854775808)
  (ht:∀ x∈p.steps,x.name.size<9223372036854775808∧x.need.length<9223372036854775808∧x.on_.length<9223372036854775808∧x.use_.length<9223372036854775808∧x.off.length<9223372036854775808∧x.acts.length<9223372036854775808):∃ F0,∀ F,F0≤F→CtF F p:=by
 obtain⟨F0,h0⟩:=hp
 obtain⟨N1,k1⟩:=A5z (fun x:ByteArray=>x.size) p.stations
 obtain⟨N2,k2⟩:=A5z (fun x:D9=>x.name.size) p.batteries
 obtain⟨N3,k3⟩:=A5z (fun x:E0=>x.name.size+x.need.length+x.on_.length+x.use_.length+x.off.length+x.acts.length) p.steps
 refine⟨F0+N1+N2+N3+p.points.length+1,fun F hF=>⟨h0 F oM,h1,h2,h3,⟨by omega,h4⟩,fun x hx=>⟨by have:=k1 x hx;omega,hs x hx⟩,fun x hx=>⟨by have:=k2 x hx;omega,hb x hx⟩,fun x hx=>?_⟩⟩
 have:=k3 x hx
 obtain⟨a1,a2,a3,a4,a5,a6⟩:=ht x hx
 exact⟨⟨by omega,a1⟩,⟨by omega,a2⟩,⟨by omega,a3⟩,⟨by omega,a4⟩,⟨by omega,a5⟩,⟨by omega,a6⟩⟩
def A4n (many:Int) (l:List Int):Bool:=l.any fun n=>N9 n 0 (many-1)
theorem B44 {F:Nat} {many:Int} (hm:0≤many∧many<9223372036854775808) {l:List Int} (hl:l.length<F∧l.length<9223372036854775808):A1G F l many=some (A4n many l):=by
 rw[A1G,A2H (p:=fun n=>N9 n 0 (many-1)) (fun x _=>by rw[A1Q,X2,A8K];rfl) oM hl.1]
 rfl
theorem B11 {F:Nat} {many:Int} (hm:0≤many∧many<9223372036854775808) {ls:List (List Int)} (h:ls.length<F∧ls.length<100) (hl:∀ l∈ls,l.length<F∧l.length<9223372036854775808):A2R F many ls=some (ls.any (A4n many)):=by
 rw[A2R,A8q (p:=A4n many) (fun x hx=>B44 hm (hl x hx)) oM h.1]
 rfl
theorem B67 {F:Nat} {l:List Int} (hl:l.length<F∧l.length<9223372036854775808):A2Q F l=some (!A6a l):=by
 have key:∀ (n k:Nat),l.length<n+k→1≤k→k≤l.length→U9 F l (fun _=>some false) n k=some (!A6a (l.drop (k-1))):=fun n=>by
  induction n with
  | zero=>intro k h;omega
  | succ n ih =>
   intro k h h1 h2
   rw[U9]
   by_cases hk:k<l.length
   ·rw[if_pos oM,if_pos oM,H3 hk,oS,B23 h1 oM,H3 (by omega:k-1<l.length),oS,S0 oM,ih (k+1) oM oM oM,
     lD (by omega:k-1<l.length),show k-1+1=k by omega,show k+1-1=k by omega,lD hk,A6a]
    by_cases hc:l[k]≤l[k-1]
    ·rw[if_pos hc,dF (by omega:¬ l[k-1]<l[k])];rfl
    ·rw[if_neg hc,dT (by omega:l[k-1]<l[k])];rfl
   ·rw[if_neg oM,lD (by omega:k-1<l.length),lL oM]
    rfl
 rw[A2Q]
 obtain⟨n,rfl⟩:∃ n,F=n+1:=⟨F-1,by omega⟩
 rw[U9]
 by_cases h0:(0:Int)<l.length
 ·have:=key n 1 oM oM oM
  rw[if_pos h0,if_neg oM,show W (0+1)=((1:Nat):Int)from rfl]
  have e:∀ (m:Nat) (k:Int),U9 (n+1) l (fun _=>some false) m k=U9 (n+1) l (fun _=>some false) m k:=fun _ _=>rfl
  rw[this,Nat.sub_self,List.drop_zero]
 ·rw[if_neg h0]
  have:l=[]:=by cases l<;>simp at h0 ⊢
  subst this
  rfl
theorem B7H {F:Nat} {ls:List (List Int)} (h:ls.length<F∧ls.length<100) (hl:∀ l∈ls,l.length<F∧l.length<9223372036854775808):A4R F ls=some (ls.any fun l=>!A6a l):=by
 rw[A4R,A8q (p:=fun l=>!A6a l) (fun x hx=>B67 (hl x hx)) oM h.1]
 rfl
theorem B4W {α:Type} (nm:α→ByteArray) (l:List α) (s:ByteArray):nmE (l.map nm) s=if A7C s=true then(if l.any (fun a=>decide ((nm a).toList=s.toList))=true then 5 else 0)else 6:=by
 unfold nmE
 rw[List.any_map]
 rfl
theorem B7J {F:Nat} {l:List ByteArray} (h:l.length<F∧l.length<9223372036854775808) (hn:∀ x∈l,x.size<F∧x.size<9223372036854775808) {k:Nat} (hk:k<l.length):Q6 F l k=some (nmE (l.take k) l[k]):=by
 have hx:=hn _ (List.getElem_mem hk)
 rw[Q6,H3 hk,oS,A1j,oS,A2E oM hx.1,oS,B0w oM,oS,
  B0n (p:=fun a=>decide (a.toList=l[k].toList)) (fun a _=>by rw[A0l,A1j,oS,H3 hk,oS,A1j,oS];split<;>simp[*]) (by rw[List.length_take];omega) (by rw[List.length_take];omega),oS]
 have:=B4W id (l.take k) l[k]
 rw[List.map_id]at this
 rw[this]
 cases A7C l[k]<;>simp only[if_true,Bool.false_eq_true,if_false,id]
 split<;>rfl
theorem B68 {F:Nat} {l:List D9} (h:l.length<F∧l.length<9223372036854775808) (hn:∀ x∈l,x.name.size<F∧x.name.size<9223372036854775808) {k:Nat} (hk:k<l.length):R7 F l k=some (nmE ((l.take k).map (·.name)) l[k].name):=by
 have hx:=hn _ (List.getElem_mem hk)
 rw[R7,H3 hk,oS,A1k,oS,A2E oM hx.1,oS,B0w oM,oS,
  A80 (p:=fun a=>decide (a.name.toList=l[k].name.toList)) (fun a _=>by rw[V0,A1k,oS,H3 hk,oS,A1k,oS];split<;>simp[*]) (by rw[List.length_take];omega) (by rw[List.length_take];omega),oS,B4W]
 cases A7C l[k].name<;>simp only[if_true,Bool.false_eq_true,if_false]
 split<;>rfl
theorem B4V {F:Nat} {l:List E0} (h:l.length<F∧l.length<9223372036854775808) (hn:∀ x∈l,B7k F x) {k:Nat} (hk:k<l.length):U3 F l k=some (nmE ((l.take k).map (·.name)) l[k].name):=by
 have hx:=(hn _ (List.getElem_mem hk)).n
 rw[U3,H3 hk,oS,A1P,oS,A2E oM hx.1,oS,B0w oM,oS,
  B0l (p:=fun a=>decide (a.name.toList=l[k].name.toList)) (fun a _=>by rw[X1,A1P,oS,H3 hk,oS,A1P,oS];split<;>simp[*]) (by rw[List.length_take];omega) (by rw[List.length_take];omega),oS,B4W]
 cases A7C l[k].name<;>simp only[if_true,Bool.false_eq_true,if_false]
 split<;>rfl
theorem B5w {F:Nat} (hF:100<F) {n:Nat} (hn:n≤16):A0b F [-1] (n:Int)=some (List.replicate n (-1)):=by
 obtain⟨m,rfl⟩:∃ m,F=m+20:=⟨F-20,by omega⟩
 match n,hn with
 | 0,_=>rfl
 | 1,_=>rfl
 | 2,_=>rfl
 | 3,_=>rfl
 | 4,_=>rfl
 | 5,_=>rfl
 | 6,_=>rfl
 | 7,_=>rfl
 | 8,_=>rfl
 | 9,_=>rfl
 | 10,_=>rfl
 | 11,_=>rfl
 | 12,_=>rfl
 | 13,_=>rfl
 | 14,_=>rfl
 | 15,_=>rfl
 | 16,_=>rfl
 | n+17,h=>exact absurd h oM
theorem B0U {n:Nat} (h:n≤1000000000):B1D (n:Int)=some n:=by
 unfold B1D
 rw[if_pos oM];simp
def A4C (p:D5):C3 × Int:=if(A2n p).2.2=0 then(⟨0,List.replicate p.people.length (-1),List.replicate p.keys.length (-1),List.replicate p.squibs.length 0,-1,false⟩,0)else(⟨0,[],[],[],0,false⟩,(A2n p).2.2)
theorem B2f {F:Nat} {p:D5} (h:A5x F p):A44 F p=some (A4C p):=by
 rw[A44,A7e h,oS]
 unfold A4C
 by_cases h0:(A2n p).2.2=0
 ·have ho:=A60 h0
  have k1:=ho.p8
  have k2:=ho.k8
  have k3:=ho.q6
  rw[if_pos h0,if_pos h0,B5w h.f oM,oS,B5w h.f oM,oS,B0U oM]
  rfl
 ·rw[if_neg h0,if_neg h0]
theorem B42 {F:Nat} {p:D5} (hF:100<F):StF F (A4C p).1:=by
 unfold A4C
 by_cases h0:(A2n p).2.2=0
 ·have ho:=A60 h0
  have k1:=ho.p8
  have k2:=ho.k8
  have k3:=ho.q6
  rw[if_pos h0]
  constructor<;>simp only[List.length_replicate]<;>omega
 ·rw[if_neg h0]
  constructor<;>simp<;>omega
def A9U (p:D5) (a:D2):Int:=bif decide ((DoP p (A4C p).1 a).2<170)then(DoP p (A4C p).1 a).2 else 0
theorem B4C {F:Nat} {p:D5} (h:A5x F p) (a:D2):A3d F p a=some (A9U p a):=by
 rw[A3d,B2f h,oS,B2e h (B42 h.f),oS]
 unfold A9U
 rw[A4e,← A6z]
def B3z (p:D5):List D2→Int
 | []=>0
 | a::l=>bif decide (a.at_=0)then(bif decide (A9U p a=0)then B3z p l else A9U p a)else 2
theorem B2r {F:Nat} {p:D4} (h:CtF F p) {x:E0} (hx:B7k F x):∀ (n k:Nat),x.acts.length<n+k→k≤x.acts.length→A1l F p x (fun _=>some 0) n k=some (B3z (A1w p) (x.acts.drop k))
 | 0,k,h1,h2=>absurd h1 oM
 | n+1,k,h1,h2=>by
  rw[A1l]
  by_cases hk:k<x.acts.length
  ·have:=hx.a
   rw[if_pos oM,H3 hk,oS,B4C h.pd,oS,S0 oM,B2r h hx n (k+1) oM oM,lD hk,B3z,A4e,A4e,← A6z,← A6z]
  ·rw[if_neg oM,lL oM]
   rfl
def B10 (p:D4) (k:Nat):Int :=
 bif decide (nmE ((p.steps.take k).map (·.name)) (p.steps.getD k default).name=0)then
  bif A4n k (p.steps.getD k default).need then 4 else
  bif [(p.steps.getD k default).on_,(p.steps.getD k default).use_,(p.steps.getD k default).off].any (A4n p.batteries.length)then 4 else
  bif [(p.steps.getD k default).need,(p.steps.getD k default).on_,(p.steps.getD k default).use_,(p.steps.getD k default).off].any (fun l=>!A6a l)then 2 else
  bif N9 (p.steps.getD k default).most 0 20000 then 7 else
  bif N9 (p.steps.getD k default).least 0 (p.steps.getD k default).most then 7 else
  bif decide (8<((p.steps.getD k default).acts.length:Int))then 3 else B3z (A1w p) (p.steps.getD k default).acts
 else nmE ((p.steps.take k).map (·.name)) (p.steps.getD k default).name
theorem B6c {F:Nat} {p:D4} (h:CtF F p) (h16:p.steps.length≤16) {k:Nat} (hk:k<p.steps.length):A5E F p k=some (B10 p k):=by
 have hx:=h.st _ (List.getElem_mem hk)
 have hF:=h.pd.f
 have hb:=h.lb
 rw[A5E,H3 hk,oS,B4V ⟨by omega,by omega⟩ h.st hk,oS,B11 ⟨by omega,by omega⟩ ⟨by simp;omega,by simp⟩ (fun l hl=>by simp at hl;subst hl;exact hx.d),oS,
  B11 ⟨by omega,by omega⟩ ⟨by simp;omega,by simp⟩ (fun l hl=>by simp at hl;rcases hl with rfl | rfl | rfl;exact hx.o;exact hx.u;exact hx.f),oS,
  B7H ⟨by simp;omega,by simp⟩ (fun l hl=>by simp at hl;rcases hl with rfl | rfl | rfl | rfl;exact hx.d;exact hx.o;exact hx.u;exact hx.f),oS,X2,oS,X2,oS,A4K,
  show A1l F p p.steps[k] (fun _=>some 0) F 0=_ from B2r h hx F 0 (by have:=hx.a;omega) oM,List.drop_zero]
 unfold B10
 rw[J6 default hk]
 simp only[A4e,A0q,A6z,List.any_cons,List.any_nil,Bool.or_false]
def A4d (f:Nat→Int):Nat→Nat→Int × Int
 | 0,_=>(0,0)
 | m+1,k=>bif decide (f k=0)then A4d f m (k+1)else(k,f k)
theorem A7W {f:Nat→Int}:∀ {m k:Nat},(A4d f m k).2=0→∀ j,k≤j→j<k+m→f j=0
 | 0,k,_,j,h1,h2=>absurd h2 oM
 | m+1,k,h,j,h1,h2=>by
  rw[A4d]at h
  by_cases h0:f k=0
  ·rw[dT h0,cT]at h
   by_cases hj:j=k
   ·rw[hj];exact h0
   ·exact A7W h j oM oM
  ·rw[dF h0,cF]at h;exact absurd h h0
theorem A8U {ρ:Type} {g:Nat→ρ→Int→Option (Int × Int × Int)} {f:Nat→Int} {len:Nat} {pt:Int} {c:Option (Int × Int × Int)} (h0:∀ (n:Nat) (r:ρ) (k:Nat),k<len→f k=0→∃ r',g (n+1) r k=g n r' ((k+1:Nat):Int)) (he:∀ (n:Nat) (r:ρ) (k:Nat),k<len→f k≠0→g (n+1) r k=some (pt,(k:Int),f k)) (h1:∀ n r,g (n+1) r len=c) :
 ∀ (n k:Nat) (r:ρ),len<n+k→k≤len→g n r k=A7x pt (A4d f (len-k) k) c
 | 0,k,r,h,h2=>absurd h oM
 | n+1,k,r,h,h2=>by
  by_cases hk:k<len
  ·rw[show len-k=(len-(k+1))+1 by omega,A4d]
   by_cases hf:f k=0
   ·obtain⟨r',hr⟩:=h0 n r k hk hf
    rw[hr,A8U h0 he h1 n (k+1) r' oM oM,dT hf,cT]
   ·rw[he n r k hk hf,dF hf,cF,A7x,dF hf,cF]
  ·obtain rfl:k=len:=by omega
   rw[h1,Nat.sub_self,A4d];rfl
def stE (p:D4) (k:Nat):Int:=nmE (p.stations.take k) (p.stations.getD k default)
def B6m (p:D4) (k:Nat):Int:=bif decide (nmE ((p.batteries.take k).map (·.name)) (p.batteries.getD k default).name=0)then(bif N9 (p.batteries.getD k default).charge 1 1000000 then 7 else bif N9 (p.batteries.getD k default).rate 1 1000 then 7 else 0)else nmE ((p.batteries.take k).map (·.name)) (p.batteries.getD k default).name
def A9K (p:D4) (k:Nat):Int:=bif N9 (p.points.getD k 0) 0 ((p.steps.length:Int)-1)then 4 else bif decide (0<k)&&decide (p.points.getD k 0≤p.points.getD (k-1) 0)then 2 else 0
def B3p (p:D4):Int × Int × Int:=bif N9 p.O8 0 100000 then(7,0,7)else bif N9 p.Q8 0 p.O8 then(7,0,7)else(0,0,0)
def B6p (p:D4):Bool:=decide (8<(p.stations.length:Int))||(decide (6<(p.batteries.length:Int))||N9 p.steps.length 1 16)
def B8g (p:D4):Int × Int × Int:=part 3 (A4d (stE p) p.stations.length 0) (part 4 (A4d (B6m p) p.batteries.length 0) (part 5 (A4d (B10 p) p.steps.length 0) (part 6 (A4d (A9K p) p.points.length 0) (B3p p))))
def A35 (p:D4):Int × Int × Int:=bif decide ((A2n (A1w p)).2.2=0)then(bif B6p p then(2,0,3)else B8g p)else(1,0,(A2n (A1w p)).2.2)
theorem B0H {p:D4} (h:B6p p=false):p.stations.length≤8∧p.batteries.length≤6∧1≤p.steps.length∧p.steps.length≤16:=by
 unfold B6p at h
 rw[Bool.or_eq_false_iff,Bool.or_eq_false_iff,O6,decide_eq_false_iff_not,decide_eq_false_iff_not]at h
 omega
theorem CL1 {F:Nat} {p:D4} (h:CtF F p) (hs:1≤p.steps.length∧p.steps.length≤16) (c:Option (Int × Int × Int)):S4 F p (fun _=>c) F 0=A7x 6 (A4d (A9K p) p.points.length 0) c:=by
 have hp:=h.lp
 have:=A8U (ρ:=Unit) (g:=fun n _ k=>S4 F p (fun _=>c) n k) (f:=A9K p) (len:=p.points.length) (pt:=6) (c:=c) (fun n r k hk hf=>⟨(),?_⟩) (fun n r k hk hf=>?_) (fun n r=>by show S4 F p (fun _=>c) (n+1) _=c;rw[S4,if_neg oM]) F 0 () oM oM
 ·simpa using this
 ·show S4 F p (fun _=>c) (n+1) k=S4 F p (fun _=>c) n _
  unfold A9K at hf
  rw[S4,if_pos oM,H3 hk,oS,X2,oS,A8K,S0 oM]
  rw[J6 0 hk]at hf
  cases h1:N9 p.points[k] 0 ((p.steps.length:Int)-1)with
  | true=>rw[h1]at hf;cases hf
  | false =>
   rw[h1,cF]at hf
   rw[if_neg sM]
   by_cases h0:0<k
   ·rw[if_pos oM,B23 h0 oM,H3 (by omega:k-1<p.points.length),oS,if_neg ?_]
    rw[dT h0,Bool.true_and,J6 0 (by omega:k-1<p.points.length)]at hf
    intro hc
    rw[dT hc]at hf
    cases hf
   ·rw[if_neg oM]
 ·show S4 F p (fun _=>c) (n+1) k=_
  unfold A9K at hf ⊢
  rw[S4,if_pos oM,H3 hk,oS,X2,oS,A8K,S0 oM]
  rw[J6 0 hk]at hf ⊢
  cases h1:N9 p.points[k] 0 ((p.steps.length:Int)-1)with
  | true=>rw[if_pos rfl,cT]
  | false =>
   rw[h1,cF]at hf
   rw[if_neg sM,cF]
   by_cases h0:0<k
   ·rw[if_pos oM,B23 h0 oM,H3 (by omega:k-1<p.points.length),oS]
    rw[dT h0,Bool.true_and,J6 0 (by omega:k-1<p.points.length)]at hf ⊢
    by_cases hc:p.points[k]≤p.points[k-1]
    ·rw[if_pos hc,dT hc,cT]
    ·rw[dF hc]at hf;exact absurd rfl hf
   ·rw[dF h0]at hf;exact absurd rfl hf
theorem CL2 {F:Nat} {p:D4} (h:CtF F p) (hs:1≤p.steps.length∧p.steps.length≤16) (c:Option (Int × Int × Int)) (r:Int):A0d F p (fun _ _=>c) F r 0=A7x 5 (A4d (B10 p) p.steps.length 0) c:=by
 have hF:=h.pd.f
 exact A8U (g:=A0d F p (fun _ _=>c)) (f:=B10 p) (len:=p.steps.length) (pt:=5) (c:=c)
  (fun n r k hk hf=>⟨_,by rw[A0d,if_pos oM,B6c h hs.2 hk,oS,if_pos hf,S0 oM]⟩)
  (fun n r k hk hf=>by rw[A0d,if_pos oM,B6c h hs.2 hk,oS,if_neg hf]) (fun n r=>by rw[A0d,if_neg oM]) F 0 r oM oM
theorem CL4 {F:Nat} {p:D4} (h:CtF F p) (hs:p.stations.length≤8) (c:Option (Int × Int × Int)) (r:Int):A0e F p (fun _ _=>c) F r 0=A7x 3 (A4d (stE p) p.stations.length 0) c:=by
 have hF:=h.pd.f
 have key:∀ k (hk:k<p.stations.length),Q6 F p.stations k=some (stE p k):=fun k hk=>by
  rw[B7J ⟨by omega,by omega⟩ h.sn hk,stE,J6 default hk]
 exact A8U (g:=A0e F p (fun _ _=>c)) (f:=stE p) (len:=p.stations.length) (pt:=3) (c:=c)
  (fun n r k hk hf=>⟨_,by rw[A0e,if_pos oM,key k hk,oS,if_pos hf,S0 oM]⟩)
  (fun n r k hk hf=>by rw[A0e,if_pos oM,key k hk,oS,if_neg hf]) (fun n r=>by rw[A0e,if_neg oM]) F 0 r oM oM
theorem CL3 {F:Nat} {p:D4} (h:CtF F p) (hs:p.batteries.length≤6) (c:Option (Int × Int × Int)) (r:Int):X6 F p (fun _ _=>c) F r 0=A7x 4 (A4d (B6m p) p.batteries.length 0) c:=by
 have hF:=h.pd.f
 have one:∀ (n:Nat) (r:Int) k (hk:k<p.batteries.length),X6 F p (fun _ _=>c) (n+1) r k=bif decide (nmE ((p.batteries.take k).map (·.name)) (p.batteries.getD k default).name=0)then(bif N9 (p.batteries.getD k default).charge 1 1000000 then some (4,(k:Int),7)else bif N9 (p.batteries.getD k default).rate 1 1000 then some (4,(k:Int),7)else X6 F p (fun _ _=>c) n (nmE ((p.batteries.take k).map (·.name)) (p.batteries.getD k default).name) ((k+1:Nat):Int))else some (4,(k:Int),nmE ((p.batteries.take k).map (·.name)) (p.batteries.getD k default).name):=fun n r k hk=>by
  rw[X6,if_pos oM,H3 hk,oS,B68 ⟨by omega,by omega⟩ h.bn hk,oS,X2,oS,X2,oS,S0 oM,J6 default hk]
  simp only[A4e,A0q]
 exact A8U (g:=X6 F p (fun _ _=>c)) (f:=B6m p) (len:=p.batteries.length) (pt:=4) (c:=c)
  (fun n r k hk hf=>⟨nmE ((p.batteries.take k).map (·.name)) (p.batteries.getD k default).name,by
   rw[one n r k hk]
   unfold B6m at hf
   by_cases h0:nmE ((p.batteries.take k).map (·.name)) (p.batteries.getD k default).name=0
   ·rw[dT h0,cT]at hf ⊢
    cases h1:N9 (p.batteries.getD k default).charge 1 1000000<;>cases h2:N9 (p.batteries.getD k default).rate 1 1000<;>rw[h1,h2]at hf<;>first | rfl | cases hf
   ·rw[dF h0,cF]at hf;exact absurd hf h0⟩)
  (fun n r k hk hf=>by
   rw[one n r k hk]
   unfold B6m at hf ⊢
   by_cases h0:nmE ((p.batteries.take k).map (·.name)) (p.batteries.getD k default).name=0
   ·rw[dT h0,cT]at hf ⊢
    rw[cT]
    cases h1:N9 (p.batteries.getD k default).charge 1 1000000<;>cases h2:N9 (p.batteries.getD k default).rate 1 1000<;>rw[h1,h2]at hf<;>first | rfl | exact absurd rfl hf
   ·rw[dF h0,cF,cF]) (fun n r=>by rw[X6,if_neg oM]) F 0 r oM oM
theorem B7s {F:Nat} {p:D4} (h:CtF F p):A4P F p=some (A35 p):=by
 rw[A4P,A7e h.pd,oS,X2,oS,A2o,A3Y]
 unfold A35
 by_cases h0:(A2n (A1w p)).2.2=0
 ·rw[if_pos h0,dT h0,cT]
  cases hb:B6p p with
  | true =>
   rw[cT]
   unfold B6p at hb
   simp only[Bool.or_eq_true,decide_eq_true_eq]at hb
   by_cases h1:8<(p.stations.length:Int)
   ·rw[if_pos h1]
   ·rw[if_neg h1]
    by_cases h2:6<(p.batteries.length:Int)
    ·rw[if_pos h2]
    ·rw[if_neg h2,if_pos (by rcases hb with hb | hb | hb;exact absurd hb h1;exact absurd hb h2;exact hb)]
  | false =>
   have h1:=B0H hb
   have h2:N9 p.steps.length 1 16=false:=O6.2 oM
   rw[if_neg oM,if_neg oM,h2,if_neg sM,cF]
   simp only[CL1 h h1.2.2,CL2 h h1.2.2,CL3 h h1.2.1,CL4 h h1.1,X2,oS]
   unfold B8g
   rw[← A5O,← A5O,← A5O,← A5O]
   unfold B3p
   simp only[A4e,A0q,A6z]
 ·rw[if_neg h0,dF h0,cF]
structure B0B (p:D4) (k:Nat) (x:E0):Prop where
 nd:∀ n∈x.need,0≤n∧n<k
 na:A6a x.need=true
 on:∀ n∈x.on_,0≤n∧n<p.batteries.length
 us:∀ n∈x.use_,0≤n∧n<p.batteries.length
 off:∀ n∈x.off,0≤n∧n<p.batteries.length
 oa:A6a x.on_=true
 ua:A6a x.use_=true
 fa:A6a x.off=true
 m:0≤x.most∧x.most≤20000
 l:0≤x.least∧x.least≤x.most
 a:x.acts.length≤8
 ae:B3z (A1w p) x.acts=0
structure A5Y (p:D4):Prop where
 c:(A2n (A1w p)).2.2=0
 pd:A6x (A1w p)
 s8:p.stations.length≤8
 b6:p.batteries.length≤6
 t1:1≤p.steps.length
 t16:p.steps.length≤16
 b:∀ k,k<p.batteries.length→(1≤(p.batteries.getD k default).charge∧(p.batteries.getD k default).charge≤1000000)∧1≤(p.batteries.getD k default).rate∧(p.batteries.getD k default).rate≤1000
 t:∀ k,k<p.steps.length→B0B p k (p.steps.getD k default)
 pt:∀ k,k<p.points.length→0≤p.points.getD k 0∧p.points.getD k 0<p.steps.length
 w:(0≤p.Q8∧p.Q8≤p.O8)∧p.O8≤100000
theorem A8g {n:Int} {x:Int × Int} {c:Int × Int × Int} (h:(part n x c).2.2=0):x.2=0∧c.2.2=0:=by
 unfold part at h
 by_cases h0:x.2=0
 ·rw[dT h0,cT]at h;exact⟨h0,h⟩
 ·rw[dF h0,cF]at h;exact absurd h h0
theorem A4o {many:Int} {l:List Int} (h:A4n many l=false):∀ n∈l,0≤n∧n<many:=by
 unfold A4n at h
 rw[List.any_eq_false]at h
 intro n hn
 have:=h n hn
 simp only[Bool.not_eq_true]at this
 have:=O6.1 this
 omega
theorem B8l {p:D4} {k:Nat} (h:B10 p k=0):B0B p k (p.steps.getD k default):=by
 unfold B10 at h
 obtain⟨x,hx⟩:∃ x,p.steps.getD k default=x:=⟨_,rfl⟩
 rw[hx]at h ⊢
 by_cases h0:nmE ((p.steps.take k).map (·.name)) x.name=0
 ·rw[dT h0,cT]at h
  cases h1:A4n k x.need with
  | true=>rw[h1]at h;cases h
  | false =>
   cases h2:[x.on_,x.use_,x.off].any (A4n p.batteries.length)with
   | true=>rw[h1,h2]at h;cases h
   | false =>
    cases h3:[x.need,x.on_,x.use_,x.off].any (fun l=>!A6a l)with
    | true=>rw[h1,h2,h3]at h;cases h
    | false =>
     cases h4:N9 x.most 0 20000 with
     | true=>rw[h1,h2,h3,h4]at h;cases h
     | false =>
      cases h5:N9 x.least 0 x.most with
      | true=>rw[h1,h2,h3,h4,h5]at h;cases h
      | false =>
       rw[h1,h2,h3,h4,h5]at h
       simp only[cF]at h
       by_cases h6:8<(x.acts.length:Int)
       ·rw[dT h6]at h;cases h
       ·rw[dF h6,cF]at h
        simp only[List.any_cons,List.any_nil,Bool.or_false,Bool.or_eq_false_iff,Bool.not_eq_false']at h2 h3
        obtain⟨a1,a2,a3⟩:=h2
        obtain⟨b0,b1,b2,b3⟩:=h3
        have c4:=O6.1 h4
        have c5:=O6.1 h5
        exact⟨A4o h1,b0,A4o a1,A4o a2,A4o a3,b1,b2,b3,c4,c5,by omega,h⟩
 ·rw[dF h0,cF]at h;exact absurd h h0
theorem A95 {p:D4} (h:(A35 p).2.2=0):A5Y p:=by
 unfold A35 at h
 by_cases h0:(A2n (A1w p)).2.2=0
 ·rw[dT h0,cT]at h
  cases hb:B6p p with
  | true=>rw[hb]at h;cases h
  | false =>
   rw[hb,cF]at h
   obtain⟨k1,k2,k3,k4⟩:=B0H hb
   unfold B8g at h
   obtain⟨h1,h⟩:=A8g h
   obtain⟨h2,h⟩:=A8g h
   obtain⟨h3,h⟩:=A8g h
   obtain⟨h4,h⟩:=A8g h
   refine⟨h0,A60 h0,k1,k2,k3,k4,fun k hk=>?_,fun k hk=>B8l (A7W h3 k oM oM),fun k hk=>?_,?_⟩
   ·have:=A7W h2 k oM oM
    unfold B6m at this
    by_cases e0:nmE ((p.batteries.take k).map (·.name)) (p.batteries.getD k default).name=0
    ·rw[dT e0,cT]at this
     cases e1:N9 (p.batteries.getD k default).charge 1 1000000<;>cases e2:N9 (p.batteries.getD k default).rate 1 1000<;>rw[e1,e2]at this<;>first | exact⟨O6.1 e1,O6.1 e2⟩ | cases this
    ·rw[dF e0,cF]at this;exact absurd this e0
   ·have:=A7W h4 k oM oM
    unfold A9K at this
    cases e1:N9 (p.points.getD k 0) 0 ((p.steps.length:Int)-1)with
    | true=>rw[e1]at this;cases this
    | false=>have:=O6.1 e1;omega
   ·unfold B3p at h
    cases e1:N9 p.O8 0 100000<;>cases e2:N9 p.Q8 0 p.O8<;>rw[e1,e2]at h<;>first | exact⟨O6.1 e2,(O6.1 e1).2⟩ | cases h
 ·rw[dF h0,cF]at h;exact absurd h h0
abbrev A8M (x:C7):D2:=D2.mk x.A04 x.A0D x.A1L x.A0E x.A0F
def A20 (p:D4) (k:Int):Int:=bif decide (k=1)||decide (k=2)then p.steps.length else bif decide (k=5)||decide (k=6)then p.stations.length else bif decide (k=7)then p.points.length else p.batteries.length
def A3r (k:Int):Bool:=decide (k=3)||decide (k=4)||decide (k=8)
structure B18 (p:D4) (x:C7):Prop where
 t:0≤x.at_∧x.at_≤100000
 k:1≤x.kind∧x.kind≤9
 w:A3r x.kind=false→0≤x.what∧x.what<A20 p x.kind
 a:x.kind=8→x.A04=x.at_∧A9U (A1w p) (A8M x)=0
abbrev dsk (p:D4) (s:H2):F7:=F7.mk p.N4 p.P5 p.N6 p.S5 p.J3 p.Q7 p.T9 p.stations p.batteries p.steps p.points p.Q8 p.O8 s.now s.A9j s.N4 s.A5M s.J3 s.A68 s.A69 s.begun s.ended s.held s.go s.left s.on_
abbrev B1c (s:H2):C3:=C3.mk s.A9j s.N4 s.A5M s.J3 s.A68 s.A69
abbrev B3q (s:H2) (d:C3):H2:={s with A9j:=d.now,N4:=d.zones,A5M:=d.holder,J3:=d.squibs,A68:=d.siren,A69:=d.storm}
def B9C:H2:=H2.mk 0 0 [] [] [] 0 false [] [] false [] [] []
def A0U (p:D4):H2:=B3q ⟨0,0,[],[],[],0,false,List.replicate p.steps.length (-1),List.replicate p.steps.length (-1),false,List.replicate p.stations.length false,p.batteries.map (·.charge),List.replicate p.batteries.length false⟩ (A4C (A1w p)).1
theorem B34 {F:Nat} {p:D4} (hb:p.batteries.length≤6) {K:List Int→Option ((Option F7) × Int)}:∀ (n k:Nat),p.batteries.length<n+k→k≤p.batteries.length→A1r F p (fun lv _=>K lv) n ((p.batteries.take k).map (·.charge)) k=K (p.batteries.map (·.charge))
 | 0,k,h,h2=>absurd h oM
 | n+1,k,h,h2=>by
  rw[A1r]
  by_cases hk:k<p.batteries.length
  ·rw[if_pos oM,H3 hk,oS,A8O (by rw[List.length_map,List.length_take];omega),oS,S0 oM,B6V (fun b:D9=>b.charge) hk,B34 hb n (k+1) oM oM]
  ·rw[if_neg oM,List.take_of_length_le oM]
theorem B7o {F:Nat} {p:D4} (h:CtF F p):A4Q F p=some (if(A35 p).2.2=0 then(some (dsk p (A0U p)),0)else(none,(A35 p).2.2)):=by
 have hF:=h.pd.f
 rw[A4Q,B7s h,oS]
 by_cases h0:(A35 p).2.2=0
 ·have ho:=A95 h0
  have k1:=ho.b6
  have k2:=ho.t16
  have k3:=ho.s8
  rw[if_pos h0,if_pos h0,B2f h.pd,oS,B5w hF k2,oS,oS]
  have:=B34 (F:=F) k1 (K:=fun lv=>(B1D (p.stations.length:Int)).bind fun q2=>(B1D (p.batteries.length:Int)).bind fun q3=>some ((some (F7.mk p.N4 p.P5 p.N6 p.S5 p.J3 p.Q7 p.T9 p.stations p.batteries p.steps p.points p.Q8 p.O8 0 (A4C (A1w p)).1.now (A4C (A1w p)).1.zones (A4C (A1w p)).1.holder (A4C (A1w p)).1.squibs (A4C (A1w p)).1.siren (A4C (A1w p)).1.storm (List.replicate p.steps.length (-1)) (List.replicate p.steps.length (-1)) false (List.replicate q2 false) lv (List.replicate q3 false))),0)) F 0 oM oM
  rw[List.take_zero,List.map_nil]at this
  refine this.trans ?_
  rw[B0U oM,oS,B0U oM,oS]
  rfl
 ·rw[if_neg h0,if_neg h0]
structure CF (p:D4) (s:H2):Prop where
 lb:s.begun.length=p.steps.length
 le:s.ended.length=p.steps.length
 lg:s.go.length=p.stations.length
 ll:s.left.length=p.batteries.length
 lo:s.on_.length=p.batteries.length
 now:0≤s.now∧s.now≤100000
 b:∀ k,k<p.steps.length → -1≤s.begun.getD k 0∧s.begun.getD k 0≤s.now
 e:∀ k,k<p.steps.length → -1≤s.ended.getD k 0∧s.ended.getD k 0≤s.now
 l:∀ k,k<p.batteries.length→0≤s.left.getD k 0∧s.left.getD k 0≤(p.batteries.getD k default).charge
 pd:∀ F,A5x F (A1w p)→StF F (B1c s)
theorem A5J {α:Type} (n k:Nat) (a d:α) (h:k<n):(List.replicate n a).getD k d=a:=by simp[List.getD_eq_getElem?_getD,h]
theorem B1z {p:D4} (ho:A5Y p):CF p (A0U p) where
 lb:=List.length_replicate
 le:=List.length_replicate
 lg:=List.length_replicate
 ll:=List.length_map _
 lo:=List.length_replicate
 now:=⟨Int.le_refl 0,by show(0:Int)≤100000;decide⟩
 b k hk:=by
  rw[show(A0U p).begun.getD k 0 = -1 from A5J _ _ _ _ hk]
  exact⟨by decide,by show(-1:Int)≤0;decide⟩
 e k hk:=by
  rw[show(A0U p).ended.getD k 0 = -1 from A5J _ _ _ _ hk]
  exact⟨by decide,by show(-1:Int)≤0;decide⟩
 l k hk:=by
  have h1:(A0U p).left.getD k 0=(p.batteries.getD k default).charge:=by
   show(p.batteries.map (·.charge)).getD k 0=_
   simp[List.getD_eq_getElem?_getD,List.getElem?_eq_getElem hk]
  rw[h1]
  have:=(ho.b k hk).1
  omega
 pd F hF:=B42 hF.f
def B14 {α:Type} (n:Nat) (f:Nat→α):List α:=(List.range n).map f
theorem B15 {α:Type} (n:Nat) (f:Nat→α):(B14 n f).length=n:=by simp[B14]
theorem B48 {α:Type} {n:Nat} {f:Nat→α} {k:Nat} {d:α} (h:k<n):(B14 n f).getD k d=f k:=by simp[B14,List.getD_eq_getElem?_getD,h]
theorem B2D {α:Type} {l:List α} {n:Nat} {f:Nat→α} (d:α) (h:l.length=n) (hf:∀ k,k<n→l.getD k d=f k):l=B14 n f:=by
 apply List.ext_getElem (by rw[B15,h])
 intro k h1 h2
 have:=hf k oM
 rw[J6 d h1]at this
 rw[this]
 simp[B14]
theorem A6I {α:Type} (l:List α) (i k:Nat) (a d:α) (h:i<l.length):(l.set i a).getD k d=if k=i then a else l.getD k d:=by
 simp only[List.getD_eq_getElem?_getD,List.getElem?_set]
 by_cases e:k=i
 ·subst e;simp[h]
 ·simp[e,Ne.symm e]
theorem sG {α:Type} {l:List α} {i k:Nat} {a d:α} (h:i<l.length):(l.set i a).getD k d=if k=i then a else l.getD k d:=A6I l i k a d h
theorem B0F {m:Nat} {l:List Int} (h:A6a l=true) (hl:∀ n∈l,0≤n∧n<m):l.length≤m:=B59 h hl
def A6e (s:H2) (k:Nat):Bool:=decide (0≤s.ended.getD k 0)
def B2o (s:H2) (k:Nat):Bool:=decide (0≤s.begun.getD k 0) && !A6e s k
def PdK (p:D4) (s:H2):Prop:=∀ F,A5x F (A1w p)→StF F (B1c s)
abbrev B7z (F:Nat) (e:C7) (x:E0) (K:F7→Option (Except Int F7)) (n:Nat) (d:F7) (k:Int):Option (Except Int F7):=A0k F e x (fun t2 t3 t4 t5 t6 t7 t8 t9 t10 t11 t12 t13 t14 t15 t16 t17 t18 t19 t20 t21 t22 t23 t24 t25 t26 t27 _=>K (F7.mk t2 t3 t4 t5 t6 t7 t8 t9 t10 t11 t12 t13 t14 t15 t16 t17 t18 t19 t20 t21 t22 t23 t24 t25 t26 t27)) n d.H0 d.G8 d.G2 d.H4 d.G3 d.G9 d.H5 d.H9 d.E7 d.F8 d.I9 d.D8 d.G0 d.H6 d.G5 d.F5 d.E8 d.E5 d.F3 d.F4 d.A1 d.A5 d.F9 d.B1 d.A7 d.B0 k
theorem CF.set {p:D4} {s s':H2} (h:CF p s) (hp:PdK p s') (h1:s'.now=s.now) {b e:List Int} (h2:s'.begun=b) (h3:s'.ended=e) (hb:b.length=p.steps.length∧∀ k,k<p.steps.length → -1≤b.getD k 0∧b.getD k 0≤s.now) (he:e.length=p.steps.length∧∀ k,k<p.steps.length → -1≤e.getD k 0∧e.getD k 0≤s.now) (h5:s'.go.length=s.go.length) (h6:s'.left=s.left) (h7:s'.on_.length=s.on_.length):CF p s' where
 lb:=by rw[h2];exact hb.1
 le:=by rw[h3];exact he.1
 lg:=by rw[h5];exact h.lg
 ll:=by rw[h6];exact h.ll
 lo:=by rw[h7];exact h.lo
 now:=by rw[h1];exact h.now
 b:=by rw[h2,h1];exact hb.2
 e:=by rw[h3,h1];exact he.2
 l:=by rw[h6];exact h.l
 pd:=hp
abbrev B5Q (F:Nat) (log:List C7) (K:F7→List Int→Option ((Option F7) × (List Int) × Int)) (n:Nat) (d:F7) (why:List Int) (k:Int):Option ((Option F7) × (List Int) × Int):=A2c F log (fun d1 d2 d3 d4 d5 d6 d7 d8 d9 d10 d11 d12 d13 d14 d15 d16 d17 d18 d19 d20 d21 d22 d23 d24 d25 d26 why2 _=>K (F7.mk d1 d2 d3 d4 d5 d6 d7 d8 d9 d10 d11 d12 d13 d14 d15 d16 d17 d18 d19 d20 d21 d22 d23 d24 d25 d26) why2) n d.H0 d.G8 d.G2 d.H4 d.G3 d.G9 d.H5 d.H9 d.E7 d.F8 d.I9 d.D8 d.G0 d.H6 d.G5 d.F5 d.E8 d.E5 d.F3 d.F4 d.A1 d.A5 d.F9 d.B1 d.A7 d.B0 why k
theorem C0R {F:Nat} {a:List Int} (hl:a.length≤100):∀ (n k:Nat),a.length<n+k→k≤a.length→A81 F a a (fun _=>some true) n k=some true
 | 0,k,h,h2=>absurd h oM
 | n+1,k,h,h2=>by
  rw[A81]
  by_cases hk:k<a.length
  ·rw[if_pos oM,H3 hk,oS,oS,if_pos rfl,S0 oM,C0R hl n (k+1) oM oM]
  ·rw[if_neg oM]
theorem B8y {F:Nat} (hF:100<F) {a:List Int} (hl:a.length≤100):B3w F a a=some true:=by
 rw[B3w,if_pos rfl]
 exact C0R hl F 0 oM oM
theorem B92 {F:Nat} {a:List Bool} (hl:a.length≤100):∀ (n k:Nat),a.length<n+k→k≤a.length→A53 F a a (fun _=>some true) n k=some true
 | 0,k,h,h2=>absurd h oM
 | n+1,k,h,h2=>by
  rw[A53]
  by_cases hk:k<a.length
  ·rw[if_pos oM,H3 hk,oS,oS,if_neg sM,S0 oM,B92 hl n (k+1) oM oM]
  ·rw[if_neg oM]
theorem B93 {F:Nat} (hF:100<F) {a:List Bool} (hl:a.length≤100):B2M F a a=some true:=by
 rw[B2M,if_pos rfl]
 exact B92 hl F 0 oM oM
theorem C14 {F:Nat} {p:D4} {s:H2} (hf:CtF F p) (ho:A5Y p) (hs:CF p s):B53 F s s=some true:=by
 have hF:=hf.pd.f
 have:=ho.t16;have:=ho.s8;have:=ho.b6
 have:=hs.lb;have:=hs.le;have:=hs.lg;have:=hs.ll;have:=hs.lo
 rw[B53,if_pos rfl,C1m (hs.pd F hf.pd),oS,if_pos rfl,B8y hF oM,oS,if_pos rfl,B8y hF oM,oS,if_pos rfl,if_pos sM,B93 hF oM,oS,if_pos rfl,B8y hF oM,oS,if_pos rfl,B93 hF oM]
 rfl
structure C1t (p:D4) (s:H2):Prop where
 a:∀ k,k<p.steps.length→s.begun.getD k 0<0→s.ended.getD k 0<0
 l:∀ k,k<p.steps.length→0≤s.ended.getD k 0→(p.steps.getD k default).least≤s.ended.getD k 0-s.begun.getD k 0∧s.ended.getD k 0-s.begun.getD k 0≤(p.steps.getD k default).most
 n:∀ k,k<p.steps.length→0≤s.begun.getD k 0→∀ m∈(p.steps.getD k default).need,0≤s.ended.getD m.toNat 0∧s.ended.getD m.toNat 0≤s.begun.getD k 0
 e:0≤s.ended.getD (p.steps.length-1) 0→(p.Q8≤s.ended.getD (p.steps.length-1) 0∧s.ended.getD (p.steps.length-1) 0≤p.O8)∧s.ended.getD (p.steps.length-1) 0=s.now
def C0m (y:List Int) (l:List Int) (n:Int):Int:=l.foldl (fun n m=>max n (y.getD m.toNat 0)) n
def C1H (p:D4) (s:H2) (t:Int) (y:List Int) (k:Nat):Int :=
 bif A6e s k then s.ended.getD k 0 else bif B2o s k then max t (s.begun.getD k 0+(p.steps.getD k default).least)else C0m y (p.steps.getD k default).need t+(p.steps.getD k default).least
def B3l (p:D4) (s:H2) (t:Int):Nat→List Int
 | 0=>[]
 | k+1=>B3l p s t k++[C1H p s t (B3l p s t k) k]
theorem C1g (p:D4) (s:H2) (t:Int):∀ k,(B3l p s t k).length=k
 | 0=>rfl
 | k+1=>by rw[B3l,List.length_append,C1g p s t k];rfl
theorem C1p {p:D4} {s:H2} {t:Int} {j:Nat}:∀ {k:Nat},j<k→(B3l p s t k).getD j 0=C1H p s t (B3l p s t j) j
 | 0,h=>by omega
 | k+1,h=>by
  rw[B3l]
  have hl:=C1g p s t k
  by_cases hj:j=k
  ·subst hj
   simp[List.getD_eq_getElem?_getD,List.getElem?_append_right,hl]
  ·rw[← C1p (p:=p) (s:=s) (t:=t) (j:=j) (k:=k) oM]
   have hjk:j<(B3l p s t k).length:=by rw[hl];omega
   simp[List.getD_eq_getElem?_getD,List.getElem?_append_left hjk]
theorem C1L (y:List Int):∀ (l:List Int) (n:Int),n≤C0m y l n∧∀ m∈l,y.getD m.toNat 0≤C0m y l n
 | [],n=>⟨Int.le_refl _,fun m h=>by simp at h⟩
 | x::l,n=>by
  obtain⟨h1,h2⟩:=C1L y l (max n (y.getD x.toNat 0))
  refine⟨by show n≤C0m y l (max n (y.getD x.toNat 0));omega,fun m hm=>?_⟩
  show y.getD m.toNat 0≤C0m y l (max n (y.getD x.toNat 0))
  rcases List.mem_cons.1 hm with rfl | hm
  ·omega
  ·exact h2 m hm
theorem C1M (y:List Int) {b:Int}:∀ (l:List Int) (n:Int),n≤b→(∀ m∈l,y.getD m.toNat 0≤b)→C0m y l n≤b
 | [],n,h,_=>h
 | x::l,n,h,h2=>C1M y l (max n (y.getD x.toNat 0)) (by have:=h2 x sM;omega) fun m hm=>h2 m (by simp[hm])
theorem C1R {p:D4} {s:H2} {t:Int} (ho:A5Y p) (hs:CF p s) (ht:0≤t∧t≤100000):∀ k,k≤p.steps.length→∀ j,j<k→0≤(B3l p s t k).getD j 0∧(B3l p s t k).getD j 0≤120000+20000*j
 | 0,_,j,h=>by omega
 | k+1,hk,j,hj=>by
  rw[C1p hj]
  have hjk:j<p.steps.length:=by omega
  have hx:=ho.t j hjk
  have hl:=hx.l;have hm:=hx.m
  have hb:=hs.b j hjk
  have hee:=hs.e j hjk
  have hn:=hs.now
  unfold C1H
  cases hd:A6e s j with
  | true =>
   rw[cT]
   have:0≤s.ended.getD j 0:=of_decide_eq_true hd
   omega
  | false =>
   rw[cF]
   cases B2o s j with
   | true=>rw[cT];omega
   | false =>
    rw[cF]
    have h1:=(C1L (B3l p s t j) (p.steps.getD j default).need t).1
    have h2:C0m (B3l p s t j) (p.steps.getD j default).need t≤100000+20000*j:=by
     refine C1M _ _ _ oM fun m hm=>?_
     have hmd:=hx.nd m hm
     have:=(C1R ho hs ht j oM m.toNat oM).2
     omega
    omega
def C3i (p:D4) (k:Nat):Int:=(B3l p (A0U p) 0 p.steps.length).getD k 0
def C4k (f:Nat→Int) (l:List Int) (v:Int):Int:=l.foldl (fun v m=>if v<0 then m else if f v.toNat<f m.toNat then m else v) v
theorem C5x (f:Nat→Int):∀ (l:List Int) (v:Int),(∀ m∈l,0≤m)→(v<0∧l=[]∧C4k f l v=v)∨(0≤C4k f l v∧(C4k f l v=v∨C4k f l v∈l)∧(0≤v→f v.toNat≤f (C4k f l v).toNat)∧∀ m∈l,f m.toNat≤f (C4k f l v).toNat)
 | [],v,h=>by
  by_cases hv:v<0
  ·exact .inl ⟨hv,rfl,rfl⟩
  ·exact .inr ⟨by show 0≤v;omega,.inl rfl,fun _=>Int.le_refl _,fun m hm=>by simp at hm⟩
 | m::l,v,h=>by
  have hm:=h m sM
  have e:C4k f (m::l) v=C4k f l (if v<0 then m else if f v.toNat<f m.toNat then m else v):=rfl
  rw[e]
  have ih:=fun w=>C5x f l w fun x hx=>h x (by simp[hx])
  have fin:∀ w,0≤w→(w=v∨w=m)→(0≤v→f v.toNat≤f w.toNat)→f m.toNat≤f w.toNat→(v<0∧m::l=[]∧C4k f l w=v)∨(0≤C4k f l w∧(C4k f l w=v∨C4k f l w∈m::l)∧(0≤v→f v.toNat≤f (C4k f l w).toNat)∧∀ x∈m::l,f x.toNat≤f (C4k f l w).toNat):=fun w h0 h1 h2 h3=>by
   rcases ih w with⟨k1,_,_⟩ | ⟨k1,k2,k3,k4⟩
   ·omega
   ·have k3:=k3 h0
    refine .inr ⟨k1,?_,fun hv=>by have:=h2 hv;omega,fun x hx=>?_⟩
    ·rcases k2 with k2 | k2
     ·rcases h1 with h1 | h1
      ·exact .inl (by rw[k2,h1])
      ·exact .inr (by rw[k2,h1];simp)
     ·exact .inr (by simp[k2])
    ·rcases List.mem_cons.1 hx with rfl | hx
     ·omega
     ·exact k4 x hx
  by_cases hv:v<0
  ·rw[if_pos hv]
   exact fin m hm (.inr rfl) (fun h0=>by omega) (Int.le_refl _)
  ·rw[if_neg hv]
   by_cases hf:f v.toNat<f m.toNat
   ·rw[if_pos hf]
    exact fin m hm (.inr rfl) (fun _=>by omega) (Int.le_refl _)
   ·rw[if_neg hf]
    exact fin v oM (.inl rfl) (fun _=>Int.le_refl _) oM
def C3S (p:D4) (k:Nat):Int:=C4k (C3i p) (p.steps.getD k default).need (-1)
theorem C4D {p:D4} {k:Nat} (h:k<p.steps.length):A6e (A0U p) k=false∧B2o (A0U p) k=false:=by
 have h1:(A0U p).begun.getD k 0 = -1:=A5J _ _ _ _ h
 have h2:(A0U p).ended.getD k 0 = -1:=A5J _ _ _ _ h
 unfold B2o A6e
 rw[h1,h2]
 exact⟨rfl,rfl⟩
theorem C5V {p:D4} {k:Nat} (h:k<p.steps.length):C3i p k=C0m (B3l p (A0U p) 0 k) (p.steps.getD k default).need 0+(p.steps.getD k default).least:=by
 unfold C3i
 rw[C1p h]
 unfold C1H
 rw[(C4D h).1,(C4D h).2]
 rfl
theorem C5g {p:D4} {k m:Nat} (h:k≤p.steps.length) (hm:m<k):(B3l p (A0U p) 0 k).getD m 0=C3i p m:=by
 unfold C3i
 rw[C1p hm,C1p oM]
theorem C4r {p:D4} (ho:A5Y p) {k:Nat} (h:k<p.steps.length):0≤C3i p k∧C3i p k≤120000+20000*k:=C1R ho (B1z ho) ⟨Int.le_refl 0,by decide⟩ p.steps.length (Nat.le_refl _) k h
theorem C5a {p:D4} (ho:A5Y p) {k:Nat} (h:k<p.steps.length) :
 ((p.steps.getD k default).need=[]∧C3S p k = -1∧C3i p k=(p.steps.getD k default).least)∨(C3S p k∈(p.steps.getD k default).need∧(∀ m∈(p.steps.getD k default).need,C3i p m.toNat≤C3i p (C3S p k).toNat)∧C3i p k=C3i p (C3S p k).toNat+(p.steps.getD k default).least):=by
 have hso:=ho.t k h
 rw[C5V h]
 have hnd:=hso.nd
 rcases C5x (C3i p) (p.steps.getD k default).need (-1) fun m hm=>(hnd m hm).1 with⟨_,k2,k3⟩ | ⟨k1,k2,_,k4⟩
 ·refine .inl ⟨k2,k3,?_⟩
  rw[k2]
  show 0+_=_
  omega
 ·have hb:C3S p k∈(p.steps.getD k default).need:=by
   rcases k2 with k2 | k2
   ·rw[k2]at k1;omega
   ·exact k2
  refine .inr ⟨hb,k4,?_⟩
  have hbr:=hnd _ hb
  have hg:=C1L (B3l p (A0U p) 0 k) (p.steps.getD k default).need 0
  have h1:=hg.2 _ hb
  rw[C5g oM oM]at h1
  have h0:=(C4r ho (k:=(C3S p k).toNat) oM).1
  have h2:=C1M (B3l p (A0U p) 0 k) (b:=C3i p (C3S p k).toNat) (p.steps.getD k default).need 0 h0 fun m hm=>by
   have:=hnd m hm
   rw[C5g oM oM]
   exact k4 m hm
  omega
def C5Y (p:D4) (k:Nat):List Int:=B14 p.steps.length fun j=>if j<k then C3i p j else 0
def aT (p:D4) (k:Nat) (v:Int):List Int:=B14 p.steps.length fun j=>if j<k then C3S p j else if j=k then v else -1
theorem C4Z {F:Nat} {p:D4} (ho:A5Y p) {k:Nat} (hk:k<p.steps.length) {K:List Int→Int→Option (List Int × Int)}:∀ (n j:Nat) (v:Int),(p.steps.getD k default).need.length<n+j→j≤(p.steps.getD k default).need.length→(v<0∨(0≤v∧v<k)) →
  B90 F (C5Y p k) k (p.steps.getD k default) K n (aT p k v) j=K (aT p k (C4k (C3i p) ((p.steps.getD k default).need.drop j) v)) ((p.steps.getD k default).need.length:Int)
 | 0,j,v,h,h2,_=>absurd h oM
 | n+1,j,v,h,h2,hv=>by
  have t16:=ho.t16
  have hso:=ho.t k hk
  have hnl:=B0F hso.na hso.nd
  rw[B90]
  by_cases hj:j<(p.steps.getD k default).need.length
  ·have hm:=hso.nd _ (List.getElem_mem hj)
   obtain⟨m,hme⟩:∃ m,(p.steps.getD k default).need[j]=m:=⟨_,rfl⟩
   rw[hme]at hm
   have hal:k<(aT p k v).length:=by unfold aT;rw[B15];exact hk
   have hav:P3 (aT p k v) (k:Int)=some v:=by
    rw[H3 hal,← J6 0 hal]
    unfold aT
    rw[B48 hk,if_neg oM,if_pos rfl]
   have hset:∀ w,A5g (aT p k v) (k:Int) w=some (aT p k w):=fun w=>by
    rw[A31]
    refine congrArg some (B2D 0 (by rw[List.length_set];unfold aT;rw[B15]) fun i hi=>?_)
    rw[sG hal]
    unfold aT
    rw[B48 hi]
    by_cases hik:i=k
    ·rw[if_pos hik,if_neg oM,if_pos hik]
    ·rw[if_neg hik,if_neg hik,if_neg hik]
   have hd:∀ q:Int,0≤q∧q<k→P3 (C5Y p k) q=some (C3i p q.toNat):=fun q hq=>by
    obtain⟨i,rfl⟩:∃ i:Nat,q=i:=⟨q.toNat,by omega⟩
    have hdl:i<(C5Y p k).length:=by unfold C5Y;rw[B15];omega
    rw[H3 hdl,← J6 0 hdl]
    unfold C5Y
    rw[B48 oM,if_pos oM]
    rfl
   have hdrop:C4k (C3i p) ((p.steps.getD k default).need.drop j) v=C4k (C3i p) ((p.steps.getD k default).need.drop (j+1)) (if v<0 then m else if C3i p v.toNat<C3i p m.toNat then m else v):=by
    rw[lD hj,hme]
    rfl
   rw[if_pos oM,H3 hj,oS,hme,hav,oS,S0 oM,hdrop]
   by_cases hv0:v<0
   ·rw[if_pos hv0,if_pos hv0,hset,oS,C4Z ho hk n (j+1) m oM oM oM]
   ·rw[if_neg hv0,if_neg hv0,hd m hm,oS,hd v oM,oS]
    by_cases hlt:C3i p v.toNat<C3i p m.toNat
    ·rw[if_pos hlt,if_pos hlt,hset,oS,C4Z ho hk n (j+1) m oM oM oM]
    ·rw[if_neg hlt,if_neg hlt,C4Z ho hk n (j+1) v oM oM hv]
  ·obtain rfl:j=(p.steps.getD k default).need.length:=by omega
   rw[if_neg oM,List.drop_length]
   rfl
theorem C6Q {p:D4} {k:Nat} (hk:k<p.steps.length) {l:List Int} {w:Int} (hl:l=(C5Y p k).set k w):l.set k (C3i p k)=C5Y p (k+1):=by
 have h1:(C5Y p k).length=p.steps.length:=by unfold C5Y;rw[B15]
 subst hl
 rw[List.set_set]
 refine B2D 0 (by rw[List.length_set,h1]) fun i hi=>?_
 rw[sG oM]
 unfold C5Y
 rw[B48 hi]
 by_cases hik:i=k
 ·rw[if_pos hik,if_pos oM,hik]
 ·rw[if_neg hik]
  by_cases hlt:i<k
  ·rw[if_pos hlt,if_pos oM]
  ·rw[if_neg hlt,if_neg oM]
theorem C5U {p:D4} {k:Nat}:aT p k (C3S p k)=aT p (k+1) (-1):=by
 refine B2D 0 (by unfold aT;rw[B15]) fun i hi=>?_
 unfold aT
 rw[B48 hi]
 by_cases hik:i=k
 ·rw[if_neg oM,if_pos hik,if_pos oM,hik]
 ·rw[if_neg hik]
  by_cases hlt:i<k
  ·rw[if_pos hlt,if_pos oM]
  ·rw[if_neg hlt,if_neg oM,ite_self]
theorem C5p {F:Nat} {p:D4} (hF:100<F) (ho:A5Y p) {K:List Int→List Int→Int→Option (List Int × Int)}:∀ (n k:Nat),p.steps.length<n+k→k≤p.steps.length →
  C1B F p K n (C5Y p k) (aT p k (-1)) k=K (C5Y p p.steps.length) (aT p p.steps.length (-1)) p.steps.length
 | 0,k,h,h2=>absurd h oM
 | n+1,k,h,h2=>by
  have t16:=ho.t16
  rw[C1B]
  by_cases hk:k<p.steps.length
  ·have hso:=ho.t k hk
   have hnl:=B0F hso.na hso.nd
   have hm:=hso.m;have hle:=hso.l
   have hdl:(C5Y p k).length=p.steps.length:=by unfold C5Y;rw[B15]
   have hal:(aT p (k+1) (-1)).length=p.steps.length:=by unfold aT;rw[B15]
   have h1:=C4Z (F:=F) ho hk (K:=fun(a2:List Int) (x2:Int)=>(P3 (C5Y p k) k).bind fun e6=>(A5g (C5Y p k) k (p.steps.getD k default).least).bind fun rv4=>(P3 a2 k).bind fun e7=>if 0≤e7 then((P3 rv4 k).bind fun e8=>(P3 rv4 e7).bind fun e9=>(A5g rv4 k (W (e8+e9))).bind fun rv5=>C1B F p K n rv5 a2 (W ((k:Int)+1)))else(C1B F p K n rv4 a2 (W ((k:Int)+1)))) F 0 (-1) oM oM (.inl dM)
   rw[if_pos oM,H3 hk,oS,← J6 default hk]
   refine h1.trans ?_
   rw[List.drop_zero]
   show(P3 (C5Y p k) k).bind _=_
   rw[show aT p k (C4k (C3i p) (p.steps.getD k default).need (-1))=aT p (k+1) (-1)from C5U,H3 (show k<(C5Y p k).length by omega),oS,A31,oS,H3 (show k<(aT p (k+1) (-1)).length by omega),oS,S0 oM,← J6 0 (show k<(aT p (k+1) (-1)).length by omega),show(aT p (k+1) (-1)).getD k 0=C3S p k by unfold aT;rw[B48 hk,if_pos oM]]
   have hr:=C4r ho hk
   rcases C5a ho hk with⟨e1,e2,e3⟩ | ⟨e1,e2,e3⟩
   ·rw[e2,if_neg dM,← e3]
    have:=C6Q hk (l:=(C5Y p k).set k 0) (w:=0) rfl
    rw[List.set_set]at this
    rw[this]
    exact C5p hF ho n (k+1) oM oM
   ·have hb:=hso.nd _ e1
    have hbr:=C4r ho (k:=(C3S p k).toNat) oM
    obtain⟨b,hbe⟩:∃ b:Nat,C3S p k=b:=⟨(C3S p k).toNat,by omega⟩
    rw[hbe,tN]at e3 hbr
    rw[hbe]at hb
    have hsl:((C5Y p k).set k (p.steps.getD k default).least).length=p.steps.length:=by rw[List.length_set,hdl]
    rw[hbe,if_pos oM,H3 (show k<((C5Y p k).set k (p.steps.getD k default).least).length by omega),oS,H3 (show b<((C5Y p k).set k (p.steps.getD k default).least).length by omega),oS,A31,oS,← J6 0 (show k<((C5Y p k).set k (p.steps.getD k default).least).length by omega),← J6 0 (show b<((C5Y p k).set k (p.steps.getD k default).least).length by omega),sG oM,if_pos rfl,sG oM,if_neg oM,show(C5Y p k).getD b 0=C3i p b by unfold C5Y;rw[B48 oM,if_pos oM],A8K oM oM,show(p.steps.getD k default).least+C3i p b=C3i p k by omega,C6Q hk rfl]
    exact C5p hF ho n (k+1) oM oM
  ·obtain rfl:k=p.steps.length:=by omega
   rw[if_neg oM]
def C50 (o:List Int) (i:Nat):List Int:=B14 o.length fun k=>if k<i∨o.length-1-i<k then o.getD (o.length-1-k) 0 else o.getD k 0
theorem C51 {F:Nat} {o:List Int} (hl:o.length≤100) (h0:0<o.length) {c:List Int→Option (List Int)}:∀ (n i:Nat),o.length<n+i→2*i≤o.length→i<o.length→N3 F (fun s _ _=>c s) n (C50 o i) i ((o.length-1-i:Nat):Int)=c o.reverse
 | 0,i,h,h2,h3=>absurd h oM
 | n+1,i,h,h2,h3=>by
  have hlen:(C50 o i).length=o.length:=by unfold C50;rw[B15]
  have hg:∀ k,k<o.length→(C50 o i).getD k 0=if k<i∨o.length-1-i<k then o.getD (o.length-1-k) 0 else o.getD k 0:=fun k hk=>by unfold C50;rw[B48 hk]
  have hix:∀ (l:List Int) (k:Nat),l.length=o.length→k<o.length→P3 l (k:Int)=some (l.getD k 0):=fun l k hl hk=>by rw[J6 0 oM];exact H3 oM
  rw[N3]
  by_cases hij:(i:Int)<((o.length-1-i:Nat):Int)
  ·rw[if_pos hij,hix _ _ hlen oM,oS,hix _ _ hlen oM,oS,A31,oS,hix _ _ (by rw[List.length_set,hlen]) oM,oS,A31,oS,S0 oM,A8K (x:=((o.length-1-i:Nat):Int)-1) oM oM,show((o.length-1-i:Nat):Int)-1=((o.length-1-(i+1):Nat):Int) by omega]
   rw[hg _ (show o.length-1-i<o.length by omega),if_neg oM,hg _ h3,if_neg oM]
   have:((C50 o i).set i (o.getD (o.length-1-i) 0)).set (o.length-1-i) (o.getD i 0)=C50 o (i+1):=by
    refine B2D 0 (by rw[List.length_set,List.length_set,hlen]) fun k hk=>?_
    rw[sG (by rw[List.length_set,hlen];omega),sG oM,hg k hk]
    by_cases h5:k=o.length-1-i
    ·rw[if_pos h5,if_pos oM,h5,show o.length-1-(o.length-1-i)=i by omega]
    ·rw[if_neg h5]
     by_cases h6:k=i
     ·rw[if_pos h6,if_pos oM,h6]
     ·rw[if_neg h6]
      by_cases h7:k<i∨o.length-1-i<k
      ·rw[if_pos h7,if_pos oM]
      ·rw[if_neg h7,if_neg oM]
   rw[this]
   exact C51 hl h0 n (i+1) oM oM oM
  ·rw[if_neg hij]
   refine congrArg c (List.ext_getElem (by rw[hlen,List.length_reverse]) fun k h5 h6=>?_)
   have hk:k<o.length:=by omega
   rw[List.getElem_reverse,← J6 0 h5,hg k hk,← J6 0 (show o.length-1-k<o.length by omega)]
   by_cases h7:k<i∨o.length-1-i<k
   ·rw[if_pos h7]
   ·rw[if_neg h7,show o.length-1-k=k by omega]
theorem C55 {F:Nat} (hF:100<F) {o:List Int} (hl:o.length≤100):C1C F o=some o.reverse:=by
 rw[C1C]
 cases o with
 | nil =>
  obtain⟨m,rfl⟩:∃ m,F=m+1:=⟨F-1,by omega⟩
  rw[N3,if_neg dM]
  rfl
 | cons a l =>
  have h1:C50 (a::l) 0=a::l:=(B2D 0 rfl fun k hk=>by rw[if_neg oM]).symm
  have:=C51 (F:=F) (o:=a::l) (c:=some) hl sM F 0 oM oM sM
  rw[h1]at this
  rw[A8K oM oM,show((a::l).length:Int)-1=(((a::l).length-1-0:Nat):Int) by simp]
  exact this
def upC (p:D4):Nat→Int→List Int
 | 0,_=>[]
 | n+1,x=>if 0≤x then upC p n (C3S p x.toNat)++[x]else[]
theorem C5c {p:D4} (ho:A5Y p) {k:Nat} (h:k<p.steps.length) : -1≤C3S p k∧C3S p k<k:=by
 rcases C5a ho h with⟨_,e,_⟩ | ⟨e,_,_⟩
 ·rw[e];omega
 ·have:=(ho.t k h).nd _ e;omega
theorem C5B {F:Nat} {p:D4} (ho:A5Y p) {c:List Int→Option (List Int × Int)}:∀ (n:Nat) (A:List Int) (x:Int),-1≤x→x<p.steps.length→x+1<n→A.length+x≤100→C1P F (aT p p.steps.length (-1)) (fun A _=>c A) n A x=c (A++(upC p n x).reverse)
 | 0,A,x,h1,h2,h3,_=>by omega
 | n+1,A,x,h1,h2,h3,h4=>by
  rw[C1P]
  unfold upC
  by_cases hx:0≤x
  ·obtain⟨k,rfl⟩:∃ k:Nat,x=k:=⟨x.toNat,by omega⟩
   have hk:k<p.steps.length:=by omega
   have hal:k<(aT p p.steps.length (-1)).length:=by unfold aT;rw[B15];exact hk
   have hr:=C5c ho hk
   rw[if_pos hx,if_pos hx,A8O oM,oS,H3 hal,oS,← J6 0 hal,show(aT p p.steps.length (-1)).getD k 0=C3S p k by unfold aT;rw[B48 hk,if_pos hk],C5B ho n (A++[(k:Int)]) (C3S p k) oM oM oM (by rw[List.length_append];simp;omega),List.reverse_append,tN]
   simp
  ·rw[if_neg hx,if_neg hx]
   simp
theorem C56 {p:D4} (ho:A5Y p):∀ (n:Nat) (x:Int),-1≤x→x<p.steps.length→((upC p n x).length:Int)≤x+1
 | 0,x,h,_=>by show((0:Nat):Int)≤_;omega
 | n+1,x,h,h2=>by
  unfold upC
  by_cases hx:0≤x
  ·have hr:=C5c ho (k:=x.toNat) oM
   have:=C56 ho n (C3S p x.toNat) oM oM
   rw[if_pos hx,List.length_append]
   simp
   omega
  ·rw[if_neg hx]
   show((0:Nat):Int)≤_
   omega
structure C6i (p:D4) (l:List Int) (i:Nat):Prop where
 r:0≤l.getD i 0∧l.getD i 0<p.steps.length
 z:i=0→(p.steps.getD (l.getD i 0).toNat default).need=[]∧C3i p (l.getD i 0).toNat=(p.steps.getD (l.getD i 0).toNat default).least
 s:0<i→l.getD (i-1) 0∈(p.steps.getD (l.getD i 0).toNat default).need∧C3i p (l.getD i 0).toNat=C3i p (l.getD (i-1) 0).toNat+(p.steps.getD (l.getD i 0).toNat default).least
def C6k (p:D4) (F:Nat):List Int:=upC p F (p.steps.length-1)
theorem C5S {F:Nat} {p:D4} (hf:CtF F p):C2x F p=some (if(A35 p).2.2=0 then(C6k p F,0)else([],(A35 p).2.2)):=by
 have hF:=hf.pd.f
 rw[C2x,B7s hf,oS]
 by_cases h0:(A35 p).2.2=0
 ·have ho:=A95 h0
  have t1:=ho.t1;have t16:=ho.t16
  rw[if_pos h0,if_pos h0,B0U oM,oS,B5w hF t16,oS]
  have e1:List.replicate p.steps.length (0:Int)=C5Y p 0:=B2D 0 List.length_replicate fun k hk=>by rw[A5J _ _ _ _ hk,if_neg oM]
  have e2:List.replicate p.steps.length (-1:Int)=aT p 0 (-1):=B2D 0 List.length_replicate fun k hk=>by rw[A5J _ _ _ _ hk,if_neg oM,ite_self]
  rw[e1,e2,A8K (x:=(p.steps.length:Int)-1) oM oM]
  refine(C5p hF ho F 0 oM oM).trans ?_
  refine(C5B (c:=fun A=>(C3u (C1C F A) A).bind fun rv6=>some (rv6,(0:Int))) ho F [] ((p.steps.length:Int)-1) oM oM oM (by simp;omega)).trans ?_
  have hl:=C56 ho F ((p.steps.length:Int)-1) oM oM
  have hre:=C55 hF (o:=(upC p F ((p.steps.length:Int)-1)).reverse) (by rw[List.length_reverse];omega)
  rw[List.reverse_reverse]at hre
  rw[List.nil_append,hre]
  show(C3u (some (upC p F ((p.steps.length:Int)-1))) _).bind _=_
  unfold C3u
  rw[oS,if_pos (by rw[List.length_reverse])]
  rfl
 ·rw[if_neg h0,if_neg h0]
theorem C8T (F:Nat) (n lo hi:Int):C9m F n lo hi=some (!N9 n lo hi):=by
 unfold C9m N9
 split
 ·rename_i h
  by_cases h2:n≤hi
  ·rw[dT h2,dF oM];rfl
  ·rw[dF h2,dT oM];rfl
 ·rename_i h;rw[dT oM];rfl
theorem C88 {F:Nat} {many:Int} (hm:0≤many∧many<9223372036854775808) {l:List Int} (hl:l.length<F∧l.length<9223372036854775808):C7W F l many=some (!A4n many l):=by
 have key:∀ (n k:Nat),l.length<n+k→k≤l.length→C7l F l many (fun _=>some true) n k=some (!(l.drop k).any fun n=>N9 n 0 (many-1)):=fun n=>by
  induction n with
  | zero=>intro k h;omega
  | succ n ih =>
   intro k h h2
   rw[C7l]
   by_cases hk:k<l.length
   ·rw[if_pos oM,H3 hk,oS,A8K,C8T,oS,S0 oM,ih (k+1) oM oM,lD hk,List.any_cons]
    cases N9 l[k] 0 (many-1)<;>simp
   ·rw[if_neg oM,lL oM];rfl
 rw[C7W,show(0:Int)=((0:Nat):Int)from rfl,key F 0 oM oM,List.drop_zero]
 rfl
theorem C8l {F:Nat} {l:List Int} (hl:l.length<F∧l.length<9223372036854775808):C7i F l=some (A6a l):=by
 have key:∀ (n k:Nat),l.length<n+k→1≤k→k≤l.length→C6E F l (fun _=>some true) n k=some (A6a (l.drop (k-1))):=fun n=>by
  induction n with
  | zero=>intro k h;omega
  | succ n ih =>
   intro k h h1 h2
   rw[C6E]
   by_cases hk:k<l.length
   ·rw[if_pos oM,H3 hk,oS,B23 h1 oM,H3 (by omega:k-1<l.length),oS,S0 oM,ih (k+1) oM oM oM,
     lD (by omega:k-1<l.length),show k-1+1=k by omega,show k+1-1=k by omega,lD hk,A6a]
    by_cases hc:l[k]≤l[k-1]
    ·rw[if_pos hc,dF (by omega:¬ l[k-1]<l[k])];rfl
    ·rw[if_neg hc,dT (by omega:l[k-1]<l[k])];rfl
   ·rw[if_neg oM,lD (by omega:k-1<l.length),lL oM]
    rfl
 rw[C7i]
 by_cases h0:0<l.length
 ·have:=key F 1 oM oM oM
  rw[Nat.sub_self,List.drop_zero]at this
  exact this
 ·have:l=[]:=by cases l<;>simp at h0 ⊢
  subst this
  obtain⟨n,rfl⟩:∃ n,F=n+1:=⟨F-1,by omega⟩
  rfl
def stN (l:List ByteArray) (k:Nat):Int:=nmE (l.take k) (l.getD k default)
theorem D04 {F:Nat} {l:List ByteArray} (hl:l.length<9223372036854775808) {e:ByteArray} {i:Nat} (hi:i≤l.length) {c:Option (Int × Int)}:∀ (n k:Nat),i<n+k→k≤i→C7X F l i e (fun _=>c) n k=bif ((l.take i).drop k).any (fun b=>decide (b.toList=e.toList))then some ((i:Int),5)else c
 | 0,k,h,h2=>absurd h oM
 | n+1,k,h,h2=>by
  rw[C7X]
  by_cases hk:k<i
  ·have hk2:k<(l.take i).length:=by rw[List.length_take];omega
   rw[if_pos oM,H3 (by omega:k<l.length),oS,S0 oM,D04 hl hi n (k+1) oM oM,lD hk2,List.any_cons,List.getElem_take]
   by_cases hc:l[k].toList=e.toList
   ·rw[if_pos hc,dT hc];rfl
   ·rw[if_neg hc,dF hc];rfl
  ·rw[if_neg oM,lL (by rw[List.length_take];omega)];rfl
theorem D0l {F:Nat} {l:List ByteArray} (hl:l.length<F∧l.length<9223372036854775808) (hn:∀ x∈l,x.size<F∧x.size<9223372036854775808):C9n F l=some (A4d (stN l) l.length 0):=by
 have key:∀ (n k:Nat),l.length<n+k→k≤l.length→C7p F l (fun _=>some (0,0)) n k=some (A4d (stN l) (l.length-k) k):=fun n=>by
  induction n with
  | zero=>intro k h;omega
  | succ n ih =>
   intro k h h2
   rw[C7p]
   by_cases hk:k<l.length
   ·have hx:=hn _ (List.getElem_mem hk)
    have e0:stN l k=nmE (l.take k) l[k]:=by unfold stN;rw[J6 default hk]
    rw[if_pos oM,H3 hk,oS,D0w hx.2 hx.1,oS,show l.length-k=(l.length-(k+1))+1 by omega,A4d]
    have:=D04 (F:=F) hl.2 (e:=l[k]) (by omega:k≤l.length) (c:=C7p F l (fun _=>some (0,0)) n (W ((k:Int)+1))) F 0 oM oM
    rw[show((0:Nat):Int)=0 from rfl,List.drop_zero]at this
    rw[this,S0 oM,ih (k+1) oM oM,e0]
    unfold nmE
    cases hp:A7C l[k]with
    | false=>simp
    | true =>
     cases ha:(l.take k).any (fun b=>decide (b.toList=l[k].toList))<;>simp
   ·rw[if_neg oM,show l.length-k=0 by omega];rfl
 rw[C9n,show(0:Int)=((0:Nat):Int)from rfl]
 exact key F 0 oM oM
theorem D0a {f:Nat→Int}:∀ (m k:Nat),(∀ j,k≤j→j<k+m→f j=0)→A4d f (m+1) k=if f (k+m)=0 then(0,0)else(((k+m:Nat):Int),f (k+m))
 | 0,k,h=>by
  rw[A4d,A4e];rfl
 | m+1,k,h=>by
  rw[A4d,dT (h k (Nat.le_refl _) oM),cT,D0a m (k+1) fun j h1 h2=>h j oM oM,show k+1+m=k+(m+1) by omega]
theorem D02 {F:Nat} {l:List ByteArray} (hl:l.length<F∧l.length<9223372036854775807) (hn:∀ x∈l,x.size<F∧x.size<9223372036854775808) {i:Nat} (hi:i<l.length) (h0:∀ j,j<i→stN l j=0):C9E F l i=some (stN l i):=by
 have hlen:(l.take (i+1)).length=i+1:=by rw[List.length_take];omega
 have hst:∀ j,j<i+1→stN (l.take (i+1)) j=stN l j:=fun j hj=>by
  unfold stN
  rw[List.take_take,Nat.min_eq_left oM,J6 default (by omega:j<(l.take (i+1)).length),J6 default (by omega:j<l.length),List.getElem_take]
 rw[C9E,S0 oM,B0w oM,oS,D0l (by rw[hlen];omega) fun x hx=>hn x (List.mem_of_mem_take hx),oS,hlen,
  D0a i 0 fun j _ h2=>(hst j oM).trans (h0 j oM),Nat.zero_add,hst i oM]
 by_cases hz:stN l i=0
 ·rw[if_pos hz,hz]
  split<;>rfl
 ·rw[if_neg hz,if_pos rfl]
theorem D0V {F:Nat} (hF:100<F) (x:Int) {n:Nat} (hn:n≤8):C9p F x (n:Int)=some (List.replicate n x):=by
 obtain⟨m,rfl⟩:∃ m,F=m+20:=⟨F-20,by omega⟩
 match n,hn with
 | 0,_=>rfl
 | 1,_=>rfl
 | 2,_=>rfl
 | 3,_=>rfl
 | 4,_=>rfl
 | 5,_=>rfl
 | 6,_=>rfl
 | 7,_=>rfl
 | 8,_=>rfl
theorem D1k {F:Nat} {p:D5} (h:A5x F p):C8M F p=some (A4C p):=by
 rw[C8M,D0i h,oS]
 unfold A4C
 by_cases h0:(A2n p).2.2=0
 ·have ho:=A60 h0
  have k1:=ho.p8
  have k2:=ho.k8
  have k3:=ho.q6
  rw[if_pos h0,if_pos h0,D0V h.f _ k1,oS,D0V h.f _ k2,oS,D0V h.f _ oM]
  rfl
 ·rw[if_neg h0,if_neg h0]
theorem D1q {F:Nat} {p:D4} (h:A5x F (A1w p)) (a:D2):C98 F p a=some (A9U (A1w p) a):=by
 rw[C98,show D5.mk p.N4 p.P5 p.N6 p.S5 p.J3 p.Q7 p.T9=A1w p from rfl,D1k h,oS,D1S h (B42 h.f),oS]
 unfold A9U
 by_cases hc:(DoP (A1w p) (A4C (A1w p)).1 a).2<170
 ·rw[if_neg oM,dT hc];rfl
 ·rw[if_pos oM,dF hc];rfl
theorem D16 {F:Nat} {p:D4} (h:CtF F p) {x:E0} (hx:B7k F x):∀ (n k:Nat),x.acts.length<n+k→k≤x.acts.length→C8a F p x (fun _=>some 0) n k=some (B3z (A1w p) (x.acts.drop k))
 | 0,k,h1,h2=>absurd h1 oM
 | n+1,k,h1,h2=>by
  rw[C8a]
  by_cases hk:k<x.acts.length
  ·have:=hx.a
   rw[if_pos oM,H3 hk,oS,D1q h.pd,oS,S0 oM,D16 h hx n (k+1) oM oM,lD hk,B3z,A4e,A4e,← A6z,← A6z]
  ·rw[if_neg oM,lL oM]
   rfl
theorem D15 {α:Type} (a:Bool) (X Y:α):(if(!a)=true then X else Y)=bif a then Y else X:=by cases a<;>rfl
theorem D27 {α:Type} (a:Bool) [Decidable (a=true)] (X Y:α):(bif decide (a=true)then X else Y)=bif !a then Y else X:=by cases a<;>simp
theorem D0r {α:Type} [Inhabited α] (nm:α→ByteArray) (l:List α) {j k:Nat} (hj:j≤k) (hk:k<l.length):stN ((l.take (k+1)).map nm) j=nmE ((l.take j).map nm) (nm (l.getD j default)):=by
 unfold stN
 rw[← List.map_take,List.take_take,Nat.min_eq_left oM,J6 default (by rw[List.length_map,List.length_take];omega),J6 default (by omega:j<l.length),List.getElem_map,List.getElem_take]
theorem D0E {α:Type} {a b:Bool} {A B:α} (h:a=b):(bif a then A else B)=bif b then A else B:=by rw[h]
theorem D2F {a b:Int} {α:Type} (A B:α):(bif N9 a 0 20000 then A else bif N9 b a 20000 then A else B)=bif N9 b 0 20000 then A else bif N9 a 0 b then A else B:=by
 rw[B7q,B7q]
 refine D0E ?_
 rw[Bool.eq_iff_iff]
 simp only[N9,Bool.or_eq_true,decide_eq_true_eq]
 omega
theorem D11 {F:Nat} {p:D4} (h:CtF F p) (h16:p.steps.length≤16) {k:Nat} (hk:k<p.steps.length) (h0:∀ j,j<k→nmE ((p.steps.take j).map (·.name)) (p.steps.getD j default).name=0):C9S F p ((p.steps.take (k+1)).map (·.name)) k=some (B10 p k):=by
 have hx:=h.st _ (List.getElem_mem hk)
 have hF:=h.pd.f
 have hb:=h.lb
 have hlen:((p.steps.take (k+1)).map (·.name)).length=k+1:=by rw[List.length_map,List.length_take];omega
 have hnm:=D02 (F:=F) (l:=(p.steps.take (k+1)).map (·.name)) (by rw[hlen];omega) (fun x hx=>by
  obtain⟨y,hy,rfl⟩:=List.mem_map.1 hx
  exact(h.st y (List.mem_of_mem_take hy)).n) (i:=k) oM fun j hj=>(D0r (·.name) p.steps oM hk).trans (h0 j hj)
 rw[D0r (·.name) p.steps (Nat.le_refl _) hk]at hnm
 have ha:C8a F p p.steps[k] (fun _=>some 0) F 0=_:=D16 h hx F 0 (by have:=hx.a;omega) oM
 rw[C9S,H3 hk,oS,hnm,oS]
 simp only[C9w,C9v,C9u,C88 (F:=F) (many:=k) ⟨by omega,by omega⟩ hx.d,C88 (F:=F) (many:=(p.batteries.length:Int)) ⟨by omega,by omega⟩ hx.o,C88 (F:=F) (many:=(p.batteries.length:Int)) ⟨by omega,by omega⟩ hx.u,C88 (F:=F) (many:=(p.batteries.length:Int)) ⟨by omega,by omega⟩ hx.f,
  C8l hx.d,C8l hx.o,C8l hx.u,C8l hx.f,C8T,oS,ha,List.drop_zero,D15]
 unfold B10
 rw[J6 default hk]
 simp only[D2F,List.any_cons,List.any_nil,Bool.or_false,← B7q,A6z,A4e,D27]
theorem C9P {ρ:Type} {g:Nat→ρ→Int→Option (Int × Int × Int)} {f:Nat→Int} {len:Nat} {pt:Int} {c:Option (Int × Int × Int)} (rk:Nat→ρ) (h0:∀ (n k:Nat),k<len→(∀ j,j<k→f j=0)→f k=0→g (n+1) (rk k) k=g n (rk (k+1)) ((k+1:Nat):Int)) (he:∀ (n k:Nat),k<len→(∀ j,j<k→f j=0)→f k≠0→g (n+1) (rk k) k=some (pt,(k:Int),f k)) (h1:∀ n r,g (n+1) r len=c) :
 ∀ (n k:Nat),(∀ j,j<k→f j=0)→len<n+k→k≤len→g n (rk k) k=A7x pt (A4d f (len-k) k) c
 | 0,k,_,h,h2=>absurd h oM
 | n+1,k,hj,h,h2=>by
  by_cases hk:k<len
  ·rw[show len-k=(len-(k+1))+1 by omega,A4d]
   by_cases hf:f k=0
   ·rw[h0 n k hk hj hf,C9P rk h0 he h1 n (k+1) (fun j h3=>by
     rcases Nat.lt_or_ge j k with h4 | h4
     ·exact hj j h4
     ·obtain rfl:j=k:=by omega
      exact hf) oM oM,dT hf,cT]
   ·rw[he n k hk hj hf,dF hf,cF,A7x,dF hf,cF]
  ·obtain rfl:k=len:=by omega
   rw[h1,Nat.sub_self,A4d];rfl
theorem D06 {α β:Type} (nm:α→β) {l:List α} {k:Nat} (h:k<l.length):(l.take k).map nm++[nm l[k]]=(l.take (k+1)).map nm:=by
 rw[List.take_succ_eq_append_getElem h,List.map_append];rfl
theorem D1X {p:D4} {k:Nat} (h:B10 p k=0):nmE ((p.steps.take k).map (·.name)) (p.steps.getD k default).name=0:=by
 unfold B10 at h
 by_cases h0:nmE ((p.steps.take k).map (·.name)) (p.steps.getD k default).name=0
 ·exact h0
 ·rw[dF h0,cF]at h;exact h
theorem D2f {p:D4} {k:Nat} (h:B6m p k=0):nmE ((p.batteries.take k).map (·.name)) (p.batteries.getD k default).name=0:=by
 unfold B6m at h
 by_cases h0:nmE ((p.batteries.take k).map (·.name)) (p.batteries.getD k default).name=0
 ·exact h0
 ·rw[dF h0,cF]at h;exact h
theorem RL2 {F:Nat} {p:D4} (h:CtF F p) (hs:1≤p.steps.length∧p.steps.length≤16) (c:Option (Int × Int × Int)):C6B F p (fun _ _=>c) F [] 0=A7x 5 (A4d (B10 p) p.steps.length 0) c:=by
 have hF:=h.pd.f
 have one:∀ (n k:Nat) (hk:k<p.steps.length),(∀ j,j<k→B10 p j=0)→C6B F p (fun _ _=>c) (n+1) ((p.steps.take k).map (·.name)) k=if B10 p k=0 then C6B F p (fun _ _=>c) n ((p.steps.take (k+1)).map (·.name)) ((k+1:Nat):Int)else some (5,(k:Int),B10 p k):=fun n k hk hj=>by
  rw[C6B,if_pos oM,H3 hk,oS,A8O (by rw[List.length_map,List.length_take];omega),oS,D06 (·.name) hk,D11 h hs.2 hk fun j h3=>D1X (hj j h3),oS,S0 oM]
 exact C9P (g:=C6B F p (fun _ _=>c)) (f:=B10 p) (len:=p.steps.length) (pt:=5) (c:=c) (fun k=>(p.steps.take k).map (·.name))
  (fun n k hk hj hf=>by rw[one n k hk hj,if_pos hf]) (fun n k hk hj hf=>by rw[one n k hk hj,if_neg hf]) (fun n r=>by rw[C6B,if_neg oM]) F 0 (fun j h3=>absurd h3 oM) oM oM
theorem RL3 {F:Nat} {p:D4} (h:CtF F p) (hs:p.batteries.length≤6) (c:Option (Int × Int × Int)):C4C F p (fun _ _=>c) F [] 0=A7x 4 (A4d (B6m p) p.batteries.length 0) c:=by
 have hF:=h.pd.f
 have one:∀ (n k:Nat) (hk:k<p.batteries.length),(∀ j,j<k→B6m p j=0)→C4C F p (fun _ _=>c) (n+1) ((p.batteries.take k).map (·.name)) k=if B6m p k=0 then C4C F p (fun _ _=>c) n ((p.batteries.take (k+1)).map (·.name)) ((k+1:Nat):Int)else some (4,(k:Int),B6m p k):=fun n k hk hj=>by
  have hlen:((p.batteries.take (k+1)).map (·.name)).length=k+1:=by rw[List.length_map,List.length_take];omega
  have hnm:=D02 (F:=F) (l:=(p.batteries.take (k+1)).map (·.name)) (by rw[hlen];omega) (fun x hx=>by
   obtain⟨y,hy,rfl⟩:=List.mem_map.1 hx
   exact h.bn y (List.mem_of_mem_take hy)) (i:=k) oM fun j h3=>(D0r (·.name) p.batteries oM hk).trans (D2f (hj j h3))
  rw[D0r (·.name) p.batteries (Nat.le_refl _) hk]at hnm
  rw[C4C,if_pos oM,H3 hk,oS,A8O (by rw[List.length_map,List.length_take];omega),oS,D06 (·.name) hk,hnm,oS,C8T,C8T]
  unfold B6m
  rw[J6 default hk]
  simp only[oS,C7U,S0 (show k<9223372036854775807 by omega)]
  by_cases h0:nmE ((p.batteries.take k).map (·.name)) p.batteries[k].name=0
  ·rw[if_pos h0,dT h0,cT]
   cases N9 p.batteries[k].charge 1 1000000<;>cases N9 p.batteries[k].rate 1 1000<;>simp only[h0,Bool.not_false,Bool.not_true,if_true,Bool.false_eq_true,if_false,cT,cF]<;>rfl
  ·rw[if_neg h0,dF h0,cF,if_neg h0]
 exact C9P (g:=C4C F p (fun _ _=>c)) (f:=B6m p) (len:=p.batteries.length) (pt:=4) (c:=c) (fun k=>(p.batteries.take k).map (·.name))
  (fun n k hk hj hf=>by rw[one n k hk hj,if_pos hf]) (fun n k hk hj hf=>by rw[one n k hk hj,if_neg hf]) (fun n r=>by rw[C4C,if_neg oM]) F 0 (fun j h3=>absurd h3 oM) oM oM
theorem RL1 {F:Nat} {p:D4} (h:CtF F p) (hs:1≤p.steps.length∧p.steps.length≤16) (c:Option (Int × Int × Int)):C4B F p (fun _=>c) F 0=A7x 6 (A4d (A9K p) p.points.length 0) c:=by
 have hp:=h.lp
 have one:∀ (n k:Nat) (hk:k<p.points.length),C4B F p (fun _=>c) (n+1) k=if A9K p k=0 then C4B F p (fun _=>c) n ((k+1:Nat):Int)else some (6,(k:Int),A9K p k):=fun n k hk=>by
  rw[C4B,if_pos oM,H3 hk,oS,A8K,C8T,oS,S0 oM,D15]
  unfold A9K
  rw[J6 0 hk]
  cases N9 p.points[k] 0 ((p.steps.length:Int)-1)with
  | true=>rfl
  | false =>
   rw[cF,cF]
   by_cases h0:0<k
   ·rw[if_pos oM,B23 h0 oM,H3 (by omega:k-1<p.points.length),oS,dT h0,Bool.true_and,J6 0 (by omega:k-1<p.points.length)]
    by_cases hc:p.points[k]≤p.points[k-1]
    ·rw[if_pos hc,dT hc];rfl
    ·rw[if_neg hc,dF hc];rfl
   ·rw[if_neg oM,dF h0];rfl
 exact C9P (ρ:=Unit) (g:=fun n _ k=>C4B F p (fun _=>c) n k) (f:=A9K p) (len:=p.points.length) (pt:=6) (c:=c) (fun _=>())
  (fun n k hk hj hf=>by show C4B F p (fun _=>c) (n+1) k=_;rw[one n k hk,if_pos hf]) (fun n k hk hj hf=>by show C4B F p (fun _=>c) (n+1) k=_;rw[one n k hk,if_neg hf]) (fun n r=>by show C4B F p (fun _=>c) (n+1) _=c;rw[C4B,if_neg oM]) F 0 (fun j h3=>absurd h3 oM) oM oM
theorem C97 {F:Nat} {p:D4} (h:CtF F p):C8S F p=some (A35 p):=by
 have hF:=h.pd.f
 rw[C8S,show D5.mk p.N4 p.P5 p.N6 p.S5 p.J3 p.Q7 p.T9=A1w p from rfl,D0b h.pd,oS,C8T,oS,D15]
 unfold A35
 by_cases h0:(A2n (A1w p)).2.2=0
 ·rw[if_pos h0,dT h0,cT]
  unfold B6p
  by_cases h1:8<(p.stations.length:Int)
  ·rw[if_pos h1,dT h1];rfl
  ·rw[if_neg h1,dF h1,Bool.false_or]
   by_cases h2:6<(p.batteries.length:Int)
   ·rw[if_pos h2,dT h2];rfl
   ·rw[if_neg h2,dF h2,Bool.false_or]
    cases h3:N9 p.steps.length 1 16 with
    | true=>rfl
    | false =>
     have h4:=O6.1 h3
     rw[cF,cF,C8Y,D0l ⟨by omega,by omega⟩ h.sn,oS]
     simp only[RL1 h ⟨by omega,by omega⟩,RL2 h ⟨by omega,by omega⟩,RL3 h (show p.batteries.length≤6 by omega),C8T,oS,D15]
     unfold B8g
     rw[← A5O,← A5O,← A5O,← A5O]
     have ew:(bif N9 p.Q8 0 100000 then some ((7:Int),(0:Int),(7:Int))else bif N9 p.O8 p.Q8 100000 then some (7,0,7)else some (0,0,0))=some (B3p p):=by
      unfold B3p
      rw[B7q,A6z,A6z,B7q]
      refine D0E ?_
      rw[Bool.eq_iff_iff]
      simp only[N9,Bool.or_eq_true,decide_eq_true_eq]
      omega
     rw[ew]
     show _=A7x 3 (A4d (stN p.stations) p.stations.length 0) _
     unfold A7x
     by_cases h5:(A4d (stN p.stations) p.stations.length 0).2=0
     ·rw[if_pos h5,dT h5,cT]
     ·rw[if_neg h5,dF h5,cF]
 ·rw[if_neg h0,dF h0,cF]
theorem D17 {α:Type} (a:α) (k:Nat):List.replicate k a++[a]=List.replicate (k+1) a:=by rw[List.replicate_succ']
theorem RS2 {F:Nat} {p:D4} (h16:p.steps.length≤16) {K:List Int→List Int→Int→Option H2}:∀ (n k:Nat),p.steps.length<n+k→k≤p.steps.length→C7Z F p K n (List.replicate k (-1)) (List.replicate k (-1)) k=K (List.replicate p.steps.length (-1)) (List.replicate p.steps.length (-1)) (p.steps.length:Int)
 | 0,k,h,h2=>absurd h oM
 | n+1,k,h,h2=>by
  rw[C7Z]
  by_cases hk:k<p.steps.length
  ·rw[if_pos oM,A8O (by rw[List.length_replicate];omega),oS,oS,D17,S0 oM,RS2 h16 n (k+1) oM oM]
  ·obtain rfl:k=p.steps.length:=by omega
   rw[if_neg oM]
theorem RS1 {F:Nat} {p:D4} (h6:p.batteries.length≤6) {K:List Int→List Bool→Int→Option H2}:∀ (n k:Nat),p.batteries.length<n+k→k≤p.batteries.length→C7Y F p K n ((p.batteries.take k).map (·.charge)) (List.replicate k false) k=K (p.batteries.map (·.charge)) (List.replicate p.batteries.length false) (p.batteries.length:Int)
 | 0,k,h,h2=>absurd h oM
 | n+1,k,h,h2=>by
  rw[C7Y]
  by_cases hk:k<p.batteries.length
  ·rw[if_pos oM,H3 hk,oS,A8O (by rw[List.length_map,List.length_take];omega),oS,A8O (by rw[List.length_replicate];omega),oS,D17,D06 (·.charge) hk,S0 oM,RS1 h6 n (k+1) oM oM]
  ·obtain rfl:k=p.batteries.length:=by omega
   rw[if_neg oM,List.take_length]
theorem D1p {F:Nat} {p:D4} (h:CtF F p) (ho:A5Y p):C9o F p=some (A0U p):=by
 have hF:=h.pd.f
 have t16:=ho.t16;have b6:=ho.b6;have s8:=ho.s8
 rw[C9o,show D5.mk p.N4 p.P5 p.N6 p.S5 p.J3 p.Q7 p.T9=A1w p from rfl,D1k h.pd,oS]
 refine(RS2 t16 F 0 oM oM).trans ?_
 refine(RS1 b6 F 0 oM oM).trans ?_
 rw[B0U oM]
 rfl
theorem D1n {F:Nat} {p:D4} (h:CtF F p):C96 F p=some (if(A35 p).2.2=0 then(A0U p,0)else(B9C,(A35 p).2.2)):=by
 rw[C96,C97 h,oS]
 by_cases h0:(A35 p).2.2=0
 ·rw[if_pos h0,if_pos h0,D1p h (A95 h0)];rfl
 ·rw[if_neg h0,if_neg h0];rfl
theorem D1N {F:Nat} {p:D4} (h:CtF F p):C8A F p=some (if(A35 p).2.2=0 then(A0U p,0)else(B9C,(A35 p).2.2)):=by
 rw[C8A,B7o h,oS]
 by_cases h0:(A35 p).2.2=0
 ·rw[if_pos h0,if_pos h0];rfl
 ·rw[if_neg h0,if_neg h0]
  rw[if_neg h0];rfl
theorem C6F {α:Type} (f:Nat→α) (k:Nat):B14 k f++[f k]=B14 (k+1) f:=by
 unfold B14
 rw[List.range_succ,List.map_append];rfl
def bst (p:D4) (v:Int):Int:=if v<0 then 0 else C3i p v.toNat
theorem RP1 {F:Nat} {p:D4} (ho:A5Y p) {k:Nat} (hk:k<p.steps.length) {K:Int→Int→Int→Option (List Int × Int)}:∀ (n j:Nat) (v:Int),(p.steps.getD k default).need.length<n+j→j≤(p.steps.getD k default).need.length→(v<0∨(0≤v∧v<k)) →
  C7z F p (B14 k (C3i p)) k K n (bst p v) v j=K (bst p (C4k (C3i p) ((p.steps.getD k default).need.drop j) v)) (C4k (C3i p) ((p.steps.getD k default).need.drop j) v) ((p.steps.getD k default).need.length:Int)
 | 0,j,v,h,h2,_=>absurd h oM
 | n+1,j,v,h,h2,hv=>by
  have t16:=ho.t16
  have hso:=ho.t k hk
  have hnl:=B0F hso.na hso.nd
  rw[C7z,H3 hk,oS,← J6 default hk]
  by_cases hj:j<(p.steps.getD k default).need.length
  ·have hm:=hso.nd _ (List.getElem_mem hj)
   obtain⟨m,hme⟩:∃ m,(p.steps.getD k default).need[j]=m:=⟨_,rfl⟩
   rw[hme]at hm
   have hd:P3 (B14 k (C3i p)) m=some (C3i p m.toNat):=by
    obtain⟨i,rfl⟩:∃ i:Nat,m=i:=⟨m.toNat,by omega⟩
    have hdl:i<(B14 k (C3i p)).length:=by rw[B15];omega
    rw[H3 hdl,← J6 0 hdl,B48 oM]
    rfl
   have hdrop:C4k (C3i p) ((p.steps.getD k default).need.drop j) v=C4k (C3i p) ((p.steps.getD k default).need.drop (j+1)) (if v<0 then m else if C3i p v.toNat<C3i p m.toNat then m else v):=by
    rw[lD hj,hme]
    rfl
   have hbm:C3i p m.toNat=bst p m:=by unfold bst;rw[if_neg oM]
   rw[if_pos oM,H3 hj,oS,hme,hd,oS,oS,S0 oM,hdrop]
   by_cases hv0:v<0
   ·rw[if_pos hv0,if_pos hv0,hbm,RP1 ho hk n (j+1) m oM oM oM]
   ·have hbv:bst p v=C3i p v.toNat:=by unfold bst;rw[if_neg hv0]
    rw[if_neg hv0,if_neg hv0]
    by_cases hlt:C3i p v.toNat<C3i p m.toNat
    ·rw[if_pos (by rw[hbv];exact hlt),if_pos hlt,hbm,RP1 ho hk n (j+1) m oM oM oM]
    ·rw[if_neg (by rw[hbv];exact hlt),if_neg hlt,RP1 ho hk n (j+1) v oM oM hv]
  ·obtain rfl:j=(p.steps.getD k default).need.length:=by omega
   rw[if_neg oM,List.drop_length]
   rfl
theorem RP3 {F:Nat} {p:D4} (hF:100<F) (ho:A5Y p) {K:List Int→List Int→Int→Option (List Int × Int)}:∀ (n k:Nat),p.steps.length<n+k→k≤p.steps.length →
  C7V F p K n (B14 k (C3i p)) (B14 k (C3S p)) k=K (B14 p.steps.length (C3i p)) (B14 p.steps.length (C3S p)) (p.steps.length:Int)
 | 0,k,h,h2=>absurd h oM
 | n+1,k,h,h2=>by
  have t16:=ho.t16
  rw[C7V]
  by_cases hk:k<p.steps.length
  ·have hso:=ho.t k hk
   have hnl:=B0F hso.na hso.nd
   rw[if_pos oM]
   refine(RP1 (K:=fun x2 x3 x4=>(P3 p.steps (k:Int)).bind fun e5=>(A8i (B14 k (C3i p)) [W (x2+e5.least)]).bind fun q=>(A8i (B14 k (C3S p)) [x3]).bind fun q2=>C7V F p K n q q2 (W ((k:Int)+1))) ho hk F 0 (-1) oM oM oM).trans ?_
   have hpv:C4k (C3i p) ((p.steps.getD k default).need.drop 0) (-1)=C3S p k:=rfl
   have hl:=hso.l;have hm:=hso.m
   have hb:0≤bst p (C3S p k)∧bst p (C3S p k)≤1000000∧bst p (C3S p k)+(p.steps.getD k default).least=C3i p k:=by
    rcases C5a ho hk with⟨_,e1,e2⟩ | ⟨e0,_,e2⟩
    ·rw[e1];unfold bst;rw[if_pos oM];omega
    ·have hr:=hso.nd _ e0
     have hd:=C4r ho (k:=(C3S p k).toNat) oM
     unfold bst;rw[if_neg oM];omega
   rw[hpv,H3 hk,oS,← J6 default hk,A8O (by rw[B15];omega),oS,A8O (by rw[B15];omega),oS,A8K (x:=bst p (C3S p k)+(p.steps.getD k default).least) oM oM,hb.2.2,C6F,C6F,S0 oM,RP3 hF ho n (k+1) oM oM]
  ·obtain rfl:k=p.steps.length:=by omega
   rw[if_neg oM]
theorem RP2 {F:Nat} {p:D4} (ho:A5Y p) {c:List Int→Option (List Int × Int)}:∀ (n:Nat) (A:List Int) (x:Int),-1≤x→x<p.steps.length→x+1<n→A.length+x≤100→C8p F (B14 p.steps.length (C3S p)) (fun A _=>c A) n A x=c (upC p n x++A)
 | 0,A,x,h1,h2,h3,_=>by omega
 | n+1,A,x,h1,h2,h3,h4=>by
  rw[C8p]
  unfold upC
  by_cases hx:0≤x
  ·obtain⟨k,rfl⟩:∃ k:Nat,x=k:=⟨x.toNat,by omega⟩
   have hk:k<p.steps.length:=by omega
   have hal:k<(B14 p.steps.length (C3S p)).length:=by rw[B15];exact hk
   have hr:=C5c ho hk
   have ha:A8i [(k:Int)] A=some ((k:Int)::A):=by unfold A8i;rw[if_pos (by simp;omega)];rfl
   rw[if_pos hx,if_pos hx,ha,oS,H3 hal,oS,← J6 0 hal,B48 hk,RP2 ho n ((k:Int)::A) (C3S p k) oM oM oM (by rw[List.length_cons];omega),tN,List.append_assoc]
   rfl
  ·rw[if_neg hx,if_neg hx]
   rfl
theorem D10 {F:Nat} {p:D4} (hf:CtF F p):C9D F p=some (if(A35 p).2.2=0 then(C6k p F,0)else([],(A35 p).2.2)):=by
 have hF:=hf.pd.f
 rw[C9D,C97 hf,oS]
 by_cases h0:(A35 p).2.2=0
 ·have ho:=A95 h0
  have t1:=ho.t1;have t16:=ho.t16
  rw[if_pos h0,if_pos h0,A8K (x:=(p.steps.length:Int)-1) oM oM]
  refine(RP3 hF ho F 0 oM oM).trans ?_
  refine(RP2 (c:=fun A=>some (A,(0:Int))) ho F [] ((p.steps.length:Int)-1) oM oM oM (by simp;omega)).trans ?_
  rw[List.append_nil]
  rfl
 ·rw[if_neg h0,if_neg h0]
theorem D14 {F:Nat} (hF:100<F):B53 F B9C B9C=some true:=by
 obtain⟨n,rfl⟩:∃ n,F=n+2:=⟨F-2,by omega⟩
 rfl
theorem D1u {F:Nat} {p:D4} (hf:CtF F p) (ha:A7X 100=some true):C8h F p=some true:=by
 have hF:=hf.pd.f
 rw[C8h,B7s hf,oS,C97 hf,oS,if_pos rfl,if_pos rfl,if_pos rfl,C8c,D1N hf,oS,D1n hf,oS]
 have hs:B53 F (if(A35 p).2.2=0 then(A0U p,(0:Int))else(B9C,(A35 p).2.2)).1 (if(A35 p).2.2=0 then(A0U p,(0:Int))else(B9C,(A35 p).2.2)).1=some true:=by
  by_cases h0:(A35 p).2.2=0
  ·rw[if_pos h0];exact C14 hf (A95 h0) (B1z (A95 h0))
  ·rw[if_neg h0];exact D14 hF
 rw[hs,oS,if_pos rfl,if_pos rfl,C8b,C5S hf,oS,D10 hf,oS]
 have hi:B3w F (if(A35 p).2.2=0 then(C6k p F,(0:Int))else([],(A35 p).2.2)).1 (if(A35 p).2.2=0 then(C6k p F,(0:Int))else([],(A35 p).2.2)).1=some true:=by
  refine B8y hF ?_
  by_cases h0:(A35 p).2.2=0
  ·rw[if_pos h0]
   have ho:=A95 h0
   have t1:=ho.t1;have t16:=ho.t16
   have:=C56 ho F ((p.steps.length:Int)-1) oM oM
   show(upC p F _).length≤100
   omega
  ·rw[if_neg h0];simp
 rw[hi,oS,if_pos rfl,if_pos rfl,ha]
 rfl
end Go.Proofs.YtlaogbbcipebgaaGreat
