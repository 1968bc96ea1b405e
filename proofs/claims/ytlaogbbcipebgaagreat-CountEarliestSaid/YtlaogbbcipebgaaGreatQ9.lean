/- The plain part of pad.Do, to its end. -/
import Derived.Test.YtlaogbbcipebgaaGreatQ1
set_option linter.unusedVariables false
set_option linter.unusedSimpArgs false
open Bool renaming true_and→bf,not_not→fb,cond_not→cA,false_or→bu,false_and→bO,not_true→dA,not_false→cU,false_eq_true→bR,or_false→bU,or_eq_false_iff→cg,or_eq_true→cd
open Except renaming ok→ev
open Int renaming reduceEq→bA,le_refl→cm
open List renaming getElem_mem→aj,any_eq_false→eB,range'→az,getElem?_set→eC,foldl_cons→bY,take_of_length_le→di,all_eq_true→ax,any_cons→bd,mem_or_eq_of_mem_set→ci,drop_zero→aB,length_take→aN,replicate→ak,length_replicate→aL,any_nil→cW,length_map→aS,getD_eq_getElem?_getD→am,length_set→aX
open Nat renaming sub_zero→aP,sub_self→cJ,le_refl→aw
open Option renaming bind→ed
open Go Go.Proofs.YtlaogbbcipebgaaGreat.Sh Go.Proofs
namespace Go.Proofs.YtlaogbbcipebgaaGreat
def B79 (p:D5) (s:C3) (a:D2):Except Int C3 :=
 if a.kind=1 then B7I p s a else if a.kind=2 then B8p p s a else if a.kind=3 then B9T p s a else if a.kind=4 then B74 p s a else if a.kind=5 then B97 p s a else if a.kind=6 then B2B p s a else if a.kind=7 then B73 p s a else if a.kind=8 then B5y p s a else B16 s a
def B4L (t:Int):Except Int C3→Except Int C3
 | .ok s => .ok {s with now:=t}
 | .error e => .error e
def B1Q (p:D5) (s:C3) (a:D2):Except Int C3:=if a.at_<s.now then .error 170 else B4L a.at_ (B79 p s a)
def A87:C3:=⟨0,[],[],[],0,false⟩
def C0d:Except Int C3→C3 × Int
 | .ok s=>(s,0)
 | .error e=>(A87,e)
theorem A6X {F:Nat} {p:D5} {a:D2} (r:Except Int C3):exE (scR p r) (fun x=>some ((C3.mk 0 ([]:List Int) ([]:List Int) ([]:List Int) 0 false),x)) (fun v2=>A1J F a v2.O0 v2.V4 v2.O3 v2.A0r v2.O4 v2.X3 v2.A0s v2.N7 v2.A9 v2.A8 v2.A4 v2.I3 v2.I1)=some (C0d (B4L a.at_ r)):=by
 cases r<;>rfl
theorem B6I {F:Nat} {p:D5} {s:C3} {a:D2} (h:A5X F p s a):A9J F p s a=some (C0d (B1Q p s a)):=by
 rw[A9J,A9l h.hs,oS];show((J4 F (decide (s.now≤a.at_)) 170).bind _)=_;rw[Y8];unfold B1Q B79;by_cases ht:a.at_<s.now
 ·rw[if_pos ht,show decide (s.now≤a.at_)=false from dF oM];rfl
 rw[if_neg ht,show decide (s.now≤a.at_)=true from dT oM,cT];rcases h.a.k with k | k | k | k | k | k | k | k | k<;>simp only[k,bA,if_true,if_false]
 ·rw[B8J h k,oS];exact A6X _
 ·rw[B9o h k,oS];exact A6X _
 ·rw[B9U h k,oS];exact A6X _
 ·rw[B8G h k,oS];exact A6X _
 ·rw[B98 h k,oS];exact A6X _
 ·rw[B6w h k,oS];exact A6X _
 ·rw[B8D h k,oS];exact A6X _
 ·rw[B8j h k,oS];exact A6X _
 ·rw[B50 h,oS];exact A6X _
def Rm (o:Option (C3 × Int × C3)) (s:C3) (r:Except Int C3):Prop :=
 ∃ x e m,o=some (x,e,m)∧(m.zones.length=s.zones.length∧m.holder.length=s.holder.length∧m.squibs.length=s.squibs.length) ∧
  match r with
  | .ok s'=>e=0∧s'={x with zones:=m.zones,holder:=m.holder,squibs:=m.squibs}
  | .error e'=>e=e'∧e'≠0
theorem Rm.bif {b:Bool} {o1 o2:Option (C3 × Int × C3)} {s:C3} {r1 r2:Except Int C3} (h1:b=true→Rm o1 s r1) (h2:b=false→Rm o2 s r2):Rm (bif b then o1 else o2) s (bif b then r1 else r2):=by
 cases b with
 | true=>exact h1 rfl
 | false=>exact h2 rfl
theorem Rm.err {s x m:C3} {e:Int} (h1:m.zones.length=s.zones.length:=by simp) (h2:m.holder.length=s.holder.length:=by simp) (h3:m.squibs.length=s.squibs.length:=by simp) (he:e≠0:=by decide):Rm (some (x,e,m)) s (.error e):=⟨x,e,m,rfl,⟨h1,h2,h3⟩,rfl,he⟩
theorem Rm.ok {s x m s':C3} (hs:s'={x with zones:=m.zones,holder:=m.holder,squibs:=m.squibs}) (h1:m.zones.length=s.zones.length:=by simp) (h2:m.holder.length=s.holder.length:=by simp) (h3:m.squibs.length=s.squibs.length:=by simp):Rm (some (x,0,m)) s (.ok s'):=⟨x,0,m,rfl,⟨h1,h2,h3⟩,rfl,hs⟩
theorem Rm.of {o o':Option (C3 × Int × C3)} {s:C3} {r r':Except Int C3} (h:Rm o s r) (ho:o'=o) (hr:r'=r):Rm o' s r':=by
 subst ho hr;exact h
theorem D0y (p q:Prop) [Decidable p] [Decidable q] (h:p↔¬ q):decide p=!decide q:=by
 by_cases hq:q
 ·rw[dT hq,dF (fun hp=>h.1 hp hq)];rfl
 ·rw[dF hq,dT (h.2 hq)];rfl
theorem D34 {F:Nat} {p:D5} {s:C3} {a:D2} (h:A5X F p s a) {x:Nat} (hx:x<p.squibs.length) (c:Option (C3 × Int × C3)):C6u F p s a x (fun _=>c) F 0=bif decide (s.squibs.getD x 0=1)&&(p.squibs.getD x default).keys.any (fun e=>decide (a.what=e))then some (s,177,s)else c:=by
 have hF:=h.h.f;have hx':x<s.squibs.length:=by have:=h.f.lq;omega
 have hk:=B3K h.o (aj hx);have:=A4H (g:=fun n y=>C6u F p s a x (fun _=>c) n y) (f:=fun k=>!(decide (s.squibs.getD x 0=1)&&decide (a.what=p.squibs[x].keys.getD k 0))) (len:=p.squibs[x].keys.length) (c:=c) (fl:=some (s,177,s)) (fun n k hk'=>by
  rw[C6u,H3 hx,oS,if_pos oM,H3 hx',oS,H3 hk',oS,C8K,S0 oM,J6 _ hx',J6 _ hk'];simp only[A4e];rw[show decide (p.squibs[x].keys[k]=a.what)=decide (a.what=p.squibs[x].keys[k]) by rw[decide_eq_decide];exact eq_comm];cases decide (s.squibs[x]=1)<;>cases decide (a.what=p.squibs[x].keys[k])<;>rfl) (fun n=>by rw[C6u,H3 hx,oS,if_neg oM]) F 0 oM oM
 rw[z0]at this;refine this.trans ?_;rw[aP,J6 _ hx];have e:=A93 p.squibs[x].keys 0 (fun e=>!(decide (s.squibs.getD x 0=1)&&decide (a.what=e)));rw[e,B86];cases decide (s.squibs.getD x 0=1)
 ·rw[show(p.squibs[x].keys.any fun e=>false&&decide (a.what=e))=false from eB.2 sM];rfl
 ·simp only[bf];cases(p.squibs[x].keys.any fun e=>decide (a.what=e))<;>rfl
theorem D35 {F:Nat} {p:D5} {s:C3} {a:D2} (h:A5X F p s a) (c:Option (C3 × Int × C3)):C7r F p s a (fun _=>c) F 0=bif B27 p s (fun q=>q.keys.any (fun e=>decide (a.what=e)))then some (s,177,s)else c:=by
 have hF:=h.h.f;have hq6:=h.o.q6;have hlq:=h.f.lq;have:=A4H (g:=fun n y=>C7r F p s a (fun _=>c) n y) (f:=fun k=>!(decide (s.squibs.getD k 0=1)&&(p.squibs.getD k default).keys.any (fun e=>decide (a.what=e)))) (len:=p.squibs.length) (c:=c) (fl:=some (s,177,s)) (fun n k hk=>by
  rw[C7r,if_pos oM,D34 h hk,S0 oM];cases decide (s.squibs.getD k 0=1)&&(p.squibs.getD k default).keys.any (fun e=>decide (a.what=e))<;>rfl) (fun n=>by rw[C7r,if_neg oM]) F 0 oM oM
 rw[z0]at this;refine this.trans ?_;unfold B27;rw[aP,hlq];cases(az 0 p.squibs.length).all (fun k=>!(decide (s.squibs.getD k 0=1)&&(p.squibs.getD k default).keys.any (fun e=>decide (a.what=e))))<;>rfl
theorem D1v {F:Nat} {p:D5} {s:C3} {a:D2} (h:A5X F p s a) (k:a.kind=2∨a.kind=3∨a.kind=4):Rm (C9A F p s a) s (B79 p s a):=by
 obtain⟨i,ei,hi,hi'⟩:=h.who;obtain⟨j,ej,hj,hj'⟩:=h.key k;have hg:=D16 h.f j;rw[C9A,ei,B0x hi',oS];simp only[ej,A9C hj',oS,A31,D35 h];unfold B79;rcases k with k | k | k<;>simp only[k,bA,if_true,if_false]
 ·unfold B8p dm atP;rw[ei,ej];simp only[A4e];refine Rm.bif (fun _=>?_) (fun _ => .err);rw[show B3H s (j:Int)=!decide (s.holder.getD (j:Int).toNat (-1) = -1)from D0y _ _ (by rw[tN];omega),fb];refine Rm.bif (fun _=>?_) (fun _ => .err);rw[cA];exact Rm.bif (fun _ => .err) (fun _ => .ok rfl)
 ·unfold B9T dm atP;rw[ei,ej];simp only[A4e];exact Rm.bif (fun _=>Rm.bif (fun _ => .ok rfl) (fun _ => .err)) (fun _ => .err)
 ·have hw:=h.a.give k;have hl:=h.f.lz;obtain⟨m,em⟩:∃ m:Nat,a.with_=m:=⟨a.with_.toNat,by omega⟩;have hm:m<s.zones.length:=by omega
  have hz:s.zones.getD (i:Int).toNat 0<p.zones.length:=by rw[tN,J6 _ hi'];exact(h.f.z _ (aj hi')).2
  have hk:=C9Y h.h h.o (A6f h.f (j:Int) (v:=(m:Int)) oM) i hz;unfold B74 dm;rw[ei,ej,em,B0x hm];simp only[oS];have e:∀ c:Option (C3 × Int × C3),(if s.zones.getD (i:Int).toNat 0=p.panel then c else c)=c:=fun c=>by split<;>rfl
  rw[e];simp only[A4e];refine Rm.bif (fun _=>Rm.bif (fun _=>?_) (fun _ => .err)) (fun _ => .err);show Rm ((C8q F p (A6g s j m) i (s.zones.getD (i:Int).toNat 0)).bind _) s _;rw[hk,oS];simp only[A0q];exact Rm.bif (fun _ => .ok rfl) (fun _ => .err)
theorem D0w {F:Nat} {p:D5} {s:C3} {a:D2} (h:A5X F p s a) (k:a.kind=5∨a.kind=6∨a.kind=7):Rm (C8A F p s a) s (B79 p s a):=by
 obtain⟨i,ei,hi,hi'⟩:=h.who;obtain⟨j,ej,hj,hj'⟩:=h.squib k;have ht:=h.a.t;have hsi:=h.f.siren;have hn:=h.f.now;have hgr:A9B p a=!decide ((p.people.getD a.who.toNat default).grade<(p.squibs.getD a.what.toNat default).grade):=D0y _ _ oM;rw[C8A,ei,B0x hi',B1Y hi,ej,C03 hj];simp only[oS,C8b,C8a,C7Z,C7Y,ej,B0Q hj',A31,D1j h.h h.o h.f hj,A8K (x:=a.at_-s.siren)];unfold B79;rcases k with k | k | k<;>simp only[k,bA,if_true,if_false]
 ·unfold B97 dm atP;rw[hgr,ei,ej];simp only[A4e,A0q,B3O,cA];refine Rm.bif (fun _=>?_) (fun _ => .err);refine Rm.bif (fun _ => .err) (fun _=>?_);refine Rm.bif (fun _=>?_) (fun _ => .err);refine Rm.bif (fun _ => .err) (fun _=>?_);rw[tN,J6 _ hj];refine Rm.bif (fun _=>?_) (fun _ => .err);unfold B6i;rw[show decide (0≤s.siren)=!decide (s.siren<0)from D0y _ _ oM,show decide (p.wait≤a.at_-s.siren)=!decide (a.at_-s.siren<p.wait)from D0y _ _ oM];cases decide (s.siren<0)with
  | true=>exact .err
  | false =>
   cases decide (a.at_-s.siren<p.wait)with
   | true=>exact .err
   | false=>exact .ok rfl
 ·unfold B2B dm atP;rw[ei,ej];simp only[A4e];exact Rm.bif (fun _=>Rm.bif (fun _ => .ok rfl) (fun _ => .err)) (fun _ => .err)
 ·unfold B73 dm atP;rw[hgr,ei,ej];simp only[A4e,cA];refine Rm.bif (fun _=>?_) (fun _ => .err);exact Rm.bif (fun _ => .err) (fun _=>Rm.bif (fun _ => .ok rfl) (fun _ => .err))
theorem D39 {F:Nat} {p:D5} {s:C3} {a:D2} (h:A5X F p s a) (c:List Int→Option (C3 × Int × C3)):C4u F a (fun rv _=>c rv) F s.squibs 0=c (bif decide (a.what=1)then A4x s.squibs else s.squibs):=by
 have h1:=h.h.f;have h2:=h.o.q6;have h3:=h.f.lq;by_cases hw:a.what=1
 ·rw[dT hw,cT];have:=A5I (σ:=List Int) (g:=fun n l x=>C4u F a (fun rv _=>c rv) n l x) (len:=s.squibs.length) (f:=fun _ k=>(A4x s.squibs).take (k+1)++s.squibs.drop (k+1)) (c:=c) (fun l k=>l=(A4x s.squibs).take k++s.squibs.drop k) (fun l k _ _=>rfl) (fun n l k hk hl=>by
   have hix:P3 l (k:Int)=some s.squibs[k]:=by
    unfold P3;rw[if_pos oM,tN,hl,B5W _ _ hk]
   have hll:l.length=s.squibs.length:=by rw[hl];simp[A4x];omega
   rw[C4u,if_pos oM,if_pos (by simp[hw]),hix,oS,A31,oS,C5Z,C5Z,S0 oM,← B6O _ _ hk,← hl];by_cases h0:s.squibs[k]=1
   ·rw[if_pos h0,dT h0];rfl
   ·rw[if_neg h0,dF h0,cF];congr 1;apply List.ext_getElem?;intro m;rw[eC];by_cases hm:k=m
    ·subst hm;rw[if_pos rfl,hl,B5W _ _ hk,if_pos (by simp[A4x];omega)]
    ·rw[if_neg hm]) (fun n l hl=>by rw[C4u,if_neg (by rw[hl];simp[A4x])]) F s.squibs 0 sM oM oM
  rw[z0]at this;refine this.trans ?_;rw[aP];cases hn:s.squibs.length with
  | zero =>
   have:s.squibs=[]:=List.eq_nil_of_length_eq_zero hn;rw[this];rfl
  | succ m =>
   rw[List.range'_1_concat,List.foldl_append];simp only[bY,List.foldl_nil,Nat.zero_add];rw[di (by simp[A4x];omega),lL oM,List.append_nil]
 ·rw[dF hw,cF];have:=A5I (σ:=List Int) (g:=fun n l x=>C4u F a (fun rv _=>c rv) n l x) (len:=s.squibs.length) (f:=fun l _=>l) (c:=c) (fun l _=>l=s.squibs) (fun l k _ hl=>hl) (fun n l k hk hl=>by
   rw[C4u,if_pos (by rw[hl];omega),if_neg (by simp[hw]),C5Z,S0 oM]) (fun n l hl=>by rw[C4u,if_neg (by rw[hl];omega)]) F s.squibs 0 rfl oM oM
  rw[z0]at this;refine this.trans ?_;congr 1;generalize az 0 (s.squibs.length-0)=r;induction r with
  | nil=>rfl
  | cons x r ih=>exact ih
theorem D3A {F:Nat} {p:D5} {s:C3} {a:D2} (h:A5X F p s a) (hw:a.what=0∨a.what=1) (c:Option (C3 × Int × C3)):C5o F s a (fun _=>c) F 0=bif decide (a.what=1) || !B27 p s (fun _=>true)then c else some (s,179,s):=by
 have h1:=h.h.f;have h2:=h.o.q6;have h3:=h.f.lq;have:=A4H (g:=fun n y=>C5o F s a (fun _=>c) n y) (f:=fun k=>decide (a.what=1) || !(decide (s.squibs.getD k 0=1)&&true)) (len:=s.squibs.length) (c:=c) (fl:=some (s,179,s)) (fun n k hk=>by
  rw[C5o,if_pos oM,H3 hk,oS,C7J,S0 oM,J6 _ hk];rcases hw with hw | hw<;>simp only[hw,A4e]
  all_goals cases decide (s.squibs[k]=1)<;>rfl) (fun n=>by rw[C5o,if_neg oM]) F 0 oM oM
 rw[z0]at this;refine this.trans ?_;unfold B27;rw[aP];cases decide (a.what=1)
 ·simp only[bu,fb]
 ·have e:((az 0 s.squibs.length).all fun k=>true || !(decide (s.squibs.getD k 0=1)&&true))=true:=ax.2 fun _ _=>rfl;rw[e];rfl
theorem D2E {F:Nat} {p:D5} {s:C3} {a:D2} (h:A5X F p s a) (k:a.kind=8∨a.kind=9):Rm (C8M F p s a) s (B79 p s a):=by
 obtain⟨i,ei,hi,hi'⟩:=h.who;have hw:=h.a.sig k;rw[C8M,ei,B0x hi',oS,D39 h,D3A h hw];unfold B79;rcases k with k | k<;>simp only[k,bA,if_true,if_false]
 ·unfold B5y dm atP;rw[ei];simp only[A4e,A0q,C7K];refine Rm.bif (fun _=>?_) (fun _ => .err);rw[show(decide (0≤s.siren) != decide (a.what=1))=!(decide (0≤s.siren)==decide (a.what=1))from rfl,cA];refine Rm.bif (fun _ => .err) (fun _=>Rm.bif (fun _=>?_) (fun _ => .err));cases decide (a.what=1)<;>exact .ok rfl
 ·unfold B16 dm;simp only[A4e,A0q];rw[show(s.storm != decide (a.what=1))=!(s.storm==decide (a.what=1))from rfl,cA];refine Rm.bif (fun _ => .err) (fun _ => .ok rfl sM sM ?_);cases decide (a.what=1)<;>simp[A4x]
theorem D3J {α:Type} (l:List α) (f g:α→Bool):(l.any f||l.any g)=l.any (fun x=>f x||g x):=by
 induction l with
 | nil=>rfl
 | cons x l ih =>
  simp only[bd,← ih];cases f x<;>cases g x<;>cases l.any f<;>rfl
theorem D2u {F:Nat} {p:D5} (h:A5x F p) (hd:p.doors.length≤24) (a b:Int):D1a F p a b=some (B9t p a b):=by
 have hF:=h.f;have:=A4H (g:=fun n y=>C7l F p a b (fun _=>some false) n y) (f:=fun k=>!(G6.beq ⟨a,b⟩ (p.doors.getD k default)||G6.beq ⟨b,a⟩ (p.doors.getD k default))) (len:=p.doors.length) (c:=some false) (fl:=some true) (fun n k hk=>by
  rw[C7l,if_pos oM,H3 hk,oS,C8w,C8Q,S0 oM,J6 _ hk];unfold G6.beq;simp only[A4e];have e:∀ x y:Int,(x==y)=decide (y=x):=fun x y=>by
   rw[Bool.eq_iff_iff,beq_iff_eq,decide_eq_true_iff];exact eq_comm
  simp only[e];cases decide (p.doors[k].a=a)<;>cases decide (p.doors[k].b=b)<;>cases decide (p.doors[k].a=b)<;>cases decide (p.doors[k].b=a)<;>rfl) (fun n=>by rw[C7l,if_neg oM]) F 0 oM oM
 rw[z0]at this;refine this.trans ?_;unfold B9t;rw[D3J,aP,A93 p.doors default (fun d=>!(G6.beq ⟨a,b⟩ d||G6.beq ⟨b,a⟩ d)),B86];cases(p.doors.any fun d=>G6.beq ⟨a,b⟩ d||G6.beq ⟨b,a⟩ d)<;>rfl
theorem D0K {F:Nat} {p:D5} {s:C3} (h:A5x F p) (ho:A6x p) (hf:A2l p s) {i:Nat} (hi:i<p.people.length) {z:Int} (hz:z<p.zones.length):C98 F p s i z=some (A1q p s i z):=by
 have hF:=h.f;have hq6:=ho.q6;rw[C98];unfold A1q;by_cases h0:z<0
 ·rw[if_pos h0,dT h0];rfl
 obtain⟨j,rfl⟩:∃ j:Nat,z=j:=⟨z.toNat,by omega⟩;have hj:j<p.zones.length:=by omega
 have hJ:C83 F p s i j=some (bif A6n p s i j then 0 else 174):=by
  rw[C83,C9Y h ho hf i hz,oS];cases A6n p s i j<;>rfl
 have hL:C69 F p s j (fun _=>C83 F p s i j) F 0=some (bif s.storm&&B03 p s (p.zones.getD (j:Int).toNat default)then 173 else bif A6n p s i j then 0 else 174):=by
  rw[hJ];cases hs:s.storm with
  | false =>
   obtain⟨m,rfl⟩:∃ m,F=m+1:=⟨F-1,by omega⟩;rw[C69,if_neg (show ¬ s.storm=true by rw[hs];simp)];split<;>rfl
  | true =>
   have:=A4H (g:=fun n y=>C69 F p s j (fun _=>some (bif A6n p s i j then(0:Int)else 174)) n y) (f:=fun k=>decide (s.squibs.getD k 0=2) || !A5r (p.zones.getD (j:Int).toNat default) (p.squibs.getD k default)) (len:=p.squibs.length) (c:=some (bif A6n p s i j then(0:Int)else 174)) (fl:=some 173) (fun n k hk=>by
    have hk':k<s.squibs.length:=by have:=hf.lq;omega
    rw[C69,if_pos oM,if_pos hs,C9s,H3 hk',oS,D0t hj hk,oS,C8X,S0 oM,J6 _ hk',J6 _ hk,tN,J6 _ hj];simp only[A4e,A0q];cases decide (s.squibs[k]=2)<;>cases A5r p.zones[j] p.squibs[k]<;>rfl) (fun n=>by rw[C69,if_neg oM]) F 0 oM oM
   rw[z0]at this;refine this.trans ?_;unfold B03;rw[aP];cases((az 0 p.squibs.length).all fun k=>decide (s.squibs.getD k 0=2) || !A5r (p.zones.getD (j:Int).toNat default) (p.squibs.getD k default))<;>rfl
 rw[if_neg h0,dF h0,cF,B1Y hi,oS,B77 hj,oS,hL,A4e];cases decide ((p.people.getD (i:Int).toNat default).grade<(p.zones.getD (j:Int).toNat default).grade)<;>rfl
theorem D2R {F:Nat} {p:D5} {s:C3} {a:D2} (h:A5X F p s a) (k:a.kind=1):Rm (C9o F p s a) s (B79 p s a):=by
 obtain⟨i,ei,hi,hi'⟩:=h.who;have hw:=h.a.move k;have hl:=h.f.lz;have hz:=h.a.zone k;have hz2:s.zones.getD i 0<p.zones.length:=by rw[J6 _ hi'];exact(h.f.z _ (aj hi')).2
 have hs:=B0k h.hs (B3u s a);have hlen:∀ A:List Int,A.length=s.zones.length→({s with zones:=A}:C3).zones.length=s.zones.length:=fun A hA=>hA;have hJ4:Rm (C7M F p s a (s.zones.getD i 0) (A0y s a)) s (dm (!A3X p (Z2 s (A0y s a)) a.what && !A3X p (Z2 s (A0y s a)) (s.zones.getD i 0)) 176 (.ok (Z2 s (A0y s a)))):=by
  have he:Rm (C74 F s (A0y s a)) s (.error 176) := .err (B3u s a);have hk:Rm (C5f F s (A0y s a)) s (.ok (Z2 s (A0y s a))) := .ok rfl (B3u s a);have m1:∀ z,C8L F ({s with zones:=A0y s a}) z=some (A6W (Z2 s (A0y s a)) z:Int):=fun z=>D0s hs z;have d1:∀ z,decide (((A6W (Z2 s (A0y s a)) z:Nat):Int)=1)=decide (A6W (Z2 s (A0y s a)) z=1):=fun z=>by rw[decide_eq_decide];omega
  rw[C7M];unfold dm A3X;generalize s.zones.getD i 0=f at hz2;by_cases h0:0≤a.what
  ·obtain⟨j,ej⟩:∃ j:Nat,a.what=j:=⟨a.what.toNat,by omega⟩;have hj:j<p.zones.length:=by omega
   by_cases h1:0≤f
   ·obtain⟨m,rfl⟩:∃ m:Nat,f=m:=⟨f.toNat,by omega⟩;have hm:m<p.zones.length:=by omega
    simp only[if_pos h0,if_pos h1,dT h0,dT h1,ej,B77 hj,B77 hm,oS,m1,A4e,A0q,d1,bf];cases(p.zones.getD (j:Int).toNat default).pair<;>cases decide (A6W (Z2 s (A0y s a)) (j:Int)=1)<;>cases(p.zones.getD (m:Int).toNat default).pair<;>cases decide (A6W (Z2 s (A0y s a)) (m:Int)=1)<;>first | exact hk | exact he
   ·simp only[if_pos h0,if_neg h1,dT h0,dF h1,ej,B77 hj,oS,m1,A4e,A0q,d1,bf,bO];cases(p.zones.getD (j:Int).toNat default).pair<;>cases decide (A6W (Z2 s (A0y s a)) (j:Int)=1)<;>first | exact hk | exact he
  ·by_cases h1:0≤f
   ·obtain⟨m,rfl⟩:∃ m:Nat,f=m:=⟨f.toNat,by omega⟩;have hm:m<p.zones.length:=by omega
    simp only[if_neg h0,if_pos h1,dF h0,dT h1,B77 hm,oS,m1,A4e,A0q,d1,bf,bO];cases(p.zones.getD (m:Int).toNat default).pair<;>cases decide (A6W (Z2 s (A0y s a)) (m:Int)=1)<;>first | exact hk | exact he
   ·simp only[if_neg h0,if_neg h1,dF h0,dF h1,bO];exact hk
 have hJ5:Rm (C7O F p s a (s.zones.getD i 0) (A0y s a)) s (dm (!B5E p (Z2 s (A0y s a)) a.what) 175 (dm (!A3X p (Z2 s (A0y s a)) a.what && !A3X p (Z2 s (A0y s a)) (s.zones.getD i 0)) 176 (.ok (Z2 s (A0y s a))))):=by
  rw[C7O];unfold B5E;by_cases h0:0≤a.what
  ·obtain⟨j,ej⟩:∃ j:Nat,a.what=j:=⟨a.what.toNat,by omega⟩;have hj:j<p.zones.length:=by omega
   have m1:=D0s (F:=F) hs a.what;rw[if_pos h0,dT h0];show Rm ((C8L F (Z2 s (A0y s a)) a.what).bind _) s _;rw[m1,oS,ej,B77 hj,oS,← ej,A4e,bf];generalize hr:dm (!A3X p (Z2 s (A0y s a)) a.what && !A3X p (Z2 s (A0y s a)) (s.zones.getD i 0)) 176 (.ok (Z2 s (A0y s a)))=r at hJ4;unfold dm;rw[cA];exact Rm.bif (fun _ => .err (B3u s a)) (fun _=>hJ4)
  ·rw[if_neg h0,dF h0];exact hJ4
 have hJ6:∀ x:Int,x=c2E p s a→Rm (C6N F p s a (s.zones.getD i 0) x) s (dm (decide (c2E p s a=0)) (c2E p s a) (dm (!B5E p (Z2 s (A0y s a)) a.what) 175 (dm (!A3X p (Z2 s (A0y s a)) a.what && !A3X p (Z2 s (A0y s a)) (s.zones.getD i 0)) 176 (.ok (Z2 s (A0y s a)))))):=fun x hx=>by
  subst hx;rw[C6N,A4e];generalize hr:dm (!B5E p (Z2 s (A0y s a)) a.what) 175 (dm (!A3X p (Z2 s (A0y s a)) a.what && !A3X p (Z2 s (A0y s a)) (s.zones.getD i 0)) 176 (.ok (Z2 s (A0y s a))))=r at hJ5;unfold dm;refine Rm.bif (fun _=>?_) (fun hb => .err rfl rfl rfl (of_decide_eq_false hb));refine Rm.of hJ5 ?_ rfl;rw[ei,A31,oS];unfold A0y;by_cases h0:0≤a.with_
  ·obtain⟨m,em⟩:∃ m:Nat,a.with_=m:=⟨a.with_.toNat,by omega⟩;have hm:m<s.zones.length:=by omega
   rw[if_pos h0,dT h0,em,H3 (by simp;omega),oS,A31,oS,ei];rfl
  ·rw[if_neg h0,dF h0,ei];rfl
 have hJ7:Rm (C7P F p s a (s.zones.getD i 0)) s (dm (decide (A1q p s a.who a.what=0)) (A1q p s a.who a.what) (dm (decide (c2E p s a=0)) (c2E p s a) (dm (!B5E p (Z2 s (A0y s a)) a.what) 175 (dm (!A3X p (Z2 s (A0y s a)) a.what && !A3X p (Z2 s (A0y s a)) (s.zones.getD i 0)) 176 (.ok (Z2 s (A0y s a))))))):=by
  rw[C7P,ei,D0K h.h h.o h.f hi hz.2,oS,A4e];generalize hr:dm (decide (c2E p s a=0)) (c2E p s a) (dm (!B5E p (Z2 s (A0y s a)) a.what) 175 (dm (!A3X p (Z2 s (A0y s a)) a.what && !A3X p (Z2 s (A0y s a)) (s.zones.getD i 0)) 176 (.ok (Z2 s (A0y s a)))))=r at hJ6;unfold dm;refine Rm.bif (fun hb=>?_) (fun hb=>?_)
  ·by_cases h0:0≤a.with_
   ·obtain⟨m,em⟩:∃ m:Nat,a.with_=m:=⟨a.with_.toNat,by omega⟩;have hm:m<p.people.length:=by omega
    rw[if_pos h0,em,D0K h.h h.o h.f hm hz.2,oS];refine hJ6 _ ?_;unfold c2E;rw[dT h0,em];rfl
   ·rw[if_neg h0];refine hJ6 _ ?_;unfold c2E;rw[dF h0];exact of_decide_eq_true hb
  ·rw[C6N,if_neg (of_decide_eq_false hb)];exact .err rfl rfl rfl (of_decide_eq_false hb)
 rw[C9o,ei,H3 hi',oS,← J6 0 hi',D2u h.h h.o.d24,oS];unfold B79;rw[if_pos k];unfold B7I;rw[ei,tN];rw[ei]at hJ7;generalize hr:dm (decide (A1q p s (i:Int) a.what=0)) (A1q p s (i:Int) a.what) (dm (decide (c2E p s a=0)) (c2E p s a) (dm (!B5E p (Z2 s (A0y s a)) a.what) 175 (dm (!A3X p (Z2 s (A0y s a)) a.what && !A3X p (Z2 s (A0y s a)) (s.zones.getD i 0)) 176 (.ok (Z2 s (A0y s a))))))=r at hJ7;unfold dm;by_cases h0:0≤a.with_
 ·obtain⟨m,em⟩:∃ m:Nat,a.with_=m:=⟨a.with_.toNat,by omega⟩;have hm:m<s.zones.length:=by omega
  rw[if_pos h0,dT h0,em,B0x hm,oS];simp only[A4e,A0q,dA,bu];cases B9t p (s.zones.getD i 0) a.what
  ·exact .err
  ·cases decide (s.zones.getD (m:Int).toNat 0=s.zones.getD i 0)
   ·exact .err
   ·exact hJ7
 ·rw[if_neg h0,dF h0];simp only[A4e,A0q,cU,Bool.true_or,Bool.and_true];exact Rm.bif (fun _=>hJ7) (fun _ => .err)
theorem D22 {F:Nat} {s:C3} (h1:s.zones.length≤1000000) (h2:s.holder.length≤1000000) (h3:s.squibs.length≤1000000):C9I F s=some s:=by
 have e:∀ l:List Int,l.length≤1000000→A8i ([]:List Int) l=some l:=fun l hl=>by
  unfold A8i;rw[if_pos (by simp;omega)];rfl
 rw[C9I,e _ h1,e _ h2,e _ h3];rfl
theorem C8m {F:Nat} {a:D2} {s:C3} {o:Option (C3 × Int × C3)} {r:Except Int C3} (h:Rm o s r):(ed o fun rv2=>(lnO rv2.2.2.zones.length s.zones.length).bind fun _=>(lnO rv2.2.2.holder.length s.holder.length).bind fun _=>(lnO rv2.2.2.squibs.length s.squibs.length).bind fun _=>C79 F a rv2.1.now rv2.2.2.zones rv2.2.2.holder rv2.2.2.squibs rv2.1.siren rv2.1.storm rv2.2.1)=some (C0d (B4L a.at_ r)):=by
 obtain⟨x,e,m,rfl,⟨h1,h2,h3⟩,hr⟩:=h;have hl:∀ {n k:Nat},n=k→lnO n k=some ():=fun h=>by unfold lnO;rw[if_pos h]
 rw[oS];dsimp only;rw[hl h1,oS,hl h2,oS,hl h3,oS,C79];cases r with
 | ok s' =>
  obtain⟨rfl,rfl⟩:=hr;rfl
 | error e' =>
  obtain⟨rfl,he⟩:=hr;rw[if_neg he];rfl
theorem D2t {F:Nat} {p:D5} {s:C3} {a:D2} (h:A5X F p s a):D0j F p s a=some (C0d (B1Q p s a)):=by
 have l1:=h.f.lz;have l2:=h.f.lh;have l3:=h.f.lq;have k1:=h.o.p8;have k2:=h.o.k8;have k3:=h.o.q6;rw[D0j];unfold B1Q;by_cases ht:a.at_<s.now
 ·rw[if_pos ht,if_pos ht];rfl
 rw[if_neg ht,if_neg ht,D22 oM oM oM,oS];rcases h.a.k with k | k | k | k | k | k | k | k | k
 ·rw[if_pos k];exact C8m (D2R h k)
 ·simp only[k,bA,if_true,if_false];exact C8m (D1v h (.inl k))
 ·simp only[k,bA,if_true,if_false];exact C8m (D1v h (.inr (.inl k)))
 ·simp only[k,bA,if_true,if_false];exact C8m (D1v h (.inr (.inr k)))
 ·simp only[k,bA,if_true,if_false];exact C8m (D0w h (.inl k))
 ·simp only[k,bA,if_true,if_false];exact C8m (D0w h (.inr (.inl k)))
 ·simp only[k,bA,if_true,if_false];exact C8m (D0w h (.inr (.inr k)))
 ·simp only[k,bA,if_true,if_false];exact C8m (D2E h (.inl k))
 ·simp only[k,bA,if_true,if_false];exact C8m (D2E h (.inr k))
def DoP (p:D5) (s:C3) (a:D2):C3 × Int:=bif decide (A7q p s=0)then(bif decide (B25 p a=0)then C0d (B1Q p s a)else(A87,B25 p a))else(A87,A7q p s)
theorem B58 {F:Nat} {p:D5} {s:C3} {a:D2} (h:A5x F p) (hs:StF F s) (h1:A7q p s=0) (h2:B25 p a=0):A5X F p s a :=
 have hok:=B6Q h1
 ⟨h,hs,hok.o,hok.f,B84 h2⟩
theorem B2e {F:Nat} {p:D5} {s:C3} {a:D2} (h:A5x F p) (hs:StF F s):A7D F p s a=some (DoP p s a):=by
 rw[A7D,A9h h hs,oS];unfold DoP;by_cases h1:A7q p s=0
 ·rw[if_pos h1,dT h1,B5l h,oS,A55];by_cases h2:B25 p a=0
  ·rw[if_pos h2,dT h2,B6I (B58 h hs h1 h2)];rfl
  ·rw[if_neg h2,dF h2];rfl
 ·rw[if_neg h1,dF h1,A55,if_neg h1];rfl
theorem D1g {F:Nat} {p:D5} {s:C3} {a:D2} (h:A5x F p) (hs:StF F s):D0o F p s a=some (DoP p s a):=by
 rw[D0o,D0C h hs,oS];unfold DoP;by_cases h1:A7q p s=0
 ·rw[if_pos h1,dT h1,D2N h,oS];simp only[C95];by_cases h2:B25 p a=0
  ·rw[if_pos h2,dT h2,D2t (B58 h hs h1 h2)];rfl
  ·rw[if_neg h2,dF h2];rfl
 ·rw[if_neg h1,dF h1];simp only[C95];rw[if_neg h1];rfl
theorem A2g {b:Bool} {e:Int} {x:Except Int C3} {s:C3} (h:dm b e x = .ok s):b=true∧x = .ok s:=by
 unfold dm at h;cases b with
 | true=>exact⟨rfl,h⟩
 | false=>cases h
theorem B2H {p:D5} {s:C3} (hf:A2l p s) {a:D2} (ha : -1≤a.what∧a.what<p.zones.length):A2l p (Z2 s (A0y s a)) :=
 ⟨hf.now,hf.siren,by rw[show(Z2 s (A0y s a)).zones=A0y s a from rfl,B3u];exact hf.lz,hf.lh,hf.lq,fun x hx=>by
  replace hx:x∈A0y s a:=hx;unfold A0y at hx;cases hb:decide (0≤a.with_)with
  | true =>
   rw[hb,cT]at hx;rcases ci hx with hx | hx
   ·rcases ci hx with hx | hx
    ·exact hf.z x hx
    ·subst hx;exact ha
   ·subst hx;exact ha
  | false =>
   rw[hb,cF]at hx;rcases ci hx with hx | hx
   ·exact hf.z x hx
   ·subst hx;exact ha,hf.h,hf.q⟩
theorem A7b {p:D5} {s:C3} (hf:A2l p s) (k:Int) {v:Int} (hv:0≤v∧v≤2):A2l p (B40 s k v) :=
 ⟨hf.now,hf.siren,hf.lz,hf.lh,by simpa[B40]using hf.lq,hf.z,hf.h,fun x hx=>by
  rcases ci hx with h | h
  ·exact hf.q x h
  ·subst h;exact hv⟩
theorem B3A {p:D5} {s s':C3} {a:D2} (hf:A2l p s) (ha:B7e p a) (h:B1Q p s a = .ok s'):A2l p s'∧s'.now=a.at_∧s.now≤a.at_:=by
 unfold B1Q at h;by_cases ht:a.at_<s.now
 ·rw[if_pos ht]at h;cases h
 rw[if_neg ht]at h;have now:∀ x:C3,A2l p {x with now:=s.now}→x.siren≤a.at_ → -1≤x.siren→A2l p {x with now:=a.at_}:=fun x hx h1 h2=>⟨ha.t,⟨h2,h1⟩,hx.lz,hx.lh,hx.lq,hx.z,hx.h,hx.q⟩;have key:∀ {r:Except Int C3},B4L a.at_ r = .ok s'→∃ x,r = .ok x∧s'={x with now:=a.at_}:=fun {r} hr=>by
  cases r with
  | ok x=>injection hr with hr;exact⟨x,rfl,hr.symm⟩
  | error e=>cases hr
 obtain⟨x,hx,rfl⟩:=key h;refine⟨?_,rfl,by omega⟩;have hs:=hf.siren;have hwho:=ha.who;unfold B79 at hx;rcases ha.k with k | k | k | k | k | k | k | k | k<;>simp only[k,bA,if_true,if_false]at hx
 ·obtain⟨_,hx⟩:=A2g hx;obtain⟨_,hx⟩:=A2g hx;obtain⟨_,hx⟩:=A2g hx;obtain⟨_,hx⟩:=A2g hx;obtain⟨_,hx⟩:=A2g hx;injection hx with hx
  subst hx;exact now _ (B2H hf (ha.zone k)) (by show s.siren≤_;omega) hs.1
 ·obtain⟨_,hx⟩:=A2g hx;obtain⟨_,hx⟩:=A2g hx;obtain⟨_,hx⟩:=A2g hx;injection hx with hx
  subst hx;exact now _ (A6f hf _ oM) (by show s.siren≤_;omega) hs.1
 ·obtain⟨_,hx⟩:=A2g hx;obtain⟨_,hx⟩:=A2g hx;injection hx with hx
  subst hx;exact now _ (A6f hf _ oM) (by show s.siren≤_;omega) hs.1
 ·obtain⟨_,hx⟩:=A2g hx;obtain⟨_,hx⟩:=A2g hx;obtain⟨_,hx⟩:=A2g hx;injection hx with hx
  subst hx;have:=ha.give k;exact now _ (A6f hf _ oM) (by show s.siren≤_;omega) hs.1
 ·obtain⟨_,hx⟩:=A2g hx;obtain⟨_,hx⟩:=A2g hx;obtain⟨_,hx⟩:=A2g hx;obtain⟨_,hx⟩:=A2g hx;obtain⟨_,hx⟩:=A2g hx;obtain⟨_,hx⟩:=A2g hx;injection hx with hx
  subst hx;exact now _ (A7b hf _ oM) (by show s.siren≤_;omega) hs.1
 ·obtain⟨_,hx⟩:=A2g hx;obtain⟨_,hx⟩:=A2g hx;injection hx with hx
  subst hx;exact now _ (A7b hf _ oM) (by show s.siren≤_;omega) hs.1
 ·obtain⟨_,hx⟩:=A2g hx;obtain⟨_,hx⟩:=A2g hx;obtain⟨_,hx⟩:=A2g hx;injection hx with hx
  subst hx;exact now _ (A7b hf _ oM) (by show s.siren≤_;omega) hs.1
 ·obtain⟨_,hx⟩:=A2g hx;obtain⟨_,hx⟩:=A2g hx;obtain⟨_,hx⟩:=A2g hx;injection hx with hx
  subst hx;have ht:=ha.t;cases hb:decide (a.what=1)with
  | true=>exact⟨ha.t,⟨by show -1≤a.at_;omega,cm _⟩,hf.lz,hf.lh,hf.lq,hf.z,hf.h,hf.q⟩
  | false=>exact⟨ha.t,⟨by show(-1:Int) ≤ -1;omega,by show(-1:Int)≤a.at_;omega⟩,hf.lz,hf.lh,hf.lq,hf.z,hf.h,hf.q⟩
 ·obtain⟨_,hx⟩:=A2g hx;injection hx with hx
  subst hx;have hq:∀ l:List Int,(∀ x∈l,0≤x∧x≤2)→∀ x∈A4x l,0≤x∧x≤2:=fun l hl x hx=>by
   obtain⟨y,hy,rfl⟩:=List.mem_map.1 hx;have:=hl y hy;cases decide (y=1)with
   | true=>simp
   | false=>exact this
  cases hb:decide (a.what=1)with
  | true=>exact⟨ha.t,⟨hs.1,by show s.siren≤a.at_;omega⟩,hf.lz,hf.lh,by show(A4x s.squibs).length=_;simpa[A4x]using hf.lq,hf.z,hf.h,hq _ hf.q⟩
  | false=>exact⟨ha.t,⟨hs.1,by show s.siren≤a.at_;omega⟩,hf.lz,hf.lh,hf.lq,hf.z,hf.h,hf.q⟩
theorem B4Q {F:Nat} {p:D5} {s:C3} (h:A5x F p) (ho:A6x p) (hf:A2l p s):StF F s:=by
 have h0:=h.f;have h1:=hf.lz;have h2:=hf.lh;have h3:=hf.lq;have k1:=ho.p8;have k2:=ho.k8;have k3:=ho.q6;exact⟨by omega,by omega,by omega⟩
theorem B0M {F:Nat} (h:100<F):StF F A87:=⟨by simp[A87];omega,by simp[A87];omega,by simp[A87];omega⟩
theorem B81 {F:Nat} {p:D5} {s:C3} {a:D2} (h:A5x F p) (hs:StF F s):StF F (DoP p s a).1:=by
 unfold DoP;by_cases h1:A7q p s=0
 ·rw[dT h1,cT];by_cases h2:B25 p a=0
  ·rw[dT h2,cT];have hok:=B58 h hs h1 h2;cases hd:B1Q p s a with
   | ok s'=>exact B4Q h hok.o (B3A hok.f hok.a hd).1
   | error e=>exact B0M h.f
  ·rw[dF h2];exact B0M h.f
 ·rw[dF h1];exact B0M h.f
theorem X2 (F:Nat) (n lo hi:Int):Y7 F n lo hi=some (N9 n lo hi):=by
 unfold Y7 N9;split<;>simp[*]
theorem A6P {α:Type} {g:Nat→Int→Option Int} {s:List α} {p:α→Bool} (h0:∀ (n k:Nat) (h:k<s.length),g (n+1) k=if p s[k]=true then some (k:Int)else g n ((k+1:Nat):Int)) (h1:∀ n,g (n+1) s.length=some (-1)) :
 ∀ (n k:Nat),s.length<n+k→k≤s.length→∃ r,g n k=some r∧decide (0≤r)=(s.drop k).any p
 | 0,k,h,h2=>absurd h oM
 | n+1,k,h,h2=>by
  by_cases hk:k<s.length
  ·rw[h0 n k hk,lD hk,bd];cases hp:p s[k]with
   | true=>exact⟨k,by simp,by simp⟩
   | false=>simpa using A6P h0 h1 n (k+1) oM oM
  ·obtain rfl:k=s.length:=by omega
   rw[h1,lL oM];exact⟨-1,rfl,by simp⟩
theorem A8q {F:Nat} {s:List (List Int)} {f:List Int→Option Bool} {p:List Int→Bool} (hf:∀ x∈s,f x=some (p x)) (hl:s.length<9223372036854775808) (hF:s.length<F):W6 F s f=some (s.any p):=by
 obtain⟨r,h1,h2⟩:=A6P (g:=R9 F s f (fun _=>some (-1))) (s:=s) (p:=p) (fun n k hk=>by rw[R9,if_pos oM,H3 hk,oS,hf _ (aj hk),oS,S0 oM]) (fun n=>by rw[R9,if_neg oM]) F 0 oM oM;rw[W6,A1A,show(0:Int)=((0:Nat):Int)from rfl,h1,oS,show((0:Nat):Int)=0 from rfl,h2,aB]
theorem B0n {F:Nat} {s:List ByteArray} {f:ByteArray→Option Bool} {p:ByteArray→Bool} (hf:∀ x∈s,f x=some (p x)) (hl:s.length<9223372036854775808) (hF:s.length<F):Y4 F s f=some (s.any p):=by
 obtain⟨r,h1,h2⟩:=A6P (g:=Q3 F s f (fun _=>some (-1))) (s:=s) (p:=p) (fun n k hk=>by rw[Q3,if_pos oM,H3 hk,oS,hf _ (aj hk),oS,S0 oM]) (fun n=>by rw[Q3,if_neg oM]) F 0 oM oM;rw[Y4,A0Q,show(0:Int)=((0:Nat):Int)from rfl,h1,oS,show((0:Nat):Int)=0 from rfl,h2,aB]
theorem A80 {F:Nat} {s:List D9} {f:D9→Option Bool} {p:D9→Bool} (hf:∀ x∈s,f x=some (p x)) (hl:s.length<9223372036854775808) (hF:s.length<F):V6 F s f=some (s.any p):=by
 obtain⟨r,h1,h2⟩:=A6P (g:=O5 F s f (fun _=>some (-1))) (s:=s) (p:=p) (fun n k hk=>by rw[O5,if_pos oM,H3 hk,oS,hf _ (aj hk),oS,S0 oM]) (fun n=>by rw[O5,if_neg oM]) F 0 oM oM;rw[V6,A0w,show(0:Int)=((0:Nat):Int)from rfl,h1,oS,show((0:Nat):Int)=0 from rfl,h2,aB]
theorem B0l {F:Nat} {s:List E0} {f:E0→Option Bool} {p:E0→Bool} (hf:∀ x∈s,f x=some (p x)) (hl:s.length<9223372036854775808) (hF:s.length<F):Y3 F s f=some (s.any p):=by
 obtain⟨r,h1,h2⟩:=A6P (g:=Q2 F s f (fun _=>some (-1))) (s:=s) (p:=p) (fun n k hk=>by rw[Q2,if_pos oM,H3 hk,oS,hf _ (aj hk),oS,S0 oM]) (fun n=>by rw[Q2,if_neg oM]) F 0 oM oM;rw[Y3,A0P,show(0:Int)=((0:Nat):Int)from rfl,h1,oS,show((0:Nat):Int)=0 from rfl,h2,aB]
abbrev A1w (p:D4):D5:=D5.mk p.N4 p.P5 p.N6 p.S5 p.J3 p.Q7 p.T9
structure B7k (F:Nat) (x:E0):Prop where
 n:x.name.size<F∧x.name.size<9223372036854775808
 d:x.need.length<F∧x.need.length<9223372036854775808
 o:x.on_.length<F∧x.on_.length<9223372036854775808
 u:x.use_.length<F∧x.use_.length<9223372036854775808
 f:x.off.length<F∧x.off.length<9223372036854775808
 a:x.acts.length<F∧x.acts.length<9223372036854775808
structure CtF (F:Nat) (p:D4):Prop where
 pd:A5x F (A1w p)
 ls:p.stations.length<9223372036854775808
 lb:p.batteries.length<9223372036854775808
 lt:p.steps.length<9223372036854775808
 lp:p.points.length<F∧p.points.length<9223372036854775808
 sn:∀ x∈p.stations,x.size<F∧x.size<9223372036854775808
 bn:∀ x∈p.batteries,x.name.size<F∧x.name.size<9223372036854775808
 st:∀ x∈p.steps,B7k F x
theorem B9A {p:D4} (hp:∃ F0,∀ F,F0≤F→A5x F (A1w p)) (h1:p.stations.length<9223372036854775808) (h2:p.batteries.length<9223372036854775808) (h3:p.steps.length<9223372036854775808) (h4:p.points.length<9223372036854775808)
  (hs:∀ x∈p.stations,x.size<9223372036854775808) (hb:∀ x∈p.batteries,x.name.size<9223372036854775808)
  (ht:∀ x∈p.steps,x.name.size<9223372036854775808∧x.need.length<9223372036854775808∧x.on_.length<9223372036854775808∧x.use_.length<9223372036854775808∧x.off.length<9223372036854775808∧x.acts.length<9223372036854775808):∃ F0,∀ F,F0≤F→CtF F p:=by
 obtain⟨F0,h0⟩:=hp;obtain⟨N1,k1⟩:=A5z (fun x:ByteArray=>x.size) p.stations;obtain⟨N2,k2⟩:=A5z (fun x:D9=>x.name.size) p.batteries;obtain⟨N3,k3⟩:=A5z (fun x:E0=>x.name.size+x.need.length+x.on_.length+x.use_.length+x.off.length+x.acts.length) p.steps;refine⟨F0+N1+N2+N3+p.points.length+1,fun F hF=>⟨h0 F oM,h1,h2,h3,⟨by omega,h4⟩,fun x hx=>⟨by have:=k1 x hx;omega,hs x hx⟩,fun x hx=>⟨by have:=k2 x hx;omega,hb x hx⟩,fun x hx=>?_⟩⟩;have:=k3 x hx;obtain⟨a1,a2,a3,a4,a5,a6⟩:=ht x hx;exact⟨⟨by omega,a1⟩,⟨by omega,a2⟩,⟨by omega,a3⟩,⟨by omega,a4⟩,⟨by omega,a5⟩,⟨by omega,a6⟩⟩
def A4n (many:Int) (l:List Int):Bool:=l.any fun n=>N9 n 0 (many-1)
theorem B44 {F:Nat} {many:Int} (hm:0≤many∧many<9223372036854775808) {l:List Int} (hl:l.length<F∧l.length<9223372036854775808):A1G F l many=some (A4n many l):=by
 rw[A1G,A2H (p:=fun n=>N9 n 0 (many-1)) (fun x _=>by rw[A1Q,X2,A8K];rfl) oM hl.1];rfl
theorem B11 {F:Nat} {many:Int} (hm:0≤many∧many<9223372036854775808) {ls:List (List Int)} (h:ls.length<F∧ls.length<100) (hl:∀ l∈ls,l.length<F∧l.length<9223372036854775808):A2R F many ls=some (ls.any (A4n many)):=by
 rw[A2R,A8q (p:=A4n many) (fun x hx=>B44 hm (hl x hx)) oM h.1];rfl
theorem B67 {F:Nat} {l:List Int} (hl:l.length<F∧l.length<9223372036854775808):A2Q F l=some (!A6a l):=by
 have key:∀ (n k:Nat),l.length<n+k→1≤k→k≤l.length→U9 F l (fun _=>some false) n k=some (!A6a (l.drop (k-1))):=fun n=>by
  induction n with
  | zero=>intro k h;omega
  | succ n ih =>
   intro k h h1 h2;rw[U9];by_cases hk:k<l.length
   ·rw[if_pos oM,if_pos oM,H3 hk,oS,B23 h1 oM,H3 (by omega:k-1<l.length),oS,S0 oM,ih (k+1) oM oM oM,
     lD (by omega:k-1<l.length),show k-1+1=k by omega,show k+1-1=k by omega,lD hk,A6a]
    by_cases hc:l[k]≤l[k-1]
    ·rw[if_pos hc,dF (by omega:¬ l[k-1]<l[k])];rfl
    ·rw[if_neg hc,dT (by omega:l[k-1]<l[k])];rfl
   ·rw[if_neg oM,lD (by omega:k-1<l.length),lL oM];rfl
 rw[A2Q];obtain⟨n,rfl⟩:∃ n,F=n+1:=⟨F-1,by omega⟩;rw[U9];by_cases h0:(0:Int)<l.length
 ·have:=key n 1 oM oM oM;rw[if_pos h0,if_neg oM,show W (0+1)=((1:Nat):Int)from rfl];have e:∀ (m:Nat) (k:Int),U9 (n+1) l (fun _=>some false) m k=U9 (n+1) l (fun _=>some false) m k:=fun _ _=>rfl;rw[this,cJ,aB]
 ·rw[if_neg h0];have:l=[]:=by cases l<;>simp at h0 ⊢
  subst this;rfl
theorem B7H {F:Nat} {ls:List (List Int)} (h:ls.length<F∧ls.length<100) (hl:∀ l∈ls,l.length<F∧l.length<9223372036854775808):A4R F ls=some (ls.any fun l=>!A6a l):=by
 rw[A4R,A8q (p:=fun l=>!A6a l) (fun x hx=>B67 (hl x hx)) oM h.1];rfl
theorem B4W {α:Type} (nm:α→ByteArray) (l:List α) (s:ByteArray):nmE (l.map nm) s=if A7C s=true then(if l.any (fun a=>decide ((nm a).toList=s.toList))=true then 5 else 0)else 6:=by
 unfold nmE;rw[List.any_map];rfl
theorem B7J {F:Nat} {l:List ByteArray} (h:l.length<F∧l.length<9223372036854775808) (hn:∀ x∈l,x.size<F∧x.size<9223372036854775808) {k:Nat} (hk:k<l.length):Q6 F l k=some (nmE (l.take k) l[k]):=by
 have hx:=hn _ (aj hk);rw[Q6,H3 hk,oS,A1j,oS,A2E oM hx.1,oS,B0w oM,oS,
  B0n (p:=fun a=>decide (a.toList=l[k].toList)) (fun a _=>by rw[A0l,A1j,oS,H3 hk,oS,A1j,oS];split<;>simp[*]) (by rw[aN];omega) (by rw[aN];omega),oS]
 have:=B4W id (l.take k) l[k];rw[List.map_id]at this;rw[this];cases A7C l[k]<;>simp only[if_true,bR,if_false,id];split<;>rfl
theorem B68 {F:Nat} {l:List D9} (h:l.length<F∧l.length<9223372036854775808) (hn:∀ x∈l,x.name.size<F∧x.name.size<9223372036854775808) {k:Nat} (hk:k<l.length):R7 F l k=some (nmE ((l.take k).map (·.name)) l[k].name):=by
 have hx:=hn _ (aj hk);rw[R7,H3 hk,oS,A1k,oS,A2E oM hx.1,oS,B0w oM,oS,
  A80 (p:=fun a=>decide (a.name.toList=l[k].name.toList)) (fun a _=>by rw[V0,A1k,oS,H3 hk,oS,A1k,oS];split<;>simp[*]) (by rw[aN];omega) (by rw[aN];omega),oS,B4W]
 cases A7C l[k].name<;>simp only[if_true,bR,if_false];split<;>rfl
theorem B4V {F:Nat} {l:List E0} (h:l.length<F∧l.length<9223372036854775808) (hn:∀ x∈l,B7k F x) {k:Nat} (hk:k<l.length):U3 F l k=some (nmE ((l.take k).map (·.name)) l[k].name):=by
 have hx:=(hn _ (aj hk)).n;rw[U3,H3 hk,oS,A1P,oS,A2E oM hx.1,oS,B0w oM,oS,
  B0l (p:=fun a=>decide (a.name.toList=l[k].name.toList)) (fun a _=>by rw[X1,A1P,oS,H3 hk,oS,A1P,oS];split<;>simp[*]) (by rw[aN];omega) (by rw[aN];omega),oS,B4W]
 cases A7C l[k].name<;>simp only[if_true,bR,if_false];split<;>rfl
theorem B5w {F:Nat} (hF:100<F) {n:Nat} (hn:n≤16):A0b F [-1] (n:Int)=some (ak n (-1)):=by
 obtain⟨m,rfl⟩:∃ m,F=m+20:=⟨F-20,by omega⟩
 match n,hn with
 | 0,_=>rfl
 | 1,_=>rfl
 | 2,_=>rfl
 | 3,_=>rfl
 | 4,_=>rfl
 | 5,_=>rfl
 | 6,_=>rfl
 | 7,_=>rfl
 | 8,_=>rfl
 | 9,_=>rfl
 | 10,_=>rfl
 | 11,_=>rfl
 | 12,_=>rfl
 | 13,_=>rfl
 | 14,_=>rfl
 | 15,_=>rfl
 | 16,_=>rfl
 | n+17,h=>exact absurd h oM
theorem B0U {n:Nat} (h:n≤1000000000):B1D (n:Int)=some n:=by
 unfold B1D;rw[if_pos oM];simp
def A4C (p:D5):C3 × Int:=if(A2n p).2.2=0 then(⟨0,ak p.people.length (-1),ak p.keys.length (-1),ak p.squibs.length 0,-1,false⟩,0)else(⟨0,[],[],[],0,false⟩,(A2n p).2.2)
theorem B2f {F:Nat} {p:D5} (h:A5x F p):A44 F p=some (A4C p):=by
 rw[A44,A7e h,oS];unfold A4C;by_cases h0:(A2n p).2.2=0
 ·have ho:=A60 h0;have k1:=ho.p8;have k2:=ho.k8;have k3:=ho.q6;rw[if_pos h0,if_pos h0,B5w h.f oM,oS,B5w h.f oM,oS,B0U oM];rfl
 ·rw[if_neg h0,if_neg h0]
theorem B42 {F:Nat} {p:D5} (hF:100<F):StF F (A4C p).1:=by
 unfold A4C;by_cases h0:(A2n p).2.2=0
 ·have ho:=A60 h0;have k1:=ho.p8;have k2:=ho.k8;have k3:=ho.q6;rw[if_pos h0];constructor<;>simp only[aL]<;>omega
 ·rw[if_neg h0];constructor<;>simp<;>omega
def A9U (p:D5) (a:D2):Int:=bif decide ((DoP p (A4C p).1 a).2<170)then(DoP p (A4C p).1 a).2 else 0
theorem B4C {F:Nat} {p:D5} (h:A5x F p) (a:D2):A3d F p a=some (A9U p a):=by
 rw[A3d,B2f h,oS,B2e h (B42 h.f),oS];unfold A9U;rw[A4e,← A6z]
def B3z (p:D5):List D2→Int
 | []=>0
 | a::l=>bif decide (a.at_=0)then(bif decide (A9U p a=0)then B3z p l else A9U p a)else 2
theorem B2r {F:Nat} {p:D4} (h:CtF F p) {x:E0} (hx:B7k F x):∀ (n k:Nat),x.acts.length<n+k→k≤x.acts.length→A1l F p x (fun _=>some 0) n k=some (B3z (A1w p) (x.acts.drop k))
 | 0,k,h1,h2=>absurd h1 oM
 | n+1,k,h1,h2=>by
  rw[A1l];by_cases hk:k<x.acts.length
  ·have:=hx.a;rw[if_pos oM,H3 hk,oS,B4C h.pd,oS,S0 oM,B2r h hx n (k+1) oM oM,lD hk,B3z,A4e,A4e,← A6z,← A6z]
  ·rw[if_neg oM,lL oM];rfl
def B10 (p:D4) (k:Nat):Int :=
 bif decide (nmE ((p.steps.take k).map (·.name)) (p.steps.getD k default).name=0)then
  bif A4n k (p.steps.getD k default).need then 4 else
  bif [(p.steps.getD k default).on_,(p.steps.getD k default).use_,(p.steps.getD k default).off].any (A4n p.batteries.length)then 4 else
  bif [(p.steps.getD k default).need,(p.steps.getD k default).on_,(p.steps.getD k default).use_,(p.steps.getD k default).off].any (fun l=>!A6a l)then 2 else
  bif N9 (p.steps.getD k default).most 0 20000 then 7 else
  bif N9 (p.steps.getD k default).least 0 (p.steps.getD k default).most then 7 else
  bif decide (8<((p.steps.getD k default).acts.length:Int))then 3 else B3z (A1w p) (p.steps.getD k default).acts
 else nmE ((p.steps.take k).map (·.name)) (p.steps.getD k default).name
theorem B6c {F:Nat} {p:D4} (h:CtF F p) (h16:p.steps.length≤16) {k:Nat} (hk:k<p.steps.length):A5E F p k=some (B10 p k):=by
 have hx:=h.st _ (aj hk);have hF:=h.pd.f;have hb:=h.lb
 rw[A5E,H3 hk,oS,B4V ⟨by omega,by omega⟩ h.st hk,oS,B11 ⟨by omega,by omega⟩ ⟨by simp;omega,by simp⟩ (fun l hl=>by simp at hl;subst hl;exact hx.d),oS,
  B11 ⟨by omega,by omega⟩ ⟨by simp;omega,by simp⟩ (fun l hl=>by simp at hl;rcases hl with rfl | rfl | rfl;exact hx.o;exact hx.u;exact hx.f),oS,
  B7H ⟨by simp;omega,by simp⟩ (fun l hl=>by simp at hl;rcases hl with rfl | rfl | rfl | rfl;exact hx.d;exact hx.o;exact hx.u;exact hx.f),oS,X2,oS,X2,oS,A4K,
  show A1l F p p.steps[k] (fun _=>some 0) F 0=_ from B2r h hx F 0 (by have:=hx.a;omega) oM,aB]
 unfold B10;rw[J6 default hk];simp only[A4e,A0q,A6z,bd,cW,bU]
def A4d (f:Nat→Int):Nat→Nat→Int × Int
 | 0,_=>(0,0)
 | m+1,k=>bif decide (f k=0)then A4d f m (k+1)else(k,f k)
theorem A7W {f:Nat→Int}:∀ {m k:Nat},(A4d f m k).2=0→∀ j,k≤j→j<k+m→f j=0
 | 0,k,_,j,h1,h2=>absurd h2 oM
 | m+1,k,h,j,h1,h2=>by
  rw[A4d]at h;by_cases h0:f k=0
  ·rw[dT h0,cT]at h;by_cases hj:j=k
   ·rw[hj];exact h0
   ·exact A7W h j oM oM
  ·rw[dF h0,cF]at h;exact absurd h h0
theorem A8U {ρ:Type} {g:Nat→ρ→Int→Option (Int × Int × Int)} {f:Nat→Int} {len:Nat} {pt:Int} {c:Option (Int × Int × Int)} (h0:∀ (n:Nat) (r:ρ) (k:Nat),k<len→f k=0→∃ r',g (n+1) r k=g n r' ((k+1:Nat):Int)) (he:∀ (n:Nat) (r:ρ) (k:Nat),k<len→f k≠0→g (n+1) r k=some (pt,(k:Int),f k)) (h1:∀ n r,g (n+1) r len=c) :
 ∀ (n k:Nat) (r:ρ),len<n+k→k≤len→g n r k=A7x pt (A4d f (len-k) k) c
 | 0,k,r,h,h2=>absurd h oM
 | n+1,k,r,h,h2=>by
  by_cases hk:k<len
  ·rw[show len-k=(len-(k+1))+1 by omega,A4d];by_cases hf:f k=0
   ·obtain⟨r',hr⟩:=h0 n r k hk hf;rw[hr,A8U h0 he h1 n (k+1) r' oM oM,dT hf,cT]
   ·rw[he n r k hk hf,dF hf,cF,A7x,dF hf,cF]
  ·obtain rfl:k=len:=by omega
   rw[h1,cJ,A4d];rfl
def stE (p:D4) (k:Nat):Int:=nmE (p.stations.take k) (p.stations.getD k default)
def B6m (p:D4) (k:Nat):Int:=bif decide (nmE ((p.batteries.take k).map (·.name)) (p.batteries.getD k default).name=0)then(bif N9 (p.batteries.getD k default).charge 1 1000000 then 7 else bif N9 (p.batteries.getD k default).rate 1 1000 then 7 else 0)else nmE ((p.batteries.take k).map (·.name)) (p.batteries.getD k default).name
def A9K (p:D4) (k:Nat):Int:=bif N9 (p.points.getD k 0) 0 ((p.steps.length:Int)-1)then 4 else bif decide (0<k)&&decide (p.points.getD k 0≤p.points.getD (k-1) 0)then 2 else 0
def B3p (p:D4):Int × Int × Int:=bif N9 p.O8 0 100000 then(7,0,7)else bif N9 p.Q8 0 p.O8 then(7,0,7)else(0,0,0)
def B6p (p:D4):Bool:=decide (8<(p.stations.length:Int))||(decide (6<(p.batteries.length:Int))||N9 p.steps.length 1 16)
def B8g (p:D4):Int × Int × Int:=part 3 (A4d (stE p) p.stations.length 0) (part 4 (A4d (B6m p) p.batteries.length 0) (part 5 (A4d (B10 p) p.steps.length 0) (part 6 (A4d (A9K p) p.points.length 0) (B3p p))))
def A35 (p:D4):Int × Int × Int:=bif decide ((A2n (A1w p)).2.2=0)then(bif B6p p then(2,0,3)else B8g p)else(1,0,(A2n (A1w p)).2.2)
theorem B0H {p:D4} (h:B6p p=false):p.stations.length≤8∧p.batteries.length≤6∧1≤p.steps.length∧p.steps.length≤16:=by
 unfold B6p at h;rw[cg,cg,O6,decide_eq_false_iff_not,decide_eq_false_iff_not]at h;omega
theorem CL1 {F:Nat} {p:D4} (h:CtF F p) (hs:1≤p.steps.length∧p.steps.length≤16) (c:Option (Int × Int × Int)):S4 F p (fun _=>c) F 0=A7x 6 (A4d (A9K p) p.points.length 0) c:=by
 have hp:=h.lp;have:=A8U (ρ:=Unit) (g:=fun n _ k=>S4 F p (fun _=>c) n k) (f:=A9K p) (len:=p.points.length) (pt:=6) (c:=c) (fun n r k hk hf=>⟨(),?_⟩) (fun n r k hk hf=>?_) (fun n r=>by show S4 F p (fun _=>c) (n+1) _=c;rw[S4,if_neg oM]) F 0 () oM oM
 ·simpa using this
 ·show S4 F p (fun _=>c) (n+1) k=S4 F p (fun _=>c) n _;unfold A9K at hf;rw[S4,if_pos oM,H3 hk,oS,X2,oS,A8K,S0 oM];rw[J6 0 hk]at hf;cases h1:N9 p.points[k] 0 ((p.steps.length:Int)-1)with
  | true=>rw[h1]at hf;cases hf
  | false =>
   rw[h1,cF]at hf;rw[if_neg sM];by_cases h0:0<k
   ·rw[if_pos oM,B23 h0 oM,H3 (by omega:k-1<p.points.length),oS,if_neg ?_];rw[dT h0,bf,J6 0 (by omega:k-1<p.points.length)]at hf;intro hc;rw[dT hc]at hf;cases hf
   ·rw[if_neg oM]
 ·show S4 F p (fun _=>c) (n+1) k=_;unfold A9K at hf ⊢;rw[S4,if_pos oM,H3 hk,oS,X2,oS,A8K,S0 oM];rw[J6 0 hk]at hf ⊢;cases h1:N9 p.points[k] 0 ((p.steps.length:Int)-1)with
  | true=>rw[if_pos rfl,cT]
  | false =>
   rw[h1,cF]at hf;rw[if_neg sM,cF];by_cases h0:0<k
   ·rw[if_pos oM,B23 h0 oM,H3 (by omega:k-1<p.points.length),oS];rw[dT h0,bf,J6 0 (by omega:k-1<p.points.length)]at hf ⊢;by_cases hc:p.points[k]≤p.points[k-1]
    ·rw[if_pos hc,dT hc,cT]
    ·rw[dF hc]at hf;exact absurd rfl hf
   ·rw[dF h0]at hf;exact absurd rfl hf
theorem CL2 {F:Nat} {p:D4} (h:CtF F p) (hs:1≤p.steps.length∧p.steps.length≤16) (c:Option (Int × Int × Int)) (r:Int):A0d F p (fun _ _=>c) F r 0=A7x 5 (A4d (B10 p) p.steps.length 0) c:=by
 have hF:=h.pd.f;exact A8U (g:=A0d F p (fun _ _=>c)) (f:=B10 p) (len:=p.steps.length) (pt:=5) (c:=c)
  (fun n r k hk hf=>⟨_,by rw[A0d,if_pos oM,B6c h hs.2 hk,oS,if_pos hf,S0 oM]⟩)
  (fun n r k hk hf=>by rw[A0d,if_pos oM,B6c h hs.2 hk,oS,if_neg hf]) (fun n r=>by rw[A0d,if_neg oM]) F 0 r oM oM
theorem CL4 {F:Nat} {p:D4} (h:CtF F p) (hs:p.stations.length≤8) (c:Option (Int × Int × Int)) (r:Int):A0e F p (fun _ _=>c) F r 0=A7x 3 (A4d (stE p) p.stations.length 0) c:=by
 have hF:=h.pd.f;have key:∀ k (hk:k<p.stations.length),Q6 F p.stations k=some (stE p k):=fun k hk=>by
  rw[B7J ⟨by omega,by omega⟩ h.sn hk,stE,J6 default hk]
 exact A8U (g:=A0e F p (fun _ _=>c)) (f:=stE p) (len:=p.stations.length) (pt:=3) (c:=c)
  (fun n r k hk hf=>⟨_,by rw[A0e,if_pos oM,key k hk,oS,if_pos hf,S0 oM]⟩)
  (fun n r k hk hf=>by rw[A0e,if_pos oM,key k hk,oS,if_neg hf]) (fun n r=>by rw[A0e,if_neg oM]) F 0 r oM oM
theorem CL3 {F:Nat} {p:D4} (h:CtF F p) (hs:p.batteries.length≤6) (c:Option (Int × Int × Int)) (r:Int):X6 F p (fun _ _=>c) F r 0=A7x 4 (A4d (B6m p) p.batteries.length 0) c:=by
 have hF:=h.pd.f;have one:∀ (n:Nat) (r:Int) k (hk:k<p.batteries.length),X6 F p (fun _ _=>c) (n+1) r k=bif decide (nmE ((p.batteries.take k).map (·.name)) (p.batteries.getD k default).name=0)then(bif N9 (p.batteries.getD k default).charge 1 1000000 then some (4,(k:Int),7)else bif N9 (p.batteries.getD k default).rate 1 1000 then some (4,(k:Int),7)else X6 F p (fun _ _=>c) n (nmE ((p.batteries.take k).map (·.name)) (p.batteries.getD k default).name) ((k+1:Nat):Int))else some (4,(k:Int),nmE ((p.batteries.take k).map (·.name)) (p.batteries.getD k default).name):=fun n r k hk=>by
  rw[X6,if_pos oM,H3 hk,oS,B68 ⟨by omega,by omega⟩ h.bn hk,oS,X2,oS,X2,oS,S0 oM,J6 default hk];simp only[A4e,A0q]
 exact A8U (g:=X6 F p (fun _ _=>c)) (f:=B6m p) (len:=p.batteries.length) (pt:=4) (c:=c)
  (fun n r k hk hf=>⟨nmE ((p.batteries.take k).map (·.name)) (p.batteries.getD k default).name,by
   rw[one n r k hk];unfold B6m at hf;by_cases h0:nmE ((p.batteries.take k).map (·.name)) (p.batteries.getD k default).name=0
   ·rw[dT h0,cT]at hf ⊢;cases h1:N9 (p.batteries.getD k default).charge 1 1000000<;>cases h2:N9 (p.batteries.getD k default).rate 1 1000<;>rw[h1,h2]at hf<;>first | rfl | cases hf
   ·rw[dF h0,cF]at hf;exact absurd hf h0⟩)
  (fun n r k hk hf=>by
   rw[one n r k hk];unfold B6m at hf ⊢;by_cases h0:nmE ((p.batteries.take k).map (·.name)) (p.batteries.getD k default).name=0
   ·rw[dT h0,cT]at hf ⊢;rw[cT];cases h1:N9 (p.batteries.getD k default).charge 1 1000000<;>cases h2:N9 (p.batteries.getD k default).rate 1 1000<;>rw[h1,h2]at hf<;>first | rfl | exact absurd rfl hf
   ·rw[dF h0,cF,cF]) (fun n r=>by rw[X6,if_neg oM]) F 0 r oM oM
theorem B7s {F:Nat} {p:D4} (h:CtF F p):A4P F p=some (A35 p):=by
 rw[A4P,A7e h.pd,oS,X2,oS,A2o,A3Y];unfold A35;by_cases h0:(A2n (A1w p)).2.2=0
 ·rw[if_pos h0,dT h0,cT];cases hb:B6p p with
  | true =>
   rw[cT];unfold B6p at hb;simp only[cd,decide_eq_true_eq]at hb;by_cases h1:8<(p.stations.length:Int)
   ·rw[if_pos h1]
   ·rw[if_neg h1];by_cases h2:6<(p.batteries.length:Int)
    ·rw[if_pos h2]
    ·rw[if_neg h2,if_pos (by rcases hb with hb | hb | hb;exact absurd hb h1;exact absurd hb h2;exact hb)]
  | false =>
   have h1:=B0H hb;have h2:N9 p.steps.length 1 16=false:=O6.2 oM;rw[if_neg oM,if_neg oM,h2,if_neg sM,cF];simp only[CL1 h h1.2.2,CL2 h h1.2.2,CL3 h h1.2.1,CL4 h h1.1,X2,oS];unfold B8g;rw[← A5O,← A5O,← A5O,← A5O];unfold B3p;simp only[A4e,A0q,A6z]
 ·rw[if_neg h0,dF h0,cF]
structure B0B (p:D4) (k:Nat) (x:E0):Prop where
 nd:∀ n∈x.need,0≤n∧n<k
 na:A6a x.need=true
 on:∀ n∈x.on_,0≤n∧n<p.batteries.length
 us:∀ n∈x.use_,0≤n∧n<p.batteries.length
 off:∀ n∈x.off,0≤n∧n<p.batteries.length
 oa:A6a x.on_=true
 ua:A6a x.use_=true
 fa:A6a x.off=true
 m:0≤x.most∧x.most≤20000
 l:0≤x.least∧x.least≤x.most
 a:x.acts.length≤8
 ae:B3z (A1w p) x.acts=0
structure A5Y (p:D4):Prop where
 c:(A2n (A1w p)).2.2=0
 pd:A6x (A1w p)
 s8:p.stations.length≤8
 b6:p.batteries.length≤6
 t1:1≤p.steps.length
 t16:p.steps.length≤16
 b:∀ k,k<p.batteries.length→(1≤(p.batteries.getD k default).charge∧(p.batteries.getD k default).charge≤1000000)∧1≤(p.batteries.getD k default).rate∧(p.batteries.getD k default).rate≤1000
 t:∀ k,k<p.steps.length→B0B p k (p.steps.getD k default)
 pt:∀ k,k<p.points.length→0≤p.points.getD k 0∧p.points.getD k 0<p.steps.length
 w:(0≤p.Q8∧p.Q8≤p.O8)∧p.O8≤100000
theorem A8g {n:Int} {x:Int × Int} {c:Int × Int × Int} (h:(part n x c).2.2=0):x.2=0∧c.2.2=0:=by
 unfold part at h;by_cases h0:x.2=0
 ·rw[dT h0,cT]at h;exact⟨h0,h⟩
 ·rw[dF h0,cF]at h;exact absurd h h0
theorem A4o {many:Int} {l:List Int} (h:A4n many l=false):∀ n∈l,0≤n∧n<many:=by
 unfold A4n at h;rw[eB]at h;intro n hn;have:=h n hn;simp only[Bool.not_eq_true]at this;have:=O6.1 this;omega
theorem B8l {p:D4} {k:Nat} (h:B10 p k=0):B0B p k (p.steps.getD k default):=by
 unfold B10 at h;obtain⟨x,hx⟩:∃ x,p.steps.getD k default=x:=⟨_,rfl⟩;rw[hx]at h ⊢;by_cases h0:nmE ((p.steps.take k).map (·.name)) x.name=0
 ·rw[dT h0,cT]at h;cases h1:A4n k x.need with
  | true=>rw[h1]at h;cases h
  | false =>
   cases h2:[x.on_,x.use_,x.off].any (A4n p.batteries.length)with
   | true=>rw[h1,h2]at h;cases h
   | false =>
    cases h3:[x.need,x.on_,x.use_,x.off].any (fun l=>!A6a l)with
    | true=>rw[h1,h2,h3]at h;cases h
    | false =>
     cases h4:N9 x.most 0 20000 with
     | true=>rw[h1,h2,h3,h4]at h;cases h
     | false =>
      cases h5:N9 x.least 0 x.most with
      | true=>rw[h1,h2,h3,h4,h5]at h;cases h
      | false =>
       rw[h1,h2,h3,h4,h5]at h;simp only[cF]at h;by_cases h6:8<(x.acts.length:Int)
       ·rw[dT h6]at h;cases h
       ·rw[dF h6,cF]at h;simp only[bd,cW,bU,cg,Bool.not_eq_false']at h2 h3;obtain⟨a1,a2,a3⟩:=h2;obtain⟨b0,b1,b2,b3⟩:=h3;have c4:=O6.1 h4;have c5:=O6.1 h5;exact⟨A4o h1,b0,A4o a1,A4o a2,A4o a3,b1,b2,b3,c4,c5,by omega,h⟩
 ·rw[dF h0,cF]at h;exact absurd h h0
theorem A95 {p:D4} (h:(A35 p).2.2=0):A5Y p:=by
 unfold A35 at h;by_cases h0:(A2n (A1w p)).2.2=0
 ·rw[dT h0,cT]at h;cases hb:B6p p with
  | true=>rw[hb]at h;cases h
  | false =>
   rw[hb,cF]at h;obtain⟨k1,k2,k3,k4⟩:=B0H hb;unfold B8g at h;obtain⟨h1,h⟩:=A8g h;obtain⟨h2,h⟩:=A8g h;obtain⟨h3,h⟩:=A8g h;obtain⟨h4,h⟩:=A8g h;refine⟨h0,A60 h0,k1,k2,k3,k4,fun k hk=>?_,fun k hk=>B8l (A7W h3 k oM oM),fun k hk=>?_,?_⟩
   ·have:=A7W h2 k oM oM;unfold B6m at this;by_cases e0:nmE ((p.batteries.take k).map (·.name)) (p.batteries.getD k default).name=0
    ·rw[dT e0,cT]at this;cases e1:N9 (p.batteries.getD k default).charge 1 1000000<;>cases e2:N9 (p.batteries.getD k default).rate 1 1000<;>rw[e1,e2]at this<;>first | exact⟨O6.1 e1,O6.1 e2⟩ | cases this
    ·rw[dF e0,cF]at this;exact absurd this e0
   ·have:=A7W h4 k oM oM;unfold A9K at this;cases e1:N9 (p.points.getD k 0) 0 ((p.steps.length:Int)-1)with
    | true=>rw[e1]at this;cases this
    | false=>have:=O6.1 e1;omega
   ·unfold B3p at h;cases e1:N9 p.O8 0 100000<;>cases e2:N9 p.Q8 0 p.O8<;>rw[e1,e2]at h<;>first | exact⟨O6.1 e2,(O6.1 e1).2⟩ | cases h
 ·rw[dF h0,cF]at h;exact absurd h h0
abbrev A8M (x:C7):D2:=D2.mk x.A04 x.A0D x.A1L x.A0E x.A0F
def A20 (p:D4) (k:Int):Int:=bif decide (k=1)||decide (k=2)then p.steps.length else bif decide (k=5)||decide (k=6)then p.stations.length else bif decide (k=7)then p.points.length else p.batteries.length
def A3r (k:Int):Bool:=decide (k=3)||decide (k=4)||decide (k=8)
def B0C (x:C7):Bool:=bif decide (x.kind=8)then !decide (x.A04=x.at_)else !D2.beq (A8M x) (D2.mk 0 0 0 0 0)
def A5H (p:D4) (x:C7):Int :=
 bif N9 x.at_ 0 100000 then 7 else bif N9 x.kind 1 9 then 2 else
 bif !A3r x.kind&&N9 x.what 0 (A20 p x.kind-1)then 4 else
 bif (A3r x.kind && !decide (x.what=0))||B0C x then 2 else
 bif decide (x.kind=8)then A9U (A1w p) (A8M x)else 0
theorem C00 {p:D4} {k:Int} (h:1≤k∧k≤9):(A2e (M0 (M0 (M0 (M0 (M0 (M0 ([]:List (Int × Int)) 1 (p.steps.length:Int)) 2 (p.steps.length:Int)) 5 (p.stations.length:Int)) 6 (p.stations.length:Int)) 7 (p.points.length:Int)) 9 (p.batteries.length:Int)) k).isSome=!A3r k ∧
  (A3r k=false→(A2e (M0 (M0 (M0 (M0 (M0 (M0 ([]:List (Int × Int)) 1 (p.steps.length:Int)) 2 (p.steps.length:Int)) 5 (p.stations.length:Int)) 6 (p.stations.length:Int)) 7 (p.points.length:Int)) 9 (p.batteries.length:Int)) k).getD 0=A20 p k):=by
 have h9:k=1∨k=2∨k=3∨k=4∨k=5∨k=6∨k=7∨k=8∨k=9:=by omega
 rcases h9 with rfl | rfl | rfl | rfl | rfl | rfl | rfl | rfl | rfl<;>first | exact⟨rfl,fun _=>rfl⟩ | exact⟨rfl,fun h=>absurd h dM⟩
theorem B71 {F:Nat} {p:D4} (h:CtF F p) (ho:A5Y p) (x:C7):A3I F p x=some (A5H p x):=by
 have hl:0≤A20 p x.kind∧A20 p x.kind<9223372036854775808:=by
  have:=h.lp;have:=ho.t16;have:=ho.s8;have:=ho.b6;unfold A20;cases decide (x.kind=1)||decide (x.kind=2)<;>cases decide (x.kind=5)||decide (x.kind=6)<;>cases decide (x.kind=7)<;>simp only[cT,cF]<;>omega
 rw[A3I,X2,oS,X2,oS];unfold A5H;cases h1:N9 x.at_ 0 100000 with
 | true=>rw[if_pos rfl,cT]
 | false =>
  cases h2:N9 x.kind 1 9 with
  | true=>rw[if_neg sM,if_pos rfl,cF,cT]
  | false =>
   obtain⟨m1,m2⟩:=C00 (p:=p) (O6.1 h2);rw[if_neg sM,if_neg sM,cF,cF,m1,A1t,A1u,A1v,B4C h.pd,oS,X2,oS];cases hn:A3r x.kind with
   | false =>
    rw[m2 hn,A8K oM oM,if_pos sM];unfold B0C;by_cases h8:x.kind=8
    ·rw[h8]at hn;cases hn
    ·simp only[if_neg h8,dF h8,cF,cU,bf,bO,bu];cases N9 x.what 0 (A20 p x.kind-1)<;>cases D2.beq (A8M x) (D2.mk 0 0 0 0 0)<;>rfl
   | true =>
    rw[if_neg sM];unfold B0C;by_cases h8:x.kind=8
    ·simp only[if_pos h8,dT h8,cT,dA,bO,bf,cF,A4e];cases decide (x.what=0)<;>cases decide (x.A04=x.at_)<;>rfl
    ·simp only[if_neg h8,dF h8,cF,dA,bO,bf,A4e];cases decide (x.what=0)<;>cases D2.beq (A8M x) (D2.mk 0 0 0 0 0)<;>rfl
structure B18 (p:D4) (x:C7):Prop where
 t:0≤x.at_∧x.at_≤100000
 k:1≤x.kind∧x.kind≤9
 w:A3r x.kind=false→0≤x.what∧x.what<A20 p x.kind
 a:x.kind=8→x.A04=x.at_∧A9U (A1w p) (A8M x)=0
theorem B60 {p:D4} {x:C7} (h:A5H p x=0):B18 p x:=by
 unfold A5H at h;cases h1:N9 x.at_ 0 100000 with
 | true=>rw[h1]at h;cases h
 | false =>
  cases h2:N9 x.kind 1 9 with
  | true=>rw[h1,h2]at h;cases h
  | false =>
   rw[h1,h2]at h;simp only[cF]at h;cases h3:!A3r x.kind&&N9 x.what 0 (A20 p x.kind-1)with
   | true=>rw[h3]at h;cases h
   | false =>
    cases h4:(A3r x.kind && !decide (x.what=0))||B0C x with
    | true=>rw[h3,h4]at h;cases h
    | false =>
     rw[h3,h4]at h;simp only[cF]at h;refine⟨O6.1 h1,O6.1 h2,fun hn=>?_,fun h8=>?_⟩
     ·rw[hn]at h3;have:=O6.1 (show N9 x.what 0 (A20 p x.kind-1)=false from h3);omega
     ·rw[dT h8,cT]at h;refine⟨?_,h⟩;rw[cg]at h4;have:=h4.2;unfold B0C at this;rw[dT h8,cT]at this;simpa using this
abbrev dsk (p:D4) (s:H2):F7:=F7.mk p.N4 p.P5 p.N6 p.S5 p.J3 p.Q7 p.T9 p.stations p.batteries p.steps p.points p.Q8 p.O8 s.now s.A9j s.N4 s.A5M s.J3 s.A68 s.A69 s.begun s.ended s.held s.go s.left s.on_
abbrev B1c (s:H2):C3:=C3.mk s.A9j s.N4 s.A5M s.J3 s.A68 s.A69
abbrev B3q (s:H2) (d:C3):H2:={s with A9j:=d.now,N4:=d.zones,A5M:=d.holder,J3:=d.squibs,A68:=d.siren,A69:=d.storm}
def B9C:H2:=H2.mk 0 0 [] [] [] 0 false [] [] false [] [] []
def A0U (p:D4):H2:=B3q ⟨0,0,[],[],[],0,false,ak p.steps.length (-1),ak p.steps.length (-1),false,ak p.stations.length false,p.batteries.map (·.charge),ak p.batteries.length false⟩ (A4C (A1w p)).1
theorem B34 {F:Nat} {p:D4} (hb:p.batteries.length≤6) {K:List Int→Option ((Option F7) × Int)}:∀ (n k:Nat),p.batteries.length<n+k→k≤p.batteries.length→A1r F p (fun lv _=>K lv) n ((p.batteries.take k).map (·.charge)) k=K (p.batteries.map (·.charge))
 | 0,k,h,h2=>absurd h oM
 | n+1,k,h,h2=>by
  rw[A1r];by_cases hk:k<p.batteries.length
  ·rw[if_pos oM,H3 hk,oS,A8O (by rw[aS,aN];omega),oS,S0 oM,B6V (fun b:D9=>b.charge) hk,B34 hb n (k+1) oM oM]
  ·rw[if_neg oM,di oM]
theorem B7o {F:Nat} {p:D4} (h:CtF F p):A4Q F p=some (if(A35 p).2.2=0 then(some (dsk p (A0U p)),0)else(none,(A35 p).2.2)):=by
 have hF:=h.pd.f;rw[A4Q,B7s h,oS];by_cases h0:(A35 p).2.2=0
 ·have ho:=A95 h0;have k1:=ho.b6;have k2:=ho.t16;have k3:=ho.s8;rw[if_pos h0,if_pos h0,B2f h.pd,oS,B5w hF k2,oS,oS];have:=B34 (F:=F) k1 (K:=fun lv=>(B1D (p.stations.length:Int)).bind fun q2=>(B1D (p.batteries.length:Int)).bind fun q3=>some ((some (F7.mk p.N4 p.P5 p.N6 p.S5 p.J3 p.Q7 p.T9 p.stations p.batteries p.steps p.points p.Q8 p.O8 0 (A4C (A1w p)).1.now (A4C (A1w p)).1.zones (A4C (A1w p)).1.holder (A4C (A1w p)).1.squibs (A4C (A1w p)).1.siren (A4C (A1w p)).1.storm (ak p.steps.length (-1)) (ak p.steps.length (-1)) false (ak q2 false) lv (ak q3 false))),0)) F 0 oM oM;rw[List.take_zero,List.map_nil]at this;refine this.trans ?_;rw[B0U oM,oS,B0U oM,oS];rfl
 ·rw[if_neg h0,if_neg h0]
structure CF (p:D4) (s:H2):Prop where
 lb:s.begun.length=p.steps.length
 le:s.ended.length=p.steps.length
 lg:s.go.length=p.stations.length
 ll:s.left.length=p.batteries.length
 lo:s.on_.length=p.batteries.length
 now:0≤s.now∧s.now≤100000
 b:∀ k,k<p.steps.length → -1≤s.begun.getD k 0∧s.begun.getD k 0≤s.now
 e:∀ k,k<p.steps.length → -1≤s.ended.getD k 0∧s.ended.getD k 0≤s.now
 l:∀ k,k<p.batteries.length→0≤s.left.getD k 0∧s.left.getD k 0≤(p.batteries.getD k default).charge
 pd:∀ F,A5x F (A1w p)→StF F (B1c s)
theorem A5J {α:Type} (n k:Nat) (a d:α) (h:k<n):(ak n a).getD k d=a:=by simp[am,h]
theorem B1z {p:D4} (ho:A5Y p):CF p (A0U p) where
 lb:=aL
 le:=aL
 lg:=aL
 ll:=aS _
 lo:=aL
 now:=⟨cm 0,by show(0:Int)≤100000;decide⟩
 b k hk:=by
  rw[show(A0U p).begun.getD k 0 = -1 from A5J _ _ _ _ hk];exact⟨by decide,by show(-1:Int)≤0;decide⟩
 e k hk:=by
  rw[show(A0U p).ended.getD k 0 = -1 from A5J _ _ _ _ hk];exact⟨by decide,by show(-1:Int)≤0;decide⟩
 l k hk:=by
  have h1:(A0U p).left.getD k 0=(p.batteries.getD k default).charge:=by
   show(p.batteries.map (·.charge)).getD k 0=_;simp[am,List.getElem?_eq_getElem hk]
  rw[h1];have:=(ho.b k hk).1;omega
 pd F hF:=B42 hF.f
def B14 {α:Type} (n:Nat) (f:Nat→α):List α:=(List.range n).map f
theorem B15 {α:Type} (n:Nat) (f:Nat→α):(B14 n f).length=n:=by simp[B14]
theorem B48 {α:Type} {n:Nat} {f:Nat→α} {k:Nat} {d:α} (h:k<n):(B14 n f).getD k d=f k:=by simp[B14,am,h]
theorem B2D {α:Type} {l:List α} {n:Nat} {f:Nat→α} (d:α) (h:l.length=n) (hf:∀ k,k<n→l.getD k d=f k):l=B14 n f:=by
 apply List.ext_getElem (by rw[B15,h]);intro k h1 h2;have:=hf k oM;rw[J6 d h1]at this;rw[this];simp[B14]
theorem A6I {α:Type} (l:List α) (i k:Nat) (a d:α) (h:i<l.length):(l.set i a).getD k d=if k=i then a else l.getD k d:=by
 simp only[am,eC];by_cases e:k=i
 ·subst e;simp[h]
 ·simp[e,Ne.symm e]
theorem sG {α:Type} {l:List α} {i k:Nat} {a d:α} (h:i<l.length):(l.set i a).getD k d=if k=i then a else l.getD k d:=A6I l i k a d h
def B0f (p:D4) (s:H2) (t:Int) (k:Nat):Int:=bif s.on_.getD k false then max 0 (s.left.getD k 0-(t-s.now)*(p.batteries.getD k default).rate)else s.left.getD k 0
def B4e (p:D4) (s:H2) (t:Int):H2:={s with now:=t,left:=B14 p.batteries.length (B0f p s t)}
theorem A96 {F:Nat} {l:List Int} (h:l.length≤100):T3 F l=some l:=A8R oM
theorem B0J {F:Nat} {l:List Bool} (h:l.length≤100):A0v F l=some l:=by
 unfold A0v B26;rw[if_pos (by simp;omega)];rfl
theorem B6u {F:Nat} {p:D4} {s:H2} (ho:A5Y p) (hs:CF p s):A0Y F (dsk p s)=some (dsk p s):=by
 have:=ho.t16;have:=ho.s8;have:=ho.b6;have:=hs.lb;have:=hs.le;have:=hs.lg;have:=hs.ll;have:=hs.lo;rw[A0Y,A96 (by show s.begun.length≤_;omega),oS,A96 (by show s.ended.length≤_;omega),oS,A96 (by show s.left.length≤_;omega),oS,B0J (by show s.go.length≤_;omega),oS,B0J (by show s.on_.length≤_;omega),oS]
theorem B4n {a b:Int} (h1:0≤a∧a≤100000) (h2:1≤b∧b≤1000):0≤a*b∧a*b≤100000000:=by
 constructor
 ·exact Int.mul_nonneg h1.1 oM
 ·calc a*b≤100000*1000:=Int.mul_le_mul h1.2 h2.2 oM oM
   _=100000000:=by decide
theorem B8Z {F:Nat} {p:D4} {s:H2} (hF:100<F) (ho:A5Y p) (hs:CF p s) {t:Int} (ht:s.now≤t∧t≤100000):A2V F (dsk p s) t=some (dsk p (B4e p s t)):=by
 have k1:=ho.b6;have k2:=hs.ll;have k3:=hs.lo;have kn:=hs.now;have key:∀ (n k:Nat) (d:List Int),d.length=p.batteries.length→(∀ j,j<k→d.getD j 0=B0f p s t j)→(∀ j,k≤j→d.getD j 0=s.left.getD j 0)→p.batteries.length<n+k→k≤p.batteries.length →
   T6 F (dsk p s) t (fun d2 _=>some {dsk p s with H6:=t,A7:=d2}) n d k=some (dsk p (B4e p s t)):=fun n=>by
  induction n with
  | zero=>intro k d _ _ _ h;omega
  | succ n ih =>
   intro k d h1 h2 h3 h h4;rw[T6];by_cases hk:k<p.batteries.length
   ·have hb:=(ho.b k hk).2;have hl:=hs.l k hk;have hc:=(ho.b k hk).1;have hm:=B4n (a:=t-s.now) oM hb;rw[if_pos (by show(k:Int)<(p.batteries.length:Int);omega),show P3 (dsk p s).E7 k=some p.batteries[k]from H3 hk,oS,show P3 (dsk p s).B0 k=some (s.on_[k]'oM)from H3 (show k<s.on_.length by omega),oS,S0 oM];have ek:B0f p s t k=bif s.on_[k]'oM then max 0 (s.left.getD k 0-(t-s.now)*p.batteries[k].rate)else s.left.getD k 0:=by
     unfold B0f;rw[J6 false (by omega:k<s.on_.length),J6 default hk]
    rw[J6 default hk]at hm hb;cases ho2:s.on_[k]'oM with
    | true =>
     rw[ho2,cT]at ek;rw[if_pos rfl,H3 (by omega:k<d.length),oS,← J6 0 (by omega:k<d.length),h3 k (aw _)];unfold A5g;have w1:W (t-s.now)=t-s.now:=A8K oM oM;have w2:W ((t-s.now)*p.batteries[k].rate)=(t-s.now)*p.batteries[k].rate:=A8K oM oM;have w3:W (s.left.getD k 0-(t-s.now)*p.batteries[k].rate)=s.left.getD k 0-(t-s.now)*p.batteries[k].rate:=A8K oM oM;rw[oS];show T6 F (dsk p s) t _ n (d.set (k:Int).toNat (max 0 (W (s.left.getD k 0-W (W (t-s.now)*p.batteries[k].rate))))) _=_;rw[w1,w2,w3];have hkn:(k:Int).toNat=k:=by omega
     rw[hkn];refine ih (k+1) _ (by rw[aX];exact h1) (fun j hj=>?_) (fun j hj=>?_) oM oM
     ·rw[sG oM];by_cases e:j=k
      ·rw[if_pos e,e,ek]
      ·rw[if_neg e];exact h2 j oM
     ·rw[sG oM,if_neg oM];exact h3 j oM
    | false =>
     rw[ho2,cF]at ek;rw[if_neg sM];refine ih (k+1) d h1 (fun j hj=>?_) (fun j hj=>h3 j oM) oM oM;by_cases e:j=k
     ·rw[e,ek];exact h3 k (aw _)
     ·exact h2 j oM
   ·rw[if_neg (by show ¬ (k:Int)<(p.batteries.length:Int);omega)];have:d=B14 p.batteries.length (B0f p s t):=B2D 0 h1 fun j hj=>h2 j oM;rw[this];rfl
 exact key F 0 s.left k2 (fun j hj=>by omega) (fun j _=>rfl) oM oM
theorem B5P {p:D4} {s:H2} (ho:A5Y p) (hs:CF p s) {t:Int} (ht:s.now≤t∧t≤100000):CF p (B4e p s t) where
 lb:=hs.lb
 le:=hs.le
 lg:=hs.lg
 ll:=B15 _ _
 lo:=hs.lo
 now:=by have:=hs.now;show 0≤t∧t≤100000;omega
 b k hk:=by have:=hs.b k hk;show -1≤s.begun.getD k 0∧s.begun.getD k 0≤t;omega
 e k hk:=by have:=hs.e k hk;show -1≤s.ended.getD k 0∧s.ended.getD k 0≤t;omega
 l k hk:=by
  show 0≤(B14 p.batteries.length (B0f p s t)).getD k 0∧(B14 p.batteries.length (B0f p s t)).getD k 0≤_;rw[B48 hk];have hl:=hs.l k hk;have hn:=hs.now;have hm:=B4n (a:=t-s.now) oM (ho.b k hk).2;unfold B0f;cases s.on_.getD k false
  ·rw[cF];exact hl
  ·rw[cT];omega
 pd:=hs.pd
def scD (p:D4):Except Int H2→Except Int F7
 | .ok s => .ok (dsk p s)
 | .error e => .error e
theorem Z0 {α:Type} (F:Nat) (b:Bool) (w:Int) (f:Int→Option α) (g:Unit→Option α):((P4 F b w).bind fun rv=>exE rv f g)=bif b then g ()else f w:=by cases b<;>rfl
theorem B3C {σ α:Type} (l:List α) (d:α) (h:σ→α→σ) (s:σ):(az 0 l.length).foldl (fun s k=>h s (l.getD k d)) s=l.foldl h s:=by
 have key:∀ m k s,k+m=l.length→(az k m).foldl (fun s k=>h s (l.getD k d)) s=(l.drop k).foldl h s:=fun m=>by
  induction m with
  | zero=>intro k s hk;rw[lL oM];rfl
  | succ m ih =>
   intro k s hk;rw[List.range'_succ,bY,ih (k+1) _ oM,lD (by omega:k<l.length),bY,J6 d oM]
 simpa using key l.length 0 s oM
theorem A6T {F:Nat} {l:List Int} (hl:l.length<F∧l.length<9223372036854775808) (v:Int):S9 F l v=some (l.any fun e=>decide (v=e)):=by
 obtain⟨r,h1,h2⟩:=A6P (g:=T0 F l v (fun _=>some (-1))) (s:=l) (p:=fun e=>decide (v=e)) (fun n k hk=>by rw[T0,if_pos oM,H3 hk,oS,S0 oM];simp only[decide_eq_true_eq]) (fun n=>by rw[T0,if_neg oM]) F 0 oM oM;rw[S9,A2x,show(0:Int)=((0:Nat):Int)from rfl,h1,oS,show((0:Nat):Int)=0 from rfl,h2,aB]
theorem B1A {F:Nat} {l:List Bool} (hl:l.length<F∧l.length<9223372036854775808) (v:Bool):A0H F l v=some (l.any fun e=>v==e):=by
 obtain⟨r,h1,h2⟩:=A6P (g:=V7 F l v (fun _=>some (-1))) (s:=l) (p:=fun e=>v==e) (fun n k hk=>by rw[V7,if_pos oM,H3 hk,oS,S0 oM]) (fun n=>by rw[V7,if_neg oM]) F 0 oM oM;rw[A0H,A2Y,show(0:Int)=((0:Nat):Int)from rfl,h1,oS,show((0:Nat):Int)=0 from rfl,h2,aB]
theorem B0F {m:Nat} {l:List Int} (h:A6a l=true) (hl:∀ n∈l,0≤n∧n<m):l.length≤m:=B59 h hl
def A4N (x:E0) (s:H2):Bool:=!x.poll || !s.go.any (fun e=>false==e)
theorem B2j {F:Nat} {p:D4} {s:H2} (hF:100<F) (ho:A5Y p) (hs:CF p s) (x:E0):Z4 F (dsk p s) x=some (bif A4N x s then .ok (dsk p s)else .error 184):=by
 have:=ho.s8;have:=hs.lg;rw[Z4,B1A (by show s.go.length<F∧s.go.length<_;omega),oS,Z0,Z0];unfold A4N;cases x.poll
 ·rfl
 ·rw[if_pos rfl];show(bif !(s.go.any fun e=>false==e)then _ else _)=_;cases s.go.any (fun e=>false==e)<;>rfl
def A1Y (x:E0) (s:H2) (others:List Int):Bool:=x.use_.all fun b=>decide (0<s.left.getD b.toNat 0)&&(s.on_.getD b.toNat false||others.any fun e=>decide (b=e))
theorem B1s {p:D4} {s:H2} {k:Nat} {x:E0} (hs:CF p s) (hx:B0B p k x) {j:Nat} (hj:j<x.use_.length):P3 (dsk p s).A7 x.use_[j]=some (s.left.getD x.use_[j].toNat 0)∧P3 (dsk p s).B0 x.use_[j]=some (s.on_.getD x.use_[j].toNat false):=by
 obtain⟨h1,h2⟩:=hx.us _ (aj hj);have k1:=hs.ll;have k2:=hs.lo;have e:x.use_[j]=((x.use_[j].toNat:Nat):Int):=by omega
 constructor
 ·show P3 s.left x.use_[j]=_;rw[e,H3 (by omega:x.use_[j].toNat<s.left.length),← e,J6 0 oM]
 ·show P3 s.on_ x.use_[j]=_;rw[e,H3 (by omega:x.use_[j].toNat<s.on_.length),← e,J6 false oM]
theorem B5s {F:Nat} {p:D4} {s:H2} {k:Nat} {x:E0} (hF:100<F) (ho:A5Y p) (hs:CF p s) (hx:B0B p k x) {others:List Int} (hl:others.length<F∧others.length<9223372036854775808):X7 F (dsk p s) x others=some (bif A1Y x s others then .ok (dsk p s)else .error 185):=by
 have hu:=B0F hx.ua hx.us;have hb:=ho.b6;rw[X7];have:=A4H (g:=Q5 F (dsk p s) x others fun _=>some (.ok (dsk p s))) (f:=fun j=>decide (0<s.left.getD (x.use_.getD j 0).toNat 0)&&(s.on_.getD (x.use_.getD j 0).toNat false||others.any fun e=>decide (x.use_.getD j 0=e))) (len:=x.use_.length) (c:=some (.ok (dsk p s))) (fl:=some (.error 185)) (fun n j hj=>?_) (fun n=>by rw[Q5,if_neg oM]) F 0 oM oM
 ·refine this.trans ?_;rw[aP,A93 x.use_ 0 (fun b=>decide (0<s.left.getD b.toNat 0)&&(s.on_.getD b.toNat false||others.any fun e=>decide (b=e)))];show(bif A1Y x s others then _ else _)=_;cases A1Y x s others<;>rfl
 ·obtain⟨h1,h2⟩:=B1s hs hx hj;rw[Q5,if_pos oM,H3 hj,oS,h1,oS,h2,oS,A6T hl,oS,S0 oM,J6 0 hj];simp only[Z0,cT,cF,A4e,A0q];cases decide (0<s.left.getD x.use_[j].toNat 0)<;>cases s.on_.getD x.use_[j].toNat false<;>cases(others.any fun e=>decide (x.use_[j]=e))<;>rfl
theorem B4g {F:Nat} {p:D4} {s:H2} {k:Nat} {x:E0} (hF:100<F) (ho:A5Y p) (hs:CF p s) (hx:B0B p k x):Y6 F (dsk p s) x=some (bif A1Y x s []then .ok (dsk p s)else .error 185):=by
 have hu:=B0F hx.ua hx.us;have hb:=ho.b6;rw[Y6];have:=A4H (g:=P2 F (dsk p s) x fun _=>some (.ok (dsk p s))) (f:=fun j=>decide (0<s.left.getD (x.use_.getD j 0).toNat 0)&&(s.on_.getD (x.use_.getD j 0).toNat false||([]:List Int).any fun e=>decide (x.use_.getD j 0=e))) (len:=x.use_.length) (c:=some (.ok (dsk p s))) (fl:=some (.error 185)) (fun n j hj=>?_) (fun n=>by rw[P2,if_neg oM]) F 0 oM oM
 ·refine this.trans ?_;rw[aP,A93 x.use_ 0 (fun b=>decide (0<s.left.getD b.toNat 0)&&(s.on_.getD b.toNat false||([]:List Int).any fun e=>decide (b=e)))];show(bif A1Y x s []then _ else _)=_;cases A1Y x s []<;>rfl
 ·obtain⟨h1,h2⟩:=B1s hs hx hj;rw[P2,if_pos oM,H3 hj,oS,h1,oS,h2,oS,A6T (l:=[]) ⟨by simp;omega,by simp⟩,oS,S0 oM,J6 0 hj];simp only[Z0,cT,cF,A4e,A0q];cases decide (0<s.left.getD x.use_[j].toNat 0)<;>cases s.on_.getD x.use_[j].toNat false<;>rfl
def A6e (s:H2) (k:Nat):Bool:=decide (0≤s.ended.getD k 0)
def B2o (s:H2) (k:Nat):Bool:=decide (0≤s.begun.getD k 0) && !A6e s k
theorem B2C {F:Nat} {p:D4} {s:H2} (hs:CF p s) {k:Nat} (hk:k<p.steps.length):Y5 F (dsk p s) k=some (A6e s k):=by
 have:=hs.le;rw[Y5,show P3 (dsk p s).A5 k=some (s.ended[k]'oM)from H3 (show k<s.ended.length by omega),oS,A6e,J6 0 oM]
theorem B9l {F:Nat} {p:D4} {s:H2} (hs:CF p s) {k:Nat} (hk:k<p.steps.length):A0R F (dsk p s) k=some (B2o s k):=by
 have:=hs.lb;rw[A0R,show P3 (dsk p s).A1 k=some (s.begun[k]'oM)from H3 (show k<s.begun.length by omega),oS,B2C hs hk,oS,B2o,J6 0 oM];simp only[A4e];cases decide (0≤s.begun[k]'oM)<;>rfl
theorem B2K {F:Nat} {p:D4} {s:H2} (ho:A5Y p):U8 F (dsk p s)=some ((p.steps.length-1:Nat):Int):=by
 have:=ho.t1;have:=ho.t16;rw[U8];show some (W ((p.steps.length:Int)-1))=_;rw[B23 oM oM]
def onL (l:List Int) (v:Bool) (o:List Bool):List Bool:=l.foldl (fun o b=>o.set b.toNat v) o
theorem B5M (l:List Int) (v:Bool):∀ o:List Bool,(onL l v o).length=o.length:=by
 induction l with
 | nil=>intro o;rfl
 | cons x l ih=>intro o;show(onL l v (o.set x.toNat v)).length=_;rw[ih,aX]
theorem B2c (l:List Int) (v:Bool) (o:List Bool):(az 0 l.length).foldl (fun o j=>o.set (l.getD j 0).toNat v) o=onL l v o:=B3C l 0 (fun o b=>o.set b.toNat v) o
def B0G (p:D4) (s:H2) (i:Nat) (t:Int):Except Int H2 :=
 bif decide (s.begun.getD i 0<0)then
  bif (p.steps.getD i default).need.all (fun n=>A6e s n.toNat)then
   bif !s.held then
    bif A4N (p.steps.getD i default) s then
     bif A1Y (p.steps.getD i default) s (p.steps.getD i default).on_ then
      .ok {s with begun:=s.begun.set i t,on_:=onL (p.steps.getD i default).on_ true s.on_}
     else .error 185
    else .error 184
   else .error 183
  else .error 182
 else .error 181
theorem B9y {p:D4} {o:List Bool} (h:o.length=p.batteries.length) {b:Int} (hb:0≤b∧b<p.batteries.length):∃ e,P3 o b=some e:=by
 obtain⟨m,rfl⟩:∃ m:Nat,b=m:=⟨b.toNat,by omega⟩;exact⟨_,H3 oM⟩
theorem B6n {F:Nat} {p:D4} {s:H2} (hF:100<F) (hf:CtF F p) (ho:A5Y p) (hs:CF p s) {i:Nat} (hi:i<p.steps.length) {e:C7} (he:e.what=i):A0X F (dsk p s) e=some (scD p (B0G p s i e.at_)):=by
 have hx:=ho.t i hi;have hxF:=hf.st _ (aj hi);have k1:=hs.lb;have k2:=ho.t16;have k3:=ho.b6;have hn:=B0F hx.na hx.nd;have hon:=B0F hx.oa hx.on;rw[J6 default hi]at hx hn hon;rw[A0X,he,show P3 (dsk p s).F8 i=some p.steps[i]from H3 hi,oS,show P3 (dsk p s).A1 i=some (s.begun[i]'oM)from H3 (show i<s.begun.length by omega),oS,Z0];unfold B0G;rw[J6 default hi,J6 0 (by omega:i<s.begun.length)];cases decide (s.begun[i]'oM<0)with
 | false=>rfl
 | true =>
  rw[cT,cT];have:=A4H (g:=T4 F (dsk p s) p.steps[i] fun _=>(P4 F (!(dsk p s).F9) 183).bind fun rv4=>exE rv4 (fun x4=>some (.error x4)) (fun v3=>(Z4 F (dsk p s) p.steps[i]).bind fun rv5=>exE rv5 (fun x5=>some (.error x5)) (fun v4=>(X7 F v4 p.steps[i] p.steps[i].on_).bind fun rv6=>exE rv6 (fun x6=>some (.error x6)) (fun v5=>(P3 v5.A1 i).bind fun e4=>(A5g v5.A1 i e.at_).bind fun q=>P8 F p.steps[i] (fun(t2:(List Bool)) (x7:Int)=>some (.ok {v5 with A1:=q,B0:=t2})) F v5.B0 0))))
   (f:=fun j=>A6e s (p.steps[i].need.getD j 0).toNat) (len:=p.steps[i].need.length) (fl:=some (.error 182)) (fun n j hj=>?_) (fun n=>by rw[T4,if_neg oM]) F 0 oM oM
  ·refine this.trans ?_;rw[aP,A93 p.steps[i].need 0 (fun n=>A6e s n.toNat)];cases p.steps[i].need.all (fun n=>A6e s n.toNat)with
   | false=>rfl
   | true =>
    rw[cT,cT,Z0];show(bif !s.held then _ else _)=_;cases hh:!s.held with
    | false=>rfl
    | true =>
     rw[cT,cT,B2j hF ho hs,oS];cases A4N p.steps[i] s with
     | false=>rfl
     | true =>
      rw[cT,cT];show((X7 F (dsk p s) p.steps[i] p.steps[i].on_).bind _)=_;rw[B5s hF ho hs hx oM,oS];cases A1Y p.steps[i] s p.steps[i].on_ with
      | false=>rfl
      | true =>
       rw[cT,cT];show((P3 s.begun i).bind _)=_;rw[H3 (by omega:i<s.begun.length),oS];show P8 F p.steps[i] (fun t2 _=>some (.ok {dsk p s with A1:=s.begun.set i e.at_,B0:=t2})) F s.on_ 0=_;refine(A5I (g:=P8 F p.steps[i] fun t2 _=>some (.ok {dsk p s with A1:=s.begun.set i e.at_,B0:=t2})) (f:=fun o j=>o.set (p.steps[i].on_.getD j 0).toNat true) (len:=p.steps[i].on_.length) (c:=fun t2=>some (.ok {dsk p s with A1:=s.begun.set i e.at_,B0:=t2})) (fun o _=>o.length=p.batteries.length) (fun o k _ h=>by rw[aX];exact h) (fun n o k hk h=>?_) (fun n o h=>by rw[P8,if_neg oM]) F s.on_ 0 hs.lo oM oM).trans ?_
       ·obtain⟨q,hq⟩:=B9y h (hx.on _ (aj hk));rw[P8,if_pos oM,H3 hk,oS,hq,oS,J6 0 hk,S0 oM];rfl
       ·rw[aP,B2c];rfl
  ·have hd:=hx.nd _ (aj hj);have e1:p.steps[i].need[j]=((p.steps[i].need[j].toNat:Nat):Int):=by omega
   rw[T4,if_pos oM,H3 hj,oS,J6 0 hj];rw[show Y5 F (dsk p s) p.steps[i].need[j]=some (A6e s p.steps[i].need[j].toNat) by rw[e1,B2C hs oM];rfl,oS,Z0,S0 oM]
theorem B9H {α β:Type} (a:α) (f:Int→β) (g:α→β):exE (.ok a) f g=g a:=rfl
def A8L (p:D4) (s:H2) (a:D2):Except Int H2:=bif decide ((DoP (A1w p) (B1c s) a).2=0)then .ok (B3q s (DoP (A1w p) (B1c s) a).1)else .error (DoP (A1w p) (B1c s) a).2
theorem B7l {F:Nat} {p:D4} {s:H2} (hf:CtF F p) (hs:StF F (B1c s)) (a:D2):A07 F (dsk p s) a=some (scD p (A8L p s a)):=by
 rw[A07,show A7D F _ _ a=some (DoP (A1w p) (B1c s) a)from B2e hf.pd hs,oS,Z0];unfold A8L;cases decide ((DoP (A1w p) (B1c s) a).2=0)<;>rfl
def PdK (p:D4) (s:H2):Prop:=∀ F,A5x F (A1w p)→StF F (B1c s)
theorem B24 {p:D4} {s s':H2} {a:D2} (hs:PdK p s) (h:A8L p s a = .ok s'):PdK p s':=fun F hF=>by
 unfold A8L at h;cases hd:decide ((DoP (A1w p) (B1c s) a).2=0)with
 | false=>rw[hd]at h;cases h
 | true =>
  rw[hd,cT]at h;injection h with h
  subst h;exact B81 hF (hs F hF)
def A8v (p:D4) (t:Int):List D2→H2→Except Int H2
 | [],s => .ok s
 | a::l,s=>match A8L p s {a with at_:=t}with
  | .ok s'=>A8v p t l s'
  | .error e => .error e
abbrev B7z (F:Nat) (e:C7) (x:E0) (K:F7→Option (Except Int F7)) (n:Nat) (d:F7) (k:Int):Option (Except Int F7):=A0k F e x (fun t2 t3 t4 t5 t6 t7 t8 t9 t10 t11 t12 t13 t14 t15 t16 t17 t18 t19 t20 t21 t22 t23 t24 t25 t26 t27 _=>K (F7.mk t2 t3 t4 t5 t6 t7 t8 t9 t10 t11 t12 t13 t14 t15 t16 t17 t18 t19 t20 t21 t22 t23 t24 t25 t26 t27)) n d.H0 d.G8 d.G2 d.H4 d.G3 d.G9 d.H5 d.H9 d.E7 d.F8 d.I9 d.D8 d.G0 d.H6 d.G5 d.F5 d.E8 d.E5 d.F3 d.F4 d.A1 d.A5 d.F9 d.B1 d.A7 d.B0 k
theorem B4P (F:Nat) (e:C7) (x:E0) (K:F7→Option (Except Int F7)) (n:Nat) (d:F7) (k:Int):B7z F e x K (n+1) d k=if k<(x.acts.length:Int)then((P3 x.acts k).bind fun e3=>(A07 F d {e3 with at_:=e.at_}).bind fun rv=>exE rv (fun w=>some (.error w)) fun v=>B7z F e x K n v (W (k+1)))else K d:=rfl
theorem B1L {F:Nat} {p:D4} (hf:CtF F p) {e:C7} {x:E0} (hx:x.acts.length≤8) {K:F7→Option (Except Int F7)}:∀ (n k:Nat) (s:H2),PdK p s→x.acts.length<n+k→k≤x.acts.length →
  B7z F e x K n (dsk p s) k=match A8v p e.at_ (x.acts.drop k) s with | .ok s'=>K (dsk p s') | .error w=>some (.error w)
 | 0,k,s,_,h,h2=>absurd h oM
 | n+1,k,s,hs,h,h2=>by
  rw[B4P];by_cases hk:k<x.acts.length
  ·rw[if_pos oM,H3 hk,oS,lD hk,S0 oM];change _=match (match A8L p s {x.acts[k]with at_:=e.at_}with | .ok s'=>A8v p e.at_ (x.acts.drop (k+1)) s' | .error e => .error e)with | .ok s'=>K (dsk p s') | .error w=>some (.error w)
   rw[B7l hf (hs F hf.pd),oS];cases ha:A8L p s {x.acts[k]with at_:=e.at_}with
   | error w=>rfl
   | ok s'=>exact B1L hf hx n (k+1) s' (B24 hs ha) oM oM
  ·rw[if_neg oM,lL oM];rfl
theorem A83 {p:D4} {t:Int}:∀ {l:List D2} {s s':H2},A8v p t l s = .ok s'→PdK p s→PdK p s'∧s'.now=s.now∧s'.begun=s.begun∧s'.ended=s.ended∧s'.held=s.held∧s'.go=s.go∧s'.left=s.left∧s'.on_=s.on_
 | [],s,s',h,hs=>by injection h with h;subst h;exact⟨hs,rfl,rfl,rfl,rfl,rfl,rfl,rfl⟩
 | a::l,s,s',h,hs=>by
  change (match A8L p s {a with at_:=t}with | .ok s'=>A8v p t l s' | .error e => .error e)=_ at h;cases ha:A8L p s {a with at_:=t}with
  | error w=>rw[ha]at h;cases h
  | ok s2 =>
   rw[ha]at h;obtain⟨h0,h1,h2,h3,h4,h5,h6,h7⟩:=A83 h (B24 hs ha);have hd:∃ d,s2=B3q s d:=by
    unfold A8L at ha;cases hd:decide ((DoP (A1w p) (B1c s) {a with at_:=t}).2=0)with
    | false=>rw[hd]at ha;cases ha
    | true=>rw[hd,cT]at ha;injection ha with ha;exact⟨_,ha.symm⟩
   obtain⟨d,rfl⟩:=hd;exact⟨h0,h1,h2,h3,h4,h5,h6,h7⟩
def B7v (p:D4) (s:H2) (i:Nat) (t:Int):Except Int H2 :=
 bif B2o s i then
  bif !N9 (t-s.begun.getD i 0) (p.steps.getD i default).least (p.steps.getD i default).most then
   bif A4N (p.steps.getD i default) s then
    bif A1Y (p.steps.getD i default) s []then
     bif decide (i<p.steps.length-1) || !N9 t p.Q8 p.O8 then
      match A8v p t (p.steps.getD i default).acts s with
      | .ok s' => .ok {s' with ended:=s'.ended.set i t,on_:=onL (p.steps.getD i default).off false s'.on_}
      | .error e => .error e
     else .error 187
    else .error 185
   else .error 184
  else .error 186
 else .error 181
theorem B6y {F:Nat} {p:D4} {s:H2} (hF:100<F) (hf:CtF F p) (ho:A5Y p) (hs:CF p s) {i:Nat} (hi:i<p.steps.length) {e:C7} (he:e.what=i) :
 A0j F e p.steps[i] (dsk p s)=some (scD p (match A8v p e.at_ p.steps[i].acts s with | .ok s' => .ok {s' with ended:=s'.ended.set i e.at_,on_:=onL p.steps[i].off false s'.on_} | .error e => .error e)):=by
 have hx:=ho.t i hi;have k3:=ho.b6;have hoff:=B0F hx.fa hx.off;rw[J6 default hi]at hx hoff;rw[A0j,he];refine(B1L hf hx.a (K:=fun d=>(P3 d.A5 i).bind fun e4=>(A5g d.A5 i e.at_).bind fun t28=>R6 F p.steps[i] (fun t29 _=>some (.ok {d with A5:=t28,B0:=t29})) F d.B0 0) F 0 s hs.pd (by have:=hx.a;omega) oM).trans ?_;rw[aB];cases ha:A8v p e.at_ p.steps[i].acts s with
 | error w=>rfl
 | ok s' =>
  obtain⟨h0,h1,h2,h3,h4,h5,h6,h7⟩:=A83 ha hs.pd;have le:s'.ended.length=p.steps.length:=by rw[h3];exact hs.le
  have lo:s'.on_.length=p.batteries.length:=by rw[h7];exact hs.lo
  show(P3 s'.ended i).bind _=_;rw[H3 (by omega:i<s'.ended.length),oS];show R6 F p.steps[i] (fun t29 _=>some (.ok {dsk p s' with A5:=s'.ended.set i e.at_,B0:=t29})) F s'.on_ 0=_;refine(A5I (g:=R6 F p.steps[i] fun t29 _=>some (.ok {dsk p s' with A5:=s'.ended.set i e.at_,B0:=t29})) (f:=fun o j=>o.set (p.steps[i].off.getD j 0).toNat false) (len:=p.steps[i].off.length) (c:=fun t29=>some (.ok {dsk p s' with A5:=s'.ended.set i e.at_,B0:=t29})) (fun o _=>o.length=p.batteries.length) (fun o k _ h=>by rw[aX];exact h) (fun n o k hk h=>?_) (fun n o h=>by rw[R6,if_neg oM]) F s'.on_ 0 lo oM oM).trans ?_
  ·obtain⟨q,hq⟩:=B9y h (hx.off _ (aj hk));rw[R6,if_pos oM,H3 hk,oS,hq,oS,J6 0 hk,S0 oM];rfl
  ·rw[aP,B2c];rfl
theorem B8B {F:Nat} {p:D4} {s:H2} (hF:100<F) (hf:CtF F p) (ho:A5Y p) (hs:CF p s) {i:Nat} (hi:i<p.steps.length) {e:C7} (he:e.what=i) (ht:e.at_=s.now):A1O F (dsk p s) e=some (scD p (B7v p s i e.at_)):=by
 have hx:=ho.t i hi;have k1:=hs.lb;have k2:=ho.t16;have kb:=hs.b i hi;have kn:=hs.now;have tl:=B6y hF hf ho hs hi he;rw[J6 default hi]at hx;rw[A1O,he,show P3 (dsk p s).F8 i=some p.steps[i]from H3 hi,oS,B9l hs hi,oS,Z0];unfold B7v;rw[J6 default hi];rw[J6 0 (by omega:i<s.begun.length)]at kb ⊢;cases B2o s i with
 | false=>rfl
 | true =>
  rw[cT,cT,show P3 (dsk p s).A1 i=some (s.begun[i]'oM)from H3 (show i<s.begun.length by omega),oS,X2,oS,Z0,A8K oM oM];cases !N9 (e.at_-s.begun[i]'oM) p.steps[i].least p.steps[i].most with
  | false=>rfl
  | true =>
   rw[cT,cT,B2j hF ho hs,oS];cases A4N p.steps[i] s with
   | false=>rfl
   | true =>
    rw[cT,cT];show(Y6 F (dsk p s) p.steps[i]).bind _=_;rw[B4g hF ho hs hx,oS];cases A1Y p.steps[i] s []with
    | false=>rfl
    | true =>
     rw[cT,cT];rw[B9H,B2K ho,oS,Z0,X2,oS,Z0,tl];by_cases hl:i<p.steps.length-1
     ·rw[if_pos oM,dT hl];rfl
     ·rw[if_neg oM,dF hl,bu];show(bif !N9 e.at_ p.Q8 p.O8 then _ else _)=_;cases !N9 e.at_ p.Q8 p.O8<;>rfl
def B5G (s:H2) (k:Int):Except Int H2:=bif s.held != decide (k=3)then .ok {s with held:=decide (k=3)}else .error 181
theorem B3I {F:Nat} {p:D4} {s:H2} (e:C7):A08 F (dsk p s) e=some (scD p (B5G s e.kind)):=by
 rw[A08,Z0];unfold B5G;show(bif s.held != decide (e.kind=3)then _ else _)=_;cases s.held != decide (e.kind=3)<;>rfl
def B9m (s:H2) (k:Int) (i:Nat):Except Int H2:=bif s.go.getD i false != decide (k=5)then .ok {s with held:=s.held || !decide (k=5),go:=s.go.set i (decide (k=5))}else .error 181
theorem B5X {F:Nat} {p:D4} {s:H2} (hs:CF p s) {i:Nat} (hi:i<p.stations.length) {e:C7} (he:e.what=i):A0K F (dsk p s) e=some (scD p (B9m s e.kind i)):=by
 have k1:=hs.lg;rw[A0K,he,show P3 (dsk p s).B1 i=some (s.go[i]'oM)from H3 (show i<s.go.length by omega),oS,Z0];unfold B9m;rw[J6 false (by omega:i<s.go.length)];cases s.go[i]'oM != decide (e.kind=5)with
 | false=>rfl
 | true =>
  rw[cT,cT];unfold A5g;rw[oS];show(if s.held=true then some (ev {dsk p s with F9:=true,B1:=s.go.set i (decide (e.kind=5))})else some (ev {dsk p s with F9:=!decide (e.kind=5),B1:=s.go.set i (decide (e.kind=5))}))=some (ev {dsk p s with F9:=s.held || !decide (e.kind=5),B1:=s.go.set i (decide (e.kind=5))});cases s.held<;>rfl
def A6r (p:D4) (l:List Int) (from_:Nat):List Int:=B14 p.steps.length fun k=>if from_≤k then -1 else l.getD k 0
def B9i (p:D4) (s:H2) (i:Nat):Except Int H2 :=
 bif decide (0≤s.begun.getD (p.points.getD i 0).toNat 0)then
  bif !s.J3.any (fun e=>decide ((1:Int)=e))then
   .ok {s with begun:=A6r p s.begun (p.points.getD i 0).toNat,ended:=A6r p s.ended (p.points.getD i 0).toNat,held:=true,go:=ak s.go.length false,on_:=ak s.on_.length false}
  else .error 188
 else .error 181
theorem B4o {F:Nat} {p:D4} {s:H2} (hF:100<F) (hf:CtF F p) (ho:A5Y p) (hs:CF p s) {i:Nat} (hi:i<p.points.length) {e:C7} (he:e.what=i):A05 F (dsk p s) e=some (scD p (B9i p s i)):=by
 have k1:=hs.lb;have k2:=hs.le;have k16:=ho.t16;have hp:=ho.pt i hi;have hq:=(hs.pd F hf.pd).q;rw[J6 0 hi]at hp;obtain⟨m,hm⟩:∃ m:Nat,p.points[i]=m:=⟨p.points[i].toNat,by omega⟩;have hm':m<p.steps.length:=by omega
 rw[A05,he,show P3 (dsk p s).I9 i=some p.points[i]from H3 hi,oS,hm,show P3 (dsk p s).A1 m=some (s.begun[m]'oM)from H3 (show m<s.begun.length by omega),oS,Z0];unfold B9i;rw[J6 0 hi,hm,show(m:Int).toNat=m by omega,J6 0 (by omega:m<s.begun.length)];cases decide (0≤s.begun[m]'oM)with
 | false=>rfl
 | true =>
  rw[cT,cT,A6T (l:=s.J3) (by have:s.J3.length<F∧s.J3.length≤17592186044416:=hq;omega),oS,Z0];cases !s.J3.any (fun e=>decide ((1:Int)=e))with
  | false=>rfl
  | true =>
   rw[cT,cT];have key:∀ (n k:Nat) (a b:List Int),m≤k→a.length=p.steps.length→b.length=p.steps.length→(∀ j,a.getD j 0=if m≤j∧j<k then -1 else s.begun.getD j 0)→(∀ j,b.getD j 0=if m≤j∧j<k then -1 else s.ended.getD j 0)→p.steps.length<n+k→k≤p.steps.length →
    U1 F (dsk p s) (fun t2 t3 _=>(B6t (dsk p s).B1 false).bind fun q=>(B6t (dsk p s).B0 false).bind fun q2=>some (.ok {dsk p s with A1:=t2,A5:=t3,F9:=true,B1:=q,B0:=q2})) n a b k
     = some (.ok (dsk p {s with begun:=A6r p s.begun m,ended:=A6r p s.ended m,held:=true,go:=ak s.go.length false,on_:=ak s.on_.length false})):=fun n=>by
    induction n with
    | zero=>intro k a b _ _ _ _ _ h;omega
    | succ n ih =>
     intro k a b hmk ha hb h1 h2 h h';rw[U1,show U8 F {dsk p s with A1:=a,A5:=b}=some ((p.steps.length-1:Nat):Int)from B2K (s:={s with begun:=a,ended:=b}) ho,oS];by_cases hk:k<p.steps.length
     ·rw[if_pos oM,H3 (by omega:k<a.length),oS,H3 (by omega:k<b.length),S0 oM];unfold A5g;rw[oS,oS,oS,show(k:Int).toNat=k by omega];refine ih (k+1) _ _ oM (by rw[aX];exact ha) (by rw[aX];exact hb) (fun j=>?_) (fun j=>?_) oM oM
      ·rw[sG oM,h1 j];by_cases e1:j=k
       ·rw[if_pos e1];by_cases e2:m≤j
        ·rw[if_pos oM]
        ·omega
       ·rw[if_neg e1];by_cases e2:m≤j∧j<k
        ·rw[if_pos e2,if_pos oM]
        ·rw[if_neg e2,if_neg oM]
      ·rw[sG oM,h2 j];by_cases e1:j=k
       ·rw[if_pos e1];by_cases e2:m≤j
        ·rw[if_pos oM]
        ·omega
       ·rw[if_neg e1];by_cases e2:m≤j∧j<k
        ·rw[if_pos e2,if_pos oM]
        ·rw[if_neg e2,if_neg oM]
     ·rw[if_neg oM];have ea:a=A6r p s.begun m:=B2D 0 ha fun j hj=>by
       rw[h1 j];by_cases e2:m≤j
       ·rw[if_pos oM,if_pos e2]
       ·rw[if_neg oM,if_neg e2]
      have eb:b=A6r p s.ended m:=B2D 0 hb fun j hj=>by
       rw[h2 j];by_cases e2:m≤j
       ·rw[if_pos oM,if_pos e2]
       ·rw[if_neg oM,if_neg e2]
      rw[ea,eb];rfl
   exact key F m s.begun s.ended (aw _) k1 k2 (fun j=>by rw[if_neg oM]) (fun j=>by rw[if_neg oM]) oM oM
def B0v (p:D4) (s:H2) (i:Nat):Except Int H2:=bif !s.on_.getD i false then .ok {s with left:=s.left.set i (p.batteries.getD i default).charge}else .error 181
theorem B4O {F:Nat} {p:D4} {s:H2} (hs:CF p s) {i:Nat} (hi:i<p.batteries.length) {e:C7} (he:e.what=i):A0G F (dsk p s) e=some (scD p (B0v p s i)):=by
 have k1:=hs.lo;have k2:=hs.ll;rw[A0G,he,show P3 (dsk p s).B0 i=some (s.on_[i]'oM)from H3 (show i<s.on_.length by omega),oS,Z0];unfold B0v;rw[J6 false (by omega:i<s.on_.length)];cases !s.on_[i]'oM with
 | false=>rfl
 | true =>
  rw[cT,cT,show P3 (dsk p s).E7 i=some p.batteries[i]from H3 hi,oS,show P3 (dsk p s).A7 i=some (s.left[i]'oM)from H3 (show i<s.left.length by omega),oS,J6 default hi];rfl
theorem B85 {F:Nat} {p:D4} {s:H2} (hf:CtF F p) (hs:CF p s) (e:C7):A1N F (dsk p s) e=some (scD p (A8L p s (A8M e))):=by
 rw[A1N,B7l hf (hs.pd F hf.pd),oS];cases A8L p s (A8M e)<;>rfl
def B3L (p:D4) (s:H2) (e:C7):Except Int H2 :=
 if e.kind=1 then B0G p s e.what.toNat e.at_ else if e.kind=2 then B7v p s e.what.toNat e.at_ else if e.kind=3∨e.kind=4 then B5G s e.kind else
 if e.kind=5∨e.kind=6 then B9m s e.kind e.what.toNat else if e.kind=7 then B9i p s e.what.toNat else if e.kind=8 then A8L p s (A8M e)else B0v p s e.what.toNat
def doC (p:D4) (s:H2) (e:C7):Except Int H2 :=
 bif decide (s.now≤e.at_)then(bif !A6e s (p.steps.length-1)then B3L p (B4e p s e.at_) e else .error 181)else .error 180
theorem A6Y {F:Nat} {p:D4} (o:Except Int H2):(exE (scD p o) (fun x=>some (.error x)) (fun v=>Q9 F v.H0 v.G8 v.G2 v.H4 v.G3 v.G9 v.H5 v.H9 v.E7 v.F8 v.I9 v.D8 v.G0 v.H6 v.G5 v.F5 v.E8 v.E5 v.F3 v.F4 v.A1 v.A5 v.F9 v.B1 v.A7 v.B0):Option (Except Int F7))=some (scD p o):=by cases o<;>rfl
theorem C0v {F:Nat} {p:D4} {s:H2} (hf:CtF F p) (ho:A5Y p) (hs:CF p s) {e:C7} (he:B18 p e):A1F F (dsk p s) e=some (scD p (doC p s e)):=by
 have hF:=hf.pd.f;have t1:=ho.t1;rw[A1F,Z0];unfold doC;show(bif decide (s.now≤e.at_)then _ else _)=_;by_cases ht:s.now≤e.at_
 ·rw[dT ht,cT,cT,B2K ho,oS,B2C hs oM,oS,Z0];cases !A6e s (p.steps.length-1)with
  | false=>rfl
  | true =>
   have hs2:=B5P ho hs ⟨ht,he.t.2⟩;rw[cT,cT,B6u ho hs,oS,B8Z hF ho hs ⟨ht,he.t.2⟩,oS,if_neg (by have:=he.k;omega)];unfold B3L;have wn:A3r e.kind=false→e.what=(e.what.toNat:Int):=fun h=>by have:=he.w h;omega
   by_cases h1:e.kind=1
   ·have hn:A3r e.kind=false:=by rw[h1];rfl
    have hw:=he.w hn;have hm:A20 p e.kind=p.steps.length:=by rw[h1];rfl
    rw[if_pos h1,if_pos h1,B6n hF hf ho hs2 oM (wn hn),oS,A6Y]
   rw[if_neg h1,if_neg h1];by_cases h2:e.kind=2
   ·have hn:A3r e.kind=false:=by rw[h2];rfl
    have hw:=he.w hn;have hm:A20 p e.kind=p.steps.length:=by rw[h2];rfl
    rw[if_pos h2,if_pos h2,B8B hF hf ho hs2 oM (wn hn) rfl,oS,A6Y]
   rw[if_neg h2,if_neg h2];by_cases h3:e.kind=3
   ·rw[if_pos h3,if_pos (.inl h3),B3I,oS,A6Y]
   rw[if_neg h3];by_cases h4:e.kind=4
   ·rw[if_pos h4,if_pos (.inr h4),B3I,oS,A6Y]
   rw[if_neg h4,if_neg (show ¬ (e.kind=3∨e.kind=4) by omega)];by_cases h5:e.kind=5
   ·have hn:A3r e.kind=false:=by rw[h5];rfl
    have hw:=he.w hn;have hm:A20 p e.kind=p.stations.length:=by rw[h5];rfl
    rw[if_pos h5,if_pos (.inl h5),B5X hs2 oM (wn hn),oS,A6Y]
   rw[if_neg h5];by_cases h6:e.kind=6
   ·have hn:A3r e.kind=false:=by rw[h6];rfl
    have hw:=he.w hn;have hm:A20 p e.kind=p.stations.length:=by rw[h6];rfl
    rw[if_pos h6,if_pos (.inr h6),B5X hs2 oM (wn hn),oS,A6Y]
   rw[if_neg h6,if_neg (show ¬ (e.kind=5∨e.kind=6) by omega)];by_cases h7:e.kind=7
   ·have hn:A3r e.kind=false:=by rw[h7];rfl
    have hw:=he.w hn;have hm:A20 p e.kind=p.points.length:=by rw[h7];rfl
    rw[if_pos h7,if_pos h7,B4o hF hf ho hs2 oM (wn hn),oS,A6Y]
   rw[if_neg h7,if_neg h7];by_cases h8:e.kind=8
   ·rw[if_pos h8,if_pos h8,B85 hf hs2,oS,A6Y]
   have h9:e.kind=9:=by have:=he.k;omega
   have hn:A3r e.kind=false:=by rw[h9];rfl
   have hw:=he.w hn;have hm:A20 p e.kind=p.batteries.length:=by rw[h9];rfl
   rw[if_neg h8,if_neg h8,if_pos h9,B4O hs2 oM (wn hn),oS,A6Y]
 ·rw[dF ht];rfl
theorem CF.keep {p:D4} {s s':H2} (h:CF p s) (hp:PdK p s') (h1:s'.now=s.now) (h2:s'.begun=s.begun) (h3:s'.ended=s.ended) (h5:s'.go.length=s.go.length) (h6:s'.left=s.left) (h7:s'.on_.length=s.on_.length):CF p s' where
 lb:=by rw[h2];exact h.lb
 le:=by rw[h3];exact h.le
 lg:=by rw[h5];exact h.lg
 ll:=by rw[h6];exact h.ll
 lo:=by rw[h7];exact h.lo
 now:=by rw[h1];exact h.now
 b:=by rw[h2,h1];exact h.b
 e:=by rw[h3,h1];exact h.e
 l:=by rw[h6];exact h.l
 pd:=hp
theorem B7p {p:D4} {s s':H2} {i:Nat} {t:Int} (h:B0G p s i t = .ok s'):s.begun.getD i 0<0∧(∀ n∈(p.steps.getD i default).need,A6e s n.toNat=true)∧s.held=false∧A4N (p.steps.getD i default) s=true∧A1Y (p.steps.getD i default) s (p.steps.getD i default).on_=true∧s'={s with begun:=s.begun.set i t,on_:=onL (p.steps.getD i default).on_ true s.on_}:=by
 unfold B0G at h;by_cases h1:s.begun.getD i 0<0
 ·rw[dT h1,cT]at h;cases h2:(p.steps.getD i default).need.all (fun n=>A6e s n.toNat)with
  | false=>rw[h2]at h;cases h
  | true =>
   rw[h2,cT]at h;cases h3:!s.held with
   | false=>rw[h3]at h;cases h
   | true =>
    cases h4:A4N (p.steps.getD i default) s with
    | false=>rw[h3,h4]at h;cases h
    | true =>
     cases h5:A1Y (p.steps.getD i default) s (p.steps.getD i default).on_ with
     | false=>rw[h3,h4,h5]at h;cases h
     | true =>
      rw[h3,h4,h5]at h;injection h with h
      exact⟨h1,ax.1 h2,by simpa using h3,rfl,rfl,h.symm⟩
 ·rw[dF h1]at h;cases h
theorem B9G {p:D4} {s s':H2} {i:Nat} {t:Int} (h:B7v p s i t = .ok s'):B2o s i=true∧((p.steps.getD i default).least≤t-s.begun.getD i 0∧t-s.begun.getD i 0≤(p.steps.getD i default).most)∧A4N (p.steps.getD i default) s=true∧A1Y (p.steps.getD i default) s []=true∧(i<p.steps.length-1∨(p.Q8≤t∧t≤p.O8)) ∧
  ∃ s2,A8v p t (p.steps.getD i default).acts s = .ok s2∧s'={s2 with ended:=s2.ended.set i t,on_:=onL (p.steps.getD i default).off false s2.on_}:=by
 unfold B7v at h;cases h1:B2o s i with
 | false=>rw[h1]at h;cases h
 | true =>
  cases h2:N9 (t-s.begun.getD i 0) (p.steps.getD i default).least (p.steps.getD i default).most with
  | true=>rw[h1,h2]at h;cases h
  | false =>
   cases h3:A4N (p.steps.getD i default) s with
   | false=>rw[h1,h2,h3]at h;cases h
   | true =>
    cases h4:A1Y (p.steps.getD i default) s []with
    | false=>rw[h1,h2,h3,h4]at h;cases h
    | true =>
     cases h5:decide (i<p.steps.length-1) || !N9 t p.Q8 p.O8 with
     | false=>rw[h1,h2,h3,h4,h5]at h;cases h
     | true =>
      rw[h1,h2,h3,h4,h5]at h;simp only[cT,cU]at h;cases h6:A8v p t (p.steps.getD i default).acts s with
      | error w=>rw[h6]at h;cases h
      | ok s2 =>
       rw[h6]at h;injection h with h
       refine⟨rfl,O6.1 h2,rfl,rfl,?_,s2,rfl,h.symm⟩;rw[cd,decide_eq_true_eq,Bool.not_eq_true']at h5;rcases h5 with h5 | h5
       ·exact .inl h5
       ·exact .inr (O6.1 h5)
theorem CF.set {p:D4} {s s':H2} (h:CF p s) (hp:PdK p s') (h1:s'.now=s.now) {b e:List Int} (h2:s'.begun=b) (h3:s'.ended=e) (hb:b.length=p.steps.length∧∀ k,k<p.steps.length → -1≤b.getD k 0∧b.getD k 0≤s.now) (he:e.length=p.steps.length∧∀ k,k<p.steps.length → -1≤e.getD k 0∧e.getD k 0≤s.now) (h5:s'.go.length=s.go.length) (h6:s'.left=s.left) (h7:s'.on_.length=s.on_.length):CF p s' where
 lb:=by rw[h2];exact hb.1
 le:=by rw[h3];exact he.1
 lg:=by rw[h5];exact h.lg
 ll:=by rw[h6];exact h.ll
 lo:=by rw[h7];exact h.lo
 now:=by rw[h1];exact h.now
 b:=by rw[h2,h1];exact hb.2
 e:=by rw[h3,h1];exact he.2
 l:=by rw[h6];exact h.l
 pd:=hp
theorem B6b {l:List Int} {n i:Nat} {t m:Int} (hl:l.length=n) (h:∀ k,k<n → -1≤l.getD k 0∧l.getD k 0≤m) (hi:i<n) (ht:0≤t∧t≤m):(l.set i t).length=n∧∀ k,k<n → -1≤(l.set i t).getD k 0∧(l.set i t).getD k 0≤m:=by
 refine⟨by rw[aX];exact hl,fun k hk=>?_⟩;rw[sG oM];split
 ·omega
 ·exact h k hk
theorem B2m {p:D4} {l:List Int} {m:Int} {f:Nat} (h:∀ k,k<p.steps.length → -1≤l.getD k 0∧l.getD k 0≤m) (hm:0≤m):(A6r p l f).length=p.steps.length∧∀ k,k<p.steps.length → -1≤(A6r p l f).getD k 0∧(A6r p l f).getD k 0≤m:=by
 unfold A6r;refine⟨B15 _ _,fun k hk=>?_⟩;rw[B48 hk];split
 ·omega
 ·exact h k hk
theorem B2E {p:D4} {e:C7} (he:B18 p e) (hk:A3r e.kind=false):e.what.toNat<A20 p e.kind∧0≤e.what:=by
 have:=he.w hk;omega
theorem B8H {p:D4} {s s':H2} {e:C7} (ho:A5Y p) (hs:CF p s) (he:B18 p e) (ht:s.now=e.at_) (h:B3L p s e = .ok s'):CF p s'∧s'.now=s.now:=by
 have hn:=hs.now;unfold B3L at h;by_cases h1:e.kind=1
 ·rw[if_pos h1]at h;obtain⟨_,_,_,_,_,rfl⟩:=B7p h;have hw:=B2E he (by rw[h1];rfl);have hm:A20 p e.kind=p.steps.length:=by rw[h1];rfl
  exact⟨hs.set hs.pd rfl rfl rfl (B6b hs.lb hs.b oM oM) ⟨hs.le,hs.e⟩ rfl rfl (B5M _ _ _),rfl⟩
 rw[if_neg h1]at h;by_cases h2:e.kind=2
 ·rw[if_pos h2]at h;obtain⟨_,_,_,_,_,s2,h6,rfl⟩:=B9G h;obtain⟨k0,k1,k2,k3,k4,k5,k6,k7⟩:=A83 h6 hs.pd;have hw:=B2E he (by rw[h2];rfl);have hm:A20 p e.kind=p.steps.length:=by rw[h2];rfl
  refine⟨hs.set k0 k1 rfl rfl ⟨by rw[k2];exact hs.lb,by rw[k2];exact hs.b⟩ ?_ (by rw[← k5]) (by rw[← k6]) (by rw[← k7];exact B5M _ _ _),k1⟩;rw[k3];exact B6b hs.le hs.e oM oM
 rw[if_neg h2]at h;by_cases h3:e.kind=3∨e.kind=4
 ·rw[if_pos h3]at h;unfold B5G at h;cases hh:s.held != decide (e.kind=3)with
  | false=>rw[hh]at h;cases h
  | true =>
   rw[hh,cT]at h;injection h with h
   subst h;exact⟨hs.keep hs.pd rfl rfl rfl rfl rfl rfl,rfl⟩
 rw[if_neg h3]at h;by_cases h5:e.kind=5∨e.kind=6
 ·rw[if_pos h5]at h;unfold B9m at h;cases hh:s.go.getD e.what.toNat false != decide (e.kind=5)with
  | false=>rw[hh]at h;cases h
  | true =>
   rw[hh,cT]at h;injection h with h
   subst h;exact⟨hs.keep hs.pd rfl rfl rfl (aX ..) rfl rfl,rfl⟩
 rw[if_neg h5]at h;by_cases h7:e.kind=7
 ·rw[if_pos h7]at h;unfold B9i at h;cases hh:decide (0≤s.begun.getD (p.points.getD e.what.toNat 0).toNat 0)with
  | false=>rw[hh]at h;cases h
  | true =>
   cases h8:!s.J3.any (fun e=>decide ((1:Int)=e))with
   | false=>rw[hh,h8]at h;cases h
   | true =>
    rw[hh,h8,cT,cT]at h;injection h with h
    subst h;exact⟨hs.set hs.pd rfl rfl rfl (B2m hs.b hn.1) (B2m hs.e hn.1) (aL ..) rfl (aL ..),rfl⟩
 rw[if_neg h7]at h;by_cases h8:e.kind=8
 ·rw[if_pos h8]at h;have hp:=B24 hs.pd h;unfold A8L at h;cases hd:decide ((DoP (A1w p) (B1c s) (A8M e)).2=0)with
  | false=>rw[hd]at h;cases h
  | true =>
   rw[hd,cT]at h;injection h with h
   subst h;exact⟨hs.keep hp rfl rfl rfl rfl rfl rfl,rfl⟩
 rw[if_neg h8]at h;have h9:e.kind=9:=by have:=he.k;omega
 have hw:=B2E he (by rw[h9];rfl);have hm:A20 p e.kind=p.batteries.length:=by rw[h9];rfl
 unfold B0v at h;cases hh:!s.on_.getD e.what.toNat false with
 | false=>rw[hh]at h;cases h
 | true =>
  rw[hh,cT]at h;injection h with h
  subst h;refine⟨⟨hs.lb,hs.le,hs.lg,by show(s.left.set _ _).length=_;rw[aX];exact hs.ll,hs.lo,hs.now,hs.b,hs.e,fun k hk=>?_,hs.pd⟩,rfl⟩;show 0≤(s.left.set _ _).getD k 0∧(s.left.set _ _).getD k 0≤_;rw[sG (by have:=hs.ll;omega)];split
  ·next e1 =>
   have:=(ho.b k hk).1;rw[e1]at this;rw[e1];omega
  ·exact hs.l k hk
theorem C0w {p:D4} {s s':H2} {e:C7} (h:doC p s e = .ok s'):s.now≤e.at_∧A6e s (p.steps.length-1)=false∧B3L p (B4e p s e.at_) e = .ok s':=by
 unfold doC at h;by_cases h1:s.now≤e.at_
 ·rw[dT h1,cT]at h;cases h2:A6e s (p.steps.length-1)with
  | true=>rw[h2]at h;cases h
  | false=>rw[h2]at h;exact⟨h1,rfl,h⟩
 ·rw[dF h1]at h;cases h
theorem C0u {p:D4} {s s':H2} {e:C7} (ho:A5Y p) (hs:CF p s) (he:B18 p e) (h:doC p s e = .ok s'):CF p s'∧s'.now=e.at_:=by
 obtain⟨h1,h2,h3⟩:=C0w h;exact B8H ho (B5P ho hs ⟨h1,he.t.2⟩) he rfl h3
def A8k (p:D4):List C7→Int
 | []=>0
 | x::l=>bif decide (A5H p x=0)then A8k p l else A5H p x
theorem B2F {p:D4}:∀ {l:List C7},A8k p l=0→∀ x∈l,B18 p x
 | [],_=>fun x hx=>by simp at hx
 | y::l,h=>fun x hx=>by
  rw[A8k]at h;by_cases h0:A5H p y=0
  ·rw[dT h0,cT]at h;rcases List.mem_cons.1 hx with rfl | hx
   ·exact B60 h0
   ·exact B2F h x hx
  ·rw[dF h0,cF]at h;exact absurd h h0
def A7y (p:D4) (x:H2 × List Int) (e:C7):H2 × List Int:=match doC p x.1 e with
 | .ok s=>(s,x.2++[0])
 | .error w=>(x.1,x.2++[w])
def A3F (p:D4) (x:H2 × List Int) (l:List C7):H2 × List Int:=l.foldl (A7y p) x
theorem B43 {p:D4} {x:H2 × List Int} {e:C7} (ho:A5Y p) (hs:CF p x.1) (he:B18 p e):CF p (A7y p x e).1∧(A7y p x e).2.length=x.2.length+1:=by
 unfold A7y;cases h:doC p x.1 e with
 | ok s=>exact⟨(C0u ho hs he h).1,by simp⟩
 | error w=>exact⟨hs,by simp⟩
theorem B3i {p:D4} (ho:A5Y p):∀ {l:List C7} {x:H2 × List Int},CF p x.1→(∀ e∈l,B18 p e)→CF p (A3F p x l).1∧(A3F p x l).2.length=x.2.length+l.length
 | [],x,hs,he=>⟨hs,rfl⟩
 | e::l,x,hs,he=>by
  obtain⟨h1,h2⟩:=B43 ho hs (he e sM);obtain⟨h3,h4⟩:=B3i ho (l:=l) h1 (fun y hy=>he y (by simp[hy]));exact⟨h3,by rw[show(A3F p x (e::l))=A3F p (A7y p x e) l from rfl,h4,h2,List.length_cons];omega⟩
def A0O (p:D4) (l:List C7):Option H2 × List Int × Int :=
 if(A35 p).2.2=0 then(if 100<(l.length:Int)then(none,[],3)else if A8k p l=0 then(some (A3F p (A0U p,[]) l).1,(A3F p (A0U p,[]) l).2,0)else(none,[],A8k p l))else(none,[],(A35 p).2.2)
abbrev B5Q (F:Nat) (log:List C7) (K:F7→List Int→Option ((Option F7) × (List Int) × Int)) (n:Nat) (d:F7) (why:List Int) (k:Int):Option ((Option F7) × (List Int) × Int):=A2c F log (fun d1 d2 d3 d4 d5 d6 d7 d8 d9 d10 d11 d12 d13 d14 d15 d16 d17 d18 d19 d20 d21 d22 d23 d24 d25 d26 why2 _=>K (F7.mk d1 d2 d3 d4 d5 d6 d7 d8 d9 d10 d11 d12 d13 d14 d15 d16 d17 d18 d19 d20 d21 d22 d23 d24 d25 d26) why2) n d.H0 d.G8 d.G2 d.H4 d.G3 d.G9 d.H5 d.H9 d.E7 d.F8 d.I9 d.D8 d.G0 d.H6 d.G5 d.F5 d.E8 d.E5 d.F3 d.F4 d.A1 d.A5 d.F9 d.B1 d.A7 d.B0 why k
theorem B5r (F:Nat) (log:List C7) (K:F7→List Int→Option ((Option F7) × (List Int) × Int)) (n:Nat) (d:F7) (why:List Int) (k:Int):B5Q F log K (n+1) d why k=if k<(log.length:Int)then((P3 log k).bind fun e6=>(A1F F d e6).bind fun rv4=>exE rv4 (fun x5=>(A8i why [x5]).bind fun q=>B5Q F log K n d q (W (k+1))) (fun v=>(A8i why [0]).bind fun q2=>B5Q F log K n v q2 (W (k+1))))else K d why:=rfl
theorem B2i {F:Nat} {p:D4} (hf:CtF F p) (ho:A5Y p) {l:List C7} (hl:l.length≤100) (he:∀ e∈l,B18 p e) {K:F7→List Int→Option ((Option F7) × (List Int) × Int)}:∀ (n k:Nat) (x:H2 × List Int),CF p x.1→x.2.length=k→l.length<n+k→k≤l.length →
  B5Q F l K n (dsk p x.1) x.2 k=K (dsk p (A3F p x (l.drop k)).1) (A3F p x (l.drop k)).2
 | 0,k,x,_,_,h,h2=>absurd h oM
 | n+1,k,x,hs,hx,h,h2=>by
  rw[B5r];by_cases hk:k<l.length
  ·have hev:=he _ (aj hk);obtain⟨c1,c2⟩:=B43 (x:=x) ho hs hev;have ih:=B2i hf ho hl he (K:=K) n (k+1) (A7y p x l[k]) c1 oM oM oM;rw[if_pos oM,H3 hk,oS,C0v hf ho hs hev,oS,lD hk,S0 oM,show A3F p x (l[k]::l.drop (k+1))=A3F p (A7y p x l[k]) (l.drop (k+1))from rfl,← ih];unfold A7y;cases hd:doC p x.1 l[k]with
   | ok s=>exact congrArg (fun o=>ed o _) (A8O oM)
   | error w=>exact congrArg (fun o=>ed o _) (A8O oM)
  ·rw[if_neg oM,lL oM];rfl
theorem B72 {F:Nat} {p:D4} (hf:CtF F p) (ho:A5Y p) {l:List C7} (hl:l.length≤100) {c:Option ((Option F7) × (List Int) × Int)}:∀ (n k:Nat) (r:Int),l.length<n+k→k≤l.length →
  A2d F p l (fun _ _=>c) n r k=if A8k p (l.drop k)=0 then c else some (none,[],A8k p (l.drop k))
 | 0,k,r,h,h2=>absurd h oM
 | n+1,k,r,h,h2=>by
  rw[A2d];by_cases hk:k<l.length
  ·rw[if_pos oM,H3 hk,oS,B71 hf ho,oS,S0 oM,lD hk,A8k];by_cases h0:A5H p l[k]=0
   ·rw[if_pos h0,dT h0,cT,B72 hf ho hl n (k+1) _ oM oM]
   ·rw[if_neg h0,dF h0,cF,if_neg h0]
  ·rw[if_neg oM,lL oM];rfl
theorem B9a {F:Nat} {p:D4} (hf:CtF F p) (l:List C7):A42 F p l=some ((A0O p l).1.map (dsk p),(A0O p l).2.1,(A0O p l).2.2):=by
 have hF:=hf.pd.f;rw[A42,B7o hf,oS];unfold A0O;by_cases h0:(A35 p).2.2=0
 ·have ho:=A95 h0;rw[if_pos h0,if_pos h0];show(if(0:Int)=0 then _ else(some (none,[],0):Option ((Option F7) × (List Int) × Int)))=_;rw[if_pos rfl];by_cases h1:100<(l.length:Int)
  ·rw[if_pos h1,if_pos h1];rfl
  ·rw[if_neg h1,if_neg h1];refine(B72 hf ho oM F 0 0 oM oM).trans ?_;rw[aB];by_cases h2:A8k p l=0
   ·rw[if_pos h2,if_pos h2];exact(B2i hf ho oM (B2F h2) (K:=fun d w=>some (some d,w,0)) F 0 (A0U p,[]) (B1z ho) rfl oM oM).trans (by rw[aB];rfl)
   ·rw[if_neg h2,if_neg h2];rfl
 ·rw[if_neg h0,if_neg h0,if_neg h0];rfl
def C1e:Option H2→H2
 | some s=>s
 | none=>B9C
theorem B1r {p:D4} {l:List C7} (h:(A0O p l).1=none):(A0O p l).2.2≠0:=by
 unfold A0O at h ⊢;by_cases h0:(A35 p).2.2=0
 ·rw[if_pos h0]at h ⊢;by_cases h1:100<(l.length:Int)
  ·rw[if_pos h1];decide
  ·rw[if_neg h1]at h ⊢;by_cases h2:A8k p l=0
   ·rw[if_pos h2]at h;cases h
   ·rw[if_neg h2];exact h2
 ·rw[if_neg h0];exact h0
theorem A8D {p:D4} {l:List C7} {s:H2} (h:(A0O p l).1=some s):(A0O p l).2.2=0∧A5Y p∧l.length≤100∧(∀ e∈l,B18 p e)∧s=(A3F p (A0U p,[]) l).1∧(A0O p l).2.1=(A3F p (A0U p,[]) l).2∧(A35 p).2.2=0∧A8k p l=0:=by
 unfold A0O at h ⊢;by_cases h0:(A35 p).2.2=0
 ·rw[if_pos h0]at h ⊢;by_cases h1:100<(l.length:Int)
  ·rw[if_pos h1]at h;cases h
  ·rw[if_neg h1]at h ⊢;by_cases h2:A8k p l=0
   ·rw[if_pos h2]at h ⊢;injection h with h
    exact⟨rfl,A95 h0,by omega,B2F h2,h.symm,rfl,h0,h2⟩
   ·rw[if_neg h2]at h;cases h
 ·rw[if_neg h0]at h;cases h
def A91 (p:D4) (s:H2) (e:C7):H2:=match doC p s e with
 | .ok s'=>s'
 | .error _=>s
def B91:Except Int H2→Int
 | .ok _=>0
 | .error w=>w
def B8z (p:D4) (s:H2) (l:List C7):H2:=l.foldl (A91 p) s
def B57 (p:D4):H2→List C7→List Int
 | _,[]=>[]
 | s,e::l=>B91 (doC p s e)::B57 p (A91 p s e) l
theorem C1z (p:D4) (s:H2) (w:List Int) (e:C7):A7y p (s,w) e=(A91 p s e,w++[B91 (doC p s e)]):=by
 unfold A7y A91;cases h:doC p (s,w).1 e<;>rfl
theorem C0n (p:D4):∀ (l:List C7) (s:H2) (w:List Int),A3F p (s,w) l=(B8z p s l,w++B57 p s l)
 | [],s,w=>by simp[A3F,B8z,B57]
 | e::l,s,w=>by
  rw[show A3F p (s,w) (e::l)=A3F p (A7y p (s,w) e) l from rfl,C1z,C0n p l,B57,List.append_assoc];rfl
theorem C1l {p:D4} {l:List C7} {s:H2} (h:(A0O p l).1=some s):s=B8z p (A0U p) l∧(A0O p l).2.1=B57 p (A0U p) l:=by
 obtain⟨_,_,_,_,h1,h2,_,_⟩:=A8D h;rw[C0n]at h1 h2;exact⟨h1,by rw[h2];rfl⟩
theorem C0S {p:D4} (ho:A5Y p) (I:H2→Prop) (hI:∀ s e s',I s→CF p s→B18 p e→doC p s e = .ok s'→I s'):∀ {l:List C7} {s:H2},I s→CF p s→(∀ e∈l,B18 p e)→I (B8z p s l)∧CF p (B8z p s l)
 | [],s,h,hs,_=>⟨h,hs⟩
 | e::l,s,h,hs,he=>by
  have h1:I (A91 p s e)∧CF p (A91 p s e):=by
   unfold A91;cases hd:doC p s e with
   | ok s'=>exact⟨hI s e s' h hs (he e sM) hd,(C0u ho hs (he e sM) hd).1⟩
   | error w=>exact⟨h,hs⟩
  exact C0S ho I hI (l:=l) h1.1 h1.2 fun x hx=>he x (by simp[hx])
theorem C16 {p:D4} (ho:A5Y p) {l:List C7} {s:H2} (hs:CF p s) (he:∀ e∈l,B18 p e):CF p (B8z p s l):=(C0S ho (fun _=>True) (fun _ _ _ _ _ _ _=>trivial) trivial hs he).2
structure C1t (p:D4) (s:H2):Prop where
 a:∀ k,k<p.steps.length→s.begun.getD k 0<0→s.ended.getD k 0<0
 l:∀ k,k<p.steps.length→0≤s.ended.getD k 0→(p.steps.getD k default).least≤s.ended.getD k 0-s.begun.getD k 0∧s.ended.getD k 0-s.begun.getD k 0≤(p.steps.getD k default).most
 n:∀ k,k<p.steps.length→0≤s.begun.getD k 0→∀ m∈(p.steps.getD k default).need,0≤s.ended.getD m.toNat 0∧s.ended.getD m.toNat 0≤s.begun.getD k 0
 e:0≤s.ended.getD (p.steps.length-1) 0→(p.Q8≤s.ended.getD (p.steps.length-1) 0∧s.ended.getD (p.steps.length-1) 0≤p.O8)∧s.ended.getD (p.steps.length-1) 0=s.now
end Go.Proofs.YtlaogbbcipebgaaGreat
