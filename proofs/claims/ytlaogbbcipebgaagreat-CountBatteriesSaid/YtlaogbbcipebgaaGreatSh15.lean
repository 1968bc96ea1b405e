/- Rows lent to a function that only reads; rows given up for data; the ends of functions. Over whatever program. -/
import Derived.Test.YtlaogbbcipebgaaGreatSh14
namespace Go.Proofs.YtlaogbbcipebgaaGreat.Sh
set_option linter.unusedVariables false
set_option linter.unusedSimpArgs false
open Go
mutual
def D.plain:D→Bool
 | .v _=>true
 | .agg l | .tup l=>B3a l
 | .arr _ []=>true
 | .arr _ (_::_) | .el _ _ _ _ | .mp _ _=>false
def B3a:List D→Bool
 | []=>true
 | x::l=>x.plain&&B3a l
end
theorem A7m:∀ l,B3a l=l.all D.plain
 | []=>rfl
 | x::l=>by rw[B3a,A7m l];rfl
theorem VD.plain {g g':G} {d:D} {c:Value} (h:VD g d c) (hd:d.plain=true):VD g' d c:=by
 induction h with
 | v x h=>exact .v x h
 | agg l cs hl h ih =>
  simp only[D.plain,A7m,List.all_eq_true]at hd
  exact .agg l cs hl fun i d c hd' hc=>ih i d c hd' hc (hd d (List.mem_of_getElem? hd'))
 | tup l cs hl h ih =>
  simp only[D.plain,A7m,List.all_eq_true]at hd
  exact .tup l cs hl fun i d c hd' hc=>ih i d c hd' hc (hd d (List.mem_of_getElem? hd'))
 | arr0 s a cap=>exact .arr0 s a cap
 | arr s l b off cap f hc hK hs hw hv =>
  cases l with
  | nil=>exact .arr0 s _ _
  | cons=>cases hd
 | el=>cases hd
 | mp=>cases hd
inductive A2m (L:List (Option Rw)):T→D→Prop where
 | d (x:D):A2m L (.d x) x
 | rowG {n s len:Nat} {els:List T} {es:List D} (h:L[n]?=some (some ⟨s,els⟩)) (hl:es.length=len) (he:els.length=es.length) (hi:∀ (i:Nat) (t:T) (d:D),els[i]?=some t→es[i]?=some d→A2m L t d):A2m L (.row n s 0 len) (.arr s es)
 | rowO {n s lo len:Nat} {els:List T} {es:List D} (h:L[n]?=some (some ⟨s,els⟩)) (hl:es.length=len) (he:els.length=lo+es.length) (hi:∀ (i:Nat) (t:T) (d:D),els[lo+i]?=some t→es[i]?=some d→A2m L t d):A2m L (.row n s lo len) (.arr s es)
 | refG {n s i o:Nat} {els:List T} {es:List D} (h:L[n]?=some (some ⟨s,els⟩)) (he:els.length=es.length) (hi:∀ (i:Nat) (t:T) (d:D),els[i]?=some t→es[i]?=some d→A2m L t d):A2m L (.ref n s i o) (.el s es i o)
 | agg {l:List T} {ds:List D} (hl:l.length=ds.length) (h:∀ (i:Nat) (t:T) (d:D),l[i]?=some t→ds[i]?=some d→A2m L t d):A2m L (.agg l) (.agg ds)
 | mpR {n:Nat} {ks:List Value} {ys:List T} {vs:List D} (h:L[n]?=some (some ⟨0,(ks.zip ys).map fun p => .agg [.d (.v p.1),p.2]⟩)) (hl:ks.length=ys.length) (hl2:ys.length=vs.length) (hi:∀ (i:Nat) (t:T) (d:D),ys[i]?=some t→vs[i]?=some d→A2m L t d):A2m L (.mp n) (.mp ks vs)
 | nilA {s:Nat}:A2m L (.d (.v (.slice none 0 0))) (.arr s [])
 | aggD {l:List D} {ds:List D} (hl:l.length=ds.length) (h:∀ (i:Nat) (t:D) (d:D),l[i]?=some t→ds[i]?=some d→A2m L (.d t) d):A2m L (.d (.agg l)) (.agg ds)
 | tupD {l:List D} {ds:List D} (hl:l.length=ds.length) (h:∀ (i:Nat) (t:D) (d:D),l[i]?=some t→ds[i]?=some d→A2m L (.d t) d):A2m L (.d (.tup l)) (.tup ds)
 | tup {l:List T} {ds:List D} (hl:l.length=ds.length) (h:∀ (i:Nat) (t:T) (d:D),l[i]?=some t→ds[i]?=some d→A2m L t d):A2m L (.tup l) (.tup ds)
theorem B7D {α:Type} {L:List (Option Rw)} {w:List α} {f:α→D}:∀ (i:Nat) (t:T) (d:D),(w.map fun a=>T.d (f a))[i]?=some t→(w.map f)[i]?=some d→A2m L t d:=fun i t d h1 h2=>by
 rw[List.getElem?_map,Option.map_eq_some_iff]at h1 h2
 obtain⟨a,ha,rfl⟩:=h1
 obtain⟨b,hb,rfl⟩:=h2
 rw[ha]at hb;injection hb with hb;subst hb
 exact .d _
theorem A2m.row {α:Type} {L:List (Option Rw)} {n s len:Nat} {w:List α} {f:α→D} (h:L[n]?=some (some ⟨s,w.map fun a => .d (f a)⟩)) (hl:w.length=len):A2m L (.row n s 0 len) (.arr s (w.map f)) :=
 .rowG h (by simpa using hl) (by simp) B7D
theorem A2m.ref {L:List (Option Rw)} {n s i o:Nat} {x:T} {y:D} (h:L[n]?=some (some ⟨s,[x]⟩)) (k:A2m L x y):A2m L (.ref n s i o) (.el s [y] i o) :=
 .refG h rfl fun i t d h1 h2=>by
  cases i with
  | zero=>simp at h1 h2;subst h1;subst h2;exact k
  | succ i=>simp at h1
inductive A5o (L:List (Option Rw)):List T→List D→Prop where
 | nil:A5o L [] []
 | cons {t:T} {d:D} {ts:List T} {ds:List D} (h:A2m L t d) (k:A5o L ts ds):A5o L (t::ts) (d::ds)
def G.all (g:G):G:=⟨ofL [],g.β,fun b=>g.K b∨¬ NL g b,g.w⟩
theorem B9s {g:G}:∀ b,g.K b→g.all.K b:=fun _ hb=>Or.inl hb
theorem A74 {g:G} (hg:P6 g):P6 g.all:=by
 refine⟨fun n r h=>by simp[G.all,ofL]at h,fun n m r q h=>by simp[G.all,ofL]at h,fun b hb=>?_,fun b _ n r h=>by simp[G.all,ofL]at h⟩
 rcases hb with hb | hb
 ·exact hg.kd b hb
 ·have:∃ n r,g.M n=some (some r)∧(g.β n).2≠0∧(g.β n).1=b:=by
   apply Classical.byContradiction
   intro hc
   exact hb fun n r hn h0 he=>hc ⟨n,r,hn,h0,he⟩
  obtain⟨n,r,hn,h0,rfl⟩:=this
  exact(hg.rows n r hn).lt h0
theorem B65 {g:G} (hg:P6 g) {L:List (Option Rw)} (hM:∀ (n:Nat) (r:Rw),L[n]?=some (some r)→g.M n=some (some r)) {t:T} {d:D} (h:A2m L t d) :
  (∀ {c:Value},VT g t c→VD g.all d c)∧t.cells.length=d.cells.length∧∀ (j:Nat) (t':T) (d':D),t.cells[j]?=some t'→d.cells[j]?=some d'→∀ {c:Value},VT g t' c→VD g.all d' c:=by
 have hK:∀ n r,g.M n=some (some r)→(g.β n).2≠0→g.all.K (g.β n).1:=fun n r hn h0 => .inr fun hh=>hh n r hn h0 rfl
 have one:∀ {t:T} {d:D},(∀ {c:Value},VT g t c→VD g.all d c)→∀ (j:Nat) (t':T) (d':D),[t][j]?=some t'→[d][j]?=some d'→∀ {c:Value},VT g t' c→VD g.all d' c:=fun {t d} h j t' d' h1 h2=>by
  cases j with
  | zero=>simp at h1 h2;subst h1;subst h2;exact h
  | succ j=>simp at h1
 have row:∀ {n s:Nat} {els:List T} {es:List D},g.M n=some (some ⟨s,els⟩)→s≠0→es≠[]→els.length=es.length→(∀ (i:Nat) (t:T) (d:D),els[i]?=some t→es[i]?=some d→(∀ {c:Value},VT g t c→VD g.all d c)∧t.cells.length=d.cells.length∧∀ (j:Nat) (t':T) (d':D),t.cells[j]?=some t'→d.cells[j]?=some d'→∀ {c:Value},VT g t' c→VD g.all d' c) →
   (g.β n).2≠0∧∃ f:Nat→Nat→Value,es.length≤(g.β n).2∧(∀ (i:Nat) (d:D),es[i]?=some d→d.cells.length=s) ∧
    (∀ (i:Nat) (d:D),es[i]?=some d→∀ (j:Nat) (e:D),d.cells[j]?=some e→g.all.w.cell? ⟨(g.β n).1,0+i*s+j,none⟩=some (f i j))∧(∀ (i:Nat) (d:D),es[i]?=some d→∀ (j:Nat) (e:D),d.cells[j]?=some e→VD g.all e (f i j)):=fun {n s els es} hn hs0 hes he ih=>by
  have hpos:0<es.length:=List.length_pos_iff.2 hes
  have hx0:els[0]?=some els[0]:=List.getElem?_eq_getElem (by omega)
  obtain⟨hcap,cells,e,h1,h2,h3,h4⟩:=(hg.rows n _ hn).has hs0 hx0
  have hx:∀ (i:Nat) (d:D),es[i]?=some d→∃ t,els[i]?=some t:=fun i d hd=>by
   have:=(List.getElem?_eq_some_iff.1 hd).1
   exact⟨_,List.getElem?_eq_getElem (by omega)⟩
  have hc:∀ (t:T) (d:D) (j:Nat) (y:D),t.cells.length=d.cells.length→d.cells[j]?=some y→∃ t',t.cells[j]?=some t':=fun t d j y hl hy=>by
   have:=(List.getElem?_eq_some_iff.1 hy).1
   exact⟨_,List.getElem?_eq_getElem (by omega)⟩
  refine⟨hcap,fun i j=>(cells[i*s+j]?).getD undef,by simp only at h3;omega,fun i d hd=>?_,fun i d hd j y hy=>?_,fun i d hd j y hy=>?_⟩<;>obtain⟨t,ht⟩:=hx i d hd<;>obtain⟨k1,k2,k3⟩:=ih i t d ht hd
  ·rw[← k2];exact(h4 i t ht).1
  ·obtain⟨t',ht'⟩:=hc t d j y k2 hy
   obtain⟨c,q1,_⟩:=(h4 i t ht).2 j t' ht'
   show g.w.cell? _=_
   simp only at q1
   simp[World.cell?,h1,q1]
  ·obtain⟨t',ht'⟩:=hc t d j y k2 hy
   obtain⟨c,q1,q2⟩:=(h4 i t ht).2 j t' ht'
   simp only at q1
   simp only[q1,Option.getD_some]
   exact k3 j t' y ht' hy q2
 induction h with
 | d x =>
  have hc:(T.d x).cells=x.cells.map .d:=by cases x<;>rfl
  refine⟨fun {c} hc=>(by cases hc with | d hc=>exact VD.same (g:=g) (g':=g.all) rfl B9s hc),by rw[hc];simp,fun j t d h1 h2 c hc'=>?_⟩
  rw[hc,List.getElem?_map,h2,Option.map_some,Option.some.injEq]at h1
  subst h1
  cases hc' with | d hc'=>exact VD.same (g:=g) (g':=g.all) rfl B9s hc'
 | rowG h hl he hi ih =>
  rename_i n s len els es
  have:∀ {c:Value},VT g (.row n s 0 len) c→VD g.all (.arr s es) c:=fun {c} hc=>by
   cases hc with | row _ _ _ _ a0 hn hs0 hcap ha =>
   by_cases hes:es=[]
   ·subst hes;subst hl;exact .arr0 s _ _
   obtain⟨q0,f,q1,q3,q4,q5⟩:=row (hM n _ h) hs0 hes he ih
   have ha:=ha q0
   subst ha
   have:=VD.arr (g:=g.all) s es (g.β n).1 0 ((g.β n).2-0) f (by omega) (hK n _ (hM n _ h) q0) q3 q4 q5
   rw[Nat.zero_mul]
   rwa [hl]at this
  exact⟨this,rfl,one this⟩
 | rowO h hl he hi ih =>
  rename_i n s lo len els es
  have:∀ {c:Value},VT g (.row n s lo len) c→VD g.all (.arr s es) c:=fun {c} hc=>by
   cases hc with | row _ _ _ _ a0 hn hs0 hcap ha =>
   by_cases hes:es=[]
   ·subst hes;subst hl;exact .arr0 s _ _
   have hpos:0<es.length:=List.length_pos_iff.2 hes
   have hx0:els[lo]?=some els[lo]:=List.getElem?_eq_getElem (by omega)
   obtain⟨q0,cells,e,h1,h2,h3,h4⟩:=(hg.rows n _ (hM n _ h)).has hs0 hx0
   have ha:=ha q0
   subst ha
   have hx:∀ (i:Nat) (d:D),es[i]?=some d→∃ t,els[lo+i]?=some t:=fun i d hd=>by
    have:=(List.getElem?_eq_some_iff.1 hd).1
    exact⟨_,List.getElem?_eq_getElem (by omega)⟩
   have hc:∀ (t:T) (d:D) (j:Nat) (y:D),t.cells.length=d.cells.length→d.cells[j]?=some y→∃ t',t.cells[j]?=some t':=fun t d j y hl hy=>by
    have:=(List.getElem?_eq_some_iff.1 hy).1
    exact⟨_,List.getElem?_eq_getElem (by omega)⟩
   have:=VD.arr (g:=g.all) s es (g.β n).1 (lo*s) ((g.β n).2-lo) (fun i j=>(cells[(lo+i)*s+j]?).getD undef) (by omega) (hK n _ (hM n _ h) q0)
    (fun i d hd=>by obtain⟨t,ht⟩:=hx i d hd;obtain⟨k1,k2,k3⟩:=ih i t d ht hd;rw[← k2];exact(h4 (lo+i) t ht).1)
    (fun i d hd j y hy=>by
     obtain⟨t,ht⟩:=hx i d hd
     obtain⟨k1,k2,k3⟩:=ih i t d ht hd
     obtain⟨t',ht'⟩:=hc t d j y k2 hy
     obtain⟨c,q1,_⟩:=(h4 (lo+i) t ht).2 j t' ht'
     show g.w.cell? _=_
     simp only at q1
     rw[Nat.add_mul]at q1
     simp[World.cell?,h1,q1,Nat.add_mul])
    (fun i d hd j y hy=>by
     obtain⟨t,ht⟩:=hx i d hd
     obtain⟨k1,k2,k3⟩:=ih i t d ht hd
     obtain⟨t',ht'⟩:=hc t d j y k2 hy
     obtain⟨c,q1,q2⟩:=(h4 (lo+i) t ht).2 j t' ht'
     simp only at q1
     simp only[q1,Option.getD_some]
     exact k3 j t' y ht' hy q2)
   rwa [hl]at this
  exact⟨this,rfl,one this⟩
 | refG h he hi ih =>
  rename_i n s i o els es
  have:∀ {c:Value},VT g (.ref n s i o) c→VD g.all (.el s es i o) c:=fun {c} hc=>by
   cases hc with | ref _ _ _ _ hn hs0 =>
   by_cases hes:es=[]
   ·subst hes
    have:=VD.el (g:=g.all) s [] i o (g.β n).1 0 (fun _ _=>undef) (fun h=>absurd rfl h) (fun i d h=>by simp at h) (fun i d h=>by simp at h) (fun i d h=>by simp at h)
    rwa [Nat.zero_add]at this
   obtain⟨q0,f,q1,q3,q4,q5⟩:=row (hM n _ h) hs0 hes he ih
   have:=VD.el (g:=g.all) s es i o (g.β n).1 0 f (fun _=>hK n _ (hM n _ h) q0) q3 q4 q5
   rwa [Nat.zero_add]at this
  exact⟨this,rfl,one this⟩
 | agg hl h ih =>
  refine⟨fun {c} hc=>?_,hl,fun j t d h1 h2=>(ih j t d h1 h2).1⟩
  cases hc with | agg _ cs hl' h' =>
  refine .agg _ cs (hl.symm.trans hl') fun i d c hd hc=>?_
  have hlt:i<_:=(hl.symm▸(List.getElem?_eq_some_iff.1 hd).1)
  exact(ih i _ d (List.getElem?_eq_getElem hlt) hd).1 (h' i _ c (List.getElem?_eq_getElem hlt) hc)
 | tup hl h ih =>
  rename_i l ds
  have:∀ {c:Value},VT g (.tup l) c→VD g.all (.tup ds) c:=fun {c} hc=>by
   cases hc with | tup _ cs hl' h' =>
   refine .tup _ cs (hl.symm.trans hl') fun i d c hd hc=>?_
   have hlt:i<l.length:=(hl.symm▸(List.getElem?_eq_some_iff.1 hd).1)
   exact(ih i _ d (List.getElem?_eq_getElem hlt) hd).1 (h' i _ c (List.getElem?_eq_getElem hlt) hc)
  exact⟨this,rfl,one this⟩
 | mpR h hl hl2 hi ih =>
  rename_i n ks ys vs
  have:∀ {c:Value},VT g (.mp n) c→VD g.all (.mp ks vs) c:=fun {c} hc=>by
   cases hc with | mp _ hn =>
   have hrow:=hg.rows n _ (hM n _ h)
   rcases hrow with⟨_,_,h3⟩ | ⟨h1,_⟩ | ⟨_,h2,es,clock,h3,h4,h5⟩
   ·exact absurd rfl h3
   ·exact absurd rfl h1
   have hsz:es.size=ks.length:=by rw[h4];simp[← hl]
   have get:∀ i,i<ks.length→∃ k y e,ks[i]?=some k∧ys[i]?=some y∧es[i]?=some e∧e.key=k∧VT g y e.val:=fun i hi=>by
    have k1:ks[i]?=some ks[i]:=List.getElem?_eq_getElem hi
    have hi2:i<ys.length:=by omega
    have k2:ys[i]?=some ys[i]:=List.getElem?_eq_getElem hi2
    obtain⟨k,y,e,q1,q2,q3,q4⟩:=h5 i (.agg [.d (.v ks[i]),ys[i]]) (by
     have k3:(ks.zip ys)[i]?=some (ks[i],ys[i]):=List.getElem?_zip_eq_some.2 ⟨k1,k2⟩
     rw[List.getElem?_map,k3];rfl)
    simp only[T.agg.injEq,List.cons.injEq,T.d.injEq,D.v.injEq,and_true]at q1
    obtain⟨rfl,rfl⟩:=q1
    exact⟨_,_,e,k1,k2,q2,q3,q4⟩
   refine .mp ks vs _ es clock (hK n _ (hM n _ h) (by omega)) h3 hsz.symm (by omega) (fun i k e k1 k2=>?_) (fun i d e k1 k2=>?_)
   ·obtain⟨k',y,e',q1,q2,q3,q4,_⟩:=get i (List.getElem?_eq_some_iff.1 k1).1
    rw[k1]at q1;injection q1 with q1
    rw[k2]at q3;injection q3 with q3
    rw[q1,q3];exact q4
   ·obtain⟨k',y,e',q1,q2,q3,_,q5⟩:=get i (by have:=(List.getElem?_eq_some_iff.1 k1).1;omega)
    rw[k2]at q3;injection q3 with q3
    rw[q3]
    exact(ih i y d q2 k1).1 q5
  exact⟨this,rfl,one this⟩
 | nilA =>
  rename_i s
  have:∀ {c:Value},VT g (.d (.v (.slice none 0 0))) c→VD g.all (.arr s []) c:=fun {c} hc=>by
   have:=hc.v_eq
   subst this
   exact .arr0 s _ _
  exact⟨this,rfl,one this⟩
 | aggD hl h ih =>
  rename_i l ds
  refine⟨fun {c} hc=>?_,by simpa[T.cells,D.cells]using hl,fun j t d h1 h2=>?_⟩
  ·cases hc with | d hc =>
   cases hc with | agg _ cs hl' h' =>
   refine .agg _ cs (hl.symm.trans hl') fun i d c hd hc=>?_
   have hlt:i<l.length:=(hl.symm▸(List.getElem?_eq_some_iff.1 hd).1)
   exact(ih i _ d (List.getElem?_eq_getElem hlt) hd).1 (.d (h' i _ c (List.getElem?_eq_getElem hlt) hc))
  ·simp only[T.cells,List.getElem?_map,Option.map_eq_some_iff]at h1
   obtain⟨x,hx,rfl⟩:=h1
   exact(ih j x d hx h2).1
 | tupD hl h ih =>
  rename_i l ds
  have:∀ {c:Value},VT g (.d (.tup l)) c→VD g.all (.tup ds) c:=fun {c} hc=>by
   cases hc with | d hc =>
   cases hc with | tup _ cs hl' h' =>
   refine .tup _ cs (hl.symm.trans hl') fun i d c hd hc=>?_
   have hlt:i<l.length:=(hl.symm▸(List.getElem?_eq_some_iff.1 hd).1)
   exact(ih i _ d (List.getElem?_eq_getElem hlt) hd).1 (.d (h' i _ c (List.getElem?_eq_getElem hlt) hc))
  exact⟨this,rfl,one this⟩
theorem A9b {g:G} (hg:P6 g) {L:List (Option Rw)} (hM:∀ (n:Nat) (r:Rw),L[n]?=some (some r)→g.M n=some (some r)) {t:T} {d:D} (h:A2m L t d) {c:Value} (hc:VT g t c):VD g.all d c:=(B65 hg hM h).1 hc
theorem B2a {g:G} (hg:P6 g) {L:List (Option Rw)} (hM:∀ (n:Nat) (r:Rw),L[n]?=some (some r)→g.M n=some (some r)) {ts:List T} {ds:List D} (h:A5o L ts ds):∀ {cs:List Value},VTs g ts cs→VTs g.all (ds.map .d) cs:=by
 induction h with
 | nil=>intro cs hc;have:=hc.1;cases cs with | nil=>exact .nil _ | cons=>simp at this
 | cons h _ ih =>
  intro cs hc
  cases cs with
  | nil=>have:=hc.1;simp at this
  | cons c cs=>exact .cons (.d (A9b hg hM h (hc.2 0 _ c rfl rfl))) (ih ⟨by simpa using hc.1,fun i t c ht hc'=>hc.2 (i+1) t c (by simpa using ht) (by simpa using hc')⟩)
theorem C0k {g gc':G} (hg:P6 g) (hg':P6 gc') (hl:Le g.all gc'):P6 ⟨g.M,g.β,fun b=>gc'.K b∧NL g b,gc'.w⟩∧Le g ⟨g.M,g.β,fun b=>gc'.K b∧NL g b,gc'.w⟩:=by
 have hfr:∀ b,b<g.w.heap.size→gc'.w.heap[b]?=g.w.heap[b]?:=fun b hb=>hl.fr b hb fun n r h=>by simp[G.all,ofL]at h
 have hle:Le g ⟨g.M,g.β,fun b=>gc'.K b∧NL g b,gc'.w⟩:=by
  refine⟨fun n h=>⟨h,rfl⟩,hl.size,hl.os,hl.tape,hl.output,fun b hb _=>hfr b hb,fun b hb=>⟨hl.k b (.inl hb),hg.kl b hb⟩,fun b hb hk=>?_,fun n r hn h0 _ hh=>hh n r hn h0 rfl⟩
  rcases hl.k' b hb hk.1 with h | h
  ·rcases h with h | h
   ·exact .inl h
   ·exact absurd hk.2 h
  ·exact absurd (fun n r h=>by simp[G.all,ofL]at h) h
 exact⟨⟨fun n r hn=>(hg.rows n r hn).keep hg hle rfl fun h0=>hfr _ ((hg.rows n r hn).lt h0),hg.inj,fun b hb=>hg'.kd b hb.1,fun b hb=>hb.2⟩,hle⟩
section
variable {P:Program} {N:Nat} {ops:Array Oper} {l:List Oper} {ts:List (Nat × T)} {L:List (Option Rw)} {tr:List Stp} {K:List Oper→List Stp→St→Prop} {d:Nat} {ty:TypeId} {pos:String} {af:Array Edge} {gd:Option (Nat × Bool)}
def A8x (L:List (Option Rw)):List (Nat × Rw):=(List.range L.length).filterMap fun n=>match L[n]? with | some (some r)=>some (n,r) | _=>none
theorem A54 {L:List (Option Rw)} {p:Nat × Rw}:p∈A8x L↔L[p.1]?=some (some p.2):=by
 unfold A8x
 rw[List.mem_filterMap]
 constructor
 ·rintro⟨n,hn,h⟩
  split at h
  ·rename_i r hr;injection h with h;subst h;exact hr
  ·cases h
 ·intro h
  refine⟨p.1,List.mem_range.2 (List.getElem?_eq_some_iff.1 h).1,?_⟩
  rw[h]
theorem B8O {o:Oper} {fresh:Nat} {x:Operand} {xs:Array Operand} {tys:Array TypeId} {f:FuncId} {us:List T} {as:List D} {y:D} (hop:o.op = .call { callee := .value x,args:=xs,argTypes:=tys }) (he:Ent P f) (hl:xs.toList.length=us.length) (hc:PC P f as y) (hy:y.plain=true) (hx:A5o L us as) :
  OpS P o ((x,.d (.v (.func (.func f) #[] #[])))::xs.toList.zip us) (A8x L) [] fresh [] (.d y):=by
 intro F nn hF g a hg hi hr _ next Q k
 have hcal:=(hi (x,.d (.v (.func (.func f) #[] #[]))) (by simp)).v_eq
 dsimp only at hcal
 have hvt:=VTs.of_ins (g:=g) (a:=a) (xs:=xs.toList) (ts:=us) hl (fun p hp=>hi p (by simp[hp]))
 have hM:∀ (n:Nat) (r:Rw),L[n]?=some (some r)→g.M n=some (some r):=fun n r h=>hr (n,r) (A54.2 h)
 have hcall:=hc g.all _ (A74 hg) rfl (B2a hg hM hx hvt)
 refine⟨fun f _=>hF.fn f,?_⟩
 rw[Oper.semAt_eq _ _ _ (fun c h=>by rw[hop]at h;cases h)]
 have hrun:(execOp a.eval o).run P g.w = .ok (.enter f (xs.toList.map a.eval).toArray) g.w:=by
  have e:xs.map a.eval=(xs.toList.map a.eval).toArray:=by apply Array.ext';simp
  simp[execOp,hop,resolve,hcal,Deferred.ofValue,invoke,he _ _,← e]
 rw[hrun]
 refine⟨fun h=>(by rw[hF.dep]at h;cases h),hF.calls (hcall.mono ?_)⟩
 rintro e w' ⟨gc',se,L',rfl,h1,h2,h3,h4,rfl,rfl⟩
 cases e with
 | returned v =>
  have hv:VT gc' (.d y) v:=h4
  obtain⟨k1,k2⟩:=C0k hg h1 h2
  cases hv with | d hv =>
  exact k ⟨g.M,g.β,fun b=>gc'.K b∧NL g b,gc'.w⟩ v k1 k2 (by rw[B3o]) (.d (hv.plain hy))
 | panicked ch=>exact h4.elim
 | outgrown=>exact h4.elim
theorem A19 {x:Operand} {xs:Array Operand} {tys:Array TypeId} {f:FuncId} {us:List T} {as:List D} {y:D} (hc:PC P f as y) (hy:y.plain=true) (he:Ent P f) (hf:O9 ts x = .d (.v (.func (.func f) #[] #[]))) (hx:xs.toList.map (O9 ts)=us) (hlend:A5o L us as)
  (hw:I2 ops ts ⟨some d,.call { callee := .value x,args:=xs,argTypes:=tys },ty,pos,af,gd⟩=some true) (hd:Nat.blt d N=true) (k:L3 P N ops l ⟨(d,.d y)::ts,L⟩ (tr++[.run ((A8x L).map (·.1)) []]) K) :
  L3 P N ops (⟨some d,.call { callee := .value x,args:=xs,argTypes:=tys },ty,pos,af,gd⟩::l) ⟨ts,L⟩ tr K:=by
 refine K0 rfl (B8O (fresh:=L.length) rfl he (by rw[← hx];simp) hc hy hlend) hw ?_ (fun p hp=>A54.1 hp) hd k
 intro p hp
 rcases List.mem_cons.1 hp with rfl | hp
 ·exact⟨hf,by simp[Op.operands,Call.operands]⟩
 ·obtain⟨a,b⟩:=A2Z hx p hp
  exact⟨a,by simp only[Op.operands,Call.operands,Array.mem_append];exact .inr (by simpa using b)⟩
theorem A4k {x:Operand} {xs:Array Operand} {tys:Array TypeId} {f:FuncId} {us:List T} {as:List D} {b:Bool} (hc:PC P f as (.v (.bool b))) (he:Ent P f) (hf:O9 ts x = .d (.v (.func (.func f) #[] #[]))) (hx:xs.toList.map (O9 ts)=us) (hlend:A5o L us as)
  (hw:I2 ops ts ⟨some d,.call { callee := .value x,args:=xs,argTypes:=tys },ty,pos,af,gd⟩=some true) (hd:Nat.blt d N=true) (kt:b=true→L3 P N ops l ⟨(d,.d (.v (.bool true)))::ts,L⟩ (tr++[.run ((A8x L).map (·.1)) []]) K)
  (kf:b=false→L3 P N ops l ⟨(d,.d (.v (.bool false)))::ts,L⟩ (tr++[.run ((A8x L).map (·.1)) []]) K):L3 P N ops (⟨some d,.call { callee := .value x,args:=xs,argTypes:=tys },ty,pos,af,gd⟩::l) ⟨ts,L⟩ tr K:=by
 cases b with
 | true=>exact A19 hc rfl he hf hx hlend hw hd (kt rfl)
 | false=>exact A19 hc rfl he hf hx hlend hw hd (kf rfl)
end
inductive Fzr (n s:Nat) (es:List D):T→T→Prop where
 | same (t:T):Fzr n s es t t
 | all {len:Nat} (h:es.length=len):Fzr n s es (.row n s 0 len) (.d (.arr s es))
 | part {lo len:Nat} (h:lo+len≤es.length):Fzr n s es (.row n s lo len) (.d (.arr s ((es.drop lo).take len)))
 | ref {i o:Nat}:Fzr n s es (.ref n s i o) (.d (.el s es i o))
 | fn {f:Fn} {l m l' m':List T} (hl:l.length=l'.length) (hm:m.length=m'.length) (h:∀ (i:Nat) (x y:T),l[i]?=some x→l'[i]?=some y→Fzr n s es x y) (k:∀ (i:Nat) (x y:T),m[i]?=some x→m'[i]?=some y→Fzr n s es x y):Fzr n s es (.fn f l m) (.fn f l' m')
 | agg {l m:List T} {u:T} (hl:l.length=m.length) (h:∀ (i:Nat) (x y:T),l[i]?=some x→m[i]?=some y→Fzr n s es x y) (hu:mkAgg m=u):Fzr n s es (.agg l) u
 | tup {l m:List T} {u:T} (hl:l.length=m.length) (h:∀ (i:Nat) (x y:T),l[i]?=some x→m[i]?=some y→Fzr n s es x y) (hu:mkTup m=u):Fzr n s es (.tup l) u
def G.freeze (g:G) (n:Nat):G:=⟨fun k=>if k=n then some none else g.M k,g.β,fun b=>g.K b∨(b=(g.β n).1∧(g.β n).2≠0),g.w⟩
theorem B1K {g:G} (hg:P6 g) {n:Nat} {r:Rw} (hn:g.M n=some (some r)) (n0:Nat):P6 (g.freeze n)∧LeN n0 g (g.freeze n)∧∀ t c,VT g t c→VT (g.freeze n) t c:=by
 have live:∀ k q,(g.freeze n).M k=some (some q)→k≠n∧g.M k=some (some q):=fun k q h=>by
  by_cases hk:k=n
  ·subst hk;simp[G.freeze]at h
  ·exact⟨hk,by simpa[G.freeze,hk]using h⟩
 have hE:∀ k,g.M k≠none→(g.freeze n).M k≠none∧(g.freeze n).β k=g.β k:=fun k hk=>⟨by
  by_cases h:k=n
  ·subst h;simp[G.freeze]
  ·simpa[G.freeze,h]using hk,rfl⟩
 have hV:∀ t c,VT g t c→VT (g.freeze n) t c:=fun t c h=>by
  induction h with
  | d h=>exact .d (VD.same (g:=g) (g':=g.freeze n) rfl (fun _ hb=>Or.inl hb) h)
  | bot c=>exact .bot c
  | ref m s i o hn hs=>exact .ref (g:=g.freeze n) m s i o (hE m hn).1 hs
  | row m s lo len a hn hs hle ha=>exact .row (g:=g.freeze n) m s lo len a (hE m hn).1 hs hle ha
  | mp m hn=>exact .mp (g:=g.freeze n) m (hE m hn).1
  | agg l cs hl h ih=>exact .agg l cs hl ih
  | tup l cs hl h ih=>exact .tup l cs hl ih
  | fn f l m cs ds hl h hm k ih ik=>exact .fn f l m cs ds hl ih hm ik
  | iface t x c h ih=>exact .iface t x c ih
 refine⟨⟨fun k q hk=>?_,fun k m q q' h1 h2 hk0 hm0 he=>hg.inj k m q q' (live k q h1).2 (live m q' h2).2 hk0 hm0 he,fun b hb=>?_,fun b hb k q hk hk0=>?_⟩,⟨fun k _ hk=>hE k hk,Nat.le_refl _,rfl,rfl,rfl,fun _ _ _=>rfl,fun _ hb=>Or.inl hb,fun b _ hb=>?_,fun k q hk hk0 _ hh=>hh k q (live k q hk).2 hk0 rfl⟩,hV⟩
 ·exact(hg.rows k q (live k q hk).2).rel rfl rfl (fun _=>rfl) rfl (fun x x'=>x=x') (fun i x x' h1 h2=>by rw[h1]at h2;injection h2) (fun x x' h=>by subst h;exact⟨rfl,fun j y y' h1 h2=>by rw[h1]at h2;injection h2⟩) (fun k y x' h=>⟨y,h.symm,rfl⟩) (fun t t' c h hv=>h▸hV t c hv)
 ·rcases hb with hb | ⟨hb,h0⟩
  ·exact hg.kd b hb
  ·subst hb;exact(hg.rows n r hn).lt h0
 ·obtain⟨hkn,hk'⟩:=live k q hk
  rcases hb with hb | ⟨hb,h0⟩
  ·exact hg.kl b hb k q hk' hk0
  ·subst hb;exact fun e=>hkn (hg.inj k n q r hk' hn hk0 h0 e)
 ·rcases hb with hb | ⟨hb,h0⟩
  ·exact .inl hb
  ·subst hb;exact .inr fun hh=>hh n r hn h0 rfl
theorem C1c {g:G} (hg:P6 g) {n s:Nat} {es:List D} (hn:g.M n=some (some ⟨s,es.map .d⟩)) {t u:T} (h:Fzr n s es t u):∀ {c:Value},VT g t c→VT (g.freeze n) u c:=by
 obtain⟨_,_,hV⟩:=B1K hg hn 0
 have whole:∀ len,es.length=len→∀ {c:Value},VT g (.row n s 0 len) c→VD (g.freeze n) (.arr s es) c:=fun len hl c hc=>by
  have h1:A2m [] (.d (.arr s es)) (.arr s es) := .d _
  cases hc with | row _ _ _ _ a0 hne hs0 hcap ha =>
  by_cases hes:es=[]
  ·subst hes;subst hl;exact .arr0 s _ _
  have hpos:0<es.length:=List.length_pos_iff.2 hes
  have hx0:(es.map T.d)[0]?=some (T.d es[0]):=by rw[List.getElem?_map,List.getElem?_eq_getElem hpos];rfl
  obtain⟨q0,cells,e,k1,k2,k3,k4⟩:=(hg.rows n _ hn).has hs0 hx0
  have ha:=ha q0
  subst ha
  have hdc:∀ x:D,(T.d x).cells=x.cells.map .d:=fun x=>by cases x<;>rfl
  have hx:∀ (i:Nat) (x:D),es[i]?=some x→(es.map T.d)[i]?=some (.d x):=fun i x hx=>by rw[List.getElem?_map,hx];rfl
  have:=VD.arr (g:=g.freeze n) s es (g.β n).1 0 ((g.β n).2-0) (fun i j=>(cells[i*s+j]?).getD undef) (by omega) (Or.inr ⟨rfl,q0⟩) (fun i x hx'=>by
    have:=(k4 i (.d x) (hx i x hx')).1
    rwa [hdc,List.length_map]at this)
   (fun i x hx' j y hy=>by
    obtain⟨c,k5,_⟩:=(k4 i (.d x) (hx i x hx')).2 j (.d y) (by rw[hdc,List.getElem?_map,hy];rfl)
    show g.w.cell? _=_
    simp[World.cell?,k1,k5])
   (fun i x hx' j y hy=>by
    obtain⟨c,k5,k6⟩:=(k4 i (.d x) (hx i x hx')).2 j (.d y) (by rw[hdc,List.getElem?_map,hy];rfl)
    rw[k5,Option.getD_some]
    cases hV _ _ k6 with | d k6=>exact k6)
  rw[Nat.zero_mul]
  rw[hl]at this
  exact this
 induction h with
 | same t=>intro c hc;exact hV t c hc
 | ref =>
  rename_i i o
  intro c hc
  cases hc with | ref _ _ _ _ hne hs0 =>
  by_cases hes:es=[]
  ·subst hes
   have:=VD.el (g:=g.freeze n) s [] i o (g.β n).1 0 (fun _ _=>undef) (fun h=>absurd rfl h) (fun i d h=>by simp at h) (fun i d h=>by simp at h) (fun i d h=>by simp at h)
   rw[Nat.zero_add]at this
   exact .d this
  have hle:=(hg.rows n _ hn).le hs0
  rw[List.length_map]at hle
  have h1:=whole es.length rfl (VT.row n s 0 es.length _ hne hs0 (by simpa using hle) (fun _=>rfl))
  rw[Nat.zero_mul]at h1
  cases h1 with
  | arr0 _ _ _=>exact absurd rfl hes
  | arr _ _ _ _ _ f h1 h2 h3 h4 h5 =>
   have:=VD.el (g:=g.freeze n) s es i o (g.β n).1 0 f (fun _=>h2) h3 h4 h5
   rw[Nat.zero_add]at this
   exact .d this
 | fn hl hm h k ih ik =>
  intro c hc
  cases hc with | fn _ _ _ cs ds e1 e2 e3 e4 =>
  refine .fn _ _ _ cs ds (hl▸e1) (fun i y c hy hc=>?_) (hm▸e3) fun i y c hy hc=>?_
  ·have hlt:i<_:=(hl.symm▸(List.getElem?_eq_some_iff.1 hy).1)
   exact ih i _ y (List.getElem?_eq_getElem hlt) hy (e2 i _ c (List.getElem?_eq_getElem hlt) hc)
  ·have hlt:i<_:=(hm.symm▸(List.getElem?_eq_some_iff.1 hy).1)
   exact ik i _ y (List.getElem?_eq_getElem hlt) hy (e4 i _ c (List.getElem?_eq_getElem hlt) hc)
 | all hl=>intro c hc;exact .d (whole _ hl hc)
 | part hle =>
  rename_i lo len
  intro c hc
  have hc':=hc
  cases hc with | row _ _ _ _ a0 hne hs0 hcap ha =>
  by_cases h0:len=0
  ·subst h0;rw[List.take_zero];exact .d (.arr0 s _ _)
  have q0:(g.β n).2≠0:=by omega
  have ha:=ha q0
  subst ha
  have hle2:=(hg.rows n _ hn).le hs0
  rw[List.length_map]at hle2
  have h1:=whole es.length rfl (VT.row n s 0 es.length _ hne hs0 (by simpa using hle2) (fun _=>rfl))
  have h2:=(h1.cut (lo:=lo) (hi:=lo+len) (by omega) hle).2
  rw[Nat.add_sub_cancel_left]at h2
  have:¬ (g.β n).2-0=lo:=by omega
  rw[if_neg this,Option.map_some,A5y]at h2
  simp only[Nat.zero_mul,Nat.zero_add,Nat.sub_zero]at h2
  exact .d h2
 | agg hl h hu ih =>
  intro c hc
  cases hc with | agg _ cs hl' h' =>
  rw[← hu]
  have:=VT.mkAgg (g:=g.freeze n) (l:=_) (cs:=cs.toList) ⟨by rw[← hl];simpa using hl',fun i y c hy hc=>by
   have hlt:i<_:=(hl.symm▸(List.getElem?_eq_some_iff.1 hy).1)
   exact ih i _ y (List.getElem?_eq_getElem hlt) hy (h' i _ c (List.getElem?_eq_getElem hlt) (by simpa using hc))⟩
  simpa using this
 | tup hl h hu ih =>
  intro c hc
  cases hc with | tup _ cs hl' h' =>
  rw[← hu]
  have:=VT.mkTup (g:=g.freeze n) (l:=_) (cs:=cs.toList) ⟨by rw[← hl];simpa using hl',fun i y c hy hc=>by
   have hlt:i<_:=(hl.symm▸(List.getElem?_eq_some_iff.1 hy).1)
   exact ih i _ y (List.getElem?_eq_getElem hlt) hy (h' i _ c (List.getElem?_eq_getElem hlt) (by simpa using hc))⟩
  simpa using this
theorem SW.freeze {P:Program} {n0 N:Nat} {df:List Deferred} {Q:SX→St→Prop} {c:Code} {st st':St} {n s:Nat} {es:List D} (hr:st.L[n]?=some (some ⟨s,es.map .d⟩)) (hts:∀ p∈st'.ts,Fzr n s es (W8 st.ts p.1) p.2) (hL:st.L.set n none=st'.L) (h:SW P n0 N df c Q st'):SW P n0 N df c Q st:=fun F nn hF g a hR=>by
 have hn:g.M n=some (some ⟨s,es.map .d⟩):=by rw[hR.M];exact hr
 obtain⟨h1,h2,h3⟩:=B1K hR.good hn n0
 have hR':StR (g.freeze n) N st' a df:=by
  refine⟨h1,?_,hR.size,fun i=>?_,hR.df⟩
  ·funext k
   have hlt:=(List.getElem?_eq_some_iff.1 hr).1
   show(if k=n then some none else g.M k)=_
   unfold ofL
   rw[← hL]
   by_cases hk:k=n
   ·subst hk;simp[hlt]
   ·rw[if_neg hk,List.getElem?_set_ne (fun e=>hk e.symm),hR.M];rfl
  ·rcases B0P (ts:=st'.ts) (i:=i)with k1 | k1
   ·rw[k1];exact .bot _
   ·exact C1c hR.good hn (hts _ k1) (hR.ts i)
 exact wpIn_mono (h F nn hF (g.freeze n) a hR') fun _ _ _ ⟨g',sx,st'',k1,k2,k3,k4,k5⟩=>⟨g',sx,st'',k1,h2.trans k2,k3,k4,k5⟩
theorem J1 {P:Program} {n0 N:Nat} {df:List Deferred} {Q:SX→St→Prop} {st:St} {id:Nat} {l:List Oper} (h:L3 P N l.toArray l st [] (B7w (Q .norm))):SW P n0 N df (.region id l.toArray false) Q st:=B6R h
theorem T1 {P:Program} {n0 N:Nat} {df:List Deferred} {Q:SX→St→Prop} {st:St} {id:Nat} {l:List Oper} (hm:P.follows .mixedOrders=true) (h:L3 P N l.toArray l st [] (B9E l.toArray (Q .norm))):SW P n0 N df (.region id l.toArray true) Q st:=B9n hm h
theorem Y9 {P:Program} {N:Nat} {K:St→Prop} {ops:Array Oper} {tr:List Stp} {st:St} (h:K st):L3 P N ops [] st tr (B7w K):=A32 ⟨rfl,h⟩
theorem I0 {P:Program} {N:Nat} {K:St→Prop} {ops:Array Oper} {tr:List Stp} {st:St} (ho:B0s ops tr=true) (h:K st):L3 P N ops [] st tr (B9E ops K):=A32 ⟨rfl,ho,h⟩
inductive TsD (ts:List (Nat × T)):List (Nat × T)→Prop where
 | nil:TsD ts []
 | cons {i:Nat} {y:D} {r:List (Nat × T)} (h:W8 ts i = .d y) (k:TsD ts r):TsD ts ((i,.d y)::r)
end Go.Proofs.YtlaogbbcipebgaaGreat.Sh
