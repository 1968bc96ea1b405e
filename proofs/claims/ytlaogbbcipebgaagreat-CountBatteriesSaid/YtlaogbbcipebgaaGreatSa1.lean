/- For walks that a program prints: lists that are looked into, states in other names, what a function over data hands back. Over whatever program. -/
import Derived.Test.YtlaogbbcipebgaaGreatSh15
namespace Go.Proofs.YtlaogbbcipebgaaGreat.Sh
set_option linter.unusedVariables false
set_option linter.unusedSimpArgs false
open Go
def vI (x:Int):D := .v (.int .i64 x)
def vB (x:Bool):D := .v (.bool x)
def vS (x:ByteArray):D := .v (.string x)
def v8 (x:Int):D := .v (.int .u8 x)
def W (x:Int):Int:=IntKind.i64.wrap x
def P3 {α:Type} (l:List α) (i:Int):Option α:=if 0≤i then l[i.toNat]? else none
theorem F0 {α:Type} {l:List α} {i:Int} {e:α} (h:P3 l i=some e):0≤i:=by
 unfold P3 at h;split at h
 ·assumption
 ·cases h
theorem U5 {α β:Type} {l:List α} {i:Int} {e:α} {g:α→β} (h:P3 l i=some e):(l.map g)[i.toNat]?=some (g e):=by
 have:=F0 h
 unfold P3 at h;rw[if_pos this]at h
 rw[List.getElem?_map,h];rfl
theorem ix1 {α:Type} {l:List α} {i:Int} {e:α} (h:P3 l i=some e):i<l.length:=by
 have h0:=F0 h
 unfold P3 at h;rw[if_pos h0]at h
 have:=(List.getElem?_eq_some_iff.1 h).1
 omega
theorem V1 {α β:Type} {l:List α} {i:Int} {e:α} {g:α→β} (h:P3 l i=some e):i<(l.map g).length:=by
 rw[List.length_map];exact ix1 h
def A8i {α:Type} (l m:List α):Option (List α):=if l.length+m.length≤1000000000 then some (l++m)else none
theorem B95 {α:Type} {l m q:List α} (h:A8i l m=some q):l.length+m.length≤1000000000∧q=l++m:=by
 unfold A8i at h;split at h
 ·injection h with h;exact⟨by assumption,h.symm⟩
 ·cases h
def A5g {α:Type} (l:List α) (i:Int) (a:α):Option (List α):=some (l.set i.toNat a)
theorem B8i {α:Type} {l q:List α} {i:Int} {a:α} (h:A5g l i a=some q):q=l.set i.toNat a:=(Option.some.inj h).symm
theorem A2a {α:Type} {l q:List α} {i:Int} {a:α} (h:A5g l i a=some q):l.length=q.length:=by rw[B8i h,List.length_set]
def A7A {α:Type} (l:List α) (lo hi:Int):Option (List α):=if 0≤lo∧lo≤hi∧hi≤l.length then some ((l.drop lo.toNat).take (hi.toNat-lo.toNat))else none
def SCR (P:Program) (f:FuncId) (as:List T) (L:List (Option Rw)) (r:T) (L':List (Option Rw)):Prop:=SC P f as L fun se X=>se = .ret r∧X=L'
theorem B5I {g0 g:G} (h0:∀ n,g0.M n=none) (hl:Le g0 g):Le g0 g.all:=by
 refine⟨fun n hn=>absurd (h0 n) hn,hl.size,hl.os,hl.tape,hl.output,hl.fr,fun b hb => .inl (hl.k b hb),fun b hb hk=>?_,fun n r h=>by simp[G.all,ofL]at h⟩
 rcases hk with h | h
 ·exact hl.k' b hb h
 ·refine .inr fun hn=>h fun n r hr hc he=>?_
  exact hl.nl n r hr hc (by rw[he];exact hb) (fun m q hm=>by rw[h0]at hm;cases hm)
theorem SCR.toPC {P:Program} {f:FuncId} {as:List D} {t:T} {L:List (Option Rw)} {y:D} (h:SCR P f (as.map .d) [] t L) (hl:A2m L t y):PC P f as y:=fun g vs hg hM hv=>by
 refine(h g vs hg hM hv).mono ?_
 rintro e w' ⟨g',se,L',rfl,h1,h2,h3,h4,rfl,rfl⟩
 cases e with
 | returned v =>
  have hv:VT g' t v:=h4
  have:=A9b h1 (L:=L') (fun n r hr=>by rw[h3];exact hr) hl hv
  exact⟨g'.all,.ret (.d y),[],rfl,A74 h1,B5I (fun n=>by rw[hM];rfl) h2,rfl,.d this,rfl,rfl⟩
 | panicked ch=>exact h4.elim
 | outgrown=>exact h4.elim
theorem A5o.get {L:List (Option Rw)} {ts:List T} {ds:List D} (h:A5o L ts ds):ts.length=ds.length∧∀ (i:Nat) (t:T) (d:D),ts[i]?=some t→ds[i]?=some d→A2m L t d:=by
 induction h with
 | nil=>exact⟨rfl,fun i t d h=>by simp at h⟩
 | cons h _ ih =>
  refine⟨by simp[ih.1],fun i t d h1 h2=>?_⟩
  cases i with
  | zero=>simp at h1 h2;subst h1;subst h2;exact h
  | succ i=>exact ih.2 i t d (by simpa using h1) (by simpa using h2)
theorem A2m.aggL {L:List (Option Rw)} {ts:List T} {ds:List D} (h:A5o L ts ds):A2m L (.agg ts) (.agg ds) := .agg h.get.1 h.get.2
theorem A2m.tupL {L:List (Option Rw)} {ts:List T} {ds:List D} (h:A5o L ts ds):A2m L (.tup ts) (.tup ds) := .tup h.get.1 h.get.2
theorem A2m.aggDL {L:List (Option Rw)} {ts:List D} {ds:List D} (h:A5o L (ts.map .d) ds):A2m L (.d (.agg ts)) (.agg ds) := .aggD (by simpa using h.get.1) fun i t d h1 h2=>h.get.2 i _ d (by simp[h1]) h2
theorem A2m.tupDL {L:List (Option Rw)} {ts:List D} {ds:List D} (h:A5o L (ts.map .d) ds):A2m L (.d (.tup ts)) (.tup ds) := .tupD (by simpa using h.get.1) fun i t d h1 h2=>h.get.2 i _ d (by simp[h1]) h2
theorem A2m.rowL {L:List (Option Rw)} {n s len:Nat} {els:List T} {es:List D} (h:L[n]?=some (some ⟨s,els⟩)) (hl:es.length=len) (k:A5o L els es):A2m L (.row n s 0 len) (.arr s es) := .rowG h hl k.get.1 k.get.2
inductive RwK (L:List (Option Rw)) (κ:List Nat):List (Option Rw)→List Nat→Prop where
 | nil:RwK L κ [] []
 | gone {k:Nat} {l:List (Option Rw)} {m:List Nat} (h:(L[k]?).isSome=true) (q:RwK L κ l m):RwK L κ (none::l) (k::m)
 | cons {k:Nat} {r:Rw} {l:List (Option Rw)} {m:List Nat} (h:L[k]?=some (some (r.ren (kap κ)))) (hs:r.sc κ.length=true) (q:RwK L κ l m):RwK L κ (some r::l) (k::m)
 | map {α:Type} {k:Nat} {w:List α} {kf:α→Value} {vf:α→D} {l:List (Option Rw)} {m:List Nat} (h:L[k]?=some (some ⟨0,w.map fun p => .agg [.d (.v (kf p)),.d (vf p)]⟩)) (q:RwK L κ l m):RwK L κ (some ⟨0,w.map fun p => .agg [.d (.v (kf p)),.d (vf p)]⟩::l) (k::m)
 | row {α:Type} {k s:Nat} {w:List α} {f:α→D} {l:List (Option Rw)} {m:List Nat} (h:L[k]?=some (some ⟨s,w.map fun a => .d (f a)⟩)) (q:RwK L κ l m):RwK L κ (some ⟨s,w.map fun a => .d (f a)⟩::l) (k::m)
inductive TsK (ts:List (Nat × T)) (κ:List Nat):List (Nat × T)→Prop where
 | nil:TsK ts κ []
 | cons {i:Nat} {t:T} {r:List (Nat × T)} (h:W8 ts i=t.ren (kap κ)) (hc:t.sc κ.length=true) (q:TsK ts κ r):TsK ts κ ((i,t)::r)
 | hof {i:Nat} {f:Fn} {c:List D} {r:List (Nat × T)} (h:W8 ts i = .fn f [] (c.map .d)) (q:TsK ts κ r):TsK ts κ ((i,.fn f [] (c.map .d))::r)
def ndK:List Nat→Bool
 | []=>true
 | n::l=>!l.any (Nat.beq n)&&ndK l
theorem B0V:∀ {l:List Nat},ndK l=true→l.Nodup
 | [],_=>by simp
 | n::l,h=>by
  simp only[ndK,Bool.and_eq_true,Bool.not_eq_true']at h
  refine List.nodup_cons.2 ⟨fun hm=>?_,B0V h.2⟩
  have:=List.any_eq_false.1 h.1 n hm
  simp at this
def B33 (n0:Nat) (κ:List Nat):Bool:=(List.range n0).all fun n=>Nat.blt n κ.length&&Nat.beq (kap κ n) n
theorem A7Z {α:Type} {w:List α} {f:α→D} (ρ:Nat→Nat):(w.map fun a=>T.d (f a)).map (T.ren ρ)=w.map fun a=>T.d (f a):=by
 rw[List.map_map];rfl
theorem B5Z {α:Type} {k s:Nat} {w:List α} {f:α→D}:(⟨s,w.map fun a => .d (f a)⟩:Rw).sc k=true:=by
 unfold Rw.sc
 simp[List.all_map,T.sc]
theorem A9G {α:Type} {w:List α} {kf:α→Value} {vf:α→D} (ρ:Nat→Nat):(w.map fun p=>T.agg [.d (.v (kf p)),.d (vf p)]).map (T.ren ρ)=w.map fun p=>T.agg [.d (.v (kf p)),.d (vf p)]:=by
 rw[List.map_map];rfl
theorem B6a {α:Type} {k:Nat} {w:List α} {kf:α→Value} {vf:α→D}:(⟨0,w.map fun p=>T.agg [.d (.v (kf p)),.d (vf p)]⟩:Rw).sc k=true:=by
 unfold Rw.sc
 simp[List.all_map,T.sc,scL]
theorem vwK {n0:Nat} {ts ts':List (Nat × T)} {L L':List (Option Rw)} {κ:List Nat} (hnd:ndK κ=true) (hb:B33 n0 κ=true) (hr:RwK L κ L' κ) (hts:TsK ts κ ts'):Vw n0 ⟨ts,L⟩ ⟨ts',L'⟩ κ:=by
 have hlen:∀ {l:List (Option Rw)} {m:List Nat},RwK L κ l m→l.length=m.length:=fun h=>by
  induction h with
  | nil=>rfl
  | gone _ _ ih=>simp[ih]
  | cons _ _ _ ih=>simp[ih]
  | row _ _ ih=>simp[ih]
  | map _ _ ih=>simp[ih]
 refine⟨B0V hnd,hlen hr,?_,?_,fun n h1 _=>?_⟩
 ·have key:∀ {l:List (Option Rw)} {m:List Nat},RwK L κ l m→∀ k,(∀ j q,m[j]?=some q→kap κ (k+j)=q)→B4t L κ l k:=fun h=>by
   induction h with
   | nil=>intro k _;trivial
   | gone h _ ih =>
    intro k hk
    obtain⟨o,ho⟩:=Option.isSome_iff_exists.1 h
    have h0:=hk 0 _ rfl
    rw[Nat.add_zero]at h0
    exact⟨⟨o,by rw[h0];exact ho,fun r hr=>by cases hr⟩,ih (k+1) fun j q hq=>by have:=hk (j+1) q (by simpa using hq);rwa [show k+(j+1)=k+1+j by omega]at this⟩
   | cons h hs _ ih =>
    intro k hk
    have h0:=hk 0 _ rfl
    rw[Nat.add_zero]at h0
    exact⟨⟨_,by rw[h0];exact h,fun r hr=>by injection hr with hr;subst hr;exact⟨rfl,hs⟩⟩,ih (k+1) fun j q hq=>by have:=hk (j+1) q (by simpa using hq);rwa [show k+(j+1)=k+1+j by omega]at this⟩
   | row h _ ih =>
    intro k hk
    have h0:=hk 0 _ rfl
    rw[Nat.add_zero]at h0
    refine⟨⟨_,by rw[h0];exact h,fun r hr=>?_⟩,ih (k+1) fun j q hq=>by have:=hk (j+1) q (by simpa using hq);rwa [show k+(j+1)=k+1+j by omega]at this⟩
    injection hr with hr
    subst hr
    refine⟨?_,B5Z⟩
    unfold Rw.ren
    rw[A7Z]
   | map h _ ih =>
    intro k hk
    have h0:=hk 0 _ rfl
    rw[Nat.add_zero]at h0
    refine⟨⟨_,by rw[h0];exact h,fun r hr=>?_⟩,ih (k+1) fun j q hq=>by have:=hk (j+1) q (by simpa using hq);rwa [show k+(j+1)=k+1+j by omega]at this⟩
    injection hr with hr
    subst hr
    refine⟨?_,B6a⟩
    unfold Rw.ren
    rw[A9G]
  refine key hr 0 fun j q hq=>?_
  unfold kap
  rw[Nat.zero_add,List.getD_eq_getElem?_getD,hq];rfl
 ·intro p hp
  dsimp only at hp ⊢
  induction hts with
  | nil=>cases hp
  | cons h hc _ ih =>
   rcases List.mem_cons.1 hp with rfl | hp
   ·exact⟨h.symm,hc⟩
   ·exact ih hp
  | hof h _ ih =>
   rcases List.mem_cons.1 hp with rfl | hp
   ·refine⟨?_,by simp[T.sc,A3m,scL]⟩
    rw[h]
    simp only[T.ren,A1Z,List.map_nil,List.map_map]
    rfl
   ·exact ih hp
 ·unfold B33 at hb
  have:=List.all_eq_true.1 hb n (List.mem_range.2 h1)
  simp only[Bool.and_eq_true,Nat.blt_eq]at this
  exact⟨this.1,Nat.eq_of_beq_eq_true this.2⟩
theorem U0 {P:Program} {fn:Func} {n0:Nat} {rs:List ResultVar} {us:List T} {st:St} {R:SE→List (Option Rw)→Prop} {t:T} {L:List (Option Rw)} {κ:List Nat} (hres:fn.results.toList=rs) (h:A8t P st rs us) (hv:Vw n0 ⟨[(0,B51 us)],st.L⟩ ⟨[(0,t)],L⟩ κ) (hR:R (.ret t) L):Fin P fn n0 R .ret st:=⟨us,κ,t,L,hres▸h,hv,hR⟩
theorem A6F {P:Program} {st:St} {a:Nat} {t:TypeId} {i:TI} {n s k c:Nat} {r:Rw} {e u:T} (tb:Tab P) (ht:tb.f t=some i) (h:W8 st.ts a = .ref n s k c) (hr:st.L[n]?=some (some r)) (hs:r.s=s) (he:r.els[k]?=some e) (hp:A2S i e.cells.length c=true) (hu:A29 i e.cells c=u):B7g P st (.cell a t) u :=
 hu ▸ .cell (tb.ok _ _ ht) h hr hs he hp
inductive A6w (m s:Nat):T→T→Prop where
 | same (t:T):A6w m s t t
 | nil:A6w m s (.d (.v (.slice none 0 0))) (.row m s 0 0)
 | agg {l l':List T} (hl:l.length=l'.length) (h:∀ (i:Nat) (x y:T),l[i]?=some x→l'[i]?=some y→A6w m s x y):A6w m s (.agg l) (.agg l')
 | aggD {l:List D} {l':List T} (hl:l.length=l'.length) (h:∀ (i:Nat) (x:D) (y:T),l[i]?=some x→l'[i]?=some y→A6w m s (.d x) y):A6w m s (.d (.agg l)) (.agg l')
inductive A8H (m s:Nat):List T→List T→Prop where
 | nil:A8H m s [] []
 | cons {t u:T} {ts us:List T} (h:A6w m s t u) (k:A8H m s ts us):A8H m s (t::ts) (u::us)
theorem A8H.get {m s:Nat} {ts us:List T} (h:A8H m s ts us):ts.length=us.length∧∀ (i:Nat) (x y:T),ts[i]?=some x→us[i]?=some y→A6w m s x y:=by
 induction h with
 | nil=>exact⟨rfl,fun i x y h=>by simp at h⟩
 | cons h _ ih =>
  refine⟨by simp[ih.1],fun i x y h1 h2=>?_⟩
  cases i with
  | zero=>simp at h1 h2;subst h1;subst h2;exact h
  | succ i=>exact ih.2 i x y (by simpa using h1) (by simpa using h2)
theorem A6w.aggL {m s:Nat} {ts us:List T} (h:A8H m s ts us):A6w m s (.agg ts) (.agg us) := .agg h.get.1 h.get.2
theorem A6w.aggDL {m s:Nat} {ds:List D} {us:List T} (h:A8H m s (ds.map .d) us):A6w m s (.d (.agg ds)) (.agg us) := .aggD (by simpa using h.get.1) fun i x y h1 h2=>h.get.2 i _ y (by simp[h1]) h2
theorem A6w.cells {m s:Nat} {t u:T} (h:A6w m s t u):t.cells.length=u.cells.length∧∀ (j:Nat) (x y:T),t.cells[j]?=some x→u.cells[j]?=some y→A6w m s x y:=by
 have one:∀ {t u:T},A6w m s t u→∀ (j:Nat) (x y:T),[t][j]?=some x→[u][j]?=some y→A6w m s x y:=fun {t u} h j x y h1 h2=>by
  cases j with
  | zero=>simp at h1 h2;subst h1;subst h2;exact h
  | succ j=>simp at h1
 cases h with
 | same t=>exact⟨rfl,fun j x y h1 h2=>by rw[h1]at h2;injection h2 with h2;exact h2 ▸ .same _⟩
 | nil=>exact⟨rfl,one .nil⟩
 | agg hl h=>exact⟨hl,h⟩
 | aggD hl h =>
  refine⟨by simpa[T.cells]using hl,fun j x y h1 h2=>?_⟩
  simp only[T.cells,List.getElem?_map,Option.map_eq_some_iff]at h1
  obtain⟨d,hd,rfl⟩:=h1
  exact h j d y hd h2
inductive A92 (m s:Nat):List (Option Rw)→List (Option Rw)→Prop where
 | nil:A92 m s [] []
 | same {o:Option Rw} {l l':List (Option Rw)} (k:A92 m s l l'):A92 m s (o::l) (o::l')
 | cons {c:Nat} {els els':List T} {l l':List (Option Rw)} (hc:Nat.beq c 0=false) (h:A8H m s els els') (k:A92 m s l l'):A92 m s (some ⟨c,els⟩::l) (some ⟨c,els'⟩::l')
theorem A92.get {m s:Nat} {L L':List (Option Rw)} (h:A92 m s L L'):L.length=L'.length∧∀ (n:Nat) (o:Option Rw),L'[n]?=some o→∃ o',L[n]?=some o'∧(o=none→o'=none) ∧
  ∀ r,o=some r→∃ r',o'=some r'∧(r=r'∨(r.s=r'.s∧r.s≠0∧A8H m s r'.els r.els)):=by
 induction h with
 | nil=>exact⟨rfl,fun n o h=>by simp at h⟩
 | same k ih =>
  refine⟨by simp[ih.1],fun n o h=>?_⟩
  cases n with
  | zero=>simp at h;subst h;exact⟨_,rfl,id,fun r hr=>⟨r,hr,.inl rfl⟩⟩
  | succ n=>exact ih.2 n o (by simpa using h)
 | cons hc h k ih =>
  refine⟨by simp[ih.1],fun n o ho=>?_⟩
  cases n with
  | zero =>
   simp at ho;subst ho
   refine⟨_,rfl,(by intro h;cases h),fun r hr=>?_⟩
   injection hr with hr
   subst hr
   exact⟨_,rfl,.inr ⟨rfl,Nat.ne_of_beq_eq_false hc,h⟩⟩
  | succ n=>exact ih.2 n o (by simpa using ho)
inductive B21 (m s:Nat) (ts:List (Nat × T)):List (Nat × T)→Prop where
 | nil:B21 m s ts []
 | cons {i:Nat} {t:T} {r:List (Nat × T)} (h:A6w m s (W8 ts i) t) (k:B21 m s ts r):B21 m s ts ((i,t)::r)
theorem A9g (n0:Nat) {N:Nat} {ts ts':List (Nat × T)} {L L':List (Option Rw)} (s:Nat) (hs:Nat.beq s 0=false) {m:Nat} {nr:List Nat} (hm:A4f.drop L.length=m::nr) (hts:B21 m s ts ts') (hL:A92 m s L L') {g:G} {a:Act} {df:List Deferred} (hR:StR g N ⟨ts,L⟩ a df):∃ g',g'.w=g.w∧LeN n0 g g'∧StR g' N ⟨ts',L'++[some ⟨s,[]⟩]⟩ a df:=by
 have e0:=A21 hm
 obtain⟨hlen,hrow⟩:=hL.get
 have hM:g.M=ofL L:=hR.M
 obtain⟨g',hg'⟩:∃ g':G,g'=⟨ofL (L'++[some ⟨s,[]⟩]),fun n=>if n=m then(0,0)else g.β n,g.K,g.w⟩:=⟨_,rfl⟩
 have hMm:g.M m=none:=by rw[hM,← e0];simp[ofL]
 have hw:g'.w=g.w:=by rw[hg']
 have hK:g'.K=g.K:=by rw[hg']
 have hβ:∀ n,n≠m→g'.β n=g.β n:=fun n hn=>by rw[hg'];simp[hn]
 have hβm:g'.β m=(0,0):=by rw[hg'];simp
 have hM':∀ n,n≠m→g'.M n=L'[n]?:=fun n hn=>by
  rw[hg'];show(L'++[some ⟨s,[]⟩])[n]?=_
  rcases Nat.lt_or_ge n L'.length with h1 | h1
  ·rw[List.getElem?_append_left h1]
  ·rw[List.getElem?_append_right h1,List.getElem?_eq_none (by simp;omega),List.getElem?_eq_none h1]
 have hMm':g'.M m=some (some ⟨s,[]⟩):=by rw[hg'];show(L'++[some ⟨s,[]⟩])[m]?=_;rw[← e0,hlen];simp
 have hne:∀ n,g.M n≠none→n≠m∧g'.M n≠none∧g'.β n=g.β n:=fun n hn=>by
  have h1:n≠m:=fun e=>hn (e▸hMm)
  refine⟨h1,?_,hβ n h1⟩
  rw[hM' n h1]
  rw[hM]at hn
  simp only[ofL,ne_eq,List.getElem?_eq_none_iff,Nat.not_le]at hn ⊢
  omega
 have hV0:∀ t c,VT g t c→VT g' t c:=fun t c hv=>by
  induction hv with
  | d h=>exact .d (VD.same hw (fun b hb=>by rw[hK];exact hb) h)
  | bot c=>exact .bot c
  | ref n q i o hn hq=>obtain⟨_,h2,h3⟩:=hne n hn;rw[← h3];exact .ref n q i o h2 hq
  | row n q lo len a hn hq hle ha=>obtain⟨_,h2,h3⟩:=hne n hn;rw[← h3]at hle ha ⊢;exact .row n q lo len a h2 hq hle ha
  | mp n hn=>obtain⟨_,h2,h3⟩:=hne n hn;rw[← h3];exact .mp n h2
  | agg l cs hl h ih=>exact .agg l cs hl ih
  | tup l cs hl h ih=>exact .tup l cs hl ih
  | fn f l m cs ds hl h hm k ih ik=>exact .fn f l m cs ds hl ih hm ik
  | iface t x c h ih=>exact .iface t x c ih
 have hV:∀ t u c,A6w m s t u→VT g t c→VT g' u c:=fun t u c ho=>by
  induction ho generalizing c with
  | same t=>exact hV0 t c
  | nil =>
   intro hv
   have:=hv.v_eq
   subst this
   have:=VT.row (g:=g') m s 0 0 none (by rw[hMm'];simp) (Nat.ne_of_beq_eq_false hs) (by omega) (fun h0=>by rw[hβm]at h0;exact absurd rfl h0)
   rwa [hβm]at this
  | agg hl h ih =>
   intro hv
   cases hv with | agg _ cs hl' h' =>
   refine .agg _ cs (hl▸hl') fun i y c hy hc=>?_
   have hlt:i<_:=(hl.symm▸(List.getElem?_eq_some_iff.1 hy).1)
   exact ih i _ y (List.getElem?_eq_getElem hlt) hy c (h' i _ c (List.getElem?_eq_getElem hlt) hc)
  | aggD hl h ih =>
   intro hv
   cases hv with | d hv =>
   cases hv with | agg _ cs hl' h' =>
   refine .agg _ cs (hl▸hl') fun i y c hy hc=>?_
   have hlt:i<_:=(hl.symm▸(List.getElem?_eq_some_iff.1 hy).1)
   exact ih i _ y (List.getElem?_eq_getElem hlt) hy c (.d (h' i _ c (List.getElem?_eq_getElem hlt) hc))
 have live:∀ n r,g'.M n=some (some r)→(g'.β n).2≠0→n≠m∧∃ r',g.M n=some (some r')∧g'.β n=g.β n:=fun n r hn h0=>by
  have h1:n≠m:=fun e=>by rw[e,hβm]at h0;exact h0 rfl
  rw[hM' n h1]at hn
  obtain⟨o',h2,_,h3⟩:=hrow n _ hn
  obtain⟨r',rfl,_⟩:=h3 r rfl
  exact⟨h1,r',by rw[hM];exact h2,hβ n h1⟩
 have hrows:∀ n r,g'.M n=some (some r)→A4q g' n r:=fun n r hn=>by
  by_cases h1:n=m
  ·subst h1
   rw[hMm']at hn
   injection hn with hn;injection hn with hn
   subst hn
   exact .inl ⟨by rw[hβm],rfl,Nat.ne_of_beq_eq_false hs⟩
  ·rw[hM' n h1]at hn
   obtain⟨o',h2,_,h3⟩:=hrow n _ hn
   obtain⟨r',rfl,h4⟩:=h3 r rfl
   have hR0:=hR.good.rows n r' (by rw[hM];exact h2)
   rcases h4 with rfl | ⟨h5,h6,h7⟩
   ·exact hR0.rel rfl (hβ n h1) (fun _=>by rw[hw]) rfl (fun x x'=>x=x') (fun i x x' h1 h2=>by rw[h1]at h2;injection h2) (fun x x' h=>by subst h;exact⟨rfl,fun j y y' h1 h2=>by rw[h1]at h2;injection h2⟩) (fun k y x' h=>⟨y,h.symm,rfl⟩) (fun t t' c h hv=>h▸hV0 t c hv)
   ·rcases hR0 with⟨k1,k2,k3⟩ | ⟨k0,cells,e,k1,k2,k3,k4⟩ | ⟨k1,_⟩
    ·refine .inl ⟨by rw[hβ n h1];exact k1,?_,h6⟩
     have:=h7.get.1
     rw[k2]at this
     exact List.length_eq_zero_iff.1 this.symm
    ·refine .inr (.inl ⟨h6,cells,e,by rw[hβ n h1,hw];exact k1,by rw[hβ n h1,h5];exact k2,by rw[hβ n h1,← h7.get.1];exact k3,fun i x hx=>?_⟩)
     have hlt:i<r'.els.length:=by rw[h7.get.1];exact(List.getElem?_eq_some_iff.1 hx).1
     have hx':r'.els[i]?=some r'.els[i]:=List.getElem?_eq_getElem hlt
     obtain⟨q1,q2⟩:=(h7.get.2 i _ x hx' hx).cells
     refine⟨by rw[← q1,h5];exact(k4 i _ hx').1,fun j y hy=>?_⟩
     have hlt2:j<r'.els[i].cells.length:=by rw[q1];exact(List.getElem?_eq_some_iff.1 hy).1
     have hy':r'.els[i].cells[j]?=some r'.els[i].cells[j]:=List.getElem?_eq_getElem hlt2
     obtain⟨c,q3,q4⟩:=(k4 i _ hx').2 j _ hy'
     exact⟨c,by rw[h5];exact q3,hV _ _ c (q2 j _ y hy' hy) q4⟩
    ·rw[← h5]at k1;exact absurd k1 h6
 have hgood:P6 g':=⟨hrows,fun n k r q h1 h2 hn0 hk0 he=>by
   obtain⟨_,r1,h3,h4⟩:=live n r h1 hn0
   obtain⟨_,r2,h5,h6⟩:=live k q h2 hk0
   rw[h4]at he hn0
   rw[h6]at he hk0
   exact hR.good.inj n k r1 r2 h3 h5 hn0 hk0 he,fun b hb=>by rw[hw];rw[hK]at hb;exact hR.good.kd b hb,fun b hb n r hn h0=>by
   obtain⟨_,r1,h3,h4⟩:=live n r hn h0
   rw[h4]at h0 ⊢
   rw[hK]at hb
   exact hR.good.kl b hb n r1 h3 h0⟩
 have hle:LeN n0 g g':=⟨fun n _ hn=>(hne n hn).2,by rw[hw];exact Nat.le_refl _,by rw[hw],by rw[hw],by rw[hw],fun b _ _=>by rw[hw],fun b hb=>by rw[hK];exact hb,fun b _ hb => .inl (by rwa [hK]at hb),fun n r hn h0 _ hh=>by
   obtain⟨_,r1,h3,h4⟩:=live n r hn h0
   rw[h4]at h0 hh
   exact hh n r1 h3 h0 rfl⟩
 have hts':∀ i,A6w m s (W8 ts i) (W8 ts' i)∨W8 ts' i = .bot:=fun i=>by
  induction hts with
  | nil=>exact .inr rfl
  | cons h _ ih =>
   rename_i j _ _ _
   simp only[W8]
   cases hb:Nat.beq i j with
   | true=>have:=Nat.eq_of_beq_eq_true hb;subst this;exact .inl h
   | false=>exact ih
 exact⟨g',hw,hle,⟨hgood,by rw[hg'],hR.size,fun i=>by
  rcases hts' i with h1 | h1
  ·exact hV _ _ _ h1 (hR.ts i)
  ·dsimp only;rw[h1];exact .bot _,hR.df⟩⟩
theorem SW.seen {P:Program} {n0 N:Nat} {df:List Deferred} {Q:SX→St→Prop} {c:Code} {st st':St} (k:∀ (g:G) (a:Act),StR g N st a df→∃ g',g'.w=g.w∧LeN n0 g g'∧StR g' N st' a df) (h:SW P n0 N df c Q st'):SW P n0 N df c Q st:=fun F nn hF g a hR=>by
 obtain⟨g',hw,hle,hR'⟩:=k g a hR
 have:=h F nn hF g' a hR'
 rw[hw]at this
 exact wpIn_mono this fun _ _ _ ⟨g2,sx,st',h1,h2,h3,h4,h5⟩=>⟨g2,sx,st',h1,hle.trans h2,h3,h4,h5⟩
theorem SW.own {P:Program} {n0 N:Nat} {df:List Deferred} {Q:SX→St→Prop} {c:Code} {ts ts':List (Nat × T)} {L L':List (Option Rw)} (s:Nat) (hs:Nat.beq s 0=false) {m:Nat} {nr:List Nat} (hm:A4f.drop L.length=m::nr) (hts:B21 m s ts ts') (hL:A92 m s L L') (h:SW P n0 N df c Q ⟨ts',L'++[some ⟨s,[]⟩]⟩):SW P n0 N df c Q ⟨ts,L⟩ :=
 SW.seen (fun _ _ hR=>A9g n0 s hs hm hts hL hR) h
inductive FzT (n s:Nat) (es:List D):T→T→Prop where
 | same (t:T):FzT n s es t t
 | all {len:Nat} (h:es.length=len):FzT n s es (.row n s 0 len) (.d (.arr s es))
 | ref {i o:Nat}:FzT n s es (.ref n s i o) (.d (.el s es i o))
 | agg {l l':List T} (hl:l.length=l'.length) (h:∀ (i:Nat) (x y:T),l[i]?=some x→l'[i]?=some y→FzT n s es x y):FzT n s es (.agg l) (.agg l')
 | aggD {l:List T} {l':List D} (hl:l.length=l'.length) (h:∀ (i:Nat) (x:T) (y:D),l[i]?=some x→l'[i]?=some y→FzT n s es x (.d y)):FzT n s es (.agg l) (.d (.agg l'))
inductive B20 (n s:Nat) (es:List D):List T→List T→Prop where
 | nil:B20 n s es [] []
 | cons {t u:T} {ts us:List T} (h:FzT n s es t u) (k:B20 n s es ts us):B20 n s es (t::ts) (u::us)
theorem B20.get {n s:Nat} {es:List D} {ts us:List T} (h:B20 n s es ts us):ts.length=us.length∧∀ (i:Nat) (x y:T),ts[i]?=some x→us[i]?=some y→FzT n s es x y:=by
 induction h with
 | nil=>exact⟨rfl,fun i x y h=>by simp at h⟩
 | cons h _ ih =>
  refine⟨by simp[ih.1],fun i x y h1 h2=>?_⟩
  cases i with
  | zero=>simp at h1 h2;subst h1;subst h2;exact h
  | succ i=>exact ih.2 i x y (by simpa using h1) (by simpa using h2)
theorem FzT.aggL {n s:Nat} {es:List D} {ts us:List T} (h:B20 n s es ts us):FzT n s es (.agg ts) (.agg us) := .agg h.get.1 h.get.2
theorem FzT.aggDL {n s:Nat} {es:List D} {ts:List T} {us:List D} (h:B20 n s es ts (us.map .d)):FzT n s es (.agg ts) (.d (.agg us)) := .aggD (by simpa using h.get.1) fun i x y h1 h2=>h.get.2 i x _ h1 (by simp[h2])
theorem FzT.cells {n s:Nat} {es:List D} {t u:T} (h:FzT n s es t u):t.cells.length=u.cells.length∧∀ (j:Nat) (x y:T),t.cells[j]?=some x→u.cells[j]?=some y→FzT n s es x y:=by
 have one:∀ {t u:T},FzT n s es t u→∀ (j:Nat) (x y:T),[t][j]?=some x→[u][j]?=some y→FzT n s es x y:=fun {t u} h j x y h1 h2=>by
  cases j with
  | zero=>simp at h1 h2;subst h1;subst h2;exact h
  | succ j=>simp at h1
 cases h with
 | same t=>exact⟨rfl,fun j x y h1 h2=>by rw[h1]at h2;injection h2 with h2;exact h2 ▸ .same _⟩
 | all h=>exact⟨rfl,one (.all h)⟩
 | ref=>exact⟨rfl,one .ref⟩
 | agg hl h=>exact⟨hl,h⟩
 | aggD hl h =>
  refine⟨by simpa[T.cells]using hl,fun j x y h1 h2=>?_⟩
  simp only[T.cells,List.getElem?_map,Option.map_eq_some_iff]at h2
  obtain⟨d,hd,rfl⟩:=h2
  exact h j x d h1 hd
theorem C15 {g:G} (hg:P6 g) {n s:Nat} {es:List D} (hn:g.M n=some (some ⟨s,es.map .d⟩)) {t u:T} (h:FzT n s es t u):∀ {c:Value},VT g t c→VT (g.freeze n) u c:=by
 induction h with
 | same t=>intro c hc;exact(B1K hg hn 0).2.2 t c hc
 | all h=>intro c hc;exact C1c hg hn (.all h) hc
 | ref=>intro c hc;exact C1c hg hn .ref hc
 | agg hl h ih =>
  intro c hc
  cases hc with | agg _ cs hl' h' =>
  refine .agg _ cs (hl▸hl') fun i y c hy hc=>?_
  have hlt:i<_:=(hl.symm▸(List.getElem?_eq_some_iff.1 hy).1)
  exact ih i _ y (List.getElem?_eq_getElem hlt) hy (h' i _ c (List.getElem?_eq_getElem hlt) hc)
 | aggD hl h ih =>
  intro c hc
  cases hc with | agg _ cs hl' h' =>
  refine .d (.agg _ cs (hl▸hl') fun i y c hy hc=>?_)
  have hlt:i<_:=(hl.symm▸(List.getElem?_eq_some_iff.1 hy).1)
  have:=ih i _ y (List.getElem?_eq_getElem hlt) hy (h' i _ c (List.getElem?_eq_getElem hlt) hc)
  cases this with | d this=>exact this
inductive FzR (n s:Nat) (es:List D):List (Option Rw)→List (Option Rw)→Prop where
 | nil:FzR n s es [] []
 | same {o:Option Rw} {l l':List (Option Rw)} (k:FzR n s es l l'):FzR n s es (o::l) (o::l')
 | cons {c:Nat} {els els':List T} {l l':List (Option Rw)} (hc:Nat.beq c 0=false) (h:B20 n s es els els') (k:FzR n s es l l'):FzR n s es (some ⟨c,els⟩::l) (some ⟨c,els'⟩::l')
theorem FzR.get {n s:Nat} {es:List D} {L L':List (Option Rw)} (h:FzR n s es L L'):L.length=L'.length∧∀ (k:Nat) (o:Option Rw),L'[k]?=some o→∃ o',L[k]?=some o' ∧
  ∀ r,o=some r→∃ r',o'=some r'∧(r=r'∨(r.s=r'.s∧r.s≠0∧B20 n s es r'.els r.els)):=by
 induction h with
 | nil=>exact⟨rfl,fun n o h=>by simp at h⟩
 | same k ih =>
  refine⟨by simp[ih.1],fun n o h=>?_⟩
  cases n with
  | zero=>simp at h;subst h;exact⟨_,rfl,fun r hr=>⟨r,hr,.inl rfl⟩⟩
  | succ n=>exact ih.2 n o (by simpa using h)
 | cons hc h k ih =>
  refine⟨by simp[ih.1],fun n o ho=>?_⟩
  cases n with
  | zero =>
   simp at ho;subst ho
   refine⟨_,rfl,fun r hr=>?_⟩
   injection hr with hr
   subst hr
   exact⟨_,rfl,.inr ⟨rfl,Nat.ne_of_beq_eq_false hc,h⟩⟩
  | succ n=>exact ih.2 n o (by simpa using ho)
inductive FzS (n s:Nat) (es:List D) (ts:List (Nat × T)):List (Nat × T)→Prop where
 | nil:FzS n s es ts []
 | cons {i:Nat} {t:T} {r:List (Nat × T)} (h:FzT n s es (W8 ts i) t) (k:FzS n s es ts r):FzS n s es ts ((i,t)::r)
theorem C0l (n0:Nat) {N:Nat} {ts ts':List (Nat × T)} {L L':List (Option Rw)} {α:Type} {w:List α} {f:α→D} (n s:Nat) (hn0:L[n]?=some (some ⟨s,w.map fun a => .d (f a)⟩)) (hts:FzS n s (w.map f) ts ts') (hL:FzR n s (w.map f) (L.set n none) L') {g:G} {a:Act} {df:List Deferred} (hR:StR g N ⟨ts,L⟩ a df):∃ g',g'.w=g.w∧LeN n0 g g'∧StR g' N ⟨ts',L'⟩ a df:=by
 obtain⟨hlen,hrow⟩:=hL.get
 have hM:g.M=ofL L:=hR.M
 have hn:g.M n=some (some ⟨s,(w.map f).map .d⟩):=by rw[hM];unfold ofL;rw[hn0,List.map_map];rfl
 obtain⟨k1,k2,k3⟩:=B1K hR.good hn n0
 obtain⟨g',hg'⟩:∃ g':G,g'=⟨ofL L',g.β,(g.freeze n).K,g.w⟩:=⟨_,rfl⟩
 have hw:g'.w=(g.freeze n).w:=by rw[hg'];rfl
 have hK:g'.K=(g.freeze n).K:=by rw[hg']
 have hβ:g'.β=(g.freeze n).β:=by rw[hg'];rfl
 have old:∀ k,(L.set n none)[k]?=if k=n then some none else L[k]?:=fun k=>by
  by_cases hk:k=n
  ·subst hk;rw[if_pos rfl,List.getElem?_set_self (List.getElem?_eq_some_iff.1 hn0).1]
  ·rw[if_neg hk,List.getElem?_set_ne (fun e=>hk e.symm)]
 have live:∀ k r,g'.M k=some (some r)→k≠n∧∃ r',g.M k=some (some r')∧(r=r'∨(r.s=r'.s∧r.s≠0∧B20 n s (w.map f) r'.els r.els)):=fun k r hk=>by
  rw[hg']at hk
  obtain⟨o',h2,h3⟩:=hrow k _ hk
  obtain⟨r',rfl,h4⟩:=h3 r rfl
  rw[old]at h2
  by_cases hkn:k=n
  ·rw[if_pos hkn]at h2;cases h2
  ·rw[if_neg hkn]at h2
   exact⟨hkn,r',by rw[hM];exact h2,h4⟩
 have liveF:∀ k r,k≠n→g.M k=some (some r)→(g.freeze n).M k=some (some r):=fun k r hk h=>by simp[G.freeze,hk,h]
 have hne:∀ k,(g.freeze n).M k≠none→g'.M k≠none:=fun k hk=>by
  have:k<L.length:=by
   by_cases h:k=n
   ·subst h;exact(List.getElem?_eq_some_iff.1 hn0).1
   ·simp only[G.freeze,h,if_false]at hk
    rw[hM]at hk
    simpa only[ofL,ne_eq,List.getElem?_eq_none_iff,Nat.not_le]using hk
  rw[hg']
  simp only[ofL,ne_eq,List.getElem?_eq_none_iff,Nat.not_le]
  rw[← hlen];simpa using this
 have hle:Le (g.freeze n) g':=⟨fun k hk=>⟨hne k hk,by rw[hβ]⟩,by rw[hw];exact Nat.le_refl _,by rw[hw],by rw[hw],by rw[hw],fun b _ _=>by rw[hw],fun b hb=>by rw[hK];exact hb,fun b _ hb => .inl (by rwa [hK]at hb),fun k r hk h0 _ hh=>by
  obtain⟨hkn,r',h1,_⟩:=live k r hk
  rw[hβ]at h0 hh
  exact hh k r' (liveF k r' hkn h1) h0 rfl⟩
 have hV:∀ t u c,FzT n s (w.map f) t u→VT g t c→VT g' u c:=fun t u c ho hv=>(C15 hR.good hn ho hv).mono k1 hle
 have hgood:P6 g':=by
  refine⟨fun k r hk=>?_,fun k m r q h1 h2 hk0 hm0 he=>?_,fun b hb=>?_,fun b hb k r hk h0=>?_⟩
  ·obtain⟨hkn,r',h1,h2⟩:=live k r hk
   have hR0:=hR.good.rows k r' h1
   rcases h2 with rfl | ⟨h5,h6,h7⟩
   ·exact hR0.rel rfl (by rw[hβ];rfl) (fun _=>by rw[hw];rfl) rfl (fun x x'=>x=x') (fun i x x' h1 h2=>by rw[h1]at h2;injection h2) (fun x x' h=>by subst h;exact⟨rfl,fun j y y' h1 h2=>by rw[h1]at h2;injection h2⟩) (fun k y x' h=>⟨y,h.symm,rfl⟩) (fun t t' c h hv=>h▸hV t t c (.same t) hv)
   ·rcases hR0 with⟨k1,k2,k3⟩ | ⟨k0,cells,e,k1,k2,k3,k4⟩ | ⟨k1,_⟩
    ·refine .inl ⟨by rw[hβ];exact k1,?_,h6⟩
     have:=h7.get.1
     rw[k2]at this
     exact List.length_eq_zero_iff.1 this.symm
    ·refine .inr (.inl ⟨h6,cells,e,by rw[hβ,hw];exact k1,by rw[hβ,h5];exact k2,by rw[hβ,← h7.get.1];exact k3,fun i x hx=>?_⟩)
     have hlt:i<r'.els.length:=by rw[h7.get.1];exact(List.getElem?_eq_some_iff.1 hx).1
     have hx':r'.els[i]?=some r'.els[i]:=List.getElem?_eq_getElem hlt
     obtain⟨q1,q2⟩:=(h7.get.2 i _ x hx' hx).cells
     refine⟨by rw[← q1,h5];exact(k4 i _ hx').1,fun j y hy=>?_⟩
     have hlt2:j<r'.els[i].cells.length:=by rw[q1];exact(List.getElem?_eq_some_iff.1 hy).1
     have hy':r'.els[i].cells[j]?=some r'.els[i].cells[j]:=List.getElem?_eq_getElem hlt2
     obtain⟨c,q3,q4⟩:=(k4 i _ hx').2 j _ hy'
     exact⟨c,by rw[h5];exact q3,hV _ _ c (q2 j _ y hy' hy) q4⟩
    ·rw[← h5]at k1;exact absurd k1 h6
  ·obtain⟨hkn,r1,h3,_⟩:=live k r h1
   obtain⟨hmn,r2,h4,_⟩:=live m q h2
   rw[hβ]at he hk0 hm0
   exact hR.good.inj k m r1 r2 h3 h4 hk0 hm0 he
  ·rw[hK]at hb;rw[hw];exact k1.kd b hb
  ·obtain⟨hkn,r1,h3,_⟩:=live k r hk
   rw[hK]at hb
   rw[hβ]at h0 ⊢
   exact k1.kl b hb k r1 (liveF k r1 hkn h3) h0
 have hts':∀ i,FzT n s (w.map f) (W8 ts i) (W8 ts' i)∨W8 ts' i = .bot:=fun i=>by
  induction hts with
  | nil=>exact .inr rfl
  | cons h _ ih =>
   rename_i j _ _ _
   simp only[W8]
   cases hb:Nat.beq i j with
   | true=>have:=Nat.eq_of_beq_eq_true hb;subst this;exact .inl h
   | false=>exact ih
 have hww:g'.w=g.w:=hw
 exact⟨g',hww,k2.trans (hle.toN n0),⟨hgood,by rw[hg'],hR.size,fun i=>by
  rcases hts' i with h1 | h1
  ·exact hV _ _ _ h1 (hR.ts i)
  ·dsimp only;rw[h1];exact .bot _,hR.df⟩⟩
theorem SW.fz {P:Program} {n0 N:Nat} {df:List Deferred} {Q:SX→St→Prop} {c:Code} {ts ts':List (Nat × T)} {L L':List (Option Rw)} {α:Type} {w:List α} {f:α→D} (n s:Nat) (hn0:L[n]?=some (some ⟨s,w.map fun a => .d (f a)⟩)) (hts:FzS n s (w.map f) ts ts') (hL:FzR n s (w.map f) (L.set n none) L') (h:SW P n0 N df c Q ⟨ts',L'⟩):SW P n0 N df c Q ⟨ts,L⟩ :=
 SW.seen (fun _ _ hR=>C0l n0 n s hn0 hts hL hR) h
theorem PC.of_lend {P:Program} {f:FuncId} {as:List D} {y:D} (h:SC P f (as.map .d) [] fun se X=>∃ t,se = .ret t∧A2m X t y):PC P f as y:=fun g vs hg hM hv=>by
 refine(h g vs hg hM hv).mono ?_
 rintro e w' ⟨g',se,L',rfl,h1,h2,h3,h4,t,rfl,hl⟩
 cases e with
 | returned v =>
  have hv:VT g' t v:=h4
  have:=A9b h1 (L:=L') (fun n r hr=>by rw[h3];exact hr) hl hv
  exact⟨g'.all,.ret (.d y),[],rfl,A74 h1,B5I (fun n=>by rw[hM];rfl) h2,rfl,.d this,rfl,rfl⟩
 | panicked ch=>exact h4.elim
 | outgrown=>exact h4.elim
end Go.Proofs.YtlaogbbcipebgaaGreat.Sh
