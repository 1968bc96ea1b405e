/- Ranges over functions, in one picture: pictures behind a block that is no row's. Over whatever program. -/
import Derived.Test.YtlaogbbcipebgaaGreatSa5
import Derived.RangeFuncNested
import Derived.RangeFuncLeaves
import Derived.RangeFuncSeq
namespace Go.Proofs.YtlaogbbcipebgaaGreat.Sh
set_option linter.unusedVariables false
set_option linter.unusedSimpArgs false
open Go
theorem VD.turn {g g':G} (hk:∀ b,g.K b→g'.K b∧g'.w.heap[b]?=g.w.heap[b]?) {d:D} {c:Value} (h:VD g d c):VD g' d c:=by
 have hc:∀ b o v,g.K b→g.w.cell? ⟨b,o,none⟩=some v→g'.w.cell? ⟨b,o,none⟩=some v:=fun b o v hb hv=>by
  unfold World.cell? at hv ⊢
  rw[(hk b hb).2]
  exact hv
 induction h with
 | v x h=>exact .v x h
 | agg l cs hl h ih=>exact .agg l cs hl ih
 | tup l cs hl h ih=>exact .tup l cs hl ih
 | arr0 s a cap=>exact .arr0 s a cap
 | arr s l b off cap f hcap hK hs hw hv ih=>exact .arr s l b off cap f hcap (hk b hK).1 hs (fun i d hd j e he=>hc _ _ _ hK (hw i d hd j e he)) ih
 | el s l i o b off f hK hs hw hv ih=>exact .el s l i o b off f (fun h=>(hk b (hK h)).1) hs (fun i d hd j e he=>hc _ _ _ (hK (by rintro rfl;simp at hd)) (hw i d hd j e he)) ih
 | mp ks vs b es clock hK hh hl hl2 h1 hv ih=>exact .mp ks vs b es clock (hk b hK).1 ((hk b hK).2.trans hh) hl hl2 h1 ih
theorem VT.turn {g g':G} (hk:∀ b,g.K b→g'.K b∧g'.w.heap[b]?=g.w.heap[b]?) (he:∀ n,g.M n≠none→g'.M n≠none∧g'.β n=g.β n) {t:T} {c:Value} (h:VT g t c):VT g' t c:=by
 induction h with
 | d h=>exact .d (h.turn hk)
 | bot c=>exact .bot c
 | ref n s i o hn hs=>obtain⟨h1,h2⟩:=he n hn;rw[← h2];exact .ref n s i o h1 hs
 | row n s lo len a hn hs hl ha=>obtain⟨h1,h2⟩:=he n hn;rw[← h2]at hl ha ⊢;exact .row n s lo len a h1 hs hl ha
 | mp n hn=>obtain⟨h1,h2⟩:=he n hn;rw[← h2];exact .mp n h1
 | agg l cs hl h ih=>exact .agg l cs hl ih
 | tup l cs hl h ih=>exact .tup l cs hl ih
 | fn f l m cs ds hl h hm k ih ik=>exact .fn f l m cs ds hl ih hm ik
 | iface t x c h ih=>exact .iface t x c ih
theorem VT.turnN {g g':G} {k:Nat} (hk:∀ b,g.K b→g'.K b∧g'.w.heap[b]?=g.w.heap[b]?) (he:∀ n,n<k→g.M n≠none→g'.M n≠none∧g'.β n=g.β n) {t:T} {c:Value} (h:VT g t c):t.sc k=true→VT g' t c:=by
 induction h with
 | d h=>intro _;exact .d (h.turn hk)
 | bot c=>intro _;exact .bot c
 | ref n s i o hn hs=>intro hc;obtain⟨h1,h2⟩:=he n (by simpa[T.sc,Nat.blt_eq]using hc) hn;rw[← h2];exact .ref n s i o h1 hs
 | row n s lo len a hn hs hl ha=>intro hc;obtain⟨h1,h2⟩:=he n (by simpa[T.sc,Nat.blt_eq]using hc) hn;rw[← h2]at hl ha ⊢;exact .row n s lo len a h1 hs hl ha
 | mp n hn=>intro hc;obtain⟨h1,h2⟩:=he n (by simpa[T.sc,Nat.blt_eq]using hc) hn;rw[← h2];exact .mp n h1
 | agg l cs hl h ih =>
  intro hc
  simp only[T.sc,A3m,List.all_eq_true]at hc
  exact .agg l cs hl fun i d c hd h'=>ih i d c hd h' (hc d (List.mem_of_getElem? hd))
 | tup l cs hl h ih =>
  intro hc
  simp only[T.sc,A3m,List.all_eq_true]at hc
  exact .tup l cs hl fun i d c hd h'=>ih i d c hd h' (hc d (List.mem_of_getElem? hd))
 | fn f l m cs ds hl h hm k ih ik =>
  intro hc
  simp only[T.sc,A3m,Bool.and_eq_true,List.all_eq_true]at hc
  exact .fn f l m cs ds hl (fun i d c hd h'=>ih i d c hd h' (hc.1 d (List.mem_of_getElem? hd))) hm fun i d c hd h'=>ik i d c hd h' (hc.2 d (List.mem_of_getElem? hd))
 | iface t x c h ih=>intro hc;exact .iface t x c (ih (by simpa[T.sc]using hc))
theorem A4q.turn {g g':G} (hk:∀ b,g.K b→g'.K b∧g'.w.heap[b]?=g.w.heap[b]?) (he:∀ n,g.M n≠none→g'.M n≠none∧g'.β n=g.β n) {n:Nat} {r:Rw} (h:A4q g n r) (hb:g'.β n=g.β n) (hh:(g.β n).2≠0→g'.w.heap[(g.β n).1]?=g.w.heap[(g.β n).1]?):A4q g' n r :=
 h.rel rfl hb hh rfl (fun x x'=>x=x') (fun i x x' h1 h2=>by rw[h1]at h2;injection h2) (fun x x' h=>by subst h;exact⟨rfl,fun j y y' h1 h2=>by rw[h1]at h2;injection h2⟩) (fun k y x' h=>⟨y,h.symm,rfl⟩) (fun t t' c e hv=>e▸hv.turn hk he)
theorem B9v {g:G} (hg:P6 g) {b:Nat} {o:Obj} (h:g.w.heap[b]?=some o) (h1:∀ c t x,o ≠ .cells c t x) (h2:∀ es c,o ≠ .map es c):NL g b:=fun n r hn h0 e=>by
 rcases hg.rows n r hn with⟨k,_⟩ | ⟨_,cells,t,k1,_⟩ | ⟨_,_,es,clock,k1,_⟩
 ·exact h0 k
 ·rw[e,h]at k1;injection k1 with k1;exact h1 _ _ _ k1
 ·rw[e,h]at k1;injection k1 with k1;exact h2 _ _ k1
theorem A3l {g:G} (hg:P6 g) {b:Nat} {r:Loop} (h:g.w.heap[b]?=some (.loop r)):NL g b:=B9v hg h (fun c t x e=>by cases e) (fun es c e=>by cases e)
theorem A5L {g:G} (hg:P6 g) {b:Nat} {r:Option (List Deferred)} (h:g.w.heap[b]?=some (.deferred r)):NL g b:=B9v hg h (fun c t x e=>by cases e) (fun es c e=>by cases e)
structure LeL (l n0:Nat) (g g':G):Prop where
 e:∀ n,n<n0→g.M n≠none→g'.M n≠none∧g'.β n=g.β n
 size:g.w.heap.size≤g'.w.heap.size
 os:g'.w.os=g.w.os
 tape:g'.w.tape=g.w.tape
 output:g'.w.output=g.w.output
 fr:∀ b,b<g.w.heap.size→NL g b→b≠l→g'.w.heap[b]?=g.w.heap[b]?
 k:∀ b,g.K b→g'.K b
 k':∀ b,b<g.w.heap.size→g'.K b→g.K b∨¬ NL g b
 nl:∀ n r,g'.M n=some (some r)→(g'.β n).2≠0→(g'.β n).1<g.w.heap.size→¬ NL g (g'.β n).1
theorem LeN.toL {n0:Nat} {g g':G} (h:LeN n0 g g') (l:Nat):LeL l n0 g g':=⟨h.e,h.size,h.os,h.tape,h.output,fun b hb hn _=>h.fr b hb hn,h.k,h.k',h.nl⟩
theorem LeL.less {l n0 n1:Nat} {g g':G} (h:LeL l n0 g g') (hn:n1≤n0):LeL l n1 g g':=⟨fun n hlt=>h.e n (by omega),h.size,h.os,h.tape,h.output,h.fr,h.k,h.k',h.nl⟩
theorem LeL.refl (l n0:Nat) (g:G):LeL l n0 g g:=(LeN.refl n0 g).toL l
theorem LeL.keepNL {l n0:Nat} {g g':G} (h:LeL l n0 g g') {b:Nat} (hb:b<g.w.heap.size) (hn:NL g b):NL g' b:=fun n r hr h0 he=>h.nl n r hr h0 (by rw[he];exact hb) (he▸hn)
theorem LeL.trans {l n0:Nat} {a b c:G} (h:LeL l n0 a b) (k:LeL l n0 b c):LeL l n0 a c where
 e n hlt hn:=by
  obtain⟨h1,h2⟩:=h.e n hlt hn
  obtain⟨k1,k2⟩:=k.e n hlt h1
  exact⟨k1,k2.trans h2⟩
 size:=Nat.le_trans h.size k.size
 os:=k.os.trans h.os
 tape:=k.tape.trans h.tape
 output:=k.output.trans h.output
 fr x hx hn hl:=(k.fr x (Nat.lt_of_lt_of_le hx h.size) (h.keepNL hx hn) hl).trans (h.fr x hx hn hl)
 k x hx:=k.k x (h.k x hx)
 k' x hx hk:=by
  rcases k.k' x (Nat.lt_of_lt_of_le hx h.size) hk with h1 | h1
  ·exact h.k' x hx h1
  ·exact .inr fun hn=>h1 (h.keepNL hx hn)
 nl n r hr h0 hlt:=by
  intro hn
  exact k.nl n r hr h0 (Nat.lt_of_lt_of_le hlt h.size) (h.keepNL hlt hn)
theorem LeL.toN {l n0:Nat} {g g':G} (h:LeL l n0 g g') (hl:g.w.heap.size≤l):LeN n0 g g':=⟨h.e,h.size,h.os,h.tape,h.output,fun b hb hn=>h.fr b hb hn (by omega),h.k,h.k',h.nl⟩
theorem A6D {g:G} (hg:P6 g) {l:Nat} (hl:NL g l) (hk:¬ g.K l) (o:Obj) (n0:Nat) :
  P6 ⟨g.M,g.β,g.K,g.w.putObj l o⟩∧LeL l n0 g ⟨g.M,g.β,g.K,g.w.putObj l o⟩∧∀ t c,VT g t c→VT ⟨g.M,g.β,g.K,g.w.putObj l o⟩ t c:=by
 have hh:∀ b,b≠l→(g.w.putObj l o).heap[b]?=g.w.heap[b]?:=fun b hb=>World.putObj_heap_other hb
 have h1:∀ b,g.K b→g.K b∧(g.w.putObj l o).heap[b]?=g.w.heap[b]?:=fun b hb=>⟨hb,hh b fun e=>hk (e▸hb)⟩
 have h2:∀ n,g.M n≠none→g.M n≠none∧g.β n=g.β n:=fun n hn=>⟨hn,rfl⟩
 refine⟨⟨fun n r hn=>(hg.rows n r hn).turn (g':=⟨g.M,g.β,g.K,g.w.putObj l o⟩) h1 h2 rfl (fun h0=>hh _ fun e=>hl n r hn h0 e),hg.inj,fun b hb=>?_,hg.kl⟩,
  ⟨fun n _ hn=>⟨hn,rfl⟩,?_,rfl,rfl,rfl,fun b _ _ hb=>hh b hb,fun b hb=>hb,fun b _ hb => .inl hb,fun n r hn h0 _ hk=>hk n r hn h0 rfl⟩,fun t c h=>h.turn (g':=⟨g.M,g.β,g.K,g.w.putObj l o⟩) h1 h2⟩
 ·show b<(g.w.putObj l o).heap.size
  rw[World.putObj_size];exact hg.kd b hb
 ·show _≤(g.w.putObj l o).heap.size
  rw[World.putObj_size];exact Nat.le_refl _
structure A72 (db:Nat) (g:G) (df:List Deferred):Prop where
 nd:df.Nodup
 sz:db≤g.w.heap.size
 all:∀ d∈df,∃ D,d={ target := .collected D,args:=#[] }∧db≤D∧g.w.heap[D]?=some (.deferred (some []))∧¬ g.K D
theorem A72.nil {db:Nat} {g:G} (h:db≤g.w.heap.size):A72 db g []:=⟨by simp,h,fun d hd=>by cases hd⟩
theorem A72.stepN {db n0:Nat} {g g':G} {df:List Deferred} (h:A72 db g df) (hg:P6 g) (hl:LeN n0 g g'):A72 db g' df:=by
 refine⟨h.nd,Nat.le_trans h.sz hl.size,fun d hd=>?_⟩
 obtain⟨D,h1,h2,h3,h4⟩:=h.all d hd
 have hlt:=(Array.getElem?_eq_some_iff.1 h3).1
 refine⟨D,h1,h2,?_,fun hk=>?_⟩
 ·rw[hl.fr D hlt (A5L hg h3)]
  exact h3
 ·rcases hl.k' D hlt hk with k | k
  ·exact h4 k
  ·exact k (A5L hg h3)
structure B83 (db:Nat) (K:Nat→Prop) (w w':World):Prop where
 size:w'.heap.size=w.heap.size
 os:w'.os=w.os
 tape:w'.tape=w.tape
 output:w'.output=w.output
 same:∀ b,(b<db∨K b∨∀ o,w.heap[b]?=some o→∀ x,o ≠ .deferred x)→w'.heap[b]?=w.heap[b]?
theorem B5H {P:Program} {fn:Func} {tmps:Array Value} {R:Ending→World→Prop} {u:FrameMode} (hu:u ≠ .run) {db:Nat} {K:Nat→Prop} (n:Nat) :
  ∀ (df:List Deferred) (w:World),df.Nodup→(∀ d∈df,∃ D,d={ target := .collected D,args:=#[] }∧db≤D∧w.heap[D]?=some (.deferred (some []))∧¬ K D) →
  (∀ w',B83 db K w w'→LeavesIn Fence.wide n P fn tmps R [] u w')→LeavesInM Fence.wide n P fn tmps R df u w
 | [],w,_,_,k=>k w ⟨rfl,rfl,rfl,rfl,fun _ _=>rfl⟩
 | d::df,w,hn,hd,k=>by
  obtain⟨D,rfl,h2,h3,h4⟩:=hd d (by simp)
  obtain⟨hn1,hn2⟩:=List.nodup_cons.1 hn
  refine⟨hu,.inl ⟨D,w.putObj D (.deferred none),rfl,run_takeDeferred h3,?_⟩⟩
  refine B5H hu (db:=db) (K:=K) n df _ hn2 (fun e he=>?_) fun w' hs=>k w' ⟨by rw[hs.size,World.putObj_size],hs.os,hs.tape,hs.output,fun b hb=>?_⟩
  ·obtain⟨E,rfl,e2,e3,e4⟩:=hd e (by simp[he])
   exact⟨E,rfl,e2,by rw[World.putObj_heap_other (fun e=>hn1 (by rw[← e];exact he))];exact e3,e4⟩
  ·have hbD:b≠D:=by
    rintro rfl
    rcases hb with hb | hb | hb
    ·omega
    ·exact h4 hb
    ·exact hb _ h3 _ rfl
   rw[hs.same b,World.putObj_heap_other hbD]
   rw[World.putObj_heap_other hbD];exact hb
theorem A9N {db:Nat} {g:G} {w':World} (hg:P6 g) (h:B83 db g.K g.w w'):P6 ⟨g.M,g.β,g.K,w'⟩∧∀ t c,VT g t c→VT ⟨g.M,g.β,g.K,w'⟩ t c:=by
 have h1:∀ b,g.K b→g.K b∧w'.heap[b]?=g.w.heap[b]?:=fun b hb=>⟨hb,h.same b (.inr (.inl hb))⟩
 have h2:∀ n,g.M n≠none→g.M n≠none∧g.β n=g.β n:=fun n hn=>⟨hn,rfl⟩
 refine⟨⟨fun n r hn=>(hg.rows n r hn).turn (g':=⟨g.M,g.β,g.K,w'⟩) h1 h2 rfl (fun h0=>h.same _ (.inr (.inr fun o ho x e=>?_))),hg.inj,fun b hb=>by show b<w'.heap.size;rw[h.size];exact hg.kd b hb,hg.kl⟩,fun t c ht=>ht.turn (g':=⟨g.M,g.β,g.K,w'⟩) h1 h2⟩
 subst e
 exact A5L hg ho n r hn h0 rfl
theorem A6y {g:G} {vs:List Value} {args:List T} {N:Nat} (hv:VTs g args vs) (hl:Nat.ble args.length N=true) (n:Nat) (hn:n=N) :
  (vs.toArray++Array.replicate (n-vs.toArray.size) undef).size=N∧∀ i,VT g (W8 (L8 0 args) i) ((vs.toArray++Array.replicate (n-vs.toArray.size) undef).getD i undef):=by
 have hle:=Nat.le_of_ble_eq_true hl
 have hlen:=hv.1
 refine⟨by simp;omega,fun i=>?_⟩
 rw[B0E,if_pos (Nat.zero_le i),Nat.sub_zero]
 by_cases hi:i<args.length
 ·have h1:args[i]?=some args[i]:=List.getElem?_eq_getElem hi
  have h2:vs[i]?=some (vs[i]'(by omega)):=List.getElem?_eq_getElem _
  rw[List.getD_eq_getElem?_getD,h1,Option.getD_some,Array.getD_eq_getD_getElem?,Array.getElem?_append_left (by simp;omega),List.getElem?_toArray,h2,Option.getD_some]
  exact hv.2 i _ _ h1 h2
 ·rw[List.getD_eq_getElem?_getD,List.getElem?_eq_none (by omega)]
  exact .bot _
theorem A9r {P:Program} {l:Nat} {f:FuncId} {tmps:Array Value} {assign body:Code} {w:World} {R:Ending→World→Prop} (r:Option Nat) (n:Nat) (h:RoundIn Fence.wide 0 P l f tmps assign body w R):RoundIn { Fence.wide with round:=r } n P l f tmps assign body w R :=
 ⟨trivial,fun c cs _=>h.2 c cs (fun _ h=>by cases h)⟩
theorem A7s.soundL {P:Program} {N:Nat} {ops:Array Oper} {R:Exit→Act→World→Prop} {F:Fence} {nn:Nat} {o:Oper} {l:List Oper} {st st1:St} {s:Stp} (hF:Wd F) (h:A7s P N ops o st s st1) {g:G} {a:Act} {df:List Deferred} (hR:StR g N st a df)
  (k:∀ g' a',Le g g'→StR g' N st1 a' df→wpListIn F nn P ops R l a' g'.w):wpListIn F nn P ops R (o::l) a g.w:=by
 unfold wpListIn
 cases h with
 | run hw hop hi hr hwn hd =>
  rename_i ins rn wn new v
  rw[A0W hw fun d _=>hR.ts d]
  simp only[if_true]
  refine hop F nn hF g a hR.good (fun p hp=>(hi p hp).1▸A4G hR.ts p.1) (fun p hp=>by rw[hR.M];exact hr p hp) (fun k hk=>by rw[hR.M];exact List.getElem?_eq_none (by omega)) _ _ fun g' c h1 h2 h3 h4=>?_
  refine k g' _ h2 ⟨h1,?_,by rw[A5c];exact hR.size,fun j=>?_,by rw[A3h];exact hR.df⟩
  ·rw[h3,hR.M,B0y]
   intro p hp
   obtain⟨q,hq,he⟩:=hwn p hp
   have:=hr q hq
   rw[← he]
   exact(List.getElem?_eq_some_iff.1 this).1
  ·rw[A5b hR.size hd]
   simp only[St.eff,A2M]
   split
   ·exact h4
   ·exact(hR.ts j).mono hR.good h2
 | skip hw hd =>
  rw[A0W hw fun d _=>hR.ts d]
  simp only[Bool.false_eq_true,if_false]
  refine⟨fun f _=>hF.fn f,k g _ (.refl g) ⟨hR.good,?_,by rw[A5c];exact hR.size,fun j=>?_,by rw[A3h];exact hR.df⟩⟩
  ·rw[hR.M];simp[St.eff,A4m]
  ·rw[A5b hR.size hd]
   simp only[St.eff,A2M]
   split
   ·exact .d (.tup [] #[] rfl fun i d c h=>by simp at h)
   ·exact hR.ts j
end Go.Proofs.YtlaogbbcipebgaaGreat.Sh
