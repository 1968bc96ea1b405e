/- Rules of a walk that a program prints: tests that do not part, own rows by their lists, calls that hand back rows. Over whatever program. -/
import Derived.Test.YtlaogbbcipebgaaGreatSa1
import Derived.Laws.IdiomStrings
namespace Go.Proofs.YtlaogbbcipebgaaGreat.Sh
set_option linter.unusedVariables false
set_option linter.unusedSimpArgs false
open Go
inductive A6v (nn:Nat):List Rw→List Rw→Prop where
 | nil:A6v nn [] []
 | cons {r r':Rw} {l l':List Rw} (h:r.ren (fun n=>nn+n)=r') (q:A6v nn l l'):A6v nn (r::l) (r'::l')
 | row {α:Type} {s:Nat} {w:List α} {f:α→D} {l l':List Rw} (q:A6v nn l l'):A6v nn (⟨s,w.map fun a => .d (f a)⟩::l) (⟨s,w.map fun a => .d (f a)⟩::l')
theorem A6v.eq {nn:Nat} {a b:List Rw} (h:A6v nn a b):a.map (Rw.ren fun n=>nn+n)=b:=by
 induction h with
 | nil=>rfl
 | cons h _ ih=>rw[List.map_cons,h,ih]
 | row _ ih =>
  rw[List.map_cons,ih]
  congr 1
  unfold Rw.ren
  rw[A7Z]
theorem A8V (fresh:Nat):ext [] fresh=fun n=>fresh+n:=by funext n;simp[ext]
mutual
def T.pl:T→Bool
 | .d x=>x.plain
 | .bot | .ref _ _ _ _ | .row _ _ _ _ | .mp _=>true
 | .agg l | .tup l=>plL l
 | .fn _ a b=>plL a&&plL b
 | .iface _ x=>x.pl
def plL:List T→Bool
 | []=>true
 | x::l=>x.pl&&plL l
end
theorem A6k:∀ l,plL l=l.all T.pl
 | []=>rfl
 | x::l=>by rw[plL,List.all_cons,A6k l]
def B9S {α:Type} (f:α→D):Prop:=∀ a,(f a).plain=true
inductive RwP:List Rw→Prop where
 | nil:RwP []
 | cons {r:Rw} {l:List Rw} (h:plL r.els=true) (q:RwP l):RwP (r::l)
 | row {α:Type} {s:Nat} {w:List α} {f:α→D} {l:List Rw} (hf:B9S f) (q:RwP l):RwP (⟨s,w.map fun a => .d (f a)⟩::l)
theorem RwP.all {l:List Rw} (h:RwP l):∀ r∈l,plL r.els=true:=by
 induction h with
 | nil=>intro r hr;cases hr
 | cons h _ ih =>
  intro r hr
  rcases List.mem_cons.1 hr with rfl | hr
  ·exact h
  ·exact ih r hr
 | row hf _ ih =>
  intro r hr
  rcases List.mem_cons.1 hr with rfl | hr
  ·rw[A6k,List.all_map,List.all_eq_true];exact fun a _=>hf a
  ·exact ih r hr
theorem VT.plain {g g':G} (hM:g'.M=g.M) (hβ:g'.β=g.β) {t:T} {c:Value} (h:VT g t c):t.pl=true→VT g' t c:=by
 induction h with
 | d h=>intro hp;exact .d (h.plain hp)
 | bot c=>intro _;exact .bot c
 | ref n s i o hn hs=>intro _;rw[← hβ];exact .ref n s i o (by rw[hM];exact hn) hs
 | row n s lo len a hn hs hl ha=>intro _;rw[← hβ]at hl ha ⊢;exact .row n s lo len a (by rw[hM];exact hn) hs hl ha
 | mp n hn=>intro _;rw[← hβ];exact .mp n (by rw[hM];exact hn)
 | agg l cs hl h ih =>
  intro hp
  simp only[T.pl,A6k,List.all_eq_true]at hp
  exact .agg l cs hl fun i d c hd hc=>ih i d c hd hc (hp d (List.mem_of_getElem? hd))
 | tup l cs hl h ih =>
  intro hp
  simp only[T.pl,A6k,List.all_eq_true]at hp
  exact .tup l cs hl fun i d c hd hc=>ih i d c hd hc (hp d (List.mem_of_getElem? hd))
 | fn f l m cs ds hl h hm k ih ik =>
  intro hp
  simp only[T.pl,A6k,Bool.and_eq_true,List.all_eq_true]at hp
  exact .fn f l m cs ds hl (fun i d c hd hc=>ih i d c hd hc (hp.1 d (List.mem_of_getElem? hd))) hm fun i d c hd hc=>ik i d c hd hc (hp.2 d (List.mem_of_getElem? hd))
 | iface t x c h ih=>intro hp;exact .iface t x c (ih hp)
theorem B4f {t x:T} (h:t.pl=true) (hx:x∈t.cells):x.pl=true:=by
 cases t with
 | d d =>
  cases d with
  | agg l =>
   simp only[T.cells,List.mem_map]at hx
   obtain⟨y,hy,rfl⟩:=hx
   simp only[T.pl,D.plain,A7m,List.all_eq_true]at h
   exact h y hy
  | _=>simp only[T.cells,List.mem_singleton]at hx;subst hx;exact h
 | agg l =>
  simp only[T.cells]at hx
  simp only[T.pl,A6k,List.all_eq_true]at h
  exact h x hx
 | _=>simp only[T.cells,List.mem_singleton]at hx;subst hx;exact h
inductive A7r (L:List (Option Rw)):T→T→Prop where
 | d {t:T} {y:D} (h:A2m L t y):A7r L t (.d y)
 | fnc {f:Fn}:A7r L (.d (.v (.func f #[] #[]))) (.fn f [] [])
 | fn {f:Fn} {l l' m m':List T} (hl:l.length=l'.length) (hm:m.length=m'.length) (h:∀ (i:Nat) (x y:T),l[i]?=some x→l'[i]?=some y→A7r L x y) (k:∀ (i:Nat) (x y:T),m[i]?=some x→m'[i]?=some y→A7r L x y):A7r L (.fn f l m) (.fn f l' m')
inductive A6O (L:List (Option Rw)):List T→List T→Prop where
 | nil:A6O L [] []
 | cons {t u:T} {ts us:List T} (h:A7r L t u) (k:A6O L ts us):A6O L (t::ts) (u::us)
theorem A6O.get {L:List (Option Rw)} {ts us:List T} (h:A6O L ts us):ts.length=us.length∧∀ (i:Nat) (x y:T),ts[i]?=some x→us[i]?=some y→A7r L x y:=by
 induction h with
 | nil=>exact⟨rfl,fun i x y h=>by simp at h⟩
 | cons h _ ih =>
  refine⟨by simp[ih.1],fun i x y hx hy=>?_⟩
  cases i with
  | zero=>simp at hx hy;subst hx;subst hy;exact h
  | succ i=>exact ih.2 i x y (by simpa using hx) (by simpa using hy)
theorem A7r.fnC {L:List (Option Rw)} {f:Fn} {m m':List T} (h:A6O L m m'):A7r L (.fn f [] m) (.fn f [] m') := .fn rfl h.get.1 (fun i x y h=>by simp at h) h.get.2
theorem A7r.hof {L:List (Option Rw)} {f:Fn} {c:List D}:A7r L (.fn f [] (c.map .d)) (.fn f [] (c.map .d)) := .fn rfl rfl (fun i x y h=>by simp at h) (fun i x y h1 h2=>by rw[h1]at h2;injection h2 with h2;subst h2;rw[List.getElem?_map,Option.map_eq_some_iff]at h1;obtain⟨d,_,rfl⟩:=h1;exact .d (.d d))
theorem B64 {g:G} (hg:P6 g) {L:List (Option Rw)} (hM:∀ (n:Nat) (r:Rw),L[n]?=some (some r)→g.M n=some (some r)) {t u:T} (h:A7r L t u):∀ {c:Value},VT g t c→VT g.all u c:=by
 induction h with
 | d h=>intro c hc;exact .d (A9b hg hM h hc)
 | fnc =>
  intro c hc
  have:=hc.v_eq
  subst this
  exact .fn _ _ _ #[] #[] rfl (fun i y c hy _=>by simp at hy) rfl fun i y c hy _=>by simp at hy
 | fn hl hm h k ih ik =>
  intro c hc
  cases hc with | fn _ _ _ cs ds e1 e2 e3 e4 =>
  refine .fn _ _ _ cs ds (hl▸e1) (fun i y c hy hc=>?_) (hm▸e3) fun i y c hy hc=>?_
  ·have hlt:i<_:=(hl.symm▸(List.getElem?_eq_some_iff.1 hy).1)
   exact ih i _ y (List.getElem?_eq_getElem hlt) hy (e2 i _ c (List.getElem?_eq_getElem hlt) hc)
  ·have hlt:i<_:=(hm.symm▸(List.getElem?_eq_some_iff.1 hy).1)
   exact ik i _ y (List.getElem?_eq_getElem hlt) hy (e4 i _ c (List.getElem?_eq_getElem hlt) hc)
theorem B4U {g:G} (hg:P6 g) {L:List (Option Rw)} (hM:∀ (n:Nat) (r:Rw),L[n]?=some (some r)→g.M n=some (some r)) {ts us:List T} (h:A6O L ts us) {cs:List Value} (hc:VTs g ts cs):VTs g.all us cs :=
 ⟨h.get.1.symm.trans hc.1,fun i u c hu hc'=>by
  have hlt:i<ts.length:=by have:=(List.getElem?_eq_some_iff.1 hu).1;have:=h.get.1;omega
  exact B64 hg hM (h.get.2 i _ u (List.getElem?_eq_getElem hlt) hu) (hc.2 i _ c (List.getElem?_eq_getElem hlt) hc')⟩
theorem B7M {P:Program} {o:Oper} {L:List (Option Rw)} {fresh:Nat} {x:Operand} {xs:Array Operand} {tys:Array TypeId} {f:FuncId} {us:List T} {as:List D} {t:T} {news:List Rw} (hop:o.op = .call { callee := .value x,args:=xs,argTypes:=tys }) (he:Ent P f) (hl:xs.toList.length=us.length)
  (hc:SCR P f (as.map .d) [] t (news.map some)) (ht:t.pl=true) (hp:RwP news) (hx:A5o L us as) :
  OpS P o ((x,.d (.v (.func (.func f) #[] #[])))::xs.toList.zip us) (A8x L) [] fresh (news.map (Rw.ren fun n=>fresh+n)) (t.ren fun n=>fresh+n):=by
 intro F nn hF g a hg hi hr hn next Q k
 have hcal:=(hi (x,.d (.v (.func (.func f) #[] #[]))) (by simp)).v_eq
 dsimp only at hcal
 have hvt:=VTs.of_ins (g:=g) (a:=a) (xs:=xs.toList) (ts:=us) hl (fun p hp=>hi p (by simp[hp]))
 have hM:∀ (n:Nat) (r:Rw),L[n]?=some (some r)→g.M n=some (some r):=fun n r h=>hr (n,r) (A54.2 h)
 have hcall:=hc g.all _ (A74 hg) rfl (B2a hg hM hx hvt)
 refine⟨fun f _=>hF.fn f,?_⟩
 rw[Oper.semAt_eq _ _ _ (fun c h=>by rw[hop]at h;cases h)]
 have hrun:(execOp a.eval o).run P g.w = .ok (.enter f (xs.toList.map a.eval).toArray) g.w:=by
  have e:xs.map a.eval=(xs.toList.map a.eval).toArray:=by apply Array.ext';simp
  simp[execOp,hop,resolve,hcal,Deferred.ofValue,invoke,he _ _,← e]
 rw[hrun]
 refine⟨fun h=>(by rw[hF.dep]at h;cases h),hF.calls (hcall.mono ?_)⟩
 rintro e w' ⟨gc',se,L',rfl,h1,h2,h3,h4,rfl,rfl⟩
 cases e with
 | panicked ch=>exact h4.elim
 | outgrown=>exact h4.elim
 | returned v =>
 have hv:VT gc' t v:=h4
 have noAll:∀ b,NL g.all b:=fun b n r h=>by simp[G.all,ofL]at h
 obtain⟨g2,hg2⟩:∃ g2:G,g2=⟨gc'.M,gc'.β,fun b=>gc'.K b∧NL g b,gc'.w⟩:=⟨_,rfl⟩
 have hM2:g2.M=gc'.M:=by rw[hg2]
 have hβ2:g2.β=gc'.β:=by rw[hg2]
 have hw2:g2.w=gc'.w:=by rw[hg2]
 have hnews:∀ n r,gc'.M n=some (some r)→plL r.els=true:=fun n r h=>by
  rw[h3]at h
  simp only[ofL,List.getElem?_map,Option.map_eq_some_iff]at h
  obtain⟨q,hq,e⟩:=h
  injection e with e
  subst e
  exact hp.all q (List.mem_of_getElem? hq)
 have good2:P6 g2:=by
  refine⟨fun n r hn'=>?_,fun n m r q k1 k2 k3 k4 k5=>?_,fun b hb=>?_,fun b hb n r hn' h0=>?_⟩
  ·rw[hM2]at hn'
   have hall:=hnews n r hn'
   rw[A6k,List.all_eq_true]at hall
   refine(h1.rows n r hn').rel (g':=g2) rfl (by rw[hβ2]) (fun _=>by rw[hw2]) rfl (fun x x'=>x=x'∧x.pl=true) (fun i x x' k1 k2=>?_) (fun x x' h=>?_) (fun k y x' h=>⟨y,h.1.symm,rfl,?_⟩) (fun t t' c h hv=>h.1▸hv.plain hM2 hβ2 h.2)
   ·rw[k1]at k2;injection k2 with k2;exact⟨k2,hall x (List.mem_of_getElem? k1)⟩
   ·obtain⟨rfl,h⟩:=h
    exact⟨rfl,fun j y y' k1 k2=>by rw[k1]at k2;injection k2 with k2;exact⟨k2,B4f h (List.mem_of_getElem? k1)⟩⟩
   ·have:=h.2
    simp only[T.pl,plL,Bool.and_eq_true,Bool.and_true]at this
    exact this.2
  ·rw[hM2]at k1 k2
   rw[hβ2]at k3 k4 k5
   exact h1.inj n m r q k1 k2 k3 k4 k5
  ·rw[hg2]at hb ⊢;exact h1.kd b hb.1
  ·rw[hM2]at hn'
   rw[hβ2]at h0 ⊢
   rw[hg2]at hb
   exact h1.kl b hb.1 n r hn' h0
 obtain⟨gc,hgc⟩:∃ gc:G,gc=⟨ofL [],fun n=>g.β (ext [] fresh n),g.K,g.w⟩:=⟨_,rfl⟩
 have le2:Le gc g2:=by
  refine⟨fun n hn'=>absurd (by rw[hgc];rfl) hn',by rw[hgc,hw2];exact h2.size,by rw[hgc,hw2];exact h2.os,by rw[hgc,hw2];exact h2.tape,by rw[hgc,hw2];exact h2.output,fun b hb _=>?_,fun b hb=>?_,fun b hb hk=>?_,fun n r hn' h0 hlt=>?_⟩
  ·rw[hgc]at hb ⊢;rw[hw2];exact h2.fr b hb (noAll b)
  ·rw[hgc]at hb;rw[hg2];exact⟨h2.k b (.inl hb),hg.kl b hb⟩
  ·rw[hgc]at hb ⊢
   rw[hg2]at hk
   rcases h2.k' b hb hk.1 with h | h
   ·rcases h with h | h
    ·exact .inl h
    ·exact absurd hk.2 h
   ·exact absurd (noAll b) h
  ·rw[hM2]at hn'
   rw[hβ2]at h0 hlt
   rw[hgc]at hlt
   exact absurd (noAll _) (h2.nl n r hn' h0 hlt)
 obtain⟨k1,k2,k3⟩:=A7U (g:=g) (ρ:=[]) (fresh:=fresh) (cnt:=news.length) (Lf:=[]) (Lf':=news.map some) (by simp) hg rfl (by simp) (by simp) hgc (fun k o h=>by simp at h) (by simpa using hn) good2 le2 (by rw[hM2];exact h3)
 have k4:=k3 _ _ (hv.plain hM2 hβ2 ht)
 rw[A8V]at k4
 have hww:(g.back g2 [] fresh news.length).w=gc'.w:=hw2
 rw[← hww]
 refine k _ v k1 k2 ?_ k4
 funext n
 simp only[G.back,upd,List.idxOf?_nil,List.find?_nil,List.length_map,List.length_nil,A8V]
 by_cases hf:fresh≤n∧n<fresh+news.length
 ·rw[if_pos hf,if_pos hf,hM2,h3]
  simp only[ofL,List.getElem?_map,Option.map_map,Nat.zero_add]
  rfl
 ·rw[if_neg hf,if_neg hf]
theorem B8P {P:Program} {o:Oper} {L:List (Option Rw)} {fresh:Nat} {x:Operand} {xs:Array Operand} {tys:Array TypeId} {f:FuncId} {us as:List T} {t:T} {news:List Rw} (hop:o.op = .call { callee := .value x,args:=xs,argTypes:=tys }) (he:Ent P f) (hl:xs.toList.length=us.length)
  (hc:SCR P f as [] t (news.map some)) (ht:t.pl=true) (hp:RwP news) (hx:A6O L us as) :
  OpS P o ((x,.d (.v (.func (.func f) #[] #[])))::xs.toList.zip us) (A8x L) [] fresh (news.map (Rw.ren fun n=>fresh+n)) (t.ren fun n=>fresh+n):=by
 intro F nn hF g a hg hi hr hn next Q k
 have hcal:=(hi (x,.d (.v (.func (.func f) #[] #[]))) (by simp)).v_eq
 dsimp only at hcal
 have hvt:=VTs.of_ins (g:=g) (a:=a) (xs:=xs.toList) (ts:=us) hl (fun p hp=>hi p (by simp[hp]))
 have hM:∀ (n:Nat) (r:Rw),L[n]?=some (some r)→g.M n=some (some r):=fun n r h=>hr (n,r) (A54.2 h)
 have hcall:=hc g.all _ (A74 hg) rfl (B4U hg hM hx hvt)
 refine⟨fun f _=>hF.fn f,?_⟩
 rw[Oper.semAt_eq _ _ _ (fun c h=>by rw[hop]at h;cases h)]
 have hrun:(execOp a.eval o).run P g.w = .ok (.enter f (xs.toList.map a.eval).toArray) g.w:=by
  have e:xs.map a.eval=(xs.toList.map a.eval).toArray:=by apply Array.ext';simp
  simp[execOp,hop,resolve,hcal,Deferred.ofValue,invoke,he _ _,← e]
 rw[hrun]
 refine⟨fun h=>(by rw[hF.dep]at h;cases h),hF.calls (hcall.mono ?_)⟩
 rintro e w' ⟨gc',se,L',rfl,h1,h2,h3,h4,rfl,rfl⟩
 cases e with
 | panicked ch=>exact h4.elim
 | outgrown=>exact h4.elim
 | returned v =>
 have hv:VT gc' t v:=h4
 have noAll:∀ b,NL g.all b:=fun b n r h=>by simp[G.all,ofL]at h
 obtain⟨g2,hg2⟩:∃ g2:G,g2=⟨gc'.M,gc'.β,fun b=>gc'.K b∧NL g b,gc'.w⟩:=⟨_,rfl⟩
 have hM2:g2.M=gc'.M:=by rw[hg2]
 have hβ2:g2.β=gc'.β:=by rw[hg2]
 have hw2:g2.w=gc'.w:=by rw[hg2]
 have hnews:∀ n r,gc'.M n=some (some r)→plL r.els=true:=fun n r h=>by
  rw[h3]at h
  simp only[ofL,List.getElem?_map,Option.map_eq_some_iff]at h
  obtain⟨q,hq,e⟩:=h
  injection e with e
  subst e
  exact hp.all q (List.mem_of_getElem? hq)
 have good2:P6 g2:=by
  refine⟨fun n r hn'=>?_,fun n m r q k1 k2 k3 k4 k5=>?_,fun b hb=>?_,fun b hb n r hn' h0=>?_⟩
  ·rw[hM2]at hn'
   have hall:=hnews n r hn'
   rw[A6k,List.all_eq_true]at hall
   refine(h1.rows n r hn').rel (g':=g2) rfl (by rw[hβ2]) (fun _=>by rw[hw2]) rfl (fun x x'=>x=x'∧x.pl=true) (fun i x x' k1 k2=>?_) (fun x x' h=>?_) (fun k y x' h=>⟨y,h.1.symm,rfl,?_⟩) (fun t t' c h hv=>h.1▸hv.plain hM2 hβ2 h.2)
   ·rw[k1]at k2;injection k2 with k2;exact⟨k2,hall x (List.mem_of_getElem? k1)⟩
   ·obtain⟨rfl,h⟩:=h
    exact⟨rfl,fun j y y' k1 k2=>by rw[k1]at k2;injection k2 with k2;exact⟨k2,B4f h (List.mem_of_getElem? k1)⟩⟩
   ·have:=h.2
    simp only[T.pl,plL,Bool.and_eq_true,Bool.and_true]at this
    exact this.2
  ·rw[hM2]at k1 k2
   rw[hβ2]at k3 k4 k5
   exact h1.inj n m r q k1 k2 k3 k4 k5
  ·rw[hg2]at hb ⊢;exact h1.kd b hb.1
  ·rw[hM2]at hn'
   rw[hβ2]at h0 ⊢
   rw[hg2]at hb
   exact h1.kl b hb.1 n r hn' h0
 obtain⟨gc,hgc⟩:∃ gc:G,gc=⟨ofL [],fun n=>g.β (ext [] fresh n),g.K,g.w⟩:=⟨_,rfl⟩
 have le2:Le gc g2:=by
  refine⟨fun n hn'=>absurd (by rw[hgc];rfl) hn',by rw[hgc,hw2];exact h2.size,by rw[hgc,hw2];exact h2.os,by rw[hgc,hw2];exact h2.tape,by rw[hgc,hw2];exact h2.output,fun b hb _=>?_,fun b hb=>?_,fun b hb hk=>?_,fun n r hn' h0 hlt=>?_⟩
  ·rw[hgc]at hb ⊢;rw[hw2];exact h2.fr b hb (noAll b)
  ·rw[hgc]at hb;rw[hg2];exact⟨h2.k b (.inl hb),hg.kl b hb⟩
  ·rw[hgc]at hb ⊢
   rw[hg2]at hk
   rcases h2.k' b hb hk.1 with h | h
   ·rcases h with h | h
    ·exact .inl h
    ·exact absurd hk.2 h
   ·exact absurd (noAll b) h
  ·rw[hM2]at hn'
   rw[hβ2]at h0 hlt
   rw[hgc]at hlt
   exact absurd (noAll _) (h2.nl n r hn' h0 hlt)
 obtain⟨k1,k2,k3⟩:=A7U (g:=g) (ρ:=[]) (fresh:=fresh) (cnt:=news.length) (Lf:=[]) (Lf':=news.map some) (by simp) hg rfl (by simp) (by simp) hgc (fun k o h=>by simp at h) (by simpa using hn) good2 le2 (by rw[hM2];exact h3)
 have k4:=k3 _ _ (hv.plain hM2 hβ2 ht)
 rw[A8V]at k4
 have hww:(g.back g2 [] fresh news.length).w=gc'.w:=hw2
 rw[← hww]
 refine k _ v k1 k2 ?_ k4
 funext n
 simp only[G.back,upd,List.idxOf?_nil,List.find?_nil,List.length_map,List.length_nil,A8V]
 by_cases hf:fresh≤n∧n<fresh+news.length
 ·rw[if_pos hf,if_pos hf,hM2,h3]
  simp only[ofL,List.getElem?_map,Option.map_map,Nat.zero_add]
  rfl
 ·rw[if_neg hf,if_neg hf]
section
variable {P:Program} {N:Nat} {ops:Array Oper} {l:List Oper} {ts:List (Nat × T)} {L:List (Option Rw)} {tr:List Stp} {K:List Oper→List Stp→St→Prop} {d:Nat} {ty:TypeId} {pos:String} {af:Array Edge} {gd:Option (Nat × Bool)}
theorem A3j {x:Operand} {xs:Array Operand} {tys:Array TypeId} {f:FuncId} {us:List T} {as:List D} {t t':T} {news news':List Rw} (hc:SCR P f (as.map .d) [] t (news.map some)) (ht:t.pl=true) (hp:RwP news) (he:Ent P f) (hf:O9 ts x = .d (.v (.func (.func f) #[] #[]))) (hx:xs.toList.map (O9 ts)=us) (hlend:A5o L us as)
  {nn:Nat} {nr:List Nat} (hnn:A4f.drop L.length=nn::nr) (hn:A6v nn news news') (htr:t.ren (fun n=>nn+n)=t')
  (hw:I2 ops ts ⟨some d,.call { callee := .value x,args:=xs,argTypes:=tys },ty,pos,af,gd⟩=some true) (hd:Nat.blt d N=true)
  (k:L3 P N ops l ⟨(d,t')::ts,L++news'.map some⟩ (tr++[.run ((A8x L).map (·.1)++List.range' nn news'.length) (List.range' nn news'.length)]) K) :
  L3 P N ops (⟨some d,.call { callee := .value x,args:=xs,argTypes:=tys },ty,pos,af,gd⟩::l) ⟨ts,L⟩ tr K:=by
 have e0:=A21 hnn
 subst e0
 rw[← htr,← hn.eq]at k
 refine A2i (.run hw (B7M (fresh:=L.length) rfl he (by rw[← hx];simp) hc ht hp hlend) ?_ (fun p hp=>A54.1 hp) (by simp) hd) (by simpa[St.eff,A5m,A4m]using k)
 intro p hp
 rcases List.mem_cons.1 hp with rfl | hp
 ·exact⟨hf,by simp[Op.operands,Call.operands]⟩
 ·obtain⟨a,b⟩:=A2Z hx p hp
  exact⟨a,by simp only[Op.operands,Call.operands,Array.mem_append];exact .inr (by simpa using b)⟩
theorem A0t {x:Operand} {xs:Array Operand} {tys:Array TypeId} {f:FuncId} {us as:List T} {t t':T} {news news':List Rw} (hc:SCR P f as [] t (news.map some)) (ht:t.pl=true) (hp:RwP news) (he:Ent P f) (hf:O9 ts x = .d (.v (.func (.func f) #[] #[]))) (hx:xs.toList.map (O9 ts)=us) (hlend:A6O L us as)
  {nn:Nat} {nr:List Nat} (hnn:A4f.drop L.length=nn::nr) (hn:A6v nn news news') (htr:t.ren (fun n=>nn+n)=t')
  (hw:I2 ops ts ⟨some d,.call { callee := .value x,args:=xs,argTypes:=tys },ty,pos,af,gd⟩=some true) (hd:Nat.blt d N=true)
  (k:L3 P N ops l ⟨(d,t')::ts,L++news'.map some⟩ (tr++[.run ((A8x L).map (·.1)++List.range' nn news'.length) (List.range' nn news'.length)]) K) :
  L3 P N ops (⟨some d,.call { callee := .value x,args:=xs,argTypes:=tys },ty,pos,af,gd⟩::l) ⟨ts,L⟩ tr K:=by
 have e0:=A21 hnn
 subst e0
 rw[← htr,← hn.eq]at k
 refine A2i (.run hw (B8P (fresh:=L.length) rfl he (by rw[← hx];simp) hc ht hp hlend) ?_ (fun p hp=>A54.1 hp) (by simp) hd) (by simpa[St.eff,A5m,A4m]using k)
 intro p hp
 rcases List.mem_cons.1 hp with rfl | hp
 ·exact⟨hf,by simp[Op.operands,Call.operands]⟩
 ·obtain⟨a,b⟩:=A2Z hx p hp
  exact⟨a,by simp only[Op.operands,Call.operands,Array.mem_append];exact .inr (by simpa using b)⟩
theorem A2W {x:Operand} {xs:Array Operand} {tys:Array TypeId} {f:FuncId} {vs fc:List D} {y:D} (hc:PC P f (vs++fc) y) (he:Ent P f) (hf:O9 ts x = .fn (.func f) [] (fc.map .d)) (hx:xs.toList.map (O9 ts)=vs.map .d)
  (hw:I2 ops ts ⟨some d,.call { callee := .value x,args:=xs,argTypes:=tys },ty,pos,af,gd⟩=some true) (hd:Nat.blt d N=true) (k:L3 P N ops l ⟨(d,.d y)::ts,L⟩ (tr++[.run [] []]) K) :
  L3 P N ops (⟨some d,.call { callee := .value x,args:=xs,argTypes:=tys },ty,pos,af,gd⟩::l) ⟨ts,L⟩ tr K:=by
 have hro:A5n (kap []) ((vs++fc).map .d)=(vs++fc).map .d:=by rw[A1Z,List.map_map];rfl
 refine K0 rfl (B2O (P:=P) (fresh:=L.length) (ρ:=[]) (rs:=[]) (ls:=[]) (news:=[]) (fi:=[]) (ca:=fc.map .d) (as:=(vs++fc).map .d) (ts:=vs.map .d) rfl he (.inr rfl) (by rw[← hx];simp) hc ?_ ?_ (by simp) rfl rfl (by simp) (by simp)) hw ?_ (by simp[A5T]) hd (by simpa[A5T,T.ren]using k)
 ·rw[hro];simp
 ·rw[A3m];simp[T.sc]
 ·intro p hp
  rcases List.mem_cons.1 hp with rfl | hp
  ·exact⟨hf,by simp[Op.operands,Call.operands]⟩
  ·obtain⟨a,b⟩:=A2Z hx p hp
   exact⟨a,by simp only[Op.operands,Call.operands,Array.mem_append];exact .inr (by simpa using b)⟩
theorem A2X {x:Operand} {xs:Array Operand} {tys:Array TypeId} {f:FuncId} {as:List D} {t t':T} {news news':List Rw} (hc:SCR P f (as.map .d) [] t (news.map some)) (he:Ent P f) (hf:O9 ts x = .d (.v (.func (.func f) #[] #[]))) (hx:xs.toList.map (O9 ts)=as.map .d)
  {nn:Nat} {nr:List Nat} (hnn:A4f.drop L.length=nn::nr) (hn:A6v nn news news') (htr:t.ren (fun n=>nn+n)=t')
  (hw:I2 ops ts ⟨some d,.call { callee := .value x,args:=xs,argTypes:=tys },ty,pos,af,gd⟩=some true) (hd:Nat.blt d N=true)
  (k:L3 P N ops l ⟨(d,t')::ts,L++news'.map some⟩ (tr++[.run (List.range' nn news'.length) (List.range' nn news'.length)]) K) :
  L3 P N ops (⟨some d,.call { callee := .value x,args:=xs,argTypes:=tys },ty,pos,af,gd⟩::l) ⟨ts,L⟩ tr K:=by
 have e0:=A21 hnn
 subst e0
 rw[← htr,← hn.eq]at k
 have hro:A5n (kap []) (as.map .d)=as.map .d:=by rw[A1Z];simp[T.ren]
 have h:=B2O (P:=P) (o:=⟨some d,.call { callee := .value x,args:=xs,argTypes:=tys },ty,pos,af,gd⟩) (x:=x) (xs:=xs) (tys:=tys) (cT := .d (.v (.func (.func f) #[] #[]))) (f:=f) (fresh:=L.length) (ρ:=[]) (rs:=[]) (ls:=[]) (news:=news) (fi:=[]) (ca:=[]) (as:=as.map .d) (ts:=as.map .d) (r:=t) rfl he (.inl ⟨rfl,rfl,rfl⟩) (by rw[← hx];simp) hc (by rw[hro];simp) (by rw[A3m];simp[T.sc]) (by simp) rfl rfl (by simp) (by simp)
 rw[A8V]at h
 refine A2i (.run hw h ?_ (by simp[A5T]) (by simp[A9x]) hd) (by simpa[A5T,A9x,St.eff,A5m,A4m]using k)
 intro p hp
 rcases List.mem_cons.1 hp with rfl | hp
 ·exact⟨hf,by simp[Op.operands,Call.operands]⟩
 ·obtain⟨a,b⟩:=A2Z hx p hp
  exact⟨a,by simp only[Op.operands,Call.operands,Array.mem_append];exact .inr (by simpa using b)⟩
theorem X8 {b:Bool} (kt:b=true→L3 P N ops l ⟨(d,.d (.v (.bool true)))::ts,L⟩ tr K) (kf:b=false→L3 P N ops l ⟨(d,.d (.v (.bool false)))::ts,L⟩ tr K):L3 P N ops l ⟨(d,.d (.v (.bool b)))::ts,L⟩ tr K:=by
 cases b with
 | true=>exact kt rfl
 | false=>exact kf rfl
theorem B8b {t1 t2:TypeId} {x y:Operand} {k:IntKind} {a b:Int} (hx:O9 ts x = .d (.v (.int k a))) (hy:O9 ts y = .d (.v (.int k b))) (hw:I2 ops ts ⟨some d,.binOp .lss t1 x y t2,ty,pos,af,gd⟩=some true) (hd:Nat.blt d N=true)
  (kk:L3 P N ops l ⟨(d,.d (.v (.bool (decide (a<b)))))::ts,L⟩ (tr++[.run [] []]) K):L3 P N ops (⟨some d,.binOp .lss t1 x y t2,ty,pos,af,gd⟩::l) ⟨ts,L⟩ tr K :=
 K0 (ins:=[(x,.d (.v (.int k a))),(y,.d (.v (.int k b)))]) rfl (A3z (p := .int k a) (q := .int k b) (z := .bool (decide (a<b))) rfl rfl (fun w=>by simp[go_sem])) hw (by simp[Op.operands,hx,hy]) (by simp) hd kk

theorem B8a {t1 t2:TypeId} {x y:Operand} {k:IntKind} {a b:Int} (hx:O9 ts x = .d (.v (.int k a))) (hy:O9 ts y = .d (.v (.int k b))) (hw:I2 ops ts ⟨some d,.binOp .leq t1 x y t2,ty,pos,af,gd⟩=some true) (hd:Nat.blt d N=true)
  (kk:L3 P N ops l ⟨(d,.d (.v (.bool (decide (a≤b)))))::ts,L⟩ (tr++[.run [] []]) K):L3 P N ops (⟨some d,.binOp .leq t1 x y t2,ty,pos,af,gd⟩::l) ⟨ts,L⟩ tr K :=
 K0 (ins:=[(x,.d (.v (.int k a))),(y,.d (.v (.int k b)))]) rfl (A3z (p := .int k a) (q := .int k b) (z := .bool (decide (a≤b))) rfl rfl (fun w=>by simp[go_sem])) hw (by simp[Op.operands,hx,hy]) (by simp) hd kk

theorem B5u {t1 t2:TypeId} {x y:Operand} {k:IntKind} {a b:Int} (hx:O9 ts x = .d (.v (.int k a))) (hy:O9 ts y = .d (.v (.int k b))) (hw:I2 ops ts ⟨some d,.binOp .gtr t1 x y t2,ty,pos,af,gd⟩=some true) (hd:Nat.blt d N=true)
  (kk:L3 P N ops l ⟨(d,.d (.v (.bool (decide (b<a)))))::ts,L⟩ (tr++[.run [] []]) K):L3 P N ops (⟨some d,.binOp .gtr t1 x y t2,ty,pos,af,gd⟩::l) ⟨ts,L⟩ tr K :=
 K0 (ins:=[(x,.d (.v (.int k a))),(y,.d (.v (.int k b)))]) rfl (A3z (p := .int k a) (q := .int k b) (z := .bool (decide (b<a))) rfl rfl (fun w=>by simp[go_sem])) hw (by simp[Op.operands,hx,hy]) (by simp) hd kk

theorem A3k {t1 t2:TypeId} {x y:Operand} {k:IntKind} {a b:Int} (hx:O9 ts x = .d (.v (.int k a))) (hy:O9 ts y = .d (.v (.int k b))) (hw:I2 ops ts ⟨some d,.binOp .geq t1 x y t2,ty,pos,af,gd⟩=some true) (hd:Nat.blt d N=true)
  (kk:L3 P N ops l ⟨(d,.d (.v (.bool (decide (b≤a)))))::ts,L⟩ (tr++[.run [] []]) K):L3 P N ops (⟨some d,.binOp .geq t1 x y t2,ty,pos,af,gd⟩::l) ⟨ts,L⟩ tr K :=
 K0 (ins:=[(x,.d (.v (.int k a))),(y,.d (.v (.int k b)))]) rfl (A3z (p := .int k a) (q := .int k b) (z := .bool (decide (b≤a))) rfl rfl (fun w=>by simp[go_sem])) hw (by simp[Op.operands,hx,hy]) (by simp) hd kk

theorem A3s {t1 t2:TypeId} {x y:Operand} {k:IntKind} {a b:Int} (hx:O9 ts x = .d (.v (.int k a))) (hy:O9 ts y = .d (.v (.int k b))) (hw:I2 ops ts ⟨some d,.binOp .eql t1 x y t2,ty,pos,af,gd⟩=some true) (hd:Nat.blt d N=true)
  (kk:L3 P N ops l ⟨(d,.d (.v (.bool (decide (a=b)))))::ts,L⟩ (tr++[.run [] []]) K):L3 P N ops (⟨some d,.binOp .eql t1 x y t2,ty,pos,af,gd⟩::l) ⟨ts,L⟩ tr K :=
 K0 (ins:=[(x,.d (.v (.int k a))),(y,.d (.v (.int k b)))]) rfl (A3z (p := .int k a) (q := .int k b) (z := .bool (decide (a=b))) rfl rfl (fun w=>by simp[go_sem];rfl)) hw (by simp[Op.operands,hx,hy]) (by simp) hd kk

theorem Y1 {t e:TypeId} {i ei:TI} {x y:Operand} {n s len:Nat} {k:IntKind} {q:Int} (tb:Tab P) (ht:tb.f t=some i) (hs:i.sl=some e) (he:tb.f e=some ei) (hx:O9 ts x = .row n s 0 len) (hz:ei.size=s) (hy:O9 ts y = .d (.v (.int k q))) (h0:0≤q) (h1:q<len) (hw:I2 ops ts ⟨some d,.indexAddr t x y,ty,pos,af,gd⟩=some true) (hd:Nat.blt d N=true)
  (kk:L3 P N ops l ⟨(d,.ref n s q.toNat 0)::ts,L⟩ (tr++[.run [] []]) K):L3 P N ops (⟨some d,.indexAddr t x y,ty,pos,af,gd⟩::l) ⟨ts,L⟩ tr K:=by
 refine C0F tb ht hs he hx hz hy h0 h1 hw hd ?_
 rw[Nat.zero_add]
 exact kk
theorem C0N {α:Type} {t:TypeId} {i:TI} {x y:Operand} {n s c:Nat} {j:Int} {w:List α} {g:α→D} {u:T} {a a':α} (tb:Tab P) (ht:tb.f t=some i) (hx:O9 ts x = .ref n s j.toNat c) (hy:O9 ts y=u) (hr:L[n]?=some (some ⟨s,w.map fun a => .d (g a)⟩)) (hj:P3 w j=some a) (hu:u.cells.length=i.size)
  (h1:A4y u.cells=true) (hc:Nat.ble (c+i.size) (T.d (g a)).cells.length=true) (hg:A9t (.d (g a)) c u = .d (g a')) {L':List (Option Rw)} (hL:L.set n (some ⟨s,(w.set j.toNat a').map fun a => .d (g a)⟩)=L') (hw:I2 ops ts ⟨none,.store t x y,ty,pos,af,gd⟩=some true)
  (k:L3 P N ops l ⟨ts,L'⟩ (tr++[.run [n] [n]]) K):L3 P N ops (⟨none,.store t x y,ty,pos,af,gd⟩::l) ⟨ts,L⟩ tr K:=by
 refine C0L tb ht hx hy hr rfl (U5 (g:=fun a=>T.d (g a)) hj) hu h1 hc (r':=⟨s,(w.set j.toNat a').map fun a => .d (g a)⟩) ?_ hL hw k
 rw[hg,List.map_set]
theorem A5d {α:Type} {t:TypeId} {i:TI} {x y:Operand} {n s c:Nat} {j:Int} {w q:List α} {g:α→D} {u:T} {a a':α} (tb:Tab P) (ht:tb.f t=some i) (hx:O9 ts x = .ref n s j.toNat c) (hy:O9 ts y=u) (hr:L[n]?=some (some ⟨s,w.map fun a => .d (g a)⟩)) (hj:P3 w j=some a) (hu:u.cells.length=i.size)
  (h1:A4y u.cells=true) (hc:Nat.ble (c+i.size) (T.d (g a)).cells.length=true) (hg:A9t (.d (g a)) c u = .d (g a')) (hq:A5g w j a'=some q) {L':List (Option Rw)} (hL:L.set n (some ⟨s,q.map fun a => .d (g a)⟩)=L') (hw:I2 ops ts ⟨none,.store t x y,ty,pos,af,gd⟩=some true)
  (k:L3 P N ops l ⟨ts,L'⟩ (tr++[.run [n] [n]]) K):L3 P N ops (⟨none,.store t x y,ty,pos,af,gd⟩::l) ⟨ts,L⟩ tr K:=by
 have:=B8i hq
 subst this
 exact C0N tb ht hx hy hr hj hu h1 hc hg hL hw k
theorem C0M {t:TypeId} {i:TI} {x y:Operand} {n s q c:Nat} {r:Rw} {e u:T} (r':Rw) (L':List (Option Rw)) (tb:Tab P) (ht:tb.f t=some i) (hx:O9 ts x = .ref n s q c) (hy:O9 ts y=u) (hr:L[n]?=some (some r)) (hs:r.s=s) (he:r.els[q]?=some e) (hu:u.cells.length=i.size)
  (h1:A4y u.cells=true) (hc:Nat.ble (c+i.size) e.cells.length=true) (hr':(⟨r.s,r.els.set q (A9t e c u)⟩:Rw)=r') (hL:L.set n (some r')=L') (hw:I2 ops ts ⟨none,.store t x y,ty,pos,af,gd⟩=some true)
  (k:L3 P N ops l ⟨ts,L'⟩ (tr++[.run [n] [n]]) K):L3 P N ops (⟨none,.store t x y,ty,pos,af,gd⟩::l) ⟨ts,L⟩ tr K :=
 C0L tb ht hx hy hr hs he hu h1 hc hr' hL hw k
theorem B0Y {α:Type} {w:List α} {g:α→D} (h:∀ a,A4y (T.d (g a)).cells=true):A3f (w.map fun a=>T.d (g a))=true:=by
 unfold A3f
 rw[List.all_map,List.all_eq_true]
 exact fun a _=>h a
theorem B2k {α:Type} {t e:TypeId} {i ei:TI} {x y:Operand} {s n n' len len':Nat} {w v q:List α} {g:α→D} (L':List (Option Rw)) (tb:Tab P) (ht:tb.f t=some i) (hsl:i.sl=some e) (he:tb.f e=some ei) (hz:ei.size=s) (hx:O9 ts x = .row n s 0 len) (hy:O9 ts y = .row n' s 0 len') (hr:L[n]?=some (some ⟨s,w.map fun a => .d (g a)⟩)) (hlen:w.length=len)
  (hr2:L[n']?=some (some ⟨s,v.map fun a => .d (g a)⟩)) (hlen2:v.length=len') (h1:A3f (v.map fun a => .d (g a))=true) (hq:A8i w v=some q) (hb:Nat.ble ei.bytes 65536=true) (hL:L.set n none=L') {nn:Nat} {nr:List Nat} (hnn:A4f.drop L.length=nn::nr)
  (hw:I2 ops ts ⟨some d,.call { callee := .builtin .append,args:=#[x,y],argTypes:=#[t,t] },ty,pos,af,gd⟩=some true) (hd:Nat.blt d N=true)
  (k:L3 P N ops l ⟨(d,.row nn s 0 q.length)::ts,L'++[some ⟨s,q.map fun a => .d (g a)⟩]⟩ (tr++[.run [n,n',nn] [n,nn]]) K):L3 P N ops (⟨some d,.call { callee := .builtin .append,args:=#[x,y],argTypes:=#[t,t] },ty,pos,af,gd⟩::l) ⟨ts,L⟩ tr K:=by
 obtain⟨h2,rfl⟩:=B95 hq
 subst hlen hlen2
 refine C1a (q:=v.map fun a=>T.d (g a)) (m:=v.length) tb ht hsl he hz hx hy hr rfl (by simp) hr2 rfl (by rw[List.drop_zero,List.take_of_length_le (by simp)]) (by simp) h1 (by simpa using h2) hb (by simp) hL hnn hw hd ?_
 rw[List.length_append,List.map_append]at k
 exact k
theorem C3k {α:Type} {t e:TypeId} {i ei:TI} {x y:Operand} {s n len:Nat} {w v q:List α} {g:α→D} (L':List (Option Rw)) (tb:Tab P) (ht:tb.f t=some i) (hsl:i.sl=some e) (he:tb.f e=some ei) (hz:ei.size=s) (hx:O9 ts x = .row n s 0 len) (hy:O9 ts y = .d (.arr s (v.map g))) (hr:L[n]?=some (some ⟨s,w.map fun a => .d (g a)⟩)) (hlen:w.length=len)
  (h1:∀ a,A4y (T.d (g a)).cells=true) (hq:A8i w v=some q) (hb:Nat.ble ei.bytes 65536=true) (hL:L.set n none=L') {nn:Nat} {nr:List Nat} (hnn:A4f.drop L.length=nn::nr)
  (hw:I2 ops ts ⟨some d,.call { callee := .builtin .append,args:=#[x,y],argTypes:=#[t,t] },ty,pos,af,gd⟩=some true) (hd:Nat.blt d N=true)
  (k:L3 P N ops l ⟨(d,.row nn s 0 q.length)::ts,L'++[some ⟨s,q.map fun a => .d (g a)⟩]⟩ (tr++[.run [n,nn] [n,nn]]) K):L3 P N ops (⟨some d,.call { callee := .builtin .append,args:=#[x,y],argTypes:=#[t,t] },ty,pos,af,gd⟩::l) ⟨ts,L⟩ tr K:=by
 obtain⟨h2,rfl⟩:=B95 hq
 subst hlen
 refine C3r (q:=v.map g) tb ht hsl he hz hx hy hr rfl (by simp) (by rw[List.map_map];exact B0Y h1) (by simpa using h2) hb hL hnn hw hd ?_
 rw[List.length_append,List.map_append]at k
 rw[List.map_map,List.length_map]
 exact k
theorem A6E {t e:TypeId} {i ei:TI} {x z:Operand} {s:Nat} {α:Type} {w q:List α} {g:α→D} {k2:IntKind} {j:Int} (tb:Tab P) (ht:tb.f t=some i) (hs:i.sl=some e) (he:tb.f e=some ei) (hx:O9 ts x = .d (.arr s (w.map g))) (hz:ei.size=s) (hy:O9 ts z = .d (.v (.int k2 j))) (hq:A7A w 0 j=some q) (hw:I2 ops ts ⟨some d,.slice t x none (some z) none,ty,pos,af,gd⟩=some true) (hd:Nat.blt d N=true)
  (kk:L3 P N ops l ⟨(d,.d (.arr s (q.map g)))::ts,L⟩ (tr++[.run [] []]) K):L3 P N ops (⟨some d,.slice t x none (some z) none,ty,pos,af,gd⟩::l) ⟨ts,L⟩ tr K:=by
 unfold A7A at hq
 split at hq
 ·rename_i h
  injection hq with hq
  subst hq
  obtain⟨m,rfl⟩:=Int.eq_ofNat_of_zero_le h.2.1
  refine B9g tb ht hs he hx hz hy (by omega) hw hd ?_
  simpa using kk
 ·cases hq
theorem B6h {g:G}:∀ {p:List Value} {c:Value},VT g (.d (.agg (p.map .v))) c→c = .agg p.toArray:=fun {p c} h=>by
 cases h with | d h =>
 cases h with | agg _ cs hl h =>
 congr 1
 apply Array.ext'
 apply List.ext_getElem?
 intro i
 simp only[List.length_map]at hl
 by_cases hi:i<p.length
 ·have h1:(p.map D.v)[i]?=some (.v p[i]):=by simp[hi]
  have h2:cs[i]?=some cs[i]:=Array.getElem?_eq_getElem (by omega)
  have h3:cs[i]=p[i]:=VT.v_eq (.d (h i _ _ h1 h2))
  rw[Array.getElem?_toList,h2,h3,List.getElem?_eq_getElem hi]
 ·rw[List.getElem?_eq_none (by simp;omega),List.getElem?_eq_none (by simp;omega)]
def A1a (s:ByteArray):List Int:=s.data.toList.map fun b=>(b.toNat:Int)
theorem B8N {P:Program} {o:Oper} {fresh:Nat} {src dst e:TypeId} {x:Operand} {b:ByteArray} (hop:o.op = .convert src dst x) (hs:P.underlying src=some .string) (hd:P.underlying dst=some (.slice e)) (he:P.underlying e=some (.int .u8)) :
  OpS P o [(x,.d (.v (.string b)))] [] [] fresh [] (.d (.arr 1 ((A1a b).map v8))) :=
 .of_run (fun c h=>by rw[hop]at h;cases h) fun g a hg hi hr hn=>by
  have e1:=(hi (x,.d (.v (.string b))) (by simp)).v_eq
  dsimp only at e1
  have hrun:=run_bytes_of_string (P:=P) g.w src dst e b hs hd he
  obtain⟨C,hC⟩:∃ C,C=bytesRow b (grownCap g.w b.size 0 e):=⟨_,rfl⟩
  rw[← hC]at hrun
  obtain⟨w',hw'⟩:∃ w',w'=g.w.drew.alloc (.cells C e (C.size,C.size+1)):=⟨_,rfl⟩
  rw[← hw']at hrun
  have hh:w'.heap=g.w.heap.push (.cells C e (C.size,C.size+1)):=by rw[hw'];rfl
  have hold:∀ k,k<g.w.heap.size→w'.heap[k]?=g.w.heap[k]?:=fun k hk=>by rw[hh,Array.getElem?_push,if_neg (by omega)]
  obtain⟨g',hg'⟩:∃ g':G,g'=⟨g.M,g.β,fun k=>g.K k∨k=g.w.heap.size,w'⟩:=⟨_,rfl⟩
  have hle:Le g g':=by
   rw[hg']
   exact⟨fun n hn=>⟨hn,rfl⟩,by show _≤w'.heap.size;rw[hh];simp,by rw[hw'];rfl,by rw[hw'];rfl,by rw[hw'];rfl,fun k hk _=>hold k hk,fun k hk => .inl hk,fun k hk h=>by rcases h with h | h;exact .inl h;omega,fun n r hn h0 _ hh=>hh n r hn h0 rfl⟩
  have hgood:P6 g':=by
   rw[hg']at hle ⊢
   refine⟨fun n r hn=>(hg.rows n r hn).keep hg hle rfl fun h0=>hold _ ((hg.rows n r hn).lt h0),hg.inj,fun k hk=>?_,fun k hk n r hn h0=>?_⟩
   ·show k<w'.heap.size
    rw[hh]
    simp only[Array.size_push]
    rcases hk with hk | hk
    ·have:=hg.kd k hk;omega
    ·omega
   ·rcases hk with hk | hk
    ·exact hg.kl k hk n r hn h0
    ·have:=(hg.rows n r hn).lt h0
     dsimp only
     omega
  have hcap:=grownCap_ge g.w b.size 0 e
  refine⟨.slice (some ⟨g.w.heap.size,0,none⟩) b.size (grownCap g.w b.size 0 e),g',.inl ?_,hgood,hle,by rw[hg',B3o],?_⟩
  ·rw[hg']
   simp only[execOp,hop,e1,Sem.run_bind,hrun]
   rfl
  ·have hlen:((A1a b).map v8).length=b.size:=by
    rw[List.length_map,A1a,List.length_map,Array.length_toList];rfl
   have:=VD.arr (g:=g') 1 ((A1a b).map v8) g.w.heap.size 0 (grownCap g.w b.size 0 e) (fun i _ => .int .u8 ((A1a b).getD i 0)) (by rw[hlen];exact hcap) (by rw[hg'];exact .inr rfl) (fun i d hd=>?_) (fun i d hd j e' he'=>?_) (fun i d hd j e' he'=>?_)
   ·rw[hlen]at this;exact .d this
   ·rw[List.getElem?_map,Option.map_eq_some_iff]at hd
    obtain⟨c,_,rfl⟩:=hd
    rfl
   ·rw[List.getElem?_map,Option.map_eq_some_iff]at hd
    obtain⟨c,hc,rfl⟩:=hd
    have hj:j=0:=by have:=(List.getElem?_eq_some_iff.1 he').1;simpa[v8,D.cells]using this
    subst hj
    have hi:i<(A1a b).length:=(List.getElem?_eq_some_iff.1 hc).1
    have hib:i<b.data.size:=by simpa[A1a]using hi
    have hcell:C[i]?=some (.int .u8 ((A1a b).getD i 0)):=by
     rw[hC]
     unfold bytesRow
     rw[Array.getElem?_append_left (by simpa using hib)]
     simp only[Array.getElem?_map,A1a,List.getD_eq_getElem?_getD,List.getElem?_map,Array.getElem?_toList,Array.getElem?_eq_getElem hib,Option.map_some,Option.getD_some]
    rw[hg']
    simp[World.cell?,hh,hcell]
   ·rw[List.getElem?_map,Option.map_eq_some_iff]at hd
    obtain⟨c,hc,rfl⟩:=hd
    have hj:j=0:=by have:=(List.getElem?_eq_some_iff.1 he').1;simpa[v8,D.cells]using this
    subst hj
    simp only[v8,D.cells,List.getElem?_cons_zero,Option.some.injEq]at he'
    subst he'
    rw[List.getD_eq_getElem?_getD,hc]
    exact .v _ rfl
theorem B9c {src dst e:TypeId} {x:Operand} {b:ByteArray} (hs:P.underlying src=some .string) (hd':P.underlying dst=some (.slice e)) (he:P.underlying e=some (.int .u8)) (hx:O9 ts x = .d (.v (.string b))) (hw:I2 ops ts ⟨some d,.convert src dst x,ty,pos,af,gd⟩=some true) (hd:Nat.blt d N=true)
  (kk:L3 P N ops l ⟨(d,.d (.arr 1 ((A1a b).map v8)))::ts,L⟩ (tr++[.run [] []]) K):L3 P N ops (⟨some d,.convert src dst x,ty,pos,af,gd⟩::l) ⟨ts,L⟩ tr K :=
 K0 (ins:=[(x,.d (.v (.string b)))]) rfl (B8N rfl hs hd' he) hw (by simp[Op.operands,hx]) (by simp) hd kk
theorem B7K {P:Program} {o:Oper} {fresh:Nat} {op:BinOp} {ty ty':TypeId} {x y:Operand} {p q:List Value} {z:Value} (hop:o.op = .binOp op ty x y ty') (h1:one z)
  (hz:∀ w,(do eqGuard op ty x y (.agg p.toArray) (.agg q.toArray);binOp op ty (.agg p.toArray) (.agg q.toArray):Sem Value).run P w = .ok z w):OpS P o [(x,.d (.agg (p.map .v))),(y,.d (.agg (q.map .v)))] [] [] fresh [] (.d (.v z)) :=
 .of_pure (fun c h=>by rw[hop]at h;cases h) fun g a _ hi _=>⟨z,by
  have e1:=B6h (hi (x,.d (.agg (p.map .v))) (by simp))
  have e2:=B6h (hi (y,.d (.agg (q.map .v))) (by simp))
  dsimp only at e1 e2
  have:=hz g.w
  simp only[execOp,hop,e1,e2,Sem.run_bind]at this ⊢
  rw[this];rfl,.d (.v z h1)⟩
theorem B9W {t1 t2:TypeId} {x y:Operand} {p q:List Value} {b:Bool} (hx:O9 ts x = .d (.agg (p.map .v))) (hy:O9 ts y = .d (.agg (q.map .v))) (hz:∀ (o1 o2:Operand) w,(do eqGuard .eql t1 o1 o2 (.agg p.toArray) (.agg q.toArray);binOp .eql t1 (.agg p.toArray) (.agg q.toArray):Sem Value).run P w = .ok (.bool (b)) w) (hw:I2 ops ts ⟨some d,.binOp .eql t1 x y t2,ty,pos,af,gd⟩=some true) (hd:Nat.blt d N=true)
  (kk:L3 P N ops l ⟨(d,.d (.v (.bool (b))))::ts,L⟩ (tr++[.run [] []]) K):L3 P N ops (⟨some d,.binOp .eql t1 x y t2,ty,pos,af,gd⟩::l) ⟨ts,L⟩ tr K :=
 K0 (ins:=[(x,.d (.agg (p.map .v))),(y,.d (.agg (q.map .v)))]) rfl (B7K (z := .bool (b)) rfl rfl (fun w=>hz x y w)) hw (by simp[Op.operands,hx,hy]) (by simp) hd kk
theorem B8c {t1 t2:TypeId} {x y:Operand} {p q:List Value} {b:Bool} (hx:O9 ts x = .d (.agg (p.map .v))) (hy:O9 ts y = .d (.agg (q.map .v))) (hz:∀ (o1 o2:Operand) w,(do eqGuard .neq t1 o1 o2 (.agg p.toArray) (.agg q.toArray);binOp .neq t1 (.agg p.toArray) (.agg q.toArray):Sem Value).run P w = .ok (.bool (!b)) w) (hw:I2 ops ts ⟨some d,.binOp .neq t1 x y t2,ty,pos,af,gd⟩=some true) (hd:Nat.blt d N=true)
  (kk:L3 P N ops l ⟨(d,.d (.v (.bool (!b))))::ts,L⟩ (tr++[.run [] []]) K):L3 P N ops (⟨some d,.binOp .neq t1 x y t2,ty,pos,af,gd⟩::l) ⟨ts,L⟩ tr K :=
 K0 (ins:=[(x,.d (.agg (p.map .v))),(y,.d (.agg (q.map .v)))]) rfl (B7K (z := .bool (!b)) rfl rfl (fun w=>hz x y w)) hw (by simp[Op.operands,hx,hy]) (by simp) hd kk
end
end Go.Proofs.YtlaogbbcipebgaaGreat.Sh
