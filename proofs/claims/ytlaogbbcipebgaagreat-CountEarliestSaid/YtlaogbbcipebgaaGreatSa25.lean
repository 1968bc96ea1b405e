/- Rules of the walks. -/
import Derived.Test.YtlaogbbcipebgaaGreatSa4
set_option linter.unusedVariables false
set_option linter.unusedSimpArgs false
open Array renaming ext'→cS,replicate→bt
open Bool renaming and_eq_true→aF,not_eq_true→ce
open Go renaming World→aO,Program→ah,wpIn_mono→aW,Operand→aa,TypeId→ab,Fence.wide→aY,Deferred→bp,FuncId→bm
open List renaming getElem?_eq_none_iff→aQ,map_cons→bw,getElem?_cons_zero→cq,map→ao,cons.inj→eV,range'→az,mem_append_left→cC,mem_append_right→cw
open Nat renaming le_trans→bN,lt_of_lt_of_le→bq,beq→aJ,blt→aq,ble→bL,le_of_ble_eq_true→bg,not_le→cD,le_refl→aw,eq_of_beq_eq_true→aA
open Option renaming some.injEq→aK,some.inj→dJ
open Prod renaming fst→be
namespace Go.Proofs.YtlaogbbcipebgaaGreat.Sh
open Go
structure LeA (A:Nat→Prop) (n0:Nat) (g g':G):Prop where
 e:∀ n,n<n0→g.M n≠none→g'.M n≠none∧g'.β n=g.β n
 size:g.w.heap.size≤g'.w.heap.size
 os:g'.w.os=g.w.os
 tape:g'.w.tape=g.w.tape
 output:g'.w.output=g.w.output
 fr:∀ b,b<g.w.heap.size→NL g b→¬ A b→g'.w.heap[b]?=g.w.heap[b]?
 k:∀ b,g.K b→g'.K b
 k':∀ b,b<g.w.heap.size→g'.K b→g.K b∨¬ NL g b
 nl:∀ n r,g'.M n=some (some r)→(g'.β n).2≠0→(g'.β n).1<g.w.heap.size→¬ NL g (g'.β n).1
section
variable {A B:Nat→Prop} {l n0 n1:Nat} {g g':G}
theorem LeN.toA (h:LeN n0 g g') (A:Nat→Prop):LeA A n0 g g':=⟨h.e,h.size,h.os,h.tape,h.output,fun b hb hn _=>h.fr b hb hn,h.k,h.k',h.nl⟩
theorem LeL.toA (h:LeL l n0 g g'):LeA (·=l) n0 g g':=⟨h.e,h.size,h.os,h.tape,h.output,h.fr,h.k,h.k',h.nl⟩
theorem LeA.grow (h:LeA A n0 g g') (hA:∀ b,A b→B b):LeA B n0 g g':=⟨h.e,h.size,h.os,h.tape,h.output,fun b hb hn ha=>h.fr b hb hn fun hx=>ha (hA b hx),h.k,h.k',h.nl⟩
theorem LeA.less (h:LeA A n0 g g') (hn:n1≤n0):LeA A n1 g g':=⟨fun n hlt=>h.e n oM,h.size,h.os,h.tape,h.output,h.fr,h.k,h.k',h.nl⟩
theorem LeN.lessN (h:LeN n0 g g') (hn:n1≤n0):LeN n1 g g':=⟨fun n hlt=>h.e n oM,h.size,h.os,h.tape,h.output,h.fr,h.k,h.k',h.nl⟩
theorem LeA.refl (A:Nat→Prop) (n0:Nat) (g:G):LeA A n0 g g:=(LeN.refl n0 g).toA A
theorem LeA.keepNL (h:LeA A n0 g g') {b:Nat} (hb:b<g.w.heap.size) (hn:NL g b):NL g' b:=fun n r hr h0 he=>h.nl n r hr h0 (by rw[he];exact hb) (he▸hn)
theorem LeA.trans {a b c:G} (h:LeA A n0 a b) (k:LeA A n0 b c):LeA A n0 a c where
 e n hlt hn:=by
  obtain⟨h1,h2⟩:=h.e n hlt hn;obtain⟨k1,k2⟩:=k.e n hlt h1;exact⟨k1,k2.trans h2⟩
 size:=bN h.size k.size
 os:=k.os.trans h.os
 tape:=k.tape.trans h.tape
 output:=k.output.trans h.output
 fr x hx hn hl:=(k.fr x (bq hx h.size) (h.keepNL hx hn) hl).trans (h.fr x hx hn hl)
 k x hx:=k.k x (h.k x hx)
 k' x hx hk:=by
  rcases k.k' x (bq hx h.size) hk with h1 | h1
  ·exact h.k' x hx h1
  ·exact .inr fun hn=>h1 (h.keepNL hx hn)
 nl n r hr h0 hlt:=by
  intro hn;exact k.nl n r hr h0 (bq hlt h.size) (h.keepNL hlt hn)
theorem LeA.drop (h:LeA B n0 g g') (hB:∀ b,b<g.w.heap.size→B b→A b):LeA A n0 g g':=⟨h.e,h.size,h.os,h.tape,h.output,fun b hb hn ha=>h.fr b hb hn fun hx=>ha (hB b hb hx),h.k,h.k',h.nl⟩
theorem LeA.toN (h:LeA A n0 g g') (hA:∀ b,b<g.w.heap.size→¬ A b):LeN n0 g g':=⟨h.e,h.size,h.os,h.tape,h.output,fun b hb hn=>h.fr b hb hn (hA b hb),h.k,h.k',h.nl⟩
theorem LeA.at (h:LeA A n0 g g') {b:Nat} (hb:b<g.w.heap.size) (hn:NL g b) (hk:¬ g.K b) (ha:¬ A b):g'.w.heap[b]?=g.w.heap[b]?∧¬ g'.K b :=
 ⟨h.fr b hb hn ha,fun hk'=>by rcases h.k' b hb hk' with h1 | h1;exact hk h1;exact h1 hn⟩
theorem VT.turnA (hg:P6 g) (h:LeA A n0 g g') (hk:∀ b,A b→¬ g.K b) {t:T} {c:Value} (hv:VT g t c) (hs:t.sc n0=true):VT g' t c :=
 hv.turnN (fun b hb=>⟨h.k b hb,h.fr b (hg.kd b hb) (hg.kl b hb) fun e=>hk b e hb⟩) h.e hs
end
theorem JOk.stepA {X:JX} {r:JR} {ph:SX} {A:Nat→Prop} {g g':G} (h:JOk X r ph g) (hg:P6 g) (hl:LeA A X.n1 g g') (hA:∀ b,A b→¬ g.K b) (h1:¬ A X.l) (h2:¬ A r.D):JOk X r ph g':=by
 obtain⟨k1,k2⟩:=hl.at (gA h.lrec).1 (A3l hg h.lrec) h.kl h1;obtain⟨k3,k4⟩:=hl.at (gA h.mark).1 (A5L hg h.mark) h.kD h2;exact⟨k1.trans h.lrec,k3.trans h.mark,k2,k4,h.sz,fun i=>(h.ts i).turnA hg hl hA (h.sc i),h.sc⟩
structure Cx (Φ:Type) where
 A:Nat→Prop
 own:Nat→Prop
 n1:Nat
 ok:Φ→G→Prop
 sub:∀ b,A b→own b
 lt:∀ ph g,ok ph g→∀ b,own b→b<g.w.heap.size
 nk:∀ ph g,ok ph g→∀ b,own b→¬ g.K b
 step:∀ (S:Nat→Prop) ph g g',ok ph g→P6 g→LeA S n1 g g'→(∀ b,S b→¬ g.K b)→(∀ b,S b→¬ own b)→ok ph g'
def Cx.zero (n:Nat):Cx Unit:=⟨fun _=>False,fun _=>False,n,fun _ _=>True,fun _ h=>h,fun _ _ _ _ h=>h.elim,fun _ _ _ _ h=>h.elim,fun _ _ _ _ _ _ _ _ _=>trivial⟩
def Cx.up {Φ:Type} (C:Cx Φ) (m:Nat) (h:C.n1≤m):Cx Φ:=⟨C.A,C.own,m,C.ok,C.sub,C.lt,C.nk,fun S ph g g' h1 h2 h3=>C.step S ph g g' h1 h2 (h3.less h)⟩
def Cx.nest {Φ:Type} (C:Cx Φ) (X:JX) (r:JR) (n:Nat) (h1:C.n1≤n) (h2:X.n1≤n):Cx (SX × Φ) where
 A b:=C.A b∨b=X.l
 own b:=C.own b∨b=X.l∨b=r.D
 n1:=n
 ok p g:=C.ok p.2 g∧JOk X r p.1 g∧¬ C.own X.l∧¬ C.own r.D
 sub b:=fun h=>h.elim (fun h => .inl (C.sub b h)) (fun h => .inr (.inl h))
 lt p g h b:=by
  rintro(h' | rfl | rfl)
  ·exact C.lt _ _ h.1 b h'
  ·exact(gA h.2.1.lrec).1
  ·exact(gA h.2.1.mark).1
 nk p g h b:=by
  rintro(h' | rfl | rfl)
  ·exact C.nk _ _ h.1 b h'
  ·exact h.2.1.kl
  ·exact h.2.1.kD
 step S p g g' h hg hl hk ho:=⟨C.step S _ _ _ h.1 hg (hl.less h1) hk fun b hb hx=>ho b hb (.inl hx),h.2.1.stepA hg (hl.less h2) hk (fun hx=>ho _ hx (.inr (.inl rfl))) (fun hx=>ho _ hx (.inr (.inr rfl))),h.2.2⟩
theorem Cx.stepN {Φ:Type} (C:Cx Φ) {ph:Φ} {g g':G} (h:C.ok ph g) (hg:P6 g) (hl:LeN C.n1 g g'):C.ok ph g':=C.step (fun _=>False) ph g g' h hg (hl.toA _) (fun _ h=>h.elim) (fun _ h=>h.elim)
def B3x {Φ:Type} (C:Cx Φ) (g:G) (N:Nat) (Q:Φ→SX→St→Prop):Exit→Act→aO→Prop:=fun ex a' w' =>
 ∃ g' ph sx st,g'.w=w'∧LeA C.A C.n1 g g'∧StR g' N st a' []∧C.ok ph g'∧XR g' sx ex∧Q ph sx st
theorem B3x.trans {Φ:Type} {C:Cx Φ} {g g1:G} {N:Nat} {Q:Φ→SX→St→Prop} (hl:LeA C.A C.n1 g g1) {ex:Exit} {a:Act} {w:aO} (h:B3x C g1 N Q ex a w):B3x C g N Q ex a w:=by
 obtain⟨g',ph,sx,st,h1,h2,h3⟩:=h;exact⟨g',ph,sx,st,h1,hl.trans h2,h3⟩
def SWC {Φ:Type} (P:ah) (C:Cx Φ) (N:Nat) (c:Code) (Q:Φ→SX→St→Prop) (ph:Φ) (st:St):Prop :=
 ∀ (F:Fence) (nn:Nat),Wd F→∀ (g:G) (a:Act),C.ok ph g→StR g N st a []→c.wpIn F nn P (B3x C g N Q) a g.w
section
variable {Φ:Type} {P:ah} {C:Cx Φ} {N:Nat} {Q:Φ→SX→St→Prop} {ph:Φ} {st:St}
theorem B3m {c:Code} (h:SW P C.n1 N [] c (Q ph) st):SWC P C N c Q ph st:=fun F nn hF g a hj hR =>
 aW (h F nn hF g a hR) fun ex a' w' ⟨g',sx,st',h1,h2,h3,h4,h5⟩=>⟨g',ph,sx,st',h1,h2.toA _,h3,C.stepN hj hR.good h2,h4,h5⟩
def B2v (K:Φ→St→Prop) (Q:Φ→SX→St→Prop):Φ→SX→St→Prop:=fun ph=>A5w (K ph) (Q ph)
def A84 (id:Nat) (Q:Φ→SX→St→Prop):Φ→SX→St→Prop:=fun ph=>A34 id (Q ph)
theorem O2 {K:Φ→St→Prop} (h:K ph st):B2v K Q ph .norm st:=h
theorem B2x {K:Φ→St→Prop} (h:Q ph .ret st):B2v K Q ph .ret st:=h
theorem A5W {K:Φ→St→Prop} {i:Nat} (h:Q ph (.exit i) st):B2v K Q ph (.exit i) st:=h
theorem A3a {i:Nat} (h:Q ph .norm st):A84 i Q ph .norm st:=h
theorem A6Q {i:Nat} (h:Q ph .ret st):A84 i Q ph .ret st:=h
theorem A75 {i:Nat} (h:Q ph .norm st):A84 i Q ph (.exit i) st:=I5 (Q:=Q ph) h
theorem A5i (h:Q ph .norm st):SWC P C N .skip Q ph st:=B3m (D7 h)
theorem B12 {i:Nat} (h:Q ph (.exit i) st):SWC P C N (.exit i) Q ph st:=B3m (N5 h)
theorem B6e (h:Q ph .ret st):SWC P C N .ret Q ph st:=B3m (C9 h)
theorem A2D {x y:Code} (h:SWC P C N x (B2v (SWC P C N y Q) Q) ph st):SWC P C N (.seq x y) Q ph st:=fun F nn hF g a hj hR=>by
 refine wpIn_seq (aW (h F nn hF g a hj hR) ?_);rintro ex a' w' ⟨g',ph',sx,st',rfl,h2,k2,k1,k4,k5⟩;cases sx with
 | norm =>
  cases ex<;>first | exact k4.elim | skip
  exact aW (k5 F nn hF g' a' k1 k2) fun _ _ _ hq=>hq.trans h2
 | ret=>cases ex<;>first | exact k4.elim | exact⟨g',ph',_,st',rfl,h2,k2,k1,k4,k5⟩
 | exit i=>cases ex<;>first | exact k4.elim | exact⟨g',ph',_,st',rfl,h2,k2,k1,k4,k5⟩
 | pan t=>cases ex<;>first | exact k4.elim | exact⟨g',ph',_,st',rfl,h2,k2,k1,k4,k5⟩
theorem A6K {id:Nat} {c:Code} (h:SWC P C N c (A84 id Q) ph st):SWC P C N (.block id c) Q ph st:=fun F nn hF g a hj hR=>by
 refine wpIn_block (aW (h F nn hF g a hj hR) ?_);rintro ex a' w' ⟨g',ph',sx,st',rfl,h2,k2,k1,k4,k5⟩;cases sx with
 | norm=>cases ex<;>first | exact k4.elim | exact⟨g',ph',.norm,st',rfl,h2,k2,k1,trivial,k5⟩
 | ret=>cases ex<;>first | exact k4.elim | exact⟨g',ph',.ret,st',rfl,h2,k2,k1,trivial,k5⟩
 | exit i =>
  cases ex<;>first | exact k4.elim | skip
  rename_i j;have h4':i=j:=k4;subst h4';simp only[A84,A34]at k5;by_cases hi:i=id
  ·rw[if_pos hi]at k5;simp only[Exit.inBlock,hi,if_true];exact⟨g',ph',.norm,st',rfl,h2,k2,k1,trivial,k5⟩
  ·rw[if_neg hi]at k5;simp only[Exit.inBlock,hi,if_false];exact⟨g',ph',.exit i,st',rfl,h2,k2,k1,rfl,k5⟩
 | pan t=>cases ex<;>first | exact k4.elim | exact⟨g',ph',.pan t,st',rfl,h2,k2,k1,k4,k5⟩
theorem B45 {c:aa} {x y:Code} {b:Bool} (hc:O9 st.ts c = .d (.v (.bool b))) (ht:b=true→SWC P C N x Q ph st) (hf:b=false→SWC P C N y Q ph st):SWC P C N (.cond c x y) Q ph st:=fun F nn hF g a hj hR=>by
 have h1:=A4G hR.ts c;rw[hc]at h1;exact wpIn_cond_split h1.v_eq (fun h=>ht h F nn hF g a hj hR) (fun h=>hf h F nn hF g a hj hR)
theorem A6L {c:aa} {x y:Code} (hc:O9 st.ts c = .d (.v (.bool true))) (h:SWC P C N x Q ph st):SWC P C N (.cond c x y) Q ph st:=B45 hc (fun _=>h) (fun h=>by cases h)
theorem A3Q {c:aa} {x y:Code} (hc:O9 st.ts c = .d (.v (.bool false))) (h:SWC P C N y Q ph st):SWC P C N (.cond c x y) Q ph st:=B45 hc (fun h=>by cases h) (fun _=>h)
theorem SWC.seen {c:Code} {st':St} (k:∀ (g:G) (a:Act),StR g N st a []→∃ g',g'.w=g.w∧LeN C.n1 g g'∧StR g' N st' a []) (h:SWC P C N c Q ph st'):SWC P C N c Q ph st:=fun F nn hF g a hj hR=>by
 obtain⟨g',hw,hle,hR'⟩:=k g a hR;have:=h F nn hF g' a (C.stepN hj hR.good hle) hR';rw[hw]at this;exact aW this fun _ _ _ hq=>hq.trans (hle.toA _)
theorem SWC.own {c:Code} {ts ts':LT} {L L':LR} (s:Nat) (hs:aJ s 0=false) {m:Nat} {nr:List Nat} (hm:A4f.drop L.length=m::nr) (hts:B21 m s ts ts') (hL:A92 m s L L') (h:SWC P C N c Q ph ⟨ts',L'++[some ⟨s,[]⟩]⟩):SWC P C N c Q ph ⟨ts,L⟩ :=
 SWC.seen (fun _ _ hR=>A9g C.n1 s hs hm hts hL hR) h
theorem SWC.fz {c:Code} {ts ts':LT} {L L':LR} {α:Type} {w:List α} {f:α→D} (n s:Nat) (hn0:L[n]?=some (some ⟨s,w.map fun a => .d (f a)⟩)) (hts:FzS n s (w.map f) ts ts') (hL:FzR n s (w.map f) (L.set n none) L') (h:SWC P C N c Q ph ⟨ts',L'⟩):SWC P C N c Q ph ⟨ts,L⟩ :=
 SWC.seen (fun _ _ hR=>C0l C.n1 n s hn0 hts hL hR) h
theorem B2s {c:Code} (I:Nat→Φ→St→Prop) {m:Nat} {st0:St} (hv:A33 C.n1 N st st0) (h0:I m ph st0)
  (h:∀ m ph st,I m ph st→SWC P C N c (B2v (fun ph' st'=>∃ m' st'',m'<m∧A33 C.n1 N st' st''∧I m' ph' st'') Q) ph st):SWC P C N (.loop c) Q ph st:=by
 refine SWC.seen (fun _ _ hR=>hv _ _ _ hR) ?_;intro F nn hF g a hj hR
 let Pm:Nat→Act→aO→Prop:=fun m a' w'=>∃ g' ph' st',g'.w=w'∧LeA C.A C.n1 g g'∧C.ok ph' g'∧StR g' N st' a' []∧I m ph' st'
 have hex:∃ pick:Act→aO→Nat,∀ a' w',(∃ m,Pm m a' w')→Pm (pick a' w') a' w'∧∀ k,Pm k a' w'→pick a' w'≤k:=by
  have h1:∀ p:Act × aO,∃ m,(∃ m,Pm m p.1 p.2)→Pm m p.1 p.2∧∀ k,Pm k p.1 p.2→m≤k:=fun p=>by
   by_cases h:∃ m,Pm m p.1 p.2
   ·obtain⟨m,hm⟩:=least h;exact⟨m,fun _=>hm⟩
   ·exact⟨0,fun h'=>absurd h' h⟩
  exact⟨fun a' w'=>Classical.choose (h1 (a',w')),fun a' w'=>Classical.choose_spec (h1 (a',w'))⟩
 obtain⟨pick,hpick⟩:=hex;refine wpIn_loop (fun a' w'=>∃ m,Pm m a' w') pick ⟨m,g,ph,st0,rfl,.refl _ _ g,hj,hR,h0⟩ fun a' w' hI=>?_;obtain⟨⟨g1,ph1,st1,rfl,hl1,hj1,hR1,hI1⟩,_⟩:=hpick a' w' hI;refine aW (h _ ph1 st1 hI1 F nn hF g1 a' hj1 hR1) ?_;rintro ex a2 w2 ⟨g2,ph2,sx,st2,rfl,k3,e2,e1,e4,e5⟩;cases sx with
 | norm =>
  cases ex<;>first | exact e4.elim | skip
  obtain⟨m',st3,hlt,hv3,hI2⟩:=e5;obtain⟨g3,hw3,hl3,hR3⟩:=hv3 _ _ _ e2;have hP:Pm m' a2 g2.w:=⟨g3,ph2,st3,hw3,(hl1.trans k3).trans (hl3.toA _),C.stepN e1 e2.good hl3,hR3,hI2⟩;have hex:∃ m,Pm m a2 g2.w:=⟨m',hP⟩;exact⟨hex,Nat.lt_of_le_of_lt ((hpick a2 g2.w hex).2 m' hP) hlt⟩
 | ret=>cases ex<;>first | exact e4.elim | exact⟨g2,ph2,_,st2,rfl,hl1.trans k3,e2,e1,e4,e5⟩
 | exit i=>cases ex<;>first | exact e4.elim | exact⟨g2,ph2,_,st2,rfl,hl1.trans k3,e2,e1,e4,e5⟩
 | pan t=>cases ex<;>first | exact e4.elim | exact⟨g2,ph2,_,st2,rfl,hl1.trans k3,e2,e1,e4,e5⟩
def RgC {Φ:Type} (P:ah) (C:Cx Φ) (N:Nat) (ops:Array Oper) (Q:Φ→SX→St→Prop) (l:List Oper) (ph:Φ) (st:St):Prop :=
 ∀ (F:Fence) (nn:Nat),Wd F→∀ (g:G) (a:Act) (R:Exit→Act→aO→Prop),C.ok ph g→StR g N st a []→(∀ ex a' w',B3x C g N Q ex a' w'→R ex a' w')→wpListIn F nn P ops R l a g.w
theorem A4D {id:Nat} {l:List Oper} (h:RgC P C N l.toArray Q l ph st):SWC P C N (.region id l.toArray false) Q ph st:=fun F nn hF g a hj hR =>
 wpIn_region_lit (h F nn hF g a _ hj hR fun _ _ _ h=>h)
theorem B9j {ops:Array Oper} (h:Q ph .norm st):RgC P C N ops Q [] ph st:=fun _ _ _ g _ _ hj hR k =>
 k _ _ _ ⟨g,ph,.norm,st,rfl,.refl _ _ g,hR,hj,trivial,h⟩
def B9D {Φ:Type} (P:ah) (C:Cx Φ) (N:Nat) (ops:Array Oper) (Q:Φ→SX→St→Prop) (ph:Φ):List Oper→List Stp→St→Prop:=fun l2 _ st'=>RgC P C N ops Q l2 ph st'
theorem A0B {ops:Array Oper} {tr:List Stp} (h:Q ph .norm st):L3 P N ops [] st tr (B9D P C N ops Q ph):=A32 (B9j h)
theorem B1T {ops:Array Oper} {tr:List Stp} {l:List Oper} (h:RgC P C N ops Q l ph st):L3 P N ops l st tr (B9D P C N ops Q ph):=A32 h
theorem A2B {ops:Array Oper} {l:List Oper} (h:L3 P N ops l st [] (B9D P C N ops Q ph)):RgC P C N ops Q l ph st:=by
 obtain⟨l1,l2,tr,st',rfl,h1,h2⟩:=h;intro F nn hF g a R hj hR k;have key:∀ (l:List Oper) (st:St) (tr:List Stp) (st2:St),Ev P N ops l st tr st2→RgC P C N ops Q l2 ph st2→∀ (g1:G) (a:Act),Le g g1→StR g1 N st a []→wpListIn F nn P ops R (l++l2) a g1.w:=by
  intro l st tr st2 h;induction h with
  | nil st =>
   intro h2 g1 a hl hR1;exact h2 F nn hF g1 a R (C.stepN hj hR.good (hl.toN _)) hR1 fun _ _ _ hq=>k _ _ _ (hq.trans ((hl.toN _).toA _))
  | cons hs _ ih =>
   intro h2 g1 a hl hR1;exact hs.soundL hF hR1 fun g' a' h3 h4=>ih h2 g' a' (hl.trans h3) h4
 exact key l1 st tr st' h1 h2 g a (.refl g) hR
def rdC (n1:Nat) (K:Φ→SX→LR→Prop):Φ→SX→St→Prop
 | _,.pan _,_=>False
 | ph,sx,st=>∃ L κ,Vw n1 st ⟨[],L⟩ κ∧K ph sx L
end
section
variable {Φ:Type} {P:ah} {C:Cx Φ} {X:JX} {r:JR} {n N:Nat} {h1:C.n1≤n} {h2:X.n1≤n} {Q:SX × Φ→SX→St→Prop} {φ:Φ}
theorem C0g {Φ:Type} {P:ah} {C:Cx Φ} {m N:Nat} {hm:C.n1≤m} {c:Code} {Q:Φ→SX→St→Prop} {ph:Φ} {st:St} (h:SW P m N [] c (Q ph) st):SWC P (C.up m hm) N c Q ph st:=B3m (C:=C.up m hm) h
def B3r {Φ:Type} (P:ah) (C2:Cx (SX × Φ)) (N:Nat) (ops:Array Oper) (Q:SX × Φ→SX→St→Prop) (l:List Oper) (d:Nat) (ts:LT):Φ→SX→LR→Prop:=fun φ ph L'=>RgC P C2 N ops Q l (ph,φ) ⟨(d,.d (.v (.bool (isN ph))))::ts,L'⟩
theorem A9y {C2:Cx (SX × Φ)} {ops:Array Oper} {l:List Oper} {d:Nat} {ts:LT} {L':LR} (h:RgC P C2 N ops Q l (.norm,φ) ⟨(d,.d (.v (.bool true)))::ts,L'⟩):B3r P C2 N ops Q l d ts φ .norm L':=h
theorem B6k {C2:Cx (SX × Φ)} {ops:Array Oper} {l:List Oper} {d:Nat} {ts:LT} {L':LR} (h:RgC P C2 N ops Q l (.ret,φ) ⟨(d,.d (.v (.bool false)))::ts,L'⟩):B3r P C2 N ops Q l d ts φ .ret L':=h
theorem B2n {ops:Array Oper} {l:List Oper} {d:Nat} {ty:ab} {pos:String} {af:Array Edge} {gd:Option (Nat × Bool)} {x:aa} {xs:Array aa} {tys:Array ab} {ys:List D} {ts:LT} {L:LR}
  (hf:O9 ts x = .d (.v (.func (.yield X.l) #[] #[]))) (hx:xs.toList.map (O9 ts)=ys.map .d) (hps:X.ps.toList.length=ys.length) (hpN:X.ps.toList.all (aq · X.N)=true) (hn1:bL n L.length=true)
  (hw:I2 ops ts ⟨some d,.call { callee := .value x,args:=xs,argTypes:=tys },ty,pos,af,gd⟩=some true) (hd:aq d N=true)
  (h:∀ hup:C.n1≤L.length,SW P L.length X.N [] X.asg (B99 fun st1=>SWC P (C.up L.length hup) X.N X.body (rdC L.length (B3r P (C.nest X r n h1 h2) N ops Q l d ts)) φ st1) ⟨B1H X.ps.toList ys X.ts,L⟩) :
  RgC P (C.nest X r n h1 h2) N ops Q (⟨some d,.call { callee := .value x,args:=xs,argTypes:=tys },ty,pos,af,gd⟩::l) (.norm,φ) ⟨ts,L⟩:=by
 intro F nn hF g a R hj hR hk;obtain⟨hc,hj,ho1,ho2⟩:=hj;have hn1:=bg hn1;have hn1':X.n1≤L.length:=bN h2 hn1;have hnC:C.n1≤L.length:=bN h1 hn1;have hcal:=A4G hR.ts x;dsimp only at hcal;rw[hf]at hcal;have hcal:=hcal.v_eq;have hvs:VTs g (ys.map .d) (xs.toList.map a.eval):=by
  rw[← hx];refine⟨by simp,fun i t c h1 h2=>?_⟩;rw[gM,Option.map_eq_some_iff]at h1 h2;obtain⟨y,hy1,rfl⟩:=h1;obtain⟨z,hz1,rfl⟩:=h2;rw[hy1]at hz1;injection hz1 with hz1;subst hz1
  exact A4G hR.ts y
 obtain⟨vs,hvsE⟩:∃ vs,xs.toList.map a.eval=vs:=⟨_,rfl⟩;rw[hvsE]at hvs;have hvl:vs.length=ys.length:=by have:=hvs.1;simp at this;exact this.symm
 have h5:g.w.heap[X.l]?=some (.loop (X.lp r .ready none)):=hj.lrec;have hyr:=run_yield (P:=P) (args:=vs.toArray) h5 (by simp[JX.lp]at hps ⊢;omega);obtain⟨p1,p2⟩:=B5p X.ps.toList ys vs X.ts r.tmps hj.sz (fun p hp=>List.all_eq_true.1 hpN p hp) hps hvs hj.ts;have e0:(X.ps.zip vs.toArray).foldl (fun t (p,v)=>t.setIfInBounds p v) r.tmps=(X.ps.toList.zip vs).foldl (fun t (p,v)=>t.setIfInBounds p v) r.tmps:=by rw[← Array.foldl_toList];simp
 let A2:Nat→Prop:=fun b=>C.A b∨b=X.l
 have hround:RoundIn aY 0 P X.l r.fn ((X.ps.zip vs.toArray).foldl (fun t (p,v)=>t.setIfInBounds p v) r.tmps) X.asg X.body g.w fun e W' =>
   ∃ g' ph' φ' L',g'.w=W'∧P6 g'∧g'.M=ofL L'∧LeA A2 L.length g g'∧C.ok φ' g'∧JOk X r ph' g'∧e = .returned (.bool (isN ph'))∧RgC P (C.nest X r n h1 h2) N ops Q l (ph',φ') ⟨(d,.d (.v (.bool (isN ph'))))::ts,L'⟩:=by
  refine roundIn_of_wpIn trivial (aW (h hnC (Fence.wide.inRound X.l) 0 ⟨some X.l,rfl⟩ g _ ⟨hR.good,hR.M,?_,?_,rfl⟩) ?_)
  ·show((X.ps.zip vs.toArray).foldl _ r.tmps).size=X.N;rw[e0];exact p1
  ·intro i;show VT g _ (((X.ps.zip vs.toArray).foldl _ r.tmps).getD i undef);rw[e0];exact p2 i
  rintro ex a1 w1 ⟨g2,sx,st1,rfl,q2,q3,q4,rfl,q5⟩;cases ex<;>first | exact q4.elim | skip
  have c2':=C.stepN hc hR.good (q2.lessN hnC);have j2:=hj.step hR.good (q2.lessN hn1');have b1:g2.w.heap[X.l]?=some (.loop (X.lp r .ready none)):=j2.lrec;have hlt2:=(gA b1).1;have hne:r.D≠X.l:=fun e=>by have:=j2.mark;rw[e,b1]at this;cases this
  obtain⟨c1,c2,c3⟩:=A6D q3.good (A3l q3.good b1) j2.kl (.loop { X.lp r .ready none with state := .busy }) L.length;refine⟨_,run_beginRound b1 rfl,?_⟩;obtain⟨g3,hg3⟩:∃ g3:G,g3=⟨g2.M,g2.β,g2.K,g2.w.putObj X.l (.loop { X.lp r .ready none with state := .busy })⟩:=⟨_,rfl⟩;rw[← hg3]at c1 c2;have hR3:StR g3 X.N st1 a1 []:=⟨c1,by rw[hg3];exact q3.M,q3.size,fun i=>by rw[hg3];exact c3 _ _ (q3.ts i),q3.df⟩;have d1:g3.w.heap[X.l]?=some (.loop { X.lp r .ready none with state := .busy }):=by rw[hg3];exact World.putObj_heap_same hlt2
  have d2:g3.w.heap[r.D]?=some (.deferred (some [])):=by rw[hg3];exact(World.putObj_heap_other hne).trans j2.mark
  have hw3:g3.w=g2.w.putObj X.l (.loop { X.lp r .ready none with state := .busy }):=by rw[hg3]
  have hK3:g3.K=g2.K:=by rw[hg3]
  have c3':C.ok φ g3:=C.step (·=X.l) φ g2 g3 c2' q3.good (c2.toA.less hnC) (fun b hb hk=>j2.kl (hb▸hk)) (fun b hb ho=>ho1 (hb▸ho));rw[← hw3];refine aW (q5 (Fence.wide.inRound X.l) 0 ⟨some X.l,rfl⟩ g3 a1 c3' hR3) ?_;rintro ex a2 w2 ⟨g4,φ4,sx,st2,rfl,r2,r3,r3',r4,r5⟩;have r2:LeA C.A L.length g3 g4:=r2;have r3':C.ok φ4 g4:=r3';obtain⟨f1,f3⟩:=r2.at (gA d1).1 (A3l c1 d1) (by rw[hK3];exact j2.kl) (fun hx=>ho1 (C.sub _ hx));obtain⟨f2,f4⟩:=r2.at (gA d2).1 (A5L c1 d2) (by rw[hK3];exact j2.kD) (fun hx=>ho2 (C.sub _ hx));rw[d1]at f1;rw[d2]at f2;have fin:∀ (ph':SX) (L':LR) (κ:List Nat),(isN ph'=(A3p ph').isNone)→(A5v ph'=if(A3p ph').isNone then .ready else .done)→Vw L.length st2 ⟨[],L'⟩ κ →
    ∃ g5:G,(Instr.endRound X.l (A3p ph')).run P g4.w = .ok (.bool (isN ph')) g5.w∧g5.M=ofL L'∧P6 g5∧LeA A2 L.length g g5∧C.ok φ4 g5∧JOk X r ph' g5:=fun ph' L' κ hp1 hp2 hvw=>by
   obtain⟨g5,s1,s2,s3⟩:=hvw.see r3;obtain⟨t1,t3⟩:=A6q s2 (gA f1).1 (A3l r3.good f1) f3;obtain⟨t2,t4⟩:=A6q s2 (gA f2).1 (A5L r3.good f2) f4;rw[f1]at t1;rw[f2]at t2;obtain⟨u1,u2,_⟩:=A6D s3.good (A3l s3.good t1) t3 (.loop (X.lp r (A5v ph') (A3p ph'))) L.length;have hr:=run_endRound (P:=P) (A3p ph') t1;have hL:LeA A2 L.length g ⟨g5.M,g5.β,g5.K,g5.w.putObj X.l (.loop (X.lp r (A5v ph') (A3p ph')))⟩:=(((q2.toA A2).trans (c2.toA.grow fun b hb => .inr hb)).trans (r2.grow fun b hb => .inl hb)).trans ((s2.toA A2).trans (u2.toA.grow fun b hb => .inr hb));have hok5:=C.step (·=X.l) φ4 g5 ⟨g5.M,g5.β,g5.K,g5.w.putObj X.l (.loop (X.lp r (A5v ph') (A3p ph')))⟩ (C.stepN r3' r3.good (s2.lessN hnC)) s3.good (u2.toA.less hnC) (fun b hb hk=>t3 (hb▸hk)) (fun b hb ho=>ho1 (hb▸ho));refine⟨⟨g5.M,g5.β,g5.K,g5.w.putObj X.l (.loop (X.lp r (A5v ph') (A3p ph')))⟩,?_,s3.M,u1,hL,hok5,⟨World.putObj_heap_same (gA t1).1,(World.putObj_heap_other hne).trans t2,t3,t4,hj.sz,fun i=>(hj.ts i).turnA hR.good (hL.less hn1') (fun b hb hk=>hb.elim (fun hb=>C.nk _ _ hc b (C.sub b hb) hk) (fun hb=>hj.kl (hb▸hk))) (hj.sc i),hj.sc⟩⟩;rw[← s1,hr,hp1,hp2];rfl
  cases sx with
  | norm =>
   cases ex<;>first | exact r4.elim | skip
   obtain⟨L',κ,hvw,hI⟩:=r5;obtain⟨g5,z1,z2,z3,z4,z5,z6⟩:=fin .norm L' κ rfl rfl hvw;exact⟨_,_,z1,g5,.norm,φ4,L',rfl,z3,z2,z4,z5,z6,rfl,hI⟩
  | ret =>
   cases ex<;>first | exact r4.elim | skip
   obtain⟨L',κ,hvw,hI⟩:=r5;obtain⟨g5,z1,z2,z3,z4,z5,z6⟩:=fin .ret L' κ rfl rfl hvw;exact⟨_,_,z1,g5,.ret,φ4,L',rfl,z3,z2,z4,z5,z6,rfl,hI⟩
  | exit i =>
   cases ex<;>first | exact r4.elim | skip
   obtain⟨L',κ,hvw,hI⟩:=r5;have r4':i=_:=r4;subst r4';obtain⟨g5,z1,z2,z3,z4,z5,z6⟩:=fin (.exit i) L' κ rfl rfl hvw;exact⟨_,_,z1,g5,.exit i,φ4,L',rfl,z3,z2,z4,z5,z6,rfl,hI⟩
  | pan t=>exact r5.elim
 unfold wpListIn;rw[A0W hw fun d _=>hR.ts d];simp only[if_true];refine⟨fun f _=>hF.fn f,?_⟩;rw[Oper.semAt_eq _ _ _ (fun c h=>by cases h)];have e:xs.map a.eval=vs.toArray:=by rw[← hvsE];apply cS;simp
 have hrun':(execOp a.eval ⟨some d,.call { callee := .value x,args:=xs,argTypes:=tys },ty,pos,af,gd⟩).run P g.w = .ok (.round X.l r.fn ((X.ps.zip vs.toArray).foldl (fun t (p,v)=>t.setIfInBounds p v) r.tmps) X.asg X.body) g.w:=by
  simp[execOp,resolve,hcal,Deferred.ofValue,invoke,e,hyr,JX.lp]
 rw[hrun'];obtain⟨rr,rfl⟩:=hF;refine⟨(fun h=>by cases h),?_⟩;refine(A9r rr (nn-1) hround).mono ?_;rintro e w' ⟨g',ph',φ',L',rfl,k1,k2,k3,k4,k5,rfl,k6⟩;have all:∀ {t c},VT g t c→VT g' t c:=fun hv=>hv.turn (fun b hb=>⟨k3.k b hb,k3.fr b (hR.good.kd b hb) (hR.good.kl b hb) fun e=>e.elim (fun e=>C.nk _ _ hc b (C.sub b e) hb) (fun e=>hj.kl (e▸hb))⟩) fun n hn=>k3.e n (by rw[hR.M]at hn;simpa only[ofL,ne_eq,aQ,cD]using hn) hn;refine k6 { aY with round:=rr } nn ⟨rr,rfl⟩ g' _ R ⟨k4,k5,ho1,ho2⟩ ⟨k1,k2,by rw[A5c];exact hR.size,fun i=>?_,by rw[A3h];exact hR.df⟩ fun _ _ _ hq=>hk _ _ _ (hq.trans (k3.less hn1));rw[A5b hR.size (by exact hd)];have e:=A2M (ts:=ts) (dst:=some d) (v := .d (.v (.bool (isN ph')))) i;simp only[A5m]at e;rw[e];split
 ·exact .d (.v _ rfl)
 ·exact all (hR.ts i)
end
theorem B5x {Φ:Type} {P:ah} {C:Cx Φ} {X:JX} {r:JR} {n m N:Nat} {h1:C.n1≤n} {h2:X.n1≤n} {hm:n≤m} {Q:SX × Φ→SX→St→Prop} {φ:Φ} {ops:Array Oper} {l:List Oper} {d:Nat} {ty:ab} {pos:String} {af:Array Edge} {gd:Option (Nat × Bool)} {x:aa} {xs:Array aa} {tys:Array ab} {ys:List D} {ts:LT} {L:LR}
  (hf:O9 ts x = .d (.v (.func (.yield X.l) #[] #[]))) (hx:xs.toList.map (O9 ts)=ys.map .d) (hps:X.ps.toList.length=ys.length) (hpN:X.ps.toList.all (aq · X.N)=true) (hn1:bL m L.length=true)
  (hw:I2 ops ts ⟨some d,.call { callee := .value x,args:=xs,argTypes:=tys },ty,pos,af,gd⟩=some true) (hd:aq d N=true)
  (h:∀ hup:C.n1≤L.length,SW P L.length X.N [] X.asg (B99 fun st1=>SWC P (C.up L.length hup) X.N X.body (rdC L.length (B3r P ((C.nest X r n h1 h2).up m hm) N ops Q l d ts)) φ st1) ⟨B1H X.ps.toList ys X.ts,L⟩) :
  RgC P ((C.nest X r n h1 h2).up m hm) N ops Q (⟨some d,.call { callee := .value x,args:=xs,argTypes:=tys },ty,pos,af,gd⟩::l) (.norm,φ) ⟨ts,L⟩ :=
 B2n (C:=C) (X:=X) (r:=r) (n:=m) (h1:=bN h1 hm) (h2:=bN h2 hm) hf hx hps hpN hn1 hw hd h
def SWN {Φ:Type} (P:ah) (C:Cx Φ) (N:Nat) (c:Code) (Q:Φ→SX→St→Prop) (ph:Φ) (st:St):Prop :=
 ∀ (nn:Nat) (db:Nat) (g:G) (a:Act) (df:List bp),C.ok ph g→StR g N st a df→A72 db g df→(∀ b,C.own b→b<db)→c.wpIn aY nn P (fun ex a' w'=>∃ g' ph' sx st' df',g'.w=w'∧LeA C.A C.n1 g g'∧StR g' N st' a' df'∧A72 db g' df'∧C.ok ph' g'∧XR g' sx ex∧Q ph' sx st') a g.w
theorem A72.stepA {db n0:Nat} {A:Nat→Prop} {g g':G} {df:List bp} (h:A72 db g df) (hg:P6 g) (hl:LeA A n0 g g') (hA:∀ b,A b→b<db):A72 db g' df:=by
 refine⟨h.nd,bN h.sz hl.size,fun d hd=>?_⟩;obtain⟨D,h1,h2,h3,h4⟩:=h.all d hd;obtain⟨k1,k2⟩:=hl.at (gA h3).1 (A5L hg h3) h4 (fun hx=>by have:=hA D hx;omega);exact⟨D,h1,h2,k1.trans h3,k2⟩
section
variable {Φ:Type} {P:ah} {C:Cx Φ} {N:Nat} {Q:Φ→SX→St→Prop} {ph:Φ} {st:St}
theorem B8n {c:Code} (h:∀ df,SW P C.n1 N df c (Q ph) st):SWN P C N c Q ph st:=fun nn db g a df hc hR hd _ =>
 aW (h df aY nn Wd.wide g a hR) fun ex a' w' ⟨g',sx,st',h1,h2,h3,h4,h5⟩=>⟨g',ph,sx,st',df,h1,h2.toA _,h3,hd.stepN hR.good h2,C.stepN hc hR.good h2,h4,h5⟩
theorem B6f {x y:Code} (h:SWN P C N x (B2v (SWN P C N y Q) Q) ph st):SWN P C N (.seq x y) Q ph st:=fun nn db g a df hc hR hd ho=>by
 refine wpIn_seq (aW (h nn db g a df hc hR hd ho) ?_);rintro ex a' w' ⟨g',ph',sx,st',df',rfl,h2,h3,h3',hc',h4,h5⟩;cases sx with
 | norm =>
  cases ex<;>first | exact h4.elim | skip
  exact aW (h5 nn db g' a' df' hc' h3 h3' ho) fun _ _ _ ⟨g'',ph'',sx',st'',df'',k1,k2,k3⟩=>⟨g'',ph'',sx',st'',df'',k1,h2.trans k2,k3⟩
 | ret=>cases ex<;>first | exact h4.elim | exact⟨g',ph',_,st',df',rfl,h2,h3,h3',hc',h4,h5⟩
 | exit i=>cases ex<;>first | exact h4.elim | exact⟨g',ph',_,st',df',rfl,h2,h3,h3',hc',h4,h5⟩
 | pan t=>cases ex<;>first | exact h4.elim | exact⟨g',ph',_,st',df',rfl,h2,h3,h3',hc',h4,h5⟩
theorem B6T {id:Nat} {c:Code} (h:SWN P C N c (A84 id Q) ph st):SWN P C N (.block id c) Q ph st:=fun nn db g a df hc hR hd ho=>by
 refine wpIn_block (aW (h nn db g a df hc hR hd ho) ?_);rintro ex a' w' ⟨g',ph',sx,st',df',rfl,h2,h3,h3',hc',h4,h5⟩;cases sx with
 | norm=>cases ex<;>first | exact h4.elim | exact⟨g',ph',.norm,st',df',rfl,h2,h3,h3',hc',trivial,h5⟩
 | ret=>cases ex<;>first | exact h4.elim | exact⟨g',ph',.ret,st',df',rfl,h2,h3,h3',hc',trivial,h5⟩
 | exit i =>
  cases ex<;>first | exact h4.elim | skip
  rename_i j;have h4':i=j:=h4;subst h4';simp only[A84,A34]at h5;by_cases hi:i=id
  ·rw[if_pos hi]at h5;simp only[Exit.inBlock,hi,if_true];exact⟨g',ph',.norm,st',df',rfl,h2,h3,h3',hc',trivial,h5⟩
  ·rw[if_neg hi]at h5;simp only[Exit.inBlock,hi,if_false];exact⟨g',ph',.exit i,st',df',rfl,h2,h3,h3',hc',rfl,h5⟩
 | pan t=>cases ex<;>first | exact h4.elim | exact⟨g',ph',.pan t,st',df',rfl,h2,h3,h3',hc',h4,h5⟩
theorem B8m {n0:Nat} {c:Code} {Q:SX→St→Prop} (h:SWN P (Cx.zero n0) N c (fun _=>Q) () st):SWM P n0 N c Q st:=fun nn db g a df hR hd =>
 aW (h nn db g a df trivial hR hd fun _ h=>h.elim) fun ex a' w' ⟨g',_,sx,st',df',h1,h2,h3,h4,_,h5,h6⟩=>⟨g',sx,st',df',h1,h2.toN (fun _ _ h=>h),h3,h4,h5,h6⟩
def C02 (n1:Nat) (K:SX × Φ→LR→Prop):SX × Φ→SX→St→Prop:=fun p sx st=>match sx with
 | .ret | .norm=>A65 p.1=false∧∃ L κ,Vw n1 st ⟨[],L⟩ κ∧K p L
 | .pan _=>False
 | .exit _=>False
def B80 (P:ah) (C2:Cx (SX × Φ)) (f:bm) (args:List T) (L:LR) (ph:SX × Φ) (K:SX × Φ→LR→Prop):Prop :=
 ∀ (g:G) (vs:List Value),C2.ok ph g→P6 g→g.M=ofL L→VTs g args vs→CallsIn aY 0 P f vs.toArray g.w fun e W' =>
  ∃ g' p L',g'.w=W'∧P6 g'∧g'.M=ofL L'∧LeA C2.A C2.n1 g g'∧C2.ok p g'∧A65 p.1=false∧(∃ v,e = .returned v)∧K p L'
theorem B35 {C2:Cx (SX × Φ)} {f:bm} {fn:Func} {c:Code} {args:List T} {L:LR} {p:SX × Φ} {K:SX × Φ→LR→Prop} (hf:P.funcs[f]?=some fn) (hb:fn.body=some c) (hN:fn.ntmps=N) (hres:fn.results=#[]) (hl:bL args.length N=true)
  (h:SWC P C2 N c (C02 C2.n1 K) p ⟨L8 0 args,L⟩):B80 P C2 f args L p K:=fun g vs hc hg hM hv=>by
 refine callsIn_of_wp hf hb trivial ?_ rfl;obtain⟨s1,s2⟩:=A6y hv hl fn.ntmps hN;refine aW (h aY 0 Wd.wide g { tmps:=vs.toArray++bt (fn.ntmps-vs.toArray.size) undef,defers:=[] } hc ⟨hg,hM,s1,s2,rfl⟩) ?_;rintro ex a' w' ⟨g',p',sx,st',rfl,h2,h3,h4,h5,h6⟩;have done:(A65 p'.1=false∧∃ L1 κ,Vw C2.n1 st' ⟨[],L1⟩ κ∧K p' L1)→a'.defers=[]∧∃ v,(results fn a'.tmps).run P g'.w = .ok v g'.w∧∃ g'' p L',g''.w=g'.w∧P6 g''∧g''.M=ofL L'∧LeA C2.A C2.n1 g g''∧C2.ok p g''∧A65 p.1=false∧(∃ v',Ending.returned v = .returned v')∧K p L':=by
  rintro⟨hp,L',κ,h7,h8⟩;obtain⟨g2,e1,e2,e3⟩:=h7.see h3;exact⟨h3.df,.tuple #[],by simp[results,hres],g2,p',L',e1,e3.good,e3.M,h2.trans (e2.toA _),C2.stepN h4 h3.good e2,hp,⟨_,rfl⟩,h8⟩
 cases sx with
 | norm=>cases ex<;>first | exact h5.elim | exact done h6
 | ret=>cases ex<;>first | exact h5.elim | exact done h6
 | exit i=>exact h6.elim
 | pan t=>exact h6.elim
theorem B36 {C2:Cx (SX × Φ)} {f:bm} {fn:Func} {c:Code} {args:List T} {L:LR} {p:SX × Φ} {K:SX × Φ→LR→Prop} (hf:P.funcs[f]?=some fn) (hb:fn.body=some c) (hN:fn.ntmps=N) (hres:fn.results=#[]) (hl:bL args.length N=true)
  (h:SWN P C2 N c (C02 C2.n1 K) p ⟨L8 0 args,L⟩):B80 P C2 f args L p K:=fun g vs hc hg hM hv=>by
 refine callsIn_of_wp_marks (n:=0) hf hb trivial ?_ rfl;obtain⟨s1,s2⟩:=A6y hv hl fn.ntmps hN;have hR:StR g N ⟨L8 0 args,L⟩ { tmps:=vs.toArray++bt (fn.ntmps-vs.toArray.size) undef,defers:=[] } []:=⟨hg,hM,s1,s2,rfl⟩;refine aW (h 0 g.w.heap.size g _ [] hc hR (A72.nil (aw _)) (C2.lt _ _ hc)) ?_;rintro ex a' w' ⟨g',p',sx,st',df',rfl,hle,k2,k3,hc',k4,k5⟩;have later:∀ w2,B83 g.w.heap.size g'.K g'.w w2→StR ⟨g'.M,g'.β,g'.K,w2⟩ N st' a' df'∧LeA C2.A C2.n1 g ⟨g'.M,g'.β,g'.K,w2⟩∧C2.ok p' ⟨g'.M,g'.β,g'.K,w2⟩:=fun w2 hs=>by
  obtain⟨e1,e2⟩:=A9N k2.good hs;refine⟨⟨e1,k2.M,k2.size,fun i=>e2 _ _ (k2.ts i),k2.df⟩,⟨hle.e,by show _≤w2.heap.size;rw[hs.size];exact hle.size,hs.os.trans hle.os,hs.tape.trans hle.tape,hs.output.trans hle.output,fun b hb hn ha=>(hs.same b (.inl hb)).trans (hle.fr b hb hn ha),hle.k,hle.k',hle.nl⟩,?_⟩;refine C2.step (fun b=>¬ (b<g.w.heap.size∨g'.K b∨∀ o,g'.w.heap[b]?=some o→∀ x,o ≠ .deferred x)) p' g' ⟨g'.M,g'.β,g'.K,w2⟩ hc' k2.good ⟨fun n _ hn=>⟨hn,rfl⟩,by show _≤w2.heap.size;rw[hs.size];exact aw _,hs.os,hs.tape,hs.output,fun b _ _ hS=>hs.same b (Classical.not_not.1 hS),fun b hb=>hb,fun b _ hb => .inl hb,fun n r hn h0 _ hk=>hk n r hn h0 rfl⟩ (fun b hS hk=>hS (.inr (.inl hk))) (fun b hS ho=>hS (.inl (C2.lt _ _ hc b ho)))
 have done:(A65 p'.1=false∧∃ L1 κ,Vw C2.n1 st' ⟨[],L1⟩ κ∧K p' L1)→LeavesInM aY 0 P fn a'.tmps (fun e w'=>∃ g' p L',g'.w=w'∧P6 g'∧g'.M=ofL L'∧LeA C2.A C2.n1 g g'∧C2.ok p g'∧A65 p.1=false∧(∃ v,e = .returned v)∧K p L') a'.defers .returning g'.w:=by
  rintro⟨hp,L',κ,h7,h8⟩;rw[k2.df];refine B5H (by intro h;cases h) 0 df' g'.w k3.nd (db:=g.w.heap.size) (K:=g'.K) k3.all fun w2 hs2=>?_;obtain⟨q1,q2,q3⟩:=later w2 hs2;obtain⟨g2,e1,e2,e3⟩:=h7.see q1;exact⟨.tuple #[],by simp[results,hres],g2,p',L',e1,e3.good,e3.M,q2.trans (e2.toA _),C2.stepN q3 q1.good e2,hp,⟨_,rfl⟩,h8⟩
 cases sx with
 | norm=>cases ex<;>first | exact k4.elim | exact done k5
 | ret=>cases ex<;>first | exact k4.elim | exact done k5
 | exit i=>exact k5.elim
 | pan t=>exact k5.elim
theorem B2u {x:aa} {ps:Array Tmp} {asg body:Code} {f:bm} {ca:List T} {ts:LT} {L:LR} (he:Ent P f) (hx:O9 ts x = .fn (.func f) [] ca) (hsc:scS ts L.length=true) (hn:bL C.n1 L.length=true)
  (h:∀ lb r,B80 P (C.nest ⟨lb,ps,asg,body,N,ts,L.length⟩ r L.length (bg hn) (aw _)) f (.d (.v (.func (.yield lb) #[] #[]))::ca) L (.norm,ph) fun p L'=>Q p.2 p.1 ⟨ts,L'⟩):SWN P C N (.rangeFunc x ps asg body) Q ph ⟨ts,L⟩:=by
 intro nn db g a df hc hR hdf ho;have hn':=bg hn;have hv:=A4G hR.ts x;dsimp only at hv;rw[hx]at hv;obtain⟨cs,ds,hcl,hfi,hca⟩:=A8P hv (.inr rfl);have hcs:cs=#[]:=by have:=hfi.1;simp at this;exact Array.size_eq_zero_iff.1 this.symm
 subst hcs;refine wpIn_rangeFunc fun fn _=>?_;obtain⟨X,hX⟩:∃ X:JX,X=⟨g.w.heap.size+1,ps,asg,body,N,ts,L.length⟩:=⟨_,rfl⟩;obtain⟨r,hr⟩:∃ r:JR,r=⟨fn,a.tmps,g.w.heap.size⟩:=⟨_,rfl⟩;obtain⟨W1,hW1⟩:∃ W1,(g.w.alloc (.deferred (some []))).alloc (.loop (X.lp r .ready none))=W1:=⟨_,rfl⟩;have hsz:W1.heap.size=g.w.heap.size+2:=by rw[← hW1];simp
 have hL1:W1.heap[g.w.heap.size+1]?=some (.loop (X.lp r .ready none)):=by
  rw[← hW1];have:=World.alloc_heap_new (g.w.alloc (.deferred (some []))) (.loop (X.lp r .ready none));rwa [World.size_alloc]at this
 have hK1:W1.heap[g.w.heap.size]?=some (.deferred (some [])):=by
  rw[← hW1];exact(Go.RowKit.Below.heap_alloc _ _ _ sM).trans (World.alloc_heap_new g.w _)
 have hlow1:∀ b,b<g.w.heap.size→W1.heap[b]?=g.w.heap[b]?:=fun b hb=>by
  rw[← hW1];exact(Go.RowKit.Below.heap_alloc _ _ _ (by simp;omega)).trans (Go.RowKit.Below.heap_alloc _ _ _ hb)
 obtain⟨g1,hg1⟩:∃ g1:G,g1=⟨g.M,g.β,g.K,W1⟩:=⟨_,rfl⟩;have hKlt:∀ b,g.K b→b<g.w.heap.size:=hR.good.kd;have hk1:∀ b,g.K b→g1.K b∧g1.w.heap[b]?=g.w.heap[b]?:=fun b hb=>by rw[hg1];exact⟨hb,hlow1 b (hKlt b hb)⟩
 have he1:∀ n,g.M n≠none→g1.M n≠none∧g1.β n=g.β n:=fun n hn=>by rw[hg1];exact⟨hn,rfl⟩
 have hgood1:P6 g1:=by
  refine⟨fun n r hn=>?_,fun n m r q=>?_,fun b hb=>?_,fun b hb=>?_⟩
  ·have hn':g.M n=some (some r):=by rw[hg1]at hn;exact hn
   exact(hR.good.rows n r hn').turn hk1 he1 (by rw[hg1]) (fun h0=>by rw[hg1];exact hlow1 _ ((hR.good.rows n r hn').lt h0))
  ·rw[hg1];exact hR.good.inj n m r q
  ·rw[hg1]at hb ⊢;have:=hKlt b hb;show b<W1.heap.size;omega
  ·rw[hg1]at hb ⊢;exact hR.good.kl b hb
 have hle1:LeN L.length g g1:=by
  rw[hg1];exact⟨fun n _ hn=>⟨hn,rfl⟩,by show _≤W1.heap.size;omega,by rw[← hW1];rfl,by rw[← hW1];rfl,by rw[← hW1];rfl,fun b hb _=>hlow1 b hb,fun b hb=>hb,fun b _ hb => .inl hb,fun n r hn h0 _ hh=>hh n r hn h0 rfl⟩
 have hbl:∀ b,¬ g.K (g.w.heap.size+b):=fun b h=>by have:=hKlt _ h;omega
 have hj1:JOk X r .norm g1:=by
  refine⟨by rw[hg1,hX];rw[hX]at hL1;exact hL1,by rw[hg1,hr];exact hK1,by rw[hg1,hX];exact hbl 1,by rw[hg1,hr];exact hbl 0,by rw[hr,hX];exact hR.size,fun i=>?_,fun i=>?_⟩
  ·rw[hX,hr];exact(hR.ts i).turn hk1 he1
  ·rw[hX];exact B5Y hsc i
 have hw1:g1.w=W1:=by rw[hg1]
 have hvs:VTs g1 (.d (.v (.func (.yield (g.w.heap.size+1)) #[] #[]))::ca) (.func (.yield (g.w.heap.size+1)) #[] #[]::ds.toList) := .cons (.d (.v _ rfl)) ⟨hca.1,fun i t c h1 h2=>(hca.2 i t c h1 h2).turn hk1 he1⟩;have hsz0:∀ b,C.own b→b<g.w.heap.size:=fun b hb=>bq (ho b hb) hdf.sz;have hnn:∀ b,¬ C.own (g.w.heap.size+b):=fun b hb=>by have:=hsz0 _ hb;omega
 have hXn:X.n1≤L.length:=by rw[hX];exact aw _
 have hok1:(C.nest X r L.length hn' hXn).ok (.norm,ph) g1:=⟨C.stepN hc hR.good (hle1.lessN hn'),hj1,by rw[hX];exact hnn 1,by rw[hr];exact hnn 0⟩;have hcall:=(show B80 P (C.nest X r L.length hn' hXn) f (.d (.v (.func (.yield X.l) #[] #[]))::ca) L (.norm,ph) fun p L'=>Q p.2 p.1 ⟨ts,L'⟩ by subst hX;exact h _ r) g1 _ hok1 hgood1 (by rw[hg1];exact hR.M) (by rw[hX];exact hvs);rw[hw1]at hcall;refine⟨g.w.heap.size+1,[{ target := .collected g.w.heap.size,args:=#[] }],W1,{ target := .fn (.func f) ds,args:=#[.func (.yield (g.w.heap.size+1)) #[] #[]] },W1,f,
  #[.func (.yield (g.w.heap.size+1)) #[] #[]]++ds,W1,?_,?_,fun _ _=>trivial,?_,(fun h=>by cases h),?_⟩
 ·rw[← hW1,hX,hr];exact run_enterLoop_outer _ _ _ _ _
 ·simp only[resolve,hcl];simp[go_sem]
 ·simp[invoke,go_sem,he _ _]
 ·have e:(Value.func (.yield (g.w.heap.size+1)) #[] #[]::ds.toList).toArray=#[.func (.yield (g.w.heap.size+1)) #[] #[]]++ds:=by apply cS;simp
  rw[e]at hcall;refine((callsIn_wide (n:=nn-1)).2 (callsIn_wide.1 hcall)).mono ?_;rintro e W2 ⟨gx,⟨ph1,φ1⟩,L',rfl,e2,e1,e3,⟨e4c,e4,_,_⟩,hp,⟨v,rfl⟩,hQ⟩;have hXl:X.l=g.w.heap.size+1:=by rw[hX]
  have hrD:r.D=g.w.heap.size:=by rw[hr]
  have hlrec:=e4.lrec;have hmark:=e4.mark;have hkl:=e4.kl;have hkD:=e4.kD;rw[hXl]at hlrec hkl;rw[hrD]at hmark hkD;have e4c:C.ok φ1 gx:=e4c;have hle3:LeA (fun b=>C.A b∨b=g.w.heap.size+1) L.length g1 gx:=hXl▸e3;have hp:A65 ph1=false:=hp;obtain⟨u1,u2,u3⟩:=A6D e2 (A3l e2 hlrec) hkl (.loop { X.lp r (A5v ph1) (A3p ph1)with state := .exhausted }) L.length;have hrun:=run_endLoop (P:=P) hlrec (by cases ph1<;>simp[A5v,JX.lp,A65]at hp ⊢);obtain⟨g',hg'⟩:∃ g':G,g'=⟨gx.M,gx.β,gx.K,gx.w.putObj (g.w.heap.size+1) (.loop { X.lp r (A5v ph1) (A3p ph1)with state := .exhausted })⟩:=⟨_,rfl⟩;rw[← hg']at u1 u2;have hok':C.ok φ1 g':=C.step (·=g.w.heap.size+1) φ1 gx g' e4c e2 (u2.toA.less hn') (fun b hb hk=>hkl (hb▸hk)) (fun b hb hx=>hnn 1 (hb▸hx));have hleF:LeA C.A L.length g g':=(((hle1.toA (fun b=>C.A b∨b=g.w.heap.size+1)).trans hle3).trans (u2.toA.grow fun b hb => .inr hb)).drop fun b hb h=>h.elim id fun h=>by omega
  have hA:∀ b,C.A b→¬ g.K b:=fun b hb=>C.nk _ _ hc b (C.sub b hb);have hSt:StR g' N ⟨ts,L'⟩ { a with defers:=[{ target := .collected g.w.heap.size,args:=#[] }]++a.defers } ({ target := .collected g.w.heap.size,args:=#[] }::df) :=
   ⟨u1,by rw[hg'];exact e1,hR.size,fun i=>(hR.ts i).turn (fun b hb=>⟨hleF.k b hb,hleF.fr b (hKlt b hb) (hR.good.kl b hb) fun hx=>hA b hx hb⟩) (fun n hn=>hleF.e n (by rw[hR.M]at hn;simpa only[ofL,ne_eq,aQ,cD]using hn) hn),by simp[hR.df]⟩
  have hDf:A72 db g' ({ target := .collected g.w.heap.size,args:=#[] }::df):=by
   have hd2:=hdf.stepA hR.good hleF fun b hb=>ho b (C.sub b hb);refine⟨List.nodup_cons.2 ⟨fun hm=>?_,hd2.nd⟩,hd2.sz,fun d hd=>?_⟩
   ·obtain⟨D,d1,_,d3,_⟩:=hdf.all _ hm;injection d1 with d1
    injection d1 with d1
    subst d1;have:=(gA d3).1;omega
   ·rcases List.mem_cons.1 hd with rfl | hd
    ·exact⟨g.w.heap.size,rfl,hdf.sz,by rw[hg'];exact(World.putObj_heap_other oM).trans hmark,by rw[hg'];exact hkD⟩
    ·exact hd2.all d hd
  have hrun':(Instr.endLoop (g.w.heap.size+1)).run P gx.w = .ok (A3p ph1) g'.w:=by rw[hg',hrun];rfl
  have hleC:=hleF.less hn';cases ph1 with
  | norm=>exact⟨none,g'.w,hrun',g',φ1,.norm,_,_,rfl,hleC,hSt,hDf,hok',trivial,hQ⟩
  | ret=>exact⟨some .ret,g'.w,hrun',wpIn_ret ⟨g',φ1,.ret,_,_,rfl,hleC,hSt,hDf,hok',trivial,hQ⟩⟩
  | exit i=>exact⟨some (.exit i),g'.w,hrun',wpIn_exit ⟨g',φ1,.exit i,_,_,rfl,hleC,hSt,hDf,hok',rfl,hQ⟩⟩
  | pan t=>cases hp
end
theorem A6v.map {nn:Nat} {α:Type} {w:List α} {kf:α→Value} {vf:α→D} {l l':List Rw} (q:A6v nn l l'):A6v nn (⟨0,w.map fun p => .agg [.d (.v (kf p)),.d (vf p)]⟩::l) (⟨0,w.map fun p => .agg [.d (.v (kf p)),.d (vf p)]⟩::l'):=by
 refine .cons ?_ q;have h:=RnO.eq (σ:=fun n=>nn+n) (.map (w:=w) (kf:=kf) (vf:=vf) .nil);simp only[bw,List.map_nil,Option.map_some,List.cons.injEq,aK,and_true]at h;exact h
inductive B4K:LR→LR→Prop where
 | nil (l:LR):B4K [] l
 | keep {x:Option Rw} {l l':LR} (h:B4K l l'):B4K (x::l) (x::l')
 | drop {x:Option Rw} {l l':LR} (h:B4K l l'):B4K (none::l) (x::l')
theorem B4K.get {l l':LR} (h:B4K l l'):∀ (n:Nat) (r:Rw),l[n]?=some (some r)→l'[n]?=some (some r):=by
 induction h with
 | nil=>intro n r h;simp at h
 | keep _ ih=>intro n r h;cases n with
  | zero=>simpa using h
  | succ n=>simpa using ih n r (by simpa using h)
 | drop _ ih=>intro n r h;cases n with
  | zero=>simp at h
  | succ n=>simpa using ih n r (by simpa using h)
inductive A8p:D→D→Prop where
 | same (x:D):A8p x x
 | nil (s:Nat):A8p (.v (.slice none 0 0)) (.arr s [])
 | agg0:A8p (.agg []) (.agg [])
 | aggc {x x':D} {l l':List D} (h:A8p x x') (q:A8p (.agg l) (.agg l')):A8p (.agg (x::l)) (.agg (x'::l'))
theorem A8p.val {g:G} {d d':D} (h:A8p d d'):∀ c,VD g d c→VD g d' c:=by
 induction h with
 | same=>exact fun _ h=>h
 | nil s =>
  intro c hv;cases hv with | v x h=>exact .arr0 s none 0
 | agg0=>exact fun _ h=>h
 | aggc h q ih iq =>
  intro c hv;cases hv with | agg l0 cs hl hc =>
  have hsz:cs.toList.length≠0:=by intro e;simp at e;subst e;simp at hl
  obtain⟨y,ys,hys⟩:∃ y ys,cs=(y::ys).toArray:=by
   obtain⟨l2⟩:=cs;cases l2 with
   | nil=>simp at hsz
   | cons y ys=>exact⟨y,ys,rfl⟩
  subst hys;have h2:=iq (.agg ys.toArray) (.agg _ _ (by simpa using hl) fun i d c h1 h2=>hc (i+1) d c (by simpa using h1) (by simpa using h2));cases h2 with | agg l3 cs3 hl3 hc3 =>
  refine .agg _ _ (by simpa using hl3) fun i d c h1 h2=>?_;cases i with
  | zero =>
   simp only[cq,aK]at h1;subst h1;simp only[List.getElem?_toArray,cq,aK]at h2;subst h2;exact ih _ (hc 0 _ _ rfl rfl)
  | succ i=>exact hc3 i d c (by simpa using h1) (by simpa using h2)
inductive B08:List D→List D→Prop where
 | nil:B08 [] []
 | cons {x y:D} {l l':List D} (h:A8p x y) (q:B08 l l'):B08 (x::l) (y::l')
theorem B08.get {l l':List D} (h:B08 l l'):l.length=l'.length∧∀ (i:Nat) (y:D),l'[i]?=some y→∃ x,l[i]?=some x∧A8p x y:=by
 induction h with
 | nil=>exact⟨rfl,fun i y h=>by simp at h⟩
 | cons h _ ih =>
  refine⟨by simp[ih.1],fun i y hy=>?_⟩;cases i with
  | zero=>simp only[cq,aK]at hy;subst hy;exact⟨_,rfl,h⟩
  | succ i=>simpa using ih.2 i y (by simpa using hy)
section
variable {P:ah} {n0 N:Nat} {Q:SX→St→Prop} {st:St}
end
section
variable {P:ah} {N:Nat} {ops:Array Oper} {l:List Oper} {ts:LT} {L:LR} {tr:List Stp} {K:List Oper→List Stp→St→Prop} {d:Nat} {ty:ab} {pos:String} {af:Array Edge} {gd:Option (Nat × Bool)}
end
section
variable {P:ah} {N:Nat} {ops:Array Oper} {l:List Oper} {ts:LT} {L:LR} {tr:List Stp} {K:List Oper→List Stp→St→Prop} {d:Nat} {ty:ab} {pos:String} {af:Array Edge} {gd:Option (Nat × Bool)}
theorem N8 {t e:ab} {i ei:TI} {x y:aa} {s:Nat} {w:List D} {k:IntKind} {q:Int} (tb:Tab P) (h0:0≤q) (h1:q<w.length) (hh:(tb.f t,i.sl,tb.f e,O9 ts x,ei.size,O9 ts y,I2 ops ts ⟨some d,.indexAddr t x y,ty,pos,af,gd⟩,aq d N)=(some i,some e,some ei,.d (.arr s w),s,.d (.v (.int k q)),some true,true)) (kk:L3 P N ops l ⟨(d,.d (.el s w q.toNat 0))::ts,L⟩ (tr++[.run (ao be ([]:List (Nat × Rw))) []]) K):L3 P N ops (⟨some d,.indexAddr t x y,ty,pos,af,gd⟩::l) ⟨ts,L⟩ tr K :=
 C0E tb (congrArg (fun p=>p.1) hh) (congrArg (fun p=>p.2.1) hh) (congrArg (fun p=>p.2.2.1) hh) (congrArg (fun p=>p.2.2.2.1) hh) (congrArg (fun p=>p.2.2.2.2.1) hh) (congrArg (fun p=>p.2.2.2.2.2.1) hh) h0 h1 (congrArg (fun p=>p.2.2.2.2.2.2.1) hh) (congrArg (fun p=>p.2.2.2.2.2.2.2) hh) kk
theorem I4 {t:ab} {i:TI} {x:aa} {s q c:Nat} {w:List D} {e y:D} (tb:Tab P) (he:w[q]?=some e) (hh:(tb.f t,O9 ts x,A2S i e.cells.length c,A29 i (e.cells.map .d) c,I2 ops ts ⟨some d,.load t x,ty,pos,af,gd⟩,aq d N)=(some i,.d (.el s w q c),true,.d y,some true,true)) (kk:L3 P N ops l ⟨(d,.d y)::ts,L⟩ (tr++[.run (ao be ([]:List (Nat × Rw))) []]) K):L3 P N ops (⟨some d,.load t x,ty,pos,af,gd⟩::l) ⟨ts,L⟩ tr K :=
 C0G tb (congrArg (fun p=>p.1) hh) (congrArg (fun p=>p.2.1) hh) he (congrArg (fun p=>p.2.2.1) hh) (congrArg (fun p=>p.2.2.2.1) hh) (congrArg (fun p=>p.2.2.2.2.1) hh) (congrArg (fun p=>p.2.2.2.2.2) hh) kk
theorem I7 {α:Type} {t e:ab} {i:TI} {x:aa} {s:Nat} {w:List α} {g:α→D} (tb:Tab P) (hh:(tb.f t,i.sl,O9 ts x,I2 ops ts ⟨some d,.call { callee := .builtin .len,args:=#[x],argTypes:=#[t] },ty,pos,af,gd⟩,aq d N)=(some i,some e,.d (.arr s (w.map g)),some true,true)) (kk:L3 P N ops l ⟨(d,.d (.v (.int .i64 (w.length:Nat))))::ts,L⟩ (tr++[.run (ao be ([]:List (Nat × Rw))) []]) K):L3 P N ops (⟨some d,.call { callee := .builtin .len,args:=#[x],argTypes:=#[t] },ty,pos,af,gd⟩::l) ⟨ts,L⟩ tr K :=
 B9X tb (congrArg (fun p=>p.1) hh) (congrArg (fun p=>p.2.1) hh) (congrArg (fun p=>p.2.2.1) hh) (congrArg (fun p=>p.2.2.2.1) hh) (congrArg (fun p=>p.2.2.2.2) hh) kk
theorem B8r {κ:List Nat}:∀ {ts':LT},(ts'.map fun p=>W8 ts p.1)=(ts'.map fun p=>p.2.ren (kap κ))→(ts'.all fun p=>p.2.sc κ.length)=true→TsK ts κ ts'
 | [],_,_ => .nil
 | (i,t)::r,h,c=>by
  rw[bw,bw]at h;rw[List.all_cons,aF]at c;exact .cons (eV h).1 c.1 (B8r (eV h).2 c.2)
theorem vK {n0:Nat} {ts ts':LT} {L L':LR} {κ:List Nat} (hr:RwK L κ L' κ) (hh:(ndK κ,B33 n0 κ,(ts'.map fun p=>W8 ts p.1),ts'.all fun p=>p.2.sc κ.length)=(true,true,(ts'.map fun p=>p.2.ren (kap κ)),true)):Vw n0 ⟨ts,L⟩ ⟨ts',L'⟩ κ :=
 vwK (congrArg (fun p=>p.1) hh) (congrArg (fun p=>p.2.1) hh) hr (B8r (congrArg (fun p=>p.2.2.1) hh) (congrArg (fun p=>p.2.2.2) hh))
theorem v0 {n0:Nat} {ts ts':LT} {L:LR} (hh:(ndK [],B33 n0 [],(ts'.map fun p=>W8 ts p.1),ts'.all fun p=>p.2.sc 0)=(true,true,(ts'.map fun p=>p.2.ren (kap [])),true)):Vw n0 ⟨ts,L⟩ ⟨ts',[]⟩ []:=vK .nil hh
theorem f1 {P:ah} {fn:Func} {n0:Nat} {st:St} {y:T} (k:Nat) (hh:(aJ n0 0,fn.results.toList,y.sc 0,W8 st.ts k)=(true,[.tmp k],true,y.ren (kap []))):Fin P fn n0 (fun se L'=>se = .ret y∧L'=[]) .ret st:=by
 have h0:aJ n0 0=true:=congrArg (fun p=>p.1) hh;obtain rfl:=aA h0;exact U0 (t:=y) (L:=[]) (κ:=[]) (congrArg (fun p=>p.2.1) hh) (.cons (.tmp k) .nil) (vwK rfl rfl .nil (.cons (congrArg (fun p=>p.2.2.2) hh) (congrArg (fun p=>p.2.2.1) hh) .nil)) ⟨rfl,rfl⟩
theorem f2 {P:ah} {fn:Func} {n0:Nat} {st:St} {y:T} {Lf:LR} {rs:List ResultVar} {us:List T} (κ:List Nat) (hr:RwK st.L κ Lf κ) (hs:fn.results.toList=rs) (h:A8t P st rs us) (hh:(ndK κ,B33 n0 κ,B51 us,y.sc κ.length)=(true,true,y.ren (kap κ),true)):Fin P fn n0 (fun se L'=>se = .ret y∧L'=Lf) .ret st :=
 U0 (t:=y) (L:=Lf) (κ:=κ) hs h (vwK (congrArg (fun p=>p.1) hh) (congrArg (fun p=>p.2.1) hh) hr (.cons (congrArg (fun p=>p.2.2.1) hh) (congrArg (fun p=>p.2.2.2) hh) .nil)) ⟨rfl,rfl⟩
theorem rc {P:ah} {st:St} {a:Nat} {t:ab} {i:TI} {n s k c:Nat} {r:Rw} {e:T} (tb:Tab P) (hh:(tb.f t,W8 st.ts a,st.L[n]?,r.s,r.els[k]?,A2S i e.cells.length c)=(some i,.ref n s k c,some (some r),s,some e,true)):B7g P st (.cell a t) (A29 i e.cells c) :=
 A6F tb (congrArg (fun p=>p.1) hh) (congrArg (fun p=>p.2.1) hh) (congrArg (fun p=>p.2.2.1) hh) (congrArg (fun p=>p.2.2.2.1) hh) (congrArg (fun p=>p.2.2.2.2.1) hh) (congrArg (fun p=>p.2.2.2.2.2) hh) rfl
end
def nF {α β:Type}:List α→(List α→Option β)→Option β
 | [],k=>k []
 | a::l,k=>nF l fun l'=>k (a::l')
theorem D01 {α β:Type}:∀ (l:List α) (k:List α→Option β),nF l k=k l
 | [],_=>rfl
 | a::l,k=>D01 l _
def fT {β:Type} (v:T) (k:T→Option β):Option β:=match v with
 | .d x=>k (.d x)
 | .bot=>k .bot
 | .ref n s i o=>k (.ref n s i o)
 | .row n s lo len=>k (.row n s lo len)
 | .agg l=>nF l fun l=>k (.agg l)
 | .tup l=>nF l fun l=>k (.tup l)
 | .fn f a b=>k (.fn f a b)
 | .iface t x=>k (.iface t x)
 | .mp n=>k (.mp n)
theorem D26 {β:Type} (v:T) (k:T→Option β):fT v k=k v:=by
 cases v<;>first | rfl | exact D01 _ _
section
variable {P:ah}
def D3X (tb:Tab P) (ts:LT) (L:LR):Op→Option (T × LR × Stp)
 | .move x=>fT (O9 ts x) fun v=>some (v,L,.run [] [])
 | .assign x=>fT (O9 ts x) fun v=>some (v,L,.run [] [])
 | .pick c x y=>match O9 ts c with
  | .d (.v (.bool b))=>fT (bif b then O9 ts x else O9 ts y) fun v=>some (v,L,.run [] [])
  | _=>none
 | .fieldAddr t x f=>match tb.f t with
  | some i=>match i.fs[f]? with
   | some (c',_,m)=>bif aJ m 0 then none else match O9 ts x with
    | .ref n s q c=>match A4f.drop (c+c')with
     | o2::_=>some (.ref n s q o2,L,.run [] [])
     | []=>none
    | .d (.el s w q c)=>match A4f.drop (c+c')with
     | o2::_=>some (.d (.el s w q o2),L,.run [] [])
     | []=>none
    | _=>none
   | none=>none
  | none=>none
 | .load t x=>match tb.f t with
  | some i=>match O9 ts x with
   | .ref n s q c=>match L[n]? with
    | some (some ⟨s0,els⟩)=>match els[q]? with
     | some e=>bif aJ s0 s&&A2S i e.cells.length c then(fT (A29 i e.cells c) fun v=>some (v,L,.run [n] []))else none
     | none=>none
    | _=>none
   | _=>none
  | none=>none
 | .binOp .add _ x y _=>match O9 ts x with
  | .d (.v (.int k a))=>match O9 ts y with
   | .d (.v (.int k2 b))=>bif decide (k=k2)then some (.d (.v (.int k (k.wrap (a+b)))),L,.run [] [])else none
   | _=>none
  | _=>none
 | .binOp .sub _ x y _=>match O9 ts x with
  | .d (.v (.int k a))=>match O9 ts y with
   | .d (.v (.int k2 b))=>bif decide (k=k2)then some (.d (.v (.int k (k.wrap (a-b)))),L,.run [] [])else none
   | _=>none
  | _=>none
 | .binOp .mul _ x y _=>match O9 ts x with
  | .d (.v (.int k a))=>match O9 ts y with
   | .d (.v (.int k2 b))=>bif decide (k=k2)then some (.d (.v (.int k (k.wrap (a*b)))),L,.run [] [])else none
   | _=>none
  | _=>none
 | .unOp .not _ x=>match O9 ts x with
  | .d (.v (.bool b))=>some (.d (.v (.bool !b)),L,.run [] [])
  | _=>none
 | .nilCheck x=>match O9 ts x with
  | .ref n s i c=>some (.ref n s i c,L,.run [] [])
  | .d (.el s q i c)=>some (.d (.el s q i c),L,.run [] [])
  | _=>none
 | .extract x k=>match O9 ts x with
  | .tup q=>match q[k]? with
   | some t=>fT t fun v=>some (v,L,.run [] [])
   | none=>none
  | .d (.tup q)=>match q[k]? with
   | some t=>some (.d t,L,.run [] [])
   | none=>none
  | _=>none
 | .alloc t=>match tb.f t with
  | some ⟨_,s,_,z0,_,_,_,_⟩=>bif aJ s 0 then none else match A4f.drop L.length with
   | n::_=>nF (L++[some ⟨s,[z0]⟩]) fun L'=>some (.ref n s 0 0,L',.run [n] [n])
   | []=>none
  | none=>none
 | .box _ x=>bif A4y (O9 ts x).cells then(match A4f.drop (O9 ts x).cells.length with
  | s::_=>bif aJ s 0 then none else match A4f.drop L.length with
   | n::_=>fT (O9 ts x) fun u=>nF (L++[some ⟨s,[u]⟩]) fun L'=>some (.ref n s 0 0,L',.run [n] [n])
   | []=>none
  | []=>none)else none
 | _=>none
def D3W (tb:Tab P) (ts:LT) (L:LR):Op→Option (LR × Stp)
 | .store t x y=>match tb.f t with
  | some i=>match O9 ts x with
   | .ref n s q c=>match L[n]? with
    | some (some ⟨s0,els⟩)=>match els[q]? with
     | some e=>bif aJ s0 s&&(aJ (O9 ts y).cells.length i.size&&(A4y (O9 ts y).cells&&bL (c+i.size) e.cells.length))then(fT (A9t e c (O9 ts y)) fun v=>nF (els.set q v) fun els'=>nF (L.set n (some ⟨s0,els'⟩)) fun L'=>some (L',.run [n] [n]))else none
     | none=>none
    | _=>none
   | _=>none
  | none=>none
 | _=>none
def D4k (tb:Tab P) (N:Nat) (ops:Array Oper) (o:Oper) (ts:LT) (L:LR):Option (St × Stp):=match I2 ops ts o with
 | some false=>match o.dst with
  | some d=>bif aq d N then some (⟨(d,.d (.tup []))::ts,L⟩,.skip)else none
  | none=>some (⟨ts,L⟩,.skip)
 | some true=>match o.dst with
  | some d=>bif aq d N then(match D3X tb ts L o.op with
   | some (v,L',s)=>some (⟨(d,v)::ts,L'⟩,s)
   | none=>none)else none
  | none=>match D3W tb ts L o.op with
   | some (L',s)=>some (⟨ts,L'⟩,s)
   | none=>none
 | none=>none
def rvN (tb:Tab P) (N:Nat) (ops:Array Oper):Nat→List Oper→St→List Stp→Option (List Oper × St × List Stp)
 | 0,l,st,tr=>some (l,st,tr)
 | n+1,o::l,⟨ts,L⟩,tr=>match D4k tb N ops o ts L with
  | some (st',s)=>rvN tb N ops n l st' (tr++[s])
  | none=>none
 | _+1,[],_,_=>none
theorem ldT {tb:Tab P} {N:Nat} {ops:Array Oper} {l:List Oper} {ts:LT} {L:LR} {tr:List Stp} {K:List Oper→List Stp→St→Prop} {d:Nat} {ty:ab} {pos:String} {af:Array Edge} {gd:Option (Nat × Bool)} {op:Op} {v:T} {L':LR} {s:Stp} (hv:D3X tb ts L op=some (v,L',s)) (hw:I2 ops ts ⟨some d,op,ty,pos,af,gd⟩=some true) (hd:aq d N=true)
  (k:L3 P N ops l ⟨(d,v)::ts,L'⟩ (tr++[s]) K):L3 P N ops (⟨some d,op,ty,pos,af,gd⟩::l) ⟨ts,L⟩ tr K:=by
 unfold D3X at hv;simp only[D26,D01]at hv;split at hv
 ·cases hv;exact A1D _ rfl hw hd k
 ·cases hv;exact K0 (ins:=[(_,O9 ts _)]) rfl (A6p (.inr rfl)) hw (by simp[Op.operands]) sM hd k
 ·split at hv
  ·rename_i hc;cases hv;exact D3U hc rfl rfl hw hd k
  ·cases hv
 ·split at hv
  ·rename_i i ht;split at hv
   ·rename_i hf;rw[cond_eq_ite]at hv;split at hv
    ·cases hv
    ·rename_i hm;rw[ce]at hm;split at hv
     ·rename_i hx;split at hv
      ·rename_i hn;cases hv;exact C1b tb ht hx hf hm hn hw hd k
      ·cases hv
     ·rename_i hx;split at hv
      ·rename_i hn;cases hv;exact C0C tb ht hx hf hm hn hw hd k
      ·cases hv
     ·cases hv
   ·cases hv
  ·cases hv
 ·split at hv
  ·rename_i i ht;split at hv
   ·rename_i hx;split at hv
    ·rename_i hr;split at hv
     ·rename_i he;rw[cond_eq_ite]at hv;split at hv
      ·rename_i hc;rw[aF]at hc;have hs:=aA hc.1;have hp:=hc.2;cases hv;exact B9z _ tb ht hx hr hs he hp rfl hw hd k
      ·cases hv
     ·cases hv
    ·cases hv
   ·cases hv
  ·cases hv
 ·split at hv
  ·rename_i hx;split at hv
   ·rename_i hy;rw[cond_eq_ite]at hv;split at hv
    ·rename_i hc;have hc:=of_decide_eq_true hc;subst hc;cases hv;exact C08 hx hy hw hd k
    ·cases hv
   ·cases hv
  ·cases hv
 ·split at hv
  ·rename_i hx;split at hv
   ·rename_i hy;rw[cond_eq_ite]at hv;split at hv
    ·rename_i hc;have hc:=of_decide_eq_true hc;subst hc;cases hv;exact A1n hx hy hw hd k
    ·cases hv
   ·cases hv
  ·cases hv
 ·split at hv
  ·rename_i hx;split at hv
   ·rename_i hy;rw[cond_eq_ite]at hv;split at hv
    ·rename_i hc;have hc:=of_decide_eq_true hc;subst hc;cases hv;exact A5Q hx hy hw hd k
    ·cases hv
   ·cases hv
  ·cases hv
 ·split at hv
  ·rename_i hx;cases hv;exact A5R hx hw hd k
  ·cases hv
 ·split at hv
  ·rename_i hx;cases hv;exact F1 hx hw hd k
  ·rename_i hx;cases hv;exact S2 hx hw hd k
  ·cases hv
 ·split at hv
  ·rename_i hx;split at hv
   ·rename_i hk;cases hv;exact A1B hx hk hw hd k
   ·cases hv
  ·rename_i hx;split at hv
   ·rename_i hk;cases hv;exact Q1 hx hk hw hd k
   ·cases hv
  ·cases hv
 ·split at hv
  ·rename_i ht;rw[cond_eq_ite]at hv;split at hv
   ·cases hv
   ·rename_i hm;rw[ce]at hm;split at hv
    ·rename_i hn;cases hv;exact M5 tb ht hm hn hw hd k
    ·cases hv
  ·cases hv
 ·rw[cond_eq_ite]at hv;split at hv
  ·rename_i hu;split at hv
   ·rename_i hs;rw[cond_eq_ite]at hv;split at hv
    ·cases hv
    ·rename_i hm;rw[ce]at hm;split at hv
     ·rename_i hn;cases hv;exact C09 rfl hs hu hm hn hw hd k
     ·cases hv
   ·cases hv
  ·cases hv
 ·cases hv
theorem stT {tb:Tab P} {N:Nat} {ops:Array Oper} {l:List Oper} {ts:LT} {L:LR} {tr:List Stp} {K:List Oper→List Stp→St→Prop} {ty:ab} {pos:String} {af:Array Edge} {gd:Option (Nat × Bool)} {op:Op} {L':LR} {s:Stp} (hv:D3W tb ts L op=some (L',s)) (hw:I2 ops ts ⟨none,op,ty,pos,af,gd⟩=some true)
  (k:L3 P N ops l ⟨ts,L'⟩ (tr++[s]) K):L3 P N ops (⟨none,op,ty,pos,af,gd⟩::l) ⟨ts,L⟩ tr K:=by
 unfold D3W at hv;simp only[D26,D01]at hv;split at hv
 ·split at hv
  ·rename_i ht;split at hv
   ·rename_i hx;split at hv
    ·rename_i hr;split at hv
     ·rename_i he;rw[cond_eq_ite]at hv;split at hv
      ·rename_i hc;rw[aF,aF,aF]at hc;cases hv;exact C0M _ _ tb ht hx rfl hr (aA hc.1) he (aA hc.2.1) hc.2.2.1 hc.2.2.2 rfl rfl hw k
      ·cases hv
     ·cases hv
    ·cases hv
   ·cases hv
  ·cases hv
 ·cases hv
theorem D3r {tb:Tab P} {N:Nat} {ops:Array Oper} {K:List Oper→List Stp→St→Prop}:∀ (n:Nat) {l l':List Oper} {st st':St} {tr tr':List Stp},rvN tb N ops n l st tr=some (l',st',tr')→L3 P N ops l' st' tr' K→L3 P N ops l st tr K
 | 0,l,l',st,st',tr,tr',h,k=>by unfold rvN at h;cases h;exact k
 | n+1,[],l',st,st',tr,tr',h,k=>by unfold rvN at h;cases h
 | n+1,⟨dst,op,ty,pos,af,gd⟩::l,l',⟨ts,L⟩,st',tr,tr',h,k=>by
  unfold rvN at h;split at h
  ·rename_i st1 s h1;have k1:=D3r n h k;unfold D4k at h1;split at h1
   ·rename_i hw;split at h1
    ·rename_i d hd;dsimp only at hd;subst hd;rw[cond_eq_ite]at h1;split at h1
     ·rename_i hb;cases h1;exact B8d hw rfl hb k1
     ·cases h1
    ·rename_i hd;dsimp only at hd;subst hd;cases h1;exact D38 hw rfl k1
   ·rename_i hw;split at h1
    ·rename_i d hd;dsimp only at hd;subst hd;rw[cond_eq_ite]at h1;split at h1
     ·rename_i hb;split at h1
      ·rename_i hv;cases h1;exact ldT hv hw hb k1
      ·cases h1
     ·cases h1
    ·rename_i hd;dsimp only at hd;subst hd;split at h1
     ·rename_i hv;cases h1;exact stT hv hw k1
     ·cases h1
   ·cases h1
  ·cases h
def unS:LR→Option (List Rw)
 | []=>some []
 | some r::l=>match unS l with
  | some l'=>some (r::l')
  | none=>none
 | none::_=>none
theorem D3u:∀ {l:LR} {n:List Rw},unS l=some n→l=n.map some
 | [],n,h=>by unfold unS at h;cases h;rfl
 | some r::l,n,h=>by
  unfold unS at h;split at h
  ·rename_i h1;cases h;rw[D3u h1];rfl
  ·cases h
 | none::_,n,h=>by unfold unS at h;cases h
theorem cO {N:Nat} {ops:Array Oper} {l:List Oper} {ts:LT} {L:LR} {tr:List Stp} {K:List Oper→List Stp→St→Prop} {d:Nat} {ty:ab} {pos:String} {af:Array Edge} {gd:Option (Nat × Bool)} {x:aa} {xs:Array aa} {tys:Array ab} {f:bm} {t t':T} {as:List T} {Lf Lf' ls' L2:LR} {rs news:List Rw} {news':LR} (ρ:List Nat) (hc:SCR P f as Lf t Lf') (he:Ent P f)
  (hrow:RwO L ρ Lf ρ rs) (hn:unS (Lf'.drop ρ.length)=some news) {nn:Nat} {nr:List Nat} (hr1:RnO (ext ρ nn) (Lf'.take ρ.length) ls') (hr2:RnO (ext ρ nn) (news.map some) news')
  (hh:(A4f.drop L.length,O9 ts x,xs.toList.map (O9 ts),scL ρ.length as,ndK ρ,aJ (Lf'.take ρ.length).length ρ.length,fT (t.ren (ext ρ nn)) some,nF (A4m L (wnO ρ ls')++news') some,I2 ops ts ⟨some d,.call { callee := .value x,args:=xs,argTypes:=tys },ty,pos,af,gd⟩,aq d N)=(nn::nr,.d (.v (.func (.func f) #[] #[])),A5n (kap ρ) as,true,true,true,some t',some L2,some true,true))
  (k:L3 P N ops l ⟨(d,t')::ts,L2⟩ (tr++[.run (ρ++az nn news'.length) (ρ++az nn news'.length)]) K) :
  L3 P N ops (⟨some d,.call { callee := .value x,args:=xs,argTypes:=tys },ty,pos,af,gd⟩::l) ⟨ts,L⟩ tr K:=by
 injection hh with h1 hh
 injection hh with h2 hh
 injection hh with h3 hh
 injection hh with h4 hh
 injection hh with h5 hh
 injection hh with h6 hh
 injection hh with h7 hh
 injection hh with h8 hh
 injection hh with h9 hh
 rw[D26]at h7;rw[D01]at h8;exact G7 ρ L2 hc he h2 (.inl ⟨rfl,rfl,rfl⟩) h3 sM h4 h5 hrow (by rw[← D3u hn,List.take_append_drop]) (aA h6) h1 hr1 hr2 (dJ h7) (dJ h8) h9 hh k
theorem rn (tb:Tab P) {N:Nat} {ops:Array Oper} {K:List Oper→List Stp→St→Prop} (n:Nat) {l l':List Oper} {st st':St} {tr tr':List Stp} (h:rvN tb N ops n l st tr=some (l',st',tr')) (k:L3 P N ops l' st' tr' K):L3 P N ops l st tr K:=D3r n h k
end
section
def owL {α:Type} (f:α→Option α):Nat→List α→Option (List α)
 | 0,a::l=>match f a with
  | some b=>some (b::l)
  | none=>none
 | j+1,a::l=>match owL f j l with
  | some l'=>some (a::l')
  | none=>none
 | _,[]=>none
def owT (m s:Nat):List Nat→T→Option T
 | [],.d (.v (.slice none 0 0))=>some (.row m s 0 0)
 | j::p,.agg l=>match owL (owT m s p) j l with
  | some l'=>some (.agg l')
  | none=>none
 | j::p,.d (.agg l)=>nF (l.map T.d) fun l=>match owL (owT m s p) j l with
  | some l'=>some (.agg l')
  | none=>none
 | _,_=>none
def upR (f:T→Option T):Option Rw→Option (Option Rw)
 | some ⟨c,[e]⟩=>bif aJ c 0 then none else match f e with
  | some e'=>some (some ⟨c,[e']⟩)
  | none=>none
 | _=>none
def kpS (f:Nat→T→Option T) (ts:LT):List Nat→Option LT
 | []=>some []
 | i::ks=>match f i (W8 ts i)with
  | some v=>match kpS f ts ks with
   | some r=>some ((i,v)::r)
   | none=>none
  | none=>none
def owC (s:Nat) (b:Bool) (k:Nat) (p ks:List Nat) (ts:LT) (L:LR):Option St:=match A4f.drop L.length with
 | m::_=>bif aJ s 0 then none else match kpS (fun i t=>bif b&&aJ i k then owT m s p t else fT t some) ts ks with
  | some ts'=>match (bif b then some L else owL (upR (owT m s p)) k L)with
   | some L'=>nF (L'++[some ⟨s,[]⟩]) fun L2=>some ⟨ts',L2⟩
   | none=>none
  | none=>none
 | []=>none
theorem A8H.rf (m s:Nat):∀ l:List T,A8H m s l l
 | [] => .nil
 | a::l => .cons (.same a) (A8H.rf m s l)
theorem A92.rf (m s:Nat):∀ l:LR,A92 m s l l
 | [] => .nil
 | a::l => .same (A92.rf m s l)
theorem D3i {m s:Nat} {f:T→Option T} (hf:∀ a b,f a=some b→A6w m s a b):∀ (j:Nat) {l l':List T},owL f j l=some l'→A8H m s l l'
 | 0,a::l,l',h=>by
  unfold owL at h;split at h
  ·rename_i h1;cases h;exact .cons (hf _ _ h1) (.rf m s l)
  ·cases h
 | j+1,a::l,l',h=>by
  unfold owL at h;split at h
  ·rename_i h1;cases h;exact .cons (.same a) (D3i hf j h1)
  ·cases h
 | 0,[],_,h=>by unfold owL at h;cases h
 | _+1,[],_,h=>by unfold owL at h;cases h
theorem D3j {m s:Nat}:∀ (p:List Nat) {t t':T},owT m s p t=some t'→A6w m s t t':=fun p=>by
 induction p with
 | nil =>
  intro t t' h;unfold owT at h;split at h<;>first | contradiction | (cases h;exact .nil) | cases h
 | cons j p ih =>
  intro t t' h;unfold owT at h;split at h
  ·rename_i h1;cases h1
  ·rename_i h1;cases h1;split at h
   ·rename_i h2;cases h;exact .aggL (D3i (fun _ _=>ih) _ h2)
   ·cases h
  ·rename_i h1;cases h1;rw[D01]at h;split at h
   ·rename_i h2;cases h;exact .aggDL (D3i (fun _ _=>ih) _ h2)
   ·cases h
  ·cases h
theorem D3D {m s:Nat} {f:T→Option T} (hf:∀ a b,f a=some b→A6w m s a b):∀ (j:Nat) {l l':LR},owL (upR f) j l=some l'→A92 m s l l'
 | 0,a::l,l',h=>by
  unfold owL at h;split at h
  ·rename_i h1;cases h;unfold upR at h1;split at h1
   ·rename_i c e;rw[cond_eq_ite]at h1;split at h1
    ·cases h1
    ·rename_i hc;rw[ce]at hc;split at h1
     ·rename_i h2;cases h1;exact .cons hc (.cons (hf _ _ h2) .nil) (.rf m s l)
     ·cases h1
   ·cases h1
  ·cases h
 | j+1,a::l,l',h=>by
  unfold owL at h;split at h
  ·rename_i h1;cases h;exact .same (D3D hf j h1)
  ·cases h
 | 0,[],_,h=>by unfold owL at h;cases h
 | _+1,[],_,h=>by unfold owL at h;cases h
theorem D27 {m s:Nat} {f:Nat→T→Option T} {ts:LT} (hf:∀ i a b,f i a=some b→A6w m s a b):∀ {ks:List Nat} {r:LT},kpS f ts ks=some r→B21 m s ts r
 | [],r,h=>by unfold kpS at h;cases h;exact .nil
 | i::ks,r,h=>by
  unfold kpS at h;split at h
  ·rename_i h1;split at h
   ·rename_i h2;cases h;exact .cons (hf _ _ _ h1) (D27 hf h2)
   ·cases h
  ·cases h
theorem D3h {s:Nat} {b:Bool} {k:Nat} {p ks:List Nat} {ts:LT} {L:LR} {st:St} (h:owC s b k p ks ts L=some st):∃ m nr ts' L',A4f.drop L.length=m::nr∧aJ s 0=false∧B21 m s ts ts'∧A92 m s L L'∧st=⟨ts',L'++[some ⟨s,[]⟩]⟩:=by
 unfold owC at h;split at h
 ·rename_i m nr hm;rw[cond_eq_ite]at h;split at h
  ·cases h
  ·rename_i hs;rw[ce]at hs;split at h
   ·rename_i ts' ht;have hT:B21 m s ts ts':=D27 (fun i a c hc=>by
     cases hb:(b&&aJ i k)with
     | true=>rw[hb]at hc;exact D3j p hc
     | false=>rw[hb,cond_false,D26]at hc;cases hc;exact .same _) ht
    split at h
    ·rename_i L' hL;have hR:A92 m s L L':=by
      cases b with
      | true=>rw[cond_true]at hL;cases hL;exact .rf m s _
      | false=>rw[cond_false]at hL;exact D3D (fun _ _=>D3j p) k hL
     rw[D01]at h;cases h;exact⟨m,nr,ts',L',hm,hs,hT,hR,rfl⟩
    ·cases h
   ·cases h
 ·cases h
theorem A33.ow {n0 N:Nat} {ts:LT} {L:LR} {st st':St} (s:Nat) (b:Bool) (k:Nat) (p ks:List Nat) (h:owC s b k p ks ts L=some st) (x:A33 n0 N st st'):A33 n0 N ⟨ts,L⟩ st':=by
 obtain⟨m,nr,ts',L',h1,h2,h3,h4,rfl⟩:=D3h h;exact .own s h2 h1 h3 h4 x
def D3b (f:T→Option (List Nat × T)):List T→Option (List Nat × List T)
 | []=>some ([],[])
 | a::l=>match f a with
  | some (x,b)=>match D3b f l with
   | some (y,l')=>some (x++y,b::l')
   | none=>none
  | none=>none
def D3w:List T→Option (List D)
 | []=>some []
 | .d a::l=>match D3w l with
  | some l'=>some (a::l')
  | none=>none
 | _=>none
def fzV (n s:Nat) (es:List D):Nat→T→Option (List Nat × T)
 | k+1,.row n' s' lo len=>bif aJ n' n then(bif aJ s' s&&aJ lo 0 then some ([len],.d (.arr s es))else none)else some ([],.row n' s' lo len)
 | k+1,.agg l=>match D3b (fzV n s es k) l with
  | some (a::ls,l')=>match D3w l' with
   | some ds=>some (a::ls,.d (.agg ds))
   | none=>some (a::ls,.agg l')
  | some ([],l')=>some ([],.agg l')
  | none=>none
 | _,t=>some ([],t)
def fzK (g:T→Option (List Nat × T)) (ts:LT):List Nat→Option (List Nat × LT)
 | []=>some ([],[])
 | i::ks=>match g (W8 ts i)with
  | some (x,v)=>match fzK g ts ks with
   | some (y,r)=>some (x++y,(i,v)::r)
   | none=>none
  | none=>none
def D3d (n:Nat) (g:T→Option (List Nat × T)) (bs:List Nat):Nat→LR→Option (List Nat × LR)
 | _,[]=>some ([],[])
 | i,o::l=>match D3d n g bs (i+1) l with
  | some (y,l')=>bif aJ i n then some (y,none::l')else bif bs.any (aJ i)then(match o with
   | some ⟨c,[e]⟩=>bif aJ c 0 then none else match g e with
    | some (x,e')=>some (x++y,some ⟨c,[e']⟩::l')
    | none=>none
   | _=>none)else some (y,o::l')
  | none=>none
def fzA (n s:Nat) (es:List D) (ks bs:List Nat) (ts:LT) (L:LR):Option (List Nat × St):=match fzK (fzV n s es 4) ts ks with
 | some (x,ts')=>match D3d n (fzV n s es 4) bs 0 L with
  | some (y,L')=>some (x++y,⟨ts',L'⟩)
  | none=>none
 | none=>none
theorem D28:∀ {l:List T} {ds:List D},D3w l=some ds→l=ds.map .d
 | [],ds,h=>by unfold D3w at h;cases h;rfl
 | a::l,ds,h=>by
  unfold D3w at h;split at h
  ·rename_i h1;cases h1
  ·rename_i h1;cases h1;split at h
   ·rename_i h2;cases h;rw[D28 h2];rfl
   ·cases h
  ·cases h
abbrev FzG (n s:Nat) (es:List D) (g:T→Option (List Nat × T)):Prop:=∀ a x b,g a=some (x,b)→(∀ k∈x,k=es.length)→FzT n s es a b
theorem D0Z {n s:Nat} {es:List D} {g:T→Option (List Nat × T)} (hg:FzG n s es g):∀ {l:List T} {x:List Nat} {l':List T},D3b g l=some (x,l')→(∀ k∈x,k=es.length)→B20 n s es l l'
 | [],x,l',h,hx=>by unfold D3b at h;cases h;exact .nil
 | a::l,x,l',h,hx=>by
  unfold D3b at h;split at h
  ·rename_i h1;split at h
   ·rename_i h2;cases h;exact .cons (hg _ _ _ h1 fun k hk=>hx k (cC _ hk)) (D0Z hg h2 fun k hk=>hx k (cw _ hk))
   ·cases h
  ·cases h
theorem D3e {n s:Nat} {es:List D}:∀ k:Nat,FzG n s es (fzV n s es k):=fun k=>by
 induction k with
 | zero=>intro a x b h hx;unfold fzV at h;cases h;exact .same _
 | succ k ih =>
  intro a x b h hx;unfold fzV at h;split at h
  ·rename_i e1;cases e1;rw[cond_eq_ite]at h;split at h
   ·rename_i h1;have h1:=aA h1;rw[cond_eq_ite]at h;split at h
    ·rename_i h2;rw[aF]at h2;have h3:=aA h2.1;have h4:=aA h2.2;cases h;subst h1;subst h3;subst h4;exact .all (hx _ (List.mem_singleton.2 rfl)).symm
    ·cases h
   ·cases h;exact .same _
  ·rename_i e1;cases e1;split at h
   ·rename_i h1;split at h
    ·rename_i h2;cases h;rw[D28 h2]at h1;exact .aggDL (D0Z ih h1 hx)
    ·cases h;exact .aggL (D0Z ih h1 hx)
   ·rename_i h1;cases h;exact .aggL (D0Z ih h1 hx)
   ·cases h
  ·cases h;exact .same _
theorem D3c {n s:Nat} {es:List D} {g:T→Option (List Nat × T)} {ts:LT} (hg:FzG n s es g):∀ {ks:List Nat} {x:List Nat} {r:LT},fzK g ts ks=some (x,r)→(∀ k∈x,k=es.length)→FzS n s es ts r
 | [],x,r,h,hx=>by unfold fzK at h;cases h;exact .nil
 | i::ks,x,r,h,hx=>by
  unfold fzK at h;split at h
  ·rename_i h1;split at h
   ·rename_i h2;cases h;exact .cons (hg _ _ _ h1 fun k hk=>hx k (cC _ hk)) (D3c hg h2 fun k hk=>hx k (cw _ hk))
   ·cases h
  ·cases h
theorem D0Y {n s:Nat} {es:List D} {g:T→Option (List Nat × T)} {bs:List Nat} (hg:FzG n s es g):∀ {L L':LR} {x:List Nat} (i:Nat),D3d n g bs i L=some (x,L')→(∀ k∈x,k=es.length)→FzR n s es (if i≤n then L.set (n-i) none else L) L'
 | [],L',x,i,h,hx=>by unfold D3d at h;cases h;split<;>exact .nil
 | o::l,L',x,i,h,hx=>by
  unfold D3d at h;split at h
  ·rename_i y l' h1;rw[cond_eq_ite]at h;split at h
   ·rename_i hi;have hi:=aA hi;subst hi;cases h;have:=D0Y hg (i+1) h1 hx;rw[if_neg oM]at this;rw[if_pos (aw _),Nat.sub_self,List.set_cons_zero];exact .same this
   ·rename_i hi;have hi:i≠n:=fun e=>hi (by rw[e];exact Nat.beq_refl n);have cut:∀ (a:Option Rw) (l:LR),(if i≤n then(a::l).set (n-i) none else a::l)=a::(if i+1≤n then l.set (n-(i+1)) none else l):=fun a l=>by
     by_cases hc:i≤n
     ·rw[if_pos hc,if_pos oM,show n-i=(n-(i+1))+1 by omega,List.set_cons_succ]
     ·rw[if_neg hc,if_neg oM]
    rw[cut];rw[cond_eq_ite]at h;split at h
    ·split at h
     ·rw[cond_eq_ite]at h;split at h
      ·cases h
      ·rename_i hc;rw[ce]at hc;split at h
       ·rename_i h2;cases h;exact .cons hc (.cons (hg _ _ _ h2 fun k hk=>hx k (cC _ hk)) .nil) (D0Y hg (i+1) h1 fun k hk=>hx k (cw _ hk))
       ·cases h
     ·cases h
    ·cases h;exact .same (D0Y hg (i+1) h1 hx)
  ·cases h
variable {P:ah} {n0 N:Nat} {df:List bp} {Q:SX→St→Prop} {c:Code} {ts:LT} {L:LR} {st:St}
theorem SW.ow (s:Nat) (b:Bool) (k:Nat) (p ks:List Nat) (h:owC s b k p ks ts L=some st) (x:SW P n0 N df c Q st):SW P n0 N df c Q ⟨ts,L⟩:=by
 obtain⟨m,nr,ts',L',h1,h2,h3,h4,rfl⟩:=D3h h;exact .own s h2 h1 h3 h4 x
theorem SW.fzc {α:Type} {w:List α} {f:α→D} {s:Nat} {ls:List Nat} (n:Nat) (ks bs:List Nat) (h0:L[n]?=some (some ⟨s,w.map fun a => .d (f a)⟩)) (h:fzA n s (w.map f) ks bs ts L=some (ls,st)) (h2:ls=List.replicate ls.length w.length) (x:SW P n0 N df c Q st):SW P n0 N df c Q ⟨ts,L⟩:=by
 have hl:∀ k∈ls,k=(w.map f).length:=fun k hk=>by
  rw[h2]at hk;rw[List.length_map];exact(List.mem_replicate.1 hk).2
 unfold fzA at h;split at h
 ·rename_i h1;split at h
  ·rename_i h3;cases h;have hR:=D0Y (D3e 4) 0 h3 fun k hk=>hl k (cw _ hk);rw[if_pos (Nat.zero_le _),Nat.sub_zero]at hR;exact .fz n s h0 (D3c (D3e 4) h1 fun k hk=>hl k (cC _ hk)) hR x
  ·cases h
 ·cases h
end
theorem vv {n0:Nat} {ts ts':LT} {L L':LR} {κ:List Nat} (hr:RwK L κ L' κ:=by repeat (first | exact RwK.nil | refine RwK.gone rfl ?_ | refine RwK.row rfl ?_ | refine RwK.cons rfl rfl ?_ | refine RwK.map rfl ?_)) (hh:(ndK κ,B33 n0 κ,(ts'.map fun p=>W8 ts p.1),ts'.all fun p=>p.2.sc κ.length)=(true,true,(ts'.map fun p=>p.2.ren (kap κ)),true):=by exact rfl):Vw n0 ⟨ts,L⟩ ⟨ts',L'⟩ κ:=vK hr hh
theorem A33.vq {n0 N:Nat} {ts ts':LT} {L L':LR} (κ:List Nat) (h:Vw n0 ⟨ts,L⟩ ⟨ts',L'⟩ κ:=by exact vv):A33 n0 N ⟨ts,L⟩ ⟨ts',L'⟩ := .vw h
theorem ld {L:LR} {t:T} {y:D} (h:A2m L t y:=by repeat (first | exact A5o.nil | refine A5o.cons (A2m.d _) ?_ | refine A5o.cons (A2m.row rfl rfl) ?_ | refine A5o.cons (A2m.aggL ?_) ?_ | refine A2m.tupL ?_ | refine A2m.aggL ?_ | refine A2m.aggDL ?_ | exact A2m.row rfl rfl | exact A2m.d _)):A2m L t y:=h
theorem zN {α:Type} {o:Option α} {r:α} {C:Prop} (h:o=some r) (e:o=none:=by rfl):C:=by rw[e]at h;cases h
section
variable {P:ah} {n0 N:Nat} {df:List bp} {c:Code} {st st0:St} {m0:Nat} {κ:Type} {K0:κ}
theorem C3X {Q:SX→St→Prop} (I:κ→Nat→St→Prop) (h0:I K0 m0 st0) (hv:A33 n0 N st st0) (h:∀ K,K=K0→∀ m st,I K (m+1) st→SW P n0 N df c (A5w (fun st'=>∃ m' st'',m'<m+1∧A33 n0 N st' st''∧I K m' st'') Q) st) (hz:∀ K st,I K 0 st→False:=by (intro K st h;repeat (rcases h with⟨_,h⟩))<;>exact zN h):SW P n0 N df (.loop c) Q st:=M2 (I K0) hv h0 fun m st h1=>by
 cases m with
 | zero=>exact(hz K0 st h1).elim
 | succ m=>exact h K0 rfl m st h1
theorem D2S {Q:SX→St→Prop} (I:κ→Nat→St→Prop) (h0:I K0 m0 st0) (hv:A33 n0 N st st0) (h:∀ K,K=K0→∀ m st,I K (m+1) st→SWM P n0 N c (A5w (fun st'=>∃ m' st'',m'<m+1∧A33 n0 N st' st''∧I K m' st'') Q) st) (hz:∀ K st,I K 0 st→False:=by (intro K st h;repeat (rcases h with⟨_,h⟩))<;>exact zN h):SWM P n0 N (.loop c) Q st:=B6S (I K0) hv h0 fun m st h1=>by
 cases m with
 | zero=>exact(hz K0 st h1).elim
 | succ m=>exact h K0 rfl m st h1
end
end Go.Proofs.YtlaogbbcipebgaaGreat.Sh
