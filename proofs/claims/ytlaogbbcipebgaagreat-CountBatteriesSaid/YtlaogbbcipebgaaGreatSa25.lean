/- Ranges within iterators: code with loops over functions standing open around it. Over whatever program. -/
import Derived.Test.YtlaogbbcipebgaaGreatSa24
namespace Go.Proofs.YtlaogbbcipebgaaGreat.Sh
set_option linter.unusedVariables false
set_option linter.unusedSimpArgs false
open Go
structure LeA (A:Nat→Prop) (n0:Nat) (g g':G):Prop where
 e:∀ n,n<n0→g.M n≠none→g'.M n≠none∧g'.β n=g.β n
 size:g.w.heap.size≤g'.w.heap.size
 os:g'.w.os=g.w.os
 tape:g'.w.tape=g.w.tape
 output:g'.w.output=g.w.output
 fr:∀ b,b<g.w.heap.size→NL g b→¬ A b→g'.w.heap[b]?=g.w.heap[b]?
 k:∀ b,g.K b→g'.K b
 k':∀ b,b<g.w.heap.size→g'.K b→g.K b∨¬ NL g b
 nl:∀ n r,g'.M n=some (some r)→(g'.β n).2≠0→(g'.β n).1<g.w.heap.size→¬ NL g (g'.β n).1
section
variable {A B:Nat→Prop} {l n0 n1:Nat} {g g':G}
theorem LeN.toA (h:LeN n0 g g') (A:Nat→Prop):LeA A n0 g g':=⟨h.e,h.size,h.os,h.tape,h.output,fun b hb hn _=>h.fr b hb hn,h.k,h.k',h.nl⟩
theorem LeL.toA (h:LeL l n0 g g'):LeA (·=l) n0 g g':=⟨h.e,h.size,h.os,h.tape,h.output,h.fr,h.k,h.k',h.nl⟩
theorem LeA.grow (h:LeA A n0 g g') (hA:∀ b,A b→B b):LeA B n0 g g':=⟨h.e,h.size,h.os,h.tape,h.output,fun b hb hn ha=>h.fr b hb hn fun hx=>ha (hA b hx),h.k,h.k',h.nl⟩
theorem LeA.less (h:LeA A n0 g g') (hn:n1≤n0):LeA A n1 g g':=⟨fun n hlt=>h.e n (by omega),h.size,h.os,h.tape,h.output,h.fr,h.k,h.k',h.nl⟩
theorem LeN.lessN (h:LeN n0 g g') (hn:n1≤n0):LeN n1 g g':=⟨fun n hlt=>h.e n (by omega),h.size,h.os,h.tape,h.output,h.fr,h.k,h.k',h.nl⟩
theorem LeA.refl (A:Nat→Prop) (n0:Nat) (g:G):LeA A n0 g g:=(LeN.refl n0 g).toA A
theorem LeA.keepNL (h:LeA A n0 g g') {b:Nat} (hb:b<g.w.heap.size) (hn:NL g b):NL g' b:=fun n r hr h0 he=>h.nl n r hr h0 (by rw[he];exact hb) (he▸hn)
theorem LeA.trans {a b c:G} (h:LeA A n0 a b) (k:LeA A n0 b c):LeA A n0 a c where
 e n hlt hn:=by
  obtain⟨h1,h2⟩:=h.e n hlt hn
  obtain⟨k1,k2⟩:=k.e n hlt h1
  exact⟨k1,k2.trans h2⟩
 size:=Nat.le_trans h.size k.size
 os:=k.os.trans h.os
 tape:=k.tape.trans h.tape
 output:=k.output.trans h.output
 fr x hx hn hl:=(k.fr x (Nat.lt_of_lt_of_le hx h.size) (h.keepNL hx hn) hl).trans (h.fr x hx hn hl)
 k x hx:=k.k x (h.k x hx)
 k' x hx hk:=by
  rcases k.k' x (Nat.lt_of_lt_of_le hx h.size) hk with h1 | h1
  ·exact h.k' x hx h1
  ·exact .inr fun hn=>h1 (h.keepNL hx hn)
 nl n r hr h0 hlt:=by
  intro hn
  exact k.nl n r hr h0 (Nat.lt_of_lt_of_le hlt h.size) (h.keepNL hlt hn)
theorem LeA.drop (h:LeA B n0 g g') (hB:∀ b,b<g.w.heap.size→B b→A b):LeA A n0 g g':=⟨h.e,h.size,h.os,h.tape,h.output,fun b hb hn ha=>h.fr b hb hn fun hx=>ha (hB b hb hx),h.k,h.k',h.nl⟩
theorem LeA.toN (h:LeA A n0 g g') (hA:∀ b,b<g.w.heap.size→¬ A b):LeN n0 g g':=⟨h.e,h.size,h.os,h.tape,h.output,fun b hb hn=>h.fr b hb hn (hA b hb),h.k,h.k',h.nl⟩
theorem LeA.at (h:LeA A n0 g g') {b:Nat} (hb:b<g.w.heap.size) (hn:NL g b) (hk:¬ g.K b) (ha:¬ A b):g'.w.heap[b]?=g.w.heap[b]?∧¬ g'.K b :=
 ⟨h.fr b hb hn ha,fun hk'=>by rcases h.k' b hb hk' with h1 | h1;exact hk h1;exact h1 hn⟩
theorem VT.turnA (hg:P6 g) (h:LeA A n0 g g') (hk:∀ b,A b→¬ g.K b) {t:T} {c:Value} (hv:VT g t c) (hs:t.sc n0=true):VT g' t c :=
 hv.turnN (fun b hb=>⟨h.k b hb,h.fr b (hg.kd b hb) (hg.kl b hb) fun e=>hk b e hb⟩) h.e hs
end
theorem JOk.stepA {X:JX} {r:JR} {ph:SX} {A:Nat→Prop} {g g':G} (h:JOk X r ph g) (hg:P6 g) (hl:LeA A X.n1 g g') (hA:∀ b,A b→¬ g.K b) (h1:¬ A X.l) (h2:¬ A r.D):JOk X r ph g':=by
 obtain⟨k1,k2⟩:=hl.at (Array.getElem?_eq_some_iff.1 h.lrec).1 (A3l hg h.lrec) h.kl h1
 obtain⟨k3,k4⟩:=hl.at (Array.getElem?_eq_some_iff.1 h.mark).1 (A5L hg h.mark) h.kD h2
 exact⟨k1.trans h.lrec,k3.trans h.mark,k2,k4,h.sz,fun i=>(h.ts i).turnA hg hl hA (h.sc i),h.sc⟩
structure Cx (Φ:Type) where
 A:Nat→Prop
 own:Nat→Prop
 n1:Nat
 ok:Φ→G→Prop
 sub:∀ b,A b→own b
 lt:∀ ph g,ok ph g→∀ b,own b→b<g.w.heap.size
 nk:∀ ph g,ok ph g→∀ b,own b→¬ g.K b
 step:∀ (S:Nat→Prop) ph g g',ok ph g→P6 g→LeA S n1 g g'→(∀ b,S b→¬ g.K b)→(∀ b,S b→¬ own b)→ok ph g'
def Cx.zero (n:Nat):Cx Unit:=⟨fun _=>False,fun _=>False,n,fun _ _=>True,fun _ h=>h,fun _ _ _ _ h=>h.elim,fun _ _ _ _ h=>h.elim,fun _ _ _ _ _ _ _ _ _=>trivial⟩
def Cx.up {Φ:Type} (C:Cx Φ) (m:Nat) (h:C.n1≤m):Cx Φ:=⟨C.A,C.own,m,C.ok,C.sub,C.lt,C.nk,fun S ph g g' h1 h2 h3=>C.step S ph g g' h1 h2 (h3.less h)⟩
def Cx.nest {Φ:Type} (C:Cx Φ) (X:JX) (r:JR) (n:Nat) (h1:C.n1≤n) (h2:X.n1≤n):Cx (SX × Φ) where
 A b:=C.A b∨b=X.l
 own b:=C.own b∨b=X.l∨b=r.D
 n1:=n
 ok p g:=C.ok p.2 g∧JOk X r p.1 g∧¬ C.own X.l∧¬ C.own r.D
 sub b:=fun h=>h.elim (fun h => .inl (C.sub b h)) (fun h => .inr (.inl h))
 lt p g h b:=by
  rintro(h' | rfl | rfl)
  ·exact C.lt _ _ h.1 b h'
  ·exact(Array.getElem?_eq_some_iff.1 h.2.1.lrec).1
  ·exact(Array.getElem?_eq_some_iff.1 h.2.1.mark).1
 nk p g h b:=by
  rintro(h' | rfl | rfl)
  ·exact C.nk _ _ h.1 b h'
  ·exact h.2.1.kl
  ·exact h.2.1.kD
 step S p g g' h hg hl hk ho:=⟨C.step S _ _ _ h.1 hg (hl.less h1) hk fun b hb hx=>ho b hb (.inl hx),h.2.1.stepA hg (hl.less h2) hk (fun hx=>ho _ hx (.inr (.inl rfl))) (fun hx=>ho _ hx (.inr (.inr rfl))),h.2.2⟩
theorem Cx.stepN {Φ:Type} (C:Cx Φ) {ph:Φ} {g g':G} (h:C.ok ph g) (hg:P6 g) (hl:LeN C.n1 g g'):C.ok ph g':=C.step (fun _=>False) ph g g' h hg (hl.toA _) (fun _ h=>h.elim) (fun _ h=>h.elim)
def B3x {Φ:Type} (C:Cx Φ) (g:G) (N:Nat) (Q:Φ→SX→St→Prop):Exit→Act→World→Prop:=fun ex a' w' =>
 ∃ g' ph sx st,g'.w=w'∧LeA C.A C.n1 g g'∧StR g' N st a' []∧C.ok ph g'∧XR g' sx ex∧Q ph sx st
theorem B3x.trans {Φ:Type} {C:Cx Φ} {g g1:G} {N:Nat} {Q:Φ→SX→St→Prop} (hl:LeA C.A C.n1 g g1) {ex:Exit} {a:Act} {w:World} (h:B3x C g1 N Q ex a w):B3x C g N Q ex a w:=by
 obtain⟨g',ph,sx,st,h1,h2,h3⟩:=h
 exact⟨g',ph,sx,st,h1,hl.trans h2,h3⟩
def SWC {Φ:Type} (P:Program) (C:Cx Φ) (N:Nat) (c:Code) (Q:Φ→SX→St→Prop) (ph:Φ) (st:St):Prop :=
 ∀ (F:Fence) (nn:Nat),Wd F→∀ (g:G) (a:Act),C.ok ph g→StR g N st a []→c.wpIn F nn P (B3x C g N Q) a g.w
section
variable {Φ:Type} {P:Program} {C:Cx Φ} {N:Nat} {Q:Φ→SX→St→Prop} {ph:Φ} {st:St}
theorem B3m {c:Code} (h:SW P C.n1 N [] c (Q ph) st):SWC P C N c Q ph st:=fun F nn hF g a hj hR =>
 wpIn_mono (h F nn hF g a hR) fun ex a' w' ⟨g',sx,st',h1,h2,h3,h4,h5⟩=>⟨g',ph,sx,st',h1,h2.toA _,h3,C.stepN hj hR.good h2,h4,h5⟩
def B2v (K:Φ→St→Prop) (Q:Φ→SX→St→Prop):Φ→SX→St→Prop:=fun ph=>A5w (K ph) (Q ph)
def A84 (id:Nat) (Q:Φ→SX→St→Prop):Φ→SX→St→Prop:=fun ph=>A34 id (Q ph)
theorem O2 {K:Φ→St→Prop} (h:K ph st):B2v K Q ph .norm st:=h
theorem B2x {K:Φ→St→Prop} (h:Q ph .ret st):B2v K Q ph .ret st:=h
theorem A5W {K:Φ→St→Prop} {i:Nat} (h:Q ph (.exit i) st):B2v K Q ph (.exit i) st:=h
theorem A3a {i:Nat} (h:Q ph .norm st):A84 i Q ph .norm st:=h
theorem A6Q {i:Nat} (h:Q ph .ret st):A84 i Q ph .ret st:=h
theorem A75 {i:Nat} (h:Q ph .norm st):A84 i Q ph (.exit i) st:=I5 (Q:=Q ph) h
theorem A5i (h:Q ph .norm st):SWC P C N .skip Q ph st:=B3m (D7 h)
theorem B12 {i:Nat} (h:Q ph (.exit i) st):SWC P C N (.exit i) Q ph st:=B3m (N5 h)
theorem B6e (h:Q ph .ret st):SWC P C N .ret Q ph st:=B3m (C9 h)
theorem A2D {x y:Code} (h:SWC P C N x (B2v (SWC P C N y Q) Q) ph st):SWC P C N (.seq x y) Q ph st:=fun F nn hF g a hj hR=>by
 refine wpIn_seq (wpIn_mono (h F nn hF g a hj hR) ?_)
 rintro ex a' w' ⟨g',ph',sx,st',rfl,h2,k2,k1,k4,k5⟩
 cases sx with
 | norm =>
  cases ex<;>first | exact k4.elim | skip
  exact wpIn_mono (k5 F nn hF g' a' k1 k2) fun _ _ _ hq=>hq.trans h2
 | ret=>cases ex<;>first | exact k4.elim | exact⟨g',ph',_,st',rfl,h2,k2,k1,k4,k5⟩
 | exit i=>cases ex<;>first | exact k4.elim | exact⟨g',ph',_,st',rfl,h2,k2,k1,k4,k5⟩
 | pan t=>cases ex<;>first | exact k4.elim | exact⟨g',ph',_,st',rfl,h2,k2,k1,k4,k5⟩
theorem A6K {id:Nat} {c:Code} (h:SWC P C N c (A84 id Q) ph st):SWC P C N (.block id c) Q ph st:=fun F nn hF g a hj hR=>by
 refine wpIn_block (wpIn_mono (h F nn hF g a hj hR) ?_)
 rintro ex a' w' ⟨g',ph',sx,st',rfl,h2,k2,k1,k4,k5⟩
 cases sx with
 | norm=>cases ex<;>first | exact k4.elim | exact⟨g',ph',.norm,st',rfl,h2,k2,k1,trivial,k5⟩
 | ret=>cases ex<;>first | exact k4.elim | exact⟨g',ph',.ret,st',rfl,h2,k2,k1,trivial,k5⟩
 | exit i =>
  cases ex<;>first | exact k4.elim | skip
  rename_i j
  have h4':i=j:=k4
  subst h4'
  simp only[A84,A34]at k5
  by_cases hi:i=id
  ·rw[if_pos hi]at k5
   simp only[Exit.inBlock,hi,if_true]
   exact⟨g',ph',.norm,st',rfl,h2,k2,k1,trivial,k5⟩
  ·rw[if_neg hi]at k5
   simp only[Exit.inBlock,hi,if_false]
   exact⟨g',ph',.exit i,st',rfl,h2,k2,k1,rfl,k5⟩
 | pan t=>cases ex<;>first | exact k4.elim | exact⟨g',ph',.pan t,st',rfl,h2,k2,k1,k4,k5⟩
theorem B45 {c:Operand} {x y:Code} {b:Bool} (hc:O9 st.ts c = .d (.v (.bool b))) (ht:b=true→SWC P C N x Q ph st) (hf:b=false→SWC P C N y Q ph st):SWC P C N (.cond c x y) Q ph st:=fun F nn hF g a hj hR=>by
 have h1:=A4G hR.ts c
 rw[hc]at h1
 exact wpIn_cond_split h1.v_eq (fun h=>ht h F nn hF g a hj hR) (fun h=>hf h F nn hF g a hj hR)
theorem A6L {c:Operand} {x y:Code} (hc:O9 st.ts c = .d (.v (.bool true))) (h:SWC P C N x Q ph st):SWC P C N (.cond c x y) Q ph st:=B45 hc (fun _=>h) (fun h=>by cases h)
theorem A3Q {c:Operand} {x y:Code} (hc:O9 st.ts c = .d (.v (.bool false))) (h:SWC P C N y Q ph st):SWC P C N (.cond c x y) Q ph st:=B45 hc (fun h=>by cases h) (fun _=>h)
theorem SWC.seen {c:Code} {st':St} (k:∀ (g:G) (a:Act),StR g N st a []→∃ g',g'.w=g.w∧LeN C.n1 g g'∧StR g' N st' a []) (h:SWC P C N c Q ph st'):SWC P C N c Q ph st:=fun F nn hF g a hj hR=>by
 obtain⟨g',hw,hle,hR'⟩:=k g a hR
 have:=h F nn hF g' a (C.stepN hj hR.good hle) hR'
 rw[hw]at this
 exact wpIn_mono this fun _ _ _ hq=>hq.trans (hle.toA _)
theorem SWC.own {c:Code} {ts ts':List (Nat × T)} {L L':List (Option Rw)} (s:Nat) (hs:Nat.beq s 0=false) {m:Nat} {nr:List Nat} (hm:A4f.drop L.length=m::nr) (hts:B21 m s ts ts') (hL:A92 m s L L') (h:SWC P C N c Q ph ⟨ts',L'++[some ⟨s,[]⟩]⟩):SWC P C N c Q ph ⟨ts,L⟩ :=
 SWC.seen (fun _ _ hR=>A9g C.n1 s hs hm hts hL hR) h
theorem SWC.fz {c:Code} {ts ts':List (Nat × T)} {L L':List (Option Rw)} {α:Type} {w:List α} {f:α→D} (n s:Nat) (hn0:L[n]?=some (some ⟨s,w.map fun a => .d (f a)⟩)) (hts:FzS n s (w.map f) ts ts') (hL:FzR n s (w.map f) (L.set n none) L') (h:SWC P C N c Q ph ⟨ts',L'⟩):SWC P C N c Q ph ⟨ts,L⟩ :=
 SWC.seen (fun _ _ hR=>C0l C.n1 n s hn0 hts hL hR) h
theorem B2s {c:Code} (I:Nat→Φ→St→Prop) {m:Nat} {st0:St} (hv:A33 C.n1 N st st0) (h0:I m ph st0)
  (h:∀ m ph st,I m ph st→SWC P C N c (B2v (fun ph' st'=>∃ m' st'',m'<m∧A33 C.n1 N st' st''∧I m' ph' st'') Q) ph st):SWC P C N (.loop c) Q ph st:=by
 refine SWC.seen (fun _ _ hR=>hv _ _ _ hR) ?_
 intro F nn hF g a hj hR
 let Pm:Nat→Act→World→Prop:=fun m a' w'=>∃ g' ph' st',g'.w=w'∧LeA C.A C.n1 g g'∧C.ok ph' g'∧StR g' N st' a' []∧I m ph' st'
 have hex:∃ pick:Act→World→Nat,∀ a' w',(∃ m,Pm m a' w')→Pm (pick a' w') a' w'∧∀ k,Pm k a' w'→pick a' w'≤k:=by
  have h1:∀ p:Act × World,∃ m,(∃ m,Pm m p.1 p.2)→Pm m p.1 p.2∧∀ k,Pm k p.1 p.2→m≤k:=fun p=>by
   by_cases h:∃ m,Pm m p.1 p.2
   ·obtain⟨m,hm⟩:=least h;exact⟨m,fun _=>hm⟩
   ·exact⟨0,fun h'=>absurd h' h⟩
  exact⟨fun a' w'=>Classical.choose (h1 (a',w')),fun a' w'=>Classical.choose_spec (h1 (a',w'))⟩
 obtain⟨pick,hpick⟩:=hex
 refine wpIn_loop (fun a' w'=>∃ m,Pm m a' w') pick ⟨m,g,ph,st0,rfl,.refl _ _ g,hj,hR,h0⟩ fun a' w' hI=>?_
 obtain⟨⟨g1,ph1,st1,rfl,hl1,hj1,hR1,hI1⟩,_⟩:=hpick a' w' hI
 refine wpIn_mono (h _ ph1 st1 hI1 F nn hF g1 a' hj1 hR1) ?_
 rintro ex a2 w2 ⟨g2,ph2,sx,st2,rfl,k3,e2,e1,e4,e5⟩
 cases sx with
 | norm =>
  cases ex<;>first | exact e4.elim | skip
  obtain⟨m',st3,hlt,hv3,hI2⟩:=e5
  obtain⟨g3,hw3,hl3,hR3⟩:=hv3 _ _ _ e2
  have hP:Pm m' a2 g2.w:=⟨g3,ph2,st3,hw3,(hl1.trans k3).trans (hl3.toA _),C.stepN e1 e2.good hl3,hR3,hI2⟩
  have hex:∃ m,Pm m a2 g2.w:=⟨m',hP⟩
  exact⟨hex,Nat.lt_of_le_of_lt ((hpick a2 g2.w hex).2 m' hP) hlt⟩
 | ret=>cases ex<;>first | exact e4.elim | exact⟨g2,ph2,_,st2,rfl,hl1.trans k3,e2,e1,e4,e5⟩
 | exit i=>cases ex<;>first | exact e4.elim | exact⟨g2,ph2,_,st2,rfl,hl1.trans k3,e2,e1,e4,e5⟩
 | pan t=>cases ex<;>first | exact e4.elim | exact⟨g2,ph2,_,st2,rfl,hl1.trans k3,e2,e1,e4,e5⟩
def RgC {Φ:Type} (P:Program) (C:Cx Φ) (N:Nat) (ops:Array Oper) (Q:Φ→SX→St→Prop) (l:List Oper) (ph:Φ) (st:St):Prop :=
 ∀ (F:Fence) (nn:Nat),Wd F→∀ (g:G) (a:Act) (R:Exit→Act→World→Prop),C.ok ph g→StR g N st a []→(∀ ex a' w',B3x C g N Q ex a' w'→R ex a' w')→wpListIn F nn P ops R l a g.w
theorem A4D {id:Nat} {l:List Oper} (h:RgC P C N l.toArray Q l ph st):SWC P C N (.region id l.toArray false) Q ph st:=fun F nn hF g a hj hR =>
 wpIn_region_lit (h F nn hF g a _ hj hR fun _ _ _ h=>h)
theorem B9j {ops:Array Oper} (h:Q ph .norm st):RgC P C N ops Q [] ph st:=fun _ _ _ g _ _ hj hR k =>
 k _ _ _ ⟨g,ph,.norm,st,rfl,.refl _ _ g,hR,hj,trivial,h⟩
def B9D {Φ:Type} (P:Program) (C:Cx Φ) (N:Nat) (ops:Array Oper) (Q:Φ→SX→St→Prop) (ph:Φ):List Oper→List Stp→St→Prop:=fun l2 _ st'=>RgC P C N ops Q l2 ph st'
theorem A0B {ops:Array Oper} {tr:List Stp} (h:Q ph .norm st):L3 P N ops [] st tr (B9D P C N ops Q ph):=A32 (B9j h)
theorem B1T {ops:Array Oper} {tr:List Stp} {l:List Oper} (h:RgC P C N ops Q l ph st):L3 P N ops l st tr (B9D P C N ops Q ph):=A32 h
theorem A2B {ops:Array Oper} {l:List Oper} (h:L3 P N ops l st [] (B9D P C N ops Q ph)):RgC P C N ops Q l ph st:=by
 obtain⟨l1,l2,tr,st',rfl,h1,h2⟩:=h
 intro F nn hF g a R hj hR k
 have key:∀ (l:List Oper) (st:St) (tr:List Stp) (st2:St),Ev P N ops l st tr st2→RgC P C N ops Q l2 ph st2→∀ (g1:G) (a:Act),Le g g1→StR g1 N st a []→wpListIn F nn P ops R (l++l2) a g1.w:=by
  intro l st tr st2 h
  induction h with
  | nil st =>
   intro h2 g1 a hl hR1
   exact h2 F nn hF g1 a R (C.stepN hj hR.good (hl.toN _)) hR1 fun _ _ _ hq=>k _ _ _ (hq.trans ((hl.toN _).toA _))
  | cons hs _ ih =>
   intro h2 g1 a hl hR1
   exact hs.soundL hF hR1 fun g' a' h3 h4=>ih h2 g' a' (hl.trans h3) h4
 exact key l1 st tr st' h1 h2 g a (.refl g) hR
def rdC (n1:Nat) (K:Φ→SX→List (Option Rw)→Prop):Φ→SX→St→Prop
 | _,.pan _,_=>False
 | ph,sx,st=>∃ L κ,Vw n1 st ⟨[],L⟩ κ∧K ph sx L
end
end Go.Proofs.YtlaogbbcipebgaaGreat.Sh
