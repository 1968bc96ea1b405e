/- Joins: where ways meet again. Over whatever program. -/
import Derived.Test.YtlaogbbcipebgaaGreatSa20
namespace Go.Proofs.YtlaogbbcipebgaaGreat.Sh
set_option linter.unusedVariables false
set_option linter.unusedSimpArgs false
open Go
section
variable {P:Program} {n0 N:Nat} {df:List Deferred} {Q:SX→St→Prop} {st:St} {x y:Code}
def A33 (n0 N:Nat) (st st':St):Prop:=∀ (g:G) (a:Act) (df:List Deferred),StR g N st a df→∃ g',g'.w=g.w∧LeN n0 g g'∧StR g' N st' a df
theorem A33.refl (n0 N:Nat) (st:St):A33 n0 N st st:=fun g _ _ h=>⟨g,rfl,.refl n0 g,h⟩
theorem A33.trans {n0 N:Nat} {a b c:St} (h:A33 n0 N a b) (k:A33 n0 N b c):A33 n0 N a c:=fun g x df hR=>by
 obtain⟨g1,h1,h2,h3⟩:=h g x df hR
 obtain⟨g2,k1,k2,k3⟩:=k g1 x df h3
 exact⟨g2,k1.trans h1,h2.trans k2,k3⟩
theorem A33.own {n0 N:Nat} {ts ts':List (Nat × T)} {L L':List (Option Rw)} {st':St} (s:Nat) (hs:Nat.beq s 0=false) {m:Nat} {nr:List Nat} (hm:A4f.drop L.length=m::nr) (hts:B21 m s ts ts') (hL:A92 m s L L') (k:A33 n0 N ⟨ts',L'++[some ⟨s,[]⟩]⟩ st'):A33 n0 N ⟨ts,L⟩ st' :=
 A33.trans (fun _ _ _ hR=>A9g n0 s hs hm hts hL hR) k
theorem A33.vw {n0 N:Nat} {st st':St} {κ:List Nat} (h:Vw n0 st st' κ):A33 n0 N st st':=fun _ _ _ hR=>h.see hR
def prn (l:List Nat) (ts:List (Nat × T)):List (Nat × T):=l.map fun i=>(i,W8 ts i)
theorem B9b (l:List Nat) (ts:List (Nat × T)) (i:Nat):W8 (prn l ts) i=W8 ts i∨W8 (prn l ts) i = .bot:=by
 induction l with
 | nil=>exact .inr rfl
 | cons j l ih =>
  simp only[prn,List.map_cons,W8]
  cases hb:Nat.beq i j with
  | true=>have:=Nat.eq_of_beq_eq_true hb;subst this;exact .inl rfl
  | false=>exact ih
theorem A33.prn {n0 N:Nat} {st st':St} (l:List Nat) (h:st'=⟨Sh.prn l st.ts,st.L⟩):A33 n0 N st st':=fun g a df hR=>by
 subst h
 refine⟨g,rfl,.refl n0 g,hR.good,hR.M,hR.size,fun i=>?_,hR.df⟩
 rcases B9b l st.ts i with e | e
 ·dsimp only;rw[e];exact hR.ts i
 ·dsimp only;rw[e];exact .bot _
def jnQ {β:Type} (n0 N:Nat) (A:β→Prop) (S:β→St):St→Prop:=fun st=>∃ b,A b∧A33 n0 N st (S b)
theorem W5 {β:Type} (A:β→Prop) (S:β→St) (hI:∀ b,A b→SW P n0 N df y Q (S b)) (h:SW P n0 N df x (A5w (fun st=>jnQ n0 N A S st∨SW P n0 N df y Q st) Q) st):SW P n0 N df x (A5w (SW P n0 N df y Q) Q) st :=
 h.mono fun sx st h=>by
  cases sx<;>first | exact h | skip
  rcases h with⟨b,h1,h2⟩ | h
  ·exact SW.seen (fun _ _ hR=>h2 _ _ _ hR) (hI b h1)
  ·exact h
theorem SWM.mono {Q':SX→St→Prop} (h:SWM P n0 N x Q st) (k:∀ sx st,Q sx st→Q' sx st):SWM P n0 N x Q' st:=fun nn db g a df hR hd =>
 wpIn_mono (h nn db g a df hR hd) fun _ _ _ ⟨g',sx,st',df',h1,h2,h3,h4,h5,h6⟩=>⟨g',sx,st',df',h1,h2,h3,h4,h5,k _ _ h6⟩
theorem A5V {β:Type} (A:β→Prop) (S:β→St) (hI:∀ b,A b→SWM P n0 N y Q (S b)) (h:SWM P n0 N x (A5w (fun st=>jnQ n0 N A S st∨SWM P n0 N y Q st) Q) st):SWM P n0 N x (A5w (SWM P n0 N y Q) Q) st :=
 h.mono fun sx st h=>by
  cases sx<;>first | exact h | skip
  rcases h with⟨b,h1,h2⟩ | h
  ·exact SWM.seen (fun _ _ _ hR=>h2 _ _ _ hR) (hI b h1)
  ·exact h
theorem SWY.seen {st':St} (hv:A33 n0 N st st') (h:SWY P n0 N x Q st'):SWY P n0 N x Q st:=fun F nn hF g a hR=>by
 obtain⟨g1,hw,hl,hR1⟩:=hv _ _ _ hR
 have:=h F nn hF g1 a hR1
 rw[hw]at this
 exact A6M this fun _ _ _ ⟨g',sx,st',h1,h2,h3,h4,h5⟩=>⟨g',sx,st',h1,hl.trans h2,h3,h4,h5⟩
theorem B04 {c:Code} (hp:∀ t st,¬ Q (.pan t) st) (h:SW P n0 N df c (fun sx st=>∃ st',A33 n0 N st st'∧Q sx st') st):SW P n0 N df c Q st:=fun F nn hF g a hR=>by
 refine wpIn_mono (h F nn hF g a hR) ?_
 rintro ex a' w' ⟨g',sx,st',rfl,h2,h3,h4,st2,h5,h6⟩
 obtain⟨g2,k1,k2,k3⟩:=h5 g' a' _ h3
 refine⟨g2,sx,st2,k1,h2.trans k2,k3,?_,h6⟩
 cases sx<;>cases ex<;>first | exact h4 | exact h4.elim | skip
 exact absurd h6 (hp _ _)
theorem M2 {c:Code} (I:Nat→St→Prop) {m:Nat} {st0:St} (hv:A33 n0 N st st0) (h0:I m st0)
  (h:∀ m st,I m st→SW P n0 N df c (A5w (fun st'=>∃ m' st'',m'<m∧A33 n0 N st' st''∧I m' st'') Q) st):SW P n0 N df (.loop c) Q st:=by
 refine SW.seen (fun _ _ hR=>hv _ _ _ hR) ?_
 intro F nn hF g a hR
 let Pm:Nat→Act→World→Prop:=fun m a' w'=>∃ g' st',g'.w=w'∧LeN n0 g g'∧StR g' N st' a' df∧I m st'
 have hex:∃ pick:Act→World→Nat,∀ a' w',(∃ m,Pm m a' w')→Pm (pick a' w') a' w'∧∀ k,Pm k a' w'→pick a' w'≤k:=by
  have h1:∀ p:Act × World,∃ m,(∃ m,Pm m p.1 p.2)→Pm m p.1 p.2∧∀ k,Pm k p.1 p.2→m≤k:=fun p=>by
   by_cases h:∃ m,Pm m p.1 p.2
   ·obtain⟨m,hm⟩:=least h;exact⟨m,fun _=>hm⟩
   ·exact⟨0,fun h'=>absurd h' h⟩
  exact⟨fun a' w'=>Classical.choose (h1 (a',w')),fun a' w'=>Classical.choose_spec (h1 (a',w'))⟩
 obtain⟨pick,hpick⟩:=hex
 refine wpIn_loop (fun a' w'=>∃ m,Pm m a' w') pick ⟨m,g,st0,rfl,.refl n0 g,hR,h0⟩ fun a' w' hI=>?_
 obtain⟨⟨g1,st1,rfl,hl1,hR1,hI1⟩,_⟩:=hpick a' w' hI
 refine wpIn_mono (h _ st1 hI1 F nn hF g1 a' hR1) ?_
 rintro ex a2 w2 ⟨g2,sx,st2,rfl,k2,k3,k4,k5⟩
 cases sx with
 | norm =>
  cases ex<;>first | exact k4.elim | skip
  obtain⟨m',st3,hlt,hv3,hI2⟩:=k5
  obtain⟨g3,hw3,hl3,hR3⟩:=hv3 _ _ _ k3
  have hP:Pm m' a2 g2.w:=⟨g3,st3,hw3,(hl1.trans k2).trans hl3,hR3,hI2⟩
  have hex:∃ m,Pm m a2 g2.w:=⟨m',hP⟩
  exact⟨hex,Nat.lt_of_le_of_lt ((hpick a2 g2.w hex).2 m' hP) hlt⟩
 | ret=>cases ex<;>first | exact k4.elim | exact⟨g2,_,st2,rfl,hl1.trans k2,k3,k4,k5⟩
 | exit i=>cases ex<;>first | exact k4.elim | exact⟨g2,_,st2,rfl,hl1.trans k2,k3,k4,k5⟩
 | pan t=>cases ex<;>first | exact k4.elim | exact⟨g2,_,st2,rfl,hl1.trans k2,k3,k4,k5⟩
theorem B6S {c:Code} (I:Nat→St→Prop) {m:Nat} {st0:St} (hv:A33 n0 N st st0) (h0:I m st0)
  (h:∀ m st,I m st→SWM P n0 N c (A5w (fun st'=>∃ m' st'',m'<m∧A33 n0 N st' st''∧I m' st'') Q) st):SWM P n0 N (.loop c) Q st:=by
 refine SWM.seen (fun _ _ _ hR=>hv _ _ _ hR) ?_
 intro nn db g a df hR hd
 let Pm:Nat→Act→World→Prop:=fun m a' w'=>∃ g' st' df',g'.w=w'∧LeN n0 g g'∧StR g' N st' a' df'∧A72 db g' df'∧I m st'
 have hex:∃ pick:Act→World→Nat,∀ a' w',(∃ m,Pm m a' w')→Pm (pick a' w') a' w'∧∀ k,Pm k a' w'→pick a' w'≤k:=by
  have h1:∀ p:Act × World,∃ m,(∃ m,Pm m p.1 p.2)→Pm m p.1 p.2∧∀ k,Pm k p.1 p.2→m≤k:=fun p=>by
   by_cases h:∃ m,Pm m p.1 p.2
   ·obtain⟨m,hm⟩:=least h;exact⟨m,fun _=>hm⟩
   ·exact⟨0,fun h'=>absurd h' h⟩
  exact⟨fun a' w'=>Classical.choose (h1 (a',w')),fun a' w'=>Classical.choose_spec (h1 (a',w'))⟩
 obtain⟨pick,hpick⟩:=hex
 refine wpIn_loop (fun a' w'=>∃ m,Pm m a' w') pick ⟨m,g,st0,df,rfl,.refl n0 g,hR,hd,h0⟩ fun a' w' hI=>?_
 obtain⟨⟨g1,st1,df1,rfl,hl1,hR1,hd1,hI1⟩,_⟩:=hpick a' w' hI
 refine wpIn_mono (h _ st1 hI1 nn db g1 a' df1 hR1 hd1) ?_
 rintro ex a2 w2 ⟨g2,sx,st2,df2,rfl,k2,k3,k3',k4,k5⟩
 cases sx with
 | norm =>
  cases ex<;>first | exact k4.elim | skip
  obtain⟨m',st3,hlt,hv3,hI2⟩:=k5
  obtain⟨g3,hw3,hl3,hR3⟩:=hv3 _ _ _ k3
  have hP:Pm m' a2 g2.w:=⟨g3,st3,df2,hw3,(hl1.trans k2).trans hl3,hR3,k3'.stepN k3.good hl3,hI2⟩
  have hex:∃ m,Pm m a2 g2.w:=⟨m',hP⟩
  exact⟨hex,Nat.lt_of_le_of_lt ((hpick a2 g2.w hex).2 m' hP) hlt⟩
 | ret=>cases ex<;>first | exact k4.elim | exact⟨g2,_,st2,df2,rfl,hl1.trans k2,k3,k3',k4,k5⟩
 | exit i=>cases ex<;>first | exact k4.elim | exact⟨g2,_,st2,df2,rfl,hl1.trans k2,k3,k3',k4,k5⟩
 | pan t=>cases ex<;>first | exact k4.elim | exact⟨g2,_,st2,df2,rfl,hl1.trans k2,k3,k3',k4,k5⟩
theorem B6W {F:Fence} {n:Nat} {Q:Exit→Act→World→Prop} {a:Act} {w:World} {id:Nat} {c:Code} (h:wpR F n P c (Exit.inBlock id Q) a w):wpR F n P (.block id c) Q a w:=by
 intro b k cs hro hb hr
 have h0:(lone (b.atR a (.code (.block id c)::k)) cs w).fenced P F:=fenced_calm hb hr rfl
 obtain⟨e,a1,w1,hq,harr⟩:=h b (.inBlock id::k) cs hro hb hr
 cases e with
 | normal=>exact⟨.normal,a1,w1,hq,.head h0 stepR_block (StepsIn.trans harr (.one (fenced_calm hb hr rfl) stepR_inBlock))⟩
 | panic ch=>obtain⟨todo,t,r⟩:=harr;exact⟨.panic ch,a1,w1,hq,todo,t,.head h0 stepR_block r⟩
 | ret=>exact⟨.ret,a1,w1,hq,fun hn=>let ⟨t,r⟩:=harr.1 hn;⟨t,.head h0 stepR_block r⟩,fun hn=>let ⟨t,r⟩:=harr.2 hn;⟨t,.head h0 stepR_block r⟩⟩
 | exit i =>
  by_cases hid:i=id
  ·simp only[Exit.inBlock,hid,if_true]at hq
   exact⟨.normal,a1,w1,hq,.head h0 stepR_block (harr.1 k (by simp[exitTo,hid]))⟩
  ·simp only[Exit.inBlock,hid,if_false]at hq
   have hx:exitTo i (.inBlock id::k)=exitTo i k:=by
    have:(id==i)=false:=by simp;exact fun h=>hid h.symm
    simp[exitTo,this]
   exact⟨.exit i,a1,w1,hq,fun k' hk => .head h0 stepR_block (harr.1 k' (by rw[hx];exact hk)),fun hr' hk=>let ⟨k1,h1,h2⟩:=harr.2 hr' (by rw[hx];exact hk);⟨k1,h1,.head h0 stepR_block h2⟩⟩
 | goto l =>
  have hx:gotoIn l (.inBlock id::k)=gotoIn l k:=by simp[gotoIn]
  exact⟨.goto l,a1,w1,hq,fun k' hk => .head h0 stepR_block (harr.1 k' (by rw[hx];exact hk)),fun hr' hk=>let ⟨k1,h1,h2⟩:=harr.2 hr' (by rw[hx];exact hk);⟨k1,h1,.head h0 stepR_block h2⟩⟩
 | outgrown=>exact⟨.outgrown,a1,w1,hq,B07.of (ArrivesIn.of_steps (e := .outgrown) (b:=b) (k:=k) (cs:=cs) (a:=a1) (w:=w1) (.one h0 stepR_block) harr) (fun ch e=>by cases e)⟩
theorem B6U {id:Nat} {c:Code} (h:SWY P n0 N c (A34 id Q) st):SWY P n0 N (.block id c) Q st:=fun F nn hF g a hR=>by
 refine B6W (A6M (h F nn hF g a hR) ?_)
 rintro ex a' w' ⟨g',sx,st',rfl,h2,h3,h4,h5⟩
 cases sx with
 | norm=>cases ex<;>first | exact h4.elim | exact⟨g',.norm,st',rfl,h2,h3,trivial,h5⟩
 | ret=>cases ex<;>first | exact h4.elim | exact⟨g',.ret,st',rfl,h2,h3,trivial,h5⟩
 | exit i =>
  cases ex<;>first | exact h4.elim | skip
  rename_i j
  have h4':i=j:=h4
  subst h4'
  simp only[A34]at h5
  by_cases hi:i=id
  ·rw[if_pos hi]at h5
   simp only[Exit.inBlock,hi,if_true]
   exact⟨g',.norm,st',rfl,h2,h3,trivial,h5⟩
  ·rw[if_neg hi]at h5
   simp only[Exit.inBlock,hi,if_false]
   exact⟨g',.exit i,st',rfl,h2,h3,rfl,h5⟩
 | pan t=>cases ex<;>first | exact h4.elim | exact⟨g',.pan t,st',rfl,h2,h3,h4,h5⟩
end
section
variable {P:Program} {X:JX} {N:Nat} {Q:SX→SX→St→Prop} {ph:SX} {st:St}
theorem A9Q {c:Code} (I:Nat→SX→St→Prop) {m:Nat} {st0:St} (hv:A33 X.n1 N st st0) (h0:I m ph st0)
  (h:∀ m ph st,I m ph st→SWJ P X N c (B2w (fun ph' st'=>∃ m' st'',m'<m∧A33 X.n1 N st' st''∧I m' ph' st'') Q) ph st):SWJ P X N (.loop c) Q ph st:=by
 refine SWJ.seen (fun _ _ hR=>hv _ _ _ hR) ?_
 intro F nn hF r g a hj hR
 let Pm:Nat→Act→World→Prop:=fun m a' w'=>∃ g' ph' st',g'.w=w'∧LeL X.l X.n1 g g'∧JOk X r ph' g'∧StR g' N st' a' []∧I m ph' st'
 have hex:∃ pick:Act→World→Nat,∀ a' w',(∃ m,Pm m a' w')→Pm (pick a' w') a' w'∧∀ k,Pm k a' w'→pick a' w'≤k:=by
  have h1:∀ p:Act × World,∃ m,(∃ m,Pm m p.1 p.2)→Pm m p.1 p.2∧∀ k,Pm k p.1 p.2→m≤k:=fun p=>by
   by_cases h:∃ m,Pm m p.1 p.2
   ·obtain⟨m,hm⟩:=least h;exact⟨m,fun _=>hm⟩
   ·exact⟨0,fun h'=>absurd h' h⟩
  exact⟨fun a' w'=>Classical.choose (h1 (a',w')),fun a' w'=>Classical.choose_spec (h1 (a',w'))⟩
 obtain⟨pick,hpick⟩:=hex
 refine wpIn_loop (fun a' w'=>∃ m,Pm m a' w') pick ⟨m,g,ph,st0,rfl,.refl _ _ g,hj,hR,h0⟩ fun a' w' hI=>?_
 obtain⟨⟨g1,ph1,st1,rfl,hl1,hj1,hR1,hI1⟩,_⟩:=hpick a' w' hI
 refine wpIn_mono (h _ ph1 st1 hI1 F nn hF r g1 a' hj1 hR1) ?_
 rintro ex a2 w2 ⟨g2,ph2,sx,st2,rfl,k3,e2,e1,e4,e5⟩
 cases sx with
 | norm =>
  cases ex<;>first | exact e4.elim | skip
  obtain⟨m',st3,hlt,hv3,hI2⟩:=e5
  obtain⟨g3,hw3,hl3,hR3⟩:=hv3 _ _ _ e2
  have hP:Pm m' a2 g2.w:=⟨g3,ph2,st3,hw3,(hl1.trans k3).trans (hl3.toL _),e1.step e2.good hl3,hR3,hI2⟩
  have hex:∃ m,Pm m a2 g2.w:=⟨m',hP⟩
  exact⟨hex,Nat.lt_of_le_of_lt ((hpick a2 g2.w hex).2 m' hP) hlt⟩
 | ret=>cases ex<;>first | exact e4.elim | exact⟨g2,ph2,_,st2,rfl,hl1.trans k3,e2,e1,e4,e5⟩
 | exit i=>cases ex<;>first | exact e4.elim | exact⟨g2,ph2,_,st2,rfl,hl1.trans k3,e2,e1,e4,e5⟩
 | pan t=>cases ex<;>first | exact e4.elim | exact⟨g2,ph2,_,st2,rfl,hl1.trans k3,e2,e1,e4,e5⟩
end
end Go.Proofs.YtlaogbbcipebgaaGreat.Sh
