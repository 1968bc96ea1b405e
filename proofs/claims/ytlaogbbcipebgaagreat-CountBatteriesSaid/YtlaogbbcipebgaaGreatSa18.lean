/- Rounds that may panic. Over whatever program. -/
import Derived.Test.YtlaogbbcipebgaaGreatSa7
namespace Go.Proofs.YtlaogbbcipebgaaGreat.Sh
set_option linter.unusedVariables false
set_option linter.unusedSimpArgs false
open Go
def B4X:List Item→Prop
 | .call _ _ _ _::_=>False
 | _=>True
def B07 (I:Machine→Prop) (P:Program) (m:Machine) (b:Frame) (k:List Item) (cs:List Frame):Exit→Act→World→Prop
 | .panic ch,a,w=>∃ todo,B4X todo∧StepsIn I P m (lone { b.atR a todo with mode := .panicking ch } cs w)
 | e,a,w=>ArrivesIn I P m b k cs e a w
def wpR (F:Fence) (n:Nat) (P:Program) (c:Code) (Q:Exit→Act→World→Prop) (a:Act) (w:World):Prop :=
 ∀ (b:Frame) (k:List Item) (cs:List Frame),b.roundOf=F.round→F.fn b.fn→F.room (cs.length+1+n) →
  ∃ e a' w',Q e a' w'∧B07 (Machine.fenced P F) P (lone (b.atR a (.code c::k)) cs w) b k cs e a' w'
section
variable {F:Fence} {n:Nat} {P:Program} {Q:Exit→Act→World→Prop} {a:Act} {w:World}
theorem B07.of {I:Machine→Prop} {m:Machine} {b:Frame} {k:List Item} {cs:List Frame} {e:Exit} (h:ArrivesIn I P m b k cs e a w) (he:∀ ch,e ≠ .panic ch):B07 I P m b k cs e a w:=by
 cases e<;>first | exact h | exact(he _ rfl).elim
theorem B07.to {I:Machine→Prop} {m:Machine} {b:Frame} {k:List Item} {cs:List Frame} {e:Exit} (h:B07 I P m b k cs e a w) (he:∀ ch,e ≠ .panic ch):ArrivesIn I P m b k cs e a w:=by
 cases e<;>first | exact h | exact(he _ rfl).elim
theorem B8u {c:Code} (h:c.wpIn F n P Q a w) (hq:∀ ch a w,¬ Q (.panic ch) a w):wpR F n P c Q a w:=fun b k cs h1 h2 h3 =>
 let ⟨e,a',w',q,r⟩:=h b k cs h1 h2 h3
 ⟨e,a',w',q,.of r fun ch h=>hq ch a' w' (h▸q)⟩
theorem A6M {c:Code} {Q':Exit→Act→World→Prop} (h:wpR F n P c Q a w) (hq:∀ e a w,Q e a w→Q' e a w):wpR F n P c Q' a w:=fun b k cs h1 h2 h3 =>
 let ⟨e,a',w',q,r⟩:=h b k cs h1 h2 h3
 ⟨e,a',w',hq _ _ _ q,r⟩
theorem B07.steps {I:Machine→Prop} {m m1:Machine} {b:Frame} {k:List Item} {cs:List Frame} {e:Exit} (h:StepsIn I P m m1) (h':B07 I P m1 b k cs e a w):B07 I P m b k cs e a w:=by
 cases e with
 | panic ch=>obtain⟨todo,t,r⟩:=h';exact⟨todo,t,h.trans r⟩
 | _=>exact B07.of (ArrivesIn.of_steps h (B07.to h' (fun ch e=>by cases e))) (fun ch e=>by cases e)
def A8e (Q:List PanicEntry→Act→World→Prop):Exit→Act→World→Prop
 | .panic ch,a,w=>Q ch a w
 | _,_,_=>False
section
variable {ops:Array Oper} {Q:List PanicEntry→Act→World→Prop}
theorem B9q (l:List Nat) :
 ∀ (a:Act) (w:World),wpOpsIn F n P ops (A8e Q) l a w→∀ (b:Frame) (k:List Item) (cs:List Frame),b.roundOf=F.round→F.fn b.fn→F.room (cs.length+1+n) →
   ∃ ch a' w' todo,Q ch a' w'∧B4X todo∧StepsIn (Machine.fenced P F) P (lone (b.atR a (.inRegion ops l::k)) cs w) (lone { b.atR a' todo with mode := .panicking ch } cs w'):=by
 induction l with
 | nil=>exact fun a w h=>absurd h (by simp[wpOpsIn,A8e])
 | cons i rest ih =>
   intro a w h b k cs hro hb hr
   simp only[wpOpsIn]at h
   cases ho:ops[i]? with
   | none =>
     simp only[ho]at h
     obtain⟨ch,a',w',todo,hq,ht,harr⟩:=ih a w h b k cs hro hb hr
     have hs:=stepR_op_skip (P:=P) (b:=b) (a:=a) (k:=k) (cs:=cs) (w:=w) (ops:=ops) (i:=i) (rest:=rest) (by simp[ho])
     simp only[ho,Option.bind_none,Act.put]at hs
     exact⟨ch,a',w',todo,hq,ht,.head (fenced_noOper hb hr ho) hs harr⟩
   | some o =>
     simp only[ho]at h
     by_cases hw:Region.wanted o (yielded ops a.tmps)=true
     ·simp only[hw,if_true,Oper.wpIn]at h
      obtain⟨habout,h⟩:=h
      have h0:(lone (b.atR a (.inRegion ops (i::rest)::k)) cs w).fenced P F:=fenced_oper hb hr ho habout
      simp only[Oper.uponIn]at h
      have hg:=stepGR_op (P:=P) (b:=b) (k:=k) (cs:=cs) (w:=w) (rest:=rest) ho hw
      rw[hro]at hg
      have hfin:∀ v,(b.atR a (.inRegion ops (i::rest)::k)).finish v=b.atR (a.put o.dst v) (.inRegion ops rest::k):=by
       intro v;rw[Frame.finish_atR,ho];rfl
      split at h
      ·rename_i v w' hr'
       obtain⟨ch,a',w'',todo,hq,ht,harr⟩:=ih _ _ h b k cs hro hb hr
       refine⟨ch,a',w'',todo,hq,ht,.head h0 (step_lone_go ?_) harr⟩
       rw[hg,← hfin];simp[stepG.apply,hr']
      ·rename_i w' hr'
       obtain⟨ch,a',w'',todo,hq,ht,harr⟩:=ih _ _ h b k cs hro hb hr
       refine⟨ch,a',w'',todo,hq,ht,.head h0 (step_lone_go ?_) harr⟩
       rw[hg,← hfin];simp[stepG.apply,hr']
      ·rename_i d w' hr'
       obtain⟨ch,a',w'',todo,hq,ht,harr⟩:=ih _ _ h b k cs hro hb hr
       refine⟨ch,a',w'',todo,hq,ht,.head h0 (step_lone_go ?_) harr⟩
       have:({ b.atR a (.inRegion ops (i::rest)::k)with defers:=d::a.defers }:Frame).finish undef =
        b.atR ({ a with defers:=d::a.defers }.put o.dst undef) (.inRegion ops rest::k):=by
        have:=Frame.finish_atR b { a with defers:=d::a.defers } ops i rest k undef
        rw[ho]at this;exact this
       rw[hg];simp only[stepG.apply,Sem.runT_eq,hr',GStep.bare_after]
       exact congrArg (fun fr=>GStep.go { frame:=fr,callers:=cs,status := .running,dying:=none } w') this
      ·rename_i f args w' hr'
       obtain⟨hn,hF,h⟩:=h
       have hroom:F.room ((b.atR a (.inRegion ops (i::rest)::k)::cs).length+1+(n-1)):=Fence.room_enter hr hn
       obtain⟨e,w'',fr,hR,hsteps,hfn,hleave⟩:=h (b.atR a (.inRegion ops (i::rest)::k)::cs) hroom
       have henter:step P (lone (b.atR a (.inRegion ops (i::rest)::k)) cs w) =
        .next (lone (Frame.enter P f args .normal) (b.atR a (.inRegion ops (i::rest)::k)::cs) w') :=
        step_lone_go (by rw[hg];simp[stepG.apply,hr',Frame.atR])
       cases e with
       | returned v =>
         have hl:(lone fr (b.atR a (.inRegion ops (i::rest)::k)::cs) w'').fenced P F:=fenced_leaving (hfn▸hF) hroom hleave
         obtain⟨ch,a',w₃,todo,hq,ht,harr⟩:=ih _ _ hR b k cs hro hb hr
         refine⟨ch,a',w₃,todo,hq,ht,.head h0 henter (StepsIn.trans (StepsIn.trans hsteps (.one hl ?_)) harr)⟩
         rw[← hfin];exact step_leave_returned hleave
       | panicked chain =>
         have hl:(lone fr (b.atR a (.inRegion ops (i::rest)::k)::cs) w'').fenced P F:=fenced_leaving (hfn▸hF) hroom hleave
         refine⟨chain,a,w'',.inRegion ops (i::rest)::k,hR,trivial,.head h0 henter (StepsIn.trans hsteps (.one hl ?_))⟩
         rw[← Frame.raise_atR];exact step_leave_panicked hleave
       | outgrown =>
         obtain⟨a₀,w₀,hq⟩:=hR
         exact hq.elim
      ·rename_i row args w' hr'
       obtain⟨hn,h⟩:=h
       obtain⟨v,w'',hR,hsteps⟩:=h (b.atR a (.inRegion ops (i::rest)::k)) cs (Fence.room_enter hr hn)
       have henter:step P (lone (b.atR a (.inRegion ops (i::rest)::k)) cs w) =
        .next (lone (Frame.ofRow P row args .normal) (b.atR a (.inRegion ops (i::rest)::k)::cs) w') :=
        step_lone_go (by rw[hg];simp[stepG.apply,hr',Frame.atR])
       obtain⟨ch,a',w₃,todo,hq,ht,harr⟩:=ih _ _ hR b k cs hro hb hr
       refine⟨ch,a',w₃,todo,hq,ht,.head h0 henter (StepsIn.trans ?_ harr)⟩
       rw[← hfin];exact hsteps
      ·rename_i l f tmps assign body w' hr'
       obtain⟨hn,_,h⟩:=h
       obtain⟨e,w'',hR,hsteps⟩:=h (b.atR a (.inRegion ops (i::rest)::k)) cs (Fence.room_enter hr hn)
       have henter:step P (lone (b.atR a (.inRegion ops (i::rest)::k)) cs w) =
        .next (lone (Frame.round l f tmps assign body .normal) (b.atR a (.inRegion ops (i::rest)::k)::cs) w') :=
        step_lone_go (by rw[hg];simp[stepG.apply,hr',Frame.atR])
       cases e with
       | returned v =>
         obtain⟨ch,a',w₃,todo,hq,ht,harr⟩:=ih _ _ hR b k cs hro hb hr
         refine⟨ch,a',w₃,todo,hq,ht,.head h0 henter (StepsIn.trans ?_ harr)⟩
         rw[← hfin];exact hsteps
       | panicked chain =>
         refine⟨chain,a,w'',.inRegion ops (i::rest)::k,hR,trivial,.head h0 henter ?_⟩
         rw[← Frame.raise_atR];exact hsteps
       | outgrown =>
         obtain⟨a₀,w₀,hq⟩:=hR
         exact hq.elim
      ·rename_i v w' hr'
       refine⟨_,a,w',.inRegion ops (i::rest)::k,h,trivial,.one h0 (step_lone_go ?_)⟩
       rw[hg,← Frame.raise_atR];simp[stepG.apply,hr']
      ·exact h.elim
     ·simp only[hw,if_false,Bool.false_eq_true]at h
      obtain⟨habout,h⟩:=h
      obtain⟨ch,a',w',todo,hq,ht,harr⟩:=ih _ _ h b k cs hro hb hr
      have hs:=stepR_op_skip (P:=P) (b:=b) (a:=a) (k:=k) (cs:=cs) (w:=w) (ops:=ops) (i:=i) (rest:=rest)
       (by simp[ho];simpa using hw)
      simp only[ho,Option.bind_some]at hs
      exact⟨ch,a',w',todo,hq,ht,.head (fenced_oper hb hr ho habout) hs harr⟩
end
theorem B9p {id:Nat} {l:List Oper} {Q:List PanicEntry→Act→World→Prop} (h:wpListIn F n P l.toArray (A8e Q) l a w):wpR F n P (.region id l.toArray false) (A8e Q) a w:=by
 intro b k cs hro hb hr
 have h':wpOpsIn F n P l.toArray (A8e Q) (List.range l.toArray.size) a w:=by
  rw[List.range_eq_range',← Array.length_toList,wpOpsIn_eq_wpListIn l.toArray.toList 0 (by simp)];simpa using h
 obtain⟨ch,a',w',todo,hq,ht,hs⟩:=B9q _ a w h' b k cs hro hb hr
 exact⟨.panic ch,a',w',hq,todo,ht,.head (fenced_calm hb hr rfl) stepR_region hs⟩
theorem A8o {fr c:Frame} {cs:List Frame} {chain:List PanicEntry} (hm:fr.mode = .panicking chain) (hd:fr.defers=[]) (ht:B4X fr.todo) :
 step P (lone fr (c::cs) w) = .next (lone (c.raise chain) cs w):=by
 refine step_lone_go ?_
 have hc:fr.catches P=false:=by
  unfold Frame.catches
  split
  ·rename_i h;rw[h]at ht;exact ht.elim
  ·rfl
 simp[stepG,unwind,hm,hd,hc]
def C0O (P:Program) (l:Nat) (R:Ending→World→Prop):Exit→Act→World→Prop
 | .normal,a,w=>a.defers=[]∧∃ v w',(Instr.endRound l none).run P w = .ok v w'∧R (.returned v) w'
 | .ret,a,w=>a.defers=[]∧∃ v w',(Instr.endRound l (some .ret)).run P w = .ok v w'∧R (.returned v) w'
 | .exit i,a,w=>a.defers=[]∧∃ v w',(Instr.endRound l (some (.exit i))).run P w = .ok v w'∧R (.returned v) w'
 | .panic ch,a,w=>a.defers=[]∧R (.panicked ch) w
 | _,_,_=>False
theorem B6N {l:Nat} {f:FuncId} {tmps:Array Value} {assign body:Code} {R:Ending→World→Prop} (hF:F.fn f)
  (h:assign.wpIn (F.inRound l) n P (Exit.then (fun a1 w1=>∃ w2,(Instr.beginRound l).run P w1 = .ok () w2∧wpR (F.inRound l) n P body (C0O P l R) a1 w2) (fun _ _ _=>False)) { tmps:=tmps,defers:=[] } w):RoundIn F n P l f tmps assign body w R:=by
 refine⟨hF,fun c cs hr=>?_⟩
 let b:Frame:={ (default:Frame)with fn:=f,kind := .normal,roundOf:=some l }
 have hb0:Frame.round l f tmps assign body .normal=b.atR { tmps:=tmps,defers:=[] } [.code assign,.beginRound,.code body]:=by simp[Frame.round,Frame.atR,b]
 have hF':(F.inRound l).fn b.fn:=hF
 obtain⟨e,a1,w1,hq,harr⟩:=h b [.beginRound,.code body] (c::cs) rfl hF' hr
 rw[← hb0]at harr
 cases e with
 | normal =>
  obtain⟨w2,hbr,hbody⟩:=hq
  have s1:=StepsIn.trans harr (.one (fenced_calm (fr:=b.atR a1 [.beginRound,.code body]) hF' hr rfl) (stepR_beginRound rfl hbr))
  obtain⟨e2,a2,w3,hq2,harr2⟩:=hbody b [] (c::cs) rfl hF' hr
  cases e2 with
  | normal =>
   obtain⟨_,v,w4,hend,hR⟩:=hq2
   exact⟨.returned v,w4,hR,s1.trans (StepsIn.trans harr2 (.one (fenced_calm (fr:=b.atR a2 []) hF' hr rfl) (stepR_round_end rfl rfl hend)))⟩
  | ret =>
   obtain⟨_,v,w4,hend,hR⟩:=hq2
   obtain⟨k1,hs⟩:=harr2.2 rfl
   exact⟨.returned v,w4,hR,s1.trans (StepsIn.trans hs (.one (fenced_calm (fr:=b.atR a2 (.code .ret::k1)) hF' hr rfl) (stepR_round_ret rfl rfl hend)))⟩
  | exit id =>
   obtain⟨_,v,w4,hend,hR⟩:=hq2
   obtain⟨k1,hk,hs⟩:=harr2.2 rfl rfl
   exact⟨.returned v,w4,hR,s1.trans (StepsIn.trans hs (.one (fenced_calm (fr:=b.atR a2 (.code (.exit id)::k1)) hF' hr rfl) (stepR_round_exit rfl rfl hk hend)))⟩
  | panic ch =>
   obtain⟨hd,hR⟩:=hq2
   obtain⟨todo,ht,hs⟩:=harr2
   refine⟨.panicked ch,w3,hR,s1.trans (StepsIn.trans hs (.one ?_ (A8o rfl hd ht)))⟩
   refine fenced_calm (F:=F.inRound l) hF' hr ?_
   simp[Frame.about,Frame.atR,hd]
  | goto t=>exact hq2.elim
  | outgrown=>exact hq2.elim
 | _=>exact hq.elim
end
def SWY (P:Program) (n0 N:Nat) (c:Code) (Q:SX→St→Prop) (st:St):Prop :=
 ∀ (F:Fence) (nn:Nat),Wd F→∀ (g:G) (a:Act),StR g N st a []→wpR F nn P c (fun ex a' w'=>∃ g' sx st',g'.w=w'∧LeN n0 g g'∧StR g' N st' a' []∧XR g' sx ex∧Q sx st') a g.w
section
variable {P:Program} {n0 N:Nat} {Q:SX→St→Prop} {st:St}
theorem SWY.mono {c:Code} {Q':SX→St→Prop} (h:SWY P n0 N c Q st) (k:∀ sx st,Q sx st→Q' sx st):SWY P n0 N c Q' st:=fun F nn hF g a hR =>
 A6M (h F nn hF g a hR) fun _ _ _ ⟨g',sx,st',h1,h2,h3,h4,h5⟩=>⟨g',sx,st',h1,h2,h3,h4,k _ _ h5⟩
theorem C0h {c:Code} (h:SW P n0 N [] c Q st) (hq:∀ t st,¬ Q (.pan t) st):SWY P n0 N c Q st:=fun F nn hF g a hR =>
 B8u (h F nn hF g a hR) fun ch a w ⟨g',sx,st',h1,h2,h3,h4,h5⟩=>by cases sx<;>first | exact h4.elim | exact hq _ _ h5
theorem B8o {c:Code} {n1:Nat} {K:SX→List (Option Rw)→Prop} (h:SW P n0 N [] c (rdJ n1 K) st):SWY P n0 N c (rdP n1 K) st :=
 (C0h h fun t st h=>h).mono fun sx st h=>by cases sx<;>first | exact h | exact h.elim
end
end Go.Proofs.YtlaogbbcipebgaaGreat.Sh
