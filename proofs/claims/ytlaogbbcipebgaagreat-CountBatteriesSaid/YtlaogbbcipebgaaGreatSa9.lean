/- Ranges over functions, in one picture: functions that range. Over whatever program. -/
import Derived.Test.YtlaogbbcipebgaaGreatSa8
namespace Go.Proofs.YtlaogbbcipebgaaGreat.Sh
set_option linter.unusedVariables false
set_option linter.unusedSimpArgs false
open Go
theorem SC.of_swm {P:Program} {f:FuncId} {fn:Func} {c:Code} {N:Nat} {args:List T} {L:List (Option Rw)} {R:SE→List (Option Rw)→Prop} (hf:P.funcs[f]?=some fn) (hb:fn.body=some c) (hN:fn.ntmps=N) (hl:Nat.ble args.length N=true)
  (h:SWM P L.length N c (Fin P fn L.length R) ⟨L8 0 args,L⟩):SC P f args L R:=fun g vs hg hM hv=>by
 refine callsIn_wide.1 (callsIn_of_wp_marks (n:=0) hf hb trivial ?_ rfl)
 obtain⟨s1,s2⟩:=A6y hv hl fn.ntmps hN
 have hR:StR g N ⟨L8 0 args,L⟩ { tmps:=vs.toArray++Array.replicate (fn.ntmps-vs.toArray.size) undef,defers:=[] } []:=⟨hg,hM,s1,s2,rfl⟩
 refine wpIn_mono (h 0 g.w.heap.size g _ [] hR (A72.nil (Nat.le_refl _))) ?_
 rintro ex a' w' ⟨g',sx,st',df',rfl,hle,k2,k3,k4,k5⟩
 have later:∀ w2,B83 g.w.heap.size g'.K g'.w w2→StR ⟨g'.M,g'.β,g'.K,w2⟩ N st' a' df'∧LeN L.length g ⟨g'.M,g'.β,g'.K,w2⟩:=fun w2 hs=>by
  obtain⟨e1,e2⟩:=A9N k2.good hs
  refine⟨⟨e1,k2.M,k2.size,fun i=>e2 _ _ (k2.ts i),k2.df⟩,⟨hle.e,by show _≤w2.heap.size;rw[hs.size];exact hle.size,hs.os.trans hle.os,hs.tape.trans hle.tape,hs.output.trans hle.output,fun b hb hn=>(hs.same b (.inl hb)).trans (hle.fr b hb hn),hle.k,hle.k',hle.nl⟩⟩
 have done:(sx = .ret∨sx = .norm)→LeavesInM Fence.wide 0 P fn a'.tmps (fun e w'=>∃ g' se L',g'.w=w'∧P6 g'∧Le g g'∧g'.M=ofL L'∧SER g' se e∧R se L') a'.defers .returning g'.w:=fun hs=>by
  have h6:∃ ts κ t L',A8t P st' fn.results.toList ts∧Vw L.length ⟨[(0,B51 ts)],st'.L⟩ ⟨[(0,t)],L'⟩ κ∧R (.ret t) L':=by rcases hs with rfl | rfl<;>exact k5
  obtain⟨ts,κ,t,L',e1,e2,e4⟩:=h6
  rw[k2.df]
  refine B5H (by intro h;cases h) 0 df' g'.w k3.nd (db:=g.w.heap.size) (K:=g'.K) k3.all fun w2 hs2=>?_
  obtain⟨q1,q2⟩:=later w2 hs2
  obtain⟨cs,f4,f5⟩:=B3h q1 e1
  obtain⟨g'',f1,f2,f3⟩:=e2.see (B5z q1.good q1.M (B17 f5))
  have f6:results fn a'.tmps=(do let vs ← fn.results.mapM (B4q a'.tmps);pure (if h:vs.size=1 then vs[0]else .tuple vs)):=rfl
  refine⟨if h:cs.toArray.size=1 then cs.toArray[0]else .tuple cs.toArray,?_,g'',.ret t,L',f1,f3.good,(q2.trans f2).toLe hM (Nat.le_refl _),f3.M,f3.ts 0,e4⟩
  have f7:(fn.results.toList.mapM (B4q a'.tmps)).run P w2 = .ok cs w2:=f4
  rw[f6,Array.mapM_eq_mapM_toList,Sem.run_bind,Sem.run_map,f7]
  rfl
 cases sx with
 | norm=>cases ex<;>first | exact k4.elim | exact done (.inr rfl)
 | ret=>cases ex<;>first | exact k4.elim | exact done (.inl rfl)
 | exit i=>exact k5.elim
 | pan t =>
  cases ex<;>first | exact k4.elim | skip
  obtain⟨v,rfl,hv'⟩:=k4
  obtain⟨κ,st'',e1,e2,t',rfl,e3,e4⟩:=k5
  show LeavesInM Fence.wide 0 P fn a'.tmps _ a'.defers (.panicking _) g'.w
  rw[k2.df]
  refine B5H (by intro h;cases h) 0 df' g'.w k3.nd (db:=g.w.heap.size) (K:=g'.K) k3.all fun w2 hs2=>?_
  obtain⟨q1,q2⟩:=later w2 hs2
  obtain⟨v1,v2⟩:=A9T q1.good q1.M e1.nd e1.len e1.rows
  refine⟨⟨ofL st''.L,fun n=>g'.β (kap κ n),g'.K,w2⟩,.pan t',st''.L,rfl,v1,?_,rfl,⟨v,rfl,v2 _ _ e3 ((A9N k2.good hs2).2 _ _ hv')⟩,e4⟩
  refine LeN.toLe (n0:=L.length) (q2.trans ⟨fun n hn hne=>?_,Nat.le_refl _,rfl,rfl,rfl,fun _ _ _=>rfl,fun _ h=>h,fun _ _ h => .inl h,fun n r hn h0 _ hnl=>?_⟩) hM (Nat.le_refl _)
  ·rw[q1.M]at hne
   simp only[ofL,ne_eq,List.getElem?_eq_none_iff,Nat.not_le]at hne
   obtain⟨d1,d2⟩:=e1.base n hn hne
   exact⟨by simp only[ofL,ne_eq,List.getElem?_eq_none_iff,e1.len];omega,by show g'.β (kap κ n)=_;rw[d2]⟩
  ·obtain⟨o',d1,d2⟩:=A6G e1.rows n (some r) hn
   rw[Nat.zero_add]at d1
   refine hnl (kap κ n) (r.ren (kap κ)) ?_ h0 rfl
   rw[q1.M];unfold ofL;rw[d1,(d2 r rfl).1]
theorem SWJ.seen {P:Program} {X:JX} {N:Nat} {Q:SX→SX→St→Prop} {ph:SX} {c:Code} {st st':St} (k:∀ (g:G) (a:Act),StR g N st a []→∃ g',g'.w=g.w∧LeN X.n1 g g'∧StR g' N st' a []) (h:SWJ P X N c Q ph st'):SWJ P X N c Q ph st:=fun F nn hF r g a hj hR=>by
 obtain⟨g',hw,hle,hR'⟩:=k g a hR
 have:=h F nn hF r g' a (hj.step hR.good hle) hR'
 rw[hw]at this
 exact wpIn_mono this fun _ _ _ hq=>hq.trans (hle.toL _)
theorem SWJ.own {P:Program} {X:JX} {N:Nat} {Q:SX→SX→St→Prop} {ph:SX} {c:Code} {ts ts':List (Nat × T)} {L L':List (Option Rw)} (s:Nat) (hs:Nat.beq s 0=false) {m:Nat} {nr:List Nat} (hm:A4f.drop L.length=m::nr) (hts:B21 m s ts ts') (hL:A92 m s L L') (h:SWJ P X N c Q ph ⟨ts',L'++[some ⟨s,[]⟩]⟩):SWJ P X N c Q ph ⟨ts,L⟩ :=
 SWJ.seen (fun _ _ hR=>A9g X.n1 s hs hm hts hL hR) h
theorem SWJ.fz {P:Program} {X:JX} {N:Nat} {Q:SX→SX→St→Prop} {ph:SX} {c:Code} {ts ts':List (Nat × T)} {L L':List (Option Rw)} {α:Type} {w:List α} {f:α→D} (n s:Nat) (hn0:L[n]?=some (some ⟨s,w.map fun a => .d (f a)⟩)) (hts:FzS n s (w.map f) ts ts') (hL:FzR n s (w.map f) (L.set n none) L') (h:SWJ P X N c Q ph ⟨ts',L'⟩):SWJ P X N c Q ph ⟨ts,L⟩ :=
 SWJ.seen (fun _ _ hR=>C0l X.n1 n s hn0 hts hL hR) h
theorem SWM.seen {P:Program} {n0 N:Nat} {Q:SX→St→Prop} {c:Code} {st st':St} (k:∀ (g:G) (a:Act) (df:List Deferred),StR g N st a df→∃ g',g'.w=g.w∧LeN n0 g g'∧StR g' N st' a df) (h:SWM P n0 N c Q st'):SWM P n0 N c Q st:=fun nn db g a df hR hd=>by
 obtain⟨g',hw,hle,hR'⟩:=k g a df hR
 have:=h nn db g' a df hR' (hd.stepN hR.good hle)
 rw[hw]at this
 exact wpIn_mono this fun _ _ _ ⟨g2,sx,st',df',h1,h2,h3⟩=>⟨g2,sx,st',df',h1,hle.trans h2,h3⟩
end Go.Proofs.YtlaogbbcipebgaaGreat.Sh
