/- What functions of the program compute: plain functions, and the proofs. -/
import Derived.Test.YtlaogbbcipebgaaGreatW5
set_option linter.unusedVariables false
set_option linter.unusedSimpArgs false
open Go Go.Proofs.YtlaogbbcipebgaaGreat.Sh Go.Proofs
namespace Go.Proofs.YtlaogbbcipebgaaGreat
set_option maxRecDepth 100000
set_option maxHeartbeats 40000000
def A17 (F:Nat) (atv kind what:Int):Option C7:=some (C7.mk atv kind what 0 0 0 0 0)
theorem Z5 {F atv kind what r} (h:A17 F atv kind what=some r):PC Tryz.prog 27 [vI atv,vI kind,vI what] (C7.d r):=by
 rw[A17]at h
 refine oW Tryz.func27 ?_
 refine gY 1 R (gU 3 R (S1 (v := .d (.agg [vI atv,vI kind,vI what,vI 0,vI 0,vI 0,vI 0,vI 0])) tb R R (List.cons_ne_nil _ _) R R R R R R (eU 1 R (C9 ?_))))
 cases h
 exact f0 R R R (.cons (rc tb R) .nil)
def A9F (F:Nat):Option D4:=(A9E F ).bind fun rv=>some (D4.mk rv.zones rv.doors rv.people rv.keys rv.squibs rv.panel rv.wait [(ByteArray.mk #[114,97,110,103,101]),(ByteArray.mk #[115,97,102,101,116,121])] [(D9.mk (ByteArray.mk #[109,97,105,110]) 1000 2)] [(E0.mk (ByteArray.mk #[102,105,108,108]) [] 100 200 false [] [] [] []),(E0.mk (ByteArray.mk #[112,111,119,101,114]) [0] 10 500 false [0] [] [] []),(E0.mk (ByteArray.mk #[99,104,101,99,107]) [0] 50 300 false [] [0] [] []),(E0.mk (ByteArray.mk #[112,111,108,108]) [1,2] 0 20 true [] [0] [] []),(E0.mk (ByteArray.mk #[108,97,117,110,99,104]) [3] 5 60 true [] [0] [0] [])] [1,3] 200 400)
theorem A7Y {F r} (h:A9F F =some r):PC Tryz.prog 39 [] (D4.d r):=by
 rw[A9F]at h
 refine PC.of_lend ?_
 refine oW Tryz.func39 ?_
 refine gY 1 R (qG (P7 tb R R R R R R R R R R R R R (eU 1 R (qG ?_))))
 obtain⟨rv,k,h⟩:=H1 h
 refine J5 (B2I k) eK R R R R (P7 tb R R R R R R R R R R R R R (S1 (v := .d (.agg [vS (ByteArray.mk #[109,97,105,110]),vI 1000,vI 2])) tb R R (List.cons_ne_nil _ _) R R R R R R (P7 tb R R R R R R R R R R R R R ?_)))
 refine S1 (v := .d (.agg [vS (ByteArray.mk #[102,105,108,108]),.v (.slice none 0 0),vI 100,vI 200,vB false,.v (.slice none 0 0),.v (.slice none 0 0),.v (.slice none 0 0),.v (.slice none 0 0)])) tb R R (List.cons_ne_nil _ _) R R R R R R (P7 tb R R R R R R R R R R R R R (rU 1 R ?_))
 refine S1 (v := .agg [.d (vS (ByteArray.mk #[112,111,119,101,114])),.row 4 1 0 ([0]).length,dI 10,dI 500,dB false,.row 1 1 0 ([0]).length,.d (.v (.slice none 0 0)),.d (.v (.slice none 0 0)),.d (.v (.slice none 0 0))]) tb R R (List.cons_ne_nil _ _) R R R R R R (P7 tb R R R R R R R R R R R R R (rU 1 R ?_))
 refine S1 (v := .agg [.d (vS (ByteArray.mk #[99,104,101,99,107])),.row 5 1 0 ([0]).length,dI 50,dI 300,dB false,.d (.v (.slice none 0 0)),.row 1 1 0 ([0]).length,.d (.v (.slice none 0 0)),.d (.v (.slice none 0 0))]) tb R R (List.cons_ne_nil _ _) R R R R R R (P7 tb R R R R R R R R R R R R R (rU 1 R ?_))
 refine S1 (v := .agg [.d (vS (ByteArray.mk #[112,111,108,108])),.row 6 1 0 ([1,2]).length,dI 0,dI 20,dB true,.d (.v (.slice none 0 0)),.row 1 1 0 ([0]).length,.d (.v (.slice none 0 0)),.d (.v (.slice none 0 0))]) tb R R (List.cons_ne_nil _ _) R R R R R R (P7 tb R R R R R R R R R R R R R (rU 2 R ?_))
 refine S1 (v := .agg [.d (vS (ByteArray.mk #[108,97,117,110,99,104])),.row 7 1 0 ([3]).length,dI 5,dI 60,dB true,.d (.v (.slice none 0 0)),.row 1 1 0 ([0]).length,.row 1 1 0 ([0]).length,.d (.v (.slice none 0 0))]) tb R R (List.cons_ne_nil _ _) R R R R R R (P7 tb R R R R R R R R R R R R R (P7 tb R R R R R R R R R R R R R ?_))
 refine S1 (v := .d (.agg [vI 200,vI 400])) tb R R (List.cons_ne_nil _ _) R R R R R R ?_
 refine S1 (v := .agg [.d (.arr 8 ((rv.zones).map F6.d)),.d (.arr 2 ((rv.doors).map G6.d)),.d (.arr 2 ((rv.people).map E2.d)),.d (.arr 1 ((rv.keys).map vS)),.d (.arr 6 ((rv.squibs).map D1.d)),dI rv.panel,dI rv.wait,.row 2 1 0 ([(ByteArray.mk #[114,97,110,103,101]),(ByteArray.mk #[115,97,102,101,116,121])]).length,.row 3 3 0 ([(D9.mk (ByteArray.mk #[109,97,105,110]) 1000 2)]).length,.row 8 9 0 5,.row 9 1 0 ([1,3]).length,dI 200,dI 400]) tb R R (List.cons_ne_nil _ _) kR kR kR kR R R ?_
 refine eU 1 R (C9 ?_)
 cases h
 exact(U0 (t := .agg [.d (.arr 8 ((rv.zones).map F6.d)),.d (.arr 2 ((rv.doors).map G6.d)),.d (.arr 2 ((rv.people).map E2.d)),.d (.arr 1 ((rv.keys).map vS)),.d (.arr 6 ((rv.squibs).map D1.d)),dI rv.panel,dI rv.wait,.row 0 1 0 ([(ByteArray.mk #[114,97,110,103,101]),(ByteArray.mk #[115,97,102,101,116,121])]).length,.row 1 3 0 ([(D9.mk (ByteArray.mk #[109,97,105,110]) 1000 2)]).length,.row 2 9 0 5,.row 8 1 0 ([1,3]).length,dI 200,dI 400]) (L:=[C4g [(ByteArray.mk #[114,97,110,103,101]),(ByteArray.mk #[115,97,102,101,116,121])],C3x [(D9.mk (ByteArray.mk #[109,97,105,110]) 1000 2)],some ⟨9,[.d (.agg [vS (ByteArray.mk #[102,105,108,108]),.v (.slice none 0 0),vI 100,vI 200,vB false,.v (.slice none 0 0),.v (.slice none 0 0),.v (.slice none 0 0),.v (.slice none 0 0)]),.agg [.d (vS (ByteArray.mk #[112,111,119,101,114])),.row 3 1 0 ([0]).length,dI 10,dI 500,dB false,.row 4 1 0 ([0]).length,.d (.v (.slice none 0 0)),.d (.v (.slice none 0 0)),.d (.v (.slice none 0 0))],.agg [.d (vS (ByteArray.mk #[99,104,101,99,107])),.row 5 1 0 ([0]).length,dI 50,dI 300,dB false,.d (.v (.slice none 0 0)),.row 4 1 0 ([0]).length,.d (.v (.slice none 0 0)),.d (.v (.slice none 0 0))],.agg [.d (vS (ByteArray.mk #[112,111,108,108])),.row 6 1 0 ([1,2]).length,dI 0,dI 20,dB true,.d (.v (.slice none 0 0)),.row 4 1 0 ([0]).length,.d (.v (.slice none 0 0)),.d (.v (.slice none 0 0))],.agg [.d (vS (ByteArray.mk #[108,97,117,110,99,104])),.row 7 1 0 ([3]).length,dI 5,dI 60,dB true,.d (.v (.slice none 0 0)),.row 4 1 0 ([0]).length,.row 4 1 0 ([0]).length,.d (.v (.slice none 0 0))]]⟩,B0u [0],B0u [0],B0u [0],B0u [1,2],B0u [3],B0u [1,3]]) (κ:=[2,3,8,4,1,5,6,7,9]) R (.cons (rc tb R) .nil) (vK (.row R (.row R (.cons R R C38))) R) ⟨_,R,(.aggL (dL (dL (dL (dL (dL (dL (dL (.cons (.row R R) (.cons (.row R R) (.cons (.rowL R R (.cons (.aggDL (dL (.cons .nilA (dL (dL (dL (.cons .nilA (.cons .nilA (.cons .nilA (.cons .nilA .nil)))))))))) (.cons (.aggL (dL (.cons (.row R R) (dL (dL (dL (.cons (.row R R) (.cons .nilA (.cons .nilA (.cons .nilA .nil)))))))))) (.cons (.aggL (dL (.cons (.row R R) (dL (dL (dL (.cons .nilA (.cons (.row R R) (.cons .nilA (.cons .nilA .nil)))))))))) (.cons (.aggL (dL (.cons (.row R R) (dL (dL (dL (.cons .nilA (.cons (.row R R) (.cons .nilA (.cons .nilA .nil)))))))))) (.cons (.aggL (dL (.cons (.row R R) (dL (dL (dL (.cons .nilA (.cons (.row R R) (.cons (.row R R) (.cons .nilA .nil)))))))))) .nil)))))) (.cons (.row R R) (dL (dL .nil))))))))))))))⟩)
def B1Z (F:Nat):Option (List C7):=(A17 F 0 1 0).bind fun rv=>(A17 F 90 2 0).bind fun rv2=>(A17 F 100 2 0).bind fun rv3=>(A17 F 100 1 2).bind fun rv4=>(A17 F 100 1 1).bind fun rv5=>(A17 F 110 1 2).bind fun rv6=>(A17 F 120 2 1).bind fun rv7=>(A17 F 170 2 2).bind fun rv8=>(A17 F 180 1 3).bind fun rv9=>(A17 F 180 5 0).bind fun rv10=>(A17 F 181 5 1).bind fun rv11=>(A17 F 185 1 3).bind fun rv12=>(A17 F 190 2 3).bind fun rv13=>(A17 F 190 1 4).bind fun rv14=>(A17 F 199 2 4).bind fun rv15=>(A17 F 200 2 4).bind fun rv16=>some [rv,rv2,rv3,rv4,rv5,rv6,rv7,rv8,rv9,rv10,rv11,rv12,rv13,rv14,rv15,rv16]
theorem B63 {F r} (h:B1Z F =some r):SCR Tryz.prog 40 (List.map T.d []) [] (.row 0 8 0 (r).length) (List.map some [(B62 r)]):=by
 rw[B1Z]at h
 refine oW Tryz.func40 ?_
 refine gY 1 R (qG ?_)
 obtain⟨rv,k,h⟩:=H1 h
 refine J5 (Z5 k) eK R R R R ?_
 obtain⟨rv2,k2,h⟩:=H1 h
 refine J5 (Z5 k2) eK R R R R ?_
 obtain⟨rv3,k3,h⟩:=H1 h
 refine J5 (Z5 k3) eK R R R R ?_
 obtain⟨rv4,k4,h⟩:=H1 h
 refine J5 (Z5 k4) eK R R R R ?_
 obtain⟨rv5,k5,h⟩:=H1 h
 refine J5 (Z5 k5) eK R R R R ?_
 obtain⟨rv6,k6,h⟩:=H1 h
 refine J5 (Z5 k6) eK R R R R ?_
 obtain⟨rv7,k7,h⟩:=H1 h
 refine J5 (Z5 k7) eK R R R R ?_
 obtain⟨rv8,k8,h⟩:=H1 h
 refine J5 (Z5 k8) eK R R R R ?_
 obtain⟨rv9,k9,h⟩:=H1 h
 refine J5 (Z5 k9) eK R R R R ?_
 obtain⟨rv10,k10,h⟩:=H1 h
 refine J5 (Z5 k10) eK R R R R ?_
 obtain⟨rv11,k11,h⟩:=H1 h
 refine J5 (Z5 k11) eK R R R R ?_
 obtain⟨rv12,k12,h⟩:=H1 h
 refine J5 (Z5 k12) eK R R R R ?_
 obtain⟨rv13,k13,h⟩:=H1 h
 refine J5 (Z5 k13) eK R R R R ?_
 obtain⟨rv14,k14,h⟩:=H1 h
 refine J5 (Z5 k14) eK R R R R ?_
 obtain⟨rv15,k15,h⟩:=H1 h
 refine J5 (Z5 k15) eK R R R R ?_
 obtain⟨rv16,k16,h⟩:=H1 h
 refine J5 (Z5 k16) eK R R R R (P7 tb R R R R R R R R R R R R R (eU 1 R (C9 ?_)))
 cases h
 exact f2 [0] C23 R (.cons (.tmp 0) .nil) R
theorem B0S {F r} (h:B1Z F =some r):PC Tryz.prog 40 [] (.arr 8 ((r).map C7.d)):=(B63 h).toPC (.row rfl rfl)
def A7X (F:Nat):Option Bool:=(A9F F ).bind fun rv=>(B1Z F ).bind fun rv2=>(A36 F rv rv2).bind fun rv3=>(A9F F ).bind fun rv4=>(B1Z F ).bind fun rv5=>(A7A rv5 0 5).bind fun q=>(A3Z F rv4 q 120).bind fun rv6=>(A9F F ).bind fun rv7=>(A85 F rv7 []).bind fun rv8=>(A9F F ).bind fun rv9=>(B1Z F ).bind fun rv10=>(A3Z F rv9 rv10 300).bind fun rv11=>if rv3.2.2=0 then(if rv6.2=0 then(if rv8.2=0 then(if rv11.2=9 then(if(rv3.2.1.length:Int)=16 then((P3 rv3.2.1 14).bind fun e=>if e=187 then(if rv3.1.now=200 then(if rv6.1=200 then(some (decide (rv8.1=245)))else(some false))else(some false))else(some false))else(some false))else(some false))else(some false))else(some false))else(some false)
theorem B0R {F r} (h:A7X F =some r):PC Tryz.prog 22 [] (vB r):=by
 rw[A7X]at h
 refine oW Tryz.func22 ?_
 refine gY 1 R (qG ?_)
 obtain⟨rv,k,h⟩:=H1 h
 refine J5 (A7Y k) eK R R R R ?_
 obtain⟨rv2,k2,h⟩:=H1 h
 refine J5 (B0S k2) eK R R R R ?_
 obtain⟨rv3,k3,h⟩:=H1 h
 refine J5 (A6l k3) eK R R R R (eU 8 R (qG ?_))
 obtain⟨rv4,k4,h⟩:=H1 h
 refine J5 (A7Y k4) eK R R R R ?_
 obtain⟨rv5,k5,h⟩:=H1 h
 refine J5 (B0S k5) eK R R R R ?_
 obtain⟨q,iq,h⟩:=H1 h
 refine A6E tb R R R R R R iq R R ?_
 obtain⟨rv6,k6,h⟩:=H1 h
 refine J5 (A6d k6) eK R R R R (eU 5 R (qG ?_))
 obtain⟨rv7,k7,h⟩:=H1 h
 refine J5 (A7Y k7) eK R R R R ?_
 obtain⟨rv8,k8,h⟩:=H1 h
 refine A19 (B1B k8) R eK R R ((dL (.cons .nilA .nil))) R R (eU 5 R (qG ?_))
 obtain⟨rv9,k9,h⟩:=H1 h
 refine J5 (A7Y k9) eK R R R R ?_
 obtain⟨rv10,k10,h⟩:=H1 h
 refine J5 (B0S k10) eK R R R R ?_
 obtain⟨rv11,k11,h⟩:=H1 h
 refine J5 (A6d k11) eK R R R R (eU 5 R (gU 1 R ?_))
 refine Z3 R R R R (tJ h ?_) (nJ h ?_)
 ·intro h
  refine rU 2 R ?_
  refine Z3 R R R R (tJ h ?_) (nJ h ?_)
  ·intro h
   refine rU 3 R ?_
   refine Z3 R R R R (tJ h ?_) (nJ h ?_)
   ·intro h
    refine rU 3 R ?_
    refine Z3 R R R R (tJ h ?_) (nJ h ?_)
    ·intro h
     refine rU 3 R (I7 tb R ?_)
     refine Z3 R R R R (tJ h ?_) (nJ h ?_)
     ·intro h
      refine rU 3 R ?_
      obtain⟨e,ie,h⟩:=H1 h
      refine yE ie R R ?_
      refine Z3 R R R R (tJ h ?_) (nJ h ?_)
      ·intro h
       refine rU 4 R ?_
       refine Z3 R R R R (tJ h ?_) (nJ h ?_)
       ·intro h
        refine rU 3 R ?_
        refine Z3 R R R R (tJ h ?_) (nJ h ?_)
        ·intro h
         refine rU 3 R (A3s R R R R (eU 2 R (C9 ?_)))
         cases h
         exact f1 0 R
        intro h
        refine eU 6 R (C9 ?_)
        cases h
        exact f1 0 R
       intro h
       refine eU 10 R (C9 ?_)
       cases h
       exact f1 0 R
      intro h
      refine eU 15 R (C9 ?_)
      cases h
      exact f1 0 R
     intro h
     refine eU 21 R (C9 ?_)
     cases h
     exact f1 0 R
    intro h
    refine eU 26 R (C9 ?_)
    cases h
    exact f1 0 R
   intro h
   refine eU 30 R (C9 ?_)
   cases h
   exact f1 0 R
  intro h
  refine eU 34 R (C9 ?_)
  cases h
  exact f1 0 R
 intro h
 refine eU 37 R (C9 ?_)
 cases h
 exact f1 0 R
def C8b (F:Nat) (t:D4):Option Bool:=(C2x F t).bind fun rv6=>(C9D F t).bind fun rv7=>(B3w F rv6.1 rv7.1).bind fun rv8=>if rv8=true then(if rv6.2=rv7.2 then((A7X 100 ).bind fun rv9=>some rv9)else(some false))else(some false)
def C8c (F:Nat) (t:D4):Option Bool:=(C8A F t).bind fun rv3=>(C96 F t).bind fun rv4=>(B53 F rv3.1 rv4.1).bind fun rv5=>if rv5=true then(if rv3.2=rv4.2 then(C8b F t)else(some false))else(some false)
def C8h (F:Nat) (t:D4):Option Bool:=(A4P F t).bind fun rv=>(C8S F t).bind fun rv2=>if rv.1=rv2.1 then(if rv.2.1=rv2.2.1 then(if rv.2.2=rv2.2.2 then(C8c F t)else(some false))else(some false))else(some false)
theorem C9W {F t r} (h:C8h F t=some r):PC Tryz.prog 14 [D4.d t] (vB r):=by
 rw[C8h]at h
 refine oW Tryz.func14 ?_
 refine gY 2 R (gU 1 R ?_)
 obtain⟨rv,k,h⟩:=H1 h
 refine J5 (B0K k) eK R R R R (eU 7 R (gU 1 R ?_))
 obtain⟨rv2,k2,h⟩:=H1 h
 refine J5 (C95 k2) eK R R R R (eU 7 R (B8 ?_))
 refine W5 (fun zz:Unit=>C8c F t=some r) (fun zz:Unit=>⟨[(1,rf 0 13),(2,dB false)],[bx 13 (.d (D4.d t))]⟩) ?_ ?_
 ·clear h
  rintro⟨⟩ h
  rw[C8c]at h
  refine gU 1 R ?_
  obtain⟨rv3,k3,h⟩:=H1 h
  refine J5 (D0t k3) eK R R R R (eU 6 R (gU 1 R ?_))
  obtain⟨rv4,k4,h⟩:=H1 h
  refine J5 (D1o k4) eK R R R R (eU 6 R (B8 ?_))
  refine W5 (fun zz:Unit=>C8b F t=some r) (fun zz:Unit=>⟨[(1,rf 0 13),(2,dB false)],[bx 13 (.d (D4.d t))]⟩) ?_ ?_
  ·clear h
   rintro⟨⟩ h
   rw[C8b]at h
   refine gU 1 R ?_
   obtain⟨rv6,k6,h⟩:=H1 h
   refine A2X (C2B k6) eK R R R ((.row .nil)) R R R (eU 5 R (gU 1 R ?_))
   obtain⟨rv7,k7,h⟩:=H1 h
   refine A2X (D0k k7) eK R R R ((.row .nil)) R R R (eU 5 R (gU 2 R ?_))
   obtain⟨rv8,k8,h⟩:=H1 h
   refine A4k (B7c k8) eK R R ((.cons (.row R R) (.cons (.row R R) .nil))) R R (tI h ?_) (fI h ?_)
   ·intro c6 h
    refine rU 3 R ?_
    refine Z3 R R R R (tJ h ?_) (nJ h ?_)
    ·intro h
     refine rU 2 R ?_
     obtain⟨rv9,k9,h⟩:=H1 h
     refine J5 (B0R k9) eK R R R R (eU 2 R (C9 ?_))
     cases h
     exact f1 2 R
    intro h
    refine eU 5 R (C9 ?_)
    cases h
    exact f1 2 R
   intro c6 h
   refine eU 9 R (C9 ?_)
   cases h
   exact f1 2 R
  refine gU 2 R ?_
  obtain⟨rv5,k5,h⟩:=H1 h
  refine M6 (C1f k5) eK R R R R (tI h ?_) (fI h ?_)
  ·intro c4 h
   refine rU 4 R ?_
   refine V5 R R R R (nJ h ?_) (tJ h ?_)
   ·intro h
    refine eU 1 R (C0 R (gY 1 R (C9 ?_)))
    cases h
    exact f1 2 R
   intro h
   refine eU 1 R (zF (A6 ?_))
   exact .inl ⟨(),h,.vw (κ:=[0]) (vK (.cons R R .nil) R)⟩
  intro c4 h
  refine eU 6 R (C0 R (gY 1 R (C9 ?_)))
  cases h
  exact f1 2 R
 refine gU 2 R ?_
 refine V5 R R R R (nJ h ?_) (tJ h ?_)
 ·intro h
  refine eU 10 R (C0 R (gY 1 R (C9 ?_)))
  cases h
  exact f1 2 R
 intro h
 refine rU 3 R ?_
 refine V5 R R R R (nJ h ?_) (tJ h ?_)
 ·intro h
  refine eU 6 R (C0 R (gY 1 R (C9 ?_)))
  cases h
  exact f1 2 R
 intro h
 refine rU 4 R ?_
 refine V5 R R R R (nJ h ?_) (tJ h ?_)
 ·intro h
  refine eU 1 R (C0 R (gY 1 R (C9 ?_)))
  cases h
  exact f1 2 R
 intro h
 refine eU 1 R (zF (A6 ?_))
 exact .inl ⟨(),h,.prn [1,2] R⟩
end Go.Proofs.YtlaogbbcipebgaaGreat
