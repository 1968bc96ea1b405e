/- What functions of the program compute: plain functions, and the proofs. -/
import Derived.Test.YtlaogbbcipebgaaGreatW4
set_option linter.unusedVariables false
set_option linter.unusedSimpArgs false
open Go Go.Proofs.YtlaogbbcipebgaaGreat.Sh Go.Proofs
namespace Go.Proofs.YtlaogbbcipebgaaGreat
set_option maxRecDepth 100000
set_option maxHeartbeats 40000000
def A17 (F:Nat) (atv:Int) (kind:Int) (what:Int):Option C7:=some (C7.mk atv kind what 0 0 0 0 0)
theorem Z5 {F:Nat} {atv:Int} {kind:Int} {what:Int} {r:C7} (h:A17 F atv kind what=some r):PC Tryz.prog 27 [.v (.int .i64 atv),.v (.int .i64 kind),.v (.int .i64 what)] (C7.d r):=by
 rw[A17]at h
 refine SC.of_sw Tryz.func27 R R R ?_
 dsimp only[L8,List.map]
 refine qG (M5 tb R R R R R (eN (qG (A0 R (A0 R (A0 R (S1 (v := .d (.agg [vI atv,vI kind,vI what,vI 0,vI 0,vI 0,vI 0,vI 0])) tb R R (List.cons_ne_nil _ _) R R R R R R (I6 _ _ tb R (eN (C9 ?_))))))))))
 obtain rfl:=sI h
 exact U4 (t := .d (.agg [vI atv,vI kind,vI what,vI 0,vI 0,vI 0,vI 0,vI 0])) R R R (.cons (rc tb R) .nil)
def A9F (F:Nat) :Option D4:=Option.bind (A9E F ) fun rv=>some (D4.mk rv.zones rv.doors rv.people rv.keys rv.squibs rv.panel rv.wait [(ByteArray.mk #[114,97,110,103,101]),(ByteArray.mk #[115,97,102,101,116,121])] [(D9.mk (ByteArray.mk #[109,97,105,110]) 1000 2)] [(E0.mk (ByteArray.mk #[102,105,108,108]) [] 100 200 false [] [] [] []),(E0.mk (ByteArray.mk #[112,111,119,101,114]) [0] 10 500 false [0] [] [] []),(E0.mk (ByteArray.mk #[99,104,101,99,107]) [0] 50 300 false [] [0] [] []),(E0.mk (ByteArray.mk #[112,111,108,108]) [1,2] 0 20 true [] [0] [] []),(E0.mk (ByteArray.mk #[108,97,117,110,99,104]) [3] 5 60 true [] [0] [0] [])] [1,3] 200 400)
theorem A7Y {F:Nat}  {r:D4} (h:A9F F =some r):PC Tryz.prog 39 [] (D4.d r):=by
 rw[A9F]at h
 refine PC.of_lend ?_
 refine SC.of_sw Tryz.func39 R R R ?_
 dsimp only[L8,List.map]
 refine qG (M5 tb R R R R R (eN (qG (P7 tb R R R R R R R R R R R R R (A14 R R R (eN (qG ?_)))))))
 obtain⟨rv,hrv,h⟩:=H1 h
 refine J5 (B2I hrv) (.of (by kernel_rfl)) R R R R (P7 tb R R R R R R R R R R R R R (S1 (v := .d (.agg [.v (.string (ByteArray.mk #[109,97,105,110])),vI 1000,vI 2])) tb R R (List.cons_ne_nil _ _) R R R R R R (P7 tb R R R R R R R R R R R R R ?_)))
 refine S1 (v := .d (.agg [.v (.string (ByteArray.mk #[102,105,108,108])),.v (.slice none 0 0),vI 100,vI 200,.v (.bool false),.v (.slice none 0 0),.v (.slice none 0 0),.v (.slice none 0 0),.v (.slice none 0 0)])) tb R R (List.cons_ne_nil _ _) R R R R R R (P7 tb R R R R R R R R R R R R R (A0T R R R ?_))
 refine S1 (v := .agg [.d (.v (.string (ByteArray.mk #[112,111,119,101,114]))),.row 4 1 0 ([0]).length,.d (vI 10),.d (vI 500),.d (.v (.bool false)),.row 1 1 0 ([0]).length,.d (.v (.slice none 0 0)),.d (.v (.slice none 0 0)),.d (.v (.slice none 0 0))]) tb R R (List.cons_ne_nil _ _) R R R R R R (P7 tb R R R R R R R R R R R R R (A0T R R R ?_))
 refine S1 (v := .agg [.d (.v (.string (ByteArray.mk #[99,104,101,99,107]))),.row 5 1 0 ([0]).length,.d (vI 50),.d (vI 300),.d (.v (.bool false)),.d (.v (.slice none 0 0)),.row 1 1 0 ([0]).length,.d (.v (.slice none 0 0)),.d (.v (.slice none 0 0))]) tb R R (List.cons_ne_nil _ _) R R R R R R (P7 tb R R R R R R R R R R R R R (A0T R R R ?_))
 refine S1 (v := .agg [.d (.v (.string (ByteArray.mk #[112,111,108,108]))),.row 6 1 0 ([1,2]).length,.d (vI 0),.d (vI 20),.d (.v (.bool true)),.d (.v (.slice none 0 0)),.row 1 1 0 ([0]).length,.d (.v (.slice none 0 0)),.d (.v (.slice none 0 0))]) tb R R (List.cons_ne_nil _ _) R R R R R R (P7 tb R R R R R R R R R R R R R (A0T R R R (A0T R R R ?_)))
 refine S1 (v := .agg [.d (.v (.string (ByteArray.mk #[108,97,117,110,99,104]))),.row 7 1 0 ([3]).length,.d (vI 5),.d (vI 60),.d (.v (.bool true)),.d (.v (.slice none 0 0)),.row 1 1 0 ([0]).length,.row 1 1 0 ([0]).length,.d (.v (.slice none 0 0))]) tb R R (List.cons_ne_nil _ _) R R R R R R (P7 tb R R R R R R R R R R R R R (P7 tb R R R R R R R R R R R R R ?_))
 refine S1 (v := .d (.agg [vI 200,vI 400])) tb R R (List.cons_ne_nil _ _) R R R R R R ?_
 refine S1 (v := .agg [.d (.arr 8 ((rv.zones).map F6.d)),.d (.arr 2 ((rv.doors).map G6.d)),.d (.arr 2 ((rv.people).map E2.d)),.d (.arr 1 ((rv.keys).map vS)),.d (.arr 6 ((rv.squibs).map D1.d)),.d (vI rv.panel),.d (vI rv.wait),.row 2 1 0 ([(ByteArray.mk #[114,97,110,103,101]),(ByteArray.mk #[115,97,102,101,116,121])]).length,.row 3 3 0 ([(D9.mk (ByteArray.mk #[109,97,105,110]) 1000 2)]).length,.row 8 9 0 5,.row 9 1 0 ([1,3]).length,.d (vI 200),.d (vI 400)]) tb R R (List.cons_ne_nil _ _) (by kernel_rfl) (by kernel_rfl) (by kernel_rfl) (by kernel_rfl) R R ?_
 refine I6 _ _ tb R (eN (C9 ?_))
 obtain rfl:=sI h
 exact(U0 (t := .agg [.d (.arr 8 ((rv.zones).map F6.d)),.d (.arr 2 ((rv.doors).map G6.d)),.d (.arr 2 ((rv.people).map E2.d)),.d (.arr 1 ((rv.keys).map vS)),.d (.arr 6 ((rv.squibs).map D1.d)),.d (vI rv.panel),.d (vI rv.wait),.row 0 1 0 ([(ByteArray.mk #[114,97,110,103,101]),(ByteArray.mk #[115,97,102,101,116,121])]).length,.row 1 3 0 ([(D9.mk (ByteArray.mk #[109,97,105,110]) 1000 2)]).length,.row 2 9 0 5,.row 8 1 0 ([1,3]).length,.d (vI 200),.d (vI 400)]) (L:=[some (lvS [(ByteArray.mk #[114,97,110,103,101]),(ByteArray.mk #[115,97,102,101,116,121])]),some (B3M [(D9.mk (ByteArray.mk #[109,97,105,110]) 1000 2)]),some ⟨9,[.d (.agg [.v (.string (ByteArray.mk #[102,105,108,108])),.v (.slice none 0 0),vI 100,vI 200,.v (.bool false),.v (.slice none 0 0),.v (.slice none 0 0),.v (.slice none 0 0),.v (.slice none 0 0)]),.agg [.d (.v (.string (ByteArray.mk #[112,111,119,101,114]))),.row 3 1 0 ([0]).length,.d (vI 10),.d (vI 500),.d (.v (.bool false)),.row 4 1 0 ([0]).length,.d (.v (.slice none 0 0)),.d (.v (.slice none 0 0)),.d (.v (.slice none 0 0))],.agg [.d (.v (.string (ByteArray.mk #[99,104,101,99,107]))),.row 5 1 0 ([0]).length,.d (vI 50),.d (vI 300),.d (.v (.bool false)),.d (.v (.slice none 0 0)),.row 4 1 0 ([0]).length,.d (.v (.slice none 0 0)),.d (.v (.slice none 0 0))],.agg [.d (.v (.string (ByteArray.mk #[112,111,108,108]))),.row 6 1 0 ([1,2]).length,.d (vI 0),.d (vI 20),.d (.v (.bool true)),.d (.v (.slice none 0 0)),.row 4 1 0 ([0]).length,.d (.v (.slice none 0 0)),.d (.v (.slice none 0 0))],.agg [.d (.v (.string (ByteArray.mk #[108,97,117,110,99,104]))),.row 7 1 0 ([3]).length,.d (vI 5),.d (vI 60),.d (.v (.bool true)),.d (.v (.slice none 0 0)),.row 4 1 0 ([0]).length,.row 4 1 0 ([0]).length,.d (.v (.slice none 0 0))]]⟩,some (B7 [0]),some (B7 [0]),some (B7 [0]),some (B7 [1,2]),some (B7 [3]),some (B7 [1,3])]) (κ:=[2,3,8,4,1,5,6,7,9]) R (.cons (rc tb R) .nil) (vK (.row R (.row R (.cons R R (.row R (.row R (.row R (.row R (.row R (.row R .nil))))))))) R) ⟨_,R,(.aggL (.cons (.d _) (.cons (.d _) (.cons (.d _) (.cons (.d _) (.cons (.d _) (.cons (.d _) (.cons (.d _) (.cons (.row R R) (.cons (.row R R) (.cons (.rowL R R (.cons (.aggDL (.cons (.d _) (.cons .nilA (.cons (.d _) (.cons (.d _) (.cons (.d _) (.cons .nilA (.cons .nilA (.cons .nilA (.cons .nilA .nil)))))))))) (.cons (.aggL (.cons (.d _) (.cons (.row R R) (.cons (.d _) (.cons (.d _) (.cons (.d _) (.cons (.row R R) (.cons .nilA (.cons .nilA (.cons .nilA .nil)))))))))) (.cons (.aggL (.cons (.d _) (.cons (.row R R) (.cons (.d _) (.cons (.d _) (.cons (.d _) (.cons .nilA (.cons (.row R R) (.cons .nilA (.cons .nilA .nil)))))))))) (.cons (.aggL (.cons (.d _) (.cons (.row R R) (.cons (.d _) (.cons (.d _) (.cons (.d _) (.cons .nilA (.cons (.row R R) (.cons .nilA (.cons .nilA .nil)))))))))) (.cons (.aggL (.cons (.d _) (.cons (.row R R) (.cons (.d _) (.cons (.d _) (.cons (.d _) (.cons .nilA (.cons (.row R R) (.cons (.row R R) (.cons .nilA .nil)))))))))) .nil)))))) (.cons (.row R R) (.cons (.d _) (.cons (.d _) .nil))))))))))))))⟩)
def B1Z (F:Nat) :Option (List C7):=Option.bind (A17 F 0 1 0) fun rv=>Option.bind (A17 F 90 2 0) fun rv2=>Option.bind (A17 F 100 2 0) fun rv3=>Option.bind (A17 F 100 1 2) fun rv4=>Option.bind (A17 F 100 1 1) fun rv5=>Option.bind (A17 F 110 1 2) fun rv6=>Option.bind (A17 F 120 2 1) fun rv7=>Option.bind (A17 F 170 2 2) fun rv8=>Option.bind (A17 F 180 1 3) fun rv9=>Option.bind (A17 F 180 5 0) fun rv10=>Option.bind (A17 F 181 5 1) fun rv11=>Option.bind (A17 F 185 1 3) fun rv12=>Option.bind (A17 F 190 2 3) fun rv13=>Option.bind (A17 F 190 1 4) fun rv14=>Option.bind (A17 F 199 2 4) fun rv15=>Option.bind (A17 F 200 2 4) fun rv16=>some [rv,rv2,rv3,rv4,rv5,rv6,rv7,rv8,rv9,rv10,rv11,rv12,rv13,rv14,rv15,rv16]
theorem B63 {F:Nat}  {r:(List C7)} (h:B1Z F =some r):SCR Tryz.prog 40 (List.map T.d []) [] (.row 0 8 0 (r).length) (List.map some [(B62 r)]):=by
 rw[B1Z]at h
 refine SC.of_sw Tryz.func40 R R R ?_
 dsimp only[L8,List.map]
 refine qG (A3 R (eN (qG ?_)))
 obtain⟨rv,hrv,h⟩:=H1 h
 refine J5 (Z5 hrv) (.of (by kernel_rfl)) R R R R ?_
 obtain⟨rv2,hrv2,h⟩:=H1 h
 refine J5 (Z5 hrv2) (.of (by kernel_rfl)) R R R R ?_
 obtain⟨rv3,hrv3,h⟩:=H1 h
 refine J5 (Z5 hrv3) (.of (by kernel_rfl)) R R R R ?_
 obtain⟨rv4,hrv4,h⟩:=H1 h
 refine J5 (Z5 hrv4) (.of (by kernel_rfl)) R R R R ?_
 obtain⟨rv5,hrv5,h⟩:=H1 h
 refine J5 (Z5 hrv5) (.of (by kernel_rfl)) R R R R ?_
 obtain⟨rv6,hrv6,h⟩:=H1 h
 refine J5 (Z5 hrv6) (.of (by kernel_rfl)) R R R R ?_
 obtain⟨rv7,hrv7,h⟩:=H1 h
 refine J5 (Z5 hrv7) (.of (by kernel_rfl)) R R R R ?_
 obtain⟨rv8,hrv8,h⟩:=H1 h
 refine J5 (Z5 hrv8) (.of (by kernel_rfl)) R R R R ?_
 obtain⟨rv9,hrv9,h⟩:=H1 h
 refine J5 (Z5 hrv9) (.of (by kernel_rfl)) R R R R ?_
 obtain⟨rv10,hrv10,h⟩:=H1 h
 refine J5 (Z5 hrv10) (.of (by kernel_rfl)) R R R R ?_
 obtain⟨rv11,hrv11,h⟩:=H1 h
 refine J5 (Z5 hrv11) (.of (by kernel_rfl)) R R R R ?_
 obtain⟨rv12,hrv12,h⟩:=H1 h
 refine J5 (Z5 hrv12) (.of (by kernel_rfl)) R R R R ?_
 obtain⟨rv13,hrv13,h⟩:=H1 h
 refine J5 (Z5 hrv13) (.of (by kernel_rfl)) R R R R ?_
 obtain⟨rv14,hrv14,h⟩:=H1 h
 refine J5 (Z5 hrv14) (.of (by kernel_rfl)) R R R R ?_
 obtain⟨rv15,hrv15,h⟩:=H1 h
 refine J5 (Z5 hrv15) (.of (by kernel_rfl)) R R R R ?_
 obtain⟨rv16,hrv16,h⟩:=H1 h
 refine J5 (Z5 hrv16) (.of (by kernel_rfl)) R R R R (P7 tb R R R R R R R R R R R R R (A14 R R R (eN (C9 ?_))))
 obtain rfl:=sI h
 exact f2 [0] (.row R .nil) R (.cons (.tmp 0) .nil) R
theorem B0S {F:Nat}  {r:(List C7)} (h:B1Z F =some r):PC Tryz.prog 40 [] (.arr 8 ((r).map C7.d)):=(B63 h).toPC (.row rfl rfl)
def A7X (F:Nat) :Option Bool:=Option.bind (A9F F ) fun rv=>Option.bind (B1Z F ) fun rv2=>Option.bind (A36 F rv rv2) fun rv3=>Option.bind (A9F F ) fun rv4=>Option.bind (B1Z F ) fun rv5=>Option.bind (A7A rv5 0 5) fun q=>Option.bind (A3Z F rv4 q 120) fun rv6=>Option.bind (A9F F ) fun rv7=>Option.bind (A85 F rv7 []) fun rv8=>Option.bind (A9F F ) fun rv9=>Option.bind (B1Z F ) fun rv10=>Option.bind (A3Z F rv9 rv10 300) fun rv11=>if rv3.2.2=0 then(if rv6.2=0 then(if rv8.2=0 then(if rv11.2=9 then(if(rv3.2.1.length:Int)=16 then(Option.bind (P3 rv3.2.1 14) fun e=>if e=187 then(if rv3.1.now=200 then(if rv6.1=200 then(some (decide (rv8.1=245)))else(some false))else(some false))else(some false))else(some false))else(some false))else(some false))else(some false))else(some false)
theorem B0R {F:Nat}  {r:Bool} (h:A7X F =some r):PC Tryz.prog 22 [] (.v (.bool r)):=by
 rw[A7X]at h
 refine SC.of_sw Tryz.func22 R R R ?_
 dsimp only[L8,List.map]
 refine qG (A3 R (eN (qG ?_)))
 obtain⟨rv,hrv,h⟩:=H1 h
 refine J5 (A7Y hrv) (.of (by kernel_rfl)) R R R R ?_
 obtain⟨rv2,hrv2,h⟩:=H1 h
 refine J5 (B0S hrv2) (.of (by kernel_rfl)) R R R R ?_
 obtain⟨rv3,hrv3,h⟩:=H1 h
 refine J5 (A6l hrv3) (.of (by kernel_rfl)) R R R R (A0 R (Q1 (t:=H2.d rv3.1) R R R R (Q1 (t := .arr 1 ((rv3.2.1).map vI)) R R R R (Q1 (t:=vI rv3.2.2) R R R R (M5 tb R R R R R (I6 _ _ tb R (A3 R (A3 R (eN (qG ?_))))))))))
 obtain⟨rv4,hrv4,h⟩:=H1 h
 refine J5 (A7Y hrv4) (.of (by kernel_rfl)) R R R R ?_
 obtain⟨rv5,hrv5,h⟩:=H1 h
 refine J5 (B0S hrv5) (.of (by kernel_rfl)) R R R R ?_
 obtain⟨q,iq,h⟩:=H1 h
 refine A6E tb R R R R R R iq R R ?_
 obtain⟨rv6,hrv6,h⟩:=H1 h
 refine J5 (A6d hrv6) (.of (by kernel_rfl)) R R R R (A0 R (Q1 (t:=vI rv6.1) R R R R (Q1 (t:=vI rv6.2) R R R R (A3 R (A3 R (eN (qG ?_)))))))
 obtain⟨rv7,hrv7,h⟩:=H1 h
 refine J5 (A7Y hrv7) (.of (by kernel_rfl)) R R R R ?_
 obtain⟨rv8,hrv8,h⟩:=H1 h
 refine A19 (B1B hrv8) R (.of (by kernel_rfl)) R R ((.cons (.d _) (.cons .nilA .nil))) R R (A0 R (Q1 (t:=vI rv8.1) R R R R (Q1 (t:=vI rv8.2) R R R R (A3 R (A3 R (eN (qG ?_)))))))
 obtain⟨rv9,hrv9,h⟩:=H1 h
 refine J5 (A7Y hrv9) (.of (by kernel_rfl)) R R R R ?_
 obtain⟨rv10,hrv10,h⟩:=H1 h
 refine J5 (B0S hrv10) (.of (by kernel_rfl)) R R R R ?_
 obtain⟨rv11,hrv11,h⟩:=H1 h
 refine J5 (A6d hrv11) (.of (by kernel_rfl)) R R R R (A0 R (Q1 (t:=vI rv11.1) R R R R (Q1 (t:=vI rv11.2) R R R R (A3 R (A3 R (eN (qG (A0 R ?_))))))))
 refine Z3 R R R R ?_ ?_
 ·intro c
  replace h:=J7 c h
  refine A0 R (A0 R ?_)
  refine Z3 R R R R ?_ ?_
  ·intro c2
   replace h:=J7 c2 h
   refine D6 R (A0 R (A0 R ?_))
   refine Z3 R R R R ?_ ?_
   ·intro c3
    replace h:=J7 c3 h
    refine D6 R (A0 R (A0 R ?_))
    refine Z3 R R R R ?_ ?_
    ·intro c4
     replace h:=J7 c4 h
     refine D6 R (A0 R (A0 R (I7 tb R ?_)))
     refine Z3 R R R R ?_ ?_
     ·intro c5
      replace h:=J7 c5 h
      refine D6 R (A0 R (A0 R ?_))
      obtain⟨e,ie,h⟩:=H1 h
      refine N8 tb (F0 ie) (V1 ie) R (I4 (y:=vI e) tb (U5 (g:=vI) ie) R ?_)
      refine Z3 R R R R ?_ ?_
      ·intro c6
       replace h:=J7 c6 h
       refine D6 R (A0 R (C8 tb R (B5 (y:=vI rv3.1.now) tb R ?_)))
       refine Z3 R R R R ?_ ?_
       ·intro c7
        replace h:=J7 c7 h
        refine D6 R (A0 R (A0 R ?_))
        refine Z3 R R R R ?_ ?_
        ·intro c8
         replace h:=J7 c8 h
         refine D6 R (A0 R (A0 R (A3s R R R R (D6 R (A3 R (eN (C9 ?_)))))))
         obtain rfl:=sI h
         exact f1 0 R
        intro c8
        replace h:=P1 c8 h
        refine D6 R (A0 R (L9 2 R (D0 R (A3 R (eN (C9 ?_))))))
        obtain rfl:=sI h
        exact f1 0 R
       intro c7
       replace h:=P1 c7 h
       refine D6 R (A0 R (L9 2 R (D0 R (A0 R (L9 2 R (D0 R (A3 R (eN (C9 ?_)))))))))
       obtain rfl:=sI h
       exact f1 0 R
      intro c6
      replace h:=P1 c6 h
      refine D6 R (A0 R (L9 3 R (D0 R (A0 R (L9 2 R (D0 R (A0 R (L9 2 R (D0 R (A3 R (eN (C9 ?_))))))))))))
      obtain rfl:=sI h
      exact f1 0 R
     intro c5
     replace h:=P1 c5 h
     refine D6 R (A0 R (L9 4 R (D0 R (A0 R (L9 3 R (D0 R (A0 R (L9 2 R (D0 R (A0 R (L9 2 R (D0 R (A3 R (eN (C9 ?_)))))))))))))))
     obtain rfl:=sI h
     exact f1 0 R
    intro c4
    replace h:=P1 c4 h
    refine D6 R (A0 R (L9 3 R (D0 R (A0 R (L9 4 R (D0 R (A0 R (L9 3 R (D0 R (A0 R (L9 2 R (D0 R (A0 R (L9 2 R (D0 R (A3 R (eN (C9 ?_))))))))))))))))))
    obtain rfl:=sI h
    exact f1 0 R
   intro c3
   replace h:=P1 c3 h
   refine D6 R (A0 R (L9 2 R (D0 R (A0 R (L9 3 R (D0 R (A0 R (L9 4 R (D0 R (A0 R (L9 3 R (D0 R (A0 R (L9 2 R (D0 R (A0 R (L9 2 R (D0 R (A3 R (eN (C9 ?_)))))))))))))))))))))
   obtain rfl:=sI h
   exact f1 0 R
  intro c2
  replace h:=P1 c2 h
  refine D6 R (A0 R (L9 2 R (D0 R (A0 R (L9 2 R (D0 R (A0 R (L9 3 R (D0 R (A0 R (L9 4 R (D0 R (A0 R (L9 3 R (D0 R (A0 R (L9 2 R (D0 R (A0 R (L9 2 R (D0 R (A3 R (eN (C9 ?_))))))))))))))))))))))))
  obtain rfl:=sI h
  exact f1 0 R
 intro c
 replace h:=P1 c h
 refine A0 R (L9 2 R (D0 R (A0 R (L9 2 R (D0 R (A0 R (L9 2 R (D0 R (A0 R (L9 3 R (D0 R (A0 R (L9 4 R (D0 R (A0 R (L9 3 R (D0 R (A0 R (L9 2 R (D0 R (A0 R (L9 2 R (D0 R (A3 R (eN (C9 ?_))))))))))))))))))))))))))
 obtain rfl:=sI h
 exact f1 0 R
def A1i (F:Nat) (t:D4) (o:(List C7)) (a:B4F) (rv:(Int × Int)) (rv2:(Int × Int)):Option Bool:=Option.bind (A85 F t o) fun rv3=>if rv3.2=0 then(if rv.2=0 then(if(min a.c0 a.c1)≤rv3.1 then(if rv2.2=0 then(if(max a.c0 a.c1)≤rv3.1 then(if rv.2=9 then(if rv3.1<(min a.c0 a.c1)then(if rv2.2=9 then(if rv3.1<(max a.c0 a.c1)then(Option.bind (A7X 100 ) fun rv20=>some rv20)else(some false))else(Option.bind (A7X 100 ) fun rv19=>some rv19))else(some false))else(if rv2.2=9 then(if rv3.1<(max a.c0 a.c1)then(Option.bind (A7X 100 ) fun rv18=>some rv18)else(some false))else(Option.bind (A7X 100 ) fun rv17=>some rv17)))else(some false))else(if rv.2=9 then(if rv3.1<(min a.c0 a.c1)then(if rv2.2=9 then(if rv3.1<(max a.c0 a.c1)then(Option.bind (A7X 100 ) fun rv16=>some rv16)else(some false))else(Option.bind (A7X 100 ) fun rv15=>some rv15))else(some false))else(if rv2.2=9 then(if rv3.1<(max a.c0 a.c1)then(Option.bind (A7X 100 ) fun rv14=>some rv14)else(some false))else(Option.bind (A7X 100 ) fun rv13=>some rv13))))else(some false))else(if rv2.2=0 then(if(max a.c0 a.c1)≤rv3.1 then(if rv.2=9 then(if rv3.1<(min a.c0 a.c1)then(if rv2.2=9 then(if rv3.1<(max a.c0 a.c1)then(Option.bind (A7X 100 ) fun rv12=>some rv12)else(some false))else(Option.bind (A7X 100 ) fun rv11=>some rv11))else(some false))else(if rv2.2=9 then(if rv3.1<(max a.c0 a.c1)then(Option.bind (A7X 100 ) fun rv10=>some rv10)else(some false))else(Option.bind (A7X 100 ) fun rv9=>some rv9)))else(some false))else(if rv.2=9 then(if rv3.1<(min a.c0 a.c1)then(if rv2.2=9 then(if rv3.1<(max a.c0 a.c1)then(Option.bind (A7X 100 ) fun rv8=>some rv8)else(some false))else(Option.bind (A7X 100 ) fun rv7=>some rv7))else(some false))else(if rv2.2=9 then(if rv3.1<(max a.c0 a.c1)then(Option.bind (A7X 100 ) fun rv6=>some rv6)else(some false))else(Option.bind (A7X 100 ) fun rv5=>some rv5)))))else(if rv.2=0 then(some false)else(if rv2.2=0 then(some false)else(Option.bind (A7X 100 ) fun rv4=>some rv4)))
def C0o (F:Nat) (t:D4) (o:(List C7)) (a:B4F):Option Bool:=Option.bind (A3Z F t o (min a.c0 a.c1)) fun rv=>Option.bind (A3Z F t o (max a.c0 a.c1)) fun rv2=>if rv.2=0 then(if rv2.2=0 then(if rv2.1<rv.1 then(some false)else(if rv.2=9 then(if rv2.2=0 then(some false)else(A1i F t o a rv rv2))else(A1i F t o a rv rv2)))else(if rv.2=9 then(if rv2.2=0 then(some false)else(A1i F t o a rv rv2))else(A1i F t o a rv rv2)))else(if rv.2=9 then(if rv2.2=0 then(some false)else(A1i F t o a rv rv2))else(A1i F t o a rv rv2))
theorem C1K {F:Nat} {t:D4} {o:(List C7)} {a:B4F} {r:Bool} (h:C0o F t o a=some r):PC Tryz.prog 10 [D4.d t,.arr 8 ((o).map C7.d),B4F.d a] (.v (.bool r)):=by
 rw[C0o]at h
 refine SC.of_sw Tryz.func10 R R R ?_
 dsimp only[L8,List.map]
 refine qG (M9 R (M9 R (A3 R (eN (B8 (T1 (by kernel_rfl) (C0D tb R R R R R (by decide) (by decide) R R (B5 (y:=vI a.c0) tb R (C0D tb R R R R R (by decide) (by decide) R R (B5 (y:=vI a.c1) tb R (C2H R R R R (C0D tb R R R R R (by decide) (by decide) R R (B5 (y:=vI a.c0) tb R (C0D tb R R R R R (by decide) (by decide) R R (B5 (y:=vI a.c1) tb R (B3f R R R R (A3 R (A3 R ?_))))))))))))))))))
 refine I0 (by kernel_rfl) (A6 (qG (B5 (y:=D4.d t) tb R (A0 R (A0 R ?_)))))
 obtain⟨rv,hrv,h⟩:=H1 h
 refine J5 (A6d hrv) (.of (by kernel_rfl)) R R R R (A0 R (Q1 (t:=vI rv.1) R R R R (Q1 (t:=vI rv.2) R R R R (A3 R (A3 R (eN (qG (B5 (y:=D4.d t) tb R (A0 R (A0 R ?_))))))))))
 obtain⟨rv2,hrv2,h⟩:=H1 h
 refine J5 (A6d hrv2) (.of (by kernel_rfl)) R R R R (A0 R (Q1 (t:=vI rv2.1) R R R R (Q1 (t:=vI rv2.2) R R R R (A3 R (A3 R (eN (B8 ?_)))))))
 refine W5 (fun zz:Unit=>A1i F t o a rv rv2=some r) (fun zz:Unit=>⟨[(1,.d (.arr 8 ((o).map C7.d))),(3,.ref 0 13 0 0),(6,.d (.v (.bool false))),(7,.d (vI (min a.c0 a.c1))),(8,.d (vI (max a.c0 a.c1))),(10,.d (vI rv.2)),(12,.d (vI rv2.2))],[some ⟨13,[.d (D4.d t)]⟩]⟩) ?_ ?_
 ·clear h
  rintro⟨⟩ h
  rw[A1i]at h
  refine qG (B5 (y:=D4.d t) tb R (A0 R ?_))
  obtain⟨rv3,hrv3,h⟩:=H1 h
  refine J5 (B1B hrv3) (.of (by kernel_rfl)) R R R R (A0 R (Q1 (t:=vI rv3.1) R R R R (Q1 (t:=vI rv3.2) R R R R (A3 R (A3 R (eN (B8 (qG (A0 R ?_)))))))))
  refine V5 R R R R ?_ ?_
  ·intro c10
   replace h:=P1 c10 h
   refine eN (C0 R (qG (A0 R ?_)))
   refine V5 R R R R ?_ ?_
   ·intro c11
    replace h:=P1 c11 h
    refine A0 R (A0 R ?_)
    refine V5 R R R R ?_ ?_
    ·intro c12
     replace h:=P1 c12 h
     refine D6 R (A0 R ?_)
     obtain⟨rv4,hrv4,h⟩:=H1 h
     refine J5 (B0R hrv4) (.of (by kernel_rfl)) R R R R (D6 R (A3 R (eN (C9 (B2 ?_)))))
     obtain rfl:=sI h
     exact f1 6 R
    intro c12
    replace h:=J7 c12 h
    refine D6 R (A0 R (B3b R (D0 R (A3 R (eN (C9 (B2 ?_)))))))
    obtain rfl:=sI h
    exact f1 6 R
   intro c11
   replace h:=J7 c11 h
   refine A0 R (L9 2 R (D0 R (A0 R (B3b R (D0 R (A3 R (eN (C9 (B2 ?_)))))))))
   obtain rfl:=sI h
   exact f1 6 R
  intro c10
  replace h:=J7 c10 h
  refine eN (C1 R (D7 (A6 (qG (A0 R ?_)))))
  refine V5 R R R R ?_ ?_
  ·intro c13
   replace h:=P1 c13 h
   refine A0 R (L9 3 R (D6 R (A0 R (A0 R ?_))))
   refine V5 R R R R ?_ ?_
   ·intro c14
    replace h:=P1 c14 h
    refine A0 R (L9 3 R (D6 R (D6 R (A0 R (A0 R ?_)))))
    refine V5 R R R R ?_ ?_
    ·intro c15
     replace h:=P1 c15 h
     refine A0 R (L9 3 R (D6 R (D6 R (A0 R (A0 R ?_)))))
     refine V5 R R R R ?_ ?_
     ·intro c16
      replace h:=P1 c16 h
      refine A0 R (L9 3 R (D6 R (D6 R (A0 R ?_))))
      obtain⟨rv5,hrv5,h⟩:=H1 h
      refine J5 (B0R hrv5) (.of (by kernel_rfl)) R R R R (D6 R (A3 R (eN (C9 ?_))))
      obtain rfl:=sI h
      exact f1 6 R
     intro c16
     replace h:=J7 c16 h
     refine A0 R (A0 R (A0 R ?_))
     refine A4l R R R R ?_ ?_
     ·intro c17
      replace h:=J7 c17 h
      refine D0 R (D6 R (A0 R ?_))
      obtain⟨rv6,hrv6,h⟩:=H1 h
      refine J5 (B0R hrv6) (.of (by kernel_rfl)) R R R R (D6 R (A3 R (eN (C9 ?_))))
      obtain rfl:=sI h
      exact f1 6 R
     intro c17
     replace h:=P1 (Int.not_lt.2 c17) h
     refine D0 R (D6 R (A0 R (B3b R (D0 R (A3 R (eN (C9 ?_)))))))
     obtain rfl:=sI h
     exact f1 6 R
    intro c15
    replace h:=J7 c15 h
    refine A0 R (A0 R (A0 R ?_))
    refine A4l R R R R ?_ ?_
    ·intro c18
     replace h:=J7 c18 h
     refine D0 R (D6 R (A0 R (A0 R ?_)))
     refine V5 R R R R ?_ ?_
     ·intro c19
      replace h:=P1 c19 h
      refine A0 R (L9 3 R (D6 R (D6 R (A0 R ?_))))
      obtain⟨rv7,hrv7,h⟩:=H1 h
      refine J5 (B0R hrv7) (.of (by kernel_rfl)) R R R R (D6 R (A3 R (eN (C9 ?_))))
      obtain rfl:=sI h
      exact f1 6 R
     intro c19
     replace h:=J7 c19 h
     refine A0 R (A0 R (A0 R ?_))
     refine A4l R R R R ?_ ?_
     ·intro c20
      replace h:=J7 c20 h
      refine D0 R (D6 R (A0 R ?_))
      obtain⟨rv8,hrv8,h⟩:=H1 h
      refine J5 (B0R hrv8) (.of (by kernel_rfl)) R R R R (D6 R (A3 R (eN (C9 ?_))))
      obtain rfl:=sI h
      exact f1 6 R
     intro c20
     replace h:=P1 (Int.not_lt.2 c20) h
     refine D0 R (D6 R (A0 R (B3b R (D0 R (A3 R (eN (C9 ?_)))))))
     obtain rfl:=sI h
     exact f1 6 R
    intro c18
    replace h:=P1 (Int.not_lt.2 c18) h
    refine D0 R (D6 R (A0 R (L9 7 R (D0 R (A0 R (B3b R (D0 R (A3 R (eN (C9 ?_))))))))))
    obtain rfl:=sI h
    exact f1 6 R
   intro c14
   replace h:=J7 c14 h
   refine A0 R (A0 R (A0 R ?_))
   refine B1t R R R R ?_ ?_
   ·intro c21
    replace h:=J7 c21 h
    refine D0 R (D6 R (A0 R (A0 R ?_)))
    refine V5 R R R R ?_ ?_
    ·intro c22
     replace h:=P1 c22 h
     refine A0 R (L9 3 R (D6 R (D6 R (A0 R (A0 R ?_)))))
     refine V5 R R R R ?_ ?_
     ·intro c23
      replace h:=P1 c23 h
      refine A0 R (L9 3 R (D6 R (D6 R (A0 R ?_))))
      obtain⟨rv9,hrv9,h⟩:=H1 h
      refine J5 (B0R hrv9) (.of (by kernel_rfl)) R R R R (D6 R (A3 R (eN (C9 ?_))))
      obtain rfl:=sI h
      exact f1 6 R
     intro c23
     replace h:=J7 c23 h
     refine A0 R (A0 R (A0 R ?_))
     refine A4l R R R R ?_ ?_
     ·intro c24
      replace h:=J7 c24 h
      refine D0 R (D6 R (A0 R ?_))
      obtain⟨rv10,hrv10,h⟩:=H1 h
      refine J5 (B0R hrv10) (.of (by kernel_rfl)) R R R R (D6 R (A3 R (eN (C9 ?_))))
      obtain rfl:=sI h
      exact f1 6 R
     intro c24
     replace h:=P1 (Int.not_lt.2 c24) h
     refine D0 R (D6 R (A0 R (B3b R (D0 R (A3 R (eN (C9 ?_)))))))
     obtain rfl:=sI h
     exact f1 6 R
    intro c22
    replace h:=J7 c22 h
    refine A0 R (A0 R (A0 R ?_))
    refine A4l R R R R ?_ ?_
    ·intro c25
     replace h:=J7 c25 h
     refine D0 R (D6 R (A0 R (A0 R ?_)))
     refine V5 R R R R ?_ ?_
     ·intro c26
      replace h:=P1 c26 h
      refine A0 R (L9 3 R (D6 R (D6 R (A0 R ?_))))
      obtain⟨rv11,hrv11,h⟩:=H1 h
      refine J5 (B0R hrv11) (.of (by kernel_rfl)) R R R R (D6 R (A3 R (eN (C9 ?_))))
      obtain rfl:=sI h
      exact f1 6 R
     intro c26
     replace h:=J7 c26 h
     refine A0 R (A0 R (A0 R ?_))
     refine A4l R R R R ?_ ?_
     ·intro c27
      replace h:=J7 c27 h
      refine D0 R (D6 R (A0 R ?_))
      obtain⟨rv12,hrv12,h⟩:=H1 h
      refine J5 (B0R hrv12) (.of (by kernel_rfl)) R R R R (D6 R (A3 R (eN (C9 ?_))))
      obtain rfl:=sI h
      exact f1 6 R
     intro c27
     replace h:=P1 (Int.not_lt.2 c27) h
     refine D0 R (D6 R (A0 R (B3b R (D0 R (A3 R (eN (C9 ?_)))))))
     obtain rfl:=sI h
     exact f1 6 R
    intro c25
    replace h:=P1 (Int.not_lt.2 c25) h
    refine D0 R (D6 R (A0 R (L9 7 R (D0 R (A0 R (B3b R (D0 R (A3 R (eN (C9 ?_))))))))))
    obtain rfl:=sI h
    exact f1 6 R
   intro c21
   replace h:=P1 (Int.not_le.2 c21) h
   refine D0 R (D6 R (A0 R (L9 7 R (D0 R (A0 R (L9 7 R (D0 R (A0 R (B3b R (D0 R (A3 R (eN (C9 ?_)))))))))))))
   obtain rfl:=sI h
   exact f1 6 R
  intro c13
  replace h:=J7 c13 h
  refine A0 R (A0 R (A0 R ?_))
  refine B1t R R R R ?_ ?_
  ·intro c28
   replace h:=J7 c28 h
   refine D0 R (A0 R (A0 R ?_))
   refine V5 R R R R ?_ ?_
   ·intro c29
    replace h:=P1 c29 h
    refine A0 R (L9 3 R (D6 R (D6 R (A0 R (A0 R ?_)))))
    refine V5 R R R R ?_ ?_
    ·intro c30
     replace h:=P1 c30 h
     refine A0 R (L9 3 R (D6 R (D6 R (A0 R (A0 R ?_)))))
     refine V5 R R R R ?_ ?_
     ·intro c31
      replace h:=P1 c31 h
      refine A0 R (L9 3 R (D6 R (D6 R (A0 R ?_))))
      obtain⟨rv13,hrv13,h⟩:=H1 h
      refine J5 (B0R hrv13) (.of (by kernel_rfl)) R R R R (D6 R (A3 R (eN (C9 ?_))))
      obtain rfl:=sI h
      exact f1 6 R
     intro c31
     replace h:=J7 c31 h
     refine A0 R (A0 R (A0 R ?_))
     refine A4l R R R R ?_ ?_
     ·intro c32
      replace h:=J7 c32 h
      refine D0 R (D6 R (A0 R ?_))
      obtain⟨rv14,hrv14,h⟩:=H1 h
      refine J5 (B0R hrv14) (.of (by kernel_rfl)) R R R R (D6 R (A3 R (eN (C9 ?_))))
      obtain rfl:=sI h
      exact f1 6 R
     intro c32
     replace h:=P1 (Int.not_lt.2 c32) h
     refine D0 R (D6 R (A0 R (B3b R (D0 R (A3 R (eN (C9 ?_)))))))
     obtain rfl:=sI h
     exact f1 6 R
    intro c30
    replace h:=J7 c30 h
    refine A0 R (A0 R (A0 R ?_))
    refine A4l R R R R ?_ ?_
    ·intro c33
     replace h:=J7 c33 h
     refine D0 R (D6 R (A0 R (A0 R ?_)))
     refine V5 R R R R ?_ ?_
     ·intro c34
      replace h:=P1 c34 h
      refine A0 R (L9 3 R (D6 R (D6 R (A0 R ?_))))
      obtain⟨rv15,hrv15,h⟩:=H1 h
      refine J5 (B0R hrv15) (.of (by kernel_rfl)) R R R R (D6 R (A3 R (eN (C9 ?_))))
      obtain rfl:=sI h
      exact f1 6 R
     intro c34
     replace h:=J7 c34 h
     refine A0 R (A0 R (A0 R ?_))
     refine A4l R R R R ?_ ?_
     ·intro c35
      replace h:=J7 c35 h
      refine D0 R (D6 R (A0 R ?_))
      obtain⟨rv16,hrv16,h⟩:=H1 h
      refine J5 (B0R hrv16) (.of (by kernel_rfl)) R R R R (D6 R (A3 R (eN (C9 ?_))))
      obtain rfl:=sI h
      exact f1 6 R
     intro c35
     replace h:=P1 (Int.not_lt.2 c35) h
     refine D0 R (D6 R (A0 R (B3b R (D0 R (A3 R (eN (C9 ?_)))))))
     obtain rfl:=sI h
     exact f1 6 R
    intro c33
    replace h:=P1 (Int.not_lt.2 c33) h
    refine D0 R (D6 R (A0 R (L9 7 R (D0 R (A0 R (B3b R (D0 R (A3 R (eN (C9 ?_))))))))))
    obtain rfl:=sI h
    exact f1 6 R
   intro c29
   replace h:=J7 c29 h
   refine A0 R (A0 R (A0 R ?_))
   refine B1t R R R R ?_ ?_
   ·intro c36
    replace h:=J7 c36 h
    refine D0 R (D6 R (A0 R (A0 R ?_)))
    refine V5 R R R R ?_ ?_
    ·intro c37
     replace h:=P1 c37 h
     refine A0 R (L9 3 R (D6 R (D6 R (A0 R (A0 R ?_)))))
     refine V5 R R R R ?_ ?_
     ·intro c38
      replace h:=P1 c38 h
      refine A0 R (L9 3 R (D6 R (D6 R (A0 R ?_))))
      obtain⟨rv17,hrv17,h⟩:=H1 h
      refine J5 (B0R hrv17) (.of (by kernel_rfl)) R R R R (D6 R (A3 R (eN (C9 ?_))))
      obtain rfl:=sI h
      exact f1 6 R
     intro c38
     replace h:=J7 c38 h
     refine A0 R (A0 R (A0 R ?_))
     refine A4l R R R R ?_ ?_
     ·intro c39
      replace h:=J7 c39 h
      refine D0 R (D6 R (A0 R ?_))
      obtain⟨rv18,hrv18,h⟩:=H1 h
      refine J5 (B0R hrv18) (.of (by kernel_rfl)) R R R R (D6 R (A3 R (eN (C9 ?_))))
      obtain rfl:=sI h
      exact f1 6 R
     intro c39
     replace h:=P1 (Int.not_lt.2 c39) h
     refine D0 R (D6 R (A0 R (B3b R (D0 R (A3 R (eN (C9 ?_)))))))
     obtain rfl:=sI h
     exact f1 6 R
    intro c37
    replace h:=J7 c37 h
    refine A0 R (A0 R (A0 R ?_))
    refine A4l R R R R ?_ ?_
    ·intro c40
     replace h:=J7 c40 h
     refine D0 R (D6 R (A0 R (A0 R ?_)))
     refine V5 R R R R ?_ ?_
     ·intro c41
      replace h:=P1 c41 h
      refine A0 R (L9 3 R (D6 R (D6 R (A0 R ?_))))
      obtain⟨rv19,hrv19,h⟩:=H1 h
      refine J5 (B0R hrv19) (.of (by kernel_rfl)) R R R R (D6 R (A3 R (eN (C9 ?_))))
      obtain rfl:=sI h
      exact f1 6 R
     intro c41
     replace h:=J7 c41 h
     refine A0 R (A0 R (A0 R ?_))
     refine A4l R R R R ?_ ?_
     ·intro c42
      replace h:=J7 c42 h
      refine D0 R (D6 R (A0 R ?_))
      obtain⟨rv20,hrv20,h⟩:=H1 h
      refine J5 (B0R hrv20) (.of (by kernel_rfl)) R R R R (D6 R (A3 R (eN (C9 ?_))))
      obtain rfl:=sI h
      exact f1 6 R
     intro c42
     replace h:=P1 (Int.not_lt.2 c42) h
     refine D0 R (D6 R (A0 R (B3b R (D0 R (A3 R (eN (C9 ?_)))))))
     obtain rfl:=sI h
     exact f1 6 R
    intro c40
    replace h:=P1 (Int.not_lt.2 c40) h
    refine D0 R (D6 R (A0 R (L9 7 R (D0 R (A0 R (B3b R (D0 R (A3 R (eN (C9 ?_))))))))))
    obtain rfl:=sI h
    exact f1 6 R
   intro c36
   replace h:=P1 (Int.not_le.2 c36) h
   refine D0 R (D6 R (A0 R (L9 7 R (D0 R (A0 R (L9 7 R (D0 R (A0 R (B3b R (D0 R (A3 R (eN (C9 ?_)))))))))))))
   obtain rfl:=sI h
   exact f1 6 R
  intro c28
  replace h:=P1 (Int.not_le.2 c28) h
  refine D0 R (A0 R (L9 7 R (D0 R (A0 R (L9 7 R (D0 R (A0 R (L9 7 R (D0 R (A0 R (B3b R (D0 R (A3 R (eN (C9 ?_)))))))))))))))
  obtain rfl:=sI h
  exact f1 6 R
 refine qG (A0 R ?_)
 refine Z3 R R R R ?_ ?_
 ·intro c
  replace h:=J7 c h
  refine A0 R (A0 R ?_)
  refine Z3 R R R R ?_ ?_
  ·intro c2
   replace h:=J7 c2 h
   refine D6 R (A0 R (A0 R (A0 R ?_)))
   refine Q4 R R R R ?_ ?_
   ·intro c3
    replace h:=J7 c3 h
    refine D6 R (A0 R (L9 6 R (D6 R (eN (C0 R (qG (A3 R (eN (C9 (B2 ?_))))))))))
    obtain rfl:=sI h
    exact f1 6 R
   intro c3
   replace h:=P1 (Int.not_lt.2 c3) h
   refine D6 R (A0 R (A0 R ?_))
   refine Z3 R R R R ?_ ?_
   ·intro c4
    replace h:=J7 c4 h
    refine A0 R (A0 R ?_)
    refine Z3 R R R R ?_ ?_
    ·intro c5
     replace h:=J7 c5 h
     refine D6 R (D0 R (eN (C0 R (qG (A3 R (eN (C9 (B2 ?_))))))))
     obtain rfl:=sI h
     exact f1 6 R
    intro c5
    replace h:=P1 c5 h
    refine D6 R (D0 R (eN (C1 R (D7 (A6 ?_)))))
    exact .inl ⟨(),h,.vw (κ:=[0]) (vK (.cons R R .nil) R)⟩
   intro c4
   replace h:=P1 c4 h
   refine A0 R (L9 2 R (D0 R (D0 R (eN (C1 R (D7 (A6 ?_)))))))
   exact .inl ⟨(),h,.vw (κ:=[0]) (vK (.cons R R .nil) R)⟩
  intro c2
  replace h:=P1 c2 h
  refine D6 R (A0 R (L9 3 R (D0 R (A0 R (A0 R ?_)))))
  refine Z3 R R R R ?_ ?_
  ·intro c6
   replace h:=J7 c6 h
   refine A0 R (A0 R ?_)
   refine Z3 R R R R ?_ ?_
   ·intro c7
    replace h:=J7 c7 h
    refine D6 R (D0 R (eN (C0 R (qG (A3 R (eN (C9 (B2 ?_))))))))
    obtain rfl:=sI h
    exact f1 6 R
   intro c7
   replace h:=P1 c7 h
   refine D6 R (D0 R (eN (C1 R (D7 (A6 ?_)))))
   exact .inl ⟨(),h,.vw (κ:=[0]) (vK (.cons R R .nil) R)⟩
  intro c6
  replace h:=P1 c6 h
  refine A0 R (L9 2 R (D0 R (D0 R (eN (C1 R (D7 (A6 ?_)))))))
  exact .inl ⟨(),h,.vw (κ:=[0]) (vK (.cons R R .nil) R)⟩
 intro c
 replace h:=P1 c h
 refine A0 R (L9 2 R (D0 R (A0 R (L9 3 R (D0 R (A0 R (A0 R ?_)))))))
 refine Z3 R R R R ?_ ?_
 ·intro c8
  replace h:=J7 c8 h
  refine A0 R (A0 R ?_)
  refine Z3 R R R R ?_ ?_
  ·intro c9
   replace h:=J7 c9 h
   refine D6 R (D0 R (eN (C0 R (qG (A3 R (eN (C9 (B2 ?_))))))))
   obtain rfl:=sI h
   exact f1 6 R
  intro c9
  replace h:=P1 c9 h
  refine D6 R (D0 R (eN (C1 R (D7 (A6 ?_)))))
  exact .inl ⟨(),h,.vw (κ:=[0]) (vK (.cons R R .nil) R)⟩
 intro c8
 replace h:=P1 c8 h
 refine A0 R (L9 2 R (D0 R (D0 R (eN (C1 R (D7 (A6 ?_)))))))
 exact .inl ⟨(),h,.vw (κ:=[0]) (vK (.cons R R .nil) R)⟩
end Go.Proofs.YtlaogbbcipebgaaGreat
