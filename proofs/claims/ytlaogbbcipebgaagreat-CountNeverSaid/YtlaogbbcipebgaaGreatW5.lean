/- What functions of the program compute: plain functions, and the proofs. -/
import Derived.Test.YtlaogbbcipebgaaGreatW4
set_option linter.unusedVariables false
set_option linter.unusedSimpArgs false
open Go Go.Proofs.YtlaogbbcipebgaaGreat.Sh Go.Proofs
namespace Go.Proofs.YtlaogbbcipebgaaGreat
set_option maxRecDepth 100000
set_option maxHeartbeats 40000000
def A17 (F:Nat) (atv:Int) (kind:Int) (what:Int):Option C7:=some (C7.mk atv kind what 0 0 0 0 0)
theorem Z5 {F:Nat} {atv:Int} {kind:Int} {what:Int} {r:C7} (h:A17 F atv kind what=some r):PC Tryz.prog 27 [.v (.int .i64 atv),.v (.int .i64 kind),.v (.int .i64 what)] (C7.d r):=by
 rw[A17]at h
 refine SC.of_sw Tryz.func27 R R R ?_
 dsimp only[L8,List.map]
 refine qG (M5 tb R R R R R (eN (qG (A0 R (A0 R (A0 R (S1 (v := .d (.agg [vI atv,vI kind,vI what,vI 0,vI 0,vI 0,vI 0,vI 0])) tb R R (List.cons_ne_nil _ _) R R R R R R (I6 _ _ tb R (eN (C9 ?_))))))))))
 obtain rfl:=sI h
 exact U4 (t := .d (.agg [vI atv,vI kind,vI what,vI 0,vI 0,vI 0,vI 0,vI 0])) R R R (.cons (rc tb R) .nil)
def A9F (F:Nat) :Option D4:=Option.bind (A9E F ) fun rv=>some (D4.mk rv.zones rv.doors rv.people rv.keys rv.squibs rv.panel rv.wait [(ByteArray.mk #[114,97,110,103,101]),(ByteArray.mk #[115,97,102,101,116,121])] [(D9.mk (ByteArray.mk #[109,97,105,110]) 1000 2)] [(E0.mk (ByteArray.mk #[102,105,108,108]) [] 100 200 false [] [] [] []),(E0.mk (ByteArray.mk #[112,111,119,101,114]) [0] 10 500 false [0] [] [] []),(E0.mk (ByteArray.mk #[99,104,101,99,107]) [0] 50 300 false [] [0] [] []),(E0.mk (ByteArray.mk #[112,111,108,108]) [1,2] 0 20 true [] [0] [] []),(E0.mk (ByteArray.mk #[108,97,117,110,99,104]) [3] 5 60 true [] [0] [0] [])] [1,3] 200 400)
theorem A7Y {F:Nat}  {r:D4} (h:A9F F =some r):PC Tryz.prog 39 [] (D4.d r):=by
 rw[A9F]at h
 refine PC.of_lend ?_
 refine SC.of_sw Tryz.func39 R R R ?_
 dsimp only[L8,List.map]
 refine qG (M5 tb R R R R R (eN (qG (P7 tb R R R R R R R R R R R R R (A14 R R R (eN (qG ?_)))))))
 obtain⟨rv,hrv,h⟩:=H1 h
 refine J5 (B2I hrv) (.of (by kernel_rfl)) R R R R (P7 tb R R R R R R R R R R R R R (S1 (v := .d (.agg [.v (.string (ByteArray.mk #[109,97,105,110])),vI 1000,vI 2])) tb R R (List.cons_ne_nil _ _) R R R R R R (P7 tb R R R R R R R R R R R R R ?_)))
 refine S1 (v := .d (.agg [.v (.string (ByteArray.mk #[102,105,108,108])),.v (.slice none 0 0),vI 100,vI 200,.v (.bool false),.v (.slice none 0 0),.v (.slice none 0 0),.v (.slice none 0 0),.v (.slice none 0 0)])) tb R R (List.cons_ne_nil _ _) R R R R R R (P7 tb R R R R R R R R R R R R R (A0T R R R ?_))
 refine S1 (v := .agg [.d (.v (.string (ByteArray.mk #[112,111,119,101,114]))),.row 4 1 0 ([0]).length,.d (vI 10),.d (vI 500),.d (.v (.bool false)),.row 1 1 0 ([0]).length,.d (.v (.slice none 0 0)),.d (.v (.slice none 0 0)),.d (.v (.slice none 0 0))]) tb R R (List.cons_ne_nil _ _) R R R R R R (P7 tb R R R R R R R R R R R R R (A0T R R R ?_))
 refine S1 (v := .agg [.d (.v (.string (ByteArray.mk #[99,104,101,99,107]))),.row 5 1 0 ([0]).length,.d (vI 50),.d (vI 300),.d (.v (.bool false)),.d (.v (.slice none 0 0)),.row 1 1 0 ([0]).length,.d (.v (.slice none 0 0)),.d (.v (.slice none 0 0))]) tb R R (List.cons_ne_nil _ _) R R R R R R (P7 tb R R R R R R R R R R R R R (A0T R R R ?_))
 refine S1 (v := .agg [.d (.v (.string (ByteArray.mk #[112,111,108,108]))),.row 6 1 0 ([1,2]).length,.d (vI 0),.d (vI 20),.d (.v (.bool true)),.d (.v (.slice none 0 0)),.row 1 1 0 ([0]).length,.d (.v (.slice none 0 0)),.d (.v (.slice none 0 0))]) tb R R (List.cons_ne_nil _ _) R R R R R R (P7 tb R R R R R R R R R R R R R (A0T R R R (A0T R R R ?_)))
 refine S1 (v := .agg [.d (.v (.string (ByteArray.mk #[108,97,117,110,99,104]))),.row 7 1 0 ([3]).length,.d (vI 5),.d (vI 60),.d (.v (.bool true)),.d (.v (.slice none 0 0)),.row 1 1 0 ([0]).length,.row 1 1 0 ([0]).length,.d (.v (.slice none 0 0))]) tb R R (List.cons_ne_nil _ _) R R R R R R (P7 tb R R R R R R R R R R R R R (P7 tb R R R R R R R R R R R R R ?_))
 refine S1 (v := .d (.agg [vI 200,vI 400])) tb R R (List.cons_ne_nil _ _) R R R R R R ?_
 refine S1 (v := .agg [.d (.arr 8 ((rv.zones).map F6.d)),.d (.arr 2 ((rv.doors).map G6.d)),.d (.arr 2 ((rv.people).map E2.d)),.d (.arr 1 ((rv.keys).map vS)),.d (.arr 6 ((rv.squibs).map D1.d)),.d (vI rv.panel),.d (vI rv.wait),.row 2 1 0 ([(ByteArray.mk #[114,97,110,103,101]),(ByteArray.mk #[115,97,102,101,116,121])]).length,.row 3 3 0 ([(D9.mk (ByteArray.mk #[109,97,105,110]) 1000 2)]).length,.row 8 9 0 5,.row 9 1 0 ([1,3]).length,.d (vI 200),.d (vI 400)]) tb R R (List.cons_ne_nil _ _) (by kernel_rfl) (by kernel_rfl) (by kernel_rfl) (by kernel_rfl) R R ?_
 refine I6 _ _ tb R (eN (C9 ?_))
 obtain rfl:=sI h
 exact(U0 (t := .agg [.d (.arr 8 ((rv.zones).map F6.d)),.d (.arr 2 ((rv.doors).map G6.d)),.d (.arr 2 ((rv.people).map E2.d)),.d (.arr 1 ((rv.keys).map vS)),.d (.arr 6 ((rv.squibs).map D1.d)),.d (vI rv.panel),.d (vI rv.wait),.row 0 1 0 ([(ByteArray.mk #[114,97,110,103,101]),(ByteArray.mk #[115,97,102,101,116,121])]).length,.row 1 3 0 ([(D9.mk (ByteArray.mk #[109,97,105,110]) 1000 2)]).length,.row 2 9 0 5,.row 8 1 0 ([1,3]).length,.d (vI 200),.d (vI 400)]) (L:=[some (lvS [(ByteArray.mk #[114,97,110,103,101]),(ByteArray.mk #[115,97,102,101,116,121])]),some (B3M [(D9.mk (ByteArray.mk #[109,97,105,110]) 1000 2)]),some ⟨9,[.d (.agg [.v (.string (ByteArray.mk #[102,105,108,108])),.v (.slice none 0 0),vI 100,vI 200,.v (.bool false),.v (.slice none 0 0),.v (.slice none 0 0),.v (.slice none 0 0),.v (.slice none 0 0)]),.agg [.d (.v (.string (ByteArray.mk #[112,111,119,101,114]))),.row 3 1 0 ([0]).length,.d (vI 10),.d (vI 500),.d (.v (.bool false)),.row 4 1 0 ([0]).length,.d (.v (.slice none 0 0)),.d (.v (.slice none 0 0)),.d (.v (.slice none 0 0))],.agg [.d (.v (.string (ByteArray.mk #[99,104,101,99,107]))),.row 5 1 0 ([0]).length,.d (vI 50),.d (vI 300),.d (.v (.bool false)),.d (.v (.slice none 0 0)),.row 4 1 0 ([0]).length,.d (.v (.slice none 0 0)),.d (.v (.slice none 0 0))],.agg [.d (.v (.string (ByteArray.mk #[112,111,108,108]))),.row 6 1 0 ([1,2]).length,.d (vI 0),.d (vI 20),.d (.v (.bool true)),.d (.v (.slice none 0 0)),.row 4 1 0 ([0]).length,.d (.v (.slice none 0 0)),.d (.v (.slice none 0 0))],.agg [.d (.v (.string (ByteArray.mk #[108,97,117,110,99,104]))),.row 7 1 0 ([3]).length,.d (vI 5),.d (vI 60),.d (.v (.bool true)),.d (.v (.slice none 0 0)),.row 4 1 0 ([0]).length,.row 4 1 0 ([0]).length,.d (.v (.slice none 0 0))]]⟩,some (B7 [0]),some (B7 [0]),some (B7 [0]),some (B7 [1,2]),some (B7 [3]),some (B7 [1,3])]) (κ:=[2,3,8,4,1,5,6,7,9]) R (.cons (rc tb R) .nil) (vK (.row R (.row R (.cons R R (.row R (.row R (.row R (.row R (.row R (.row R .nil))))))))) R) ⟨_,R,(.aggL (.cons (.d _) (.cons (.d _) (.cons (.d _) (.cons (.d _) (.cons (.d _) (.cons (.d _) (.cons (.d _) (.cons (.row R R) (.cons (.row R R) (.cons (.rowL R R (.cons (.aggDL (.cons (.d _) (.cons .nilA (.cons (.d _) (.cons (.d _) (.cons (.d _) (.cons .nilA (.cons .nilA (.cons .nilA (.cons .nilA .nil)))))))))) (.cons (.aggL (.cons (.d _) (.cons (.row R R) (.cons (.d _) (.cons (.d _) (.cons (.d _) (.cons (.row R R) (.cons .nilA (.cons .nilA (.cons .nilA .nil)))))))))) (.cons (.aggL (.cons (.d _) (.cons (.row R R) (.cons (.d _) (.cons (.d _) (.cons (.d _) (.cons .nilA (.cons (.row R R) (.cons .nilA (.cons .nilA .nil)))))))))) (.cons (.aggL (.cons (.d _) (.cons (.row R R) (.cons (.d _) (.cons (.d _) (.cons (.d _) (.cons .nilA (.cons (.row R R) (.cons .nilA (.cons .nilA .nil)))))))))) (.cons (.aggL (.cons (.d _) (.cons (.row R R) (.cons (.d _) (.cons (.d _) (.cons (.d _) (.cons .nilA (.cons (.row R R) (.cons (.row R R) (.cons .nilA .nil)))))))))) .nil)))))) (.cons (.row R R) (.cons (.d _) (.cons (.d _) .nil))))))))))))))⟩)
def B1Z (F:Nat) :Option (List C7):=Option.bind (A17 F 0 1 0) fun rv=>Option.bind (A17 F 90 2 0) fun rv2=>Option.bind (A17 F 100 2 0) fun rv3=>Option.bind (A17 F 100 1 2) fun rv4=>Option.bind (A17 F 100 1 1) fun rv5=>Option.bind (A17 F 110 1 2) fun rv6=>Option.bind (A17 F 120 2 1) fun rv7=>Option.bind (A17 F 170 2 2) fun rv8=>Option.bind (A17 F 180 1 3) fun rv9=>Option.bind (A17 F 180 5 0) fun rv10=>Option.bind (A17 F 181 5 1) fun rv11=>Option.bind (A17 F 185 1 3) fun rv12=>Option.bind (A17 F 190 2 3) fun rv13=>Option.bind (A17 F 190 1 4) fun rv14=>Option.bind (A17 F 199 2 4) fun rv15=>Option.bind (A17 F 200 2 4) fun rv16=>some [rv,rv2,rv3,rv4,rv5,rv6,rv7,rv8,rv9,rv10,rv11,rv12,rv13,rv14,rv15,rv16]
theorem B63 {F:Nat}  {r:(List C7)} (h:B1Z F =some r):SCR Tryz.prog 40 (List.map T.d []) [] (.row 0 8 0 (r).length) (List.map some [(B62 r)]):=by
 rw[B1Z]at h
 refine SC.of_sw Tryz.func40 R R R ?_
 dsimp only[L8,List.map]
 refine qG (A3 R (eN (qG ?_)))
 obtain⟨rv,hrv,h⟩:=H1 h
 refine J5 (Z5 hrv) (.of (by kernel_rfl)) R R R R ?_
 obtain⟨rv2,hrv2,h⟩:=H1 h
 refine J5 (Z5 hrv2) (.of (by kernel_rfl)) R R R R ?_
 obtain⟨rv3,hrv3,h⟩:=H1 h
 refine J5 (Z5 hrv3) (.of (by kernel_rfl)) R R R R ?_
 obtain⟨rv4,hrv4,h⟩:=H1 h
 refine J5 (Z5 hrv4) (.of (by kernel_rfl)) R R R R ?_
 obtain⟨rv5,hrv5,h⟩:=H1 h
 refine J5 (Z5 hrv5) (.of (by kernel_rfl)) R R R R ?_
 obtain⟨rv6,hrv6,h⟩:=H1 h
 refine J5 (Z5 hrv6) (.of (by kernel_rfl)) R R R R ?_
 obtain⟨rv7,hrv7,h⟩:=H1 h
 refine J5 (Z5 hrv7) (.of (by kernel_rfl)) R R R R ?_
 obtain⟨rv8,hrv8,h⟩:=H1 h
 refine J5 (Z5 hrv8) (.of (by kernel_rfl)) R R R R ?_
 obtain⟨rv9,hrv9,h⟩:=H1 h
 refine J5 (Z5 hrv9) (.of (by kernel_rfl)) R R R R ?_
 obtain⟨rv10,hrv10,h⟩:=H1 h
 refine J5 (Z5 hrv10) (.of (by kernel_rfl)) R R R R ?_
 obtain⟨rv11,hrv11,h⟩:=H1 h
 refine J5 (Z5 hrv11) (.of (by kernel_rfl)) R R R R ?_
 obtain⟨rv12,hrv12,h⟩:=H1 h
 refine J5 (Z5 hrv12) (.of (by kernel_rfl)) R R R R ?_
 obtain⟨rv13,hrv13,h⟩:=H1 h
 refine J5 (Z5 hrv13) (.of (by kernel_rfl)) R R R R ?_
 obtain⟨rv14,hrv14,h⟩:=H1 h
 refine J5 (Z5 hrv14) (.of (by kernel_rfl)) R R R R ?_
 obtain⟨rv15,hrv15,h⟩:=H1 h
 refine J5 (Z5 hrv15) (.of (by kernel_rfl)) R R R R ?_
 obtain⟨rv16,hrv16,h⟩:=H1 h
 refine J5 (Z5 hrv16) (.of (by kernel_rfl)) R R R R (P7 tb R R R R R R R R R R R R R (A14 R R R (eN (C9 ?_))))
 obtain rfl:=sI h
 exact f2 [0] (.row R .nil) R (.cons (.tmp 0) .nil) R
theorem B0S {F:Nat}  {r:(List C7)} (h:B1Z F =some r):PC Tryz.prog 40 [] (.arr 8 ((r).map C7.d)):=(B63 h).toPC (.row rfl rfl)
def A7X (F:Nat) :Option Bool:=Option.bind (A9F F ) fun rv=>Option.bind (B1Z F ) fun rv2=>Option.bind (A36 F rv rv2) fun rv3=>Option.bind (A9F F ) fun rv4=>Option.bind (B1Z F ) fun rv5=>Option.bind (A7A rv5 0 5) fun q=>Option.bind (A3Z F rv4 q 120) fun rv6=>Option.bind (A9F F ) fun rv7=>Option.bind (A85 F rv7 []) fun rv8=>Option.bind (A9F F ) fun rv9=>Option.bind (B1Z F ) fun rv10=>Option.bind (A3Z F rv9 rv10 300) fun rv11=>if rv3.2.2=0 then(if rv6.2=0 then(if rv8.2=0 then(if rv11.2=9 then(if(rv3.2.1.length:Int)=16 then(Option.bind (P3 rv3.2.1 14) fun e=>if e=187 then(if rv3.1.now=200 then(if rv6.1=200 then(some (decide (rv8.1=245)))else(some false))else(some false))else(some false))else(some false))else(some false))else(some false))else(some false))else(some false)
theorem B0R {F:Nat}  {r:Bool} (h:A7X F =some r):PC Tryz.prog 22 [] (.v (.bool r)):=by
 rw[A7X]at h
 refine SC.of_sw Tryz.func22 R R R ?_
 dsimp only[L8,List.map]
 refine qG (A3 R (eN (qG ?_)))
 obtain⟨rv,hrv,h⟩:=H1 h
 refine J5 (A7Y hrv) (.of (by kernel_rfl)) R R R R ?_
 obtain⟨rv2,hrv2,h⟩:=H1 h
 refine J5 (B0S hrv2) (.of (by kernel_rfl)) R R R R ?_
 obtain⟨rv3,hrv3,h⟩:=H1 h
 refine J5 (A6l hrv3) (.of (by kernel_rfl)) R R R R (A0 R (Q1 (t:=H2.d rv3.1) R R R R (Q1 (t := .arr 1 ((rv3.2.1).map vI)) R R R R (Q1 (t:=vI rv3.2.2) R R R R (M5 tb R R R R R (I6 _ _ tb R (A3 R (A3 R (eN (qG ?_))))))))))
 obtain⟨rv4,hrv4,h⟩:=H1 h
 refine J5 (A7Y hrv4) (.of (by kernel_rfl)) R R R R ?_
 obtain⟨rv5,hrv5,h⟩:=H1 h
 refine J5 (B0S hrv5) (.of (by kernel_rfl)) R R R R ?_
 obtain⟨q,iq,h⟩:=H1 h
 refine A6E tb R R R R R R iq R R ?_
 obtain⟨rv6,hrv6,h⟩:=H1 h
 refine J5 (A6d hrv6) (.of (by kernel_rfl)) R R R R (A0 R (Q1 (t:=vI rv6.1) R R R R (Q1 (t:=vI rv6.2) R R R R (A3 R (A3 R (eN (qG ?_)))))))
 obtain⟨rv7,hrv7,h⟩:=H1 h
 refine J5 (A7Y hrv7) (.of (by kernel_rfl)) R R R R ?_
 obtain⟨rv8,hrv8,h⟩:=H1 h
 refine A19 (B1B hrv8) R (.of (by kernel_rfl)) R R ((.cons (.d _) (.cons .nilA .nil))) R R (A0 R (Q1 (t:=vI rv8.1) R R R R (Q1 (t:=vI rv8.2) R R R R (A3 R (A3 R (eN (qG ?_)))))))
 obtain⟨rv9,hrv9,h⟩:=H1 h
 refine J5 (A7Y hrv9) (.of (by kernel_rfl)) R R R R ?_
 obtain⟨rv10,hrv10,h⟩:=H1 h
 refine J5 (B0S hrv10) (.of (by kernel_rfl)) R R R R ?_
 obtain⟨rv11,hrv11,h⟩:=H1 h
 refine J5 (A6d hrv11) (.of (by kernel_rfl)) R R R R (A0 R (Q1 (t:=vI rv11.1) R R R R (Q1 (t:=vI rv11.2) R R R R (A3 R (A3 R (eN (qG (A0 R ?_))))))))
 refine Z3 R R R R ?_ ?_
 ·intro c
  replace h:=J7 c h
  refine A0 R (A0 R ?_)
  refine Z3 R R R R ?_ ?_
  ·intro c2
   replace h:=J7 c2 h
   refine D6 R (A0 R (A0 R ?_))
   refine Z3 R R R R ?_ ?_
   ·intro c3
    replace h:=J7 c3 h
    refine D6 R (A0 R (A0 R ?_))
    refine Z3 R R R R ?_ ?_
    ·intro c4
     replace h:=J7 c4 h
     refine D6 R (A0 R (A0 R (I7 tb R ?_)))
     refine Z3 R R R R ?_ ?_
     ·intro c5
      replace h:=J7 c5 h
      refine D6 R (A0 R (A0 R ?_))
      obtain⟨e,ie,h⟩:=H1 h
      refine N8 tb (F0 ie) (V1 ie) R (I4 (y:=vI e) tb (U5 (g:=vI) ie) R ?_)
      refine Z3 R R R R ?_ ?_
      ·intro c6
       replace h:=J7 c6 h
       refine D6 R (A0 R (C8 tb R (B5 (y:=vI rv3.1.now) tb R ?_)))
       refine Z3 R R R R ?_ ?_
       ·intro c7
        replace h:=J7 c7 h
        refine D6 R (A0 R (A0 R ?_))
        refine Z3 R R R R ?_ ?_
        ·intro c8
         replace h:=J7 c8 h
         refine D6 R (A0 R (A0 R (A3s R R R R (D6 R (A3 R (eN (C9 ?_)))))))
         obtain rfl:=sI h
         exact f1 0 R
        intro c8
        replace h:=P1 c8 h
        refine D6 R (A0 R (L9 2 R (D0 R (A3 R (eN (C9 ?_))))))
        obtain rfl:=sI h
        exact f1 0 R
       intro c7
       replace h:=P1 c7 h
       refine D6 R (A0 R (L9 2 R (D0 R (A0 R (L9 2 R (D0 R (A3 R (eN (C9 ?_)))))))))
       obtain rfl:=sI h
       exact f1 0 R
      intro c6
      replace h:=P1 c6 h
      refine D6 R (A0 R (L9 3 R (D0 R (A0 R (L9 2 R (D0 R (A0 R (L9 2 R (D0 R (A3 R (eN (C9 ?_))))))))))))
      obtain rfl:=sI h
      exact f1 0 R
     intro c5
     replace h:=P1 c5 h
     refine D6 R (A0 R (L9 4 R (D0 R (A0 R (L9 3 R (D0 R (A0 R (L9 2 R (D0 R (A0 R (L9 2 R (D0 R (A3 R (eN (C9 ?_)))))))))))))))
     obtain rfl:=sI h
     exact f1 0 R
    intro c4
    replace h:=P1 c4 h
    refine D6 R (A0 R (L9 3 R (D0 R (A0 R (L9 4 R (D0 R (A0 R (L9 3 R (D0 R (A0 R (L9 2 R (D0 R (A0 R (L9 2 R (D0 R (A3 R (eN (C9 ?_))))))))))))))))))
    obtain rfl:=sI h
    exact f1 0 R
   intro c3
   replace h:=P1 c3 h
   refine D6 R (A0 R (L9 2 R (D0 R (A0 R (L9 3 R (D0 R (A0 R (L9 4 R (D0 R (A0 R (L9 3 R (D0 R (A0 R (L9 2 R (D0 R (A0 R (L9 2 R (D0 R (A3 R (eN (C9 ?_)))))))))))))))))))))
   obtain rfl:=sI h
   exact f1 0 R
  intro c2
  replace h:=P1 c2 h
  refine D6 R (A0 R (L9 2 R (D0 R (A0 R (L9 2 R (D0 R (A0 R (L9 3 R (D0 R (A0 R (L9 4 R (D0 R (A0 R (L9 3 R (D0 R (A0 R (L9 2 R (D0 R (A0 R (L9 2 R (D0 R (A3 R (eN (C9 ?_))))))))))))))))))))))))
  obtain rfl:=sI h
  exact f1 0 R
 intro c
 replace h:=P1 c h
 refine A0 R (L9 2 R (D0 R (A0 R (L9 2 R (D0 R (A0 R (L9 2 R (D0 R (A0 R (L9 3 R (D0 R (A0 R (L9 4 R (D0 R (A0 R (L9 3 R (D0 R (A0 R (L9 2 R (D0 R (A0 R (L9 2 R (D0 R (A3 R (eN (C9 ?_))))))))))))))))))))))))))
 obtain rfl:=sI h
 exact f1 0 R
def C1Q (F:Nat) (B3:Int→Bool→Int→Option Bool) (o:(List C7)) (x2:Bool) (x3:Int) (x4:Int):Option Bool:=if x2=true then(B3 x4 true (W (x3+1)))else(Option.bind (P3 o x3) fun e4=>if e4.kind=7 then(B3 x4 true (W (x3+1)))else(B3 x4 false (W (x3+1))))
def A1I (F:Nat) (o:(List C7)) (rv5:(H2 × (List Int) × Int)) (K:Int→Bool→Int→Option Bool):Nat→Int→Bool→Int→Option Bool
 | 0,_,_,_=>none
 | n+1,x,x2,x3=>if x3<(o.length:Int)then(Option.bind (P3 o x3) fun e3=>if rv5.1.now≤e3.at_ then(C1Q F (A1I F o rv5 K n) o x2 x3 (min x e3.at_))else(C1Q F (A1I F o rv5 K n) o x2 x3 x))else(K x x2 x3)
def C2d (F:Nat) (t:D4) (o:(List C7)) (a:Int) (e:Int) (q:(List C7)) (rv5:(H2 × (List Int) × Int)):Option Bool:=A1I F o rv5 (fun(x:Int) (x2:Bool) (x3:Int)=>Option.bind (A3Z F t q x) fun rv8=>if rv8.2=0 then(if rv8.1≤e then(Option.bind (A7X 100 ) fun rv10=>some rv10)else(some false))else(if rv8.2=9 then(if x2=true then(Option.bind (A7X 100 ) fun rv9=>some rv9)else(some false))else(some false))) F 100000 false (Int.tmod (W a) (o.length:Int))
def C2e (F:Nat) (t:D4) (o:(List C7)) (a:Int) (e:Int) (q:(List C7)) (rv5:(H2 × (List Int) × Int)):Option Bool:=if e<0 then(Option.bind (A7X 100 ) fun rv6=>some rv6)else(Option.bind (P3 rv5.1.ended (W ((rv5.1.ended.length:Int)-1))) fun e2=>if 0≤e2 then(Option.bind (A7X 100 ) fun rv7=>some rv7)else(C2d F t o a e q rv5))
def C2o (F:Nat) (t:D4) (o:(List C7)) (a:Int) (rv:(H2 × (List Int) × Int)):Option Bool:=Option.bind (P3 rv.1.ended (W ((rv.1.ended.length:Int)-1))) fun e=>if(o.length:Int)=0 then none else(Option.bind (A7A o 0 (Int.tmod (W a) (o.length:Int))) fun q=>Option.bind (A36 F t q) fun rv5=>if rv5.2.2=0 then(if(rv5.1.ended.length:Int)=(rv.1.ended.length:Int)then(C2e F t o a e q rv5)else(some false))else(some false))
def C26 (F:Nat) (t:D4) (o:(List C7)) (a:Int):Option Bool:=Option.bind (A36 F t o) fun rv=>if rv.2.2=0 then(if(rv.1.ended.length:Int)=0 then(Option.bind (A7X 100 ) fun rv3=>some rv3)else(if(o.length:Int)=0 then(Option.bind (A7X 100 ) fun rv4=>some rv4)else(C2o F t o a rv)))else(Option.bind (A7X 100 ) fun rv2=>some rv2)
theorem C3b {F:Nat} {t:D4} {o:(List C7)} {a:Int} {r:Bool} (h:C26 F t o a=some r):PC Tryz.prog 7 [D4.d t,.arr 8 ((o).map C7.d),.v (.int .u8 a)] (.v (.bool r)):=by
 rw[C26]at h
 refine SC.of_sw Tryz.func7 R R R ?_
 dsimp only[L8,List.map]
 refine qG (M9 R (A3 R (eN (qG (B5 (y:=D4.d t) tb R (A0 R ?_))))))
 obtain⟨rv,hrv,h⟩:=H1 h
 refine J5 (A6l hrv) (.of (by kernel_rfl)) R R R R (A0 R (Q1 (t:=H2.d rv.1) R R R R (Q1 (t := .arr 1 ((rv.2.1).map vI)) R R R R (Q1 (t:=vI rv.2.2) R R R R (M5 tb R R R R R (I6 _ _ tb R (A3 R (A3 R (eN (B8 ?_))))))))))
 refine W5 (fun zz:Unit=>C2o F t o a rv=some r) (fun zz:Unit=>⟨[(1,.d (.arr 8 ((o).map C7.d))),(2,.d (.v (.int .u8 a))),(3,.ref 0 13 0 0),(6,.d (.v (.bool false))),(7,.ref 1 13 0 0)],[some ⟨13,[.d (D4.d t)]⟩,some ⟨13,[.d (H2.d rv.1)]⟩]⟩) ?_ ?_
 ·clear h
  rintro⟨⟩ h
  rw[C2o]at h
  refine qG (C8 tb R (B5 (y := .arr 1 ((rv.1.ended).map vI)) tb R (C8 tb R (B5 (y := .arr 1 ((rv.1.ended).map vI)) tb R (I7 tb R (A1n R R R R ?_))))))
  obtain⟨e,ie,h⟩:=H1 h
  refine N8 tb (F0 ie) (V1 ie) R (I4 (y:=vI e) tb (U5 (g:=vI) ie) R (A3 R (eN (qG (A0 R (B5S (k2 := .i64) R R R R R R (A0 R (I7 tb R ?_))))))))
  by_cases c4:(o.length:Int)=0
  ·cases(if_pos c4).symm.trans h
  replace h:=P1 c4 h
  refine C0K R R c4 R R (A3 R (eN (B8 (T1 (by kernel_rfl) (B5 (y:=D4.d t) tb R (A0 R (A0 R ?_)))))))
  obtain⟨q,iq,h⟩:=H1 h
  refine A6E tb R R R R R R iq R R ?_
  obtain⟨rv5,hrv5,h⟩:=H1 h
  refine J5 (A6l hrv5) (.of (by kernel_rfl)) R R R R (A0 R (Q1 (t:=H2.d rv5.1) R R R R (Q1 (t := .arr 1 ((rv5.2.1).map vI)) R R R R (Q1 (t:=vI rv5.2.2) R R R R (M5 tb R R R R R (I6 _ _ tb R (A3 R (A3 R (I0 (by kernel_rfl) (A6 (B8 ?_)))))))))))
  refine W5 (fun zz:Unit=>C2e F t o a e q rv5=some r) (fun zz:Unit=>⟨[(1,.d (.arr 8 ((o).map C7.d))),(3,.ref 0 13 0 0),(6,.d (.v (.bool false))),(10,.d (vI e)),(11,.d (vI (Int.tmod (W a) (o.length:Int)))),(12,.ref 1 13 0 0)],[some ⟨13,[.d (D4.d t)]⟩,some ⟨13,[.d (H2.d rv5.1)]⟩]⟩) ?_ ?_
  ·clear h
   rintro⟨⟩ h
   rw[C2e]at h
   refine B8 ?_
   refine W5 (fun zz:Unit=>C2d F t o a e q rv5=some r) (fun zz:Unit=>⟨[(1,.d (.arr 8 ((o).map C7.d))),(3,.ref 0 13 0 0),(6,.d (.v (.bool false))),(10,.d (vI e)),(11,.d (vI (Int.tmod (W a) (o.length:Int)))),(12,.ref 1 13 0 0)],[some ⟨13,[.d (D4.d t)]⟩,some ⟨13,[.d (H2.d rv5.1)]⟩]⟩) ?_ ?_
   ·clear h
    rintro⟨⟩ h
    rw[C2d]at h
    refine qG (A3 R (A3 R (eN (B8 (qG (A0 R (A3 R (eN (E3 ?_)))))))))
    obtain⟨K3,hK3,h⟩:∃ K,K=_∧A1I F o rv5 K F 100000 false (Int.tmod (W a) (o.length:Int))=some r:=⟨_,rfl,h⟩
    refine M2 (fun m st=>∃ (x:Int) (x2:Bool) (x3:Int),A1I F o rv5 K3 m x x2 x3=some r∧st=⟨[(1,.d (.arr 8 ((o).map C7.d))),(3,.ref 0 13 0 0),(6,.d (.v (.bool false))),(10,.d (vI e)),(11,.d (vI (Int.tmod (W a) (o.length:Int)))),(12,.ref 1 13 0 0),(15,.d (vI x)),(16,.d (.v (.bool x2))),(17,.d (vI x3))],[some ⟨13,[.d (D4.d t)]⟩,some ⟨13,[.d (H2.d rv5.1)]⟩]⟩) (.prn [1,3,6,10,11,12,15,16,17] R) ⟨100000,false,(Int.tmod (W a) (o.length:Int)),h,R⟩ ?_
    clear h
    rintro m3 st ⟨x,x2,x3,h,rfl⟩
    cases m3 with
    | zero=>cases(show(none:Option Bool)=some r from h)
    | succ m3 =>
    rw[A1I]at h
    refine B8 (qG (A0 R (A0 R (I7 tb R ?_))))
    refine Q4 R R R R ?_ ?_
    ·intro c9
     replace h:=J7 c9 h
     refine eN (C0 R (D7 (A6 (B8 (E3 (B8 ?_))))))
     refine W5 (fun zz:Int=>C1Q F (A1I F o rv5 K3 m3) o x2 x3 zz=some r) (fun zz:Int=>⟨[(1,.d (.arr 8 ((o).map C7.d))),(3,.ref 0 13 0 0),(6,.d (.v (.bool false))),(10,.d (vI e)),(11,.d (vI (Int.tmod (W a) (o.length:Int)))),(12,.ref 1 13 0 0),(15,.d (vI zz)),(16,.d (.v (.bool x2))),(17,.d (vI x3))],[some ⟨13,[.d (D4.d t)]⟩,some ⟨13,[.d (H2.d rv5.1)]⟩]⟩) ?_ ?_
     ·clear h
      rintro x4 h
      rw[C1Q]at h
      refine J1 (A0 R ?_)
      with_reducible apply X8
      ·intro c11
       replace h:=J7 c11 h
       refine A0 R (L9 6 R (D6 R (A3 R (Y9 (D3 (A6 (J1 (A0 R (O1 R (A3 R (eN ?_)))))))))))
       exact⟨m3,_,Nat.lt_succ_self _,.prn [1,3,6,10,11,12,15,16,17] R,x4,true,(W (x3+1)),h,R⟩
      intro c11
      replace h:=ifF c11 h
      refine A0 R (A0 R (A0 R ?_))
      obtain⟨e4,ie4,h⟩:=H1 h
      refine N8 tb (F0 ie4) (V1 ie4) R (M4 tb R (I4 (y:=vI e4.kind) tb (U5 (g:=C7.d) ie4) R ?_))
      refine Z3 R R R R ?_ ?_
      ·intro c12
       replace h:=J7 c12 h
       refine D0 R (A3 R (Y9 (D3 (A6 (J1 (A0 R (O1 R (A3 R (eN ?_)))))))))
       exact⟨m3,_,Nat.lt_succ_self _,.prn [1,3,6,10,11,12,15,16,17] R,x4,true,(W (x3+1)),h,R⟩
      intro c12
      replace h:=P1 c12 h
      refine D0 R (A3 R (Y9 (D3 (A6 (J1 (A0 R (O1 R (A3 R (eN ?_)))))))))
      exact⟨m3,_,Nat.lt_succ_self _,.prn [1,3,6,10,11,12,15,16,17] R,x4,false,(W (x3+1)),h,R⟩
     refine B8 (T1 (by kernel_rfl) (A0 R (A0 R ?_)))
     obtain⟨e3,ie3,h⟩:=H1 h
     refine N8 tb (F0 ie3) (V1 ie3) R (M4 tb R (I4 (y:=vI e3.at_) tb (U5 (g:=C7.d) ie3) R (C8 tb R (B5 (y:=vI rv5.1.now) tb R ?_))))
     refine A7I R R R R ?_ ?_
     ·intro c10
      replace h:=J7 c10 h
      refine I0 (by kernel_rfl) (A6 (C0 R (J1 (A0 R (A0 R (A0 R (N8 tb (F0 ie3) (V1 ie3) R (M4 tb R (I4 (y:=vI e3.at_) tb (U5 (g:=C7.d) ie3) R (C2H R R R R (A3 R (eN ?_))))))))))))
      exact .inl ⟨(min x e3.at_),h,.prn [1,3,6,10,11,12,15,16,17] R⟩
     intro c10
     replace h:=P1 (Int.not_le.2 c10) h
     refine I0 (by kernel_rfl) (A6 (C1 R (D7 (A6 ?_))))
     exact .inl ⟨x,h,.prn [1,3,6,10,11,12,15,16,17] R⟩
    intro c9
    replace h:=P1 (Int.not_lt.2 c9) h
    refine eN (C1 R (N5 (E4 (E4 ?_))))
    subst hK3
    refine I5 (A6 (B8 (T1 (by kernel_rfl) (B5 (y:=D4.d t) tb R (A0 R (A0 R (A6E tb R R R R R R iq R R (A0 R ?_))))))))
    obtain⟨rv8,hrv8,h⟩:=H1 h
    refine J5 (A6d hrv8) (.of (by kernel_rfl)) R R R R (A0 R (Q1 (t:=vI rv8.1) R R R R (Q1 (t:=vI rv8.2) R R R R (A3 R (A3 R (I0 (by kernel_rfl) (A6 (B8 (qG (A0 R ?_))))))))))
    refine V5 R R R R ?_ ?_
    ·intro c13
     replace h:=P1 c13 h
     refine eN (C0 R (qG (A0 R ?_)))
     refine Z3 R R R R ?_ ?_
     ·intro c14
      replace h:=J7 c14 h
      refine A0 R (A0 R ?_)
      with_reducible apply X8
      ·intro c15
       replace h:=J7 c15 h
       refine D6 R (A0 R ?_)
       obtain⟨rv9,hrv9,h⟩:=H1 h
       refine J5 (B0R hrv9) (.of (by kernel_rfl)) R R R R (D6 R (A3 R (eN (C9 (B2 ?_)))))
       obtain rfl:=sI h
       exact f1 6 R
      intro c15
      replace h:=ifF c15 h
      refine D6 R (A0 R (B3b R (D0 R (A3 R (eN (C9 (B2 ?_)))))))
      obtain rfl:=sI h
      exact f1 6 R
     intro c14
     replace h:=P1 c14 h
     refine A0 R (B3b R (D0 R (A0 R (B3b R (D0 R (A3 R (eN (C9 (B2 ?_)))))))))
     obtain rfl:=sI h
     exact f1 6 R
    intro c13
    replace h:=J7 c13 h
    refine eN (C1 R (D7 (A6 (qG (A0 R (A0 R ?_))))))
    refine A7I R R R R ?_ ?_
    ·intro c16
     replace h:=J7 c16 h
     refine A0 R ?_
     obtain⟨rv10,hrv10,h⟩:=H1 h
     refine J5 (B0R hrv10) (.of (by kernel_rfl)) R R R R (D6 R (A3 R (eN (C9 ?_))))
     obtain rfl:=sI h
     exact f1 6 R
    intro c16
    replace h:=P1 (Int.not_le.2 c16) h
    refine A0 R (B3b R (D0 R (A3 R (eN (C9 ?_)))))
    obtain rfl:=sI h
    exact f1 6 R
   refine qG (A0 R ?_)
   refine Q4 R R R R ?_ ?_
   ·intro c7
    replace h:=J7 c7 h
    refine A0 R (L9 9 R (D6 R (eN (C0 R (qG ?_)))))
    obtain⟨rv6,hrv6,h⟩:=H1 h
    refine J5 (B0R hrv6) (.of (by kernel_rfl)) R R R R (A3 R (eN (C9 (B2 ?_))))
    obtain rfl:=sI h
    exact f1 6 R
   intro c7
   replace h:=P1 (Int.not_lt.2 c7) h
   refine A0 R (C8 tb R (B5 (y := .arr 1 ((rv5.1.ended).map vI)) tb R (C8 tb R (B5 (y := .arr 1 ((rv5.1.ended).map vI)) tb R (I7 tb R (A1n R R R R ?_))))))
   obtain⟨e2,ie2,h⟩:=H1 h
   refine N8 tb (F0 ie2) (V1 ie2) R (I4 (y:=vI e2) tb (U5 (g:=vI) ie2) R ?_)
   refine A7I R R R R ?_ ?_
   ·intro c8
    replace h:=J7 c8 h
    refine D0 R (eN (C0 R (qG ?_)))
    obtain⟨rv7,hrv7,h⟩:=H1 h
    refine J5 (B0R hrv7) (.of (by kernel_rfl)) R R R R (A3 R (eN (C9 (B2 ?_))))
    obtain rfl:=sI h
    exact f1 6 R
   intro c8
   replace h:=P1 (Int.not_le.2 c8) h
   refine D0 R (eN (C1 R (D7 (A6 ?_))))
   exact .inl ⟨(),h,.prn [1,3,6,10,11,12] R⟩
  refine qG (A0 R ?_)
  refine V5 R R R R ?_ ?_
  ·intro c5
   replace h:=P1 c5 h
   refine A0 R (L9 7 R (D6 R (eN (C0 R (qG (A3 R (eN (C9 (B2 ?_)))))))))
   obtain rfl:=sI h
   exact f1 6 R
  intro c5
  replace h:=J7 c5 h
  refine A0 R (C8 tb R (B5 (y := .arr 1 ((rv5.1.ended).map vI)) tb R (I7 tb R (C8 tb R (B5 (y := .arr 1 ((rv.1.ended).map vI)) tb R (I7 tb R ?_))))))
  refine V5 R R R R ?_ ?_
  ·intro c6
   replace h:=P1 c6 h
   refine D0 R (eN (C0 R (qG (A3 R (eN (C9 (B2 ?_)))))))
   obtain rfl:=sI h
   exact f1 6 R
  intro c6
  replace h:=J7 c6 h
  refine D0 R (eN (C1 R (D7 (A6 ?_))))
  exact .inl ⟨(),h,.vw (κ:=[0,2]) (vK (.cons R R (.cons R R .nil)) R)⟩
 refine qG (A0 R ?_)
 refine V5 R R R R ?_ ?_
 ·intro c
  replace h:=P1 c h
  refine A0 R (L9 4 R (D6 R (A0 R (L9 3 R (D6 R (eN (C0 R (qG ?_))))))))
  obtain⟨rv2,hrv2,h⟩:=H1 h
  refine J5 (B0R hrv2) (.of (by kernel_rfl)) R R R R (A3 R (eN (C9 (B2 ?_))))
  obtain rfl:=sI h
  exact f1 6 R
 intro c
 replace h:=J7 c h
 refine A0 R (C8 tb R (B5 (y := .arr 1 ((rv.1.ended).map vI)) tb R (I7 tb R ?_)))
 refine Z3 R R R R ?_ ?_
 ·intro c2
  replace h:=J7 c2 h
  refine D0 R (A0 R (L9 3 R (D6 R (eN (C0 R (qG ?_))))))
  obtain⟨rv3,hrv3,h⟩:=H1 h
  refine J5 (B0R hrv3) (.of (by kernel_rfl)) R R R R (A3 R (eN (C9 (B2 ?_))))
  obtain rfl:=sI h
  exact f1 6 R
 intro c2
 replace h:=P1 c2 h
 refine D0 R (A0 R (A0 R (I7 tb R ?_)))
 refine Z3 R R R R ?_ ?_
 ·intro c3
  replace h:=J7 c3 h
  refine D0 R (eN (C0 R (qG ?_)))
  obtain⟨rv4,hrv4,h⟩:=H1 h
  refine J5 (B0R hrv4) (.of (by kernel_rfl)) R R R R (A3 R (eN (C9 (B2 ?_))))
  obtain rfl:=sI h
  exact f1 6 R
 intro c3
 replace h:=P1 c3 h
 refine D0 R (eN (C1 R (D7 (A6 ?_))))
 exact .inl ⟨(),h,.prn [1,2,3,6,7] R⟩
end Go.Proofs.YtlaogbbcipebgaaGreat
