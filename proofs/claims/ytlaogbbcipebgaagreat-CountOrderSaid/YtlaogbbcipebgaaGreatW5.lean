/- What functions of the program compute: plain functions, and the proofs. -/
import Derived.Test.YtlaogbbcipebgaaGreatW4
open Go Go.Proofs.YtlaogbbcipebgaaGreat.Sh Go.Proofs
namespace Go.Proofs.YtlaogbbcipebgaaGreat
set_option linter.unusedVariables false
set_option linter.unusedSimpArgs false
set_option maxRecDepth 100000
set_option maxHeartbeats 40000000
def A17 (F:Nat) (atv:Int) (kind:Int) (what:Int):Option C7:=some (C7.mk atv kind what 0 0 0 0 0)
theorem Z5 {F:Nat} {atv:Int} {kind:Int} {what:Int} {r:C7} (h:A17 F atv kind what=some r):PC Tryz.prog 27 [.v (.int .i64 atv),.v (.int .i64 kind),.v (.int .i64 what)] (C7.d r):=by
 rw [A17] at h
 refine SC.of_sw Tryz.func27 R R R ?_
 dsimp only [L8,List.map]
 refine qG (M5 tb R R R R R (eN (qG (A0 R (A0 R (A0 R (S1 (v := .d (.agg [vI atv,vI kind,vI what,vI 0,vI 0,vI 0,vI 0,vI 0])) tb R R (List.cons_ne_nil _ _) R R R R R R (I6 _ _ tb R (eN (C9 ?_))))))))))
 obtain rfl:=sI h
 exact U4 (t := .d (.agg [vI atv,vI kind,vI what,vI 0,vI 0,vI 0,vI 0,vI 0])) R R R (.cons (rc tb R) .nil)
def A9F (F:Nat) :Option D4:=Option.bind (A9E F ) fun rv=>some (D4.mk rv.zones rv.doors rv.people rv.keys rv.squibs rv.panel rv.wait [(ByteArray.mk #[114,97,110,103,101]),(ByteArray.mk #[115,97,102,101,116,121])] [(D9.mk (ByteArray.mk #[109,97,105,110]) 1000 2)] [(E0.mk (ByteArray.mk #[102,105,108,108]) [] 100 200 false [] [] [] []),(E0.mk (ByteArray.mk #[112,111,119,101,114]) [0] 10 500 false [0] [] [] []),(E0.mk (ByteArray.mk #[99,104,101,99,107]) [0] 50 300 false [] [0] [] []),(E0.mk (ByteArray.mk #[112,111,108,108]) [1,2] 0 20 true [] [0] [] []),(E0.mk (ByteArray.mk #[108,97,117,110,99,104]) [3] 5 60 true [] [0] [0] [])] [1,3] 200 400)
theorem A7Y {F:Nat}  {r:D4} (h:A9F F =some r):PC Tryz.prog 39 [] (D4.d r):=by
 rw [A9F] at h
 refine PC.of_lend ?_
 refine SC.of_sw Tryz.func39 R R R ?_
 dsimp only [L8,List.map]
 refine qG (M5 tb R R R R R (eN (qG (P7 tb R R R R R R R R R R R R R (A14 R R R (eN (qG ?_)))))))
 obtain ⟨rv,hrv,h⟩:=H1 h
 refine J5 (B2I hrv) (.of (by kernel_rfl)) R R R R (P7 tb R R R R R R R R R R R R R (S1 (v := .d (.agg [.v (.string (ByteArray.mk #[109,97,105,110])),vI 1000,vI 2])) tb R R (List.cons_ne_nil _ _) R R R R R R (P7 tb R R R R R R R R R R R R R ?_)))
 refine S1 (v := .d (.agg [.v (.string (ByteArray.mk #[102,105,108,108])),.v (.slice none 0 0),vI 100,vI 200,.v (.bool false),.v (.slice none 0 0),.v (.slice none 0 0),.v (.slice none 0 0),.v (.slice none 0 0)])) tb R R (List.cons_ne_nil _ _) R R R R R R (P7 tb R R R R R R R R R R R R R (A0T R R R ?_))
 refine S1 (v := .agg [.d (.v (.string (ByteArray.mk #[112,111,119,101,114]))),.row 4 1 0 ([0]).length,.d (vI 10),.d (vI 500),.d (.v (.bool false)),.row 1 1 0 ([0]).length,.d (.v (.slice none 0 0)),.d (.v (.slice none 0 0)),.d (.v (.slice none 0 0))]) tb R R (List.cons_ne_nil _ _) R R R R R R (P7 tb R R R R R R R R R R R R R (A0T R R R ?_))
 refine S1 (v := .agg [.d (.v (.string (ByteArray.mk #[99,104,101,99,107]))),.row 5 1 0 ([0]).length,.d (vI 50),.d (vI 300),.d (.v (.bool false)),.d (.v (.slice none 0 0)),.row 1 1 0 ([0]).length,.d (.v (.slice none 0 0)),.d (.v (.slice none 0 0))]) tb R R (List.cons_ne_nil _ _) R R R R R R (P7 tb R R R R R R R R R R R R R (A0T R R R ?_))
 refine S1 (v := .agg [.d (.v (.string (ByteArray.mk #[112,111,108,108]))),.row 6 1 0 ([1,2]).length,.d (vI 0),.d (vI 20),.d (.v (.bool true)),.d (.v (.slice none 0 0)),.row 1 1 0 ([0]).length,.d (.v (.slice none 0 0)),.d (.v (.slice none 0 0))]) tb R R (List.cons_ne_nil _ _) R R R R R R (P7 tb R R R R R R R R R R R R R (A0T R R R (A0T R R R ?_)))
 refine S1 (v := .agg [.d (.v (.string (ByteArray.mk #[108,97,117,110,99,104]))),.row 7 1 0 ([3]).length,.d (vI 5),.d (vI 60),.d (.v (.bool true)),.d (.v (.slice none 0 0)),.row 1 1 0 ([0]).length,.row 1 1 0 ([0]).length,.d (.v (.slice none 0 0))]) tb R R (List.cons_ne_nil _ _) R R R R R R (P7 tb R R R R R R R R R R R R R (P7 tb R R R R R R R R R R R R R ?_))
 refine S1 (v := .d (.agg [vI 200,vI 400])) tb R R (List.cons_ne_nil _ _) R R R R R R ?_
 refine S1 (v := .agg [.d (.arr 8 ((rv.zones).map F6.d)),.d (.arr 2 ((rv.doors).map G6.d)),.d (.arr 2 ((rv.people).map E2.d)),.d (.arr 1 ((rv.keys).map vS)),.d (.arr 6 ((rv.squibs).map D1.d)),.d (vI rv.panel),.d (vI rv.wait),.row 2 1 0 ([(ByteArray.mk #[114,97,110,103,101]),(ByteArray.mk #[115,97,102,101,116,121])]).length,.row 3 3 0 ([(D9.mk (ByteArray.mk #[109,97,105,110]) 1000 2)]).length,.row 8 9 0 5,.row 9 1 0 ([1,3]).length,.d (vI 200),.d (vI 400)]) tb R R (List.cons_ne_nil _ _) (by kernel_rfl) (by kernel_rfl) (by kernel_rfl) (by kernel_rfl) R R ?_
 refine I6 _ _ tb R (eN (C9 ?_))
 obtain rfl:=sI h
 exact (U0 (t := .agg [.d (.arr 8 ((rv.zones).map F6.d)),.d (.arr 2 ((rv.doors).map G6.d)),.d (.arr 2 ((rv.people).map E2.d)),.d (.arr 1 ((rv.keys).map vS)),.d (.arr 6 ((rv.squibs).map D1.d)),.d (vI rv.panel),.d (vI rv.wait),.row 0 1 0 ([(ByteArray.mk #[114,97,110,103,101]),(ByteArray.mk #[115,97,102,101,116,121])]).length,.row 1 3 0 ([(D9.mk (ByteArray.mk #[109,97,105,110]) 1000 2)]).length,.row 2 9 0 5,.row 8 1 0 ([1,3]).length,.d (vI 200),.d (vI 400)]) (L:=[some (lvS [(ByteArray.mk #[114,97,110,103,101]),(ByteArray.mk #[115,97,102,101,116,121])]),some (B3M [(D9.mk (ByteArray.mk #[109,97,105,110]) 1000 2)]),some ⟨9,[.d (.agg [.v (.string (ByteArray.mk #[102,105,108,108])),.v (.slice none 0 0),vI 100,vI 200,.v (.bool false),.v (.slice none 0 0),.v (.slice none 0 0),.v (.slice none 0 0),.v (.slice none 0 0)]),.agg [.d (.v (.string (ByteArray.mk #[112,111,119,101,114]))),.row 3 1 0 ([0]).length,.d (vI 10),.d (vI 500),.d (.v (.bool false)),.row 4 1 0 ([0]).length,.d (.v (.slice none 0 0)),.d (.v (.slice none 0 0)),.d (.v (.slice none 0 0))],.agg [.d (.v (.string (ByteArray.mk #[99,104,101,99,107]))),.row 5 1 0 ([0]).length,.d (vI 50),.d (vI 300),.d (.v (.bool false)),.d (.v (.slice none 0 0)),.row 4 1 0 ([0]).length,.d (.v (.slice none 0 0)),.d (.v (.slice none 0 0))],.agg [.d (.v (.string (ByteArray.mk #[112,111,108,108]))),.row 6 1 0 ([1,2]).length,.d (vI 0),.d (vI 20),.d (.v (.bool true)),.d (.v (.slice none 0 0)),.row 4 1 0 ([0]).length,.d (.v (.slice none 0 0)),.d (.v (.slice none 0 0))],.agg [.d (.v (.string (ByteArray.mk #[108,97,117,110,99,104]))),.row 7 1 0 ([3]).length,.d (vI 5),.d (vI 60),.d (.v (.bool true)),.d (.v (.slice none 0 0)),.row 4 1 0 ([0]).length,.row 4 1 0 ([0]).length,.d (.v (.slice none 0 0))]]⟩,some (B7 [0]),some (B7 [0]),some (B7 [0]),some (B7 [1,2]),some (B7 [3]),some (B7 [1,3])]) (κ:=[2,3,8,4,1,5,6,7,9]) R (.cons (rc tb R) .nil) (vK (.row R (.row R (.cons R R (.row R (.row R (.row R (.row R (.row R (.row R .nil))))))))) R) ⟨_,R,(.aggL (.cons (.d _) (.cons (.d _) (.cons (.d _) (.cons (.d _) (.cons (.d _) (.cons (.d _) (.cons (.d _) (.cons (.row R R) (.cons (.row R R) (.cons (.rowL R R (.cons (.aggDL (.cons (.d _) (.cons .nilA (.cons (.d _) (.cons (.d _) (.cons (.d _) (.cons .nilA (.cons .nilA (.cons .nilA (.cons .nilA .nil)))))))))) (.cons (.aggL (.cons (.d _) (.cons (.row R R) (.cons (.d _) (.cons (.d _) (.cons (.d _) (.cons (.row R R) (.cons .nilA (.cons .nilA (.cons .nilA .nil)))))))))) (.cons (.aggL (.cons (.d _) (.cons (.row R R) (.cons (.d _) (.cons (.d _) (.cons (.d _) (.cons .nilA (.cons (.row R R) (.cons .nilA (.cons .nilA .nil)))))))))) (.cons (.aggL (.cons (.d _) (.cons (.row R R) (.cons (.d _) (.cons (.d _) (.cons (.d _) (.cons .nilA (.cons (.row R R) (.cons .nilA (.cons .nilA .nil)))))))))) (.cons (.aggL (.cons (.d _) (.cons (.row R R) (.cons (.d _) (.cons (.d _) (.cons (.d _) (.cons .nilA (.cons (.row R R) (.cons (.row R R) (.cons .nilA .nil)))))))))) .nil)))))) (.cons (.row R R) (.cons (.d _) (.cons (.d _) .nil))))))))))))))⟩)
def B1Z (F:Nat) :Option (List C7):=Option.bind (A17 F 0 1 0) fun rv=>Option.bind (A17 F 90 2 0) fun rv2=>Option.bind (A17 F 100 2 0) fun rv3=>Option.bind (A17 F 100 1 2) fun rv4=>Option.bind (A17 F 100 1 1) fun rv5=>Option.bind (A17 F 110 1 2) fun rv6=>Option.bind (A17 F 120 2 1) fun rv7=>Option.bind (A17 F 170 2 2) fun rv8=>Option.bind (A17 F 180 1 3) fun rv9=>Option.bind (A17 F 180 5 0) fun rv10=>Option.bind (A17 F 181 5 1) fun rv11=>Option.bind (A17 F 185 1 3) fun rv12=>Option.bind (A17 F 190 2 3) fun rv13=>Option.bind (A17 F 190 1 4) fun rv14=>Option.bind (A17 F 199 2 4) fun rv15=>Option.bind (A17 F 200 2 4) fun rv16=>some [rv,rv2,rv3,rv4,rv5,rv6,rv7,rv8,rv9,rv10,rv11,rv12,rv13,rv14,rv15,rv16]
theorem B63 {F:Nat}  {r:(List C7)} (h:B1Z F =some r):SCR Tryz.prog 40 (List.map T.d []) [] (.row 0 8 0 (r).length) (List.map some [(B62 r)]):=by
 rw [B1Z] at h
 refine SC.of_sw Tryz.func40 R R R ?_
 dsimp only [L8,List.map]
 refine qG (A3 R (eN (qG ?_)))
 obtain ⟨rv,hrv,h⟩:=H1 h
 refine J5 (Z5 hrv) (.of (by kernel_rfl)) R R R R ?_
 obtain ⟨rv2,hrv2,h⟩:=H1 h
 refine J5 (Z5 hrv2) (.of (by kernel_rfl)) R R R R ?_
 obtain ⟨rv3,hrv3,h⟩:=H1 h
 refine J5 (Z5 hrv3) (.of (by kernel_rfl)) R R R R ?_
 obtain ⟨rv4,hrv4,h⟩:=H1 h
 refine J5 (Z5 hrv4) (.of (by kernel_rfl)) R R R R ?_
 obtain ⟨rv5,hrv5,h⟩:=H1 h
 refine J5 (Z5 hrv5) (.of (by kernel_rfl)) R R R R ?_
 obtain ⟨rv6,hrv6,h⟩:=H1 h
 refine J5 (Z5 hrv6) (.of (by kernel_rfl)) R R R R ?_
 obtain ⟨rv7,hrv7,h⟩:=H1 h
 refine J5 (Z5 hrv7) (.of (by kernel_rfl)) R R R R ?_
 obtain ⟨rv8,hrv8,h⟩:=H1 h
 refine J5 (Z5 hrv8) (.of (by kernel_rfl)) R R R R ?_
 obtain ⟨rv9,hrv9,h⟩:=H1 h
 refine J5 (Z5 hrv9) (.of (by kernel_rfl)) R R R R ?_
 obtain ⟨rv10,hrv10,h⟩:=H1 h
 refine J5 (Z5 hrv10) (.of (by kernel_rfl)) R R R R ?_
 obtain ⟨rv11,hrv11,h⟩:=H1 h
 refine J5 (Z5 hrv11) (.of (by kernel_rfl)) R R R R ?_
 obtain ⟨rv12,hrv12,h⟩:=H1 h
 refine J5 (Z5 hrv12) (.of (by kernel_rfl)) R R R R ?_
 obtain ⟨rv13,hrv13,h⟩:=H1 h
 refine J5 (Z5 hrv13) (.of (by kernel_rfl)) R R R R ?_
 obtain ⟨rv14,hrv14,h⟩:=H1 h
 refine J5 (Z5 hrv14) (.of (by kernel_rfl)) R R R R ?_
 obtain ⟨rv15,hrv15,h⟩:=H1 h
 refine J5 (Z5 hrv15) (.of (by kernel_rfl)) R R R R ?_
 obtain ⟨rv16,hrv16,h⟩:=H1 h
 refine J5 (Z5 hrv16) (.of (by kernel_rfl)) R R R R (P7 tb R R R R R R R R R R R R R (A14 R R R (eN (C9 ?_))))
 obtain rfl:=sI h
 exact f2 [0] (.row R .nil) R (.cons (.tmp 0) .nil) R
theorem B0S {F:Nat}  {r:(List C7)} (h:B1Z F =some r):PC Tryz.prog 40 [] (.arr 8 ((r).map C7.d)):=(B63 h).toPC (.row rfl rfl)
def A7X (F:Nat) :Option Bool:=Option.bind (A9F F ) fun rv=>Option.bind (B1Z F ) fun rv2=>Option.bind (A36 F rv rv2) fun rv3=>Option.bind (A9F F ) fun rv4=>Option.bind (B1Z F ) fun rv5=>Option.bind (A7A rv5 0 5) fun q=>Option.bind (A3Z F rv4 q 120) fun rv6=>Option.bind (A9F F ) fun rv7=>Option.bind (A85 F rv7 []) fun rv8=>Option.bind (A9F F ) fun rv9=>Option.bind (B1Z F ) fun rv10=>Option.bind (A3Z F rv9 rv10 300) fun rv11=>if rv3.2.2=0 then (if rv6.2=0 then (if rv8.2=0 then (if rv11.2=9 then (if (rv3.2.1.length:Int)=16 then (Option.bind (P3 rv3.2.1 14) fun e=>if e=187 then (if rv3.1.now=200 then (if rv6.1=200 then (some (decide (rv8.1=245))) else (some false)) else (some false)) else (some false)) else (some false)) else (some false)) else (some false)) else (some false)) else (some false)
theorem B0R {F:Nat}  {r:Bool} (h:A7X F =some r):PC Tryz.prog 22 [] (.v (.bool r)):=by
 rw [A7X] at h
 refine SC.of_sw Tryz.func22 R R R ?_
 dsimp only [L8,List.map]
 refine qG (A3 R (eN (qG ?_)))
 obtain ⟨rv,hrv,h⟩:=H1 h
 refine J5 (A7Y hrv) (.of (by kernel_rfl)) R R R R ?_
 obtain ⟨rv2,hrv2,h⟩:=H1 h
 refine J5 (B0S hrv2) (.of (by kernel_rfl)) R R R R ?_
 obtain ⟨rv3,hrv3,h⟩:=H1 h
 refine J5 (A6l hrv3) (.of (by kernel_rfl)) R R R R (A0 R (Q1 (t:=H2.d rv3.1) R R R R (Q1 (t := .arr 1 ((rv3.2.1).map vI)) R R R R (Q1 (t:=vI rv3.2.2) R R R R (M5 tb R R R R R (I6 _ _ tb R (A3 R (A3 R (eN (qG ?_))))))))))
 obtain ⟨rv4,hrv4,h⟩:=H1 h
 refine J5 (A7Y hrv4) (.of (by kernel_rfl)) R R R R ?_
 obtain ⟨rv5,hrv5,h⟩:=H1 h
 refine J5 (B0S hrv5) (.of (by kernel_rfl)) R R R R ?_
 obtain ⟨q,iq,h⟩:=H1 h
 refine A6E tb R R R R R R iq R R ?_
 obtain ⟨rv6,hrv6,h⟩:=H1 h
 refine J5 (A6d hrv6) (.of (by kernel_rfl)) R R R R (A0 R (Q1 (t:=vI rv6.1) R R R R (Q1 (t:=vI rv6.2) R R R R (A3 R (A3 R (eN (qG ?_)))))))
 obtain ⟨rv7,hrv7,h⟩:=H1 h
 refine J5 (A7Y hrv7) (.of (by kernel_rfl)) R R R R ?_
 obtain ⟨rv8,hrv8,h⟩:=H1 h
 refine A19 (B1B hrv8) R (.of (by kernel_rfl)) R R ((.cons (.d _) (.cons .nilA .nil))) R R (A0 R (Q1 (t:=vI rv8.1) R R R R (Q1 (t:=vI rv8.2) R R R R (A3 R (A3 R (eN (qG ?_)))))))
 obtain ⟨rv9,hrv9,h⟩:=H1 h
 refine J5 (A7Y hrv9) (.of (by kernel_rfl)) R R R R ?_
 obtain ⟨rv10,hrv10,h⟩:=H1 h
 refine J5 (B0S hrv10) (.of (by kernel_rfl)) R R R R ?_
 obtain ⟨rv11,hrv11,h⟩:=H1 h
 refine J5 (A6d hrv11) (.of (by kernel_rfl)) R R R R (A0 R (Q1 (t:=vI rv11.1) R R R R (Q1 (t:=vI rv11.2) R R R R (A3 R (A3 R (eN (qG (A0 R ?_))))))))
 refine Z3 R R R R ?_ ?_
 ·intro c
  replace h:=J7 c h
  refine A0 R (A0 R ?_)
  refine Z3 R R R R ?_ ?_
  ·intro c2
   replace h:=J7 c2 h
   refine D6 R (A0 R (A0 R ?_))
   refine Z3 R R R R ?_ ?_
   ·intro c3
    replace h:=J7 c3 h
    refine D6 R (A0 R (A0 R ?_))
    refine Z3 R R R R ?_ ?_
    ·intro c4
     replace h:=J7 c4 h
     refine D6 R (A0 R (A0 R (I7 tb R ?_)))
     refine Z3 R R R R ?_ ?_
     ·intro c5
      replace h:=J7 c5 h
      refine D6 R (A0 R (A0 R ?_))
      obtain ⟨e,ie,h⟩:=H1 h
      refine N8 tb (F0 ie) (V1 ie) R (I4 (y:=vI e) tb (U5 (g:=vI) ie) R ?_)
      refine Z3 R R R R ?_ ?_
      ·intro c6
       replace h:=J7 c6 h
       refine D6 R (A0 R (C8 tb R (B5 (y:=vI rv3.1.now) tb R ?_)))
       refine Z3 R R R R ?_ ?_
       ·intro c7
        replace h:=J7 c7 h
        refine D6 R (A0 R (A0 R ?_))
        refine Z3 R R R R ?_ ?_
        ·intro c8
         replace h:=J7 c8 h
         refine D6 R (A0 R (A0 R (A3s R R R R (D6 R (A3 R (eN (C9 ?_)))))))
         obtain rfl:=sI h
         exact f1 0 R
        intro c8
        replace h:=P1 c8 h
        refine D6 R (A0 R (L9 2 R (D0 R (A3 R (eN (C9 ?_))))))
        obtain rfl:=sI h
        exact f1 0 R
       intro c7
       replace h:=P1 c7 h
       refine D6 R (A0 R (L9 2 R (D0 R (A0 R (L9 2 R (D0 R (A3 R (eN (C9 ?_)))))))))
       obtain rfl:=sI h
       exact f1 0 R
      intro c6
      replace h:=P1 c6 h
      refine D6 R (A0 R (L9 3 R (D0 R (A0 R (L9 2 R (D0 R (A0 R (L9 2 R (D0 R (A3 R (eN (C9 ?_))))))))))))
      obtain rfl:=sI h
      exact f1 0 R
     intro c5
     replace h:=P1 c5 h
     refine D6 R (A0 R (L9 4 R (D0 R (A0 R (L9 3 R (D0 R (A0 R (L9 2 R (D0 R (A0 R (L9 2 R (D0 R (A3 R (eN (C9 ?_)))))))))))))))
     obtain rfl:=sI h
     exact f1 0 R
    intro c4
    replace h:=P1 c4 h
    refine D6 R (A0 R (L9 3 R (D0 R (A0 R (L9 4 R (D0 R (A0 R (L9 3 R (D0 R (A0 R (L9 2 R (D0 R (A0 R (L9 2 R (D0 R (A3 R (eN (C9 ?_))))))))))))))))))
    obtain rfl:=sI h
    exact f1 0 R
   intro c3
   replace h:=P1 c3 h
   refine D6 R (A0 R (L9 2 R (D0 R (A0 R (L9 3 R (D0 R (A0 R (L9 4 R (D0 R (A0 R (L9 3 R (D0 R (A0 R (L9 2 R (D0 R (A0 R (L9 2 R (D0 R (A3 R (eN (C9 ?_)))))))))))))))))))))
   obtain rfl:=sI h
   exact f1 0 R
  intro c2
  replace h:=P1 c2 h
  refine D6 R (A0 R (L9 2 R (D0 R (A0 R (L9 2 R (D0 R (A0 R (L9 3 R (D0 R (A0 R (L9 4 R (D0 R (A0 R (L9 3 R (D0 R (A0 R (L9 2 R (D0 R (A0 R (L9 2 R (D0 R (A3 R (eN (C9 ?_))))))))))))))))))))))))
  obtain rfl:=sI h
  exact f1 0 R
 intro c
 replace h:=P1 c h
 refine A0 R (L9 2 R (D0 R (A0 R (L9 2 R (D0 R (A0 R (L9 2 R (D0 R (A0 R (L9 3 R (D0 R (A0 R (L9 4 R (D0 R (A0 R (L9 3 R (D0 R (A0 R (L9 2 R (D0 R (A0 R (L9 2 R (D0 R (A3 R (eN (C9 ?_))))))))))))))))))))))))))
 obtain rfl:=sI h
 exact f1 0 R
def A1e (F:Nat) :Option Bool:=some false
def B1E (F:Nat) (B10:Int→Option Bool) (rv:(H2 × (List Int) × Int)) (x:Int) (e:E0) (x2:Int):Option Bool:=Option.bind (P3 e.need x2) fun e7=>if e7 < 0 then (A1e F) else (if (rv.1.ended.length:Int)≤e7 then (A1e F) else (Option.bind (P3 rv.1.ended e7) fun e8=>if e8 < 0 then (A1e F) else (Option.bind (P3 rv.1.begun x) fun e9=>if e9 < e8 then (A1e F) else (B10 (W (x2+1))))))
def A1E (F:Nat) (rv:(H2 × (List Int) × Int)) (x:Int) (e:E0) (K:Int→Option Bool):Nat→Int→Option Bool
 | 0,_=>none
 | n+1,x2=>if x2 < (e.need.length:Int) then (Option.bind (P3 rv.1.begun x) fun e6=>if 0≤e6 then (B1E F (A1E F rv x e K n) rv x e x2) else (K x2)) else (K x2)
def A6u (F:Nat) (B8:Int→Option Bool) (rv:(H2 × (List Int) × Int)) (x:Int) (e:E0):Option Bool:=A1E F rv x e (fun (x2:Int)=>B8 (W (x+1))) F 0
def A82 (F:Nat) (B8:Int→Option Bool) (rv:(H2 × (List Int) × Int)) (x:Int) (e:E0):Option Bool:=Option.bind (P3 rv.1.ended x) fun e4=>if 0≤e4 then (Option.bind (P3 rv.1.begun x) fun e5=>if (W (e4 - e5)) < e.least then (some false) else (if e.most < (W (e4 - e5)) then (some false) else (A6u F B8 rv x e))) else (A6u F B8 rv x e)
def A0c (F:Nat) (t:D4) (rv:(H2 × (List Int) × Int)) (K:Int→Option Bool):Nat→Int→Option Bool
 | 0,_=>none
 | n+1,x=>if x < (t.steps.length:Int) then (Option.bind (P3 t.steps x) fun e=>Option.bind (P3 rv.1.begun x) fun e2=>if rv.1.now < e2 then (A1e F) else (Option.bind (P3 rv.1.ended x) fun e3=>if rv.1.now < e3 then (A1e F) else (if e2 < 0 then (if 0≤e3 then (A1e F) else (A82 F (A0c F t rv K n) rv x e)) else (A82 F (A0c F t rv K n) rv x e)))) else (K x)
def B1J (F:Nat) (t:D4) (rv:(H2 × (List Int) × Int)):Option Bool:=A0c F t rv (fun (x:Int)=>Option.bind (P3 rv.1.ended (W ((rv.1.ended.length:Int) - 1))) fun e10=>if e10 < 0 then (Option.bind (A7X 100 ) fun rv3=>some rv3) else (if t.Q8≤e10 then (if e10≤t.O8 then (if e10=rv.1.now then (Option.bind (A7X 100 ) fun rv4=>some rv4) else (some false)) else (some false)) else (some false))) F 0
def A2G (F:Nat) (rv:(H2 × (List Int) × Int)):Option Bool:=if rv.2.2=0 then (some false) else (Option.bind (A7X 100 ) fun rv2=>some rv2)
def B6Y (F:Nat) (t:D4) (o:(List C7)):Option Bool:=Option.bind (A36 F t o) fun rv=>if rv.2.2=0 then (if (rv.1.begun.length:Int)=(t.steps.length:Int) then (if (rv.1.ended.length:Int)=(t.steps.length:Int) then (if (t.steps.length:Int)=0 then (A2G F rv) else (B1J F t rv)) else (A2G F rv)) else (A2G F rv)) else (A2G F rv)
theorem C0W {F:Nat} {t:D4} {o:(List C7)} {r:Bool} (h:B6Y F t o=some r):PC Tryz.prog 8 [D4.d t,.arr 8 ((o).map C7.d)] (.v (.bool r)):=by
 rw [B6Y] at h
 refine SC.of_sw Tryz.func8 R R R ?_
 dsimp only [L8,List.map]
 refine qG (M9 R (A3 R (eN (qG (B5 (y:=D4.d t) tb R (A0 R ?_))))))
 obtain ⟨rv,hrv,h⟩:=H1 h
 refine J5 (A6l hrv) (.of (by kernel_rfl)) R R R R (A0 R (Q1 (t:=H2.d rv.1) R R R R (Q1 (t := .arr 1 ((rv.2.1).map vI)) R R R R (Q1 (t:=vI rv.2.2) R R R R (M5 tb R R R R R (I6 _ _ tb R (A3 R (A3 R (eN (B8 ?_))))))))))
 refine W5 (fun zz:Unit=>B1J F t rv=some r) (fun zz:Unit=>⟨[(2,.ref 0 13 0 0),(4,.d (.v (.bool false))),(5,.ref 1 13 0 0)],[some ⟨13,[.d (D4.d t)]⟩,some ⟨13,[.d (H2.d rv.1)]⟩]⟩) ?_ ?_
 ·clear h
  rintro ⟨⟩ h
  rw [B1J] at h
  refine B8 (qG (A3 R (eN (E3 ?_))))
  obtain ⟨K8,hK8,h⟩:∃ K,K=_∧A0c F t rv K F 0=some r:=⟨_,rfl,h⟩
  refine M2 (fun m st=>∃ (x:Int),A0c F t rv K8 m x=some r∧st=⟨[(2,.ref 0 13 0 0),(4,.d (.v (.bool false))),(5,.ref 1 13 0 0),(8,.d (vI x))],[some ⟨13,[.d (D4.d t)]⟩,some ⟨13,[.d (H2.d rv.1)]⟩]⟩) (.prn [2,4,5,8] R) ⟨0,h,R⟩ ?_
  clear h
  rintro m8 st ⟨x,h,rfl⟩
  cases m8 with
  | zero=>cases (show (none:Option Bool)=some r from h)
  | succ m8 =>
  rw [A0c] at h
  refine B8 (qG (A0 R (C8 tb R (B5 (y := .arr 9 ((t.steps).map E0.d)) tb R (I7 tb R ?_)))))
  refine Q4 R R R R ?_ ?_
  ·intro c6
   replace h:=J7 c6 h
   refine eN (C0 R (D7 (A6 (B8 (E3 (qG (C8 tb R (B5 (y := .arr 9 ((t.steps).map E0.d)) tb R (A0 R ?_)))))))))
   obtain ⟨e,ie,h⟩:=H1 h
   refine N8 tb (F0 ie) (V1 ie) R (I4 (y:=E0.d e) tb (U5 (g:=E0.d) ie) R (M5 tb R R R R R (I6 _ _ tb R (eN (B8 ?_)))))
   refine W5 (fun zz:Unit=>A82 F (A0c F t rv K8 m8) rv x e=some r) (fun zz:Unit=>⟨[(2,.ref 0 13 0 0),(4,.d (.v (.bool false))),(5,.ref 1 13 0 0),(8,.d (vI x)),(9,.ref 2 9 0 0)],[some ⟨13,[.d (D4.d t)]⟩,some ⟨13,[.d (H2.d rv.1)]⟩,some ⟨9,[.d (E0.d e)]⟩]⟩) ?_ ?_
   ·clear h
    rintro ⟨⟩ h
    rw [A82] at h
    refine B8 ?_
    refine W5 (fun zz:Unit=>A6u F (A0c F t rv K8 m8) rv x e=some r) (fun zz:Unit=>⟨[(2,.ref 0 13 0 0),(4,.d (.v (.bool false))),(5,.ref 1 13 0 0),(8,.d (vI x)),(9,.ref 2 9 0 0)],[some ⟨13,[.d (D4.d t)]⟩,some ⟨13,[.d (H2.d rv.1)]⟩,some ⟨9,[.d (E0.d e)]⟩]⟩) ?_ ?_
    ·clear h
     rintro ⟨⟩ h
     rw [A6u] at h
     refine qG (A3 R (eN (E3 ?_)))
     obtain ⟨K10,hK10,h⟩:∃ K,K=_∧A1E F rv x e K F 0=some r:=⟨_,rfl,h⟩
     refine M2 (fun m st=>∃ (x2:Int),A1E F rv x e K10 m x2=some r∧st=⟨[(2,.ref 0 13 0 0),(4,.d (.v (.bool false))),(5,.ref 1 13 0 0),(8,.d (vI x)),(9,.ref 2 9 0 0),(10,.d (vI x2))],[some ⟨13,[.d (D4.d t)]⟩,some ⟨13,[.d (H2.d rv.1)]⟩,some ⟨9,[.d (E0.d e)]⟩]⟩) (.prn [2,4,5,8,9,10] R) ⟨0,h,R⟩ ?_
     clear h
     rintro m10 st ⟨x2,h,rfl⟩
     cases m10 with
     | zero=>cases (show (none:Option Bool)=some r from h)
     | succ m10 =>
     rw [A1E] at h
     refine B8 ?_
     refine W5 (fun zz:Unit=>B1E F (A1E F rv x e K10 m10) rv x e x2=some r) (fun zz:Unit=>⟨[(2,.ref 0 13 0 0),(4,.d (.v (.bool false))),(5,.ref 1 13 0 0),(8,.d (vI x)),(9,.ref 2 9 0 0),(10,.d (vI x2))],[some ⟨13,[.d (D4.d t)]⟩,some ⟨13,[.d (H2.d rv.1)]⟩,some ⟨9,[.d (E0.d e)]⟩]⟩) ?_ ?_
     ·clear h
      rintro ⟨⟩ h
      rw [B1E] at h
      refine B8 (E3 (qG (C8 tb R (B5 (y := .arr 1 ((e.need).map vI)) tb R (A0 R ?_)))))
      obtain ⟨e7,ie7,h⟩:=H1 h
      refine N8 tb (F0 ie7) (V1 ie7) R (I4 (y:=vI e7) tb (U5 (g:=vI) ie7) R (A3 R (eN (B8 ?_))))
      refine W5 (fun zz:Unit=>A1e F=some r) (fun zz:Unit=>⟨[(2,.ref 0 13 0 0),(4,.d (.v (.bool false))),(5,.ref 1 13 0 0),(8,.d (vI x)),(9,.ref 2 9 0 0),(10,.d (vI x2)),(184,.d (.v (.bool true)))],[some ⟨13,[.d (D4.d t)]⟩,some ⟨13,[.d (H2.d rv.1)]⟩,some ⟨9,[.d (E0.d e)]⟩]⟩) ?_ ?_
      ·clear h
       rintro ⟨⟩ h
       rw [A1e] at h
       refine C0 R (qG (A3 R (eN (C9 (C4 (B2 (B2 (C4 (C4 (B2 (B2 (C4 (B2 ?_)))))))))))))
       obtain rfl:=sI h
       exact f1 4 R
      refine T1 (by kernel_rfl) (A0 R ?_)
      refine Q4 R R R R ?_ ?_
      ·intro c16
       replace h:=J7 c16 h
       refine A0 R (L9 5 R (D6 R (A0 R (L9 6 R (D6 R (A0 R (L9 11 R (D6 R (I0 (by kernel_rfl) (A6 ?_))))))))))
       exact .inl ⟨(),h,.prn [2,4,5,8,9,10,184] R⟩
      intro c16
      replace h:=P1 (Int.not_lt.2 c16) h
      refine A0 R (A0 R (C8 tb R (B5 (y := .arr 1 ((rv.1.ended).map vI)) tb R (I7 tb R ?_))))
      refine A7I R R R R ?_ ?_
      ·intro c17
       replace h:=J7 c17 h
       refine D0 R (A0 R (L9 6 R (D6 R (A0 R (L9 11 R (D6 R (I0 (by kernel_rfl) (A6 ?_))))))))
       exact .inl ⟨(),h,.prn [2,4,5,8,9,10,184] R⟩
      intro c17
      replace h:=P1 (Int.not_le.2 c17) h
      refine D0 R (A0 R (C8 tb R (B5 (y := .arr 1 ((rv.1.ended).map vI)) tb R (A0 R ?_))))
      obtain ⟨e8,ie8,h⟩:=H1 h
      refine N8 tb (F0 ie8) (V1 ie8) R (I4 (y:=vI e8) tb (U5 (g:=vI) ie8) R ?_)
      refine Q4 R R R R ?_ ?_
      ·intro c18
       replace h:=J7 c18 h
       refine D0 R (A0 R (L9 11 R (D6 R (I0 (by kernel_rfl) (A6 ?_)))))
       exact .inl ⟨(),h,.prn [2,4,5,8,9,10,184] R⟩
      intro c18
      replace h:=P1 (Int.not_lt.2 c18) h
      refine D0 R (A0 R (C8 tb R (B5 (y := .arr 1 ((rv.1.ended).map vI)) tb R (A0 R (N8 tb (F0 ie8) (V1 ie8) R (I4 (y:=vI e8) tb (U5 (g:=vI) ie8) R (C8 tb R (B5 (y := .arr 1 ((rv.1.begun).map vI)) tb R (A0 R ?_)))))))))
      obtain ⟨e9,ie9,h⟩:=H1 h
      refine N8 tb (F0 ie9) (V1 ie9) R (I4 (y:=vI e9) tb (U5 (g:=vI) ie9) R ?_)
      refine A4l R R R R ?_ ?_
      ·intro c19
       replace h:=J7 c19 h
       refine D0 R (I0 (by kernel_rfl) (A6 ?_))
       exact .inl ⟨(),h,.prn [2,4,5,8,9,10,184] R⟩
      intro c19
      replace h:=P1 (Int.not_lt.2 c19) h
      refine D0 R (I0 (by kernel_rfl) (A6 (.inr (C1 R (D7 (D3 (A6 (J1 (A0 R (O1 R (A3 R (eN ?_))))))))))))
      exact ⟨m10,_,Nat.lt_succ_self _,.prn [2,4,5,8,9,10] R,(W (x2+1)),h,R⟩
     refine qG (A0 R (C8 tb R (B5 (y := .arr 1 ((e.need).map vI)) tb R (I7 tb R ?_))))
     refine Q4 R R R R ?_ ?_
     ·intro c14
      replace h:=J7 c14 h
      refine A0 R (C8 tb R (B5 (y := .arr 1 ((rv.1.begun).map vI)) tb R (A0 R ?_)))
      obtain ⟨e6,ie6,h⟩:=H1 h
      refine N8 tb (F0 ie6) (V1 ie6) R (I4 (y:=vI e6) tb (U5 (g:=vI) ie6) R ?_)
      refine A7I R R R R ?_ ?_
      ·intro c15
       replace h:=J7 c15 h
       refine D6 R (eN (C0 R (D7 (A6 ?_))))
       exact .inl ⟨(),h,.prn [2,4,5,8,9,10] R⟩
      intro c15
      replace h:=P1 (Int.not_le.2 c15) h
      refine D6 R (eN (C1 R (N5 (E4 (E4 ?_)))))
      subst hK10
      refine I5 (D3 (A6 (J1 (A0 R (O1 R (A3 R (eN ?_)))))))
      exact ⟨m8,⟨[(2,.ref 0 13 0 0),(4,.d (.v (.bool false))),(5,.ref 1 13 0 0),(8,.d (vI (W (x+1))))],[some ⟨13,[.d (D4.d t)]⟩,some ⟨13,[.d (H2.d rv.1)]⟩]⟩,Nat.lt_succ_self _,.vw (κ:=[0,1]) (vK (.cons R R (.cons R R .nil)) R),(W (x+1)),h,R⟩
     intro c14
     replace h:=P1 (Int.not_lt.2 c14) h
     refine A0 R (L9 6 R (D0 R (eN (C1 R (N5 (E4 (E4 ?_)))))))
     subst hK10
     refine I5 (D3 (A6 (J1 (A0 R (O1 R (A3 R (eN ?_)))))))
     exact ⟨m8,⟨[(2,.ref 0 13 0 0),(4,.d (.v (.bool false))),(5,.ref 1 13 0 0),(8,.d (vI (W (x+1))))],[some ⟨13,[.d (D4.d t)]⟩,some ⟨13,[.d (H2.d rv.1)]⟩]⟩,Nat.lt_succ_self _,.vw (κ:=[0,1]) (vK (.cons R R (.cons R R .nil)) R),(W (x+1)),h,R⟩
    refine B8 (T1 (by kernel_rfl) (C8 tb R (B5 (y := .arr 1 ((rv.1.ended).map vI)) tb R (A0 R ?_))))
    obtain ⟨e4,ie4,h⟩:=H1 h
    refine N8 tb (F0 ie4) (V1 ie4) R (I4 (y:=vI e4) tb (U5 (g:=vI) ie4) R ?_)
    refine A7I R R R R ?_ ?_
    ·intro c11
     replace h:=J7 c11 h
     refine A0 R (C8 tb R (B5 (y := .arr 1 ((rv.1.ended).map vI)) tb R (A0 R (N8 tb (F0 ie4) (V1 ie4) R (I4 (y:=vI e4) tb (U5 (g:=vI) ie4) R (C8 tb R (B5 (y := .arr 1 ((rv.1.begun).map vI)) tb R (A0 R ?_))))))))
     obtain ⟨e5,ie5,h⟩:=H1 h
     refine N8 tb (F0 ie5) (V1 ie5) R (I4 (y:=vI e5) tb (U5 (g:=vI) ie5) R (A1n R R R R (C8 tb R (B5 (y:=vI e.least) tb R ?_))))
     refine Q4 R R R R ?_ ?_
     ·intro c12
      replace h:=J7 c12 h
      refine A0 R (L9 14 R (D6 R (D6 R (I0 (by kernel_rfl) (A6 (C0 R (qG (A3 R (eN (C9 (B2 (C4 (B2 (B2 (C4 (B2 ?_))))))))))))))))
      obtain rfl:=sI h
      exact f1 4 R
     intro c12
     replace h:=P1 (Int.not_lt.2 c12) h
     refine A0 R (C8 tb R (B5 (y := .arr 1 ((rv.1.ended).map vI)) tb R (A0 R (N8 tb (F0 ie4) (V1 ie4) R (I4 (y:=vI e4) tb (U5 (g:=vI) ie4) R (C8 tb R (B5 (y := .arr 1 ((rv.1.begun).map vI)) tb R (A0 R (N8 tb (F0 ie5) (V1 ie5) R (I4 (y:=vI e5) tb (U5 (g:=vI) ie5) R (A1n R R R R (C8 tb R (B5 (y:=vI e.most) tb R ?_)))))))))))))
     refine A4l R R R R ?_ ?_
     ·intro c13
      replace h:=J7 c13 h
      refine D0 R (D6 R (I0 (by kernel_rfl) (A6 (C0 R (qG (A3 R (eN (C9 (B2 (C4 (B2 (B2 (C4 (B2 ?_))))))))))))))
      obtain rfl:=sI h
      exact f1 4 R
     intro c13
     replace h:=P1 (Int.not_lt.2 c13) h
     refine D0 R (D6 R (I0 (by kernel_rfl) (A6 (C1 R (D7 (A6 ?_))))))
     exact .inl ⟨(),h,.prn [2,4,5,8,9] R⟩
    intro c11
    replace h:=P1 (Int.not_le.2 c11) h
    refine A0 R (L9 30 R (D0 R (I0 (by kernel_rfl) (A6 (C1 R (D7 (A6 ?_)))))))
    exact .inl ⟨(),h,.prn [2,4,5,8,9] R⟩
   refine B8 ?_
   refine W5 (fun zz:Unit=>A1e F=some r) (fun zz:Unit=>⟨[(2,.ref 0 13 0 0),(4,.d (.v (.bool false))),(5,.ref 1 13 0 0),(8,.d (vI x)),(9,.ref 2 9 0 0),(96,.d (.v (.bool true)))],[some ⟨13,[.d (D4.d t)]⟩,some ⟨13,[.d (H2.d rv.1)]⟩,some ⟨9,[.d (E0.d e)]⟩]⟩) ?_ ?_
   ·clear h
    rintro ⟨⟩ h
    rw [A1e] at h
    refine C0 R (qG (A3 R (eN (C9 (B2 (C4 (B2 (B2 (C4 (B2 ?_))))))))))
    obtain rfl:=sI h
    exact f1 4 R
   refine T1 (by kernel_rfl) (C8 tb R (B5 (y := .arr 1 ((rv.1.begun).map vI)) tb R (A0 R ?_)))
   obtain ⟨e2,ie2,h⟩:=H1 h
   refine N8 tb (F0 ie2) (V1 ie2) R (I4 (y:=vI e2) tb (U5 (g:=vI) ie2) R (C8 tb R (B5 (y:=vI rv.1.now) tb R ?_)))
   refine A4l R R R R ?_ ?_
   ·intro c7
    replace h:=J7 c7 h
    refine A0 R (L9 8 R (D6 R (A0 R (L9 14 R (D6 R (I0 (by kernel_rfl) (A6 ?_)))))))
    exact .inl ⟨(),h,.prn [2,4,5,8,9,96] R⟩
   intro c7
   replace h:=P1 (Int.not_lt.2 c7) h
   refine A0 R (C8 tb R (B5 (y := .arr 1 ((rv.1.ended).map vI)) tb R (A0 R ?_)))
   obtain ⟨e3,ie3,h⟩:=H1 h
   refine N8 tb (F0 ie3) (V1 ie3) R (I4 (y:=vI e3) tb (U5 (g:=vI) ie3) R (C8 tb R (B5 (y:=vI rv.1.now) tb R ?_)))
   refine A4l R R R R ?_ ?_
   ·intro c8
    replace h:=J7 c8 h
    refine D0 R (A0 R (L9 14 R (D6 R (I0 (by kernel_rfl) (A6 ?_)))))
    exact .inl ⟨(),h,.prn [2,4,5,8,9,96] R⟩
   intro c8
   replace h:=P1 (Int.not_lt.2 c8) h
   refine D0 R (A0 R (C8 tb R (B5 (y := .arr 1 ((rv.1.begun).map vI)) tb R (A0 R (N8 tb (F0 ie2) (V1 ie2) R (I4 (y:=vI e2) tb (U5 (g:=vI) ie2) R ?_))))))
   refine Q4 R R R R ?_ ?_
   ·intro c9
    replace h:=J7 c9 h
    refine A0 R (C8 tb R (B5 (y := .arr 1 ((rv.1.ended).map vI)) tb R (A0 R (N8 tb (F0 ie3) (V1 ie3) R (I4 (y:=vI e3) tb (U5 (g:=vI) ie3) R ?_)))))
    refine A7I R R R R ?_ ?_
    ·intro c10
     replace h:=J7 c10 h
     refine D6 R (D0 R (I0 (by kernel_rfl) (A6 ?_)))
     exact .inl ⟨(),h,.prn [2,4,5,8,9,96] R⟩
    intro c10
    replace h:=P1 (Int.not_le.2 c10) h
    refine D6 R (D0 R (I0 (by kernel_rfl) (A6 (.inr (C1 R (D7 (A6 ?_)))))))
    exact .inl ⟨(),h,.prn [2,4,5,8,9] R⟩
   intro c9
   replace h:=P1 (Int.not_lt.2 c9) h
   refine A0 R (L9 6 R (D0 R (D0 R (I0 (by kernel_rfl) (A6 (.inr (C1 R (D7 (A6 ?_)))))))))
   exact .inl ⟨(),h,.prn [2,4,5,8,9] R⟩
  intro c6
  replace h:=P1 (Int.not_lt.2 c6) h
  refine eN (C1 R (N5 (E4 (E4 ?_))))
  subst hK8
  refine I5 (A6 (qG (C8 tb R (B5 (y := .arr 1 ((rv.1.ended).map vI)) tb R (C8 tb R (B5 (y := .arr 1 ((rv.1.ended).map vI)) tb R (I7 tb R (A1n R R R R ?_))))))))
  obtain ⟨e10,ie10,h⟩:=H1 h
  refine N8 tb (F0 ie10) (V1 ie10) R (I4 (y:=vI e10) tb (U5 (g:=vI) ie10) R (A3 R (eN (qG (A0 R ?_)))))
  refine Q4 R R R R ?_ ?_
  ·intro c20
   replace h:=J7 c20 h
   refine A0 R (L9 18 R (D6 R (A0 R ?_)))
   obtain ⟨rv3,hrv3,h⟩:=H1 h
   refine J5 (B0R hrv3) (.of (by kernel_rfl)) R R R R (D6 R (A3 R (eN (C9 ?_))))
   obtain rfl:=sI h
   exact f1 4 R
  intro c20
  replace h:=P1 (Int.not_lt.2 c20) h
  refine A0 R (A0 R (C8 tb R (C8 tb R (B5 (y:=vI t.Q8) tb R ?_))))
  refine A7I R R R R ?_ ?_
  ·intro c21
   replace h:=J7 c21 h
   refine A0 R (A0 R (C8 tb R (C8 tb R (B5 (y:=vI t.O8) tb R ?_))))
   refine B1t R R R R ?_ ?_
   ·intro c22
    replace h:=J7 c22 h
    refine D6 R (A0 R (A0 R (C8 tb R (B5 (y:=vI rv.1.now) tb R ?_))))
    refine Z3 R R R R ?_ ?_
    ·intro c23
     replace h:=J7 c23 h
     refine D6 R (D0 R (A0 R ?_))
     obtain ⟨rv4,hrv4,h⟩:=H1 h
     refine J5 (B0R hrv4) (.of (by kernel_rfl)) R R R R (D6 R (A3 R (eN (C9 ?_))))
     obtain rfl:=sI h
     exact f1 4 R
    intro c23
    replace h:=P1 c23 h
    refine D6 R (D0 R (A0 R (B3b R (D0 R (A3 R (eN (C9 ?_)))))))
    obtain rfl:=sI h
    exact f1 4 R
   intro c22
   replace h:=P1 (Int.not_le.2 c22) h
   refine D6 R (A0 R (L9 4 R (D0 R (D0 R (A0 R (B3b R (D0 R (A3 R (eN (C9 ?_))))))))))
   obtain rfl:=sI h
   exact f1 4 R
  intro c21
  replace h:=P1 (Int.not_le.2 c21) h
  refine A0 R (L9 5 R (D0 R (A0 R (L9 4 R (D0 R (D0 R (A0 R (B3b R (D0 R (A3 R (eN (C9 ?_))))))))))))
  obtain rfl:=sI h
  exact f1 4 R
 refine B8 ?_
 refine W5 (fun zz:Unit=>A2G F rv=some r) (fun zz:Unit=>⟨[(2,.ref 0 13 0 0),(4,.d (.v (.bool false))),(5,.ref 1 13 0 0),(7,.d (vI rv.2.2)),(45,.d (.v (.bool true)))],[some ⟨13,[.d (D4.d t)]⟩,some ⟨13,[.d (H2.d rv.1)]⟩]⟩) ?_ ?_
 ·clear h
  rintro ⟨⟩ h
  rw [A2G] at h
  refine C0 R (qG (A0 R ?_))
  refine V5 R R R R ?_ ?_
  ·intro c5
   replace h:=P1 c5 h
   refine A0 R ?_
   obtain ⟨rv2,hrv2,h⟩:=H1 h
   refine J5 (B0R hrv2) (.of (by kernel_rfl)) R R R R (D6 R (A3 R (eN (C9 (B2 ?_)))))
   obtain rfl:=sI h
   exact f1 4 R
  intro c5
  replace h:=J7 c5 h
  refine A0 R (B3b R (D0 R (A3 R (eN (C9 (B2 ?_))))))
  obtain rfl:=sI h
  exact f1 4 R
 refine J1 (A0 R ?_)
 refine V5 R R R R ?_ ?_
 ·intro c
  replace h:=P1 c h
  refine A0 R (L9 7 R (D6 R (A0 R (L9 7 R (D6 R (A0 R (L9 4 R (D6 R (eN ?_)))))))))
  exact .inl ⟨(),h,.prn [2,4,5,7,45] R⟩
 intro c
 replace h:=J7 c h
 refine A0 R (C8 tb R (B5 (y := .arr 1 ((rv.1.begun).map vI)) tb R (I7 tb R (C8 tb R (B5 (y := .arr 9 ((t.steps).map E0.d)) tb R (I7 tb R ?_))))))
 refine V5 R R R R ?_ ?_
 ·intro c2
  replace h:=P1 c2 h
  refine D0 R (A0 R (L9 7 R (D6 R (A0 R (L9 4 R (D6 R (eN ?_)))))))
  exact .inl ⟨(),h,.prn [2,4,5,7,45] R⟩
 intro c2
 replace h:=J7 c2 h
 refine D0 R (A0 R (C8 tb R (B5 (y := .arr 1 ((rv.1.ended).map vI)) tb R (I7 tb R (C8 tb R (B5 (y := .arr 9 ((t.steps).map E0.d)) tb R (I7 tb R ?_)))))))
 refine V5 R R R R ?_ ?_
 ·intro c3
  replace h:=P1 c3 h
  refine D0 R (A0 R (L9 4 R (D6 R (eN ?_))))
  exact .inl ⟨(),h,.prn [2,4,5,7,45] R⟩
 intro c3
 replace h:=J7 c3 h
 refine D0 R (A0 R (C8 tb R (B5 (y := .arr 9 ((t.steps).map E0.d)) tb R (I7 tb R ?_))))
 refine Z3 R R R R ?_ ?_
 ·intro c4
  replace h:=J7 c4 h
  refine D0 R (eN ?_)
  exact .inl ⟨(),h,.prn [2,4,5,7,45] R⟩
 intro c4
 replace h:=P1 c4 h
 refine D0 R (eN (.inr (C1 R (D7 (A6 ?_)))))
 exact .inl ⟨(),h,.prn [2,4,5] R⟩
end Go.Proofs.YtlaogbbcipebgaaGreat
