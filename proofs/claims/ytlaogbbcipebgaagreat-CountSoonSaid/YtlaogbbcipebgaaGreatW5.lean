/- What functions of the program compute: plain functions, and the proofs. -/
import Derived.Test.YtlaogbbcipebgaaGreatW4
set_option linter.unusedVariables false
set_option linter.unusedSimpArgs false
open Go Go.Proofs.YtlaogbbcipebgaaGreat.Sh Go.Proofs
namespace Go.Proofs.YtlaogbbcipebgaaGreat
set_option maxRecDepth 100000
set_option maxHeartbeats 40000000
def C7f {α:Type} (b:Nat) (l m:List α):Option (List α):=if(l.length+m.length)*b≤140737488355328∧l.length+m.length≤17592186044416 then some (l++m)else none
theorem C71 {α:Type} {b:Nat} {l m q:List α} (h:C7f b l m=some q):(l.length+m.length)*b≤140737488355328∧l.length+m.length≤17592186044416∧q=l++m:=by
 unfold C7f at h;split at h
 ·injection h with h;rename_i k;exact⟨k.1,k.2,h.symm⟩
 ·cases h
section
variable {P:Program} {N:Nat} {ops:Array Oper} {l:List Oper} {ts:List (Nat × T)} {L:List (Option Rw)} {tr:List Stp} {d:Nat} {ty:TypeId} {pos:String} {af:Array Edge} {gd:Option (Nat × Bool)} {K:List Oper→List Stp→St→Prop}
theorem C7E {α:Type} {t e:TypeId} {i ei:TI} {x y:Operand} {s n n' len len' b:Nat} {w v q:List α} {g:α→D} (L':List (Option Rw)) (tb:Tab P) (ht:tb.f t=some i) (hsl:i.sl=some e) (he:tb.f e=some ei) (hz:ei.size=s) (hx:O9 ts x = .row n s 0 len) (hy:O9 ts y = .row n' s 0 len') (hr:L[n]?=some (some ⟨s,w.map fun a => .d (g a)⟩)) (hlen:w.length=len)
  (hr2:L[n']?=some (some ⟨s,v.map fun a => .d (g a)⟩)) (hlen2:v.length=len') (h1:A3f (v.map fun a => .d (g a))=true) (hq:C7f b w v=some q) (hb:Nat.ble ei.bytes b=true) (hL:L.set n none=L') {nn:Nat} {nr:List Nat} (hnn:A4f.drop L.length=nn::nr)
  (hw:I2 ops ts ⟨some d,.call { callee := .builtin .append,args:=#[x,y],argTypes:=#[t,t] },ty,pos,af,gd⟩=some true) (hd:Nat.blt d N=true)
  (k:L3 P N ops l ⟨(d,.row nn s 0 q.length)::ts,L'++[some ⟨s,q.map fun a => .d (g a)⟩]⟩ (tr++[.run [n,n',nn] [n,nn]]) K):L3 P N ops (⟨some d,.call { callee := .builtin .append,args:=#[x,y],argTypes:=#[t,t] },ty,pos,af,gd⟩::l) ⟨ts,L⟩ tr K:=by
 obtain⟨h2,h3,rfl⟩:=C71 hq
 have e0:=A21 hnn
 subst hlen hlen2 hL hz e0
 have hb':=Nat.le_of_ble_eq_true hb
 have hnl:n<L.length:=(List.getElem?_eq_some_iff.1 hr).1
 refine A2i (.run hw (B3T (fresh:=L.length) (n:=n) (s:=ei.size) (len:=w.length) (r:=⟨ei.size,w.map fun a => .d (g a)⟩) (u := .row n' ei.size 0 v.length) (rn:=[(n,⟨ei.size,w.map fun a => .d (g a)⟩),(n',⟨ei.size,v.map fun a => .d (g a)⟩)]) (l:=v.map fun a => .d (g a)) rfl (tb.ok _ _ ht) hsl (tb.ok _ _ he) rfl (.inr (.inr ⟨n',0,v.length,⟨ei.size,v.map fun a => .d (g a)⟩,rfl,by simp,rfl,by simp,by rw[List.drop_zero,List.take_of_length_le sM]⟩)) sM rfl sM h1 (by simp;omega) (Nat.le_trans (Nat.mul_le_mul_left _ hb') (by simpa using h2)) oM) ?_ ?_ ?_ hd) ?_
 ·intro p hp
  simp only[List.mem_cons,List.not_mem_nil,or_false]at hp
  rcases hp with rfl | rfl
  ·exact⟨hx,by simp[Op.operands,Call.operands]⟩
  ·exact⟨hy,by simp[Op.operands,Call.operands]⟩
 ·intro p hp;simp only[List.mem_cons,List.not_mem_nil,or_false]at hp;rcases hp with rfl | rfl<;>assumption
 ·intro p hp;simp only[List.mem_cons,List.not_mem_nil,or_false]at hp;subst hp;exact⟨(n,⟨ei.size,w.map fun a => .d (g a)⟩),by simp,rfl⟩
 ·rw[List.length_append,List.map_append]at k
  simpa[St.eff,A5m,A4m]using k
end
def A17 (F:Nat) (atv:Int) (kind:Int) (what:Int):Option C7:=some (C7.mk atv kind what 0 0 0 0 0)
theorem Z5 {F:Nat} {atv:Int} {kind:Int} {what:Int} {r:C7} (h:A17 F atv kind what=some r):PC Tryz.prog 27 [.v (.int .i64 atv),.v (.int .i64 kind),.v (.int .i64 what)] (C7.d r):=by
 rw[A17]at h
 refine SC.of_sw Tryz.func27 R R R ?_
 dsimp only[L8,List.map]
 refine qG (M5 tb R R R R R (eN (qG (A0 R (A0 R (A0 R (S1 (v := .d (.agg [vI atv,vI kind,vI what,vI 0,vI 0,vI 0,vI 0,vI 0])) tb R R (List.cons_ne_nil _ _) R R R R R R (I6 _ _ tb R (eN (C9 ?_))))))))))
 obtain rfl:=sI h
 exact U4 (t := .d (.agg [vI atv,vI kind,vI what,vI 0,vI 0,vI 0,vI 0,vI 0])) R R R (.cons (rc tb R) .nil)
def A9F (F:Nat) :Option D4:=(A9E F ).bind fun rv=>some (D4.mk rv.zones rv.doors rv.people rv.keys rv.squibs rv.panel rv.wait [(ByteArray.mk #[114,97,110,103,101]),(ByteArray.mk #[115,97,102,101,116,121])] [(D9.mk (ByteArray.mk #[109,97,105,110]) 1000 2)] [(E0.mk (ByteArray.mk #[102,105,108,108]) [] 100 200 false [] [] [] []),(E0.mk (ByteArray.mk #[112,111,119,101,114]) [0] 10 500 false [0] [] [] []),(E0.mk (ByteArray.mk #[99,104,101,99,107]) [0] 50 300 false [] [0] [] []),(E0.mk (ByteArray.mk #[112,111,108,108]) [1,2] 0 20 true [] [0] [] []),(E0.mk (ByteArray.mk #[108,97,117,110,99,104]) [3] 5 60 true [] [0] [0] [])] [1,3] 200 400)
theorem A7Y {F:Nat}  {r:D4} (h:A9F F =some r):PC Tryz.prog 39 [] (D4.d r):=by
 rw[A9F]at h
 refine PC.of_lend ?_
 refine SC.of_sw Tryz.func39 R R R ?_
 dsimp only[L8,List.map]
 refine qG (M5 tb R R R R R (eN (qG (P7 tb R R R R R R R R R R R R R (A14 R R R (eN (qG ?_)))))))
 obtain⟨rv,k,h⟩:=H1 h
 refine J5 (B2I k) eK R R R R (P7 tb R R R R R R R R R R R R R (S1 (v := .d (.agg [.v (.string (ByteArray.mk #[109,97,105,110])),vI 1000,vI 2])) tb R R (List.cons_ne_nil _ _) R R R R R R (P7 tb R R R R R R R R R R R R R ?_)))
 refine S1 (v := .d (.agg [.v (.string (ByteArray.mk #[102,105,108,108])),.v (.slice none 0 0),vI 100,vI 200,.v (.bool false),.v (.slice none 0 0),.v (.slice none 0 0),.v (.slice none 0 0),.v (.slice none 0 0)])) tb R R (List.cons_ne_nil _ _) R R R R R R (P7 tb R R R R R R R R R R R R R (A0T R R R ?_))
 refine S1 (v := .agg [.d (.v (.string (ByteArray.mk #[112,111,119,101,114]))),.row 4 1 0 ([0]).length,.d (vI 10),.d (vI 500),.d (.v (.bool false)),.row 1 1 0 ([0]).length,.d (.v (.slice none 0 0)),.d (.v (.slice none 0 0)),.d (.v (.slice none 0 0))]) tb R R (List.cons_ne_nil _ _) R R R R R R (P7 tb R R R R R R R R R R R R R (A0T R R R ?_))
 refine S1 (v := .agg [.d (.v (.string (ByteArray.mk #[99,104,101,99,107]))),.row 5 1 0 ([0]).length,.d (vI 50),.d (vI 300),.d (.v (.bool false)),.d (.v (.slice none 0 0)),.row 1 1 0 ([0]).length,.d (.v (.slice none 0 0)),.d (.v (.slice none 0 0))]) tb R R (List.cons_ne_nil _ _) R R R R R R (P7 tb R R R R R R R R R R R R R (A0T R R R ?_))
 refine S1 (v := .agg [.d (.v (.string (ByteArray.mk #[112,111,108,108]))),.row 6 1 0 ([1,2]).length,.d (vI 0),.d (vI 20),.d (.v (.bool true)),.d (.v (.slice none 0 0)),.row 1 1 0 ([0]).length,.d (.v (.slice none 0 0)),.d (.v (.slice none 0 0))]) tb R R (List.cons_ne_nil _ _) R R R R R R (P7 tb R R R R R R R R R R R R R (A0T R R R (A0T R R R ?_)))
 refine S1 (v := .agg [.d (.v (.string (ByteArray.mk #[108,97,117,110,99,104]))),.row 7 1 0 ([3]).length,.d (vI 5),.d (vI 60),.d (.v (.bool true)),.d (.v (.slice none 0 0)),.row 1 1 0 ([0]).length,.row 1 1 0 ([0]).length,.d (.v (.slice none 0 0))]) tb R R (List.cons_ne_nil _ _) R R R R R R (P7 tb R R R R R R R R R R R R R (P7 tb R R R R R R R R R R R R R ?_))
 refine S1 (v := .d (.agg [vI 200,vI 400])) tb R R (List.cons_ne_nil _ _) R R R R R R ?_
 refine S1 (v := .agg [.d (.arr 8 ((rv.zones).map F6.d)),.d (.arr 2 ((rv.doors).map G6.d)),.d (.arr 2 ((rv.people).map E2.d)),.d (.arr 1 ((rv.keys).map vS)),.d (.arr 6 ((rv.squibs).map D1.d)),.d (vI rv.panel),.d (vI rv.wait),.row 2 1 0 ([(ByteArray.mk #[114,97,110,103,101]),(ByteArray.mk #[115,97,102,101,116,121])]).length,.row 3 3 0 ([(D9.mk (ByteArray.mk #[109,97,105,110]) 1000 2)]).length,.row 8 9 0 5,.row 9 1 0 ([1,3]).length,.d (vI 200),.d (vI 400)]) tb R R (List.cons_ne_nil _ _) kR kR kR kR R R ?_
 refine I6 _ _ tb R (eN (C9 ?_))
 obtain rfl:=sI h
 exact(U0 (t := .agg [.d (.arr 8 ((rv.zones).map F6.d)),.d (.arr 2 ((rv.doors).map G6.d)),.d (.arr 2 ((rv.people).map E2.d)),.d (.arr 1 ((rv.keys).map vS)),.d (.arr 6 ((rv.squibs).map D1.d)),.d (vI rv.panel),.d (vI rv.wait),.row 0 1 0 ([(ByteArray.mk #[114,97,110,103,101]),(ByteArray.mk #[115,97,102,101,116,121])]).length,.row 1 3 0 ([(D9.mk (ByteArray.mk #[109,97,105,110]) 1000 2)]).length,.row 2 9 0 5,.row 8 1 0 ([1,3]).length,.d (vI 200),.d (vI 400)]) (L:=[C4g [(ByteArray.mk #[114,97,110,103,101]),(ByteArray.mk #[115,97,102,101,116,121])],C3x [(D9.mk (ByteArray.mk #[109,97,105,110]) 1000 2)],some ⟨9,[.d (.agg [.v (.string (ByteArray.mk #[102,105,108,108])),.v (.slice none 0 0),vI 100,vI 200,.v (.bool false),.v (.slice none 0 0),.v (.slice none 0 0),.v (.slice none 0 0),.v (.slice none 0 0)]),.agg [.d (.v (.string (ByteArray.mk #[112,111,119,101,114]))),.row 3 1 0 ([0]).length,.d (vI 10),.d (vI 500),.d (.v (.bool false)),.row 4 1 0 ([0]).length,.d (.v (.slice none 0 0)),.d (.v (.slice none 0 0)),.d (.v (.slice none 0 0))],.agg [.d (.v (.string (ByteArray.mk #[99,104,101,99,107]))),.row 5 1 0 ([0]).length,.d (vI 50),.d (vI 300),.d (.v (.bool false)),.d (.v (.slice none 0 0)),.row 4 1 0 ([0]).length,.d (.v (.slice none 0 0)),.d (.v (.slice none 0 0))],.agg [.d (.v (.string (ByteArray.mk #[112,111,108,108]))),.row 6 1 0 ([1,2]).length,.d (vI 0),.d (vI 20),.d (.v (.bool true)),.d (.v (.slice none 0 0)),.row 4 1 0 ([0]).length,.d (.v (.slice none 0 0)),.d (.v (.slice none 0 0))],.agg [.d (.v (.string (ByteArray.mk #[108,97,117,110,99,104]))),.row 7 1 0 ([3]).length,.d (vI 5),.d (vI 60),.d (.v (.bool true)),.d (.v (.slice none 0 0)),.row 4 1 0 ([0]).length,.row 4 1 0 ([0]).length,.d (.v (.slice none 0 0))]]⟩,B0u [0],B0u [0],B0u [0],B0u [1,2],B0u [3],B0u [1,3]]) (κ:=[2,3,8,4,1,5,6,7,9]) R (.cons (rc tb R) .nil) (vK (.row R (.row R (.cons R R C38))) R) ⟨_,R,(.aggL (dL (dL (dL (dL (dL (dL (dL (.cons (.row R R) (.cons (.row R R) (.cons (.rowL R R (.cons (.aggDL (dL (.cons .nilA (dL (dL (dL (.cons .nilA (.cons .nilA (.cons .nilA (.cons .nilA .nil)))))))))) (.cons (.aggL (dL (.cons (.row R R) (dL (dL (dL (.cons (.row R R) (.cons .nilA (.cons .nilA (.cons .nilA .nil)))))))))) (.cons (.aggL (dL (.cons (.row R R) (dL (dL (dL (.cons .nilA (.cons (.row R R) (.cons .nilA (.cons .nilA .nil)))))))))) (.cons (.aggL (dL (.cons (.row R R) (dL (dL (dL (.cons .nilA (.cons (.row R R) (.cons .nilA (.cons .nilA .nil)))))))))) (.cons (.aggL (dL (.cons (.row R R) (dL (dL (dL (.cons .nilA (.cons (.row R R) (.cons (.row R R) (.cons .nilA .nil)))))))))) .nil)))))) (.cons (.row R R) (dL (dL .nil))))))))))))))⟩)
def B1Z (F:Nat) :Option (List C7):=(A17 F 0 1 0).bind fun rv=>(A17 F 90 2 0).bind fun rv2=>(A17 F 100 2 0).bind fun rv3=>(A17 F 100 1 2).bind fun rv4=>(A17 F 100 1 1).bind fun rv5=>(A17 F 110 1 2).bind fun rv6=>(A17 F 120 2 1).bind fun rv7=>(A17 F 170 2 2).bind fun rv8=>(A17 F 180 1 3).bind fun rv9=>(A17 F 180 5 0).bind fun rv10=>(A17 F 181 5 1).bind fun rv11=>(A17 F 185 1 3).bind fun rv12=>(A17 F 190 2 3).bind fun rv13=>(A17 F 190 1 4).bind fun rv14=>(A17 F 199 2 4).bind fun rv15=>(A17 F 200 2 4).bind fun rv16=>some [rv,rv2,rv3,rv4,rv5,rv6,rv7,rv8,rv9,rv10,rv11,rv12,rv13,rv14,rv15,rv16]
theorem B63 {F:Nat}  {r:(List C7)} (h:B1Z F =some r):SCR Tryz.prog 40 (List.map T.d []) [] (.row 0 8 0 (r).length) (List.map some [(B62 r)]):=by
 rw[B1Z]at h
 refine SC.of_sw Tryz.func40 R R R ?_
 dsimp only[L8,List.map]
 refine qG (A3 R (eN (qG ?_)))
 obtain⟨rv,k,h⟩:=H1 h
 refine J5 (Z5 k) eK R R R R ?_
 obtain⟨rv2,k2,h⟩:=H1 h
 refine J5 (Z5 k2) eK R R R R ?_
 obtain⟨rv3,k3,h⟩:=H1 h
 refine J5 (Z5 k3) eK R R R R ?_
 obtain⟨rv4,k4,h⟩:=H1 h
 refine J5 (Z5 k4) eK R R R R ?_
 obtain⟨rv5,k5,h⟩:=H1 h
 refine J5 (Z5 k5) eK R R R R ?_
 obtain⟨rv6,k6,h⟩:=H1 h
 refine J5 (Z5 k6) eK R R R R ?_
 obtain⟨rv7,k7,h⟩:=H1 h
 refine J5 (Z5 k7) eK R R R R ?_
 obtain⟨rv8,k8,h⟩:=H1 h
 refine J5 (Z5 k8) eK R R R R ?_
 obtain⟨rv9,k9,h⟩:=H1 h
 refine J5 (Z5 k9) eK R R R R ?_
 obtain⟨rv10,k10,h⟩:=H1 h
 refine J5 (Z5 k10) eK R R R R ?_
 obtain⟨rv11,k11,h⟩:=H1 h
 refine J5 (Z5 k11) eK R R R R ?_
 obtain⟨rv12,k12,h⟩:=H1 h
 refine J5 (Z5 k12) eK R R R R ?_
 obtain⟨rv13,k13,h⟩:=H1 h
 refine J5 (Z5 k13) eK R R R R ?_
 obtain⟨rv14,k14,h⟩:=H1 h
 refine J5 (Z5 k14) eK R R R R ?_
 obtain⟨rv15,k15,h⟩:=H1 h
 refine J5 (Z5 k15) eK R R R R ?_
 obtain⟨rv16,k16,h⟩:=H1 h
 refine J5 (Z5 k16) eK R R R R (P7 tb R R R R R R R R R R R R R (A14 R R R (eN (C9 ?_))))
 obtain rfl:=sI h
 exact f2 [0] C23 R (.cons (.tmp 0) .nil) R
theorem B0S {F:Nat}  {r:(List C7)} (h:B1Z F =some r):PC Tryz.prog 40 [] (.arr 8 ((r).map C7.d)):=(B63 h).toPC (.row rfl rfl)
def A7X (F:Nat) :Option Bool:=(A9F F ).bind fun rv=>(B1Z F ).bind fun rv2=>(A36 F rv rv2).bind fun rv3=>(A9F F ).bind fun rv4=>(B1Z F ).bind fun rv5=>(A7A rv5 0 5).bind fun q=>(A3Z F rv4 q 120).bind fun rv6=>(A9F F ).bind fun rv7=>(A85 F rv7 []).bind fun rv8=>(A9F F ).bind fun rv9=>(B1Z F ).bind fun rv10=>(A3Z F rv9 rv10 300).bind fun rv11=>if rv3.2.2=0 then(if rv6.2=0 then(if rv8.2=0 then(if rv11.2=9 then(if(rv3.2.1.length:Int)=16 then((P3 rv3.2.1 14).bind fun e=>if e=187 then(if rv3.1.now=200 then(if rv6.1=200 then(some (decide (rv8.1=245)))else(some false))else(some false))else(some false))else(some false))else(some false))else(some false))else(some false))else(some false)
theorem B0R {F:Nat}  {r:Bool} (h:A7X F =some r):PC Tryz.prog 22 [] (.v (.bool r)):=by
 rw[A7X]at h
 refine SC.of_sw Tryz.func22 R R R ?_
 dsimp only[L8,List.map]
 refine qG (A3 R (eN (qG ?_)))
 obtain⟨rv,k,h⟩:=H1 h
 refine J5 (A7Y k) eK R R R R ?_
 obtain⟨rv2,k2,h⟩:=H1 h
 refine J5 (B0S k2) eK R R R R ?_
 obtain⟨rv3,k3,h⟩:=H1 h
 refine J5 (A6l k3) eK R R R R (A0 R (Q1 (t:=H2.d rv3.1) R R R R (Q1 (t := .arr 1 ((rv3.2.1).map vI)) R R R R (Q1 (t:=vI rv3.2.2) R R R R (M5 tb R R R R R (I6 _ _ tb R (A3 R (A3 R (eN (qG ?_))))))))))
 obtain⟨rv4,k4,h⟩:=H1 h
 refine J5 (A7Y k4) eK R R R R ?_
 obtain⟨rv5,k5,h⟩:=H1 h
 refine J5 (B0S k5) eK R R R R ?_
 obtain⟨q,iq,h⟩:=H1 h
 refine A6E tb R R R R R R iq R R ?_
 obtain⟨rv6,k6,h⟩:=H1 h
 refine J5 (A6d k6) eK R R R R (A0 R (Q1 (t:=vI rv6.1) R R R R (Q1 (t:=vI rv6.2) R R R R (A3 R (A3 R (eN (qG ?_)))))))
 obtain⟨rv7,k7,h⟩:=H1 h
 refine J5 (A7Y k7) eK R R R R ?_
 obtain⟨rv8,k8,h⟩:=H1 h
 refine A19 (B1B k8) R eK R R ((dL (.cons .nilA .nil))) R R (A0 R (Q1 (t:=vI rv8.1) R R R R (Q1 (t:=vI rv8.2) R R R R (A3 R (A3 R (eN (qG ?_)))))))
 obtain⟨rv9,k9,h⟩:=H1 h
 refine J5 (A7Y k9) eK R R R R ?_
 obtain⟨rv10,k10,h⟩:=H1 h
 refine J5 (B0S k10) eK R R R R ?_
 obtain⟨rv11,k11,h⟩:=H1 h
 refine J5 (A6d k11) eK R R R R (A0 R (Q1 (t:=vI rv11.1) R R R R (Q1 (t:=vI rv11.2) R R R R (A3 R (A3 R (eN (qG (A0 R ?_))))))))
 refine Z3 R R R R ?_ ?_
 ·intro c
  replace h:=J7 c h
  refine A0 R (A0 R ?_)
  refine Z3 R R R R ?_ ?_
  ·intro c2
   replace h:=J7 c2 h
   refine D6 R (A0 R (A0 R ?_))
   refine Z3 R R R R ?_ ?_
   ·intro c3
    replace h:=J7 c3 h
    refine D6 R (A0 R (A0 R ?_))
    refine Z3 R R R R ?_ ?_
    ·intro c4
     replace h:=J7 c4 h
     refine D6 R (A0 R (A0 R (I7 tb R ?_)))
     refine Z3 R R R R ?_ ?_
     ·intro c5
      replace h:=J7 c5 h
      refine D6 R (A0 R (A0 R ?_))
      obtain⟨e,ie,h⟩:=H1 h
      refine N8 tb (F0 ie) (V1 ie) R (I4 (y:=vI e) tb (U5 (g:=vI) ie) R ?_)
      refine Z3 R R R R ?_ ?_
      ·intro c6
       replace h:=J7 c6 h
       refine D6 R (A0 R (C8 tb R (B5 (y:=vI rv3.1.now) tb R ?_)))
       refine Z3 R R R R ?_ ?_
       ·intro c7
        replace h:=J7 c7 h
        refine D6 R (A0 R (A0 R ?_))
        refine Z3 R R R R ?_ ?_
        ·intro c8
         replace h:=J7 c8 h
         refine D6 R (A0 R (A0 R (A3s R R R R (D6 R (A3 R (eN (C9 ?_)))))))
         obtain rfl:=sI h
         exact f1 0 R
        intro c8
        replace h:=P1 c8 h
        refine D6 R (A0 R (L9 2 R (D0 R (A3 R (eN (C9 ?_))))))
        obtain rfl:=sI h
        exact f1 0 R
       intro c7
       replace h:=P1 c7 h
       refine D6 R (A0 R (L9 2 R (D0 R (A0 R (L9 2 R (D0 R (A3 R (eN (C9 ?_)))))))))
       obtain rfl:=sI h
       exact f1 0 R
      intro c6
      replace h:=P1 c6 h
      refine D6 R (A0 R (L9 3 R (D0 R (A0 R (L9 2 R (D0 R (A0 R (L9 2 R (D0 R (A3 R (eN (C9 ?_))))))))))))
      obtain rfl:=sI h
      exact f1 0 R
     intro c5
     replace h:=P1 c5 h
     refine D6 R (A0 R (L9 4 R (D0 R (A0 R (L9 3 R (D0 R (A0 R (L9 2 R (D0 R (A0 R (L9 2 R (D0 R (A3 R (eN (C9 ?_)))))))))))))))
     obtain rfl:=sI h
     exact f1 0 R
    intro c4
    replace h:=P1 c4 h
    refine D6 R (A0 R (L9 3 R (D0 R (A0 R (L9 4 R (D0 R (A0 R (L9 3 R (D0 R (A0 R (L9 2 R (D0 R (A0 R (L9 2 R (D0 R (A3 R (eN (C9 ?_))))))))))))))))))
    obtain rfl:=sI h
    exact f1 0 R
   intro c3
   replace h:=P1 c3 h
   refine D6 R (A0 R (L9 2 R (D0 R (A0 R (L9 3 R (D0 R (A0 R (L9 4 R (D0 R (A0 R (L9 3 R (D0 R (A0 R (L9 2 R (D0 R (A0 R (L9 2 R (D0 R (A3 R (eN (C9 ?_)))))))))))))))))))))
   obtain rfl:=sI h
   exact f1 0 R
  intro c2
  replace h:=P1 c2 h
  refine D6 R (A0 R (L9 2 R (D0 R (A0 R (L9 2 R (D0 R (A0 R (L9 3 R (D0 R (A0 R (L9 4 R (D0 R (A0 R (L9 3 R (D0 R (A0 R (L9 2 R (D0 R (A0 R (L9 2 R (D0 R (A3 R (eN (C9 ?_))))))))))))))))))))))))
  obtain rfl:=sI h
  exact f1 0 R
 intro c
 replace h:=P1 c h
 refine A0 R (L9 2 R (D0 R (A0 R (L9 2 R (D0 R (A0 R (L9 2 R (D0 R (A0 R (L9 3 R (D0 R (A0 R (L9 4 R (D0 R (A0 R (L9 3 R (D0 R (A0 R (L9 2 R (D0 R (A0 R (L9 2 R (D0 R (A3 R (eN (C9 ?_))))))))))))))))))))))))))
 obtain rfl:=sI h
 exact f1 0 R
def C3E (F:Nat) (B21:(List Int)→(List Int)→Int→Option Bool) (lv:(List Int)) (lv2:(List Int)) (x:Int) (e2:E0) (x4:Int):Option Bool:=(A8i lv [x4]).bind fun q2=>(A8i lv2 [(W (x4+e2.least))]).bind fun q3=>B21 q2 q3 (W (x+1))
def C4J (F:Nat) (lv2:(List Int)) (x:Int) (e2:E0) (K:Int→Int→Option Bool):Nat→Int→Int→Option Bool
 | 0,_,_=>none
 | n+1,x2,x3=>if x3<(e2.need.length:Int)then((P3 e2.need x3).bind fun e3=>if e3<0 then(some false)else(if x≤e3 then(some false)else((P3 lv2 e3).bind fun e4=>C4J F lv2 x e2 K n (max x2 e4) (W (x3+1)))))else(K x2 x3)
def C3v (F:Nat) (B72:Int→Int→Int→Int→Option Bool) (x8:Int) (x13:Int) (x14:Int) (x15:Int):Option Bool:=B72 x13 x14 x15 (W (x8+1))
def C3M (F:Nat) (B72:Int→Int→Int→Int→Option Bool) (x5:Int) (x6:Int) (x7:Int) (x8:Int) (x9:Int) (x10:Int):Option Bool:=if x5<0 then(C3v F B72 x8 x8 x9 x10)else(if x10<x7 then(C3v F B72 x8 x8 x9 x10)else(C3v F B72 x8 x5 x6 x7))
def C4d (F:Nat) (rv:(List E0)) (lv5:(List Bool)) (x8:Int) (K:Bool→Int→Option Bool):Nat→Bool→Int→Option Bool
 | 0,_,_=>none
 | n+1,x11,x12=>(P3 rv x8).bind fun e8=>if x12<(e8.need.length:Int)then(if x11=true then((P3 e8.need x12).bind fun e9=>(P3 lv5 e9).bind fun e10=>if e10=true then(C4d F rv lv5 x8 K n true (W (x12+1)))else(C4d F rv lv5 x8 K n false (W (x12+1))))else(C4d F rv lv5 x8 K n false (W (x12+1))))else(K x11 x12)
def C5v (F:Nat) (B72:Int→Int→Int→Int→Option Bool) (rv:(List E0)) (lv3:(List C7)) (lv5:(List Bool)) (x5:Int) (x6:Int) (x7:Int) (x8:Int) (x9:Int) (x10:Int):Option Bool:=C4d F rv lv5 x8 (fun(x11:Bool) (x12:Int)=>(P3 lv5 x8).bind fun e11=>if e11=true then(C3v F B72 x8 x5 x6 x7)else(if x11=true then(if x8=(W ((rv.length:Int)-1))then(if(lv3.length:Int)<(W ((W (2*(rv.length:Int)))-2))then(C3v F B72 x8 x5 x6 x7)else(C3M F B72 x5 x6 x7 x8 x9 x10))else(C3M F B72 x5 x6 x7 x8 x9 x10))else(C3v F B72 x8 x5 x6 x7))) F true 0
def C4v (F:Nat) (B66:(List C7)→(List Bool)→(List Bool)→Option Bool) (lv3:(List C7)) (x5:Int) (x6:Int) (x7:Int) (lv8:(List Bool)) (lv9:(List Bool)):Option Bool:=(A17 F x7 x6 x5).bind fun rv8=>(A8i lv3 [rv8]).bind fun q5=>B66 q5 lv8 lv9
def C3w (F:Nat) (rv:(List E0)) (lv:(List Int)) (lv2:(List Int)) (lv3:(List C7)) (lv4:(List Bool)) (lv5:(List Bool)) (K:Int→Int→Int→Int→Option Bool):Nat→Int→Int→Int→Int→Option Bool
 | 0,_,_,_,_=>none
 | n+1,x5,x6,x7,x8=>if x8<(rv.length:Int)then((P3 lv x8).bind fun e5=>(P3 lv4 x8).bind fun e6=>if e6=true then((P3 lv2 x8).bind fun e7=>C5v F (C3w F rv lv lv2 lv3 lv4 lv5 K n) rv lv3 lv5 x5 x6 x7 x8 2 e7)else(C5v F (C3w F rv lv lv2 lv3 lv4 lv5 K n) rv lv3 lv5 x5 x6 x7 x8 1 e5))else(K x5 x6 x7 x8)
def C5b (F:Nat) (rv10:(H2 × (List Int) × Int)) (K:Int→Option Bool):Nat→Int→Option Bool
 | 0,_=>none
 | n+1,x17=>if x17<(rv10.2.1.length:Int)then((P3 rv10.2.1 x17).bind fun e17=>if e17=0 then(C5b F rv10 K n (W (x17+1)))else(some false))else(K x17)
def C52 (F:Nat) (rv10:(H2 × (List Int) × Int)):Option Bool:=C5b F rv10 (fun(x17:Int)=>(A7X 100 ).bind fun rv11=>some rv11) F 0
def C4y (F:Nat) (lv3:(List C7)) (K:Int→Option Bool):Nat→Int→Option Bool
 | 0,_=>none
 | n+1,x16=>if x16<(lv3.length:Int)then((P3 lv3 x16).bind fun e14=>(P3 lv3 (W (x16-1))).bind fun e15=>if e14.at_<e15.at_ then((A7X 100 ).bind fun rv9=>some rv9)else(C4y F lv3 K n (W (x16+1))))else(K x16)
def C35 (F:Nat) (rv:(List E0)) (lv:(List Int)) (lv2:(List Int)) (K:(List C7)→(List Bool)→(List Bool)→Option Bool):Nat→(List C7)→(List Bool)→(List Bool)→Option Bool
 | 0,_,_,_=>none
 | n+1,lv3,lv4,lv5=>if(lv3.length:Int)<(W (2*(rv.length:Int)))then(C3w F rv lv lv2 lv3 lv4 lv5 (fun(x5:Int) (x6:Int) (x7:Int) (x8:Int)=>if x5<0 then((A7X 100 ).bind fun rv7=>some rv7)else(if x6=1 then((P3 lv4 x5).bind fun e12=>(A5g lv4 x5 true).bind fun lv6=>C4v F (C35 F rv lv lv2 K n) lv3 x5 x6 x7 lv6 lv5)else((P3 lv5 x5).bind fun e13=>(A5g lv5 x5 true).bind fun lv7=>C4v F (C35 F rv lv lv2 K n) lv3 x5 x6 x7 lv4 lv7))) F (-1) 0 0 0)else(K lv3 lv4 lv5)
def C32 (F:Nat) (rv:(List E0)) (rv3:(Int × Int)) (K:(List Int)→(List Int)→Int→Option Bool):Nat→(List Int)→(List Int)→Int→Option Bool
 | 0,_,_,_=>none
 | n+1,lv,lv2,x=>if x<(rv.length:Int)then((P3 rv x).bind fun e2=>C4J F lv2 x e2 (fun(x2:Int) (x3:Int)=>if x=(W ((rv.length:Int)-1))then(C3E F (C32 F rv rv3 K n) lv lv2 x e2 (max x2 (W (rv3.1-e2.least))))else(C3E F (C32 F rv rv3 K n) lv lv2 x e2 x2)) F 0 0)else(K lv lv2 x)
def C58 (F:Nat) (t:D4) (rv:(List E0)) (rv3:(Int × Int)):Option Bool:=C32 F rv rv3 (fun(lv:(List Int)) (lv2:(List Int)) (x:Int)=>(B1D (rv.length:Int)).bind fun q4=>C35 F rv lv lv2 (fun(lv3:(List C7)) (lv4:(List Bool)) (lv5:(List Bool))=>C4y F lv3 (fun(x16:Int)=>(A36 F {t with stations:=([]:List ByteArray),batteries:=([]:List D9),steps:=rv} lv3).bind fun rv10=>if rv10.2.2=0 then(if(rv10.1.ended.length:Int)=(rv.length:Int)then((P3 rv10.1.ended (W ((rv10.1.ended.length:Int)-1))).bind fun e16=>if e16=rv3.1 then(C52 F rv10)else(some false))else(some false))else(some false)) F 1) F ([]:List C7) (List.replicate q4 false) (List.replicate q4 false)) F ([]:List Int) ([]:List Int) 0
def C5e (F:Nat) (t:D4) (K:(List E0)→Int→Option Bool):Nat→(List E0)→Int→Option Bool
 | 0,_,_=>none
 | n+1,rv,rv2=>if rv2<(t.steps.length:Int)then((P3 t.steps rv2).bind fun e=>(C7f 160 rv [(E0.mk e.name e.need e.least e.most false ([]:List Int) ([]:List Int) ([]:List Int) ([]:List D2))]).bind fun q=>C5e F t K n q (W (rv2+1)))else(K rv rv2)
def C5W (F:Nat) (t:D4):Option Bool:=C5e F t (fun(rv:(List E0)) (rv2:Int)=>(A3Z F {t with stations:=[],batteries:=[],steps:=rv} [] 0).bind fun rv3=>if rv3.2=0 then(if(rv.length:Int)=0 then((A7X 100 ).bind fun rv5=>some rv5)else(if 16<(rv.length:Int)then((A7X 100 ).bind fun rv6=>some rv6)else(C58 F t rv rv3)))else((A7X 100 ).bind fun rv4=>some rv4)) F ([]:List E0) 0
theorem C66 {F:Nat} {t:D4} {r:Bool} (h:C5W F t=some r):PC Tryz.prog 9 [D4.d t] (.v (.bool r)):=by
 rw[C5W]at h
 refine SC.of_sw Tryz.func9 R R R ?_
 dsimp only[L8,List.map]
 refine qG (M9 R (A3 R (eN (qG (B5 (y:=D4.d t) tb R (M5 tb R R R R R (I6 _ ([bx 13 (.d (D4.d t)),bx 13 (.d (D4.d t))]) tb R (eN (qG (C8 tb R ?_))))))))))
 refine I6 _ ([bx 13 (.d (D4.d t)),bx 13 (.d (.agg [.arr 8 ((t.N4).map F6.d),.arr 2 ((t.P5).map G6.d),.arr 2 ((t.N6).map E2.d),.arr 1 ((t.S5).map vS),.arr 6 ((t.J3).map D1.d),vI t.Q7,vI t.T9,.arr 1 ((t.stations).map vS),.arr 3 ((t.batteries).map D9.d),.v (.slice none 0 0),.arr 1 ((t.points).map vI),vI t.Q8,vI t.O8]))]) tb R (C8 tb R ?_)
 refine I6 _ ([bx 13 (.d (D4.d t)),bx 13 (.d (.agg [.arr 8 ((t.N4).map F6.d),.arr 2 ((t.P5).map G6.d),.arr 2 ((t.N6).map E2.d),.arr 1 ((t.S5).map vS),.arr 6 ((t.J3).map D1.d),vI t.Q7,vI t.T9,.arr 1 ((t.stations).map vS),.v (.slice none 0 0),.v (.slice none 0 0),.arr 1 ((t.points).map vI),vI t.Q8,vI t.O8]))]) tb R (C8 tb R ?_)
 refine I6 _ ([bx 13 (.d (D4.d t)),bx 13 (.d (.agg [.arr 8 ((t.N4).map F6.d),.arr 2 ((t.P5).map G6.d),.arr 2 ((t.N6).map E2.d),.arr 1 ((t.S5).map vS),.arr 6 ((t.J3).map D1.d),vI t.Q7,vI t.T9,.v (.slice none 0 0),.v (.slice none 0 0),.v (.slice none 0 0),.arr 1 ((t.points).map vI),vI t.Q8,vI t.O8]))]) tb R (eN (B8 (qG (A3 R (eN (E3 ?_))))))
 refine SW.own (ts':=[(1,.ref 0 13 0 0),(2,.d (.v (.bool false))),(3,.ref 1 13 0 0),(4,.d (vI 0))]) (L':=[bx 13 (.d (D4.d t)),bx 13 (.agg [.d (.arr 8 ((t.N4).map F6.d)),.d (.arr 2 ((t.P5).map G6.d)),.d (.arr 2 ((t.N6).map E2.d)),.d (.arr 1 ((t.S5).map vS)),.d (.arr 6 ((t.J3).map D1.d)),.d (vI t.Q7),.d (vI t.T9),.d (.v (.slice none 0 0)),.d (.v (.slice none 0 0)),.row 2 9 0 (([]:List E0)).length,.d (.arr 1 ((t.points).map vI)),.d (vI t.Q8),.d (vI t.O8)])]) 9 R R (.cons (.same _) (.cons (.same _) (.cons (.same _) (.cons (.same _) .nil)))) (.same (.cons R (.cons (.aggDL (.cons (.same _) (.cons (.same _) (.cons (.same _) (.cons (.same _) (.cons (.same _) (.cons (.same _) (.cons (.same _) (.cons (.same _) (.cons (.same _) (.cons .nil (.cons (.same _) (.cons (.same _) (.cons (.same _) .nil)))))))))))))) .nil) .nil)) ?_
 simp only[List.cons_append,List.nil_append]
 obtain⟨K4,hK4,h⟩:∃ K,K=_∧C5e F t K F ([]:List E0) 0=some r:=⟨_,rfl,h⟩
 refine M2 (fun m st=>∃ (rv:(List E0)) (rv2:Int),C5e F t K4 m rv rv2=some r∧st=⟨[(1,.ref 0 13 0 0),(2,.d (.v (.bool false))),(3,.ref 1 13 0 0),(4,.d (vI rv2))],[bx 13 (.d (D4.d t)),bx 13 (.agg [.d (.arr 8 ((t.N4).map F6.d)),.d (.arr 2 ((t.P5).map G6.d)),.d (.arr 2 ((t.N6).map E2.d)),.d (.arr 1 ((t.S5).map vS)),.d (.arr 6 ((t.J3).map D1.d)),.d (vI t.Q7),.d (vI t.T9),.d (.v (.slice none 0 0)),.d (.v (.slice none 0 0)),.row 2 9 0 (rv).length,.d (.arr 1 ((t.points).map vI)),.d (vI t.Q8),.d (vI t.O8)]),C3p rv]⟩) (.prn [1,2,3,4] R) ⟨([]:List E0),0,h,R⟩ ?_
 clear h
 rintro m4 st ⟨rv,rv2,h,rfl⟩
 cases m4 with
 | zero=>cases(show(none:Option Bool)=some r from h)
 | succ m4 =>
 rw[C5e]at h
 refine B8 (qG (A0 R (C8 tb R (B5 (y := .arr 9 ((t.steps).map E0.d)) tb R (I7 tb R ?_)))))
 refine Q4 R R R R ?_ ?_
 ·intro c
  replace h:=J7 c h
  refine eN (C0 R (D7 (A6 (B8 (E3 (qG (C8 tb R (B5 (y := .arr 9 ((t.steps).map E0.d)) tb R (A0 R ?_)))))))))
  obtain⟨e,ie,h⟩:=H1 h
  refine N8 tb (F0 ie) (V1 ie) R (I4 (y:=E0.d e) tb (U5 (g:=E0.d) ie) R (M5 tb R R R R R ?_))
  refine I6 _ ([bx 13 (.d (D4.d t)),bx 13 (.agg [.d (.arr 8 ((t.N4).map F6.d)),.d (.arr 2 ((t.P5).map G6.d)),.d (.arr 2 ((t.N6).map E2.d)),.d (.arr 1 ((t.S5).map vS)),.d (.arr 6 ((t.J3).map D1.d)),.d (vI t.Q7),.d (vI t.T9),.d (.v (.slice none 0 0)),.d (.v (.slice none 0 0)),.row 2 9 0 (rv).length,.d (.arr 1 ((t.points).map vI)),.d (vI t.Q8),.d (vI t.O8)]),C3p rv,bx 9 (.d (E0.d e))]) tb R (eN (qG ?_))
  refine C8 tb R ?_
  refine I6 _ ([bx 13 (.d (D4.d t)),bx 13 (.agg [.d (.arr 8 ((t.N4).map F6.d)),.d (.arr 2 ((t.P5).map G6.d)),.d (.arr 2 ((t.N6).map E2.d)),.d (.arr 1 ((t.S5).map vS)),.d (.arr 6 ((t.J3).map D1.d)),.d (vI t.Q7),.d (vI t.T9),.d (.v (.slice none 0 0)),.d (.v (.slice none 0 0)),.row 2 9 0 (rv).length,.d (.arr 1 ((t.points).map vI)),.d (vI t.Q8),.d (vI t.O8)]),C3p rv,bx 9 (.d (E0.d {e with poll:=false}))]) tb R ?_
  refine C8 tb R ?_
  refine I6 _ ([bx 13 (.d (D4.d t)),bx 13 (.agg [.d (.arr 8 ((t.N4).map F6.d)),.d (.arr 2 ((t.P5).map G6.d)),.d (.arr 2 ((t.N6).map E2.d)),.d (.arr 1 ((t.S5).map vS)),.d (.arr 6 ((t.J3).map D1.d)),.d (vI t.Q7),.d (vI t.T9),.d (.v (.slice none 0 0)),.d (.v (.slice none 0 0)),.row 2 9 0 (rv).length,.d (.arr 1 ((t.points).map vI)),.d (vI t.Q8),.d (vI t.O8)]),C3p rv,bx 9 (.d (.agg [.v (.string e.name),.arr 1 ((e.need).map vI),vI e.least,vI e.most,.v (.bool false),.v (.slice none 0 0),.arr 1 ((e.use_).map vI),.arr 1 ((e.off).map vI),.arr 5 ((e.acts).map D2.d)]))]) tb R ?_
  refine C8 tb R ?_
  refine I6 _ ([bx 13 (.d (D4.d t)),bx 13 (.agg [.d (.arr 8 ((t.N4).map F6.d)),.d (.arr 2 ((t.P5).map G6.d)),.d (.arr 2 ((t.N6).map E2.d)),.d (.arr 1 ((t.S5).map vS)),.d (.arr 6 ((t.J3).map D1.d)),.d (vI t.Q7),.d (vI t.T9),.d (.v (.slice none 0 0)),.d (.v (.slice none 0 0)),.row 2 9 0 (rv).length,.d (.arr 1 ((t.points).map vI)),.d (vI t.Q8),.d (vI t.O8)]),C3p rv,bx 9 (.d (.agg [.v (.string e.name),.arr 1 ((e.need).map vI),vI e.least,vI e.most,.v (.bool false),.v (.slice none 0 0),.v (.slice none 0 0),.arr 1 ((e.off).map vI),.arr 5 ((e.acts).map D2.d)]))]) tb R ?_
  refine C8 tb R ?_
  refine I6 _ ([bx 13 (.d (D4.d t)),bx 13 (.agg [.d (.arr 8 ((t.N4).map F6.d)),.d (.arr 2 ((t.P5).map G6.d)),.d (.arr 2 ((t.N6).map E2.d)),.d (.arr 1 ((t.S5).map vS)),.d (.arr 6 ((t.J3).map D1.d)),.d (vI t.Q7),.d (vI t.T9),.d (.v (.slice none 0 0)),.d (.v (.slice none 0 0)),.row 2 9 0 (rv).length,.d (.arr 1 ((t.points).map vI)),.d (vI t.Q8),.d (vI t.O8)]),C3p rv,bx 9 (.d (.agg [.v (.string e.name),.arr 1 ((e.need).map vI),vI e.least,vI e.most,.v (.bool false),.v (.slice none 0 0),.v (.slice none 0 0),.v (.slice none 0 0),.arr 5 ((e.acts).map D2.d)]))]) tb R ?_
  refine C8 tb R ?_
  refine I6 _ ([bx 13 (.d (D4.d t)),bx 13 (.agg [.d (.arr 8 ((t.N4).map F6.d)),.d (.arr 2 ((t.P5).map G6.d)),.d (.arr 2 ((t.N6).map E2.d)),.d (.arr 1 ((t.S5).map vS)),.d (.arr 6 ((t.J3).map D1.d)),.d (vI t.Q7),.d (vI t.T9),.d (.v (.slice none 0 0)),.d (.v (.slice none 0 0)),.row 2 9 0 (rv).length,.d (.arr 1 ((t.points).map vI)),.d (vI t.Q8),.d (vI t.O8)]),C3p rv,bx 9 (.d (.agg [.v (.string e.name),.arr 1 ((e.need).map vI),vI e.least,vI e.most,.v (.bool false),.v (.slice none 0 0),.v (.slice none 0 0),.v (.slice none 0 0),.v (.slice none 0 0)]))]) tb R ?_
  refine eN (J1 (C8 tb R (W4 tb R R R R R R R R R ?_)))
  refine C7u (y := .agg [.v (.string e.name),.arr 1 ((e.need).map vI),vI e.least,vI e.most,.v (.bool false),.v (.slice none 0 0),.v (.slice none 0 0),.v (.slice none 0 0),.v (.slice none 0 0)]) (y' := .agg [.v (.string e.name),.arr 1 ((e.need).map vI),vI e.least,vI e.most,.v (.bool false),.arr 1 ((([]:List Int)).map vI),.arr 1 ((([]:List Int)).map vI),.arr 1 ((([]:List Int)).map vI),.arr 5 ((([]:List D2)).map D2.d)]) ((.aggc (.same _) (.aggc (.same _) (.aggc (.same _) (.aggc (.same _) (.aggc (.same _) (.aggc (.nil _) (.aggc (.nil _) (.aggc (.nil _) (.aggc (.nil _) .agg0)))))))))) tb R R R R R R R R R ?_
  refine P7 tb R R R R R R R R R R R R R ?_
  obtain⟨q,iq,h⟩:=H1 h
  refine C7E (g:=E0.d) (w:=rv) (v:=[(E0.mk e.name e.need e.least e.most false ([]:List Int) ([]:List Int) ([]:List Int) ([]:List D2))]) ([bx 13 (.d (D4.d t)),bx 13 (.agg [.d (.arr 8 ((t.N4).map F6.d)),.d (.arr 2 ((t.P5).map G6.d)),.d (.arr 2 ((t.N6).map E2.d)),.d (.arr 1 ((t.S5).map vS)),.d (.arr 6 ((t.J3).map D1.d)),.d (vI t.Q7),.d (vI t.T9),.d (.v (.slice none 0 0)),.d (.v (.slice none 0 0)),.row 2 9 0 (rv).length,.d (.arr 1 ((t.points).map vI)),.d (vI t.Q8),.d (vI t.O8)]),none,bx 9 (.d (.agg [.v (.string e.name),.arr 1 ((e.need).map vI),vI e.least,vI e.most,.v (.bool false),.v (.slice none 0 0),.v (.slice none 0 0),.v (.slice none 0 0),.v (.slice none 0 0)])),C3p [(E0.mk e.name e.need e.least e.most false ([]:List Int) ([]:List Int) ([]:List Int) ([]:List D2))]]) tb R R R R R R R R R R R iq R R R R R ?_
  refine C8 tb R ?_
  refine I6 _ ([bx 13 (.d (D4.d t)),bx 13 (.agg [.d (.arr 8 ((t.N4).map F6.d)),.d (.arr 2 ((t.P5).map G6.d)),.d (.arr 2 ((t.N6).map E2.d)),.d (.arr 1 ((t.S5).map vS)),.d (.arr 6 ((t.J3).map D1.d)),.d (vI t.Q7),.d (vI t.T9),.d (.v (.slice none 0 0)),.d (.v (.slice none 0 0)),.row 5 9 0 (q).length,.d (.arr 1 ((t.points).map vI)),.d (vI t.Q8),.d (vI t.O8)]),none,bx 9 (.d (.agg [.v (.string e.name),.arr 1 ((e.need).map vI),vI e.least,vI e.most,.v (.bool false),.v (.slice none 0 0),.v (.slice none 0 0),.v (.slice none 0 0),.v (.slice none 0 0)])),C3p [(E0.mk e.name e.need e.least e.most false ([]:List Int) ([]:List Int) ([]:List Int) ([]:List D2))],C3p q]) tb R ?_
  refine Y9 (D3 (A6 (J1 (A0 R (O1 R (A3 R (eN ?_)))))))
  exact⟨m4,⟨[(1,.ref 0 13 0 0),(2,.d (.v (.bool false))),(3,.ref 1 13 0 0),(4,.d (vI (W (rv2+1))))],[bx 13 (.d (D4.d t)),bx 13 (.agg [.d (.arr 8 ((t.N4).map F6.d)),.d (.arr 2 ((t.P5).map G6.d)),.d (.arr 2 ((t.N6).map E2.d)),.d (.arr 1 ((t.S5).map vS)),.d (.arr 6 ((t.J3).map D1.d)),.d (vI t.Q7),.d (vI t.T9),.d (.v (.slice none 0 0)),.d (.v (.slice none 0 0)),.row 2 9 0 (q).length,.d (.arr 1 ((t.points).map vI)),.d (vI t.Q8),.d (vI t.O8)]),C3p q]⟩,lS,.vw (κ:=[0,1,5]) (vK (.cons R R (.cons R R C23)) R),q,(W (rv2+1)),h,R⟩
 intro c
 replace h:=P1 (nL c) h
 refine eN (C1 R (N5 (E4 (E4 ?_))))
 subst hK4
 refine I5 (A6 (qG (B4i tb R R R R R R R R R ?_)))
 obtain⟨rv3,k3,h⟩:=H1 h
 refine A19 (A6d k3) R eK R R ((.cons (.aggL (dL (dL (dL (dL (dL (dL (dL (.cons .nilA (.cons .nilA (.cons (.row R R) (dL (dL (dL .nil)))))))))))))) (.cons .nilA (dL .nil)))) R R (A0 R (Q1 (t:=vI rv3.1) R R R R (Q1 (t:=vI rv3.2) R R R R (A3 R (A3 R (eN (B8 ?_)))))))
 refine W5 (fun zz:Unit=>C58 F t rv rv3=some r) (fun zz:Unit=>⟨[(2,.d (.v (.bool false))),(3,.ref 0 13 0 0),(6,.d (vI rv3.1))],[bx 13 (.agg [.d (.arr 8 ((t.N4).map F6.d)),.d (.arr 2 ((t.P5).map G6.d)),.d (.arr 2 ((t.N6).map E2.d)),.d (.arr 1 ((t.S5).map vS)),.d (.arr 6 ((t.J3).map D1.d)),.d (vI t.Q7),.d (vI t.T9),.d (.v (.slice none 0 0)),.d (.v (.slice none 0 0)),.row 1 9 0 (rv).length,.d (.arr 1 ((t.points).map vI)),.d (vI t.Q8),.d (vI t.O8)]),C3p rv]⟩) ?_ ?_
 ·clear h
  rintro⟨⟩ h
  rw[C58]at h
  refine qG (A3 R (A3 R (eN (B8 (qG (A3 R (eN (E3 ?_))))))))
  refine SW.own (ts':=[(2,.d (.v (.bool false))),(3,.ref 0 13 0 0),(6,.d (vI rv3.1)),(8,.row 2 1 0 (([]:List Int)).length),(9,.d (.v (.slice none 0 0))),(10,.d (vI 0))]) (L':=[bx 13 (.agg [.d (.arr 8 ((t.N4).map F6.d)),.d (.arr 2 ((t.P5).map G6.d)),.d (.arr 2 ((t.N6).map E2.d)),.d (.arr 1 ((t.S5).map vS)),.d (.arr 6 ((t.J3).map D1.d)),.d (vI t.Q7),.d (vI t.T9),.d (.v (.slice none 0 0)),.d (.v (.slice none 0 0)),.row 1 9 0 (rv).length,.d (.arr 1 ((t.points).map vI)),.d (vI t.Q8),.d (vI t.O8)]),C3p rv]) 1 R R (.cons (.same _) (.cons (.same _) (.cons (.same _) (.cons .nil (.cons (.same _) (.cons (.same _) .nil)))))) (.same (.same .nil)) ?_
  simp only[List.cons_append,List.nil_append]
  refine SW.own (ts':=[(2,.d (.v (.bool false))),(3,.ref 0 13 0 0),(6,.d (vI rv3.1)),(8,.row 2 1 0 (([]:List Int)).length),(9,.row 3 1 0 (([]:List Int)).length),(10,.d (vI 0))]) (L':=[bx 13 (.agg [.d (.arr 8 ((t.N4).map F6.d)),.d (.arr 2 ((t.P5).map G6.d)),.d (.arr 2 ((t.N6).map E2.d)),.d (.arr 1 ((t.S5).map vS)),.d (.arr 6 ((t.J3).map D1.d)),.d (vI t.Q7),.d (vI t.T9),.d (.v (.slice none 0 0)),.d (.v (.slice none 0 0)),.row 1 9 0 (rv).length,.d (.arr 1 ((t.points).map vI)),.d (vI t.Q8),.d (vI t.O8)]),C3p rv,B0u ([]:List Int)]) 1 R R (.cons (.same _) (.cons (.same _) (.cons (.same _) (.cons (.same _) (.cons .nil (.cons (.same _) .nil)))))) (.same (.same (.same .nil))) ?_
  simp only[List.cons_append,List.nil_append]
  obtain⟨K21,hK21,h⟩:∃ K,K=_∧C32 F rv rv3 K F ([]:List Int) ([]:List Int) 0=some r:=⟨_,rfl,h⟩
  refine M2 (fun m st=>∃ (lv:(List Int)) (lv2:(List Int)) (x:Int),C32 F rv rv3 K21 m lv lv2 x=some r∧st=⟨[(2,.d (.v (.bool false))),(3,.ref 0 13 0 0),(6,.d (vI rv3.1)),(8,.row 2 1 0 (lv).length),(9,.row 3 1 0 (lv2).length),(10,.d (vI x))],[bx 13 (.agg [.d (.arr 8 ((t.N4).map F6.d)),.d (.arr 2 ((t.P5).map G6.d)),.d (.arr 2 ((t.N6).map E2.d)),.d (.arr 1 ((t.S5).map vS)),.d (.arr 6 ((t.J3).map D1.d)),.d (vI t.Q7),.d (vI t.T9),.d (.v (.slice none 0 0)),.d (.v (.slice none 0 0)),.row 1 9 0 (rv).length,.d (.arr 1 ((t.points).map vI)),.d (vI t.Q8),.d (vI t.O8)]),C3p rv,B0u lv,B0u lv2]⟩) (.prn [2,3,6,8,9,10] R) ⟨([]:List Int),([]:List Int),0,h,R⟩ ?_
  clear h
  rintro m21 st ⟨lv,lv2,x,h,rfl⟩
  cases m21 with
  | zero=>cases(show(none:Option Bool)=some r from h)
  | succ m21 =>
  rw[C32]at h
  refine B8 (qG (A0 R (C8 tb R (W4 tb R R R R R R R R R (A8F tb R R R R R ?_)))))
  refine Q4 R R R R ?_ ?_
  ·intro c5
   replace h:=J7 c5 h
   refine eN (C0 R (D7 (A6 (B8 (E3 (qG (C8 tb R (W4 tb R R R R R R R R R (A0 R ?_)))))))))
   obtain⟨e2,ie2,h⟩:=H1 h
   refine Y1 tb R R R R R R (F0 ie2) (ix1 ie2) R R ?_
   refine A15 (y:=E0.d e2) tb R R R R (U5 (g:=fun a=>T.d (E0.d a)) ie2) R R R R ?_
   refine M5 tb R R R R R ?_
   refine I6 _ ([bx 13 (.agg [.d (.arr 8 ((t.N4).map F6.d)),.d (.arr 2 ((t.P5).map G6.d)),.d (.arr 2 ((t.N6).map E2.d)),.d (.arr 1 ((t.S5).map vS)),.d (.arr 6 ((t.J3).map D1.d)),.d (vI t.Q7),.d (vI t.T9),.d (.v (.slice none 0 0)),.d (.v (.slice none 0 0)),.row 1 9 0 (rv).length,.d (.arr 1 ((t.points).map vI)),.d (vI t.Q8),.d (vI t.O8)]),C3p rv,B0u lv,B0u lv2,bx 9 (.d (E0.d e2))]) tb R (eN ?_)
   refine qG (A3 R (eN (B8 (qG (A3 R (eN (E3 ?_)))))))
   obtain⟨K25,hK25,h⟩:∃ K,K=_∧C4J F lv2 x e2 K F 0 0=some r:=⟨_,rfl,h⟩
   refine M2 (fun m st=>∃ (x2:Int) (x3:Int),C4J F lv2 x e2 K25 m x2 x3=some r∧st=⟨[(2,.d (.v (.bool false))),(3,.ref 0 13 0 0),(6,.d (vI rv3.1)),(8,.row 2 1 0 (lv).length),(9,.row 3 1 0 (lv2).length),(10,.d (vI x)),(11,.ref 4 9 0 0),(12,.d (vI x2)),(13,.d (vI x3))],[bx 13 (.agg [.d (.arr 8 ((t.N4).map F6.d)),.d (.arr 2 ((t.P5).map G6.d)),.d (.arr 2 ((t.N6).map E2.d)),.d (.arr 1 ((t.S5).map vS)),.d (.arr 6 ((t.J3).map D1.d)),.d (vI t.Q7),.d (vI t.T9),.d (.v (.slice none 0 0)),.d (.v (.slice none 0 0)),.row 1 9 0 (rv).length,.d (.arr 1 ((t.points).map vI)),.d (vI t.Q8),.d (vI t.O8)]),C3p rv,B0u lv,B0u lv2,bx 9 (.d (E0.d e2))]⟩) (.prn [2,3,6,8,9,10,11,12,13] R) ⟨0,0,h,R⟩ ?_
   clear h
   rintro m25 st ⟨x2,x3,h,rfl⟩
   cases m25 with
   | zero=>cases(show(none:Option Bool)=some r from h)
   | succ m25 =>
   rw[C4J]at h
   refine B8 (qG (A0 R (C8 tb R (B5 (y := .arr 1 ((e2.need).map vI)) tb R (I7 tb R ?_)))))
   refine Q4 R R R R ?_ ?_
   ·intro c6
    replace h:=J7 c6 h
    refine eN (C0 R (D7 (A6 (B8 (E3 (B8 (qG (C8 tb R (B5 (y := .arr 1 ((e2.need).map vI)) tb R (A0 R ?_))))))))))
    obtain⟨e3,ie3,h⟩:=H1 h
    refine N8 tb (F0 ie3) (V1 ie3) R (I4 (y:=vI e3) tb (U5 (g:=vI) ie3) R ?_)
    refine Q4 R R R R ?_ ?_
    ·intro c7
     replace h:=J7 c7 h
     refine A0 R (L9 7 R (D6 R (eN (C0 R (qG (A3 R (eN (C9 (B2 (C4 (B2 (B2 (C4 (B2 (C4 (B2 (B2 (C4 (B2 ?_)))))))))))))))))))
     obtain rfl:=sI h
     exact f1 2 R
    intro c7
    replace h:=P1 (nL c7) h
    refine A0 R (C8 tb R (B5 (y := .arr 1 ((e2.need).map vI)) tb R (A0 R (N8 tb (F0 ie3) (V1 ie3) R (I4 (y:=vI e3) tb (U5 (g:=vI) ie3) R (A0 R ?_))))))
    refine A7I R R R R ?_ ?_
    ·intro c8
     replace h:=J7 c8 h
     refine D0 R (eN (C0 R (qG (A3 R (eN (C9 (B2 (C4 (B2 (B2 (C4 (B2 (C4 (B2 (B2 (C4 (B2 ?_)))))))))))))))))
     obtain rfl:=sI h
     exact f1 2 R
    intro c8
    replace h:=P1 (Int.not_le.2 c8) h
    refine D0 R (eN (C1 R (D7 (A6 (J1 (A0 R (A0T R R R (C8 tb R (B5 (y := .arr 1 ((e2.need).map vI)) tb R (A0 R (N8 tb (F0 ie3) (V1 ie3) R (I4 (y:=vI e3) tb (U5 (g:=vI) ie3) R ?_))))))))))))
    obtain⟨e4,ie4,h⟩:=H1 h
    refine Y1 tb R R R R R R (F0 ie4) (ix1 ie4) R R ?_
    refine A15 (y:=vI e4) tb R R R R (U5 (g:=fun a=>T.d (vI a)) ie4) R R R R ?_
    refine B3f R R R R (A3 R (Y9 (D3 (A6 (J1 (A0 R (O1 R (A3 R (eN ?_)))))))))
    exact⟨m25,_,lS,.prn [2,3,6,8,9,10,11,12,13] R,(max x2 e4),(W (x3+1)),h,R⟩
   intro c6
   replace h:=P1 (nL c6) h
   refine eN (C1 R (N5 (E4 (E4 ?_))))
   subst hK25
   refine I5 (A6 (B8 ?_))
   refine W5 (fun zz:Int=>C3E F (C32 F rv rv3 K21 m21) lv lv2 x e2 zz=some r) (fun zz:Int=>⟨[(2,.d (.v (.bool false))),(3,.ref 0 13 0 0),(6,.d (vI rv3.1)),(8,.row 2 1 0 (lv).length),(9,.row 3 1 0 (lv2).length),(10,.d (vI x)),(11,.ref 4 9 0 0),(12,.d (vI zz))],[bx 13 (.agg [.d (.arr 8 ((t.N4).map F6.d)),.d (.arr 2 ((t.P5).map G6.d)),.d (.arr 2 ((t.N6).map E2.d)),.d (.arr 1 ((t.S5).map vS)),.d (.arr 6 ((t.J3).map D1.d)),.d (vI t.Q7),.d (vI t.T9),.d (.v (.slice none 0 0)),.d (.v (.slice none 0 0)),.row 1 9 0 (rv).length,.d (.arr 1 ((t.points).map vI)),.d (vI t.Q8),.d (vI t.O8)]),C3p rv,B0u lv,B0u lv2,bx 9 (.d (E0.d e2))]⟩) ?_ ?_
   ·clear h
    rintro x4 h
    rw[C3E]at h
    refine T1 kR (A0T R R R (A0 R (P7 tb R R R R R R R R R R R R R ?_)))
    obtain⟨q2,iq2,h⟩:=H1 h
    refine B2k (g:=vI) (w:=lv) (v:=[x4]) ([bx 13 (.agg [.d (.arr 8 ((t.N4).map F6.d)),.d (.arr 2 ((t.P5).map G6.d)),.d (.arr 2 ((t.N6).map E2.d)),.d (.arr 1 ((t.S5).map vS)),.d (.arr 6 ((t.J3).map D1.d)),.d (vI t.Q7),.d (vI t.T9),.d (.v (.slice none 0 0)),.d (.v (.slice none 0 0)),.row 1 9 0 (rv).length,.d (.arr 1 ((t.points).map vI)),.d (vI t.Q8),.d (vI t.O8)]),C3p rv,none,B0u lv2,bx 9 (.d (E0.d e2)),B0u [x4]]) tb R R R R R R R R R R R iq2 R R R R R ?_
    refine A0T R R R (A0 R (C8 tb R (B5 (y:=vI e2.least) tb R (O1 R (P7 tb R R R R R R R R R R R R R ?_)))))
    obtain⟨q3,iq3,h⟩:=H1 h
    refine B2k (g:=vI) (w:=lv2) (v:=[(W (x4+e2.least))]) ([bx 13 (.agg [.d (.arr 8 ((t.N4).map F6.d)),.d (.arr 2 ((t.P5).map G6.d)),.d (.arr 2 ((t.N6).map E2.d)),.d (.arr 1 ((t.S5).map vS)),.d (.arr 6 ((t.J3).map D1.d)),.d (vI t.Q7),.d (vI t.T9),.d (.v (.slice none 0 0)),.d (.v (.slice none 0 0)),.row 1 9 0 (rv).length,.d (.arr 1 ((t.points).map vI)),.d (vI t.Q8),.d (vI t.O8)]),C3p rv,none,none,bx 9 (.d (E0.d e2)),B0u [x4],B0u q2,B0u [(W (x4+e2.least))]]) tb R R R R R R R R R R R iq3 R R R R R ?_
    refine A14 R R R (A14 R R R (I0 kR (D3 (A6 (J1 (A0 R (O1 R (A3 R (eN ?_)))))))))
    exact⟨m21,⟨[(2,.d (.v (.bool false))),(3,.ref 0 13 0 0),(6,.d (vI rv3.1)),(8,.row 2 1 0 (q2).length),(9,.row 3 1 0 (q3).length),(10,.d (vI (W (x+1))))],[bx 13 (.agg [.d (.arr 8 ((t.N4).map F6.d)),.d (.arr 2 ((t.P5).map G6.d)),.d (.arr 2 ((t.N6).map E2.d)),.d (.arr 1 ((t.S5).map vS)),.d (.arr 6 ((t.J3).map D1.d)),.d (vI t.Q7),.d (vI t.T9),.d (.v (.slice none 0 0)),.d (.v (.slice none 0 0)),.row 1 9 0 (rv).length,.d (.arr 1 ((t.points).map vI)),.d (vI t.Q8),.d (vI t.O8)]),C3p rv,B0u q2,B0u q3]⟩,lS,.vw (κ:=[0,1,6,8]) (vK (.cons R R C1o) R),q2,q3,(W (x+1)),h,R⟩
   refine qG (A0 R (C8 tb R (W4 tb R R R R R R R R R (A8F tb R R R R R (A1n R R R R ?_)))))
   refine Z3 R R R R ?_ ?_
   ·intro c9
    replace h:=J7 c9 h
    refine eN (C0 R (J1 (A0 R (A0 R (C8 tb R (B5 (y:=vI e2.least) tb R (A1n R R R R (B3f R R R R (A3 R (eN ?_))))))))))
    exact .inl ⟨(max x2 (W (rv3.1-e2.least))),h,.prn [2,3,6,8,9,10,11,12] R⟩
   intro c9
   replace h:=P1 c9 h
   refine eN (C1 R (D7 (A6 ?_)))
   exact .inl ⟨x2,h,.prn [2,3,6,8,9,10,11,12] R⟩
  intro c5
  replace h:=P1 (nL c5) h
  refine eN (C1 R (N5 (E4 (E4 ?_))))
  subst hK21
  refine I5 (A6 (qG (A3 R (eN (B8 (T1 kR (C8 tb R (W4 tb R R R R R R R R R (A8F tb R R R R R ?_)))))))))
  obtain⟨q4,iq4,h⟩:=H1 h
  refine B00 (v:=false) (g:=vB) tb R R R R R R R ((A6i iq4).1) ((A6i iq4).2) R R R R (C8 tb R (W4 tb R R R R R R R R R (A8F tb R R R R R (B00 (v:=false) (g:=vB) tb R R R R R R R ((A6i iq4).1) ((A6i iq4).2) R R R R (A14 R R R (A14 R R R (I0 kR (A6 (B8 (E3 ?_))))))))))
  refine SW.own (ts':=[(2,.d (.v (.bool false))),(3,.ref 0 13 0 0),(6,.d (vI rv3.1)),(8,.row 2 1 0 (lv).length),(9,.row 3 1 0 (lv2).length),(14,.row 6 8 0 (([]:List C7)).length),(15,.row 4 1 0 ((List.replicate q4 false)).length),(16,.row 5 1 0 ((List.replicate q4 false)).length)]) (L':=[bx 13 (.agg [.d (.arr 8 ((t.N4).map F6.d)),.d (.arr 2 ((t.P5).map G6.d)),.d (.arr 2 ((t.N6).map E2.d)),.d (.arr 1 ((t.S5).map vS)),.d (.arr 6 ((t.J3).map D1.d)),.d (vI t.Q7),.d (vI t.T9),.d (.v (.slice none 0 0)),.d (.v (.slice none 0 0)),.row 1 9 0 (rv).length,.d (.arr 1 ((t.points).map vI)),.d (vI t.Q8),.d (vI t.O8)]),C3p rv,B0u lv,B0u lv2,B9r (List.replicate q4 false),B9r (List.replicate q4 false)]) 8 R R (.cons (.same _) (.cons (.same _) (.cons (.same _) (.cons (.same _) (.cons (.same _) (.cons .nil (.cons (.same _) (.cons (.same _) .nil)))))))) (.same (.same (.same (.same (.same (.same .nil)))))) ?_
  simp only[List.cons_append,List.nil_append]
  obtain⟨K66,hK66,h⟩:∃ K,K=_∧C35 F rv lv lv2 K F ([]:List C7) (List.replicate q4 false) (List.replicate q4 false)=some r:=⟨_,rfl,h⟩
  refine M2 (st0:=⟨[(2,.d (.v (.bool false))),(3,.ref 0 13 0 0),(6,.d (vI rv3.1)),(8,.row 2 1 0 (lv).length),(9,.row 3 1 0 (lv2).length),(14,.row 4 8 0 (([]:List C7)).length),(15,.row 5 1 0 ((List.replicate q4 false)).length),(16,.row 6 1 0 ((List.replicate q4 false)).length)],[bx 13 (.agg [.d (.arr 8 ((t.N4).map F6.d)),.d (.arr 2 ((t.P5).map G6.d)),.d (.arr 2 ((t.N6).map E2.d)),.d (.arr 1 ((t.S5).map vS)),.d (.arr 6 ((t.J3).map D1.d)),.d (vI t.Q7),.d (vI t.T9),.d (.v (.slice none 0 0)),.d (.v (.slice none 0 0)),.row 1 9 0 (rv).length,.d (.arr 1 ((t.points).map vI)),.d (vI t.Q8),.d (vI t.O8)]),C3p rv,B0u lv,B0u lv2,C3n ([]:List C7),B9r (List.replicate q4 false),B9r (List.replicate q4 false)]⟩) (fun m st=>∃ (lv3:(List C7)) (lv4:(List Bool)) (lv5:(List Bool)),C35 F rv lv lv2 K66 m lv3 lv4 lv5=some r∧st=⟨[(2,.d (.v (.bool false))),(3,.ref 0 13 0 0),(6,.d (vI rv3.1)),(8,.row 2 1 0 (lv).length),(9,.row 3 1 0 (lv2).length),(14,.row 4 8 0 (lv3).length),(15,.row 5 1 0 (lv4).length),(16,.row 6 1 0 (lv5).length)],[bx 13 (.agg [.d (.arr 8 ((t.N4).map F6.d)),.d (.arr 2 ((t.P5).map G6.d)),.d (.arr 2 ((t.N6).map E2.d)),.d (.arr 1 ((t.S5).map vS)),.d (.arr 6 ((t.J3).map D1.d)),.d (vI t.Q7),.d (vI t.T9),.d (.v (.slice none 0 0)),.d (.v (.slice none 0 0)),.row 1 9 0 (rv).length,.d (.arr 1 ((t.points).map vI)),.d (vI t.Q8),.d (vI t.O8)]),C3p rv,B0u lv,B0u lv2,C3n lv3,B9r lv4,B9r lv5]⟩) (.vw (κ:=[0,1,2,3,6,4,5]) (vK (.cons R R C38) R)) ⟨([]:List C7),(List.replicate q4 false),(List.replicate q4 false),h,R⟩ ?_
  clear h
  rintro m66 st ⟨lv3,lv4,lv5,h,rfl⟩
  cases m66 with
  | zero=>cases(show(none:Option Bool)=some r from h)
  | succ m66 =>
  rw[C35]at h
  refine B8 (qG (A0T R R R (A8F tb R R R R R (C8 tb R (W4 tb R R R R R R R R R (A8F tb R R R R R (A5Q R R R R ?_)))))))
  refine Q4 R R R R ?_ ?_
  ·intro c10
   replace h:=J7 c10 h
   refine eN (C0 R (D7 (A6 (E3 (qG (A3 R (A3 R (A3 R (eN (B8 (qG (A3 R (eN (E3 ?_))))))))))))))
   obtain⟨K72,hK72,h⟩:∃ K,K=_∧C3w F rv lv lv2 lv3 lv4 lv5 K F (-1) 0 0 0=some r:=⟨_,rfl,h⟩
   refine M2 (fun m st=>∃ (x5:Int) (x6:Int) (x7:Int) (x8:Int),C3w F rv lv lv2 lv3 lv4 lv5 K72 m x5 x6 x7 x8=some r∧st=⟨[(2,.d (.v (.bool false))),(3,.ref 0 13 0 0),(6,.d (vI rv3.1)),(8,.row 2 1 0 (lv).length),(9,.row 3 1 0 (lv2).length),(14,.row 4 8 0 (lv3).length),(15,.row 5 1 0 (lv4).length),(16,.row 6 1 0 (lv5).length),(17,.d (vI x5)),(18,.d (vI x6)),(19,.d (vI x7)),(20,.d (vI x8))],[bx 13 (.agg [.d (.arr 8 ((t.N4).map F6.d)),.d (.arr 2 ((t.P5).map G6.d)),.d (.arr 2 ((t.N6).map E2.d)),.d (.arr 1 ((t.S5).map vS)),.d (.arr 6 ((t.J3).map D1.d)),.d (vI t.Q7),.d (vI t.T9),.d (.v (.slice none 0 0)),.d (.v (.slice none 0 0)),.row 1 9 0 (rv).length,.d (.arr 1 ((t.points).map vI)),.d (vI t.Q8),.d (vI t.O8)]),C3p rv,B0u lv,B0u lv2,C3n lv3,B9r lv4,B9r lv5]⟩) (.prn [2,3,6,8,9,14,15,16,17,18,19,20] R) ⟨(-1),0,0,0,h,R⟩ ?_
   clear h
   rintro m72 st ⟨x5,x6,x7,x8,h,rfl⟩
   cases m72 with
   | zero=>cases(show(none:Option Bool)=some r from h)
   | succ m72 =>
   rw[C3w]at h
   refine B8 (qG (A0 R (C8 tb R (W4 tb R R R R R R R R R (A8F tb R R R R R ?_)))))
   refine Q4 R R R R ?_ ?_
   ·intro c11
    replace h:=J7 c11 h
    refine eN (C0 R (D7 (A6 (B8 ?_))))
    refine W5 (fun zz:Int × Int × Int=>C3v F (C3w F rv lv lv2 lv3 lv4 lv5 K72 m72) x8 zz.1 zz.2.1 zz.2.2=some r) (fun zz:Int × Int × Int=>⟨[(2,.d (.v (.bool false))),(3,.ref 0 13 0 0),(6,.d (vI rv3.1)),(8,.row 2 1 0 (lv).length),(9,.row 3 1 0 (lv2).length),(14,.row 4 8 0 (lv3).length),(15,.row 5 1 0 (lv4).length),(16,.row 6 1 0 (lv5).length),(17,.d (vI zz.1)),(18,.d (vI zz.2.1)),(19,.d (vI zz.2.2)),(20,.d (vI x8))],[bx 13 (.agg [.d (.arr 8 ((t.N4).map F6.d)),.d (.arr 2 ((t.P5).map G6.d)),.d (.arr 2 ((t.N6).map E2.d)),.d (.arr 1 ((t.S5).map vS)),.d (.arr 6 ((t.J3).map D1.d)),.d (vI t.Q7),.d (vI t.T9),.d (.v (.slice none 0 0)),.d (.v (.slice none 0 0)),.row 1 9 0 (rv).length,.d (.arr 1 ((t.points).map vI)),.d (vI t.Q8),.d (vI t.O8)]),C3p rv,B0u lv,B0u lv2,C3n lv3,B9r lv4,B9r lv5]⟩) ?_ ?_
    ·clear h
     rintro⟨x13,x14,x15⟩ h
     dsimp only at h ⊢
     rw[C3v]at h
     refine J1 (A0 R (O1 R (A3 R (eN ?_))))
     exact⟨m72,_,lS,.prn [2,3,6,8,9,14,15,16,17,18,19,20] R,x13,x14,x15,(W (x8+1)),h,R⟩
    refine E3 (B8 (T1 kR (A0T R R R (A0 R ?_))))
    obtain⟨e5,ie5,h⟩:=H1 h
    refine Y1 tb R R R R R R (F0 ie5) (ix1 ie5) R R ?_
    refine A15 (y:=vI e5) tb R R R R (U5 (g:=fun a=>T.d (vI a)) ie5) R R R R ?_
    refine A3 R (A3 R (I0 kR (A6 (B8 ?_))))
    refine W5 (fun zz:Int × Int=>C5v F (C3w F rv lv lv2 lv3 lv4 lv5 K72 m72) rv lv3 lv5 x5 x6 x7 x8 zz.1 zz.2=some r) (fun zz:Int × Int=>⟨[(2,.d (.v (.bool false))),(3,.ref 0 13 0 0),(6,.d (vI rv3.1)),(8,.row 2 1 0 (lv).length),(9,.row 3 1 0 (lv2).length),(14,.row 4 8 0 (lv3).length),(15,.row 5 1 0 (lv4).length),(16,.row 6 1 0 (lv5).length),(17,.d (vI x5)),(18,.d (vI x6)),(19,.d (vI x7)),(20,.d (vI x8)),(21,.d (vI zz.1)),(22,.d (vI zz.2))],[bx 13 (.agg [.d (.arr 8 ((t.N4).map F6.d)),.d (.arr 2 ((t.P5).map G6.d)),.d (.arr 2 ((t.N6).map E2.d)),.d (.arr 1 ((t.S5).map vS)),.d (.arr 6 ((t.J3).map D1.d)),.d (vI t.Q7),.d (vI t.T9),.d (.v (.slice none 0 0)),.d (.v (.slice none 0 0)),.row 1 9 0 (rv).length,.d (.arr 1 ((t.points).map vI)),.d (vI t.Q8),.d (vI t.O8)]),C3p rv,B0u lv,B0u lv2,C3n lv3,B9r lv4,B9r lv5]⟩) ?_ ?_
    ·clear h
     rintro⟨x9,x10⟩ h
     dsimp only at h ⊢
     rw[C5v]at h
     refine qG (A3 R (eN (B8 (qG (A3 R (eN (E3 ?_)))))))
     obtain⟨K76,hK76,h⟩:∃ K,K=_∧C4d F rv lv5 x8 K F true 0=some r:=⟨_,rfl,h⟩
     refine M2 (fun m st=>∃ (x11:Bool) (x12:Int),C4d F rv lv5 x8 K76 m x11 x12=some r∧st=⟨[(2,.d (.v (.bool false))),(3,.ref 0 13 0 0),(6,.d (vI rv3.1)),(8,.row 2 1 0 (lv).length),(9,.row 3 1 0 (lv2).length),(14,.row 4 8 0 (lv3).length),(15,.row 5 1 0 (lv4).length),(16,.row 6 1 0 (lv5).length),(17,.d (vI x5)),(18,.d (vI x6)),(19,.d (vI x7)),(20,.d (vI x8)),(21,.d (vI x9)),(22,.d (vI x10)),(23,.d (.v (.bool x11))),(24,.d (vI x12))],[bx 13 (.agg [.d (.arr 8 ((t.N4).map F6.d)),.d (.arr 2 ((t.P5).map G6.d)),.d (.arr 2 ((t.N6).map E2.d)),.d (.arr 1 ((t.S5).map vS)),.d (.arr 6 ((t.J3).map D1.d)),.d (vI t.Q7),.d (vI t.T9),.d (.v (.slice none 0 0)),.d (.v (.slice none 0 0)),.row 1 9 0 (rv).length,.d (.arr 1 ((t.points).map vI)),.d (vI t.Q8),.d (vI t.O8)]),C3p rv,B0u lv,B0u lv2,C3n lv3,B9r lv4,B9r lv5]⟩) (.prn [2,3,6,8,9,14,15,16,17,18,19,20,21,22,23,24] R) ⟨true,0,h,R⟩ ?_
     clear h
     rintro m76 st ⟨x11,x12,h,rfl⟩
     cases m76 with
     | zero=>cases(show(none:Option Bool)=some r from h)
     | succ m76 =>
     rw[C4d]at h
     refine B8 (qG (A0 R (C8 tb R (W4 tb R R R R R R R R R (A0 R ?_)))))
     obtain⟨e8,ie8,h⟩:=H1 h
     refine Y1 tb R R R R R R (F0 ie8) (ix1 ie8) R R (C8 tb R ?_)
     refine A15 (y := .arr 1 ((e8.need).map vI)) tb R R R R (U5 (g:=fun a=>T.d (E0.d a)) ie8) R R R R ?_
     refine I7 tb R ?_
     refine Q4 R R R R ?_ ?_
     ·intro c13
      replace h:=J7 c13 h
      refine eN (C0 R (D7 (A6 (B8 (E3 (J1 (A0 R ?_)))))))
      with_reducible apply X8
      ·intro c14
       replace h:=J7 c14 h
       refine A0 R (A0T R R R (C8 tb R (W4 tb R R R R R R R R R (A0 R (Y1 tb R R R R R R (F0 ie8) (ix1 ie8) R R (C8 tb R ?_))))))
       refine A15 (y := .arr 1 ((e8.need).map vI)) tb R R R R (U5 (g:=fun a=>T.d (E0.d a)) ie8) R R R R ?_
       refine A0 R ?_
       obtain⟨e9,ie9,h⟩:=H1 h
       refine N8 tb (F0 ie9) (V1 ie9) R (I4 (y:=vI e9) tb (U5 (g:=vI) ie9) R ?_)
       obtain⟨e10,ie10,h⟩:=H1 h
       refine Y1 tb R R R R R R (F0 ie10) (ix1 ie10) R R ?_
       refine A15 (y := .v (.bool e10)) tb R R R R (U5 (g:=fun a=>T.d (vB a)) ie10) R R R R ?_
       with_reducible apply X8
       ·intro c15
        replace h:=J7 c15 h
        refine D6 R (A3 R (Y9 (D3 (A6 (J1 (A0 R (O1 R (A3 R (eN ?_)))))))))
        exact⟨m76,_,lS,.prn [2,3,6,8,9,14,15,16,17,18,19,20,21,22,23,24] R,true,(W (x12+1)),h,R⟩
       intro c15
       replace h:=ifF c15 h
       refine D6 R (A3 R (Y9 (D3 (A6 (J1 (A0 R (O1 R (A3 R (eN ?_)))))))))
       exact⟨m76,_,lS,.prn [2,3,6,8,9,14,15,16,17,18,19,20,21,22,23,24] R,false,(W (x12+1)),h,R⟩
      intro c14
      replace h:=ifF c14 h
      refine A0 R (L9 12 R (D0 R (A3 R (Y9 (D3 (A6 (J1 (A0 R (O1 R (A3 R (eN ?_)))))))))))
      exact⟨m76,_,lS,.prn [2,3,6,8,9,14,15,16,17,18,19,20,21,22,23,24] R,false,(W (x12+1)),h,R⟩
     intro c13
     replace h:=P1 (nL c13) h
     refine eN (C1 R (N5 (E4 (E4 ?_))))
     subst hK76
     refine I5 (A6 (B8 ?_))
     refine W5 (fun zz:Unit=>C3M F (C3w F rv lv lv2 lv3 lv4 lv5 K72 m72) x5 x6 x7 x8 x9 x10=some r) (fun zz:Unit=>⟨[(2,.d (.v (.bool false))),(3,.ref 0 13 0 0),(6,.d (vI rv3.1)),(8,.row 2 1 0 (lv).length),(9,.row 3 1 0 (lv2).length),(14,.row 4 8 0 (lv3).length),(15,.row 5 1 0 (lv4).length),(16,.row 6 1 0 (lv5).length),(17,.d (vI x5)),(18,.d (vI x6)),(19,.d (vI x7)),(20,.d (vI x8)),(21,.d (vI x9)),(22,.d (vI x10))],[bx 13 (.agg [.d (.arr 8 ((t.N4).map F6.d)),.d (.arr 2 ((t.P5).map G6.d)),.d (.arr 2 ((t.N6).map E2.d)),.d (.arr 1 ((t.S5).map vS)),.d (.arr 6 ((t.J3).map D1.d)),.d (vI t.Q7),.d (vI t.T9),.d (.v (.slice none 0 0)),.d (.v (.slice none 0 0)),.row 1 9 0 (rv).length,.d (.arr 1 ((t.points).map vI)),.d (vI t.Q8),.d (vI t.O8)]),C3p rv,B0u lv,B0u lv2,C3n lv3,B9r lv4,B9r lv5]⟩) ?_ ?_
     ·clear h
      rintro⟨⟩ h
      rw[C3M]at h
      refine qG (A0 R ?_)
      refine Q4 R R R R ?_ ?_
      ·intro c20
       replace h:=J7 c20 h
       refine A0 R (L9 3 R (D6 R (eN (C0 R (J1 (A0 R (A0 R (A0 R (A3 R (A3 R (A3 R (Y9 (D3 (A6 ?_))))))))))))))
       exact .inl ⟨(x8,x9,x10),h,.prn [2,3,6,8,9,14,15,16,17,18,19,20] R⟩
      intro c20
      replace h:=P1 (nL c20) h
      refine A0 R (A0 R (A0 R ?_))
      refine Q4 R R R R ?_ ?_
      ·intro c21
       replace h:=J7 c21 h
       refine D0 R (eN (C0 R (J1 (A0 R (A0 R (A0 R (A3 R (A3 R (A3 R (Y9 (D3 (A6 ?_))))))))))))
       exact .inl ⟨(x8,x9,x10),h,.prn [2,3,6,8,9,14,15,16,17,18,19,20] R⟩
      intro c21
      replace h:=P1 (nL c21) h
      refine D0 R (eN (C1 R (D7 (D3 (A6 ?_)))))
      exact .inl ⟨(x5,x6,x7),h,.prn [2,3,6,8,9,14,15,16,17,18,19,20] R⟩
     refine qG (A0T R R R (A0 R ?_))
     obtain⟨e11,ie11,h⟩:=H1 h
     refine Y1 tb R R R R R R (F0 ie11) (ix1 ie11) R R ?_
     refine A15 (y := .v (.bool e11)) tb R R R R (U5 (g:=fun a=>T.d (vB a)) ie11) R R R R ?_
     with_reducible apply X8
     ·intro c16
      replace h:=J7 c16 h
      refine A0 R (L9 2 R (D6 R (A0 R (L9 16 R (D6 R (eN (C0 R (N5 (E4 (I5 (A6 ?_)))))))))))
      exact .inl ⟨(x5,x6,x7),h,.prn [2,3,6,8,9,14,15,16,17,18,19,20] R⟩
     intro c16
     replace h:=ifF c16 h
     refine A0 R (A0 R ?_)
     with_reducible apply X8
     ·intro c17
      replace h:=J7 c17 h
      refine A0a R R R (D0 R (A0 R (A0 R (C8 tb R (W4 tb R R R R R R R R R (A8F tb R R R R R (A1n R R R R ?_)))))))
      refine Z3 R R R R ?_ ?_
      ·intro c18
       replace h:=J7 c18 h
       refine A0 R (A0T R R R (A8F tb R R R R R (C8 tb R (W4 tb R R R R R R R R R (A8F tb R R R R R (A5Q R R R R (A1n R R R R ?_)))))))
       refine Q4 R R R R ?_ ?_
       ·intro c19
        replace h:=J7 c19 h
        refine D6 R (D0 R (eN (C0 R (N5 (E4 (I5 (A6 ?_)))))))
        exact .inl ⟨(x5,x6,x7),h,.prn [2,3,6,8,9,14,15,16,17,18,19,20] R⟩
       intro c19
       replace h:=P1 (nL c19) h
       refine D6 R (D0 R (eN (C1 R (D7 (A6 ?_)))))
       exact .inl ⟨(),h,.prn [2,3,6,8,9,14,15,16,17,18,19,20,21,22] R⟩
      intro c18
      replace h:=P1 c18 h
      refine A0 R (L9 8 R (D0 R (D0 R (eN (C1 R (D7 (A6 ?_)))))))
      exact .inl ⟨(),h,.prn [2,3,6,8,9,14,15,16,17,18,19,20,21,22] R⟩
     intro c17
     replace h:=ifF c17 h
     refine Z9 R R R (D0 R (A0 R (L9 16 R (D6 R (eN (C0 R (N5 (E4 (I5 (A6 ?_))))))))))
     exact .inl ⟨(x5,x6,x7),h,.prn [2,3,6,8,9,14,15,16,17,18,19,20] R⟩
    refine qG (A0T R R R (A0 R ?_))
    obtain⟨e6,ie6,h⟩:=H1 h
    refine Y1 tb R R R R R R (F0 ie6) (ix1 ie6) R R ?_
    refine A15 (y := .v (.bool e6)) tb R R R R (U5 (g:=fun a=>T.d (vB a)) ie6) R R R R ?_
    with_reducible apply X8
    ·intro c12
     replace h:=J7 c12 h
     refine eN (C0 R (T1 kR (A0T R R R (A0 R ?_))))
     obtain⟨e7,ie7,h⟩:=H1 h
     refine Y1 tb R R R R R R (F0 ie7) (ix1 ie7) R R ?_
     refine A15 (y:=vI e7) tb R R R R (U5 (g:=fun a=>T.d (vI a)) ie7) R R R R ?_
     refine A3 R (A3 R (I0 kR (A6 ?_)))
     exact .inl ⟨(2,e7),h,.prn [2,3,6,8,9,14,15,16,17,18,19,20,21,22] R⟩
    intro c12
    replace h:=ifF c12 h
    refine eN (C1 R (D7 (A6 ?_)))
    exact .inl ⟨(1,e5),h,.prn [2,3,6,8,9,14,15,16,17,18,19,20,21,22] R⟩
   intro c11
   replace h:=P1 (nL c11) h
   refine eN (C1 R (N5 (E4 (E4 ?_))))
   subst hK72
   refine I5 (A6 (B8 (qG (A0 R ?_))))
   refine Q4 R R R R ?_ ?_
   ·intro c22
    replace h:=J7 c22 h
    refine eN (C0 R (qG ?_))
    obtain⟨rv7,k7,h⟩:=H1 h
    refine J5 (B0R k7) eK R R R R (A3 R (eN (C9 (B2 (C4 (B2 (C4 (B2 ?_))))))))
    obtain rfl:=sI h
    exact f1 2 R
   intro c22
   replace h:=P1 (nL c22) h
   refine eN (C1 R (D7 (A6 (B8 ?_))))
   refine W5 (fun zz:(List Bool) × (List Bool)=>C4v F (C35 F rv lv lv2 K66 m66) lv3 x5 x6 x7 zz.1 zz.2=some r) (fun zz:(List Bool) × (List Bool)=>⟨[(2,.d (.v (.bool false))),(3,.ref 0 13 0 0),(6,.d (vI rv3.1)),(8,.row 2 1 0 (lv).length),(9,.row 3 1 0 (lv2).length),(14,.row 4 8 0 (lv3).length),(15,.row 5 1 0 (zz.1).length),(16,.row 6 1 0 (zz.2).length),(17,.d (vI x5)),(18,.d (vI x6)),(19,.d (vI x7))],[bx 13 (.agg [.d (.arr 8 ((t.N4).map F6.d)),.d (.arr 2 ((t.P5).map G6.d)),.d (.arr 2 ((t.N6).map E2.d)),.d (.arr 1 ((t.S5).map vS)),.d (.arr 6 ((t.J3).map D1.d)),.d (vI t.Q7),.d (vI t.T9),.d (.v (.slice none 0 0)),.d (.v (.slice none 0 0)),.row 1 9 0 (rv).length,.d (.arr 1 ((t.points).map vI)),.d (vI t.Q8),.d (vI t.O8)]),C3p rv,B0u lv,B0u lv2,C3n lv3,B9r zz.1,B9r zz.2]⟩) ?_ ?_
   ·clear h
    rintro⟨lv8,lv9⟩ h
    dsimp only at h ⊢
    rw[C4v]at h
    refine J1 (A0T R R R (A0 R (A0 R (A0 R ?_))))
    obtain⟨rv8,k8,h⟩:=H1 h
    refine J5 (Z5 k8) eK R R R R (P7 tb R R R R R R R R R R R R R ?_)
    obtain⟨q5,iq5,h⟩:=H1 h
    refine B2k (g:=C7.d) (w:=lv3) (v:=[rv8]) ([bx 13 (.agg [.d (.arr 8 ((t.N4).map F6.d)),.d (.arr 2 ((t.P5).map G6.d)),.d (.arr 2 ((t.N6).map E2.d)),.d (.arr 1 ((t.S5).map vS)),.d (.arr 6 ((t.J3).map D1.d)),.d (vI t.Q7),.d (vI t.T9),.d (.v (.slice none 0 0)),.d (.v (.slice none 0 0)),.row 1 9 0 (rv).length,.d (.arr 1 ((t.points).map vI)),.d (vI t.Q8),.d (vI t.O8)]),C3p rv,B0u lv,B0u lv2,none,B9r lv8,B9r lv9,C3n [rv8]]) tb R R R R R R R R R R R iq5 R R R R R ?_
    refine A14 R R R (Y9 (D3 (A6 ?_)))
    exact⟨m66,⟨[(2,.d (.v (.bool false))),(3,.ref 0 13 0 0),(6,.d (vI rv3.1)),(8,.row 2 1 0 (lv).length),(9,.row 3 1 0 (lv2).length),(14,.row 4 8 0 (q5).length),(15,.row 5 1 0 (lv8).length),(16,.row 6 1 0 (lv9).length)],[bx 13 (.agg [.d (.arr 8 ((t.N4).map F6.d)),.d (.arr 2 ((t.P5).map G6.d)),.d (.arr 2 ((t.N6).map E2.d)),.d (.arr 1 ((t.S5).map vS)),.d (.arr 6 ((t.J3).map D1.d)),.d (vI t.Q7),.d (vI t.T9),.d (.v (.slice none 0 0)),.d (.v (.slice none 0 0)),.row 1 9 0 (rv).length,.d (.arr 1 ((t.points).map vI)),.d (vI t.Q8),.d (vI t.O8)]),C3p rv,B0u lv,B0u lv2,C3n q5,B9r lv8,B9r lv9]⟩,lS,.vw (κ:=[0,1,2,3,8,5,6]) (vK (.cons R R C38) R),q5,lv8,lv9,h,R⟩
   refine qG (A0 R ?_)
   refine Z3 R R R R ?_ ?_
   ·intro c23
    replace h:=J7 c23 h
    refine eN (C0 R (J1 (A0T R R R (A0 R ?_))))
    obtain⟨e12,ie12,h⟩:=H1 h
    refine Y1 tb R R R R R R (F0 ie12) (ix1 ie12) R R ?_
    obtain⟨lv6,ilv6,h⟩:=H1 h
    refine A5d (a':=(true:Bool)) tb R R R R ie12 R R R R ilv6 R R ?_
    dsimp only[List.set_cons_zero,List.set_cons_succ,J2,C6,A0h,C5,B4I]
    first | rw[A2a ilv6] | skip
    refine eN ?_
    exact .inl ⟨(lv6,lv5),h,.prn [2,3,6,8,9,14,15,16,17,18,19] R⟩
   intro c23
   replace h:=P1 c23 h
   refine eN (C1 R (J1 (A0T R R R (A0 R ?_))))
   obtain⟨e13,ie13,h⟩:=H1 h
   refine Y1 tb R R R R R R (F0 ie13) (ix1 ie13) R R ?_
   obtain⟨lv7,ilv7,h⟩:=H1 h
   refine A5d (a':=(true:Bool)) tb R R R R ie13 R R R R ilv7 R R ?_
   dsimp only[List.set_cons_zero,List.set_cons_succ,J2,C6,A0h,C5,B4I]
   first | rw[A2a ilv7] | skip
   refine eN ?_
   exact .inl ⟨(lv4,lv7),h,.prn [2,3,6,8,9,14,15,16,17,18,19] R⟩
  intro c10
  replace h:=P1 (nL c10) h
  refine eN (C1 R (N5 (E4 (E4 ?_))))
  subst hK66
  refine I5 (A6 (B8 (qG (A3 R (eN (E3 ?_))))))
  obtain⟨K79,hK79,h⟩:∃ K,K=_∧C4y F lv3 K F 1=some r:=⟨_,rfl,h⟩
  refine M2 (st0:=⟨[(2,.d (.v (.bool false))),(3,.ref 0 13 0 0),(6,.d (vI rv3.1)),(14,.row 2 8 0 (lv3).length),(25,.d (vI 1))],[bx 13 (.agg [.d (.arr 8 ((t.N4).map F6.d)),.d (.arr 2 ((t.P5).map G6.d)),.d (.arr 2 ((t.N6).map E2.d)),.d (.arr 1 ((t.S5).map vS)),.d (.arr 6 ((t.J3).map D1.d)),.d (vI t.Q7),.d (vI t.T9),.d (.v (.slice none 0 0)),.d (.v (.slice none 0 0)),.row 1 9 0 (rv).length,.d (.arr 1 ((t.points).map vI)),.d (vI t.Q8),.d (vI t.O8)]),C3p rv,C3n lv3]⟩) (fun m st=>∃ (x16:Int),C4y F lv3 K79 m x16=some r∧st=⟨[(2,.d (.v (.bool false))),(3,.ref 0 13 0 0),(6,.d (vI rv3.1)),(14,.row 2 8 0 (lv3).length),(25,.d (vI x16))],[bx 13 (.agg [.d (.arr 8 ((t.N4).map F6.d)),.d (.arr 2 ((t.P5).map G6.d)),.d (.arr 2 ((t.N6).map E2.d)),.d (.arr 1 ((t.S5).map vS)),.d (.arr 6 ((t.J3).map D1.d)),.d (vI t.Q7),.d (vI t.T9),.d (.v (.slice none 0 0)),.d (.v (.slice none 0 0)),.row 1 9 0 (rv).length,.d (.arr 1 ((t.points).map vI)),.d (vI t.Q8),.d (vI t.O8)]),C3p rv,C3n lv3]⟩) (.vw (κ:=[0,1,4]) (vK (.cons R R C37) R)) ⟨1,h,R⟩ ?_
  clear h
  rintro m79 st ⟨x16,h,rfl⟩
  cases m79 with
  | zero=>cases(show(none:Option Bool)=some r from h)
  | succ m79 =>
  rw[C4y]at h
  refine B8 (qG (A0 R (A0T R R R (A8F tb R R R R R ?_))))
  refine Q4 R R R R ?_ ?_
  ·intro c24
   replace h:=J7 c24 h
   refine eN (C0 R (D7 (A6 (B8 (E3 (B8 (T1 kR (A0T R R R (A0 R ?_)))))))))
   obtain⟨e14,ie14,h⟩:=H1 h
   refine Y1 tb R R R R R R (F0 ie14) (ix1 ie14) R R (C8 tb R ?_)
   refine A15 (y:=vI e14.at_) tb R R R R (U5 (g:=fun a=>T.d (C7.d a)) ie14) R R R R ?_
   refine A0T R R R (A0 R (A1n R R R R ?_))
   obtain⟨e15,ie15,h⟩:=H1 h
   refine Y1 tb R R R R R R (F0 ie15) (ix1 ie15) R R (C8 tb R ?_)
   refine A15 (y:=vI e15.at_) tb R R R R (U5 (g:=fun a=>T.d (C7.d a)) ie15) R R R R ?_
   refine Q4 R R R R ?_ ?_
   ·intro c25
    replace h:=J7 c25 h
    refine I0 kR (A6 (C0 R (qG ?_)))
    obtain⟨rv9,k9,h⟩:=H1 h
    refine J5 (B0R k9) eK R R R R (A3 R (eN (C9 (C4 (B2 (B2 (C4 (B2 ?_))))))))
    obtain rfl:=sI h
    exact f1 2 R
   intro c25
   replace h:=P1 (nL c25) h
   refine I0 kR (A6 (C1 R (D7 (D3 (A6 (J1 (A0 R (O1 R (A3 R (eN ?_))))))))))
   exact⟨m79,_,lS,.prn [2,3,6,14,25] R,(W (x16+1)),h,R⟩
  intro c24
  replace h:=P1 (nL c24) h
  refine eN (C1 R (N5 (E4 (E4 ?_))))
  subst hK79
  refine I5 (A6 (B8 ?_))
  refine SW.fz (ts':=[(2,.d (.v (.bool false))),(3,.ref 0 13 0 0),(6,.d (vI rv3.1)),(14,.row 2 8 0 (lv3).length),(25,.d (vI x16)),(257,.d (vI x16)),(258,.row 2 8 0 (lv3).length),(259,.d (vI (lv3.length:Int))),(260,.d (.v (.bool false)))]) (L':=[bx 13 (.d (.agg [.arr 8 ((t.N4).map F6.d),.arr 2 ((t.P5).map G6.d),.arr 2 ((t.N6).map E2.d),.arr 1 ((t.S5).map vS),.arr 6 ((t.J3).map D1.d),vI t.Q7,vI t.T9,.v (.slice none 0 0),.v (.slice none 0 0),.arr 9 ((rv).map E0.d),.arr 1 ((t.points).map vI),vI t.Q8,vI t.O8])),none,C3n lv3]) (w:=rv) (f:=E0.d) 1 9 R (.cons (.same _) (.cons (.same _) (.cons (.same _) (.cons (.same _) (.cons (.same _) (.cons (.same _) (.cons (.same _) (.cons (.same _) (.cons (.same _) .nil))))))))) (.cons R (.cons (.aggDL (.cons (.same _) (.cons (.same _) (.cons (.same _) (.cons (.same _) (.cons (.same _) (.cons (.same _) (.cons (.same _) (.cons (.same _) (.cons (.same _) (.cons (.all (List.length_map _)) (.cons (.same _) (.cons (.same _) (.cons (.same _) .nil)))))))))))))) .nil) (.same (.same .nil))) ?_
  refine SW.fz (ts':=[(2,.d (.v (.bool false))),(3,.ref 0 13 0 0),(6,.d (vI rv3.1)),(14,.d (.arr 8 ((lv3).map C7.d))),(25,.d (vI x16)),(257,.d (vI x16)),(258,.d (.arr 8 ((lv3).map C7.d))),(259,.d (vI (lv3.length:Int))),(260,.d (.v (.bool false)))]) (L':=[bx 13 (.d (.agg [.arr 8 ((t.N4).map F6.d),.arr 2 ((t.P5).map G6.d),.arr 2 ((t.N6).map E2.d),.arr 1 ((t.S5).map vS),.arr 6 ((t.J3).map D1.d),vI t.Q7,vI t.T9,.v (.slice none 0 0),.v (.slice none 0 0),.arr 9 ((rv).map E0.d),.arr 1 ((t.points).map vI),vI t.Q8,vI t.O8])),none,none]) (w:=lv3) (f:=C7.d) 2 8 R (.cons (.same _) (.cons (.same _) (.cons (.same _) (.cons (.all (List.length_map _)) (.cons (.same _) (.cons (.same _) (.cons (.all (List.length_map _)) (.cons (.same _) (.cons (.same _) .nil))))))))) (.same (.same (.same .nil))) ?_
  refine J1 ?_
  refine C7u (y := .agg [.arr 8 ((t.N4).map F6.d),.arr 2 ((t.P5).map G6.d),.arr 2 ((t.N6).map E2.d),.arr 1 ((t.S5).map vS),.arr 6 ((t.J3).map D1.d),vI t.Q7,vI t.T9,.v (.slice none 0 0),.v (.slice none 0 0),.arr 9 ((rv).map E0.d),.arr 1 ((t.points).map vI),vI t.Q8,vI t.O8]) (y':=D4.d {t with stations:=([]:List ByteArray),batteries:=([]:List D9),steps:=rv}) ((.aggc (.same _) (.aggc (.same _) (.aggc (.same _) (.aggc (.same _) (.aggc (.same _) (.aggc (.same _) (.aggc (.same _) (.aggc (.nil _) (.aggc (.nil _) (.aggc (.same _) (.aggc (.same _) (.aggc (.same _) (.aggc (.same _) .agg0)))))))))))))) tb R R R R R R R R R ?_
  refine A0 R ?_
  obtain⟨rv10,k10,h⟩:=H1 h
  refine J5 (A6l k10) eK R R R R (A0 R (Q1 (t:=H2.d rv10.1) R R R R (Q1 (t := .arr 1 ((rv10.2.1).map vI)) R R R R (Q1 (t:=vI rv10.2.2) R R R R (M5 tb R R R R R ?_)))))
  refine I6 _ ([bx 13 (.d (.agg [.arr 8 ((t.N4).map F6.d),.arr 2 ((t.P5).map G6.d),.arr 2 ((t.N6).map E2.d),.arr 1 ((t.S5).map vS),.arr 6 ((t.J3).map D1.d),vI t.Q7,vI t.T9,.v (.slice none 0 0),.v (.slice none 0 0),.arr 9 ((rv).map E0.d),.arr 1 ((t.points).map vI),vI t.Q8,vI t.O8])),none,none,bx 13 (.d (H2.d rv10.1))]) tb R (A3 R (A3 R (eN (B8 ?_))))
  refine W5 (fun zz:Unit=>C52 F rv10=some r) (fun zz:Unit=>⟨[(2,.d (.v (.bool false))),(27,.d (.arr 1 ((rv10.2.1).map vI)))],[]⟩) ?_ ?_
  ·clear h
   rintro⟨⟩ h
   rw[C52]at h
   refine B8 (qG (A3 R (eN (E3 ?_))))
   obtain⟨K82,hK82,h⟩:∃ K,K=_∧C5b F rv10 K F 0=some r:=⟨_,rfl,h⟩
   refine M2 (fun m st=>∃ (x17:Int),C5b F rv10 K82 m x17=some r∧st=⟨[(2,.d (.v (.bool false))),(27,.d (.arr 1 ((rv10.2.1).map vI))),(28,.d (vI x17))],[]⟩) (.prn [2,27,28] R) ⟨0,h,R⟩ ?_
   clear h
   rintro m82 st ⟨x17,h,rfl⟩
   cases m82 with
   | zero=>cases(show(none:Option Bool)=some r from h)
   | succ m82 =>
   rw[C5b]at h
   refine B8 (qG (A0 R (A0 R (I7 tb R ?_))))
   refine Q4 R R R R ?_ ?_
   ·intro c29
    replace h:=J7 c29 h
    refine eN (C0 R (D7 (A6 (B8 (E3 (qG (A0 R (A0 R ?_))))))))
    obtain⟨e17,ie17,h⟩:=H1 h
    refine N8 tb (F0 ie17) (V1 ie17) R (I4 (y:=vI e17) tb (U5 (g:=vI) ie17) R ?_)
    refine V5 R R R R ?_ ?_
    ·intro c30
     replace h:=P1 c30 h
     refine eN (C0 R (qG (A3 R (eN (C9 (C4 (B2 (B2 (C4 (B2 ?_))))))))))
     obtain rfl:=sI h
     exact f1 2 R
    intro c30
    replace h:=J7 c30 h
    refine eN (C1 R (D7 (D3 (A6 (J1 (A0 R (O1 R (A3 R (eN ?_)))))))))
    exact⟨m82,_,lS,.prn [2,27,28] R,(W (x17+1)),h,R⟩
   intro c29
   replace h:=P1 (nL c29) h
   refine eN (C1 R (N5 (E4 (E4 ?_))))
   subst hK82
   refine I5 (A6 (qG ?_))
   obtain⟨rv11,k11,h⟩:=H1 h
   refine J5 (B0R k11) eK R R R R (A3 R (eN (C9 ?_)))
   obtain rfl:=sI h
   exact f1 2 R
  refine qG (A0 R ?_)
  refine V5 R R R R ?_ ?_
  ·intro c26
   replace h:=P1 c26 h
   refine A0 R (L9 7 R (D6 R (A0 R (L9 10 R (D6 R (eN (C0 R (qG (A3 R (eN (C9 (B2 ?_))))))))))))
   obtain rfl:=sI h
   exact f1 2 R
  intro c26
  replace h:=J7 c26 h
  refine A0 R (C8 tb R (B5 (y := .arr 1 ((rv10.1.ended).map vI)) tb R (I7 tb R (C8 tb R (B5 (y := .arr 9 ((rv).map E0.d)) tb R (I7 tb R ?_))))))
  refine V5 R R R R ?_ ?_
  ·intro c27
   replace h:=P1 c27 h
   refine D0 R (A0 R (L9 10 R (D6 R (eN (C0 R (qG (A3 R (eN (C9 (B2 ?_))))))))))
   obtain rfl:=sI h
   exact f1 2 R
  intro c27
  replace h:=J7 c27 h
  refine D0 R (A0 R (C8 tb R (B5 (y := .arr 1 ((rv10.1.ended).map vI)) tb R (C8 tb R (B5 (y := .arr 1 ((rv10.1.ended).map vI)) tb R (I7 tb R (A1n R R R R ?_)))))))
  obtain⟨e16,ie16,h⟩:=H1 h
  refine N8 tb (F0 ie16) (V1 ie16) R (I4 (y:=vI e16) tb (U5 (g:=vI) ie16) R (A0 R ?_))
  refine V5 R R R R ?_ ?_
  ·intro c28
   replace h:=P1 c28 h
   refine D0 R (eN (C0 R (qG (A3 R (eN (C9 (B2 ?_)))))))
   obtain rfl:=sI h
   exact f1 2 R
  intro c28
  replace h:=J7 c28 h
  refine D0 R (eN (C1 R (D7 (A6 ?_))))
  exact .inl ⟨(),h,.vw (κ:=[]) (v0 R)⟩
 refine qG (A0 R ?_)
 refine V5 R R R R ?_ ?_
 ·intro c2
  replace h:=P1 c2 h
  refine A0 R (L9 4 R (D6 R (A0 R (L9 4 R (D6 R (eN (C0 R (qG ?_))))))))
  obtain⟨rv4,k4,h⟩:=H1 h
  refine J5 (B0R k4) eK R R R R (A3 R (eN (C9 (B2 ?_))))
  obtain rfl:=sI h
  exact f1 2 R
 intro c2
 replace h:=J7 c2 h
 refine A0 R (C8 tb R (W4 tb R R R R R R R R R (A8F tb R R R R R ?_)))
 refine Z3 R R R R ?_ ?_
 ·intro c3
  replace h:=J7 c3 h
  refine D0 R (A0 R (L9 4 R (D6 R (eN (C0 R (qG ?_))))))
  obtain⟨rv5,k5,h⟩:=H1 h
  refine J5 (B0R k5) eK R R R R (A3 R (eN (C9 (B2 ?_))))
  obtain rfl:=sI h
  exact f1 2 R
 intro c3
 replace h:=P1 c3 h
 refine D0 R (A0 R (C8 tb R (W4 tb R R R R R R R R R (A8F tb R R R R R ?_))))
 refine A4l R R R R ?_ ?_
 ·intro c4
  replace h:=J7 c4 h
  refine D0 R (eN (C0 R (qG ?_)))
  obtain⟨rv6,k6,h⟩:=H1 h
  refine J5 (B0R k6) eK R R R R (A3 R (eN (C9 (B2 ?_))))
  obtain rfl:=sI h
  exact f1 2 R
 intro c4
 replace h:=P1 (nL c4) h
 refine D0 R (eN (C1 R (D7 (A6 ?_))))
 exact .inl ⟨(),h,.vw (κ:=[1,2]) (vK (.cons R R C23) R)⟩
end Go.Proofs.YtlaogbbcipebgaaGreat
