/- What functions of the program compute: plain functions, and the proofs. -/
import Derived.Test.YtlaogbbcipebgaaGreatW0
set_option linter.unusedVariables false
set_option linter.unusedSimpArgs false
open Go Go.Proofs.YtlaogbbcipebgaaGreat.Sh Go.Proofs
namespace Go.Proofs.YtlaogbbcipebgaaGreat
set_option maxRecDepth 100000
set_option maxHeartbeats 40000000
def A7N (F:Nat) (nv:Int) (lo:Int) (hi:Int):Option Bool:=if nv<lo then(some true)else(some (decide (hi<nv)))
theorem B4B {F:Nat} {nv:Int} {lo:Int} {hi:Int} {r:Bool} (h:A7N F nv lo hi=some r):PC Tryz.prog 178 [.v (.int .i64 nv),.v (.int .i64 lo),.v (.int .i64 hi)] (.v (.bool r)):=by
 rw[A7N]at h
 refine SC.of_sw Tryz.func178 R R R ?_
 dsimp only[L8,List.map]
 refine qG (A3 R (eN (qG (A0 R (A0 R ?_)))))
 refine Q4 R R R R ?_ ?_
 ·intro c
  replace h:=J7 c h
  refine A0 R (L9 3 R (D6 R (A3 R (eN (C9 ?_)))))
  obtain rfl:=sI h
  exact f1 6 R
 intro c
 replace h:=P1 (nL c) h
 refine A0 R (A0 R (A0 R (B5u R R R R (D0 R (A3 R (eN (C9 ?_)))))))
 obtain rfl:=sI h
 exact f1 6 R
def A0x (F:Nat) (s:ByteArray) (K:Int→Option Bool):Nat→Int→Option Bool
 | 0,_=>none
 | n+1,x=>if x<((A1a s).length:Int)then((P3 (A1a s) x).bind fun e=>if 97≤e then(if e≤122 then(A0x F s K n (W (x+1)))else(if x=0 then(some false)else(if e=45 then(A0x F s K n (W (x+1)))else(if 48≤e then(if e≤57 then(A0x F s K n (W (x+1)))else(some false))else(some false)))))else(if x=0 then(some false)else(if e=45 then(A0x F s K n (W (x+1)))else(if 48≤e then(if e≤57 then(A0x F s K n (W (x+1)))else(some false))else(some false)))))else(K x)
def A2y (F:Nat) (s:ByteArray):Option Bool:=A0x F s (fun(x:Int)=>(A7N F (s.size:Int) 1 24).bind fun rv=>some (!rv)) F 0
theorem A2F {F:Nat} {s:ByteArray} {r:Bool} (h:A2y F s=some r):PC Tryz.prog 122 [.v (.string s)] (.v (.bool r)):=by
 rw[A2y]at h
 refine SC.of_sw Tryz.func122 R R R ?_
 dsimp only[L8,List.map]
 refine qG (A3 R (eN (B8 (qG (A0 R (B9c R R R R R R (I7 tb R (A0 R (eN (E3 ?_))))))))))
 obtain⟨K2,hK2,h⟩:∃ K,K=_∧A0x F s K F 0=some r:=⟨_,rfl,h⟩
 refine M2 (fun m st=>∃ (x:Int),A0x F s K2 m x=some r∧st=⟨[(0,.d (.v (.string s))),(2,.d (.v (.bool false))),(6,.d (.arr 1 (((A1a s)).map v8))),(7,.d (vI ((A1a s).length:Int))),(8,.d (vI x))],[]⟩) (.prn [0,2,6,7,8] R) ⟨0,h,R⟩ ?_
 clear h
 rintro m2 st ⟨x,h,rfl⟩
 cases m2 with
 | zero=>cases(show(none:Option Bool)=some r from h)
 | succ m2 =>
 rw[A0x]at h
 refine qG ?_
 refine Q4 R R R R ?_ ?_
 ·intro c
  replace h:=J7 c h
  refine eN (B8 (C0 R (D7 (A6 (B8 (E3 (qG (A0 R ?_))))))))
  obtain⟨e,ie,h⟩:=H1 h
  refine N8 tb (F0 ie) (V1 ie) R (I4 (y := .v (.int .u8 e)) tb (U5 (g:=v8) ie) R (A3 R (A3 R (eN (qG (A0 R ?_))))))
  refine A7I R R R R ?_ ?_
  ·intro c2
   replace h:=J7 c2 h
   refine A0 R (A0 R ?_)
   refine B1t R R R R ?_ ?_
   ·intro c3
    replace h:=J7 c3 h
    refine D6 R (A0a R R R (A0 R (L9 15 R (D0 R (eN (C1 R (D7 (D3 (A6 (J1 (O1 R (A0 R (eN ?_)))))))))))))
    exact⟨m2,_,lS,.prn [0,2,6,7,8] R,(W (x+1)),h,R⟩
   intro c3
   replace h:=P1 (Int.not_le.2 c3) h
   refine D6 R (Z9 R R R (A0 R (A0 R ?_)))
   refine Z3 R R R R ?_ ?_
   ·intro c4
    replace h:=J7 c4 h
    refine A0 R (L9 11 R (D6 R (D6 R (eN (C0 R (qG (A3 R (eN (C9 (C4 (B2 (B2 (C4 (B2 ?_))))))))))))))
    obtain rfl:=sI h
    exact f1 2 R
   intro c4
   replace h:=P1 c4 h
   refine A0 R (A0 R ?_)
   refine V5 R R R R ?_ ?_
   ·intro c5
    replace h:=P1 c5 h
    refine A0 R (A0 R ?_)
    refine A7I R R R R ?_ ?_
    ·intro c6
     replace h:=J7 c6 h
     refine A0 R (A0 R ?_)
     refine B1t R R R R ?_ ?_
     ·intro c7
      replace h:=J7 c7 h
      refine D6 R (A0a R R R (D6 R (D0 R (D6 R (eN (C1 R (D7 (D3 (A6 (J1 (O1 R (A0 R (eN ?_)))))))))))))
      exact⟨m2,_,lS,.prn [0,2,6,7,8] R,(W (x+1)),h,R⟩
     intro c7
     replace h:=P1 (Int.not_le.2 c7) h
     refine D6 R (Z9 R R R (D6 R (D0 R (D6 R (eN (C0 R (qG (A3 R (eN (C9 (C4 (B2 (B2 (C4 (B2 ?_)))))))))))))))
     obtain rfl:=sI h
     exact f1 2 R
    intro c6
    replace h:=P1 (Int.not_le.2 c6) h
    refine A0 R (L9 2 R (D0 R (Z9 R R R (D6 R (D0 R (D6 R (eN (C0 R (qG (A3 R (eN (C9 (C4 (B2 (B2 (C4 (B2 ?_)))))))))))))))))
    obtain rfl:=sI h
    exact f1 2 R
   intro c5
   replace h:=J7 c5 h
   refine A0 R (L9 7 R (D0 R (D0 R (D6 R (eN (C1 R (D7 (D3 (A6 (J1 (O1 R (A0 R (eN ?_)))))))))))))
   exact⟨m2,_,lS,.prn [0,2,6,7,8] R,(W (x+1)),h,R⟩
  intro c2
  replace h:=P1 (Int.not_le.2 c2) h
  refine A0 R (L9 2 R (D0 R (Z9 R R R (A0 R (A0 R ?_)))))
  refine Z3 R R R R ?_ ?_
  ·intro c8
   replace h:=J7 c8 h
   refine A0 R (L9 11 R (D6 R (D6 R (eN (C0 R (qG (A3 R (eN (C9 (C4 (B2 (B2 (C4 (B2 ?_))))))))))))))
   obtain rfl:=sI h
   exact f1 2 R
  intro c8
  replace h:=P1 c8 h
  refine A0 R (A0 R ?_)
  refine V5 R R R R ?_ ?_
  ·intro c9
   replace h:=P1 c9 h
   refine A0 R (A0 R ?_)
   refine A7I R R R R ?_ ?_
   ·intro c10
    replace h:=J7 c10 h
    refine A0 R (A0 R ?_)
    refine B1t R R R R ?_ ?_
    ·intro c11
     replace h:=J7 c11 h
     refine D6 R (A0a R R R (D6 R (D0 R (D6 R (eN (C1 R (D7 (D3 (A6 (J1 (O1 R (A0 R (eN ?_)))))))))))))
     exact⟨m2,_,lS,.prn [0,2,6,7,8] R,(W (x+1)),h,R⟩
    intro c11
    replace h:=P1 (Int.not_le.2 c11) h
    refine D6 R (Z9 R R R (D6 R (D0 R (D6 R (eN (C0 R (qG (A3 R (eN (C9 (C4 (B2 (B2 (C4 (B2 ?_)))))))))))))))
    obtain rfl:=sI h
    exact f1 2 R
   intro c10
   replace h:=P1 (Int.not_le.2 c10) h
   refine A0 R (L9 2 R (D0 R (Z9 R R R (D6 R (D0 R (D6 R (eN (C0 R (qG (A3 R (eN (C9 (C4 (B2 (B2 (C4 (B2 ?_)))))))))))))))))
   obtain rfl:=sI h
   exact f1 2 R
  intro c9
  replace h:=J7 c9 h
  refine A0 R (L9 7 R (D0 R (D0 R (D6 R (eN (C1 R (D7 (D3 (A6 (J1 (O1 R (A0 R (eN ?_)))))))))))))
  exact⟨m2,_,lS,.prn [0,2,6,7,8] R,(W (x+1)),h,R⟩
 intro c
 replace h:=P1 (nL c) h
 refine eN (B8 (C1 R (N5 (E4 (E4 ?_)))))
 subst hK2
 refine I5 (A6 (qG (A0 R (B9Y R R R R ?_))))
 obtain⟨rv,k,h⟩:=H1 h
 refine J5 (B4B k) eK R R R R (A5R R R R (A3 R (eN (C9 ?_))))
 obtain rfl:=sI h
 exact f1 2 R
def A0m (F:Nat) (nv:Int) (lo:Int) (hi:Int):Option Bool:=if nv<lo then(some true)else(some (decide (hi<nv)))
theorem V2 {F:Nat} {nv:Int} {lo:Int} {hi:Int} {r:Bool} (h:A0m F nv lo hi=some r):PC Tryz.prog 107 [.v (.int .i64 nv),.v (.int .i64 lo),.v (.int .i64 hi)] (.v (.bool r)):=by
 rw[A0m]at h
 refine SC.of_sw Tryz.func107 R R R ?_
 dsimp only[L8,List.map]
 refine qG (A3 R (eN (qG (A0 R (A0 R ?_)))))
 refine Q4 R R R R ?_ ?_
 ·intro c
  replace h:=J7 c h
  refine A0 R (L9 3 R (D6 R (A3 R (eN (C9 ?_)))))
  obtain rfl:=sI h
  exact f1 6 R
 intro c
 replace h:=P1 (nL c) h
 refine A0 R (A0 R (A0 R (B5u R R R R (D0 R (A3 R (eN (C9 ?_)))))))
 obtain rfl:=sI h
 exact f1 6 R
def A6j (F:Nat) (nv:Int):Option Bool:=(A0m F nv 0 9).bind fun rv=>some rv
theorem A8B {F:Nat} {nv:Int} {r:Bool} (h:A6j F nv=some r):PC Tryz.prog 114 [.v (.int .i64 nv)] (.v (.bool r)):=by
 rw[A6j]at h
 refine SC.of_sw Tryz.func114 R R R ?_
 dsimp only[L8,List.map]
 refine qG (A3 R (eN (qG (A0 R ?_))))
 obtain⟨rv,k,h⟩:=H1 h
 refine J5 (V2 k) eK R R R R (A3 R (eN (C9 ?_)))
 obtain rfl:=sI h
 exact f1 2 R
def A6A (F:Nat) (nv:Int):Option Bool:=(A0m F nv (-10000000) 10000000).bind fun rv=>some rv
theorem B2V {F:Nat} {nv:Int} {r:Bool} (h:A6A F nv=some r):PC Tryz.prog 215 [.v (.int .i64 nv)] (.v (.bool r)):=by
 rw[A6A]at h
 refine SC.of_sw Tryz.func215 R R R ?_
 dsimp only[L8,List.map]
 refine qG (A3 R (eN (qG (A0 R ?_))))
 obtain⟨rv,k,h⟩:=H1 h
 refine J5 (V2 k) eK R R R R (A3 R (eN (C9 ?_)))
 obtain rfl:=sI h
 exact f1 2 R
def V3 (F:Nat) (s:(List Int)) (f:(Int→Option Bool)) (K:Int→Option Int):Nat→Int→Option Int
 | 0,_=>none
 | n+1,x=>if x<(s.length:Int)then((P3 s x).bind fun e=>(f e).bind fun rv=>if rv=true then(some x)else(V3 F s f K n (W (x+1))))else(K x)
def A2b (F:Nat) (s:(List Int)) (f:(Int→Option Bool)):Option Int:=V3 F s f (fun(x:Int)=>some (-1)) F 0
theorem A6s {F:Nat} {s:(List Int)} {f:(Int→Option Bool)} {r:Int} {fi:Nat} {fc:List D} (fh:∀ {a0:Int} {r:Bool},f a0=some r→PC Tryz.prog fi ([.v (.int .i64 a0)]++fc) (.v (.bool r))) (fe:Ent Tryz.prog fi) (h:A2b F s f=some r):SCR Tryz.prog 192 [.d (.arr 1 ((s).map vI)),.fn (.func fi) [] (fc.map .d)] [] (.d (.v (.int .i64 r))) (List.map some []):=by
 rw[A2b]at h
 refine SC.of_sw Tryz.func192 R R R ?_
 dsimp only[L8,List.map]
 refine qG (A3 R (eN (B8 (qG (A0 R (I7 tb R (A0 R (eN (E3 ?_)))))))))
 obtain⟨K2,hK2,h⟩:∃ K,K=_∧V3 F s f K F 0=some r:=⟨_,rfl,h⟩
 refine M2 (fun m st=>∃ (x:Int),V3 F s f K2 m x=some r∧st=⟨[(0,.d (.arr 1 ((s).map vI))),(1,.fn (.func fi) [] (fc.map .d)),(4,.d (vI 0)),(7,.d (vI (s.length:Int))),(8,.d (vI x))],[]⟩) (.prn [0,1,4,7,8] R) ⟨0,h,R⟩ ?_
 clear h
 rintro m2 st ⟨x,h,rfl⟩
 cases m2 with
 | zero=>cases(show(none:Option Int)=some r from h)
 | succ m2 =>
 rw[V3]at h
 refine qG ?_
 refine Q4 R R R R ?_ ?_
 ·intro c
  replace h:=J7 c h
  refine eN (B8 (C0 R (D7 (A6 (B8 (E3 (qG (A0 R (A3 R (eN (qG (A2A R R R (A0 R (A0 R ?_))))))))))))))
  obtain⟨e,ie,h⟩:=H1 h
  refine N8 tb (F0 ie) (V1 ie) R (I4 (y:=vI e) tb (U5 (g:=vI) ie) R ?_)
  obtain⟨rv,k,h⟩:=H1 h
  refine A2W (vs:=[vI e]) (fh k) fe R R R R ?_
  with_reducible apply X8
  ·intro c2
   replace h:=J7 c2 h
   refine eN (C0 R (qG (A0 R (A3 R (eN (C9 (C4 (B2 (B2 (C4 (B2 ?_)))))))))))
   obtain rfl:=sI h
   exact f1 4 R
  intro c2
  replace h:=ifF c2 h
  refine eN (C1 R (D7 (D3 (A6 (J1 (O1 R (A0 R (eN ?_))))))))
  exact⟨m2,_,lS,.prn [0,1,4,7,8] R,(W (x+1)),h,R⟩
 intro c
 replace h:=P1 (nL c) h
 refine eN (B8 (C1 R (N5 (E4 (E4 ?_)))))
 subst hK2
 refine I5 (A6 (qG (A3 R (eN (C9 ?_)))))
 obtain rfl:=sI h
 exact f1 4 R
def M1 (F:Nat) (s:(List Int)) (f:(Int→Option Bool)):Option Bool:=(A2b F s f).bind fun rv=>some (decide (0≤rv))
theorem R5 {F:Nat} {s:(List Int)} {f:(Int→Option Bool)} {r:Bool} {fi:Nat} {fc:List D} (fh:∀ {a0:Int} {r:Bool},f a0=some r→PC Tryz.prog fi ([.v (.int .i64 a0)]++fc) (.v (.bool r))) (fe:Ent Tryz.prog fi) (h:M1 F s f=some r):SCR Tryz.prog 147 [.d (.arr 1 ((s).map vI)),.fn (.func fi) [] (fc.map .d)] [] (.d (.v (.bool r))) (List.map some []):=by
 rw[M1]at h
 refine SC.of_sw Tryz.func147 R R R ?_
 dsimp only[L8,List.map]
 refine qG (A3 R (eN (qG (A0 R (A2A R R R ?_)))))
 obtain⟨rv,k,h⟩:=H1 h
 refine A0t (t' := .d (vI rv)) (news':=[]) (A6s (f:=f) (fh:=fh) (fe:=fe) k) R .nil eK R R ((.cons (.d (.d _)) (.cons .hof .nil))) R .nil R R R ?_
 simp only[List.map_nil,List.append_nil]
 refine A3k R R R R (A3 R (eN (C9 ?_)))
 obtain rfl:=sI h
 exact f1 4 R
def A8d (F:Nat) (lv:(List Int)):Option Bool:=(M1 F lv (fun a0=>A6A F a0)).bind fun rv=>some rv
theorem B1n {F:Nat} {lv:(List Int)} {r:Bool} (h:A8d F lv=some r):PC Tryz.prog 176 [.arr 1 ((lv).map vI)] (.v (.bool r)):=by
 rw[A8d]at h
 refine SC.of_sw Tryz.func176 R R R ?_
 dsimp only[L8,List.map]
 refine qG (A3 R (eN (qG (A0 R ?_))))
 obtain⟨rv,k,h⟩:=H1 h
 refine A0t (t' := .d (.v (.bool rv))) (news':=[]) (R5 (f:=(fun a0=>A6A F a0)) (fc:=[]) (fh:=fun hr=>B2V hr) (fe := .of kR) k) R .nil eK R R ((.cons (.d (.d _)) (.cons .fnc .nil))) R .nil R R R ?_
 simp only[List.map_nil,List.append_nil]
 refine A3 R (eN (C9 ?_))
 obtain rfl:=sI h
 exact f1 2 R
def A4U (F:Nat) (z:F6):Option ByteArray:=some z.name
theorem B1d {F:Nat} {z:F6} {r:ByteArray} (h:A4U F z=some r):PC Tryz.prog 109 [F6.d z] (.v (.string r)):=by
 rw[A4U]at h
 refine SC.of_sw Tryz.func109 R R R ?_
 dsimp only[L8,List.map]
 refine qG (M9 R (A3 R (eN (qG (C8 tb R (B5 (y := .v (.string z.name)) tb R (A3 R (eN (C9 ?_)))))))))
 obtain rfl:=sI h
 exact f1 2 R
def A3J (F:Nat) (x:E2):Option ByteArray:=some x.name
theorem B1e {F:Nat} {x:E2} {r:ByteArray} (h:A3J F x=some r):PC Tryz.prog 112 [E2.d x] (.v (.string r)):=by
 rw[A3J]at h
 refine SC.of_sw Tryz.func112 R R R ?_
 dsimp only[L8,List.map]
 refine qG (M9 R (A3 R (eN (qG (C8 tb R (B5 (y := .v (.string x.name)) tb R (A3 R (eN (C9 ?_)))))))))
 obtain rfl:=sI h
 exact f1 2 R
def A3K (F:Nat) (x:E2):Option Int:=(A6j F x.grade).bind fun rv=>if rv=true then(some 7)else(some 0)
theorem B1f {F:Nat} {x:E2} {r:Int} (h:A3K F x=some r):PC Tryz.prog 113 [E2.d x] (.v (.int .i64 r)):=by
 rw[A3K]at h
 refine SC.of_sw Tryz.func113 R R R ?_
 dsimp only[L8,List.map]
 refine qG (M9 R (A3 R (eN (B8 (qG (C8 tb R (B5 (y:=vI x.grade) tb R ?_)))))))
 obtain⟨rv,k,h⟩:=H1 h
 refine M6 (A8B k) eK R R R R ?_ ?_
 ·intro c
  replace h:=J7 c h
  refine eN (C0 R (qG (A3 R (eN (C9 (B2 ?_))))))
  obtain rfl:=sI h
  exact f1 2 R
 intro c
 replace h:=ifF c h
 refine eN (C1 R (D7 (A6 (qG (A3 R (eN (C9 ?_)))))))
 obtain rfl:=sI h
 exact f1 2 R
def A3L (F:Nat) (s:ByteArray):Option ByteArray:=some s
theorem B1g {F:Nat} {s:ByteArray} {r:ByteArray} (h:A3L F s=some r):PC Tryz.prog 116 [.v (.string s)] (.v (.string r)):=by
 rw[A3L]at h
 refine SC.of_sw Tryz.func116 R R R ?_
 dsimp only[L8,List.map]
 refine qG (A3 R (eN (qG (A0 R (A3 R (eN (C9 ?_)))))))
 obtain rfl:=sI h
 exact f1 2 R
def A3M (F:Nat) (a:ByteArray):Option Int:=some 0
theorem B1h {F:Nat} {a:ByteArray} {r:Int} (h:A3M F a=some r):PC Tryz.prog 117 [.v (.string a)] (.v (.int .i64 r)):=by
 rw[A3M]at h
 refine SC.of_sw Tryz.func117 R R R ?_
 dsimp only[L8,List.map]
 refine qG (A3 R (eN (qG (A3 R (eN (C9 ?_))))))
 obtain rfl:=sI h
 exact f1 2 R
def A3N (F:Nat) (q:D1):Option ByteArray:=some q.name
theorem B1i {F:Nat} {q:D1} {r:ByteArray} (h:A3N F q=some r):PC Tryz.prog 119 [D1.d q] (.v (.string r)):=by
 rw[A3N]at h
 refine SC.of_sw Tryz.func119 R R R ?_
 dsimp only[L8,List.map]
 refine qG (M9 R (A3 R (eN (qG (C8 tb R (B5 (y := .v (.string q.name)) tb R (A3 R (eN (C9 ?_)))))))))
 obtain rfl:=sI h
 exact f1 2 R
def A2z (F:Nat) :Option Int:=some 7
def A6C (F:Nat) (z:F6):Option Int:=(A8d F [z.L5,z.L4,z.L7,z.L6]).bind fun rv=>if rv=true then(A2z F)else(if z.L4<z.L5 then(A2z F)else(if z.L6<z.L7 then(A2z F)else((A6j F z.grade).bind fun rv2=>if rv2=true then(A2z F)else((A0m F z.room 1 8).bind fun rv3=>if rv3=true then(A2z F)else(some 0)))))
theorem B4d {F:Nat} {z:F6} {r:Int} (h:A6C F z=some r):PC Tryz.prog 110 [F6.d z] (.v (.int .i64 r)):=by
 rw[A6C]at h
 refine SC.of_sw Tryz.func110 R R R ?_
 dsimp only[L8,List.map]
 refine qG (M9 R (A3 R (eN (B8 (T1 kR (C8 tb R (C8 tb R (B5 (y := .agg [vI z.L5,vI z.L4]) tb R (C8 tb R (C8 tb R (B5 (y := .agg [vI z.L7,vI z.L6]) tb R (M5 tb R R R R R (M5 tb R R R R R (I6 _ _ tb R (I6 _ _ tb R (I0 kR (A6 (B8 (B8 ?_)))))))))))))))))))
 refine W5 (fun zz:Unit=>A2z F=some r) (fun zz:Unit=>⟨[(2,.d (vI 0)),(44,.d (.v (.bool true)))],[]⟩) ?_ ?_
 ·clear h
  rintro⟨⟩ h
  rw[A2z]at h
  refine C0 R (qG (A3 R (eN (C9 (B2 ?_)))))
  obtain rfl:=sI h
  exact f1 2 R
 refine J1 (C8 tb R (B5 (y:=vI z.L5) tb R (C8 tb R (B5 (y:=vI z.L4) tb R (C8 tb R (B5 (y:=vI z.L7) tb R (C8 tb R (B5 (y:=vI z.L6) tb R (P7 tb R R R R R R R R R R R R R ?_)))))))))
 obtain⟨rv,k,h⟩:=H1 h
 refine A4k (B1n k) eK R R ((.cons (.row R R) .nil)) R R ?_ ?_
 ·intro c
  replace h:=J7 c h
  refine A0 R (L9 5 R (D6 R (A0 R (L9 5 R (D6 R (A0 R (L9 3 R (D6 R (A0 R (L9 3 R (D6 R (eN ?_))))))))))))
  exact .inl ⟨(),h,.vw (κ:=[]) (v0 R)⟩
 intro c
 replace h:=ifF c h
 refine A0 R (C8 tb R (B5 (y:=vI z.L5) tb R (C8 tb R (B5 (y:=vI z.L4) tb R ?_))))
 refine A4l R R R R ?_ ?_
 ·intro c2
  replace h:=J7 c2 h
  refine D0 R (A0 R (L9 5 R (D6 R (A0 R (L9 3 R (D6 R (A0 R (L9 3 R (D6 R (eN ?_))))))))))
  exact .inl ⟨(),h,.vw (κ:=[]) (v0 R)⟩
 intro c2
 replace h:=P1 (nL c2) h
 refine D0 R (A0 R (C8 tb R (B5 (y:=vI z.L7) tb R (C8 tb R (B5 (y:=vI z.L6) tb R ?_)))))
 refine A4l R R R R ?_ ?_
 ·intro c3
  replace h:=J7 c3 h
  refine D0 R (A0 R (L9 3 R (D6 R (A0 R (L9 3 R (D6 R (eN ?_)))))))
  exact .inl ⟨(),h,.vw (κ:=[]) (v0 R)⟩
 intro c3
 replace h:=P1 (nL c3) h
 refine D0 R (A0 R (C8 tb R (B5 (y:=vI z.grade) tb R ?_)))
 obtain⟨rv2,k2,h⟩:=H1 h
 refine M6 (A8B k2) eK R R R R ?_ ?_
 ·intro c4
  replace h:=J7 c4 h
  refine D0 R (A0 R (L9 3 R (D6 R (eN ?_))))
  exact .inl ⟨(),h,.vw (κ:=[]) (v0 R)⟩
 intro c4
 replace h:=ifF c4 h
 refine D0 R (A0 R (C8 tb R (B5 (y:=vI z.room) tb R ?_)))
 obtain⟨rv3,k3,h⟩:=H1 h
 refine M6 (V2 k3) eK R R R R ?_ ?_
 ·intro c5
  replace h:=J7 c5 h
  refine D0 R (eN ?_)
  exact .inl ⟨(),h,.vw (κ:=[]) (v0 R)⟩
 intro c5
 replace h:=ifF c5 h
 refine D0 R (eN (.inr (C1 R (D7 (A6 (qG (A3 R (eN (C9 ?_)))))))))
 obtain rfl:=sI h
 exact f1 2 R
def A5a (F:Nat) (k:Int) (c:Int):Option Bool:=(A0m F k 0 (W (c-1))).bind fun rv=>some rv
theorem B1o {F:Nat} {k:Int} {c:Int} {r:Bool} (h:A5a F k c=some r):PC Tryz.prog 177 [.v (.int .i64 k),.el 1 (([c]).map vI) ((0:Int)).toNat 0] (.v (.bool r)):=by
 rw[A5a]at h
 refine SC.of_sw Tryz.func177 R R R ?_
 dsimp only[L8,List.map]
 refine qG (A3 R (eN (qG (A0 R (I4 (y:=vI c) tb (U5 (g:=vI) (R:P3 [c] 0=some c)) R (A1n R R R R ?_))))))
 obtain⟨rv,k,h⟩:=H1 h
 refine J5 (V2 k) eK R R R R (A3 R (eN (C9 ?_)))
 obtain rfl:=sI h
 exact f1 3 R
def A28 (F:Nat) (q:D1) (q2:(List Int)) (K:Int→Option Int):Nat→Int→Option Int
 | 0,_=>none
 | n+1,x=>if x<(q2.length:Int)then((P3 q.keys x).bind fun e=>(P3 q.keys (W (x+1))).bind fun e2=>if e2≤e then(some 2)else(A28 F q q2 K n (W (x+1))))else(K x)
def A4j (F:Nat) (q:D1):Option Int:=(A7A q.keys 1 q.keys.length).bind fun q2=>A28 F q q2 (fun(x:Int)=>some 0) F 0
def A6B (F:Nat) (q:D1) (keys:Int):Option Int:=(A8d F [q.A4s,q.A4t]).bind fun rv=>if rv=true then(some 7)else((A0m F q.clear 0 10000000).bind fun rv2=>if rv2=true then(some 7)else((A6j F q.grade).bind fun rv3=>if rv3=true then(some 7)else(if(q.keys.length:Int)=0 then(some 4)else((M1 F q.keys (fun a0=>A5a F a0 keys)).bind fun rv4=>if rv4=true then(some 4)else(A4j F q)))))
theorem B2Y {F:Nat} {q:D1} {keys:Int} {r:Int} (h:A6B F q keys=some r):PC Tryz.prog 121 [D1.d q,.v (.int .i64 keys)] (.v (.int .i64 r)):=by
 rw[A6B]at h
 refine SC.of_sw Tryz.func121 R R R ?_
 dsimp only[L8,List.map]
 refine qG (M9 R (M9 R (A3 R (eN (B8 ?_)))))
 refine W5 (fun zz:Unit=>A4j F q=some r) (fun zz:Unit=>⟨[(2,.ref 0 6 0 0),(4,.d (vI 0))],[bx 6 (.d (D1.d q))]⟩) ?_ ?_
 ·clear h
  rintro⟨⟩ h
  rw[A4j]at h
  refine B8 (qG (C8 tb R (B5 (y := .arr 1 ((q.keys).map vI)) tb R ?_)))
  obtain⟨q2,iq2,h⟩:=H1 h
  refine B8f tb R R R R R R iq2 R R (I7 tb R (A0 R (eN (E3 ?_))))
  obtain⟨K3,hK3,h⟩:∃ K,K=_∧A28 F q q2 K F 0=some r:=⟨_,rfl,h⟩
  refine M2 (fun m st=>∃ (x:Int),A28 F q q2 K3 m x=some r∧st=⟨[(2,.ref 0 6 0 0),(4,.d (vI 0)),(39,.d (vI (q2.length:Int))),(40,.d (vI x))],[bx 6 (.d (D1.d q))]⟩) (.prn [2,4,39,40] R) ⟨0,h,R⟩ ?_
  clear h
  rintro m3 st ⟨x,h,rfl⟩
  cases m3 with
  | zero=>cases(show(none:Option Int)=some r from h)
  | succ m3 =>
  rw[A28]at h
  refine qG ?_
  refine Q4 R R R R ?_ ?_
  ·intro c6
   replace h:=J7 c6 h
   refine eN (B8 (C0 R (D7 (A6 (B8 (E3 (qG (A0 R (A3 R (eN (B8 (T1 kR (C8 tb R (B5 (y := .arr 1 ((q.keys).map vI)) tb R (A0 R ?_)))))))))))))))
   obtain⟨e,ie,h⟩:=H1 h
   refine N8 tb (F0 ie) (V1 ie) R (I4 (y:=vI e) tb (U5 (g:=vI) ie) R (C8 tb R (B5 (y := .arr 1 ((q.keys).map vI)) tb R (A0 R (O1 R ?_)))))
   obtain⟨e2,ie2,h⟩:=H1 h
   refine N8 tb (F0 ie2) (V1 ie2) R (I4 (y:=vI e2) tb (U5 (g:=vI) ie2) R ?_)
   refine A7I R R R R ?_ ?_
   ·intro c7
    replace h:=J7 c7 h
    refine I0 kR (A6 (C0 R (qG (A3 R (eN (C9 (C4 (B2 (B2 (C4 (B2 ?_)))))))))))
    obtain rfl:=sI h
    exact f1 4 R
   intro c7
   replace h:=P1 (Int.not_le.2 c7) h
   refine I0 kR (A6 (C1 R (D7 (D3 (A6 (J1 (O1 R (A0 R (eN ?_)))))))))
   exact⟨m3,_,lS,.prn [2,4,39,40] R,(W (x+1)),h,R⟩
  intro c6
  replace h:=P1 (nL c6) h
  refine eN (B8 (C1 R (N5 (E4 (E4 ?_)))))
  subst hK3
  refine I5 (A6 (qG (A3 R (eN (C9 ?_)))))
  obtain rfl:=sI h
  exact f1 4 R
 refine E3 (qG (C8 tb R (C8 tb R (B5 (y:=vI q.A4s) tb R (C8 tb R (C8 tb R (B5 (y:=vI q.A4t) tb R (P7 tb R R R R R R R R R R R R R ?_))))))))
 obtain⟨rv,k,h⟩:=H1 h
 refine A4k (B1n k) eK R R ((.cons (.row R R) .nil)) R R ?_ ?_
 ·intro c
  replace h:=J7 c h
  refine A0 R (L9 3 R (D6 R (A0 R (L9 3 R (D6 R (A3 R (eN (C0 R (qG (A3 R (eN (C9 (C4 (B2 ?_))))))))))))))
  obtain rfl:=sI h
  exact f1 4 R
 intro c
 replace h:=ifF c h
 refine A0 R (C8 tb R (B5 (y:=vI q.clear) tb R ?_))
 obtain⟨rv2,k2,h⟩:=H1 h
 refine M6 (V2 k2) eK R R R R ?_ ?_
 ·intro c2
  replace h:=J7 c2 h
  refine D0 R (A0 R (L9 3 R (D6 R (A3 R (eN (C0 R (qG (A3 R (eN (C9 (C4 (B2 ?_))))))))))))
  obtain rfl:=sI h
  exact f1 4 R
 intro c2
 replace h:=ifF c2 h
 refine D0 R (A0 R (C8 tb R (B5 (y:=vI q.grade) tb R ?_)))
 obtain⟨rv3,k3,h⟩:=H1 h
 refine M6 (A8B k3) eK R R R R ?_ ?_
 ·intro c3
  replace h:=J7 c3 h
  refine D0 R (A3 R (eN (C0 R (qG (A3 R (eN (C9 (C4 (B2 ?_)))))))))
  obtain rfl:=sI h
  exact f1 4 R
 intro c3
 replace h:=ifF c3 h
 refine D0 R (A3 R (eN (C1 R (qG (C8 tb R (B5 (y := .arr 1 ((q.keys).map vI)) tb R (I7 tb R ?_)))))))
 refine Z3 R R R R ?_ ?_
 ·intro c4
  replace h:=J7 c4 h
  refine A0 R (L9 4 R (D6 R (A3 R (eN (C0 R (qG (A3 R (eN (C9 (C4 (B2 ?_)))))))))))
  obtain rfl:=sI h
  exact f1 4 R
 intro c4
 replace h:=P1 c4 h
 refine A0 R (C8 tb R (B5 (y := .arr 1 ((q.keys).map vI)) tb R (A3E R R R R ?_)))
 obtain⟨rv4,k4,h⟩:=H1 h
 refine A0t (t' := .d (.v (.bool rv4))) (news':=[]) (R5 (f:=(fun a0=>A5a F a0 keys)) (fc:=[.el 1 [vI keys] 0 0]) (fh:=fun hr=>B1o hr) (fe := .of kR) k4) R .nil eK R R ((.cons (.d (.d _)) (.cons (.fnC (.cons (.d (.ref R (.d _))) .nil)) .nil))) R .nil R R R ?_
 simp only[List.map_nil,List.append_nil]
 with_reducible apply X8
 ·intro c5
  replace h:=J7 c5 h
  refine D0 R (A3 R (eN (C0 R (qG (A3 R (eN (C9 (C4 (B2 ?_)))))))))
  obtain rfl:=sI h
  exact f1 4 R
 intro c5
 replace h:=ifF c5 h
 refine D0 R (A3 R (eN (C1 R (D7 (D3 (A6 ?_))))))
 exact .inl ⟨(),h,.vw (κ:=[0]) (vK (.cons R R .nil) R)⟩
def A3O (F:Nat) (q:D1) (c:D5):Option Int:=(A6B F q (c.keys.length:Int)).bind fun rv=>some rv
theorem B1j {F:Nat} {q:D1} {c:D5} {r:Int} (h:A3O F q c=some r):PC Tryz.prog 120 [D1.d q,.el 7 (([c]).map D5.d) ((0:Int)).toNat 0] (.v (.int .i64 r)):=by
 rw[A3O]at h
 refine SC.of_sw Tryz.func120 R R R ?_
 dsimp only[L8,List.map]
 refine qG (M9 R (A3 R (eN (qG (B5 (y:=D1.d q) tb R (M4 tb R (I4 (y := .arr 1 ((c.keys).map vS)) tb (U5 (g:=D5.d) (R:P3 [c] 0=some c)) R (I7 tb R ?_))))))))
 obtain⟨rv,k,h⟩:=H1 h
 refine J5 (B2Y k) eK R R R R (A3 R (eN (C9 ?_)))
 obtain rfl:=sI h
 exact f1 3 R
def Z6 (F:Nat) (lv:(List F6)) (name:(F6→Option ByteArray)) (rest:(F6→Option Int)) (K:(List (ByteArray × Bool))→Int→Option (Int × Int)):Nat→(List (ByteArray × Bool))→Int→Option (Int × Int)
 | 0,_,_=>none
 | n+1,seen,x=>if x<(lv.length:Int)then((P3 lv x).bind fun e=>(name e).bind fun rv=>(A2y F rv).bind fun rv2=>if rv2=true then(if((A2e seen rv).getD false)=true then(some (x,5))else((rest e).bind fun rv3=>if rv3=0 then(Z6 F lv name rest K n (M0 seen rv true) (W (x+1)))else(some (x,rv3))))else(some (x,6)))else(K seen x)
def A2p (F:Nat) (lv:(List F6)) (name:(F6→Option ByteArray)) (rest:(F6→Option Int)):Option (Int × Int):=Z6 F lv name rest (fun(seen:(List (ByteArray × Bool))) (x:Int)=>some (0,0)) F ([]:List (ByteArray × Bool)) 0
theorem A7E {F:Nat} {lv:(List F6)} {name:(F6→Option ByteArray)} {rest:(F6→Option Int)} {r:(Int × Int)} {namei:Nat} {namec:List D} (nameh:∀ {a0:F6} {r:ByteArray},name a0=some r→PC Tryz.prog namei ([F6.d a0]++namec) (.v (.string r))) (namee:Ent Tryz.prog namei) {resti:Nat} {restc:List D} (resth:∀ {a0:F6} {r:Int},rest a0=some r→PC Tryz.prog resti ([F6.d a0]++restc) (.v (.int .i64 r))) (reste:Ent Tryz.prog resti) (h:A2p F lv name rest=some r):SCR Tryz.prog 108 [.d (.arr 8 ((lv).map F6.d)),.fn (.func namei) [] (namec.map .d),.fn (.func resti) [] (restc.map .d)] [] (.d (.tup [.v (.int .i64 r.1),.v (.int .i64 r.2)])) (List.map some []):=by
 rw[A2p]at h
 refine SC.of_sw Tryz.func108 R R R ?_
 dsimp only[L8,List.map]
 refine qG (A3 R (A3 R (eN (qG (A58 R R R (B3e (.mp 0) R R R (eN (B8 (qG (A0 R (I7 tb R (A0 R (eN (E3 ?_))))))))))))))
 obtain⟨K3,hK3,h⟩:∃ K,K=_∧Z6 F lv name rest K F ([]:List (ByteArray × Bool)) 0=some r:=⟨_,rfl,h⟩
 refine M2 (fun m st=>∃ (seen:(List (ByteArray × Bool))) (x:Int),Z6 F lv name rest K3 m seen x=some r∧st=⟨[(1,.fn (.func namei) [] (namec.map .d)),(2,.fn (.func resti) [] (restc.map .d)),(6,.d (vI 0)),(7,.d (vI 0)),(8,.mp 0),(14,.d (.arr 8 ((lv).map F6.d))),(15,.d (vI (lv.length:Int))),(16,.d (vI x))],[C3o seen]⟩) (.prn [1,2,6,7,8,14,15,16] R) ⟨([]:List (ByteArray × Bool)),0,h,R⟩ ?_
 clear h
 rintro m3 st ⟨seen,x,h,rfl⟩
 cases m3 with
 | zero=>cases(show(none:Option (Int × Int))=some r from h)
 | succ m3 =>
 rw[Z6]at h
 refine qG ?_
 refine Q4 R R R R ?_ ?_
 ·intro c
  replace h:=J7 c h
  refine eN (B8 (C0 R (D7 (A6 (B8 (E3 (qG (A0 R ?_))))))))
  obtain⟨e,ie,h⟩:=H1 h
  refine N8 tb (F0 ie) (V1 ie) R (I4 (y:=F6.d e) tb (U5 (g:=F6.d) ie) R (M5 tb R R R R R (A3 R (I6 _ _ tb R (eN (qG (A2A R R R (B5 (y:=F6.d e) tb R ?_))))))))
  obtain⟨rv,k,h⟩:=H1 h
  refine A2W (vs:=[F6.d e]) (nameh k) namee R R R R (A3 R (eN (B8 (E3 (qG (A0 R ?_))))))
  obtain⟨rv2,k2,h⟩:=H1 h
  refine M6 (A2F k2) eK R R R R ?_ ?_
  ·intro c2
   replace h:=J7 c2 h
   refine A0a R R R (A3 R (eN (C1 R (qG (A1D (.mp 0) R R R (A0 R ?_))))))
   refine B5U (vf:=fun b => .v (.bool b)) (z0:=false) (u := .v (.bool ((A2e seen rv).getD false))) tb R R R R R R R R R R ?_
   with_reducible apply X8
   ·intro c3
    replace h:=J7 c3 h
    refine A3 R (eN (C0 R (qG (A0 R (A3 R (A3 R (eN (C9 (C4 (B2 (C4 (B2 (B2 (C4 (B2 ?_)))))))))))))))
    obtain rfl:=sI h
    exact U4 (t := .d (.tup [vI x,vI 5])) R R R (.cons (.tmp 6) (.cons (.tmp 7) .nil))
   intro c3
   replace h:=ifF c3 h
   refine A3 R (eN (C1 R (D7 (D3 (A6 (B8 (qG (A2A R R R (B5 (y:=F6.d e) tb R ?_)))))))))
   obtain⟨rv3,k3,h⟩:=H1 h
   refine A2W (vs:=[F6.d e]) (resth k3) reste R R R R (A3 R (eN (qG (A0 R ?_))))
   refine V5 R R R R ?_ ?_
   ·intro c4
    replace h:=P1 c4 h
    refine eN (C0 R (qG (A0 R (A0 R (A3 R (A3 R (eN (C9 (B2 (C4 (B2 (B2 (C4 (B2 ?_))))))))))))))
    obtain rfl:=sI h
    exact U4 (t := .d (.tup [vI x,vI rv3])) R R R (.cons (.tmp 6) (.cons (.tmp 7) .nil))
   intro c4
   replace h:=J7 c4 h
   refine eN (C1 R (D7 (A6 (J1 (A1D (.mp 0) R R R (A0 R ?_))))))
   refine B01 (vf:=fun b => .v (.bool b)) (v:=true) (q:=(M0 seen rv true)) ([C3o (M0 seen rv true),bx 8 (.d (F6.d e))]) R R R R R R R R R ?_
   refine Y9 (D3 (A6 (J1 (O1 R (A0 R (eN ?_))))))
   exact⟨m3,⟨[(1,.fn (.func namei) [] (namec.map .d)),(2,.fn (.func resti) [] (restc.map .d)),(6,.d (vI 0)),(7,.d (vI 0)),(8,.mp 0),(14,.d (.arr 8 ((lv).map F6.d))),(15,.d (vI (lv.length:Int))),(16,.d (vI (W (x+1))))],[C3o (M0 seen rv true)]⟩,lS,.vw (κ:=[0]) (vwK R R (.map R .nil) (.hof R (.hof R (.cons R R (.cons R R (.cons R R (.cons R R (.cons R R (.cons R R .nil))))))))),(M0 seen rv true),(W (x+1)),h,R⟩
  intro c2
  replace h:=ifF c2 h
  refine Z9 R R R (A3 R (eN (C0 R (qG (A0 R (A3 R (A3 R (eN (C9 (C4 (B2 (C4 (B2 (B2 (C4 (B2 ?_))))))))))))))))
  obtain rfl:=sI h
  exact U4 (t := .d (.tup [vI x,vI 6])) R R R (.cons (.tmp 6) (.cons (.tmp 7) .nil))
 intro c
 replace h:=P1 (nL c) h
 refine eN (B8 (C1 R (N5 (E4 (E4 ?_)))))
 subst hK3
 refine I5 (A6 (qG (A3 R (A3 R (eN (C9 ?_))))))
 obtain rfl:=sI h
 exact U4 (t := .d (.tup [vI 0,vI 0])) R R R (.cons (.tmp 6) (.cons (.tmp 7) .nil))
def W9 (F:Nat) (lv:(List E2)) (name:(E2→Option ByteArray)) (rest:(E2→Option Int)) (K:(List (ByteArray × Bool))→Int→Option (Int × Int)):Nat→(List (ByteArray × Bool))→Int→Option (Int × Int)
 | 0,_,_=>none
 | n+1,seen,x=>if x<(lv.length:Int)then((P3 lv x).bind fun e=>(name e).bind fun rv=>(A2y F rv).bind fun rv2=>if rv2=true then(if((A2e seen rv).getD false)=true then(some (x,5))else((rest e).bind fun rv3=>if rv3=0 then(W9 F lv name rest K n (M0 seen rv true) (W (x+1)))else(some (x,rv3))))else(some (x,6)))else(K seen x)
def A1x (F:Nat) (lv:(List E2)) (name:(E2→Option ByteArray)) (rest:(E2→Option Int)):Option (Int × Int):=W9 F lv name rest (fun(seen:(List (ByteArray × Bool))) (x:Int)=>some (0,0)) F ([]:List (ByteArray × Bool)) 0
theorem A7j {F:Nat} {lv:(List E2)} {name:(E2→Option ByteArray)} {rest:(E2→Option Int)} {r:(Int × Int)} {namei:Nat} {namec:List D} (nameh:∀ {a0:E2} {r:ByteArray},name a0=some r→PC Tryz.prog namei ([E2.d a0]++namec) (.v (.string r))) (namee:Ent Tryz.prog namei) {resti:Nat} {restc:List D} (resth:∀ {a0:E2} {r:Int},rest a0=some r→PC Tryz.prog resti ([E2.d a0]++restc) (.v (.int .i64 r))) (reste:Ent Tryz.prog resti) (h:A1x F lv name rest=some r):SCR Tryz.prog 111 [.d (.arr 2 ((lv).map E2.d)),.fn (.func namei) [] (namec.map .d),.fn (.func resti) [] (restc.map .d)] [] (.d (.tup [.v (.int .i64 r.1),.v (.int .i64 r.2)])) (List.map some []):=by
 rw[A1x]at h
 refine SC.of_sw Tryz.func111 R R R ?_
 dsimp only[L8,List.map]
 refine qG (A3 R (A3 R (eN (qG (A58 R R R (B3e (.mp 0) R R R (eN (B8 (qG (A0 R (I7 tb R (A0 R (eN (E3 ?_))))))))))))))
 obtain⟨K3,hK3,h⟩:∃ K,K=_∧W9 F lv name rest K F ([]:List (ByteArray × Bool)) 0=some r:=⟨_,rfl,h⟩
 refine M2 (fun m st=>∃ (seen:(List (ByteArray × Bool))) (x:Int),W9 F lv name rest K3 m seen x=some r∧st=⟨[(1,.fn (.func namei) [] (namec.map .d)),(2,.fn (.func resti) [] (restc.map .d)),(6,.d (vI 0)),(7,.d (vI 0)),(8,.mp 0),(14,.d (.arr 2 ((lv).map E2.d))),(15,.d (vI (lv.length:Int))),(16,.d (vI x))],[C3o seen]⟩) (.prn [1,2,6,7,8,14,15,16] R) ⟨([]:List (ByteArray × Bool)),0,h,R⟩ ?_
 clear h
 rintro m3 st ⟨seen,x,h,rfl⟩
 cases m3 with
 | zero=>cases(show(none:Option (Int × Int))=some r from h)
 | succ m3 =>
 rw[W9]at h
 refine qG ?_
 refine Q4 R R R R ?_ ?_
 ·intro c
  replace h:=J7 c h
  refine eN (B8 (C0 R (D7 (A6 (B8 (E3 (qG (A0 R ?_))))))))
  obtain⟨e,ie,h⟩:=H1 h
  refine N8 tb (F0 ie) (V1 ie) R (I4 (y:=E2.d e) tb (U5 (g:=E2.d) ie) R (M5 tb R R R R R (A3 R (I6 _ _ tb R (eN (qG (A2A R R R (B5 (y:=E2.d e) tb R ?_))))))))
  obtain⟨rv,k,h⟩:=H1 h
  refine A2W (vs:=[E2.d e]) (nameh k) namee R R R R (A3 R (eN (B8 (E3 (qG (A0 R ?_))))))
  obtain⟨rv2,k2,h⟩:=H1 h
  refine M6 (A2F k2) eK R R R R ?_ ?_
  ·intro c2
   replace h:=J7 c2 h
   refine A0a R R R (A3 R (eN (C1 R (qG (A1D (.mp 0) R R R (A0 R ?_))))))
   refine B5U (vf:=fun b => .v (.bool b)) (z0:=false) (u := .v (.bool ((A2e seen rv).getD false))) tb R R R R R R R R R R ?_
   with_reducible apply X8
   ·intro c3
    replace h:=J7 c3 h
    refine A3 R (eN (C0 R (qG (A0 R (A3 R (A3 R (eN (C9 (C4 (B2 (C4 (B2 (B2 (C4 (B2 ?_)))))))))))))))
    obtain rfl:=sI h
    exact U4 (t := .d (.tup [vI x,vI 5])) R R R (.cons (.tmp 6) (.cons (.tmp 7) .nil))
   intro c3
   replace h:=ifF c3 h
   refine A3 R (eN (C1 R (D7 (D3 (A6 (B8 (qG (A2A R R R (B5 (y:=E2.d e) tb R ?_)))))))))
   obtain⟨rv3,k3,h⟩:=H1 h
   refine A2W (vs:=[E2.d e]) (resth k3) reste R R R R (A3 R (eN (qG (A0 R ?_))))
   refine V5 R R R R ?_ ?_
   ·intro c4
    replace h:=P1 c4 h
    refine eN (C0 R (qG (A0 R (A0 R (A3 R (A3 R (eN (C9 (B2 (C4 (B2 (B2 (C4 (B2 ?_))))))))))))))
    obtain rfl:=sI h
    exact U4 (t := .d (.tup [vI x,vI rv3])) R R R (.cons (.tmp 6) (.cons (.tmp 7) .nil))
   intro c4
   replace h:=J7 c4 h
   refine eN (C1 R (D7 (A6 (J1 (A1D (.mp 0) R R R (A0 R ?_))))))
   refine B01 (vf:=fun b => .v (.bool b)) (v:=true) (q:=(M0 seen rv true)) ([C3o (M0 seen rv true),bx 2 (.d (E2.d e))]) R R R R R R R R R ?_
   refine Y9 (D3 (A6 (J1 (O1 R (A0 R (eN ?_))))))
   exact⟨m3,⟨[(1,.fn (.func namei) [] (namec.map .d)),(2,.fn (.func resti) [] (restc.map .d)),(6,.d (vI 0)),(7,.d (vI 0)),(8,.mp 0),(14,.d (.arr 2 ((lv).map E2.d))),(15,.d (vI (lv.length:Int))),(16,.d (vI (W (x+1))))],[C3o (M0 seen rv true)]⟩,lS,.vw (κ:=[0]) (vwK R R (.map R .nil) (.hof R (.hof R (.cons R R (.cons R R (.cons R R (.cons R R (.cons R R (.cons R R .nil))))))))),(M0 seen rv true),(W (x+1)),h,R⟩
  intro c2
  replace h:=ifF c2 h
  refine Z9 R R R (A3 R (eN (C0 R (qG (A0 R (A3 R (A3 R (eN (C9 (C4 (B2 (C4 (B2 (B2 (C4 (B2 ?_))))))))))))))))
  obtain rfl:=sI h
  exact U4 (t := .d (.tup [vI x,vI 6])) R R R (.cons (.tmp 6) (.cons (.tmp 7) .nil))
 intro c
 replace h:=P1 (nL c) h
 refine eN (B8 (C1 R (N5 (E4 (E4 ?_)))))
 subst hK3
 refine I5 (A6 (qG (A3 R (A3 R (eN (C9 ?_))))))
 obtain rfl:=sI h
 exact U4 (t := .d (.tup [vI 0,vI 0])) R R R (.cons (.tmp 6) (.cons (.tmp 7) .nil))
def Z7 (F:Nat) (lv:(List ByteArray)) (name:(ByteArray→Option ByteArray)) (rest:(ByteArray→Option Int)) (K:(List (ByteArray × Bool))→Int→Option (Int × Int)):Nat→(List (ByteArray × Bool))→Int→Option (Int × Int)
 | 0,_,_=>none
 | n+1,seen,x=>if x<(lv.length:Int)then((P3 lv x).bind fun e=>(name e).bind fun rv=>(A2y F rv).bind fun rv2=>if rv2=true then(if((A2e seen rv).getD false)=true then(some (x,5))else((rest e).bind fun rv3=>if rv3=0 then(Z7 F lv name rest K n (M0 seen rv true) (W (x+1)))else(some (x,rv3))))else(some (x,6)))else(K seen x)
def A2q (F:Nat) (lv:(List ByteArray)) (name:(ByteArray→Option ByteArray)) (rest:(ByteArray→Option Int)):Option (Int × Int):=Z7 F lv name rest (fun(seen:(List (ByteArray × Bool))) (x:Int)=>some (0,0)) F ([]:List (ByteArray × Bool)) 0
theorem A7F {F:Nat} {lv:(List ByteArray)} {name:(ByteArray→Option ByteArray)} {rest:(ByteArray→Option Int)} {r:(Int × Int)} {namei:Nat} {namec:List D} (nameh:∀ {a0:ByteArray} {r:ByteArray},name a0=some r→PC Tryz.prog namei ([.v (.string a0)]++namec) (.v (.string r))) (namee:Ent Tryz.prog namei) {resti:Nat} {restc:List D} (resth:∀ {a0:ByteArray} {r:Int},rest a0=some r→PC Tryz.prog resti ([.v (.string a0)]++restc) (.v (.int .i64 r))) (reste:Ent Tryz.prog resti) (h:A2q F lv name rest=some r):SCR Tryz.prog 115 [.d (.arr 1 ((lv).map vS)),.fn (.func namei) [] (namec.map .d),.fn (.func resti) [] (restc.map .d)] [] (.d (.tup [.v (.int .i64 r.1),.v (.int .i64 r.2)])) (List.map some []):=by
 rw[A2q]at h
 refine SC.of_sw Tryz.func115 R R R ?_
 dsimp only[L8,List.map]
 refine qG (A3 R (A3 R (eN (qG (A58 R R R (B3e (.mp 0) R R R (eN (B8 (qG (A0 R (I7 tb R (A0 R (eN (E3 ?_))))))))))))))
 obtain⟨K3,hK3,h⟩:∃ K,K=_∧Z7 F lv name rest K F ([]:List (ByteArray × Bool)) 0=some r:=⟨_,rfl,h⟩
 refine M2 (fun m st=>∃ (seen:(List (ByteArray × Bool))) (x:Int),Z7 F lv name rest K3 m seen x=some r∧st=⟨[(1,.fn (.func namei) [] (namec.map .d)),(2,.fn (.func resti) [] (restc.map .d)),(6,.d (vI 0)),(7,.d (vI 0)),(8,.mp 0),(14,.d (.arr 1 ((lv).map vS))),(15,.d (vI (lv.length:Int))),(16,.d (vI x))],[C3o seen]⟩) (.prn [1,2,6,7,8,14,15,16] R) ⟨([]:List (ByteArray × Bool)),0,h,R⟩ ?_
 clear h
 rintro m3 st ⟨seen,x,h,rfl⟩
 cases m3 with
 | zero=>cases(show(none:Option (Int × Int))=some r from h)
 | succ m3 =>
 rw[Z7]at h
 refine qG ?_
 refine Q4 R R R R ?_ ?_
 ·intro c
  replace h:=J7 c h
  refine eN (B8 (C0 R (D7 (A6 (B8 (E3 (qG (A0 R ?_))))))))
  obtain⟨e,ie,h⟩:=H1 h
  refine N8 tb (F0 ie) (V1 ie) R (I4 (y := .v (.string e)) tb (U5 (g:=vS) ie) R (A3 R (A3 R (eN (qG (A2A R R R (A0 R ?_)))))))
  obtain⟨rv,k,h⟩:=H1 h
  refine A2W (vs:=[.v (.string e)]) (nameh k) namee R R R R (A3 R (eN (B8 (E3 (qG (A0 R ?_))))))
  obtain⟨rv2,k2,h⟩:=H1 h
  refine M6 (A2F k2) eK R R R R ?_ ?_
  ·intro c2
   replace h:=J7 c2 h
   refine A0a R R R (A3 R (eN (C1 R (qG (A1D (.mp 0) R R R (A0 R ?_))))))
   refine B5U (vf:=fun b => .v (.bool b)) (z0:=false) (u := .v (.bool ((A2e seen rv).getD false))) tb R R R R R R R R R R ?_
   with_reducible apply X8
   ·intro c3
    replace h:=J7 c3 h
    refine A3 R (eN (C0 R (qG (A0 R (A3 R (A3 R (eN (C9 (C4 (B2 (C4 (B2 (B2 (C4 (B2 ?_)))))))))))))))
    obtain rfl:=sI h
    exact U4 (t := .d (.tup [vI x,vI 5])) R R R (.cons (.tmp 6) (.cons (.tmp 7) .nil))
   intro c3
   replace h:=ifF c3 h
   refine A3 R (eN (C1 R (D7 (D3 (A6 (B8 (qG (A2A R R R (A0 R ?_)))))))))
   obtain⟨rv3,k3,h⟩:=H1 h
   refine A2W (vs:=[.v (.string e)]) (resth k3) reste R R R R (A3 R (eN (qG (A0 R ?_))))
   refine V5 R R R R ?_ ?_
   ·intro c4
    replace h:=P1 c4 h
    refine eN (C0 R (qG (A0 R (A0 R (A3 R (A3 R (eN (C9 (B2 (C4 (B2 (B2 (C4 (B2 ?_))))))))))))))
    obtain rfl:=sI h
    exact U4 (t := .d (.tup [vI x,vI rv3])) R R R (.cons (.tmp 6) (.cons (.tmp 7) .nil))
   intro c4
   replace h:=J7 c4 h
   refine eN (C1 R (D7 (A6 (J1 (A1D (.mp 0) R R R (A0 R ?_))))))
   refine B01 (vf:=fun b => .v (.bool b)) (v:=true) (q:=(M0 seen rv true)) ([C3o (M0 seen rv true)]) R R R R R R R R R ?_
   refine Y9 (D3 (A6 (J1 (O1 R (A0 R (eN ?_))))))
   exact⟨m3,_,lS,.prn [1,2,6,7,8,14,15,16] R,(M0 seen rv true),(W (x+1)),h,R⟩
  intro c2
  replace h:=ifF c2 h
  refine Z9 R R R (A3 R (eN (C0 R (qG (A0 R (A3 R (A3 R (eN (C9 (C4 (B2 (C4 (B2 (B2 (C4 (B2 ?_))))))))))))))))
  obtain rfl:=sI h
  exact U4 (t := .d (.tup [vI x,vI 6])) R R R (.cons (.tmp 6) (.cons (.tmp 7) .nil))
 intro c
 replace h:=P1 (nL c) h
 refine eN (B8 (C1 R (N5 (E4 (E4 ?_)))))
 subst hK3
 refine I5 (A6 (qG (A3 R (A3 R (eN (C9 ?_))))))
 obtain rfl:=sI h
 exact U4 (t := .d (.tup [vI 0,vI 0])) R R R (.cons (.tmp 6) (.cons (.tmp 7) .nil))
def X9 (F:Nat) (lv:(List D1)) (name:(D1→Option ByteArray)) (rest:(D1→Option Int)) (K:(List (ByteArray × Bool))→Int→Option (Int × Int)):Nat→(List (ByteArray × Bool))→Int→Option (Int × Int)
 | 0,_,_=>none
 | n+1,seen,x=>if x<(lv.length:Int)then((P3 lv x).bind fun e=>(name e).bind fun rv=>(A2y F rv).bind fun rv2=>if rv2=true then(if((A2e seen rv).getD false)=true then(some (x,5))else((rest e).bind fun rv3=>if rv3=0 then(X9 F lv name rest K n (M0 seen rv true) (W (x+1)))else(some (x,rv3))))else(some (x,6)))else(K seen x)
def A1V (F:Nat) (lv:(List D1)) (name:(D1→Option ByteArray)) (rest:(D1→Option Int)):Option (Int × Int):=X9 F lv name rest (fun(seen:(List (ByteArray × Bool))) (x:Int)=>some (0,0)) F ([]:List (ByteArray × Bool)) 0
theorem A70 {F:Nat} {lv:(List D1)} {name:(D1→Option ByteArray)} {rest:(D1→Option Int)} {r:(Int × Int)} {namei:Nat} {namec:List D} (nameh:∀ {a0:D1} {r:ByteArray},name a0=some r→PC Tryz.prog namei ([D1.d a0]++namec) (.v (.string r))) (namee:Ent Tryz.prog namei) {resti:Nat} {restc:List D} (resth:∀ {a0:D1} {r:Int},rest a0=some r→PC Tryz.prog resti ([D1.d a0]++restc) (.v (.int .i64 r))) (reste:Ent Tryz.prog resti) (h:A1V F lv name rest=some r):SCR Tryz.prog 118 [.d (.arr 6 ((lv).map D1.d)),.fn (.func namei) [] (namec.map .d),.fn (.func resti) [] (restc.map .d)] [] (.d (.tup [.v (.int .i64 r.1),.v (.int .i64 r.2)])) (List.map some []):=by
 rw[A1V]at h
 refine SC.of_sw Tryz.func118 R R R ?_
 dsimp only[L8,List.map]
 refine qG (A3 R (A3 R (eN (qG (A58 R R R (B3e (.mp 0) R R R (eN (B8 (qG (A0 R (I7 tb R (A0 R (eN (E3 ?_))))))))))))))
 obtain⟨K3,hK3,h⟩:∃ K,K=_∧X9 F lv name rest K F ([]:List (ByteArray × Bool)) 0=some r:=⟨_,rfl,h⟩
 refine M2 (fun m st=>∃ (seen:(List (ByteArray × Bool))) (x:Int),X9 F lv name rest K3 m seen x=some r∧st=⟨[(1,.fn (.func namei) [] (namec.map .d)),(2,.fn (.func resti) [] (restc.map .d)),(6,.d (vI 0)),(7,.d (vI 0)),(8,.mp 0),(14,.d (.arr 6 ((lv).map D1.d))),(15,.d (vI (lv.length:Int))),(16,.d (vI x))],[C3o seen]⟩) (.prn [1,2,6,7,8,14,15,16] R) ⟨([]:List (ByteArray × Bool)),0,h,R⟩ ?_
 clear h
 rintro m3 st ⟨seen,x,h,rfl⟩
 cases m3 with
 | zero=>cases(show(none:Option (Int × Int))=some r from h)
 | succ m3 =>
 rw[X9]at h
 refine qG ?_
 refine Q4 R R R R ?_ ?_
 ·intro c
  replace h:=J7 c h
  refine eN (B8 (C0 R (D7 (A6 (B8 (E3 (qG (A0 R ?_))))))))
  obtain⟨e,ie,h⟩:=H1 h
  refine N8 tb (F0 ie) (V1 ie) R (I4 (y:=D1.d e) tb (U5 (g:=D1.d) ie) R (M5 tb R R R R R (A3 R (I6 _ _ tb R (eN (qG (A2A R R R (B5 (y:=D1.d e) tb R ?_))))))))
  obtain⟨rv,k,h⟩:=H1 h
  refine A2W (vs:=[D1.d e]) (nameh k) namee R R R R (A3 R (eN (B8 (E3 (qG (A0 R ?_))))))
  obtain⟨rv2,k2,h⟩:=H1 h
  refine M6 (A2F k2) eK R R R R ?_ ?_
  ·intro c2
   replace h:=J7 c2 h
   refine A0a R R R (A3 R (eN (C1 R (qG (A1D (.mp 0) R R R (A0 R ?_))))))
   refine B5U (vf:=fun b => .v (.bool b)) (z0:=false) (u := .v (.bool ((A2e seen rv).getD false))) tb R R R R R R R R R R ?_
   with_reducible apply X8
   ·intro c3
    replace h:=J7 c3 h
    refine A3 R (eN (C0 R (qG (A0 R (A3 R (A3 R (eN (C9 (C4 (B2 (C4 (B2 (B2 (C4 (B2 ?_)))))))))))))))
    obtain rfl:=sI h
    exact U4 (t := .d (.tup [vI x,vI 5])) R R R (.cons (.tmp 6) (.cons (.tmp 7) .nil))
   intro c3
   replace h:=ifF c3 h
   refine A3 R (eN (C1 R (D7 (D3 (A6 (B8 (qG (A2A R R R (B5 (y:=D1.d e) tb R ?_)))))))))
   obtain⟨rv3,k3,h⟩:=H1 h
   refine A2W (vs:=[D1.d e]) (resth k3) reste R R R R (A3 R (eN (qG (A0 R ?_))))
   refine V5 R R R R ?_ ?_
   ·intro c4
    replace h:=P1 c4 h
    refine eN (C0 R (qG (A0 R (A0 R (A3 R (A3 R (eN (C9 (B2 (C4 (B2 (B2 (C4 (B2 ?_))))))))))))))
    obtain rfl:=sI h
    exact U4 (t := .d (.tup [vI x,vI rv3])) R R R (.cons (.tmp 6) (.cons (.tmp 7) .nil))
   intro c4
   replace h:=J7 c4 h
   refine eN (C1 R (D7 (A6 (J1 (A1D (.mp 0) R R R (A0 R ?_))))))
   refine B01 (vf:=fun b => .v (.bool b)) (v:=true) (q:=(M0 seen rv true)) ([C3o (M0 seen rv true),bx 6 (.d (D1.d e))]) R R R R R R R R R ?_
   refine Y9 (D3 (A6 (J1 (O1 R (A0 R (eN ?_))))))
   exact⟨m3,⟨[(1,.fn (.func namei) [] (namec.map .d)),(2,.fn (.func resti) [] (restc.map .d)),(6,.d (vI 0)),(7,.d (vI 0)),(8,.mp 0),(14,.d (.arr 6 ((lv).map D1.d))),(15,.d (vI (lv.length:Int))),(16,.d (vI (W (x+1))))],[C3o (M0 seen rv true)]⟩,lS,.vw (κ:=[0]) (vwK R R (.map R .nil) (.hof R (.hof R (.cons R R (.cons R R (.cons R R (.cons R R (.cons R R (.cons R R .nil))))))))),(M0 seen rv true),(W (x+1)),h,R⟩
  intro c2
  replace h:=ifF c2 h
  refine Z9 R R R (A3 R (eN (C0 R (qG (A0 R (A3 R (A3 R (eN (C9 (C4 (B2 (C4 (B2 (B2 (C4 (B2 ?_))))))))))))))))
  obtain rfl:=sI h
  exact U4 (t := .d (.tup [vI x,vI 6])) R R R (.cons (.tmp 6) (.cons (.tmp 7) .nil))
 intro c
 replace h:=P1 (nL c) h
 refine eN (B8 (C1 R (N5 (E4 (E4 ?_)))))
 subst hK3
 refine I5 (A6 (qG (A3 R (A3 R (eN (C9 ?_))))))
 obtain rfl:=sI h
 exact U4 (t := .d (.tup [vI 0,vI 0])) R R R (.cons (.tmp 6) (.cons (.tmp 7) .nil))
def A30 (F:Nat) (p:D5) (zone:Int):Option (Int × D5):=some (zone,p)
theorem A7k {F:Nat} {p:D5} {zone:Int} {r:(Int × D5)} (h:A30 F p zone=some r):SCR Tryz.prog 74 (List.map T.d [D5.d p,.v (.int .i64 zone)]) [] (.fn (.func 148) [] [.ref 0 1 0 0,.ref 1 7 0 0]) (List.map some [⟨1,[.d (.v (.int .i64 r.1))]⟩,⟨7,[.d (D5.d r.2)]⟩]):=by
 rw[A30]at h
 refine SC.of_sw Tryz.func74 R R R ?_
 dsimp only[L8,List.map]
 refine qG (M9 R (M9 R (A3 R (eN (qG (A3E R R R R (B3d R R R (eN (C9 ?_)))))))))
 obtain rfl:=sI h
 exact f2 [1,0] (.cons R R (.cons R R .nil)) R (.cons (.tmp 4) .nil) R
def A4g (F:Nat) (x:Int):Option (Int × Int × Int):=some (3,x,4)
def A1S (F:Nat) (t:D5):Option (Int × Int × Int):=(A0m F t.wait 0 6000).bind fun rv10=>if rv10=true then(some (7,0,7))else(some (0,0,0))
def A1U (F:Nat) (rv9:(Int × D5)) (e2:F6) (K:Int→Option (Int × Int × Int)):Nat→Int→Option (Int × Int × Int)
 | 0,_=>none
 | n+1,x2=>if x2<(rv9.2.squibs.length:Int)then((P3 rv9.2.squibs x2).bind fun e3=>if(W ((W ((max (max (W (e2.L5-e3.A4s)) (W (e3.A4s-e2.L4))) 0)*(max (max (W (e2.L5-e3.A4s)) (W (e3.A4s-e2.L4))) 0)))+(W ((max (max (W (e2.L7-e3.A4t)) (W (e3.A4t-e2.L6))) 0)*(max (max (W (e2.L7-e3.A4t)) (W (e3.A4t-e2.L6))) 0)))))<(W (e3.clear*e3.clear))then(some (7,0,2))else(A1U F rv9 e2 K n (W (x2+1))))else(K x2)
def A22 (F:Nat) (t:D5) (K:Int→Option (Int × Int × Int)):Nat→Int→Option (Int × Int × Int)
 | 0,_=>none
 | n+1,x=>if x<(t.doors.length:Int)then((P3 t.doors x).bind fun e=>(A0m F e.a (-1) (W ((t.zones.length:Int)-1))).bind fun rv3=>if rv3=true then(A4g F x)else((A0m F e.b (-1) (W ((t.zones.length:Int)-1))).bind fun rv4=>if rv4=true then(A4g F x)else(if e.a=e.b then(some (3,x,2))else(A22 F t K n (W (x+1))))))else(K x)
def A4h (F:Nat) (t:D5):Option (Int × Int × Int):=(A2p F t.zones (fun a0=>A4U F a0) (fun a0=>A6C F a0)).bind fun rv2=>if rv2.2=0 then(A22 F t (fun(x:Int)=>(A1x F t.people (fun a0=>A3J F a0) (fun a0=>A3K F a0)).bind fun rv5=>if rv5.2=0 then((A2q F t.keys (fun a0=>A3L F a0) (fun a0=>A3M F a0)).bind fun rv6=>if rv6.2=0 then((A1V F t.squibs (fun a0=>A3N F a0) (fun a0=>A3O F a0 t)).bind fun rv7=>if rv7.2=0 then((A0m F t.panel 0 (W ((t.zones.length:Int)-1))).bind fun rv8=>if rv8=true then(some (7,0,4))else((A30 F t t.panel).bind fun rv9=>if rv9.1<0 then(A1S F t)else((P3 rv9.2.zones rv9.1).bind fun e2=>A1U F rv9 e2 (fun(x2:Int)=>A1S F t) F 0)))else(some (6,rv7.1,rv7.2)))else(some (5,rv6.1,rv6.2)))else(some (4,rv5.1,rv5.2))) F 0)else(some (2,rv2.1,rv2.2))
def A1T (F:Nat) :Option (Int × Int × Int):=some (1,0,3)
def A43 (F:Nat) (t:D5):Option (Int × Int × Int):=(A0m F (W ((t.zones.length:Int)-1)) 0 7).bind fun rv=>if rv=true then(A1T F)else(if 24<(t.doors.length:Int)then(A1T F)else(if 8<(t.people.length:Int)then(A1T F)else(if 8<(t.keys.length:Int)then(A1T F)else(if 6<(t.squibs.length:Int)then(A1T F)else(A4h F t)))))
theorem A7f {F:Nat} {t:D5} {r:(Int × Int × Int)} (h:A43 F t=some r):PC Tryz.prog 60 [D5.d t] (.tup [.v (.int .i64 r.1),.v (.int .i64 r.2.1),.v (.int .i64 r.2.2)]):=by
 rw[A43]at h
 refine SC.of_swm Tryz.func60 R R R ?_
 dsimp only[L8,List.map]
 refine S3 ?_
 refine W3 fun df=>?_
 refine J1 (M9 R (M5 tb R R R R R (M5 tb R R R R R (M5 tb R R R R R (eN (S3 ?_))))))
 refine W3 fun df=>?_
 refine J1 (C8 tb R (B5 (y := .arr 8 ((t.zones).map F6.d)) tb R (I7 tb R (A1n R R R R (A3 R (eN (S3 ?_)))))))
 refine A5V (fun zz:Unit=>A4h F t=some r) (fun zz:Unit=>⟨[(1,.ref 0 7 0 0),(2,.ref 1 1 0 0),(3,.ref 2 1 0 0),(4,.ref 3 1 0 0),(5,.d (vI (W ((t.zones.length:Int)-1))))],[bx 7 (.d (D5.d t)),c1 (vI 0),c1 (vI 0),c1 (vI 0)]⟩) ?_ ?_
 ·clear h
  rintro⟨⟩ h
  rw[A4h]at h
  refine S3 ?_
  refine W3 fun df=>?_
  refine qG (C8 tb R (B5 (y := .arr 8 ((t.zones).map F6.d)) tb R ?_))
  obtain⟨rv2,k2,h⟩:=H1 h
  refine A0t (t' := .d (.tup [vI rv2.1,vI rv2.2])) (news':=[]) (A7E (name:=(fun a0=>A4U F a0)) (namec:=[]) (nameh:=fun hr=>B1d hr) (namee := .of kR) (rest:=(fun a0=>A6C F a0)) (restc:=[]) (resth:=fun hr=>B4d hr) (reste := .of kR) k2) R .nil eK R R ((.cons (.d (.d _)) (.cons .fnc (.cons .fnc .nil)))) R .nil R R R ?_
  simp only[List.map_nil,List.append_nil]
  refine A0 R (Q1 (t:=vI rv2.1) R R R R (Q1 (t:=vI rv2.2) R R R R (I6 _ _ tb R (I6 _ _ tb R (eN (qG (B5 (y:=vI rv2.2) tb R ?_)))))))
  refine V5 R R R R ?_ ?_
  ·intro c6
   replace h:=P1 c6 h
   refine eN (C0 R (B8 (T1 kR (B5 (y:=vI rv2.1) tb R (B5 (y:=vI rv2.2) tb R (I6 _ _ tb R (I6 _ _ tb R (I6 _ _ tb R (I0 kR (A6 (C9 (B2 ?_))))))))))))
   obtain rfl:=sI h
   exact U4 (t := .d (.tup [vI 2,vI rv2.1,vI rv2.2])) R R R (.cons (rc tb R) (.cons (rc tb R) (.cons (rc tb R) .nil)))
  intro c6
  replace h:=J7 c6 h
  refine eN (C1 R (D7 (A6 (S3 ?_))))
  refine W3 fun df=>?_
  refine qG (C8 tb R (B5 (y := .arr 2 ((t.doors).map G6.d)) tb R (I7 tb R (A0 R (eN (E3 ?_))))))
  obtain⟨K3,hK3,h⟩:∃ K,K=_∧A22 F t K F 0=some r:=⟨_,rfl,h⟩
  refine M2 (fun m st=>∃ (x:Int),A22 F t K3 m x=some r∧st=⟨[(1,.ref 0 7 0 0),(2,.ref 1 1 0 0),(3,.ref 2 1 0 0),(4,.ref 3 1 0 0),(5,.d (vI (W ((t.zones.length:Int)-1)))),(49,.d (.arr 2 ((t.doors).map G6.d))),(50,.d (vI (t.doors.length:Int))),(51,.d (vI x))],[bx 7 (.d (D5.d t)),c1 (vI 0),c1 (vI rv2.1),c1 (vI rv2.2)]⟩) (.prn [1,2,3,4,5,49,50,51] R) ⟨0,h,R⟩ ?_
  clear h
  rintro m3 st ⟨x,h,rfl⟩
  cases m3 with
  | zero=>cases(show(none:Option (Int × Int × Int))=some r from h)
  | succ m3 =>
  rw[A22]at h
  refine qG ?_
  refine Q4 R R R R ?_ ?_
  ·intro c7
   replace h:=J7 c7 h
   refine eN (B8 (C0 R (D7 (A6 (B8 (E3 (qG (A0 R ?_))))))))
   obtain⟨e,ie,h⟩:=H1 h
   refine N8 tb (F0 ie) (V1 ie) R (I4 (y:=G6.d e) tb (U5 (g:=G6.d) ie) R (M5 tb R R R R R (A3 R (I6 _ _ tb R (eN (E3 (B8 ?_)))))))
   refine W5 (fun zz:Unit=>A4g F x=some r) (fun zz:Unit=>⟨[(1,.ref 0 7 0 0),(2,.ref 1 1 0 0),(3,.ref 2 1 0 0),(4,.ref 3 1 0 0),(5,.d (vI (W ((t.zones.length:Int)-1)))),(6,.d (vI x)),(7,.ref 4 2 0 0),(49,.d (.arr 2 ((t.doors).map G6.d))),(50,.d (vI (t.doors.length:Int))),(51,.d (vI x)),(56,.d (.v (.bool true)))],[bx 7 (.d (D5.d t)),c1 (vI 0),c1 (vI rv2.1),c1 (vI rv2.2),bx 2 (.d (G6.d e))]⟩) ?_ ?_
   ·clear h
    rintro⟨⟩ h
    rw[A4g]at h
    refine C0 R (qG (A0 R (I6 _ _ tb R (I6 _ _ tb R (I6 _ _ tb R (eN (C9 (C4 (C4 (B2 (B2 (C4 (B2 ?_)))))))))))))
    obtain rfl:=sI h
    exact U4 (t := .d (.tup [vI 3,vI x,vI 4])) R R R (.cons (rc tb R) (.cons (rc tb R) (.cons (rc tb R) .nil)))
   refine J1 (C8 tb R (B5 (y:=vI e.a) tb R (A0 R ?_)))
   obtain⟨rv3,k3,h⟩:=H1 h
   refine M6 (V2 k3) eK R R R R ?_ ?_
   ·intro c8
    replace h:=J7 c8 h
    refine A0 R (L9 4 R (D6 R (A3 R (eN ?_))))
    exact .inl ⟨(),h,.prn [1,2,3,4,5,6,7,49,50,51,56] R⟩
   intro c8
   replace h:=ifF c8 h
   refine A0 R (C8 tb R (B5 (y:=vI e.b) tb R (A0 R ?_)))
   obtain⟨rv4,k4,h⟩:=H1 h
   refine M6 (V2 k4) eK R R R R ?_ ?_
   ·intro c9
    replace h:=J7 c9 h
    refine D0 R (A3 R (eN ?_))
    exact .inl ⟨(),h,.prn [1,2,3,4,5,6,7,49,50,51,56] R⟩
   intro c9
   replace h:=ifF c9 h
   refine D0 R (A3 R (eN (.inr (C1 R (qG (C8 tb R (B5 (y:=vI e.a) tb R (C8 tb R (B5 (y:=vI e.b) tb R ?_)))))))))
   refine Z3 R R R R ?_ ?_
   ·intro c10
    replace h:=J7 c10 h
    refine A3 R (eN (C0 R (qG (A0 R (I6 _ _ tb R (I6 _ _ tb R (I6 _ _ tb R (eN (C9 (C4 (C4 (B2 (B2 (C4 (B2 ?_)))))))))))))))
    obtain rfl:=sI h
    exact U4 (t := .d (.tup [vI 3,vI x,vI 2])) R R R (.cons (rc tb R) (.cons (rc tb R) (.cons (rc tb R) .nil)))
   intro c10
   replace h:=P1 c10 h
   refine A3 R (eN (C1 R (D7 (D3 (D3 (A6 (J1 (O1 R (A0 R (eN ?_))))))))))
   exact⟨m3,⟨[(1,.ref 0 7 0 0),(2,.ref 1 1 0 0),(3,.ref 2 1 0 0),(4,.ref 3 1 0 0),(5,.d (vI (W ((t.zones.length:Int)-1)))),(49,.d (.arr 2 ((t.doors).map G6.d))),(50,.d (vI (t.doors.length:Int))),(51,.d (vI (W (x+1))))],[bx 7 (.d (D5.d t)),c1 (vI 0),c1 (vI rv2.1),c1 (vI rv2.2)]⟩,lS,.vw (κ:=[0,1,2,3]) (vK (.cons R R (.cons R R (.cons R R (.cons R R .nil)))) R),(W (x+1)),h,R⟩
  intro c7
  replace h:=P1 (nL c7) h
  refine eN (B8 (C1 R (N5 (E4 (E4 ?_)))))
  subst hK3
  refine I5 (A6 (S3 ?_))
  refine W3 fun df=>?_
  refine J1 (C8 tb R (B5 (y := .arr 2 ((t.people).map E2.d)) tb R ?_))
  obtain⟨rv5,k5,h⟩:=H1 h
  refine A0t (t' := .d (.tup [vI rv5.1,vI rv5.2])) (news':=[]) (A7j (name:=(fun a0=>A3J F a0)) (namec:=[]) (nameh:=fun hr=>B1e hr) (namee := .of kR) (rest:=(fun a0=>A3K F a0)) (restc:=[]) (resth:=fun hr=>B1f hr) (reste := .of kR) k5) R .nil eK R R ((.cons (.d (.d _)) (.cons .fnc (.cons .fnc .nil)))) R .nil R R R ?_
  simp only[List.map_nil,List.append_nil]
  refine A0 R (Q1 (t:=vI rv5.1) R R R R (Q1 (t:=vI rv5.2) R R R R (I6 _ _ tb R (I6 _ _ tb R (eN (S3 ?_))))))
  refine W3 fun df=>?_
  refine qG (B5 (y:=vI rv5.2) tb R ?_)
  refine V5 R R R R ?_ ?_
  ·intro c11
   replace h:=P1 c11 h
   refine eN (C0 R (B8 (T1 kR (B5 (y:=vI rv5.1) tb R (B5 (y:=vI rv5.2) tb R (I6 _ _ tb R (I6 _ _ tb R (I6 _ _ tb R (I0 kR (A6 (C9 (B2 ?_))))))))))))
   obtain rfl:=sI h
   exact U4 (t := .d (.tup [vI 4,vI rv5.1,vI rv5.2])) R R R (.cons (rc tb R) (.cons (rc tb R) (.cons (rc tb R) .nil)))
  intro c11
  replace h:=J7 c11 h
  refine eN (C1 R (D7 (A6 (S3 ?_))))
  refine W3 fun df=>?_
  refine qG (C8 tb R (B5 (y := .arr 1 ((t.keys).map vS)) tb R ?_))
  obtain⟨rv6,k6,h⟩:=H1 h
  refine A0t (t' := .d (.tup [vI rv6.1,vI rv6.2])) (news':=[]) (A7F (name:=(fun a0=>A3L F a0)) (namec:=[]) (nameh:=fun hr=>B1g hr) (namee := .of kR) (rest:=(fun a0=>A3M F a0)) (restc:=[]) (resth:=fun hr=>B1h hr) (reste := .of kR) k6) R .nil eK R R ((.cons (.d (.d _)) (.cons .fnc (.cons .fnc .nil)))) R .nil R R R ?_
  simp only[List.map_nil,List.append_nil]
  refine A0 R (Q1 (t:=vI rv6.1) R R R R (Q1 (t:=vI rv6.2) R R R R (I6 _ _ tb R (I6 _ _ tb R (eN (qG (B5 (y:=vI rv6.2) tb R ?_)))))))
  refine V5 R R R R ?_ ?_
  ·intro c12
   replace h:=P1 c12 h
   refine eN (C0 R (B8 (T1 kR (B5 (y:=vI rv6.1) tb R (B5 (y:=vI rv6.2) tb R (I6 _ _ tb R (I6 _ _ tb R (I6 _ _ tb R (I0 kR (A6 (C9 (B2 ?_))))))))))))
   obtain rfl:=sI h
   exact U4 (t := .d (.tup [vI 5,vI rv6.1,vI rv6.2])) R R R (.cons (rc tb R) (.cons (rc tb R) (.cons (rc tb R) .nil)))
  intro c12
  replace h:=J7 c12 h
  refine eN (C1 R (D7 (A6 (S3 ?_))))
  refine W3 fun df=>?_
  refine qG (C8 tb R (B5 (y := .arr 6 ((t.squibs).map D1.d)) tb R (A3E R R R R ?_)))
  obtain⟨rv7,k7,h⟩:=H1 h
  refine A0t (t' := .d (.tup [vI rv7.1,vI rv7.2])) (news':=[]) (A70 (name:=(fun a0=>A3N F a0)) (namec:=[]) (nameh:=fun hr=>B1i hr) (namee := .of kR) (rest:=(fun a0=>A3O F a0 t)) (restc:=[.el 7 [D5.d t] 0 0]) (resth:=fun hr=>B1j hr) (reste := .of kR) k7) R .nil eK R R ((.cons (.d (.d _)) (.cons .fnc (.cons (.fnC (.cons (.d (.ref R (.d _))) .nil)) .nil)))) R .nil R R R ?_
  simp only[List.map_nil,List.append_nil]
  refine A0 R (Q1 (t:=vI rv7.1) R R R R (Q1 (t:=vI rv7.2) R R R R (I6 _ _ tb R (I6 _ _ tb R (eN (qG (B5 (y:=vI rv7.2) tb R ?_)))))))
  refine V5 R R R R ?_ ?_
  ·intro c13
   replace h:=P1 c13 h
   refine eN (C0 R (B8 (T1 kR (B5 (y:=vI rv7.1) tb R (B5 (y:=vI rv7.2) tb R (I6 _ _ tb R (I6 _ _ tb R (I6 _ _ tb R (I0 kR (A6 (C9 (B2 ?_))))))))))))
   obtain rfl:=sI h
   exact U4 (t := .d (.tup [vI 6,vI rv7.1,vI rv7.2])) R R R (.cons (rc tb R) (.cons (rc tb R) (.cons (rc tb R) .nil)))
  intro c13
  replace h:=J7 c13 h
  refine eN (C1 R (D7 (A6 (S3 ?_))))
  refine W3 fun df=>?_
  refine qG (C8 tb R (B5 (y:=vI t.panel) tb R (A0 R ?_)))
  obtain⟨rv8,k8,h⟩:=H1 h
  refine M6 (V2 k8) eK R R R R ?_ ?_
  ·intro c14
   replace h:=J7 c14 h
   refine eN (C0 R (qG (I6 _ _ tb R (I6 _ _ tb R (I6 _ _ tb R (eN (C9 (B2 ?_))))))))
   obtain rfl:=sI h
   exact U4 (t := .d (.tup [vI 7,vI 0,vI 4])) R R R (.cons (rc tb R) (.cons (rc tb R) (.cons (rc tb R) .nil)))
  intro c14
  replace h:=ifF c14 h
  refine eN (C1 R (D7 (A6 (S3 ?_))))
  refine A5V (fun zz:Unit=>A1S F t=some r) (fun zz:Unit=>⟨[(1,.ref 0 7 0 0),(2,.ref 1 1 0 0),(3,.ref 2 1 0 0),(4,.ref 3 1 0 0)],[bx 7 (.d (D5.d t)),c1 (vI 0),c1 (vI rv7.1),c1 (vI rv7.2)]⟩) ?_ ?_
  ·clear h
   rintro⟨⟩ h
   rw[A1S]at h
   refine W3 fun df=>?_
   refine B8 (qG (C8 tb R (B5 (y:=vI t.wait) tb R ?_)))
   obtain⟨rv10,k10,h⟩:=H1 h
   refine M6 (V2 k10) eK R R R R ?_ ?_
   ·intro c18
    replace h:=J7 c18 h
    refine eN (C0 R (qG (I6 _ _ tb R (I6 _ _ tb R (I6 _ _ tb R (eN (C9 (B2 ?_))))))))
    obtain rfl:=sI h
    exact U4 (t := .d (.tup [vI 7,vI 0,vI 7])) R R R (.cons (rc tb R) (.cons (rc tb R) (.cons (rc tb R) .nil)))
   intro c18
   replace h:=ifF c18 h
   refine eN (C1 R (D7 (A6 (qG (I6 _ _ tb R (I6 _ _ tb R (I6 _ _ tb R (eN (C9 ?_)))))))))
   obtain rfl:=sI h
   exact U4 (t := .d (.tup [vI 0,vI 0,vI 0])) R R R (.cons (rc tb R) (.cons (rc tb R) (.cons (rc tb R) .nil)))
  refine S3 ?_
  refine W3 fun df=>?_
  refine J1 (B5 (y:=D5.d t) tb R (C8 tb R (B5 (y:=vI t.panel) tb R ?_)))
  obtain⟨rv9,k9,h⟩:=H1 h
  refine A2X (t' := .fn (.func 148) [] [.ref 4 1 0 0,.ref 5 7 0 0]) (news':=[⟨1,[.d (vI rv9.1)]⟩,⟨7,[.d (D5.d rv9.2)]⟩]) (A7k k9) eK R R R ((.cons R (.cons R .nil))) R R R (eN (A5A ?_))
  refine A9S eK Tryz.func148 R R R R R R fun lb=>?_
  simp only[L8,Nat.zero_add,Nat.reduceAdd]
  refine U7 (U7 (A1h (A0u (B5 (y:=vI rv9.1) tb R ?_))))
  refine Q4 R R R R ?_ ?_
  ·intro c15
   replace h:=J7 c15 h
   refine T7 (I8 (A3R R (A9v (A4F ?_))))
   refine⟨R,[bx 7 (.d (D5.d t)),c1 (vI 0),c1 (vI rv7.1),c1 (vI rv7.2),c1 (vI rv9.1),bx 7 (.d (D5.d rv9.2))],[0,1,2,3,4,5],(vK (.cons R R (.cons R R (.cons R R (.cons R R (.cons R R (.cons R R .nil)))))) R),?_⟩
   refine D3 (A6 ?_)
   exact .inl ⟨(),h,.vw (κ:=[0,1,2,3]) (vK (.cons R R (.cons R R (.cons R R (.cons R R .nil)))) R)⟩
  intro c15
  replace h:=P1 (nL c15) h
  refine T7 (I8 (A1K R (A2O (I8 (U7 (A1h (A0u (C8 tb R (B5 (y := .arr 8 ((rv9.2.zones).map F6.d)) tb R (B5 (y:=vI rv9.1) tb R ?_))))))))))
  obtain⟨e2,ie2,h⟩:=H1 h
  refine N8 tb (F0 ie2) (V1 ie2) R (M4 tb R (I4 (y := .agg [vI e2.L5,vI e2.L4,vI e2.L7,vI e2.L6]) tb (U5 (g:=F6.d) ie2) R (M5 tb R R R R R (I6 _ _ tb R (T7 (I8 (U7 (A1h (A0u (C8 tb R (B5 (y := .arr 6 ((rv9.2.squibs).map D1.d)) tb R (I7 tb R (A0 R (T7 (I8 (A59 ?_))))))))))))))))
  obtain⟨K7,hK7,h⟩:∃ K,K=_∧A1U F rv9 e2 K F 0=some r:=⟨_,rfl,h⟩
  refine A9Q (fun m ph st=>∃ (x2:Int),A1U F rv9 e2 K7 m x2=some r∧ph=SX.norm∧st=⟨[(0,.d (.v (.func (.yield lb) #[] #[]))),(4,.ref 6 4 0 0),(18,.d (.arr 6 ((rv9.2.squibs).map D1.d))),(19,.d (vI (rv9.2.squibs.length:Int))),(20,.d (vI x2))],[bx 7 (.d (D5.d t)),c1 (vI 0),c1 (vI rv7.1),c1 (vI rv7.2),c1 (vI rv9.1),bx 7 (.d (D5.d rv9.2)),bx 4 (.d (.agg [vI e2.L5,vI e2.L4,vI e2.L7,vI e2.L6]))]⟩) (.prn [0,4,18,19,20] R) ⟨0,h,R,R⟩ ?_
  clear h
  rintro m7 ph st ⟨x2,h,rfl,rfl⟩
  cases m7 with
  | zero=>cases(show(none:Option (Int × Int × Int))=some r from h)
  | succ m7 =>
  rw[A1U]at h
  refine U7 (A1h (A0u ?_))
  refine Q4 R R R R ?_ ?_
  ·intro c16
   replace h:=J7 c16 h
   refine T7 (I8 (U7 (A3R R (A2O (I8 (U7 (A59 (U7 (A1h (A0u (A0 R ?_)))))))))))
   obtain⟨e3,ie3,h⟩:=H1 h
   refine N8 tb (F0 ie3) (V1 ie3) R (I4 (y:=D1.d e3) tb (U5 (g:=D1.d) ie3) R (M5 tb R R R R R (A3 R (I6 _ _ tb R (T7 (I8 (U7 (A9R (T1 kR (C8 tb R (C8 tb R (B5 (y:=vI e2.L5) tb R (C8 tb R (C8 tb R (B5 (y:=vI e3.A4s) tb R (A1n R R R R (C8 tb R (C8 tb R (B5 (y:=vI e3.A4s) tb R (C8 tb R (C8 tb R (B5 (y:=vI e2.L4) tb R (A1n R R R R ?_)))))))))))))))))))))))
   refine A9L R R R R R (C8 tb R (C8 tb R (B5 (y:=vI e2.L7) tb R (C8 tb R (C8 tb R (B5 (y:=vI e3.A4t) tb R (A1n R R R R (C8 tb R (C8 tb R (B5 (y:=vI e3.A4t) tb R (C8 tb R (C8 tb R (B5 (y:=vI e2.L6) tb R (A1n R R R R (A9L R R R R R (A3 R (A3 R (I0 kR (I8 (U7 (A1h (A0u (A0 R (A0 R (A5Q R R R R (A0 R (A0 R ?_)))))))))))))))))))))))))))
   refine A5Q R R R R (O1 R (C8 tb R (B5 (y:=vI e3.clear) tb R (C8 tb R (B5 (y:=vI e3.clear) tb R (A5Q R R R R ?_))))))
   refine Q4 R R R R ?_ ?_
   ·intro c17
    replace h:=J7 c17 h
    refine A0 R (A0 R (A0 R (A99 ?_)))
    (with_reducible apply A9M (ys:=[vI x2]));(iterate 7 exact rfl)
    dsimp only[B1H]
    refine D7 ?_
    refine⟨R,B8o ?_⟩
    refine E3 (qG (I6 _ _ tb R (I6 _ _ tb R (I6 _ _ tb R (eN (C9 (C4 ?_)))))))
    refine⟨[bx 7 (.d (D5.d t)),c1 (vI 7),c1 (vI 0),c1 (vI 2),c1 (vI rv9.1),bx 7 (.d (D5.d rv9.2)),bx 4 (.d (.agg [vI e2.L5,vI e2.L4,vI e2.L7,vI e2.L6])),bx 6 (.d (D1.d e3))],[0,1,2,3,4,5,6,7],(vK (.cons R R (.cons R R (.cons R R (.cons R R (.cons R R (.cons R R (.cons R R (.cons R R .nil)))))))) R),?_⟩
    with_reducible apply B8w
    refine A0u (Z9 R R R (D6 R (T7 (I8 (A3R R (A9v (A6S (A4F (A4F (A6S ?_))))))))))
    refine⟨R,[bx 7 (.d (D5.d t)),c1 (vI 7),c1 (vI 0),c1 (vI 2),c1 (vI rv9.1),bx 7 (.d (D5.d rv9.2))],[0,1,2,3,4,5],(vK (.cons R R (.cons R R (.cons R R (.cons R R (.cons R R (.cons R R .nil)))))) R),?_⟩
    refine C4 (B2 ?_)
    obtain rfl:=sI h
    exact U4 (t := .d (.tup [vI 7,vI 0,vI 2])) R R R (.cons (rc tb R) (.cons (rc tb R) (.cons (rc tb R) .nil)))
   intro c17
   replace h:=P1 (nL c17) h
   refine A0 R (L9 4 R (D0 R (T7 (I8 (A1K R (A2O (A3G (I8 (A1h (A0u (O1 R (A0 R (T7 (I8 ?_))))))))))))))
   exact⟨m7,⟨[(0,.d (.v (.func (.yield lb) #[] #[]))),(4,.ref 6 4 0 0),(18,.d (.arr 6 ((rv9.2.squibs).map D1.d))),(19,.d (vI (rv9.2.squibs.length:Int))),(20,.d (vI (W (x2+1))))],[bx 7 (.d (D5.d t)),c1 (vI 0),c1 (vI rv7.1),c1 (vI rv7.2),c1 (vI rv9.1),bx 7 (.d (D5.d rv9.2)),bx 4 (.d (.agg [vI e2.L5,vI e2.L4,vI e2.L7,vI e2.L6]))]⟩,lS,.vw (κ:=[0,1,2,3,4,5,6]) (vK (.cons R R (.cons R R (.cons R R (.cons R R (.cons R R (.cons R R (.cons R R .nil))))))) R),(W (x2+1)),h,R,R⟩
  intro c16
  replace h:=P1 (nL c16) h
  refine T7 (I8 (U7 (A1K R (B13 (A4E (A4E ?_))))))
  subst hK7
  refine A76 ?_
  refine⟨R,[bx 7 (.d (D5.d t)),c1 (vI 0),c1 (vI rv7.1),c1 (vI rv7.2),c1 (vI rv9.1),bx 7 (.d (D5.d rv9.2))],[0,1,2,3,4,5],(vK (.cons R R (.cons R R (.cons R R (.cons R R (.cons R R (.cons R R .nil)))))) R),?_⟩
  refine D3 (A6 ?_)
  exact .inl ⟨(),h,.vw (κ:=[0,1,2,3]) (vK (.cons R R (.cons R R (.cons R R (.cons R R .nil)))) R)⟩
 refine W3 fun df=>?_
 refine B8 ?_
 refine W5 (fun zz:Unit=>A1T F=some r) (fun zz:Unit=>⟨[(1,.ref 0 7 0 0),(2,.ref 1 1 0 0),(3,.ref 2 1 0 0),(4,.ref 3 1 0 0),(5,.d (vI (W ((t.zones.length:Int)-1)))),(37,.d (.v (.bool true)))],[bx 7 (.d (D5.d t)),c1 (vI 0),c1 (vI 0),c1 (vI 0)]⟩) ?_ ?_
 ·clear h
  rintro⟨⟩ h
  rw[A1T]at h
  refine C0 R (qG (I6 _ _ tb R (I6 _ _ tb R (I6 _ _ tb R (eN (C9 (B2 ?_)))))))
  obtain rfl:=sI h
  exact U4 (t := .d (.tup [vI 1,vI 0,vI 3])) R R R (.cons (rc tb R) (.cons (rc tb R) (.cons (rc tb R) .nil)))
 refine J1 (A0 R ?_)
 obtain⟨rv,k,h⟩:=H1 h
 refine M6 (V2 k) eK R R R R ?_ ?_
 ·intro c
  replace h:=J7 c h
  refine A0 R (L9 4 R (D6 R (A0 R (L9 4 R (D6 R (A0 R (L9 4 R (D6 R (A0 R (L9 4 R (D6 R (eN ?_))))))))))))
  exact .inl ⟨(),h,.prn [1,2,3,4,5,37] R⟩
 intro c
 replace h:=ifF c h
 refine A0 R (C8 tb R (B5 (y := .arr 2 ((t.doors).map G6.d)) tb R (I7 tb R ?_)))
 refine A4l R R R R ?_ ?_
 ·intro c2
  replace h:=J7 c2 h
  refine D0 R (A0 R (L9 4 R (D6 R (A0 R (L9 4 R (D6 R (A0 R (L9 4 R (D6 R (eN ?_))))))))))
  exact .inl ⟨(),h,.prn [1,2,3,4,5,37] R⟩
 intro c2
 replace h:=P1 (nL c2) h
 refine D0 R (A0 R (C8 tb R (B5 (y := .arr 2 ((t.people).map E2.d)) tb R (I7 tb R ?_))))
 refine A4l R R R R ?_ ?_
 ·intro c3
  replace h:=J7 c3 h
  refine D0 R (A0 R (L9 4 R (D6 R (A0 R (L9 4 R (D6 R (eN ?_)))))))
  exact .inl ⟨(),h,.prn [1,2,3,4,5,37] R⟩
 intro c3
 replace h:=P1 (nL c3) h
 refine D0 R (A0 R (C8 tb R (B5 (y := .arr 1 ((t.keys).map vS)) tb R (I7 tb R ?_))))
 refine A4l R R R R ?_ ?_
 ·intro c4
  replace h:=J7 c4 h
  refine D0 R (A0 R (L9 4 R (D6 R (eN ?_))))
  exact .inl ⟨(),h,.prn [1,2,3,4,5,37] R⟩
 intro c4
 replace h:=P1 (nL c4) h
 refine D0 R (A0 R (C8 tb R (B5 (y := .arr 6 ((t.squibs).map D1.d)) tb R (I7 tb R ?_))))
 refine A4l R R R R ?_ ?_
 ·intro c5
  replace h:=J7 c5 h
  refine D0 R (eN ?_)
  exact .inl ⟨(),h,.prn [1,2,3,4,5,37] R⟩
 intro c5
 replace h:=P1 (nL c5) h
 refine D0 R (eN (.inr (C1 R (D7 (A6 ?_)))))
 exact .inl ⟨(),h,.prn [1,2,3,4,5] R⟩
def A0L (F:Nat) (nv:Int) (many:Int):Option Bool:=(A0m F nv 0 (W (many-1))).bind fun rv=>some rv
theorem A1f {F:Nat} {nv:Int} {many:Int} {r:Bool} (h:A0L F nv many=some r):PC Tryz.prog 154 [.v (.int .i64 nv),.v (.int .i64 many)] (.v (.bool r)):=by
 rw[A0L]at h
 refine SC.of_sw Tryz.func154 R R R ?_
 dsimp only[L8,List.map]
 refine qG (A3 R (eN (qG (A0 R (A0 R (A1n R R R R ?_))))))
 obtain⟨rv,k,h⟩:=H1 h
 refine J5 (V2 k) eK R R R R (A3 R (eN (C9 ?_)))
 obtain rfl:=sI h
 exact f1 4 R
def A23 (F:Nat) (t:D5) (o:D2):Option Int:=(A0L F o.with_ (t.people.length:Int)).bind fun rv8=>if rv8=true then(some 4)else(if o.with_=o.who then(some 2)else(some 0))
def B5j (F:Nat) (t:D5) (o:D2):Option Int:=(A0L F o.what (t.squibs.length:Int)).bind fun rv6=>if rv6=true then(some 4)else(A23 F t o)
def A45 (F:Nat) (t:D5) (o:D2):Option Int:=(A0L F o.what (t.keys.length:Int)).bind fun rv5=>if rv5=true then(some 4)else(A23 F t o)
def A46 (F:Nat) (t:D5) (o:D2):Option Int:=(A0L F o.what (t.squibs.length:Int)).bind fun rv5=>if rv5=true then(some 4)else(A23 F t o)
def A24 (F:Nat) (o:D2):Option Int:=if o.with_=(-1)then(some 0)else(some 2)
def B5k (F:Nat) (t:D5) (o:D2):Option Int:=(A0L F o.what (t.squibs.length:Int)).bind fun rv14=>if rv14=true then(some 4)else(A24 F o)
def A47 (F:Nat) (t:D5) (o:D2):Option Int:=(A0L F o.what (t.keys.length:Int)).bind fun rv13=>if rv13=true then(some 4)else(A24 F o)
def A48 (F:Nat) (t:D5) (o:D2):Option Int:=(A0L F o.what (t.squibs.length:Int)).bind fun rv13=>if rv13=true then(some 4)else(A24 F o)
def A5N (F:Nat) (t:D5) (o:D2):Option Int:=(A0m F o.at_ 0 100000).bind fun rv=>if rv=true then(some 7)else((A0m F o.kind 1 9).bind fun rv2=>if rv2=true then(some 2)else((A0L F o.who (t.people.length:Int)).bind fun rv3=>if rv3=true then(some 4)else(if o.kind=1 then(if o.what=(-1)then(A23 F t o)else((A0L F o.what (t.zones.length:Int)).bind fun rv4=>if rv4=true then(some 4)else(A23 F t o)))else(if o.kind=2 then(A45 F t o)else(if o.kind=3 then(A45 F t o)else(if o.kind=4 then(A45 F t o)else(if o.kind=5 then(A46 F t o)else(if o.kind=6 then(A46 F t o)else(if o.kind=7 then(A46 F t o)else((A0m F o.what 0 1).bind fun rv5=>if rv5=true then(some 2)else(A23 F t o)))))))))))
def A4V (F:Nat) (t:D5) (o:D2):Option Int:=(A0m F o.at_ 0 100000).bind fun rv9=>if rv9=true then(some 7)else((A0m F o.kind 1 9).bind fun rv10=>if rv10=true then(some 2)else((A0L F o.who (t.people.length:Int)).bind fun rv11=>if rv11=true then(some 4)else(if o.kind=1 then(if o.what=(-1)then(A24 F o)else((A0L F o.what (t.zones.length:Int)).bind fun rv12=>if rv12=true then(some 4)else(A24 F o)))else(if o.kind=2 then(A47 F t o)else(if o.kind=3 then(A47 F t o)else(if o.kind=4 then(A47 F t o)else(if o.kind=5 then(A48 F t o)else(if o.kind=6 then(A48 F t o)else(if o.kind=7 then(A48 F t o)else((A0m F o.what 0 1).bind fun rv13=>if rv13=true then(some 2)else(A24 F o)))))))))))
def A9k (F:Nat) (t:D5) (o:D2):Option Int:=if o.kind=4 then(A5N F t o)else(if o.kind=1 then(if o.with_=(-1)then(A4V F t o)else(A5N F t o))else(A4V F t o))
theorem B5m {F:Nat} {t:D5} {o:D2} {r:Int} (h:A9k F t o=some r):PC Tryz.prog 78 [D5.d t,D2.d o] (.v (.int .i64 r)):=by
 rw[A9k]at h
 refine SC.of_sw Tryz.func78 R R R ?_
 dsimp only[L8,List.map]
 refine qG (M9 R (M9 R (A3 R (eN (qG (A3 R (eN (B8 ?_))))))))
 refine W5 (Sum.elim (fun zz:Unit=>A5N F t o=some r) (fun zz:Unit=>A4V F t o=some r)) (Sum.elim (fun zz:Unit=>⟨[(2,.ref 0 7 0 0),(3,.ref 1 5 0 0),(4,.d (vI 0)),(5,.d (.v (.func (.func 154) #[] #[]))),(6,.d (.v (.bool true)))],[bx 7 (.d (D5.d t)),bx 5 (.d (D2.d o))]⟩) (fun zz:Unit=>⟨[(2,.ref 0 7 0 0),(3,.ref 1 5 0 0),(4,.d (vI 0)),(5,.d (.v (.func (.func 154) #[] #[]))),(6,.d (.v (.bool false)))],[bx 7 (.d (D5.d t)),bx 5 (.d (D2.d o))]⟩)) ?_ ?_
 ·clear h
  rintro(⟨⟩ | ⟨⟩) h
  ·dsimp only[Sum.elim]at h ⊢
   rw[A5N]at h
   refine B8 (E3 (qG (C8 tb R (B5 (y:=vI o.at_) tb R ?_))))
   obtain⟨rv,k,h⟩:=H1 h
   refine M6 (V2 k) eK R R R R ?_ ?_
   ·intro c4
    replace h:=J7 c4 h
    refine A3 R (eN (C0 R (qG (A3 R (eN (C9 (C4 (B2 ?_))))))))
    obtain rfl:=sI h
    exact f1 4 R
   intro c4
   replace h:=ifF c4 h
   refine A3 R (eN (C1 R (qG (C8 tb R (B5 (y:=vI o.kind) tb R ?_)))))
   obtain⟨rv2,k2,h⟩:=H1 h
   refine M6 (V2 k2) eK R R R R ?_ ?_
   ·intro c5
    replace h:=J7 c5 h
    refine A3 R (eN (C0 R (qG (A3 R (eN (C9 (C4 (B2 ?_))))))))
    obtain rfl:=sI h
    exact f1 4 R
   intro c5
   replace h:=ifF c5 h
   refine A3 R (eN (C1 R (qG (A0 R (C8 tb R (B5 (y:=vI o.who) tb R (C8 tb R (B5 (y := .arr 2 ((t.people).map E2.d)) tb R (I7 tb R ?_)))))))))
   obtain⟨rv3,k3,h⟩:=H1 h
   refine M6 (A1f k3) eK R R R R ?_ ?_
   ·intro c6
    replace h:=J7 c6 h
    refine A3 R (eN (C0 R (qG (A3 R (eN (C9 (C4 (B2 ?_))))))))
    obtain rfl:=sI h
    exact f1 4 R
   intro c6
   replace h:=ifF c6 h
   refine A3 R (eN (C1 R (D7 (D3 (A6 (B8 ?_))))))
   refine W5 (fun zz:Unit=>A23 F t o=some r) (fun zz:Unit=>⟨[(2,.ref 0 7 0 0),(3,.ref 1 5 0 0),(4,.d (vI 0)),(5,.d (.v (.func (.func 154) #[] #[]))),(6,.d (.v (.bool true)))],[bx 7 (.d (D5.d t)),bx 5 (.d (D2.d o))]⟩) ?_ ?_
   ·clear h
    rintro⟨⟩ h
    rw[A23]at h
    refine B8 (E3 (qG (A0 R (A0a R R R (A0 R (L9 3 R (D0 R (A3 R (eN (C1 R (qG (A0 R (A0 R (A0 R (C8 tb R (B5 (y:=vI o.with_) tb R (C8 tb R (B5 (y := .arr 2 ((t.people).map E2.d)) tb R (I7 tb R ?_)))))))))))))))))))
    obtain⟨rv8,k8,h⟩:=H1 h
    refine M6 (A1f k8) eK R R R R ?_ ?_
    ·intro c19
     replace h:=J7 c19 h
     refine D6 R (A3 R (eN (C0 R (qG (A3 R (eN (C9 (C4 (B2 ?_)))))))))
     obtain rfl:=sI h
     exact f1 4 R
    intro c19
    replace h:=ifF c19 h
    refine D6 R (A3 R (eN (C1 R (qG (A0 R (A0 R (C8 tb R (B5 (y:=vI o.with_) tb R (C8 tb R (B5 (y:=vI o.who) tb R ?_))))))))))
    refine Z3 R R R R ?_ ?_
    ·intro c20
     replace h:=J7 c20 h
     refine D6 R (A3 R (eN (C0 R (qG (A3 R (eN (C9 (C4 (B2 ?_)))))))))
     obtain rfl:=sI h
     exact f1 4 R
    intro c20
    replace h:=P1 c20 h
    refine D6 R (A3 R (eN (C1 R (D7 (D3 (A6 (qG (A3 R (eN (C9 ?_))))))))))
    obtain rfl:=sI h
    exact f1 4 R
   refine qG (C8 tb R (B5 (y:=vI o.kind) tb R (eN (E3 (qG ?_)))))
   refine Z3 R R R R ?_ ?_
   ·intro c7
    replace h:=J7 c7 h
    refine A3 R (eN (C0 R (qG (C8 tb R (B5 (y:=vI o.what) tb R ?_)))))
    refine V5 R R R R ?_ ?_
    ·intro c8
     replace h:=P1 c8 h
     refine A0 R (A0 R (C8 tb R (B5 (y:=vI o.what) tb R (C8 tb R (B5 (y := .arr 8 ((t.zones).map F6.d)) tb R (I7 tb R ?_))))))
     obtain⟨rv4,k4,h⟩:=H1 h
     refine M6 (A1f k4) eK R R R R ?_ ?_
     ·intro c9
      replace h:=J7 c9 h
      refine D6 R (eN (C0 R (qG (A3 R (eN (C9 (C4 (B2 ?_))))))))
      obtain rfl:=sI h
      exact f1 4 R
     intro c9
     replace h:=ifF c9 h
     refine D6 R (eN (C1 R (D7 (D3 (A6 ?_)))))
     exact .inl ⟨(),h,.prn [2,3,4,5,6] R⟩
    intro c8
    replace h:=J7 c8 h
    refine A0 R (L9 7 R (D0 R (eN (C1 R (D7 (D3 (A6 ?_)))))))
    exact .inl ⟨(),h,.prn [2,3,4,5,6] R⟩
   intro c7
   replace h:=P1 c7 h
   refine A3 R (eN (C1 R (B8 ?_)))
   refine W5 (fun zz:Unit=>A45 F t o=some r) (fun zz:Unit=>⟨[(2,.ref 0 7 0 0),(3,.ref 1 5 0 0),(4,.d (vI 0)),(5,.d (.v (.func (.func 154) #[] #[]))),(6,.d (.v (.bool true))),(37,.d (vI o.kind)),(55,.d (.v (.bool true)))],[bx 7 (.d (D5.d t)),bx 5 (.d (D2.d o))]⟩) ?_ ?_
   ·clear h
    rintro⟨⟩ h
    rw[A45]at h
    refine C0 R (qG (A0 R (C8 tb R (B5 (y:=vI o.what) tb R (C8 tb R (B5 (y := .arr 1 ((t.keys).map vS)) tb R (I7 tb R ?_)))))))
    obtain⟨rv5,k5,h⟩:=H1 h
    refine M6 (A1f k5) eK R R R R ?_ ?_
    ·intro c13
     replace h:=J7 c13 h
     refine eN (C0 R (qG (A3 R (eN (C9 (C4 (B2 ?_)))))))
     obtain rfl:=sI h
     exact f1 4 R
    intro c13
    replace h:=ifF c13 h
    refine eN (C1 R (D7 (D3 (A6 ?_))))
    exact .inl ⟨(),h,.prn [2,3,4,5,6] R⟩
   refine qG ?_
   refine Z3 R R R R ?_ ?_
   ·intro c10
    replace h:=J7 c10 h
    refine A3 R (eN (C0 R (D7 (A6 ?_))))
    exact .inl ⟨(),h,.prn [2,3,4,5,6,37,55] R⟩
   intro c10
   replace h:=P1 c10 h
   refine A3 R (eN (C1 R (qG ?_)))
   refine Z3 R R R R ?_ ?_
   ·intro c11
    replace h:=J7 c11 h
    refine A3 R (eN (C0 R (D7 (A6 ?_))))
    exact .inl ⟨(),h,.prn [2,3,4,5,6,37,55] R⟩
   intro c11
   replace h:=P1 c11 h
   refine A3 R (eN (C1 R (J1 ?_)))
   refine Z3 R R R R ?_ ?_
   ·intro c12
    replace h:=J7 c12 h
    refine A3 R (eN ?_)
    exact .inl ⟨(),h,.prn [2,3,4,5,6,37,55] R⟩
   intro c12
   replace h:=P1 c12 h
   refine A3 R (eN (.inr (C1 R (B8 ?_))))
   refine W5 (fun zz:Unit=>A46 F t o=some r) (fun zz:Unit=>⟨[(2,.ref 0 7 0 0),(3,.ref 1 5 0 0),(4,.d (vI 0)),(5,.d (.v (.func (.func 154) #[] #[]))),(6,.d (.v (.bool true))),(66,.d (.v (.bool true)))],[bx 7 (.d (D5.d t)),bx 5 (.d (D2.d o))]⟩) ?_ ?_
   ·clear h
    rintro⟨⟩ h
    rw[A46]at h
    refine C0 R (qG (A0 R (C8 tb R (B5 (y:=vI o.what) tb R (C8 tb R (B5 (y := .arr 6 ((t.squibs).map D1.d)) tb R (I7 tb R ?_)))))))
    obtain⟨rv5,k5,h⟩:=H1 h
    refine M6 (A1f k5) eK R R R R ?_ ?_
    ·intro c16
     replace h:=J7 c16 h
     refine eN (C0 R (qG (A3 R (eN (C9 (C4 (B2 ?_)))))))
     obtain rfl:=sI h
     exact f1 4 R
    intro c16
    replace h:=ifF c16 h
    refine eN (C1 R (D7 (D3 (A6 ?_))))
    exact .inl ⟨(),h,.prn [2,3,4,5,6] R⟩
   refine qG ?_
   refine Z3 R R R R ?_ ?_
   ·intro c13
    replace h:=J7 c13 h
    refine A3 R (eN (C0 R (D7 (A6 ?_))))
    exact .inl ⟨(),h,.prn [2,3,4,5,6,66] R⟩
   intro c13
   replace h:=P1 c13 h
   refine A3 R (eN (C1 R (qG ?_)))
   refine Z3 R R R R ?_ ?_
   ·intro c14
    replace h:=J7 c14 h
    refine A3 R (eN (C0 R (D7 (A6 ?_))))
    exact .inl ⟨(),h,.prn [2,3,4,5,6,66] R⟩
   intro c14
   replace h:=P1 c14 h
   refine A3 R (eN (C1 R (J1 ?_)))
   refine Z3 R R R R ?_ ?_
   ·intro c15
    replace h:=J7 c15 h
    refine A3 R (eN ?_)
    exact .inl ⟨(),h,.prn [2,3,4,5,6,66] R⟩
   intro c15
   replace h:=P1 c15 h
   refine A3 R (eN (.inr (C1 R (qG (C8 tb R (B5 (y:=vI o.what) tb R ?_))))))
   obtain⟨rv5,k5,h⟩:=H1 h
   refine M6 (V2 k5) eK R R R R ?_ ?_
   ·intro c16
    replace h:=J7 c16 h
    refine eN (C0 R (qG (A3 R (eN (C9 (C4 (B2 ?_)))))))
    obtain rfl:=sI h
    exact f1 4 R
   intro c16
   replace h:=ifF c16 h
   refine eN (C1 R (D7 (D3 (A6 ?_))))
   exact .inl ⟨(),h,.prn [2,3,4,5,6] R⟩
  ·dsimp only[Sum.elim]at h ⊢
   rw[A4V]at h
   refine B8 (E3 (qG (C8 tb R (B5 (y:=vI o.at_) tb R ?_))))
   obtain⟨rv9,k9,h⟩:=H1 h
   refine M6 (V2 k9) eK R R R R ?_ ?_
   ·intro c21
    replace h:=J7 c21 h
    refine A3 R (eN (C0 R (qG (A3 R (eN (C9 (C4 (B2 ?_))))))))
    obtain rfl:=sI h
    exact f1 4 R
   intro c21
   replace h:=ifF c21 h
   refine A3 R (eN (C1 R (qG (C8 tb R (B5 (y:=vI o.kind) tb R ?_)))))
   obtain⟨rv10,k10,h⟩:=H1 h
   refine M6 (V2 k10) eK R R R R ?_ ?_
   ·intro c22
    replace h:=J7 c22 h
    refine A3 R (eN (C0 R (qG (A3 R (eN (C9 (C4 (B2 ?_))))))))
    obtain rfl:=sI h
    exact f1 4 R
   intro c22
   replace h:=ifF c22 h
   refine A3 R (eN (C1 R (qG (A0 R (C8 tb R (B5 (y:=vI o.who) tb R (C8 tb R (B5 (y := .arr 2 ((t.people).map E2.d)) tb R (I7 tb R ?_)))))))))
   obtain⟨rv11,k11,h⟩:=H1 h
   refine M6 (A1f k11) eK R R R R ?_ ?_
   ·intro c23
    replace h:=J7 c23 h
    refine A3 R (eN (C0 R (qG (A3 R (eN (C9 (C4 (B2 ?_))))))))
    obtain rfl:=sI h
    exact f1 4 R
   intro c23
   replace h:=ifF c23 h
   refine A3 R (eN (C1 R (D7 (D3 (A6 (B8 ?_))))))
   refine W5 (fun zz:Unit=>A24 F o=some r) (fun zz:Unit=>⟨[(2,.ref 0 7 0 0),(3,.ref 1 5 0 0),(4,.d (vI 0)),(5,.d (.v (.func (.func 154) #[] #[]))),(6,.d (.v (.bool false)))],[bx 7 (.d (D5.d t)),bx 5 (.d (D2.d o))]⟩) ?_ ?_
   ·clear h
    rintro⟨⟩ h
    rw[A24]at h
    refine B8 (E3 (qG (A0 R (Z9 R R R (A0 R (C8 tb R (B5 (y:=vI o.with_) tb R ?_)))))))
    refine V5 R R R R ?_ ?_
    ·intro c36
     replace h:=P1 c36 h
     refine D6 R (A3 R (eN (C0 R (qG (A3 R (eN (C9 (C4 (B2 ?_)))))))))
     obtain rfl:=sI h
     exact f1 4 R
    intro c36
    replace h:=J7 c36 h
    refine D6 R (A3 R (eN (C1 R (qG (A0 R (A0 R (L9 7 R (D0 R (A3 R (eN (C1 R (qG (A0 R (A0 R (L9 5 R (D0 R (A3 R (eN (C1 R (D7 (D3 (A6 (qG (A3 R (eN (C9 ?_))))))))))))))))))))))))))
    obtain rfl:=sI h
    exact f1 4 R
   refine qG (C8 tb R (B5 (y:=vI o.kind) tb R (eN (E3 (qG ?_)))))
   refine Z3 R R R R ?_ ?_
   ·intro c24
    replace h:=J7 c24 h
    refine A3 R (eN (C0 R (qG (C8 tb R (B5 (y:=vI o.what) tb R ?_)))))
    refine V5 R R R R ?_ ?_
    ·intro c25
     replace h:=P1 c25 h
     refine A0 R (A0 R (C8 tb R (B5 (y:=vI o.what) tb R (C8 tb R (B5 (y := .arr 8 ((t.zones).map F6.d)) tb R (I7 tb R ?_))))))
     obtain⟨rv12,k12,h⟩:=H1 h
     refine M6 (A1f k12) eK R R R R ?_ ?_
     ·intro c26
      replace h:=J7 c26 h
      refine D6 R (eN (C0 R (qG (A3 R (eN (C9 (C4 (B2 ?_))))))))
      obtain rfl:=sI h
      exact f1 4 R
     intro c26
     replace h:=ifF c26 h
     refine D6 R (eN (C1 R (D7 (D3 (A6 ?_)))))
     exact .inl ⟨(),h,.prn [2,3,4,5,6] R⟩
    intro c25
    replace h:=J7 c25 h
    refine A0 R (L9 7 R (D0 R (eN (C1 R (D7 (D3 (A6 ?_)))))))
    exact .inl ⟨(),h,.prn [2,3,4,5,6] R⟩
   intro c24
   replace h:=P1 c24 h
   refine A3 R (eN (C1 R (B8 ?_)))
   refine W5 (fun zz:Unit=>A47 F t o=some r) (fun zz:Unit=>⟨[(2,.ref 0 7 0 0),(3,.ref 1 5 0 0),(4,.d (vI 0)),(5,.d (.v (.func (.func 154) #[] #[]))),(6,.d (.v (.bool false))),(37,.d (vI o.kind)),(55,.d (.v (.bool true)))],[bx 7 (.d (D5.d t)),bx 5 (.d (D2.d o))]⟩) ?_ ?_
   ·clear h
    rintro⟨⟩ h
    rw[A47]at h
    refine C0 R (qG (A0 R (C8 tb R (B5 (y:=vI o.what) tb R (C8 tb R (B5 (y := .arr 1 ((t.keys).map vS)) tb R (I7 tb R ?_)))))))
    obtain⟨rv13,k13,h⟩:=H1 h
    refine M6 (A1f k13) eK R R R R ?_ ?_
    ·intro c30
     replace h:=J7 c30 h
     refine eN (C0 R (qG (A3 R (eN (C9 (C4 (B2 ?_)))))))
     obtain rfl:=sI h
     exact f1 4 R
    intro c30
    replace h:=ifF c30 h
    refine eN (C1 R (D7 (D3 (A6 ?_))))
    exact .inl ⟨(),h,.prn [2,3,4,5,6] R⟩
   refine qG ?_
   refine Z3 R R R R ?_ ?_
   ·intro c27
    replace h:=J7 c27 h
    refine A3 R (eN (C0 R (D7 (A6 ?_))))
    exact .inl ⟨(),h,.prn [2,3,4,5,6,37,55] R⟩
   intro c27
   replace h:=P1 c27 h
   refine A3 R (eN (C1 R (qG ?_)))
   refine Z3 R R R R ?_ ?_
   ·intro c28
    replace h:=J7 c28 h
    refine A3 R (eN (C0 R (D7 (A6 ?_))))
    exact .inl ⟨(),h,.prn [2,3,4,5,6,37,55] R⟩
   intro c28
   replace h:=P1 c28 h
   refine A3 R (eN (C1 R (J1 ?_)))
   refine Z3 R R R R ?_ ?_
   ·intro c29
    replace h:=J7 c29 h
    refine A3 R (eN ?_)
    exact .inl ⟨(),h,.prn [2,3,4,5,6,37,55] R⟩
   intro c29
   replace h:=P1 c29 h
   refine A3 R (eN (.inr (C1 R (B8 ?_))))
   refine W5 (fun zz:Unit=>A48 F t o=some r) (fun zz:Unit=>⟨[(2,.ref 0 7 0 0),(3,.ref 1 5 0 0),(4,.d (vI 0)),(5,.d (.v (.func (.func 154) #[] #[]))),(6,.d (.v (.bool false))),(66,.d (.v (.bool true)))],[bx 7 (.d (D5.d t)),bx 5 (.d (D2.d o))]⟩) ?_ ?_
   ·clear h
    rintro⟨⟩ h
    rw[A48]at h
    refine C0 R (qG (A0 R (C8 tb R (B5 (y:=vI o.what) tb R (C8 tb R (B5 (y := .arr 6 ((t.squibs).map D1.d)) tb R (I7 tb R ?_)))))))
    obtain⟨rv13,k13,h⟩:=H1 h
    refine M6 (A1f k13) eK R R R R ?_ ?_
    ·intro c33
     replace h:=J7 c33 h
     refine eN (C0 R (qG (A3 R (eN (C9 (C4 (B2 ?_)))))))
     obtain rfl:=sI h
     exact f1 4 R
    intro c33
    replace h:=ifF c33 h
    refine eN (C1 R (D7 (D3 (A6 ?_))))
    exact .inl ⟨(),h,.prn [2,3,4,5,6] R⟩
   refine qG ?_
   refine Z3 R R R R ?_ ?_
   ·intro c30
    replace h:=J7 c30 h
    refine A3 R (eN (C0 R (D7 (A6 ?_))))
    exact .inl ⟨(),h,.prn [2,3,4,5,6,66] R⟩
   intro c30
   replace h:=P1 c30 h
   refine A3 R (eN (C1 R (qG ?_)))
   refine Z3 R R R R ?_ ?_
   ·intro c31
    replace h:=J7 c31 h
    refine A3 R (eN (C0 R (D7 (A6 ?_))))
    exact .inl ⟨(),h,.prn [2,3,4,5,6,66] R⟩
   intro c31
   replace h:=P1 c31 h
   refine A3 R (eN (C1 R (J1 ?_)))
   refine Z3 R R R R ?_ ?_
   ·intro c32
    replace h:=J7 c32 h
    refine A3 R (eN ?_)
    exact .inl ⟨(),h,.prn [2,3,4,5,6,66] R⟩
   intro c32
   replace h:=P1 c32 h
   refine A3 R (eN (.inr (C1 R (qG (C8 tb R (B5 (y:=vI o.what) tb R ?_))))))
   obtain⟨rv13,k13,h⟩:=H1 h
   refine M6 (V2 k13) eK R R R R ?_ ?_
   ·intro c33
    replace h:=J7 c33 h
    refine eN (C0 R (qG (A3 R (eN (C9 (C4 (B2 ?_)))))))
    obtain rfl:=sI h
    exact f1 4 R
   intro c33
   replace h:=ifF c33 h
   refine eN (C1 R (D7 (D3 (A6 ?_))))
   exact .inl ⟨(),h,.prn [2,3,4,5,6] R⟩
 refine J1 (C8 tb R (B5 (y:=vI o.kind) tb R ?_))
 refine Z3 R R R R ?_ ?_
 ·intro c
  replace h:=J7 c h
  refine A0 R (L9 8 R (D6 R (A3 R (eN ?_))))
  exact .inl ⟨.inl (),h,.prn [2,3,4,5,6] R⟩
 intro c
 replace h:=P1 c h
 refine A0 R (C8 tb R (B5 (y:=vI o.kind) tb R ?_))
 refine Z3 R R R R ?_ ?_
 ·intro c2
  replace h:=J7 c2 h
  refine A0 R (C8 tb R (B5 (y:=vI o.with_) tb R ?_))
  refine V5 R R R R ?_ ?_
  ·intro c3
   replace h:=P1 c3 h
   refine D6 R (D0 R (A3 R (eN ?_)))
   exact .inl ⟨.inl (),h,.prn [2,3,4,5,6] R⟩
  intro c3
  replace h:=J7 c3 h
  refine D6 R (D0 R (A3 R (eN ?_)))
  exact .inl ⟨.inr (()),h,.prn [2,3,4,5,6] R⟩
 intro c2
 replace h:=P1 c2 h
 refine A0 R (L9 3 R (D0 R (D0 R (A3 R (eN ?_)))))
 exact .inl ⟨.inr (()),h,.prn [2,3,4,5,6] R⟩
def J4 (F:Nat) (so:Bool) (why:Int):Option (Except Int Unit):=if so=true then(some (.ok ()))else(some (.error why))
theorem E1 {F:Nat} {so:Bool} {why:Int} {r:(Except Int Unit)} (h:J4 F so why=some r):SCX Tryz.prog 156 [.d (.v (.bool so)),.d (.v (.int .i64 why))] [] r 43 (fun(a:Unit) => .d (.tup [])) (fun(a:Unit)=>[]):=by
 rw[J4]at h
 refine SC.of_sw Tryz.func156 R R R ?_
 dsimp only[L8,List.map]
 refine qG (A0 R ?_)
 with_reducible apply X8
 ·intro c
  replace h:=J7 c h
  refine A0a R R R (eN (C1 R (D7 ?_)))
  obtain rfl:=sI h
  exact A1R (U0 (t := .d (.tup [])) (L:=[]) (κ:=[]) R .nil (v0 R) (.inl ⟨_,R,R,R⟩))
 intro c
 replace h:=ifF c h
 refine Z9 R R R (eN (C0 R (X0 (A0 R (B5T tb R R R R R (T2 ?_))))))
 (with_reducible apply B2d);(iterate 2 exact rfl)
 obtain rfl:=sI h
 exact M3 (L:=[]) (κ:=[]) (v0 R) (.inr ⟨_,R,R⟩)
def T3 (F:Nat) (s:(List Int)):Option (List Int):=(B26 ([]:List Int) s).bind fun q=>some q
theorem Y2 {F:Nat} {s:(List Int)} {r:(List Int)} (h:T3 F s=some r):SCR Tryz.prog 144 (List.map T.d [.arr 1 ((s).map vI)]) [] (.row 0 1 0 (r).length) (List.map some [(B7 r)]):=by
 rw[T3]at h
 refine SC.of_sw Tryz.func144 R R R ?_
 dsimp only[L8,List.map]
 cases s with
 | nil =>
  refine SW.raw 0 1 R fun ad cap=>?_
  cases ad with
  | none =>
   replace h:some ([]:List Int)=some r:=by simpa[A8i,B26]using h
   refine qG (A3 R (eN (B8 (qG (A0 R (B4l (by intro o a n cap w;cases a<;>cases o<;>simp[go_sem,eqGuard]<;>rfl) R R R (eN (C0 R ?_))))))))
   refine SW.unraw 0 1 R ?_
   refine SW.unraw 3 1 R ?_
   refine qG (A3 R (eN ?_))
   refine SW.own (ts':=[(2,.row 0 1 0 (([]:List Int)).length)]) (L':=[]) 1 R R (.cons .nil .nil) .nil ?_
   simp only[List.cons_append,List.nil_append]
   refine C9 (B2 ?_)
   obtain rfl:=sI h
   exact f2 [0] C23 R (.cons (.tmp 2) .nil) R
  | some ad =>
   refine qG (A3 R (eN (B8 (qG (A0 R (B4k (by intro o a n cap w;cases a<;>cases o<;>simp[go_sem,eqGuard]<;>rfl) R R R (eN (C1 R ?_))))))))
   refine SW.unraw 0 1 R ?_
   refine SW.unraw 3 1 R ?_
   refine D7 (A6 (qG (P7 tb R R R R R R R R R R R R R (A0 R ?_))))
   obtain⟨q,iq,h⟩:=H1 h
   refine B3c (g:=vI) (w:=([]:List Int)) (v:=([]:List Int)) ([none]) tb R R R R R R R R (by intro _;exact R) iq R R R R R (A14 R R R (eN (C9 ?_)))
   obtain rfl:=sI h
   exact f2 [1] C23 R (.cons (.tmp 2) .nil) R
 | cons x0 s =>
  refine qG (A3 R (eN (B8 (qG (A0 R (B4j (by intro o a n cap w;cases a<;>cases o<;>simp[go_sem,eqGuard]<;>rfl) R R R (eN (C1 R (D7 (A6 (qG (P7 tb R R R R R R R R R R R R R (A0 R ?_)))))))))))))
  obtain⟨q,iq,h⟩:=H1 h
  refine B3c (g:=vI) (w:=([]:List Int)) (v:=(x0::s)) ([none]) tb R R R R R R R R (by intro _;exact R) iq R R R R R (A14 R R R (eN (C9 ?_)))
  obtain rfl:=sI h
  exact f2 [1] C23 R (.cons (.tmp 2) .nil) R
theorem B4H {F:Nat} {s:(List Int)} {r:(List Int)} (h:T3 F s=some r):PC Tryz.prog 144 [.arr 1 ((s).map vI)] (.arr 1 ((r).map vI)):=(Y2 h).toPC (.row rfl rfl)
def A56 (F:Nat) (p:D5) (s:C3):Option (Option E6):=(T3 F s.zones).bind fun rv=>(T3 F s.holder).bind fun rv2=>(T3 F s.squibs).bind fun rv3=>some (some (E6.mk p.zones p.doors p.people p.keys p.squibs p.panel p.wait s.now rv rv2 rv3 s.siren s.storm))
theorem A4L {F:Nat} {p:D5} {s:C3} {r:(Option E6)} (h:A56 F p s=some r):SCO Tryz.prog 72 (List.map T.d [D5.d p,C3.d s]) [] r (.d (.v (.pointer none))) (List.map some []) (fun(tt:E6) => .ref 0 13 0 0) (fun(tt:E6)=>List.map some [⟨13,[C6 tt 1 2 3]⟩,(B7 tt.A9),(B7 tt.A8),(B7 tt.A4)]):=by
 rw[A56]at h
 refine SC.of_sw Tryz.func72 R R R ?_
 dsimp only[L8,List.map]
 refine qG (M9 R (M9 R (A3 R (eN (B8 (T1 kR (C8 tb R (B5 (y := .arr 1 ((s.zones).map vI)) tb R ?_))))))))
 obtain⟨rv,k,h⟩:=H1 h
 refine A2X (t' := .row 2 1 0 (rv).length) (news':=[(B7 rv)]) (Y2 k) eK R R R ((.row .nil)) R R R (C8 tb R (B5 (y := .arr 1 ((s.holder).map vI)) tb R ?_))
 obtain⟨rv2,k2,h⟩:=H1 h
 refine A2X (t' := .row 3 1 0 (rv2).length) (news':=[(B7 rv2)]) (Y2 k2) eK R R R ((.row .nil)) R R R (C8 tb R (B5 (y := .arr 1 ((s.squibs).map vI)) tb R ?_))
 obtain⟨rv3,k3,h⟩:=H1 h
 refine A2X (t' := .row 4 1 0 (rv3).length) (news':=[(B7 rv3)]) (Y2 k3) eK R R R ((.row .nil)) R R R (C8 tb R (I6 _ _ tb R (C8 tb R (I6 _ _ tb R (C8 tb R (I6 _ _ tb R (I0 kR (A6 (qG (B5 (y:=D5.d p) tb R (B4i tb R R R R R R R R R ?_)))))))))))
 refine S1 (v:=C6 (E6.mk p.zones p.doors p.people p.keys p.squibs p.panel p.wait s.now rv rv2 rv3 s.siren s.storm) 2 3 4) tb R R (List.cons_ne_nil _ _) kR kR kR kR R R (M9 R (A3i R R R (eN (C9 ?_))))
 obtain rfl:=sI h
 exact(U0 (t := .ref 0 13 0 0) (L:=[bx 13 (C6 (E6.mk p.zones p.doors p.people p.keys p.squibs p.panel p.wait s.now rv rv2 rv3 s.siren s.storm) 1 2 3),B0u rv,B0u rv2,B0u rv3]) (κ:=[5,2,3,4]) R (.cons (.tmp 4) .nil) (vK (.cons R R C1o) R) (.inr ⟨_,R,R,R⟩))
def R8 (F:Nat) (nv:Int) (c:Int) (c2:Int):Option Bool:=(A0m F nv c c2).bind fun rv=>some rv
theorem A2s {F:Nat} {nv:Int} {c:Int} {c2:Int} {r:Bool} (h:R8 F nv c c2=some r):PC Tryz.prog 146 [.v (.int .i64 nv),.el 1 (([c]).map vI) ((0:Int)).toNat 0,.el 1 (([c2]).map vI) ((0:Int)).toNat 0] (.v (.bool r)):=by
 rw[R8]at h
 refine SC.of_sw Tryz.func146 R R R ?_
 dsimp only[L8,List.map]
 refine qG (A3 R (eN (qG (A0 R (I4 (y:=vI c) tb (U5 (g:=vI) (R:P3 [c] 0=some c)) R (I4 (y:=vI c2) tb (U5 (g:=vI) (R:P3 [c2] 0=some c2)) R ?_))))))
 obtain⟨rv,k,h⟩:=H1 h
 refine J5 (V2 k) eK R R R R (A3 R (eN (C9 ?_)))
 obtain rfl:=sI h
 exact f1 4 R
def A0A (F:Nat) (lo:Int) (hi:Int):Option (Int × Int):=some (lo,hi)
theorem A26 {F:Nat} {lo:Int} {hi:Int} {r:(Int × Int)} (h:A0A F lo hi=some r):SCR Tryz.prog 145 (List.map T.d [.v (.int .i64 lo),.v (.int .i64 hi)]) [] (.fn (.func 146) [] [.ref 0 1 0 0,.ref 1 1 0 0]) (List.map some [⟨1,[.d (.v (.int .i64 r.1))]⟩,⟨1,[.d (.v (.int .i64 r.2))]⟩]):=by
 rw[A0A]at h
 refine SC.of_sw Tryz.func145 R R R ?_
 dsimp only[L8,List.map]
 refine qG (M9 R (M9 R (A3 R (eN (qG (A3E R R R R (B3d R R R (eN (C9 ?_)))))))))
 obtain rfl:=sI h
 exact f2 [0,1] (.cons R R (.cons R R .nil)) R (.cons (.tmp 4) .nil) R
def A2j (F:Nat) (t:E6):Option Bool:=(A0A F (-1) (W ((t.O0.length:Int)-1))).bind fun rv3=>(M1 F t.A9 (fun a0=>R8 F a0 rv3.1 rv3.2)).bind fun rv4=>if rv4=true then(some false)else((A0A F (-1) (W ((t.O3.length:Int)-1))).bind fun rv5=>(M1 F t.A8 (fun a0=>R8 F a0 rv5.1 rv5.2)).bind fun rv6=>if rv6=true then(some false)else((A0A F 0 2).bind fun rv7=>(M1 F t.A4 (fun a0=>R8 F a0 rv7.1 rv7.2)).bind fun rv8=>some (!rv8)))
def A1o (F:Nat) (t:E6):Option Bool:=(A0m F t.N7 0 100000).bind fun rv=>if rv=true then(some false)else((A0m F t.I3 (-1) t.N7).bind fun rv2=>if rv2=true then(some false)else(if(t.A9.length:Int)=(t.O3.length:Int)then(if(t.A8.length:Int)=(t.A0r.length:Int)then(if(t.A4.length:Int)=(t.O4.length:Int)then(A2j F t)else(some false))else(some false))else(some false)))
theorem A8l {F:Nat} {t:E6} {r:Bool} (h:A1o F t=some r):PC Tryz.prog 73 [.el 13 (([t]).map E6.d) ((0:Int)).toNat 0] (.v (.bool r)):=by
 rw[A1o]at h
 refine SC.of_sw Tryz.func73 R R R ?_
 dsimp only[L8,List.map]
 refine qG (A3 R (eN (qG (A0 R (S2 R R R (M4 tb R (I4 (y := .agg [.arr 8 ((t.O0).map F6.d),.arr 2 ((t.V4).map G6.d),.arr 2 ((t.O3).map E2.d),.arr 1 ((t.A0r).map vS),.arr 6 ((t.O4).map D1.d),vI t.X3,vI t.A0s]) tb (U5 (g:=E6.d) (R:P3 [t] 0=some t)) R (M5 tb R R R R R (I6 _ _ tb R (eN (qG (A3 R (eN (B8 ?_))))))))))))))
 refine W5 (fun zz:Unit=>A2j F t=some r) (fun zz:Unit=>⟨[(0,.d (.el 13 (([t]).map E6.d) ((0:Int)).toNat 0)),(2,.d (.v (.bool false))),(3,.ref 0 7 0 0),(4,.d (.v (.func (.func 145) #[] #[])))],[bx 7 (.d (.agg [.arr 8 ((t.O0).map F6.d),.arr 2 ((t.V4).map G6.d),.arr 2 ((t.O3).map E2.d),.arr 1 ((t.A0r).map vS),.arr 6 ((t.O4).map D1.d),vI t.X3,vI t.A0s]))]⟩) ?_ ?_
 ·clear h
  rintro⟨⟩ h
  rw[A2j]at h
  refine B8 (T1 kR (A0 R (S2 R R R (M4 tb R (M4 tb R (I4 (y := .arr 1 ((t.A9).map vI)) tb (U5 (g:=E6.d) (R:P3 [t] 0=some t)) R (A0 R (C8 tb R (B5 (y := .arr 8 ((t.O0).map F6.d)) tb R (I7 tb R (A1n R R R R ?_)))))))))))
  obtain⟨rv3,k3,h⟩:=H1 h
  refine A2X (t' := .fn (.func 146) [] [.ref 1 1 0 0,.ref 2 1 0 0]) (news':=[⟨1,[.d (vI rv3.1)]⟩,⟨1,[.d (vI rv3.2)]⟩]) (A26 k3) eK R R R ((.cons R (.cons R .nil))) R R R ?_
  obtain⟨rv4,k4,h⟩:=H1 h
  refine A0t (t' := .d (.v (.bool rv4))) (news':=[]) (R5 (f:=(fun a0=>R8 F a0 rv3.1 rv3.2)) (fc:=[.el 1 [vI rv3.1] 0 0,.el 1 [vI rv3.2] 0 0]) (fh:=fun hr=>A2s hr) (fe := .of kR) k4) R .nil eK R R ((.cons (.d (.d _)) (.cons (.fnC (.cons (.d (.ref R (.d _))) (.cons (.d (.ref R (.d _))) .nil))) .nil))) R .nil R R R ?_
  simp only[List.map_nil,List.append_nil]
  with_reducible apply X8
  ·intro c6
   replace h:=J7 c6 h
   refine A0a R R R (A0 R (L9 13 R (D0 R (A0 R (L9 9 R (D0 R (A3 R (I0 kR (A6 (C9 ?_))))))))))
   obtain rfl:=sI h
   exact f1 2 R
  intro c6
  replace h:=ifF c6 h
  refine Z9 R R R (A0 R (A0 R (S2 R R R (M4 tb R (M4 tb R (I4 (y := .arr 1 ((t.A8).map vI)) tb (U5 (g:=E6.d) (R:P3 [t] 0=some t)) R (A0 R (C8 tb R (B5 (y := .arr 2 ((t.O3).map E2.d)) tb R (I7 tb R (A1n R R R R ?_)))))))))))
  obtain⟨rv5,k5,h⟩:=H1 h
  refine A2X (t' := .fn (.func 146) [] [.ref 3 1 0 0,.ref 4 1 0 0]) (news':=[⟨1,[.d (vI rv5.1)]⟩,⟨1,[.d (vI rv5.2)]⟩]) (A26 k5) eK R R R ((.cons R (.cons R .nil))) R R R ?_
  obtain⟨rv6,k6,h⟩:=H1 h
  refine A0t (t' := .d (.v (.bool rv6))) (news':=[]) (R5 (f:=(fun a0=>R8 F a0 rv5.1 rv5.2)) (fc:=[.el 1 [vI rv5.1] 0 0,.el 1 [vI rv5.2] 0 0]) (fh:=fun hr=>A2s hr) (fe := .of kR) k6) R .nil eK R R ((.cons (.d (.d _)) (.cons (.fnC (.cons (.d (.ref R (.d _))) (.cons (.d (.ref R (.d _))) .nil))) .nil))) R .nil R R R ?_
  simp only[List.map_nil,List.append_nil]
  with_reducible apply X8
  ·intro c7
   replace h:=J7 c7 h
   refine A0a R R R (D6 R (A0 R (L9 9 R (D0 R (A3 R (I0 kR (A6 (C9 ?_))))))))
   obtain rfl:=sI h
   exact f1 2 R
  intro c7
  replace h:=ifF c7 h
  refine Z9 R R R (D6 R (A0 R (A0 R (S2 R R R (M4 tb R (M4 tb R (I4 (y := .arr 1 ((t.A4).map vI)) tb (U5 (g:=E6.d) (R:P3 [t] 0=some t)) R (A0 R ?_))))))))
  obtain⟨rv7,k7,h⟩:=H1 h
  refine A2X (t' := .fn (.func 146) [] [.ref 5 1 0 0,.ref 6 1 0 0]) (news':=[⟨1,[.d (vI rv7.1)]⟩,⟨1,[.d (vI rv7.2)]⟩]) (A26 k7) eK R R R ((.cons R (.cons R .nil))) R R R ?_
  obtain⟨rv8,k8,h⟩:=H1 h
  refine A0t (t' := .d (.v (.bool rv8))) (news':=[]) (R5 (f:=(fun a0=>R8 F a0 rv7.1 rv7.2)) (fc:=[.el 1 [vI rv7.1] 0 0,.el 1 [vI rv7.2] 0 0]) (fh:=fun hr=>A2s hr) (fe := .of kR) k8) R .nil eK R R ((.cons (.d (.d _)) (.cons (.fnC (.cons (.d (.ref R (.d _))) (.cons (.d (.ref R (.d _))) .nil))) .nil))) R .nil R R R ?_
  simp only[List.map_nil,List.append_nil]
  refine A5R R R R (D6 R (A3 R (I0 kR (A6 (C9 ?_)))))
  obtain rfl:=sI h
  exact f1 2 R
 refine E3 (B8 (T1 kR (A0 R (S2 R R R (M4 tb R (M4 tb R (I4 (y:=vI t.N7) tb (U5 (g:=E6.d) (R:P3 [t] 0=some t)) R ?_)))))))
 obtain⟨rv,k,h⟩:=H1 h
 refine M6 (V2 k) eK R R R R ?_ ?_
 ·intro c
  replace h:=J7 c h
  refine A0 R (L9 11 R (D6 R (A3 R (I0 kR (A6 (C0 R (qG (A3 R (eN (C9 (C4 (B2 ?_))))))))))))
  obtain rfl:=sI h
  exact f1 2 R
 intro c
 replace h:=ifF c h
 refine A0 R (A0 R (S2 R R R (M4 tb R (M4 tb R (I4 (y:=vI t.I3) tb (U5 (g:=E6.d) (R:P3 [t] 0=some t)) R (A0 R (S2 R R R (M4 tb R (M4 tb R (I4 (y:=vI t.N7) tb (U5 (g:=E6.d) (R:P3 [t] 0=some t)) R ?_))))))))))
 obtain⟨rv2,k2,h⟩:=H1 h
 refine M6 (V2 k2) eK R R R R ?_ ?_
 ·intro c2
  replace h:=J7 c2 h
  refine D0 R (A3 R (I0 kR (A6 (C0 R (qG (A3 R (eN (C9 (C4 (B2 ?_))))))))))
  obtain rfl:=sI h
  exact f1 2 R
 intro c2
 replace h:=ifF c2 h
 refine D0 R (A3 R (I0 kR (A6 (C1 R (B8 (T1 kR (A0 R (S2 R R R (M4 tb R (M4 tb R (I4 (y := .arr 1 ((t.A9).map vI)) tb (U5 (g:=E6.d) (R:P3 [t] 0=some t)) R (I7 tb R (C8 tb R (B5 (y := .arr 2 ((t.O3).map E2.d)) tb R (I7 tb R ?_)))))))))))))))
 refine V5 R R R R ?_ ?_
 ·intro c3
  replace h:=P1 c3 h
  refine A0 R (L9 10 R (D6 R (A0 R (L9 10 R (D6 R (A3 R (I0 kR (A6 (C0 R (qG (A3 R (eN (C9 (C4 (B2 ?_)))))))))))))))
  obtain rfl:=sI h
  exact f1 2 R
 intro c3
 replace h:=J7 c3 h
 refine A0 R (A0 R (S2 R R R (M4 tb R (M4 tb R (I4 (y := .arr 1 ((t.A8).map vI)) tb (U5 (g:=E6.d) (R:P3 [t] 0=some t)) R (I7 tb R (C8 tb R (B5 (y := .arr 1 ((t.A0r).map vS)) tb R (I7 tb R ?_)))))))))
 refine V5 R R R R ?_ ?_
 ·intro c4
  replace h:=P1 c4 h
  refine D0 R (A0 R (L9 10 R (D6 R (A3 R (I0 kR (A6 (C0 R (qG (A3 R (eN (C9 (C4 (B2 ?_)))))))))))))
  obtain rfl:=sI h
  exact f1 2 R
 intro c4
 replace h:=J7 c4 h
 refine D0 R (A0 R (A0 R (S2 R R R (M4 tb R (M4 tb R (I4 (y := .arr 1 ((t.A4).map vI)) tb (U5 (g:=E6.d) (R:P3 [t] 0=some t)) R (I7 tb R (C8 tb R (B5 (y := .arr 6 ((t.O4).map D1.d)) tb R (I7 tb R ?_))))))))))
 refine V5 R R R R ?_ ?_
 ·intro c5
  replace h:=P1 c5 h
  refine D0 R (A3 R (I0 kR (A6 (C0 R (qG (A3 R (eN (C9 (C4 (B2 ?_))))))))))
  obtain rfl:=sI h
  exact f1 2 R
 intro c5
 replace h:=J7 c5 h
 refine D0 R (A3 R (I0 kR (A6 (C1 R (D7 (D3 (A6 ?_)))))))
 exact .inl ⟨(),h,.prn [0,2,3,4] R⟩
def Y0 (F:Nat) (c:E6) (zone:Int) (K:Int→Int→Option Int):Nat→Int→Int→Option Int
 | 0,_,_=>none
 | n+1,nv,x=>if x<(c.A9.length:Int)then((P3 c.A9 x).bind fun e=>if e=zone then(Y0 F c zone K n (W (nv+1)) (W (x+1)))else(Y0 F c zone K n nv (W (x+1))))else(K nv x)
def A03 (F:Nat) (c:E6) (zone:Int):Option Int:=Y0 F c zone (fun(nv:Int) (x:Int)=>some nv) F 0 0
theorem A3C {F:Nat} {c:E6} {zone:Int} {r:Int} (h:A03 F c zone=some r):PC Tryz.prog 150 [.el 13 (([c]).map E6.d) ((0:Int)).toNat 0,.v (.int .i64 zone)] (.v (.int .i64 r)):=by
 rw[A03]at h
 refine SC.of_sw Tryz.func150 R R R ?_
 dsimp only[L8,List.map]
 refine qG (A3 R (eN (B8 (qG (A0 R (S2 R R R (M4 tb R (M4 tb R (I4 (y := .arr 1 ((c.A9).map vI)) tb (U5 (g:=E6.d) (R:P3 [c] 0=some c)) R (I7 tb R (A0 R (eN (E3 ?_)))))))))))))
 obtain⟨K3,hK3,h⟩:∃ K,K=_∧Y0 F c zone K F 0 0=some r:=⟨_,rfl,h⟩
 refine M2 (fun m st=>∃ (nv:Int) (x:Int),Y0 F c zone K3 m nv x=some r∧st=⟨[(1,.d (vI zone)),(4,.d (vI nv)),(11,.d (.arr 1 ((c.A9).map vI))),(12,.d (vI (c.A9.length:Int))),(13,.d (vI x))],[]⟩) (.prn [1,4,11,12,13] R) ⟨0,0,h,R⟩ ?_
 clear h
 rintro m3 st ⟨nv,x,h,rfl⟩
 cases m3 with
 | zero=>cases(show(none:Option Int)=some r from h)
 | succ m3 =>
 rw[Y0]at h
 refine qG ?_
 refine Q4 R R R R ?_ ?_
 ·intro c2
  replace h:=J7 c2 h
  refine eN (B8 (C0 R (D7 (A6 (B8 (E3 (qG ?_)))))))
  obtain⟨e,ie,h⟩:=H1 h
  refine N8 tb (F0 ie) (V1 ie) R (I4 (y:=vI e) tb (U5 (g:=vI) ie) R (A3 R (eN (qG (A0 R (A0 R ?_))))))
  refine Z3 R R R R ?_ ?_
  ·intro c3
   replace h:=J7 c3 h
   refine eN (C0 R (J1 (A0 R (O1 R (A3 R (Y9 (D3 (A6 (J1 (O1 R (A0 R (eN ?_))))))))))))
   exact⟨m3,_,lS,.prn [1,4,11,12,13] R,(W (nv+1)),(W (x+1)),h,R⟩
  intro c3
  replace h:=P1 c3 h
  refine eN (C1 R (D7 (D3 (A6 (J1 (O1 R (A0 R (eN ?_))))))))
  exact⟨m3,_,lS,.prn [1,4,11,12,13] R,nv,(W (x+1)),h,R⟩
 intro c2
 replace h:=P1 (nL c2) h
 refine eN (B8 (C1 R (N5 (E4 (E4 ?_)))))
 subst hK3
 refine I5 (A6 (qG (A0 R (A3 R (eN (C9 ?_))))))
 obtain rfl:=sI h
 exact f1 4 R
def X4 (F:Nat) (c:E6) (e:D1) (K:(List Int)→Int→Option (List Int)):Nat→(List Int)→Int→Option (List Int)
 | 0,_,_=>none
 | n+1,lv,x=>if x<(e.keys.length:Int)then((P3 e.keys x).bind fun e2=>(P3 c.A8 e2).bind fun e3=>if 0≤e3 then((A8i lv [e2]).bind fun q=>X4 F c e K n q (W (x+1)))else(X4 F c e K n lv (W (x+1))))else(K lv x)
def A11 (F:Nat) (c:E6) (squib:Int):Option (List Int):=(P3 c.O4 squib).bind fun e=>X4 F c e (fun(lv:(List Int)) (x:Int)=>some lv) F ([]:List Int) 0
theorem A3D {F:Nat} {c:E6} {squib:Int} {r:(List Int)} (h:A11 F c squib=some r):SCR Tryz.prog 153 (List.map T.d [.el 13 (([c]).map E6.d) ((0:Int)).toNat 0,.v (.int .i64 squib)]) [] (.row 0 1 0 (r).length) (List.map some [(B7 r)]):=by
 rw[A11]at h
 refine SC.of_sw Tryz.func153 R R R ?_
 dsimp only[L8,List.map]
 refine qG (A3 R (eN (B8 (qG (A0 R (S2 R R R (M4 tb R (M4 tb R (I4 (y := .arr 6 ((c.O4).map D1.d)) tb (U5 (g:=E6.d) (R:P3 [c] 0=some c)) R (A0 R ?_))))))))))
 obtain⟨e,ie,h⟩:=H1 h
 refine N8 tb (F0 ie) (V1 ie) R (M4 tb R (I4 (y := .arr 1 ((e.keys).map vI)) tb (U5 (g:=D1.d) ie) R (I7 tb R (A0 R (eN (E3 ?_))))))
 refine SW.own (ts':=[(0,.d (.el 13 (([c]).map E6.d) ((0:Int)).toNat 0)),(4,.row 0 1 0 (([]:List Int)).length),(15,.d (.arr 1 ((e.keys).map vI))),(16,.d (vI (e.keys.length:Int))),(17,.d (vI 0))]) (L':=[]) 1 R R (.cons (.same _) (.cons .nil (.cons (.same _) (.cons (.same _) (.cons (.same _) .nil))))) .nil ?_
 simp only[List.cons_append,List.nil_append]
 obtain⟨K2,hK2,h⟩:∃ K,K=_∧X4 F c e K F ([]:List Int) 0=some r:=⟨_,rfl,h⟩
 refine M2 (fun m st=>∃ (lv:(List Int)) (x:Int),X4 F c e K2 m lv x=some r∧st=⟨[(0,.d (.el 13 (([c]).map E6.d) ((0:Int)).toNat 0)),(4,.row 0 1 0 (lv).length),(15,.d (.arr 1 ((e.keys).map vI))),(16,.d (vI (e.keys.length:Int))),(17,.d (vI x))],[B0u lv]⟩) (.prn [0,4,15,16,17] R) ⟨([]:List Int),0,h,R⟩ ?_
 clear h
 rintro m2 st ⟨lv,x,h,rfl⟩
 cases m2 with
 | zero=>cases(show(none:Option (List Int))=some r from h)
 | succ m2 =>
 rw[X4]at h
 refine qG ?_
 refine Q4 R R R R ?_ ?_
 ·intro c2
  replace h:=J7 c2 h
  refine eN (B8 (C0 R (D7 (A6 (B8 (E3 (qG ?_)))))))
  obtain⟨e2,ie2,h⟩:=H1 h
  refine N8 tb (F0 ie2) (V1 ie2) R (I4 (y:=vI e2) tb (U5 (g:=vI) ie2) R (A3 R (eN (qG (A0 R (S2 R R R (M4 tb R (M4 tb R (I4 (y := .arr 1 ((c.A8).map vI)) tb (U5 (g:=E6.d) (R:P3 [c] 0=some c)) R (A0 R ?_))))))))))
  obtain⟨e3,ie3,h⟩:=H1 h
  refine N8 tb (F0 ie3) (V1 ie3) R (I4 (y:=vI e3) tb (U5 (g:=vI) ie3) R ?_)
  refine A7I R R R R ?_ ?_
  ·intro c3
   replace h:=J7 c3 h
   refine eN (C0 R (J1 (A0T R R R (A0 R (P7 tb R R R R R R R R R R R R R ?_)))))
   obtain⟨q,iq,h⟩:=H1 h
   refine B2k (g:=vI) (w:=lv) (v:=[e2]) ([none,B0u [e2]]) tb R R R R R R R R R R R iq R R R R R (A14 R R R (Y9 (D3 (A6 (J1 (O1 R (A0 R (eN ?_))))))))
   exact⟨m2,⟨[(0,.d (.el 13 (([c]).map E6.d) ((0:Int)).toNat 0)),(4,.row 0 1 0 (q).length),(15,.d (.arr 1 ((e.keys).map vI))),(16,.d (vI (e.keys.length:Int))),(17,.d (vI (W (x+1))))],[B0u q]⟩,lS,.vw (κ:=[2]) (vK C23 R),q,(W (x+1)),h,R⟩
  intro c3
  replace h:=P1 (Int.not_le.2 c3) h
  refine eN (C1 R (D7 (D3 (A6 (J1 (O1 R (A0 R (eN ?_))))))))
  exact⟨m2,_,lS,.prn [0,4,15,16,17] R,lv,(W (x+1)),h,R⟩
 intro c2
 replace h:=P1 (nL c2) h
 refine eN (B8 (C1 R (N5 (E4 (E4 ?_)))))
 subst hK2
 refine I5 (A6 (qG (A0T R R R (A14 R R R (eN (C9 ?_))))))
 obtain rfl:=sI h
 exact f2 [0] C23 R (.cons (.tmp 4) .nil) R
theorem B5O {F:Nat} {c:E6} {squib:Int} {r:(List Int)} (h:A11 F c squib=some r):PC Tryz.prog 153 [.el 13 (([c]).map E6.d) ((0:Int)).toNat 0,.v (.int .i64 squib)] (.arr 1 ((r).map vI)):=(A3D h).toPC (.row rfl rfl)
def A0N (F:Nat) (k:Int) (c:E6) (c2:Int):Option Bool:=(P3 c.A8 k).bind fun e=>some (decide (e=c2))
theorem A7G {F:Nat} {k:Int} {c:E6} {c2:Int} {r:Bool} (h:A0N F k c c2=some r):PC Tryz.prog 195 [.v (.int .i64 k),.el 1 (([c]).map (fun x=>D.el 13 [E6.d x] 0 0)) ((0:Int)).toNat 0,.el 1 (([c2]).map vI) ((0:Int)).toNat 0] (.v (.bool r)):=by
 rw[A0N]at h
 refine SC.of_sw Tryz.func195 R R R ?_
 dsimp only[L8,List.map]
 refine qG (A3 R (eN (B8 (T1 kR ?_))))
 refine I4 (y := .el 13 (([c]).map E6.d) ((0:Int)).toNat 0) tb (U5 (g:=(fun x=>D.el 13 [E6.d x] 0 0)) (R:P3 [c] 0=some c)) R ?_
 refine S2 R R R (M4 tb R (M4 tb R (I4 (y := .arr 1 ((c.A8).map vI)) tb (U5 (g:=E6.d) (R:P3 [c] 0=some c)) R (A0 R ?_))))
 obtain⟨e,ie,h⟩:=H1 h
 refine N8 tb (F0 ie) (V1 ie) R (I4 (y:=vI e) tb (U5 (g:=vI) ie) R (I4 (y:=vI c2) tb (U5 (g:=vI) (R:P3 [c2] 0=some c2)) R (A3s R R R R (A3 R (I0 kR (A6 (C9 ?_)))))))
 obtain rfl:=sI h
 exact f1 4 R
def A10 (F:Nat) (B4:Int→Option Bool) (x:Int):Option Bool:=B4 (W (x+1))
def R0 (F:Nat) (c:E6) (person:Int) (rv:(Int × D5)) (e:F6) (K:Int→Option Bool):Nat→Int→Option Bool
 | 0,_=>none
 | n+1,x=>if x<(rv.2.squibs.length:Int)then((P3 rv.2.squibs x).bind fun e2=>if(W ((W ((max (max (W (e.L5-e2.A4s)) (W (e2.A4s-e.L4))) 0)*(max (max (W (e.L5-e2.A4s)) (W (e2.A4s-e.L4))) 0)))+(W ((max (max (W (e.L7-e2.A4t)) (W (e2.A4t-e.L6))) 0)*(max (max (W (e.L7-e2.A4t)) (W (e2.A4t-e.L6))) 0)))))<(W (e2.clear*e2.clear))then((P3 c.A4 x).bind fun e3=>if e3=2 then(A10 F (R0 F c person rv e K n) x)else((P3 c.O4 x).bind fun e4=>(M1 F e4.keys (fun a0=>A0N F a0 c person)).bind fun rv2=>if rv2=true then(A10 F (R0 F c person rv e K n) x)else(some false)))else(R0 F c person rv e K n (W (x+1))))else(K x)
def A0g (F:Nat) (c:E6) (person:Int) (zone:Int):Option Bool:=(A30 F (D5.mk c.O0 c.V4 c.O3 c.A0r c.O4 c.X3 c.A0s) zone).bind fun rv=>if rv.1<0 then(some true)else((P3 rv.2.zones rv.1).bind fun e=>R0 F c person rv e (fun(x:Int)=>some true) F 0)
theorem A27 {F:Nat} {c:E6} {person:Int} {zone:Int} {r:Bool} (h:A0g F c person zone=some r):PC Tryz.prog 152 [.el 13 (([c]).map E6.d) ((0:Int)).toNat 0,.v (.int .i64 person),.v (.int .i64 zone)] (.v (.bool r)):=by
 rw[A0g]at h
 refine SC.of_swm Tryz.func152 R R R ?_
 dsimp only[L8,List.map]
 refine S3 ?_
 refine W3 fun df=>?_
 refine J1 (M9 R (M9 R (M5 tb R R R R R (eN (S3 (S3 ?_))))))
 refine W3 fun df=>?_
 refine J1 (B5 (y := .el 13 (([c]).map E6.d) ((0:Int)).toNat 0) tb R (S2 R R R (M4 tb R (I4 (y := .agg [.arr 8 ((c.O0).map F6.d),.arr 2 ((c.V4).map G6.d),.arr 2 ((c.O3).map E2.d),.arr 1 ((c.A0r).map vS),.arr 6 ((c.O4).map D1.d),vI c.X3,vI c.A0s]) tb (U5 (g:=E6.d) (R:P3 [c] 0=some c)) R (A0 R ?_)))))
 obtain⟨rv,k,h⟩:=H1 h
 refine A2X (t' := .fn (.func 148) [] [.ref 3 1 0 0,.ref 4 7 0 0]) (news':=[⟨1,[.d (vI rv.1)]⟩,⟨7,[.d (D5.d rv.2)]⟩]) (A7k k) eK R R R ((.cons R (.cons R .nil))) R R R (eN (A5A ?_))
 refine A9S eK Tryz.func148 R R R R R R fun lb=>?_
 simp only[L8,Nat.zero_add,Nat.reduceAdd]
 refine U7 (U7 (A1h (A0u (B5 (y:=vI rv.1) tb R ?_))))
 refine Q4 R R R R ?_ ?_
 ·intro c2
  replace h:=J7 c2 h
  refine T7 (I8 (A3R R (A9v (A4F ?_))))
  refine⟨R,[c1 (.el 13 (([c]).map E6.d) ((0:Int)).toNat 0),c1 (vI person),c1 (.v (.bool false)),c1 (vI rv.1),bx 7 (.d (D5.d rv.2))],[0,1,2,3,4],(vK (.cons R R (.cons R R (.cons R R (.cons R R (.cons R R .nil))))) R),?_⟩
  refine D3 (A6 ?_)
  refine W3 fun df=>?_
  refine qG (I6 _ _ tb R (eN (C9 ?_)))
  obtain rfl:=sI h
  exact U4 (t := .d (.v (.bool true))) R R R (.cons (rc tb R) .nil)
 intro c2
 replace h:=P1 (nL c2) h
 refine T7 (I8 (A1K R (A2O (I8 (U7 (A1h (A0u (C8 tb R (B5 (y := .arr 8 ((rv.2.zones).map F6.d)) tb R (B5 (y:=vI rv.1) tb R ?_))))))))))
 obtain⟨e,ie,h⟩:=H1 h
 refine N8 tb (F0 ie) (V1 ie) R (M4 tb R (I4 (y := .agg [vI e.L5,vI e.L4,vI e.L7,vI e.L6]) tb (U5 (g:=F6.d) ie) R (M5 tb R R R R R (I6 _ _ tb R (T7 (I8 (U7 (A1h (A0u (C8 tb R (B5 (y := .arr 6 ((rv.2.squibs).map D1.d)) tb R (I7 tb R (A0 R (T7 (I8 (A59 ?_))))))))))))))))
 obtain⟨K4,hK4,h⟩:∃ K,K=_∧R0 F c person rv e K F 0=some r:=⟨_,rfl,h⟩
 refine A9Q (fun m ph st=>∃ (x:Int),R0 F c person rv e K4 m x=some r∧ph=SX.norm∧st=⟨[(0,.d (.v (.func (.yield lb) #[] #[]))),(4,.ref 5 4 0 0),(18,.d (.arr 6 ((rv.2.squibs).map D1.d))),(19,.d (vI (rv.2.squibs.length:Int))),(20,.d (vI x))],[c1 (.el 13 (([c]).map E6.d) ((0:Int)).toNat 0),c1 (vI person),c1 (.v (.bool false)),c1 (vI rv.1),bx 7 (.d (D5.d rv.2)),bx 4 (.d (.agg [vI e.L5,vI e.L4,vI e.L7,vI e.L6]))]⟩) (.prn [0,4,18,19,20] R) ⟨0,h,R,R⟩ ?_
 clear h
 rintro m4 ph st ⟨x,h,rfl,rfl⟩
 cases m4 with
 | zero=>cases(show(none:Option Bool)=some r from h)
 | succ m4 =>
 rw[R0]at h
 refine U7 (A1h (A0u ?_))
 refine Q4 R R R R ?_ ?_
 ·intro c3
  replace h:=J7 c3 h
  refine T7 (I8 (U7 (A3R R (A2O (I8 (U7 (A59 (U7 (A1h (A0u (A0 R ?_)))))))))))
  obtain⟨e2,ie2,h⟩:=H1 h
  refine N8 tb (F0 ie2) (V1 ie2) R (I4 (y:=D1.d e2) tb (U5 (g:=D1.d) ie2) R (M5 tb R R R R R (A3 R (I6 _ _ tb R (T7 (I8 (U7 (A9R (T1 kR (C8 tb R (C8 tb R (B5 (y:=vI e.L5) tb R (C8 tb R (C8 tb R (B5 (y:=vI e2.A4s) tb R (A1n R R R R (C8 tb R (C8 tb R (B5 (y:=vI e2.A4s) tb R (C8 tb R (C8 tb R (B5 (y:=vI e.L4) tb R (A1n R R R R ?_)))))))))))))))))))))))
  refine A9L R R R R R (C8 tb R (C8 tb R (B5 (y:=vI e.L7) tb R (C8 tb R (C8 tb R (B5 (y:=vI e2.A4t) tb R (A1n R R R R (C8 tb R (C8 tb R (B5 (y:=vI e2.A4t) tb R (C8 tb R (C8 tb R (B5 (y:=vI e.L6) tb R (A1n R R R R (A9L R R R R R (A3 R (A3 R (I0 kR (I8 (U7 (A1h (A0u (A0 R (A0 R (A5Q R R R R (A0 R (A0 R ?_)))))))))))))))))))))))))))
  refine A5Q R R R R (O1 R (C8 tb R (B5 (y:=vI e2.clear) tb R (C8 tb R (B5 (y:=vI e2.clear) tb R (A5Q R R R R ?_))))))
  refine Q4 R R R R ?_ ?_
  ·intro c4
   replace h:=J7 c4 h
   refine A0 R (A0 R (A0 R (A99 ?_)))
   (with_reducible apply A9M (ys:=[vI x]));(iterate 7 exact rfl)
   dsimp only[B1H]
   refine J1 (A3 R (Y9 ?_))
   refine⟨R,B8o ?_⟩
   refine E3 (B8 ?_)
   refine W5 (fun zz:Unit=>A10 F (R0 F c person rv e K4 m4) x=some r) (fun zz:Unit=>⟨[(6,.ref 2 1 0 0),(37,.d (.v (.bool false)))],[c1 (.el 13 (([c]).map E6.d) ((0:Int)).toNat 0),c1 (vI person),c1 (.v (.bool false)),c1 (vI rv.1),bx 7 (.d (D5.d rv.2)),bx 4 (.d (.agg [vI e.L5,vI e.L4,vI e.L7,vI e.L6])),bx 6 (.d (D1.d e2))]⟩) ?_ ?_
   ·clear h
    rintro⟨⟩ h
    rw[A10]at h
    refine C1 R (D7 (D3 ?_))
    refine⟨[c1 (.el 13 (([c]).map E6.d) ((0:Int)).toNat 0),c1 (vI person),c1 (.v (.bool false)),c1 (vI rv.1),bx 7 (.d (D5.d rv.2)),bx 4 (.d (.agg [vI e.L5,vI e.L4,vI e.L7,vI e.L6])),bx 6 (.d (D1.d e2))],[0,1,2,3,4,5,6],(vK (.cons R R (.cons R R (.cons R R (.cons R R (.cons R R (.cons R R (.cons R R .nil))))))) R),?_⟩
    with_reducible apply B3t
    refine A0u (A0a R R R (D6 R (T7 (I8 (A1K R (A2O (A3G (I8 (A1h (A0u (O1 R (A0 R (T7 (I8 ?_))))))))))))))
    exact⟨m4,⟨[(0,.d (.v (.func (.yield lb) #[] #[]))),(4,.ref 5 4 0 0),(18,.d (.arr 6 ((rv.2.squibs).map D1.d))),(19,.d (vI (rv.2.squibs.length:Int))),(20,.d (vI (W (x+1))))],[c1 (.el 13 (([c]).map E6.d) ((0:Int)).toNat 0),c1 (vI person),c1 (.v (.bool false)),c1 (vI rv.1),bx 7 (.d (D5.d rv.2)),bx 4 (.d (.agg [vI e.L5,vI e.L4,vI e.L7,vI e.L6]))]⟩,lS,.vw (κ:=[0,1,2,3,4,5]) (vK (.cons R R (.cons R R (.cons R R (.cons R R (.cons R R (.cons R R .nil)))))) R),(W (x+1)),h,R,R⟩
   refine J1 (B5 (y := .el 13 (([c]).map E6.d) ((0:Int)).toNat 0) tb R (S2 R R R (M4 tb R (M4 tb R (I4 (y := .arr 1 ((c.A4).map vI)) tb (U5 (g:=E6.d) (R:P3 [c] 0=some c)) R (A0 R ?_))))))
   obtain⟨e3,ie3,h⟩:=H1 h
   refine N8 tb (F0 ie3) (V1 ie3) R (I4 (y:=vI e3) tb (U5 (g:=vI) ie3) R ?_)
   refine V5 R R R R ?_ ?_
   ·intro c5
    replace h:=P1 c5 h
    refine A0 R (B5 (y := .el 13 (([c]).map E6.d) ((0:Int)).toNat 0) tb R (S2 R R R (M4 tb R (M4 tb R (I4 (y := .arr 6 ((c.O4).map D1.d)) tb (U5 (g:=E6.d) (R:P3 [c] 0=some c)) R (A0 R ?_))))))
    obtain⟨e4,ie4,h⟩:=H1 h
    refine N8 tb (F0 ie4) (V1 ie4) R (M4 tb R (I4 (y := .arr 1 ((e4.keys).map vI)) tb (U5 (g:=D1.d) ie4) R (A3E R R R R ?_)))
    obtain⟨rv2,k2,h⟩:=H1 h
    refine A0t (t' := .d (.v (.bool rv2))) (news':=[]) (R5 (f:=(fun a0=>A0N F a0 c person)) (fc:=[.el 1 [.el 13 (([c]).map E6.d) ((0:Int)).toNat 0] 0 0,.el 1 [vI person] 0 0]) (fh:=fun hr=>A7G hr) (fe := .of kR) k2) R .nil eK R R ((.cons (.d (.d _)) (.cons (.fnC (.cons (.d (.ref R (.d _))) (.cons (.d (.ref R (.d _))) .nil))) .nil))) R .nil R R R ?_
    simp only[List.map_nil,List.append_nil]
    with_reducible apply X8
    ·intro c6
     replace h:=J7 c6 h
     refine A0a R R R (D6 R (eN ?_))
     exact .inl ⟨(),h,.prn [6,37] R⟩
    intro c6
    replace h:=ifF c6 h
    refine Z9 R R R (D6 R (eN (.inr (C0 R (qG (I6 _ _ tb R (eN (C9 (C4 ?_)))))))))
    refine⟨[c1 (.el 13 (([c]).map E6.d) ((0:Int)).toNat 0),c1 (vI person),c1 (.v (.bool false)),c1 (vI rv.1),bx 7 (.d (D5.d rv.2)),bx 4 (.d (.agg [vI e.L5,vI e.L4,vI e.L7,vI e.L6])),bx 6 (.d (D1.d e2))],[0,1,2,3,4,5,6],(vK (.cons R R (.cons R R (.cons R R (.cons R R (.cons R R (.cons R R (.cons R R .nil))))))) R),?_⟩
    with_reducible apply B8w
    refine A0u (Z9 R R R (D6 R (T7 (I8 (A3R R (A9v (A6S (A4F (A4F (A6S ?_))))))))))
    refine⟨R,[c1 (.el 13 (([c]).map E6.d) ((0:Int)).toNat 0),c1 (vI person),c1 (.v (.bool false)),c1 (vI rv.1),bx 7 (.d (D5.d rv.2))],[0,1,2,3,4],(vK (.cons R R (.cons R R (.cons R R (.cons R R (.cons R R .nil))))) R),?_⟩
    refine C4 (B2 ?_)
    obtain rfl:=sI h
    exact U4 (t := .d (.v (.bool false))) R R R (.cons (rc tb R) .nil)
   intro c5
   replace h:=J7 c5 h
   refine A0 R (L9 12 R (D0 R (eN ?_)))
   exact .inl ⟨(),h,.prn [6,37] R⟩
  intro c4
  replace h:=P1 (nL c4) h
  refine A0 R (L9 4 R (D0 R (T7 (I8 (A1K R (A2O (A3G (I8 (A1h (A0u (O1 R (A0 R (T7 (I8 ?_))))))))))))))
  exact⟨m4,⟨[(0,.d (.v (.func (.yield lb) #[] #[]))),(4,.ref 5 4 0 0),(18,.d (.arr 6 ((rv.2.squibs).map D1.d))),(19,.d (vI (rv.2.squibs.length:Int))),(20,.d (vI (W (x+1))))],[c1 (.el 13 (([c]).map E6.d) ((0:Int)).toNat 0),c1 (vI person),c1 (.v (.bool false)),c1 (vI rv.1),bx 7 (.d (D5.d rv.2)),bx 4 (.d (.agg [vI e.L5,vI e.L4,vI e.L7,vI e.L6]))]⟩,lS,.vw (κ:=[0,1,2,3,4,5]) (vK (.cons R R (.cons R R (.cons R R (.cons R R (.cons R R (.cons R R .nil)))))) R),(W (x+1)),h,R,R⟩
 intro c3
 replace h:=P1 (nL c3) h
 refine T7 (I8 (U7 (A1K R (B13 (A4E (A4E ?_))))))
 subst hK4
 refine A76 ?_
 refine⟨R,[c1 (.el 13 (([c]).map E6.d) ((0:Int)).toNat 0),c1 (vI person),c1 (.v (.bool false)),c1 (vI rv.1),bx 7 (.d (D5.d rv.2))],[0,1,2,3,4],(vK (.cons R R (.cons R R (.cons R R (.cons R R (.cons R R .nil))))) R),?_⟩
 refine D3 (A6 ?_)
 refine W3 fun df=>?_
 refine qG (I6 _ _ tb R (eN (C9 ?_)))
 obtain rfl:=sI h
 exact U4 (t := .d (.v (.bool true))) R R R (.cons (rc tb R) .nil)
def A0f (F:Nat) (c:E6) (zone:Int):Option Bool:=if 0≤zone then((P3 c.O0 zone).bind fun e=>if e.pair=true then((A03 F c zone).bind fun rv=>some (decide (rv=1)))else(some false))else(some false)
theorem A3B {F:Nat} {c:E6} {zone:Int} {r:Bool} (h:A0f F c zone=some r):PC Tryz.prog 151 [.el 13 (([c]).map E6.d) ((0:Int)).toNat 0,.v (.int .i64 zone)] (.v (.bool r)):=by
 rw[A0f]at h
 refine SC.of_sw Tryz.func151 R R R ?_
 dsimp only[L8,List.map]
 refine qG (A3 R (eN (qG (A0 R ?_))))
 refine A7I R R R R ?_ ?_
 ·intro c2
  replace h:=J7 c2 h
  refine A0 R (A0 R (S2 R R R (M4 tb R (M4 tb R (I4 (y := .arr 8 ((c.O0).map F6.d)) tb (U5 (g:=E6.d) (R:P3 [c] 0=some c)) R (A0 R ?_))))))
  obtain⟨e,ie,h⟩:=H1 h
  refine N8 tb (F0 ie) (V1 ie) R (M4 tb R (I4 (y := .v (.bool e.pair)) tb (U5 (g:=F6.d) ie) R ?_))
  with_reducible apply X8
  ·intro c3
   replace h:=J7 c3 h
   refine D6 R (A0 R (A0 R (A0 R ?_)))
   obtain⟨rv,k,h⟩:=H1 h
   refine J5 (A3C k) eK R R R R (A3s R R R R (D6 R (A3 R (eN (C9 ?_)))))
   obtain rfl:=sI h
   exact f1 4 R
  intro c3
  replace h:=ifF c3 h
  refine D6 R (A0 R (L9 4 R (D0 R (A3 R (eN (C9 ?_))))))
  obtain rfl:=sI h
  exact f1 4 R
 intro c2
 replace h:=P1 (Int.not_le.2 c2) h
 refine A0 R (L9 9 R (D0 R (A0 R (L9 4 R (D0 R (A3 R (eN (C9 ?_))))))))
 obtain rfl:=sI h
 exact f1 4 R
def A12 (F:Nat) (B6:Int→Option Bool) (x2:Int):Option Bool:=B6 (W (x2+1))
def R1 (F:Nat) :Option Bool:=some false
def A13 (F:Nat) (B9:Int→Option Bool) (x3:Int):Option Bool:=B9 (W (x3+1))
def S6 (F:Nat) (t:E6) (K:Int→Option Bool):Nat→Int→Option Bool
 | 0,_=>none
 | n+1,x3=>if x3<(t.A4.length:Int)then((P3 t.A4 x3).bind fun e5=>if e5=1 then((A11 F t x3).bind fun rv5=>if 0<(rv5.length:Int)then(R1 F)else(if t.I3<0 then(R1 F)else(if t.I1=true then(R1 F)else(A13 F (S6 F t K n) x3))))else(A13 F (S6 F t K n) x3))else(K x3)
def S7 (F:Nat) (t:E6) (K:Int→Option Bool):Nat→Int→Option Bool
 | 0,_=>none
 | n+1,x2=>if x2<(t.A9.length:Int)then((P3 t.A9 x2).bind fun e2=>if 0≤e2 then((P3 t.O3 x2).bind fun e3=>(P3 t.O0 e2).bind fun e4=>if e3.grade<e4.grade then(R1 F)else((A0g F t x2 e2).bind fun rv3=>if rv3=true then(A12 F (S7 F t K n) x2)else(R1 F)))else((A0g F t x2 e2).bind fun rv4=>if rv4=true then(A12 F (S7 F t K n) x2)else(R1 F)))else(K x2)
def V9 (F:Nat) (t:E6) (K:Int→Option Bool):Nat→Int→Option Bool
 | 0,_=>none
 | n+1,x=>if x<(t.O0.length:Int)then((P3 t.O0 x).bind fun e=>(A03 F t x).bind fun rv=>if e.room<rv then(some false)else((A0f F t x).bind fun rv2=>if rv2=true then(some false)else(V9 F t K n (W (x+1)))))else(K x)
def A2L (F:Nat) (t:E6):Option Bool:=V9 F t (fun(x:Int)=>S7 F t (fun(x2:Int)=>S6 F t (fun(x3:Int)=>some true) F 0) F 0) F 0
theorem A8C {F:Nat} {t:E6} {r:Bool} (h:A2L F t=some r):PC Tryz.prog 77 [.el 13 (([t]).map E6.d) ((0:Int)).toNat 0] (.v (.bool r)):=by
 rw[A2L]at h
 refine SC.of_sw Tryz.func77 R R R ?_
 dsimp only[L8,List.map]
 refine qG (A3 R (eN (B8 (qG (A0 R (S2 R R R (M4 tb R (M4 tb R (I4 (y := .arr 8 ((t.O0).map F6.d)) tb (U5 (g:=E6.d) (R:P3 [t] 0=some t)) R (I7 tb R (A0 R (eN (E3 ?_)))))))))))))
 obtain⟨K3,hK3,h⟩:∃ K,K=_∧V9 F t K F 0=some r:=⟨_,rfl,h⟩
 refine M2 (fun m st=>∃ (x:Int),V9 F t K3 m x=some r∧st=⟨[(0,.d (.el 13 (([t]).map E6.d) ((0:Int)).toNat 0)),(2,.d (.v (.bool false))),(13,.d (.arr 8 ((t.O0).map F6.d))),(14,.d (vI (t.O0.length:Int))),(15,.d (vI x))],[]⟩) (.prn [0,2,13,14,15] R) ⟨0,h,R⟩ ?_
 clear h
 rintro m3 st ⟨x,h,rfl⟩
 cases m3 with
 | zero=>cases(show(none:Option Bool)=some r from h)
 | succ m3 =>
 rw[V9]at h
 refine qG ?_
 refine Q4 R R R R ?_ ?_
 ·intro c
  replace h:=J7 c h
  refine eN (B8 (C0 R (D7 (A6 (B8 (E3 (qG (A0 R ?_))))))))
  obtain⟨e,ie,h⟩:=H1 h
  refine N8 tb (F0 ie) (V1 ie) R (I4 (y:=F6.d e) tb (U5 (g:=F6.d) ie) R (M5 tb R R R R R (A3 R (I6 _ _ tb R (eN (B8 (T1 kR (A0 R (A0 R ?_)))))))))
  obtain⟨rv,k,h⟩:=H1 h
  refine J5 (A3C k) eK R R R R (C8 tb R (B5 (y:=vI e.room) tb R ?_))
  refine A4l R R R R ?_ ?_
  ·intro c2
   replace h:=J7 c2 h
   refine A0 R (L9 3 R (D6 R (I0 kR (A6 (C0 R (qG (A3 R (eN (C9 (C4 (B2 (B2 (C4 (B2 ?_))))))))))))))
   obtain rfl:=sI h
   exact f1 2 R
  intro c2
  replace h:=P1 (nL c2) h
  refine A0 R (A0 R (A0 R ?_))
  obtain⟨rv2,k2,h⟩:=H1 h
  refine M6 (A3B k2) eK R R R R ?_ ?_
  ·intro c3
   replace h:=J7 c3 h
   refine D0 R (I0 kR (A6 (C0 R (qG (A3 R (eN (C9 (C4 (B2 (B2 (C4 (B2 ?_))))))))))))
   obtain rfl:=sI h
   exact f1 2 R
  intro c3
  replace h:=ifF c3 h
  refine D0 R (I0 kR (A6 (C1 R (D7 (D3 (A6 (J1 (O1 R (A0 R (eN ?_))))))))))
  exact⟨m3,⟨[(0,.d (.el 13 (([t]).map E6.d) ((0:Int)).toNat 0)),(2,.d (.v (.bool false))),(13,.d (.arr 8 ((t.O0).map F6.d))),(14,.d (vI (t.O0.length:Int))),(15,.d (vI (W (x+1))))],[]⟩,lS,.vw (κ:=[]) (v0 R),(W (x+1)),h,R⟩
 intro c
 replace h:=P1 (nL c) h
 refine eN (B8 (C1 R (N5 (E4 (E4 ?_)))))
 subst hK3
 refine I5 (A6 (B8 (qG (A0 R (S2 R R R (M4 tb R (M4 tb R (I4 (y := .arr 1 ((t.A9).map vI)) tb (U5 (g:=E6.d) (R:P3 [t] 0=some t)) R (I7 tb R (A0 R (eN (E3 ?_))))))))))))
 obtain⟨K6,hK6,h⟩:∃ K,K=_∧S7 F t K F 0=some r:=⟨_,rfl,h⟩
 refine M2 (fun m st=>∃ (x2:Int),S7 F t K6 m x2=some r∧st=⟨[(0,.d (.el 13 (([t]).map E6.d) ((0:Int)).toNat 0)),(2,.d (.v (.bool false))),(36,.d (.arr 1 ((t.A9).map vI))),(37,.d (vI (t.A9.length:Int))),(38,.d (vI x2))],[]⟩) (.prn [0,2,36,37,38] R) ⟨0,h,R⟩ ?_
 clear h
 rintro m6 st ⟨x2,h,rfl⟩
 cases m6 with
 | zero=>cases(show(none:Option Bool)=some r from h)
 | succ m6 =>
 rw[S7]at h
 refine qG ?_
 refine Q4 R R R R ?_ ?_
 ·intro c4
  replace h:=J7 c4 h
  refine eN (B8 (C0 R (D7 (A6 (B8 ?_)))))
  refine W5 (fun zz:Unit=>A12 F (S7 F t K6 m6) x2=some r) (fun zz:Unit=>⟨[(0,.d (.el 13 (([t]).map E6.d) ((0:Int)).toNat 0)),(2,.d (.v (.bool false))),(36,.d (.arr 1 ((t.A9).map vI))),(37,.d (vI (t.A9.length:Int))),(38,.d (vI x2))],[]⟩) ?_ ?_
  ·clear h
   rintro⟨⟩ h
   rw[A12]at h
   refine J1 (O1 R (A0 R (eN ?_)))
   exact⟨m6,_,lS,.prn [0,2,36,37,38] R,(W (x2+1)),h,R⟩
  refine E3 (qG (A0 R ?_))
  obtain⟨e2,ie2,h⟩:=H1 h
  refine N8 tb (F0 ie2) (V1 ie2) R (I4 (y:=vI e2) tb (U5 (g:=vI) ie2) R (A3 R (A3 R (eN (B8 ?_)))))
  refine W5 (fun zz:Unit=>R1 F=some r) (fun zz:Unit=>⟨[(0,.d (.el 13 (([t]).map E6.d) ((0:Int)).toNat 0)),(2,.d (.v (.bool false))),(36,.d (.arr 1 ((t.A9).map vI))),(37,.d (vI (t.A9.length:Int))),(38,.d (vI x2)),(72,.d (.v (.bool true)))],[]⟩) ?_ ?_
  ·clear h
   rintro⟨⟩ h
   rw[R1]at h
   refine C0 R (qG (A3 R (eN (C9 (C4 (B2 (B2 (C4 (B2 ?_)))))))))
   obtain rfl:=sI h
   exact f1 2 R
  refine T1 kR (A0 R ?_)
  refine A7I R R R R ?_ ?_
  ·intro c5
   replace h:=J7 c5 h
   refine A0 R (A0 R (S2 R R R (M4 tb R (M4 tb R (I4 (y := .arr 2 ((t.O3).map E2.d)) tb (U5 (g:=E6.d) (R:P3 [t] 0=some t)) R (A0 R ?_))))))
   obtain⟨e3,ie3,h⟩:=H1 h
   refine N8 tb (F0 ie3) (V1 ie3) R (M4 tb R (I4 (y:=vI e3.grade) tb (U5 (g:=E2.d) ie3) R (A0 R (S2 R R R (M4 tb R (M4 tb R (I4 (y := .arr 8 ((t.O0).map F6.d)) tb (U5 (g:=E6.d) (R:P3 [t] 0=some t)) R (A0 R ?_))))))))
   obtain⟨e4,ie4,h⟩:=H1 h
   refine N8 tb (F0 ie4) (V1 ie4) R (M4 tb R (I4 (y:=vI e4.grade) tb (U5 (g:=F6.d) ie4) R ?_))
   refine Q4 R R R R ?_ ?_
   ·intro c6
    replace h:=J7 c6 h
    refine D6 R (A0 R (L9 5 R (D6 R (I0 kR (A6 ?_)))))
    exact .inl ⟨(),h,.prn [0,2,36,37,38,72] R⟩
   intro c6
   replace h:=P1 (nL c6) h
   refine D6 R (A0 R (A0 R (A0 R (A0 R ?_))))
   obtain⟨rv3,k3,h⟩:=H1 h
   refine M6 (A27 k3) eK R R R R ?_ ?_
   ·intro c7
    replace h:=J7 c7 h
    refine A0a R R R (D0 R (I0 kR (A6 (.inr (C1 R (D7 (D3 (A6 ?_))))))))
    exact .inl ⟨(),h,.prn [0,2,36,37,38] R⟩
   intro c7
   replace h:=ifF c7 h
   refine Z9 R R R (D0 R (I0 kR (A6 ?_)))
   exact .inl ⟨(),h,.prn [0,2,36,37,38,72] R⟩
  intro c5
  replace h:=P1 (Int.not_le.2 c5) h
  refine A0 R (L9 19 R (D0 R (A0 R (A0 R (A0 R (A0 R ?_))))))
  obtain⟨rv4,k4,h⟩:=H1 h
  refine M6 (A27 k4) eK R R R R ?_ ?_
  ·intro c8
   replace h:=J7 c8 h
   refine A0a R R R (D0 R (I0 kR (A6 (.inr (C1 R (D7 (D3 (A6 ?_))))))))
   exact .inl ⟨(),h,.prn [0,2,36,37,38] R⟩
  intro c8
  replace h:=ifF c8 h
  refine Z9 R R R (D0 R (I0 kR (A6 ?_)))
  exact .inl ⟨(),h,.prn [0,2,36,37,38,72] R⟩
 intro c4
 replace h:=P1 (nL c4) h
 refine eN (B8 (C1 R (N5 (E4 (E4 ?_)))))
 subst hK6
 refine I5 (A6 (B8 (qG (A0 R (S2 R R R (M4 tb R (M4 tb R (I4 (y := .arr 1 ((t.A4).map vI)) tb (U5 (g:=E6.d) (R:P3 [t] 0=some t)) R (I7 tb R (A0 R (eN (E3 ?_))))))))))))
 obtain⟨K9,hK9,h⟩:∃ K,K=_∧S6 F t K F 0=some r:=⟨_,rfl,h⟩
 refine M2 (fun m st=>∃ (x3:Int),S6 F t K9 m x3=some r∧st=⟨[(0,.d (.el 13 (([t]).map E6.d) ((0:Int)).toNat 0)),(2,.d (.v (.bool false))),(78,.d (.arr 1 ((t.A4).map vI))),(79,.d (vI (t.A4.length:Int))),(80,.d (vI x3))],[]⟩) (.prn [0,2,78,79,80] R) ⟨0,h,R⟩ ?_
 clear h
 rintro m9 st ⟨x3,h,rfl⟩
 cases m9 with
 | zero=>cases(show(none:Option Bool)=some r from h)
 | succ m9 =>
 rw[S6]at h
 refine qG ?_
 refine Q4 R R R R ?_ ?_
 ·intro c9
  replace h:=J7 c9 h
  refine eN (B8 (C0 R (D7 (A6 (B8 ?_)))))
  refine W5 (fun zz:Unit=>A13 F (S6 F t K9 m9) x3=some r) (fun zz:Unit=>⟨[(0,.d (.el 13 (([t]).map E6.d) ((0:Int)).toNat 0)),(2,.d (.v (.bool false))),(78,.d (.arr 1 ((t.A4).map vI))),(79,.d (vI (t.A4.length:Int))),(80,.d (vI x3))],[]⟩) ?_ ?_
  ·clear h
   rintro⟨⟩ h
   rw[A13]at h
   refine J1 (O1 R (A0 R (eN ?_)))
   exact⟨m9,_,lS,.prn [0,2,78,79,80] R,(W (x3+1)),h,R⟩
  refine E3 (qG (A0 R ?_))
  obtain⟨e5,ie5,h⟩:=H1 h
  refine N8 tb (F0 ie5) (V1 ie5) R (I4 (y:=vI e5) tb (U5 (g:=vI) ie5) R (A3 R (A3 R (eN (B8 ?_)))))
  refine W5 (fun zz:Unit=>R1 F=some r) (fun zz:Unit=>⟨[(0,.d (.el 13 (([t]).map E6.d) ((0:Int)).toNat 0)),(2,.d (.v (.bool false))),(78,.d (.arr 1 ((t.A4).map vI))),(79,.d (vI (t.A4.length:Int))),(80,.d (vI x3)),(108,.d (.v (.bool true)))],[]⟩) ?_ ?_
  ·clear h
   rintro⟨⟩ h
   rw[R1]at h
   refine C0 R (qG (A3 R (eN (C9 (C4 (B2 (B2 (C4 (B2 ?_)))))))))
   obtain rfl:=sI h
   exact f1 2 R
  refine J1 (A0 R ?_)
  refine Z3 R R R R ?_ ?_
  ·intro c10
   replace h:=J7 c10 h
   refine A0 R (A0 R (A0 R ?_))
   obtain⟨rv5,k5,h⟩:=H1 h
   refine A2X (t' := .row 0 1 0 (rv5).length) (news':=[(B7 rv5)]) (A3D k5) eK R R R ((.row .nil)) R R R (A8F tb R R R R R ?_)
   refine A4l R R R R ?_ ?_
   ·intro c11
    replace h:=J7 c11 h
    refine A0 R (L9 6 R (D6 R (A0 R (L9 5 R (D6 R (D6 R (eN ?_)))))))
    exact .inl ⟨(),h,.vw (κ:=[]) (v0 R)⟩
   intro c11
   replace h:=P1 (nL c11) h
   refine A0 R (A0 R (S2 R R R (M4 tb R (M4 tb R (I4 (y:=vI t.I3) tb (U5 (g:=E6.d) (R:P3 [t] 0=some t)) R ?_)))))
   refine Q4 R R R R ?_ ?_
   ·intro c12
    replace h:=J7 c12 h
    refine D0 R (A0 R (L9 5 R (D6 R (D6 R (eN ?_)))))
    exact .inl ⟨(),h,.vw (κ:=[]) (v0 R)⟩
   intro c12
   replace h:=P1 (nL c12) h
   refine D0 R (A0 R (A0 R (S2 R R R (M4 tb R (M4 tb R (I4 (y := .v (.bool t.I1)) tb (U5 (g:=E6.d) (R:P3 [t] 0=some t)) R ?_))))))
   with_reducible apply X8
   ·intro c13
    replace h:=J7 c13 h
    refine D0 R (D6 R (eN ?_))
    exact .inl ⟨(),h,.vw (κ:=[]) (v0 R)⟩
   intro c13
   replace h:=ifF c13 h
   refine D0 R (D6 R (eN (.inr (C1 R (D7 (D3 (A6 ?_)))))))
   exact .inl ⟨(),h,.vw (κ:=[]) (v0 R)⟩
  intro c10
  replace h:=P1 c10 h
  refine A0 R (L9 20 R (D0 R (eN (.inr (C1 R (D7 (D3 (A6 ?_))))))))
  exact .inl ⟨(),h,.vw (κ:=[]) (v0 R)⟩
 intro c9
 replace h:=P1 (nL c9) h
 refine eN (B8 (C1 R (N5 (E4 (E4 ?_)))))
 subst hK9
 refine I5 (A6 (qG (A3 R (eN (C9 ?_)))))
 obtain rfl:=sI h
 exact f1 2 R
def S8 (F:Nat) (c:E6) (who:Int):Option (Except Int E6):=(P3 c.A9 who).bind fun e=>(J4 F (decide (e=c.X3)) 171).bind fun rv=>exE rv (fun x=>some (.error x)) (fun v=>some (.ok c))
theorem M8 {F:Nat} {c:E6} {who:Int} {r:(Except Int E6)} (h:S8 F c who=some r):SCX Tryz.prog 220 [.ref 0 13 0 0,.d (.v (.int .i64 who))] (B8A c []) r 43 (fun(a:E6) => .d (.tup [])) (fun(a:E6)=>(B8A a [])):=by
 rw[S8]at h
 refine SC.of_sw Tryz.func220 R R R ?_
 dsimp only[L8,List.map]
 refine A0V kR (G4 R R R (F1 R R R (C8 tb R (C8 tb R (W4 tb R R R R R R R R R (A0 R ?_))))))
 obtain⟨e,ie,h⟩:=H1 h
 refine Y1 tb R R R R R R (F0 ie) (ix1 ie) R R ?_
 refine A15 (y:=vI e) tb R R R R (U5 (g:=fun a=>T.d (vI a)) ie) R R R R ?_
 refine G4 R R R (F1 R R R (C8 tb R (C8 tb R (B5 (y:=vI c.X3) tb R (A3s R R R R ?_)))))
 obtain⟨rv,k,h⟩:=H1 h
 rcases M7 rv with⟨x,nv⟩ | ⟨v,nv⟩
 ·replace h:=(exN nv).symm.trans h
  refine P0 kR kR ?_
  (with_reducible apply H8 []);exact(E1 k).err nv;exact rfl;exact eK;exact rfl;exact .inl ⟨rfl,rfl,rfl⟩;(iterate 4 exact rfl);exact .nil;exact rfl
  intro cnt
  obtain rfl:=sI h
  exact M3 (L:=B8A c []) (κ:=[0,1,2,3]) (vK (.cons R R C1o) R) (.inr ⟨_,R,R⟩)
 replace h:=(exO nv).symm.trans h
 refine G7 (t' := .d (.tup [])) (ls:=[]) (news:=[]) ([]) (B8A c []) ((E1 k).ok nv) eK R (.inl ⟨R,R,R⟩) R R R R .nil R R R .nil .nil R R R R (N0 kR ?_)
 obtain rfl:=sI h
 exact A1R (U0 (t := .d (.tup [])) (L:=B8A c []) (κ:=[0,1,2,3]) R .nil (vK (.cons R R C1o) R) (.inl ⟨_,R,R,R⟩))
def A1y (F:Nat) (B3:Int→Option Bool) (x:Int):Option Bool:=B3 (W (x+1))
def U2 (F:Nat) (c:E6) (so:(D1→Option Bool)) (K:Int→Option Bool):Nat→Int→Option Bool
 | 0,_=>none
 | n+1,x=>if x<(c.A4.length:Int)then((P3 c.A4 x).bind fun e=>if e=1 then((P3 c.O4 x).bind fun e2=>(so e2).bind fun rv=>if rv=true then(some true)else(A1y F (U2 F c so K n) x))else(A1y F (U2 F c so K n) x))else(K x)
def A2J (F:Nat) (c:E6) (so:(D1→Option Bool)):Option Bool:=U2 F c so (fun(x:Int)=>some false) F 0
theorem A5t {F:Nat} {c:E6} {so:(D1→Option Bool)} {r:Bool} {soi:Nat} {soc:List D} (soh:∀ {a0:D1} {r:Bool},so a0=some r→PC Tryz.prog soi ([D1.d a0]++soc) (.v (.bool r))) (soe:Ent Tryz.prog soi) (h:A2J F c so=some r):SCR Tryz.prog 221 [.d (.el 13 (([c]).map E6.d) ((0:Int)).toNat 0),.fn (.func soi) [] (soc.map .d)] [] (.d (.v (.bool r))) (List.map some []):=by
 rw[A2J]at h
 refine SC.of_sw Tryz.func221 R R R ?_
 dsimp only[L8,List.map]
 refine qG (A3 R (eN (B8 (qG (A0 R (S2 R R R (M4 tb R (M4 tb R (I4 (y := .arr 1 ((c.A4).map vI)) tb (U5 (g:=E6.d) (R:P3 [c] 0=some c)) R (I7 tb R (A0 R (eN (E3 ?_)))))))))))))
 obtain⟨K3,hK3,h⟩:∃ K,K=_∧U2 F c so K F 0=some r:=⟨_,rfl,h⟩
 refine M2 (fun m st=>∃ (x:Int),U2 F c so K3 m x=some r∧st=⟨[(0,.d (.el 13 (([c]).map E6.d) ((0:Int)).toNat 0)),(1,.fn (.func soi) [] (soc.map .d)),(4,.d (.v (.bool false))),(11,.d (.arr 1 ((c.A4).map vI))),(12,.d (vI (c.A4.length:Int))),(13,.d (vI x))],[]⟩) (.prn [0,1,4,11,12,13] R) ⟨0,h,R⟩ ?_
 clear h
 rintro m3 st ⟨x,h,rfl⟩
 cases m3 with
 | zero=>cases(show(none:Option Bool)=some r from h)
 | succ m3 =>
 rw[U2]at h
 refine qG ?_
 refine Q4 R R R R ?_ ?_
 ·intro c2
  replace h:=J7 c2 h
  refine eN (B8 (C0 R (D7 (A6 (B8 ?_)))))
  refine W5 (fun zz:Unit=>A1y F (U2 F c so K3 m3) x=some r) (fun zz:Unit=>⟨[(0,.d (.el 13 (([c]).map E6.d) ((0:Int)).toNat 0)),(1,.fn (.func soi) [] (soc.map .d)),(4,.d (.v (.bool false))),(11,.d (.arr 1 ((c.A4).map vI))),(12,.d (vI (c.A4.length:Int))),(13,.d (vI x))],[]⟩) ?_ ?_
  ·clear h
   rintro⟨⟩ h
   rw[A1y]at h
   refine J1 (O1 R (A0 R (eN ?_)))
   exact⟨m3,_,lS,.prn [0,1,4,11,12,13] R,(W (x+1)),h,R⟩
  refine E3 (qG (A0 R ?_))
  obtain⟨e,ie,h⟩:=H1 h
  refine N8 tb (F0 ie) (V1 ie) R (I4 (y:=vI e) tb (U5 (g:=vI) ie) R (A3 R (A3 R (eN (qG (A0 R ?_))))))
  refine Z3 R R R R ?_ ?_
  ·intro c3
   replace h:=J7 c3 h
   refine A0 R (A2A R R R (A0 R (S2 R R R (M4 tb R (M4 tb R (I4 (y := .arr 6 ((c.O4).map D1.d)) tb (U5 (g:=E6.d) (R:P3 [c] 0=some c)) R (A0 R ?_)))))))
   obtain⟨e2,ie2,h⟩:=H1 h
   refine N8 tb (F0 ie2) (V1 ie2) R (I4 (y:=D1.d e2) tb (U5 (g:=D1.d) ie2) R ?_)
   obtain⟨rv,k,h⟩:=H1 h
   refine A2W (vs:=[D1.d e2]) (soh k) soe R R R R ?_
   with_reducible apply X8
   ·intro c4
    replace h:=J7 c4 h
    refine D6 R (eN (C0 R (qG (A3 R (eN (C9 (C4 (B2 (B2 (C4 (B2 ?_)))))))))))
    obtain rfl:=sI h
    exact f1 4 R
   intro c4
   replace h:=ifF c4 h
   refine D6 R (eN (C1 R (D7 (D3 (A6 ?_)))))
   exact .inl ⟨(),h,.prn [0,1,4,11,12,13] R⟩
  intro c3
  replace h:=P1 c3 h
  refine A0 R (L9 10 R (D0 R (eN (C1 R (D7 (D3 (A6 ?_)))))))
  exact .inl ⟨(),h,.prn [0,1,4,11,12,13] R⟩
 intro c2
 replace h:=P1 (nL c2) h
 refine eN (B8 (C1 R (N5 (E4 (E4 ?_)))))
 subst hK3
 refine I5 (A6 (qG (A3 R (eN (C9 ?_)))))
 obtain rfl:=sI h
 exact f1 4 R
def T0 (F:Nat) (s:(List Int)) (v:Int) (K:Int→Option Int):Nat→Int→Option Int
 | 0,_=>none
 | n+1,x=>if x<(s.length:Int)then((P3 s x).bind fun e=>if v=e then(some x)else(T0 F s v K n (W (x+1))))else(K x)
def A2x (F:Nat) (s:(List Int)) (v:Int):Option Int:=T0 F s v (fun(x:Int)=>some (-1)) F 0
theorem A8n {F:Nat} {s:(List Int)} {v:Int} {r:Int} (h:A2x F s v=some r):PC Tryz.prog 214 [.arr 1 ((s).map vI),.v (.int .i64 v)] (.v (.int .i64 r)):=by
 rw[A2x]at h
 refine SC.of_sw Tryz.func214 R R R ?_
 dsimp only[L8,List.map]
 refine qG (A3 R (eN (B8 (qG (A0 R (I7 tb R (A0 R (eN (E3 ?_)))))))))
 obtain⟨K2,hK2,h⟩:∃ K,K=_∧T0 F s v K F 0=some r:=⟨_,rfl,h⟩
 refine M2 (fun m st=>∃ (x:Int),T0 F s v K2 m x=some r∧st=⟨[(0,.d (.arr 1 ((s).map vI))),(1,.d (vI v)),(4,.d (vI 0)),(7,.d (vI (s.length:Int))),(8,.d (vI x))],[]⟩) (.prn [0,1,4,7,8] R) ⟨0,h,R⟩ ?_
 clear h
 rintro m2 st ⟨x,h,rfl⟩
 cases m2 with
 | zero=>cases(show(none:Option Int)=some r from h)
 | succ m2 =>
 rw[T0]at h
 refine qG ?_
 refine Q4 R R R R ?_ ?_
 ·intro c
  replace h:=J7 c h
  refine eN (B8 (C0 R (D7 (A6 (B8 (E3 (qG (A0 R (A3 R (eN (qG (A0 R (A0 R (A0 R ?_))))))))))))))
  obtain⟨e,ie,h⟩:=H1 h
  refine N8 tb (F0 ie) (V1 ie) R (I4 (y:=vI e) tb (U5 (g:=vI) ie) R ?_)
  refine Z3 R R R R ?_ ?_
  ·intro c2
   replace h:=J7 c2 h
   refine eN (C0 R (qG (A0 R (A3 R (eN (C9 (C4 (B2 (B2 (C4 (B2 ?_)))))))))))
   obtain rfl:=sI h
   exact f1 4 R
  intro c2
  replace h:=P1 c2 h
  refine eN (C1 R (D7 (D3 (A6 (J1 (O1 R (A0 R (eN ?_))))))))
  exact⟨m2,_,lS,.prn [0,1,4,7,8] R,(W (x+1)),h,R⟩
 intro c
 replace h:=P1 (nL c) h
 refine eN (B8 (C1 R (N5 (E4 (E4 ?_)))))
 subst hK2
 refine I5 (A6 (qG (A3 R (eN (C9 ?_)))))
 obtain rfl:=sI h
 exact f1 4 R
def S9 (F:Nat) (s:(List Int)) (v:Int):Option Bool:=(A2x F s v).bind fun rv=>some (decide (0≤rv))
theorem A1g {F:Nat} {s:(List Int)} {v:Int} {r:Bool} (h:S9 F s v=some r):PC Tryz.prog 175 [.arr 1 ((s).map vI),.v (.int .i64 v)] (.v (.bool r)):=by
 rw[S9]at h
 refine SC.of_sw Tryz.func175 R R R ?_
 dsimp only[L8,List.map]
 refine qG (A3 R (eN (qG (A0 R (A0 R ?_)))))
 obtain⟨rv,k,h⟩:=H1 h
 refine J5 (A8n k) eK R R R R (A3k R R R R (A3 R (eN (C9 ?_))))
 obtain rfl:=sI h
 exact f1 4 R
def W0 (F:Nat) (s:(List G6)) (v:G6) (K:Int→Option Int):Nat→Int→Option Int
 | 0,_=>none
 | n+1,x=>if x<(s.length:Int)then((P3 s x).bind fun e=>if(G6.beq v e)=true then(some x)else(W0 F s v K n (W (x+1))))else(K x)
def A2k (F:Nat) (s:(List G6)) (v:G6):Option Int:=W0 F s v (fun(x:Int)=>some (-1)) F 0
theorem A7o {F:Nat} {s:(List G6)} {v:G6} {r:Int} (h:A2k F s v=some r):PC Tryz.prog 232 [.arr 2 ((s).map G6.d),G6.d v] (.v (.int .i64 r)):=by
 rw[A2k]at h
 refine SC.of_sw Tryz.func232 R R R ?_
 dsimp only[L8,List.map]
 refine qG (M9 R (A3 R (eN (B8 (qG (A0 R (I7 tb R (A0 R (eN (E3 ?_))))))))))
 obtain⟨K2,hK2,h⟩:∃ K,K=_∧W0 F s v K F 0=some r:=⟨_,rfl,h⟩
 refine M2 (fun m st=>∃ (x:Int),W0 F s v K2 m x=some r∧st=⟨[(0,.d (.arr 2 ((s).map G6.d))),(3,.ref 0 2 0 0),(4,.d (vI 0)),(7,.d (vI (s.length:Int))),(8,.d (vI x))],[bx 2 (.d (G6.d v))]⟩) (.prn [0,3,4,7,8] R) ⟨0,h,R⟩ ?_
 clear h
 rintro m2 st ⟨x,h,rfl⟩
 cases m2 with
 | zero=>cases(show(none:Option Int)=some r from h)
 | succ m2 =>
 rw[W0]at h
 refine qG ?_
 refine Q4 R R R R ?_ ?_
 ·intro c
  replace h:=J7 c h
  refine eN (B8 (C0 R (D7 (A6 (B8 (E3 (qG (A0 R (A3 R (eN (B8 (T1 kR (B5 (y:=G6.d v) tb R (A0 R (A0 R ?_)))))))))))))))
  obtain⟨e,ie,h⟩:=H1 h
  refine N8 tb (F0 ie) (V1 ie) R (I4 (y:=G6.d e) tb (U5 (g:=G6.d) ie) R ?_)
  refine B9W (p:=[.int .i64 v.a,.int .i64 v.b]) (q:=[.int .i64 e.a,.int .i64 e.b]) R R (fun o1 o2 w=>C0z v e o1 o2 w) R R ?_
  with_reducible apply X8
  ·intro c2
   replace h:=J7 c2 h
   refine I0 kR (A6 (C0 R (qG (A0 R (A3 R (eN (C9 (C4 (B2 (B2 (C4 (B2 ?_))))))))))))
   obtain rfl:=sI h
   exact f1 4 R
  intro c2
  replace h:=ifF c2 h
  refine I0 kR (A6 (C1 R (D7 (D3 (A6 (J1 (O1 R (A0 R (eN ?_)))))))))
  exact⟨m2,_,lS,.prn [0,3,4,7,8] R,(W (x+1)),h,R⟩
 intro c
 replace h:=P1 (nL c) h
 refine eN (B8 (C1 R (N5 (E4 (E4 ?_)))))
 subst hK2
 refine I5 (A6 (qG (A3 R (eN (C9 ?_)))))
 obtain rfl:=sI h
 exact f1 4 R
def Z1 (F:Nat) (s:(List G6)) (v:G6):Option Bool:=(A2k F s v).bind fun rv=>some (decide (0≤rv))
theorem A3q {F:Nat} {s:(List G6)} {v:G6} {r:Bool} (h:Z1 F s v=some r):PC Tryz.prog 219 [.arr 2 ((s).map G6.d),G6.d v] (.v (.bool r)):=by
 rw[Z1]at h
 refine SC.of_sw Tryz.func219 R R R ?_
 dsimp only[L8,List.map]
 refine qG (M9 R (A3 R (eN (qG (A0 R (B5 (y:=G6.d v) tb R ?_))))))
 obtain⟨rv,k,h⟩:=H1 h
 refine J5 (A7o k) eK R R R R (A3k R R R R (A3 R (eN (C9 ?_))))
 obtain rfl:=sI h
 exact f1 4 R
end Go.Proofs.YtlaogbbcipebgaaGreat
