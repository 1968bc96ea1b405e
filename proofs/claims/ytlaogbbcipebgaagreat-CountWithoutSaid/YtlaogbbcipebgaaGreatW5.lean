/- What functions of the program compute: plain functions, and the proofs. -/
import Derived.Test.YtlaogbbcipebgaaGreatW4
open Go Go.Proofs.YtlaogbbcipebgaaGreat.Sh Go.Proofs
namespace Go.Proofs.YtlaogbbcipebgaaGreat
set_option linter.unusedVariables false
set_option linter.unusedSimpArgs false
set_option maxRecDepth 100000
set_option maxHeartbeats 40000000
def A6N (F:Nat) (a:(List Int)) (b:(List Int)) (K:Int→Option Bool):Nat→Int→Option Bool
 | 0,_=>none
 | n+1,i=>if i < (a.length:Int) then (Option.bind (P3 a i) fun e=>Option.bind (P3 b i) fun e2=>if e=e2 then (A6N F a b K n (W (i+1))) else (some false)) else (K i)
def B3v (F:Nat) (a:(List Int)) (b:(List Int)):Option Bool:=if (a.length:Int)=(b.length:Int) then (A6N F a b (fun (i:Int)=>some true) F 0) else (some false)
theorem B7b {F:Nat} {a:(List Int)} {b:(List Int)} {r:Bool} (h:B3v F a b=some r):PC Tryz.prog 88 [.arr 1 ((a).map vI),.arr 1 ((b).map vI)] (.v (.bool r)):=by
 rw [B3v] at h
 refine SC.of_sw Tryz.func88 R R R ?_
 dsimp only [L8,List.map]
 refine qG (A3 R (eN (B8 (qG (A0 R (I7 tb R (A0 R (I7 tb R ?_))))))))
 refine V5 R R R R ?_ ?_
 ·intro c
  replace h:=P1 c h
  refine eN (C0 R (qG (A3 R (eN (C9 (B2 ?_))))))
  obtain rfl:=sI h
  exact f1 4 R
 intro c
 replace h:=J7 c h
 refine eN (C1 R (D7 (A6 (B8 (qG (A3 R (eN (E3 ?_))))))))
 obtain ⟨K2,hK2,h⟩:∃ K,K=_∧A6N F a b K F 0=some r:=⟨_,rfl,h⟩
 refine M2 (fun m st=>∃ (i:Int),A6N F a b K2 m i=some r∧st=⟨[(0,.d (.arr 1 ((a).map vI))),(1,.d (.arr 1 ((b).map vI))),(4,.d (.v (.bool false))),(5,.d (vI i))],[]⟩) (.prn [0,1,4,5] R) ⟨0,h,R⟩ ?_
 clear h
 rintro m2 st ⟨i,h,rfl⟩
 cases m2 with
 | zero=>cases (show (none:Option Bool)=some r from h)
 | succ m2 =>
 rw [A6N] at h
 refine B8 (qG (A0 R (A0 R (I7 tb R ?_))))
 refine Q4 R R R R ?_ ?_
 ·intro c2
  replace h:=J7 c2 h
  refine eN (C0 R (D7 (A6 (B8 (E3 (B8 (T1 (by kernel_rfl) (A0 R (A0 R ?_)))))))))
  obtain ⟨e,ie,h⟩:=H1 h
  refine N8 tb (F0 ie) (V1 ie) R (I4 (y:=vI e) tb (U5 (g:=vI) ie) R (A0 R (A0 R ?_)))
  obtain ⟨e2,ie2,h⟩:=H1 h
  refine N8 tb (F0 ie2) (V1 ie2) R (I4 (y:=vI e2) tb (U5 (g:=vI) ie2) R ?_)
  refine V5 R R R R ?_ ?_
  ·intro c3
   replace h:=P1 c3 h
   refine I0 (by kernel_rfl) (A6 (C0 R (qG (A3 R (eN (C9 (C4 (B2 (B2 (C4 (B2 ?_)))))))))))
   obtain rfl:=sI h
   exact f1 4 R
  intro c3
  replace h:=J7 c3 h
  refine I0 (by kernel_rfl) (A6 (C1 R (D7 (D3 (A6 (J1 (A0 R (O1 R (A3 R (eN ?_))))))))))
  exact ⟨m2,_,Nat.lt_succ_self _,.prn [0,1,4,5] R,(W (i+1)),h,R⟩
 intro c2
 replace h:=P1 (Int.not_lt.2 c2) h
 refine eN (C1 R (N5 (E4 (E4 ?_))))
 subst hK2
 refine I5 (A6 (qG (A3 R (eN (C9 ?_)))))
 obtain rfl:=sI h
 exact f1 4 R
def B7h (F:Nat) (a:C3) (b:C3):Option Bool:=if a.now=b.now then (if a.siren=b.siren then (if (a.storm == b.storm)=true then (Option.bind (B3v F a.zones b.zones) fun rv=>if rv=true then (Option.bind (B3v F a.holder b.holder) fun rv2=>if rv2=true then (Option.bind (B3v F a.squibs b.squibs) fun rv3=>some rv3) else (some false)) else (some false)) else (some false)) else (some false)) else (some false)
theorem C1d {F:Nat} {a:C3} {b:C3} {r:Bool} (h:B7h F a b=some r):PC Tryz.prog 49 [C3.d a,C3.d b] (.v (.bool r)):=by
 rw [B7h] at h
 refine SC.of_sw Tryz.func49 R R R ?_
 dsimp only [L8,List.map]
 refine qG (M9 R (M9 R (A3 R (eN (qG (C8 tb R (B5 (y:=vI a.now) tb R (C8 tb R (B5 (y:=vI b.now) tb R ?_)))))))))
 refine Z3 R R R R ?_ ?_
 ·intro c
  replace h:=J7 c h
  refine A0 R (C8 tb R (B5 (y:=vI a.siren) tb R (C8 tb R (B5 (y:=vI b.siren) tb R ?_))))
  refine Z3 R R R R ?_ ?_
  ·intro c2
   replace h:=J7 c2 h
   refine D6 R (A0 R (C8 tb R (B5 (y := .v (.bool a.storm)) tb R (C8 tb R (B5 (y := .v (.bool b.storm)) tb R (B6K R R R R R ?_))))))
   with_reducible apply X8
   ·intro c3
    replace h:=J7 c3 h
    refine D6 R (A0 R (C8 tb R (B5 (y := .arr 1 ((a.zones).map vI)) tb R (C8 tb R (B5 (y := .arr 1 ((b.zones).map vI)) tb R ?_)))))
    obtain ⟨rv,hrv,h⟩:=H1 h
    refine M6 (B7b hrv) (.of (by kernel_rfl)) R R R R ?_ ?_
    ·intro c4
     replace h:=J7 c4 h
     refine D6 R (A0 R (C8 tb R (B5 (y := .arr 1 ((a.holder).map vI)) tb R (C8 tb R (B5 (y := .arr 1 ((b.holder).map vI)) tb R ?_)))))
     obtain ⟨rv2,hrv2,h⟩:=H1 h
     refine M6 (B7b hrv2) (.of (by kernel_rfl)) R R R R ?_ ?_
     ·intro c5
      replace h:=J7 c5 h
      refine D6 R (A0 R (C8 tb R (B5 (y := .arr 1 ((a.squibs).map vI)) tb R (C8 tb R (B5 (y := .arr 1 ((b.squibs).map vI)) tb R ?_)))))
      obtain ⟨rv3,hrv3,h⟩:=H1 h
      refine J5 (B7b hrv3) (.of (by kernel_rfl)) R R R R (D6 R (A3 R (eN (C9 ?_))))
      obtain rfl:=sI h
      exact f1 4 R
     intro c5
     replace h:=ifF c5 h
     refine D6 R (A0 R (L9 5 R (D0 R (A3 R (eN (C9 ?_))))))
     obtain rfl:=sI h
     exact f1 4 R
    intro c4
    replace h:=ifF c4 h
    refine D6 R (A0 R (L9 5 R (D0 R (A0 R (L9 5 R (D0 R (A3 R (eN (C9 ?_)))))))))
    obtain rfl:=sI h
    exact f1 4 R
   intro c3
   replace h:=ifF c3 h
   refine D6 R (A0 R (L9 5 R (D0 R (A0 R (L9 5 R (D0 R (A0 R (L9 5 R (D0 R (A3 R (eN (C9 ?_))))))))))))
   obtain rfl:=sI h
   exact f1 4 R
  intro c2
  replace h:=P1 c2 h
  refine D6 R (A0 R (L9 5 R (D0 R (A0 R (L9 5 R (D0 R (A0 R (L9 5 R (D0 R (A0 R (L9 5 R (D0 R (A3 R (eN (C9 ?_)))))))))))))))
  obtain rfl:=sI h
  exact f1 4 R
 intro c
 replace h:=P1 c h
 refine A0 R (L9 5 R (D0 R (A0 R (L9 5 R (D0 R (A0 R (L9 5 R (D0 R (A0 R (L9 5 R (D0 R (A0 R (L9 5 R (D0 R (A3 R (eN (C9 ?_)))))))))))))))))
 obtain rfl:=sI h
 exact f1 4 R
def A81 (F:Nat) (a:(List Int)) (b:(List Int)) (K:Int→Option Bool):Nat→Int→Option Bool
 | 0,_=>none
 | n+1,i=>if i < (a.length:Int) then (Option.bind (P3 a i) fun e=>Option.bind (P3 b i) fun e2=>if e=e2 then (A81 F a b K n (W (i+1))) else (some false)) else (K i)
def B3w (F:Nat) (a:(List Int)) (b:(List Int)):Option Bool:=if (a.length:Int)=(b.length:Int) then (A81 F a b (fun (i:Int)=>some true) F 0) else (some false)
theorem B7c {F:Nat} {a:(List Int)} {b:(List Int)} {r:Bool} (h:B3w F a b=some r):PC Tryz.prog 32 [.arr 1 ((a).map vI),.arr 1 ((b).map vI)] (.v (.bool r)):=by
 rw [B3w] at h
 refine SC.of_sw Tryz.func32 R R R ?_
 dsimp only [L8,List.map]
 refine qG (A3 R (eN (B8 (qG (A0 R (I7 tb R (A0 R (I7 tb R ?_))))))))
 refine V5 R R R R ?_ ?_
 ·intro c
  replace h:=P1 c h
  refine eN (C0 R (qG (A3 R (eN (C9 (B2 ?_))))))
  obtain rfl:=sI h
  exact f1 4 R
 intro c
 replace h:=J7 c h
 refine eN (C1 R (D7 (A6 (B8 (qG (A3 R (eN (E3 ?_))))))))
 obtain ⟨K3,hK3,h⟩:∃ K,K=_∧A81 F a b K F 0=some r:=⟨_,rfl,h⟩
 refine M2 (fun m st=>∃ (i:Int),A81 F a b K3 m i=some r∧st=⟨[(0,.d (.arr 1 ((a).map vI))),(1,.d (.arr 1 ((b).map vI))),(4,.d (.v (.bool false))),(5,.d (vI i))],[]⟩) (.prn [0,1,4,5] R) ⟨0,h,R⟩ ?_
 clear h
 rintro m3 st ⟨i,h,rfl⟩
 cases m3 with
 | zero=>cases (show (none:Option Bool)=some r from h)
 | succ m3 =>
 rw [A81] at h
 refine B8 (qG (A0 R (A0 R (I7 tb R ?_))))
 refine Q4 R R R R ?_ ?_
 ·intro c2
  replace h:=J7 c2 h
  refine eN (C0 R (D7 (A6 (B8 (E3 (B8 (T1 (by kernel_rfl) (A0 R (A0 R ?_)))))))))
  obtain ⟨e,ie,h⟩:=H1 h
  refine N8 tb (F0 ie) (V1 ie) R (I4 (y:=vI e) tb (U5 (g:=vI) ie) R (A0 R (A0 R ?_)))
  obtain ⟨e2,ie2,h⟩:=H1 h
  refine N8 tb (F0 ie2) (V1 ie2) R (I4 (y:=vI e2) tb (U5 (g:=vI) ie2) R ?_)
  refine V5 R R R R ?_ ?_
  ·intro c3
   replace h:=P1 c3 h
   refine I0 (by kernel_rfl) (A6 (C0 R (qG (A3 R (eN (C9 (C4 (B2 (B2 (C4 (B2 ?_)))))))))))
   obtain rfl:=sI h
   exact f1 4 R
  intro c3
  replace h:=J7 c3 h
  refine I0 (by kernel_rfl) (A6 (C1 R (D7 (D3 (A6 (J1 (A0 R (O1 R (A3 R (eN ?_))))))))))
  exact ⟨m3,_,Nat.lt_succ_self _,.prn [0,1,4,5] R,(W (i+1)),h,R⟩
 intro c2
 replace h:=P1 (Int.not_lt.2 c2) h
 refine eN (C1 R (N5 (E4 (E4 ?_))))
 subst hK3
 refine I5 (A6 (qG (A3 R (eN (C9 ?_)))))
 obtain rfl:=sI h
 exact f1 4 R
def A53 (F:Nat) (a:(List Bool)) (b:(List Bool)) (K:Int→Option Bool):Nat→Int→Option Bool
 | 0,_=>none
 | n+1,i=>if i < (a.length:Int) then (Option.bind (P3 a i) fun e=>Option.bind (P3 b i) fun e2=>if (e != e2)=true then (some false) else (A53 F a b K n (W (i+1)))) else (K i)
def B2M (F:Nat) (a:(List Bool)) (b:(List Bool)):Option Bool:=if (a.length:Int)=(b.length:Int) then (A53 F a b (fun (i:Int)=>some true) F 0) else (some false)
theorem B7E {F:Nat} {a:(List Bool)} {b:(List Bool)} {r:Bool} (h:B2M F a b=some r):PC Tryz.prog 50 [.arr 1 ((a).map vB),.arr 1 ((b).map vB)] (.v (.bool r)):=by
 rw [B2M] at h
 refine SC.of_sw Tryz.func50 R R R ?_
 dsimp only [L8,List.map]
 refine qG (A3 R (eN (B8 (qG (A0 R (I7 tb R (A0 R (I7 tb R ?_))))))))
 refine V5 R R R R ?_ ?_
 ·intro c
  replace h:=P1 c h
  refine eN (C0 R (qG (A3 R (eN (C9 (B2 ?_))))))
  obtain rfl:=sI h
  exact f1 4 R
 intro c
 replace h:=J7 c h
 refine eN (C1 R (D7 (A6 (B8 (qG (A3 R (eN (E3 ?_))))))))
 obtain ⟨K3,hK3,h⟩:∃ K,K=_∧A53 F a b K F 0=some r:=⟨_,rfl,h⟩
 refine M2 (fun m st=>∃ (i:Int),A53 F a b K3 m i=some r∧st=⟨[(0,.d (.arr 1 ((a).map vB))),(1,.d (.arr 1 ((b).map vB))),(4,.d (.v (.bool false))),(5,.d (vI i))],[]⟩) (.prn [0,1,4,5] R) ⟨0,h,R⟩ ?_
 clear h
 rintro m3 st ⟨i,h,rfl⟩
 cases m3 with
 | zero=>cases (show (none:Option Bool)=some r from h)
 | succ m3 =>
 rw [A53] at h
 refine B8 (qG (A0 R (A0 R (I7 tb R ?_))))
 refine Q4 R R R R ?_ ?_
 ·intro c2
  replace h:=J7 c2 h
  refine eN (C0 R (D7 (A6 (B8 (E3 (B8 (T1 (by kernel_rfl) (A0 R (A0 R ?_)))))))))
  obtain ⟨e,ie,h⟩:=H1 h
  refine N8 tb (F0 ie) (V1 ie) R (I4 (y := .v (.bool e)) tb (U5 (g:=vB) ie) R (A0 R (A0 R ?_)))
  obtain ⟨e2,ie2,h⟩:=H1 h
  refine N8 tb (F0 ie2) (V1 ie2) R (I4 (y := .v (.bool e2)) tb (U5 (g:=vB) ie2) R (A57 R R R R R ?_))
  with_reducible apply X8
  ·intro c3
   replace h:=J7 c3 h
   refine I0 (by kernel_rfl) (A6 (C0 R (qG (A3 R (eN (C9 (C4 (B2 (B2 (C4 (B2 ?_)))))))))))
   obtain rfl:=sI h
   exact f1 4 R
  intro c3
  replace h:=ifF c3 h
  refine I0 (by kernel_rfl) (A6 (C1 R (D7 (D3 (A6 (J1 (A0 R (O1 R (A3 R (eN ?_))))))))))
  exact ⟨m3,_,Nat.lt_succ_self _,.prn [0,1,4,5] R,(W (i+1)),h,R⟩
 intro c2
 replace h:=P1 (Int.not_lt.2 c2) h
 refine eN (C1 R (N5 (E4 (E4 ?_))))
 subst hK3
 refine I5 (A6 (qG (A3 R (eN (C9 ?_)))))
 obtain rfl:=sI h
 exact f1 4 R
def B53 (F:Nat) (a:H2) (b:H2):Option Bool:=if a.now=b.now then (Option.bind (B7h F (C3.mk a.A9j a.N4 a.A5M a.J3 a.A68 a.A69) (C3.mk b.A9j b.N4 b.A5M b.J3 b.A68 b.A69)) fun rv=>if rv=true then (Option.bind (B3w F a.begun b.begun) fun rv2=>if rv2=true then (Option.bind (B3w F a.ended b.ended) fun rv3=>if rv3=true then (if (a.held == b.held)=true then (Option.bind (B2M F a.go b.go) fun rv4=>if rv4=true then (Option.bind (B3w F a.left b.left) fun rv5=>if rv5=true then (Option.bind (B2M F a.on_ b.on_) fun rv6=>some rv6) else (some false)) else (some false)) else (some false)) else (some false)) else (some false)) else (some false)) else (some false)
theorem C1f {F:Nat} {a:H2} {b:H2} {r:Bool} (h:B53 F a b=some r):PC Tryz.prog 20 [H2.d a,H2.d b] (.v (.bool r)):=by
 rw [B53] at h
 refine SC.of_sw Tryz.func20 R R R ?_
 dsimp only [L8,List.map]
 refine qG (M9 R (M9 R (A3 R (eN (qG (C8 tb R (B5 (y:=vI a.now) tb R (C8 tb R (B5 (y:=vI b.now) tb R ?_)))))))))
 refine Z3 R R R R ?_ ?_
 ·intro c
  replace h:=J7 c h
  refine A0 R (C8 tb R (B5 (y := .agg [vI a.A9j,.arr 1 ((a.N4).map vI),.arr 1 ((a.A5M).map vI),.arr 1 ((a.J3).map vI),vI a.A68,.v (.bool a.A69)]) tb R (C8 tb R (B5 (y := .agg [vI b.A9j,.arr 1 ((b.N4).map vI),.arr 1 ((b.A5M).map vI),.arr 1 ((b.J3).map vI),vI b.A68,.v (.bool b.A69)]) tb R ?_))))
  obtain ⟨rv,hrv,h⟩:=H1 h
  refine M6 (C1d hrv) (.of (by kernel_rfl)) R R R R ?_ ?_
  ·intro c2
   replace h:=J7 c2 h
   refine D6 R (A0 R (C8 tb R (B5 (y := .arr 1 ((a.begun).map vI)) tb R (C8 tb R (B5 (y := .arr 1 ((b.begun).map vI)) tb R ?_)))))
   obtain ⟨rv2,hrv2,h⟩:=H1 h
   refine M6 (B7c hrv2) (.of (by kernel_rfl)) R R R R ?_ ?_
   ·intro c3
    replace h:=J7 c3 h
    refine D6 R (A0 R (C8 tb R (B5 (y := .arr 1 ((a.ended).map vI)) tb R (C8 tb R (B5 (y := .arr 1 ((b.ended).map vI)) tb R ?_)))))
    obtain ⟨rv3,hrv3,h⟩:=H1 h
    refine M6 (B7c hrv3) (.of (by kernel_rfl)) R R R R ?_ ?_
    ·intro c4
     replace h:=J7 c4 h
     refine D6 R (A0 R (C8 tb R (B5 (y := .v (.bool a.held)) tb R (C8 tb R (B5 (y := .v (.bool b.held)) tb R (B6K R R R R R ?_))))))
     with_reducible apply X8
     ·intro c5
      replace h:=J7 c5 h
      refine D6 R (A0 R (C8 tb R (B5 (y := .arr 1 ((a.go).map vB)) tb R (C8 tb R (B5 (y := .arr 1 ((b.go).map vB)) tb R ?_)))))
      obtain ⟨rv4,hrv4,h⟩:=H1 h
      refine M6 (B7E hrv4) (.of (by kernel_rfl)) R R R R ?_ ?_
      ·intro c6
       replace h:=J7 c6 h
       refine D6 R (A0 R (C8 tb R (B5 (y := .arr 1 ((a.left).map vI)) tb R (C8 tb R (B5 (y := .arr 1 ((b.left).map vI)) tb R ?_)))))
       obtain ⟨rv5,hrv5,h⟩:=H1 h
       refine M6 (B7c hrv5) (.of (by kernel_rfl)) R R R R ?_ ?_
       ·intro c7
        replace h:=J7 c7 h
        refine D6 R (A0 R (C8 tb R (B5 (y := .arr 1 ((a.on_).map vB)) tb R (C8 tb R (B5 (y := .arr 1 ((b.on_).map vB)) tb R ?_)))))
        obtain ⟨rv6,hrv6,h⟩:=H1 h
        refine J5 (B7E hrv6) (.of (by kernel_rfl)) R R R R (D6 R (A3 R (eN (C9 ?_))))
        obtain rfl:=sI h
        exact f1 4 R
       intro c7
       replace h:=ifF c7 h
       refine D6 R (A0 R (L9 5 R (D0 R (A3 R (eN (C9 ?_))))))
       obtain rfl:=sI h
       exact f1 4 R
      intro c6
      replace h:=ifF c6 h
      refine D6 R (A0 R (L9 5 R (D0 R (A0 R (L9 5 R (D0 R (A3 R (eN (C9 ?_)))))))))
      obtain rfl:=sI h
      exact f1 4 R
     intro c5
     replace h:=ifF c5 h
     refine D6 R (A0 R (L9 5 R (D0 R (A0 R (L9 5 R (D0 R (A0 R (L9 5 R (D0 R (A3 R (eN (C9 ?_))))))))))))
     obtain rfl:=sI h
     exact f1 4 R
    intro c4
    replace h:=ifF c4 h
    refine D6 R (A0 R (L9 5 R (D0 R (A0 R (L9 5 R (D0 R (A0 R (L9 5 R (D0 R (A0 R (L9 5 R (D0 R (A3 R (eN (C9 ?_)))))))))))))))
    obtain rfl:=sI h
    exact f1 4 R
   intro c3
   replace h:=ifF c3 h
   refine D6 R (A0 R (L9 5 R (D0 R (A0 R (L9 5 R (D0 R (A0 R (L9 5 R (D0 R (A0 R (L9 5 R (D0 R (A0 R (L9 5 R (D0 R (A3 R (eN (C9 ?_))))))))))))))))))
   obtain rfl:=sI h
   exact f1 4 R
  intro c2
  replace h:=ifF c2 h
  refine D6 R (A0 R (L9 5 R (D0 R (A0 R (L9 5 R (D0 R (A0 R (L9 5 R (D0 R (A0 R (L9 5 R (D0 R (A0 R (L9 5 R (D0 R (A0 R (L9 5 R (D0 R (A3 R (eN (C9 ?_)))))))))))))))))))))
  obtain rfl:=sI h
  exact f1 4 R
 intro c
 replace h:=P1 c h
 refine A0 R (L9 5 R (D0 R (A0 R (L9 5 R (D0 R (A0 R (L9 5 R (D0 R (A0 R (L9 5 R (D0 R (A0 R (L9 5 R (D0 R (A0 R (L9 5 R (D0 R (A0 R (L9 5 R (D0 R (A3 R (eN (C9 ?_)))))))))))))))))))))))
 obtain rfl:=sI h
 exact f1 4 R
def A17 (F:Nat) (atv:Int) (kind:Int) (what:Int):Option C7:=some (C7.mk atv kind what 0 0 0 0 0)
theorem Z5 {F:Nat} {atv:Int} {kind:Int} {what:Int} {r:C7} (h:A17 F atv kind what=some r):PC Tryz.prog 27 [.v (.int .i64 atv),.v (.int .i64 kind),.v (.int .i64 what)] (C7.d r):=by
 rw [A17] at h
 refine SC.of_sw Tryz.func27 R R R ?_
 dsimp only [L8,List.map]
 refine qG (M5 tb R R R R R (eN (qG (A0 R (A0 R (A0 R (S1 (v := .d (.agg [vI atv,vI kind,vI what,vI 0,vI 0,vI 0,vI 0,vI 0])) tb R R (List.cons_ne_nil _ _) R R R R R R (I6 _ _ tb R (eN (C9 ?_))))))))))
 obtain rfl:=sI h
 exact U4 (t := .d (.agg [vI atv,vI kind,vI what,vI 0,vI 0,vI 0,vI 0,vI 0])) R R R (.cons (rc tb R) .nil)
def A9F (F:Nat) :Option D4:=Option.bind (A9E F ) fun rv=>some (D4.mk rv.zones rv.doors rv.people rv.keys rv.squibs rv.panel rv.wait [(ByteArray.mk #[114,97,110,103,101]),(ByteArray.mk #[115,97,102,101,116,121])] [(D9.mk (ByteArray.mk #[109,97,105,110]) 1000 2)] [(E0.mk (ByteArray.mk #[102,105,108,108]) [] 100 200 false [] [] [] []),(E0.mk (ByteArray.mk #[112,111,119,101,114]) [0] 10 500 false [0] [] [] []),(E0.mk (ByteArray.mk #[99,104,101,99,107]) [0] 50 300 false [] [0] [] []),(E0.mk (ByteArray.mk #[112,111,108,108]) [1,2] 0 20 true [] [0] [] []),(E0.mk (ByteArray.mk #[108,97,117,110,99,104]) [3] 5 60 true [] [0] [0] [])] [1,3] 200 400)
theorem A7Y {F:Nat}  {r:D4} (h:A9F F =some r):PC Tryz.prog 39 [] (D4.d r):=by
 rw [A9F] at h
 refine PC.of_lend ?_
 refine SC.of_sw Tryz.func39 R R R ?_
 dsimp only [L8,List.map]
 refine qG (M5 tb R R R R R (eN (qG (P7 tb R R R R R R R R R R R R R (A14 R R R (eN (qG ?_)))))))
 obtain ⟨rv,hrv,h⟩:=H1 h
 refine J5 (B2I hrv) (.of (by kernel_rfl)) R R R R (P7 tb R R R R R R R R R R R R R (S1 (v := .d (.agg [.v (.string (ByteArray.mk #[109,97,105,110])),vI 1000,vI 2])) tb R R (List.cons_ne_nil _ _) R R R R R R (P7 tb R R R R R R R R R R R R R ?_)))
 refine S1 (v := .d (.agg [.v (.string (ByteArray.mk #[102,105,108,108])),.v (.slice none 0 0),vI 100,vI 200,.v (.bool false),.v (.slice none 0 0),.v (.slice none 0 0),.v (.slice none 0 0),.v (.slice none 0 0)])) tb R R (List.cons_ne_nil _ _) R R R R R R (P7 tb R R R R R R R R R R R R R (A0T R R R ?_))
 refine S1 (v := .agg [.d (.v (.string (ByteArray.mk #[112,111,119,101,114]))),.row 4 1 0 ([0]).length,.d (vI 10),.d (vI 500),.d (.v (.bool false)),.row 1 1 0 ([0]).length,.d (.v (.slice none 0 0)),.d (.v (.slice none 0 0)),.d (.v (.slice none 0 0))]) tb R R (List.cons_ne_nil _ _) R R R R R R (P7 tb R R R R R R R R R R R R R (A0T R R R ?_))
 refine S1 (v := .agg [.d (.v (.string (ByteArray.mk #[99,104,101,99,107]))),.row 5 1 0 ([0]).length,.d (vI 50),.d (vI 300),.d (.v (.bool false)),.d (.v (.slice none 0 0)),.row 1 1 0 ([0]).length,.d (.v (.slice none 0 0)),.d (.v (.slice none 0 0))]) tb R R (List.cons_ne_nil _ _) R R R R R R (P7 tb R R R R R R R R R R R R R (A0T R R R ?_))
 refine S1 (v := .agg [.d (.v (.string (ByteArray.mk #[112,111,108,108]))),.row 6 1 0 ([1,2]).length,.d (vI 0),.d (vI 20),.d (.v (.bool true)),.d (.v (.slice none 0 0)),.row 1 1 0 ([0]).length,.d (.v (.slice none 0 0)),.d (.v (.slice none 0 0))]) tb R R (List.cons_ne_nil _ _) R R R R R R (P7 tb R R R R R R R R R R R R R (A0T R R R (A0T R R R ?_)))
 refine S1 (v := .agg [.d (.v (.string (ByteArray.mk #[108,97,117,110,99,104]))),.row 7 1 0 ([3]).length,.d (vI 5),.d (vI 60),.d (.v (.bool true)),.d (.v (.slice none 0 0)),.row 1 1 0 ([0]).length,.row 1 1 0 ([0]).length,.d (.v (.slice none 0 0))]) tb R R (List.cons_ne_nil _ _) R R R R R R (P7 tb R R R R R R R R R R R R R (P7 tb R R R R R R R R R R R R R ?_))
 refine S1 (v := .d (.agg [vI 200,vI 400])) tb R R (List.cons_ne_nil _ _) R R R R R R ?_
 refine S1 (v := .agg [.d (.arr 8 ((rv.zones).map F6.d)),.d (.arr 2 ((rv.doors).map G6.d)),.d (.arr 2 ((rv.people).map E2.d)),.d (.arr 1 ((rv.keys).map vS)),.d (.arr 6 ((rv.squibs).map D1.d)),.d (vI rv.panel),.d (vI rv.wait),.row 2 1 0 ([(ByteArray.mk #[114,97,110,103,101]),(ByteArray.mk #[115,97,102,101,116,121])]).length,.row 3 3 0 ([(D9.mk (ByteArray.mk #[109,97,105,110]) 1000 2)]).length,.row 8 9 0 5,.row 9 1 0 ([1,3]).length,.d (vI 200),.d (vI 400)]) tb R R (List.cons_ne_nil _ _) (by kernel_rfl) (by kernel_rfl) (by kernel_rfl) (by kernel_rfl) R R ?_
 refine I6 _ _ tb R (eN (C9 ?_))
 obtain rfl:=sI h
 exact (U0 (t := .agg [.d (.arr 8 ((rv.zones).map F6.d)),.d (.arr 2 ((rv.doors).map G6.d)),.d (.arr 2 ((rv.people).map E2.d)),.d (.arr 1 ((rv.keys).map vS)),.d (.arr 6 ((rv.squibs).map D1.d)),.d (vI rv.panel),.d (vI rv.wait),.row 0 1 0 ([(ByteArray.mk #[114,97,110,103,101]),(ByteArray.mk #[115,97,102,101,116,121])]).length,.row 1 3 0 ([(D9.mk (ByteArray.mk #[109,97,105,110]) 1000 2)]).length,.row 2 9 0 5,.row 8 1 0 ([1,3]).length,.d (vI 200),.d (vI 400)]) (L:=[some (lvS [(ByteArray.mk #[114,97,110,103,101]),(ByteArray.mk #[115,97,102,101,116,121])]),some (B3M [(D9.mk (ByteArray.mk #[109,97,105,110]) 1000 2)]),some ⟨9,[.d (.agg [.v (.string (ByteArray.mk #[102,105,108,108])),.v (.slice none 0 0),vI 100,vI 200,.v (.bool false),.v (.slice none 0 0),.v (.slice none 0 0),.v (.slice none 0 0),.v (.slice none 0 0)]),.agg [.d (.v (.string (ByteArray.mk #[112,111,119,101,114]))),.row 3 1 0 ([0]).length,.d (vI 10),.d (vI 500),.d (.v (.bool false)),.row 4 1 0 ([0]).length,.d (.v (.slice none 0 0)),.d (.v (.slice none 0 0)),.d (.v (.slice none 0 0))],.agg [.d (.v (.string (ByteArray.mk #[99,104,101,99,107]))),.row 5 1 0 ([0]).length,.d (vI 50),.d (vI 300),.d (.v (.bool false)),.d (.v (.slice none 0 0)),.row 4 1 0 ([0]).length,.d (.v (.slice none 0 0)),.d (.v (.slice none 0 0))],.agg [.d (.v (.string (ByteArray.mk #[112,111,108,108]))),.row 6 1 0 ([1,2]).length,.d (vI 0),.d (vI 20),.d (.v (.bool true)),.d (.v (.slice none 0 0)),.row 4 1 0 ([0]).length,.d (.v (.slice none 0 0)),.d (.v (.slice none 0 0))],.agg [.d (.v (.string (ByteArray.mk #[108,97,117,110,99,104]))),.row 7 1 0 ([3]).length,.d (vI 5),.d (vI 60),.d (.v (.bool true)),.d (.v (.slice none 0 0)),.row 4 1 0 ([0]).length,.row 4 1 0 ([0]).length,.d (.v (.slice none 0 0))]]⟩,some (B7 [0]),some (B7 [0]),some (B7 [0]),some (B7 [1,2]),some (B7 [3]),some (B7 [1,3])]) (κ:=[2,3,8,4,1,5,6,7,9]) R (.cons (rc tb R) .nil) (vK (.row R (.row R (.cons R R (.row R (.row R (.row R (.row R (.row R (.row R .nil))))))))) R) ⟨_,R,(.aggL (.cons (.d _) (.cons (.d _) (.cons (.d _) (.cons (.d _) (.cons (.d _) (.cons (.d _) (.cons (.d _) (.cons (.row R R) (.cons (.row R R) (.cons (.rowL R R (.cons (.aggDL (.cons (.d _) (.cons .nilA (.cons (.d _) (.cons (.d _) (.cons (.d _) (.cons .nilA (.cons .nilA (.cons .nilA (.cons .nilA .nil)))))))))) (.cons (.aggL (.cons (.d _) (.cons (.row R R) (.cons (.d _) (.cons (.d _) (.cons (.d _) (.cons (.row R R) (.cons .nilA (.cons .nilA (.cons .nilA .nil)))))))))) (.cons (.aggL (.cons (.d _) (.cons (.row R R) (.cons (.d _) (.cons (.d _) (.cons (.d _) (.cons .nilA (.cons (.row R R) (.cons .nilA (.cons .nilA .nil)))))))))) (.cons (.aggL (.cons (.d _) (.cons (.row R R) (.cons (.d _) (.cons (.d _) (.cons (.d _) (.cons .nilA (.cons (.row R R) (.cons .nilA (.cons .nilA .nil)))))))))) (.cons (.aggL (.cons (.d _) (.cons (.row R R) (.cons (.d _) (.cons (.d _) (.cons (.d _) (.cons .nilA (.cons (.row R R) (.cons (.row R R) (.cons .nilA .nil)))))))))) .nil)))))) (.cons (.row R R) (.cons (.d _) (.cons (.d _) .nil))))))))))))))⟩)
def B1Z (F:Nat) :Option (List C7):=Option.bind (A17 F 0 1 0) fun rv=>Option.bind (A17 F 90 2 0) fun rv2=>Option.bind (A17 F 100 2 0) fun rv3=>Option.bind (A17 F 100 1 2) fun rv4=>Option.bind (A17 F 100 1 1) fun rv5=>Option.bind (A17 F 110 1 2) fun rv6=>Option.bind (A17 F 120 2 1) fun rv7=>Option.bind (A17 F 170 2 2) fun rv8=>Option.bind (A17 F 180 1 3) fun rv9=>Option.bind (A17 F 180 5 0) fun rv10=>Option.bind (A17 F 181 5 1) fun rv11=>Option.bind (A17 F 185 1 3) fun rv12=>Option.bind (A17 F 190 2 3) fun rv13=>Option.bind (A17 F 190 1 4) fun rv14=>Option.bind (A17 F 199 2 4) fun rv15=>Option.bind (A17 F 200 2 4) fun rv16=>some [rv,rv2,rv3,rv4,rv5,rv6,rv7,rv8,rv9,rv10,rv11,rv12,rv13,rv14,rv15,rv16]
theorem B63 {F:Nat}  {r:(List C7)} (h:B1Z F =some r):SCR Tryz.prog 40 (List.map T.d []) [] (.row 0 8 0 (r).length) (List.map some [(B62 r)]):=by
 rw [B1Z] at h
 refine SC.of_sw Tryz.func40 R R R ?_
 dsimp only [L8,List.map]
 refine qG (A3 R (eN (qG ?_)))
 obtain ⟨rv,hrv,h⟩:=H1 h
 refine J5 (Z5 hrv) (.of (by kernel_rfl)) R R R R ?_
 obtain ⟨rv2,hrv2,h⟩:=H1 h
 refine J5 (Z5 hrv2) (.of (by kernel_rfl)) R R R R ?_
 obtain ⟨rv3,hrv3,h⟩:=H1 h
 refine J5 (Z5 hrv3) (.of (by kernel_rfl)) R R R R ?_
 obtain ⟨rv4,hrv4,h⟩:=H1 h
 refine J5 (Z5 hrv4) (.of (by kernel_rfl)) R R R R ?_
 obtain ⟨rv5,hrv5,h⟩:=H1 h
 refine J5 (Z5 hrv5) (.of (by kernel_rfl)) R R R R ?_
 obtain ⟨rv6,hrv6,h⟩:=H1 h
 refine J5 (Z5 hrv6) (.of (by kernel_rfl)) R R R R ?_
 obtain ⟨rv7,hrv7,h⟩:=H1 h
 refine J5 (Z5 hrv7) (.of (by kernel_rfl)) R R R R ?_
 obtain ⟨rv8,hrv8,h⟩:=H1 h
 refine J5 (Z5 hrv8) (.of (by kernel_rfl)) R R R R ?_
 obtain ⟨rv9,hrv9,h⟩:=H1 h
 refine J5 (Z5 hrv9) (.of (by kernel_rfl)) R R R R ?_
 obtain ⟨rv10,hrv10,h⟩:=H1 h
 refine J5 (Z5 hrv10) (.of (by kernel_rfl)) R R R R ?_
 obtain ⟨rv11,hrv11,h⟩:=H1 h
 refine J5 (Z5 hrv11) (.of (by kernel_rfl)) R R R R ?_
 obtain ⟨rv12,hrv12,h⟩:=H1 h
 refine J5 (Z5 hrv12) (.of (by kernel_rfl)) R R R R ?_
 obtain ⟨rv13,hrv13,h⟩:=H1 h
 refine J5 (Z5 hrv13) (.of (by kernel_rfl)) R R R R ?_
 obtain ⟨rv14,hrv14,h⟩:=H1 h
 refine J5 (Z5 hrv14) (.of (by kernel_rfl)) R R R R ?_
 obtain ⟨rv15,hrv15,h⟩:=H1 h
 refine J5 (Z5 hrv15) (.of (by kernel_rfl)) R R R R ?_
 obtain ⟨rv16,hrv16,h⟩:=H1 h
 refine J5 (Z5 hrv16) (.of (by kernel_rfl)) R R R R (P7 tb R R R R R R R R R R R R R (A14 R R R (eN (C9 ?_))))
 obtain rfl:=sI h
 exact f2 [0] (.row R .nil) R (.cons (.tmp 0) .nil) R
theorem B0S {F:Nat}  {r:(List C7)} (h:B1Z F =some r):PC Tryz.prog 40 [] (.arr 8 ((r).map C7.d)):=(B63 h).toPC (.row rfl rfl)
def A7X (F:Nat) :Option Bool:=Option.bind (A9F F ) fun rv=>Option.bind (B1Z F ) fun rv2=>Option.bind (A36 F rv rv2) fun rv3=>Option.bind (A9F F ) fun rv4=>Option.bind (B1Z F ) fun rv5=>Option.bind (A7A rv5 0 5) fun q=>Option.bind (A3Z F rv4 q 120) fun rv6=>Option.bind (A9F F ) fun rv7=>Option.bind (A85 F rv7 []) fun rv8=>Option.bind (A9F F ) fun rv9=>Option.bind (B1Z F ) fun rv10=>Option.bind (A3Z F rv9 rv10 300) fun rv11=>if rv3.2.2=0 then (if rv6.2=0 then (if rv8.2=0 then (if rv11.2=9 then (if (rv3.2.1.length:Int)=16 then (Option.bind (P3 rv3.2.1 14) fun e=>if e=187 then (if rv3.1.now=200 then (if rv6.1=200 then (some (decide (rv8.1=245))) else (some false)) else (some false)) else (some false)) else (some false)) else (some false)) else (some false)) else (some false)) else (some false)
theorem B0R {F:Nat}  {r:Bool} (h:A7X F =some r):PC Tryz.prog 22 [] (.v (.bool r)):=by
 rw [A7X] at h
 refine SC.of_sw Tryz.func22 R R R ?_
 dsimp only [L8,List.map]
 refine qG (A3 R (eN (qG ?_)))
 obtain ⟨rv,hrv,h⟩:=H1 h
 refine J5 (A7Y hrv) (.of (by kernel_rfl)) R R R R ?_
 obtain ⟨rv2,hrv2,h⟩:=H1 h
 refine J5 (B0S hrv2) (.of (by kernel_rfl)) R R R R ?_
 obtain ⟨rv3,hrv3,h⟩:=H1 h
 refine J5 (A6l hrv3) (.of (by kernel_rfl)) R R R R (A0 R (Q1 (t:=H2.d rv3.1) R R R R (Q1 (t := .arr 1 ((rv3.2.1).map vI)) R R R R (Q1 (t:=vI rv3.2.2) R R R R (M5 tb R R R R R (I6 _ _ tb R (A3 R (A3 R (eN (qG ?_))))))))))
 obtain ⟨rv4,hrv4,h⟩:=H1 h
 refine J5 (A7Y hrv4) (.of (by kernel_rfl)) R R R R ?_
 obtain ⟨rv5,hrv5,h⟩:=H1 h
 refine J5 (B0S hrv5) (.of (by kernel_rfl)) R R R R ?_
 obtain ⟨q,iq,h⟩:=H1 h
 refine A6E tb R R R R R R iq R R ?_
 obtain ⟨rv6,hrv6,h⟩:=H1 h
 refine J5 (A6d hrv6) (.of (by kernel_rfl)) R R R R (A0 R (Q1 (t:=vI rv6.1) R R R R (Q1 (t:=vI rv6.2) R R R R (A3 R (A3 R (eN (qG ?_)))))))
 obtain ⟨rv7,hrv7,h⟩:=H1 h
 refine J5 (A7Y hrv7) (.of (by kernel_rfl)) R R R R ?_
 obtain ⟨rv8,hrv8,h⟩:=H1 h
 refine A19 (B1B hrv8) R (.of (by kernel_rfl)) R R ((.cons (.d _) (.cons .nilA .nil))) R R (A0 R (Q1 (t:=vI rv8.1) R R R R (Q1 (t:=vI rv8.2) R R R R (A3 R (A3 R (eN (qG ?_)))))))
 obtain ⟨rv9,hrv9,h⟩:=H1 h
 refine J5 (A7Y hrv9) (.of (by kernel_rfl)) R R R R ?_
 obtain ⟨rv10,hrv10,h⟩:=H1 h
 refine J5 (B0S hrv10) (.of (by kernel_rfl)) R R R R ?_
 obtain ⟨rv11,hrv11,h⟩:=H1 h
 refine J5 (A6d hrv11) (.of (by kernel_rfl)) R R R R (A0 R (Q1 (t:=vI rv11.1) R R R R (Q1 (t:=vI rv11.2) R R R R (A3 R (A3 R (eN (qG (A0 R ?_))))))))
 refine Z3 R R R R ?_ ?_
 ·intro c
  replace h:=J7 c h
  refine A0 R (A0 R ?_)
  refine Z3 R R R R ?_ ?_
  ·intro c2
   replace h:=J7 c2 h
   refine D6 R (A0 R (A0 R ?_))
   refine Z3 R R R R ?_ ?_
   ·intro c3
    replace h:=J7 c3 h
    refine D6 R (A0 R (A0 R ?_))
    refine Z3 R R R R ?_ ?_
    ·intro c4
     replace h:=J7 c4 h
     refine D6 R (A0 R (A0 R (I7 tb R ?_)))
     refine Z3 R R R R ?_ ?_
     ·intro c5
      replace h:=J7 c5 h
      refine D6 R (A0 R (A0 R ?_))
      obtain ⟨e,ie,h⟩:=H1 h
      refine N8 tb (F0 ie) (V1 ie) R (I4 (y:=vI e) tb (U5 (g:=vI) ie) R ?_)
      refine Z3 R R R R ?_ ?_
      ·intro c6
       replace h:=J7 c6 h
       refine D6 R (A0 R (C8 tb R (B5 (y:=vI rv3.1.now) tb R ?_)))
       refine Z3 R R R R ?_ ?_
       ·intro c7
        replace h:=J7 c7 h
        refine D6 R (A0 R (A0 R ?_))
        refine Z3 R R R R ?_ ?_
        ·intro c8
         replace h:=J7 c8 h
         refine D6 R (A0 R (A0 R (A3s R R R R (D6 R (A3 R (eN (C9 ?_)))))))
         obtain rfl:=sI h
         exact f1 0 R
        intro c8
        replace h:=P1 c8 h
        refine D6 R (A0 R (L9 2 R (D0 R (A3 R (eN (C9 ?_))))))
        obtain rfl:=sI h
        exact f1 0 R
       intro c7
       replace h:=P1 c7 h
       refine D6 R (A0 R (L9 2 R (D0 R (A0 R (L9 2 R (D0 R (A3 R (eN (C9 ?_)))))))))
       obtain rfl:=sI h
       exact f1 0 R
      intro c6
      replace h:=P1 c6 h
      refine D6 R (A0 R (L9 3 R (D0 R (A0 R (L9 2 R (D0 R (A0 R (L9 2 R (D0 R (A3 R (eN (C9 ?_))))))))))))
      obtain rfl:=sI h
      exact f1 0 R
     intro c5
     replace h:=P1 c5 h
     refine D6 R (A0 R (L9 4 R (D0 R (A0 R (L9 3 R (D0 R (A0 R (L9 2 R (D0 R (A0 R (L9 2 R (D0 R (A3 R (eN (C9 ?_)))))))))))))))
     obtain rfl:=sI h
     exact f1 0 R
    intro c4
    replace h:=P1 c4 h
    refine D6 R (A0 R (L9 3 R (D0 R (A0 R (L9 4 R (D0 R (A0 R (L9 3 R (D0 R (A0 R (L9 2 R (D0 R (A0 R (L9 2 R (D0 R (A3 R (eN (C9 ?_))))))))))))))))))
    obtain rfl:=sI h
    exact f1 0 R
   intro c3
   replace h:=P1 c3 h
   refine D6 R (A0 R (L9 2 R (D0 R (A0 R (L9 3 R (D0 R (A0 R (L9 4 R (D0 R (A0 R (L9 3 R (D0 R (A0 R (L9 2 R (D0 R (A0 R (L9 2 R (D0 R (A3 R (eN (C9 ?_)))))))))))))))))))))
   obtain rfl:=sI h
   exact f1 0 R
  intro c2
  replace h:=P1 c2 h
  refine D6 R (A0 R (L9 2 R (D0 R (A0 R (L9 2 R (D0 R (A0 R (L9 3 R (D0 R (A0 R (L9 4 R (D0 R (A0 R (L9 3 R (D0 R (A0 R (L9 2 R (D0 R (A0 R (L9 2 R (D0 R (A3 R (eN (C9 ?_))))))))))))))))))))))))
  obtain rfl:=sI h
  exact f1 0 R
 intro c
 replace h:=P1 c h
 refine A0 R (L9 2 R (D0 R (A0 R (L9 2 R (D0 R (A0 R (L9 2 R (D0 R (A0 R (L9 3 R (D0 R (A0 R (L9 4 R (D0 R (A0 R (L9 3 R (D0 R (A0 R (L9 2 R (D0 R (A0 R (L9 2 R (D0 R (A3 R (eN (C9 ?_))))))))))))))))))))))))))
 obtain rfl:=sI h
 exact f1 0 R
def A0C (F:Nat) (rv4:(H2 × (List Int) × Int)) (K:Int→Option Bool):Nat→Int→Option Bool
 | 0,_=>none
 | n+1,x2=>if x2 < (rv4.2.1.length:Int) then (Option.bind (P3 rv4.2.1 x2) fun e3=>if e3=0 then (A0C F rv4 K n (W (x2+1))) else (some false)) else (K x2)
def A3V (F:Nat) (rv4:(H2 × (List Int) × Int)):Option Bool:=A0C F rv4 (fun (x2:Int)=>Option.bind (A7X 100 ) fun rv6=>some rv6) F 0
def A09 (F:Nat) (o:(List C7)) (rv:(H2 × (List Int) × Int)) (K:(List C7)→Int→Option Bool):Nat→(List C7)→Int→Option Bool
 | 0,_,_=>none
 | n+1,lv,x=>if x < (o.length:Int) then (Option.bind (P3 rv.2.1 x) fun e=>if e=0 then (Option.bind (P3 o x) fun e2=>Option.bind (A8i lv [e2]) fun q=>A09 F o rv K n q (W (x+1))) else (A09 F o rv K n lv (W (x+1)))) else (K lv x)
def A3W (F:Nat) (t:D4) (o:(List C7)) (rv:(H2 × (List Int) × Int)):Option Bool:=A09 F o rv (fun (lv:(List C7)) (x:Int)=>Option.bind (A36 F t lv) fun rv4=>if rv4.2.2=0 then (if (rv4.2.1.length:Int)=(lv.length:Int) then (Option.bind (B53 F rv.1 rv4.1) fun rv5=>if rv5=true then (A3V F rv4) else (some false)) else (some false)) else (some false)) F ([]:List C7) 0
def A3t (F:Nat) (rv:(H2 × (List Int) × Int)):Option Bool:=if rv.2.2=0 then (some false) else (Option.bind (A7X 100 ) fun rv2=>some rv2)
def A4r (F:Nat) (t:D4) (o:(List C7)):Option Bool:=Option.bind (A36 F t o) fun rv=>if rv.2.2=0 then (if (rv.2.1.length:Int)=(o.length:Int) then (A3W F t o rv) else (A3t F rv)) else (A3t F rv)
theorem B7f {F:Nat} {t:D4} {o:(List C7)} {r:Bool} (h:A4r F t o=some r):PC Tryz.prog 6 [D4.d t,.arr 8 ((o).map C7.d)] (.v (.bool r)):=by
 rw [A4r] at h
 refine SC.of_sw Tryz.func6 R R R ?_
 dsimp only [L8,List.map]
 refine qG (M9 R (A3 R (eN (qG (B5 (y:=D4.d t) tb R (A0 R ?_))))))
 obtain ⟨rv,hrv,h⟩:=H1 h
 refine J5 (A6l hrv) (.of (by kernel_rfl)) R R R R (A0 R (Q1 (t:=H2.d rv.1) R R R R (Q1 (t := .arr 1 ((rv.2.1).map vI)) R R R R (Q1 (t:=vI rv.2.2) R R R R (M5 tb R R R R R (I6 _ _ tb R (A3 R (A3 R (eN (B8 ?_))))))))))
 refine W5 (fun zz:Unit=>A3W F t o rv=some r) (fun zz:Unit=>⟨[(1,.d (.arr 8 ((o).map C7.d))),(2,.ref 0 13 0 0),(4,.d (.v (.bool false))),(5,.ref 1 13 0 0),(6,.d (.arr 1 ((rv.2.1).map vI)))],[some ⟨13,[.d (D4.d t)]⟩,some ⟨13,[.d (H2.d rv.1)]⟩]⟩) ?_ ?_
 ·clear h
  rintro ⟨⟩ h
  rw [A3W] at h
  refine qG (A3 R (eN (B8 (qG (A3 R (eN (E3 ?_)))))))
  refine SW.own (ts':=[(1,.d (.arr 8 ((o).map C7.d))),(2,.ref 0 13 0 0),(4,.d (.v (.bool false))),(5,.ref 1 13 0 0),(6,.d (.arr 1 ((rv.2.1).map vI))),(8,.row 2 8 0 (([]:List C7)).length),(9,.d (vI 0))]) (L':=[some ⟨13,[.d (D4.d t)]⟩,some ⟨13,[.d (H2.d rv.1)]⟩]) 8 R R (.cons (.same _) (.cons (.same _) (.cons (.same _) (.cons (.same _) (.cons (.same _) (.cons .nil (.cons (.same _) .nil))))))) (.same (.same .nil)) ?_
  simp only [List.cons_append,List.nil_append]
  obtain ⟨K4,hK4,h⟩:∃ K,K=_∧A09 F o rv K F ([]:List C7) 0=some r:=⟨_,rfl,h⟩
  refine M2 (fun m st=>∃ (lv:(List C7)) (x:Int),A09 F o rv K4 m lv x=some r∧st=⟨[(1,.d (.arr 8 ((o).map C7.d))),(2,.ref 0 13 0 0),(4,.d (.v (.bool false))),(5,.ref 1 13 0 0),(6,.d (.arr 1 ((rv.2.1).map vI))),(8,.row 2 8 0 (lv).length),(9,.d (vI x))],[some ⟨13,[.d (D4.d t)]⟩,some ⟨13,[.d (H2.d rv.1)]⟩,some (B62 lv)]⟩) (.prn [1,2,4,5,6,8,9] R) ⟨([]:List C7),0,h,R⟩ ?_
  clear h
  rintro m4 st ⟨lv,x,h,rfl⟩
  cases m4 with
  | zero=>cases (show (none:Option Bool)=some r from h)
  | succ m4 =>
  rw [A09] at h
  refine B8 (qG (A0 R (A0 R (I7 tb R ?_))))
  refine Q4 R R R R ?_ ?_
  ·intro c5
   replace h:=J7 c5 h
   refine eN (C0 R (D7 (A6 (B8 (E3 (qG (A0 R (A0 R ?_))))))))
   obtain ⟨e,ie,h⟩:=H1 h
   refine N8 tb (F0 ie) (V1 ie) R (I4 (y:=vI e) tb (U5 (g:=vI) ie) R ?_)
   refine Z3 R R R R ?_ ?_
   ·intro c6
    replace h:=J7 c6 h
    refine eN (C0 R (J1 (A0T R R R (A0 R (A0 R ?_)))))
    obtain ⟨e2,ie2,h⟩:=H1 h
    refine N8 tb (F0 ie2) (V1 ie2) R (I4 (y:=C7.d e2) tb (U5 (g:=C7.d) ie2) R (P7 tb R R R R R R R R R R R R R ?_))
    obtain ⟨q,iq,h⟩:=H1 h
    refine B2k (g:=C7.d) (w:=lv) (v:=[e2]) ([some ⟨13,[.d (D4.d t)]⟩,some ⟨13,[.d (H2.d rv.1)]⟩,none,some (B62 [e2])]) tb R R R R R R R R R R R iq R R R R R (A14 R R R (Y9 (D3 (A6 (J1 (A0 R (O1 R (A3 R (eN ?_)))))))))
    exact ⟨m4,⟨[(1,.d (.arr 8 ((o).map C7.d))),(2,.ref 0 13 0 0),(4,.d (.v (.bool false))),(5,.ref 1 13 0 0),(6,.d (.arr 1 ((rv.2.1).map vI))),(8,.row 2 8 0 (q).length),(9,.d (vI (W (x+1))))],[some ⟨13,[.d (D4.d t)]⟩,some ⟨13,[.d (H2.d rv.1)]⟩,some (B62 q)]⟩,Nat.lt_succ_self _,.vw (κ:=[0,1,4]) (vK (.cons R R (.cons R R (.row R .nil))) R),q,(W (x+1)),h,R⟩
   intro c6
   replace h:=P1 c6 h
   refine eN (C1 R (D7 (D3 (A6 (J1 (A0 R (O1 R (A3 R (eN ?_)))))))))
   exact ⟨m4,_,Nat.lt_succ_self _,.prn [1,2,4,5,6,8,9] R,lv,(W (x+1)),h,R⟩
  intro c5
  replace h:=P1 (Int.not_lt.2 c5) h
  refine eN (C1 R (N5 (E4 (E4 ?_))))
  subst hK4
  refine I5 (A6 (B8 ?_))
  refine SW.fz (ts':=[(1,.d (.arr 8 ((o).map C7.d))),(2,.ref 0 13 0 0),(4,.d (.v (.bool false))),(5,.ref 1 13 0 0),(6,.d (.arr 1 ((rv.2.1).map vI))),(8,.d (.arr 8 ((lv).map C7.d))),(9,.d (vI x)),(34,.d (vI x)),(35,.d (.arr 8 ((o).map C7.d))),(36,.d (vI (o.length:Int))),(37,.d (.v (.bool false)))]) (L':=[some ⟨13,[.d (D4.d t)]⟩,some ⟨13,[.d (H2.d rv.1)]⟩,none]) (w:=lv) (f:=C7.d) 2 8 R (.cons (.same _) (.cons (.same _) (.cons (.same _) (.cons (.same _) (.cons (.same _) (.cons (.all (List.length_map _)) (.cons (.same _) (.cons (.same _) (.cons (.same _) (.cons (.same _) (.cons (.same _) .nil))))))))))) (.same (.same (.same .nil))) ?_
  refine J1 (B5 (y:=D4.d t) tb R (A0 R ?_))
  obtain ⟨rv4,hrv4,h⟩:=H1 h
  refine J5 (A6l hrv4) (.of (by kernel_rfl)) R R R R (A0 R (Q1 (t:=H2.d rv4.1) R R R R (Q1 (t := .arr 1 ((rv4.2.1).map vI)) R R R R (Q1 (t:=vI rv4.2.2) R R R R (M5 tb R R R R R (I6 _ _ tb R (A3 R (A3 R (eN (B8 ?_))))))))))
  refine W5 (fun zz:Unit=>A3V F rv4=some r) (fun zz:Unit=>⟨[(4,.d (.v (.bool false))),(11,.d (.arr 1 ((rv4.2.1).map vI)))],[]⟩) ?_ ?_
  ·clear h
   rintro ⟨⟩ h
   rw [A3V] at h
   refine B8 (qG (A3 R (eN (E3 ?_))))
   obtain ⟨K7,hK7,h⟩:∃ K,K=_∧A0C F rv4 K F 0=some r:=⟨_,rfl,h⟩
   refine M2 (fun m st=>∃ (x2:Int),A0C F rv4 K7 m x2=some r∧st=⟨[(4,.d (.v (.bool false))),(11,.d (.arr 1 ((rv4.2.1).map vI))),(12,.d (vI x2))],[]⟩) (.prn [4,11,12] R) ⟨0,h,R⟩ ?_
   clear h
   rintro m7 st ⟨x2,h,rfl⟩
   cases m7 with
   | zero=>cases (show (none:Option Bool)=some r from h)
   | succ m7 =>
   rw [A0C] at h
   refine B8 (qG (A0 R (A0 R (I7 tb R ?_))))
   refine Q4 R R R R ?_ ?_
   ·intro c10
    replace h:=J7 c10 h
    refine eN (C0 R (D7 (A6 (B8 (E3 (qG (A0 R (A0 R ?_))))))))
    obtain ⟨e3,ie3,h⟩:=H1 h
    refine N8 tb (F0 ie3) (V1 ie3) R (I4 (y:=vI e3) tb (U5 (g:=vI) ie3) R ?_)
    refine V5 R R R R ?_ ?_
    ·intro c11
     replace h:=P1 c11 h
     refine eN (C0 R (qG (A3 R (eN (C9 (C4 (B2 (B2 (C4 (B2 ?_))))))))))
     obtain rfl:=sI h
     exact f1 4 R
    intro c11
    replace h:=J7 c11 h
    refine eN (C1 R (D7 (D3 (A6 (J1 (A0 R (O1 R (A3 R (eN ?_)))))))))
    exact ⟨m7,_,Nat.lt_succ_self _,.prn [4,11,12] R,(W (x2+1)),h,R⟩
   intro c10
   replace h:=P1 (Int.not_lt.2 c10) h
   refine eN (C1 R (N5 (E4 (E4 ?_))))
   subst hK7
   refine I5 (A6 (qG ?_))
   obtain ⟨rv6,hrv6,h⟩:=H1 h
   refine J5 (B0R hrv6) (.of (by kernel_rfl)) R R R R (A3 R (eN (C9 ?_)))
   obtain rfl:=sI h
   exact f1 4 R
  refine qG (A0 R ?_)
  refine V5 R R R R ?_ ?_
  ·intro c7
   replace h:=P1 c7 h
   refine A0 R (L9 5 R (D6 R (A0 R (L9 4 R (D6 R (eN (C0 R (qG (A3 R (eN (C9 (B2 ?_))))))))))))
   obtain rfl:=sI h
   exact f1 4 R
  intro c7
  replace h:=J7 c7 h
  refine A0 R (A0 R (I7 tb R (A0 R (I7 tb R ?_))))
  refine V5 R R R R ?_ ?_
  ·intro c8
   replace h:=P1 c8 h
   refine D0 R (A0 R (L9 4 R (D6 R (eN (C0 R (qG (A3 R (eN (C9 (B2 ?_))))))))))
   obtain rfl:=sI h
   exact f1 4 R
  intro c8
  replace h:=J7 c8 h
  refine D0 R (A0 R (B5 (y:=H2.d rv.1) tb R (B5 (y:=H2.d rv4.1) tb R ?_)))
  obtain ⟨rv5,hrv5,h⟩:=H1 h
  refine M6 (C1f hrv5) (.of (by kernel_rfl)) R R R R ?_ ?_
  ·intro c9
   replace h:=J7 c9 h
   refine A0a R R R (D0 R (eN (C1 R (D7 (A6 ?_)))))
   exact .inl ⟨(),h,.vw (κ:=[]) (v0 R)⟩
  intro c9
  replace h:=ifF c9 h
  refine Z9 R R R (D0 R (eN (C0 R (qG (A3 R (eN (C9 (B2 ?_))))))))
  obtain rfl:=sI h
  exact f1 4 R
 refine B8 ?_
 refine W5 (fun zz:Unit=>A3t F rv=some r) (fun zz:Unit=>⟨[(1,.d (.arr 8 ((o).map C7.d))),(2,.ref 0 13 0 0),(4,.d (.v (.bool false))),(5,.ref 1 13 0 0),(6,.d (.arr 1 ((rv.2.1).map vI))),(7,.d (vI rv.2.2)),(28,.d (.v (.bool true)))],[some ⟨13,[.d (D4.d t)]⟩,some ⟨13,[.d (H2.d rv.1)]⟩]⟩) ?_ ?_
 ·clear h
  rintro ⟨⟩ h
  rw [A3t] at h
  refine C0 R (qG (A0 R ?_))
  refine V5 R R R R ?_ ?_
  ·intro c3
   replace h:=P1 c3 h
   refine A0 R ?_
   obtain ⟨rv2,hrv2,h⟩:=H1 h
   refine J5 (B0R hrv2) (.of (by kernel_rfl)) R R R R (D6 R (A3 R (eN (C9 (B2 ?_)))))
   obtain rfl:=sI h
   exact f1 4 R
  intro c3
  replace h:=J7 c3 h
  refine A0 R (B3b R (D0 R (A3 R (eN (C9 (B2 ?_))))))
  obtain rfl:=sI h
  exact f1 4 R
 refine J1 (A0 R ?_)
 refine V5 R R R R ?_ ?_
 ·intro c
  replace h:=P1 c h
  refine A0 R (L9 5 R (D6 R (eN ?_)))
  exact .inl ⟨(),h,.prn [1,2,4,5,6,7,28] R⟩
 intro c
 replace h:=J7 c h
 refine A0 R (A0 R (I7 tb R (A0 R (I7 tb R ?_))))
 refine V5 R R R R ?_ ?_
 ·intro c2
  replace h:=P1 c2 h
  refine D0 R (eN ?_)
  exact .inl ⟨(),h,.prn [1,2,4,5,6,7,28] R⟩
 intro c2
 replace h:=J7 c2 h
 refine D0 R (eN (.inr (C1 R (D7 (A6 ?_)))))
 exact .inl ⟨(),h,.prn [1,2,4,5,6] R⟩
end Go.Proofs.YtlaogbbcipebgaaGreat
