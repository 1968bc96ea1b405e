/- What functions of the program compute: plain functions, and the proofs. -/
import Derived.Test.YtlaogbbcipebgaaGreatW3
set_option linter.unusedVariables false
set_option linter.unusedSimpArgs false
open Int renaming tdiv→cz
open List renaming map→ao,set_cons_zero→au,set_cons_succ→av,replicate→ak
open Go Go.Proofs.YtlaogbbcipebgaaGreat.Sh Go.Proofs
namespace Go.Proofs.YtlaogbbcipebgaaGreat
open Go.Proofs.Tryz renaming prog → pg
set_option maxRecDepth 100000
set_option maxHeartbeats 40000000
def C9j (F:Nat) (s:H2):Option H2:=(C9I F (C3.mk s.A9j s.N4 s.A5M s.J3 s.A68 s.A69)).bind fun rv=>(A8i ([]:List Int) s.begun).bind fun q=>(A8i ([]:List Int) s.ended).bind fun q2=>(A8i ([]:List Int) s.left).bind fun q3=>(A8i ([]:List Bool) s.go).bind fun q4=>(A8i ([]:List Bool) s.on_).bind fun q5=>some (H2.mk s.now rv.now rv.zones rv.holder rv.squibs rv.siren rv.storm q q2 s.held q4 q3 q5)
theorem D0p {F s r} (h:C9j F s=some r):SCR pg 160 (ao T.d [H2.d s]) [] (C4z r 0 1 2 3 4 5 6 7) (ao some [(B7 r.N4),(B7 r.A5M),(B7 r.J3),(B7 r.begun),(B7 r.ended),(H7 r.go),(B7 r.left),(H7 r.on_)]):=by
 rw[C9j]at h;refine oW Tryz.func160 ?_;refine gY 2 R (gU 2 R ?_);obtain⟨rv,k,h⟩:=H1 h;refine A2X (C9U k) eK R R R ((.row (.row (.row .nil)))) R R R (eU 2 R (B8 (T1 kR (P7 tb R R R R R R R R R R R R R (rU 2 R ?_)))));obtain⟨q,iq,h⟩:=H1 h;refine C3k (g:=vI) (w:=([]:List Int)) (v:=s.begun) ([bx 13 (C5F {s with A9j:=rv.now,N4:=rv.zones,A5M:=rv.holder,J3:=rv.squibs,A68:=rv.siren,A69:=rv.storm} 2 3 4),bx 13 (.d zC),B0u rv.zones,B0u rv.holder,B0u rv.squibs,none]) tb R R R R R R R R (by intro _;exact R) iq R R R R R ?_;refine P7 tb R R R R R R R R R R R R R (rU 2 R ?_);obtain⟨q2,iq2,h⟩:=H1 h;refine C3k (g:=vI) (w:=([]:List Int)) (v:=s.ended) ([bx 13 (C5F {s with A9j:=rv.now,N4:=rv.zones,A5M:=rv.holder,J3:=rv.squibs,A68:=rv.siren,A69:=rv.storm} 2 3 4),bx 13 (.d zC),B0u rv.zones,B0u rv.holder,B0u rv.squibs,none,B0u q,none]) tb R R R R R R R R (by intro _;exact R) iq2 R R R R R ?_;refine P7 tb R R R R R R R R R R R R R (rU 2 R ?_);obtain⟨q3,iq3,h⟩:=H1 h;refine C3k (g:=vI) (w:=([]:List Int)) (v:=s.left) ([bx 13 (C5F {s with A9j:=rv.now,N4:=rv.zones,A5M:=rv.holder,J3:=rv.squibs,A68:=rv.siren,A69:=rv.storm} 2 3 4),bx 13 (.d zC),B0u rv.zones,B0u rv.holder,B0u rv.squibs,none,B0u q,none,B0u q2,none]) tb R R R R R R R R (by intro _;exact R) iq3 R R R R R ?_;refine rU 6 R (I0 kR (B8 (T1 kR (P7 tb R R R R R R R R R R R R R (rU 2 R ?_)))));obtain⟨q4,iq4,h⟩:=H1 h;refine C3k (g:=vB) (w:=([]:List Bool)) (v:=s.go) ([bx 13 (C5G (H2.mk s.now rv.now rv.zones rv.holder rv.squibs rv.siren rv.storm q q2 s.held s.go q3 s.on_) 2 3 4 6 8 10),bx 13 (.d zC),B0u rv.zones,B0u rv.holder,B0u rv.squibs,none,B0u q,none,B0u q2,none,B0u q3,none]) tb R R R R R R R R (by intro _;exact R) iq4 R R R R R ?_;refine P7 tb R R R R R R R R R R R R R (rU 2 R ?_);obtain⟨q5,iq5,h⟩:=H1 h;refine C3k (g:=vB) (w:=([]:List Bool)) (v:=s.on_) ([bx 13 (C5G (H2.mk s.now rv.now rv.zones rv.holder rv.squibs rv.siren rv.storm q q2 s.held s.go q3 s.on_) 2 3 4 6 8 10),bx 13 (.d zC),B0u rv.zones,B0u rv.holder,B0u rv.squibs,none,B0u q,none,B0u q2,none,B0u q3,none,B9r q4,none]) tb R R R R R R R R (by intro _;exact R) iq5 R R R R R ?_;refine rU 4 R (I0 kR (rY 2 R ?_));cases h;exact f2 [2,3,4,6,8,12,10,14] C42 R (qC R .nil) R
theorem D37 {F s r} (h:C9j F s=some r):PC pg 160 [H2.d s] (H2.d r):=(D0p h).toPC (.aggL (.cons (.d _) (.cons (.d _) (.cons (.row rfl rfl) (.cons (.row rfl rfl) (.cons (.row rfl rfl) (.cons (.d _) (.cons (.d _) (.cons (.row rfl rfl) (.cons (.row rfl rfl) (.cons (.d _) (.cons (.row rfl rfl) (.cons (.row rfl rfl) (.cons (.row rfl rfl) .nil))))))))))))))
def C8j (F:Nat) (p:D4) (tick:Int) (rv:H2) (K:(List Int)→Int→Option H2):Nat→(List Int)→Int→Option H2
 | 0,_,_=>none
 | n+1,s2,i=>if i<(s2.length:Int)then((P3 rv.on_ i).bind fun e=>if e=true then((P3 s2 i).bind fun e2=>(P3 p.batteries i).bind fun e3=>(A5g s2 i (max 0 (W (e2-(W ((W (tick-rv.now))*e3.rate)))))).bind fun s3=>C8j F p tick rv K n s3 (W (i+1)))else(C8j F p tick rv K n s2 (W (i+1))))else(K s2 i)
def C9F (F:Nat) (p:D4) (s:H2) (tick:Int):Option H2:=(C9j F s).bind fun rv=>C8j F p tick rv (fun s2 i=>some {rv with now:=tick,left:=s2}) F rv.left 0
theorem D06 {F p s tick r} (h:C9F F p s tick=some r):SCR pg 83 (ao T.d [D4.d p,H2.d s,vI tick]) [] (C4z r 0 1 2 3 4 5 6 7) (ao some [(B7 r.N4),(B7 r.A5M),(B7 r.J3),(B7 r.begun),(B7 r.ended),(H7 r.go),(B7 r.left),(H7 r.on_)]):=by
 rw[C9F]at h;refine oW Tryz.func83 ?_;refine gY 3 R (gU 1 R ?_);obtain⟨rv,k,h⟩:=H1 h;refine A2X (D0p k) eK R R R ((.row (.row (.row (.row (.row (.row (.row (.row .nil))))))))) R R R (eU 1 R (B8 (gY 1 R (E3 ?_))));refine C3X (fun K2 m st=>∃ (s2:(List Int)) (i:Int),st=⟨[(2,dI tick),(3,rf 0 13),(4,rf 1 13),(6,rf 10 13),(7,dI i)],[bx 13 (.d (D4.d p)),bx 13 (C4z {rv with left:=s2} 2 3 4 5 6 7 8 9),B0u rv.N4,B0u rv.A5M,B0u rv.J3,B0u rv.begun,B0u rv.ended,B9r rv.go,B0u s2,B9r rv.on_,bx 13 (.d zC)]⟩∧C8j F p tick rv K2 m s2 i=some r) ⟨rv.left,0,R,h⟩ (.vq [0,1,3,4,5,6,7,8,9,10,2]) ?_;rintro K2 hK2 m2 _ ⟨s2,i,rfl,h⟩;rw[C8j]at h;refine B8 (gU 3 R (A8F tb R R R R R ?_));refine Q4 R R R R (tJ h ?_) (lJ h ?_)
 ·intro h;refine Y9 (zT (B8 (E3 (gU 3 R ?_))));obtain⟨e,ie,h⟩:=H1 h;refine Y1 tb R R R R R R (F0 ie) (ix1 ie) R R ?_;refine A15 (y:=vB e) tb R R R R (U5 (g:=fun a=>T.d (vB a)) ie) R R R R ?_;refine X8 (tI h ?_) (fI h ?_)
  ·intro c2 h;refine Y9 (C0 R (T1 kR (rU 6 R ?_)));obtain⟨e2,ie2,h⟩:=H1 h;refine Y1 tb R R R R R R (F0 ie2) (ix1 ie2) R R ?_;refine A15 (y:=vI e2) tb R R R R (U5 (g:=fun a=>T.d (vI a)) ie2) R R R R ?_;refine rU 7 R ?_;obtain⟨e3,ie3,h⟩:=H1 h;refine xE ie3 R (rU 1 R (lE ie3 R (rU 2 R (B3f R R R R (Y1 tb R R R R R R (F0 ie2) (ix1 ie2) R R ?_)))));obtain⟨s3,is3,h⟩:=H1 h;refine A5d (a':=((max 0 (W (e2-(W ((W (tick-rv.now))*e3.rate))))):Int)) tb R R R R ie2 R R R R is3 R R ?_;dsimp only[au,av,J2,C6,A0h,C5,B4I,C5F,C5G,C4z];first | rw[A2a is3] | skip
   refine I0 kR (hN 3 R ?_);exact bk ⟨s3,(W (i+1)),R,h⟩ (.prn [2,3,4,6,7] R)
  intro c2 h;refine Y9 (zF (hN 3 R ?_));exact bk ⟨s2,(W (i+1)),R,h⟩ (.prn [2,3,4,6,7] R)
 intro h;refine Y9 (yX ?_);subst hK2;refine gY 3 R (rY 2 R ?_);cases h;exact f2 [2,3,4,5,6,7,8,9] C42 R (qC R .nil) R
theorem D3E {F p s tick r} (h:C9F F p s tick=some r):PC pg 83 [D4.d p,H2.d s,vI tick] (H2.d r):=(D06 h).toPC (.aggL (.cons (.d _) (.cons (.d _) (.cons (.row rfl rfl) (.cons (.row rfl rfl) (.cons (.row rfl rfl) (.cons (.d _) (.cons (.d _) (.cons (.row rfl rfl) (.cons (.row rfl rfl) (.cons (.d _) (.cons (.row rfl rfl) (.cons (.row rfl rfl) (.cons (.row rfl rfl) .nil))))))))))))))
def C9k (F:Nat) (lv:(List Int)) (nv:Int) (K:Int→Option Bool):Nat→Int→Option Bool
 | 0,_=>none
 | n+1,i=>if i<(lv.length:Int)then((P3 lv i).bind fun e=>if e=nv then(some true)else(C9k F lv nv K n (W (i+1))))else(K i)
def D0F (F:Nat) (lv:(List Int)) (nv:Int):Option Bool:=C9k F lv nv (fun i=>some false) F 0
theorem D1B {F lv nv r} (h:D0F F lv nv=some r):PC pg 163 [aI lv,vI nv] (vB r):=by
 rw[D0F]at h;refine oW Tryz.func163 ?_;refine gY 1 R (B8 (gY 1 R (E3 ?_)));refine C3X (fun K3 m st=>∃ (i:Int),st=⟨[(0,.d (aI lv)),(1,dI nv),(4,dB false),(5,dI i)],[]⟩∧C9k F lv nv K3 m i=some r) ⟨0,R,h⟩ (.prn [0,1,4,5] R) ?_;rintro K3 hK3 m3 _ ⟨i,rfl,h⟩;rw[C9k]at h;refine B8 (gU 2 R (I7 tb R ?_));refine Q4 R R R R (tJ h ?_) (lJ h ?_)
 ·intro h;refine Y9 (zT (B8 (E3 (gU 2 R ?_))));obtain⟨e,ie,h⟩:=H1 h;refine yE ie R R (rU 1 R ?_);refine Z3 R R R R (tJ h ?_) (nJ h ?_)
  ·intro h;refine Y9 (cY 1 R ?_);cases h;exact f1 4 R
  intro h;refine Y9 (zF (hN 3 R ?_));exact bk ⟨(W (i+1)),R,h⟩ (.prn [0,1,4,5] R)
 intro h;refine Y9 (yX ?_);subst hK3;refine rY 1 R ?_;cases h;exact f1 4 R
def C77 (F:Nat) (s:H2) (K:Int→Option Bool):Nat→Int→Option Bool
 | 0,_=>none
 | n+1,i=>if i<(s.go.length:Int)then((P3 s.go i).bind fun e=>if e=true then(C77 F s K n (W (i+1)))else(some true))else(K i)
def C70 (F:Nat) (s:H2):Option Bool:=C77 F s (fun i=>some false) F 0
theorem D0g {F s r} (h:C70 F s=some r):PC pg 161 [H2.d s] (vB r):=by
 rw[C70]at h;refine oW Tryz.func161 ?_;refine gY 2 R (B8 (gY 1 R (E3 ?_)));refine C3X (fun K3 m st=>∃ (i:Int),st=⟨[(1,rf 0 13),(2,dB false),(3,dI i)],[bx 13 (.d (H2.d s))]⟩∧C77 F s K3 m i=some r) ⟨0,R,h⟩ (.prn [1,2,3] R) ?_;rintro K3 hK3 m3 _ ⟨i,rfl,h⟩;rw[C77]at h;refine B8 (gU 3 R (I7 tb R ?_));refine Q4 R R R R (tJ h ?_) (lJ h ?_)
 ·intro h;refine Y9 (zT (B8 (E3 (gU 3 R ?_))));obtain⟨e,ie,h⟩:=H1 h;refine yE ie R R ?_;refine X8 (tI h ?_) (fI h ?_)
  ·intro c2 h;refine eU 1 R (zF (hN 3 R ?_));exact bk ⟨(W (i+1)),R,h⟩ (.prn [1,2,3] R)
  intro c2 h;refine eU 1 R (cY 1 R ?_);cases h;exact f1 2 R
 intro h;refine Y9 (yX ?_);subst hK3;refine rY 1 R ?_;cases h;exact f1 2 R
def C8g (F:Nat) (x:E0) (s:H2) (on:(List Int)) (K:Int→Option Bool):Nat→Int→Option Bool
 | 0,_=>none
 | n+1,i=>if i<(x.use_.length:Int)then((P3 x.use_ i).bind fun e=>(P3 s.left e).bind fun e2=>if e2=0 then(some true)else((P3 s.on_ e).bind fun e3=>if e3=true then(C8g F x s on K n (W (i+1)))else((D0F F on e).bind fun rv=>if rv=true then(C8g F x s on K n (W (i+1)))else(some true))))else(K i)
def D0l (F:Nat) (x:E0) (s:H2) (on:(List Int)):Option Bool:=C8g F x s on (fun i=>some false) F 0
theorem D1n {F x s on r} (h:D0l F x s on=some r):PC pg 162 [E0.d x,H2.d s,aI on] (vB r):=by
 rw[D0l]at h;refine oW Tryz.func162 ?_;refine gY 3 R (B8 (gY 1 R (E3 ?_)));refine C3X (fun K3 m st=>∃ (i:Int),st=⟨[(2,.d (aI on)),(3,rf 0 9),(4,rf 1 13),(6,dB false),(7,dI i)],[bx 9 (.d (E0.d x)),bx 13 (.d (H2.d s))]⟩∧C8g F x s on K3 m i=some r) ⟨0,R,h⟩ (.prn [2,3,4,6,7] R) ?_;rintro K3 hK3 m3 _ ⟨i,rfl,h⟩;rw[C8g]at h;refine B8 (gU 3 R (I7 tb R ?_));refine Q4 R R R R (tJ h ?_) (lJ h ?_)
 ·intro h;refine Y9 (zT (B8 (E3 (B8 (T1 kR (rU 5 R ?_))))));obtain⟨e,ie,h⟩:=H1 h;refine yE ie R R ?_;obtain⟨e2,ie2,h⟩:=H1 h;refine yE ie2 R R ?_;refine Z3 R R R R (tJ h ?_) (nJ h ?_)
  ·intro h;refine rU 22 R (I0 kR (cY 1 R ?_));cases h;exact f1 6 R
  intro h;refine rU 6 R (yE ie R R ?_);obtain⟨e3,ie3,h⟩:=H1 h;refine yE ie3 R R ?_;refine X8 (tI h ?_) (fI h ?_)
  ·intro c3 h;refine rU 12 R (I0 kR (zF (hN 3 R ?_)));exact bk ⟨(W (i+1)),R,h⟩ (.prn [2,3,4,6,7] R)
  intro c3 h;refine rU 6 R (yE ie R R ?_);obtain⟨rv,k,h⟩:=H1 h;refine M6 (D1B k) eK R R R R (tI h ?_) (fI h ?_)
  ·intro c4 h;refine rU 3 R (I0 kR (zF (hN 3 R ?_)));exact bk ⟨(W (i+1)),R,h⟩ (.prn [2,3,4,6,7] R)
  intro c4 h;refine rU 3 R (I0 kR (cY 1 R ?_));cases h;exact f1 6 R
 intro h;refine Y9 (yX ?_);subst hK3;refine rY 1 R ?_;cases h;exact f1 6 R
def C6z (F:Nat) (e:E0) (K:(List Bool)→Int→Option (H2 × Int × H2)):Nat→(List Bool)→Int→Option (H2 × Int × H2)
 | 0,_,_=>none
 | n+1,rv3,x2=>if x2<(e.on_.length:Int)then((P3 e.on_ x2).bind fun e5=>(P3 rv3 e5).bind fun e6=>(A5g rv3 e5 true).bind fun rv4=>C6z F e K n rv4 (W (x2+1)))else(K rv3 x2)
def C6y (F:Nat) (o:H2) (a:Int) (e:E0):Option (H2 × Int × H2):=(D0l F e o e.on_).bind fun rv2=>if rv2=true then(some (o,185,o))else((A5g o.begun a o.now).bind fun q=>C6z F e (fun rv3 x2=>some ({o with begun:=q,on_:=rv3},0,{o with begun:=q,on_:=rv3})) F o.on_ 0)
def C76 (F:Nat) (o:H2) (e:E0) (K:Int→Option (H2 × Int × H2)):Nat→Int→Option (H2 × Int × H2)
 | 0,_=>none
 | n+1,x=>if x<(e.need.length:Int)then((P3 e.need x).bind fun e3=>(P3 o.ended e3).bind fun e4=>if e4=(-1)then(some (o,182,o))else(C76 F o e K n (W (x+1))))else(K x)
def C9r (F:Nat) (t:D4) (o:H2) (a:Int):Option (H2 × Int × H2):=(P3 t.steps a).bind fun e=>(P3 o.begun a).bind fun e2=>if e2=(-1)then(C76 F o e (fun x=>if o.held=true then(some (o,183,o))else(if e.poll=true then((C70 F o).bind fun rv=>if rv=true then(some (o,184,o))else(C6y F o a e))else(C6y F o a e))) F 0)else(some (o,181,o))
theorem D1l {F t o a r} (h:C9r F t o a=some r):SCR pg 84 [.d (D4.d t),B4I o 0 1 2 3 4,dI a] [B0u o.begun,B0u o.ended,B9r o.go,B0u o.left,B9r o.on_] (.tup [B4I {r.1 with begun:=r.2.2.begun,ended:=r.2.2.ended,go:=r.2.2.go,left:=r.2.2.left,on_:=r.2.2.on_} 0 1 2 3 4,dI r.2.1]) [B0u r.2.2.begun,B0u r.2.2.ended,B9r r.2.2.go,B0u r.2.2.left,B9r r.2.2.on_]:=by
 rw[C9r]at h;refine oW Tryz.func84 ?_;refine gY 4 R (gU 3 R ?_);obtain⟨e,ie,h⟩:=H1 h;refine yE ie R R (eU 2 R (B8 (gU 3 R ?_)));obtain⟨e2,ie2,h⟩:=H1 h;refine Y1 tb R R R R R R (F0 ie2) (ix1 ie2) R R ?_;refine A15 (y:=vI e2) tb R R R R (U5 (g:=fun a=>T.d (vI a)) ie2) R R R R ?_;refine V5 R R R R (nJ h ?_) (tJ h ?_)
 ·intro h;refine Y9 (cY 3 R ?_);cases h;exact f2 [0,1,2,3,4] B9x R (qC R (tC 7 .nil)) R
 intro h;refine Y9 (zF (B8 (gY 1 R (E3 ?_))));refine C3X (fun K3 m st=>∃ (x:Int),st=⟨[(2,dI a),(4,rf 5 13),(6,rf 6 13),(7,dI 0),(8,rf 7 9),(9,dI x)],[B0u o.begun,B0u o.ended,B9r o.go,B0u o.left,B9r o.on_,bx 13 (B4I o 0 1 2 3 4),bx 13 (.d zC),bx 9 (.d (E0.d e))]⟩∧C76 F o e K3 m x=some r) ⟨0,R,h⟩ (.vq [0,1,2,3,4,6,7,8]) ?_;rintro K3 hK3 m3 _ ⟨x,rfl,h⟩;rw[C76]at h;refine B8 (gU 3 R (I7 tb R ?_));refine Q4 R R R R (tJ h ?_) (lJ h ?_)
 ·intro h;refine Y9 (zT (B8 (E3 (B8 (T1 kR (rU 5 R ?_))))));obtain⟨e3,ie3,h⟩:=H1 h;refine yE ie3 R R ?_;obtain⟨e4,ie4,h⟩:=H1 h;refine Y1 tb R R R R R R (F0 ie4) (ix1 ie4) R R ?_;refine A15 (y:=vI e4) tb R R R R (U5 (g:=fun a=>T.d (vI a)) ie4) R R R R ?_;refine Z3 R R R R (tJ h ?_) (nJ h ?_)
  ·intro h;refine I0 kR (cY 3 R ?_);cases h;exact f2 [0,1,2,3,4] B9x R (qC R (tC 7 .nil)) R
  intro h;refine I0 kR (zF (hN 3 R ?_));exact bk ⟨(W (x+1)),R,h⟩ (.prn [2,4,6,7,8,9] R)
 intro h;refine Y9 (yX ?_);subst hK3;refine B8 (gU 2 R ?_);refine X8 (tI h ?_) (fI h ?_)
 ·intro c4 h;refine Y9 (cY 3 R ?_);cases h;exact f2 [0,1,2,3,4] B9x R (qC R (tC 7 .nil)) R
 intro c4 h;refine Y9 (zF (B8 ?_));refine W5 (fun zz:Unit=>C6y F o a e=some r) (fun zz:Unit=>⟨[(2,dI a),(4,rf 5 13),(6,rf 6 13),(7,dI 0),(8,rf 7 9)],[B0u o.begun,B0u o.ended,B9r o.go,B0u o.left,B9r o.on_,bx 13 (B4I o 0 1 2 3 4),bx 13 (.d zC),bx 9 (.d (E0.d e))]⟩) ?_ ?_
 ·clear h;rintro⟨⟩ h;rw[C6y]at h;refine B8 (gU 4 R ?_);obtain⟨rv2,k2,h⟩:=H1 h;refine A4k (D1n k2) eK R R ((dL (.cons ld (dL .nil)))) R R (tI h ?_) (fI h ?_)
  ·intro c7 h;refine Y9 (cY 3 R ?_);cases h;exact f2 [0,1,2,3,4] B9x R (qC R (tC 7 .nil)) R
  intro c7 h;refine Y9 (zF (gU 5 R (Y1 tb R R R R R R (F0 ie2) (ix1 ie2) R R ?_)));obtain⟨q,iq,h⟩:=H1 h;refine A5d (a':=(o.now:Int)) tb R R R R ie2 R R R R iq R R ?_;dsimp only[au,av,J2,C6,A0h,C5,B4I,C5F,C5G,C4z];first | rw[A2a iq] | skip
  refine Y9 (B8 (gY 1 R (E3 ?_)));refine C3X (fun K6 m st=>∃ (rv3:(List Bool)) (x2:Int),st=⟨[(4,rf 5 13),(6,rf 6 13),(7,dI 0),(8,rf 7 9),(10,dI x2)],[B0u q,B0u o.ended,B9r o.go,B0u o.left,B9r rv3,bx 13 (B4I {o with begun:=q,on_:=rv3} 0 1 2 3 4),bx 13 (.d zC),bx 9 (.d (E0.d e))]⟩∧C6z F e K6 m rv3 x2=some r) ⟨o.on_,0,R,h⟩ (.prn [4,6,7,8,10] R) ?_;rintro K6 hK6 m6 _ ⟨rv3,x2,rfl,h⟩;rw[C6z]at h;refine B8 (gU 3 R (I7 tb R ?_));refine Q4 R R R R (tJ h ?_) (lJ h ?_)
  ·intro h;refine Y9 (zT (B8 (E3 (T1 kR (rU 5 R ?_)))));obtain⟨e5,ie5,h⟩:=H1 h;refine yE ie5 R R ?_;obtain⟨e6,ie6,h⟩:=H1 h;refine Y1 tb R R R R R R (F0 ie6) (ix1 ie6) R R ?_;obtain⟨rv4,irv4,h⟩:=H1 h;refine A5d (a':=(true:Bool)) tb R R R R ie6 R R R R irv4 R R ?_;dsimp only[au,av,J2,C6,A0h,C5,B4I,C5F,C5G,C4z];first | rw[A2a irv4] | skip
   refine I0 kR (hN 3 R ?_);exact bk ⟨rv4,(W (x2+1)),R,h⟩ (.prn [4,6,7,8,10] R)
  intro h;refine Y9 (yX ?_);subst hK6;refine rY 3 R ?_;cases h;exact f2 [0,1,2,3,4] B9x R (qC R (tC 7 .nil)) R
 refine gU 2 R ?_;refine X8 (tI h ?_) (fI h ?_)
 ·intro c5 h;refine rU 2 R ?_;obtain⟨rv,k,h⟩:=H1 h;refine A4k (D0g k) eK R R ((.cons ld .nil)) R R (tI h ?_) (fI h ?_)
  ·intro c6 h;refine eU 1 R (cY 3 R ?_);cases h;exact f2 [0,1,2,3,4] B9x R (qC R (tC 7 .nil)) R
  intro c6 h;refine eU 1 R (zF (A6 ?_));exact .inl ⟨(),h,.prn [2,4,6,7,8] R⟩
 intro c5 h;refine eU 4 R (zF (A6 ?_));exact .inl ⟨(),h,.prn [2,4,6,7,8] R⟩
def C6B (F:Nat) (e:E0) (K:(List Bool)→Int→Option (H2 × Int × H2)):Nat→(List Bool)→Int→Option (H2 × Int × H2)
 | 0,_,_=>none
 | n+1,rv12,x2=>if x2<(e.off.length:Int)then((P3 e.off x2).bind fun e7=>(P3 rv12 e7).bind fun e8=>(A5g rv12 e7 false).bind fun rv13=>C6B F e K n rv13 (W (x2+1)))else(K rv12 x2)
def C9e (F:Nat) (t:D4) (o:H2) (e:E0) (K:Int→(List Int)→(List Int)→(List Int)→Int→Bool→Int→Option (H2 × Int × H2)):Nat→Int→(List Int)→(List Int)→(List Int)→Int→Bool→Int→Option (H2 × Int × H2)
 | 0,_,_,_,_,_,_,_=>none
 | n+1,rv5,rv6,rv7,rv8,rv9,rv10,x=>if x<(e.acts.length:Int)then((P3 e.acts x).bind fun e5=>(D0o F (D5.mk t.N4 t.P5 t.N6 t.S5 t.J3 t.Q7 t.T9) (C3.mk rv5 rv6 rv7 rv8 rv9 rv10) {e5 with at_:=o.now}).bind fun rv11=>if rv11.2=0 then(C9e F t o e K n rv11.1.now rv11.1.zones rv11.1.holder rv11.1.squibs rv11.1.siren rv11.1.storm (W (x+1)))else(some ({o with A9j:=rv5,N4:=rv6,A5M:=rv7,J3:=rv8,A68:=rv9,A69:=rv10},rv11.2,o)))else(K rv5 rv6 rv7 rv8 rv9 rv10 x)
def C8B (F:Nat) (t:D4) (o:H2) (a:Int) (e:E0):Option (H2 × Int × H2):=C9e F t o e (fun rv5 rv6 rv7 rv8 rv9 rv10 x=>(P3 o.ended a).bind fun e6=>(A5g o.ended a o.now).bind fun q=>C6B F e (fun rv12 x2=>some ((H2.mk o.now rv5 rv6 rv7 rv8 rv9 rv10 o.begun q o.held o.go o.left rv12),0,{o with ended:=q,on_:=rv12})) F o.on_ 0) F o.A9j o.N4 o.A5M o.J3 o.A68 o.A69 0
def C9d (F:Nat) (t:D4) (o:H2) (a:Int) (e:E0):Option (H2 × Int × H2):=(D0l F e o []).bind fun rv3=>if rv3=true then(some (o,185,o))else(if a=(W ((t.steps.length:Int)-1))then((C8N F o.now t.Q8 t.O8).bind fun rv4=>if rv4=true then(C8B F t o a e)else(some (o,187,o)))else(C8B F t o a e))
def C9x (F:Nat) (t:D4) (o:H2) (a:Int) (e:E0):Option (H2 × Int × H2):=(P3 o.begun a).bind fun e4=>(C8N F (W (o.now-e4)) e.least e.most).bind fun rv=>if rv=true then(if e.poll=true then((C70 F o).bind fun rv2=>if rv2=true then(some (o,184,o))else(C9d F t o a e))else(C9d F t o a e))else(some (o,186,o))
def D0e (F:Nat) (t:D4) (o:H2) (a:Int):Option (H2 × Int × H2):=(P3 t.steps a).bind fun e=>(P3 o.begun a).bind fun e2=>if e2=(-1)then(some (o,181,o))else((P3 o.ended a).bind fun e3=>if e3=(-1)then(C9x F t o a e)else(some (o,181,o)))
theorem D1K {F t o a r} (h:D0e F t o a=some r):SCR pg 85 [.d (D4.d t),B4I o 0 1 2 3 4,dI a] [B0u o.begun,B0u o.ended,B9r o.go,B0u o.left,B9r o.on_] (.tup [B4I {r.1 with begun:=r.2.2.begun,ended:=r.2.2.ended,go:=r.2.2.go,left:=r.2.2.left,on_:=r.2.2.on_} 0 1 2 3 4,dI r.2.1]) [B0u r.2.2.begun,B0u r.2.2.ended,B9r r.2.2.go,B0u r.2.2.left,B9r r.2.2.on_]:=by
 rw[D0e]at h;refine oW Tryz.func85 ?_;refine gY 4 R (gU 3 R ?_);obtain⟨e,ie,h⟩:=H1 h;refine yE ie R R (eU 2 R (B8 ?_));refine W5 (fun zz:Unit=>C9x F t o a e=some r) (fun zz:Unit=>⟨[(2,dI a),(3,rf 5 13),(4,rf 6 13),(6,rf 7 13),(7,dI 0),(8,rf 8 9)],[B0u o.begun,B0u o.ended,B9r o.go,B0u o.left,B9r o.on_,bx 13 (.d (D4.d t)),bx 13 (B4I o 0 1 2 3 4),bx 13 (.d zC),bx 9 (.d (E0.d e))]⟩) ?_ ?_
 ·clear h;rintro⟨⟩ h;rw[C9x]at h;refine B8 (B8 (T1 kR (rU 5 R ?_)));obtain⟨e4,ie4,h⟩:=H1 h;refine Y1 tb R R R R R R (F0 ie4) (ix1 ie4) R R ?_;refine A15 (y:=vI e4) tb R R R R (U5 (g:=fun a=>T.d (vI a)) ie4) R R R R ?_;refine rU 5 R ?_;obtain⟨rv,k,h⟩:=H1 h;refine M6 (C7z k) eK R R R R (tI h ?_) (fI h ?_)
  ·intro c3 h;refine rU 1 R (I0 kR (zF (B8 ?_)));refine W5 (fun zz:Unit=>C9d F t o a e=some r) (fun zz:Unit=>⟨[(2,dI a),(3,rf 5 13),(4,rf 6 13),(6,rf 7 13),(7,dI 0),(8,rf 8 9)],[B0u o.begun,B0u o.ended,B9r o.go,B0u o.left,B9r o.on_,bx 13 (.d (D4.d t)),bx 13 (B4I o 0 1 2 3 4),bx 13 (.d zC),bx 9 (.d (E0.d e))]⟩) ?_ ?_
   ·clear h;rintro⟨⟩ h;rw[C9d]at h;refine B8 (gU 2 R ?_);obtain⟨rv3,k3,h⟩:=H1 h;refine A4k (D1n k3) eK R R ((dL (.cons ld (.cons .nilA .nil)))) R R (tI h ?_) (fI h ?_)
    ·intro c6 h;refine Y9 (cY 3 R ?_);cases h;exact f2 [0,1,2,3,4] B9x R (qC R (tC 7 .nil)) R
    intro c6 h;refine Y9 (zF (B8 ?_));refine W5 (fun zz:Unit=>C8B F t o a e=some r) (fun zz:Unit=>⟨[(2,dI a),(3,rf 5 13),(4,rf 6 13),(6,rf 7 13),(7,dI 0),(8,rf 8 9)],[B0u o.begun,B0u o.ended,B9r o.go,B0u o.left,B9r o.on_,bx 13 (.d (D4.d t)),bx 13 (B4I o 0 1 2 3 4),bx 13 (.d zC),bx 9 (.d (E0.d e))]⟩) ?_ ?_
    ·clear h;rintro⟨⟩ h;rw[C8B]at h;refine B8 (gY 1 R (E3 ?_));refine C3X (fun K3 m st=>∃ (rv5:Int) (rv6:(List Int)) (rv7:(List Int)) (rv8:(List Int)) (rv9:Int) (rv10:Bool) (x:Int),st=⟨[(2,dI a),(3,rf 5 13),(4,rf 6 13),(6,rf 7 13),(7,dI 0),(8,rf 8 9),(9,dI x)],[B0u o.begun,B0u o.ended,B9r o.go,B0u o.left,B9r o.on_,bx 13 (.d (D4.d t)),bx 13 (B4I {o with A9j:=rv5,N4:=rv6,A5M:=rv7,J3:=rv8,A68:=rv9,A69:=rv10} 0 1 2 3 4),bx 13 (.d zC),bx 9 (.d (E0.d e))]⟩∧C9e F t o e K3 m rv5 rv6 rv7 rv8 rv9 rv10 x=some r) ⟨o.A9j,o.N4,o.A5M,o.J3,o.A68,o.A69,0,R,h⟩ (.prn [2,3,4,6,7,8,9] R) ?_;rintro K3 hK3 m3 _ ⟨rv5,rv6,rv7,rv8,rv9,rv10,x,rfl,h⟩;rw[C9e]at h;refine B8 (gU 3 R (I7 tb R ?_));refine Q4 R R R R (tJ h ?_) (lJ h ?_)
     ·intro h;refine Y9 (zT (B8 (E3 (gU 3 R ?_))));obtain⟨e5,ie5,h⟩:=H1 h;refine yE ie5 R R (eU 2 R (gY 4 R (gU 5 R ?_)));obtain⟨rv11,k11,h⟩:=H1 h;refine J5 (D1S k11) eK R R R R (eU 6 R (B8 (gU 1 R ?_)));refine V5 R R R R (nJ h ?_) (tJ h ?_)
      ·intro h;refine Y9 (cY 4 R ?_);cases h;exact f2 [0,1,2,3,4] B9x R (qC R (tC 7 .nil)) R
      intro h;refine Y9 (zF (hE 3 R (hN 3 R ?_)));exact bk ⟨rv11.1.now,rv11.1.zones,rv11.1.holder,rv11.1.squibs,rv11.1.siren,rv11.1.storm,(W (x+1)),R,h⟩ (.vq [0,1,2,3,4,5,6,7,8])
     intro h;refine Y9 (yX ?_);subst hK3;refine gU 5 R ?_;obtain⟨e6,ie6,h⟩:=H1 h;refine Y1 tb R R R R R R (F0 ie6) (ix1 ie6) R R ?_;obtain⟨q,iq,h⟩:=H1 h;refine A5d (a':=(o.now:Int)) tb R R R R ie6 R R R R iq R R ?_;dsimp only[au,av,J2,C6,A0h,C5,B4I,C5F,C5G,C4z];first | rw[A2a iq] | skip
     refine Y9 (B8 (gY 1 R (E3 ?_)));refine C3X (fun K6 m st=>∃ (rv12:(List Bool)) (x2:Int),st=⟨[(4,rf 5 13),(6,rf 6 13),(7,dI 0),(8,rf 7 9),(13,dI x2)],[B0u o.begun,B0u q,B9r o.go,B0u o.left,B9r rv12,bx 13 (B4I (H2.mk o.now rv5 rv6 rv7 rv8 rv9 rv10 o.begun q o.held o.go o.left rv12) 0 1 2 3 4),bx 13 (.d zC),bx 9 (.d (E0.d e))]⟩∧C6B F e K6 m rv12 x2=some r) ⟨o.on_,0,R,h⟩ (.vq [0,1,2,3,4,6,7,8]) ?_;rintro K6 hK6 m6 _ ⟨rv12,x2,rfl,h⟩;rw[C6B]at h;refine B8 (gU 3 R (I7 tb R ?_));refine Q4 R R R R (tJ h ?_) (lJ h ?_)
     ·intro h;refine Y9 (zT (B8 (E3 (T1 kR (rU 5 R ?_)))));obtain⟨e7,ie7,h⟩:=H1 h;refine yE ie7 R R ?_;obtain⟨e8,ie8,h⟩:=H1 h;refine Y1 tb R R R R R R (F0 ie8) (ix1 ie8) R R ?_;obtain⟨rv13,irv13,h⟩:=H1 h;refine A5d (a':=(false:Bool)) tb R R R R ie8 R R R R irv13 R R ?_;dsimp only[au,av,J2,C6,A0h,C5,B4I,C5F,C5G,C4z];first | rw[A2a irv13] | skip
      refine I0 kR (hN 3 R ?_);exact bk ⟨rv13,(W (x2+1)),R,h⟩ (.prn [4,6,7,8,13] R)
     intro h;refine Y9 (yX ?_);subst hK6;refine rY 3 R ?_;cases h;exact f2 [0,1,2,3,4] B9x R (qC R (tC 7 .nil)) R
    refine gU 3 R (I7 tb R (rU 1 R ?_));refine Z3 R R R R (tJ h ?_) (nJ h ?_)
    ·intro h;refine rU 9 R ?_;obtain⟨rv4,k4,h⟩:=H1 h;refine M6 (C7z k4) eK R R R R (tI h ?_) (fI h ?_)
     ·intro c8 h;refine eU 2 R (zF (A6 ?_));exact .inl ⟨(),h,.prn [2,3,4,6,7,8] R⟩
     intro c8 h;refine eU 2 R (cY 3 R ?_);cases h;exact f2 [0,1,2,3,4] B9x R (qC R (tC 7 .nil)) R
    intro h;refine eU 12 R (zF (A6 ?_));exact .inl ⟨(),h,.prn [2,3,4,6,7,8] R⟩
   refine gU 2 R ?_;refine X8 (tI h ?_) (fI h ?_)
   ·intro c4 h;refine rU 2 R ?_;obtain⟨rv2,k2,h⟩:=H1 h;refine A4k (D0g k2) eK R R ((.cons ld .nil)) R R (tI h ?_) (fI h ?_)
    ·intro c5 h;refine eU 1 R (cY 3 R ?_);cases h;exact f2 [0,1,2,3,4] B9x R (qC R (tC 7 .nil)) R
    intro c5 h;refine eU 1 R (zF (A6 ?_));exact .inl ⟨(),h,.prn [2,3,4,6,7,8] R⟩
   intro c4 h;refine eU 4 R (zF (A6 ?_));exact .inl ⟨(),h,.prn [2,3,4,6,7,8] R⟩
  intro c3 h;refine rU 1 R (I0 kR (cY 3 R ?_));cases h;exact f2 [0,1,2,3,4] B9x R (qC R (tC 7 .nil)) R
 refine gU 3 R ?_;obtain⟨e2,ie2,h⟩:=H1 h;refine Y1 tb R R R R R R (F0 ie2) (ix1 ie2) R R ?_;refine A15 (y:=vI e2) tb R R R R (U5 (g:=fun a=>T.d (vI a)) ie2) R R R R ?_;refine Z3 R R R R (tJ h ?_) (nJ h ?_)
 ·intro h;refine eU 8 R (cY 3 R ?_);cases h;exact f2 [0,1,2,3,4] B9x R (qC R (tC 7 .nil)) R
 intro h;refine rU 4 R ?_;obtain⟨e3,ie3,h⟩:=H1 h;refine Y1 tb R R R R R R (F0 ie3) (ix1 ie3) R R ?_;refine A15 (y:=vI e3) tb R R R R (U5 (g:=fun a=>T.d (vI a)) ie3) R R R R ?_;refine V5 R R R R (nJ h ?_) (tJ h ?_)
 ·intro h;refine eU 1 R (cY 3 R ?_);cases h;exact f2 [0,1,2,3,4] B9x R (qC R (tC 7 .nil)) R
 intro h;refine eU 1 R (zF (A6 ?_));exact .inl ⟨(),h,.prn [2,3,4,6,7,8] R⟩
def C7p (F:Nat) (K:(List Int)→(List Int)→Int→Option (H2 × Int × H2)):Nat→(List Int)→(List Int)→Int→Option (H2 × Int × H2)
 | 0,_,_,_=>none
 | n+1,s2,s3,i=>if i<(s2.length:Int)then((P3 s2 i).bind fun e3=>(A5g s2 i (-1)).bind fun s4=>(P3 s3 i).bind fun e4=>(A5g s3 i (-1)).bind fun s5=>C7p F K n s4 s5 (W (i+1)))else(K s2 s3 i)
def C8O (F:Nat) (p:D4) (s:H2) (point:Int):Option (H2 × Int × H2):=(P3 p.points point).bind fun e=>(P3 s.begun e).bind fun e2=>if e2=(-1)then(some (s,181,s))else((D0F F s.J3 1).bind fun rv=>if rv=true then(some (s,188,s))else(C7p F (fun s2 s3 i=>(B1D (s.go.length:Int)).bind fun q=>(B1D (s.on_.length:Int)).bind fun q2=>some ({s with begun:=s2,ended:=s3,held:=true,go:=(ak q false),on_:=(ak q2 false)},0,{s with begun:=s2,ended:=s3})) F s.begun s.ended e))
theorem D0G {F p s point r} (h:C8O F p s point=some r):SCR pg 86 [.d (D4.d p),C7k s 0 1,dI point] [B0u s.begun,B0u s.ended] (.tup [C7k {r.1 with begun:=r.2.2.begun,ended:=r.2.2.ended} 0 1,dI r.2.1]) [B0u r.2.2.begun,B0u r.2.2.ended]:=by
 rw[C8O]at h;refine oW Tryz.func86 ?_;refine gY 4 R (gU 3 R ?_);obtain⟨e,ie,h⟩:=H1 h;refine yE ie R R (eU 1 R (B8 (gU 3 R ?_)));obtain⟨e2,ie2,h⟩:=H1 h;refine Y1 tb R R R R R R (F0 ie2) (ix1 ie2) R R ?_;refine A15 (y:=vI e2) tb R R R R (U5 (g:=fun a=>T.d (vI a)) ie2) R R R R ?_;refine Z3 R R R R (tJ h ?_) (nJ h ?_)
 ·intro h;refine Y9 (cY 3 R ?_);cases h;exact f2 [0,1] C37 R (qC R (tC 7 .nil)) R
 intro h;refine Y9 (zF (B8 (gU 3 R ?_)));obtain⟨rv,k,h⟩:=H1 h;refine M6 (D1B k) eK R R R R (tI h ?_) (fI h ?_)
 ·intro c2 h;refine Y9 (cY 3 R ?_);cases h;exact f2 [0,1] C37 R (qC R (tC 7 .nil)) R
 intro c2 h;refine Y9 (zF (B8 (gY 2 R (E3 ?_))));refine C3X (fun K3 m st=>∃ (s2:(List Int)) (s3:(List Int)) (i:Int),st=⟨[(4,rf 2 13),(6,rf 3 13),(7,dI 0),(9,dI i)],[B0u s2,B0u s3,bx 13 (C7k {s with begun:=s2,ended:=s3} 0 1),bx 13 (.d zC)]⟩∧C7p F K3 m s2 s3 i=some r) ⟨s.begun,s.ended,e,R,h⟩ (.vq [0,1,3,4]) ?_;rintro K3 hK3 m3 _ ⟨s2,s3,i,rfl,h⟩;rw[C7p]at h;refine B8 (gU 3 R (A8F tb R R R R R ?_));refine Q4 R R R R (tJ h ?_) (lJ h ?_)
 ·intro h;refine Y9 (zT (B8 (E3 (T1 kR (rU 6 R ?_)))));obtain⟨e3,ie3,h⟩:=H1 h;refine Y1 tb R R R R R R (F0 ie3) (ix1 ie3) R R ?_;obtain⟨s4,is4,h⟩:=H1 h;refine A5d (a':=((-1):Int)) tb R R R R ie3 R R R R is4 R R ?_;dsimp only[au,av,J2,C6,A0h,C5,B4I,C5F,C5G,C4z,C7k];first | rw[A2a is4] | skip
  obtain⟨e4,ie4,h⟩:=H1 h;refine Y1 tb R R R R R R (F0 ie4) (ix1 ie4) R R ?_;obtain⟨s5,is5,h⟩:=H1 h;refine A5d (a':=((-1):Int)) tb R R R R ie4 R R R R is5 R R ?_;dsimp only[au,av,J2,C6,A0h,C5,B4I,C5F,C5G,C4z,C7k];first | rw[A2a is5] | skip
  refine I0 kR (hN 3 R ?_);exact bk ⟨s4,s5,(W (i+1)),R,h⟩ (.prn [4,6,7,9] R)
 intro h;refine Y9 (yX ?_);subst hK3;refine B8 (T1 kR (rU 2 R (I7 tb R ?_)));obtain⟨q,iq,h⟩:=H1 h;refine B00 (v:=false) (g:=vB) tb R R R R R R R ((A6i iq).1) ((A6i iq).2) R R R R (rU 2 R (I7 tb R ?_));obtain⟨q2,iq2,h⟩:=H1 h;refine B00 (v:=false) (g:=vB) tb R R R R R R R ((A6i iq2).1) ((A6i iq2).2) R R R R (rU 6 R (I0 kR (gY 3 R ?_)));refine SW.fzc 5 [4,6,7,9,28,29,30,31,32,43,44,45,46,47,48,49,50,51,52,53,54] [2,3] R R R ?_;refine SW.fzc 4 [4,6,7,9,28,29,30,31,32,43,44,45,46,47,48,49,50,51,52,53,54] [2,3] R R R ?_;refine C9 ?_;cases h;exact f2 [0,1] C37 R (qC R (tC 7 .nil)) R
def C9f (F:Nat) (s:H2):Option Bool:=(P3 s.ended (W ((s.ended.length:Int)-1))).bind fun e=>some (!decide (e=(-1)))
theorem D1q {F s r} (h:C9f F s=some r):PC pg 54 [H2.d s] (vB r):=by
 rw[C9f]at h;refine oW Tryz.func54 ?_;refine gY 2 R (gU 4 R (I7 tb R (rU 1 R ?_)));obtain⟨e,ie,h⟩:=H1 h;refine yE ie R R (D3T R R R R (eU 1 R (C9 ?_)));cases h;exact f1 2 R
def C8s (F:Nat) (rv2:H2) (x:Bool) (lv:(List Bool)) (lv2:(List Int)):Option (H2 × Int):=some ({rv2 with held:=x,go:=lv,left:=lv2},0)
def D05 (F:Nat) (rv2:H2) (rv6:(C3 × Int)):Option (H2 × Int):=some ({rv2 with A9j:=rv6.1.now,N4:=rv6.1.zones,A5M:=rv6.1.holder,J3:=rv6.1.squibs,A68:=rv6.1.siren,A69:=rv6.1.storm},0)
def C9D (F:Nat) (a:C7) (rv2:H2):Option (H2 × Int):=(P3 rv2.go a.what).bind fun e=>if(e==(decide (a.kind=5)))=true then(some (rv2,181))else((A5g rv2.go a.what (!e)).bind fun q=>if rv2.held=true then(C8s F rv2 true q rv2.left)else(C8s F rv2 (decide (a.kind=6)) q rv2.left))
def C9E (F:Nat) (a:C7) (rv2:H2):Option (H2 × Int):=if(rv2.held==(decide (a.kind=3)))=true then(some (rv2,181))else(C8s F rv2 (!rv2.held) rv2.go rv2.left)
def D2i (F:Nat) (t:D4) (o:H2) (a:C7):Option (H2 × Int):=if a.at_<o.now then(some (o,180))else((C9f F o).bind fun rv=>if rv=true then(some (o,181))else((C9F F t o a.at_).bind fun rv2=>if a.kind=1 then((C9r F t rv2 a.what).bind fun rv3=>(lnO rv3.2.2.begun.length rv2.begun.length).bind fun u=>(lnO rv3.2.2.ended.length rv2.ended.length).bind fun u2=>(lnO rv3.2.2.go.length rv2.go.length).bind fun u3=>(lnO rv3.2.2.left.length rv2.left.length).bind fun u4=>(lnO rv3.2.2.on_.length rv2.on_.length).bind fun u5=>some ({rv3.1 with begun:=rv3.2.2.begun,ended:=rv3.2.2.ended,go:=rv3.2.2.go,left:=rv3.2.2.left,on_:=rv3.2.2.on_},rv3.2.1))else(if a.kind=2 then((D0e F t rv2 a.what).bind fun rv4=>(lnO rv4.2.2.begun.length rv2.begun.length).bind fun u6=>(lnO rv4.2.2.ended.length rv2.ended.length).bind fun u7=>(lnO rv4.2.2.go.length rv2.go.length).bind fun u8=>(lnO rv4.2.2.left.length rv2.left.length).bind fun u9=>(lnO rv4.2.2.on_.length rv2.on_.length).bind fun u10=>some ({rv4.1 with begun:=rv4.2.2.begun,ended:=rv4.2.2.ended,go:=rv4.2.2.go,left:=rv4.2.2.left,on_:=rv4.2.2.on_},rv4.2.1))else(if a.kind=3 then(C9E F a rv2)else(if a.kind=4 then(C9E F a rv2)else(if a.kind=5 then(C9D F a rv2)else(if a.kind=6 then(C9D F a rv2)else(if a.kind=7 then((C8O F t rv2 a.what).bind fun rv5=>(lnO rv5.2.2.begun.length rv2.begun.length).bind fun u11=>(lnO rv5.2.2.ended.length rv2.ended.length).bind fun u12=>some ({rv5.1 with begun:=rv5.2.2.begun,ended:=rv5.2.2.ended},rv5.2.1))else(if a.kind=8 then((D0o F (D5.mk t.N4 t.P5 t.N6 t.S5 t.J3 t.Q7 t.T9) (C3.mk rv2.A9j rv2.N4 rv2.A5M rv2.J3 rv2.A68 rv2.A69) (D2.mk a.A04 a.A0D a.A1L a.A0E a.A0F)).bind fun rv6=>if rv6.2=0 then(D05 F rv2 rv6)else(some (rv2,rv6.2)))else(if a.kind=9 then((P3 rv2.on_ a.what).bind fun e=>if e=true then(some (rv2,181))else((P3 t.batteries a.what).bind fun e2=>(P3 rv2.left a.what).bind fun e3=>(A5g rv2.left a.what e2.charge).bind fun q=>C8s F rv2 rv2.held rv2.go q))else(C8s F rv2 rv2.held rv2.go rv2.left)))))))))))
theorem D3l {F t o a r} (h:D2i F t o a=some r):PC pg 48 [D4.d t,H2.d o,C7.d a] (.tup [H2.d r.1,vI r.2]):=by
 rw[D2i]at h;refine PC.of_lend ?_;refine oW Tryz.func48 ?_;refine gY 5 R (B8 (gU 4 R ?_));refine Q4 R R R R (tJ h ?_) (lJ h ?_)
 ·intro h;refine Y9 (cY 3 R (B2 ?_));cases h;exact(U0 (t := .d (.tup [H2.d o,vI 180])) (L:=[]) (κ:=[]) R (qC R (tC 7 .nil)) vv ⟨_,R,(.d _)⟩)
 intro h;refine Y9 (zF (B8 (gU 1 R ?_)));obtain⟨rv,k,h⟩:=H1 h;refine M6 (D1q k) eK R R R R (tI h ?_) (fI h ?_)
 ·intro c2 h;refine Y9 (cY 3 R (B2 ?_));cases h;exact(U0 (t := .d (.tup [H2.d o,vI 181])) (L:=[]) (κ:=[]) R (qC R (tC 7 .nil)) vv ⟨_,R,(.d _)⟩)
 intro c2 h;refine Y9 (zF (gU 4 R ?_));obtain⟨rv2,k2,h⟩:=H1 h;refine A2X (D06 k2) eK R R R ((.row (.row (.row (.row (.row (.row (.row (.row .nil))))))))) R R R (eU 2 R (B8 ?_));refine W5 (Sum.elim (fun zz:Bool × (List Bool) × (List Int)=>C8s F rv2 zz.1 zz.2.1 zz.2.2=some r) (fun zz:(C3 × Int)=>D05 F rv2 zz=some r)) (Sum.elim (fun zz:Bool × (List Bool) × (List Int)=>⟨[(6,rf 0 13),(7,dI 0),(8,rf 1 13)],[bx 13 (.d zC),bx 13 (C4z {rv2 with held:=zz.1,go:=zz.2.1,left:=zz.2.2} 2 3 4 5 6 7 8 9),B0u rv2.N4,B0u rv2.A5M,B0u rv2.J3,B0u rv2.begun,B0u rv2.ended,B9r zz.2.1,B0u zz.2.2,B9r rv2.on_]⟩) (fun zz:(C3 × Int)=>⟨[(6,rf 0 13),(7,dI 0),(8,rf 1 13)],[bx 13 (.d zC),bx 13 (B4I {rv2 with A9j:=zz.1.now,N4:=zz.1.zones,A5M:=zz.1.holder,J3:=zz.1.squibs,A68:=zz.1.siren,A69:=zz.1.storm} 2 3 4 5 6),B0u rv2.begun,B0u rv2.ended,B9r rv2.go,B0u rv2.left,B9r rv2.on_]⟩)) ?_ ?_
 ·clear h;rintro(⟨x,lv,lv2⟩ | rv6) h
  ·dsimp only[Sum.elim]at h ⊢;rw[C8s]at h;refine rY 3 R ?_;cases h;exact(U0 (t := .tup [C4z {rv2 with held:=x,go:=lv,left:=lv2} 0 1 2 3 4 5 6 7,dI 0]) (L:=[B0u rv2.N4,B0u rv2.A5M,B0u rv2.J3,B0u rv2.begun,B0u rv2.ended,B9r lv,B0u lv2,B9r rv2.on_]) (κ:=[2,3,4,5,6,7,8,9]) R (qC R (tC 7 .nil)) vv ⟨_,R,ld⟩)
  ·dsimp only[Sum.elim]at h ⊢;rw[D05]at h;refine rY 3 R ?_;cases h;exact(U0 (t := .tup [B4I {rv2 with A9j:=rv6.1.now,N4:=rv6.1.zones,A5M:=rv6.1.holder,J3:=rv6.1.squibs,A68:=rv6.1.siren,A69:=rv6.1.storm} 0 1 2 3 4,dI 0]) (L:=[B0u rv2.begun,B0u rv2.ended,B9r rv2.go,B0u rv2.left,B9r rv2.on_]) (κ:=[2,3,4,5,6]) R (qC R (tC 7 .nil)) vv ⟨_,R,ld⟩)
 refine gY 2 R (E3 (qG ?_));refine Z3 R R R R (tJ h ?_) (nJ h ?_)
 ·intro h;refine eU 1 R (C0 R (B8 ?_));refine SW.fzc 4 [3,5,6,7,8] [12] R R R ?_;refine SW.fzc 5 [3,5,6,7,8] [12] R R R ?_;refine SW.fzc 6 [3,5,6,7,8] [12] R R R ?_;refine hU 4 R ?_;obtain⟨rv3,k3,h⟩:=H1 h;obtain⟨u,hu,h⟩:=H1 h;obtain⟨u2,hu2,h⟩:=H1 h;obtain⟨u3,hu3,h⟩:=H1 h;obtain⟨u4,hu4,h⟩:=H1 h;obtain⟨u5,hu5,h⟩:=H1 h;refine cO [7,8,9,10,11] (D1l k3) eK C25 R ((.row (.row (.row (.row (.row .nil)))))) .nil R ?_;dsimp only[J2,C6,A0h,C5,B4I,C5F,C5G,C4z,C7k];first | rw[← C4B hu] | skip
  first | rw[← C4B hu2] | skip
  first | rw[← C4B hu3] | skip
  first | rw[← C4B hu4] | skip
  first | rw[← C4B hu5] | skip
  refine eU 4 R (C9 (C4 (B2 ?_)));cases h;exact(U0 (t := .tup [B4I {rv3.1 with begun:=rv3.2.2.begun,ended:=rv3.2.2.ended,go:=rv3.2.2.go,left:=rv3.2.2.left,on_:=rv3.2.2.on_} 0 1 2 3 4,dI rv3.2.1]) (L:=[B0u rv3.2.2.begun,B0u rv3.2.2.ended,B9r rv3.2.2.go,B0u rv3.2.2.left,B9r rv3.2.2.on_]) (κ:=[7,8,9,10,11]) R (qC R (tC 7 .nil)) vv ⟨_,R,ld⟩)
 intro h;refine eU 1 R (C1 R (qG ?_));refine Z3 R R R R (tJ h ?_) (nJ h ?_)
 ·intro h;refine eU 1 R (C0 R (B8 ?_));refine SW.fzc 4 [3,5,6,7,8] [12] R R R ?_;refine SW.fzc 5 [3,5,6,7,8] [12] R R R ?_;refine SW.fzc 6 [3,5,6,7,8] [12] R R R ?_;refine hU 4 R ?_;obtain⟨rv4,k4,h⟩:=H1 h;obtain⟨u6,hu6,h⟩:=H1 h;obtain⟨u7,hu7,h⟩:=H1 h;obtain⟨u8,hu8,h⟩:=H1 h;obtain⟨u9,hu9,h⟩:=H1 h;obtain⟨u10,hu10,h⟩:=H1 h;refine cO [7,8,9,10,11] (D1K k4) eK C25 R ((.row (.row (.row (.row (.row .nil)))))) .nil R ?_;dsimp only[J2,C6,A0h,C5,B4I,C5F,C5G,C4z,C7k];first | rw[← C4B hu6] | skip
  first | rw[← C4B hu7] | skip
  first | rw[← C4B hu8] | skip
  first | rw[← C4B hu9] | skip
  first | rw[← C4B hu10] | skip
  refine eU 4 R (C9 (C4 (B2 ?_)));cases h;exact(U0 (t := .tup [B4I {rv4.1 with begun:=rv4.2.2.begun,ended:=rv4.2.2.ended,go:=rv4.2.2.go,left:=rv4.2.2.left,on_:=rv4.2.2.on_} 0 1 2 3 4,dI rv4.2.1]) (L:=[B0u rv4.2.2.begun,B0u rv4.2.2.ended,B9r rv4.2.2.go,B0u rv4.2.2.left,B9r rv4.2.2.on_]) (κ:=[7,8,9,10,11]) R (qC R (tC 7 .nil)) vv ⟨_,R,ld⟩)
 intro h;refine eU 1 R (C1 R (B8 ?_));refine W5 (fun zz:Unit=>C9E F a rv2=some r) (fun zz:Unit=>⟨[(3,rf 0 13),(5,rf 1 8),(6,rf 2 13),(7,dI 0),(8,rf 3 13),(26,dI a.kind),(45,dB true)],[bx 13 (.d (D4.d t)),bx 8 (.d (C7.d a)),bx 13 (.d zC),bx 13 (C4z rv2 4 5 6 7 8 9 10 11),B0u rv2.N4,B0u rv2.A5M,B0u rv2.J3,B0u rv2.begun,B0u rv2.ended,B9r rv2.go,B0u rv2.left,B9r rv2.on_]⟩) ?_ ?_
 ·clear h;rintro⟨⟩ h;rw[C9E]at h;refine C0 R (B8 (gU 4 R (A3s R R R R (B6K R R R R R ?_))));refine X8 (tI h ?_) (fI h ?_)
  ·intro c7 h;refine Y9 (cY 3 R (B2 (C4 (B2 ?_))));cases h;exact(U0 (t := .tup [C4z rv2 0 1 2 3 4 5 6 7,dI 181]) (L:=[B0u rv2.N4,B0u rv2.A5M,B0u rv2.J3,B0u rv2.begun,B0u rv2.ended,B9r rv2.go,B0u rv2.left,B9r rv2.on_]) (κ:=[4,5,6,7,8,9,10,11]) R (qC R (tC 7 .nil)) vv ⟨_,R,ld⟩)
  intro c7 h;refine Y9 (zF (hE 5 R (D3 (A6 ?_))));exact .inl ⟨.inl ((!rv2.held),rv2.go,rv2.left),h,.vq [2,3,4,5,6,7,8,9,10,11]⟩
 refine qG ?_;refine Z3 R R R R (tJ h ?_) (nJ h ?_)
 ·intro h;refine eU 1 R (zT (A6 ?_));exact .inl ⟨(),h,.vq [0,2,3,12,4,5,6,7,8,9,10,11]⟩
 intro h;refine eU 1 R (C1 R (J1 ?_));refine Z3 R R R R (tJ h ?_) (nJ h ?_)
 ·intro h;refine nU 1 R ?_;exact .inl ⟨(),h,.vq [0,2,3,12,4,5,6,7,8,9,10,11]⟩
 intro h;refine nU 1 R (.inr (C1 R (B8 ?_)));refine W5 (fun zz:Unit=>C9D F a rv2=some r) (fun zz:Unit=>⟨[(3,rf 0 13),(5,rf 1 8),(6,rf 2 13),(7,dI 0),(8,rf 3 13),(26,dI a.kind),(59,dB true)],[bx 13 (.d (D4.d t)),bx 8 (.d (C7.d a)),bx 13 (.d zC),bx 13 (C4z rv2 4 5 6 7 8 9 10 11),B0u rv2.N4,B0u rv2.A5M,B0u rv2.J3,B0u rv2.begun,B0u rv2.ended,B9r rv2.go,B0u rv2.left,B9r rv2.on_]⟩) ?_ ?_
 ·clear h;rintro⟨⟩ h;rw[C9D]at h;refine C0 R (B8 (B8 (T1 kR (rU 4 R ?_))));obtain⟨e,ie,h⟩:=H1 h;refine Y1 tb R R R R R R (F0 ie) (ix1 ie) R R ?_;refine A15 (y:=vB e) tb R R R R (U5 (g:=fun a=>T.d (vB a)) ie) R R R R ?_;refine rU 2 R (A3s R R R R (B6K R R R R R ?_));refine X8 (tI h ?_) (fI h ?_)
  ·intro c9 h;refine I0 kR (cY 3 R (B2 (C4 (B2 ?_))));cases h;exact(U0 (t := .tup [C4z rv2 0 1 2 3 4 5 6 7,dI 181]) (L:=[B0u rv2.N4,B0u rv2.A5M,B0u rv2.J3,B0u rv2.begun,B0u rv2.ended,B9r rv2.go,B0u rv2.left,B9r rv2.on_]) (κ:=[4,5,6,7,8,9,10,11]) R (qC R (tC 7 .nil)) vv ⟨_,R,ld⟩)
  intro c9 h;refine I0 kR (zF (B8 (T1 kR (rU 8 R (Y1 tb R R R R R R (F0 ie) (ix1 ie) R R ?_)))));refine A15 (y:=vB e) tb R R R R (U5 (g:=fun a=>T.d (vB a)) ie) R R R R ?_;refine rU 1 R (Y1 tb R R R R R R (F0 ie) (ix1 ie) R R ?_);obtain⟨q,iq,h⟩:=H1 h;refine A5d (a':=((!e):Bool)) tb R R R R ie R R R R iq R R ?_;dsimp only[au,av,J2,C6,A0h,C5,B4I,C5F,C5G,C4z,C7k];first | rw[A2a iq] | skip
  refine I0 kR (hU 2 R ?_);refine X8 (tI h ?_) (fI h ?_)
  ·intro c10 h;refine eU 7 R (D3 (A6 ?_));exact .inl ⟨.inl (true,q,rv2.left),h,.vq [2,3,4,5,6,7,8,9,10,11]⟩
  intro c10 h;refine rU 3 R (A3s R R R R (eU 3 R (D3 (A6 ?_))));exact .inl ⟨.inl ((decide (a.kind=6)),q,rv2.left),h,.vq [2,3,4,5,6,7,8,9,10,11]⟩
 refine qG ?_;refine Z3 R R R R (tJ h ?_) (nJ h ?_)
 ·intro h;refine eU 1 R (zT (A6 ?_));exact .inl ⟨(),h,.vq [0,2,3,12,4,5,6,7,8,9,10,11]⟩
 intro h;refine eU 1 R (C1 R (J1 ?_));refine Z3 R R R R (tJ h ?_) (nJ h ?_)
 ·intro h;refine nU 1 R ?_;exact .inl ⟨(),h,.vq [0,2,3,12,4,5,6,7,8,9,10,11]⟩
 intro h;refine nU 1 R (.inr (C1 R (qG ?_)));refine Z3 R R R R (tJ h ?_) (nJ h ?_)
 ·intro h;refine eU 1 R (C0 R (B8 ?_));refine SW.fzc 4 [3,5,6,7,8] [12] R R R ?_;refine SW.fzc 5 [3,5,6,7,8] [12] R R R ?_;refine SW.fzc 6 [3,5,6,7,8] [12] R R R ?_;refine SW.fzc 9 [3,5,6,7,8] [12] R R R ?_;refine SW.fzc 10 [3,5,6,7,8] [12] R R R ?_;refine SW.fzc 11 [3,5,6,7,8] [12] R R R ?_;refine hU 4 R ?_;obtain⟨rv5,k5,h⟩:=H1 h;obtain⟨u11,hu11,h⟩:=H1 h;obtain⟨u12,hu12,h⟩:=H1 h;refine cO [7,8] (D0G k5) eK C43 R ((.row (.row .nil))) .nil R ?_;dsimp only[J2,C6,A0h,C5,B4I,C5F,C5G,C4z,C7k];first | rw[← C4B hu11] | skip
  first | rw[← C4B hu12] | skip
  refine eU 4 R (C9 (C4 (B2 ?_)));cases h;exact(U0 (t := .tup [C7k {rv5.1 with begun:=rv5.2.2.begun,ended:=rv5.2.2.ended} 0 1,dI rv5.2.1]) (L:=[B0u rv5.2.2.begun,B0u rv5.2.2.ended]) (κ:=[7,8]) R (qC R (tC 7 .nil)) vv ⟨_,R,ld⟩)
 intro h;refine eU 1 R (C1 R (qG ?_));refine Z3 R R R R (tJ h ?_) (nJ h ?_)
 ·intro h;refine eU 1 R (C0 R (B8 ?_));refine SW.fzc 4 [3,5,6,7,8] [12] R R R ?_;refine SW.fzc 5 [3,5,6,7,8] [12] R R R ?_;refine SW.fzc 6 [3,5,6,7,8] [12] R R R ?_;refine hU 6 R ?_;obtain⟨rv6,k6,h⟩:=H1 h;refine J5 (D1S k6) eK R R R R (eU 6 R (B8 (gU 1 R ?_)));refine V5 R R R R (nJ h ?_) (tJ h ?_)
  ·intro h;refine Y9 (cY 4 R (B2 (C4 (B2 ?_))));cases h;exact(U0 (t := .tup [B4I rv2 0 1 2 3 4,dI rv6.2]) (L:=[B0u rv2.begun,B0u rv2.ended,B9r rv2.go,B0u rv2.left,B9r rv2.on_]) (κ:=[7,8,9,10,11]) R (qC R (tC 7 .nil)) vv ⟨_,R,ld⟩)
  intro h;refine Y9 (zF (hE 3 R (D3 (A6 ?_))));exact .inl ⟨.inr (rv6),h,.vq [3,12,7,8,9,10,11]⟩
 intro h;refine eU 1 R (C1 R (qG ?_));refine Z3 R R R R (tJ h ?_) (nJ h ?_)
 ·intro h;refine eU 1 R (C0 R (B8 (gU 4 R ?_)));obtain⟨e,ie,h⟩:=H1 h;refine Y1 tb R R R R R R (F0 ie) (ix1 ie) R R ?_;refine A15 (y:=vB e) tb R R R R (U5 (g:=fun a=>T.d (vB a)) ie) R R R R ?_;refine X8 (tI h ?_) (fI h ?_)
  ·intro c13 h;refine Y9 (cY 3 R (B2 (C4 (B2 ?_))));cases h;exact(U0 (t := .tup [C4z rv2 0 1 2 3 4 5 6 7,dI 181]) (L:=[B0u rv2.N4,B0u rv2.A5M,B0u rv2.J3,B0u rv2.begun,B0u rv2.ended,B9r rv2.go,B0u rv2.left,B9r rv2.on_]) (κ:=[4,5,6,7,8,9,10,11]) R (qC R (tC 7 .nil)) vv ⟨_,R,ld⟩)
  intro c13 h;refine Y9 (zF (T1 kR (rU 8 R ?_)));obtain⟨e2,ie2,h⟩:=H1 h;refine xE ie2 R (rU 1 R (lE ie2 R ?_));obtain⟨e3,ie3,h⟩:=H1 h;refine Y1 tb R R R R R R (F0 ie3) (ix1 ie3) R R ?_;obtain⟨q,iq,h⟩:=H1 h;refine A5d (a':=(e2.charge:Int)) tb R R R R ie3 R R R R iq R R ?_;dsimp only[au,av,J2,C6,A0h,C5,B4I,C5F,C5G,C4z,C7k];first | rw[A2a iq] | skip
  refine I0 kR (D3 (A6 ?_));exact .inl ⟨.inl (rv2.held,rv2.go,q),h,.vq [3,12,4,5,6,7,8,9,10,11]⟩
 intro h;refine eU 1 R (zF (D3 (A6 ?_)));exact .inl ⟨.inl (rv2.held,rv2.go,rv2.left),h,.vq [3,12,4,5,6,7,8,9,10,11]⟩
def C8h (F:Nat) (t:D4) (o:C7):Option Int:=if o.what=0 then(if o.kind=8 then(if o.A04=o.at_ then((C8P F t (D2.mk o.A04 o.A0D o.A1L o.A0E o.A0F)).bind fun rv3=>some rv3)else(some 2))else(if(!(D2.beq (D2.mk o.A04 o.A0D o.A1L o.A0E o.A0F) (D2.mk 0 0 0 0 0)))=true then(some 2)else(some 0)))else(some 2)
def D0f (F:Nat) (t:D4) (o:C7):Option Int:=(C8N F o.at_ 0 100000).bind fun rv=>if rv=true then((C8N F o.kind 1 9).bind fun rv2=>if rv2=true then((P3 [0,(t.steps.length:Int),(t.steps.length:Int),0,0,(t.stations.length:Int),(t.stations.length:Int),(t.points.length:Int),0,(t.batteries.length:Int)] o.kind).bind fun e=>if o.kind=3 then(C8h F t o)else(if o.kind=4 then(C8h F t o)else(if o.kind=8 then(C8h F t o)else((C8N F o.what 0 (W (e-1))).bind fun rv3=>if rv3=true then(if o.kind=8 then(if o.A04=o.at_ then((C8P F t (D2.mk o.A04 o.A0D o.A1L o.A0E o.A0F)).bind fun rv4=>some rv4)else(some 2))else(if(!(D2.beq (D2.mk o.A04 o.A0D o.A1L o.A0E o.A0F) (D2.mk 0 0 0 0 0)))=true then(some 2)else(some 0)))else(some 4)))))else(some 2))else(some 7)
theorem D2k {F t o r} (h:D0f F t o=some r):PC pg 46 [D4.d t,C7.d o] (vI r):=by
 rw[D0f]at h;refine oW Tryz.func46 ?_;refine gY 3 R (B8 (gU 2 R ?_));obtain⟨rv,k,h⟩:=H1 h;refine M6 (C7z k) eK R R R R (tI h ?_) (fI h ?_)
 ·intro c h;refine eU 1 R (zF (B8 (gU 2 R ?_)));obtain⟨rv2,k2,h⟩:=H1 h;refine M6 (C7z k2) eK R R R R (tI h ?_) (fI h ?_)
  ·intro c2 h;refine eU 1 R (zF (gU 2 R (I7 tb R (rU 2 R (I7 tb R (rU 2 R (I7 tb R (rU 2 R (I7 tb R (rU 2 R (I7 tb R (rU 2 R (I7 tb R (P7 tb R R R R R R R R R R R R R (rU 2 R ?_)))))))))))))));obtain⟨e,ie,h⟩:=H1 h;refine Y1 tb R R R R R R (F0 ie) (ix1 ie) R R ?_;refine A15 (y:=vI e) tb R R R R (U5 (g:=fun a=>T.d (vI a)) ie) R R R R ?_;refine eU 1 R (B8 ?_);refine W5 (fun zz:Unit=>C8h F t o=some r) (fun zz:Unit=>⟨[(2,rf 0 13),(3,rf 1 8),(4,dI 0),(5,dI e),(6,dB true)],[bx 13 (.d (D4.d t)),bx 8 (.d (C7.d o))]⟩) ?_ ?_
   ·clear h;rintro⟨⟩ h;rw[C8h]at h;refine B8 (gY 10 R (zF (B8 (gU 4 R ?_))));refine V5 R R R R (nJ h ?_) (tJ h ?_)
    ·intro h;refine eU 1 R (cY 1 R ?_);cases h;exact f1 4 R
    intro h;refine eU 1 R (zF (B8 (gU 2 R ?_)));refine V5 R R R R (nJ h ?_) (tJ h ?_)
    ·intro h;refine Y9 (C0 R (B8 (gU 2 R (S1 (v := .d (.agg [vI 0,vI 0,vI 0,vI 0,vI 0])) tb R R cN R R R R R R ?_))));refine B8c (p:=[.int .i64 o.A04,.int .i64 o.A0D,.int .i64 o.A1L,.int .i64 o.A0E,.int .i64 o.A0F]) (q:=[.int .i64 0,.int .i64 0,.int .i64 0,.int .i64 0,.int .i64 0]) R R (fun o1 o2 w=>C04 (D2.mk o.A04 o.A0D o.A1L o.A0E o.A0F) (D2.mk 0 0 0 0 0) o1 o2 w) R R ?_;refine X8 (tI h ?_) (fI h ?_)
     ·intro c8 h;refine Y9 (cY 1 R ?_);cases h;exact f1 4 R
     intro c8 h;refine Y9 (zF (rY 1 R ?_));cases h;exact f1 4 R
    intro h;refine Y9 (zF (B8 (gU 5 R ?_)));refine V5 R R R R (nJ h ?_) (tJ h ?_)
    ·intro h;refine Y9 (cY 1 R ?_);cases h;exact f1 4 R
    intro h;refine Y9 (zF (gU 3 R ?_));obtain⟨rv3,k3,h⟩:=H1 h;refine J5 (D0h k3) eK R R R R (eU 1 R (C9 ?_));cases h;exact f1 4 R
   refine hU 2 R ?_;refine Z3 R R R R (tJ h ?_) (nJ h ?_)
   ·intro h;refine nU 11 R ?_;exact .inl ⟨(),h,.vq [0,1]⟩
   intro h;refine rU 3 R ?_;refine Z3 R R R R (tJ h ?_) (nJ h ?_)
   ·intro h;refine nU 7 R ?_;exact .inl ⟨(),h,.vq [0,1]⟩
   intro h;refine rU 4 R ?_;refine Z3 R R R R (tJ h ?_) (nJ h ?_)
   ·intro h;refine nU 2 R ?_;exact .inl ⟨(),h,.vq [0,1]⟩
   intro h;refine nU 2 R (.inr (B8 (gU 7 R ?_)));obtain⟨rv3,k3,h⟩:=H1 h;refine M6 (C7z k3) eK R R R R (tI h ?_) (fI h ?_)
   ·intro c6 h;refine eU 2 R (zF (B8 (gY 6 R (zF (B8 (gU 2 R ?_))))));refine V5 R R R R (nJ h ?_) (tJ h ?_)
    ·intro h;refine Y9 (C0 R (B8 (gU 2 R (S1 (v := .d (.agg [vI 0,vI 0,vI 0,vI 0,vI 0])) tb R R cN R R R R R R ?_))));refine B8c (p:=[.int .i64 o.A04,.int .i64 o.A0D,.int .i64 o.A1L,.int .i64 o.A0E,.int .i64 o.A0F]) (q:=[.int .i64 0,.int .i64 0,.int .i64 0,.int .i64 0,.int .i64 0]) R R (fun o1 o2 w=>C04 (D2.mk o.A04 o.A0D o.A1L o.A0E o.A0F) (D2.mk 0 0 0 0 0) o1 o2 w) R R ?_;refine X8 (tI h ?_) (fI h ?_)
     ·intro c8 h;refine Y9 (cY 1 R ?_);cases h;exact f1 4 R
     intro c8 h;refine Y9 (zF (rY 1 R ?_));cases h;exact f1 4 R
    intro h;refine Y9 (zF (B8 (gU 5 R ?_)));refine V5 R R R R (nJ h ?_) (tJ h ?_)
    ·intro h;refine Y9 (cY 1 R ?_);cases h;exact f1 4 R
    intro h;refine Y9 (zF (gU 3 R ?_));obtain⟨rv4,k4,h⟩:=H1 h;refine J5 (D0h k4) eK R R R R (eU 1 R (C9 ?_));cases h;exact f1 4 R
   intro c6 h;refine eU 2 R (cY 1 R ?_);cases h;exact f1 4 R
  intro c2 h;refine eU 1 R (cY 1 R ?_);cases h;exact f1 4 R
 intro c h;refine eU 1 R (cY 1 R ?_);cases h;exact f1 4 R
def C9q (F:Nat) (B3:H2→(List Int)→Int→Option (H2 × (List Int) × Int)) (lv:(List Int)) (x4:Int) (rv4:(H2 × Int)) (a2:H2):Option (H2 × (List Int) × Int):=(A8i lv [rv4.2]).bind fun q=>B3 a2 q (W (x4+1))
def C8e (F:Nat) (t:D4) (o:(List C7)) (K:H2→(List Int)→Int→Option (H2 × (List Int) × Int)):Nat→H2→(List Int)→Int→Option (H2 × (List Int) × Int)
 | 0,_,_,_=>none
 | n+1,a,lv,x4=>if x4<(o.length:Int)then((P3 o x4).bind fun e2=>(D2i F t a e2).bind fun rv4=>if rv4.2=0 then(C9q F (C8e F t o K n) lv x4 rv4 rv4.1)else(C9q F (C8e F t o K n) lv x4 rv4 a))else(K a lv x4)
def C8y (F:Nat) (t:D4) (o:(List C7)) (x2:Int):Option (H2 × (List Int) × Int):=if x2=0 then((C9H F t).bind fun rv3=>C8e F t o (fun a lv x4=>some (a,lv,0)) F rv3 ([]:List Int) 0)else(some ((H2.mk 0 0 [] [] [] 0 false [] [] false [] [] []),[],x2))
def C8f (F:Nat) (t:D4) (o:(List C7)) (K:Int→Int→Option (H2 × (List Int) × Int)):Nat→Int→Int→Option (H2 × (List Int) × Int)
 | 0,_,_=>none
 | n+1,x2,x3=>if x3<(o.length:Int)then(if x2=0 then((P3 o x3).bind fun e=>(D0f F t e).bind fun rv2=>C8f F t o K n rv2 (W (x3+1)))else(K x2 x3))else(K x2 x3)
def C8d (F:Nat) (t:D4) (o:(List C7)) (x:Int):Option (H2 × (List Int) × Int):=C8f F t o (fun x2 x3=>C8y F t o x2) F x 0
def D03 (F:Nat) (t:D4) (o:(List C7)):Option (H2 × (List Int) × Int):=(D0d F t).bind fun rv=>if rv.2.2=0 then(if 100<(o.length:Int)then(C8d F t o 3)else(C8d F t o rv.2.2))else(C8d F t o rv.2.2)
theorem D2y {F t o r} (h:D03 F t o=some r):PC pg 19 [D4.d t,.arr 8 ((o).map C7.d)] (.tup [H2.d r.1,aI r.2.1,vI r.2.2]):=by
 rw[D03]at h;refine PC.of_lend ?_;refine oW Tryz.func19 ?_;refine gY 4 R (gU 1 R ?_);obtain⟨rv,k,h⟩:=H1 h;refine J5 (D2f k) eK R R R R (eU 7 R (B8 ?_));refine W5 (fun zz:Int=>C8d F t o zz=some r) (fun zz:Int=>⟨[(1,.d (.arr 8 ((o).map C7.d))),(2,rf 0 13),(4,rf 1 13),(5,dZ),(6,dI 0),(9,dI zz)],[bx 13 (.d (D4.d t)),bx 13 (.d zC)]⟩) ?_ ?_
 ·clear h;rintro x h;rw[C8d]at h;refine B8 ?_;refine W5 (fun zz:Int=>C8y F t o zz=some r) (fun zz:Int=>⟨[(1,.d (.arr 8 ((o).map C7.d))),(2,rf 0 13),(4,rf 1 13),(5,dZ),(6,dI 0),(9,dI zz)],[bx 13 (.d (D4.d t)),bx 13 (.d zC)]⟩) ?_ ?_
  ·clear h;rintro x2 h;rw[C8y]at h;refine B8 (gU 1 R ?_);refine V5 R R R R (nJ h ?_) (tJ h ?_)
   ·intro h;refine Y9 (C0 R (qG (S1 (v := .d zC) tb R R cN kR kR kR kR R R (eU 4 R (C9 (B2 ?_))))));cases h;exact(U0 (t := .d (.tup [zC,sZ,vI x2])) (L:=[]) (κ:=[]) R (qC R (tC 5 (tC 6 .nil))) vv ⟨_,R,(.tupDL (.cons (.aggDL (dL (dL (.cons .nilA (.cons .nilA (.cons .nilA (dL (dL (.cons .nilA (.cons .nilA (dL (.cons .nilA (.cons .nilA (.cons .nilA .nil)))))))))))))) (.cons .nilA (dL .nil))))⟩)
   intro h;refine Y9 (zF (gU 1 R ?_));obtain⟨rv3,k3,h⟩:=H1 h;refine A2X (D07 k3) eK R R R ((.row (.row (.row (.row (.row .nil)))))) R R R (eU 2 R (gY 1 R (B8 (gY 1 R (E3 (SW.ow 1 true 12 [] [1,2,4,5,6,11,12,13] R ?_))))));refine SW.fzc 2 [1,2,4,5,6,11,12,13] [7] R R R ?_;refine SW.fzc 3 [1,2,4,5,6,11,12,13] [7] R R R ?_;refine SW.fzc 4 [1,2,4,5,6,11,12,13] [7] R R R ?_;refine SW.fzc 5 [1,2,4,5,6,11,12,13] [7] R R R ?_;refine SW.fzc 6 [1,2,4,5,6,11,12,13] [7] R R R ?_;refine C3X (fun K3 m st=>∃ (a:H2) (lv:(List Int)) (x4:Int),st=⟨[(1,.d (.arr 8 ((o).map C7.d))),(2,rf 0 13),(4,rf 1 13),(5,dZ),(6,dI 0),(11,rf 2 13),(12,.row 3 1 0 (lv).length),(13,dI x4)],[bx 13 (.d (D4.d t)),bx 13 (.d zC),bx 13 (.d (H2.d a)),B0u lv]⟩∧C8e F t o K3 m a lv x4=some r) ⟨rv3,([]:List Int),0,R,h⟩ (.vq [0,1,7,8]) ?_;rintro K3 hK3 m3 _ ⟨a,lv,x4,rfl,h⟩;rw[C8e]at h;refine B8 (gU 2 R (I7 tb R ?_));refine Q4 R R R R (tJ h ?_) (lJ h ?_)
   ·intro h;refine Y9 (zT (B8 (E3 (B8 (T1 kR (rU 4 R ?_))))));obtain⟨e2,ie2,h⟩:=H1 h;refine yE ie2 R R ?_;obtain⟨rv4,k4,h⟩:=H1 h;refine J5 (D3l k4) eK R R R R (rU 6 R (I0 kR (B8 ?_)));refine W5 (fun zz:H2=>C9q F (C8e F t o K3 m3) lv x4 rv4 zz=some r) (fun zz:H2=>⟨[(1,.d (.arr 8 ((o).map C7.d))),(2,rf 0 13),(4,rf 1 13),(5,dZ),(6,dI 0),(11,rf 2 13),(12,.row 3 1 0 (lv).length),(13,dI x4),(15,dI rv4.2)],[bx 13 (.d (D4.d t)),bx 13 (.d zC),bx 13 (.d (H2.d zz)),B0u lv]⟩) ?_ ?_
    ·clear h;rintro a2 h;rw[C9q]at h;refine hU 2 R (P7 tb R R R R R R R R R R R R R ?_);obtain⟨q,iq,h⟩:=H1 h;refine B2k (g:=vI) (w:=lv) (v:=[rv4.2]) ([bx 13 (.d (D4.d t)),bx 13 (.d zC),bx 13 (.d (H2.d a2)),none,B0u [rv4.2]]) tb R R R R R R R R R R R iq R R R R R (eU 1 R (hN 3 R ?_));exact bk ⟨a2,q,(W (x4+1)),R,h⟩ (.vq [0,1,2,5])
    refine gU 1 R ?_;refine Z3 R R R R (tJ h ?_) (nJ h ?_)
    ·intro h;refine Y9 (C0 R (hN 2 R ?_));exact .inl ⟨rv4.1,h,.vq [0,1,2,3]⟩
    intro h;refine Y9 (zF (A6 ?_));exact .inl ⟨a,h,.vq [0,1,2,3]⟩
   intro h;refine Y9 (yX ?_);subst hK3;refine rY 5 R ?_;cases h;exact(U0 (t := .tup [.d (H2.d a),.row 0 1 0 (lv).length,dI 0]) (L:=[B0u lv]) (κ:=[3]) R (qC R (tC 5 (tC 6 .nil))) vv ⟨_,R,ld⟩)
  refine gY 1 R (E3 ?_);refine C3X (fun K4 m st=>∃ (x2:Int) (x3:Int),st=⟨[(1,.d (.arr 8 ((o).map C7.d))),(2,rf 0 13),(4,rf 1 13),(5,dZ),(6,dI 0),(9,dI x2),(10,dI x3)],[bx 13 (.d (D4.d t)),bx 13 (.d zC)]⟩∧C8f F t o K4 m x2 x3=some r) ⟨x,0,R,h⟩ (.prn [1,2,4,5,6,9,10] R) ?_;rintro K4 hK4 m4 _ ⟨x2,x3,rfl,h⟩;rw[C8f]at h;refine B8 (gU 2 R (I7 tb R ?_));refine Q4 R R R R (tJ h ?_) (lJ h ?_)
  ·intro h;refine rU 2 R ?_;refine Z3 R R R R (tJ h ?_) (nJ h ?_)
   ·intro h;refine eU 1 R (zT (B8 (E3 (T1 kR (rU 3 R ?_)))));obtain⟨e,ie,h⟩:=H1 h;refine yE ie R R ?_;obtain⟨rv2,k2,h⟩:=H1 h;refine J5 (D2k k2) eK R R R R (rU 1 R (I0 kR (hN 3 R ?_)));exact bk ⟨rv2,(W (x3+1)),R,h⟩ (.prn [1,2,4,5,6,9,10] R)
   intro h;refine eU 1 R (yX ?_);subst hK4;refine I5 (A6 ?_);exact .inl ⟨x2,h,.prn [1,2,4,5,6,9] R⟩
  intro h;refine eU 4 R (yX ?_);subst hK4;refine I5 (A6 ?_);exact .inl ⟨x2,h,.prn [1,2,4,5,6,9] R⟩
 refine gU 1 R ?_;refine Z3 R R R R (tJ h ?_) (nJ h ?_)
 ·intro h;refine rU 2 R (I7 tb R ?_);refine A4l R R R R (tJ h ?_) (lJ h ?_)
  ·intro h;refine eU 1 R (C0 R (hN 1 R ?_));exact .inl ⟨3,h,.prn [1,2,4,5,6,9] R⟩
  intro h;refine eU 1 R (zF (A6 ?_));exact .inl ⟨rv.2.2,h,.prn [1,2,4,5,6,9] R⟩
 intro h;refine eU 5 R (zF (A6 ?_));exact .inl ⟨rv.2.2,h,.prn [1,2,4,5,6,9] R⟩
def D1M (F:Nat) (B6:(List Int)→Int→Option (List Int)) (lv:(List Int)) (x x5:Int):Option (List Int):=(A8i lv [x5]).bind fun q=>B6 q (W (x+1))
def D0B (F:Nat) (B6:(List Int)→Int→Option (List Int)) (o:H2) (lv:(List Int)) (x x4:Int):Option (List Int):=(P3 o.ended x).bind fun e6=>if e6=(-1)then(D1M F B6 lv x x4)else(D1M F B6 lv x e6)
def D1N (F:Nat) (t:D4) (lv:(List Int)) (x:Int) (K:Int→Int→Option (List Int)):Nat→Int→Int→Option (List Int)
 | 0,_,_=>none
 | n+1,x2,x3=>(P3 t.steps x).bind fun e=>if x3<(e.need.length:Int)then((P3 e.need x3).bind fun e2=>(P3 lv e2).bind fun e3=>D1N F t lv x K n (max x2 e3) (W (x3+1)))else(K x2 x3)
def C7I (F:Nat) (t:D4) (o:H2) (a:Int) (K:(List Int)→Int→Option (List Int)):Nat→(List Int)→Int→Option (List Int)
 | 0,_,_=>none
 | n+1,lv,x=>if x<(t.steps.length:Int)then(D1N F t lv x (fun x2 x3=>(P3 t.steps x).bind fun e4=>(P3 o.begun x).bind fun e5=>if e5=(-1)then(D0B F (C7I F t o a K n) o lv x (W (x2+e4.least)))else(D0B F (C7I F t o a K n) o lv x (max a (W (e5+e4.least))))) F a 0)else(K lv x)
def D2W (F:Nat) (t:D4) (o:H2) (a:Int):Option (List Int):=C7I F t o a (fun lv x=>some lv) F ([]:List Int) 0
theorem D3B {F t o a r} (h:D2W F t o a=some r):SCR pg 93 (ao T.d [D4.d t,H2.d o,vI a]) [] (.row 0 1 0 (r).length) (ao some [(B7 r)]):=by
 rw[D2W]at h;refine oW Tryz.func93 ?_;refine gY 3 R (gY 1 R (B8 (gY 1 R (E3 (SW.ow 1 true 7 [] [2,3,4,6,7,8] R ?_)))));refine C3X (fun K6 m st=>∃ (lv:(List Int)) (x:Int),st=⟨[(2,dI a),(3,rf 0 13),(4,rf 1 13),(6,dZ),(7,.row 2 1 0 (lv).length),(8,dI x)],[bx 13 (.d (D4.d t)),bx 13 (.d (H2.d o)),B0u lv]⟩∧C7I F t o a K6 m lv x=some r) ⟨([]:List Int),0,R,h⟩ (.prn [2,3,4,6,7,8] R) ?_;rintro K6 hK6 m6 _ ⟨lv,x,rfl,h⟩;rw[C7I]at h;refine B8 (gU 3 R (I7 tb R ?_));refine Q4 R R R R (tJ h ?_) (lJ h ?_)
 ·intro h;refine Y9 (zT (B8 (E3 (gY 2 R (B8 (gY 1 R (E3 ?_)))))));refine C3X (fun K10 m st=>∃ (x2:Int) (x3:Int),st=⟨[(2,dI a),(3,rf 0 13),(4,rf 1 13),(6,dZ),(7,.row 2 1 0 (lv).length),(8,dI x),(9,dI x2),(10,dI x3)],[bx 13 (.d (D4.d t)),bx 13 (.d (H2.d o)),B0u lv]⟩∧D1N F t lv x K10 m x2 x3=some r) ⟨a,0,R,h⟩ (.prn [2,3,4,6,7,8,9,10] R) ?_;rintro K10 hK10 m10 _ ⟨x2,x3,rfl,h⟩;rw[D1N]at h;refine B8 (gU 4 R ?_);obtain⟨e,ie,h⟩:=H1 h;refine xE ie R (rU 1 R (lE ie R (I7 tb R ?_)));refine Q4 R R R R (tJ h ?_) (lJ h ?_)
  ·intro h;refine Y9 (zT (B8 (E3 (hU 5 R (xE ie R (rU 1 R (lE ie R (rU 1 R ?_))))))));obtain⟨e2,ie2,h⟩:=H1 h;refine yE ie2 R R ?_;obtain⟨e3,ie3,h⟩:=H1 h;refine Y1 tb R R R R R R (F0 ie3) (ix1 ie3) R R ?_;refine A15 (y:=vI e3) tb R R R R (U5 (g:=fun a=>T.d (vI a)) ie3) R R R R ?_;refine B3f R R R R (eU 1 R (hN 3 R ?_));exact bk ⟨(max x2 e3),(W (x3+1)),R,h⟩ (.prn [2,3,4,6,7,8,9,10] R)
  intro h;refine Y9 (yX ?_);subst hK10;refine gU 4 R ?_;obtain⟨e4,ie4,h⟩:=H1 h;refine xE ie4 R (rU 1 R (lE ie4 R (eU 2 R (B8 ?_))));refine W5 (fun zz:Int=>D0B F (C7I F t o a K6 m6) o lv x zz=some r) (fun zz:Int=>⟨[(2,dI a),(3,rf 0 13),(4,rf 1 13),(6,dZ),(7,.row 2 1 0 (lv).length),(8,dI x),(9,dI zz)],[bx 13 (.d (D4.d t)),bx 13 (.d (H2.d o)),B0u lv]⟩) ?_ ?_
  ·clear h;rintro x4 h;rw[D0B]at h;refine B8 ?_;refine W5 (fun zz:Int=>D1M F (C7I F t o a K6 m6) lv x zz=some r) (fun zz:Int=>⟨[(2,dI a),(3,rf 0 13),(4,rf 1 13),(6,dZ),(7,.row 2 1 0 (lv).length),(8,dI x),(9,dI zz)],[bx 13 (.d (D4.d t)),bx 13 (.d (H2.d o)),B0u lv]⟩) ?_ ?_
   ·clear h;rintro x5 h;rw[D1M]at h;refine hU 2 R (P7 tb R R R R R R R R R R R R R ?_);obtain⟨q,iq,h⟩:=H1 h;refine B2k (g:=vI) (w:=lv) (v:=[x5]) ([bx 13 (.d (D4.d t)),bx 13 (.d (H2.d o)),none,B0u [x5]]) tb R R R R R R R R R R R iq R R R R R (eU 1 R (hN 3 R ?_));exact bk ⟨q,(W (x+1)),R,h⟩ (.vq [0,1,4])
   refine gU 3 R ?_;obtain⟨e6,ie6,h⟩:=H1 h;refine yE ie6 R R ?_;refine V5 R R R R (nJ h ?_) (tJ h ?_)
   ·intro h;refine Y9 (C0 R (hU 3 R (yE ie6 R R (nU 1 R ?_))));exact .inl ⟨e6,h,.prn [2,3,4,6,7,8,9] R⟩
   intro h;refine Y9 (zF (A6 ?_));exact .inl ⟨x4,h,.prn [2,3,4,6,7,8,9] R⟩
  refine gU 3 R ?_;obtain⟨e5,ie5,h⟩:=H1 h;refine yE ie5 R R ?_;refine V5 R R R R (nJ h ?_) (tJ h ?_)
  ·intro h;refine Y9 (C0 R (T1 kR (rU 4 R (yE ie5 R R (rU 3 R (xE ie4 R (rU 1 R (lE ie4 R (rU 1 R (B3f R R R R (rU 1 R (I0 kR (A6 ?_)))))))))))));exact .inl ⟨(max a (W (e5+e4.least))),h,.prn [2,3,4,6,7,8,9] R⟩
  intro h;refine Y9 (zF (A6 ?_));exact .inl ⟨(W (x2+e4.least)),h,.prn [2,3,4,6,7,8,9] R⟩
 intro h;refine Y9 (yX ?_);subst hK6;refine rY 2 R ?_;cases h;exact f2 [2] C23 R (tC 6 .nil) R
theorem D4T {F t o a r} (h:D2W F t o a=some r):PC pg 93 [D4.d t,H2.d o,vI a] (aI r):=(D3B h).toPC (.row rfl rfl)
def D1Q (F:Nat) (B6:(List Bool)→Int→Int→Option (List Bool)) (p:D4) (out2:(List Bool)) (i2 k:Int):Option (List Bool):=(P3 p.steps i2).bind fun e4=>(P3 e4.need k).bind fun e5=>(P3 out2 e5).bind fun e6=>(A5g out2 e5 true).bind fun out3=>B6 out3 i2 (W (k+1))
def C7j (F:Nat) (p:D4) (K:(List Bool)→Int→Int→Option (List Bool)):Nat→(List Bool)→Int→Int→Option (List Bool)
 | 0,_,_,_=>none
 | n+1,out2,i2,k=>(P3 p.steps i2).bind fun e2=>if k<(e2.need.length:Int)then((P3 out2 i2).bind fun e3=>if e3=true then(D1Q F (C7j F p K n) p out2 i2 k)else(K out2 i2 k))else(K out2 i2 k)
def C7n (F:Nat) (p:D4) (K:(List Bool)→Int→Option (List Bool)):Nat→(List Bool)→Int→Option (List Bool)
 | 0,_,_=>none
 | n+1,out,i=>if 0≤i then(C7j F p (fun out2 i2 k=>C7n F p K n out2 (W (i2-1))) F out i 0)else(K out i)
def D2o (F:Nat) (p:D4):Option (List Bool):=(B1D (p.steps.length:Int)).bind fun q=>(P3 (ak q false) (W (((ak q false).length:Int)-1))).bind fun e=>(A5g (ak q false) (W (((ak q false).length:Int)-1)) true).bind fun q2=>C7n F p (fun out i=>some out) F q2 (W ((q2.length:Int)-1))
theorem D2Y {F p r} (h:D2o F p=some r):SCR pg 94 (ao T.d [D4.d p]) [] (.row 0 1 0 (r).length) (ao some [(H7 r)]):=by
 rw[D2o]at h;refine oW Tryz.func94 ?_;refine gY 2 R (gU 2 R (I7 tb R ?_));obtain⟨q,iq,h⟩:=H1 h;refine B00 (v:=false) (g:=vB) tb R R R R R R R ((A6i iq).1) ((A6i iq).2) R R R R (eU 1 R (gU 2 R (A8F tb R R R R R (rU 1 R ?_))));obtain⟨e,ie,h⟩:=H1 h;refine Y1 tb R R R R R R (F0 ie) (ix1 ie) R R ?_;obtain⟨q2,iq2,h⟩:=H1 h;refine A5d (a':=(true:Bool)) tb R R R R ie R R R R iq2 R R ?_;try dsimp only[au,av,J2,C6,A0h,C5,B4I,C5F,C5G,C4z,C7k]
 first | rw[A2a iq2] | skip
 refine Y9 (B8 (gU 1 R (A8F tb R R R R R (eU 2 R (E3 ?_)))));refine C3X (fun K4 m st=>∃ (out:(List Bool)) (i:Int),st=⟨[(1,rf 0 13),(2,dZ),(3,.row 1 1 0 (out).length),(4,dI i)],[bx 13 (.d (D4.d p)),B9r out]⟩∧C7n F p K4 m out i=some r) ⟨q2,(W ((q2.length:Int)-1)),R,h⟩ (.prn [1,2,3,4] R) ?_;rintro K4 hK4 m4 _ ⟨out,i,rfl,h⟩;rw[C7n]at h;refine B8 (gU 1 R ?_);refine A7I R R R R (tJ h ?_) (mJ h ?_)
 ·intro h;refine Y9 (zT (B8 (E3 (gY 1 R (E3 ?_)))));refine C3X (fun K6 m st=>∃ (out2:(List Bool)) (i2:Int) (k:Int),st=⟨[(1,rf 0 13),(2,dZ),(3,.row 1 1 0 (out2).length),(4,dI i2),(5,dI k)],[bx 13 (.d (D4.d p)),B9r out2]⟩∧C7j F p K6 m out2 i2 k=some r) ⟨out,i,0,R,h⟩ (.prn [1,2,3,4,5] R) ?_;rintro K6 hK6 m6 _ ⟨out2,i2,k,rfl,h⟩;rw[C7j]at h;refine B8 ?_;refine W5 (fun zz:Unit=>D1Q F (C7j F p K6 m6) p out2 i2 k=some r) (fun zz:Unit=>⟨[(1,rf 0 13),(2,dZ),(3,.row 1 1 0 (out2).length),(4,dI i2),(5,dI k)],[bx 13 (.d (D4.d p)),B9r out2]⟩) ?_ ?_
  ·clear h;rintro⟨⟩ h;rw[D1Q]at h;refine B8 (E3 (hU 4 R ?_));obtain⟨e4,ie4,h⟩:=H1 h;refine xE ie4 R (rU 1 R (lE ie4 R (rU 1 R ?_)));obtain⟨e5,ie5,h⟩:=H1 h;refine yE ie5 R R ?_;obtain⟨e6,ie6,h⟩:=H1 h;refine Y1 tb R R R R R R (F0 ie6) (ix1 ie6) R R ?_;obtain⟨out3,iout3,h⟩:=H1 h;refine A5d (a':=(true:Bool)) tb R R R R ie6 R R R R iout3 R R ?_;try dsimp only[au,av,J2,C6,A0h,C5,B4I,C5F,C5G,C4z,C7k]
   first | rw[A2a iout3] | skip
   refine Y9 (hN 3 R ?_);exact bk ⟨out3,i2,(W (k+1)),R,h⟩ (.prn [1,2,3,4,5] R)
  refine gU 4 R ?_;obtain⟨e2,ie2,h⟩:=H1 h;refine xE ie2 R (rU 1 R (lE ie2 R (I7 tb R ?_)));refine Q4 R R R R (tJ h ?_) (lJ h ?_)
  ·intro h;refine rU 3 R ?_;obtain⟨e3,ie3,h⟩:=H1 h;refine Y1 tb R R R R R R (F0 ie3) (ix1 ie3) R R ?_;refine A15 (y:=vB e3) tb R R R R (U5 (g:=fun a=>T.d (vB a)) ie3) R R R R ?_;refine X8 (tI h ?_) (fI h ?_)
   ·intro c3 h;refine eU 1 R (zT (A6 ?_));exact .inl ⟨(),h,.prn [1,2,3,4,5] R⟩
   intro c3 h;refine eU 1 R (yX ?_);subst hK6;refine hN 3 R ?_;exact bk ⟨out2,(W (i2-1)),R,h⟩ (.prn [1,2,3,4] R)
  intro h;refine eU 6 R (yX ?_);subst hK6;refine hN 3 R ?_;exact bk ⟨out2,(W (i2-1)),R,h⟩ (.prn [1,2,3,4] R)
 intro h;refine Y9 (yX ?_);subst hK4;refine rY 2 R ?_;cases h;exact f2 [1] C23 R (tC 2 .nil) R
theorem D4L {F p r} (h:D2o F p=some r):PC pg 94 [D4.d p] (.arr 1 ((r).map vB)):=(D2Y h).toPC (.row rfl rfl)
def C8F (F:Nat) (B3:Int→Option (Int × Bool)) (x:Int):Option (Int × Bool):=B3 (W (x+1))
def C90 (F:Nat) (B3:Int→Option (Int × Bool)) (t:D4) (o:H2) (rv2:(List Bool)) (x x2:Int):Option (Int × Bool):=(P3 rv2 x).bind fun e2=>if e2=true then((P3 o.begun x).bind fun e3=>if e3=(-1)then(C8F F B3 x)else((P3 o.ended x).bind fun e4=>if e4=(-1)then((P3 t.steps x).bind fun e5=>if(W (e3+e5.most))<x2 then(some (0,false))else(C8F F B3 x))else(C8F F B3 x)))else(C8F F B3 x)
def C5J (F:Nat) (t:D4) (o:H2) (a:Int) (rv:(List Int)) (e:Int) (rv2:(List Bool)) (K:Int→Option (Int × Bool)):Nat→Int→Option (Int × Bool)
 | 0,_=>none
 | n+1,x=>if x≤(W ((rv.length:Int)-1))then(if x=(W ((rv.length:Int)-1))then(C90 F (C5J F t o a rv e rv2 K n) t o rv2 x (max e t.Q8))else(C90 F (C5J F t o a rv e rv2 K n) t o rv2 x a))else(K x)
def D0A (F:Nat) (t:D4) (o:H2) (a:Int):Option (Int × Bool):=(D2W F t o a).bind fun rv=>(P3 rv (W ((rv.length:Int)-1))).bind fun e=>(D2o F t).bind fun rv2=>C5J F t o a rv e rv2 (fun x=>some ((max e t.Q8),(decide ((max e t.Q8)≤t.O8)))) F 0
theorem D2U {F t o a r} (h:D0A F t o a=some r):PC pg 56 [D4.d t,H2.d o,vI a] (.tup [vI r.1,vB r.2]):=by
 rw[D0A]at h;refine oW Tryz.func56 ?_;refine gY 4 R (gU 3 R ?_);obtain⟨rv,k,h⟩:=H1 h;refine A2X (D3B k) eK R R R ((.row .nil)) R R R (eU 1 R (gU 1 R (A8F tb R R R R R (eU 2 R (B8 (T1 kR (rU 2 R ?_)))))));obtain⟨e,ie,h⟩:=H1 h;refine Y1 tb R R R R R R (F0 ie) (ix1 ie) R R ?_;refine A15 (y:=vI e) tb R R R R (U5 (g:=fun a=>T.d (vI a)) ie) R R R R ?_;refine rU 3 R (B3f R R R R (rU 1 R (I0 kR (gU 1 R ?_))));obtain⟨rv2,k2,h⟩:=H1 h;refine A2X (D2Y k2) eK R R R ((.row .nil)) R R R (eU 1 R (B8 (gY 1 R (E3 ?_))));refine C3X (fun K3 m st=>∃ (x:Int),st=⟨[(2,dI a),(3,rf 0 13),(4,rf 1 13),(6,dI 0),(7,dB false),(9,dI (W ((rv.length:Int)-1))),(10,dI (max e t.Q8)),(11,.row 2 1 0 (rv2).length),(12,dI x)],[bx 13 (.d (D4.d t)),bx 13 (.d (H2.d o)),B9r rv2]⟩∧C5J F t o a rv e rv2 K3 m x=some r) ⟨0,R,h⟩ (.vq [0,1,3]) ?_;rintro K3 hK3 m3 _ ⟨x,rfl,h⟩;rw[C5J]at h;refine B8 (gU 2 R ?_);refine B1t R R R R (tJ h ?_) (mJ h ?_)
 ·intro h;refine Y9 (zT (B8 (E3 (gY 2 R (B8 ?_)))));refine W5 (fun zz:Int=>C90 F (C5J F t o a rv e rv2 K3 m3) t o rv2 x zz=some r) (fun zz:Int=>⟨[(2,dI a),(3,rf 0 13),(4,rf 1 13),(6,dI 0),(7,dB false),(9,dI (W ((rv.length:Int)-1))),(10,dI (max e t.Q8)),(11,.row 2 1 0 (rv2).length),(12,dI x),(13,dI zz)],[bx 13 (.d (D4.d t)),bx 13 (.d (H2.d o)),B9r rv2]⟩) ?_ ?_
  ·clear h;rintro x2 h;rw[C90]at h;refine B8 ?_;refine W5 (fun zz:Unit=>C8F F (C5J F t o a rv e rv2 K3 m3) x=some r) (fun zz:Unit=>⟨[(2,dI a),(3,rf 0 13),(4,rf 1 13),(6,dI 0),(7,dB false),(9,dI (W ((rv.length:Int)-1))),(10,dI (max e t.Q8)),(11,.row 2 1 0 (rv2).length),(12,dI x),(76,dB false)],[bx 13 (.d (D4.d t)),bx 13 (.d (H2.d o)),B9r rv2]⟩) ?_ ?_
   ·clear h;rintro⟨⟩ h;rw[C8F]at h;refine zF (hN 3 R ?_);exact bk ⟨(W (x+1)),R,h⟩ (.prn [2,3,4,6,7,9,10,11,12] R)
   refine T1 kR (rU 2 R ?_);obtain⟨e2,ie2,h⟩:=H1 h;refine Y1 tb R R R R R R (F0 ie2) (ix1 ie2) R R ?_;refine A15 (y:=vB e2) tb R R R R (U5 (g:=fun a=>T.d (vB a)) ie2) R R R R ?_;refine X8 (tI h ?_) (fI h ?_)
   ·intro c3 h;refine rU 4 R ?_;obtain⟨e3,ie3,h⟩:=H1 h;refine yE ie3 R R ?_;refine V5 R R R R (nJ h ?_) (tJ h ?_)
    ·intro h;refine rU 5 R ?_;obtain⟨e4,ie4,h⟩:=H1 h;refine yE ie4 R R ?_;refine Z3 R R R R (tJ h ?_) (nJ h ?_)
     ·intro h;refine rU 5 R (yE ie3 R R (rU 3 R ?_));obtain⟨e5,ie5,h⟩:=H1 h;refine xE ie5 R (rU 1 R (lE ie5 R (rU 2 R ?_)));refine Q4 R R R R (tJ h ?_) (lJ h ?_)
      ·intro h;refine rU 1 R (I0 kR (A6 (.inr (cY 2 R ?_))));cases h;exact f0 R R R (tC 6 (tC 7 .nil))
      intro h;refine rU 1 R (I0 kR (A6 ?_));exact .inl ⟨(),h,.prn [2,3,4,6,7,9,10,11,12,76] R⟩
     intro h;refine rU 17 R (I0 kR (A6 ?_));exact .inl ⟨(),h,.prn [2,3,4,6,7,9,10,11,12,76] R⟩
    intro h;refine rU 25 R (I0 kR (A6 ?_));exact .inl ⟨(),h,.prn [2,3,4,6,7,9,10,11,12,76] R⟩
   intro c3 h;refine rU 32 R (I0 kR (A6 ?_));exact .inl ⟨(),h,.prn [2,3,4,6,7,9,10,11,12,76] R⟩
  refine gU 2 R ?_;refine Z3 R R R R (tJ h ?_) (nJ h ?_)
  ·intro h;refine Y9 (C0 R (hN 2 R ?_));exact .inl ⟨(max e t.Q8),h,.prn [2,3,4,6,7,9,10,11,12,13] R⟩
  intro h;refine Y9 (zF (A6 ?_));exact .inl ⟨a,h,.prn [2,3,4,6,7,9,10,11,12,13] R⟩
 intro h;refine Y9 (yX ?_);subst hK3;refine B8 (T1 kR (rU 5 R (B8a R R R R (rU 2 R (I0 kR (C9 ?_))))));cases h;exact f0 R R R (tC 6 (tC 7 .nil))
def C80 (F:Nat) (p:D4) (tick:Int) (rv:(H2 × (List Int) × Int)) (e2:Int):Option (Int × Int):=if e2=0 then((D0A F p rv.1 tick).bind fun rv4=>if rv4.2=true then(some (rv4.1,0))else(some (0,9)))else(some (0,e2))
def C8n (F:Nat) (p:D4) (tick:Int) (rv:(H2 × (List Int) × Int)) (e:Int):Option (Int × Int):=if e=0 then((C8N F tick rv.1.now 100000).bind fun rv3=>if rv3=true then(C80 F p tick rv e)else(C80 F p tick rv 7))else(C80 F p tick rv e)
def D1O (F:Nat) (p:D4) (log:(List C7)) (tick:Int):Option (Int × Int):=(D03 F p log).bind fun rv=>if rv.2.2=0 then((C9f F rv.1).bind fun rv2=>if rv2=true then(C8n F p tick rv 9)else(C8n F p tick rv rv.2.2))else(C8n F p tick rv rv.2.2)
theorem D3Z {F p log tick r} (h:D1O F p log tick=some r):PC pg 24 [D4.d p,.arr 8 ((log).map C7.d),vI tick] (.tup [vI r.1,vI r.2]):=by
 rw[D1O]at h;refine oW Tryz.func24 ?_;refine gY 3 R (gU 2 R ?_);obtain⟨rv,k,h⟩:=H1 h;refine J5 (D2y k) eK R R R R (eU 8 R (B8 ?_));refine W5 (fun zz:Int=>C8n F p tick rv zz=some r) (fun zz:Int=>⟨[(2,dI tick),(3,rf 0 13),(6,dI 0),(7,dI 0),(8,rf 1 13),(10,dI zz)],[bx 13 (.d (D4.d p)),bx 13 (.d (H2.d rv.1))]⟩) ?_ ?_
 ·clear h;rintro e h;rw[C8n]at h;refine B8 ?_;refine W5 (fun zz:Int=>C80 F p tick rv zz=some r) (fun zz:Int=>⟨[(2,dI tick),(3,rf 0 13),(6,dI 0),(7,dI 0),(8,rf 1 13),(10,dI zz)],[bx 13 (.d (D4.d p)),bx 13 (.d (H2.d rv.1))]⟩) ?_ ?_
  ·clear h;rintro e2 h;rw[C80]at h;refine B8 (gU 1 R ?_);refine V5 R R R R (nJ h ?_) (tJ h ?_)
   ·intro h;refine Y9 (cY 3 R ?_);cases h;exact f0 R R R (tC 6 (tC 7 .nil))
   intro h;refine Y9 (zF (gU 3 R ?_));obtain⟨rv4,k4,h⟩:=H1 h;refine J5 (D2U k4) eK R R R R (rU 3 R ?_);refine X8 (tI h ?_) (fI h ?_)
   ·intro c6 h;refine eU 2 R (B8 (gY 2 R (zF (rY 3 R ?_))));cases h;exact f0 R R R (tC 6 (tC 7 .nil))
   intro c6 h;refine eU 2 R (B8 (gY 2 R (cY 2 R ?_)));cases h;exact f0 R R R (tC 6 (tC 7 .nil))
  refine gU 1 R ?_;refine Z3 R R R R (tJ h ?_) (nJ h ?_)
  ·intro h;refine rU 4 R ?_;obtain⟨rv3,k3,h⟩:=H1 h;refine M6 (C7z k3) eK R R R R (tI h ?_) (fI h ?_)
   ·intro c4 h;refine eU 2 R (zF (A6 ?_));exact .inl ⟨e,h,.prn [2,3,6,7,8,10] R⟩
   intro c4 h;refine eU 2 R (C0 R (hN 1 R ?_));exact .inl ⟨7,h,.prn [2,3,6,7,8,10] R⟩
  intro h;refine eU 7 R (zF (A6 ?_));exact .inl ⟨e,h,.prn [2,3,6,7,8,10] R⟩
 refine gU 1 R ?_;refine Z3 R R R R (tJ h ?_) (nJ h ?_)
 ·intro h;refine rU 2 R ?_;obtain⟨rv2,k2,h⟩:=H1 h;refine M6 (D1q k2) eK R R R R (tI h ?_) (fI h ?_)
  ·intro c2 h;refine eU 1 R (C0 R (hN 1 R ?_));exact .inl ⟨9,h,.prn [2,3,6,7,8,10] R⟩
  intro c2 h;refine eU 1 R (zF (A6 ?_));exact .inl ⟨rv.2.2,h,.prn [2,3,6,7,8,10] R⟩
 intro h;refine eU 4 R (zF (A6 ?_));exact .inl ⟨rv.2.2,h,.prn [2,3,6,7,8,10] R⟩
def C8H (F:Nat) (p:D4) (rv:(H2 × (List Int) × Int)) (K:Int→Int→Option (Int × Int)):Nat→Int→Int→Option (Int × Int)
 | 0,_,_=>none
 | n+1,low,high=>if 1<(W (high-low))then((D0A F p rv.1 (W (cz (W (low+high)) 2))).bind fun rv3=>if rv3.2=true then(C8H F p rv K n (W (cz (W (low+high)) 2)) high)else(C8H F p rv K n low (W (cz (W (low+high)) 2))))else(K low high)
def C92 (F:Nat) (p:D4) (rv:(H2 × (List Int) × Int)) (e:Int):Option (Int × Int):=if e=0 then(C8H F p rv (fun low high=>if low<rv.1.now then(some ((-1),0))else(some (low,0))) F (W (rv.1.now-1)) 100001)else(some (0,e))
def D2V (F:Nat) (p:D4) (log:(List C7)):Option (Int × Int):=(D03 F p log).bind fun rv=>if rv.2.2=0 then((C9f F rv.1).bind fun rv2=>if rv2=true then(C92 F p rv 9)else(C92 F p rv rv.2.2))else(C92 F p rv rv.2.2)
theorem D4x {F p log r} (h:D2V F p log=some r):PC pg 26 [D4.d p,.arr 8 ((log).map C7.d)] (.tup [vI r.1,vI r.2]):=by
 rw[D2V]at h;refine oW Tryz.func26 ?_;refine gY 3 R (gU 2 R ?_);obtain⟨rv,k,h⟩:=H1 h;refine J5 (D2y k) eK R R R R (eU 8 R (B8 ?_));refine W5 (fun zz:Int=>C92 F p rv zz=some r) (fun zz:Int=>⟨[(2,rf 0 13),(4,dI 0),(5,dI 0),(6,rf 1 13),(8,dI zz)],[bx 13 (.d (D4.d p)),bx 13 (.d (H2.d rv.1))]⟩) ?_ ?_
 ·clear h;rintro e h;rw[C92]at h;refine B8 (gU 1 R ?_);refine V5 R R R R (nJ h ?_) (tJ h ?_)
  ·intro h;refine Y9 (cY 3 R ?_);cases h;exact f0 R R R (tC 4 (tC 5 .nil))
  intro h;refine Y9 (zF (gY 5 R (B8 (E3 ?_))));refine C3X (fun K4 m st=>∃ (low:Int) (high:Int),st=⟨[(2,rf 0 13),(4,dI 0),(5,dI 0),(6,rf 1 13),(9,dI low),(10,dI high)],[bx 13 (.d (D4.d p)),bx 13 (.d (H2.d rv.1))]⟩∧C8H F p rv K4 m low high=some r) ⟨(W (rv.1.now-1)),100001,R,h⟩ (.prn [2,4,5,6,9,10] R) ?_;rintro K4 hK4 m4 _ ⟨low,high,rfl,h⟩;rw[C8H]at h;refine B8 (gU 3 R ?_);refine A4l R R R R (tJ h ?_) (lJ h ?_)
  ·intro h;refine Y9 (zT (E3 (gU 3 R (C0J R R dM R R (eU 1 R (gU 3 R ?_))))));obtain⟨rv3,k3,h⟩:=H1 h;refine J5 (D2U k3) eK R R R R (rU 3 R ?_);refine X8 (tI h ?_) (fI h ?_)
   ·intro c5 h;refine eU 2 R (gY 1 R (C0 R (hE 2 R (D3 (A6 ?_)))));exact bk ⟨(W (cz (W (low+high)) 2)),high,R,h⟩ (.prn [2,4,5,6,9,10] R)
   intro c5 h;refine eU 2 R (gY 1 R (C1 R (hE 2 R (D3 (A6 ?_)))));exact bk ⟨low,(W (cz (W (low+high)) 2)),R,h⟩ (.prn [2,4,5,6,9,10] R)
  intro h;refine Y9 (yX ?_);subst hK4;refine B8 (gU 3 R ?_);refine Q4 R R R R (tJ h ?_) (lJ h ?_)
  ·intro h;refine Y9 (cY 2 R ?_);cases h;exact f0 R R R (tC 4 (tC 5 .nil))
  intro h;refine Y9 (zF (rY 3 R ?_));cases h;exact f0 R R R (tC 4 (tC 5 .nil))
 refine gU 1 R ?_;refine Z3 R R R R (tJ h ?_) (nJ h ?_)
 ·intro h;refine rU 2 R ?_;obtain⟨rv2,k2,h⟩:=H1 h;refine M6 (D1q k2) eK R R R R (tI h ?_) (fI h ?_)
  ·intro c2 h;refine eU 1 R (C0 R (hN 1 R ?_));exact .inl ⟨9,h,.prn [2,4,5,6,8] R⟩
  intro c2 h;refine eU 1 R (zF (A6 ?_));exact .inl ⟨rv.2.2,h,.prn [2,4,5,6,8] R⟩
 intro h;refine eU 4 R (zF (A6 ?_));exact .inl ⟨rv.2.2,h,.prn [2,4,5,6,8] R⟩
end Go.Proofs.YtlaogbbcipebgaaGreat
