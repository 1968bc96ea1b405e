/- What functions of the program compute: plain functions, and the proofs. -/
import Derived.Test.YtlaogbbcipebgaaGreatW0
set_option linter.unusedVariables false
set_option linter.unusedSimpArgs false
open List renaming map→ao,set_cons_zero→au,set_cons_succ→av,map_nil→bb,append_nil→aH
open Go Go.Proofs.YtlaogbbcipebgaaGreat.Sh Go.Proofs
namespace Go.Proofs.YtlaogbbcipebgaaGreat
open Go.Proofs.Tryz renaming prog → pg
set_option maxRecDepth 100000
set_option maxHeartbeats 40000000
def C7m (F:Nat) (nv low high:Int):Option Bool:=if low≤nv then(some (decide (nv≤high)))else(some false)
theorem C4C {F nv low high r} (h:C7m F nv low high=some r):PC pg 132 [vI nv,vI low,vI high] (vB r):=by
 rw[C7m]at h;refine oW Tryz.func132 ?_;refine gY 1 R (gU 2 R ?_);refine A7I R R R R (tJ h ?_) (mJ h ?_)
 ·intro h;refine rU 3 R (B8a R R R R (eU 2 R (C9 ?_)));cases h;exact f1 6 R
 intro h;refine eU 6 R (C9 ?_);cases h;exact f1 6 R
def C8r (F:Nat) (nv:Int):Option Bool:=(C7m F nv (-10000000) 10000000).bind fun rv=>some rv
theorem C9v {F nv r} (h:C8r F nv=some r):PC pg 190 [vI nv] (vB r):=by
 rw[C8r]at h;refine oW Tryz.func190 ?_;refine gY 1 R (gU 1 R ?_);obtain⟨rv,k,h⟩:=H1 h;refine J5 (C4C k) eK R R R R (eU 1 R (C9 ?_));cases h;exact f1 2 R
def C8J (F:Nat) (nv:Int):Option Bool:=(C7m F nv 0 9).bind fun rv=>some rv
theorem C9W {F nv r} (h:C8J F nv=some r):PC pg 189 [vI nv] (vB r):=by
 rw[C8J]at h;refine oW Tryz.func189 ?_;refine gY 1 R (gU 1 R ?_);obtain⟨rv,k,h⟩:=H1 h;refine J5 (C4C k) eK R R R R (eU 1 R (C9 ?_));cases h;exact f1 2 R
def D0k (F:Nat) (s:B4J):Option Bool:=(C8r F s.lo).bind fun rv=>if rv=true then((C8r F s.hi).bind fun rv2=>if rv2=true then(some (decide (s.lo≤s.hi)))else(some false))else(some false)
theorem D1k {F s r} (h:D0k F s=some r):PC pg 188 [B4J.d s] (vB r):=by
 rw[D0k]at h;refine oW Tryz.func188 ?_;refine gY 2 R (gU 2 R ?_);obtain⟨rv,k,h⟩:=H1 h;refine M6 (C9v k) eK R R R R (tI h ?_) (fI h ?_)
 ·intro c h;refine rU 3 R ?_;obtain⟨rv2,k2,h⟩:=H1 h;refine M6 (C9v k2) eK R R R R (tI h ?_) (fI h ?_)
  ·intro c2 h;refine rU 6 R (B8a R R R R (eU 2 R (C9 ?_)));cases h;exact f1 2 R
  intro c2 h;refine eU 9 R (C9 ?_);cases h;exact f1 2 R
 intro c h;refine eU 13 R (C9 ?_);cases h;exact f1 2 R
def C6D (F:Nat) (s:ByteArray) (K:Int→Option Bool):Nat→Int→Option Bool
 | 0,_=>none
 | n+1,i=>if i<(s.size:Int)then((ixB s i).bind fun b=>if 97≤b then(if b≤122 then(C6D F s K n (W (i+1)))else(if i=0 then(some false)else(if 48≤b then(if b≤57 then(C6D F s K n (W (i+1)))else(if b=45 then(C6D F s K n (W (i+1)))else(some false)))else(if b=45 then(C6D F s K n (W (i+1)))else(some false)))))else(if i=0 then(some false)else(if 48≤b then(if b≤57 then(C6D F s K n (W (i+1)))else(if b=45 then(C6D F s K n (W (i+1)))else(some false)))else(if b=45 then(C6D F s K n (W (i+1)))else(some false)))))else(K i)
def D0i (F:Nat) (s:ByteArray):Option Bool:=if(s.size:Int)<1 then(some false)else(if 24<(s.size:Int)then(some false)else(C6D F s (fun i=>some true) F 0))
theorem D1f {F s r} (h:D0i F s=some r):PC pg 140 [vS s] (vB r):=by
 rw[D0i]at h;refine oW Tryz.func140 ?_;refine gY 1 R (B8 (gU 1 R (B9Y R R R R ?_)));refine Q4 R R R R (tJ h ?_) (lJ h ?_)
 ·intro h;refine eU 5 R (cY 1 R ?_);cases h;exact f1 2 R
 intro h;refine rU 2 R (B9Y R R R R ?_);refine A4l R R R R (tJ h ?_) (lJ h ?_)
 ·intro h;refine eU 1 R (cY 1 R ?_);cases h;exact f1 2 R
 intro h;refine eU 1 R (zF (B8 (gY 1 R (E3 ?_))));refine C3X (fun K2 m st=>∃ (i:Int),st=⟨[(0,.d (vS s)),(2,dB false),(3,dI i)],[]⟩∧C6D F s K2 m i=some r) ⟨0,R,h⟩ (.prn [0,2,3] R) ?_;rintro K2 hK2 m2 _ ⟨i,rfl,h⟩;rw[C6D]at h;refine B8 (gU 2 R (B9Y R R R R ?_));refine Q4 R R R R (tJ h ?_) (lJ h ?_)
 ·intro h;refine Y9 (zT (B8 (E3 (gU 2 R ?_))));obtain⟨b,ib,h⟩:=H1 h;refine D4h R R R ib R R (eU 1 R (gU 1 R ?_));refine A7I R R R R (tJ h ?_) (mJ h ?_)
  ·intro h;refine rU 2 R ?_;refine B1t R R R R (tJ h ?_) (mJ h ?_)
   ·intro h;refine eU 2 R (gY 19 R (zF (hN 3 R ?_)));exact bk ⟨(W (i+1)),R,h⟩ (.prn [0,2,3] R)
   intro h;refine eU 2 R (gU 4 R ?_);refine Z3 R R R R (tJ h ?_) (nJ h ?_)
   ·intro h;refine eU 14 R (cY 1 R ?_);cases h;exact f1 2 R
   intro h;refine rU 2 R ?_;refine A7I R R R R (tJ h ?_) (mJ h ?_)
   ·intro h;refine rU 2 R ?_;refine B1t R R R R (tJ h ?_) (mJ h ?_)
    ·intro h;refine eU 8 R (zF (hN 3 R ?_));exact bk ⟨(W (i+1)),R,h⟩ (.prn [0,2,3] R)
    intro h;refine rU 3 R ?_;refine Z3 R R R R (tJ h ?_) (nJ h ?_)
    ·intro h;refine eU 4 R (zF (hN 3 R ?_));exact bk ⟨(W (i+1)),R,h⟩ (.prn [0,2,3] R)
    intro h;refine eU 4 R (cY 1 R ?_);cases h;exact f1 2 R
   intro h;refine rU 6 R ?_;refine Z3 R R R R (tJ h ?_) (nJ h ?_)
   ·intro h;refine eU 4 R (zF (hN 3 R ?_));exact bk ⟨(W (i+1)),R,h⟩ (.prn [0,2,3] R)
   intro h;refine eU 4 R (cY 1 R ?_);cases h;exact f1 2 R
  intro h;refine eU 5 R (gU 4 R ?_);refine Z3 R R R R (tJ h ?_) (nJ h ?_)
  ·intro h;refine eU 14 R (cY 1 R ?_);cases h;exact f1 2 R
  intro h;refine rU 2 R ?_;refine A7I R R R R (tJ h ?_) (mJ h ?_)
  ·intro h;refine rU 2 R ?_;refine B1t R R R R (tJ h ?_) (mJ h ?_)
   ·intro h;refine eU 8 R (zF (hN 3 R ?_));exact bk ⟨(W (i+1)),R,h⟩ (.prn [0,2,3] R)
   intro h;refine rU 3 R ?_;refine Z3 R R R R (tJ h ?_) (nJ h ?_)
   ·intro h;refine eU 4 R (zF (hN 3 R ?_));exact bk ⟨(W (i+1)),R,h⟩ (.prn [0,2,3] R)
   intro h;refine eU 4 R (cY 1 R ?_);cases h;exact f1 2 R
  intro h;refine rU 6 R ?_;refine Z3 R R R R (tJ h ?_) (nJ h ?_)
  ·intro h;refine eU 4 R (zF (hN 3 R ?_));exact bk ⟨(W (i+1)),R,h⟩ (.prn [0,2,3] R)
  intro h;refine eU 4 R (cY 1 R ?_);cases h;exact f1 2 R
 intro h;refine Y9 (yX ?_);subst hK2;refine rY 1 R ?_;cases h;exact f1 2 R
def C8S (F:Nat) (s:ByteArray) (before:(List ByteArray)) (K:Int→Option Int):Nat→Int→Option Int
 | 0,_=>none
 | n+1,i=>if i<(before.length:Int)then((P3 before i).bind fun e=>if e.toList=s.toList then(some 5)else(C8S F s before K n (W (i+1))))else(K i)
def C9g (F:Nat) (s:ByteArray) (before:(List ByteArray)):Option Int:=(D0i F s).bind fun rv=>if rv=true then(C8S F s before (fun i=>some 0) F 0)else(some 6)
theorem C9M {F s before r} (h:C9g F s before=some r):PC pg 136 [vS s,.arr 1 ((before).map vS)] (vI r):=by
 rw[C9g]at h;refine oW Tryz.func136 ?_;refine gY 1 R (B8 (gU 1 R ?_));obtain⟨rv,k,h⟩:=H1 h;refine M6 (D1f k) eK R R R R (tI h ?_) (fI h ?_)
 ·intro c h;refine eU 1 R (zF (B8 (gY 1 R (E3 ?_))));refine C3X (fun K3 m st=>∃ (i:Int),st=⟨[(0,.d (vS s)),(1,.d (.arr 1 ((before).map vS))),(4,dI 0),(5,dI i)],[]⟩∧C8S F s before K3 m i=some r) ⟨0,R,h⟩ (.prn [0,1,4,5] R) ?_;rintro K3 hK3 m3 _ ⟨i,rfl,h⟩;rw[C8S]at h;refine B8 (gU 2 R (I7 tb R ?_));refine Q4 R R R R (tJ h ?_) (lJ h ?_)
  ·intro h;refine Y9 (zT (B8 (E3 (gU 2 R ?_))));obtain⟨e,ie,h⟩:=H1 h;refine yE ie R R (rU 1 R ?_);refine B1u R R R R (tJ h ?_) (nJ h ?_)
   ·intro h;refine Y9 (cY 1 R ?_);cases h;exact f1 4 R
   intro h;refine Y9 (zF (hN 3 R ?_));exact bk ⟨(W (i+1)),R,h⟩ (.prn [0,1,4,5] R)
  intro h;refine Y9 (yX ?_);subst hK3;refine rY 1 R ?_;cases h;exact f1 4 R
 intro c h;refine eU 1 R (cY 1 R ?_);cases h;exact f1 4 R
def C7x (F:Nat) (B4:(List ByteArray)→Int→Option (Int × Int)) (names:(List ByteArray)) (i:Int) (e:F6) (e2:Int):Option (Int × Int):=if e2=0 then((A8i names [e.name]).bind fun q=>B4 q (W (i+1)))else(some (i,e2))
def C6g (F:Nat) (p:D5) (K:(List ByteArray)→Int→Option (Int × Int)):Nat→(List ByteArray)→Int→Option (Int × Int)
 | 0,_,_=>none
 | n+1,names,i=>if i<(p.zones.length:Int)then((P3 p.zones i).bind fun e=>(C9g F e.name names).bind fun rv=>if rv=0 then((D0k F (B4J.mk e.L5 e.L4)).bind fun rv2=>if rv2=true then((D0k F (B4J.mk e.L7 e.L6)).bind fun rv3=>if rv3=true then((C8J F e.grade).bind fun rv4=>if rv4=true then((C7m F e.room 1 8).bind fun rv5=>if rv5=true then(C7x F (C6g F p K n) names i e rv)else(C7x F (C6g F p K n) names i e 7))else(C7x F (C6g F p K n) names i e 7))else(C7x F (C6g F p K n) names i e 7))else(C7x F (C6g F p K n) names i e 7))else(C7x F (C6g F p K n) names i e rv))else(K names i)
def D0c (F:Nat) (p:D5):Option (Int × Int):=C6g F p (fun names i=>some (0,0)) F ([]:List ByteArray) 0
theorem D2e {F p r} (h:D0c F p=some r):PC pg 133 [D5.d p] (.tup [vI r.1,vI r.2]):=by
 rw[D0c]at h;refine oW Tryz.func133 ?_;refine gY 3 R (gY 1 R (B8 (gY 1 R (E3 (SW.ow 1 true 4 [] [1,2,3,4,5] R ?_)))));refine C3X (fun K4 m st=>∃ (names:(List ByteArray)) (i:Int),st=⟨[(1,rf 0 7),(2,dI 0),(3,dI 0),(4,.row 1 1 0 (names).length),(5,dI i)],[bx 7 (.d (D5.d p)),C4g names]⟩∧C6g F p K4 m names i=some r) ⟨([]:List ByteArray),0,R,h⟩ (.prn [1,2,3,4,5] R) ?_;rintro K4 hK4 m4 _ ⟨names,i,rfl,h⟩;rw[C6g]at h;refine B8 (gU 3 R (I7 tb R ?_));refine Q4 R R R R (tJ h ?_) (lJ h ?_)
 ·intro h;refine Y9 (zT (B8 (E3 (gU 3 R ?_))));obtain⟨e,ie,h⟩:=H1 h;refine yE ie R R (eU 2 R (gU 3 R ?_));obtain⟨rv,k,h⟩:=H1 h;refine A19 (C9M k) R eK R R ((dL (.cons (.row R R) .nil))) R R (eU 1 R (B8 ?_));refine W5 (fun zz:Int=>C7x F (C6g F p K4 m4) names i e zz=some r) (fun zz:Int=>⟨[(1,rf 0 7),(2,dI 0),(3,dI 0),(4,.row 1 1 0 (names).length),(5,dI i),(6,rf 2 8),(7,dI zz)],[bx 7 (.d (D5.d p)),C4g names,bx 8 (.d (F6.d e))]⟩) ?_ ?_
  ·clear h;rintro e2 h;rw[C7x]at h;refine B8 (gU 1 R ?_);refine V5 R R R R (nJ h ?_) (tJ h ?_)
   ·intro h;refine Y9 (cY 4 R ?_);cases h;exact f0 R R R (tC 2 (tC 3 .nil))
   intro h;refine Y9 (zF (hU 3 R (P7 tb R R R R R R R R R R R R R ?_)));obtain⟨q,iq,h⟩:=H1 h;refine B2k (g:=vS) (w:=names) (v:=[e.name]) ([bx 7 (.d (D5.d p)),none,bx 8 (.d (F6.d e)),C4g [e.name]]) tb R R R R R R R R R R R iq R R R R R (eU 1 R (hN 3 R ?_));exact bk ⟨q,(W (i+1)),R,h⟩ (.vq [0,4])
  refine gU 1 R ?_;refine Z3 R R R R (tJ h ?_) (nJ h ?_)
  ·intro h;refine rU 4 R ?_;obtain⟨rv2,k2,h⟩:=H1 h;refine M6 (D1k k2) eK R R R R (tI h ?_) (fI h ?_)
   ·intro c3 h;refine rU 5 R ?_;obtain⟨rv3,k3,h⟩:=H1 h;refine M6 (D1k k3) eK R R R R (tI h ?_) (fI h ?_)
    ·intro c4 h;refine rU 5 R ?_;obtain⟨rv4,k4,h⟩:=H1 h;refine M6 (C9W k4) eK R R R R (tI h ?_) (fI h ?_)
     ·intro c5 h;refine rU 5 R ?_;obtain⟨rv5,k5,h⟩:=H1 h;refine M6 (C4C k5) eK R R R R (tI h ?_) (fI h ?_)
      ·intro c6 h;refine eU 3 R (zF (A6 ?_));exact .inl ⟨rv,h,.prn [1,2,3,4,5,6,7] R⟩
      intro c6 h;refine eU 3 R (C0 R (hN 1 R ?_));exact .inl ⟨7,h,.prn [1,2,3,4,5,6,7] R⟩
     intro c5 h;refine eU 9 R (C0 R (hN 1 R ?_));exact .inl ⟨7,h,.prn [1,2,3,4,5,6,7] R⟩
    intro c4 h;refine eU 15 R (C0 R (hN 1 R ?_));exact .inl ⟨7,h,.prn [1,2,3,4,5,6,7] R⟩
   intro c3 h;refine eU 21 R (C0 R (hN 1 R ?_));exact .inl ⟨7,h,.prn [1,2,3,4,5,6,7] R⟩
  intro h;refine eU 26 R (zF (A6 ?_));exact .inl ⟨rv,h,.prn [1,2,3,4,5,6,7] R⟩
 intro h;refine Y9 (yX ?_);subst hK4;refine rY 2 R ?_;cases h;exact f0 R R R (tC 2 (tC 3 .nil))
def C8T (F:Nat) (p:D5) (nv:Int):Option Bool:=(C7m F nv 0 (W ((p.zones.length:Int)-1))).bind fun rv=>some rv
theorem C9p {F p nv r} (h:C8T F p nv=some r):PC pg 138 [D5.d p,vI nv] (vB r):=by
 rw[C8T]at h;refine oW Tryz.func138 ?_;refine gY 2 R (gU 3 R (I7 tb R (rU 1 R ?_)));obtain⟨rv,k,h⟩:=H1 h;refine J5 (C4C k) eK R R R R (eU 1 R (C9 ?_));cases h;exact f1 4 R
def C7U (F:Nat) (B3:Int→Option (Int × Int)) (i:Int) (e:G6):Option (Int × Int):=if e.a=e.b then(some (i,2))else(B3 (W (i+1)))
def C84 (F:Nat) (i:Int):Option (Int × Int):=some (i,4)
def C6K (F:Nat) (p:D5) (K:Int→Option (Int × Int)):Nat→Int→Option (Int × Int)
 | 0,_=>none
 | n+1,i=>if i<(p.doors.length:Int)then((P3 p.doors i).bind fun e=>if e.a=(-1)then(if e.b=(-1)then(C7U F (C6K F p K n) i e)else((C8T F p e.b).bind fun rv3=>if rv3=true then(C7U F (C6K F p K n) i e)else(C84 F i)))else((C8T F p e.a).bind fun rv=>if rv=true then(if e.b=(-1)then(C7U F (C6K F p K n) i e)else((C8T F p e.b).bind fun rv2=>if rv2=true then(C7U F (C6K F p K n) i e)else(C84 F i)))else(C84 F i)))else(K i)
def C9V (F:Nat) (p:D5):Option (Int × Int):=C6K F p (fun i=>some (0,0)) F 0
theorem D1V {F p r} (h:C9V F p=some r):PC pg 134 [D5.d p] (.tup [vI r.1,vI r.2]):=by
 rw[C9V]at h;refine oW Tryz.func134 ?_;refine gY 3 R (B8 (gY 1 R (E3 ?_)));refine C3X (fun K3 m st=>∃ (i:Int),st=⟨[(1,rf 0 7),(2,dI 0),(3,dI 0),(4,dI i)],[bx 7 (.d (D5.d p))]⟩∧C6K F p K3 m i=some r) ⟨0,R,h⟩ (.prn [1,2,3,4] R) ?_;rintro K3 hK3 m3 _ ⟨i,rfl,h⟩;rw[C6K]at h;refine B8 (gU 3 R (I7 tb R ?_));refine Q4 R R R R (tJ h ?_) (lJ h ?_)
 ·intro h;refine Y9 (zT (B8 (E3 (gU 3 R ?_))));obtain⟨e,ie,h⟩:=H1 h;refine yE ie R R (eU 2 R (B8 ?_));refine W5 (fun zz:Unit=>C7U F (C6K F p K3 m3) i e=some r) (fun zz:Unit=>⟨[(1,rf 0 7),(2,dI 0),(3,dI 0),(4,dI i),(5,rf 1 2)],[bx 7 (.d (D5.d p)),bx 2 (.d (G6.d e))]⟩) ?_ ?_
  ·clear h;rintro⟨⟩ h;rw[C7U]at h;refine gU 4 R ?_;refine Z3 R R R R (tJ h ?_) (nJ h ?_)
   ·intro h;refine Y9 (cY 3 R ?_);cases h;exact f0 R R R (tC 2 (tC 3 .nil))
   intro h;refine Y9 (zF (hN 3 R ?_));exact bk ⟨(W (i+1)),R,h⟩ (.vq [0])
  refine B8 ?_;refine W5 (fun zz:Unit=>C84 F i=some r) (fun zz:Unit=>⟨[(1,rf 0 7),(2,dI 0),(3,dI 0),(4,dI i),(5,rf 1 2),(39,dB true)],[bx 7 (.d (D5.d p)),bx 2 (.d (G6.d e))]⟩) ?_ ?_
  ·clear h;rintro⟨⟩ h;rw[C84]at h;refine cY 3 R ?_;cases h;exact f0 R R R (tC 2 (tC 3 .nil))
  refine hU 2 R ?_;refine V5 R R R R (nJ h ?_) (tJ h ?_)
  ·intro h;refine rU 4 R ?_;obtain⟨rv,k,h⟩:=H1 h;refine M6 (C9p k) eK R R R R (tI h ?_) (fI h ?_)
   ·intro c3 h;refine rU 5 R ?_;refine V5 R R R R (nJ h ?_) (tJ h ?_)
    ·intro h;refine rU 4 R ?_;obtain⟨rv2,k2,h⟩:=H1 h;refine M6 (C9p k2) eK R R R R (tI h ?_) (fI h ?_)
     ·intro c5 h;refine nU 3 R (.inr (zF (A6 ?_)));exact .inl ⟨(),h,.prn [1,2,3,4,5] R⟩
     intro c5 h;refine nU 3 R ?_;exact .inl ⟨(),h,.prn [1,2,3,4,5,39] R⟩
    intro h;refine nU 8 R (.inr (zF (A6 ?_)));exact .inl ⟨(),h,.prn [1,2,3,4,5] R⟩
   intro c3 h;refine nU 14 R ?_;exact .inl ⟨(),h,.prn [1,2,3,4,5,39] R⟩
  intro h;refine rU 10 R ?_;refine V5 R R R R (nJ h ?_) (tJ h ?_)
  ·intro h;refine rU 4 R ?_;obtain⟨rv3,k3,h⟩:=H1 h;refine M6 (C9p k3) eK R R R R (tI h ?_) (fI h ?_)
   ·intro c7 h;refine nU 3 R (.inr (zF (A6 ?_)));exact .inl ⟨(),h,.prn [1,2,3,4,5] R⟩
   intro c7 h;refine nU 3 R ?_;exact .inl ⟨(),h,.prn [1,2,3,4,5,39] R⟩
  intro h;refine nU 8 R (.inr (zF (A6 ?_)));exact .inl ⟨(),h,.prn [1,2,3,4,5] R⟩
 intro h;refine Y9 (yX ?_);subst hK3;refine rY 2 R ?_;cases h;exact f0 R R R (tC 2 (tC 3 .nil))
def C7A (F:Nat) (B4:(List ByteArray)→Int→Option (Int × Int)) (names:(List ByteArray)) (i:Int) (e:E2) (e2:Int):Option (Int × Int):=if e2=0 then((A8i names [e.name]).bind fun q=>B4 q (W (i+1)))else(some (i,e2))
def C6I (F:Nat) (p:D5) (K:(List ByteArray)→Int→Option (Int × Int)):Nat→(List ByteArray)→Int→Option (Int × Int)
 | 0,_,_=>none
 | n+1,names,i=>if i<(p.people.length:Int)then((P3 p.people i).bind fun e=>(C9g F e.name names).bind fun rv=>if rv=0 then((C8J F e.grade).bind fun rv2=>if rv2=true then(C7A F (C6I F p K n) names i e rv)else(C7A F (C6I F p K n) names i e 7))else(C7A F (C6I F p K n) names i e rv))else(K names i)
def C9B (F:Nat) (p:D5):Option (Int × Int):=C6I F p (fun names i=>some (0,0)) F ([]:List ByteArray) 0
theorem D1I {F p r} (h:C9B F p=some r):PC pg 135 [D5.d p] (.tup [vI r.1,vI r.2]):=by
 rw[C9B]at h;refine oW Tryz.func135 ?_;refine gY 3 R (gY 1 R (B8 (gY 1 R (E3 (SW.ow 1 true 4 [] [1,2,3,4,5] R ?_)))));refine C3X (fun K4 m st=>∃ (names:(List ByteArray)) (i:Int),st=⟨[(1,rf 0 7),(2,dI 0),(3,dI 0),(4,.row 1 1 0 (names).length),(5,dI i)],[bx 7 (.d (D5.d p)),C4g names]⟩∧C6I F p K4 m names i=some r) ⟨([]:List ByteArray),0,R,h⟩ (.prn [1,2,3,4,5] R) ?_;rintro K4 hK4 m4 _ ⟨names,i,rfl,h⟩;rw[C6I]at h;refine B8 (gU 3 R (I7 tb R ?_));refine Q4 R R R R (tJ h ?_) (lJ h ?_)
 ·intro h;refine Y9 (zT (B8 (E3 (gU 3 R ?_))));obtain⟨e,ie,h⟩:=H1 h;refine xE ie R (rU 1 R (lE ie R (rU 1 R ?_)));obtain⟨rv,k,h⟩:=H1 h;refine A19 (C9M k) R eK R R ((dL (.cons (.row R R) .nil))) R R (eU 1 R (B8 ?_));refine W5 (fun zz:Int=>C7A F (C6I F p K4 m4) names i e zz=some r) (fun zz:Int=>⟨[(1,rf 0 7),(2,dI 0),(3,dI 0),(4,.row 1 1 0 (names).length),(5,dI i),(6,dI zz)],[bx 7 (.d (D5.d p)),C4g names]⟩) ?_ ?_
  ·clear h;rintro e2 h;rw[C7A]at h;refine B8 (gU 1 R ?_);refine V5 R R R R (nJ h ?_) (tJ h ?_)
   ·intro h;refine Y9 (cY 4 R ?_);cases h;exact f0 R R R (tC 2 (tC 3 .nil))
   intro h;refine Y9 (zF (hU 4 R (xE ie R (rU 1 R (lE ie R (P7 tb R R R R R R R R R R R R R ?_))))));obtain⟨q,iq,h⟩:=H1 h;refine B2k (g:=vS) (w:=names) (v:=[e.name]) ([bx 7 (.d (D5.d p)),none,C4g [e.name]]) tb R R R R R R R R R R R iq R R R R R (eU 1 R (hN 3 R ?_));exact bk ⟨q,(W (i+1)),R,h⟩ (.vq [0,3])
  refine gU 1 R ?_;refine Z3 R R R R (tJ h ?_) (nJ h ?_)
  ·intro h;refine rU 4 R (xE ie R (rU 1 R (lE ie R ?_)));obtain⟨rv2,k2,h⟩:=H1 h;refine M6 (C9W k2) eK R R R R (tI h ?_) (fI h ?_)
   ·intro c3 h;refine eU 2 R (zF (A6 ?_));exact .inl ⟨rv,h,.prn [1,2,3,4,5,6] R⟩
   intro c3 h;refine eU 2 R (C0 R (hN 1 R ?_));exact .inl ⟨7,h,.prn [1,2,3,4,5,6] R⟩
  intro h;refine eU 10 R (zF (A6 ?_));exact .inl ⟨rv,h,.prn [1,2,3,4,5,6] R⟩
 intro h;refine Y9 (yX ?_);subst hK4;refine rY 2 R ?_;cases h;exact f0 R R R (tC 2 (tC 3 .nil))
def C7X (F:Nat) (e2:D1) (K:Int→Option Int):Nat→Int→Option Int
 | 0,_=>none
 | n+1,x2=>if x2<(e2.keys.length:Int)then((P3 e2.keys x2).bind fun e4=>(P3 e2.keys (W (x2-1))).bind fun e5=>if e4≤e5 then(some 2)else(C7X F e2 K n (W (x2+1))))else(K x2)
def C88 (F:Nat) (t:D5) (e2:D1) (K:Int→Option Int):Nat→Int→Option Int
 | 0,_=>none
 | n+1,x=>if x<(e2.keys.length:Int)then((P3 e2.keys x).bind fun e3=>(C7m F e3 0 (W ((t.keys.length:Int)-1))).bind fun rv6=>if rv6=true then(C88 F t e2 K n (W (x+1)))else(some 4))else(K x)
def C87 (F:Nat) (t:D5) (e2:D1):Option Int:=if(e2.keys.length:Int)=0 then(some 4)else(C88 F t e2 (fun x=>C7X F e2 (fun x2=>some 0) F 1) F 0)
def C6A (F:Nat):Option Int:=some 7
def C89 (F:Nat) (t:D5) (o:Int) (K:(List ByteArray)→Int→Option Int):Nat→(List ByteArray)→Int→Option Int
 | 0,_,_=>none
 | n+1,a,y=>if y<o then((P3 t.squibs y).bind fun e=>(A8i a [e.name]).bind fun q=>C89 F t o K n q (W (y+1)))else(K a y)
def D0b (F:Nat) (t:D5) (o:Int):Option Int:=C89 F t o (fun a y=>(P3 t.squibs o).bind fun e2=>(C9g F e2.name a).bind fun rv=>if rv=0 then((C8r F e2.A4s).bind fun rv2=>if rv2=true then((C8r F e2.A4t).bind fun rv3=>if rv3=true then((C7m F e2.clear 0 10000000).bind fun rv4=>if rv4=true then((C8J F e2.grade).bind fun rv5=>if rv5=true then(C87 F t e2)else(C6A F))else(C6A F))else(C6A F))else(C6A F))else(some rv)) F ([]:List ByteArray) 0
theorem D2b {F t o r} (h:D0b F t o=some r):PC pg 137 [D5.d t,vI o] (vI r):=by
 rw[D0b]at h;refine oW Tryz.func137 ?_;refine gY 2 R (gY 1 R (B8 (gY 1 R (E3 (SW.ow 1 true 5 [] [1,2,4,5,6] R ?_)))));refine C3X (fun K4 m st=>∃ (a:(List ByteArray)) (y:Int),st=⟨[(1,dI o),(2,rf 0 7),(4,dI 0),(5,.row 1 1 0 (a).length),(6,dI y)],[bx 7 (.d (D5.d t)),C4g a]⟩∧C89 F t o K4 m a y=some r) ⟨([]:List ByteArray),0,R,h⟩ (.prn [1,2,4,5,6] R) ?_;rintro K4 hK4 m4 _ ⟨a,y,rfl,h⟩;rw[C89]at h;refine B8 (gU 2 R ?_);refine Q4 R R R R (tJ h ?_) (lJ h ?_)
 ·intro h;refine Y9 (zT (B8 (E3 (hU 4 R ?_))));obtain⟨e,ie,h⟩:=H1 h;refine xE ie R (rU 1 R (lE ie R (P7 tb R R R R R R R R R R R R R ?_)));obtain⟨q,iq,h⟩:=H1 h;refine B2k (g:=vS) (w:=a) (v:=[e.name]) ([bx 7 (.d (D5.d t)),none,C4g [e.name]]) tb R R R R R R R R R R R iq R R R R R (eU 1 R (hN 3 R ?_));exact bk ⟨q,(W (y+1)),R,h⟩ (.vq [0,3])
 intro h;refine Y9 (yX ?_);subst hK4;refine gU 3 R ?_;obtain⟨e2,ie2,h⟩:=H1 h;refine yE ie2 R R (eU 2 R (gU 3 R ?_));obtain⟨rv,k,h⟩:=H1 h;refine A19 (C9M k) R eK R R ((dL (.cons (.row R R) .nil))) R R (eU 1 R (B8 (gU 1 R ?_)));refine V5 R R R R (nJ h ?_) (tJ h ?_)
 ·intro h;refine Y9 (cY 2 R ?_);cases h;exact f1 4 R
 intro h;refine Y9 (zF (B8 ?_));refine W5 (fun zz:Unit=>C87 F t e2=some r) (fun zz:Unit=>⟨[(2,rf 0 7),(4,dI 0),(7,rf 1 6)],[bx 7 (.d (D5.d t)),bx 6 (.d (D1.d e2))]⟩) ?_ ?_
 ·clear h;rintro⟨⟩ h;rw[C87]at h;refine B8 (gU 2 R (I7 tb R ?_));refine Z3 R R R R (tJ h ?_) (nJ h ?_)
  ·intro h;refine Y9 (cY 1 R ?_);cases h;exact f1 4 R
  intro h;refine Y9 (zF (B8 (gY 1 R (E3 ?_))));refine C3X (fun K7 m st=>∃ (x:Int),st=⟨[(2,rf 0 7),(4,dI 0),(7,rf 1 6),(9,dI x)],[bx 7 (.d (D5.d t)),bx 6 (.d (D1.d e2))]⟩∧C88 F t e2 K7 m x=some r) ⟨0,R,h⟩ (.prn [2,4,7,9] R) ?_;rintro K7 hK7 m7 _ ⟨x,rfl,h⟩;rw[C88]at h;refine B8 (gU 3 R (I7 tb R ?_));refine Q4 R R R R (tJ h ?_) (lJ h ?_)
  ·intro h;refine Y9 (zT (B8 (E3 (B8 (T1 kR (rU 3 R ?_))))));obtain⟨e3,ie3,h⟩:=H1 h;refine yE ie3 R R (rU 2 R (I7 tb R (rU 1 R ?_)));obtain⟨rv6,k6,h⟩:=H1 h;refine M6 (C4C k6) eK R R R R (tI h ?_) (fI h ?_)
   ·intro c9 h;refine rU 1 R (I0 kR (zF (hN 3 R ?_)));exact bk ⟨(W (x+1)),R,h⟩ (.prn [2,4,7,9] R)
   intro c9 h;refine rU 1 R (I0 kR (cY 1 R ?_));cases h;exact f1 4 R
  intro h;refine Y9 (yX ?_);subst hK7;refine B8 (gY 1 R (E3 ?_));refine C3X (fun K10 m st=>∃ (x2:Int),st=⟨[(4,dI 0),(7,rf 0 6),(10,dI x2)],[bx 6 (.d (D1.d e2))]⟩∧C7X F e2 K10 m x2=some r) ⟨1,R,h⟩ (.vq [1]) ?_;rintro K10 hK10 m10 _ ⟨x2,rfl,h⟩;rw[C7X]at h;refine B8 (gU 3 R (I7 tb R ?_));refine Q4 R R R R (tJ h ?_) (lJ h ?_)
  ·intro h;refine Y9 (zT (B8 (E3 (B8 (T1 kR (rU 3 R ?_))))));obtain⟨e4,ie4,h⟩:=H1 h;refine yE ie4 R R (rU 4 R ?_);obtain⟨e5,ie5,h⟩:=H1 h;refine yE ie5 R R ?_;refine B1t R R R R (tJ h ?_) (mJ h ?_)
   ·intro h;refine I0 kR (cY 1 R ?_);cases h;exact f1 4 R
   intro h;refine I0 kR (zF (hN 3 R ?_));exact bk ⟨(W (x2+1)),R,h⟩ (.prn [4,7,10] R)
  intro h;refine Y9 (yX ?_);subst hK10;refine rY 1 R ?_;cases h;exact f1 4 R
 refine B8 ?_;refine W5 (fun zz:Unit=>C6A F=some r) (fun zz:Unit=>⟨[(2,rf 0 7),(4,dI 0),(7,rf 1 6),(60,dB true)],[bx 7 (.d (D5.d t)),bx 6 (.d (D1.d e2))]⟩) ?_ ?_
 ·clear h;rintro⟨⟩ h;rw[C6A]at h;refine cY 1 R ?_;cases h;exact f1 4 R
 refine hU 3 R ?_;obtain⟨rv2,k2,h⟩:=H1 h;refine M6 (C9v k2) eK R R R R (tI h ?_) (fI h ?_)
 ·intro c3 h;refine rU 5 R ?_;obtain⟨rv3,k3,h⟩:=H1 h;refine M6 (C9v k3) eK R R R R (tI h ?_) (fI h ?_)
  ·intro c4 h;refine rU 5 R ?_;obtain⟨rv4,k4,h⟩:=H1 h;refine M6 (C4C k4) eK R R R R (tI h ?_) (fI h ?_)
   ·intro c5 h;refine rU 5 R ?_;obtain⟨rv5,k5,h⟩:=H1 h;refine M6 (C9W k5) eK R R R R (tI h ?_) (fI h ?_)
    ·intro c6 h;refine nU 2 R (.inr (zF (A6 ?_)));exact .inl ⟨(),h,.vq [0,2]⟩
    intro c6 h;refine nU 2 R ?_;exact .inl ⟨(),h,.vq [0,2]⟩
   intro c5 h;refine nU 8 R ?_;exact .inl ⟨(),h,.vq [0,2]⟩
  intro c4 h;refine nU 14 R ?_;exact .inl ⟨(),h,.vq [0,2]⟩
 intro c3 h;refine nU 20 R ?_;exact .inl ⟨(),h,.vq [0,2]⟩
def D1E (F:Nat) (s:B4J) (nv:Int):Option Int:=some (max (max (W (s.lo-nv)) (W (nv-s.hi))) 0)
theorem D19 {F s nv r} (h:D1E F s nv=some r):PC pg 191 [B4J.d s,vI nv] (vI r):=by
 rw[D1E]at h;refine oW Tryz.func191 ?_;refine gY 2 R (gU 8 R (A9L R R R R R (eU 1 R (C9 ?_))));cases h;exact f1 4 R
def C9N (F:Nat) (p:D5) (zone squib:Int):Option Bool:=(P3 p.zones zone).bind fun e=>(P3 p.squibs squib).bind fun e2=>(D1E F (B4J.mk e.L5 e.L4) e2.A4s).bind fun rv=>(D1E F (B4J.mk e.L7 e.L6) e2.A4t).bind fun rv2=>some (decide ((W ((W (rv*rv))+(W (rv2*rv2))))<(W (e2.clear*e2.clear))))
theorem D0u {F p zone squib r} (h:C9N F p zone squib=some r):PC pg 139 [D5.d p,vI zone,vI squib] (vB r):=by
 rw[C9N]at h;refine oW Tryz.func139 ?_;refine gY 2 R (B8 (T1 kR (rU 3 R ?_)));obtain⟨e,ie,h⟩:=H1 h;refine xE ie R (rU 1 R (lE ie R (rU 3 R ?_)));obtain⟨e2,ie2,h⟩:=H1 h;refine yE ie2 R R (rU 4 R (I0 kR (B8 (T1 kR (rU 5 R ?_)))));obtain⟨rv,k,h⟩:=H1 h;refine J5 (D19 k) eK R R R R (rU 5 R ?_);obtain⟨rv2,k2,h⟩:=H1 h;refine J5 (D19 k2) eK R R R R (rU 2 R (I0 kR (gU 12 R (B8b R R R R (eU 1 R (C9 ?_))))));cases h;exact f1 6 R
def C7T (F:Nat) (t:D5) (K:Int→Option (Int × Int × Int)):Nat→Int→Option (Int × Int × Int)
 | 0,_=>none
 | n+1,x3=>if x3<(t.squibs.length:Int)then((C9N F t t.panel x3).bind fun rv8=>if rv8=true then(some (7,0,2))else(C7T F t K n (W (x3+1))))else(K x3)
def C81 (F:Nat) (t:D5) (K:Int→Option (Int × Int × Int)):Nat→Int→Option (Int × Int × Int)
 | 0,_=>none
 | n+1,x2=>if x2<(t.squibs.length:Int)then((D0b F t x2).bind fun rv6=>if rv6=0 then(C81 F t K n (W (x2+1)))else(some (6,x2,rv6)))else(K x2)
def C82 (F:Nat) (t:D5) (K:Int→Option (Int × Int × Int)):Nat→Int→Option (Int × Int × Int)
 | 0,_=>none
 | n+1,x=>if x<(t.keys.length:Int)then((P3 t.keys x).bind fun e=>(A7A t.keys 0 x).bind fun q=>(C9g F e q).bind fun rv5=>if rv5=0 then(C82 F t K n (W (x+1)))else(some (5,x,rv5)))else(K x)
def C8W (F:Nat) (t:D5):Option (Int × Int × Int):=(D0c F t).bind fun rv2=>if rv2.2=0 then((C9V F t).bind fun rv3=>if rv3.2=0 then((C9B F t).bind fun rv4=>if rv4.2=0 then(C82 F t (fun x=>C81 F t (fun x2=>(C8T F t t.panel).bind fun rv7=>if rv7=true then(C7T F t (fun x3=>(C7m F t.wait 0 6000).bind fun rv9=>if rv9=true then(some (0,0,0))else(some (7,0,7))) F 0)else(some (7,0,4))) F 0) F 0)else(some (4,rv4.1,rv4.2)))else(some (3,rv3.1,rv3.2)))else(some (2,rv2.1,rv2.2))
def C78 (F:Nat):Option (Int × Int × Int):=some (1,0,3)
def C94 (F:Nat) (t:D5):Option (Int × Int × Int):=(C7m F (t.zones.length:Int) 1 8).bind fun rv=>if rv=true then(if 24<(t.doors.length:Int)then(C78 F)else(if 8<(t.people.length:Int)then(C78 F)else(if 8<(t.keys.length:Int)then(C78 F)else(if 6<(t.squibs.length:Int)then(C78 F)else(C8W F t)))))else(C78 F)
theorem D0J {F t r} (h:C94 F t=some r):PC pg 66 [D5.d t] (.tup [vI r.1,vI r.2.1,vI r.2.2]):=by
 rw[C94]at h;refine oW Tryz.func66 ?_;refine gY 4 R (B8 ?_);refine W5 (fun zz:Unit=>C8W F t=some r) (fun zz:Unit=>⟨[(1,rf 0 7),(2,dI 0),(3,dI 0),(4,dI 0)],[bx 7 (.d (D5.d t))]⟩) ?_ ?_
 ·clear h;rintro⟨⟩ h;rw[C8W]at h;refine gU 1 R ?_;obtain⟨rv2,k2,h⟩:=H1 h;refine J5 (D2e k2) eK R R R R (eU 5 R (B8 (gU 1 R ?_)));refine V5 R R R R (nJ h ?_) (tJ h ?_)
  ·intro h;refine Y9 (cY 5 R ?_);cases h;exact f0 R R R (tC 2 (tC 3 (tC 4 .nil)))
  intro h;refine Y9 (zF (gU 1 R ?_));obtain⟨rv3,k3,h⟩:=H1 h;refine J5 (D1V k3) eK R R R R (eU 5 R (B8 (gU 1 R ?_)));refine V5 R R R R (nJ h ?_) (tJ h ?_)
  ·intro h;refine Y9 (cY 5 R ?_);cases h;exact f0 R R R (tC 2 (tC 3 (tC 4 .nil)))
  intro h;refine Y9 (zF (gU 1 R ?_));obtain⟨rv4,k4,h⟩:=H1 h;refine J5 (D1I k4) eK R R R R (eU 5 R (B8 (gU 1 R ?_)));refine V5 R R R R (nJ h ?_) (tJ h ?_)
  ·intro h;refine Y9 (cY 5 R ?_);cases h;exact f0 R R R (tC 2 (tC 3 (tC 4 .nil)))
  intro h;refine Y9 (zF (B8 (gY 1 R (E3 ?_))));refine C3X (fun K3 m st=>∃ (x:Int),st=⟨[(1,rf 0 7),(2,dI 0),(3,dI 0),(4,dI 0),(7,dI x)],[bx 7 (.d (D5.d t))]⟩∧C82 F t K3 m x=some r) ⟨0,R,h⟩ (.prn [1,2,3,4,7] R) ?_;rintro K3 hK3 m3 _ ⟨x,rfl,h⟩;rw[C82]at h;refine B8 (gU 3 R (I7 tb R ?_));refine Q4 R R R R (tJ h ?_) (lJ h ?_)
  ·intro h;refine Y9 (zT (B8 (E3 (B8 (T1 kR (rU 3 R ?_))))));obtain⟨e,ie,h⟩:=H1 h;refine yE ie R R (rU 3 R ?_);obtain⟨q,iq,h⟩:=H1 h;refine A6E tb R R R R R R iq R R ?_;obtain⟨rv5,k5,h⟩:=H1 h;refine J5 (C9M k5) eK R R R R (rU 1 R (I0 kR (gU 1 R ?_)));refine V5 R R R R (nJ h ?_) (tJ h ?_)
   ·intro h;refine Y9 (cY 5 R ?_);cases h;exact f0 R R R (tC 2 (tC 3 (tC 4 .nil)))
   intro h;refine Y9 (zF (hN 3 R ?_));exact bk ⟨(W (x+1)),R,h⟩ (.prn [1,2,3,4,7] R)
  intro h;refine Y9 (yX ?_);subst hK3;refine B8 (gY 1 R (E3 ?_));refine C3X (fun K6 m st=>∃ (x2:Int),st=⟨[(1,rf 0 7),(2,dI 0),(3,dI 0),(4,dI 0),(9,dI x2)],[bx 7 (.d (D5.d t))]⟩∧C81 F t K6 m x2=some r) ⟨0,R,h⟩ (.prn [1,2,3,4,9] R) ?_;rintro K6 hK6 m6 _ ⟨x2,rfl,h⟩;rw[C81]at h;refine B8 (gU 3 R (I7 tb R ?_));refine Q4 R R R R (tJ h ?_) (lJ h ?_)
  ·intro h;refine Y9 (zT (B8 (E3 (gU 2 R ?_))));obtain⟨rv6,k6,h⟩:=H1 h;refine J5 (D2b k6) eK R R R R (eU 1 R (gU 1 R ?_));refine V5 R R R R (nJ h ?_) (tJ h ?_)
   ·intro h;refine Y9 (cY 5 R ?_);cases h;exact f0 R R R (tC 2 (tC 3 (tC 4 .nil)))
   intro h;refine Y9 (zF (hN 3 R ?_));exact bk ⟨(W (x2+1)),R,h⟩ (.prn [1,2,3,4,9] R)
  intro h;refine Y9 (yX ?_);subst hK6;refine B8 (gU 3 R ?_);obtain⟨rv7,k7,h⟩:=H1 h;refine M6 (C9p k7) eK R R R R (tI h ?_) (fI h ?_)
  ·intro c13 h;refine eU 1 R (zF (B8 (gY 1 R (E3 ?_))));refine C3X (fun K9 m st=>∃ (x3:Int),st=⟨[(1,rf 0 7),(2,dI 0),(3,dI 0),(4,dI 0),(11,dI x3)],[bx 7 (.d (D5.d t))]⟩∧C7T F t K9 m x3=some r) ⟨0,R,h⟩ (.prn [1,2,3,4,11] R) ?_;rintro K9 hK9 m9 _ ⟨x3,rfl,h⟩;rw[C7T]at h;refine B8 (gU 3 R (I7 tb R ?_));refine Q4 R R R R (tJ h ?_) (lJ h ?_)
   ·intro h;refine Y9 (zT (B8 (E3 (gU 4 R ?_))));obtain⟨rv8,k8,h⟩:=H1 h;refine M6 (D0u k8) eK R R R R (tI h ?_) (fI h ?_)
    ·intro c15 h;refine Y9 (cY 3 R ?_);cases h;exact f0 R R R (tC 2 (tC 3 (tC 4 .nil)))
    intro c15 h;refine Y9 (zF (hN 3 R ?_));exact bk ⟨(W (x3+1)),R,h⟩ (.prn [1,2,3,4,11] R)
   intro h;refine Y9 (yX ?_);subst hK9;refine B8 (gU 2 R ?_);obtain⟨rv9,k9,h⟩:=H1 h;refine M6 (C4C k9) eK R R R R (tI h ?_) (fI h ?_)
   ·intro c16 h;refine eU 1 R (zF (rY 3 R ?_));cases h;exact f0 R R R (tC 2 (tC 3 (tC 4 .nil)))
   intro c16 h;refine eU 1 R (cY 3 R ?_);cases h;exact f0 R R R (tC 2 (tC 3 (tC 4 .nil)))
  intro c13 h;refine eU 1 R (cY 3 R ?_);cases h;exact f0 R R R (tC 2 (tC 3 (tC 4 .nil)))
 refine B8 ?_;refine W5 (fun zz:Unit=>C78 F=some r) (fun zz:Unit=>⟨[(1,rf 0 7),(2,dI 0),(3,dI 0),(4,dI 0),(40,dB true)],[bx 7 (.d (D5.d t))]⟩) ?_ ?_
 ·clear h;rintro⟨⟩ h;rw[C78]at h;refine cY 3 R ?_;cases h;exact f0 R R R (tC 2 (tC 3 (tC 4 .nil)))
 refine hU 2 R (I7 tb R ?_);obtain⟨rv,k,h⟩:=H1 h;refine M6 (C4C k) eK R R R R (tI h ?_) (fI h ?_)
 ·intro c h;refine rU 4 R (I7 tb R ?_);refine A4l R R R R (tJ h ?_) (lJ h ?_)
  ·intro h;refine nU 19 R ?_;exact .inl ⟨(),h,.prn [1,2,3,4,40] R⟩
  intro h;refine rU 4 R (I7 tb R ?_);refine A4l R R R R (tJ h ?_) (lJ h ?_)
  ·intro h;refine nU 13 R ?_;exact .inl ⟨(),h,.prn [1,2,3,4,40] R⟩
  intro h;refine rU 4 R (I7 tb R ?_);refine A4l R R R R (tJ h ?_) (lJ h ?_)
  ·intro h;refine nU 7 R ?_;exact .inl ⟨(),h,.prn [1,2,3,4,40] R⟩
  intro h;refine rU 4 R (I7 tb R ?_);refine A4l R R R R (tJ h ?_) (lJ h ?_)
  ·intro h;refine nU 1 R ?_;exact .inl ⟨(),h,.prn [1,2,3,4,40] R⟩
  intro h;refine nU 1 R (.inr (zF (A6 ?_)));exact .inl ⟨(),h,.prn [1,2,3,4] R⟩
 intro c h;refine nU 25 R ?_;exact .inl ⟨(),h,.prn [1,2,3,4,40] R⟩
def C9C (F:Nat) (p:D5):Option Int:=(C94 F p).bind fun rv=>some rv.2.2
theorem D0P {F p r} (h:C9C F p=some r):PC pg 158 [D5.d p] (vI r):=by
 rw[C9C]at h;refine oW Tryz.func158 ?_;refine gY 2 R (gU 1 R ?_);obtain⟨rv,k,h⟩:=H1 h;refine J5 (D0J k) eK R R R R (eU 7 R (rY 2 R ?_));cases h;exact f1 2 R
def C5E (F:Nat) (o:C3) (K:Bool→Int→Option Bool):Nat→Bool→Int→Option Bool
 | 0,_,_=>none
 | n+1,a3,x2=>if x2<(o.squibs.length:Int)then(if a3=true then((P3 o.squibs x2).bind fun e3=>(C7m F e3 0 2).bind fun rv5=>if rv5=true then(C5E F o K n true (W (x2+1)))else(C5E F o K n false (W (x2+1))))else(C5E F o K n false (W (x2+1))))else(K a3 x2)
def C5K (F:Nat) (t:D5) (o:C3) (K:Bool→Int→Option Bool):Nat→Bool→Int→Option Bool
 | 0,_,_=>none
 | n+1,a2,x=>if x<(o.holder.length:Int)then(if a2=true then((P3 o.holder x).bind fun e2=>(C7m F e2 (-1) (W ((t.people.length:Int)-1))).bind fun rv4=>if rv4=true then(C5K F t o K n true (W (x+1)))else(C5K F t o K n false (W (x+1))))else(C5K F t o K n false (W (x+1))))else(K a2 x)
def C6s (F:Nat) (t:D5) (o:C3) (K:Bool→Int→Option Bool):Nat→Bool→Int→Option Bool
 | 0,_,_=>none
 | n+1,a,y=>if y<(o.zones.length:Int)then(if a=true then((P3 o.zones y).bind fun e=>(C7m F e (-1) (W ((t.zones.length:Int)-1))).bind fun rv3=>if rv3=true then(C6s F t o K n true (W (y+1)))else(C6s F t o K n false (W (y+1))))else(C6s F t o K n false (W (y+1))))else(K a y)
def C5L (F:Nat) (o:C3) (K:Bool→Int→Option Bool):Nat→Bool→Int→Option Bool
 | 0,_,_=>none
 | n+1,a6,x4=>if x4<(o.squibs.length:Int)then(if a6=true then((P3 o.squibs x4).bind fun e6=>(C7m F e6 0 2).bind fun rv8=>if rv8=true then(C5L F o K n true (W (x4+1)))else(C5L F o K n false (W (x4+1))))else(C5L F o K n false (W (x4+1))))else(K a6 x4)
def C6t (F:Nat) (t:D5) (o:C3) (K:Bool→Int→Option Bool):Nat→Bool→Int→Option Bool
 | 0,_,_=>none
 | n+1,a5,x3=>if x3<(o.holder.length:Int)then(if a5=true then((P3 o.holder x3).bind fun e5=>(C7m F e5 (-1) (W ((t.people.length:Int)-1))).bind fun rv7=>if rv7=true then(C6t F t o K n true (W (x3+1)))else(C6t F t o K n false (W (x3+1))))else(C6t F t o K n false (W (x3+1))))else(K a5 x3)
def C6G (F:Nat) (t:D5) (o:C3) (K:Bool→Int→Option Bool):Nat→Bool→Int→Option Bool
 | 0,_,_=>none
 | n+1,a4,y2=>if y2<(o.zones.length:Int)then(if a4=true then((P3 o.zones y2).bind fun e4=>(C7m F e4 (-1) (W ((t.zones.length:Int)-1))).bind fun rv6=>if rv6=true then(C6G F t o K n true (W (y2+1)))else(C6G F t o K n false (W (y2+1))))else(C6G F t o K n false (W (y2+1))))else(K a4 y2)
def C6E (F:Nat) (t:D5) (o:C3):Option Bool:=C6G F t o (fun a4 y2=>C6t F t o (fun a5 x3=>C5L F o (fun a6 x4=>some a6) F a5 0) F a4 0) F false 0
def C99 (F:Nat) (t:D5) (o:C3):Option Bool:=(C7m F o.now 0 100000).bind fun rv=>if rv=true then((C7m F o.siren (-1) o.now).bind fun rv2=>if rv2=true then(if(o.zones.length:Int)=(t.people.length:Int)then(if(o.holder.length:Int)=(t.keys.length:Int)then(if(o.squibs.length:Int)=(t.squibs.length:Int)then(C6s F t o (fun a y=>C5K F t o (fun a2 x=>C5E F o (fun a3 x2=>some a3) F a2 0) F a 0) F true 0)else(C6E F t o))else(C6E F t o))else(C6E F t o))else(C6E F t o))else(C6E F t o)
theorem D1G {F t o r} (h:C99 F t o=some r):PC pg 206 [D5.d t,C3.d o] (vB r):=by
 rw[C99]at h;refine oW Tryz.func206 ?_;refine gY 3 R (B8 ?_);refine W5 (fun zz:Unit=>C6E F t o=some r) (fun zz:Unit=>⟨[(2,rf 0 7),(3,rf 1 6),(4,dB false),(5,dB false)],[bx 7 (.d (D5.d t)),bx 6 (.d (C3.d o))]⟩) ?_ ?_
 ·clear h;rintro⟨⟩ h;rw[C6E]at h;refine B8 (gY 1 R (E3 ?_));refine C3X (fun K12 m st=>∃ (a4:Bool) (y2:Int),st=⟨[(2,rf 0 7),(3,rf 1 6),(4,dB false),(5,dB a4),(6,dI y2)],[bx 7 (.d (D5.d t)),bx 6 (.d (C3.d o))]⟩∧C6G F t o K12 m a4 y2=some r) ⟨false,0,R,h⟩ (.prn [2,3,4,5,6] R) ?_;rintro K12 hK12 m12 _ ⟨a4,y2,rfl,h⟩;rw[C6G]at h;refine B8 (gU 3 R (I7 tb R ?_));refine Q4 R R R R (tJ h ?_) (lJ h ?_)
  ·intro h;refine Y9 (zT (B8 (E3 (T1 kR (rU 1 R ?_)))));refine X8 (tI h ?_) (fI h ?_)
   ·intro c16 h;refine rU 4 R ?_;obtain⟨e4,ie4,h⟩:=H1 h;refine yE ie4 R R (rU 2 R (I7 tb R (rU 1 R ?_)));obtain⟨rv6,k6,h⟩:=H1 h;refine M6 (C4C k6) eK R R R R (tI h ?_) (fI h ?_)
    ·intro c17 h;refine rU 2 R (I0 kR (hN 3 R ?_));exact bk ⟨true,(W (y2+1)),R,h⟩ (.prn [2,3,4,5,6] R)
    intro c17 h;refine rU 2 R (I0 kR (hN 3 R ?_));exact bk ⟨false,(W (y2+1)),R,h⟩ (.prn [2,3,4,5,6] R)
   intro c16 h;refine rU 13 R (I0 kR (hN 3 R ?_));exact bk ⟨false,(W (y2+1)),R,h⟩ (.prn [2,3,4,5,6] R)
  intro h;refine Y9 (yX ?_);subst hK12;refine B8 (gY 1 R (E3 ?_));refine C3X (fun K14 m st=>∃ (a5:Bool) (x3:Int),st=⟨[(2,rf 0 7),(3,rf 1 6),(4,dB false),(5,dB a5),(7,dI x3)],[bx 7 (.d (D5.d t)),bx 6 (.d (C3.d o))]⟩∧C6t F t o K14 m a5 x3=some r) ⟨a4,0,R,h⟩ (.prn [2,3,4,5,7] R) ?_;rintro K14 hK14 m14 _ ⟨a5,x3,rfl,h⟩;rw[C6t]at h;refine B8 (gU 3 R (I7 tb R ?_));refine Q4 R R R R (tJ h ?_) (lJ h ?_)
  ·intro h;refine Y9 (zT (B8 (E3 (T1 kR (rU 1 R ?_)))));refine X8 (tI h ?_) (fI h ?_)
   ·intro c19 h;refine rU 4 R ?_;obtain⟨e5,ie5,h⟩:=H1 h;refine yE ie5 R R (rU 2 R (I7 tb R (rU 1 R ?_)));obtain⟨rv7,k7,h⟩:=H1 h;refine M6 (C4C k7) eK R R R R (tI h ?_) (fI h ?_)
    ·intro c20 h;refine rU 2 R (I0 kR (hN 3 R ?_));exact bk ⟨true,(W (x3+1)),R,h⟩ (.prn [2,3,4,5,7] R)
    intro c20 h;refine rU 2 R (I0 kR (hN 3 R ?_));exact bk ⟨false,(W (x3+1)),R,h⟩ (.prn [2,3,4,5,7] R)
   intro c19 h;refine rU 13 R (I0 kR (hN 3 R ?_));exact bk ⟨false,(W (x3+1)),R,h⟩ (.prn [2,3,4,5,7] R)
  intro h;refine Y9 (yX ?_);subst hK14;refine B8 (gY 1 R (E3 ?_));refine C3X (fun K16 m st=>∃ (a6:Bool) (x4:Int),st=⟨[(3,rf 0 6),(4,dB false),(5,dB a6),(8,dI x4)],[bx 6 (.d (C3.d o))]⟩∧C5L F o K16 m a6 x4=some r) ⟨a5,0,R,h⟩ (.vq [1]) ?_;rintro K16 hK16 m16 _ ⟨a6,x4,rfl,h⟩;rw[C5L]at h;refine B8 (gU 3 R (I7 tb R ?_));refine Q4 R R R R (tJ h ?_) (lJ h ?_)
  ·intro h;refine Y9 (zT (B8 (E3 (hU 1 R ?_))));refine X8 (tI h ?_) (fI h ?_)
   ·intro c22 h;refine rU 4 R ?_;obtain⟨e6,ie6,h⟩:=H1 h;refine yE ie6 R R ?_;obtain⟨rv8,k8,h⟩:=H1 h;refine M6 (C4C k8) eK R R R R (tI h ?_) (fI h ?_)
    ·intro c23 h;refine eU 2 R (hN 3 R ?_);exact bk ⟨true,(W (x4+1)),R,h⟩ (.prn [3,4,5,8] R)
    intro c23 h;refine eU 2 R (hN 3 R ?_);exact bk ⟨false,(W (x4+1)),R,h⟩ (.prn [3,4,5,8] R)
   intro c22 h;refine eU 9 R (hN 3 R ?_);exact bk ⟨false,(W (x4+1)),R,h⟩ (.prn [3,4,5,8] R)
  intro h;refine Y9 (yX ?_);subst hK16;refine rY 2 R ?_;cases h;exact f1 4 R
 refine hU 2 R ?_;obtain⟨rv,k,h⟩:=H1 h;refine M6 (C4C k) eK R R R R (tI h ?_) (fI h ?_)
 ·intro c h;refine rU 5 R ?_;obtain⟨rv2,k2,h⟩:=H1 h;refine M6 (C4C k2) eK R R R R (tI h ?_) (fI h ?_)
  ·intro c2 h;refine rU 4 R (I7 tb R (rU 2 R (I7 tb R ?_)));refine Z3 R R R R (tJ h ?_) (nJ h ?_)
   ·intro h;refine rU 4 R (I7 tb R (rU 2 R (I7 tb R ?_)));refine Z3 R R R R (tJ h ?_) (nJ h ?_)
    ·intro h;refine rU 4 R (I7 tb R (rU 2 R (I7 tb R ?_)));refine Z3 R R R R (tJ h ?_) (nJ h ?_)
     ·intro h;refine nU 2 R (.inr (B8 (gY 1 R (E3 ?_))));refine C3X (fun K18 m st=>∃ (a:Bool) (y:Int),st=⟨[(2,rf 0 7),(3,rf 1 6),(4,dB false),(5,dB a),(6,dI y)],[bx 7 (.d (D5.d t)),bx 6 (.d (C3.d o))]⟩∧C6s F t o K18 m a y=some r) ⟨true,0,R,h⟩ (.prn [2,3,4,5,6] R) ?_;rintro K18 hK18 m18 _ ⟨a,y,rfl,h⟩;rw[C6s]at h;refine B8 (gU 3 R (I7 tb R ?_));refine Q4 R R R R (tJ h ?_) (lJ h ?_)
      ·intro h;refine Y9 (zT (B8 (E3 (T1 kR (rU 1 R ?_)))));refine X8 (tI h ?_) (fI h ?_)
       ·intro c7 h;refine rU 4 R ?_;obtain⟨e,ie,h⟩:=H1 h;refine yE ie R R (rU 2 R (I7 tb R (rU 1 R ?_)));obtain⟨rv3,k3,h⟩:=H1 h;refine M6 (C4C k3) eK R R R R (tI h ?_) (fI h ?_)
        ·intro c8 h;refine rU 2 R (I0 kR (hN 3 R ?_));exact bk ⟨true,(W (y+1)),R,h⟩ (.prn [2,3,4,5,6] R)
        intro c8 h;refine rU 2 R (I0 kR (hN 3 R ?_));exact bk ⟨false,(W (y+1)),R,h⟩ (.prn [2,3,4,5,6] R)
       intro c7 h;refine rU 13 R (I0 kR (hN 3 R ?_));exact bk ⟨false,(W (y+1)),R,h⟩ (.prn [2,3,4,5,6] R)
      intro h;refine Y9 (yX ?_);subst hK18;refine B8 (gY 1 R (E3 ?_));refine C3X (fun K20 m st=>∃ (a2:Bool) (x:Int),st=⟨[(2,rf 0 7),(3,rf 1 6),(4,dB false),(5,dB a2),(7,dI x)],[bx 7 (.d (D5.d t)),bx 6 (.d (C3.d o))]⟩∧C5K F t o K20 m a2 x=some r) ⟨a,0,R,h⟩ (.prn [2,3,4,5,7] R) ?_;rintro K20 hK20 m20 _ ⟨a2,x,rfl,h⟩;rw[C5K]at h;refine B8 (gU 3 R (I7 tb R ?_));refine Q4 R R R R (tJ h ?_) (lJ h ?_)
      ·intro h;refine Y9 (zT (B8 (E3 (T1 kR (rU 1 R ?_)))));refine X8 (tI h ?_) (fI h ?_)
       ·intro c10 h;refine rU 4 R ?_;obtain⟨e2,ie2,h⟩:=H1 h;refine yE ie2 R R (rU 2 R (I7 tb R (rU 1 R ?_)));obtain⟨rv4,k4,h⟩:=H1 h;refine M6 (C4C k4) eK R R R R (tI h ?_) (fI h ?_)
        ·intro c11 h;refine rU 2 R (I0 kR (hN 3 R ?_));exact bk ⟨true,(W (x+1)),R,h⟩ (.prn [2,3,4,5,7] R)
        intro c11 h;refine rU 2 R (I0 kR (hN 3 R ?_));exact bk ⟨false,(W (x+1)),R,h⟩ (.prn [2,3,4,5,7] R)
       intro c10 h;refine rU 13 R (I0 kR (hN 3 R ?_));exact bk ⟨false,(W (x+1)),R,h⟩ (.prn [2,3,4,5,7] R)
      intro h;refine Y9 (yX ?_);subst hK20;refine B8 (gY 1 R (E3 ?_));refine C3X (fun K22 m st=>∃ (a3:Bool) (x2:Int),st=⟨[(3,rf 0 6),(4,dB false),(5,dB a3),(8,dI x2)],[bx 6 (.d (C3.d o))]⟩∧C5E F o K22 m a3 x2=some r) ⟨a2,0,R,h⟩ (.vq [1]) ?_;rintro K22 hK22 m22 _ ⟨a3,x2,rfl,h⟩;rw[C5E]at h;refine B8 (gU 3 R (I7 tb R ?_));refine Q4 R R R R (tJ h ?_) (lJ h ?_)
      ·intro h;refine Y9 (zT (B8 (E3 (hU 1 R ?_))));refine X8 (tI h ?_) (fI h ?_)
       ·intro c13 h;refine rU 4 R ?_;obtain⟨e3,ie3,h⟩:=H1 h;refine yE ie3 R R ?_;obtain⟨rv5,k5,h⟩:=H1 h;refine M6 (C4C k5) eK R R R R (tI h ?_) (fI h ?_)
        ·intro c14 h;refine eU 2 R (hN 3 R ?_);exact bk ⟨true,(W (x2+1)),R,h⟩ (.prn [3,4,5,8] R)
        intro c14 h;refine eU 2 R (hN 3 R ?_);exact bk ⟨false,(W (x2+1)),R,h⟩ (.prn [3,4,5,8] R)
       intro c13 h;refine eU 9 R (hN 3 R ?_);exact bk ⟨false,(W (x2+1)),R,h⟩ (.prn [3,4,5,8] R)
      intro h;refine Y9 (yX ?_);subst hK22;refine rY 2 R ?_;cases h;exact f1 4 R
     intro h;refine nU 2 R ?_;exact .inl ⟨(),h,.prn [2,3,4,5] R⟩
    intro h;refine nU 11 R ?_;exact .inl ⟨(),h,.prn [2,3,4,5] R⟩
   intro h;refine nU 20 R ?_;exact .inl ⟨(),h,.prn [2,3,4,5] R⟩
  intro c2 h;refine nU 29 R ?_;exact .inl ⟨(),h,.prn [2,3,4,5] R⟩
 intro c h;refine nU 35 R ?_;exact .inl ⟨(),h,.prn [2,3,4,5] R⟩
def C8x (F:Nat) (s:C3) (zone:Int) (K:Int→Int→Option Int):Nat→Int→Int→Option Int
 | 0,_,_=>none
 | n+1,nv,i=>if i<(s.zones.length:Int)then((P3 s.zones i).bind fun e=>if e=zone then(C8x F s zone K n (W (nv+1)) (W (i+1)))else(C8x F s zone K n nv (W (i+1))))else(K nv i)
def C8L (F:Nat) (s:C3) (zone:Int):Option Int:=C8x F s zone (fun nv i=>some nv) F 0 0
theorem C8R {F s zone r} (h:C8L F s zone=some r):PC pg 225 [C3.d s,vI zone] (vI r):=by
 rw[C8L]at h;refine oW Tryz.func225 ?_;refine gY 2 R (gY 1 R (B8 (gY 1 R (E3 ?_))));refine C3X (fun K3 m st=>∃ (nv:Int) (i:Int),st=⟨[(1,dI zone),(2,rf 0 6),(4,dI 0),(5,dI nv),(6,dI i)],[bx 6 (.d (C3.d s))]⟩∧C8x F s zone K3 m nv i=some r) ⟨0,0,R,h⟩ (.prn [1,2,4,5,6] R) ?_;rintro K3 hK3 m3 _ ⟨nv,i,rfl,h⟩;rw[C8x]at h;refine B8 (gU 3 R (I7 tb R ?_));refine Q4 R R R R (tJ h ?_) (lJ h ?_)
 ·intro h;refine Y9 (zT (B8 (E3 (gU 3 R ?_))));obtain⟨e,ie,h⟩:=H1 h;refine yE ie R R (rU 1 R ?_);refine Z3 R R R R (tJ h ?_) (nJ h ?_)
  ·intro h;refine Y9 (C0 R (hE 3 R (hN 3 R ?_)));exact bk ⟨(W (nv+1)),(W (i+1)),R,h⟩ (.prn [1,2,4,5,6] R)
  intro h;refine Y9 (zF (hN 3 R ?_));exact bk ⟨nv,(W (i+1)),R,h⟩ (.prn [1,2,4,5,6] R)
 intro h;refine Y9 (yX ?_);subst hK3;refine rY 2 R ?_;cases h;exact f1 4 R
def C85 (F:Nat) (s:C3) (person:Int) (e:D1) (K:Int→Option Bool):Nat→Int→Option Bool
 | 0,_=>none
 | n+1,i=>if i<(e.keys.length:Int)then((P3 e.keys i).bind fun e2=>(P3 s.holder e2).bind fun e3=>if e3=person then(some true)else(C85 F s person e K n (W (i+1))))else(K i)
def C9X (F:Nat) (p:D5) (s:C3) (person squib:Int):Option Bool:=(P3 p.squibs squib).bind fun e=>C85 F s person e (fun i=>some false) F 0
theorem D1X {F p s person squib r} (h:C9X F p s person squib=some r):PC pg 233 [D5.d p,C3.d s,vI person,vI squib] (vB r):=by
 rw[C9X]at h;refine oW Tryz.func233 ?_;refine gY 3 R (gU 3 R ?_);obtain⟨e,ie,h⟩:=H1 h;refine xE ie R (rU 1 R (lE ie R (eU 1 R (B8 (gY 1 R (E3 ?_))))));refine C3X (fun K3 m st=>∃ (i:Int),st=⟨[(2,dI person),(5,rf 0 6),(8,dB false),(9,.d (aI e.keys)),(10,dI i)],[bx 6 (.d (C3.d s))]⟩∧C85 F s person e K3 m i=some r) ⟨0,R,h⟩ (.vq [1]) ?_;rintro K3 hK3 m3 _ ⟨i,rfl,h⟩;rw[C85]at h;refine B8 (gU 2 R (I7 tb R ?_));refine Q4 R R R R (tJ h ?_) (lJ h ?_)
 ·intro h;refine Y9 (zT (B8 (E3 (B8 (T1 kR (rU 4 R ?_))))));obtain⟨e2,ie2,h⟩:=H1 h;refine yE ie2 R R ?_;obtain⟨e3,ie3,h⟩:=H1 h;refine yE ie3 R R (rU 1 R ?_);refine Z3 R R R R (tJ h ?_) (nJ h ?_)
  ·intro h;refine I0 kR (cY 1 R ?_);cases h;exact f1 8 R
  intro h;refine I0 kR (zF (hN 3 R ?_));exact bk ⟨(W (i+1)),R,h⟩ (.prn [2,5,8,9,10] R)
 intro h;refine Y9 (yX ?_);subst hK3;refine rY 1 R ?_;cases h;exact f1 8 R
def C86 (F:Nat) (B3:Int→Option Bool) (q:Int):Option Bool:=B3 (W (q+1))
def C9u (F:Nat) (B3:Int→Option Bool) (p:D5) (s:C3) (person zone q:Int):Option Bool:=(P3 s.squibs q).bind fun e=>if e=2 then(C86 F B3 q)else((C9N F p zone q).bind fun rv=>if rv=true then((C9X F p s person q).bind fun rv2=>if rv2=true then(C86 F B3 q)else(some false))else(C86 F B3 q))
def C6M (F:Nat) (p:D5) (s:C3) (person zone:Int) (K:Int→Option Bool):Nat→Int→Option Bool
 | 0,_=>none
 | n+1,q=>if q<(p.squibs.length:Int)then(if 0≤zone then(C9u F (C6M F p s person zone K n) p s person zone q)else(K q))else(K q)
def C8q (F:Nat) (p:D5) (s:C3) (person zone:Int):Option Bool:=C6M F p s person zone (fun q=>some true) F 0
theorem C8Y {F p s person zone r} (h:C8q F p s person zone=some r):PC pg 226 [D5.d p,C3.d s,vI person,vI zone] (vB r):=by
 rw[C8q]at h;refine oW Tryz.func226 ?_;refine gY 3 R (B8 (gY 1 R (E3 ?_)));refine C3X (fun K3 m st=>∃ (q:Int),st=⟨[(2,dI person),(3,dI zone),(4,rf 0 7),(5,rf 1 6),(8,dB false),(9,dI q)],[bx 7 (.d (D5.d p)),bx 6 (.d (C3.d s))]⟩∧C6M F p s person zone K3 m q=some r) ⟨0,R,h⟩ (.prn [2,3,4,5,8,9] R) ?_;rintro K3 hK3 m3 _ ⟨q,rfl,h⟩;rw[C6M]at h;refine B8 ?_;refine W5 (fun zz:Unit=>C9u F (C6M F p s person zone K3 m3) p s person zone q=some r) (fun zz:Unit=>⟨[(2,dI person),(3,dI zone),(4,rf 0 7),(5,rf 1 6),(8,dB false),(9,dI q)],[bx 7 (.d (D5.d p)),bx 6 (.d (C3.d s))]⟩) ?_ ?_
 ·clear h;rintro⟨⟩ h;rw[C9u]at h;refine B8 ?_;refine W5 (fun zz:Unit=>C86 F (C6M F p s person zone K3 m3) q=some r) (fun zz:Unit=>⟨[(2,dI person),(3,dI zone),(4,rf 0 7),(5,rf 1 6),(8,dB false),(9,dI q)],[bx 7 (.d (D5.d p)),bx 6 (.d (C3.d s))]⟩) ?_ ?_
  ·clear h;rintro⟨⟩ h;rw[C86]at h;refine hN 3 R ?_;exact bk ⟨(W (q+1)),R,h⟩ (.prn [2,3,4,5,8,9] R)
  refine E3 (gU 3 R ?_);obtain⟨e,ie,h⟩:=H1 h;refine yE ie R R ?_;refine V5 R R R R (nJ h ?_) (tJ h ?_)
  ·intro h;refine rU 4 R ?_;obtain⟨rv,k,h⟩:=H1 h;refine M6 (D0u k) eK R R R R (tI h ?_) (fI h ?_)
   ·intro c4 h;refine rU 6 R ?_;obtain⟨rv2,k2,h⟩:=H1 h;refine M6 (D1X k2) eK R R R R (tI h ?_) (fI h ?_)
    ·intro c5 h;refine eU 2 R (zF (D3 (A6 ?_)));exact .inl ⟨(),h,.prn [2,3,4,5,8,9] R⟩
    intro c5 h;refine eU 2 R (cY 1 R ?_);cases h;exact f1 8 R
   intro c4 h;refine eU 9 R (zF (D3 (A6 ?_)));exact .inl ⟨(),h,.prn [2,3,4,5,8,9] R⟩
  intro h;refine eU 14 R (zF (D3 (A6 ?_)));exact .inl ⟨(),h,.prn [2,3,4,5,8,9] R⟩
 refine gU 3 R (I7 tb R ?_);refine Q4 R R R R (tJ h ?_) (lJ h ?_)
 ·intro h;refine rU 2 R ?_;refine A7I R R R R (tJ h ?_) (mJ h ?_)
  ·intro h;refine eU 1 R (zT (A6 ?_));exact .inl ⟨(),h,.prn [2,3,4,5,8,9] R⟩
  intro h;refine eU 1 R (yX ?_);subst hK3;refine rY 1 R ?_;cases h;exact f1 8 R
 intro h;refine eU 4 R (yX ?_);subst hK3;refine rY 1 R ?_;cases h;exact f1 8 R
def C7W (F:Nat) (s:C3) (e:D1) (K:(List Int)→Int→Option (List Int)):Nat→(List Int)→Int→Option (List Int)
 | 0,_,_=>none
 | n+1,out,i=>if i<(e.keys.length:Int)then((P3 e.keys i).bind fun e2=>(P3 s.holder e2).bind fun e3=>if e3=(-1)then(C7W F s e K n out (W (i+1)))else((A8i out [e2]).bind fun q=>C7W F s e K n q (W (i+1))))else(K out i)
def C9O (F:Nat) (p:D5) (s:C3) (squib:Int):Option (List Int):=(P3 p.squibs squib).bind fun e=>C7W F s e (fun out i=>some out) F ([]:List Int) 0
theorem C9Z {F p s squib r} (h:C9O F p s squib=some r):SCR pg 227 (ao T.d [D5.d p,C3.d s,vI squib]) [] (.row 0 1 0 (r).length) (ao some [(B7 r)]):=by
 rw[C9O]at h;refine oW Tryz.func227 ?_;refine gY 3 R (gY 1 R (gU 3 R ?_));obtain⟨e,ie,h⟩:=H1 h;refine xE ie R (rU 1 R (lE ie R (eU 1 R (B8 (gY 1 R (E3 (SW.ow 1 true 7 [] [4,6,7,8,9] R ?_)))))));refine C3X (fun K2 m st=>∃ (out:(List Int)) (i:Int),st=⟨[(4,rf 0 6),(6,dZ),(7,.row 1 1 0 (out).length),(8,.d (aI e.keys)),(9,dI i)],[bx 6 (.d (C3.d s)),B0u out]⟩∧C7W F s e K2 m out i=some r) ⟨([]:List Int),0,R,h⟩ (.vq [1,2]) ?_;rintro K2 hK2 m2 _ ⟨out,i,rfl,h⟩;rw[C7W]at h;refine B8 (gU 2 R (I7 tb R ?_));refine Q4 R R R R (tJ h ?_) (lJ h ?_)
 ·intro h;refine Y9 (zT (B8 (E3 (B8 (T1 kR (rU 4 R ?_))))));obtain⟨e2,ie2,h⟩:=H1 h;refine yE ie2 R R ?_;obtain⟨e3,ie3,h⟩:=H1 h;refine yE ie3 R R ?_;refine V5 R R R R (nJ h ?_) (tJ h ?_)
  ·intro h;refine I0 kR (C0 R (hU 3 R (yE ie2 R R (P7 tb R R R R R R R R R R R R R ?_))));obtain⟨q,iq,h⟩:=H1 h;refine B2k (g:=vI) (w:=out) (v:=[e2]) ([bx 6 (.d (C3.d s)),none,B0u [e2]]) tb R R R R R R R R R R R iq R R R R R (eU 1 R (hN 3 R ?_));exact bk ⟨q,(W (i+1)),R,h⟩ (.vq [0,3])
  intro h;refine I0 kR (zF (hN 3 R ?_));exact bk ⟨out,(W (i+1)),R,h⟩ (.prn [4,6,7,8,9] R)
 intro h;refine Y9 (yX ?_);subst hK2;refine rY 2 R ?_;cases h;exact f2 [1] C23 R (tC 6 .nil) R
theorem D3Q {F p s squib r} (h:C9O F p s squib=some r):PC pg 227 [D5.d p,C3.d s,vI squib] (aI r):=(C9Z h).toPC (.row rfl rfl)
def C8Z (F:Nat) (B3:Int→Option Bool) (a:Int):Option Bool:=B3 (W (a+1))
def C9a (F:Nat) (B6:Int→Option Bool) (x:Int):Option Bool:=B6 (W (x+1))
def C6a (F:Nat):Option Bool:=some false
def C9b (F:Nat) (B9:Int→Option Bool) (x2:Int):Option Bool:=B9 (W (x2+1))
def C6R (F:Nat) (t:D5) (o:C3) (K:Int→Option Bool):Nat→Int→Option Bool
 | 0,_=>none
 | n+1,x2=>if x2<(o.squibs.length:Int)then((P3 o.squibs x2).bind fun e5=>if e5=1 then((C9O F t o x2).bind fun rv4=>if 0<(rv4.length:Int)then(C6a F)else(if o.siren<0 then(C6a F)else(if o.storm=true then(C6a F)else(C9b F (C6R F t o K n) x2))))else(C9b F (C6R F t o K n) x2))else(K x2)
def C6W (F:Nat) (t:D5) (o:C3) (K:Int→Option Bool):Nat→Int→Option Bool
 | 0,_=>none
 | n+1,x=>if x<(o.zones.length:Int)then((P3 o.zones x).bind fun e2=>if 0≤e2 then((P3 t.people x).bind fun e3=>(P3 t.zones e2).bind fun e4=>if e3.grade<e4.grade then(C6a F)else((C8q F t o x e2).bind fun rv2=>if rv2=true then(C9a F (C6W F t o K n) x)else(C6a F)))else((C8q F t o x e2).bind fun rv3=>if rv3=true then(C9a F (C6W F t o K n) x)else(C6a F)))else(K x)
def C7e (F:Nat) (t:D5) (o:C3) (K:Int→Option Bool):Nat→Int→Option Bool
 | 0,_=>none
 | n+1,a=>if a<(t.zones.length:Int)then((C8L F o a).bind fun rv=>(P3 t.zones a).bind fun e=>if e.room<rv then(some false)else(if rv=1 then(if e.pair=true then(some false)else(C8Z F (C7e F t o K n) a))else(C8Z F (C7e F t o K n) a)))else(K a)
def D0a (F:Nat) (t:D5) (o:C3):Option Bool:=C7e F t o (fun a=>C6W F t o (fun x=>C6R F t o (fun x2=>some true) F 0) F 0) F 0
theorem D1Z {F t o r} (h:D0a F t o=some r):PC pg 207 [D5.d t,C3.d o] (vB r):=by
 rw[D0a]at h;refine oW Tryz.func207 ?_;refine gY 3 R (B8 (gY 1 R (E3 ?_)));refine C3X (fun K3 m st=>∃ (a:Int),st=⟨[(2,rf 0 7),(3,rf 1 6),(4,dB false),(5,dI a)],[bx 7 (.d (D5.d t)),bx 6 (.d (C3.d o))]⟩∧C7e F t o K3 m a=some r) ⟨0,R,h⟩ (.prn [2,3,4,5] R) ?_;rintro K3 hK3 m3 _ ⟨a,rfl,h⟩;rw[C7e]at h;refine B8 (gU 3 R (I7 tb R ?_));refine Q4 R R R R (tJ h ?_) (lJ h ?_)
 ·intro h;refine Y9 (zT (B8 ?_));refine W5 (fun zz:Unit=>C8Z F (C7e F t o K3 m3) a=some r) (fun zz:Unit=>⟨[(2,rf 0 7),(3,rf 1 6),(4,dB false),(5,dI a)],[bx 7 (.d (D5.d t)),bx 6 (.d (C3.d o))]⟩) ?_ ?_
  ·clear h;rintro⟨⟩ h;rw[C8Z]at h;refine hN 3 R ?_;exact bk ⟨(W (a+1)),R,h⟩ (.prn [2,3,4,5] R)
  refine E3 (gU 2 R ?_);obtain⟨rv,k,h⟩:=H1 h;refine J5 (C8R k) eK R R R R (eU 1 R (gU 4 R ?_));obtain⟨e,ie,h⟩:=H1 h;refine xE ie R (rU 1 R (lE ie R ?_));refine A4l R R R R (tJ h ?_) (lJ h ?_)
  ·intro h;refine eU 12 R (cY 1 R ?_);cases h;exact f1 4 R
  intro h;refine rU 2 R ?_;refine Z3 R R R R (tJ h ?_) (nJ h ?_)
  ·intro h;refine rU 4 R (xE ie R (rU 1 R (lE ie R ?_)));refine X8 (tI h ?_) (fI h ?_)
   ·intro c4 h;refine eU 2 R (cY 1 R ?_);cases h;exact f1 4 R
   intro c4 h;refine eU 2 R (zF (D3 (A6 ?_)));exact .inl ⟨(),h,.prn [2,3,4,5] R⟩
  intro h;refine eU 9 R (zF (D3 (A6 ?_)));exact .inl ⟨(),h,.prn [2,3,4,5] R⟩
 intro h;refine Y9 (yX ?_);subst hK3;refine B8 (gY 1 R (E3 ?_));refine C3X (fun K6 m st=>∃ (x:Int),st=⟨[(2,rf 0 7),(3,rf 1 6),(4,dB false),(7,dI x)],[bx 7 (.d (D5.d t)),bx 6 (.d (C3.d o))]⟩∧C6W F t o K6 m x=some r) ⟨0,R,h⟩ (.prn [2,3,4,7] R) ?_;rintro K6 hK6 m6 _ ⟨x,rfl,h⟩;rw[C6W]at h;refine B8 (gU 3 R (I7 tb R ?_));refine Q4 R R R R (tJ h ?_) (lJ h ?_)
 ·intro h;refine Y9 (zT (B8 ?_));refine W5 (fun zz:Unit=>C9a F (C6W F t o K6 m6) x=some r) (fun zz:Unit=>⟨[(2,rf 0 7),(3,rf 1 6),(4,dB false),(7,dI x)],[bx 7 (.d (D5.d t)),bx 6 (.d (C3.d o))]⟩) ?_ ?_
  ·clear h;rintro⟨⟩ h;rw[C9a]at h;refine hN 3 R ?_;exact bk ⟨(W (x+1)),R,h⟩ (.prn [2,3,4,7] R)
  refine E3 (B8 ?_);refine W5 (fun zz:Unit=>C6a F=some r) (fun zz:Unit=>⟨[(2,rf 0 7),(3,rf 1 6),(4,dB false),(7,dI x),(82,dB true)],[bx 7 (.d (D5.d t)),bx 6 (.d (C3.d o))]⟩) ?_ ?_
  ·clear h;rintro⟨⟩ h;rw[C6a]at h;refine cY 1 R ?_;cases h;exact f1 4 R
  refine T1 kR (rU 3 R ?_);obtain⟨e2,ie2,h⟩:=H1 h;refine yE ie2 R R ?_;refine A7I R R R R (tJ h ?_) (mJ h ?_)
  ·intro h;refine rU 4 R ?_;obtain⟨e3,ie3,h⟩:=H1 h;refine xE ie3 R (rU 1 R (lE ie3 R (rU 5 R (yE ie2 R R ?_))));obtain⟨e4,ie4,h⟩:=H1 h;refine xE ie4 R (rU 1 R (lE ie4 R ?_));refine Q4 R R R R (tJ h ?_) (lJ h ?_)
   ·intro h;refine rU 13 R (I0 kR (A6 ?_));exact .inl ⟨(),h,.prn [2,3,4,7,82] R⟩
   intro h;refine rU 8 R (yE ie2 R R ?_);obtain⟨rv2,k2,h⟩:=H1 h;refine M6 (C8Y k2) eK R R R R (tI h ?_) (fI h ?_)
   ·intro c8 h;refine rU 2 R (I0 kR (A6 (.inr (zF (D3 (A6 ?_))))));exact .inl ⟨(),h,.prn [2,3,4,7] R⟩
   intro c8 h;refine rU 2 R (I0 kR (A6 ?_));exact .inl ⟨(),h,.prn [2,3,4,7,82] R⟩
  intro h;refine rU 26 R (yE ie2 R R ?_);obtain⟨rv3,k3,h⟩:=H1 h;refine M6 (C8Y k3) eK R R R R (tI h ?_) (fI h ?_)
  ·intro c9 h;refine rU 2 R (I0 kR (A6 (.inr (zF (D3 (A6 ?_))))));exact .inl ⟨(),h,.prn [2,3,4,7] R⟩
  intro c9 h;refine rU 2 R (I0 kR (A6 ?_));exact .inl ⟨(),h,.prn [2,3,4,7,82] R⟩
 intro h;refine Y9 (yX ?_);subst hK6;refine B8 (gY 1 R (E3 ?_));refine C3X (fun K9 m st=>∃ (x2:Int),st=⟨[(2,rf 0 7),(3,rf 1 6),(4,dB false),(8,dI x2)],[bx 7 (.d (D5.d t)),bx 6 (.d (C3.d o))]⟩∧C6R F t o K9 m x2=some r) ⟨0,R,h⟩ (.prn [2,3,4,8] R) ?_;rintro K9 hK9 m9 _ ⟨x2,rfl,h⟩;rw[C6R]at h;refine B8 (gU 3 R (I7 tb R ?_));refine Q4 R R R R (tJ h ?_) (lJ h ?_)
 ·intro h;refine Y9 (zT (B8 ?_));refine W5 (fun zz:Unit=>C9b F (C6R F t o K9 m9) x2=some r) (fun zz:Unit=>⟨[(2,rf 0 7),(3,rf 1 6),(4,dB false),(8,dI x2)],[bx 7 (.d (D5.d t)),bx 6 (.d (C3.d o))]⟩) ?_ ?_
  ·clear h;rintro⟨⟩ h;rw[C9b]at h;refine hN 3 R ?_;exact bk ⟨(W (x2+1)),R,h⟩ (.prn [2,3,4,8] R)
  refine E3 (B8 ?_);refine W5 (fun zz:Unit=>C6a F=some r) (fun zz:Unit=>⟨[(2,rf 0 7),(3,rf 1 6),(4,dB false),(8,dI x2),(112,dB true)],[bx 7 (.d (D5.d t)),bx 6 (.d (C3.d o))]⟩) ?_ ?_
  ·clear h;rintro⟨⟩ h;rw[C6a]at h;refine cY 1 R ?_;cases h;exact f1 4 R
  refine hU 3 R ?_;obtain⟨e5,ie5,h⟩:=H1 h;refine yE ie5 R R ?_;refine Z3 R R R R (tJ h ?_) (nJ h ?_)
  ·intro h;refine rU 4 R ?_;obtain⟨rv4,k4,h⟩:=H1 h;refine A2X (C9Z k4) eK R R R ((.row .nil)) R R R (A8F tb R R R R R ?_);refine A4l R R R R (tJ h ?_) (lJ h ?_)
   ·intro h;refine nU 10 R ?_;exact .inl ⟨(),h,.vq [0,1]⟩
   intro h;refine rU 3 R ?_;refine Q4 R R R R (tJ h ?_) (lJ h ?_)
   ·intro h;refine nU 6 R ?_;exact .inl ⟨(),h,.vq [0,1]⟩
   intro h;refine rU 4 R ?_;refine X8 (tI h ?_) (fI h ?_)
   ·intro c14 h;refine nU 2 R ?_;exact .inl ⟨(),h,.vq [0,1]⟩
   intro c14 h;refine nU 2 R (.inr (zF (D3 (A6 ?_))));exact .inl ⟨(),h,.vq [0,1]⟩
  intro h;refine nU 17 R (.inr (zF (D3 (A6 ?_))));exact .inl ⟨(),h,.vq [0,1]⟩
 intro h;refine Y9 (yX ?_);subst hK9;refine rY 1 R ?_;cases h;exact f1 4 R
def C9K (F:Nat) (nv many:Int) (K:(List Int)→Int→Option (List Int)):Nat→(List Int)→Int→Option (List Int)
 | 0,_,_=>none
 | n+1,out,i=>if i<many then((A8i out [nv]).bind fun q=>C9K F nv many K n q (W (i+1)))else(K out i)
def C9J (F:Nat) (nv many:Int):Option (List Int):=C9K F nv many (fun out i=>some out) F ([]:List Int) 0
theorem C9t {F nv many r} (h:C9J F nv many=some r):SCR pg 159 (ao T.d [vI nv,vI many]) [] (.row 0 1 0 (r).length) (ao some [(B7 r)]):=by
 rw[C9J]at h;refine oW Tryz.func159 ?_;refine gY 1 R (gY 1 R (B8 (gY 1 R (E3 (SW.ow 1 true 5 [] [0,1,4,5,6] R ?_)))));refine C3X (fun K2 m st=>∃ (out:(List Int)) (i:Int),st=⟨[(0,dI nv),(1,dI many),(4,dZ),(5,.row 0 1 0 (out).length),(6,dI i)],[B0u out]⟩∧C9K F nv many K2 m out i=some r) ⟨([]:List Int),0,R,h⟩ (.prn [0,1,4,5,6] R) ?_;rintro K2 hK2 m2 _ ⟨out,i,rfl,h⟩;rw[C9K]at h;refine B8 (gU 2 R ?_);refine Q4 R R R R (tJ h ?_) (lJ h ?_)
 ·intro h;refine Y9 (zT (B8 (E3 (hU 2 R (P7 tb R R R R R R R R R R R R R ?_)))));obtain⟨q,iq,h⟩:=H1 h;refine B2k (g:=vI) (w:=out) (v:=[nv]) ([none,B0u [nv]]) tb R R R R R R R R R R R iq R R R R R (eU 1 R (hN 3 R ?_));exact bk ⟨q,(W (i+1)),R,h⟩ (.vq [2])
 intro h;refine Y9 (yX ?_);subst hK2;refine rY 2 R ?_;cases h;exact f2 [0] C23 R (tC 4 .nil) R
theorem D3P {F nv many r} (h:C9J F nv many=some r):PC pg 159 [vI nv,vI many] (aI r):=(C9t h).toPC (.row rfl rfl)
def C9l (F:Nat) (p:D5):Option (C3 × Int):=(C9C F p).bind fun rv=>if rv=0 then((C9J F (-1) (p.people.length:Int)).bind fun rv2=>(C9J F (-1) (p.keys.length:Int)).bind fun rv3=>(C9J F 0 (p.squibs.length:Int)).bind fun rv4=>some ((C3.mk 0 rv2 rv3 rv4 (-1) false),0))else(some ((C3.mk 0 ([]:List Int) ([]:List Int) ([]:List Int) 0 false),rv))
theorem D02 {F p r} (h:C9l F p=some r):SCR pg 82 (ao T.d [D5.d p]) [] (.tup [J2 r.1 0 1 2,dI r.2]) (ao some [(B7 r.1.zones),(B7 r.1.holder),(B7 r.1.squibs)]):=by
 rw[C9l]at h;refine oW Tryz.func82 ?_;refine gY 3 R (gU 1 R ?_);obtain⟨rv,k,h⟩:=H1 h;refine J5 (D0P k) eK R R R R (eU 1 R (B8 (gU 1 R ?_)));refine V5 R R R R (nJ h ?_) (tJ h ?_)
 ·intro h;refine Y9 (C0 R (qG (S1 (v := .d zP) tb R R cN R R R R R R (eU 3 R (SW.ow 1 false 1 [1] [2,3] R (SW.ow 1 false 1 [2] [2,3] R (SW.ow 1 false 1 [3] [2,3] R (C9 ?_))))))));cases h;exact f2 [2,3,4] C1o R (qC R (tC 3 .nil)) R
 intro h;refine Y9 (zF (B8 (T1 kR (rU 2 R (I7 tb R ?_)))));obtain⟨rv2,k2,h⟩:=H1 h;refine A2X (C9t k2) eK R R R ((.row .nil)) R R R (rU 2 R (I7 tb R ?_));obtain⟨rv3,k3,h⟩:=H1 h;refine A2X (C9t k3) eK R R R ((.row .nil)) R R R (rU 2 R (I7 tb R ?_));obtain⟨rv4,k4,h⟩:=H1 h;refine A2X (C9t k4) eK R R R ((.row .nil)) R R R (S1 (v:=J2 (C3.mk 0 rv2 rv3 rv4 (-1) false) 2 3 4) tb R R cN R R R R R R (rU 2 R (I0 kR (C9 ?_))));cases h;exact f2 [2,3,4] C1o R (qC R (tC 3 .nil)) R
theorem D1T {F p r} (h:C9l F p=some r):PC pg 82 [D5.d p] (.tup [C3.d r.1,vI r.2]):=(D02 h).toPC (.tupL (.cons (.aggL (.cons (.d _) (.cons (.row rfl rfl) (.cons (.row rfl rfl) (.cons (.row rfl rfl) (.cons (.d _) (.cons (.d _) .nil))))))) (.cons (.d _) .nil)))
def C6n (F:Nat) (e:Int):Option Int:=some e
def C8p (F:Nat) (p:D5) (s:C3):Option Int:=(C9C F p).bind fun rv=>if rv=0 then((C99 F p s).bind fun rv2=>if rv2=true then((D0a F p s).bind fun rv3=>if rv3=true then(C6n F rv)else(C6n F 6))else(C6n F 6))else(C6n F rv)
theorem D0D {F p s r} (h:C8p F p s=some r):PC pg 164 [D5.d p,C3.d s] (vI r):=by
 rw[C8p]at h;refine oW Tryz.func164 ?_;refine gY 3 R (gU 1 R ?_);obtain⟨rv,k,h⟩:=H1 h;refine J5 (D0P k) eK R R R R (eU 1 R (B8 ?_));refine W5 (fun zz:Int=>C6n F zz=some r) (fun zz:Int=>⟨[(4,dI 0),(5,dI zz)],[]⟩) ?_ ?_
 ·clear h;rintro e h;rw[C6n]at h;refine rY 2 R ?_;cases h;exact f1 4 R
 refine gU 1 R ?_;refine Z3 R R R R (tJ h ?_) (nJ h ?_)
 ·intro h;refine rU 3 R ?_;obtain⟨rv2,k2,h⟩:=H1 h;refine M6 (D1G k2) eK R R R R (tI h ?_) (fI h ?_)
  ·intro c2 h;refine rU 4 R ?_;obtain⟨rv3,k3,h⟩:=H1 h;refine M6 (D1Z k3) eK R R R R (tI h ?_) (fI h ?_)
   ·intro c3 h;refine eU 3 R (zF (A6 ?_));exact .inl ⟨rv,h,.vq []⟩
   intro c3 h;refine eU 3 R (C0 R (hN 1 R ?_));exact .inl ⟨6,h,.vq []⟩
  intro c2 h;refine eU 8 R (C0 R (hN 1 R ?_));exact .inl ⟨6,h,.vq []⟩
 intro h;refine eU 12 R (zF (A6 ?_));exact .inl ⟨rv,h,.vq []⟩
def C96 (F:Nat) (t:D5) (o:D2):Option Int:=(C7m F o.with_ 0 (W ((t.people.length:Int)-1))).bind fun rv8=>if rv8=true then(if o.with_=o.who then(some 2)else(some 0))else(some 4)
def C97 (F:Nat) (t:D5) (o:D2):Option Int:=if o.kind=1 then(if o.with_=(-1)then(some 0)else(C96 F t o))else(C96 F t o)
def C8l (F:Nat) (t:D5) (o:D2):Option Int:=if o.kind=1 then(C97 F t o)else(if o.kind=4 then(C97 F t o)else(if o.with_=(-1)then(some 0)else(some 2)))
def D2M (F:Nat) (t:D5) (o:D2):Option Int:=(C7m F o.what 0 (W ((t.squibs.length:Int)-1))).bind fun rv6=>if rv6=true then(C8l F t o)else(some 4)
def C9h (F:Nat) (t:D5) (o:D2):Option Int:=(C7m F o.what 0 (W ((t.keys.length:Int)-1))).bind fun rv5=>if rv5=true then(C8l F t o)else(some 4)
def C9i (F:Nat) (t:D5) (o:D2):Option Int:=(C7m F o.what 0 (W ((t.squibs.length:Int)-1))).bind fun rv5=>if rv5=true then(C8l F t o)else(some 4)
def D1h (F:Nat) (t:D5) (o:D2):Option Int:=(C7m F o.at_ 0 100000).bind fun rv=>if rv=true then((C7m F o.kind 1 9).bind fun rv2=>if rv2=true then((C7m F o.who 0 (W ((t.people.length:Int)-1))).bind fun rv3=>if rv3=true then(if o.kind=1 then(if o.what=(-1)then(C8l F t o)else((C8T F t o.what).bind fun rv4=>if rv4=true then(C8l F t o)else(some 4)))else(if o.kind=2 then(C9h F t o)else(if o.kind=3 then(C9h F t o)else(if o.kind=4 then(C9h F t o)else(if o.kind=5 then(C9i F t o)else(if o.kind=6 then(C9i F t o)else(if o.kind=7 then(C9i F t o)else((C7m F o.what 0 1).bind fun rv5=>if rv5=true then(C8l F t o)else(some 2)))))))))else(some 4))else(some 2))else(some 7)
theorem D2O {F t o r} (h:D1h F t o=some r):PC pg 165 [D5.d t,D2.d o] (vI r):=by
 rw[D1h]at h;refine oW Tryz.func165 ?_;refine gY 3 R (B8 (gU 2 R ?_));obtain⟨rv,k,h⟩:=H1 h;refine M6 (C4C k) eK R R R R (tI h ?_) (fI h ?_)
 ·intro c h;refine eU 1 R (zF (B8 (gU 2 R ?_)));obtain⟨rv2,k2,h⟩:=H1 h;refine M6 (C4C k2) eK R R R R (tI h ?_) (fI h ?_)
  ·intro c2 h;refine eU 1 R (zF (B8 (gU 4 R (I7 tb R (rU 1 R ?_)))));obtain⟨rv3,k3,h⟩:=H1 h;refine M6 (C4C k3) eK R R R R (tI h ?_) (fI h ?_)
   ·intro c3 h;refine eU 1 R (zF (B8 ?_));refine W5 (fun zz:Unit=>C8l F t o=some r) (fun zz:Unit=>⟨[(2,rf 0 7),(3,rf 1 5),(4,dI 0)],[bx 7 (.d (D5.d t)),bx 5 (.d (D2.d o))]⟩) ?_ ?_
    ·clear h;rintro⟨⟩ h;rw[C8l]at h;refine B8 ?_;refine W5 (fun zz:Unit=>C97 F t o=some r) (fun zz:Unit=>⟨[(2,rf 0 7),(3,rf 1 5),(4,dI 0)],[bx 7 (.d (D5.d t)),bx 5 (.d (D2.d o))]⟩) ?_ ?_
     ·clear h;rintro⟨⟩ h;rw[C97]at h;refine B8 ?_;refine W5 (fun zz:Unit=>C96 F t o=some r) (fun zz:Unit=>⟨[(2,rf 0 7),(3,rf 1 5),(4,dI 0)],[bx 7 (.d (D5.d t)),bx 5 (.d (D2.d o))]⟩) ?_ ?_
      ·clear h;rintro⟨⟩ h;rw[C96]at h;refine B8 (gU 4 R (I7 tb R (rU 1 R ?_)));obtain⟨rv8,k8,h⟩:=H1 h;refine M6 (C4C k8) eK R R R R (tI h ?_) (fI h ?_)
       ·intro c21 h;refine eU 1 R (zF (B8 (gU 4 R ?_)));refine Z3 R R R R (tJ h ?_) (nJ h ?_)
        ·intro h;refine Y9 (cY 1 R ?_);cases h;exact f1 4 R
        intro h;refine Y9 (zF (rY 1 R ?_));cases h;exact f1 4 R
       intro c21 h;refine eU 1 R (cY 1 R ?_);cases h;exact f1 4 R
      refine gU 2 R ?_;refine Z3 R R R R (tJ h ?_) (nJ h ?_)
      ·intro h;refine rU 3 R ?_;refine Z3 R R R R (tJ h ?_) (nJ h ?_)
       ·intro h;refine eU 1 R (cY 1 R ?_);cases h;exact f1 4 R
       intro h;refine eU 1 R (zF (A6 ?_));exact .inl ⟨(),h,.prn [2,3,4] R⟩
      intro h;refine eU 5 R (zF (A6 ?_));exact .inl ⟨(),h,.prn [2,3,4] R⟩
     refine gU 2 R ?_;refine V5 R R R R (nJ h ?_) (tJ h ?_)
     ·intro h;refine rU 3 R ?_;refine V5 R R R R (nJ h ?_) (tJ h ?_)
      ·intro h;refine eU 1 R (C0 R (B8 (gU 2 R ?_)));refine V5 R R R R (nJ h ?_) (tJ h ?_)
       ·intro h;refine Y9 (cY 1 R ?_);cases h;exact f1 4 R
       intro h;refine Y9 (zF (rY 1 R ?_));cases h;exact f1 4 R
      intro h;refine eU 1 R (zF (A6 ?_));exact .inl ⟨(),h,.prn [2,3,4] R⟩
     intro h;refine eU 5 R (zF (A6 ?_));exact .inl ⟨(),h,.prn [2,3,4] R⟩
    refine gY 2 R (E3 (qG ?_));refine Z3 R R R R (tJ h ?_) (nJ h ?_)
    ·intro h;refine eU 1 R (C0 R (gU 2 R ?_));refine V5 R R R R (nJ h ?_) (tJ h ?_)
     ·intro h;refine rU 4 R ?_;obtain⟨rv4,k4,h⟩:=H1 h;refine M6 (C9p k4) eK R R R R (tI h ?_) (fI h ?_)
      ·intro c6 h;refine eU 2 R (zF (D3 (A6 ?_)));exact .inl ⟨(),h,.prn [2,3,4] R⟩
      intro c6 h;refine eU 2 R (cY 1 R ?_);cases h;exact f1 4 R
     intro h;refine eU 7 R (zF (D3 (A6 ?_)));exact .inl ⟨(),h,.prn [2,3,4] R⟩
    intro h;refine eU 1 R (C1 R (B8 ?_));refine W5 (fun zz:Unit=>C9h F t o=some r) (fun zz:Unit=>⟨[(2,rf 0 7),(3,rf 1 5),(4,dI 0),(22,dI o.kind),(39,dB true)],[bx 7 (.d (D5.d t)),bx 5 (.d (D2.d o))]⟩) ?_ ?_
    ·clear h;rintro⟨⟩ h;rw[C9h]at h;refine C0 R (gU 4 R (I7 tb R (rU 1 R ?_)));obtain⟨rv5,k5,h⟩:=H1 h;refine M6 (C4C k5) eK R R R R (tI h ?_) (fI h ?_)
     ·intro c10 h;refine eU 1 R (zF (D3 (A6 ?_)));exact .inl ⟨(),h,.prn [2,3,4] R⟩
     intro c10 h;refine eU 1 R (cY 1 R ?_);cases h;exact f1 4 R
    refine qG ?_;refine Z3 R R R R (tJ h ?_) (nJ h ?_)
    ·intro h;refine eU 1 R (zT (A6 ?_));exact .inl ⟨(),h,.prn [2,3,4,22,39] R⟩
    intro h;refine eU 1 R (C1 R (qG ?_));refine Z3 R R R R (tJ h ?_) (nJ h ?_)
    ·intro h;refine eU 1 R (zT (A6 ?_));exact .inl ⟨(),h,.prn [2,3,4,22,39] R⟩
    intro h;refine eU 1 R (C1 R (J1 ?_));refine Z3 R R R R (tJ h ?_) (nJ h ?_)
    ·intro h;refine nU 1 R ?_;exact .inl ⟨(),h,.prn [2,3,4,22,39] R⟩
    intro h;refine nU 1 R (.inr (C1 R (B8 ?_)));refine W5 (fun zz:Unit=>C9i F t o=some r) (fun zz:Unit=>⟨[(2,rf 0 7),(3,rf 1 5),(4,dI 0),(51,dB true)],[bx 7 (.d (D5.d t)),bx 5 (.d (D2.d o))]⟩) ?_ ?_
    ·clear h;rintro⟨⟩ h;rw[C9i]at h;refine C0 R (gU 4 R (I7 tb R (rU 1 R ?_)));obtain⟨rv5,k5,h⟩:=H1 h;refine M6 (C4C k5) eK R R R R (tI h ?_) (fI h ?_)
     ·intro c13 h;refine eU 1 R (zF (D3 (A6 ?_)));exact .inl ⟨(),h,.prn [2,3,4] R⟩
     intro c13 h;refine eU 1 R (cY 1 R ?_);cases h;exact f1 4 R
    refine qG ?_;refine Z3 R R R R (tJ h ?_) (nJ h ?_)
    ·intro h;refine eU 1 R (zT (A6 ?_));exact .inl ⟨(),h,.prn [2,3,4,51] R⟩
    intro h;refine eU 1 R (C1 R (qG ?_));refine Z3 R R R R (tJ h ?_) (nJ h ?_)
    ·intro h;refine eU 1 R (zT (A6 ?_));exact .inl ⟨(),h,.prn [2,3,4,51] R⟩
    intro h;refine eU 1 R (C1 R (J1 ?_));refine Z3 R R R R (tJ h ?_) (nJ h ?_)
    ·intro h;refine nU 1 R ?_;exact .inl ⟨(),h,.prn [2,3,4,51] R⟩
    intro h;refine nU 1 R (.inr (C1 R (gU 2 R ?_)));obtain⟨rv5,k5,h⟩:=H1 h;refine M6 (C4C k5) eK R R R R (tI h ?_) (fI h ?_)
    ·intro c13 h;refine eU 1 R (zF (D3 (A6 ?_)));exact .inl ⟨(),h,.prn [2,3,4] R⟩
    intro c13 h;refine eU 1 R (cY 1 R ?_);cases h;exact f1 4 R
   intro c3 h;refine eU 1 R (cY 1 R ?_);cases h;exact f1 4 R
  intro c2 h;refine eU 1 R (cY 1 R ?_);cases h;exact f1 4 R
 intro c h;refine eU 1 R (cY 1 R ?_);cases h;exact f1 4 R
def C9I (F:Nat) (s:C3):Option C3:=(A8i ([]:List Int) s.zones).bind fun q=>(A8i ([]:List Int) s.holder).bind fun q2=>(A8i ([]:List Int) s.squibs).bind fun q3=>some {s with zones:=q,holder:=q2,squibs:=q3}
theorem C9U {F s r} (h:C9I F s=some r):SCR pg 205 (ao T.d [C3.d s]) [] (J2 r 0 1 2) (ao some [(B7 r.zones),(B7 r.holder),(B7 r.squibs)]):=by
 rw[C9I]at h;refine oW Tryz.func205 ?_;refine gY 2 R (B8 (T1 kR (P7 tb R R R R R R R R R R R R R (rU 2 R ?_))));obtain⟨q,iq,h⟩:=H1 h;refine C3k (g:=vI) (w:=([]:List Int)) (v:=s.zones) ([bx 6 (.d (C3.d s)),bx 6 (.d zP),none]) tb R R R R R R R R (by intro _;exact R) iq R R R R R (P7 tb R R R R R R R R R R R R R (rU 2 R ?_));obtain⟨q2,iq2,h⟩:=H1 h;refine C3k (g:=vI) (w:=([]:List Int)) (v:=s.holder) ([bx 6 (.d (C3.d s)),bx 6 (.d zP),none,B0u q,none]) tb R R R R R R R R (by intro _;exact R) iq2 R R R R R (P7 tb R R R R R R R R R R R R R (rU 2 R ?_));obtain⟨q3,iq3,h⟩:=H1 h;refine C3k (g:=vI) (w:=([]:List Int)) (v:=s.squibs) ([bx 6 (.d (C3.d s)),bx 6 (.d zP),none,B0u q,none,B0u q2,none]) tb R R R R R R R R (by intro _;exact R) iq3 R R R R R (rU 6 R (I0 kR (rY 2 R ?_)));cases h;exact f2 [3,5,7] C1o R (qC R .nil) R
theorem D3M {F s r} (h:C9I F s=some r):PC pg 205 [C3.d s] (C3.d r):=(C9U h).toPC (.aggL (.cons (.d _) (.cons (.row rfl rfl) (.cons (.row rfl rfl) (.cons (.row rfl rfl) (.cons (.d _) (.cons (.d _) .nil)))))))
def C8w (F:Nat) (B3:Int→Option Bool) (i:Int):Option Bool:=B3 (W (i+1))
def C8Q (F:Nat):Option Bool:=some true
def C7l (F:Nat) (p:D5) (a b:Int) (K:Int→Option Bool):Nat→Int→Option Bool
 | 0,_=>none
 | n+1,i=>if i<(p.doors.length:Int)then((P3 p.doors i).bind fun e=>if e.a=a then(if e.b=b then(C8Q F)else(if e.a=b then(if e.b=a then(C8Q F)else(C8w F (C7l F p a b K n) i))else(C8w F (C7l F p a b K n) i)))else(if e.a=b then(if e.b=a then(C8Q F)else(C8w F (C7l F p a b K n) i))else(C8w F (C7l F p a b K n) i)))else(K i)
def D1a (F:Nat) (p:D5) (a b:Int):Option Bool:=C7l F p a b (fun i=>some false) F 0
theorem D2v {F p a b r} (h:D1a F p a b=some r):PC pg 228 [D5.d p,vI a,vI b] (vB r):=by
 rw[D1a]at h;refine oW Tryz.func228 ?_;refine gY 2 R (B8 (gY 1 R (E3 ?_)));refine C3X (fun K3 m st=>∃ (i:Int),st=⟨[(1,dI a),(2,dI b),(3,rf 0 7),(6,dB false),(7,dI i)],[bx 7 (.d (D5.d p))]⟩∧C7l F p a b K3 m i=some r) ⟨0,R,h⟩ (.prn [1,2,3,6,7] R) ?_;rintro K3 hK3 m3 _ ⟨i,rfl,h⟩;rw[C7l]at h;refine B8 (gU 3 R (I7 tb R ?_));refine Q4 R R R R (tJ h ?_) (lJ h ?_)
 ·intro h;refine Y9 (zT (B8 ?_));refine W5 (fun zz:Unit=>C8w F (C7l F p a b K3 m3) i=some r) (fun zz:Unit=>⟨[(1,dI a),(2,dI b),(3,rf 0 7),(6,dB false),(7,dI i)],[bx 7 (.d (D5.d p))]⟩) ?_ ?_
  ·clear h;rintro⟨⟩ h;rw[C8w]at h;refine hN 3 R ?_;exact bk ⟨(W (i+1)),R,h⟩ (.prn [1,2,3,6,7] R)
  refine E3 (gU 3 R ?_);obtain⟨e,ie,h⟩:=H1 h;refine yE ie R R (eU 2 R (B8 ?_));refine W5 (fun zz:Unit=>C8Q F=some r) (fun zz:Unit=>⟨[(1,dI a),(2,dI b),(3,rf 0 7),(6,dB false),(7,dI i),(42,dB true)],[bx 7 (.d (D5.d p))]⟩) ?_ ?_
  ·clear h;rintro⟨⟩ h;rw[C8Q]at h;refine cY 1 R ?_;cases h;exact f1 6 R
  refine hU 3 R ?_;refine Z3 R R R R (tJ h ?_) (nJ h ?_)
  ·intro h;refine rU 4 R ?_;refine Z3 R R R R (tJ h ?_) (nJ h ?_)
   ·intro h;refine nU 13 R ?_;exact .inl ⟨(),h,.vq [0]⟩
   intro h;refine rU 5 R ?_;refine Z3 R R R R (tJ h ?_) (nJ h ?_)
   ·intro h;refine rU 4 R ?_;refine Z3 R R R R (tJ h ?_) (nJ h ?_)
    ·intro h;refine nU 2 R ?_;exact .inl ⟨(),h,.vq [0]⟩
    intro h;refine nU 2 R (.inr (zF (D3 (A6 ?_))));exact .inl ⟨(),h,.vq [0]⟩
   intro h;refine nU 7 R (.inr (zF (D3 (A6 ?_))));exact .inl ⟨(),h,.vq [0]⟩
  intro h;refine rU 10 R ?_;refine Z3 R R R R (tJ h ?_) (nJ h ?_)
  ·intro h;refine rU 4 R ?_;refine Z3 R R R R (tJ h ?_) (nJ h ?_)
   ·intro h;refine nU 2 R ?_;exact .inl ⟨(),h,.vq [0]⟩
   intro h;refine nU 2 R (.inr (zF (D3 (A6 ?_))));exact .inl ⟨(),h,.vq [0]⟩
  intro h;refine nU 7 R (.inr (zF (D3 (A6 ?_))));exact .inl ⟨(),h,.vq [0]⟩
 intro h;refine Y9 (yX ?_);subst hK3;refine rY 1 R ?_;cases h;exact f1 6 R
def C83 (F:Nat) (p:D5) (s:C3) (person zone:Int):Option Int:=(C8q F p s person zone).bind fun rv2=>if rv2=true then(some 0)else(some 174)
def C8X (F:Nat) (B3:Int→Option Int) (q:Int):Option Int:=B3 (W (q+1))
def C9s (F:Nat) (B3:Int→Option Int) (p:D5) (s:C3) (zone q:Int):Option Int:=(P3 s.squibs q).bind fun e3=>if e3=2 then(C8X F B3 q)else((C9N F p zone q).bind fun rv=>if rv=true then(some 173)else(C8X F B3 q))
def C69 (F:Nat) (p:D5) (s:C3) (zone:Int) (K:Int→Option Int):Nat→Int→Option Int
 | 0,_=>none
 | n+1,q=>if q<(p.squibs.length:Int)then(if s.storm=true then(C9s F (C69 F p s zone K n) p s zone q)else(K q))else(K q)
def C98 (F:Nat) (p:D5) (s:C3) (person zone:Int):Option Int:=if zone<0 then(some 0)else((P3 p.people person).bind fun e=>(P3 p.zones zone).bind fun e2=>if e.grade<e2.grade then(some 172)else(C69 F p s zone (fun q=>C83 F p s person zone) F 0))
theorem D0L {F p s person zone r} (h:C98 F p s person zone=some r):PC pg 229 [D5.d p,C3.d s,vI person,vI zone] (vI r):=by
 rw[C98]at h;refine oW Tryz.func229 ?_;refine gY 3 R (B8 (gU 1 R ?_));refine Q4 R R R R (tJ h ?_) (lJ h ?_)
 ·intro h;refine Y9 (cY 1 R ?_);cases h;exact f1 8 R
 intro h;refine Y9 (zF (B8 (B8 (T1 kR (rU 3 R ?_)))));obtain⟨e,ie,h⟩:=H1 h;refine xE ie R (rU 1 R (lE ie R (rU 3 R ?_)));obtain⟨e2,ie2,h⟩:=H1 h;refine xE ie2 R (rU 1 R (lE ie2 R ?_));refine Q4 R R R R (tJ h ?_) (lJ h ?_)
 ·intro h;refine I0 kR (cY 1 R ?_);cases h;exact f1 8 R
 intro h;refine I0 kR (zF (B8 ?_));refine W5 (fun zz:Unit=>C83 F p s person zone=some r) (fun zz:Unit=>⟨[(2,dI person),(3,dI zone),(4,rf 0 7),(5,rf 1 6),(8,dI 0)],[bx 7 (.d (D5.d p)),bx 6 (.d (C3.d s))]⟩) ?_ ?_
 ·clear h;rintro⟨⟩ h;rw[C83]at h;refine B8 (gU 4 R ?_);obtain⟨rv2,k2,h⟩:=H1 h;refine M6 (C8Y k2) eK R R R R (tI h ?_) (fI h ?_)
  ·intro c7 h;refine eU 1 R (zF (rY 1 R ?_));cases h;exact f1 8 R
  intro c7 h;refine eU 1 R (cY 1 R ?_);cases h;exact f1 8 R
 refine gY 1 R (E3 ?_);refine C3X (fun K3 m st=>∃ (q:Int),st=⟨[(2,dI person),(3,dI zone),(4,rf 0 7),(5,rf 1 6),(8,dI 0),(9,dI q)],[bx 7 (.d (D5.d p)),bx 6 (.d (C3.d s))]⟩∧C69 F p s zone K3 m q=some r) ⟨0,R,h⟩ (.prn [2,3,4,5,8,9] R) ?_;rintro K3 hK3 m3 _ ⟨q,rfl,h⟩;rw[C69]at h;refine B8 ?_;refine W5 (fun zz:Unit=>C9s F (C69 F p s zone K3 m3) p s zone q=some r) (fun zz:Unit=>⟨[(2,dI person),(3,dI zone),(4,rf 0 7),(5,rf 1 6),(8,dI 0),(9,dI q)],[bx 7 (.d (D5.d p)),bx 6 (.d (C3.d s))]⟩) ?_ ?_
 ·clear h;rintro⟨⟩ h;rw[C9s]at h;refine B8 ?_;refine W5 (fun zz:Unit=>C8X F (C69 F p s zone K3 m3) q=some r) (fun zz:Unit=>⟨[(2,dI person),(3,dI zone),(4,rf 0 7),(5,rf 1 6),(8,dI 0),(9,dI q)],[bx 7 (.d (D5.d p)),bx 6 (.d (C3.d s))]⟩) ?_ ?_
  ·clear h;rintro⟨⟩ h;rw[C8X]at h;refine hN 3 R ?_;exact bk ⟨(W (q+1)),R,h⟩ (.prn [2,3,4,5,8,9] R)
  refine E3 (gU 3 R ?_);obtain⟨e3,ie3,h⟩:=H1 h;refine yE ie3 R R ?_;refine V5 R R R R (nJ h ?_) (tJ h ?_)
  ·intro h;refine rU 4 R ?_;obtain⟨rv,k,h⟩:=H1 h;refine M6 (D0u k) eK R R R R (tI h ?_) (fI h ?_)
   ·intro c6 h;refine eU 1 R (cY 1 R ?_);cases h;exact f1 8 R
   intro c6 h;refine eU 1 R (zF (D3 (A6 ?_)));exact .inl ⟨(),h,.prn [2,3,4,5,8,9] R⟩
  intro h;refine eU 6 R (zF (D3 (A6 ?_)));exact .inl ⟨(),h,.prn [2,3,4,5,8,9] R⟩
 refine gU 3 R (I7 tb R ?_);refine Q4 R R R R (tJ h ?_) (lJ h ?_)
 ·intro h;refine rU 3 R ?_;refine X8 (tI h ?_) (fI h ?_)
  ·intro c4 h;refine eU 1 R (zT (A6 ?_));exact .inl ⟨(),h,.prn [2,3,4,5,8,9] R⟩
  intro c4 h;refine eU 1 R (yX ?_);subst hK3;refine I5 (A6 ?_);exact .inl ⟨(),h,.prn [2,3,4,5,8] R⟩
 intro h;refine eU 4 R (yX ?_);subst hK3;refine I5 (A6 ?_);exact .inl ⟨(),h,.prn [2,3,4,5,8] R⟩
def C9z (F:Nat) (o:C3) (rv4:(List Int)):Option (C3 × Int × C3):=some ({o with zones:=rv4},0,{o with zones:=rv4})
def C74 (F:Nat) (o:C3) (rv4:(List Int)):Option (C3 × Int × C3):=some ({o with zones:=rv4},176,{o with zones:=rv4})
def C5f (F:Nat) (o:C3) (rv4:(List Int)):Option (C3 × Int × C3):=C9z F o rv4
def C7M (F:Nat) (t:D5) (o:C3) (a:D2) (e:Int) (rv4:(List Int)):Option (C3 × Int × C3):=if 0≤a.what then((P3 t.zones a.what).bind fun e5=>if e5.pair=true then((C8L F {o with zones:=rv4} a.what).bind fun rv6=>if rv6=1 then(C74 F o rv4)else(if 0≤e then((P3 t.zones e).bind fun e6=>if e6.pair=true then((C8L F {o with zones:=rv4} e).bind fun rv7=>if rv7=1 then(C74 F o rv4)else(C5f F o rv4))else(C5f F o rv4))else(C5f F o rv4)))else(if 0≤e then((P3 t.zones e).bind fun e7=>if e7.pair=true then((C8L F {o with zones:=rv4} e).bind fun rv8=>if rv8=1 then(C74 F o rv4)else(C5f F o rv4))else(C5f F o rv4))else(C5f F o rv4)))else(if 0≤e then((P3 t.zones e).bind fun e8=>if e8.pair=true then((C8L F {o with zones:=rv4} e).bind fun rv9=>if rv9=1 then(C74 F o rv4)else(C5f F o rv4))else(C5f F o rv4))else(C5f F o rv4))
def C7O (F:Nat) (t:D5) (o:C3) (a:D2) (e:Int) (rv4:(List Int)):Option (C3 × Int × C3):=if 0≤a.what then((C8L F {o with zones:=rv4} a.what).bind fun rv5=>(P3 t.zones a.what).bind fun e4=>if e4.room<rv5 then(some ({o with zones:=rv4},175,{o with zones:=rv4}))else(C7M F t o a e rv4))else(C7M F t o a e rv4)
def C6N (F:Nat) (t:D5) (o:C3) (a:D2) (e x:Int):Option (C3 × Int × C3):=if x=0 then((A5g o.zones a.who a.what).bind fun q=>if 0≤a.with_ then((P3 q a.with_).bind fun e3=>(A5g q a.with_ a.what).bind fun q2=>C7O F t o a e q2)else(C7O F t o a e q))else(some (o,x,o))
def C7P (F:Nat) (t:D5) (o:C3) (a:D2) (e:Int):Option (C3 × Int × C3):=(C98 F t o a.who a.what).bind fun rv2=>if rv2=0 then(if 0≤a.with_ then((C98 F t o a.with_ a.what).bind fun rv3=>C6N F t o a e rv3)else(C6N F t o a e rv2))else(C6N F t o a e rv2)
def C9o (F:Nat) (t:D5) (o:C3) (a:D2):Option (C3 × Int × C3):=(P3 o.zones a.who).bind fun e=>(D1a F t e a.what).bind fun rv=>if rv=true then(if 0≤a.with_ then((P3 o.zones a.with_).bind fun e2=>if e2=e then(C7P F t o a e)else(some (o,171,o)))else(C7P F t o a e))else(some (o,171,o))
theorem D1i {F t o a r} (h:C9o F t o a=some r):SCR pg 208 [.d (D5.d t),J2 o 0 1 2,.d (D2.d a)] [B0u o.zones,B0u o.holder,B0u o.squibs] (.tup [J2 {r.1 with zones:=r.2.2.zones,holder:=r.2.2.holder,squibs:=r.2.2.squibs} 0 1 2,dI r.2.1]) [B0u r.2.2.zones,B0u r.2.2.holder,B0u r.2.2.squibs]:=by
 rw[C9o]at h;refine oW Tryz.func208 ?_;refine gY 5 R (gU 4 R ?_);obtain⟨e,ie,h⟩:=H1 h;refine Y1 tb R R R R R R (F0 ie) (ix1 ie) R R ?_;refine A15 (y:=vI e) tb R R R R (U5 (g:=fun a=>T.d (vI a)) ie) R R R R ?_;refine eU 1 R (B8 ?_);refine W5 (fun zz:Unit=>C7P F t o a e=some r) (fun zz:Unit=>⟨[(3,rf 3 7),(4,rf 4 6),(5,rf 5 5),(6,rf 6 6),(7,dI 0),(8,dI e)],[B0u o.zones,B0u o.holder,B0u o.squibs,bx 7 (.d (D5.d t)),bx 6 (J2 o 0 1 2),bx 5 (.d (D2.d a)),bx 6 (.d zP)]⟩) ?_ ?_
 ·clear h;rintro⟨⟩ h;rw[C7P]at h;refine gU 6 R ?_;obtain⟨rv2,k2,h⟩:=H1 h;refine A19 (D0L k2) R eK R R ((dL (.cons ld (dL (dL .nil))))) R R (eU 1 R (B8 ?_));refine W5 (fun zz:Int=>C6N F t o a e zz=some r) (fun zz:Int=>⟨[(3,rf 3 7),(4,rf 4 6),(5,rf 5 5),(6,rf 6 6),(7,dI 0),(8,dI e),(9,dI zz)],[B0u o.zones,B0u o.holder,B0u o.squibs,bx 7 (.d (D5.d t)),bx 6 (J2 o 0 1 2),bx 5 (.d (D2.d a)),bx 6 (.d zP)]⟩) ?_ ?_
  ·clear h;rintro x h;rw[C6N]at h;refine B8 (gU 1 R ?_);refine V5 R R R R (nJ h ?_) (tJ h ?_)
   ·intro h;refine Y9 (cY 4 R ?_);cases h;exact f2 [0,1,2] C1o R (qC R (tC 7 .nil)) R
   intro h;refine Y9 (zF (gU 6 R (Y1 tb R R R R R R (F0 ie) (ix1 ie) R R ?_)));obtain⟨q,iq,h⟩:=H1 h;refine A5d (a':=(a.what:Int)) tb R R R R ie R R R R iq R R ?_;dsimp only[au,av,J2];first | rw[A2a iq] | skip
   refine Y9 (B8 ?_);refine W5 (fun zz:(List Int)=>C7O F t o a e zz=some r) (fun zz:(List Int)=>⟨[(3,rf 3 7),(4,rf 4 6),(5,rf 5 5),(6,rf 6 6),(7,dI 0),(8,dI e)],[B0u zz,B0u o.holder,B0u o.squibs,bx 7 (.d (D5.d t)),bx 6 (J2 {o with zones:=zz} 0 1 2),bx 5 (.d (D2.d a)),bx 6 (.d zP)]⟩) ?_ ?_
   ·clear h;rintro rv4 h;rw[C7O]at h;refine B8 ?_;refine W5 (fun zz:Unit=>C7M F t o a e rv4=some r) (fun zz:Unit=>⟨[(3,rf 3 7),(4,rf 4 6),(5,rf 5 5),(6,rf 6 6),(7,dI 0),(8,dI e)],[B0u rv4,B0u o.holder,B0u o.squibs,bx 7 (.d (D5.d t)),bx 6 (J2 {o with zones:=rv4} 0 1 2),bx 5 (.d (D2.d a)),bx 6 (.d zP)]⟩) ?_ ?_
    ·clear h;rintro⟨⟩ h;rw[C7M]at h;refine B8 ?_;refine W5 (fun zz:Unit=>C9z F o rv4=some r) (fun zz:Unit=>⟨[(4,rf 3 6),(6,rf 4 6),(7,dI 0)],[B0u rv4,B0u o.holder,B0u o.squibs,bx 6 (J2 {o with zones:=rv4} 0 1 2),bx 6 (.d zP)]⟩) ?_ ?_
     ·clear h;rintro⟨⟩ h;rw[C9z]at h;refine rY 3 R ?_;cases h;exact f2 [0,1,2] C1o R (qC R (tC 7 .nil)) R
     refine B8 ?_;refine W5 (Sum.elim (fun zz:Unit=>C74 F o rv4=some r) (fun zz:Unit=>C5f F o rv4=some r)) (Sum.elim (fun zz:Unit=>⟨[(4,rf 3 6),(6,rf 4 6),(7,dI 0),(134,dB true)],[B0u rv4,B0u o.holder,B0u o.squibs,bx 6 (J2 {o with zones:=rv4} 0 1 2),bx 6 (.d zP)]⟩) (fun zz:Unit=>⟨[(4,rf 3 6),(6,rf 4 6),(7,dI 0),(134,dB false)],[B0u rv4,B0u o.holder,B0u o.squibs,bx 6 (J2 {o with zones:=rv4} 0 1 2),bx 6 (.d zP)]⟩)) ?_ ?_
     ·clear h;rintro(⟨⟩ | ⟨⟩) h
      ·dsimp only[Sum.elim]at h ⊢;rw[C74]at h;refine cY 3 R ?_;cases h;exact f2 [0,1,2] C1o R (qC R (tC 7 .nil)) R
      ·dsimp only[Sum.elim]at h ⊢;rw[C5f]at h;refine zF (A6 ?_);exact .inl ⟨(),h,.vq [0,1,2,3,4]⟩
     refine hU 2 R ?_;refine A7I R R R R (tJ h ?_) (mJ h ?_)
     ·intro h;refine rU 5 R ?_;obtain⟨e5,ie5,h⟩:=H1 h;refine xE ie5 R (rU 1 R (lE ie5 R ?_));refine X8 (tI h ?_) (fI h ?_)
      ·intro c11 h;refine rU 5 R ?_;obtain⟨rv6,k6,h⟩:=H1 h;refine A19 (C8R k6) R eK R R ((.cons ld (dL .nil))) R R ?_;refine Z3 R R R R (tJ h ?_) (nJ h ?_)
       ·intro h;refine nU 19 R ?_;exact .inl ⟨.inl (),h,.vq [0,1,2,4,6]⟩
       intro h;refine rU 3 R ?_;refine A7I R R R R (tJ h ?_) (mJ h ?_)
       ·intro h;refine rU 4 R ?_;obtain⟨e6,ie6,h⟩:=H1 h;refine xE ie6 R (rU 1 R (lE ie6 R ?_));refine X8 (tI h ?_) (fI h ?_)
        ·intro c14 h;refine rU 4 R ?_;obtain⟨rv7,k7,h⟩:=H1 h;refine A19 (C8R k7) R eK R R ((.cons ld (dL .nil))) R R ?_;refine Z3 R R R R (tJ h ?_) (nJ h ?_)
         ·intro h;refine nU 2 R ?_;exact .inl ⟨.inl (),h,.vq [0,1,2,4,6]⟩
         intro h;refine nU 2 R ?_;exact .inl ⟨.inr (()),h,.vq [0,1,2,4,6]⟩
        intro c14 h;refine nU 8 R ?_;exact .inl ⟨.inr (()),h,.vq [0,1,2,4,6]⟩
       intro h;refine nU 15 R ?_;exact .inl ⟨.inr (()),h,.vq [0,1,2,4,6]⟩
      intro c11 h;refine rU 10 R ?_;refine A7I R R R R (tJ h ?_) (mJ h ?_)
      ·intro h;refine rU 4 R ?_;obtain⟨e7,ie7,h⟩:=H1 h;refine xE ie7 R (rU 1 R (lE ie7 R ?_));refine X8 (tI h ?_) (fI h ?_)
       ·intro c17 h;refine rU 4 R ?_;obtain⟨rv8,k8,h⟩:=H1 h;refine A19 (C8R k8) R eK R R ((.cons ld (dL .nil))) R R ?_;refine Z3 R R R R (tJ h ?_) (nJ h ?_)
        ·intro h;refine nU 2 R ?_;exact .inl ⟨.inl (),h,.vq [0,1,2,4,6]⟩
        intro h;refine nU 2 R ?_;exact .inl ⟨.inr (()),h,.vq [0,1,2,4,6]⟩
       intro c17 h;refine nU 8 R ?_;exact .inl ⟨.inr (()),h,.vq [0,1,2,4,6]⟩
      intro h;refine nU 15 R ?_;exact .inl ⟨.inr (()),h,.vq [0,1,2,4,6]⟩
     intro h;refine rU 18 R ?_;refine A7I R R R R (tJ h ?_) (mJ h ?_)
     ·intro h;refine rU 4 R ?_;obtain⟨e8,ie8,h⟩:=H1 h;refine xE ie8 R (rU 1 R (lE ie8 R ?_));refine X8 (tI h ?_) (fI h ?_)
      ·intro c20 h;refine rU 4 R ?_;obtain⟨rv9,k9,h⟩:=H1 h;refine A19 (C8R k9) R eK R R ((.cons ld (dL .nil))) R R ?_;refine Z3 R R R R (tJ h ?_) (nJ h ?_)
       ·intro h;refine nU 2 R ?_;exact .inl ⟨.inl (),h,.vq [0,1,2,4,6]⟩
       intro h;refine nU 2 R ?_;exact .inl ⟨.inr (()),h,.vq [0,1,2,4,6]⟩
      intro c20 h;refine nU 8 R ?_;exact .inl ⟨.inr (()),h,.vq [0,1,2,4,6]⟩
     intro h;refine nU 15 R ?_;exact .inl ⟨.inr (()),h,.vq [0,1,2,4,6]⟩
    refine B8 (T1 kR (rU 2 R ?_));refine A7I R R R R (tJ h ?_) (mJ h ?_)
    ·intro h;refine rU 4 R ?_;obtain⟨rv5,k5,h⟩:=H1 h;refine A19 (C8R k5) R eK R R ((.cons ld (dL .nil))) R R (rU 4 R ?_);obtain⟨e4,ie4,h⟩:=H1 h;refine xE ie4 R (rU 1 R (lE ie4 R ?_));refine A4l R R R R (tJ h ?_) (lJ h ?_)
     ·intro h;refine rU 1 R (I0 kR (cY 3 R ?_));cases h;exact f2 [0,1,2] C1o R (qC R (tC 7 .nil)) R
     intro h;refine rU 1 R (I0 kR (zF (A6 ?_)));exact .inl ⟨(),h,.prn [3,4,5,6,7,8] R⟩
    intro h;refine rU 14 R (I0 kR (zF (A6 ?_)));exact .inl ⟨(),h,.prn [3,4,5,6,7,8] R⟩
   refine gU 2 R ?_;refine A7I R R R R (tJ h ?_) (mJ h ?_)
   ·intro h;refine Y9 (C0 R (hU 6 R ?_));obtain⟨e3,ie3,h⟩:=H1 h;refine Y1 tb R R R R R R (F0 ie3) (ix1 ie3) R R ?_;obtain⟨q2,iq2,h⟩:=H1 h;refine A5d (a':=(a.what:Int)) tb R R R R ie3 R R R R iq2 R R ?_;dsimp only[au,av,J2];first | rw[A2a iq2] | skip
    refine eN ?_;exact .inl ⟨q2,h,.prn [3,4,5,6,7,8] R⟩
   intro h;refine Y9 (zF (A6 ?_));exact .inl ⟨q,h,.prn [3,4,5,6,7,8] R⟩
  refine gU 1 R ?_;refine Z3 R R R R (tJ h ?_) (nJ h ?_)
  ·intro h;refine rU 3 R ?_;refine A7I R R R R (tJ h ?_) (mJ h ?_)
   ·intro h;refine eU 1 R (C0 R (hU 6 R ?_));obtain⟨rv3,k3,h⟩:=H1 h;refine A19 (D0L k3) R eK R R ((dL (.cons ld (dL (dL .nil))))) R R (nU 1 R ?_);exact .inl ⟨rv3,h,.prn [3,4,5,6,7,8,9] R⟩
   intro h;refine eU 1 R (zF (A6 ?_));exact .inl ⟨rv2,h,.prn [3,4,5,6,7,8,9] R⟩
  intro h;refine eU 5 R (zF (A6 ?_));exact .inl ⟨rv2,h,.prn [3,4,5,6,7,8,9] R⟩
 refine gU 4 R ?_;obtain⟨rv,k,h⟩:=H1 h;refine M6 (D2v k) eK R R R R (tI h ?_) (fI h ?_)
 ·intro c h;refine rU 4 R ?_;refine A7I R R R R (tJ h ?_) (mJ h ?_)
  ·intro h;refine rU 5 R ?_;obtain⟨e2,ie2,h⟩:=H1 h;refine Y1 tb R R R R R R (F0 ie2) (ix1 ie2) R R ?_;refine A15 (y:=vI e2) tb R R R R (U5 (g:=fun a=>T.d (vI a)) ie2) R R R R ?_;refine rU 1 R ?_;refine V5 R R R R (nJ h ?_) (tJ h ?_)
   ·intro h;refine eU 2 R (cY 3 R ?_);cases h;exact f2 [0,1,2] C1o R (qC R (tC 7 .nil)) R
   intro h;refine eU 2 R (zF (A6 ?_));exact .inl ⟨(),h,.prn [3,4,5,6,7,8] R⟩
  intro h;refine eU 11 R (zF (A6 ?_));exact .inl ⟨(),h,.prn [3,4,5,6,7,8] R⟩
 intro c h;refine eU 16 R (cY 3 R ?_);cases h;exact f2 [0,1,2] C1o R (qC R (tC 7 .nil)) R
def C8K (F:Nat) (B16:Int→Option (C3 × Int × C3)) (x2:Int):Option (C3 × Int × C3):=B16 (W (x2+1))
def C6u (F:Nat) (t:D5) (o:C3) (a:D2) (x:Int) (K:Int→Option (C3 × Int × C3)):Nat→Int→Option (C3 × Int × C3)
 | 0,_=>none
 | n+1,x2=>(P3 t.squibs x).bind fun e3=>if x2<(e3.keys.length:Int)then((P3 o.squibs x).bind fun e4=>if e4=1 then((P3 e3.keys x2).bind fun e5=>if e5=a.what then(some (o,177,o))else(C8K F (C6u F t o a x K n) x2))else(C8K F (C6u F t o a x K n) x2))else(K x2)
def C7r (F:Nat) (t:D5) (o:C3) (a:D2) (K:Int→Option (C3 × Int × C3)):Nat→Int→Option (C3 × Int × C3)
 | 0,_=>none
 | n+1,x=>if x<(t.squibs.length:Int)then(C6u F t o a x (fun x2=>C7r F t o a K n (W (x+1))) F 0)else(K x)
def C9A (F:Nat) (t:D5) (o:C3) (a:D2):Option (C3 × Int × C3):=(P3 o.zones a.who).bind fun e=>if e=t.panel then(if a.kind=2 then((P3 o.holder a.what).bind fun e2=>if e2=(-1)then(C7r F t o a (fun x=>(A5g o.holder a.what a.who).bind fun q=>some ({o with holder:=q},0,{o with holder:=q})) F 0)else(some (o,174,o)))else(if a.kind=3 then((P3 o.holder a.what).bind fun e6=>if e6=a.who then((A5g o.holder a.what (-1)).bind fun q2=>some ({o with holder:=q2},0,{o with holder:=q2}))else(some (o,174,o)))else((P3 o.holder a.what).bind fun e7=>if e7=a.who then((P3 o.zones a.with_).bind fun e8=>if e8=e then((A5g o.holder a.what a.with_).bind fun q3=>(C8q F t {o with holder:=q3} a.who e).bind fun rv=>if rv=true then(some ({o with holder:=q3},0,{o with holder:=q3}))else(some ({o with holder:=q3},178,{o with holder:=q3})))else(some (o,171,o)))else(some (o,174,o)))))else(if a.kind=2 then(some (o,171,o))else(if a.kind=3 then(some (o,171,o))else((P3 o.holder a.what).bind fun e9=>if e9=a.who then((P3 o.zones a.with_).bind fun e10=>if e10=e then((A5g o.holder a.what a.with_).bind fun q4=>(C8q F t {o with holder:=q4} a.who e).bind fun rv2=>if rv2=true then(some ({o with holder:=q4},0,{o with holder:=q4}))else(some ({o with holder:=q4},178,{o with holder:=q4})))else(some (o,171,o)))else(some (o,174,o)))))
theorem D1y {F t o a r} (h:C9A F t o a=some r):SCR pg 209 [.d (D5.d t),J2 o 0 1 2,.d (D2.d a)] [B0u o.zones,B0u o.holder,B0u o.squibs] (.tup [J2 {r.1 with zones:=r.2.2.zones,holder:=r.2.2.holder,squibs:=r.2.2.squibs} 0 1 2,dI r.2.1]) [B0u r.2.2.zones,B0u r.2.2.holder,B0u r.2.2.squibs]:=by
 rw[C9A]at h;refine oW Tryz.func209 ?_;refine gY 5 R (B8 (T1 kR (rU 4 R ?_)));obtain⟨e,ie,h⟩:=H1 h;refine Y1 tb R R R R R R (F0 ie) (ix1 ie) R R ?_;refine A15 (y:=vI e) tb R R R R (U5 (g:=fun a=>T.d (vI a)) ie) R R R R ?_;refine rU 2 R ?_;refine Z3 R R R R (tJ h ?_) (nJ h ?_)
 ·intro h;refine rU 1 R (I0 kR (B8 (gU 2 R ?_)));refine Z3 R R R R (tJ h ?_) (nJ h ?_)
  ·intro h;refine Y9 (C0 R (B8 (gY 2 R (zF (B8 (gU 4 R ?_))))));obtain⟨e2,ie2,h⟩:=H1 h;refine Y1 tb R R R R R R (F0 ie2) (ix1 ie2) R R ?_;refine A15 (y:=vI e2) tb R R R R (U5 (g:=fun a=>T.d (vI a)) ie2) R R R R ?_;refine V5 R R R R (nJ h ?_) (tJ h ?_)
   ·intro h;refine Y9 (cY 3 R ?_);cases h;exact f2 [0,1,2] C1o R (qC R (tC 7 .nil)) R
   intro h;refine Y9 (zF (B8 (gY 1 R (E3 ?_))));refine C3X (fun K14 m st=>∃ (x:Int),st=⟨[(3,rf 3 7),(4,rf 4 6),(5,rf 5 5),(6,rf 6 6),(7,dI 0),(8,dB true),(9,dI x)],[B0u o.zones,B0u o.holder,B0u o.squibs,bx 7 (.d (D5.d t)),bx 6 (J2 o 0 1 2),bx 5 (.d (D2.d a)),bx 6 (.d zP)]⟩∧C7r F t o a K14 m x=some r) ⟨0,R,h⟩ (.prn [3,4,5,6,7,8,9] R) ?_;rintro K14 hK14 m14 _ ⟨x,rfl,h⟩;rw[C7r]at h;refine B8 (gU 3 R (I7 tb R ?_));refine Q4 R R R R (tJ h ?_) (lJ h ?_)
   ·intro h;refine Y9 (zT (B8 (E3 (gY 1 R (E3 ?_)))));refine C3X (fun K16 m st=>∃ (x2:Int),st=⟨[(3,rf 3 7),(4,rf 4 6),(5,rf 5 5),(6,rf 6 6),(7,dI 0),(8,dB true),(9,dI x),(10,dI x2)],[B0u o.zones,B0u o.holder,B0u o.squibs,bx 7 (.d (D5.d t)),bx 6 (J2 o 0 1 2),bx 5 (.d (D2.d a)),bx 6 (.d zP)]⟩∧C6u F t o a x K16 m x2=some r) ⟨0,R,h⟩ (.prn [3,4,5,6,7,8,9,10] R) ?_;rintro K16 hK16 m16 _ ⟨x2,rfl,h⟩;rw[C6u]at h;refine B8 (gU 4 R ?_);obtain⟨e3,ie3,h⟩:=H1 h;refine xE ie3 R (rU 1 R (lE ie3 R (I7 tb R ?_)));refine Q4 R R R R (tJ h ?_) (lJ h ?_)
    ·intro h;refine Y9 (zT (B8 ?_));refine W5 (fun zz:Unit=>C8K F (C6u F t o a x K16 m16) x2=some r) (fun zz:Unit=>⟨[(3,rf 3 7),(4,rf 4 6),(5,rf 5 5),(6,rf 6 6),(7,dI 0),(8,dB true),(9,dI x),(10,dI x2)],[B0u o.zones,B0u o.holder,B0u o.squibs,bx 7 (.d (D5.d t)),bx 6 (J2 o 0 1 2),bx 5 (.d (D2.d a)),bx 6 (.d zP)]⟩) ?_ ?_
     ·clear h;rintro⟨⟩ h;rw[C8K]at h;refine hN 3 R ?_;exact bk ⟨(W (x2+1)),R,h⟩ (.prn [3,4,5,6,7,8,9,10] R)
     refine E3 (B8 (T1 kR (rU 3 R ?_)));obtain⟨e4,ie4,h⟩:=H1 h;refine Y1 tb R R R R R R (F0 ie4) (ix1 ie4) R R ?_;refine A15 (y:=vI e4) tb R R R R (U5 (g:=fun a=>T.d (vI a)) ie4) R R R R ?_;refine Z3 R R R R (tJ h ?_) (nJ h ?_)
     ·intro h;refine rU 4 R (xE ie3 R (rU 1 R (lE ie3 R (rU 1 R ?_))));obtain⟨e5,ie5,h⟩:=H1 h;refine yE ie5 R R (rU 2 R ?_);refine Z3 R R R R (tJ h ?_) (nJ h ?_)
      ·intro h;refine rU 1 R (I0 kR (cY 3 R ?_));cases h;exact f2 [0,1,2] C1o R (qC R (tC 7 .nil)) R
      intro h;refine rU 1 R (I0 kR (zF (D3 (A6 ?_))));exact .inl ⟨(),h,.prn [3,4,5,6,7,8,9,10] R⟩
     intro h;refine rU 14 R (I0 kR (zF (D3 (A6 ?_))));exact .inl ⟨(),h,.prn [3,4,5,6,7,8,9,10] R⟩
    intro h;refine Y9 (yX ?_);subst hK16;refine hN 3 R ?_;exact bk ⟨(W (x+1)),R,h⟩ (.prn [3,4,5,6,7,8,9] R)
   intro h;refine Y9 (yX ?_);subst hK14;refine gU 6 R (Y1 tb R R R R R R (F0 ie2) (ix1 ie2) R R ?_);obtain⟨q,iq,h⟩:=H1 h;refine A5d (a':=(a.who:Int)) tb R R R R ie2 R R R R iq R R ?_;dsimp only[au,av,J2];first | rw[A2a iq] | skip
   refine Y9 (rY 3 R ?_);cases h;exact f2 [0,1,2] C1o R (qC R (tC 7 .nil)) R
  intro h;refine Y9 (zF (B8 (gU 2 R ?_)));refine Z3 R R R R (tJ h ?_) (nJ h ?_)
  ·intro h;refine Y9 (C0 R (B8 (gY 2 R (zF (B8 (B8 (T1 kR (rU 4 R ?_))))))));obtain⟨e6,ie6,h⟩:=H1 h;refine Y1 tb R R R R R R (F0 ie6) (ix1 ie6) R R ?_;refine A15 (y:=vI e6) tb R R R R (U5 (g:=fun a=>T.d (vI a)) ie6) R R R R ?_;refine rU 2 R ?_;refine V5 R R R R (nJ h ?_) (tJ h ?_)
   ·intro h;refine I0 kR (cY 3 R ?_);cases h;exact f2 [0,1,2] C1o R (qC R (tC 7 .nil)) R
   intro h;refine I0 kR (zF (gU 4 R (Y1 tb R R R R R R (F0 ie6) (ix1 ie6) R R ?_)));obtain⟨q2,iq2,h⟩:=H1 h;refine A5d (a':=((-1):Int)) tb R R R R ie6 R R R R iq2 R R ?_;dsimp only[au,av,J2];first | rw[A2a iq2] | skip
   refine Y9 (rY 3 R ?_);cases h;exact f2 [0,1,2] C1o R (qC R (tC 7 .nil)) R
  intro h;refine Y9 (zF (B8 (B8 (T1 kR (rU 4 R ?_)))));obtain⟨e7,ie7,h⟩:=H1 h;refine Y1 tb R R R R R R (F0 ie7) (ix1 ie7) R R ?_;refine A15 (y:=vI e7) tb R R R R (U5 (g:=fun a=>T.d (vI a)) ie7) R R R R ?_;refine rU 2 R ?_;refine V5 R R R R (nJ h ?_) (tJ h ?_)
  ·intro h;refine I0 kR (cY 3 R ?_);cases h;exact f2 [0,1,2] C1o R (qC R (tC 7 .nil)) R
  intro h;refine I0 kR (zF (B8 (B8 (T1 kR (rU 4 R ?_)))));obtain⟨e8,ie8,h⟩:=H1 h;refine Y1 tb R R R R R R (F0 ie8) (ix1 ie8) R R ?_;refine A15 (y:=vI e8) tb R R R R (U5 (g:=fun a=>T.d (vI a)) ie8) R R R R ?_;refine rU 4 R (Y1 tb R R R R R R (F0 ie) (ix1 ie) R R ?_);refine A15 (y:=vI e) tb R R R R (U5 (g:=fun a=>T.d (vI a)) ie) R R R R ?_;refine V5 R R R R (nJ h ?_) (tJ h ?_)
  ·intro h;refine I0 kR (cY 3 R ?_);cases h;exact f2 [0,1,2] C1o R (qC R (tC 7 .nil)) R
  intro h;refine I0 kR (zF (gU 6 R (Y1 tb R R R R R R (F0 ie7) (ix1 ie7) R R ?_)));obtain⟨q3,iq3,h⟩:=H1 h;refine A5d (a':=(a.with_:Int)) tb R R R R ie7 R R R R iq3 R R ?_;dsimp only[au,av,J2];first | rw[A2a iq3] | skip
  refine Y9 (B8 (B8 (T1 kR (rU 8 R (Y1 tb R R R R R R (F0 ie) (ix1 ie) R R ?_)))));refine A15 (y:=vI e) tb R R R R (U5 (g:=fun a=>T.d (vI a)) ie) R R R R ?_;obtain⟨rv,k,h⟩:=H1 h;refine A4k (C8Y k) eK R R ((dL (.cons ld (dL (dL .nil))))) R R (tI h ?_) (fI h ?_)
  ·intro c12 h;refine rU 1 R (I0 kR (zF (rY 3 R ?_)));cases h;exact f2 [0,1,2] C1o R (qC R (tC 7 .nil)) R
  intro c12 h;refine rU 1 R (I0 kR (cY 3 R ?_));cases h;exact f2 [0,1,2] C1o R (qC R (tC 7 .nil)) R
 intro h;refine rU 1 R (I0 kR (B8 (gU 2 R ?_)));refine Z3 R R R R (tJ h ?_) (nJ h ?_)
 ·intro h;refine Y9 (C0 R (B8 (gY 2 R (cY 3 R ?_))));cases h;exact f2 [0,1,2] C1o R (qC R (tC 7 .nil)) R
 intro h;refine Y9 (zF (B8 (gU 2 R ?_)));refine Z3 R R R R (tJ h ?_) (nJ h ?_)
 ·intro h;refine Y9 (C0 R (B8 (gY 2 R (cY 3 R ?_))));cases h;exact f2 [0,1,2] C1o R (qC R (tC 7 .nil)) R
 intro h;refine Y9 (zF (B8 (B8 (T1 kR (rU 4 R ?_)))));obtain⟨e9,ie9,h⟩:=H1 h;refine Y1 tb R R R R R R (F0 ie9) (ix1 ie9) R R ?_;refine A15 (y:=vI e9) tb R R R R (U5 (g:=fun a=>T.d (vI a)) ie9) R R R R ?_;refine rU 2 R ?_;refine V5 R R R R (nJ h ?_) (tJ h ?_)
 ·intro h;refine I0 kR (cY 3 R ?_);cases h;exact f2 [0,1,2] C1o R (qC R (tC 7 .nil)) R
 intro h;refine I0 kR (zF (B8 (B8 (T1 kR (rU 4 R ?_)))));obtain⟨e10,ie10,h⟩:=H1 h;refine Y1 tb R R R R R R (F0 ie10) (ix1 ie10) R R ?_;refine A15 (y:=vI e10) tb R R R R (U5 (g:=fun a=>T.d (vI a)) ie10) R R R R ?_;refine rU 4 R (Y1 tb R R R R R R (F0 ie) (ix1 ie) R R ?_);refine A15 (y:=vI e) tb R R R R (U5 (g:=fun a=>T.d (vI a)) ie) R R R R ?_;refine V5 R R R R (nJ h ?_) (tJ h ?_)
 ·intro h;refine I0 kR (cY 3 R ?_);cases h;exact f2 [0,1,2] C1o R (qC R (tC 7 .nil)) R
 intro h;refine I0 kR (zF (gU 6 R (Y1 tb R R R R R R (F0 ie9) (ix1 ie9) R R ?_)));obtain⟨q4,iq4,h⟩:=H1 h;refine A5d (a':=(a.with_:Int)) tb R R R R ie9 R R R R iq4 R R ?_;dsimp only[au,av,J2];first | rw[A2a iq4] | skip
 refine Y9 (B8 (B8 (T1 kR (rU 8 R (Y1 tb R R R R R R (F0 ie) (ix1 ie) R R ?_)))));refine A15 (y:=vI e) tb R R R R (U5 (g:=fun a=>T.d (vI a)) ie) R R R R ?_;obtain⟨rv2,k2,h⟩:=H1 h;refine A4k (C8Y k2) eK R R ((dL (.cons ld (dL (dL .nil))))) R R (tI h ?_) (fI h ?_)
 ·intro c17 h;refine rU 1 R (I0 kR (zF (rY 3 R ?_)));cases h;exact f2 [0,1,2] C1o R (qC R (tC 7 .nil)) R
 intro c17 h;refine rU 1 R (I0 kR (cY 3 R ?_));cases h;exact f2 [0,1,2] C1o R (qC R (tC 7 .nil)) R
def C7Y (F:Nat) (o:C3) (a:D2) (x3:Int):Option (C3 × Int × C3):=(A5g o.squibs a.what x3).bind fun q=>some ({o with squibs:=q},0,{o with squibs:=q})
def C7Z (F:Nat) (t:D5) (o:C3) (a:D2) (x x3:Int):Option (C3 × Int × C3):=(P3 o.squibs a.what).bind fun e4=>if e4=x then(if a.kind=5 then(if o.storm=true then(some (o,173,o))else((C9O F t o a.what).bind fun rv=>if 0<(rv.length:Int)then(some (o,174,o))else(if o.siren<0 then(some (o,179,o))else(if(W (a.at_-o.siren))<t.wait then(some (o,179,o))else(C7Y F o a x3)))))else(C7Y F o a x3))else(some (o,177,o))
def C8a (F:Nat) (t:D5) (o:C3) (a:D2) (x x2:Int):Option (C3 × Int × C3):=if a.kind=7 then(C7Z F t o a x 2)else(C7Z F t o a x x2)
def C8b (F:Nat) (t:D5) (o:C3) (a:D2):Option (C3 × Int × C3):=if a.kind=5 then(C8a F t o a 0 1)else(C8a F t o a 1 0)
def C8A (F:Nat) (t:D5) (o:C3) (a:D2):Option (C3 × Int × C3):=(P3 t.squibs a.what).bind fun e=>(P3 o.zones a.who).bind fun e2=>if e2=t.panel then(if a.kind=6 then(C8b F t o a)else((P3 t.people a.who).bind fun e3=>if e3.grade<e.grade then(some (o,172,o))else(C8b F t o a)))else(some (o,171,o))
theorem D0X {F t o a r} (h:C8A F t o a=some r):SCR pg 210 [.d (D5.d t),J2 o 0 1 2,.d (D2.d a)] [B0u o.zones,B0u o.holder,B0u o.squibs] (.tup [J2 {r.1 with zones:=r.2.2.zones,holder:=r.2.2.holder,squibs:=r.2.2.squibs} 0 1 2,dI r.2.1]) [B0u r.2.2.zones,B0u r.2.2.holder,B0u r.2.2.squibs]:=by
 rw[C8A]at h;refine oW Tryz.func210 ?_;refine gY 5 R (gU 4 R ?_);obtain⟨e,ie,h⟩:=H1 h;refine yE ie R R (eU 2 R (B8 (B8 (T1 kR (rU 4 R ?_)))));obtain⟨e2,ie2,h⟩:=H1 h;refine Y1 tb R R R R R R (F0 ie2) (ix1 ie2) R R ?_;refine A15 (y:=vI e2) tb R R R R (U5 (g:=fun a=>T.d (vI a)) ie2) R R R R ?_;refine rU 2 R ?_;refine V5 R R R R (nJ h ?_) (tJ h ?_)
 ·intro h;refine I0 kR (cY 3 R ?_);cases h;exact f2 [0,1,2] C1o R (qC R (tC 7 .nil)) R
 intro h;refine I0 kR (zF (B8 ?_));refine W5 (fun zz:Unit=>C8b F t o a=some r) (fun zz:Unit=>⟨[(3,rf 3 7),(4,rf 4 6),(5,rf 5 5),(6,rf 6 6),(7,dI 0)],[B0u o.zones,B0u o.holder,B0u o.squibs,bx 7 (.d (D5.d t)),bx 6 (J2 o 0 1 2),bx 5 (.d (D2.d a)),bx 6 (.d zP)]⟩) ?_ ?_
 ·clear h;rintro⟨⟩ h;rw[C8b]at h;refine gY 2 R (B8 ?_);refine W5 (fun zz:Int × Int=>C8a F t o a zz.1 zz.2=some r) (fun zz:Int × Int=>⟨[(3,rf 3 7),(4,rf 4 6),(5,rf 5 5),(6,rf 6 6),(7,dI 0),(9,dI zz.1),(10,dI zz.2)],[B0u o.zones,B0u o.holder,B0u o.squibs,bx 7 (.d (D5.d t)),bx 6 (J2 o 0 1 2),bx 5 (.d (D2.d a)),bx 6 (.d zP)]⟩) ?_ ?_
  ·clear h;rintro⟨x,x2⟩ h;dsimp only at h ⊢;rw[C8a]at h;refine B8 ?_;refine W5 (fun zz:Int=>C7Z F t o a x zz=some r) (fun zz:Int=>⟨[(3,rf 3 7),(4,rf 4 6),(5,rf 5 5),(6,rf 6 6),(7,dI 0),(9,dI x),(10,dI zz)],[B0u o.zones,B0u o.holder,B0u o.squibs,bx 7 (.d (D5.d t)),bx 6 (J2 o 0 1 2),bx 5 (.d (D2.d a)),bx 6 (.d zP)]⟩) ?_ ?_
   ·clear h;rintro x3 h;rw[C7Z]at h;refine B8 (gU 4 R ?_);obtain⟨e4,ie4,h⟩:=H1 h;refine Y1 tb R R R R R R (F0 ie4) (ix1 ie4) R R ?_;refine A15 (y:=vI e4) tb R R R R (U5 (g:=fun a=>T.d (vI a)) ie4) R R R R ?_;refine rU 1 R ?_;refine V5 R R R R (nJ h ?_) (tJ h ?_)
    ·intro h;refine Y9 (cY 3 R ?_);cases h;exact f2 [0,1,2] C1o R (qC R (tC 7 .nil)) R
    intro h;refine Y9 (zF (B8 ?_));refine W5 (fun zz:Unit=>C7Y F o a x3=some r) (fun zz:Unit=>⟨[(4,rf 3 6),(5,rf 4 5),(6,rf 5 6),(7,dI 0),(10,dI x3)],[B0u o.zones,B0u o.holder,B0u o.squibs,bx 6 (J2 o 0 1 2),bx 5 (.d (D2.d a)),bx 6 (.d zP)]⟩) ?_ ?_
    ·clear h;rintro⟨⟩ h;rw[C7Y]at h;refine gU 5 R (Y1 tb R R R R R R (F0 ie4) (ix1 ie4) R R ?_);obtain⟨q,iq,h⟩:=H1 h;refine A5d (a':=(x3:Int)) tb R R R R ie4 R R R R iq R R ?_;dsimp only[au,av,J2];first | rw[A2a iq] | skip
     refine Y9 (rY 3 R ?_);cases h;exact f2 [0,1,2] C1o R (qC R (tC 7 .nil)) R
    refine gU 2 R ?_;refine Z3 R R R R (tJ h ?_) (nJ h ?_)
    ·intro h;refine Y9 (C0 R (B8 (gU 2 R ?_)));refine X8 (tI h ?_) (fI h ?_)
     ·intro c8 h;refine Y9 (cY 3 R ?_);cases h;exact f2 [0,1,2] C1o R (qC R (tC 7 .nil)) R
     intro c8 h;refine Y9 (zF (B8 (gU 4 R ?_)));obtain⟨rv,k,h⟩:=H1 h;refine A3j (C9Z k) R ((.row (fun _=>rfl) .nil)) eK R R ((dL (.cons ld (dL .nil)))) R ((.row .nil)) R R R ?_;refine A8F tb R R R R R ?_;refine A4l R R R R (tJ h ?_) (lJ h ?_)
     ·intro h;refine Y9 (cY 3 R ?_);cases h;exact f2 [0,1,2] C1o R (qC R (tC 7 .nil)) R
     intro h;refine Y9 (zF (gU 2 R ?_));refine Q4 R R R R (tJ h ?_) (lJ h ?_)
     ·intro h;refine eU 10 R (cY 3 R ?_);cases h;exact f2 [0,1,2] C1o R (qC R (tC 7 .nil)) R
     intro h;refine rU 8 R ?_;refine Q4 R R R R (tJ h ?_) (lJ h ?_)
     ·intro h;refine eU 1 R (cY 3 R ?_);cases h;exact f2 [0,1,2] C1o R (qC R (tC 7 .nil)) R
     intro h;refine eU 1 R (zF (A6 ?_));exact .inl ⟨(),h,.vq [0,1,2,4,5,6]⟩
    intro h;refine Y9 (zF (A6 ?_));exact .inl ⟨(),h,.vq [0,1,2,4,5,6]⟩
   refine gU 2 R ?_;refine Z3 R R R R (tJ h ?_) (nJ h ?_)
   ·intro h;refine Y9 (C0 R (hN 1 R ?_));exact .inl ⟨2,h,.prn [3,4,5,6,7,9,10] R⟩
   intro h;refine Y9 (zF (A6 ?_));exact .inl ⟨x2,h,.prn [3,4,5,6,7,9,10] R⟩
  refine gU 2 R ?_;refine Z3 R R R R (tJ h ?_) (nJ h ?_)
  ·intro h;refine Y9 (C0 R (hN 2 R ?_));exact .inl ⟨(0,1),h,.prn [3,4,5,6,7,9,10] R⟩
  intro h;refine Y9 (zF (A6 ?_));exact .inl ⟨(1,0),h,.prn [3,4,5,6,7,9,10] R⟩
 refine B8 (T1 kR (rU 2 R ?_));refine V5 R R R R (nJ h ?_) (tJ h ?_)
 ·intro h;refine rU 5 R ?_;obtain⟨e3,ie3,h⟩:=H1 h;refine xE ie3 R (rU 1 R (lE ie3 R (rU 2 R ?_)));refine Q4 R R R R (tJ h ?_) (lJ h ?_)
  ·intro h;refine rU 1 R (I0 kR (cY 3 R ?_));cases h;exact f2 [0,1,2] C1o R (qC R (tC 7 .nil)) R
  intro h;refine rU 1 R (I0 kR (zF (A6 ?_)));exact .inl ⟨(),h,.vq [0,1,2,3,4,5,6]⟩
 intro h;refine rU 12 R (I0 kR (zF (A6 ?_)));exact .inl ⟨(),h,.vq [0,1,2,3,4,5,6]⟩
def C5Z (F:Nat) (B5:(List Int)→Int→Option (C3 × Int × C3)) (x:Int) (rv3:(List Int)):Option (C3 × Int × C3):=B5 rv3 (W (x+1))
def C4u (F:Nat) (a:D2) (K:(List Int)→Int→Option (C3 × Int × C3)):Nat→(List Int)→Int→Option (C3 × Int × C3)
 | 0,_,_=>none
 | n+1,rv,x=>if x<(rv.length:Int)then(if(decide (a.what=1))=true then((P3 rv x).bind fun e=>if e=1 then((A5g rv x 0).bind fun rv2=>C5Z F (C4u F a K n) x rv2)else(C5Z F (C4u F a K n) x rv))else(C5Z F (C4u F a K n) x rv))else(K rv x)
def C7J (F:Nat) (B8:Int→Option (C3 × Int × C3)) (x2:Int):Option (C3 × Int × C3):=B8 (W (x2+1))
def C7K (F:Nat) (o:C3) (rv4:Int):Option (C3 × Int × C3):=some ({o with siren:=rv4},0,o)
def C5o (F:Nat) (o:C3) (a:D2) (K:Int→Option (C3 × Int × C3)):Nat→Int→Option (C3 × Int × C3)
 | 0,_=>none
 | n+1,x2=>if x2<(o.squibs.length:Int)then(if a.what=0 then((P3 o.squibs x2).bind fun e3=>if e3=1 then(some (o,179,o))else(C7J F (C5o F o a K n) x2))else(C7J F (C5o F o a K n) x2))else(K x2)
def C8M (F:Nat) (t:D5) (o:C3) (a:D2):Option (C3 × Int × C3):=if a.kind=9 then(if(o.storm==(decide (a.what=1)))=true then(some (o,177,o))else(C4u F a (fun rv x=>some ({o with squibs:=rv,storm:=(decide (a.what=1))},0,{o with squibs:=rv})) F o.squibs 0))else((P3 o.zones a.who).bind fun e2=>if e2=t.panel then(if((decide (0≤o.siren))==(decide (a.what=1)))=true then(some (o,177,o))else(C5o F o a (fun x2=>if a.what=1 then(C7K F o a.at_)else(C7K F o (-1))) F 0))else(some (o,171,o)))
theorem D0E {F t o a r} (h:C8M F t o a=some r):SCR pg 211 [.d (D5.d t),J2 o 0 1 2,.d (D2.d a)] [B0u o.zones,B0u o.holder,B0u o.squibs] (.tup [J2 {r.1 with zones:=r.2.2.zones,holder:=r.2.2.holder,squibs:=r.2.2.squibs} 0 1 2,dI r.2.1]) [B0u r.2.2.zones,B0u r.2.2.holder,B0u r.2.2.squibs]:=by
 rw[C8M]at h;refine oW Tryz.func211 ?_;refine gY 5 R (B8 (gU 2 R ?_));refine Z3 R R R R (tJ h ?_) (nJ h ?_)
 ·intro h;refine Y9 (C0 R (B8 (gU 4 R (A3s R R R R (B6K R R R R R ?_)))));refine X8 (tI h ?_) (fI h ?_)
  ·intro c2 h;refine Y9 (cY 3 R ?_);cases h;exact f2 [0,1,2] C1o R (qC R (tC 7 .nil)) R
  intro c2 h;refine Y9 (zF (gU 2 R (A3s R R R R (eU 2 R (B8 (gY 1 R (E3 ?_)))))));refine C3X (fun K5 m st=>∃ (rv:(List Int)) (x:Int),st=⟨[(3,rf 3 7),(4,rf 4 6),(5,rf 5 5),(6,rf 6 6),(7,dI 0),(8,dI x)],[B0u o.zones,B0u o.holder,B0u rv,bx 7 (.d (D5.d t)),bx 6 (J2 {o with squibs:=rv,storm:=(decide (a.what=1))} 0 1 2),bx 5 (.d (D2.d a)),bx 6 (.d zP)]⟩∧C4u F a K5 m rv x=some r) ⟨o.squibs,0,R,h⟩ (.prn [3,4,5,6,7,8] R) ?_;rintro K5 hK5 m5 _ ⟨rv,x,rfl,h⟩;rw[C4u]at h;refine B8 (gU 3 R (A8F tb R R R R R ?_));refine Q4 R R R R (tJ h ?_) (lJ h ?_)
  ·intro h;refine Y9 (zT (B8 ?_));refine W5 (fun zz:(List Int)=>C5Z F (C4u F a K5 m5) x zz=some r) (fun zz:(List Int)=>⟨[(3,rf 3 7),(4,rf 4 6),(5,rf 5 5),(6,rf 6 6),(7,dI 0),(8,dI x)],[B0u o.zones,B0u o.holder,B0u zz,bx 7 (.d (D5.d t)),bx 6 (J2 {o with squibs:=zz,storm:=(decide (a.what=1))} 0 1 2),bx 5 (.d (D2.d a)),bx 6 (.d zP)]⟩) ?_ ?_
   ·clear h;rintro rv3 h;rw[C5Z]at h;refine hN 3 R ?_;exact bk ⟨rv3,(W (x+1)),R,h⟩ (.prn [3,4,5,6,7,8] R)
   refine E3 (gU 2 R ?_);refine X8 (tI h ?_) (fI h ?_)
   ·intro c4 h;refine rU 4 R ?_;obtain⟨e,ie,h⟩:=H1 h;refine Y1 tb R R R R R R (F0 ie) (ix1 ie) R R ?_;refine A15 (y:=vI e) tb R R R R (U5 (g:=fun a=>T.d (vI a)) ie) R R R R ?_;refine Z3 R R R R (tJ h ?_) (nJ h ?_)
    ·intro h;refine eU 1 R (C0 R (hU 3 R (Y1 tb R R R R R R (F0 ie) (ix1 ie) R R ?_)));obtain⟨rv2,irv2,h⟩:=H1 h;refine A5d (a':=(0:Int)) tb R R R R ie R R R R irv2 R R ?_;dsimp only[au,av,J2];first | rw[A2a irv2] | skip
     refine Y9 (D3 (A6 ?_));exact .inl ⟨rv2,h,.prn [3,4,5,6,7,8] R⟩
    intro h;refine eU 1 R (zF (D3 (A6 ?_)));exact .inl ⟨rv,h,.prn [3,4,5,6,7,8] R⟩
   intro c4 h;refine eU 8 R (zF (D3 (A6 ?_)));exact .inl ⟨rv,h,.prn [3,4,5,6,7,8] R⟩
  intro h;refine Y9 (yX ?_);subst hK5;refine rY 3 R ?_;cases h;exact f2 [0,1,2] C1o R (qC R (tC 7 .nil)) R
 intro h;refine Y9 (zF (B8 (B8 (T1 kR (rU 4 R ?_)))));obtain⟨e2,ie2,h⟩:=H1 h;refine Y1 tb R R R R R R (F0 ie2) (ix1 ie2) R R ?_;refine A15 (y:=vI e2) tb R R R R (U5 (g:=fun a=>T.d (vI a)) ie2) R R R R ?_;refine rU 2 R ?_;refine V5 R R R R (nJ h ?_) (tJ h ?_)
 ·intro h;refine I0 kR (cY 3 R ?_);cases h;exact f2 [0,1,2] C1o R (qC R (tC 7 .nil)) R
 intro h;refine I0 kR (zF (B8 (gU 2 R (A3k R R R R (rU 2 R (A3s R R R R (B6K R R R R R ?_)))))));refine X8 (tI h ?_) (fI h ?_)
 ·intro c7 h;refine Y9 (cY 3 R ?_);cases h;exact f2 [0,1,2] C1o R (qC R (tC 7 .nil)) R
 intro c7 h;refine Y9 (zF (B8 (gY 1 R (E3 ?_))));refine C3X (fun K8 m st=>∃ (x2:Int),st=⟨[(4,rf 3 6),(5,rf 4 5),(6,rf 5 6),(7,dI 0),(9,dI x2)],[B0u o.zones,B0u o.holder,B0u o.squibs,bx 6 (J2 o 0 1 2),bx 5 (.d (D2.d a)),bx 6 (.d zP)]⟩∧C5o F o a K8 m x2=some r) ⟨0,R,h⟩ (.vq [0,1,2,4,5,6]) ?_;rintro K8 hK8 m8 _ ⟨x2,rfl,h⟩;rw[C5o]at h;refine B8 (gU 3 R (A8F tb R R R R R ?_));refine Q4 R R R R (tJ h ?_) (lJ h ?_)
 ·intro h;refine Y9 (zT (B8 ?_));refine W5 (fun zz:Unit=>C7J F (C5o F o a K8 m8) x2=some r) (fun zz:Unit=>⟨[(4,rf 3 6),(5,rf 4 5),(6,rf 5 6),(7,dI 0),(9,dI x2)],[B0u o.zones,B0u o.holder,B0u o.squibs,bx 6 (J2 o 0 1 2),bx 5 (.d (D2.d a)),bx 6 (.d zP)]⟩) ?_ ?_
  ·clear h;rintro⟨⟩ h;rw[C7J]at h;refine hN 3 R ?_;exact bk ⟨(W (x2+1)),R,h⟩ (.prn [4,5,6,7,9] R)
  refine E3 (gU 2 R ?_);refine Z3 R R R R (tJ h ?_) (nJ h ?_)
  ·intro h;refine rU 4 R ?_;obtain⟨e3,ie3,h⟩:=H1 h;refine Y1 tb R R R R R R (F0 ie3) (ix1 ie3) R R ?_;refine A15 (y:=vI e3) tb R R R R (U5 (g:=fun a=>T.d (vI a)) ie3) R R R R ?_;refine Z3 R R R R (tJ h ?_) (nJ h ?_)
   ·intro h;refine eU 1 R (cY 3 R ?_);cases h;exact f2 [0,1,2] C1o R (qC R (tC 7 .nil)) R
   intro h;refine eU 1 R (zF (D3 (A6 ?_)));exact .inl ⟨(),h,.prn [4,5,6,7,9] R⟩
  intro h;refine eU 8 R (zF (D3 (A6 ?_)));exact .inl ⟨(),h,.prn [4,5,6,7,9] R⟩
 intro h;refine Y9 (yX ?_);subst hK8;refine gY 2 R (B8 ?_);refine W5 (fun zz:Int=>C7K F o zz=some r) (fun zz:Int=>⟨[(4,rf 3 6),(6,rf 4 6),(7,dI 0)],[B0u o.zones,B0u o.holder,B0u o.squibs,bx 6 (J2 {o with siren:=zz} 0 1 2),bx 6 (.d zP)]⟩) ?_ ?_
 ·clear h;rintro rv4 h;rw[C7K]at h;refine rY 3 R ?_;cases h;exact f2 [0,1,2] C1o R (qC R (tC 7 .nil)) R
 refine gU 2 R ?_;refine Z3 R R R R (tJ h ?_) (nJ h ?_)
 ·intro h;refine Y9 (C0 R (hN 4 R ?_));exact .inl ⟨a.at_,h,.vq [0,1,2,3,5]⟩
 intro h;refine Y9 (zF (A6 ?_));exact .inl ⟨(-1),h,.vq [0,1,2,3,5]⟩
def C79 (F:Nat) (a:D2) (x:Int) (lv lv2 lv3:(List Int)) (x2:Int) (x3:Bool) (x4:Int):Option (C3 × Int):=if x4=0 then(some ((C3.mk a.at_ lv lv2 lv3 x2 x3),0))else(some ((C3.mk 0 ([]:List Int) ([]:List Int) ([]:List Int) 0 false),x4))
def D3N (F:Nat) (t:D5) (a:D2) (rv:C3):Option (C3 × Int):=(C8A F t rv a).bind fun rv4=>(lnO rv4.2.2.zones.length rv.zones.length).bind fun u7=>(lnO rv4.2.2.holder.length rv.holder.length).bind fun u8=>(lnO rv4.2.2.squibs.length rv.squibs.length).bind fun u9=>C79 F a rv4.1.now rv4.2.2.zones rv4.2.2.holder rv4.2.2.squibs rv4.1.siren rv4.1.storm rv4.2.1
def C9m (F:Nat) (t:D5) (a:D2) (rv:C3):Option (C3 × Int):=(C9A F t rv a).bind fun rv3=>(lnO rv3.2.2.zones.length rv.zones.length).bind fun u4=>(lnO rv3.2.2.holder.length rv.holder.length).bind fun u5=>(lnO rv3.2.2.squibs.length rv.squibs.length).bind fun u6=>C79 F a rv3.1.now rv3.2.2.zones rv3.2.2.holder rv3.2.2.squibs rv3.1.siren rv3.1.storm rv3.2.1
def C9n (F:Nat) (t:D5) (a:D2) (rv:C3):Option (C3 × Int):=(C8A F t rv a).bind fun rv3=>(lnO rv3.2.2.zones.length rv.zones.length).bind fun u4=>(lnO rv3.2.2.holder.length rv.holder.length).bind fun u5=>(lnO rv3.2.2.squibs.length rv.squibs.length).bind fun u6=>C79 F a rv3.1.now rv3.2.2.zones rv3.2.2.holder rv3.2.2.squibs rv3.1.siren rv3.1.storm rv3.2.1
def D0j (F:Nat) (t:D5) (o:C3) (a:D2):Option (C3 × Int):=if a.at_<o.now then(some ((C3.mk 0 ([]:List Int) ([]:List Int) ([]:List Int) 0 false),170))else((C9I F o).bind fun rv=>if a.kind=1 then((C9o F t rv a).bind fun rv2=>(lnO rv2.2.2.zones.length rv.zones.length).bind fun u=>(lnO rv2.2.2.holder.length rv.holder.length).bind fun u2=>(lnO rv2.2.2.squibs.length rv.squibs.length).bind fun u3=>C79 F a rv2.1.now rv2.2.2.zones rv2.2.2.holder rv2.2.2.squibs rv2.1.siren rv2.1.storm rv2.2.1)else(if a.kind=2 then(C9m F t a rv)else(if a.kind=3 then(C9m F t a rv)else(if a.kind=4 then(C9m F t a rv)else(if a.kind=5 then(C9n F t a rv)else(if a.kind=6 then(C9n F t a rv)else(if a.kind=7 then(C9n F t a rv)else((C8M F t rv a).bind fun rv3=>(lnO rv3.2.2.zones.length rv.zones.length).bind fun u4=>(lnO rv3.2.2.holder.length rv.holder.length).bind fun u5=>(lnO rv3.2.2.squibs.length rv.squibs.length).bind fun u6=>C79 F a rv3.1.now rv3.2.2.zones rv3.2.2.holder rv3.2.2.squibs rv3.1.siren rv3.1.storm rv3.2.1))))))))
theorem D0M {F t o a r} (h:D0j F t o a=some r):SCR pg 166 (ao T.d [D5.d t,C3.d o,D2.d a]) [] (.tup [J2 r.1 0 1 2,dI r.2]) (ao some [(B7 r.1.zones),(B7 r.1.holder),(B7 r.1.squibs)]):=by
 rw[D0j]at h;refine oW Tryz.func166 ?_;refine gY 5 R (B8 (gU 4 R ?_));refine Q4 R R R R (tJ h ?_) (lJ h ?_)
 ·intro h;refine Y9 (C0 R (qG (S1 (v := .d zP) tb R R cN R R R R R R (eU 2 R (SW.ow 1 false 3 [1] [6,7] R (SW.ow 1 false 3 [2] [6,7] R (SW.ow 1 false 3 [3] [6,7] R (C9 ?_))))))));cases h;exact f2 [4,5,6] C1o R (qC R (tC 7 .nil)) R
 intro h;refine Y9 (zF (gU 1 R ?_));obtain⟨rv,k,h⟩:=H1 h;refine A2X (C9U k) eK R R R ((.row (.row (.row .nil)))) R R R (eU 3 R (B8 ?_));refine W5 (fun zz:Int × (List Int) × (List Int) × (List Int) × Int × Bool × Int=>C79 F a zz.1 zz.2.1 zz.2.2.1 zz.2.2.2.1 zz.2.2.2.2.1 zz.2.2.2.2.2.1 zz.2.2.2.2.2.2=some r) (fun zz:Int × (List Int) × (List Int) × (List Int) × Int × Bool × Int=>⟨[(5,rf 0 5),(6,rf 1 6),(7,dI 0),(8,rf 2 6),(9,dI zz.2.2.2.2.2.2)],[bx 5 (.d (D2.d a)),bx 6 (.d zP),bx 6 (J2 (C3.mk zz.1 zz.2.1 zz.2.2.1 zz.2.2.2.1 zz.2.2.2.2.1 zz.2.2.2.2.2.1) 3 4 5),B0u zz.2.1,B0u zz.2.2.1,B0u zz.2.2.2.1]⟩) ?_ ?_
 ·clear h;rintro⟨x,lv,lv2,lv3,x2,x3,x4⟩ h;dsimp only at h ⊢;rw[C79]at h;refine B8 (gU 1 R ?_);refine V5 R R R R (nJ h ?_) (tJ h ?_)
  ·intro h;refine Y9 (C0 R (qG (S1 (v := .d zP) tb R R cN R R R R R R (eU 3 R (SW.ow 1 false 1 [1] [6,7] R (SW.ow 1 false 1 [2] [6,7] R (SW.ow 1 false 1 [3] [6,7] R (C9 ?_))))))));cases h;exact f2 [6,7,8] C1o R (qC R (tC 7 .nil)) R
  intro h;refine Y9 (zF (gY 4 R (rY 3 R ?_)));cases h;exact f2 [3,4,5] C1o R (qC R (tC 7 .nil)) R
 refine gY 2 R (E3 (qG ?_));refine Z3 R R R R (tJ h ?_) (nJ h ?_)
 ·intro h;refine eU 1 R (C0 R (hU 3 R ?_));obtain⟨rv2,k2,h⟩:=H1 h;obtain⟨u,hu,h⟩:=H1 h;obtain⟨u2,hu2,h⟩:=H1 h;obtain⟨u3,hu3,h⟩:=H1 h;refine cO [4,5,6] (D1i k2) eK C2C R ((.row (.row (.row .nil)))) .nil R ?_;dsimp only[J2];first | rw[← C4B hu] | skip
  first | rw[← C4B hu2] | skip
  first | rw[← C4B hu3] | skip
  refine eU 5 R (D3 (A6 ?_));exact .inl ⟨(rv2.1.now,rv2.2.2.zones,rv2.2.2.holder,rv2.2.2.squibs,rv2.1.siren,rv2.1.storm,rv2.2.1),h,.vq [2,3,7,4,5,6]⟩
 intro h;refine eU 1 R (C1 R (B8 ?_));refine W5 (fun zz:Unit=>C9m F t a rv=some r) (fun zz:Unit=>⟨[(3,rf 0 7),(5,rf 1 5),(6,rf 2 6),(7,dI 0),(8,rf 3 6),(9,dI 0),(19,dI a.kind),(36,dB true)],[bx 7 (.d (D5.d t)),bx 5 (.d (D2.d a)),bx 6 (.d zP),bx 6 (J2 rv 4 5 6),B0u rv.zones,B0u rv.holder,B0u rv.squibs]⟩) ?_ ?_
 ·clear h;rintro⟨⟩ h;rw[C9m]at h;refine C0 R (hU 3 R ?_);obtain⟨rv3,k3,h⟩:=H1 h;obtain⟨u4,hu4,h⟩:=H1 h;obtain⟨u5,hu5,h⟩:=H1 h;obtain⟨u6,hu6,h⟩:=H1 h;refine cO [4,5,6] (D1y k3) eK C2C R ((.row (.row (.row .nil)))) .nil R ?_;dsimp only[J2];first | rw[← C4B hu4] | skip
  first | rw[← C4B hu5] | skip
  first | rw[← C4B hu6] | skip
  refine eU 5 R (D3 (A6 ?_));exact .inl ⟨(rv3.1.now,rv3.2.2.zones,rv3.2.2.holder,rv3.2.2.squibs,rv3.1.siren,rv3.1.storm,rv3.2.1),h,.vq [1,2,3,4,5,6]⟩
 refine qG ?_;refine Z3 R R R R (tJ h ?_) (nJ h ?_)
 ·intro h;refine eU 1 R (zT (A6 ?_));exact .inl ⟨(),h,.vq [0,2,3,7,4,5,6]⟩
 intro h;refine eU 1 R (C1 R (qG ?_));refine Z3 R R R R (tJ h ?_) (nJ h ?_)
 ·intro h;refine eU 1 R (zT (A6 ?_));exact .inl ⟨(),h,.vq [0,2,3,7,4,5,6]⟩
 intro h;refine eU 1 R (C1 R (J1 ?_));refine Z3 R R R R (tJ h ?_) (nJ h ?_)
 ·intro h;refine nU 1 R ?_;exact .inl ⟨(),h,.vq [0,2,3,7,4,5,6]⟩
 intro h;refine nU 1 R (.inr (C1 R (B8 ?_)));refine W5 (fun zz:Unit=>C9n F t a rv=some r) (fun zz:Unit=>⟨[(3,rf 0 7),(5,rf 1 5),(6,rf 2 6),(7,dI 0),(8,rf 3 6),(9,dI 0),(47,dB true)],[bx 7 (.d (D5.d t)),bx 5 (.d (D2.d a)),bx 6 (.d zP),bx 6 (J2 rv 4 5 6),B0u rv.zones,B0u rv.holder,B0u rv.squibs]⟩) ?_ ?_
 ·clear h;rintro⟨⟩ h;rw[C9n]at h;refine C0 R (hU 3 R ?_);obtain⟨rv3,k3,h⟩:=H1 h;obtain⟨u4,hu4,h⟩:=H1 h;obtain⟨u5,hu5,h⟩:=H1 h;obtain⟨u6,hu6,h⟩:=H1 h;refine cO [4,5,6] (D0X k3) eK C2C R ((.row (.row (.row .nil)))) .nil R ?_;dsimp only[J2];first | rw[← C4B hu4] | skip
  first | rw[← C4B hu5] | skip
  first | rw[← C4B hu6] | skip
  refine eU 5 R (D3 (A6 ?_));exact .inl ⟨(rv3.1.now,rv3.2.2.zones,rv3.2.2.holder,rv3.2.2.squibs,rv3.1.siren,rv3.1.storm,rv3.2.1),h,.vq [1,2,3,4,5,6]⟩
 refine qG ?_;refine Z3 R R R R (tJ h ?_) (nJ h ?_)
 ·intro h;refine eU 1 R (zT (A6 ?_));exact .inl ⟨(),h,.vq [0,2,3,7,4,5,6]⟩
 intro h;refine eU 1 R (C1 R (qG ?_));refine Z3 R R R R (tJ h ?_) (nJ h ?_)
 ·intro h;refine eU 1 R (zT (A6 ?_));exact .inl ⟨(),h,.vq [0,2,3,7,4,5,6]⟩
 intro h;refine eU 1 R (C1 R (J1 ?_));refine Z3 R R R R (tJ h ?_) (nJ h ?_)
 ·intro h;refine nU 1 R ?_;exact .inl ⟨(),h,.vq [0,2,3,7,4,5,6]⟩
 intro h;refine nU 1 R (.inr (C1 R (hU 3 R ?_)));obtain⟨rv3,k3,h⟩:=H1 h;obtain⟨u4,hu4,h⟩:=H1 h;obtain⟨u5,hu5,h⟩:=H1 h;obtain⟨u6,hu6,h⟩:=H1 h;refine cO [4,5,6] (D0E k3) eK C2C R ((.row (.row (.row .nil)))) .nil R ?_;dsimp only[J2];first | rw[← C4B hu4] | skip
 first | rw[← C4B hu5] | skip
 first | rw[← C4B hu6] | skip
 refine eU 5 R (D3 (A6 ?_));exact .inl ⟨(rv3.1.now,rv3.2.2.zones,rv3.2.2.holder,rv3.2.2.squibs,rv3.1.siren,rv3.1.storm,rv3.2.1),h,.vq [2,3,7,4,5,6]⟩
theorem D3O {F t o a r} (h:D0j F t o a=some r):PC pg 166 [D5.d t,C3.d o,D2.d a] (.tup [C3.d r.1,vI r.2]):=(D0M h).toPC (.tupL (.cons (.aggL (.cons (.d _) (.cons (.row rfl rfl) (.cons (.row rfl rfl) (.cons (.row rfl rfl) (.cons (.d _) (.cons (.d _) .nil))))))) (.cons (.d _) .nil)))
def C95 (F:Nat) (p:D5) (s:C3) (a:D2) (e:Int):Option (C3 × Int):=if e=0 then((D0j F p s a).bind fun rv3=>some (rv3.1,rv3.2))else(some ((C3.mk 0 ([]:List Int) ([]:List Int) ([]:List Int) 0 false),e))
def D0o (F:Nat) (p:D5) (s:C3) (a:D2):Option (C3 × Int):=(C8p F p s).bind fun rv=>if rv=0 then((D1h F p a).bind fun rv2=>C95 F p s a rv2)else(C95 F p s a rv)
theorem D18 {F p s a r} (h:D0o F p s a=some r):SCR pg 87 (ao T.d [D5.d p,C3.d s,D2.d a]) [] (.tup [J2 r.1 0 1 2,dI r.2]) (ao some [(B7 r.1.zones),(B7 r.1.holder),(B7 r.1.squibs)]):=by
 rw[D0o]at h;refine oW Tryz.func87 ?_;refine gY 5 R (gU 2 R ?_);obtain⟨rv,k,h⟩:=H1 h;refine J5 (D0D k) eK R R R R (eU 1 R (B8 ?_));refine W5 (fun zz:Int=>C95 F p s a zz=some r) (fun zz:Int=>⟨[(3,rf 0 7),(4,rf 1 6),(5,rf 2 5),(6,rf 3 6),(7,dI 0),(8,dI zz)],[bx 7 (.d (D5.d p)),bx 6 (.d (C3.d s)),bx 5 (.d (D2.d a)),bx 6 (.d zP)]⟩) ?_ ?_
 ·clear h;rintro e h;rw[C95]at h;refine B8 (gU 1 R ?_);refine V5 R R R R (nJ h ?_) (tJ h ?_)
  ·intro h;refine Y9 (C0 R (qG (S1 (v := .d zP) tb R R cN R R R R R R (eU 3 R (SW.ow 1 false 3 [1] [6,7] R (SW.ow 1 false 3 [2] [6,7] R (SW.ow 1 false 3 [3] [6,7] R (C9 ?_))))))));cases h;exact f2 [4,5,6] C1o R (qC R (tC 7 .nil)) R
  intro h;refine Y9 (zF (gU 3 R ?_));obtain⟨rv3,k3,h⟩:=H1 h;refine A2X (D0M k3) eK R R R ((.row (.row (.row .nil)))) R R R (eU 4 R (C9 ?_));cases h;exact f2 [4,5,6] C1o R (qC R (tC 7 .nil)) R
 refine gU 1 R ?_;refine Z3 R R R R (tJ h ?_) (nJ h ?_)
 ·intro h;refine Y9 (C0 R (hU 2 R ?_));obtain⟨rv2,k2,h⟩:=H1 h;refine J5 (D2O k2) eK R R R R (nU 1 R ?_);exact .inl ⟨rv2,h,.prn [3,4,5,6,7,8] R⟩
 intro h;refine Y9 (zF (A6 ?_));exact .inl ⟨rv,h,.prn [3,4,5,6,7,8] R⟩
theorem D1S {F p s a r} (h:D0o F p s a=some r):PC pg 87 [D5.d p,C3.d s,D2.d a] (.tup [C3.d r.1,vI r.2]):=(D18 h).toPC (.tupL (.cons (.aggL (.cons (.d _) (.cons (.row rfl rfl) (.cons (.row rfl rfl) (.cons (.row rfl rfl) (.cons (.d _) (.cons (.d _) .nil))))))) (.cons (.d _) .nil)))
def A7N (F:Nat) (nv lo hi:Int):Option Bool:=if nv<lo then(some true)else(some (decide (hi<nv)))
theorem B4B {F nv lo hi r} (h:A7N F nv lo hi=some r):PC pg 178 [vI nv,vI lo,vI hi] (vB r):=by
 rw[A7N]at h;refine oW Tryz.func178 ?_;refine gY 1 R (gU 2 R ?_);refine Q4 R R R R (tJ h ?_) (lJ h ?_)
 ·intro h;refine eU 6 R (C9 ?_);cases h;exact f1 6 R
 intro h;refine rU 3 R (B5u R R R R (eU 2 R (C9 ?_)));cases h;exact f1 6 R
def A0x (F:Nat) (s:ByteArray) (K:Int→Option Bool):Nat→Int→Option Bool
 | 0,_=>none
 | n+1,x=>if x<((A1a s).length:Int)then((P3 (A1a s) x).bind fun e=>if 97≤e then(if e≤122 then(A0x F s K n (W (x+1)))else(if x=0 then(some false)else(if e=45 then(A0x F s K n (W (x+1)))else(if 48≤e then(if e≤57 then(A0x F s K n (W (x+1)))else(some false))else(some false)))))else(if x=0 then(some false)else(if e=45 then(A0x F s K n (W (x+1)))else(if 48≤e then(if e≤57 then(A0x F s K n (W (x+1)))else(some false))else(some false)))))else(K x)
def A2y (F:Nat) (s:ByteArray):Option Bool:=A0x F s (fun x=>(A7N F (s.size:Int) 1 24).bind fun rv=>some (!rv)) F 0
theorem A2F {F s r} (h:A2y F s=some r):PC pg 122 [vS s] (vB r):=by
 rw[A2y]at h;refine oW Tryz.func122 ?_;refine gY 1 R (B8 (gU 1 R (B9c R R R R R R (I7 tb R (eU 1 R (E3 ?_))))));refine C3X (fun K2 m st=>∃ (x:Int),st=⟨[(0,.d (vS s)),(2,dB false),(6,.d (.arr 1 (((A1a s)).map v8))),(7,dI ((A1a s).length:Int)),(8,dI x)],[]⟩∧A0x F s K2 m x=some r) ⟨0,R,h⟩ (.prn [0,2,6,7,8] R) ?_;rintro K2 hK2 m2 _ ⟨x,rfl,h⟩;rw[A0x]at h;refine qG ?_;refine Q4 R R R R (tJ h ?_) (lJ h ?_)
 ·intro h;refine Y9 (B8 (zT (B8 (E3 (gU 1 R ?_)))));obtain⟨e,ie,h⟩:=H1 h;refine yE ie R R (eU 2 R (gU 1 R ?_));refine A7I R R R R (tJ h ?_) (mJ h ?_)
  ·intro h;refine rU 2 R ?_;refine B1t R R R R (tJ h ?_) (mJ h ?_)
   ·intro h;refine eU 19 R (zF (hN 2 R ?_));exact bk ⟨(W (x+1)),R,h⟩ (.prn [0,2,6,7,8] R)
   intro h;refine rU 4 R ?_;refine Z3 R R R R (tJ h ?_) (nJ h ?_)
   ·intro h;refine eU 14 R (cY 1 R ?_);cases h;exact f1 2 R
   intro h;refine rU 2 R ?_;refine V5 R R R R (nJ h ?_) (tJ h ?_)
   ·intro h;refine rU 2 R ?_;refine A7I R R R R (tJ h ?_) (mJ h ?_)
    ·intro h;refine rU 2 R ?_;refine B1t R R R R (tJ h ?_) (mJ h ?_)
     ·intro h;refine eU 5 R (zF (hN 2 R ?_));exact bk ⟨(W (x+1)),R,h⟩ (.prn [0,2,6,7,8] R)
     intro h;refine eU 5 R (cY 1 R ?_);cases h;exact f1 2 R
    intro h;refine eU 8 R (cY 1 R ?_);cases h;exact f1 2 R
   intro h;refine eU 11 R (zF (hN 2 R ?_));exact bk ⟨(W (x+1)),R,h⟩ (.prn [0,2,6,7,8] R)
  intro h;refine rU 7 R ?_;refine Z3 R R R R (tJ h ?_) (nJ h ?_)
  ·intro h;refine eU 14 R (cY 1 R ?_);cases h;exact f1 2 R
  intro h;refine rU 2 R ?_;refine V5 R R R R (nJ h ?_) (tJ h ?_)
  ·intro h;refine rU 2 R ?_;refine A7I R R R R (tJ h ?_) (mJ h ?_)
   ·intro h;refine rU 2 R ?_;refine B1t R R R R (tJ h ?_) (mJ h ?_)
    ·intro h;refine eU 5 R (zF (hN 2 R ?_));exact bk ⟨(W (x+1)),R,h⟩ (.prn [0,2,6,7,8] R)
    intro h;refine eU 5 R (cY 1 R ?_);cases h;exact f1 2 R
   intro h;refine eU 8 R (cY 1 R ?_);cases h;exact f1 2 R
  intro h;refine eU 11 R (zF (hN 2 R ?_));exact bk ⟨(W (x+1)),R,h⟩ (.prn [0,2,6,7,8] R)
 intro h;refine Y9 (B8 (yX ?_));subst hK2;refine gU 1 R (B9Y R R R R ?_);obtain⟨rv,k,h⟩:=H1 h;refine J5 (B4B k) eK R R R R (eU 2 R (C9 ?_));cases h;exact f1 2 R
def A0m (F:Nat) (nv lo hi:Int):Option Bool:=if nv<lo then(some true)else(some (decide (hi<nv)))
theorem V2 {F nv lo hi r} (h:A0m F nv lo hi=some r):PC pg 107 [vI nv,vI lo,vI hi] (vB r):=by
 rw[A0m]at h;refine oW Tryz.func107 ?_;refine gY 1 R (gU 2 R ?_);refine Q4 R R R R (tJ h ?_) (lJ h ?_)
 ·intro h;refine eU 6 R (C9 ?_);cases h;exact f1 6 R
 intro h;refine rU 3 R (B5u R R R R (eU 2 R (C9 ?_)));cases h;exact f1 6 R
def A6j (F:Nat) (nv:Int):Option Bool:=(A0m F nv 0 9).bind fun rv=>some rv
theorem A8B {F nv r} (h:A6j F nv=some r):PC pg 114 [vI nv] (vB r):=by
 rw[A6j]at h;refine oW Tryz.func114 ?_;refine gY 1 R (gU 1 R ?_);obtain⟨rv,k,h⟩:=H1 h;refine J5 (V2 k) eK R R R R (eU 1 R (C9 ?_));cases h;exact f1 2 R
def A6A (F:Nat) (nv:Int):Option Bool:=(A0m F nv (-10000000) 10000000).bind fun rv=>some rv
theorem B2V {F nv r} (h:A6A F nv=some r):PC pg 215 [vI nv] (vB r):=by
 rw[A6A]at h;refine oW Tryz.func215 ?_;refine gY 1 R (gU 1 R ?_);obtain⟨rv,k,h⟩:=H1 h;refine J5 (V2 k) eK R R R R (eU 1 R (C9 ?_));cases h;exact f1 2 R
def V3 (F:Nat) (s:(List Int)) (f:(Int→Option Bool)) (K:Int→Option Int):Nat→Int→Option Int
 | 0,_=>none
 | n+1,x=>if x<(s.length:Int)then((P3 s x).bind fun e=>(f e).bind fun rv=>if rv=true then(some x)else(V3 F s f K n (W (x+1))))else(K x)
def A2b (F:Nat) (s:(List Int)) (f:(Int→Option Bool)):Option Int:=V3 F s f (fun x=>some (-1)) F 0
theorem A6s {F:Nat} {s:(List Int)} {f:(Int→Option Bool)} {r:Int} {fi:Nat} {fc:List D} (fh:∀ {a0:Int} {r:Bool},f a0=some r→PC pg fi ([.v (.int .i64 a0)]++fc) (.v (.bool r))) (fe:Ent pg fi) (h:A2b F s f=some r):SCR pg 192 [.d (aI s),.fn (.func fi) [] (fc.map .d)] [] (dI r) (ao some []):=by
 rw[A2b]at h;refine oW Tryz.func192 ?_;refine gY 1 R (B8 (gU 1 R (I7 tb R (eU 1 R (E3 ?_)))));refine C3X (fun K2 m st=>∃ (x:Int),st=⟨[(0,.d (aI s)),(1,.fn (.func fi) [] (fc.map .d)),(4,dI 0),(7,dI (s.length:Int)),(8,dI x)],[]⟩∧V3 F s f K2 m x=some r) ⟨0,R,h⟩ (.prn [0,1,4,7,8] R) ?_;rintro K2 hK2 m2 _ ⟨x,rfl,h⟩;rw[V3]at h;refine qG ?_;refine Q4 R R R R (tJ h ?_) (lJ h ?_)
 ·intro h;refine Y9 (B8 (zT (B8 (E3 (gY 2 R (gU 3 R ?_))))));obtain⟨e,ie,h⟩:=H1 h;refine yE ie R R ?_;obtain⟨rv,k,h⟩:=H1 h;refine A2W (vs:=[vI e]) (fh k) fe R R R R ?_;refine X8 (tI h ?_) (fI h ?_)
  ·intro c2 h;refine Y9 (cY 2 R ?_);cases h;exact f1 4 R
  intro c2 h;refine Y9 (zF (hN 2 R ?_));exact bk ⟨(W (x+1)),R,h⟩ (.prn [0,1,4,7,8] R)
 intro h;refine Y9 (B8 (yX ?_));subst hK2;refine rY 1 R ?_;cases h;exact f1 4 R
def M1 (F:Nat) (s:(List Int)) (f:(Int→Option Bool)):Option Bool:=(A2b F s f).bind fun rv=>some (decide (0≤rv))
theorem R5 {F:Nat} {s:(List Int)} {f:(Int→Option Bool)} {r:Bool} {fi:Nat} {fc:List D} (fh:∀ {a0:Int} {r:Bool},f a0=some r→PC pg fi ([.v (.int .i64 a0)]++fc) (.v (.bool r))) (fe:Ent pg fi) (h:M1 F s f=some r):SCR pg 147 [.d (aI s),.fn (.func fi) [] (fc.map .d)] [] (dB r) (ao some []):=by
 rw[M1]at h;refine oW Tryz.func147 ?_;refine gY 1 R (gU 2 R ?_);obtain⟨rv,k,h⟩:=H1 h;refine A0t (A6s (f:=f) (fh:=fh) (fe:=fe) k) R .nil eK R R ((.cons (.d (.d _)) (.cons .hof .nil))) R .nil R R R ?_;simp only[bb,aH];refine A3k R R R R (eU 1 R (C9 ?_));cases h;exact f1 4 R
def A8d (F:Nat) (lv:(List Int)):Option Bool:=(M1 F lv (fun a0=>A6A F a0)).bind fun rv=>some rv
theorem B1n {F lv r} (h:A8d F lv=some r):PC pg 176 [aI lv] (vB r):=by
 rw[A8d]at h;refine oW Tryz.func176 ?_;refine gY 1 R (gU 1 R ?_);obtain⟨rv,k,h⟩:=H1 h;refine A0t (R5 (f:=(fun a0=>A6A F a0)) (fc:=[]) (fh:=fun hr=>B2V hr) (fe := .of kR) k) R .nil eK R R ((.cons (.d (.d _)) (.cons .fnc .nil))) R .nil R R R ?_;simp only[bb,aH];refine eU 1 R (C9 ?_);cases h;exact f1 2 R
def A4U (F:Nat) (z:F6):Option ByteArray:=some z.name
theorem B1d {F z r} (h:A4U F z=some r):PC pg 109 [F6.d z] (vS r):=by
 rw[A4U]at h;refine oW Tryz.func109 ?_;refine gY 2 R (rY 3 R ?_);cases h;exact f1 2 R
def A3J (F:Nat) (x:E2):Option ByteArray:=some x.name
theorem B1e {F x r} (h:A3J F x=some r):PC pg 112 [E2.d x] (vS r):=by
 rw[A3J]at h;refine oW Tryz.func112 ?_;refine gY 2 R (rY 3 R ?_);cases h;exact f1 2 R
def A3K (F:Nat) (x:E2):Option Int:=(A6j F x.grade).bind fun rv=>if rv=true then(some 7)else(some 0)
theorem B1f {F x r} (h:A3K F x=some r):PC pg 113 [E2.d x] (vI r):=by
 rw[A3K]at h;refine oW Tryz.func113 ?_;refine gY 2 R (B8 (gU 2 R ?_));obtain⟨rv,k,h⟩:=H1 h;refine M6 (A8B k) eK R R R R (tI h ?_) (fI h ?_)
 ·intro c h;refine Y9 (cY 1 R ?_);cases h;exact f1 2 R
 intro c h;refine Y9 (zF (rY 1 R ?_));cases h;exact f1 2 R
def A3L (F:Nat) (s:ByteArray):Option ByteArray:=some s
theorem B1g {F s r} (h:A3L F s=some r):PC pg 116 [vS s] (vS r):=by
 rw[A3L]at h;refine oW Tryz.func116 ?_;refine gY 1 R (rY 2 R ?_);cases h;exact f1 2 R
def A3M (F:Nat) (a:ByteArray):Option Int:=some 0
theorem B1h {F a r} (h:A3M F a=some r):PC pg 117 [vS a] (vI r):=by
 rw[A3M]at h;refine oW Tryz.func117 ?_;refine gY 1 R (rY 1 R ?_);cases h;exact f1 2 R
def A3N (F:Nat) (q:D1):Option ByteArray:=some q.name
theorem B1i {F q r} (h:A3N F q=some r):PC pg 119 [D1.d q] (vS r):=by
 rw[A3N]at h;refine oW Tryz.func119 ?_;refine gY 2 R (rY 3 R ?_);cases h;exact f1 2 R
def A2z (F:Nat):Option Int:=some 7
def A6C (F:Nat) (z:F6):Option Int:=(A8d F [z.L5,z.L4,z.L7,z.L6]).bind fun rv=>if rv=true then(A2z F)else(if z.L4<z.L5 then(A2z F)else(if z.L6<z.L7 then(A2z F)else((A6j F z.grade).bind fun rv2=>if rv2=true then(A2z F)else((A0m F z.room 1 8).bind fun rv3=>if rv3=true then(A2z F)else(some 0)))))
theorem B4d {F z r} (h:A6C F z=some r):PC pg 110 [F6.d z] (vI r):=by
 rw[A6C]at h;refine oW Tryz.func110 ?_;refine gY 2 R (B8 (T1 kR (rU 10 R (I0 kR (B8 (B8 ?_))))));refine W5 (fun zz:Unit=>A2z F=some r) (fun zz:Unit=>⟨[(2,dI 0),(44,dB true)],[]⟩) ?_ ?_
 ·clear h;rintro⟨⟩ h;rw[A2z]at h;refine cY 1 R ?_;cases h;exact f1 2 R
 refine hU 8 R (P7 tb R R R R R R R R R R R R R ?_);obtain⟨rv,k,h⟩:=H1 h;refine A4k (B1n k) eK R R ((.cons (.row R R) .nil)) R R (tI h ?_) (fI h ?_)
 ·intro c h;refine nU 24 R ?_;exact .inl ⟨(),h,.vq []⟩
 intro c h;refine rU 5 R ?_;refine A4l R R R R (tJ h ?_) (lJ h ?_)
 ·intro h;refine nU 18 R ?_;exact .inl ⟨(),h,.vq []⟩
 intro h;refine rU 6 R ?_;refine A4l R R R R (tJ h ?_) (lJ h ?_)
 ·intro h;refine nU 11 R ?_;exact .inl ⟨(),h,.vq []⟩
 intro h;refine rU 4 R ?_;obtain⟨rv2,k2,h⟩:=H1 h;refine M6 (A8B k2) eK R R R R (tI h ?_) (fI h ?_)
 ·intro c4 h;refine nU 6 R ?_;exact .inl ⟨(),h,.vq []⟩
 intro c4 h;refine rU 4 R ?_;obtain⟨rv3,k3,h⟩:=H1 h;refine M6 (V2 k3) eK R R R R (tI h ?_) (fI h ?_)
 ·intro c5 h;refine nU 1 R ?_;exact .inl ⟨(),h,.vq []⟩
 intro c5 h;refine nU 1 R (.inr (zF (rY 1 R ?_)));cases h;exact f1 2 R
def A5a (F:Nat) (k c:Int):Option Bool:=(A0m F k 0 (W (c-1))).bind fun rv=>some rv
theorem B1o {F k c r} (h:A5a F k c=some r):PC pg 177 [vI k,.el 1 (([c]).map vI) ((0:Int)).toNat 0] (vB r):=by
 rw[A5a]at h;refine oW Tryz.func177 ?_;refine gY 1 R (gU 1 R (I4 (y:=vI c) tb (U5 (g:=vI) (R:P3 [c] 0=some c)) R (rU 1 R ?_)));obtain⟨rv,k,h⟩:=H1 h;refine J5 (V2 k) eK R R R R (eU 1 R (C9 ?_));cases h;exact f1 3 R
def A28 (F:Nat) (q:D1) (q2:(List Int)) (K:Int→Option Int):Nat→Int→Option Int
 | 0,_=>none
 | n+1,x=>if x<(q2.length:Int)then((P3 q.keys x).bind fun e=>(P3 q.keys (W (x+1))).bind fun e2=>if e2≤e then(some 2)else(A28 F q q2 K n (W (x+1))))else(K x)
def A4j (F:Nat) (q:D1):Option Int:=(A7A q.keys 1 q.keys.length).bind fun q2=>A28 F q q2 (fun x=>some 0) F 0
def A6B (F:Nat) (q:D1) (keys:Int):Option Int:=(A8d F [q.A4s,q.A4t]).bind fun rv=>if rv=true then(some 7)else((A0m F q.clear 0 10000000).bind fun rv2=>if rv2=true then(some 7)else((A6j F q.grade).bind fun rv3=>if rv3=true then(some 7)else(if(q.keys.length:Int)=0 then(some 4)else((M1 F q.keys (fun a0=>A5a F a0 keys)).bind fun rv4=>if rv4=true then(some 4)else(A4j F q)))))
theorem B2Y {F q keys r} (h:A6B F q keys=some r):PC pg 121 [D1.d q,vI keys] (vI r):=by
 rw[A6B]at h;refine oW Tryz.func121 ?_;refine gY 3 R (B8 ?_);refine W5 (fun zz:Unit=>A4j F q=some r) (fun zz:Unit=>⟨[(2,rf 0 6),(4,dI 0)],[bx 6 (.d (D1.d q))]⟩) ?_ ?_
 ·clear h;rintro⟨⟩ h;rw[A4j]at h;refine B8 (gU 2 R ?_);obtain⟨q2,iq2,h⟩:=H1 h;refine B8f tb R R R R R R iq2 R R (I7 tb R (eU 1 R (E3 ?_)));refine C3X (fun K3 m st=>∃ (x:Int),st=⟨[(2,rf 0 6),(4,dI 0),(39,dI (q2.length:Int)),(40,dI x)],[bx 6 (.d (D1.d q))]⟩∧A28 F q q2 K3 m x=some r) ⟨0,R,h⟩ (.prn [2,4,39,40] R) ?_;rintro K3 hK3 m3 _ ⟨x,rfl,h⟩;rw[A28]at h;refine qG ?_;refine Q4 R R R R (tJ h ?_) (lJ h ?_)
  ·intro h;refine Y9 (B8 (zT (B8 (E3 (gY 2 R (B8 (T1 kR (rU 3 R ?_))))))));obtain⟨e,ie,h⟩:=H1 h;refine yE ie R R (rU 4 R ?_);obtain⟨e2,ie2,h⟩:=H1 h;refine yE ie2 R R ?_;refine A7I R R R R (tJ h ?_) (mJ h ?_)
   ·intro h;refine I0 kR (cY 1 R ?_);cases h;exact f1 4 R
   intro h;refine I0 kR (zF (hN 2 R ?_));exact bk ⟨(W (x+1)),R,h⟩ (.prn [2,4,39,40] R)
  intro h;refine Y9 (B8 (yX ?_));subst hK3;refine rY 1 R ?_;cases h;exact f1 4 R
 refine E3 (gU 6 R (P7 tb R R R R R R R R R R R R R ?_));obtain⟨rv,k,h⟩:=H1 h;refine A4k (B1n k) eK R R ((.cons (.row R R) .nil)) R R (tI h ?_) (fI h ?_)
 ·intro c h;refine eU 11 R (cY 1 R ?_);cases h;exact f1 4 R
 intro c h;refine rU 3 R ?_;obtain⟨rv2,k2,h⟩:=H1 h;refine M6 (V2 k2) eK R R R R (tI h ?_) (fI h ?_)
 ·intro c2 h;refine eU 7 R (cY 1 R ?_);cases h;exact f1 4 R
 intro c2 h;refine rU 4 R ?_;obtain⟨rv3,k3,h⟩:=H1 h;refine M6 (A8B k3) eK R R R R (tI h ?_) (fI h ?_)
 ·intro c3 h;refine eU 2 R (cY 1 R ?_);cases h;exact f1 4 R
 intro c3 h;refine eU 2 R (C1 R (gU 2 R (I7 tb R ?_)));refine Z3 R R R R (tJ h ?_) (nJ h ?_)
 ·intro h;refine eU 7 R (cY 1 R ?_);cases h;exact f1 4 R
 intro h;refine rU 3 R (A3E R R R R ?_);obtain⟨rv4,k4,h⟩:=H1 h;refine A0t (R5 (f:=(fun a0=>A5a F a0 keys)) (fc:=[.el 1 [vI keys] 0 0]) (fh:=fun hr=>B1o hr) (fe := .of kR) k4) R .nil eK R R ((.cons (.d (.d _)) (.cons (.fnC (.cons (.d (.ref R (.d _))) .nil)) .nil))) R .nil R R R ?_;simp only[bb,aH];refine X8 (tI h ?_) (fI h ?_)
 ·intro c5 h;refine eU 2 R (cY 1 R ?_);cases h;exact f1 4 R
 intro c5 h;refine eU 2 R (zF (D3 (A6 ?_)));exact .inl ⟨(),h,.vq [0]⟩
def A3O (F:Nat) (q:D1) (c:D5):Option Int:=(A6B F q (c.keys.length:Int)).bind fun rv=>some rv
theorem B1j {F q c r} (h:A3O F q c=some r):PC pg 120 [D1.d q,.el 7 (([c]).map D5.d) ((0:Int)).toNat 0] (vI r):=by
 rw[A3O]at h;refine oW Tryz.func120 ?_;refine gY 2 R (gU 2 R (I4 (y := .arr 1 ((c.keys).map vS)) tb (U5 (g:=D5.d) (R:P3 [c] 0=some c)) R (I7 tb R ?_)));obtain⟨rv,k,h⟩:=H1 h;refine J5 (B2Y k) eK R R R R (eU 1 R (C9 ?_));cases h;exact f1 3 R
def Z6 (F:Nat) (lv:(List F6)) (name:(F6→Option ByteArray)) (rest:(F6→Option Int)) (K:(List (ByteArray × Bool))→Int→Option (Int × Int)):Nat→(List (ByteArray × Bool))→Int→Option (Int × Int)
 | 0,_,_=>none
 | n+1,seen,x=>if x<(lv.length:Int)then((P3 lv x).bind fun e=>(name e).bind fun rv=>(A2y F rv).bind fun rv2=>if rv2=true then(if((A2e seen rv).getD false)=true then(some (x,5))else((rest e).bind fun rv3=>if rv3=0 then(Z6 F lv name rest K n (M0 seen rv true) (W (x+1)))else(some (x,rv3))))else(some (x,6)))else(K seen x)
def A2p (F:Nat) (lv:(List F6)) (name:(F6→Option ByteArray)) (rest:(F6→Option Int)):Option (Int × Int):=Z6 F lv name rest (fun seen x=>some (0,0)) F ([]:List (ByteArray × Bool)) 0
theorem A7E {F:Nat} {lv:(List F6)} {name:(F6→Option ByteArray)} {rest:(F6→Option Int)} {r:(Int × Int)} {namei:Nat} {namec:List D} (nameh:∀ {a0:F6} {r:ByteArray},name a0=some r→PC pg namei ([F6.d a0]++namec) (.v (.string r))) (namee:Ent pg namei) {resti:Nat} {restc:List D} (resth:∀ {a0:F6} {r:Int},rest a0=some r→PC pg resti ([F6.d a0]++restc) (.v (.int .i64 r))) (reste:Ent pg resti) (h:A2p F lv name rest=some r):SCR pg 108 [.d (.arr 8 ((lv).map F6.d)),.fn (.func namei) [] (namec.map .d),.fn (.func resti) [] (restc.map .d)] [] (.d (.tup [vI r.1,vI r.2])) (ao some []):=by
 rw[A2p]at h;refine oW Tryz.func108 ?_;refine gY 2 R (qG (A58 R R R (eU 1 R (B8 (gU 1 R (I7 tb R (eU 1 R (E3 ?_))))))));refine C3X (fun K3 m st=>∃ (seen:(List (ByteArray × Bool))) (x:Int),st=⟨[(1,.fn (.func namei) [] (namec.map .d)),(2,.fn (.func resti) [] (restc.map .d)),(6,dI 0),(7,dI 0),(8,.mp 0),(14,.d (.arr 8 ((lv).map F6.d))),(15,dI (lv.length:Int)),(16,dI x)],[C3o seen]⟩∧Z6 F lv name rest K3 m seen x=some r) ⟨([]:List (ByteArray × Bool)),0,R,h⟩ (.prn [1,2,6,7,8,14,15,16] R) ?_;rintro K3 hK3 m3 _ ⟨seen,x,rfl,h⟩;rw[Z6]at h;refine qG ?_;refine Q4 R R R R (tJ h ?_) (lJ h ?_)
 ·intro h;refine Y9 (B8 (zT (B8 (E3 (gU 1 R ?_)))));obtain⟨e,ie,h⟩:=H1 h;refine yE ie R R (eU 3 R (gU 2 R ?_));obtain⟨rv,k,h⟩:=H1 h;refine A2W (vs:=[F6.d e]) (nameh k) namee R R R R (eU 1 R (B8 (E3 (gU 1 R ?_))));obtain⟨rv2,k2,h⟩:=H1 h;refine M6 (A2F k2) eK R R R R (tI h ?_) (fI h ?_)
  ·intro c2 h;refine eU 2 R (C1 R (gU 2 R ?_));refine B5U (vf:=fun b=>vB b) (z0:=false) (u:=vB ((A2e seen rv).getD false)) tb R R R R R R R R R R ?_;refine X8 (tI h ?_) (fI h ?_)
   ·intro c3 h;refine eU 1 R (cY 3 R ?_);cases h;exact f0 R R R (tC 6 (tC 7 .nil))
   intro c3 h;refine eU 1 R (zF (B8 (gU 2 R ?_)));obtain⟨rv3,k3,h⟩:=H1 h;refine A2W (vs:=[F6.d e]) (resth k3) reste R R R R (eU 1 R (gU 1 R ?_));refine V5 R R R R (nJ h ?_) (tJ h ?_)
   ·intro h;refine Y9 (cY 4 R ?_);cases h;exact f0 R R R (tC 6 (tC 7 .nil))
   intro h;refine Y9 (zF (hU 2 R ?_));refine B01 (vf:=fun b=>vB b) (v:=true) (q:=(M0 seen rv true)) ([C3o (M0 seen rv true),bx 8 (.d (F6.d e))]) R R R R R R R R R ?_;refine Y9 (hN 2 R ?_);exact bk ⟨(M0 seen rv true),(W (x+1)),R,h⟩ (.vw (κ:=[0]) (vwK R R (.map R .nil) (.hof R (.hof R (.cons R R (.cons R R (.cons R R (.cons R R (.cons R R (.cons R R .nil))))))))))
  intro c2 h;refine eU 2 R (cY 3 R ?_);cases h;exact f0 R R R (tC 6 (tC 7 .nil))
 intro h;refine Y9 (B8 (yX ?_));subst hK3;refine rY 2 R ?_;cases h;exact f0 R R R (tC 6 (tC 7 .nil))
def W9 (F:Nat) (lv:(List E2)) (name:(E2→Option ByteArray)) (rest:(E2→Option Int)) (K:(List (ByteArray × Bool))→Int→Option (Int × Int)):Nat→(List (ByteArray × Bool))→Int→Option (Int × Int)
 | 0,_,_=>none
 | n+1,seen,x=>if x<(lv.length:Int)then((P3 lv x).bind fun e=>(name e).bind fun rv=>(A2y F rv).bind fun rv2=>if rv2=true then(if((A2e seen rv).getD false)=true then(some (x,5))else((rest e).bind fun rv3=>if rv3=0 then(W9 F lv name rest K n (M0 seen rv true) (W (x+1)))else(some (x,rv3))))else(some (x,6)))else(K seen x)
def A1x (F:Nat) (lv:(List E2)) (name:(E2→Option ByteArray)) (rest:(E2→Option Int)):Option (Int × Int):=W9 F lv name rest (fun seen x=>some (0,0)) F ([]:List (ByteArray × Bool)) 0
theorem A7j {F:Nat} {lv:(List E2)} {name:(E2→Option ByteArray)} {rest:(E2→Option Int)} {r:(Int × Int)} {namei:Nat} {namec:List D} (nameh:∀ {a0:E2} {r:ByteArray},name a0=some r→PC pg namei ([E2.d a0]++namec) (.v (.string r))) (namee:Ent pg namei) {resti:Nat} {restc:List D} (resth:∀ {a0:E2} {r:Int},rest a0=some r→PC pg resti ([E2.d a0]++restc) (.v (.int .i64 r))) (reste:Ent pg resti) (h:A1x F lv name rest=some r):SCR pg 111 [.d (.arr 2 ((lv).map E2.d)),.fn (.func namei) [] (namec.map .d),.fn (.func resti) [] (restc.map .d)] [] (.d (.tup [vI r.1,vI r.2])) (ao some []):=by
 rw[A1x]at h;refine oW Tryz.func111 ?_;refine gY 2 R (qG (A58 R R R (eU 1 R (B8 (gU 1 R (I7 tb R (eU 1 R (E3 ?_))))))));refine C3X (fun K3 m st=>∃ (seen:(List (ByteArray × Bool))) (x:Int),st=⟨[(1,.fn (.func namei) [] (namec.map .d)),(2,.fn (.func resti) [] (restc.map .d)),(6,dI 0),(7,dI 0),(8,.mp 0),(14,.d (.arr 2 ((lv).map E2.d))),(15,dI (lv.length:Int)),(16,dI x)],[C3o seen]⟩∧W9 F lv name rest K3 m seen x=some r) ⟨([]:List (ByteArray × Bool)),0,R,h⟩ (.prn [1,2,6,7,8,14,15,16] R) ?_;rintro K3 hK3 m3 _ ⟨seen,x,rfl,h⟩;rw[W9]at h;refine qG ?_;refine Q4 R R R R (tJ h ?_) (lJ h ?_)
 ·intro h;refine Y9 (B8 (zT (B8 (E3 (gU 1 R ?_)))));obtain⟨e,ie,h⟩:=H1 h;refine yE ie R R (eU 3 R (gU 2 R ?_));obtain⟨rv,k,h⟩:=H1 h;refine A2W (vs:=[E2.d e]) (nameh k) namee R R R R (eU 1 R (B8 (E3 (gU 1 R ?_))));obtain⟨rv2,k2,h⟩:=H1 h;refine M6 (A2F k2) eK R R R R (tI h ?_) (fI h ?_)
  ·intro c2 h;refine eU 2 R (C1 R (gU 2 R ?_));refine B5U (vf:=fun b=>vB b) (z0:=false) (u:=vB ((A2e seen rv).getD false)) tb R R R R R R R R R R ?_;refine X8 (tI h ?_) (fI h ?_)
   ·intro c3 h;refine eU 1 R (cY 3 R ?_);cases h;exact f0 R R R (tC 6 (tC 7 .nil))
   intro c3 h;refine eU 1 R (zF (B8 (gU 2 R ?_)));obtain⟨rv3,k3,h⟩:=H1 h;refine A2W (vs:=[E2.d e]) (resth k3) reste R R R R (eU 1 R (gU 1 R ?_));refine V5 R R R R (nJ h ?_) (tJ h ?_)
   ·intro h;refine Y9 (cY 4 R ?_);cases h;exact f0 R R R (tC 6 (tC 7 .nil))
   intro h;refine Y9 (zF (hU 2 R ?_));refine B01 (vf:=fun b=>vB b) (v:=true) (q:=(M0 seen rv true)) ([C3o (M0 seen rv true),bx 2 (.d (E2.d e))]) R R R R R R R R R ?_;refine Y9 (hN 2 R ?_);exact bk ⟨(M0 seen rv true),(W (x+1)),R,h⟩ (.vw (κ:=[0]) (vwK R R (.map R .nil) (.hof R (.hof R (.cons R R (.cons R R (.cons R R (.cons R R (.cons R R (.cons R R .nil))))))))))
  intro c2 h;refine eU 2 R (cY 3 R ?_);cases h;exact f0 R R R (tC 6 (tC 7 .nil))
 intro h;refine Y9 (B8 (yX ?_));subst hK3;refine rY 2 R ?_;cases h;exact f0 R R R (tC 6 (tC 7 .nil))
def Z7 (F:Nat) (lv:(List ByteArray)) (name:(ByteArray→Option ByteArray)) (rest:(ByteArray→Option Int)) (K:(List (ByteArray × Bool))→Int→Option (Int × Int)):Nat→(List (ByteArray × Bool))→Int→Option (Int × Int)
 | 0,_,_=>none
 | n+1,seen,x=>if x<(lv.length:Int)then((P3 lv x).bind fun e=>(name e).bind fun rv=>(A2y F rv).bind fun rv2=>if rv2=true then(if((A2e seen rv).getD false)=true then(some (x,5))else((rest e).bind fun rv3=>if rv3=0 then(Z7 F lv name rest K n (M0 seen rv true) (W (x+1)))else(some (x,rv3))))else(some (x,6)))else(K seen x)
def A2q (F:Nat) (lv:(List ByteArray)) (name:(ByteArray→Option ByteArray)) (rest:(ByteArray→Option Int)):Option (Int × Int):=Z7 F lv name rest (fun seen x=>some (0,0)) F ([]:List (ByteArray × Bool)) 0
theorem A7F {F:Nat} {lv:(List ByteArray)} {name:(ByteArray→Option ByteArray)} {rest:(ByteArray→Option Int)} {r:(Int × Int)} {namei:Nat} {namec:List D} (nameh:∀ {a0:ByteArray} {r:ByteArray},name a0=some r→PC pg namei ([.v (.string a0)]++namec) (.v (.string r))) (namee:Ent pg namei) {resti:Nat} {restc:List D} (resth:∀ {a0:ByteArray} {r:Int},rest a0=some r→PC pg resti ([.v (.string a0)]++restc) (.v (.int .i64 r))) (reste:Ent pg resti) (h:A2q F lv name rest=some r):SCR pg 115 [.d (.arr 1 ((lv).map vS)),.fn (.func namei) [] (namec.map .d),.fn (.func resti) [] (restc.map .d)] [] (.d (.tup [vI r.1,vI r.2])) (ao some []):=by
 rw[A2q]at h;refine oW Tryz.func115 ?_;refine gY 2 R (qG (A58 R R R (eU 1 R (B8 (gU 1 R (I7 tb R (eU 1 R (E3 ?_))))))));refine C3X (fun K3 m st=>∃ (seen:(List (ByteArray × Bool))) (x:Int),st=⟨[(1,.fn (.func namei) [] (namec.map .d)),(2,.fn (.func resti) [] (restc.map .d)),(6,dI 0),(7,dI 0),(8,.mp 0),(14,.d (.arr 1 ((lv).map vS))),(15,dI (lv.length:Int)),(16,dI x)],[C3o seen]⟩∧Z7 F lv name rest K3 m seen x=some r) ⟨([]:List (ByteArray × Bool)),0,R,h⟩ (.prn [1,2,6,7,8,14,15,16] R) ?_;rintro K3 hK3 m3 _ ⟨seen,x,rfl,h⟩;rw[Z7]at h;refine qG ?_;refine Q4 R R R R (tJ h ?_) (lJ h ?_)
 ·intro h;refine Y9 (B8 (zT (B8 (E3 (gU 1 R ?_)))));obtain⟨e,ie,h⟩:=H1 h;refine yE ie R R (eU 2 R (gU 2 R ?_));obtain⟨rv,k,h⟩:=H1 h;refine A2W (vs:=[vS e]) (nameh k) namee R R R R (eU 1 R (B8 (E3 (gU 1 R ?_))));obtain⟨rv2,k2,h⟩:=H1 h;refine M6 (A2F k2) eK R R R R (tI h ?_) (fI h ?_)
  ·intro c2 h;refine eU 2 R (C1 R (gU 2 R ?_));refine B5U (vf:=fun b=>vB b) (z0:=false) (u:=vB ((A2e seen rv).getD false)) tb R R R R R R R R R R ?_;refine X8 (tI h ?_) (fI h ?_)
   ·intro c3 h;refine eU 1 R (cY 3 R ?_);cases h;exact f0 R R R (tC 6 (tC 7 .nil))
   intro c3 h;refine eU 1 R (zF (B8 (gU 2 R ?_)));obtain⟨rv3,k3,h⟩:=H1 h;refine A2W (vs:=[vS e]) (resth k3) reste R R R R (eU 1 R (gU 1 R ?_));refine V5 R R R R (nJ h ?_) (tJ h ?_)
   ·intro h;refine Y9 (cY 4 R ?_);cases h;exact f0 R R R (tC 6 (tC 7 .nil))
   intro h;refine Y9 (zF (hU 2 R ?_));refine B01 (vf:=fun b=>vB b) (v:=true) (q:=(M0 seen rv true)) ([C3o (M0 seen rv true)]) R R R R R R R R R ?_;refine Y9 (hN 2 R ?_);exact bk ⟨(M0 seen rv true),(W (x+1)),R,h⟩ (.prn [1,2,6,7,8,14,15,16] R)
  intro c2 h;refine eU 2 R (cY 3 R ?_);cases h;exact f0 R R R (tC 6 (tC 7 .nil))
 intro h;refine Y9 (B8 (yX ?_));subst hK3;refine rY 2 R ?_;cases h;exact f0 R R R (tC 6 (tC 7 .nil))
def X9 (F:Nat) (lv:(List D1)) (name:(D1→Option ByteArray)) (rest:(D1→Option Int)) (K:(List (ByteArray × Bool))→Int→Option (Int × Int)):Nat→(List (ByteArray × Bool))→Int→Option (Int × Int)
 | 0,_,_=>none
 | n+1,seen,x=>if x<(lv.length:Int)then((P3 lv x).bind fun e=>(name e).bind fun rv=>(A2y F rv).bind fun rv2=>if rv2=true then(if((A2e seen rv).getD false)=true then(some (x,5))else((rest e).bind fun rv3=>if rv3=0 then(X9 F lv name rest K n (M0 seen rv true) (W (x+1)))else(some (x,rv3))))else(some (x,6)))else(K seen x)
def A1V (F:Nat) (lv:(List D1)) (name:(D1→Option ByteArray)) (rest:(D1→Option Int)):Option (Int × Int):=X9 F lv name rest (fun seen x=>some (0,0)) F ([]:List (ByteArray × Bool)) 0
theorem A70 {F:Nat} {lv:(List D1)} {name:(D1→Option ByteArray)} {rest:(D1→Option Int)} {r:(Int × Int)} {namei:Nat} {namec:List D} (nameh:∀ {a0:D1} {r:ByteArray},name a0=some r→PC pg namei ([D1.d a0]++namec) (.v (.string r))) (namee:Ent pg namei) {resti:Nat} {restc:List D} (resth:∀ {a0:D1} {r:Int},rest a0=some r→PC pg resti ([D1.d a0]++restc) (.v (.int .i64 r))) (reste:Ent pg resti) (h:A1V F lv name rest=some r):SCR pg 118 [.d (.arr 6 ((lv).map D1.d)),.fn (.func namei) [] (namec.map .d),.fn (.func resti) [] (restc.map .d)] [] (.d (.tup [vI r.1,vI r.2])) (ao some []):=by
 rw[A1V]at h;refine oW Tryz.func118 ?_;refine gY 2 R (qG (A58 R R R (eU 1 R (B8 (gU 1 R (I7 tb R (eU 1 R (E3 ?_))))))));refine C3X (fun K3 m st=>∃ (seen:(List (ByteArray × Bool))) (x:Int),st=⟨[(1,.fn (.func namei) [] (namec.map .d)),(2,.fn (.func resti) [] (restc.map .d)),(6,dI 0),(7,dI 0),(8,.mp 0),(14,.d (.arr 6 ((lv).map D1.d))),(15,dI (lv.length:Int)),(16,dI x)],[C3o seen]⟩∧X9 F lv name rest K3 m seen x=some r) ⟨([]:List (ByteArray × Bool)),0,R,h⟩ (.prn [1,2,6,7,8,14,15,16] R) ?_;rintro K3 hK3 m3 _ ⟨seen,x,rfl,h⟩;rw[X9]at h;refine qG ?_;refine Q4 R R R R (tJ h ?_) (lJ h ?_)
 ·intro h;refine Y9 (B8 (zT (B8 (E3 (gU 1 R ?_)))));obtain⟨e,ie,h⟩:=H1 h;refine yE ie R R (eU 3 R (gU 2 R ?_));obtain⟨rv,k,h⟩:=H1 h;refine A2W (vs:=[D1.d e]) (nameh k) namee R R R R (eU 1 R (B8 (E3 (gU 1 R ?_))));obtain⟨rv2,k2,h⟩:=H1 h;refine M6 (A2F k2) eK R R R R (tI h ?_) (fI h ?_)
  ·intro c2 h;refine eU 2 R (C1 R (gU 2 R ?_));refine B5U (vf:=fun b=>vB b) (z0:=false) (u:=vB ((A2e seen rv).getD false)) tb R R R R R R R R R R ?_;refine X8 (tI h ?_) (fI h ?_)
   ·intro c3 h;refine eU 1 R (cY 3 R ?_);cases h;exact f0 R R R (tC 6 (tC 7 .nil))
   intro c3 h;refine eU 1 R (zF (B8 (gU 2 R ?_)));obtain⟨rv3,k3,h⟩:=H1 h;refine A2W (vs:=[D1.d e]) (resth k3) reste R R R R (eU 1 R (gU 1 R ?_));refine V5 R R R R (nJ h ?_) (tJ h ?_)
   ·intro h;refine Y9 (cY 4 R ?_);cases h;exact f0 R R R (tC 6 (tC 7 .nil))
   intro h;refine Y9 (zF (hU 2 R ?_));refine B01 (vf:=fun b=>vB b) (v:=true) (q:=(M0 seen rv true)) ([C3o (M0 seen rv true),bx 6 (.d (D1.d e))]) R R R R R R R R R ?_;refine Y9 (hN 2 R ?_);exact bk ⟨(M0 seen rv true),(W (x+1)),R,h⟩ (.vw (κ:=[0]) (vwK R R (.map R .nil) (.hof R (.hof R (.cons R R (.cons R R (.cons R R (.cons R R (.cons R R (.cons R R .nil))))))))))
  intro c2 h;refine eU 2 R (cY 3 R ?_);cases h;exact f0 R R R (tC 6 (tC 7 .nil))
 intro h;refine Y9 (B8 (yX ?_));subst hK3;refine rY 2 R ?_;cases h;exact f0 R R R (tC 6 (tC 7 .nil))
def A30 (F:Nat) (p:D5) (zone:Int):Option (Int × D5):=some (zone,p)
theorem A7k {F p zone r} (h:A30 F p zone=some r):SCR pg 74 (ao T.d [D5.d p,vI zone]) [] (.fn (.func 148) [] [rf 0 1,rf 1 7]) (ao some [⟨1,[dI r.1]⟩,⟨7,[.d (D5.d r.2)]⟩]):=by
 rw[A30]at h;refine oW Tryz.func74 ?_;refine gY 3 R (qG (A3E R R R R (eU 1 R (C9 ?_))));cases h;exact f2 [1,0] (.cons R R (.cons R R .nil)) R (tC 4 .nil) R
def A4g (F:Nat) (x:Int):Option (Int × Int × Int):=some (3,x,4)
def A1S (F:Nat) (t:D5):Option (Int × Int × Int):=(A0m F t.wait 0 6000).bind fun rv10=>if rv10=true then(some (7,0,7))else(some (0,0,0))
def A1U (F:Nat) (rv9:(Int × D5)) (e2:F6) (K:Int→Option (Int × Int × Int)):Nat→Int→Option (Int × Int × Int)
 | 0,_=>none
 | n+1,x2=>if x2<(rv9.2.squibs.length:Int)then((P3 rv9.2.squibs x2).bind fun e3=>if(W ((W ((max (max (W (e2.L5-e3.A4s)) (W (e3.A4s-e2.L4))) 0)*(max (max (W (e2.L5-e3.A4s)) (W (e3.A4s-e2.L4))) 0)))+(W ((max (max (W (e2.L7-e3.A4t)) (W (e3.A4t-e2.L6))) 0)*(max (max (W (e2.L7-e3.A4t)) (W (e3.A4t-e2.L6))) 0)))))<(W (e3.clear*e3.clear))then(some (7,0,2))else(A1U F rv9 e2 K n (W (x2+1))))else(K x2)
def A22 (F:Nat) (t:D5) (K:Int→Option (Int × Int × Int)):Nat→Int→Option (Int × Int × Int)
 | 0,_=>none
 | n+1,x=>if x<(t.doors.length:Int)then((P3 t.doors x).bind fun e=>(A0m F e.a (-1) (W ((t.zones.length:Int)-1))).bind fun rv3=>if rv3=true then(A4g F x)else((A0m F e.b (-1) (W ((t.zones.length:Int)-1))).bind fun rv4=>if rv4=true then(A4g F x)else(if e.a=e.b then(some (3,x,2))else(A22 F t K n (W (x+1))))))else(K x)
def A4h (F:Nat) (t:D5):Option (Int × Int × Int):=(A2p F t.zones (fun a0=>A4U F a0) (fun a0=>A6C F a0)).bind fun rv2=>if rv2.2=0 then(A22 F t (fun x=>(A1x F t.people (fun a0=>A3J F a0) (fun a0=>A3K F a0)).bind fun rv5=>if rv5.2=0 then((A2q F t.keys (fun a0=>A3L F a0) (fun a0=>A3M F a0)).bind fun rv6=>if rv6.2=0 then((A1V F t.squibs (fun a0=>A3N F a0) (fun a0=>A3O F a0 t)).bind fun rv7=>if rv7.2=0 then((A0m F t.panel 0 (W ((t.zones.length:Int)-1))).bind fun rv8=>if rv8=true then(some (7,0,4))else((A30 F t t.panel).bind fun rv9=>if rv9.1<0 then(A1S F t)else((P3 rv9.2.zones rv9.1).bind fun e2=>A1U F rv9 e2 (fun x2=>A1S F t) F 0)))else(some (6,rv7.1,rv7.2)))else(some (5,rv6.1,rv6.2)))else(some (4,rv5.1,rv5.2))) F 0)else(some (2,rv2.1,rv2.2))
def A1T (F:Nat):Option (Int × Int × Int):=some (1,0,3)
def A43 (F:Nat) (t:D5):Option (Int × Int × Int):=(A0m F (W ((t.zones.length:Int)-1)) 0 7).bind fun rv=>if rv=true then(A1T F)else(if 24<(t.doors.length:Int)then(A1T F)else(if 8<(t.people.length:Int)then(A1T F)else(if 8<(t.keys.length:Int)then(A1T F)else(if 6<(t.squibs.length:Int)then(A1T F)else(A4h F t)))))
theorem A7f {F t r} (h:A43 F t=some r):PC pg 60 [D5.d t] (.tup [vI r.1,vI r.2.1,vI r.2.2]):=by
 rw[A43]at h;refine oN Tryz.func60 ?_;refine S3 ?_;refine W3 fun df=>?_;refine hE 4 R (S3 ?_);refine W3 fun df=>?_;refine hU 2 R (I7 tb R (eU 2 R (S3 ?_)));refine A5V (fun zz:Unit=>A4h F t=some r) (fun zz:Unit=>⟨[(1,rf 0 7),(2,rf 1 1),(3,rf 2 1),(4,rf 3 1),(5,dI (W ((t.zones.length:Int)-1)))],[bx 7 (.d (D5.d t)),c1 (vI 0),c1 (vI 0),c1 (vI 0)]⟩) ?_ ?_
 ·clear h;rintro⟨⟩ h;rw[A4h]at h;refine S3 ?_;refine W3 fun df=>?_;refine gU 2 R ?_;obtain⟨rv2,k2,h⟩:=H1 h;refine A0t (A7E (name:=(fun a0=>A4U F a0)) (namec:=[]) (nameh:=fun hr=>B1d hr) (namee := .of kR) (rest:=(fun a0=>A6C F a0)) (restc:=[]) (resth:=fun hr=>B4d hr) (reste := .of kR) k2) R .nil eK R R ((.cons (.d (.d _)) (.cons .fnc (.cons .fnc .nil)))) R .nil R R R ?_;simp only[bb,aH];refine eU 5 R (gU 1 R ?_);refine V5 R R R R (nJ h ?_) (tJ h ?_)
  ·intro h;refine Y9 (C0 R (B8 (T1 kR (rU 5 R (I0 kR (C9 ?_))))));cases h;exact f0 R R R (qC R (qC R (qC R .nil)))
  intro h;refine Y9 (zF (S3 ?_));refine W3 fun df=>?_;refine gU 2 R (I7 tb R (eU 1 R (E3 ?_)));refine C3X (fun K3 m st=>∃ (x:Int),st=⟨[(1,rf 0 7),(2,rf 1 1),(3,rf 2 1),(4,rf 3 1),(5,dI (W ((t.zones.length:Int)-1))),(49,.d (.arr 2 ((t.doors).map G6.d))),(50,dI (t.doors.length:Int)),(51,dI x)],[bx 7 (.d (D5.d t)),c1 (vI 0),c1 (vI rv2.1),c1 (vI rv2.2)]⟩∧A22 F t K3 m x=some r) ⟨0,R,h⟩ (.prn [1,2,3,4,5,49,50,51] R) ?_;rintro K3 hK3 m3 _ ⟨x,rfl,h⟩;rw[A22]at h;refine qG ?_;refine Q4 R R R R (tJ h ?_) (lJ h ?_)
  ·intro h;refine Y9 (B8 (zT (B8 (E3 (gU 1 R ?_)))));obtain⟨e,ie,h⟩:=H1 h;refine yE ie R R (eU 3 R (E3 (B8 ?_)));refine W5 (fun zz:Unit=>A4g F x=some r) (fun zz:Unit=>⟨[(1,rf 0 7),(2,rf 1 1),(3,rf 2 1),(4,rf 3 1),(5,dI (W ((t.zones.length:Int)-1))),(6,dI x),(7,rf 4 2),(49,.d (.arr 2 ((t.doors).map G6.d))),(50,dI (t.doors.length:Int)),(51,dI x),(56,dB true)],[bx 7 (.d (D5.d t)),c1 (vI 0),c1 (vI rv2.1),c1 (vI rv2.2),bx 2 (.d (G6.d e))]⟩) ?_ ?_
   ·clear h;rintro⟨⟩ h;rw[A4g]at h;refine cY 4 R ?_;cases h;exact f0 R R R (qC R (qC R (qC R .nil)))
   refine hU 3 R ?_;obtain⟨rv3,k3,h⟩:=H1 h;refine M6 (V2 k3) eK R R R R (tI h ?_) (fI h ?_)
   ·intro c8 h;refine nU 7 R ?_;exact .inl ⟨(),h,.prn [1,2,3,4,5,6,7,49,50,51,56] R⟩
   intro c8 h;refine rU 4 R ?_;obtain⟨rv4,k4,h⟩:=H1 h;refine M6 (V2 k4) eK R R R R (tI h ?_) (fI h ?_)
   ·intro c9 h;refine nU 2 R ?_;exact .inl ⟨(),h,.prn [1,2,3,4,5,6,7,49,50,51,56] R⟩
   intro c9 h;refine nU 2 R (.inr (C1 R (gU 4 R ?_)));refine Z3 R R R R (tJ h ?_) (nJ h ?_)
   ·intro h;refine eU 1 R (cY 4 R ?_);cases h;exact f0 R R R (qC R (qC R (qC R .nil)))
   intro h;refine eU 1 R (zF (hN 2 R ?_));exact bk ⟨(W (x+1)),R,h⟩ (.vq [0,1,2,3])
  intro h;refine Y9 (B8 (yX ?_));subst hK3;refine S3 ?_;refine W3 fun df=>?_;refine hU 2 R ?_;obtain⟨rv5,k5,h⟩:=H1 h;refine A0t (A7j (name:=(fun a0=>A3J F a0)) (namec:=[]) (nameh:=fun hr=>B1e hr) (namee := .of kR) (rest:=(fun a0=>A3K F a0)) (restc:=[]) (resth:=fun hr=>B1f hr) (reste := .of kR) k5) R .nil eK R R ((.cons (.d (.d _)) (.cons .fnc (.cons .fnc .nil)))) R .nil R R R ?_;simp only[bb,aH];refine eU 5 R (S3 ?_);refine W3 fun df=>?_;refine gU 1 R ?_;refine V5 R R R R (nJ h ?_) (tJ h ?_)
  ·intro h;refine Y9 (C0 R (B8 (T1 kR (rU 5 R (I0 kR (C9 ?_))))));cases h;exact f0 R R R (qC R (qC R (qC R .nil)))
  intro h;refine Y9 (zF (S3 ?_));refine W3 fun df=>?_;refine gU 2 R ?_;obtain⟨rv6,k6,h⟩:=H1 h;refine A0t (A7F (name:=(fun a0=>A3L F a0)) (namec:=[]) (nameh:=fun hr=>B1g hr) (namee := .of kR) (rest:=(fun a0=>A3M F a0)) (restc:=[]) (resth:=fun hr=>B1h hr) (reste := .of kR) k6) R .nil eK R R ((.cons (.d (.d _)) (.cons .fnc (.cons .fnc .nil)))) R .nil R R R ?_;simp only[bb,aH];refine eU 5 R (gU 1 R ?_);refine V5 R R R R (nJ h ?_) (tJ h ?_)
  ·intro h;refine Y9 (C0 R (B8 (T1 kR (rU 5 R (I0 kR (C9 ?_))))));cases h;exact f0 R R R (qC R (qC R (qC R .nil)))
  intro h;refine Y9 (zF (S3 ?_));refine W3 fun df=>?_;refine gU 2 R (A3E R R R R ?_);obtain⟨rv7,k7,h⟩:=H1 h;refine A0t (A70 (name:=(fun a0=>A3N F a0)) (namec:=[]) (nameh:=fun hr=>B1i hr) (namee := .of kR) (rest:=(fun a0=>A3O F a0 t)) (restc:=[.el 7 [D5.d t] 0 0]) (resth:=fun hr=>B1j hr) (reste := .of kR) k7) R .nil eK R R ((.cons (.d (.d _)) (.cons .fnc (.cons (.fnC (.cons (.d (.ref R (.d _))) .nil)) .nil)))) R .nil R R R ?_;simp only[bb,aH];refine eU 5 R (gU 1 R ?_);refine V5 R R R R (nJ h ?_) (tJ h ?_)
  ·intro h;refine Y9 (C0 R (B8 (T1 kR (rU 5 R (I0 kR (C9 ?_))))));cases h;exact f0 R R R (qC R (qC R (qC R .nil)))
  intro h;refine Y9 (zF (S3 ?_));refine W3 fun df=>?_;refine gU 3 R ?_;obtain⟨rv8,k8,h⟩:=H1 h;refine M6 (V2 k8) eK R R R R (tI h ?_) (fI h ?_)
  ·intro c14 h;refine Y9 (cY 3 R ?_);cases h;exact f0 R R R (qC R (qC R (qC R .nil)))
  intro c14 h;refine Y9 (zF (S3 ?_));refine A5V (fun zz:Unit=>A1S F t=some r) (fun zz:Unit=>⟨[(1,rf 0 7),(2,rf 1 1),(3,rf 2 1),(4,rf 3 1)],[bx 7 (.d (D5.d t)),c1 (vI 0),c1 (vI rv7.1),c1 (vI rv7.2)]⟩) ?_ ?_
  ·clear h;rintro⟨⟩ h;rw[A1S]at h;refine W3 fun df=>?_;refine B8 (gU 2 R ?_);obtain⟨rv10,k10,h⟩:=H1 h;refine M6 (V2 k10) eK R R R R (tI h ?_) (fI h ?_)
   ·intro c18 h;refine Y9 (cY 3 R ?_);cases h;exact f0 R R R (qC R (qC R (qC R .nil)))
   intro c18 h;refine Y9 (zF (rY 3 R ?_));cases h;exact f0 R R R (qC R (qC R (qC R .nil)))
  refine S3 ?_;refine W3 fun df=>?_;refine hU 3 R ?_;obtain⟨rv9,k9,h⟩:=H1 h;refine A2X (A7k k9) eK R R R ((.cons R (.cons R .nil))) R R R (Y9 (A5A ?_));refine A9S eK Tryz.func148 R R R R R R fun lb=>?_;simp only[L8,Nat.zero_add,Nat.reduceAdd];refine U7 (U7 (A1h (A0u (rU 1 R ?_))));refine Q4 R R R R (tJ h ?_) (lJ h ?_)
  ·intro h;refine T7 (I8 (A3R R (A9v (A4F ?_))));refine⟨R,[bx 7 (.d (D5.d t)),c1 (vI 0),c1 (vI rv7.1),c1 (vI rv7.2),c1 (vI rv9.1),bx 7 (.d (D5.d rv9.2))],[0,1,2,3,4,5],vv,?_⟩;refine D3 (A6 ?_);exact .inl ⟨(),h,.vq [0,1,2,3]⟩
  intro h;refine T7 (I8 (A1K R (A2O (I8 (U7 (A1h (A0u (rU 3 R ?_))))))));obtain⟨e2,ie2,h⟩:=H1 h;refine xE ie2 R (rU 1 R (lE ie2 R (rU 2 R (T7 (I8 (U7 (A1h (A0u (rU 2 R (I7 tb R (rU 1 R (T7 (I8 (A59 ?_))))))))))))));obtain⟨K7,hK7,h⟩:∃ K,K=_∧A1U F rv9 e2 K F 0=some r:=⟨_,rfl,h⟩;refine A9Q (fun m ph st=>∃ (x2:Int),A1U F rv9 e2 K7 m x2=some r∧ph=SX.norm∧st=⟨[(0,.d (.v (.func (.yield lb) #[] #[]))),(4,rf 6 4),(18,.d (.arr 6 ((rv9.2.squibs).map D1.d))),(19,dI (rv9.2.squibs.length:Int)),(20,dI x2)],[bx 7 (.d (D5.d t)),c1 (vI 0),c1 (vI rv7.1),c1 (vI rv7.2),c1 (vI rv9.1),bx 7 (.d (D5.d rv9.2)),bx 4 (.d (.agg [vI e2.L5,vI e2.L4,vI e2.L7,vI e2.L6]))]⟩) (.prn [0,4,18,19,20] R) ⟨0,h,R,R⟩ ?_;clear h;rintro m7 ph st ⟨x2,h,rfl,rfl⟩;cases m7 with
  | zero=>cases(show(none:Option (Int × Int × Int))=some r from h)
  | succ m7 =>
  rw[A1U]at h;refine U7 (A1h (A0u ?_));refine Q4 R R R R (tJ h ?_) (lJ h ?_)
  ·intro h;refine T7 (I8 (U7 (A3R R (A2O (I8 (U7 (A59 (U7 (A1h (A0u (rU 1 R ?_)))))))))));obtain⟨e3,ie3,h⟩:=H1 h;refine yE ie3 R R (rU 3 R (T7 (I8 (U7 (A9R (T1 kR (rU 14 R (A9L R R R R R (rU 14 R (A9L R R R R R (rU 2 R (I0 kR (I8 (U7 (A1h (A0u (rU 12 R ?_)))))))))))))))));refine Q4 R R R R (tJ h ?_) (lJ h ?_)
   ·intro h;refine rU 3 R (A99 ?_)
    (with_reducible apply A9M (ys:=[vI x2]));(iterate 7 exact rfl)
    dsimp only[B1H];refine D7 ?_;refine⟨R,B8o ?_⟩;refine E3 (rY 3 R (C4 ?_));refine⟨[bx 7 (.d (D5.d t)),c1 (vI 7),c1 (vI 0),c1 (vI 2),c1 (vI rv9.1),bx 7 (.d (D5.d rv9.2)),bx 4 (.d (.agg [vI e2.L5,vI e2.L4,vI e2.L7,vI e2.L6])),bx 6 (.d (D1.d e3))],[0,1,2,3,4,5,6,7],vv,?_⟩;with_reducible apply B8w
    refine A0u (rU 2 R (T7 (I8 (A3R R (A9v (A6S (A4F (A4F (A6S ?_)))))))));refine⟨R,[bx 7 (.d (D5.d t)),c1 (vI 7),c1 (vI 0),c1 (vI 2),c1 (vI rv9.1),bx 7 (.d (D5.d rv9.2))],[0,1,2,3,4,5],vv,?_⟩;cases h;exact f0 R R R (qC R (qC R (qC R .nil)))
   intro h;refine rU 6 R (T7 (I8 (A1K R (A2O (A3G (I8 (A1h (A0u (rU 2 R (T7 (I8 ?_)))))))))));exact bk ⟨(W (x2+1)),h,R,R⟩ (.vq [0,1,2,3,4,5,6])
  intro h;refine T7 (I8 (U7 (A1K R (B13 (A4E (A4E ?_))))));subst hK7;refine A76 ?_;refine⟨R,[bx 7 (.d (D5.d t)),c1 (vI 0),c1 (vI rv7.1),c1 (vI rv7.2),c1 (vI rv9.1),bx 7 (.d (D5.d rv9.2))],[0,1,2,3,4,5],vv,?_⟩;refine D3 (A6 ?_);exact .inl ⟨(),h,.vq [0,1,2,3]⟩
 refine W3 fun df=>?_;refine B8 ?_;refine W5 (fun zz:Unit=>A1T F=some r) (fun zz:Unit=>⟨[(1,rf 0 7),(2,rf 1 1),(3,rf 2 1),(4,rf 3 1),(5,dI (W ((t.zones.length:Int)-1))),(37,dB true)],[bx 7 (.d (D5.d t)),c1 (vI 0),c1 (vI 0),c1 (vI 0)]⟩) ?_ ?_
 ·clear h;rintro⟨⟩ h;rw[A1T]at h;refine cY 3 R ?_;cases h;exact f0 R R R (qC R (qC R (qC R .nil)))
 refine hU 1 R ?_;obtain⟨rv,k,h⟩:=H1 h;refine M6 (V2 k) eK R R R R (tI h ?_) (fI h ?_)
 ·intro c h;refine nU 24 R ?_;exact .inl ⟨(),h,.prn [1,2,3,4,5,37] R⟩
 intro c h;refine rU 3 R (I7 tb R ?_);refine A4l R R R R (tJ h ?_) (lJ h ?_)
 ·intro h;refine nU 19 R ?_;exact .inl ⟨(),h,.prn [1,2,3,4,5,37] R⟩
 intro h;refine rU 4 R (I7 tb R ?_);refine A4l R R R R (tJ h ?_) (lJ h ?_)
 ·intro h;refine nU 13 R ?_;exact .inl ⟨(),h,.prn [1,2,3,4,5,37] R⟩
 intro h;refine rU 4 R (I7 tb R ?_);refine A4l R R R R (tJ h ?_) (lJ h ?_)
 ·intro h;refine nU 7 R ?_;exact .inl ⟨(),h,.prn [1,2,3,4,5,37] R⟩
 intro h;refine rU 4 R (I7 tb R ?_);refine A4l R R R R (tJ h ?_) (lJ h ?_)
 ·intro h;refine nU 1 R ?_;exact .inl ⟨(),h,.prn [1,2,3,4,5,37] R⟩
 intro h;refine nU 1 R (.inr (zF (A6 ?_)));exact .inl ⟨(),h,.prn [1,2,3,4,5] R⟩
def A0L (F:Nat) (nv many:Int):Option Bool:=(A0m F nv 0 (W (many-1))).bind fun rv=>some rv
theorem A1f {F nv many r} (h:A0L F nv many=some r):PC pg 154 [vI nv,vI many] (vB r):=by
 rw[A0L]at h;refine oW Tryz.func154 ?_;refine gY 1 R (gU 3 R ?_);obtain⟨rv,k,h⟩:=H1 h;refine J5 (V2 k) eK R R R R (eU 1 R (C9 ?_));cases h;exact f1 4 R
end Go.Proofs.YtlaogbbcipebgaaGreat
