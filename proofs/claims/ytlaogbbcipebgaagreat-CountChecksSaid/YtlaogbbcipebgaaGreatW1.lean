/- What functions of the program compute: plain functions, and the proofs. -/
import Derived.Test.YtlaogbbcipebgaaGreatW0
set_option linter.unusedVariables false
set_option linter.unusedSimpArgs false
open Go Go.Proofs.YtlaogbbcipebgaaGreat.Sh Go.Proofs
namespace Go.Proofs.YtlaogbbcipebgaaGreat
set_option maxRecDepth 100000
set_option maxHeartbeats 40000000
def C6R (F:Nat) (nv low high:Int):Option Bool:=if low≤nv then(some (decide (nv≤high)))else(some false)
theorem C4z {F nv low high r} (h:C6R F nv low high=some r):PC Tryz.prog 132 [vI nv,vI low,vI high] (vB r):=by
 rw[C6R]at h
 refine oW Tryz.func132 ?_
 refine gY 1 R (gU 2 R ?_)
 refine A7I R R R R (tJ h ?_) (mJ h ?_)
 ·intro h
  refine rU 3 R (B8a R R R R (eU 2 R (C9 ?_)))
  cases h
  exact f1 6 R
 intro h
 refine eU 6 R (C9 ?_)
 cases h
 exact f1 6 R
def C8k (F:Nat) (nv:Int):Option Bool:=(C6R F nv (-10000000) 10000000).bind fun rv=>some rv
theorem C8X {F nv r} (h:C8k F nv=some r):PC Tryz.prog 190 [vI nv] (vB r):=by
 rw[C8k]at h
 refine oW Tryz.func190 ?_
 refine gY 1 R (gU 1 R ?_)
 obtain⟨rv,k,h⟩:=H1 h
 refine J5 (C4z k) eK R R R R (eU 1 R (C9 ?_))
 cases h
 exact f1 2 R
def C80 (F:Nat) (nv:Int):Option Bool:=(C6R F nv 0 9).bind fun rv=>some rv
theorem C9y {F nv r} (h:C80 F nv=some r):PC Tryz.prog 189 [vI nv] (vB r):=by
 rw[C80]at h
 refine oW Tryz.func189 ?_
 refine gY 1 R (gU 1 R ?_)
 obtain⟨rv,k,h⟩:=H1 h
 refine J5 (C4z k) eK R R R R (eU 1 R (C9 ?_))
 cases h
 exact f1 2 R
def C9C (F:Nat) (s:B4J):Option Bool:=(C8k F s.lo).bind fun rv=>if rv=true then((C8k F s.hi).bind fun rv2=>if rv2=true then(some (decide (s.lo≤s.hi)))else(some false))else(some false)
theorem D01 {F s r} (h:C9C F s=some r):PC Tryz.prog 188 [B4J.d s] (vB r):=by
 rw[C9C]at h
 refine oW Tryz.func188 ?_
 refine gY 2 R (gU 2 R ?_)
 obtain⟨rv,k,h⟩:=H1 h
 refine M6 (C8X k) eK R R R R (tI h ?_) (fI h ?_)
 ·intro c h
  refine rU 3 R ?_
  obtain⟨rv2,k2,h⟩:=H1 h
  refine M6 (C8X k2) eK R R R R (tI h ?_) (fI h ?_)
  ·intro c2 h
   refine rU 6 R (B8a R R R R (eU 2 R (C9 ?_)))
   cases h
   exact f1 2 R
  intro c2 h
  refine eU 9 R (C9 ?_)
  cases h
  exact f1 2 R
 intro c h
 refine eU 13 R (C9 ?_)
 cases h
 exact f1 2 R
def C6g (F:Nat) (s:ByteArray) (K:Int→Option Bool):Nat→Int→Option Bool
 | 0,_=>none
 | n+1,i=>if i<(s.size:Int)then((ixB s i).bind fun b=>if 97≤b then(if b≤122 then(C6g F s K n (W (i+1)))else(if i=0 then(some false)else(if 48≤b then(if b≤57 then(C6g F s K n (W (i+1)))else(if b=45 then(C6g F s K n (W (i+1)))else(some false)))else(if b=45 then(C6g F s K n (W (i+1)))else(some false)))))else(if i=0 then(some false)else(if 48≤b then(if b≤57 then(C6g F s K n (W (i+1)))else(if b=45 then(C6g F s K n (W (i+1)))else(some false)))else(if b=45 then(C6g F s K n (W (i+1)))else(some false)))))else(K i)
def C99 (F:Nat) (s:ByteArray):Option Bool:=if(s.size:Int)<1 then(some false)else(if 24<(s.size:Int)then(some false)else(C6g F s (fun i=>some true) F 0))
theorem D0x {F s r} (h:C99 F s=some r):PC Tryz.prog 140 [vS s] (vB r):=by
 rw[C99]at h
 refine oW Tryz.func140 ?_
 refine gY 1 R (B8 (gU 1 R (B9Y R R R R ?_)))
 refine Q4 R R R R (tJ h ?_) (lJ h ?_)
 ·intro h
  refine eU 5 R (C0 R (gY 1 R (C9 ?_)))
  cases h
  exact f1 2 R
 intro h
 refine rU 2 R (B9Y R R R R ?_)
 refine A4l R R R R (tJ h ?_) (lJ h ?_)
 ·intro h
  refine eU 1 R (C0 R (gY 1 R (C9 ?_)))
  cases h
  exact f1 2 R
 intro h
 refine eU 1 R (zF (B8 (gY 1 R (E3 ?_))))
 obtain⟨K2,hK2,h⟩:∃ K,K=_∧C6g F s K F 0=some r:=⟨_,rfl,h⟩
 refine lW (fun m st=>∃ (i:Int),C6g F s K2 m i=some r∧st=⟨[(0,.d (vS s)),(2,dB false),(3,dI i)],[]⟩) ⟨0,h,R⟩ (.prn [0,2,3] R) ?_
 clear h
 rintro m2 st ⟨i,h,rfl⟩
 cases m2 with
 | zero=>cases(show(none:Option Bool)=some r from h)
 | succ m2 =>
 rw[C6g]at h
 refine B8 (gU 2 R (B9Y R R R R ?_))
 refine Q4 R R R R (tJ h ?_) (lJ h ?_)
 ·intro h
  refine Y9 (zT (B8 (E3 (gU 2 R ?_))))
  obtain⟨b,ib,h⟩:=H1 h
  refine D2P R R R ib R R (eU 1 R (gU 1 R ?_))
  refine A7I R R R R (tJ h ?_) (mJ h ?_)
  ·intro h
   refine rU 2 R ?_
   refine B1t R R R R (tJ h ?_) (mJ h ?_)
   ·intro h
    refine eU 2 R (gY 19 R (zF (hN 3 R ?_)))
    exact bk ⟨(W (i+1)),h,R⟩ (.prn [0,2,3] R)
   intro h
   refine eU 2 R (gU 4 R ?_)
   refine Z3 R R R R (tJ h ?_) (nJ h ?_)
   ·intro h
    refine eU 14 R (C0 R (gY 1 R (C9 ?_)))
    cases h
    exact f1 2 R
   intro h
   refine rU 2 R ?_
   refine A7I R R R R (tJ h ?_) (mJ h ?_)
   ·intro h
    refine rU 2 R ?_
    refine B1t R R R R (tJ h ?_) (mJ h ?_)
    ·intro h
     refine eU 8 R (zF (hN 3 R ?_))
     exact bk ⟨(W (i+1)),h,R⟩ (.prn [0,2,3] R)
    intro h
    refine rU 3 R ?_
    refine Z3 R R R R (tJ h ?_) (nJ h ?_)
    ·intro h
     refine eU 4 R (zF (hN 3 R ?_))
     exact bk ⟨(W (i+1)),h,R⟩ (.prn [0,2,3] R)
    intro h
    refine eU 4 R (C0 R (gY 1 R (C9 ?_)))
    cases h
    exact f1 2 R
   intro h
   refine rU 6 R ?_
   refine Z3 R R R R (tJ h ?_) (nJ h ?_)
   ·intro h
    refine eU 4 R (zF (hN 3 R ?_))
    exact bk ⟨(W (i+1)),h,R⟩ (.prn [0,2,3] R)
   intro h
   refine eU 4 R (C0 R (gY 1 R (C9 ?_)))
   cases h
   exact f1 2 R
  intro h
  refine eU 5 R (gU 4 R ?_)
  refine Z3 R R R R (tJ h ?_) (nJ h ?_)
  ·intro h
   refine eU 14 R (C0 R (gY 1 R (C9 ?_)))
   cases h
   exact f1 2 R
  intro h
  refine rU 2 R ?_
  refine A7I R R R R (tJ h ?_) (mJ h ?_)
  ·intro h
   refine rU 2 R ?_
   refine B1t R R R R (tJ h ?_) (mJ h ?_)
   ·intro h
    refine eU 8 R (zF (hN 3 R ?_))
    exact bk ⟨(W (i+1)),h,R⟩ (.prn [0,2,3] R)
   intro h
   refine rU 3 R ?_
   refine Z3 R R R R (tJ h ?_) (nJ h ?_)
   ·intro h
    refine eU 4 R (zF (hN 3 R ?_))
    exact bk ⟨(W (i+1)),h,R⟩ (.prn [0,2,3] R)
   intro h
   refine eU 4 R (C0 R (gY 1 R (C9 ?_)))
   cases h
   exact f1 2 R
  intro h
  refine rU 6 R ?_
  refine Z3 R R R R (tJ h ?_) (nJ h ?_)
  ·intro h
   refine eU 4 R (zF (hN 3 R ?_))
   exact bk ⟨(W (i+1)),h,R⟩ (.prn [0,2,3] R)
  intro h
  refine eU 4 R (C0 R (gY 1 R (C9 ?_)))
  cases h
  exact f1 2 R
 intro h
 refine Y9 (C1 R (N5 (E4 (E4 ?_))))
 subst hK2
 refine gY 1 R (C9 ?_)
 cases h
 exact f1 2 R
def C8o (F:Nat) (s:ByteArray) (before:(List ByteArray)) (K:Int→Option Int):Nat→Int→Option Int
 | 0,_=>none
 | n+1,i=>if i<(before.length:Int)then((P3 before i).bind fun e=>if e.toList=s.toList then(some 5)else(C8o F s before K n (W (i+1))))else(K i)
def C8J (F:Nat) (s:ByteArray) (before:(List ByteArray)):Option Int:=(C99 F s).bind fun rv=>if rv=true then(C8o F s before (fun i=>some 0) F 0)else(some 6)
theorem C9r {F s before r} (h:C8J F s before=some r):PC Tryz.prog 136 [vS s,.arr 1 ((before).map vS)] (vI r):=by
 rw[C8J]at h
 refine oW Tryz.func136 ?_
 refine gY 1 R (B8 (gU 1 R ?_))
 obtain⟨rv,k,h⟩:=H1 h
 refine M6 (D0x k) eK R R R R (tI h ?_) (fI h ?_)
 ·intro c h
  refine eU 1 R (zF (B8 (gY 1 R (E3 ?_))))
  obtain⟨K3,hK3,h⟩:∃ K,K=_∧C8o F s before K F 0=some r:=⟨_,rfl,h⟩
  refine lW (fun m st=>∃ (i:Int),C8o F s before K3 m i=some r∧st=⟨[(0,.d (vS s)),(1,.d (.arr 1 ((before).map vS))),(4,dI 0),(5,dI i)],[]⟩) ⟨0,h,R⟩ (.prn [0,1,4,5] R) ?_
  clear h
  rintro m3 st ⟨i,h,rfl⟩
  cases m3 with
  | zero=>cases(show(none:Option Int)=some r from h)
  | succ m3 =>
  rw[C8o]at h
  refine B8 (gU 2 R (I7 tb R ?_))
  refine Q4 R R R R (tJ h ?_) (lJ h ?_)
  ·intro h
   refine Y9 (zT (B8 (E3 (gU 2 R ?_))))
   obtain⟨e,ie,h⟩:=H1 h
   refine yE ie R R (rU 1 R ?_)
   refine B1u R R R R (tJ h ?_) (nJ h ?_)
   ·intro h
    refine Y9 (C0 R (gY 1 R (C9 ?_)))
    cases h
    exact f1 4 R
   intro h
   refine Y9 (zF (hN 3 R ?_))
   exact bk ⟨(W (i+1)),h,R⟩ (.prn [0,1,4,5] R)
  intro h
  refine Y9 (C1 R (N5 (E4 (E4 ?_))))
  subst hK3
  refine gY 1 R (C9 ?_)
  cases h
  exact f1 4 R
 intro c h
 refine eU 1 R (C0 R (gY 1 R (C9 ?_)))
 cases h
 exact f1 4 R
def C7e (F:Nat) (B4:(List ByteArray)→Int→Option (Int × Int)) (names:(List ByteArray)) (i:Int) (e:F6) (e2:Int):Option (Int × Int):=if e2=0 then((A8i names [e.name]).bind fun q=>B4 q (W (i+1)))else(some (i,e2))
def C5E (F:Nat) (p:D5) (K:(List ByteArray)→Int→Option (Int × Int)):Nat→(List ByteArray)→Int→Option (Int × Int)
 | 0,_,_=>none
 | n+1,names,i=>if i<(p.zones.length:Int)then((P3 p.zones i).bind fun e=>(C8J F e.name names).bind fun rv=>if rv=0 then((C9C F (B4J.mk e.L5 e.L4)).bind fun rv2=>if rv2=true then((C9C F (B4J.mk e.L7 e.L6)).bind fun rv3=>if rv3=true then((C80 F e.grade).bind fun rv4=>if rv4=true then((C6R F e.room 1 8).bind fun rv5=>if rv5=true then(C7e F (C5E F p K n) names i e rv)else(C7e F (C5E F p K n) names i e 7))else(C7e F (C5E F p K n) names i e 7))else(C7e F (C5E F p K n) names i e 7))else(C7e F (C5E F p K n) names i e 7))else(C7e F (C5E F p K n) names i e rv))else(K names i)
def C94 (F:Nat) (p:D5):Option (Int × Int):=C5E F p (fun names i=>some (0,0)) F ([]:List ByteArray) 0
theorem D1m {F p r} (h:C94 F p=some r):PC Tryz.prog 133 [D5.d p] (.tup [vI r.1,vI r.2]):=by
 rw[C94]at h
 refine oW Tryz.func133 ?_
 refine gY 3 R (gY 1 R (B8 (gY 1 R (E3 ?_))))
 refine SW.own (ts':=[(1,rf 0 7),(2,dI 0),(3,dI 0),(4,.row 1 1 0 (([]:List ByteArray)).length),(5,dI 0)]) (L':=[bx 7 (.d (D5.d p))]) 1 R R (.cons (.same _) (.cons (.same _) (.cons (.same _) (.cons .nil (.cons (.same _) .nil))))) (.same .nil) ?_
 simp only[List.cons_append,List.nil_append]
 obtain⟨K4,hK4,h⟩:∃ K,K=_∧C5E F p K F ([]:List ByteArray) 0=some r:=⟨_,rfl,h⟩
 refine lW (fun m st=>∃ (names:(List ByteArray)) (i:Int),C5E F p K4 m names i=some r∧st=⟨[(1,rf 0 7),(2,dI 0),(3,dI 0),(4,.row 1 1 0 (names).length),(5,dI i)],[bx 7 (.d (D5.d p)),C4g names]⟩) ⟨([]:List ByteArray),0,h,R⟩ (.prn [1,2,3,4,5] R) ?_
 clear h
 rintro m4 st ⟨names,i,h,rfl⟩
 cases m4 with
 | zero=>cases(show(none:Option (Int × Int))=some r from h)
 | succ m4 =>
 rw[C5E]at h
 refine B8 (gU 3 R (I7 tb R ?_))
 refine Q4 R R R R (tJ h ?_) (lJ h ?_)
 ·intro h
  refine Y9 (zT (B8 (E3 (gU 3 R ?_))))
  obtain⟨e,ie,h⟩:=H1 h
  refine yE ie R R (eU 2 R (gU 3 R ?_))
  obtain⟨rv,k,h⟩:=H1 h
  refine A19 (C9r k) R eK R R ((dL (.cons (.row R R) .nil))) R R (eU 1 R (B8 ?_))
  refine W5 (fun zz:Int=>C7e F (C5E F p K4 m4) names i e zz=some r) (fun zz:Int=>⟨[(1,rf 0 7),(2,dI 0),(3,dI 0),(4,.row 1 1 0 (names).length),(5,dI i),(6,rf 2 8),(7,dI zz)],[bx 7 (.d (D5.d p)),C4g names,bx 8 (.d (F6.d e))]⟩) ?_ ?_
  ·clear h
   rintro e2 h
   rw[C7e]at h
   refine B8 (gU 1 R ?_)
   refine V5 R R R R (nJ h ?_) (tJ h ?_)
   ·intro h
    refine Y9 (C0 R (gY 4 R (C9 ?_)))
    cases h
    exact f0 R R R (.cons (.tmp 2) (.cons (.tmp 3) .nil))
   intro h
   refine Y9 (zF (hU 3 R (P7 tb R R R R R R R R R R R R R ?_)))
   obtain⟨q,iq,h⟩:=H1 h
   refine B2k (g:=vS) (w:=names) (v:=[e.name]) ([bx 7 (.d (D5.d p)),none,bx 8 (.d (F6.d e)),C4g [e.name]]) tb R R R R R R R R R R R iq R R R R R (eU 1 R (hN 3 R ?_))
   exact bk ⟨q,(W (i+1)),h,R⟩ (.vw (κ:=[0,4]) (vK (.cons R R C23) R))
  refine gU 1 R ?_
  refine Z3 R R R R (tJ h ?_) (nJ h ?_)
  ·intro h
   refine rU 4 R ?_
   obtain⟨rv2,k2,h⟩:=H1 h
   refine M6 (D01 k2) eK R R R R (tI h ?_) (fI h ?_)
   ·intro c3 h
    refine rU 5 R ?_
    obtain⟨rv3,k3,h⟩:=H1 h
    refine M6 (D01 k3) eK R R R R (tI h ?_) (fI h ?_)
    ·intro c4 h
     refine rU 5 R ?_
     obtain⟨rv4,k4,h⟩:=H1 h
     refine M6 (C9y k4) eK R R R R (tI h ?_) (fI h ?_)
     ·intro c5 h
      refine rU 5 R ?_
      obtain⟨rv5,k5,h⟩:=H1 h
      refine M6 (C4z k5) eK R R R R (tI h ?_) (fI h ?_)
      ·intro c6 h
       refine eU 3 R (zF (A6 ?_))
       exact .inl ⟨rv,h,.prn [1,2,3,4,5,6,7] R⟩
      intro c6 h
      refine eU 3 R (C0 R (hN 1 R ?_))
      exact .inl ⟨7,h,.prn [1,2,3,4,5,6,7] R⟩
     intro c5 h
     refine eU 9 R (C0 R (hN 1 R ?_))
     exact .inl ⟨7,h,.prn [1,2,3,4,5,6,7] R⟩
    intro c4 h
    refine eU 15 R (C0 R (hN 1 R ?_))
    exact .inl ⟨7,h,.prn [1,2,3,4,5,6,7] R⟩
   intro c3 h
   refine eU 21 R (C0 R (hN 1 R ?_))
   exact .inl ⟨7,h,.prn [1,2,3,4,5,6,7] R⟩
  intro h
  refine eU 26 R (zF (A6 ?_))
  exact .inl ⟨rv,h,.prn [1,2,3,4,5,6,7] R⟩
 intro h
 refine Y9 (C1 R (N5 (E4 (E4 ?_))))
 subst hK4
 refine gY 2 R (C9 ?_)
 cases h
 exact f0 R R R (.cons (.tmp 2) (.cons (.tmp 3) .nil))
def C87 (F:Nat) (p:D5) (nv:Int):Option Bool:=(C6R F nv 0 (W ((p.zones.length:Int)-1))).bind fun rv=>some rv
theorem C8R {F p nv r} (h:C87 F p nv=some r):PC Tryz.prog 138 [D5.d p,vI nv] (vB r):=by
 rw[C87]at h
 refine oW Tryz.func138 ?_
 refine gY 2 R (gU 3 R (I7 tb R (rU 1 R ?_)))
 obtain⟨rv,k,h⟩:=H1 h
 refine J5 (C4z k) eK R R R R (eU 1 R (C9 ?_))
 cases h
 exact f1 4 R
def C7I (F:Nat) (B3:Int→Option (Int × Int)) (i:Int) (e:G6):Option (Int × Int):=if e.a=e.b then(some (i,2))else(B3 (W (i+1)))
def C8r (F:Nat) (i:Int):Option (Int × Int):=some (i,4)
def C6u (F:Nat) (p:D5) (K:Int→Option (Int × Int)):Nat→Int→Option (Int × Int)
 | 0,_=>none
 | n+1,i=>if i<(p.doors.length:Int)then((P3 p.doors i).bind fun e=>if e.a=(-1)then(if e.b=(-1)then(C7I F (C6u F p K n) i e)else((C87 F p e.b).bind fun rv3=>if rv3=true then(C7I F (C6u F p K n) i e)else(C8r F i)))else((C87 F p e.a).bind fun rv=>if rv=true then(if e.b=(-1)then(C7I F (C6u F p K n) i e)else((C87 F p e.b).bind fun rv2=>if rv2=true then(C7I F (C6u F p K n) i e)else(C8r F i)))else(C8r F i)))else(K i)
def C9x (F:Nat) (p:D5):Option (Int × Int):=C6u F p (fun i=>some (0,0)) F 0
theorem D1d {F p r} (h:C9x F p=some r):PC Tryz.prog 134 [D5.d p] (.tup [vI r.1,vI r.2]):=by
 rw[C9x]at h
 refine oW Tryz.func134 ?_
 refine gY 3 R (B8 (gY 1 R (E3 ?_)))
 obtain⟨K3,hK3,h⟩:∃ K,K=_∧C6u F p K F 0=some r:=⟨_,rfl,h⟩
 refine lW (fun m st=>∃ (i:Int),C6u F p K3 m i=some r∧st=⟨[(1,rf 0 7),(2,dI 0),(3,dI 0),(4,dI i)],[bx 7 (.d (D5.d p))]⟩) ⟨0,h,R⟩ (.prn [1,2,3,4] R) ?_
 clear h
 rintro m3 st ⟨i,h,rfl⟩
 cases m3 with
 | zero=>cases(show(none:Option (Int × Int))=some r from h)
 | succ m3 =>
 rw[C6u]at h
 refine B8 (gU 3 R (I7 tb R ?_))
 refine Q4 R R R R (tJ h ?_) (lJ h ?_)
 ·intro h
  refine Y9 (zT (B8 (E3 (gU 3 R ?_))))
  obtain⟨e,ie,h⟩:=H1 h
  refine yE ie R R (eU 2 R (B8 ?_))
  refine W5 (fun zz:Unit=>C7I F (C6u F p K3 m3) i e=some r) (fun zz:Unit=>⟨[(1,rf 0 7),(2,dI 0),(3,dI 0),(4,dI i),(5,rf 1 2)],[bx 7 (.d (D5.d p)),bx 2 (.d (G6.d e))]⟩) ?_ ?_
  ·clear h
   rintro⟨⟩ h
   rw[C7I]at h
   refine gU 4 R ?_
   refine Z3 R R R R (tJ h ?_) (nJ h ?_)
   ·intro h
    refine Y9 (C0 R (gY 3 R (C9 ?_)))
    cases h
    exact f0 R R R (.cons (.tmp 2) (.cons (.tmp 3) .nil))
   intro h
   refine Y9 (zF (hN 3 R ?_))
   exact bk ⟨(W (i+1)),h,R⟩ (.vw (κ:=[0]) (vK (.cons R R .nil) R))
  refine B8 ?_
  refine W5 (fun zz:Unit=>C8r F i=some r) (fun zz:Unit=>⟨[(1,rf 0 7),(2,dI 0),(3,dI 0),(4,dI i),(5,rf 1 2),(39,dB true)],[bx 7 (.d (D5.d p)),bx 2 (.d (G6.d e))]⟩) ?_ ?_
  ·clear h
   rintro⟨⟩ h
   rw[C8r]at h
   refine C0 R (gY 3 R (C9 ?_))
   cases h
   exact f0 R R R (.cons (.tmp 2) (.cons (.tmp 3) .nil))
  refine hU 2 R ?_
  refine V5 R R R R (nJ h ?_) (tJ h ?_)
  ·intro h
   refine rU 4 R ?_
   obtain⟨rv,k,h⟩:=H1 h
   refine M6 (C8R k) eK R R R R (tI h ?_) (fI h ?_)
   ·intro c3 h
    refine rU 5 R ?_
    refine V5 R R R R (nJ h ?_) (tJ h ?_)
    ·intro h
     refine rU 4 R ?_
     obtain⟨rv2,k2,h⟩:=H1 h
     refine M6 (C8R k2) eK R R R R (tI h ?_) (fI h ?_)
     ·intro c5 h
      refine nU 3 R (.inr (zF (A6 ?_)))
      exact .inl ⟨(),h,.prn [1,2,3,4,5] R⟩
     intro c5 h
     refine nU 3 R ?_
     exact .inl ⟨(),h,.prn [1,2,3,4,5,39] R⟩
    intro h
    refine nU 8 R (.inr (zF (A6 ?_)))
    exact .inl ⟨(),h,.prn [1,2,3,4,5] R⟩
   intro c3 h
   refine nU 14 R ?_
   exact .inl ⟨(),h,.prn [1,2,3,4,5,39] R⟩
  intro h
  refine rU 10 R ?_
  refine V5 R R R R (nJ h ?_) (tJ h ?_)
  ·intro h
   refine rU 4 R ?_
   obtain⟨rv3,k3,h⟩:=H1 h
   refine M6 (C8R k3) eK R R R R (tI h ?_) (fI h ?_)
   ·intro c7 h
    refine nU 3 R (.inr (zF (A6 ?_)))
    exact .inl ⟨(),h,.prn [1,2,3,4,5] R⟩
   intro c7 h
   refine nU 3 R ?_
   exact .inl ⟨(),h,.prn [1,2,3,4,5,39] R⟩
  intro h
  refine nU 8 R (.inr (zF (A6 ?_)))
  exact .inl ⟨(),h,.prn [1,2,3,4,5] R⟩
 intro h
 refine Y9 (C1 R (N5 (E4 (E4 ?_))))
 subst hK3
 refine gY 2 R (C9 ?_)
 cases h
 exact f0 R R R (.cons (.tmp 2) (.cons (.tmp 3) .nil))
def C7y (F:Nat) (B4:(List ByteArray)→Int→Option (Int × Int)) (names:(List ByteArray)) (i:Int) (e:E2) (e2:Int):Option (Int × Int):=if e2=0 then((A8i names [e.name]).bind fun q=>B4 q (W (i+1)))else(some (i,e2))
def C6t (F:Nat) (p:D5) (K:(List ByteArray)→Int→Option (Int × Int)):Nat→(List ByteArray)→Int→Option (Int × Int)
 | 0,_,_=>none
 | n+1,names,i=>if i<(p.people.length:Int)then((P3 p.people i).bind fun e=>(C8J F e.name names).bind fun rv=>if rv=0 then((C80 F e.grade).bind fun rv2=>if rv2=true then(C7y F (C6t F p K n) names i e rv)else(C7y F (C6t F p K n) names i e 7))else(C7y F (C6t F p K n) names i e rv))else(K names i)
def C9k (F:Nat) (p:D5):Option (Int × Int):=C6t F p (fun names i=>some (0,0)) F ([]:List ByteArray) 0
theorem D0U {F p r} (h:C9k F p=some r):PC Tryz.prog 135 [D5.d p] (.tup [vI r.1,vI r.2]):=by
 rw[C9k]at h
 refine oW Tryz.func135 ?_
 refine gY 3 R (gY 1 R (B8 (gY 1 R (E3 ?_))))
 refine SW.own (ts':=[(1,rf 0 7),(2,dI 0),(3,dI 0),(4,.row 1 1 0 (([]:List ByteArray)).length),(5,dI 0)]) (L':=[bx 7 (.d (D5.d p))]) 1 R R (.cons (.same _) (.cons (.same _) (.cons (.same _) (.cons .nil (.cons (.same _) .nil))))) (.same .nil) ?_
 simp only[List.cons_append,List.nil_append]
 obtain⟨K4,hK4,h⟩:∃ K,K=_∧C6t F p K F ([]:List ByteArray) 0=some r:=⟨_,rfl,h⟩
 refine lW (fun m st=>∃ (names:(List ByteArray)) (i:Int),C6t F p K4 m names i=some r∧st=⟨[(1,rf 0 7),(2,dI 0),(3,dI 0),(4,.row 1 1 0 (names).length),(5,dI i)],[bx 7 (.d (D5.d p)),C4g names]⟩) ⟨([]:List ByteArray),0,h,R⟩ (.prn [1,2,3,4,5] R) ?_
 clear h
 rintro m4 st ⟨names,i,h,rfl⟩
 cases m4 with
 | zero=>cases(show(none:Option (Int × Int))=some r from h)
 | succ m4 =>
 rw[C6t]at h
 refine B8 (gU 3 R (I7 tb R ?_))
 refine Q4 R R R R (tJ h ?_) (lJ h ?_)
 ·intro h
  refine Y9 (zT (B8 (E3 (gU 3 R ?_))))
  obtain⟨e,ie,h⟩:=H1 h
  refine xE ie R (rU 1 R (lE ie R (rU 1 R ?_)))
  obtain⟨rv,k,h⟩:=H1 h
  refine A19 (C9r k) R eK R R ((dL (.cons (.row R R) .nil))) R R (eU 1 R (B8 ?_))
  refine W5 (fun zz:Int=>C7y F (C6t F p K4 m4) names i e zz=some r) (fun zz:Int=>⟨[(1,rf 0 7),(2,dI 0),(3,dI 0),(4,.row 1 1 0 (names).length),(5,dI i),(6,dI zz)],[bx 7 (.d (D5.d p)),C4g names]⟩) ?_ ?_
  ·clear h
   rintro e2 h
   rw[C7y]at h
   refine B8 (gU 1 R ?_)
   refine V5 R R R R (nJ h ?_) (tJ h ?_)
   ·intro h
    refine Y9 (C0 R (gY 4 R (C9 ?_)))
    cases h
    exact f0 R R R (.cons (.tmp 2) (.cons (.tmp 3) .nil))
   intro h
   refine Y9 (zF (hU 4 R (xE ie R (rU 1 R (lE ie R (P7 tb R R R R R R R R R R R R R ?_))))))
   obtain⟨q,iq,h⟩:=H1 h
   refine B2k (g:=vS) (w:=names) (v:=[e.name]) ([bx 7 (.d (D5.d p)),none,C4g [e.name]]) tb R R R R R R R R R R R iq R R R R R (eU 1 R (hN 3 R ?_))
   exact bk ⟨q,(W (i+1)),h,R⟩ (.vw (κ:=[0,3]) (vK (.cons R R C23) R))
  refine gU 1 R ?_
  refine Z3 R R R R (tJ h ?_) (nJ h ?_)
  ·intro h
   refine rU 4 R (xE ie R (rU 1 R (lE ie R ?_)))
   obtain⟨rv2,k2,h⟩:=H1 h
   refine M6 (C9y k2) eK R R R R (tI h ?_) (fI h ?_)
   ·intro c3 h
    refine eU 2 R (zF (A6 ?_))
    exact .inl ⟨rv,h,.prn [1,2,3,4,5,6] R⟩
   intro c3 h
   refine eU 2 R (C0 R (hN 1 R ?_))
   exact .inl ⟨7,h,.prn [1,2,3,4,5,6] R⟩
  intro h
  refine eU 10 R (zF (A6 ?_))
  exact .inl ⟨rv,h,.prn [1,2,3,4,5,6] R⟩
 intro h
 refine Y9 (C1 R (N5 (E4 (E4 ?_))))
 subst hK4
 refine gY 2 R (C9 ?_)
 cases h
 exact f0 R R R (.cons (.tmp 2) (.cons (.tmp 3) .nil))
def C7o (F:Nat) (e2:D1) (K:Int→Option Int):Nat→Int→Option Int
 | 0,_=>none
 | n+1,x2=>if x2<(e2.keys.length:Int)then((P3 e2.keys x2).bind fun e4=>(P3 e2.keys (W (x2-1))).bind fun e5=>if e4≤e5 then(some 2)else(C7o F e2 K n (W (x2+1))))else(K x2)
def C7M (F:Nat) (t:D5) (e2:D1) (K:Int→Option Int):Nat→Int→Option Int
 | 0,_=>none
 | n+1,x=>if x<(e2.keys.length:Int)then((P3 e2.keys x).bind fun e3=>(C6R F e3 0 (W ((t.keys.length:Int)-1))).bind fun rv6=>if rv6=true then(C7M F t e2 K n (W (x+1)))else(some 4))else(K x)
def C8t (F:Nat) (t:D5) (e2:D1):Option Int:=if(e2.keys.length:Int)=0 then(some 4)else(C7M F t e2 (fun x=>C7o F e2 (fun x2=>some 0) F 1) F 0)
def C6A (F:Nat):Option Int:=some 7
def C7O (F:Nat) (t:D5) (o:Int) (K:(List ByteArray)→Int→Option Int):Nat→(List ByteArray)→Int→Option Int
 | 0,_,_=>none
 | n+1,a,y=>if y<o then((P3 t.squibs y).bind fun e=>(A8i a [e.name]).bind fun q=>C7O F t o K n q (W (y+1)))else(K a y)
def C93 (F:Nat) (t:D5) (o:Int):Option Int:=C7O F t o (fun a y=>(P3 t.squibs o).bind fun e2=>(C8J F e2.name a).bind fun rv=>if rv=0 then((C8k F e2.A4s).bind fun rv2=>if rv2=true then((C8k F e2.A4t).bind fun rv3=>if rv3=true then((C6R F e2.clear 0 10000000).bind fun rv4=>if rv4=true then((C80 F e2.grade).bind fun rv5=>if rv5=true then(C8t F t e2)else(C6A F))else(C6A F))else(C6A F))else(C6A F))else(some rv)) F ([]:List ByteArray) 0
theorem D1j {F t o r} (h:C93 F t o=some r):PC Tryz.prog 137 [D5.d t,vI o] (vI r):=by
 rw[C93]at h
 refine oW Tryz.func137 ?_
 refine gY 2 R (gY 1 R (B8 (gY 1 R (E3 ?_))))
 refine SW.own (ts':=[(1,dI o),(2,rf 0 7),(4,dI 0),(5,.row 1 1 0 (([]:List ByteArray)).length),(6,dI 0)]) (L':=[bx 7 (.d (D5.d t))]) 1 R R (.cons (.same _) (.cons (.same _) (.cons (.same _) (.cons .nil (.cons (.same _) .nil))))) (.same .nil) ?_
 simp only[List.cons_append,List.nil_append]
 obtain⟨K4,hK4,h⟩:∃ K,K=_∧C7O F t o K F ([]:List ByteArray) 0=some r:=⟨_,rfl,h⟩
 refine lW (fun m st=>∃ (a:(List ByteArray)) (y:Int),C7O F t o K4 m a y=some r∧st=⟨[(1,dI o),(2,rf 0 7),(4,dI 0),(5,.row 1 1 0 (a).length),(6,dI y)],[bx 7 (.d (D5.d t)),C4g a]⟩) ⟨([]:List ByteArray),0,h,R⟩ (.prn [1,2,4,5,6] R) ?_
 clear h
 rintro m4 st ⟨a,y,h,rfl⟩
 cases m4 with
 | zero=>cases(show(none:Option Int)=some r from h)
 | succ m4 =>
 rw[C7O]at h
 refine B8 (gU 2 R ?_)
 refine Q4 R R R R (tJ h ?_) (lJ h ?_)
 ·intro h
  refine Y9 (zT (B8 (E3 (hU 4 R ?_))))
  obtain⟨e,ie,h⟩:=H1 h
  refine xE ie R (rU 1 R (lE ie R (P7 tb R R R R R R R R R R R R R ?_)))
  obtain⟨q,iq,h⟩:=H1 h
  refine B2k (g:=vS) (w:=a) (v:=[e.name]) ([bx 7 (.d (D5.d t)),none,C4g [e.name]]) tb R R R R R R R R R R R iq R R R R R (eU 1 R (hN 3 R ?_))
  exact bk ⟨q,(W (y+1)),h,R⟩ (.vw (κ:=[0,3]) (vK (.cons R R C23) R))
 intro h
 refine Y9 (C1 R (N5 (E4 (E4 ?_))))
 subst hK4
 refine gU 3 R ?_
 obtain⟨e2,ie2,h⟩:=H1 h
 refine yE ie2 R R (eU 2 R (gU 3 R ?_))
 obtain⟨rv,k,h⟩:=H1 h
 refine A19 (C9r k) R eK R R ((dL (.cons (.row R R) .nil))) R R (eU 1 R (B8 (gU 1 R ?_)))
 refine V5 R R R R (nJ h ?_) (tJ h ?_)
 ·intro h
  refine Y9 (C0 R (gY 2 R (C9 ?_)))
  cases h
  exact f1 4 R
 intro h
 refine Y9 (zF (B8 ?_))
 refine W5 (fun zz:Unit=>C8t F t e2=some r) (fun zz:Unit=>⟨[(2,rf 0 7),(4,dI 0),(7,rf 1 6)],[bx 7 (.d (D5.d t)),bx 6 (.d (D1.d e2))]⟩) ?_ ?_
 ·clear h
  rintro⟨⟩ h
  rw[C8t]at h
  refine B8 (gU 2 R (I7 tb R ?_))
  refine Z3 R R R R (tJ h ?_) (nJ h ?_)
  ·intro h
   refine Y9 (C0 R (gY 1 R (C9 ?_)))
   cases h
   exact f1 4 R
  intro h
  refine Y9 (zF (B8 (gY 1 R (E3 ?_))))
  obtain⟨K7,hK7,h⟩:∃ K,K=_∧C7M F t e2 K F 0=some r:=⟨_,rfl,h⟩
  refine lW (fun m st=>∃ (x:Int),C7M F t e2 K7 m x=some r∧st=⟨[(2,rf 0 7),(4,dI 0),(7,rf 1 6),(9,dI x)],[bx 7 (.d (D5.d t)),bx 6 (.d (D1.d e2))]⟩) ⟨0,h,R⟩ (.prn [2,4,7,9] R) ?_
  clear h
  rintro m7 st ⟨x,h,rfl⟩
  cases m7 with
  | zero=>cases(show(none:Option Int)=some r from h)
  | succ m7 =>
  rw[C7M]at h
  refine B8 (gU 3 R (I7 tb R ?_))
  refine Q4 R R R R (tJ h ?_) (lJ h ?_)
  ·intro h
   refine Y9 (zT (B8 (E3 (B8 (T1 kR (rU 3 R ?_))))))
   obtain⟨e3,ie3,h⟩:=H1 h
   refine yE ie3 R R (rU 2 R (I7 tb R (rU 1 R ?_)))
   obtain⟨rv6,k6,h⟩:=H1 h
   refine M6 (C4z k6) eK R R R R (tI h ?_) (fI h ?_)
   ·intro c9 h
    refine rU 1 R (I0 kR (zF (hN 3 R ?_)))
    exact bk ⟨(W (x+1)),h,R⟩ (.prn [2,4,7,9] R)
   intro c9 h
   refine rU 1 R (I0 kR (C0 R (gY 1 R (C9 ?_))))
   cases h
   exact f1 4 R
  intro h
  refine Y9 (C1 R (N5 (E4 (E4 ?_))))
  subst hK7
  refine B8 (gY 1 R (E3 ?_))
  obtain⟨K10,hK10,h⟩:∃ K,K=_∧C7o F e2 K F 1=some r:=⟨_,rfl,h⟩
  refine lW (fun m st=>∃ (x2:Int),C7o F e2 K10 m x2=some r∧st=⟨[(4,dI 0),(7,rf 0 6),(10,dI x2)],[bx 6 (.d (D1.d e2))]⟩) ⟨1,h,R⟩ (.vw (κ:=[1]) (vK (.cons R R .nil) R)) ?_
  clear h
  rintro m10 st ⟨x2,h,rfl⟩
  cases m10 with
  | zero=>cases(show(none:Option Int)=some r from h)
  | succ m10 =>
  rw[C7o]at h
  refine B8 (gU 3 R (I7 tb R ?_))
  refine Q4 R R R R (tJ h ?_) (lJ h ?_)
  ·intro h
   refine Y9 (zT (B8 (E3 (B8 (T1 kR (rU 3 R ?_))))))
   obtain⟨e4,ie4,h⟩:=H1 h
   refine yE ie4 R R (rU 4 R ?_)
   obtain⟨e5,ie5,h⟩:=H1 h
   refine yE ie5 R R ?_
   refine B1t R R R R (tJ h ?_) (mJ h ?_)
   ·intro h
    refine I0 kR (C0 R (gY 1 R (C9 ?_)))
    cases h
    exact f1 4 R
   intro h
   refine I0 kR (zF (hN 3 R ?_))
   exact bk ⟨(W (x2+1)),h,R⟩ (.prn [4,7,10] R)
  intro h
  refine Y9 (C1 R (N5 (E4 (E4 ?_))))
  subst hK10
  refine gY 1 R (C9 ?_)
  cases h
  exact f1 4 R
 refine B8 ?_
 refine W5 (fun zz:Unit=>C6A F=some r) (fun zz:Unit=>⟨[(2,rf 0 7),(4,dI 0),(7,rf 1 6),(60,dB true)],[bx 7 (.d (D5.d t)),bx 6 (.d (D1.d e2))]⟩) ?_ ?_
 ·clear h
  rintro⟨⟩ h
  rw[C6A]at h
  refine C0 R (gY 1 R (C9 ?_))
  cases h
  exact f1 4 R
 refine hU 3 R ?_
 obtain⟨rv2,k2,h⟩:=H1 h
 refine M6 (C8X k2) eK R R R R (tI h ?_) (fI h ?_)
 ·intro c3 h
  refine rU 5 R ?_
  obtain⟨rv3,k3,h⟩:=H1 h
  refine M6 (C8X k3) eK R R R R (tI h ?_) (fI h ?_)
  ·intro c4 h
   refine rU 5 R ?_
   obtain⟨rv4,k4,h⟩:=H1 h
   refine M6 (C4z k4) eK R R R R (tI h ?_) (fI h ?_)
   ·intro c5 h
    refine rU 5 R ?_
    obtain⟨rv5,k5,h⟩:=H1 h
    refine M6 (C9y k5) eK R R R R (tI h ?_) (fI h ?_)
    ·intro c6 h
     refine nU 2 R (.inr (zF (A6 ?_)))
     exact .inl ⟨(),h,.vw (κ:=[0,2]) (vK (.cons R R (.cons R R .nil)) R)⟩
    intro c6 h
    refine nU 2 R ?_
    exact .inl ⟨(),h,.vw (κ:=[0,2]) (vK (.cons R R (.cons R R .nil)) R)⟩
   intro c5 h
   refine nU 8 R ?_
   exact .inl ⟨(),h,.vw (κ:=[0,2]) (vK (.cons R R (.cons R R .nil)) R)⟩
  intro c4 h
  refine nU 14 R ?_
  exact .inl ⟨(),h,.vw (κ:=[0,2]) (vK (.cons R R (.cons R R .nil)) R)⟩
 intro c3 h
 refine nU 20 R ?_
 exact .inl ⟨(),h,.vw (κ:=[0,2]) (vK (.cons R R (.cons R R .nil)) R)⟩
def D0Q (F:Nat) (s:B4J) (nv:Int):Option Int:=some (max (max (W (s.lo-nv)) (W (nv-s.hi))) 0)
theorem D0L {F s nv r} (h:D0Q F s nv=some r):PC Tryz.prog 191 [B4J.d s,vI nv] (vI r):=by
 rw[D0Q]at h
 refine oW Tryz.func191 ?_
 refine gY 2 R (gU 8 R (A9L R R R R R (eU 1 R (C9 ?_))))
 cases h
 exact f1 4 R
def C9s (F:Nat) (p:D5) (zone squib:Int):Option Bool:=(P3 p.zones zone).bind fun e=>(P3 p.squibs squib).bind fun e2=>(D0Q F (B4J.mk e.L5 e.L4) e2.A4s).bind fun rv=>(D0Q F (B4J.mk e.L7 e.L6) e2.A4t).bind fun rv2=>some (decide ((W ((W (rv*rv))+(W (rv2*rv2))))<(W (e2.clear*e2.clear))))
theorem C9L {F p zone squib r} (h:C9s F p zone squib=some r):PC Tryz.prog 139 [D5.d p,vI zone,vI squib] (vB r):=by
 rw[C9s]at h
 refine oW Tryz.func139 ?_
 refine gY 2 R (B8 (T1 kR (rU 3 R ?_)))
 obtain⟨e,ie,h⟩:=H1 h
 refine xE ie R (rU 1 R (lE ie R (rU 3 R ?_)))
 obtain⟨e2,ie2,h⟩:=H1 h
 refine yE ie2 R R (rU 4 R (I0 kR (B8 (T1 kR (rU 5 R ?_)))))
 obtain⟨rv,k,h⟩:=H1 h
 refine J5 (D0L k) eK R R R R (rU 5 R ?_)
 obtain⟨rv2,k2,h⟩:=H1 h
 refine J5 (D0L k2) eK R R R R (rU 2 R (I0 kR (gU 12 R (B8b R R R R (eU 1 R (C9 ?_))))))
 cases h
 exact f1 6 R
def C7n (F:Nat) (t:D5) (K:Int→Option (Int × Int × Int)):Nat→Int→Option (Int × Int × Int)
 | 0,_=>none
 | n+1,x3=>if x3<(t.squibs.length:Int)then((C9s F t t.panel x3).bind fun rv8=>if rv8=true then(some (7,0,2))else(C7n F t K n (W (x3+1))))else(K x3)
def C7A (F:Nat) (t:D5) (K:Int→Option (Int × Int × Int)):Nat→Int→Option (Int × Int × Int)
 | 0,_=>none
 | n+1,x2=>if x2<(t.squibs.length:Int)then((C93 F t x2).bind fun rv6=>if rv6=0 then(C7A F t K n (W (x2+1)))else(some (6,x2,rv6)))else(K x2)
def C7H (F:Nat) (t:D5) (K:Int→Option (Int × Int × Int)):Nat→Int→Option (Int × Int × Int)
 | 0,_=>none
 | n+1,x=>if x<(t.keys.length:Int)then((P3 t.keys x).bind fun e=>(A7A t.keys 0 x).bind fun q=>(C8J F e q).bind fun rv5=>if rv5=0 then(C7H F t K n (W (x+1)))else(some (5,x,rv5)))else(K x)
def C8B (F:Nat) (t:D5):Option (Int × Int × Int):=(C94 F t).bind fun rv2=>if rv2.2=0 then((C9x F t).bind fun rv3=>if rv3.2=0 then((C9k F t).bind fun rv4=>if rv4.2=0 then(C7H F t (fun x=>C7A F t (fun x2=>(C87 F t t.panel).bind fun rv7=>if rv7=true then(C7n F t (fun x3=>(C6R F t.wait 0 6000).bind fun rv9=>if rv9=true then(some (0,0,0))else(some (7,0,7))) F 0)else(some (7,0,4))) F 0) F 0)else(some (4,rv4.1,rv4.2)))else(some (3,rv3.1,rv3.2)))else(some (2,rv2.1,rv2.2))
def C7m (F:Nat):Option (Int × Int × Int):=some (1,0,3)
def C9d (F:Nat) (t:D5):Option (Int × Int × Int):=(C6R F (t.zones.length:Int) 1 8).bind fun rv=>if rv=true then(if 24<(t.doors.length:Int)then(C7m F)else(if 8<(t.people.length:Int)then(C7m F)else(if 8<(t.keys.length:Int)then(C7m F)else(if 6<(t.squibs.length:Int)then(C7m F)else(C8B F t)))))else(C7m F)
theorem D0c {F t r} (h:C9d F t=some r):PC Tryz.prog 66 [D5.d t] (.tup [vI r.1,vI r.2.1,vI r.2.2]):=by
 rw[C9d]at h
 refine oW Tryz.func66 ?_
 refine gY 4 R (B8 ?_)
 refine W5 (fun zz:Unit=>C8B F t=some r) (fun zz:Unit=>⟨[(1,rf 0 7),(2,dI 0),(3,dI 0),(4,dI 0)],[bx 7 (.d (D5.d t))]⟩) ?_ ?_
 ·clear h
  rintro⟨⟩ h
  rw[C8B]at h
  refine gU 1 R ?_
  obtain⟨rv2,k2,h⟩:=H1 h
  refine J5 (D1m k2) eK R R R R (eU 5 R (B8 (gU 1 R ?_)))
  refine V5 R R R R (nJ h ?_) (tJ h ?_)
  ·intro h
   refine Y9 (C0 R (gY 5 R (C9 ?_)))
   cases h
   exact f0 R R R (.cons (.tmp 2) (.cons (.tmp 3) (.cons (.tmp 4) .nil)))
  intro h
  refine Y9 (zF (gU 1 R ?_))
  obtain⟨rv3,k3,h⟩:=H1 h
  refine J5 (D1d k3) eK R R R R (eU 5 R (B8 (gU 1 R ?_)))
  refine V5 R R R R (nJ h ?_) (tJ h ?_)
  ·intro h
   refine Y9 (C0 R (gY 5 R (C9 ?_)))
   cases h
   exact f0 R R R (.cons (.tmp 2) (.cons (.tmp 3) (.cons (.tmp 4) .nil)))
  intro h
  refine Y9 (zF (gU 1 R ?_))
  obtain⟨rv4,k4,h⟩:=H1 h
  refine J5 (D0U k4) eK R R R R (eU 5 R (B8 (gU 1 R ?_)))
  refine V5 R R R R (nJ h ?_) (tJ h ?_)
  ·intro h
   refine Y9 (C0 R (gY 5 R (C9 ?_)))
   cases h
   exact f0 R R R (.cons (.tmp 2) (.cons (.tmp 3) (.cons (.tmp 4) .nil)))
  intro h
  refine Y9 (zF (B8 (gY 1 R (E3 ?_))))
  obtain⟨K3,hK3,h⟩:∃ K,K=_∧C7H F t K F 0=some r:=⟨_,rfl,h⟩
  refine lW (fun m st=>∃ (x:Int),C7H F t K3 m x=some r∧st=⟨[(1,rf 0 7),(2,dI 0),(3,dI 0),(4,dI 0),(7,dI x)],[bx 7 (.d (D5.d t))]⟩) ⟨0,h,R⟩ (.prn [1,2,3,4,7] R) ?_
  clear h
  rintro m3 st ⟨x,h,rfl⟩
  cases m3 with
  | zero=>cases(show(none:Option (Int × Int × Int))=some r from h)
  | succ m3 =>
  rw[C7H]at h
  refine B8 (gU 3 R (I7 tb R ?_))
  refine Q4 R R R R (tJ h ?_) (lJ h ?_)
  ·intro h
   refine Y9 (zT (B8 (E3 (B8 (T1 kR (rU 3 R ?_))))))
   obtain⟨e,ie,h⟩:=H1 h
   refine yE ie R R (rU 3 R ?_)
   obtain⟨q,iq,h⟩:=H1 h
   refine A6E tb R R R R R R iq R R ?_
   obtain⟨rv5,k5,h⟩:=H1 h
   refine J5 (C9r k5) eK R R R R (rU 1 R (I0 kR (gU 1 R ?_)))
   refine V5 R R R R (nJ h ?_) (tJ h ?_)
   ·intro h
    refine Y9 (C0 R (gY 5 R (C9 ?_)))
    cases h
    exact f0 R R R (.cons (.tmp 2) (.cons (.tmp 3) (.cons (.tmp 4) .nil)))
   intro h
   refine Y9 (zF (hN 3 R ?_))
   exact bk ⟨(W (x+1)),h,R⟩ (.prn [1,2,3,4,7] R)
  intro h
  refine Y9 (C1 R (N5 (E4 (E4 ?_))))
  subst hK3
  refine B8 (gY 1 R (E3 ?_))
  obtain⟨K6,hK6,h⟩:∃ K,K=_∧C7A F t K F 0=some r:=⟨_,rfl,h⟩
  refine lW (fun m st=>∃ (x2:Int),C7A F t K6 m x2=some r∧st=⟨[(1,rf 0 7),(2,dI 0),(3,dI 0),(4,dI 0),(9,dI x2)],[bx 7 (.d (D5.d t))]⟩) ⟨0,h,R⟩ (.prn [1,2,3,4,9] R) ?_
  clear h
  rintro m6 st ⟨x2,h,rfl⟩
  cases m6 with
  | zero=>cases(show(none:Option (Int × Int × Int))=some r from h)
  | succ m6 =>
  rw[C7A]at h
  refine B8 (gU 3 R (I7 tb R ?_))
  refine Q4 R R R R (tJ h ?_) (lJ h ?_)
  ·intro h
   refine Y9 (zT (B8 (E3 (gU 2 R ?_))))
   obtain⟨rv6,k6,h⟩:=H1 h
   refine J5 (D1j k6) eK R R R R (eU 1 R (gU 1 R ?_))
   refine V5 R R R R (nJ h ?_) (tJ h ?_)
   ·intro h
    refine Y9 (C0 R (gY 5 R (C9 ?_)))
    cases h
    exact f0 R R R (.cons (.tmp 2) (.cons (.tmp 3) (.cons (.tmp 4) .nil)))
   intro h
   refine Y9 (zF (hN 3 R ?_))
   exact bk ⟨(W (x2+1)),h,R⟩ (.prn [1,2,3,4,9] R)
  intro h
  refine Y9 (C1 R (N5 (E4 (E4 ?_))))
  subst hK6
  refine B8 (gU 3 R ?_)
  obtain⟨rv7,k7,h⟩:=H1 h
  refine M6 (C8R k7) eK R R R R (tI h ?_) (fI h ?_)
  ·intro c13 h
   refine eU 1 R (zF (B8 (gY 1 R (E3 ?_))))
   obtain⟨K9,hK9,h⟩:∃ K,K=_∧C7n F t K F 0=some r:=⟨_,rfl,h⟩
   refine lW (fun m st=>∃ (x3:Int),C7n F t K9 m x3=some r∧st=⟨[(1,rf 0 7),(2,dI 0),(3,dI 0),(4,dI 0),(11,dI x3)],[bx 7 (.d (D5.d t))]⟩) ⟨0,h,R⟩ (.prn [1,2,3,4,11] R) ?_
   clear h
   rintro m9 st ⟨x3,h,rfl⟩
   cases m9 with
   | zero=>cases(show(none:Option (Int × Int × Int))=some r from h)
   | succ m9 =>
   rw[C7n]at h
   refine B8 (gU 3 R (I7 tb R ?_))
   refine Q4 R R R R (tJ h ?_) (lJ h ?_)
   ·intro h
    refine Y9 (zT (B8 (E3 (gU 4 R ?_))))
    obtain⟨rv8,k8,h⟩:=H1 h
    refine M6 (C9L k8) eK R R R R (tI h ?_) (fI h ?_)
    ·intro c15 h
     refine Y9 (C0 R (gY 3 R (C9 ?_)))
     cases h
     exact f0 R R R (.cons (.tmp 2) (.cons (.tmp 3) (.cons (.tmp 4) .nil)))
    intro c15 h
    refine Y9 (zF (hN 3 R ?_))
    exact bk ⟨(W (x3+1)),h,R⟩ (.prn [1,2,3,4,11] R)
   intro h
   refine Y9 (C1 R (N5 (E4 (E4 ?_))))
   subst hK9
   refine B8 (gU 2 R ?_)
   obtain⟨rv9,k9,h⟩:=H1 h
   refine M6 (C4z k9) eK R R R R (tI h ?_) (fI h ?_)
   ·intro c16 h
    refine eU 1 R (zF (gY 3 R (C9 ?_)))
    cases h
    exact f0 R R R (.cons (.tmp 2) (.cons (.tmp 3) (.cons (.tmp 4) .nil)))
   intro c16 h
   refine eU 1 R (C0 R (gY 3 R (C9 ?_)))
   cases h
   exact f0 R R R (.cons (.tmp 2) (.cons (.tmp 3) (.cons (.tmp 4) .nil)))
  intro c13 h
  refine eU 1 R (C0 R (gY 3 R (C9 ?_)))
  cases h
  exact f0 R R R (.cons (.tmp 2) (.cons (.tmp 3) (.cons (.tmp 4) .nil)))
 refine B8 ?_
 refine W5 (fun zz:Unit=>C7m F=some r) (fun zz:Unit=>⟨[(1,rf 0 7),(2,dI 0),(3,dI 0),(4,dI 0),(40,dB true)],[bx 7 (.d (D5.d t))]⟩) ?_ ?_
 ·clear h
  rintro⟨⟩ h
  rw[C7m]at h
  refine C0 R (gY 3 R (C9 ?_))
  cases h
  exact f0 R R R (.cons (.tmp 2) (.cons (.tmp 3) (.cons (.tmp 4) .nil)))
 refine hU 2 R (I7 tb R ?_)
 obtain⟨rv,k,h⟩:=H1 h
 refine M6 (C4z k) eK R R R R (tI h ?_) (fI h ?_)
 ·intro c h
  refine rU 4 R (I7 tb R ?_)
  refine A4l R R R R (tJ h ?_) (lJ h ?_)
  ·intro h
   refine nU 19 R ?_
   exact .inl ⟨(),h,.prn [1,2,3,4,40] R⟩
  intro h
  refine rU 4 R (I7 tb R ?_)
  refine A4l R R R R (tJ h ?_) (lJ h ?_)
  ·intro h
   refine nU 13 R ?_
   exact .inl ⟨(),h,.prn [1,2,3,4,40] R⟩
  intro h
  refine rU 4 R (I7 tb R ?_)
  refine A4l R R R R (tJ h ?_) (lJ h ?_)
  ·intro h
   refine nU 7 R ?_
   exact .inl ⟨(),h,.prn [1,2,3,4,40] R⟩
  intro h
  refine rU 4 R (I7 tb R ?_)
  refine A4l R R R R (tJ h ?_) (lJ h ?_)
  ·intro h
   refine nU 1 R ?_
   exact .inl ⟨(),h,.prn [1,2,3,4,40] R⟩
  intro h
  refine nU 1 R (.inr (zF (A6 ?_)))
  exact .inl ⟨(),h,.prn [1,2,3,4] R⟩
 intro c h
 refine nU 25 R ?_
 exact .inl ⟨(),h,.prn [1,2,3,4,40] R⟩
def C9l (F:Nat) (p:D5):Option Int:=(C9d F p).bind fun rv=>some rv.2.2
theorem D0j {F p r} (h:C9l F p=some r):PC Tryz.prog 158 [D5.d p] (vI r):=by
 rw[C9l]at h
 refine oW Tryz.func158 ?_
 refine gY 2 R (gU 1 R ?_)
 obtain⟨rv,k,h⟩:=H1 h
 refine J5 (D0c k) eK R R R R (eU 7 R (gY 2 R (C9 ?_)))
 cases h
 exact f1 2 R
def C5o (F:Nat) (o:C3) (K:Bool→Int→Option Bool):Nat→Bool→Int→Option Bool
 | 0,_,_=>none
 | n+1,a3,x2=>if x2<(o.squibs.length:Int)then(if a3=true then((P3 o.squibs x2).bind fun e3=>(C6R F e3 0 2).bind fun rv5=>if rv5=true then(C5o F o K n true (W (x2+1)))else(C5o F o K n false (W (x2+1))))else(C5o F o K n false (W (x2+1))))else(K a3 x2)
def C5s (F:Nat) (t:D5) (o:C3) (K:Bool→Int→Option Bool):Nat→Bool→Int→Option Bool
 | 0,_,_=>none
 | n+1,a2,x=>if x<(o.holder.length:Int)then(if a2=true then((P3 o.holder x).bind fun e2=>(C6R F e2 (-1) (W ((t.people.length:Int)-1))).bind fun rv4=>if rv4=true then(C5s F t o K n true (W (x+1)))else(C5s F t o K n false (W (x+1))))else(C5s F t o K n false (W (x+1))))else(K a2 x)
def C5G (F:Nat) (t:D5) (o:C3) (K:Bool→Int→Option Bool):Nat→Bool→Int→Option Bool
 | 0,_,_=>none
 | n+1,a,y=>if y<(o.zones.length:Int)then(if a=true then((P3 o.zones y).bind fun e=>(C6R F e (-1) (W ((t.zones.length:Int)-1))).bind fun rv3=>if rv3=true then(C5G F t o K n true (W (y+1)))else(C5G F t o K n false (W (y+1))))else(C5G F t o K n false (W (y+1))))else(K a y)
def C5w (F:Nat) (o:C3) (K:Bool→Int→Option Bool):Nat→Bool→Int→Option Bool
 | 0,_,_=>none
 | n+1,a6,x4=>if x4<(o.squibs.length:Int)then(if a6=true then((P3 o.squibs x4).bind fun e6=>(C6R F e6 0 2).bind fun rv8=>if rv8=true then(C5w F o K n true (W (x4+1)))else(C5w F o K n false (W (x4+1))))else(C5w F o K n false (W (x4+1))))else(K a6 x4)
def C5J (F:Nat) (t:D5) (o:C3) (K:Bool→Int→Option Bool):Nat→Bool→Int→Option Bool
 | 0,_,_=>none
 | n+1,a5,x3=>if x3<(o.holder.length:Int)then(if a5=true then((P3 o.holder x3).bind fun e5=>(C6R F e5 (-1) (W ((t.people.length:Int)-1))).bind fun rv7=>if rv7=true then(C5J F t o K n true (W (x3+1)))else(C5J F t o K n false (W (x3+1))))else(C5J F t o K n false (W (x3+1))))else(K a5 x3)
def C6s (F:Nat) (t:D5) (o:C3) (K:Bool→Int→Option Bool):Nat→Bool→Int→Option Bool
 | 0,_,_=>none
 | n+1,a4,y2=>if y2<(o.zones.length:Int)then(if a4=true then((P3 o.zones y2).bind fun e4=>(C6R F e4 (-1) (W ((t.zones.length:Int)-1))).bind fun rv6=>if rv6=true then(C6s F t o K n true (W (y2+1)))else(C6s F t o K n false (W (y2+1))))else(C6s F t o K n false (W (y2+1))))else(K a4 y2)
def C6I (F:Nat) (t:D5) (o:C3):Option Bool:=C6s F t o (fun a4 y2=>C5J F t o (fun a5 x3=>C5w F o (fun a6 x4=>some a6) F a5 0) F a4 0) F false 0
def C9i (F:Nat) (t:D5) (o:C3):Option Bool:=(C6R F o.now 0 100000).bind fun rv=>if rv=true then((C6R F o.siren (-1) o.now).bind fun rv2=>if rv2=true then(if(o.zones.length:Int)=(t.people.length:Int)then(if(o.holder.length:Int)=(t.keys.length:Int)then(if(o.squibs.length:Int)=(t.squibs.length:Int)then(C5G F t o (fun a y=>C5s F t o (fun a2 x=>C5o F o (fun a3 x2=>some a3) F a2 0) F a 0) F true 0)else(C6I F t o))else(C6I F t o))else(C6I F t o))else(C6I F t o))else(C6I F t o)
theorem D0S {F t o r} (h:C9i F t o=some r):PC Tryz.prog 206 [D5.d t,C3.d o] (vB r):=by
 rw[C9i]at h
 refine oW Tryz.func206 ?_
 refine gY 3 R (B8 ?_)
 refine W5 (fun zz:Unit=>C6I F t o=some r) (fun zz:Unit=>⟨[(2,rf 0 7),(3,rf 1 6),(4,dB false),(5,dB false)],[bx 7 (.d (D5.d t)),bx 6 (.d (C3.d o))]⟩) ?_ ?_
 ·clear h
  rintro⟨⟩ h
  rw[C6I]at h
  refine B8 (gY 1 R (E3 ?_))
  obtain⟨K12,hK12,h⟩:∃ K,K=_∧C6s F t o K F false 0=some r:=⟨_,rfl,h⟩
  refine lW (fun m st=>∃ (a4:Bool) (y2:Int),C6s F t o K12 m a4 y2=some r∧st=⟨[(2,rf 0 7),(3,rf 1 6),(4,dB false),(5,dB a4),(6,dI y2)],[bx 7 (.d (D5.d t)),bx 6 (.d (C3.d o))]⟩) ⟨false,0,h,R⟩ (.prn [2,3,4,5,6] R) ?_
  clear h
  rintro m12 st ⟨a4,y2,h,rfl⟩
  cases m12 with
  | zero=>cases(show(none:Option Bool)=some r from h)
  | succ m12 =>
  rw[C6s]at h
  refine B8 (gU 3 R (I7 tb R ?_))
  refine Q4 R R R R (tJ h ?_) (lJ h ?_)
  ·intro h
   refine Y9 (zT (B8 (E3 (T1 kR (rU 1 R ?_)))))
   refine X8 (tI h ?_) (fI h ?_)
   ·intro c16 h
    refine rU 4 R ?_
    obtain⟨e4,ie4,h⟩:=H1 h
    refine yE ie4 R R (rU 2 R (I7 tb R (rU 1 R ?_)))
    obtain⟨rv6,k6,h⟩:=H1 h
    refine M6 (C4z k6) eK R R R R (tI h ?_) (fI h ?_)
    ·intro c17 h
     refine rU 2 R (I0 kR (hN 3 R ?_))
     exact bk ⟨true,(W (y2+1)),h,R⟩ (.prn [2,3,4,5,6] R)
    intro c17 h
    refine rU 2 R (I0 kR (hN 3 R ?_))
    exact bk ⟨false,(W (y2+1)),h,R⟩ (.prn [2,3,4,5,6] R)
   intro c16 h
   refine rU 13 R (I0 kR (hN 3 R ?_))
   exact bk ⟨false,(W (y2+1)),h,R⟩ (.prn [2,3,4,5,6] R)
  intro h
  refine Y9 (C1 R (N5 (E4 (E4 ?_))))
  subst hK12
  refine B8 (gY 1 R (E3 ?_))
  obtain⟨K14,hK14,h⟩:∃ K,K=_∧C5J F t o K F a4 0=some r:=⟨_,rfl,h⟩
  refine lW (fun m st=>∃ (a5:Bool) (x3:Int),C5J F t o K14 m a5 x3=some r∧st=⟨[(2,rf 0 7),(3,rf 1 6),(4,dB false),(5,dB a5),(7,dI x3)],[bx 7 (.d (D5.d t)),bx 6 (.d (C3.d o))]⟩) ⟨a4,0,h,R⟩ (.prn [2,3,4,5,7] R) ?_
  clear h
  rintro m14 st ⟨a5,x3,h,rfl⟩
  cases m14 with
  | zero=>cases(show(none:Option Bool)=some r from h)
  | succ m14 =>
  rw[C5J]at h
  refine B8 (gU 3 R (I7 tb R ?_))
  refine Q4 R R R R (tJ h ?_) (lJ h ?_)
  ·intro h
   refine Y9 (zT (B8 (E3 (T1 kR (rU 1 R ?_)))))
   refine X8 (tI h ?_) (fI h ?_)
   ·intro c19 h
    refine rU 4 R ?_
    obtain⟨e5,ie5,h⟩:=H1 h
    refine yE ie5 R R (rU 2 R (I7 tb R (rU 1 R ?_)))
    obtain⟨rv7,k7,h⟩:=H1 h
    refine M6 (C4z k7) eK R R R R (tI h ?_) (fI h ?_)
    ·intro c20 h
     refine rU 2 R (I0 kR (hN 3 R ?_))
     exact bk ⟨true,(W (x3+1)),h,R⟩ (.prn [2,3,4,5,7] R)
    intro c20 h
    refine rU 2 R (I0 kR (hN 3 R ?_))
    exact bk ⟨false,(W (x3+1)),h,R⟩ (.prn [2,3,4,5,7] R)
   intro c19 h
   refine rU 13 R (I0 kR (hN 3 R ?_))
   exact bk ⟨false,(W (x3+1)),h,R⟩ (.prn [2,3,4,5,7] R)
  intro h
  refine Y9 (C1 R (N5 (E4 (E4 ?_))))
  subst hK14
  refine B8 (gY 1 R (E3 ?_))
  obtain⟨K16,hK16,h⟩:∃ K,K=_∧C5w F o K F a5 0=some r:=⟨_,rfl,h⟩
  refine lW (fun m st=>∃ (a6:Bool) (x4:Int),C5w F o K16 m a6 x4=some r∧st=⟨[(3,rf 0 6),(4,dB false),(5,dB a6),(8,dI x4)],[bx 6 (.d (C3.d o))]⟩) ⟨a5,0,h,R⟩ (.vw (κ:=[1]) (vK (.cons R R .nil) R)) ?_
  clear h
  rintro m16 st ⟨a6,x4,h,rfl⟩
  cases m16 with
  | zero=>cases(show(none:Option Bool)=some r from h)
  | succ m16 =>
  rw[C5w]at h
  refine B8 (gU 3 R (I7 tb R ?_))
  refine Q4 R R R R (tJ h ?_) (lJ h ?_)
  ·intro h
   refine Y9 (zT (B8 (E3 (hU 1 R ?_))))
   refine X8 (tI h ?_) (fI h ?_)
   ·intro c22 h
    refine rU 4 R ?_
    obtain⟨e6,ie6,h⟩:=H1 h
    refine yE ie6 R R ?_
    obtain⟨rv8,k8,h⟩:=H1 h
    refine M6 (C4z k8) eK R R R R (tI h ?_) (fI h ?_)
    ·intro c23 h
     refine eU 2 R (hN 3 R ?_)
     exact bk ⟨true,(W (x4+1)),h,R⟩ (.prn [3,4,5,8] R)
    intro c23 h
    refine eU 2 R (hN 3 R ?_)
    exact bk ⟨false,(W (x4+1)),h,R⟩ (.prn [3,4,5,8] R)
   intro c22 h
   refine eU 9 R (hN 3 R ?_)
   exact bk ⟨false,(W (x4+1)),h,R⟩ (.prn [3,4,5,8] R)
  intro h
  refine Y9 (C1 R (N5 (E4 (E4 ?_))))
  subst hK16
  refine gY 2 R (C9 ?_)
  cases h
  exact f1 4 R
 refine hU 2 R ?_
 obtain⟨rv,k,h⟩:=H1 h
 refine M6 (C4z k) eK R R R R (tI h ?_) (fI h ?_)
 ·intro c h
  refine rU 5 R ?_
  obtain⟨rv2,k2,h⟩:=H1 h
  refine M6 (C4z k2) eK R R R R (tI h ?_) (fI h ?_)
  ·intro c2 h
   refine rU 4 R (I7 tb R (rU 2 R (I7 tb R ?_)))
   refine Z3 R R R R (tJ h ?_) (nJ h ?_)
   ·intro h
    refine rU 4 R (I7 tb R (rU 2 R (I7 tb R ?_)))
    refine Z3 R R R R (tJ h ?_) (nJ h ?_)
    ·intro h
     refine rU 4 R (I7 tb R (rU 2 R (I7 tb R ?_)))
     refine Z3 R R R R (tJ h ?_) (nJ h ?_)
     ·intro h
      refine nU 2 R (.inr (B8 (gY 1 R (E3 ?_))))
      obtain⟨K18,hK18,h⟩:∃ K,K=_∧C5G F t o K F true 0=some r:=⟨_,rfl,h⟩
      refine lW (fun m st=>∃ (a:Bool) (y:Int),C5G F t o K18 m a y=some r∧st=⟨[(2,rf 0 7),(3,rf 1 6),(4,dB false),(5,dB a),(6,dI y)],[bx 7 (.d (D5.d t)),bx 6 (.d (C3.d o))]⟩) ⟨true,0,h,R⟩ (.prn [2,3,4,5,6] R) ?_
      clear h
      rintro m18 st ⟨a,y,h,rfl⟩
      cases m18 with
      | zero=>cases(show(none:Option Bool)=some r from h)
      | succ m18 =>
      rw[C5G]at h
      refine B8 (gU 3 R (I7 tb R ?_))
      refine Q4 R R R R (tJ h ?_) (lJ h ?_)
      ·intro h
       refine Y9 (zT (B8 (E3 (T1 kR (rU 1 R ?_)))))
       refine X8 (tI h ?_) (fI h ?_)
       ·intro c7 h
        refine rU 4 R ?_
        obtain⟨e,ie,h⟩:=H1 h
        refine yE ie R R (rU 2 R (I7 tb R (rU 1 R ?_)))
        obtain⟨rv3,k3,h⟩:=H1 h
        refine M6 (C4z k3) eK R R R R (tI h ?_) (fI h ?_)
        ·intro c8 h
         refine rU 2 R (I0 kR (hN 3 R ?_))
         exact bk ⟨true,(W (y+1)),h,R⟩ (.prn [2,3,4,5,6] R)
        intro c8 h
        refine rU 2 R (I0 kR (hN 3 R ?_))
        exact bk ⟨false,(W (y+1)),h,R⟩ (.prn [2,3,4,5,6] R)
       intro c7 h
       refine rU 13 R (I0 kR (hN 3 R ?_))
       exact bk ⟨false,(W (y+1)),h,R⟩ (.prn [2,3,4,5,6] R)
      intro h
      refine Y9 (C1 R (N5 (E4 (E4 ?_))))
      subst hK18
      refine B8 (gY 1 R (E3 ?_))
      obtain⟨K20,hK20,h⟩:∃ K,K=_∧C5s F t o K F a 0=some r:=⟨_,rfl,h⟩
      refine lW (fun m st=>∃ (a2:Bool) (x:Int),C5s F t o K20 m a2 x=some r∧st=⟨[(2,rf 0 7),(3,rf 1 6),(4,dB false),(5,dB a2),(7,dI x)],[bx 7 (.d (D5.d t)),bx 6 (.d (C3.d o))]⟩) ⟨a,0,h,R⟩ (.prn [2,3,4,5,7] R) ?_
      clear h
      rintro m20 st ⟨a2,x,h,rfl⟩
      cases m20 with
      | zero=>cases(show(none:Option Bool)=some r from h)
      | succ m20 =>
      rw[C5s]at h
      refine B8 (gU 3 R (I7 tb R ?_))
      refine Q4 R R R R (tJ h ?_) (lJ h ?_)
      ·intro h
       refine Y9 (zT (B8 (E3 (T1 kR (rU 1 R ?_)))))
       refine X8 (tI h ?_) (fI h ?_)
       ·intro c10 h
        refine rU 4 R ?_
        obtain⟨e2,ie2,h⟩:=H1 h
        refine yE ie2 R R (rU 2 R (I7 tb R (rU 1 R ?_)))
        obtain⟨rv4,k4,h⟩:=H1 h
        refine M6 (C4z k4) eK R R R R (tI h ?_) (fI h ?_)
        ·intro c11 h
         refine rU 2 R (I0 kR (hN 3 R ?_))
         exact bk ⟨true,(W (x+1)),h,R⟩ (.prn [2,3,4,5,7] R)
        intro c11 h
        refine rU 2 R (I0 kR (hN 3 R ?_))
        exact bk ⟨false,(W (x+1)),h,R⟩ (.prn [2,3,4,5,7] R)
       intro c10 h
       refine rU 13 R (I0 kR (hN 3 R ?_))
       exact bk ⟨false,(W (x+1)),h,R⟩ (.prn [2,3,4,5,7] R)
      intro h
      refine Y9 (C1 R (N5 (E4 (E4 ?_))))
      subst hK20
      refine B8 (gY 1 R (E3 ?_))
      obtain⟨K22,hK22,h⟩:∃ K,K=_∧C5o F o K F a2 0=some r:=⟨_,rfl,h⟩
      refine lW (fun m st=>∃ (a3:Bool) (x2:Int),C5o F o K22 m a3 x2=some r∧st=⟨[(3,rf 0 6),(4,dB false),(5,dB a3),(8,dI x2)],[bx 6 (.d (C3.d o))]⟩) ⟨a2,0,h,R⟩ (.vw (κ:=[1]) (vK (.cons R R .nil) R)) ?_
      clear h
      rintro m22 st ⟨a3,x2,h,rfl⟩
      cases m22 with
      | zero=>cases(show(none:Option Bool)=some r from h)
      | succ m22 =>
      rw[C5o]at h
      refine B8 (gU 3 R (I7 tb R ?_))
      refine Q4 R R R R (tJ h ?_) (lJ h ?_)
      ·intro h
       refine Y9 (zT (B8 (E3 (hU 1 R ?_))))
       refine X8 (tI h ?_) (fI h ?_)
       ·intro c13 h
        refine rU 4 R ?_
        obtain⟨e3,ie3,h⟩:=H1 h
        refine yE ie3 R R ?_
        obtain⟨rv5,k5,h⟩:=H1 h
        refine M6 (C4z k5) eK R R R R (tI h ?_) (fI h ?_)
        ·intro c14 h
         refine eU 2 R (hN 3 R ?_)
         exact bk ⟨true,(W (x2+1)),h,R⟩ (.prn [3,4,5,8] R)
        intro c14 h
        refine eU 2 R (hN 3 R ?_)
        exact bk ⟨false,(W (x2+1)),h,R⟩ (.prn [3,4,5,8] R)
       intro c13 h
       refine eU 9 R (hN 3 R ?_)
       exact bk ⟨false,(W (x2+1)),h,R⟩ (.prn [3,4,5,8] R)
      intro h
      refine Y9 (C1 R (N5 (E4 (E4 ?_))))
      subst hK22
      refine gY 2 R (C9 ?_)
      cases h
      exact f1 4 R
     intro h
     refine nU 2 R ?_
     exact .inl ⟨(),h,.prn [2,3,4,5] R⟩
    intro h
    refine nU 11 R ?_
    exact .inl ⟨(),h,.prn [2,3,4,5] R⟩
   intro h
   refine nU 20 R ?_
   exact .inl ⟨(),h,.prn [2,3,4,5] R⟩
  intro c2 h
  refine nU 29 R ?_
  exact .inl ⟨(),h,.prn [2,3,4,5] R⟩
 intro c h
 refine nU 35 R ?_
 exact .inl ⟨(),h,.prn [2,3,4,5] R⟩
def C7L (F:Nat) (s:C3) (zone:Int) (K:Int→Int→Option Int):Nat→Int→Int→Option Int
 | 0,_,_=>none
 | n+1,nv,i=>if i<(s.zones.length:Int)then((P3 s.zones i).bind fun e=>if e=zone then(C7L F s zone K n (W (nv+1)) (W (i+1)))else(C7L F s zone K n nv (W (i+1))))else(K nv i)
def C82 (F:Nat) (s:C3) (zone:Int):Option Int:=C7L F s zone (fun nv i=>some nv) F 0 0
theorem C86 {F s zone r} (h:C82 F s zone=some r):PC Tryz.prog 225 [C3.d s,vI zone] (vI r):=by
 rw[C82]at h
 refine oW Tryz.func225 ?_
 refine gY 2 R (gY 1 R (B8 (gY 1 R (E3 ?_))))
 obtain⟨K3,hK3,h⟩:∃ K,K=_∧C7L F s zone K F 0 0=some r:=⟨_,rfl,h⟩
 refine lW (fun m st=>∃ (nv:Int) (i:Int),C7L F s zone K3 m nv i=some r∧st=⟨[(1,dI zone),(2,rf 0 6),(4,dI 0),(5,dI nv),(6,dI i)],[bx 6 (.d (C3.d s))]⟩) ⟨0,0,h,R⟩ (.prn [1,2,4,5,6] R) ?_
 clear h
 rintro m3 st ⟨nv,i,h,rfl⟩
 cases m3 with
 | zero=>cases(show(none:Option Int)=some r from h)
 | succ m3 =>
 rw[C7L]at h
 refine B8 (gU 3 R (I7 tb R ?_))
 refine Q4 R R R R (tJ h ?_) (lJ h ?_)
 ·intro h
  refine Y9 (zT (B8 (E3 (gU 3 R ?_))))
  obtain⟨e,ie,h⟩:=H1 h
  refine yE ie R R (rU 1 R ?_)
  refine Z3 R R R R (tJ h ?_) (nJ h ?_)
  ·intro h
   refine Y9 (C0 R (hE 3 R (hN 3 R ?_)))
   exact bk ⟨(W (nv+1)),(W (i+1)),h,R⟩ (.prn [1,2,4,5,6] R)
  intro h
  refine Y9 (zF (hN 3 R ?_))
  exact bk ⟨nv,(W (i+1)),h,R⟩ (.prn [1,2,4,5,6] R)
 intro h
 refine Y9 (C1 R (N5 (E4 (E4 ?_))))
 subst hK3
 refine gY 2 R (C9 ?_)
 cases h
 exact f1 4 R
def C7J (F:Nat) (s:C3) (person:Int) (e:D1) (K:Int→Option Bool):Nat→Int→Option Bool
 | 0,_=>none
 | n+1,i=>if i<(e.keys.length:Int)then((P3 e.keys i).bind fun e2=>(P3 s.holder e2).bind fun e3=>if e3=person then(some true)else(C7J F s person e K n (W (i+1))))else(K i)
def C9z (F:Nat) (p:D5) (s:C3) (person squib:Int):Option Bool:=(P3 p.squibs squib).bind fun e=>C7J F s person e (fun i=>some false) F 0
theorem D1f {F p s person squib r} (h:C9z F p s person squib=some r):PC Tryz.prog 233 [D5.d p,C3.d s,vI person,vI squib] (vB r):=by
 rw[C9z]at h
 refine oW Tryz.func233 ?_
 refine gY 3 R (gU 3 R ?_)
 obtain⟨e,ie,h⟩:=H1 h
 refine xE ie R (rU 1 R (lE ie R (eU 1 R (B8 (gY 1 R (E3 ?_))))))
 obtain⟨K3,hK3,h⟩:∃ K,K=_∧C7J F s person e K F 0=some r:=⟨_,rfl,h⟩
 refine lW (fun m st=>∃ (i:Int),C7J F s person e K3 m i=some r∧st=⟨[(2,dI person),(5,rf 0 6),(8,dB false),(9,.d (aI e.keys)),(10,dI i)],[bx 6 (.d (C3.d s))]⟩) ⟨0,h,R⟩ (.vw (κ:=[1]) (vK (.cons R R .nil) R)) ?_
 clear h
 rintro m3 st ⟨i,h,rfl⟩
 cases m3 with
 | zero=>cases(show(none:Option Bool)=some r from h)
 | succ m3 =>
 rw[C7J]at h
 refine B8 (gU 2 R (I7 tb R ?_))
 refine Q4 R R R R (tJ h ?_) (lJ h ?_)
 ·intro h
  refine Y9 (zT (B8 (E3 (B8 (T1 kR (rU 4 R ?_))))))
  obtain⟨e2,ie2,h⟩:=H1 h
  refine yE ie2 R R ?_
  obtain⟨e3,ie3,h⟩:=H1 h
  refine yE ie3 R R (rU 1 R ?_)
  refine Z3 R R R R (tJ h ?_) (nJ h ?_)
  ·intro h
   refine I0 kR (C0 R (gY 1 R (C9 ?_)))
   cases h
   exact f1 8 R
  intro h
  refine I0 kR (zF (hN 3 R ?_))
  exact bk ⟨(W (i+1)),h,R⟩ (.prn [2,5,8,9,10] R)
 intro h
 refine Y9 (C1 R (N5 (E4 (E4 ?_))))
 subst hK3
 refine gY 1 R (C9 ?_)
 cases h
 exact f1 8 R
def C8s (F:Nat) (B3:Int→Option Bool) (q:Int):Option Bool:=B3 (W (q+1))
def C8W (F:Nat) (B3:Int→Option Bool) (p:D5) (s:C3) (person zone q:Int):Option Bool:=(P3 s.squibs q).bind fun e=>if e=2 then(C8s F B3 q)else((C9s F p zone q).bind fun rv=>if rv=true then((C9z F p s person q).bind fun rv2=>if rv2=true then(C8s F B3 q)else(some false))else(C8s F B3 q))
def C6y (F:Nat) (p:D5) (s:C3) (person zone:Int) (K:Int→Option Bool):Nat→Int→Option Bool
 | 0,_=>none
 | n+1,q=>if q<(p.squibs.length:Int)then(if 0≤zone then(C8W F (C6y F p s person zone K n) p s person zone q)else(K q))else(K q)
def C8j (F:Nat) (p:D5) (s:C3) (person zone:Int):Option Bool:=C6y F p s person zone (fun q=>some true) F 0
theorem C8D {F p s person zone r} (h:C8j F p s person zone=some r):PC Tryz.prog 226 [D5.d p,C3.d s,vI person,vI zone] (vB r):=by
 rw[C8j]at h
 refine oW Tryz.func226 ?_
 refine gY 3 R (B8 (gY 1 R (E3 ?_)))
 obtain⟨K3,hK3,h⟩:∃ K,K=_∧C6y F p s person zone K F 0=some r:=⟨_,rfl,h⟩
 refine lW (fun m st=>∃ (q:Int),C6y F p s person zone K3 m q=some r∧st=⟨[(2,dI person),(3,dI zone),(4,rf 0 7),(5,rf 1 6),(8,dB false),(9,dI q)],[bx 7 (.d (D5.d p)),bx 6 (.d (C3.d s))]⟩) ⟨0,h,R⟩ (.prn [2,3,4,5,8,9] R) ?_
 clear h
 rintro m3 st ⟨q,h,rfl⟩
 cases m3 with
 | zero=>cases(show(none:Option Bool)=some r from h)
 | succ m3 =>
 rw[C6y]at h
 refine B8 ?_
 refine W5 (fun zz:Unit=>C8W F (C6y F p s person zone K3 m3) p s person zone q=some r) (fun zz:Unit=>⟨[(2,dI person),(3,dI zone),(4,rf 0 7),(5,rf 1 6),(8,dB false),(9,dI q)],[bx 7 (.d (D5.d p)),bx 6 (.d (C3.d s))]⟩) ?_ ?_
 ·clear h
  rintro⟨⟩ h
  rw[C8W]at h
  refine B8 ?_
  refine W5 (fun zz:Unit=>C8s F (C6y F p s person zone K3 m3) q=some r) (fun zz:Unit=>⟨[(2,dI person),(3,dI zone),(4,rf 0 7),(5,rf 1 6),(8,dB false),(9,dI q)],[bx 7 (.d (D5.d p)),bx 6 (.d (C3.d s))]⟩) ?_ ?_
  ·clear h
   rintro⟨⟩ h
   rw[C8s]at h
   refine hN 3 R ?_
   exact bk ⟨(W (q+1)),h,R⟩ (.prn [2,3,4,5,8,9] R)
  refine E3 (gU 3 R ?_)
  obtain⟨e,ie,h⟩:=H1 h
  refine yE ie R R ?_
  refine V5 R R R R (nJ h ?_) (tJ h ?_)
  ·intro h
   refine rU 4 R ?_
   obtain⟨rv,k,h⟩:=H1 h
   refine M6 (C9L k) eK R R R R (tI h ?_) (fI h ?_)
   ·intro c4 h
    refine rU 6 R ?_
    obtain⟨rv2,k2,h⟩:=H1 h
    refine M6 (D1f k2) eK R R R R (tI h ?_) (fI h ?_)
    ·intro c5 h
     refine eU 2 R (zF (D3 (A6 ?_)))
     exact .inl ⟨(),h,.prn [2,3,4,5,8,9] R⟩
    intro c5 h
    refine eU 2 R (C0 R (gY 1 R (C9 ?_)))
    cases h
    exact f1 8 R
   intro c4 h
   refine eU 9 R (zF (D3 (A6 ?_)))
   exact .inl ⟨(),h,.prn [2,3,4,5,8,9] R⟩
  intro h
  refine eU 14 R (zF (D3 (A6 ?_)))
  exact .inl ⟨(),h,.prn [2,3,4,5,8,9] R⟩
 refine gU 3 R (I7 tb R ?_)
 refine Q4 R R R R (tJ h ?_) (lJ h ?_)
 ·intro h
  refine rU 2 R ?_
  refine A7I R R R R (tJ h ?_) (mJ h ?_)
  ·intro h
   refine eU 1 R (zT (A6 ?_))
   exact .inl ⟨(),h,.prn [2,3,4,5,8,9] R⟩
  intro h
  refine eU 1 R (C1 R (N5 (E4 (E4 ?_))))
  subst hK3
  refine gY 1 R (C9 ?_)
  cases h
  exact f1 8 R
 intro h
 refine eU 4 R (C1 R (N5 (E4 (E4 ?_))))
 subst hK3
 refine gY 1 R (C9 ?_)
 cases h
 exact f1 8 R
def C7x (F:Nat) (s:C3) (e:D1) (K:(List Int)→Int→Option (List Int)):Nat→(List Int)→Int→Option (List Int)
 | 0,_,_=>none
 | n+1,out,i=>if i<(e.keys.length:Int)then((P3 e.keys i).bind fun e2=>(P3 s.holder e2).bind fun e3=>if e3=(-1)then(C7x F s e K n out (W (i+1)))else((A8i out [e2]).bind fun q=>C7x F s e K n q (W (i+1))))else(K out i)
def C9t (F:Nat) (p:D5) (s:C3) (squib:Int):Option (List Int):=(P3 p.squibs squib).bind fun e=>C7x F s e (fun out i=>some out) F ([]:List Int) 0
theorem C91 {F p s squib r} (h:C9t F p s squib=some r):SCR Tryz.prog 227 (List.map T.d [D5.d p,C3.d s,vI squib]) [] (.row 0 1 0 (r).length) (List.map some [(B7 r)]):=by
 rw[C9t]at h
 refine oW Tryz.func227 ?_
 refine gY 3 R (gY 1 R (gU 3 R ?_))
 obtain⟨e,ie,h⟩:=H1 h
 refine xE ie R (rU 1 R (lE ie R (eU 1 R (B8 (gY 1 R (E3 ?_))))))
 refine SW.own (ts':=[(4,rf 1 6),(6,.d (.v (.slice none 0 0))),(7,.row 2 1 0 (([]:List Int)).length),(8,.d (aI e.keys)),(9,dI 0)]) (L':=[bx 7 (.d (D5.d p)),bx 6 (.d (C3.d s))]) 1 R R (.cons (.same _) (.cons (.same _) (.cons .nil (.cons (.same _) (.cons (.same _) .nil))))) (.same (.same .nil)) ?_
 simp only[List.cons_append,List.nil_append]
 obtain⟨K2,hK2,h⟩:∃ K,K=_∧C7x F s e K F ([]:List Int) 0=some r:=⟨_,rfl,h⟩
 refine lW (fun m st=>∃ (out:(List Int)) (i:Int),C7x F s e K2 m out i=some r∧st=⟨[(4,rf 0 6),(6,.d (.v (.slice none 0 0))),(7,.row 1 1 0 (out).length),(8,.d (aI e.keys)),(9,dI i)],[bx 6 (.d (C3.d s)),B0u out]⟩) ⟨([]:List Int),0,h,R⟩ (.vw (κ:=[1,2]) (vK (.cons R R C23) R)) ?_
 clear h
 rintro m2 st ⟨out,i,h,rfl⟩
 cases m2 with
 | zero=>cases(show(none:Option (List Int))=some r from h)
 | succ m2 =>
 rw[C7x]at h
 refine B8 (gU 2 R (I7 tb R ?_))
 refine Q4 R R R R (tJ h ?_) (lJ h ?_)
 ·intro h
  refine Y9 (zT (B8 (E3 (B8 (T1 kR (rU 4 R ?_))))))
  obtain⟨e2,ie2,h⟩:=H1 h
  refine yE ie2 R R ?_
  obtain⟨e3,ie3,h⟩:=H1 h
  refine yE ie3 R R ?_
  refine V5 R R R R (nJ h ?_) (tJ h ?_)
  ·intro h
   refine I0 kR (C0 R (hU 3 R (yE ie2 R R (P7 tb R R R R R R R R R R R R R ?_))))
   obtain⟨q,iq,h⟩:=H1 h
   refine B2k (g:=vI) (w:=out) (v:=[e2]) ([bx 6 (.d (C3.d s)),none,B0u [e2]]) tb R R R R R R R R R R R iq R R R R R (eU 1 R (hN 3 R ?_))
   exact bk ⟨q,(W (i+1)),h,R⟩ (.vw (κ:=[0,3]) (vK (.cons R R C23) R))
  intro h
  refine I0 kR (zF (hN 3 R ?_))
  exact bk ⟨out,(W (i+1)),h,R⟩ (.prn [4,6,7,8,9] R)
 intro h
 refine Y9 (C1 R (N5 (E4 (E4 ?_))))
 subst hK2
 refine gY 2 R (C9 ?_)
 cases h
 exact f2 [1] C23 R (.cons (.tmp 6) .nil) R
theorem D2C {F p s squib r} (h:C9t F p s squib=some r):PC Tryz.prog 227 [D5.d p,C3.d s,vI squib] (aI r):=(C91 h).toPC (.row rfl rfl)
def C8E (F:Nat) (B3:Int→Option Bool) (a:Int):Option Bool:=B3 (W (a+1))
def C8F (F:Nat) (B6:Int→Option Bool) (x:Int):Option Bool:=B6 (W (x+1))
def C5Z (F:Nat):Option Bool:=some false
def C8G (F:Nat) (B9:Int→Option Bool) (x2:Int):Option Bool:=B9 (W (x2+1))
def C6z (F:Nat) (t:D5) (o:C3) (K:Int→Option Bool):Nat→Int→Option Bool
 | 0,_=>none
 | n+1,x2=>if x2<(o.squibs.length:Int)then((P3 o.squibs x2).bind fun e5=>if e5=1 then((C9t F t o x2).bind fun rv4=>if 0<(rv4.length:Int)then(C5Z F)else(if o.siren<0 then(C5Z F)else(if o.storm=true then(C5Z F)else(C8G F (C6z F t o K n) x2))))else(C8G F (C6z F t o K n) x2))else(K x2)
def C61 (F:Nat) (t:D5) (o:C3) (K:Int→Option Bool):Nat→Int→Option Bool
 | 0,_=>none
 | n+1,x=>if x<(o.zones.length:Int)then((P3 o.zones x).bind fun e2=>if 0≤e2 then((P3 t.people x).bind fun e3=>(P3 t.zones e2).bind fun e4=>if e3.grade<e4.grade then(C5Z F)else((C8j F t o x e2).bind fun rv2=>if rv2=true then(C8F F (C61 F t o K n) x)else(C5Z F)))else((C8j F t o x e2).bind fun rv3=>if rv3=true then(C8F F (C61 F t o K n) x)else(C5Z F)))else(K x)
def C69 (F:Nat) (t:D5) (o:C3) (K:Int→Option Bool):Nat→Int→Option Bool
 | 0,_=>none
 | n+1,a=>if a<(t.zones.length:Int)then((C82 F o a).bind fun rv=>(P3 t.zones a).bind fun e=>if e.room<rv then(some false)else(if rv=1 then(if e.pair=true then(some false)else(C8E F (C69 F t o K n) a))else(C8E F (C69 F t o K n) a)))else(K a)
def C92 (F:Nat) (t:D5) (o:C3):Option Bool:=C69 F t o (fun a=>C61 F t o (fun x=>C6z F t o (fun x2=>some true) F 0) F 0) F 0
theorem D1h {F t o r} (h:C92 F t o=some r):PC Tryz.prog 207 [D5.d t,C3.d o] (vB r):=by
 rw[C92]at h
 refine oW Tryz.func207 ?_
 refine gY 3 R (B8 (gY 1 R (E3 ?_)))
 obtain⟨K3,hK3,h⟩:∃ K,K=_∧C69 F t o K F 0=some r:=⟨_,rfl,h⟩
 refine lW (fun m st=>∃ (a:Int),C69 F t o K3 m a=some r∧st=⟨[(2,rf 0 7),(3,rf 1 6),(4,dB false),(5,dI a)],[bx 7 (.d (D5.d t)),bx 6 (.d (C3.d o))]⟩) ⟨0,h,R⟩ (.prn [2,3,4,5] R) ?_
 clear h
 rintro m3 st ⟨a,h,rfl⟩
 cases m3 with
 | zero=>cases(show(none:Option Bool)=some r from h)
 | succ m3 =>
 rw[C69]at h
 refine B8 (gU 3 R (I7 tb R ?_))
 refine Q4 R R R R (tJ h ?_) (lJ h ?_)
 ·intro h
  refine Y9 (zT (B8 ?_))
  refine W5 (fun zz:Unit=>C8E F (C69 F t o K3 m3) a=some r) (fun zz:Unit=>⟨[(2,rf 0 7),(3,rf 1 6),(4,dB false),(5,dI a)],[bx 7 (.d (D5.d t)),bx 6 (.d (C3.d o))]⟩) ?_ ?_
  ·clear h
   rintro⟨⟩ h
   rw[C8E]at h
   refine hN 3 R ?_
   exact bk ⟨(W (a+1)),h,R⟩ (.prn [2,3,4,5] R)
  refine E3 (gU 2 R ?_)
  obtain⟨rv,k,h⟩:=H1 h
  refine J5 (C86 k) eK R R R R (eU 1 R (gU 4 R ?_))
  obtain⟨e,ie,h⟩:=H1 h
  refine xE ie R (rU 1 R (lE ie R ?_))
  refine A4l R R R R (tJ h ?_) (lJ h ?_)
  ·intro h
   refine eU 12 R (C0 R (gY 1 R (C9 ?_)))
   cases h
   exact f1 4 R
  intro h
  refine rU 2 R ?_
  refine Z3 R R R R (tJ h ?_) (nJ h ?_)
  ·intro h
   refine rU 4 R (xE ie R (rU 1 R (lE ie R ?_)))
   refine X8 (tI h ?_) (fI h ?_)
   ·intro c4 h
    refine eU 2 R (C0 R (gY 1 R (C9 ?_)))
    cases h
    exact f1 4 R
   intro c4 h
   refine eU 2 R (zF (D3 (A6 ?_)))
   exact .inl ⟨(),h,.prn [2,3,4,5] R⟩
  intro h
  refine eU 9 R (zF (D3 (A6 ?_)))
  exact .inl ⟨(),h,.prn [2,3,4,5] R⟩
 intro h
 refine Y9 (C1 R (N5 (E4 (E4 ?_))))
 subst hK3
 refine B8 (gY 1 R (E3 ?_))
 obtain⟨K6,hK6,h⟩:∃ K,K=_∧C61 F t o K F 0=some r:=⟨_,rfl,h⟩
 refine lW (fun m st=>∃ (x:Int),C61 F t o K6 m x=some r∧st=⟨[(2,rf 0 7),(3,rf 1 6),(4,dB false),(7,dI x)],[bx 7 (.d (D5.d t)),bx 6 (.d (C3.d o))]⟩) ⟨0,h,R⟩ (.prn [2,3,4,7] R) ?_
 clear h
 rintro m6 st ⟨x,h,rfl⟩
 cases m6 with
 | zero=>cases(show(none:Option Bool)=some r from h)
 | succ m6 =>
 rw[C61]at h
 refine B8 (gU 3 R (I7 tb R ?_))
 refine Q4 R R R R (tJ h ?_) (lJ h ?_)
 ·intro h
  refine Y9 (zT (B8 ?_))
  refine W5 (fun zz:Unit=>C8F F (C61 F t o K6 m6) x=some r) (fun zz:Unit=>⟨[(2,rf 0 7),(3,rf 1 6),(4,dB false),(7,dI x)],[bx 7 (.d (D5.d t)),bx 6 (.d (C3.d o))]⟩) ?_ ?_
  ·clear h
   rintro⟨⟩ h
   rw[C8F]at h
   refine hN 3 R ?_
   exact bk ⟨(W (x+1)),h,R⟩ (.prn [2,3,4,7] R)
  refine E3 (B8 ?_)
  refine W5 (fun zz:Unit=>C5Z F=some r) (fun zz:Unit=>⟨[(2,rf 0 7),(3,rf 1 6),(4,dB false),(7,dI x),(82,dB true)],[bx 7 (.d (D5.d t)),bx 6 (.d (C3.d o))]⟩) ?_ ?_
  ·clear h
   rintro⟨⟩ h
   rw[C5Z]at h
   refine C0 R (gY 1 R (C9 ?_))
   cases h
   exact f1 4 R
  refine T1 kR (rU 3 R ?_)
  obtain⟨e2,ie2,h⟩:=H1 h
  refine yE ie2 R R ?_
  refine A7I R R R R (tJ h ?_) (mJ h ?_)
  ·intro h
   refine rU 4 R ?_
   obtain⟨e3,ie3,h⟩:=H1 h
   refine xE ie3 R (rU 1 R (lE ie3 R (rU 5 R (yE ie2 R R ?_))))
   obtain⟨e4,ie4,h⟩:=H1 h
   refine xE ie4 R (rU 1 R (lE ie4 R ?_))
   refine Q4 R R R R (tJ h ?_) (lJ h ?_)
   ·intro h
    refine rU 13 R (I0 kR (A6 ?_))
    exact .inl ⟨(),h,.prn [2,3,4,7,82] R⟩
   intro h
   refine rU 8 R (yE ie2 R R ?_)
   obtain⟨rv2,k2,h⟩:=H1 h
   refine M6 (C8D k2) eK R R R R (tI h ?_) (fI h ?_)
   ·intro c8 h
    refine rU 2 R (I0 kR (A6 (.inr (zF (D3 (A6 ?_))))))
    exact .inl ⟨(),h,.prn [2,3,4,7] R⟩
   intro c8 h
   refine rU 2 R (I0 kR (A6 ?_))
   exact .inl ⟨(),h,.prn [2,3,4,7,82] R⟩
  intro h
  refine rU 26 R (yE ie2 R R ?_)
  obtain⟨rv3,k3,h⟩:=H1 h
  refine M6 (C8D k3) eK R R R R (tI h ?_) (fI h ?_)
  ·intro c9 h
   refine rU 2 R (I0 kR (A6 (.inr (zF (D3 (A6 ?_))))))
   exact .inl ⟨(),h,.prn [2,3,4,7] R⟩
  intro c9 h
  refine rU 2 R (I0 kR (A6 ?_))
  exact .inl ⟨(),h,.prn [2,3,4,7,82] R⟩
 intro h
 refine Y9 (C1 R (N5 (E4 (E4 ?_))))
 subst hK6
 refine B8 (gY 1 R (E3 ?_))
 obtain⟨K9,hK9,h⟩:∃ K,K=_∧C6z F t o K F 0=some r:=⟨_,rfl,h⟩
 refine lW (fun m st=>∃ (x2:Int),C6z F t o K9 m x2=some r∧st=⟨[(2,rf 0 7),(3,rf 1 6),(4,dB false),(8,dI x2)],[bx 7 (.d (D5.d t)),bx 6 (.d (C3.d o))]⟩) ⟨0,h,R⟩ (.prn [2,3,4,8] R) ?_
 clear h
 rintro m9 st ⟨x2,h,rfl⟩
 cases m9 with
 | zero=>cases(show(none:Option Bool)=some r from h)
 | succ m9 =>
 rw[C6z]at h
 refine B8 (gU 3 R (I7 tb R ?_))
 refine Q4 R R R R (tJ h ?_) (lJ h ?_)
 ·intro h
  refine Y9 (zT (B8 ?_))
  refine W5 (fun zz:Unit=>C8G F (C6z F t o K9 m9) x2=some r) (fun zz:Unit=>⟨[(2,rf 0 7),(3,rf 1 6),(4,dB false),(8,dI x2)],[bx 7 (.d (D5.d t)),bx 6 (.d (C3.d o))]⟩) ?_ ?_
  ·clear h
   rintro⟨⟩ h
   rw[C8G]at h
   refine hN 3 R ?_
   exact bk ⟨(W (x2+1)),h,R⟩ (.prn [2,3,4,8] R)
  refine E3 (B8 ?_)
  refine W5 (fun zz:Unit=>C5Z F=some r) (fun zz:Unit=>⟨[(2,rf 0 7),(3,rf 1 6),(4,dB false),(8,dI x2),(112,dB true)],[bx 7 (.d (D5.d t)),bx 6 (.d (C3.d o))]⟩) ?_ ?_
  ·clear h
   rintro⟨⟩ h
   rw[C5Z]at h
   refine C0 R (gY 1 R (C9 ?_))
   cases h
   exact f1 4 R
  refine hU 3 R ?_
  obtain⟨e5,ie5,h⟩:=H1 h
  refine yE ie5 R R ?_
  refine Z3 R R R R (tJ h ?_) (nJ h ?_)
  ·intro h
   refine rU 4 R ?_
   obtain⟨rv4,k4,h⟩:=H1 h
   refine A2X (C91 k4) eK R R R ((.row .nil)) R R R (A8F tb R R R R R ?_)
   refine A4l R R R R (tJ h ?_) (lJ h ?_)
   ·intro h
    refine nU 10 R ?_
    exact .inl ⟨(),h,.vw (κ:=[0,1]) (vK (.cons R R (.cons R R .nil)) R)⟩
   intro h
   refine rU 3 R ?_
   refine Q4 R R R R (tJ h ?_) (lJ h ?_)
   ·intro h
    refine nU 6 R ?_
    exact .inl ⟨(),h,.vw (κ:=[0,1]) (vK (.cons R R (.cons R R .nil)) R)⟩
   intro h
   refine rU 4 R ?_
   refine X8 (tI h ?_) (fI h ?_)
   ·intro c14 h
    refine nU 2 R ?_
    exact .inl ⟨(),h,.vw (κ:=[0,1]) (vK (.cons R R (.cons R R .nil)) R)⟩
   intro c14 h
   refine nU 2 R (.inr (zF (D3 (A6 ?_))))
   exact .inl ⟨(),h,.vw (κ:=[0,1]) (vK (.cons R R (.cons R R .nil)) R)⟩
  intro h
  refine nU 17 R (.inr (zF (D3 (A6 ?_))))
  exact .inl ⟨(),h,.vw (κ:=[0,1]) (vK (.cons R R (.cons R R .nil)) R)⟩
 intro h
 refine Y9 (C1 R (N5 (E4 (E4 ?_))))
 subst hK9
 refine gY 1 R (C9 ?_)
 cases h
 exact f1 4 R
def C8P (F:Nat) (nv many:Int) (K:(List Int)→Int→Option (List Int)):Nat→(List Int)→Int→Option (List Int)
 | 0,_,_=>none
 | n+1,out,i=>if i<many then((A8i out [nv]).bind fun q=>C8P F nv many K n q (W (i+1)))else(K out i)
def C9p (F:Nat) (nv many:Int):Option (List Int):=C8P F nv many (fun out i=>some out) F ([]:List Int) 0
theorem C8V {F nv many r} (h:C9p F nv many=some r):SCR Tryz.prog 159 (List.map T.d [vI nv,vI many]) [] (.row 0 1 0 (r).length) (List.map some [(B7 r)]):=by
 rw[C9p]at h
 refine oW Tryz.func159 ?_
 refine gY 1 R (gY 1 R (B8 (gY 1 R (E3 ?_))))
 refine SW.own (ts':=[(0,dI nv),(1,dI many),(4,.d (.v (.slice none 0 0))),(5,.row 0 1 0 (([]:List Int)).length),(6,dI 0)]) (L':=[]) 1 R R (.cons (.same _) (.cons (.same _) (.cons (.same _) (.cons .nil (.cons (.same _) .nil))))) .nil ?_
 simp only[List.cons_append,List.nil_append]
 obtain⟨K2,hK2,h⟩:∃ K,K=_∧C8P F nv many K F ([]:List Int) 0=some r:=⟨_,rfl,h⟩
 refine lW (fun m st=>∃ (out:(List Int)) (i:Int),C8P F nv many K2 m out i=some r∧st=⟨[(0,dI nv),(1,dI many),(4,.d (.v (.slice none 0 0))),(5,.row 0 1 0 (out).length),(6,dI i)],[B0u out]⟩) ⟨([]:List Int),0,h,R⟩ (.prn [0,1,4,5,6] R) ?_
 clear h
 rintro m2 st ⟨out,i,h,rfl⟩
 cases m2 with
 | zero=>cases(show(none:Option (List Int))=some r from h)
 | succ m2 =>
 rw[C8P]at h
 refine B8 (gU 2 R ?_)
 refine Q4 R R R R (tJ h ?_) (lJ h ?_)
 ·intro h
  refine Y9 (zT (B8 (E3 (hU 2 R (P7 tb R R R R R R R R R R R R R ?_)))))
  obtain⟨q,iq,h⟩:=H1 h
  refine B2k (g:=vI) (w:=out) (v:=[nv]) ([none,B0u [nv]]) tb R R R R R R R R R R R iq R R R R R (eU 1 R (hN 3 R ?_))
  exact bk ⟨q,(W (i+1)),h,R⟩ (.vw (κ:=[2]) (vK C23 R))
 intro h
 refine Y9 (C1 R (N5 (E4 (E4 ?_))))
 subst hK2
 refine gY 2 R (C9 ?_)
 cases h
 exact f2 [0] C23 R (.cons (.tmp 4) .nil) R
theorem D2B {F nv many r} (h:C9p F nv many=some r):PC Tryz.prog 159 [vI nv,vI many] (aI r):=(C8V h).toPC (.row rfl rfl)
def C8M (F:Nat) (p:D5):Option (C3 × Int):=(C9l F p).bind fun rv=>if rv=0 then((C9p F (-1) (p.people.length:Int)).bind fun rv2=>(C9p F (-1) (p.keys.length:Int)).bind fun rv3=>(C9p F 0 (p.squibs.length:Int)).bind fun rv4=>some ((C3.mk 0 rv2 rv3 rv4 (-1) false),0))else(some ((C3.mk 0 ([]:List Int) ([]:List Int) ([]:List Int) 0 false),rv))
theorem C9Q {F p r} (h:C8M F p=some r):SCR Tryz.prog 82 (List.map T.d [D5.d p]) [] (.tup [J2 r.1 0 1 2,dI r.2]) (List.map some [(B7 r.1.zones),(B7 r.1.holder),(B7 r.1.squibs)]):=by
 rw[C8M]at h
 refine oW Tryz.func82 ?_
 refine gY 3 R (gU 1 R ?_)
 obtain⟨rv,k,h⟩:=H1 h
 refine J5 (D0j k) eK R R R R (eU 1 R (B8 (gU 1 R ?_)))
 refine V5 R R R R (nJ h ?_) (tJ h ?_)
 ·intro h
  refine Y9 (C0 R (qG (S1 (v := .d (.agg [vI 0,.v (.slice none 0 0),.v (.slice none 0 0),.v (.slice none 0 0),vI 0,vB false])) tb R R (List.cons_ne_nil _ _) R R R R R R (eU 3 R ?_))))
  refine SW.own (ts':=[(2,rf 1 6),(3,dI rv)]) (L':=[bx 7 (.d (D5.d p)),bx 6 (.agg [dI 0,.row 2 1 0 (([]:List Int)).length,.d (.v (.slice none 0 0)),.d (.v (.slice none 0 0)),dI 0,dB false])]) 1 R R (.cons (.same _) (.cons (.same _) .nil)) (.same (.cons R (.cons (.aggDL (.cons (.same _) (.cons .nil (.cons (.same _) (.cons (.same _) (.cons (.same _) (.cons (.same _) .nil))))))) .nil) .nil)) ?_
  simp only[List.cons_append,List.nil_append]
  refine SW.own (ts':=[(2,rf 1 6),(3,dI rv)]) (L':=[bx 7 (.d (D5.d p)),bx 6 (.agg [dI 0,.row 2 1 0 (([]:List Int)).length,.row 3 1 0 (([]:List Int)).length,.d (.v (.slice none 0 0)),dI 0,dB false]),B0u ([]:List Int)]) 1 R R (.cons (.same _) (.cons (.same _) .nil)) (.same (.cons R (.cons (.aggL (.cons (.same _) (.cons (.same _) (.cons .nil (.cons (.same _) (.cons (.same _) (.cons (.same _) .nil))))))) .nil) (.same .nil))) ?_
  simp only[List.cons_append,List.nil_append]
  refine SW.own (ts':=[(2,rf 1 6),(3,dI rv)]) (L':=[bx 7 (.d (D5.d p)),bx 6 (J2 (C3.mk 0 ([]:List Int) ([]:List Int) ([]:List Int) 0 false) 2 3 4),B0u ([]:List Int),B0u ([]:List Int)]) 1 R R (.cons (.same _) (.cons (.same _) .nil)) (.same (.cons R (.cons (.aggL (.cons (.same _) (.cons (.same _) (.cons (.same _) (.cons .nil (.cons (.same _) (.cons (.same _) .nil))))))) .nil) (.same (.same .nil)))) ?_
  simp only[List.cons_append,List.nil_append]
  refine C9 ?_
  cases h
  exact f2 [2,3,4] C1o R (.cons (rc tb R) (.cons (.tmp 3) .nil)) R
 intro h
 refine Y9 (zF (B8 (T1 kR (rU 2 R (I7 tb R ?_)))))
 obtain⟨rv2,k2,h⟩:=H1 h
 refine A2X (C8V k2) eK R R R ((.row .nil)) R R R (rU 2 R (I7 tb R ?_))
 obtain⟨rv3,k3,h⟩:=H1 h
 refine A2X (C8V k3) eK R R R ((.row .nil)) R R R (rU 2 R (I7 tb R ?_))
 obtain⟨rv4,k4,h⟩:=H1 h
 refine A2X (C8V k4) eK R R R ((.row .nil)) R R R (S1 (v:=J2 (C3.mk 0 rv2 rv3 rv4 (-1) false) 2 3 4) tb R R (List.cons_ne_nil _ _) R R R R R R (rU 2 R (I0 kR (C9 ?_))))
 cases h
 exact f2 [2,3,4] C1o R (.cons (rc tb R) (.cons (.tmp 3) .nil)) R
theorem D1b {F p r} (h:C8M F p=some r):PC Tryz.prog 82 [D5.d p] (.tup [C3.d r.1,vI r.2]):=(C9Q h).toPC (.tupL (.cons (.aggL (.cons (.d _) (.cons (.row rfl rfl) (.cons (.row rfl rfl) (.cons (.row rfl rfl) (.cons (.d _) (.cons (.d _) .nil))))))) (.cons (.d _) .nil)))
def C6n (F:Nat) (e:Int):Option Int:=some e
def C8i (F:Nat) (p:D5) (s:C3):Option Int:=(C9l F p).bind fun rv=>if rv=0 then((C9i F p s).bind fun rv2=>if rv2=true then((C92 F p s).bind fun rv3=>if rv3=true then(C6n F rv)else(C6n F 6))else(C6n F 6))else(C6n F rv)
theorem C9Y {F p s r} (h:C8i F p s=some r):PC Tryz.prog 164 [D5.d p,C3.d s] (vI r):=by
 rw[C8i]at h
 refine oW Tryz.func164 ?_
 refine gY 3 R (gU 1 R ?_)
 obtain⟨rv,k,h⟩:=H1 h
 refine J5 (D0j k) eK R R R R (eU 1 R (B8 ?_))
 refine W5 (fun zz:Int=>C6n F zz=some r) (fun zz:Int=>⟨[(4,dI 0),(5,dI zz)],[]⟩) ?_ ?_
 ·clear h
  rintro e h
  rw[C6n]at h
  refine gY 2 R (C9 ?_)
  cases h
  exact f1 4 R
 refine gU 1 R ?_
 refine Z3 R R R R (tJ h ?_) (nJ h ?_)
 ·intro h
  refine rU 3 R ?_
  obtain⟨rv2,k2,h⟩:=H1 h
  refine M6 (D0S k2) eK R R R R (tI h ?_) (fI h ?_)
  ·intro c2 h
   refine rU 4 R ?_
   obtain⟨rv3,k3,h⟩:=H1 h
   refine M6 (D1h k3) eK R R R R (tI h ?_) (fI h ?_)
   ·intro c3 h
    refine eU 3 R (zF (A6 ?_))
    exact .inl ⟨rv,h,.vw (κ:=[]) (v0 R)⟩
   intro c3 h
   refine eU 3 R (C0 R (hN 1 R ?_))
   exact .inl ⟨6,h,.vw (κ:=[]) (v0 R)⟩
  intro c2 h
  refine eU 8 R (C0 R (hN 1 R ?_))
  exact .inl ⟨6,h,.vw (κ:=[]) (v0 R)⟩
 intro h
 refine eU 12 R (zF (A6 ?_))
 exact .inl ⟨rv,h,.vw (κ:=[]) (v0 R)⟩
def C9f (F:Nat) (t:D5) (o:D2):Option Int:=(C6R F o.with_ 0 (W ((t.people.length:Int)-1))).bind fun rv8=>if rv8=true then(if o.with_=o.who then(some 2)else(some 0))else(some 4)
def C9g (F:Nat) (t:D5) (o:D2):Option Int:=if o.kind=1 then(if o.with_=(-1)then(some 0)else(C9f F t o))else(C9f F t o)
def C8d (F:Nat) (t:D5) (o:D2):Option Int:=if o.kind=1 then(C9g F t o)else(if o.kind=4 then(C9g F t o)else(if o.with_=(-1)then(some 0)else(some 2)))
def D1B (F:Nat) (t:D5) (o:D2):Option Int:=(C6R F o.what 0 (W ((t.squibs.length:Int)-1))).bind fun rv6=>if rv6=true then(C8d F t o)else(some 4)
def C8K (F:Nat) (t:D5) (o:D2):Option Int:=(C6R F o.what 0 (W ((t.keys.length:Int)-1))).bind fun rv5=>if rv5=true then(C8d F t o)else(some 4)
def C8L (F:Nat) (t:D5) (o:D2):Option Int:=(C6R F o.what 0 (W ((t.squibs.length:Int)-1))).bind fun rv5=>if rv5=true then(C8d F t o)else(some 4)
def D0y (F:Nat) (t:D5) (o:D2):Option Int:=(C6R F o.at_ 0 100000).bind fun rv=>if rv=true then((C6R F o.kind 1 9).bind fun rv2=>if rv2=true then((C6R F o.who 0 (W ((t.people.length:Int)-1))).bind fun rv3=>if rv3=true then(if o.kind=1 then(if o.what=(-1)then(C8d F t o)else((C87 F t o.what).bind fun rv4=>if rv4=true then(C8d F t o)else(some 4)))else(if o.kind=2 then(C8K F t o)else(if o.kind=3 then(C8K F t o)else(if o.kind=4 then(C8K F t o)else(if o.kind=5 then(C8L F t o)else(if o.kind=6 then(C8L F t o)else(if o.kind=7 then(C8L F t o)else((C6R F o.what 0 1).bind fun rv5=>if rv5=true then(C8d F t o)else(some 2)))))))))else(some 4))else(some 2))else(some 7)
theorem D1D {F t o r} (h:D0y F t o=some r):PC Tryz.prog 165 [D5.d t,D2.d o] (vI r):=by
 rw[D0y]at h
 refine oW Tryz.func165 ?_
 refine gY 3 R (B8 (gU 2 R ?_))
 obtain⟨rv,k,h⟩:=H1 h
 refine M6 (C4z k) eK R R R R (tI h ?_) (fI h ?_)
 ·intro c h
  refine eU 1 R (zF (B8 (gU 2 R ?_)))
  obtain⟨rv2,k2,h⟩:=H1 h
  refine M6 (C4z k2) eK R R R R (tI h ?_) (fI h ?_)
  ·intro c2 h
   refine eU 1 R (zF (B8 (gU 4 R (I7 tb R (rU 1 R ?_)))))
   obtain⟨rv3,k3,h⟩:=H1 h
   refine M6 (C4z k3) eK R R R R (tI h ?_) (fI h ?_)
   ·intro c3 h
    refine eU 1 R (zF (B8 ?_))
    refine W5 (fun zz:Unit=>C8d F t o=some r) (fun zz:Unit=>⟨[(2,rf 0 7),(3,rf 1 5),(4,dI 0)],[bx 7 (.d (D5.d t)),bx 5 (.d (D2.d o))]⟩) ?_ ?_
    ·clear h
     rintro⟨⟩ h
     rw[C8d]at h
     refine B8 ?_
     refine W5 (fun zz:Unit=>C9g F t o=some r) (fun zz:Unit=>⟨[(2,rf 0 7),(3,rf 1 5),(4,dI 0)],[bx 7 (.d (D5.d t)),bx 5 (.d (D2.d o))]⟩) ?_ ?_
     ·clear h
      rintro⟨⟩ h
      rw[C9g]at h
      refine B8 ?_
      refine W5 (fun zz:Unit=>C9f F t o=some r) (fun zz:Unit=>⟨[(2,rf 0 7),(3,rf 1 5),(4,dI 0)],[bx 7 (.d (D5.d t)),bx 5 (.d (D2.d o))]⟩) ?_ ?_
      ·clear h
       rintro⟨⟩ h
       rw[C9f]at h
       refine B8 (gU 4 R (I7 tb R (rU 1 R ?_)))
       obtain⟨rv8,k8,h⟩:=H1 h
       refine M6 (C4z k8) eK R R R R (tI h ?_) (fI h ?_)
       ·intro c21 h
        refine eU 1 R (zF (B8 (gU 4 R ?_)))
        refine Z3 R R R R (tJ h ?_) (nJ h ?_)
        ·intro h
         refine Y9 (C0 R (gY 1 R (C9 ?_)))
         cases h
         exact f1 4 R
        intro h
        refine Y9 (zF (gY 1 R (C9 ?_)))
        cases h
        exact f1 4 R
       intro c21 h
       refine eU 1 R (C0 R (gY 1 R (C9 ?_)))
       cases h
       exact f1 4 R
      refine gU 2 R ?_
      refine Z3 R R R R (tJ h ?_) (nJ h ?_)
      ·intro h
       refine rU 3 R ?_
       refine Z3 R R R R (tJ h ?_) (nJ h ?_)
       ·intro h
        refine eU 1 R (C0 R (gY 1 R (C9 ?_)))
        cases h
        exact f1 4 R
       intro h
       refine eU 1 R (zF (A6 ?_))
       exact .inl ⟨(),h,.prn [2,3,4] R⟩
      intro h
      refine eU 5 R (zF (A6 ?_))
      exact .inl ⟨(),h,.prn [2,3,4] R⟩
     refine gU 2 R ?_
     refine V5 R R R R (nJ h ?_) (tJ h ?_)
     ·intro h
      refine rU 3 R ?_
      refine V5 R R R R (nJ h ?_) (tJ h ?_)
      ·intro h
       refine eU 1 R (C0 R (B8 (gU 2 R ?_)))
       refine V5 R R R R (nJ h ?_) (tJ h ?_)
       ·intro h
        refine Y9 (C0 R (gY 1 R (C9 ?_)))
        cases h
        exact f1 4 R
       intro h
       refine Y9 (zF (gY 1 R (C9 ?_)))
       cases h
       exact f1 4 R
      intro h
      refine eU 1 R (zF (A6 ?_))
      exact .inl ⟨(),h,.prn [2,3,4] R⟩
     intro h
     refine eU 5 R (zF (A6 ?_))
     exact .inl ⟨(),h,.prn [2,3,4] R⟩
    refine gY 2 R (E3 (qG ?_))
    refine Z3 R R R R (tJ h ?_) (nJ h ?_)
    ·intro h
     refine eU 1 R (C0 R (gU 2 R ?_))
     refine V5 R R R R (nJ h ?_) (tJ h ?_)
     ·intro h
      refine rU 4 R ?_
      obtain⟨rv4,k4,h⟩:=H1 h
      refine M6 (C8R k4) eK R R R R (tI h ?_) (fI h ?_)
      ·intro c6 h
       refine eU 2 R (zF (D3 (A6 ?_)))
       exact .inl ⟨(),h,.prn [2,3,4] R⟩
      intro c6 h
      refine eU 2 R (C0 R (gY 1 R (C9 ?_)))
      cases h
      exact f1 4 R
     intro h
     refine eU 7 R (zF (D3 (A6 ?_)))
     exact .inl ⟨(),h,.prn [2,3,4] R⟩
    intro h
    refine eU 1 R (C1 R (B8 ?_))
    refine W5 (fun zz:Unit=>C8K F t o=some r) (fun zz:Unit=>⟨[(2,rf 0 7),(3,rf 1 5),(4,dI 0),(22,dI o.kind),(39,dB true)],[bx 7 (.d (D5.d t)),bx 5 (.d (D2.d o))]⟩) ?_ ?_
    ·clear h
     rintro⟨⟩ h
     rw[C8K]at h
     refine C0 R (gU 4 R (I7 tb R (rU 1 R ?_)))
     obtain⟨rv5,k5,h⟩:=H1 h
     refine M6 (C4z k5) eK R R R R (tI h ?_) (fI h ?_)
     ·intro c10 h
      refine eU 1 R (zF (D3 (A6 ?_)))
      exact .inl ⟨(),h,.prn [2,3,4] R⟩
     intro c10 h
     refine eU 1 R (C0 R (gY 1 R (C9 ?_)))
     cases h
     exact f1 4 R
    refine qG ?_
    refine Z3 R R R R (tJ h ?_) (nJ h ?_)
    ·intro h
     refine eU 1 R (zT (A6 ?_))
     exact .inl ⟨(),h,.prn [2,3,4,22,39] R⟩
    intro h
    refine eU 1 R (C1 R (qG ?_))
    refine Z3 R R R R (tJ h ?_) (nJ h ?_)
    ·intro h
     refine eU 1 R (zT (A6 ?_))
     exact .inl ⟨(),h,.prn [2,3,4,22,39] R⟩
    intro h
    refine eU 1 R (C1 R (J1 ?_))
    refine Z3 R R R R (tJ h ?_) (nJ h ?_)
    ·intro h
     refine nU 1 R ?_
     exact .inl ⟨(),h,.prn [2,3,4,22,39] R⟩
    intro h
    refine nU 1 R (.inr (C1 R (B8 ?_)))
    refine W5 (fun zz:Unit=>C8L F t o=some r) (fun zz:Unit=>⟨[(2,rf 0 7),(3,rf 1 5),(4,dI 0),(51,dB true)],[bx 7 (.d (D5.d t)),bx 5 (.d (D2.d o))]⟩) ?_ ?_
    ·clear h
     rintro⟨⟩ h
     rw[C8L]at h
     refine C0 R (gU 4 R (I7 tb R (rU 1 R ?_)))
     obtain⟨rv5,k5,h⟩:=H1 h
     refine M6 (C4z k5) eK R R R R (tI h ?_) (fI h ?_)
     ·intro c13 h
      refine eU 1 R (zF (D3 (A6 ?_)))
      exact .inl ⟨(),h,.prn [2,3,4] R⟩
     intro c13 h
     refine eU 1 R (C0 R (gY 1 R (C9 ?_)))
     cases h
     exact f1 4 R
    refine qG ?_
    refine Z3 R R R R (tJ h ?_) (nJ h ?_)
    ·intro h
     refine eU 1 R (zT (A6 ?_))
     exact .inl ⟨(),h,.prn [2,3,4,51] R⟩
    intro h
    refine eU 1 R (C1 R (qG ?_))
    refine Z3 R R R R (tJ h ?_) (nJ h ?_)
    ·intro h
     refine eU 1 R (zT (A6 ?_))
     exact .inl ⟨(),h,.prn [2,3,4,51] R⟩
    intro h
    refine eU 1 R (C1 R (J1 ?_))
    refine Z3 R R R R (tJ h ?_) (nJ h ?_)
    ·intro h
     refine nU 1 R ?_
     exact .inl ⟨(),h,.prn [2,3,4,51] R⟩
    intro h
    refine nU 1 R (.inr (C1 R (gU 2 R ?_)))
    obtain⟨rv5,k5,h⟩:=H1 h
    refine M6 (C4z k5) eK R R R R (tI h ?_) (fI h ?_)
    ·intro c13 h
     refine eU 1 R (zF (D3 (A6 ?_)))
     exact .inl ⟨(),h,.prn [2,3,4] R⟩
    intro c13 h
    refine eU 1 R (C0 R (gY 1 R (C9 ?_)))
    cases h
    exact f1 4 R
   intro c3 h
   refine eU 1 R (C0 R (gY 1 R (C9 ?_)))
   cases h
   exact f1 4 R
  intro c2 h
  refine eU 1 R (C0 R (gY 1 R (C9 ?_)))
  cases h
  exact f1 4 R
 intro c h
 refine eU 1 R (C0 R (gY 1 R (C9 ?_)))
 cases h
 exact f1 4 R
def C9A (F:Nat) (s:C3):Option C3:=(A8i ([]:List Int) s.zones).bind fun q=>(A8i ([]:List Int) s.holder).bind fun q2=>(A8i ([]:List Int) s.squibs).bind fun q3=>some {s with zones:=q,holder:=q2,squibs:=q3}
theorem D0d {F s r} (h:C9A F s=some r):SCR Tryz.prog 205 (List.map T.d [C3.d s]) [] (J2 r 0 1 2) (List.map some [(B7 r.zones),(B7 r.holder),(B7 r.squibs)]):=by
 rw[C9A]at h
 refine oW Tryz.func205 ?_
 refine gY 2 R (B8 (T1 kR (P7 tb R R R R R R R R R R R R R (rU 2 R ?_))))
 obtain⟨q,iq,h⟩:=H1 h
 refine C3k (g:=vI) (w:=([]:List Int)) (v:=s.zones) ([bx 6 (.d (C3.d s)),bx 6 (.d (.agg [vI 0,.v (.slice none 0 0),.v (.slice none 0 0),.v (.slice none 0 0),vI 0,vB false])),none]) tb R R R R R R R R (by intro _;exact R) iq R R R R R (P7 tb R R R R R R R R R R R R R (rU 2 R ?_))
 obtain⟨q2,iq2,h⟩:=H1 h
 refine C3k (g:=vI) (w:=([]:List Int)) (v:=s.holder) ([bx 6 (.d (C3.d s)),bx 6 (.d (.agg [vI 0,.v (.slice none 0 0),.v (.slice none 0 0),.v (.slice none 0 0),vI 0,vB false])),none,B0u q,none]) tb R R R R R R R R (by intro _;exact R) iq2 R R R R R (P7 tb R R R R R R R R R R R R R (rU 2 R ?_))
 obtain⟨q3,iq3,h⟩:=H1 h
 refine C3k (g:=vI) (w:=([]:List Int)) (v:=s.squibs) ([bx 6 (.d (C3.d s)),bx 6 (.d (.agg [vI 0,.v (.slice none 0 0),.v (.slice none 0 0),.v (.slice none 0 0),vI 0,vB false])),none,B0u q,none,B0u q2,none]) tb R R R R R R R R (by intro _;exact R) iq3 R R R R R (rU 6 R (I0 kR (gY 2 R (C9 ?_))))
 cases h
 exact f2 [3,5,7] C1o R (.cons (rc tb R) .nil) R
theorem D28 {F s r} (h:C9A F s=some r):PC Tryz.prog 205 [C3.d s] (C3.d r):=(D0d h).toPC (.aggL (.cons (.d _) (.cons (.row rfl rfl) (.cons (.row rfl rfl) (.cons (.row rfl rfl) (.cons (.d _) (.cons (.d _) .nil)))))))
def C8n (F:Nat) (B3:Int→Option Bool) (i:Int):Option Bool:=B3 (W (i+1))
def C85 (F:Nat):Option Bool:=some true
def C6D (F:Nat) (p:D5) (a b:Int) (K:Int→Option Bool):Nat→Int→Option Bool
 | 0,_=>none
 | n+1,i=>if i<(p.doors.length:Int)then((P3 p.doors i).bind fun e=>if e.a=a then(if e.b=b then(C85 F)else(if e.a=b then(if e.b=a then(C85 F)else(C8n F (C6D F p a b K n) i))else(C8n F (C6D F p a b K n) i)))else(if e.a=b then(if e.b=a then(C85 F)else(C8n F (C6D F p a b K n) i))else(C8n F (C6D F p a b K n) i)))else(K i)
def D0q (F:Nat) (p:D5) (a b:Int):Option Bool:=C6D F p a b (fun i=>some false) F 0
theorem D1y {F p a b r} (h:D0q F p a b=some r):PC Tryz.prog 228 [D5.d p,vI a,vI b] (vB r):=by
 rw[D0q]at h
 refine oW Tryz.func228 ?_
 refine gY 2 R (B8 (gY 1 R (E3 ?_)))
 obtain⟨K3,hK3,h⟩:∃ K,K=_∧C6D F p a b K F 0=some r:=⟨_,rfl,h⟩
 refine lW (fun m st=>∃ (i:Int),C6D F p a b K3 m i=some r∧st=⟨[(1,dI a),(2,dI b),(3,rf 0 7),(6,dB false),(7,dI i)],[bx 7 (.d (D5.d p))]⟩) ⟨0,h,R⟩ (.prn [1,2,3,6,7] R) ?_
 clear h
 rintro m3 st ⟨i,h,rfl⟩
 cases m3 with
 | zero=>cases(show(none:Option Bool)=some r from h)
 | succ m3 =>
 rw[C6D]at h
 refine B8 (gU 3 R (I7 tb R ?_))
 refine Q4 R R R R (tJ h ?_) (lJ h ?_)
 ·intro h
  refine Y9 (zT (B8 ?_))
  refine W5 (fun zz:Unit=>C8n F (C6D F p a b K3 m3) i=some r) (fun zz:Unit=>⟨[(1,dI a),(2,dI b),(3,rf 0 7),(6,dB false),(7,dI i)],[bx 7 (.d (D5.d p))]⟩) ?_ ?_
  ·clear h
   rintro⟨⟩ h
   rw[C8n]at h
   refine hN 3 R ?_
   exact bk ⟨(W (i+1)),h,R⟩ (.prn [1,2,3,6,7] R)
  refine E3 (gU 3 R ?_)
  obtain⟨e,ie,h⟩:=H1 h
  refine yE ie R R (eU 2 R (B8 ?_))
  refine W5 (fun zz:Unit=>C85 F=some r) (fun zz:Unit=>⟨[(1,dI a),(2,dI b),(3,rf 0 7),(6,dB false),(7,dI i),(42,dB true)],[bx 7 (.d (D5.d p))]⟩) ?_ ?_
  ·clear h
   rintro⟨⟩ h
   rw[C85]at h
   refine C0 R (gY 1 R (C9 ?_))
   cases h
   exact f1 6 R
  refine hU 3 R ?_
  refine Z3 R R R R (tJ h ?_) (nJ h ?_)
  ·intro h
   refine rU 4 R ?_
   refine Z3 R R R R (tJ h ?_) (nJ h ?_)
   ·intro h
    refine nU 13 R ?_
    exact .inl ⟨(),h,.vw (κ:=[0]) (vK (.cons R R .nil) R)⟩
   intro h
   refine rU 5 R ?_
   refine Z3 R R R R (tJ h ?_) (nJ h ?_)
   ·intro h
    refine rU 4 R ?_
    refine Z3 R R R R (tJ h ?_) (nJ h ?_)
    ·intro h
     refine nU 2 R ?_
     exact .inl ⟨(),h,.vw (κ:=[0]) (vK (.cons R R .nil) R)⟩
    intro h
    refine nU 2 R (.inr (zF (D3 (A6 ?_))))
    exact .inl ⟨(),h,.vw (κ:=[0]) (vK (.cons R R .nil) R)⟩
   intro h
   refine nU 7 R (.inr (zF (D3 (A6 ?_))))
   exact .inl ⟨(),h,.vw (κ:=[0]) (vK (.cons R R .nil) R)⟩
  intro h
  refine rU 10 R ?_
  refine Z3 R R R R (tJ h ?_) (nJ h ?_)
  ·intro h
   refine rU 4 R ?_
   refine Z3 R R R R (tJ h ?_) (nJ h ?_)
   ·intro h
    refine nU 2 R ?_
    exact .inl ⟨(),h,.vw (κ:=[0]) (vK (.cons R R .nil) R)⟩
   intro h
   refine nU 2 R (.inr (zF (D3 (A6 ?_))))
   exact .inl ⟨(),h,.vw (κ:=[0]) (vK (.cons R R .nil) R)⟩
  intro h
  refine nU 7 R (.inr (zF (D3 (A6 ?_))))
  exact .inl ⟨(),h,.vw (κ:=[0]) (vK (.cons R R .nil) R)⟩
 intro h
 refine Y9 (C1 R (N5 (E4 (E4 ?_))))
 subst hK3
 refine gY 1 R (C9 ?_)
 cases h
 exact f1 6 R
def C8q (F:Nat) (p:D5) (s:C3) (person zone:Int):Option Int:=(C8j F p s person zone).bind fun rv2=>if rv2=true then(some 0)else(some 174)
def C8C (F:Nat) (B3:Int→Option Int) (q:Int):Option Int:=B3 (W (q+1))
def C8U (F:Nat) (B3:Int→Option Int) (p:D5) (s:C3) (zone q:Int):Option Int:=(P3 s.squibs q).bind fun e3=>if e3=2 then(C8C F B3 q)else((C9s F p zone q).bind fun rv=>if rv=true then(some 173)else(C8C F B3 q))
def C5L (F:Nat) (p:D5) (s:C3) (zone:Int) (K:Int→Option Int):Nat→Int→Option Int
 | 0,_=>none
 | n+1,q=>if q<(p.squibs.length:Int)then(if s.storm=true then(C8U F (C5L F p s zone K n) p s zone q)else(K q))else(K q)
def C9h (F:Nat) (p:D5) (s:C3) (person zone:Int):Option Int:=if zone<0 then(some 0)else((P3 p.people person).bind fun e=>(P3 p.zones zone).bind fun e2=>if e.grade<e2.grade then(some 172)else(C5L F p s zone (fun q=>C8q F p s person zone) F 0))
theorem D0f {F p s person zone r} (h:C9h F p s person zone=some r):PC Tryz.prog 229 [D5.d p,C3.d s,vI person,vI zone] (vI r):=by
 rw[C9h]at h
 refine oW Tryz.func229 ?_
 refine gY 3 R (B8 (gU 1 R ?_))
 refine Q4 R R R R (tJ h ?_) (lJ h ?_)
 ·intro h
  refine Y9 (C0 R (gY 1 R (C9 ?_)))
  cases h
  exact f1 8 R
 intro h
 refine Y9 (zF (B8 (B8 (T1 kR (rU 3 R ?_)))))
 obtain⟨e,ie,h⟩:=H1 h
 refine xE ie R (rU 1 R (lE ie R (rU 3 R ?_)))
 obtain⟨e2,ie2,h⟩:=H1 h
 refine xE ie2 R (rU 1 R (lE ie2 R ?_))
 refine Q4 R R R R (tJ h ?_) (lJ h ?_)
 ·intro h
  refine I0 kR (C0 R (gY 1 R (C9 ?_)))
  cases h
  exact f1 8 R
 intro h
 refine I0 kR (zF (B8 ?_))
 refine W5 (fun zz:Unit=>C8q F p s person zone=some r) (fun zz:Unit=>⟨[(2,dI person),(3,dI zone),(4,rf 0 7),(5,rf 1 6),(8,dI 0)],[bx 7 (.d (D5.d p)),bx 6 (.d (C3.d s))]⟩) ?_ ?_
 ·clear h
  rintro⟨⟩ h
  rw[C8q]at h
  refine B8 (gU 4 R ?_)
  obtain⟨rv2,k2,h⟩:=H1 h
  refine M6 (C8D k2) eK R R R R (tI h ?_) (fI h ?_)
  ·intro c7 h
   refine eU 1 R (zF (gY 1 R (C9 ?_)))
   cases h
   exact f1 8 R
  intro c7 h
  refine eU 1 R (C0 R (gY 1 R (C9 ?_)))
  cases h
  exact f1 8 R
 refine gY 1 R (E3 ?_)
 obtain⟨K3,hK3,h⟩:∃ K,K=_∧C5L F p s zone K F 0=some r:=⟨_,rfl,h⟩
 refine lW (fun m st=>∃ (q:Int),C5L F p s zone K3 m q=some r∧st=⟨[(2,dI person),(3,dI zone),(4,rf 0 7),(5,rf 1 6),(8,dI 0),(9,dI q)],[bx 7 (.d (D5.d p)),bx 6 (.d (C3.d s))]⟩) ⟨0,h,R⟩ (.prn [2,3,4,5,8,9] R) ?_
 clear h
 rintro m3 st ⟨q,h,rfl⟩
 cases m3 with
 | zero=>cases(show(none:Option Int)=some r from h)
 | succ m3 =>
 rw[C5L]at h
 refine B8 ?_
 refine W5 (fun zz:Unit=>C8U F (C5L F p s zone K3 m3) p s zone q=some r) (fun zz:Unit=>⟨[(2,dI person),(3,dI zone),(4,rf 0 7),(5,rf 1 6),(8,dI 0),(9,dI q)],[bx 7 (.d (D5.d p)),bx 6 (.d (C3.d s))]⟩) ?_ ?_
 ·clear h
  rintro⟨⟩ h
  rw[C8U]at h
  refine B8 ?_
  refine W5 (fun zz:Unit=>C8C F (C5L F p s zone K3 m3) q=some r) (fun zz:Unit=>⟨[(2,dI person),(3,dI zone),(4,rf 0 7),(5,rf 1 6),(8,dI 0),(9,dI q)],[bx 7 (.d (D5.d p)),bx 6 (.d (C3.d s))]⟩) ?_ ?_
  ·clear h
   rintro⟨⟩ h
   rw[C8C]at h
   refine hN 3 R ?_
   exact bk ⟨(W (q+1)),h,R⟩ (.prn [2,3,4,5,8,9] R)
  refine E3 (gU 3 R ?_)
  obtain⟨e3,ie3,h⟩:=H1 h
  refine yE ie3 R R ?_
  refine V5 R R R R (nJ h ?_) (tJ h ?_)
  ·intro h
   refine rU 4 R ?_
   obtain⟨rv,k,h⟩:=H1 h
   refine M6 (C9L k) eK R R R R (tI h ?_) (fI h ?_)
   ·intro c6 h
    refine eU 1 R (C0 R (gY 1 R (C9 ?_)))
    cases h
    exact f1 8 R
   intro c6 h
   refine eU 1 R (zF (D3 (A6 ?_)))
   exact .inl ⟨(),h,.prn [2,3,4,5,8,9] R⟩
  intro h
  refine eU 6 R (zF (D3 (A6 ?_)))
  exact .inl ⟨(),h,.prn [2,3,4,5,8,9] R⟩
 refine gU 3 R (I7 tb R ?_)
 refine Q4 R R R R (tJ h ?_) (lJ h ?_)
 ·intro h
  refine rU 3 R ?_
  refine X8 (tI h ?_) (fI h ?_)
  ·intro c4 h
   refine eU 1 R (zT (A6 ?_))
   exact .inl ⟨(),h,.prn [2,3,4,5,8,9] R⟩
  intro c4 h
  refine eU 1 R (C1 R (N5 (E4 (E4 ?_))))
  subst hK3
  refine I5 (A6 ?_)
  exact .inl ⟨(),h,.prn [2,3,4,5,8] R⟩
 intro h
 refine eU 4 R (C1 R (N5 (E4 (E4 ?_))))
 subst hK3
 refine I5 (A6 ?_)
 exact .inl ⟨(),h,.prn [2,3,4,5,8] R⟩
def C9a (F:Nat) (o:C3) (rv4:(List Int)):Option (C3 × Int × C3):=some ({o with zones:=rv4},0,{o with zones:=rv4})
def C7k (F:Nat) (o:C3) (rv4:(List Int)):Option (C3 × Int × C3):=some ({o with zones:=rv4},176,{o with zones:=rv4})
def C5f (F:Nat) (o:C3) (rv4:(List Int)):Option (C3 × Int × C3):=C9a F o rv4
def C74 (F:Nat) (t:D5) (o:C3) (a:D2) (e:Int) (rv4:(List Int)):Option (C3 × Int × C3):=if 0≤a.what then((P3 t.zones a.what).bind fun e5=>if e5.pair=true then((C82 F {o with zones:=rv4} a.what).bind fun rv6=>if rv6=1 then(C7k F o rv4)else(if 0≤e then((P3 t.zones e).bind fun e6=>if e6.pair=true then((C82 F {o with zones:=rv4} e).bind fun rv7=>if rv7=1 then(C7k F o rv4)else(C5f F o rv4))else(C5f F o rv4))else(C5f F o rv4)))else(if 0≤e then((P3 t.zones e).bind fun e7=>if e7.pair=true then((C82 F {o with zones:=rv4} e).bind fun rv8=>if rv8=1 then(C7k F o rv4)else(C5f F o rv4))else(C5f F o rv4))else(C5f F o rv4)))else(if 0≤e then((P3 t.zones e).bind fun e8=>if e8.pair=true then((C82 F {o with zones:=rv4} e).bind fun rv9=>if rv9=1 then(C7k F o rv4)else(C5f F o rv4))else(C5f F o rv4))else(C5f F o rv4))
def C76 (F:Nat) (t:D5) (o:C3) (a:D2) (e:Int) (rv4:(List Int)):Option (C3 × Int × C3):=if 0≤a.what then((C82 F {o with zones:=rv4} a.what).bind fun rv5=>(P3 t.zones a.what).bind fun e4=>if e4.room<rv5 then(some ({o with zones:=rv4},175,{o with zones:=rv4}))else(C74 F t o a e rv4))else(C74 F t o a e rv4)
def C6M (F:Nat) (t:D5) (o:C3) (a:D2) (e x:Int):Option (C3 × Int × C3):=if x=0 then((A5g o.zones a.who a.what).bind fun q=>if 0≤a.with_ then((P3 q a.with_).bind fun e3=>(A5g q a.with_ a.what).bind fun q2=>C76 F t o a e q2)else(C76 F t o a e q))else(some (o,x,o))
def C77 (F:Nat) (t:D5) (o:C3) (a:D2) (e:Int):Option (C3 × Int × C3):=(C9h F t o a.who a.what).bind fun rv2=>if rv2=0 then(if 0≤a.with_ then((C9h F t o a.with_ a.what).bind fun rv3=>C6M F t o a e rv3)else(C6M F t o a e rv2))else(C6M F t o a e rv2)
def C8Q (F:Nat) (t:D5) (o:C3) (a:D2):Option (C3 × Int × C3):=(P3 o.zones a.who).bind fun e=>(D0q F t e a.what).bind fun rv=>if rv=true then(if 0≤a.with_ then((P3 o.zones a.with_).bind fun e2=>if e2=e then(C77 F t o a e)else(some (o,171,o)))else(C77 F t o a e))else(some (o,171,o))
theorem D0z {F t o a r} (h:C8Q F t o a=some r):SCR Tryz.prog 208 [.d (D5.d t),J2 o 0 1 2,.d (D2.d a)] [B0u o.zones,B0u o.holder,B0u o.squibs] (.tup [J2 {r.1 with zones:=r.2.2.zones,holder:=r.2.2.holder,squibs:=r.2.2.squibs} 0 1 2,dI r.2.1]) [B0u r.2.2.zones,B0u r.2.2.holder,B0u r.2.2.squibs]:=by
 rw[C8Q]at h
 refine oW Tryz.func208 ?_
 refine gY 5 R (gU 4 R ?_)
 obtain⟨e,ie,h⟩:=H1 h
 refine Y1 tb R R R R R R (F0 ie) (ix1 ie) R R ?_
 refine A15 (y:=vI e) tb R R R R (U5 (g:=fun a=>T.d (vI a)) ie) R R R R ?_
 refine eU 1 R (B8 ?_)
 refine W5 (fun zz:Unit=>C77 F t o a e=some r) (fun zz:Unit=>⟨[(3,rf 3 7),(4,rf 4 6),(5,rf 5 5),(6,rf 6 6),(7,dI 0),(8,dI e)],[B0u o.zones,B0u o.holder,B0u o.squibs,bx 7 (.d (D5.d t)),bx 6 (J2 o 0 1 2),bx 5 (.d (D2.d a)),bx 6 (.d (.agg [vI 0,.v (.slice none 0 0),.v (.slice none 0 0),.v (.slice none 0 0),vI 0,vB false]))]⟩) ?_ ?_
 ·clear h
  rintro⟨⟩ h
  rw[C77]at h
  refine gU 6 R ?_
  obtain⟨rv2,k2,h⟩:=H1 h
  refine A19 (D0f k2) R eK R R ((dL (.cons (.aggL (dL (.cons (.row R R) (.cons (.row R R) (.cons (.row R R) (dL (dL .nil))))))) (dL (dL .nil))))) R R (eU 1 R (B8 ?_))
  refine W5 (fun zz:Int=>C6M F t o a e zz=some r) (fun zz:Int=>⟨[(3,rf 3 7),(4,rf 4 6),(5,rf 5 5),(6,rf 6 6),(7,dI 0),(8,dI e),(9,dI zz)],[B0u o.zones,B0u o.holder,B0u o.squibs,bx 7 (.d (D5.d t)),bx 6 (J2 o 0 1 2),bx 5 (.d (D2.d a)),bx 6 (.d (.agg [vI 0,.v (.slice none 0 0),.v (.slice none 0 0),.v (.slice none 0 0),vI 0,vB false]))]⟩) ?_ ?_
  ·clear h
   rintro x h
   rw[C6M]at h
   refine B8 (gU 1 R ?_)
   refine V5 R R R R (nJ h ?_) (tJ h ?_)
   ·intro h
    refine Y9 (C0 R (gY 4 R (C9 ?_)))
    cases h
    exact f2 [0,1,2] C1o R (.cons (rc tb R) (.cons (.tmp 7) .nil)) R
   intro h
   refine Y9 (zF (gU 6 R (Y1 tb R R R R R R (F0 ie) (ix1 ie) R R ?_)))
   obtain⟨q,iq,h⟩:=H1 h
   refine A5d (a':=(a.what:Int)) tb R R R R ie R R R R iq R R ?_
   dsimp only[List.set_cons_zero,List.set_cons_succ,J2]
   first | rw[A2a iq] | skip
   refine Y9 (B8 ?_)
   refine W5 (fun zz:(List Int)=>C76 F t o a e zz=some r) (fun zz:(List Int)=>⟨[(3,rf 3 7),(4,rf 4 6),(5,rf 5 5),(6,rf 6 6),(7,dI 0),(8,dI e)],[B0u zz,B0u o.holder,B0u o.squibs,bx 7 (.d (D5.d t)),bx 6 (J2 {o with zones:=zz} 0 1 2),bx 5 (.d (D2.d a)),bx 6 (.d (.agg [vI 0,.v (.slice none 0 0),.v (.slice none 0 0),.v (.slice none 0 0),vI 0,vB false]))]⟩) ?_ ?_
   ·clear h
    rintro rv4 h
    rw[C76]at h
    refine B8 ?_
    refine W5 (fun zz:Unit=>C74 F t o a e rv4=some r) (fun zz:Unit=>⟨[(3,rf 3 7),(4,rf 4 6),(5,rf 5 5),(6,rf 6 6),(7,dI 0),(8,dI e)],[B0u rv4,B0u o.holder,B0u o.squibs,bx 7 (.d (D5.d t)),bx 6 (J2 {o with zones:=rv4} 0 1 2),bx 5 (.d (D2.d a)),bx 6 (.d (.agg [vI 0,.v (.slice none 0 0),.v (.slice none 0 0),.v (.slice none 0 0),vI 0,vB false]))]⟩) ?_ ?_
    ·clear h
     rintro⟨⟩ h
     rw[C74]at h
     refine B8 ?_
     refine W5 (fun zz:Unit=>C9a F o rv4=some r) (fun zz:Unit=>⟨[(4,rf 3 6),(6,rf 4 6),(7,dI 0)],[B0u rv4,B0u o.holder,B0u o.squibs,bx 6 (J2 {o with zones:=rv4} 0 1 2),bx 6 (.d (.agg [vI 0,.v (.slice none 0 0),.v (.slice none 0 0),.v (.slice none 0 0),vI 0,vB false]))]⟩) ?_ ?_
     ·clear h
      rintro⟨⟩ h
      rw[C9a]at h
      refine gY 3 R (C9 ?_)
      cases h
      exact f2 [0,1,2] C1o R (.cons (rc tb R) (.cons (.tmp 7) .nil)) R
     refine B8 ?_
     refine W5 (Sum.elim (fun zz:Unit=>C7k F o rv4=some r) (fun zz:Unit=>C5f F o rv4=some r)) (Sum.elim (fun zz:Unit=>⟨[(4,rf 3 6),(6,rf 4 6),(7,dI 0),(134,dB true)],[B0u rv4,B0u o.holder,B0u o.squibs,bx 6 (J2 {o with zones:=rv4} 0 1 2),bx 6 (.d (.agg [vI 0,.v (.slice none 0 0),.v (.slice none 0 0),.v (.slice none 0 0),vI 0,vB false]))]⟩) (fun zz:Unit=>⟨[(4,rf 3 6),(6,rf 4 6),(7,dI 0),(134,dB false)],[B0u rv4,B0u o.holder,B0u o.squibs,bx 6 (J2 {o with zones:=rv4} 0 1 2),bx 6 (.d (.agg [vI 0,.v (.slice none 0 0),.v (.slice none 0 0),.v (.slice none 0 0),vI 0,vB false]))]⟩)) ?_ ?_
     ·clear h
      rintro(⟨⟩ | ⟨⟩) h
      ·dsimp only[Sum.elim]at h ⊢
       rw[C7k]at h
       refine C0 R (gY 3 R (C9 ?_))
       cases h
       exact f2 [0,1,2] C1o R (.cons (rc tb R) (.cons (.tmp 7) .nil)) R
      ·dsimp only[Sum.elim]at h ⊢
       rw[C5f]at h
       refine zF (A6 ?_)
       exact .inl ⟨(),h,.vw (κ:=[0,1,2,3,4]) (vK (.row R (.row R (.row R (.cons R R (.cons R R .nil))))) R)⟩
     refine hU 2 R ?_
     refine A7I R R R R (tJ h ?_) (mJ h ?_)
     ·intro h
      refine rU 5 R ?_
      obtain⟨e5,ie5,h⟩:=H1 h
      refine xE ie5 R (rU 1 R (lE ie5 R ?_))
      refine X8 (tI h ?_) (fI h ?_)
      ·intro c11 h
       refine rU 5 R ?_
       obtain⟨rv6,k6,h⟩:=H1 h
       refine A19 (C86 k6) R eK R R ((.cons (.aggL (dL (.cons (.row R R) (.cons (.row R R) (.cons (.row R R) (dL (dL .nil))))))) (dL .nil))) R R ?_
       refine Z3 R R R R (tJ h ?_) (nJ h ?_)
       ·intro h
        refine nU 19 R ?_
        exact .inl ⟨.inl (),h,.vw (κ:=[0,1,2,4,6]) (vK (.row R (.row R (.row R (.cons R R (.cons R R .nil))))) R)⟩
       intro h
       refine rU 3 R ?_
       refine A7I R R R R (tJ h ?_) (mJ h ?_)
       ·intro h
        refine rU 4 R ?_
        obtain⟨e6,ie6,h⟩:=H1 h
        refine xE ie6 R (rU 1 R (lE ie6 R ?_))
        refine X8 (tI h ?_) (fI h ?_)
        ·intro c14 h
         refine rU 4 R ?_
         obtain⟨rv7,k7,h⟩:=H1 h
         refine A19 (C86 k7) R eK R R ((.cons (.aggL (dL (.cons (.row R R) (.cons (.row R R) (.cons (.row R R) (dL (dL .nil))))))) (dL .nil))) R R ?_
         refine Z3 R R R R (tJ h ?_) (nJ h ?_)
         ·intro h
          refine nU 2 R ?_
          exact .inl ⟨.inl (),h,.vw (κ:=[0,1,2,4,6]) (vK (.row R (.row R (.row R (.cons R R (.cons R R .nil))))) R)⟩
         intro h
         refine nU 2 R ?_
         exact .inl ⟨.inr (()),h,.vw (κ:=[0,1,2,4,6]) (vK (.row R (.row R (.row R (.cons R R (.cons R R .nil))))) R)⟩
        intro c14 h
        refine nU 8 R ?_
        exact .inl ⟨.inr (()),h,.vw (κ:=[0,1,2,4,6]) (vK (.row R (.row R (.row R (.cons R R (.cons R R .nil))))) R)⟩
       intro h
       refine nU 15 R ?_
       exact .inl ⟨.inr (()),h,.vw (κ:=[0,1,2,4,6]) (vK (.row R (.row R (.row R (.cons R R (.cons R R .nil))))) R)⟩
      intro c11 h
      refine rU 10 R ?_
      refine A7I R R R R (tJ h ?_) (mJ h ?_)
      ·intro h
       refine rU 4 R ?_
       obtain⟨e7,ie7,h⟩:=H1 h
       refine xE ie7 R (rU 1 R (lE ie7 R ?_))
       refine X8 (tI h ?_) (fI h ?_)
       ·intro c17 h
        refine rU 4 R ?_
        obtain⟨rv8,k8,h⟩:=H1 h
        refine A19 (C86 k8) R eK R R ((.cons (.aggL (dL (.cons (.row R R) (.cons (.row R R) (.cons (.row R R) (dL (dL .nil))))))) (dL .nil))) R R ?_
        refine Z3 R R R R (tJ h ?_) (nJ h ?_)
        ·intro h
         refine nU 2 R ?_
         exact .inl ⟨.inl (),h,.vw (κ:=[0,1,2,4,6]) (vK (.row R (.row R (.row R (.cons R R (.cons R R .nil))))) R)⟩
        intro h
        refine nU 2 R ?_
        exact .inl ⟨.inr (()),h,.vw (κ:=[0,1,2,4,6]) (vK (.row R (.row R (.row R (.cons R R (.cons R R .nil))))) R)⟩
       intro c17 h
       refine nU 8 R ?_
       exact .inl ⟨.inr (()),h,.vw (κ:=[0,1,2,4,6]) (vK (.row R (.row R (.row R (.cons R R (.cons R R .nil))))) R)⟩
      intro h
      refine nU 15 R ?_
      exact .inl ⟨.inr (()),h,.vw (κ:=[0,1,2,4,6]) (vK (.row R (.row R (.row R (.cons R R (.cons R R .nil))))) R)⟩
     intro h
     refine rU 18 R ?_
     refine A7I R R R R (tJ h ?_) (mJ h ?_)
     ·intro h
      refine rU 4 R ?_
      obtain⟨e8,ie8,h⟩:=H1 h
      refine xE ie8 R (rU 1 R (lE ie8 R ?_))
      refine X8 (tI h ?_) (fI h ?_)
      ·intro c20 h
       refine rU 4 R ?_
       obtain⟨rv9,k9,h⟩:=H1 h
       refine A19 (C86 k9) R eK R R ((.cons (.aggL (dL (.cons (.row R R) (.cons (.row R R) (.cons (.row R R) (dL (dL .nil))))))) (dL .nil))) R R ?_
       refine Z3 R R R R (tJ h ?_) (nJ h ?_)
       ·intro h
        refine nU 2 R ?_
        exact .inl ⟨.inl (),h,.vw (κ:=[0,1,2,4,6]) (vK (.row R (.row R (.row R (.cons R R (.cons R R .nil))))) R)⟩
       intro h
       refine nU 2 R ?_
       exact .inl ⟨.inr (()),h,.vw (κ:=[0,1,2,4,6]) (vK (.row R (.row R (.row R (.cons R R (.cons R R .nil))))) R)⟩
      intro c20 h
      refine nU 8 R ?_
      exact .inl ⟨.inr (()),h,.vw (κ:=[0,1,2,4,6]) (vK (.row R (.row R (.row R (.cons R R (.cons R R .nil))))) R)⟩
     intro h
     refine nU 15 R ?_
     exact .inl ⟨.inr (()),h,.vw (κ:=[0,1,2,4,6]) (vK (.row R (.row R (.row R (.cons R R (.cons R R .nil))))) R)⟩
    refine B8 (T1 kR (rU 2 R ?_))
    refine A7I R R R R (tJ h ?_) (mJ h ?_)
    ·intro h
     refine rU 4 R ?_
     obtain⟨rv5,k5,h⟩:=H1 h
     refine A19 (C86 k5) R eK R R ((.cons (.aggL (dL (.cons (.row R R) (.cons (.row R R) (.cons (.row R R) (dL (dL .nil))))))) (dL .nil))) R R (rU 4 R ?_)
     obtain⟨e4,ie4,h⟩:=H1 h
     refine xE ie4 R (rU 1 R (lE ie4 R ?_))
     refine A4l R R R R (tJ h ?_) (lJ h ?_)
     ·intro h
      refine rU 1 R (I0 kR (C0 R (gY 3 R (C9 ?_))))
      cases h
      exact f2 [0,1,2] C1o R (.cons (rc tb R) (.cons (.tmp 7) .nil)) R
     intro h
     refine rU 1 R (I0 kR (zF (A6 ?_)))
     exact .inl ⟨(),h,.prn [3,4,5,6,7,8] R⟩
    intro h
    refine rU 14 R (I0 kR (zF (A6 ?_)))
    exact .inl ⟨(),h,.prn [3,4,5,6,7,8] R⟩
   refine gU 2 R ?_
   refine A7I R R R R (tJ h ?_) (mJ h ?_)
   ·intro h
    refine Y9 (C0 R (hU 6 R ?_))
    obtain⟨e3,ie3,h⟩:=H1 h
    refine Y1 tb R R R R R R (F0 ie3) (ix1 ie3) R R ?_
    obtain⟨q2,iq2,h⟩:=H1 h
    refine A5d (a':=(a.what:Int)) tb R R R R ie3 R R R R iq2 R R ?_
    dsimp only[List.set_cons_zero,List.set_cons_succ,J2]
    first | rw[A2a iq2] | skip
    refine eN ?_
    exact .inl ⟨q2,h,.prn [3,4,5,6,7,8] R⟩
   intro h
   refine Y9 (zF (A6 ?_))
   exact .inl ⟨q,h,.prn [3,4,5,6,7,8] R⟩
  refine gU 1 R ?_
  refine Z3 R R R R (tJ h ?_) (nJ h ?_)
  ·intro h
   refine rU 3 R ?_
   refine A7I R R R R (tJ h ?_) (mJ h ?_)
   ·intro h
    refine eU 1 R (C0 R (hU 6 R ?_))
    obtain⟨rv3,k3,h⟩:=H1 h
    refine A19 (D0f k3) R eK R R ((dL (.cons (.aggL (dL (.cons (.row R R) (.cons (.row R R) (.cons (.row R R) (dL (dL .nil))))))) (dL (dL .nil))))) R R (nU 1 R ?_)
    exact .inl ⟨rv3,h,.prn [3,4,5,6,7,8,9] R⟩
   intro h
   refine eU 1 R (zF (A6 ?_))
   exact .inl ⟨rv2,h,.prn [3,4,5,6,7,8,9] R⟩
  intro h
  refine eU 5 R (zF (A6 ?_))
  exact .inl ⟨rv2,h,.prn [3,4,5,6,7,8,9] R⟩
 refine gU 4 R ?_
 obtain⟨rv,k,h⟩:=H1 h
 refine M6 (D1y k) eK R R R R (tI h ?_) (fI h ?_)
 ·intro c h
  refine rU 4 R ?_
  refine A7I R R R R (tJ h ?_) (mJ h ?_)
  ·intro h
   refine rU 5 R ?_
   obtain⟨e2,ie2,h⟩:=H1 h
   refine Y1 tb R R R R R R (F0 ie2) (ix1 ie2) R R ?_
   refine A15 (y:=vI e2) tb R R R R (U5 (g:=fun a=>T.d (vI a)) ie2) R R R R ?_
   refine rU 1 R ?_
   refine V5 R R R R (nJ h ?_) (tJ h ?_)
   ·intro h
    refine eU 2 R (C0 R (gY 3 R (C9 ?_)))
    cases h
    exact f2 [0,1,2] C1o R (.cons (rc tb R) (.cons (.tmp 7) .nil)) R
   intro h
   refine eU 2 R (zF (A6 ?_))
   exact .inl ⟨(),h,.prn [3,4,5,6,7,8] R⟩
  intro h
  refine eU 11 R (zF (A6 ?_))
  exact .inl ⟨(),h,.prn [3,4,5,6,7,8] R⟩
 intro c h
 refine eU 16 R (C0 R (gY 3 R (C9 ?_)))
 cases h
 exact f2 [0,1,2] C1o R (.cons (rc tb R) (.cons (.tmp 7) .nil)) R
def C81 (F:Nat) (B16:Int→Option (C3 × Int × C3)) (x2:Int):Option (C3 × Int × C3):=B16 (W (x2+1))
def C5K (F:Nat) (t:D5) (o:C3) (a:D2) (x:Int) (K:Int→Option (C3 × Int × C3)):Nat→Int→Option (C3 × Int × C3)
 | 0,_=>none
 | n+1,x2=>(P3 t.squibs x).bind fun e3=>if x2<(e3.keys.length:Int)then((P3 o.squibs x).bind fun e4=>if e4=1 then((P3 e3.keys x2).bind fun e5=>if e5=a.what then(some (o,177,o))else(C81 F (C5K F t o a x K n) x2))else(C81 F (C5K F t o a x K n) x2))else(K x2)
def C6K (F:Nat) (t:D5) (o:C3) (a:D2) (K:Int→Option (C3 × Int × C3)):Nat→Int→Option (C3 × Int × C3)
 | 0,_=>none
 | n+1,x=>if x<(t.squibs.length:Int)then(C5K F t o a x (fun x2=>C6K F t o a K n (W (x+1))) F 0)else(K x)
def C9j (F:Nat) (t:D5) (o:C3) (a:D2):Option (C3 × Int × C3):=(P3 o.zones a.who).bind fun e=>if e=t.panel then(if a.kind=2 then((P3 o.holder a.what).bind fun e2=>if e2=(-1)then(C6K F t o a (fun x=>(A5g o.holder a.what a.who).bind fun q=>some ({o with holder:=q},0,{o with holder:=q})) F 0)else(some (o,174,o)))else(if a.kind=3 then((P3 o.holder a.what).bind fun e6=>if e6=a.who then((A5g o.holder a.what (-1)).bind fun q2=>some ({o with holder:=q2},0,{o with holder:=q2}))else(some (o,174,o)))else((P3 o.holder a.what).bind fun e7=>if e7=a.who then((P3 o.zones a.with_).bind fun e8=>if e8=e then((A5g o.holder a.what a.with_).bind fun q3=>(C8j F t {o with holder:=q3} a.who e).bind fun rv=>if rv=true then(some ({o with holder:=q3},0,{o with holder:=q3}))else(some ({o with holder:=q3},178,{o with holder:=q3})))else(some (o,171,o)))else(some (o,174,o)))))else(if a.kind=2 then(some (o,171,o))else(if a.kind=3 then(some (o,171,o))else((P3 o.holder a.what).bind fun e9=>if e9=a.who then((P3 o.zones a.with_).bind fun e10=>if e10=e then((A5g o.holder a.what a.with_).bind fun q4=>(C8j F t {o with holder:=q4} a.who e).bind fun rv2=>if rv2=true then(some ({o with holder:=q4},0,{o with holder:=q4}))else(some ({o with holder:=q4},178,{o with holder:=q4})))else(some (o,171,o)))else(some (o,174,o)))))
theorem D0B {F t o a r} (h:C9j F t o a=some r):SCR Tryz.prog 209 [.d (D5.d t),J2 o 0 1 2,.d (D2.d a)] [B0u o.zones,B0u o.holder,B0u o.squibs] (.tup [J2 {r.1 with zones:=r.2.2.zones,holder:=r.2.2.holder,squibs:=r.2.2.squibs} 0 1 2,dI r.2.1]) [B0u r.2.2.zones,B0u r.2.2.holder,B0u r.2.2.squibs]:=by
 rw[C9j]at h
 refine oW Tryz.func209 ?_
 refine gY 5 R (B8 (T1 kR (rU 4 R ?_)))
 obtain⟨e,ie,h⟩:=H1 h
 refine Y1 tb R R R R R R (F0 ie) (ix1 ie) R R ?_
 refine A15 (y:=vI e) tb R R R R (U5 (g:=fun a=>T.d (vI a)) ie) R R R R ?_
 refine rU 2 R ?_
 refine Z3 R R R R (tJ h ?_) (nJ h ?_)
 ·intro h
  refine rU 1 R (I0 kR (B8 (gU 2 R ?_)))
  refine Z3 R R R R (tJ h ?_) (nJ h ?_)
  ·intro h
   refine Y9 (C0 R (B8 (gY 2 R (zF (B8 (gU 4 R ?_))))))
   obtain⟨e2,ie2,h⟩:=H1 h
   refine Y1 tb R R R R R R (F0 ie2) (ix1 ie2) R R ?_
   refine A15 (y:=vI e2) tb R R R R (U5 (g:=fun a=>T.d (vI a)) ie2) R R R R ?_
   refine V5 R R R R (nJ h ?_) (tJ h ?_)
   ·intro h
    refine Y9 (C0 R (gY 3 R (C9 ?_)))
    cases h
    exact f2 [0,1,2] C1o R (.cons (rc tb R) (.cons (.tmp 7) .nil)) R
   intro h
   refine Y9 (zF (B8 (gY 1 R (E3 ?_))))
   obtain⟨K14,hK14,h⟩:∃ K,K=_∧C6K F t o a K F 0=some r:=⟨_,rfl,h⟩
   refine lW (fun m st=>∃ (x:Int),C6K F t o a K14 m x=some r∧st=⟨[(3,rf 3 7),(4,rf 4 6),(5,rf 5 5),(6,rf 6 6),(7,dI 0),(8,dB true),(9,dI x)],[B0u o.zones,B0u o.holder,B0u o.squibs,bx 7 (.d (D5.d t)),bx 6 (J2 o 0 1 2),bx 5 (.d (D2.d a)),bx 6 (.d (.agg [vI 0,.v (.slice none 0 0),.v (.slice none 0 0),.v (.slice none 0 0),vI 0,vB false]))]⟩) ⟨0,h,R⟩ (.prn [3,4,5,6,7,8,9] R) ?_
   clear h
   rintro m14 st ⟨x,h,rfl⟩
   cases m14 with
   | zero=>cases(show(none:Option (C3 × Int × C3))=some r from h)
   | succ m14 =>
   rw[C6K]at h
   refine B8 (gU 3 R (I7 tb R ?_))
   refine Q4 R R R R (tJ h ?_) (lJ h ?_)
   ·intro h
    refine Y9 (zT (B8 (E3 (gY 1 R (E3 ?_)))))
    obtain⟨K16,hK16,h⟩:∃ K,K=_∧C5K F t o a x K F 0=some r:=⟨_,rfl,h⟩
    refine lW (fun m st=>∃ (x2:Int),C5K F t o a x K16 m x2=some r∧st=⟨[(3,rf 3 7),(4,rf 4 6),(5,rf 5 5),(6,rf 6 6),(7,dI 0),(8,dB true),(9,dI x),(10,dI x2)],[B0u o.zones,B0u o.holder,B0u o.squibs,bx 7 (.d (D5.d t)),bx 6 (J2 o 0 1 2),bx 5 (.d (D2.d a)),bx 6 (.d (.agg [vI 0,.v (.slice none 0 0),.v (.slice none 0 0),.v (.slice none 0 0),vI 0,vB false]))]⟩) ⟨0,h,R⟩ (.prn [3,4,5,6,7,8,9,10] R) ?_
    clear h
    rintro m16 st ⟨x2,h,rfl⟩
    cases m16 with
    | zero=>cases(show(none:Option (C3 × Int × C3))=some r from h)
    | succ m16 =>
    rw[C5K]at h
    refine B8 (gU 4 R ?_)
    obtain⟨e3,ie3,h⟩:=H1 h
    refine xE ie3 R (rU 1 R (lE ie3 R (I7 tb R ?_)))
    refine Q4 R R R R (tJ h ?_) (lJ h ?_)
    ·intro h
     refine Y9 (zT (B8 ?_))
     refine W5 (fun zz:Unit=>C81 F (C5K F t o a x K16 m16) x2=some r) (fun zz:Unit=>⟨[(3,rf 3 7),(4,rf 4 6),(5,rf 5 5),(6,rf 6 6),(7,dI 0),(8,dB true),(9,dI x),(10,dI x2)],[B0u o.zones,B0u o.holder,B0u o.squibs,bx 7 (.d (D5.d t)),bx 6 (J2 o 0 1 2),bx 5 (.d (D2.d a)),bx 6 (.d (.agg [vI 0,.v (.slice none 0 0),.v (.slice none 0 0),.v (.slice none 0 0),vI 0,vB false]))]⟩) ?_ ?_
     ·clear h
      rintro⟨⟩ h
      rw[C81]at h
      refine hN 3 R ?_
      exact bk ⟨(W (x2+1)),h,R⟩ (.prn [3,4,5,6,7,8,9,10] R)
     refine E3 (B8 (T1 kR (rU 3 R ?_)))
     obtain⟨e4,ie4,h⟩:=H1 h
     refine Y1 tb R R R R R R (F0 ie4) (ix1 ie4) R R ?_
     refine A15 (y:=vI e4) tb R R R R (U5 (g:=fun a=>T.d (vI a)) ie4) R R R R ?_
     refine Z3 R R R R (tJ h ?_) (nJ h ?_)
     ·intro h
      refine rU 4 R (xE ie3 R (rU 1 R (lE ie3 R (rU 1 R ?_))))
      obtain⟨e5,ie5,h⟩:=H1 h
      refine yE ie5 R R (rU 2 R ?_)
      refine Z3 R R R R (tJ h ?_) (nJ h ?_)
      ·intro h
       refine rU 1 R (I0 kR (C0 R (gY 3 R (C9 ?_))))
       cases h
       exact f2 [0,1,2] C1o R (.cons (rc tb R) (.cons (.tmp 7) .nil)) R
      intro h
      refine rU 1 R (I0 kR (zF (D3 (A6 ?_))))
      exact .inl ⟨(),h,.prn [3,4,5,6,7,8,9,10] R⟩
     intro h
     refine rU 14 R (I0 kR (zF (D3 (A6 ?_))))
     exact .inl ⟨(),h,.prn [3,4,5,6,7,8,9,10] R⟩
    intro h
    refine Y9 (C1 R (N5 (E4 (E4 ?_))))
    subst hK16
    refine hN 3 R ?_
    exact bk ⟨(W (x+1)),h,R⟩ (.prn [3,4,5,6,7,8,9] R)
   intro h
   refine Y9 (C1 R (N5 (E4 (E4 ?_))))
   subst hK14
   refine gU 6 R (Y1 tb R R R R R R (F0 ie2) (ix1 ie2) R R ?_)
   obtain⟨q,iq,h⟩:=H1 h
   refine A5d (a':=(a.who:Int)) tb R R R R ie2 R R R R iq R R ?_
   dsimp only[List.set_cons_zero,List.set_cons_succ,J2]
   first | rw[A2a iq] | skip
   refine Y9 (gY 3 R (C9 ?_))
   cases h
   exact f2 [0,1,2] C1o R (.cons (rc tb R) (.cons (.tmp 7) .nil)) R
  intro h
  refine Y9 (zF (B8 (gU 2 R ?_)))
  refine Z3 R R R R (tJ h ?_) (nJ h ?_)
  ·intro h
   refine Y9 (C0 R (B8 (gY 2 R (zF (B8 (B8 (T1 kR (rU 4 R ?_))))))))
   obtain⟨e6,ie6,h⟩:=H1 h
   refine Y1 tb R R R R R R (F0 ie6) (ix1 ie6) R R ?_
   refine A15 (y:=vI e6) tb R R R R (U5 (g:=fun a=>T.d (vI a)) ie6) R R R R ?_
   refine rU 2 R ?_
   refine V5 R R R R (nJ h ?_) (tJ h ?_)
   ·intro h
    refine I0 kR (C0 R (gY 3 R (C9 ?_)))
    cases h
    exact f2 [0,1,2] C1o R (.cons (rc tb R) (.cons (.tmp 7) .nil)) R
   intro h
   refine I0 kR (zF (gU 4 R (Y1 tb R R R R R R (F0 ie6) (ix1 ie6) R R ?_)))
   obtain⟨q2,iq2,h⟩:=H1 h
   refine A5d (a':=((-1):Int)) tb R R R R ie6 R R R R iq2 R R ?_
   dsimp only[List.set_cons_zero,List.set_cons_succ,J2]
   first | rw[A2a iq2] | skip
   refine Y9 (gY 3 R (C9 ?_))
   cases h
   exact f2 [0,1,2] C1o R (.cons (rc tb R) (.cons (.tmp 7) .nil)) R
  intro h
  refine Y9 (zF (B8 (B8 (T1 kR (rU 4 R ?_)))))
  obtain⟨e7,ie7,h⟩:=H1 h
  refine Y1 tb R R R R R R (F0 ie7) (ix1 ie7) R R ?_
  refine A15 (y:=vI e7) tb R R R R (U5 (g:=fun a=>T.d (vI a)) ie7) R R R R ?_
  refine rU 2 R ?_
  refine V5 R R R R (nJ h ?_) (tJ h ?_)
  ·intro h
   refine I0 kR (C0 R (gY 3 R (C9 ?_)))
   cases h
   exact f2 [0,1,2] C1o R (.cons (rc tb R) (.cons (.tmp 7) .nil)) R
  intro h
  refine I0 kR (zF (B8 (B8 (T1 kR (rU 4 R ?_)))))
  obtain⟨e8,ie8,h⟩:=H1 h
  refine Y1 tb R R R R R R (F0 ie8) (ix1 ie8) R R ?_
  refine A15 (y:=vI e8) tb R R R R (U5 (g:=fun a=>T.d (vI a)) ie8) R R R R ?_
  refine rU 4 R (Y1 tb R R R R R R (F0 ie) (ix1 ie) R R ?_)
  refine A15 (y:=vI e) tb R R R R (U5 (g:=fun a=>T.d (vI a)) ie) R R R R ?_
  refine V5 R R R R (nJ h ?_) (tJ h ?_)
  ·intro h
   refine I0 kR (C0 R (gY 3 R (C9 ?_)))
   cases h
   exact f2 [0,1,2] C1o R (.cons (rc tb R) (.cons (.tmp 7) .nil)) R
  intro h
  refine I0 kR (zF (gU 6 R (Y1 tb R R R R R R (F0 ie7) (ix1 ie7) R R ?_)))
  obtain⟨q3,iq3,h⟩:=H1 h
  refine A5d (a':=(a.with_:Int)) tb R R R R ie7 R R R R iq3 R R ?_
  dsimp only[List.set_cons_zero,List.set_cons_succ,J2]
  first | rw[A2a iq3] | skip
  refine Y9 (B8 (B8 (T1 kR (rU 8 R (Y1 tb R R R R R R (F0 ie) (ix1 ie) R R ?_)))))
  refine A15 (y:=vI e) tb R R R R (U5 (g:=fun a=>T.d (vI a)) ie) R R R R ?_
  obtain⟨rv,k,h⟩:=H1 h
  refine A4k (C8D k) eK R R ((dL (.cons (.aggL (dL (.cons (.row R R) (.cons (.row R R) (.cons (.row R R) (dL (dL .nil))))))) (dL (dL .nil))))) R R (tI h ?_) (fI h ?_)
  ·intro c12 h
   refine rU 1 R (I0 kR (zF (gY 3 R (C9 ?_))))
   cases h
   exact f2 [0,1,2] C1o R (.cons (rc tb R) (.cons (.tmp 7) .nil)) R
  intro c12 h
  refine rU 1 R (I0 kR (C0 R (gY 3 R (C9 ?_))))
  cases h
  exact f2 [0,1,2] C1o R (.cons (rc tb R) (.cons (.tmp 7) .nil)) R
 intro h
 refine rU 1 R (I0 kR (B8 (gU 2 R ?_)))
 refine Z3 R R R R (tJ h ?_) (nJ h ?_)
 ·intro h
  refine Y9 (C0 R (B8 (gY 2 R (C0 R (gY 3 R (C9 ?_))))))
  cases h
  exact f2 [0,1,2] C1o R (.cons (rc tb R) (.cons (.tmp 7) .nil)) R
 intro h
 refine Y9 (zF (B8 (gU 2 R ?_)))
 refine Z3 R R R R (tJ h ?_) (nJ h ?_)
 ·intro h
  refine Y9 (C0 R (B8 (gY 2 R (C0 R (gY 3 R (C9 ?_))))))
  cases h
  exact f2 [0,1,2] C1o R (.cons (rc tb R) (.cons (.tmp 7) .nil)) R
 intro h
 refine Y9 (zF (B8 (B8 (T1 kR (rU 4 R ?_)))))
 obtain⟨e9,ie9,h⟩:=H1 h
 refine Y1 tb R R R R R R (F0 ie9) (ix1 ie9) R R ?_
 refine A15 (y:=vI e9) tb R R R R (U5 (g:=fun a=>T.d (vI a)) ie9) R R R R ?_
 refine rU 2 R ?_
 refine V5 R R R R (nJ h ?_) (tJ h ?_)
 ·intro h
  refine I0 kR (C0 R (gY 3 R (C9 ?_)))
  cases h
  exact f2 [0,1,2] C1o R (.cons (rc tb R) (.cons (.tmp 7) .nil)) R
 intro h
 refine I0 kR (zF (B8 (B8 (T1 kR (rU 4 R ?_)))))
 obtain⟨e10,ie10,h⟩:=H1 h
 refine Y1 tb R R R R R R (F0 ie10) (ix1 ie10) R R ?_
 refine A15 (y:=vI e10) tb R R R R (U5 (g:=fun a=>T.d (vI a)) ie10) R R R R ?_
 refine rU 4 R (Y1 tb R R R R R R (F0 ie) (ix1 ie) R R ?_)
 refine A15 (y:=vI e) tb R R R R (U5 (g:=fun a=>T.d (vI a)) ie) R R R R ?_
 refine V5 R R R R (nJ h ?_) (tJ h ?_)
 ·intro h
  refine I0 kR (C0 R (gY 3 R (C9 ?_)))
  cases h
  exact f2 [0,1,2] C1o R (.cons (rc tb R) (.cons (.tmp 7) .nil)) R
 intro h
 refine I0 kR (zF (gU 6 R (Y1 tb R R R R R R (F0 ie9) (ix1 ie9) R R ?_)))
 obtain⟨q4,iq4,h⟩:=H1 h
 refine A5d (a':=(a.with_:Int)) tb R R R R ie9 R R R R iq4 R R ?_
 dsimp only[List.set_cons_zero,List.set_cons_succ,J2]
 first | rw[A2a iq4] | skip
 refine Y9 (B8 (B8 (T1 kR (rU 8 R (Y1 tb R R R R R R (F0 ie) (ix1 ie) R R ?_)))))
 refine A15 (y:=vI e) tb R R R R (U5 (g:=fun a=>T.d (vI a)) ie) R R R R ?_
 obtain⟨rv2,k2,h⟩:=H1 h
 refine A4k (C8D k2) eK R R ((dL (.cons (.aggL (dL (.cons (.row R R) (.cons (.row R R) (.cons (.row R R) (dL (dL .nil))))))) (dL (dL .nil))))) R R (tI h ?_) (fI h ?_)
 ·intro c17 h
  refine rU 1 R (I0 kR (zF (gY 3 R (C9 ?_))))
  cases h
  exact f2 [0,1,2] C1o R (.cons (rc tb R) (.cons (.tmp 7) .nil)) R
 intro c17 h
 refine rU 1 R (I0 kR (C0 R (gY 3 R (C9 ?_))))
 cases h
 exact f2 [0,1,2] C1o R (.cons (rc tb R) (.cons (.tmp 7) .nil)) R
def C7P (F:Nat) (o:C3) (a:D2) (x3:Int):Option (C3 × Int × C3):=(A5g o.squibs a.what x3).bind fun q=>some ({o with squibs:=q},0,{o with squibs:=q})
def C7Q (F:Nat) (t:D5) (o:C3) (a:D2) (x x3:Int):Option (C3 × Int × C3):=(P3 o.squibs a.what).bind fun e4=>if e4=x then(if a.kind=5 then(if o.storm=true then(some (o,173,o))else((C9t F t o a.what).bind fun rv=>if 0<(rv.length:Int)then(some (o,174,o))else(if o.siren<0 then(some (o,179,o))else(if(W (a.at_-o.siren))<t.wait then(some (o,179,o))else(C7P F o a x3)))))else(C7P F o a x3))else(some (o,177,o))
def C7R (F:Nat) (t:D5) (o:C3) (a:D2) (x x2:Int):Option (C3 × Int × C3):=if a.kind=7 then(C7Q F t o a x 2)else(C7Q F t o a x x2)
def C7T (F:Nat) (t:D5) (o:C3) (a:D2):Option (C3 × Int × C3):=if a.kind=5 then(C7R F t o a 0 1)else(C7R F t o a 1 0)
def C8u (F:Nat) (t:D5) (o:C3) (a:D2):Option (C3 × Int × C3):=(P3 t.squibs a.what).bind fun e=>(P3 o.zones a.who).bind fun e2=>if e2=t.panel then(if a.kind=6 then(C7T F t o a)else((P3 t.people a.who).bind fun e3=>if e3.grade<e.grade then(some (o,172,o))else(C7T F t o a)))else(some (o,171,o))
theorem D0p {F t o a r} (h:C8u F t o a=some r):SCR Tryz.prog 210 [.d (D5.d t),J2 o 0 1 2,.d (D2.d a)] [B0u o.zones,B0u o.holder,B0u o.squibs] (.tup [J2 {r.1 with zones:=r.2.2.zones,holder:=r.2.2.holder,squibs:=r.2.2.squibs} 0 1 2,dI r.2.1]) [B0u r.2.2.zones,B0u r.2.2.holder,B0u r.2.2.squibs]:=by
 rw[C8u]at h
 refine oW Tryz.func210 ?_
 refine gY 5 R (gU 4 R ?_)
 obtain⟨e,ie,h⟩:=H1 h
 refine yE ie R R (eU 2 R (B8 (B8 (T1 kR (rU 4 R ?_)))))
 obtain⟨e2,ie2,h⟩:=H1 h
 refine Y1 tb R R R R R R (F0 ie2) (ix1 ie2) R R ?_
 refine A15 (y:=vI e2) tb R R R R (U5 (g:=fun a=>T.d (vI a)) ie2) R R R R ?_
 refine rU 2 R ?_
 refine V5 R R R R (nJ h ?_) (tJ h ?_)
 ·intro h
  refine I0 kR (C0 R (gY 3 R (C9 ?_)))
  cases h
  exact f2 [0,1,2] C1o R (.cons (rc tb R) (.cons (.tmp 7) .nil)) R
 intro h
 refine I0 kR (zF (B8 ?_))
 refine W5 (fun zz:Unit=>C7T F t o a=some r) (fun zz:Unit=>⟨[(3,rf 3 7),(4,rf 4 6),(5,rf 5 5),(6,rf 6 6),(7,dI 0)],[B0u o.zones,B0u o.holder,B0u o.squibs,bx 7 (.d (D5.d t)),bx 6 (J2 o 0 1 2),bx 5 (.d (D2.d a)),bx 6 (.d (.agg [vI 0,.v (.slice none 0 0),.v (.slice none 0 0),.v (.slice none 0 0),vI 0,vB false]))]⟩) ?_ ?_
 ·clear h
  rintro⟨⟩ h
  rw[C7T]at h
  refine gY 2 R (B8 ?_)
  refine W5 (fun zz:Int × Int=>C7R F t o a zz.1 zz.2=some r) (fun zz:Int × Int=>⟨[(3,rf 3 7),(4,rf 4 6),(5,rf 5 5),(6,rf 6 6),(7,dI 0),(9,dI zz.1),(10,dI zz.2)],[B0u o.zones,B0u o.holder,B0u o.squibs,bx 7 (.d (D5.d t)),bx 6 (J2 o 0 1 2),bx 5 (.d (D2.d a)),bx 6 (.d (.agg [vI 0,.v (.slice none 0 0),.v (.slice none 0 0),.v (.slice none 0 0),vI 0,vB false]))]⟩) ?_ ?_
  ·clear h
   rintro⟨x,x2⟩ h
   dsimp only at h ⊢
   rw[C7R]at h
   refine B8 ?_
   refine W5 (fun zz:Int=>C7Q F t o a x zz=some r) (fun zz:Int=>⟨[(3,rf 3 7),(4,rf 4 6),(5,rf 5 5),(6,rf 6 6),(7,dI 0),(9,dI x),(10,dI zz)],[B0u o.zones,B0u o.holder,B0u o.squibs,bx 7 (.d (D5.d t)),bx 6 (J2 o 0 1 2),bx 5 (.d (D2.d a)),bx 6 (.d (.agg [vI 0,.v (.slice none 0 0),.v (.slice none 0 0),.v (.slice none 0 0),vI 0,vB false]))]⟩) ?_ ?_
   ·clear h
    rintro x3 h
    rw[C7Q]at h
    refine B8 (gU 4 R ?_)
    obtain⟨e4,ie4,h⟩:=H1 h
    refine Y1 tb R R R R R R (F0 ie4) (ix1 ie4) R R ?_
    refine A15 (y:=vI e4) tb R R R R (U5 (g:=fun a=>T.d (vI a)) ie4) R R R R ?_
    refine rU 1 R ?_
    refine V5 R R R R (nJ h ?_) (tJ h ?_)
    ·intro h
     refine Y9 (C0 R (gY 3 R (C9 ?_)))
     cases h
     exact f2 [0,1,2] C1o R (.cons (rc tb R) (.cons (.tmp 7) .nil)) R
    intro h
    refine Y9 (zF (B8 ?_))
    refine W5 (fun zz:Unit=>C7P F o a x3=some r) (fun zz:Unit=>⟨[(4,rf 3 6),(5,rf 4 5),(6,rf 5 6),(7,dI 0),(10,dI x3)],[B0u o.zones,B0u o.holder,B0u o.squibs,bx 6 (J2 o 0 1 2),bx 5 (.d (D2.d a)),bx 6 (.d (.agg [vI 0,.v (.slice none 0 0),.v (.slice none 0 0),.v (.slice none 0 0),vI 0,vB false]))]⟩) ?_ ?_
    ·clear h
     rintro⟨⟩ h
     rw[C7P]at h
     refine gU 5 R (Y1 tb R R R R R R (F0 ie4) (ix1 ie4) R R ?_)
     obtain⟨q,iq,h⟩:=H1 h
     refine A5d (a':=(x3:Int)) tb R R R R ie4 R R R R iq R R ?_
     dsimp only[List.set_cons_zero,List.set_cons_succ,J2]
     first | rw[A2a iq] | skip
     refine Y9 (gY 3 R (C9 ?_))
     cases h
     exact f2 [0,1,2] C1o R (.cons (rc tb R) (.cons (.tmp 7) .nil)) R
    refine gU 2 R ?_
    refine Z3 R R R R (tJ h ?_) (nJ h ?_)
    ·intro h
     refine Y9 (C0 R (B8 (gU 2 R ?_)))
     refine X8 (tI h ?_) (fI h ?_)
     ·intro c8 h
      refine Y9 (C0 R (gY 3 R (C9 ?_)))
      cases h
      exact f2 [0,1,2] C1o R (.cons (rc tb R) (.cons (.tmp 7) .nil)) R
     intro c8 h
     refine Y9 (zF (B8 (gU 4 R ?_)))
     obtain⟨rv,k,h⟩:=H1 h
     refine A3j (C91 k) R ((.row (fun _=>rfl) .nil)) eK R R ((dL (.cons (.aggL (dL (.cons (.row R R) (.cons (.row R R) (.cons (.row R R) (dL (dL .nil))))))) (dL .nil)))) R ((.row .nil)) R R R ?_
     refine A8F tb R R R R R ?_
     refine A4l R R R R (tJ h ?_) (lJ h ?_)
     ·intro h
      refine Y9 (C0 R (gY 3 R (C9 ?_)))
      cases h
      exact f2 [0,1,2] C1o R (.cons (rc tb R) (.cons (.tmp 7) .nil)) R
     intro h
     refine Y9 (zF (gU 2 R ?_))
     refine Q4 R R R R (tJ h ?_) (lJ h ?_)
     ·intro h
      refine eU 10 R (C0 R (gY 3 R (C9 ?_)))
      cases h
      exact f2 [0,1,2] C1o R (.cons (rc tb R) (.cons (.tmp 7) .nil)) R
     intro h
     refine rU 8 R ?_
     refine Q4 R R R R (tJ h ?_) (lJ h ?_)
     ·intro h
      refine eU 1 R (C0 R (gY 3 R (C9 ?_)))
      cases h
      exact f2 [0,1,2] C1o R (.cons (rc tb R) (.cons (.tmp 7) .nil)) R
     intro h
     refine eU 1 R (zF (A6 ?_))
     exact .inl ⟨(),h,.vw (κ:=[0,1,2,4,5,6]) (vK (.row R (.row R (.row R (.cons R R (.cons R R (.cons R R .nil)))))) R)⟩
    intro h
    refine Y9 (zF (A6 ?_))
    exact .inl ⟨(),h,.vw (κ:=[0,1,2,4,5,6]) (vK (.row R (.row R (.row R (.cons R R (.cons R R (.cons R R .nil)))))) R)⟩
   refine gU 2 R ?_
   refine Z3 R R R R (tJ h ?_) (nJ h ?_)
   ·intro h
    refine Y9 (C0 R (hN 1 R ?_))
    exact .inl ⟨2,h,.prn [3,4,5,6,7,9,10] R⟩
   intro h
   refine Y9 (zF (A6 ?_))
   exact .inl ⟨x2,h,.prn [3,4,5,6,7,9,10] R⟩
  refine gU 2 R ?_
  refine Z3 R R R R (tJ h ?_) (nJ h ?_)
  ·intro h
   refine Y9 (C0 R (hN 2 R ?_))
   exact .inl ⟨(0,1),h,.prn [3,4,5,6,7,9,10] R⟩
  intro h
  refine Y9 (zF (A6 ?_))
  exact .inl ⟨(1,0),h,.prn [3,4,5,6,7,9,10] R⟩
 refine B8 (T1 kR (rU 2 R ?_))
 refine V5 R R R R (nJ h ?_) (tJ h ?_)
 ·intro h
  refine rU 5 R ?_
  obtain⟨e3,ie3,h⟩:=H1 h
  refine xE ie3 R (rU 1 R (lE ie3 R (rU 2 R ?_)))
  refine Q4 R R R R (tJ h ?_) (lJ h ?_)
  ·intro h
   refine rU 1 R (I0 kR (C0 R (gY 3 R (C9 ?_))))
   cases h
   exact f2 [0,1,2] C1o R (.cons (rc tb R) (.cons (.tmp 7) .nil)) R
  intro h
  refine rU 1 R (I0 kR (zF (A6 ?_)))
  exact .inl ⟨(),h,.vw (κ:=[0,1,2,3,4,5,6]) (vK (.row R (.row R (.row R (.cons R R (.cons R R (.cons R R (.cons R R .nil))))))) R)⟩
 intro h
 refine rU 12 R (I0 kR (zF (A6 ?_)))
 exact .inl ⟨(),h,.vw (κ:=[0,1,2,3,4,5,6]) (vK (.row R (.row R (.row R (.cons R R (.cons R R (.cons R R (.cons R R .nil))))))) R)⟩
end Go.Proofs.YtlaogbbcipebgaaGreat
