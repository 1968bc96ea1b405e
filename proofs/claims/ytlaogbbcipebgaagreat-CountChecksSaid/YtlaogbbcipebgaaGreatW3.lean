/- What functions of the program compute: plain functions, and the proofs. -/
import Derived.Test.YtlaogbbcipebgaaGreatW2
set_option linter.unusedVariables false
set_option linter.unusedSimpArgs false
open Go Go.Proofs.YtlaogbbcipebgaaGreat.Sh Go.Proofs
namespace Go.Proofs.YtlaogbbcipebgaaGreat
set_option maxRecDepth 100000
set_option maxHeartbeats 40000000
def A0z (F:Nat) (B19:Int→Option (Except Int E6)) (t:E6) (o:D2) (x3 e3:Int):Option (Except Int E6):=(A0g F t e3 o.what).bind fun rv10=>(J4 F rv10 174).bind fun rv11=>exE rv11 (fun x9=>some (.error x9)) (fun v7=>B19 (W (x3+1)))
def R3 (F:Nat) (t:E6) (rv7:(Int × D5)) (e6:F6) (K:Int→Option (Except Int E6)):Nat→Int→Option (Except Int E6)
 | 0,_=>none
 | n+1,x6=>if x6<(rv7.2.squibs.length:Int)then((P3 rv7.2.squibs x6).bind fun e7=>if(W ((W ((max (max (W (e6.L5-e7.A4s)) (W (e7.A4s-e6.L4))) 0)*(max (max (W (e6.L5-e7.A4s)) (W (e7.A4s-e6.L4))) 0)))+(W ((max (max (W (e6.L7-e7.A4t)) (W (e7.A4t-e6.L6))) 0)*(max (max (W (e6.L7-e7.A4t)) (W (e7.A4t-e6.L6))) 0)))))<(W (e7.clear*e7.clear))then(if t.I1=true then((P3 t.A4 x6).bind fun e8=>(J4 F (decide (e8=2)) 173).bind fun rv8=>exE rv8 (fun x7=>some (.error x7)) (fun v5=>R3 F t rv7 e6 K n (W (x6+1))))else((J4 F true 173).bind fun rv9=>exE rv9 (fun x8=>some (.error x8)) (fun v6=>R3 F t rv7 e6 K n (W (x6+1)))))else(R3 F t rv7 e6 K n (W (x6+1))))else(K x6)
def A00 (F:Nat) (B19:Int→Option (Except Int E6)) (t:E6) (o:D2) (x3 e3:Int):Option (Except Int E6):=(A30 F (D5.mk t.O0 t.V4 t.O3 t.A0r t.O4 t.X3 t.A0s) o.what).bind fun rv7=>if rv7.1<0 then(A0z F B19 t o x3 e3)else((P3 rv7.2.zones rv7.1).bind fun e6=>R3 F t rv7 e6 (fun x6=>A0z F B19 t o x3 e3) F 0)
def W7 (F:Nat) (t:E6) (o:D2) (e:Int) (A:(List Int)):Option (Except Int E6):=(A0f F {t with A9:=A} o.what).bind fun rv15=>if rv15=true then((J4 F false 176).bind fun rv16=>exE rv16 (fun x13=>some (.error x13)) (fun v10=>none))else((A0f F {t with A9:=A} e).bind fun rv17=>(J4 F (!rv17) 176).bind fun rv18=>exE rv18 (fun x14=>some (.error x14)) (fun v11=>some (.ok {t with A9:=A})))
def J9 (F:Nat) (o:D2) (y:(List Int)) (K:(List Int)→Int→Option (Except Int E6)):Nat→(List Int)→Int→Option (Except Int E6)
 | 0,_,_=>none
 | n+1,A,x10=>if x10<(y.length:Int)then((P3 y x10).bind fun e9=>(P3 A e9).bind fun e10=>(A5g A e9 o.what).bind fun A2=>J9 F o y K n A2 (W (x10+1)))else(K A x10)
def J0 (F:Nat) (t:E6) (o:D2) (y:(List Int)) (K:Int→Option (Except Int E6)):Nat→Int→Option (Except Int E6)
 | 0,_=>none
 | n+1,x3=>if x3<(y.length:Int)then((P3 y x3).bind fun e3=>if o.what<0 then((J4 F true 172).bind fun rv5=>exE rv5 (fun x4=>some (.error x4)) (fun v3=>A00 F (J0 F t o y K n) t o x3 e3))else((P3 t.O3 e3).bind fun e4=>(P3 t.O0 o.what).bind fun e5=>(J4 F (decide (e5.grade≤e4.grade)) 172).bind fun rv6=>exE rv6 (fun x5=>some (.error x5)) (fun v4=>A00 F (J0 F t o y K n) t o x3 e3)))else(K x3)
def A01 (F:Nat) (t:E6) (o:D2) (e:Int) (y:(List Int)):Option (Except Int E6):=J0 F t o y (fun x3=>J9 F o y (fun A x10=>if o.what<0 then((J4 F true 175).bind fun rv12=>exE rv12 (fun x11=>some (.error x11)) (fun v8=>W7 F t o e A))else((A03 F {t with A9:=A} o.what).bind fun rv13=>(P3 t.O0 o.what).bind fun e11=>(J4 F (decide (rv13≤e11.room)) 175).bind fun rv14=>exE rv14 (fun x12=>some (.error x12)) (fun v9=>W7 F t o e A))) F t.A9 0) F 0
def Z8 (F:Nat) (t:E6) (o:D2) (e:Int):Option (Except Int E6):=if 0≤o.with_ then((A8i [o.who] [o.with_]).bind fun q=>A01 F t o e q)else(A01 F t o e [o.who])
def A02 (F:Nat) (t:E6) (o:D2) (e:Int):Option (Except Int E6):=if o.with_<0 then((J4 F true 171).bind fun rv3=>exE rv3 (fun x=>some (.error x)) (fun v=>Z8 F t o e))else((P3 t.A9 o.with_).bind fun e2=>(J4 F (decide (e2=e)) 171).bind fun rv4=>exE rv4 (fun x2=>some (.error x2)) (fun v2=>Z8 F t o e))
def A2u (F:Nat) (t:E6) (o:D2):Option (Except Int E6):=(P3 t.A9 o.who).bind fun e=>(Z1 F t.V4 (G6.mk e o.what)).bind fun rv=>if rv=true then(A02 F t o e)else((Z1 F t.V4 (G6.mk o.what e)).bind fun rv2=>if rv2=true then(A02 F t o e)else((J4 F false 171).bind fun rv3=>exE rv3 (fun x=>some (.error x)) (fun v=>none)))
theorem A4Y {F t o r} (h:A2u F t o=some r):SCX Tryz.prog 196 [rf 0 13,.d (D2.d o)] (B8A t []) r 43 (fun(a:E6) => .d (.tup [])) (fun(a:E6)=>(B8A a [])):=by
 rw[A2u]at h
 refine oN Tryz.func196 ?_
 refine S3 ?_
 refine W3 fun df=>?_
 refine hE 2 R (S3 ?_)
 refine W3 fun df=>?_
 refine T1 kR (rU 7 R ?_)
 obtain⟨e,ie,h⟩:=H1 h
 refine Y1 tb R R R R R R (F0 ie) (ix1 ie) R R ?_
 refine A15 (y:=vI e) tb R R R R (U5 (g:=fun a=>T.d (vI a)) ie) R R R R ?_
 refine rU 1 R (I0 kR (S3 ?_))
 refine A5V (fun zz:Unit=>A02 F t o e=some r) (fun zz:Unit=>⟨[(2,rf 4 1),(3,rf 5 5),(4,dI e),(5,dB true)],B8A t [bx 1 (rf 0 13),bx 5 (.d (D2.d o))]⟩) ?_ ?_
 ·clear h
  rintro⟨⟩ h
  rw[A02]at h
  refine S3 ?_
  refine A5V (fun zz:Unit=>Z8 F t o e=some r) (fun zz:Unit=>⟨[(2,rf 4 1),(3,rf 5 5),(4,dI e)],B8A t [bx 1 (rf 0 13),bx 5 (.d (D2.d o))]⟩) ?_ ?_
  ·clear h
   rintro⟨⟩ h
   rw[Z8]at h
   refine S3 ?_
   refine W3 fun df=>?_
   refine hU 2 R (P7 tb R R R R R R R R R R R R R (eU 1 R (S3 ?_)))
   refine A5V (fun zz:(List Int)=>A01 F t o e zz=some r) (fun zz:(List Int)=>⟨[(2,rf 4 1),(3,rf 5 5),(4,dI e),(6,.row 6 1 0 (zz).length)],B8A t [bx 1 (rf 0 13),bx 5 (.d (D2.d o)),B0u zz]⟩) ?_ ?_
   ·clear h
    rintro y h
    rw[A01]at h
    refine S3 (S3 ?_)
    refine W3 fun df=>?_
    refine hU 1 R (A8F tb R R R R R (eU 1 R (A5A ?_)))
    obtain⟨K19,hK19,h⟩:∃ K,K=_∧J0 F t o y K F 0=some r:=⟨_,rfl,h⟩
    refine lM (fun m st=>∃ (x3:Int),J0 F t o y K19 m x3=some r∧st=⟨[(2,rf 4 1),(3,rf 5 5),(4,dI e),(6,.row 6 1 0 (y).length),(74,.row 6 1 0 (y).length),(75,dI (y.length:Int)),(76,dI x3)],B8A t [bx 1 (rf 0 13),bx 5 (.d (D2.d o)),B0u y]⟩) ⟨0,h,R⟩ (.prn [2,3,4,6,74,75,76] R) ?_
    clear h
    rintro m19 st ⟨x3,h,rfl⟩
    cases m19 with
    | zero=>cases(show(none:Option (Except Int E6))=some r from h)
    | succ m19 =>
    rw[J0]at h
    refine S3 ?_
    refine W3 fun df=>?_
    refine J1 ?_
    refine Q4 R R R R (tJ h ?_) (lJ h ?_)
    ·intro h
     refine Y9 (S3 ?_)
     refine W3 fun df=>?_
     refine zT (S3 (A5A (S3 ?_)))
     refine W3 fun df=>?_
     refine J1 ?_
     obtain⟨e3,ie3,h⟩:=H1 h
     refine Y1 tb R R R R R R (F0 ie3) (ix1 ie3) R R ?_
     refine A15 (y:=vI e3) tb R R R R (U5 (g:=fun a=>T.d (vI a)) ie3) R R R R ?_
     refine eU 1 R (S3 ?_)
     refine A5V (fun zz:Unit=>A00 F (J0 F t o y K19 m19) t o x3 e3=some r) (fun zz:Unit=>⟨[(2,rf 4 1),(3,rf 5 5),(4,dI e),(6,.row 6 1 0 (y).length),(8,dI e3),(74,.row 6 1 0 (y).length),(75,dI (y.length:Int)),(76,dI x3)],B8A t [bx 1 (rf 0 13),bx 5 (.d (D2.d o)),B0u y]⟩) ?_ ?_
     ·clear h
      rintro⟨⟩ h
      rw[A00]at h
      refine S3 ?_
      refine A5V (fun zz:Unit=>A0z F (J0 F t o y K19 m19) t o x3 e3=some r) (fun zz:Unit=>⟨[(2,rf 4 1),(3,rf 5 5),(4,dI e),(6,.row 6 1 0 (y).length),(8,dI e3),(74,.row 6 1 0 (y).length),(75,dI (y.length:Int)),(76,dI x3)],B8A t [bx 1 (rf 0 13),bx 5 (.d (D2.d o)),B0u y]⟩) ?_ ?_
      ·clear h
       rintro⟨⟩ h
       rw[A0z]at h
       refine W3 fun df=>?_
       refine X0 (rU 4 R ?_)
       obtain⟨rv10,k10,h⟩:=H1 h
       refine A19 (A27 k10) R eK R R ((.cons (.ref R (.aggL (dL (dL (dL (dL (dL (dL (dL (dL (.cons (.row R R) (.cons (.row R R) (.cons (.row R R) (dL (dL .nil))))))))))))))) (dL (dL .nil)))) R R ?_
       obtain⟨rv11,k11,h⟩:=H1 h
       rcases eX h with⟨x9,nv7,h⟩ | ⟨v7,nv7,h⟩
       ·refine T2 (H8 [] ((E1 k11).err nv7) R eK R (.inl ⟨R,R,R⟩) R R R R .nil R ?_)
        intro cnt
        refine Q0 (E9 (E9 (Q0 (E9 ?_))))
        cases h
        exact M3 (L:=B8A t []) (κ:=[0,1,2,3]) (vK (.cons R R C1o) R) (.inr ⟨_,R,R⟩)
       refine cO [] ((E1 k11).ok nv7) eK .nil R .nil .nil R (R2 ?_)
       refine W3 fun df=>?_
       refine hN 2 R ?_
       exact bk ⟨(W (x3+1)),h,R⟩ (.prn [2,3,4,6,74,75,76] R)
      refine S3 ?_
      refine W3 fun df=>?_
      refine T1 kR (rU 6 R ?_)
      obtain⟨rv7,k7,h⟩:=H1 h
      refine A2X (A7k k7) eK R R R ((.cons R (.cons R .nil))) R R R (I0 kR (A5A ?_))
      refine A9S eK Tryz.func148 R R R R R R fun lb=>?_
      simp only[L8,Nat.zero_add,Nat.reduceAdd]
      refine U7 (U7 (A1h (A0u (rU 1 R ?_))))
      refine Q4 R R R R (tJ h ?_) (lJ h ?_)
      ·intro h
       refine T7 (I8 (A3R R (A9v (A4F ?_))))
       refine⟨R,(B8A t [bx 1 (rf 0 13),bx 5 (.d (D2.d o)),B0u y,c1 (vI rv7.1),bx 7 (.d (D5.d rv7.2))]),[0,1,2,3,4,5,6,7,8],(vK (.cons R R (.row R (.row R (.row R (.cons R R (.cons R R (.row R (.cons R R (.cons R R .nil))))))))) R),?_⟩
       refine D3 (A6 ?_)
       exact .inl ⟨(),h,.vw (κ:=[0,1,2,3,4,5,6]) (vK (.cons R R (.row R (.row R (.row R (.cons R R (.cons R R C23)))))) R)⟩
      intro h
      refine T7 (I8 (A1K R (A2O (I8 (U7 (A1h (A0u (rU 3 R ?_))))))))
      obtain⟨e6,ie6,h⟩:=H1 h
      refine xE ie6 R (rU 1 R (lE ie6 R (rU 2 R (T7 (I8 (U7 (A1h (A0u (rU 2 R (I7 tb R (rU 1 R (T7 (I8 (A59 ?_))))))))))))))
      obtain⟨K27,hK27,h⟩:∃ K,K=_∧R3 F t rv7 e6 K F 0=some r:=⟨_,rfl,h⟩
      refine A9Q (fun m ph st=>∃ (x6:Int),R3 F t rv7 e6 K27 m x6=some r∧ph=SX.norm∧st=⟨[(0,.d (.v (.func (.yield lb) #[] #[]))),(4,rf 9 4),(18,.d (.arr 6 ((rv7.2.squibs).map D1.d))),(19,dI (rv7.2.squibs.length:Int)),(20,dI x6)],B8A t [bx 1 (rf 0 13),bx 5 (.d (D2.d o)),B0u y,c1 (vI rv7.1),bx 7 (.d (D5.d rv7.2)),bx 4 (.d (.agg [vI e6.L5,vI e6.L4,vI e6.L7,vI e6.L6]))]⟩) (.prn [0,4,18,19,20] R) ⟨0,h,R,R⟩ ?_
      clear h
      rintro m27 ph st ⟨x6,h,rfl,rfl⟩
      cases m27 with
      | zero=>cases(show(none:Option (Except Int E6))=some r from h)
      | succ m27 =>
      rw[R3]at h
      refine U7 (A1h (A0u ?_))
      refine Q4 R R R R (tJ h ?_) (lJ h ?_)
      ·intro h
       refine T7 (I8 (U7 (A3R R (A2O (I8 (U7 (A59 (U7 (A1h (A0u (rU 1 R ?_)))))))))))
       obtain⟨e7,ie7,h⟩:=H1 h
       refine yE ie7 R R (rU 3 R (T7 (I8 (U7 (A9R (T1 kR (rU 14 R (A9L R R R R R (rU 14 R (A9L R R R R R (rU 2 R (I0 kR (I8 (U7 (A1h (A0u (rU 12 R ?_)))))))))))))))))
       refine Q4 R R R R (tJ h ?_) (lJ h ?_)
       ·intro h
        refine rU 3 R (A99 ?_)
        (with_reducible apply A9M (ys:=[vI x6]));(iterate 7 exact rfl)
        dsimp only[B1H]
        refine hE 1 R ?_
        refine⟨R,?_⟩
        with_reducible apply B6U
        with_reducible apply C0i
        refine rU 5 R ?_
        refine X8 (tI h ?_) (fI h ?_)
        ·intro c10 h
         refine rU 8 R ?_
         obtain⟨e8,ie8,h⟩:=H1 h
         refine Y1 tb R R R R R R (F0 ie8) (ix1 ie8) R R ?_
         refine A15 (y:=vI e8) tb R R R R (U5 (g:=fun a=>T.d (vI a)) ie8) R R R R ?_
         refine A3s R R R R (rU 1 R ?_)
         obtain⟨rv8,k8,h⟩:=H1 h
         rcases eX h with⟨x7,nv5,h⟩ | ⟨v5,nv5,h⟩
         ·refine T2 (H8 [] ((E1 k8).err nv5) R eK R (.inl ⟨R,R,R⟩) R R R R .nil R ?_)
          intro cnt
          refine Q0 ?_
          refine⟨(B8A t [bx 1 (rf 0 13),bx 5 (.d (D2.d o)),B0u y,c1 (vI rv7.1),bx 7 (.d (D5.d rv7.2)),bx 4 (.d (.agg [vI e6.L5,vI e6.L4,vI e6.L7,vI e6.L6])),bx 6 (.d (D1.d e7))]),[0,1,2,3,4,5,6,7,8,9,10],(vK (.cons R R (.row R (.row R (.row R (.cons R R (.cons R R (.row R (.cons R R (.cons R R (.cons R R (.cons R R .nil))))))))))) R),R,?_⟩
          with_reducible apply B8v
          refine A5B (A6R (A5B (A5B (A6R ?_))))
          refine⟨R,R,(B8A t [bx 1 (rf 0 13),bx 5 (.d (D2.d o)),B0u y,c1 (vI rv7.1),bx 7 (.d (D5.d rv7.2))]),[0,1,2,3,4,5,6,7,8],(vK (.cons R R (.row R (.row R (.row R (.cons R R (.cons R R (.row R (.cons R R (.cons R R .nil))))))))) R),?_⟩
          refine Q0 (E9 (Q0 (E9 (E9 (Q0 (E9 ?_))))))
          cases h
          exact M3 (L:=B8A t []) (κ:=[0,1,2,3]) (vK (.cons R R C1o) R) (.inr ⟨_,R,R⟩)
         refine cO [] ((E1 k8).ok nv5) eK .nil R .nil .nil R (R2 (D3 ?_))
         refine⟨(B8A t [bx 1 (rf 0 13),bx 5 (.d (D2.d o)),B0u y,c1 (vI rv7.1),bx 7 (.d (D5.d rv7.2)),bx 4 (.d (.agg [vI e6.L5,vI e6.L4,vI e6.L7,vI e6.L6])),bx 6 (.d (D1.d e7))]),[0,1,2,3,4,5,6,7,8,9,10],(vK (.cons R R (.row R (.row R (.row R (.cons R R (.cons R R (.row R (.cons R R (.cons R R (.cons R R (.cons R R .nil))))))))))) R),?_⟩
         with_reducible apply B3t
         refine A0u (rU 2 R (T7 (I8 (A1K R (A2O (A3G (I8 (A1h (A0u (rU 2 R (T7 (I8 ?_))))))))))))
         exact bk ⟨(W (x6+1)),h,R,R⟩ (.vw (κ:=[0,1,2,3,4,5,6,7,8,9]) (vK (.cons R R (.row R (.row R (.row R (.cons R R (.cons R R (.row R (.cons R R (.cons R R (.cons R R .nil)))))))))) R))
        intro c10 h
        refine rU 12 R ?_
        obtain⟨rv9,k9,h⟩:=H1 h
        rcases eX h with⟨x8,nv6,h⟩ | ⟨v6,nv6,h⟩
        ·refine T2 (H8 [] ((E1 k9).err nv6) R eK R (.inl ⟨R,R,R⟩) R R R R .nil R ?_)
         intro cnt
         refine Q0 ?_
         refine⟨(B8A t [bx 1 (rf 0 13),bx 5 (.d (D2.d o)),B0u y,c1 (vI rv7.1),bx 7 (.d (D5.d rv7.2)),bx 4 (.d (.agg [vI e6.L5,vI e6.L4,vI e6.L7,vI e6.L6])),bx 6 (.d (D1.d e7))]),[0,1,2,3,4,5,6,7,8,9,10],(vK (.cons R R (.row R (.row R (.row R (.cons R R (.cons R R (.row R (.cons R R (.cons R R (.cons R R (.cons R R .nil))))))))))) R),R,?_⟩
         with_reducible apply B8v
         refine A5B (A6R (A5B (A5B (A6R ?_))))
         refine⟨R,R,(B8A t [bx 1 (rf 0 13),bx 5 (.d (D2.d o)),B0u y,c1 (vI rv7.1),bx 7 (.d (D5.d rv7.2))]),[0,1,2,3,4,5,6,7,8],(vK (.cons R R (.row R (.row R (.row R (.cons R R (.cons R R (.row R (.cons R R (.cons R R .nil))))))))) R),?_⟩
         refine Q0 (E9 (Q0 (E9 (E9 (Q0 (E9 ?_))))))
         cases h
         exact M3 (L:=B8A t []) (κ:=[0,1,2,3]) (vK (.cons R R C1o) R) (.inr ⟨_,R,R⟩)
        refine cO [] ((E1 k9).ok nv6) eK .nil R .nil .nil R (R2 (D3 ?_))
        refine⟨(B8A t [bx 1 (rf 0 13),bx 5 (.d (D2.d o)),B0u y,c1 (vI rv7.1),bx 7 (.d (D5.d rv7.2)),bx 4 (.d (.agg [vI e6.L5,vI e6.L4,vI e6.L7,vI e6.L6])),bx 6 (.d (D1.d e7))]),[0,1,2,3,4,5,6,7,8,9,10],(vK (.cons R R (.row R (.row R (.row R (.cons R R (.cons R R (.row R (.cons R R (.cons R R (.cons R R (.cons R R .nil))))))))))) R),?_⟩
        with_reducible apply B3t
        refine A0u (rU 2 R (T7 (I8 (A1K R (A2O (A3G (I8 (A1h (A0u (rU 2 R (T7 (I8 ?_))))))))))))
        exact bk ⟨(W (x6+1)),h,R,R⟩ (.vw (κ:=[0,1,2,3,4,5,6,7,8,9]) (vK (.cons R R (.row R (.row R (.row R (.cons R R (.cons R R (.row R (.cons R R (.cons R R (.cons R R .nil)))))))))) R))
       intro h
       refine rU 6 R (T7 (I8 (A1K R (A2O (A3G (I8 (A1h (A0u (rU 2 R (T7 (I8 ?_)))))))))))
       exact bk ⟨(W (x6+1)),h,R,R⟩ (.vw (κ:=[0,1,2,3,4,5,6,7,8,9]) (vK (.cons R R (.row R (.row R (.row R (.cons R R (.cons R R (.row R (.cons R R (.cons R R (.cons R R .nil)))))))))) R))
      intro h
      refine T7 (I8 (U7 (A1K R (B13 (A4E (A4E ?_))))))
      subst hK27
      refine A76 ?_
      refine⟨R,(B8A t [bx 1 (rf 0 13),bx 5 (.d (D2.d o)),B0u y,c1 (vI rv7.1),bx 7 (.d (D5.d rv7.2))]),[0,1,2,3,4,5,6,7,8],(vK (.cons R R (.row R (.row R (.row R (.cons R R (.cons R R (.row R (.cons R R (.cons R R .nil))))))))) R),?_⟩
      refine D3 (A6 ?_)
      exact .inl ⟨(),h,.vw (κ:=[0,1,2,3,4,5,6]) (vK (.cons R R (.row R (.row R (.row R (.cons R R (.cons R R C23)))))) R)⟩
     refine W3 fun df=>?_
     refine A0V kR (rU 2 R ?_)
     refine Q4 R R R R (tJ h ?_) (lJ h ?_)
     ·intro h
      refine rU 22 R ?_
      obtain⟨rv5,k5,h⟩:=H1 h
      rcases eX h with⟨x4,nv3,h⟩ | ⟨v3,nv3,h⟩
      ·refine P0 kR kR (H8 [] ((E1 k5).err nv3) R eK R (.inl ⟨R,R,R⟩) R R R R .nil R ?_)
       intro cnt
       refine E9 (Q0 (E9 (E9 (Q0 (E9 ?_)))))
       cases h
       exact M3 (L:=B8A t []) (κ:=[0,1,2,3]) (vK (.cons R R C1o) R) (.inr ⟨_,R,R⟩)
      refine cO [] ((E1 k5).ok nv3) eK .nil R .nil .nil R (N0 kR (A6 ?_))
      exact .inl ⟨(),h,.prn [2,3,4,6,8,74,75,76] R⟩
     intro h
     refine rU 7 R ?_
     obtain⟨e4,ie4,h⟩:=H1 h
     refine xE ie4 R (rU 1 R (lE ie4 R (rU 7 R ?_)))
     obtain⟨e5,ie5,h⟩:=H1 h
     refine xE ie5 R (rU 1 R (lE ie5 R (A3k R R R R (rU 1 R ?_))))
     obtain⟨rv6,k6,h⟩:=H1 h
     rcases eX h with⟨x5,nv4,h⟩ | ⟨v4,nv4,h⟩
     ·refine P0 kR kR (H8 [] ((E1 k6).err nv4) R eK R (.inl ⟨R,R,R⟩) R R R R .nil R ?_)
      intro cnt
      refine E9 (Q0 (E9 (E9 (Q0 (E9 ?_)))))
      cases h
      exact M3 (L:=B8A t []) (κ:=[0,1,2,3]) (vK (.cons R R C1o) R) (.inr ⟨_,R,R⟩)
     refine cO [] ((E1 k6).ok nv4) eK .nil R .nil .nil R (N0 kR (A6 ?_))
     exact .inl ⟨(),h,.prn [2,3,4,6,8,74,75,76] R⟩
    intro h
    refine Y9 (S3 ?_)
    refine W3 fun df=>?_
    refine C1 R (N5 (E4 (E4 ?_)))
    subst hK19
    refine W3 fun df=>?_
    refine B8 (gU 1 R (A8F tb R R R R R (eU 1 R (E3 ?_))))
    obtain⟨K30,hK30,h⟩:∃ K,K=_∧J9 F o y K F t.A9 0=some r:=⟨_,rfl,h⟩
    refine lW (fun m st=>∃ (A:(List Int)) (x10:Int),J9 F o y K30 m A x10=some r∧st=⟨[(2,rf 4 1),(3,rf 5 5),(4,dI e),(139,.row 6 1 0 (y).length),(140,dI (y.length:Int)),(141,dI x10)],[bx 13 (C6 {t with A9:=A} 1 2 3),B0u A,B0u t.A8,B0u t.A4,bx 1 (rf 0 13),bx 5 (.d (D2.d o)),B0u y]⟩) ⟨t.A9,0,h,R⟩ (.prn [2,3,4,139,140,141] R) ?_
    clear h
    rintro m30 st ⟨A,x10,h,rfl⟩
    cases m30 with
    | zero=>cases(show(none:Option (Except Int E6))=some r from h)
    | succ m30 =>
    rw[J9]at h
    refine qG ?_
    refine Q4 R R R R (tJ h ?_) (lJ h ?_)
    ·intro h
     refine Y9 (B8 (zT (B8 (E3 (qG ?_)))))
     obtain⟨e9,ie9,h⟩:=H1 h
     refine Y1 tb R R R R R R (F0 ie9) (ix1 ie9) R R ?_
     refine A15 (y:=vI e9) tb R R R R (U5 (g:=fun a=>T.d (vI a)) ie9) R R R R ?_
     refine eU 1 R (T1 kR (rU 8 R ?_))
     obtain⟨e10,ie10,h⟩:=H1 h
     refine Y1 tb R R R R R R (F0 ie10) (ix1 ie10) R R ?_
     obtain⟨A2,iA2,h⟩:=H1 h
     refine A5d (a':=(o.what:Int)) tb R R R R ie10 R R R R iA2 R R ?_
     dsimp only[List.set_cons_zero,List.set_cons_succ,J2,C6]
     first | rw[A2a iA2] | skip
     refine I0 kR (hN 2 R ?_)
     exact bk ⟨A2,(W (x10+1)),h,R⟩ (.prn [2,3,4,139,140,141] R)
    intro h
    refine Y9 (B8 (C1 R (N5 (E4 (E4 ?_)))))
    subst hK30
    refine B8 ?_
    refine W5 (fun zz:Unit=>W7 F t o e A=some r) (fun zz:Unit=>⟨[(2,rf 4 1),(3,rf 5 5),(4,dI e)],[bx 13 (C6 {t with A9:=A} 1 2 3),B0u A,B0u t.A8,B0u t.A4,bx 1 (rf 0 13),bx 5 (.d (D2.d o))]⟩) ?_ ?_
    ·clear h
     rintro⟨⟩ h
     rw[W7]at h
     refine X0 (rU 3 R ?_)
     obtain⟨rv15,k15,h⟩:=H1 h
     refine A4k (A3B k15) eK R R ((.cons (.ref R (.aggL (dL (dL (dL (dL (dL (dL (dL (dL (.cons (.row R R) (.cons (.row R R) (.cons (.row R R) (dL (dL .nil))))))))))))))) (dL .nil))) R R (tI h ?_) (fI h ?_)
     ·intro c13 h
      refine rU 7 R ?_
      obtain⟨rv16,k16,h⟩:=H1 h
      rcases eX h with⟨x13,nv10,h⟩ | ⟨v10,nv10,h⟩
      ·refine T2 (H8 [] ((E1 k16).err nv10) R eK R (.inl ⟨R,R,R⟩) R R R R .nil R ?_)
       intro cnt
       cases h
       exact M3 (L:=[bx 13 (C6 {t with A9:=A} 1 2 3),B0u A,B0u t.A8,B0u t.A4]) (κ:=[0,1,2,3]) (vK (.cons R R C1o) R) (.inr ⟨_,R,R⟩)
      cases h
     intro c13 h
     refine rU 4 R ?_
     obtain⟨rv17,k17,h⟩:=H1 h
     refine A19 (A3B k17) R eK R R ((.cons (.ref R (.aggL (dL (dL (dL (dL (dL (dL (dL (dL (.cons (.row R R) (.cons (.row R R) (.cons (.row R R) (dL (dL .nil))))))))))))))) (dL .nil))) R R (rU 2 R ?_)
     obtain⟨rv18,k18,h⟩:=H1 h
     rcases eX h with⟨x14,nv11,h⟩ | ⟨v11,nv11,h⟩
     ·refine T2 (H8 [] ((E1 k18).err nv11) R eK R (.inl ⟨R,R,R⟩) R R R R .nil R ?_)
      intro cnt
      cases h
      exact M3 (L:=[bx 13 (C6 {t with A9:=A} 1 2 3),B0u A,B0u t.A8,B0u t.A4]) (κ:=[0,1,2,3]) (vK (.cons R R C1o) R) (.inr ⟨_,R,R⟩)
     refine cO [] ((E1 k18).ok nv11) eK .nil R .nil .nil R (R2 ?_)
     cases h
     exact A1R (fS [0,1,2,3] (.inl ⟨_,R,R,R⟩) R .nil (vK (.cons R R C1o) R))
    refine A0V kR (rU 2 R ?_)
    refine Q4 R R R R (tJ h ?_) (lJ h ?_)
    ·intro h
     refine rU 17 R ?_
     obtain⟨rv12,k12,h⟩:=H1 h
     rcases eX h with⟨x11,nv8,h⟩ | ⟨v8,nv8,h⟩
     ·refine P0 kR kR (H8 [] ((E1 k12).err nv8) R eK R (.inl ⟨R,R,R⟩) R R R R .nil R ?_)
      intro cnt
      refine E9 ?_
      cases h
      exact M3 (L:=[bx 13 (C6 {t with A9:=A} 1 2 3),B0u A,B0u t.A8,B0u t.A4]) (κ:=[0,1,2,3]) (vK (.cons R R C1o) R) (.inr ⟨_,R,R⟩)
     refine cO [] ((E1 k12).ok nv8) eK .nil R .nil .nil R (N0 kR (A6 ?_))
     exact .inl ⟨(),h,.vw (κ:=[0,1,2,3,4,5]) (vK (.cons R R (.row R (.row R (.row R (.cons R R (.cons R R .nil)))))) R)⟩
    intro h
    refine rU 4 R ?_
    obtain⟨rv13,k13,h⟩:=H1 h
    refine A19 (A3C k13) R eK R R ((.cons (.ref R (.aggL (dL (dL (dL (dL (dL (dL (dL (dL (.cons (.row R R) (.cons (.row R R) (.cons (.row R R) (dL (dL .nil))))))))))))))) (dL .nil))) R R (rU 7 R ?_)
    obtain⟨e11,ie11,h⟩:=H1 h
    refine xE ie11 R (rU 1 R (lE ie11 R (B8a R R R R (rU 1 R ?_))))
    obtain⟨rv14,k14,h⟩:=H1 h
    rcases eX h with⟨x12,nv9,h⟩ | ⟨v9,nv9,h⟩
    ·refine P0 kR kR (H8 [] ((E1 k14).err nv9) R eK R (.inl ⟨R,R,R⟩) R R R R .nil R ?_)
     intro cnt
     refine E9 ?_
     cases h
     exact M3 (L:=[bx 13 (C6 {t with A9:=A} 1 2 3),B0u A,B0u t.A8,B0u t.A4]) (κ:=[0,1,2,3]) (vK (.cons R R C1o) R) (.inr ⟨_,R,R⟩)
    refine cO [] ((E1 k14).ok nv9) eK .nil R .nil .nil R (N0 kR (A6 ?_))
    exact .inl ⟨(),h,.vw (κ:=[0,1,2,3,4,5]) (vK (.cons R R (.row R (.row R (.row R (.cons R R (.cons R R .nil)))))) R)⟩
   refine W3 fun df=>?_
   refine gU 2 R ?_
   refine A7I R R R R (tJ h ?_) (mJ h ?_)
   ·intro h
    refine Y9 (C0 R (hU 3 R (P7 tb R R R R R R R R R R R R R ?_)))
    obtain⟨q,iq,h⟩:=H1 h
    refine B2k (g:=vI) (w:=[o.who]) (v:=[o.with_]) (B8A t [bx 1 (rf 0 13),bx 5 (.d (D2.d o)),none,B0u [o.with_]]) tb R R R R R R R R R R R iq R R R R R (nU 1 R ?_)
    exact .inl ⟨q,h,.vw (κ:=[0,1,2,3,4,5,8]) (vK (.cons R R (.row R (.row R (.row R (.cons R R (.cons R R C23)))))) R)⟩
   intro h
   refine Y9 (zF (A6 ?_))
   exact .inl ⟨[o.who],h,.vw (κ:=[0,1,2,3,4,5,6]) (vK (.cons R R (.row R (.row R (.row R (.cons R R (.cons R R C23)))))) R)⟩
  refine W3 fun df=>?_
  refine A0V kR (rU 4 R ?_)
  refine Q4 R R R R (tJ h ?_) (lJ h ?_)
  ·intro h
   refine rU 14 R ?_
   obtain⟨rv3,k3,h⟩:=H1 h
   rcases eX h with⟨x,nv,h⟩ | ⟨v,nv,h⟩
   ·refine P0 kR kR (H8 [] ((E1 k3).err nv) R eK R (.inl ⟨R,R,R⟩) R R R R .nil R ?_)
    intro cnt
    refine E9 ?_
    cases h
    exact M3 (L:=B8A t []) (κ:=[0,1,2,3]) (vK (.cons R R C1o) R) (.inr ⟨_,R,R⟩)
   refine cO [] ((E1 k3).ok nv) eK .nil R .nil .nil R (N0 kR (A6 ?_))
   exact .inl ⟨(),h,.prn [2,3,4] R⟩
  intro h
  refine rU 8 R ?_
  obtain⟨e2,ie2,h⟩:=H1 h
  refine Y1 tb R R R R R R (F0 ie2) (ix1 ie2) R R ?_
  refine A15 (y:=vI e2) tb R R R R (U5 (g:=fun a=>T.d (vI a)) ie2) R R R R ?_
  refine rU 1 R (A3s R R R R (rU 2 R ?_))
  obtain⟨rv4,k4,h⟩:=H1 h
  rcases eX h with⟨x2,nv2,h⟩ | ⟨v2,nv2,h⟩
  ·refine P0 kR kR (H8 [] ((E1 k4).err nv2) R eK R (.inl ⟨R,R,R⟩) R R R R .nil R ?_)
   intro cnt
   refine E9 ?_
   cases h
   exact M3 (L:=B8A t []) (κ:=[0,1,2,3]) (vK (.cons R R C1o) R) (.inr ⟨_,R,R⟩)
  refine cO [] ((E1 k4).ok nv2) eK .nil R .nil .nil R (N0 kR (A6 ?_))
  exact .inl ⟨(),h,.prn [2,3,4] R⟩
 refine W3 fun df=>?_
 refine T1 kR (rU 8 R (S1 (v := .d (.agg [vI e,vI o.what])) tb R R (List.cons_ne_nil _ _) R R R R R R ?_))
 obtain⟨rv,k,h⟩:=H1 h
 refine M6 (A3q k) eK R R R R (tI h ?_) (fI h ?_)
 ·intro c h
  refine rU 13 R (I0 kR (A6 ?_))
  exact .inl ⟨(),h,.prn [2,3,4,5] R⟩
 intro c h
 refine rU 9 R (S1 (v := .d (.agg [vI o.what,vI e])) tb R R (List.cons_ne_nil _ _) R R R R R R ?_)
 obtain⟨rv2,k2,h⟩:=H1 h
 refine M6 (A3q k2) eK R R R R (tI h ?_) (fI h ?_)
 ·intro c2 h
  refine rU 2 R (I0 kR (A6 ?_))
  exact .inl ⟨(),h,.prn [2,3,4,5] R⟩
 intro c2 h
 refine rU 2 R (I0 kR (A6 (.inr (S3 ?_))))
 refine W3 fun df=>?_
 refine A0V kR (rU 19 R ?_)
 obtain⟨rv3,k3,h⟩:=H1 h
 rcases eX h with⟨x,nv,h⟩ | ⟨v,nv,h⟩
 ·refine P0 kR kR (H8 [] ((E1 k3).err nv) R eK R (.inl ⟨R,R,R⟩) R R R R .nil R ?_)
  intro cnt
  refine E9 ?_
  cases h
  exact M3 (L:=B8A t []) (κ:=[0,1,2,3]) (vK (.cons R R C1o) R) (.inr ⟨_,R,R⟩)
 cases h
def A2v (F:Nat) (q:D1) (c:D2):Option Bool:=(S9 F q.keys c.what).bind fun rv=>some rv
theorem A8m {F q c r} (h:A2v F q c=some r):PC Tryz.prog 222 [D1.d q,.el 5 (([c]).map D2.d) ((0:Int)).toNat 0] (vB r):=by
 rw[A2v]at h
 refine oW Tryz.func222 ?_
 refine gY 2 R (gU 3 R (I4 (y:=vI c.what) tb (U5 (g:=D2.d) (R:P3 [c] 0=some c)) R ?_))
 obtain⟨rv,k,h⟩:=H1 h
 refine J5 (A1g k) eK R R R R (eU 1 R (C9 ?_))
 cases h
 exact f1 3 R
def A2w (F:Nat) (c:E6) (a:D2):Option (Except Int E6):=(S8 F c a.who).bind fun rv=>exE rv (fun x=>some (.error x)) (fun v=>(P3 v.A8 a.what).bind fun e=>(J4 F (decide (e<0)) 174).bind fun rv2=>exE rv2 (fun x2=>some (.error x2)) (fun v2=>(A2J F v (fun a0=>A2v F a0 a)).bind fun rv3=>(J4 F (!rv3) 177).bind fun rv4=>exE rv4 (fun x3=>some (.error x3)) (fun v3=>(A5g v.A8 a.what a.who).bind fun q=>some (.ok {v with A8:=q}))))
theorem A4Z {F c a r} (h:A2w F c a=some r):SCX Tryz.prog 197 [rf 0 13,.d (D2.d a)] (B8A c []) r 43 (fun(a:E6) => .d (.tup [])) (fun(a:E6)=>(B8A a [])):=by
 rw[A2w]at h
 refine oW Tryz.func197 ?_
 refine gY 1 R (B8 (X0 (rU 3 R ?_)))
 obtain⟨rv,k,h⟩:=H1 h
 rcases eX h with⟨x,nv,h⟩ | ⟨v,nv,h⟩
 ·refine T2 (H8 [0,1,2,3] ((M8 k).err nv) R eK R (.inl ⟨R,R,R⟩) R R R R (.cons R R C2C) R ?_)
  intro cnt
  refine E9 ?_
  cases h
  exact M3 (L:=[none,none,none,none]) (κ:=[0,1,2,3]) (vK (.gone R (.gone R (.gone R (.gone R .nil)))) R) (.inr ⟨_,R,R⟩)
 refine cO [0,1,2,3] ((M8 k).ok nv) eK ((.cons R R C2C)) R ((.cons R (.row (.row (.row .nil))))) .nil R (R2 (B8 (A0V kR (rU 7 R ?_))))
 obtain⟨e,ie,h⟩:=H1 h
 refine Y1 tb R R R R R R (F0 ie) (ix1 ie) R R ?_
 refine A15 (y:=vI e) tb R R R R (U5 (g:=fun a=>T.d (vI a)) ie) R R R R ?_
 refine B8b R R R R ?_
 obtain⟨rv2,k2,h⟩:=H1 h
 rcases eX h with⟨x2,nv2,h⟩ | ⟨v2,nv2,h⟩
 ·refine P0 kR kR (H8 [] ((E1 k2).err nv2) R eK R (.inl ⟨R,R,R⟩) R R R R .nil R ?_)
  intro cnt
  refine E9 ?_
  cases h
  exact M3 (L:=B8A v []) (κ:=[0,1,2,3]) (vK (.cons R R C1o) R) (.inr ⟨_,R,R⟩)
 refine cO [] ((E1 k2).ok nv2) eK .nil R .nil .nil R (N0 kR (B8 (X0 (rU 1 R (A3E R R R R ?_)))))
 obtain⟨rv3,k3,h⟩:=H1 h
 refine A0t (A5t (so:=(fun a0=>A2v F a0 a)) (soc:=[.el 5 [D2.d a] 0 0]) (soh:=fun hr=>A8m hr) (soe := .of kR) k3) R .nil eK R R ((.cons (.d (.ref R (.aggL (dL (dL (dL (dL (dL (dL (dL (dL (.cons (.row R R) (.cons (.row R R) (.cons (.row R R) (dL (dL .nil)))))))))))))))) (.cons (.fnC (.cons (.d (.ref R (.d _))) .nil)) .nil))) R .nil R R R ?_
 simp only[List.map_nil,List.append_nil]
 refine rU 1 R ?_
 obtain⟨rv4,k4,h⟩:=H1 h
 rcases eX h with⟨x3,nv3,h⟩ | ⟨v3,nv3,h⟩
 ·refine T2 (H8 [] ((E1 k4).err nv3) R eK R (.inl ⟨R,R,R⟩) R R R R .nil R ?_)
  intro cnt
  refine E9 ?_
  cases h
  exact M3 (L:=B8A v []) (κ:=[0,1,2,3]) (vK (.cons R R C1o) R) (.inr ⟨_,R,R⟩)
 refine cO [] ((E1 k4).ok nv3) eK .nil R .nil .nil R (R2 (T1 kR (rU 9 R (Y1 tb R R R R R R (F0 ie) (ix1 ie) R R ?_))))
 obtain⟨q,iq,h⟩:=H1 h
 refine A5d (a':=(a.who:Int)) tb R R R R ie R R R R iq R R ?_
 dsimp only[List.set_cons_zero,List.set_cons_succ,J2,C6]
 first | rw[A2a iq] | skip
 refine I0 kR ?_
 cases h
 exact A1R (fS [0,1,2,3] (.inl ⟨_,R,R,R⟩) R .nil (vK (.cons R R C1o) R))
def A2K (F:Nat) (c:E6) (a:D2):Option (Except Int E6):=(S8 F c a.who).bind fun rv=>exE rv (fun x=>some (.error x)) (fun v=>(P3 v.A8 a.what).bind fun e=>(J4 F (decide (e=a.who)) 174).bind fun rv2=>exE rv2 (fun x2=>some (.error x2)) (fun v2=>(A5g v.A8 a.what (-1)).bind fun q=>some (.ok {v with A8:=q})))
theorem A5u {F c a r} (h:A2K F c a=some r):SCX Tryz.prog 198 [rf 0 13,.d (D2.d a)] (B8A c []) r 43 (fun(a:E6) => .d (.tup [])) (fun(a:E6)=>(B8A a [])):=by
 rw[A2K]at h
 refine oW Tryz.func198 ?_
 refine gY 1 R (B8 (X0 (rU 3 R ?_)))
 obtain⟨rv,k,h⟩:=H1 h
 rcases eX h with⟨x,nv,h⟩ | ⟨v,nv,h⟩
 ·refine T2 (H8 [0,1,2,3] ((M8 k).err nv) R eK R (.inl ⟨R,R,R⟩) R R R R (.cons R R C2C) R ?_)
  intro cnt
  refine E9 ?_
  cases h
  exact M3 (L:=[none,none,none,none]) (κ:=[0,1,2,3]) (vK (.gone R (.gone R (.gone R (.gone R .nil)))) R) (.inr ⟨_,R,R⟩)
 refine cO [0,1,2,3] ((M8 k).ok nv) eK ((.cons R R C2C)) R ((.cons R (.row (.row (.row .nil))))) .nil R (R2 (B8 (A0V kR (rU 7 R ?_))))
 obtain⟨e,ie,h⟩:=H1 h
 refine Y1 tb R R R R R R (F0 ie) (ix1 ie) R R ?_
 refine A15 (y:=vI e) tb R R R R (U5 (g:=fun a=>T.d (vI a)) ie) R R R R ?_
 refine rU 2 R (A3s R R R R ?_)
 obtain⟨rv2,k2,h⟩:=H1 h
 rcases eX h with⟨x2,nv2,h⟩ | ⟨v2,nv2,h⟩
 ·refine P0 kR kR (H8 [] ((E1 k2).err nv2) R eK R (.inl ⟨R,R,R⟩) R R R R .nil R ?_)
  intro cnt
  refine E9 ?_
  cases h
  exact M3 (L:=B8A v []) (κ:=[0,1,2,3]) (vK (.cons R R C1o) R) (.inr ⟨_,R,R⟩)
 refine cO [] ((E1 k2).ok nv2) eK .nil R .nil .nil R (N0 kR (T1 kR (rU 7 R (Y1 tb R R R R R R (F0 ie) (ix1 ie) R R ?_))))
 obtain⟨q,iq,h⟩:=H1 h
 refine A5d (a':=((-1):Int)) tb R R R R ie R R R R iq R R ?_
 dsimp only[List.set_cons_zero,List.set_cons_succ,J2,C6]
 first | rw[A2a iq] | skip
 refine I0 kR ?_
 cases h
 exact A1R (fS [0,1,2,3] (.inl ⟨_,R,R,R⟩) R .nil (vK (.cons R R C1o) R))
def A2t (F:Nat) (c:E6) (a:D2):Option (Except Int E6):=(P3 c.A8 a.what).bind fun e=>(J4 F (decide (e=a.who)) 174).bind fun rv=>exE rv (fun x=>some (.error x)) (fun v=>(P3 c.A9 a.with_).bind fun e2=>(P3 c.A9 a.who).bind fun e3=>(J4 F (decide (e2=e3)) 171).bind fun rv2=>exE rv2 (fun x2=>some (.error x2)) (fun v2=>(A5g c.A8 a.what a.with_).bind fun q=>(A0g F {c with A8:=q} a.who e3).bind fun rv3=>(J4 F rv3 178).bind fun rv4=>exE rv4 (fun x3=>some (.error x3)) (fun v3=>some (.ok {c with A8:=q}))))
theorem A4X {F c a r} (h:A2t F c a=some r):SCX Tryz.prog 199 [rf 0 13,.d (D2.d a)] (B8A c []) r 43 (fun(a:E6) => .d (.tup [])) (fun(a:E6)=>(B8A a [])):=by
 rw[A2t]at h
 refine oW Tryz.func199 ?_
 refine gY 1 R (B8 (A0V kR (rU 7 R ?_)))
 obtain⟨e,ie,h⟩:=H1 h
 refine Y1 tb R R R R R R (F0 ie) (ix1 ie) R R ?_
 refine A15 (y:=vI e) tb R R R R (U5 (g:=fun a=>T.d (vI a)) ie) R R R R ?_
 refine rU 2 R (A3s R R R R ?_)
 obtain⟨rv,k,h⟩:=H1 h
 rcases eX h with⟨x,nv,h⟩ | ⟨v,nv,h⟩
 ·refine P0 kR kR (H8 [] ((E1 k).err nv) R eK R (.inl ⟨R,R,R⟩) R R R R .nil R ?_)
  intro cnt
  refine E9 ?_
  cases h
  exact M3 (L:=B8A c []) (κ:=[0,1,2,3]) (vK (.cons R R C1o) R) (.inr ⟨_,R,R⟩)
 refine cO [] ((E1 k).ok nv) eK .nil R .nil .nil R (N0 kR (B8 (A0V kR (rU 7 R ?_))))
 obtain⟨e2,ie2,h⟩:=H1 h
 refine Y1 tb R R R R R R (F0 ie2) (ix1 ie2) R R ?_
 refine A15 (y:=vI e2) tb R R R R (U5 (g:=fun a=>T.d (vI a)) ie2) R R R R ?_
 refine rU 7 R ?_
 obtain⟨e3,ie3,h⟩:=H1 h
 refine Y1 tb R R R R R R (F0 ie3) (ix1 ie3) R R ?_
 refine A15 (y:=vI e3) tb R R R R (U5 (g:=fun a=>T.d (vI a)) ie3) R R R R ?_
 refine A3s R R R R ?_
 obtain⟨rv2,k2,h⟩:=H1 h
 rcases eX h with⟨x2,nv2,h⟩ | ⟨v2,nv2,h⟩
 ·refine P0 kR kR (H8 [] ((E1 k2).err nv2) R eK R (.inl ⟨R,R,R⟩) R R R R .nil R ?_)
  intro cnt
  refine E9 ?_
  cases h
  exact M3 (L:=B8A c []) (κ:=[0,1,2,3]) (vK (.cons R R C1o) R) (.inr ⟨_,R,R⟩)
 refine cO [] ((E1 k2).ok nv2) eK .nil R .nil .nil R (N0 kR (B8 (T1 kR (rU 9 R (Y1 tb R R R R R R (F0 ie) (ix1 ie) R R ?_)))))
 obtain⟨q,iq,h⟩:=H1 h
 refine A5d (a':=(a.with_:Int)) tb R R R R ie R R R R iq R R ?_
 dsimp only[List.set_cons_zero,List.set_cons_succ,J2,C6]
 first | rw[A2a iq] | skip
 refine I0 kR (A0V kR (rU 10 R (Y1 tb R R R R R R (F0 ie3) (ix1 ie3) R R ?_)))
 refine A15 (y:=vI e3) tb R R R R (U5 (g:=fun a=>T.d (vI a)) ie3) R R R R ?_
 obtain⟨rv3,k3,h⟩:=H1 h
 refine A19 (A27 k3) R eK R R ((.cons (.ref R (.aggL (dL (dL (dL (dL (dL (dL (dL (dL (.cons (.row R R) (.cons (.row R R) (.cons (.row R R) (dL (dL .nil))))))))))))))) (dL (dL .nil)))) R R ?_
 obtain⟨rv4,k4,h⟩:=H1 h
 rcases eX h with⟨x3,nv3,h⟩ | ⟨v3,nv3,h⟩
 ·refine P0 kR kR (H8 [] ((E1 k4).err nv3) R eK R (.inl ⟨R,R,R⟩) R R R R .nil R ?_)
  intro cnt
  cases h
  exact M3 (L:=[bx 13 (C6 {c with A8:=q} 1 2 3),B0u c.A9,B0u q,B0u c.A4]) (κ:=[0,1,2,3]) (vK (.cons R R C1o) R) (.inr ⟨_,R,R⟩)
 refine cO [] ((E1 k4).ok nv3) eK .nil R .nil .nil R (N0 kR ?_)
 cases h
 exact A1R (fS [0,1,2,3] (.inl ⟨_,R,R,R⟩) R .nil (vK (.cons R R C1o) R))
def A0M (F:Nat) (c:E6) (a:D2):Option (Except Int E6):=(S8 F c a.who).bind fun rv=>exE rv (fun x=>some (.error x)) (fun v=>(P3 v.O3 a.who).bind fun e=>(P3 v.O4 a.what).bind fun e2=>(J4 F (decide (e2.grade≤e.grade)) 172).bind fun rv2=>exE rv2 (fun x2=>some (.error x2)) (fun v2=>some (.ok v)))
theorem A18 {F c a r} (h:A0M F c a=some r):SCX Tryz.prog 223 [rf 0 13,.d (D2.d a)] (B8A c []) r 43 (fun(a:E6) => .d (.tup [])) (fun(a:E6)=>(B8A a [])):=by
 rw[A0M]at h
 refine oW Tryz.func223 ?_
 refine gY 1 R (B8 (X0 (rU 3 R ?_)))
 obtain⟨rv,k,h⟩:=H1 h
 rcases eX h with⟨x,nv,h⟩ | ⟨v,nv,h⟩
 ·refine T2 (H8 [0,1,2,3] ((M8 k).err nv) R eK R (.inl ⟨R,R,R⟩) R R R R (.cons R R C2C) R ?_)
  intro cnt
  refine E9 ?_
  cases h
  exact M3 (L:=[none,none,none,none]) (κ:=[0,1,2,3]) (vK (.gone R (.gone R (.gone R (.gone R .nil)))) R) (.inr ⟨_,R,R⟩)
 refine cO [0,1,2,3] ((M8 k).ok nv) eK ((.cons R R C2C)) R ((.cons R (.row (.row (.row .nil))))) .nil R (R2 (A0V kR (rU 7 R ?_)))
 obtain⟨e,ie,h⟩:=H1 h
 refine xE ie R (rU 1 R (lE ie R (rU 7 R ?_)))
 obtain⟨e2,ie2,h⟩:=H1 h
 refine xE ie2 R (rU 1 R (lE ie2 R (A3k R R R R ?_)))
 obtain⟨rv2,k2,h⟩:=H1 h
 rcases eX h with⟨x2,nv2,h⟩ | ⟨v2,nv2,h⟩
 ·refine P0 kR kR (H8 [] ((E1 k2).err nv2) R eK R (.inl ⟨R,R,R⟩) R R R R .nil R ?_)
  intro cnt
  cases h
  exact M3 (L:=B8A v []) (κ:=[0,1,2,3]) (vK (.cons R R C1o) R) (.inr ⟨_,R,R⟩)
 refine cO [] ((E1 k2).ok nv2) eK .nil R .nil .nil R (N0 kR ?_)
 cases h
 exact A1R (fS [0,1,2,3] (.inl ⟨_,R,R,R⟩) R .nil (vK (.cons R R C1o) R))
def A2I (F:Nat) (c:E6) (a:D2):Option (Except Int E6):=(A0M F c a).bind fun rv=>exE rv (fun x=>some (.error x)) (fun v=>(P3 v.A4 a.what).bind fun e=>(J4 F (decide (e=0)) 177).bind fun rv2=>exE rv2 (fun x2=>some (.error x2)) (fun v2=>(J4 F (!v.I1) 173).bind fun rv3=>exE rv3 (fun x3=>some (.error x3)) (fun v3=>(A11 F v a.what).bind fun rv4=>(J4 F (decide ((rv4.length:Int)=0)) 174).bind fun rv5=>exE rv5 (fun x4=>some (.error x4)) (fun v4=>if 0≤v.I3 then((J4 F (decide (v.A0s≤(W (a.at_-v.I3)))) 179).bind fun rv6=>exE rv6 (fun x5=>some (.error x5)) (fun v5=>(A5g v.A4 a.what 1).bind fun q=>some (.ok {v with A4:=q})))else((J4 F false 179).bind fun rv7=>exE rv7 (fun x6=>some (.error x6)) (fun v6=>none))))))
theorem A5s {F c a r} (h:A2I F c a=some r):SCX Tryz.prog 200 [rf 0 13,.d (D2.d a)] (B8A c []) r 43 (fun(a:E6) => .d (.tup [])) (fun(a:E6)=>(B8A a [])):=by
 rw[A2I]at h
 refine oW Tryz.func200 ?_
 refine gY 1 R (B8 (X0 (rU 2 R ?_)))
 obtain⟨rv,k,h⟩:=H1 h
 rcases eX h with⟨x,nv,h⟩ | ⟨v,nv,h⟩
 ·refine T2 (H8 [0,1,2,3] ((A18 k).err nv) R eK R (.inl ⟨R,R,R⟩) R R R R (.cons R R C2C) R ?_)
  intro cnt
  refine E9 ?_
  cases h
  exact M3 (L:=[none,none,none,none]) (κ:=[0,1,2,3]) (vK (.gone R (.gone R (.gone R (.gone R .nil)))) R) (.inr ⟨_,R,R⟩)
 refine cO [0,1,2,3] ((A18 k).ok nv) eK ((.cons R R C2C)) R ((.cons R (.row (.row (.row .nil))))) .nil R (R2 (B8 (A0V kR (rU 7 R ?_))))
 obtain⟨e,ie,h⟩:=H1 h
 refine Y1 tb R R R R R R (F0 ie) (ix1 ie) R R ?_
 refine A15 (y:=vI e) tb R R R R (U5 (g:=fun a=>T.d (vI a)) ie) R R R R ?_
 refine A3s R R R R ?_
 obtain⟨rv2,k2,h⟩:=H1 h
 rcases eX h with⟨x2,nv2,h⟩ | ⟨v2,nv2,h⟩
 ·refine P0 kR kR (H8 [] ((E1 k2).err nv2) R eK R (.inl ⟨R,R,R⟩) R R R R .nil R ?_)
  intro cnt
  refine E9 ?_
  cases h
  exact M3 (L:=B8A v []) (κ:=[0,1,2,3]) (vK (.cons R R C1o) R) (.inr ⟨_,R,R⟩)
 refine cO [] ((E1 k2).ok nv2) eK .nil R .nil .nil R (N0 kR (B8 (X0 (rU 6 R ?_))))
 obtain⟨rv3,k3,h⟩:=H1 h
 rcases eX h with⟨x3,nv3,h⟩ | ⟨v3,nv3,h⟩
 ·refine T2 (H8 [] ((E1 k3).err nv3) R eK R (.inl ⟨R,R,R⟩) R R R R .nil R ?_)
  intro cnt
  refine E9 ?_
  cases h
  exact M3 (L:=B8A v []) (κ:=[0,1,2,3]) (vK (.cons R R C1o) R) (.inr ⟨_,R,R⟩)
 refine cO [] ((E1 k3).ok nv3) eK .nil R .nil .nil R (R2 (B8 (X0 (rU 3 R ?_))))
 obtain⟨rv4,k4,h⟩:=H1 h
 refine A3j (A3D k4) R ((.row (fun _=>rfl) .nil)) eK R R ((.cons (.ref R (.aggL (dL (dL (dL (dL (dL (dL (dL (dL (.cons (.row R R) (.cons (.row R R) (.cons (.row R R) (dL (dL .nil))))))))))))))) (dL .nil))) R ((.row .nil)) R R R ?_
 refine A8F tb R R R R R (A3s R R R R ?_)
 obtain⟨rv5,k5,h⟩:=H1 h
 rcases eX h with⟨x4,nv4,h⟩ | ⟨v4,nv4,h⟩
 ·refine T2 (H8 [] ((E1 k5).err nv4) R eK R (.inl ⟨R,R,R⟩) R R R R .nil R ?_)
  intro cnt
  refine E9 ?_
  cases h
  exact M3 (L:=B8A v []) (κ:=[0,1,2,3]) (vK (.cons R R C1o) R) (.inr ⟨_,R,R⟩)
 refine cO [] ((E1 k5).ok nv4) eK .nil R .nil .nil R (R2 (B8 (A0V kR (rU 5 R ?_))))
 refine A7I R R R R (tJ h ?_) (mJ h ?_)
 ·intro h
  refine rU 14 R (A3k R R R R (rU 1 R ?_))
  obtain⟨rv6,k6,h⟩:=H1 h
  rcases eX h with⟨x5,nv5,h⟩ | ⟨v5,nv5,h⟩
  ·refine P0 kR kR (H8 [] ((E1 k6).err nv5) R eK R (.inl ⟨R,R,R⟩) R R R R .nil R ?_)
   intro cnt
   refine E9 ?_
   cases h
   exact M3 (L:=B8A v []) (κ:=[0,1,2,3]) (vK (.cons R R C1o) R) (.inr ⟨_,R,R⟩)
  refine cO [] ((E1 k6).ok nv5) eK .nil R .nil .nil R (N0 kR (T1 kR (rU 7 R (Y1 tb R R R R R R (F0 ie) (ix1 ie) R R ?_))))
  obtain⟨q,iq,h⟩:=H1 h
  refine A5d (a':=(1:Int)) tb R R R R ie R R R R iq R R ?_
  dsimp only[List.set_cons_zero,List.set_cons_succ,J2,C6]
  first | rw[A2a iq] | skip
  refine I0 kR ?_
  cases h
  exact A1R (fS [0,1,2,3] (.inl ⟨_,R,R,R⟩) R .nil (vK (.cons R R C1o) R))
 intro h
 refine rU 16 R ?_
 obtain⟨rv7,k7,h⟩:=H1 h
 rcases eX h with⟨x6,nv6,h⟩ | ⟨v6,nv6,h⟩
 ·refine P0 kR kR (H8 [] ((E1 k7).err nv6) R eK R (.inl ⟨R,R,R⟩) R R R R .nil R ?_)
  intro cnt
  refine E9 ?_
  cases h
  exact M3 (L:=B8A v []) (κ:=[0,1,2,3]) (vK (.cons R R C1o) R) (.inr ⟨_,R,R⟩)
 cases h
def A1z (F:Nat) (c:E6) (a:D2):Option (Except Int E6):=(S8 F c a.who).bind fun rv=>exE rv (fun x=>some (.error x)) (fun v=>(P3 v.A4 a.what).bind fun e=>(J4 F (decide (e=1)) 177).bind fun rv2=>exE rv2 (fun x2=>some (.error x2)) (fun v2=>(A5g v.A4 a.what 0).bind fun q=>some (.ok {v with A4:=q})))
theorem A4i {F c a r} (h:A1z F c a=some r):SCX Tryz.prog 201 [rf 0 13,.d (D2.d a)] (B8A c []) r 43 (fun(a:E6) => .d (.tup [])) (fun(a:E6)=>(B8A a [])):=by
 rw[A1z]at h
 refine oW Tryz.func201 ?_
 refine gY 1 R (B8 (X0 (rU 3 R ?_)))
 obtain⟨rv,k,h⟩:=H1 h
 rcases eX h with⟨x,nv,h⟩ | ⟨v,nv,h⟩
 ·refine T2 (H8 [0,1,2,3] ((M8 k).err nv) R eK R (.inl ⟨R,R,R⟩) R R R R (.cons R R C2C) R ?_)
  intro cnt
  refine E9 ?_
  cases h
  exact M3 (L:=[none,none,none,none]) (κ:=[0,1,2,3]) (vK (.gone R (.gone R (.gone R (.gone R .nil)))) R) (.inr ⟨_,R,R⟩)
 refine cO [0,1,2,3] ((M8 k).ok nv) eK ((.cons R R C2C)) R ((.cons R (.row (.row (.row .nil))))) .nil R (R2 (B8 (A0V kR (rU 7 R ?_))))
 obtain⟨e,ie,h⟩:=H1 h
 refine Y1 tb R R R R R R (F0 ie) (ix1 ie) R R ?_
 refine A15 (y:=vI e) tb R R R R (U5 (g:=fun a=>T.d (vI a)) ie) R R R R ?_
 refine A3s R R R R ?_
 obtain⟨rv2,k2,h⟩:=H1 h
 rcases eX h with⟨x2,nv2,h⟩ | ⟨v2,nv2,h⟩
 ·refine P0 kR kR (H8 [] ((E1 k2).err nv2) R eK R (.inl ⟨R,R,R⟩) R R R R .nil R ?_)
  intro cnt
  refine E9 ?_
  cases h
  exact M3 (L:=B8A v []) (κ:=[0,1,2,3]) (vK (.cons R R C1o) R) (.inr ⟨_,R,R⟩)
 refine cO [] ((E1 k2).ok nv2) eK .nil R .nil .nil R (N0 kR (T1 kR (rU 7 R (Y1 tb R R R R R R (F0 ie) (ix1 ie) R R ?_))))
 obtain⟨q,iq,h⟩:=H1 h
 refine A5d (a':=(0:Int)) tb R R R R ie R R R R iq R R ?_
 dsimp only[List.set_cons_zero,List.set_cons_succ,J2,C6]
 first | rw[A2a iq] | skip
 refine I0 kR ?_
 cases h
 exact A1R (fS [0,1,2,3] (.inl ⟨_,R,R,R⟩) R .nil (vK (.cons R R C1o) R))
def A2r (F:Nat) (c:E6) (a:D2):Option (Except Int E6):=(A0M F c a).bind fun rv=>exE rv (fun x=>some (.error x)) (fun v=>(P3 v.A4 a.what).bind fun e=>(J4 F (decide (e=1)) 177).bind fun rv2=>exE rv2 (fun x2=>some (.error x2)) (fun v2=>(A5g v.A4 a.what 2).bind fun q=>some (.ok {v with A4:=q})))
theorem A4W {F c a r} (h:A2r F c a=some r):SCX Tryz.prog 202 [rf 0 13,.d (D2.d a)] (B8A c []) r 43 (fun(a:E6) => .d (.tup [])) (fun(a:E6)=>(B8A a [])):=by
 rw[A2r]at h
 refine oW Tryz.func202 ?_
 refine gY 1 R (B8 (X0 (rU 2 R ?_)))
 obtain⟨rv,k,h⟩:=H1 h
 rcases eX h with⟨x,nv,h⟩ | ⟨v,nv,h⟩
 ·refine T2 (H8 [0,1,2,3] ((A18 k).err nv) R eK R (.inl ⟨R,R,R⟩) R R R R (.cons R R C2C) R ?_)
  intro cnt
  refine E9 ?_
  cases h
  exact M3 (L:=[none,none,none,none]) (κ:=[0,1,2,3]) (vK (.gone R (.gone R (.gone R (.gone R .nil)))) R) (.inr ⟨_,R,R⟩)
 refine cO [0,1,2,3] ((A18 k).ok nv) eK ((.cons R R C2C)) R ((.cons R (.row (.row (.row .nil))))) .nil R (R2 (B8 (A0V kR (rU 7 R ?_))))
 obtain⟨e,ie,h⟩:=H1 h
 refine Y1 tb R R R R R R (F0 ie) (ix1 ie) R R ?_
 refine A15 (y:=vI e) tb R R R R (U5 (g:=fun a=>T.d (vI a)) ie) R R R R ?_
 refine A3s R R R R ?_
 obtain⟨rv2,k2,h⟩:=H1 h
 rcases eX h with⟨x2,nv2,h⟩ | ⟨v2,nv2,h⟩
 ·refine P0 kR kR (H8 [] ((E1 k2).err nv2) R eK R (.inl ⟨R,R,R⟩) R R R R .nil R ?_)
  intro cnt
  refine E9 ?_
  cases h
  exact M3 (L:=B8A v []) (κ:=[0,1,2,3]) (vK (.cons R R C1o) R) (.inr ⟨_,R,R⟩)
 refine cO [] ((E1 k2).ok nv2) eK .nil R .nil .nil R (N0 kR (T1 kR (rU 7 R (Y1 tb R R R R R R (F0 ie) (ix1 ie) R R ?_))))
 obtain⟨q,iq,h⟩:=H1 h
 refine A5d (a':=(2:Int)) tb R R R R ie R R R R iq R R ?_
 dsimp only[List.set_cons_zero,List.set_cons_succ,J2,C6]
 first | rw[A2a iq] | skip
 refine I0 kR ?_
 cases h
 exact A1R (fS [0,1,2,3] (.inl ⟨_,R,R,R⟩) R .nil (vK (.cons R R C1o) R))
def A1W (F:Nat) (a:D1):Option Bool:=some true
theorem A7H {F a r} (h:A1W F a=some r):PC Tryz.prog 224 [D1.d a] (vB r):=by
 rw[A1W]at h
 refine oW Tryz.func224 ?_
 refine gY 2 R (gY 1 R (C9 ?_))
 cases h
 exact f1 2 R
def A1X (F:Nat) (c:E6) (a:D2):Option (Except Int E6):=if a.what=1 then((S8 F c a.who).bind fun rv=>exE rv (fun x=>some (.error x)) (fun v=>(J4 F ((decide (0≤v.I3)) != true) 177).bind fun rv2=>exE rv2 (fun x2=>some (.error x2)) (fun v2=>(J4 F true 179).bind fun rv3=>exE rv3 (fun x3=>some (.error x3)) (fun v3=>some (.ok {v with I3:=a.at_})))))else((S8 F c a.who).bind fun rv4=>exE rv4 (fun x4=>some (.error x4)) (fun v4=>(J4 F ((decide (0≤v4.I3)) != false) 177).bind fun rv5=>exE rv5 (fun x5=>some (.error x5)) (fun v5=>(A2J F v4 (fun a0=>A1W F a0)).bind fun rv6=>(J4 F (!rv6) 179).bind fun rv7=>exE rv7 (fun x6=>some (.error x6)) (fun v6=>some (.ok {v4 with I3:=(-1)})))))
theorem A4w {F c a r} (h:A1X F c a=some r):SCX Tryz.prog 203 [rf 0 13,.d (D2.d a)] (B8A c []) r 43 (fun(a:E6) => .d (.tup [])) (fun(a:E6)=>(B8A a [])):=by
 rw[A1X]at h
 refine oW Tryz.func203 ?_
 refine gY 1 R (gU 2 R ?_)
 refine Z3 R R R R (tJ h ?_) (nJ h ?_)
 ·intro h
  refine eU 1 R (B8 (X0 (rU 3 R ?_)))
  obtain⟨rv,k,h⟩:=H1 h
  rcases eX h with⟨x,nv,h⟩ | ⟨v,nv,h⟩
  ·refine T2 (H8 [0,1,2,3] ((M8 k).err nv) R eK R (.inl ⟨R,R,R⟩) R R R R (.cons R R C2C) R ?_)
   intro cnt
   refine E9 ?_
   cases h
   exact M3 (L:=[none,none,none,none]) (κ:=[0,1,2,3]) (vK (.gone R (.gone R (.gone R (.gone R .nil)))) R) (.inr ⟨_,R,R⟩)
  refine cO [0,1,2,3] ((M8 k).ok nv) eK ((.cons R R C2C)) R ((.cons R (.row (.row (.row .nil))))) .nil R (R2 (B8 (X0 (rU 5 R (A3k R R R R (rU 1 R (A57 R R R R R ?_)))))))
  obtain⟨rv2,k2,h⟩:=H1 h
  rcases eX h with⟨x2,nv2,h⟩ | ⟨v2,nv2,h⟩
  ·refine T2 (H8 [] ((E1 k2).err nv2) R eK R (.inl ⟨R,R,R⟩) R R R R .nil R ?_)
   intro cnt
   refine E9 ?_
   cases h
   exact M3 (L:=B8A v []) (κ:=[0,1,2,3]) (vK (.cons R R C1o) R) (.inr ⟨_,R,R⟩)
  refine cO [] ((E1 k2).ok nv2) eK .nil R .nil .nil R (R2 (B8 (X0 (rU 6 R ?_))))
  obtain⟨rv3,k3,h⟩:=H1 h
  rcases eX h with⟨x3,nv3,h⟩ | ⟨v3,nv3,h⟩
  ·refine T2 (H8 [] ((E1 k3).err nv3) R eK R (.inl ⟨R,R,R⟩) R R R R .nil R ?_)
   intro cnt
   refine E9 ?_
   cases h
   exact M3 (L:=B8A v []) (κ:=[0,1,2,3]) (vK (.cons R R C1o) R) (.inr ⟨_,R,R⟩)
  refine cO [] ((E1 k3).ok nv3) eK .nil R .nil .nil R (R2 (gY 5 R (gY 1 R (C0 R (hE 7 R ?_)))))
  cases h
  exact A1R (fS [0,1,2,3] (.inl ⟨_,R,R,R⟩) R .nil (vK (.cons R R C1o) R))
 intro h
 refine eU 1 R (B8 (X0 (rU 3 R ?_)))
 obtain⟨rv4,k4,h⟩:=H1 h
 rcases eX h with⟨x4,nv4,h⟩ | ⟨v4,nv4,h⟩
 ·refine T2 (H8 [0,1,2,3] ((M8 k4).err nv4) R eK R (.inl ⟨R,R,R⟩) R R R R (.cons R R C2C) R ?_)
  intro cnt
  refine E9 ?_
  cases h
  exact M3 (L:=[none,none,none,none]) (κ:=[0,1,2,3]) (vK (.gone R (.gone R (.gone R (.gone R .nil)))) R) (.inr ⟨_,R,R⟩)
 refine cO [0,1,2,3] ((M8 k4).ok nv4) eK ((.cons R R C2C)) R ((.cons R (.row (.row (.row .nil))))) .nil R (R2 (B8 (X0 (rU 5 R (A3k R R R R (rU 1 R (A57 R R R R R ?_)))))))
 obtain⟨rv5,k5,h⟩:=H1 h
 rcases eX h with⟨x5,nv5,h⟩ | ⟨v5,nv5,h⟩
 ·refine T2 (H8 [] ((E1 k5).err nv5) R eK R (.inl ⟨R,R,R⟩) R R R R .nil R ?_)
  intro cnt
  refine E9 ?_
  cases h
  exact M3 (L:=B8A v4 []) (κ:=[0,1,2,3]) (vK (.cons R R C1o) R) (.inr ⟨_,R,R⟩)
 refine cO [] ((E1 k5).ok nv5) eK .nil R .nil .nil R (R2 (B8 (X0 (rU 3 R ?_))))
 obtain⟨rv6,k6,h⟩:=H1 h
 refine A0t (A5t (so:=(fun a0=>A1W F a0)) (soc:=[]) (soh:=fun hr=>A7H hr) (soe := .of kR) k6) R .nil eK R R ((.cons (.d (.ref R (.aggL (dL (dL (dL (dL (dL (dL (dL (dL (.cons (.row R R) (.cons (.row R R) (.cons (.row R R) (dL (dL .nil)))))))))))))))) (.cons .fnc .nil))) R .nil R R R ?_
 simp only[List.map_nil,List.append_nil]
 refine rU 2 R ?_
 obtain⟨rv7,k7,h⟩:=H1 h
 rcases eX h with⟨x6,nv6,h⟩ | ⟨v6,nv6,h⟩
 ·refine T2 (H8 [] ((E1 k7).err nv6) R eK R (.inl ⟨R,R,R⟩) R R R R .nil R ?_)
  intro cnt
  refine E9 ?_
  cases h
  exact M3 (L:=B8A v4 []) (κ:=[0,1,2,3]) (vK (.cons R R C1o) R) (.inr ⟨_,R,R⟩)
 refine cO [] ((E1 k7).ok nv6) eK .nil R .nil .nil R (R2 (gY 5 R (gY 1 R (zF ?_))))
 cases h
 exact A1R (fS [0,1,2,3] (.inl ⟨_,R,R,R⟩) R .nil (vK (.cons R R C1o) R))
def O7 (F:Nat) (K:(List Int)→Int→Int→Option (Except Int E6)):Nat→(List Int)→Int→Int→Option (Except Int E6)
 | 0,_,_,_=>none
 | n+1,c3,x2,x3=>if x3<x2 then((P3 c3 x3).bind fun e=>if e=1 then((A5g c3 x3 0).bind fun c6=>O7 F K n c6 x2 (W (x3+1)))else(O7 F K n c3 x2 (W (x3+1))))else(K c3 x2 x3)
def P9 (F:Nat) (K:(List Int)→Int→Int→Option (Except Int E6)):Nat→(List Int)→Int→Int→Option (Except Int E6)
 | 0,_,_,_=>none
 | n+1,c7,x5,x6=>if x6<x5 then((P3 c7 x6).bind fun e2=>P9 F K n c7 x5 (W (x6+1)))else(K c7 x5 x6)
def A0Z (F:Nat) (c:E6) (a:D2):Option (Except Int E6):=if a.what=1 then((J4 F (c.I1 != true) 177).bind fun rv=>exE rv (fun x=>some (.error x)) (fun v=>O7 F (fun c3 x2 x3=>some (.ok {c with A4:=c3,I1:=true})) F c.A4 (c.A4.length:Int) 0))else((J4 F (c.I1 != false) 177).bind fun rv2=>exE rv2 (fun x4=>some (.error x4)) (fun v2=>P9 F (fun c7 x5 x6=>some (.ok {c with A4:=c7,I1:=false})) F c.A4 (c.A4.length:Int) 0))
theorem A3P {F c a r} (h:A0Z F c a=some r):SCX Tryz.prog 204 [rf 0 13,.d (D2.d a)] (B8A c []) r 43 (fun(a:E6) => .d (.tup [])) (fun(a:E6)=>(B8A a [])):=by
 rw[A0Z]at h
 refine oW Tryz.func204 ?_
 refine gY 1 R (gU 2 R ?_)
 refine Z3 R R R R (tJ h ?_) (nJ h ?_)
 ·intro h
  refine eU 1 R (B8 (X0 (rU 6 R (A57 R R R R R ?_))))
  obtain⟨rv,k,h⟩:=H1 h
  rcases eX h with⟨x,nv,h⟩ | ⟨v,nv,h⟩
  ·refine T2 (H8 [] ((E1 k).err nv) R eK R (.inl ⟨R,R,R⟩) R R R R .nil R ?_)
   intro cnt
   refine E9 ?_
   cases h
   exact M3 (L:=B8A c []) (κ:=[0,1,2,3]) (vK (.cons R R C1o) R) (.inr ⟨_,R,R⟩)
  refine cO [] ((E1 k).ok nv) eK .nil R .nil .nil R (R2 (gY 6 R (gU 5 R (A8F tb R R R R R (eU 1 R (E3 ?_))))))
  obtain⟨K2,hK2,h⟩:∃ K,K=_∧O7 F K F c.A4 (c.A4.length:Int) 0=some r:=⟨_,rfl,h⟩
  refine lW (fun m st=>∃ (c3:(List Int)) (x2:Int) (x3:Int),O7 F K2 m c3 x2 x3=some r∧st=⟨[(0,rf 0 13),(4,dB true),(27,.row 3 1 0 (c3).length),(28,dI x2),(29,dI x3)],[bx 13 (C6 {c with A4:=c3,I1:=true} 1 2 3),B0u c.A9,B0u c.A8,B0u c3]⟩) ⟨c.A4,(c.A4.length:Int),0,h,R⟩ (.vw (κ:=[0,1,2,3]) (vK (.cons R R C1o) R)) ?_
  clear h
  rintro m2 st ⟨c3,x2,x3,h,rfl⟩
  cases m2 with
  | zero=>cases(show(none:Option (Except Int E6))=some r from h)
  | succ m2 =>
  rw[O7]at h
  refine qG ?_
  refine Q4 R R R R (tJ h ?_) (lJ h ?_)
  ·intro h
   refine Y9 (B8 (zT (B8 (E3 (gU 1 R ?_)))))
   obtain⟨e,ie,h⟩:=H1 h
   refine Y1 tb R R R R R R (F0 ie) (ix1 ie) R R ?_
   refine A15 (y:=vI e) tb R R R R (U5 (g:=fun a=>T.d (vI a)) ie) R R R R ?_
   refine eU 2 R (gU 3 R ?_)
   refine Z3 R R R R (tJ h ?_) (nJ h ?_)
   ·intro h
    refine eU 1 R (C0 R (hU 6 R (Y1 tb R R R R R R (F0 ie) (ix1 ie) R R ?_)))
    obtain⟨c6,ic6,h⟩:=H1 h
    refine A5d (a':=(0:Int)) tb R R R R ie R R R R ic6 R R ?_
    dsimp only[List.set_cons_zero,List.set_cons_succ,J2,C6]
    first | rw[A2a ic6] | skip
    refine Y9 (hN 2 R ?_)
    exact bk ⟨c6,x2,(W (x3+1)),h,R⟩ (.prn [0,4,27,28,29] R)
   intro h
   refine eU 1 R (zF (hN 2 R ?_))
   exact bk ⟨c3,x2,(W (x3+1)),h,R⟩ (.prn [0,4,27,28,29] R)
  intro h
  refine Y9 (B8 (C1 R (N5 (E4 (E4 ?_)))))
  subst hK2
  refine I5 ?_
  cases h
  exact A1R (fS [0,1,2,3] (.inl ⟨_,R,R,R⟩) R .nil (vK (.cons R R C1o) R))
 intro h
 refine eU 1 R (B8 (X0 (rU 6 R (A57 R R R R R ?_))))
 obtain⟨rv2,k2,h⟩:=H1 h
 rcases eX h with⟨x4,nv2,h⟩ | ⟨v2,nv2,h⟩
 ·refine T2 (H8 [] ((E1 k2).err nv2) R eK R (.inl ⟨R,R,R⟩) R R R R .nil R ?_)
  intro cnt
  refine E9 ?_
  cases h
  exact M3 (L:=B8A c []) (κ:=[0,1,2,3]) (vK (.cons R R C1o) R) (.inr ⟨_,R,R⟩)
 refine cO [] ((E1 k2).ok nv2) eK .nil R .nil .nil R (R2 (gY 6 R (gU 5 R (A8F tb R R R R R (eU 1 R (E3 ?_))))))
 obtain⟨K3,hK3,h⟩:∃ K,K=_∧P9 F K F c.A4 (c.A4.length:Int) 0=some r:=⟨_,rfl,h⟩
 refine lW (fun m st=>∃ (c7:(List Int)) (x5:Int) (x6:Int),P9 F K3 m c7 x5 x6=some r∧st=⟨[(0,rf 0 13),(4,dB false),(27,.row 3 1 0 (c7).length),(28,dI x5),(29,dI x6)],[bx 13 (C6 {c with A4:=c7,I1:=false} 1 2 3),B0u c.A9,B0u c.A8,B0u c7]⟩) ⟨c.A4,(c.A4.length:Int),0,h,R⟩ (.vw (κ:=[0,1,2,3]) (vK (.cons R R C1o) R)) ?_
 clear h
 rintro m3 st ⟨c7,x5,x6,h,rfl⟩
 cases m3 with
 | zero=>cases(show(none:Option (Except Int E6))=some r from h)
 | succ m3 =>
 rw[P9]at h
 refine qG ?_
 refine Q4 R R R R (tJ h ?_) (lJ h ?_)
 ·intro h
  refine Y9 (B8 (zT (B8 (E3 (gU 1 R ?_)))))
  obtain⟨e2,ie2,h⟩:=H1 h
  refine Y1 tb R R R R R R (F0 ie2) (ix1 ie2) R R ?_
  refine A15 (y:=vI e2) tb R R R R (U5 (g:=fun a=>T.d (vI a)) ie2) R R R R ?_
  refine eU 2 R (gY 5 R (zF (hN 2 R ?_)))
  exact bk ⟨c7,x5,(W (x6+1)),h,R⟩ (.prn [0,4,27,28,29] R)
 intro h
 refine Y9 (B8 (C1 R (N5 (E4 (E4 ?_)))))
 subst hK3
 refine I5 ?_
 cases h
 exact A1R (fS [0,1,2,3] (.inl ⟨_,R,R,R⟩) R .nil (vK (.cons R R C1o) R))
def B4a (F:Nat):Option Unit:=some ()
theorem B4b {F r} (h:B4a F =some r):PC Tryz.prog 157 [] (.agg [.v .nilFunc,.v (.func (.func 196) #[] #[]),.v (.func (.func 197) #[] #[]),.v (.func (.func 198) #[] #[]),.v (.func (.func 199) #[] #[]),.v (.func (.func 200) #[] #[]),.v (.func (.func 201) #[] #[]),.v (.func (.func 202) #[] #[]),.v (.func (.func 203) #[] #[]),.v (.func (.func 204) #[] #[])]):=by
 rw[B4a]at h
 refine oW Tryz.func157 ?_
 refine gY 1 R (qG (B4h (v := .d (.agg [.v .nilFunc,.v (.func (.func 196) #[] #[]),.v (.func (.func 197) #[] #[]),.v (.func (.func 198) #[] #[]),.v (.func (.func 199) #[] #[]),.v (.func (.func 200) #[] #[]),.v (.func (.func 201) #[] #[]),.v (.func (.func 202) #[] #[]),.v (.func (.func 203) #[] #[]),.v (.func (.func 204) #[] #[])])) tb R R R R R R R R R (eU 1 R (C9 ?_))))
 cases h
 exact f0 R R R (.cons (rc tb R) .nil)
def A1J (F:Nat) (a:D2) (c11:(List F6)) (c12:(List G6)) (c13:(List E2)) (c14:(List ByteArray)) (c15:(List D1)) (c16 c17 c18:Int) (c19 c20 c21:(List Int)) (c22:Int) (c23:Bool):Option (C3 × Int):=some ((C3.mk a.at_ c19 c20 c21 c22 c23),0)
def A9J (F:Nat) (p:D5) (s:C3) (a:D2):Option (C3 × Int):=(A56 F p s).bind fun rv=>B2S rv (none) (fun t=>(J4 F (decide (t.N7≤a.at_)) 170).bind fun rv2=>exE rv2 (fun x=>some ((C3.mk 0 ([]:List Int) ([]:List Int) ([]:List Int) 0 false),x)) (fun v=>if a.kind=0 then(none)else if a.kind=1 then((A2u F t a).bind fun rv3=>exE rv3 (fun x3=>some ((C3.mk 0 ([]:List Int) ([]:List Int) ([]:List Int) 0 false),x3)) (fun v2=>A1J F a v2.O0 v2.V4 v2.O3 v2.A0r v2.O4 v2.X3 v2.A0s v2.N7 v2.A9 v2.A8 v2.A4 v2.I3 v2.I1))else if a.kind=2 then((A2w F t a).bind fun rv4=>exE rv4 (fun x5=>some ((C3.mk 0 ([]:List Int) ([]:List Int) ([]:List Int) 0 false),x5)) (fun v3=>A1J F a v3.O0 v3.V4 v3.O3 v3.A0r v3.O4 v3.X3 v3.A0s v3.N7 v3.A9 v3.A8 v3.A4 v3.I3 v3.I1))else if a.kind=3 then((A2K F t a).bind fun rv5=>exE rv5 (fun x7=>some ((C3.mk 0 ([]:List Int) ([]:List Int) ([]:List Int) 0 false),x7)) (fun v4=>A1J F a v4.O0 v4.V4 v4.O3 v4.A0r v4.O4 v4.X3 v4.A0s v4.N7 v4.A9 v4.A8 v4.A4 v4.I3 v4.I1))else if a.kind=4 then((A2t F t a).bind fun rv6=>exE rv6 (fun x9=>some ((C3.mk 0 ([]:List Int) ([]:List Int) ([]:List Int) 0 false),x9)) (fun v5=>A1J F a v5.O0 v5.V4 v5.O3 v5.A0r v5.O4 v5.X3 v5.A0s v5.N7 v5.A9 v5.A8 v5.A4 v5.I3 v5.I1))else if a.kind=5 then((A2I F t a).bind fun rv7=>exE rv7 (fun x11=>some ((C3.mk 0 ([]:List Int) ([]:List Int) ([]:List Int) 0 false),x11)) (fun v6=>A1J F a v6.O0 v6.V4 v6.O3 v6.A0r v6.O4 v6.X3 v6.A0s v6.N7 v6.A9 v6.A8 v6.A4 v6.I3 v6.I1))else if a.kind=6 then((A1z F t a).bind fun rv8=>exE rv8 (fun x13=>some ((C3.mk 0 ([]:List Int) ([]:List Int) ([]:List Int) 0 false),x13)) (fun v7=>A1J F a v7.O0 v7.V4 v7.O3 v7.A0r v7.O4 v7.X3 v7.A0s v7.N7 v7.A9 v7.A8 v7.A4 v7.I3 v7.I1))else if a.kind=7 then((A2r F t a).bind fun rv9=>exE rv9 (fun x15=>some ((C3.mk 0 ([]:List Int) ([]:List Int) ([]:List Int) 0 false),x15)) (fun v8=>A1J F a v8.O0 v8.V4 v8.O3 v8.A0r v8.O4 v8.X3 v8.A0s v8.N7 v8.A9 v8.A8 v8.A4 v8.I3 v8.I1))else if a.kind=8 then((A1X F t a).bind fun rv10=>exE rv10 (fun x17=>some ((C3.mk 0 ([]:List Int) ([]:List Int) ([]:List Int) 0 false),x17)) (fun v9=>A1J F a v9.O0 v9.V4 v9.O3 v9.A0r v9.O4 v9.X3 v9.A0s v9.N7 v9.A9 v9.A8 v9.A4 v9.I3 v9.I1))else if a.kind=9 then((A0Z F t a).bind fun rv11=>exE rv11 (fun x19=>some ((C3.mk 0 ([]:List Int) ([]:List Int) ([]:List Int) 0 false),x19)) (fun v10=>A1J F a v10.O0 v10.V4 v10.O3 v10.A0r v10.O4 v10.X3 v10.A0s v10.N7 v10.A9 v10.A8 v10.A4 v10.I3 v10.I1))else none))
theorem B5n {x1 x2 c2:Code} {o2:Operand} (hb:Tryz.f155.body=some (.seq x1 (.seq x2 (.cond o2 c2 .skip)))):DfK Tryz.prog 155 c2 9 2 43:=by
 unfold Tryz.f155 at hb
 injection hb with hb
 injection hb with _ hb
 injection hb with _ hb
 injection hb with _ hb _
 subst hb
 refine⟨fun ds w hds=>?_,fun ds v older w R hds ⟨E,hv⟩ H=>?_⟩
 ·obtain⟨d0,d1,rfl⟩:∃ d0 d1,ds=#[d0,d1]:=by
   obtain⟨l⟩:=ds
   match l,hds with
   | [d0,d1],_=>exact⟨d0,d1,rfl⟩
  refine callsDIn_of_wpSIn Tryz.func155 (by rfl) trivial fun c₀ cs hu=>?_
  apply wpSIn_seq
  apply wpSIn_region
  simp[wpOpsSIn,go_sem,recoverD,hu,Tryz.ntmps155,Exit.thenS]
  apply wpSIn_seq
  apply wpSIn_region
  simp[wpOpsSIn,go_sem,Exit.thenS]
  refine wpSIn_cond (t:=false) (by simp[Act.eval,Array.replicate]) ?_
  simp only[Bool.false_eq_true,if_false]
  refine wpSIn_of_wpIn (by rfl) (wpIn_skip ?_)
  cases c₀
  simp_all [bodyPostS,results,Tryz.results155]
 ·subst hv
  obtain⟨d0,d1,rfl⟩:∃ d0 d1,ds=#[d0,d1]:=by
   obtain⟨l⟩:=ds
   match l,hds with
   | [d0,d1],_=>exact⟨d0,d1,rfl⟩
  refine callsDIn_of_wpSIn Tryz.func155 (by rfl) trivial fun c₀ cs hu=>?_
  apply wpSIn_seq
  apply wpSIn_region
  simp[wpOpsSIn,go_sem,recoverD,hu,Tryz.ntmps155,Exit.thenS]
  apply wpSIn_seq
  apply wpSIn_region
  simp[wpOpsSIn,go_sem,Exit.thenS]
  refine wpSIn_cond (t:=true) (by simp[Act.eval,Array.replicate]) ?_
  simp only[if_true]
  refine wpSIn_of_wpIn (by rfl) (wpIn_mono (H _ (by rfl) ?_ ?_ ?_) ?_)
  ·simp[Array.replicate]
  ·intro i hi
   match i,hi with
   | 0,_=>rfl
   | 1,_=>rfl
  ·simp[Array.replicate]
  ·rintro ex a' w' ⟨rfl,h2,h3⟩
   cases c₀
   simp_all [bodyPostS,results,Tryz.results155]
theorem B5o {F:Nat} {p:D5} {s:C3} {a:D2} {t:E6} (x2:Int) {xa xb c2:Code} {o2:Operand} (hb:Tryz.f155.body=some (.seq xa (.seq xb (.cond o2 c2 .skip)))):SW Tryz.prog 9 9 [] c2 (fun sx st2=>sx = .norm∧Fin Tryz.prog Tryz.f79 0 (fun se X=>se = .ret (.tup [J2 (C3.mk 0 ([]:List Int) ([]:List Int) ([]:List Int) 0 false) 0 1 2,.d (.v (.int .i64 x2))])∧X=[B0u ([]:List Int),B0u ([]:List Int),B0u ([]:List Int)]) .ret ⟨[(6,.ref 3 6 0 0),(7,.ref 4 1 0 0)],st2.L⟩) ⟨A8Q 0 ([.ref 3 6 0 0,.ref 4 1 0 0]++[.d (.v (.iface 43 ((.int .i64 x2))))]),[bx 7 (.d (D5.d p)),bx 6 (.d (C3.d s)),bx 5 (.d (D2.d a)),bx 6 (.d (.agg [.v (.int .i64 0),.v (.slice none 0 0),.v (.slice none 0 0),.v (.slice none 0 0),.v (.int .i64 0),.v (.bool false)])),c1 (.v (.int .i64 0)),bx 13 (C6 t 6 7 8),B0u t.A9,B0u t.A8,B0u t.A4]⟩:=by
 unfold Tryz.f155 at hb
 injection hb with hb
 injection hb with _ hb
 injection hb with _ hb
 injection hb with _ hb _
 subst hb
 refine B04 (fun _ _ h=>by cases h.1) ?_
 dsimp only[A8Q,List.cons_append,List.nil_append]
 refine T1 kR (S1 (v := .d (.agg [vI 0,.v (.slice none 0 0),.v (.slice none 0 0),.v (.slice none 0 0),vI 0,vB false])) tb R R (List.cons_ne_nil _ _) R R R R R R (rU 1 R ?_))
 refine B5V R (fun _=>by kernel_rfl) R R R ?_
 refine rU 2 R (I0 kR ?_)
 refine⟨_,A33.own (ts':=[(0,rf 3 6),(1,rf 4 1),(2,.d (.v (.iface 43 ((.int .i64 x2))))),(6,.d (.agg [vI 0,.v (.slice none 0 0),.v (.slice none 0 0),.v (.slice none 0 0),vI 0,vB false])),(7,.d (.v (.iface 43 ((.int .i64 x2))))),(8,dI x2)]) (L':=[bx 7 (.d (D5.d p)),bx 6 (.d (C3.d s)),bx 5 (.d (D2.d a)),bx 6 (.agg [dI 0,.row 9 1 0 (([]:List Int)).length,.d (.v (.slice none 0 0)),.d (.v (.slice none 0 0)),dI 0,dB false]),c1 (vI x2),bx 13 (C6 t 6 7 8),B0u t.A9,B0u t.A8,B0u t.A4]) 1 R R (.cons (.same _) (.cons (.same _) (.cons (.same _) (.cons (.same _) (.cons (.same _) (.cons (.same _) .nil)))))) (.same (.same (.same (.cons R (.cons (.aggDL (.cons (.same _) (.cons .nil (.cons (.same _) (.cons (.same _) (.cons (.same _) (.cons (.same _) .nil))))))) .nil) (.same (.same (.same (.same (.same .nil))))))))) (A33.own (ts:=[(0,rf 3 6),(1,rf 4 1),(2,.d (.v (.iface 43 ((.int .i64 x2))))),(6,.d (.agg [vI 0,.v (.slice none 0 0),.v (.slice none 0 0),.v (.slice none 0 0),vI 0,vB false])),(7,.d (.v (.iface 43 ((.int .i64 x2))))),(8,dI x2)]) (L:=[bx 7 (.d (D5.d p)),bx 6 (.d (C3.d s)),bx 5 (.d (D2.d a)),bx 6 (.agg [dI 0,.row 9 1 0 (([]:List Int)).length,.d (.v (.slice none 0 0)),.d (.v (.slice none 0 0)),dI 0,dB false]),c1 (vI x2),bx 13 (C6 t 6 7 8),B0u t.A9,B0u t.A8,B0u t.A4,B0u ([]:List Int)]) (ts':=[(0,rf 3 6),(1,rf 4 1),(2,.d (.v (.iface 43 ((.int .i64 x2))))),(6,.d (.agg [vI 0,.v (.slice none 0 0),.v (.slice none 0 0),.v (.slice none 0 0),vI 0,vB false])),(7,.d (.v (.iface 43 ((.int .i64 x2))))),(8,dI x2)]) (L':=[bx 7 (.d (D5.d p)),bx 6 (.d (C3.d s)),bx 5 (.d (D2.d a)),bx 6 (.agg [dI 0,.row 9 1 0 (([]:List Int)).length,.row 10 1 0 (([]:List Int)).length,.d (.v (.slice none 0 0)),dI 0,dB false]),c1 (vI x2),bx 13 (C6 t 6 7 8),B0u t.A9,B0u t.A8,B0u t.A4,B0u ([]:List Int)]) 1 R R (.cons (.same _) (.cons (.same _) (.cons (.same _) (.cons (.same _) (.cons (.same _) (.cons (.same _) .nil)))))) (.same (.same (.same (.cons R (.cons (.aggL (.cons (.same _) (.cons (.same _) (.cons .nil (.cons (.same _) (.cons (.same _) (.cons (.same _) .nil))))))) .nil) (.same (.same (.same (.same (.same (.same .nil)))))))))) (A33.own (ts:=[(0,rf 3 6),(1,rf 4 1),(2,.d (.v (.iface 43 ((.int .i64 x2))))),(6,.d (.agg [vI 0,.v (.slice none 0 0),.v (.slice none 0 0),.v (.slice none 0 0),vI 0,vB false])),(7,.d (.v (.iface 43 ((.int .i64 x2))))),(8,dI x2)]) (L:=[bx 7 (.d (D5.d p)),bx 6 (.d (C3.d s)),bx 5 (.d (D2.d a)),bx 6 (.agg [dI 0,.row 9 1 0 (([]:List Int)).length,.row 10 1 0 (([]:List Int)).length,.d (.v (.slice none 0 0)),dI 0,dB false]),c1 (vI x2),bx 13 (C6 t 6 7 8),B0u t.A9,B0u t.A8,B0u t.A4,B0u ([]:List Int),B0u ([]:List Int)]) (ts':=[(0,rf 3 6),(1,rf 4 1),(2,.d (.v (.iface 43 ((.int .i64 x2))))),(6,.d (.agg [vI 0,.v (.slice none 0 0),.v (.slice none 0 0),.v (.slice none 0 0),vI 0,vB false])),(7,.d (.v (.iface 43 ((.int .i64 x2))))),(8,dI x2)]) (L':=[bx 7 (.d (D5.d p)),bx 6 (.d (C3.d s)),bx 5 (.d (D2.d a)),bx 6 (J2 (C3.mk 0 ([]:List Int) ([]:List Int) ([]:List Int) 0 false) 9 10 11),c1 (vI x2),bx 13 (C6 t 6 7 8),B0u t.A9,B0u t.A8,B0u t.A4,B0u ([]:List Int),B0u ([]:List Int)]) 1 R R (.cons (.same _) (.cons (.same _) (.cons (.same _) (.cons (.same _) (.cons (.same _) (.cons (.same _) .nil)))))) (.same (.same (.same (.cons R (.cons (.aggL (.cons (.same _) (.cons (.same _) (.cons (.same _) (.cons .nil (.cons (.same _) (.cons (.same _) .nil))))))) .nil) (.same (.same (.same (.same (.same (.same (.same .nil))))))))))) (.refl _ _ _))),R,?_⟩
 exact fS [9,10,11] ⟨R,R⟩ R (.cons (A6F tb (u:=J2 (C3.mk 0 ([]:List Int) ([]:List Int) ([]:List Int) 0 false) 9 10 11) R R R R R R R) (.cons (A6F tb (u:=dI x2) R R R R R R R) .nil)) (vK C1o R)
theorem A25 {F:Nat} {p:D5} {s:C3} {a:D2} (x4:Int) {xa xb c2:Code} {o2:Operand} (hb:Tryz.f155.body=some (.seq xa (.seq xb (.cond o2 c2 .skip)))):SW Tryz.prog 9 9 [] c2 (fun sx st2=>sx = .norm∧Fin Tryz.prog Tryz.f79 0 (fun se X=>se = .ret (.tup [J2 (C3.mk 0 ([]:List Int) ([]:List Int) ([]:List Int) 0 false) 0 1 2,.d (.v (.int .i64 x4))])∧X=[B0u ([]:List Int),B0u ([]:List Int),B0u ([]:List Int)]) .ret ⟨[(6,.ref 3 6 0 0),(7,.ref 4 1 0 0)],st2.L⟩) ⟨A8Q 0 ([.ref 3 6 0 0,.ref 4 1 0 0]++[.d (.v (.iface 43 ((.int .i64 x4))))]),[bx 7 (.d (D5.d p)),bx 6 (.d (C3.d s)),bx 5 (.d (D2.d a)),bx 6 (.d (.agg [.v (.int .i64 0),.v (.slice none 0 0),.v (.slice none 0 0),.v (.slice none 0 0),.v (.int .i64 0),.v (.bool false)])),c1 (.v (.int .i64 0)),none,none,none,none]⟩:=by
 unfold Tryz.f155 at hb
 injection hb with hb
 injection hb with _ hb
 injection hb with _ hb
 injection hb with _ hb _
 subst hb
 refine B04 (fun _ _ h=>by cases h.1) ?_
 dsimp only[A8Q,List.cons_append,List.nil_append]
 refine T1 kR (S1 (v := .d (.agg [vI 0,.v (.slice none 0 0),.v (.slice none 0 0),.v (.slice none 0 0),vI 0,vB false])) tb R R (List.cons_ne_nil _ _) R R R R R R (rU 1 R ?_))
 refine B5V R (fun _=>by kernel_rfl) R R R ?_
 refine rU 2 R (I0 kR ?_)
 refine⟨_,A33.own (ts':=[(0,rf 3 6),(1,rf 4 1),(2,.d (.v (.iface 43 ((.int .i64 x4))))),(6,.d (.agg [vI 0,.v (.slice none 0 0),.v (.slice none 0 0),.v (.slice none 0 0),vI 0,vB false])),(7,.d (.v (.iface 43 ((.int .i64 x4))))),(8,dI x4)]) (L':=[bx 7 (.d (D5.d p)),bx 6 (.d (C3.d s)),bx 5 (.d (D2.d a)),bx 6 (.agg [dI 0,.row 9 1 0 (([]:List Int)).length,.d (.v (.slice none 0 0)),.d (.v (.slice none 0 0)),dI 0,dB false]),c1 (vI x4),none,none,none,none]) 1 R R (.cons (.same _) (.cons (.same _) (.cons (.same _) (.cons (.same _) (.cons (.same _) (.cons (.same _) .nil)))))) (.same (.same (.same (.cons R (.cons (.aggDL (.cons (.same _) (.cons .nil (.cons (.same _) (.cons (.same _) (.cons (.same _) (.cons (.same _) .nil))))))) .nil) (.same (.same (.same (.same (.same .nil))))))))) (A33.own (ts:=[(0,rf 3 6),(1,rf 4 1),(2,.d (.v (.iface 43 ((.int .i64 x4))))),(6,.d (.agg [vI 0,.v (.slice none 0 0),.v (.slice none 0 0),.v (.slice none 0 0),vI 0,vB false])),(7,.d (.v (.iface 43 ((.int .i64 x4))))),(8,dI x4)]) (L:=[bx 7 (.d (D5.d p)),bx 6 (.d (C3.d s)),bx 5 (.d (D2.d a)),bx 6 (.agg [dI 0,.row 9 1 0 (([]:List Int)).length,.d (.v (.slice none 0 0)),.d (.v (.slice none 0 0)),dI 0,dB false]),c1 (vI x4),none,none,none,none,B0u ([]:List Int)]) (ts':=[(0,rf 3 6),(1,rf 4 1),(2,.d (.v (.iface 43 ((.int .i64 x4))))),(6,.d (.agg [vI 0,.v (.slice none 0 0),.v (.slice none 0 0),.v (.slice none 0 0),vI 0,vB false])),(7,.d (.v (.iface 43 ((.int .i64 x4))))),(8,dI x4)]) (L':=[bx 7 (.d (D5.d p)),bx 6 (.d (C3.d s)),bx 5 (.d (D2.d a)),bx 6 (.agg [dI 0,.row 9 1 0 (([]:List Int)).length,.row 10 1 0 (([]:List Int)).length,.d (.v (.slice none 0 0)),dI 0,dB false]),c1 (vI x4),none,none,none,none,B0u ([]:List Int)]) 1 R R (.cons (.same _) (.cons (.same _) (.cons (.same _) (.cons (.same _) (.cons (.same _) (.cons (.same _) .nil)))))) (.same (.same (.same (.cons R (.cons (.aggL (.cons (.same _) (.cons (.same _) (.cons .nil (.cons (.same _) (.cons (.same _) (.cons (.same _) .nil))))))) .nil) (.same (.same (.same (.same (.same (.same .nil)))))))))) (A33.own (ts:=[(0,rf 3 6),(1,rf 4 1),(2,.d (.v (.iface 43 ((.int .i64 x4))))),(6,.d (.agg [vI 0,.v (.slice none 0 0),.v (.slice none 0 0),.v (.slice none 0 0),vI 0,vB false])),(7,.d (.v (.iface 43 ((.int .i64 x4))))),(8,dI x4)]) (L:=[bx 7 (.d (D5.d p)),bx 6 (.d (C3.d s)),bx 5 (.d (D2.d a)),bx 6 (.agg [dI 0,.row 9 1 0 (([]:List Int)).length,.row 10 1 0 (([]:List Int)).length,.d (.v (.slice none 0 0)),dI 0,dB false]),c1 (vI x4),none,none,none,none,B0u ([]:List Int),B0u ([]:List Int)]) (ts':=[(0,rf 3 6),(1,rf 4 1),(2,.d (.v (.iface 43 ((.int .i64 x4))))),(6,.d (.agg [vI 0,.v (.slice none 0 0),.v (.slice none 0 0),.v (.slice none 0 0),vI 0,vB false])),(7,.d (.v (.iface 43 ((.int .i64 x4))))),(8,dI x4)]) (L':=[bx 7 (.d (D5.d p)),bx 6 (.d (C3.d s)),bx 5 (.d (D2.d a)),bx 6 (J2 (C3.mk 0 ([]:List Int) ([]:List Int) ([]:List Int) 0 false) 9 10 11),c1 (vI x4),none,none,none,none,B0u ([]:List Int),B0u ([]:List Int)]) 1 R R (.cons (.same _) (.cons (.same _) (.cons (.same _) (.cons (.same _) (.cons (.same _) (.cons (.same _) .nil)))))) (.same (.same (.same (.cons R (.cons (.aggL (.cons (.same _) (.cons (.same _) (.cons (.same _) (.cons .nil (.cons (.same _) (.cons (.same _) .nil))))))) .nil) (.same (.same (.same (.same (.same (.same (.same .nil))))))))))) (.refl _ _ _))),R,?_⟩
 exact fS [9,10,11] ⟨R,R⟩ R (.cons (A6F tb (u:=J2 (C3.mk 0 ([]:List Int) ([]:List Int) ([]:List Int) 0 false) 9 10 11) R R R R R R R) (.cons (A6F tb (u:=dI x4) R R R R R R R) .nil)) (vK C1o R)
theorem B1l {F p s a r} (h:A9J F p s a=some r):SCR Tryz.prog 79 (List.map T.d [D5.d p,C3.d s,D2.d a]) [] (.tup [J2 r.1 0 1 2,dI r.2]) (List.map some [(B7 r.1.zones),(B7 r.1.holder),(B7 r.1.squibs)]):=by
 rw[A9J]at h
 refine SC.of_swd Tryz.func79 R R R ?_
 dsimp only[L8,List.map]
 refine B3n (hE 5 R ?_)
 refine⟨R,?_⟩
 refine B3n (hU 2 R ?_)
 obtain⟨rv,k,h⟩:=H1 h
 rcases Option.eq_none_or_eq_some rv with nv | ⟨t,nv⟩
 ·replace h:=(B5h nv).symm.trans h
  refine cO [] ((A4L k).none nv) eK .nil R .nil .nil R ?_
  cases h
 replace h:=(B5i nv).symm.trans h
 refine cO [] ((A4L k).some nv) eK .nil R .nil ((.cons R (.row (.row (.row .nil))))) R (eU 1 R ?_)
 refine⟨R,?_⟩
 refine B2t R B5n dM eK (A3E R R R R ?_)
 refine A32 ⟨12,_,_,_,_,R,R,R,R,fun df=>?_⟩
 refine B8 (A0V kR (rU 7 R (A3k R R R R ?_)))
 obtain⟨rv2,k2,h⟩:=H1 h
 rcases eX h with⟨x,nv2,h⟩ | ⟨v,nv2,h⟩
 ·refine P0 kR kR (H8 [] ((E1 k2).err nv2) R eK R (.inl ⟨R,R,R⟩) R R R R .nil R ?_)
  intro cnt
  refine E9 ?_
  cases h
  exact⟨_,⟨[(6,rf 3 6),(7,rf 4 1)],[bx 7 (.d (D5.d p)),bx 6 (.d (C3.d s)),bx 5 (.d (D2.d a)),bx 6 (.d (.agg [vI 0,.v (.slice none 0 0),.v (.slice none 0 0),.v (.slice none 0 0),vI 0,vB false])),c1 (vI 0),bx 13 (C6 t 6 7 8),B0u t.A9,B0u t.A8,B0u t.A4]⟩,[0,1,2,3,4,5,6,7,8],R,(vK (.cons R R (.cons R R (.cons R R (.cons R R (.cons R R (.cons R R C1o)))))) R),B5o (F:=F) x R⟩
 refine cO [] ((E1 k2).ok nv2) eK .nil R .nil .nil R (N0 kR (B8 ?_))
 refine W5 (fun zz:(List F6) × (List G6) × (List E2) × (List ByteArray) × (List D1) × Int × Int × Int × (List Int) × (List Int) × (List Int) × Int × Bool=>A1J F a zz.1 zz.2.1 zz.2.2.1 zz.2.2.2.1 zz.2.2.2.2.1 zz.2.2.2.2.2.1 zz.2.2.2.2.2.2.1 zz.2.2.2.2.2.2.2.1 zz.2.2.2.2.2.2.2.2.1 zz.2.2.2.2.2.2.2.2.2.1 zz.2.2.2.2.2.2.2.2.2.2.1 zz.2.2.2.2.2.2.2.2.2.2.2.1 zz.2.2.2.2.2.2.2.2.2.2.2.2=some r) (fun zz:(List F6) × (List G6) × (List E2) × (List ByteArray) × (List D1) × Int × Int × Int × (List Int) × (List Int) × (List Int) × Int × Bool=>⟨[(5,rf 2 5),(6,rf 3 6),(7,rf 4 1),(8,rf 5 13)],[bx 7 (.d (D5.d p)),bx 6 (.d (C3.d s)),bx 5 (.d (D2.d a)),bx 6 (.d (.agg [vI 0,.v (.slice none 0 0),.v (.slice none 0 0),.v (.slice none 0 0),vI 0,vB false])),c1 (vI 0),bx 13 (C6 (E6.mk zz.1 zz.2.1 zz.2.2.1 zz.2.2.2.1 zz.2.2.2.2.1 zz.2.2.2.2.2.1 zz.2.2.2.2.2.2.1 zz.2.2.2.2.2.2.2.1 zz.2.2.2.2.2.2.2.2.1 zz.2.2.2.2.2.2.2.2.2.1 zz.2.2.2.2.2.2.2.2.2.2.1 zz.2.2.2.2.2.2.2.2.2.2.2.1 zz.2.2.2.2.2.2.2.2.2.2.2.2) 6 7 8),B0u zz.2.2.2.2.2.2.2.2.1,B0u zz.2.2.2.2.2.2.2.2.2.1,B0u zz.2.2.2.2.2.2.2.2.2.2.1]⟩) ?_ ?_
 ·clear h
  rintro⟨c11,c12,c13,c14,c15,c16,c17,c18,c19,c20,c21,c22,c23⟩ h
  dsimp only at h ⊢
  rw[A1J]at h
  refine gY 7 R (gY 6 R (C9 ?_))
  cases h
  exact B7Y (U0 (t := .tup [J2 (C3.mk a.at_ c19 c20 c21 c22 c23) 0 1 2,dI 0]) (L:=[B0u c19,B0u c20,B0u c21]) (κ:=[6,7,8]) R (.cons (A6F tb (u:=J2 (C3.mk a.at_ c19 c20 c21 c22 c23) 6 7 8) R R R R R R R) (.cons (A6F tb (u:=dI 0) R R R R R R R) .nil)) (vK C1o R) ⟨R,R⟩)
 refine A0V kR (J5 (B4b (F:=0) (r:=()) R) eK R R R R (rU 2 R ?_))
 by_cases c:a.kind=0
 ·replace h:=J7 c h
  cases h
 replace h:=P1 c h
 by_cases c2:a.kind=1
 ·replace h:=J7 c2 h
  refine A9p (1) (.d (.v (.func (.func 196) #[] #[]))) tb R R R R R c2 R R R R R (rU 2 R ?_)
  obtain⟨rv3,k3,h⟩:=H1 h
  rcases eX h with⟨x3,nv3,h⟩ | ⟨v2,nv3,h⟩
  ·refine P0 kR kR (H8 [5,6,7,8] ((A4Y k3).err nv3) R eK R (.inl ⟨R,R,R⟩) R R R R (.cons R R C2C) R ?_)
   intro cnt
   refine E9 ?_
   cases h
   exact⟨_,⟨[(6,rf 3 6),(7,rf 4 1)],[bx 7 (.d (D5.d p)),bx 6 (.d (C3.d s)),bx 5 (.d (D2.d a)),bx 6 (.d (.agg [vI 0,.v (.slice none 0 0),.v (.slice none 0 0),.v (.slice none 0 0),vI 0,vB false])),c1 (vI 0),none,none,none,none]⟩,[0,1,2,3,4,5,6,7,8],R,(vK (.cons R R (.cons R R (.cons R R (.cons R R (.cons R R (.gone R (.gone R (.gone R (.gone R .nil))))))))) R),A25 (F:=F) x3 R⟩
  refine cO [5,6,7,8] ((A4Y k3).ok nv3) eK ((.cons R R C2C)) R ((.cons R (.row (.row (.row .nil))))) .nil R (N0 kR (A6 ?_))
  exact .inl ⟨(v2.O0,v2.V4,v2.O3,v2.A0r,v2.O4,v2.X3,v2.A0s,v2.N7,v2.A9,v2.A8,v2.A4,v2.I3,v2.I1),h,.prn [5,6,7,8] R⟩
 replace h:=P1 c2 h
 by_cases c3:a.kind=2
 ·replace h:=J7 c3 h
  refine A9p (2) (.d (.v (.func (.func 197) #[] #[]))) tb R R R R R c3 R R R R R (rU 2 R ?_)
  obtain⟨rv4,k4,h⟩:=H1 h
  rcases eX h with⟨x5,nv4,h⟩ | ⟨v3,nv4,h⟩
  ·refine P0 kR kR (H8 [5,6,7,8] ((A4Z k4).err nv4) R eK R (.inl ⟨R,R,R⟩) R R R R (.cons R R C2C) R ?_)
   intro cnt
   refine E9 ?_
   cases h
   exact⟨_,⟨[(6,rf 3 6),(7,rf 4 1)],[bx 7 (.d (D5.d p)),bx 6 (.d (C3.d s)),bx 5 (.d (D2.d a)),bx 6 (.d (.agg [vI 0,.v (.slice none 0 0),.v (.slice none 0 0),.v (.slice none 0 0),vI 0,vB false])),c1 (vI 0),none,none,none,none]⟩,[0,1,2,3,4,5,6,7,8],R,(vK (.cons R R (.cons R R (.cons R R (.cons R R (.cons R R (.gone R (.gone R (.gone R (.gone R .nil))))))))) R),A25 (F:=F) x5 R⟩
  refine cO [5,6,7,8] ((A4Z k4).ok nv4) eK ((.cons R R C2C)) R ((.cons R (.row (.row (.row .nil))))) .nil R (N0 kR (A6 ?_))
  exact .inl ⟨(v3.O0,v3.V4,v3.O3,v3.A0r,v3.O4,v3.X3,v3.A0s,v3.N7,v3.A9,v3.A8,v3.A4,v3.I3,v3.I1),h,.prn [5,6,7,8] R⟩
 replace h:=P1 c3 h
 by_cases c4:a.kind=3
 ·replace h:=J7 c4 h
  refine A9p (3) (.d (.v (.func (.func 198) #[] #[]))) tb R R R R R c4 R R R R R (rU 2 R ?_)
  obtain⟨rv5,k5,h⟩:=H1 h
  rcases eX h with⟨x7,nv5,h⟩ | ⟨v4,nv5,h⟩
  ·refine P0 kR kR (H8 [5,6,7,8] ((A5u k5).err nv5) R eK R (.inl ⟨R,R,R⟩) R R R R (.cons R R C2C) R ?_)
   intro cnt
   refine E9 ?_
   cases h
   exact⟨_,⟨[(6,rf 3 6),(7,rf 4 1)],[bx 7 (.d (D5.d p)),bx 6 (.d (C3.d s)),bx 5 (.d (D2.d a)),bx 6 (.d (.agg [vI 0,.v (.slice none 0 0),.v (.slice none 0 0),.v (.slice none 0 0),vI 0,vB false])),c1 (vI 0),none,none,none,none]⟩,[0,1,2,3,4,5,6,7,8],R,(vK (.cons R R (.cons R R (.cons R R (.cons R R (.cons R R (.gone R (.gone R (.gone R (.gone R .nil))))))))) R),A25 (F:=F) x7 R⟩
  refine cO [5,6,7,8] ((A5u k5).ok nv5) eK ((.cons R R C2C)) R ((.cons R (.row (.row (.row .nil))))) .nil R (N0 kR (A6 ?_))
  exact .inl ⟨(v4.O0,v4.V4,v4.O3,v4.A0r,v4.O4,v4.X3,v4.A0s,v4.N7,v4.A9,v4.A8,v4.A4,v4.I3,v4.I1),h,.prn [5,6,7,8] R⟩
 replace h:=P1 c4 h
 by_cases c5:a.kind=4
 ·replace h:=J7 c5 h
  refine A9p (4) (.d (.v (.func (.func 199) #[] #[]))) tb R R R R R c5 R R R R R (rU 2 R ?_)
  obtain⟨rv6,k6,h⟩:=H1 h
  rcases eX h with⟨x9,nv6,h⟩ | ⟨v5,nv6,h⟩
  ·refine P0 kR kR (H8 [5,6,7,8] ((A4X k6).err nv6) R eK R (.inl ⟨R,R,R⟩) R R R R (.cons R R C2C) R ?_)
   intro cnt
   refine E9 ?_
   cases h
   exact⟨_,⟨[(6,rf 3 6),(7,rf 4 1)],[bx 7 (.d (D5.d p)),bx 6 (.d (C3.d s)),bx 5 (.d (D2.d a)),bx 6 (.d (.agg [vI 0,.v (.slice none 0 0),.v (.slice none 0 0),.v (.slice none 0 0),vI 0,vB false])),c1 (vI 0),none,none,none,none]⟩,[0,1,2,3,4,5,6,7,8],R,(vK (.cons R R (.cons R R (.cons R R (.cons R R (.cons R R (.gone R (.gone R (.gone R (.gone R .nil))))))))) R),A25 (F:=F) x9 R⟩
  refine cO [5,6,7,8] ((A4X k6).ok nv6) eK ((.cons R R C2C)) R ((.cons R (.row (.row (.row .nil))))) .nil R (N0 kR (A6 ?_))
  exact .inl ⟨(v5.O0,v5.V4,v5.O3,v5.A0r,v5.O4,v5.X3,v5.A0s,v5.N7,v5.A9,v5.A8,v5.A4,v5.I3,v5.I1),h,.prn [5,6,7,8] R⟩
 replace h:=P1 c5 h
 by_cases c6:a.kind=5
 ·replace h:=J7 c6 h
  refine A9p (5) (.d (.v (.func (.func 200) #[] #[]))) tb R R R R R c6 R R R R R (rU 2 R ?_)
  obtain⟨rv7,k7,h⟩:=H1 h
  rcases eX h with⟨x11,nv7,h⟩ | ⟨v6,nv7,h⟩
  ·refine P0 kR kR (H8 [5,6,7,8] ((A5s k7).err nv7) R eK R (.inl ⟨R,R,R⟩) R R R R (.cons R R C2C) R ?_)
   intro cnt
   refine E9 ?_
   cases h
   exact⟨_,⟨[(6,rf 3 6),(7,rf 4 1)],[bx 7 (.d (D5.d p)),bx 6 (.d (C3.d s)),bx 5 (.d (D2.d a)),bx 6 (.d (.agg [vI 0,.v (.slice none 0 0),.v (.slice none 0 0),.v (.slice none 0 0),vI 0,vB false])),c1 (vI 0),none,none,none,none]⟩,[0,1,2,3,4,5,6,7,8],R,(vK (.cons R R (.cons R R (.cons R R (.cons R R (.cons R R (.gone R (.gone R (.gone R (.gone R .nil))))))))) R),A25 (F:=F) x11 R⟩
  refine cO [5,6,7,8] ((A5s k7).ok nv7) eK ((.cons R R C2C)) R ((.cons R (.row (.row (.row .nil))))) .nil R (N0 kR (A6 ?_))
  exact .inl ⟨(v6.O0,v6.V4,v6.O3,v6.A0r,v6.O4,v6.X3,v6.A0s,v6.N7,v6.A9,v6.A8,v6.A4,v6.I3,v6.I1),h,.prn [5,6,7,8] R⟩
 replace h:=P1 c6 h
 by_cases c7:a.kind=6
 ·replace h:=J7 c7 h
  refine A9p (6) (.d (.v (.func (.func 201) #[] #[]))) tb R R R R R c7 R R R R R (rU 2 R ?_)
  obtain⟨rv8,k8,h⟩:=H1 h
  rcases eX h with⟨x13,nv8,h⟩ | ⟨v7,nv8,h⟩
  ·refine P0 kR kR (H8 [5,6,7,8] ((A4i k8).err nv8) R eK R (.inl ⟨R,R,R⟩) R R R R (.cons R R C2C) R ?_)
   intro cnt
   refine E9 ?_
   cases h
   exact⟨_,⟨[(6,rf 3 6),(7,rf 4 1)],[bx 7 (.d (D5.d p)),bx 6 (.d (C3.d s)),bx 5 (.d (D2.d a)),bx 6 (.d (.agg [vI 0,.v (.slice none 0 0),.v (.slice none 0 0),.v (.slice none 0 0),vI 0,vB false])),c1 (vI 0),none,none,none,none]⟩,[0,1,2,3,4,5,6,7,8],R,(vK (.cons R R (.cons R R (.cons R R (.cons R R (.cons R R (.gone R (.gone R (.gone R (.gone R .nil))))))))) R),A25 (F:=F) x13 R⟩
  refine cO [5,6,7,8] ((A4i k8).ok nv8) eK ((.cons R R C2C)) R ((.cons R (.row (.row (.row .nil))))) .nil R (N0 kR (A6 ?_))
  exact .inl ⟨(v7.O0,v7.V4,v7.O3,v7.A0r,v7.O4,v7.X3,v7.A0s,v7.N7,v7.A9,v7.A8,v7.A4,v7.I3,v7.I1),h,.prn [5,6,7,8] R⟩
 replace h:=P1 c7 h
 by_cases c8:a.kind=7
 ·replace h:=J7 c8 h
  refine A9p (7) (.d (.v (.func (.func 202) #[] #[]))) tb R R R R R c8 R R R R R (rU 2 R ?_)
  obtain⟨rv9,k9,h⟩:=H1 h
  rcases eX h with⟨x15,nv9,h⟩ | ⟨v8,nv9,h⟩
  ·refine P0 kR kR (H8 [5,6,7,8] ((A4W k9).err nv9) R eK R (.inl ⟨R,R,R⟩) R R R R (.cons R R C2C) R ?_)
   intro cnt
   refine E9 ?_
   cases h
   exact⟨_,⟨[(6,rf 3 6),(7,rf 4 1)],[bx 7 (.d (D5.d p)),bx 6 (.d (C3.d s)),bx 5 (.d (D2.d a)),bx 6 (.d (.agg [vI 0,.v (.slice none 0 0),.v (.slice none 0 0),.v (.slice none 0 0),vI 0,vB false])),c1 (vI 0),none,none,none,none]⟩,[0,1,2,3,4,5,6,7,8],R,(vK (.cons R R (.cons R R (.cons R R (.cons R R (.cons R R (.gone R (.gone R (.gone R (.gone R .nil))))))))) R),A25 (F:=F) x15 R⟩
  refine cO [5,6,7,8] ((A4W k9).ok nv9) eK ((.cons R R C2C)) R ((.cons R (.row (.row (.row .nil))))) .nil R (N0 kR (A6 ?_))
  exact .inl ⟨(v8.O0,v8.V4,v8.O3,v8.A0r,v8.O4,v8.X3,v8.A0s,v8.N7,v8.A9,v8.A8,v8.A4,v8.I3,v8.I1),h,.prn [5,6,7,8] R⟩
 replace h:=P1 c8 h
 by_cases c9:a.kind=8
 ·replace h:=J7 c9 h
  refine A9p (8) (.d (.v (.func (.func 203) #[] #[]))) tb R R R R R c9 R R R R R (rU 2 R ?_)
  obtain⟨rv10,k10,h⟩:=H1 h
  rcases eX h with⟨x17,nv10,h⟩ | ⟨v9,nv10,h⟩
  ·refine P0 kR kR (H8 [5,6,7,8] ((A4w k10).err nv10) R eK R (.inl ⟨R,R,R⟩) R R R R (.cons R R C2C) R ?_)
   intro cnt
   refine E9 ?_
   cases h
   exact⟨_,⟨[(6,rf 3 6),(7,rf 4 1)],[bx 7 (.d (D5.d p)),bx 6 (.d (C3.d s)),bx 5 (.d (D2.d a)),bx 6 (.d (.agg [vI 0,.v (.slice none 0 0),.v (.slice none 0 0),.v (.slice none 0 0),vI 0,vB false])),c1 (vI 0),none,none,none,none]⟩,[0,1,2,3,4,5,6,7,8],R,(vK (.cons R R (.cons R R (.cons R R (.cons R R (.cons R R (.gone R (.gone R (.gone R (.gone R .nil))))))))) R),A25 (F:=F) x17 R⟩
  refine cO [5,6,7,8] ((A4w k10).ok nv10) eK ((.cons R R C2C)) R ((.cons R (.row (.row (.row .nil))))) .nil R (N0 kR (A6 ?_))
  exact .inl ⟨(v9.O0,v9.V4,v9.O3,v9.A0r,v9.O4,v9.X3,v9.A0s,v9.N7,v9.A9,v9.A8,v9.A4,v9.I3,v9.I1),h,.prn [5,6,7,8] R⟩
 replace h:=P1 c9 h
 by_cases c10:a.kind=9
 ·replace h:=J7 c10 h
  refine A9p (9) (.d (.v (.func (.func 204) #[] #[]))) tb R R R R R c10 R R R R R (rU 2 R ?_)
  obtain⟨rv11,k11,h⟩:=H1 h
  rcases eX h with⟨x19,nv11,h⟩ | ⟨v10,nv11,h⟩
  ·refine P0 kR kR (H8 [5,6,7,8] ((A3P k11).err nv11) R eK R (.inl ⟨R,R,R⟩) R R R R (.cons R R C2C) R ?_)
   intro cnt
   refine E9 ?_
   cases h
   exact⟨_,⟨[(6,rf 3 6),(7,rf 4 1)],[bx 7 (.d (D5.d p)),bx 6 (.d (C3.d s)),bx 5 (.d (D2.d a)),bx 6 (.d (.agg [vI 0,.v (.slice none 0 0),.v (.slice none 0 0),.v (.slice none 0 0),vI 0,vB false])),c1 (vI 0),none,none,none,none]⟩,[0,1,2,3,4,5,6,7,8],R,(vK (.cons R R (.cons R R (.cons R R (.cons R R (.cons R R (.gone R (.gone R (.gone R (.gone R .nil))))))))) R),A25 (F:=F) x19 R⟩
  refine cO [5,6,7,8] ((A3P k11).ok nv11) eK ((.cons R R C2C)) R ((.cons R (.row (.row (.row .nil))))) .nil R (N0 kR (A6 ?_))
  exact .inl ⟨(v10.O0,v10.V4,v10.O3,v10.A0r,v10.O4,v10.X3,v10.A0s,v10.N7,v10.A9,v10.A8,v10.A4,v10.I3,v10.I1),h,.prn [5,6,7,8] R⟩
 replace h:=P1 c10 h
 cases h
theorem C0s {F p s a r} (h:A9J F p s a=some r):PC Tryz.prog 79 [D5.d p,C3.d s,D2.d a] (.tup [C3.d r.1,vI r.2]):=(B1l h).toPC (.tupL (.cons (.aggL (.cons (.d _) (.cons (.row rfl rfl) (.cons (.row rfl rfl) (.cons (.row rfl rfl) (.cons (.d _) (.cons (.d _) .nil))))))) (.cons (.d _) .nil)))
def A3g (F:Nat) (p:D5) (s:C3):Option Int:=(A43 F p).bind fun rv=>if rv.2.2=0 then((A56 F p s).bind fun rv2=>B2S rv2 (none) (fun t=>(A1o F t).bind fun rv3=>if rv3=true then((A2L F t).bind fun rv4=>if rv4=true then(some 0)else(some 6))else(some 6)))else(some rv.2.2)
theorem A9i {F p s r} (h:A3g F p s=some r):PC Tryz.prog 42 [D5.d p,C3.d s] (vI r):=by
 rw[A3g]at h
 refine oW Tryz.func42 ?_
 refine gY 3 R (B8 (gU 1 R ?_))
 obtain⟨rv,k,h⟩:=H1 h
 refine J5 (A7f k) eK R R R R (eU 7 R (gU 1 R ?_))
 refine V5 R R R R (nJ h ?_) (tJ h ?_)
 ·intro h
  refine Y9 (C0 R (gY 2 R (C9 ?_)))
  cases h
  exact f1 4 R
 intro h
 refine Y9 (zF (B8 (gU 2 R ?_)))
 obtain⟨rv2,k2,h⟩:=H1 h
 rcases Option.eq_none_or_eq_some rv2 with nv | ⟨t,nv⟩
 ·replace h:=(B5h nv).symm.trans h
  refine cO [] ((A4L k2).none nv) eK .nil R .nil .nil R ?_
  cases h
 replace h:=(B5i nv).symm.trans h
 refine cO [] ((A4L k2).some nv) eK .nil R .nil ((.cons R (.row (.row (.row .nil))))) R (eU 1 R (gU 1 R ?_))
 obtain⟨rv3,k3,h⟩:=H1 h
 refine A4k (A8l k3) eK R R ((.cons (.ref R (.aggL (dL (dL (dL (dL (dL (dL (dL (dL (.cons (.row R R) (.cons (.row R R) (.cons (.row R R) (dL (dL .nil))))))))))))))) .nil)) R R (tI h ?_) (fI h ?_)
 ·intro c2 h
  refine rU 3 R ?_
  obtain⟨rv4,k4,h⟩:=H1 h
  refine A4k (A8C k4) eK R R ((.cons (.ref R (.aggL (dL (dL (dL (dL (dL (dL (dL (dL (.cons (.row R R) (.cons (.row R R) (.cons (.row R R) (dL (dL .nil))))))))))))))) .nil)) R R (tI h ?_) (fI h ?_)
  ·intro c3 h
   refine eU 2 R (zF (gY 1 R (C9 ?_)))
   cases h
   exact f1 4 R
  intro c3 h
  refine eU 2 R (C0 R (gY 1 R (C9 ?_)))
  cases h
  exact f1 4 R
 intro c2 h
 refine eU 6 R (C0 R (gY 1 R (C9 ?_)))
 cases h
 exact f1 4 R
def A55 (F:Nat) (p:D5) (s:C3) (a:D2) (e:Int):Option (C3 × Int):=if e=0 then((A9J F p s a).bind fun rv3=>some (rv3.1,rv3.2))else(some ((C3.mk 0 ([]:List Int) ([]:List Int) ([]:List Int) 0 false),e))
def A7D (F:Nat) (p:D5) (s:C3) (a:D2):Option (C3 × Int):=(A3g F p s).bind fun rv=>if rv=0 then((A9k F p a).bind fun rv2=>A55 F p s a rv2)else(A55 F p s a rv)
theorem B1k {F p s a r} (h:A7D F p s a=some r):SCR Tryz.prog 187 (List.map T.d [D5.d p,C3.d s,D2.d a]) [] (.tup [J2 r.1 0 1 2,dI r.2]) (List.map some [(B7 r.1.zones),(B7 r.1.holder),(B7 r.1.squibs)]):=by
 rw[A7D]at h
 refine oW Tryz.func187 ?_
 refine gY 5 R (gU 2 R ?_)
 obtain⟨rv,k,h⟩:=H1 h
 refine J5 (A9i k) eK R R R R (eU 1 R (B8 ?_))
 refine W5 (fun zz:Int=>A55 F p s a zz=some r) (fun zz:Int=>⟨[(3,rf 0 7),(4,rf 1 6),(5,rf 2 5),(6,rf 3 6),(7,dI 0),(8,dI zz)],[bx 7 (.d (D5.d p)),bx 6 (.d (C3.d s)),bx 5 (.d (D2.d a)),bx 6 (.d (.agg [vI 0,.v (.slice none 0 0),.v (.slice none 0 0),.v (.slice none 0 0),vI 0,vB false]))]⟩) ?_ ?_
 ·clear h
  rintro e h
  rw[A55]at h
  refine B8 (gU 1 R ?_)
  refine V5 R R R R (nJ h ?_) (tJ h ?_)
  ·intro h
   refine Y9 (C0 R (qG (S1 (v := .d (.agg [vI 0,.v (.slice none 0 0),.v (.slice none 0 0),.v (.slice none 0 0),vI 0,vB false])) tb R R (List.cons_ne_nil _ _) R R R R R R (eU 3 R ?_))))
   refine SW.own (ts':=[(6,rf 3 6),(7,dI e)]) (L':=[bx 7 (.d (D5.d p)),bx 6 (.d (C3.d s)),bx 5 (.d (D2.d a)),bx 6 (.agg [dI 0,.row 4 1 0 (([]:List Int)).length,.d (.v (.slice none 0 0)),.d (.v (.slice none 0 0)),dI 0,dB false])]) 1 R R (.cons (.same _) (.cons (.same _) .nil)) (.same (.same (.same (.cons R (.cons (.aggDL (.cons (.same _) (.cons .nil (.cons (.same _) (.cons (.same _) (.cons (.same _) (.cons (.same _) .nil))))))) .nil) .nil)))) ?_
   simp only[List.cons_append,List.nil_append]
   refine SW.own (ts':=[(6,rf 3 6),(7,dI e)]) (L':=[bx 7 (.d (D5.d p)),bx 6 (.d (C3.d s)),bx 5 (.d (D2.d a)),bx 6 (.agg [dI 0,.row 4 1 0 (([]:List Int)).length,.row 5 1 0 (([]:List Int)).length,.d (.v (.slice none 0 0)),dI 0,dB false]),B0u ([]:List Int)]) 1 R R (.cons (.same _) (.cons (.same _) .nil)) (.same (.same (.same (.cons R (.cons (.aggL (.cons (.same _) (.cons (.same _) (.cons .nil (.cons (.same _) (.cons (.same _) (.cons (.same _) .nil))))))) .nil) (.same .nil))))) ?_
   simp only[List.cons_append,List.nil_append]
   refine SW.own (ts':=[(6,rf 3 6),(7,dI e)]) (L':=[bx 7 (.d (D5.d p)),bx 6 (.d (C3.d s)),bx 5 (.d (D2.d a)),bx 6 (J2 (C3.mk 0 ([]:List Int) ([]:List Int) ([]:List Int) 0 false) 4 5 6),B0u ([]:List Int),B0u ([]:List Int)]) 1 R R (.cons (.same _) (.cons (.same _) .nil)) (.same (.same (.same (.cons R (.cons (.aggL (.cons (.same _) (.cons (.same _) (.cons (.same _) (.cons .nil (.cons (.same _) (.cons (.same _) .nil))))))) .nil) (.same (.same .nil)))))) ?_
   simp only[List.cons_append,List.nil_append]
   refine C9 ?_
   cases h
   exact f2 [4,5,6] C1o R (.cons (rc tb R) (.cons (.tmp 7) .nil)) R
  intro h
  refine Y9 (zF (gU 3 R ?_))
  obtain⟨rv3,k3,h⟩:=H1 h
  refine A2X (B1l k3) eK R R R ((.row (.row (.row .nil)))) R R R (eU 4 R (C9 ?_))
  cases h
  exact f2 [4,5,6] C1o R (.cons (rc tb R) (.cons (.tmp 7) .nil)) R
 refine gU 1 R ?_
 refine Z3 R R R R (tJ h ?_) (nJ h ?_)
 ·intro h
  refine Y9 (C0 R (hU 2 R ?_))
  obtain⟨rv2,k2,h⟩:=H1 h
  refine J5 (B5m k2) eK R R R R (nU 1 R ?_)
  exact .inl ⟨rv2,h,.prn [3,4,5,6,7,8] R⟩
 intro h
 refine Y9 (zF (A6 ?_))
 exact .inl ⟨rv,h,.prn [3,4,5,6,7,8] R⟩
theorem B6H {F p s a r} (h:A7D F p s a=some r):PC Tryz.prog 187 [D5.d p,C3.d s,D2.d a] (.tup [C3.d r.1,vI r.2]):=(B1k h).toPC (.tupL (.cons (.aggL (.cons (.d _) (.cons (.row rfl rfl) (.cons (.row rfl rfl) (.cons (.row rfl rfl) (.cons (.d _) (.cons (.d _) .nil))))))) (.cons (.d _) .nil)))
def A5l (F:Nat) (x y:Int):Option (Int × Int):=some ((IntKind.u64.wrap ((IntKind.u64.wrap ((IntKind.u64.wrap ((A6m .u64 x 32)*(A6m .u64 y 32)))+(A6m .u64 (IntKind.u64.wrap ((IntKind.u64.wrap ((A6m .u64 x 32)*(A7c .u64 y 4294967295)))+(A6m .u64 (IntKind.u64.wrap ((A7c .u64 x 4294967295)*(A7c .u64 y 4294967295))) 32))) 32)))+(A6m .u64 (IntKind.u64.wrap ((A7c .u64 (IntKind.u64.wrap ((IntKind.u64.wrap ((A6m .u64 x 32)*(A7c .u64 y 4294967295)))+(A6m .u64 (IntKind.u64.wrap ((A7c .u64 x 4294967295)*(A7c .u64 y 4294967295))) 32))) 4294967295)+(IntKind.u64.wrap ((A7c .u64 x 4294967295)*(A6m .u64 y 32))))) 32))),(IntKind.u64.wrap (x*y)))
theorem A89 {F x y r} (h:A5l F x y=some r):PC Tryz.prog 170 [.v (.int .u64 x),.v (.int .u64 y)] (.tup [.v (.int .u64 r.1),.v (.int .u64 r.2)]):=by
 rw[A5l]at h
 refine oW Tryz.func170 ?_
 refine gY 2 R (gU 1 R (B7Z R R R R (eU 1 R (gU 1 R (B4m R R dM R R (eU 1 R (gU 1 R (B7Z R R R R (eU 1 R (gU 1 R (B4m R R dM R R (eU 1 R (gY 4 R (gU 4 R (B4m R R dM R R (eU 2 R (gU 1 R (B7Z R R R R (eU 1 R (gU 1 R (B4m R R dM R R (eU 1 R (gY 6 R (gU 6 R ?_))))))))))))))))))))))))
 refine B4m R R dM R R (eU 2 R (gY 4 R (C9 ?_)))
 cases h
 exact f0 R R R (.cons (.tmp 4) (.cons (.tmp 5) .nil))
def A6o (F:Nat) (x y:Int):Option (Int × Int):=(A5l F x y).bind fun rv=>some (rv.1,rv.2)
theorem A9H {F x y r} (h:A6o F x y=some r):PC Tryz.prog 95 [.v (.int .u64 x),.v (.int .u64 y)] (.tup [.v (.int .u64 r.1),.v (.int .u64 r.2)]):=by
 rw[A6o]at h
 refine oW Tryz.func95 ?_
 refine gY 2 R (B8 (zF (gU 2 R ?_)))
 obtain⟨rv,k,h⟩:=H1 h
 refine J5 (A89 k) eK R R R R (eU 5 R (gY 4 R (C9 ?_)))
 cases h
 exact f0 R R R (.cons (.tmp 4) (.cons (.tmp 5) .nil))
def A0I (F:Nat) (K:(List Int)→Int→Option (List Int)):Nat→(List Int)→Int→Option (List Int)
 | 0,_,_=>none
 | n+1,newslice,nv=>if nv<(newslice.length:Int)then((B8K nv newslice.length).bind fun p=>if newslice.length=p then(none)else((B8K nv newslice.length).bind fun p3=>(B38 newslice p (newslice.length-p) (newslice.take p3)).bind fun newslice2=>A0I F K n newslice2 (W (nv+((min p3 (newslice2.length-p):Nat):Int)))))else(K newslice nv)
def A0b (F:Nat) (x:(List Int)) (count:Int):Option (List Int):=if count<0 then(none)else((A6o F (IntKind.u64.wrap (x.length:Int)) (IntKind.u64.wrap count)).bind fun rv=>if 0<rv.1 then(none)else(if 9223372036854775807<rv.2 then(none)else((B1D (W rv.2)).bind fun q=>(B38 (List.replicate q (0:Int)) 0 (List.replicate q (0:Int)).length x).bind fun q2=>A0I F (fun newslice nv=>some newslice) F q2 ((min x.length q2.length:Nat):Int))))
theorem A06 {F x count r} (h:A0b F x count=some r):SCR Tryz.prog 57 (List.map T.d [aI x,vI count]) [] (.row 0 1 0 (r).length) (List.map some [(B7 r)]):=by
 rw[A0b]at h
 refine oW Tryz.func57 ?_
 refine gY 1 R (B8 (gU 1 R ?_))
 refine Q4 R R R R (tJ h ?_) (lJ h ?_)
 ·intro h
  cases h
 intro h
 refine Y9 (zF (gU 1 R (I7 tb R (B5S (k2 := .u64) R R R R R R (rU 1 R (B5S (k2 := .u64) R R R R R R ?_))))))
 obtain⟨rv,k,h⟩:=H1 h
 refine J5 (A9H k) eK R R R R (eU 5 R (B8 (gU 1 R ?_)))
 refine A4l R R R R (tJ h ?_) (lJ h ?_)
 ·intro h
  cases h
 intro h
 refine rU 2 R ?_
 refine A4l R R R R (tJ h ?_) (lJ h ?_)
 ·intro h
  cases h
 intro h
 refine eU 1 R (zF (gU 1 R (B5S (k2 := .i64) R R R R R R ?_)))
 obtain⟨q,iq,h⟩:=H1 h
 refine B00 (v:=(0:Int)) (g:=vI) tb R R R R R R R ((A6i iq).1) ((A6i iq).2) R R R R (eU 1 R (gU 2 R ?_))
 obtain⟨q2,iq2,h⟩:=H1 h
 refine C0A (g:=vI) (w:=(List.replicate q (0:Int))) (v:=x) tb R R R R R R R ((A77 iq2).1) (B0Y (fun _=>rfl)) ((A77 iq2).2) R R R ?_
 first | rw[B1P iq2] | skip
 refine eU 1 R (B8 (E3 ?_))
 obtain⟨K1,hK1,h⟩:∃ K,K=_∧A0I F K F q2 ((min x.length q2.length:Nat):Int)=some r:=⟨_,rfl,h⟩
 refine lW (fun m st=>∃ (newslice:(List Int)) (nv:Int),A0I F K1 m newslice nv=some r∧st=⟨[(4,.d (.v (.slice none 0 0))),(7,.row 0 1 0 (newslice).length),(8,dI nv)],[B0u newslice]⟩) ⟨q2,((min x.length q2.length:Nat):Int),h,R⟩ (.prn [4,7,8] R) ?_
 clear h
 rintro m1 st ⟨newslice,nv,h,rfl⟩
 cases m1 with
 | zero=>cases(show(none:Option (List Int))=some r from h)
 | succ m1 =>
 rw[A0I]at h
 refine B8 (gU 2 R (A8F tb R R R R R ?_))
 refine Q4 R R R R (tJ h ?_) (lJ h ?_)
 ·intro h
  refine Y9 (zT (E3 (T1 kR (rU 3 R ?_))))
  obtain⟨p,ip,h⟩:=H1 h
  by_cases c5:newslice.length=p
  ·replace h:=J7 c5 h
   refine B5v tb R R R R R R ((A8b ip).1) c5 R R ?_
   cases h
  replace h:=P1 c5 h
  refine B6M tb R R R R R R ((A8b ip).1) (by have:=(A8b ip).2;omega) R R ?_
  refine rU 2 R ?_
  obtain⟨p3,ip3,h⟩:=H1 h
  refine B6L tb R R R R R R ((A8b ip3).1) ((A8b ip3).2) R R ?_
  obtain⟨newslice2,inewslice2,h⟩:=H1 h
  refine C0B (g:=vI) (w:=newslice) tb R R R R R R R ((A77 inewslice2).1) (by have:=(A8b ip3).2;omega) (fun _=>B0Y (fun _=>rfl)) ((A77 inewslice2).2) R R R ?_
  first | rw[B1P inewslice2] | skip
  refine rU 2 R (I0 kR (D3 (A6 ?_)))
  exact bk ⟨newslice2,(W (nv+((min p3 (newslice2.length-p):Nat):Int))),h,R⟩ (.prn [4,7,8] R)
 intro h
 refine Y9 (C1 R (N5 (E4 (E4 ?_))))
 subst hK1
 refine gY 2 R (C9 ?_)
 cases h
 exact f2 [0] C23 R (.cons (.tmp 4) .nil) R
theorem B4z {F x count r} (h:A0b F x count=some r):PC Tryz.prog 57 [aI x,vI count] (aI r):=(A06 h).toPC (.row rfl rfl)
def A44 (F:Nat) (p:D5):Option (C3 × Int):=(A43 F p).bind fun rv=>if rv.2.2=0 then((A0b F [(-1)] (p.people.length:Int)).bind fun rv2=>(A0b F [(-1)] (p.keys.length:Int)).bind fun rv3=>(B1D (p.squibs.length:Int)).bind fun q=>some ((C3.mk 0 rv2 rv3 (List.replicate q (0:Int)) (-1) false),0))else(some ((C3.mk 0 ([]:List Int) ([]:List Int) ([]:List Int) 0 false),rv.2.2))
theorem A8z {F p r} (h:A44 F p=some r):SCR Tryz.prog 43 (List.map T.d [D5.d p]) [] (.tup [J2 r.1 0 1 2,dI r.2]) (List.map some [(B7 r.1.zones),(B7 r.1.holder),(B7 r.1.squibs)]):=by
 rw[A44]at h
 refine oW Tryz.func43 ?_
 refine gY 3 R (B8 (gU 1 R ?_))
 obtain⟨rv,k,h⟩:=H1 h
 refine J5 (A7f k) eK R R R R (eU 7 R (gU 1 R ?_))
 refine V5 R R R R (nJ h ?_) (tJ h ?_)
 ·intro h
  refine Y9 (C0 R (qG (S1 (v := .d (.agg [vI 0,.v (.slice none 0 0),.v (.slice none 0 0),.v (.slice none 0 0),vI 0,vB false])) tb R R (List.cons_ne_nil _ _) R R R R R R (eU 3 R ?_))))
  refine SW.own (ts':=[(2,rf 1 6),(3,dI rv.2.2)]) (L':=[bx 7 (.d (D5.d p)),bx 6 (.agg [dI 0,.row 2 1 0 (([]:List Int)).length,.d (.v (.slice none 0 0)),.d (.v (.slice none 0 0)),dI 0,dB false])]) 1 R R (.cons (.same _) (.cons (.same _) .nil)) (.same (.cons R (.cons (.aggDL (.cons (.same _) (.cons .nil (.cons (.same _) (.cons (.same _) (.cons (.same _) (.cons (.same _) .nil))))))) .nil) .nil)) ?_
  simp only[List.cons_append,List.nil_append]
  refine SW.own (ts':=[(2,rf 1 6),(3,dI rv.2.2)]) (L':=[bx 7 (.d (D5.d p)),bx 6 (.agg [dI 0,.row 2 1 0 (([]:List Int)).length,.row 3 1 0 (([]:List Int)).length,.d (.v (.slice none 0 0)),dI 0,dB false]),B0u ([]:List Int)]) 1 R R (.cons (.same _) (.cons (.same _) .nil)) (.same (.cons R (.cons (.aggL (.cons (.same _) (.cons (.same _) (.cons .nil (.cons (.same _) (.cons (.same _) (.cons (.same _) .nil))))))) .nil) (.same .nil))) ?_
  simp only[List.cons_append,List.nil_append]
  refine SW.own (ts':=[(2,rf 1 6),(3,dI rv.2.2)]) (L':=[bx 7 (.d (D5.d p)),bx 6 (J2 (C3.mk 0 ([]:List Int) ([]:List Int) ([]:List Int) 0 false) 2 3 4),B0u ([]:List Int),B0u ([]:List Int)]) 1 R R (.cons (.same _) (.cons (.same _) .nil)) (.same (.cons R (.cons (.aggL (.cons (.same _) (.cons (.same _) (.cons (.same _) (.cons .nil (.cons (.same _) (.cons (.same _) .nil))))))) .nil) (.same (.same .nil)))) ?_
  simp only[List.cons_append,List.nil_append]
  refine C9 ?_
  cases h
  exact f2 [2,3,4] C1o R (.cons (rc tb R) (.cons (.tmp 3) .nil)) R
 intro h
 refine Y9 (zF (qG (P7 tb R R R R R R R R R R R R R (eU 1 R (B8 (T1 kR (rU 3 R (I7 tb R ?_))))))))
 obtain⟨rv2,k2,h⟩:=H1 h
 refine A3j (A06 k2) R ((.row (fun _=>rfl) .nil)) eK R R ((.cons (.row R R) (dL .nil))) R ((.row .nil)) R R R ?_
 refine rU 3 R (I7 tb R ?_)
 obtain⟨rv3,k3,h⟩:=H1 h
 refine A3j (A06 k3) R ((.row (fun _=>rfl) .nil)) eK R R ((.cons (.row R R) (dL .nil))) R ((.row .nil)) R R R ?_
 refine rU 2 R (I7 tb R ?_)
 obtain⟨q,iq,h⟩:=H1 h
 refine B00 (v:=(0:Int)) (g:=vI) tb R R R R R R R ((A6i iq).1) ((A6i iq).2) R R R R (S1 (v:=J2 (C3.mk 0 rv2 rv3 (List.replicate q (0:Int)) (-1) false) 3 4 5) tb R R (List.cons_ne_nil _ _) R R R R R R (rU 2 R (I0 kR (C9 ?_))))
 cases h
 exact f2 [3,4,5] C1o R (.cons (rc tb R) (.cons (.tmp 3) .nil)) R
theorem B2T {F p r} (h:A44 F p=some r):PC Tryz.prog 43 [D5.d p] (.tup [C3.d r.1,vI r.2]):=(A8z h).toPC (.tupL (.cons (.aggL (.cons (.d _) (.cons (.row rfl rfl) (.cons (.row rfl rfl) (.cons (.row rfl rfl) (.cons (.d _) (.cons (.d _) .nil))))))) (.cons (.d _) .nil)))
def A4T (F:Nat) (a b c d:Int):Option B06:=some (B06.mk a b c d)
theorem A5K {F a b c d r} (h:A4T F a b c d=some r):PC Tryz.prog 143 [vI a,vI b,vI c,vI d] (B06.d r):=by
 rw[A4T]at h
 refine oW Tryz.func143 ?_
 refine gY 1 R (gU 2 R (S1 (v := .d (.agg [vI a,vI b])) tb R R (List.cons_ne_nil _ _) R R R R R R (rU 2 R (S1 (v := .d (.agg [vI c,vI d])) tb R R (List.cons_ne_nil _ _) R R R R R R (S1 (v := .d (.agg [vI a,vI b,vI c,vI d])) tb R R (List.cons_ne_nil _ _) R R R R R R (eU 1 R (C9 ?_)))))))
 cases h
 exact f0 R R R (.cons (rc tb R) .nil)
def A9E (F:Nat):Option D5:=(A4T F (-500000) (-400000) 0 50000).bind fun rv=>(A4T F (-300000) (-100000) (-10000) 10000).bind fun rv2=>(A4T F (-5000) 5000 (-5000) 5000).bind fun rv3=>some (D5.mk [(F6.mk (ByteArray.mk #[98,117,110,107,101,114]) rv.A7P rv.A7O rv.A7R rv.A7Q 0 8 false),(F6.mk (ByteArray.mk #[114,111,97,100]) rv2.A7P rv2.A7O rv2.A7R rv2.A7Q 1 4 false),(F6.mk (ByteArray.mk #[114,97,105,108]) rv3.A7P rv3.A7O rv3.A7R rv3.A7Q 2 2 true)] [(G6.mk (-1) 0),(G6.mk 0 1),(G6.mk 2 1)] [(E2.mk (ByteArray.mk #[97,110,110]) 5),(E2.mk (ByteArray.mk #[98,111,98]) 2),(E2.mk (ByteArray.mk #[101,118,101]) 1)] [(ByteArray.mk #[114,101,100]),(ByteArray.mk #[98,108,117,101]),(ByteArray.mk #[103,114,101,121])] [(D1.mk (ByteArray.mk #[109,111,116,111,114]) 0 0 100000 5 [0,1]),(D1.mk (ByteArray.mk #[99,104,117,116,101]) 0 3000 20000 3 [2])] 0 100)
theorem B2I {F r} (h:A9E F =some r):PC Tryz.prog 71 [] (D5.d r):=by
 rw[A9E]at h
 refine PC.of_lend ?_
 refine oW Tryz.func71 ?_
 refine gY 1 R (gY 1 R (gU 1 R ?_))
 obtain⟨rv,k,h⟩:=H1 h
 refine J5 (A5K k) eK R R R R (S1 (v := .d (.agg [vS (ByteArray.mk #[98,117,110,107,101,114]),vI rv.A7P,vI rv.A7O,vI rv.A7R,vI rv.A7Q,vI 0,vI 8,vB false])) tb R R (List.cons_ne_nil _ _) R R R R R R (rU 1 R ?_))
 obtain⟨rv2,k2,h⟩:=H1 h
 refine J5 (A5K k2) eK R R R R (S1 (v := .d (.agg [vS (ByteArray.mk #[114,111,97,100]),vI rv2.A7P,vI rv2.A7O,vI rv2.A7R,vI rv2.A7Q,vI 1,vI 4,vB false])) tb R R (List.cons_ne_nil _ _) R R R R R R (rU 1 R ?_))
 obtain⟨rv3,k3,h⟩:=H1 h
 refine J5 (A5K k3) eK R R R R (S1 (v := .d (.agg [vS (ByteArray.mk #[114,97,105,108]),vI rv3.A7P,vI rv3.A7O,vI rv3.A7R,vI rv3.A7Q,vI 2,vI 2,vB true])) tb R R (List.cons_ne_nil _ _) R R R R R R (P7 tb R R R R R R R R R R R R R (S1 (v := .d (.agg [vI (-1),vI 0])) tb R R (List.cons_ne_nil _ _) R R R R R R ?_)))
 refine S1 (v := .d (.agg [vI 0,vI 1])) tb R R (List.cons_ne_nil _ _) R R R R R R (S1 (v := .d (.agg [vI 2,vI 1])) tb R R (List.cons_ne_nil _ _) R R R R R R (P7 tb R R R R R R R R R R R R R (S1 (v := .d (.agg [vS (ByteArray.mk #[97,110,110]),vI 5])) tb R R (List.cons_ne_nil _ _) R R R R R R ?_)))
 refine S1 (v := .d (.agg [vS (ByteArray.mk #[98,111,98]),vI 2])) tb R R (List.cons_ne_nil _ _) R R R R R R (S1 (v := .d (.agg [vS (ByteArray.mk #[101,118,101]),vI 1])) tb R R (List.cons_ne_nil _ _) R R R R R R (P7 tb R R R R R R R R R R R R R (P7 tb R R R R R R R R R R R R R (P7 tb R R R R R R R R R R R R R ?_))))
 refine S1 (v:=A0h (D1.mk (ByteArray.mk #[109,111,116,111,114]) 0 0 100000 5 [0,1]) 5) tb R R (List.cons_ne_nil _ _) R R R R R R (S1 (v := .d (.agg [vI 0,vI 3000])) tb R R (List.cons_ne_nil _ _) R R R R R R (P7 tb R R R R R R R R R R R R R (S1 (v:=A0h (D1.mk (ByteArray.mk #[99,104,117,116,101]) 0 3000 20000 3 [2]) 6) tb R R (List.cons_ne_nil _ _) R R R R R R (P7 tb R R R R R R R R R R R R R ?_))))
 refine S1 (v := .agg [.row 1 8 0 ([(F6.mk (ByteArray.mk #[98,117,110,107,101,114]) rv.A7P rv.A7O rv.A7R rv.A7Q 0 8 false),(F6.mk (ByteArray.mk #[114,111,97,100]) rv2.A7P rv2.A7O rv2.A7R rv2.A7Q 1 4 false),(F6.mk (ByteArray.mk #[114,97,105,108]) rv3.A7P rv3.A7O rv3.A7R rv3.A7Q 2 2 true)]).length,.row 2 2 0 ([(G6.mk (-1) 0),(G6.mk 0 1),(G6.mk 2 1)]).length,.row 3 2 0 ([(E2.mk (ByteArray.mk #[97,110,110]) 5),(E2.mk (ByteArray.mk #[98,111,98]) 2),(E2.mk (ByteArray.mk #[101,118,101]) 1)]).length,.row 4 1 0 ([(ByteArray.mk #[114,101,100]),(ByteArray.mk #[98,108,117,101]),(ByteArray.mk #[103,114,101,121])]).length,.row 7 6 0 2,dI 0,dI 100]) tb R R (List.cons_ne_nil _ _) R R R R R R ?_
 refine eU 1 R (C9 ?_)
 cases h
 exact(U0 (t := .agg [.row 0 8 0 ([(F6.mk (ByteArray.mk #[98,117,110,107,101,114]) rv.A7P rv.A7O rv.A7R rv.A7Q 0 8 false),(F6.mk (ByteArray.mk #[114,111,97,100]) rv2.A7P rv2.A7O rv2.A7R rv2.A7Q 1 4 false),(F6.mk (ByteArray.mk #[114,97,105,108]) rv3.A7P rv3.A7O rv3.A7R rv3.A7Q 2 2 true)]).length,.row 1 2 0 ([(G6.mk (-1) 0),(G6.mk 0 1),(G6.mk 2 1)]).length,.row 2 2 0 ([(E2.mk (ByteArray.mk #[97,110,110]) 5),(E2.mk (ByteArray.mk #[98,111,98]) 2),(E2.mk (ByteArray.mk #[101,118,101]) 1)]).length,.row 3 1 0 ([(ByteArray.mk #[114,101,100]),(ByteArray.mk #[98,108,117,101]),(ByteArray.mk #[103,114,101,121])]).length,.row 4 6 0 2,dI 0,dI 100]) (L:=[C3B [(F6.mk (ByteArray.mk #[98,117,110,107,101,114]) rv.A7P rv.A7O rv.A7R rv.A7Q 0 8 false),(F6.mk (ByteArray.mk #[114,111,97,100]) rv2.A7P rv2.A7O rv2.A7R rv2.A7Q 1 4 false),(F6.mk (ByteArray.mk #[114,97,105,108]) rv3.A7P rv3.A7O rv3.A7R rv3.A7Q 2 2 true)],C39 [(G6.mk (-1) 0),(G6.mk 0 1),(G6.mk 2 1)],C34 [(E2.mk (ByteArray.mk #[97,110,110]) 5),(E2.mk (ByteArray.mk #[98,111,98]) 2),(E2.mk (ByteArray.mk #[101,118,101]) 1)],C4g [(ByteArray.mk #[114,101,100]),(ByteArray.mk #[98,108,117,101]),(ByteArray.mk #[103,114,101,121])],some ⟨6,[A0h (D1.mk (ByteArray.mk #[109,111,116,111,114]) 0 0 100000 5 [0,1]) 5,A0h (D1.mk (ByteArray.mk #[99,104,117,116,101]) 0 3000 20000 3 [2]) 6]⟩,B0u [0,1],B0u [2]]) (κ:=[1,2,3,4,7,5,6]) R (.cons (rc tb R) .nil) (vK (.row R (.row R (.row R (.row R (.cons R R C37))))) R) ⟨_,R,(.aggL (.cons (.row R R) (.cons (.row R R) (.cons (.row R R) (.cons (.row R R) (.cons (.rowL R R (.cons (.aggL (dL (dL (dL (dL (dL (.cons (.row R R) .nil))))))) (.cons (.aggL (dL (dL (dL (dL (dL (.cons (.row R R) .nil))))))) .nil))) (dL (dL .nil))))))))⟩)
def Y7 (F:Nat) (nv lo hi:Int):Option Bool:=if nv<lo then(some true)else(some (decide (hi<nv)))
theorem V8 {F nv lo hi r} (h:Y7 F nv lo hi=some r):PC Tryz.prog 52 [vI nv,vI lo,vI hi] (vB r):=by
 rw[Y7]at h
 refine oW Tryz.func52 ?_
 refine gY 1 R (gU 2 R ?_)
 refine Q4 R R R R (tJ h ?_) (lJ h ?_)
 ·intro h
  refine eU 6 R (C9 ?_)
  cases h
  exact f1 6 R
 intro h
 refine rU 3 R (B5u R R R R (eU 2 R (C9 ?_)))
 cases h
 exact f1 6 R
def A1Q (F:Nat) (nv c:Int):Option Bool:=(Y7 F nv 0 (W (c-1))).bind fun rv=>some rv
theorem A79 {F nv c r} (h:A1Q F nv c=some r):PC Tryz.prog 185 [vI nv,.el 1 (([c]).map vI) ((0:Int)).toNat 0] (vB r):=by
 rw[A1Q]at h
 refine oW Tryz.func185 ?_
 refine gY 1 R (gU 1 R (I4 (y:=vI c) tb (U5 (g:=vI) (R:P3 [c] 0=some c)) R (rU 1 R ?_)))
 obtain⟨rv,k,h⟩:=H1 h
 refine J5 (V8 k) eK R R R R (eU 1 R (C9 ?_))
 cases h
 exact f1 3 R
def R9 (F:Nat) (s:(List (List Int))) (f:((List Int)→Option Bool)) (K:Int→Option Int):Nat→Int→Option Int
 | 0,_=>none
 | n+1,x=>if x<(s.length:Int)then((P3 s x).bind fun e=>(f e).bind fun rv=>if rv=true then(some x)else(R9 F s f K n (W (x+1))))else(K x)
def A1A (F:Nat) (s:(List (List Int))) (f:((List Int)→Option Bool)):Option Int:=R9 F s f (fun x=>some (-1)) F 0
theorem A6c {F:Nat} {s:(List (List Int))} {f:((List Int)→Option Bool)} {r:Int} {fi:Nat} {fc:List D} (fh:∀ {a0:(List Int)} {r:Bool},f a0=some r→PC Tryz.prog fi ([.arr 1 ((a0).map vI)]++fc) (.v (.bool r))) (fe:Ent Tryz.prog fi) (h:A1A F s f=some r):SCR Tryz.prog 217 [.d (.arr 1 ((s).map (fun l=>D.arr 1 (l.map vI)))),.fn (.func fi) [] (fc.map .d)] [] (dI r) (List.map some []):=by
 rw[A1A]at h
 refine oW Tryz.func217 ?_
 refine gY 1 R (B8 (gU 1 R (I7 tb R (eU 1 R (E3 ?_)))))
 obtain⟨K2,hK2,h⟩:∃ K,K=_∧R9 F s f K F 0=some r:=⟨_,rfl,h⟩
 refine lW (fun m st=>∃ (x:Int),R9 F s f K2 m x=some r∧st=⟨[(0,.d (.arr 1 ((s).map (fun l=>D.arr 1 (l.map vI))))),(1,.fn (.func fi) [] (fc.map .d)),(4,dI 0),(7,dI (s.length:Int)),(8,dI x)],[]⟩) ⟨0,h,R⟩ (.prn [0,1,4,7,8] R) ?_
 clear h
 rintro m2 st ⟨x,h,rfl⟩
 cases m2 with
 | zero=>cases(show(none:Option Int)=some r from h)
 | succ m2 =>
 rw[R9]at h
 refine qG ?_
 refine Q4 R R R R (tJ h ?_) (lJ h ?_)
 ·intro h
  refine Y9 (B8 (zT (B8 (E3 (gY 2 R (gU 3 R ?_))))))
  obtain⟨e,ie,h⟩:=H1 h
  refine yE ie R R ?_
  obtain⟨rv,k,h⟩:=H1 h
  refine A2W (vs:=[aI e]) (fh k) fe R R R R ?_
  refine X8 (tI h ?_) (fI h ?_)
  ·intro c2 h
   refine Y9 (C0 R (gY 2 R (C9 ?_)))
   cases h
   exact f1 4 R
  intro c2 h
  refine Y9 (zF (hN 2 R ?_))
  exact bk ⟨(W (x+1)),h,R⟩ (.prn [0,1,4,7,8] R)
 intro h
 refine Y9 (B8 (C1 R (N5 (E4 (E4 ?_)))))
 subst hK2
 refine gY 1 R (C9 ?_)
 cases h
 exact f1 4 R
def W6 (F:Nat) (s:(List (List Int))) (f:((List Int)→Option Bool)):Option Bool:=(A1A F s f).bind fun rv=>some (decide (0≤rv))
theorem A2N {F:Nat} {s:(List (List Int))} {f:((List Int)→Option Bool)} {r:Bool} {fi:Nat} {fc:List D} (fh:∀ {a0:(List Int)} {r:Bool},f a0=some r→PC Tryz.prog fi ([.arr 1 ((a0).map vI)]++fc) (.v (.bool r))) (fe:Ent Tryz.prog fi) (h:W6 F s f=some r):SCR Tryz.prog 183 [.d (.arr 1 ((s).map (fun l=>D.arr 1 (l.map vI)))),.fn (.func fi) [] (fc.map .d)] [] (dB r) (List.map some []):=by
 rw[W6]at h
 refine oW Tryz.func183 ?_
 refine gY 1 R (gU 2 R ?_)
 obtain⟨rv,k,h⟩:=H1 h
 refine A0t (A6c (f:=f) (fh:=fh) (fe:=fe) k) R .nil eK R R ((.cons (.d (.d _)) (.cons .hof .nil))) R .nil R R R ?_
 simp only[List.map_nil,List.append_nil]
 refine A3k R R R R (eU 1 R (C9 ?_))
 cases h
 exact f1 4 R
def A1G (F:Nat) (lv:(List Int)) (c:Int):Option Bool:=(M1 F lv (fun a0=>A1Q F a0 c)).bind fun rv=>some rv
theorem A86 {F lv c r} (h:A1G F lv c=some r):PC Tryz.prog 184 [aI lv,.el 1 (([c]).map vI) ((0:Int)).toNat 0] (vB r):=by
 rw[A1G]at h
 refine oW Tryz.func184 ?_
 refine gY 1 R (gU 1 R (A3E R R R R ?_))
 obtain⟨rv,k,h⟩:=H1 h
 refine A0t (R5 (f:=(fun a0=>A1Q F a0 c)) (fc:=[.el 1 (([c]).map vI) ((0:Int)).toNat 0]) (fh:=fun hr=>A79 hr) (fe := .of kR) k) R .nil eK R R ((.cons (.d (.d _)) (.cons (.fnC (.cons (.d (.d _)) .nil)) .nil))) R .nil R R R ?_
 simp only[List.map_nil,List.append_nil]
 refine eU 1 R (C9 ?_)
 cases h
 exact f1 3 R
def A2R (F:Nat) (many:Int) (lists:(List (List Int))):Option Bool:=(W6 F lists (fun a0=>A1G F a0 many)).bind fun rv=>some rv
theorem A62 {F many lists r} (h:A2R F many lists=some r):PC Tryz.prog 129 [vI many,.arr 1 ((lists).map (fun l=>D.arr 1 (l.map vI)))] (vB r):=by
 rw[A2R]at h
 refine oW Tryz.func129 ?_
 refine gY 2 R (gU 1 R (A3E R R R R ?_))
 obtain⟨rv,k,h⟩:=H1 h
 refine A0t (A2N (f:=(fun a0=>A1G F a0 many)) (fc:=[.el 1 [vI many] 0 0]) (fh:=fun hr=>A86 hr) (fe := .of kR) k) R .nil eK R R ((.cons (.d (.d _)) (.cons (.fnC (.cons (.d (.ref R (.d _))) .nil)) .nil))) R .nil R R R ?_
 simp only[List.map_nil,List.append_nil]
 refine eU 1 R (C9 ?_)
 cases h
 exact f1 4 R
def U9 (F:Nat) (lv:(List Int)) (K:Int→Option Bool):Nat→Int→Option Bool
 | 0,_=>none
 | n+1,x=>if x<(lv.length:Int)then(if 0<x then((P3 lv x).bind fun e=>(P3 lv (W (x-1))).bind fun e2=>if e≤e2 then(some true)else(U9 F lv K n (W (x+1))))else(U9 F lv K n (W (x+1))))else(K x)
def A2Q (F:Nat) (lv:(List Int)):Option Bool:=U9 F lv (fun x=>some false) F 0
theorem A97 {F lv r} (h:A2Q F lv=some r):PC Tryz.prog 186 [aI lv] (vB r):=by
 rw[A2Q]at h
 refine oW Tryz.func186 ?_
 refine gY 1 R (B8 (gU 1 R (I7 tb R (eU 1 R (E3 ?_)))))
 obtain⟨K3,hK3,h⟩:∃ K,K=_∧U9 F lv K F 0=some r:=⟨_,rfl,h⟩
 refine lW (fun m st=>∃ (x:Int),U9 F lv K3 m x=some r∧st=⟨[(0,.d (aI lv)),(2,dB false),(5,dI (lv.length:Int)),(6,dI x)],[]⟩) ⟨0,h,R⟩ (.prn [0,2,5,6] R) ?_
 clear h
 rintro m3 st ⟨x,h,rfl⟩
 cases m3 with
 | zero=>cases(show(none:Option Bool)=some r from h)
 | succ m3 =>
 rw[U9]at h
 refine qG ?_
 refine Q4 R R R R (tJ h ?_) (lJ h ?_)
 ·intro h
  refine Y9 (B8 (zT (B8 (E3 (gY 2 R (B8 (T1 kR (rU 1 R ?_))))))))
  refine A4l R R R R (tJ h ?_) (lJ h ?_)
  ·intro h
   refine rU 3 R ?_
   obtain⟨e,ie,h⟩:=H1 h
   refine yE ie R R (rU 3 R ?_)
   obtain⟨e2,ie2,h⟩:=H1 h
   refine yE ie2 R R ?_
   refine B1t R R R R (tJ h ?_) (mJ h ?_)
   ·intro h
    refine rU 1 R (I0 kR (C0 R (gY 1 R (C9 ?_))))
    cases h
    exact f1 2 R
   intro h
   refine rU 1 R (I0 kR (zF (hN 2 R ?_)))
   exact bk ⟨(W (x+1)),h,R⟩ (.prn [0,2,5,6] R)
  intro h
  refine rU 12 R (I0 kR (zF (hN 2 R ?_)))
  exact bk ⟨(W (x+1)),h,R⟩ (.prn [0,2,5,6] R)
 intro h
 refine Y9 (B8 (C1 R (N5 (E4 (E4 ?_)))))
 subst hK3
 refine gY 1 R (C9 ?_)
 cases h
 exact f1 2 R
def A4R (F:Nat) (lists:(List (List Int))):Option Bool:=(W6 F lists (fun a0=>A2Q F a0)).bind fun rv=>some rv
theorem B0L {F lists r} (h:A4R F lists=some r):PC Tryz.prog 130 [.arr 1 ((lists).map (fun l=>D.arr 1 (l.map vI)))] (vB r):=by
 rw[A4R]at h
 refine oW Tryz.func130 ?_
 refine gY 1 R (gU 1 R ?_)
 obtain⟨rv,k,h⟩:=H1 h
 refine A0t (A2N (f:=(fun a0=>A2Q F a0)) (fc:=[]) (fh:=fun hr=>A97 hr) (fe := .of kR) k) R .nil eK R R ((.cons (.d (.d _)) (.cons .fnc .nil))) R .nil R R R ?_
 simp only[List.map_nil,List.append_nil]
 refine eU 1 R (C9 ?_)
 cases h
 exact f1 2 R
def Q3 (F:Nat) (s:(List ByteArray)) (f:(ByteArray→Option Bool)) (K:Int→Option Int):Nat→Int→Option Int
 | 0,_=>none
 | n+1,x=>if x<(s.length:Int)then((P3 s x).bind fun e=>(f e).bind fun rv=>if rv=true then(some x)else(Q3 F s f K n (W (x+1))))else(K x)
def A0Q (F:Nat) (s:(List ByteArray)) (f:(ByteArray→Option Bool)):Option Int:=Q3 F s f (fun x=>some (-1)) F 0
theorem A51 {F:Nat} {s:(List ByteArray)} {f:(ByteArray→Option Bool)} {r:Int} {fi:Nat} {fc:List D} (fh:∀ {a0:ByteArray} {r:Bool},f a0=some r→PC Tryz.prog fi ([.v (.string a0)]++fc) (.v (.bool r))) (fe:Ent Tryz.prog fi) (h:A0Q F s f=some r):SCR Tryz.prog 179 [.d (.arr 1 ((s).map vS)),.fn (.func fi) [] (fc.map .d)] [] (dI r) (List.map some []):=by
 rw[A0Q]at h
 refine oW Tryz.func179 ?_
 refine gY 1 R (B8 (gU 1 R (I7 tb R (eU 1 R (E3 ?_)))))
 obtain⟨K2,hK2,h⟩:∃ K,K=_∧Q3 F s f K F 0=some r:=⟨_,rfl,h⟩
 refine lW (fun m st=>∃ (x:Int),Q3 F s f K2 m x=some r∧st=⟨[(0,.d (.arr 1 ((s).map vS))),(1,.fn (.func fi) [] (fc.map .d)),(4,dI 0),(7,dI (s.length:Int)),(8,dI x)],[]⟩) ⟨0,h,R⟩ (.prn [0,1,4,7,8] R) ?_
 clear h
 rintro m2 st ⟨x,h,rfl⟩
 cases m2 with
 | zero=>cases(show(none:Option Int)=some r from h)
 | succ m2 =>
 rw[Q3]at h
 refine qG ?_
 refine Q4 R R R R (tJ h ?_) (lJ h ?_)
 ·intro h
  refine Y9 (B8 (zT (B8 (E3 (gY 2 R (gU 3 R ?_))))))
  obtain⟨e,ie,h⟩:=H1 h
  refine yE ie R R ?_
  obtain⟨rv,k,h⟩:=H1 h
  refine A2W (vs:=[vS e]) (fh k) fe R R R R ?_
  refine X8 (tI h ?_) (fI h ?_)
  ·intro c2 h
   refine Y9 (C0 R (gY 2 R (C9 ?_)))
   cases h
   exact f1 4 R
  intro c2 h
  refine Y9 (zF (hN 2 R ?_))
  exact bk ⟨(W (x+1)),h,R⟩ (.prn [0,1,4,7,8] R)
 intro h
 refine Y9 (B8 (C1 R (N5 (E4 (E4 ?_)))))
 subst hK2
 refine gY 1 R (C9 ?_)
 cases h
 exact f1 4 R
def Y4 (F:Nat) (s:(List ByteArray)) (f:(ByteArray→Option Bool)):Option Bool:=(A0Q F s f).bind fun rv=>some (decide (0≤rv))
theorem A4A {F:Nat} {s:(List ByteArray)} {f:(ByteArray→Option Bool)} {r:Bool} {fi:Nat} {fc:List D} (fh:∀ {a0:ByteArray} {r:Bool},f a0=some r→PC Tryz.prog fi ([.v (.string a0)]++fc) (.v (.bool r))) (fe:Ent Tryz.prog fi) (h:Y4 F s f=some r):SCR Tryz.prog 123 [.d (.arr 1 ((s).map vS)),.fn (.func fi) [] (fc.map .d)] [] (dB r) (List.map some []):=by
 rw[Y4]at h
 refine oW Tryz.func123 ?_
 refine gY 1 R (gU 2 R ?_)
 obtain⟨rv,k,h⟩:=H1 h
 refine A0t (A51 (f:=f) (fh:=fh) (fe:=fe) k) R .nil eK R R ((.cons (.d (.d _)) (.cons .hof .nil))) R .nil R R R ?_
 simp only[List.map_nil,List.append_nil]
 refine A3k R R R R (eU 1 R (C9 ?_))
 cases h
 exact f1 4 R
def O5 (F:Nat) (s:(List D9)) (f:(D9→Option Bool)) (K:Int→Option Int):Nat→Int→Option Int
 | 0,_=>none
 | n+1,x=>if x<(s.length:Int)then((P3 s x).bind fun e=>(f e).bind fun rv=>if rv=true then(some x)else(O5 F s f K n (W (x+1))))else(K x)
def A0w (F:Nat) (s:(List D9)) (f:(D9→Option Bool)):Option Int:=O5 F s f (fun x=>some (-1)) F 0
theorem A4B {F:Nat} {s:(List D9)} {f:(D9→Option Bool)} {r:Int} {fi:Nat} {fc:List D} (fh:∀ {a0:D9} {r:Bool},f a0=some r→PC Tryz.prog fi ([D9.d a0]++fc) (.v (.bool r))) (fe:Ent Tryz.prog fi) (h:A0w F s f=some r):SCR Tryz.prog 180 [.d (.arr 3 ((s).map D9.d)),.fn (.func fi) [] (fc.map .d)] [] (dI r) (List.map some []):=by
 rw[A0w]at h
 refine oW Tryz.func180 ?_
 refine gY 1 R (B8 (gU 1 R (I7 tb R (eU 1 R (E3 ?_)))))
 obtain⟨K2,hK2,h⟩:∃ K,K=_∧O5 F s f K F 0=some r:=⟨_,rfl,h⟩
 refine lW (fun m st=>∃ (x:Int),O5 F s f K2 m x=some r∧st=⟨[(0,.d (.arr 3 ((s).map D9.d))),(1,.fn (.func fi) [] (fc.map .d)),(4,dI 0),(7,dI (s.length:Int)),(8,dI x)],[]⟩) ⟨0,h,R⟩ (.prn [0,1,4,7,8] R) ?_
 clear h
 rintro m2 st ⟨x,h,rfl⟩
 cases m2 with
 | zero=>cases(show(none:Option Int)=some r from h)
 | succ m2 =>
 rw[O5]at h
 refine qG ?_
 refine Q4 R R R R (tJ h ?_) (lJ h ?_)
 ·intro h
  refine Y9 (B8 (zT (B8 (E3 (gY 2 R (gU 3 R ?_))))))
  obtain⟨e,ie,h⟩:=H1 h
  refine yE ie R R ?_
  obtain⟨rv,k,h⟩:=H1 h
  refine A2W (vs:=[D9.d e]) (fh k) fe R R R R ?_
  refine X8 (tI h ?_) (fI h ?_)
  ·intro c2 h
   refine Y9 (C0 R (gY 2 R (C9 ?_)))
   cases h
   exact f1 4 R
  intro c2 h
  refine Y9 (zF (hN 2 R ?_))
  exact bk ⟨(W (x+1)),h,R⟩ (.prn [0,1,4,7,8] R)
 intro h
 refine Y9 (B8 (C1 R (N5 (E4 (E4 ?_)))))
 subst hK2
 refine gY 1 R (C9 ?_)
 cases h
 exact f1 4 R
def V6 (F:Nat) (s:(List D9)) (f:(D9→Option Bool)):Option Bool:=(A0w F s f).bind fun rv=>some (decide (0≤rv))
theorem A3U {F:Nat} {s:(List D9)} {f:(D9→Option Bool)} {r:Bool} {fi:Nat} {fc:List D} (fh:∀ {a0:D9} {r:Bool},f a0=some r→PC Tryz.prog fi ([D9.d a0]++fc) (.v (.bool r))) (fe:Ent Tryz.prog fi) (h:V6 F s f=some r):SCR Tryz.prog 125 [.d (.arr 3 ((s).map D9.d)),.fn (.func fi) [] (fc.map .d)] [] (dB r) (List.map some []):=by
 rw[V6]at h
 refine oW Tryz.func125 ?_
 refine gY 1 R (gU 2 R ?_)
 obtain⟨rv,k,h⟩:=H1 h
 refine A0t (A4B (f:=f) (fh:=fh) (fe:=fe) k) R .nil eK R R ((.cons (.d (.d _)) (.cons .hof .nil))) R .nil R R R ?_
 simp only[List.map_nil,List.append_nil]
 refine A3k R R R R (eU 1 R (C9 ?_))
 cases h
 exact f1 4 R
def Q2 (F:Nat) (s:(List E0)) (f:(E0→Option Bool)) (K:Int→Option Int):Nat→Int→Option Int
 | 0,_=>none
 | n+1,x=>if x<(s.length:Int)then((P3 s x).bind fun e=>(f e).bind fun rv=>if rv=true then(some x)else(Q2 F s f K n (W (x+1))))else(K x)
def A0P (F:Nat) (s:(List E0)) (f:(E0→Option Bool)):Option Int:=Q2 F s f (fun x=>some (-1)) F 0
theorem A50 {F:Nat} {s:(List E0)} {f:(E0→Option Bool)} {r:Int} {fi:Nat} {fc:List D} (fh:∀ {a0:E0} {r:Bool},f a0=some r→PC Tryz.prog fi ([E0.d a0]++fc) (.v (.bool r))) (fe:Ent Tryz.prog fi) (h:A0P F s f=some r):SCR Tryz.prog 216 [.d (.arr 9 ((s).map E0.d)),.fn (.func fi) [] (fc.map .d)] [] (dI r) (List.map some []):=by
 rw[A0P]at h
 refine oW Tryz.func216 ?_
 refine gY 1 R (B8 (gU 1 R (I7 tb R (eU 1 R (E3 ?_)))))
 obtain⟨K2,hK2,h⟩:∃ K,K=_∧Q2 F s f K F 0=some r:=⟨_,rfl,h⟩
 refine lW (fun m st=>∃ (x:Int),Q2 F s f K2 m x=some r∧st=⟨[(0,.d (.arr 9 ((s).map E0.d))),(1,.fn (.func fi) [] (fc.map .d)),(4,dI 0),(7,dI (s.length:Int)),(8,dI x)],[]⟩) ⟨0,h,R⟩ (.prn [0,1,4,7,8] R) ?_
 clear h
 rintro m2 st ⟨x,h,rfl⟩
 cases m2 with
 | zero=>cases(show(none:Option Int)=some r from h)
 | succ m2 =>
 rw[Q2]at h
 refine qG ?_
 refine Q4 R R R R (tJ h ?_) (lJ h ?_)
 ·intro h
  refine Y9 (B8 (zT (B8 (E3 (gY 2 R (gU 3 R ?_))))))
  obtain⟨e,ie,h⟩:=H1 h
  refine yE ie R R ?_
  obtain⟨rv,k,h⟩:=H1 h
  refine A2W (vs:=[E0.d e]) (fh k) fe R R R R ?_
  refine X8 (tI h ?_) (fI h ?_)
  ·intro c2 h
   refine Y9 (C0 R (gY 2 R (C9 ?_)))
   cases h
   exact f1 4 R
  intro c2 h
  refine Y9 (zF (hN 2 R ?_))
  exact bk ⟨(W (x+1)),h,R⟩ (.prn [0,1,4,7,8] R)
 intro h
 refine Y9 (B8 (C1 R (N5 (E4 (E4 ?_)))))
 subst hK2
 refine gY 1 R (C9 ?_)
 cases h
 exact f1 4 R
def Y3 (F:Nat) (s:(List E0)) (f:(E0→Option Bool)):Option Bool:=(A0P F s f).bind fun rv=>some (decide (0≤rv))
theorem A49 {F:Nat} {s:(List E0)} {f:(E0→Option Bool)} {r:Bool} {fi:Nat} {fc:List D} (fh:∀ {a0:E0} {r:Bool},f a0=some r→PC Tryz.prog fi ([E0.d a0]++fc) (.v (.bool r))) (fe:Ent Tryz.prog fi) (h:Y3 F s f=some r):SCR Tryz.prog 181 [.d (.arr 9 ((s).map E0.d)),.fn (.func fi) [] (fc.map .d)] [] (dB r) (List.map some []):=by
 rw[Y3]at h
 refine oW Tryz.func181 ?_
 refine gY 1 R (gU 2 R ?_)
 obtain⟨rv,k,h⟩:=H1 h
 refine A0t (A50 (f:=f) (fh:=fh) (fe:=fe) k) R .nil eK R R ((.cons (.d (.d _)) (.cons .hof .nil))) R .nil R R R ?_
 simp only[List.map_nil,List.append_nil]
 refine A3k R R R R (eU 1 R (C9 ?_))
 cases h
 exact f1 4 R
def A1j (F:Nat) (s:ByteArray):Option ByteArray:=some s
theorem A4z {F s r} (h:A1j F s=some r):PC Tryz.prog 62 [vS s] (vS r):=by
 rw[A1j]at h
 refine oW Tryz.func62 ?_
 refine gY 1 R (gY 2 R (C9 ?_))
 cases h
 exact f1 2 R
def A1k (F:Nat) (b:D9):Option ByteArray:=some b.name
theorem A40 {F b r} (h:A1k F b=some r):PC Tryz.prog 64 [D9.d b] (vS r):=by
 rw[A1k]at h
 refine oW Tryz.func64 ?_
 refine gY 2 R (gY 3 R (C9 ?_))
 cases h
 exact f1 2 R
def A1P (F:Nat) (x:E0):Option ByteArray:=some x.name
theorem A5k {F x r} (h:A1P F x=some r):PC Tryz.prog 128 [E0.d x] (vS r):=by
 rw[A1P]at h
 refine oW Tryz.func128 ?_
 refine gY 2 R (gY 3 R (C9 ?_))
 cases h
 exact f1 2 R
def A0l (F:Nat) (x:ByteArray) (c:(List ByteArray)) (c2:Int):Option Bool:=(A1j F x).bind fun rv=>(P3 c c2).bind fun e=>(A1j F e).bind fun rv2=>if rv.toList=rv2.toList then(some true)else(some false)
theorem A5D {F x c c2 r} (h:A0l F x c c2=some r):PC Tryz.prog 124 [vS x,.el 1 (([()]).map (fun(_:Unit) => .v (.func (.func 62) #[] #[]))) ((0:Int)).toNat 0,.el 1 (([c]).map (fun l=>D.arr 1 (l.map vS))) ((0:Int)).toNat 0,.el 1 (([c2]).map vI) ((0:Int)).toNat 0] (vB r):=by
 rw[A0l]at h
 refine oW Tryz.func124 ?_
 refine gY 1 R (B8 (T1 kR ?_))
 refine I4 (y := .v (.func (.func 62) #[] #[])) tb (U5 (g:=(fun(_:Unit) => .v (.func (.func 62) #[] #[]))) (R:P3 [()] 0=some ())) R ?_
 refine rU 1 R ?_
 obtain⟨rv,k,h⟩:=H1 h
 refine J5 (A4z k) eK R R R R ?_
 refine I4 (y := .v (.func (.func 62) #[] #[])) tb (U5 (g:=(fun(_:Unit) => .v (.func (.func 62) #[] #[]))) (R:P3 [()] 0=some ())) R ?_
 refine I4 (y := .arr 1 ((c).map vS)) tb (U5 (g:=(fun l=>D.arr 1 (l.map vS))) (R:P3 [c] 0=some c)) R ?_
 refine I4 (y:=vI c2) tb (U5 (g:=vI) (R:P3 [c2] 0=some c2)) R ?_
 obtain⟨e,ie,h⟩:=H1 h
 refine yE ie R R ?_
 obtain⟨rv2,k2,h⟩:=H1 h
 refine J5 (A4z k2) eK R R R R ?_
 refine B1u R R R R (tJ h ?_) (nJ h ?_)
 ·intro h
  refine rU 1 R (I0 kR (C9 ?_))
  cases h
  exact f1 5 R
 intro h
 refine rU 1 R (I0 kR (C9 ?_))
 cases h
 exact f1 5 R
def Q6 (F:Nat) (lv:(List ByteArray)) (i:Int):Option Int:=(P3 lv i).bind fun e=>(A1j F e).bind fun rv=>(A2y F rv).bind fun rv2=>if rv2=true then((A7A lv 0 i).bind fun q=>(Y4 F q (fun a0=>A0l F a0 lv i)).bind fun rv3=>if rv3=true then(some 5)else(some 0))else(some 6)
theorem A3w {F lv i r} (h:Q6 F lv i=some r):PC Tryz.prog 61 [.arr 1 ((lv).map vS),vI i,.v (.func (.func 62) #[] #[])] (vI r):=by
 rw[Q6]at h
 refine oW Tryz.func61 ?_
 refine gY 4 R (B8 (E3 (B8 (T1 kR (rU 3 R ?_)))))
 obtain⟨e,ie,h⟩:=H1 h
 refine yE ie R R ?_
 obtain⟨rv,k,h⟩:=H1 h
 refine J5 (A4z k) eK R R R R ?_
 obtain⟨rv2,k2,h⟩:=H1 h
 refine M6 (A2F k2) eK R R R R (tI h ?_) (fI h ?_)
 ·intro c h
  refine rU 2 R (I0 kR (C1 R (gU 2 R ?_)))
  obtain⟨q,iq,h⟩:=H1 h
  refine A6E tb R R R R R R iq R R (A3E R R R R ?_)
  obtain⟨rv3,k3,h⟩:=H1 h
  refine A0t (A4A (f:=(fun a0=>A0l F a0 lv i)) (fc:=[.el 1 [.v (.func (.func 62) #[] #[])] 0 0,.el 1 [.arr 1 ((lv).map vS)] 0 0,.el 1 [vI i] 0 0]) (fh:=fun hr=>A5D hr) (fe := .of kR) k3) R .nil eK R R ((.cons (.d (.d _)) (.cons (.fnC (.cons (.d (.ref R (.d _))) (.cons (.d (.ref R (.d _))) (.cons (.d (.ref R (.d _))) .nil)))) .nil))) R .nil R R R ?_
  simp only[List.map_nil,List.append_nil]
  refine X8 (tI h ?_) (fI h ?_)
  ·intro c2 h
   refine eU 1 R (C0 R (gY 1 R (C9 ?_)))
   cases h
   exact f1 6 R
  intro c2 h
  refine eU 1 R (zF (gY 1 R (C9 ?_)))
  cases h
  exact f1 6 R
 intro c h
 refine rU 2 R (I0 kR (C0 R (gY 1 R (C9 ?_))))
 cases h
 exact f1 6 R
def V0 (F:Nat) (x:D9) (c:(List D9)) (c2:Int):Option Bool:=(A1k F x).bind fun rv=>(P3 c c2).bind fun e=>(A1k F e).bind fun rv2=>if rv.toList=rv2.toList then(some true)else(some false)
theorem A3T {F x c c2 r} (h:V0 F x c c2=some r):PC Tryz.prog 126 [D9.d x,.el 1 (([()]).map (fun(_:Unit) => .v (.func (.func 64) #[] #[]))) ((0:Int)).toNat 0,.el 1 (([c]).map (fun l=>D.arr 3 (l.map D9.d))) ((0:Int)).toNat 0,.el 1 (([c2]).map vI) ((0:Int)).toNat 0] (vB r):=by
 rw[V0]at h
 refine oW Tryz.func126 ?_
 refine gY 2 R (B8 (T1 kR ?_))
 refine I4 (y := .v (.func (.func 64) #[] #[])) tb (U5 (g:=(fun(_:Unit) => .v (.func (.func 64) #[] #[]))) (R:P3 [()] 0=some ())) R ?_
 refine rU 1 R ?_
 obtain⟨rv,k,h⟩:=H1 h
 refine J5 (A40 k) eK R R R R ?_
 refine I4 (y := .v (.func (.func 64) #[] #[])) tb (U5 (g:=(fun(_:Unit) => .v (.func (.func 64) #[] #[]))) (R:P3 [()] 0=some ())) R ?_
 refine I4 (y := .arr 3 ((c).map D9.d)) tb (U5 (g:=(fun l=>D.arr 3 (l.map D9.d))) (R:P3 [c] 0=some c)) R ?_
 refine I4 (y:=vI c2) tb (U5 (g:=vI) (R:P3 [c2] 0=some c2)) R ?_
 obtain⟨e,ie,h⟩:=H1 h
 refine yE ie R R ?_
 obtain⟨rv2,k2,h⟩:=H1 h
 refine J5 (A40 k2) eK R R R R ?_
 refine B1u R R R R (tJ h ?_) (nJ h ?_)
 ·intro h
  refine rU 1 R (I0 kR (C9 ?_))
  cases h
  exact f1 5 R
 intro h
 refine rU 1 R (I0 kR (C9 ?_))
 cases h
 exact f1 5 R
def R7 (F:Nat) (lv:(List D9)) (i:Int):Option Int:=(P3 lv i).bind fun e=>(A1k F e).bind fun rv=>(A2y F rv).bind fun rv2=>if rv2=true then((A7A lv 0 i).bind fun q=>(V6 F q (fun a0=>V0 F a0 lv i)).bind fun rv3=>if rv3=true then(some 5)else(some 0))else(some 6)
theorem A3c {F lv i r} (h:R7 F lv i=some r):PC Tryz.prog 63 [.arr 3 ((lv).map D9.d),vI i,.v (.func (.func 64) #[] #[])] (vI r):=by
 rw[R7]at h
 refine oW Tryz.func63 ?_
 refine gY 4 R (B8 (E3 (B8 (T1 kR (rU 3 R ?_)))))
 obtain⟨e,ie,h⟩:=H1 h
 refine yE ie R R ?_
 obtain⟨rv,k,h⟩:=H1 h
 refine J5 (A40 k) eK R R R R ?_
 obtain⟨rv2,k2,h⟩:=H1 h
 refine M6 (A2F k2) eK R R R R (tI h ?_) (fI h ?_)
 ·intro c h
  refine rU 2 R (I0 kR (C1 R (gU 2 R ?_)))
  obtain⟨q,iq,h⟩:=H1 h
  refine A6E tb R R R R R R iq R R (A3E R R R R ?_)
  obtain⟨rv3,k3,h⟩:=H1 h
  refine A0t (A3U (f:=(fun a0=>V0 F a0 lv i)) (fc:=[.el 1 [.v (.func (.func 64) #[] #[])] 0 0,.el 1 [.arr 3 ((lv).map D9.d)] 0 0,.el 1 [vI i] 0 0]) (fh:=fun hr=>A3T hr) (fe := .of kR) k3) R .nil eK R R ((.cons (.d (.d _)) (.cons (.fnC (.cons (.d (.ref R (.d _))) (.cons (.d (.ref R (.d _))) (.cons (.d (.ref R (.d _))) .nil)))) .nil))) R .nil R R R ?_
  simp only[List.map_nil,List.append_nil]
  refine X8 (tI h ?_) (fI h ?_)
  ·intro c2 h
   refine eU 1 R (C0 R (gY 1 R (C9 ?_)))
   cases h
   exact f1 6 R
  intro c2 h
  refine eU 1 R (zF (gY 1 R (C9 ?_)))
  cases h
  exact f1 6 R
 intro c h
 refine rU 2 R (I0 kR (C0 R (gY 1 R (C9 ?_))))
 cases h
 exact f1 6 R
def X1 (F:Nat) (x:E0) (c:(List E0)) (c2:Int):Option Bool:=(A1P F x).bind fun rv=>(P3 c c2).bind fun e=>(A1P F e).bind fun rv2=>if rv.toList=rv2.toList then(some true)else(some false)
theorem A41 {F x c c2 r} (h:X1 F x c c2=some r):PC Tryz.prog 182 [E0.d x,.el 1 (([()]).map (fun(_:Unit) => .v (.func (.func 128) #[] #[]))) ((0:Int)).toNat 0,.el 1 (([c]).map (fun l=>D.arr 9 (l.map E0.d))) ((0:Int)).toNat 0,.el 1 (([c2]).map vI) ((0:Int)).toNat 0] (vB r):=by
 rw[X1]at h
 refine oW Tryz.func182 ?_
 refine gY 2 R (B8 (T1 kR ?_))
 refine I4 (y := .v (.func (.func 128) #[] #[])) tb (U5 (g:=(fun(_:Unit) => .v (.func (.func 128) #[] #[]))) (R:P3 [()] 0=some ())) R ?_
 refine rU 1 R ?_
 obtain⟨rv,k,h⟩:=H1 h
 refine J5 (A5k k) eK R R R R ?_
 refine I4 (y := .v (.func (.func 128) #[] #[])) tb (U5 (g:=(fun(_:Unit) => .v (.func (.func 128) #[] #[]))) (R:P3 [()] 0=some ())) R ?_
 refine I4 (y := .arr 9 ((c).map E0.d)) tb (U5 (g:=(fun l=>D.arr 9 (l.map E0.d))) (R:P3 [c] 0=some c)) R ?_
 refine I4 (y:=vI c2) tb (U5 (g:=vI) (R:P3 [c2] 0=some c2)) R ?_
 obtain⟨e,ie,h⟩:=H1 h
 refine yE ie R R ?_
 obtain⟨rv2,k2,h⟩:=H1 h
 refine J5 (A5k k2) eK R R R R ?_
 refine B1u R R R R (tJ h ?_) (nJ h ?_)
 ·intro h
  refine rU 1 R (I0 kR (C9 ?_))
  cases h
  exact f1 5 R
 intro h
 refine rU 1 R (I0 kR (C9 ?_))
 cases h
 exact f1 5 R
end Go.Proofs.YtlaogbbcipebgaaGreat
