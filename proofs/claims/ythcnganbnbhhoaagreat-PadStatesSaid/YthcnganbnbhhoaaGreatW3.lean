/- What functions of the program compute: plain functions, and the proofs. -/
import Derived.Test.YthcnganbnbhhoaaGreatW2
set_option linter.unusedVariables false
set_option linter.unusedSimpArgs false
open Go Go.Proofs.YthcnganbnbhhoaaGreat.Sh Go.Proofs
namespace Go.Proofs.YthcnganbnbhhoaaGreat
set_option maxRecDepth 100000
set_option maxHeartbeats 40000000
def S6 (F:Nat)  (K:(List Int)→Int→Int→Option (Except Int E4)):Nat→(List Int)→Int→Int→Option (Except Int E4)
 | 0,_,_,_=>none
 | n+1,c3,x2,x3=>if x3<x2 then((P7 c3 x3).bind fun e=>if e=1 then((A4g c3 x3 0).bind fun c6=>S6 F K n c6 x2 (W (x3+1)))else(S6 F K n c3 x2 (W (x3+1))))else(K c3 x2 x3)
def U5 (F:Nat)  (K:(List Int)→Int→Int→Option (Except Int E4)):Nat→(List Int)→Int→Int→Option (Except Int E4)
 | 0,_,_,_=>none
 | n+1,c7,x5,x6=>if x6<x5 then((P7 c7 x6).bind fun e2=>U5 F K n c7 x5 (W (x6+1)))else(K c7 x5 x6)
def A1F (F:Nat) (c:E4) (a:D4):Option (Except Int E4):=if a.what=1 then((J2 F (c.G2 != true) 177).bind fun rv=>exE rv (fun x=>some (.error x)) (fun v=>S6 F (fun(c3:(List Int)) (x2:Int) (x3:Int)=>some (.ok {c with A7:=c3,G2:=true})) F c.A7 (c.A7.length:Int) 0))else((J2 F (c.G2 != false) 177).bind fun rv2=>exE rv2 (fun x4=>some (.error x4)) (fun v2=>U5 F (fun(c7:(List Int)) (x5:Int) (x6:Int)=>some (.ok {c with A7:=c7,G2:=false})) F c.A7 (c.A7.length:Int) 0))
theorem A2g {F:Nat} {c:E4} {a:D4} {r:(Except Int E4)} (h:A1F F c a=some r):SCX Tryz.prog 94 [.ref 0 13 0 0,.d (D4.d a)] (D1 c []) r 34 (fun(a:E4) => .d (.tup [])) (fun(a:E4)=>(D1 a [])):=by
 rw[A1F]at h
 refine SC.of_sw Tryz.func94 R R R ?_
 dsimp only[M1,List.map]
 refine qG (M4 R (eN (qG (C7 tb R (B7 (y:=vI a.what) tb R ?_)))))
 refine Q0 R R R R ?_ ?_
 ·intro c2
  replace h:=H1 c2 h
  refine A3 R (eN (B8 (A0M (L7 R R R (I8 R R R (C7 tb R (C7 tb R (B7 (y := .v (.bool c.G2)) tb R (A0 R (A62 R R R R R ?_))))))))))
  obtain⟨rv,k,h⟩:=H0 h
  rcases Q9 rv with⟨x,nv⟩ | ⟨v,nv⟩
  ·replace h:=(exN nv).symm.trans h
   refine A0b ?_
   (with_reducible apply L3 []);exact(D3 k).err nv;exact rfl;exact eK;exact rfl;exact .inl ⟨rfl,rfl,rfl⟩;(iterate 4 exact rfl);exact .nil;exact rfl
   intro cnt
   refine I2 ?_
   obtain rfl:=sI h
   exact P9 (L:=D1 c []) (κ:=[0,1,2,3]) (vK (.cons R R V8) R) (.inr ⟨_,R,R⟩)
  replace h:=(exO nv).symm.trans h
  refine G5 (t' := .d (.tup [])) (ls:=[]) (news:=[]) ([]) (D1 c [bx 5 (.d (D4.d a))]) ((D3 k).ok nv) eK R (.inl ⟨R,R,R⟩) R R R R .nil R R R .nil .nil R R R R (V9 (A1 (qG (L7 R R R (A0 R (I8 R R R (C7 tb R (C7 tb R (I5 _ _ tb R (eN (qG (L7 R R R (I8 R R R (C7 tb R (C7 tb R ?_)))))))))))))))
  refine A0T tb R R R R R R R R R (A3y tb R R R R R (A0 R (eN (D0 ?_))))
  obtain⟨K2,hK2,h⟩:∃ K,K=_∧S6 F K F c.A7 (c.A7.length:Int) 0=some r:=⟨_,rfl,h⟩
  refine H6 (st0:=⟨[(0,.ref 0 13 0 0),(4,.d (.v (.bool true))),(27,.row 3 1 0 (c.A7).length),(28,.d (vI (c.A7.length:Int))),(29,.d (vI 0))],[bx 13 (D8 {c with G2:=true} 1 2 3),F5 c.C1,F5 c.C2,F5 c.A7]⟩) (fun m st=>∃ (c3:(List Int)) (x2:Int) (x3:Int),S6 F K2 m c3 x2 x3=some r∧st=⟨[(0,.ref 0 13 0 0),(4,.d (.v (.bool true))),(27,.row 3 1 0 (c3).length),(28,.d (vI x2)),(29,.d (vI x3))],[bx 13 (D8 {c with A7:=c3,G2:=true} 1 2 3),F5 c.C1,F5 c.C2,F5 c3]⟩) (.vw (κ:=[0,1,2,3]) (vK (.cons R R V8) R)) ⟨c.A7,(c.A7.length:Int),0,h,R⟩ ?_
  clear h
  rintro m2 st ⟨c3,x2,x3,h,rfl⟩
  cases m2 with
  | zero=>cases(show(none:Option (Except Int E4))=some r from h)
  | succ m2 =>
  rw[S6]at h
  refine qG ?_
  refine G8 R R R R ?_ ?_
  ·intro c4
   replace h:=H1 c4 h
   refine eN (B8 (A9 R (C0 (A1 (B8 (D0 (qG (A0 R ?_))))))))
   obtain⟨e,ie,h⟩:=H0 h
   refine Q5 tb R R R R R R (S0 ie) (ix1 ie) R R ?_
   refine V2 (y:=vI e) tb R R R R (Q6 (g:=fun a=>T.d (vI a)) ie) R R R R ?_
   refine A3 R (A3 R (eN (qG (A0 R (A0 R (A0 R ?_))))))
   refine Q0 R R R R ?_ ?_
   ·intro c5
    replace h:=H1 c5 h
    refine B5 R (eN (A9 R (E5 (L7 R R R (I8 R R R (C7 tb R (C7 tb R (A0T tb R R R R R R R R R (A0 R (Q5 tb R R R R R R (S0 ie) (ix1 ie) R R ?_))))))))))
    obtain⟨c6,ic6,h⟩:=H0 h
    refine A36 (a':=(0:Int)) tb R R R R ie R R R R ic6 R R ?_
    dsimp only[List.set_cons_zero,List.set_cons_succ,D5,D8]
    first | rw[A0F ic6] | skip
    refine L5 (C3 (A1 (E5 (H4 R (A0 R (eN ?_))))))
    exact⟨m2,_,lS,.prn [0,4,27,28,29] R,c6,x2,(W (x3+1)),h,R⟩
   intro c5
   replace h:=J0 c5 h
   refine B5 R (eN (A5 R (C0 (C3 (A1 (E5 (H4 R (A0 R (eN ?_)))))))))
   exact⟨m2,_,lS,.prn [0,4,27,28,29] R,c3,x2,(W (x3+1)),h,R⟩
  intro c4
  replace h:=J0 (nL c4) h
  refine eN (B8 (A5 R (I4 (C8 (C8 ?_)))))
  subst hK2
  refine F3 ?_
  obtain rfl:=sI h
  exact M9 (L8 (t := .d (.tup [])) (L:=[bx 13 (D8 {c with A7:=c3,G2:=true} 1 2 3),F5 c.C1,F5 c.C2,F5 c3]) (κ:=[0,1,2,3]) R .nil (vK (.cons R R V8) R) (.inl ⟨_,R,R,R⟩))
 intro c2
 replace h:=J0 c2 h
 refine A3 R (eN (B8 (A0M (L7 R R R (I8 R R R (C7 tb R (C7 tb R (B7 (y := .v (.bool c.G2)) tb R (A0 R (A62 R R R R R ?_))))))))))
 obtain⟨rv2,k2,h⟩:=H0 h
 rcases Q9 rv2 with⟨x4,nv2⟩ | ⟨v2,nv2⟩
 ·replace h:=(exN nv2).symm.trans h
  refine A0b ?_
  (with_reducible apply L3 []);exact(D3 k2).err nv2;exact rfl;exact eK;exact rfl;exact .inl ⟨rfl,rfl,rfl⟩;(iterate 4 exact rfl);exact .nil;exact rfl
  intro cnt
  refine I2 ?_
  obtain rfl:=sI h
  exact P9 (L:=D1 c []) (κ:=[0,1,2,3]) (vK (.cons R R V8) R) (.inr ⟨_,R,R⟩)
 replace h:=(exO nv2).symm.trans h
 refine G5 (t' := .d (.tup [])) (ls:=[]) (news:=[]) ([]) (D1 c [bx 5 (.d (D4.d a))]) ((D3 k2).ok nv2) eK R (.inl ⟨R,R,R⟩) R R R R .nil R R R .nil .nil R R R R (V9 (A1 (qG (L7 R R R (A0 R (I8 R R R (C7 tb R (C7 tb R (I5 _ _ tb R (eN (qG (L7 R R R (I8 R R R (C7 tb R (C7 tb R ?_)))))))))))))))
 refine A0T tb R R R R R R R R R (A3y tb R R R R R (A0 R (eN (D0 ?_))))
 obtain⟨K3,hK3,h⟩:∃ K,K=_∧U5 F K F c.A7 (c.A7.length:Int) 0=some r:=⟨_,rfl,h⟩
 refine H6 (st0:=⟨[(0,.ref 0 13 0 0),(4,.d (.v (.bool false))),(27,.row 3 1 0 (c.A7).length),(28,.d (vI (c.A7.length:Int))),(29,.d (vI 0))],[bx 13 (D8 {c with G2:=false} 1 2 3),F5 c.C1,F5 c.C2,F5 c.A7]⟩) (fun m st=>∃ (c7:(List Int)) (x5:Int) (x6:Int),U5 F K3 m c7 x5 x6=some r∧st=⟨[(0,.ref 0 13 0 0),(4,.d (.v (.bool false))),(27,.row 3 1 0 (c7).length),(28,.d (vI x5)),(29,.d (vI x6))],[bx 13 (D8 {c with A7:=c7,G2:=false} 1 2 3),F5 c.C1,F5 c.C2,F5 c7]⟩) (.vw (κ:=[0,1,2,3]) (vK (.cons R R V8) R)) ⟨c.A7,(c.A7.length:Int),0,h,R⟩ ?_
 clear h
 rintro m3 st ⟨c7,x5,x6,h,rfl⟩
 cases m3 with
 | zero=>cases(show(none:Option (Except Int E4))=some r from h)
 | succ m3 =>
 rw[U5]at h
 refine qG ?_
 refine G8 R R R R ?_ ?_
 ·intro c8
  replace h:=H1 c8 h
  refine eN (B8 (A9 R (C0 (A1 (B8 (D0 (qG (A0 R ?_))))))))
  obtain⟨e2,ie2,h⟩:=H0 h
  refine Q5 tb R R R R R R (S0 ie2) (ix1 ie2) R R ?_
  refine V2 (y:=vI e2) tb R R R R (Q6 (g:=fun a=>T.d (vI a)) ie2) R R R R ?_
  refine A3 R (A3 R (eN (qG (A0 R (A0 R (H7 2 R (C4 R (eN (A5 R (C0 (C3 (A1 (E5 (H4 R (A0 R (eN ?_))))))))))))))))
  exact⟨m3,_,lS,.prn [0,4,27,28,29] R,c7,x5,(W (x6+1)),h,R⟩
 intro c8
 replace h:=J0 (nL c8) h
 refine eN (B8 (A5 R (I4 (C8 (C8 ?_)))))
 subst hK3
 refine F3 ?_
 obtain rfl:=sI h
 exact M9 (L8 (t := .d (.tup [])) (L:=[bx 13 (D8 {c with A7:=c7,G2:=false} 1 2 3),F5 c.C1,F5 c.C2,F5 c7]) (κ:=[0,1,2,3]) R .nil (vK (.cons R R V8) R) (.inl ⟨_,R,R,R⟩))
def B1n (F:Nat) :Option Unit:=some ()
theorem B1o {F:Nat}  {r:Unit} (h:B1n F =some r):PC Tryz.prog 53 [] (.agg [.v .nilFunc,.v (.func (.func 86) #[] #[]),.v (.func (.func 87) #[] #[]),.v (.func (.func 88) #[] #[]),.v (.func (.func 89) #[] #[]),.v (.func (.func 90) #[] #[]),.v (.func (.func 91) #[] #[]),.v (.func (.func 92) #[] #[]),.v (.func (.func 93) #[] #[]),.v (.func (.func 94) #[] #[])]):=by
 rw[B1n]at h
 refine SC.of_sw Tryz.func53 R R R ?_
 dsimp only[M1,List.map]
 refine qG (N0 tb R R R R R (eN (qG (B46 (v := .d (.agg [.v .nilFunc,.v (.func (.func 86) #[] #[]),.v (.func (.func 87) #[] #[]),.v (.func (.func 88) #[] #[]),.v (.func (.func 89) #[] #[]),.v (.func (.func 90) #[] #[]),.v (.func (.func 91) #[] #[]),.v (.func (.func 92) #[] #[]),.v (.func (.func 93) #[] #[]),.v (.func (.func 94) #[] #[])])) tb R R R R R R R R R (I5 _ _ tb R (eN (C9 ?_)))))))
 obtain rfl:=sI h
 exact Q2 (t := .d (.agg [.v .nilFunc,.v (.func (.func 86) #[] #[]),.v (.func (.func 87) #[] #[]),.v (.func (.func 88) #[] #[]),.v (.func (.func 89) #[] #[]),.v (.func (.func 90) #[] #[]),.v (.func (.func 91) #[] #[]),.v (.func (.func 92) #[] #[]),.v (.func (.func 93) #[] #[]),.v (.func (.func 94) #[] #[])])) R R R (.cons (rc tb R) .nil)
def A0H (F:Nat) (a:D4) (c11:(List E9)) (c12:(List I0)) (c13:(List E3)) (c14:(List ByteArray)) (c15:(List C6)) (c16:Int) (c17:Int) (c18:Int) (c19:(List Int)) (c20:(List Int)) (c21:(List Int)) (c22:Int) (c23:Bool):Option (A6 × Int):=some ((A6.mk a.at_ c19 c20 c21 c22 c23),0)
def B0w (F:Nat) (p:B0) (s:A6) (a:D4):Option (A6 × Int):=(A2h F p s).bind fun rv=>B34 rv (none) (fun t=>(J2 F (decide (t.J3≤a.at_)) 170).bind fun rv2=>exE rv2 (fun x=>some ((A6.mk 0 ([]:List Int) ([]:List Int) ([]:List Int) 0 false),x)) (fun v=>if a.kind=0 then(none)else if a.kind=1 then((A2E F t a).bind fun rv3=>exE rv3 (fun x3=>some ((A6.mk 0 ([]:List Int) ([]:List Int) ([]:List Int) 0 false),x3)) (fun v2=>A0H F a v2.M6 v2.R0 v2.M7 v2.V3 v2.M8 v2.R9 v2.V4 v2.J3 v2.C1 v2.C2 v2.A7 v2.G4 v2.G2))else if a.kind=2 then((A2F F t a).bind fun rv4=>exE rv4 (fun x5=>some ((A6.mk 0 ([]:List Int) ([]:List Int) ([]:List Int) 0 false),x5)) (fun v3=>A0H F a v3.M6 v3.R0 v3.M7 v3.V3 v3.M8 v3.R9 v3.V4 v3.J3 v3.C1 v3.C2 v3.A7 v3.G4 v3.G2))else if a.kind=3 then((A3w F t a).bind fun rv5=>exE rv5 (fun x7=>some ((A6.mk 0 ([]:List Int) ([]:List Int) ([]:List Int) 0 false),x7)) (fun v4=>A0H F a v4.M6 v4.R0 v4.M7 v4.V3 v4.M8 v4.R9 v4.V4 v4.J3 v4.C1 v4.C2 v4.A7 v4.G4 v4.G2))else if a.kind=4 then((A2D F t a).bind fun rv6=>exE rv6 (fun x9=>some ((A6.mk 0 ([]:List Int) ([]:List Int) ([]:List Int) 0 false),x9)) (fun v5=>A0H F a v5.M6 v5.R0 v5.M7 v5.V3 v5.M8 v5.R9 v5.V4 v5.J3 v5.C1 v5.C2 v5.A7 v5.G4 v5.G2))else if a.kind=5 then((A3v F t a).bind fun rv7=>exE rv7 (fun x11=>some ((A6.mk 0 ([]:List Int) ([]:List Int) ([]:List Int) 0 false),x11)) (fun v6=>A0H F a v6.M6 v6.R0 v6.M7 v6.V3 v6.M8 v6.R9 v6.V4 v6.J3 v6.C1 v6.C2 v6.A7 v6.G4 v6.G2))else if a.kind=6 then((A1S F t a).bind fun rv8=>exE rv8 (fun x13=>some ((A6.mk 0 ([]:List Int) ([]:List Int) ([]:List Int) 0 false),x13)) (fun v7=>A0H F a v7.M6 v7.R0 v7.M7 v7.V3 v7.M8 v7.R9 v7.V4 v7.J3 v7.C1 v7.C2 v7.A7 v7.G4 v7.G2))else if a.kind=7 then((A2C F t a).bind fun rv9=>exE rv9 (fun x15=>some ((A6.mk 0 ([]:List Int) ([]:List Int) ([]:List Int) 0 false),x15)) (fun v8=>A0H F a v8.M6 v8.R0 v8.M7 v8.V3 v8.M8 v8.R9 v8.V4 v8.J3 v8.C1 v8.C2 v8.A7 v8.G4 v8.G2))else if a.kind=8 then((A2u F t a).bind fun rv10=>exE rv10 (fun x17=>some ((A6.mk 0 ([]:List Int) ([]:List Int) ([]:List Int) 0 false),x17)) (fun v9=>A0H F a v9.M6 v9.R0 v9.M7 v9.V3 v9.M8 v9.R9 v9.V4 v9.J3 v9.C1 v9.C2 v9.A7 v9.G4 v9.G2))else if a.kind=9 then((A1F F t a).bind fun rv11=>exE rv11 (fun x19=>some ((A6.mk 0 ([]:List Int) ([]:List Int) ([]:List Int) 0 false),x19)) (fun v10=>A0H F a v10.M6 v10.R0 v10.M7 v10.V3 v10.M8 v10.R9 v10.V4 v10.J3 v10.C1 v10.C2 v10.A7 v10.G4 v10.G2))else none))
theorem B2v {x1 x2 c2:Code} {o2:Operand} (hb:Tryz.f51.body=some (.seq x1 (.seq x2 (.cond o2 c2 .skip)))):DfK Tryz.prog 51 c2 9 2 34:=by
 unfold Tryz.f51 at hb
 injection hb with hb
 injection hb with _ hb
 injection hb with _ hb
 injection hb with _ hb _
 subst hb
 refine⟨fun ds w hds=>?_,fun ds v older w R hds ⟨E,hv⟩ H=>?_⟩
 ·obtain⟨d0,d1,rfl⟩:∃ d0 d1,ds=#[d0,d1]:=by
   obtain⟨l⟩:=ds
   match l,hds with
   | [d0,d1],_=>exact⟨d0,d1,rfl⟩
  refine callsDIn_of_wpSIn Tryz.func51 (by rfl) trivial fun c₀ cs hu=>?_
  apply wpSIn_seq
  apply wpSIn_region
  simp[wpOpsSIn,go_sem,recoverD,hu,Tryz.ntmps51,Exit.thenS]
  apply wpSIn_seq
  apply wpSIn_region
  simp[wpOpsSIn,go_sem,Exit.thenS]
  refine wpSIn_cond (t:=false) (by simp[Act.eval,Array.replicate]) ?_
  simp only[Bool.false_eq_true,if_false]
  refine wpSIn_of_wpIn (by rfl) (wpIn_skip ?_)
  cases c₀
  simp_all [bodyPostS,results,Tryz.results51]
 ·subst hv
  obtain⟨d0,d1,rfl⟩:∃ d0 d1,ds=#[d0,d1]:=by
   obtain⟨l⟩:=ds
   match l,hds with
   | [d0,d1],_=>exact⟨d0,d1,rfl⟩
  refine callsDIn_of_wpSIn Tryz.func51 (by rfl) trivial fun c₀ cs hu=>?_
  apply wpSIn_seq
  apply wpSIn_region
  simp[wpOpsSIn,go_sem,recoverD,hu,Tryz.ntmps51,Exit.thenS]
  apply wpSIn_seq
  apply wpSIn_region
  simp[wpOpsSIn,go_sem,Exit.thenS]
  refine wpSIn_cond (t:=true) (by simp[Act.eval,Array.replicate]) ?_
  simp only[if_true]
  refine wpSIn_of_wpIn (by rfl) (wpIn_mono (H _ (by rfl) ?_ ?_ ?_) ?_)
  ·simp[Array.replicate]
  ·intro i hi
   match i,hi with
   | 0,_=>rfl
   | 1,_=>rfl
  ·simp[Array.replicate]
  ·rintro ex a' w' ⟨rfl,h2,h3⟩
   cases c₀
   simp_all [bodyPostS,results,Tryz.results51]
theorem B2w {F:Nat} {p:B0} {s:A6} {a:D4} {t:E4} (x2:Int) {xa xb c2:Code} {o2:Operand} (hb:Tryz.f51.body=some (.seq xa (.seq xb (.cond o2 c2 .skip)))):SW Tryz.prog 9 9 [] c2 (fun sx st2=>sx = .norm∧Fin Tryz.prog Tryz.f25 0 (fun se X=>se = .ret (.tup [D5 (A6.mk 0 ([]:List Int) ([]:List Int) ([]:List Int) 0 false) 0 1 2,.d (.v (.int .i64 x2))])∧X=[F5 ([]:List Int),F5 ([]:List Int),F5 ([]:List Int)]) .ret ⟨[(6,.ref 3 6 0 0),(7,.ref 4 1 0 0)],st2.L⟩) ⟨A90 0 ([.ref 3 6 0 0,.ref 4 1 0 0]++[.d (.v (.iface 34 ((.int .i64 x2))))]),[bx 7 (.d (B0.d p)),bx 6 (.d (A6.d s)),bx 5 (.d (D4.d a)),bx 6 (.d (.agg [.v (.int .i64 0),.v (.slice none 0 0),.v (.slice none 0 0),.v (.slice none 0 0),.v (.int .i64 0),.v (.bool false)])),c1 (.v (.int .i64 0)),bx 13 (D8 t 6 7 8),F5 t.C1,F5 t.C2,F5 t.A7]⟩:=by
 unfold Tryz.f51 at hb
 injection hb with hb
 injection hb with _ hb
 injection hb with _ hb
 injection hb with _ hb _
 subst hb
 refine B3b (fun _ _ h=>by cases h.1) ?_
 dsimp only[A90,List.cons_append,List.nil_append]
 refine P5 kR (L4 (v := .d (.agg [vI 0,.v (.slice none 0 0),.v (.slice none 0 0),.v (.slice none 0 0),vI 0,.v (.bool false)])) tb R R (List.cons_ne_nil _ _) R R R R R R (A0 R ?_))
 refine B5P R (fun _=>by kernel_rfl) R R R ?_
 refine I5 _ _ tb R (I5 _ _ tb R (F6 kR ?_))
 refine⟨_,A2n.own (ts':=[(0,.ref 3 6 0 0),(1,.ref 4 1 0 0),(2,.d (.v (.iface 34 ((.int .i64 x2))))),(6,.d (.agg [vI 0,.v (.slice none 0 0),.v (.slice none 0 0),.v (.slice none 0 0),vI 0,.v (.bool false)])),(7,.d (.v (.iface 34 ((.int .i64 x2))))),(8,.d (vI x2))]) (L':=[bx 7 (.d (B0.d p)),bx 6 (.d (A6.d s)),bx 5 (.d (D4.d a)),bx 6 (.agg [.d (vI 0),.row 9 1 0 (([]:List Int)).length,.d (.v (.slice none 0 0)),.d (.v (.slice none 0 0)),.d (vI 0),.d (.v (.bool false))]),c1 (vI x2),bx 13 (D8 t 6 7 8),F5 t.C1,F5 t.C2,F5 t.A7]) 1 R R (.cons (.same _) (.cons (.same _) (.cons (.same _) (.cons (.same _) (.cons (.same _) (.cons (.same _) .nil)))))) (.same (.same (.same (.cons R (.cons (.aggDL (.cons (.same _) (.cons .nil (.cons (.same _) (.cons (.same _) (.cons (.same _) (.cons (.same _) .nil))))))) .nil) (.same (.same (.same (.same (.same .nil))))))))) (A2n.own (ts:=[(0,.ref 3 6 0 0),(1,.ref 4 1 0 0),(2,.d (.v (.iface 34 ((.int .i64 x2))))),(6,.d (.agg [vI 0,.v (.slice none 0 0),.v (.slice none 0 0),.v (.slice none 0 0),vI 0,.v (.bool false)])),(7,.d (.v (.iface 34 ((.int .i64 x2))))),(8,.d (vI x2))]) (L:=[bx 7 (.d (B0.d p)),bx 6 (.d (A6.d s)),bx 5 (.d (D4.d a)),bx 6 (.agg [.d (vI 0),.row 9 1 0 (([]:List Int)).length,.d (.v (.slice none 0 0)),.d (.v (.slice none 0 0)),.d (vI 0),.d (.v (.bool false))]),c1 (vI x2),bx 13 (D8 t 6 7 8),F5 t.C1,F5 t.C2,F5 t.A7,F5 ([]:List Int)]) (ts':=[(0,.ref 3 6 0 0),(1,.ref 4 1 0 0),(2,.d (.v (.iface 34 ((.int .i64 x2))))),(6,.d (.agg [vI 0,.v (.slice none 0 0),.v (.slice none 0 0),.v (.slice none 0 0),vI 0,.v (.bool false)])),(7,.d (.v (.iface 34 ((.int .i64 x2))))),(8,.d (vI x2))]) (L':=[bx 7 (.d (B0.d p)),bx 6 (.d (A6.d s)),bx 5 (.d (D4.d a)),bx 6 (.agg [.d (vI 0),.row 9 1 0 (([]:List Int)).length,.row 10 1 0 (([]:List Int)).length,.d (.v (.slice none 0 0)),.d (vI 0),.d (.v (.bool false))]),c1 (vI x2),bx 13 (D8 t 6 7 8),F5 t.C1,F5 t.C2,F5 t.A7,F5 ([]:List Int)]) 1 R R (.cons (.same _) (.cons (.same _) (.cons (.same _) (.cons (.same _) (.cons (.same _) (.cons (.same _) .nil)))))) (.same (.same (.same (.cons R (.cons (.aggL (.cons (.same _) (.cons (.same _) (.cons .nil (.cons (.same _) (.cons (.same _) (.cons (.same _) .nil))))))) .nil) (.same (.same (.same (.same (.same (.same .nil)))))))))) (A2n.own (ts:=[(0,.ref 3 6 0 0),(1,.ref 4 1 0 0),(2,.d (.v (.iface 34 ((.int .i64 x2))))),(6,.d (.agg [vI 0,.v (.slice none 0 0),.v (.slice none 0 0),.v (.slice none 0 0),vI 0,.v (.bool false)])),(7,.d (.v (.iface 34 ((.int .i64 x2))))),(8,.d (vI x2))]) (L:=[bx 7 (.d (B0.d p)),bx 6 (.d (A6.d s)),bx 5 (.d (D4.d a)),bx 6 (.agg [.d (vI 0),.row 9 1 0 (([]:List Int)).length,.row 10 1 0 (([]:List Int)).length,.d (.v (.slice none 0 0)),.d (vI 0),.d (.v (.bool false))]),c1 (vI x2),bx 13 (D8 t 6 7 8),F5 t.C1,F5 t.C2,F5 t.A7,F5 ([]:List Int),F5 ([]:List Int)]) (ts':=[(0,.ref 3 6 0 0),(1,.ref 4 1 0 0),(2,.d (.v (.iface 34 ((.int .i64 x2))))),(6,.d (.agg [vI 0,.v (.slice none 0 0),.v (.slice none 0 0),.v (.slice none 0 0),vI 0,.v (.bool false)])),(7,.d (.v (.iface 34 ((.int .i64 x2))))),(8,.d (vI x2))]) (L':=[bx 7 (.d (B0.d p)),bx 6 (.d (A6.d s)),bx 5 (.d (D4.d a)),bx 6 (D5 (A6.mk 0 ([]:List Int) ([]:List Int) ([]:List Int) 0 false) 9 10 11),c1 (vI x2),bx 13 (D8 t 6 7 8),F5 t.C1,F5 t.C2,F5 t.A7,F5 ([]:List Int),F5 ([]:List Int)]) 1 R R (.cons (.same _) (.cons (.same _) (.cons (.same _) (.cons (.same _) (.cons (.same _) (.cons (.same _) .nil)))))) (.same (.same (.same (.cons R (.cons (.aggL (.cons (.same _) (.cons (.same _) (.cons (.same _) (.cons .nil (.cons (.same _) (.cons (.same _) .nil))))))) .nil) (.same (.same (.same (.same (.same (.same (.same .nil))))))))))) (.refl _ _ _))),R,?_⟩
 exact(L8 (t := .tup [D5 (A6.mk 0 ([]:List Int) ([]:List Int) ([]:List Int) 0 false) 0 1 2,.d (vI x2)]) (L:=[F5 ([]:List Int),F5 ([]:List Int),F5 ([]:List Int)]) (κ:=[9,10,11]) R (.cons (A9o tb (u:=D5 (A6.mk 0 ([]:List Int) ([]:List Int) ([]:List Int) 0 false) 9 10 11) R R R R R R R) (.cons (A9o tb (u := .d (vI x2)) R R R R R R R) .nil)) (vK V8 R) ⟨R,R⟩)
theorem A0X {F:Nat} {p:B0} {s:A6} {a:D4} (x4:Int) {xa xb c2:Code} {o2:Operand} (hb:Tryz.f51.body=some (.seq xa (.seq xb (.cond o2 c2 .skip)))):SW Tryz.prog 9 9 [] c2 (fun sx st2=>sx = .norm∧Fin Tryz.prog Tryz.f25 0 (fun se X=>se = .ret (.tup [D5 (A6.mk 0 ([]:List Int) ([]:List Int) ([]:List Int) 0 false) 0 1 2,.d (.v (.int .i64 x4))])∧X=[F5 ([]:List Int),F5 ([]:List Int),F5 ([]:List Int)]) .ret ⟨[(6,.ref 3 6 0 0),(7,.ref 4 1 0 0)],st2.L⟩) ⟨A90 0 ([.ref 3 6 0 0,.ref 4 1 0 0]++[.d (.v (.iface 34 ((.int .i64 x4))))]),[bx 7 (.d (B0.d p)),bx 6 (.d (A6.d s)),bx 5 (.d (D4.d a)),bx 6 (.d (.agg [.v (.int .i64 0),.v (.slice none 0 0),.v (.slice none 0 0),.v (.slice none 0 0),.v (.int .i64 0),.v (.bool false)])),c1 (.v (.int .i64 0)),none,none,none,none]⟩:=by
 unfold Tryz.f51 at hb
 injection hb with hb
 injection hb with _ hb
 injection hb with _ hb
 injection hb with _ hb _
 subst hb
 refine B3b (fun _ _ h=>by cases h.1) ?_
 dsimp only[A90,List.cons_append,List.nil_append]
 refine P5 kR (L4 (v := .d (.agg [vI 0,.v (.slice none 0 0),.v (.slice none 0 0),.v (.slice none 0 0),vI 0,.v (.bool false)])) tb R R (List.cons_ne_nil _ _) R R R R R R (A0 R ?_))
 refine B5P R (fun _=>by kernel_rfl) R R R ?_
 refine I5 _ _ tb R (I5 _ _ tb R (F6 kR ?_))
 refine⟨_,A2n.own (ts':=[(0,.ref 3 6 0 0),(1,.ref 4 1 0 0),(2,.d (.v (.iface 34 ((.int .i64 x4))))),(6,.d (.agg [vI 0,.v (.slice none 0 0),.v (.slice none 0 0),.v (.slice none 0 0),vI 0,.v (.bool false)])),(7,.d (.v (.iface 34 ((.int .i64 x4))))),(8,.d (vI x4))]) (L':=[bx 7 (.d (B0.d p)),bx 6 (.d (A6.d s)),bx 5 (.d (D4.d a)),bx 6 (.agg [.d (vI 0),.row 9 1 0 (([]:List Int)).length,.d (.v (.slice none 0 0)),.d (.v (.slice none 0 0)),.d (vI 0),.d (.v (.bool false))]),c1 (vI x4),none,none,none,none]) 1 R R (.cons (.same _) (.cons (.same _) (.cons (.same _) (.cons (.same _) (.cons (.same _) (.cons (.same _) .nil)))))) (.same (.same (.same (.cons R (.cons (.aggDL (.cons (.same _) (.cons .nil (.cons (.same _) (.cons (.same _) (.cons (.same _) (.cons (.same _) .nil))))))) .nil) (.same (.same (.same (.same (.same .nil))))))))) (A2n.own (ts:=[(0,.ref 3 6 0 0),(1,.ref 4 1 0 0),(2,.d (.v (.iface 34 ((.int .i64 x4))))),(6,.d (.agg [vI 0,.v (.slice none 0 0),.v (.slice none 0 0),.v (.slice none 0 0),vI 0,.v (.bool false)])),(7,.d (.v (.iface 34 ((.int .i64 x4))))),(8,.d (vI x4))]) (L:=[bx 7 (.d (B0.d p)),bx 6 (.d (A6.d s)),bx 5 (.d (D4.d a)),bx 6 (.agg [.d (vI 0),.row 9 1 0 (([]:List Int)).length,.d (.v (.slice none 0 0)),.d (.v (.slice none 0 0)),.d (vI 0),.d (.v (.bool false))]),c1 (vI x4),none,none,none,none,F5 ([]:List Int)]) (ts':=[(0,.ref 3 6 0 0),(1,.ref 4 1 0 0),(2,.d (.v (.iface 34 ((.int .i64 x4))))),(6,.d (.agg [vI 0,.v (.slice none 0 0),.v (.slice none 0 0),.v (.slice none 0 0),vI 0,.v (.bool false)])),(7,.d (.v (.iface 34 ((.int .i64 x4))))),(8,.d (vI x4))]) (L':=[bx 7 (.d (B0.d p)),bx 6 (.d (A6.d s)),bx 5 (.d (D4.d a)),bx 6 (.agg [.d (vI 0),.row 9 1 0 (([]:List Int)).length,.row 10 1 0 (([]:List Int)).length,.d (.v (.slice none 0 0)),.d (vI 0),.d (.v (.bool false))]),c1 (vI x4),none,none,none,none,F5 ([]:List Int)]) 1 R R (.cons (.same _) (.cons (.same _) (.cons (.same _) (.cons (.same _) (.cons (.same _) (.cons (.same _) .nil)))))) (.same (.same (.same (.cons R (.cons (.aggL (.cons (.same _) (.cons (.same _) (.cons .nil (.cons (.same _) (.cons (.same _) (.cons (.same _) .nil))))))) .nil) (.same (.same (.same (.same (.same (.same .nil)))))))))) (A2n.own (ts:=[(0,.ref 3 6 0 0),(1,.ref 4 1 0 0),(2,.d (.v (.iface 34 ((.int .i64 x4))))),(6,.d (.agg [vI 0,.v (.slice none 0 0),.v (.slice none 0 0),.v (.slice none 0 0),vI 0,.v (.bool false)])),(7,.d (.v (.iface 34 ((.int .i64 x4))))),(8,.d (vI x4))]) (L:=[bx 7 (.d (B0.d p)),bx 6 (.d (A6.d s)),bx 5 (.d (D4.d a)),bx 6 (.agg [.d (vI 0),.row 9 1 0 (([]:List Int)).length,.row 10 1 0 (([]:List Int)).length,.d (.v (.slice none 0 0)),.d (vI 0),.d (.v (.bool false))]),c1 (vI x4),none,none,none,none,F5 ([]:List Int),F5 ([]:List Int)]) (ts':=[(0,.ref 3 6 0 0),(1,.ref 4 1 0 0),(2,.d (.v (.iface 34 ((.int .i64 x4))))),(6,.d (.agg [vI 0,.v (.slice none 0 0),.v (.slice none 0 0),.v (.slice none 0 0),vI 0,.v (.bool false)])),(7,.d (.v (.iface 34 ((.int .i64 x4))))),(8,.d (vI x4))]) (L':=[bx 7 (.d (B0.d p)),bx 6 (.d (A6.d s)),bx 5 (.d (D4.d a)),bx 6 (D5 (A6.mk 0 ([]:List Int) ([]:List Int) ([]:List Int) 0 false) 9 10 11),c1 (vI x4),none,none,none,none,F5 ([]:List Int),F5 ([]:List Int)]) 1 R R (.cons (.same _) (.cons (.same _) (.cons (.same _) (.cons (.same _) (.cons (.same _) (.cons (.same _) .nil)))))) (.same (.same (.same (.cons R (.cons (.aggL (.cons (.same _) (.cons (.same _) (.cons (.same _) (.cons .nil (.cons (.same _) (.cons (.same _) .nil))))))) .nil) (.same (.same (.same (.same (.same (.same (.same .nil))))))))))) (.refl _ _ _))),R,?_⟩
 exact(L8 (t := .tup [D5 (A6.mk 0 ([]:List Int) ([]:List Int) ([]:List Int) 0 false) 0 1 2,.d (vI x4)]) (L:=[F5 ([]:List Int),F5 ([]:List Int),F5 ([]:List Int)]) (κ:=[9,10,11]) R (.cons (A9o tb (u:=D5 (A6.mk 0 ([]:List Int) ([]:List Int) ([]:List Int) 0 false) 9 10 11) R R R R R R R) (.cons (A9o tb (u := .d (vI x4)) R R R R R R R) .nil)) (vK V8 R) ⟨R,R⟩)
theorem A9f {F:Nat} {p:B0} {s:A6} {a:D4} {r:(A6 × Int)} (h:B0w F p s a=some r):SCR Tryz.prog 25 (List.map T.d [B0.d p,A6.d s,D4.d a]) [] (.tup [D5 r.1 0 1 2,.d (.v (.int .i64 r.2))]) (List.map some [(lvI r.1.zones),(lvI r.1.holder),(lvI r.1.squibs)]):=by
 rw[B0w]at h
 refine SC.of_swd Tryz.func25 R R R ?_
 dsimp only[M1,List.map]
 refine B3d (E5 (M4 R (M4 R (M4 R (N0 tb R R R R R (N0 tb R R R R R (L5 ?_)))))))
 refine⟨R,?_⟩
 refine B3d (E5 (B7 (y:=B0.d p) tb R (B7 (y:=A6.d s) tb R ?_)))
 obtain⟨rv,k,h⟩:=H0 h
 rcases Option.eq_none_or_eq_some rv with nv | ⟨t,nv⟩
 ·replace h:=(B5y nv).symm.trans h
  refine G5 (t' := .d (.v (.pointer none))) (ls:=[]) (news:=[]) ([]) ([bx 7 (.d (B0.d p)),bx 6 (.d (A6.d s)),bx 5 (.d (D4.d a)),bx 6 (.d (.agg [vI 0,.v (.slice none 0 0),.v (.slice none 0 0),.v (.slice none 0 0),vI 0,.v (.bool false)])),c1 (vI 0)]) ((Z7 k).none nv) eK R (.inl ⟨R,R,R⟩) R R R R .nil R R R .nil .nil R R R R ?_
  cases h
 replace h:=(B5z nv).symm.trans h
 refine G5 (t' := .ref 5 13 0 0) (ls:=[]) (news:=[⟨13,[D8 t 1 2 3]⟩,(lvI t.C1),(lvI t.C2),(lvI t.A7)]) ([]) ([bx 7 (.d (B0.d p)),bx 6 (.d (A6.d s)),bx 5 (.d (D4.d a)),bx 6 (.d (.agg [vI 0,.v (.slice none 0 0),.v (.slice none 0 0),.v (.slice none 0 0),vI 0,.v (.bool false)])),c1 (vI 0),bx 13 (D8 t 6 7 8),F5 t.C1,F5 t.C2,F5 t.A7]) ((Z7 k).some nv) eK R (.inl ⟨R,R,R⟩) R R R R .nil R R R .nil ((.cons R (.row (.row (.row .nil))))) R R R R ?_
 refine B24 R R R (L5 ?_)
 refine⟨R,?_⟩
 refine B3D R B2v dM eK (A7b R R R R ?_)
 refine A38 ⟨12,_,_,_,_,R,R,R,R,fun df=>?_⟩
 refine B8 (A15 kR (C7 tb R (B7 (y:=vI a.at_) tb R (L7 R R R (I8 R R R (C7 tb R (C7 tb R (B7 (y:=vI t.J3) tb R (A5p R R R R ?_)))))))))
 obtain⟨rv2,k2,h⟩:=H0 h
 rcases Q9 rv2 with⟨x,nv2⟩ | ⟨v,nv2⟩
 ·replace h:=(exN nv2).symm.trans h
  refine R6 kR kR ?_
  (with_reducible apply L3 []);exact(D3 k2).err nv2;exact rfl;exact eK;exact rfl;exact .inl ⟨rfl,rfl,rfl⟩;(iterate 4 exact rfl);exact .nil;exact rfl
  intro cnt
  refine I2 ?_
  obtain rfl:=sI h
  exact⟨_,⟨[(6,.ref 3 6 0 0),(7,.ref 4 1 0 0)],[bx 7 (.d (B0.d p)),bx 6 (.d (A6.d s)),bx 5 (.d (D4.d a)),bx 6 (.d (.agg [vI 0,.v (.slice none 0 0),.v (.slice none 0 0),.v (.slice none 0 0),vI 0,.v (.bool false)])),c1 (vI 0),bx 13 (D8 t 6 7 8),F5 t.C1,F5 t.C2,F5 t.A7]⟩,[0,1,2,3,4,5,6,7,8],R,(vK (.cons R R (.cons R R (.cons R R (.cons R R (.cons R R (.cons R R V8)))))) R),B2w (F:=F) x R⟩
 replace h:=(exO nv2).symm.trans h
 refine G5 (t' := .d (.tup [])) (ls:=[]) (news:=[]) ([]) ([bx 7 (.d (B0.d p)),bx 6 (.d (A6.d s)),bx 5 (.d (D4.d a)),bx 6 (.d (.agg [vI 0,.v (.slice none 0 0),.v (.slice none 0 0),.v (.slice none 0 0),vI 0,.v (.bool false)])),c1 (vI 0),bx 13 (D8 t 6 7 8),F5 t.C1,F5 t.C2,F5 t.A7]) ((D3 k2).ok nv2) eK R (.inl ⟨R,R,R⟩) R R R R .nil R R R .nil .nil R R R R ?_
 refine Q1 kR (A1 (B8 ?_))
 refine N3 (fun zz:(List E9) × (List I0) × (List E3) × (List ByteArray) × (List C6) × Int × Int × Int × (List Int) × (List Int) × (List Int) × Int × Bool=>A0H F a zz.1 zz.2.1 zz.2.2.1 zz.2.2.2.1 zz.2.2.2.2.1 zz.2.2.2.2.2.1 zz.2.2.2.2.2.2.1 zz.2.2.2.2.2.2.2.1 zz.2.2.2.2.2.2.2.2.1 zz.2.2.2.2.2.2.2.2.2.1 zz.2.2.2.2.2.2.2.2.2.2.1 zz.2.2.2.2.2.2.2.2.2.2.2.1 zz.2.2.2.2.2.2.2.2.2.2.2.2=some r) (fun zz:(List E9) × (List I0) × (List E3) × (List ByteArray) × (List C6) × Int × Int × Int × (List Int) × (List Int) × (List Int) × Int × Bool=>⟨[(5,.ref 2 5 0 0),(6,.ref 3 6 0 0),(7,.ref 4 1 0 0),(8,.ref 5 13 0 0)],[bx 7 (.d (B0.d p)),bx 6 (.d (A6.d s)),bx 5 (.d (D4.d a)),bx 6 (.d (.agg [vI 0,.v (.slice none 0 0),.v (.slice none 0 0),.v (.slice none 0 0),vI 0,.v (.bool false)])),c1 (vI 0),bx 13 (D8 (E4.mk zz.1 zz.2.1 zz.2.2.1 zz.2.2.2.1 zz.2.2.2.2.1 zz.2.2.2.2.2.1 zz.2.2.2.2.2.2.1 zz.2.2.2.2.2.2.2.1 zz.2.2.2.2.2.2.2.2.1 zz.2.2.2.2.2.2.2.2.2.1 zz.2.2.2.2.2.2.2.2.2.2.1 zz.2.2.2.2.2.2.2.2.2.2.2.1 zz.2.2.2.2.2.2.2.2.2.2.2.2) 6 7 8),F5 zz.2.2.2.2.2.2.2.2.1,F5 zz.2.2.2.2.2.2.2.2.2.1,F5 zz.2.2.2.2.2.2.2.2.2.2.1]⟩) ?_ ?_
 ·clear h
  rintro⟨c11,c12,c13,c14,c15,c16,c17,c18,c19,c20,c21,c22,c23⟩ h
  dsimp only at h ⊢
  rw[A0H]at h
  refine qG (L7 R R R (C7 tb R (B7 (y:=vI a.at_) tb R (I8 R R R (C7 tb R (C7 tb R (I5 _ _ tb R (eN (qG (L7 R R R (I8 R R R (C7 tb R (A9n tb R R R R R R R R R (I5 _ _ tb R (I5 _ _ tb R (eN (C9 ?_)))))))))))))))))
  obtain rfl:=sI h
  exact B6p (L8 (t := .tup [D5 (A6.mk a.at_ c19 c20 c21 c22 c23) 0 1 2,.d (vI 0)]) (L:=[F5 c19,F5 c20,F5 c21]) (κ:=[6,7,8]) R (.cons (A9o tb (u:=D5 (A6.mk a.at_ c19 c20 c21 c22 c23) 6 7 8) R R R R R R R) (.cons (A9o tb (u := .d (vI 0)) R R R R R R R) .nil)) (vK V8 R) ⟨R,R⟩)
 refine A15 kR (N5 (B1o (F:=0) (r:=()) R) eK R R R R (C7 tb R (B7 (y:=vI a.kind) tb R ?_)))
 by_cases c:a.kind=0
 ·replace h:=H1 c h
  cases h
 replace h:=J0 c h
 by_cases c2:a.kind=1
 ·replace h:=H1 c2 h
  refine A79 (1) (.d (.v (.func (.func 86) #[] #[]))) tb R R R R R c2 R R R R R (L7 R R R (B7 (y:=D4.d a) tb R ?_))
  obtain⟨rv3,k3,h⟩:=H0 h
  rcases Q9 rv3 with⟨x3,nv3⟩ | ⟨v2,nv3⟩
  ·replace h:=(exN nv3).symm.trans h
   refine R6 kR kR ?_
   (with_reducible apply L3 [5,6,7,8]);exact(A3c k3).err nv3;exact rfl;exact eK;exact rfl;exact .inl ⟨rfl,rfl,rfl⟩;(iterate 4 exact rfl);exact(.cons rfl rfl A1A);exact rfl
   intro cnt
   refine I2 ?_
   obtain rfl:=sI h
   exact⟨_,⟨[(6,.ref 3 6 0 0),(7,.ref 4 1 0 0)],[bx 7 (.d (B0.d p)),bx 6 (.d (A6.d s)),bx 5 (.d (D4.d a)),bx 6 (.d (.agg [vI 0,.v (.slice none 0 0),.v (.slice none 0 0),.v (.slice none 0 0),vI 0,.v (.bool false)])),c1 (vI 0),none,none,none,none]⟩,[0,1,2,3,4,5,6,7,8],R,(vK (.cons R R (.cons R R (.cons R R (.cons R R (.cons R R (.gone R (.gone R (.gone R (.gone R .nil))))))))) R),A0X (F:=F) x3 R⟩
  replace h:=(exO nv3).symm.trans h
  refine G5 (t' := .d (.tup [])) (ls:=D1 v2 []) (news:=[]) ([5,6,7,8]) ([bx 7 (.d (B0.d p)),bx 6 (.d (A6.d s)),bx 5 (.d (D4.d a)),bx 6 (.d (.agg [vI 0,.v (.slice none 0 0),.v (.slice none 0 0),.v (.slice none 0 0),vI 0,.v (.bool false)])),c1 (vI 0),bx 13 (D8 v2 6 7 8),F5 v2.C1,F5 v2.C2,F5 v2.A7]) ((A3c k3).ok nv3) eK R (.inl ⟨R,R,R⟩) R R R R ((.cons R R A1A)) R R R ((.cons R (.row (.row (.row .nil))))) .nil R R R R ?_
  refine Q1 kR (A1 ?_)
  exact .inl ⟨(v2.M6,v2.R0,v2.M7,v2.V3,v2.M8,v2.R9,v2.V4,v2.J3,v2.C1,v2.C2,v2.A7,v2.G4,v2.G2),h,.prn [5,6,7,8] R⟩
 replace h:=J0 c2 h
 by_cases c3:a.kind=2
 ·replace h:=H1 c3 h
  refine A79 (2) (.d (.v (.func (.func 87) #[] #[]))) tb R R R R R c3 R R R R R (L7 R R R (B7 (y:=D4.d a) tb R ?_))
  obtain⟨rv4,k4,h⟩:=H0 h
  rcases Q9 rv4 with⟨x5,nv4⟩ | ⟨v3,nv4⟩
  ·replace h:=(exN nv4).symm.trans h
   refine R6 kR kR ?_
   (with_reducible apply L3 [5,6,7,8]);exact(A3d k4).err nv4;exact rfl;exact eK;exact rfl;exact .inl ⟨rfl,rfl,rfl⟩;(iterate 4 exact rfl);exact(.cons rfl rfl A1A);exact rfl
   intro cnt
   refine I2 ?_
   obtain rfl:=sI h
   exact⟨_,⟨[(6,.ref 3 6 0 0),(7,.ref 4 1 0 0)],[bx 7 (.d (B0.d p)),bx 6 (.d (A6.d s)),bx 5 (.d (D4.d a)),bx 6 (.d (.agg [vI 0,.v (.slice none 0 0),.v (.slice none 0 0),.v (.slice none 0 0),vI 0,.v (.bool false)])),c1 (vI 0),none,none,none,none]⟩,[0,1,2,3,4,5,6,7,8],R,(vK (.cons R R (.cons R R (.cons R R (.cons R R (.cons R R (.gone R (.gone R (.gone R (.gone R .nil))))))))) R),A0X (F:=F) x5 R⟩
  replace h:=(exO nv4).symm.trans h
  refine G5 (t' := .d (.tup [])) (ls:=D1 v3 []) (news:=[]) ([5,6,7,8]) ([bx 7 (.d (B0.d p)),bx 6 (.d (A6.d s)),bx 5 (.d (D4.d a)),bx 6 (.d (.agg [vI 0,.v (.slice none 0 0),.v (.slice none 0 0),.v (.slice none 0 0),vI 0,.v (.bool false)])),c1 (vI 0),bx 13 (D8 v3 6 7 8),F5 v3.C1,F5 v3.C2,F5 v3.A7]) ((A3d k4).ok nv4) eK R (.inl ⟨R,R,R⟩) R R R R ((.cons R R A1A)) R R R ((.cons R (.row (.row (.row .nil))))) .nil R R R R ?_
  refine Q1 kR (A1 ?_)
  exact .inl ⟨(v3.M6,v3.R0,v3.M7,v3.V3,v3.M8,v3.R9,v3.V4,v3.J3,v3.C1,v3.C2,v3.A7,v3.G4,v3.G2),h,.prn [5,6,7,8] R⟩
 replace h:=J0 c3 h
 by_cases c4:a.kind=3
 ·replace h:=H1 c4 h
  refine A79 (3) (.d (.v (.func (.func 88) #[] #[]))) tb R R R R R c4 R R R R R (L7 R R R (B7 (y:=D4.d a) tb R ?_))
  obtain⟨rv5,k5,h⟩:=H0 h
  rcases Q9 rv5 with⟨x7,nv5⟩ | ⟨v4,nv5⟩
  ·replace h:=(exN nv5).symm.trans h
   refine R6 kR kR ?_
   (with_reducible apply L3 [5,6,7,8]);exact(A34 k5).err nv5;exact rfl;exact eK;exact rfl;exact .inl ⟨rfl,rfl,rfl⟩;(iterate 4 exact rfl);exact(.cons rfl rfl A1A);exact rfl
   intro cnt
   refine I2 ?_
   obtain rfl:=sI h
   exact⟨_,⟨[(6,.ref 3 6 0 0),(7,.ref 4 1 0 0)],[bx 7 (.d (B0.d p)),bx 6 (.d (A6.d s)),bx 5 (.d (D4.d a)),bx 6 (.d (.agg [vI 0,.v (.slice none 0 0),.v (.slice none 0 0),.v (.slice none 0 0),vI 0,.v (.bool false)])),c1 (vI 0),none,none,none,none]⟩,[0,1,2,3,4,5,6,7,8],R,(vK (.cons R R (.cons R R (.cons R R (.cons R R (.cons R R (.gone R (.gone R (.gone R (.gone R .nil))))))))) R),A0X (F:=F) x7 R⟩
  replace h:=(exO nv5).symm.trans h
  refine G5 (t' := .d (.tup [])) (ls:=D1 v4 []) (news:=[]) ([5,6,7,8]) ([bx 7 (.d (B0.d p)),bx 6 (.d (A6.d s)),bx 5 (.d (D4.d a)),bx 6 (.d (.agg [vI 0,.v (.slice none 0 0),.v (.slice none 0 0),.v (.slice none 0 0),vI 0,.v (.bool false)])),c1 (vI 0),bx 13 (D8 v4 6 7 8),F5 v4.C1,F5 v4.C2,F5 v4.A7]) ((A34 k5).ok nv5) eK R (.inl ⟨R,R,R⟩) R R R R ((.cons R R A1A)) R R R ((.cons R (.row (.row (.row .nil))))) .nil R R R R ?_
  refine Q1 kR (A1 ?_)
  exact .inl ⟨(v4.M6,v4.R0,v4.M7,v4.V3,v4.M8,v4.R9,v4.V4,v4.J3,v4.C1,v4.C2,v4.A7,v4.G4,v4.G2),h,.prn [5,6,7,8] R⟩
 replace h:=J0 c4 h
 by_cases c5:a.kind=4
 ·replace h:=H1 c5 h
  refine A79 (4) (.d (.v (.func (.func 89) #[] #[]))) tb R R R R R c5 R R R R R (L7 R R R (B7 (y:=D4.d a) tb R ?_))
  obtain⟨rv6,k6,h⟩:=H0 h
  rcases Q9 rv6 with⟨x9,nv6⟩ | ⟨v5,nv6⟩
  ·replace h:=(exN nv6).symm.trans h
   refine R6 kR kR ?_
   (with_reducible apply L3 [5,6,7,8]);exact(A3b k6).err nv6;exact rfl;exact eK;exact rfl;exact .inl ⟨rfl,rfl,rfl⟩;(iterate 4 exact rfl);exact(.cons rfl rfl A1A);exact rfl
   intro cnt
   refine I2 ?_
   obtain rfl:=sI h
   exact⟨_,⟨[(6,.ref 3 6 0 0),(7,.ref 4 1 0 0)],[bx 7 (.d (B0.d p)),bx 6 (.d (A6.d s)),bx 5 (.d (D4.d a)),bx 6 (.d (.agg [vI 0,.v (.slice none 0 0),.v (.slice none 0 0),.v (.slice none 0 0),vI 0,.v (.bool false)])),c1 (vI 0),none,none,none,none]⟩,[0,1,2,3,4,5,6,7,8],R,(vK (.cons R R (.cons R R (.cons R R (.cons R R (.cons R R (.gone R (.gone R (.gone R (.gone R .nil))))))))) R),A0X (F:=F) x9 R⟩
  replace h:=(exO nv6).symm.trans h
  refine G5 (t' := .d (.tup [])) (ls:=D1 v5 []) (news:=[]) ([5,6,7,8]) ([bx 7 (.d (B0.d p)),bx 6 (.d (A6.d s)),bx 5 (.d (D4.d a)),bx 6 (.d (.agg [vI 0,.v (.slice none 0 0),.v (.slice none 0 0),.v (.slice none 0 0),vI 0,.v (.bool false)])),c1 (vI 0),bx 13 (D8 v5 6 7 8),F5 v5.C1,F5 v5.C2,F5 v5.A7]) ((A3b k6).ok nv6) eK R (.inl ⟨R,R,R⟩) R R R R ((.cons R R A1A)) R R R ((.cons R (.row (.row (.row .nil))))) .nil R R R R ?_
  refine Q1 kR (A1 ?_)
  exact .inl ⟨(v5.M6,v5.R0,v5.M7,v5.V3,v5.M8,v5.R9,v5.V4,v5.J3,v5.C1,v5.C2,v5.A7,v5.G4,v5.G2),h,.prn [5,6,7,8] R⟩
 replace h:=J0 c5 h
 by_cases c6:a.kind=5
 ·replace h:=H1 c6 h
  refine A79 (5) (.d (.v (.func (.func 90) #[] #[]))) tb R R R R R c6 R R R R R (L7 R R R (B7 (y:=D4.d a) tb R ?_))
  obtain⟨rv7,k7,h⟩:=H0 h
  rcases Q9 rv7 with⟨x11,nv7⟩ | ⟨v6,nv7⟩
  ·replace h:=(exN nv7).symm.trans h
   refine R6 kR kR ?_
   (with_reducible apply L3 [5,6,7,8]);exact(A31 k7).err nv7;exact rfl;exact eK;exact rfl;exact .inl ⟨rfl,rfl,rfl⟩;(iterate 4 exact rfl);exact(.cons rfl rfl A1A);exact rfl
   intro cnt
   refine I2 ?_
   obtain rfl:=sI h
   exact⟨_,⟨[(6,.ref 3 6 0 0),(7,.ref 4 1 0 0)],[bx 7 (.d (B0.d p)),bx 6 (.d (A6.d s)),bx 5 (.d (D4.d a)),bx 6 (.d (.agg [vI 0,.v (.slice none 0 0),.v (.slice none 0 0),.v (.slice none 0 0),vI 0,.v (.bool false)])),c1 (vI 0),none,none,none,none]⟩,[0,1,2,3,4,5,6,7,8],R,(vK (.cons R R (.cons R R (.cons R R (.cons R R (.cons R R (.gone R (.gone R (.gone R (.gone R .nil))))))))) R),A0X (F:=F) x11 R⟩
  replace h:=(exO nv7).symm.trans h
  refine G5 (t' := .d (.tup [])) (ls:=D1 v6 []) (news:=[]) ([5,6,7,8]) ([bx 7 (.d (B0.d p)),bx 6 (.d (A6.d s)),bx 5 (.d (D4.d a)),bx 6 (.d (.agg [vI 0,.v (.slice none 0 0),.v (.slice none 0 0),.v (.slice none 0 0),vI 0,.v (.bool false)])),c1 (vI 0),bx 13 (D8 v6 6 7 8),F5 v6.C1,F5 v6.C2,F5 v6.A7]) ((A31 k7).ok nv7) eK R (.inl ⟨R,R,R⟩) R R R R ((.cons R R A1A)) R R R ((.cons R (.row (.row (.row .nil))))) .nil R R R R ?_
  refine Q1 kR (A1 ?_)
  exact .inl ⟨(v6.M6,v6.R0,v6.M7,v6.V3,v6.M8,v6.R9,v6.V4,v6.J3,v6.C1,v6.C2,v6.A7,v6.G4,v6.G2),h,.prn [5,6,7,8] R⟩
 replace h:=J0 c6 h
 by_cases c7:a.kind=6
 ·replace h:=H1 c7 h
  refine A79 (6) (.d (.v (.func (.func 91) #[] #[]))) tb R R R R R c7 R R R R R (L7 R R R (B7 (y:=D4.d a) tb R ?_))
  obtain⟨rv8,k8,h⟩:=H0 h
  rcases Q9 rv8 with⟨x13,nv8⟩ | ⟨v7,nv8⟩
  ·replace h:=(exN nv8).symm.trans h
   refine R6 kR kR ?_
   (with_reducible apply L3 [5,6,7,8]);exact(A2t k8).err nv8;exact rfl;exact eK;exact rfl;exact .inl ⟨rfl,rfl,rfl⟩;(iterate 4 exact rfl);exact(.cons rfl rfl A1A);exact rfl
   intro cnt
   refine I2 ?_
   obtain rfl:=sI h
   exact⟨_,⟨[(6,.ref 3 6 0 0),(7,.ref 4 1 0 0)],[bx 7 (.d (B0.d p)),bx 6 (.d (A6.d s)),bx 5 (.d (D4.d a)),bx 6 (.d (.agg [vI 0,.v (.slice none 0 0),.v (.slice none 0 0),.v (.slice none 0 0),vI 0,.v (.bool false)])),c1 (vI 0),none,none,none,none]⟩,[0,1,2,3,4,5,6,7,8],R,(vK (.cons R R (.cons R R (.cons R R (.cons R R (.cons R R (.gone R (.gone R (.gone R (.gone R .nil))))))))) R),A0X (F:=F) x13 R⟩
  replace h:=(exO nv8).symm.trans h
  refine G5 (t' := .d (.tup [])) (ls:=D1 v7 []) (news:=[]) ([5,6,7,8]) ([bx 7 (.d (B0.d p)),bx 6 (.d (A6.d s)),bx 5 (.d (D4.d a)),bx 6 (.d (.agg [vI 0,.v (.slice none 0 0),.v (.slice none 0 0),.v (.slice none 0 0),vI 0,.v (.bool false)])),c1 (vI 0),bx 13 (D8 v7 6 7 8),F5 v7.C1,F5 v7.C2,F5 v7.A7]) ((A2t k8).ok nv8) eK R (.inl ⟨R,R,R⟩) R R R R ((.cons R R A1A)) R R R ((.cons R (.row (.row (.row .nil))))) .nil R R R R ?_
  refine Q1 kR (A1 ?_)
  exact .inl ⟨(v7.M6,v7.R0,v7.M7,v7.V3,v7.M8,v7.R9,v7.V4,v7.J3,v7.C1,v7.C2,v7.A7,v7.G4,v7.G2),h,.prn [5,6,7,8] R⟩
 replace h:=J0 c7 h
 by_cases c8:a.kind=7
 ·replace h:=H1 c8 h
  refine A79 (7) (.d (.v (.func (.func 92) #[] #[]))) tb R R R R R c8 R R R R R (L7 R R R (B7 (y:=D4.d a) tb R ?_))
  obtain⟨rv9,k9,h⟩:=H0 h
  rcases Q9 rv9 with⟨x15,nv9⟩ | ⟨v8,nv9⟩
  ·replace h:=(exN nv9).symm.trans h
   refine R6 kR kR ?_
   (with_reducible apply L3 [5,6,7,8]);exact(A3a k9).err nv9;exact rfl;exact eK;exact rfl;exact .inl ⟨rfl,rfl,rfl⟩;(iterate 4 exact rfl);exact(.cons rfl rfl A1A);exact rfl
   intro cnt
   refine I2 ?_
   obtain rfl:=sI h
   exact⟨_,⟨[(6,.ref 3 6 0 0),(7,.ref 4 1 0 0)],[bx 7 (.d (B0.d p)),bx 6 (.d (A6.d s)),bx 5 (.d (D4.d a)),bx 6 (.d (.agg [vI 0,.v (.slice none 0 0),.v (.slice none 0 0),.v (.slice none 0 0),vI 0,.v (.bool false)])),c1 (vI 0),none,none,none,none]⟩,[0,1,2,3,4,5,6,7,8],R,(vK (.cons R R (.cons R R (.cons R R (.cons R R (.cons R R (.gone R (.gone R (.gone R (.gone R .nil))))))))) R),A0X (F:=F) x15 R⟩
  replace h:=(exO nv9).symm.trans h
  refine G5 (t' := .d (.tup [])) (ls:=D1 v8 []) (news:=[]) ([5,6,7,8]) ([bx 7 (.d (B0.d p)),bx 6 (.d (A6.d s)),bx 5 (.d (D4.d a)),bx 6 (.d (.agg [vI 0,.v (.slice none 0 0),.v (.slice none 0 0),.v (.slice none 0 0),vI 0,.v (.bool false)])),c1 (vI 0),bx 13 (D8 v8 6 7 8),F5 v8.C1,F5 v8.C2,F5 v8.A7]) ((A3a k9).ok nv9) eK R (.inl ⟨R,R,R⟩) R R R R ((.cons R R A1A)) R R R ((.cons R (.row (.row (.row .nil))))) .nil R R R R ?_
  refine Q1 kR (A1 ?_)
  exact .inl ⟨(v8.M6,v8.R0,v8.M7,v8.V3,v8.M8,v8.R9,v8.V4,v8.J3,v8.C1,v8.C2,v8.A7,v8.G4,v8.G2),h,.prn [5,6,7,8] R⟩
 replace h:=J0 c8 h
 by_cases c9:a.kind=8
 ·replace h:=H1 c9 h
  refine A79 (8) (.d (.v (.func (.func 93) #[] #[]))) tb R R R R R c9 R R R R R (L7 R R R (B7 (y:=D4.d a) tb R ?_))
  obtain⟨rv10,k10,h⟩:=H0 h
  rcases Q9 rv10 with⟨x17,nv10⟩ | ⟨v9,nv10⟩
  ·replace h:=(exN nv10).symm.trans h
   refine R6 kR kR ?_
   (with_reducible apply L3 [5,6,7,8]);exact(A26 k10).err nv10;exact rfl;exact eK;exact rfl;exact .inl ⟨rfl,rfl,rfl⟩;(iterate 4 exact rfl);exact(.cons rfl rfl A1A);exact rfl
   intro cnt
   refine I2 ?_
   obtain rfl:=sI h
   exact⟨_,⟨[(6,.ref 3 6 0 0),(7,.ref 4 1 0 0)],[bx 7 (.d (B0.d p)),bx 6 (.d (A6.d s)),bx 5 (.d (D4.d a)),bx 6 (.d (.agg [vI 0,.v (.slice none 0 0),.v (.slice none 0 0),.v (.slice none 0 0),vI 0,.v (.bool false)])),c1 (vI 0),none,none,none,none]⟩,[0,1,2,3,4,5,6,7,8],R,(vK (.cons R R (.cons R R (.cons R R (.cons R R (.cons R R (.gone R (.gone R (.gone R (.gone R .nil))))))))) R),A0X (F:=F) x17 R⟩
  replace h:=(exO nv10).symm.trans h
  refine G5 (t' := .d (.tup [])) (ls:=D1 v9 []) (news:=[]) ([5,6,7,8]) ([bx 7 (.d (B0.d p)),bx 6 (.d (A6.d s)),bx 5 (.d (D4.d a)),bx 6 (.d (.agg [vI 0,.v (.slice none 0 0),.v (.slice none 0 0),.v (.slice none 0 0),vI 0,.v (.bool false)])),c1 (vI 0),bx 13 (D8 v9 6 7 8),F5 v9.C1,F5 v9.C2,F5 v9.A7]) ((A26 k10).ok nv10) eK R (.inl ⟨R,R,R⟩) R R R R ((.cons R R A1A)) R R R ((.cons R (.row (.row (.row .nil))))) .nil R R R R ?_
  refine Q1 kR (A1 ?_)
  exact .inl ⟨(v9.M6,v9.R0,v9.M7,v9.V3,v9.M8,v9.R9,v9.V4,v9.J3,v9.C1,v9.C2,v9.A7,v9.G4,v9.G2),h,.prn [5,6,7,8] R⟩
 replace h:=J0 c9 h
 by_cases c10:a.kind=9
 ·replace h:=H1 c10 h
  refine A79 (9) (.d (.v (.func (.func 94) #[] #[]))) tb R R R R R c10 R R R R R (L7 R R R (B7 (y:=D4.d a) tb R ?_))
  obtain⟨rv11,k11,h⟩:=H0 h
  rcases Q9 rv11 with⟨x19,nv11⟩ | ⟨v10,nv11⟩
  ·replace h:=(exN nv11).symm.trans h
   refine R6 kR kR ?_
   (with_reducible apply L3 [5,6,7,8]);exact(A2g k11).err nv11;exact rfl;exact eK;exact rfl;exact .inl ⟨rfl,rfl,rfl⟩;(iterate 4 exact rfl);exact(.cons rfl rfl A1A);exact rfl
   intro cnt
   refine I2 ?_
   obtain rfl:=sI h
   exact⟨_,⟨[(6,.ref 3 6 0 0),(7,.ref 4 1 0 0)],[bx 7 (.d (B0.d p)),bx 6 (.d (A6.d s)),bx 5 (.d (D4.d a)),bx 6 (.d (.agg [vI 0,.v (.slice none 0 0),.v (.slice none 0 0),.v (.slice none 0 0),vI 0,.v (.bool false)])),c1 (vI 0),none,none,none,none]⟩,[0,1,2,3,4,5,6,7,8],R,(vK (.cons R R (.cons R R (.cons R R (.cons R R (.cons R R (.gone R (.gone R (.gone R (.gone R .nil))))))))) R),A0X (F:=F) x19 R⟩
  replace h:=(exO nv11).symm.trans h
  refine G5 (t' := .d (.tup [])) (ls:=D1 v10 []) (news:=[]) ([5,6,7,8]) ([bx 7 (.d (B0.d p)),bx 6 (.d (A6.d s)),bx 5 (.d (D4.d a)),bx 6 (.d (.agg [vI 0,.v (.slice none 0 0),.v (.slice none 0 0),.v (.slice none 0 0),vI 0,.v (.bool false)])),c1 (vI 0),bx 13 (D8 v10 6 7 8),F5 v10.C1,F5 v10.C2,F5 v10.A7]) ((A2g k11).ok nv11) eK R (.inl ⟨R,R,R⟩) R R R R ((.cons R R A1A)) R R R ((.cons R (.row (.row (.row .nil))))) .nil R R R R ?_
  refine Q1 kR (A1 ?_)
  exact .inl ⟨(v10.M6,v10.R0,v10.M7,v10.V3,v10.M8,v10.R9,v10.V4,v10.J3,v10.C1,v10.C2,v10.A7,v10.G4,v10.G2),h,.prn [5,6,7,8] R⟩
 replace h:=J0 c10 h
 cases h
theorem B6D {F:Nat} {p:B0} {s:A6} {a:D4} {r:(A6 × Int)} (h:B0w F p s a=some r):PC Tryz.prog 25 [B0.d p,A6.d s,D4.d a] (.tup [A6.d r.1,.v (.int .i64 r.2)]):=(A9f h).toPC (.tupL (.cons (.aggL (.cons (.d _) (.cons (.row rfl rfl) (.cons (.row rfl rfl) (.cons (.row rfl rfl) (.cons (.d _) (.cons (.d _) .nil))))))) (.cons (.d _) .nil)))
def A0G (F:Nat) (p:B0) (s:A6):Option Int:=(A1Y F p).bind fun rv=>if rv.2.2=0 then((A2h F p s).bind fun rv2=>B34 rv2 (none) (fun t=>(U2 F t).bind fun rv3=>if rv3=true then((A1f F t).bind fun rv4=>if rv4=true then(some 0)else(some 6))else(some 6)))else(some rv.2.2)
theorem A4l {F:Nat} {p:B0} {s:A6} {r:Int} (h:A0G F p s=some r):PC Tryz.prog 19 [B0.d p,A6.d s] (.v (.int .i64 r)):=by
 rw[A0G]at h
 refine SC.of_sw Tryz.func19 R R R ?_
 dsimp only[M1,List.map]
 refine qG (M4 R (M4 R (A3 R (eN (B8 (qG (B7 (y:=B0.d p) tb R ?_)))))))
 obtain⟨rv,k,h⟩:=H0 h
 refine N5 (A3B k) eK R R R R (A0 R (S3 (t:=vI rv.1) R R R R (S3 (t:=vI rv.2.1) R R R R (S3 (t:=vI rv.2.2) R R R R (A3 R (A3 R (A3 R (eN (qG (A0 R ?_))))))))))
 refine T6 R R R R ?_ ?_
 ·intro c
  replace h:=J0 c h
  refine eN (A9 R (qG (A0 R (A3 R (eN (C9 (B1 ?_)))))))
  obtain rfl:=sI h
  exact f1 4 R
 intro c
 replace h:=H1 c h
 refine eN (A5 R (C0 (A1 (B8 (qG (B7 (y:=B0.d p) tb R (B7 (y:=A6.d s) tb R ?_)))))))
 obtain⟨rv2,k2,h⟩:=H0 h
 rcases Option.eq_none_or_eq_some rv2 with nv | ⟨t,nv⟩
 ·replace h:=(B5y nv).symm.trans h
  refine G5 (t' := .d (.v (.pointer none))) (ls:=[]) (news:=[]) ([]) ([bx 7 (.d (B0.d p)),bx 6 (.d (A6.d s))]) ((Z7 k2).none nv) eK R (.inl ⟨R,R,R⟩) R R R R .nil R R R .nil .nil R R R R ?_
  cases h
 replace h:=(B5z nv).symm.trans h
 refine G5 (t' := .ref 2 13 0 0) (ls:=[]) (news:=[⟨13,[D8 t 1 2 3]⟩,(lvI t.C1),(lvI t.C2),(lvI t.A7)]) ([]) ([bx 7 (.d (B0.d p)),bx 6 (.d (A6.d s)),bx 13 (D8 t 3 4 5),F5 t.C1,F5 t.C2,F5 t.A7]) ((Z7 k2).some nv) eK R (.inl ⟨R,R,R⟩) R R R R .nil R R R .nil ((.cons R (.row (.row (.row .nil))))) R R R R (B24 R R R (eN (qG (L7 R R R ?_))))
 obtain⟨rv3,k3,h⟩:=H0 h
 refine A4N (A33 k3) eK R R ((.cons (.ref R (.aggL (dL (dL (dL (dL (dL (dL (dL (dL (.cons (.row R R) (.cons (.row R R) (.cons (.row R R) (dL (dL .nil))))))))))))))) .nil)) R R ?_ ?_
 ·intro c2
  replace h:=H1 c2 h
  refine M2 R R R (A0 R (L7 R R R ?_))
  obtain⟨rv4,k4,h⟩:=H0 h
  refine A4N (A6X k4) eK R R ((.cons (.ref R (.aggL (dL (dL (dL (dL (dL (dL (dL (dL (.cons (.row R R) (.cons (.row R R) (.cons (.row R R) (dL (dL .nil))))))))))))))) .nil)) R R ?_ ?_
  ·intro c3
   replace h:=H1 c3 h
   refine M2 R R R (C4 R (eN (A5 R (C0 (A1 (qG (A3 R (eN (C9 ?_)))))))))
   obtain rfl:=sI h
   exact f1 4 R
  intro c3
  replace h:=X9 c3 h
  refine M3 R R R (C4 R (eN (A9 R (qG (A3 R (eN (C9 (B1 ?_))))))))
  obtain rfl:=sI h
  exact f1 4 R
 intro c2
 replace h:=X9 c2 h
 refine M3 R R R (A0 R (H7 3 R (B5 R (eN (A9 R (qG (A3 R (eN (C9 (B1 ?_))))))))))
 obtain rfl:=sI h
 exact f1 4 R
def A5F (F:Nat) (B4:Int→(List Int)→(List Int)→(List Int)→Int→Bool→(List Int)→Int→Option (A6 × (List Int) × Int)) (x3:Int) (y7:Int) (y8:(List Int)) (y9:(List Int)) (y10:(List Int)) (y11:Int) (y12:Bool) (lv2:(List Int)):Option (A6 × (List Int) × Int):=B4 y7 y8 y9 y10 y11 y12 lv2 (W (x3+1))
def A4o (F:Nat) (B4:Int→(List Int)→(List Int)→(List Int)→Int→Bool→(List Int)→Int→Option (A6 × (List Int) × Int)) (lv:(List Int)) (x3:Int) (rv4:(A6 × Int)) (y7:Int) (y8:(List Int)) (y9:(List Int)) (y10:(List Int)) (y11:Int) (y12:Bool):Option (A6 × (List Int) × Int):=(A67 lv [rv4.2]).bind fun q=>A5F F B4 x3 y7 y8 y9 y10 y11 y12 q
def A0O (F:Nat) (t:B0) (a:(List D4)) (K:Int→(List Int)→(List Int)→(List Int)→Int→Bool→(List Int)→Int→Option (A6 × (List Int) × Int)):Nat→Int→(List Int)→(List Int)→(List Int)→Int→Bool→(List Int)→Int→Option (A6 × (List Int) × Int)
 | 0,_,_,_,_,_,_,_,_=>none
 | n+1,y,y2,y3,y4,y5,y6,lv,x3=>if x3<(a.length:Int)then((P7 a x3).bind fun e2=>(B0w F t (A6.mk y y2 y3 y4 y5 y6) e2).bind fun rv4=>if rv4.2=0 then(A4o F (A0O F t a K n) lv x3 rv4 rv4.1.now rv4.1.zones rv4.1.holder rv4.1.squibs rv4.1.siren rv4.1.storm)else(A4o F (A0O F t a K n) lv x3 rv4 y y2 y3 y4 y5 y6))else(K y y2 y3 y4 y5 y6 lv x3)
def A2Z (F:Nat) (t:B0) (a:(List D4)) (K:Int→Int→Option (A6 × (List Int) × Int)):Nat→Int→Int→Option (A6 × (List Int) × Int)
 | 0,_,_=>none
 | n+1,x,x2=>if x2<(a.length:Int)then((P7 a x2).bind fun e=>(B0u F t e).bind fun rv2=>if rv2=0 then(A2Z F t a K n rv2 (W (x2+1)))else(some ((A6.mk 0 ([]:List Int) ([]:List Int) ([]:List Int) 0 false),([]:List Int),rv2)))else(K x x2)
def A7z (F:Nat) (t:B0) (o:A6) (a:(List D4)):Option (A6 × (List Int) × Int):=(A0G F t o).bind fun rv=>if rv=0 then(if 60<(a.length:Int)then(some ((A6.mk 0 ([]:List Int) ([]:List Int) ([]:List Int) 0 false),([]:List Int),3))else(A2Z F t a (fun(x:Int) (x2:Int)=>(A2h F t o).bind fun rv3=>B34 rv3 (none) (fun t2=>A0O F t a (fun(y:Int) (y2:(List Int)) (y3:(List Int)) (y4:(List Int)) (y5:Int) (y6:Bool) (lv:(List Int)) (x3:Int)=>some ((A6.mk y y2 y3 y4 y5 y6),lv,0)) F t2.J3 t2.C1 t2.C2 t2.A7 t2.G4 t2.G2 ([]:List Int) 0)) F rv 0))else(some ((A6.mk 0 ([]:List Int) ([]:List Int) ([]:List Int) 0 false),([]:List Int),rv))
theorem A70 {F:Nat} {t:B0} {o:A6} {a:(List D4)} {r:(A6 × (List Int) × Int)} (h:A7z F t o a=some r):SCR Tryz.prog 7 (List.map T.d [B0.d t,A6.d o,.arr 5 ((a).map D4.d)]) [] (.tup [D5 r.1 0 1 2,.row 3 1 0 (r.2.1).length,.d (.v (.int .i64 r.2.2))]) (List.map some [(lvI r.1.zones),(lvI r.1.holder),(lvI r.1.squibs),(lvI r.2.1)]):=by
 rw[A7z]at h
 refine SC.of_sw Tryz.func7 R R R ?_
 dsimp only[M1,List.map]
 refine qG (M4 R (M4 R (N0 tb R R R R R (A3 R (A3 R (eN (B8 (qG (B7 (y:=B0.d t) tb R (B7 (y:=A6.d o) tb R ?_))))))))))
 obtain⟨rv,k,h⟩:=H0 h
 refine N5 (A4l k) eK R R R R (A3 R (eN (qG (A0 R ?_))))
 refine T6 R R R R ?_ ?_
 ·intro c
  replace h:=J0 c h
  refine eN (A9 R (qG (L4 (v := .d (.agg [vI 0,.v (.slice none 0 0),.v (.slice none 0 0),.v (.slice none 0 0),vI 0,.v (.bool false)])) tb R R (List.cons_ne_nil _ _) R R R R R R (A0 R (I5 _ _ tb R (A3 R (A3 R (eN ?_))))))))
  refine SW.own (ts':=[(6,.ref 2 6 0 0),(7,.d (.v (.slice none 0 0))),(8,.d (vI rv))]) (L':=[bx 7 (.d (B0.d t)),bx 6 (.d (A6.d o)),bx 6 (.agg [.d (vI 0),.row 3 1 0 (([]:List Int)).length,.d (.v (.slice none 0 0)),.d (.v (.slice none 0 0)),.d (vI 0),.d (.v (.bool false))])]) 1 R R (.cons (.same _) (.cons (.same _) (.cons (.same _) .nil))) (.same (.same (.cons R (.cons (.aggDL (.cons (.same _) (.cons .nil (.cons (.same _) (.cons (.same _) (.cons (.same _) (.cons (.same _) .nil))))))) .nil) .nil))) ?_
  simp only[List.cons_append,List.nil_append]
  refine SW.own (ts':=[(6,.ref 2 6 0 0),(7,.d (.v (.slice none 0 0))),(8,.d (vI rv))]) (L':=[bx 7 (.d (B0.d t)),bx 6 (.d (A6.d o)),bx 6 (.agg [.d (vI 0),.row 3 1 0 (([]:List Int)).length,.row 4 1 0 (([]:List Int)).length,.d (.v (.slice none 0 0)),.d (vI 0),.d (.v (.bool false))]),F5 ([]:List Int)]) 1 R R (.cons (.same _) (.cons (.same _) (.cons (.same _) .nil))) (.same (.same (.cons R (.cons (.aggL (.cons (.same _) (.cons (.same _) (.cons .nil (.cons (.same _) (.cons (.same _) (.cons (.same _) .nil))))))) .nil) (.same .nil)))) ?_
  simp only[List.cons_append,List.nil_append]
  refine SW.own (ts':=[(6,.ref 2 6 0 0),(7,.d (.v (.slice none 0 0))),(8,.d (vI rv))]) (L':=[bx 7 (.d (B0.d t)),bx 6 (.d (A6.d o)),bx 6 (D5 (A6.mk 0 ([]:List Int) ([]:List Int) ([]:List Int) 0 false) 3 4 5),F5 ([]:List Int),F5 ([]:List Int)]) 1 R R (.cons (.same _) (.cons (.same _) (.cons (.same _) .nil))) (.same (.same (.cons R (.cons (.aggL (.cons (.same _) (.cons (.same _) (.cons (.same _) (.cons .nil (.cons (.same _) (.cons (.same _) .nil))))))) .nil) (.same (.same .nil))))) ?_
  simp only[List.cons_append,List.nil_append]
  refine SW.own (ts':=[(6,.ref 2 6 0 0),(7,.row 6 1 0 (([]:List Int)).length),(8,.d (vI rv))]) (L':=[bx 7 (.d (B0.d t)),bx 6 (.d (A6.d o)),bx 6 (D5 (A6.mk 0 ([]:List Int) ([]:List Int) ([]:List Int) 0 false) 3 4 5),F5 ([]:List Int),F5 ([]:List Int),F5 ([]:List Int)]) 1 R R (.cons (.same _) (.cons .nil (.cons (.same _) .nil))) (.same (.same (.same (.same (.same (.same .nil)))))) ?_
  simp only[List.cons_append,List.nil_append]
  refine C9 (B1 ?_)
  obtain rfl:=sI h
  exact f2 [3,4,5,6] B1I R (.cons (rc tb R) (.cons (.tmp 7) (.cons (.tmp 8) .nil))) R
 intro c
 replace h:=H1 c h
 refine eN (A5 R (C0 (A1 (B8 (qG (A0 R (H3 tb R ?_)))))))
 refine A1D R R R R ?_ ?_
 ·intro c2
  replace h:=H1 c2 h
  refine eN (A9 R (qG (L4 (v := .d (.agg [vI 0,.v (.slice none 0 0),.v (.slice none 0 0),.v (.slice none 0 0),vI 0,.v (.bool false)])) tb R R (List.cons_ne_nil _ _) R R R R R R (I5 _ _ tb R (A3 R (A3 R (eN ?_)))))))
  refine SW.own (ts':=[(6,.ref 2 6 0 0),(7,.d (.v (.slice none 0 0))),(8,.d (vI 3))]) (L':=[bx 7 (.d (B0.d t)),bx 6 (.d (A6.d o)),bx 6 (.agg [.d (vI 0),.row 3 1 0 (([]:List Int)).length,.d (.v (.slice none 0 0)),.d (.v (.slice none 0 0)),.d (vI 0),.d (.v (.bool false))])]) 1 R R (.cons (.same _) (.cons (.same _) (.cons (.same _) .nil))) (.same (.same (.cons R (.cons (.aggDL (.cons (.same _) (.cons .nil (.cons (.same _) (.cons (.same _) (.cons (.same _) (.cons (.same _) .nil))))))) .nil) .nil))) ?_
  simp only[List.cons_append,List.nil_append]
  refine SW.own (ts':=[(6,.ref 2 6 0 0),(7,.d (.v (.slice none 0 0))),(8,.d (vI 3))]) (L':=[bx 7 (.d (B0.d t)),bx 6 (.d (A6.d o)),bx 6 (.agg [.d (vI 0),.row 3 1 0 (([]:List Int)).length,.row 4 1 0 (([]:List Int)).length,.d (.v (.slice none 0 0)),.d (vI 0),.d (.v (.bool false))]),F5 ([]:List Int)]) 1 R R (.cons (.same _) (.cons (.same _) (.cons (.same _) .nil))) (.same (.same (.cons R (.cons (.aggL (.cons (.same _) (.cons (.same _) (.cons .nil (.cons (.same _) (.cons (.same _) (.cons (.same _) .nil))))))) .nil) (.same .nil)))) ?_
  simp only[List.cons_append,List.nil_append]
  refine SW.own (ts':=[(6,.ref 2 6 0 0),(7,.d (.v (.slice none 0 0))),(8,.d (vI 3))]) (L':=[bx 7 (.d (B0.d t)),bx 6 (.d (A6.d o)),bx 6 (D5 (A6.mk 0 ([]:List Int) ([]:List Int) ([]:List Int) 0 false) 3 4 5),F5 ([]:List Int),F5 ([]:List Int)]) 1 R R (.cons (.same _) (.cons (.same _) (.cons (.same _) .nil))) (.same (.same (.cons R (.cons (.aggL (.cons (.same _) (.cons (.same _) (.cons (.same _) (.cons .nil (.cons (.same _) (.cons (.same _) .nil))))))) .nil) (.same (.same .nil))))) ?_
  simp only[List.cons_append,List.nil_append]
  refine SW.own (ts':=[(6,.ref 2 6 0 0),(7,.row 6 1 0 (([]:List Int)).length),(8,.d (vI 3))]) (L':=[bx 7 (.d (B0.d t)),bx 6 (.d (A6.d o)),bx 6 (D5 (A6.mk 0 ([]:List Int) ([]:List Int) ([]:List Int) 0 false) 3 4 5),F5 ([]:List Int),F5 ([]:List Int),F5 ([]:List Int)]) 1 R R (.cons (.same _) (.cons .nil (.cons (.same _) .nil))) (.same (.same (.same (.same (.same (.same .nil)))))) ?_
  simp only[List.cons_append,List.nil_append]
  refine C9 (B1 ?_)
  obtain rfl:=sI h
  exact f2 [3,4,5,6] B1I R (.cons (rc tb R) (.cons (.tmp 7) (.cons (.tmp 8) .nil))) R
 intro c2
 replace h:=J0 (nL c2) h
 refine eN (A5 R (C0 (A1 (B8 (qG (A0 R (H3 tb R (A0 R (eN (D0 ?_))))))))))
 obtain⟨K2,hK2,h⟩:∃ K,K=_∧A2Z F t a K F rv 0=some r:=⟨_,rfl,h⟩
 refine H6 (fun m st=>∃ (x:Int) (x2:Int),A2Z F t a K2 m x x2=some r∧st=⟨[(2,.d (.arr 5 ((a).map D4.d))),(3,.ref 0 7 0 0),(4,.ref 1 6 0 0),(6,.ref 2 6 0 0),(7,.d (.v (.slice none 0 0))),(8,.d (vI x)),(26,.d (.arr 5 ((a).map D4.d))),(27,.d (vI (a.length:Int))),(28,.d (vI x2))],[bx 7 (.d (B0.d t)),bx 6 (.d (A6.d o)),bx 6 (.d (.agg [vI 0,.v (.slice none 0 0),.v (.slice none 0 0),.v (.slice none 0 0),vI 0,.v (.bool false)]))]⟩) (.prn [2,3,4,6,7,8,26,27,28] R) ⟨rv,0,h,R⟩ ?_
 clear h
 rintro m2 st ⟨x,x2,h,rfl⟩
 cases m2 with
 | zero=>cases(show(none:Option (A6 × (List Int) × Int))=some r from h)
 | succ m2 =>
 rw[A2Z]at h
 refine qG ?_
 refine G8 R R R R ?_ ?_
 ·intro c3
  replace h:=H1 c3 h
  refine eN (B8 (A9 R (C0 (A1 (B8 (D0 (qG ?_)))))))
  obtain⟨e,ie,h⟩:=H0 h
  refine J9 tb (S0 ie) (P6 ie) R (H9 (y:=D4.d e) tb (Q6 (g:=D4.d) ie) R (N0 tb R R R R R (I5 _ _ tb R (eN (qG (B7 (y:=B0.d t) tb R (B7 (y:=D4.d e) tb R ?_)))))))
  obtain⟨rv2,k2,h⟩:=H0 h
  refine N5 (B2u k2) eK R R R R (A3 R (eN (qG (A0 R ?_))))
  refine T6 R R R R ?_ ?_
  ·intro c4
   replace h:=J0 c4 h
   refine eN (A9 R (qG (L4 (v := .d (.agg [vI 0,.v (.slice none 0 0),.v (.slice none 0 0),.v (.slice none 0 0),vI 0,.v (.bool false)])) tb R R (List.cons_ne_nil _ _) R R R R R R (A0 R (I5 _ _ tb R (A3 R (A3 R (eN ?_))))))))
   refine SW.own (ts':=[(6,.ref 2 6 0 0),(7,.d (.v (.slice none 0 0))),(8,.d (vI rv2))]) (L':=[bx 7 (.d (B0.d t)),bx 6 (.d (A6.d o)),bx 6 (.agg [.d (vI 0),.row 4 1 0 (([]:List Int)).length,.d (.v (.slice none 0 0)),.d (.v (.slice none 0 0)),.d (vI 0),.d (.v (.bool false))]),bx 5 (.d (D4.d e))]) 1 R R (.cons (.same _) (.cons (.same _) (.cons (.same _) .nil))) (.same (.same (.cons R (.cons (.aggDL (.cons (.same _) (.cons .nil (.cons (.same _) (.cons (.same _) (.cons (.same _) (.cons (.same _) .nil))))))) .nil) (.same .nil)))) ?_
   simp only[List.cons_append,List.nil_append]
   refine SW.own (ts':=[(6,.ref 2 6 0 0),(7,.d (.v (.slice none 0 0))),(8,.d (vI rv2))]) (L':=[bx 7 (.d (B0.d t)),bx 6 (.d (A6.d o)),bx 6 (.agg [.d (vI 0),.row 4 1 0 (([]:List Int)).length,.row 5 1 0 (([]:List Int)).length,.d (.v (.slice none 0 0)),.d (vI 0),.d (.v (.bool false))]),bx 5 (.d (D4.d e)),F5 ([]:List Int)]) 1 R R (.cons (.same _) (.cons (.same _) (.cons (.same _) .nil))) (.same (.same (.cons R (.cons (.aggL (.cons (.same _) (.cons (.same _) (.cons .nil (.cons (.same _) (.cons (.same _) (.cons (.same _) .nil))))))) .nil) (.same (.same .nil))))) ?_
   simp only[List.cons_append,List.nil_append]
   refine SW.own (ts':=[(6,.ref 2 6 0 0),(7,.d (.v (.slice none 0 0))),(8,.d (vI rv2))]) (L':=[bx 7 (.d (B0.d t)),bx 6 (.d (A6.d o)),bx 6 (D5 (A6.mk 0 ([]:List Int) ([]:List Int) ([]:List Int) 0 false) 4 5 6),bx 5 (.d (D4.d e)),F5 ([]:List Int),F5 ([]:List Int)]) 1 R R (.cons (.same _) (.cons (.same _) (.cons (.same _) .nil))) (.same (.same (.cons R (.cons (.aggL (.cons (.same _) (.cons (.same _) (.cons (.same _) (.cons .nil (.cons (.same _) (.cons (.same _) .nil))))))) .nil) (.same (.same (.same .nil)))))) ?_
   simp only[List.cons_append,List.nil_append]
   refine SW.own (ts':=[(6,.ref 2 6 0 0),(7,.row 7 1 0 (([]:List Int)).length),(8,.d (vI rv2))]) (L':=[bx 7 (.d (B0.d t)),bx 6 (.d (A6.d o)),bx 6 (D5 (A6.mk 0 ([]:List Int) ([]:List Int) ([]:List Int) 0 false) 4 5 6),bx 5 (.d (D4.d e)),F5 ([]:List Int),F5 ([]:List Int),F5 ([]:List Int)]) 1 R R (.cons (.same _) (.cons .nil (.cons (.same _) .nil))) (.same (.same (.same (.same (.same (.same (.same .nil))))))) ?_
   simp only[List.cons_append,List.nil_append]
   refine C9 (C5 (B1 (B1 (C5 (B1 ?_)))))
   obtain rfl:=sI h
   exact f2 [4,5,6,7] B1I R (.cons (rc tb R) (.cons (.tmp 7) (.cons (.tmp 8) .nil))) R
  intro c4
  replace h:=H1 c4 h
  refine eN (A5 R (C0 (C3 (A1 (E5 (H4 R (A0 R (eN ?_))))))))
  exact⟨m2,⟨[(2,.d (.arr 5 ((a).map D4.d))),(3,.ref 0 7 0 0),(4,.ref 1 6 0 0),(6,.ref 2 6 0 0),(7,.d (.v (.slice none 0 0))),(8,.d (vI rv2)),(26,.d (.arr 5 ((a).map D4.d))),(27,.d (vI (a.length:Int))),(28,.d (vI (W (x2+1))))],[bx 7 (.d (B0.d t)),bx 6 (.d (A6.d o)),bx 6 (.d (.agg [vI 0,.v (.slice none 0 0),.v (.slice none 0 0),.v (.slice none 0 0),vI 0,.v (.bool false)]))]⟩,lS,.vw (κ:=[0,1,2]) (vK (.cons R R (.cons R R (.cons R R .nil))) R),rv2,(W (x2+1)),h,R⟩
 intro c3
 replace h:=J0 (nL c3) h
 refine eN (B8 (A5 R (I4 (C8 (C8 ?_)))))
 subst hK2
 refine F3 (A1 (qG (B7 (y:=B0.d t) tb R (B7 (y:=A6.d o) tb R ?_))))
 obtain⟨rv3,k3,h⟩:=H0 h
 rcases Option.eq_none_or_eq_some rv3 with nv | ⟨t2,nv⟩
 ·replace h:=(B5y nv).symm.trans h
  refine G5 (t' := .d (.v (.pointer none))) (ls:=[]) (news:=[]) ([]) ([bx 7 (.d (B0.d t)),bx 6 (.d (A6.d o)),bx 6 (.d (.agg [vI 0,.v (.slice none 0 0),.v (.slice none 0 0),.v (.slice none 0 0),vI 0,.v (.bool false)]))]) ((Z7 k3).none nv) eK R (.inl ⟨R,R,R⟩) R R R R .nil R R R .nil .nil R R R R ?_
  cases h
 replace h:=(B5z nv).symm.trans h
 refine G5 (t' := .ref 3 13 0 0) (ls:=[]) (news:=[⟨13,[D8 t2 1 2 3]⟩,(lvI t2.C1),(lvI t2.C2),(lvI t2.A7)]) ([]) ([bx 7 (.d (B0.d t)),bx 6 (.d (A6.d o)),bx 6 (.d (.agg [vI 0,.v (.slice none 0 0),.v (.slice none 0 0),.v (.slice none 0 0),vI 0,.v (.bool false)])),bx 13 (D8 t2 4 5 6),F5 t2.C1,F5 t2.C2,F5 t2.A7]) ((Z7 k3).some nv) eK R (.inl ⟨R,R,R⟩) R R R R .nil R R R .nil ((.cons R (.row (.row (.row .nil))))) R R R R ?_
 refine I8 R R R (C7 tb R (A9n tb R R R R R R R R R (I5 _ _ tb R (eN (B8 (qG (A0 R (H3 tb R (A0 R (eN (D0 ?_)))))))))))
 refine SW.own (ts':=[(3,.ref 0 7 0 0),(6,.ref 2 6 0 0),(7,.row 7 1 0 (([]:List Int)).length),(8,.d (vI x)),(46,.d (.arr 5 ((a).map D4.d))),(47,.d (vI (a.length:Int))),(48,.d (vI 0))]) (L':=[bx 7 (.d (B0.d t)),bx 6 (.d (A6.d o)),bx 6 (D5 (A6.mk t2.J3 t2.C1 t2.C2 t2.A7 t2.G4 t2.G2) 4 5 6),bx 13 (D8 t2 4 5 6),F5 t2.C1,F5 t2.C2,F5 t2.A7]) 1 R R (.cons (.same _) (.cons (.same _) (.cons .nil (.cons (.same _) (.cons (.same _) (.cons (.same _) (.cons (.same _) .nil))))))) (.same (.same (.same (.same (.same (.same (.same .nil))))))) ?_
 simp only[List.cons_append,List.nil_append]
 obtain⟨K4,hK4,h⟩:∃ K,K=_∧A0O F t a K F t2.J3 t2.C1 t2.C2 t2.A7 t2.G4 t2.G2 ([]:List Int) 0=some r:=⟨_,rfl,h⟩
 refine H6 (st0:=⟨[(3,.ref 0 7 0 0),(6,.ref 1 6 0 0),(7,.row 5 1 0 (([]:List Int)).length),(8,.d (vI x)),(46,.d (.arr 5 ((a).map D4.d))),(47,.d (vI (a.length:Int))),(48,.d (vI 0))],[bx 7 (.d (B0.d t)),bx 6 (D5 (A6.mk t2.J3 t2.C1 t2.C2 t2.A7 t2.G4 t2.G2) 2 3 4),F5 t2.C1,F5 t2.C2,F5 t2.A7,F5 ([]:List Int)]⟩) (fun m st=>∃ (y:Int) (y2:(List Int)) (y3:(List Int)) (y4:(List Int)) (y5:Int) (y6:Bool) (lv:(List Int)) (x3:Int),A0O F t a K4 m y y2 y3 y4 y5 y6 lv x3=some r∧st=⟨[(3,.ref 0 7 0 0),(6,.ref 1 6 0 0),(7,.row 5 1 0 (lv).length),(8,.d (vI x)),(46,.d (.arr 5 ((a).map D4.d))),(47,.d (vI (a.length:Int))),(48,.d (vI x3))],[bx 7 (.d (B0.d t)),bx 6 (D5 (A6.mk y y2 y3 y4 y5 y6) 2 3 4),F5 y2,F5 y3,F5 y4,F5 lv]⟩) (.vw (κ:=[0,2,4,5,6,7]) (vK (.cons R R (.cons R R B1I)) R)) ⟨t2.J3,t2.C1,t2.C2,t2.A7,t2.G4,t2.G2,([]:List Int),0,h,R⟩ ?_
 clear h
 rintro m4 st ⟨y,y2,y3,y4,y5,y6,lv,x3,h,rfl⟩
 cases m4 with
 | zero=>cases(show(none:Option (A6 × (List Int) × Int))=some r from h)
 | succ m4 =>
 rw[A0O]at h
 refine qG ?_
 refine G8 R R R R ?_ ?_
 ·intro c5
  replace h:=H1 c5 h
  refine eN (B8 (A9 R (C0 (A1 (B8 ?_)))))
  refine N3 (fun zz:Int × (List Int) × (List Int) × (List Int) × Int × Bool × (List Int)=>A5F F (A0O F t a K4 m4) x3 zz.1 zz.2.1 zz.2.2.1 zz.2.2.2.1 zz.2.2.2.2.1 zz.2.2.2.2.2.1 zz.2.2.2.2.2.2=some r) (fun zz:Int × (List Int) × (List Int) × (List Int) × Int × Bool × (List Int)=>⟨[(3,.ref 0 7 0 0),(6,.ref 1 6 0 0),(7,.row 5 1 0 (zz.2.2.2.2.2.2).length),(8,.d (vI x)),(46,.d (.arr 5 ((a).map D4.d))),(47,.d (vI (a.length:Int))),(48,.d (vI x3))],[bx 7 (.d (B0.d t)),bx 6 (D5 (A6.mk zz.1 zz.2.1 zz.2.2.1 zz.2.2.2.1 zz.2.2.2.2.1 zz.2.2.2.2.2.1) 2 3 4),F5 zz.2.1,F5 zz.2.2.1,F5 zz.2.2.2.1,F5 zz.2.2.2.2.2.2]⟩) ?_ ?_
  ·clear h
   rintro⟨y7,y8,y9,y10,y11,y12,lv2⟩ h
   dsimp only at h ⊢
   rw[A5F]at h
   refine E5 (H4 R (A0 R (eN ?_)))
   exact⟨m4,_,lS,.prn [3,6,7,8,46,47,48] R,y7,y8,y9,y10,y11,y12,lv2,(W (x3+1)),h,R⟩
  refine D0 (qG ?_)
  obtain⟨e2,ie2,h⟩:=H0 h
  refine J9 tb (S0 ie2) (P6 ie2) R (H9 (y:=D4.d e2) tb (Q6 (g:=D4.d) ie2) R (N0 tb R R R R R (I5 _ _ tb R (eN (qG (B7 (y:=B0.d t) tb R (A9n tb R R R R R R R R R (B7 (y:=D4.d e2) tb R ?_))))))))
  obtain⟨rv4,k4,h⟩:=H0 h
  refine A5S (t' := .tup [D5 rv4.1 7 8 9,.d (vI rv4.2)]) (news':=[(lvI rv4.1.zones),(lvI rv4.1.holder),(lvI rv4.1.squibs)]) (A9f k4) R ((.row (fun _=>rfl) (.row (fun _=>rfl) (.row (fun _=>rfl) .nil)))) eK R R ((dL (.cons (.aggL (dL (.cons (.row R R) (.cons (.row R R) (.cons (.row R R) (dL (dL .nil))))))) (dL .nil)))) R ((.row (.row (.row .nil)))) R R R ?_
  refine A2G (.tup [D5 rv4.1 7 8 9,.d (vI rv4.2)]) R R R (A5T (t:=D5 rv4.1 7 8 9) R R R R (A5T (t := .d (vI rv4.2)) R R R R (N0 tb R R R R R (I5 _ _ tb R (A3 R (eN (B8 ?_)))))))
  refine N3 (fun zz:Int × (List Int) × (List Int) × (List Int) × Int × Bool=>A4o F (A0O F t a K4 m4) lv x3 rv4 zz.1 zz.2.1 zz.2.2.1 zz.2.2.2.1 zz.2.2.2.2.1 zz.2.2.2.2.2=some r) (fun zz:Int × (List Int) × (List Int) × (List Int) × Int × Bool=>⟨[(3,.ref 0 7 0 0),(6,.ref 1 6 0 0),(7,.row 5 1 0 (lv).length),(8,.d (vI x)),(14,.d (vI rv4.2)),(46,.d (.arr 5 ((a).map D4.d))),(47,.d (vI (a.length:Int))),(48,.d (vI x3))],[bx 7 (.d (B0.d t)),bx 6 (D5 (A6.mk zz.1 zz.2.1 zz.2.2.1 zz.2.2.2.1 zz.2.2.2.2.1 zz.2.2.2.2.2) 2 3 4),F5 zz.2.1,F5 zz.2.2.1,F5 zz.2.2.2.1,F5 lv]⟩) ?_ ?_
  ·clear h
   rintro⟨y7,y8,y9,y10,y11,y12⟩ h
   dsimp only at h ⊢
   rw[A4o]at h
   refine E5 (I1 R R R (A0 R (R8 tb R R R R R R R R R R R R R ?_)))
   obtain⟨q,iq,h⟩:=H0 h
   refine A78 (g:=vI) (w:=lv) (v:=[rv4.2]) ([bx 7 (.d (B0.d t)),bx 6 (D5 (A6.mk y7 y8 y9 y10 y11 y12) 2 3 4),F5 y8,F5 y9,F5 y10,none,F5 [rv4.2]]) tb R R R R R R R R R R R iq R R R R R (A0j R R R (L5 (C3 (A1 ?_))))
   exact .inl ⟨(y7,y8,y9,y10,y11,y12,q),h,.vw (κ:=[0,1,2,3,4,7]) (vK (.cons R R (.cons R R B1I)) R)⟩
  refine qG (A0 R ?_)
  refine Q0 R R R R ?_ ?_
  ·intro c6
   replace h:=H1 c6 h
   refine eN (A9 R (E5 (A9n tb R R R R R R R R R (I5 _ _ tb R (eN ?_)))))
   exact .inl ⟨(rv4.1.now,rv4.1.zones,rv4.1.holder,rv4.1.squibs,rv4.1.siren,rv4.1.storm),h,.vw (κ:=[0,1,7,8,9,5]) (vK (.cons R R (.cons R R B1I)) R)⟩
  intro c6
  replace h:=J0 c6 h
  refine eN (A5 R (C0 (A1 ?_)))
  exact .inl ⟨(y,y2,y3,y4,y5,y6),h,.vw (κ:=[0,1,2,3,4,5]) (vK (.cons R R (.cons R R B1I)) R)⟩
 intro c5
 replace h:=J0 (nL c5) h
 refine eN (B8 (A5 R (I4 (C8 (C8 ?_)))))
 subst hK4
 refine F3 (A1 (qG (A9n tb R R R R R R R R R (I1 R R R (I5 _ _ tb R (A0j R R R (A3 R (eN (C9 ?_)))))))))
 obtain rfl:=sI h
 exact f2 [2,3,4,5] B1I R (.cons (rc tb R) (.cons (.tmp 7) (.cons (.tmp 8) .nil))) R
theorem B5N {F:Nat} {t:B0} {o:A6} {a:(List D4)} {r:(A6 × (List Int) × Int)} (h:A7z F t o a=some r):PC Tryz.prog 7 [B0.d t,A6.d o,.arr 5 ((a).map D4.d)] (.tup [A6.d r.1,.arr 1 ((r.2.1).map vI),.v (.int .i64 r.2.2)]):=(A70 h).toPC (.tupL (.cons (.aggL (.cons (.d _) (.cons (.row rfl rfl) (.cons (.row rfl rfl) (.cons (.row rfl rfl) (.cons (.d _) (.cons (.d _) .nil))))))) (.cons (.row rfl rfl) (.cons (.d _) .nil))))
def A3u (F:Nat) (x:Int) (y:Int):Option (Int × Int):=some ((IntKind.u64.wrap ((IntKind.u64.wrap ((IntKind.u64.wrap ((I3 .u64 x 32)*(I3 .u64 y 32)))+(I3 .u64 (IntKind.u64.wrap ((IntKind.u64.wrap ((I3 .u64 x 32)*(A5a .u64 y 4294967295)))+(I3 .u64 (IntKind.u64.wrap ((A5a .u64 x 4294967295)*(A5a .u64 y 4294967295))) 32))) 32)))+(I3 .u64 (IntKind.u64.wrap ((A5a .u64 (IntKind.u64.wrap ((IntKind.u64.wrap ((I3 .u64 x 32)*(A5a .u64 y 4294967295)))+(I3 .u64 (IntKind.u64.wrap ((A5a .u64 x 4294967295)*(A5a .u64 y 4294967295))) 32))) 4294967295)+(IntKind.u64.wrap ((A5a .u64 x 4294967295)*(I3 .u64 y 32))))) 32))),(IntKind.u64.wrap (x*y)))
theorem A6T {F:Nat} {x:Int} {y:Int} {r:(Int × Int)} (h:A3u F x y=some r):PC Tryz.prog 119 [.v (.int .u64 x),.v (.int .u64 y)] (.tup [.v (.int .u64 r.1),.v (.int .u64 r.2)]):=by
 rw[A3u]at h
 refine SC.of_sw Tryz.func119 R R R ?_
 dsimp only[M1,List.map]
 refine qG (A3 R (A3 R (eN (qG (A0 R (B43 R R R R (A3 R (eN (qG (A0 R (A6P R R dM R R (A3 R (eN (qG (A0 R (B43 R R R R (A3 R (eN (qG (A0 R (A6P R R dM R R (A3 R (eN (qG (A0 R (A0 R (A0L R R R R (A3 R (eN (qG (A0 R (A0 R (A0L R R R R (A0 R (A6P R R dM R R (H4 R (A3 R (eN (qG (A0 R (B43 R R R R (A3 R (eN (qG ?_))))))))))))))))))))))))))))))))))))))))))))
 refine A0 R (A6P R R dM R R (A3 R (eN (qG (A0 R (A0 R (A0 R (A0L R R R R (H4 R (A3 R (eN (qG (A0 R (A0 R (A0L R R R R (A0 R (H4 R (A0 R (A6P R R dM R R (H4 R (A3 R (eN (qG (A0 R (A0 R (A0L R R R R (A3 R (eN (C9 ?_)))))))))))))))))))))))))))))
 obtain rfl:=sI h
 exact Q2 (t := .d (.tup [.v (.int .u64 (IntKind.u64.wrap ((IntKind.u64.wrap ((IntKind.u64.wrap ((I3 .u64 x 32)*(I3 .u64 y 32)))+(I3 .u64 (IntKind.u64.wrap ((IntKind.u64.wrap ((I3 .u64 x 32)*(A5a .u64 y 4294967295)))+(I3 .u64 (IntKind.u64.wrap ((A5a .u64 x 4294967295)*(A5a .u64 y 4294967295))) 32))) 32)))+(I3 .u64 (IntKind.u64.wrap ((A5a .u64 (IntKind.u64.wrap ((IntKind.u64.wrap ((I3 .u64 x 32)*(A5a .u64 y 4294967295)))+(I3 .u64 (IntKind.u64.wrap ((A5a .u64 x 4294967295)*(A5a .u64 y 4294967295))) 32))) 4294967295)+(IntKind.u64.wrap ((A5a .u64 x 4294967295)*(I3 .u64 y 32))))) 32)))),.v (.int .u64 (IntKind.u64.wrap (x*y)))])) R R R (.cons (.tmp 4) (.cons (.tmp 5) .nil))
def A4z (F:Nat) (x:Int) (y:Int):Option (Int × Int):=(A3u F x y).bind fun rv=>some (rv.1,rv.2)
theorem A7S {F:Nat} {x:Int} {y:Int} {r:(Int × Int)} (h:A4z F x y=some r):PC Tryz.prog 97 [.v (.int .u64 x),.v (.int .u64 y)] (.tup [.v (.int .u64 r.1),.v (.int .u64 r.2)]):=by
 rw[A4z]at h
 refine SC.of_sw Tryz.func97 R R R ?_
 dsimp only[M1,List.map]
 refine qG (A3 R (A3 R (eN (B8 (A5 R (C0 (A1 (qG (A0 R (A0 R ?_))))))))))
 obtain⟨rv,k,h⟩:=H0 h
 refine N5 (A6T k) eK R R R R (A0 R (S3 (t := .v (.int .u64 rv.1)) R R R R (S3 (t := .v (.int .u64 rv.2)) R R R R (A3 R (A3 R (eN (qG (A0 R (A0 R (A3 R (A3 R (eN (C9 ?_)))))))))))))
 obtain rfl:=sI h
 exact Q2 (t := .d (.tup [.v (.int .u64 rv.1),.v (.int .u64 rv.2)])) R R R (.cons (.tmp 4) (.cons (.tmp 5) .nil))
def X6 (F:Nat)  (K:(List Int)→Int→Option (List Int)):Nat→(List Int)→Int→Option (List Int)
 | 0,_,_=>none
 | n+1,newslice,nv=>if nv<(newslice.length:Int)then((B5n nv newslice.length).bind fun p=>if newslice.length=p then(none)else((B5n nv newslice.length).bind fun p3=>(B0W newslice p (newslice.length-p) (newslice.take p3)).bind fun newslice2=>X6 F K n newslice2 (W (nv+((min p3 (newslice2.length-p):Nat):Int)))))else(K newslice nv)
def A05 (F:Nat) (x:(List Int)) (count:Int):Option (List Int):=if count<0 then(none)else((A4z F (IntKind.u64.wrap (x.length:Int)) (IntKind.u64.wrap count)).bind fun rv=>if 0<rv.1 then(none)else(if 9223372036854775807<rv.2 then(none)else((B5m (W rv.2)).bind fun q=>(B0W (List.replicate q (0:Int)) 0 (List.replicate q (0:Int)).length x).bind fun q2=>X6 F (fun(newslice:(List Int)) (nv:Int)=>some newslice) F q2 ((min x.length q2.length:Nat):Int))))
theorem A1k {F:Nat} {x:(List Int)} {count:Int} {r:(List Int)} (h:A05 F x count=some r):SCR Tryz.prog 58 (List.map T.d [.arr 1 ((x).map vI),.v (.int .i64 count)]) [] (.row 0 1 0 (r).length) (List.map some [(lvI r)]):=by
 rw[A05]at h
 refine SC.of_sw Tryz.func58 R R R ?_
 dsimp only[M1,List.map]
 refine qG (A3 R (eN (B8 (qG (A0 R ?_)))))
 refine G8 R R R R ?_ ?_
 ·intro c
  replace h:=H1 c h
  cases h
 intro c
 replace h:=J0 (nL c) h
 refine eN (A5 R (C0 (A1 (qG (A0 R (H3 tb R (A4O (k2 := .u64) R R R R R R (A0 R (A4O (k2 := .u64) R R R R R R ?_)))))))))
 obtain⟨rv,k,h⟩:=H0 h
 refine N5 (A7S k) eK R R R R (A0 R (S3 (t := .v (.int .u64 rv.1)) R R R R (S3 (t := .v (.int .u64 rv.2)) R R R R (A3 R (A3 R (eN (B8 (qG (A0 R ?_)))))))))
 refine A1D R R R R ?_ ?_
 ·intro c2
  replace h:=H1 c2 h
  cases h
 intro c2
 replace h:=J0 (nL c2) h
 refine A0 R (A0 R ?_)
 refine A1D R R R R ?_ ?_
 ·intro c3
  replace h:=H1 c3 h
  cases h
 intro c3
 replace h:=J0 (nL c3) h
 refine C4 R (eN (A5 R (C0 (A1 (qG (A0 R (A4O (k2 := .i64) R R R R R R ?_)))))))
 obtain⟨q,iq,h⟩:=H0 h
 refine B2W (v:=(0:Int)) (g:=vI) tb R R R R R R R ((A83 iq).1) ((A83 iq).2) R R R R (A0j R R R (eN (qG (I1 R R R (A0 R ?_)))))
 obtain⟨q2,iq2,h⟩:=H0 h
 refine B6O (g:=vI) (w:=(List.replicate q (0:Int))) (v:=x) tb R R R R R R R ((A58 iq2).1) (A8W (fun _=>rfl)) ((A58 iq2).2) R R R ?_
 first | rw[A9A iq2] | skip
 refine A3 R (eN (B8 (D0 ?_)))
 obtain⟨K1,hK1,h⟩:∃ K,K=_∧X6 F K F q2 ((min x.length q2.length:Nat):Int)=some r:=⟨_,rfl,h⟩
 refine H6 (fun m st=>∃ (newslice:(List Int)) (nv:Int),X6 F K1 m newslice nv=some r∧st=⟨[(4,.d (.v (.slice none 0 0))),(7,.row 0 1 0 (newslice).length),(8,.d (vI nv))],[F5 newslice]⟩) (.prn [4,7,8] R) ⟨q2,((min x.length q2.length:Nat):Int),h,R⟩ ?_
 clear h
 rintro m1 st ⟨newslice,nv,h,rfl⟩
 cases m1 with
 | zero=>cases(show(none:Option (List Int))=some r from h)
 | succ m1 =>
 rw[X6]at h
 refine B8 (qG (A0 R (I1 R R R (A3y tb R R R R R ?_))))
 refine G8 R R R R ?_ ?_
 ·intro c4
  replace h:=H1 c4 h
  refine eN (A9 R (C0 (A1 (D0 (P5 kR (A0 R (I1 R R R (A0 R ?_))))))))
  obtain⟨p,ip,h⟩:=H0 h
  by_cases c5:newslice.length=p
  ·replace h:=H1 c5 h
   refine B26 tb R R R R R R ((A6v ip).1) c5 R R ?_
   cases h
  replace h:=J0 c5 h
  refine B36 tb R R R R R R ((A6v ip).1) (by have:=(A6v ip).2;omega) R R ?_
  refine I1 R R R (A0 R ?_)
  obtain⟨p3,ip3,h⟩:=H0 h
  refine B35 tb R R R R R R ((A6v ip3).1) ((A6v ip3).2) R R ?_
  obtain⟨newslice2,inewslice2,h⟩:=H0 h
  refine B6P (g:=vI) (w:=newslice) tb R R R R R R R ((A58 inewslice2).1) (by have:=(A6v ip3).2;omega) (fun _=>A8W (fun _=>rfl)) ((A58 inewslice2).2) R R R ?_
  first | rw[A9A inewslice2] | skip
  refine H4 R (A3 R (F6 kR (C3 (A1 ?_))))
  exact⟨m1,_,lS,.prn [4,7,8] R,newslice2,(W (nv+((min p3 (newslice2.length-p):Nat):Int))),h,R⟩
 intro c4
 replace h:=J0 (nL c4) h
 refine eN (A5 R (I4 (C8 (C8 ?_))))
 subst hK1
 refine F3 (A1 (qG (I1 R R R (A0j R R R (eN (C9 ?_))))))
 obtain rfl:=sI h
 exact f2 [0] O7 R (.cons (.tmp 4) .nil) R
theorem B1M {F:Nat} {x:(List Int)} {count:Int} {r:(List Int)} (h:A05 F x count=some r):PC Tryz.prog 58 [.arr 1 ((x).map vI),.v (.int .i64 count)] (.arr 1 ((r).map vI)):=(A1k h).toPC (.row rfl rfl)
def A6w (F:Nat) (p:B0):Option (A6 × Int):=(A1Y F p).bind fun rv=>if rv.2.2=0 then((A05 F [(-1)] (p.people.length:Int)).bind fun rv2=>(A05 F [(-1)] (p.keys.length:Int)).bind fun rv3=>(B5m (p.squibs.length:Int)).bind fun q=>some ((A6.mk 0 rv2 rv3 (List.replicate q (0:Int)) (-1) false),0))else(some ((A6.mk 0 ([]:List Int) ([]:List Int) ([]:List Int) 0 false),rv.2.2))
theorem A6L {F:Nat} {p:B0} {r:(A6 × Int)} (h:A6w F p=some r):SCR Tryz.prog 29 (List.map T.d [B0.d p]) [] (.tup [D5 r.1 0 1 2,.d (.v (.int .i64 r.2))]) (List.map some [(lvI r.1.zones),(lvI r.1.holder),(lvI r.1.squibs)]):=by
 rw[A6w]at h
 refine SC.of_sw Tryz.func29 R R R ?_
 dsimp only[M1,List.map]
 refine qG (M4 R (N0 tb R R R R R (A3 R (eN (B8 (qG (B7 (y:=B0.d p) tb R ?_)))))))
 obtain⟨rv,k,h⟩:=H0 h
 refine N5 (A3B k) eK R R R R (A0 R (S3 (t:=vI rv.1) R R R R (S3 (t:=vI rv.2.1) R R R R (S3 (t:=vI rv.2.2) R R R R (A3 R (A3 R (A3 R (eN (qG (A0 R ?_))))))))))
 refine T6 R R R R ?_ ?_
 ·intro c
  replace h:=J0 c h
  refine eN (A9 R (qG (L4 (v := .d (.agg [vI 0,.v (.slice none 0 0),.v (.slice none 0 0),.v (.slice none 0 0),vI 0,.v (.bool false)])) tb R R (List.cons_ne_nil _ _) R R R R R R (A0 R (I5 _ _ tb R (A3 R (eN ?_)))))))
  refine SW.own (ts':=[(2,.ref 1 6 0 0),(3,.d (vI rv.2.2))]) (L':=[bx 7 (.d (B0.d p)),bx 6 (.agg [.d (vI 0),.row 2 1 0 (([]:List Int)).length,.d (.v (.slice none 0 0)),.d (.v (.slice none 0 0)),.d (vI 0),.d (.v (.bool false))])]) 1 R R (.cons (.same _) (.cons (.same _) .nil)) (.same (.cons R (.cons (.aggDL (.cons (.same _) (.cons .nil (.cons (.same _) (.cons (.same _) (.cons (.same _) (.cons (.same _) .nil))))))) .nil) .nil)) ?_
  simp only[List.cons_append,List.nil_append]
  refine SW.own (ts':=[(2,.ref 1 6 0 0),(3,.d (vI rv.2.2))]) (L':=[bx 7 (.d (B0.d p)),bx 6 (.agg [.d (vI 0),.row 2 1 0 (([]:List Int)).length,.row 3 1 0 (([]:List Int)).length,.d (.v (.slice none 0 0)),.d (vI 0),.d (.v (.bool false))]),F5 ([]:List Int)]) 1 R R (.cons (.same _) (.cons (.same _) .nil)) (.same (.cons R (.cons (.aggL (.cons (.same _) (.cons (.same _) (.cons .nil (.cons (.same _) (.cons (.same _) (.cons (.same _) .nil))))))) .nil) (.same .nil))) ?_
  simp only[List.cons_append,List.nil_append]
  refine SW.own (ts':=[(2,.ref 1 6 0 0),(3,.d (vI rv.2.2))]) (L':=[bx 7 (.d (B0.d p)),bx 6 (D5 (A6.mk 0 ([]:List Int) ([]:List Int) ([]:List Int) 0 false) 2 3 4),F5 ([]:List Int),F5 ([]:List Int)]) 1 R R (.cons (.same _) (.cons (.same _) .nil)) (.same (.cons R (.cons (.aggL (.cons (.same _) (.cons (.same _) (.cons (.same _) (.cons .nil (.cons (.same _) (.cons (.same _) .nil))))))) .nil) (.same (.same .nil)))) ?_
  simp only[List.cons_append,List.nil_append]
  refine C9 (B1 ?_)
  obtain rfl:=sI h
  exact f2 [2,3,4] V8 R (.cons (rc tb R) (.cons (.tmp 3) .nil)) R
 intro c
 replace h:=H1 c h
 refine eN (A5 R (C0 (A1 (qG (R8 tb R R R R R R R R R R R R R (A0j R R R (eN (B8 (P5 kR (I1 R R R (C7 tb R (B7 (y := .arr 2 ((p.people).map E3.d)) tb R (H3 tb R ?_)))))))))))))
 obtain⟨rv2,k2,h⟩:=H0 h
 refine A5S (t' := .row 3 1 0 (rv2).length) (news':=[(lvI rv2)]) (A1k k2) R ((.row (fun _=>rfl) .nil)) eK R R ((.cons (.row R R) (dL .nil))) R ((.row .nil)) R R R ?_
 refine I1 R R R (C7 tb R (B7 (y := .arr 1 ((p.keys).map vS)) tb R (H3 tb R ?_)))
 obtain⟨rv3,k3,h⟩:=H0 h
 refine A5S (t' := .row 4 1 0 (rv3).length) (news':=[(lvI rv3)]) (A1k k3) R ((.row (fun _=>rfl) .nil)) eK R R ((.cons (.row R R) (dL .nil))) R ((.row .nil)) R R R ?_
 refine C7 tb R (B7 (y := .arr 6 ((p.squibs).map C6.d)) tb R (H3 tb R ?_))
 obtain⟨q,iq,h⟩:=H0 h
 refine B2W (v:=(0:Int)) (g:=vI) tb R R R R R R R ((A83 iq).1) ((A83 iq).2) R R R R (L4 (v:=D5 (A6.mk 0 rv2 rv3 (List.replicate q (0:Int)) (-1) false) 3 4 5) tb R R (List.cons_ne_nil _ _) R R R R R R (I5 _ _ tb R (A3 R (F6 kR (A1 (C9 ?_))))))
 obtain rfl:=sI h
 exact f2 [3,4,5] V8 R (.cons (rc tb R) (.cons (.tmp 3) .nil)) R
theorem B52 {F:Nat} {p:B0} {r:(A6 × Int)} (h:A6w F p=some r):PC Tryz.prog 29 [B0.d p] (.tup [A6.d r.1,.v (.int .i64 r.2)]):=(A6L h).toPC (.tupL (.cons (.aggL (.cons (.d _) (.cons (.row rfl rfl) (.cons (.row rfl rfl) (.cons (.row rfl rfl) (.cons (.d _) (.cons (.d _) .nil))))))) (.cons (.d _) .nil)))
def A4m (F:Nat) :Option (Bool × Int):=some (false,0)
def A2f (F:Nat) (squib:Int) (rv4:(Int × B0)) (e:E9) (K:Int→Option (Bool × Int)):Nat→Int→Option (Bool × Int)
 | 0,_=>none
 | n+1,x=>if x<(rv4.2.squibs.length:Int)then((P7 rv4.2.squibs x).bind fun e2=>if(W ((W ((max (max (W (e.F8-e2.A0o)) (W (e2.A0o-e.F7))) 0)*(max (max (W (e.F8-e2.A0o)) (W (e2.A0o-e.F7))) 0)))+(W ((max (max (W (e.G0-e2.A0p)) (W (e2.A0p-e.F9))) 0)*(max (max (W (e.G0-e2.A0p)) (W (e2.A0p-e.F9))) 0)))))<(W (e2.clear*e2.clear))then(if x=squib then(some (true,0))else(A2f F squib rv4 e K n (W (x+1))))else(A2f F squib rv4 e K n (W (x+1))))else(K x)
def A5E (F:Nat) (p:B0) (zone:Int) (squib:Int):Option (Bool × Int):=(A1t F p zone).bind fun rv4=>if rv4.1<0 then(A4m F)else((P7 rv4.2.zones rv4.1).bind fun e=>A2f F squib rv4 e (fun(x:Int)=>A4m F) F 0)
def A4n (F:Nat) :Option (Bool × Int):=some (false,4)
def A9e (F:Nat) (p:B0) (zone:Int) (squib:Int):Option (Bool × Int):=(A1Y F p).bind fun rv=>if rv.2.2=0 then((T5 F zone 0 (W ((p.zones.length:Int)-1))).bind fun rv2=>if rv2=true then(A4n F)else((T5 F squib 0 (W ((p.squibs.length:Int)-1))).bind fun rv3=>if rv3=true then(A4n F)else(A5E F p zone squib)))else(some (false,rv.2.2))
theorem B1m {F:Nat} {p:B0} {zone:Int} {squib:Int} {r:(Bool × Int)} (h:A9e F p zone squib=some r):PC Tryz.prog 32 [B0.d p,.v (.int .i64 zone),.v (.int .i64 squib)] (.tup [.v (.bool r.1),.v (.int .i64 r.2)]):=by
 rw[A9e]at h
 refine SC.of_swm Tryz.func32 R R R ?_
 dsimp only[M1,List.map]
 refine L9 ?_
 refine O1 fun df=>?_
 refine E5 (M4 R (M4 R (N0 tb R R R R R (N0 tb R R R R R (eN (L9 ?_))))))
 refine O1 fun df=>?_
 refine E5 (B7 (y:=B0.d p) tb R ?_)
 obtain⟨rv,k,h⟩:=H0 h
 refine N5 (A3B k) eK R R R R (A0 R (S3 (t:=vI rv.1) R R R R (S3 (t:=vI rv.2.1) R R R R (S3 (t:=vI rv.2.2) R R R R (A3 R (A3 R (A3 R (eN (L9 ?_)))))))))
 refine A2z (fun zz:Unit=>A5E F p zone squib=some r) (fun zz:Unit=>⟨[(1,.d (vI zone)),(3,.ref 0 7 0 0),(5,.ref 1 1 0 0),(6,.ref 2 1 0 0),(7,.ref 3 1 0 0)],[bx 7 (.d (B0.d p)),c1 (vI squib),c1 (.v (.bool false)),c1 (vI 0)]⟩) ?_ ?_
 ·clear h
  rintro⟨⟩ h
  rw[A5E]at h
  refine L9 ?_
  refine A2z (fun zz:Unit=>A4m F=some r) (fun zz:Unit=>⟨[(6,.ref 0 1 0 0),(7,.ref 1 1 0 0)],[c1 (.v (.bool false)),c1 (vI 0)]⟩) ?_ ?_
  ·clear h
   rintro⟨⟩ h
   rw[A4m]at h
   refine O1 fun df=>?_
   refine qG (I5 _ _ tb R (I5 _ _ tb R (eN (C9 ?_))))
   obtain rfl:=sI h
   exact Q2 (t := .d (.tup [.v (.bool false),vI 0])) R R R (.cons (rc tb R) (.cons (rc tb R) .nil))
  refine L9 ?_
  refine O1 fun df=>?_
  refine E5 (B7 (y:=B0.d p) tb R (A0 R ?_))
  obtain⟨rv4,k4,h⟩:=H0 h
  refine A0n (t' := .fn (.func 83) [] [.ref 4 1 0 0,.ref 5 7 0 0]) (news':=[⟨1,[.d (vI rv4.1)]⟩,⟨7,[.d (B0.d rv4.2)]⟩]) (A2s k4) eK R R R ((.cons R (.cons R .nil))) R R R (eN (A1C ?_))
  refine A64 eK Tryz.func83 R R R R R R fun lb=>?_
  simp only[M1,Nat.zero_add,Nat.reduceAdd]
  refine J4 (J4 (Q4 (O0 (B7 (y:=vI rv4.1) tb R ?_))))
  refine G8 R R R R ?_ ?_
  ·intro c4
   replace h:=H1 c4 h
   refine I9 (D6 (Z9 R (A4x (A0N ?_))))
   refine⟨R,[bx 7 (.d (B0.d p)),c1 (vI squib),c1 (.v (.bool false)),c1 (vI 0),c1 (vI rv4.1),bx 7 (.d (B0.d rv4.2))],[0,1,2,3,4,5],(vK (.cons R R (.cons R R (.cons R R (.cons R R (.cons R R (.cons R R .nil)))))) R),?_⟩
   refine C3 (A1 ?_)
   exact .inl ⟨(),h,.vw (κ:=[2,3]) (vK (.cons R R (.cons R R .nil)) R)⟩
  intro c4
  replace h:=J0 (nL c4) h
  refine I9 (D6 (R1 R (T8 (D6 (J4 (Q4 (O0 (C7 tb R (B7 (y := .arr 8 ((rv4.2.zones).map E9.d)) tb R (B7 (y:=vI rv4.1) tb R ?_))))))))))
  obtain⟨e,ie,h⟩:=H0 h
  refine J9 tb (S0 ie) (P6 ie) R (M0 tb R (H9 (y := .agg [vI e.F8,vI e.F7,vI e.G0,vI e.F9]) tb (Q6 (g:=E9.d) ie) R (N0 tb R R R R R (I5 _ _ tb R (I9 (D6 (J4 (Q4 (O0 (C7 tb R (B7 (y := .arr 6 ((rv4.2.squibs).map C6.d)) tb R (H3 tb R (A0 R (I9 (D6 (A1g ?_))))))))))))))))
  obtain⟨K4,hK4,h⟩:∃ K,K=_∧A2f F squib rv4 e K F 0=some r:=⟨_,rfl,h⟩
  refine A4S (fun m ph st=>∃ (x:Int),A2f F squib rv4 e K4 m x=some r∧ph=SX.norm∧st=⟨[(0,.d (.v (.func (.yield lb) #[] #[]))),(4,.ref 6 4 0 0),(18,.d (.arr 6 ((rv4.2.squibs).map C6.d))),(19,.d (vI (rv4.2.squibs.length:Int))),(20,.d (vI x))],[bx 7 (.d (B0.d p)),c1 (vI squib),c1 (.v (.bool false)),c1 (vI 0),c1 (vI rv4.1),bx 7 (.d (B0.d rv4.2)),bx 4 (.d (.agg [vI e.F8,vI e.F7,vI e.G0,vI e.F9]))]⟩) (.prn [0,4,18,19,20] R) ⟨0,h,R,R⟩ ?_
  clear h
  rintro m4 ph st ⟨x,h,rfl,rfl⟩
  cases m4 with
  | zero=>cases(show(none:Option (Bool × Int))=some r from h)
  | succ m4 =>
  rw[A2f]at h
  refine J4 (Q4 (O0 ?_))
  refine G8 R R R R ?_ ?_
  ·intro c5
   replace h:=H1 c5 h
   refine I9 (D6 (J4 (Z9 R (T8 (D6 (J4 (A1g (J4 (Q4 (O0 (A0 R ?_)))))))))))
   obtain⟨e2,ie2,h⟩:=H0 h
   refine J9 tb (S0 ie2) (P6 ie2) R (H9 (y:=C6.d e2) tb (Q6 (g:=C6.d) ie2) R (N0 tb R R R R R (A3 R (I5 _ _ tb R (I9 (D6 (J4 (A5Z (P5 kR (C7 tb R (C7 tb R (B7 (y:=vI e.F8) tb R (C7 tb R (C7 tb R (B7 (y:=vI e2.A0o) tb R (O6 R R R R (C7 tb R (C7 tb R (B7 (y:=vI e2.A0o) tb R (C7 tb R (C7 tb R (B7 (y:=vI e.F7) tb R (O6 R R R R ?_)))))))))))))))))))))))
   refine A4a R R R R R (C7 tb R (C7 tb R (B7 (y:=vI e.G0) tb R (C7 tb R (C7 tb R (B7 (y:=vI e2.A0p) tb R (O6 R R R R (C7 tb R (C7 tb R (B7 (y:=vI e2.A0p) tb R (C7 tb R (C7 tb R (B7 (y:=vI e.F9) tb R (O6 R R R R (A4a R R R R R (A3 R (A3 R (F6 kR (D6 (J4 (Q4 (O0 (A0 R (A0 R (A0L R R R R (A0 R (A0 R ?_)))))))))))))))))))))))))))
   refine A0L R R R R (H4 R (C7 tb R (B7 (y:=vI e2.clear) tb R (C7 tb R (B7 (y:=vI e2.clear) tb R (A0L R R R R ?_))))))
   refine G8 R R R R ?_ ?_
   ·intro c6
    replace h:=H1 c6 h
    refine A0 R (A0 R (A0 R (A47 ?_)))
    (with_reducible apply A4P (ys:=[vI x]));(iterate 7 exact rfl)
    dsimp only[B1t]
    refine E5 (A3 R (L5 ?_))
    refine⟨R,B0L ?_⟩
    refine D0 (qG (A0 R (B7 (y:=vI squib) tb R ?_)))
    refine Q0 R R R R ?_ ?_
    ·intro c7
     replace h:=H1 c7 h
     refine eN (A9 R (qG (I5 _ _ tb R (I5 _ _ tb R (eN (C9 (C5 ?_)))))))
     refine⟨[bx 7 (.d (B0.d p)),c1 (vI squib),c1 (.v (.bool true)),c1 (vI 0),c1 (vI rv4.1),bx 7 (.d (B0.d rv4.2)),bx 4 (.d (.agg [vI e.F8,vI e.F7,vI e.G0,vI e.F9])),bx 6 (.d (C6.d e2))],[0,1,2,3,4,5,6,7],(vK (.cons R R (.cons R R (.cons R R (.cons R R (.cons R R (.cons R R (.cons R R (.cons R R .nil)))))))) R),?_⟩
     with_reducible apply B2C
     refine O0 (M3 R R R (B5 R (I9 (D6 (Z9 R (A4x (A2A (A0N (A0N (A2A ?_))))))))))
     refine⟨R,[bx 7 (.d (B0.d p)),c1 (vI squib),c1 (.v (.bool true)),c1 (vI 0),c1 (vI rv4.1),bx 7 (.d (B0.d rv4.2))],[0,1,2,3,4,5],(vK (.cons R R (.cons R R (.cons R R (.cons R R (.cons R R (.cons R R .nil)))))) R),?_⟩
     refine C5 (B1 ?_)
     obtain rfl:=sI h
     exact Q2 (t := .d (.tup [.v (.bool true),vI 0])) R R R (.cons (rc tb R) (.cons (rc tb R) .nil))
    intro c7
    replace h:=J0 c7 h
    refine eN (A5 R (C0 (C3 ?_)))
    refine⟨[bx 7 (.d (B0.d p)),c1 (vI squib),c1 (.v (.bool false)),c1 (vI 0),c1 (vI rv4.1),bx 7 (.d (B0.d rv4.2)),bx 4 (.d (.agg [vI e.F8,vI e.F7,vI e.G0,vI e.F9])),bx 6 (.d (C6.d e2))],[0,1,2,3,4,5,6,7],(vK (.cons R R (.cons R R (.cons R R (.cons R R (.cons R R (.cons R R (.cons R R (.cons R R .nil)))))))) R),?_⟩
    with_reducible apply A65
    refine O0 (M2 R R R (B5 R (I9 (D6 (R1 R (T8 (W6 (D6 (Q4 (O0 (H4 R (A0 R (I9 (D6 ?_))))))))))))))
    exact⟨m4,⟨[(0,.d (.v (.func (.yield lb) #[] #[]))),(4,.ref 6 4 0 0),(18,.d (.arr 6 ((rv4.2.squibs).map C6.d))),(19,.d (vI (rv4.2.squibs.length:Int))),(20,.d (vI (W (x+1))))],[bx 7 (.d (B0.d p)),c1 (vI squib),c1 (.v (.bool false)),c1 (vI 0),c1 (vI rv4.1),bx 7 (.d (B0.d rv4.2)),bx 4 (.d (.agg [vI e.F8,vI e.F7,vI e.G0,vI e.F9]))]⟩,lS,.vw (κ:=[0,1,2,3,4,5,6]) (vK (.cons R R (.cons R R (.cons R R (.cons R R (.cons R R (.cons R R (.cons R R .nil))))))) R),(W (x+1)),h,R,R⟩
   intro c6
   replace h:=J0 (nL c6) h
   refine A0 R (H7 4 R (C4 R (I9 (D6 (R1 R (T8 (W6 (D6 (Q4 (O0 (H4 R (A0 R (I9 (D6 ?_))))))))))))))
   exact⟨m4,⟨[(0,.d (.v (.func (.yield lb) #[] #[]))),(4,.ref 6 4 0 0),(18,.d (.arr 6 ((rv4.2.squibs).map C6.d))),(19,.d (vI (rv4.2.squibs.length:Int))),(20,.d (vI (W (x+1))))],[bx 7 (.d (B0.d p)),c1 (vI squib),c1 (.v (.bool false)),c1 (vI 0),c1 (vI rv4.1),bx 7 (.d (B0.d rv4.2)),bx 4 (.d (.agg [vI e.F8,vI e.F7,vI e.G0,vI e.F9]))]⟩,lS,.vw (κ:=[0,1,2,3,4,5,6]) (vK (.cons R R (.cons R R (.cons R R (.cons R R (.cons R R (.cons R R (.cons R R .nil))))))) R),(W (x+1)),h,R,R⟩
  intro c5
  replace h:=J0 (nL c5) h
  refine I9 (D6 (J4 (R1 R (A5Y (A06 (A06 ?_))))))
  subst hK4
  refine A2Q ?_
  refine⟨R,[bx 7 (.d (B0.d p)),c1 (vI squib),c1 (.v (.bool false)),c1 (vI 0),c1 (vI rv4.1),bx 7 (.d (B0.d rv4.2))],[0,1,2,3,4,5],(vK (.cons R R (.cons R R (.cons R R (.cons R R (.cons R R (.cons R R .nil)))))) R),?_⟩
  refine C3 (A1 ?_)
  exact .inl ⟨(),h,.vw (κ:=[2,3]) (vK (.cons R R (.cons R R .nil)) R)⟩
 refine O1 fun df=>?_
 refine D0 (qG (A0 R ?_))
 refine T6 R R R R ?_ ?_
 ·intro c
  replace h:=J0 c h
  refine A3 R (eN (A9 R (qG (A0 R (I5 _ _ tb R (I5 _ _ tb R (eN (C9 (C5 (B1 ?_))))))))))
  obtain rfl:=sI h
  exact Q2 (t := .d (.tup [.v (.bool false),vI rv.2.2])) R R R (.cons (rc tb R) (.cons (rc tb R) .nil))
 intro c
 replace h:=H1 c h
 refine A3 R (eN (A5 R (B8 ?_)))
 refine N3 (fun zz:Unit=>A4n F=some r) (fun zz:Unit=>⟨[(1,.d (vI zone)),(3,.ref 0 7 0 0),(5,.ref 1 1 0 0),(6,.ref 2 1 0 0),(7,.ref 3 1 0 0),(22,.d (.v (.bool true)))],[bx 7 (.d (B0.d p)),c1 (vI squib),c1 (.v (.bool false)),c1 (vI 0)]⟩) ?_ ?_
 ·clear h
  rintro⟨⟩ h
  rw[A4n]at h
  refine A9 R (qG (I5 _ _ tb R (I5 _ _ tb R (eN (C9 (C5 (B1 ?_)))))))
  obtain rfl:=sI h
  exact Q2 (t := .d (.tup [.v (.bool false),vI 4])) R R R (.cons (rc tb R) (.cons (rc tb R) .nil))
 refine E5 (A0 R (C7 tb R (B7 (y := .arr 8 ((p.zones).map E9.d)) tb R (H3 tb R (O6 R R R R ?_)))))
 obtain⟨rv2,k2,h⟩:=H0 h
 refine H8 (P0 k2) eK R R R R ?_ ?_
 ·intro c2
  replace h:=H1 c2 h
  refine A0 R (H7 6 R (B5 R (A3 R (eN ?_))))
  exact .inl ⟨(),h,.prn [1,3,5,6,7,22] R⟩
 intro c2
 replace h:=X9 c2 h
 refine A0 R (B7 (y:=vI squib) tb R (C7 tb R (B7 (y := .arr 6 ((p.squibs).map C6.d)) tb R (H3 tb R (O6 R R R R ?_)))))
 obtain⟨rv3,k3,h⟩:=H0 h
 refine H8 (P0 k3) eK R R R R ?_ ?_
 ·intro c3
  replace h:=H1 c3 h
  refine C4 R (A3 R (eN ?_))
  exact .inl ⟨(),h,.prn [1,3,5,6,7,22] R⟩
 intro c3
 replace h:=X9 c3 h
 refine C4 R (A3 R (eN (.inr (A5 R (C0 (C3 (A1 ?_)))))))
 exact .inl ⟨(),h,.prn [1,3,5,6,7] R⟩
def Z0 (F:Nat) (a:A4) (b:A4):Option Int:=some (W (a.squib-b.squib))
theorem A1e {F:Nat} {a:A4} {b:A4} {r:Int} (h:Z0 F a b=some r):PC Tryz.prog 47 [A4.d a,A4.d b] (.v (.int .i64 r)):=by
 rw[Z0]at h
 refine SC.of_sw Tryz.func47 R R R ?_
 dsimp only[M1,List.map]
 refine qG (M4 R (M4 R (A3 R (eN (qG (C7 tb R (B7 (y:=vI a.squib) tb R (C7 tb R (B7 (y:=vI b.squib) tb R (O6 R R R R (A3 R (eN (C9 ?_)))))))))))))
 obtain rfl:=sI h
 exact f1 4 R
def G3 (F:Nat) (a:Int) (K:(List A4)→Int→Option (List A4)):Nat→(List A4)→Int→Option (List A4)
 | 0,_,_=>none
 | n+1,data3,j=>if a<j then((P7 data3 j).bind fun e=>(P7 data3 (W (j-1))).bind fun e2=>(Z0 F e e2).bind fun rv=>if rv<0 then((A4g data3 j e2).bind fun data4=>(P7 data4 (W (j-1))).bind fun e3=>(A4g data4 (W (j-1)) e).bind fun data5=>G3 F a K n data5 (W (j-1)))else(K data3 j))else(K data3 j)
def E6 (F:Nat) (a:Int) (b:Int) (K:(List A4)→Int→Option (List A4)):Nat→(List A4)→Int→Option (List A4)
 | 0,_,_=>none
 | n+1,data2,i=>if i<b then(G3 F a (fun(data3:(List A4)) (j:Int)=>E6 F a b K n data3 (W (i+1))) F data2 i)else(K data2 i)
def G1 (F:Nat) (data:(List A4)) (a:Int) (b:Int):Option (List A4):=E6 F a b (fun(data2:(List A4)) (i:Int)=>some data2) F data (W (a+1))
theorem Q8 {F:Nat} {data:(List A4)} {a:Int} {b:Int} {r:(List A4)} (h:G1 F data a b=some r):SCR Tryz.prog 109 [.row 0 2 0 (data).length,.d (.v (.int .i64 a)),.d (.v (.int .i64 b)),.d (.v (.func (.func 47) #[] #[]))] [A8 data] (.d (.tup [])) [A8 r]:=by
 rw[G1]at h
 refine SC.of_sw Tryz.func109 R R R ?_
 dsimp only[M1,List.map]
 refine qG (A0 R (H4 R (A3 R (eN (D0 ?_)))))
 obtain⟨K4,hK4,h⟩:∃ K,K=_∧E6 F a b K F data (W (a+1))=some r:=⟨_,rfl,h⟩
 refine H6 (fun m st=>∃ (data2:(List A4)) (i:Int),E6 F a b K4 m data2 i=some r∧st=⟨[(0,.row 0 2 0 (data2).length),(1,.d (vI a)),(2,.d (vI b)),(3,.d (.v (.func (.func 47) #[] #[]))),(8,.d (vI i))],[A8 data2]⟩) (.prn [0,1,2,3,8] R) ⟨data,(W (a+1)),h,R⟩ ?_
 clear h
 rintro m4 st ⟨data2,i,h,rfl⟩
 cases m4 with
 | zero=>cases(show(none:Option (List A4))=some r from h)
 | succ m4 =>
 rw[E6]at h
 refine B8 (qG (A0 R (A0 R ?_)))
 refine G8 R R R R ?_ ?_
 ·intro c
  replace h:=H1 c h
  refine eN (A9 R (C0 (A1 (B8 (D0 (qG (A0 R (A3 R (eN (D0 ?_))))))))))
  obtain⟨K5,hK5,h⟩:∃ K,K=_∧G3 F a K F data2 i=some r:=⟨_,rfl,h⟩
  refine H6 (fun m st=>∃ (data3:(List A4)) (j:Int),G3 F a K5 m data3 j=some r∧st=⟨[(0,.row 0 2 0 (data3).length),(1,.d (vI a)),(2,.d (vI b)),(3,.d (.v (.func (.func 47) #[] #[]))),(8,.d (vI i)),(9,.d (vI j))],[A8 data3]⟩) (.prn [0,1,2,3,8,9] R) ⟨data2,i,h,R⟩ ?_
  clear h
  rintro m5 st ⟨data3,j,h,rfl⟩
  cases m5 with
  | zero=>cases(show(none:Option (List A4))=some r from h)
  | succ m5 =>
  rw[G3]at h
  refine B8 (B8 (P5 kR (A0 R (A0 R ?_))))
  refine A1D R R R R ?_ ?_
  ·intro c2
   replace h:=H1 c2 h
   refine A0 R (A0 R (I1 R R R (A0 R ?_)))
   obtain⟨e,ie,h⟩:=H0 h
   refine Q5 tb R R R R R R (S0 ie) (ix1 ie) R R ?_
   refine V2 (y:=A4.d e) tb R R R R (Q6 (g:=fun a=>T.d (A4.d a)) ie) R R R R ?_
   refine I1 R R R (A0 R (O6 R R R R ?_))
   obtain⟨e2,ie2,h⟩:=H0 h
   refine Q5 tb R R R R R R (S0 ie2) (ix1 ie2) R R ?_
   refine V2 (y:=A4.d e2) tb R R R R (Q6 (g:=fun a=>T.d (A4.d a)) ie2) R R R R ?_
   obtain⟨rv,k,h⟩:=H0 h
   refine N5 (A1e k) eK R R R R ?_
   refine G8 R R R R ?_ ?_
   ·intro c3
    replace h:=H1 c3 h
    refine B5 R (F6 kR (A1 (A9 R (C0 (A1 (B8 (D0 (P5 kR (I1 R R R (A0 R (I1 R R R (A0 R (O6 R R R R (I1 R R R (A0 R (O6 R R R R (Q5 tb R R R R R R (S0 ie2) (ix1 ie2) R R ?_)))))))))))))))))
    refine V2 (y:=A4.d e2) tb R R R R (Q6 (g:=fun a=>T.d (A4.d a)) ie2) R R R R ?_
    refine I1 R R R (A0 R (Q5 tb R R R R R R (S0 ie) (ix1 ie) R R ?_))
    refine V2 (y:=A4.d e) tb R R R R (Q6 (g:=fun a=>T.d (A4.d a)) ie) R R R R ?_
    refine Q5 tb R R R R R R (S0 ie) (ix1 ie) R R ?_
    obtain⟨data4,idata4,h⟩:=H0 h
    refine A36 (a':=(e2:A4)) tb R R R R ie R R R R idata4 R R ?_
    dsimp only[List.set_cons_zero,List.set_cons_succ,D5,D8]
    first | rw[A0F idata4] | skip
    obtain⟨e3,ie3,h⟩:=H0 h
    refine Q5 tb R R R R R R (S0 ie3) (ix1 ie3) R R ?_
    obtain⟨data5,idata5,h⟩:=H0 h
    refine A36 (a':=(e:A4)) tb R R R R ie3 R R R R idata5 R R ?_
    dsimp only[List.set_cons_zero,List.set_cons_succ,D5,D8]
    first | rw[A0F idata5] | skip
    refine F6 kR (C3 (A1 (E5 (A0 R (O6 R R R R (A3 R (eN ?_)))))))
    exact⟨m5,_,lS,.prn [0,1,2,3,8,9] R,data5,(W (j-1)),h,R⟩
   intro c3
   replace h:=J0 (nL c3) h
   refine B5 R (F6 kR (A1 (A5 R (I4 (C8 (C8 ?_))))))
   subst hK5
   refine F3 (C3 (A1 (E5 (A0 R (H4 R (A3 R (eN ?_)))))))
   exact⟨m4,_,lS,.prn [0,1,2,3,8] R,data3,(W (i+1)),h,R⟩
  intro c2
  replace h:=J0 (nL c2) h
  refine A0 R (H7 12 R (C4 R (F6 kR (A1 (A5 R (I4 (C8 (C8 ?_))))))))
  subst hK5
  refine F3 (C3 (A1 (E5 (A0 R (H4 R (A3 R (eN ?_)))))))
  exact⟨m4,_,lS,.prn [0,1,2,3,8] R,data3,(W (i+1)),h,R⟩
 intro c
 replace h:=J0 (nL c) h
 refine eN (A5 R (I4 (C8 (C8 ?_))))
 subst hK4
 refine F3 ?_
 obtain rfl:=sI h
 exact M9 (L8 (t := .d (.tup [])) (L:=[A8 data2]) (κ:=[0]) R .nil (vK O7 R) ⟨R,R⟩)
def G9 (F:Nat) (a:Int) (b:Int) (nv:Int) (K:(List A4)→Int→Option (List A4)):Nat→(List A4)→Int→Option (List A4)
 | 0,_,_=>none
 | n+1,data2,i=>if i<nv then((P7 data2 (W (b+i))).bind fun e=>(P7 data2 (W (a+i))).bind fun e2=>(A4g data2 (W (a+i)) e).bind fun data3=>(P7 data3 (W (b+i))).bind fun e3=>(A4g data3 (W (b+i)) e2).bind fun data4=>G9 F a b nv K n data4 (W (i+1)))else(K data2 i)
def G7 (F:Nat) (data:(List A4)) (a:Int) (b:Int) (nv:Int):Option (List A4):=G9 F a b nv (fun(data2:(List A4)) (i:Int)=>some data2) F data 0
theorem O3 {F:Nat} {data:(List A4)} {a:Int} {b:Int} {nv:Int} {r:(List A4)} (h:G7 F data a b nv=some r):SCR Tryz.prog 129 [.row 0 2 0 (data).length,.d (.v (.int .i64 a)),.d (.v (.int .i64 b)),.d (.v (.int .i64 nv)),.d (.v (.func (.func 47) #[] #[]))] [A8 data] (.d (.tup [])) [A8 r]:=by
 rw[G7]at h
 refine SC.of_sw Tryz.func129 R R R ?_
 dsimp only[M1,List.map]
 refine qG (A3 R (eN (D0 ?_)))
 obtain⟨K2,hK2,h⟩:∃ K,K=_∧G9 F a b nv K F data 0=some r:=⟨_,rfl,h⟩
 refine H6 (fun m st=>∃ (data2:(List A4)) (i:Int),G9 F a b nv K2 m data2 i=some r∧st=⟨[(0,.row 0 2 0 (data2).length),(1,.d (vI a)),(2,.d (vI b)),(3,.d (vI nv)),(10,.d (vI i))],[A8 data2]⟩) (.prn [0,1,2,3,10] R) ⟨data,0,h,R⟩ ?_
 clear h
 rintro m2 st ⟨data2,i,h,rfl⟩
 cases m2 with
 | zero=>cases(show(none:Option (List A4))=some r from h)
 | succ m2 =>
 rw[G9]at h
 refine B8 (qG (A0 R (A0 R ?_)))
 refine G8 R R R R ?_ ?_
 ·intro c
  replace h:=H1 c h
  refine eN (A9 R (C0 (A1 (B8 (D0 (P5 kR (I1 R R R (A0 R (A0 R (H4 R (I1 R R R (A0 R (A0 R (H4 R (I1 R R R (A0 R (A0 R (H4 R ?_))))))))))))))))))
  obtain⟨e,ie,h⟩:=H0 h
  refine Q5 tb R R R R R R (S0 ie) (ix1 ie) R R ?_
  refine V2 (y:=A4.d e) tb R R R R (Q6 (g:=fun a=>T.d (A4.d a)) ie) R R R R ?_
  refine I1 R R R (A0 R (A0 R (H4 R ?_)))
  obtain⟨e2,ie2,h⟩:=H0 h
  refine Q5 tb R R R R R R (S0 ie2) (ix1 ie2) R R ?_
  refine V2 (y:=A4.d e2) tb R R R R (Q6 (g:=fun a=>T.d (A4.d a)) ie2) R R R R ?_
  refine Q5 tb R R R R R R (S0 ie2) (ix1 ie2) R R ?_
  obtain⟨data3,idata3,h⟩:=H0 h
  refine A36 (a':=(e:A4)) tb R R R R ie2 R R R R idata3 R R ?_
  dsimp only[List.set_cons_zero,List.set_cons_succ,D5,D8]
  first | rw[A0F idata3] | skip
  obtain⟨e3,ie3,h⟩:=H0 h
  refine Q5 tb R R R R R R (S0 ie3) (ix1 ie3) R R ?_
  obtain⟨data4,idata4,h⟩:=H0 h
  refine A36 (a':=(e2:A4)) tb R R R R ie3 R R R R idata4 R R ?_
  dsimp only[List.set_cons_zero,List.set_cons_succ,D5,D8]
  first | rw[A0F idata4] | skip
  refine F6 kR (C3 (A1 (E5 (A0 R (H4 R (A3 R (eN ?_)))))))
  exact⟨m2,_,lS,.prn [0,1,2,3,10] R,data4,(W (i+1)),h,R⟩
 intro c
 replace h:=J0 (nL c) h
 refine eN (A5 R (I4 (C8 (C8 ?_))))
 subst hK2
 refine F3 ?_
 obtain rfl:=sI h
 exact M9 (L8 (t := .d (.tup [])) (L:=[A8 data2]) (κ:=[0]) R .nil (vK O7 R) ⟨R,R⟩)
def H2 (F:Nat) (mv:Int) (K:(List A4)→Int→Int→Option (List A4)):Nat→(List A4)→Int→Int→Option (List A4)
 | 0,_,_,_=>none
 | n+1,data3,i2,j=>if i2=j then(K data3 i2 j)else(if j<i2 then((Y3 (G7 F data3 (W (mv-i2)) mv j) data3).bind fun rv=>H2 F mv K n rv (W (i2-j)) j)else((Y3 (G7 F data3 (W (mv-i2)) (W ((W (mv+j))-i2)) i2) data3).bind fun rv2=>H2 F mv K n rv2 i2 (W (j-i2))))
def I6 (F:Nat) (data:(List A4)) (a:Int) (mv:Int) (b:Int):Option (List A4):=H2 F mv (fun(data3:(List A4)) (i2:Int) (j:Int)=>(Y3 (G7 F data3 (W (mv-i2)) mv i2) data3).bind fun rv3=>some rv3) F data (W (mv-a)) (W (b-mv))
theorem T0 {F:Nat} {data:(List A4)} {a:Int} {mv:Int} {b:Int} {r:(List A4)} (h:I6 F data a mv b=some r):SCR Tryz.prog 126 [.row 0 2 0 (data).length,.d (.v (.int .i64 a)),.d (.v (.int .i64 mv)),.d (.v (.int .i64 b)),.d (.v (.func (.func 47) #[] #[]))] [A8 data] (.d (.tup [])) [A8 r]:=by
 rw[I6]at h
 refine SC.of_sw Tryz.func126 R R R ?_
 dsimp only[M1,List.map]
 refine qG (A0 R (A0 R (O6 R R R R (A3 R (eN (qG (A0 R (A0 R (O6 R R R R (A3 R (eN (B8 (D0 ?_)))))))))))))
 obtain⟨K3,hK3,h⟩:∃ K,K=_∧H2 F mv K F data (W (mv-a)) (W (b-mv))=some r:=⟨_,rfl,h⟩
 refine H6 (fun m st=>∃ (data3:(List A4)) (i2:Int) (j:Int),H2 F mv K3 m data3 i2 j=some r∧st=⟨[(0,.row 0 2 0 (data3).length),(2,.d (vI mv)),(4,.d (.v (.func (.func 47) #[] #[]))),(10,.d (vI i2)),(11,.d (vI j))],[A8 data3]⟩) (.prn [0,2,4,10,11] R) ⟨data,(W (mv-a)),(W (b-mv)),h,R⟩ ?_
 clear h
 rintro m3 st ⟨data3,i2,j,h,rfl⟩
 cases m3 with
 | zero=>cases(show(none:Option (List A4))=some r from h)
 | succ m3 =>
 rw[H2]at h
 refine B8 (qG (A0 R (A0 R ?_)))
 refine T6 R R R R ?_ ?_
 ·intro c
  replace h:=J0 c h
  refine eN (A9 R (C0 (A1 (D0 (qG (A0 R (A0 R ?_)))))))
  refine A1D R R R R ?_ ?_
  ·intro c2
   replace h:=H1 c2 h
   refine eN (A9 R (qG (I1 R R R (A0 R (A0 R (O6 R R R R (A0 R (A0 R (A0 R ?_)))))))))
   obtain⟨rv,k,h⟩:=H0 h
   refine G5 (t' := .d (.tup [])) (ls:=[A8 rv]) (news:=[]) ([0]) ([A8 rv]) (O3 (F4 k).1) eK R (.inl ⟨R,R,R⟩) R R R R A14 R R R ((.row .nil)) .nil R R R R ?_
   first | (dsimp only[D5,D8];rw[← (F4 k).2]) | rw[← (F4 k).2] | skip
   refine eN (E5 (A0 R (A0 R (O6 R R R R (A3 R (L5 (C3 (A1 ?_))))))))
   exact⟨m3,_,lS,.prn [0,2,4,10,11] R,rv,(W (i2-j)),j,h,R⟩
  intro c2
  replace h:=J0 (nL c2) h
  refine eN (A5 R (qG (I1 R R R (A0 R (A0 R (O6 R R R R (A0 R (A0 R (H4 R (A0 R (O6 R R R R (A0 R (A0 R ?_)))))))))))))
  obtain⟨rv2,k2,h⟩:=H0 h
  refine G5 (t' := .d (.tup [])) (ls:=[A8 rv2]) (news:=[]) ([0]) ([A8 rv2]) (O3 (F4 k2).1) eK R (.inl ⟨R,R,R⟩) R R R R A14 R R R ((.row .nil)) .nil R R R R ?_
  first | (dsimp only[D5,D8];rw[← (F4 k2).2]) | rw[← (F4 k2).2] | skip
  refine eN (E5 (A0 R (A0 R (O6 R R R R (A3 R (L5 (C3 (A1 ?_))))))))
  exact⟨m3,_,lS,.prn [0,2,4,10,11] R,rv2,i2,(W (j-i2)),h,R⟩
 intro c
 replace h:=H1 c h
 refine eN (A5 R (I4 (C8 (C8 ?_))))
 subst hK3
 refine F3 (A1 (E5 (I1 R R R (A0 R (A0 R (O6 R R R R (A0 R (A0 R (A0 R ?_)))))))))
 obtain⟨rv3,k3,h⟩:=H0 h
 refine G5 (t' := .d (.tup [])) (ls:=[A8 rv3]) (news:=[]) ([0]) ([A8 rv3]) (O3 (F4 k3).1) eK R (.inl ⟨R,R,R⟩) R R R R A14 R R R ((.row .nil)) .nil R R R R ?_
 first | (dsimp only[D5,D8];rw[← (F4 k3).2]) | rw[← (F4 k3).2] | skip
 refine L5 ?_
 obtain rfl:=sI h
 exact M9 (L8 (t := .d (.tup [])) (L:=[A8 rv3]) (κ:=[0]) R .nil (vK O7 R) ⟨R,R⟩)
def E7 (F:Nat) (x2:Int) (K:(List A4)→Int→Option (List A4)):Nat→(List A4)→Int→Option (List A4)
 | 0,_,_=>none
 | n+1,t2,x4=>if x4<(W (x2-1))then((P7 t2 (W (x4+1))).bind fun e3=>(P7 t2 x4).bind fun e4=>(A4g t2 x4 e3).bind fun t3=>(P7 t3 (W (x4+1))).bind fun e5=>(A4g t3 (W (x4+1)) e4).bind fun t4=>E7 F x2 K n t4 (W (x4+1)))else(K t2 x4)
def D9 (F:Nat) (t:(List A4)) (o:Int) (K:Int→Int→Option (List A4)):Nat→Int→Int→Option (List A4)
 | 0,_,_=>none
 | n+1,x2,x3=>if x2<x3 then((P7 t (W (I3 .u64 (IntKind.u64.wrap (W (x2+x3))) 1))).bind fun e=>(P7 t o).bind fun e2=>(Z0 F e e2).bind fun rv2=>if rv2<0 then(D9 F t o K n (W ((W (I3 .u64 (IntKind.u64.wrap (W (x2+x3))) 1))+1)) x3)else(D9 F t o K n x2 (W (I3 .u64 (IntKind.u64.wrap (W (x2+x3))) 1))))else(K x2 x3)
def E8 (F:Nat) (x6:Int) (K:(List A4)→Int→Option (List A4)):Nat→(List A4)→Int→Option (List A4)
 | 0,_,_=>none
 | n+1,t5,x8=>if x6<x8 then((P7 t5 (W (x8-1))).bind fun e8=>(P7 t5 x8).bind fun e9=>(A4g t5 x8 e8).bind fun t6=>(P7 t6 (W (x8-1))).bind fun e10=>(A4g t6 (W (x8-1)) e9).bind fun t7=>E8 F x6 K n t7 (W (x8-1)))else(K t5 x8)
def E0 (F:Nat) (t:(List A4)) (a:Int) (K:Int→Int→Option (List A4)):Nat→Int→Int→Option (List A4)
 | 0,_,_=>none
 | n+1,x6,x7=>if x6<x7 then((P7 t a).bind fun e6=>(P7 t (W (I3 .u64 (IntKind.u64.wrap (W (x6+x7))) 1))).bind fun e7=>(Z0 F e6 e7).bind fun rv3=>if rv3<0 then(E0 F t a K n x6 (W (I3 .u64 (IntKind.u64.wrap (W (x6+x7))) 1)))else(E0 F t a K n (W ((W (I3 .u64 (IntKind.u64.wrap (W (x6+x7))) 1))+1)) x7))else(K x6 x7)
def E1 (F:Nat) (t:(List A4)) (o:Int) (a:Int) (rv:Int) (K:Int→Int→Option (List A4)):Nat→Int→Int→Option (List A4)
 | 0,_,_=>none
 | n+1,x10,x11=>if x10<x11 then((P7 t (W ((W ((W ((W (I3 .u64 (IntKind.u64.wrap (W (o+rv))) 1))+a))-1))-(W (I3 .u64 (IntKind.u64.wrap (W (x10+x11))) 1))))).bind fun e11=>(P7 t (W (I3 .u64 (IntKind.u64.wrap (W (x10+x11))) 1))).bind fun e12=>(Z0 F e11 e12).bind fun rv4=>if rv4<0 then(E1 F t o a rv K n x10 (W (I3 .u64 (IntKind.u64.wrap (W (x10+x11))) 1)))else(E1 F t o a rv K n (W ((W (I3 .u64 (IntKind.u64.wrap (W (x10+x11))) 1))+1)) x11))else(K x10 x11)
def E2 (F:Nat) (t:(List A4)) (o:Int) (a:Int) (rv:Int) (K:Int→Int→Option (List A4)):Nat→Int→Int→Option (List A4)
 | 0,_,_=>none
 | n+1,x12,x13=>if x12<x13 then((P7 t (W ((W ((W ((W (I3 .u64 (IntKind.u64.wrap (W (o+rv))) 1))+a))-1))-(W (I3 .u64 (IntKind.u64.wrap (W (x12+x13))) 1))))).bind fun e13=>(P7 t (W (I3 .u64 (IntKind.u64.wrap (W (x12+x13))) 1))).bind fun e14=>(Z0 F e13 e14).bind fun rv18=>if rv18<0 then(E2 F t o a rv K n x12 (W (I3 .u64 (IntKind.u64.wrap (W (x12+x13))) 1)))else(E2 F t o a rv K n (W ((W (I3 .u64 (IntKind.u64.wrap (W (x12+x13))) 1))+1)) x13))else(K x12 x13)
def B2 (F:Nat):Nat→(List A4)→Int→Int→Int→Option (List A4)
 | 0,_,_,_,_=>none
 | nn+1,t,o,a,rv=>if(W (a-o))=1 then(D9 F t o (fun(x2:Int) (x3:Int)=>E7 F x2 (fun(t2:(List A4)) (x4:Int)=>some t2) F t o) F a rv)else(if(W (rv-a))=1 then(E0 F t a (fun(x6:Int) (x7:Int)=>E8 F x6 (fun(t5:(List A4)) (x8:Int)=>some t5) F t a) F o a)else(if(W (I3 .u64 (IntKind.u64.wrap (W (o+rv))) 1))<a then(E1 F t o a rv (fun(x10:Int) (x11:Int)=>if x10<a then(if a<(W ((W ((W (I3 .u64 (IntKind.u64.wrap (W (o+rv))) 1))+a))-x10))then((Y3 (I6 F t x10 a (W ((W ((W (I3 .u64 (IntKind.u64.wrap (W (o+rv))) 1))+a))-x10))) t).bind fun rv5=>if o<x10 then(if x10<(W (I3 .u64 (IntKind.u64.wrap (W (o+rv))) 1))then((Y3 (B2 F nn rv5 o x10 (W (I3 .u64 (IntKind.u64.wrap (W (o+rv))) 1))) rv5).bind fun rv6=>if(W (I3 .u64 (IntKind.u64.wrap (W (o+rv))) 1))<(W ((W ((W (I3 .u64 (IntKind.u64.wrap (W (o+rv))) 1))+a))-x10))then(if(W ((W ((W (I3 .u64 (IntKind.u64.wrap (W (o+rv))) 1))+a))-x10))<rv then((Y3 (B2 F nn rv6 (W (I3 .u64 (IntKind.u64.wrap (W (o+rv))) 1)) (W ((W ((W (I3 .u64 (IntKind.u64.wrap (W (o+rv))) 1))+a))-x10)) rv) rv6).bind fun rv7=>some rv7)else(some rv6))else(some rv6))else(if(W (I3 .u64 (IntKind.u64.wrap (W (o+rv))) 1))<(W ((W ((W (I3 .u64 (IntKind.u64.wrap (W (o+rv))) 1))+a))-x10))then(if(W ((W ((W (I3 .u64 (IntKind.u64.wrap (W (o+rv))) 1))+a))-x10))<rv then((Y3 (B2 F nn rv5 (W (I3 .u64 (IntKind.u64.wrap (W (o+rv))) 1)) (W ((W ((W (I3 .u64 (IntKind.u64.wrap (W (o+rv))) 1))+a))-x10)) rv) rv5).bind fun rv8=>some rv8)else(some rv5))else(some rv5)))else(if(W (I3 .u64 (IntKind.u64.wrap (W (o+rv))) 1))<(W ((W ((W (I3 .u64 (IntKind.u64.wrap (W (o+rv))) 1))+a))-x10))then(if(W ((W ((W (I3 .u64 (IntKind.u64.wrap (W (o+rv))) 1))+a))-x10))<rv then((Y3 (B2 F nn rv5 (W (I3 .u64 (IntKind.u64.wrap (W (o+rv))) 1)) (W ((W ((W (I3 .u64 (IntKind.u64.wrap (W (o+rv))) 1))+a))-x10)) rv) rv5).bind fun rv9=>some rv9)else(some rv5))else(some rv5)))else(if o<x10 then(if x10<(W (I3 .u64 (IntKind.u64.wrap (W (o+rv))) 1))then((Y3 (B2 F nn t o x10 (W (I3 .u64 (IntKind.u64.wrap (W (o+rv))) 1))) t).bind fun rv10=>if(W (I3 .u64 (IntKind.u64.wrap (W (o+rv))) 1))<(W ((W ((W (I3 .u64 (IntKind.u64.wrap (W (o+rv))) 1))+a))-x10))then(if(W ((W ((W (I3 .u64 (IntKind.u64.wrap (W (o+rv))) 1))+a))-x10))<rv then((Y3 (B2 F nn rv10 (W (I3 .u64 (IntKind.u64.wrap (W (o+rv))) 1)) (W ((W ((W (I3 .u64 (IntKind.u64.wrap (W (o+rv))) 1))+a))-x10)) rv) rv10).bind fun rv11=>some rv11)else(some rv10))else(some rv10))else(if(W (I3 .u64 (IntKind.u64.wrap (W (o+rv))) 1))<(W ((W ((W (I3 .u64 (IntKind.u64.wrap (W (o+rv))) 1))+a))-x10))then(if(W ((W ((W (I3 .u64 (IntKind.u64.wrap (W (o+rv))) 1))+a))-x10))<rv then((Y3 (B2 F nn t (W (I3 .u64 (IntKind.u64.wrap (W (o+rv))) 1)) (W ((W ((W (I3 .u64 (IntKind.u64.wrap (W (o+rv))) 1))+a))-x10)) rv) t).bind fun rv12=>some rv12)else(some t))else(some t)))else(if(W (I3 .u64 (IntKind.u64.wrap (W (o+rv))) 1))<(W ((W ((W (I3 .u64 (IntKind.u64.wrap (W (o+rv))) 1))+a))-x10))then(if(W ((W ((W (I3 .u64 (IntKind.u64.wrap (W (o+rv))) 1))+a))-x10))<rv then((Y3 (B2 F nn t (W (I3 .u64 (IntKind.u64.wrap (W (o+rv))) 1)) (W ((W ((W (I3 .u64 (IntKind.u64.wrap (W (o+rv))) 1))+a))-x10)) rv) t).bind fun rv13=>some rv13)else(some t))else(some t))))else(if o<x10 then(if x10<(W (I3 .u64 (IntKind.u64.wrap (W (o+rv))) 1))then((Y3 (B2 F nn t o x10 (W (I3 .u64 (IntKind.u64.wrap (W (o+rv))) 1))) t).bind fun rv14=>if(W (I3 .u64 (IntKind.u64.wrap (W (o+rv))) 1))<(W ((W ((W (I3 .u64 (IntKind.u64.wrap (W (o+rv))) 1))+a))-x10))then(if(W ((W ((W (I3 .u64 (IntKind.u64.wrap (W (o+rv))) 1))+a))-x10))<rv then((Y3 (B2 F nn rv14 (W (I3 .u64 (IntKind.u64.wrap (W (o+rv))) 1)) (W ((W ((W (I3 .u64 (IntKind.u64.wrap (W (o+rv))) 1))+a))-x10)) rv) rv14).bind fun rv15=>some rv15)else(some rv14))else(some rv14))else(if(W (I3 .u64 (IntKind.u64.wrap (W (o+rv))) 1))<(W ((W ((W (I3 .u64 (IntKind.u64.wrap (W (o+rv))) 1))+a))-x10))then(if(W ((W ((W (I3 .u64 (IntKind.u64.wrap (W (o+rv))) 1))+a))-x10))<rv then((Y3 (B2 F nn t (W (I3 .u64 (IntKind.u64.wrap (W (o+rv))) 1)) (W ((W ((W (I3 .u64 (IntKind.u64.wrap (W (o+rv))) 1))+a))-x10)) rv) t).bind fun rv16=>some rv16)else(some t))else(some t)))else(if(W (I3 .u64 (IntKind.u64.wrap (W (o+rv))) 1))<(W ((W ((W (I3 .u64 (IntKind.u64.wrap (W (o+rv))) 1))+a))-x10))then(if(W ((W ((W (I3 .u64 (IntKind.u64.wrap (W (o+rv))) 1))+a))-x10))<rv then((Y3 (B2 F nn t (W (I3 .u64 (IntKind.u64.wrap (W (o+rv))) 1)) (W ((W ((W (I3 .u64 (IntKind.u64.wrap (W (o+rv))) 1))+a))-x10)) rv) t).bind fun rv17=>some rv17)else(some t))else(some t)))) F (W ((W ((W (I3 .u64 (IntKind.u64.wrap (W (o+rv))) 1))+a))-rv)) (W (I3 .u64 (IntKind.u64.wrap (W (o+rv))) 1)))else(E2 F t o a rv (fun(x12:Int) (x13:Int)=>if x12<a then(if a<(W ((W ((W (I3 .u64 (IntKind.u64.wrap (W (o+rv))) 1))+a))-x12))then((Y3 (I6 F t x12 a (W ((W ((W (I3 .u64 (IntKind.u64.wrap (W (o+rv))) 1))+a))-x12))) t).bind fun rv19=>if o<x12 then(if x12<(W (I3 .u64 (IntKind.u64.wrap (W (o+rv))) 1))then((Y3 (B2 F nn rv19 o x12 (W (I3 .u64 (IntKind.u64.wrap (W (o+rv))) 1))) rv19).bind fun rv20=>if(W (I3 .u64 (IntKind.u64.wrap (W (o+rv))) 1))<(W ((W ((W (I3 .u64 (IntKind.u64.wrap (W (o+rv))) 1))+a))-x12))then(if(W ((W ((W (I3 .u64 (IntKind.u64.wrap (W (o+rv))) 1))+a))-x12))<rv then((Y3 (B2 F nn rv20 (W (I3 .u64 (IntKind.u64.wrap (W (o+rv))) 1)) (W ((W ((W (I3 .u64 (IntKind.u64.wrap (W (o+rv))) 1))+a))-x12)) rv) rv20).bind fun rv21=>some rv21)else(some rv20))else(some rv20))else(if(W (I3 .u64 (IntKind.u64.wrap (W (o+rv))) 1))<(W ((W ((W (I3 .u64 (IntKind.u64.wrap (W (o+rv))) 1))+a))-x12))then(if(W ((W ((W (I3 .u64 (IntKind.u64.wrap (W (o+rv))) 1))+a))-x12))<rv then((Y3 (B2 F nn rv19 (W (I3 .u64 (IntKind.u64.wrap (W (o+rv))) 1)) (W ((W ((W (I3 .u64 (IntKind.u64.wrap (W (o+rv))) 1))+a))-x12)) rv) rv19).bind fun rv22=>some rv22)else(some rv19))else(some rv19)))else(if(W (I3 .u64 (IntKind.u64.wrap (W (o+rv))) 1))<(W ((W ((W (I3 .u64 (IntKind.u64.wrap (W (o+rv))) 1))+a))-x12))then(if(W ((W ((W (I3 .u64 (IntKind.u64.wrap (W (o+rv))) 1))+a))-x12))<rv then((Y3 (B2 F nn rv19 (W (I3 .u64 (IntKind.u64.wrap (W (o+rv))) 1)) (W ((W ((W (I3 .u64 (IntKind.u64.wrap (W (o+rv))) 1))+a))-x12)) rv) rv19).bind fun rv23=>some rv23)else(some rv19))else(some rv19)))else(if o<x12 then(if x12<(W (I3 .u64 (IntKind.u64.wrap (W (o+rv))) 1))then((Y3 (B2 F nn t o x12 (W (I3 .u64 (IntKind.u64.wrap (W (o+rv))) 1))) t).bind fun rv24=>if(W (I3 .u64 (IntKind.u64.wrap (W (o+rv))) 1))<(W ((W ((W (I3 .u64 (IntKind.u64.wrap (W (o+rv))) 1))+a))-x12))then(if(W ((W ((W (I3 .u64 (IntKind.u64.wrap (W (o+rv))) 1))+a))-x12))<rv then((Y3 (B2 F nn rv24 (W (I3 .u64 (IntKind.u64.wrap (W (o+rv))) 1)) (W ((W ((W (I3 .u64 (IntKind.u64.wrap (W (o+rv))) 1))+a))-x12)) rv) rv24).bind fun rv25=>some rv25)else(some rv24))else(some rv24))else(if(W (I3 .u64 (IntKind.u64.wrap (W (o+rv))) 1))<(W ((W ((W (I3 .u64 (IntKind.u64.wrap (W (o+rv))) 1))+a))-x12))then(if(W ((W ((W (I3 .u64 (IntKind.u64.wrap (W (o+rv))) 1))+a))-x12))<rv then((Y3 (B2 F nn t (W (I3 .u64 (IntKind.u64.wrap (W (o+rv))) 1)) (W ((W ((W (I3 .u64 (IntKind.u64.wrap (W (o+rv))) 1))+a))-x12)) rv) t).bind fun rv26=>some rv26)else(some t))else(some t)))else(if(W (I3 .u64 (IntKind.u64.wrap (W (o+rv))) 1))<(W ((W ((W (I3 .u64 (IntKind.u64.wrap (W (o+rv))) 1))+a))-x12))then(if(W ((W ((W (I3 .u64 (IntKind.u64.wrap (W (o+rv))) 1))+a))-x12))<rv then((Y3 (B2 F nn t (W (I3 .u64 (IntKind.u64.wrap (W (o+rv))) 1)) (W ((W ((W (I3 .u64 (IntKind.u64.wrap (W (o+rv))) 1))+a))-x12)) rv) t).bind fun rv27=>some rv27)else(some t))else(some t))))else(if o<x12 then(if x12<(W (I3 .u64 (IntKind.u64.wrap (W (o+rv))) 1))then((Y3 (B2 F nn t o x12 (W (I3 .u64 (IntKind.u64.wrap (W (o+rv))) 1))) t).bind fun rv28=>if(W (I3 .u64 (IntKind.u64.wrap (W (o+rv))) 1))<(W ((W ((W (I3 .u64 (IntKind.u64.wrap (W (o+rv))) 1))+a))-x12))then(if(W ((W ((W (I3 .u64 (IntKind.u64.wrap (W (o+rv))) 1))+a))-x12))<rv then((Y3 (B2 F nn rv28 (W (I3 .u64 (IntKind.u64.wrap (W (o+rv))) 1)) (W ((W ((W (I3 .u64 (IntKind.u64.wrap (W (o+rv))) 1))+a))-x12)) rv) rv28).bind fun rv29=>some rv29)else(some rv28))else(some rv28))else(if(W (I3 .u64 (IntKind.u64.wrap (W (o+rv))) 1))<(W ((W ((W (I3 .u64 (IntKind.u64.wrap (W (o+rv))) 1))+a))-x12))then(if(W ((W ((W (I3 .u64 (IntKind.u64.wrap (W (o+rv))) 1))+a))-x12))<rv then((Y3 (B2 F nn t (W (I3 .u64 (IntKind.u64.wrap (W (o+rv))) 1)) (W ((W ((W (I3 .u64 (IntKind.u64.wrap (W (o+rv))) 1))+a))-x12)) rv) t).bind fun rv30=>some rv30)else(some t))else(some t)))else(if(W (I3 .u64 (IntKind.u64.wrap (W (o+rv))) 1))<(W ((W ((W (I3 .u64 (IntKind.u64.wrap (W (o+rv))) 1))+a))-x12))then(if(W ((W ((W (I3 .u64 (IntKind.u64.wrap (W (o+rv))) 1))+a))-x12))<rv then((Y3 (B2 F nn t (W (I3 .u64 (IntKind.u64.wrap (W (o+rv))) 1)) (W ((W ((W (I3 .u64 (IntKind.u64.wrap (W (o+rv))) 1))+a))-x12)) rv) t).bind fun rv31=>some rv31)else(some t))else(some t)))) F o a)))
def K0 (F:Nat) (t:(List A4)) (o:Int) (a:Int) (rv:Int):Option (List A4):=B2 F F t o a rv
theorem Z6 {F:Nat}:∀ {nn:Nat} {t:(List A4)} {o:Int} {a:Int} {rv:Int} {r:(List A4)} (h:B2 F nn t o a rv=some r),SCR Tryz.prog 110 [.row 0 2 0 (t).length,.d (.v (.int .i64 o)),.d (.v (.int .i64 a)),.d (.v (.int .i64 rv)),.d (.v (.func (.func 47) #[] #[]))] [A8 t] (.d (.tup [])) [A8 r]:=by
 intro nn
 induction nn with
 | zero=>intro t o a rv r h;cases(show(none:Option (List A4))=some r from h)
 | succ nn ih =>
  intro t o a rv r h
  rw[B2]at h
  refine SC.of_sw Tryz.func110 R R R ?_
  dsimp only[M1,List.map]
  refine B8 (qG (A0 R (A0 R (O6 R R R R ?_))))
  refine Q0 R R R R ?_ ?_
  ·intro c
   replace h:=H1 c h
   refine eN (A9 R (qG (A0 R (A3 R (eN (qG (A0 R (A3 R (eN (B8 (D0 ?_)))))))))))
   obtain⟨K3,hK3,h⟩:∃ K,K=_∧D9 F t o K F a rv=some r:=⟨_,rfl,h⟩
   refine H6 (fun m st=>∃ (x2:Int) (x3:Int),D9 F t o K3 m x2 x3=some r∧st=⟨[(0,.row 0 2 0 (t).length),(1,.d (vI o)),(2,.d (vI a)),(3,.d (vI rv)),(4,.d (.v (.func (.func 47) #[] #[]))),(10,.d (vI x2)),(11,.d (vI x3))],[A8 t]⟩) (.prn [0,1,2,3,4,10,11] R) ⟨a,rv,h,R⟩ ?_
   clear h
   rintro m3 st ⟨x2,x3,h,rfl⟩
   cases m3 with
   | zero=>cases(show(none:Option (List A4))=some r from h)
   | succ m3 =>
   rw[D9]at h
   refine B8 (qG (A0 R (A0 R ?_)))
   refine G8 R R R R ?_ ?_
   ·intro c2
    replace h:=H1 c2 h
    refine eN (A9 R (C0 (A1 (D0 (qG (A0 R (A0 R (H4 R (A4O (k2 := .u64) R R R R R R (A6P R R dM R R (A4O (k2 := .i64) R R R R R R (A3 R (eN (B8 (P5 kR (A0 R (I1 R R R (A0 R ?_))))))))))))))))))
    obtain⟨e,ie,h⟩:=H0 h
    refine Q5 tb R R R R R R (S0 ie) (ix1 ie) R R ?_
    refine V2 (y:=A4.d e) tb R R R R (Q6 (g:=fun a=>T.d (A4.d a)) ie) R R R R ?_
    refine I1 R R R (A0 R ?_)
    obtain⟨e2,ie2,h⟩:=H0 h
    refine Q5 tb R R R R R R (S0 ie2) (ix1 ie2) R R ?_
    refine V2 (y:=A4.d e2) tb R R R R (Q6 (g:=fun a=>T.d (A4.d a)) ie2) R R R R ?_
    obtain⟨rv2,k2,h⟩:=H0 h
    refine N5 (A1e k2) eK R R R R ?_
    refine G8 R R R R ?_ ?_
    ·intro c3
     replace h:=H1 c3 h
     refine F6 kR (A1 (A9 R (E5 (A0 R (H4 R (A3 R (L5 (C3 (A1 ?_)))))))))
     exact⟨m3,_,lS,.prn [0,1,2,3,4,10,11] R,(W ((W (I3 .u64 (IntKind.u64.wrap (W (x2+x3))) 1))+1)),x3,h,R⟩
    intro c3
    replace h:=J0 (nL c3) h
    refine F6 kR (A1 (A5 R (E5 (A0 R (A3 R (L5 (C3 (A1 ?_))))))))
    exact⟨m3,_,lS,.prn [0,1,2,3,4,10,11] R,x2,(W (I3 .u64 (IntKind.u64.wrap (W (x2+x3))) 1)),h,R⟩
   intro c2
   replace h:=J0 (nL c2) h
   refine eN (A5 R (I4 (C8 (C8 ?_))))
   subst hK3
   refine F3 (A1 (B8 (qG (A0 R (A3 R (eN (D0 ?_)))))))
   obtain⟨K5,hK5,h⟩:∃ K,K=_∧E7 F x2 K F t o=some r:=⟨_,rfl,h⟩
   refine H6 (fun m st=>∃ (t2:(List A4)) (x4:Int),E7 F x2 K5 m t2 x4=some r∧st=⟨[(0,.row 0 2 0 (t2).length),(1,.d (vI o)),(2,.d (vI a)),(3,.d (vI rv)),(4,.d (.v (.func (.func 47) #[] #[]))),(10,.d (vI x2)),(13,.d (vI x4))],[A8 t2]⟩) (.prn [0,1,2,3,4,10,13] R) ⟨t,o,h,R⟩ ?_
   clear h
   rintro m5 st ⟨t2,x4,h,rfl⟩
   cases m5 with
   | zero=>cases(show(none:Option (List A4))=some r from h)
   | succ m5 =>
   rw[E7]at h
   refine B8 (qG (A0 R (A0 R (O6 R R R R ?_))))
   refine G8 R R R R ?_ ?_
   ·intro c4
    replace h:=H1 c4 h
    refine eN (A9 R (C0 (A1 (B8 (D0 (P5 kR (I1 R R R (A0 R (I1 R R R (A0 R (H4 R (I1 R R R (A0 R (H4 R ?_))))))))))))))
    obtain⟨e3,ie3,h⟩:=H0 h
    refine Q5 tb R R R R R R (S0 ie3) (ix1 ie3) R R ?_
    refine V2 (y:=A4.d e3) tb R R R R (Q6 (g:=fun a=>T.d (A4.d a)) ie3) R R R R ?_
    refine I1 R R R (A0 R ?_)
    obtain⟨e4,ie4,h⟩:=H0 h
    refine Q5 tb R R R R R R (S0 ie4) (ix1 ie4) R R ?_
    refine V2 (y:=A4.d e4) tb R R R R (Q6 (g:=fun a=>T.d (A4.d a)) ie4) R R R R ?_
    refine Q5 tb R R R R R R (S0 ie4) (ix1 ie4) R R ?_
    obtain⟨t3,it3,h⟩:=H0 h
    refine A36 (a':=(e3:A4)) tb R R R R ie4 R R R R it3 R R ?_
    dsimp only[List.set_cons_zero,List.set_cons_succ,D5,D8]
    first | rw[A0F it3] | skip
    obtain⟨e5,ie5,h⟩:=H0 h
    refine Q5 tb R R R R R R (S0 ie5) (ix1 ie5) R R ?_
    obtain⟨t4,it4,h⟩:=H0 h
    refine A36 (a':=(e4:A4)) tb R R R R ie5 R R R R it4 R R ?_
    dsimp only[List.set_cons_zero,List.set_cons_succ,D5,D8]
    first | rw[A0F it4] | skip
    refine F6 kR (C3 (A1 (E5 (A0 R (H4 R (A3 R (eN ?_)))))))
    exact⟨m5,_,lS,.prn [0,1,2,3,4,10,13] R,t4,(W (x4+1)),h,R⟩
   intro c4
   replace h:=J0 (nL c4) h
   refine eN (A5 R (I4 (C8 (C8 ?_))))
   subst hK5
   refine F3 (A1 (C9 (B1 ?_)))
   obtain rfl:=sI h
   exact f2 [0] O7 R .nil R
  intro c
  replace h:=J0 c h
  refine eN (A5 R (C0 (A1 (B8 (qG (A0 R (A0 R (O6 R R R R ?_))))))))
  refine Q0 R R R R ?_ ?_
  ·intro c5
   replace h:=H1 c5 h
   refine eN (A9 R (qG (A0 R (A3 R (eN (qG (A0 R (A3 R (eN (B8 (D0 ?_)))))))))))
   obtain⟨K8,hK8,h⟩:∃ K,K=_∧E0 F t a K F o a=some r:=⟨_,rfl,h⟩
   refine H6 (fun m st=>∃ (x6:Int) (x7:Int),E0 F t a K8 m x6 x7=some r∧st=⟨[(0,.row 0 2 0 (t).length),(1,.d (vI o)),(2,.d (vI a)),(3,.d (vI rv)),(4,.d (.v (.func (.func 47) #[] #[]))),(14,.d (vI x6)),(15,.d (vI x7))],[A8 t]⟩) (.prn [0,1,2,3,4,14,15] R) ⟨o,a,h,R⟩ ?_
   clear h
   rintro m8 st ⟨x6,x7,h,rfl⟩
   cases m8 with
   | zero=>cases(show(none:Option (List A4))=some r from h)
   | succ m8 =>
   rw[E0]at h
   refine B8 (qG (A0 R (A0 R ?_)))
   refine G8 R R R R ?_ ?_
   ·intro c6
    replace h:=H1 c6 h
    refine eN (A9 R (C0 (A1 (D0 (qG (A0 R (A0 R (H4 R (A4O (k2 := .u64) R R R R R R (A6P R R dM R R (A4O (k2 := .i64) R R R R R R (A3 R (eN (B8 (P5 kR (A0 R (I1 R R R (A0 R ?_))))))))))))))))))
    obtain⟨e6,ie6,h⟩:=H0 h
    refine Q5 tb R R R R R R (S0 ie6) (ix1 ie6) R R ?_
    refine V2 (y:=A4.d e6) tb R R R R (Q6 (g:=fun a=>T.d (A4.d a)) ie6) R R R R ?_
    refine I1 R R R (A0 R ?_)
    obtain⟨e7,ie7,h⟩:=H0 h
    refine Q5 tb R R R R R R (S0 ie7) (ix1 ie7) R R ?_
    refine V2 (y:=A4.d e7) tb R R R R (Q6 (g:=fun a=>T.d (A4.d a)) ie7) R R R R ?_
    obtain⟨rv3,k3,h⟩:=H0 h
    refine N5 (A1e k3) eK R R R R ?_
    refine G8 R R R R ?_ ?_
    ·intro c7
     replace h:=H1 c7 h
     refine M2 R R R (F6 kR (A1 (A5 R (E5 (A0 R (A3 R (L5 (C3 (A1 ?_)))))))))
     exact⟨m8,_,lS,.prn [0,1,2,3,4,14,15] R,x6,(W (I3 .u64 (IntKind.u64.wrap (W (x6+x7))) 1)),h,R⟩
    intro c7
    replace h:=J0 (nL c7) h
    refine M3 R R R (F6 kR (A1 (A9 R (E5 (A0 R (H4 R (A3 R (L5 (C3 (A1 ?_))))))))))
    exact⟨m8,_,lS,.prn [0,1,2,3,4,14,15] R,(W ((W (I3 .u64 (IntKind.u64.wrap (W (x6+x7))) 1))+1)),x7,h,R⟩
   intro c6
   replace h:=J0 (nL c6) h
   refine eN (A5 R (I4 (C8 (C8 ?_))))
   subst hK8
   refine F3 (A1 (B8 (qG (A0 R (A3 R (eN (D0 ?_)))))))
   obtain⟨K10,hK10,h⟩:∃ K,K=_∧E8 F x6 K F t a=some r:=⟨_,rfl,h⟩
   refine H6 (fun m st=>∃ (t5:(List A4)) (x8:Int),E8 F x6 K10 m t5 x8=some r∧st=⟨[(0,.row 0 2 0 (t5).length),(1,.d (vI o)),(2,.d (vI a)),(3,.d (vI rv)),(4,.d (.v (.func (.func 47) #[] #[]))),(14,.d (vI x6)),(17,.d (vI x8))],[A8 t5]⟩) (.prn [0,1,2,3,4,14,17] R) ⟨t,a,h,R⟩ ?_
   clear h
   rintro m10 st ⟨t5,x8,h,rfl⟩
   cases m10 with
   | zero=>cases(show(none:Option (List A4))=some r from h)
   | succ m10 =>
   rw[E8]at h
   refine B8 (qG (A0 R (A0 R ?_)))
   refine A1D R R R R ?_ ?_
   ·intro c8
    replace h:=H1 c8 h
    refine eN (A9 R (C0 (A1 (B8 (D0 (P5 kR (I1 R R R (A0 R (I1 R R R (A0 R (O6 R R R R (I1 R R R (A0 R (O6 R R R R ?_))))))))))))))
    obtain⟨e8,ie8,h⟩:=H0 h
    refine Q5 tb R R R R R R (S0 ie8) (ix1 ie8) R R ?_
    refine V2 (y:=A4.d e8) tb R R R R (Q6 (g:=fun a=>T.d (A4.d a)) ie8) R R R R ?_
    refine I1 R R R (A0 R ?_)
    obtain⟨e9,ie9,h⟩:=H0 h
    refine Q5 tb R R R R R R (S0 ie9) (ix1 ie9) R R ?_
    refine V2 (y:=A4.d e9) tb R R R R (Q6 (g:=fun a=>T.d (A4.d a)) ie9) R R R R ?_
    refine Q5 tb R R R R R R (S0 ie9) (ix1 ie9) R R ?_
    obtain⟨t6,it6,h⟩:=H0 h
    refine A36 (a':=(e8:A4)) tb R R R R ie9 R R R R it6 R R ?_
    dsimp only[List.set_cons_zero,List.set_cons_succ,D5,D8]
    first | rw[A0F it6] | skip
    obtain⟨e10,ie10,h⟩:=H0 h
    refine Q5 tb R R R R R R (S0 ie10) (ix1 ie10) R R ?_
    obtain⟨t7,it7,h⟩:=H0 h
    refine A36 (a':=(e9:A4)) tb R R R R ie10 R R R R it7 R R ?_
    dsimp only[List.set_cons_zero,List.set_cons_succ,D5,D8]
    first | rw[A0F it7] | skip
    refine F6 kR (C3 (A1 (E5 (A0 R (O6 R R R R (A3 R (eN ?_)))))))
    exact⟨m10,_,lS,.prn [0,1,2,3,4,14,17] R,t7,(W (x8-1)),h,R⟩
   intro c8
   replace h:=J0 (nL c8) h
   refine eN (A5 R (I4 (C8 (C8 ?_))))
   subst hK10
   refine F3 (A1 (C9 (B1 ?_)))
   obtain rfl:=sI h
   exact f2 [0] O7 R .nil R
  intro c5
  replace h:=J0 c5 h
  refine eN (A5 R (C0 (A1 (qG (A0 R (A0 R (H4 R (A4O (k2 := .u64) R R R R R R (A6P R R dM R R (A4O (k2 := .i64) R R R R R R (A3 R (eN (qG (A0 R (A0 R (H4 R (A3 R (eN (qG (A3 R (A3 R (eN (B8 (qG (A0 R (A0 R ?_))))))))))))))))))))))))))
  refine A1D R R R R ?_ ?_
  ·intro c9
   replace h:=H1 c9 h
   refine eN (A9 R (qG (A0 R (A0 R (O6 R R R R (A3 R (eN (E5 (A0 R (A3 R (eN (qG (A0 R (O6 R R R R (A3 R (eN (B8 (D0 ?_))))))))))))))))))
   obtain⟨K13,hK13,h⟩:∃ K,K=_∧E1 F t o a rv K F (W ((W ((W (I3 .u64 (IntKind.u64.wrap (W (o+rv))) 1))+a))-rv)) (W (I3 .u64 (IntKind.u64.wrap (W (o+rv))) 1))=some r:=⟨_,rfl,h⟩
   refine H6 (fun m st=>∃ (x10:Int) (x11:Int),E1 F t o a rv K13 m x10 x11=some r∧st=⟨[(0,.row 0 2 0 (t).length),(1,.d (vI o)),(2,.d (vI a)),(3,.d (vI rv)),(4,.d (.v (.func (.func 47) #[] #[]))),(18,.d (vI (W (I3 .u64 (IntKind.u64.wrap (W (o+rv))) 1)))),(19,.d (vI (W ((W (I3 .u64 (IntKind.u64.wrap (W (o+rv))) 1))+a)))),(20,.d (vI x10)),(21,.d (vI x11)),(22,.d (vI (W ((W ((W (I3 .u64 (IntKind.u64.wrap (W (o+rv))) 1))+a))-1))))],[A8 t]⟩) (.prn [0,1,2,3,4,18,19,20,21,22] R) ⟨(W ((W ((W (I3 .u64 (IntKind.u64.wrap (W (o+rv))) 1))+a))-rv)),(W (I3 .u64 (IntKind.u64.wrap (W (o+rv))) 1)),h,R⟩ ?_
   clear h
   rintro m13 st ⟨x10,x11,h,rfl⟩
   cases m13 with
   | zero=>cases(show(none:Option (List A4))=some r from h)
   | succ m13 =>
   rw[E1]at h
   refine B8 (qG (A0 R (A0 R ?_)))
   refine G8 R R R R ?_ ?_
   ·intro c10
    replace h:=H1 c10 h
    refine eN (A9 R (C0 (A1 (D0 (qG (A0 R (A0 R (H4 R (A4O (k2 := .u64) R R R R R R (A6P R R dM R R (A4O (k2 := .i64) R R R R R R (A3 R (eN (B8 (P5 kR (A0 R (I1 R R R (A0 R (A0 R (O6 R R R R ?_))))))))))))))))))))
    obtain⟨e11,ie11,h⟩:=H0 h
    refine Q5 tb R R R R R R (S0 ie11) (ix1 ie11) R R ?_
    refine V2 (y:=A4.d e11) tb R R R R (Q6 (g:=fun a=>T.d (A4.d a)) ie11) R R R R ?_
    refine I1 R R R (A0 R ?_)
    obtain⟨e12,ie12,h⟩:=H0 h
    refine Q5 tb R R R R R R (S0 ie12) (ix1 ie12) R R ?_
    refine V2 (y:=A4.d e12) tb R R R R (Q6 (g:=fun a=>T.d (A4.d a)) ie12) R R R R ?_
    obtain⟨rv4,k4,h⟩:=H0 h
    refine N5 (A1e k4) eK R R R R ?_
    refine G8 R R R R ?_ ?_
    ·intro c11
     replace h:=H1 c11 h
     refine M2 R R R (F6 kR (A1 (A5 R (E5 (A0 R (A3 R (L5 (C3 (A1 ?_)))))))))
     exact⟨m13,_,lS,.prn [0,1,2,3,4,18,19,20,21,22] R,x10,(W (I3 .u64 (IntKind.u64.wrap (W (x10+x11))) 1)),h,R⟩
    intro c11
    replace h:=J0 (nL c11) h
    refine M3 R R R (F6 kR (A1 (A9 R (E5 (A0 R (H4 R (A3 R (L5 (C3 (A1 ?_))))))))))
    exact⟨m13,_,lS,.prn [0,1,2,3,4,18,19,20,21,22] R,(W ((W (I3 .u64 (IntKind.u64.wrap (W (x10+x11))) 1))+1)),x11,h,R⟩
   intro c10
   replace h:=J0 (nL c10) h
   refine eN (A5 R (I4 (C8 (C8 ?_))))
   subst hK13
   refine F3 (A1 (qG (A0 R (A0 R (O6 R R R R (A3 R (eN (B8 (qG (A0 R (A0 R ?_)))))))))))
   refine G8 R R R R ?_ ?_
   ·intro c12
    replace h:=H1 c12 h
    refine A0 R (A0 R (A0 R ?_))
    refine G8 R R R R ?_ ?_
    ·intro c13
     replace h:=H1 c13 h
     refine B5 R (eN (A9 R (E5 (I1 R R R (A0 R (A0 R (A0 R (A0 R ?_))))))))
     obtain⟨rv5,k5,h⟩:=H0 h
     refine G5 (t' := .d (.tup [])) (ls:=[A8 rv5]) (news:=[]) ([0]) ([A8 rv5]) (T0 (F4 k5).1) eK R (.inl ⟨R,R,R⟩) R R R R A14 R R R ((.row .nil)) .nil R R R R ?_
     first | (dsimp only[D5,D8];rw[← (F4 k5).2]) | rw[← (F4 k5).2] | skip
     refine eN (B8 (qG (A0 R (A0 R ?_))))
     refine G8 R R R R ?_ ?_
     ·intro c14
      replace h:=H1 c14 h
      refine A0 R (A0 R (A0 R ?_))
      refine G8 R R R R ?_ ?_
      ·intro c15
       replace h:=H1 c15 h
       refine B5 R (eN (A9 R (E5 (I1 R R R (A0 R (A0 R (A0 R (A0 R ?_))))))))
       obtain⟨rv6,k6,h⟩:=H0 h
       refine G5 (t' := .d (.tup [])) (ls:=[A8 rv6]) (news:=[]) ([0]) ([A8 rv6]) (ih (F4 k6).1) eK R (.inl ⟨R,R,R⟩) R R R R A14 R R R ((.row .nil)) .nil R R R R ?_
       first | (dsimp only[D5,D8];rw[← (F4 k6).2]) | rw[← (F4 k6).2] | skip
       refine eN (qG (A0 R (A0 R ?_)))
       refine G8 R R R R ?_ ?_
       ·intro c16
        replace h:=H1 c16 h
        refine A0 R (A0 R (A0 R ?_))
        refine G8 R R R R ?_ ?_
        ·intro c17
         replace h:=H1 c17 h
         refine B5 R (eN (A9 R (E5 (I1 R R R (A0 R (A0 R (A0 R (A0 R ?_))))))))
         obtain⟨rv7,k7,h⟩:=H0 h
         refine G5 (t' := .d (.tup [])) (ls:=[A8 rv7]) (news:=[]) ([0]) ([A8 rv7]) (ih (F4 k7).1) eK R (.inl ⟨R,R,R⟩) R R R R A14 R R R ((.row .nil)) .nil R R R R ?_
         first | (dsimp only[D5,D8];rw[← (F4 k7).2]) | rw[← (F4 k7).2] | skip
         refine L5 ?_
         obtain rfl:=sI h
         exact M9 (L8 (t := .d (.tup [])) (L:=[A8 rv7]) (κ:=[0]) R .nil (vK O7 R) ⟨R,R⟩)
        intro c17
        replace h:=J0 (nL c17) h
        refine B5 R (eN (A5 R (C0 ?_)))
        obtain rfl:=sI h
        exact M9 (L8 (t := .d (.tup [])) (L:=[A8 rv6]) (κ:=[0]) R .nil (vK O7 R) ⟨R,R⟩)
       intro c16
       replace h:=J0 (nL c16) h
       refine A0 R (H7 3 R (C4 R (eN (A5 R (C0 ?_)))))
       obtain rfl:=sI h
       exact M9 (L8 (t := .d (.tup [])) (L:=[A8 rv6]) (κ:=[0]) R .nil (vK O7 R) ⟨R,R⟩)
      intro c15
      replace h:=J0 (nL c15) h
      refine B5 R (eN (A5 R (C0 (A1 (qG (A0 R (A0 R ?_)))))))
      refine G8 R R R R ?_ ?_
      ·intro c18
       replace h:=H1 c18 h
       refine A0 R (A0 R (A0 R ?_))
       refine G8 R R R R ?_ ?_
       ·intro c19
        replace h:=H1 c19 h
        refine B5 R (eN (A9 R (E5 (I1 R R R (A0 R (A0 R (A0 R (A0 R ?_))))))))
        obtain⟨rv8,k8,h⟩:=H0 h
        refine G5 (t' := .d (.tup [])) (ls:=[A8 rv8]) (news:=[]) ([0]) ([A8 rv8]) (ih (F4 k8).1) eK R (.inl ⟨R,R,R⟩) R R R R A14 R R R ((.row .nil)) .nil R R R R ?_
        first | (dsimp only[D5,D8];rw[← (F4 k8).2]) | rw[← (F4 k8).2] | skip
        refine L5 ?_
        obtain rfl:=sI h
        exact M9 (L8 (t := .d (.tup [])) (L:=[A8 rv8]) (κ:=[0]) R .nil (vK O7 R) ⟨R,R⟩)
       intro c19
       replace h:=J0 (nL c19) h
       refine B5 R (eN (A5 R (C0 ?_)))
       obtain rfl:=sI h
       exact M9 (L8 (t := .d (.tup [])) (L:=[A8 rv5]) (κ:=[0]) R .nil (vK O7 R) ⟨R,R⟩)
      intro c18
      replace h:=J0 (nL c18) h
      refine A0 R (H7 3 R (C4 R (eN (A5 R (C0 ?_)))))
      obtain rfl:=sI h
      exact M9 (L8 (t := .d (.tup [])) (L:=[A8 rv5]) (κ:=[0]) R .nil (vK O7 R) ⟨R,R⟩)
     intro c14
     replace h:=J0 (nL c14) h
     refine A0 R (H7 3 R (C4 R (eN (A5 R (C0 (A1 (qG (A0 R (A0 R ?_)))))))))
     refine G8 R R R R ?_ ?_
     ·intro c20
      replace h:=H1 c20 h
      refine A0 R (A0 R (A0 R ?_))
      refine G8 R R R R ?_ ?_
      ·intro c21
       replace h:=H1 c21 h
       refine B5 R (eN (A9 R (E5 (I1 R R R (A0 R (A0 R (A0 R (A0 R ?_))))))))
       obtain⟨rv9,k9,h⟩:=H0 h
       refine G5 (t' := .d (.tup [])) (ls:=[A8 rv9]) (news:=[]) ([0]) ([A8 rv9]) (ih (F4 k9).1) eK R (.inl ⟨R,R,R⟩) R R R R A14 R R R ((.row .nil)) .nil R R R R ?_
       first | (dsimp only[D5,D8];rw[← (F4 k9).2]) | rw[← (F4 k9).2] | skip
       refine L5 ?_
       obtain rfl:=sI h
       exact M9 (L8 (t := .d (.tup [])) (L:=[A8 rv9]) (κ:=[0]) R .nil (vK O7 R) ⟨R,R⟩)
      intro c21
      replace h:=J0 (nL c21) h
      refine B5 R (eN (A5 R (C0 ?_)))
      obtain rfl:=sI h
      exact M9 (L8 (t := .d (.tup [])) (L:=[A8 rv5]) (κ:=[0]) R .nil (vK O7 R) ⟨R,R⟩)
     intro c20
     replace h:=J0 (nL c20) h
     refine A0 R (H7 3 R (C4 R (eN (A5 R (C0 ?_)))))
     obtain rfl:=sI h
     exact M9 (L8 (t := .d (.tup [])) (L:=[A8 rv5]) (κ:=[0]) R .nil (vK O7 R) ⟨R,R⟩)
    intro c13
    replace h:=J0 (nL c13) h
    refine B5 R (eN (A5 R (C0 (A1 (B8 (qG (A0 R (A0 R ?_))))))))
    refine G8 R R R R ?_ ?_
    ·intro c22
     replace h:=H1 c22 h
     refine A0 R (A0 R (A0 R ?_))
     refine G8 R R R R ?_ ?_
     ·intro c23
      replace h:=H1 c23 h
      refine B5 R (eN (A9 R (E5 (I1 R R R (A0 R (A0 R (A0 R (A0 R ?_))))))))
      obtain⟨rv10,k10,h⟩:=H0 h
      refine G5 (t' := .d (.tup [])) (ls:=[A8 rv10]) (news:=[]) ([0]) ([A8 rv10]) (ih (F4 k10).1) eK R (.inl ⟨R,R,R⟩) R R R R A14 R R R ((.row .nil)) .nil R R R R ?_
      first | (dsimp only[D5,D8];rw[← (F4 k10).2]) | rw[← (F4 k10).2] | skip
      refine eN (qG (A0 R (A0 R ?_)))
      refine G8 R R R R ?_ ?_
      ·intro c24
       replace h:=H1 c24 h
       refine A0 R (A0 R (A0 R ?_))
       refine G8 R R R R ?_ ?_
       ·intro c25
        replace h:=H1 c25 h
        refine B5 R (eN (A9 R (E5 (I1 R R R (A0 R (A0 R (A0 R (A0 R ?_))))))))
        obtain⟨rv11,k11,h⟩:=H0 h
        refine G5 (t' := .d (.tup [])) (ls:=[A8 rv11]) (news:=[]) ([0]) ([A8 rv11]) (ih (F4 k11).1) eK R (.inl ⟨R,R,R⟩) R R R R A14 R R R ((.row .nil)) .nil R R R R ?_
        first | (dsimp only[D5,D8];rw[← (F4 k11).2]) | rw[← (F4 k11).2] | skip
        refine L5 ?_
        obtain rfl:=sI h
        exact M9 (L8 (t := .d (.tup [])) (L:=[A8 rv11]) (κ:=[0]) R .nil (vK O7 R) ⟨R,R⟩)
       intro c25
       replace h:=J0 (nL c25) h
       refine B5 R (eN (A5 R (C0 ?_)))
       obtain rfl:=sI h
       exact M9 (L8 (t := .d (.tup [])) (L:=[A8 rv10]) (κ:=[0]) R .nil (vK O7 R) ⟨R,R⟩)
      intro c24
      replace h:=J0 (nL c24) h
      refine A0 R (H7 3 R (C4 R (eN (A5 R (C0 ?_)))))
      obtain rfl:=sI h
      exact M9 (L8 (t := .d (.tup [])) (L:=[A8 rv10]) (κ:=[0]) R .nil (vK O7 R) ⟨R,R⟩)
     intro c23
     replace h:=J0 (nL c23) h
     refine B5 R (eN (A5 R (C0 (A1 (qG (A0 R (A0 R ?_)))))))
     refine G8 R R R R ?_ ?_
     ·intro c26
      replace h:=H1 c26 h
      refine A0 R (A0 R (A0 R ?_))
      refine G8 R R R R ?_ ?_
      ·intro c27
       replace h:=H1 c27 h
       refine B5 R (eN (A9 R (E5 (I1 R R R (A0 R (A0 R (A0 R (A0 R ?_))))))))
       obtain⟨rv12,k12,h⟩:=H0 h
       refine G5 (t' := .d (.tup [])) (ls:=[A8 rv12]) (news:=[]) ([0]) ([A8 rv12]) (ih (F4 k12).1) eK R (.inl ⟨R,R,R⟩) R R R R A14 R R R ((.row .nil)) .nil R R R R ?_
       first | (dsimp only[D5,D8];rw[← (F4 k12).2]) | rw[← (F4 k12).2] | skip
       refine L5 ?_
       obtain rfl:=sI h
       exact M9 (L8 (t := .d (.tup [])) (L:=[A8 rv12]) (κ:=[0]) R .nil (vK O7 R) ⟨R,R⟩)
      intro c27
      replace h:=J0 (nL c27) h
      refine B5 R (eN (A5 R (C0 ?_)))
      obtain rfl:=sI h
      exact M9 (L8 (t := .d (.tup [])) (L:=[A8 t]) (κ:=[0]) R .nil (vK O7 R) ⟨R,R⟩)
     intro c26
     replace h:=J0 (nL c26) h
     refine A0 R (H7 3 R (C4 R (eN (A5 R (C0 ?_)))))
     obtain rfl:=sI h
     exact M9 (L8 (t := .d (.tup [])) (L:=[A8 t]) (κ:=[0]) R .nil (vK O7 R) ⟨R,R⟩)
    intro c22
    replace h:=J0 (nL c22) h
    refine A0 R (H7 3 R (C4 R (eN (A5 R (C0 (A1 (qG (A0 R (A0 R ?_)))))))))
    refine G8 R R R R ?_ ?_
    ·intro c28
     replace h:=H1 c28 h
     refine A0 R (A0 R (A0 R ?_))
     refine G8 R R R R ?_ ?_
     ·intro c29
      replace h:=H1 c29 h
      refine B5 R (eN (A9 R (E5 (I1 R R R (A0 R (A0 R (A0 R (A0 R ?_))))))))
      obtain⟨rv13,k13,h⟩:=H0 h
      refine G5 (t' := .d (.tup [])) (ls:=[A8 rv13]) (news:=[]) ([0]) ([A8 rv13]) (ih (F4 k13).1) eK R (.inl ⟨R,R,R⟩) R R R R A14 R R R ((.row .nil)) .nil R R R R ?_
      first | (dsimp only[D5,D8];rw[← (F4 k13).2]) | rw[← (F4 k13).2] | skip
      refine L5 ?_
      obtain rfl:=sI h
      exact M9 (L8 (t := .d (.tup [])) (L:=[A8 rv13]) (κ:=[0]) R .nil (vK O7 R) ⟨R,R⟩)
     intro c29
     replace h:=J0 (nL c29) h
     refine B5 R (eN (A5 R (C0 ?_)))
     obtain rfl:=sI h
     exact M9 (L8 (t := .d (.tup [])) (L:=[A8 t]) (κ:=[0]) R .nil (vK O7 R) ⟨R,R⟩)
    intro c28
    replace h:=J0 (nL c28) h
    refine A0 R (H7 3 R (C4 R (eN (A5 R (C0 ?_)))))
    obtain rfl:=sI h
    exact M9 (L8 (t := .d (.tup [])) (L:=[A8 t]) (κ:=[0]) R .nil (vK O7 R) ⟨R,R⟩)
   intro c12
   replace h:=J0 (nL c12) h
   refine A0 R (H7 3 R (C4 R (eN (A5 R (C0 (A1 (B8 (qG (A0 R (A0 R ?_))))))))))
   refine G8 R R R R ?_ ?_
   ·intro c30
    replace h:=H1 c30 h
    refine A0 R (A0 R (A0 R ?_))
    refine G8 R R R R ?_ ?_
    ·intro c31
     replace h:=H1 c31 h
     refine B5 R (eN (A9 R (E5 (I1 R R R (A0 R (A0 R (A0 R (A0 R ?_))))))))
     obtain⟨rv14,k14,h⟩:=H0 h
     refine G5 (t' := .d (.tup [])) (ls:=[A8 rv14]) (news:=[]) ([0]) ([A8 rv14]) (ih (F4 k14).1) eK R (.inl ⟨R,R,R⟩) R R R R A14 R R R ((.row .nil)) .nil R R R R ?_
     first | (dsimp only[D5,D8];rw[← (F4 k14).2]) | rw[← (F4 k14).2] | skip
     refine eN (qG (A0 R (A0 R ?_)))
     refine G8 R R R R ?_ ?_
     ·intro c32
      replace h:=H1 c32 h
      refine A0 R (A0 R (A0 R ?_))
      refine G8 R R R R ?_ ?_
      ·intro c33
       replace h:=H1 c33 h
       refine B5 R (eN (A9 R (E5 (I1 R R R (A0 R (A0 R (A0 R (A0 R ?_))))))))
       obtain⟨rv15,k15,h⟩:=H0 h
       refine G5 (t' := .d (.tup [])) (ls:=[A8 rv15]) (news:=[]) ([0]) ([A8 rv15]) (ih (F4 k15).1) eK R (.inl ⟨R,R,R⟩) R R R R A14 R R R ((.row .nil)) .nil R R R R ?_
       first | (dsimp only[D5,D8];rw[← (F4 k15).2]) | rw[← (F4 k15).2] | skip
       refine L5 ?_
       obtain rfl:=sI h
       exact M9 (L8 (t := .d (.tup [])) (L:=[A8 rv15]) (κ:=[0]) R .nil (vK O7 R) ⟨R,R⟩)
      intro c33
      replace h:=J0 (nL c33) h
      refine B5 R (eN (A5 R (C0 ?_)))
      obtain rfl:=sI h
      exact M9 (L8 (t := .d (.tup [])) (L:=[A8 rv14]) (κ:=[0]) R .nil (vK O7 R) ⟨R,R⟩)
     intro c32
     replace h:=J0 (nL c32) h
     refine A0 R (H7 3 R (C4 R (eN (A5 R (C0 ?_)))))
     obtain rfl:=sI h
     exact M9 (L8 (t := .d (.tup [])) (L:=[A8 rv14]) (κ:=[0]) R .nil (vK O7 R) ⟨R,R⟩)
    intro c31
    replace h:=J0 (nL c31) h
    refine B5 R (eN (A5 R (C0 (A1 (qG (A0 R (A0 R ?_)))))))
    refine G8 R R R R ?_ ?_
    ·intro c34
     replace h:=H1 c34 h
     refine A0 R (A0 R (A0 R ?_))
     refine G8 R R R R ?_ ?_
     ·intro c35
      replace h:=H1 c35 h
      refine B5 R (eN (A9 R (E5 (I1 R R R (A0 R (A0 R (A0 R (A0 R ?_))))))))
      obtain⟨rv16,k16,h⟩:=H0 h
      refine G5 (t' := .d (.tup [])) (ls:=[A8 rv16]) (news:=[]) ([0]) ([A8 rv16]) (ih (F4 k16).1) eK R (.inl ⟨R,R,R⟩) R R R R A14 R R R ((.row .nil)) .nil R R R R ?_
      first | (dsimp only[D5,D8];rw[← (F4 k16).2]) | rw[← (F4 k16).2] | skip
      refine L5 ?_
      obtain rfl:=sI h
      exact M9 (L8 (t := .d (.tup [])) (L:=[A8 rv16]) (κ:=[0]) R .nil (vK O7 R) ⟨R,R⟩)
     intro c35
     replace h:=J0 (nL c35) h
     refine B5 R (eN (A5 R (C0 ?_)))
     obtain rfl:=sI h
     exact M9 (L8 (t := .d (.tup [])) (L:=[A8 t]) (κ:=[0]) R .nil (vK O7 R) ⟨R,R⟩)
    intro c34
    replace h:=J0 (nL c34) h
    refine A0 R (H7 3 R (C4 R (eN (A5 R (C0 ?_)))))
    obtain rfl:=sI h
    exact M9 (L8 (t := .d (.tup [])) (L:=[A8 t]) (κ:=[0]) R .nil (vK O7 R) ⟨R,R⟩)
   intro c30
   replace h:=J0 (nL c30) h
   refine A0 R (H7 3 R (C4 R (eN (A5 R (C0 (A1 (qG (A0 R (A0 R ?_)))))))))
   refine G8 R R R R ?_ ?_
   ·intro c36
    replace h:=H1 c36 h
    refine A0 R (A0 R (A0 R ?_))
    refine G8 R R R R ?_ ?_
    ·intro c37
     replace h:=H1 c37 h
     refine B5 R (eN (A9 R (E5 (I1 R R R (A0 R (A0 R (A0 R (A0 R ?_))))))))
     obtain⟨rv17,k17,h⟩:=H0 h
     refine G5 (t' := .d (.tup [])) (ls:=[A8 rv17]) (news:=[]) ([0]) ([A8 rv17]) (ih (F4 k17).1) eK R (.inl ⟨R,R,R⟩) R R R R A14 R R R ((.row .nil)) .nil R R R R ?_
     first | (dsimp only[D5,D8];rw[← (F4 k17).2]) | rw[← (F4 k17).2] | skip
     refine L5 ?_
     obtain rfl:=sI h
     exact M9 (L8 (t := .d (.tup [])) (L:=[A8 rv17]) (κ:=[0]) R .nil (vK O7 R) ⟨R,R⟩)
    intro c37
    replace h:=J0 (nL c37) h
    refine B5 R (eN (A5 R (C0 ?_)))
    obtain rfl:=sI h
    exact M9 (L8 (t := .d (.tup [])) (L:=[A8 t]) (κ:=[0]) R .nil (vK O7 R) ⟨R,R⟩)
   intro c36
   replace h:=J0 (nL c36) h
   refine A0 R (H7 3 R (C4 R (eN (A5 R (C0 ?_)))))
   obtain rfl:=sI h
   exact M9 (L8 (t := .d (.tup [])) (L:=[A8 t]) (κ:=[0]) R .nil (vK O7 R) ⟨R,R⟩)
  intro c9
  replace h:=J0 (nL c9) h
  refine eN (A5 R (qG (A0 R (A3 R (eN (E5 (A0 R (A3 R (eN (qG (A0 R (O6 R R R R (A3 R (eN (B8 (D0 ?_))))))))))))))))
  obtain⟨K14,hK14,h⟩:∃ K,K=_∧E2 F t o a rv K F o a=some r:=⟨_,rfl,h⟩
  refine H6 (fun m st=>∃ (x12:Int) (x13:Int),E2 F t o a rv K14 m x12 x13=some r∧st=⟨[(0,.row 0 2 0 (t).length),(1,.d (vI o)),(2,.d (vI a)),(3,.d (vI rv)),(4,.d (.v (.func (.func 47) #[] #[]))),(18,.d (vI (W (I3 .u64 (IntKind.u64.wrap (W (o+rv))) 1)))),(19,.d (vI (W ((W (I3 .u64 (IntKind.u64.wrap (W (o+rv))) 1))+a)))),(20,.d (vI x12)),(21,.d (vI x13)),(22,.d (vI (W ((W ((W (I3 .u64 (IntKind.u64.wrap (W (o+rv))) 1))+a))-1))))],[A8 t]⟩) (.prn [0,1,2,3,4,18,19,20,21,22] R) ⟨o,a,h,R⟩ ?_
  clear h
  rintro m14 st ⟨x12,x13,h,rfl⟩
  cases m14 with
  | zero=>cases(show(none:Option (List A4))=some r from h)
  | succ m14 =>
  rw[E2]at h
  refine B8 (qG (A0 R (A0 R ?_)))
  refine G8 R R R R ?_ ?_
  ·intro c38
   replace h:=H1 c38 h
   refine eN (A9 R (C0 (A1 (D0 (qG (A0 R (A0 R (H4 R (A4O (k2 := .u64) R R R R R R (A6P R R dM R R (A4O (k2 := .i64) R R R R R R (A3 R (eN (B8 (P5 kR (A0 R (I1 R R R (A0 R (A0 R (O6 R R R R ?_))))))))))))))))))))
   obtain⟨e13,ie13,h⟩:=H0 h
   refine Q5 tb R R R R R R (S0 ie13) (ix1 ie13) R R ?_
   refine V2 (y:=A4.d e13) tb R R R R (Q6 (g:=fun a=>T.d (A4.d a)) ie13) R R R R ?_
   refine I1 R R R (A0 R ?_)
   obtain⟨e14,ie14,h⟩:=H0 h
   refine Q5 tb R R R R R R (S0 ie14) (ix1 ie14) R R ?_
   refine V2 (y:=A4.d e14) tb R R R R (Q6 (g:=fun a=>T.d (A4.d a)) ie14) R R R R ?_
   obtain⟨rv18,k18,h⟩:=H0 h
   refine N5 (A1e k18) eK R R R R ?_
   refine G8 R R R R ?_ ?_
   ·intro c39
    replace h:=H1 c39 h
    refine M2 R R R (F6 kR (A1 (A5 R (E5 (A0 R (A3 R (L5 (C3 (A1 ?_)))))))))
    exact⟨m14,_,lS,.prn [0,1,2,3,4,18,19,20,21,22] R,x12,(W (I3 .u64 (IntKind.u64.wrap (W (x12+x13))) 1)),h,R⟩
   intro c39
   replace h:=J0 (nL c39) h
   refine M3 R R R (F6 kR (A1 (A9 R (E5 (A0 R (H4 R (A3 R (L5 (C3 (A1 ?_))))))))))
   exact⟨m14,_,lS,.prn [0,1,2,3,4,18,19,20,21,22] R,(W ((W (I3 .u64 (IntKind.u64.wrap (W (x12+x13))) 1))+1)),x13,h,R⟩
  intro c38
  replace h:=J0 (nL c38) h
  refine eN (A5 R (I4 (C8 (C8 ?_))))
  subst hK14
  refine F3 (A1 (qG (A0 R (A0 R (O6 R R R R (A3 R (eN (B8 (qG (A0 R (A0 R ?_)))))))))))
  refine G8 R R R R ?_ ?_
  ·intro c40
   replace h:=H1 c40 h
   refine A0 R (A0 R (A0 R ?_))
   refine G8 R R R R ?_ ?_
   ·intro c41
    replace h:=H1 c41 h
    refine B5 R (eN (A9 R (E5 (I1 R R R (A0 R (A0 R (A0 R (A0 R ?_))))))))
    obtain⟨rv19,k19,h⟩:=H0 h
    refine G5 (t' := .d (.tup [])) (ls:=[A8 rv19]) (news:=[]) ([0]) ([A8 rv19]) (T0 (F4 k19).1) eK R (.inl ⟨R,R,R⟩) R R R R A14 R R R ((.row .nil)) .nil R R R R ?_
    first | (dsimp only[D5,D8];rw[← (F4 k19).2]) | rw[← (F4 k19).2] | skip
    refine eN (B8 (qG (A0 R (A0 R ?_))))
    refine G8 R R R R ?_ ?_
    ·intro c42
     replace h:=H1 c42 h
     refine A0 R (A0 R (A0 R ?_))
     refine G8 R R R R ?_ ?_
     ·intro c43
      replace h:=H1 c43 h
      refine B5 R (eN (A9 R (E5 (I1 R R R (A0 R (A0 R (A0 R (A0 R ?_))))))))
      obtain⟨rv20,k20,h⟩:=H0 h
      refine G5 (t' := .d (.tup [])) (ls:=[A8 rv20]) (news:=[]) ([0]) ([A8 rv20]) (ih (F4 k20).1) eK R (.inl ⟨R,R,R⟩) R R R R A14 R R R ((.row .nil)) .nil R R R R ?_
      first | (dsimp only[D5,D8];rw[← (F4 k20).2]) | rw[← (F4 k20).2] | skip
      refine eN (qG (A0 R (A0 R ?_)))
      refine G8 R R R R ?_ ?_
      ·intro c44
       replace h:=H1 c44 h
       refine A0 R (A0 R (A0 R ?_))
       refine G8 R R R R ?_ ?_
       ·intro c45
        replace h:=H1 c45 h
        refine B5 R (eN (A9 R (E5 (I1 R R R (A0 R (A0 R (A0 R (A0 R ?_))))))))
        obtain⟨rv21,k21,h⟩:=H0 h
        refine G5 (t' := .d (.tup [])) (ls:=[A8 rv21]) (news:=[]) ([0]) ([A8 rv21]) (ih (F4 k21).1) eK R (.inl ⟨R,R,R⟩) R R R R A14 R R R ((.row .nil)) .nil R R R R ?_
        first | (dsimp only[D5,D8];rw[← (F4 k21).2]) | rw[← (F4 k21).2] | skip
        refine L5 ?_
        obtain rfl:=sI h
        exact M9 (L8 (t := .d (.tup [])) (L:=[A8 rv21]) (κ:=[0]) R .nil (vK O7 R) ⟨R,R⟩)
       intro c45
       replace h:=J0 (nL c45) h
       refine B5 R (eN (A5 R (C0 ?_)))
       obtain rfl:=sI h
       exact M9 (L8 (t := .d (.tup [])) (L:=[A8 rv20]) (κ:=[0]) R .nil (vK O7 R) ⟨R,R⟩)
      intro c44
      replace h:=J0 (nL c44) h
      refine A0 R (H7 3 R (C4 R (eN (A5 R (C0 ?_)))))
      obtain rfl:=sI h
      exact M9 (L8 (t := .d (.tup [])) (L:=[A8 rv20]) (κ:=[0]) R .nil (vK O7 R) ⟨R,R⟩)
     intro c43
     replace h:=J0 (nL c43) h
     refine B5 R (eN (A5 R (C0 (A1 (qG (A0 R (A0 R ?_)))))))
     refine G8 R R R R ?_ ?_
     ·intro c46
      replace h:=H1 c46 h
      refine A0 R (A0 R (A0 R ?_))
      refine G8 R R R R ?_ ?_
      ·intro c47
       replace h:=H1 c47 h
       refine B5 R (eN (A9 R (E5 (I1 R R R (A0 R (A0 R (A0 R (A0 R ?_))))))))
       obtain⟨rv22,k22,h⟩:=H0 h
       refine G5 (t' := .d (.tup [])) (ls:=[A8 rv22]) (news:=[]) ([0]) ([A8 rv22]) (ih (F4 k22).1) eK R (.inl ⟨R,R,R⟩) R R R R A14 R R R ((.row .nil)) .nil R R R R ?_
       first | (dsimp only[D5,D8];rw[← (F4 k22).2]) | rw[← (F4 k22).2] | skip
       refine L5 ?_
       obtain rfl:=sI h
       exact M9 (L8 (t := .d (.tup [])) (L:=[A8 rv22]) (κ:=[0]) R .nil (vK O7 R) ⟨R,R⟩)
      intro c47
      replace h:=J0 (nL c47) h
      refine B5 R (eN (A5 R (C0 ?_)))
      obtain rfl:=sI h
      exact M9 (L8 (t := .d (.tup [])) (L:=[A8 rv19]) (κ:=[0]) R .nil (vK O7 R) ⟨R,R⟩)
     intro c46
     replace h:=J0 (nL c46) h
     refine A0 R (H7 3 R (C4 R (eN (A5 R (C0 ?_)))))
     obtain rfl:=sI h
     exact M9 (L8 (t := .d (.tup [])) (L:=[A8 rv19]) (κ:=[0]) R .nil (vK O7 R) ⟨R,R⟩)
    intro c42
    replace h:=J0 (nL c42) h
    refine A0 R (H7 3 R (C4 R (eN (A5 R (C0 (A1 (qG (A0 R (A0 R ?_)))))))))
    refine G8 R R R R ?_ ?_
    ·intro c48
     replace h:=H1 c48 h
     refine A0 R (A0 R (A0 R ?_))
     refine G8 R R R R ?_ ?_
     ·intro c49
      replace h:=H1 c49 h
      refine B5 R (eN (A9 R (E5 (I1 R R R (A0 R (A0 R (A0 R (A0 R ?_))))))))
      obtain⟨rv23,k23,h⟩:=H0 h
      refine G5 (t' := .d (.tup [])) (ls:=[A8 rv23]) (news:=[]) ([0]) ([A8 rv23]) (ih (F4 k23).1) eK R (.inl ⟨R,R,R⟩) R R R R A14 R R R ((.row .nil)) .nil R R R R ?_
      first | (dsimp only[D5,D8];rw[← (F4 k23).2]) | rw[← (F4 k23).2] | skip
      refine L5 ?_
      obtain rfl:=sI h
      exact M9 (L8 (t := .d (.tup [])) (L:=[A8 rv23]) (κ:=[0]) R .nil (vK O7 R) ⟨R,R⟩)
     intro c49
     replace h:=J0 (nL c49) h
     refine B5 R (eN (A5 R (C0 ?_)))
     obtain rfl:=sI h
     exact M9 (L8 (t := .d (.tup [])) (L:=[A8 rv19]) (κ:=[0]) R .nil (vK O7 R) ⟨R,R⟩)
    intro c48
    replace h:=J0 (nL c48) h
    refine A0 R (H7 3 R (C4 R (eN (A5 R (C0 ?_)))))
    obtain rfl:=sI h
    exact M9 (L8 (t := .d (.tup [])) (L:=[A8 rv19]) (κ:=[0]) R .nil (vK O7 R) ⟨R,R⟩)
   intro c41
   replace h:=J0 (nL c41) h
   refine B5 R (eN (A5 R (C0 (A1 (B8 (qG (A0 R (A0 R ?_))))))))
   refine G8 R R R R ?_ ?_
   ·intro c50
    replace h:=H1 c50 h
    refine A0 R (A0 R (A0 R ?_))
    refine G8 R R R R ?_ ?_
    ·intro c51
     replace h:=H1 c51 h
     refine B5 R (eN (A9 R (E5 (I1 R R R (A0 R (A0 R (A0 R (A0 R ?_))))))))
     obtain⟨rv24,k24,h⟩:=H0 h
     refine G5 (t' := .d (.tup [])) (ls:=[A8 rv24]) (news:=[]) ([0]) ([A8 rv24]) (ih (F4 k24).1) eK R (.inl ⟨R,R,R⟩) R R R R A14 R R R ((.row .nil)) .nil R R R R ?_
     first | (dsimp only[D5,D8];rw[← (F4 k24).2]) | rw[← (F4 k24).2] | skip
     refine eN (qG (A0 R (A0 R ?_)))
     refine G8 R R R R ?_ ?_
     ·intro c52
      replace h:=H1 c52 h
      refine A0 R (A0 R (A0 R ?_))
      refine G8 R R R R ?_ ?_
      ·intro c53
       replace h:=H1 c53 h
       refine B5 R (eN (A9 R (E5 (I1 R R R (A0 R (A0 R (A0 R (A0 R ?_))))))))
       obtain⟨rv25,k25,h⟩:=H0 h
       refine G5 (t' := .d (.tup [])) (ls:=[A8 rv25]) (news:=[]) ([0]) ([A8 rv25]) (ih (F4 k25).1) eK R (.inl ⟨R,R,R⟩) R R R R A14 R R R ((.row .nil)) .nil R R R R ?_
       first | (dsimp only[D5,D8];rw[← (F4 k25).2]) | rw[← (F4 k25).2] | skip
       refine L5 ?_
       obtain rfl:=sI h
       exact M9 (L8 (t := .d (.tup [])) (L:=[A8 rv25]) (κ:=[0]) R .nil (vK O7 R) ⟨R,R⟩)
      intro c53
      replace h:=J0 (nL c53) h
      refine B5 R (eN (A5 R (C0 ?_)))
      obtain rfl:=sI h
      exact M9 (L8 (t := .d (.tup [])) (L:=[A8 rv24]) (κ:=[0]) R .nil (vK O7 R) ⟨R,R⟩)
     intro c52
     replace h:=J0 (nL c52) h
     refine A0 R (H7 3 R (C4 R (eN (A5 R (C0 ?_)))))
     obtain rfl:=sI h
     exact M9 (L8 (t := .d (.tup [])) (L:=[A8 rv24]) (κ:=[0]) R .nil (vK O7 R) ⟨R,R⟩)
    intro c51
    replace h:=J0 (nL c51) h
    refine B5 R (eN (A5 R (C0 (A1 (qG (A0 R (A0 R ?_)))))))
    refine G8 R R R R ?_ ?_
    ·intro c54
     replace h:=H1 c54 h
     refine A0 R (A0 R (A0 R ?_))
     refine G8 R R R R ?_ ?_
     ·intro c55
      replace h:=H1 c55 h
      refine B5 R (eN (A9 R (E5 (I1 R R R (A0 R (A0 R (A0 R (A0 R ?_))))))))
      obtain⟨rv26,k26,h⟩:=H0 h
      refine G5 (t' := .d (.tup [])) (ls:=[A8 rv26]) (news:=[]) ([0]) ([A8 rv26]) (ih (F4 k26).1) eK R (.inl ⟨R,R,R⟩) R R R R A14 R R R ((.row .nil)) .nil R R R R ?_
      first | (dsimp only[D5,D8];rw[← (F4 k26).2]) | rw[← (F4 k26).2] | skip
      refine L5 ?_
      obtain rfl:=sI h
      exact M9 (L8 (t := .d (.tup [])) (L:=[A8 rv26]) (κ:=[0]) R .nil (vK O7 R) ⟨R,R⟩)
     intro c55
     replace h:=J0 (nL c55) h
     refine B5 R (eN (A5 R (C0 ?_)))
     obtain rfl:=sI h
     exact M9 (L8 (t := .d (.tup [])) (L:=[A8 t]) (κ:=[0]) R .nil (vK O7 R) ⟨R,R⟩)
    intro c54
    replace h:=J0 (nL c54) h
    refine A0 R (H7 3 R (C4 R (eN (A5 R (C0 ?_)))))
    obtain rfl:=sI h
    exact M9 (L8 (t := .d (.tup [])) (L:=[A8 t]) (κ:=[0]) R .nil (vK O7 R) ⟨R,R⟩)
   intro c50
   replace h:=J0 (nL c50) h
   refine A0 R (H7 3 R (C4 R (eN (A5 R (C0 (A1 (qG (A0 R (A0 R ?_)))))))))
   refine G8 R R R R ?_ ?_
   ·intro c56
    replace h:=H1 c56 h
    refine A0 R (A0 R (A0 R ?_))
    refine G8 R R R R ?_ ?_
    ·intro c57
     replace h:=H1 c57 h
     refine B5 R (eN (A9 R (E5 (I1 R R R (A0 R (A0 R (A0 R (A0 R ?_))))))))
     obtain⟨rv27,k27,h⟩:=H0 h
     refine G5 (t' := .d (.tup [])) (ls:=[A8 rv27]) (news:=[]) ([0]) ([A8 rv27]) (ih (F4 k27).1) eK R (.inl ⟨R,R,R⟩) R R R R A14 R R R ((.row .nil)) .nil R R R R ?_
     first | (dsimp only[D5,D8];rw[← (F4 k27).2]) | rw[← (F4 k27).2] | skip
     refine L5 ?_
     obtain rfl:=sI h
     exact M9 (L8 (t := .d (.tup [])) (L:=[A8 rv27]) (κ:=[0]) R .nil (vK O7 R) ⟨R,R⟩)
    intro c57
    replace h:=J0 (nL c57) h
    refine B5 R (eN (A5 R (C0 ?_)))
    obtain rfl:=sI h
    exact M9 (L8 (t := .d (.tup [])) (L:=[A8 t]) (κ:=[0]) R .nil (vK O7 R) ⟨R,R⟩)
   intro c56
   replace h:=J0 (nL c56) h
   refine A0 R (H7 3 R (C4 R (eN (A5 R (C0 ?_)))))
   obtain rfl:=sI h
   exact M9 (L8 (t := .d (.tup [])) (L:=[A8 t]) (κ:=[0]) R .nil (vK O7 R) ⟨R,R⟩)
  intro c40
  replace h:=J0 (nL c40) h
  refine A0 R (H7 3 R (C4 R (eN (A5 R (C0 (A1 (B8 (qG (A0 R (A0 R ?_))))))))))
  refine G8 R R R R ?_ ?_
  ·intro c58
   replace h:=H1 c58 h
   refine A0 R (A0 R (A0 R ?_))
   refine G8 R R R R ?_ ?_
   ·intro c59
    replace h:=H1 c59 h
    refine B5 R (eN (A9 R (E5 (I1 R R R (A0 R (A0 R (A0 R (A0 R ?_))))))))
    obtain⟨rv28,k28,h⟩:=H0 h
    refine G5 (t' := .d (.tup [])) (ls:=[A8 rv28]) (news:=[]) ([0]) ([A8 rv28]) (ih (F4 k28).1) eK R (.inl ⟨R,R,R⟩) R R R R A14 R R R ((.row .nil)) .nil R R R R ?_
    first | (dsimp only[D5,D8];rw[← (F4 k28).2]) | rw[← (F4 k28).2] | skip
    refine eN (qG (A0 R (A0 R ?_)))
    refine G8 R R R R ?_ ?_
    ·intro c60
     replace h:=H1 c60 h
     refine A0 R (A0 R (A0 R ?_))
     refine G8 R R R R ?_ ?_
     ·intro c61
      replace h:=H1 c61 h
      refine B5 R (eN (A9 R (E5 (I1 R R R (A0 R (A0 R (A0 R (A0 R ?_))))))))
      obtain⟨rv29,k29,h⟩:=H0 h
      refine G5 (t' := .d (.tup [])) (ls:=[A8 rv29]) (news:=[]) ([0]) ([A8 rv29]) (ih (F4 k29).1) eK R (.inl ⟨R,R,R⟩) R R R R A14 R R R ((.row .nil)) .nil R R R R ?_
      first | (dsimp only[D5,D8];rw[← (F4 k29).2]) | rw[← (F4 k29).2] | skip
      refine L5 ?_
      obtain rfl:=sI h
      exact M9 (L8 (t := .d (.tup [])) (L:=[A8 rv29]) (κ:=[0]) R .nil (vK O7 R) ⟨R,R⟩)
     intro c61
     replace h:=J0 (nL c61) h
     refine B5 R (eN (A5 R (C0 ?_)))
     obtain rfl:=sI h
     exact M9 (L8 (t := .d (.tup [])) (L:=[A8 rv28]) (κ:=[0]) R .nil (vK O7 R) ⟨R,R⟩)
    intro c60
    replace h:=J0 (nL c60) h
    refine A0 R (H7 3 R (C4 R (eN (A5 R (C0 ?_)))))
    obtain rfl:=sI h
    exact M9 (L8 (t := .d (.tup [])) (L:=[A8 rv28]) (κ:=[0]) R .nil (vK O7 R) ⟨R,R⟩)
   intro c59
   replace h:=J0 (nL c59) h
   refine B5 R (eN (A5 R (C0 (A1 (qG (A0 R (A0 R ?_)))))))
   refine G8 R R R R ?_ ?_
   ·intro c62
    replace h:=H1 c62 h
    refine A0 R (A0 R (A0 R ?_))
    refine G8 R R R R ?_ ?_
    ·intro c63
     replace h:=H1 c63 h
     refine B5 R (eN (A9 R (E5 (I1 R R R (A0 R (A0 R (A0 R (A0 R ?_))))))))
     obtain⟨rv30,k30,h⟩:=H0 h
     refine G5 (t' := .d (.tup [])) (ls:=[A8 rv30]) (news:=[]) ([0]) ([A8 rv30]) (ih (F4 k30).1) eK R (.inl ⟨R,R,R⟩) R R R R A14 R R R ((.row .nil)) .nil R R R R ?_
     first | (dsimp only[D5,D8];rw[← (F4 k30).2]) | rw[← (F4 k30).2] | skip
     refine L5 ?_
     obtain rfl:=sI h
     exact M9 (L8 (t := .d (.tup [])) (L:=[A8 rv30]) (κ:=[0]) R .nil (vK O7 R) ⟨R,R⟩)
    intro c63
    replace h:=J0 (nL c63) h
    refine B5 R (eN (A5 R (C0 ?_)))
    obtain rfl:=sI h
    exact M9 (L8 (t := .d (.tup [])) (L:=[A8 t]) (κ:=[0]) R .nil (vK O7 R) ⟨R,R⟩)
   intro c62
   replace h:=J0 (nL c62) h
   refine A0 R (H7 3 R (C4 R (eN (A5 R (C0 ?_)))))
   obtain rfl:=sI h
   exact M9 (L8 (t := .d (.tup [])) (L:=[A8 t]) (κ:=[0]) R .nil (vK O7 R) ⟨R,R⟩)
  intro c58
  replace h:=J0 (nL c58) h
  refine A0 R (H7 3 R (C4 R (eN (A5 R (C0 (A1 (qG (A0 R (A0 R ?_)))))))))
  refine G8 R R R R ?_ ?_
  ·intro c64
   replace h:=H1 c64 h
   refine A0 R (A0 R (A0 R ?_))
   refine G8 R R R R ?_ ?_
   ·intro c65
    replace h:=H1 c65 h
    refine B5 R (eN (A9 R (E5 (I1 R R R (A0 R (A0 R (A0 R (A0 R ?_))))))))
    obtain⟨rv31,k31,h⟩:=H0 h
    refine G5 (t' := .d (.tup [])) (ls:=[A8 rv31]) (news:=[]) ([0]) ([A8 rv31]) (ih (F4 k31).1) eK R (.inl ⟨R,R,R⟩) R R R R A14 R R R ((.row .nil)) .nil R R R R ?_
    first | (dsimp only[D5,D8];rw[← (F4 k31).2]) | rw[← (F4 k31).2] | skip
    refine L5 ?_
    obtain rfl:=sI h
    exact M9 (L8 (t := .d (.tup [])) (L:=[A8 rv31]) (κ:=[0]) R .nil (vK O7 R) ⟨R,R⟩)
   intro c65
   replace h:=J0 (nL c65) h
   refine B5 R (eN (A5 R (C0 ?_)))
   obtain rfl:=sI h
   exact M9 (L8 (t := .d (.tup [])) (L:=[A8 t]) (κ:=[0]) R .nil (vK O7 R) ⟨R,R⟩)
  intro c64
  replace h:=J0 (nL c64) h
  refine A0 R (H7 3 R (C4 R (eN (A5 R (C0 ?_)))))
  obtain rfl:=sI h
  exact M9 (L8 (t := .d (.tup [])) (L:=[A8 t]) (κ:=[0]) R .nil (vK O7 R) ⟨R,R⟩)
theorem S4 {F:Nat} {t:(List A4)} {o:Int} {a:Int} {rv:Int} {r:(List A4)} (h:K0 F t o a rv=some r):SCR Tryz.prog 110 [.row 0 2 0 (t).length,.d (.v (.int .i64 o)),.d (.v (.int .i64 a)),.d (.v (.int .i64 rv)),.d (.v (.func (.func 47) #[] #[]))] [A8 t] (.d (.tup [])) [A8 r]:=Z6 h
def G6 (F:Nat) (nv:Int) (blockSize:Int) (K:(List A4)→Int→Int→Option (List A4)):Nat→(List A4)→Int→Int→Option (List A4)
 | 0,_,_,_=>none
 | n+1,data4,a2,b2=>if b2≤nv then((Y3 (K0 F data4 a2 (W (a2+blockSize)) b2) data4).bind fun rv3=>G6 F nv blockSize K n rv3 b2 (W (b2+(W (2*blockSize)))))else(K data4 a2 b2)
def D2 (F:Nat) (nv:Int) (K:(List A4)→Int→Option (List A4)):Nat→(List A4)→Int→Option (List A4)
 | 0,_,_=>none
 | n+1,data3,blockSize=>if blockSize<nv then(G6 F nv blockSize (fun(data4:(List A4)) (a2:Int) (b2:Int)=>if(W (a2+blockSize))<nv then((Y3 (K0 F data4 a2 (W (a2+blockSize)) nv) data4).bind fun rv4=>D2 F nv K n rv4 (W (blockSize*2)))else(D2 F nv K n data4 (W (blockSize*2)))) F data3 0 (W (2*blockSize)))else(K data3 blockSize)
def D7 (F:Nat) (nv:Int) (K:(List A4)→Int→Int→Option (List A4)):Nat→(List A4)→Int→Int→Option (List A4)
 | 0,_,_,_=>none
 | n+1,data2,a,b=>if b≤nv then((Y3 (G1 F data2 a b) data2).bind fun rv=>D7 F nv K n rv b (W (b+20)))else(K data2 a b)
def L6 (F:Nat) (data:(List A4)) (nv:Int):Option (List A4):=D7 F nv (fun(data2:(List A4)) (a:Int) (b:Int)=>(Y3 (G1 F data2 a nv) data2).bind fun rv2=>D2 F nv (fun(data3:(List A4)) (blockSize:Int)=>some data3) F rv2 20) F data 0 20
theorem A0s {F:Nat} {data:(List A4)} {nv:Int} {r:(List A4)} (h:L6 F data nv=some r):SCR Tryz.prog 84 [.row 0 2 0 (data).length,.d (.v (.int .i64 nv)),.d (.v (.func (.func 47) #[] #[]))] [A8 data] (.d (.tup [])) [A8 r]:=by
 rw[L6]at h
 refine SC.of_sw Tryz.func84 R R R ?_
 dsimp only[M1,List.map]
 refine qG (A3 R (eN (qG (A0 R (A3 R (A3 R (eN (B8 (D0 ?_)))))))))
 obtain⟨K2,hK2,h⟩:∃ K,K=_∧D7 F nv K F data 0 20=some r:=⟨_,rfl,h⟩
 refine H6 (fun m st=>∃ (data2:(List A4)) (a:Int) (b:Int),D7 F nv K2 m data2 a b=some r∧st=⟨[(0,.row 0 2 0 (data2).length),(1,.d (vI nv)),(2,.d (.v (.func (.func 47) #[] #[]))),(6,.d (vI 20)),(7,.d (vI a)),(8,.d (vI b))],[A8 data2]⟩) (.prn [0,1,2,6,7,8] R) ⟨data,0,20,h,R⟩ ?_
 clear h
 rintro m2 st ⟨data2,a,b,h,rfl⟩
 cases m2 with
 | zero=>cases(show(none:Option (List A4))=some r from h)
 | succ m2 =>
 rw[D7]at h
 refine B8 (qG (A0 R (A0 R ?_)))
 refine A7A R R R R ?_ ?_
 ·intro c
  replace h:=H1 c h
  refine eN (A9 R (C0 (A1 (D0 (qG (I1 R R R (A0 R (A0 R (A0 R ?_)))))))))
  obtain⟨rv,k,h⟩:=H0 h
  refine G5 (t' := .d (.tup [])) (ls:=[A8 rv]) (news:=[]) ([0]) ([A8 rv]) (Q8 (F4 k).1) eK R (.inl ⟨R,R,R⟩) R R R R A14 R R R ((.row .nil)) .nil R R R R ?_
  first | (dsimp only[D5,D8];rw[← (F4 k).2]) | rw[← (F4 k).2] | skip
  refine eN (qG (A0 R (A3 R (eN (E5 (A0 R (A0 R (H4 R (A3 R (L5 (C3 (A1 ?_))))))))))))
  exact⟨m2,_,lS,.prn [0,1,2,6,7,8] R,rv,b,(W (b+20)),h,R⟩
 intro c
 replace h:=J0 (Int.not_le.2 c) h
 refine eN (A5 R (I4 (C8 (C8 ?_))))
 subst hK2
 refine F3 (A1 (qG (I1 R R R (A0 R (A0 R (A0 R ?_))))))
 obtain⟨rv2,k2,h⟩:=H0 h
 refine G5 (t' := .d (.tup [])) (ls:=[A8 rv2]) (news:=[]) ([0]) ([A8 rv2]) (Q8 (F4 k2).1) eK R (.inl ⟨R,R,R⟩) R R R R A14 R R R ((.row .nil)) .nil R R R R ?_
 first | (dsimp only[D5,D8];rw[← (F4 k2).2]) | rw[← (F4 k2).2] | skip
 refine eN (D0 ?_)
 obtain⟨K6,hK6,h⟩:∃ K,K=_∧D2 F nv K F rv2 20=some r:=⟨_,rfl,h⟩
 refine H6 (fun m st=>∃ (data3:(List A4)) (blockSize:Int),D2 F nv K6 m data3 blockSize=some r∧st=⟨[(0,.row 0 2 0 (data3).length),(1,.d (vI nv)),(2,.d (.v (.func (.func 47) #[] #[]))),(6,.d (vI blockSize))],[A8 data3]⟩) (.prn [0,1,2,6] R) ⟨rv2,20,h,R⟩ ?_
 clear h
 rintro m6 st ⟨data3,blockSize,h,rfl⟩
 cases m6 with
 | zero=>cases(show(none:Option (List A4))=some r from h)
 | succ m6 =>
 rw[D2]at h
 refine B8 (qG (A0 R (A0 R ?_)))
 refine G8 R R R R ?_ ?_
 ·intro c2
  replace h:=H1 c2 h
  refine eN (A9 R (C0 (A1 (D0 (qG (A0 R (A0L R R R R (A3 R (A3 R (eN (B8 (D0 ?_))))))))))))
  obtain⟨K7,hK7,h⟩:∃ K,K=_∧G6 F nv blockSize K F data3 0 (W (2*blockSize))=some r:=⟨_,rfl,h⟩
  refine H6 (fun m st=>∃ (data4:(List A4)) (a2:Int) (b2:Int),G6 F nv blockSize K7 m data4 a2 b2=some r∧st=⟨[(0,.row 0 2 0 (data4).length),(1,.d (vI nv)),(2,.d (.v (.func (.func 47) #[] #[]))),(6,.d (vI blockSize)),(7,.d (vI a2)),(8,.d (vI b2))],[A8 data4]⟩) (.prn [0,1,2,6,7,8] R) ⟨data3,0,(W (2*blockSize)),h,R⟩ ?_
  clear h
  rintro m7 st ⟨data4,a2,b2,h,rfl⟩
  cases m7 with
  | zero=>cases(show(none:Option (List A4))=some r from h)
  | succ m7 =>
  rw[G6]at h
  refine B8 (qG (A0 R (A0 R ?_)))
  refine A7A R R R R ?_ ?_
  ·intro c3
   replace h:=H1 c3 h
   refine eN (A9 R (C0 (A1 (D0 (qG (I1 R R R (A0 R (A0 R (A0 R (H4 R (A0 R (A0 R ?_))))))))))))
   obtain⟨rv3,k3,h⟩:=H0 h
   refine G5 (t' := .d (.tup [])) (ls:=[A8 rv3]) (news:=[]) ([0]) ([A8 rv3]) (S4 (F4 k3).1) eK R (.inl ⟨R,R,R⟩) R R R R A14 R R R ((.row .nil)) .nil R R R R ?_
   first | (dsimp only[D5,D8];rw[← (F4 k3).2]) | rw[← (F4 k3).2] | skip
   refine eN (qG (A0 R (A3 R (eN (E5 (A0 R (A0 R (A0L R R R R (H4 R (A3 R (L5 (C3 (A1 ?_)))))))))))))
   exact⟨m7,_,lS,.prn [0,1,2,6,7,8] R,rv3,b2,(W (b2+(W (2*blockSize)))),h,R⟩
  intro c3
  replace h:=J0 (Int.not_le.2 c3) h
  refine eN (A5 R (I4 (C8 (C8 ?_))))
  subst hK7
  refine F3 (A1 (B8 (qG (A0 R (A0 R (H4 R (A3 R (eN (qG (A0 R (A0 R ?_)))))))))))
  refine G8 R R R R ?_ ?_
  ·intro c4
   replace h:=H1 c4 h
   refine eN (A9 R (E5 (I1 R R R (A0 R (A0 R (A0 R (A0 R ?_)))))))
   obtain⟨rv4,k4,h⟩:=H0 h
   refine G5 (t' := .d (.tup [])) (ls:=[A8 rv4]) (news:=[]) ([0]) ([A8 rv4]) (S4 (F4 k4).1) eK R (.inl ⟨R,R,R⟩) R R R R A14 R R R ((.row .nil)) .nil R R R R ?_
   first | (dsimp only[D5,D8];rw[← (F4 k4).2]) | rw[← (F4 k4).2] | skip
   refine eN (E5 (A0 R (A0L R R R R (A3 R (L5 (C3 (A1 ?_)))))))
   exact⟨m6,_,lS,.prn [0,1,2,6] R,rv4,(W (blockSize*2)),h,R⟩
  intro c4
  replace h:=J0 (nL c4) h
  refine eN (A5 R (C0 (A1 (E5 (A0 R (A0L R R R R (A3 R (L5 (C3 (A1 ?_))))))))))
  exact⟨m6,_,lS,.prn [0,1,2,6] R,data4,(W (blockSize*2)),h,R⟩
 intro c2
 replace h:=J0 (nL c2) h
 refine eN (A5 R (I4 (C8 (C8 ?_))))
 subst hK6
 refine F3 ?_
 obtain rfl:=sI h
 exact M9 (L8 (t := .d (.tup [])) (L:=[A8 data3]) (κ:=[0]) R .nil (vK O7 R) ⟨R,R⟩)
def J1 (F:Nat) (x:(List A4)):Option (List A4):=(Y3 (L6 F x (x.length:Int)) x).bind fun rv=>some rv
theorem A0q {F:Nat} {x:(List A4)} {r:(List A4)} (h:J1 F x=some r):SCR Tryz.prog 46 [.row 0 2 0 (x).length,.d (.v (.func (.func 47) #[] #[]))] [A8 x] (.d (.tup [])) [A8 r]:=by
 rw[J1]at h
 refine SC.of_sw Tryz.func46 R R R ?_
 dsimp only[M1,List.map]
 refine E5 (I1 R R R (I1 R R R (A3y tb R R R R R (A0 R ?_))))
 obtain⟨rv,k,h⟩:=H0 h
 refine G5 (t' := .d (.tup [])) (ls:=[A8 rv]) (news:=[]) ([0]) ([A8 rv]) (A0s (F4 k).1) eK R (.inl ⟨R,R,R⟩) R R R R A14 R R R ((.row .nil)) .nil R R R R ?_
 first | (dsimp only[D5,D8];rw[← (F4 k).2]) | rw[← (F4 k).2] | skip
 refine L5 ?_
 obtain rfl:=sI h
 exact M9 (L8 (t := .d (.tup [])) (L:=[A8 rv]) (κ:=[0]) R .nil (vK O7 R) ⟨R,R⟩)
end Go.Proofs.YthcnganbnbhhoaaGreat
