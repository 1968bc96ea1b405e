/- What functions of the program compute: plain functions, and the proofs. -/
import Derived.Test.YtlaogbbcipebgaaGreatW3
set_option linter.unusedVariables false
set_option linter.unusedSimpArgs false
open Go Go.Proofs.YtlaogbbcipebgaaGreat.Sh Go.Proofs
namespace Go.Proofs.YtlaogbbcipebgaaGreat
set_option maxRecDepth 100000
set_option maxHeartbeats 40000000
def Q9 (F:Nat) (after:(List F6)) (after2:(List G6)) (after3:(List E2)) (after4:(List ByteArray)) (after5:(List D1)) (after6:Int) (after7:Int) (after8:(List ByteArray)) (after9:(List D9)) (after10:(List E0)) (after11:(List Int)) (after12:Int) (after13:Int) (after14:Int) (after15:Int) (after16:(List Int)) (after17:(List Int)) (after18:(List Int)) (after19:Int) (after20:Bool) (after21:(List Int)) (after22:(List Int)) (after23:Bool) (after24:(List Bool)) (after25:(List Int)) (after26:(List Bool)):Option (Except Int F7):=some (.ok (F7.mk after after2 after3 after4 after5 after6 after7 after8 after9 after10 after11 after12 after13 after14 after15 after16 after17 after18 after19 after20 after21 after22 after23 after24 after25 after26))
def A1F (F:Nat) (d:F7) (e:C7):Option (Except Int F7):=(P4 F (decide (d.H6≤e.at_)) 180).bind fun rv=>exE rv (fun x=>some (.error x)) (fun v=>(U8 F d).bind fun rv2=>(Y5 F d rv2).bind fun rv3=>(P4 F (!rv3) 181).bind fun rv4=>exE rv4 (fun x3=>some (.error x3)) (fun v2=>(A0Y F d).bind fun rv5=>(A2V F rv5 e.at_).bind fun rv6=>if e.kind=0 then(none)else if e.kind=1 then((A0X F rv6 e).bind fun rv7=>exE rv7 (fun x5=>some (.error x5)) (fun v3=>Q9 F v3.H0 v3.G8 v3.G2 v3.H4 v3.G3 v3.G9 v3.H5 v3.H9 v3.E7 v3.F8 v3.I9 v3.D8 v3.G0 v3.H6 v3.G5 v3.F5 v3.E8 v3.E5 v3.F3 v3.F4 v3.A1 v3.A5 v3.F9 v3.B1 v3.A7 v3.B0))else if e.kind=2 then((A1O F rv6 e).bind fun rv8=>exE rv8 (fun x7=>some (.error x7)) (fun v4=>Q9 F v4.H0 v4.G8 v4.G2 v4.H4 v4.G3 v4.G9 v4.H5 v4.H9 v4.E7 v4.F8 v4.I9 v4.D8 v4.G0 v4.H6 v4.G5 v4.F5 v4.E8 v4.E5 v4.F3 v4.F4 v4.A1 v4.A5 v4.F9 v4.B1 v4.A7 v4.B0))else if e.kind=3 then((A08 F rv6 e).bind fun rv9=>exE rv9 (fun x9=>some (.error x9)) (fun v5=>Q9 F v5.H0 v5.G8 v5.G2 v5.H4 v5.G3 v5.G9 v5.H5 v5.H9 v5.E7 v5.F8 v5.I9 v5.D8 v5.G0 v5.H6 v5.G5 v5.F5 v5.E8 v5.E5 v5.F3 v5.F4 v5.A1 v5.A5 v5.F9 v5.B1 v5.A7 v5.B0))else if e.kind=4 then((A08 F rv6 e).bind fun rv10=>exE rv10 (fun x11=>some (.error x11)) (fun v6=>Q9 F v6.H0 v6.G8 v6.G2 v6.H4 v6.G3 v6.G9 v6.H5 v6.H9 v6.E7 v6.F8 v6.I9 v6.D8 v6.G0 v6.H6 v6.G5 v6.F5 v6.E8 v6.E5 v6.F3 v6.F4 v6.A1 v6.A5 v6.F9 v6.B1 v6.A7 v6.B0))else if e.kind=5 then((A0K F rv6 e).bind fun rv11=>exE rv11 (fun x13=>some (.error x13)) (fun v7=>Q9 F v7.H0 v7.G8 v7.G2 v7.H4 v7.G3 v7.G9 v7.H5 v7.H9 v7.E7 v7.F8 v7.I9 v7.D8 v7.G0 v7.H6 v7.G5 v7.F5 v7.E8 v7.E5 v7.F3 v7.F4 v7.A1 v7.A5 v7.F9 v7.B1 v7.A7 v7.B0))else if e.kind=6 then((A0K F rv6 e).bind fun rv12=>exE rv12 (fun x15=>some (.error x15)) (fun v8=>Q9 F v8.H0 v8.G8 v8.G2 v8.H4 v8.G3 v8.G9 v8.H5 v8.H9 v8.E7 v8.F8 v8.I9 v8.D8 v8.G0 v8.H6 v8.G5 v8.F5 v8.E8 v8.E5 v8.F3 v8.F4 v8.A1 v8.A5 v8.F9 v8.B1 v8.A7 v8.B0))else if e.kind=7 then((A05 F rv6 e).bind fun rv13=>exE rv13 (fun x17=>some (.error x17)) (fun v9=>Q9 F v9.H0 v9.G8 v9.G2 v9.H4 v9.G3 v9.G9 v9.H5 v9.H9 v9.E7 v9.F8 v9.I9 v9.D8 v9.G0 v9.H6 v9.G5 v9.F5 v9.E8 v9.E5 v9.F3 v9.F4 v9.A1 v9.A5 v9.F9 v9.B1 v9.A7 v9.B0))else if e.kind=8 then((A1N F rv6 e).bind fun rv14=>exE rv14 (fun x19=>some (.error x19)) (fun v10=>Q9 F v10.H0 v10.G8 v10.G2 v10.H4 v10.G3 v10.G9 v10.H5 v10.H9 v10.E7 v10.F8 v10.I9 v10.D8 v10.G0 v10.H6 v10.G5 v10.F5 v10.E8 v10.E5 v10.F3 v10.F4 v10.A1 v10.A5 v10.F9 v10.B1 v10.A7 v10.B0))else if e.kind=9 then((A0G F rv6 e).bind fun rv15=>exE rv15 (fun x21=>some (.error x21)) (fun v11=>Q9 F v11.H0 v11.G8 v11.G2 v11.H4 v11.G3 v11.G9 v11.H5 v11.H9 v11.E7 v11.F8 v11.I9 v11.D8 v11.G0 v11.H6 v11.G5 v11.F5 v11.E8 v11.E5 v11.F3 v11.F4 v11.A1 v11.A5 v11.F9 v11.B1 v11.A7 v11.B0))else none))
theorem A8j {x1 x2 c2:Code} {o2:Operand} (hb:Tryz.f96.body=some (.seq x1 (.seq x2 (.cond o2 c2 .skip)))):DfK Tryz.prog 96 c2 10 3 43:=by
 unfold Tryz.f96 at hb
 injection hb with hb
 injection hb with _ hb
 injection hb with _ hb
 injection hb with _ hb _
 subst hb
 refine⟨fun ds w hds=>?_,fun ds v older w R hds ⟨E,hv⟩ H=>?_⟩
 ·obtain⟨d0,d1,d2,rfl⟩:∃ d0 d1 d2,ds=#[d0,d1,d2]:=by
   obtain⟨l⟩:=ds
   match l,hds with
   | [d0,d1,d2],_=>exact⟨d0,d1,d2,rfl⟩
  refine callsDIn_of_wpSIn Tryz.func96 (by rfl) trivial fun c₀ cs hu=>?_
  apply wpSIn_seq
  apply wpSIn_region
  simp[wpOpsSIn,go_sem,recoverD,hu,Tryz.ntmps96,Exit.thenS]
  apply wpSIn_seq
  apply wpSIn_region
  simp[wpOpsSIn,go_sem,Exit.thenS]
  refine wpSIn_cond (t:=false) (by simp[Act.eval,Array.replicate]) ?_
  simp only[Bool.false_eq_true,if_false]
  refine wpSIn_of_wpIn (by rfl) (wpIn_skip ?_)
  cases c₀
  simp_all [bodyPostS,results,Tryz.results96]
 ·subst hv
  obtain⟨d0,d1,d2,rfl⟩:∃ d0 d1 d2,ds=#[d0,d1,d2]:=by
   obtain⟨l⟩:=ds
   match l,hds with
   | [d0,d1,d2],_=>exact⟨d0,d1,d2,rfl⟩
  refine callsDIn_of_wpSIn Tryz.func96 (by rfl) trivial fun c₀ cs hu=>?_
  apply wpSIn_seq
  apply wpSIn_region
  simp[wpOpsSIn,go_sem,recoverD,hu,Tryz.ntmps96,Exit.thenS]
  apply wpSIn_seq
  apply wpSIn_region
  simp[wpOpsSIn,go_sem,Exit.thenS]
  refine wpSIn_cond (t:=true) (by simp[Act.eval,Array.replicate]) ?_
  simp only[if_true]
  refine wpSIn_of_wpIn (by rfl) (wpIn_mono (H _ (by rfl) ?_ ?_ ?_) ?_)
  ·simp[Array.replicate]
  ·intro i hi
   match i,hi with
   | 0,_=>rfl
   | 1,_=>rfl
   | 2,_=>rfl
  ·simp[Array.replicate]
  ·rintro ex a' w' ⟨rfl,h2,h3⟩
   cases c₀
   simp_all [bodyPostS,results,Tryz.results96]
theorem A5p {F:Nat} {d:F7} {e:C7} (x2:Int) {xa xb c2:Code} {o2:Operand} (hb:Tryz.f96.body=some (.seq xa (.seq xb (.cond o2 c2 .skip)))):SW Tryz.prog 10 10 [] c2 (fun sx st2=>sx = .norm∧Fin Tryz.prog Tryz.f59 6 (fun se X=>(∃ a:F7,(Except.error x2:Except Int F7) = .ok a∧se = .ret (.tup [.ref 6 26 0 0,.d (.v (.int .i64 0))])∧X=(B6X d [bx 26 (C5 a 7 8 9 10 11),B0u a.A1,B0u a.A5,B9r a.B1,B0u a.A7,B9r a.B0]))∨∃ e,(Except.error x2:Except Int F7) = .error e∧se = .ret (.tup [.ref 0 26 0 0,.d (.v (.int .i64 e))])∧X=(B6X d [])) .ret ⟨[(4,.ref 8 1 0 0),(5,.ref 9 1 0 0)],st2.L⟩) ⟨A8Q 0 ([.ref 6 1 0 0,.ref 8 1 0 0,.ref 9 1 0 0]++[.d (.v (.iface 43 ((.int .i64 x2))))]),B6X d [bx 1 (.ref 0 26 0 0),bx 8 (.d (C7.d e)),c1 (.v (.pointer none)),c1 (.v (.int .i64 0))]⟩:=by
 unfold Tryz.f96 at hb
 injection hb with hb
 injection hb with _ hb
 injection hb with _ hb
 injection hb with _ hb _
 subst hb
 refine B04 (fun _ _ h=>by cases h.1) ?_
 dsimp only[A8Q,List.cons_append,List.nil_append]
 refine T1 kR (A1m tb R R R R R R R R R (A0 R ?_))
 refine B5V R (fun _=>by kernel_rfl) R R R ?_
 refine I6 _ _ tb R (I6 _ _ tb R (I0 kR ?_))
 refine⟨_,.refl _ _ _,R,?_⟩
 exact(U0 (t := .tup [.ref 0 26 0 0,.d (vI x2)]) (L:=B6X d []) (κ:=[0,1,2,3,4,5]) R (.cons (A6F tb (u := .ref 0 26 0 0) R R R R R R R) (.cons (A6F tb (u := .d (vI x2)) R R R R R R R) .nil)) (vK (.cons R R B9x) R) (.inr ⟨_,R,R,R⟩))
theorem U6 {F:Nat} {d:F7} {e:C7} (x6:Int) {xa xb c2:Code} {o2:Operand} (hb:Tryz.f96.body=some (.seq xa (.seq xb (.cond o2 c2 .skip)))):SW Tryz.prog 11 10 [] c2 (fun sx st2=>sx = .norm∧Fin Tryz.prog Tryz.f59 6 (fun se X=>(∃ a:F7,(Except.error x6:Except Int F7) = .ok a∧se = .ret (.tup [.ref 6 26 0 0,.d (.v (.int .i64 0))])∧X=(B6X d [bx 26 (C5 a 7 8 9 10 11),B0u a.A1,B0u a.A5,B9r a.B1,B0u a.A7,B9r a.B0]))∨∃ e,(Except.error x6:Except Int F7) = .error e∧se = .ret (.tup [.ref 0 26 0 0,.d (.v (.int .i64 e))])∧X=(B6X d [])) .ret ⟨[(4,.ref 8 1 0 0),(5,.ref 9 1 0 0)],st2.L⟩) ⟨A8Q 0 ([.ref 6 1 0 0,.ref 8 1 0 0,.ref 9 1 0 0]++[.d (.v (.iface 43 ((.int .i64 x6))))]),B6X d [bx 1 (.ref 0 26 0 0),bx 8 (.d (C7.d e)),bx 1 (.ref 10 26 0 0),c1 (.v (.int .i64 0)),none]⟩:=by
 unfold Tryz.f96 at hb
 injection hb with hb
 injection hb with _ hb
 injection hb with _ hb
 injection hb with _ hb _
 subst hb
 refine B04 (fun _ _ h=>by cases h.1) ?_
 dsimp only[A8Q,List.cons_append,List.nil_append]
 refine T1 kR (A1m tb R R R R R R R R R (A0 R ?_))
 refine B5V R (fun _=>by kernel_rfl) R R R ?_
 refine I6 _ _ tb R (I6 _ _ tb R (I0 kR ?_))
 refine⟨_,.refl _ _ _,R,?_⟩
 exact(U0 (t := .tup [.ref 0 26 0 0,.d (vI x6)]) (L:=B6X d []) (κ:=[0,1,2,3,4,5]) R (.cons (A6F tb (u := .ref 0 26 0 0) R R R R R R R) (.cons (A6F tb (u := .d (vI x6)) R R R R R R R) .nil)) (vK (.cons R R B9x) R) (.inr ⟨_,R,R,R⟩))
theorem A5q {F:Nat} {d:F7} {e:C7} {r:(Except Int F7)} (h:A1F F d e=some r):SCA Tryz.prog 59 [.ref 0 26 0 0,.d (C7.d e)] (B6X d []) r (.tup [.ref 6 26 0 0,.d (.v (.int .i64 0))]) (fun(a:F7)=>(B6X d [bx 26 (C5 a 7 8 9 10 11),B0u a.A1,B0u a.A5,B9r a.B1,B0u a.A7,B9r a.B0])) (fun e => .tup [.ref 0 26 0 0,.d (.v (.int .i64 e))]) (B6X d []):=by
 rw[A1F]at h
 refine SC.of_swd Tryz.func59 R R R ?_
 dsimp only[L8,List.map]
 refine B3n (J1 (M9 R (M9 R (M5 tb R R R R R (M5 tb R R R R R (Y9 ?_))))))
 refine⟨R,?_⟩
 refine B2t R A8j dM eK (A3E R R R R ?_)
 refine A32 ⟨7,_,_,_,_,R,R,R,R,fun df=>?_⟩
 refine B8 (A0V kR (C8 tb R (B5 (y:=vI e.at_) tb R (A1m tb R R R R R R R R R (F1 R R R (C8 tb R (C8 tb R (B5 (y:=vI d.H6) tb R (A3k R R R R ?_)))))))))
 obtain⟨rv,k,h⟩:=H1 h
 rcases M7 rv with⟨x,nv⟩ | ⟨v,nv⟩
 ·replace h:=(exN nv).symm.trans h
  refine P0 kR kR ?_
  (with_reducible apply H8 []);exact(G1 k).err nv;exact rfl;exact eK;exact rfl;exact .inl ⟨rfl,rfl,rfl⟩;(iterate 4 exact rfl);exact .nil;exact rfl
  intro cnt
  refine E9 ?_
  obtain rfl:=sI h
  exact⟨_,⟨[(4,.ref 8 1 0 0),(5,.ref 9 1 0 0)],B6X d [bx 1 (.ref 0 26 0 0),bx 8 (.d (C7.d e)),c1 (.v (.pointer none)),c1 (vI 0)]⟩,[0,1,2,3,4,5,6,7,8,9],R,(vK (.cons R R (.row R (.row R (.row R (.row R (.row R (.cons R R (.cons R R (.cons R R (.cons R R .nil)))))))))) R),A5p (F:=F) x R⟩
 replace h:=(exO nv).symm.trans h
 refine G7 (t' := .d (.tup [])) (ls:=[]) (news:=[]) ([]) (B6X d [bx 1 (.ref 0 26 0 0),bx 8 (.d (C7.d e)),c1 (.v (.pointer none)),c1 (vI 0)]) ((G1 k).ok nv) eK R (.inl ⟨R,R,R⟩) R R R R .nil R R R .nil .nil R R R R (N0 kR (A6 (B8 (A0V kR ?_))))
 refine A1m tb R R R R R R R R R (A1m tb R R R R R R R R R ?_)
 obtain⟨rv2,k2,h⟩:=H1 h
 refine A19 (A0i k2) R eK R R ((.cons (.ref R (.aggL (dL (dL (dL (dL (dL (dL (dL (dL (dL (dL (dL (dL (dL (dL (dL (dL (dL (dL (dL (dL (.cons (.row R R) (.cons (.row R R) (dL (.cons (.row R R) (.cons (.row R R) (.cons (.row R R) .nil)))))))))))))))))))))))))))) .nil)) R R ?_
 obtain⟨rv3,k3,h⟩:=H1 h
 refine A19 (A1s k3) R eK R R ((.cons (.ref R (.aggL (dL (dL (dL (dL (dL (dL (dL (dL (dL (dL (dL (dL (dL (dL (dL (dL (dL (dL (dL (dL (.cons (.row R R) (.cons (.row R R) (dL (.cons (.row R R) (.cons (.row R R) (.cons (.row R R) .nil)))))))))))))))))))))))))))) (dL .nil))) R R (A5R R R R ?_)
 obtain⟨rv4,k4,h⟩:=H1 h
 rcases M7 rv4 with⟨x3,nv2⟩ | ⟨v2,nv2⟩
 ·replace h:=(exN nv2).symm.trans h
  refine P0 kR kR ?_
  (with_reducible apply H8 []);exact(G1 k4).err nv2;exact rfl;exact eK;exact rfl;exact .inl ⟨rfl,rfl,rfl⟩;(iterate 4 exact rfl);exact .nil;exact rfl
  intro cnt
  refine E9 ?_
  obtain rfl:=sI h
  exact⟨_,⟨[(4,.ref 8 1 0 0),(5,.ref 9 1 0 0)],B6X d [bx 1 (.ref 0 26 0 0),bx 8 (.d (C7.d e)),c1 (.v (.pointer none)),c1 (vI 0)]⟩,[0,1,2,3,4,5,6,7,8,9],R,(vK (.cons R R (.row R (.row R (.row R (.row R (.row R (.cons R R (.cons R R (.cons R R (.cons R R .nil)))))))))) R),A5p (F:=F) x3 R⟩
 replace h:=(exO nv2).symm.trans h
 refine G7 (t' := .d (.tup [])) (ls:=[]) (news:=[]) ([]) (B6X d [bx 1 (.ref 0 26 0 0),bx 8 (.d (C7.d e)),c1 (.v (.pointer none)),c1 (vI 0)]) ((G1 k4).ok nv2) eK R (.inl ⟨R,R,R⟩) R R R R .nil R R R .nil .nil R R R R (N0 kR (A6 (qG ?_)))
 refine A1m tb R R R R R R R R R ?_
 obtain⟨rv5,k5,h⟩:=H1 h
 refine G7 (t' := .ref 10 26 0 0) (ls:=B6X d []) (news:=[⟨26,[C5 rv5 7 8 9 10 11]⟩,(B7 rv5.A1),(B7 rv5.A5),(H7 rv5.B1),(B7 rv5.A7),(H7 rv5.B0)]) ([0,1,2,3,4,5]) (B6X d [bx 1 (.ref 0 26 0 0),bx 8 (.d (C7.d e)),c1 (.v (.pointer none)),c1 (vI 0),bx 26 (C5 rv5 11 12 13 14 15),B0u rv5.A1,B0u rv5.A5,B9r rv5.B1,B0u rv5.A7,B9r rv5.B0]) (A61 k5) eK R (.inl ⟨R,R,R⟩) R R R R ((.cons R R C25)) R R R ((.cons R (.row (.row (.row (.row (.row .nil))))))) ((.cons R (.row (.row (.row (.row (.row .nil))))))) R R R R ?_
 refine I6 _ _ tb R (eN (qG (A1m tb R R R R R R R R R (C8 tb R (B5 (y:=vI e.at_) tb R ?_)))))
 obtain⟨rv6,k6,h⟩:=H1 h
 refine G7 (t' := .d (.tup [])) (ls:=B6X rv6 []) (news:=[]) ([10,11,12,13,14,15]) (B6X d [bx 1 (.ref 0 26 0 0),bx 8 (.d (C7.d e)),bx 1 (.ref 10 26 0 0),c1 (vI 0),bx 26 (C5 rv6 11 12 13 14 15),B0u rv6.A1,B0u rv6.A5,B9r rv6.B1,B0u rv6.A7,B9r rv6.B0]) (A7z k6) eK R (.inl ⟨R,R,R⟩) R R R R ((.cons R R C25)) R R R ((.cons R (.row (.row (.row (.row (.row .nil))))))) .nil R R R R ?_
 refine eN (qG (B4h (v := .d (.agg [.v .nilFunc,.v (.func (.func 100) #[] #[]),.v (.func (.func 101) #[] #[]),.v (.func (.func 102) #[] #[]),.v (.func (.func 102) #[] #[]),.v (.func (.func 103) #[] #[]),.v (.func (.func 103) #[] #[]),.v (.func (.func 104) #[] #[]),.v (.func (.func 105) #[] #[]),.v (.func (.func 106) #[] #[])])) tb R R R R R R R R R (M5 tb R R R R R (I6 _ _ tb R (eN (B8 ?_))))))
 refine W5 (fun zz:(List F6) × (List G6) × (List E2) × (List ByteArray) × (List D1) × Int × Int × (List ByteArray) × (List D9) × (List E0) × (List Int) × Int × Int × Int × Int × (List Int) × (List Int) × (List Int) × Int × Bool × (List Int) × (List Int) × Bool × (List Bool) × (List Int) × (List Bool)=>Q9 F zz.1 zz.2.1 zz.2.2.1 zz.2.2.2.1 zz.2.2.2.2.1 zz.2.2.2.2.2.1 zz.2.2.2.2.2.2.1 zz.2.2.2.2.2.2.2.1 zz.2.2.2.2.2.2.2.2.1 zz.2.2.2.2.2.2.2.2.2.1 zz.2.2.2.2.2.2.2.2.2.2.1 zz.2.2.2.2.2.2.2.2.2.2.2.1 zz.2.2.2.2.2.2.2.2.2.2.2.2.1 zz.2.2.2.2.2.2.2.2.2.2.2.2.2.1 zz.2.2.2.2.2.2.2.2.2.2.2.2.2.2.1 zz.2.2.2.2.2.2.2.2.2.2.2.2.2.2.2.1 zz.2.2.2.2.2.2.2.2.2.2.2.2.2.2.2.2.1 zz.2.2.2.2.2.2.2.2.2.2.2.2.2.2.2.2.2.1 zz.2.2.2.2.2.2.2.2.2.2.2.2.2.2.2.2.2.2.1 zz.2.2.2.2.2.2.2.2.2.2.2.2.2.2.2.2.2.2.2.1 zz.2.2.2.2.2.2.2.2.2.2.2.2.2.2.2.2.2.2.2.2.1 zz.2.2.2.2.2.2.2.2.2.2.2.2.2.2.2.2.2.2.2.2.2.1 zz.2.2.2.2.2.2.2.2.2.2.2.2.2.2.2.2.2.2.2.2.2.2.1 zz.2.2.2.2.2.2.2.2.2.2.2.2.2.2.2.2.2.2.2.2.2.2.2.1 zz.2.2.2.2.2.2.2.2.2.2.2.2.2.2.2.2.2.2.2.2.2.2.2.2.1 zz.2.2.2.2.2.2.2.2.2.2.2.2.2.2.2.2.2.2.2.2.2.2.2.2.2=some r) (fun zz:(List F6) × (List G6) × (List E2) × (List ByteArray) × (List D1) × Int × Int × (List ByteArray) × (List D9) × (List E0) × (List Int) × Int × Int × Int × Int × (List Int) × (List Int) × (List Int) × Int × Bool × (List Int) × (List Int) × Bool × (List Bool) × (List Int) × (List Bool)=>⟨[(4,.ref 8 1 0 0),(5,.ref 9 1 0 0)],B6X d [bx 1 (.ref 0 26 0 0),bx 8 (.d (C7.d e)),bx 1 (.ref 10 26 0 0),c1 (vI 0),bx 26 (C5 (F7.mk zz.1 zz.2.1 zz.2.2.1 zz.2.2.2.1 zz.2.2.2.2.1 zz.2.2.2.2.2.1 zz.2.2.2.2.2.2.1 zz.2.2.2.2.2.2.2.1 zz.2.2.2.2.2.2.2.2.1 zz.2.2.2.2.2.2.2.2.2.1 zz.2.2.2.2.2.2.2.2.2.2.1 zz.2.2.2.2.2.2.2.2.2.2.2.1 zz.2.2.2.2.2.2.2.2.2.2.2.2.1 zz.2.2.2.2.2.2.2.2.2.2.2.2.2.1 zz.2.2.2.2.2.2.2.2.2.2.2.2.2.2.1 zz.2.2.2.2.2.2.2.2.2.2.2.2.2.2.2.1 zz.2.2.2.2.2.2.2.2.2.2.2.2.2.2.2.2.1 zz.2.2.2.2.2.2.2.2.2.2.2.2.2.2.2.2.2.1 zz.2.2.2.2.2.2.2.2.2.2.2.2.2.2.2.2.2.2.1 zz.2.2.2.2.2.2.2.2.2.2.2.2.2.2.2.2.2.2.2.1 zz.2.2.2.2.2.2.2.2.2.2.2.2.2.2.2.2.2.2.2.2.1 zz.2.2.2.2.2.2.2.2.2.2.2.2.2.2.2.2.2.2.2.2.2.1 zz.2.2.2.2.2.2.2.2.2.2.2.2.2.2.2.2.2.2.2.2.2.2.1 zz.2.2.2.2.2.2.2.2.2.2.2.2.2.2.2.2.2.2.2.2.2.2.2.1 zz.2.2.2.2.2.2.2.2.2.2.2.2.2.2.2.2.2.2.2.2.2.2.2.2.1 zz.2.2.2.2.2.2.2.2.2.2.2.2.2.2.2.2.2.2.2.2.2.2.2.2.2) 11 12 13 14 15),B0u zz.2.2.2.2.2.2.2.2.2.2.2.2.2.2.2.2.2.2.2.2.1,B0u zz.2.2.2.2.2.2.2.2.2.2.2.2.2.2.2.2.2.2.2.2.2.1,B9r zz.2.2.2.2.2.2.2.2.2.2.2.2.2.2.2.2.2.2.2.2.2.2.2.1,B0u zz.2.2.2.2.2.2.2.2.2.2.2.2.2.2.2.2.2.2.2.2.2.2.2.2.1,B9r zz.2.2.2.2.2.2.2.2.2.2.2.2.2.2.2.2.2.2.2.2.2.2.2.2.2]⟩) ?_ ?_
 ·clear h
  rintro⟨after,after2,after3,after4,after5,after6,after7,after8,after9,after10,after11,after12,after13,after14,after15,after16,after17,after18,after19,after20,after21,after22,after23,after24,after25,after26⟩ h
  dsimp only at h ⊢
  rw[Q9]at h
  refine qG (A1m tb R R R R R R R R R (I6 _ _ tb R (I6 _ _ tb R (eN (C9 ?_)))))
  obtain rfl:=sI h
  exact B7Y (U0 (t := .tup [.ref 6 26 0 0,.d (vI 0)]) (L:=B6X d [bx 26 (C5 (F7.mk after after2 after3 after4 after5 after6 after7 after8 after9 after10 after11 after12 after13 after14 after15 after16 after17 after18 after19 after20 after21 after22 after23 after24 after25 after26) 7 8 9 10 11),B0u after21,B0u after22,B9r after24,B0u after25,B9r after26]) (κ:=[0,1,2,3,4,5,10,11,12,13,14,15]) R (.cons (A6F tb (u := .ref 10 26 0 0) R R R R R R R) (.cons (A6F tb (u := .d (vI 0)) R R R R R R R) .nil)) (vK (.cons R R (.row R (.row R (.row R (.row R (.row R (.cons R R B9x))))))) R) (.inl ⟨_,R,R,R⟩))
 refine A0V kR (C8 tb R (B5 (y:=vI e.kind) tb R ?_))
 by_cases c:e.kind=0
 ·replace h:=J7 c h
  cases h
 replace h:=P1 c h
 by_cases c2:e.kind=1
 ·replace h:=J7 c2 h
  refine A7n (1) tb R R R R R c2 R R R (B5 (y := .v (.func (.func 100) #[] #[])) tb R (A1m tb R R R R R R R R R (B5 (y:=C7.d e) tb R ?_)))
  obtain⟨rv7,k7,h⟩:=H1 h
  rcases M7 rv7 with⟨x5,nv3⟩ | ⟨v3,nv3⟩
  ·replace h:=(exN nv3).symm.trans h
   refine P0 kR kR ?_
   (with_reducible apply H8 [10,11,12,13,14,15]);exact(A3H k7).err nv3;exact rfl;exact eK;exact rfl;exact .inl ⟨rfl,rfl,rfl⟩;(iterate 4 exact rfl);exact(.cons rfl rfl C25);exact rfl
   intro cnt
   refine E9 ?_
   obtain rfl:=sI h
   exact⟨_,⟨[(4,.ref 8 1 0 0),(5,.ref 9 1 0 0)],B6X d [bx 1 (.ref 0 26 0 0),bx 8 (.d (C7.d e)),bx 1 (.ref 10 26 0 0),c1 (vI 0),none]⟩,[0,1,2,3,4,5,6,7,8,9,10],R,(vK (.cons R R (.row R (.row R (.row R (.row R (.row R (.cons R R (.cons R R (.cons R R (.cons R R (.gone R .nil))))))))))) R),U6 (F:=F) x5 R⟩
  replace h:=(exO nv3).symm.trans h
  refine G7 (t' := .d (.tup [])) (ls:=B6X v3 []) (news:=[]) ([10,11,12,13,14,15]) (B6X d [bx 1 (.ref 0 26 0 0),bx 8 (.d (C7.d e)),bx 1 (.ref 10 26 0 0),c1 (vI 0),bx 26 (C5 v3 11 12 13 14 15),B0u v3.A1,B0u v3.A5,B9r v3.B1,B0u v3.A7,B9r v3.B0,bx 10 (.d (.agg [.v .nilFunc,.v (.func (.func 100) #[] #[]),.v (.func (.func 101) #[] #[]),.v (.func (.func 102) #[] #[]),.v (.func (.func 102) #[] #[]),.v (.func (.func 103) #[] #[]),.v (.func (.func 103) #[] #[]),.v (.func (.func 104) #[] #[]),.v (.func (.func 105) #[] #[]),.v (.func (.func 106) #[] #[])]))]) ((A3H k7).ok nv3) eK R (.inl ⟨R,R,R⟩) R R R R ((.cons R R C25)) R R R ((.cons R (.row (.row (.row (.row (.row .nil))))))) .nil R R R R ?_
  refine N0 kR (A6 ?_)
  exact .inl ⟨(v3.H0,v3.G8,v3.G2,v3.H4,v3.G3,v3.G9,v3.H5,v3.H9,v3.E7,v3.F8,v3.I9,v3.D8,v3.G0,v3.H6,v3.G5,v3.F5,v3.E8,v3.E5,v3.F3,v3.F4,v3.A1,v3.A5,v3.F9,v3.B1,v3.A7,v3.B0),h,.vw (κ:=[0,1,2,3,4,5,6,7,8,9,10,11,12,13,14,15]) (vK (.cons R R (.row R (.row R (.row R (.row R (.row R (.cons R R (.cons R R (.cons R R (.cons R R (.cons R R B9x))))))))))) R)⟩
 replace h:=P1 c2 h
 by_cases c3:e.kind=2
 ·replace h:=J7 c3 h
  refine A7n (2) tb R R R R R c3 R R R (B5 (y := .v (.func (.func 101) #[] #[])) tb R (A1m tb R R R R R R R R R (B5 (y:=C7.d e) tb R ?_)))
  obtain⟨rv8,k8,h⟩:=H1 h
  rcases M7 rv8 with⟨x7,nv4⟩ | ⟨v4,nv4⟩
  ·replace h:=(exN nv4).symm.trans h
   refine P0 kR kR ?_
   (with_reducible apply H8 [10,11,12,13,14,15]);exact(A4v k8).err nv4;exact rfl;exact eK;exact rfl;exact .inl ⟨rfl,rfl,rfl⟩;(iterate 4 exact rfl);exact(.cons rfl rfl C25);exact rfl
   intro cnt
   refine E9 ?_
   obtain rfl:=sI h
   exact⟨_,⟨[(4,.ref 8 1 0 0),(5,.ref 9 1 0 0)],B6X d [bx 1 (.ref 0 26 0 0),bx 8 (.d (C7.d e)),bx 1 (.ref 10 26 0 0),c1 (vI 0),none]⟩,[0,1,2,3,4,5,6,7,8,9,10],R,(vK (.cons R R (.row R (.row R (.row R (.row R (.row R (.cons R R (.cons R R (.cons R R (.cons R R (.gone R .nil))))))))))) R),U6 (F:=F) x7 R⟩
  replace h:=(exO nv4).symm.trans h
  refine G7 (t' := .d (.tup [])) (ls:=B6X v4 []) (news:=[]) ([10,11,12,13,14,15]) (B6X d [bx 1 (.ref 0 26 0 0),bx 8 (.d (C7.d e)),bx 1 (.ref 10 26 0 0),c1 (vI 0),bx 26 (C5 v4 11 12 13 14 15),B0u v4.A1,B0u v4.A5,B9r v4.B1,B0u v4.A7,B9r v4.B0,bx 10 (.d (.agg [.v .nilFunc,.v (.func (.func 100) #[] #[]),.v (.func (.func 101) #[] #[]),.v (.func (.func 102) #[] #[]),.v (.func (.func 102) #[] #[]),.v (.func (.func 103) #[] #[]),.v (.func (.func 103) #[] #[]),.v (.func (.func 104) #[] #[]),.v (.func (.func 105) #[] #[]),.v (.func (.func 106) #[] #[])]))]) ((A4v k8).ok nv4) eK R (.inl ⟨R,R,R⟩) R R R R ((.cons R R C25)) R R R ((.cons R (.row (.row (.row (.row (.row .nil))))))) .nil R R R R ?_
  refine N0 kR (A6 ?_)
  exact .inl ⟨(v4.H0,v4.G8,v4.G2,v4.H4,v4.G3,v4.G9,v4.H5,v4.H9,v4.E7,v4.F8,v4.I9,v4.D8,v4.G0,v4.H6,v4.G5,v4.F5,v4.E8,v4.E5,v4.F3,v4.F4,v4.A1,v4.A5,v4.F9,v4.B1,v4.A7,v4.B0),h,.vw (κ:=[0,1,2,3,4,5,6,7,8,9,10,11,12,13,14,15]) (vK (.cons R R (.row R (.row R (.row R (.row R (.row R (.cons R R (.cons R R (.cons R R (.cons R R (.cons R R B9x))))))))))) R)⟩
 replace h:=P1 c3 h
 by_cases c4:e.kind=3
 ·replace h:=J7 c4 h
  refine A7n (3) tb R R R R R c4 R R R (B5 (y := .v (.func (.func 102) #[] #[])) tb R (A1m tb R R R R R R R R R (B5 (y:=C7.d e) tb R ?_)))
  obtain⟨rv9,k9,h⟩:=H1 h
  rcases M7 rv9 with⟨x9,nv5⟩ | ⟨v5,nv5⟩
  ·replace h:=(exN nv5).symm.trans h
   refine P0 kR kR ?_
   (with_reducible apply H8 [10,11,12,13,14,15]);exact(A1d k9).err nv5;exact rfl;exact eK;exact rfl;exact .inl ⟨rfl,rfl,rfl⟩;(iterate 4 exact rfl);exact(.cons rfl rfl C25);exact rfl
   intro cnt
   refine E9 ?_
   obtain rfl:=sI h
   exact⟨_,⟨[(4,.ref 8 1 0 0),(5,.ref 9 1 0 0)],B6X d [bx 1 (.ref 0 26 0 0),bx 8 (.d (C7.d e)),bx 1 (.ref 10 26 0 0),c1 (vI 0),none]⟩,[0,1,2,3,4,5,6,7,8,9,10],R,(vK (.cons R R (.row R (.row R (.row R (.row R (.row R (.cons R R (.cons R R (.cons R R (.cons R R (.gone R .nil))))))))))) R),U6 (F:=F) x9 R⟩
  replace h:=(exO nv5).symm.trans h
  refine G7 (t' := .d (.tup [])) (ls:=B6X v5 []) (news:=[]) ([10,11,12,13,14,15]) (B6X d [bx 1 (.ref 0 26 0 0),bx 8 (.d (C7.d e)),bx 1 (.ref 10 26 0 0),c1 (vI 0),bx 26 (C5 v5 11 12 13 14 15),B0u v5.A1,B0u v5.A5,B9r v5.B1,B0u v5.A7,B9r v5.B0,bx 10 (.d (.agg [.v .nilFunc,.v (.func (.func 100) #[] #[]),.v (.func (.func 101) #[] #[]),.v (.func (.func 102) #[] #[]),.v (.func (.func 102) #[] #[]),.v (.func (.func 103) #[] #[]),.v (.func (.func 103) #[] #[]),.v (.func (.func 104) #[] #[]),.v (.func (.func 105) #[] #[]),.v (.func (.func 106) #[] #[])]))]) ((A1d k9).ok nv5) eK R (.inl ⟨R,R,R⟩) R R R R ((.cons R R C25)) R R R ((.cons R (.row (.row (.row (.row (.row .nil))))))) .nil R R R R ?_
  refine N0 kR (A6 ?_)
  exact .inl ⟨(v5.H0,v5.G8,v5.G2,v5.H4,v5.G3,v5.G9,v5.H5,v5.H9,v5.E7,v5.F8,v5.I9,v5.D8,v5.G0,v5.H6,v5.G5,v5.F5,v5.E8,v5.E5,v5.F3,v5.F4,v5.A1,v5.A5,v5.F9,v5.B1,v5.A7,v5.B0),h,.vw (κ:=[0,1,2,3,4,5,6,7,8,9,10,11,12,13,14,15]) (vK (.cons R R (.row R (.row R (.row R (.row R (.row R (.cons R R (.cons R R (.cons R R (.cons R R (.cons R R B9x))))))))))) R)⟩
 replace h:=P1 c4 h
 by_cases c5:e.kind=4
 ·replace h:=J7 c5 h
  refine A7n (4) tb R R R R R c5 R R R (B5 (y := .v (.func (.func 102) #[] #[])) tb R (A1m tb R R R R R R R R R (B5 (y:=C7.d e) tb R ?_)))
  obtain⟨rv10,k10,h⟩:=H1 h
  rcases M7 rv10 with⟨x11,nv6⟩ | ⟨v6,nv6⟩
  ·replace h:=(exN nv6).symm.trans h
   refine P0 kR kR ?_
   (with_reducible apply H8 [10,11,12,13,14,15]);exact(A1d k10).err nv6;exact rfl;exact eK;exact rfl;exact .inl ⟨rfl,rfl,rfl⟩;(iterate 4 exact rfl);exact(.cons rfl rfl C25);exact rfl
   intro cnt
   refine E9 ?_
   obtain rfl:=sI h
   exact⟨_,⟨[(4,.ref 8 1 0 0),(5,.ref 9 1 0 0)],B6X d [bx 1 (.ref 0 26 0 0),bx 8 (.d (C7.d e)),bx 1 (.ref 10 26 0 0),c1 (vI 0),none]⟩,[0,1,2,3,4,5,6,7,8,9,10],R,(vK (.cons R R (.row R (.row R (.row R (.row R (.row R (.cons R R (.cons R R (.cons R R (.cons R R (.gone R .nil))))))))))) R),U6 (F:=F) x11 R⟩
  replace h:=(exO nv6).symm.trans h
  refine G7 (t' := .d (.tup [])) (ls:=B6X v6 []) (news:=[]) ([10,11,12,13,14,15]) (B6X d [bx 1 (.ref 0 26 0 0),bx 8 (.d (C7.d e)),bx 1 (.ref 10 26 0 0),c1 (vI 0),bx 26 (C5 v6 11 12 13 14 15),B0u v6.A1,B0u v6.A5,B9r v6.B1,B0u v6.A7,B9r v6.B0,bx 10 (.d (.agg [.v .nilFunc,.v (.func (.func 100) #[] #[]),.v (.func (.func 101) #[] #[]),.v (.func (.func 102) #[] #[]),.v (.func (.func 102) #[] #[]),.v (.func (.func 103) #[] #[]),.v (.func (.func 103) #[] #[]),.v (.func (.func 104) #[] #[]),.v (.func (.func 105) #[] #[]),.v (.func (.func 106) #[] #[])]))]) ((A1d k10).ok nv6) eK R (.inl ⟨R,R,R⟩) R R R R ((.cons R R C25)) R R R ((.cons R (.row (.row (.row (.row (.row .nil))))))) .nil R R R R ?_
  refine N0 kR (A6 ?_)
  exact .inl ⟨(v6.H0,v6.G8,v6.G2,v6.H4,v6.G3,v6.G9,v6.H5,v6.H9,v6.E7,v6.F8,v6.I9,v6.D8,v6.G0,v6.H6,v6.G5,v6.F5,v6.E8,v6.E5,v6.F3,v6.F4,v6.A1,v6.A5,v6.F9,v6.B1,v6.A7,v6.B0),h,.vw (κ:=[0,1,2,3,4,5,6,7,8,9,10,11,12,13,14,15]) (vK (.cons R R (.row R (.row R (.row R (.row R (.row R (.cons R R (.cons R R (.cons R R (.cons R R (.cons R R B9x))))))))))) R)⟩
 replace h:=P1 c5 h
 by_cases c6:e.kind=5
 ·replace h:=J7 c6 h
  refine A7n (5) tb R R R R R c6 R R R (B5 (y := .v (.func (.func 103) #[] #[])) tb R (A1m tb R R R R R R R R R (B5 (y:=C7.d e) tb R ?_)))
  obtain⟨rv11,k11,h⟩:=H1 h
  rcases M7 rv11 with⟨x13,nv7⟩ | ⟨v7,nv7⟩
  ·replace h:=(exN nv7).symm.trans h
   refine P0 kR kR ?_
   (with_reducible apply H8 [10,11,12,13,14,15]);exact(A16 k11).err nv7;exact rfl;exact eK;exact rfl;exact .inl ⟨rfl,rfl,rfl⟩;(iterate 4 exact rfl);exact(.cons rfl rfl C25);exact rfl
   intro cnt
   refine E9 ?_
   obtain rfl:=sI h
   exact⟨_,⟨[(4,.ref 8 1 0 0),(5,.ref 9 1 0 0)],B6X d [bx 1 (.ref 0 26 0 0),bx 8 (.d (C7.d e)),bx 1 (.ref 10 26 0 0),c1 (vI 0),none]⟩,[0,1,2,3,4,5,6,7,8,9,10],R,(vK (.cons R R (.row R (.row R (.row R (.row R (.row R (.cons R R (.cons R R (.cons R R (.cons R R (.gone R .nil))))))))))) R),U6 (F:=F) x13 R⟩
  replace h:=(exO nv7).symm.trans h
  refine G7 (t' := .d (.tup [])) (ls:=B6X v7 []) (news:=[]) ([10,11,12,13,14,15]) (B6X d [bx 1 (.ref 0 26 0 0),bx 8 (.d (C7.d e)),bx 1 (.ref 10 26 0 0),c1 (vI 0),bx 26 (C5 v7 11 12 13 14 15),B0u v7.A1,B0u v7.A5,B9r v7.B1,B0u v7.A7,B9r v7.B0,bx 10 (.d (.agg [.v .nilFunc,.v (.func (.func 100) #[] #[]),.v (.func (.func 101) #[] #[]),.v (.func (.func 102) #[] #[]),.v (.func (.func 102) #[] #[]),.v (.func (.func 103) #[] #[]),.v (.func (.func 103) #[] #[]),.v (.func (.func 104) #[] #[]),.v (.func (.func 105) #[] #[]),.v (.func (.func 106) #[] #[])]))]) ((A16 k11).ok nv7) eK R (.inl ⟨R,R,R⟩) R R R R ((.cons R R C25)) R R R ((.cons R (.row (.row (.row (.row (.row .nil))))))) .nil R R R R ?_
  refine N0 kR (A6 ?_)
  exact .inl ⟨(v7.H0,v7.G8,v7.G2,v7.H4,v7.G3,v7.G9,v7.H5,v7.H9,v7.E7,v7.F8,v7.I9,v7.D8,v7.G0,v7.H6,v7.G5,v7.F5,v7.E8,v7.E5,v7.F3,v7.F4,v7.A1,v7.A5,v7.F9,v7.B1,v7.A7,v7.B0),h,.vw (κ:=[0,1,2,3,4,5,6,7,8,9,10,11,12,13,14,15]) (vK (.cons R R (.row R (.row R (.row R (.row R (.row R (.cons R R (.cons R R (.cons R R (.cons R R (.cons R R B9x))))))))))) R)⟩
 replace h:=P1 c6 h
 by_cases c7:e.kind=6
 ·replace h:=J7 c7 h
  refine A7n (6) tb R R R R R c7 R R R (B5 (y := .v (.func (.func 103) #[] #[])) tb R (A1m tb R R R R R R R R R (B5 (y:=C7.d e) tb R ?_)))
  obtain⟨rv12,k12,h⟩:=H1 h
  rcases M7 rv12 with⟨x15,nv8⟩ | ⟨v8,nv8⟩
  ·replace h:=(exN nv8).symm.trans h
   refine P0 kR kR ?_
   (with_reducible apply H8 [10,11,12,13,14,15]);exact(A16 k12).err nv8;exact rfl;exact eK;exact rfl;exact .inl ⟨rfl,rfl,rfl⟩;(iterate 4 exact rfl);exact(.cons rfl rfl C25);exact rfl
   intro cnt
   refine E9 ?_
   obtain rfl:=sI h
   exact⟨_,⟨[(4,.ref 8 1 0 0),(5,.ref 9 1 0 0)],B6X d [bx 1 (.ref 0 26 0 0),bx 8 (.d (C7.d e)),bx 1 (.ref 10 26 0 0),c1 (vI 0),none]⟩,[0,1,2,3,4,5,6,7,8,9,10],R,(vK (.cons R R (.row R (.row R (.row R (.row R (.row R (.cons R R (.cons R R (.cons R R (.cons R R (.gone R .nil))))))))))) R),U6 (F:=F) x15 R⟩
  replace h:=(exO nv8).symm.trans h
  refine G7 (t' := .d (.tup [])) (ls:=B6X v8 []) (news:=[]) ([10,11,12,13,14,15]) (B6X d [bx 1 (.ref 0 26 0 0),bx 8 (.d (C7.d e)),bx 1 (.ref 10 26 0 0),c1 (vI 0),bx 26 (C5 v8 11 12 13 14 15),B0u v8.A1,B0u v8.A5,B9r v8.B1,B0u v8.A7,B9r v8.B0,bx 10 (.d (.agg [.v .nilFunc,.v (.func (.func 100) #[] #[]),.v (.func (.func 101) #[] #[]),.v (.func (.func 102) #[] #[]),.v (.func (.func 102) #[] #[]),.v (.func (.func 103) #[] #[]),.v (.func (.func 103) #[] #[]),.v (.func (.func 104) #[] #[]),.v (.func (.func 105) #[] #[]),.v (.func (.func 106) #[] #[])]))]) ((A16 k12).ok nv8) eK R (.inl ⟨R,R,R⟩) R R R R ((.cons R R C25)) R R R ((.cons R (.row (.row (.row (.row (.row .nil))))))) .nil R R R R ?_
  refine N0 kR (A6 ?_)
  exact .inl ⟨(v8.H0,v8.G8,v8.G2,v8.H4,v8.G3,v8.G9,v8.H5,v8.H9,v8.E7,v8.F8,v8.I9,v8.D8,v8.G0,v8.H6,v8.G5,v8.F5,v8.E8,v8.E5,v8.F3,v8.F4,v8.A1,v8.A5,v8.F9,v8.B1,v8.A7,v8.B0),h,.vw (κ:=[0,1,2,3,4,5,6,7,8,9,10,11,12,13,14,15]) (vK (.cons R R (.row R (.row R (.row R (.row R (.row R (.cons R R (.cons R R (.cons R R (.cons R R (.cons R R B9x))))))))))) R)⟩
 replace h:=P1 c7 h
 by_cases c8:e.kind=7
 ·replace h:=J7 c8 h
  refine A7n (7) tb R R R R R c8 R R R (B5 (y := .v (.func (.func 104) #[] #[])) tb R (A1m tb R R R R R R R R R (B5 (y:=C7.d e) tb R ?_)))
  obtain⟨rv13,k13,h⟩:=H1 h
  rcases M7 rv13 with⟨x17,nv9⟩ | ⟨v9,nv9⟩
  ·replace h:=(exN nv9).symm.trans h
   refine P0 kR kR ?_
   (with_reducible apply H8 [10,11,12,13,14,15]);exact(A3o k13).err nv9;exact rfl;exact eK;exact rfl;exact .inl ⟨rfl,rfl,rfl⟩;(iterate 4 exact rfl);exact(.cons rfl rfl C25);exact rfl
   intro cnt
   refine E9 ?_
   obtain rfl:=sI h
   exact⟨_,⟨[(4,.ref 8 1 0 0),(5,.ref 9 1 0 0)],B6X d [bx 1 (.ref 0 26 0 0),bx 8 (.d (C7.d e)),bx 1 (.ref 10 26 0 0),c1 (vI 0),none]⟩,[0,1,2,3,4,5,6,7,8,9,10],R,(vK (.cons R R (.row R (.row R (.row R (.row R (.row R (.cons R R (.cons R R (.cons R R (.cons R R (.gone R .nil))))))))))) R),U6 (F:=F) x17 R⟩
  replace h:=(exO nv9).symm.trans h
  refine G7 (t' := .d (.tup [])) (ls:=B6X v9 []) (news:=[]) ([10,11,12,13,14,15]) (B6X d [bx 1 (.ref 0 26 0 0),bx 8 (.d (C7.d e)),bx 1 (.ref 10 26 0 0),c1 (vI 0),bx 26 (C5 v9 11 12 13 14 15),B0u v9.A1,B0u v9.A5,B9r v9.B1,B0u v9.A7,B9r v9.B0,bx 10 (.d (.agg [.v .nilFunc,.v (.func (.func 100) #[] #[]),.v (.func (.func 101) #[] #[]),.v (.func (.func 102) #[] #[]),.v (.func (.func 102) #[] #[]),.v (.func (.func 103) #[] #[]),.v (.func (.func 103) #[] #[]),.v (.func (.func 104) #[] #[]),.v (.func (.func 105) #[] #[]),.v (.func (.func 106) #[] #[])]))]) ((A3o k13).ok nv9) eK R (.inl ⟨R,R,R⟩) R R R R ((.cons R R C25)) R R R ((.cons R (.row (.row (.row (.row (.row .nil))))))) .nil R R R R ?_
  refine N0 kR (A6 ?_)
  exact .inl ⟨(v9.H0,v9.G8,v9.G2,v9.H4,v9.G3,v9.G9,v9.H5,v9.H9,v9.E7,v9.F8,v9.I9,v9.D8,v9.G0,v9.H6,v9.G5,v9.F5,v9.E8,v9.E5,v9.F3,v9.F4,v9.A1,v9.A5,v9.F9,v9.B1,v9.A7,v9.B0),h,.vw (κ:=[0,1,2,3,4,5,6,7,8,9,10,11,12,13,14,15]) (vK (.cons R R (.row R (.row R (.row R (.row R (.row R (.cons R R (.cons R R (.cons R R (.cons R R (.cons R R B9x))))))))))) R)⟩
 replace h:=P1 c8 h
 by_cases c9:e.kind=8
 ·replace h:=J7 c9 h
  refine A7n (8) tb R R R R R c9 R R R (B5 (y := .v (.func (.func 105) #[] #[])) tb R (A1m tb R R R R R R R R R (B5 (y:=C7.d e) tb R ?_)))
  obtain⟨rv14,k14,h⟩:=H1 h
  rcases M7 rv14 with⟨x19,nv10⟩ | ⟨v10,nv10⟩
  ·replace h:=(exN nv10).symm.trans h
   refine P0 kR kR ?_
   (with_reducible apply H8 [10,11,12,13,14,15]);exact(A4u k14).err nv10;exact rfl;exact eK;exact rfl;exact .inl ⟨rfl,rfl,rfl⟩;(iterate 4 exact rfl);exact(.cons rfl rfl C25);exact rfl
   intro cnt
   refine E9 ?_
   obtain rfl:=sI h
   exact⟨_,⟨[(4,.ref 8 1 0 0),(5,.ref 9 1 0 0)],B6X d [bx 1 (.ref 0 26 0 0),bx 8 (.d (C7.d e)),bx 1 (.ref 10 26 0 0),c1 (vI 0),none]⟩,[0,1,2,3,4,5,6,7,8,9,10],R,(vK (.cons R R (.row R (.row R (.row R (.row R (.row R (.cons R R (.cons R R (.cons R R (.cons R R (.gone R .nil))))))))))) R),U6 (F:=F) x19 R⟩
  replace h:=(exO nv10).symm.trans h
  refine G7 (t' := .d (.tup [])) (ls:=B6X v10 []) (news:=[]) ([10,11,12,13,14,15]) (B6X d [bx 1 (.ref 0 26 0 0),bx 8 (.d (C7.d e)),bx 1 (.ref 10 26 0 0),c1 (vI 0),bx 26 (C5 v10 11 12 13 14 15),B0u v10.A1,B0u v10.A5,B9r v10.B1,B0u v10.A7,B9r v10.B0,bx 10 (.d (.agg [.v .nilFunc,.v (.func (.func 100) #[] #[]),.v (.func (.func 101) #[] #[]),.v (.func (.func 102) #[] #[]),.v (.func (.func 102) #[] #[]),.v (.func (.func 103) #[] #[]),.v (.func (.func 103) #[] #[]),.v (.func (.func 104) #[] #[]),.v (.func (.func 105) #[] #[]),.v (.func (.func 106) #[] #[])]))]) ((A4u k14).ok nv10) eK R (.inl ⟨R,R,R⟩) R R R R ((.cons R R C25)) R R R ((.cons R (.row (.row (.row (.row (.row .nil))))))) .nil R R R R ?_
  refine N0 kR (A6 ?_)
  exact .inl ⟨(v10.H0,v10.G8,v10.G2,v10.H4,v10.G3,v10.G9,v10.H5,v10.H9,v10.E7,v10.F8,v10.I9,v10.D8,v10.G0,v10.H6,v10.G5,v10.F5,v10.E8,v10.E5,v10.F3,v10.F4,v10.A1,v10.A5,v10.F9,v10.B1,v10.A7,v10.B0),h,.vw (κ:=[0,1,2,3,4,5,6,7,8,9,10,11,12,13,14,15]) (vK (.cons R R (.row R (.row R (.row R (.row R (.row R (.cons R R (.cons R R (.cons R R (.cons R R (.cons R R B9x))))))))))) R)⟩
 replace h:=P1 c9 h
 by_cases c10:e.kind=9
 ·replace h:=J7 c10 h
  refine A7n (9) tb R R R R R c10 R R R (B5 (y := .v (.func (.func 106) #[] #[])) tb R (A1m tb R R R R R R R R R (B5 (y:=C7.d e) tb R ?_)))
  obtain⟨rv15,k15,h⟩:=H1 h
  rcases M7 rv15 with⟨x21,nv11⟩ | ⟨v11,nv11⟩
  ·replace h:=(exN nv11).symm.trans h
   refine P0 kR kR ?_
   (with_reducible apply H8 [10,11,12,13,14,15]);exact(A3u k15).err nv11;exact rfl;exact eK;exact rfl;exact .inl ⟨rfl,rfl,rfl⟩;(iterate 4 exact rfl);exact(.cons rfl rfl C25);exact rfl
   intro cnt
   refine E9 ?_
   obtain rfl:=sI h
   exact⟨_,⟨[(4,.ref 8 1 0 0),(5,.ref 9 1 0 0)],B6X d [bx 1 (.ref 0 26 0 0),bx 8 (.d (C7.d e)),bx 1 (.ref 10 26 0 0),c1 (vI 0),none]⟩,[0,1,2,3,4,5,6,7,8,9,10],R,(vK (.cons R R (.row R (.row R (.row R (.row R (.row R (.cons R R (.cons R R (.cons R R (.cons R R (.gone R .nil))))))))))) R),U6 (F:=F) x21 R⟩
  replace h:=(exO nv11).symm.trans h
  refine G7 (t' := .d (.tup [])) (ls:=B6X v11 []) (news:=[]) ([10,11,12,13,14,15]) (B6X d [bx 1 (.ref 0 26 0 0),bx 8 (.d (C7.d e)),bx 1 (.ref 10 26 0 0),c1 (vI 0),bx 26 (C5 v11 11 12 13 14 15),B0u v11.A1,B0u v11.A5,B9r v11.B1,B0u v11.A7,B9r v11.B0,bx 10 (.d (.agg [.v .nilFunc,.v (.func (.func 100) #[] #[]),.v (.func (.func 101) #[] #[]),.v (.func (.func 102) #[] #[]),.v (.func (.func 102) #[] #[]),.v (.func (.func 103) #[] #[]),.v (.func (.func 103) #[] #[]),.v (.func (.func 104) #[] #[]),.v (.func (.func 105) #[] #[]),.v (.func (.func 106) #[] #[])]))]) ((A3u k15).ok nv11) eK R (.inl ⟨R,R,R⟩) R R R R ((.cons R R C25)) R R R ((.cons R (.row (.row (.row (.row (.row .nil))))))) .nil R R R R ?_
  refine N0 kR (A6 ?_)
  exact .inl ⟨(v11.H0,v11.G8,v11.G2,v11.H4,v11.G3,v11.G9,v11.H5,v11.H9,v11.E7,v11.F8,v11.I9,v11.D8,v11.G0,v11.H6,v11.G5,v11.F5,v11.E8,v11.E5,v11.F3,v11.F4,v11.A1,v11.A5,v11.F9,v11.B1,v11.A7,v11.B0),h,.vw (κ:=[0,1,2,3,4,5,6,7,8,9,10,11,12,13,14,15]) (vK (.cons R R (.row R (.row R (.row R (.row R (.row R (.cons R R (.cons R R (.cons R R (.cons R R (.cons R R B9x))))))))))) R)⟩
 replace h:=P1 c10 h
 cases h
def A4J (F:Nat) (log:(List C7)) (K:(List Int)→Int→Option ((Option F7) × (List Int) × Int)):Nat→(List Int)→Int→Option ((Option F7) × (List Int) × Int)
 | 0,_,_=>none
 | n+1,why,x2=>if x2<(log.length:Int)then(none)else(K why x2)
def A3x (F:Nat) (p:D4) (log:(List C7)) (K:Int→Int→Option ((Option F7) × (List Int) × Int)):Nat→Int→Int→Option ((Option F7) × (List Int) × Int)
 | 0,_,_=>none
 | n+1,e,x=>if x<(log.length:Int)then((P3 log x).bind fun e2=>(A3I F p e2).bind fun rv2=>if rv2=0 then(A3x F p log K n rv2 (W (x+1)))else(some (none,([]:List Int),rv2)))else(K e x)
def A2c (F:Nat) (log:(List C7)) (K:(List F6)→(List G6)→(List E2)→(List ByteArray)→(List D1)→Int→Int→(List ByteArray)→(List D9)→(List E0)→(List Int)→Int→Int→Int→Int→(List Int)→(List Int)→(List Int)→Int→Bool→(List Int)→(List Int)→Bool→(List Bool)→(List Int)→(List Bool)→(List Int)→Int→Option ((Option F7) × (List Int) × Int)):Nat→(List F6)→(List G6)→(List E2)→(List ByteArray)→(List D1)→Int→Int→(List ByteArray)→(List D9)→(List E0)→(List Int)→Int→Int→Int→Int→(List Int)→(List Int)→(List Int)→Int→Bool→(List Int)→(List Int)→Bool→(List Bool)→(List Int)→(List Bool)→(List Int)→Int→Option ((Option F7) × (List Int) × Int)
 | 0,_,_,_,_,_,_,_,_,_,_,_,_,_,_,_,_,_,_,_,_,_,_,_,_,_,_,_,_=>none
 | n+1,d,d2,d3,d4,d5,d6,d7,d8,d9,d10,d11,d12,d13,d14,d15,d16,d17,d18,d19,d20,d21,d22,d23,d24,d25,d26,why2,x4=>if x4<(log.length:Int)then((P3 log x4).bind fun e6=>(A1F F (F7.mk d d2 d3 d4 d5 d6 d7 d8 d9 d10 d11 d12 d13 d14 d15 d16 d17 d18 d19 d20 d21 d22 d23 d24 d25 d26) e6).bind fun rv4=>exE rv4 (fun x5=>(A8i why2 [x5]).bind fun q=>A2c F log K n d d2 d3 d4 d5 d6 d7 d8 d9 d10 d11 d12 d13 d14 d15 d16 d17 d18 d19 d20 d21 d22 d23 d24 d25 d26 q (W (x4+1))) (fun v=>(A8i why2 [0]).bind fun q2=>A2c F log K n v.H0 v.G8 v.G2 v.H4 v.G3 v.G9 v.H5 v.H9 v.E7 v.F8 v.I9 v.D8 v.G0 v.H6 v.G5 v.F5 v.E8 v.E5 v.F3 v.F4 v.A1 v.A5 v.F9 v.B1 v.A7 v.B0 q2 (W (x4+1))))else(K d d2 d3 d4 d5 d6 d7 d8 d9 d10 d11 d12 d13 d14 d15 d16 d17 d18 d19 d20 d21 d22 d23 d24 d25 d26 why2 x4)
def A2d (F:Nat) (p:D4) (log:(List C7)) (K:Int→Int→Option ((Option F7) × (List Int) × Int)):Nat→Int→Int→Option ((Option F7) × (List Int) × Int)
 | 0,_,_=>none
 | n+1,e4,x3=>if x3<(log.length:Int)then((P3 log x3).bind fun e5=>(A3I F p e5).bind fun rv3=>if rv3=0 then(A2d F p log K n rv3 (W (x3+1)))else(some (none,([]:List Int),rv3)))else(K e4 x3)
def A42 (F:Nat) (p:D4) (log:(List C7)):Option ((Option F7) × (List Int) × Int):=(A4Q F p).bind fun rv=>B2S rv.1 (if rv.2=0 then(if 100<(log.length:Int)then(some (none,([]:List Int),3))else(A3x F p log (fun(e:Int) (x:Int)=>A4J F log (fun(why:(List Int)) (x2:Int)=>some (none,why,0)) F ([]:List Int) 0) F rv.2 0))else(some (none,([]:List Int),rv.2))) (fun t=>if rv.2=0 then(if 100<(log.length:Int)then(some (none,([]:List Int),3))else(A2d F p log (fun(e4:Int) (x3:Int)=>A2c F log (fun(d:(List F6)) (d2:(List G6)) (d3:(List E2)) (d4:(List ByteArray)) (d5:(List D1)) (d6:Int) (d7:Int) (d8:(List ByteArray)) (d9:(List D9)) (d10:(List E0)) (d11:(List Int)) (d12:Int) (d13:Int) (d14:Int) (d15:Int) (d16:(List Int)) (d17:(List Int)) (d18:(List Int)) (d19:Int) (d20:Bool) (d21:(List Int)) (d22:(List Int)) (d23:Bool) (d24:(List Bool)) (d25:(List Int)) (d26:(List Bool)) (why2:(List Int)) (x4:Int)=>some ((some (F7.mk d d2 d3 d4 d5 d6 d7 d8 d9 d10 d11 d12 d13 d14 d15 d16 d17 d18 d19 d20 d21 d22 d23 d24 d25 d26)),why2,0)) F t.H0 t.G8 t.G2 t.H4 t.G3 t.G9 t.H5 t.H9 t.E7 t.F8 t.I9 t.D8 t.G0 t.H6 t.G5 t.F5 t.E8 t.E5 t.F3 t.F4 t.A1 t.A5 t.F9 t.B1 t.A7 t.B0 ([]:List Int) 0) F rv.2 0))else(some (none,([]:List Int),rv.2)))
theorem A4c {F:Nat} {p:D4} {log:(List C7)} {r:((Option F7) × (List Int) × Int)} (h:A42 F p log=some r):SCO Tryz.prog 45 (List.map T.d [D4.d p,.arr 8 ((log).map C7.d)]) [] r.1 (.tup [.d (.v (.pointer none)),.row 0 1 0 (r.2.1).length,.d (.v (.int .i64 r.2.2))]) (List.map some [(B7 r.2.1)]) (fun(tt:F7) => .tup [.ref 0 26 0 0,.row 6 1 0 (r.2.1).length,.d (.v (.int .i64 r.2.2))]) (fun(tt:F7)=>List.map some [⟨26,[C5 tt 1 2 3 4 5]⟩,(B7 tt.A1),(B7 tt.A5),(H7 tt.B1),(B7 tt.A7),(H7 tt.B0),(B7 r.2.1)]):=by
 rw[A42]at h
 refine SC.of_sw Tryz.func45 R R R ?_
 dsimp only[L8,List.map]
 refine qG (M9 R (A3 R (A3 R (A3 R (eN (qG (B5 (y:=D4.d p) tb R ?_)))))))
 obtain⟨rv,k,h⟩:=H1 h
 rcases Option.eq_none_or_eq_some rv.1 with nv | ⟨t,nv⟩
 ·replace h:=(B5h nv).symm.trans h
  refine G7 (t' := .d (.tup [.v (.pointer none),vI rv.2])) (ls:=[]) (news:=[]) ([]) ([bx 13 (.d (D4.d p))]) ((A7t k).none nv) eK R (.inl ⟨R,R,R⟩) R R R R .nil R R R .nil .nil R R R R (A0 R (Q1 (t := .v (.pointer none)) R R R R (Q1 (t:=vI rv.2) R R R R (A3 R (A3 R (eN (B8 (E3 (qG (A0 R ?_))))))))))
  refine V5 R R R R ?_ ?_
  ·intro c
   replace h:=P1 c h
   refine A3 R (eN (C0 R (qG (A0 R (A3 R (A3 R (A3 R (eN ?_))))))))
   refine SW.own (ts':=[(4,.d (.v (.pointer none))),(5,.row 1 1 0 (([]:List Int)).length),(6,.d (vI rv.2))]) (L':=[bx 13 (.d (D4.d p))]) 1 R R (.cons (.same _) (.cons .nil (.cons (.same _) .nil))) (.same .nil) ?_
   simp only[List.cons_append,List.nil_append]
   refine C9 (C4 (B2 ?_))
   obtain rfl:=sI h
   exact(U0 (t := .tup [.d (.v (.pointer none)),.row 0 1 0 (([]:List Int)).length,.d (vI rv.2)]) (L:=[B0u ([]:List Int)]) (κ:=[1]) R (.cons (.tmp 4) (.cons (.tmp 5) (.cons (.tmp 6) .nil))) (vK C23 R) (.inl ⟨R,R,R⟩))
  intro c
  replace h:=J7 c h
  refine A3 R (eN (C1 R (qG (A0 R (I7 tb R ?_)))))
  refine A4l R R R R ?_ ?_
  ·intro c2
   replace h:=J7 c2 h
   refine A3 R (eN (C0 R (qG (A3 R (A3 R (A3 R (eN ?_)))))))
   refine SW.own (ts':=[(4,.d (.v (.pointer none))),(5,.row 1 1 0 (([]:List Int)).length),(6,.d (vI 3))]) (L':=[bx 13 (.d (D4.d p))]) 1 R R (.cons (.same _) (.cons .nil (.cons (.same _) .nil))) (.same .nil) ?_
   simp only[List.cons_append,List.nil_append]
   refine C9 (C4 (B2 ?_))
   obtain rfl:=sI h
   exact(U0 (t := .tup [.d (.v (.pointer none)),.row 0 1 0 (([]:List Int)).length,.d (vI 3)]) (L:=[B0u ([]:List Int)]) (κ:=[1]) R (.cons (.tmp 4) (.cons (.tmp 5) (.cons (.tmp 6) .nil))) (vK C23 R) (.inl ⟨R,R,R⟩))
  intro c2
  replace h:=P1 (nL c2) h
  refine A3 R (eN (C1 R (D7 (D3 (A6 (B8 (qG (A0 R (I7 tb R (A0 R (eN (E3 ?_))))))))))))
  obtain⟨K2,hK2,h⟩:∃ K,K=_∧A3x F p log K F rv.2 0=some r:=⟨_,rfl,h⟩
  refine M2 (fun m st=>∃ (e:Int) (x:Int),A3x F p log K2 m e x=some r∧st=⟨[(1,.d (.arr 8 ((log).map C7.d))),(2,.ref 0 13 0 0),(4,.d (.v (.pointer none))),(5,.d (.v (.slice none 0 0))),(6,.d (vI e)),(26,.d (.arr 8 ((log).map C7.d))),(27,.d (vI (log.length:Int))),(28,.d (vI x))],[bx 13 (.d (D4.d p))]⟩) (.prn [1,2,4,5,6,26,27,28] R) ⟨rv.2,0,h,R⟩ ?_
  clear h
  rintro m2 st ⟨e,x,h,rfl⟩
  cases m2 with
  | zero=>cases(show(none:Option ((Option F7) × (List Int) × Int))=some r from h)
  | succ m2 =>
  rw[A3x]at h
  refine qG ?_
  refine Q4 R R R R ?_ ?_
  ·intro c3
   replace h:=J7 c3 h
   refine eN (B8 (C0 R (D7 (A6 (B8 (E3 (qG ?_)))))))
   obtain⟨e2,ie2,h⟩:=H1 h
   refine N8 tb (F0 ie2) (V1 ie2) R (I4 (y:=C7.d e2) tb (U5 (g:=C7.d) ie2) R (M5 tb R R R R R (I6 _ _ tb R (eN (qG (B5 (y:=D4.d p) tb R (B5 (y:=C7.d e2) tb R ?_)))))))
   obtain⟨rv2,k2,h⟩:=H1 h
   refine J5 (A78 k2) eK R R R R (A3 R (eN (qG (A0 R ?_))))
   refine V5 R R R R ?_ ?_
   ·intro c4
    replace h:=P1 c4 h
    refine eN (C0 R (qG (A0 R (A3 R (A3 R (A3 R (eN ?_)))))))
    refine SW.own (ts':=[(4,.d (.v (.pointer none))),(5,.row 2 1 0 (([]:List Int)).length),(6,.d (vI rv2))]) (L':=[bx 13 (.d (D4.d p)),bx 8 (.d (C7.d e2))]) 1 R R (.cons (.same _) (.cons .nil (.cons (.same _) .nil))) (.same (.same .nil)) ?_
    simp only[List.cons_append,List.nil_append]
    refine C9 (C4 (B2 (B2 (C4 (B2 ?_)))))
    obtain rfl:=sI h
    exact(U0 (t := .tup [.d (.v (.pointer none)),.row 0 1 0 (([]:List Int)).length,.d (vI rv2)]) (L:=[B0u ([]:List Int)]) (κ:=[2]) R (.cons (.tmp 4) (.cons (.tmp 5) (.cons (.tmp 6) .nil))) (vK C23 R) (.inl ⟨R,R,R⟩))
   intro c4
   replace h:=J7 c4 h
   refine eN (C1 R (D7 (D3 (A6 (J1 (O1 R (A0 R (eN ?_))))))))
   exact⟨m2,⟨[(1,.d (.arr 8 ((log).map C7.d))),(2,.ref 0 13 0 0),(4,.d (.v (.pointer none))),(5,.d (.v (.slice none 0 0))),(6,.d (vI rv2)),(26,.d (.arr 8 ((log).map C7.d))),(27,.d (vI (log.length:Int))),(28,.d (vI (W (x+1))))],[bx 13 (.d (D4.d p))]⟩,lS,.vw (κ:=[0]) (vK (.cons R R .nil) R),rv2,(W (x+1)),h,R⟩
  intro c3
  replace h:=P1 (nL c3) h
  refine eN (B8 (C1 R (N5 (E4 (E4 ?_)))))
  subst hK2
  refine I5 (A6 (B8 (qG (A0 R (I7 tb R (A0 R (eN (E3 ?_))))))))
  refine SW.own (ts':=[(4,.d (.v (.pointer none))),(5,.row 1 1 0 (([]:List Int)).length),(6,.d (vI e)),(39,.d (.arr 8 ((log).map C7.d))),(40,.d (vI (log.length:Int))),(41,.d (vI 0))]) (L':=[bx 13 (.d (D4.d p))]) 1 R R (.cons (.same _) (.cons .nil (.cons (.same _) (.cons (.same _) (.cons (.same _) (.cons (.same _) .nil)))))) (.same .nil) ?_
  simp only[List.cons_append,List.nil_append]
  obtain⟨K4,hK4,h⟩:∃ K,K=_∧A4J F log K F ([]:List Int) 0=some r:=⟨_,rfl,h⟩
  refine M2 (st0:=⟨[(4,.d (.v (.pointer none))),(5,.row 0 1 0 (([]:List Int)).length),(6,.d (vI e)),(39,.d (.arr 8 ((log).map C7.d))),(40,.d (vI (log.length:Int))),(41,.d (vI 0))],[B0u ([]:List Int)]⟩) (fun m st=>∃ (why:(List Int)) (x2:Int),A4J F log K4 m why x2=some r∧st=⟨[(4,.d (.v (.pointer none))),(5,.row 0 1 0 (why).length),(6,.d (vI e)),(39,.d (.arr 8 ((log).map C7.d))),(40,.d (vI (log.length:Int))),(41,.d (vI x2))],[B0u why]⟩) (.vw (κ:=[1]) (vK C23 R)) ⟨([]:List Int),0,h,R⟩ ?_
  clear h
  rintro m4 st ⟨why,x2,h,rfl⟩
  cases m4 with
  | zero=>cases(show(none:Option ((Option F7) × (List Int) × Int))=some r from h)
  | succ m4 =>
  rw[A4J]at h
  refine qG ?_
  refine Q4 R R R R ?_ ?_
  ·intro c5
   replace h:=J7 c5 h
   cases h
  intro c5
  replace h:=P1 (nL c5) h
  refine eN (B8 (C1 R (N5 (E4 (E4 ?_)))))
  subst hK4
  refine I5 (A6 (qG (A0 R (A0T R R R (A3 R (A14 R R R (A3 R (eN (C9 ?_)))))))))
  obtain rfl:=sI h
  exact(U0 (t := .tup [.d (.v (.pointer none)),.row 0 1 0 (why).length,.d (vI 0)]) (L:=[B0u why]) (κ:=[0]) R (.cons (.tmp 4) (.cons (.tmp 5) (.cons (.tmp 6) .nil))) (vK C23 R) (.inl ⟨R,R,R⟩))
 replace h:=(B5i nv).symm.trans h
 refine G7 (t' := .tup [.ref 1 26 0 0,.d (vI rv.2)]) (ls:=[]) (news:=[⟨26,[C5 t 1 2 3 4 5]⟩,(B7 t.A1),(B7 t.A5),(H7 t.B1),(B7 t.A7),(H7 t.B0)]) ([]) ([bx 13 (.d (D4.d p)),bx 26 (C5 t 2 3 4 5 6),B0u t.A1,B0u t.A5,B9r t.B1,B0u t.A7,B9r t.B0]) ((A7t k).some nv) eK R (.inl ⟨R,R,R⟩) R R R R .nil R R R .nil ((.cons R (.row (.row (.row (.row (.row .nil))))))) R R R R ?_
 refine A1D (.tup [.ref 1 26 0 0,.d (vI rv.2)]) R R R (A1B (t := .ref 1 26 0 0) R R R R (A1B (t := .d (vI rv.2)) R R R R (A3i R R R (A3 R (eN (B8 (E3 (qG (A0 R ?_)))))))))
 refine V5 R R R R ?_ ?_
 ·intro c6
  replace h:=P1 c6 h
  refine A3 R (eN (C0 R (qG (A0 R (A3 R (A3 R (A3 R (eN ?_))))))))
  refine SW.own (ts':=[(4,.d (.v (.pointer none))),(5,.row 7 1 0 (([]:List Int)).length),(6,.d (vI rv.2))]) (L':=[bx 13 (.d (D4.d p)),bx 26 (C5 t 2 3 4 5 6),B0u t.A1,B0u t.A5,B9r t.B1,B0u t.A7,B9r t.B0]) 1 R R (.cons (.same _) (.cons .nil (.cons (.same _) .nil))) (.same (.same (.same (.same (.same (.same (.same .nil))))))) ?_
  simp only[List.cons_append,List.nil_append]
  refine C9 (C4 (B2 ?_))
  obtain rfl:=sI h
  exact(U0 (t := .tup [.d (.v (.pointer none)),.row 0 1 0 (([]:List Int)).length,.d (vI rv.2)]) (L:=[B0u ([]:List Int)]) (κ:=[7]) R (.cons (.tmp 4) (.cons (.tmp 5) (.cons (.tmp 6) .nil))) (vK C23 R) (.inl ⟨R,R,R⟩))
 intro c6
 replace h:=J7 c6 h
 refine A3 R (eN (C1 R (qG (A0 R (I7 tb R ?_)))))
 refine A4l R R R R ?_ ?_
 ·intro c7
  replace h:=J7 c7 h
  refine A3 R (eN (C0 R (qG (A3 R (A3 R (A3 R (eN ?_)))))))
  refine SW.own (ts':=[(4,.d (.v (.pointer none))),(5,.row 7 1 0 (([]:List Int)).length),(6,.d (vI 3))]) (L':=[bx 13 (.d (D4.d p)),bx 26 (C5 t 2 3 4 5 6),B0u t.A1,B0u t.A5,B9r t.B1,B0u t.A7,B9r t.B0]) 1 R R (.cons (.same _) (.cons .nil (.cons (.same _) .nil))) (.same (.same (.same (.same (.same (.same (.same .nil))))))) ?_
  simp only[List.cons_append,List.nil_append]
  refine C9 (C4 (B2 ?_))
  obtain rfl:=sI h
  exact(U0 (t := .tup [.d (.v (.pointer none)),.row 0 1 0 (([]:List Int)).length,.d (vI 3)]) (L:=[B0u ([]:List Int)]) (κ:=[7]) R (.cons (.tmp 4) (.cons (.tmp 5) (.cons (.tmp 6) .nil))) (vK C23 R) (.inl ⟨R,R,R⟩))
 intro c7
 replace h:=P1 (nL c7) h
 refine A3 R (eN (C1 R (D7 (D3 (A6 (B8 (qG (A0 R (I7 tb R (A0 R (eN (E3 ?_))))))))))))
 obtain⟨K6,hK6,h⟩:∃ K,K=_∧A2d F p log K F rv.2 0=some r:=⟨_,rfl,h⟩
 refine M2 (fun m st=>∃ (e4:Int) (x3:Int),A2d F p log K6 m e4 x3=some r∧st=⟨[(1,.d (.arr 8 ((log).map C7.d))),(2,.ref 0 13 0 0),(4,.ref 1 26 0 0),(5,.d (.v (.slice none 0 0))),(6,.d (vI e4)),(26,.d (.arr 8 ((log).map C7.d))),(27,.d (vI (log.length:Int))),(28,.d (vI x3))],[bx 13 (.d (D4.d p)),bx 26 (C5 t 2 3 4 5 6),B0u t.A1,B0u t.A5,B9r t.B1,B0u t.A7,B9r t.B0]⟩) (.prn [1,2,4,5,6,26,27,28] R) ⟨rv.2,0,h,R⟩ ?_
 clear h
 rintro m6 st ⟨e4,x3,h,rfl⟩
 cases m6 with
 | zero=>cases(show(none:Option ((Option F7) × (List Int) × Int))=some r from h)
 | succ m6 =>
 rw[A2d]at h
 refine qG ?_
 refine Q4 R R R R ?_ ?_
 ·intro c8
  replace h:=J7 c8 h
  refine eN (B8 (C0 R (D7 (A6 (B8 (E3 (qG ?_)))))))
  obtain⟨e5,ie5,h⟩:=H1 h
  refine N8 tb (F0 ie5) (V1 ie5) R (I4 (y:=C7.d e5) tb (U5 (g:=C7.d) ie5) R (M5 tb R R R R R (I6 _ _ tb R (eN (qG (B5 (y:=D4.d p) tb R (B5 (y:=C7.d e5) tb R ?_)))))))
  obtain⟨rv3,k3,h⟩:=H1 h
  refine J5 (A78 k3) eK R R R R (A3 R (eN (qG (A0 R ?_))))
  refine V5 R R R R ?_ ?_
  ·intro c9
   replace h:=P1 c9 h
   refine eN (C0 R (qG (A0 R (A3 R (A3 R (A3 R (eN ?_)))))))
   refine SW.own (ts':=[(4,.d (.v (.pointer none))),(5,.row 8 1 0 (([]:List Int)).length),(6,.d (vI rv3))]) (L':=[bx 13 (.d (D4.d p)),bx 26 (C5 t 2 3 4 5 6),B0u t.A1,B0u t.A5,B9r t.B1,B0u t.A7,B9r t.B0,bx 8 (.d (C7.d e5))]) 1 R R (.cons (.same _) (.cons .nil (.cons (.same _) .nil))) (.same (.same (.same (.same (.same (.same (.same (.same .nil)))))))) ?_
   simp only[List.cons_append,List.nil_append]
   refine C9 (C4 (B2 (B2 (C4 (B2 ?_)))))
   obtain rfl:=sI h
   exact(U0 (t := .tup [.d (.v (.pointer none)),.row 0 1 0 (([]:List Int)).length,.d (vI rv3)]) (L:=[B0u ([]:List Int)]) (κ:=[8]) R (.cons (.tmp 4) (.cons (.tmp 5) (.cons (.tmp 6) .nil))) (vK C23 R) (.inl ⟨R,R,R⟩))
  intro c9
  replace h:=J7 c9 h
  refine eN (C1 R (D7 (D3 (A6 (J1 (O1 R (A0 R (eN ?_))))))))
  exact⟨m6,⟨[(1,.d (.arr 8 ((log).map C7.d))),(2,.ref 0 13 0 0),(4,.ref 1 26 0 0),(5,.d (.v (.slice none 0 0))),(6,.d (vI rv3)),(26,.d (.arr 8 ((log).map C7.d))),(27,.d (vI (log.length:Int))),(28,.d (vI (W (x3+1))))],[bx 13 (.d (D4.d p)),bx 26 (C5 t 2 3 4 5 6),B0u t.A1,B0u t.A5,B9r t.B1,B0u t.A7,B9r t.B0]⟩,lS,.vw (κ:=[0,1,2,3,4,5,6]) (vK (.cons R R (.cons R R B9x)) R),rv3,(W (x3+1)),h,R⟩
 intro c8
 replace h:=P1 (nL c8) h
 refine eN (B8 (C1 R (N5 (E4 (E4 ?_)))))
 subst hK6
 refine I5 (A6 (B8 (qG (A0 R (I7 tb R (A0 R (eN (E3 ?_))))))))
 refine SW.own (ts':=[(4,.ref 1 26 0 0),(5,.row 7 1 0 (([]:List Int)).length),(6,.d (vI e4)),(39,.d (.arr 8 ((log).map C7.d))),(40,.d (vI (log.length:Int))),(41,.d (vI 0))]) (L':=[bx 13 (.d (D4.d p)),bx 26 (C5 t 2 3 4 5 6),B0u t.A1,B0u t.A5,B9r t.B1,B0u t.A7,B9r t.B0]) 1 R R (.cons (.same _) (.cons .nil (.cons (.same _) (.cons (.same _) (.cons (.same _) (.cons (.same _) .nil)))))) (.same (.same (.same (.same (.same (.same (.same .nil))))))) ?_
 simp only[List.cons_append,List.nil_append]
 obtain⟨K8,hK8,h⟩:∃ K,K=_∧A2c F log K F t.H0 t.G8 t.G2 t.H4 t.G3 t.G9 t.H5 t.H9 t.E7 t.F8 t.I9 t.D8 t.G0 t.H6 t.G5 t.F5 t.E8 t.E5 t.F3 t.F4 t.A1 t.A5 t.F9 t.B1 t.A7 t.B0 ([]:List Int) 0=some r:=⟨_,rfl,h⟩
 refine M2 (st0:=⟨[(4,.ref 0 26 0 0),(5,.row 6 1 0 (([]:List Int)).length),(6,.d (vI e4)),(39,.d (.arr 8 ((log).map C7.d))),(40,.d (vI (log.length:Int))),(41,.d (vI 0))],B6X t [B0u ([]:List Int)]⟩) (fun m st=>∃ (d:(List F6)) (d2:(List G6)) (d3:(List E2)) (d4:(List ByteArray)) (d5:(List D1)) (d6:Int) (d7:Int) (d8:(List ByteArray)) (d9:(List D9)) (d10:(List E0)) (d11:(List Int)) (d12:Int) (d13:Int) (d14:Int) (d15:Int) (d16:(List Int)) (d17:(List Int)) (d18:(List Int)) (d19:Int) (d20:Bool) (d21:(List Int)) (d22:(List Int)) (d23:Bool) (d24:(List Bool)) (d25:(List Int)) (d26:(List Bool)) (why2:(List Int)) (x4:Int),A2c F log K8 m d d2 d3 d4 d5 d6 d7 d8 d9 d10 d11 d12 d13 d14 d15 d16 d17 d18 d19 d20 d21 d22 d23 d24 d25 d26 why2 x4=some r∧st=⟨[(4,.ref 0 26 0 0),(5,.row 6 1 0 (why2).length),(6,.d (vI e4)),(39,.d (.arr 8 ((log).map C7.d))),(40,.d (vI (log.length:Int))),(41,.d (vI x4))],[bx 26 (C5 (F7.mk d d2 d3 d4 d5 d6 d7 d8 d9 d10 d11 d12 d13 d14 d15 d16 d17 d18 d19 d20 d21 d22 d23 d24 d25 d26) 1 2 3 4 5),B0u d21,B0u d22,B9r d24,B0u d25,B9r d26,B0u why2]⟩) (.vw (κ:=[1,2,3,4,5,6,7]) (vK (.cons R R C38) R)) ⟨t.H0,t.G8,t.G2,t.H4,t.G3,t.G9,t.H5,t.H9,t.E7,t.F8,t.I9,t.D8,t.G0,t.H6,t.G5,t.F5,t.E8,t.E5,t.F3,t.F4,t.A1,t.A5,t.F9,t.B1,t.A7,t.B0,([]:List Int),0,h,R⟩ ?_
 clear h
 rintro m8 st ⟨d,d2,d3,d4,d5,d6,d7,d8,d9,d10,d11,d12,d13,d14,d15,d16,d17,d18,d19,d20,d21,d22,d23,d24,d25,d26,why2,x4,h,rfl⟩
 cases m8 with
 | zero=>cases(show(none:Option ((Option F7) × (List Int) × Int))=some r from h)
 | succ m8 =>
 rw[A2c]at h
 refine qG ?_
 refine Q4 R R R R ?_ ?_
 ·intro c10
  replace h:=J7 c10 h
  refine eN (B8 (C0 R (D7 (A6 (B8 (E3 (qG ?_)))))))
  obtain⟨e6,ie6,h⟩:=H1 h
  refine N8 tb (F0 ie6) (V1 ie6) R (I4 (y:=C7.d e6) tb (U5 (g:=C7.d) ie6) R (M5 tb R R R R R (I6 _ _ tb R (eN (qG (G4 R R R (B5 (y:=C7.d e6) tb R ?_)))))))
  obtain⟨rv4,k4,h⟩:=H1 h
  rcases M7 rv4 with⟨x5,nv2⟩ | ⟨v,nv2⟩
  ·replace h:=(exN nv2).symm.trans h
   refine G7 (t' := .tup [.ref 0 26 0 0,.d (vI x5)]) (ls:=[bx 26 (C5 (F7.mk d d2 d3 d4 d5 d6 d7 d8 d9 d10 d11 d12 d13 d14 d15 d16 d17 d18 d19 d20 d21 d22 d23 d24 d25 d26) 1 2 3 4 5),B0u ((F7.mk d d2 d3 d4 d5 d6 d7 d8 d9 d10 d11 d12 d13 d14 d15 d16 d17 d18 d19 d20 d21 d22 d23 d24 d25 d26).A1),B0u ((F7.mk d d2 d3 d4 d5 d6 d7 d8 d9 d10 d11 d12 d13 d14 d15 d16 d17 d18 d19 d20 d21 d22 d23 d24 d25 d26).A5),B9r ((F7.mk d d2 d3 d4 d5 d6 d7 d8 d9 d10 d11 d12 d13 d14 d15 d16 d17 d18 d19 d20 d21 d22 d23 d24 d25 d26).B1),B0u ((F7.mk d d2 d3 d4 d5 d6 d7 d8 d9 d10 d11 d12 d13 d14 d15 d16 d17 d18 d19 d20 d21 d22 d23 d24 d25 d26).A7),B9r ((F7.mk d d2 d3 d4 d5 d6 d7 d8 d9 d10 d11 d12 d13 d14 d15 d16 d17 d18 d19 d20 d21 d22 d23 d24 d25 d26).B0)]) (news:=[]) ([0,1,2,3,4,5]) ([bx 26 (C5 (F7.mk d d2 d3 d4 d5 d6 d7 d8 d9 d10 d11 d12 d13 d14 d15 d16 d17 d18 d19 d20 d21 d22 d23 d24 d25 d26) 1 2 3 4 5),B0u d21,B0u d22,B9r d24,B0u d25,B9r d26,B0u why2,bx 8 (.d (C7.d e6))]) ((A5q k4).err nv2) eK R (.inl ⟨R,R,R⟩) R R R R ((.cons R R C25)) R R R ((.cons R (.row (.row (.row (.row (.row .nil))))))) .nil R R R R ?_
   refine A1D (.tup [.ref 0 26 0 0,.d (vI x5)]) R R R (A1B (t := .ref 0 26 0 0) R R R R (A1B (t := .d (vI x5)) R R R R (A3i R R R (A3 R (eN (J1 (G4 R R R (A0T R R R (A0 R (P7 tb R R R R R R R R R R R R R ?_))))))))))
   obtain⟨q,iq,h⟩:=H1 h
   refine B2k (g:=vI) (w:=why2) (v:=[x5]) ([bx 26 (C5 (F7.mk d d2 d3 d4 d5 d6 d7 d8 d9 d10 d11 d12 d13 d14 d15 d16 d17 d18 d19 d20 d21 d22 d23 d24 d25 d26) 1 2 3 4 5),B0u d21,B0u d22,B9r d24,B0u d25,B9r d26,none,bx 8 (.d (C7.d e6)),B0u [x5]]) tb R R R R R R R R R R R iq R R R R R (A3i R R R (A14 R R R (Y9 (D3 (A6 (J1 (O1 R (A0 R (eN ?_)))))))))
   exact⟨m8,⟨[(4,.ref 0 26 0 0),(5,.row 6 1 0 (q).length),(6,.d (vI e4)),(39,.d (.arr 8 ((log).map C7.d))),(40,.d (vI (log.length:Int))),(41,.d (vI (W (x4+1))))],[bx 26 (C5 (F7.mk d d2 d3 d4 d5 d6 d7 d8 d9 d10 d11 d12 d13 d14 d15 d16 d17 d18 d19 d20 d21 d22 d23 d24 d25 d26) 1 2 3 4 5),B0u d21,B0u d22,B9r d24,B0u d25,B9r d26,B0u q]⟩,lS,.vw (κ:=[0,1,2,3,4,5,9]) (vK (.cons R R C38) R),d,d2,d3,d4,d5,d6,d7,d8,d9,d10,d11,d12,d13,d14,d15,d16,d17,d18,d19,d20,d21,d22,d23,d24,d25,d26,q,(W (x4+1)),h,R⟩
  replace h:=(exO nv2).symm.trans h
  refine G7 (t' := .tup [.ref 8 26 0 0,.d (vI 0)]) (ls:=[bx 26 (C5 (F7.mk d d2 d3 d4 d5 d6 d7 d8 d9 d10 d11 d12 d13 d14 d15 d16 d17 d18 d19 d20 d21 d22 d23 d24 d25 d26) 1 2 3 4 5),B0u ((F7.mk d d2 d3 d4 d5 d6 d7 d8 d9 d10 d11 d12 d13 d14 d15 d16 d17 d18 d19 d20 d21 d22 d23 d24 d25 d26).A1),B0u ((F7.mk d d2 d3 d4 d5 d6 d7 d8 d9 d10 d11 d12 d13 d14 d15 d16 d17 d18 d19 d20 d21 d22 d23 d24 d25 d26).A5),B9r ((F7.mk d d2 d3 d4 d5 d6 d7 d8 d9 d10 d11 d12 d13 d14 d15 d16 d17 d18 d19 d20 d21 d22 d23 d24 d25 d26).B1),B0u ((F7.mk d d2 d3 d4 d5 d6 d7 d8 d9 d10 d11 d12 d13 d14 d15 d16 d17 d18 d19 d20 d21 d22 d23 d24 d25 d26).A7),B9r ((F7.mk d d2 d3 d4 d5 d6 d7 d8 d9 d10 d11 d12 d13 d14 d15 d16 d17 d18 d19 d20 d21 d22 d23 d24 d25 d26).B0)]) (news:=[⟨26,[C5 v 7 8 9 10 11]⟩,(B7 v.A1),(B7 v.A5),(H7 v.B1),(B7 v.A7),(H7 v.B0)]) ([0,1,2,3,4,5]) ([bx 26 (C5 (F7.mk d d2 d3 d4 d5 d6 d7 d8 d9 d10 d11 d12 d13 d14 d15 d16 d17 d18 d19 d20 d21 d22 d23 d24 d25 d26) 1 2 3 4 5),B0u d21,B0u d22,B9r d24,B0u d25,B9r d26,B0u why2,bx 8 (.d (C7.d e6)),bx 26 (C5 v 9 10 11 12 13),B0u v.A1,B0u v.A5,B9r v.B1,B0u v.A7,B9r v.B0]) ((A5q k4).ok nv2) eK R (.inl ⟨R,R,R⟩) R R R R ((.cons R R C25)) R R R ((.cons R (.row (.row (.row (.row (.row .nil))))))) ((.cons R (.row (.row (.row (.row (.row .nil))))))) R R R R ?_
  refine A1D (.tup [.ref 8 26 0 0,.d (vI 0)]) R R R (A1B (t := .ref 8 26 0 0) R R R R (A1B (t := .d (vI 0)) R R R R (A3i R R R (A3 R (eN (J1 (G4 R R R (A0T R R R (A0 R (P7 tb R R R R R R R R R R R R R ?_))))))))))
  obtain⟨q2,iq2,h⟩:=H1 h
  refine B2k (g:=vI) (w:=why2) (v:=[0]) ([bx 26 (C5 (F7.mk d d2 d3 d4 d5 d6 d7 d8 d9 d10 d11 d12 d13 d14 d15 d16 d17 d18 d19 d20 d21 d22 d23 d24 d25 d26) 1 2 3 4 5),B0u d21,B0u d22,B9r d24,B0u d25,B9r d26,none,bx 8 (.d (C7.d e6)),bx 26 (C5 v 9 10 11 12 13),B0u v.A1,B0u v.A5,B9r v.B1,B0u v.A7,B9r v.B0,B0u [0]]) tb R R R R R R R R R R R iq2 R R R R R (A3i R R R ?_)
  refine A14 R R R (Y9 (D3 (A6 (J1 (O1 R (A0 R (eN ?_)))))))
  exact⟨m8,⟨[(4,.ref 0 26 0 0),(5,.row 6 1 0 (q2).length),(6,.d (vI e4)),(39,.d (.arr 8 ((log).map C7.d))),(40,.d (vI (log.length:Int))),(41,.d (vI (W (x4+1))))],B6X v [B0u q2]⟩,lS,.vw (κ:=[8,9,10,11,12,13,15]) (vK (.cons R R C38) R),v.H0,v.G8,v.G2,v.H4,v.G3,v.G9,v.H5,v.H9,v.E7,v.F8,v.I9,v.D8,v.G0,v.H6,v.G5,v.F5,v.E8,v.E5,v.F3,v.F4,v.A1,v.A5,v.F9,v.B1,v.A7,v.B0,q2,(W (x4+1)),h,R⟩
 intro c10
 replace h:=P1 (nL c10) h
 refine eN (B8 (C1 R (N5 (E4 (E4 ?_)))))
 subst hK8
 refine I5 (A6 (qG (G4 R R R (A0T R R R (A3i R R R (A14 R R R (A3 R (eN (C9 ?_)))))))))
 obtain rfl:=sI h
 exact(U0 (t := .tup [.ref 0 26 0 0,.row 6 1 0 (why2).length,.d (vI 0)]) (L:=[bx 26 (C5 (F7.mk d d2 d3 d4 d5 d6 d7 d8 d9 d10 d11 d12 d13 d14 d15 d16 d17 d18 d19 d20 d21 d22 d23 d24 d25 d26) 1 2 3 4 5),B0u d21,B0u d22,B9r d24,B0u d25,B9r d26,B0u why2]) (κ:=[0,1,2,3,4,5,6]) R (.cons (.tmp 4) (.cons (.tmp 5) (.cons (.tmp 6) .nil))) (vK (.cons R R C38) R) (.inr ⟨_,R,R,R⟩))
def A36 (F:Nat) (p:D4) (log:(List C7)):Option (H2 × (List Int) × Int):=(A42 F p log).bind fun rv=>B2S rv.1 (if rv.2.2=0 then(none)else(some ((H2.mk 0 0 [] [] [] 0 false [] [] false [] [] []),[],rv.2.2))) (fun t=>if rv.2.2=0 then(some ((H2.mk t.H6 t.G5 t.F5 t.E8 t.E5 t.F3 t.F4 t.A1 t.A5 t.F9 t.B1 t.A7 t.B0),rv.2.1,0))else(some ((H2.mk 0 0 [] [] [] 0 false [] [] false [] [] []),[],rv.2.2)))
theorem A6l {F:Nat} {p:D4} {log:(List C7)} {r:(H2 × (List Int) × Int)} (h:A36 F p log=some r):PC Tryz.prog 18 [D4.d p,.arr 8 ((log).map C7.d)] (.tup [H2.d r.1,.arr 1 ((r.2.1).map vI),.v (.int .i64 r.2.2)]):=by
 rw[A36]at h
 refine PC.of_lend ?_
 refine SC.of_sw Tryz.func18 R R R ?_
 dsimp only[L8,List.map]
 refine qG (M9 R (M5 tb R R R R R (A3 R (A3 R (eN (qG (B5 (y:=D4.d p) tb R (A0 R ?_))))))))
 obtain⟨rv,k,h⟩:=H1 h
 rcases Option.eq_none_or_eq_some rv.1 with nv | ⟨t,nv⟩
 ·replace h:=(B5h nv).symm.trans h
  refine G7 (t' := .tup [.d (.v (.pointer none)),.row 2 1 0 (rv.2.1).length,.d (vI rv.2.2)]) (ls:=[]) (news:=[(B7 rv.2.1)]) ([]) ([bx 13 (.d (D4.d p)),bx 13 (.d (.agg [vI 0,vI 0,.v (.slice none 0 0),.v (.slice none 0 0),.v (.slice none 0 0),vI 0,.v (.bool false),.v (.slice none 0 0),.v (.slice none 0 0),.v (.bool false),.v (.slice none 0 0),.v (.slice none 0 0),.v (.slice none 0 0)])),B0u rv.2.1]) ((A4c k).none nv) eK R (.inl ⟨R,R,R⟩) R R R R .nil R R R .nil ((.row .nil)) R R R R ?_
  refine A1D (.tup [.d (.v (.pointer none)),.row 2 1 0 (rv.2.1).length,.d (vI rv.2.2)]) R R R (A1B (t := .d (.v (.pointer none))) R R R R (A1B (t := .row 2 1 0 (rv.2.1).length) R R R R (A1B (t := .d (vI rv.2.2)) R R R R (A3 R (A14 R R R (A3 R (eN (B8 (qG (A0 R ?_))))))))))
  refine V5 R R R R ?_ ?_
  ·intro c
   replace h:=P1 c h
   refine eN (C0 R (qG (S1 (v := .d (.agg [vI 0,vI 0,.v (.slice none 0 0),.v (.slice none 0 0),.v (.slice none 0 0),vI 0,.v (.bool false),.v (.slice none 0 0),.v (.slice none 0 0),.v (.bool false),.v (.slice none 0 0),.v (.slice none 0 0),.v (.slice none 0 0)])) tb R R (List.cons_ne_nil _ _) kR kR kR kR R R (A0 R (I6 _ _ tb R (A3 R (A3 R (eN (C9 (B2 ?_))))))))))
   obtain rfl:=sI h
   exact(U0 (t := .d (.tup [.agg [vI 0,vI 0,.v (.slice none 0 0),.v (.slice none 0 0),.v (.slice none 0 0),vI 0,.v (.bool false),.v (.slice none 0 0),.v (.slice none 0 0),.v (.bool false),.v (.slice none 0 0),.v (.slice none 0 0),.v (.slice none 0 0)],.v (.slice none 0 0),vI rv.2.2])) (L:=[]) (κ:=[]) R (.cons (rc tb R) (.cons (.tmp 5) (.cons (.tmp 6) .nil))) (v0 R) ⟨_,R,(.tupDL (.cons (.aggDL (dL (dL (.cons .nilA (.cons .nilA (.cons .nilA (dL (dL (.cons .nilA (.cons .nilA (dL (.cons .nilA (.cons .nilA (.cons .nilA .nil)))))))))))))) (.cons .nilA (dL .nil))))⟩)
  intro c
  replace h:=J7 c h
  cases h
 replace h:=(B5i nv).symm.trans h
 refine G7 (t' := .tup [.ref 2 26 0 0,.row 8 1 0 (rv.2.1).length,.d (vI rv.2.2)]) (ls:=[]) (news:=[⟨26,[C5 t 1 2 3 4 5]⟩,(B7 t.A1),(B7 t.A5),(H7 t.B1),(B7 t.A7),(H7 t.B0),(B7 rv.2.1)]) ([]) ([bx 13 (.d (D4.d p)),bx 13 (.d (.agg [vI 0,vI 0,.v (.slice none 0 0),.v (.slice none 0 0),.v (.slice none 0 0),vI 0,.v (.bool false),.v (.slice none 0 0),.v (.slice none 0 0),.v (.bool false),.v (.slice none 0 0),.v (.slice none 0 0),.v (.slice none 0 0)])),bx 26 (C5 t 3 4 5 6 7),B0u t.A1,B0u t.A5,B9r t.B1,B0u t.A7,B9r t.B0,B0u rv.2.1]) ((A4c k).some nv) eK R (.inl ⟨R,R,R⟩) R R R R .nil R R R .nil ((.cons R (.row (.row (.row (.row (.row (.row .nil)))))))) R R R R ?_
 refine A1D (.tup [.ref 2 26 0 0,.row 8 1 0 (rv.2.1).length,.d (vI rv.2.2)]) R R R (A1B (t := .ref 2 26 0 0) R R R R (A1B (t := .row 8 1 0 (rv.2.1).length) R R R R (A1B (t := .d (vI rv.2.2)) R R R R (A3i R R R (A14 R R R (A3 R (eN (B8 (qG (A0 R ?_))))))))))
 refine V5 R R R R ?_ ?_
 ·intro c2
  replace h:=P1 c2 h
  refine eN (C0 R (qG (S1 (v := .d (.agg [vI 0,vI 0,.v (.slice none 0 0),.v (.slice none 0 0),.v (.slice none 0 0),vI 0,.v (.bool false),.v (.slice none 0 0),.v (.slice none 0 0),.v (.bool false),.v (.slice none 0 0),.v (.slice none 0 0),.v (.slice none 0 0)])) tb R R (List.cons_ne_nil _ _) kR kR kR kR R R (A0 R (I6 _ _ tb R (A3 R (A3 R (eN (C9 (B2 ?_))))))))))
  obtain rfl:=sI h
  exact(U0 (t := .d (.tup [.agg [vI 0,vI 0,.v (.slice none 0 0),.v (.slice none 0 0),.v (.slice none 0 0),vI 0,.v (.bool false),.v (.slice none 0 0),.v (.slice none 0 0),.v (.bool false),.v (.slice none 0 0),.v (.slice none 0 0),.v (.slice none 0 0)],.v (.slice none 0 0),vI rv.2.2])) (L:=[]) (κ:=[]) R (.cons (rc tb R) (.cons (.tmp 5) (.cons (.tmp 6) .nil))) (v0 R) ⟨_,R,(.tupDL (.cons (.aggDL (dL (dL (.cons .nilA (.cons .nilA (.cons .nilA (dL (dL (.cons .nilA (.cons .nilA (dL (.cons .nilA (.cons .nilA (.cons .nilA .nil)))))))))))))) (.cons .nilA (dL .nil))))⟩)
 intro c2
 replace h:=J7 c2 h
 refine eN (C1 R (D7 (A6 (qG (G4 R R R (F1 R R R (C8 tb R (B4i tb R R R R R R R R R (A0T R R R (I6 _ _ tb R (A14 R R R (A3 R (eN (C9 ?_))))))))))))))
 obtain rfl:=sI h
 exact(U0 (t := .tup [B4I (H2.mk t.H6 t.G5 t.F5 t.E8 t.E5 t.F3 t.F4 t.A1 t.A5 t.F9 t.B1 t.A7 t.B0) 0 1 2 3 4,.row 5 1 0 (rv.2.1).length,.d (vI 0)]) (L:=[B0u t.A1,B0u t.A5,B9r t.B1,B0u t.A7,B9r t.B0,B0u rv.2.1]) (κ:=[3,4,5,6,7,8]) R (.cons (rc tb R) (.cons (.tmp 5) (.cons (.tmp 6) .nil))) (vK C38 R) ⟨_,R,(.tupL (.cons (.aggL (dL (dL (dL (dL (dL (dL (dL (.cons (.row R R) (.cons (.row R R) (dL (.cons (.row R R) (.cons (.row R R) (.cons (.row R R) .nil)))))))))))))) (.cons (.row R R) (dL .nil))))⟩)
def A2C (F:Nat) (s:(List E0)):Option (List E0):=some s
theorem A5U {F:Nat} {s:(List E0)} {r:(List E0)} (h:A2C F s=some r):SCR Tryz.prog 168 (List.map T.d [.arr 9 ((s).map E0.d)]) [] (.fn (.func 212) [] [.ref 0 1 0 0]) (List.map some [⟨1,[.d (.arr 9 ((r).map E0.d))]⟩]):=by
 rw[A2C]at h
 refine SC.of_sw Tryz.func168 R R R ?_
 dsimp only[L8,List.map]
 refine qG (M9 R (A3 R (eN (qG (A3E R R R R (B3d R R R (eN (C9 ?_))))))))
 obtain rfl:=sI h
 exact f2 [0] (.cons R R .nil) R (.cons (.tmp 2) .nil) R
def A37 (F:Nat) (d:F7):Option (F7 × (List (Int × Bool))):=(U8 F d).bind fun rv=>some (d,(M0 ([]:List (Int × Bool)) rv true))
theorem A6U {F:Nat} {d:F7} {r:(F7 × (List (Int × Bool)))} (h:A37 F d=some r):SCR Tryz.prog 92 (List.map T.d [.el 26 (([d]).map F7.d) ((0:Int)).toNat 0]) [] (.fn (.func 167) [] [.ref 0 1 0 0,.ref 1 1 0 0]) (List.map some [⟨1,[.d (.el 26 (([r.1]).map F7.d) ((0:Int)).toNat 0)]⟩,⟨1,[.mp 2]⟩,(m3w r.2)]):=by
 rw[A37]at h
 refine SC.of_sw Tryz.func92 R R R ?_
 dsimp only[L8,List.map]
 refine qG (M9 R (A3 R (eN (qG (A58 R R R (B5 (y := .el 26 (([d]).map F7.d) ((0:Int)).toNat 0) tb R ?_))))))
 obtain⟨rv,k,h⟩:=H1 h
 refine J5 (A0i k) eK R R R R ?_
 refine A8E (vf:=fun b => .v (.bool b)) (v:=true) (q:=(M0 ([]:List (Int × Bool)) rv true)) ([c1 (.el 26 (([d]).map F7.d) ((0:Int)).toNat 0),C3e (M0 ([]:List (Int × Bool)) rv true)]) R R R R R R R R R ?_
 refine A1D (.mp 1) R R R (M5 tb R R R R R (I6 _ _ tb R (eN (qG (A3E R R R R (B3d R R R (eN (C9 ?_))))))))
 obtain rfl:=sI h
 exact f2 [0,2,1] (.cons R R (.cons R R (.map R .nil))) R (.cons (.tmp 2) .nil) R
def A0n (F:Nat) (B29:(List Int)→Int→Option (Int × Bool)) (y:(List Int)) (x:Int) (x4:Int):Option (Int × Bool):=(A8i y [x4]).bind fun q=>B29 q (W (x+1))
def A0o (F:Nat) (y:(List Int)) (e:E0) (K:Int→Int→Option (Int × Bool)):Nat→Int→Int→Option (Int × Bool)
 | 0,_,_=>none
 | n+1,x2,x3=>if x3<(e.need.length:Int)then((P3 e.need x3).bind fun e4=>(P3 y e4).bind fun e5=>A0o F y e K n (max x2 e5) (W (x3+1)))else(K x2 x3)
def A1b (F:Nat) :Option (Int × Bool):=some (0,false)
def A1c (F:Nat) (B46:Int→(List (Int × Bool))→Option (Int × Bool)) (i:Int) (mm2:(List (Int × Bool))):Option (Int × Bool):=B46 (W (i-1)) mm2
def A0p (F:Nat) (e7:E0) (K:(List (Int × Bool))→Int→Option (Int × Bool)):Nat→(List (Int × Bool))→Int→Option (Int × Bool)
 | 0,_,_=>none
 | n+1,mm2,x5=>if x5<(e7.need.length:Int)then((P3 e7.need x5).bind fun e8=>A0p F e7 K n (M0 mm2 e8 true) (W (x5+1)))else(K mm2 x5)
def R4 (F:Nat) (t:F7) (o:Int) (e6:Int) (rv4:(F7 × (List (Int × Bool)))) (rv5:(List E0)) (K:Int→(List (Int × Bool))→Option (Int × Bool)):Nat→Int→(List (Int × Bool))→Option (Int × Bool)
 | 0,_,_=>none
 | n+1,i,mm=>if 0≤i then((P3 rv5 i).bind fun e7=>if((A2e mm i).getD false)=true then(A0p F e7 (fun(mm2:(List (Int × Bool))) (x5:Int)=>(A0R F rv4.1 i).bind fun rv6=>if rv6=true then((P3 t.A1 i).bind fun e9=>(P3 t.F8 i).bind fun e10=>if(W (e9+e10.most))<o then(A1b F)else((U8 F t).bind fun rv7=>if i=rv7 then(if(W (e9+e10.most))<(max e6 t.D8)then(A1b F)else(A1c F (R4 F t o e6 rv4 rv5 K n) i mm2))else(A1c F (R4 F t o e6 rv4 rv5 K n) i mm2)))else(R4 F t o e6 rv4 rv5 K n (W (i-1)) mm2)) F mm 0)else(R4 F t o e6 rv4 rv5 K n (W (i-1)) mm))else(K i mm)
def T5 (F:Nat) (t:F7) (o:Int) (K:(List Int)→Int→Option (Int × Bool)):Nat→(List Int)→Int→Option (Int × Bool)
 | 0,_,_=>none
 | n+1,y,x=>if x<(t.F8.length:Int)then((P3 t.F8 x).bind fun e=>(Y5 F t x).bind fun rv=>if rv=true then((P3 t.A5 x).bind fun e2=>A0n F (T5 F t o K n) y x e2)else((A0R F t x).bind fun rv2=>if rv2=true then((P3 t.A1 x).bind fun e3=>A0n F (T5 F t o K n) y x (max o (W (e3+e.least))))else(A0o F y e (fun(x2:Int) (x3:Int)=>A0n F (T5 F t o K n) y x (W (x2+e.least))) F o 0)))else(K y x)
def A2h (F:Nat) (t:F7) (o:Int):Option (Int × Bool):=T5 F t o (fun(y:(List Int)) (x:Int)=>(U8 F t).bind fun rv3=>(P3 y rv3).bind fun e6=>(A37 F t).bind fun rv4=>(A2C F rv4.1.F8).bind fun rv5=>R4 F t o e6 rv4 rv5 (fun(i:Int) (mm:(List (Int × Bool)))=>some ((max e6 t.D8),(decide ((max e6 t.D8)≤t.G0)))) F (W ((rv5.length:Int)-1)) rv4.2) F ([]:List Int) 0
theorem A4a {F:Nat} {t:F7} {o:Int} {r:(Int × Bool)} (h:A2h F t o=some r):PC Tryz.prog 53 [.el 26 (([t]).map F7.d) ((0:Int)).toNat 0,.v (.int .i64 o)] (.tup [.v (.int .i64 r.1),.v (.bool r.2)]):=by
 rw[A2h]at h
 refine SC.of_swm Tryz.func53 R R R ?_
 dsimp only[L8,List.map]
 refine S3 ?_
 refine W3 fun df=>?_
 refine J1 (M9 R (M9 R (M5 tb R R R R R (M5 tb R R R R R (eN (S3 ?_))))))
 refine W3 fun df=>?_
 refine J1 (A3 R (eN (S3 ?_)))
 refine W3 fun df=>?_
 refine qG (B5 (y := .el 26 (([t]).map F7.d) ((0:Int)).toNat 0) tb R (S2 R R R (M4 tb R (M4 tb R (I4 (y := .arr 9 ((t.F8).map E0.d)) tb (U5 (g:=F7.d) (R:P3 [t] 0=some t)) R (I7 tb R (A0 R (eN (E3 ?_)))))))))
 refine SW.own (ts':=[(2,.ref 0 1 0 0),(3,.ref 1 1 0 0),(4,.ref 2 1 0 0),(5,.ref 3 1 0 0),(6,.row 4 1 0 (([]:List Int)).length),(19,.d (.arr 9 ((t.F8).map E0.d))),(20,.d (vI (t.F8.length:Int))),(21,.d (vI 0))]) (L':=[c1 (.el 26 (([t]).map F7.d) ((0:Int)).toNat 0),c1 (vI o),c1 (vI 0),c1 (.v (.bool false))]) 1 R R (.cons (.same _) (.cons (.same _) (.cons (.same _) (.cons (.same _) (.cons .nil (.cons (.same _) (.cons (.same _) (.cons (.same _) .nil)))))))) (.same (.same (.same (.same .nil)))) ?_
 simp only[List.cons_append,List.nil_append]
 obtain⟨K29,hK29,h⟩:∃ K,K=_∧T5 F t o K F ([]:List Int) 0=some r:=⟨_,rfl,h⟩
 refine M2 (fun m st=>∃ (y:(List Int)) (x:Int),T5 F t o K29 m y x=some r∧st=⟨[(2,.ref 0 1 0 0),(3,.ref 1 1 0 0),(4,.ref 2 1 0 0),(5,.ref 3 1 0 0),(6,.row 4 1 0 (y).length),(19,.d (.arr 9 ((t.F8).map E0.d))),(20,.d (vI (t.F8.length:Int))),(21,.d (vI x))],[c1 (.el 26 (([t]).map F7.d) ((0:Int)).toNat 0),c1 (vI o),c1 (vI 0),c1 (.v (.bool false)),B0u y]⟩) (.prn [2,3,4,5,6,19,20,21] R) ⟨([]:List Int),0,h,R⟩ ?_
 clear h
 rintro m29 st ⟨y,x,h,rfl⟩
 cases m29 with
 | zero=>cases(show(none:Option (Int × Bool))=some r from h)
 | succ m29 =>
 rw[T5]at h
 refine qG ?_
 refine Q4 R R R R ?_ ?_
 ·intro c
  replace h:=J7 c h
  refine eN (B8 (C0 R (D7 (A6 (B8 (E3 (qG (A0 R ?_))))))))
  obtain⟨e,ie,h⟩:=H1 h
  refine N8 tb (F0 ie) (V1 ie) R (I4 (y:=E0.d e) tb (U5 (g:=E0.d) ie) R (M5 tb R R R R R (A3 R (I6 _ _ tb R (eN (qG (B5 (y:=vI o) tb R (A3 R (eN (B8 ?_))))))))))
  refine W5 (fun zz:Int=>A0n F (T5 F t o K29 m29) y x zz=some r) (fun zz:Int=>⟨[(2,.ref 0 1 0 0),(3,.ref 1 1 0 0),(4,.ref 2 1 0 0),(5,.ref 3 1 0 0),(6,.row 4 1 0 (y).length),(9,.d (vI zz)),(19,.d (.arr 9 ((t.F8).map E0.d))),(20,.d (vI (t.F8.length:Int))),(21,.d (vI x))],[c1 (.el 26 (([t]).map F7.d) ((0:Int)).toNat 0),c1 (vI o),c1 (vI 0),c1 (.v (.bool false)),B0u y]⟩) ?_ ?_
  ·clear h
   rintro x4 h
   rw[A0n]at h
   refine J1 (A0T R R R (A0 R (P7 tb R R R R R R R R R R R R R ?_)))
   obtain⟨q,iq,h⟩:=H1 h
   refine B2k (g:=vI) (w:=y) (v:=[x4]) ([c1 (.el 26 (([t]).map F7.d) ((0:Int)).toNat 0),c1 (vI o),c1 (vI 0),c1 (.v (.bool false)),none,B0u [x4]]) tb R R R R R R R R R R R iq R R R R R (A14 R R R (Y9 (D3 (A6 (J1 (O1 R (A0 R (eN ?_))))))))
   exact⟨m29,⟨[(2,.ref 0 1 0 0),(3,.ref 1 1 0 0),(4,.ref 2 1 0 0),(5,.ref 3 1 0 0),(6,.row 4 1 0 (q).length),(19,.d (.arr 9 ((t.F8).map E0.d))),(20,.d (vI (t.F8.length:Int))),(21,.d (vI (W (x+1))))],[c1 (.el 26 (([t]).map F7.d) ((0:Int)).toNat 0),c1 (vI o),c1 (vI 0),c1 (.v (.bool false)),B0u q]⟩,lS,.vw (κ:=[0,1,2,3,6]) (vK (.cons R R (.cons R R (.cons R R (.cons R R C23)))) R),q,(W (x+1)),h,R⟩
  refine E3 (qG (B5 (y := .el 26 (([t]).map F7.d) ((0:Int)).toNat 0) tb R (A0 R ?_)))
  obtain⟨rv,k,h⟩:=H1 h
  refine M6 (A1s k) eK R R R R ?_ ?_
  ·intro c2
   replace h:=J7 c2 h
   refine A3 R (eN (C0 R (J1 (B5 (y := .el 26 (([t]).map F7.d) ((0:Int)).toNat 0) tb R (S2 R R R (M4 tb R (M4 tb R (I4 (y := .arr 1 ((t.A5).map vI)) tb (U5 (g:=F7.d) (R:P3 [t] 0=some t)) R (A0 R ?_)))))))))
   obtain⟨e2,ie2,h⟩:=H1 h
   refine N8 tb (F0 ie2) (V1 ie2) R (I4 (y:=vI e2) tb (U5 (g:=vI) ie2) R (A3 R (Y9 (D3 (A6 ?_)))))
   exact .inl ⟨e2,h,.vw (κ:=[0,1,2,3,4]) (vK (.cons R R (.cons R R (.cons R R (.cons R R C23)))) R)⟩
  intro c2
  replace h:=ifF c2 h
  refine A3 R (eN (C1 R (qG (B5 (y := .el 26 (([t]).map F7.d) ((0:Int)).toNat 0) tb R (A0 R ?_)))))
  obtain⟨rv2,k2,h⟩:=H1 h
  refine M6 (A38 k2) eK R R R R ?_ ?_
  ·intro c3
   replace h:=J7 c3 h
   refine A3 R (eN (C0 R (T1 kR (A0 R (B5 (y := .el 26 (([t]).map F7.d) ((0:Int)).toNat 0) tb R (S2 R R R (M4 tb R (M4 tb R (I4 (y := .arr 1 ((t.A1).map vI)) tb (U5 (g:=F7.d) (R:P3 [t] 0=some t)) R (A0 R ?_))))))))))
   obtain⟨e3,ie3,h⟩:=H1 h
   refine N8 tb (F0 ie3) (V1 ie3) R (I4 (y:=vI e3) tb (U5 (g:=vI) ie3) R (C8 tb R (B5 (y:=vI e.least) tb R (O1 R (B3f R R R R (A3 R (I0 kR (D3 (A6 ?_)))))))))
   exact .inl ⟨(max o (W (e3+e.least))),h,.vw (κ:=[0,1,2,3,4]) (vK (.cons R R (.cons R R (.cons R R (.cons R R C23)))) R)⟩
  intro c3
  replace h:=ifF c3 h
  refine A3 R (eN (C1 R (B8 (qG (C8 tb R (B5 (y := .arr 1 ((e.need).map vI)) tb R (I7 tb R (A0 R (eN (E3 ?_))))))))))
  obtain⟨K37,hK37,h⟩:∃ K,K=_∧A0o F y e K F o 0=some r:=⟨_,rfl,h⟩
  refine M2 (fun m st=>∃ (x2:Int) (x3:Int),A0o F y e K37 m x2 x3=some r∧st=⟨[(2,.ref 0 1 0 0),(3,.ref 1 1 0 0),(4,.ref 2 1 0 0),(5,.ref 3 1 0 0),(6,.row 4 1 0 (y).length),(8,.ref 5 9 0 0),(9,.d (vI x2)),(19,.d (.arr 9 ((t.F8).map E0.d))),(20,.d (vI (t.F8.length:Int))),(21,.d (vI x)),(28,.d (.arr 1 ((e.need).map vI))),(29,.d (vI (e.need.length:Int))),(30,.d (vI x3))],[c1 (.el 26 (([t]).map F7.d) ((0:Int)).toNat 0),c1 (vI o),c1 (vI 0),c1 (.v (.bool false)),B0u y,bx 9 (.d (E0.d e))]⟩) (.prn [2,3,4,5,6,8,9,19,20,21,28,29,30] R) ⟨o,0,h,R⟩ ?_
  clear h
  rintro m37 st ⟨x2,x3,h,rfl⟩
  cases m37 with
  | zero=>cases(show(none:Option (Int × Bool))=some r from h)
  | succ m37 =>
  rw[A0o]at h
  refine qG ?_
  refine Q4 R R R R ?_ ?_
  ·intro c4
   replace h:=J7 c4 h
   refine eN (B8 (C0 R (D7 (A6 (B8 (E3 (qG ?_)))))))
   obtain⟨e4,ie4,h⟩:=H1 h
   refine N8 tb (F0 ie4) (V1 ie4) R (I4 (y:=vI e4) tb (U5 (g:=vI) ie4) R (A3 R (eN (J1 (A0 R (A0T R R R (A0 R ?_)))))))
   obtain⟨e5,ie5,h⟩:=H1 h
   refine Y1 tb R R R R R R (F0 ie5) (ix1 ie5) R R ?_
   refine A15 (y:=vI e5) tb R R R R (U5 (g:=fun a=>T.d (vI a)) ie5) R R R R ?_
   refine B3f R R R R (A3 R (Y9 (D3 (A6 (J1 (O1 R (A0 R (eN ?_))))))))
   exact⟨m37,_,lS,.prn [2,3,4,5,6,8,9,19,20,21,28,29,30] R,(max x2 e5),(W (x3+1)),h,R⟩
  intro c4
  replace h:=P1 (nL c4) h
  refine eN (B8 (C1 R (N5 (E4 (E4 ?_)))))
  subst hK37
  refine I5 (A6 (J1 (A0 R (C8 tb R (B5 (y:=vI e.least) tb R (O1 R (A3 R (Y9 (D3 (A6 ?_))))))))))
  exact .inl ⟨(W (x2+e.least)),h,.vw (κ:=[0,1,2,3,4]) (vK (.cons R R (.cons R R (.cons R R (.cons R R C23)))) R)⟩
 intro c
 replace h:=P1 (nL c) h
 refine eN (B8 (C1 R (N5 (E4 (E4 ?_)))))
 subst hK29
 refine I5 (A6 (S3 ?_))
 refine W3 fun df=>?_
 refine T1 kR (A0T R R R (B5 (y := .el 26 (([t]).map F7.d) ((0:Int)).toNat 0) tb R ?_))
 obtain⟨rv3,k3,h⟩:=H1 h
 refine J5 (A0i k3) eK R R R R ?_
 obtain⟨e6,ie6,h⟩:=H1 h
 refine Y1 tb R R R R R R (F0 ie6) (ix1 ie6) R R ?_
 refine A15 (y:=vI e6) tb R R R R (U5 (g:=fun a=>T.d (vI a)) ie6) R R R R ?_
 refine B5 (y := .el 26 (([t]).map F7.d) ((0:Int)).toNat 0) tb R (S2 R R R (M4 tb R (M4 tb R (M4 tb R (I4 (y:=vI t.D8) tb (U5 (g:=F7.d) (R:P3 [t] 0=some t)) R (B3f R R R R (M5 tb R R R R R (I6 _ _ tb R (I0 kR (A6 (S3 (S3 ?_))))))))))))
 refine W3 fun df=>?_
 refine J1 (B5 (y := .el 26 (([t]).map F7.d) ((0:Int)).toNat 0) tb R ?_)
 obtain⟨rv4,k4,h⟩:=H1 h
 refine A2X (t' := .fn (.func 167) [] [.ref 6 1 0 0,.ref 7 1 0 0]) (news':=[⟨1,[.d (.el 26 (([rv4.1]).map F7.d) ((0:Int)).toNat 0)]⟩,⟨1,[.mp 8]⟩,(m3w rv4.2)]) (A6U k4) eK R R R ((.cons R (.cons R (.map .nil)))) R R R (eN (A5A ?_))
 refine B8m (B2u eK R R R fun lb jlb=>B36 Tryz.func167 R R R R ?_)
 simp only[L8,Nat.zero_add,Nat.reduceAdd]
 with_reducible apply B6f
 refine B8n fun df=>?_
 refine J1 (M9 R (Y9 ?_))
 with_reducible apply O2
 with_reducible apply B6f
 refine B8n fun df=>?_
 refine J1 (B5 (y := .el 26 (([rv4.1]).map F7.d) ((0:Int)).toNat 0) tb R (S2 R R R (M4 tb R (M4 tb R (I4 (y := .arr 9 ((rv4.1.F8).map E0.d)) tb (U5 (g:=F7.d) (R:P3 [rv4.1] 0=some rv4.1)) R ?_)))))
 obtain⟨rv5,k5,h⟩:=H1 h
 refine A2X (t' := .fn (.func 212) [] [.ref 10 1 0 0]) (news':=[⟨1,[.d (.arr 9 ((rv5).map E0.d))]⟩]) (A5U k5) eK R R R ((.cons R .nil)) R R R (Y9 ?_)
 with_reducible apply O2
 with_reducible apply B6T
 refine B2u eK R R R fun lb2 jlb2=>B35 Tryz.func212 R R R R ?_
 simp only[L8,Nat.zero_add,Nat.reduceAdd]
 with_reducible apply A2D
 with_reducible apply A4D
 with_reducible apply A2B
 refine B5 (y := .arr 9 ((rv5).map E0.d)) tb R (I7 tb R (A1n R R R R (A3 R (A0B ?_))))
 with_reducible apply O2
 with_reducible apply A6K
 obtain⟨K46,hK46,h⟩:∃ K,K=_∧R4 F t o e6 rv4 rv5 K F (W ((rv5.length:Int)-1)) rv4.2=some r:=⟨_,rfl,h⟩
 refine B2s (fun m ph st=>∃ (i:Int) (mm:(List (Int × Bool))),R4 F t o e6 rv4 rv5 K46 m i mm=some r∧ph=(SX.norm,SX.norm,())∧st=⟨[(0,.d (.v (.func (.yield lb2) #[] #[]))),(1,.ref 10 1 0 0),(3,.d (vI i))],[c1 (.el 26 (([t]).map F7.d) ((0:Int)).toNat 0),c1 (vI o),c1 (vI 0),c1 (.v (.bool false)),B0u y,c1 (vI (max e6 t.D8)),c1 (.el 26 (([rv4.1]).map F7.d) ((0:Int)).toNat 0),bx 1 (.mp 8),C3e mm,c1 (.v (.func (.yield lb) #[] #[])),c1 (.arr 9 ((rv5).map E0.d))]⟩) (.prn [0,1,3] R) ⟨(W ((rv5.length:Int)-1)),rv4.2,h,R,R⟩ ?_
 clear h
 rintro m46 ph st ⟨i,mm,h,rfl,rfl⟩
 cases m46 with
 | zero=>cases(show(none:Option (Int × Bool))=some r from h)
 | succ m46 =>
 rw[R4]at h
 with_reducible apply A2D
 with_reducible apply A2D
 with_reducible apply A4D
 with_reducible apply A2B
 refine A0 R ?_
 refine A7I R R R R ?_ ?_
 ·intro c5
  replace h:=J7 c5 h
  refine A0B ?_
  with_reducible apply O2
  refine A6L R ?_
  with_reducible apply A5i
  with_reducible apply O2
  with_reducible apply A2D
  with_reducible apply A6K
  with_reducible apply A2D
  with_reducible apply A4D
  with_reducible apply A2B
  refine A0 R (A0 R (B5 (y := .arr 9 ((rv5).map E0.d)) tb R (A0 R ?_)))
  obtain⟨e7,ie7,h⟩:=H1 h
  refine N8 tb (F0 ie7) (V1 ie7) R (I4 (y:=E0.d e7) tb (U5 (g:=E0.d) ie7) R (B1T ?_))
  (apply B2n (ys:=[vI i,E0.d e7]));(iterate 7 exact rfl)
  intro hup2
  dsimp only[B1H]
  refine qG (A3 R (eN (J1 (M5 tb R R R R R (I6 _ _ tb R (Y9 ?_))))))
  refine⟨R,?_⟩
  with_reducible apply A6K
  with_reducible apply A2D
  with_reducible apply A2D
  with_reducible apply A4D
  with_reducible apply A2B
  refine B9z (.mp 8) tb R R R R R R R R R (A0 R ?_)
  refine C0I (vf:=fun b => .v (.bool b)) (z0:=false) (u := .v (.bool ((A2e mm i).getD false))) tb R R R R R R R R R R ?_
  with_reducible apply X8
  ·intro c6
   replace h:=J7 c6 h
   refine A0a R R R (A0B ?_)
   with_reducible apply O2
   refine A3Q R ?_
   with_reducible apply A5i
   with_reducible apply O2
   with_reducible apply A2D
   with_reducible apply A2D
   with_reducible apply A4D
   with_reducible apply A2B
   refine C8 tb R (B5 (y := .arr 1 ((e7.need).map vI)) tb R (I7 tb R (A0 R (A0B ?_))))
   with_reducible apply O2
   with_reducible apply A6K
   obtain⟨K47,hK47,h⟩:∃ K,K=_∧A0p F e7 K F mm 0=some r:=⟨_,rfl,h⟩
   refine B2s (st0:=⟨[(1,.ref 6 1 0 0),(2,.ref 7 1 0 0),(3,.ref 9 1 0 0),(4,.d (vI i)),(21,.d (.arr 1 ((e7.need).map vI))),(22,.d (vI (e7.need.length:Int))),(23,.d (vI 0))],[c1 (.el 26 (([t]).map F7.d) ((0:Int)).toNat 0),c1 (vI o),c1 (vI 0),c1 (.v (.bool false)),B0u y,c1 (vI (max e6 t.D8)),c1 (.el 26 (([rv4.1]).map F7.d) ((0:Int)).toNat 0),bx 1 (.mp 8),C3e mm,c1 (.v (.func (.yield lb) #[] #[])),c1 (.arr 9 ((rv5).map E0.d))]⟩) (fun m ph st=>∃ (mm2:(List (Int × Bool))) (x5:Int),A0p F e7 K47 m mm2 x5=some r∧ph=(SX.norm,())∧st=⟨[(1,.ref 6 1 0 0),(2,.ref 7 1 0 0),(3,.ref 9 1 0 0),(4,.d (vI i)),(21,.d (.arr 1 ((e7.need).map vI))),(22,.d (vI (e7.need.length:Int))),(23,.d (vI x5))],[c1 (.el 26 (([t]).map F7.d) ((0:Int)).toNat 0),c1 (vI o),c1 (vI 0),c1 (.v (.bool false)),B0u y,c1 (vI (max e6 t.D8)),c1 (.el 26 (([rv4.1]).map F7.d) ((0:Int)).toNat 0),bx 1 (.mp 8),C3e mm2,c1 (.v (.func (.yield lb) #[] #[])),c1 (.arr 9 ((rv5).map E0.d))]⟩) (.vw (κ:=[0,1,2,3,4,5,6,7,8,9,10]) (vK (.cons R R (.cons R R (.cons R R (.cons R R (.row R (.cons R R (.cons R R (.cons R R (.map R (.cons R R (.cons R R .nil))))))))))) R)) ⟨mm,0,h,R,R⟩ ?_
   clear h
   rintro m47 ph st ⟨mm2,x5,h,rfl,rfl⟩
   cases m47 with
   | zero=>cases(show(none:Option (Int × Bool))=some r from h)
   | succ m47 =>
   rw[A0p]at h
   with_reducible apply A2D
   with_reducible apply A4D
   with_reducible apply A2B
   refine Q4 R R R R ?_ ?_
   ·intro c7
    replace h:=J7 c7 h
    refine A0B ?_
    with_reducible apply O2
    with_reducible apply A2D
    refine A6L R ?_
    with_reducible apply A5i
    with_reducible apply O2
    with_reducible apply A2D
    with_reducible apply A6K
    with_reducible apply A2D
    with_reducible apply A4D
    with_reducible apply A2B
    obtain⟨e8,ie8,h⟩:=H1 h
    refine N8 tb (F0 ie8) (V1 ie8) R (I4 (y:=vI e8) tb (U5 (g:=vI) ie8) R (A3 R (A0B ?_)))
    with_reducible apply O2
    with_reducible apply A4D
    with_reducible apply A2B
    refine B9z (.mp 8) tb R R R R R R R R R (A0 R ?_)
    refine C0b (vf:=fun b => .v (.bool b)) (v:=true) (q:=(M0 mm2 e8 true)) ([c1 (.el 26 (([t]).map F7.d) ((0:Int)).toNat 0),c1 (vI o),c1 (vI 0),c1 (.v (.bool false)),B0u y,c1 (vI (max e6 t.D8)),c1 (.el 26 (([rv4.1]).map F7.d) ((0:Int)).toNat 0),bx 1 (.mp 8),C3e (M0 mm2 e8 true),c1 (.v (.func (.yield lb) #[] #[])),c1 (.arr 9 ((rv5).map E0.d))]) R R R R R R R R R ?_
    refine A0B ?_
    with_reducible apply A3a
    with_reducible apply O2
    with_reducible apply A4D
    with_reducible apply A2B
    refine O1 R (A0 R (A0B ?_))
    with_reducible apply O2
    exact⟨m47,_,lS,.prn [1,2,3,4,21,22,23] R,(M0 mm2 e8 true),(W (x5+1)),h,R,R⟩
   intro c7
   replace h:=P1 (nL c7) h
   refine A0B ?_
   with_reducible apply O2
   with_reducible apply A2D
   refine A3Q R ?_
   with_reducible apply B12
   with_reducible apply A5W
   with_reducible apply A5W
   subst hK47
   with_reducible apply A75
   with_reducible apply O2
   with_reducible apply A2D
   with_reducible apply A4D
   with_reducible apply A2B
   refine B5 (y := .el 26 (([rv4.1]).map F7.d) ((0:Int)).toNat 0) tb R (A0 R ?_)
   obtain⟨rv6,k6,h⟩:=H1 h
   refine M6 (A38 k6) eK R R R R ?_ ?_
   ·intro c8
    replace h:=J7 c8 h
    refine A0 R (B5 (y := .v (.func (.yield lb) #[] #[])) tb R (A0 R (B1T ?_)))
    (apply B5x (ys:=[vI i]));(iterate 7 exact rfl)
    intro hup
    dsimp only[B1H]
    refine J1 (A3 R (Y9 ?_))
    refine⟨R,C0g ?_⟩
    refine E3 (B8 (T1 kR (B5 (y := .el 26 (([t]).map F7.d) ((0:Int)).toNat 0) tb R (S2 R R R (M4 tb R (M4 tb R (I4 (y := .arr 1 ((t.A1).map vI)) tb (U5 (g:=F7.d) (R:P3 [t] 0=some t)) R (A0 R ?_))))))))
    obtain⟨e9,ie9,h⟩:=H1 h
    refine N8 tb (F0 ie9) (V1 ie9) R (I4 (y:=vI e9) tb (U5 (g:=vI) ie9) R (B5 (y := .el 26 (([t]).map F7.d) ((0:Int)).toNat 0) tb R (S2 R R R (M4 tb R (M4 tb R (I4 (y := .arr 9 ((t.F8).map E0.d)) tb (U5 (g:=F7.d) (R:P3 [t] 0=some t)) R (A0 R ?_)))))))
    obtain⟨e10,ie10,h⟩:=H1 h
    refine N8 tb (F0 ie10) (V1 ie10) R (M4 tb R (I4 (y:=vI e10.most) tb (U5 (g:=E0.d) ie10) R (O1 R (A3 R (I0 kR (A6 (B8 ?_)))))))
    refine W5 (Sum.elim (fun zz:Unit=>A1b F=some r) (fun zz:Unit=>A1c F (R4 F t o e6 rv4 rv5 K46 m46) i mm2=some r)) (Sum.elim (fun zz:Unit=>⟨[(4,.ref 2 1 0 0),(5,.ref 3 1 0 0),(125,.d (.v (.bool true)))],[c1 (.el 26 (([t]).map F7.d) ((0:Int)).toNat 0),c1 (vI o),c1 (vI 0),c1 (.v (.bool false)),B0u y,c1 (vI (max e6 t.D8)),c1 (.el 26 (([rv4.1]).map F7.d) ((0:Int)).toNat 0),bx 1 (.mp 8),C3e mm2,c1 (.v (.func (.yield lb) #[] #[])),c1 (.arr 9 ((rv5).map E0.d))]⟩) (fun zz:Unit=>⟨[(4,.ref 2 1 0 0),(5,.ref 3 1 0 0),(125,.d (.v (.bool false)))],[c1 (.el 26 (([t]).map F7.d) ((0:Int)).toNat 0),c1 (vI o),c1 (vI 0),c1 (.v (.bool false)),B0u y,c1 (vI (max e6 t.D8)),c1 (.el 26 (([rv4.1]).map F7.d) ((0:Int)).toNat 0),bx 1 (.mp 8),C3e mm2,c1 (.v (.func (.yield lb) #[] #[])),c1 (.arr 9 ((rv5).map E0.d))]⟩)) ?_ ?_
    ·clear h
     rintro(⟨⟩ | ⟨⟩) h
     ·dsimp only[Sum.elim]at h ⊢
      rw[A1b]at h
      refine C0 R (qG (I6 _ _ tb R (I6 _ _ tb R (eN (C9 (C4 ?_))))))
      refine⟨[c1 (.el 26 (([t]).map F7.d) ((0:Int)).toNat 0),c1 (vI o),c1 (vI 0),c1 (.v (.bool false)),B0u y,c1 (vI (max e6 t.D8)),c1 (.el 26 (([rv4.1]).map F7.d) ((0:Int)).toNat 0),bx 1 (.mp 8),C3e mm2,c1 (.v (.func (.yield lb) #[] #[])),c1 (.arr 9 ((rv5).map E0.d))],[0,1,2,3,4,5,6,7,8,9,10],(vK (.cons R R (.cons R R (.cons R R (.cons R R (.row R (.cons R R (.cons R R (.cons R R (.map R (.cons R R (.cons R R .nil))))))))))) R),?_⟩
      with_reducible apply B6k
      with_reducible apply A2B
      refine Z9 R R R (D6 R (A0B ?_))
      with_reducible apply O2
      refine A6L R ?_
      with_reducible apply B6e
      with_reducible apply A6Q
      refine⟨[c1 (.el 26 (([t]).map F7.d) ((0:Int)).toNat 0),c1 (vI o),c1 (vI 0),c1 (.v (.bool false)),B0u y,c1 (vI (max e6 t.D8)),c1 (.el 26 (([rv4.1]).map F7.d) ((0:Int)).toNat 0),bx 1 (.mp 8),C3e mm2,c1 (.v (.func (.yield lb) #[] #[])),c1 (.arr 9 ((rv5).map E0.d))],[0,1,2,3,4,5,6,7,8,9,10],(vK (.cons R R (.cons R R (.cons R R (.cons R R (.row R (.cons R R (.cons R R (.cons R R (.map R (.cons R R (.cons R R .nil))))))))))) R),?_⟩
      with_reducible apply B6k
      with_reducible apply A2B
      refine Z9 R R R (A0B ?_)
      with_reducible apply O2
      refine A6L R ?_
      with_reducible apply B6e
      with_reducible apply A6Q
      with_reducible apply B2x
      with_reducible apply B2x
      with_reducible apply A6Q
      refine⟨R,[c1 (.el 26 (([t]).map F7.d) ((0:Int)).toNat 0),c1 (vI o),c1 (vI 0),c1 (.v (.bool false)),B0u y,c1 (vI (max e6 t.D8)),c1 (.el 26 (([rv4.1]).map F7.d) ((0:Int)).toNat 0),bx 1 (.mp 8),C3e mm2,c1 (.v (.func (.yield lb) #[] #[])),c1 (.arr 9 ((rv5).map E0.d))],[0,1,2,3,4,5,6,7,8,9,10],(vK (.cons R R (.cons R R (.cons R R (.cons R R (.row R (.cons R R (.cons R R (.cons R R (.map R (.cons R R (.cons R R .nil))))))))))) R),?_⟩
      try dsimp only
      with_reducible apply A6Q
      refine⟨R,[c1 (.el 26 (([t]).map F7.d) ((0:Int)).toNat 0),c1 (vI o),c1 (vI 0),c1 (.v (.bool false)),B0u y,c1 (vI (max e6 t.D8)),c1 (.el 26 (([rv4.1]).map F7.d) ((0:Int)).toNat 0),bx 1 (.mp 8),C3e mm2],[0,1,2,3,4,5,6,7,8],(vK (.cons R R (.cons R R (.cons R R (.cons R R (.row R (.cons R R (.cons R R (.cons R R (.map R .nil))))))))) R),?_⟩
      try dsimp only
      refine C4 (B2 ?_)
      obtain rfl:=sI h
      exact U4 (t := .d (.tup [vI 0,.v (.bool false)])) R R R (.cons (rc tb R) (.cons (rc tb R) .nil))
     ·dsimp only[Sum.elim]at h ⊢
      rw[A1c]at h
      refine C1 R (D7 (D3 ?_))
      refine⟨[c1 (.el 26 (([t]).map F7.d) ((0:Int)).toNat 0),c1 (vI o),c1 (vI 0),c1 (.v (.bool false)),B0u y,c1 (vI (max e6 t.D8)),c1 (.el 26 (([rv4.1]).map F7.d) ((0:Int)).toNat 0),bx 1 (.mp 8),C3e mm2,c1 (.v (.func (.yield lb) #[] #[])),c1 (.arr 9 ((rv5).map E0.d))],[0,1,2,3,4,5,6,7,8,9,10],(vK (.cons R R (.cons R R (.cons R R (.cons R R (.row R (.cons R R (.cons R R (.cons R R (.map R (.cons R R (.cons R R .nil))))))))))) R),?_⟩
      with_reducible apply A9y
      with_reducible apply A2B
      refine A0a R R R (D6 R (A0B ?_))
      with_reducible apply O2
      refine A3Q R ?_
      with_reducible apply A5i
      with_reducible apply A3a
      refine⟨[c1 (.el 26 (([t]).map F7.d) ((0:Int)).toNat 0),c1 (vI o),c1 (vI 0),c1 (.v (.bool false)),B0u y,c1 (vI (max e6 t.D8)),c1 (.el 26 (([rv4.1]).map F7.d) ((0:Int)).toNat 0),bx 1 (.mp 8),C3e mm2,c1 (.v (.func (.yield lb) #[] #[])),c1 (.arr 9 ((rv5).map E0.d))],[0,1,2,3,4,5,6,7,8,9,10],(vK (.cons R R (.cons R R (.cons R R (.cons R R (.row R (.cons R R (.cons R R (.cons R R (.map R (.cons R R (.cons R R .nil))))))))))) R),?_⟩
      with_reducible apply A9y
      with_reducible apply A2B
      refine A0a R R R (A0B ?_)
      with_reducible apply O2
      refine A3Q R ?_
      with_reducible apply A5i
      with_reducible apply A3a
      with_reducible apply O2
      with_reducible apply A4D
      with_reducible apply A2B
      refine A0 R (A1n R R R R (A3 R (A0B ?_)))
      with_reducible apply O2
      exact⟨m46,_,lS,.prn [0,1,3] R,(W (i-1)),mm2,h,R,R⟩
    refine J1 (A0 R (B5 (y:=vI o) tb R ?_))
    refine Q4 R R R R ?_ ?_
    ·intro c9
     replace h:=J7 c9 h
     refine A0 R (L9 9 R (D6 R (eN ?_)))
     exact .inl ⟨.inl (),h,.prn [4,5,125] R⟩
    intro c9
    replace h:=P1 (nL c9) h
    refine A0 R (A0 R (B5 (y := .el 26 (([t]).map F7.d) ((0:Int)).toNat 0) tb R ?_))
    obtain⟨rv7,k7,h⟩:=H1 h
    refine J5 (A0i k7) eK R R R R ?_
    refine Z3 R R R R ?_ ?_
    ·intro c10
     replace h:=J7 c10 h
     refine A0 R (A0 R (B5 (y:=vI (max e6 t.D8)) tb R ?_))
     refine Q4 R R R R ?_ ?_
     ·intro c11
      replace h:=J7 c11 h
      refine D6 R (D0 R (eN ?_))
      exact .inl ⟨.inl (),h,.prn [4,5,125] R⟩
     intro c11
     replace h:=P1 (nL c11) h
     refine D6 R (D0 R (eN ?_))
     exact .inl ⟨.inr (()),h,.prn [4,5,125] R⟩
    intro c10
    replace h:=P1 c10 h
    refine A0 R (L9 3 R (D0 R (D0 R (eN ?_))))
    exact .inl ⟨.inr (()),h,.prn [4,5,125] R⟩
   intro c8
   replace h:=ifF c8 h
   refine A0 R (L9 4 R (D0 R (A0B ?_)))
   with_reducible apply O2
   refine A3Q R ?_
   with_reducible apply A5i
   with_reducible apply A3a
   refine⟨[c1 (.el 26 (([t]).map F7.d) ((0:Int)).toNat 0),c1 (vI o),c1 (vI 0),c1 (.v (.bool false)),B0u y,c1 (vI (max e6 t.D8)),c1 (.el 26 (([rv4.1]).map F7.d) ((0:Int)).toNat 0),bx 1 (.mp 8),C3e mm2,c1 (.v (.func (.yield lb) #[] #[])),c1 (.arr 9 ((rv5).map E0.d))],[0,1,2,3,4,5,6,7,8,9,10],(vK (.cons R R (.cons R R (.cons R R (.cons R R (.row R (.cons R R (.cons R R (.cons R R (.map R (.cons R R (.cons R R .nil))))))))))) R),?_⟩
   with_reducible apply A9y
   with_reducible apply A2B
   refine A0a R R R (A0B ?_)
   with_reducible apply O2
   refine A3Q R ?_
   with_reducible apply A5i
   with_reducible apply A3a
   with_reducible apply O2
   with_reducible apply A4D
   with_reducible apply A2B
   refine A0 R (A1n R R R R (A3 R (A0B ?_)))
   with_reducible apply O2
   exact⟨m46,_,lS,.prn [0,1,3] R,(W (i-1)),mm2,h,R,R⟩
  intro c6
  replace h:=ifF c6 h
  refine Z9 R R R (A0B ?_)
  with_reducible apply O2
  refine A6L R ?_
  with_reducible apply B12
  with_reducible apply A5W
  with_reducible apply A75
  refine⟨[c1 (.el 26 (([t]).map F7.d) ((0:Int)).toNat 0),c1 (vI o),c1 (vI 0),c1 (.v (.bool false)),B0u y,c1 (vI (max e6 t.D8)),c1 (.el 26 (([rv4.1]).map F7.d) ((0:Int)).toNat 0),bx 1 (.mp 8),C3e mm,c1 (.v (.func (.yield lb) #[] #[])),c1 (.arr 9 ((rv5).map E0.d))],[0,1,2,3,4,5,6,7,8,9,10],(vK (.cons R R (.cons R R (.cons R R (.cons R R (.row R (.cons R R (.cons R R (.cons R R (.map R (.cons R R (.cons R R .nil))))))))))) R),?_⟩
  with_reducible apply A9y
  with_reducible apply A2B
  refine A0a R R R (A0B ?_)
  with_reducible apply O2
  refine A3Q R ?_
  with_reducible apply A5i
  with_reducible apply A3a
  with_reducible apply O2
  with_reducible apply A4D
  with_reducible apply A2B
  refine A0 R (A1n R R R R (A3 R (A0B ?_)))
  with_reducible apply O2
  exact⟨m46,_,lS,.prn [0,1,3] R,(W (i-1)),mm,h,R,R⟩
 intro c5
 replace h:=P1 (Int.not_le.2 c5) h
 refine A0B ?_
 with_reducible apply O2
 refine A3Q R ?_
 with_reducible apply B12
 with_reducible apply A5W
 with_reducible apply A5W
 subst hK46
 with_reducible apply A75
 refine⟨R,[c1 (.el 26 (([t]).map F7.d) ((0:Int)).toNat 0),c1 (vI o),c1 (vI 0),c1 (.v (.bool false)),B0u y,c1 (vI (max e6 t.D8)),c1 (.el 26 (([rv4.1]).map F7.d) ((0:Int)).toNat 0),bx 1 (.mp 8),C3e mm,c1 (.v (.func (.yield lb) #[] #[])),c1 (.arr 9 ((rv5).map E0.d))],[0,1,2,3,4,5,6,7,8,9,10],(vK (.cons R R (.cons R R (.cons R R (.cons R R (.row R (.cons R R (.cons R R (.cons R R (.map R (.cons R R (.cons R R .nil))))))))))) R),?_⟩
 try dsimp only
 with_reducible apply A3a
 refine⟨R,[c1 (.el 26 (([t]).map F7.d) ((0:Int)).toNat 0),c1 (vI o),c1 (vI 0),c1 (.v (.bool false)),B0u y,c1 (vI (max e6 t.D8)),c1 (.el 26 (([rv4.1]).map F7.d) ((0:Int)).toNat 0),bx 1 (.mp 8),C3e mm],[0,1,2,3,4,5,6,7,8],(vK (.cons R R (.cons R R (.cons R R (.cons R R (.row R (.cons R R (.cons R R (.cons R R (.map R .nil))))))))) R),?_⟩
 try dsimp only
 refine D3 (A6 ?_)
 refine W3 fun df=>?_
 refine B8 (T1 kR (B5 (y:=vI (max e6 t.D8)) tb R (B5 (y:=vI (max e6 t.D8)) tb R (B5 (y := .el 26 (([t]).map F7.d) ((0:Int)).toNat 0) tb R (S2 R R R (M4 tb R (M4 tb R (M4 tb R (I4 (y:=vI t.G0) tb (U5 (g:=F7.d) (R:P3 [t] 0=some t)) R (B8a R R R R (I6 _ _ tb R (I6 _ _ tb R (I0 kR (A6 (C9 ?_)))))))))))))))
 obtain rfl:=sI h
 exact U4 (t := .d (.tup [vI (max e6 t.D8),.v (.bool (decide ((max e6 t.D8)≤t.G0)))])) R R R (.cons (rc tb R) (.cons (rc tb R) .nil))
def A6V (F:Nat) (p:D4) (log:(List C7)):Option ((Option F7) × Int):=(A42 F p log).bind fun rv=>B2S rv.1 (if rv.2.2=0 then(none)else(some (none,rv.2.2))) (fun t=>if rv.2.2=0 then((U8 F t).bind fun rv2=>(Y5 F t rv2).bind fun rv3=>if rv3=true then(some (none,9))else(some ((some t),0)))else(some (none,rv.2.2)))
theorem A4b {F:Nat} {p:D4} {log:(List C7)} {r:((Option F7) × Int)} (h:A6V F p log=some r):SCO Tryz.prog 51 (List.map T.d [D4.d p,.arr 8 ((log).map C7.d)]) [] r.1 (.d (.tup [.v (.pointer none),.v (.int .i64 r.2)])) (List.map some []) (fun(tt:F7) => .tup [.ref 0 26 0 0,.d (.v (.int .i64 r.2))]) (fun(tt:F7)=>List.map some [⟨26,[C5 tt 1 2 3 4 5]⟩,(B7 tt.A1),(B7 tt.A5),(H7 tt.B1),(B7 tt.A7),(H7 tt.B0)]):=by
 rw[A6V]at h
 refine SC.of_sw Tryz.func51 R R R ?_
 dsimp only[L8,List.map]
 refine qG (M9 R (A3 R (A3 R (eN (qG (B5 (y:=D4.d p) tb R (A0 R ?_)))))))
 obtain⟨rv,k,h⟩:=H1 h
 rcases Option.eq_none_or_eq_some rv.1 with nv | ⟨t,nv⟩
 ·replace h:=(B5h nv).symm.trans h
  refine G7 (t' := .tup [.d (.v (.pointer none)),.row 1 1 0 (rv.2.1).length,.d (vI rv.2.2)]) (ls:=[]) (news:=[(B7 rv.2.1)]) ([]) ([bx 13 (.d (D4.d p)),B0u rv.2.1]) ((A4c k).none nv) eK R (.inl ⟨R,R,R⟩) R R R R .nil R R R .nil ((.row .nil)) R R R R (A1D (.tup [.d (.v (.pointer none)),.row 1 1 0 (rv.2.1).length,.d (vI rv.2.2)]) R R R (A1B (t := .d (.v (.pointer none))) R R R R (A1B (t := .row 1 1 0 (rv.2.1).length) R R R R ?_)))
  refine A1B (t := .d (vI rv.2.2)) R R R R (A3 R (A14 R R R (A3 R (eN (B8 (E3 (qG (A0 R ?_))))))))
  refine V5 R R R R ?_ ?_
  ·intro c
   replace h:=P1 c h
   refine A3 R (eN (C0 R (qG (A0 R (A3 R (A3 R (eN (C9 (C4 (B2 ?_))))))))))
   obtain rfl:=sI h
   exact(U0 (t := .d (.tup [.v (.pointer none),vI rv.2.2])) (L:=[]) (κ:=[]) R (.cons (.tmp 4) (.cons (.tmp 5) .nil)) (v0 R) (.inl ⟨R,R,R⟩))
  intro c
  replace h:=J7 c h
  cases h
 replace h:=(B5i nv).symm.trans h
 refine G7 (t' := .tup [.ref 1 26 0 0,.row 7 1 0 (rv.2.1).length,.d (vI rv.2.2)]) (ls:=[]) (news:=[⟨26,[C5 t 1 2 3 4 5]⟩,(B7 t.A1),(B7 t.A5),(H7 t.B1),(B7 t.A7),(H7 t.B0),(B7 rv.2.1)]) ([]) ([bx 13 (.d (D4.d p)),bx 26 (C5 t 2 3 4 5 6),B0u t.A1,B0u t.A5,B9r t.B1,B0u t.A7,B9r t.B0,B0u rv.2.1]) ((A4c k).some nv) eK R (.inl ⟨R,R,R⟩) R R R R .nil R R R .nil ((.cons R (.row (.row (.row (.row (.row (.row .nil)))))))) R R R R ?_
 refine A1D (.tup [.ref 1 26 0 0,.row 7 1 0 (rv.2.1).length,.d (vI rv.2.2)]) R R R (A1B (t := .ref 1 26 0 0) R R R R (A1B (t := .row 7 1 0 (rv.2.1).length) R R R R (A1B (t := .d (vI rv.2.2)) R R R R (A3i R R R (A14 R R R (A3 R (eN (B8 (E3 (qG (A0 R ?_)))))))))))
 refine V5 R R R R ?_ ?_
 ·intro c2
  replace h:=P1 c2 h
  refine A3 R (eN (C0 R (qG (A0 R (A3 R (A3 R (eN (C9 (C4 (B2 ?_))))))))))
  obtain rfl:=sI h
  exact(U0 (t := .d (.tup [.v (.pointer none),vI rv.2.2])) (L:=[]) (κ:=[]) R (.cons (.tmp 4) (.cons (.tmp 5) .nil)) (v0 R) (.inl ⟨R,R,R⟩))
 intro c2
 replace h:=J7 c2 h
 refine A3 R (eN (C1 R (qG (G4 R R R (G4 R R R ?_)))))
 obtain⟨rv2,k2,h⟩:=H1 h
 refine A19 (A0i k2) R eK R R ((.cons (.ref R (.aggL (dL (dL (dL (dL (dL (dL (dL (dL (dL (dL (dL (dL (dL (dL (dL (dL (dL (dL (dL (dL (.cons (.row R R) (.cons (.row R R) (dL (.cons (.row R R) (.cons (.row R R) (.cons (.row R R) .nil)))))))))))))))))))))))))))) .nil)) R R ?_
 obtain⟨rv3,k3,h⟩:=H1 h
 refine A4k (A1s k3) eK R R ((.cons (.ref R (.aggL (dL (dL (dL (dL (dL (dL (dL (dL (dL (dL (dL (dL (dL (dL (dL (dL (dL (dL (dL (dL (.cons (.row R R) (.cons (.row R R) (dL (.cons (.row R R) (.cons (.row R R) (.cons (.row R R) .nil)))))))))))))))))))))))))))) (dL .nil))) R R ?_ ?_
 ·intro c3
  replace h:=J7 c3 h
  refine A3 R (eN (C0 R (qG (A3 R (A3 R (eN (C9 (C4 (B2 ?_)))))))))
  obtain rfl:=sI h
  exact(U0 (t := .d (.tup [.v (.pointer none),vI 9])) (L:=[]) (κ:=[]) R (.cons (.tmp 4) (.cons (.tmp 5) .nil)) (v0 R) (.inl ⟨R,R,R⟩))
 intro c3
 replace h:=ifF c3 h
 refine A3 R (eN (C1 R (D7 (D3 (A6 (qG (G4 R R R (A3i R R R (A3 R (eN (C9 ?_)))))))))))
 obtain rfl:=sI h
 exact(U0 (t := .tup [.ref 0 26 0 0,.d (vI 0)]) (L:=B6X t []) (κ:=[1,2,3,4,5,6]) R (.cons (.tmp 4) (.cons (.tmp 5) .nil)) (vK (.cons R R B9x) R) (.inr ⟨_,R,R,R⟩))
def A3Z (F:Nat) (p:D4) (log:(List C7)) (tick:Int):Option (Int × Int):=(A6V F p log).bind fun rv=>B2S rv.1 (if rv.2=0 then(none)else(some (0,rv.2))) (fun t=>if rv.2=0 then((Y7 F tick t.H6 100000).bind fun rv2=>if rv2=true then(some (0,7))else((A2h F t tick).bind fun rv3=>if rv3.2=true then(some (rv3.1,0))else(some (0,9))))else(some (0,rv.2)))
theorem A6d {F:Nat} {p:D4} {log:(List C7)} {tick:Int} {r:(Int × Int)} (h:A3Z F p log tick=some r):PC Tryz.prog 23 [D4.d p,.arr 8 ((log).map C7.d),.v (.int .i64 tick)] (.tup [.v (.int .i64 r.1),.v (.int .i64 r.2)]):=by
 rw[A3Z]at h
 refine SC.of_sw Tryz.func23 R R R ?_
 dsimp only[L8,List.map]
 refine qG (M9 R (A3 R (A3 R (eN (qG (B5 (y:=D4.d p) tb R (A0 R ?_)))))))
 obtain⟨rv,k,h⟩:=H1 h
 rcases Option.eq_none_or_eq_some rv.1 with nv | ⟨t,nv⟩
 ·replace h:=(B5h nv).symm.trans h
  refine G7 (t' := .d (.tup [.v (.pointer none),vI rv.2])) (ls:=[]) (news:=[]) ([]) ([bx 13 (.d (D4.d p))]) ((A4b k).none nv) eK R (.inl ⟨R,R,R⟩) R R R R .nil R R R .nil .nil R R R R (A0 R (Q1 (t := .v (.pointer none)) R R R R (Q1 (t:=vI rv.2) R R R R (A3 R (A3 R (eN (B8 (E3 (qG (A0 R ?_))))))))))
  refine V5 R R R R ?_ ?_
  ·intro c
   replace h:=P1 c h
   refine A3 R (eN (C0 R (qG (A0 R (A3 R (A3 R (eN (C9 (C4 (B2 ?_))))))))))
   obtain rfl:=sI h
   exact U4 (t := .d (.tup [vI 0,vI rv.2])) R R R (.cons (.tmp 6) (.cons (.tmp 7) .nil))
  intro c
  replace h:=J7 c h
  cases h
 replace h:=(B5i nv).symm.trans h
 refine G7 (t' := .tup [.ref 1 26 0 0,.d (vI rv.2)]) (ls:=[]) (news:=[⟨26,[C5 t 1 2 3 4 5]⟩,(B7 t.A1),(B7 t.A5),(H7 t.B1),(B7 t.A7),(H7 t.B0)]) ([]) ([bx 13 (.d (D4.d p)),bx 26 (C5 t 2 3 4 5 6),B0u t.A1,B0u t.A5,B9r t.B1,B0u t.A7,B9r t.B0]) ((A4b k).some nv) eK R (.inl ⟨R,R,R⟩) R R R R .nil R R R .nil ((.cons R (.row (.row (.row (.row (.row .nil))))))) R R R R ?_
 refine A1D (.tup [.ref 1 26 0 0,.d (vI rv.2)]) R R R (A1B (t := .ref 1 26 0 0) R R R R (A1B (t := .d (vI rv.2)) R R R R (A3i R R R (A3 R (eN (B8 (E3 (qG (A0 R ?_)))))))))
 refine V5 R R R R ?_ ?_
 ·intro c2
  replace h:=P1 c2 h
  refine A3 R (eN (C0 R (qG (A0 R (A3 R (A3 R (eN (C9 (C4 (B2 ?_))))))))))
  obtain rfl:=sI h
  exact U4 (t := .d (.tup [vI 0,vI rv.2])) R R R (.cons (.tmp 6) (.cons (.tmp 7) .nil))
 intro c2
 replace h:=J7 c2 h
 refine A3 R (eN (C1 R (qG (A0 R (G4 R R R (F1 R R R (C8 tb R (C8 tb R (B5 (y:=vI t.H6) tb R ?_)))))))))
 obtain⟨rv2,k2,h⟩:=H1 h
 refine M6 (V8 k2) eK R R R R ?_ ?_
 ·intro c3
  replace h:=J7 c3 h
  refine A3 R (eN (C0 R (qG (A3 R (A3 R (eN (C9 (C4 (B2 ?_)))))))))
  obtain rfl:=sI h
  exact U4 (t := .d (.tup [vI 0,vI 7])) R R R (.cons (.tmp 6) (.cons (.tmp 7) .nil))
 intro c3
 replace h:=ifF c3 h
 refine A3 R (eN (C1 R (D7 (D3 (A6 (qG (G4 R R R (A0 R ?_))))))))
 obtain⟨rv3,k3,h⟩:=H1 h
 refine A19 (A4a k3) R eK R R ((.cons (.ref R (.aggL (dL (dL (dL (dL (dL (dL (dL (dL (dL (dL (dL (dL (dL (dL (dL (dL (dL (dL (dL (dL (.cons (.row R R) (.cons (.row R R) (dL (.cons (.row R R) (.cons (.row R R) (.cons (.row R R) .nil)))))))))))))))))))))))))))) (dL .nil))) R R (A0 R ?_)
 refine Q1 (t:=vI rv3.1) R R R R (Q1 (t := .v (.bool rv3.2)) R R R R ?_)
 with_reducible apply X8
 ·intro c4
  replace h:=J7 c4 h
  refine A3 R (A3 R (eN (B8 (qG (A0 R (A0a R R R (eN (C1 R (D7 (A6 (qG (A0 R (A3 R (A3 R (eN (C9 ?_))))))))))))))))
  obtain rfl:=sI h
  exact U4 (t := .d (.tup [vI rv3.1,vI 0])) R R R (.cons (.tmp 6) (.cons (.tmp 7) .nil))
 intro c4
 replace h:=ifF c4 h
 refine A3 R (A3 R (eN (B8 (qG (A0 R (Z9 R R R (eN (C0 R (qG (A3 R (A3 R (eN (C9 (B2 ?_))))))))))))))
 obtain rfl:=sI h
 exact U4 (t := .d (.tup [vI 0,vI 9])) R R R (.cons (.tmp 6) (.cons (.tmp 7) .nil))
def A2P (F:Nat) (t:F7) (K:Int→Int→Int→Option (Int × Int)):Nat→Int→Int→Int→Option (Int × Int)
 | 0,_,_,_=>none
 | n+1,late,lo,hi=>if lo≤hi then((A2h F t (W (Int.tdiv (W (lo+hi)) 2))).bind fun rv2=>if rv2.2=true then(A2P F t K n (W (Int.tdiv (W (lo+hi)) 2)) (W ((W (Int.tdiv (W (lo+hi)) 2))+1)) hi)else(A2P F t K n late lo (W ((W (Int.tdiv (W (lo+hi)) 2))-1))))else(K late lo hi)
def A85 (F:Nat) (p:D4) (log:(List C7)):Option (Int × Int):=(A6V F p log).bind fun rv=>B2S rv.1 (if rv.2=0 then(none)else(some (0,rv.2))) (fun t=>if rv.2=0 then(A2P F t (fun(late:Int) (lo:Int) (hi:Int)=>some (late,0)) F (-1) t.H6 100000)else(some (0,rv.2)))
theorem B1B {F:Nat} {p:D4} {log:(List C7)} {r:(Int × Int)} (h:A85 F p log=some r):PC Tryz.prog 25 [D4.d p,.arr 8 ((log).map C7.d)] (.tup [.v (.int .i64 r.1),.v (.int .i64 r.2)]):=by
 rw[A85]at h
 refine SC.of_sw Tryz.func25 R R R ?_
 dsimp only[L8,List.map]
 refine qG (M9 R (A3 R (A3 R (eN (qG (B5 (y:=D4.d p) tb R (A0 R ?_)))))))
 obtain⟨rv,k,h⟩:=H1 h
 rcases Option.eq_none_or_eq_some rv.1 with nv | ⟨t,nv⟩
 ·replace h:=(B5h nv).symm.trans h
  refine G7 (t' := .d (.tup [.v (.pointer none),vI rv.2])) (ls:=[]) (news:=[]) ([]) ([bx 13 (.d (D4.d p))]) ((A4b k).none nv) eK R (.inl ⟨R,R,R⟩) R R R R .nil R R R .nil .nil R R R R (A0 R (Q1 (t := .v (.pointer none)) R R R R (Q1 (t:=vI rv.2) R R R R (A3 R (A3 R (eN (B8 (qG (A0 R ?_)))))))))
  refine V5 R R R R ?_ ?_
  ·intro c
   replace h:=P1 c h
   refine eN (C0 R (qG (A0 R (A3 R (A3 R (eN (C9 (B2 ?_))))))))
   obtain rfl:=sI h
   exact U4 (t := .d (.tup [vI 0,vI rv.2])) R R R (.cons (.tmp 4) (.cons (.tmp 5) .nil))
  intro c
  replace h:=J7 c h
  cases h
 replace h:=(B5i nv).symm.trans h
 refine G7 (t' := .tup [.ref 1 26 0 0,.d (vI rv.2)]) (ls:=[]) (news:=[⟨26,[C5 t 1 2 3 4 5]⟩,(B7 t.A1),(B7 t.A5),(H7 t.B1),(B7 t.A7),(H7 t.B0)]) ([]) ([bx 13 (.d (D4.d p)),bx 26 (C5 t 2 3 4 5 6),B0u t.A1,B0u t.A5,B9r t.B1,B0u t.A7,B9r t.B0]) ((A4b k).some nv) eK R (.inl ⟨R,R,R⟩) R R R R .nil R R R .nil ((.cons R (.row (.row (.row (.row (.row .nil))))))) R R R R ?_
 refine A1D (.tup [.ref 1 26 0 0,.d (vI rv.2)]) R R R (A1B (t := .ref 1 26 0 0) R R R R (A1B (t := .d (vI rv.2)) R R R R (A3i R R R (A3 R (eN (B8 (qG (A0 R ?_))))))))
 refine V5 R R R R ?_ ?_
 ·intro c2
  replace h:=P1 c2 h
  refine eN (C0 R (qG (A0 R (A3 R (A3 R (eN (C9 (B2 ?_))))))))
  obtain rfl:=sI h
  exact U4 (t := .d (.tup [vI 0,vI rv.2])) R R R (.cons (.tmp 4) (.cons (.tmp 5) .nil))
 intro c2
 replace h:=J7 c2 h
 refine eN (C1 R (D7 (A6 (qG (A3 R (eN (B8 (qG (G4 R R R (F1 R R R (C8 tb R (C8 tb R (B5 (y:=vI t.H6) tb R (A3 R (A3 R (eN (E3 ?_)))))))))))))))))
 obtain⟨K4,hK4,h⟩:∃ K,K=_∧A2P F t K F (-1) t.H6 100000=some r:=⟨_,rfl,h⟩
 refine M2 (st0:=⟨[(4,.d (vI 0)),(5,.d (vI 0)),(6,.ref 0 26 0 0),(8,.d (vI (-1))),(9,.d (vI t.H6)),(10,.d (vI 100000))],B6X t []⟩) (fun m st=>∃ (late:Int) (lo:Int) (hi:Int),A2P F t K4 m late lo hi=some r∧st=⟨[(4,.d (vI 0)),(5,.d (vI 0)),(6,.ref 0 26 0 0),(8,.d (vI late)),(9,.d (vI lo)),(10,.d (vI hi))],B6X t []⟩) (.vw (κ:=[1,2,3,4,5,6]) (vK (.cons R R B9x) R)) ⟨(-1),t.H6,100000,h,R⟩ ?_
 clear h
 rintro m4 st ⟨late,lo,hi,h,rfl⟩
 cases m4 with
 | zero=>cases(show(none:Option (Int × Int))=some r from h)
 | succ m4 =>
 rw[A2P]at h
 refine B8 (qG (A0 R (A0 R ?_)))
 refine B1t R R R R ?_ ?_
 ·intro c3
  replace h:=J7 c3 h
  refine eN (C0 R (D7 (A6 (E3 (qG (A0 R (A0 R (O1 R (C0J R R dM R R (A3 R (eN (qG (G4 R R R (A0 R ?_))))))))))))))
  obtain⟨rv2,k2,h⟩:=H1 h
  refine A19 (A4a k2) R eK R R ((.cons (.ref R (.aggL (dL (dL (dL (dL (dL (dL (dL (dL (dL (dL (dL (dL (dL (dL (dL (dL (dL (dL (dL (dL (.cons (.row R R) (.cons (.row R R) (dL (.cons (.row R R) (.cons (.row R R) (.cons (.row R R) .nil)))))))))))))))))))))))))))) (dL .nil))) R R (A0 R ?_)
  refine Q1 (t:=vI rv2.1) R R R R (Q1 (t := .v (.bool rv2.2)) R R R R ?_)
  with_reducible apply X8
  ·intro c4
   replace h:=J7 c4 h
   refine A3 R (A3 R (eN (qG (A0 R (eN (C0 R (J1 (A0 R (A0 R (O1 R (A3 R (A3 R (Y9 (D3 (A6 ?_)))))))))))))))
   exact⟨m4,_,lS,.prn [4,5,6,8,9,10] R,(W (Int.tdiv (W (lo+hi)) 2)),(W ((W (Int.tdiv (W (lo+hi)) 2))+1)),hi,h,R⟩
  intro c4
  replace h:=ifF c4 h
  refine A3 R (A3 R (eN (qG (A0 R (eN (C1 R (J1 (A0 R (A1n R R R R (A3 R (Y9 (D3 (A6 ?_)))))))))))))
  exact⟨m4,_,lS,.prn [4,5,6,8,9,10] R,late,lo,(W ((W (Int.tdiv (W (lo+hi)) 2))-1)),h,R⟩
 intro c3
 replace h:=P1 (Int.not_le.2 c3) h
 refine eN (C1 R (N5 (E4 (E4 ?_))))
 subst hK4
 refine I5 (A6 (qG (A0 R (A3 R (A3 R (eN (C9 ?_)))))))
 obtain rfl:=sI h
 exact U4 (t := .d (.tup [vI late,vI 0])) R R R (.cons (.tmp 4) (.cons (.tmp 5) .nil))
end Go.Proofs.YtlaogbbcipebgaaGreat
