/- What functions of the program compute: plain functions, and the proofs. -/
import Derived.Test.YtlaogbbcipebgaaGreatW1
set_option linter.unusedVariables false
set_option linter.unusedSimpArgs false
open Go Go.Proofs.YtlaogbbcipebgaaGreat.Sh Go.Proofs
namespace Go.Proofs.YtlaogbbcipebgaaGreat
set_option maxRecDepth 100000
set_option maxHeartbeats 40000000
def C5Q (F:Nat) (B5:(List Int)→Int→Option (C3 × Int × C3)) (x:Int) (rv3:(List Int)):Option (C3 × Int × C3):=B5 rv3 (W (x+1))
def C3X (F:Nat) (a:D2) (K:(List Int)→Int→Option (C3 × Int × C3)):Nat→(List Int)→Int→Option (C3 × Int × C3)
 | 0,_,_=>none
 | n+1,rv,x=>if x<(rv.length:Int)then(if(decide (a.what=1))=true then((P3 rv x).bind fun e=>if e=1 then((A5g rv x 0).bind fun rv2=>C5Q F (C3X F a K n) x rv2)else(C5Q F (C3X F a K n) x rv))else(C5Q F (C3X F a K n) x rv))else(K rv x)
def C70 (F:Nat) (B8:Int→Option (C3 × Int × C3)) (x2:Int):Option (C3 × Int × C3):=B8 (W (x2+1))
def C73 (F:Nat) (o:C3) (rv4:Int):Option (C3 × Int × C3):=some ({o with siren:=rv4},0,o)
def C4u (F:Nat) (o:C3) (a:D2) (K:Int→Option (C3 × Int × C3)):Nat→Int→Option (C3 × Int × C3)
 | 0,_=>none
 | n+1,x2=>if x2<(o.squibs.length:Int)then(if a.what=0 then((P3 o.squibs x2).bind fun e3=>if e3=1 then(some (o,179,o))else(C70 F (C4u F o a K n) x2))else(C70 F (C4u F o a K n) x2))else(K x2)
def C83 (F:Nat) (t:D5) (o:C3) (a:D2):Option (C3 × Int × C3):=if a.kind=9 then(if(o.storm==(decide (a.what=1)))=true then(some (o,177,o))else(C3X F a (fun rv x=>some ({o with squibs:=rv,storm:=(decide (a.what=1))},0,{o with squibs:=rv})) F o.squibs 0))else((P3 o.zones a.who).bind fun e2=>if e2=t.panel then(if((decide (0≤o.siren))==(decide (a.what=1)))=true then(some (o,177,o))else(C4u F o a (fun x2=>if a.what=1 then(C73 F o a.at_)else(C73 F o (-1))) F 0))else(some (o,171,o)))
theorem C9Z {F t o a r} (h:C83 F t o a=some r):SCR Tryz.prog 211 [.d (D5.d t),J2 o 0 1 2,.d (D2.d a)] [B0u o.zones,B0u o.holder,B0u o.squibs] (.tup [J2 {r.1 with zones:=r.2.2.zones,holder:=r.2.2.holder,squibs:=r.2.2.squibs} 0 1 2,dI r.2.1]) [B0u r.2.2.zones,B0u r.2.2.holder,B0u r.2.2.squibs]:=by
 rw[C83]at h
 refine oW Tryz.func211 ?_
 refine gY 5 R (B8 (gU 2 R ?_))
 refine Z3 R R R R (tJ h ?_) (nJ h ?_)
 ·intro h
  refine Y9 (C0 R (B8 (gU 4 R (A3s R R R R (B6K R R R R R ?_)))))
  refine X8 (tI h ?_) (fI h ?_)
  ·intro c2 h
   refine Y9 (C0 R (gY 3 R (C9 ?_)))
   cases h
   exact f2 [0,1,2] C1o R (.cons (rc tb R) (.cons (.tmp 7) .nil)) R
  intro c2 h
  refine Y9 (zF (gU 2 R (A3s R R R R (eU 2 R (B8 (gY 1 R (E3 ?_)))))))
  obtain⟨K5,hK5,h⟩:∃ K,K=_∧C3X F a K F o.squibs 0=some r:=⟨_,rfl,h⟩
  refine lW (fun m st=>∃ (rv:(List Int)) (x:Int),C3X F a K5 m rv x=some r∧st=⟨[(3,rf 3 7),(4,rf 4 6),(5,rf 5 5),(6,rf 6 6),(7,dI 0),(8,dI x)],[B0u o.zones,B0u o.holder,B0u rv,bx 7 (.d (D5.d t)),bx 6 (J2 {o with squibs:=rv,storm:=(decide (a.what=1))} 0 1 2),bx 5 (.d (D2.d a)),bx 6 (.d (.agg [vI 0,.v (.slice none 0 0),.v (.slice none 0 0),.v (.slice none 0 0),vI 0,vB false]))]⟩) ⟨o.squibs,0,h,R⟩ (.prn [3,4,5,6,7,8] R) ?_
  clear h
  rintro m5 st ⟨rv,x,h,rfl⟩
  cases m5 with
  | zero=>cases(show(none:Option (C3 × Int × C3))=some r from h)
  | succ m5 =>
  rw[C3X]at h
  refine B8 (gU 3 R (A8F tb R R R R R ?_))
  refine Q4 R R R R (tJ h ?_) (lJ h ?_)
  ·intro h
   refine Y9 (zT (B8 ?_))
   refine W5 (fun zz:(List Int)=>C5Q F (C3X F a K5 m5) x zz=some r) (fun zz:(List Int)=>⟨[(3,rf 3 7),(4,rf 4 6),(5,rf 5 5),(6,rf 6 6),(7,dI 0),(8,dI x)],[B0u o.zones,B0u o.holder,B0u zz,bx 7 (.d (D5.d t)),bx 6 (J2 {o with squibs:=zz,storm:=(decide (a.what=1))} 0 1 2),bx 5 (.d (D2.d a)),bx 6 (.d (.agg [vI 0,.v (.slice none 0 0),.v (.slice none 0 0),.v (.slice none 0 0),vI 0,vB false]))]⟩) ?_ ?_
   ·clear h
    rintro rv3 h
    rw[C5Q]at h
    refine hN 3 R ?_
    exact bk ⟨rv3,(W (x+1)),h,R⟩ (.prn [3,4,5,6,7,8] R)
   refine E3 (gU 2 R ?_)
   refine X8 (tI h ?_) (fI h ?_)
   ·intro c4 h
    refine rU 4 R ?_
    obtain⟨e,ie,h⟩:=H1 h
    refine Y1 tb R R R R R R (F0 ie) (ix1 ie) R R ?_
    refine A15 (y:=vI e) tb R R R R (U5 (g:=fun a=>T.d (vI a)) ie) R R R R ?_
    refine Z3 R R R R (tJ h ?_) (nJ h ?_)
    ·intro h
     refine eU 1 R (C0 R (hU 3 R (Y1 tb R R R R R R (F0 ie) (ix1 ie) R R ?_)))
     obtain⟨rv2,irv2,h⟩:=H1 h
     refine A5d (a':=(0:Int)) tb R R R R ie R R R R irv2 R R ?_
     dsimp only[List.set_cons_zero,List.set_cons_succ,J2]
     first | rw[A2a irv2] | skip
     refine Y9 (D3 (A6 ?_))
     exact .inl ⟨rv2,h,.prn [3,4,5,6,7,8] R⟩
    intro h
    refine eU 1 R (zF (D3 (A6 ?_)))
    exact .inl ⟨rv,h,.prn [3,4,5,6,7,8] R⟩
   intro c4 h
   refine eU 8 R (zF (D3 (A6 ?_)))
   exact .inl ⟨rv,h,.prn [3,4,5,6,7,8] R⟩
  intro h
  refine Y9 (C1 R (N5 (E4 (E4 ?_))))
  subst hK5
  refine gY 3 R (C9 ?_)
  cases h
  exact f2 [0,1,2] C1o R (.cons (rc tb R) (.cons (.tmp 7) .nil)) R
 intro h
 refine Y9 (zF (B8 (B8 (T1 kR (rU 4 R ?_)))))
 obtain⟨e2,ie2,h⟩:=H1 h
 refine Y1 tb R R R R R R (F0 ie2) (ix1 ie2) R R ?_
 refine A15 (y:=vI e2) tb R R R R (U5 (g:=fun a=>T.d (vI a)) ie2) R R R R ?_
 refine rU 2 R ?_
 refine V5 R R R R (nJ h ?_) (tJ h ?_)
 ·intro h
  refine I0 kR (C0 R (gY 3 R (C9 ?_)))
  cases h
  exact f2 [0,1,2] C1o R (.cons (rc tb R) (.cons (.tmp 7) .nil)) R
 intro h
 refine I0 kR (zF (B8 (gU 2 R (A3k R R R R (rU 2 R (A3s R R R R (B6K R R R R R ?_)))))))
 refine X8 (tI h ?_) (fI h ?_)
 ·intro c7 h
  refine Y9 (C0 R (gY 3 R (C9 ?_)))
  cases h
  exact f2 [0,1,2] C1o R (.cons (rc tb R) (.cons (.tmp 7) .nil)) R
 intro c7 h
 refine Y9 (zF (B8 (gY 1 R (E3 ?_))))
 obtain⟨K8,hK8,h⟩:∃ K,K=_∧C4u F o a K F 0=some r:=⟨_,rfl,h⟩
 refine lW (fun m st=>∃ (x2:Int),C4u F o a K8 m x2=some r∧st=⟨[(4,rf 3 6),(5,rf 4 5),(6,rf 5 6),(7,dI 0),(9,dI x2)],[B0u o.zones,B0u o.holder,B0u o.squibs,bx 6 (J2 o 0 1 2),bx 5 (.d (D2.d a)),bx 6 (.d (.agg [vI 0,.v (.slice none 0 0),.v (.slice none 0 0),.v (.slice none 0 0),vI 0,vB false]))]⟩) ⟨0,h,R⟩ (.vw (κ:=[0,1,2,4,5,6]) (vK (.row R (.row R (.row R (.cons R R (.cons R R (.cons R R .nil)))))) R)) ?_
 clear h
 rintro m8 st ⟨x2,h,rfl⟩
 cases m8 with
 | zero=>cases(show(none:Option (C3 × Int × C3))=some r from h)
 | succ m8 =>
 rw[C4u]at h
 refine B8 (gU 3 R (A8F tb R R R R R ?_))
 refine Q4 R R R R (tJ h ?_) (lJ h ?_)
 ·intro h
  refine Y9 (zT (B8 ?_))
  refine W5 (fun zz:Unit=>C70 F (C4u F o a K8 m8) x2=some r) (fun zz:Unit=>⟨[(4,rf 3 6),(5,rf 4 5),(6,rf 5 6),(7,dI 0),(9,dI x2)],[B0u o.zones,B0u o.holder,B0u o.squibs,bx 6 (J2 o 0 1 2),bx 5 (.d (D2.d a)),bx 6 (.d (.agg [vI 0,.v (.slice none 0 0),.v (.slice none 0 0),.v (.slice none 0 0),vI 0,vB false]))]⟩) ?_ ?_
  ·clear h
   rintro⟨⟩ h
   rw[C70]at h
   refine hN 3 R ?_
   exact bk ⟨(W (x2+1)),h,R⟩ (.prn [4,5,6,7,9] R)
  refine E3 (gU 2 R ?_)
  refine Z3 R R R R (tJ h ?_) (nJ h ?_)
  ·intro h
   refine rU 4 R ?_
   obtain⟨e3,ie3,h⟩:=H1 h
   refine Y1 tb R R R R R R (F0 ie3) (ix1 ie3) R R ?_
   refine A15 (y:=vI e3) tb R R R R (U5 (g:=fun a=>T.d (vI a)) ie3) R R R R ?_
   refine Z3 R R R R (tJ h ?_) (nJ h ?_)
   ·intro h
    refine eU 1 R (C0 R (gY 3 R (C9 ?_)))
    cases h
    exact f2 [0,1,2] C1o R (.cons (rc tb R) (.cons (.tmp 7) .nil)) R
   intro h
   refine eU 1 R (zF (D3 (A6 ?_)))
   exact .inl ⟨(),h,.prn [4,5,6,7,9] R⟩
  intro h
  refine eU 8 R (zF (D3 (A6 ?_)))
  exact .inl ⟨(),h,.prn [4,5,6,7,9] R⟩
 intro h
 refine Y9 (C1 R (N5 (E4 (E4 ?_))))
 subst hK8
 refine gY 2 R (B8 ?_)
 refine W5 (fun zz:Int=>C73 F o zz=some r) (fun zz:Int=>⟨[(4,rf 3 6),(6,rf 4 6),(7,dI 0)],[B0u o.zones,B0u o.holder,B0u o.squibs,bx 6 (J2 {o with siren:=zz} 0 1 2),bx 6 (.d (.agg [vI 0,.v (.slice none 0 0),.v (.slice none 0 0),.v (.slice none 0 0),vI 0,vB false]))]⟩) ?_ ?_
 ·clear h
  rintro rv4 h
  rw[C73]at h
  refine gY 3 R (C9 ?_)
  cases h
  exact f2 [0,1,2] C1o R (.cons (rc tb R) (.cons (.tmp 7) .nil)) R
 refine gU 2 R ?_
 refine Z3 R R R R (tJ h ?_) (nJ h ?_)
 ·intro h
  refine Y9 (C0 R (hN 4 R ?_))
  exact .inl ⟨a.at_,h,.vw (κ:=[0,1,2,3,5]) (vK (.row R (.row R (.row R (.cons R R (.cons R R .nil))))) R)⟩
 intro h
 refine Y9 (zF (A6 ?_))
 exact .inl ⟨(-1),h,.vw (κ:=[0,1,2,3,5]) (vK (.row R (.row R (.row R (.cons R R (.cons R R .nil))))) R)⟩
def C7r (F:Nat) (a:D2) (x:Int) (lv lv2 lv3:(List Int)) (x2:Int) (x3:Bool) (x4:Int):Option (C3 × Int):=if x4=0 then(some ((C3.mk a.at_ lv lv2 lv3 x2 x3),0))else(some ((C3.mk 0 ([]:List Int) ([]:List Int) ([]:List Int) 0 false),x4))
def D29 (F:Nat) (t:D5) (a:D2) (rv:C3):Option (C3 × Int):=(C8u F t rv a).bind fun rv4=>(lnO rv4.2.2.zones.length rv.zones.length).bind fun u7=>(lnO rv4.2.2.holder.length rv.holder.length).bind fun u8=>(lnO rv4.2.2.squibs.length rv.squibs.length).bind fun u9=>C7r F a rv4.1.now rv4.2.2.zones rv4.2.2.holder rv4.2.2.squibs rv4.1.siren rv4.1.storm rv4.2.1
def C8N (F:Nat) (t:D5) (a:D2) (rv:C3):Option (C3 × Int):=(C9j F t rv a).bind fun rv3=>(lnO rv3.2.2.zones.length rv.zones.length).bind fun u4=>(lnO rv3.2.2.holder.length rv.holder.length).bind fun u5=>(lnO rv3.2.2.squibs.length rv.squibs.length).bind fun u6=>C7r F a rv3.1.now rv3.2.2.zones rv3.2.2.holder rv3.2.2.squibs rv3.1.siren rv3.1.storm rv3.2.1
def C8O (F:Nat) (t:D5) (a:D2) (rv:C3):Option (C3 × Int):=(C8u F t rv a).bind fun rv3=>(lnO rv3.2.2.zones.length rv.zones.length).bind fun u4=>(lnO rv3.2.2.holder.length rv.holder.length).bind fun u5=>(lnO rv3.2.2.squibs.length rv.squibs.length).bind fun u6=>C7r F a rv3.1.now rv3.2.2.zones rv3.2.2.holder rv3.2.2.squibs rv3.1.siren rv3.1.storm rv3.2.1
def C9B (F:Nat) (t:D5) (o:C3) (a:D2):Option (C3 × Int):=if a.at_<o.now then(some ((C3.mk 0 ([]:List Int) ([]:List Int) ([]:List Int) 0 false),170))else((C9A F o).bind fun rv=>if a.kind=1 then((C8Q F t rv a).bind fun rv2=>(lnO rv2.2.2.zones.length rv.zones.length).bind fun u=>(lnO rv2.2.2.holder.length rv.holder.length).bind fun u2=>(lnO rv2.2.2.squibs.length rv.squibs.length).bind fun u3=>C7r F a rv2.1.now rv2.2.2.zones rv2.2.2.holder rv2.2.2.squibs rv2.1.siren rv2.1.storm rv2.2.1)else(if a.kind=2 then(C8N F t a rv)else(if a.kind=3 then(C8N F t a rv)else(if a.kind=4 then(C8N F t a rv)else(if a.kind=5 then(C8O F t a rv)else(if a.kind=6 then(C8O F t a rv)else(if a.kind=7 then(C8O F t a rv)else((C83 F t rv a).bind fun rv3=>(lnO rv3.2.2.zones.length rv.zones.length).bind fun u4=>(lnO rv3.2.2.holder.length rv.holder.length).bind fun u5=>(lnO rv3.2.2.squibs.length rv.squibs.length).bind fun u6=>C7r F a rv3.1.now rv3.2.2.zones rv3.2.2.holder rv3.2.2.squibs rv3.1.siren rv3.1.storm rv3.2.1))))))))
theorem D0g {F t o a r} (h:C9B F t o a=some r):SCR Tryz.prog 166 (List.map T.d [D5.d t,C3.d o,D2.d a]) [] (.tup [J2 r.1 0 1 2,dI r.2]) (List.map some [(B7 r.1.zones),(B7 r.1.holder),(B7 r.1.squibs)]):=by
 rw[C9B]at h
 refine oW Tryz.func166 ?_
 refine gY 5 R (B8 (gU 4 R ?_))
 refine Q4 R R R R (tJ h ?_) (lJ h ?_)
 ·intro h
  refine Y9 (C0 R (qG (S1 (v := .d (.agg [vI 0,.v (.slice none 0 0),.v (.slice none 0 0),.v (.slice none 0 0),vI 0,vB false])) tb R R (List.cons_ne_nil _ _) R R R R R R (eU 2 R ?_))))
  refine SW.own (ts':=[(6,rf 3 6),(7,dI 170)]) (L':=[bx 7 (.d (D5.d t)),bx 6 (.d (C3.d o)),bx 5 (.d (D2.d a)),bx 6 (.agg [dI 0,.row 4 1 0 (([]:List Int)).length,.d (.v (.slice none 0 0)),.d (.v (.slice none 0 0)),dI 0,dB false])]) 1 R R (.cons (.same _) (.cons (.same _) .nil)) (.same (.same (.same (.cons R (.cons (.aggDL (.cons (.same _) (.cons .nil (.cons (.same _) (.cons (.same _) (.cons (.same _) (.cons (.same _) .nil))))))) .nil) .nil)))) ?_
  simp only[List.cons_append,List.nil_append]
  refine SW.own (ts':=[(6,rf 3 6),(7,dI 170)]) (L':=[bx 7 (.d (D5.d t)),bx 6 (.d (C3.d o)),bx 5 (.d (D2.d a)),bx 6 (.agg [dI 0,.row 4 1 0 (([]:List Int)).length,.row 5 1 0 (([]:List Int)).length,.d (.v (.slice none 0 0)),dI 0,dB false]),B0u ([]:List Int)]) 1 R R (.cons (.same _) (.cons (.same _) .nil)) (.same (.same (.same (.cons R (.cons (.aggL (.cons (.same _) (.cons (.same _) (.cons .nil (.cons (.same _) (.cons (.same _) (.cons (.same _) .nil))))))) .nil) (.same .nil))))) ?_
  simp only[List.cons_append,List.nil_append]
  refine SW.own (ts':=[(6,rf 3 6),(7,dI 170)]) (L':=[bx 7 (.d (D5.d t)),bx 6 (.d (C3.d o)),bx 5 (.d (D2.d a)),bx 6 (J2 (C3.mk 0 ([]:List Int) ([]:List Int) ([]:List Int) 0 false) 4 5 6),B0u ([]:List Int),B0u ([]:List Int)]) 1 R R (.cons (.same _) (.cons (.same _) .nil)) (.same (.same (.same (.cons R (.cons (.aggL (.cons (.same _) (.cons (.same _) (.cons (.same _) (.cons .nil (.cons (.same _) (.cons (.same _) .nil))))))) .nil) (.same (.same .nil)))))) ?_
  simp only[List.cons_append,List.nil_append]
  refine C9 ?_
  cases h
  exact f2 [4,5,6] C1o R (.cons (rc tb R) (.cons (.tmp 7) .nil)) R
 intro h
 refine Y9 (zF (gU 1 R ?_))
 obtain⟨rv,k,h⟩:=H1 h
 refine A2X (D0d k) eK R R R ((.row (.row (.row .nil)))) R R R (eU 3 R (B8 ?_))
 refine W5 (fun zz:Int × (List Int) × (List Int) × (List Int) × Int × Bool × Int=>C7r F a zz.1 zz.2.1 zz.2.2.1 zz.2.2.2.1 zz.2.2.2.2.1 zz.2.2.2.2.2.1 zz.2.2.2.2.2.2=some r) (fun zz:Int × (List Int) × (List Int) × (List Int) × Int × Bool × Int=>⟨[(5,rf 0 5),(6,rf 1 6),(7,dI 0),(8,rf 2 6),(9,dI zz.2.2.2.2.2.2)],[bx 5 (.d (D2.d a)),bx 6 (.d (.agg [vI 0,.v (.slice none 0 0),.v (.slice none 0 0),.v (.slice none 0 0),vI 0,vB false])),bx 6 (J2 (C3.mk zz.1 zz.2.1 zz.2.2.1 zz.2.2.2.1 zz.2.2.2.2.1 zz.2.2.2.2.2.1) 3 4 5),B0u zz.2.1,B0u zz.2.2.1,B0u zz.2.2.2.1]⟩) ?_ ?_
 ·clear h
  rintro⟨x,lv,lv2,lv3,x2,x3,x4⟩ h
  dsimp only at h ⊢
  rw[C7r]at h
  refine B8 (gU 1 R ?_)
  refine V5 R R R R (nJ h ?_) (tJ h ?_)
  ·intro h
   refine Y9 (C0 R (qG (S1 (v := .d (.agg [vI 0,.v (.slice none 0 0),.v (.slice none 0 0),.v (.slice none 0 0),vI 0,vB false])) tb R R (List.cons_ne_nil _ _) R R R R R R (eU 3 R ?_))))
   refine SW.own (ts':=[(6,rf 1 6),(7,dI x4)]) (L':=[bx 5 (.d (D2.d a)),bx 6 (.agg [dI 0,.row 6 1 0 (([]:List Int)).length,.d (.v (.slice none 0 0)),.d (.v (.slice none 0 0)),dI 0,dB false]),bx 6 (J2 (C3.mk x lv lv2 lv3 x2 x3) 3 4 5),B0u lv,B0u lv2,B0u lv3]) 1 R R (.cons (.same _) (.cons (.same _) .nil)) (.same (.cons R (.cons (.aggDL (.cons (.same _) (.cons .nil (.cons (.same _) (.cons (.same _) (.cons (.same _) (.cons (.same _) .nil))))))) .nil) (.same (.same (.same (.same .nil)))))) ?_
   simp only[List.cons_append,List.nil_append]
   refine SW.own (ts':=[(6,rf 1 6),(7,dI x4)]) (L':=[bx 5 (.d (D2.d a)),bx 6 (.agg [dI 0,.row 6 1 0 (([]:List Int)).length,.row 7 1 0 (([]:List Int)).length,.d (.v (.slice none 0 0)),dI 0,dB false]),bx 6 (J2 (C3.mk x lv lv2 lv3 x2 x3) 3 4 5),B0u lv,B0u lv2,B0u lv3,B0u ([]:List Int)]) 1 R R (.cons (.same _) (.cons (.same _) .nil)) (.same (.cons R (.cons (.aggL (.cons (.same _) (.cons (.same _) (.cons .nil (.cons (.same _) (.cons (.same _) (.cons (.same _) .nil))))))) .nil) (.same (.same (.same (.same (.same .nil))))))) ?_
   simp only[List.cons_append,List.nil_append]
   refine SW.own (ts':=[(6,rf 1 6),(7,dI x4)]) (L':=[bx 5 (.d (D2.d a)),bx 6 (J2 (C3.mk 0 ([]:List Int) ([]:List Int) ([]:List Int) 0 false) 6 7 8),bx 6 (J2 (C3.mk x lv lv2 lv3 x2 x3) 3 4 5),B0u lv,B0u lv2,B0u lv3,B0u ([]:List Int),B0u ([]:List Int)]) 1 R R (.cons (.same _) (.cons (.same _) .nil)) (.same (.cons R (.cons (.aggL (.cons (.same _) (.cons (.same _) (.cons (.same _) (.cons .nil (.cons (.same _) (.cons (.same _) .nil))))))) .nil) (.same (.same (.same (.same (.same (.same .nil)))))))) ?_
   simp only[List.cons_append,List.nil_append]
   refine C9 ?_
   cases h
   exact f2 [6,7,8] C1o R (.cons (rc tb R) (.cons (.tmp 7) .nil)) R
  intro h
  refine Y9 (zF (gY 4 R (gY 3 R (C9 ?_))))
  cases h
  exact f2 [3,4,5] C1o R (.cons (rc tb R) (.cons (.tmp 7) .nil)) R
 refine gY 2 R (E3 (qG ?_))
 refine Z3 R R R R (tJ h ?_) (nJ h ?_)
 ·intro h
  refine eU 1 R (C0 R (hU 3 R ?_))
  obtain⟨rv2,k2,h⟩:=H1 h
  obtain⟨u,hu,h⟩:=H1 h
  obtain⟨u2,hu2,h⟩:=H1 h
  obtain⟨u3,hu3,h⟩:=H1 h
  refine cO [4,5,6] (D0z k2) eK C2C R ((.row (.row (.row .nil)))) .nil R ?_
  dsimp only[J2]
  first | rw[← C8I hu] | skip
  first | rw[← C8I hu2] | skip
  first | rw[← C8I hu3] | skip
  refine eU 5 R (D3 (A6 ?_))
  exact .inl ⟨(rv2.1.now,rv2.2.2.zones,rv2.2.2.holder,rv2.2.2.squibs,rv2.1.siren,rv2.1.storm,rv2.2.1),h,.vw (κ:=[2,3,7,4,5,6]) (vK (.cons R R (.cons R R (.cons R R C1o))) R)⟩
 intro h
 refine eU 1 R (C1 R (B8 ?_))
 refine W5 (fun zz:Unit=>C8N F t a rv=some r) (fun zz:Unit=>⟨[(3,rf 0 7),(5,rf 1 5),(6,rf 2 6),(7,dI 0),(8,rf 3 6),(9,dI 0),(19,dI a.kind),(36,dB true)],[bx 7 (.d (D5.d t)),bx 5 (.d (D2.d a)),bx 6 (.d (.agg [vI 0,.v (.slice none 0 0),.v (.slice none 0 0),.v (.slice none 0 0),vI 0,vB false])),bx 6 (J2 rv 4 5 6),B0u rv.zones,B0u rv.holder,B0u rv.squibs]⟩) ?_ ?_
 ·clear h
  rintro⟨⟩ h
  rw[C8N]at h
  refine C0 R (hU 3 R ?_)
  obtain⟨rv3,k3,h⟩:=H1 h
  obtain⟨u4,hu4,h⟩:=H1 h
  obtain⟨u5,hu5,h⟩:=H1 h
  obtain⟨u6,hu6,h⟩:=H1 h
  refine cO [4,5,6] (D0B k3) eK C2C R ((.row (.row (.row .nil)))) .nil R ?_
  dsimp only[J2]
  first | rw[← C8I hu4] | skip
  first | rw[← C8I hu5] | skip
  first | rw[← C8I hu6] | skip
  refine eU 5 R (D3 (A6 ?_))
  exact .inl ⟨(rv3.1.now,rv3.2.2.zones,rv3.2.2.holder,rv3.2.2.squibs,rv3.1.siren,rv3.1.storm,rv3.2.1),h,.vw (κ:=[1,2,3,4,5,6]) (vK (.cons R R (.cons R R (.cons R R C1o))) R)⟩
 refine qG ?_
 refine Z3 R R R R (tJ h ?_) (nJ h ?_)
 ·intro h
  refine eU 1 R (zT (A6 ?_))
  exact .inl ⟨(),h,.vw (κ:=[0,2,3,7,4,5,6]) (vK (.cons R R (.cons R R (.cons R R (.cons R R C1o)))) R)⟩
 intro h
 refine eU 1 R (C1 R (qG ?_))
 refine Z3 R R R R (tJ h ?_) (nJ h ?_)
 ·intro h
  refine eU 1 R (zT (A6 ?_))
  exact .inl ⟨(),h,.vw (κ:=[0,2,3,7,4,5,6]) (vK (.cons R R (.cons R R (.cons R R (.cons R R C1o)))) R)⟩
 intro h
 refine eU 1 R (C1 R (J1 ?_))
 refine Z3 R R R R (tJ h ?_) (nJ h ?_)
 ·intro h
  refine nU 1 R ?_
  exact .inl ⟨(),h,.vw (κ:=[0,2,3,7,4,5,6]) (vK (.cons R R (.cons R R (.cons R R (.cons R R C1o)))) R)⟩
 intro h
 refine nU 1 R (.inr (C1 R (B8 ?_)))
 refine W5 (fun zz:Unit=>C8O F t a rv=some r) (fun zz:Unit=>⟨[(3,rf 0 7),(5,rf 1 5),(6,rf 2 6),(7,dI 0),(8,rf 3 6),(9,dI 0),(47,dB true)],[bx 7 (.d (D5.d t)),bx 5 (.d (D2.d a)),bx 6 (.d (.agg [vI 0,.v (.slice none 0 0),.v (.slice none 0 0),.v (.slice none 0 0),vI 0,vB false])),bx 6 (J2 rv 4 5 6),B0u rv.zones,B0u rv.holder,B0u rv.squibs]⟩) ?_ ?_
 ·clear h
  rintro⟨⟩ h
  rw[C8O]at h
  refine C0 R (hU 3 R ?_)
  obtain⟨rv3,k3,h⟩:=H1 h
  obtain⟨u4,hu4,h⟩:=H1 h
  obtain⟨u5,hu5,h⟩:=H1 h
  obtain⟨u6,hu6,h⟩:=H1 h
  refine cO [4,5,6] (D0p k3) eK C2C R ((.row (.row (.row .nil)))) .nil R ?_
  dsimp only[J2]
  first | rw[← C8I hu4] | skip
  first | rw[← C8I hu5] | skip
  first | rw[← C8I hu6] | skip
  refine eU 5 R (D3 (A6 ?_))
  exact .inl ⟨(rv3.1.now,rv3.2.2.zones,rv3.2.2.holder,rv3.2.2.squibs,rv3.1.siren,rv3.1.storm,rv3.2.1),h,.vw (κ:=[1,2,3,4,5,6]) (vK (.cons R R (.cons R R (.cons R R C1o))) R)⟩
 refine qG ?_
 refine Z3 R R R R (tJ h ?_) (nJ h ?_)
 ·intro h
  refine eU 1 R (zT (A6 ?_))
  exact .inl ⟨(),h,.vw (κ:=[0,2,3,7,4,5,6]) (vK (.cons R R (.cons R R (.cons R R (.cons R R C1o)))) R)⟩
 intro h
 refine eU 1 R (C1 R (qG ?_))
 refine Z3 R R R R (tJ h ?_) (nJ h ?_)
 ·intro h
  refine eU 1 R (zT (A6 ?_))
  exact .inl ⟨(),h,.vw (κ:=[0,2,3,7,4,5,6]) (vK (.cons R R (.cons R R (.cons R R (.cons R R C1o)))) R)⟩
 intro h
 refine eU 1 R (C1 R (J1 ?_))
 refine Z3 R R R R (tJ h ?_) (nJ h ?_)
 ·intro h
  refine nU 1 R ?_
  exact .inl ⟨(),h,.vw (κ:=[0,2,3,7,4,5,6]) (vK (.cons R R (.cons R R (.cons R R (.cons R R C1o)))) R)⟩
 intro h
 refine nU 1 R (.inr (C1 R (hU 3 R ?_)))
 obtain⟨rv3,k3,h⟩:=H1 h
 obtain⟨u4,hu4,h⟩:=H1 h
 obtain⟨u5,hu5,h⟩:=H1 h
 obtain⟨u6,hu6,h⟩:=H1 h
 refine cO [4,5,6] (C9Z k3) eK C2C R ((.row (.row (.row .nil)))) .nil R ?_
 dsimp only[J2]
 first | rw[← C8I hu4] | skip
 first | rw[← C8I hu5] | skip
 first | rw[← C8I hu6] | skip
 refine eU 5 R (D3 (A6 ?_))
 exact .inl ⟨(rv3.1.now,rv3.2.2.zones,rv3.2.2.holder,rv3.2.2.squibs,rv3.1.siren,rv3.1.storm,rv3.2.1),h,.vw (κ:=[2,3,7,4,5,6]) (vK (.cons R R (.cons R R (.cons R R C1o))) R)⟩
theorem D2A {F t o a r} (h:C9B F t o a=some r):PC Tryz.prog 166 [D5.d t,C3.d o,D2.d a] (.tup [C3.d r.1,vI r.2]):=(D0g h).toPC (.tupL (.cons (.aggL (.cons (.d _) (.cons (.row rfl rfl) (.cons (.row rfl rfl) (.cons (.row rfl rfl) (.cons (.d _) (.cons (.d _) .nil))))))) (.cons (.d _) .nil)))
def C9e (F:Nat) (p:D5) (s:C3) (a:D2) (e:Int):Option (C3 × Int):=if e=0 then((C9B F p s a).bind fun rv3=>some (rv3.1,rv3.2))else(some ((C3.mk 0 ([]:List Int) ([]:List Int) ([]:List Int) 0 false),e))
def D0J (F:Nat) (p:D5) (s:C3) (a:D2):Option (C3 × Int):=(C8i F p s).bind fun rv=>if rv=0 then((D0y F p a).bind fun rv2=>C9e F p s a rv2)else(C9e F p s a rv)
theorem D0K {F p s a r} (h:D0J F p s a=some r):SCR Tryz.prog 87 (List.map T.d [D5.d p,C3.d s,D2.d a]) [] (.tup [J2 r.1 0 1 2,dI r.2]) (List.map some [(B7 r.1.zones),(B7 r.1.holder),(B7 r.1.squibs)]):=by
 rw[D0J]at h
 refine oW Tryz.func87 ?_
 refine gY 5 R (gU 2 R ?_)
 obtain⟨rv,k,h⟩:=H1 h
 refine J5 (C9Y k) eK R R R R (eU 1 R (B8 ?_))
 refine W5 (fun zz:Int=>C9e F p s a zz=some r) (fun zz:Int=>⟨[(3,rf 0 7),(4,rf 1 6),(5,rf 2 5),(6,rf 3 6),(7,dI 0),(8,dI zz)],[bx 7 (.d (D5.d p)),bx 6 (.d (C3.d s)),bx 5 (.d (D2.d a)),bx 6 (.d (.agg [vI 0,.v (.slice none 0 0),.v (.slice none 0 0),.v (.slice none 0 0),vI 0,vB false]))]⟩) ?_ ?_
 ·clear h
  rintro e h
  rw[C9e]at h
  refine B8 (gU 1 R ?_)
  refine V5 R R R R (nJ h ?_) (tJ h ?_)
  ·intro h
   refine Y9 (C0 R (qG (S1 (v := .d (.agg [vI 0,.v (.slice none 0 0),.v (.slice none 0 0),.v (.slice none 0 0),vI 0,vB false])) tb R R (List.cons_ne_nil _ _) R R R R R R (eU 3 R ?_))))
   refine SW.own (ts':=[(6,rf 3 6),(7,dI e)]) (L':=[bx 7 (.d (D5.d p)),bx 6 (.d (C3.d s)),bx 5 (.d (D2.d a)),bx 6 (.agg [dI 0,.row 4 1 0 (([]:List Int)).length,.d (.v (.slice none 0 0)),.d (.v (.slice none 0 0)),dI 0,dB false])]) 1 R R (.cons (.same _) (.cons (.same _) .nil)) (.same (.same (.same (.cons R (.cons (.aggDL (.cons (.same _) (.cons .nil (.cons (.same _) (.cons (.same _) (.cons (.same _) (.cons (.same _) .nil))))))) .nil) .nil)))) ?_
   simp only[List.cons_append,List.nil_append]
   refine SW.own (ts':=[(6,rf 3 6),(7,dI e)]) (L':=[bx 7 (.d (D5.d p)),bx 6 (.d (C3.d s)),bx 5 (.d (D2.d a)),bx 6 (.agg [dI 0,.row 4 1 0 (([]:List Int)).length,.row 5 1 0 (([]:List Int)).length,.d (.v (.slice none 0 0)),dI 0,dB false]),B0u ([]:List Int)]) 1 R R (.cons (.same _) (.cons (.same _) .nil)) (.same (.same (.same (.cons R (.cons (.aggL (.cons (.same _) (.cons (.same _) (.cons .nil (.cons (.same _) (.cons (.same _) (.cons (.same _) .nil))))))) .nil) (.same .nil))))) ?_
   simp only[List.cons_append,List.nil_append]
   refine SW.own (ts':=[(6,rf 3 6),(7,dI e)]) (L':=[bx 7 (.d (D5.d p)),bx 6 (.d (C3.d s)),bx 5 (.d (D2.d a)),bx 6 (J2 (C3.mk 0 ([]:List Int) ([]:List Int) ([]:List Int) 0 false) 4 5 6),B0u ([]:List Int),B0u ([]:List Int)]) 1 R R (.cons (.same _) (.cons (.same _) .nil)) (.same (.same (.same (.cons R (.cons (.aggL (.cons (.same _) (.cons (.same _) (.cons (.same _) (.cons .nil (.cons (.same _) (.cons (.same _) .nil))))))) .nil) (.same (.same .nil)))))) ?_
   simp only[List.cons_append,List.nil_append]
   refine C9 ?_
   cases h
   exact f2 [4,5,6] C1o R (.cons (rc tb R) (.cons (.tmp 7) .nil)) R
  intro h
  refine Y9 (zF (gU 3 R ?_))
  obtain⟨rv3,k3,h⟩:=H1 h
  refine A2X (D0g k3) eK R R R ((.row (.row (.row .nil)))) R R R (eU 4 R (C9 ?_))
  cases h
  exact f2 [4,5,6] C1o R (.cons (rc tb R) (.cons (.tmp 7) .nil)) R
 refine gU 1 R ?_
 refine Z3 R R R R (tJ h ?_) (nJ h ?_)
 ·intro h
  refine Y9 (C0 R (hU 2 R ?_))
  obtain⟨rv2,k2,h⟩:=H1 h
  refine J5 (D1D k2) eK R R R R (nU 1 R ?_)
  exact .inl ⟨rv2,h,.prn [3,4,5,6,7,8] R⟩
 intro h
 refine Y9 (zF (A6 ?_))
 exact .inl ⟨rv,h,.prn [3,4,5,6,7,8] R⟩
theorem D2O {F p s a r} (h:D0J F p s a=some r):PC Tryz.prog 87 [D5.d p,C3.d s,D2.d a] (.tup [C3.d r.1,vI r.2]):=(D0K h).toPC (.tupL (.cons (.aggL (.cons (.d _) (.cons (.row rfl rfl) (.cons (.row rfl rfl) (.cons (.row rfl rfl) (.cons (.d _) (.cons (.d _) .nil))))))) (.cons (.d _) .nil)))
def A6N (F:Nat) (a b:(List Int)) (K:Int→Option Bool):Nat→Int→Option Bool
 | 0,_=>none
 | n+1,i=>if i<(a.length:Int)then((P3 a i).bind fun e=>(P3 b i).bind fun e2=>if e=e2 then(A6N F a b K n (W (i+1)))else(some false))else(K i)
def B3v (F:Nat) (a b:(List Int)):Option Bool:=if(a.length:Int)=(b.length:Int)then(A6N F a b (fun i=>some true) F 0)else(some false)
theorem B7b {F a b r} (h:B3v F a b=some r):PC Tryz.prog 88 [aI a,aI b] (vB r):=by
 rw[B3v]at h
 refine oW Tryz.func88 ?_
 refine gY 1 R (B8 (gU 1 R (I7 tb R (rU 1 R (I7 tb R ?_)))))
 refine V5 R R R R (nJ h ?_) (tJ h ?_)
 ·intro h
  refine Y9 (C0 R (gY 1 R (C9 ?_)))
  cases h
  exact f1 4 R
 intro h
 refine Y9 (zF (B8 (gY 1 R (E3 ?_))))
 obtain⟨K2,hK2,h⟩:∃ K,K=_∧A6N F a b K F 0=some r:=⟨_,rfl,h⟩
 refine lW (fun m st=>∃ (i:Int),A6N F a b K2 m i=some r∧st=⟨[(0,.d (aI a)),(1,.d (aI b)),(4,dB false),(5,dI i)],[]⟩) ⟨0,h,R⟩ (.prn [0,1,4,5] R) ?_
 clear h
 rintro m2 st ⟨i,h,rfl⟩
 cases m2 with
 | zero=>cases(show(none:Option Bool)=some r from h)
 | succ m2 =>
 rw[A6N]at h
 refine B8 (gU 2 R (I7 tb R ?_))
 refine Q4 R R R R (tJ h ?_) (lJ h ?_)
 ·intro h
  refine Y9 (zT (B8 (E3 (B8 (T1 kR (rU 2 R ?_))))))
  obtain⟨e,ie,h⟩:=H1 h
  refine yE ie R R (rU 2 R ?_)
  obtain⟨e2,ie2,h⟩:=H1 h
  refine yE ie2 R R ?_
  refine V5 R R R R (nJ h ?_) (tJ h ?_)
  ·intro h
   refine I0 kR (C0 R (gY 1 R (C9 ?_)))
   cases h
   exact f1 4 R
  intro h
  refine I0 kR (zF (hN 3 R ?_))
  exact bk ⟨(W (i+1)),h,R⟩ (.prn [0,1,4,5] R)
 intro h
 refine Y9 (C1 R (N5 (E4 (E4 ?_))))
 subst hK2
 refine gY 1 R (C9 ?_)
 cases h
 exact f1 4 R
def B7h (F:Nat) (a b:C3):Option Bool:=if a.now=b.now then(if a.siren=b.siren then(if(a.storm==b.storm)=true then((B3v F a.zones b.zones).bind fun rv=>if rv=true then((B3v F a.holder b.holder).bind fun rv2=>if rv2=true then((B3v F a.squibs b.squibs).bind fun rv3=>some rv3)else(some false))else(some false))else(some false))else(some false))else(some false)
theorem C1d {F a b r} (h:B7h F a b=some r):PC Tryz.prog 49 [C3.d a,C3.d b] (vB r):=by
 rw[B7h]at h
 refine oW Tryz.func49 ?_
 refine gY 3 R (gU 4 R ?_)
 refine Z3 R R R R (tJ h ?_) (nJ h ?_)
 ·intro h
  refine rU 5 R ?_
  refine Z3 R R R R (tJ h ?_) (nJ h ?_)
  ·intro h
   refine rU 6 R (B6K R R R R R ?_)
   refine X8 (tI h ?_) (fI h ?_)
   ·intro c3 h
    refine rU 6 R ?_
    obtain⟨rv,k,h⟩:=H1 h
    refine M6 (B7b k) eK R R R R (tI h ?_) (fI h ?_)
    ·intro c4 h
     refine rU 6 R ?_
     obtain⟨rv2,k2,h⟩:=H1 h
     refine M6 (B7b k2) eK R R R R (tI h ?_) (fI h ?_)
     ·intro c5 h
      refine rU 6 R ?_
      obtain⟨rv3,k3,h⟩:=H1 h
      refine J5 (B7b k3) eK R R R R (eU 2 R (C9 ?_))
      cases h
      exact f1 4 R
     intro c5 h
     refine eU 9 R (C9 ?_)
     cases h
     exact f1 4 R
    intro c4 h
    refine eU 16 R (C9 ?_)
    cases h
    exact f1 4 R
   intro c3 h
   refine eU 23 R (C9 ?_)
   cases h
   exact f1 4 R
  intro h
  refine eU 30 R (C9 ?_)
  cases h
  exact f1 4 R
 intro h
 refine eU 36 R (C9 ?_)
 cases h
 exact f1 4 R
def A7N (F:Nat) (nv lo hi:Int):Option Bool:=if nv<lo then(some true)else(some (decide (hi<nv)))
theorem B4B {F nv lo hi r} (h:A7N F nv lo hi=some r):PC Tryz.prog 178 [vI nv,vI lo,vI hi] (vB r):=by
 rw[A7N]at h
 refine oW Tryz.func178 ?_
 refine gY 1 R (gU 2 R ?_)
 refine Q4 R R R R (tJ h ?_) (lJ h ?_)
 ·intro h
  refine eU 6 R (C9 ?_)
  cases h
  exact f1 6 R
 intro h
 refine rU 3 R (B5u R R R R (eU 2 R (C9 ?_)))
 cases h
 exact f1 6 R
def A0x (F:Nat) (s:ByteArray) (K:Int→Option Bool):Nat→Int→Option Bool
 | 0,_=>none
 | n+1,x=>if x<((A1a s).length:Int)then((P3 (A1a s) x).bind fun e=>if 97≤e then(if e≤122 then(A0x F s K n (W (x+1)))else(if x=0 then(some false)else(if e=45 then(A0x F s K n (W (x+1)))else(if 48≤e then(if e≤57 then(A0x F s K n (W (x+1)))else(some false))else(some false)))))else(if x=0 then(some false)else(if e=45 then(A0x F s K n (W (x+1)))else(if 48≤e then(if e≤57 then(A0x F s K n (W (x+1)))else(some false))else(some false)))))else(K x)
def A2y (F:Nat) (s:ByteArray):Option Bool:=A0x F s (fun x=>(A7N F (s.size:Int) 1 24).bind fun rv=>some (!rv)) F 0
theorem A2F {F s r} (h:A2y F s=some r):PC Tryz.prog 122 [vS s] (vB r):=by
 rw[A2y]at h
 refine oW Tryz.func122 ?_
 refine gY 1 R (B8 (gU 1 R (B9c R R R R R R (I7 tb R (eU 1 R (E3 ?_))))))
 obtain⟨K2,hK2,h⟩:∃ K,K=_∧A0x F s K F 0=some r:=⟨_,rfl,h⟩
 refine lW (fun m st=>∃ (x:Int),A0x F s K2 m x=some r∧st=⟨[(0,.d (vS s)),(2,dB false),(6,.d (.arr 1 (((A1a s)).map v8))),(7,dI ((A1a s).length:Int)),(8,dI x)],[]⟩) ⟨0,h,R⟩ (.prn [0,2,6,7,8] R) ?_
 clear h
 rintro m2 st ⟨x,h,rfl⟩
 cases m2 with
 | zero=>cases(show(none:Option Bool)=some r from h)
 | succ m2 =>
 rw[A0x]at h
 refine qG ?_
 refine Q4 R R R R (tJ h ?_) (lJ h ?_)
 ·intro h
  refine Y9 (B8 (zT (B8 (E3 (gU 1 R ?_)))))
  obtain⟨e,ie,h⟩:=H1 h
  refine yE ie R R (eU 2 R (gU 1 R ?_))
  refine A7I R R R R (tJ h ?_) (mJ h ?_)
  ·intro h
   refine rU 2 R ?_
   refine B1t R R R R (tJ h ?_) (mJ h ?_)
   ·intro h
    refine eU 19 R (zF (hN 2 R ?_))
    exact bk ⟨(W (x+1)),h,R⟩ (.prn [0,2,6,7,8] R)
   intro h
   refine rU 4 R ?_
   refine Z3 R R R R (tJ h ?_) (nJ h ?_)
   ·intro h
    refine eU 14 R (C0 R (gY 1 R (C9 ?_)))
    cases h
    exact f1 2 R
   intro h
   refine rU 2 R ?_
   refine V5 R R R R (nJ h ?_) (tJ h ?_)
   ·intro h
    refine rU 2 R ?_
    refine A7I R R R R (tJ h ?_) (mJ h ?_)
    ·intro h
     refine rU 2 R ?_
     refine B1t R R R R (tJ h ?_) (mJ h ?_)
     ·intro h
      refine eU 5 R (zF (hN 2 R ?_))
      exact bk ⟨(W (x+1)),h,R⟩ (.prn [0,2,6,7,8] R)
     intro h
     refine eU 5 R (C0 R (gY 1 R (C9 ?_)))
     cases h
     exact f1 2 R
    intro h
    refine eU 8 R (C0 R (gY 1 R (C9 ?_)))
    cases h
    exact f1 2 R
   intro h
   refine eU 11 R (zF (hN 2 R ?_))
   exact bk ⟨(W (x+1)),h,R⟩ (.prn [0,2,6,7,8] R)
  intro h
  refine rU 7 R ?_
  refine Z3 R R R R (tJ h ?_) (nJ h ?_)
  ·intro h
   refine eU 14 R (C0 R (gY 1 R (C9 ?_)))
   cases h
   exact f1 2 R
  intro h
  refine rU 2 R ?_
  refine V5 R R R R (nJ h ?_) (tJ h ?_)
  ·intro h
   refine rU 2 R ?_
   refine A7I R R R R (tJ h ?_) (mJ h ?_)
   ·intro h
    refine rU 2 R ?_
    refine B1t R R R R (tJ h ?_) (mJ h ?_)
    ·intro h
     refine eU 5 R (zF (hN 2 R ?_))
     exact bk ⟨(W (x+1)),h,R⟩ (.prn [0,2,6,7,8] R)
    intro h
    refine eU 5 R (C0 R (gY 1 R (C9 ?_)))
    cases h
    exact f1 2 R
   intro h
   refine eU 8 R (C0 R (gY 1 R (C9 ?_)))
   cases h
   exact f1 2 R
  intro h
  refine eU 11 R (zF (hN 2 R ?_))
  exact bk ⟨(W (x+1)),h,R⟩ (.prn [0,2,6,7,8] R)
 intro h
 refine Y9 (B8 (C1 R (N5 (E4 (E4 ?_)))))
 subst hK2
 refine gU 1 R (B9Y R R R R ?_)
 obtain⟨rv,k,h⟩:=H1 h
 refine J5 (B4B k) eK R R R R (eU 2 R (C9 ?_))
 cases h
 exact f1 2 R
def A0m (F:Nat) (nv lo hi:Int):Option Bool:=if nv<lo then(some true)else(some (decide (hi<nv)))
theorem V2 {F nv lo hi r} (h:A0m F nv lo hi=some r):PC Tryz.prog 107 [vI nv,vI lo,vI hi] (vB r):=by
 rw[A0m]at h
 refine oW Tryz.func107 ?_
 refine gY 1 R (gU 2 R ?_)
 refine Q4 R R R R (tJ h ?_) (lJ h ?_)
 ·intro h
  refine eU 6 R (C9 ?_)
  cases h
  exact f1 6 R
 intro h
 refine rU 3 R (B5u R R R R (eU 2 R (C9 ?_)))
 cases h
 exact f1 6 R
def A6j (F:Nat) (nv:Int):Option Bool:=(A0m F nv 0 9).bind fun rv=>some rv
theorem A8B {F nv r} (h:A6j F nv=some r):PC Tryz.prog 114 [vI nv] (vB r):=by
 rw[A6j]at h
 refine oW Tryz.func114 ?_
 refine gY 1 R (gU 1 R ?_)
 obtain⟨rv,k,h⟩:=H1 h
 refine J5 (V2 k) eK R R R R (eU 1 R (C9 ?_))
 cases h
 exact f1 2 R
def A6A (F:Nat) (nv:Int):Option Bool:=(A0m F nv (-10000000) 10000000).bind fun rv=>some rv
theorem B2V {F nv r} (h:A6A F nv=some r):PC Tryz.prog 215 [vI nv] (vB r):=by
 rw[A6A]at h
 refine oW Tryz.func215 ?_
 refine gY 1 R (gU 1 R ?_)
 obtain⟨rv,k,h⟩:=H1 h
 refine J5 (V2 k) eK R R R R (eU 1 R (C9 ?_))
 cases h
 exact f1 2 R
def V3 (F:Nat) (s:(List Int)) (f:(Int→Option Bool)) (K:Int→Option Int):Nat→Int→Option Int
 | 0,_=>none
 | n+1,x=>if x<(s.length:Int)then((P3 s x).bind fun e=>(f e).bind fun rv=>if rv=true then(some x)else(V3 F s f K n (W (x+1))))else(K x)
def A2b (F:Nat) (s:(List Int)) (f:(Int→Option Bool)):Option Int:=V3 F s f (fun x=>some (-1)) F 0
theorem A6s {F:Nat} {s:(List Int)} {f:(Int→Option Bool)} {r:Int} {fi:Nat} {fc:List D} (fh:∀ {a0:Int} {r:Bool},f a0=some r→PC Tryz.prog fi ([.v (.int .i64 a0)]++fc) (.v (.bool r))) (fe:Ent Tryz.prog fi) (h:A2b F s f=some r):SCR Tryz.prog 192 [.d (aI s),.fn (.func fi) [] (fc.map .d)] [] (dI r) (List.map some []):=by
 rw[A2b]at h
 refine oW Tryz.func192 ?_
 refine gY 1 R (B8 (gU 1 R (I7 tb R (eU 1 R (E3 ?_)))))
 obtain⟨K2,hK2,h⟩:∃ K,K=_∧V3 F s f K F 0=some r:=⟨_,rfl,h⟩
 refine lW (fun m st=>∃ (x:Int),V3 F s f K2 m x=some r∧st=⟨[(0,.d (aI s)),(1,.fn (.func fi) [] (fc.map .d)),(4,dI 0),(7,dI (s.length:Int)),(8,dI x)],[]⟩) ⟨0,h,R⟩ (.prn [0,1,4,7,8] R) ?_
 clear h
 rintro m2 st ⟨x,h,rfl⟩
 cases m2 with
 | zero=>cases(show(none:Option Int)=some r from h)
 | succ m2 =>
 rw[V3]at h
 refine qG ?_
 refine Q4 R R R R (tJ h ?_) (lJ h ?_)
 ·intro h
  refine Y9 (B8 (zT (B8 (E3 (gY 2 R (gU 3 R ?_))))))
  obtain⟨e,ie,h⟩:=H1 h
  refine yE ie R R ?_
  obtain⟨rv,k,h⟩:=H1 h
  refine A2W (vs:=[vI e]) (fh k) fe R R R R ?_
  refine X8 (tI h ?_) (fI h ?_)
  ·intro c2 h
   refine Y9 (C0 R (gY 2 R (C9 ?_)))
   cases h
   exact f1 4 R
  intro c2 h
  refine Y9 (zF (hN 2 R ?_))
  exact bk ⟨(W (x+1)),h,R⟩ (.prn [0,1,4,7,8] R)
 intro h
 refine Y9 (B8 (C1 R (N5 (E4 (E4 ?_)))))
 subst hK2
 refine gY 1 R (C9 ?_)
 cases h
 exact f1 4 R
def M1 (F:Nat) (s:(List Int)) (f:(Int→Option Bool)):Option Bool:=(A2b F s f).bind fun rv=>some (decide (0≤rv))
theorem R5 {F:Nat} {s:(List Int)} {f:(Int→Option Bool)} {r:Bool} {fi:Nat} {fc:List D} (fh:∀ {a0:Int} {r:Bool},f a0=some r→PC Tryz.prog fi ([.v (.int .i64 a0)]++fc) (.v (.bool r))) (fe:Ent Tryz.prog fi) (h:M1 F s f=some r):SCR Tryz.prog 147 [.d (aI s),.fn (.func fi) [] (fc.map .d)] [] (dB r) (List.map some []):=by
 rw[M1]at h
 refine oW Tryz.func147 ?_
 refine gY 1 R (gU 2 R ?_)
 obtain⟨rv,k,h⟩:=H1 h
 refine A0t (A6s (f:=f) (fh:=fh) (fe:=fe) k) R .nil eK R R ((.cons (.d (.d _)) (.cons .hof .nil))) R .nil R R R ?_
 simp only[List.map_nil,List.append_nil]
 refine A3k R R R R (eU 1 R (C9 ?_))
 cases h
 exact f1 4 R
def A8d (F:Nat) (lv:(List Int)):Option Bool:=(M1 F lv (fun a0=>A6A F a0)).bind fun rv=>some rv
theorem B1n {F lv r} (h:A8d F lv=some r):PC Tryz.prog 176 [aI lv] (vB r):=by
 rw[A8d]at h
 refine oW Tryz.func176 ?_
 refine gY 1 R (gU 1 R ?_)
 obtain⟨rv,k,h⟩:=H1 h
 refine A0t (R5 (f:=(fun a0=>A6A F a0)) (fc:=[]) (fh:=fun hr=>B2V hr) (fe := .of kR) k) R .nil eK R R ((.cons (.d (.d _)) (.cons .fnc .nil))) R .nil R R R ?_
 simp only[List.map_nil,List.append_nil]
 refine eU 1 R (C9 ?_)
 cases h
 exact f1 2 R
def A4U (F:Nat) (z:F6):Option ByteArray:=some z.name
theorem B1d {F z r} (h:A4U F z=some r):PC Tryz.prog 109 [F6.d z] (vS r):=by
 rw[A4U]at h
 refine oW Tryz.func109 ?_
 refine gY 2 R (gY 3 R (C9 ?_))
 cases h
 exact f1 2 R
def A3J (F:Nat) (x:E2):Option ByteArray:=some x.name
theorem B1e {F x r} (h:A3J F x=some r):PC Tryz.prog 112 [E2.d x] (vS r):=by
 rw[A3J]at h
 refine oW Tryz.func112 ?_
 refine gY 2 R (gY 3 R (C9 ?_))
 cases h
 exact f1 2 R
def A3K (F:Nat) (x:E2):Option Int:=(A6j F x.grade).bind fun rv=>if rv=true then(some 7)else(some 0)
theorem B1f {F x r} (h:A3K F x=some r):PC Tryz.prog 113 [E2.d x] (vI r):=by
 rw[A3K]at h
 refine oW Tryz.func113 ?_
 refine gY 2 R (B8 (gU 2 R ?_))
 obtain⟨rv,k,h⟩:=H1 h
 refine M6 (A8B k) eK R R R R (tI h ?_) (fI h ?_)
 ·intro c h
  refine Y9 (C0 R (gY 1 R (C9 ?_)))
  cases h
  exact f1 2 R
 intro c h
 refine Y9 (zF (gY 1 R (C9 ?_)))
 cases h
 exact f1 2 R
def A3L (F:Nat) (s:ByteArray):Option ByteArray:=some s
theorem B1g {F s r} (h:A3L F s=some r):PC Tryz.prog 116 [vS s] (vS r):=by
 rw[A3L]at h
 refine oW Tryz.func116 ?_
 refine gY 1 R (gY 2 R (C9 ?_))
 cases h
 exact f1 2 R
def A3M (F:Nat) (a:ByteArray):Option Int:=some 0
theorem B1h {F a r} (h:A3M F a=some r):PC Tryz.prog 117 [vS a] (vI r):=by
 rw[A3M]at h
 refine oW Tryz.func117 ?_
 refine gY 1 R (gY 1 R (C9 ?_))
 cases h
 exact f1 2 R
def A3N (F:Nat) (q:D1):Option ByteArray:=some q.name
theorem B1i {F q r} (h:A3N F q=some r):PC Tryz.prog 119 [D1.d q] (vS r):=by
 rw[A3N]at h
 refine oW Tryz.func119 ?_
 refine gY 2 R (gY 3 R (C9 ?_))
 cases h
 exact f1 2 R
def A2z (F:Nat):Option Int:=some 7
def A6C (F:Nat) (z:F6):Option Int:=(A8d F [z.L5,z.L4,z.L7,z.L6]).bind fun rv=>if rv=true then(A2z F)else(if z.L4<z.L5 then(A2z F)else(if z.L6<z.L7 then(A2z F)else((A6j F z.grade).bind fun rv2=>if rv2=true then(A2z F)else((A0m F z.room 1 8).bind fun rv3=>if rv3=true then(A2z F)else(some 0)))))
theorem B4d {F z r} (h:A6C F z=some r):PC Tryz.prog 110 [F6.d z] (vI r):=by
 rw[A6C]at h
 refine oW Tryz.func110 ?_
 refine gY 2 R (B8 (T1 kR (rU 10 R (I0 kR (B8 (B8 ?_))))))
 refine W5 (fun zz:Unit=>A2z F=some r) (fun zz:Unit=>⟨[(2,dI 0),(44,dB true)],[]⟩) ?_ ?_
 ·clear h
  rintro⟨⟩ h
  rw[A2z]at h
  refine C0 R (gY 1 R (C9 ?_))
  cases h
  exact f1 2 R
 refine hU 8 R (P7 tb R R R R R R R R R R R R R ?_)
 obtain⟨rv,k,h⟩:=H1 h
 refine A4k (B1n k) eK R R ((.cons (.row R R) .nil)) R R (tI h ?_) (fI h ?_)
 ·intro c h
  refine nU 24 R ?_
  exact .inl ⟨(),h,.vw (κ:=[]) (v0 R)⟩
 intro c h
 refine rU 5 R ?_
 refine A4l R R R R (tJ h ?_) (lJ h ?_)
 ·intro h
  refine nU 18 R ?_
  exact .inl ⟨(),h,.vw (κ:=[]) (v0 R)⟩
 intro h
 refine rU 6 R ?_
 refine A4l R R R R (tJ h ?_) (lJ h ?_)
 ·intro h
  refine nU 11 R ?_
  exact .inl ⟨(),h,.vw (κ:=[]) (v0 R)⟩
 intro h
 refine rU 4 R ?_
 obtain⟨rv2,k2,h⟩:=H1 h
 refine M6 (A8B k2) eK R R R R (tI h ?_) (fI h ?_)
 ·intro c4 h
  refine nU 6 R ?_
  exact .inl ⟨(),h,.vw (κ:=[]) (v0 R)⟩
 intro c4 h
 refine rU 4 R ?_
 obtain⟨rv3,k3,h⟩:=H1 h
 refine M6 (V2 k3) eK R R R R (tI h ?_) (fI h ?_)
 ·intro c5 h
  refine nU 1 R ?_
  exact .inl ⟨(),h,.vw (κ:=[]) (v0 R)⟩
 intro c5 h
 refine nU 1 R (.inr (zF (gY 1 R (C9 ?_))))
 cases h
 exact f1 2 R
def A5a (F:Nat) (k c:Int):Option Bool:=(A0m F k 0 (W (c-1))).bind fun rv=>some rv
theorem B1o {F k c r} (h:A5a F k c=some r):PC Tryz.prog 177 [vI k,.el 1 (([c]).map vI) ((0:Int)).toNat 0] (vB r):=by
 rw[A5a]at h
 refine oW Tryz.func177 ?_
 refine gY 1 R (gU 1 R (I4 (y:=vI c) tb (U5 (g:=vI) (R:P3 [c] 0=some c)) R (rU 1 R ?_)))
 obtain⟨rv,k,h⟩:=H1 h
 refine J5 (V2 k) eK R R R R (eU 1 R (C9 ?_))
 cases h
 exact f1 3 R
def A28 (F:Nat) (q:D1) (q2:(List Int)) (K:Int→Option Int):Nat→Int→Option Int
 | 0,_=>none
 | n+1,x=>if x<(q2.length:Int)then((P3 q.keys x).bind fun e=>(P3 q.keys (W (x+1))).bind fun e2=>if e2≤e then(some 2)else(A28 F q q2 K n (W (x+1))))else(K x)
def A4j (F:Nat) (q:D1):Option Int:=(A7A q.keys 1 q.keys.length).bind fun q2=>A28 F q q2 (fun x=>some 0) F 0
def A6B (F:Nat) (q:D1) (keys:Int):Option Int:=(A8d F [q.A4s,q.A4t]).bind fun rv=>if rv=true then(some 7)else((A0m F q.clear 0 10000000).bind fun rv2=>if rv2=true then(some 7)else((A6j F q.grade).bind fun rv3=>if rv3=true then(some 7)else(if(q.keys.length:Int)=0 then(some 4)else((M1 F q.keys (fun a0=>A5a F a0 keys)).bind fun rv4=>if rv4=true then(some 4)else(A4j F q)))))
theorem B2Y {F q keys r} (h:A6B F q keys=some r):PC Tryz.prog 121 [D1.d q,vI keys] (vI r):=by
 rw[A6B]at h
 refine oW Tryz.func121 ?_
 refine gY 3 R (B8 ?_)
 refine W5 (fun zz:Unit=>A4j F q=some r) (fun zz:Unit=>⟨[(2,rf 0 6),(4,dI 0)],[bx 6 (.d (D1.d q))]⟩) ?_ ?_
 ·clear h
  rintro⟨⟩ h
  rw[A4j]at h
  refine B8 (gU 2 R ?_)
  obtain⟨q2,iq2,h⟩:=H1 h
  refine B8f tb R R R R R R iq2 R R (I7 tb R (eU 1 R (E3 ?_)))
  obtain⟨K3,hK3,h⟩:∃ K,K=_∧A28 F q q2 K F 0=some r:=⟨_,rfl,h⟩
  refine lW (fun m st=>∃ (x:Int),A28 F q q2 K3 m x=some r∧st=⟨[(2,rf 0 6),(4,dI 0),(39,dI (q2.length:Int)),(40,dI x)],[bx 6 (.d (D1.d q))]⟩) ⟨0,h,R⟩ (.prn [2,4,39,40] R) ?_
  clear h
  rintro m3 st ⟨x,h,rfl⟩
  cases m3 with
  | zero=>cases(show(none:Option Int)=some r from h)
  | succ m3 =>
  rw[A28]at h
  refine qG ?_
  refine Q4 R R R R (tJ h ?_) (lJ h ?_)
  ·intro h
   refine Y9 (B8 (zT (B8 (E3 (gY 2 R (B8 (T1 kR (rU 3 R ?_))))))))
   obtain⟨e,ie,h⟩:=H1 h
   refine yE ie R R (rU 4 R ?_)
   obtain⟨e2,ie2,h⟩:=H1 h
   refine yE ie2 R R ?_
   refine A7I R R R R (tJ h ?_) (mJ h ?_)
   ·intro h
    refine I0 kR (C0 R (gY 1 R (C9 ?_)))
    cases h
    exact f1 4 R
   intro h
   refine I0 kR (zF (hN 2 R ?_))
   exact bk ⟨(W (x+1)),h,R⟩ (.prn [2,4,39,40] R)
  intro h
  refine Y9 (B8 (C1 R (N5 (E4 (E4 ?_)))))
  subst hK3
  refine gY 1 R (C9 ?_)
  cases h
  exact f1 4 R
 refine E3 (gU 6 R (P7 tb R R R R R R R R R R R R R ?_))
 obtain⟨rv,k,h⟩:=H1 h
 refine A4k (B1n k) eK R R ((.cons (.row R R) .nil)) R R (tI h ?_) (fI h ?_)
 ·intro c h
  refine eU 11 R (C0 R (gY 1 R (C9 ?_)))
  cases h
  exact f1 4 R
 intro c h
 refine rU 3 R ?_
 obtain⟨rv2,k2,h⟩:=H1 h
 refine M6 (V2 k2) eK R R R R (tI h ?_) (fI h ?_)
 ·intro c2 h
  refine eU 7 R (C0 R (gY 1 R (C9 ?_)))
  cases h
  exact f1 4 R
 intro c2 h
 refine rU 4 R ?_
 obtain⟨rv3,k3,h⟩:=H1 h
 refine M6 (A8B k3) eK R R R R (tI h ?_) (fI h ?_)
 ·intro c3 h
  refine eU 2 R (C0 R (gY 1 R (C9 ?_)))
  cases h
  exact f1 4 R
 intro c3 h
 refine eU 2 R (C1 R (gU 2 R (I7 tb R ?_)))
 refine Z3 R R R R (tJ h ?_) (nJ h ?_)
 ·intro h
  refine eU 7 R (C0 R (gY 1 R (C9 ?_)))
  cases h
  exact f1 4 R
 intro h
 refine rU 3 R (A3E R R R R ?_)
 obtain⟨rv4,k4,h⟩:=H1 h
 refine A0t (R5 (f:=(fun a0=>A5a F a0 keys)) (fc:=[.el 1 [vI keys] 0 0]) (fh:=fun hr=>B1o hr) (fe := .of kR) k4) R .nil eK R R ((.cons (.d (.d _)) (.cons (.fnC (.cons (.d (.ref R (.d _))) .nil)) .nil))) R .nil R R R ?_
 simp only[List.map_nil,List.append_nil]
 refine X8 (tI h ?_) (fI h ?_)
 ·intro c5 h
  refine eU 2 R (C0 R (gY 1 R (C9 ?_)))
  cases h
  exact f1 4 R
 intro c5 h
 refine eU 2 R (zF (D3 (A6 ?_)))
 exact .inl ⟨(),h,.vw (κ:=[0]) (vK (.cons R R .nil) R)⟩
def A3O (F:Nat) (q:D1) (c:D5):Option Int:=(A6B F q (c.keys.length:Int)).bind fun rv=>some rv
theorem B1j {F q c r} (h:A3O F q c=some r):PC Tryz.prog 120 [D1.d q,.el 7 (([c]).map D5.d) ((0:Int)).toNat 0] (vI r):=by
 rw[A3O]at h
 refine oW Tryz.func120 ?_
 refine gY 2 R (gU 2 R (I4 (y := .arr 1 ((c.keys).map vS)) tb (U5 (g:=D5.d) (R:P3 [c] 0=some c)) R (I7 tb R ?_)))
 obtain⟨rv,k,h⟩:=H1 h
 refine J5 (B2Y k) eK R R R R (eU 1 R (C9 ?_))
 cases h
 exact f1 3 R
def Z6 (F:Nat) (lv:(List F6)) (name:(F6→Option ByteArray)) (rest:(F6→Option Int)) (K:(List (ByteArray × Bool))→Int→Option (Int × Int)):Nat→(List (ByteArray × Bool))→Int→Option (Int × Int)
 | 0,_,_=>none
 | n+1,seen,x=>if x<(lv.length:Int)then((P3 lv x).bind fun e=>(name e).bind fun rv=>(A2y F rv).bind fun rv2=>if rv2=true then(if((A2e seen rv).getD false)=true then(some (x,5))else((rest e).bind fun rv3=>if rv3=0 then(Z6 F lv name rest K n (M0 seen rv true) (W (x+1)))else(some (x,rv3))))else(some (x,6)))else(K seen x)
def A2p (F:Nat) (lv:(List F6)) (name:(F6→Option ByteArray)) (rest:(F6→Option Int)):Option (Int × Int):=Z6 F lv name rest (fun seen x=>some (0,0)) F ([]:List (ByteArray × Bool)) 0
theorem A7E {F:Nat} {lv:(List F6)} {name:(F6→Option ByteArray)} {rest:(F6→Option Int)} {r:(Int × Int)} {namei:Nat} {namec:List D} (nameh:∀ {a0:F6} {r:ByteArray},name a0=some r→PC Tryz.prog namei ([F6.d a0]++namec) (.v (.string r))) (namee:Ent Tryz.prog namei) {resti:Nat} {restc:List D} (resth:∀ {a0:F6} {r:Int},rest a0=some r→PC Tryz.prog resti ([F6.d a0]++restc) (.v (.int .i64 r))) (reste:Ent Tryz.prog resti) (h:A2p F lv name rest=some r):SCR Tryz.prog 108 [.d (.arr 8 ((lv).map F6.d)),.fn (.func namei) [] (namec.map .d),.fn (.func resti) [] (restc.map .d)] [] (.d (.tup [vI r.1,vI r.2])) (List.map some []):=by
 rw[A2p]at h
 refine oW Tryz.func108 ?_
 refine gY 2 R (qG (A58 R R R (eU 1 R (B8 (gU 1 R (I7 tb R (eU 1 R (E3 ?_))))))))
 obtain⟨K3,hK3,h⟩:∃ K,K=_∧Z6 F lv name rest K F ([]:List (ByteArray × Bool)) 0=some r:=⟨_,rfl,h⟩
 refine lW (fun m st=>∃ (seen:(List (ByteArray × Bool))) (x:Int),Z6 F lv name rest K3 m seen x=some r∧st=⟨[(1,.fn (.func namei) [] (namec.map .d)),(2,.fn (.func resti) [] (restc.map .d)),(6,dI 0),(7,dI 0),(8,.mp 0),(14,.d (.arr 8 ((lv).map F6.d))),(15,dI (lv.length:Int)),(16,dI x)],[C3o seen]⟩) ⟨([]:List (ByteArray × Bool)),0,h,R⟩ (.prn [1,2,6,7,8,14,15,16] R) ?_
 clear h
 rintro m3 st ⟨seen,x,h,rfl⟩
 cases m3 with
 | zero=>cases(show(none:Option (Int × Int))=some r from h)
 | succ m3 =>
 rw[Z6]at h
 refine qG ?_
 refine Q4 R R R R (tJ h ?_) (lJ h ?_)
 ·intro h
  refine Y9 (B8 (zT (B8 (E3 (gU 1 R ?_)))))
  obtain⟨e,ie,h⟩:=H1 h
  refine yE ie R R (eU 3 R (gU 2 R ?_))
  obtain⟨rv,k,h⟩:=H1 h
  refine A2W (vs:=[F6.d e]) (nameh k) namee R R R R (eU 1 R (B8 (E3 (gU 1 R ?_))))
  obtain⟨rv2,k2,h⟩:=H1 h
  refine M6 (A2F k2) eK R R R R (tI h ?_) (fI h ?_)
  ·intro c2 h
   refine eU 2 R (C1 R (gU 2 R ?_))
   refine B5U (vf:=fun b=>vB b) (z0:=false) (u:=vB ((A2e seen rv).getD false)) tb R R R R R R R R R R ?_
   refine X8 (tI h ?_) (fI h ?_)
   ·intro c3 h
    refine eU 1 R (C0 R (gY 3 R (C9 ?_)))
    cases h
    exact f0 R R R (.cons (.tmp 6) (.cons (.tmp 7) .nil))
   intro c3 h
   refine eU 1 R (zF (B8 (gU 2 R ?_)))
   obtain⟨rv3,k3,h⟩:=H1 h
   refine A2W (vs:=[F6.d e]) (resth k3) reste R R R R (eU 1 R (gU 1 R ?_))
   refine V5 R R R R (nJ h ?_) (tJ h ?_)
   ·intro h
    refine Y9 (C0 R (gY 4 R (C9 ?_)))
    cases h
    exact f0 R R R (.cons (.tmp 6) (.cons (.tmp 7) .nil))
   intro h
   refine Y9 (zF (hU 2 R ?_))
   refine B01 (vf:=fun b=>vB b) (v:=true) (q:=(M0 seen rv true)) ([C3o (M0 seen rv true),bx 8 (.d (F6.d e))]) R R R R R R R R R ?_
   refine Y9 (hN 2 R ?_)
   exact bk ⟨(M0 seen rv true),(W (x+1)),h,R⟩ (.vw (κ:=[0]) (vwK R R (.map R .nil) (.hof R (.hof R (.cons R R (.cons R R (.cons R R (.cons R R (.cons R R (.cons R R .nil))))))))))
  intro c2 h
  refine eU 2 R (C0 R (gY 3 R (C9 ?_)))
  cases h
  exact f0 R R R (.cons (.tmp 6) (.cons (.tmp 7) .nil))
 intro h
 refine Y9 (B8 (C1 R (N5 (E4 (E4 ?_)))))
 subst hK3
 refine gY 2 R (C9 ?_)
 cases h
 exact f0 R R R (.cons (.tmp 6) (.cons (.tmp 7) .nil))
def W9 (F:Nat) (lv:(List E2)) (name:(E2→Option ByteArray)) (rest:(E2→Option Int)) (K:(List (ByteArray × Bool))→Int→Option (Int × Int)):Nat→(List (ByteArray × Bool))→Int→Option (Int × Int)
 | 0,_,_=>none
 | n+1,seen,x=>if x<(lv.length:Int)then((P3 lv x).bind fun e=>(name e).bind fun rv=>(A2y F rv).bind fun rv2=>if rv2=true then(if((A2e seen rv).getD false)=true then(some (x,5))else((rest e).bind fun rv3=>if rv3=0 then(W9 F lv name rest K n (M0 seen rv true) (W (x+1)))else(some (x,rv3))))else(some (x,6)))else(K seen x)
def A1x (F:Nat) (lv:(List E2)) (name:(E2→Option ByteArray)) (rest:(E2→Option Int)):Option (Int × Int):=W9 F lv name rest (fun seen x=>some (0,0)) F ([]:List (ByteArray × Bool)) 0
theorem A7j {F:Nat} {lv:(List E2)} {name:(E2→Option ByteArray)} {rest:(E2→Option Int)} {r:(Int × Int)} {namei:Nat} {namec:List D} (nameh:∀ {a0:E2} {r:ByteArray},name a0=some r→PC Tryz.prog namei ([E2.d a0]++namec) (.v (.string r))) (namee:Ent Tryz.prog namei) {resti:Nat} {restc:List D} (resth:∀ {a0:E2} {r:Int},rest a0=some r→PC Tryz.prog resti ([E2.d a0]++restc) (.v (.int .i64 r))) (reste:Ent Tryz.prog resti) (h:A1x F lv name rest=some r):SCR Tryz.prog 111 [.d (.arr 2 ((lv).map E2.d)),.fn (.func namei) [] (namec.map .d),.fn (.func resti) [] (restc.map .d)] [] (.d (.tup [vI r.1,vI r.2])) (List.map some []):=by
 rw[A1x]at h
 refine oW Tryz.func111 ?_
 refine gY 2 R (qG (A58 R R R (eU 1 R (B8 (gU 1 R (I7 tb R (eU 1 R (E3 ?_))))))))
 obtain⟨K3,hK3,h⟩:∃ K,K=_∧W9 F lv name rest K F ([]:List (ByteArray × Bool)) 0=some r:=⟨_,rfl,h⟩
 refine lW (fun m st=>∃ (seen:(List (ByteArray × Bool))) (x:Int),W9 F lv name rest K3 m seen x=some r∧st=⟨[(1,.fn (.func namei) [] (namec.map .d)),(2,.fn (.func resti) [] (restc.map .d)),(6,dI 0),(7,dI 0),(8,.mp 0),(14,.d (.arr 2 ((lv).map E2.d))),(15,dI (lv.length:Int)),(16,dI x)],[C3o seen]⟩) ⟨([]:List (ByteArray × Bool)),0,h,R⟩ (.prn [1,2,6,7,8,14,15,16] R) ?_
 clear h
 rintro m3 st ⟨seen,x,h,rfl⟩
 cases m3 with
 | zero=>cases(show(none:Option (Int × Int))=some r from h)
 | succ m3 =>
 rw[W9]at h
 refine qG ?_
 refine Q4 R R R R (tJ h ?_) (lJ h ?_)
 ·intro h
  refine Y9 (B8 (zT (B8 (E3 (gU 1 R ?_)))))
  obtain⟨e,ie,h⟩:=H1 h
  refine yE ie R R (eU 3 R (gU 2 R ?_))
  obtain⟨rv,k,h⟩:=H1 h
  refine A2W (vs:=[E2.d e]) (nameh k) namee R R R R (eU 1 R (B8 (E3 (gU 1 R ?_))))
  obtain⟨rv2,k2,h⟩:=H1 h
  refine M6 (A2F k2) eK R R R R (tI h ?_) (fI h ?_)
  ·intro c2 h
   refine eU 2 R (C1 R (gU 2 R ?_))
   refine B5U (vf:=fun b=>vB b) (z0:=false) (u:=vB ((A2e seen rv).getD false)) tb R R R R R R R R R R ?_
   refine X8 (tI h ?_) (fI h ?_)
   ·intro c3 h
    refine eU 1 R (C0 R (gY 3 R (C9 ?_)))
    cases h
    exact f0 R R R (.cons (.tmp 6) (.cons (.tmp 7) .nil))
   intro c3 h
   refine eU 1 R (zF (B8 (gU 2 R ?_)))
   obtain⟨rv3,k3,h⟩:=H1 h
   refine A2W (vs:=[E2.d e]) (resth k3) reste R R R R (eU 1 R (gU 1 R ?_))
   refine V5 R R R R (nJ h ?_) (tJ h ?_)
   ·intro h
    refine Y9 (C0 R (gY 4 R (C9 ?_)))
    cases h
    exact f0 R R R (.cons (.tmp 6) (.cons (.tmp 7) .nil))
   intro h
   refine Y9 (zF (hU 2 R ?_))
   refine B01 (vf:=fun b=>vB b) (v:=true) (q:=(M0 seen rv true)) ([C3o (M0 seen rv true),bx 2 (.d (E2.d e))]) R R R R R R R R R ?_
   refine Y9 (hN 2 R ?_)
   exact bk ⟨(M0 seen rv true),(W (x+1)),h,R⟩ (.vw (κ:=[0]) (vwK R R (.map R .nil) (.hof R (.hof R (.cons R R (.cons R R (.cons R R (.cons R R (.cons R R (.cons R R .nil))))))))))
  intro c2 h
  refine eU 2 R (C0 R (gY 3 R (C9 ?_)))
  cases h
  exact f0 R R R (.cons (.tmp 6) (.cons (.tmp 7) .nil))
 intro h
 refine Y9 (B8 (C1 R (N5 (E4 (E4 ?_)))))
 subst hK3
 refine gY 2 R (C9 ?_)
 cases h
 exact f0 R R R (.cons (.tmp 6) (.cons (.tmp 7) .nil))
def Z7 (F:Nat) (lv:(List ByteArray)) (name:(ByteArray→Option ByteArray)) (rest:(ByteArray→Option Int)) (K:(List (ByteArray × Bool))→Int→Option (Int × Int)):Nat→(List (ByteArray × Bool))→Int→Option (Int × Int)
 | 0,_,_=>none
 | n+1,seen,x=>if x<(lv.length:Int)then((P3 lv x).bind fun e=>(name e).bind fun rv=>(A2y F rv).bind fun rv2=>if rv2=true then(if((A2e seen rv).getD false)=true then(some (x,5))else((rest e).bind fun rv3=>if rv3=0 then(Z7 F lv name rest K n (M0 seen rv true) (W (x+1)))else(some (x,rv3))))else(some (x,6)))else(K seen x)
def A2q (F:Nat) (lv:(List ByteArray)) (name:(ByteArray→Option ByteArray)) (rest:(ByteArray→Option Int)):Option (Int × Int):=Z7 F lv name rest (fun seen x=>some (0,0)) F ([]:List (ByteArray × Bool)) 0
theorem A7F {F:Nat} {lv:(List ByteArray)} {name:(ByteArray→Option ByteArray)} {rest:(ByteArray→Option Int)} {r:(Int × Int)} {namei:Nat} {namec:List D} (nameh:∀ {a0:ByteArray} {r:ByteArray},name a0=some r→PC Tryz.prog namei ([.v (.string a0)]++namec) (.v (.string r))) (namee:Ent Tryz.prog namei) {resti:Nat} {restc:List D} (resth:∀ {a0:ByteArray} {r:Int},rest a0=some r→PC Tryz.prog resti ([.v (.string a0)]++restc) (.v (.int .i64 r))) (reste:Ent Tryz.prog resti) (h:A2q F lv name rest=some r):SCR Tryz.prog 115 [.d (.arr 1 ((lv).map vS)),.fn (.func namei) [] (namec.map .d),.fn (.func resti) [] (restc.map .d)] [] (.d (.tup [vI r.1,vI r.2])) (List.map some []):=by
 rw[A2q]at h
 refine oW Tryz.func115 ?_
 refine gY 2 R (qG (A58 R R R (eU 1 R (B8 (gU 1 R (I7 tb R (eU 1 R (E3 ?_))))))))
 obtain⟨K3,hK3,h⟩:∃ K,K=_∧Z7 F lv name rest K F ([]:List (ByteArray × Bool)) 0=some r:=⟨_,rfl,h⟩
 refine lW (fun m st=>∃ (seen:(List (ByteArray × Bool))) (x:Int),Z7 F lv name rest K3 m seen x=some r∧st=⟨[(1,.fn (.func namei) [] (namec.map .d)),(2,.fn (.func resti) [] (restc.map .d)),(6,dI 0),(7,dI 0),(8,.mp 0),(14,.d (.arr 1 ((lv).map vS))),(15,dI (lv.length:Int)),(16,dI x)],[C3o seen]⟩) ⟨([]:List (ByteArray × Bool)),0,h,R⟩ (.prn [1,2,6,7,8,14,15,16] R) ?_
 clear h
 rintro m3 st ⟨seen,x,h,rfl⟩
 cases m3 with
 | zero=>cases(show(none:Option (Int × Int))=some r from h)
 | succ m3 =>
 rw[Z7]at h
 refine qG ?_
 refine Q4 R R R R (tJ h ?_) (lJ h ?_)
 ·intro h
  refine Y9 (B8 (zT (B8 (E3 (gU 1 R ?_)))))
  obtain⟨e,ie,h⟩:=H1 h
  refine yE ie R R (eU 2 R (gU 2 R ?_))
  obtain⟨rv,k,h⟩:=H1 h
  refine A2W (vs:=[vS e]) (nameh k) namee R R R R (eU 1 R (B8 (E3 (gU 1 R ?_))))
  obtain⟨rv2,k2,h⟩:=H1 h
  refine M6 (A2F k2) eK R R R R (tI h ?_) (fI h ?_)
  ·intro c2 h
   refine eU 2 R (C1 R (gU 2 R ?_))
   refine B5U (vf:=fun b=>vB b) (z0:=false) (u:=vB ((A2e seen rv).getD false)) tb R R R R R R R R R R ?_
   refine X8 (tI h ?_) (fI h ?_)
   ·intro c3 h
    refine eU 1 R (C0 R (gY 3 R (C9 ?_)))
    cases h
    exact f0 R R R (.cons (.tmp 6) (.cons (.tmp 7) .nil))
   intro c3 h
   refine eU 1 R (zF (B8 (gU 2 R ?_)))
   obtain⟨rv3,k3,h⟩:=H1 h
   refine A2W (vs:=[vS e]) (resth k3) reste R R R R (eU 1 R (gU 1 R ?_))
   refine V5 R R R R (nJ h ?_) (tJ h ?_)
   ·intro h
    refine Y9 (C0 R (gY 4 R (C9 ?_)))
    cases h
    exact f0 R R R (.cons (.tmp 6) (.cons (.tmp 7) .nil))
   intro h
   refine Y9 (zF (hU 2 R ?_))
   refine B01 (vf:=fun b=>vB b) (v:=true) (q:=(M0 seen rv true)) ([C3o (M0 seen rv true)]) R R R R R R R R R ?_
   refine Y9 (hN 2 R ?_)
   exact bk ⟨(M0 seen rv true),(W (x+1)),h,R⟩ (.prn [1,2,6,7,8,14,15,16] R)
  intro c2 h
  refine eU 2 R (C0 R (gY 3 R (C9 ?_)))
  cases h
  exact f0 R R R (.cons (.tmp 6) (.cons (.tmp 7) .nil))
 intro h
 refine Y9 (B8 (C1 R (N5 (E4 (E4 ?_)))))
 subst hK3
 refine gY 2 R (C9 ?_)
 cases h
 exact f0 R R R (.cons (.tmp 6) (.cons (.tmp 7) .nil))
def X9 (F:Nat) (lv:(List D1)) (name:(D1→Option ByteArray)) (rest:(D1→Option Int)) (K:(List (ByteArray × Bool))→Int→Option (Int × Int)):Nat→(List (ByteArray × Bool))→Int→Option (Int × Int)
 | 0,_,_=>none
 | n+1,seen,x=>if x<(lv.length:Int)then((P3 lv x).bind fun e=>(name e).bind fun rv=>(A2y F rv).bind fun rv2=>if rv2=true then(if((A2e seen rv).getD false)=true then(some (x,5))else((rest e).bind fun rv3=>if rv3=0 then(X9 F lv name rest K n (M0 seen rv true) (W (x+1)))else(some (x,rv3))))else(some (x,6)))else(K seen x)
def A1V (F:Nat) (lv:(List D1)) (name:(D1→Option ByteArray)) (rest:(D1→Option Int)):Option (Int × Int):=X9 F lv name rest (fun seen x=>some (0,0)) F ([]:List (ByteArray × Bool)) 0
theorem A70 {F:Nat} {lv:(List D1)} {name:(D1→Option ByteArray)} {rest:(D1→Option Int)} {r:(Int × Int)} {namei:Nat} {namec:List D} (nameh:∀ {a0:D1} {r:ByteArray},name a0=some r→PC Tryz.prog namei ([D1.d a0]++namec) (.v (.string r))) (namee:Ent Tryz.prog namei) {resti:Nat} {restc:List D} (resth:∀ {a0:D1} {r:Int},rest a0=some r→PC Tryz.prog resti ([D1.d a0]++restc) (.v (.int .i64 r))) (reste:Ent Tryz.prog resti) (h:A1V F lv name rest=some r):SCR Tryz.prog 118 [.d (.arr 6 ((lv).map D1.d)),.fn (.func namei) [] (namec.map .d),.fn (.func resti) [] (restc.map .d)] [] (.d (.tup [vI r.1,vI r.2])) (List.map some []):=by
 rw[A1V]at h
 refine oW Tryz.func118 ?_
 refine gY 2 R (qG (A58 R R R (eU 1 R (B8 (gU 1 R (I7 tb R (eU 1 R (E3 ?_))))))))
 obtain⟨K3,hK3,h⟩:∃ K,K=_∧X9 F lv name rest K F ([]:List (ByteArray × Bool)) 0=some r:=⟨_,rfl,h⟩
 refine lW (fun m st=>∃ (seen:(List (ByteArray × Bool))) (x:Int),X9 F lv name rest K3 m seen x=some r∧st=⟨[(1,.fn (.func namei) [] (namec.map .d)),(2,.fn (.func resti) [] (restc.map .d)),(6,dI 0),(7,dI 0),(8,.mp 0),(14,.d (.arr 6 ((lv).map D1.d))),(15,dI (lv.length:Int)),(16,dI x)],[C3o seen]⟩) ⟨([]:List (ByteArray × Bool)),0,h,R⟩ (.prn [1,2,6,7,8,14,15,16] R) ?_
 clear h
 rintro m3 st ⟨seen,x,h,rfl⟩
 cases m3 with
 | zero=>cases(show(none:Option (Int × Int))=some r from h)
 | succ m3 =>
 rw[X9]at h
 refine qG ?_
 refine Q4 R R R R (tJ h ?_) (lJ h ?_)
 ·intro h
  refine Y9 (B8 (zT (B8 (E3 (gU 1 R ?_)))))
  obtain⟨e,ie,h⟩:=H1 h
  refine yE ie R R (eU 3 R (gU 2 R ?_))
  obtain⟨rv,k,h⟩:=H1 h
  refine A2W (vs:=[D1.d e]) (nameh k) namee R R R R (eU 1 R (B8 (E3 (gU 1 R ?_))))
  obtain⟨rv2,k2,h⟩:=H1 h
  refine M6 (A2F k2) eK R R R R (tI h ?_) (fI h ?_)
  ·intro c2 h
   refine eU 2 R (C1 R (gU 2 R ?_))
   refine B5U (vf:=fun b=>vB b) (z0:=false) (u:=vB ((A2e seen rv).getD false)) tb R R R R R R R R R R ?_
   refine X8 (tI h ?_) (fI h ?_)
   ·intro c3 h
    refine eU 1 R (C0 R (gY 3 R (C9 ?_)))
    cases h
    exact f0 R R R (.cons (.tmp 6) (.cons (.tmp 7) .nil))
   intro c3 h
   refine eU 1 R (zF (B8 (gU 2 R ?_)))
   obtain⟨rv3,k3,h⟩:=H1 h
   refine A2W (vs:=[D1.d e]) (resth k3) reste R R R R (eU 1 R (gU 1 R ?_))
   refine V5 R R R R (nJ h ?_) (tJ h ?_)
   ·intro h
    refine Y9 (C0 R (gY 4 R (C9 ?_)))
    cases h
    exact f0 R R R (.cons (.tmp 6) (.cons (.tmp 7) .nil))
   intro h
   refine Y9 (zF (hU 2 R ?_))
   refine B01 (vf:=fun b=>vB b) (v:=true) (q:=(M0 seen rv true)) ([C3o (M0 seen rv true),bx 6 (.d (D1.d e))]) R R R R R R R R R ?_
   refine Y9 (hN 2 R ?_)
   exact bk ⟨(M0 seen rv true),(W (x+1)),h,R⟩ (.vw (κ:=[0]) (vwK R R (.map R .nil) (.hof R (.hof R (.cons R R (.cons R R (.cons R R (.cons R R (.cons R R (.cons R R .nil))))))))))
  intro c2 h
  refine eU 2 R (C0 R (gY 3 R (C9 ?_)))
  cases h
  exact f0 R R R (.cons (.tmp 6) (.cons (.tmp 7) .nil))
 intro h
 refine Y9 (B8 (C1 R (N5 (E4 (E4 ?_)))))
 subst hK3
 refine gY 2 R (C9 ?_)
 cases h
 exact f0 R R R (.cons (.tmp 6) (.cons (.tmp 7) .nil))
def A30 (F:Nat) (p:D5) (zone:Int):Option (Int × D5):=some (zone,p)
theorem A7k {F p zone r} (h:A30 F p zone=some r):SCR Tryz.prog 74 (List.map T.d [D5.d p,vI zone]) [] (.fn (.func 148) [] [rf 0 1,rf 1 7]) (List.map some [⟨1,[dI r.1]⟩,⟨7,[.d (D5.d r.2)]⟩]):=by
 rw[A30]at h
 refine oW Tryz.func74 ?_
 refine gY 3 R (qG (A3E R R R R (eU 1 R (C9 ?_))))
 cases h
 exact f2 [1,0] (.cons R R (.cons R R .nil)) R (.cons (.tmp 4) .nil) R
def A4g (F:Nat) (x:Int):Option (Int × Int × Int):=some (3,x,4)
def A1S (F:Nat) (t:D5):Option (Int × Int × Int):=(A0m F t.wait 0 6000).bind fun rv10=>if rv10=true then(some (7,0,7))else(some (0,0,0))
def A1U (F:Nat) (rv9:(Int × D5)) (e2:F6) (K:Int→Option (Int × Int × Int)):Nat→Int→Option (Int × Int × Int)
 | 0,_=>none
 | n+1,x2=>if x2<(rv9.2.squibs.length:Int)then((P3 rv9.2.squibs x2).bind fun e3=>if(W ((W ((max (max (W (e2.L5-e3.A4s)) (W (e3.A4s-e2.L4))) 0)*(max (max (W (e2.L5-e3.A4s)) (W (e3.A4s-e2.L4))) 0)))+(W ((max (max (W (e2.L7-e3.A4t)) (W (e3.A4t-e2.L6))) 0)*(max (max (W (e2.L7-e3.A4t)) (W (e3.A4t-e2.L6))) 0)))))<(W (e3.clear*e3.clear))then(some (7,0,2))else(A1U F rv9 e2 K n (W (x2+1))))else(K x2)
def A22 (F:Nat) (t:D5) (K:Int→Option (Int × Int × Int)):Nat→Int→Option (Int × Int × Int)
 | 0,_=>none
 | n+1,x=>if x<(t.doors.length:Int)then((P3 t.doors x).bind fun e=>(A0m F e.a (-1) (W ((t.zones.length:Int)-1))).bind fun rv3=>if rv3=true then(A4g F x)else((A0m F e.b (-1) (W ((t.zones.length:Int)-1))).bind fun rv4=>if rv4=true then(A4g F x)else(if e.a=e.b then(some (3,x,2))else(A22 F t K n (W (x+1))))))else(K x)
def A4h (F:Nat) (t:D5):Option (Int × Int × Int):=(A2p F t.zones (fun a0=>A4U F a0) (fun a0=>A6C F a0)).bind fun rv2=>if rv2.2=0 then(A22 F t (fun x=>(A1x F t.people (fun a0=>A3J F a0) (fun a0=>A3K F a0)).bind fun rv5=>if rv5.2=0 then((A2q F t.keys (fun a0=>A3L F a0) (fun a0=>A3M F a0)).bind fun rv6=>if rv6.2=0 then((A1V F t.squibs (fun a0=>A3N F a0) (fun a0=>A3O F a0 t)).bind fun rv7=>if rv7.2=0 then((A0m F t.panel 0 (W ((t.zones.length:Int)-1))).bind fun rv8=>if rv8=true then(some (7,0,4))else((A30 F t t.panel).bind fun rv9=>if rv9.1<0 then(A1S F t)else((P3 rv9.2.zones rv9.1).bind fun e2=>A1U F rv9 e2 (fun x2=>A1S F t) F 0)))else(some (6,rv7.1,rv7.2)))else(some (5,rv6.1,rv6.2)))else(some (4,rv5.1,rv5.2))) F 0)else(some (2,rv2.1,rv2.2))
def A1T (F:Nat):Option (Int × Int × Int):=some (1,0,3)
def A43 (F:Nat) (t:D5):Option (Int × Int × Int):=(A0m F (W ((t.zones.length:Int)-1)) 0 7).bind fun rv=>if rv=true then(A1T F)else(if 24<(t.doors.length:Int)then(A1T F)else(if 8<(t.people.length:Int)then(A1T F)else(if 8<(t.keys.length:Int)then(A1T F)else(if 6<(t.squibs.length:Int)then(A1T F)else(A4h F t)))))
theorem A7f {F t r} (h:A43 F t=some r):PC Tryz.prog 60 [D5.d t] (.tup [vI r.1,vI r.2.1,vI r.2.2]):=by
 rw[A43]at h
 refine oN Tryz.func60 ?_
 refine S3 ?_
 refine W3 fun df=>?_
 refine hE 4 R (S3 ?_)
 refine W3 fun df=>?_
 refine hU 2 R (I7 tb R (eU 2 R (S3 ?_)))
 refine A5V (fun zz:Unit=>A4h F t=some r) (fun zz:Unit=>⟨[(1,rf 0 7),(2,rf 1 1),(3,rf 2 1),(4,rf 3 1),(5,dI (W ((t.zones.length:Int)-1)))],[bx 7 (.d (D5.d t)),c1 (vI 0),c1 (vI 0),c1 (vI 0)]⟩) ?_ ?_
 ·clear h
  rintro⟨⟩ h
  rw[A4h]at h
  refine S3 ?_
  refine W3 fun df=>?_
  refine gU 2 R ?_
  obtain⟨rv2,k2,h⟩:=H1 h
  refine A0t (A7E (name:=(fun a0=>A4U F a0)) (namec:=[]) (nameh:=fun hr=>B1d hr) (namee := .of kR) (rest:=(fun a0=>A6C F a0)) (restc:=[]) (resth:=fun hr=>B4d hr) (reste := .of kR) k2) R .nil eK R R ((.cons (.d (.d _)) (.cons .fnc (.cons .fnc .nil)))) R .nil R R R ?_
  simp only[List.map_nil,List.append_nil]
  refine eU 5 R (gU 1 R ?_)
  refine V5 R R R R (nJ h ?_) (tJ h ?_)
  ·intro h
   refine Y9 (C0 R (B8 (T1 kR (rU 5 R (I0 kR (C9 ?_))))))
   cases h
   exact f0 R R R (.cons (rc tb R) (.cons (rc tb R) (.cons (rc tb R) .nil)))
  intro h
  refine Y9 (zF (S3 ?_))
  refine W3 fun df=>?_
  refine gU 2 R (I7 tb R (eU 1 R (E3 ?_)))
  obtain⟨K3,hK3,h⟩:∃ K,K=_∧A22 F t K F 0=some r:=⟨_,rfl,h⟩
  refine lW (fun m st=>∃ (x:Int),A22 F t K3 m x=some r∧st=⟨[(1,rf 0 7),(2,rf 1 1),(3,rf 2 1),(4,rf 3 1),(5,dI (W ((t.zones.length:Int)-1))),(49,.d (.arr 2 ((t.doors).map G6.d))),(50,dI (t.doors.length:Int)),(51,dI x)],[bx 7 (.d (D5.d t)),c1 (vI 0),c1 (vI rv2.1),c1 (vI rv2.2)]⟩) ⟨0,h,R⟩ (.prn [1,2,3,4,5,49,50,51] R) ?_
  clear h
  rintro m3 st ⟨x,h,rfl⟩
  cases m3 with
  | zero=>cases(show(none:Option (Int × Int × Int))=some r from h)
  | succ m3 =>
  rw[A22]at h
  refine qG ?_
  refine Q4 R R R R (tJ h ?_) (lJ h ?_)
  ·intro h
   refine Y9 (B8 (zT (B8 (E3 (gU 1 R ?_)))))
   obtain⟨e,ie,h⟩:=H1 h
   refine yE ie R R (eU 3 R (E3 (B8 ?_)))
   refine W5 (fun zz:Unit=>A4g F x=some r) (fun zz:Unit=>⟨[(1,rf 0 7),(2,rf 1 1),(3,rf 2 1),(4,rf 3 1),(5,dI (W ((t.zones.length:Int)-1))),(6,dI x),(7,rf 4 2),(49,.d (.arr 2 ((t.doors).map G6.d))),(50,dI (t.doors.length:Int)),(51,dI x),(56,dB true)],[bx 7 (.d (D5.d t)),c1 (vI 0),c1 (vI rv2.1),c1 (vI rv2.2),bx 2 (.d (G6.d e))]⟩) ?_ ?_
   ·clear h
    rintro⟨⟩ h
    rw[A4g]at h
    refine C0 R (gY 4 R (C9 ?_))
    cases h
    exact f0 R R R (.cons (rc tb R) (.cons (rc tb R) (.cons (rc tb R) .nil)))
   refine hU 3 R ?_
   obtain⟨rv3,k3,h⟩:=H1 h
   refine M6 (V2 k3) eK R R R R (tI h ?_) (fI h ?_)
   ·intro c8 h
    refine nU 7 R ?_
    exact .inl ⟨(),h,.prn [1,2,3,4,5,6,7,49,50,51,56] R⟩
   intro c8 h
   refine rU 4 R ?_
   obtain⟨rv4,k4,h⟩:=H1 h
   refine M6 (V2 k4) eK R R R R (tI h ?_) (fI h ?_)
   ·intro c9 h
    refine nU 2 R ?_
    exact .inl ⟨(),h,.prn [1,2,3,4,5,6,7,49,50,51,56] R⟩
   intro c9 h
   refine nU 2 R (.inr (C1 R (gU 4 R ?_)))
   refine Z3 R R R R (tJ h ?_) (nJ h ?_)
   ·intro h
    refine eU 1 R (C0 R (gY 4 R (C9 ?_)))
    cases h
    exact f0 R R R (.cons (rc tb R) (.cons (rc tb R) (.cons (rc tb R) .nil)))
   intro h
   refine eU 1 R (zF (hN 2 R ?_))
   exact bk ⟨(W (x+1)),h,R⟩ (.vw (κ:=[0,1,2,3]) (vK (.cons R R (.cons R R (.cons R R (.cons R R .nil)))) R))
  intro h
  refine Y9 (B8 (C1 R (N5 (E4 (E4 ?_)))))
  subst hK3
  refine S3 ?_
  refine W3 fun df=>?_
  refine hU 2 R ?_
  obtain⟨rv5,k5,h⟩:=H1 h
  refine A0t (A7j (name:=(fun a0=>A3J F a0)) (namec:=[]) (nameh:=fun hr=>B1e hr) (namee := .of kR) (rest:=(fun a0=>A3K F a0)) (restc:=[]) (resth:=fun hr=>B1f hr) (reste := .of kR) k5) R .nil eK R R ((.cons (.d (.d _)) (.cons .fnc (.cons .fnc .nil)))) R .nil R R R ?_
  simp only[List.map_nil,List.append_nil]
  refine eU 5 R (S3 ?_)
  refine W3 fun df=>?_
  refine gU 1 R ?_
  refine V5 R R R R (nJ h ?_) (tJ h ?_)
  ·intro h
   refine Y9 (C0 R (B8 (T1 kR (rU 5 R (I0 kR (C9 ?_))))))
   cases h
   exact f0 R R R (.cons (rc tb R) (.cons (rc tb R) (.cons (rc tb R) .nil)))
  intro h
  refine Y9 (zF (S3 ?_))
  refine W3 fun df=>?_
  refine gU 2 R ?_
  obtain⟨rv6,k6,h⟩:=H1 h
  refine A0t (A7F (name:=(fun a0=>A3L F a0)) (namec:=[]) (nameh:=fun hr=>B1g hr) (namee := .of kR) (rest:=(fun a0=>A3M F a0)) (restc:=[]) (resth:=fun hr=>B1h hr) (reste := .of kR) k6) R .nil eK R R ((.cons (.d (.d _)) (.cons .fnc (.cons .fnc .nil)))) R .nil R R R ?_
  simp only[List.map_nil,List.append_nil]
  refine eU 5 R (gU 1 R ?_)
  refine V5 R R R R (nJ h ?_) (tJ h ?_)
  ·intro h
   refine Y9 (C0 R (B8 (T1 kR (rU 5 R (I0 kR (C9 ?_))))))
   cases h
   exact f0 R R R (.cons (rc tb R) (.cons (rc tb R) (.cons (rc tb R) .nil)))
  intro h
  refine Y9 (zF (S3 ?_))
  refine W3 fun df=>?_
  refine gU 2 R (A3E R R R R ?_)
  obtain⟨rv7,k7,h⟩:=H1 h
  refine A0t (A70 (name:=(fun a0=>A3N F a0)) (namec:=[]) (nameh:=fun hr=>B1i hr) (namee := .of kR) (rest:=(fun a0=>A3O F a0 t)) (restc:=[.el 7 [D5.d t] 0 0]) (resth:=fun hr=>B1j hr) (reste := .of kR) k7) R .nil eK R R ((.cons (.d (.d _)) (.cons .fnc (.cons (.fnC (.cons (.d (.ref R (.d _))) .nil)) .nil)))) R .nil R R R ?_
  simp only[List.map_nil,List.append_nil]
  refine eU 5 R (gU 1 R ?_)
  refine V5 R R R R (nJ h ?_) (tJ h ?_)
  ·intro h
   refine Y9 (C0 R (B8 (T1 kR (rU 5 R (I0 kR (C9 ?_))))))
   cases h
   exact f0 R R R (.cons (rc tb R) (.cons (rc tb R) (.cons (rc tb R) .nil)))
  intro h
  refine Y9 (zF (S3 ?_))
  refine W3 fun df=>?_
  refine gU 3 R ?_
  obtain⟨rv8,k8,h⟩:=H1 h
  refine M6 (V2 k8) eK R R R R (tI h ?_) (fI h ?_)
  ·intro c14 h
   refine Y9 (C0 R (gY 3 R (C9 ?_)))
   cases h
   exact f0 R R R (.cons (rc tb R) (.cons (rc tb R) (.cons (rc tb R) .nil)))
  intro c14 h
  refine Y9 (zF (S3 ?_))
  refine A5V (fun zz:Unit=>A1S F t=some r) (fun zz:Unit=>⟨[(1,rf 0 7),(2,rf 1 1),(3,rf 2 1),(4,rf 3 1)],[bx 7 (.d (D5.d t)),c1 (vI 0),c1 (vI rv7.1),c1 (vI rv7.2)]⟩) ?_ ?_
  ·clear h
   rintro⟨⟩ h
   rw[A1S]at h
   refine W3 fun df=>?_
   refine B8 (gU 2 R ?_)
   obtain⟨rv10,k10,h⟩:=H1 h
   refine M6 (V2 k10) eK R R R R (tI h ?_) (fI h ?_)
   ·intro c18 h
    refine Y9 (C0 R (gY 3 R (C9 ?_)))
    cases h
    exact f0 R R R (.cons (rc tb R) (.cons (rc tb R) (.cons (rc tb R) .nil)))
   intro c18 h
   refine Y9 (zF (gY 3 R (C9 ?_)))
   cases h
   exact f0 R R R (.cons (rc tb R) (.cons (rc tb R) (.cons (rc tb R) .nil)))
  refine S3 ?_
  refine W3 fun df=>?_
  refine hU 3 R ?_
  obtain⟨rv9,k9,h⟩:=H1 h
  refine A2X (A7k k9) eK R R R ((.cons R (.cons R .nil))) R R R (Y9 (A5A ?_))
  refine A9S eK Tryz.func148 R R R R R R fun lb=>?_
  simp only[L8,Nat.zero_add,Nat.reduceAdd]
  refine U7 (U7 (A1h (A0u (rU 1 R ?_))))
  refine Q4 R R R R (tJ h ?_) (lJ h ?_)
  ·intro h
   refine T7 (I8 (A3R R (A9v (A4F ?_))))
   refine⟨R,[bx 7 (.d (D5.d t)),c1 (vI 0),c1 (vI rv7.1),c1 (vI rv7.2),c1 (vI rv9.1),bx 7 (.d (D5.d rv9.2))],[0,1,2,3,4,5],(vK (.cons R R (.cons R R (.cons R R (.cons R R (.cons R R (.cons R R .nil)))))) R),?_⟩
   refine D3 (A6 ?_)
   exact .inl ⟨(),h,.vw (κ:=[0,1,2,3]) (vK (.cons R R (.cons R R (.cons R R (.cons R R .nil)))) R)⟩
  intro h
  refine T7 (I8 (A1K R (A2O (I8 (U7 (A1h (A0u (rU 3 R ?_))))))))
  obtain⟨e2,ie2,h⟩:=H1 h
  refine xE ie2 R (rU 1 R (lE ie2 R (rU 2 R (T7 (I8 (U7 (A1h (A0u (rU 2 R (I7 tb R (rU 1 R (T7 (I8 (A59 ?_))))))))))))))
  obtain⟨K7,hK7,h⟩:∃ K,K=_∧A1U F rv9 e2 K F 0=some r:=⟨_,rfl,h⟩
  refine A9Q (fun m ph st=>∃ (x2:Int),A1U F rv9 e2 K7 m x2=some r∧ph=SX.norm∧st=⟨[(0,.d (.v (.func (.yield lb) #[] #[]))),(4,rf 6 4),(18,.d (.arr 6 ((rv9.2.squibs).map D1.d))),(19,dI (rv9.2.squibs.length:Int)),(20,dI x2)],[bx 7 (.d (D5.d t)),c1 (vI 0),c1 (vI rv7.1),c1 (vI rv7.2),c1 (vI rv9.1),bx 7 (.d (D5.d rv9.2)),bx 4 (.d (.agg [vI e2.L5,vI e2.L4,vI e2.L7,vI e2.L6]))]⟩) (.prn [0,4,18,19,20] R) ⟨0,h,R,R⟩ ?_
  clear h
  rintro m7 ph st ⟨x2,h,rfl,rfl⟩
  cases m7 with
  | zero=>cases(show(none:Option (Int × Int × Int))=some r from h)
  | succ m7 =>
  rw[A1U]at h
  refine U7 (A1h (A0u ?_))
  refine Q4 R R R R (tJ h ?_) (lJ h ?_)
  ·intro h
   refine T7 (I8 (U7 (A3R R (A2O (I8 (U7 (A59 (U7 (A1h (A0u (rU 1 R ?_)))))))))))
   obtain⟨e3,ie3,h⟩:=H1 h
   refine yE ie3 R R (rU 3 R (T7 (I8 (U7 (A9R (T1 kR (rU 14 R (A9L R R R R R (rU 14 R (A9L R R R R R (rU 2 R (I0 kR (I8 (U7 (A1h (A0u (rU 12 R ?_)))))))))))))))))
   refine Q4 R R R R (tJ h ?_) (lJ h ?_)
   ·intro h
    refine rU 3 R (A99 ?_)
    (with_reducible apply A9M (ys:=[vI x2]));(iterate 7 exact rfl)
    dsimp only[B1H]
    refine D7 ?_
    refine⟨R,B8o ?_⟩
    refine E3 (gY 3 R (C9 (C4 ?_)))
    refine⟨[bx 7 (.d (D5.d t)),c1 (vI 7),c1 (vI 0),c1 (vI 2),c1 (vI rv9.1),bx 7 (.d (D5.d rv9.2)),bx 4 (.d (.agg [vI e2.L5,vI e2.L4,vI e2.L7,vI e2.L6])),bx 6 (.d (D1.d e3))],[0,1,2,3,4,5,6,7],(vK (.cons R R (.cons R R (.cons R R (.cons R R (.cons R R (.cons R R (.cons R R (.cons R R .nil)))))))) R),?_⟩
    with_reducible apply B8w
    refine A0u (rU 2 R (T7 (I8 (A3R R (A9v (A6S (A4F (A4F (A6S ?_)))))))))
    refine⟨R,[bx 7 (.d (D5.d t)),c1 (vI 7),c1 (vI 0),c1 (vI 2),c1 (vI rv9.1),bx 7 (.d (D5.d rv9.2))],[0,1,2,3,4,5],(vK (.cons R R (.cons R R (.cons R R (.cons R R (.cons R R (.cons R R .nil)))))) R),?_⟩
    cases h
    exact f0 R R R (.cons (rc tb R) (.cons (rc tb R) (.cons (rc tb R) .nil)))
   intro h
   refine rU 6 R (T7 (I8 (A1K R (A2O (A3G (I8 (A1h (A0u (rU 2 R (T7 (I8 ?_)))))))))))
   exact bk ⟨(W (x2+1)),h,R,R⟩ (.vw (κ:=[0,1,2,3,4,5,6]) (vK (.cons R R (.cons R R (.cons R R (.cons R R (.cons R R (.cons R R (.cons R R .nil))))))) R))
  intro h
  refine T7 (I8 (U7 (A1K R (B13 (A4E (A4E ?_))))))
  subst hK7
  refine A76 ?_
  refine⟨R,[bx 7 (.d (D5.d t)),c1 (vI 0),c1 (vI rv7.1),c1 (vI rv7.2),c1 (vI rv9.1),bx 7 (.d (D5.d rv9.2))],[0,1,2,3,4,5],(vK (.cons R R (.cons R R (.cons R R (.cons R R (.cons R R (.cons R R .nil)))))) R),?_⟩
  refine D3 (A6 ?_)
  exact .inl ⟨(),h,.vw (κ:=[0,1,2,3]) (vK (.cons R R (.cons R R (.cons R R (.cons R R .nil)))) R)⟩
 refine W3 fun df=>?_
 refine B8 ?_
 refine W5 (fun zz:Unit=>A1T F=some r) (fun zz:Unit=>⟨[(1,rf 0 7),(2,rf 1 1),(3,rf 2 1),(4,rf 3 1),(5,dI (W ((t.zones.length:Int)-1))),(37,dB true)],[bx 7 (.d (D5.d t)),c1 (vI 0),c1 (vI 0),c1 (vI 0)]⟩) ?_ ?_
 ·clear h
  rintro⟨⟩ h
  rw[A1T]at h
  refine C0 R (gY 3 R (C9 ?_))
  cases h
  exact f0 R R R (.cons (rc tb R) (.cons (rc tb R) (.cons (rc tb R) .nil)))
 refine hU 1 R ?_
 obtain⟨rv,k,h⟩:=H1 h
 refine M6 (V2 k) eK R R R R (tI h ?_) (fI h ?_)
 ·intro c h
  refine nU 24 R ?_
  exact .inl ⟨(),h,.prn [1,2,3,4,5,37] R⟩
 intro c h
 refine rU 3 R (I7 tb R ?_)
 refine A4l R R R R (tJ h ?_) (lJ h ?_)
 ·intro h
  refine nU 19 R ?_
  exact .inl ⟨(),h,.prn [1,2,3,4,5,37] R⟩
 intro h
 refine rU 4 R (I7 tb R ?_)
 refine A4l R R R R (tJ h ?_) (lJ h ?_)
 ·intro h
  refine nU 13 R ?_
  exact .inl ⟨(),h,.prn [1,2,3,4,5,37] R⟩
 intro h
 refine rU 4 R (I7 tb R ?_)
 refine A4l R R R R (tJ h ?_) (lJ h ?_)
 ·intro h
  refine nU 7 R ?_
  exact .inl ⟨(),h,.prn [1,2,3,4,5,37] R⟩
 intro h
 refine rU 4 R (I7 tb R ?_)
 refine A4l R R R R (tJ h ?_) (lJ h ?_)
 ·intro h
  refine nU 1 R ?_
  exact .inl ⟨(),h,.prn [1,2,3,4,5,37] R⟩
 intro h
 refine nU 1 R (.inr (zF (A6 ?_)))
 exact .inl ⟨(),h,.prn [1,2,3,4,5] R⟩
def A0L (F:Nat) (nv many:Int):Option Bool:=(A0m F nv 0 (W (many-1))).bind fun rv=>some rv
theorem A1f {F nv many r} (h:A0L F nv many=some r):PC Tryz.prog 154 [vI nv,vI many] (vB r):=by
 rw[A0L]at h
 refine oW Tryz.func154 ?_
 refine gY 1 R (gU 3 R ?_)
 obtain⟨rv,k,h⟩:=H1 h
 refine J5 (V2 k) eK R R R R (eU 1 R (C9 ?_))
 cases h
 exact f1 4 R
def A23 (F:Nat) (t:D5) (o:D2):Option Int:=(A0L F o.with_ (t.people.length:Int)).bind fun rv8=>if rv8=true then(some 4)else(if o.with_=o.who then(some 2)else(some 0))
def B5j (F:Nat) (t:D5) (o:D2):Option Int:=(A0L F o.what (t.squibs.length:Int)).bind fun rv6=>if rv6=true then(some 4)else(A23 F t o)
def A45 (F:Nat) (t:D5) (o:D2):Option Int:=(A0L F o.what (t.keys.length:Int)).bind fun rv5=>if rv5=true then(some 4)else(A23 F t o)
def A46 (F:Nat) (t:D5) (o:D2):Option Int:=(A0L F o.what (t.squibs.length:Int)).bind fun rv5=>if rv5=true then(some 4)else(A23 F t o)
def A24 (F:Nat) (o:D2):Option Int:=if o.with_=(-1)then(some 0)else(some 2)
def B5k (F:Nat) (t:D5) (o:D2):Option Int:=(A0L F o.what (t.squibs.length:Int)).bind fun rv14=>if rv14=true then(some 4)else(A24 F o)
def A47 (F:Nat) (t:D5) (o:D2):Option Int:=(A0L F o.what (t.keys.length:Int)).bind fun rv13=>if rv13=true then(some 4)else(A24 F o)
def A48 (F:Nat) (t:D5) (o:D2):Option Int:=(A0L F o.what (t.squibs.length:Int)).bind fun rv13=>if rv13=true then(some 4)else(A24 F o)
def A5N (F:Nat) (t:D5) (o:D2):Option Int:=(A0m F o.at_ 0 100000).bind fun rv=>if rv=true then(some 7)else((A0m F o.kind 1 9).bind fun rv2=>if rv2=true then(some 2)else((A0L F o.who (t.people.length:Int)).bind fun rv3=>if rv3=true then(some 4)else(if o.kind=1 then(if o.what=(-1)then(A23 F t o)else((A0L F o.what (t.zones.length:Int)).bind fun rv4=>if rv4=true then(some 4)else(A23 F t o)))else(if o.kind=2 then(A45 F t o)else(if o.kind=3 then(A45 F t o)else(if o.kind=4 then(A45 F t o)else(if o.kind=5 then(A46 F t o)else(if o.kind=6 then(A46 F t o)else(if o.kind=7 then(A46 F t o)else((A0m F o.what 0 1).bind fun rv5=>if rv5=true then(some 2)else(A23 F t o)))))))))))
def A4V (F:Nat) (t:D5) (o:D2):Option Int:=(A0m F o.at_ 0 100000).bind fun rv9=>if rv9=true then(some 7)else((A0m F o.kind 1 9).bind fun rv10=>if rv10=true then(some 2)else((A0L F o.who (t.people.length:Int)).bind fun rv11=>if rv11=true then(some 4)else(if o.kind=1 then(if o.what=(-1)then(A24 F o)else((A0L F o.what (t.zones.length:Int)).bind fun rv12=>if rv12=true then(some 4)else(A24 F o)))else(if o.kind=2 then(A47 F t o)else(if o.kind=3 then(A47 F t o)else(if o.kind=4 then(A47 F t o)else(if o.kind=5 then(A48 F t o)else(if o.kind=6 then(A48 F t o)else(if o.kind=7 then(A48 F t o)else((A0m F o.what 0 1).bind fun rv13=>if rv13=true then(some 2)else(A24 F o)))))))))))
def A9k (F:Nat) (t:D5) (o:D2):Option Int:=if o.kind=4 then(A5N F t o)else(if o.kind=1 then(if o.with_=(-1)then(A4V F t o)else(A5N F t o))else(A4V F t o))
theorem B5m {F t o r} (h:A9k F t o=some r):PC Tryz.prog 78 [D5.d t,D2.d o] (vI r):=by
 rw[A9k]at h
 refine oW Tryz.func78 ?_
 refine gY 3 R (gY 1 R (B8 ?_))
 refine W5 (Sum.elim (fun zz:Unit=>A5N F t o=some r) (fun zz:Unit=>A4V F t o=some r)) (Sum.elim (fun zz:Unit=>⟨[(2,rf 0 7),(3,rf 1 5),(4,dI 0),(5,.d (.v (.func (.func 154) #[] #[]))),(6,dB true)],[bx 7 (.d (D5.d t)),bx 5 (.d (D2.d o))]⟩) (fun zz:Unit=>⟨[(2,rf 0 7),(3,rf 1 5),(4,dI 0),(5,.d (.v (.func (.func 154) #[] #[]))),(6,dB false)],[bx 7 (.d (D5.d t)),bx 5 (.d (D2.d o))]⟩)) ?_ ?_
 ·clear h
  rintro(⟨⟩ | ⟨⟩) h
  ·dsimp only[Sum.elim]at h ⊢
   rw[A5N]at h
   refine B8 (E3 (gU 2 R ?_))
   obtain⟨rv,k,h⟩:=H1 h
   refine M6 (V2 k) eK R R R R (tI h ?_) (fI h ?_)
   ·intro c4 h
    refine eU 1 R (C0 R (gY 1 R (C9 ?_)))
    cases h
    exact f1 4 R
   intro c4 h
   refine eU 1 R (C1 R (gU 2 R ?_))
   obtain⟨rv2,k2,h⟩:=H1 h
   refine M6 (V2 k2) eK R R R R (tI h ?_) (fI h ?_)
   ·intro c5 h
    refine eU 1 R (C0 R (gY 1 R (C9 ?_)))
    cases h
    exact f1 4 R
   intro c5 h
   refine eU 1 R (C1 R (gU 5 R (I7 tb R ?_)))
   obtain⟨rv3,k3,h⟩:=H1 h
   refine M6 (A1f k3) eK R R R R (tI h ?_) (fI h ?_)
   ·intro c6 h
    refine eU 1 R (C0 R (gY 1 R (C9 ?_)))
    cases h
    exact f1 4 R
   intro c6 h
   refine eU 1 R (zF (B8 ?_))
   refine W5 (fun zz:Unit=>A23 F t o=some r) (fun zz:Unit=>⟨[(2,rf 0 7),(3,rf 1 5),(4,dI 0),(5,.d (.v (.func (.func 154) #[] #[]))),(6,dB true)],[bx 7 (.d (D5.d t)),bx 5 (.d (D2.d o))]⟩) ?_ ?_
   ·clear h
    rintro⟨⟩ h
    rw[A23]at h
    refine B8 (E3 (gY 8 R (C1 R (gU 7 R (I7 tb R ?_)))))
    obtain⟨rv8,k8,h⟩:=H1 h
    refine M6 (A1f k8) eK R R R R (tI h ?_) (fI h ?_)
    ·intro c19 h
     refine eU 2 R (C0 R (gY 1 R (C9 ?_)))
     cases h
     exact f1 4 R
    intro c19 h
    refine eU 2 R (C1 R (gU 6 R ?_))
    refine Z3 R R R R (tJ h ?_) (nJ h ?_)
    ·intro h
     refine eU 2 R (C0 R (gY 1 R (C9 ?_)))
     cases h
     exact f1 4 R
    intro h
    refine eU 2 R (zF (gY 1 R (C9 ?_)))
    cases h
    exact f1 4 R
   refine gY 2 R (E3 (qG ?_))
   refine Z3 R R R R (tJ h ?_) (nJ h ?_)
   ·intro h
    refine eU 1 R (C0 R (gU 2 R ?_))
    refine V5 R R R R (nJ h ?_) (tJ h ?_)
    ·intro h
     refine rU 6 R (I7 tb R ?_)
     obtain⟨rv4,k4,h⟩:=H1 h
     refine M6 (A1f k4) eK R R R R (tI h ?_) (fI h ?_)
     ·intro c9 h
      refine eU 1 R (C0 R (gY 1 R (C9 ?_)))
      cases h
      exact f1 4 R
     intro c9 h
     refine eU 1 R (zF (D3 (A6 ?_)))
     exact .inl ⟨(),h,.prn [2,3,4,5,6] R⟩
    intro h
    refine eU 9 R (zF (D3 (A6 ?_)))
    exact .inl ⟨(),h,.prn [2,3,4,5,6] R⟩
   intro h
   refine eU 1 R (C1 R (B8 ?_))
   refine W5 (fun zz:Unit=>A45 F t o=some r) (fun zz:Unit=>⟨[(2,rf 0 7),(3,rf 1 5),(4,dI 0),(5,.d (.v (.func (.func 154) #[] #[]))),(6,dB true),(37,dI o.kind),(55,dB true)],[bx 7 (.d (D5.d t)),bx 5 (.d (D2.d o))]⟩) ?_ ?_
   ·clear h
    rintro⟨⟩ h
    rw[A45]at h
    refine C0 R (gU 5 R (I7 tb R ?_))
    obtain⟨rv5,k5,h⟩:=H1 h
    refine M6 (A1f k5) eK R R R R (tI h ?_) (fI h ?_)
    ·intro c13 h
     refine Y9 (C0 R (gY 1 R (C9 ?_)))
     cases h
     exact f1 4 R
    intro c13 h
    refine Y9 (zF (D3 (A6 ?_)))
    exact .inl ⟨(),h,.prn [2,3,4,5,6] R⟩
   refine qG ?_
   refine Z3 R R R R (tJ h ?_) (nJ h ?_)
   ·intro h
    refine eU 1 R (zT (A6 ?_))
    exact .inl ⟨(),h,.prn [2,3,4,5,6,37,55] R⟩
   intro h
   refine eU 1 R (C1 R (qG ?_))
   refine Z3 R R R R (tJ h ?_) (nJ h ?_)
   ·intro h
    refine eU 1 R (zT (A6 ?_))
    exact .inl ⟨(),h,.prn [2,3,4,5,6,37,55] R⟩
   intro h
   refine eU 1 R (C1 R (J1 ?_))
   refine Z3 R R R R (tJ h ?_) (nJ h ?_)
   ·intro h
    refine nU 1 R ?_
    exact .inl ⟨(),h,.prn [2,3,4,5,6,37,55] R⟩
   intro h
   refine nU 1 R (.inr (C1 R (B8 ?_)))
   refine W5 (fun zz:Unit=>A46 F t o=some r) (fun zz:Unit=>⟨[(2,rf 0 7),(3,rf 1 5),(4,dI 0),(5,.d (.v (.func (.func 154) #[] #[]))),(6,dB true),(66,dB true)],[bx 7 (.d (D5.d t)),bx 5 (.d (D2.d o))]⟩) ?_ ?_
   ·clear h
    rintro⟨⟩ h
    rw[A46]at h
    refine C0 R (gU 5 R (I7 tb R ?_))
    obtain⟨rv5,k5,h⟩:=H1 h
    refine M6 (A1f k5) eK R R R R (tI h ?_) (fI h ?_)
    ·intro c16 h
     refine Y9 (C0 R (gY 1 R (C9 ?_)))
     cases h
     exact f1 4 R
    intro c16 h
    refine Y9 (zF (D3 (A6 ?_)))
    exact .inl ⟨(),h,.prn [2,3,4,5,6] R⟩
   refine qG ?_
   refine Z3 R R R R (tJ h ?_) (nJ h ?_)
   ·intro h
    refine eU 1 R (zT (A6 ?_))
    exact .inl ⟨(),h,.prn [2,3,4,5,6,66] R⟩
   intro h
   refine eU 1 R (C1 R (qG ?_))
   refine Z3 R R R R (tJ h ?_) (nJ h ?_)
   ·intro h
    refine eU 1 R (zT (A6 ?_))
    exact .inl ⟨(),h,.prn [2,3,4,5,6,66] R⟩
   intro h
   refine eU 1 R (C1 R (J1 ?_))
   refine Z3 R R R R (tJ h ?_) (nJ h ?_)
   ·intro h
    refine nU 1 R ?_
    exact .inl ⟨(),h,.prn [2,3,4,5,6,66] R⟩
   intro h
   refine nU 1 R (.inr (C1 R (gU 2 R ?_)))
   obtain⟨rv5,k5,h⟩:=H1 h
   refine M6 (V2 k5) eK R R R R (tI h ?_) (fI h ?_)
   ·intro c16 h
    refine Y9 (C0 R (gY 1 R (C9 ?_)))
    cases h
    exact f1 4 R
   intro c16 h
   refine Y9 (zF (D3 (A6 ?_)))
   exact .inl ⟨(),h,.prn [2,3,4,5,6] R⟩
  ·dsimp only[Sum.elim]at h ⊢
   rw[A4V]at h
   refine B8 (E3 (gU 2 R ?_))
   obtain⟨rv9,k9,h⟩:=H1 h
   refine M6 (V2 k9) eK R R R R (tI h ?_) (fI h ?_)
   ·intro c21 h
    refine eU 1 R (C0 R (gY 1 R (C9 ?_)))
    cases h
    exact f1 4 R
   intro c21 h
   refine eU 1 R (C1 R (gU 2 R ?_))
   obtain⟨rv10,k10,h⟩:=H1 h
   refine M6 (V2 k10) eK R R R R (tI h ?_) (fI h ?_)
   ·intro c22 h
    refine eU 1 R (C0 R (gY 1 R (C9 ?_)))
    cases h
    exact f1 4 R
   intro c22 h
   refine eU 1 R (C1 R (gU 5 R (I7 tb R ?_)))
   obtain⟨rv11,k11,h⟩:=H1 h
   refine M6 (A1f k11) eK R R R R (tI h ?_) (fI h ?_)
   ·intro c23 h
    refine eU 1 R (C0 R (gY 1 R (C9 ?_)))
    cases h
    exact f1 4 R
   intro c23 h
   refine eU 1 R (zF (B8 ?_))
   refine W5 (fun zz:Unit=>A24 F o=some r) (fun zz:Unit=>⟨[(2,rf 0 7),(3,rf 1 5),(4,dI 0),(5,.d (.v (.func (.func 154) #[] #[]))),(6,dB false)],[bx 7 (.d (D5.d t)),bx 5 (.d (D2.d o))]⟩) ?_ ?_
   ·clear h
    rintro⟨⟩ h
    rw[A24]at h
    refine B8 (E3 (gU 5 R ?_))
    refine V5 R R R R (nJ h ?_) (tJ h ?_)
    ·intro h
     refine eU 2 R (C0 R (gY 1 R (C9 ?_)))
     cases h
     exact f1 4 R
    intro h
    refine eU 2 R (C1 R (gY 11 R (C1 R (gY 9 R (zF (gY 1 R (C9 ?_)))))))
    cases h
    exact f1 4 R
   refine gY 2 R (E3 (qG ?_))
   refine Z3 R R R R (tJ h ?_) (nJ h ?_)
   ·intro h
    refine eU 1 R (C0 R (gU 2 R ?_))
    refine V5 R R R R (nJ h ?_) (tJ h ?_)
    ·intro h
     refine rU 6 R (I7 tb R ?_)
     obtain⟨rv12,k12,h⟩:=H1 h
     refine M6 (A1f k12) eK R R R R (tI h ?_) (fI h ?_)
     ·intro c26 h
      refine eU 1 R (C0 R (gY 1 R (C9 ?_)))
      cases h
      exact f1 4 R
     intro c26 h
     refine eU 1 R (zF (D3 (A6 ?_)))
     exact .inl ⟨(),h,.prn [2,3,4,5,6] R⟩
    intro h
    refine eU 9 R (zF (D3 (A6 ?_)))
    exact .inl ⟨(),h,.prn [2,3,4,5,6] R⟩
   intro h
   refine eU 1 R (C1 R (B8 ?_))
   refine W5 (fun zz:Unit=>A47 F t o=some r) (fun zz:Unit=>⟨[(2,rf 0 7),(3,rf 1 5),(4,dI 0),(5,.d (.v (.func (.func 154) #[] #[]))),(6,dB false),(37,dI o.kind),(55,dB true)],[bx 7 (.d (D5.d t)),bx 5 (.d (D2.d o))]⟩) ?_ ?_
   ·clear h
    rintro⟨⟩ h
    rw[A47]at h
    refine C0 R (gU 5 R (I7 tb R ?_))
    obtain⟨rv13,k13,h⟩:=H1 h
    refine M6 (A1f k13) eK R R R R (tI h ?_) (fI h ?_)
    ·intro c30 h
     refine Y9 (C0 R (gY 1 R (C9 ?_)))
     cases h
     exact f1 4 R
    intro c30 h
    refine Y9 (zF (D3 (A6 ?_)))
    exact .inl ⟨(),h,.prn [2,3,4,5,6] R⟩
   refine qG ?_
   refine Z3 R R R R (tJ h ?_) (nJ h ?_)
   ·intro h
    refine eU 1 R (zT (A6 ?_))
    exact .inl ⟨(),h,.prn [2,3,4,5,6,37,55] R⟩
   intro h
   refine eU 1 R (C1 R (qG ?_))
   refine Z3 R R R R (tJ h ?_) (nJ h ?_)
   ·intro h
    refine eU 1 R (zT (A6 ?_))
    exact .inl ⟨(),h,.prn [2,3,4,5,6,37,55] R⟩
   intro h
   refine eU 1 R (C1 R (J1 ?_))
   refine Z3 R R R R (tJ h ?_) (nJ h ?_)
   ·intro h
    refine nU 1 R ?_
    exact .inl ⟨(),h,.prn [2,3,4,5,6,37,55] R⟩
   intro h
   refine nU 1 R (.inr (C1 R (B8 ?_)))
   refine W5 (fun zz:Unit=>A48 F t o=some r) (fun zz:Unit=>⟨[(2,rf 0 7),(3,rf 1 5),(4,dI 0),(5,.d (.v (.func (.func 154) #[] #[]))),(6,dB false),(66,dB true)],[bx 7 (.d (D5.d t)),bx 5 (.d (D2.d o))]⟩) ?_ ?_
   ·clear h
    rintro⟨⟩ h
    rw[A48]at h
    refine C0 R (gU 5 R (I7 tb R ?_))
    obtain⟨rv13,k13,h⟩:=H1 h
    refine M6 (A1f k13) eK R R R R (tI h ?_) (fI h ?_)
    ·intro c33 h
     refine Y9 (C0 R (gY 1 R (C9 ?_)))
     cases h
     exact f1 4 R
    intro c33 h
    refine Y9 (zF (D3 (A6 ?_)))
    exact .inl ⟨(),h,.prn [2,3,4,5,6] R⟩
   refine qG ?_
   refine Z3 R R R R (tJ h ?_) (nJ h ?_)
   ·intro h
    refine eU 1 R (zT (A6 ?_))
    exact .inl ⟨(),h,.prn [2,3,4,5,6,66] R⟩
   intro h
   refine eU 1 R (C1 R (qG ?_))
   refine Z3 R R R R (tJ h ?_) (nJ h ?_)
   ·intro h
    refine eU 1 R (zT (A6 ?_))
    exact .inl ⟨(),h,.prn [2,3,4,5,6,66] R⟩
   intro h
   refine eU 1 R (C1 R (J1 ?_))
   refine Z3 R R R R (tJ h ?_) (nJ h ?_)
   ·intro h
    refine nU 1 R ?_
    exact .inl ⟨(),h,.prn [2,3,4,5,6,66] R⟩
   intro h
   refine nU 1 R (.inr (C1 R (gU 2 R ?_)))
   obtain⟨rv13,k13,h⟩:=H1 h
   refine M6 (V2 k13) eK R R R R (tI h ?_) (fI h ?_)
   ·intro c33 h
    refine Y9 (C0 R (gY 1 R (C9 ?_)))
    cases h
    exact f1 4 R
   intro c33 h
   refine Y9 (zF (D3 (A6 ?_)))
   exact .inl ⟨(),h,.prn [2,3,4,5,6] R⟩
 refine hU 2 R ?_
 refine Z3 R R R R (tJ h ?_) (nJ h ?_)
 ·intro h
  refine nU 11 R ?_
  exact .inl ⟨.inl (),h,.prn [2,3,4,5,6] R⟩
 intro h
 refine rU 3 R ?_
 refine Z3 R R R R (tJ h ?_) (nJ h ?_)
 ·intro h
  refine rU 3 R ?_
  refine V5 R R R R (nJ h ?_) (tJ h ?_)
  ·intro h
   refine nU 3 R ?_
   exact .inl ⟨.inl (),h,.prn [2,3,4,5,6] R⟩
  intro h
  refine nU 3 R ?_
  exact .inl ⟨.inr (()),h,.prn [2,3,4,5,6] R⟩
 intro h
 refine nU 7 R ?_
 exact .inl ⟨.inr (()),h,.prn [2,3,4,5,6] R⟩
def J4 (F:Nat) (so:Bool) (why:Int):Option (Except Int Unit):=if so=true then(some (.ok ()))else(some (.error why))
theorem E1 {F so why r} (h:J4 F so why=some r):SCX Tryz.prog 156 [dB so,dI why] [] r 43 (fun(a:Unit) => .d (.tup [])) (fun(a:Unit)=>[]):=by
 rw[J4]at h
 refine oW Tryz.func156 ?_
 refine gU 1 R ?_
 refine X8 (tI h ?_) (fI h ?_)
 ·intro c h
  refine eU 1 R (zF ?_)
  cases h
  exact A1R (fS [] (.inl ⟨_,R,R,R⟩) R .nil (v0 R))
 intro c h
 refine eU 1 R (C0 R (X0 (rU 1 R (B5T tb R R R R R (T2 ?_)))))
 (with_reducible apply B2d);(iterate 2 exact rfl)
 cases h
 exact M3 (L:=[]) (κ:=[]) (v0 R) (.inr ⟨_,R,R⟩)
def T3 (F:Nat) (s:(List Int)):Option (List Int):=(B26 ([]:List Int) s).bind fun q=>some q
theorem Y2 {F s r} (h:T3 F s=some r):SCR Tryz.prog 144 (List.map T.d [aI s]) [] (.row 0 1 0 (r).length) (List.map some [(B7 r)]):=by
 rw[T3]at h
 refine oW Tryz.func144 ?_
 cases s with
 | nil =>
  refine SW.raw 0 1 R fun ad cap=>?_
  cases ad with
  | none =>
   replace h:some ([]:List Int)=some r:=by simpa[A8i,B26]using h
   refine gY 1 R (B8 (gU 1 R (B4l (by intro o a n cap w;cases a<;>cases o<;>simp[go_sem,eqGuard]<;>rfl) R R R (Y9 (C0 R ?_)))))
   refine SW.unraw 0 1 R ?_
   refine SW.unraw 3 1 R ?_
   refine gY 1 R ?_
   refine SW.own (ts':=[(2,.row 0 1 0 (([]:List Int)).length)]) (L':=[]) 1 R R (.cons .nil .nil) .nil ?_
   simp only[List.cons_append,List.nil_append]
   refine C9 ?_
   cases h
   exact f2 [0] C23 R (.cons (.tmp 2) .nil) R
  | some ad =>
   refine gY 1 R (B8 (gU 1 R (B4k (by intro o a n cap w;cases a<;>cases o<;>simp[go_sem,eqGuard]<;>rfl) R R R (Y9 (C1 R ?_)))))
   refine SW.unraw 0 1 R ?_
   refine SW.unraw 3 1 R ?_
   refine D7 (qG (P7 tb R R R R R R R R R R R R R (rU 1 R ?_)))
   obtain⟨q,iq,h⟩:=H1 h
   refine B3c (g:=vI) (w:=([]:List Int)) (v:=([]:List Int)) ([none]) tb R R R R R R R R (by intro _;exact R) iq R R R R R (eU 1 R (C9 ?_))
   cases h
   exact f2 [1] C23 R (.cons (.tmp 2) .nil) R
 | cons x0 s =>
  refine gY 1 R (B8 (gU 1 R (B4j (by intro o a n cap w;cases a<;>cases o<;>simp[go_sem,eqGuard]<;>rfl) R R R (Y9 (zF (qG (P7 tb R R R R R R R R R R R R R (rU 1 R ?_))))))))
  obtain⟨q,iq,h⟩:=H1 h
  refine B3c (g:=vI) (w:=([]:List Int)) (v:=(x0::s)) ([none]) tb R R R R R R R R (by intro _;exact R) iq R R R R R (eU 1 R (C9 ?_))
  cases h
  exact f2 [1] C23 R (.cons (.tmp 2) .nil) R
theorem B4H {F s r} (h:T3 F s=some r):PC Tryz.prog 144 [aI s] (aI r):=(Y2 h).toPC (.row rfl rfl)
def A56 (F:Nat) (p:D5) (s:C3):Option (Option E6):=(T3 F s.zones).bind fun rv=>(T3 F s.holder).bind fun rv2=>(T3 F s.squibs).bind fun rv3=>some (some (E6.mk p.zones p.doors p.people p.keys p.squibs p.panel p.wait s.now rv rv2 rv3 s.siren s.storm))
theorem A4L {F p s r} (h:A56 F p s=some r):SCO Tryz.prog 72 (List.map T.d [D5.d p,C3.d s]) [] r (.d (.v (.pointer none))) (List.map some []) (fun(tt:E6)=>rf 0 13) (fun(tt:E6)=>List.map some [⟨13,[C6 tt 1 2 3]⟩,(B7 tt.A9),(B7 tt.A8),(B7 tt.A4)]):=by
 rw[A56]at h
 refine oW Tryz.func72 ?_
 refine gY 3 R (B8 (T1 kR (rU 2 R ?_)))
 obtain⟨rv,k,h⟩:=H1 h
 refine A2X (Y2 k) eK R R R ((.row .nil)) R R R (rU 2 R ?_)
 obtain⟨rv2,k2,h⟩:=H1 h
 refine A2X (Y2 k2) eK R R R ((.row .nil)) R R R (rU 2 R ?_)
 obtain⟨rv3,k3,h⟩:=H1 h
 refine A2X (Y2 k3) eK R R R ((.row .nil)) R R R (rU 6 R (I0 kR (gU 2 R (S1 (v:=C6 (E6.mk p.zones p.doors p.people p.keys p.squibs p.panel p.wait s.now rv rv2 rv3 s.siren s.storm) 2 3 4) tb R R (List.cons_ne_nil _ _) kR kR kR kR R R (eU 2 R (C9 ?_))))))
 cases h
 exact fS [5,2,3,4] (.inr ⟨_,R,R,R⟩) R (.cons (.tmp 4) .nil) (vK (.cons R R C1o) R)
def R8 (F:Nat) (nv c c2:Int):Option Bool:=(A0m F nv c c2).bind fun rv=>some rv
theorem A2s {F nv c c2 r} (h:R8 F nv c c2=some r):PC Tryz.prog 146 [vI nv,.el 1 (([c]).map vI) ((0:Int)).toNat 0,.el 1 (([c2]).map vI) ((0:Int)).toNat 0] (vB r):=by
 rw[R8]at h
 refine oW Tryz.func146 ?_
 refine gY 1 R (gU 1 R (I4 (y:=vI c) tb (U5 (g:=vI) (R:P3 [c] 0=some c)) R (I4 (y:=vI c2) tb (U5 (g:=vI) (R:P3 [c2] 0=some c2)) R ?_)))
 obtain⟨rv,k,h⟩:=H1 h
 refine J5 (V2 k) eK R R R R (eU 1 R (C9 ?_))
 cases h
 exact f1 4 R
def A0A (F:Nat) (lo hi:Int):Option (Int × Int):=some (lo,hi)
theorem A26 {F lo hi r} (h:A0A F lo hi=some r):SCR Tryz.prog 145 (List.map T.d [vI lo,vI hi]) [] (.fn (.func 146) [] [rf 0 1,rf 1 1]) (List.map some [⟨1,[dI r.1]⟩,⟨1,[dI r.2]⟩]):=by
 rw[A0A]at h
 refine oW Tryz.func145 ?_
 refine gY 3 R (qG (A3E R R R R (eU 1 R (C9 ?_))))
 cases h
 exact f2 [0,1] (.cons R R (.cons R R .nil)) R (.cons (.tmp 4) .nil) R
def A2j (F:Nat) (t:E6):Option Bool:=(A0A F (-1) (W ((t.O0.length:Int)-1))).bind fun rv3=>(M1 F t.A9 (fun a0=>R8 F a0 rv3.1 rv3.2)).bind fun rv4=>if rv4=true then(some false)else((A0A F (-1) (W ((t.O3.length:Int)-1))).bind fun rv5=>(M1 F t.A8 (fun a0=>R8 F a0 rv5.1 rv5.2)).bind fun rv6=>if rv6=true then(some false)else((A0A F 0 2).bind fun rv7=>(M1 F t.A4 (fun a0=>R8 F a0 rv7.1 rv7.2)).bind fun rv8=>some (!rv8)))
def A1o (F:Nat) (t:E6):Option Bool:=(A0m F t.N7 0 100000).bind fun rv=>if rv=true then(some false)else((A0m F t.I3 (-1) t.N7).bind fun rv2=>if rv2=true then(some false)else(if(t.A9.length:Int)=(t.O3.length:Int)then(if(t.A8.length:Int)=(t.A0r.length:Int)then(if(t.A4.length:Int)=(t.O4.length:Int)then(A2j F t)else(some false))else(some false))else(some false)))
theorem A8l {F t r} (h:A1o F t=some r):PC Tryz.prog 73 [.el 13 (([t]).map E6.d) ((0:Int)).toNat 0] (vB r):=by
 rw[A1o]at h
 refine oW Tryz.func73 ?_
 refine gY 1 R (gU 3 R (I4 (y := .agg [.arr 8 ((t.O0).map F6.d),.arr 2 ((t.V4).map G6.d),.arr 2 ((t.O3).map E2.d),.arr 1 ((t.A0r).map vS),.arr 6 ((t.O4).map D1.d),vI t.X3,vI t.A0s]) tb (U5 (g:=E6.d) (R:P3 [t] 0=some t)) R (eU 2 R (gY 1 R (B8 ?_)))))
 refine W5 (fun zz:Unit=>A2j F t=some r) (fun zz:Unit=>⟨[(0,.d (.el 13 (([t]).map E6.d) ((0:Int)).toNat 0)),(2,dB false),(3,rf 0 7),(4,.d (.v (.func (.func 145) #[] #[])))],[bx 7 (.d (.agg [.arr 8 ((t.O0).map F6.d),.arr 2 ((t.V4).map G6.d),.arr 2 ((t.O3).map E2.d),.arr 1 ((t.A0r).map vS),.arr 6 ((t.O4).map D1.d),vI t.X3,vI t.A0s]))]⟩) ?_ ?_
 ·clear h
  rintro⟨⟩ h
  rw[A2j]at h
  refine B8 (T1 kR (rU 4 R (I4 (y:=aI t.A9) tb (U5 (g:=E6.d) (R:P3 [t] 0=some t)) R (rU 3 R (I7 tb R (rU 1 R ?_))))))
  obtain⟨rv3,k3,h⟩:=H1 h
  refine A2X (A26 k3) eK R R R ((.cons R (.cons R .nil))) R R R ?_
  obtain⟨rv4,k4,h⟩:=H1 h
  refine A0t (R5 (f:=(fun a0=>R8 F a0 rv3.1 rv3.2)) (fc:=[.el 1 [vI rv3.1] 0 0,.el 1 [vI rv3.2] 0 0]) (fh:=fun hr=>A2s hr) (fe := .of kR) k4) R .nil eK R R ((.cons (.d (.d _)) (.cons (.fnC (.cons (.d (.ref R (.d _))) (.cons (.d (.ref R (.d _))) .nil))) .nil))) R .nil R R R ?_
  simp only[List.map_nil,List.append_nil]
  refine X8 (tI h ?_) (fI h ?_)
  ·intro c6 h
   refine rU 28 R (I0 kR (C9 ?_))
   cases h
   exact f1 2 R
  intro c6 h
  refine rU 6 R (I4 (y:=aI t.A8) tb (U5 (g:=E6.d) (R:P3 [t] 0=some t)) R (rU 3 R (I7 tb R (rU 1 R ?_))))
  obtain⟨rv5,k5,h⟩:=H1 h
  refine A2X (A26 k5) eK R R R ((.cons R (.cons R .nil))) R R R ?_
  obtain⟨rv6,k6,h⟩:=H1 h
  refine A0t (R5 (f:=(fun a0=>R8 F a0 rv5.1 rv5.2)) (fc:=[.el 1 [vI rv5.1] 0 0,.el 1 [vI rv5.2] 0 0]) (fh:=fun hr=>A2s hr) (fe := .of kR) k6) R .nil eK R R ((.cons (.d (.d _)) (.cons (.fnC (.cons (.d (.ref R (.d _))) (.cons (.d (.ref R (.d _))) .nil))) .nil))) R .nil R R R ?_
  simp only[List.map_nil,List.append_nil]
  refine X8 (tI h ?_) (fI h ?_)
  ·intro c7 h
   refine rU 14 R (I0 kR (C9 ?_))
   cases h
   exact f1 2 R
  intro c7 h
  refine rU 7 R (I4 (y:=aI t.A4) tb (U5 (g:=E6.d) (R:P3 [t] 0=some t)) R (rU 1 R ?_))
  obtain⟨rv7,k7,h⟩:=H1 h
  refine A2X (A26 k7) eK R R R ((.cons R (.cons R .nil))) R R R ?_
  obtain⟨rv8,k8,h⟩:=H1 h
  refine A0t (R5 (f:=(fun a0=>R8 F a0 rv7.1 rv7.2)) (fc:=[.el 1 [vI rv7.1] 0 0,.el 1 [vI rv7.2] 0 0]) (fh:=fun hr=>A2s hr) (fe := .of kR) k8) R .nil eK R R ((.cons (.d (.d _)) (.cons (.fnC (.cons (.d (.ref R (.d _))) (.cons (.d (.ref R (.d _))) .nil))) .nil))) R .nil R R R ?_
  simp only[List.map_nil,List.append_nil]
  refine rU 3 R (I0 kR (C9 ?_))
  cases h
  exact f1 2 R
 refine E3 (B8 (T1 kR (rU 4 R (I4 (y:=vI t.N7) tb (U5 (g:=E6.d) (R:P3 [t] 0=some t)) R ?_))))
 obtain⟨rv,k,h⟩:=H1 h
 refine M6 (V2 k) eK R R R R (tI h ?_) (fI h ?_)
 ·intro c h
  refine rU 14 R (I0 kR (C0 R (gY 1 R (C9 ?_))))
  cases h
  exact f1 2 R
 intro c h
 refine rU 5 R (I4 (y:=vI t.I3) tb (U5 (g:=E6.d) (R:P3 [t] 0=some t)) R (rU 4 R (I4 (y:=vI t.N7) tb (U5 (g:=E6.d) (R:P3 [t] 0=some t)) R ?_)))
 obtain⟨rv2,k2,h⟩:=H1 h
 refine M6 (V2 k2) eK R R R R (tI h ?_) (fI h ?_)
 ·intro c2 h
  refine rU 2 R (I0 kR (C0 R (gY 1 R (C9 ?_))))
  cases h
  exact f1 2 R
 intro c2 h
 refine rU 2 R (I0 kR (C1 R (B8 (T1 kR (rU 4 R (I4 (y:=aI t.A9) tb (U5 (g:=E6.d) (R:P3 [t] 0=some t)) R (I7 tb R (rU 2 R (I7 tb R ?_)))))))))
 refine V5 R R R R (nJ h ?_) (tJ h ?_)
 ·intro h
  refine rU 25 R (I0 kR (C0 R (gY 1 R (C9 ?_))))
  cases h
  exact f1 2 R
 intro h
 refine rU 5 R (I4 (y:=aI t.A8) tb (U5 (g:=E6.d) (R:P3 [t] 0=some t)) R (I7 tb R (rU 2 R (I7 tb R ?_))))
 refine V5 R R R R (nJ h ?_) (tJ h ?_)
 ·intro h
  refine rU 14 R (I0 kR (C0 R (gY 1 R (C9 ?_))))
  cases h
  exact f1 2 R
 intro h
 refine rU 6 R (I4 (y:=aI t.A4) tb (U5 (g:=E6.d) (R:P3 [t] 0=some t)) R (I7 tb R (rU 2 R (I7 tb R ?_))))
 refine V5 R R R R (nJ h ?_) (tJ h ?_)
 ·intro h
  refine rU 2 R (I0 kR (C0 R (gY 1 R (C9 ?_))))
  cases h
  exact f1 2 R
 intro h
 refine rU 2 R (I0 kR (zF (D3 (A6 ?_))))
 exact .inl ⟨(),h,.prn [0,2,3,4] R⟩
def Y0 (F:Nat) (c:E6) (zone:Int) (K:Int→Int→Option Int):Nat→Int→Int→Option Int
 | 0,_,_=>none
 | n+1,nv,x=>if x<(c.A9.length:Int)then((P3 c.A9 x).bind fun e=>if e=zone then(Y0 F c zone K n (W (nv+1)) (W (x+1)))else(Y0 F c zone K n nv (W (x+1))))else(K nv x)
def A03 (F:Nat) (c:E6) (zone:Int):Option Int:=Y0 F c zone (fun nv x=>some nv) F 0 0
theorem A3C {F c zone r} (h:A03 F c zone=some r):PC Tryz.prog 150 [.el 13 (([c]).map E6.d) ((0:Int)).toNat 0,vI zone] (vI r):=by
 rw[A03]at h
 refine oW Tryz.func150 ?_
 refine gY 1 R (B8 (gU 4 R (I4 (y:=aI c.A9) tb (U5 (g:=E6.d) (R:P3 [c] 0=some c)) R (I7 tb R (eU 1 R (E3 ?_))))))
 obtain⟨K3,hK3,h⟩:∃ K,K=_∧Y0 F c zone K F 0 0=some r:=⟨_,rfl,h⟩
 refine lW (fun m st=>∃ (nv:Int) (x:Int),Y0 F c zone K3 m nv x=some r∧st=⟨[(1,dI zone),(4,dI nv),(11,.d (aI c.A9)),(12,dI (c.A9.length:Int)),(13,dI x)],[]⟩) ⟨0,0,h,R⟩ (.prn [1,4,11,12,13] R) ?_
 clear h
 rintro m3 st ⟨nv,x,h,rfl⟩
 cases m3 with
 | zero=>cases(show(none:Option Int)=some r from h)
 | succ m3 =>
 rw[Y0]at h
 refine qG ?_
 refine Q4 R R R R (tJ h ?_) (lJ h ?_)
 ·intro h
  refine Y9 (B8 (zT (B8 (E3 (qG ?_)))))
  obtain⟨e,ie,h⟩:=H1 h
  refine yE ie R R (eU 1 R (gU 2 R ?_))
  refine Z3 R R R R (tJ h ?_) (nJ h ?_)
  ·intro h
   refine Y9 (C0 R (hE 3 R (hN 2 R ?_)))
   exact bk ⟨(W (nv+1)),(W (x+1)),h,R⟩ (.prn [1,4,11,12,13] R)
  intro h
  refine Y9 (zF (hN 2 R ?_))
  exact bk ⟨nv,(W (x+1)),h,R⟩ (.prn [1,4,11,12,13] R)
 intro h
 refine Y9 (B8 (C1 R (N5 (E4 (E4 ?_)))))
 subst hK3
 refine gY 2 R (C9 ?_)
 cases h
 exact f1 4 R
def X4 (F:Nat) (c:E6) (e:D1) (K:(List Int)→Int→Option (List Int)):Nat→(List Int)→Int→Option (List Int)
 | 0,_,_=>none
 | n+1,lv,x=>if x<(e.keys.length:Int)then((P3 e.keys x).bind fun e2=>(P3 c.A8 e2).bind fun e3=>if 0≤e3 then((A8i lv [e2]).bind fun q=>X4 F c e K n q (W (x+1)))else(X4 F c e K n lv (W (x+1))))else(K lv x)
def A11 (F:Nat) (c:E6) (squib:Int):Option (List Int):=(P3 c.O4 squib).bind fun e=>X4 F c e (fun lv x=>some lv) F ([]:List Int) 0
theorem A3D {F c squib r} (h:A11 F c squib=some r):SCR Tryz.prog 153 (List.map T.d [.el 13 (([c]).map E6.d) ((0:Int)).toNat 0,vI squib]) [] (.row 0 1 0 (r).length) (List.map some [(B7 r)]):=by
 rw[A11]at h
 refine oW Tryz.func153 ?_
 refine gY 1 R (B8 (gU 4 R (I4 (y := .arr 6 ((c.O4).map D1.d)) tb (U5 (g:=E6.d) (R:P3 [c] 0=some c)) R (rU 1 R ?_))))
 obtain⟨e,ie,h⟩:=H1 h
 refine xE ie R (rU 1 R (lE ie R (I7 tb R (eU 1 R (E3 ?_)))))
 refine SW.own (ts':=[(0,.d (.el 13 (([c]).map E6.d) ((0:Int)).toNat 0)),(4,.row 0 1 0 (([]:List Int)).length),(15,.d (aI e.keys)),(16,dI (e.keys.length:Int)),(17,dI 0)]) (L':=[]) 1 R R (.cons (.same _) (.cons .nil (.cons (.same _) (.cons (.same _) (.cons (.same _) .nil))))) .nil ?_
 simp only[List.cons_append,List.nil_append]
 obtain⟨K2,hK2,h⟩:∃ K,K=_∧X4 F c e K F ([]:List Int) 0=some r:=⟨_,rfl,h⟩
 refine lW (fun m st=>∃ (lv:(List Int)) (x:Int),X4 F c e K2 m lv x=some r∧st=⟨[(0,.d (.el 13 (([c]).map E6.d) ((0:Int)).toNat 0)),(4,.row 0 1 0 (lv).length),(15,.d (aI e.keys)),(16,dI (e.keys.length:Int)),(17,dI x)],[B0u lv]⟩) ⟨([]:List Int),0,h,R⟩ (.prn [0,4,15,16,17] R) ?_
 clear h
 rintro m2 st ⟨lv,x,h,rfl⟩
 cases m2 with
 | zero=>cases(show(none:Option (List Int))=some r from h)
 | succ m2 =>
 rw[X4]at h
 refine qG ?_
 refine Q4 R R R R (tJ h ?_) (lJ h ?_)
 ·intro h
  refine Y9 (B8 (zT (B8 (E3 (qG ?_)))))
  obtain⟨e2,ie2,h⟩:=H1 h
  refine yE ie2 R R (eU 1 R (gU 4 R (I4 (y:=aI c.A8) tb (U5 (g:=E6.d) (R:P3 [c] 0=some c)) R (rU 1 R ?_))))
  obtain⟨e3,ie3,h⟩:=H1 h
  refine yE ie3 R R ?_
  refine A7I R R R R (tJ h ?_) (mJ h ?_)
  ·intro h
   refine Y9 (C0 R (hU 2 R (P7 tb R R R R R R R R R R R R R ?_)))
   obtain⟨q,iq,h⟩:=H1 h
   refine B2k (g:=vI) (w:=lv) (v:=[e2]) ([none,B0u [e2]]) tb R R R R R R R R R R R iq R R R R R (eU 1 R (hN 2 R ?_))
   exact bk ⟨q,(W (x+1)),h,R⟩ (.vw (κ:=[2]) (vK C23 R))
  intro h
  refine Y9 (zF (hN 2 R ?_))
  exact bk ⟨lv,(W (x+1)),h,R⟩ (.prn [0,4,15,16,17] R)
 intro h
 refine Y9 (B8 (C1 R (N5 (E4 (E4 ?_)))))
 subst hK2
 refine gY 2 R (C9 ?_)
 cases h
 exact f2 [0] C23 R (.cons (.tmp 4) .nil) R
theorem B5O {F c squib r} (h:A11 F c squib=some r):PC Tryz.prog 153 [.el 13 (([c]).map E6.d) ((0:Int)).toNat 0,vI squib] (aI r):=(A3D h).toPC (.row rfl rfl)
def A0N (F:Nat) (k:Int) (c:E6) (c2:Int):Option Bool:=(P3 c.A8 k).bind fun e=>some (decide (e=c2))
theorem A7G {F k c c2 r} (h:A0N F k c c2=some r):PC Tryz.prog 195 [vI k,.el 1 (([c]).map (fun x=>D.el 13 [E6.d x] 0 0)) ((0:Int)).toNat 0,.el 1 (([c2]).map vI) ((0:Int)).toNat 0] (vB r):=by
 rw[A0N]at h
 refine oW Tryz.func195 ?_
 refine gY 1 R (B8 (T1 kR ?_))
 refine I4 (y := .el 13 (([c]).map E6.d) ((0:Int)).toNat 0) tb (U5 (g:=(fun x=>D.el 13 [E6.d x] 0 0)) (R:P3 [c] 0=some c)) R ?_
 refine rU 3 R (I4 (y:=aI c.A8) tb (U5 (g:=E6.d) (R:P3 [c] 0=some c)) R (rU 1 R ?_))
 obtain⟨e,ie,h⟩:=H1 h
 refine yE ie R R (I4 (y:=vI c2) tb (U5 (g:=vI) (R:P3 [c2] 0=some c2)) R (A3s R R R R (rU 1 R (I0 kR (C9 ?_)))))
 cases h
 exact f1 4 R
def A10 (F:Nat) (B4:Int→Option Bool) (x:Int):Option Bool:=B4 (W (x+1))
def R0 (F:Nat) (c:E6) (person:Int) (rv:(Int × D5)) (e:F6) (K:Int→Option Bool):Nat→Int→Option Bool
 | 0,_=>none
 | n+1,x=>if x<(rv.2.squibs.length:Int)then((P3 rv.2.squibs x).bind fun e2=>if(W ((W ((max (max (W (e.L5-e2.A4s)) (W (e2.A4s-e.L4))) 0)*(max (max (W (e.L5-e2.A4s)) (W (e2.A4s-e.L4))) 0)))+(W ((max (max (W (e.L7-e2.A4t)) (W (e2.A4t-e.L6))) 0)*(max (max (W (e.L7-e2.A4t)) (W (e2.A4t-e.L6))) 0)))))<(W (e2.clear*e2.clear))then((P3 c.A4 x).bind fun e3=>if e3=2 then(A10 F (R0 F c person rv e K n) x)else((P3 c.O4 x).bind fun e4=>(M1 F e4.keys (fun a0=>A0N F a0 c person)).bind fun rv2=>if rv2=true then(A10 F (R0 F c person rv e K n) x)else(some false)))else(R0 F c person rv e K n (W (x+1))))else(K x)
def A0g (F:Nat) (c:E6) (person zone:Int):Option Bool:=(A30 F (D5.mk c.O0 c.V4 c.O3 c.A0r c.O4 c.X3 c.A0s) zone).bind fun rv=>if rv.1<0 then(some true)else((P3 rv.2.zones rv.1).bind fun e=>R0 F c person rv e (fun x=>some true) F 0)
theorem A27 {F c person zone r} (h:A0g F c person zone=some r):PC Tryz.prog 152 [.el 13 (([c]).map E6.d) ((0:Int)).toNat 0,vI person,vI zone] (vB r):=by
 rw[A0g]at h
 refine oN Tryz.func152 ?_
 refine S3 ?_
 refine W3 fun df=>?_
 refine hE 3 R (S3 (S3 ?_))
 refine W3 fun df=>?_
 refine hU 3 R (I4 (y := .agg [.arr 8 ((c.O0).map F6.d),.arr 2 ((c.V4).map G6.d),.arr 2 ((c.O3).map E2.d),.arr 1 ((c.A0r).map vS),.arr 6 ((c.O4).map D1.d),vI c.X3,vI c.A0s]) tb (U5 (g:=E6.d) (R:P3 [c] 0=some c)) R (rU 1 R ?_))
 obtain⟨rv,k,h⟩:=H1 h
 refine A2X (A7k k) eK R R R ((.cons R (.cons R .nil))) R R R (Y9 (A5A ?_))
 refine A9S eK Tryz.func148 R R R R R R fun lb=>?_
 simp only[L8,Nat.zero_add,Nat.reduceAdd]
 refine U7 (U7 (A1h (A0u (rU 1 R ?_))))
 refine Q4 R R R R (tJ h ?_) (lJ h ?_)
 ·intro h
  refine T7 (I8 (A3R R (A9v (A4F ?_))))
  refine⟨R,[c1 (.el 13 (([c]).map E6.d) ((0:Int)).toNat 0),c1 (vI person),c1 (vB false),c1 (vI rv.1),bx 7 (.d (D5.d rv.2))],[0,1,2,3,4],(vK (.cons R R (.cons R R (.cons R R (.cons R R (.cons R R .nil))))) R),?_⟩
  refine W3 fun df=>?_
  refine gY 1 R (C9 ?_)
  cases h
  exact f0 R R R (.cons (rc tb R) .nil)
 intro h
 refine T7 (I8 (A1K R (A2O (I8 (U7 (A1h (A0u (rU 3 R ?_))))))))
 obtain⟨e,ie,h⟩:=H1 h
 refine xE ie R (rU 1 R (lE ie R (rU 2 R (T7 (I8 (U7 (A1h (A0u (rU 2 R (I7 tb R (rU 1 R (T7 (I8 (A59 ?_))))))))))))))
 obtain⟨K4,hK4,h⟩:∃ K,K=_∧R0 F c person rv e K F 0=some r:=⟨_,rfl,h⟩
 refine A9Q (fun m ph st=>∃ (x:Int),R0 F c person rv e K4 m x=some r∧ph=SX.norm∧st=⟨[(0,.d (.v (.func (.yield lb) #[] #[]))),(4,rf 5 4),(18,.d (.arr 6 ((rv.2.squibs).map D1.d))),(19,dI (rv.2.squibs.length:Int)),(20,dI x)],[c1 (.el 13 (([c]).map E6.d) ((0:Int)).toNat 0),c1 (vI person),c1 (vB false),c1 (vI rv.1),bx 7 (.d (D5.d rv.2)),bx 4 (.d (.agg [vI e.L5,vI e.L4,vI e.L7,vI e.L6]))]⟩) (.prn [0,4,18,19,20] R) ⟨0,h,R,R⟩ ?_
 clear h
 rintro m4 ph st ⟨x,h,rfl,rfl⟩
 cases m4 with
 | zero=>cases(show(none:Option Bool)=some r from h)
 | succ m4 =>
 rw[R0]at h
 refine U7 (A1h (A0u ?_))
 refine Q4 R R R R (tJ h ?_) (lJ h ?_)
 ·intro h
  refine T7 (I8 (U7 (A3R R (A2O (I8 (U7 (A59 (U7 (A1h (A0u (rU 1 R ?_)))))))))))
  obtain⟨e2,ie2,h⟩:=H1 h
  refine yE ie2 R R (rU 3 R (T7 (I8 (U7 (A9R (T1 kR (rU 14 R (A9L R R R R R (rU 14 R (A9L R R R R R (rU 2 R (I0 kR (I8 (U7 (A1h (A0u (rU 12 R ?_)))))))))))))))))
  refine Q4 R R R R (tJ h ?_) (lJ h ?_)
  ·intro h
   refine rU 3 R (A99 ?_)
   (with_reducible apply A9M (ys:=[vI x]));(iterate 7 exact rfl)
   dsimp only[B1H]
   refine hE 1 R ?_
   refine⟨R,B8o ?_⟩
   refine E3 (B8 ?_)
   refine W5 (fun zz:Unit=>A10 F (R0 F c person rv e K4 m4) x=some r) (fun zz:Unit=>⟨[(6,rf 2 1),(37,dB false)],[c1 (.el 13 (([c]).map E6.d) ((0:Int)).toNat 0),c1 (vI person),c1 (vB false),c1 (vI rv.1),bx 7 (.d (D5.d rv.2)),bx 4 (.d (.agg [vI e.L5,vI e.L4,vI e.L7,vI e.L6])),bx 6 (.d (D1.d e2))]⟩) ?_ ?_
   ·clear h
    rintro⟨⟩ h
    rw[A10]at h
    refine zF (D3 ?_)
    refine⟨[c1 (.el 13 (([c]).map E6.d) ((0:Int)).toNat 0),c1 (vI person),c1 (vB false),c1 (vI rv.1),bx 7 (.d (D5.d rv.2)),bx 4 (.d (.agg [vI e.L5,vI e.L4,vI e.L7,vI e.L6])),bx 6 (.d (D1.d e2))],[0,1,2,3,4,5,6],(vK (.cons R R (.cons R R (.cons R R (.cons R R (.cons R R (.cons R R (.cons R R .nil))))))) R),?_⟩
    with_reducible apply B3t
    refine A0u (rU 2 R (T7 (I8 (A1K R (A2O (A3G (I8 (A1h (A0u (rU 2 R (T7 (I8 ?_))))))))))))
    exact bk ⟨(W (x+1)),h,R,R⟩ (.vw (κ:=[0,1,2,3,4,5]) (vK (.cons R R (.cons R R (.cons R R (.cons R R (.cons R R (.cons R R .nil)))))) R))
   refine hU 4 R (I4 (y:=aI c.A4) tb (U5 (g:=E6.d) (R:P3 [c] 0=some c)) R (rU 1 R ?_))
   obtain⟨e3,ie3,h⟩:=H1 h
   refine yE ie3 R R ?_
   refine V5 R R R R (nJ h ?_) (tJ h ?_)
   ·intro h
    refine rU 5 R (I4 (y := .arr 6 ((c.O4).map D1.d)) tb (U5 (g:=E6.d) (R:P3 [c] 0=some c)) R (rU 1 R ?_))
    obtain⟨e4,ie4,h⟩:=H1 h
    refine xE ie4 R (rU 1 R (lE ie4 R (A3E R R R R ?_)))
    obtain⟨rv2,k2,h⟩:=H1 h
    refine A0t (R5 (f:=(fun a0=>A0N F a0 c person)) (fc:=[.el 1 [.el 13 (([c]).map E6.d) ((0:Int)).toNat 0] 0 0,.el 1 [vI person] 0 0]) (fh:=fun hr=>A7G hr) (fe := .of kR) k2) R .nil eK R R ((.cons (.d (.d _)) (.cons (.fnC (.cons (.d (.ref R (.d _))) (.cons (.d (.ref R (.d _))) .nil))) .nil))) R .nil R R R ?_
    simp only[List.map_nil,List.append_nil]
    refine X8 (tI h ?_) (fI h ?_)
    ·intro c6 h
     refine nU 2 R ?_
     exact .inl ⟨(),h,.prn [6,37] R⟩
    intro c6 h
    refine nU 2 R (.inr (C0 R (gY 1 R (C9 (C4 ?_)))))
    refine⟨[c1 (.el 13 (([c]).map E6.d) ((0:Int)).toNat 0),c1 (vI person),c1 (vB false),c1 (vI rv.1),bx 7 (.d (D5.d rv.2)),bx 4 (.d (.agg [vI e.L5,vI e.L4,vI e.L7,vI e.L6])),bx 6 (.d (D1.d e2))],[0,1,2,3,4,5,6],(vK (.cons R R (.cons R R (.cons R R (.cons R R (.cons R R (.cons R R (.cons R R .nil))))))) R),?_⟩
    with_reducible apply B8w
    refine A0u (rU 2 R (T7 (I8 (A3R R (A9v (A6S (A4F (A4F (A6S ?_)))))))))
    refine⟨R,[c1 (.el 13 (([c]).map E6.d) ((0:Int)).toNat 0),c1 (vI person),c1 (vB false),c1 (vI rv.1),bx 7 (.d (D5.d rv.2))],[0,1,2,3,4],(vK (.cons R R (.cons R R (.cons R R (.cons R R (.cons R R .nil))))) R),?_⟩
    cases h
    exact f0 R R R (.cons (rc tb R) .nil)
   intro h
   refine nU 14 R ?_
   exact .inl ⟨(),h,.prn [6,37] R⟩
  intro h
  refine rU 6 R (T7 (I8 (A1K R (A2O (A3G (I8 (A1h (A0u (rU 2 R (T7 (I8 ?_)))))))))))
  exact bk ⟨(W (x+1)),h,R,R⟩ (.vw (κ:=[0,1,2,3,4,5]) (vK (.cons R R (.cons R R (.cons R R (.cons R R (.cons R R (.cons R R .nil)))))) R))
 intro h
 refine T7 (I8 (U7 (A1K R (B13 (A4E (A4E ?_))))))
 subst hK4
 refine A76 ?_
 refine⟨R,[c1 (.el 13 (([c]).map E6.d) ((0:Int)).toNat 0),c1 (vI person),c1 (vB false),c1 (vI rv.1),bx 7 (.d (D5.d rv.2))],[0,1,2,3,4],(vK (.cons R R (.cons R R (.cons R R (.cons R R (.cons R R .nil))))) R),?_⟩
 refine W3 fun df=>?_
 refine gY 1 R (C9 ?_)
 cases h
 exact f0 R R R (.cons (rc tb R) .nil)
def A0f (F:Nat) (c:E6) (zone:Int):Option Bool:=if 0≤zone then((P3 c.O0 zone).bind fun e=>if e.pair=true then((A03 F c zone).bind fun rv=>some (decide (rv=1)))else(some false))else(some false)
theorem A3B {F c zone r} (h:A0f F c zone=some r):PC Tryz.prog 151 [.el 13 (([c]).map E6.d) ((0:Int)).toNat 0,vI zone] (vB r):=by
 rw[A0f]at h
 refine oW Tryz.func151 ?_
 refine gY 1 R (gU 1 R ?_)
 refine A7I R R R R (tJ h ?_) (mJ h ?_)
 ·intro h
  refine rU 5 R (I4 (y := .arr 8 ((c.O0).map F6.d)) tb (U5 (g:=E6.d) (R:P3 [c] 0=some c)) R (rU 1 R ?_))
  obtain⟨e,ie,h⟩:=H1 h
  refine xE ie R (rU 1 R (lE ie R ?_))
  refine X8 (tI h ?_) (fI h ?_)
  ·intro c3 h
   refine rU 4 R ?_
   obtain⟨rv,k,h⟩:=H1 h
   refine J5 (A3C k) eK R R R R (A3s R R R R (eU 2 R (C9 ?_)))
   cases h
   exact f1 4 R
  intro c3 h
  refine eU 8 R (C9 ?_)
  cases h
  exact f1 4 R
 intro h
 refine eU 18 R (C9 ?_)
 cases h
 exact f1 4 R
def A12 (F:Nat) (B6:Int→Option Bool) (x2:Int):Option Bool:=B6 (W (x2+1))
def R1 (F:Nat):Option Bool:=some false
def A13 (F:Nat) (B9:Int→Option Bool) (x3:Int):Option Bool:=B9 (W (x3+1))
def S6 (F:Nat) (t:E6) (K:Int→Option Bool):Nat→Int→Option Bool
 | 0,_=>none
 | n+1,x3=>if x3<(t.A4.length:Int)then((P3 t.A4 x3).bind fun e5=>if e5=1 then((A11 F t x3).bind fun rv5=>if 0<(rv5.length:Int)then(R1 F)else(if t.I3<0 then(R1 F)else(if t.I1=true then(R1 F)else(A13 F (S6 F t K n) x3))))else(A13 F (S6 F t K n) x3))else(K x3)
def S7 (F:Nat) (t:E6) (K:Int→Option Bool):Nat→Int→Option Bool
 | 0,_=>none
 | n+1,x2=>if x2<(t.A9.length:Int)then((P3 t.A9 x2).bind fun e2=>if 0≤e2 then((P3 t.O3 x2).bind fun e3=>(P3 t.O0 e2).bind fun e4=>if e3.grade<e4.grade then(R1 F)else((A0g F t x2 e2).bind fun rv3=>if rv3=true then(A12 F (S7 F t K n) x2)else(R1 F)))else((A0g F t x2 e2).bind fun rv4=>if rv4=true then(A12 F (S7 F t K n) x2)else(R1 F)))else(K x2)
def V9 (F:Nat) (t:E6) (K:Int→Option Bool):Nat→Int→Option Bool
 | 0,_=>none
 | n+1,x=>if x<(t.O0.length:Int)then((P3 t.O0 x).bind fun e=>(A03 F t x).bind fun rv=>if e.room<rv then(some false)else((A0f F t x).bind fun rv2=>if rv2=true then(some false)else(V9 F t K n (W (x+1)))))else(K x)
def A2L (F:Nat) (t:E6):Option Bool:=V9 F t (fun x=>S7 F t (fun x2=>S6 F t (fun x3=>some true) F 0) F 0) F 0
theorem A8C {F t r} (h:A2L F t=some r):PC Tryz.prog 77 [.el 13 (([t]).map E6.d) ((0:Int)).toNat 0] (vB r):=by
 rw[A2L]at h
 refine oW Tryz.func77 ?_
 refine gY 1 R (B8 (gU 4 R (I4 (y := .arr 8 ((t.O0).map F6.d)) tb (U5 (g:=E6.d) (R:P3 [t] 0=some t)) R (I7 tb R (eU 1 R (E3 ?_))))))
 obtain⟨K3,hK3,h⟩:∃ K,K=_∧V9 F t K F 0=some r:=⟨_,rfl,h⟩
 refine lW (fun m st=>∃ (x:Int),V9 F t K3 m x=some r∧st=⟨[(0,.d (.el 13 (([t]).map E6.d) ((0:Int)).toNat 0)),(2,dB false),(13,.d (.arr 8 ((t.O0).map F6.d))),(14,dI (t.O0.length:Int)),(15,dI x)],[]⟩) ⟨0,h,R⟩ (.prn [0,2,13,14,15] R) ?_
 clear h
 rintro m3 st ⟨x,h,rfl⟩
 cases m3 with
 | zero=>cases(show(none:Option Bool)=some r from h)
 | succ m3 =>
 rw[V9]at h
 refine qG ?_
 refine Q4 R R R R (tJ h ?_) (lJ h ?_)
 ·intro h
  refine Y9 (B8 (zT (B8 (E3 (gU 1 R ?_)))))
  obtain⟨e,ie,h⟩:=H1 h
  refine yE ie R R (eU 3 R (B8 (T1 kR (rU 2 R ?_))))
  obtain⟨rv,k,h⟩:=H1 h
  refine J5 (A3C k) eK R R R R (rU 2 R ?_)
  refine A4l R R R R (tJ h ?_) (lJ h ?_)
  ·intro h
   refine rU 5 R (I0 kR (C0 R (gY 1 R (C9 ?_))))
   cases h
   exact f1 2 R
  intro h
  refine rU 3 R ?_
  obtain⟨rv2,k2,h⟩:=H1 h
  refine M6 (A3B k2) eK R R R R (tI h ?_) (fI h ?_)
  ·intro c3 h
   refine rU 1 R (I0 kR (C0 R (gY 1 R (C9 ?_))))
   cases h
   exact f1 2 R
  intro c3 h
  refine rU 1 R (I0 kR (zF (hN 2 R ?_)))
  exact bk ⟨(W (x+1)),h,R⟩ (.vw (κ:=[]) (v0 R))
 intro h
 refine Y9 (B8 (C1 R (N5 (E4 (E4 ?_)))))
 subst hK3
 refine B8 (gU 4 R (I4 (y:=aI t.A9) tb (U5 (g:=E6.d) (R:P3 [t] 0=some t)) R (I7 tb R (eU 1 R (E3 ?_)))))
 obtain⟨K6,hK6,h⟩:∃ K,K=_∧S7 F t K F 0=some r:=⟨_,rfl,h⟩
 refine lW (fun m st=>∃ (x2:Int),S7 F t K6 m x2=some r∧st=⟨[(0,.d (.el 13 (([t]).map E6.d) ((0:Int)).toNat 0)),(2,dB false),(36,.d (aI t.A9)),(37,dI (t.A9.length:Int)),(38,dI x2)],[]⟩) ⟨0,h,R⟩ (.prn [0,2,36,37,38] R) ?_
 clear h
 rintro m6 st ⟨x2,h,rfl⟩
 cases m6 with
 | zero=>cases(show(none:Option Bool)=some r from h)
 | succ m6 =>
 rw[S7]at h
 refine qG ?_
 refine Q4 R R R R (tJ h ?_) (lJ h ?_)
 ·intro h
  refine Y9 (B8 (zT (B8 ?_)))
  refine W5 (fun zz:Unit=>A12 F (S7 F t K6 m6) x2=some r) (fun zz:Unit=>⟨[(0,.d (.el 13 (([t]).map E6.d) ((0:Int)).toNat 0)),(2,dB false),(36,.d (aI t.A9)),(37,dI (t.A9.length:Int)),(38,dI x2)],[]⟩) ?_ ?_
  ·clear h
   rintro⟨⟩ h
   rw[A12]at h
   refine hN 2 R ?_
   exact bk ⟨(W (x2+1)),h,R⟩ (.prn [0,2,36,37,38] R)
  refine E3 (gU 1 R ?_)
  obtain⟨e2,ie2,h⟩:=H1 h
  refine yE ie2 R R (eU 2 R (B8 ?_))
  refine W5 (fun zz:Unit=>R1 F=some r) (fun zz:Unit=>⟨[(0,.d (.el 13 (([t]).map E6.d) ((0:Int)).toNat 0)),(2,dB false),(36,.d (aI t.A9)),(37,dI (t.A9.length:Int)),(38,dI x2),(72,dB true)],[]⟩) ?_ ?_
  ·clear h
   rintro⟨⟩ h
   rw[R1]at h
   refine C0 R (gY 1 R (C9 ?_))
   cases h
   exact f1 2 R
  refine T1 kR (rU 1 R ?_)
  refine A7I R R R R (tJ h ?_) (mJ h ?_)
  ·intro h
   refine rU 5 R (I4 (y := .arr 2 ((t.O3).map E2.d)) tb (U5 (g:=E6.d) (R:P3 [t] 0=some t)) R (rU 1 R ?_))
   obtain⟨e3,ie3,h⟩:=H1 h
   refine xE ie3 R (rU 1 R (lE ie3 R (rU 4 R (I4 (y := .arr 8 ((t.O0).map F6.d)) tb (U5 (g:=E6.d) (R:P3 [t] 0=some t)) R (rU 1 R ?_)))))
   obtain⟨e4,ie4,h⟩:=H1 h
   refine xE ie4 R (rU 1 R (lE ie4 R ?_))
   refine Q4 R R R R (tJ h ?_) (lJ h ?_)
   ·intro h
    refine rU 8 R (I0 kR (A6 ?_))
    exact .inl ⟨(),h,.prn [0,2,36,37,38,72] R⟩
   intro h
   refine rU 5 R ?_
   obtain⟨rv3,k3,h⟩:=H1 h
   refine M6 (A27 k3) eK R R R R (tI h ?_) (fI h ?_)
   ·intro c7 h
    refine rU 2 R (I0 kR (A6 (.inr (zF (D3 (A6 ?_))))))
    exact .inl ⟨(),h,.prn [0,2,36,37,38] R⟩
   intro c7 h
   refine rU 2 R (I0 kR (A6 ?_))
   exact .inl ⟨(),h,.prn [0,2,36,37,38,72] R⟩
  intro h
  refine rU 25 R ?_
  obtain⟨rv4,k4,h⟩:=H1 h
  refine M6 (A27 k4) eK R R R R (tI h ?_) (fI h ?_)
  ·intro c8 h
   refine rU 2 R (I0 kR (A6 (.inr (zF (D3 (A6 ?_))))))
   exact .inl ⟨(),h,.prn [0,2,36,37,38] R⟩
  intro c8 h
  refine rU 2 R (I0 kR (A6 ?_))
  exact .inl ⟨(),h,.prn [0,2,36,37,38,72] R⟩
 intro h
 refine Y9 (B8 (C1 R (N5 (E4 (E4 ?_)))))
 subst hK6
 refine B8 (gU 4 R (I4 (y:=aI t.A4) tb (U5 (g:=E6.d) (R:P3 [t] 0=some t)) R (I7 tb R (eU 1 R (E3 ?_)))))
 obtain⟨K9,hK9,h⟩:∃ K,K=_∧S6 F t K F 0=some r:=⟨_,rfl,h⟩
 refine lW (fun m st=>∃ (x3:Int),S6 F t K9 m x3=some r∧st=⟨[(0,.d (.el 13 (([t]).map E6.d) ((0:Int)).toNat 0)),(2,dB false),(78,.d (aI t.A4)),(79,dI (t.A4.length:Int)),(80,dI x3)],[]⟩) ⟨0,h,R⟩ (.prn [0,2,78,79,80] R) ?_
 clear h
 rintro m9 st ⟨x3,h,rfl⟩
 cases m9 with
 | zero=>cases(show(none:Option Bool)=some r from h)
 | succ m9 =>
 rw[S6]at h
 refine qG ?_
 refine Q4 R R R R (tJ h ?_) (lJ h ?_)
 ·intro h
  refine Y9 (B8 (zT (B8 ?_)))
  refine W5 (fun zz:Unit=>A13 F (S6 F t K9 m9) x3=some r) (fun zz:Unit=>⟨[(0,.d (.el 13 (([t]).map E6.d) ((0:Int)).toNat 0)),(2,dB false),(78,.d (aI t.A4)),(79,dI (t.A4.length:Int)),(80,dI x3)],[]⟩) ?_ ?_
  ·clear h
   rintro⟨⟩ h
   rw[A13]at h
   refine hN 2 R ?_
   exact bk ⟨(W (x3+1)),h,R⟩ (.prn [0,2,78,79,80] R)
  refine E3 (gU 1 R ?_)
  obtain⟨e5,ie5,h⟩:=H1 h
  refine yE ie5 R R (eU 2 R (B8 ?_))
  refine W5 (fun zz:Unit=>R1 F=some r) (fun zz:Unit=>⟨[(0,.d (.el 13 (([t]).map E6.d) ((0:Int)).toNat 0)),(2,dB false),(78,.d (aI t.A4)),(79,dI (t.A4.length:Int)),(80,dI x3),(108,dB true)],[]⟩) ?_ ?_
  ·clear h
   rintro⟨⟩ h
   rw[R1]at h
   refine C0 R (gY 1 R (C9 ?_))
   cases h
   exact f1 2 R
  refine hU 1 R ?_
  refine Z3 R R R R (tJ h ?_) (nJ h ?_)
  ·intro h
   refine rU 3 R ?_
   obtain⟨rv5,k5,h⟩:=H1 h
   refine A2X (A3D k5) eK R R R ((.row .nil)) R R R (A8F tb R R R R R ?_)
   refine A4l R R R R (tJ h ?_) (lJ h ?_)
   ·intro h
    refine nU 16 R ?_
    exact .inl ⟨(),h,.vw (κ:=[]) (v0 R)⟩
   intro h
   refine rU 5 R (I4 (y:=vI t.I3) tb (U5 (g:=E6.d) (R:P3 [t] 0=some t)) R ?_)
   refine Q4 R R R R (tJ h ?_) (lJ h ?_)
   ·intro h
    refine nU 9 R ?_
    exact .inl ⟨(),h,.vw (κ:=[]) (v0 R)⟩
   intro h
   refine rU 6 R (I4 (y:=vB t.I1) tb (U5 (g:=E6.d) (R:P3 [t] 0=some t)) R ?_)
   refine X8 (tI h ?_) (fI h ?_)
   ·intro c13 h
    refine nU 2 R ?_
    exact .inl ⟨(),h,.vw (κ:=[]) (v0 R)⟩
   intro c13 h
   refine nU 2 R (.inr (zF (D3 (A6 ?_))))
   exact .inl ⟨(),h,.vw (κ:=[]) (v0 R)⟩
  intro h
  refine nU 22 R (.inr (zF (D3 (A6 ?_))))
  exact .inl ⟨(),h,.vw (κ:=[]) (v0 R)⟩
 intro h
 refine Y9 (B8 (C1 R (N5 (E4 (E4 ?_)))))
 subst hK9
 refine gY 1 R (C9 ?_)
 cases h
 exact f1 2 R
def S8 (F:Nat) (c:E6) (who:Int):Option (Except Int E6):=(P3 c.A9 who).bind fun e=>(J4 F (decide (e=c.X3)) 171).bind fun rv=>exE rv (fun x=>some (.error x)) (fun v=>some (.ok c))
theorem M8 {F c who r} (h:S8 F c who=some r):SCX Tryz.prog 220 [rf 0 13,dI who] (B8A c []) r 43 (fun(a:E6) => .d (.tup [])) (fun(a:E6)=>(B8A a [])):=by
 rw[S8]at h
 refine oW Tryz.func220 ?_
 refine A0V kR (rU 6 R ?_)
 obtain⟨e,ie,h⟩:=H1 h
 refine Y1 tb R R R R R R (F0 ie) (ix1 ie) R R ?_
 refine A15 (y:=vI e) tb R R R R (U5 (g:=fun a=>T.d (vI a)) ie) R R R R ?_
 refine rU 5 R (A3s R R R R ?_)
 obtain⟨rv,k,h⟩:=H1 h
 rcases eX h with⟨x,nv,h⟩ | ⟨v,nv,h⟩
 ·refine P0 kR kR (H8 [] ((E1 k).err nv) R eK R (.inl ⟨R,R,R⟩) R R R R .nil R ?_)
  intro cnt
  cases h
  exact M3 (L:=B8A c []) (κ:=[0,1,2,3]) (vK (.cons R R C1o) R) (.inr ⟨_,R,R⟩)
 refine cO [] ((E1 k).ok nv) eK .nil R .nil .nil R (N0 kR ?_)
 cases h
 exact A1R (fS [0,1,2,3] (.inl ⟨_,R,R,R⟩) R .nil (vK (.cons R R C1o) R))
def A1y (F:Nat) (B3:Int→Option Bool) (x:Int):Option Bool:=B3 (W (x+1))
def U2 (F:Nat) (c:E6) (so:(D1→Option Bool)) (K:Int→Option Bool):Nat→Int→Option Bool
 | 0,_=>none
 | n+1,x=>if x<(c.A4.length:Int)then((P3 c.A4 x).bind fun e=>if e=1 then((P3 c.O4 x).bind fun e2=>(so e2).bind fun rv=>if rv=true then(some true)else(A1y F (U2 F c so K n) x))else(A1y F (U2 F c so K n) x))else(K x)
def A2J (F:Nat) (c:E6) (so:(D1→Option Bool)):Option Bool:=U2 F c so (fun x=>some false) F 0
theorem A5t {F:Nat} {c:E6} {so:(D1→Option Bool)} {r:Bool} {soi:Nat} {soc:List D} (soh:∀ {a0:D1} {r:Bool},so a0=some r→PC Tryz.prog soi ([D1.d a0]++soc) (.v (.bool r))) (soe:Ent Tryz.prog soi) (h:A2J F c so=some r):SCR Tryz.prog 221 [.d (.el 13 (([c]).map E6.d) ((0:Int)).toNat 0),.fn (.func soi) [] (soc.map .d)] [] (dB r) (List.map some []):=by
 rw[A2J]at h
 refine oW Tryz.func221 ?_
 refine gY 1 R (B8 (gU 4 R (I4 (y:=aI c.A4) tb (U5 (g:=E6.d) (R:P3 [c] 0=some c)) R (I7 tb R (eU 1 R (E3 ?_))))))
 obtain⟨K3,hK3,h⟩:∃ K,K=_∧U2 F c so K F 0=some r:=⟨_,rfl,h⟩
 refine lW (fun m st=>∃ (x:Int),U2 F c so K3 m x=some r∧st=⟨[(0,.d (.el 13 (([c]).map E6.d) ((0:Int)).toNat 0)),(1,.fn (.func soi) [] (soc.map .d)),(4,dB false),(11,.d (aI c.A4)),(12,dI (c.A4.length:Int)),(13,dI x)],[]⟩) ⟨0,h,R⟩ (.prn [0,1,4,11,12,13] R) ?_
 clear h
 rintro m3 st ⟨x,h,rfl⟩
 cases m3 with
 | zero=>cases(show(none:Option Bool)=some r from h)
 | succ m3 =>
 rw[U2]at h
 refine qG ?_
 refine Q4 R R R R (tJ h ?_) (lJ h ?_)
 ·intro h
  refine Y9 (B8 (zT (B8 ?_)))
  refine W5 (fun zz:Unit=>A1y F (U2 F c so K3 m3) x=some r) (fun zz:Unit=>⟨[(0,.d (.el 13 (([c]).map E6.d) ((0:Int)).toNat 0)),(1,.fn (.func soi) [] (soc.map .d)),(4,dB false),(11,.d (aI c.A4)),(12,dI (c.A4.length:Int)),(13,dI x)],[]⟩) ?_ ?_
  ·clear h
   rintro⟨⟩ h
   rw[A1y]at h
   refine hN 2 R ?_
   exact bk ⟨(W (x+1)),h,R⟩ (.prn [0,1,4,11,12,13] R)
  refine E3 (gU 1 R ?_)
  obtain⟨e,ie,h⟩:=H1 h
  refine yE ie R R (eU 2 R (gU 1 R ?_))
  refine Z3 R R R R (tJ h ?_) (nJ h ?_)
  ·intro h
   refine rU 6 R (I4 (y := .arr 6 ((c.O4).map D1.d)) tb (U5 (g:=E6.d) (R:P3 [c] 0=some c)) R (rU 1 R ?_))
   obtain⟨e2,ie2,h⟩:=H1 h
   refine yE ie2 R R ?_
   obtain⟨rv,k,h⟩:=H1 h
   refine A2W (vs:=[D1.d e2]) (soh k) soe R R R R ?_
   refine X8 (tI h ?_) (fI h ?_)
   ·intro c4 h
    refine eU 1 R (C0 R (gY 1 R (C9 ?_)))
    cases h
    exact f1 4 R
   intro c4 h
   refine eU 1 R (zF (D3 (A6 ?_)))
   exact .inl ⟨(),h,.prn [0,1,4,11,12,13] R⟩
  intro h
  refine eU 12 R (zF (D3 (A6 ?_)))
  exact .inl ⟨(),h,.prn [0,1,4,11,12,13] R⟩
 intro h
 refine Y9 (B8 (C1 R (N5 (E4 (E4 ?_)))))
 subst hK3
 refine gY 1 R (C9 ?_)
 cases h
 exact f1 4 R
def T0 (F:Nat) (s:(List Int)) (v:Int) (K:Int→Option Int):Nat→Int→Option Int
 | 0,_=>none
 | n+1,x=>if x<(s.length:Int)then((P3 s x).bind fun e=>if v=e then(some x)else(T0 F s v K n (W (x+1))))else(K x)
def A2x (F:Nat) (s:(List Int)) (v:Int):Option Int:=T0 F s v (fun x=>some (-1)) F 0
theorem A8n {F s v r} (h:A2x F s v=some r):PC Tryz.prog 214 [aI s,vI v] (vI r):=by
 rw[A2x]at h
 refine oW Tryz.func214 ?_
 refine gY 1 R (B8 (gU 1 R (I7 tb R (eU 1 R (E3 ?_)))))
 obtain⟨K2,hK2,h⟩:∃ K,K=_∧T0 F s v K F 0=some r:=⟨_,rfl,h⟩
 refine lW (fun m st=>∃ (x:Int),T0 F s v K2 m x=some r∧st=⟨[(0,.d (aI s)),(1,dI v),(4,dI 0),(7,dI (s.length:Int)),(8,dI x)],[]⟩) ⟨0,h,R⟩ (.prn [0,1,4,7,8] R) ?_
 clear h
 rintro m2 st ⟨x,h,rfl⟩
 cases m2 with
 | zero=>cases(show(none:Option Int)=some r from h)
 | succ m2 =>
 rw[T0]at h
 refine qG ?_
 refine Q4 R R R R (tJ h ?_) (lJ h ?_)
 ·intro h
  refine Y9 (B8 (zT (B8 (E3 (gY 2 R (gU 3 R ?_))))))
  obtain⟨e,ie,h⟩:=H1 h
  refine yE ie R R ?_
  refine Z3 R R R R (tJ h ?_) (nJ h ?_)
  ·intro h
   refine Y9 (C0 R (gY 2 R (C9 ?_)))
   cases h
   exact f1 4 R
  intro h
  refine Y9 (zF (hN 2 R ?_))
  exact bk ⟨(W (x+1)),h,R⟩ (.prn [0,1,4,7,8] R)
 intro h
 refine Y9 (B8 (C1 R (N5 (E4 (E4 ?_)))))
 subst hK2
 refine gY 1 R (C9 ?_)
 cases h
 exact f1 4 R
def S9 (F:Nat) (s:(List Int)) (v:Int):Option Bool:=(A2x F s v).bind fun rv=>some (decide (0≤rv))
theorem A1g {F s v r} (h:S9 F s v=some r):PC Tryz.prog 175 [aI s,vI v] (vB r):=by
 rw[S9]at h
 refine oW Tryz.func175 ?_
 refine gY 1 R (gU 2 R ?_)
 obtain⟨rv,k,h⟩:=H1 h
 refine J5 (A8n k) eK R R R R (A3k R R R R (eU 1 R (C9 ?_)))
 cases h
 exact f1 4 R
def W0 (F:Nat) (s:(List G6)) (v:G6) (K:Int→Option Int):Nat→Int→Option Int
 | 0,_=>none
 | n+1,x=>if x<(s.length:Int)then((P3 s x).bind fun e=>if(G6.beq v e)=true then(some x)else(W0 F s v K n (W (x+1))))else(K x)
def A2k (F:Nat) (s:(List G6)) (v:G6):Option Int:=W0 F s v (fun x=>some (-1)) F 0
theorem A7o {F s v r} (h:A2k F s v=some r):PC Tryz.prog 232 [.arr 2 ((s).map G6.d),G6.d v] (vI r):=by
 rw[A2k]at h
 refine oW Tryz.func232 ?_
 refine gY 2 R (B8 (gU 1 R (I7 tb R (eU 1 R (E3 ?_)))))
 obtain⟨K2,hK2,h⟩:∃ K,K=_∧W0 F s v K F 0=some r:=⟨_,rfl,h⟩
 refine lW (fun m st=>∃ (x:Int),W0 F s v K2 m x=some r∧st=⟨[(0,.d (.arr 2 ((s).map G6.d))),(3,rf 0 2),(4,dI 0),(7,dI (s.length:Int)),(8,dI x)],[bx 2 (.d (G6.d v))]⟩) ⟨0,h,R⟩ (.prn [0,3,4,7,8] R) ?_
 clear h
 rintro m2 st ⟨x,h,rfl⟩
 cases m2 with
 | zero=>cases(show(none:Option Int)=some r from h)
 | succ m2 =>
 rw[W0]at h
 refine qG ?_
 refine Q4 R R R R (tJ h ?_) (lJ h ?_)
 ·intro h
  refine Y9 (B8 (zT (B8 (E3 (gY 2 R (B8 (T1 kR (rU 3 R ?_))))))))
  obtain⟨e,ie,h⟩:=H1 h
  refine yE ie R R ?_
  refine B9W (p:=[.int .i64 v.a,.int .i64 v.b]) (q:=[.int .i64 e.a,.int .i64 e.b]) R R (fun o1 o2 w=>C0z v e o1 o2 w) R R ?_
  refine X8 (tI h ?_) (fI h ?_)
  ·intro c2 h
   refine I0 kR (C0 R (gY 2 R (C9 ?_)))
   cases h
   exact f1 4 R
  intro c2 h
  refine I0 kR (zF (hN 2 R ?_))
  exact bk ⟨(W (x+1)),h,R⟩ (.prn [0,3,4,7,8] R)
 intro h
 refine Y9 (B8 (C1 R (N5 (E4 (E4 ?_)))))
 subst hK2
 refine gY 1 R (C9 ?_)
 cases h
 exact f1 4 R
def Z1 (F:Nat) (s:(List G6)) (v:G6):Option Bool:=(A2k F s v).bind fun rv=>some (decide (0≤rv))
theorem A3q {F s v r} (h:Z1 F s v=some r):PC Tryz.prog 219 [.arr 2 ((s).map G6.d),G6.d v] (vB r):=by
 rw[Z1]at h
 refine oW Tryz.func219 ?_
 refine gY 2 R (gU 2 R ?_)
 obtain⟨rv,k,h⟩:=H1 h
 refine J5 (A7o k) eK R R R R (A3k R R R R (eU 1 R (C9 ?_)))
 cases h
 exact f1 4 R
end Go.Proofs.YtlaogbbcipebgaaGreat
