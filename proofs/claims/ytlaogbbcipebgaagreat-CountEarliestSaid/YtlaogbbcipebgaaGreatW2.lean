/- What functions of the program compute: plain functions, and the proofs. -/
import Derived.Test.YtlaogbbcipebgaaGreatW1
set_option linter.unusedVariables false
set_option linter.unusedSimpArgs false
open Array renaming replicate→bt
open ByteArray renaming mk→ai
open Go renaming Operand→aa
open List renaming map→ao,map_nil→bb,append_nil→aH,set_cons_zero→au,set_cons_succ→av,cons_append→dO,nil_append→cf,replicate→ak
open Nat renaming zero_add→aZ,reduceAdd→eo
open Option renaming eq_none_or_eq_some→bB
open Go Go.Proofs.YtlaogbbcipebgaaGreat.Sh Go.Proofs
namespace Go.Proofs.YtlaogbbcipebgaaGreat
open Go.Proofs.Tryz renaming prog → pg
set_option maxRecDepth 100000
set_option maxHeartbeats 40000000
def A23 (F:Nat) (t:D5) (o:D2):Option Int:=(A0L F o.with_ (t.people.length:Int)).bind fun rv8=>if rv8=true then(some 4)else(if o.with_=o.who then(some 2)else(some 0))
def B5j (F:Nat) (t:D5) (o:D2):Option Int:=(A0L F o.what (t.squibs.length:Int)).bind fun rv6=>if rv6=true then(some 4)else(A23 F t o)
def A45 (F:Nat) (t:D5) (o:D2):Option Int:=(A0L F o.what (t.keys.length:Int)).bind fun rv5=>if rv5=true then(some 4)else(A23 F t o)
def A46 (F:Nat) (t:D5) (o:D2):Option Int:=(A0L F o.what (t.squibs.length:Int)).bind fun rv5=>if rv5=true then(some 4)else(A23 F t o)
def A24 (F:Nat) (o:D2):Option Int:=if o.with_=(-1)then(some 0)else(some 2)
def B5k (F:Nat) (t:D5) (o:D2):Option Int:=(A0L F o.what (t.squibs.length:Int)).bind fun rv14=>if rv14=true then(some 4)else(A24 F o)
def A47 (F:Nat) (t:D5) (o:D2):Option Int:=(A0L F o.what (t.keys.length:Int)).bind fun rv13=>if rv13=true then(some 4)else(A24 F o)
def A48 (F:Nat) (t:D5) (o:D2):Option Int:=(A0L F o.what (t.squibs.length:Int)).bind fun rv13=>if rv13=true then(some 4)else(A24 F o)
def A5N (F:Nat) (t:D5) (o:D2):Option Int:=(A0m F o.at_ 0 100000).bind fun rv=>if rv=true then(some 7)else((A0m F o.kind 1 9).bind fun rv2=>if rv2=true then(some 2)else((A0L F o.who (t.people.length:Int)).bind fun rv3=>if rv3=true then(some 4)else(if o.kind=1 then(if o.what=(-1)then(A23 F t o)else((A0L F o.what (t.zones.length:Int)).bind fun rv4=>if rv4=true then(some 4)else(A23 F t o)))else(if o.kind=2 then(A45 F t o)else(if o.kind=3 then(A45 F t o)else(if o.kind=4 then(A45 F t o)else(if o.kind=5 then(A46 F t o)else(if o.kind=6 then(A46 F t o)else(if o.kind=7 then(A46 F t o)else((A0m F o.what 0 1).bind fun rv5=>if rv5=true then(some 2)else(A23 F t o)))))))))))
def A4V (F:Nat) (t:D5) (o:D2):Option Int:=(A0m F o.at_ 0 100000).bind fun rv9=>if rv9=true then(some 7)else((A0m F o.kind 1 9).bind fun rv10=>if rv10=true then(some 2)else((A0L F o.who (t.people.length:Int)).bind fun rv11=>if rv11=true then(some 4)else(if o.kind=1 then(if o.what=(-1)then(A24 F o)else((A0L F o.what (t.zones.length:Int)).bind fun rv12=>if rv12=true then(some 4)else(A24 F o)))else(if o.kind=2 then(A47 F t o)else(if o.kind=3 then(A47 F t o)else(if o.kind=4 then(A47 F t o)else(if o.kind=5 then(A48 F t o)else(if o.kind=6 then(A48 F t o)else(if o.kind=7 then(A48 F t o)else((A0m F o.what 0 1).bind fun rv13=>if rv13=true then(some 2)else(A24 F o)))))))))))
def A9k (F:Nat) (t:D5) (o:D2):Option Int:=if o.kind=4 then(A5N F t o)else(if o.kind=1 then(if o.with_=(-1)then(A4V F t o)else(A5N F t o))else(A4V F t o))
theorem B5m {F t o r} (h:A9k F t o=some r):PC pg 78 [D5.d t,D2.d o] (vI r):=by
 rw[A9k]at h;refine oW Tryz.func78 ?_;refine gY 3 R (gY 1 R (B8 ?_));refine W5 (Sum.elim (fun zz:Unit=>A5N F t o=some r) (fun zz:Unit=>A4V F t o=some r)) (Sum.elim (fun zz:Unit=>⟨[(2,rf 0 7),(3,rf 1 5),(4,dI 0),(5,.d (.v (.func (.func 154) #[] #[]))),(6,dB true)],[bx 7 (.d (D5.d t)),bx 5 (.d (D2.d o))]⟩) (fun zz:Unit=>⟨[(2,rf 0 7),(3,rf 1 5),(4,dI 0),(5,.d (.v (.func (.func 154) #[] #[]))),(6,dB false)],[bx 7 (.d (D5.d t)),bx 5 (.d (D2.d o))]⟩)) ?_ ?_
 ·clear h;rintro(⟨⟩ | ⟨⟩) h
  ·dsimp only[Sum.elim]at h ⊢;rw[A5N]at h;refine B8 (E3 (gU 2 R ?_));obtain⟨rv,k,h⟩:=H1 h;refine M6 (V2 k) eK R R R R (tI h ?_) (fI h ?_)
   ·intro c4 h;refine eU 1 R (cY 1 R ?_);cases h;exact f1 4 R
   intro c4 h;refine eU 1 R (C1 R (gU 2 R ?_));obtain⟨rv2,k2,h⟩:=H1 h;refine M6 (V2 k2) eK R R R R (tI h ?_) (fI h ?_)
   ·intro c5 h;refine eU 1 R (cY 1 R ?_);cases h;exact f1 4 R
   intro c5 h;refine eU 1 R (C1 R (gU 5 R (I7 tb R ?_)));obtain⟨rv3,k3,h⟩:=H1 h;refine M6 (A1f k3) eK R R R R (tI h ?_) (fI h ?_)
   ·intro c6 h;refine eU 1 R (cY 1 R ?_);cases h;exact f1 4 R
   intro c6 h;refine eU 1 R (zF (B8 ?_));refine W5 (fun zz:Unit=>A23 F t o=some r) (fun zz:Unit=>⟨[(2,rf 0 7),(3,rf 1 5),(4,dI 0),(5,.d (.v (.func (.func 154) #[] #[]))),(6,dB true)],[bx 7 (.d (D5.d t)),bx 5 (.d (D2.d o))]⟩) ?_ ?_
   ·clear h;rintro⟨⟩ h;rw[A23]at h;refine B8 (E3 (gY 8 R (C1 R (gU 7 R (I7 tb R ?_)))));obtain⟨rv8,k8,h⟩:=H1 h;refine M6 (A1f k8) eK R R R R (tI h ?_) (fI h ?_)
    ·intro c19 h;refine eU 2 R (cY 1 R ?_);cases h;exact f1 4 R
    intro c19 h;refine eU 2 R (C1 R (gU 6 R ?_));refine Z3 R R R R (tJ h ?_) (nJ h ?_)
    ·intro h;refine eU 2 R (cY 1 R ?_);cases h;exact f1 4 R
    intro h;refine eU 2 R (zF (rY 1 R ?_));cases h;exact f1 4 R
   refine gY 2 R (E3 (qG ?_));refine Z3 R R R R (tJ h ?_) (nJ h ?_)
   ·intro h;refine eU 1 R (C0 R (gU 2 R ?_));refine V5 R R R R (nJ h ?_) (tJ h ?_)
    ·intro h;refine rU 6 R (I7 tb R ?_);obtain⟨rv4,k4,h⟩:=H1 h;refine M6 (A1f k4) eK R R R R (tI h ?_) (fI h ?_)
     ·intro c9 h;refine eU 1 R (cY 1 R ?_);cases h;exact f1 4 R
     intro c9 h;refine eU 1 R (zF (D3 (A6 ?_)));exact .inl ⟨(),h,.prn [2,3,4,5,6] R⟩
    intro h;refine eU 9 R (zF (D3 (A6 ?_)));exact .inl ⟨(),h,.prn [2,3,4,5,6] R⟩
   intro h;refine eU 1 R (C1 R (B8 ?_));refine W5 (fun zz:Unit=>A45 F t o=some r) (fun zz:Unit=>⟨[(2,rf 0 7),(3,rf 1 5),(4,dI 0),(5,.d (.v (.func (.func 154) #[] #[]))),(6,dB true),(37,dI o.kind),(55,dB true)],[bx 7 (.d (D5.d t)),bx 5 (.d (D2.d o))]⟩) ?_ ?_
   ·clear h;rintro⟨⟩ h;rw[A45]at h;refine C0 R (gU 5 R (I7 tb R ?_));obtain⟨rv5,k5,h⟩:=H1 h;refine M6 (A1f k5) eK R R R R (tI h ?_) (fI h ?_)
    ·intro c13 h;refine Y9 (cY 1 R ?_);cases h;exact f1 4 R
    intro c13 h;refine Y9 (zF (D3 (A6 ?_)));exact .inl ⟨(),h,.prn [2,3,4,5,6] R⟩
   refine qG ?_;refine Z3 R R R R (tJ h ?_) (nJ h ?_)
   ·intro h;refine eU 1 R (zT (A6 ?_));exact .inl ⟨(),h,.prn [2,3,4,5,6,37,55] R⟩
   intro h;refine eU 1 R (C1 R (qG ?_));refine Z3 R R R R (tJ h ?_) (nJ h ?_)
   ·intro h;refine eU 1 R (zT (A6 ?_));exact .inl ⟨(),h,.prn [2,3,4,5,6,37,55] R⟩
   intro h;refine eU 1 R (C1 R (J1 ?_));refine Z3 R R R R (tJ h ?_) (nJ h ?_)
   ·intro h;refine nU 1 R ?_;exact .inl ⟨(),h,.prn [2,3,4,5,6,37,55] R⟩
   intro h;refine nU 1 R (.inr (C1 R (B8 ?_)));refine W5 (fun zz:Unit=>A46 F t o=some r) (fun zz:Unit=>⟨[(2,rf 0 7),(3,rf 1 5),(4,dI 0),(5,.d (.v (.func (.func 154) #[] #[]))),(6,dB true),(66,dB true)],[bx 7 (.d (D5.d t)),bx 5 (.d (D2.d o))]⟩) ?_ ?_
   ·clear h;rintro⟨⟩ h;rw[A46]at h;refine C0 R (gU 5 R (I7 tb R ?_));obtain⟨rv5,k5,h⟩:=H1 h;refine M6 (A1f k5) eK R R R R (tI h ?_) (fI h ?_)
    ·intro c16 h;refine Y9 (cY 1 R ?_);cases h;exact f1 4 R
    intro c16 h;refine Y9 (zF (D3 (A6 ?_)));exact .inl ⟨(),h,.prn [2,3,4,5,6] R⟩
   refine qG ?_;refine Z3 R R R R (tJ h ?_) (nJ h ?_)
   ·intro h;refine eU 1 R (zT (A6 ?_));exact .inl ⟨(),h,.prn [2,3,4,5,6,66] R⟩
   intro h;refine eU 1 R (C1 R (qG ?_));refine Z3 R R R R (tJ h ?_) (nJ h ?_)
   ·intro h;refine eU 1 R (zT (A6 ?_));exact .inl ⟨(),h,.prn [2,3,4,5,6,66] R⟩
   intro h;refine eU 1 R (C1 R (J1 ?_));refine Z3 R R R R (tJ h ?_) (nJ h ?_)
   ·intro h;refine nU 1 R ?_;exact .inl ⟨(),h,.prn [2,3,4,5,6,66] R⟩
   intro h;refine nU 1 R (.inr (C1 R (gU 2 R ?_)));obtain⟨rv5,k5,h⟩:=H1 h;refine M6 (V2 k5) eK R R R R (tI h ?_) (fI h ?_)
   ·intro c16 h;refine Y9 (cY 1 R ?_);cases h;exact f1 4 R
   intro c16 h;refine Y9 (zF (D3 (A6 ?_)));exact .inl ⟨(),h,.prn [2,3,4,5,6] R⟩
  ·dsimp only[Sum.elim]at h ⊢;rw[A4V]at h;refine B8 (E3 (gU 2 R ?_));obtain⟨rv9,k9,h⟩:=H1 h;refine M6 (V2 k9) eK R R R R (tI h ?_) (fI h ?_)
   ·intro c21 h;refine eU 1 R (cY 1 R ?_);cases h;exact f1 4 R
   intro c21 h;refine eU 1 R (C1 R (gU 2 R ?_));obtain⟨rv10,k10,h⟩:=H1 h;refine M6 (V2 k10) eK R R R R (tI h ?_) (fI h ?_)
   ·intro c22 h;refine eU 1 R (cY 1 R ?_);cases h;exact f1 4 R
   intro c22 h;refine eU 1 R (C1 R (gU 5 R (I7 tb R ?_)));obtain⟨rv11,k11,h⟩:=H1 h;refine M6 (A1f k11) eK R R R R (tI h ?_) (fI h ?_)
   ·intro c23 h;refine eU 1 R (cY 1 R ?_);cases h;exact f1 4 R
   intro c23 h;refine eU 1 R (zF (B8 ?_));refine W5 (fun zz:Unit=>A24 F o=some r) (fun zz:Unit=>⟨[(2,rf 0 7),(3,rf 1 5),(4,dI 0),(5,.d (.v (.func (.func 154) #[] #[]))),(6,dB false)],[bx 7 (.d (D5.d t)),bx 5 (.d (D2.d o))]⟩) ?_ ?_
   ·clear h;rintro⟨⟩ h;rw[A24]at h;refine B8 (E3 (gU 5 R ?_));refine V5 R R R R (nJ h ?_) (tJ h ?_)
    ·intro h;refine eU 2 R (cY 1 R ?_);cases h;exact f1 4 R
    intro h;refine eU 2 R (C1 R (gY 11 R (C1 R (gY 9 R (zF (rY 1 R ?_))))));cases h;exact f1 4 R
   refine gY 2 R (E3 (qG ?_));refine Z3 R R R R (tJ h ?_) (nJ h ?_)
   ·intro h;refine eU 1 R (C0 R (gU 2 R ?_));refine V5 R R R R (nJ h ?_) (tJ h ?_)
    ·intro h;refine rU 6 R (I7 tb R ?_);obtain⟨rv12,k12,h⟩:=H1 h;refine M6 (A1f k12) eK R R R R (tI h ?_) (fI h ?_)
     ·intro c26 h;refine eU 1 R (cY 1 R ?_);cases h;exact f1 4 R
     intro c26 h;refine eU 1 R (zF (D3 (A6 ?_)));exact .inl ⟨(),h,.prn [2,3,4,5,6] R⟩
    intro h;refine eU 9 R (zF (D3 (A6 ?_)));exact .inl ⟨(),h,.prn [2,3,4,5,6] R⟩
   intro h;refine eU 1 R (C1 R (B8 ?_));refine W5 (fun zz:Unit=>A47 F t o=some r) (fun zz:Unit=>⟨[(2,rf 0 7),(3,rf 1 5),(4,dI 0),(5,.d (.v (.func (.func 154) #[] #[]))),(6,dB false),(37,dI o.kind),(55,dB true)],[bx 7 (.d (D5.d t)),bx 5 (.d (D2.d o))]⟩) ?_ ?_
   ·clear h;rintro⟨⟩ h;rw[A47]at h;refine C0 R (gU 5 R (I7 tb R ?_));obtain⟨rv13,k13,h⟩:=H1 h;refine M6 (A1f k13) eK R R R R (tI h ?_) (fI h ?_)
    ·intro c30 h;refine Y9 (cY 1 R ?_);cases h;exact f1 4 R
    intro c30 h;refine Y9 (zF (D3 (A6 ?_)));exact .inl ⟨(),h,.prn [2,3,4,5,6] R⟩
   refine qG ?_;refine Z3 R R R R (tJ h ?_) (nJ h ?_)
   ·intro h;refine eU 1 R (zT (A6 ?_));exact .inl ⟨(),h,.prn [2,3,4,5,6,37,55] R⟩
   intro h;refine eU 1 R (C1 R (qG ?_));refine Z3 R R R R (tJ h ?_) (nJ h ?_)
   ·intro h;refine eU 1 R (zT (A6 ?_));exact .inl ⟨(),h,.prn [2,3,4,5,6,37,55] R⟩
   intro h;refine eU 1 R (C1 R (J1 ?_));refine Z3 R R R R (tJ h ?_) (nJ h ?_)
   ·intro h;refine nU 1 R ?_;exact .inl ⟨(),h,.prn [2,3,4,5,6,37,55] R⟩
   intro h;refine nU 1 R (.inr (C1 R (B8 ?_)));refine W5 (fun zz:Unit=>A48 F t o=some r) (fun zz:Unit=>⟨[(2,rf 0 7),(3,rf 1 5),(4,dI 0),(5,.d (.v (.func (.func 154) #[] #[]))),(6,dB false),(66,dB true)],[bx 7 (.d (D5.d t)),bx 5 (.d (D2.d o))]⟩) ?_ ?_
   ·clear h;rintro⟨⟩ h;rw[A48]at h;refine C0 R (gU 5 R (I7 tb R ?_));obtain⟨rv13,k13,h⟩:=H1 h;refine M6 (A1f k13) eK R R R R (tI h ?_) (fI h ?_)
    ·intro c33 h;refine Y9 (cY 1 R ?_);cases h;exact f1 4 R
    intro c33 h;refine Y9 (zF (D3 (A6 ?_)));exact .inl ⟨(),h,.prn [2,3,4,5,6] R⟩
   refine qG ?_;refine Z3 R R R R (tJ h ?_) (nJ h ?_)
   ·intro h;refine eU 1 R (zT (A6 ?_));exact .inl ⟨(),h,.prn [2,3,4,5,6,66] R⟩
   intro h;refine eU 1 R (C1 R (qG ?_));refine Z3 R R R R (tJ h ?_) (nJ h ?_)
   ·intro h;refine eU 1 R (zT (A6 ?_));exact .inl ⟨(),h,.prn [2,3,4,5,6,66] R⟩
   intro h;refine eU 1 R (C1 R (J1 ?_));refine Z3 R R R R (tJ h ?_) (nJ h ?_)
   ·intro h;refine nU 1 R ?_;exact .inl ⟨(),h,.prn [2,3,4,5,6,66] R⟩
   intro h;refine nU 1 R (.inr (C1 R (gU 2 R ?_)));obtain⟨rv13,k13,h⟩:=H1 h;refine M6 (V2 k13) eK R R R R (tI h ?_) (fI h ?_)
   ·intro c33 h;refine Y9 (cY 1 R ?_);cases h;exact f1 4 R
   intro c33 h;refine Y9 (zF (D3 (A6 ?_)));exact .inl ⟨(),h,.prn [2,3,4,5,6] R⟩
 refine hU 2 R ?_;refine Z3 R R R R (tJ h ?_) (nJ h ?_)
 ·intro h;refine nU 11 R ?_;exact .inl ⟨.inl (),h,.prn [2,3,4,5,6] R⟩
 intro h;refine rU 3 R ?_;refine Z3 R R R R (tJ h ?_) (nJ h ?_)
 ·intro h;refine rU 3 R ?_;refine V5 R R R R (nJ h ?_) (tJ h ?_)
  ·intro h;refine nU 3 R ?_;exact .inl ⟨.inl (),h,.prn [2,3,4,5,6] R⟩
  intro h;refine nU 3 R ?_;exact .inl ⟨.inr (()),h,.prn [2,3,4,5,6] R⟩
 intro h;refine nU 7 R ?_;exact .inl ⟨.inr (()),h,.prn [2,3,4,5,6] R⟩
def J4 (F:Nat) (so:Bool) (why:Int):Option (Except Int Unit):=if so=true then(some (.ok ()))else(some (.error why))
theorem E1 {F so why r} (h:J4 F so why=some r):SCX pg 156 [dB so,dI why] [] r 43 (fun(a:Unit) => .d (.tup [])) (fun(a:Unit)=>[]):=by
 rw[J4]at h;refine oW Tryz.func156 ?_;refine gU 1 R ?_;refine X8 (tI h ?_) (fI h ?_)
 ·intro c h;refine eU 1 R (zF ?_);cases h;exact A1R (fS [] (.inl ⟨_,R,R,R⟩) R .nil vv)
 intro c h;refine eU 1 R (C0 R (X0 (rU 1 R (B5T tb R R R R R (T2 ?_)))))
 (with_reducible apply B2d);(iterate 2 exact rfl)
 cases h;exact M3 (L:=[]) (κ:=[]) vv (.inr ⟨_,R,R⟩)
def T3 (F:Nat) (s:(List Int)):Option (List Int):=(B26 ([]:List Int) s).bind fun q=>some q
theorem Y2 {F s r} (h:T3 F s=some r):SCR pg 144 (ao T.d [aI s]) [] (.row 0 1 0 (r).length) (ao some [(B7 r)]):=by
 rw[T3]at h;refine oW Tryz.func144 ?_;cases s with
 | nil =>
  refine SW.raw 0 1 R fun ad cap=>?_;cases ad with
  | none =>
   replace h:some ([]:List Int)=some r:=by simpa[A8i,B26]using h
   refine gY 1 R (B8 (gU 1 R (B4l (by intro o a n cap w;cases a<;>cases o<;>simp[go_sem,eqGuard]<;>rfl) R R R (Y9 (C0 R ?_)))));refine SW.unraw 0 1 R ?_;refine SW.unraw 3 1 R ?_;refine gY 1 R (SW.ow 1 true 2 [] [2] R (C9 ?_));cases h;exact f2 [0] C23 R (tC 2 .nil) R
  | some ad =>
   refine gY 1 R (B8 (gU 1 R (B4k (by intro o a n cap w;cases a<;>cases o<;>simp[go_sem,eqGuard]<;>rfl) R R R (Y9 (C1 R ?_)))));refine SW.unraw 0 1 R ?_;refine SW.unraw 3 1 R ?_;refine D7 (qG (P7 tb R R R R R R R R R R R R R (rU 1 R ?_)));obtain⟨q,iq,h⟩:=H1 h;refine B3c (g:=vI) (w:=([]:List Int)) (v:=([]:List Int)) ([none]) tb R R R R R R R R (by intro _;exact R) iq R R R R R (eU 1 R (C9 ?_));cases h;exact f2 [1] C23 R (tC 2 .nil) R
 | cons x0 s =>
  refine gY 1 R (B8 (gU 1 R (B4j (by intro o a n cap w;cases a<;>cases o<;>simp[go_sem,eqGuard]<;>rfl) R R R (Y9 (zF (qG (P7 tb R R R R R R R R R R R R R (rU 1 R ?_))))))));obtain⟨q,iq,h⟩:=H1 h;refine B3c (g:=vI) (w:=([]:List Int)) (v:=(x0::s)) ([none]) tb R R R R R R R R (by intro _;exact R) iq R R R R R (eU 1 R (C9 ?_));cases h;exact f2 [1] C23 R (tC 2 .nil) R
theorem B4H {F s r} (h:T3 F s=some r):PC pg 144 [aI s] (aI r):=(Y2 h).toPC (.row rfl rfl)
def A56 (F:Nat) (p:D5) (s:C3):Option (Option E6):=(T3 F s.zones).bind fun rv=>(T3 F s.holder).bind fun rv2=>(T3 F s.squibs).bind fun rv3=>some (some (E6.mk p.zones p.doors p.people p.keys p.squibs p.panel p.wait s.now rv rv2 rv3 s.siren s.storm))
theorem A4L {F p s r} (h:A56 F p s=some r):SCO pg 72 (ao T.d [D5.d p,C3.d s]) [] r (.d (.v (.pointer none))) (ao some []) (fun(tt:E6)=>rf 0 13) (fun(tt:E6)=>ao some [⟨13,[C6 tt 1 2 3]⟩,(B7 tt.A9),(B7 tt.A8),(B7 tt.A4)]):=by
 rw[A56]at h;refine oW Tryz.func72 ?_;refine gY 3 R (B8 (T1 kR (rU 2 R ?_)));obtain⟨rv,k,h⟩:=H1 h;refine A2X (Y2 k) eK R R R ((.row .nil)) R R R (rU 2 R ?_);obtain⟨rv2,k2,h⟩:=H1 h;refine A2X (Y2 k2) eK R R R ((.row .nil)) R R R (rU 2 R ?_);obtain⟨rv3,k3,h⟩:=H1 h;refine A2X (Y2 k3) eK R R R ((.row .nil)) R R R (rU 6 R (I0 kR (gU 2 R (S1 (v:=C6 (E6.mk p.zones p.doors p.people p.keys p.squibs p.panel p.wait s.now rv rv2 rv3 s.siren s.storm) 2 3 4) tb R R cN kR kR kR kR R R (eU 2 R (C9 ?_))))));cases h;exact fS [5,2,3,4] (.inr ⟨_,R,R,R⟩) R (tC 4 .nil) vv
def R8 (F:Nat) (nv c c2:Int):Option Bool:=(A0m F nv c c2).bind fun rv=>some rv
theorem A2s {F nv c c2 r} (h:R8 F nv c c2=some r):PC pg 146 [vI nv,.el 1 (([c]).map vI) ((0:Int)).toNat 0,.el 1 (([c2]).map vI) ((0:Int)).toNat 0] (vB r):=by
 rw[R8]at h;refine oW Tryz.func146 ?_;refine gY 1 R (gU 1 R (I4 (y:=vI c) tb (U5 (g:=vI) (R:P3 [c] 0=some c)) R (I4 (y:=vI c2) tb (U5 (g:=vI) (R:P3 [c2] 0=some c2)) R ?_)));obtain⟨rv,k,h⟩:=H1 h;refine J5 (V2 k) eK R R R R (eU 1 R (C9 ?_));cases h;exact f1 4 R
def A0A (F:Nat) (lo hi:Int):Option (Int × Int):=some (lo,hi)
theorem A26 {F lo hi r} (h:A0A F lo hi=some r):SCR pg 145 (ao T.d [vI lo,vI hi]) [] (.fn (.func 146) [] [rf 0 1,rf 1 1]) (ao some [⟨1,[dI r.1]⟩,⟨1,[dI r.2]⟩]):=by
 rw[A0A]at h;refine oW Tryz.func145 ?_;refine gY 3 R (qG (A3E R R R R (eU 1 R (C9 ?_))));cases h;exact f2 [0,1] (.cons R R (.cons R R .nil)) R (tC 4 .nil) R
def A2j (F:Nat) (t:E6):Option Bool:=(A0A F (-1) (W ((t.O0.length:Int)-1))).bind fun rv3=>(M1 F t.A9 (fun a0=>R8 F a0 rv3.1 rv3.2)).bind fun rv4=>if rv4=true then(some false)else((A0A F (-1) (W ((t.O3.length:Int)-1))).bind fun rv5=>(M1 F t.A8 (fun a0=>R8 F a0 rv5.1 rv5.2)).bind fun rv6=>if rv6=true then(some false)else((A0A F 0 2).bind fun rv7=>(M1 F t.A4 (fun a0=>R8 F a0 rv7.1 rv7.2)).bind fun rv8=>some (!rv8)))
def A1o (F:Nat) (t:E6):Option Bool:=(A0m F t.N7 0 100000).bind fun rv=>if rv=true then(some false)else((A0m F t.I3 (-1) t.N7).bind fun rv2=>if rv2=true then(some false)else(if(t.A9.length:Int)=(t.O3.length:Int)then(if(t.A8.length:Int)=(t.A0r.length:Int)then(if(t.A4.length:Int)=(t.O4.length:Int)then(A2j F t)else(some false))else(some false))else(some false)))
theorem A8l {F t r} (h:A1o F t=some r):PC pg 73 [.el 13 (([t]).map E6.d) ((0:Int)).toNat 0] (vB r):=by
 rw[A1o]at h;refine oW Tryz.func73 ?_;refine gY 1 R (gU 3 R (I4 (y := .agg [.arr 8 ((t.O0).map F6.d),.arr 2 ((t.V4).map G6.d),.arr 2 ((t.O3).map E2.d),.arr 1 ((t.A0r).map vS),.arr 6 ((t.O4).map D1.d),vI t.X3,vI t.A0s]) tb (U5 (g:=E6.d) (R:P3 [t] 0=some t)) R (eU 2 R (gY 1 R (B8 ?_)))));refine W5 (fun zz:Unit=>A2j F t=some r) (fun zz:Unit=>⟨[(0,.d (.el 13 (([t]).map E6.d) ((0:Int)).toNat 0)),(2,dB false),(3,rf 0 7),(4,.d (.v (.func (.func 145) #[] #[])))],[bx 7 (.d (.agg [.arr 8 ((t.O0).map F6.d),.arr 2 ((t.V4).map G6.d),.arr 2 ((t.O3).map E2.d),.arr 1 ((t.A0r).map vS),.arr 6 ((t.O4).map D1.d),vI t.X3,vI t.A0s]))]⟩) ?_ ?_
 ·clear h;rintro⟨⟩ h;rw[A2j]at h;refine B8 (T1 kR (rU 4 R (I4 (y:=aI t.A9) tb (U5 (g:=E6.d) (R:P3 [t] 0=some t)) R (rU 3 R (I7 tb R (rU 1 R ?_))))));obtain⟨rv3,k3,h⟩:=H1 h;refine A2X (A26 k3) eK R R R ((.cons R (.cons R .nil))) R R R ?_;obtain⟨rv4,k4,h⟩:=H1 h;refine A0t (R5 (f:=(fun a0=>R8 F a0 rv3.1 rv3.2)) (fc:=[.el 1 [vI rv3.1] 0 0,.el 1 [vI rv3.2] 0 0]) (fh:=fun hr=>A2s hr) (fe := .of kR) k4) R .nil eK R R ((.cons (.d (.d _)) (.cons (.fnC (.cons (.d (.ref R (.d _))) (.cons (.d (.ref R (.d _))) .nil))) .nil))) R .nil R R R ?_;simp only[bb,aH];refine X8 (tI h ?_) (fI h ?_)
  ·intro c6 h;refine rU 28 R (I0 kR (C9 ?_));cases h;exact f1 2 R
  intro c6 h;refine rU 6 R (I4 (y:=aI t.A8) tb (U5 (g:=E6.d) (R:P3 [t] 0=some t)) R (rU 3 R (I7 tb R (rU 1 R ?_))));obtain⟨rv5,k5,h⟩:=H1 h;refine A2X (A26 k5) eK R R R ((.cons R (.cons R .nil))) R R R ?_;obtain⟨rv6,k6,h⟩:=H1 h;refine A0t (R5 (f:=(fun a0=>R8 F a0 rv5.1 rv5.2)) (fc:=[.el 1 [vI rv5.1] 0 0,.el 1 [vI rv5.2] 0 0]) (fh:=fun hr=>A2s hr) (fe := .of kR) k6) R .nil eK R R ((.cons (.d (.d _)) (.cons (.fnC (.cons (.d (.ref R (.d _))) (.cons (.d (.ref R (.d _))) .nil))) .nil))) R .nil R R R ?_;simp only[bb,aH];refine X8 (tI h ?_) (fI h ?_)
  ·intro c7 h;refine rU 14 R (I0 kR (C9 ?_));cases h;exact f1 2 R
  intro c7 h;refine rU 7 R (I4 (y:=aI t.A4) tb (U5 (g:=E6.d) (R:P3 [t] 0=some t)) R (rU 1 R ?_));obtain⟨rv7,k7,h⟩:=H1 h;refine A2X (A26 k7) eK R R R ((.cons R (.cons R .nil))) R R R ?_;obtain⟨rv8,k8,h⟩:=H1 h;refine A0t (R5 (f:=(fun a0=>R8 F a0 rv7.1 rv7.2)) (fc:=[.el 1 [vI rv7.1] 0 0,.el 1 [vI rv7.2] 0 0]) (fh:=fun hr=>A2s hr) (fe := .of kR) k8) R .nil eK R R ((.cons (.d (.d _)) (.cons (.fnC (.cons (.d (.ref R (.d _))) (.cons (.d (.ref R (.d _))) .nil))) .nil))) R .nil R R R ?_;simp only[bb,aH];refine rU 3 R (I0 kR (C9 ?_));cases h;exact f1 2 R
 refine E3 (B8 (T1 kR (rU 4 R (I4 (y:=vI t.N7) tb (U5 (g:=E6.d) (R:P3 [t] 0=some t)) R ?_))));obtain⟨rv,k,h⟩:=H1 h;refine M6 (V2 k) eK R R R R (tI h ?_) (fI h ?_)
 ·intro c h;refine rU 14 R (I0 kR (cY 1 R ?_));cases h;exact f1 2 R
 intro c h;refine rU 5 R (I4 (y:=vI t.I3) tb (U5 (g:=E6.d) (R:P3 [t] 0=some t)) R (rU 4 R (I4 (y:=vI t.N7) tb (U5 (g:=E6.d) (R:P3 [t] 0=some t)) R ?_)));obtain⟨rv2,k2,h⟩:=H1 h;refine M6 (V2 k2) eK R R R R (tI h ?_) (fI h ?_)
 ·intro c2 h;refine rU 2 R (I0 kR (cY 1 R ?_));cases h;exact f1 2 R
 intro c2 h;refine rU 2 R (I0 kR (C1 R (B8 (T1 kR (rU 4 R (I4 (y:=aI t.A9) tb (U5 (g:=E6.d) (R:P3 [t] 0=some t)) R (I7 tb R (rU 2 R (I7 tb R ?_)))))))));refine V5 R R R R (nJ h ?_) (tJ h ?_)
 ·intro h;refine rU 25 R (I0 kR (cY 1 R ?_));cases h;exact f1 2 R
 intro h;refine rU 5 R (I4 (y:=aI t.A8) tb (U5 (g:=E6.d) (R:P3 [t] 0=some t)) R (I7 tb R (rU 2 R (I7 tb R ?_))));refine V5 R R R R (nJ h ?_) (tJ h ?_)
 ·intro h;refine rU 14 R (I0 kR (cY 1 R ?_));cases h;exact f1 2 R
 intro h;refine rU 6 R (I4 (y:=aI t.A4) tb (U5 (g:=E6.d) (R:P3 [t] 0=some t)) R (I7 tb R (rU 2 R (I7 tb R ?_))));refine V5 R R R R (nJ h ?_) (tJ h ?_)
 ·intro h;refine rU 2 R (I0 kR (cY 1 R ?_));cases h;exact f1 2 R
 intro h;refine rU 2 R (I0 kR (zF (D3 (A6 ?_))));exact .inl ⟨(),h,.prn [0,2,3,4] R⟩
def Y0 (F:Nat) (c:E6) (zone:Int) (K:Int→Int→Option Int):Nat→Int→Int→Option Int
 | 0,_,_=>none
 | n+1,nv,x=>if x<(c.A9.length:Int)then((P3 c.A9 x).bind fun e=>if e=zone then(Y0 F c zone K n (W (nv+1)) (W (x+1)))else(Y0 F c zone K n nv (W (x+1))))else(K nv x)
def A03 (F:Nat) (c:E6) (zone:Int):Option Int:=Y0 F c zone (fun nv x=>some nv) F 0 0
theorem A3C {F c zone r} (h:A03 F c zone=some r):PC pg 150 [.el 13 (([c]).map E6.d) ((0:Int)).toNat 0,vI zone] (vI r):=by
 rw[A03]at h;refine oW Tryz.func150 ?_;refine gY 1 R (B8 (gU 4 R (I4 (y:=aI c.A9) tb (U5 (g:=E6.d) (R:P3 [c] 0=some c)) R (I7 tb R (eU 1 R (E3 ?_))))));refine C3X (fun K3 m st=>∃ (nv:Int) (x:Int),st=⟨[(1,dI zone),(4,dI nv),(11,.d (aI c.A9)),(12,dI (c.A9.length:Int)),(13,dI x)],[]⟩∧Y0 F c zone K3 m nv x=some r) ⟨0,0,R,h⟩ (.prn [1,4,11,12,13] R) ?_;rintro K3 hK3 m3 _ ⟨nv,x,rfl,h⟩;rw[Y0]at h;refine qG ?_;refine Q4 R R R R (tJ h ?_) (lJ h ?_)
 ·intro h;refine Y9 (B8 (zT (B8 (E3 (qG ?_)))));obtain⟨e,ie,h⟩:=H1 h;refine yE ie R R (eU 1 R (gU 2 R ?_));refine Z3 R R R R (tJ h ?_) (nJ h ?_)
  ·intro h;refine Y9 (C0 R (hE 3 R (hN 2 R ?_)));exact bk ⟨(W (nv+1)),(W (x+1)),R,h⟩ (.prn [1,4,11,12,13] R)
  intro h;refine Y9 (zF (hN 2 R ?_));exact bk ⟨nv,(W (x+1)),R,h⟩ (.prn [1,4,11,12,13] R)
 intro h;refine Y9 (B8 (yX ?_));subst hK3;refine rY 2 R ?_;cases h;exact f1 4 R
def X4 (F:Nat) (c:E6) (e:D1) (K:(List Int)→Int→Option (List Int)):Nat→(List Int)→Int→Option (List Int)
 | 0,_,_=>none
 | n+1,lv,x=>if x<(e.keys.length:Int)then((P3 e.keys x).bind fun e2=>(P3 c.A8 e2).bind fun e3=>if 0≤e3 then((A8i lv [e2]).bind fun q=>X4 F c e K n q (W (x+1)))else(X4 F c e K n lv (W (x+1))))else(K lv x)
def A11 (F:Nat) (c:E6) (squib:Int):Option (List Int):=(P3 c.O4 squib).bind fun e=>X4 F c e (fun lv x=>some lv) F ([]:List Int) 0
theorem A3D {F c squib r} (h:A11 F c squib=some r):SCR pg 153 (ao T.d [.el 13 (([c]).map E6.d) ((0:Int)).toNat 0,vI squib]) [] (.row 0 1 0 (r).length) (ao some [(B7 r)]):=by
 rw[A11]at h;refine oW Tryz.func153 ?_;refine gY 1 R (B8 (gU 4 R (I4 (y := .arr 6 ((c.O4).map D1.d)) tb (U5 (g:=E6.d) (R:P3 [c] 0=some c)) R (rU 1 R ?_))));obtain⟨e,ie,h⟩:=H1 h;refine xE ie R (rU 1 R (lE ie R (I7 tb R (eU 1 R (E3 (SW.ow 1 true 4 [] [0,4,15,16,17] R ?_))))));refine C3X (fun K2 m st=>∃ (lv:(List Int)) (x:Int),st=⟨[(0,.d (.el 13 (([c]).map E6.d) ((0:Int)).toNat 0)),(4,.row 0 1 0 (lv).length),(15,.d (aI e.keys)),(16,dI (e.keys.length:Int)),(17,dI x)],[B0u lv]⟩∧X4 F c e K2 m lv x=some r) ⟨([]:List Int),0,R,h⟩ (.prn [0,4,15,16,17] R) ?_;rintro K2 hK2 m2 _ ⟨lv,x,rfl,h⟩;rw[X4]at h;refine qG ?_;refine Q4 R R R R (tJ h ?_) (lJ h ?_)
 ·intro h;refine Y9 (B8 (zT (B8 (E3 (qG ?_)))));obtain⟨e2,ie2,h⟩:=H1 h;refine yE ie2 R R (eU 1 R (gU 4 R (I4 (y:=aI c.A8) tb (U5 (g:=E6.d) (R:P3 [c] 0=some c)) R (rU 1 R ?_))));obtain⟨e3,ie3,h⟩:=H1 h;refine yE ie3 R R ?_;refine A7I R R R R (tJ h ?_) (mJ h ?_)
  ·intro h;refine Y9 (C0 R (hU 2 R (P7 tb R R R R R R R R R R R R R ?_)));obtain⟨q,iq,h⟩:=H1 h;refine B2k (g:=vI) (w:=lv) (v:=[e2]) ([none,B0u [e2]]) tb R R R R R R R R R R R iq R R R R R (eU 1 R (hN 2 R ?_));exact bk ⟨q,(W (x+1)),R,h⟩ (.vq [2])
  intro h;refine Y9 (zF (hN 2 R ?_));exact bk ⟨lv,(W (x+1)),R,h⟩ (.prn [0,4,15,16,17] R)
 intro h;refine Y9 (B8 (yX ?_));subst hK2;refine rY 2 R ?_;cases h;exact f2 [0] C23 R (tC 4 .nil) R
theorem B5O {F c squib r} (h:A11 F c squib=some r):PC pg 153 [.el 13 (([c]).map E6.d) ((0:Int)).toNat 0,vI squib] (aI r):=(A3D h).toPC (.row rfl rfl)
def A0N (F:Nat) (k:Int) (c:E6) (c2:Int):Option Bool:=(P3 c.A8 k).bind fun e=>some (decide (e=c2))
theorem A7G {F k c c2 r} (h:A0N F k c c2=some r):PC pg 195 [vI k,.el 1 (([c]).map (fun x=>D.el 13 [E6.d x] 0 0)) ((0:Int)).toNat 0,.el 1 (([c2]).map vI) ((0:Int)).toNat 0] (vB r):=by
 rw[A0N]at h;refine oW Tryz.func195 ?_;refine gY 1 R (B8 (T1 kR ?_));refine I4 (y := .el 13 (([c]).map E6.d) ((0:Int)).toNat 0) tb (U5 (g:=(fun x=>D.el 13 [E6.d x] 0 0)) (R:P3 [c] 0=some c)) R ?_;refine rU 3 R (I4 (y:=aI c.A8) tb (U5 (g:=E6.d) (R:P3 [c] 0=some c)) R (rU 1 R ?_));obtain⟨e,ie,h⟩:=H1 h;refine yE ie R R (I4 (y:=vI c2) tb (U5 (g:=vI) (R:P3 [c2] 0=some c2)) R (A3s R R R R (rU 1 R (I0 kR (C9 ?_)))));cases h;exact f1 4 R
def A10 (F:Nat) (B4:Int→Option Bool) (x:Int):Option Bool:=B4 (W (x+1))
def R0 (F:Nat) (c:E6) (person:Int) (rv:(Int × D5)) (e:F6) (K:Int→Option Bool):Nat→Int→Option Bool
 | 0,_=>none
 | n+1,x=>if x<(rv.2.squibs.length:Int)then((P3 rv.2.squibs x).bind fun e2=>if(W ((W ((max (max (W (e.L5-e2.A4s)) (W (e2.A4s-e.L4))) 0)*(max (max (W (e.L5-e2.A4s)) (W (e2.A4s-e.L4))) 0)))+(W ((max (max (W (e.L7-e2.A4t)) (W (e2.A4t-e.L6))) 0)*(max (max (W (e.L7-e2.A4t)) (W (e2.A4t-e.L6))) 0)))))<(W (e2.clear*e2.clear))then((P3 c.A4 x).bind fun e3=>if e3=2 then(A10 F (R0 F c person rv e K n) x)else((P3 c.O4 x).bind fun e4=>(M1 F e4.keys (fun a0=>A0N F a0 c person)).bind fun rv2=>if rv2=true then(A10 F (R0 F c person rv e K n) x)else(some false)))else(R0 F c person rv e K n (W (x+1))))else(K x)
def A0g (F:Nat) (c:E6) (person zone:Int):Option Bool:=(A30 F (D5.mk c.O0 c.V4 c.O3 c.A0r c.O4 c.X3 c.A0s) zone).bind fun rv=>if rv.1<0 then(some true)else((P3 rv.2.zones rv.1).bind fun e=>R0 F c person rv e (fun x=>some true) F 0)
theorem A27 {F c person zone r} (h:A0g F c person zone=some r):PC pg 152 [.el 13 (([c]).map E6.d) ((0:Int)).toNat 0,vI person,vI zone] (vB r):=by
 rw[A0g]at h;refine oN Tryz.func152 ?_;refine S3 ?_;refine W3 fun df=>?_;refine hE 3 R (S3 (S3 ?_));refine W3 fun df=>?_;refine hU 3 R (I4 (y := .agg [.arr 8 ((c.O0).map F6.d),.arr 2 ((c.V4).map G6.d),.arr 2 ((c.O3).map E2.d),.arr 1 ((c.A0r).map vS),.arr 6 ((c.O4).map D1.d),vI c.X3,vI c.A0s]) tb (U5 (g:=E6.d) (R:P3 [c] 0=some c)) R (rU 1 R ?_));obtain⟨rv,k,h⟩:=H1 h;refine A2X (A7k k) eK R R R ((.cons R (.cons R .nil))) R R R (Y9 (A5A ?_));refine A9S eK Tryz.func148 R R R R R R fun lb=>?_;simp only[L8,aZ,eo];refine U7 (U7 (A1h (A0u (rU 1 R ?_))));refine Q4 R R R R (tJ h ?_) (lJ h ?_)
 ·intro h;refine T7 (I8 (A3R R (A9v (A4F ?_))));refine⟨R,[c1 (.el 13 (([c]).map E6.d) ((0:Int)).toNat 0),c1 (vI person),c1 (vB false),c1 (vI rv.1),bx 7 (.d (D5.d rv.2))],[0,1,2,3,4],vv,?_⟩;refine W3 fun df=>?_;refine rY 1 R ?_;cases h;exact f0 R R R (qC R .nil)
 intro h;refine T7 (I8 (A1K R (A2O (I8 (U7 (A1h (A0u (rU 3 R ?_))))))));obtain⟨e,ie,h⟩:=H1 h;refine xE ie R (rU 1 R (lE ie R (rU 2 R (T7 (I8 (U7 (A1h (A0u (rU 2 R (I7 tb R (rU 1 R (T7 (I8 (A59 ?_))))))))))))));obtain⟨K4,hK4,h⟩:∃ K,K=_∧R0 F c person rv e K F 0=some r:=⟨_,rfl,h⟩;refine A9Q (fun m ph st=>∃ (x:Int),R0 F c person rv e K4 m x=some r∧ph=SX.norm∧st=⟨[(0,.d (.v (.func (.yield lb) #[] #[]))),(4,rf 5 4),(18,.d (.arr 6 ((rv.2.squibs).map D1.d))),(19,dI (rv.2.squibs.length:Int)),(20,dI x)],[c1 (.el 13 (([c]).map E6.d) ((0:Int)).toNat 0),c1 (vI person),c1 (vB false),c1 (vI rv.1),bx 7 (.d (D5.d rv.2)),bx 4 (.d (.agg [vI e.L5,vI e.L4,vI e.L7,vI e.L6]))]⟩) (.prn [0,4,18,19,20] R) ⟨0,h,R,R⟩ ?_;clear h;rintro m4 ph st ⟨x,h,rfl,rfl⟩;cases m4 with
 | zero=>cases(show(none:Option Bool)=some r from h)
 | succ m4 =>
 rw[R0]at h;refine U7 (A1h (A0u ?_));refine Q4 R R R R (tJ h ?_) (lJ h ?_)
 ·intro h;refine T7 (I8 (U7 (A3R R (A2O (I8 (U7 (A59 (U7 (A1h (A0u (rU 1 R ?_)))))))))));obtain⟨e2,ie2,h⟩:=H1 h;refine yE ie2 R R (rU 3 R (T7 (I8 (U7 (A9R (T1 kR (rU 14 R (A9L R R R R R (rU 14 R (A9L R R R R R (rU 2 R (I0 kR (I8 (U7 (A1h (A0u (rU 12 R ?_)))))))))))))))));refine Q4 R R R R (tJ h ?_) (lJ h ?_)
  ·intro h;refine rU 3 R (A99 ?_)
   (with_reducible apply A9M (ys:=[vI x]));(iterate 7 exact rfl)
   dsimp only[B1H];refine hE 1 R ?_;refine⟨R,B8o ?_⟩;refine E3 (B8 ?_);refine W5 (fun zz:Unit=>A10 F (R0 F c person rv e K4 m4) x=some r) (fun zz:Unit=>⟨[(6,rf 2 1),(37,dB false)],[c1 (.el 13 (([c]).map E6.d) ((0:Int)).toNat 0),c1 (vI person),c1 (vB false),c1 (vI rv.1),bx 7 (.d (D5.d rv.2)),bx 4 (.d (.agg [vI e.L5,vI e.L4,vI e.L7,vI e.L6])),bx 6 (.d (D1.d e2))]⟩) ?_ ?_
   ·clear h;rintro⟨⟩ h;rw[A10]at h;refine zF (D3 ?_);refine⟨[c1 (.el 13 (([c]).map E6.d) ((0:Int)).toNat 0),c1 (vI person),c1 (vB false),c1 (vI rv.1),bx 7 (.d (D5.d rv.2)),bx 4 (.d (.agg [vI e.L5,vI e.L4,vI e.L7,vI e.L6])),bx 6 (.d (D1.d e2))],[0,1,2,3,4,5,6],vv,?_⟩;with_reducible apply B3t
    refine A0u (rU 2 R (T7 (I8 (A1K R (A2O (A3G (I8 (A1h (A0u (rU 2 R (T7 (I8 ?_))))))))))));exact bk ⟨(W (x+1)),h,R,R⟩ (.vq [0,1,2,3,4,5])
   refine hU 4 R (I4 (y:=aI c.A4) tb (U5 (g:=E6.d) (R:P3 [c] 0=some c)) R (rU 1 R ?_));obtain⟨e3,ie3,h⟩:=H1 h;refine yE ie3 R R ?_;refine V5 R R R R (nJ h ?_) (tJ h ?_)
   ·intro h;refine rU 5 R (I4 (y := .arr 6 ((c.O4).map D1.d)) tb (U5 (g:=E6.d) (R:P3 [c] 0=some c)) R (rU 1 R ?_));obtain⟨e4,ie4,h⟩:=H1 h;refine xE ie4 R (rU 1 R (lE ie4 R (A3E R R R R ?_)));obtain⟨rv2,k2,h⟩:=H1 h;refine A0t (R5 (f:=(fun a0=>A0N F a0 c person)) (fc:=[.el 1 [.el 13 (([c]).map E6.d) ((0:Int)).toNat 0] 0 0,.el 1 [vI person] 0 0]) (fh:=fun hr=>A7G hr) (fe := .of kR) k2) R .nil eK R R ((.cons (.d (.d _)) (.cons (.fnC (.cons (.d (.ref R (.d _))) (.cons (.d (.ref R (.d _))) .nil))) .nil))) R .nil R R R ?_;simp only[bb,aH];refine X8 (tI h ?_) (fI h ?_)
    ·intro c6 h;refine nU 2 R ?_;exact .inl ⟨(),h,.prn [6,37] R⟩
    intro c6 h;refine nU 2 R (.inr (cY 1 R (C4 ?_)));refine⟨[c1 (.el 13 (([c]).map E6.d) ((0:Int)).toNat 0),c1 (vI person),c1 (vB false),c1 (vI rv.1),bx 7 (.d (D5.d rv.2)),bx 4 (.d (.agg [vI e.L5,vI e.L4,vI e.L7,vI e.L6])),bx 6 (.d (D1.d e2))],[0,1,2,3,4,5,6],vv,?_⟩;with_reducible apply B8w
    refine A0u (rU 2 R (T7 (I8 (A3R R (A9v (A6S (A4F (A4F (A6S ?_)))))))));refine⟨R,[c1 (.el 13 (([c]).map E6.d) ((0:Int)).toNat 0),c1 (vI person),c1 (vB false),c1 (vI rv.1),bx 7 (.d (D5.d rv.2))],[0,1,2,3,4],vv,?_⟩;cases h;exact f0 R R R (qC R .nil)
   intro h;refine nU 14 R ?_;exact .inl ⟨(),h,.prn [6,37] R⟩
  intro h;refine rU 6 R (T7 (I8 (A1K R (A2O (A3G (I8 (A1h (A0u (rU 2 R (T7 (I8 ?_)))))))))));exact bk ⟨(W (x+1)),h,R,R⟩ (.vq [0,1,2,3,4,5])
 intro h;refine T7 (I8 (U7 (A1K R (B13 (A4E (A4E ?_))))));subst hK4;refine A76 ?_;refine⟨R,[c1 (.el 13 (([c]).map E6.d) ((0:Int)).toNat 0),c1 (vI person),c1 (vB false),c1 (vI rv.1),bx 7 (.d (D5.d rv.2))],[0,1,2,3,4],vv,?_⟩;refine W3 fun df=>?_;refine rY 1 R ?_;cases h;exact f0 R R R (qC R .nil)
def A0f (F:Nat) (c:E6) (zone:Int):Option Bool:=if 0≤zone then((P3 c.O0 zone).bind fun e=>if e.pair=true then((A03 F c zone).bind fun rv=>some (decide (rv=1)))else(some false))else(some false)
theorem A3B {F c zone r} (h:A0f F c zone=some r):PC pg 151 [.el 13 (([c]).map E6.d) ((0:Int)).toNat 0,vI zone] (vB r):=by
 rw[A0f]at h;refine oW Tryz.func151 ?_;refine gY 1 R (gU 1 R ?_);refine A7I R R R R (tJ h ?_) (mJ h ?_)
 ·intro h;refine rU 5 R (I4 (y := .arr 8 ((c.O0).map F6.d)) tb (U5 (g:=E6.d) (R:P3 [c] 0=some c)) R (rU 1 R ?_));obtain⟨e,ie,h⟩:=H1 h;refine xE ie R (rU 1 R (lE ie R ?_));refine X8 (tI h ?_) (fI h ?_)
  ·intro c3 h;refine rU 4 R ?_;obtain⟨rv,k,h⟩:=H1 h;refine J5 (A3C k) eK R R R R (A3s R R R R (eU 2 R (C9 ?_)));cases h;exact f1 4 R
  intro c3 h;refine eU 8 R (C9 ?_);cases h;exact f1 4 R
 intro h;refine eU 18 R (C9 ?_);cases h;exact f1 4 R
def A12 (F:Nat) (B6:Int→Option Bool) (x2:Int):Option Bool:=B6 (W (x2+1))
def R1 (F:Nat):Option Bool:=some false
def A13 (F:Nat) (B9:Int→Option Bool) (x3:Int):Option Bool:=B9 (W (x3+1))
def S6 (F:Nat) (t:E6) (K:Int→Option Bool):Nat→Int→Option Bool
 | 0,_=>none
 | n+1,x3=>if x3<(t.A4.length:Int)then((P3 t.A4 x3).bind fun e5=>if e5=1 then((A11 F t x3).bind fun rv5=>if 0<(rv5.length:Int)then(R1 F)else(if t.I3<0 then(R1 F)else(if t.I1=true then(R1 F)else(A13 F (S6 F t K n) x3))))else(A13 F (S6 F t K n) x3))else(K x3)
def S7 (F:Nat) (t:E6) (K:Int→Option Bool):Nat→Int→Option Bool
 | 0,_=>none
 | n+1,x2=>if x2<(t.A9.length:Int)then((P3 t.A9 x2).bind fun e2=>if 0≤e2 then((P3 t.O3 x2).bind fun e3=>(P3 t.O0 e2).bind fun e4=>if e3.grade<e4.grade then(R1 F)else((A0g F t x2 e2).bind fun rv3=>if rv3=true then(A12 F (S7 F t K n) x2)else(R1 F)))else((A0g F t x2 e2).bind fun rv4=>if rv4=true then(A12 F (S7 F t K n) x2)else(R1 F)))else(K x2)
def V9 (F:Nat) (t:E6) (K:Int→Option Bool):Nat→Int→Option Bool
 | 0,_=>none
 | n+1,x=>if x<(t.O0.length:Int)then((P3 t.O0 x).bind fun e=>(A03 F t x).bind fun rv=>if e.room<rv then(some false)else((A0f F t x).bind fun rv2=>if rv2=true then(some false)else(V9 F t K n (W (x+1)))))else(K x)
def A2L (F:Nat) (t:E6):Option Bool:=V9 F t (fun x=>S7 F t (fun x2=>S6 F t (fun x3=>some true) F 0) F 0) F 0
theorem A8C {F t r} (h:A2L F t=some r):PC pg 77 [.el 13 (([t]).map E6.d) ((0:Int)).toNat 0] (vB r):=by
 rw[A2L]at h;refine oW Tryz.func77 ?_;refine gY 1 R (B8 (gU 4 R (I4 (y := .arr 8 ((t.O0).map F6.d)) tb (U5 (g:=E6.d) (R:P3 [t] 0=some t)) R (I7 tb R (eU 1 R (E3 ?_))))));refine C3X (fun K3 m st=>∃ (x:Int),st=⟨[(0,.d (.el 13 (([t]).map E6.d) ((0:Int)).toNat 0)),(2,dB false),(13,.d (.arr 8 ((t.O0).map F6.d))),(14,dI (t.O0.length:Int)),(15,dI x)],[]⟩∧V9 F t K3 m x=some r) ⟨0,R,h⟩ (.prn [0,2,13,14,15] R) ?_;rintro K3 hK3 m3 _ ⟨x,rfl,h⟩;rw[V9]at h;refine qG ?_;refine Q4 R R R R (tJ h ?_) (lJ h ?_)
 ·intro h;refine Y9 (B8 (zT (B8 (E3 (gU 1 R ?_)))));obtain⟨e,ie,h⟩:=H1 h;refine yE ie R R (eU 3 R (B8 (T1 kR (rU 2 R ?_))));obtain⟨rv,k,h⟩:=H1 h;refine J5 (A3C k) eK R R R R (rU 2 R ?_);refine A4l R R R R (tJ h ?_) (lJ h ?_)
  ·intro h;refine rU 5 R (I0 kR (cY 1 R ?_));cases h;exact f1 2 R
  intro h;refine rU 3 R ?_;obtain⟨rv2,k2,h⟩:=H1 h;refine M6 (A3B k2) eK R R R R (tI h ?_) (fI h ?_)
  ·intro c3 h;refine rU 1 R (I0 kR (cY 1 R ?_));cases h;exact f1 2 R
  intro c3 h;refine rU 1 R (I0 kR (zF (hN 2 R ?_)));exact bk ⟨(W (x+1)),R,h⟩ (.vq [])
 intro h;refine Y9 (B8 (yX ?_));subst hK3;refine B8 (gU 4 R (I4 (y:=aI t.A9) tb (U5 (g:=E6.d) (R:P3 [t] 0=some t)) R (I7 tb R (eU 1 R (E3 ?_)))));refine C3X (fun K6 m st=>∃ (x2:Int),st=⟨[(0,.d (.el 13 (([t]).map E6.d) ((0:Int)).toNat 0)),(2,dB false),(36,.d (aI t.A9)),(37,dI (t.A9.length:Int)),(38,dI x2)],[]⟩∧S7 F t K6 m x2=some r) ⟨0,R,h⟩ (.prn [0,2,36,37,38] R) ?_;rintro K6 hK6 m6 _ ⟨x2,rfl,h⟩;rw[S7]at h;refine qG ?_;refine Q4 R R R R (tJ h ?_) (lJ h ?_)
 ·intro h;refine Y9 (B8 (zT (B8 ?_)));refine W5 (fun zz:Unit=>A12 F (S7 F t K6 m6) x2=some r) (fun zz:Unit=>⟨[(0,.d (.el 13 (([t]).map E6.d) ((0:Int)).toNat 0)),(2,dB false),(36,.d (aI t.A9)),(37,dI (t.A9.length:Int)),(38,dI x2)],[]⟩) ?_ ?_
  ·clear h;rintro⟨⟩ h;rw[A12]at h;refine hN 2 R ?_;exact bk ⟨(W (x2+1)),R,h⟩ (.prn [0,2,36,37,38] R)
  refine E3 (gU 1 R ?_);obtain⟨e2,ie2,h⟩:=H1 h;refine yE ie2 R R (eU 2 R (B8 ?_));refine W5 (fun zz:Unit=>R1 F=some r) (fun zz:Unit=>⟨[(0,.d (.el 13 (([t]).map E6.d) ((0:Int)).toNat 0)),(2,dB false),(36,.d (aI t.A9)),(37,dI (t.A9.length:Int)),(38,dI x2),(72,dB true)],[]⟩) ?_ ?_
  ·clear h;rintro⟨⟩ h;rw[R1]at h;refine cY 1 R ?_;cases h;exact f1 2 R
  refine T1 kR (rU 1 R ?_);refine A7I R R R R (tJ h ?_) (mJ h ?_)
  ·intro h;refine rU 5 R (I4 (y := .arr 2 ((t.O3).map E2.d)) tb (U5 (g:=E6.d) (R:P3 [t] 0=some t)) R (rU 1 R ?_));obtain⟨e3,ie3,h⟩:=H1 h;refine xE ie3 R (rU 1 R (lE ie3 R (rU 4 R (I4 (y := .arr 8 ((t.O0).map F6.d)) tb (U5 (g:=E6.d) (R:P3 [t] 0=some t)) R (rU 1 R ?_)))));obtain⟨e4,ie4,h⟩:=H1 h;refine xE ie4 R (rU 1 R (lE ie4 R ?_));refine Q4 R R R R (tJ h ?_) (lJ h ?_)
   ·intro h;refine rU 8 R (I0 kR (A6 ?_));exact .inl ⟨(),h,.prn [0,2,36,37,38,72] R⟩
   intro h;refine rU 5 R ?_;obtain⟨rv3,k3,h⟩:=H1 h;refine M6 (A27 k3) eK R R R R (tI h ?_) (fI h ?_)
   ·intro c7 h;refine rU 2 R (I0 kR (A6 (.inr (zF (D3 (A6 ?_))))));exact .inl ⟨(),h,.prn [0,2,36,37,38] R⟩
   intro c7 h;refine rU 2 R (I0 kR (A6 ?_));exact .inl ⟨(),h,.prn [0,2,36,37,38,72] R⟩
  intro h;refine rU 25 R ?_;obtain⟨rv4,k4,h⟩:=H1 h;refine M6 (A27 k4) eK R R R R (tI h ?_) (fI h ?_)
  ·intro c8 h;refine rU 2 R (I0 kR (A6 (.inr (zF (D3 (A6 ?_))))));exact .inl ⟨(),h,.prn [0,2,36,37,38] R⟩
  intro c8 h;refine rU 2 R (I0 kR (A6 ?_));exact .inl ⟨(),h,.prn [0,2,36,37,38,72] R⟩
 intro h;refine Y9 (B8 (yX ?_));subst hK6;refine B8 (gU 4 R (I4 (y:=aI t.A4) tb (U5 (g:=E6.d) (R:P3 [t] 0=some t)) R (I7 tb R (eU 1 R (E3 ?_)))));refine C3X (fun K9 m st=>∃ (x3:Int),st=⟨[(0,.d (.el 13 (([t]).map E6.d) ((0:Int)).toNat 0)),(2,dB false),(78,.d (aI t.A4)),(79,dI (t.A4.length:Int)),(80,dI x3)],[]⟩∧S6 F t K9 m x3=some r) ⟨0,R,h⟩ (.prn [0,2,78,79,80] R) ?_;rintro K9 hK9 m9 _ ⟨x3,rfl,h⟩;rw[S6]at h;refine qG ?_;refine Q4 R R R R (tJ h ?_) (lJ h ?_)
 ·intro h;refine Y9 (B8 (zT (B8 ?_)));refine W5 (fun zz:Unit=>A13 F (S6 F t K9 m9) x3=some r) (fun zz:Unit=>⟨[(0,.d (.el 13 (([t]).map E6.d) ((0:Int)).toNat 0)),(2,dB false),(78,.d (aI t.A4)),(79,dI (t.A4.length:Int)),(80,dI x3)],[]⟩) ?_ ?_
  ·clear h;rintro⟨⟩ h;rw[A13]at h;refine hN 2 R ?_;exact bk ⟨(W (x3+1)),R,h⟩ (.prn [0,2,78,79,80] R)
  refine E3 (gU 1 R ?_);obtain⟨e5,ie5,h⟩:=H1 h;refine yE ie5 R R (eU 2 R (B8 ?_));refine W5 (fun zz:Unit=>R1 F=some r) (fun zz:Unit=>⟨[(0,.d (.el 13 (([t]).map E6.d) ((0:Int)).toNat 0)),(2,dB false),(78,.d (aI t.A4)),(79,dI (t.A4.length:Int)),(80,dI x3),(108,dB true)],[]⟩) ?_ ?_
  ·clear h;rintro⟨⟩ h;rw[R1]at h;refine cY 1 R ?_;cases h;exact f1 2 R
  refine hU 1 R ?_;refine Z3 R R R R (tJ h ?_) (nJ h ?_)
  ·intro h;refine rU 3 R ?_;obtain⟨rv5,k5,h⟩:=H1 h;refine A2X (A3D k5) eK R R R ((.row .nil)) R R R (A8F tb R R R R R ?_);refine A4l R R R R (tJ h ?_) (lJ h ?_)
   ·intro h;refine nU 16 R ?_;exact .inl ⟨(),h,.vq []⟩
   intro h;refine rU 5 R (I4 (y:=vI t.I3) tb (U5 (g:=E6.d) (R:P3 [t] 0=some t)) R ?_);refine Q4 R R R R (tJ h ?_) (lJ h ?_)
   ·intro h;refine nU 9 R ?_;exact .inl ⟨(),h,.vq []⟩
   intro h;refine rU 6 R (I4 (y:=vB t.I1) tb (U5 (g:=E6.d) (R:P3 [t] 0=some t)) R ?_);refine X8 (tI h ?_) (fI h ?_)
   ·intro c13 h;refine nU 2 R ?_;exact .inl ⟨(),h,.vq []⟩
   intro c13 h;refine nU 2 R (.inr (zF (D3 (A6 ?_))));exact .inl ⟨(),h,.vq []⟩
  intro h;refine nU 22 R (.inr (zF (D3 (A6 ?_))));exact .inl ⟨(),h,.vq []⟩
 intro h;refine Y9 (B8 (yX ?_));subst hK9;refine rY 1 R ?_;cases h;exact f1 2 R
def S8 (F:Nat) (c:E6) (who:Int):Option (Except Int E6):=(P3 c.A9 who).bind fun e=>(J4 F (decide (e=c.X3)) 171).bind fun rv=>exE rv (fun x=>some (.error x)) (fun v=>some (.ok c))
theorem M8 {F c who r} (h:S8 F c who=some r):SCX pg 220 [rf 0 13,dI who] (B8A c []) r 43 (fun(a:E6) => .d (.tup [])) (fun(a:E6)=>(B8A a [])):=by
 rw[S8]at h;refine oW Tryz.func220 ?_;refine A0V kR (rU 6 R ?_);obtain⟨e,ie,h⟩:=H1 h;refine Y1 tb R R R R R R (F0 ie) (ix1 ie) R R ?_;refine A15 (y:=vI e) tb R R R R (U5 (g:=fun a=>T.d (vI a)) ie) R R R R ?_;refine rU 5 R (A3s R R R R ?_);obtain⟨rv,k,h⟩:=H1 h;rcases eX h with⟨x,nv,h⟩ | ⟨v,nv,h⟩
 ·refine P0 kR kR (H8 [] ((E1 k).err nv) R eK R (.inl ⟨R,R,R⟩) R R R R .nil R ?_);intro cnt;cases h;exact M3 (L:=B8A c []) (κ:=[0,1,2,3]) vv (.inr ⟨_,R,R⟩)
 refine cO [] ((E1 k).ok nv) eK .nil R .nil .nil R (N0 kR ?_);cases h;exact A1R (fS [0,1,2,3] (.inl ⟨_,R,R,R⟩) R .nil vv)
def A1y (F:Nat) (B3:Int→Option Bool) (x:Int):Option Bool:=B3 (W (x+1))
def U2 (F:Nat) (c:E6) (so:(D1→Option Bool)) (K:Int→Option Bool):Nat→Int→Option Bool
 | 0,_=>none
 | n+1,x=>if x<(c.A4.length:Int)then((P3 c.A4 x).bind fun e=>if e=1 then((P3 c.O4 x).bind fun e2=>(so e2).bind fun rv=>if rv=true then(some true)else(A1y F (U2 F c so K n) x))else(A1y F (U2 F c so K n) x))else(K x)
def A2J (F:Nat) (c:E6) (so:(D1→Option Bool)):Option Bool:=U2 F c so (fun x=>some false) F 0
theorem A5t {F:Nat} {c:E6} {so:(D1→Option Bool)} {r:Bool} {soi:Nat} {soc:List D} (soh:∀ {a0:D1} {r:Bool},so a0=some r→PC pg soi ([D1.d a0]++soc) (.v (.bool r))) (soe:Ent pg soi) (h:A2J F c so=some r):SCR pg 221 [.d (.el 13 (([c]).map E6.d) ((0:Int)).toNat 0),.fn (.func soi) [] (soc.map .d)] [] (dB r) (ao some []):=by
 rw[A2J]at h;refine oW Tryz.func221 ?_;refine gY 1 R (B8 (gU 4 R (I4 (y:=aI c.A4) tb (U5 (g:=E6.d) (R:P3 [c] 0=some c)) R (I7 tb R (eU 1 R (E3 ?_))))));refine C3X (fun K3 m st=>∃ (x:Int),st=⟨[(0,.d (.el 13 (([c]).map E6.d) ((0:Int)).toNat 0)),(1,.fn (.func soi) [] (soc.map .d)),(4,dB false),(11,.d (aI c.A4)),(12,dI (c.A4.length:Int)),(13,dI x)],[]⟩∧U2 F c so K3 m x=some r) ⟨0,R,h⟩ (.prn [0,1,4,11,12,13] R) ?_;rintro K3 hK3 m3 _ ⟨x,rfl,h⟩;rw[U2]at h;refine qG ?_;refine Q4 R R R R (tJ h ?_) (lJ h ?_)
 ·intro h;refine Y9 (B8 (zT (B8 ?_)));refine W5 (fun zz:Unit=>A1y F (U2 F c so K3 m3) x=some r) (fun zz:Unit=>⟨[(0,.d (.el 13 (([c]).map E6.d) ((0:Int)).toNat 0)),(1,.fn (.func soi) [] (soc.map .d)),(4,dB false),(11,.d (aI c.A4)),(12,dI (c.A4.length:Int)),(13,dI x)],[]⟩) ?_ ?_
  ·clear h;rintro⟨⟩ h;rw[A1y]at h;refine hN 2 R ?_;exact bk ⟨(W (x+1)),R,h⟩ (.prn [0,1,4,11,12,13] R)
  refine E3 (gU 1 R ?_);obtain⟨e,ie,h⟩:=H1 h;refine yE ie R R (eU 2 R (gU 1 R ?_));refine Z3 R R R R (tJ h ?_) (nJ h ?_)
  ·intro h;refine rU 6 R (I4 (y := .arr 6 ((c.O4).map D1.d)) tb (U5 (g:=E6.d) (R:P3 [c] 0=some c)) R (rU 1 R ?_));obtain⟨e2,ie2,h⟩:=H1 h;refine yE ie2 R R ?_;obtain⟨rv,k,h⟩:=H1 h;refine A2W (vs:=[D1.d e2]) (soh k) soe R R R R ?_;refine X8 (tI h ?_) (fI h ?_)
   ·intro c4 h;refine eU 1 R (cY 1 R ?_);cases h;exact f1 4 R
   intro c4 h;refine eU 1 R (zF (D3 (A6 ?_)));exact .inl ⟨(),h,.prn [0,1,4,11,12,13] R⟩
  intro h;refine eU 12 R (zF (D3 (A6 ?_)));exact .inl ⟨(),h,.prn [0,1,4,11,12,13] R⟩
 intro h;refine Y9 (B8 (yX ?_));subst hK3;refine rY 1 R ?_;cases h;exact f1 4 R
def T0 (F:Nat) (s:(List Int)) (v:Int) (K:Int→Option Int):Nat→Int→Option Int
 | 0,_=>none
 | n+1,x=>if x<(s.length:Int)then((P3 s x).bind fun e=>if v=e then(some x)else(T0 F s v K n (W (x+1))))else(K x)
def A2x (F:Nat) (s:(List Int)) (v:Int):Option Int:=T0 F s v (fun x=>some (-1)) F 0
theorem A8n {F s v r} (h:A2x F s v=some r):PC pg 214 [aI s,vI v] (vI r):=by
 rw[A2x]at h;refine oW Tryz.func214 ?_;refine gY 1 R (B8 (gU 1 R (I7 tb R (eU 1 R (E3 ?_)))));refine C3X (fun K2 m st=>∃ (x:Int),st=⟨[(0,.d (aI s)),(1,dI v),(4,dI 0),(7,dI (s.length:Int)),(8,dI x)],[]⟩∧T0 F s v K2 m x=some r) ⟨0,R,h⟩ (.prn [0,1,4,7,8] R) ?_;rintro K2 hK2 m2 _ ⟨x,rfl,h⟩;rw[T0]at h;refine qG ?_;refine Q4 R R R R (tJ h ?_) (lJ h ?_)
 ·intro h;refine Y9 (B8 (zT (B8 (E3 (gY 2 R (gU 3 R ?_))))));obtain⟨e,ie,h⟩:=H1 h;refine yE ie R R ?_;refine Z3 R R R R (tJ h ?_) (nJ h ?_)
  ·intro h;refine Y9 (cY 2 R ?_);cases h;exact f1 4 R
  intro h;refine Y9 (zF (hN 2 R ?_));exact bk ⟨(W (x+1)),R,h⟩ (.prn [0,1,4,7,8] R)
 intro h;refine Y9 (B8 (yX ?_));subst hK2;refine rY 1 R ?_;cases h;exact f1 4 R
def S9 (F:Nat) (s:(List Int)) (v:Int):Option Bool:=(A2x F s v).bind fun rv=>some (decide (0≤rv))
theorem A1g {F s v r} (h:S9 F s v=some r):PC pg 175 [aI s,vI v] (vB r):=by
 rw[S9]at h;refine oW Tryz.func175 ?_;refine gY 1 R (gU 2 R ?_);obtain⟨rv,k,h⟩:=H1 h;refine J5 (A8n k) eK R R R R (A3k R R R R (eU 1 R (C9 ?_)));cases h;exact f1 4 R
def W0 (F:Nat) (s:(List G6)) (v:G6) (K:Int→Option Int):Nat→Int→Option Int
 | 0,_=>none
 | n+1,x=>if x<(s.length:Int)then((P3 s x).bind fun e=>if(G6.beq v e)=true then(some x)else(W0 F s v K n (W (x+1))))else(K x)
def A2k (F:Nat) (s:(List G6)) (v:G6):Option Int:=W0 F s v (fun x=>some (-1)) F 0
theorem A7o {F s v r} (h:A2k F s v=some r):PC pg 232 [.arr 2 ((s).map G6.d),G6.d v] (vI r):=by
 rw[A2k]at h;refine oW Tryz.func232 ?_;refine gY 2 R (B8 (gU 1 R (I7 tb R (eU 1 R (E3 ?_)))));refine C3X (fun K2 m st=>∃ (x:Int),st=⟨[(0,.d (.arr 2 ((s).map G6.d))),(3,rf 0 2),(4,dI 0),(7,dI (s.length:Int)),(8,dI x)],[bx 2 (.d (G6.d v))]⟩∧W0 F s v K2 m x=some r) ⟨0,R,h⟩ (.prn [0,3,4,7,8] R) ?_;rintro K2 hK2 m2 _ ⟨x,rfl,h⟩;rw[W0]at h;refine qG ?_;refine Q4 R R R R (tJ h ?_) (lJ h ?_)
 ·intro h;refine Y9 (B8 (zT (B8 (E3 (gY 2 R (B8 (T1 kR (rU 3 R ?_))))))));obtain⟨e,ie,h⟩:=H1 h;refine yE ie R R ?_;refine B9W (p:=[.int .i64 v.a,.int .i64 v.b]) (q:=[.int .i64 e.a,.int .i64 e.b]) R R (fun o1 o2 w=>C0z v e o1 o2 w) R R ?_;refine X8 (tI h ?_) (fI h ?_)
  ·intro c2 h;refine I0 kR (cY 2 R ?_);cases h;exact f1 4 R
  intro c2 h;refine I0 kR (zF (hN 2 R ?_));exact bk ⟨(W (x+1)),R,h⟩ (.prn [0,3,4,7,8] R)
 intro h;refine Y9 (B8 (yX ?_));subst hK2;refine rY 1 R ?_;cases h;exact f1 4 R
def Z1 (F:Nat) (s:(List G6)) (v:G6):Option Bool:=(A2k F s v).bind fun rv=>some (decide (0≤rv))
theorem A3q {F s v r} (h:Z1 F s v=some r):PC pg 219 [.arr 2 ((s).map G6.d),G6.d v] (vB r):=by
 rw[Z1]at h;refine oW Tryz.func219 ?_;refine gY 2 R (gU 2 R ?_);obtain⟨rv,k,h⟩:=H1 h;refine J5 (A7o k) eK R R R R (A3k R R R R (eU 1 R (C9 ?_)));cases h;exact f1 4 R
def A0z (F:Nat) (B19:Int→Option (Except Int E6)) (t:E6) (o:D2) (x3 e3:Int):Option (Except Int E6):=(A0g F t e3 o.what).bind fun rv10=>(J4 F rv10 174).bind fun rv11=>exE rv11 (fun x9=>some (.error x9)) (fun v7=>B19 (W (x3+1)))
def R3 (F:Nat) (t:E6) (rv7:(Int × D5)) (e6:F6) (K:Int→Option (Except Int E6)):Nat→Int→Option (Except Int E6)
 | 0,_=>none
 | n+1,x6=>if x6<(rv7.2.squibs.length:Int)then((P3 rv7.2.squibs x6).bind fun e7=>if(W ((W ((max (max (W (e6.L5-e7.A4s)) (W (e7.A4s-e6.L4))) 0)*(max (max (W (e6.L5-e7.A4s)) (W (e7.A4s-e6.L4))) 0)))+(W ((max (max (W (e6.L7-e7.A4t)) (W (e7.A4t-e6.L6))) 0)*(max (max (W (e6.L7-e7.A4t)) (W (e7.A4t-e6.L6))) 0)))))<(W (e7.clear*e7.clear))then(if t.I1=true then((P3 t.A4 x6).bind fun e8=>(J4 F (decide (e8=2)) 173).bind fun rv8=>exE rv8 (fun x7=>some (.error x7)) (fun v5=>R3 F t rv7 e6 K n (W (x6+1))))else((J4 F true 173).bind fun rv9=>exE rv9 (fun x8=>some (.error x8)) (fun v6=>R3 F t rv7 e6 K n (W (x6+1)))))else(R3 F t rv7 e6 K n (W (x6+1))))else(K x6)
def A00 (F:Nat) (B19:Int→Option (Except Int E6)) (t:E6) (o:D2) (x3 e3:Int):Option (Except Int E6):=(A30 F (D5.mk t.O0 t.V4 t.O3 t.A0r t.O4 t.X3 t.A0s) o.what).bind fun rv7=>if rv7.1<0 then(A0z F B19 t o x3 e3)else((P3 rv7.2.zones rv7.1).bind fun e6=>R3 F t rv7 e6 (fun x6=>A0z F B19 t o x3 e3) F 0)
def W7 (F:Nat) (t:E6) (o:D2) (e:Int) (A:(List Int)):Option (Except Int E6):=(A0f F {t with A9:=A} o.what).bind fun rv15=>if rv15=true then((J4 F false 176).bind fun rv16=>exE rv16 (fun x13=>some (.error x13)) (fun v10=>none))else((A0f F {t with A9:=A} e).bind fun rv17=>(J4 F (!rv17) 176).bind fun rv18=>exE rv18 (fun x14=>some (.error x14)) (fun v11=>some (.ok {t with A9:=A})))
def J9 (F:Nat) (o:D2) (y:(List Int)) (K:(List Int)→Int→Option (Except Int E6)):Nat→(List Int)→Int→Option (Except Int E6)
 | 0,_,_=>none
 | n+1,A,x10=>if x10<(y.length:Int)then((P3 y x10).bind fun e9=>(P3 A e9).bind fun e10=>(A5g A e9 o.what).bind fun A2=>J9 F o y K n A2 (W (x10+1)))else(K A x10)
def J0 (F:Nat) (t:E6) (o:D2) (y:(List Int)) (K:Int→Option (Except Int E6)):Nat→Int→Option (Except Int E6)
 | 0,_=>none
 | n+1,x3=>if x3<(y.length:Int)then((P3 y x3).bind fun e3=>if o.what<0 then((J4 F true 172).bind fun rv5=>exE rv5 (fun x4=>some (.error x4)) (fun v3=>A00 F (J0 F t o y K n) t o x3 e3))else((P3 t.O3 e3).bind fun e4=>(P3 t.O0 o.what).bind fun e5=>(J4 F (decide (e5.grade≤e4.grade)) 172).bind fun rv6=>exE rv6 (fun x5=>some (.error x5)) (fun v4=>A00 F (J0 F t o y K n) t o x3 e3)))else(K x3)
def A01 (F:Nat) (t:E6) (o:D2) (e:Int) (y:(List Int)):Option (Except Int E6):=J0 F t o y (fun x3=>J9 F o y (fun A x10=>if o.what<0 then((J4 F true 175).bind fun rv12=>exE rv12 (fun x11=>some (.error x11)) (fun v8=>W7 F t o e A))else((A03 F {t with A9:=A} o.what).bind fun rv13=>(P3 t.O0 o.what).bind fun e11=>(J4 F (decide (rv13≤e11.room)) 175).bind fun rv14=>exE rv14 (fun x12=>some (.error x12)) (fun v9=>W7 F t o e A))) F t.A9 0) F 0
def Z8 (F:Nat) (t:E6) (o:D2) (e:Int):Option (Except Int E6):=if 0≤o.with_ then((A8i [o.who] [o.with_]).bind fun q=>A01 F t o e q)else(A01 F t o e [o.who])
def A02 (F:Nat) (t:E6) (o:D2) (e:Int):Option (Except Int E6):=if o.with_<0 then((J4 F true 171).bind fun rv3=>exE rv3 (fun x=>some (.error x)) (fun v=>Z8 F t o e))else((P3 t.A9 o.with_).bind fun e2=>(J4 F (decide (e2=e)) 171).bind fun rv4=>exE rv4 (fun x2=>some (.error x2)) (fun v2=>Z8 F t o e))
def A2u (F:Nat) (t:E6) (o:D2):Option (Except Int E6):=(P3 t.A9 o.who).bind fun e=>(Z1 F t.V4 (G6.mk e o.what)).bind fun rv=>if rv=true then(A02 F t o e)else((Z1 F t.V4 (G6.mk o.what e)).bind fun rv2=>if rv2=true then(A02 F t o e)else((J4 F false 171).bind fun rv3=>exE rv3 (fun x=>some (.error x)) (fun v=>none)))
theorem A4Y {F t o r} (h:A2u F t o=some r):SCX pg 196 [rf 0 13,.d (D2.d o)] (B8A t []) r 43 (fun(a:E6) => .d (.tup [])) (fun(a:E6)=>(B8A a [])):=by
 rw[A2u]at h;refine oN Tryz.func196 ?_;refine S3 ?_;refine W3 fun df=>?_;refine hE 2 R (S3 ?_);refine W3 fun df=>?_;refine T1 kR (rU 7 R ?_);obtain⟨e,ie,h⟩:=H1 h;refine Y1 tb R R R R R R (F0 ie) (ix1 ie) R R ?_;refine A15 (y:=vI e) tb R R R R (U5 (g:=fun a=>T.d (vI a)) ie) R R R R ?_;refine rU 1 R (I0 kR (S3 ?_));refine A5V (fun zz:Unit=>A02 F t o e=some r) (fun zz:Unit=>⟨[(2,rf 4 1),(3,rf 5 5),(4,dI e),(5,dB true)],B8A t [bx 1 (rf 0 13),bx 5 (.d (D2.d o))]⟩) ?_ ?_
 ·clear h;rintro⟨⟩ h;rw[A02]at h;refine S3 ?_;refine A5V (fun zz:Unit=>Z8 F t o e=some r) (fun zz:Unit=>⟨[(2,rf 4 1),(3,rf 5 5),(4,dI e)],B8A t [bx 1 (rf 0 13),bx 5 (.d (D2.d o))]⟩) ?_ ?_
  ·clear h;rintro⟨⟩ h;rw[Z8]at h;refine S3 ?_;refine W3 fun df=>?_;refine hU 2 R (P7 tb R R R R R R R R R R R R R (eU 1 R (S3 ?_)));refine A5V (fun zz:(List Int)=>A01 F t o e zz=some r) (fun zz:(List Int)=>⟨[(2,rf 4 1),(3,rf 5 5),(4,dI e),(6,.row 6 1 0 (zz).length)],B8A t [bx 1 (rf 0 13),bx 5 (.d (D2.d o)),B0u zz]⟩) ?_ ?_
   ·clear h;rintro y h;rw[A01]at h;refine S3 (S3 ?_);refine W3 fun df=>?_;refine hU 1 R (A8F tb R R R R R (eU 1 R (A5A ?_)));refine D2S (fun K19 m st=>∃ (x3:Int),st=⟨[(2,rf 4 1),(3,rf 5 5),(4,dI e),(6,.row 6 1 0 (y).length),(74,.row 6 1 0 (y).length),(75,dI (y.length:Int)),(76,dI x3)],B8A t [bx 1 (rf 0 13),bx 5 (.d (D2.d o)),B0u y]⟩∧J0 F t o y K19 m x3=some r) ⟨0,R,h⟩ (.prn [2,3,4,6,74,75,76] R) ?_;rintro K19 hK19 m19 _ ⟨x3,rfl,h⟩;rw[J0]at h;refine S3 ?_;refine W3 fun df=>?_;refine J1 ?_;refine Q4 R R R R (tJ h ?_) (lJ h ?_)
    ·intro h;refine Y9 (S3 ?_);refine W3 fun df=>?_;refine zT (S3 (A5A (S3 ?_)));refine W3 fun df=>?_;refine J1 ?_;obtain⟨e3,ie3,h⟩:=H1 h;refine Y1 tb R R R R R R (F0 ie3) (ix1 ie3) R R ?_;refine A15 (y:=vI e3) tb R R R R (U5 (g:=fun a=>T.d (vI a)) ie3) R R R R ?_;refine eU 1 R (S3 ?_);refine A5V (fun zz:Unit=>A00 F (J0 F t o y K19 m19) t o x3 e3=some r) (fun zz:Unit=>⟨[(2,rf 4 1),(3,rf 5 5),(4,dI e),(6,.row 6 1 0 (y).length),(8,dI e3),(74,.row 6 1 0 (y).length),(75,dI (y.length:Int)),(76,dI x3)],B8A t [bx 1 (rf 0 13),bx 5 (.d (D2.d o)),B0u y]⟩) ?_ ?_
     ·clear h;rintro⟨⟩ h;rw[A00]at h;refine S3 ?_;refine A5V (fun zz:Unit=>A0z F (J0 F t o y K19 m19) t o x3 e3=some r) (fun zz:Unit=>⟨[(2,rf 4 1),(3,rf 5 5),(4,dI e),(6,.row 6 1 0 (y).length),(8,dI e3),(74,.row 6 1 0 (y).length),(75,dI (y.length:Int)),(76,dI x3)],B8A t [bx 1 (rf 0 13),bx 5 (.d (D2.d o)),B0u y]⟩) ?_ ?_
      ·clear h;rintro⟨⟩ h;rw[A0z]at h;refine W3 fun df=>?_;refine X0 (rU 4 R ?_);obtain⟨rv10,k10,h⟩:=H1 h;refine A19 (A27 k10) R eK R R ((.cons (.ref R ld) (dL (dL .nil)))) R R ?_;obtain⟨rv11,k11,h⟩:=H1 h;rcases eX h with⟨x9,nv7,h⟩ | ⟨v7,nv7,h⟩
       ·refine T2 (H8 [] ((E1 k11).err nv7) R eK R (.inl ⟨R,R,R⟩) R R R R .nil R ?_);intro cnt;refine Q0 (E9 (E9 (Q0 (E9 ?_))));cases h;exact M3 (L:=B8A t []) (κ:=[0,1,2,3]) vv (.inr ⟨_,R,R⟩)
       refine cO [] ((E1 k11).ok nv7) eK .nil R .nil .nil R (R2 ?_);refine W3 fun df=>?_;refine hN 2 R ?_;exact bk ⟨(W (x3+1)),R,h⟩ (.prn [2,3,4,6,74,75,76] R)
      refine S3 ?_;refine W3 fun df=>?_;refine T1 kR (rU 6 R ?_);obtain⟨rv7,k7,h⟩:=H1 h;refine A2X (A7k k7) eK R R R ((.cons R (.cons R .nil))) R R R (I0 kR (A5A ?_));refine A9S eK Tryz.func148 R R R R R R fun lb=>?_;simp only[L8,aZ,eo];refine U7 (U7 (A1h (A0u (rU 1 R ?_))));refine Q4 R R R R (tJ h ?_) (lJ h ?_)
      ·intro h;refine T7 (I8 (A3R R (A9v (A4F ?_))));refine⟨R,(B8A t [bx 1 (rf 0 13),bx 5 (.d (D2.d o)),B0u y,c1 (vI rv7.1),bx 7 (.d (D5.d rv7.2))]),[0,1,2,3,4,5,6,7,8],vv,?_⟩;refine D3 (A6 ?_);exact .inl ⟨(),h,.vq [0,1,2,3,4,5,6]⟩
      intro h;refine T7 (I8 (A1K R (A2O (I8 (U7 (A1h (A0u (rU 3 R ?_))))))));obtain⟨e6,ie6,h⟩:=H1 h;refine xE ie6 R (rU 1 R (lE ie6 R (rU 2 R (T7 (I8 (U7 (A1h (A0u (rU 2 R (I7 tb R (rU 1 R (T7 (I8 (A59 ?_))))))))))))));obtain⟨K27,hK27,h⟩:∃ K,K=_∧R3 F t rv7 e6 K F 0=some r:=⟨_,rfl,h⟩;refine A9Q (fun m ph st=>∃ (x6:Int),R3 F t rv7 e6 K27 m x6=some r∧ph=SX.norm∧st=⟨[(0,.d (.v (.func (.yield lb) #[] #[]))),(4,rf 9 4),(18,.d (.arr 6 ((rv7.2.squibs).map D1.d))),(19,dI (rv7.2.squibs.length:Int)),(20,dI x6)],B8A t [bx 1 (rf 0 13),bx 5 (.d (D2.d o)),B0u y,c1 (vI rv7.1),bx 7 (.d (D5.d rv7.2)),bx 4 (.d (.agg [vI e6.L5,vI e6.L4,vI e6.L7,vI e6.L6]))]⟩) (.prn [0,4,18,19,20] R) ⟨0,h,R,R⟩ ?_;clear h;rintro m27 ph st ⟨x6,h,rfl,rfl⟩;cases m27 with
      | zero=>cases(show(none:Option (Except Int E6))=some r from h)
      | succ m27 =>
      rw[R3]at h;refine U7 (A1h (A0u ?_));refine Q4 R R R R (tJ h ?_) (lJ h ?_)
      ·intro h;refine T7 (I8 (U7 (A3R R (A2O (I8 (U7 (A59 (U7 (A1h (A0u (rU 1 R ?_)))))))))));obtain⟨e7,ie7,h⟩:=H1 h;refine yE ie7 R R (rU 3 R (T7 (I8 (U7 (A9R (T1 kR (rU 14 R (A9L R R R R R (rU 14 R (A9L R R R R R (rU 2 R (I0 kR (I8 (U7 (A1h (A0u (rU 12 R ?_)))))))))))))))));refine Q4 R R R R (tJ h ?_) (lJ h ?_)
       ·intro h;refine rU 3 R (A99 ?_)
        (with_reducible apply A9M (ys:=[vI x6]));(iterate 7 exact rfl)
        dsimp only[B1H];refine hE 1 R ?_;refine⟨R,?_⟩;with_reducible apply B6U
        with_reducible apply C0i
        refine rU 5 R ?_;refine X8 (tI h ?_) (fI h ?_)
        ·intro c10 h;refine rU 8 R ?_;obtain⟨e8,ie8,h⟩:=H1 h;refine Y1 tb R R R R R R (F0 ie8) (ix1 ie8) R R ?_;refine A15 (y:=vI e8) tb R R R R (U5 (g:=fun a=>T.d (vI a)) ie8) R R R R ?_;refine A3s R R R R (rU 1 R ?_);obtain⟨rv8,k8,h⟩:=H1 h;rcases eX h with⟨x7,nv5,h⟩ | ⟨v5,nv5,h⟩
         ·refine T2 (H8 [] ((E1 k8).err nv5) R eK R (.inl ⟨R,R,R⟩) R R R R .nil R ?_);intro cnt;refine Q0 ?_;refine⟨(B8A t [bx 1 (rf 0 13),bx 5 (.d (D2.d o)),B0u y,c1 (vI rv7.1),bx 7 (.d (D5.d rv7.2)),bx 4 (.d (.agg [vI e6.L5,vI e6.L4,vI e6.L7,vI e6.L6])),bx 6 (.d (D1.d e7))]),[0,1,2,3,4,5,6,7,8,9,10],vv,R,?_⟩;with_reducible apply B8v
          refine A5B (A6R (A5B (A5B (A6R ?_))));refine⟨R,R,(B8A t [bx 1 (rf 0 13),bx 5 (.d (D2.d o)),B0u y,c1 (vI rv7.1),bx 7 (.d (D5.d rv7.2))]),[0,1,2,3,4,5,6,7,8],vv,?_⟩;refine Q0 (E9 (Q0 (E9 (E9 (Q0 (E9 ?_))))));cases h;exact M3 (L:=B8A t []) (κ:=[0,1,2,3]) vv (.inr ⟨_,R,R⟩)
         refine cO [] ((E1 k8).ok nv5) eK .nil R .nil .nil R (R2 (D3 ?_));refine⟨(B8A t [bx 1 (rf 0 13),bx 5 (.d (D2.d o)),B0u y,c1 (vI rv7.1),bx 7 (.d (D5.d rv7.2)),bx 4 (.d (.agg [vI e6.L5,vI e6.L4,vI e6.L7,vI e6.L6])),bx 6 (.d (D1.d e7))]),[0,1,2,3,4,5,6,7,8,9,10],vv,?_⟩;with_reducible apply B3t
         refine A0u (rU 2 R (T7 (I8 (A1K R (A2O (A3G (I8 (A1h (A0u (rU 2 R (T7 (I8 ?_))))))))))));exact bk ⟨(W (x6+1)),h,R,R⟩ (.vq [0,1,2,3,4,5,6,7,8,9])
        intro c10 h;refine rU 12 R ?_;obtain⟨rv9,k9,h⟩:=H1 h;rcases eX h with⟨x8,nv6,h⟩ | ⟨v6,nv6,h⟩
        ·refine T2 (H8 [] ((E1 k9).err nv6) R eK R (.inl ⟨R,R,R⟩) R R R R .nil R ?_);intro cnt;refine Q0 ?_;refine⟨(B8A t [bx 1 (rf 0 13),bx 5 (.d (D2.d o)),B0u y,c1 (vI rv7.1),bx 7 (.d (D5.d rv7.2)),bx 4 (.d (.agg [vI e6.L5,vI e6.L4,vI e6.L7,vI e6.L6])),bx 6 (.d (D1.d e7))]),[0,1,2,3,4,5,6,7,8,9,10],vv,R,?_⟩;with_reducible apply B8v
         refine A5B (A6R (A5B (A5B (A6R ?_))));refine⟨R,R,(B8A t [bx 1 (rf 0 13),bx 5 (.d (D2.d o)),B0u y,c1 (vI rv7.1),bx 7 (.d (D5.d rv7.2))]),[0,1,2,3,4,5,6,7,8],vv,?_⟩;refine Q0 (E9 (Q0 (E9 (E9 (Q0 (E9 ?_))))));cases h;exact M3 (L:=B8A t []) (κ:=[0,1,2,3]) vv (.inr ⟨_,R,R⟩)
        refine cO [] ((E1 k9).ok nv6) eK .nil R .nil .nil R (R2 (D3 ?_));refine⟨(B8A t [bx 1 (rf 0 13),bx 5 (.d (D2.d o)),B0u y,c1 (vI rv7.1),bx 7 (.d (D5.d rv7.2)),bx 4 (.d (.agg [vI e6.L5,vI e6.L4,vI e6.L7,vI e6.L6])),bx 6 (.d (D1.d e7))]),[0,1,2,3,4,5,6,7,8,9,10],vv,?_⟩;with_reducible apply B3t
        refine A0u (rU 2 R (T7 (I8 (A1K R (A2O (A3G (I8 (A1h (A0u (rU 2 R (T7 (I8 ?_))))))))))));exact bk ⟨(W (x6+1)),h,R,R⟩ (.vq [0,1,2,3,4,5,6,7,8,9])
       intro h;refine rU 6 R (T7 (I8 (A1K R (A2O (A3G (I8 (A1h (A0u (rU 2 R (T7 (I8 ?_)))))))))));exact bk ⟨(W (x6+1)),h,R,R⟩ (.vq [0,1,2,3,4,5,6,7,8,9])
      intro h;refine T7 (I8 (U7 (A1K R (B13 (A4E (A4E ?_))))));subst hK27;refine A76 ?_;refine⟨R,(B8A t [bx 1 (rf 0 13),bx 5 (.d (D2.d o)),B0u y,c1 (vI rv7.1),bx 7 (.d (D5.d rv7.2))]),[0,1,2,3,4,5,6,7,8],vv,?_⟩;refine D3 (A6 ?_);exact .inl ⟨(),h,.vq [0,1,2,3,4,5,6]⟩
     refine W3 fun df=>?_;refine A0V kR (rU 2 R ?_);refine Q4 R R R R (tJ h ?_) (lJ h ?_)
     ·intro h;refine rU 22 R ?_;obtain⟨rv5,k5,h⟩:=H1 h;rcases eX h with⟨x4,nv3,h⟩ | ⟨v3,nv3,h⟩
      ·refine P0 kR kR (H8 [] ((E1 k5).err nv3) R eK R (.inl ⟨R,R,R⟩) R R R R .nil R ?_);intro cnt;refine E9 (Q0 (E9 (E9 (Q0 (E9 ?_)))));cases h;exact M3 (L:=B8A t []) (κ:=[0,1,2,3]) vv (.inr ⟨_,R,R⟩)
      refine cO [] ((E1 k5).ok nv3) eK .nil R .nil .nil R (N0 kR (A6 ?_));exact .inl ⟨(),h,.prn [2,3,4,6,8,74,75,76] R⟩
     intro h;refine rU 7 R ?_;obtain⟨e4,ie4,h⟩:=H1 h;refine xE ie4 R (rU 1 R (lE ie4 R (rU 7 R ?_)));obtain⟨e5,ie5,h⟩:=H1 h;refine xE ie5 R (rU 1 R (lE ie5 R (A3k R R R R (rU 1 R ?_))));obtain⟨rv6,k6,h⟩:=H1 h;rcases eX h with⟨x5,nv4,h⟩ | ⟨v4,nv4,h⟩
     ·refine P0 kR kR (H8 [] ((E1 k6).err nv4) R eK R (.inl ⟨R,R,R⟩) R R R R .nil R ?_);intro cnt;refine E9 (Q0 (E9 (E9 (Q0 (E9 ?_)))));cases h;exact M3 (L:=B8A t []) (κ:=[0,1,2,3]) vv (.inr ⟨_,R,R⟩)
     refine cO [] ((E1 k6).ok nv4) eK .nil R .nil .nil R (N0 kR (A6 ?_));exact .inl ⟨(),h,.prn [2,3,4,6,8,74,75,76] R⟩
    intro h;refine Y9 (S3 ?_);refine W3 fun df=>?_;refine yX ?_;subst hK19;refine W3 fun df=>?_;refine B8 (gU 1 R (A8F tb R R R R R (eU 1 R (E3 ?_))));refine C3X (fun K30 m st=>∃ (A:(List Int)) (x10:Int),st=⟨[(2,rf 4 1),(3,rf 5 5),(4,dI e),(139,.row 6 1 0 (y).length),(140,dI (y.length:Int)),(141,dI x10)],[bx 13 (C6 {t with A9:=A} 1 2 3),B0u A,B0u t.A8,B0u t.A4,bx 1 (rf 0 13),bx 5 (.d (D2.d o)),B0u y]⟩∧J9 F o y K30 m A x10=some r) ⟨t.A9,0,R,h⟩ (.prn [2,3,4,139,140,141] R) ?_;rintro K30 hK30 m30 _ ⟨A,x10,rfl,h⟩;rw[J9]at h;refine qG ?_;refine Q4 R R R R (tJ h ?_) (lJ h ?_)
    ·intro h;refine Y9 (B8 (zT (B8 (E3 (qG ?_)))));obtain⟨e9,ie9,h⟩:=H1 h;refine Y1 tb R R R R R R (F0 ie9) (ix1 ie9) R R ?_;refine A15 (y:=vI e9) tb R R R R (U5 (g:=fun a=>T.d (vI a)) ie9) R R R R ?_;refine eU 1 R (T1 kR (rU 8 R ?_));obtain⟨e10,ie10,h⟩:=H1 h;refine Y1 tb R R R R R R (F0 ie10) (ix1 ie10) R R ?_;obtain⟨A2,iA2,h⟩:=H1 h;refine A5d (a':=(o.what:Int)) tb R R R R ie10 R R R R iA2 R R ?_;dsimp only[au,av,J2,C6];first | rw[A2a iA2] | skip
     refine I0 kR (hN 2 R ?_);exact bk ⟨A2,(W (x10+1)),R,h⟩ (.prn [2,3,4,139,140,141] R)
    intro h;refine Y9 (B8 (yX ?_));subst hK30;refine B8 ?_;refine W5 (fun zz:Unit=>W7 F t o e A=some r) (fun zz:Unit=>⟨[(2,rf 4 1),(3,rf 5 5),(4,dI e)],[bx 13 (C6 {t with A9:=A} 1 2 3),B0u A,B0u t.A8,B0u t.A4,bx 1 (rf 0 13),bx 5 (.d (D2.d o))]⟩) ?_ ?_
    ·clear h;rintro⟨⟩ h;rw[W7]at h;refine X0 (rU 3 R ?_);obtain⟨rv15,k15,h⟩:=H1 h;refine A4k (A3B k15) eK R R ((.cons (.ref R ld) (dL .nil))) R R (tI h ?_) (fI h ?_)
     ·intro c13 h;refine rU 7 R ?_;obtain⟨rv16,k16,h⟩:=H1 h;rcases eX h with⟨x13,nv10,h⟩ | ⟨v10,nv10,h⟩
      ·refine T2 (H8 [] ((E1 k16).err nv10) R eK R (.inl ⟨R,R,R⟩) R R R R .nil R ?_);intro cnt;cases h;exact M3 (L:=[bx 13 (C6 {t with A9:=A} 1 2 3),B0u A,B0u t.A8,B0u t.A4]) (κ:=[0,1,2,3]) vv (.inr ⟨_,R,R⟩)
      cases h
     intro c13 h;refine rU 4 R ?_;obtain⟨rv17,k17,h⟩:=H1 h;refine A19 (A3B k17) R eK R R ((.cons (.ref R ld) (dL .nil))) R R (rU 2 R ?_);obtain⟨rv18,k18,h⟩:=H1 h;rcases eX h with⟨x14,nv11,h⟩ | ⟨v11,nv11,h⟩
     ·refine T2 (H8 [] ((E1 k18).err nv11) R eK R (.inl ⟨R,R,R⟩) R R R R .nil R ?_);intro cnt;cases h;exact M3 (L:=[bx 13 (C6 {t with A9:=A} 1 2 3),B0u A,B0u t.A8,B0u t.A4]) (κ:=[0,1,2,3]) vv (.inr ⟨_,R,R⟩)
     refine cO [] ((E1 k18).ok nv11) eK .nil R .nil .nil R (R2 ?_);cases h;exact A1R (fS [0,1,2,3] (.inl ⟨_,R,R,R⟩) R .nil vv)
    refine A0V kR (rU 2 R ?_);refine Q4 R R R R (tJ h ?_) (lJ h ?_)
    ·intro h;refine rU 17 R ?_;obtain⟨rv12,k12,h⟩:=H1 h;rcases eX h with⟨x11,nv8,h⟩ | ⟨v8,nv8,h⟩
     ·refine P0 kR kR (H8 [] ((E1 k12).err nv8) R eK R (.inl ⟨R,R,R⟩) R R R R .nil R ?_);intro cnt;refine E9 ?_;cases h;exact M3 (L:=[bx 13 (C6 {t with A9:=A} 1 2 3),B0u A,B0u t.A8,B0u t.A4]) (κ:=[0,1,2,3]) vv (.inr ⟨_,R,R⟩)
     refine cO [] ((E1 k12).ok nv8) eK .nil R .nil .nil R (N0 kR (A6 ?_));exact .inl ⟨(),h,.vq [0,1,2,3,4,5]⟩
    intro h;refine rU 4 R ?_;obtain⟨rv13,k13,h⟩:=H1 h;refine A19 (A3C k13) R eK R R ((.cons (.ref R ld) (dL .nil))) R R (rU 7 R ?_);obtain⟨e11,ie11,h⟩:=H1 h;refine xE ie11 R (rU 1 R (lE ie11 R (B8a R R R R (rU 1 R ?_))));obtain⟨rv14,k14,h⟩:=H1 h;rcases eX h with⟨x12,nv9,h⟩ | ⟨v9,nv9,h⟩
    ·refine P0 kR kR (H8 [] ((E1 k14).err nv9) R eK R (.inl ⟨R,R,R⟩) R R R R .nil R ?_);intro cnt;refine E9 ?_;cases h;exact M3 (L:=[bx 13 (C6 {t with A9:=A} 1 2 3),B0u A,B0u t.A8,B0u t.A4]) (κ:=[0,1,2,3]) vv (.inr ⟨_,R,R⟩)
    refine cO [] ((E1 k14).ok nv9) eK .nil R .nil .nil R (N0 kR (A6 ?_));exact .inl ⟨(),h,.vq [0,1,2,3,4,5]⟩
   refine W3 fun df=>?_;refine gU 2 R ?_;refine A7I R R R R (tJ h ?_) (mJ h ?_)
   ·intro h;refine Y9 (C0 R (hU 3 R (P7 tb R R R R R R R R R R R R R ?_)));obtain⟨q,iq,h⟩:=H1 h;refine B2k (g:=vI) (w:=[o.who]) (v:=[o.with_]) (B8A t [bx 1 (rf 0 13),bx 5 (.d (D2.d o)),none,B0u [o.with_]]) tb R R R R R R R R R R R iq R R R R R (nU 1 R ?_);exact .inl ⟨q,h,.vq [0,1,2,3,4,5,8]⟩
   intro h;refine Y9 (zF (A6 ?_));exact .inl ⟨[o.who],h,.vq [0,1,2,3,4,5,6]⟩
  refine W3 fun df=>?_;refine A0V kR (rU 4 R ?_);refine Q4 R R R R (tJ h ?_) (lJ h ?_)
  ·intro h;refine rU 14 R ?_;obtain⟨rv3,k3,h⟩:=H1 h;rcases eX h with⟨x,nv,h⟩ | ⟨v,nv,h⟩
   ·refine P0 kR kR (H8 [] ((E1 k3).err nv) R eK R (.inl ⟨R,R,R⟩) R R R R .nil R ?_);intro cnt;refine E9 ?_;cases h;exact M3 (L:=B8A t []) (κ:=[0,1,2,3]) vv (.inr ⟨_,R,R⟩)
   refine cO [] ((E1 k3).ok nv) eK .nil R .nil .nil R (N0 kR (A6 ?_));exact .inl ⟨(),h,.prn [2,3,4] R⟩
  intro h;refine rU 8 R ?_;obtain⟨e2,ie2,h⟩:=H1 h;refine Y1 tb R R R R R R (F0 ie2) (ix1 ie2) R R ?_;refine A15 (y:=vI e2) tb R R R R (U5 (g:=fun a=>T.d (vI a)) ie2) R R R R ?_;refine rU 1 R (A3s R R R R (rU 2 R ?_));obtain⟨rv4,k4,h⟩:=H1 h;rcases eX h with⟨x2,nv2,h⟩ | ⟨v2,nv2,h⟩
  ·refine P0 kR kR (H8 [] ((E1 k4).err nv2) R eK R (.inl ⟨R,R,R⟩) R R R R .nil R ?_);intro cnt;refine E9 ?_;cases h;exact M3 (L:=B8A t []) (κ:=[0,1,2,3]) vv (.inr ⟨_,R,R⟩)
  refine cO [] ((E1 k4).ok nv2) eK .nil R .nil .nil R (N0 kR (A6 ?_));exact .inl ⟨(),h,.prn [2,3,4] R⟩
 refine W3 fun df=>?_;refine T1 kR (rU 8 R (S1 (v := .d (.agg [vI e,vI o.what])) tb R R cN R R R R R R ?_));obtain⟨rv,k,h⟩:=H1 h;refine M6 (A3q k) eK R R R R (tI h ?_) (fI h ?_)
 ·intro c h;refine rU 13 R (I0 kR (A6 ?_));exact .inl ⟨(),h,.prn [2,3,4,5] R⟩
 intro c h;refine rU 9 R (S1 (v := .d (.agg [vI o.what,vI e])) tb R R cN R R R R R R ?_);obtain⟨rv2,k2,h⟩:=H1 h;refine M6 (A3q k2) eK R R R R (tI h ?_) (fI h ?_)
 ·intro c2 h;refine rU 2 R (I0 kR (A6 ?_));exact .inl ⟨(),h,.prn [2,3,4,5] R⟩
 intro c2 h;refine rU 2 R (I0 kR (A6 (.inr (S3 ?_))));refine W3 fun df=>?_;refine A0V kR (rU 19 R ?_);obtain⟨rv3,k3,h⟩:=H1 h;rcases eX h with⟨x,nv,h⟩ | ⟨v,nv,h⟩
 ·refine P0 kR kR (H8 [] ((E1 k3).err nv) R eK R (.inl ⟨R,R,R⟩) R R R R .nil R ?_);intro cnt;refine E9 ?_;cases h;exact M3 (L:=B8A t []) (κ:=[0,1,2,3]) vv (.inr ⟨_,R,R⟩)
 cases h
def A2v (F:Nat) (q:D1) (c:D2):Option Bool:=(S9 F q.keys c.what).bind fun rv=>some rv
theorem A8m {F q c r} (h:A2v F q c=some r):PC pg 222 [D1.d q,.el 5 (([c]).map D2.d) ((0:Int)).toNat 0] (vB r):=by
 rw[A2v]at h;refine oW Tryz.func222 ?_;refine gY 2 R (gU 3 R (I4 (y:=vI c.what) tb (U5 (g:=D2.d) (R:P3 [c] 0=some c)) R ?_));obtain⟨rv,k,h⟩:=H1 h;refine J5 (A1g k) eK R R R R (eU 1 R (C9 ?_));cases h;exact f1 3 R
def A2w (F:Nat) (c:E6) (a:D2):Option (Except Int E6):=(S8 F c a.who).bind fun rv=>exE rv (fun x=>some (.error x)) (fun v=>(P3 v.A8 a.what).bind fun e=>(J4 F (decide (e<0)) 174).bind fun rv2=>exE rv2 (fun x2=>some (.error x2)) (fun v2=>(A2J F v (fun a0=>A2v F a0 a)).bind fun rv3=>(J4 F (!rv3) 177).bind fun rv4=>exE rv4 (fun x3=>some (.error x3)) (fun v3=>(A5g v.A8 a.what a.who).bind fun q=>some (.ok {v with A8:=q}))))
theorem A4Z {F c a r} (h:A2w F c a=some r):SCX pg 197 [rf 0 13,.d (D2.d a)] (B8A c []) r 43 (fun(a:E6) => .d (.tup [])) (fun(a:E6)=>(B8A a [])):=by
 rw[A2w]at h;refine oW Tryz.func197 ?_;refine gY 1 R (B8 (X0 (rU 3 R ?_)));obtain⟨rv,k,h⟩:=H1 h;rcases eX h with⟨x,nv,h⟩ | ⟨v,nv,h⟩
 ·refine T2 (H8 [0,1,2,3] ((M8 k).err nv) R eK R (.inl ⟨R,R,R⟩) R R R R (.cons R R C2C) R ?_);intro cnt;refine E9 ?_;cases h;exact M3 (L:=[none,none,none,none]) (κ:=[0,1,2,3]) vv (.inr ⟨_,R,R⟩)
 refine cO [0,1,2,3] ((M8 k).ok nv) eK ((.cons R R C2C)) R ((.cons R (.row (.row (.row .nil))))) .nil R (R2 (B8 (A0V kR (rU 7 R ?_))));obtain⟨e,ie,h⟩:=H1 h;refine Y1 tb R R R R R R (F0 ie) (ix1 ie) R R ?_;refine A15 (y:=vI e) tb R R R R (U5 (g:=fun a=>T.d (vI a)) ie) R R R R ?_;refine B8b R R R R ?_;obtain⟨rv2,k2,h⟩:=H1 h;rcases eX h with⟨x2,nv2,h⟩ | ⟨v2,nv2,h⟩
 ·refine P0 kR kR (H8 [] ((E1 k2).err nv2) R eK R (.inl ⟨R,R,R⟩) R R R R .nil R ?_);intro cnt;refine E9 ?_;cases h;exact M3 (L:=B8A v []) (κ:=[0,1,2,3]) vv (.inr ⟨_,R,R⟩)
 refine cO [] ((E1 k2).ok nv2) eK .nil R .nil .nil R (N0 kR (B8 (X0 (rU 1 R (A3E R R R R ?_)))));obtain⟨rv3,k3,h⟩:=H1 h;refine A0t (A5t (so:=(fun a0=>A2v F a0 a)) (soc:=[.el 5 [D2.d a] 0 0]) (soh:=fun hr=>A8m hr) (soe := .of kR) k3) R .nil eK R R ((.cons (.d (.ref R ld)) (.cons (.fnC (.cons (.d (.ref R (.d _))) .nil)) .nil))) R .nil R R R ?_;simp only[bb,aH];refine rU 1 R ?_;obtain⟨rv4,k4,h⟩:=H1 h;rcases eX h with⟨x3,nv3,h⟩ | ⟨v3,nv3,h⟩
 ·refine T2 (H8 [] ((E1 k4).err nv3) R eK R (.inl ⟨R,R,R⟩) R R R R .nil R ?_);intro cnt;refine E9 ?_;cases h;exact M3 (L:=B8A v []) (κ:=[0,1,2,3]) vv (.inr ⟨_,R,R⟩)
 refine cO [] ((E1 k4).ok nv3) eK .nil R .nil .nil R (R2 (T1 kR (rU 9 R (Y1 tb R R R R R R (F0 ie) (ix1 ie) R R ?_))));obtain⟨q,iq,h⟩:=H1 h;refine A5d (a':=(a.who:Int)) tb R R R R ie R R R R iq R R ?_;dsimp only[au,av,J2,C6];first | rw[A2a iq] | skip
 refine I0 kR ?_;cases h;exact A1R (fS [0,1,2,3] (.inl ⟨_,R,R,R⟩) R .nil vv)
def A2K (F:Nat) (c:E6) (a:D2):Option (Except Int E6):=(S8 F c a.who).bind fun rv=>exE rv (fun x=>some (.error x)) (fun v=>(P3 v.A8 a.what).bind fun e=>(J4 F (decide (e=a.who)) 174).bind fun rv2=>exE rv2 (fun x2=>some (.error x2)) (fun v2=>(A5g v.A8 a.what (-1)).bind fun q=>some (.ok {v with A8:=q})))
theorem A5u {F c a r} (h:A2K F c a=some r):SCX pg 198 [rf 0 13,.d (D2.d a)] (B8A c []) r 43 (fun(a:E6) => .d (.tup [])) (fun(a:E6)=>(B8A a [])):=by
 rw[A2K]at h;refine oW Tryz.func198 ?_;refine gY 1 R (B8 (X0 (rU 3 R ?_)));obtain⟨rv,k,h⟩:=H1 h;rcases eX h with⟨x,nv,h⟩ | ⟨v,nv,h⟩
 ·refine T2 (H8 [0,1,2,3] ((M8 k).err nv) R eK R (.inl ⟨R,R,R⟩) R R R R (.cons R R C2C) R ?_);intro cnt;refine E9 ?_;cases h;exact M3 (L:=[none,none,none,none]) (κ:=[0,1,2,3]) vv (.inr ⟨_,R,R⟩)
 refine cO [0,1,2,3] ((M8 k).ok nv) eK ((.cons R R C2C)) R ((.cons R (.row (.row (.row .nil))))) .nil R (R2 (B8 (A0V kR (rU 7 R ?_))));obtain⟨e,ie,h⟩:=H1 h;refine Y1 tb R R R R R R (F0 ie) (ix1 ie) R R ?_;refine A15 (y:=vI e) tb R R R R (U5 (g:=fun a=>T.d (vI a)) ie) R R R R ?_;refine rU 2 R (A3s R R R R ?_);obtain⟨rv2,k2,h⟩:=H1 h;rcases eX h with⟨x2,nv2,h⟩ | ⟨v2,nv2,h⟩
 ·refine P0 kR kR (H8 [] ((E1 k2).err nv2) R eK R (.inl ⟨R,R,R⟩) R R R R .nil R ?_);intro cnt;refine E9 ?_;cases h;exact M3 (L:=B8A v []) (κ:=[0,1,2,3]) vv (.inr ⟨_,R,R⟩)
 refine cO [] ((E1 k2).ok nv2) eK .nil R .nil .nil R (N0 kR (T1 kR (rU 7 R (Y1 tb R R R R R R (F0 ie) (ix1 ie) R R ?_))));obtain⟨q,iq,h⟩:=H1 h;refine A5d (a':=((-1):Int)) tb R R R R ie R R R R iq R R ?_;dsimp only[au,av,J2,C6];first | rw[A2a iq] | skip
 refine I0 kR ?_;cases h;exact A1R (fS [0,1,2,3] (.inl ⟨_,R,R,R⟩) R .nil vv)
def A2t (F:Nat) (c:E6) (a:D2):Option (Except Int E6):=(P3 c.A8 a.what).bind fun e=>(J4 F (decide (e=a.who)) 174).bind fun rv=>exE rv (fun x=>some (.error x)) (fun v=>(P3 c.A9 a.with_).bind fun e2=>(P3 c.A9 a.who).bind fun e3=>(J4 F (decide (e2=e3)) 171).bind fun rv2=>exE rv2 (fun x2=>some (.error x2)) (fun v2=>(A5g c.A8 a.what a.with_).bind fun q=>(A0g F {c with A8:=q} a.who e3).bind fun rv3=>(J4 F rv3 178).bind fun rv4=>exE rv4 (fun x3=>some (.error x3)) (fun v3=>some (.ok {c with A8:=q}))))
theorem A4X {F c a r} (h:A2t F c a=some r):SCX pg 199 [rf 0 13,.d (D2.d a)] (B8A c []) r 43 (fun(a:E6) => .d (.tup [])) (fun(a:E6)=>(B8A a [])):=by
 rw[A2t]at h;refine oW Tryz.func199 ?_;refine gY 1 R (B8 (A0V kR (rU 7 R ?_)));obtain⟨e,ie,h⟩:=H1 h;refine Y1 tb R R R R R R (F0 ie) (ix1 ie) R R ?_;refine A15 (y:=vI e) tb R R R R (U5 (g:=fun a=>T.d (vI a)) ie) R R R R ?_;refine rU 2 R (A3s R R R R ?_);obtain⟨rv,k,h⟩:=H1 h;rcases eX h with⟨x,nv,h⟩ | ⟨v,nv,h⟩
 ·refine P0 kR kR (H8 [] ((E1 k).err nv) R eK R (.inl ⟨R,R,R⟩) R R R R .nil R ?_);intro cnt;refine E9 ?_;cases h;exact M3 (L:=B8A c []) (κ:=[0,1,2,3]) vv (.inr ⟨_,R,R⟩)
 refine cO [] ((E1 k).ok nv) eK .nil R .nil .nil R (N0 kR (B8 (A0V kR (rU 7 R ?_))));obtain⟨e2,ie2,h⟩:=H1 h;refine Y1 tb R R R R R R (F0 ie2) (ix1 ie2) R R ?_;refine A15 (y:=vI e2) tb R R R R (U5 (g:=fun a=>T.d (vI a)) ie2) R R R R ?_;refine rU 7 R ?_;obtain⟨e3,ie3,h⟩:=H1 h;refine Y1 tb R R R R R R (F0 ie3) (ix1 ie3) R R ?_;refine A15 (y:=vI e3) tb R R R R (U5 (g:=fun a=>T.d (vI a)) ie3) R R R R ?_;refine A3s R R R R ?_;obtain⟨rv2,k2,h⟩:=H1 h;rcases eX h with⟨x2,nv2,h⟩ | ⟨v2,nv2,h⟩
 ·refine P0 kR kR (H8 [] ((E1 k2).err nv2) R eK R (.inl ⟨R,R,R⟩) R R R R .nil R ?_);intro cnt;refine E9 ?_;cases h;exact M3 (L:=B8A c []) (κ:=[0,1,2,3]) vv (.inr ⟨_,R,R⟩)
 refine cO [] ((E1 k2).ok nv2) eK .nil R .nil .nil R (N0 kR (B8 (T1 kR (rU 9 R (Y1 tb R R R R R R (F0 ie) (ix1 ie) R R ?_)))));obtain⟨q,iq,h⟩:=H1 h;refine A5d (a':=(a.with_:Int)) tb R R R R ie R R R R iq R R ?_;dsimp only[au,av,J2,C6];first | rw[A2a iq] | skip
 refine I0 kR (A0V kR (rU 10 R (Y1 tb R R R R R R (F0 ie3) (ix1 ie3) R R ?_)));refine A15 (y:=vI e3) tb R R R R (U5 (g:=fun a=>T.d (vI a)) ie3) R R R R ?_;obtain⟨rv3,k3,h⟩:=H1 h;refine A19 (A27 k3) R eK R R ((.cons (.ref R ld) (dL (dL .nil)))) R R ?_;obtain⟨rv4,k4,h⟩:=H1 h;rcases eX h with⟨x3,nv3,h⟩ | ⟨v3,nv3,h⟩
 ·refine P0 kR kR (H8 [] ((E1 k4).err nv3) R eK R (.inl ⟨R,R,R⟩) R R R R .nil R ?_);intro cnt;cases h;exact M3 (L:=[bx 13 (C6 {c with A8:=q} 1 2 3),B0u c.A9,B0u q,B0u c.A4]) (κ:=[0,1,2,3]) vv (.inr ⟨_,R,R⟩)
 refine cO [] ((E1 k4).ok nv3) eK .nil R .nil .nil R (N0 kR ?_);cases h;exact A1R (fS [0,1,2,3] (.inl ⟨_,R,R,R⟩) R .nil vv)
def A0M (F:Nat) (c:E6) (a:D2):Option (Except Int E6):=(S8 F c a.who).bind fun rv=>exE rv (fun x=>some (.error x)) (fun v=>(P3 v.O3 a.who).bind fun e=>(P3 v.O4 a.what).bind fun e2=>(J4 F (decide (e2.grade≤e.grade)) 172).bind fun rv2=>exE rv2 (fun x2=>some (.error x2)) (fun v2=>some (.ok v)))
theorem A18 {F c a r} (h:A0M F c a=some r):SCX pg 223 [rf 0 13,.d (D2.d a)] (B8A c []) r 43 (fun(a:E6) => .d (.tup [])) (fun(a:E6)=>(B8A a [])):=by
 rw[A0M]at h;refine oW Tryz.func223 ?_;refine gY 1 R (B8 (X0 (rU 3 R ?_)));obtain⟨rv,k,h⟩:=H1 h;rcases eX h with⟨x,nv,h⟩ | ⟨v,nv,h⟩
 ·refine T2 (H8 [0,1,2,3] ((M8 k).err nv) R eK R (.inl ⟨R,R,R⟩) R R R R (.cons R R C2C) R ?_);intro cnt;refine E9 ?_;cases h;exact M3 (L:=[none,none,none,none]) (κ:=[0,1,2,3]) vv (.inr ⟨_,R,R⟩)
 refine cO [0,1,2,3] ((M8 k).ok nv) eK ((.cons R R C2C)) R ((.cons R (.row (.row (.row .nil))))) .nil R (R2 (A0V kR (rU 7 R ?_)));obtain⟨e,ie,h⟩:=H1 h;refine xE ie R (rU 1 R (lE ie R (rU 7 R ?_)));obtain⟨e2,ie2,h⟩:=H1 h;refine xE ie2 R (rU 1 R (lE ie2 R (A3k R R R R ?_)));obtain⟨rv2,k2,h⟩:=H1 h;rcases eX h with⟨x2,nv2,h⟩ | ⟨v2,nv2,h⟩
 ·refine P0 kR kR (H8 [] ((E1 k2).err nv2) R eK R (.inl ⟨R,R,R⟩) R R R R .nil R ?_);intro cnt;cases h;exact M3 (L:=B8A v []) (κ:=[0,1,2,3]) vv (.inr ⟨_,R,R⟩)
 refine cO [] ((E1 k2).ok nv2) eK .nil R .nil .nil R (N0 kR ?_);cases h;exact A1R (fS [0,1,2,3] (.inl ⟨_,R,R,R⟩) R .nil vv)
def A2I (F:Nat) (c:E6) (a:D2):Option (Except Int E6):=(A0M F c a).bind fun rv=>exE rv (fun x=>some (.error x)) (fun v=>(P3 v.A4 a.what).bind fun e=>(J4 F (decide (e=0)) 177).bind fun rv2=>exE rv2 (fun x2=>some (.error x2)) (fun v2=>(J4 F (!v.I1) 173).bind fun rv3=>exE rv3 (fun x3=>some (.error x3)) (fun v3=>(A11 F v a.what).bind fun rv4=>(J4 F (decide ((rv4.length:Int)=0)) 174).bind fun rv5=>exE rv5 (fun x4=>some (.error x4)) (fun v4=>if 0≤v.I3 then((J4 F (decide (v.A0s≤(W (a.at_-v.I3)))) 179).bind fun rv6=>exE rv6 (fun x5=>some (.error x5)) (fun v5=>(A5g v.A4 a.what 1).bind fun q=>some (.ok {v with A4:=q})))else((J4 F false 179).bind fun rv7=>exE rv7 (fun x6=>some (.error x6)) (fun v6=>none))))))
theorem A5s {F c a r} (h:A2I F c a=some r):SCX pg 200 [rf 0 13,.d (D2.d a)] (B8A c []) r 43 (fun(a:E6) => .d (.tup [])) (fun(a:E6)=>(B8A a [])):=by
 rw[A2I]at h;refine oW Tryz.func200 ?_;refine gY 1 R (B8 (X0 (rU 2 R ?_)));obtain⟨rv,k,h⟩:=H1 h;rcases eX h with⟨x,nv,h⟩ | ⟨v,nv,h⟩
 ·refine T2 (H8 [0,1,2,3] ((A18 k).err nv) R eK R (.inl ⟨R,R,R⟩) R R R R (.cons R R C2C) R ?_);intro cnt;refine E9 ?_;cases h;exact M3 (L:=[none,none,none,none]) (κ:=[0,1,2,3]) vv (.inr ⟨_,R,R⟩)
 refine cO [0,1,2,3] ((A18 k).ok nv) eK ((.cons R R C2C)) R ((.cons R (.row (.row (.row .nil))))) .nil R (R2 (B8 (A0V kR (rU 7 R ?_))));obtain⟨e,ie,h⟩:=H1 h;refine Y1 tb R R R R R R (F0 ie) (ix1 ie) R R ?_;refine A15 (y:=vI e) tb R R R R (U5 (g:=fun a=>T.d (vI a)) ie) R R R R ?_;refine A3s R R R R ?_;obtain⟨rv2,k2,h⟩:=H1 h;rcases eX h with⟨x2,nv2,h⟩ | ⟨v2,nv2,h⟩
 ·refine P0 kR kR (H8 [] ((E1 k2).err nv2) R eK R (.inl ⟨R,R,R⟩) R R R R .nil R ?_);intro cnt;refine E9 ?_;cases h;exact M3 (L:=B8A v []) (κ:=[0,1,2,3]) vv (.inr ⟨_,R,R⟩)
 refine cO [] ((E1 k2).ok nv2) eK .nil R .nil .nil R (N0 kR (B8 (X0 (rU 6 R ?_))));obtain⟨rv3,k3,h⟩:=H1 h;rcases eX h with⟨x3,nv3,h⟩ | ⟨v3,nv3,h⟩
 ·refine T2 (H8 [] ((E1 k3).err nv3) R eK R (.inl ⟨R,R,R⟩) R R R R .nil R ?_);intro cnt;refine E9 ?_;cases h;exact M3 (L:=B8A v []) (κ:=[0,1,2,3]) vv (.inr ⟨_,R,R⟩)
 refine cO [] ((E1 k3).ok nv3) eK .nil R .nil .nil R (R2 (B8 (X0 (rU 3 R ?_))));obtain⟨rv4,k4,h⟩:=H1 h;refine A3j (A3D k4) R ((.row (fun _=>rfl) .nil)) eK R R ((.cons (.ref R ld) (dL .nil))) R ((.row .nil)) R R R ?_;refine A8F tb R R R R R (A3s R R R R ?_);obtain⟨rv5,k5,h⟩:=H1 h;rcases eX h with⟨x4,nv4,h⟩ | ⟨v4,nv4,h⟩
 ·refine T2 (H8 [] ((E1 k5).err nv4) R eK R (.inl ⟨R,R,R⟩) R R R R .nil R ?_);intro cnt;refine E9 ?_;cases h;exact M3 (L:=B8A v []) (κ:=[0,1,2,3]) vv (.inr ⟨_,R,R⟩)
 refine cO [] ((E1 k5).ok nv4) eK .nil R .nil .nil R (R2 (B8 (A0V kR (rU 5 R ?_))));refine A7I R R R R (tJ h ?_) (mJ h ?_)
 ·intro h;refine rU 14 R (A3k R R R R (rU 1 R ?_));obtain⟨rv6,k6,h⟩:=H1 h;rcases eX h with⟨x5,nv5,h⟩ | ⟨v5,nv5,h⟩
  ·refine P0 kR kR (H8 [] ((E1 k6).err nv5) R eK R (.inl ⟨R,R,R⟩) R R R R .nil R ?_);intro cnt;refine E9 ?_;cases h;exact M3 (L:=B8A v []) (κ:=[0,1,2,3]) vv (.inr ⟨_,R,R⟩)
  refine cO [] ((E1 k6).ok nv5) eK .nil R .nil .nil R (N0 kR (T1 kR (rU 7 R (Y1 tb R R R R R R (F0 ie) (ix1 ie) R R ?_))));obtain⟨q,iq,h⟩:=H1 h;refine A5d (a':=(1:Int)) tb R R R R ie R R R R iq R R ?_;dsimp only[au,av,J2,C6];first | rw[A2a iq] | skip
  refine I0 kR ?_;cases h;exact A1R (fS [0,1,2,3] (.inl ⟨_,R,R,R⟩) R .nil vv)
 intro h;refine rU 16 R ?_;obtain⟨rv7,k7,h⟩:=H1 h;rcases eX h with⟨x6,nv6,h⟩ | ⟨v6,nv6,h⟩
 ·refine P0 kR kR (H8 [] ((E1 k7).err nv6) R eK R (.inl ⟨R,R,R⟩) R R R R .nil R ?_);intro cnt;refine E9 ?_;cases h;exact M3 (L:=B8A v []) (κ:=[0,1,2,3]) vv (.inr ⟨_,R,R⟩)
 cases h
def A1z (F:Nat) (c:E6) (a:D2):Option (Except Int E6):=(S8 F c a.who).bind fun rv=>exE rv (fun x=>some (.error x)) (fun v=>(P3 v.A4 a.what).bind fun e=>(J4 F (decide (e=1)) 177).bind fun rv2=>exE rv2 (fun x2=>some (.error x2)) (fun v2=>(A5g v.A4 a.what 0).bind fun q=>some (.ok {v with A4:=q})))
theorem A4i {F c a r} (h:A1z F c a=some r):SCX pg 201 [rf 0 13,.d (D2.d a)] (B8A c []) r 43 (fun(a:E6) => .d (.tup [])) (fun(a:E6)=>(B8A a [])):=by
 rw[A1z]at h;refine oW Tryz.func201 ?_;refine gY 1 R (B8 (X0 (rU 3 R ?_)));obtain⟨rv,k,h⟩:=H1 h;rcases eX h with⟨x,nv,h⟩ | ⟨v,nv,h⟩
 ·refine T2 (H8 [0,1,2,3] ((M8 k).err nv) R eK R (.inl ⟨R,R,R⟩) R R R R (.cons R R C2C) R ?_);intro cnt;refine E9 ?_;cases h;exact M3 (L:=[none,none,none,none]) (κ:=[0,1,2,3]) vv (.inr ⟨_,R,R⟩)
 refine cO [0,1,2,3] ((M8 k).ok nv) eK ((.cons R R C2C)) R ((.cons R (.row (.row (.row .nil))))) .nil R (R2 (B8 (A0V kR (rU 7 R ?_))));obtain⟨e,ie,h⟩:=H1 h;refine Y1 tb R R R R R R (F0 ie) (ix1 ie) R R ?_;refine A15 (y:=vI e) tb R R R R (U5 (g:=fun a=>T.d (vI a)) ie) R R R R ?_;refine A3s R R R R ?_;obtain⟨rv2,k2,h⟩:=H1 h;rcases eX h with⟨x2,nv2,h⟩ | ⟨v2,nv2,h⟩
 ·refine P0 kR kR (H8 [] ((E1 k2).err nv2) R eK R (.inl ⟨R,R,R⟩) R R R R .nil R ?_);intro cnt;refine E9 ?_;cases h;exact M3 (L:=B8A v []) (κ:=[0,1,2,3]) vv (.inr ⟨_,R,R⟩)
 refine cO [] ((E1 k2).ok nv2) eK .nil R .nil .nil R (N0 kR (T1 kR (rU 7 R (Y1 tb R R R R R R (F0 ie) (ix1 ie) R R ?_))));obtain⟨q,iq,h⟩:=H1 h;refine A5d (a':=(0:Int)) tb R R R R ie R R R R iq R R ?_;dsimp only[au,av,J2,C6];first | rw[A2a iq] | skip
 refine I0 kR ?_;cases h;exact A1R (fS [0,1,2,3] (.inl ⟨_,R,R,R⟩) R .nil vv)
def A2r (F:Nat) (c:E6) (a:D2):Option (Except Int E6):=(A0M F c a).bind fun rv=>exE rv (fun x=>some (.error x)) (fun v=>(P3 v.A4 a.what).bind fun e=>(J4 F (decide (e=1)) 177).bind fun rv2=>exE rv2 (fun x2=>some (.error x2)) (fun v2=>(A5g v.A4 a.what 2).bind fun q=>some (.ok {v with A4:=q})))
theorem A4W {F c a r} (h:A2r F c a=some r):SCX pg 202 [rf 0 13,.d (D2.d a)] (B8A c []) r 43 (fun(a:E6) => .d (.tup [])) (fun(a:E6)=>(B8A a [])):=by
 rw[A2r]at h;refine oW Tryz.func202 ?_;refine gY 1 R (B8 (X0 (rU 2 R ?_)));obtain⟨rv,k,h⟩:=H1 h;rcases eX h with⟨x,nv,h⟩ | ⟨v,nv,h⟩
 ·refine T2 (H8 [0,1,2,3] ((A18 k).err nv) R eK R (.inl ⟨R,R,R⟩) R R R R (.cons R R C2C) R ?_);intro cnt;refine E9 ?_;cases h;exact M3 (L:=[none,none,none,none]) (κ:=[0,1,2,3]) vv (.inr ⟨_,R,R⟩)
 refine cO [0,1,2,3] ((A18 k).ok nv) eK ((.cons R R C2C)) R ((.cons R (.row (.row (.row .nil))))) .nil R (R2 (B8 (A0V kR (rU 7 R ?_))));obtain⟨e,ie,h⟩:=H1 h;refine Y1 tb R R R R R R (F0 ie) (ix1 ie) R R ?_;refine A15 (y:=vI e) tb R R R R (U5 (g:=fun a=>T.d (vI a)) ie) R R R R ?_;refine A3s R R R R ?_;obtain⟨rv2,k2,h⟩:=H1 h;rcases eX h with⟨x2,nv2,h⟩ | ⟨v2,nv2,h⟩
 ·refine P0 kR kR (H8 [] ((E1 k2).err nv2) R eK R (.inl ⟨R,R,R⟩) R R R R .nil R ?_);intro cnt;refine E9 ?_;cases h;exact M3 (L:=B8A v []) (κ:=[0,1,2,3]) vv (.inr ⟨_,R,R⟩)
 refine cO [] ((E1 k2).ok nv2) eK .nil R .nil .nil R (N0 kR (T1 kR (rU 7 R (Y1 tb R R R R R R (F0 ie) (ix1 ie) R R ?_))));obtain⟨q,iq,h⟩:=H1 h;refine A5d (a':=(2:Int)) tb R R R R ie R R R R iq R R ?_;dsimp only[au,av,J2,C6];first | rw[A2a iq] | skip
 refine I0 kR ?_;cases h;exact A1R (fS [0,1,2,3] (.inl ⟨_,R,R,R⟩) R .nil vv)
def A1W (F:Nat) (a:D1):Option Bool:=some true
theorem A7H {F a r} (h:A1W F a=some r):PC pg 224 [D1.d a] (vB r):=by
 rw[A1W]at h;refine oW Tryz.func224 ?_;refine gY 2 R (rY 1 R ?_);cases h;exact f1 2 R
def A1X (F:Nat) (c:E6) (a:D2):Option (Except Int E6):=if a.what=1 then((S8 F c a.who).bind fun rv=>exE rv (fun x=>some (.error x)) (fun v=>(J4 F ((decide (0≤v.I3)) != true) 177).bind fun rv2=>exE rv2 (fun x2=>some (.error x2)) (fun v2=>(J4 F true 179).bind fun rv3=>exE rv3 (fun x3=>some (.error x3)) (fun v3=>some (.ok {v with I3:=a.at_})))))else((S8 F c a.who).bind fun rv4=>exE rv4 (fun x4=>some (.error x4)) (fun v4=>(J4 F ((decide (0≤v4.I3)) != false) 177).bind fun rv5=>exE rv5 (fun x5=>some (.error x5)) (fun v5=>(A2J F v4 (fun a0=>A1W F a0)).bind fun rv6=>(J4 F (!rv6) 179).bind fun rv7=>exE rv7 (fun x6=>some (.error x6)) (fun v6=>some (.ok {v4 with I3:=(-1)})))))
theorem A4w {F c a r} (h:A1X F c a=some r):SCX pg 203 [rf 0 13,.d (D2.d a)] (B8A c []) r 43 (fun(a:E6) => .d (.tup [])) (fun(a:E6)=>(B8A a [])):=by
 rw[A1X]at h;refine oW Tryz.func203 ?_;refine gY 1 R (gU 2 R ?_);refine Z3 R R R R (tJ h ?_) (nJ h ?_)
 ·intro h;refine eU 1 R (B8 (X0 (rU 3 R ?_)));obtain⟨rv,k,h⟩:=H1 h;rcases eX h with⟨x,nv,h⟩ | ⟨v,nv,h⟩
  ·refine T2 (H8 [0,1,2,3] ((M8 k).err nv) R eK R (.inl ⟨R,R,R⟩) R R R R (.cons R R C2C) R ?_);intro cnt;refine E9 ?_;cases h;exact M3 (L:=[none,none,none,none]) (κ:=[0,1,2,3]) vv (.inr ⟨_,R,R⟩)
  refine cO [0,1,2,3] ((M8 k).ok nv) eK ((.cons R R C2C)) R ((.cons R (.row (.row (.row .nil))))) .nil R (R2 (B8 (X0 (rU 5 R (A3k R R R R (rU 1 R (A57 R R R R R ?_)))))));obtain⟨rv2,k2,h⟩:=H1 h;rcases eX h with⟨x2,nv2,h⟩ | ⟨v2,nv2,h⟩
  ·refine T2 (H8 [] ((E1 k2).err nv2) R eK R (.inl ⟨R,R,R⟩) R R R R .nil R ?_);intro cnt;refine E9 ?_;cases h;exact M3 (L:=B8A v []) (κ:=[0,1,2,3]) vv (.inr ⟨_,R,R⟩)
  refine cO [] ((E1 k2).ok nv2) eK .nil R .nil .nil R (R2 (B8 (X0 (rU 6 R ?_))));obtain⟨rv3,k3,h⟩:=H1 h;rcases eX h with⟨x3,nv3,h⟩ | ⟨v3,nv3,h⟩
  ·refine T2 (H8 [] ((E1 k3).err nv3) R eK R (.inl ⟨R,R,R⟩) R R R R .nil R ?_);intro cnt;refine E9 ?_;cases h;exact M3 (L:=B8A v []) (κ:=[0,1,2,3]) vv (.inr ⟨_,R,R⟩)
  refine cO [] ((E1 k3).ok nv3) eK .nil R .nil .nil R (R2 (gY 5 R (gY 1 R (C0 R (hE 7 R ?_)))));cases h;exact A1R (fS [0,1,2,3] (.inl ⟨_,R,R,R⟩) R .nil vv)
 intro h;refine eU 1 R (B8 (X0 (rU 3 R ?_)));obtain⟨rv4,k4,h⟩:=H1 h;rcases eX h with⟨x4,nv4,h⟩ | ⟨v4,nv4,h⟩
 ·refine T2 (H8 [0,1,2,3] ((M8 k4).err nv4) R eK R (.inl ⟨R,R,R⟩) R R R R (.cons R R C2C) R ?_);intro cnt;refine E9 ?_;cases h;exact M3 (L:=[none,none,none,none]) (κ:=[0,1,2,3]) vv (.inr ⟨_,R,R⟩)
 refine cO [0,1,2,3] ((M8 k4).ok nv4) eK ((.cons R R C2C)) R ((.cons R (.row (.row (.row .nil))))) .nil R (R2 (B8 (X0 (rU 5 R (A3k R R R R (rU 1 R (A57 R R R R R ?_)))))));obtain⟨rv5,k5,h⟩:=H1 h;rcases eX h with⟨x5,nv5,h⟩ | ⟨v5,nv5,h⟩
 ·refine T2 (H8 [] ((E1 k5).err nv5) R eK R (.inl ⟨R,R,R⟩) R R R R .nil R ?_);intro cnt;refine E9 ?_;cases h;exact M3 (L:=B8A v4 []) (κ:=[0,1,2,3]) vv (.inr ⟨_,R,R⟩)
 refine cO [] ((E1 k5).ok nv5) eK .nil R .nil .nil R (R2 (B8 (X0 (rU 3 R ?_))));obtain⟨rv6,k6,h⟩:=H1 h;refine A0t (A5t (so:=(fun a0=>A1W F a0)) (soc:=[]) (soh:=fun hr=>A7H hr) (soe := .of kR) k6) R .nil eK R R ((.cons (.d (.ref R ld)) (.cons .fnc .nil))) R .nil R R R ?_;simp only[bb,aH];refine rU 2 R ?_;obtain⟨rv7,k7,h⟩:=H1 h;rcases eX h with⟨x6,nv6,h⟩ | ⟨v6,nv6,h⟩
 ·refine T2 (H8 [] ((E1 k7).err nv6) R eK R (.inl ⟨R,R,R⟩) R R R R .nil R ?_);intro cnt;refine E9 ?_;cases h;exact M3 (L:=B8A v4 []) (κ:=[0,1,2,3]) vv (.inr ⟨_,R,R⟩)
 refine cO [] ((E1 k7).ok nv6) eK .nil R .nil .nil R (R2 (gY 5 R (gY 1 R (zF ?_))));cases h;exact A1R (fS [0,1,2,3] (.inl ⟨_,R,R,R⟩) R .nil vv)
def O7 (F:Nat) (K:(List Int)→Int→Int→Option (Except Int E6)):Nat→(List Int)→Int→Int→Option (Except Int E6)
 | 0,_,_,_=>none
 | n+1,c3,x2,x3=>if x3<x2 then((P3 c3 x3).bind fun e=>if e=1 then((A5g c3 x3 0).bind fun c6=>O7 F K n c6 x2 (W (x3+1)))else(O7 F K n c3 x2 (W (x3+1))))else(K c3 x2 x3)
def P9 (F:Nat) (K:(List Int)→Int→Int→Option (Except Int E6)):Nat→(List Int)→Int→Int→Option (Except Int E6)
 | 0,_,_,_=>none
 | n+1,c7,x5,x6=>if x6<x5 then((P3 c7 x6).bind fun e2=>P9 F K n c7 x5 (W (x6+1)))else(K c7 x5 x6)
def A0Z (F:Nat) (c:E6) (a:D2):Option (Except Int E6):=if a.what=1 then((J4 F (c.I1 != true) 177).bind fun rv=>exE rv (fun x=>some (.error x)) (fun v=>O7 F (fun c3 x2 x3=>some (.ok {c with A4:=c3,I1:=true})) F c.A4 (c.A4.length:Int) 0))else((J4 F (c.I1 != false) 177).bind fun rv2=>exE rv2 (fun x4=>some (.error x4)) (fun v2=>P9 F (fun c7 x5 x6=>some (.ok {c with A4:=c7,I1:=false})) F c.A4 (c.A4.length:Int) 0))
theorem A3P {F c a r} (h:A0Z F c a=some r):SCX pg 204 [rf 0 13,.d (D2.d a)] (B8A c []) r 43 (fun(a:E6) => .d (.tup [])) (fun(a:E6)=>(B8A a [])):=by
 rw[A0Z]at h;refine oW Tryz.func204 ?_;refine gY 1 R (gU 2 R ?_);refine Z3 R R R R (tJ h ?_) (nJ h ?_)
 ·intro h;refine eU 1 R (B8 (X0 (rU 6 R (A57 R R R R R ?_))));obtain⟨rv,k,h⟩:=H1 h;rcases eX h with⟨x,nv,h⟩ | ⟨v,nv,h⟩
  ·refine T2 (H8 [] ((E1 k).err nv) R eK R (.inl ⟨R,R,R⟩) R R R R .nil R ?_);intro cnt;refine E9 ?_;cases h;exact M3 (L:=B8A c []) (κ:=[0,1,2,3]) vv (.inr ⟨_,R,R⟩)
  refine cO [] ((E1 k).ok nv) eK .nil R .nil .nil R (R2 (gY 6 R (gU 5 R (A8F tb R R R R R (eU 1 R (E3 ?_))))));refine C3X (fun K2 m st=>∃ (c3:(List Int)) (x2:Int) (x3:Int),st=⟨[(0,rf 0 13),(4,dB true),(27,.row 3 1 0 (c3).length),(28,dI x2),(29,dI x3)],[bx 13 (C6 {c with A4:=c3,I1:=true} 1 2 3),B0u c.A9,B0u c.A8,B0u c3]⟩∧O7 F K2 m c3 x2 x3=some r) ⟨c.A4,(c.A4.length:Int),0,R,h⟩ (.vq [0,1,2,3]) ?_;rintro K2 hK2 m2 _ ⟨c3,x2,x3,rfl,h⟩;rw[O7]at h;refine qG ?_;refine Q4 R R R R (tJ h ?_) (lJ h ?_)
  ·intro h;refine Y9 (B8 (zT (B8 (E3 (gU 1 R ?_)))));obtain⟨e,ie,h⟩:=H1 h;refine Y1 tb R R R R R R (F0 ie) (ix1 ie) R R ?_;refine A15 (y:=vI e) tb R R R R (U5 (g:=fun a=>T.d (vI a)) ie) R R R R ?_;refine eU 2 R (gU 3 R ?_);refine Z3 R R R R (tJ h ?_) (nJ h ?_)
   ·intro h;refine eU 1 R (C0 R (hU 6 R (Y1 tb R R R R R R (F0 ie) (ix1 ie) R R ?_)));obtain⟨c6,ic6,h⟩:=H1 h;refine A5d (a':=(0:Int)) tb R R R R ie R R R R ic6 R R ?_;dsimp only[au,av,J2,C6];first | rw[A2a ic6] | skip
    refine Y9 (hN 2 R ?_);exact bk ⟨c6,x2,(W (x3+1)),R,h⟩ (.prn [0,4,27,28,29] R)
   intro h;refine eU 1 R (zF (hN 2 R ?_));exact bk ⟨c3,x2,(W (x3+1)),R,h⟩ (.prn [0,4,27,28,29] R)
  intro h;refine Y9 (B8 (yX ?_));subst hK2;refine I5 ?_;cases h;exact A1R (fS [0,1,2,3] (.inl ⟨_,R,R,R⟩) R .nil vv)
 intro h;refine eU 1 R (B8 (X0 (rU 6 R (A57 R R R R R ?_))));obtain⟨rv2,k2,h⟩:=H1 h;rcases eX h with⟨x4,nv2,h⟩ | ⟨v2,nv2,h⟩
 ·refine T2 (H8 [] ((E1 k2).err nv2) R eK R (.inl ⟨R,R,R⟩) R R R R .nil R ?_);intro cnt;refine E9 ?_;cases h;exact M3 (L:=B8A c []) (κ:=[0,1,2,3]) vv (.inr ⟨_,R,R⟩)
 refine cO [] ((E1 k2).ok nv2) eK .nil R .nil .nil R (R2 (gY 6 R (gU 5 R (A8F tb R R R R R (eU 1 R (E3 ?_))))));refine C3X (fun K3 m st=>∃ (c7:(List Int)) (x5:Int) (x6:Int),st=⟨[(0,rf 0 13),(4,dB false),(27,.row 3 1 0 (c7).length),(28,dI x5),(29,dI x6)],[bx 13 (C6 {c with A4:=c7,I1:=false} 1 2 3),B0u c.A9,B0u c.A8,B0u c7]⟩∧P9 F K3 m c7 x5 x6=some r) ⟨c.A4,(c.A4.length:Int),0,R,h⟩ (.vq [0,1,2,3]) ?_;rintro K3 hK3 m3 _ ⟨c7,x5,x6,rfl,h⟩;rw[P9]at h;refine qG ?_;refine Q4 R R R R (tJ h ?_) (lJ h ?_)
 ·intro h;refine Y9 (B8 (zT (B8 (E3 (gU 1 R ?_)))));obtain⟨e2,ie2,h⟩:=H1 h;refine Y1 tb R R R R R R (F0 ie2) (ix1 ie2) R R ?_;refine A15 (y:=vI e2) tb R R R R (U5 (g:=fun a=>T.d (vI a)) ie2) R R R R ?_;refine eU 2 R (gY 5 R (zF (hN 2 R ?_)));exact bk ⟨c7,x5,(W (x6+1)),R,h⟩ (.prn [0,4,27,28,29] R)
 intro h;refine Y9 (B8 (yX ?_));subst hK3;refine I5 ?_;cases h;exact A1R (fS [0,1,2,3] (.inl ⟨_,R,R,R⟩) R .nil vv)
def B4a (F:Nat):Option Unit:=some ()
theorem B4b {F r} (h:B4a F =some r):PC pg 157 [] (.agg [.v .nilFunc,.v (.func (.func 196) #[] #[]),.v (.func (.func 197) #[] #[]),.v (.func (.func 198) #[] #[]),.v (.func (.func 199) #[] #[]),.v (.func (.func 200) #[] #[]),.v (.func (.func 201) #[] #[]),.v (.func (.func 202) #[] #[]),.v (.func (.func 203) #[] #[]),.v (.func (.func 204) #[] #[])]):=by
 rw[B4a]at h;refine oW Tryz.func157 ?_;refine gY 1 R (qG (B4h (v := .d (.agg [.v .nilFunc,.v (.func (.func 196) #[] #[]),.v (.func (.func 197) #[] #[]),.v (.func (.func 198) #[] #[]),.v (.func (.func 199) #[] #[]),.v (.func (.func 200) #[] #[]),.v (.func (.func 201) #[] #[]),.v (.func (.func 202) #[] #[]),.v (.func (.func 203) #[] #[]),.v (.func (.func 204) #[] #[])])) tb R R R R R R R R R (eU 1 R (C9 ?_))));cases h;exact f0 R R R (qC R .nil)
def A1J (F:Nat) (a:D2) (c11:(List F6)) (c12:(List G6)) (c13:(List E2)) (c14:(List ByteArray)) (c15:(List D1)) (c16 c17 c18:Int) (c19 c20 c21:(List Int)) (c22:Int) (c23:Bool):Option (C3 × Int):=some ((C3.mk a.at_ c19 c20 c21 c22 c23),0)
def A9J (F:Nat) (p:D5) (s:C3) (a:D2):Option (C3 × Int):=(A56 F p s).bind fun rv=>B2S rv (none) (fun t=>(J4 F (decide (t.N7≤a.at_)) 170).bind fun rv2=>exE rv2 (fun x=>some ((C3.mk 0 ([]:List Int) ([]:List Int) ([]:List Int) 0 false),x)) (fun v=>if a.kind=0 then(none)else if a.kind=1 then((A2u F t a).bind fun rv3=>exE rv3 (fun x3=>some ((C3.mk 0 ([]:List Int) ([]:List Int) ([]:List Int) 0 false),x3)) (fun v2=>A1J F a v2.O0 v2.V4 v2.O3 v2.A0r v2.O4 v2.X3 v2.A0s v2.N7 v2.A9 v2.A8 v2.A4 v2.I3 v2.I1))else if a.kind=2 then((A2w F t a).bind fun rv4=>exE rv4 (fun x5=>some ((C3.mk 0 ([]:List Int) ([]:List Int) ([]:List Int) 0 false),x5)) (fun v3=>A1J F a v3.O0 v3.V4 v3.O3 v3.A0r v3.O4 v3.X3 v3.A0s v3.N7 v3.A9 v3.A8 v3.A4 v3.I3 v3.I1))else if a.kind=3 then((A2K F t a).bind fun rv5=>exE rv5 (fun x7=>some ((C3.mk 0 ([]:List Int) ([]:List Int) ([]:List Int) 0 false),x7)) (fun v4=>A1J F a v4.O0 v4.V4 v4.O3 v4.A0r v4.O4 v4.X3 v4.A0s v4.N7 v4.A9 v4.A8 v4.A4 v4.I3 v4.I1))else if a.kind=4 then((A2t F t a).bind fun rv6=>exE rv6 (fun x9=>some ((C3.mk 0 ([]:List Int) ([]:List Int) ([]:List Int) 0 false),x9)) (fun v5=>A1J F a v5.O0 v5.V4 v5.O3 v5.A0r v5.O4 v5.X3 v5.A0s v5.N7 v5.A9 v5.A8 v5.A4 v5.I3 v5.I1))else if a.kind=5 then((A2I F t a).bind fun rv7=>exE rv7 (fun x11=>some ((C3.mk 0 ([]:List Int) ([]:List Int) ([]:List Int) 0 false),x11)) (fun v6=>A1J F a v6.O0 v6.V4 v6.O3 v6.A0r v6.O4 v6.X3 v6.A0s v6.N7 v6.A9 v6.A8 v6.A4 v6.I3 v6.I1))else if a.kind=6 then((A1z F t a).bind fun rv8=>exE rv8 (fun x13=>some ((C3.mk 0 ([]:List Int) ([]:List Int) ([]:List Int) 0 false),x13)) (fun v7=>A1J F a v7.O0 v7.V4 v7.O3 v7.A0r v7.O4 v7.X3 v7.A0s v7.N7 v7.A9 v7.A8 v7.A4 v7.I3 v7.I1))else if a.kind=7 then((A2r F t a).bind fun rv9=>exE rv9 (fun x15=>some ((C3.mk 0 ([]:List Int) ([]:List Int) ([]:List Int) 0 false),x15)) (fun v8=>A1J F a v8.O0 v8.V4 v8.O3 v8.A0r v8.O4 v8.X3 v8.A0s v8.N7 v8.A9 v8.A8 v8.A4 v8.I3 v8.I1))else if a.kind=8 then((A1X F t a).bind fun rv10=>exE rv10 (fun x17=>some ((C3.mk 0 ([]:List Int) ([]:List Int) ([]:List Int) 0 false),x17)) (fun v9=>A1J F a v9.O0 v9.V4 v9.O3 v9.A0r v9.O4 v9.X3 v9.A0s v9.N7 v9.A9 v9.A8 v9.A4 v9.I3 v9.I1))else if a.kind=9 then((A0Z F t a).bind fun rv11=>exE rv11 (fun x19=>some ((C3.mk 0 ([]:List Int) ([]:List Int) ([]:List Int) 0 false),x19)) (fun v10=>A1J F a v10.O0 v10.V4 v10.O3 v10.A0r v10.O4 v10.X3 v10.A0s v10.N7 v10.A9 v10.A8 v10.A4 v10.I3 v10.I1))else none))
theorem B5n {x1 x2 c2:Code} {o2:aa} (hb:Tryz.f155.body=some (.seq x1 (.seq x2 (.cond o2 c2 .skip)))):DfK pg 155 c2 9 2 43:=by
 unfold Tryz.f155 at hb;injection hb with hb
 injection hb with _ hb
 injection hb with _ hb
 injection hb with _ hb _
 subst hb;refine⟨fun ds w hds=>?_,fun ds v older w R hds ⟨E,hv⟩ H=>?_⟩
 ·obtain⟨d0,d1,rfl⟩:∃ d0 d1,ds=#[d0,d1]:=by
   obtain⟨l⟩:=ds
   match l,hds with
   | [d0,d1],_=>exact⟨d0,d1,rfl⟩
  refine callsDIn_of_wpSIn Tryz.func155 (by rfl) trivial fun c₀ cs hu=>?_;apply wpSIn_seq;apply wpSIn_region;simp[wpOpsSIn,go_sem,recoverD,hu,Tryz.ntmps155,Exit.thenS];apply wpSIn_seq;apply wpSIn_region;simp[wpOpsSIn,go_sem,Exit.thenS];refine wpSIn_cond (t:=false) (by simp[Act.eval,bt]) ?_;simp only[Bool.false_eq_true,if_false];refine wpSIn_of_wpIn (by rfl) (wpIn_skip ?_);cases c₀;simp_all [bodyPostS,results,Tryz.results155]
 ·subst hv;obtain⟨d0,d1,rfl⟩:∃ d0 d1,ds=#[d0,d1]:=by
   obtain⟨l⟩:=ds
   match l,hds with
   | [d0,d1],_=>exact⟨d0,d1,rfl⟩
  refine callsDIn_of_wpSIn Tryz.func155 (by rfl) trivial fun c₀ cs hu=>?_;apply wpSIn_seq;apply wpSIn_region;simp[wpOpsSIn,go_sem,recoverD,hu,Tryz.ntmps155,Exit.thenS];apply wpSIn_seq;apply wpSIn_region;simp[wpOpsSIn,go_sem,Exit.thenS];refine wpSIn_cond (t:=true) (by simp[Act.eval,bt]) ?_;simp only[if_true];refine wpSIn_of_wpIn (by rfl) (wpIn_mono (H _ (by rfl) ?_ ?_ ?_) ?_)
  ·simp[bt]
  ·intro i hi
   match i,hi with
   | 0,_=>rfl
   | 1,_=>rfl
  ·simp[bt]
  ·rintro ex a' w' ⟨rfl,h2,h3⟩;cases c₀;simp_all [bodyPostS,results,Tryz.results155]
theorem B5o {F:Nat} {p:D5} {s:C3} {a:D2} {t:E6} (x2:Int) {xa xb c2:Code} {o2:aa} (hb:Tryz.f155.body=some (.seq xa (.seq xb (.cond o2 c2 .skip)))):SW pg 9 9 [] c2 (fun sx st2=>sx = .norm∧Fin pg Tryz.f79 0 (fun se X=>se = .ret (.tup [J2 (C3.mk 0 ([]:List Int) ([]:List Int) ([]:List Int) 0 false) 0 1 2,.d (.v (.int .i64 x2))])∧X=[B0u ([]:List Int),B0u ([]:List Int),B0u ([]:List Int)]) .ret ⟨[(6,.ref 3 6 0 0),(7,.ref 4 1 0 0)],st2.L⟩) ⟨A8Q 0 ([.ref 3 6 0 0,.ref 4 1 0 0]++[.d (.v (.iface 43 ((.int .i64 x2))))]),[bx 7 (.d (D5.d p)),bx 6 (.d (C3.d s)),bx 5 (.d (D2.d a)),bx 6 (.d (.agg [.v (.int .i64 0),.v (.slice none 0 0),.v (.slice none 0 0),.v (.slice none 0 0),.v (.int .i64 0),.v (.bool false)])),c1 (.v (.int .i64 0)),bx 13 (C6 t 6 7 8),B0u t.A9,B0u t.A8,B0u t.A4]⟩:=by
 unfold Tryz.f155 at hb;injection hb with hb
 injection hb with _ hb
 injection hb with _ hb
 injection hb with _ hb _
 subst hb;refine B04 (fun _ _ h=>by cases h.1) ?_;dsimp only[A8Q,dO,cf];refine T1 kR (S1 (v := .d zP) tb R R cN R R R R R R (rU 1 R ?_));refine B5V R (fun _=>by kernel_rfl) R R R ?_;refine rU 2 R (I0 kR ?_);refine⟨_,A33.ow 1 false 3 [1] [0,1,2,6,7,8] R (A33.ow 1 false 3 [2] [0,1,2,6,7,8] R (A33.ow 1 false 3 [3] [0,1,2,6,7,8] R (.refl _ _ _))),R,?_⟩;exact fS [9,10,11] ⟨R,R⟩ R (.cons (A6F tb (u:=J2 (C3.mk 0 ([]:List Int) ([]:List Int) ([]:List Int) 0 false) 9 10 11) R R R R R R R) (.cons (A6F tb (u:=dI x2) R R R R R R R) .nil)) vv
theorem A25 {F:Nat} {p:D5} {s:C3} {a:D2} (x4:Int) {xa xb c2:Code} {o2:aa} (hb:Tryz.f155.body=some (.seq xa (.seq xb (.cond o2 c2 .skip)))):SW pg 9 9 [] c2 (fun sx st2=>sx = .norm∧Fin pg Tryz.f79 0 (fun se X=>se = .ret (.tup [J2 (C3.mk 0 ([]:List Int) ([]:List Int) ([]:List Int) 0 false) 0 1 2,.d (.v (.int .i64 x4))])∧X=[B0u ([]:List Int),B0u ([]:List Int),B0u ([]:List Int)]) .ret ⟨[(6,.ref 3 6 0 0),(7,.ref 4 1 0 0)],st2.L⟩) ⟨A8Q 0 ([.ref 3 6 0 0,.ref 4 1 0 0]++[.d (.v (.iface 43 ((.int .i64 x4))))]),[bx 7 (.d (D5.d p)),bx 6 (.d (C3.d s)),bx 5 (.d (D2.d a)),bx 6 (.d (.agg [.v (.int .i64 0),.v (.slice none 0 0),.v (.slice none 0 0),.v (.slice none 0 0),.v (.int .i64 0),.v (.bool false)])),c1 (.v (.int .i64 0)),none,none,none,none]⟩:=by
 unfold Tryz.f155 at hb;injection hb with hb
 injection hb with _ hb
 injection hb with _ hb
 injection hb with _ hb _
 subst hb;refine B04 (fun _ _ h=>by cases h.1) ?_;dsimp only[A8Q,dO,cf];refine T1 kR (S1 (v := .d zP) tb R R cN R R R R R R (rU 1 R ?_));refine B5V R (fun _=>by kernel_rfl) R R R ?_;refine rU 2 R (I0 kR ?_);refine⟨_,A33.ow 1 false 3 [1] [0,1,2,6,7,8] R (A33.ow 1 false 3 [2] [0,1,2,6,7,8] R (A33.ow 1 false 3 [3] [0,1,2,6,7,8] R (.refl _ _ _))),R,?_⟩;exact fS [9,10,11] ⟨R,R⟩ R (.cons (A6F tb (u:=J2 (C3.mk 0 ([]:List Int) ([]:List Int) ([]:List Int) 0 false) 9 10 11) R R R R R R R) (.cons (A6F tb (u:=dI x4) R R R R R R R) .nil)) vv
theorem B1l {F p s a r} (h:A9J F p s a=some r):SCR pg 79 (ao T.d [D5.d p,C3.d s,D2.d a]) [] (.tup [J2 r.1 0 1 2,dI r.2]) (ao some [(B7 r.1.zones),(B7 r.1.holder),(B7 r.1.squibs)]):=by
 rw[A9J]at h;refine SC.of_swd Tryz.func79 R R R ?_;dsimp only[L8,ao];refine B3n (hE 5 R ?_);refine⟨R,?_⟩;refine B3n (hU 2 R ?_);obtain⟨rv,k,h⟩:=H1 h;rcases bB rv with nv | ⟨t,nv⟩
 ·replace h:=(B5h nv).symm.trans h;refine cO [] ((A4L k).none nv) eK .nil R .nil .nil R ?_;cases h
 replace h:=(B5i nv).symm.trans h;refine cO [] ((A4L k).some nv) eK .nil R .nil ((.cons R (.row (.row (.row .nil))))) R (eU 1 R ?_);refine⟨R,?_⟩;refine B2t R B5n dM eK (A3E R R R R ?_);refine A32 ⟨12,_,_,_,_,R,R,R,R,fun df=>?_⟩;refine B8 (A0V kR (rU 7 R (A3k R R R R ?_)));obtain⟨rv2,k2,h⟩:=H1 h;rcases eX h with⟨x,nv2,h⟩ | ⟨v,nv2,h⟩
 ·refine P0 kR kR (H8 [] ((E1 k2).err nv2) R eK R (.inl ⟨R,R,R⟩) R R R R .nil R ?_);intro cnt;refine E9 ?_;cases h;exact⟨_,⟨[(6,rf 3 6),(7,rf 4 1)],[bx 7 (.d (D5.d p)),bx 6 (.d (C3.d s)),bx 5 (.d (D2.d a)),bx 6 (.d zP),c1 (vI 0),bx 13 (C6 t 6 7 8),B0u t.A9,B0u t.A8,B0u t.A4]⟩,[0,1,2,3,4,5,6,7,8],R,vv,B5o (F:=F) x R⟩
 refine cO [] ((E1 k2).ok nv2) eK .nil R .nil .nil R (N0 kR (B8 ?_));refine W5 (fun zz:(List F6) × (List G6) × (List E2) × (List ByteArray) × (List D1) × Int × Int × Int × (List Int) × (List Int) × (List Int) × Int × Bool=>A1J F a zz.1 zz.2.1 zz.2.2.1 zz.2.2.2.1 zz.2.2.2.2.1 zz.2.2.2.2.2.1 zz.2.2.2.2.2.2.1 zz.2.2.2.2.2.2.2.1 zz.2.2.2.2.2.2.2.2.1 zz.2.2.2.2.2.2.2.2.2.1 zz.2.2.2.2.2.2.2.2.2.2.1 zz.2.2.2.2.2.2.2.2.2.2.2.1 zz.2.2.2.2.2.2.2.2.2.2.2.2=some r) (fun zz:(List F6) × (List G6) × (List E2) × (List ByteArray) × (List D1) × Int × Int × Int × (List Int) × (List Int) × (List Int) × Int × Bool=>⟨[(5,rf 2 5),(6,rf 3 6),(7,rf 4 1),(8,rf 5 13)],[bx 7 (.d (D5.d p)),bx 6 (.d (C3.d s)),bx 5 (.d (D2.d a)),bx 6 (.d zP),c1 (vI 0),bx 13 (C6 (E6.mk zz.1 zz.2.1 zz.2.2.1 zz.2.2.2.1 zz.2.2.2.2.1 zz.2.2.2.2.2.1 zz.2.2.2.2.2.2.1 zz.2.2.2.2.2.2.2.1 zz.2.2.2.2.2.2.2.2.1 zz.2.2.2.2.2.2.2.2.2.1 zz.2.2.2.2.2.2.2.2.2.2.1 zz.2.2.2.2.2.2.2.2.2.2.2.1 zz.2.2.2.2.2.2.2.2.2.2.2.2) 6 7 8),B0u zz.2.2.2.2.2.2.2.2.1,B0u zz.2.2.2.2.2.2.2.2.2.1,B0u zz.2.2.2.2.2.2.2.2.2.2.1]⟩) ?_ ?_
 ·clear h;rintro⟨c11,c12,c13,c14,c15,c16,c17,c18,c19,c20,c21,c22,c23⟩ h;dsimp only at h ⊢;rw[A1J]at h;refine gY 7 R (rY 6 R ?_);cases h;exact B7Y (U0 (t := .tup [J2 (C3.mk a.at_ c19 c20 c21 c22 c23) 0 1 2,dI 0]) (L:=[B0u c19,B0u c20,B0u c21]) (κ:=[6,7,8]) R (.cons (A6F tb (u:=J2 (C3.mk a.at_ c19 c20 c21 c22 c23) 6 7 8) R R R R R R R) (.cons (A6F tb (u:=dI 0) R R R R R R R) .nil)) vv ⟨R,R⟩)
 refine A0V kR (J5 (B4b (F:=0) (r:=()) R) eK R R R R (rU 2 R ?_));by_cases c:a.kind=0
 ·replace h:=J7 c h;cases h
 replace h:=P1 c h;by_cases c2:a.kind=1
 ·replace h:=J7 c2 h;refine A9p (1) (.d (.v (.func (.func 196) #[] #[]))) tb R R R R R c2 R R R R R (rU 2 R ?_);obtain⟨rv3,k3,h⟩:=H1 h;rcases eX h with⟨x3,nv3,h⟩ | ⟨v2,nv3,h⟩
  ·refine P0 kR kR (H8 [5,6,7,8] ((A4Y k3).err nv3) R eK R (.inl ⟨R,R,R⟩) R R R R (.cons R R C2C) R ?_);intro cnt;refine E9 ?_;cases h;exact⟨_,⟨[(6,rf 3 6),(7,rf 4 1)],[bx 7 (.d (D5.d p)),bx 6 (.d (C3.d s)),bx 5 (.d (D2.d a)),bx 6 (.d zP),c1 (vI 0),none,none,none,none]⟩,[0,1,2,3,4,5,6,7,8],R,vv,A25 (F:=F) x3 R⟩
  refine cO [5,6,7,8] ((A4Y k3).ok nv3) eK ((.cons R R C2C)) R ((.cons R (.row (.row (.row .nil))))) .nil R (N0 kR (A6 ?_));exact .inl ⟨(v2.O0,v2.V4,v2.O3,v2.A0r,v2.O4,v2.X3,v2.A0s,v2.N7,v2.A9,v2.A8,v2.A4,v2.I3,v2.I1),h,.prn [5,6,7,8] R⟩
 replace h:=P1 c2 h;by_cases c3:a.kind=2
 ·replace h:=J7 c3 h;refine A9p (2) (.d (.v (.func (.func 197) #[] #[]))) tb R R R R R c3 R R R R R (rU 2 R ?_);obtain⟨rv4,k4,h⟩:=H1 h;rcases eX h with⟨x5,nv4,h⟩ | ⟨v3,nv4,h⟩
  ·refine P0 kR kR (H8 [5,6,7,8] ((A4Z k4).err nv4) R eK R (.inl ⟨R,R,R⟩) R R R R (.cons R R C2C) R ?_);intro cnt;refine E9 ?_;cases h;exact⟨_,⟨[(6,rf 3 6),(7,rf 4 1)],[bx 7 (.d (D5.d p)),bx 6 (.d (C3.d s)),bx 5 (.d (D2.d a)),bx 6 (.d zP),c1 (vI 0),none,none,none,none]⟩,[0,1,2,3,4,5,6,7,8],R,vv,A25 (F:=F) x5 R⟩
  refine cO [5,6,7,8] ((A4Z k4).ok nv4) eK ((.cons R R C2C)) R ((.cons R (.row (.row (.row .nil))))) .nil R (N0 kR (A6 ?_));exact .inl ⟨(v3.O0,v3.V4,v3.O3,v3.A0r,v3.O4,v3.X3,v3.A0s,v3.N7,v3.A9,v3.A8,v3.A4,v3.I3,v3.I1),h,.prn [5,6,7,8] R⟩
 replace h:=P1 c3 h;by_cases c4:a.kind=3
 ·replace h:=J7 c4 h;refine A9p (3) (.d (.v (.func (.func 198) #[] #[]))) tb R R R R R c4 R R R R R (rU 2 R ?_);obtain⟨rv5,k5,h⟩:=H1 h;rcases eX h with⟨x7,nv5,h⟩ | ⟨v4,nv5,h⟩
  ·refine P0 kR kR (H8 [5,6,7,8] ((A5u k5).err nv5) R eK R (.inl ⟨R,R,R⟩) R R R R (.cons R R C2C) R ?_);intro cnt;refine E9 ?_;cases h;exact⟨_,⟨[(6,rf 3 6),(7,rf 4 1)],[bx 7 (.d (D5.d p)),bx 6 (.d (C3.d s)),bx 5 (.d (D2.d a)),bx 6 (.d zP),c1 (vI 0),none,none,none,none]⟩,[0,1,2,3,4,5,6,7,8],R,vv,A25 (F:=F) x7 R⟩
  refine cO [5,6,7,8] ((A5u k5).ok nv5) eK ((.cons R R C2C)) R ((.cons R (.row (.row (.row .nil))))) .nil R (N0 kR (A6 ?_));exact .inl ⟨(v4.O0,v4.V4,v4.O3,v4.A0r,v4.O4,v4.X3,v4.A0s,v4.N7,v4.A9,v4.A8,v4.A4,v4.I3,v4.I1),h,.prn [5,6,7,8] R⟩
 replace h:=P1 c4 h;by_cases c5:a.kind=4
 ·replace h:=J7 c5 h;refine A9p (4) (.d (.v (.func (.func 199) #[] #[]))) tb R R R R R c5 R R R R R (rU 2 R ?_);obtain⟨rv6,k6,h⟩:=H1 h;rcases eX h with⟨x9,nv6,h⟩ | ⟨v5,nv6,h⟩
  ·refine P0 kR kR (H8 [5,6,7,8] ((A4X k6).err nv6) R eK R (.inl ⟨R,R,R⟩) R R R R (.cons R R C2C) R ?_);intro cnt;refine E9 ?_;cases h;exact⟨_,⟨[(6,rf 3 6),(7,rf 4 1)],[bx 7 (.d (D5.d p)),bx 6 (.d (C3.d s)),bx 5 (.d (D2.d a)),bx 6 (.d zP),c1 (vI 0),none,none,none,none]⟩,[0,1,2,3,4,5,6,7,8],R,vv,A25 (F:=F) x9 R⟩
  refine cO [5,6,7,8] ((A4X k6).ok nv6) eK ((.cons R R C2C)) R ((.cons R (.row (.row (.row .nil))))) .nil R (N0 kR (A6 ?_));exact .inl ⟨(v5.O0,v5.V4,v5.O3,v5.A0r,v5.O4,v5.X3,v5.A0s,v5.N7,v5.A9,v5.A8,v5.A4,v5.I3,v5.I1),h,.prn [5,6,7,8] R⟩
 replace h:=P1 c5 h;by_cases c6:a.kind=5
 ·replace h:=J7 c6 h;refine A9p (5) (.d (.v (.func (.func 200) #[] #[]))) tb R R R R R c6 R R R R R (rU 2 R ?_);obtain⟨rv7,k7,h⟩:=H1 h;rcases eX h with⟨x11,nv7,h⟩ | ⟨v6,nv7,h⟩
  ·refine P0 kR kR (H8 [5,6,7,8] ((A5s k7).err nv7) R eK R (.inl ⟨R,R,R⟩) R R R R (.cons R R C2C) R ?_);intro cnt;refine E9 ?_;cases h;exact⟨_,⟨[(6,rf 3 6),(7,rf 4 1)],[bx 7 (.d (D5.d p)),bx 6 (.d (C3.d s)),bx 5 (.d (D2.d a)),bx 6 (.d zP),c1 (vI 0),none,none,none,none]⟩,[0,1,2,3,4,5,6,7,8],R,vv,A25 (F:=F) x11 R⟩
  refine cO [5,6,7,8] ((A5s k7).ok nv7) eK ((.cons R R C2C)) R ((.cons R (.row (.row (.row .nil))))) .nil R (N0 kR (A6 ?_));exact .inl ⟨(v6.O0,v6.V4,v6.O3,v6.A0r,v6.O4,v6.X3,v6.A0s,v6.N7,v6.A9,v6.A8,v6.A4,v6.I3,v6.I1),h,.prn [5,6,7,8] R⟩
 replace h:=P1 c6 h;by_cases c7:a.kind=6
 ·replace h:=J7 c7 h;refine A9p (6) (.d (.v (.func (.func 201) #[] #[]))) tb R R R R R c7 R R R R R (rU 2 R ?_);obtain⟨rv8,k8,h⟩:=H1 h;rcases eX h with⟨x13,nv8,h⟩ | ⟨v7,nv8,h⟩
  ·refine P0 kR kR (H8 [5,6,7,8] ((A4i k8).err nv8) R eK R (.inl ⟨R,R,R⟩) R R R R (.cons R R C2C) R ?_);intro cnt;refine E9 ?_;cases h;exact⟨_,⟨[(6,rf 3 6),(7,rf 4 1)],[bx 7 (.d (D5.d p)),bx 6 (.d (C3.d s)),bx 5 (.d (D2.d a)),bx 6 (.d zP),c1 (vI 0),none,none,none,none]⟩,[0,1,2,3,4,5,6,7,8],R,vv,A25 (F:=F) x13 R⟩
  refine cO [5,6,7,8] ((A4i k8).ok nv8) eK ((.cons R R C2C)) R ((.cons R (.row (.row (.row .nil))))) .nil R (N0 kR (A6 ?_));exact .inl ⟨(v7.O0,v7.V4,v7.O3,v7.A0r,v7.O4,v7.X3,v7.A0s,v7.N7,v7.A9,v7.A8,v7.A4,v7.I3,v7.I1),h,.prn [5,6,7,8] R⟩
 replace h:=P1 c7 h;by_cases c8:a.kind=7
 ·replace h:=J7 c8 h;refine A9p (7) (.d (.v (.func (.func 202) #[] #[]))) tb R R R R R c8 R R R R R (rU 2 R ?_);obtain⟨rv9,k9,h⟩:=H1 h;rcases eX h with⟨x15,nv9,h⟩ | ⟨v8,nv9,h⟩
  ·refine P0 kR kR (H8 [5,6,7,8] ((A4W k9).err nv9) R eK R (.inl ⟨R,R,R⟩) R R R R (.cons R R C2C) R ?_);intro cnt;refine E9 ?_;cases h;exact⟨_,⟨[(6,rf 3 6),(7,rf 4 1)],[bx 7 (.d (D5.d p)),bx 6 (.d (C3.d s)),bx 5 (.d (D2.d a)),bx 6 (.d zP),c1 (vI 0),none,none,none,none]⟩,[0,1,2,3,4,5,6,7,8],R,vv,A25 (F:=F) x15 R⟩
  refine cO [5,6,7,8] ((A4W k9).ok nv9) eK ((.cons R R C2C)) R ((.cons R (.row (.row (.row .nil))))) .nil R (N0 kR (A6 ?_));exact .inl ⟨(v8.O0,v8.V4,v8.O3,v8.A0r,v8.O4,v8.X3,v8.A0s,v8.N7,v8.A9,v8.A8,v8.A4,v8.I3,v8.I1),h,.prn [5,6,7,8] R⟩
 replace h:=P1 c8 h;by_cases c9:a.kind=8
 ·replace h:=J7 c9 h;refine A9p (8) (.d (.v (.func (.func 203) #[] #[]))) tb R R R R R c9 R R R R R (rU 2 R ?_);obtain⟨rv10,k10,h⟩:=H1 h;rcases eX h with⟨x17,nv10,h⟩ | ⟨v9,nv10,h⟩
  ·refine P0 kR kR (H8 [5,6,7,8] ((A4w k10).err nv10) R eK R (.inl ⟨R,R,R⟩) R R R R (.cons R R C2C) R ?_);intro cnt;refine E9 ?_;cases h;exact⟨_,⟨[(6,rf 3 6),(7,rf 4 1)],[bx 7 (.d (D5.d p)),bx 6 (.d (C3.d s)),bx 5 (.d (D2.d a)),bx 6 (.d zP),c1 (vI 0),none,none,none,none]⟩,[0,1,2,3,4,5,6,7,8],R,vv,A25 (F:=F) x17 R⟩
  refine cO [5,6,7,8] ((A4w k10).ok nv10) eK ((.cons R R C2C)) R ((.cons R (.row (.row (.row .nil))))) .nil R (N0 kR (A6 ?_));exact .inl ⟨(v9.O0,v9.V4,v9.O3,v9.A0r,v9.O4,v9.X3,v9.A0s,v9.N7,v9.A9,v9.A8,v9.A4,v9.I3,v9.I1),h,.prn [5,6,7,8] R⟩
 replace h:=P1 c9 h;by_cases c10:a.kind=9
 ·replace h:=J7 c10 h;refine A9p (9) (.d (.v (.func (.func 204) #[] #[]))) tb R R R R R c10 R R R R R (rU 2 R ?_);obtain⟨rv11,k11,h⟩:=H1 h;rcases eX h with⟨x19,nv11,h⟩ | ⟨v10,nv11,h⟩
  ·refine P0 kR kR (H8 [5,6,7,8] ((A3P k11).err nv11) R eK R (.inl ⟨R,R,R⟩) R R R R (.cons R R C2C) R ?_);intro cnt;refine E9 ?_;cases h;exact⟨_,⟨[(6,rf 3 6),(7,rf 4 1)],[bx 7 (.d (D5.d p)),bx 6 (.d (C3.d s)),bx 5 (.d (D2.d a)),bx 6 (.d zP),c1 (vI 0),none,none,none,none]⟩,[0,1,2,3,4,5,6,7,8],R,vv,A25 (F:=F) x19 R⟩
  refine cO [5,6,7,8] ((A3P k11).ok nv11) eK ((.cons R R C2C)) R ((.cons R (.row (.row (.row .nil))))) .nil R (N0 kR (A6 ?_));exact .inl ⟨(v10.O0,v10.V4,v10.O3,v10.A0r,v10.O4,v10.X3,v10.A0s,v10.N7,v10.A9,v10.A8,v10.A4,v10.I3,v10.I1),h,.prn [5,6,7,8] R⟩
 replace h:=P1 c10 h;cases h
theorem C0s {F p s a r} (h:A9J F p s a=some r):PC pg 79 [D5.d p,C3.d s,D2.d a] (.tup [C3.d r.1,vI r.2]):=(B1l h).toPC (.tupL (.cons (.aggL (.cons (.d _) (.cons (.row rfl rfl) (.cons (.row rfl rfl) (.cons (.row rfl rfl) (.cons (.d _) (.cons (.d _) .nil))))))) (.cons (.d _) .nil)))
def A3g (F:Nat) (p:D5) (s:C3):Option Int:=(A43 F p).bind fun rv=>if rv.2.2=0 then((A56 F p s).bind fun rv2=>B2S rv2 (none) (fun t=>(A1o F t).bind fun rv3=>if rv3=true then((A2L F t).bind fun rv4=>if rv4=true then(some 0)else(some 6))else(some 6)))else(some rv.2.2)
theorem A9i {F p s r} (h:A3g F p s=some r):PC pg 42 [D5.d p,C3.d s] (vI r):=by
 rw[A3g]at h;refine oW Tryz.func42 ?_;refine gY 3 R (B8 (gU 1 R ?_));obtain⟨rv,k,h⟩:=H1 h;refine J5 (A7f k) eK R R R R (eU 7 R (gU 1 R ?_));refine V5 R R R R (nJ h ?_) (tJ h ?_)
 ·intro h;refine Y9 (cY 2 R ?_);cases h;exact f1 4 R
 intro h;refine Y9 (zF (B8 (gU 2 R ?_)));obtain⟨rv2,k2,h⟩:=H1 h;rcases bB rv2 with nv | ⟨t,nv⟩
 ·replace h:=(B5h nv).symm.trans h;refine cO [] ((A4L k2).none nv) eK .nil R .nil .nil R ?_;cases h
 replace h:=(B5i nv).symm.trans h;refine cO [] ((A4L k2).some nv) eK .nil R .nil ((.cons R (.row (.row (.row .nil))))) R (eU 1 R (gU 1 R ?_));obtain⟨rv3,k3,h⟩:=H1 h;refine A4k (A8l k3) eK R R ((.cons (.ref R ld) .nil)) R R (tI h ?_) (fI h ?_)
 ·intro c2 h;refine rU 3 R ?_;obtain⟨rv4,k4,h⟩:=H1 h;refine A4k (A8C k4) eK R R ((.cons (.ref R ld) .nil)) R R (tI h ?_) (fI h ?_)
  ·intro c3 h;refine eU 2 R (zF (rY 1 R ?_));cases h;exact f1 4 R
  intro c3 h;refine eU 2 R (cY 1 R ?_);cases h;exact f1 4 R
 intro c2 h;refine eU 6 R (cY 1 R ?_);cases h;exact f1 4 R
def A55 (F:Nat) (p:D5) (s:C3) (a:D2) (e:Int):Option (C3 × Int):=if e=0 then((A9J F p s a).bind fun rv3=>some (rv3.1,rv3.2))else(some ((C3.mk 0 ([]:List Int) ([]:List Int) ([]:List Int) 0 false),e))
def A7D (F:Nat) (p:D5) (s:C3) (a:D2):Option (C3 × Int):=(A3g F p s).bind fun rv=>if rv=0 then((A9k F p a).bind fun rv2=>A55 F p s a rv2)else(A55 F p s a rv)
theorem B1k {F p s a r} (h:A7D F p s a=some r):SCR pg 187 (ao T.d [D5.d p,C3.d s,D2.d a]) [] (.tup [J2 r.1 0 1 2,dI r.2]) (ao some [(B7 r.1.zones),(B7 r.1.holder),(B7 r.1.squibs)]):=by
 rw[A7D]at h;refine oW Tryz.func187 ?_;refine gY 5 R (gU 2 R ?_);obtain⟨rv,k,h⟩:=H1 h;refine J5 (A9i k) eK R R R R (eU 1 R (B8 ?_));refine W5 (fun zz:Int=>A55 F p s a zz=some r) (fun zz:Int=>⟨[(3,rf 0 7),(4,rf 1 6),(5,rf 2 5),(6,rf 3 6),(7,dI 0),(8,dI zz)],[bx 7 (.d (D5.d p)),bx 6 (.d (C3.d s)),bx 5 (.d (D2.d a)),bx 6 (.d zP)]⟩) ?_ ?_
 ·clear h;rintro e h;rw[A55]at h;refine B8 (gU 1 R ?_);refine V5 R R R R (nJ h ?_) (tJ h ?_)
  ·intro h;refine Y9 (C0 R (qG (S1 (v := .d zP) tb R R cN R R R R R R (eU 3 R (SW.ow 1 false 3 [1] [6,7] R (SW.ow 1 false 3 [2] [6,7] R (SW.ow 1 false 3 [3] [6,7] R (C9 ?_))))))));cases h;exact f2 [4,5,6] C1o R (qC R (tC 7 .nil)) R
  intro h;refine Y9 (zF (gU 3 R ?_));obtain⟨rv3,k3,h⟩:=H1 h;refine A2X (B1l k3) eK R R R ((.row (.row (.row .nil)))) R R R (eU 4 R (C9 ?_));cases h;exact f2 [4,5,6] C1o R (qC R (tC 7 .nil)) R
 refine gU 1 R ?_;refine Z3 R R R R (tJ h ?_) (nJ h ?_)
 ·intro h;refine Y9 (C0 R (hU 2 R ?_));obtain⟨rv2,k2,h⟩:=H1 h;refine J5 (B5m k2) eK R R R R (nU 1 R ?_);exact .inl ⟨rv2,h,.prn [3,4,5,6,7,8] R⟩
 intro h;refine Y9 (zF (A6 ?_));exact .inl ⟨rv,h,.prn [3,4,5,6,7,8] R⟩
theorem B6H {F p s a r} (h:A7D F p s a=some r):PC pg 187 [D5.d p,C3.d s,D2.d a] (.tup [C3.d r.1,vI r.2]):=(B1k h).toPC (.tupL (.cons (.aggL (.cons (.d _) (.cons (.row rfl rfl) (.cons (.row rfl rfl) (.cons (.row rfl rfl) (.cons (.d _) (.cons (.d _) .nil))))))) (.cons (.d _) .nil)))
def A5l (F:Nat) (x y:Int):Option (Int × Int):=some ((IntKind.u64.wrap ((IntKind.u64.wrap ((IntKind.u64.wrap ((A6m .u64 x 32)*(A6m .u64 y 32)))+(A6m .u64 (IntKind.u64.wrap ((IntKind.u64.wrap ((A6m .u64 x 32)*(A7c .u64 y 4294967295)))+(A6m .u64 (IntKind.u64.wrap ((A7c .u64 x 4294967295)*(A7c .u64 y 4294967295))) 32))) 32)))+(A6m .u64 (IntKind.u64.wrap ((A7c .u64 (IntKind.u64.wrap ((IntKind.u64.wrap ((A6m .u64 x 32)*(A7c .u64 y 4294967295)))+(A6m .u64 (IntKind.u64.wrap ((A7c .u64 x 4294967295)*(A7c .u64 y 4294967295))) 32))) 4294967295)+(IntKind.u64.wrap ((A7c .u64 x 4294967295)*(A6m .u64 y 32))))) 32))),(IntKind.u64.wrap (x*y)))
theorem A89 {F x y r} (h:A5l F x y=some r):PC pg 170 [.v (.int .u64 x),.v (.int .u64 y)] (.tup [.v (.int .u64 r.1),.v (.int .u64 r.2)]):=by
 rw[A5l]at h;refine oW Tryz.func170 ?_;refine gY 2 R (gU 1 R (B7Z R R R R (eU 1 R (gU 1 R (B4m R R dM R R (eU 1 R (gU 1 R (B7Z R R R R (eU 1 R (gU 1 R (B4m R R dM R R (eU 1 R (gY 4 R (gU 4 R (B4m R R dM R R (eU 2 R (gU 1 R (B7Z R R R R (eU 1 R (gU 1 R (B4m R R dM R R (eU 1 R (gY 6 R (gU 6 R ?_))))))))))))))))))))))));refine B4m R R dM R R (eU 2 R (rY 4 R ?_));cases h;exact f0 R R R (tC 4 (tC 5 .nil))
def A6o (F:Nat) (x y:Int):Option (Int × Int):=(A5l F x y).bind fun rv=>some (rv.1,rv.2)
theorem A9H {F x y r} (h:A6o F x y=some r):PC pg 95 [.v (.int .u64 x),.v (.int .u64 y)] (.tup [.v (.int .u64 r.1),.v (.int .u64 r.2)]):=by
 rw[A6o]at h;refine oW Tryz.func95 ?_;refine gY 2 R (B8 (zF (gU 2 R ?_)));obtain⟨rv,k,h⟩:=H1 h;refine J5 (A89 k) eK R R R R (eU 5 R (rY 4 R ?_));cases h;exact f0 R R R (tC 4 (tC 5 .nil))
def A0I (F:Nat) (K:(List Int)→Int→Option (List Int)):Nat→(List Int)→Int→Option (List Int)
 | 0,_,_=>none
 | n+1,newslice,nv=>if nv<(newslice.length:Int)then((B8K nv newslice.length).bind fun p=>if newslice.length=p then(none)else((B8K nv newslice.length).bind fun p3=>(B38 newslice p (newslice.length-p) (newslice.take p3)).bind fun newslice2=>A0I F K n newslice2 (W (nv+((min p3 (newslice2.length-p):Nat):Int)))))else(K newslice nv)
def A0b (F:Nat) (x:(List Int)) (count:Int):Option (List Int):=if count<0 then(none)else((A6o F (IntKind.u64.wrap (x.length:Int)) (IntKind.u64.wrap count)).bind fun rv=>if 0<rv.1 then(none)else(if 9223372036854775807<rv.2 then(none)else((B1D (W rv.2)).bind fun q=>(B38 (ak q (0:Int)) 0 (ak q (0:Int)).length x).bind fun q2=>A0I F (fun newslice nv=>some newslice) F q2 ((min x.length q2.length:Nat):Int))))
theorem A06 {F x count r} (h:A0b F x count=some r):SCR pg 57 (ao T.d [aI x,vI count]) [] (.row 0 1 0 (r).length) (ao some [(B7 r)]):=by
 rw[A0b]at h;refine oW Tryz.func57 ?_;refine gY 1 R (B8 (gU 1 R ?_));refine Q4 R R R R (tJ h ?_) (lJ h ?_)
 ·intro h;cases h
 intro h;refine Y9 (zF (gU 1 R (I7 tb R (B5S (k2 := .u64) R R R R R R (rU 1 R (B5S (k2 := .u64) R R R R R R ?_))))));obtain⟨rv,k,h⟩:=H1 h;refine J5 (A9H k) eK R R R R (eU 5 R (B8 (gU 1 R ?_)));refine A4l R R R R (tJ h ?_) (lJ h ?_)
 ·intro h;cases h
 intro h;refine rU 2 R ?_;refine A4l R R R R (tJ h ?_) (lJ h ?_)
 ·intro h;cases h
 intro h;refine eU 1 R (zF (gU 1 R (B5S (k2 := .i64) R R R R R R ?_)));obtain⟨q,iq,h⟩:=H1 h;refine B00 (v:=(0:Int)) (g:=vI) tb R R R R R R R ((A6i iq).1) ((A6i iq).2) R R R R (eU 1 R (gU 2 R ?_));obtain⟨q2,iq2,h⟩:=H1 h;refine C0A (g:=vI) (w:=(ak q (0:Int))) (v:=x) tb R R R R R R R ((A77 iq2).1) (B0Y (fun _=>rfl)) ((A77 iq2).2) R R R ?_;first | rw[B1P iq2] | skip
 refine eU 1 R (B8 (E3 ?_));refine C3X (fun K1 m st=>∃ (newslice:(List Int)) (nv:Int),st=⟨[(4,dZ),(7,.row 0 1 0 (newslice).length),(8,dI nv)],[B0u newslice]⟩∧A0I F K1 m newslice nv=some r) ⟨q2,((min x.length q2.length:Nat):Int),R,h⟩ (.prn [4,7,8] R) ?_;rintro K1 hK1 m1 _ ⟨newslice,nv,rfl,h⟩;rw[A0I]at h;refine B8 (gU 2 R (A8F tb R R R R R ?_));refine Q4 R R R R (tJ h ?_) (lJ h ?_)
 ·intro h;refine Y9 (zT (E3 (T1 kR (rU 3 R ?_))));obtain⟨p,ip,h⟩:=H1 h;by_cases c5:newslice.length=p
  ·replace h:=J7 c5 h;refine B5v tb R R R R R R ((A8b ip).1) c5 R R ?_;cases h
  replace h:=P1 c5 h;refine B6M tb R R R R R R ((A8b ip).1) (by have:=(A8b ip).2;omega) R R ?_;refine rU 2 R ?_;obtain⟨p3,ip3,h⟩:=H1 h;refine B6L tb R R R R R R ((A8b ip3).1) ((A8b ip3).2) R R ?_;obtain⟨newslice2,inewslice2,h⟩:=H1 h;refine C0B (g:=vI) (w:=newslice) tb R R R R R R R ((A77 inewslice2).1) (by have:=(A8b ip3).2;omega) (fun _=>B0Y (fun _=>rfl)) ((A77 inewslice2).2) R R R ?_;first | rw[B1P inewslice2] | skip
  refine rU 2 R (I0 kR (D3 (A6 ?_)));exact bk ⟨newslice2,(W (nv+((min p3 (newslice2.length-p):Nat):Int))),R,h⟩ (.prn [4,7,8] R)
 intro h;refine Y9 (yX ?_);subst hK1;refine rY 2 R ?_;cases h;exact f2 [0] C23 R (tC 4 .nil) R
theorem B4z {F x count r} (h:A0b F x count=some r):PC pg 57 [aI x,vI count] (aI r):=(A06 h).toPC (.row rfl rfl)
def A44 (F:Nat) (p:D5):Option (C3 × Int):=(A43 F p).bind fun rv=>if rv.2.2=0 then((A0b F [(-1)] (p.people.length:Int)).bind fun rv2=>(A0b F [(-1)] (p.keys.length:Int)).bind fun rv3=>(B1D (p.squibs.length:Int)).bind fun q=>some ((C3.mk 0 rv2 rv3 (ak q (0:Int)) (-1) false),0))else(some ((C3.mk 0 ([]:List Int) ([]:List Int) ([]:List Int) 0 false),rv.2.2))
theorem A8z {F p r} (h:A44 F p=some r):SCR pg 43 (ao T.d [D5.d p]) [] (.tup [J2 r.1 0 1 2,dI r.2]) (ao some [(B7 r.1.zones),(B7 r.1.holder),(B7 r.1.squibs)]):=by
 rw[A44]at h;refine oW Tryz.func43 ?_;refine gY 3 R (B8 (gU 1 R ?_));obtain⟨rv,k,h⟩:=H1 h;refine J5 (A7f k) eK R R R R (eU 7 R (gU 1 R ?_));refine V5 R R R R (nJ h ?_) (tJ h ?_)
 ·intro h;refine Y9 (C0 R (qG (S1 (v := .d zP) tb R R cN R R R R R R (eU 3 R (SW.ow 1 false 1 [1] [2,3] R (SW.ow 1 false 1 [2] [2,3] R (SW.ow 1 false 1 [3] [2,3] R (C9 ?_))))))));cases h;exact f2 [2,3,4] C1o R (qC R (tC 3 .nil)) R
 intro h;refine Y9 (zF (qG (P7 tb R R R R R R R R R R R R R (eU 1 R (B8 (T1 kR (rU 3 R (I7 tb R ?_))))))));obtain⟨rv2,k2,h⟩:=H1 h;refine A3j (A06 k2) R ((.row (fun _=>rfl) .nil)) eK R R ((.cons (.row R R) (dL .nil))) R ((.row .nil)) R R R ?_;refine rU 3 R (I7 tb R ?_);obtain⟨rv3,k3,h⟩:=H1 h;refine A3j (A06 k3) R ((.row (fun _=>rfl) .nil)) eK R R ((.cons (.row R R) (dL .nil))) R ((.row .nil)) R R R ?_;refine rU 2 R (I7 tb R ?_);obtain⟨q,iq,h⟩:=H1 h;refine B00 (v:=(0:Int)) (g:=vI) tb R R R R R R R ((A6i iq).1) ((A6i iq).2) R R R R (S1 (v:=J2 (C3.mk 0 rv2 rv3 (ak q (0:Int)) (-1) false) 3 4 5) tb R R cN R R R R R R (rU 2 R (I0 kR (C9 ?_))));cases h;exact f2 [3,4,5] C1o R (qC R (tC 3 .nil)) R
theorem B2T {F p r} (h:A44 F p=some r):PC pg 43 [D5.d p] (.tup [C3.d r.1,vI r.2]):=(A8z h).toPC (.tupL (.cons (.aggL (.cons (.d _) (.cons (.row rfl rfl) (.cons (.row rfl rfl) (.cons (.row rfl rfl) (.cons (.d _) (.cons (.d _) .nil))))))) (.cons (.d _) .nil)))
def A4T (F:Nat) (a b c d:Int):Option B06:=some (B06.mk a b c d)
theorem A5K {F a b c d r} (h:A4T F a b c d=some r):PC pg 143 [vI a,vI b,vI c,vI d] (B06.d r):=by
 rw[A4T]at h;refine oW Tryz.func143 ?_;refine gY 1 R (gU 2 R (S1 (v := .d (.agg [vI a,vI b])) tb R R cN R R R R R R (rU 2 R (S1 (v := .d (.agg [vI c,vI d])) tb R R cN R R R R R R (S1 (v := .d (.agg [vI a,vI b,vI c,vI d])) tb R R cN R R R R R R (eU 1 R (C9 ?_)))))));cases h;exact f0 R R R (qC R .nil)
def A9E (F:Nat):Option D5:=(A4T F (-500000) (-400000) 0 50000).bind fun rv=>(A4T F (-300000) (-100000) (-10000) 10000).bind fun rv2=>(A4T F (-5000) 5000 (-5000) 5000).bind fun rv3=>some (D5.mk [(F6.mk (ai #[98,117,110,107,101,114]) rv.A7P rv.A7O rv.A7R rv.A7Q 0 8 false),(F6.mk (ai #[114,111,97,100]) rv2.A7P rv2.A7O rv2.A7R rv2.A7Q 1 4 false),(F6.mk (ai #[114,97,105,108]) rv3.A7P rv3.A7O rv3.A7R rv3.A7Q 2 2 true)] [(G6.mk (-1) 0),(G6.mk 0 1),(G6.mk 2 1)] [(E2.mk (ai #[97,110,110]) 5),(E2.mk (ai #[98,111,98]) 2),(E2.mk (ai #[101,118,101]) 1)] [(ai #[114,101,100]),(ai #[98,108,117,101]),(ai #[103,114,101,121])] [(D1.mk (ai #[109,111,116,111,114]) 0 0 100000 5 [0,1]),(D1.mk (ai #[99,104,117,116,101]) 0 3000 20000 3 [2])] 0 100)
theorem B2I {F r} (h:A9E F =some r):PC pg 71 [] (D5.d r):=by
 rw[A9E]at h;refine PC.of_lend ?_;refine oW Tryz.func71 ?_;refine gY 1 R (gY 1 R (gU 1 R ?_));obtain⟨rv,k,h⟩:=H1 h;refine J5 (A5K k) eK R R R R (S1 (v := .d (.agg [vS (ai #[98,117,110,107,101,114]),vI rv.A7P,vI rv.A7O,vI rv.A7R,vI rv.A7Q,vI 0,vI 8,vB false])) tb R R cN R R R R R R (rU 1 R ?_));obtain⟨rv2,k2,h⟩:=H1 h;refine J5 (A5K k2) eK R R R R (S1 (v := .d (.agg [vS (ai #[114,111,97,100]),vI rv2.A7P,vI rv2.A7O,vI rv2.A7R,vI rv2.A7Q,vI 1,vI 4,vB false])) tb R R cN R R R R R R (rU 1 R ?_));obtain⟨rv3,k3,h⟩:=H1 h;refine J5 (A5K k3) eK R R R R (S1 (v := .d (.agg [vS (ai #[114,97,105,108]),vI rv3.A7P,vI rv3.A7O,vI rv3.A7R,vI rv3.A7Q,vI 2,vI 2,vB true])) tb R R cN R R R R R R (P7 tb R R R R R R R R R R R R R (S1 (v := .d (.agg [vI (-1),vI 0])) tb R R cN R R R R R R ?_)));refine S1 (v := .d (.agg [vI 0,vI 1])) tb R R cN R R R R R R (S1 (v := .d (.agg [vI 2,vI 1])) tb R R cN R R R R R R (P7 tb R R R R R R R R R R R R R (S1 (v := .d (.agg [vS (ai #[97,110,110]),vI 5])) tb R R cN R R R R R R ?_)));refine S1 (v := .d (.agg [vS (ai #[98,111,98]),vI 2])) tb R R cN R R R R R R (S1 (v := .d (.agg [vS (ai #[101,118,101]),vI 1])) tb R R cN R R R R R R (P7 tb R R R R R R R R R R R R R (P7 tb R R R R R R R R R R R R R (P7 tb R R R R R R R R R R R R R ?_))));refine S1 (v:=A0h (D1.mk (ai #[109,111,116,111,114]) 0 0 100000 5 [0,1]) 5) tb R R cN R R R R R R (S1 (v := .d (.agg [vI 0,vI 3000])) tb R R cN R R R R R R (P7 tb R R R R R R R R R R R R R (S1 (v:=A0h (D1.mk (ai #[99,104,117,116,101]) 0 3000 20000 3 [2]) 6) tb R R cN R R R R R R (P7 tb R R R R R R R R R R R R R ?_))));refine S1 (v := .agg [.row 1 8 0 ([(F6.mk (ai #[98,117,110,107,101,114]) rv.A7P rv.A7O rv.A7R rv.A7Q 0 8 false),(F6.mk (ai #[114,111,97,100]) rv2.A7P rv2.A7O rv2.A7R rv2.A7Q 1 4 false),(F6.mk (ai #[114,97,105,108]) rv3.A7P rv3.A7O rv3.A7R rv3.A7Q 2 2 true)]).length,.row 2 2 0 ([(G6.mk (-1) 0),(G6.mk 0 1),(G6.mk 2 1)]).length,.row 3 2 0 ([(E2.mk (ai #[97,110,110]) 5),(E2.mk (ai #[98,111,98]) 2),(E2.mk (ai #[101,118,101]) 1)]).length,.row 4 1 0 ([(ai #[114,101,100]),(ai #[98,108,117,101]),(ai #[103,114,101,121])]).length,.row 7 6 0 2,dI 0,dI 100]) tb R R cN R R R R R R ?_;refine eU 1 R (C9 ?_);cases h;exact(U0 (t := .agg [.row 0 8 0 ([(F6.mk (ai #[98,117,110,107,101,114]) rv.A7P rv.A7O rv.A7R rv.A7Q 0 8 false),(F6.mk (ai #[114,111,97,100]) rv2.A7P rv2.A7O rv2.A7R rv2.A7Q 1 4 false),(F6.mk (ai #[114,97,105,108]) rv3.A7P rv3.A7O rv3.A7R rv3.A7Q 2 2 true)]).length,.row 1 2 0 ([(G6.mk (-1) 0),(G6.mk 0 1),(G6.mk 2 1)]).length,.row 2 2 0 ([(E2.mk (ai #[97,110,110]) 5),(E2.mk (ai #[98,111,98]) 2),(E2.mk (ai #[101,118,101]) 1)]).length,.row 3 1 0 ([(ai #[114,101,100]),(ai #[98,108,117,101]),(ai #[103,114,101,121])]).length,.row 4 6 0 2,dI 0,dI 100]) (L:=[C3B [(F6.mk (ai #[98,117,110,107,101,114]) rv.A7P rv.A7O rv.A7R rv.A7Q 0 8 false),(F6.mk (ai #[114,111,97,100]) rv2.A7P rv2.A7O rv2.A7R rv2.A7Q 1 4 false),(F6.mk (ai #[114,97,105,108]) rv3.A7P rv3.A7O rv3.A7R rv3.A7Q 2 2 true)],C39 [(G6.mk (-1) 0),(G6.mk 0 1),(G6.mk 2 1)],C34 [(E2.mk (ai #[97,110,110]) 5),(E2.mk (ai #[98,111,98]) 2),(E2.mk (ai #[101,118,101]) 1)],C4g [(ai #[114,101,100]),(ai #[98,108,117,101]),(ai #[103,114,101,121])],some ⟨6,[A0h (D1.mk (ai #[109,111,116,111,114]) 0 0 100000 5 [0,1]) 5,A0h (D1.mk (ai #[99,104,117,116,101]) 0 3000 20000 3 [2]) 6]⟩,B0u [0,1],B0u [2]]) (κ:=[1,2,3,4,7,5,6]) R (qC R .nil) vv ⟨_,R,(.aggL (.cons (.row R R) (.cons (.row R R) (.cons (.row R R) (.cons (.row R R) (.cons (.rowL R R (.cons ld (.cons ld .nil))) (dL (dL .nil))))))))⟩)
def Y7 (F:Nat) (nv lo hi:Int):Option Bool:=if nv<lo then(some true)else(some (decide (hi<nv)))
theorem V8 {F nv lo hi r} (h:Y7 F nv lo hi=some r):PC pg 52 [vI nv,vI lo,vI hi] (vB r):=by
 rw[Y7]at h;refine oW Tryz.func52 ?_;refine gY 1 R (gU 2 R ?_);refine Q4 R R R R (tJ h ?_) (lJ h ?_)
 ·intro h;refine eU 6 R (C9 ?_);cases h;exact f1 6 R
 intro h;refine rU 3 R (B5u R R R R (eU 2 R (C9 ?_)));cases h;exact f1 6 R
def A1Q (F:Nat) (nv c:Int):Option Bool:=(Y7 F nv 0 (W (c-1))).bind fun rv=>some rv
theorem A79 {F nv c r} (h:A1Q F nv c=some r):PC pg 185 [vI nv,.el 1 (([c]).map vI) ((0:Int)).toNat 0] (vB r):=by
 rw[A1Q]at h;refine oW Tryz.func185 ?_;refine gY 1 R (gU 1 R (I4 (y:=vI c) tb (U5 (g:=vI) (R:P3 [c] 0=some c)) R (rU 1 R ?_)));obtain⟨rv,k,h⟩:=H1 h;refine J5 (V8 k) eK R R R R (eU 1 R (C9 ?_));cases h;exact f1 3 R
def R9 (F:Nat) (s:(List (List Int))) (f:((List Int)→Option Bool)) (K:Int→Option Int):Nat→Int→Option Int
 | 0,_=>none
 | n+1,x=>if x<(s.length:Int)then((P3 s x).bind fun e=>(f e).bind fun rv=>if rv=true then(some x)else(R9 F s f K n (W (x+1))))else(K x)
def A1A (F:Nat) (s:(List (List Int))) (f:((List Int)→Option Bool)):Option Int:=R9 F s f (fun x=>some (-1)) F 0
theorem A6c {F:Nat} {s:(List (List Int))} {f:((List Int)→Option Bool)} {r:Int} {fi:Nat} {fc:List D} (fh:∀ {a0:(List Int)} {r:Bool},f a0=some r→PC pg fi ([.arr 1 ((a0).map vI)]++fc) (.v (.bool r))) (fe:Ent pg fi) (h:A1A F s f=some r):SCR pg 217 [.d (.arr 1 ((s).map (fun l=>D.arr 1 (l.map vI)))),.fn (.func fi) [] (fc.map .d)] [] (dI r) (ao some []):=by
 rw[A1A]at h;refine oW Tryz.func217 ?_;refine gY 1 R (B8 (gU 1 R (I7 tb R (eU 1 R (E3 ?_)))));refine C3X (fun K2 m st=>∃ (x:Int),st=⟨[(0,.d (.arr 1 ((s).map (fun l=>D.arr 1 (l.map vI))))),(1,.fn (.func fi) [] (fc.map .d)),(4,dI 0),(7,dI (s.length:Int)),(8,dI x)],[]⟩∧R9 F s f K2 m x=some r) ⟨0,R,h⟩ (.prn [0,1,4,7,8] R) ?_;rintro K2 hK2 m2 _ ⟨x,rfl,h⟩;rw[R9]at h;refine qG ?_;refine Q4 R R R R (tJ h ?_) (lJ h ?_)
 ·intro h;refine Y9 (B8 (zT (B8 (E3 (gY 2 R (gU 3 R ?_))))));obtain⟨e,ie,h⟩:=H1 h;refine yE ie R R ?_;obtain⟨rv,k,h⟩:=H1 h;refine A2W (vs:=[aI e]) (fh k) fe R R R R ?_;refine X8 (tI h ?_) (fI h ?_)
  ·intro c2 h;refine Y9 (cY 2 R ?_);cases h;exact f1 4 R
  intro c2 h;refine Y9 (zF (hN 2 R ?_));exact bk ⟨(W (x+1)),R,h⟩ (.prn [0,1,4,7,8] R)
 intro h;refine Y9 (B8 (yX ?_));subst hK2;refine rY 1 R ?_;cases h;exact f1 4 R
def W6 (F:Nat) (s:(List (List Int))) (f:((List Int)→Option Bool)):Option Bool:=(A1A F s f).bind fun rv=>some (decide (0≤rv))
theorem A2N {F:Nat} {s:(List (List Int))} {f:((List Int)→Option Bool)} {r:Bool} {fi:Nat} {fc:List D} (fh:∀ {a0:(List Int)} {r:Bool},f a0=some r→PC pg fi ([.arr 1 ((a0).map vI)]++fc) (.v (.bool r))) (fe:Ent pg fi) (h:W6 F s f=some r):SCR pg 183 [.d (.arr 1 ((s).map (fun l=>D.arr 1 (l.map vI)))),.fn (.func fi) [] (fc.map .d)] [] (dB r) (ao some []):=by
 rw[W6]at h;refine oW Tryz.func183 ?_;refine gY 1 R (gU 2 R ?_);obtain⟨rv,k,h⟩:=H1 h;refine A0t (A6c (f:=f) (fh:=fh) (fe:=fe) k) R .nil eK R R ((.cons (.d (.d _)) (.cons .hof .nil))) R .nil R R R ?_;simp only[bb,aH];refine A3k R R R R (eU 1 R (C9 ?_));cases h;exact f1 4 R
def A1G (F:Nat) (lv:(List Int)) (c:Int):Option Bool:=(M1 F lv (fun a0=>A1Q F a0 c)).bind fun rv=>some rv
theorem A86 {F lv c r} (h:A1G F lv c=some r):PC pg 184 [aI lv,.el 1 (([c]).map vI) ((0:Int)).toNat 0] (vB r):=by
 rw[A1G]at h;refine oW Tryz.func184 ?_;refine gY 1 R (gU 1 R (A3E R R R R ?_));obtain⟨rv,k,h⟩:=H1 h;refine A0t (R5 (f:=(fun a0=>A1Q F a0 c)) (fc:=[.el 1 (([c]).map vI) ((0:Int)).toNat 0]) (fh:=fun hr=>A79 hr) (fe := .of kR) k) R .nil eK R R ((.cons (.d (.d _)) (.cons (.fnC (.cons (.d (.d _)) .nil)) .nil))) R .nil R R R ?_;simp only[bb,aH];refine eU 1 R (C9 ?_);cases h;exact f1 3 R
def A2R (F:Nat) (many:Int) (lists:(List (List Int))):Option Bool:=(W6 F lists (fun a0=>A1G F a0 many)).bind fun rv=>some rv
theorem A62 {F many lists r} (h:A2R F many lists=some r):PC pg 129 [vI many,.arr 1 ((lists).map (fun l=>D.arr 1 (l.map vI)))] (vB r):=by
 rw[A2R]at h;refine oW Tryz.func129 ?_;refine gY 2 R (gU 1 R (A3E R R R R ?_));obtain⟨rv,k,h⟩:=H1 h;refine A0t (A2N (f:=(fun a0=>A1G F a0 many)) (fc:=[.el 1 [vI many] 0 0]) (fh:=fun hr=>A86 hr) (fe := .of kR) k) R .nil eK R R ((.cons (.d (.d _)) (.cons (.fnC (.cons (.d (.ref R (.d _))) .nil)) .nil))) R .nil R R R ?_;simp only[bb,aH];refine eU 1 R (C9 ?_);cases h;exact f1 4 R
def U9 (F:Nat) (lv:(List Int)) (K:Int→Option Bool):Nat→Int→Option Bool
 | 0,_=>none
 | n+1,x=>if x<(lv.length:Int)then(if 0<x then((P3 lv x).bind fun e=>(P3 lv (W (x-1))).bind fun e2=>if e≤e2 then(some true)else(U9 F lv K n (W (x+1))))else(U9 F lv K n (W (x+1))))else(K x)
def A2Q (F:Nat) (lv:(List Int)):Option Bool:=U9 F lv (fun x=>some false) F 0
theorem A97 {F lv r} (h:A2Q F lv=some r):PC pg 186 [aI lv] (vB r):=by
 rw[A2Q]at h;refine oW Tryz.func186 ?_;refine gY 1 R (B8 (gU 1 R (I7 tb R (eU 1 R (E3 ?_)))));refine C3X (fun K3 m st=>∃ (x:Int),st=⟨[(0,.d (aI lv)),(2,dB false),(5,dI (lv.length:Int)),(6,dI x)],[]⟩∧U9 F lv K3 m x=some r) ⟨0,R,h⟩ (.prn [0,2,5,6] R) ?_;rintro K3 hK3 m3 _ ⟨x,rfl,h⟩;rw[U9]at h;refine qG ?_;refine Q4 R R R R (tJ h ?_) (lJ h ?_)
 ·intro h;refine Y9 (B8 (zT (B8 (E3 (gY 2 R (B8 (T1 kR (rU 1 R ?_))))))));refine A4l R R R R (tJ h ?_) (lJ h ?_)
  ·intro h;refine rU 3 R ?_;obtain⟨e,ie,h⟩:=H1 h;refine yE ie R R (rU 3 R ?_);obtain⟨e2,ie2,h⟩:=H1 h;refine yE ie2 R R ?_;refine B1t R R R R (tJ h ?_) (mJ h ?_)
   ·intro h;refine rU 1 R (I0 kR (cY 1 R ?_));cases h;exact f1 2 R
   intro h;refine rU 1 R (I0 kR (zF (hN 2 R ?_)));exact bk ⟨(W (x+1)),R,h⟩ (.prn [0,2,5,6] R)
  intro h;refine rU 12 R (I0 kR (zF (hN 2 R ?_)));exact bk ⟨(W (x+1)),R,h⟩ (.prn [0,2,5,6] R)
 intro h;refine Y9 (B8 (yX ?_));subst hK3;refine rY 1 R ?_;cases h;exact f1 2 R
def A4R (F:Nat) (lists:(List (List Int))):Option Bool:=(W6 F lists (fun a0=>A2Q F a0)).bind fun rv=>some rv
theorem B0L {F lists r} (h:A4R F lists=some r):PC pg 130 [.arr 1 ((lists).map (fun l=>D.arr 1 (l.map vI)))] (vB r):=by
 rw[A4R]at h;refine oW Tryz.func130 ?_;refine gY 1 R (gU 1 R ?_);obtain⟨rv,k,h⟩:=H1 h;refine A0t (A2N (f:=(fun a0=>A2Q F a0)) (fc:=[]) (fh:=fun hr=>A97 hr) (fe := .of kR) k) R .nil eK R R ((.cons (.d (.d _)) (.cons .fnc .nil))) R .nil R R R ?_;simp only[bb,aH];refine eU 1 R (C9 ?_);cases h;exact f1 2 R
def Q3 (F:Nat) (s:(List ByteArray)) (f:(ByteArray→Option Bool)) (K:Int→Option Int):Nat→Int→Option Int
 | 0,_=>none
 | n+1,x=>if x<(s.length:Int)then((P3 s x).bind fun e=>(f e).bind fun rv=>if rv=true then(some x)else(Q3 F s f K n (W (x+1))))else(K x)
def A0Q (F:Nat) (s:(List ByteArray)) (f:(ByteArray→Option Bool)):Option Int:=Q3 F s f (fun x=>some (-1)) F 0
theorem A51 {F:Nat} {s:(List ByteArray)} {f:(ByteArray→Option Bool)} {r:Int} {fi:Nat} {fc:List D} (fh:∀ {a0:ByteArray} {r:Bool},f a0=some r→PC pg fi ([.v (.string a0)]++fc) (.v (.bool r))) (fe:Ent pg fi) (h:A0Q F s f=some r):SCR pg 179 [.d (.arr 1 ((s).map vS)),.fn (.func fi) [] (fc.map .d)] [] (dI r) (ao some []):=by
 rw[A0Q]at h;refine oW Tryz.func179 ?_;refine gY 1 R (B8 (gU 1 R (I7 tb R (eU 1 R (E3 ?_)))));refine C3X (fun K2 m st=>∃ (x:Int),st=⟨[(0,.d (.arr 1 ((s).map vS))),(1,.fn (.func fi) [] (fc.map .d)),(4,dI 0),(7,dI (s.length:Int)),(8,dI x)],[]⟩∧Q3 F s f K2 m x=some r) ⟨0,R,h⟩ (.prn [0,1,4,7,8] R) ?_;rintro K2 hK2 m2 _ ⟨x,rfl,h⟩;rw[Q3]at h;refine qG ?_;refine Q4 R R R R (tJ h ?_) (lJ h ?_)
 ·intro h;refine Y9 (B8 (zT (B8 (E3 (gY 2 R (gU 3 R ?_))))));obtain⟨e,ie,h⟩:=H1 h;refine yE ie R R ?_;obtain⟨rv,k,h⟩:=H1 h;refine A2W (vs:=[vS e]) (fh k) fe R R R R ?_;refine X8 (tI h ?_) (fI h ?_)
  ·intro c2 h;refine Y9 (cY 2 R ?_);cases h;exact f1 4 R
  intro c2 h;refine Y9 (zF (hN 2 R ?_));exact bk ⟨(W (x+1)),R,h⟩ (.prn [0,1,4,7,8] R)
 intro h;refine Y9 (B8 (yX ?_));subst hK2;refine rY 1 R ?_;cases h;exact f1 4 R
def Y4 (F:Nat) (s:(List ByteArray)) (f:(ByteArray→Option Bool)):Option Bool:=(A0Q F s f).bind fun rv=>some (decide (0≤rv))
theorem A4A {F:Nat} {s:(List ByteArray)} {f:(ByteArray→Option Bool)} {r:Bool} {fi:Nat} {fc:List D} (fh:∀ {a0:ByteArray} {r:Bool},f a0=some r→PC pg fi ([.v (.string a0)]++fc) (.v (.bool r))) (fe:Ent pg fi) (h:Y4 F s f=some r):SCR pg 123 [.d (.arr 1 ((s).map vS)),.fn (.func fi) [] (fc.map .d)] [] (dB r) (ao some []):=by
 rw[Y4]at h;refine oW Tryz.func123 ?_;refine gY 1 R (gU 2 R ?_);obtain⟨rv,k,h⟩:=H1 h;refine A0t (A51 (f:=f) (fh:=fh) (fe:=fe) k) R .nil eK R R ((.cons (.d (.d _)) (.cons .hof .nil))) R .nil R R R ?_;simp only[bb,aH];refine A3k R R R R (eU 1 R (C9 ?_));cases h;exact f1 4 R
def O5 (F:Nat) (s:(List D9)) (f:(D9→Option Bool)) (K:Int→Option Int):Nat→Int→Option Int
 | 0,_=>none
 | n+1,x=>if x<(s.length:Int)then((P3 s x).bind fun e=>(f e).bind fun rv=>if rv=true then(some x)else(O5 F s f K n (W (x+1))))else(K x)
def A0w (F:Nat) (s:(List D9)) (f:(D9→Option Bool)):Option Int:=O5 F s f (fun x=>some (-1)) F 0
theorem A4B {F:Nat} {s:(List D9)} {f:(D9→Option Bool)} {r:Int} {fi:Nat} {fc:List D} (fh:∀ {a0:D9} {r:Bool},f a0=some r→PC pg fi ([D9.d a0]++fc) (.v (.bool r))) (fe:Ent pg fi) (h:A0w F s f=some r):SCR pg 180 [.d (.arr 3 ((s).map D9.d)),.fn (.func fi) [] (fc.map .d)] [] (dI r) (ao some []):=by
 rw[A0w]at h;refine oW Tryz.func180 ?_;refine gY 1 R (B8 (gU 1 R (I7 tb R (eU 1 R (E3 ?_)))));refine C3X (fun K2 m st=>∃ (x:Int),st=⟨[(0,.d (.arr 3 ((s).map D9.d))),(1,.fn (.func fi) [] (fc.map .d)),(4,dI 0),(7,dI (s.length:Int)),(8,dI x)],[]⟩∧O5 F s f K2 m x=some r) ⟨0,R,h⟩ (.prn [0,1,4,7,8] R) ?_;rintro K2 hK2 m2 _ ⟨x,rfl,h⟩;rw[O5]at h;refine qG ?_;refine Q4 R R R R (tJ h ?_) (lJ h ?_)
 ·intro h;refine Y9 (B8 (zT (B8 (E3 (gY 2 R (gU 3 R ?_))))));obtain⟨e,ie,h⟩:=H1 h;refine yE ie R R ?_;obtain⟨rv,k,h⟩:=H1 h;refine A2W (vs:=[D9.d e]) (fh k) fe R R R R ?_;refine X8 (tI h ?_) (fI h ?_)
  ·intro c2 h;refine Y9 (cY 2 R ?_);cases h;exact f1 4 R
  intro c2 h;refine Y9 (zF (hN 2 R ?_));exact bk ⟨(W (x+1)),R,h⟩ (.prn [0,1,4,7,8] R)
 intro h;refine Y9 (B8 (yX ?_));subst hK2;refine rY 1 R ?_;cases h;exact f1 4 R
def V6 (F:Nat) (s:(List D9)) (f:(D9→Option Bool)):Option Bool:=(A0w F s f).bind fun rv=>some (decide (0≤rv))
theorem A3U {F:Nat} {s:(List D9)} {f:(D9→Option Bool)} {r:Bool} {fi:Nat} {fc:List D} (fh:∀ {a0:D9} {r:Bool},f a0=some r→PC pg fi ([D9.d a0]++fc) (.v (.bool r))) (fe:Ent pg fi) (h:V6 F s f=some r):SCR pg 125 [.d (.arr 3 ((s).map D9.d)),.fn (.func fi) [] (fc.map .d)] [] (dB r) (ao some []):=by
 rw[V6]at h;refine oW Tryz.func125 ?_;refine gY 1 R (gU 2 R ?_);obtain⟨rv,k,h⟩:=H1 h;refine A0t (A4B (f:=f) (fh:=fh) (fe:=fe) k) R .nil eK R R ((.cons (.d (.d _)) (.cons .hof .nil))) R .nil R R R ?_;simp only[bb,aH];refine A3k R R R R (eU 1 R (C9 ?_));cases h;exact f1 4 R
def Q2 (F:Nat) (s:(List E0)) (f:(E0→Option Bool)) (K:Int→Option Int):Nat→Int→Option Int
 | 0,_=>none
 | n+1,x=>if x<(s.length:Int)then((P3 s x).bind fun e=>(f e).bind fun rv=>if rv=true then(some x)else(Q2 F s f K n (W (x+1))))else(K x)
def A0P (F:Nat) (s:(List E0)) (f:(E0→Option Bool)):Option Int:=Q2 F s f (fun x=>some (-1)) F 0
theorem A50 {F:Nat} {s:(List E0)} {f:(E0→Option Bool)} {r:Int} {fi:Nat} {fc:List D} (fh:∀ {a0:E0} {r:Bool},f a0=some r→PC pg fi ([E0.d a0]++fc) (.v (.bool r))) (fe:Ent pg fi) (h:A0P F s f=some r):SCR pg 216 [.d (.arr 9 ((s).map E0.d)),.fn (.func fi) [] (fc.map .d)] [] (dI r) (ao some []):=by
 rw[A0P]at h;refine oW Tryz.func216 ?_;refine gY 1 R (B8 (gU 1 R (I7 tb R (eU 1 R (E3 ?_)))));refine C3X (fun K2 m st=>∃ (x:Int),st=⟨[(0,.d (.arr 9 ((s).map E0.d))),(1,.fn (.func fi) [] (fc.map .d)),(4,dI 0),(7,dI (s.length:Int)),(8,dI x)],[]⟩∧Q2 F s f K2 m x=some r) ⟨0,R,h⟩ (.prn [0,1,4,7,8] R) ?_;rintro K2 hK2 m2 _ ⟨x,rfl,h⟩;rw[Q2]at h;refine qG ?_;refine Q4 R R R R (tJ h ?_) (lJ h ?_)
 ·intro h;refine Y9 (B8 (zT (B8 (E3 (gY 2 R (gU 3 R ?_))))));obtain⟨e,ie,h⟩:=H1 h;refine yE ie R R ?_;obtain⟨rv,k,h⟩:=H1 h;refine A2W (vs:=[E0.d e]) (fh k) fe R R R R ?_;refine X8 (tI h ?_) (fI h ?_)
  ·intro c2 h;refine Y9 (cY 2 R ?_);cases h;exact f1 4 R
  intro c2 h;refine Y9 (zF (hN 2 R ?_));exact bk ⟨(W (x+1)),R,h⟩ (.prn [0,1,4,7,8] R)
 intro h;refine Y9 (B8 (yX ?_));subst hK2;refine rY 1 R ?_;cases h;exact f1 4 R
def Y3 (F:Nat) (s:(List E0)) (f:(E0→Option Bool)):Option Bool:=(A0P F s f).bind fun rv=>some (decide (0≤rv))
theorem A49 {F:Nat} {s:(List E0)} {f:(E0→Option Bool)} {r:Bool} {fi:Nat} {fc:List D} (fh:∀ {a0:E0} {r:Bool},f a0=some r→PC pg fi ([E0.d a0]++fc) (.v (.bool r))) (fe:Ent pg fi) (h:Y3 F s f=some r):SCR pg 181 [.d (.arr 9 ((s).map E0.d)),.fn (.func fi) [] (fc.map .d)] [] (dB r) (ao some []):=by
 rw[Y3]at h;refine oW Tryz.func181 ?_;refine gY 1 R (gU 2 R ?_);obtain⟨rv,k,h⟩:=H1 h;refine A0t (A50 (f:=f) (fh:=fh) (fe:=fe) k) R .nil eK R R ((.cons (.d (.d _)) (.cons .hof .nil))) R .nil R R R ?_;simp only[bb,aH];refine A3k R R R R (eU 1 R (C9 ?_));cases h;exact f1 4 R
def A1j (F:Nat) (s:ByteArray):Option ByteArray:=some s
theorem A4z {F s r} (h:A1j F s=some r):PC pg 62 [vS s] (vS r):=by
 rw[A1j]at h;refine oW Tryz.func62 ?_;refine gY 1 R (rY 2 R ?_);cases h;exact f1 2 R
def A1k (F:Nat) (b:D9):Option ByteArray:=some b.name
theorem A40 {F b r} (h:A1k F b=some r):PC pg 64 [D9.d b] (vS r):=by
 rw[A1k]at h;refine oW Tryz.func64 ?_;refine gY 2 R (rY 3 R ?_);cases h;exact f1 2 R
def A1P (F:Nat) (x:E0):Option ByteArray:=some x.name
theorem A5k {F x r} (h:A1P F x=some r):PC pg 128 [E0.d x] (vS r):=by
 rw[A1P]at h;refine oW Tryz.func128 ?_;refine gY 2 R (rY 3 R ?_);cases h;exact f1 2 R
def A0l (F:Nat) (x:ByteArray) (c:(List ByteArray)) (c2:Int):Option Bool:=(A1j F x).bind fun rv=>(P3 c c2).bind fun e=>(A1j F e).bind fun rv2=>if rv.toList=rv2.toList then(some true)else(some false)
theorem A5D {F x c c2 r} (h:A0l F x c c2=some r):PC pg 124 [vS x,.el 1 (([()]).map (fun(_:Unit) => .v (.func (.func 62) #[] #[]))) ((0:Int)).toNat 0,.el 1 (([c]).map (fun l=>D.arr 1 (l.map vS))) ((0:Int)).toNat 0,.el 1 (([c2]).map vI) ((0:Int)).toNat 0] (vB r):=by
 rw[A0l]at h;refine oW Tryz.func124 ?_;refine gY 1 R (B8 (T1 kR ?_));refine I4 (y := .v (.func (.func 62) #[] #[])) tb (U5 (g:=(fun(_:Unit) => .v (.func (.func 62) #[] #[]))) (R:P3 [()] 0=some ())) R ?_;refine rU 1 R ?_;obtain⟨rv,k,h⟩:=H1 h;refine J5 (A4z k) eK R R R R ?_;refine I4 (y := .v (.func (.func 62) #[] #[])) tb (U5 (g:=(fun(_:Unit) => .v (.func (.func 62) #[] #[]))) (R:P3 [()] 0=some ())) R ?_;refine I4 (y := .arr 1 ((c).map vS)) tb (U5 (g:=(fun l=>D.arr 1 (l.map vS))) (R:P3 [c] 0=some c)) R ?_;refine I4 (y:=vI c2) tb (U5 (g:=vI) (R:P3 [c2] 0=some c2)) R ?_;obtain⟨e,ie,h⟩:=H1 h;refine yE ie R R ?_;obtain⟨rv2,k2,h⟩:=H1 h;refine J5 (A4z k2) eK R R R R ?_;refine B1u R R R R (tJ h ?_) (nJ h ?_)
 ·intro h;refine rU 1 R (I0 kR (C9 ?_));cases h;exact f1 5 R
 intro h;refine rU 1 R (I0 kR (C9 ?_));cases h;exact f1 5 R
def Q6 (F:Nat) (lv:(List ByteArray)) (i:Int):Option Int:=(P3 lv i).bind fun e=>(A1j F e).bind fun rv=>(A2y F rv).bind fun rv2=>if rv2=true then((A7A lv 0 i).bind fun q=>(Y4 F q (fun a0=>A0l F a0 lv i)).bind fun rv3=>if rv3=true then(some 5)else(some 0))else(some 6)
theorem A3w {F lv i r} (h:Q6 F lv i=some r):PC pg 61 [.arr 1 ((lv).map vS),vI i,.v (.func (.func 62) #[] #[])] (vI r):=by
 rw[Q6]at h;refine oW Tryz.func61 ?_;refine gY 4 R (B8 (E3 (B8 (T1 kR (rU 3 R ?_)))));obtain⟨e,ie,h⟩:=H1 h;refine yE ie R R ?_;obtain⟨rv,k,h⟩:=H1 h;refine J5 (A4z k) eK R R R R ?_;obtain⟨rv2,k2,h⟩:=H1 h;refine M6 (A2F k2) eK R R R R (tI h ?_) (fI h ?_)
 ·intro c h;refine rU 2 R (I0 kR (C1 R (gU 2 R ?_)));obtain⟨q,iq,h⟩:=H1 h;refine A6E tb R R R R R R iq R R (A3E R R R R ?_);obtain⟨rv3,k3,h⟩:=H1 h;refine A0t (A4A (f:=(fun a0=>A0l F a0 lv i)) (fc:=[.el 1 [.v (.func (.func 62) #[] #[])] 0 0,.el 1 [.arr 1 ((lv).map vS)] 0 0,.el 1 [vI i] 0 0]) (fh:=fun hr=>A5D hr) (fe := .of kR) k3) R .nil eK R R ((.cons (.d (.d _)) (.cons (.fnC (.cons (.d (.ref R (.d _))) (.cons (.d (.ref R (.d _))) (.cons (.d (.ref R (.d _))) .nil)))) .nil))) R .nil R R R ?_;simp only[bb,aH];refine X8 (tI h ?_) (fI h ?_)
  ·intro c2 h;refine eU 1 R (cY 1 R ?_);cases h;exact f1 6 R
  intro c2 h;refine eU 1 R (zF (rY 1 R ?_));cases h;exact f1 6 R
 intro c h;refine rU 2 R (I0 kR (cY 1 R ?_));cases h;exact f1 6 R
def V0 (F:Nat) (x:D9) (c:(List D9)) (c2:Int):Option Bool:=(A1k F x).bind fun rv=>(P3 c c2).bind fun e=>(A1k F e).bind fun rv2=>if rv.toList=rv2.toList then(some true)else(some false)
theorem A3T {F x c c2 r} (h:V0 F x c c2=some r):PC pg 126 [D9.d x,.el 1 (([()]).map (fun(_:Unit) => .v (.func (.func 64) #[] #[]))) ((0:Int)).toNat 0,.el 1 (([c]).map (fun l=>D.arr 3 (l.map D9.d))) ((0:Int)).toNat 0,.el 1 (([c2]).map vI) ((0:Int)).toNat 0] (vB r):=by
 rw[V0]at h;refine oW Tryz.func126 ?_;refine gY 2 R (B8 (T1 kR ?_));refine I4 (y := .v (.func (.func 64) #[] #[])) tb (U5 (g:=(fun(_:Unit) => .v (.func (.func 64) #[] #[]))) (R:P3 [()] 0=some ())) R ?_;refine rU 1 R ?_;obtain⟨rv,k,h⟩:=H1 h;refine J5 (A40 k) eK R R R R ?_;refine I4 (y := .v (.func (.func 64) #[] #[])) tb (U5 (g:=(fun(_:Unit) => .v (.func (.func 64) #[] #[]))) (R:P3 [()] 0=some ())) R ?_;refine I4 (y := .arr 3 ((c).map D9.d)) tb (U5 (g:=(fun l=>D.arr 3 (l.map D9.d))) (R:P3 [c] 0=some c)) R ?_;refine I4 (y:=vI c2) tb (U5 (g:=vI) (R:P3 [c2] 0=some c2)) R ?_;obtain⟨e,ie,h⟩:=H1 h;refine yE ie R R ?_;obtain⟨rv2,k2,h⟩:=H1 h;refine J5 (A40 k2) eK R R R R ?_;refine B1u R R R R (tJ h ?_) (nJ h ?_)
 ·intro h;refine rU 1 R (I0 kR (C9 ?_));cases h;exact f1 5 R
 intro h;refine rU 1 R (I0 kR (C9 ?_));cases h;exact f1 5 R
def R7 (F:Nat) (lv:(List D9)) (i:Int):Option Int:=(P3 lv i).bind fun e=>(A1k F e).bind fun rv=>(A2y F rv).bind fun rv2=>if rv2=true then((A7A lv 0 i).bind fun q=>(V6 F q (fun a0=>V0 F a0 lv i)).bind fun rv3=>if rv3=true then(some 5)else(some 0))else(some 6)
theorem A3c {F lv i r} (h:R7 F lv i=some r):PC pg 63 [.arr 3 ((lv).map D9.d),vI i,.v (.func (.func 64) #[] #[])] (vI r):=by
 rw[R7]at h;refine oW Tryz.func63 ?_;refine gY 4 R (B8 (E3 (B8 (T1 kR (rU 3 R ?_)))));obtain⟨e,ie,h⟩:=H1 h;refine yE ie R R ?_;obtain⟨rv,k,h⟩:=H1 h;refine J5 (A40 k) eK R R R R ?_;obtain⟨rv2,k2,h⟩:=H1 h;refine M6 (A2F k2) eK R R R R (tI h ?_) (fI h ?_)
 ·intro c h;refine rU 2 R (I0 kR (C1 R (gU 2 R ?_)));obtain⟨q,iq,h⟩:=H1 h;refine A6E tb R R R R R R iq R R (A3E R R R R ?_);obtain⟨rv3,k3,h⟩:=H1 h;refine A0t (A3U (f:=(fun a0=>V0 F a0 lv i)) (fc:=[.el 1 [.v (.func (.func 64) #[] #[])] 0 0,.el 1 [.arr 3 ((lv).map D9.d)] 0 0,.el 1 [vI i] 0 0]) (fh:=fun hr=>A3T hr) (fe := .of kR) k3) R .nil eK R R ((.cons (.d (.d _)) (.cons (.fnC (.cons (.d (.ref R (.d _))) (.cons (.d (.ref R (.d _))) (.cons (.d (.ref R (.d _))) .nil)))) .nil))) R .nil R R R ?_;simp only[bb,aH];refine X8 (tI h ?_) (fI h ?_)
  ·intro c2 h;refine eU 1 R (cY 1 R ?_);cases h;exact f1 6 R
  intro c2 h;refine eU 1 R (zF (rY 1 R ?_));cases h;exact f1 6 R
 intro c h;refine rU 2 R (I0 kR (cY 1 R ?_));cases h;exact f1 6 R
def X1 (F:Nat) (x:E0) (c:(List E0)) (c2:Int):Option Bool:=(A1P F x).bind fun rv=>(P3 c c2).bind fun e=>(A1P F e).bind fun rv2=>if rv.toList=rv2.toList then(some true)else(some false)
theorem A41 {F x c c2 r} (h:X1 F x c c2=some r):PC pg 182 [E0.d x,.el 1 (([()]).map (fun(_:Unit) => .v (.func (.func 128) #[] #[]))) ((0:Int)).toNat 0,.el 1 (([c]).map (fun l=>D.arr 9 (l.map E0.d))) ((0:Int)).toNat 0,.el 1 (([c2]).map vI) ((0:Int)).toNat 0] (vB r):=by
 rw[X1]at h;refine oW Tryz.func182 ?_;refine gY 2 R (B8 (T1 kR ?_));refine I4 (y := .v (.func (.func 128) #[] #[])) tb (U5 (g:=(fun(_:Unit) => .v (.func (.func 128) #[] #[]))) (R:P3 [()] 0=some ())) R ?_;refine rU 1 R ?_;obtain⟨rv,k,h⟩:=H1 h;refine J5 (A5k k) eK R R R R ?_;refine I4 (y := .v (.func (.func 128) #[] #[])) tb (U5 (g:=(fun(_:Unit) => .v (.func (.func 128) #[] #[]))) (R:P3 [()] 0=some ())) R ?_;refine I4 (y := .arr 9 ((c).map E0.d)) tb (U5 (g:=(fun l=>D.arr 9 (l.map E0.d))) (R:P3 [c] 0=some c)) R ?_;refine I4 (y:=vI c2) tb (U5 (g:=vI) (R:P3 [c2] 0=some c2)) R ?_;obtain⟨e,ie,h⟩:=H1 h;refine yE ie R R ?_;obtain⟨rv2,k2,h⟩:=H1 h;refine J5 (A5k k2) eK R R R R ?_;refine B1u R R R R (tJ h ?_) (nJ h ?_)
 ·intro h;refine rU 1 R (I0 kR (C9 ?_));cases h;exact f1 5 R
 intro h;refine rU 1 R (I0 kR (C9 ?_));cases h;exact f1 5 R
def U3 (F:Nat) (lv:(List E0)) (i:Int):Option Int:=(P3 lv i).bind fun e=>(A1P F e).bind fun rv=>(A2y F rv).bind fun rv2=>if rv2=true then((A7A lv 0 i).bind fun q=>(Y3 F q (fun a0=>X1 F a0 lv i)).bind fun rv3=>if rv3=true then(some 5)else(some 0))else(some 6)
theorem A39 {F lv i r} (h:U3 F lv i=some r):PC pg 127 [.arr 9 ((lv).map E0.d),vI i,.v (.func (.func 128) #[] #[])] (vI r):=by
 rw[U3]at h;refine oW Tryz.func127 ?_;refine gY 4 R (B8 (E3 (B8 (T1 kR (rU 3 R ?_)))));obtain⟨e,ie,h⟩:=H1 h;refine yE ie R R ?_;obtain⟨rv,k,h⟩:=H1 h;refine J5 (A5k k) eK R R R R ?_;obtain⟨rv2,k2,h⟩:=H1 h;refine M6 (A2F k2) eK R R R R (tI h ?_) (fI h ?_)
 ·intro c h;refine rU 2 R (I0 kR (C1 R (gU 2 R ?_)));obtain⟨q,iq,h⟩:=H1 h;refine A6E tb R R R R R R iq R R (A3E R R R R ?_);obtain⟨rv3,k3,h⟩:=H1 h;refine A0t (A49 (f:=(fun a0=>X1 F a0 lv i)) (fc:=[.el 1 [.v (.func (.func 128) #[] #[])] 0 0,.el 1 [.arr 9 ((lv).map E0.d)] 0 0,.el 1 [vI i] 0 0]) (fh:=fun hr=>A41 hr) (fe := .of kR) k3) R .nil eK R R ((.cons (.d (.d _)) (.cons (.fnC (.cons (.d (.ref R (.d _))) (.cons (.d (.ref R (.d _))) (.cons (.d (.ref R (.d _))) .nil)))) .nil))) R .nil R R R ?_;simp only[bb,aH];refine X8 (tI h ?_) (fI h ?_)
  ·intro c2 h;refine eU 1 R (cY 1 R ?_);cases h;exact f1 6 R
  intro c2 h;refine eU 1 R (zF (rY 1 R ?_));cases h;exact f1 6 R
 intro c h;refine rU 2 R (I0 kR (cY 1 R ?_));cases h;exact f1 6 R
def A3d (F:Nat) (p:D5) (a:D2):Option Int:=(A44 F p).bind fun rv=>(A7D F p rv.1 a).bind fun rv2=>if rv2.2<170 then(some rv2.2)else(some 0)
theorem A5F {F p a r} (h:A3d F p a=some r):PC pg 131 [D5.d p,D2.d a] (vI r):=by
 rw[A3d]at h;refine oW Tryz.func131 ?_;refine gY 3 R (gU 1 R ?_);obtain⟨rv,k,h⟩:=H1 h;refine A2X (A8z k) eK R R R ((.row (.row (.row .nil)))) R R R (eU 6 R (B8 (gU 3 R ?_)));obtain⟨rv2,k2,h⟩:=H1 h;refine A3j (B1k k2) R ((.row (fun _=>rfl) (.row (fun _=>rfl) (.row (fun _=>rfl) .nil)))) eK R R ((dL (.cons ld (dL .nil)))) R ((.row (.row (.row .nil)))) R R R ?_;refine eU 6 R (gU 1 R ?_);refine Q4 R R R R (tJ h ?_) (lJ h ?_)
 ·intro h;refine Y9 (cY 2 R ?_);cases h;exact f1 4 R
 intro h;refine Y9 (zF (rY 1 R ?_));cases h;exact f1 4 R
def A1l (F:Nat) (t:D4) (e:E0) (K:Int→Option Int):Nat→Int→Option Int
 | 0,_=>none
 | n+1,x=>if x<(e.acts.length:Int)then((P3 e.acts x).bind fun e2=>if e2.at_=0 then((A3d F (D5.mk t.N4 t.P5 t.N6 t.S5 t.J3 t.Q7 t.T9) e2).bind fun rv7=>if rv7=0 then(A1l F t e K n (W (x+1)))else(some rv7))else(some 2))else(K x)
def A4K (F:Nat) (t:D4) (e:E0):Option Int:=A1l F t e (fun x=>some 0) F 0
def A5E (F:Nat) (t:D4) (o:Int):Option Int:=(P3 t.steps o).bind fun e=>(U3 F t.steps o).bind fun rv=>if rv=0 then((A2R F o [e.need]).bind fun rv2=>if rv2=true then(some 4)else((A2R F (t.batteries.length:Int) [e.on_,e.use_,e.off]).bind fun rv3=>if rv3=true then(some 4)else((A4R F [e.need,e.on_,e.use_,e.off]).bind fun rv4=>if rv4=true then(some 2)else((Y7 F e.most 0 20000).bind fun rv5=>if rv5=true then(some 7)else((Y7 F e.least 0 e.most).bind fun rv6=>if rv6=true then(some 7)else(if 8<(e.acts.length:Int)then(some 3)else(A4K F t e)))))))else(some rv)
theorem B1C {F t o r} (h:A5E F t o=some r):PC pg 65 [D4.d t,vI o] (vI r):=by
 rw[A5E]at h;refine oW Tryz.func65 ?_;refine gY 2 R (gU 3 R ?_);obtain⟨e,ie,h⟩:=H1 h;refine yE ie R R (eU 2 R (gU 2 R (I7 tb R (eU 1 R (gU 3 R ?_)))));obtain⟨rv,k,h⟩:=H1 h;refine J5 (A39 k) eK R R R R (eU 1 R (B8 ?_));refine W5 (fun zz:Unit=>A4K F t e=some r) (fun zz:Unit=>⟨[(2,rf 0 13),(4,dI 0),(5,rf 1 9)],[bx 13 (.d (D4.d t)),bx 9 (.d (E0.d e))]⟩) ?_ ?_
 ·clear h;rintro⟨⟩ h;rw[A4K]at h;refine B8 (gU 2 R (I7 tb R (eU 1 R (E3 ?_))));refine C3X (fun K3 m st=>∃ (x:Int),st=⟨[(2,rf 0 13),(4,dI 0),(72,.d (.arr 5 ((e.acts).map D2.d))),(73,dI (e.acts.length:Int)),(74,dI x)],[bx 13 (.d (D4.d t))]⟩∧A1l F t e K3 m x=some r) ⟨0,R,h⟩ (.vq [0]) ?_;rintro K3 hK3 m3 _ ⟨x,rfl,h⟩;rw[A1l]at h;refine qG ?_;refine Q4 R R R R (tJ h ?_) (lJ h ?_)
  ·intro h;refine Y9 (B8 (zT (B8 (E3 (qG ?_)))));obtain⟨e2,ie2,h⟩:=H1 h;refine yE ie2 R R (eU 2 R (B8 (gU 2 R ?_)));refine V5 R R R R (nJ h ?_) (tJ h ?_)
   ·intro h;refine Y9 (cY 1 R ?_);cases h;exact f1 4 R
   intro h;refine Y9 (zF (gU 3 R ?_));obtain⟨rv7,k7,h⟩:=H1 h;refine J5 (A5F k7) eK R R R R (eU 1 R (gU 1 R ?_));refine V5 R R R R (nJ h ?_) (tJ h ?_)
   ·intro h;refine Y9 (cY 2 R ?_);cases h;exact f1 4 R
   intro h;refine Y9 (zF (hN 2 R ?_));exact bk ⟨(W (x+1)),R,h⟩ (.vq [0])
  intro h;refine Y9 (B8 (yX ?_));subst hK3;refine rY 1 R ?_;cases h;exact f1 4 R
 refine E3 (gU 1 R ?_);refine V5 R R R R (nJ h ?_) (tJ h ?_)
 ·intro h;refine eU 1 R (cY 2 R ?_);cases h;exact f1 4 R
 intro h;refine eU 1 R (C1 R (gU 3 R (P7 tb R R R R R R R R R R R R R ?_)));obtain⟨rv2,k2,h⟩:=H1 h;refine A4k (A62 k2) eK R R ((dL (.cons (.row R R) .nil))) R R (tI h ?_) (fI h ?_)
 ·intro c2 h;refine eU 12 R (cY 1 R ?_);cases h;exact f1 4 R
 intro c2 h;refine rU 8 R (P7 tb R R R R R R R R R R R R R ?_);obtain⟨rv3,k3,h⟩:=H1 h;refine A4k (A62 k3) eK R R ((dL (.cons (.row R R) .nil))) R R (tI h ?_) (fI h ?_)
 ·intro c3 h;refine eU 2 R (cY 1 R ?_);cases h;exact f1 4 R
 intro c3 h;refine eU 2 R (C1 R (gU 8 R (P7 tb R R R R R R R R R R R R R ?_)));obtain⟨rv4,k4,h⟩:=H1 h;refine A4k (B0L k4) eK R R ((.cons (.row R R) .nil)) R R (tI h ?_) (fI h ?_)
 ·intro c4 h;refine eU 1 R (cY 1 R ?_);cases h;exact f1 4 R
 intro c4 h;refine eU 1 R (C1 R (gU 2 R ?_));obtain⟨rv5,k5,h⟩:=H1 h;refine M6 (V8 k5) eK R R R R (tI h ?_) (fI h ?_)
 ·intro c5 h;refine eU 8 R (cY 1 R ?_);cases h;exact f1 4 R
 intro c5 h;refine rU 5 R ?_;obtain⟨rv6,k6,h⟩:=H1 h;refine M6 (V8 k6) eK R R R R (tI h ?_) (fI h ?_)
 ·intro c6 h;refine eU 2 R (cY 1 R ?_);cases h;exact f1 4 R
 intro c6 h;refine eU 2 R (C1 R (gU 2 R (I7 tb R ?_)));refine A4l R R R R (tJ h ?_) (lJ h ?_)
 ·intro h;refine eU 1 R (cY 1 R ?_);cases h;exact f1 4 R
 intro h;refine eU 1 R (zF (D3 (A6 ?_)));exact .inl ⟨(),h,.vq [0,1]⟩
end Go.Proofs.YtlaogbbcipebgaaGreat
