/- Rules of the walks. -/
import Derived.Test.YtlaogbbcipebgaaGreatSh13
import Derived.RangeFuncNested
import Derived.RangeFuncLeaves
import Derived.RangeFuncSeq
import Derived.RecoverIn
import Derived.Laws.Small
import Derived.ProofKit
import Derived.OpenShut
import Derived.ShutString
import Derived.ChangeOld
import Derived.Below
import Derived.Lib.SmallJoins
import Derived.Deep.Slices
import Derived.Laws.CopyRow
import Derived.Laws.IdiomCopy
set_option linter.unusedVariables false
set_option linter.unusedSimpArgs false
open Array renaming replicate→bt,getD_eq_getD_getElem?→cb,getD→bH,length_toList→br,ext'→cS,size_eq_zero_iff→dX,mapM_eq_mapM_toList→dQ
open Bool renaming false_eq_true→bR
open Go renaming Value→al,Program→ah,TypeId→ab,Operand→aa,FuncId→bm,Op.operands→ag,Call.operands→aM,World→aO,execOp→aT,Deferred→bp,IntKind→aU,Fence.wide→aY,wpIn_mono→aW,run_underlying→aV,zeroValue→dU
open List renaming mem_cons→ap,map_cons→bw,range'→az,not_mem_nil→ay,length_map→aS,map_drop→dV,length_drop→cx,all_eq_true→ax,nodup_cons→eH,getD_eq_getElem?_getD→am,getElem?_toArray→cu,getElem?_eq_none→aD,getElem?_eq_none_iff→aQ,nil_append→cf,append_nil→aH,replicate→ak,mem_map→bZ,getElem?_append_left→aC,getElem?_append_right→aG,getElem?_replicate→bJ,ext_getElem?→dH,finRange→cV,length_replicate→aL,map_replicate→eu,mem_singleton→bD,map_take→eT,length_append→bz,length_take→aN,getElem?_take→bo,size_toArray→cZ,append_assoc→bI,getElem?_drop→bF,map_map→ck,length_nil→ct
open Nat renaming blt→aq,blt_eq→bG,le_trans→bN,lt_of_lt_of_le→bq,le_refl→aw,ble→bL,le_of_ble_eq_true→bg,zero_le→du,sub_zero→aP,not_le→cD,zero_add→aZ,beq→aJ,zero_mul→da,sub_self→cJ,mul_le_mul→eg,eq_of_beq_eq_true→aA,lt_of_le_of_lt→dw,mul_one→bM,min_def→fm,add_zero→bj
open Option renaming map→eZ,map_some→bh,getD_some→aR,map_eq_some_iff→an,getD→eS
namespace Go.Proofs.YtlaogbbcipebgaaGreat.Sh
open Go
inductive RwO (L:LR) (κ:List Nat):LR→List Nat→List Rw→Prop where
 | nil:RwO L κ [] [] []
 | cons {k:Nat} {r:Rw} {l:LR} {m:List Nat} {rs:List Rw} (h:L[k]?=some (some (r.ren (kap κ)))) (hs:r.sc κ.length=true) (q:RwO L κ l m rs):RwO L κ (some r::l) (k::m) (r::rs)
 | map {α:Type} {k:Nat} {w:List α} {kf:α→al} {vf:α→D} {l:LR} {m:List Nat} {rs:List Rw} (h:L[k]?=some (some ⟨0,w.map fun p => .agg [.d (.v (kf p)),.d (vf p)]⟩)) (q:RwO L κ l m rs):RwO L κ (some ⟨0,w.map fun p => .agg [.d (.v (kf p)),.d (vf p)]⟩::l) (k::m) (⟨0,w.map fun p => .agg [.d (.v (kf p)),.d (vf p)]⟩::rs)
 | row {α:Type} {k s:Nat} {w:List α} {f:α→D} {l:LR} {m:List Nat} {rs:List Rw} (h:L[k]?=some (some ⟨s,w.map fun a => .d (f a)⟩)) (q:RwO L κ l m rs):RwO L κ (some ⟨s,w.map fun a => .d (f a)⟩::l) (k::m) (⟨s,w.map fun a => .d (f a)⟩::rs)
theorem RwO.all {L:LR} {κ:List Nat} {l:LR} {m:List Nat} {rs:List Rw} (h:RwO L κ l m rs):l=rs.map some∧m.length=rs.length∧(∀ q∈rs,q.sc κ.length=true)∧(∀ p∈A5T m (rs.map (Rw.ren (kap κ))),L[p.1]?=some (some p.2))∧∀ n∈m,n<L.length:=by
 have step:∀ {k:Nat} {r:Rw} {l:LR} {m:List Nat} {rs:List Rw},L[k]?=some (some (r.ren (kap κ)))→r.sc κ.length=true→(l=rs.map some∧m.length=rs.length∧(∀ q∈rs,q.sc κ.length=true)∧(∀ p∈A5T m (rs.map (Rw.ren (kap κ))),L[p.1]?=some (some p.2))∧∀ n∈m,n<L.length) →
   (some r::l=(r::rs).map some∧(k::m).length=(r::rs).length∧(∀ q∈r::rs,q.sc κ.length=true)∧(∀ p∈A5T (k::m) ((r::rs).map (Rw.ren (kap κ))),L[p.1]?=some (some p.2))∧∀ n∈k::m,n<L.length):=by
  intro k r l m rs h hs ⟨h1,h2,h3,h4,h5⟩;refine⟨by rw[h1];rfl,by simp[h2],fun q hq=>?_,fun p hp=>?_,fun n hn=>?_⟩
  ·rcases ap.1 hq with rfl | hq
   ·exact hs
   ·exact h3 q hq
  ·simp only[bw,A5T,ap]at hp;rcases hp with rfl | hp
   ·exact h
   ·exact h4 p hp
  ·rcases ap.1 hn with rfl | hn
   ·exact(gS h).1
   ·exact h5 n hn
 induction h with
 | nil=>simp[A5T]
 | cons h hs _ ih=>exact step h hs ih
 | map h _ ih =>
  refine step ?_ B6a ih;unfold Rw.ren;rw[A9G];exact h
 | row h _ ih =>
  refine step ?_ B5Z ih;unfold Rw.ren;rw[A7Z];exact h
inductive RnO (σ:Nat→Nat):LR→LR→Prop where
 | nil:RnO σ [] []
 | gone {l l':LR} (q:RnO σ l l'):RnO σ (none::l) (none::l')
 | cons {r r':Rw} {l l':LR} (h:r.ren σ=r') (q:RnO σ l l'):RnO σ (some r::l) (some r'::l')
 | map {α:Type} {w:List α} {kf:α→al} {vf:α→D} {l l':LR} (q:RnO σ l l'):RnO σ (some ⟨0,w.map fun p => .agg [.d (.v (kf p)),.d (vf p)]⟩::l) (some ⟨0,w.map fun p => .agg [.d (.v (kf p)),.d (vf p)]⟩::l')
 | row {α:Type} {s:Nat} {w:List α} {f:α→D} {l l':LR} (q:RnO σ l l'):RnO σ (some ⟨s,w.map fun a => .d (f a)⟩::l) (some ⟨s,w.map fun a => .d (f a)⟩::l')
theorem RnO.eq {σ:Nat→Nat} {l l':LR} (h:RnO σ l l'):l.map (eZ (Rw.ren σ))=l':=by
 induction h with
 | nil=>rfl
 | gone _ ih=>rw[bw,ih];rfl
 | cons h _ ih=>rw[bw,ih,bh,h]
 | map _ ih =>
  rw[bw,ih,bh];unfold Rw.ren;rw[A9G]
 | row _ ih =>
  rw[bw,ih,bh];unfold Rw.ren;rw[A7Z]
def wnO:List Nat→LR→List (Nat × Option Rw)
 | n::ρ,o::os=>(n,o)::wnO ρ os
 | _,_=>[]
theorem B8t (σ:Nat→Nat):∀ (ρ:List Nat) (os:LR),A9x σ ρ os=wnO ρ (os.map (eZ (Rw.ren σ)))
 | [],_=>by simp[A9x,wnO]
 | n::ρ,[]=>by simp[A9x,wnO]
 | n::ρ,o::os=>by simp[A9x,wnO,B8t σ ρ os]
theorem B6j:∀ (ρ:List Nat) (os:LR),ρ.length=os.length→(wnO ρ os).map (·.1)=ρ
 | [],_,_=>by simp[wnO]
 | n::ρ,[],h=>by simp at h
 | n::ρ,o::os,h=>by simp[wnO];exact B6j ρ os (by simpa using h)
theorem B4r:∀ (ρ:List Nat) (os:List Rw),ρ.length=os.length→(A5T ρ os).map (·.1)=ρ
 | [],_,_=>by simp[A5T]
 | n::ρ,[],h=>by simp at h
 | n::ρ,o::os,h=>by simp[A5T];exact B4r ρ os (by simpa using h)
section
variable {P:ah} {N:Nat} {ops:Array Oper} {l:List Oper} {ts:LT} {L:LR} {tr:List Stp} {K:List Oper→List Stp→St→Prop} {d:Nat} {ty:ab} {pos:String} {af:Array Edge} {gd:Option (Nat × Bool)}
theorem B4N {dst:Option Nat} {x:aa} {xs:Array aa} {tys:Array ab} {f:bm} {cT t t':T} {as us fi ca:List T} {Lf Lf' ls ls':LR} {rs news:List Rw} {news':LR} (ρ:List Nat) (L2:LR) (hc:SCR P f as Lf t Lf') (he:Ent P f)
  (hf:O9 ts x=cT) (hcal:B6r cT f fi ca) (hx:xs.toList.map (O9 ts)=us) (hargs:fi++us++ca=A5n (kap ρ) as) (has:scL ρ.length as=true) (hnd:ndK ρ=true) (hrow:RwO L ρ Lf ρ rs) (hsp:Lf'=ls++news.map some) (hls:ls.length=ρ.length)
  {nn:Nat} {nr:List Nat} (hnn:A4f.drop L.length=nn::nr) (hr1:RnO (ext ρ nn) ls ls') (hr2:RnO (ext ρ nn) (news.map some) news') (htr:t.ren (ext ρ nn)=t') (hL:A4m L (wnO ρ ls')++news'=L2)
  (hw:I2 ops ts ⟨dst,.call { callee := .value x,args:=xs,argTypes:=tys },ty,pos,af,gd⟩=some true) (hd:B3B N dst=true)
  (k:L3 P N ops l ⟨A5m ts dst t',L2⟩ (tr++[.run (ρ++az nn news'.length) (ρ++az nn news'.length)]) K) :
  L3 P N ops (⟨dst,.call { callee := .value x,args:=xs,argTypes:=tys },ty,pos,af,gd⟩::l) ⟨ts,L⟩ tr K:=by
 have e0:=A21 hnn;subst e0;obtain⟨h1,h2,h3,h4,h5⟩:=hrow.all;subst h1 hsp htr;have e1:=hr1.eq;have e2:=hr2.eq;have hls':ρ.length=ls'.length:=by rw[← e1];simp[hls]
 refine A2i (.run hw (B2O (P:=P) (fresh:=L.length) (ρ:=ρ) (rs:=rs) (ls:=ls) (news:=news) (fi:=fi) (ca:=ca) (as:=as) (ts:=us) (r:=t) rfl he hcal (by rw[← hx];simp) hc hargs has (B0V hnd) h2 hls h3 h5) ?_ h4 ?_ hd) ?_
 ·intro p hp;rcases ap.1 hp with rfl | hp
  ·exact⟨hf,by simp[ag,aM]⟩
  ·obtain⟨a,b⟩:=A2Z hx p hp;exact⟨a,by simp only[ag,aM,Array.mem_append];exact .inr (by simpa using b)⟩
 ·intro p hp;have key:∀ (σ:Nat→Nat) (ρ:List Nat) (os:LR) (rs:List Rw),ρ.length=rs.length→∀ p∈A9x σ ρ os,∃ q∈A5T ρ rs,q.1=p.1:=by
   intro σ ρ;induction ρ with
   | nil=>intro os rs _ p hp;cases os<;>simp[A9x]at hp
   | cons n ρ ih =>
    intro os rs hl p hp;cases rs with
    | nil=>simp at hl
    | cons r rs =>
     cases os with
     | nil=>simp[A9x]at hp
     | cons o os =>
      simp only[A9x,ap]at hp;rcases hp with rfl | hp
      ·exact⟨(n,r),by simp[A5T],rfl⟩
      ·obtain⟨q,hq,e⟩:=ih os rs (by simpa using hl) p hp;exact⟨q,by simp[A5T,hq],e⟩
  exact key _ ρ _ _ (by simpa using h2) p hp
 ·have e3:(news.map (Rw.ren (ext ρ L.length))).map some=news':=by rw[← e2];simp
  have e4:(news.map (Rw.ren (ext ρ L.length))).length=news'.length:=by rw[← e3];simp
  rw[B8t,e1,B6j _ _ hls',B4r _ _ (by simpa using h2),e4];unfold St.eff;dsimp only;rw[e3,hL];exact k
theorem G7 {x:aa} {xs:Array aa} {tys:Array ab} {f:bm} {cT t t':T} {as us fi ca:List T} {Lf Lf' ls ls':LR} {rs news:List Rw} {news':LR} (ρ:List Nat) (L2:LR) (hc:SCR P f as Lf t Lf') (he:Ent P f)
  (hf:O9 ts x=cT) (hcal:B6r cT f fi ca) (hx:xs.toList.map (O9 ts)=us) (hargs:fi++us++ca=A5n (kap ρ) as) (has:scL ρ.length as=true) (hnd:ndK ρ=true) (hrow:RwO L ρ Lf ρ rs) (hsp:Lf'=ls++news.map some) (hls:ls.length=ρ.length)
  {nn:Nat} {nr:List Nat} (hnn:A4f.drop L.length=nn::nr) (hr1:RnO (ext ρ nn) ls ls') (hr2:RnO (ext ρ nn) (news.map some) news') (htr:t.ren (ext ρ nn)=t') (hL:A4m L (wnO ρ ls')++news'=L2)
  (hw:I2 ops ts ⟨some d,.call { callee := .value x,args:=xs,argTypes:=tys },ty,pos,af,gd⟩=some true) (hd:aq d N=true)
  (k:L3 P N ops l ⟨(d,t')::ts,L2⟩ (tr++[.run (ρ++az nn news'.length) (ρ++az nn news'.length)]) K) :
  L3 P N ops (⟨some d,.call { callee := .value x,args:=xs,argTypes:=tys },ty,pos,af,gd⟩::l) ⟨ts,L⟩ tr K :=
 B4N ρ L2 hc he hf hcal hx hargs has hnd hrow hsp hls hnn hr1 hr2 htr hL hw hd k
end
theorem A1R {P:ah} {fn:Func} {n0:Nat} {R:SE→LR→Prop} {st:St} (h:Fin P fn n0 R .ret st):Fin P fn n0 R .norm st:=h
def B2S {α β:Type}:Option α→β→(α→β)→β
 | none,b,_=>b
 | some a,_,f=>f a
theorem B5h {α β:Type} {o:Option α} {b:β} {f:α→β} (h:o=none):B2S o b f=b:=by subst h;rfl
theorem B5i {α β:Type} {o:Option α} {a:α} {b:β} {f:α→β} (h:o=some a):B2S o b f=f a:=by subst h;rfl
def SCO {α:Type} (P:ah) (f:bm) (as:List T) (L:LR) (o:Option α) (t0:T) (L0:LR) (t1:α→T) (L1:α→LR):Prop :=
 SC P f as L fun se X=>(o=none∧se = .ret t0∧X=L0)∨∃ a,o=some a∧se = .ret (t1 a)∧X=L1 a
theorem SCO.none {α:Type} {P:ah} {f:bm} {as:List T} {L:LR} {o:Option α} {t0:T} {L0:LR} {t1:α→T} {L1:α→LR} (h:SCO P f as L o t0 L0 t1 L1) (hn:o=none):SCR P f as L t0 L0:=SC.mono h fun se X hX=>by
 rcases hX with⟨_,h1,h2⟩ | ⟨a,h1,_⟩
 ·exact⟨h1,h2⟩
 ·rw[hn]at h1;cases h1
theorem SCO.some {α:Type} {P:ah} {f:bm} {as:List T} {L:LR} {o:Option α} {t0:T} {L0:LR} {t1:α→T} {L1:α→LR} (h:SCO P f as L o t0 L0 t1 L1) {a:α} (hn:o=some a):SCR P f as L (t1 a) (L1 a):=SC.mono h fun se X hX=>by
 rcases hX with⟨h1,_⟩ | ⟨b,h1,h2,h3⟩
 ·rw[hn]at h1;cases h1
 ·rw[hn]at h1;injection h1 with h1;subst h1;exact⟨h2,h3⟩
def B55 (P:ah) (ty:ab):Prop:=∀ (o:aa) (a:Option Addr) (n cap:Nat) (w:aO),(do eqGuard .eql ty o (.const (.slice none 0 0)) (.slice a n cap) (.slice none 0 0);binOp .eql ty (.slice a n cap) (.slice none 0 0):Sem al).run P w = .ok (.bool a.isNone) w
theorem B7Q {P:ah} {o:Oper} {fresh:Nat} {ty ty':ab} {x:aa} {t:T} {b:Bool} (hop:o.op = .binOp .eql ty x (.const (.slice none 0 0)) ty') (hz:B55 P ty) (hb:∀ g c,VT g t c→∃ a n cap,c = .slice a n cap∧a.isNone=b):OpS P o [(x,t)] [] [] fresh [] (.d (.v (.bool b))) :=
 .of_pure (fun c h=>by rw[hop]at h;cases h) fun g a _ hi _=>⟨.bool b,by
  obtain⟨ad,n,cap,e1,e2⟩:=hb g _ (hi (x,t) sM);dsimp only at e1;have:=hz x ad n cap g.w;have e3:a.eval (.const (.slice none 0 0)) = .slice none 0 0:=rfl;simp only[aT,hop,e1,e3,Sem.run_bind]at this ⊢;rw[this,e2];rfl,.d (.v _ rfl)⟩
theorem SW.raw {P:ah} {n0 N:Nat} {df:List bp} {Q:SX→St→Prop} {c:Code} {ts:LT} {L:LR} (i s:Nat) (hi:W8 ts i = .d (.arr s [])) (h:∀ a cap,SW P n0 N df c Q ⟨(i,.d (.v (.slice a 0 cap)))::ts,L⟩):SW P n0 N df c Q ⟨ts,L⟩:=fun F nn hF g a hR=>by
 have h1:=hR.ts i;dsimp only at h1;rw[hi]at h1;generalize hv:a.tmps.getD i undef=v at h1;have:∃ ad cap,v = .slice ad 0 cap:=by
  cases h1 with | d h1 =>
  cases h1 with
  | arr0=>exact⟨_,_,rfl⟩
  | arr=>exact⟨_,_,rfl⟩
 obtain⟨ad,cap,rfl⟩:=this;refine h ad cap F nn hF g a ⟨hR.good,hR.M,hR.size,fun j=>?_,hR.df⟩;have e:=A2M (ts:=ts) (dst:=some i) (v := .d (.v (.slice ad 0 cap))) j;simp only[A5m]at e;rw[e];split
 ·rename_i hj;injection hj with hj;subst hj;rw[hv];exact .d (.v _ rfl)
 ·exact hR.ts j
theorem SW.unraw {P:ah} {n0 N:Nat} {df:List bp} {Q:SX→St→Prop} {c:Code} {ts:LT} {L:LR} (i s:Nat) {a:Option Addr} {cap:Nat} (hi:W8 ts i = .d (.v (.slice a 0 cap))) (h:SW P n0 N df c Q ⟨(i,.d (.arr s []))::ts,L⟩):SW P n0 N df c Q ⟨ts,L⟩:=fun F nn hF g ac hR=>by
 have h1:=hR.ts i;dsimp only at h1;rw[hi]at h1;have h2:=h1.v_eq;refine h F nn hF g ac ⟨hR.good,hR.M,hR.size,fun j=>?_,hR.df⟩;have e:=A2M (ts:=ts) (dst:=some i) (v := .d (.arr s [])) j;simp only[A5m]at e;rw[e];split
 ·rename_i hj;injection hj with hj;subst hj;rw[h2];exact .d (.arr0 s a cap)
 ·exact hR.ts j
section
variable {P:ah} {N:Nat} {ops:Array Oper} {l:List Oper} {ts:LT} {L:LR} {tr:List Stp} {d:Nat} {ty:ab} {pos:String} {af:Array Edge} {gd:Option (Nat × Bool)} {K:List Oper→List Stp→St→Prop}
theorem B4l {ty1 ty2:ab} {x:aa} {n s:Nat} (hz:B55 P ty1) (hx:O9 ts x = .d (.v (.slice none n s))) (hw:I2 ops ts ⟨some d,.binOp .eql ty1 x (.const (.slice none 0 0)) ty2,ty,pos,af,gd⟩=some true) (hd:aq d N=true)
  (k:L3 P N ops l ⟨(d,.d (.v (.bool true)))::ts,L⟩ (tr++[.run [] []]) K):L3 P N ops (⟨some d,.binOp .eql ty1 x (.const (.slice none 0 0)) ty2,ty,pos,af,gd⟩::l) ⟨ts,L⟩ tr K :=
 K0 rfl (B7Q (t := .d (.v (.slice none n s))) (b:=true) rfl hz (fun g c h=>by have:=h.v_eq;exact⟨_,_,_,this,rfl⟩)) hw (fun p hp=>by simp only[ap,ay,or_false]at hp;subst hp;exact⟨hx,by simp[ag]⟩) sM hd k
theorem B4k {ty1 ty2:ab} {x:aa} {a:Addr} {n s:Nat} (hz:B55 P ty1) (hx:O9 ts x = .d (.v (.slice (some a) n s))) (hw:I2 ops ts ⟨some d,.binOp .eql ty1 x (.const (.slice none 0 0)) ty2,ty,pos,af,gd⟩=some true) (hd:aq d N=true)
  (k:L3 P N ops l ⟨(d,.d (.v (.bool false)))::ts,L⟩ (tr++[.run [] []]) K):L3 P N ops (⟨some d,.binOp .eql ty1 x (.const (.slice none 0 0)) ty2,ty,pos,af,gd⟩::l) ⟨ts,L⟩ tr K :=
 K0 rfl (B7Q (t := .d (.v (.slice (some a) n s))) (b:=false) rfl hz (fun g c h=>by have:=h.v_eq;exact⟨_,_,_,this,rfl⟩)) hw (fun p hp=>by simp only[ap,ay,or_false]at hp;subst hp;exact⟨hx,by simp[ag]⟩) sM hd k
theorem B4j {ty1 ty2:ab} {x:aa} {s:Nat} {y:D} {w:List D} (hz:B55 P ty1) (hx:O9 ts x = .d (.arr s (y::w))) (hw:I2 ops ts ⟨some d,.binOp .eql ty1 x (.const (.slice none 0 0)) ty2,ty,pos,af,gd⟩=some true) (hd:aq d N=true)
  (k:L3 P N ops l ⟨(d,.d (.v (.bool false)))::ts,L⟩ (tr++[.run [] []]) K):L3 P N ops (⟨some d,.binOp .eql ty1 x (.const (.slice none 0 0)) ty2,ty,pos,af,gd⟩::l) ⟨ts,L⟩ tr K :=
 K0 rfl (B7Q (t := .d (.arr s (y::w))) (b:=false) rfl hz (fun g c h=>by cases h with | d h=>cases h;exact⟨_,_,_,rfl,rfl⟩)) hw (fun p hp=>by simp only[ap,ay,or_false]at hp;subst hp;exact⟨hx,by simp[ag]⟩) sM hd k
theorem B5S {src dst:ab} {x:aa} {k k2:aU} {n:Int} (hs:(P.underlying src).isSome=true) (hk:P.intKind dst=k2) (hd':P.underlying dst=some (.int k2)) (hx:O9 ts x = .d (.v (.int k n))) (hw:I2 ops ts ⟨some d,.convert src dst x,ty,pos,af,gd⟩=some true) (hd:aq d N=true)
  (kk:L3 P N ops l ⟨(d,.d (.v (.int k2 (k2.wrap n))))::ts,L⟩ (tr++[.run [] []]) K):L3 P N ops (⟨some d,.convert src dst x,ty,pos,af,gd⟩::l) ⟨ts,L⟩ tr K :=
 B9d (p := .int k n) (z := .int k2 (k2.wrap n)) hx rfl (fun w=>by subst hk;exact run_convert_int w src dst k n hs hd') hw hd kk
theorem B8f {t e:ab} {i ei:TI} {x y:aa} {s:Nat} {α:Type} {w q:List α} {g:α→D} {k:aU} {j:Int} (tb:Tab P) (ht:tb.f t=some i) (hs:i.sl=some e) (he:tb.f e=some ei) (hx:O9 ts x = .d (.arr s (w.map g))) (hz:ei.size=s) (hy:O9 ts y = .d (.v (.int k j))) (hq:A7A w j w.length=some q) (hw:I2 ops ts ⟨some d,.slice t x (some y) none none,ty,pos,af,gd⟩=some true) (hd:aq d N=true)
  (kk:L3 P N ops l ⟨(d,.d (.arr s (q.map g)))::ts,L⟩ (tr++[.run [] []]) K):L3 P N ops (⟨some d,.slice t x (some y) none none,ty,pos,af,gd⟩::l) ⟨ts,L⟩ tr K:=by
 unfold A7A at hq;split at hq
 ·rename_i h;injection hq with hq
  subst hq;obtain⟨m,rfl⟩:=Int.eq_ofNat_of_zero_le h.1;refine C0c (p:=m) tb ht hs he hx hz hy (by rw[aS];omega) hw hd ?_;rw[← dV];rw[List.take_of_length_le (by simp only[cx];simp)]at kk;simpa using kk
 ·cases hq
end
theorem VD.turn {g g':G} (hk:∀ b,g.K b→g'.K b∧g'.w.heap[b]?=g.w.heap[b]?) {d:D} {c:al} (h:VD g d c):VD g' d c:=by
 have hc:∀ b o v,g.K b→g.w.cell? ⟨b,o,none⟩=some v→g'.w.cell? ⟨b,o,none⟩=some v:=fun b o v hb hv=>by
  unfold World.cell? at hv ⊢;rw[(hk b hb).2];exact hv
 induction h with
 | v x h=>exact .v x h
 | agg l cs hl h ih=>exact .agg l cs hl ih
 | tup l cs hl h ih=>exact .tup l cs hl ih
 | arr0 s a cap=>exact .arr0 s a cap
 | arr s l b off cap f hcap hK hs hw hv ih=>exact .arr s l b off cap f hcap (hk b hK).1 hs (fun i d hd j e he=>hc _ _ _ hK (hw i d hd j e he)) ih
 | el s l i o b off f hK hs hw hv ih=>exact .el s l i o b off f (fun h=>(hk b (hK h)).1) hs (fun i d hd j e he=>hc _ _ _ (hK (by rintro rfl;simp at hd)) (hw i d hd j e he)) ih
 | mp ks vs b es clock hK hh hl hl2 h1 hv ih=>exact .mp ks vs b es clock (hk b hK).1 ((hk b hK).2.trans hh) hl hl2 h1 ih
theorem VT.turn {g g':G} (hk:∀ b,g.K b→g'.K b∧g'.w.heap[b]?=g.w.heap[b]?) (he:∀ n,g.M n≠none→g'.M n≠none∧g'.β n=g.β n) {t:T} {c:al} (h:VT g t c):VT g' t c:=by
 induction h with
 | d h=>exact .d (h.turn hk)
 | bot c=>exact .bot c
 | ref n s i o hn hs=>obtain⟨h1,h2⟩:=he n hn;rw[← h2];exact .ref n s i o h1 hs
 | row n s lo len a hn hs hl ha=>obtain⟨h1,h2⟩:=he n hn;rw[← h2]at hl ha ⊢;exact .row n s lo len a h1 hs hl ha
 | mp n hn=>obtain⟨h1,h2⟩:=he n hn;rw[← h2];exact .mp n h1
 | agg l cs hl h ih=>exact .agg l cs hl ih
 | tup l cs hl h ih=>exact .tup l cs hl ih
 | fn f l m cs ds hl h hm k ih ik=>exact .fn f l m cs ds hl ih hm ik
 | iface t x c h ih=>exact .iface t x c ih
theorem VT.turnN {g g':G} {k:Nat} (hk:∀ b,g.K b→g'.K b∧g'.w.heap[b]?=g.w.heap[b]?) (he:∀ n,n<k→g.M n≠none→g'.M n≠none∧g'.β n=g.β n) {t:T} {c:al} (h:VT g t c):t.sc k=true→VT g' t c:=by
 induction h with
 | d h=>intro _;exact .d (h.turn hk)
 | bot c=>intro _;exact .bot c
 | ref n s i o hn hs=>intro hc;obtain⟨h1,h2⟩:=he n (by simpa[T.sc,bG]using hc) hn;rw[← h2];exact .ref n s i o h1 hs
 | row n s lo len a hn hs hl ha=>intro hc;obtain⟨h1,h2⟩:=he n (by simpa[T.sc,bG]using hc) hn;rw[← h2]at hl ha ⊢;exact .row n s lo len a h1 hs hl ha
 | mp n hn=>intro hc;obtain⟨h1,h2⟩:=he n (by simpa[T.sc,bG]using hc) hn;rw[← h2];exact .mp n h1
 | agg l cs hl h ih =>
  intro hc;simp only[T.sc,A3m,ax]at hc;exact .agg l cs hl fun i d c hd h'=>ih i d c hd h' (hc d (iM hd))
 | tup l cs hl h ih =>
  intro hc;simp only[T.sc,A3m,ax]at hc;exact .tup l cs hl fun i d c hd h'=>ih i d c hd h' (hc d (iM hd))
 | fn f l m cs ds hl h hm k ih ik =>
  intro hc;simp only[T.sc,A3m,Bool.and_eq_true,ax]at hc;exact .fn f l m cs ds hl (fun i d c hd h'=>ih i d c hd h' (hc.1 d (iM hd))) hm fun i d c hd h'=>ik i d c hd h' (hc.2 d (iM hd))
 | iface t x c h ih=>intro hc;exact .iface t x c (ih (by simpa[T.sc]using hc))
theorem A4q.turn {g g':G} (hk:∀ b,g.K b→g'.K b∧g'.w.heap[b]?=g.w.heap[b]?) (he:∀ n,g.M n≠none→g'.M n≠none∧g'.β n=g.β n) {n:Nat} {r:Rw} (h:A4q g n r) (hb:g'.β n=g.β n) (hh:(g.β n).2≠0→g'.w.heap[(g.β n).1]?=g.w.heap[(g.β n).1]?):A4q g' n r :=
 h.rel rfl hb hh rfl (fun x x'=>x=x') (fun i x x' h1 h2=>by rw[h1]at h2;injection h2) (fun x x' h=>by subst h;exact⟨rfl,fun j y y' h1 h2=>by rw[h1]at h2;injection h2⟩) (fun k y x' h=>⟨y,h.symm,rfl⟩) (fun t t' c e hv=>e▸hv.turn hk he)
theorem B9v {g:G} (hg:P6 g) {b:Nat} {o:Obj} (h:g.w.heap[b]?=some o) (h1:∀ c t x,o ≠ .cells c t x) (h2:∀ es c,o ≠ .map es c):NL g b:=fun n r hn h0 e=>by
 rcases hg.rows n r hn with⟨k,_⟩ | ⟨_,cells,t,k1,_⟩ | ⟨_,_,es,clock,k1,_⟩
 ·exact h0 k
 ·rw[e,h]at k1;injection k1 with k1;exact h1 _ _ _ k1
 ·rw[e,h]at k1;injection k1 with k1;exact h2 _ _ k1
theorem A3l {g:G} (hg:P6 g) {b:Nat} {r:Loop} (h:g.w.heap[b]?=some (.loop r)):NL g b:=B9v hg h (fun c t x e=>by cases e) (fun es c e=>by cases e)
theorem A5L {g:G} (hg:P6 g) {b:Nat} {r:Option (List bp)} (h:g.w.heap[b]?=some (.deferred r)):NL g b:=B9v hg h (fun c t x e=>by cases e) (fun es c e=>by cases e)
structure LeL (l n0:Nat) (g g':G):Prop where
 e:∀ n,n<n0→g.M n≠none→g'.M n≠none∧g'.β n=g.β n
 size:g.w.heap.size≤g'.w.heap.size
 os:g'.w.os=g.w.os
 tape:g'.w.tape=g.w.tape
 output:g'.w.output=g.w.output
 fr:∀ b,b<g.w.heap.size→NL g b→b≠l→g'.w.heap[b]?=g.w.heap[b]?
 k:∀ b,g.K b→g'.K b
 k':∀ b,b<g.w.heap.size→g'.K b→g.K b∨¬ NL g b
 nl:∀ n r,g'.M n=some (some r)→(g'.β n).2≠0→(g'.β n).1<g.w.heap.size→¬ NL g (g'.β n).1
theorem LeN.toL {n0:Nat} {g g':G} (h:LeN n0 g g') (l:Nat):LeL l n0 g g':=⟨h.e,h.size,h.os,h.tape,h.output,fun b hb hn _=>h.fr b hb hn,h.k,h.k',h.nl⟩
theorem LeL.less {l n0 n1:Nat} {g g':G} (h:LeL l n0 g g') (hn:n1≤n0):LeL l n1 g g':=⟨fun n hlt=>h.e n oM,h.size,h.os,h.tape,h.output,h.fr,h.k,h.k',h.nl⟩
theorem LeL.refl (l n0:Nat) (g:G):LeL l n0 g g:=(LeN.refl n0 g).toL l
theorem LeL.keepNL {l n0:Nat} {g g':G} (h:LeL l n0 g g') {b:Nat} (hb:b<g.w.heap.size) (hn:NL g b):NL g' b:=fun n r hr h0 he=>h.nl n r hr h0 (by rw[he];exact hb) (he▸hn)
theorem LeL.trans {l n0:Nat} {a b c:G} (h:LeL l n0 a b) (k:LeL l n0 b c):LeL l n0 a c where
 e n hlt hn:=by
  obtain⟨h1,h2⟩:=h.e n hlt hn;obtain⟨k1,k2⟩:=k.e n hlt h1;exact⟨k1,k2.trans h2⟩
 size:=bN h.size k.size
 os:=k.os.trans h.os
 tape:=k.tape.trans h.tape
 output:=k.output.trans h.output
 fr x hx hn hl:=(k.fr x (bq hx h.size) (h.keepNL hx hn) hl).trans (h.fr x hx hn hl)
 k x hx:=k.k x (h.k x hx)
 k' x hx hk:=by
  rcases k.k' x (bq hx h.size) hk with h1 | h1
  ·exact h.k' x hx h1
  ·exact .inr fun hn=>h1 (h.keepNL hx hn)
 nl n r hr h0 hlt:=by
  intro hn;exact k.nl n r hr h0 (bq hlt h.size) (h.keepNL hlt hn)
theorem LeL.toN {l n0:Nat} {g g':G} (h:LeL l n0 g g') (hl:g.w.heap.size≤l):LeN n0 g g':=⟨h.e,h.size,h.os,h.tape,h.output,fun b hb hn=>h.fr b hb hn oM,h.k,h.k',h.nl⟩
theorem A6D {g:G} (hg:P6 g) {l:Nat} (hl:NL g l) (hk:¬ g.K l) (o:Obj) (n0:Nat) :
  P6 ⟨g.M,g.β,g.K,g.w.putObj l o⟩∧LeL l n0 g ⟨g.M,g.β,g.K,g.w.putObj l o⟩∧∀ t c,VT g t c→VT ⟨g.M,g.β,g.K,g.w.putObj l o⟩ t c:=by
 have hh:∀ b,b≠l→(g.w.putObj l o).heap[b]?=g.w.heap[b]?:=fun b hb=>World.putObj_heap_other hb;have h1:∀ b,g.K b→g.K b∧(g.w.putObj l o).heap[b]?=g.w.heap[b]?:=fun b hb=>⟨hb,hh b fun e=>hk (e▸hb)⟩;have h2:∀ n,g.M n≠none→g.M n≠none∧g.β n=g.β n:=fun n hn=>⟨hn,rfl⟩;refine⟨⟨fun n r hn=>(hg.rows n r hn).turn (g':=⟨g.M,g.β,g.K,g.w.putObj l o⟩) h1 h2 rfl (fun h0=>hh _ fun e=>hl n r hn h0 e),hg.inj,fun b hb=>?_,hg.kl⟩,
  ⟨fun n _ hn=>⟨hn,rfl⟩,?_,rfl,rfl,rfl,fun b _ _ hb=>hh b hb,fun b hb=>hb,fun b _ hb => .inl hb,fun n r hn h0 _ hk=>hk n r hn h0 rfl⟩,fun t c h=>h.turn (g':=⟨g.M,g.β,g.K,g.w.putObj l o⟩) h1 h2⟩
 ·show b<(g.w.putObj l o).heap.size;rw[World.putObj_size];exact hg.kd b hb
 ·show _≤(g.w.putObj l o).heap.size;rw[World.putObj_size];exact aw _
structure A72 (db:Nat) (g:G) (df:List bp):Prop where
 nd:df.Nodup
 sz:db≤g.w.heap.size
 all:∀ d∈df,∃ D,d={ target := .collected D,args:=#[] }∧db≤D∧g.w.heap[D]?=some (.deferred (some []))∧¬ g.K D
theorem A72.nil {db:Nat} {g:G} (h:db≤g.w.heap.size):A72 db g []:=⟨by simp,h,fun d hd=>by cases hd⟩
theorem A72.stepN {db n0:Nat} {g g':G} {df:List bp} (h:A72 db g df) (hg:P6 g) (hl:LeN n0 g g'):A72 db g' df:=by
 refine⟨h.nd,bN h.sz hl.size,fun d hd=>?_⟩;obtain⟨D,h1,h2,h3,h4⟩:=h.all d hd;have hlt:=(gA h3).1;refine⟨D,h1,h2,?_,fun hk=>?_⟩
 ·rw[hl.fr D hlt (A5L hg h3)];exact h3
 ·rcases hl.k' D hlt hk with k | k
  ·exact h4 k
  ·exact k (A5L hg h3)
structure B83 (db:Nat) (K:Nat→Prop) (w w':aO):Prop where
 size:w'.heap.size=w.heap.size
 os:w'.os=w.os
 tape:w'.tape=w.tape
 output:w'.output=w.output
 same:∀ b,(b<db∨K b∨∀ o,w.heap[b]?=some o→∀ x,o ≠ .deferred x)→w'.heap[b]?=w.heap[b]?
theorem B5H {P:ah} {fn:Func} {tmps:Array al} {R:Ending→aO→Prop} {u:FrameMode} (hu:u ≠ .run) {db:Nat} {K:Nat→Prop} (n:Nat) :
  ∀ (df:List bp) (w:aO),df.Nodup→(∀ d∈df,∃ D,d={ target := .collected D,args:=#[] }∧db≤D∧w.heap[D]?=some (.deferred (some []))∧¬ K D) →
  (∀ w',B83 db K w w'→LeavesIn aY n P fn tmps R [] u w')→LeavesInM aY n P fn tmps R df u w
 | [],w,_,_,k=>k w ⟨rfl,rfl,rfl,rfl,fun _ _=>rfl⟩
 | d::df,w,hn,hd,k=>by
  obtain⟨D,rfl,h2,h3,h4⟩:=hd d sM;obtain⟨hn1,hn2⟩:=eH.1 hn;refine⟨hu,.inl ⟨D,w.putObj D (.deferred none),rfl,run_takeDeferred h3,?_⟩⟩;refine B5H hu (db:=db) (K:=K) n df _ hn2 (fun e he=>?_) fun w' hs=>k w' ⟨by rw[hs.size,World.putObj_size],hs.os,hs.tape,hs.output,fun b hb=>?_⟩
  ·obtain⟨E,rfl,e2,e3,e4⟩:=hd e (by simp[he]);exact⟨E,rfl,e2,by rw[World.putObj_heap_other (fun e=>hn1 (by rw[← e];exact he))];exact e3,e4⟩
  ·have hbD:b≠D:=by
    rintro rfl;rcases hb with hb | hb | hb
    ·omega
    ·exact h4 hb
    ·exact hb _ h3 _ rfl
   rw[hs.same b,World.putObj_heap_other hbD];rw[World.putObj_heap_other hbD];exact hb
theorem A9N {db:Nat} {g:G} {w':aO} (hg:P6 g) (h:B83 db g.K g.w w'):P6 ⟨g.M,g.β,g.K,w'⟩∧∀ t c,VT g t c→VT ⟨g.M,g.β,g.K,w'⟩ t c:=by
 have h1:∀ b,g.K b→g.K b∧w'.heap[b]?=g.w.heap[b]?:=fun b hb=>⟨hb,h.same b (.inr (.inl hb))⟩;have h2:∀ n,g.M n≠none→g.M n≠none∧g.β n=g.β n:=fun n hn=>⟨hn,rfl⟩;refine⟨⟨fun n r hn=>(hg.rows n r hn).turn (g':=⟨g.M,g.β,g.K,w'⟩) h1 h2 rfl (fun h0=>h.same _ (.inr (.inr fun o ho x e=>?_))),hg.inj,fun b hb=>by show b<w'.heap.size;rw[h.size];exact hg.kd b hb,hg.kl⟩,fun t c ht=>ht.turn (g':=⟨g.M,g.β,g.K,w'⟩) h1 h2⟩;subst e;exact A5L hg ho n r hn h0 rfl
theorem A6y {g:G} {vs:List al} {args:List T} {N:Nat} (hv:VTs g args vs) (hl:bL args.length N=true) (n:Nat) (hn:n=N) :
  (vs.toArray++bt (n-vs.toArray.size) undef).size=N∧∀ i,VT g (W8 (L8 0 args) i) ((vs.toArray++bt (n-vs.toArray.size) undef).getD i undef):=by
 have hle:=bg hl;have hlen:=hv.1;refine⟨by simp;omega,fun i=>?_⟩;rw[B0E,if_pos (du i),aP];by_cases hi:i<args.length
 ·have h1:args[i]?=some args[i]:=gE hi;have h2:vs[i]?=some (vs[i]'oM):=gE _;rw[am,h1,aR,cb,Array.getElem?_append_left (by simp;omega),cu,h2,aR];exact hv.2 i _ _ h1 h2
 ·rw[am,aD oM];exact .bot _
theorem A9r {P:ah} {l:Nat} {f:bm} {tmps:Array al} {assign body:Code} {w:aO} {R:Ending→aO→Prop} (r:Option Nat) (n:Nat) (h:RoundIn aY 0 P l f tmps assign body w R):RoundIn { aY with round:=r } n P l f tmps assign body w R :=
 ⟨trivial,fun c cs _=>h.2 c cs (fun _ h=>by cases h)⟩
theorem A7s.soundL {P:ah} {N:Nat} {ops:Array Oper} {R:Exit→Act→aO→Prop} {F:Fence} {nn:Nat} {o:Oper} {l:List Oper} {st st1:St} {s:Stp} (hF:Wd F) (h:A7s P N ops o st s st1) {g:G} {a:Act} {df:List bp} (hR:StR g N st a df)
  (k:∀ g' a',Le g g'→StR g' N st1 a' df→wpListIn F nn P ops R l a' g'.w):wpListIn F nn P ops R (o::l) a g.w:=by
 unfold wpListIn;cases h with
 | run hw hop hi hr hwn hd =>
  rename_i ins rn wn new v;rw[A0W hw fun d _=>hR.ts d];simp only[if_true];refine hop F nn hF g a hR.good (fun p hp=>(hi p hp).1▸A4G hR.ts p.1) (fun p hp=>by rw[hR.M];exact hr p hp) (fun k hk=>by rw[hR.M];exact aD oM) _ _ fun g' c h1 h2 h3 h4=>?_;refine k g' _ h2 ⟨h1,?_,by rw[A5c];exact hR.size,fun j=>?_,by rw[A3h];exact hR.df⟩
  ·rw[h3,hR.M,B0y];intro p hp;obtain⟨q,hq,he⟩:=hwn p hp;have:=hr q hq;rw[← he];exact(gS this).1
  ·rw[A5b hR.size hd];simp only[St.eff,A2M];split
   ·exact h4
   ·exact(hR.ts j).mono hR.good h2
 | skip hw hd =>
  rw[A0W hw fun d _=>hR.ts d];simp only[bR,if_false];refine⟨fun f _=>hF.fn f,k g _ (.refl g) ⟨hR.good,?_,by rw[A5c];exact hR.size,fun j=>?_,by rw[A3h];exact hR.df⟩⟩
  ·rw[hR.M];simp[St.eff,A4m]
  ·rw[A5b hR.size hd];simp only[St.eff,A2M];split
   ·exact .d (.tup [] #[] rfl fun i d c h=>by simp at h)
   ·exact hR.ts j
structure JX where
 l:Nat
 ps:Array Tmp
 asg:Code
 body:Code
 N:Nat
 ts:LT
 n1:Nat
structure JR where
 fn:bm
 tmps:Array al
 D:Nat
def JX.lp (X:JX) (r:JR) (st:LoopState) (pe:Option Code):Loop:={ state:=st,pending:=pe,fn:=r.fn,tmps:=r.tmps,params:=X.ps,assign:=X.asg,body:=X.body,defers:=r.D }
def A5v:SX→LoopState
 | .norm => .ready
 | .pan _ => .busy
 | _ => .done
def A3p:SX→Option Code
 | .ret=>some .ret
 | .exit i=>some (.exit i)
 | _=>none
structure JOk (X:JX) (r:JR) (ph:SX) (g:G):Prop where
 lrec:g.w.heap[X.l]?=some (.loop (X.lp r (A5v ph) (A3p ph)))
 mark:g.w.heap[r.D]?=some (.deferred (some []))
 kl:¬ g.K X.l
 kD:¬ g.K r.D
 sz:r.tmps.size=X.N
 ts:∀ i,VT g (W8 X.ts i) (r.tmps.getD i undef)
 sc:∀ i,(W8 X.ts i).sc X.n1=true
theorem A6q {g g':G} {n0 b:Nat} (h:LeN n0 g g') (hb:b<g.w.heap.size) (hn:NL g b) (hk:¬ g.K b):g'.w.heap[b]?=g.w.heap[b]?∧¬ g'.K b :=
 ⟨h.fr b hb hn,fun hk'=>by rcases h.k' b hb hk' with h1 | h1;exact hk h1;exact h1 hn⟩
theorem VT.monoN {g g':G} (hg:P6 g) {n0:Nat} (h:LeN n0 g g') {t:T} {c:al} (hv:VT g t c) (hs:t.sc n0=true):VT g' t c :=
 hv.turnN (fun b hb=>⟨h.k b hb,h.fr b (hg.kd b hb) (hg.kl b hb)⟩) h.e hs
theorem JOk.step {X:JX} {r:JR} {ph:SX} {g g':G} (h:JOk X r ph g) (hg:P6 g) (hl:LeN X.n1 g g'):JOk X r ph g':=by
 obtain⟨h1,h2⟩:=A6q hl (gA h.lrec).1 (A3l hg h.lrec) h.kl;obtain⟨h3,h4⟩:=A6q hl (gA h.mark).1 (A5L hg h.mark) h.kD;exact⟨h1.trans h.lrec,h3.trans h.mark,h2,h4,h.sz,fun i=>(h.ts i).monoN hg hl (h.sc i),h.sc⟩
def B3y (X:JX) (r:JR) (g:G) (N:Nat) (Q:SX→SX→St→Prop):Exit→Act→aO→Prop:=fun ex a' w' =>
 ∃ g' ph sx st,g'.w=w'∧LeL X.l X.n1 g g'∧StR g' N st a' []∧JOk X r ph g'∧XR g' sx ex∧Q ph sx st
theorem B3y.trans {X:JX} {r:JR} {g g1:G} {N:Nat} {Q:SX→SX→St→Prop} (hl:LeL X.l X.n1 g g1) {ex:Exit} {a:Act} {w:aO} (h:B3y X r g1 N Q ex a w):B3y X r g N Q ex a w:=by
 obtain⟨g',ph,sx,st,h1,h2,h3⟩:=h;exact⟨g',ph,sx,st,h1,hl.trans h2,h3⟩
def SWJ (P:ah) (X:JX) (N:Nat) (c:Code) (Q:SX→SX→St→Prop) (ph:SX) (st:St):Prop :=
 ∀ (F:Fence) (nn:Nat),Wd F→∀ (r:JR) (g:G) (a:Act),JOk X r ph g→StR g N st a []→c.wpIn F nn P (B3y X r g N Q) a g.w
section
variable {P:ah} {X:JX} {N:Nat} {Q:SX→SX→St→Prop} {ph:SX} {st:St}
theorem A9R {c:Code} (h:SW P X.n1 N [] c (Q ph) st):SWJ P X N c Q ph st:=fun F nn hF r g a hj hR =>
 aW (h F nn hF g a hR) fun ex a' w' ⟨g',sx,st',h1,h2,h3,h4,h5⟩=>⟨g',ph,sx,st',h1,h2.toL _,h3,hj.step hR.good h2,h4,h5⟩
def B2w (K:SX→St→Prop) (Q:SX→SX→St→Prop):SX→SX→St→Prop:=fun ph=>A5w (K ph) (Q ph)
def A94 (id:Nat) (Q:SX→SX→St→Prop):SX→SX→St→Prop:=fun ph=>A34 id (Q ph)
theorem I8 {K:SX→St→Prop} (h:K ph st):B2w K Q ph .norm st:=h
theorem A4F {K:SX→St→Prop} (h:Q ph .ret st):B2w K Q ph .ret st:=h
theorem A4E {K:SX→St→Prop} {i:Nat} (h:Q ph (.exit i) st):B2w K Q ph (.exit i) st:=h
theorem A5B {K:SX→St→Prop} {t:T} (h:Q ph (.pan t) st):B2w K Q ph (.pan t) st:=h
theorem A6R {i:Nat} {t:T} (h:Q ph (.pan t) st):A94 i Q ph (.pan t) st:=h
theorem A3G {i:Nat} (h:Q ph .norm st):A94 i Q ph .norm st:=h
theorem A6S {i:Nat} (h:Q ph .ret st):A94 i Q ph .ret st:=h
theorem A76 {i:Nat} (h:Q ph .norm st):A94 i Q ph (.exit i) st:=I5 (Q:=Q ph) h
theorem A2O (h:Q ph .norm st):SWJ P X N .skip Q ph st:=A9R (D7 h)
theorem B13 {i:Nat} (h:Q ph (.exit i) st):SWJ P X N (.exit i) Q ph st:=A9R (N5 h)
theorem A9v (h:Q ph .ret st):SWJ P X N .ret Q ph st:=A9R (C9 h)
theorem U7 {x y:Code} (h:SWJ P X N x (B2w (SWJ P X N y Q) Q) ph st):SWJ P X N (.seq x y) Q ph st:=fun F nn hF r g a hj hR=>by
 refine wpIn_seq (aW (h F nn hF r g a hj hR) ?_);rintro ex a' w' ⟨g',ph',sx,st',rfl,h2,k2,k1,k4,k5⟩;cases sx with
 | norm =>
  cases ex<;>first | exact k4.elim | skip
  exact aW (k5 F nn hF r g' a' k1 k2) fun _ _ _ hq=>hq.trans h2
 | ret=>cases ex<;>first | exact k4.elim | exact⟨g',ph',_,st',rfl,h2,k2,k1,k4,k5⟩
 | exit i=>cases ex<;>first | exact k4.elim | exact⟨g',ph',_,st',rfl,h2,k2,k1,k4,k5⟩
 | pan t=>cases ex<;>first | exact k4.elim | exact⟨g',ph',_,st',rfl,h2,k2,k1,k4,k5⟩
theorem A59 {id:Nat} {c:Code} (h:SWJ P X N c (A94 id Q) ph st):SWJ P X N (.block id c) Q ph st:=fun F nn hF r g a hj hR=>by
 refine wpIn_block (aW (h F nn hF r g a hj hR) ?_);rintro ex a' w' ⟨g',ph',sx,st',rfl,h2,k2,k1,k4,k5⟩;cases sx with
 | norm=>cases ex<;>first | exact k4.elim | exact⟨g',ph',.norm,st',rfl,h2,k2,k1,trivial,k5⟩
 | ret=>cases ex<;>first | exact k4.elim | exact⟨g',ph',.ret,st',rfl,h2,k2,k1,trivial,k5⟩
 | exit i =>
  cases ex<;>first | exact k4.elim | skip
  rename_i j;have h4':i=j:=k4;subst h4';simp only[A94,A34]at k5;by_cases hi:i=id
  ·rw[if_pos hi]at k5;simp only[Exit.inBlock,hi,if_true];exact⟨g',ph',.norm,st',rfl,h2,k2,k1,trivial,k5⟩
  ·rw[if_neg hi]at k5;simp only[Exit.inBlock,hi,if_false];exact⟨g',ph',.exit i,st',rfl,h2,k2,k1,rfl,k5⟩
 | pan t=>cases ex<;>first | exact k4.elim | exact⟨g',ph',.pan t,st',rfl,h2,k2,k1,k4,k5⟩
theorem B47 {c:aa} {x y:Code} {b:Bool} (hc:O9 st.ts c = .d (.v (.bool b))) (ht:b=true→SWJ P X N x Q ph st) (hf:b=false→SWJ P X N y Q ph st):SWJ P X N (.cond c x y) Q ph st:=fun F nn hF r g a hj hR=>by
 have h1:=A4G hR.ts c;rw[hc]at h1;exact wpIn_cond_split h1.v_eq (fun h=>ht h F nn hF r g a hj hR) (fun h=>hf h F nn hF r g a hj hR)
theorem A3R {c:aa} {x y:Code} (hc:O9 st.ts c = .d (.v (.bool true))) (h:SWJ P X N x Q ph st):SWJ P X N (.cond c x y) Q ph st:=B47 hc (fun _=>h) (fun h=>by cases h)
theorem A1K {c:aa} {x y:Code} (hc:O9 st.ts c = .d (.v (.bool false))) (h:SWJ P X N y Q ph st):SWJ P X N (.cond c x y) Q ph st:=B47 hc (fun h=>by cases h) (fun _=>h)
def RgJ (P:ah) (X:JX) (N:Nat) (ops:Array Oper) (Q:SX→SX→St→Prop) (l:List Oper) (ph:SX) (st:St):Prop :=
 ∀ (F:Fence) (nn:Nat),Wd F→∀ (r:JR) (g:G) (a:Act) (R:Exit→Act→aO→Prop),JOk X r ph g→StR g N st a []→(∀ ex a' w',B3y X r g N Q ex a' w'→R ex a' w')→wpListIn F nn P ops R l a g.w
theorem A1h {id:Nat} {l:List Oper} (h:RgJ P X N l.toArray Q l ph st):SWJ P X N (.region id l.toArray false) Q ph st:=fun F nn hF r g a hj hR =>
 wpIn_region_lit (h F nn hF r g a _ hj hR fun _ _ _ h=>h)
theorem B9k {ops:Array Oper} (h:Q ph .norm st):RgJ P X N ops Q [] ph st:=fun _ _ _ _ g _ _ hj hR k =>
 k _ _ _ ⟨g,ph,.norm,st,rfl,.refl _ _ g,hR,hj,trivial,h⟩
def B9F (P:ah) (X:JX) (N:Nat) (ops:Array Oper) (Q:SX→SX→St→Prop) (ph:SX):List Oper→List Stp→St→Prop:=fun l2 _ st'=>RgJ P X N ops Q l2 ph st'
theorem T7 {ops:Array Oper} {tr:List Stp} (h:Q ph .norm st):L3 P N ops [] st tr (B9F P X N ops Q ph):=A32 (B9k h)
theorem A99 {ops:Array Oper} {tr:List Stp} {l:List Oper} (h:RgJ P X N ops Q l ph st):L3 P N ops l st tr (B9F P X N ops Q ph):=A32 h
theorem A0u {ops:Array Oper} {l:List Oper} (h:L3 P N ops l st [] (B9F P X N ops Q ph)):RgJ P X N ops Q l ph st:=by
 obtain⟨l1,l2,tr,st',rfl,h1,h2⟩:=h;intro F nn hF r g a R hj hR k;have key:∀ (l:List Oper) (st:St) (tr:List Stp) (st2:St),Ev P N ops l st tr st2→RgJ P X N ops Q l2 ph st2→∀ (g1:G) (a:Act),Le g g1→StR g1 N st a []→wpListIn F nn P ops R (l++l2) a g1.w:=by
  intro l st tr st2 h;induction h with
  | nil st =>
   intro h2 g1 a hl hR1;exact h2 F nn hF r g1 a R (hj.step hR.good (hl.toN _)) hR1 fun _ _ _ hq=>k _ _ _ (hq.trans ((hl.toN _).toL _))
  | cons hs _ ih =>
   intro h2 g1 a hl hR1;exact hs.soundL hF hR1 fun g' a' h3 h4=>ih h2 g' a' (hl.trans h3) h4
 exact key l1 st tr st' h1 h2 g a (.refl g) hR
def B1H:List Tmp→List D→LT→LT
 | p::ps,y::ys,ts=>B1H ps ys ((p,.d y)::ts)
 | _,_,ts=>ts
theorem B5p {g:G} {N:Nat}:∀ (ps:List Tmp) (ys:List D) (vs:List al) (ts:LT) (tm:Array al),tm.size=N→(∀ p∈ps,aq p N=true)→ps.length=ys.length→VTs g (ys.map .d) vs→(∀ i,VT g (W8 ts i) (tm.getD i undef)) →
  ((ps.zip vs).foldl (fun t (p,v)=>t.setIfInBounds p v) tm).size=N∧∀ i,VT g (W8 (B1H ps ys ts) i) (((ps.zip vs).foldl (fun t (p,v)=>t.setIfInBounds p v) tm).getD i undef)
 | [],ys,vs,ts,tm,hs,_,_,_,h=>⟨hs,h⟩
 | p::ps,y::ys,[],ts,tm,_,_,_,hv,_=>by have:=hv.1;simp at this
 | p::ps,[],vs,ts,tm,_,_,hl,_,_=>by simp at hl
 | p::ps,y::ys,v::vs,ts,tm,hs,hp,hl,hv,h=>by
  refine B5p ps ys vs ((p,.d y)::ts) (tm.setIfInBounds p v) (by simpa using hs) (fun q hq=>hp q (by simp[hq])) (by simpa using hl) ⟨by have:=hv.1;simp at this ⊢;exact this,fun i t c h1 h2=>hv.2 (i+1) t c (by simpa using h1) (by simpa using h2)⟩ fun i=>?_;have e:=A2M (ts:=ts) (dst:=some p) (v := .d y) i;simp only[A5m]at e;rw[e];have hlt:p<tm.size:=by rw[hs];simpa[bG]using hp p sM
  by_cases hpi:p=i
  ·subst hpi;rw[if_pos rfl];simpa[bH,hlt]using hv.2 0 (.d y) v rfl rfl
  ·rw[if_neg (by simpa using hpi)];simp only[cb,Array.getElem?_setIfInBounds_ne hpi];simpa[cb]using h i
def B99 (K:St→Prop):SX→St→Prop:=fun sx st=>sx = .norm∧K st
def rdJ (n1:Nat) (K:SX→LR→Prop):SX→St→Prop
 | .pan _,_=>False
 | sx,st=>∃ L κ,Vw n1 st ⟨[],L⟩ κ∧K sx L
def rdP (n1:Nat) (K:SX→LR→Prop):SX→St→Prop
 | .pan t,st=>∃ L κ,Vw n1 st ⟨[],L⟩ κ∧t.sc 0=true∧K (.pan t) L
 | sx,st=>∃ L κ,Vw n1 st ⟨[],L⟩ κ∧K sx L
def isN:SX→Bool
 | .norm=>true
 | _=>false
end
def B4X:List Item→Prop
 | .call _ _ _ _::_=>False
 | _=>True
def B07 (I:Machine→Prop) (P:ah) (m:Machine) (b:Frame) (k:List Item) (cs:List Frame):Exit→Act→aO→Prop
 | .panic ch,a,w=>∃ todo,B4X todo∧StepsIn I P m (lone { b.atR a todo with mode := .panicking ch } cs w)
 | e,a,w=>ArrivesIn I P m b k cs e a w
def wpR (F:Fence) (n:Nat) (P:ah) (c:Code) (Q:Exit→Act→aO→Prop) (a:Act) (w:aO):Prop :=
 ∀ (b:Frame) (k:List Item) (cs:List Frame),b.roundOf=F.round→F.fn b.fn→F.room (cs.length+1+n) →
  ∃ e a' w',Q e a' w'∧B07 (Machine.fenced P F) P (lone (b.atR a (.code c::k)) cs w) b k cs e a' w'
section
variable {F:Fence} {n:Nat} {P:ah} {Q:Exit→Act→aO→Prop} {a:Act} {w:aO}
theorem B07.of {I:Machine→Prop} {m:Machine} {b:Frame} {k:List Item} {cs:List Frame} {e:Exit} (h:ArrivesIn I P m b k cs e a w) (he:∀ ch,e ≠ .panic ch):B07 I P m b k cs e a w:=by
 cases e<;>first | exact h | exact(he _ rfl).elim
theorem B07.to {I:Machine→Prop} {m:Machine} {b:Frame} {k:List Item} {cs:List Frame} {e:Exit} (h:B07 I P m b k cs e a w) (he:∀ ch,e ≠ .panic ch):ArrivesIn I P m b k cs e a w:=by
 cases e<;>first | exact h | exact(he _ rfl).elim
theorem B8u {c:Code} (h:c.wpIn F n P Q a w) (hq:∀ ch a w,¬ Q (.panic ch) a w):wpR F n P c Q a w:=fun b k cs h1 h2 h3 =>
 let ⟨e,a',w',q,r⟩:=h b k cs h1 h2 h3
 ⟨e,a',w',q,.of r fun ch h=>hq ch a' w' (h▸q)⟩
theorem A6M {c:Code} {Q':Exit→Act→aO→Prop} (h:wpR F n P c Q a w) (hq:∀ e a w,Q e a w→Q' e a w):wpR F n P c Q' a w:=fun b k cs h1 h2 h3 =>
 let ⟨e,a',w',q,r⟩:=h b k cs h1 h2 h3
 ⟨e,a',w',hq _ _ _ q,r⟩
theorem B07.steps {I:Machine→Prop} {m m1:Machine} {b:Frame} {k:List Item} {cs:List Frame} {e:Exit} (h:StepsIn I P m m1) (h':B07 I P m1 b k cs e a w):B07 I P m b k cs e a w:=by
 cases e with
 | panic ch=>obtain⟨todo,t,r⟩:=h';exact⟨todo,t,h.trans r⟩
 | _=>exact B07.of (ArrivesIn.of_steps h (B07.to h' (fun ch e=>by cases e))) (fun ch e=>by cases e)
def A8e (Q:List PanicEntry→Act→aO→Prop):Exit→Act→aO→Prop
 | .panic ch,a,w=>Q ch a w
 | _,_,_=>False
section
variable {ops:Array Oper} {Q:List PanicEntry→Act→aO→Prop}
theorem B9q (l:List Nat) :
 ∀ (a:Act) (w:aO),wpOpsIn F n P ops (A8e Q) l a w→∀ (b:Frame) (k:List Item) (cs:List Frame),b.roundOf=F.round→F.fn b.fn→F.room (cs.length+1+n) →
   ∃ ch a' w' todo,Q ch a' w'∧B4X todo∧StepsIn (Machine.fenced P F) P (lone (b.atR a (.inRegion ops l::k)) cs w) (lone { b.atR a' todo with mode := .panicking ch } cs w'):=by
 induction l with
 | nil=>exact fun a w h=>absurd h (by simp[wpOpsIn,A8e])
 | cons i rest ih =>
   intro a w h b k cs hro hb hr;simp only[wpOpsIn]at h;cases ho:ops[i]? with
   | none =>
     simp only[ho]at h;obtain⟨ch,a',w',todo,hq,ht,harr⟩:=ih a w h b k cs hro hb hr;have hs:=stepR_op_skip (P:=P) (b:=b) (a:=a) (k:=k) (cs:=cs) (w:=w) (ops:=ops) (i:=i) (rest:=rest) (by simp[ho]);simp only[ho,Option.bind_none,Act.put]at hs;exact⟨ch,a',w',todo,hq,ht,.head (fenced_noOper hb hr ho) hs harr⟩
   | some o =>
     simp only[ho]at h;by_cases hw:Region.wanted o (yielded ops a.tmps)=true
     ·simp only[hw,if_true,Oper.wpIn]at h;obtain⟨habout,h⟩:=h;have h0:(lone (b.atR a (.inRegion ops (i::rest)::k)) cs w).fenced P F:=fenced_oper hb hr ho habout;simp only[Oper.uponIn]at h;have hg:=stepGR_op (P:=P) (b:=b) (k:=k) (cs:=cs) (w:=w) (rest:=rest) ho hw;rw[hro]at hg;have hfin:∀ v,(b.atR a (.inRegion ops (i::rest)::k)).finish v=b.atR (a.put o.dst v) (.inRegion ops rest::k):=by
       intro v;rw[Frame.finish_atR,ho];rfl
      split at h
      ·rename_i v w' hr';obtain⟨ch,a',w'',todo,hq,ht,harr⟩:=ih _ _ h b k cs hro hb hr;refine⟨ch,a',w'',todo,hq,ht,.head h0 (step_lone_go ?_) harr⟩;rw[hg,← hfin];simp[stepG.apply,hr']
      ·rename_i w' hr';obtain⟨ch,a',w'',todo,hq,ht,harr⟩:=ih _ _ h b k cs hro hb hr;refine⟨ch,a',w'',todo,hq,ht,.head h0 (step_lone_go ?_) harr⟩;rw[hg,← hfin];simp[stepG.apply,hr']
      ·rename_i d w' hr';obtain⟨ch,a',w'',todo,hq,ht,harr⟩:=ih _ _ h b k cs hro hb hr;refine⟨ch,a',w'',todo,hq,ht,.head h0 (step_lone_go ?_) harr⟩;have:({ b.atR a (.inRegion ops (i::rest)::k)with defers:=d::a.defers }:Frame).finish undef =
        b.atR ({ a with defers:=d::a.defers }.put o.dst undef) (.inRegion ops rest::k):=by
        have:=Frame.finish_atR b { a with defers:=d::a.defers } ops i rest k undef;rw[ho]at this;exact this
       rw[hg];simp only[stepG.apply,Sem.runT_eq,hr',GStep.bare_after];exact congrArg (fun fr=>GStep.go { frame:=fr,callers:=cs,status := .running,dying:=none } w') this
      ·rename_i f args w' hr';obtain⟨hn,hF,h⟩:=h;have hroom:F.room ((b.atR a (.inRegion ops (i::rest)::k)::cs).length+1+(n-1)):=Fence.room_enter hr hn;obtain⟨e,w'',fr,hR,hsteps,hfn,hleave⟩:=h (b.atR a (.inRegion ops (i::rest)::k)::cs) hroom;have henter:step P (lone (b.atR a (.inRegion ops (i::rest)::k)) cs w) =
        .next (lone (Frame.enter P f args .normal) (b.atR a (.inRegion ops (i::rest)::k)::cs) w') :=
        step_lone_go (by rw[hg];simp[stepG.apply,hr',Frame.atR])
       cases e with
       | returned v =>
         have hl:(lone fr (b.atR a (.inRegion ops (i::rest)::k)::cs) w'').fenced P F:=fenced_leaving (hfn▸hF) hroom hleave;obtain⟨ch,a',w₃,todo,hq,ht,harr⟩:=ih _ _ hR b k cs hro hb hr;refine⟨ch,a',w₃,todo,hq,ht,.head h0 henter (StepsIn.trans (StepsIn.trans hsteps (.one hl ?_)) harr)⟩;rw[← hfin];exact step_leave_returned hleave
       | panicked chain =>
         have hl:(lone fr (b.atR a (.inRegion ops (i::rest)::k)::cs) w'').fenced P F:=fenced_leaving (hfn▸hF) hroom hleave;refine⟨chain,a,w'',.inRegion ops (i::rest)::k,hR,trivial,.head h0 henter (StepsIn.trans hsteps (.one hl ?_))⟩;rw[← Frame.raise_atR];exact step_leave_panicked hleave
       | outgrown =>
         obtain⟨a₀,w₀,hq⟩:=hR;exact hq.elim
      ·rename_i row args w' hr';obtain⟨hn,h⟩:=h;obtain⟨v,w'',hR,hsteps⟩:=h (b.atR a (.inRegion ops (i::rest)::k)) cs (Fence.room_enter hr hn);have henter:step P (lone (b.atR a (.inRegion ops (i::rest)::k)) cs w) =
        .next (lone (Frame.ofRow P row args .normal) (b.atR a (.inRegion ops (i::rest)::k)::cs) w') :=
        step_lone_go (by rw[hg];simp[stepG.apply,hr',Frame.atR])
       obtain⟨ch,a',w₃,todo,hq,ht,harr⟩:=ih _ _ hR b k cs hro hb hr;refine⟨ch,a',w₃,todo,hq,ht,.head h0 henter (StepsIn.trans ?_ harr)⟩;rw[← hfin];exact hsteps
      ·rename_i l f tmps assign body w' hr';obtain⟨hn,_,h⟩:=h;obtain⟨e,w'',hR,hsteps⟩:=h (b.atR a (.inRegion ops (i::rest)::k)) cs (Fence.room_enter hr hn);have henter:step P (lone (b.atR a (.inRegion ops (i::rest)::k)) cs w) =
        .next (lone (Frame.round l f tmps assign body .normal) (b.atR a (.inRegion ops (i::rest)::k)::cs) w') :=
        step_lone_go (by rw[hg];simp[stepG.apply,hr',Frame.atR])
       cases e with
       | returned v =>
         obtain⟨ch,a',w₃,todo,hq,ht,harr⟩:=ih _ _ hR b k cs hro hb hr;refine⟨ch,a',w₃,todo,hq,ht,.head h0 henter (StepsIn.trans ?_ harr)⟩;rw[← hfin];exact hsteps
       | panicked chain =>
         refine⟨chain,a,w'',.inRegion ops (i::rest)::k,hR,trivial,.head h0 henter ?_⟩;rw[← Frame.raise_atR];exact hsteps
       | outgrown =>
         obtain⟨a₀,w₀,hq⟩:=hR;exact hq.elim
      ·rename_i v w' hr';refine⟨_,a,w',.inRegion ops (i::rest)::k,h,trivial,.one h0 (step_lone_go ?_)⟩;rw[hg,← Frame.raise_atR];simp[stepG.apply,hr']
      ·exact h.elim
     ·simp only[hw,if_false,bR]at h;obtain⟨habout,h⟩:=h;obtain⟨ch,a',w',todo,hq,ht,harr⟩:=ih _ _ h b k cs hro hb hr;have hs:=stepR_op_skip (P:=P) (b:=b) (a:=a) (k:=k) (cs:=cs) (w:=w) (ops:=ops) (i:=i) (rest:=rest)
       (by simp[ho];simpa using hw)
      simp only[ho,Option.bind_some]at hs;exact⟨ch,a',w',todo,hq,ht,.head (fenced_oper hb hr ho habout) hs harr⟩
end
theorem B9p {id:Nat} {l:List Oper} {Q:List PanicEntry→Act→aO→Prop} (h:wpListIn F n P l.toArray (A8e Q) l a w):wpR F n P (.region id l.toArray false) (A8e Q) a w:=by
 intro b k cs hro hb hr;have h':wpOpsIn F n P l.toArray (A8e Q) (List.range l.toArray.size) a w:=by
  rw[List.range_eq_range',← br,wpOpsIn_eq_wpListIn l.toArray.toList 0 sM];simpa using h
 obtain⟨ch,a',w',todo,hq,ht,hs⟩:=B9q _ a w h' b k cs hro hb hr;exact⟨.panic ch,a',w',hq,todo,ht,.head (fenced_calm hb hr rfl) stepR_region hs⟩
theorem A8o {fr c:Frame} {cs:List Frame} {chain:List PanicEntry} (hm:fr.mode = .panicking chain) (hd:fr.defers=[]) (ht:B4X fr.todo) :
 step P (lone fr (c::cs) w) = .next (lone (c.raise chain) cs w):=by
 refine step_lone_go ?_;have hc:fr.catches P=false:=by
  unfold Frame.catches;split
  ·rename_i h;rw[h]at ht;exact ht.elim
  ·rfl
 simp[stepG,unwind,hm,hd,hc]
def C0O (P:ah) (l:Nat) (R:Ending→aO→Prop):Exit→Act→aO→Prop
 | .normal,a,w=>a.defers=[]∧∃ v w',(Instr.endRound l none).run P w = .ok v w'∧R (.returned v) w'
 | .ret,a,w=>a.defers=[]∧∃ v w',(Instr.endRound l (some .ret)).run P w = .ok v w'∧R (.returned v) w'
 | .exit i,a,w=>a.defers=[]∧∃ v w',(Instr.endRound l (some (.exit i))).run P w = .ok v w'∧R (.returned v) w'
 | .panic ch,a,w=>a.defers=[]∧R (.panicked ch) w
 | _,_,_=>False
theorem B6N {l:Nat} {f:bm} {tmps:Array al} {assign body:Code} {R:Ending→aO→Prop} (hF:F.fn f)
  (h:assign.wpIn (F.inRound l) n P (Exit.then (fun a1 w1=>∃ w2,(Instr.beginRound l).run P w1 = .ok () w2∧wpR (F.inRound l) n P body (C0O P l R) a1 w2) (fun _ _ _=>False)) { tmps:=tmps,defers:=[] } w):RoundIn F n P l f tmps assign body w R:=by
 refine⟨hF,fun c cs hr=>?_⟩
 let b:Frame:={ (default:Frame)with fn:=f,kind := .normal,roundOf:=some l }
 have hb0:Frame.round l f tmps assign body .normal=b.atR { tmps:=tmps,defers:=[] } [.code assign,.beginRound,.code body]:=by simp[Frame.round,Frame.atR,b]
 have hF':(F.inRound l).fn b.fn:=hF;obtain⟨e,a1,w1,hq,harr⟩:=h b [.beginRound,.code body] (c::cs) rfl hF' hr;rw[← hb0]at harr;cases e with
 | normal =>
  obtain⟨w2,hbr,hbody⟩:=hq;have s1:=StepsIn.trans harr (.one (fenced_calm (fr:=b.atR a1 [.beginRound,.code body]) hF' hr rfl) (stepR_beginRound rfl hbr));obtain⟨e2,a2,w3,hq2,harr2⟩:=hbody b [] (c::cs) rfl hF' hr;cases e2 with
  | normal =>
   obtain⟨_,v,w4,hend,hR⟩:=hq2;exact⟨.returned v,w4,hR,s1.trans (StepsIn.trans harr2 (.one (fenced_calm (fr:=b.atR a2 []) hF' hr rfl) (stepR_round_end rfl rfl hend)))⟩
  | ret =>
   obtain⟨_,v,w4,hend,hR⟩:=hq2;obtain⟨k1,hs⟩:=harr2.2 rfl;exact⟨.returned v,w4,hR,s1.trans (StepsIn.trans hs (.one (fenced_calm (fr:=b.atR a2 (.code .ret::k1)) hF' hr rfl) (stepR_round_ret rfl rfl hend)))⟩
  | exit id =>
   obtain⟨_,v,w4,hend,hR⟩:=hq2;obtain⟨k1,hk,hs⟩:=harr2.2 rfl rfl;exact⟨.returned v,w4,hR,s1.trans (StepsIn.trans hs (.one (fenced_calm (fr:=b.atR a2 (.code (.exit id)::k1)) hF' hr rfl) (stepR_round_exit rfl rfl hk hend)))⟩
  | panic ch =>
   obtain⟨hd,hR⟩:=hq2;obtain⟨todo,ht,hs⟩:=harr2;refine⟨.panicked ch,w3,hR,s1.trans (StepsIn.trans hs (.one ?_ (A8o rfl hd ht)))⟩;refine fenced_calm (F:=F.inRound l) hF' hr ?_;simp[Frame.about,Frame.atR,hd]
  | goto t=>exact hq2.elim
  | outgrown=>exact hq2.elim
 | _=>exact hq.elim
end
def SWY (P:ah) (n0 N:Nat) (c:Code) (Q:SX→St→Prop) (st:St):Prop :=
 ∀ (F:Fence) (nn:Nat),Wd F→∀ (g:G) (a:Act),StR g N st a []→wpR F nn P c (fun ex a' w'=>∃ g' sx st',g'.w=w'∧LeN n0 g g'∧StR g' N st' a' []∧XR g' sx ex∧Q sx st') a g.w
section
variable {P:ah} {n0 N:Nat} {Q:SX→St→Prop} {st:St}
theorem SWY.mono {c:Code} {Q':SX→St→Prop} (h:SWY P n0 N c Q st) (k:∀ sx st,Q sx st→Q' sx st):SWY P n0 N c Q' st:=fun F nn hF g a hR =>
 A6M (h F nn hF g a hR) fun _ _ _ ⟨g',sx,st',h1,h2,h3,h4,h5⟩=>⟨g',sx,st',h1,h2,h3,h4,k _ _ h5⟩
theorem C0h {c:Code} (h:SW P n0 N [] c Q st) (hq:∀ t st,¬ Q (.pan t) st):SWY P n0 N c Q st:=fun F nn hF g a hR =>
 B8u (h F nn hF g a hR) fun ch a w ⟨g',sx,st',h1,h2,h3,h4,h5⟩=>by cases sx<;>first | exact h4.elim | exact hq _ _ h5
theorem B8o {c:Code} {n1:Nat} {K:SX→LR→Prop} (h:SW P n0 N [] c (rdJ n1 K) st):SWY P n0 N c (rdP n1 K) st :=
 (C0h h fun t st h=>h).mono fun sx st h=>by cases sx<;>first | exact h | exact h.elim
end
theorem VT.turnL {l n0:Nat} {g g':G} (hg:P6 g) (h:LeL l n0 g g') (hk:¬ g.K l) {t:T} {c:al} (hv:VT g t c) (hs:t.sc n0=true):VT g' t c :=
 hv.turnN (fun b hb=>⟨h.k b hb,h.fr b (hg.kd b hb) (hg.kl b hb) fun e=>hk (e▸hb)⟩) h.e hs
section
variable {P:ah} {X:JX} {N:Nat} {Q:SX→SX→St→Prop}
def B3s (P:ah) (X:JX) (N:Nat) (ops:Array Oper) (Q:SX→SX→St→Prop) (l:List Oper) (d:Nat) (ts:LT):SX→LR→Prop
 | .pan t,L'=>Q (.pan t) (.pan t) ⟨ts,L'⟩
 | ph,L'=>RgJ P X N ops Q l ph ⟨(d,.d (.v (.bool (isN ph))))::ts,L'⟩
theorem B3t {P:ah} {X:JX} {N:Nat} {ops:Array Oper} {Q:SX→SX→St→Prop} {l:List Oper} {d:Nat} {ts:LT} {L':LR} (h:RgJ P X N ops Q l .norm ⟨(d,.d (.v (.bool true)))::ts,L'⟩):B3s P X N ops Q l d ts .norm L':=h
theorem B8w {P:ah} {X:JX} {N:Nat} {ops:Array Oper} {Q:SX→SX→St→Prop} {l:List Oper} {d:Nat} {ts:LT} {L':LR} (h:RgJ P X N ops Q l .ret ⟨(d,.d (.v (.bool false)))::ts,L'⟩):B3s P X N ops Q l d ts .ret L':=h
theorem B8v {P:ah} {X:JX} {N:Nat} {ops:Array Oper} {Q:SX→SX→St→Prop} {l:List Oper} {d:Nat} {ts:LT} {t:T} {L':LR} (h:Q (.pan t) (.pan t) ⟨ts,L'⟩):B3s P X N ops Q l d ts (.pan t) L':=h
theorem A9M {ops:Array Oper} {l:List Oper} {d:Nat} {ty:ab} {pos:String} {af:Array Edge} {gd:Option (Nat × Bool)} {x:aa} {xs:Array aa} {tys:Array ab} {ys:List D} {ts:LT} {L:LR}
  (hf:O9 ts x = .d (.v (.func (.yield X.l) #[] #[]))) (hx:xs.toList.map (O9 ts)=ys.map .d) (hps:X.ps.toList.length=ys.length) (hpN:X.ps.toList.all (aq · X.N)=true) (hn1:bL X.n1 L.length=true)
  (hw:I2 ops ts ⟨some d,.call { callee := .value x,args:=xs,argTypes:=tys },ty,pos,af,gd⟩=some true) (hd:aq d N=true)
  (h:SW P L.length X.N [] X.asg (B99 fun st1=>SWY P L.length X.N X.body (rdP L.length (B3s P X N ops Q l d ts)) st1) ⟨B1H X.ps.toList ys X.ts,L⟩) :
  RgJ P X N ops Q (⟨some d,.call { callee := .value x,args:=xs,argTypes:=tys },ty,pos,af,gd⟩::l) .norm ⟨ts,L⟩:=by
 intro F nn hF r g a R hj hR hk;have hn1:=bg hn1;have hcal:=A4G hR.ts x;dsimp only at hcal;rw[hf]at hcal;have hcal:=hcal.v_eq;have hvs:VTs g (ys.map .d) (xs.toList.map a.eval):=by
  rw[← hx];refine⟨by simp,fun i t c h1 h2=>?_⟩;rw[gM,an]at h1 h2;obtain⟨y,hy1,rfl⟩:=h1;obtain⟨z,hz1,rfl⟩:=h2;rw[hy1]at hz1;injection hz1 with hz1;subst hz1
  exact A4G hR.ts y
 obtain⟨vs,hvsE⟩:∃ vs,xs.toList.map a.eval=vs:=⟨_,rfl⟩;rw[hvsE]at hvs;have hvl:vs.length=ys.length:=by have:=hvs.1;simp at this;exact this.symm
 have h5:g.w.heap[X.l]?=some (.loop (X.lp r .ready none)):=hj.lrec;have hyr:=run_yield (P:=P) (args:=vs.toArray) h5 (by simp[JX.lp]at hps ⊢;omega);obtain⟨p1,p2⟩:=B5p X.ps.toList ys vs X.ts r.tmps hj.sz (fun p hp=>ax.1 hpN p hp) hps hvs hj.ts;have e0:(X.ps.zip vs.toArray).foldl (fun t (p,v)=>t.setIfInBounds p v) r.tmps=(X.ps.toList.zip vs).foldl (fun t (p,v)=>t.setIfInBounds p v) r.tmps:=by rw[← Array.foldl_toList];simp
 have leOf:∀ {ga gb:G},ga.M=g.M→LeN L.length ga gb→LeN X.n1 ga gb:=fun {ga gb} e h=>⟨fun n hn=>h.e n oM,h.size,h.os,h.tape,h.output,h.fr,h.k,h.k',h.nl⟩;have all:∀ {g':G} {t:T} {c:al},LeL X.l L.length g g'→VT g t c→VT g' t c:=fun k3 hv=>hv.turn (fun b hb=>⟨k3.k b hb,k3.fr b (hR.good.kd b hb) (hR.good.kl b hb) fun e=>hj.kl (e▸hb)⟩) fun n hn=>k3.e n (by rw[hR.M]at hn;simpa only[ofL,ne_eq,aQ,cD]using hn) hn;have hround:RoundIn aY 0 P X.l r.fn ((X.ps.zip vs.toArray).foldl (fun t (p,v)=>t.setIfInBounds p v) r.tmps) X.asg X.body g.w fun e W' =>
   (∃ g' ph' L',g'.w=W'∧P6 g'∧g'.M=ofL L'∧LeL X.l L.length g g'∧JOk X r ph' g'∧e = .returned (.bool (isN ph'))∧RgJ P X N ops Q l ph' ⟨(d,.d (.v (.bool (isN ph'))))::ts,L'⟩) ∨
   ∃ g' t v L',g'.w=W'∧P6 g'∧g'.M=ofL L'∧LeL X.l L.length g g'∧JOk X r (.pan t) g'∧e = .panicked [{ v,recovered:=false }]∧VT g' t v∧Q (.pan t) (.pan t) ⟨ts,L'⟩:=by
  refine B6N trivial (aW (h (Fence.wide.inRound X.l) 0 ⟨some X.l,rfl⟩ g _ ⟨hR.good,hR.M,?_,?_,rfl⟩) ?_)
  ·show((X.ps.zip vs.toArray).foldl _ r.tmps).size=X.N;rw[e0];exact p1
  ·intro i;show VT g _ (((X.ps.zip vs.toArray).foldl _ r.tmps).getD i undef);rw[e0];exact p2 i
  rintro ex a1 w1 ⟨g2,sx,st1,rfl,q2,q3,q4,rfl,q5⟩;cases ex<;>first | exact q4.elim | skip
  have j2:=hj.step hR.good (leOf rfl q2);have b1:g2.w.heap[X.l]?=some (.loop (X.lp r .ready none)):=j2.lrec;have hlt2:=(gA b1).1;have hne:r.D≠X.l:=fun e=>by have:=j2.mark;rw[e,b1]at this;cases this
  obtain⟨c1,c2,c3⟩:=A6D q3.good (A3l q3.good b1) j2.kl (.loop { X.lp r .ready none with state := .busy }) L.length;refine⟨_,run_beginRound b1 rfl,?_⟩;obtain⟨g3,hg3⟩:∃ g3:G,g3=⟨g2.M,g2.β,g2.K,g2.w.putObj X.l (.loop { X.lp r .ready none with state := .busy })⟩:=⟨_,rfl⟩;rw[← hg3]at c1 c2;have hR3:StR g3 X.N st1 a1 []:=⟨c1,by rw[hg3];exact q3.M,q3.size,fun i=>by rw[hg3];exact c3 _ _ (q3.ts i),q3.df⟩;have d1:g3.w.heap[X.l]?=some (.loop { X.lp r .ready none with state := .busy }):=by rw[hg3];exact World.putObj_heap_same hlt2
  have d2:g3.w.heap[r.D]?=some (.deferred (some [])):=by rw[hg3];exact(World.putObj_heap_other hne).trans j2.mark
  have hw3:g3.w=g2.w.putObj X.l (.loop { X.lp r .ready none with state := .busy }):=by rw[hg3]
  have hK3:g3.K=g2.K:=by rw[hg3]
  rw[← hw3];refine A6M (q5 (Fence.wide.inRound X.l) 0 ⟨some X.l,rfl⟩ g3 a1 hR3) ?_;rintro ex a2 w2 ⟨g4,sx,st2,rfl,r2,r3,r4,r5⟩;obtain⟨f1,f3⟩:=A6q r2 (gA d1).1 (A3l c1 d1) (by rw[hK3];exact j2.kl);obtain⟨f2,f4⟩:=A6q r2 (gA d2).1 (A5L c1 d2) (by rw[hK3];exact j2.kD);rw[d1]at f1;rw[d2]at f2;have fin:∀ (ph':SX) (L':LR) (κ:List Nat),(isN ph'=(A3p ph').isNone)→(A5v ph'=if(A3p ph').isNone then .ready else .done)→Vw L.length st2 ⟨[],L'⟩ κ →
    ∃ g5:G,(Instr.endRound X.l (A3p ph')).run P g4.w = .ok (.bool (isN ph')) g5.w∧g5.M=ofL L'∧P6 g5∧LeL X.l L.length g g5∧JOk X r ph' g5:=fun ph' L' κ hp1 hp2 hvw=>by
   obtain⟨g5,s1,s2,s3⟩:=hvw.see r3;obtain⟨t1,t3⟩:=A6q s2 (gA f1).1 (A3l r3.good f1) f3;obtain⟨t2,t4⟩:=A6q s2 (gA f2).1 (A5L r3.good f2) f4;rw[f1]at t1;rw[f2]at t2;obtain⟨u1,u2,_⟩:=A6D s3.good (A3l s3.good t1) t3 (.loop (X.lp r (A5v ph') (A3p ph'))) L.length;have hr:=run_endRound (P:=P) (A3p ph') t1;have hL:LeL X.l L.length g ⟨g5.M,g5.β,g5.K,g5.w.putObj X.l (.loop (X.lp r (A5v ph') (A3p ph')))⟩:=(((q2.toL _).trans c2).trans (r2.toL _)).trans ((s2.toL _).trans u2);refine⟨⟨g5.M,g5.β,g5.K,g5.w.putObj X.l (.loop (X.lp r (A5v ph') (A3p ph')))⟩,?_,s3.M,u1,hL,⟨World.putObj_heap_same (gA t1).1,(World.putObj_heap_other hne).trans t2,t3,t4,hj.sz,fun i=>(hj.ts i).turnL hR.good (hL.less hn1) hj.kl (hj.sc i),hj.sc⟩⟩;rw[← s1,hr,hp1,hp2];rfl
  cases sx with
  | norm =>
   cases ex<;>first | exact r4.elim | skip
   obtain⟨L',κ,hvw,hI⟩:=r5;obtain⟨g5,z1,z2,z3,z4,z5⟩:=fin .norm L' κ rfl rfl hvw;exact⟨r3.df,_,_,z1,.inl ⟨g5,.norm,L',rfl,z3,z2,z4,z5,rfl,hI⟩⟩
  | ret =>
   cases ex<;>first | exact r4.elim | skip
   obtain⟨L',κ,hvw,hI⟩:=r5;obtain⟨g5,z1,z2,z3,z4,z5⟩:=fin .ret L' κ rfl rfl hvw;exact⟨r3.df,_,_,z1,.inl ⟨g5,.ret,L',rfl,z3,z2,z4,z5,rfl,hI⟩⟩
  | exit i =>
   cases ex<;>first | exact r4.elim | skip
   obtain⟨L',κ,hvw,hI⟩:=r5;have r4':i=_:=r4;subst r4';obtain⟨g5,z1,z2,z3,z4,z5⟩:=fin (.exit i) L' κ rfl rfl hvw;exact⟨r3.df,_,_,z1,.inl ⟨g5,.exit i,L',rfl,z3,z2,z4,z5,rfl,hI⟩⟩
  | pan t =>
   cases ex<;>first | exact r4.elim | skip
   obtain⟨v,rfl,hv'⟩:=r4;obtain⟨L',κ,hvw,hsc,hI⟩:=r5;obtain⟨g5,s1,s2,s3⟩:=hvw.see r3;obtain⟨t1,t3⟩:=A6q s2 (gA f1).1 (A3l r3.good f1) f3;obtain⟨t2,t4⟩:=A6q s2 (gA f2).1 (A5L r3.good f2) f4;rw[f1]at t1;rw[f2]at t2;have hL:LeL X.l L.length g g5:=((q2.toL _).trans c2).trans ((r2.toL _).trans (s2.toL _));exact⟨r3.df,.inr ⟨g5,t,v,L',s1,s3.good,s3.M,hL,⟨t1,t2,t3,t4,hj.sz,fun i=>(hj.ts i).turnL hR.good (hL.less hn1) hj.kl (hj.sc i),hj.sc⟩,rfl,hv'.turnN (k:=0) (fun b hb=>⟨s2.k b hb,s2.fr b (r3.good.kd b hb) (r3.good.kl b hb)⟩) (fun n hn=>by omega) hsc,hI⟩⟩
 unfold wpListIn;rw[A0W hw fun d _=>hR.ts d];simp only[if_true];refine⟨fun f _=>hF.fn f,?_⟩;rw[Oper.semAt_eq _ _ _ (fun c h=>by cases h)];have e:xs.map a.eval=vs.toArray:=by rw[← hvsE];apply cS;simp
 have hrun':(aT a.eval ⟨some d,.call { callee := .value x,args:=xs,argTypes:=tys },ty,pos,af,gd⟩).run P g.w = .ok (.round X.l r.fn ((X.ps.zip vs.toArray).foldl (fun t (p,v)=>t.setIfInBounds p v) r.tmps) X.asg X.body) g.w:=by
  simp[aT,resolve,hcal,Deferred.ofValue,invoke,e,hyr,JX.lp]
 rw[hrun'];obtain⟨rr,rfl⟩:=hF;refine⟨(fun h=>by cases h),?_⟩;refine(A9r rr (nn-1) hround).mono ?_;rintro e w' (⟨g',ph',L',rfl,k1,k2,k3,k4,rfl,k6⟩ | ⟨g',t,v,L',rfl,k1,k2,k3,k4,rfl,k5,k6⟩)
 ·refine k6 { aY with round:=rr } nn ⟨rr,rfl⟩ r g' _ R k4 ⟨k1,k2,by rw[A5c];exact hR.size,fun i=>?_,by rw[A3h];exact hR.df⟩ fun _ _ _ hq=>hk _ _ _ (hq.trans (k3.less hn1));rw[A5b hR.size (by exact hd)];have e:=A2M (ts:=ts) (dst:=some d) (v := .d (.v (.bool (isN ph')))) i;simp only[A5m]at e;rw[e];split
  ·exact .d (.v _ rfl)
  ·exact all k3 (hR.ts i)
 ·exact hk _ _ _ ⟨g',.pan t,.pan t,⟨ts,L'⟩,rfl,k3.less hn1,⟨k1,k2,hR.size,fun i=>all k3 (hR.ts i),hR.df⟩,k4,⟨v,rfl,k5⟩,k6⟩
end
def SWM (P:ah) (n0 N:Nat) (c:Code) (Q:SX→St→Prop) (st:St):Prop :=
 ∀ (nn:Nat) (db:Nat) (g:G) (a:Act) (df:List bp),StR g N st a df→A72 db g df→c.wpIn aY nn P (fun ex a' w'=>∃ g' sx st' df',g'.w=w'∧LeN n0 g g'∧StR g' N st' a' df'∧A72 db g' df'∧XR g' sx ex∧Q sx st') a g.w
section
variable {P:ah} {n0 N:Nat} {Q:SX→St→Prop} {st:St}
theorem W3 {c:Code} (h:∀ df,SW P n0 N df c Q st):SWM P n0 N c Q st:=fun nn db g a df hR hd =>
 aW (h df aY nn Wd.wide g a hR) fun ex a' w' ⟨g',sx,st',h1,h2,h3,h4,h5⟩=>⟨g',sx,st',df,h1,h2,h3,hd.stepN hR.good h2,h4,h5⟩
theorem S3 {x y:Code} (h:SWM P n0 N x (A5w (SWM P n0 N y Q) Q) st):SWM P n0 N (.seq x y) Q st:=fun nn db g a df hR hd=>by
 refine wpIn_seq (aW (h nn db g a df hR hd) ?_);rintro ex a' w' ⟨g',sx,st',df',rfl,h2,h3,h3',h4,h5⟩;cases sx with
 | norm =>
  cases ex<;>first | exact h4.elim | skip
  exact aW (h5 nn db g' a' df' h3 h3') fun _ _ _ ⟨g'',sx',st'',df'',k1,k2,k3⟩=>⟨g'',sx',st'',df'',k1,h2.trans k2,k3⟩
 | ret=>cases ex<;>first | exact h4.elim | exact⟨g',_,st',df',rfl,h2,h3,h3',h4,h5⟩
 | exit i=>cases ex<;>first | exact h4.elim | exact⟨g',_,st',df',rfl,h2,h3,h3',h4,h5⟩
 | pan t=>cases ex<;>first | exact h4.elim | exact⟨g',_,st',df',rfl,h2,h3,h3',h4,h5⟩
theorem A5A {id:Nat} {c:Code} (h:SWM P n0 N c (A34 id Q) st):SWM P n0 N (.block id c) Q st:=fun nn db g a df hR hd=>by
 refine wpIn_block (aW (h nn db g a df hR hd) ?_);rintro ex a' w' ⟨g',sx,st',df',rfl,h2,h3,h3',h4,h5⟩;cases sx with
 | norm=>cases ex<;>first | exact h4.elim | exact⟨g',.norm,st',df',rfl,h2,h3,h3',trivial,h5⟩
 | ret=>cases ex<;>first | exact h4.elim | exact⟨g',.ret,st',df',rfl,h2,h3,h3',trivial,h5⟩
 | exit i =>
  cases ex<;>first | exact h4.elim | skip
  rename_i j;have h4':i=j:=h4;subst h4';simp only[A34]at h5;by_cases hi:i=id
  ·rw[if_pos hi]at h5;simp only[Exit.inBlock,hi,if_true];exact⟨g',.norm,st',df',rfl,h2,h3,h3',trivial,h5⟩
  ·rw[if_neg hi]at h5;simp only[Exit.inBlock,hi,if_false];exact⟨g',.exit i,st',df',rfl,h2,h3,h3',rfl,h5⟩
 | pan t=>cases ex<;>first | exact h4.elim | exact⟨g',.pan t,st',df',rfl,h2,h3,h3',h4,h5⟩
def A65:SX→Bool
 | .pan _=>true
 | _=>false
def C0Z (n1:Nat) (K:SX→LR→Prop):SX→SX→St→Prop:=fun ph sx st=>match sx with
 | .ret | .norm=>A65 ph=false∧∃ L κ,Vw n1 st ⟨[],L⟩ κ∧K ph L
 | .pan t=>ph = .pan t∧t.sc 0=true∧∃ L κ,Vw n1 st ⟨[],L⟩ κ∧K (.pan t) L
 | .exit _=>False
def scS (ts:LT) (n:Nat):Bool:=ts.all fun p=>p.2.sc n
theorem B5Y {ts:LT} {n:Nat} (h:scS ts n=true) (i:Nat):(W8 ts i).sc n=true:=by
 rcases B0P (ts:=ts) (i:=i)with h1 | h1
 ·rw[h1];rfl
 ·exact ax.1 h _ h1
theorem A9S {x:aa} {ps:Array Tmp} {asg body c1:Code} {f:bm} {fn1:Func} {N1:Nat} {ca:List T} {ts:LT} {L:LR} (he:Ent P f) (hf:P.funcs[f]?=some fn1) (hb:fn1.body=some c1) (hN:fn1.ntmps=N1) (hres:fn1.results=#[]) (hx:O9 ts x = .fn (.func f) [] ca) (hl:bL (ca.length+1) N1=true) (hsc:scS ts L.length=true)
  (h:∀ lb,SWJ P ⟨lb,ps,asg,body,N,ts,L.length⟩ N1 c1 (C0Z L.length fun ph L'=>Q ph ⟨ts,L'⟩) .norm ⟨L8 0 (.d (.v (.func (.yield lb) #[] #[]))::ca),L⟩):SWM P n0 N (.rangeFunc x ps asg body) Q ⟨ts,L⟩:=by
 intro nn db g a df hR hdf;have hv:=A4G hR.ts x;dsimp only at hv;rw[hx]at hv;obtain⟨cs,ds,hc,hfi,hca⟩:=A8P hv (.inr rfl);have hcs:cs=#[]:=by have:=hfi.1;simp at this;exact dX.1 this.symm
 subst hcs;refine wpIn_rangeFunc fun fn _=>?_;obtain⟨X,hX⟩:∃ X:JX,X=⟨g.w.heap.size+1,ps,asg,body,N,ts,L.length⟩:=⟨_,rfl⟩;obtain⟨r,hr⟩:∃ r:JR,r=⟨fn,a.tmps,g.w.heap.size⟩:=⟨_,rfl⟩;obtain⟨W1,hW1⟩:∃ W1,(g.w.alloc (.deferred (some []))).alloc (.loop (X.lp r .ready none))=W1:=⟨_,rfl⟩;have hsz:W1.heap.size=g.w.heap.size+2:=by rw[← hW1];simp
 have hL1:W1.heap[g.w.heap.size+1]?=some (.loop (X.lp r .ready none)):=by
  rw[← hW1];have:=World.alloc_heap_new (g.w.alloc (.deferred (some []))) (.loop (X.lp r .ready none));rwa [World.size_alloc]at this
 have hK1:W1.heap[g.w.heap.size]?=some (.deferred (some [])):=by
  rw[← hW1];exact(Go.RowKit.Below.heap_alloc _ _ _ sM).trans (World.alloc_heap_new g.w _)
 have hlow1:∀ b,b<g.w.heap.size→W1.heap[b]?=g.w.heap[b]?:=fun b hb=>by
  rw[← hW1];exact(Go.RowKit.Below.heap_alloc _ _ _ (by simp;omega)).trans (Go.RowKit.Below.heap_alloc _ _ _ hb)
 obtain⟨g1,hg1⟩:∃ g1:G,g1=⟨g.M,g.β,g.K,W1⟩:=⟨_,rfl⟩;have hKlt:∀ b,g.K b→b<g.w.heap.size:=hR.good.kd;have hk1:∀ b,g.K b→g1.K b∧g1.w.heap[b]?=g.w.heap[b]?:=fun b hb=>by rw[hg1];exact⟨hb,hlow1 b (hKlt b hb)⟩
 have he1:∀ n,g.M n≠none→g1.M n≠none∧g1.β n=g.β n:=fun n hn=>by rw[hg1];exact⟨hn,rfl⟩
 have hgood1:P6 g1:=by
  refine⟨fun n r hn=>?_,fun n m r q=>?_,fun b hb=>?_,fun b hb=>?_⟩
  ·have hn':g.M n=some (some r):=by rw[hg1]at hn;exact hn
   exact(hR.good.rows n r hn').turn hk1 he1 (by rw[hg1]) (fun h0=>by rw[hg1];exact hlow1 _ ((hR.good.rows n r hn').lt h0))
  ·rw[hg1];exact hR.good.inj n m r q
  ·rw[hg1]at hb ⊢;have:=hKlt b hb;show b<W1.heap.size;omega
  ·rw[hg1]at hb ⊢;exact hR.good.kl b hb
 have hle1:LeN L.length g g1:=by
  rw[hg1];exact⟨fun n _ hn=>⟨hn,rfl⟩,by show _≤W1.heap.size;omega,by rw[← hW1];rfl,by rw[← hW1];rfl,by rw[← hW1];rfl,fun b hb _=>hlow1 b hb,fun b hb=>hb,fun b _ hb => .inl hb,fun n r hn h0 _ hh=>hh n r hn h0 rfl⟩
 have hbl:∀ b,¬ g.K (g.w.heap.size+b):=fun b h=>by have:=hKlt _ h;omega
 have hj1:JOk X r .norm g1:=by
  refine⟨by rw[hg1,hX];rw[hX]at hL1;exact hL1,by rw[hg1,hr];exact hK1,by rw[hg1,hX];exact hbl 1,by rw[hg1,hr];exact hbl 0,by rw[hr,hX];exact hR.size,fun i=>?_,fun i=>?_⟩
  ·rw[hX,hr];exact(hR.ts i).turn hk1 he1
  ·rw[hX];exact B5Y hsc i
 have hw1:g1.w=W1:=by rw[hg1]
 have hvs:VTs g1 (.d (.v (.func (.yield (g.w.heap.size+1)) #[] #[]))::ca) (.func (.yield (g.w.heap.size+1)) #[] #[]::ds.toList) := .cons (.d (.v _ rfl)) ⟨hca.1,fun i t c h1 h2=>(hca.2 i t c h1 h2).turn hk1 he1⟩;have hcall:CallsIn aY 0 P f (Value.func (.yield (g.w.heap.size+1)) #[] #[]::ds.toList).toArray g1.w fun e W'=>∃ g' ph L',g'.w=W'∧P6 g'∧g'.M=ofL L'∧LeL X.l L.length g1 g'∧JOk X r ph g'∧((A65 ph=false∧∃ v,e = .returned v)∨∃ t v,ph = .pan t∧e = .panicked [{ v,recovered:=false }]∧VT g' t v)∧Q ph ⟨ts,L'⟩:=by
  refine callsIn_of_wp hf hb trivial ?_ rfl;obtain⟨s1,s2⟩:=A6y hvs (N:=N1) (by simpa using hl) fn1.ntmps hN;have:=h (g.w.heap.size+1) aY 0 Wd.wide r g1 { tmps:=(Value.func (.yield (g.w.heap.size+1)) #[] #[]::ds.toList).toArray++bt (fn1.ntmps-(Value.func (.yield (g.w.heap.size+1)) #[] #[]::ds.toList).toArray.size) undef,defers:=[] } (hX▸hj1) ⟨hgood1,by rw[hg1];exact hR.M,s1,s2,rfl⟩;refine aW this ?_;rintro ex a' w' ⟨g',ph,sx,st',rfl,h2,h3,h4,h5,h6⟩;have done:(A65 ph=false∧∃ L1 κ,Vw L.length st' ⟨[],L1⟩ κ∧Q ph ⟨ts,L1⟩)→a'.defers=[]∧∃ v,(results fn1 a'.tmps).run P g'.w = .ok v g'.w∧∃ g'' ph L',g''.w=g'.w∧P6 g''∧g''.M=ofL L'∧LeL X.l L.length g1 g''∧JOk X r ph g''∧((A65 ph=false∧∃ v',Ending.returned v = .returned v')∨∃ t v',ph = .pan t∧Ending.returned v = .panicked [{ v:=v',recovered:=false }]∧VT g'' t v')∧Q ph ⟨ts,L'⟩:=by
   rintro⟨hp,L',κ,h7,h8⟩;obtain⟨g2,e1,e2,e3⟩:=h7.see h3;have hj2:=h4.step h3.good e2;exact⟨h3.df,.tuple #[],by simp[results,hres],g2,ph,L',e1,e3.good,e3.M,by rw[hX];exact h2.trans (e2.toL _),hX▸hj2,.inl ⟨hp,_,rfl⟩,h8⟩
  cases sx with
  | norm=>cases ex<;>first | exact h5.elim | exact done h6
  | ret=>cases ex<;>first | exact h5.elim | exact done h6
  | exit i=>exact h6.elim
  | pan t =>
   cases ex<;>first | exact h5.elim | skip
   obtain⟨v,rfl,hv'⟩:=h5;obtain⟨rfl,hsc0,L',κ,h7,h8⟩:=h6;obtain⟨g2,e1,e2,e3⟩:=h7.see h3;have hj2:=h4.step h3.good e2;exact⟨h3.df,g2,.pan t,L',e1,e3.good,e3.M,by rw[hX];exact h2.trans (e2.toL _),hX▸hj2,.inr ⟨t,v,rfl,rfl,hv'.turnN (k:=0) (fun b hb=>⟨e2.k b hb,e2.fr b (h3.good.kd b hb) (h3.good.kl b hb)⟩) (fun n hn=>by omega) hsc0⟩,h8⟩
 rw[hw1]at hcall;refine⟨g.w.heap.size+1,[{ target := .collected g.w.heap.size,args:=#[] }],W1,{ target := .fn (.func f) ds,args:=#[.func (.yield (g.w.heap.size+1)) #[] #[]] },W1,f,
  #[.func (.yield (g.w.heap.size+1)) #[] #[]]++ds,W1,?_,?_,fun _ _=>trivial,?_,(fun h=>by cases h),?_⟩
 ·rw[← hW1,hX,hr];exact run_enterLoop_outer _ _ _ _ _
 ·simp only[resolve,hc];simp[go_sem]
 ·simp[invoke,go_sem,he _ _]
 ·have e:(Value.func (.yield (g.w.heap.size+1)) #[] #[]::ds.toList).toArray=#[.func (.yield (g.w.heap.size+1)) #[] #[]]++ds:=by apply cS;simp
  rw[e]at hcall;refine((callsIn_wide (n:=nn-1)).2 (callsIn_wide.1 hcall)).mono ?_;rintro e W2 ⟨gx,ph,L',rfl,e2,e1,e3,e4,hend,hQ⟩;have hXl:X.l=g.w.heap.size+1:=by rw[hX]
  have hrD:r.D=g.w.heap.size:=by rw[hr]
  have hlrec:=e4.lrec;have hmark:=e4.mark;have hkl:=e4.kl;have hkD:=e4.kD;rw[hXl]at hlrec hkl;rw[hrD]at hmark hkD;have hle3:LeL (g.w.heap.size+1) L.length g1 gx:=hXl▸e3;have fin:∀ g':G,P6 g'→g'.M=ofL L'→LeL (g.w.heap.size+1) L.length gx g'→g'.w.heap[g.w.heap.size]?=some (.deferred (some []))→¬ g'.K g.w.heap.size →
    LeN n0 g g'∧StR g' N ⟨ts,L'⟩ { a with defers:=[{ target := .collected g.w.heap.size,args:=#[] }]++a.defers } ({ target := .collected g.w.heap.size,args:=#[] }::df)∧A72 db g' ({ target := .collected g.w.heap.size,args:=#[] }::df):=fun g' u1 e1' u2 m1 m2=>by
   have hle:LeN L.length g g':=((hle1.toL (g.w.heap.size+1)).trans (hle3.trans u2)).toN oM;have hLe:=hle.toLe hR.M (aw _);refine⟨hLe.toN n0,⟨u1,e1',hR.size,fun i=>(hR.ts i).mono hR.good hLe,by simp[hR.df]⟩,?_⟩;have hd2:=hdf.stepN hR.good hle;refine⟨eH.2 ⟨fun hm=>?_,hd2.nd⟩,hd2.sz,fun d hd=>?_⟩
   ·obtain⟨D,d1,_,d3,_⟩:=hdf.all _ hm;injection d1 with d1
    injection d1 with d1
    subst d1;have:=(gA d3).1;omega
   ·rcases ap.1 hd with rfl | hd
    ·exact⟨g.w.heap.size,rfl,hdf.sz,m1,m2⟩
    ·exact hd2.all d hd
  rcases hend with⟨hp,v,rfl⟩ | ⟨t,v,rfl,rfl,hv'⟩
  ·obtain⟨u1,u2,u3⟩:=A6D e2 (A3l e2 hlrec) hkl (.loop { X.lp r (A5v ph) (A3p ph)with state := .exhausted }) L.length;have hrun:=run_endLoop (P:=P) hlrec (by cases ph<;>simp[A5v,JX.lp,A65]at hp ⊢);obtain⟨g',hg'⟩:∃ g':G,g'=⟨gx.M,gx.β,gx.K,gx.w.putObj (g.w.heap.size+1) (.loop { X.lp r (A5v ph) (A3p ph)with state := .exhausted })⟩:=⟨_,rfl⟩;rw[← hg']at u1 u2;obtain⟨hl0,hSt,hDf⟩:=fin g' u1 (by rw[hg'];exact e1) u2 (by rw[hg'];exact(World.putObj_heap_other oM).trans hmark) (by rw[hg'];exact hkD);have hrun':(Instr.endLoop (g.w.heap.size+1)).run P gx.w = .ok (A3p ph) g'.w:=by rw[hg',hrun];rfl
   cases ph with
   | norm=>exact⟨none,g'.w,hrun',g',.norm,_,_,rfl,hl0,hSt,hDf,trivial,hQ⟩
   | ret=>exact⟨some .ret,g'.w,hrun',wpIn_ret ⟨g',.ret,_,_,rfl,hl0,hSt,hDf,trivial,hQ⟩⟩
   | exit i=>exact⟨some (.exit i),g'.w,hrun',wpIn_exit ⟨g',.exit i,_,_,rfl,hl0,hSt,hDf,rfl,hQ⟩⟩
   | pan t=>cases hp
  ·obtain⟨hl0,hSt,hDf⟩:=fin gx e2 e1 (.refl _ _ _) hmark hkD;exact⟨gx,.pan t,_,_,rfl,hl0,hSt,hDf,⟨v,rfl,hv'⟩,hQ⟩
end
theorem SC.of_swm {P:ah} {f:bm} {fn:Func} {c:Code} {N:Nat} {args:List T} {L:LR} {R:SE→LR→Prop} (hf:P.funcs[f]?=some fn) (hb:fn.body=some c) (hN:fn.ntmps=N) (hl:bL args.length N=true)
  (h:SWM P L.length N c (Fin P fn L.length R) ⟨L8 0 args,L⟩):SC P f args L R:=fun g vs hg hM hv=>by
 refine callsIn_wide.1 (callsIn_of_wp_marks (n:=0) hf hb trivial ?_ rfl);obtain⟨s1,s2⟩:=A6y hv hl fn.ntmps hN;have hR:StR g N ⟨L8 0 args,L⟩ { tmps:=vs.toArray++bt (fn.ntmps-vs.toArray.size) undef,defers:=[] } []:=⟨hg,hM,s1,s2,rfl⟩;refine aW (h 0 g.w.heap.size g _ [] hR (A72.nil (aw _))) ?_;rintro ex a' w' ⟨g',sx,st',df',rfl,hle,k2,k3,k4,k5⟩;have later:∀ w2,B83 g.w.heap.size g'.K g'.w w2→StR ⟨g'.M,g'.β,g'.K,w2⟩ N st' a' df'∧LeN L.length g ⟨g'.M,g'.β,g'.K,w2⟩:=fun w2 hs=>by
  obtain⟨e1,e2⟩:=A9N k2.good hs;refine⟨⟨e1,k2.M,k2.size,fun i=>e2 _ _ (k2.ts i),k2.df⟩,⟨hle.e,by show _≤w2.heap.size;rw[hs.size];exact hle.size,hs.os.trans hle.os,hs.tape.trans hle.tape,hs.output.trans hle.output,fun b hb hn=>(hs.same b (.inl hb)).trans (hle.fr b hb hn),hle.k,hle.k',hle.nl⟩⟩
 have done:(sx = .ret∨sx = .norm)→LeavesInM aY 0 P fn a'.tmps (fun e w'=>∃ g' se L',g'.w=w'∧P6 g'∧Le g g'∧g'.M=ofL L'∧SER g' se e∧R se L') a'.defers .returning g'.w:=fun hs=>by
  have h6:∃ ts κ t L',A8t P st' fn.results.toList ts∧Vw L.length ⟨[(0,B51 ts)],st'.L⟩ ⟨[(0,t)],L'⟩ κ∧R (.ret t) L':=by rcases hs with rfl | rfl<;>exact k5
  obtain⟨ts,κ,t,L',e1,e2,e4⟩:=h6;rw[k2.df];refine B5H (by intro h;cases h) 0 df' g'.w k3.nd (db:=g.w.heap.size) (K:=g'.K) k3.all fun w2 hs2=>?_;obtain⟨q1,q2⟩:=later w2 hs2;obtain⟨cs,f4,f5⟩:=B3h q1 e1;obtain⟨g'',f1,f2,f3⟩:=e2.see (B5z q1.good q1.M (B17 f5));have f6:results fn a'.tmps=(do let vs ← fn.results.mapM (B4q a'.tmps);pure (if h:vs.size=1 then vs[0]else .tuple vs)):=rfl;refine⟨if h:cs.toArray.size=1 then cs.toArray[0]else .tuple cs.toArray,?_,g'',.ret t,L',f1,f3.good,(q2.trans f2).toLe hM (aw _),f3.M,f3.ts 0,e4⟩;have f7:(fn.results.toList.mapM (B4q a'.tmps)).run P w2 = .ok cs w2:=f4;rw[f6,dQ,Sem.run_bind,Sem.run_map,f7];rfl
 cases sx with
 | norm=>cases ex<;>first | exact k4.elim | exact done (.inr rfl)
 | ret=>cases ex<;>first | exact k4.elim | exact done (.inl rfl)
 | exit i=>exact k5.elim
 | pan t =>
  cases ex<;>first | exact k4.elim | skip
  obtain⟨v,rfl,hv'⟩:=k4;obtain⟨κ,st'',e1,e2,t',rfl,e3,e4⟩:=k5;show LeavesInM aY 0 P fn a'.tmps _ a'.defers (.panicking _) g'.w;rw[k2.df];refine B5H (by intro h;cases h) 0 df' g'.w k3.nd (db:=g.w.heap.size) (K:=g'.K) k3.all fun w2 hs2=>?_;obtain⟨q1,q2⟩:=later w2 hs2;obtain⟨v1,v2⟩:=A9T q1.good q1.M e1.nd e1.len e1.rows;refine⟨⟨ofL st''.L,fun n=>g'.β (kap κ n),g'.K,w2⟩,.pan t',st''.L,rfl,v1,?_,rfl,⟨v,rfl,v2 _ _ e3 ((A9N k2.good hs2).2 _ _ hv')⟩,e4⟩;refine LeN.toLe (n0:=L.length) (q2.trans ⟨fun n hn hne=>?_,aw _,rfl,rfl,rfl,fun _ _ _=>rfl,fun _ h=>h,fun _ _ h => .inl h,fun n r hn h0 _ hnl=>?_⟩) hM (aw _)
  ·rw[q1.M]at hne;simp only[ofL,ne_eq,aQ,cD]at hne;obtain⟨d1,d2⟩:=e1.base n hn hne;exact⟨by simp only[ofL,ne_eq,aQ,e1.len];omega,by show g'.β (kap κ n)=_;rw[d2]⟩
  ·obtain⟨o',d1,d2⟩:=A6G e1.rows n (some r) hn;rw[aZ]at d1;refine hnl (kap κ n) (r.ren (kap κ)) ?_ h0 rfl;rw[q1.M];unfold ofL;rw[d1,(d2 r rfl).1]
theorem SWJ.seen {P:ah} {X:JX} {N:Nat} {Q:SX→SX→St→Prop} {ph:SX} {c:Code} {st st':St} (k:∀ (g:G) (a:Act),StR g N st a []→∃ g',g'.w=g.w∧LeN X.n1 g g'∧StR g' N st' a []) (h:SWJ P X N c Q ph st'):SWJ P X N c Q ph st:=fun F nn hF r g a hj hR=>by
 obtain⟨g',hw,hle,hR'⟩:=k g a hR;have:=h F nn hF r g' a (hj.step hR.good hle) hR';rw[hw]at this;exact aW this fun _ _ _ hq=>hq.trans (hle.toL _)
theorem SWJ.own {P:ah} {X:JX} {N:Nat} {Q:SX→SX→St→Prop} {ph:SX} {c:Code} {ts ts':LT} {L L':LR} (s:Nat) (hs:aJ s 0=false) {m:Nat} {nr:List Nat} (hm:A4f.drop L.length=m::nr) (hts:B21 m s ts ts') (hL:A92 m s L L') (h:SWJ P X N c Q ph ⟨ts',L'++[some ⟨s,[]⟩]⟩):SWJ P X N c Q ph ⟨ts,L⟩ :=
 SWJ.seen (fun _ _ hR=>A9g X.n1 s hs hm hts hL hR) h
theorem SWJ.fz {P:ah} {X:JX} {N:Nat} {Q:SX→SX→St→Prop} {ph:SX} {c:Code} {ts ts':LT} {L L':LR} {α:Type} {w:List α} {f:α→D} (n s:Nat) (hn0:L[n]?=some (some ⟨s,w.map fun a => .d (f a)⟩)) (hts:FzS n s (w.map f) ts ts') (hL:FzR n s (w.map f) (L.set n none) L') (h:SWJ P X N c Q ph ⟨ts',L'⟩):SWJ P X N c Q ph ⟨ts,L⟩ :=
 SWJ.seen (fun _ _ hR=>C0l X.n1 n s hn0 hts hL hR) h
theorem SWM.seen {P:ah} {n0 N:Nat} {Q:SX→St→Prop} {c:Code} {st st':St} (k:∀ (g:G) (a:Act) (df:List bp),StR g N st a df→∃ g',g'.w=g.w∧LeN n0 g g'∧StR g' N st' a df) (h:SWM P n0 N c Q st'):SWM P n0 N c Q st:=fun nn db g a df hR hd=>by
 obtain⟨g',hw,hle,hR'⟩:=k g a df hR;have:=h nn db g' a df hR' (hd.stepN hR.good hle);rw[hw]at this;exact aW this fun _ _ _ ⟨g2,sx,st',df',h1,h2,h3⟩=>⟨g2,sx,st',df',h1,hle.trans h2,h3⟩
def SCP (P:ah) (f:bm) (as:List T) (L:LR) (t:T):Prop:=SC P f as L fun se _=>se = .pan t
theorem B1V {n:Nat}:∀ (ρ:List Nat),(ρ.map fun m=>(m,(none:Option Rw))).find? (fun p=>p.1==n)=if n∈ρ then some (n,none)else none
 | []=>by simp
 | m::ρ=>by
  simp only[bw,List.find?_cons,ap];by_cases h:m=n
  ·subst h;simp
  ·have h2:(m==n)=false:=by simpa using h
   rw[h2];dsimp only;rw[B1V ρ];have:(n=m)=False:=by simp;exact fun e=>h e.symm
   simp[this]
section
variable {P:ah} {n0 N:Nat} {df:List bp} {ops:Array Oper} {l:List Oper} {ts:LT} {L:LR} {tr:List Stp} {d:Nat} {ty:ab} {pos:String} {af:Array Edge} {gd:Option (Nat × Bool)} {Q:SX→St→Prop}
def OpP (P:ah) (n0 N:Nat) (df:List bp) (ops:Array Oper) (Q:SX→St→Prop) (o:Oper) (st:St):Prop :=
 I2 ops st.ts o=some true∧∀ (F:Fence) (nn:Nat),Wd F→∀ (g:G) (a:Act),StR g N st a df→∀ (K:Act→aO→Prop) (R:Exit→Act→aO→Prop),
  (∀ g' v t st',LeN n0 g g'→StR g' N st' a df→VT g' t v→Q (.pan t) st'→R (.panic [{ v,recovered:=false }]) a g'.w)→o.wpIn F nn P a g.w K R
def B7x (P:ah) (n0 N:Nat) (df:List bp) (ops:Array Oper) (Q:SX→St→Prop):List Oper→List Stp→St→Prop:=fun l _ st=>(l=[]∧Q .norm st)∨∃ o r,l=o::r∧OpP P n0 N df ops Q o st
def B7y (P:ah) (n0 N:Nat) (df:List bp) (ops:Array Oper) (Q:SX→St→Prop):List Oper→List Stp→St→Prop:=fun l tr st=>(l=[]∧B0s ops tr=true∧Q .norm st)∨∃ o,l=[o]∧B0s ops tr=true∧A9a ops (ops.size-1)=true∧OpP P n0 N df ops Q o st
theorem R2 {st:St} (h:Q .norm st):L3 P N ops [] st tr (B7x P n0 N df ops Q):=A32 (.inl ⟨rfl,h⟩)
theorem N0 {st:St} (ho:B0s ops tr=true) (h:Q .norm st):L3 P N ops [] st tr (B7y P n0 N df ops Q):=A32 (.inl ⟨rfl,ho,h⟩)
theorem T2 {o:Oper} {st:St} (h:OpP P n0 N df ops Q o st):L3 P N ops (o::l) st tr (B7x P n0 N df ops Q):=A32 (.inr ⟨o,l,rfl,h⟩)
theorem P0 {o:Oper} {st:St} (ho:B0s ops tr=true) (hl:A9a ops (ops.size-1)=true) (h:OpP P n0 N df ops Q o st):L3 P N ops [o] st tr (B7y P n0 N df ops Q):=A32 (.inr ⟨o,rfl,ho,hl,h⟩)
theorem X0 {st:St} {id:Nat} {l:List Oper} (h:L3 P N l.toArray l st [] (B7x P n0 N df l.toArray Q)):SW P n0 N df (.region id l.toArray false) Q st:=fun F nn hF g a hR=>by
 refine wpIn_region_lit ?_;obtain⟨l1,l2,tr,st',e,h1,h2⟩:=h;generalize hops:l.toArray=ops at h1 h2;rw[e];have key:∀ (l:List Oper) (st:St) (tr:List Stp) (st2:St),Ev P N ops l st tr st2→B7x P n0 N df ops Q l2 ([]++tr) st2→∀ (g1:G) (a:Act),Le g g1→StR g1 N st a df→wpListIn F nn P ops (fun ex a' w'=>∃ g' sx st',g'.w=w'∧LeN n0 g g'∧StR g' N st' a' df∧XR g' sx ex∧Q sx st') (l++l2) a g1.w:=by
  intro l st tr st2 h;induction h with
  | nil st =>
   rintro(⟨rfl,q2⟩ | ⟨o,r,rfl,hw,q2⟩) g1 a hl hR1
   ·exact⟨g1,.norm,st,rfl,hl.toN n0,hR1,trivial,q2⟩
   ·rw[cf];unfold wpListIn;rw[A0W hw fun d _=>hR1.ts d];simp only[if_true];exact q2 F nn hF g1 a hR1 _ _ fun g' v t st' e1 e2 e3 e4=>⟨g',.pan t,st',rfl,(hl.toN n0).trans e1,e2,⟨v,rfl,e3⟩,e4⟩
  | cons hs _ ih =>
   intro h2 g1 a hl hR1;exact hs.soundL hF hR1 fun g' a' h3 h4=>ih h2 g' a' (hl.trans h3) h4
 exact key l1 st tr st' h1 h2 g a (.refl g) hR
theorem A0V {st:St} {id:Nat} {l:List Oper} (hm:P.follows .mixedOrders=true) (h:L3 P N l.toArray l st [] (B7y P n0 N df l.toArray Q)):SW P n0 N df (.region id l.toArray true) Q st:=fun F nn hF g a hR=>by
 obtain⟨l1,l2,tr,st',e,h1,(⟨rfl,h2,h3⟩ | ⟨o,rfl,h2,h3,hw,h4⟩)⟩:=h
 ·rw[aH]at e;subst e;exact B0g hm hF h1 h2 hR fun g' a' hl hR'=>⟨g',.norm,st',rfl,hl.toN n0,hR',trivial,h3⟩
 ·have hsz:l.toArray.size-1=l1.length:=by rw[e];simp
  rw[hsz]at h3;refine B3g (l1:=l1) (o:=o) hm hF (by rw[← e]) h1 h2 h3 hR fun g' a' K hl hR'=>?_;unfold wpOpIn;have ho:l.toArray[l1.length]?=some o:=by rw[e];simp
  simp only[ho];rw[A0W hw fun d _=>hR'.ts d];simp only[if_true];exact h4 F nn hF g' a' hR' _ _ fun g'' v t st'' e1 e2 e3 e4=>⟨g'',.pan t,st'',rfl,(hl.toN n0).trans e1,e2,⟨v,rfl,e3⟩,e4⟩
theorem B9I {g:G} (hg:P6 g) (S:Nat→Prop) [DecidablePred S] {g3:G} (hM:∀ n,g3.M n=if S n then(g.M n).map (fun _=>none)else g.M n) (hβ:g3.β=g.β) (hK:g3.K=g.K) (hw:g3.w=g.w) :
  P6 g3∧Le g g3∧∀ t c,VT g t c→VT g3 t c:=by
 have live:∀ n r,g3.M n=some (some r)→g.M n=some (some r):=fun n r h=>by
  rw[hM]at h;split at h
  ·cases hm:g.M n<;>rw[hm]at h<;>simp at h
  ·exact h
 have hne:∀ n,g.M n≠none→g3.M n≠none∧g3.β n=g.β n:=fun n hn=>by
  rw[hM,hβ];refine⟨?_,rfl⟩;split
  ·simpa using hn
  ·exact hn
 have hk:∀ b,g.K b→g3.K b∧g3.w.heap[b]?=g.w.heap[b]?:=fun b hb=>by rw[hK,hw];exact⟨hb,rfl⟩
 refine⟨⟨fun n r hn=>A4q.turn hk hne (hg.rows n r (live n r hn)) (by rw[hβ]) (fun _=>by rw[hw]),fun n m r q h1 h2 hn0 hm0 he=>?_,fun b hb=>?_,fun b hb n r hn h0=>?_⟩,⟨fun n hn=>hne n hn,by rw[hw];exact aw _,by rw[hw],by rw[hw],by rw[hw],fun b _ _=>by rw[hw],fun b hb=>(hk b hb).1,fun b _ hb => .inl (by rwa [hK]at hb),fun n r hn h0 _ hh=>?_⟩,fun t c h=>h.turn hk hne⟩
 ·rw[hβ]at he hn0 hm0;exact hg.inj n m r q (live n r h1) (live m q h2) hn0 hm0 he
 ·rw[hw];rw[hK]at hb;exact hg.kd b hb
 ·rw[hβ]at h0 ⊢;rw[hK]at hb;exact hg.kl b hb n r (live n r hn) h0
 ·rw[hβ]at hh h0;exact hh n r (live n r hn) h0 rfl
theorem H8 {x:aa} {xs:Array aa} {tys:Array ab} {dst:Option Nat} {f:bm} {cT t:T} {as us fi ca:List T} {Lf:LR} {rs:List Rw} (ρ:List Nat) (hc:SCP P f as Lf t) (ht:t.sc 0=true) (he:Ent P f)
  (hf:O9 ts x=cT) (hcal:B6r cT f fi ca) (hx:xs.toList.map (O9 ts)=us) (hargs:fi++us++ca=A5n (kap ρ) as) (has:scL ρ.length as=true) (hnd:ndK ρ=true) (hrow:RwO L ρ Lf ρ rs)
  (hw:I2 ops ts ⟨dst,.call { callee := .value x,args:=xs,argTypes:=tys },ty,pos,af,gd⟩=some true)
  (hQ:∀ cnt,Q (.pan t) ⟨ts,A4m L (ρ.map fun n=>(n,none))++ak cnt none⟩):OpP P n0 N df ops Q ⟨dst,.call { callee := .value x,args:=xs,argTypes:=tys },ty,pos,af,gd⟩ ⟨ts,L⟩:=by
 refine⟨hw,fun F nn hF g a hR K R k=>?_⟩;obtain⟨hLe,hrs,hrsc,hrowA,hlt⟩:=hrow.all;subst hLe;have call_ins:∀ p∈(x,cT)::xs.toList.zip us,O9 ts p.1=p.2:=by
  intro p hp;rcases ap.1 hp with rfl | hp
  ·exact hf
  ·exact(A2Z hx p hp).1
 refine B5A (P:=P) (fresh:=L.length) (ρ:=ρ) (rs:=rs) (fi:=fi) (ca:=ca) (as:=as) (ts:=us) rfl he hcal (by rw[← hx];simp) hc hargs has (B0V hnd) hrs hrsc hlt hF hR.good
  (fun p hp=>call_ins p hp▸A4G hR.ts p.1) (fun p hp=>by rw[hR.M];exact hrowA p hp) fun hfr' hrows gc' se L' e h1 h2 h3 h4 h5=>?_
 subst h5;obtain⟨v,rfl,hv⟩:∃ v,e = .panicked [{ v,recovered:=false }]∧VT gc' t v:=by cases e<;>first | exact h4.elim | (obtain⟨v,rfl,hv⟩:=h4;exact⟨v,rfl,hv⟩)
 refine⟨fun v' e=>(by cases e),fun ch e=>?_⟩;injection e with e
 subst e;have hL':ρ.length≤L'.length:=by
  rcases Nat.lt_or_ge L'.length ρ.length with hh | hh
  ·have:=(h2.e L'.length (by show ofL (rs.map some) L'.length≠none;simp[ofL];omega)).1;rw[h3]at this;simp[ofL]at this
  ·exact hh
 obtain⟨k1,k2,k3⟩:=A7U (fresh:=L.length) (cnt:=L'.length-ρ.length) (Lf:=rs.map some) (Lf':=L') (B0V hnd) hR.good (by simpa using hrs.symm) oM hfr' rfl hrows (fun k _=>by rw[hR.M];exact aD (Nat.le_add_right L.length k)) h1 h2 h3;obtain⟨g3,hg3⟩:∃ g3:G,g3=⟨fun n=>if n∈ρ∨L.length≤n then((g.back gc' ρ L.length (L'.length-ρ.length)).M n).map (fun _=>none)else(g.back gc' ρ L.length (L'.length-ρ.length)).M n,(g.back gc' ρ L.length (L'.length-ρ.length)).β,(g.back gc' ρ L.length (L'.length-ρ.length)).K,(g.back gc' ρ L.length (L'.length-ρ.length)).w⟩:=⟨_,rfl⟩;obtain⟨f1,f2,f3⟩:=B9I k1 (fun n=>n∈ρ∨L.length≤n) (g3:=g3) (fun n=>by rw[hg3]) (by rw[hg3]) (by rw[hg3]) (by rw[hg3]);have hv':=f3 _ _ (k3 _ _ hv);rw[A8G _ _ ht]at hv';have hw3:g3.w=gc'.w:=by rw[hg3];rfl
 rw[← hw3];refine k g3 v t ⟨ts,A4m L (ρ.map fun n=>(n,none))++ak (L'.length-ρ.length) none⟩ ((k2.trans f2).toN n0) ⟨f1,?_,hR.size,fun i=>f3 _ _ ((hR.ts i).mono hR.good k2),hR.df⟩ hv' (hQ _);funext n;have hsl:=B1w L (ρ.map fun n=>(n,none)) n (fun p hp=>by simp only[bZ]at hp;obtain⟨m,hm,rfl⟩:=hp;exact hlt m hm);rw[B1V]at hsl;rw[hg3];show(if n∈ρ∨L.length≤n then((g.back gc' ρ L.length (L'.length-ρ.length)).M n).map (fun _=>none)else(g.back gc' ρ L.length (L'.length-ρ.length)).M n)=_;have hsz:(A4m L (ρ.map fun n=>(n,none))).length=L.length:=A6H _ _;simp only[ofL];by_cases hn:n<L.length
 ·rw[aC (by rw[hsz];exact hn),hsl];by_cases hm:n∈ρ
  ·rw[if_pos (.inl hm),if_pos hm];have hne:=(k2.e n (by rw[hR.M];simp[ofL,hn])).1;cases hx':(g.back gc' ρ L.length (L'.length-ρ.length)).M n with
   | none=>exact absurd hx' hne
   | some o=>rfl
  ·rw[if_neg (by rintro(h | h);exact hm h;omega),if_neg hm];simp only[G.back];have:ρ.idxOf? n=none:=by
    cases hi:ρ.idxOf? n with
    | none=>rfl
    | some k =>
     obtain⟨q1,q2⟩:=A64 hi;rw[am,gE q1,aR]at q2;exact absurd (q2▸List.getElem_mem q1) hm
   rw[this];dsimp only;rw[if_neg oM,hR.M];rfl
 ·rw[aG (by rw[hsz];omega),hsz,if_pos (.inr oM)];simp only[G.back];have:ρ.idxOf? n=none:=by
   cases hi:ρ.idxOf? n with
   | none=>rfl
   | some k =>
    obtain⟨q1,q2⟩:=A64 hi;have:=hfr' k q1;omega
  rw[this];dsimp only;by_cases hc':n<L.length+(L'.length-ρ.length)
  ·rw[if_pos ⟨by omega,hc'⟩,bJ,if_pos oM,h3];have:ρ.length+(n-L.length)<L'.length:=by omega
   simp[ofL,this]
  ·rw[if_neg oM,bJ,if_neg oM,hR.M];simp[ofL,aD (show L.length≤n by omega)]
theorem B2d {x:aa} {t:ab} {c:al} {st:St} (hx:O9 st.ts x = .d (.v (.iface t c))) (hw:I2 ops st.ts ⟨none,.panic x,ty,pos,af,gd⟩=some true) (hQ:Q (.pan (.d (.v (.iface t c)))) st):OpP P n0 N df ops Q ⟨none,.panic x,ty,pos,af,gd⟩ st :=
 ⟨hw,fun F nn hF g a hR K R k=>by
  have h1:=A4G hR.ts x;rw[hx]at h1;have hv:=h1.v_eq;refine⟨fun f _=>hF.fn f,?_⟩;rw[Oper.semAt_eq _ _ _ (fun c h=>by cases h)];have hrun:(aT a.eval ⟨none,.panic x,ty,pos,af,gd⟩).run P g.w = .halt (.panic (.iface t c)) g.w:=by
   simp only[aT];rw[hv];rfl
  rw[hrun];exact k g _ _ st (.refl n0 g) hR (hv▸h1) hQ⟩
end
def exE {α β:Type}:Except Int α→(Int→β)→(α→β)→β
 | .error e,f,_=>f e
 | .ok a,_,g=>g a
def SCX {α:Type} (P:ah) (f:bm) (as:List T) (L:LR) (x:Except Int α) (ty:ab) (t:α→T) (L1:α→LR):Prop :=
 SC P f as L fun se X=>(∃ a,x = .ok a∧se = .ret (t a)∧X=L1 a)∨∃ e,x = .error e∧se = .pan (.d (.v (.iface ty (.int .i64 e))))
theorem SCX.ok {α:Type} {P:ah} {f:bm} {as:List T} {L:LR} {x:Except Int α} {ty:ab} {t:α→T} {L1:α→LR} (h:SCX P f as L x ty t L1) {a:α} (hn:x = .ok a):SCR P f as L (t a) (L1 a):=SC.mono h fun se X hX=>by
 rcases hX with⟨b,h1,h2,h3⟩ | ⟨e,h1,_⟩
 ·rw[hn]at h1;injection h1 with h1;subst h1;exact⟨h2,h3⟩
 ·rw[hn]at h1;cases h1
theorem SCX.err {α:Type} {P:ah} {f:bm} {as:List T} {L:LR} {x:Except Int α} {ty:ab} {t:α→T} {L1:α→LR} (h:SCX P f as L x ty t L1) {e:Int} (hn:x = .error e):SCP P f as L (.d (.v (.iface ty (.int .i64 e)))):=SC.mono h fun se X hX=>by
 rcases hX with⟨b,h1,_⟩ | ⟨b,h1,h2⟩
 ·rw[hn]at h1;cases h1
 ·rw[hn]at h1;injection h1 with h1;subst h1;exact h2
theorem M3 {P:ah} {fn:Func} {n0:Nat} {st:St} {R:SE→LR→Prop} {x:D} {L:LR} {κ:List Nat} (hv:Vw n0 st ⟨[],L⟩ κ) (hR:R (.pan (.d x)) L):Fin P fn n0 R (.pan (.d x)) st:=⟨κ,⟨[],L⟩,hv,rfl,.d x,rfl,rfl,hR⟩
theorem B5f {P:ah} {o:Oper} {fresh:Nat} {t e:ab} {i ei:TI} {x y:aa} {n s len:Nat} {k:aU} {p:Nat} (hop:o.op = .slice t x (some y) none none) (ht:TOk P t i) (hs:i.sl=some e) (he:TOk P e ei) (hz:ei.size=s) (h1:p<len) :
  OpS P o [(x,.row n s 0 len),(y,.d (.v (.int k p)))] [] [] fresh [] (.row n s p (len-p)) :=
 .of_pure (fun c h=>by rw[hop]at h;cases h) fun g a hg hi hr=>by
  have hx:=hi (x,.row n s 0 len) sM;have hy:=(hi (y,.d (.v (.int k p))) sM).v_eq;dsimp only at hx hy;generalize hv:a.eval x=v at hx;cases hx with | row _ _ _ _ A hn hs0 hl ha =>
  have h0:(g.β n).2≠0:=by omega
  have ha:=ha h0;subst ha;subst hz;have hne:¬ (g.β n).2=p:=by omega
  have hr:=A5f (P:=P) ht hs he (A:=some ⟨(g.β n).1,0*ei.size,none⟩) (cap:=(g.β n).2-0) (len:=len) (.inl ⟨rfl,rfl⟩) (.inr ⟨k,rfl⟩) (Nat.le_of_lt h1) (aw _) oM g.w;rw[aP,if_neg hne]at hr;refine⟨.slice (some ⟨(g.β n).1,p*ei.size,none⟩) (len-p) ((g.β n).2-p),?_,.row n ei.size p (len-p) _ hn hs0 oM fun _=>rfl⟩;simp only[da]at hr;simp[aT,hop,hv,hy,hr,Addr.add];exact fun h=>h.symm
theorem B3X {P:ah} {o:Oper} {fresh:Nat} {t e:ab} {i ei:TI} {x y:aa} {n s len:Nat} {k:aU} (hop:o.op = .slice t x (some y) none none) (ht:TOk P t i) (hs:i.sl=some e) (he:TOk P e ei) (hz:ei.size=s) :
  OpS P o [(x,.row n s 0 len),(y,.d (.v (.int k len)))] [] [] fresh [] (.d (.arr s [])) :=
 .of_pure (fun c h=>by rw[hop]at h;cases h) fun g a hg hi hr=>by
  have hx:=hi (x,.row n s 0 len) sM;have hy:=(hi (y,.d (.v (.int k len))) sM).v_eq;dsimp only at hx hy;generalize hv:a.eval x=v at hx;cases hx with | row _ _ _ _ A hn hs0 hl ha =>
  have hr:=A5f (P:=P) ht hs he (A:=A) (cap:=(g.β n).2-0) (len:=len) (.inl ⟨rfl,rfl⟩) (.inr ⟨k,rfl⟩) (aw _) (aw _) oM g.w;rw[cJ]at hr;obtain⟨B,hB⟩:∃ B,B=(if(g.β n).2-0=len then A else A.map (·.add (len*ei.size))):=⟨_,rfl⟩;rw[← hB]at hr;exact⟨.slice B 0 ((g.β n).2-0-len),by simp[aT,hop,hv,hy]at hr ⊢;simp[hr],.d (.arr0 s _ _)⟩
section
variable {P:ah} {N:Nat} {ops:Array Oper} {l:List Oper} {ts:LT} {L:LR} {tr:List Stp} {d:Nat} {ty:ab} {pos:String} {af:Array Edge} {gd:Option (Nat × Bool)} {K:List Oper→List Stp→St→Prop}
theorem B9h {t e:ab} {i ei:TI} {x y:aa} {n s len:Nat} {k:aU} {p:Nat} (tb:Tab P) (ht:tb.f t=some i) (hs:i.sl=some e) (he:tb.f e=some ei) (hx:O9 ts x = .row n s 0 len) (hz:ei.size=s) (hy:O9 ts y = .d (.v (.int k p))) (h1:p<len) (hw:I2 ops ts ⟨some d,.slice t x (some y) none none,ty,pos,af,gd⟩=some true) (hd:aq d N=true)
  (kk:L3 P N ops l ⟨(d,.row n s p (len-p))::ts,L⟩ (tr++[.run [] []]) K):L3 P N ops (⟨some d,.slice t x (some y) none none,ty,pos,af,gd⟩::l) ⟨ts,L⟩ tr K :=
 K0 (ins:=[(x,.row n s 0 len),(y,.d (.v (.int k p)))]) rfl (B5f rfl (tb.ok _ _ ht) hs (tb.ok _ _ he) hz h1) hw (by simp[ag,hx,hy]) sM hd kk
theorem B8e {t e:ab} {i ei:TI} {x y:aa} {n s len:Nat} {k:aU} {p:Nat} (tb:Tab P) (ht:tb.f t=some i) (hs:i.sl=some e) (he:tb.f e=some ei) (hx:O9 ts x = .row n s 0 len) (hz:ei.size=s) (hy:O9 ts y = .d (.v (.int k p))) (h1:len=p) (hw:I2 ops ts ⟨some d,.slice t x (some y) none none,ty,pos,af,gd⟩=some true) (hd:aq d N=true)
  (kk:L3 P N ops l ⟨(d,.d (.arr s []))::ts,L⟩ (tr++[.run [] []]) K):L3 P N ops (⟨some d,.slice t x (some y) none none,ty,pos,af,gd⟩::l) ⟨ts,L⟩ tr K:=by
 subst h1;exact K0 (ins:=[(x,.row n s 0 len),(y,.d (.v (.int k len)))]) rfl (B3X rfl (tb.ok _ _ ht) hs (tb.ok _ _ he) hz) hw (by simp[ag,hx,hy]) sM hd kk
end
structure DfC (P:ah) (fd:bm) (tyE:ab):Prop where
 idle:∀ (b:Nat) (w:aO),CallsDIn aY 0 P fd #[.pointer (some ⟨b,0,none⟩)] .returning w fun e u' w'=>e = .returned (.tuple #[])∧u' = .returning∧w'=w
 caught:∀ (b:Nat) (E:Int) (older:List PanicEntry) (w:aO) (v:al) (cells:Array al) (e:ab) (fr:Nat × Nat),w.heap[b]?=some (.cells cells e fr)→w.frozen? ⟨b,0,none⟩=false→cells[0]?=some v →
  CallsDIn aY 0 P fd #[.pointer (some ⟨b,0,none⟩)] (.panicking ({ v := .iface tyE (.int .i64 E),recovered:=false }::older)) w fun e u' w'=>e = .returned (.tuple #[])∧u' = .panicking ({ v := .iface tyE (.int .i64 E),recovered:=true }::older)∧w'=w.setCell ⟨b,0,none⟩ (.int .i64 E)
def C0x (fn:Func) (P:ah) (g0:G) (R:SE→LR→Prop):Exit→Act→aO→Prop:=bodyPostDIn aY 0 P fn fun e w'=>∃ g' se L',g'.w=w'∧P6 g'∧Le g0 g'∧g'.M=ofL L'∧SER g' se e∧R se L'
def SWD (P:ah) (fn:Func) (n0:Nat) (R:SE→LR→Prop) (N:Nat) (c:Code) (st:St):Prop :=
 ∀ (g0 g:G) (a:Act),(∀ n,g0.M n≠none→n<n0)→LeN n0 g0 g→StR g N st a []→c.wpIn aY 0 P (C0x fn P g0 R) a g.w
theorem LeN.full {n0:Nat} {g g':G} (h:LeN n0 g g') (hM:∀ n,g.M n≠none→n<n0):Le g g':=⟨fun n hn=>h.e n (hM n hn) hn,h.size,h.os,h.tape,h.output,h.fr,h.k,h.k',h.nl⟩
section
variable {P:ah} {fn:Func} {n0 N:Nat} {R:SE→LR→Prop} {st:St}
theorem B3n {x y:Code} (h:SW P n0 N [] x (fun sx st'=>sx = .norm∧SWD P fn n0 R N y st') st):SWD P fn n0 R N (.seq x y) st:=fun g0 g a hM hl hR=>by
 refine wpIn_seq (aW (h aY 0 Wd.wide g a hR) ?_);rintro ex a' w' ⟨g',sx,st',rfl,h2,h3,h4,rfl,h5⟩;cases ex<;>first | exact h4.elim | skip
 exact h5 g0 g' a' hM (hl.trans h2) h3
theorem B5D {g0 g:G} {a:Act} {df:List bp} (hM:∀ n,g0.M n≠none→n<n0) (hl:LeN n0 g0 g) (hR:StR g N st a df) (h:Fin P fn n0 R .ret st) :
  ∃ v,(results fn a.tmps).run P g.w = .ok v g.w∧∃ g' se L',g'.w=g.w∧P6 g'∧Le g0 g'∧g'.M=ofL L'∧SER g' se (.returned v)∧R se L':=by
 obtain⟨ts,κ,t,L',e1,e2,e4⟩:=h;obtain⟨cs,f4,f5⟩:=B3h hR e1;obtain⟨g'',f1,f2,f3⟩:=e2.see (B5z hR.good hR.M (B17 f5));have f6:results fn a.tmps=(do let vs ← fn.results.mapM (B4q a.tmps);pure (if h:vs.size=1 then vs[0]else .tuple vs)):=rfl;refine⟨if h:cs.toArray.size=1 then cs.toArray[0]else .tuple cs.toArray,?_,g'',.ret t,L',f1,f3.good,(hl.trans f2).full hM,f3.M,f3.ts 0,e4⟩;rw[f6,dQ,Sem.run_bind,Sem.run_map,f4];rfl
theorem SC.of_swd {f:bm} {c:Code} {args:List T} {L:LR} (hf:P.funcs[f]?=some fn) (hb:fn.body=some c) (hN:fn.ntmps=N) (hl:bL args.length N=true) (h:SWD P fn L.length R N c ⟨L8 0 args,L⟩):SC P f args L R:=fun g vs hg hM hv=>by
 refine callsIn_wide.1 (callsIn_of_wp_defers (n:=0) hf hb trivial ?_ rfl);obtain⟨s1,s2⟩:=A6y hv hl fn.ntmps hN;exact h g g _ (fun n hn=>by rw[hM]at hn;simpa only[ofL,ne_eq,aQ,cD]using hn) (.refl _ g) ⟨hg,hM,s1,s2,rfl⟩
end
section
variable {α β:Type} [BEq α] {P:ah} {kt:ab} {kv:α→al}
variable {o:Oper} {fresh:Nat}
def A9d (kv:α→al) (vf:β→T) (m:List (α × β)):Rw:=⟨0,m.map fun p => .agg [.d (.v (kv p.1)),vf p.2]⟩
omit [BEq α] in
theorem C0e {g:G} {n:Nat} {vf:β→T} {m:List (α × β)} (h:A4q g n (A9d kv vf m)):(g.β n).2=1∧∃ es clock,g.w.heap[(g.β n).1]?=some (.map es clock)∧es.toList.map (·.key)=m.map (fun p=>kv p.1)∧∀ (i:Nat) (p:α × β) (e:MapEntry),m[i]?=some p→es[i]?=some e→VT g (vf p.2) e.val:=by
 rcases h with⟨_,_,h3⟩ | ⟨h1,_⟩ | ⟨_,h2,es,clock,h3,h4,h5⟩
 ·exact absurd rfl h3
 ·exact absurd rfl h1
 have hlen:es.size=m.length:=by rw[h4];simp[A9d]
 have get:∀ (i:Nat) (p:α × β),m[i]?=some p→∃ e,es[i]?=some e∧e.key=kv p.1∧VT g (vf p.2) e.val:=fun i p hp=>by
  obtain⟨k,y,e,q1,q2,q3,q4⟩:=h5 i (.agg [.d (.v (kv p.1)),vf p.2]) (by simp[A9d,hp]);simp only[T.agg.injEq,List.cons.injEq,T.d.injEq,D.v.injEq,and_true]at q1;obtain⟨rfl,rfl⟩:=q1;exact⟨e,q2,q3,q4⟩
 refine⟨h2,es,clock,h3,?_,fun i p e h6 h7=>?_⟩
 ·apply dH;intro i;rw[gM,gM,Array.getElem?_toList];by_cases hi:i<m.length
  ·obtain⟨e,q1,q2,_⟩:=get i m[i] (gE hi);rw[q1,gE hi];simp[q2]
  ·rw[aD oM,Array.getElem?_eq_none oM];rfl
 ·obtain⟨e',q1,_,q3⟩:=get i p h6;rw[q1]at h7;injection h7 with h7
  exact h7▸q3
variable {o:Oper} {fresh:Nat}
theorem B6B {t e:ab} {ei:TI} {x y:aa} {n:Nat} {vf:β→T} {m:List (α × β)} {k:α} (hop:o.op = .lookup t x y true) (ht:P.underlying t=some (.map kt e)) (he:TOk P e ei) (K:A9W P kt kv) :
  OpS P o [(x,.mp n),(y,.d (.v (kv k)))] [(n,A9d kv vf m)] [] fresh [] (match A2e m k with | none => .tup [ei.z,.d (.v (.bool false))] | some v => .tup [vf v,.d (.v (.bool true))]) :=
 .of_pure (fun c h=>by rw[hop]at h;cases h) fun g a hg hi hr=>by
  have hx:=hi (x,.mp n) sM;have hy:=(hi (y,.d (.v (kv k))) sM).v_eq;generalize hv:a.eval x=v at hx;cases hx with | mp _ hn =>
  dsimp only at hy;obtain⟨_,es,clock,h1,h2,h3⟩:=C0e (hg.rows n _ (hr (n,A9d kv vf m) sM));obtain⟨zv,hzv,h4⟩:=A9s ht he K h1 h2 k;rcases h4 with⟨h5,h6⟩ | ⟨j,p,en,h5,h6,h7,h8⟩
  ·refine⟨.tuple #[zv,.bool false],by simp[aT,hop,hv,hy,h6 true],?_⟩;rw[h5,hzv];exact .tup _ #[zv,.bool false] rfl fun i d c h1 h2=>by
    match i with
    | 0=>simp at h1 h2;subst h1;subst h2;exact VT.ofV g _
    | 1=>simp at h1 h2;subst h1;subst h2;exact .d (.v _ rfl)
    | i+2=>simp at h1
  ·refine⟨.tuple #[en.val,.bool true],by simp[aT,hop,hv,hy,h8 true],?_⟩;rw[h7];exact .tup _ #[en.val,.bool true] rfl fun i d c h1 h2=>by
    match i with
    | 0=>simp at h1 h2;subst h1;subst h2;exact h3 j p en h5 h6
    | 1=>simp at h1 h2;subst h1;subst h2;exact .d (.v _ rfl)
    | i+2=>simp at h1
end
section
variable {P:ah} {N:Nat} {ops:Array Oper} {l:List Oper} {ts:LT} {L:LR} {tr:List Stp} {K:List Oper→List Stp→St→Prop} {d:Nat} {ty:ab} {pos:String} {af:Array Edge} {gd:Option (Nat × Bool)}
end
def SCA {α:Type} (P:ah) (f:bm) (as:List T) (L:LR) (x:Except Int α) (t:T) (L1:α→LR) (t2:Int→T) (L2:LR):Prop :=
 SC P f as L fun se X=>(∃ a,x = .ok a∧se = .ret t∧X=L1 a)∨∃ e,x = .error e∧se = .ret (t2 e)∧X=L2
theorem SCA.ok {α:Type} {P:ah} {f:bm} {as:List T} {L:LR} {x:Except Int α} {t:T} {L1:α→LR} {t2:Int→T} {L2:LR} (h:SCA P f as L x t L1 t2 L2) {a:α} (hn:x = .ok a):SCR P f as L t (L1 a):=SC.mono h fun se X hX=>by
 rcases hX with⟨b,h1,h2,h3⟩ | ⟨e,h1,_⟩
 ·rw[hn]at h1;injection h1 with h1;subst h1;exact⟨h2,h3⟩
 ·rw[hn]at h1;cases h1
theorem SCA.err {α:Type} {P:ah} {f:bm} {as:List T} {L:LR} {x:Except Int α} {t:T} {L1:α→LR} {t2:Int→T} {L2:LR} (h:SCA P f as L x t L1 t2 L2) {e:Int} (hn:x = .error e):SCR P f as L (t2 e) L2:=SC.mono h fun se X hX=>by
 rcases hX with⟨b,h1,_⟩ | ⟨b,h1,h2,h3⟩
 ·rw[hn]at h1;cases h1
 ·rw[hn]at h1;injection h1 with h1;subst h1;exact⟨h2,h3⟩
section
variable {P:ah} {N:Nat} {ops:Array Oper} {l:List Oper} {ts:LT} {L:LR} {tr:List Stp} {K:List Oper→List Stp→St→Prop} {d:Nat} {ty:ab} {pos:String} {af:Array Edge} {gd:Option (Nat × Bool)}
theorem B6K {t1 t2:ab} {x y:aa} {a b:Bool} (hu:P.underlying t1=some .bool) (hx:O9 ts x = .d (.v (.bool a))) (hy:O9 ts y = .d (.v (.bool b))) (hw:I2 ops ts ⟨some d,.binOp .eql t1 x y t2,ty,pos,af,gd⟩=some true) (hd:aq d N=true)
  (kk:L3 P N ops l ⟨(d,.d (.v (.bool (a==b))))::ts,L⟩ (tr++[.run [] []]) K):L3 P N ops (⟨some d,.binOp .eql t1 x y t2,ty,pos,af,gd⟩::l) ⟨ts,L⟩ tr K :=
 K0 (ins:=[(x,.d (.v (.bool a))),(y,.d (.v (.bool b)))]) rfl (A3z (p := .bool a) (q := .bool b) (z := .bool (a==b)) rfl rfl (fun w=>by simp[go_sem,hu,eqGuard])) hw (by simp[ag,hx,hy]) sM hd kk
theorem A57 {t1 t2:ab} {x y:aa} {a b:Bool} (hu:P.underlying t1=some .bool) (hx:O9 ts x = .d (.v (.bool a))) (hy:O9 ts y = .d (.v (.bool b))) (hw:I2 ops ts ⟨some d,.binOp .neq t1 x y t2,ty,pos,af,gd⟩=some true) (hd:aq d N=true)
  (kk:L3 P N ops l ⟨(d,.d (.v (.bool (a != b))))::ts,L⟩ (tr++[.run [] []]) K):L3 P N ops (⟨some d,.binOp .neq t1 x y t2,ty,pos,af,gd⟩::l) ⟨ts,L⟩ tr K :=
 K0 (ins:=[(x,.d (.v (.bool a))),(y,.d (.v (.bool b)))]) rfl (A3z (p := .bool a) (q := .bool b) (z := .bool (a != b)) rfl rfl (fun w=>by simp[go_sem,hu,eqGuard];cases a<;>cases b<;>rfl)) hw (by simp[ag,hx,hy]) sM hd kk
end
end Go.Proofs.YtlaogbbcipebgaaGreat.Sh
namespace Go.Proofs.YtlaogbbcipebgaaGreat.Sh
open Go Go.ChangeShapes Go.WideShapes Go.ChangeAt Go.RowKit Go.Joins Go.Deep
def gW (w:aO):G:=⟨fun _=>none,fun _=>(0,0),fun b=>b<w.heap.size,w⟩
theorem B8F (w:aO):P6 (gW w):=⟨fun _ _ h=>(by cases h),fun _ _ _ _ h=>(by cases h),fun _ h=>h,fun _ _ _ _ h=>(by cases h)⟩
theorem PC.below {P:ah} {f:bm} {ds:List D} {y:al} {vs:List al} {w:aO} (h:PC P f ds (.v y)) (hl:ds.length=vs.length) (hv:∀ (i:Nat) (d:D) (c:al),ds[i]?=some d→vs[i]?=some c→VD (gW w) d c) :
  Calls P f vs.toArray w fun e w'=>e = .returned y∧Below w.heap.size w w':=by
 refine(h (gW w) vs (B8F w) (by funext n;simp[gW,ofL]) ⟨by simpa using hl,fun i t c ht hc=>?_⟩).mono ?_
 ·rw[gM]at ht;obtain⟨d,hd,rfl⟩:=an.1 ht;exact .d (hv i d c hd hc)
 ·rintro e w' ⟨g',se,L',rfl,hg,hle,hM,hse,rfl,rfl⟩;refine⟨?_,hle.os,hle.tape,hle.output,hle.size,fun k hk=>hle.fr k hk fun _ _ h=>(by cases h)⟩;cases e with
  | returned v =>
   cases hse with | d h=>cases h with | v=>rfl
  | _=>cases hse
def CV (w:aO) (cs:List al) (d:D):Prop:=cs.length=d.cells.length∧∀ (j:Nat) (e:D) (c:al),d.cells[j]?=some e→cs[j]?=some c→VD (gW w) e c
section
variable {P:ah} {H:Type} {enc:ab × al→H} {W:aO}
theorem J8 {t:ab} {fs:Array Field} {fuel:Nat} {cs:List al} {x:DataW H × List MemPlace} (hs:P.underlying t=some (.struct fs)) (h:DataW.trod enc P W 0 (fun _=>true) true fuel t cs=some x) (i:Nat) (f:Field) (hf:fs[i]?=some f) (ds:List al) (hd:(cs.drop f.offset).take (P.cellsOf f.type)=ds) :
  ∃ n y,DataW.trod enc P W 0 (fun _=>true) true n f.type ds=some y:=by
 obtain⟨xs,n,_,_,_,hlen,hg⟩:=DataW.trod_struct hs h;have hi:i<xs.length:=by
  have:=(gA hf).1;omega
 refine⟨n,xs[i],?_⟩;rw[← hd,hg i f hf,gE hi]
theorem A3n {t:ab} {fs:Array Field} {fuel:Nat} {cs:List al} {x:DataW H × List MemPlace} (hs:P.underlying t=some (.struct fs)) (h:DataW.trod enc P W 0 (fun _=>true) true fuel t cs=some x):cs.length=P.cellsOf t:=by
 obtain⟨xs,n,_,_,hl,_,_⟩:=DataW.trod_struct hs h;exact hl
theorem T8 {k:aU} {t:ab} {n:Nat} {c:al} {y:DataW H × List MemPlace} (ht:P.underlying t=some (.int k)) (h:DataW.trod enc P W 0 (fun _=>true) true n t [c]=some y):∃ a:Int,VD (gW W) (.v (.int k a)) c∧(Lit.int k a).wf=true:=by
 obtain⟨a,e,_,hw⟩:=DataW.trod_int ht h;injection e with e
 subst e;exact⟨a,.v _ rfl,hw⟩
theorem B5N {t:ab} {n:Nat} {c:al} {y:DataW H × List MemPlace} (ht:P.underlying t=some .bool) (h:DataW.trod enc P W 0 (fun _=>true) true n t [c]=some y):∃ a:Bool,VD (gW W) (.v (.bool a)) c∧True:=by
 obtain⟨a,e,_⟩:=DataW.trod_bool ht h;injection e with e
 subst e;exact⟨a,.v _ rfl,trivial⟩
theorem B0Z {t:ab} {n:Nat} {c:al} {y:DataW H × List MemPlace} (ht:P.underlying t=some .string) (h:DataW.trod enc P W 0 (fun _=>true) true n t [c]=some y):∃ a:ByteArray,VD (gW W) (.v (.string a)) c∧a.size≤9223372036854775807:=by
 obtain⟨a,e,_,hs⟩:=DataW.trod_string ht h;injection e with e
 subst e;refine⟨a,.v _ rfl,?_⟩;unfold maxLen at hs;exact hs
theorem CV.one {cs:List al} {d:D} {c:al} (hc:cs=[c]) (hd:d.cells=[d]) (h:VD (gW W) d c):CV W cs d:=by
 subst hc;refine⟨by rw[hd];rfl,fun j e c' he hc=>?_⟩;rw[hd]at he;cases j with
 | zero=>cases he;cases hc;exact h
 | succ j=>cases he
theorem A7S (b off k:Nat):(⟨b,off,none⟩:Addr).add k=⟨b,off+k,none⟩:=by
 unfold Addr.add;by_cases h:k=0
 ·subst h;rfl
 ·simp[h]
theorem A2f {α:Type} (en:α→D) (good:α→Prop) {t e:ab} {size:Nat} {n:Nat} {c:al} {y:DataW H × List MemPlace} (ht:P.underlying t=some (.slice e)) (hc:P.cellsOf e=size) (hs:0<size) (hz:∀ a:α,(en a).cells.length=size)
  (hread:∀ n cs (y:DataW H × List MemPlace),DataW.trod enc P W 0 (fun _=>true) true n e cs=some y→∃ a:α,CV W cs (en a)∧good a)
  (h:DataW.trod enc P W 0 (fun _=>true) true n t [c]=some y):∃ l:List α,VD (gW W) (.arr size (l.map en)) c∧l.length≤9223372036854775807∧∀ a∈l,good a:=by
 rcases open_slice ht h with⟨e1,_⟩ | ⟨a,len,cap,m,n',D',Pl,e1,_,hlc,hcm,hm,_,hel⟩
 ·injection e1 with e1
  subst e1;exact⟨[],.arr0 _ _ _,by simp,by simp⟩
 ·injection e1 with e1
  subst e1;rw[if_pos rfl]at hm;subst m;unfold maxLen at hcm;have key:∀ i:_root_.Fin len,∃ x:α,good x∧∃ cs,cs.length=size∧CV W cs (en x)∧∀ k,k<size→W.cell? ((a.add (i.1*size)).add k)=cs[k]?:=by
   intro i;obtain⟨cs',h1,h2⟩:=hel i.1 (by have:=i.2;omega);rw[hc]at h1;obtain⟨x,hcs,hg⟩:=hread _ _ _ h2;exact⟨x,hg,cs',hcs.1.trans (hz x),hcs,(World.cells?_some h1).2.2⟩
  obtain⟨g,hg⟩:=Classical.skolem.1 key;by_cases hpos:len=0
  ·subst hpos;exact⟨[],.arr0 _ _ _,by simp,by simp⟩
  obtain⟨b,off,spot⟩:=a;obtain⟨cs0,l0,_,h0⟩:=(hg ⟨0,by omega⟩).2;have h0':=h0 0 hs;rw[gE oM]at h0';have hspot:spot=none:=by simpa[Addr.add]using World.cell?_spot h0'
  subst hspot;have hblk:b<W.heap.size:=by simpa[Addr.add]using World.block_lt_of_cell? W _ h0'
  have hlen:((cV len).map g).length=len:=by simp
  have hat:∀ (i:Nat) (hi:i<len),(((cV len).map g).map en)[i]?=some (en (g ⟨i,hi⟩)):=fun i hi=>by
   rw[gM,gM,gE (by simpa using hi)];simp
  have lt:∀ (i:Nat) (d:D),(((cV len).map g).map en)[i]?=some d→i<len:=fun i d h=>by
   have:=(gS h).1;simpa using this
  refine⟨(cV len).map g,?_,by rw[hlen];omega,fun x hx=>?_⟩
  ·have hv:=VD.arr (g:=gW W) size (((cV len).map g).map en) b off cap (fun i j=>(W.cell? ⟨b,off+i*size+j,none⟩).getD default) (by rw[aS,hlen];exact hlc) hblk ?_ ?_ ?_
   ·rwa [aS,hlen]at hv
   ·intro i d hd;have hi:=lt i d hd;rw[hat i hi]at hd;injection hd with hd
    subst hd;exact hz _
   ·intro i d hd j e hj;have hi:=lt i d hd;rw[hat i hi]at hd;injection hd with hd
    subst hd;obtain⟨cs,l1,c1,c2⟩:=(hg ⟨i,hi⟩).2;have hjs:j<size:=by rw[← hz (g ⟨i,hi⟩)];exact(gS hj).1
    have:=c2 j hjs;rw[gE oM]at this;rw[A7S,A7S]at this;show W.cell? _=some (eS (W.cell? _) _);rw[this];rfl
   ·intro i d hd j e hj;have hi:=lt i d hd;rw[hat i hi]at hd;injection hd with hd
    subst hd;obtain⟨cs,l1,c1,c2⟩:=(hg ⟨i,hi⟩).2;have hjs:j<size:=by rw[← hz (g ⟨i,hi⟩)];exact(gS hj).1
    have:=c2 j hjs;rw[gE oM]at this;rw[A7S,A7S]at this;show VD _ e (eS (W.cell? _) _);rw[this];exact c1.2 j e _ hj (gE oM)
  ·obtain⟨i,_,rfl⟩:=bZ.1 hx;exact(hg i).1
def CVs (W:aO):List D→List al→Prop
 | [],[]=>True
 | d::ds,c::cs=>VD (gW W) d c∧CVs W ds cs
 | _,_=>False
theorem CVs.at:∀ {ds:List D} {cs:List al},CVs W ds cs→cs.length=ds.length∧∀ (j:Nat) (e:D) (c:al),ds[j]?=some e→cs[j]?=some c→VD (gW W) e c
 | [],[],_=>⟨rfl,fun j e c h=>by cases h⟩
 | d::ds,c::cs,h=>by
  obtain⟨h1,h2⟩:=CVs.at h.2;refine⟨by simp[h1],fun j e c' hj hc=>?_⟩;cases j with
  | zero=>cases hj;cases hc;exact h.1
  | succ j=>exact h2 j e c' hj hc
 | [],_::_,h=>h.elim
 | _::_,[],h=>h.elim
theorem CVs.cv {cs:List al} {l:List D} (h:CVs W l cs):CV W cs (.agg l):=h.at
theorem A8c {k:aU} {t:ab} {n:Nat} {cs:List al} {y:DataW H × List MemPlace} (ht:P.underlying t=some (.int k)) (h:DataW.trod enc P W 0 (fun _=>true) true n t cs=some y):∃ a:Int,CV W cs (.v (.int k a))∧(Lit.int k a).wf=true:=by
 obtain⟨a,e,_,hw⟩:=DataW.trod_int ht h;subst e;exact⟨a,.one rfl rfl (.v _ rfl),hw⟩
theorem B2Q {t:ab} {n:Nat} {cs:List al} {y:DataW H × List MemPlace} (ht:P.underlying t=some .string) (h:DataW.trod enc P W 0 (fun _=>true) true n t cs=some y):∃ a:ByteArray,CV W cs (.v (.string a))∧a.size≤9223372036854775807:=by
 obtain⟨a,e,_,hs⟩:=DataW.trod_string ht h;subst e;refine⟨a,.one rfl rfl (.v _ rfl),?_⟩;unfold maxLen at hs;exact hs
theorem B8W {w0:Nat} {t e:ab} {v:al} {d:DataW H} {p:List MemPlace} {r:Reach} (ht:P.underlying t=some (.slice e)) (hval:Value.okWide P W r w0 t v) (h:DataW.Trod enc P W 0 (fun _=>true) true t v d p):∃ n x,DataW.trod enc P W 0 (fun _=>true) true n t [v]=some x:=by
 obtain⟨a,l,c,rfl⟩:=okWide_slice ht hval;obtain⟨fuel,hf⟩:=h;exact⟨fuel,_,hf⟩
theorem B8V {k:aU} {w0:Nat} {t:ab} {v:al} {d:DataW H} {p:List MemPlace} (ht:P.underlying t=some (.int k)) (hval:Value.okWide P W .any w0 t v) (h:DataW.Trod enc P W 0 (fun _=>true) true t v d p):∃ a:Int,VD (gW W) (.v (.int k a)) v∧(Lit.int k a).wf=true:=by
 obtain⟨x,rfl,_,_,wx⟩:=open_int ht hval h;exact⟨x,.v _ rfl,wx⟩
theorem CV.agg {cs:Array al} {l:List D} (h:CV W cs.toList (.agg l)):VD (gW W) (.agg l) (.agg cs) :=
 .agg l cs (by have:=h.1;simp[D.cells]at this;omega) fun i d c hd hc=>h.2 i d c hd (by simpa using hc)
theorem B6G {w0:Nat} {t:ab} {fs:Array Field} {v:al} {d:DataW H} {p:List MemPlace} {r:Reach} (hs:P.underlying t=some (.struct fs)) (hval:Value.okWide P W r w0 t v) (h:DataW.Trod enc P W 0 (fun _=>true) true t v d p) :
  ∃ cs:Array al,v = .agg cs∧∃ n x,DataW.trod enc P W 0 (fun _=>true) true n t cs.toList=some x:=by
 obtain⟨cs,rfl,_⟩:=okWide_struct hs hval;obtain⟨fuel,hf⟩:=h;exact⟨cs,rfl,fuel,_,hf⟩
end
end Go.Proofs.YtlaogbbcipebgaaGreat.Sh
namespace Go.Proofs.YtlaogbbcipebgaaGreat.Sh
open Go
section
variable {P:ah} {o:Oper} {fresh:Nat}
theorem B2P {t e:ab} {i ei:TI} {x z:aa} {n s len:Nat} {k:aU} {p:Nat} (hop:o.op = .slice t x none (some z) none) (ht:TOk P t i) (hs:i.sl=some e) (he:TOk P e ei) (hz:ei.size=s) (h1:p≤len) :
  OpS P o [(x,.row n s 0 len),(z,.d (.v (.int k p)))] [] [] fresh [] (.row n s 0 p) :=
 .of_pure (fun c h=>by rw[hop]at h;cases h) fun g a hg hi hr=>by
  have hx:=hi (x,.row n s 0 len) sM;have hz':=(hi (z,.d (.v (.int k p))) sM).v_eq;dsimp only at hx hz';generalize hv:a.eval x=v at hx;cases hx with | row _ _ _ _ A hn hs0 hl ha =>
  subst hz;have hr:=A5f (P:=P) ht hs he (A:=A) (cap:=(g.β n).2-0) (len:=len) (.inr ⟨k,rfl⟩) (.inl ⟨rfl,rfl⟩) (du p) h1 oM g.w;obtain⟨B,hB⟩:∃ B,B=(if(g.β n).2-0=0 then A else A.map (·.add (0*ei.size))):=⟨_,rfl⟩;rw[← hB,aP,aP]at hr;refine⟨.slice B p ((g.β n).2-0),by simp[aT,hop,hv,hz']at hr ⊢;simp[hr],.row n ei.size 0 p B hn hs0 oM fun h0=>?_⟩;rw[hB,if_neg oM,ha h0];simp[Addr.add]
end
section
variable {P:ah} {N:Nat} {ops:Array Oper} {l:List Oper} {ts:LT} {L:LR} {tr:List Stp} {d:Nat} {ty:ab} {pos:String} {af:Array Edge} {gd:Option (Nat × Bool)} {K:List Oper→List Stp→St→Prop}
def B8K (q:Int) (m:Nat):Option Nat:=if 0≤q∧q≤m then some q.toNat else none
theorem A8b {q:Int} {m p:Nat} (h:B8K q m=some p):q=(p:Int)∧p≤m:=by
 unfold B8K at h;split at h
 ·injection h with h;omega
 ·cases h
theorem B6L {t e:ab} {i ei:TI} {x y:aa} {n s len:Nat} {k:aU} {q:Int} {p:Nat} (tb:Tab P) (ht:tb.f t=some i) (hs:i.sl=some e) (he:tb.f e=some ei) (hx:O9 ts x = .row n s 0 len) (hz:ei.size=s) (hy:O9 ts y = .d (.v (.int k q))) (hq:q=(p:Int)) (h1:p≤len) (hw:I2 ops ts ⟨some d,.slice t x none (some y) none,ty,pos,af,gd⟩=some true) (hd:aq d N=true)
  (kk:L3 P N ops l ⟨(d,.row n s 0 p)::ts,L⟩ (tr++[.run [] []]) K):L3 P N ops (⟨some d,.slice t x none (some y) none,ty,pos,af,gd⟩::l) ⟨ts,L⟩ tr K:=by
 subst hq;exact K0 (ins:=[(x,.row n s 0 len),(y,.d (.v (.int k p)))]) rfl (B2P rfl (tb.ok _ _ ht) hs (tb.ok _ _ he) hz h1) hw (by simp[ag,hx,hy]) sM hd kk
theorem B6M {t e:ab} {i ei:TI} {x y:aa} {n s len:Nat} {k:aU} {q:Int} {p:Nat} (tb:Tab P) (ht:tb.f t=some i) (hs:i.sl=some e) (he:tb.f e=some ei) (hx:O9 ts x = .row n s 0 len) (hz:ei.size=s) (hy:O9 ts y = .d (.v (.int k q))) (hq:q=(p:Int)) (h1:p<len) (hw:I2 ops ts ⟨some d,.slice t x (some y) none none,ty,pos,af,gd⟩=some true) (hd:aq d N=true)
  (kk:L3 P N ops l ⟨(d,.row n s p (len-p))::ts,L⟩ (tr++[.run [] []]) K):L3 P N ops (⟨some d,.slice t x (some y) none none,ty,pos,af,gd⟩::l) ⟨ts,L⟩ tr K:=by
 subst hq;exact B9h tb ht hs he hx hz hy h1 hw hd kk
theorem B5v {t e:ab} {i ei:TI} {x y:aa} {n s len:Nat} {k:aU} {q:Int} {p:Nat} (tb:Tab P) (ht:tb.f t=some i) (hs:i.sl=some e) (he:tb.f e=some ei) (hx:O9 ts x = .row n s 0 len) (hz:ei.size=s) (hy:O9 ts y = .d (.v (.int k q))) (hq:q=(p:Int)) (h1:len=p) (hw:I2 ops ts ⟨some d,.slice t x (some y) none none,ty,pos,af,gd⟩=some true) (hd:aq d N=true)
  (kk:L3 P N ops l ⟨(d,.d (.arr s []))::ts,L⟩ (tr++[.run [] []]) K):L3 P N ops (⟨some d,.slice t x (some y) none none,ty,pos,af,gd⟩::l) ⟨ts,L⟩ tr K:=by
 subst hq;exact B8e tb ht hs he hx hz hy h1 hw hd kk
end
def B1D (z:Int):Option Nat:=if 0≤z∧z≤1000000000 then some z.toNat else none
theorem A6i {z:Int} {q:Nat} (h:B1D z=some q):z=(q:Int)∧q≤1000000000:=by
 unfold B1D at h;split at h
 ·injection h with h;omega
 ·cases h
section
variable {P:ah} {N:Nat} {ops:Array Oper} {l:List Oper} {ts:LT} {L:LR} {tr:List Stp} {d:Nat} {ty:ab} {pos:String} {af:Array Edge} {gd:Option (Nat × Bool)} {K:List Oper→List Stp→St→Prop}
theorem B00 {α:Type} {t e:ab} {i:TI} {a0:Bool} {s b0:Nat} {z0:T} {sl0:Option ab} {fs0:List (Nat × Bool × Nat)} {ar0:Option (Nat × ab)} {nf0:Bool} {x y:aa} {k k':aU} {z:Int} {q:Nat} {n:Nat} {nr:List Nat} {v:α} {g:α→D} (tb:Tab P) (ht:tb.f t=some i) (hsl:i.sl=some e) (he:tb.f e=some ⟨a0,s,b0,z0,sl0,fs0,ar0,nf0⟩) (h0:aJ s 0=false) (hv:z0 = .d (g v))
  (hx:O9 ts x = .d (.v (.int k z))) (hy:O9 ts y = .d (.v (.int k' z))) (hz:z=(q:Int)) (hq:q≤1000000000) (hb:bL b0 65536=true) (hn:A4f.drop L.length=n::nr) (hw:I2 ops ts ⟨some d,.makeSlice t x y,ty,pos,af,gd⟩=some true) (hd:aq d N=true)
  (kk:L3 P N ops l ⟨(d,.row n s 0 (ak q v).length)::ts,L++[some ⟨s,(ak q v).map fun a => .d (g a)⟩]⟩ (tr++[.run [n] [n]]) K):L3 P N ops (⟨some d,.makeSlice t x y,ty,pos,af,gd⟩::l) ⟨ts,L⟩ tr K:=by
 subst hz hv;have hb':=bg hb;refine B9Z tb ht hsl he h0 hx hy oM (bN (eg hb' hq) dM) hn hw hd ?_;rw[aL,eu]at kk;exact kk
end
section
variable {P:ah} {n0 N:Nat} {Q:SX→St→Prop} {st:St}
theorem SWM.own {c:Code} {ts ts':LT} {L L':LR} (s:Nat) (hs:aJ s 0=false) {m:Nat} {nr:List Nat} (hm:A4f.drop L.length=m::nr) (hts:B21 m s ts ts') (hL:A92 m s L L') (h:SWM P n0 N c Q ⟨ts',L'++[some ⟨s,[]⟩]⟩):SWM P n0 N c Q ⟨ts,L⟩ :=
 SWM.seen (fun _ _ _ hR=>A9g n0 s hs hm hts hL hR) h
theorem SWM.fz {c:Code} {ts ts':LT} {L L':LR} {α:Type} {w:List α} {f:α→D} (n s:Nat) (hn0:L[n]?=some (some ⟨s,w.map fun a => .d (f a)⟩)) (hts:FzS n s (w.map f) ts ts') (hL:FzR n s (w.map f) (L.set n none) L') (h:SWM P n0 N c Q ⟨ts',L'⟩):SWM P n0 N c Q ⟨ts,L⟩ :=
 SWM.seen (fun _ _ _ hR=>C0l n0 n s hn0 hts hL hR) h
theorem B70 {df:List bp} {ops:Array Oper} {l:List Oper} {st st2:St} {tr:List Stp} (h:Ev P N ops l st tr st2) {F:Fence} {nn:Nat} (hF:Wd F) {R:Exit→Act→aO→Prop} {l2:List Oper} :
 ∀ {g:G},(∀ g' a',Le g g'→StR g' N st2 a' df→wpListIn F nn P ops R l2 a' g'.w)→∀ a,StR g N st a df→wpListIn F nn P ops R (l++l2) a g.w:=by
 induction h with
 | nil st=>intro g k a hR;exact k g a (.refl g) hR
 | cons hs _ ih=>intro g k a hR;exact hs.soundL hF hR fun g' a' h3 h4=>ih (fun g'' a'' h5 h6=>k g'' a'' (h3.trans h5) h6) a' h4
theorem C0i {id:Nat} {l:List Oper} (h:L3 P N l.toArray l st [] (B7x P n0 N [] l.toArray Q)):SWY P n0 N (.region id l.toArray false) Q st:=fun F nn hF g a hR=>by
 obtain⟨l1,l2,tr,st',e,h1,(⟨rfl,h2⟩ | ⟨o,r,rfl,hw,h2⟩)⟩:=h
 ·refine A6M (B8u (Q:=fun ex a' w'=>ex = .normal∧∃ g',g'.w=w'∧LeN n0 g g'∧StR g' N st' a' []) (wpIn_region_lit ?_) (fun ch a w h=>by cases h.1)) ?_
  ·have:=B70 (nn:=nn) h1 hF (R:=fun ex a' w'=>ex = .normal∧∃ g',g'.w=w'∧LeN n0 g g'∧StR g' N st' a' []) (l2:=[]) (g:=g) (fun g' a' k1 k2=>⟨rfl,g',rfl,k1.toN n0,k2⟩) a hR;rw[← e]at this;exact this
  ·rintro ex a' w' ⟨rfl,g',rfl,k1,k2⟩;exact⟨g',.norm,st',rfl,k1,k2,trivial,h2⟩
 ·refine A6M (B9p (Q:=fun ch a' w'=>∃ g' v t st',g'.w=w'∧LeN n0 g g'∧StR g' N st' a' []∧ch=[{ v,recovered:=false }]∧VT g' t v∧Q (.pan t) st') ?_) ?_
  ·have:=B70 h1 hF (R:=A8e fun ch a' w'=>∃ g' v t st',g'.w=w'∧LeN n0 g g'∧StR g' N st' a' []∧ch=[{ v,recovered:=false }]∧VT g' t v∧Q (.pan t) st') (l2:=o::r) (g:=g) (fun g1 a' k1 k2=>by
    unfold wpListIn;rw[A0W hw fun d _=>k2.ts d];simp only[if_true];exact h2 F nn hF g1 a' k2 _ _ fun g' v t st' e1 e2 e3 e4=>⟨g',v,t,st',rfl,(k1.toN n0).trans e1,e2,rfl,e3,e4⟩) a hR
   rw[← e]at this;exact this
  ·rintro ex a' w' k;cases ex<;>first | exact k.elim | skip
   obtain⟨g',v,t,st',rfl,k1,k2,rfl,k3,k4⟩:=k;exact⟨g',.pan t,st',rfl,k1,k2,⟨v,rfl,k3⟩,k4⟩
end
theorem A9W.str {P:ah} {kt:ab} (h:P.underlying kt=some .string):A9W P kt (fun a:ByteArray => .string a) where
 desc:=⟨_,h,fun a b=>by simp[Instr.sameNow]⟩
 check e a w:=MapKept.run_checkKey (k := .string a) h (show MapKept.IsKey .string (.string a)from trivial) e 9999
 bits a b hab:=by
  have:a=b:=(MapKept.bytes_beq a b).1 hab;subst this;simp only[Instr.sameBits];exact hab
section
variable {P:ah} {N:Nat} {ops:Array Oper} {l:List Oper} {ts:LT} {L:LR} {tr:List Stp} {K:List Oper→List Stp→St→Prop} {d:Nat} {ty:ab} {pos:String} {af:Array Edge} {gd:Option (Nat × Bool)}
theorem B5U {t e kt:ab} {ei:TI} {x y:aa} {n:Nat} {β:Type} {vf:β→D} {m:List (ByteArray × β)} {k:ByteArray} {z0:β} {u:D} (tb:Tab P) (ht:P.underlying t=some (.map kt e)) (hk:P.underlying kt=some .string) (he:tb.f e=some ei) (hx:O9 ts x = .mp n) (hy:O9 ts y = .d (.v (.string k))) (hr:L[n]?=some (some ⟨0,m.map fun p => .agg [.d (.v (.string p.1)),.d (vf p.2)]⟩)) (hz:ei.z = .d (vf z0)) (hu:vf ((A2e m k).getD z0)=u)
  (hw:I2 ops ts ⟨some d,.lookup t x y false,ty,pos,af,gd⟩=some true) (hd:aq d N=true)
  (kk:L3 P N ops l ⟨(d,.d u)::ts,L⟩ (tr++[.run [n] []]) K) :
  L3 P N ops (⟨some d,.lookup t x y false,ty,pos,af,gd⟩::l) ⟨ts,L⟩ tr K:=by
 subst hu;exact K0 (ins:=[(x,.mp n),(y,.d (.v (.string k)))]) (rn:=[(n,A7d (fun a:ByteArray => .string a) vf m)]) rfl (B3V rfl ht (tb.ok _ _ he) (.str hk) hz) hw (by simp[ag,hx,hy]) (by simp[hr,A7d]) hd kk
theorem B01 {t e kt:ab} {x y z:aa} {n:Nat} {β:Type} {vf:β→D} {m q:List (ByteArray × β)} {k:ByteArray} {v:β} (L':LR) (ht:P.underlying t=some (.map kt e)) (hk:P.underlying kt=some .string) (hx:O9 ts x = .mp n) (hy:O9 ts y = .d (.v (.string k))) (hz:O9 ts z = .d (vf v)) (hr:L[n]?=some (some ⟨0,m.map fun p => .agg [.d (.v (.string p.1)),.d (vf p.2)]⟩)) (hq:M0 m k v=q) (hL:L.set n (some ⟨0,q.map fun p => .agg [.d (.v (.string p.1)),.d (vf p.2)]⟩)=L')
  (hw:I2 ops ts ⟨none,.mapUpdate t x y z,ty,pos,af,gd⟩=some true)
  (kk:L3 P N ops l ⟨ts,L'⟩ (tr++[.run [n] [n]]) K) :
  L3 P N ops (⟨none,.mapUpdate t x y z,ty,pos,af,gd⟩::l) ⟨ts,L⟩ tr K:=by
 subst hq hL;refine A2i (.run hw (B0X (kv:=fun a:ByteArray => .string a) (vf:=vf) (m:=m) (k:=k) (v:=v) (n:=n) (fresh:=L.length) (.inl rfl) ht (.str hk)) ?_ ?_ ?_ rfl) ?_
 ·intro p hp;simp only[ap,ay,or_false]at hp;rcases hp with rfl | rfl | rfl
  ·exact⟨hx,by simp[ag]⟩
  ·exact⟨hy,by simp[ag]⟩
  ·exact⟨hz,by simp[ag]⟩
 ·intro p hp;simp only[ap,ay,or_false]at hp;subst hp;exact hr
 ·intro p hp;simp only[ap,ay,or_false]at hp;subst hp;exact⟨_,bD.2 rfl,rfl⟩
 ·simpa[St.eff,A5m,A4m,A7d]using kk
theorem B7O {P:ah} {o:Oper} {fresh:Nat} {t e:ab} {i ei:TI} {x y:aa} {cl:List D} {m:Nat} {k:aU} {q:Nat} (hop:o.op = .index t x y) (ht:TOk P t i) (hs:i.ar=some (m,e)) (he:TOk P e ei) (hq:q<m) (hp:A2S ei (cl.map T.d).length (q*ei.size)=true) :
  OpS P o [(x,.d (.agg cl)),(y,.d (.v (.int k q)))] [] [] fresh [] (A29 ei (cl.map T.d) (q*ei.size)):=by
 intro F nn hF g a hg hi hr hM next Q hk
 refine B5c (cl:=cl.map T.d) (k:=k) hop ht hs he hq hp F nn hF g a hg (fun p h=>?_) hr hM next Q hk
 ·simp only[ap,ay,or_false]at h;rcases h with rfl | rfl
  ·have hx:=hi (x,.d (.agg cl)) sM;dsimp only at hx ⊢;generalize a.eval x=v at hx ⊢;cases hx with | d hx =>
   cases hx with | agg _ cs hl h =>
   refine .agg _ _ (by simpa using hl) fun i d c hd hc=>?_;simp only[gM,an]at hd;obtain⟨d',hd',rfl⟩:=hd;exact .d (h i d' c hd' hc)
  ·exact hi (y,.d (.v (.int k q))) sM
theorem A9p {t e:ab} {i ei:TI} {x y:aa} {cl:List D} {m:Nat} {k:aU} {z:Int} (q:Nat) (u:T) (tb:Tab P) (ht:tb.f t=some i) (hs:i.ar=some (m,e)) (he:tb.f e=some ei) (hx:O9 ts x = .d (.agg cl)) (hy:O9 ts y = .d (.v (.int k z))) (hz:z=(q:Int)) (hq:aq q m=true) (hp:A2S ei (cl.map T.d).length (q*ei.size)=true) (hv:A29 ei (cl.map T.d) (q*ei.size)=u)
  (hw:I2 ops ts ⟨some d,.index t x y,ty,pos,af,gd⟩=some true) (hd:aq d N=true) (kk:L3 P N ops l ⟨(d,u)::ts,L⟩ (tr++[.run [] []]) K):L3 P N ops (⟨some d,.index t x y,ty,pos,af,gd⟩::l) ⟨ts,L⟩ tr K:=by
 subst hz hv;exact K0 (ins:=[(x,.d (.agg cl)),(y,.d (.v (.int k q)))]) (rn:=[]) rfl (B7O rfl (tb.ok _ _ ht) hs (tb.ok _ _ he) (by simpa[bG]using hq) hp) hw (by simp[ag,hx,hy]) sM hd kk
theorem C07 {P:ah} {o:Oper} {fresh:Nat} {x:aa} {a b t:ab} {c:al} (hop:o.op = .typeAssert x a b false) (hta:∀ w:aO,(Instr.typeAssert (.iface t c) a b false).run P w = .ok c w) (hc:one c):OpS P o [(x,.d (.v (.iface t c)))] [] [] fresh [] (.d (.v c)) :=
 .of_pure (fun c h=>by rw[hop]at h;cases h) fun g a _ hi _=>⟨c,by
  have e1:=(hi (x,.d (.v (.iface t c))) sM).v_eq;dsimp only at e1;simp[aT,hop,e1,hta],.d (.v _ hc)⟩
theorem B5V {x:aa} {a b t:ab} {c:al} (hx:O9 ts x = .d (.v (.iface t c))) (hta:∀ w:aO,(Instr.typeAssert (.iface t c) a b false).run P w = .ok c w) (hc:one c) (hw:I2 ops ts ⟨some d,.typeAssert x a b false,ty,pos,af,gd⟩=some true) (hd:aq d N=true)
  (kk:L3 P N ops l ⟨(d,.d (.v c))::ts,L⟩ (tr++[.run [] []]) K) :
  L3 P N ops (⟨some d,.typeAssert x a b false,ty,pos,af,gd⟩::l) ⟨ts,L⟩ tr K :=
 K0 (ins:=[(x,.d (.v (.iface t c)))]) (rn:=[]) rfl (C07 rfl hta hc) hw (by simp[ag,hx]) sM hd kk
end
structure DfK (P:ah) (fd:bm) (c2:Code) (N2 m:Nat) (tyE:ab):Prop where
 idle:∀ (ds:Array al) (w:aO),ds.size=m→CallsDIn aY 0 P fd ds .returning w fun e u' w'=>e = .returned (.tuple #[])∧u' = .returning∧w'=w
 caught:∀ (ds:Array al) (v:al) (older:List PanicEntry) (w:aO) (R:aO→Prop),ds.size=m→(∃ c,v = .iface tyE c)→(∀ a:Act,a.defers=[]→a.tmps.size=N2→(∀ i,i<m→a.tmps.getD i undef=ds.getD i undef)→a.tmps.getD m undef=v→c2.wpIn aY 0 P (fun ex a' w'=>ex = .normal∧a'.defers=[]∧R w') a w) →
  CallsDIn aY 0 P fd ds (.panicking ({ v,recovered:=false }::older)) w fun e u' w'=>e = .returned (.tuple #[])∧u' = .panicking ({ v,recovered:=true }::older)∧R w'
def A8Q:Nat→List T→LT
 | _,[]=>[]
 | i,t::l=>(i,t)::A8Q (i+1) l
theorem B37:∀ {l:List T} {i j:Nat},W8 (A8Q i l) j=if i≤j then l.getD (j-i) .bot else .bot
 | [],i,j=>by simp[A8Q,W8]
 | t::l,i,j=>by
  simp only[A8Q,W8];cases hb:aJ j i with
  | true =>
   have:=aA hb;subst this;simp
  | false =>
   have hne:j≠i:=fun e=>by subst e;rw[Nat.beq_refl]at hb;cases hb
   simp only[cond_false];rw[B37];by_cases h1:i+1≤j
   ·rw[if_pos h1,if_pos oM];obtain⟨k,rfl⟩:∃ k,j=i+1+k:=⟨j-(i+1),by omega⟩;rw[show i+1+k-(i+1)=k by omega,show i+1+k-i=k+1 by omega];simp
   ·rw[if_neg h1,if_neg oM]
def QK (P:ah) (fn:Func) (n0:Nat) (R:SE→LR→Prop) (tyE:ab) (c2:Code) (N2 n1:Nat) (caps:List T):SX→St→Prop
 | .ret,st | .norm,st=>Fin P fn n0 R .ret st
 | .pan t,st=>∃ E st1 κ,t = .d (.v (.iface tyE E))∧Vw n1 st st1 κ∧SW P st1.L.length N2 [] c2 (fun sx st2=>sx = .norm∧Fin P fn n0 R .ret ⟨st1.ts,st2.L⟩) ⟨A8Q 0 (caps++[t]),st1.L⟩
 | _,_=>False
theorem B7Y {P:ah} {fn:Func} {n0:Nat} {R:SE→LR→Prop} {tyE:ab} {c2:Code} {N2 n1:Nat} {caps:List T} {st:St} (h:Fin P fn n0 R .ret st):QK P fn n0 R tyE c2 N2 n1 caps .ret st:=h
def C0Y (P:ah) (fn:Func) (n0:Nat) (R:SE→LR→Prop) (N:Nat) (tyE:ab) (fd:bm) (c2:Code) (N2 m:Nat) (rest:Code) (ops:Array Oper):List Oper→List Stp→St→Prop:=fun l2 _ st' =>
 ∃ d caps ty pos af,l2=[⟨none,.defer { callee := .value (.tmp d),args:=#[],argTypes:=#[] },ty,pos,af,none⟩]∧W8 st'.ts d = .fn (.func fd) [] caps∧caps.length=m∧scL st'.L.length caps=true∧∀ df,SW P st'.L.length N df rest (QK P fn n0 R tyE c2 N2 st'.L.length caps) st'
section
variable {P:ah} {fn:Func} {n0 N:Nat} {R:SE→LR→Prop} {st:St}
theorem B2t {tyE:ab} {fd:bm} {fn2:Func} {x1 x2:Code} {o2:aa} {c2:Code} {N2 m id:Nat} {l:List Oper} {rest:Code} (hb:fn2.body=some (.seq x1 (.seq x2 (.cond o2 c2 .skip)))) (hd:fn2.body=some (.seq x1 (.seq x2 (.cond o2 c2 .skip)))→DfK P fd c2 N2 m tyE) (hm:m<N2) (he:Ent P fd) (h:L3 P N l.toArray l st [] (C0Y P fn n0 R N tyE fd c2 N2 m rest l.toArray)):SWD P fn n0 R N (.seq (.region id l.toArray false) rest) st:=fun g0 g a hM hl hR=>by
 obtain⟨l1,l2,tr,st',rfl,h1,d,caps,ty,pos,af,rfl,h2,hcl,hcs,h3⟩:=h;refine wpIn_seq (wpIn_region_lit ?_);generalize hops:(l1++[(⟨none,.defer { callee := .value (.tmp d),args:=#[],argTypes:=#[] },ty,pos,af,none⟩:Oper)]).toArray=ops at h1;refine B70 h1 Wd.wide (g:=g) (fun g1 a hl1 hR1=>?_) a hR;unfold wpListIn;rw[A0W (show I2 ops st'.ts ⟨none,.defer { callee := .value (.tmp d),args:=#[],argTypes:=#[] },ty,pos,af,none⟩=some true from rfl) fun d _=>hR1.ts d];simp only[if_true];refine⟨fun f _=>trivial,?_⟩;have hv:=hR1.ts d;rw[h2]at hv;obtain⟨cs,ds,hc,hfi,hca⟩:=A8P hv (.inr rfl);have hcs0:cs=#[]:=by have:=hfi.1;simp at this;exact dX.1 this.symm
 subst hcs0;have hds:ds.size=m:=by rw[← hcl];simpa using hca.1.symm
 have hev:a.eval (.tmp d) = .func (.func fd) #[] ds:=hc;have hrun:(Oper.semAt Fence.wide.round a.eval ⟨none,.defer { callee := .value (.tmp d),args:=#[],argTypes:=#[] },ty,pos,af,none⟩).run P g1.w = .ok (.defer { target := .fn (.func fd) ds,args:=#[] }) g1.w:=by
  have e0:Fence.wide.round=none:=rfl;rw[e0,Oper.semAt_none];simp[aT,resolve,hev,Deferred.ofValue]
 rw[hrun,Oper.uponIn_defer];unfold wpListIn;show rest.wpIn aY 0 P (C0x fn P g0 R) _ g1.w;have hR2:StR g1 N st' ({ a with defers:={ target := .fn (.func fd) ds,args:=#[] }::a.defers }.put none undef) [{ target := .fn (.func fd) ds,args:=#[] }]:=⟨hR1.good,hR1.M,hR1.size,hR1.ts,by show _::a.defers=_;rw[hR1.df]⟩;refine aW (h3 _ aY 0 Wd.wide g1 _ hR2) ?_;rintro ex a' w' ⟨g',sx,st2,rfl,q2,q3,q4,q5⟩;have hle1:Le g1 g':=q2.toLe hR1.M (aw _);have hlg:LeN n0 g0 g':=hl.trans ((hl1.trans hle1).toN n0);have ok:Fin P fn n0 R .ret st2→LeavesIn aY 0 P fn a'.tmps (fun e w'=>∃ g' se L',g'.w=w'∧P6 g'∧Le g0 g'∧g'.M=ofL L'∧SER g' se e∧R se L') a'.defers .returning g'.w:=fun hf=>by
  rw[q3.df];refine leavesIn_cons (f:=fd) (args:=ds) (by intro h;cases h) (by intro h;cases h) (by simp[invoke,go_sem,he _ _]) (fun _ _=>trivial) ?_;refine((hd hb).idle ds g'.w hds).mono ?_;rintro e u' w'' ⟨rfl,rfl,rfl⟩;exact B5D hM hlg q3 hf
 cases sx with
 | norm=>cases ex<;>first | exact q4.elim | exact ok q5
 | ret=>cases ex<;>first | exact q4.elim | exact ok q5
 | exit i=>exact q5.elim
 | pan t =>
  cases ex<;>first | exact q4.elim | skip
  obtain⟨v,rfl,hv'⟩:=q4;obtain⟨E,st1,κ,rfl,hvw,hf⟩:=q5;have hve:=hv'.v_eq;have h1:one v:=by cases hv' with | d h=>cases h with | v _ h=>exact h
  have hv':∀ g:G,VT g (.d (.v (.iface tyE E))) v:=fun g=>by subst hve;exact .d (.v _ h1)
  clear ok hle1 hlg;have hdf:=q3.df;obtain⟨g'',hw'',hl'',q3⟩:=hvw.see q3;rw[← hw''];clear hw'';have q2:=q2.trans hl'';clear hl'';generalize g''=g' at q2 q3;have hle1:Le g1 g':=q2.toLe hR1.M (aw _);have hlg:LeN n0 g0 g':=hl.trans ((hl1.trans hle1).toN n0);show LeavesIn aY 0 P fn a'.tmps _ a'.defers (.panicking _) g'.w;rw[q3.df];refine leavesIn_cons (f:=fd) (args:=ds) (by intro h;cases h) (by intro h;cases h) (by simp[invoke,go_sem,he _ _]) (fun _ _=>trivial) ?_;refine((hd hb).caught ds v [] g'.w (fun w'=>∃ v,(results fn a'.tmps).run P w' = .ok v w'∧∃ g' se L',g'.w=w'∧P6 g'∧Le g0 g'∧g'.M=ofL L'∧SER g' se (.returned v)∧R se L') hds ⟨E,hve⟩ fun b hb1 hb2 hb3 hb4=>?_).mono ?_
  ·have hcap:∀ i,VT g' (W8 (A8Q 0 (caps++[.d (.v (.iface tyE E))])) i) (b.tmps.getD i undef):=fun i=>by
    rw[B37,if_pos (du i),aP,am];by_cases hi:i<m
    ·rw[aC oM,hb3 i hi];have h5:caps[i]?=some (caps[i]'oM):=gE _;have h6:ds.toList[i]?=some (ds.toList[i]'(by simp;omega)):=gE _;have:=(hca.2 i _ _ h5 h6).mono hR1.good hle1;rw[h5,aR];simpa[bH,hds,hi]using this
    ·rw[aG oM];by_cases hi2:i=m
     ·subst hi2;rw[hb4,hcl,cJ];exact hv' _
     ·rw[show([T.d (.v (.iface tyE E))]:List T)[i-caps.length]?=none from aD (by simp;omega)];exact .bot _
   refine aW (hf aY 0 Wd.wide g' b ⟨q3.good,q3.M,hb2,hcap,hb1⟩) ?_;rintro ex a2 w2 ⟨g2,sx,st3,rfl,r2,r3,r4,rfl,r5⟩;cases ex<;>first | exact r4.elim | skip
   have hle2:Le g' g2:=r2.toLe q3.M (aw _);refine⟨rfl,r3.df,?_⟩;have hR3:StR g2 N ⟨st1.ts,st3.L⟩ a' [{ target := .fn (.func fd) ds,args:=#[] }]:=⟨r3.good,r3.M,q3.size,fun i=>(q3.ts i).mono q3.good hle2,q3.df⟩;exact B5D hM (hlg.trans (hle2.toN n0)) hR3 r5
  ·rintro e u' w'' ⟨rfl,rfl,hR⟩;exact hR
end
def SCB {α:Type} (P:ah) (f:bm) (as:List T) (L:LR) (x:Except Int α) (t:α→T) (L1:α→LR) (t2:Int→T) (L2:LR):Prop :=
 SC P f as L fun se X=>(∃ a,x = .ok a∧se = .ret (t a)∧X=L1 a)∨∃ e,x = .error e∧se = .ret (t2 e)∧X=L2
theorem SCB.ok {α:Type} {P:ah} {f:bm} {as:List T} {L:LR} {x:Except Int α} {t:α→T} {L1:α→LR} {t2:Int→T} {L2:LR} (h:SCB P f as L x t L1 t2 L2) {a:α} (hn:x = .ok a):SCR P f as L (t a) (L1 a):=SC.mono h fun se X hX=>by
 rcases hX with⟨b,h1,h2,h3⟩ | ⟨e,h1,_⟩
 ·rw[hn]at h1;injection h1 with h1;subst h1;exact⟨h2,h3⟩
 ·rw[hn]at h1;cases h1
theorem SCB.err {α:Type} {P:ah} {f:bm} {as:List T} {L:LR} {x:Except Int α} {t:α→T} {L1:α→LR} {t2:Int→T} {L2:LR} (h:SCB P f as L x t L1 t2 L2) {e:Int} (hn:x = .error e):SCR P f as L (t2 e) L2:=SC.mono h fun se X hX=>by
 rcases hX with⟨b,h1,_⟩ | ⟨b,h1,h2⟩
 ·rw[hn]at h1;cases h1
 ·rw[hn]at h1;injection h1 with h1;subst h1;exact h2
def lnO (a b:Nat):Option Unit:=if a=b then some ()else none
theorem C4B {a b:Nat} {u:Unit} (h:lnO a b=some u):a=b:=by
 unfold lnO at h;split at h
 ·assumption
 ·cases h
section
variable {P:ah} {n0 N:Nat} {df:List bp} {Q:SX→St→Prop} {st:St} {x y:Code}
def A33 (n0 N:Nat) (st st':St):Prop:=∀ (g:G) (a:Act) (df:List bp),StR g N st a df→∃ g',g'.w=g.w∧LeN n0 g g'∧StR g' N st' a df
theorem A33.refl (n0 N:Nat) (st:St):A33 n0 N st st:=fun g _ _ h=>⟨g,rfl,.refl n0 g,h⟩
theorem A33.trans {n0 N:Nat} {a b c:St} (h:A33 n0 N a b) (k:A33 n0 N b c):A33 n0 N a c:=fun g x df hR=>by
 obtain⟨g1,h1,h2,h3⟩:=h g x df hR;obtain⟨g2,k1,k2,k3⟩:=k g1 x df h3;exact⟨g2,k1.trans h1,h2.trans k2,k3⟩
theorem A33.own {n0 N:Nat} {ts ts':LT} {L L':LR} {st':St} (s:Nat) (hs:aJ s 0=false) {m:Nat} {nr:List Nat} (hm:A4f.drop L.length=m::nr) (hts:B21 m s ts ts') (hL:A92 m s L L') (k:A33 n0 N ⟨ts',L'++[some ⟨s,[]⟩]⟩ st'):A33 n0 N ⟨ts,L⟩ st' :=
 A33.trans (fun _ _ _ hR=>A9g n0 s hs hm hts hL hR) k
theorem A33.vw {n0 N:Nat} {st st':St} {κ:List Nat} (h:Vw n0 st st' κ):A33 n0 N st st':=fun _ _ _ hR=>h.see hR
def prn (l:List Nat) (ts:LT):LT:=l.map fun i=>(i,W8 ts i)
theorem B9b (l:List Nat) (ts:LT) (i:Nat):W8 (prn l ts) i=W8 ts i∨W8 (prn l ts) i = .bot:=by
 induction l with
 | nil=>exact .inr rfl
 | cons j l ih =>
  simp only[prn,bw,W8];cases hb:aJ i j with
  | true=>have:=aA hb;subst this;exact .inl rfl
  | false=>exact ih
theorem A33.prn {n0 N:Nat} {st st':St} (l:List Nat) (h:st'=⟨Sh.prn l st.ts,st.L⟩):A33 n0 N st st':=fun g a df hR=>by
 subst h;refine⟨g,rfl,.refl n0 g,hR.good,hR.M,hR.size,fun i=>?_,hR.df⟩;rcases B9b l st.ts i with e | e
 ·dsimp only;rw[e];exact hR.ts i
 ·dsimp only;rw[e];exact .bot _
def jnQ {β:Type} (n0 N:Nat) (A:β→Prop) (S:β→St):St→Prop:=fun st=>∃ b,A b∧A33 n0 N st (S b)
theorem W5 {β:Type} (A:β→Prop) (S:β→St) (hI:∀ b,A b→SW P n0 N df y Q (S b)) (h:SW P n0 N df x (A5w (fun st=>jnQ n0 N A S st∨SW P n0 N df y Q st) Q) st):SW P n0 N df x (A5w (SW P n0 N df y Q) Q) st :=
 h.mono fun sx st h=>by
  cases sx<;>first | exact h | skip
  rcases h with⟨b,h1,h2⟩ | h
  ·exact SW.seen (fun _ _ hR=>h2 _ _ _ hR) (hI b h1)
  ·exact h
theorem SWM.mono {Q':SX→St→Prop} (h:SWM P n0 N x Q st) (k:∀ sx st,Q sx st→Q' sx st):SWM P n0 N x Q' st:=fun nn db g a df hR hd =>
 aW (h nn db g a df hR hd) fun _ _ _ ⟨g',sx,st',df',h1,h2,h3,h4,h5,h6⟩=>⟨g',sx,st',df',h1,h2,h3,h4,h5,k _ _ h6⟩
theorem A5V {β:Type} (A:β→Prop) (S:β→St) (hI:∀ b,A b→SWM P n0 N y Q (S b)) (h:SWM P n0 N x (A5w (fun st=>jnQ n0 N A S st∨SWM P n0 N y Q st) Q) st):SWM P n0 N x (A5w (SWM P n0 N y Q) Q) st :=
 h.mono fun sx st h=>by
  cases sx<;>first | exact h | skip
  rcases h with⟨b,h1,h2⟩ | h
  ·exact SWM.seen (fun _ _ _ hR=>h2 _ _ _ hR) (hI b h1)
  ·exact h
theorem SWY.seen {st':St} (hv:A33 n0 N st st') (h:SWY P n0 N x Q st'):SWY P n0 N x Q st:=fun F nn hF g a hR=>by
 obtain⟨g1,hw,hl,hR1⟩:=hv _ _ _ hR;have:=h F nn hF g1 a hR1;rw[hw]at this;exact A6M this fun _ _ _ ⟨g',sx,st',h1,h2,h3,h4,h5⟩=>⟨g',sx,st',h1,hl.trans h2,h3,h4,h5⟩
theorem B04 {c:Code} (hp:∀ t st,¬ Q (.pan t) st) (h:SW P n0 N df c (fun sx st=>∃ st',A33 n0 N st st'∧Q sx st') st):SW P n0 N df c Q st:=fun F nn hF g a hR=>by
 refine aW (h F nn hF g a hR) ?_;rintro ex a' w' ⟨g',sx,st',rfl,h2,h3,h4,st2,h5,h6⟩;obtain⟨g2,k1,k2,k3⟩:=h5 g' a' _ h3;refine⟨g2,sx,st2,k1,h2.trans k2,k3,?_,h6⟩;cases sx<;>cases ex<;>first | exact h4 | exact h4.elim | skip
 exact absurd h6 (hp _ _)
theorem M2 {c:Code} (I:Nat→St→Prop) {m:Nat} {st0:St} (hv:A33 n0 N st st0) (h0:I m st0)
  (h:∀ m st,I m st→SW P n0 N df c (A5w (fun st'=>∃ m' st'',m'<m∧A33 n0 N st' st''∧I m' st'') Q) st):SW P n0 N df (.loop c) Q st:=by
 refine SW.seen (fun _ _ hR=>hv _ _ _ hR) ?_;intro F nn hF g a hR
 let Pm:Nat→Act→aO→Prop:=fun m a' w'=>∃ g' st',g'.w=w'∧LeN n0 g g'∧StR g' N st' a' df∧I m st'
 have hex:∃ pick:Act→aO→Nat,∀ a' w',(∃ m,Pm m a' w')→Pm (pick a' w') a' w'∧∀ k,Pm k a' w'→pick a' w'≤k:=by
  have h1:∀ p:Act × aO,∃ m,(∃ m,Pm m p.1 p.2)→Pm m p.1 p.2∧∀ k,Pm k p.1 p.2→m≤k:=fun p=>by
   by_cases h:∃ m,Pm m p.1 p.2
   ·obtain⟨m,hm⟩:=least h;exact⟨m,fun _=>hm⟩
   ·exact⟨0,fun h'=>absurd h' h⟩
  exact⟨fun a' w'=>Classical.choose (h1 (a',w')),fun a' w'=>Classical.choose_spec (h1 (a',w'))⟩
 obtain⟨pick,hpick⟩:=hex;refine wpIn_loop (fun a' w'=>∃ m,Pm m a' w') pick ⟨m,g,st0,rfl,.refl n0 g,hR,h0⟩ fun a' w' hI=>?_;obtain⟨⟨g1,st1,rfl,hl1,hR1,hI1⟩,_⟩:=hpick a' w' hI;refine aW (h _ st1 hI1 F nn hF g1 a' hR1) ?_;rintro ex a2 w2 ⟨g2,sx,st2,rfl,k2,k3,k4,k5⟩;cases sx with
 | norm =>
  cases ex<;>first | exact k4.elim | skip
  obtain⟨m',st3,hlt,hv3,hI2⟩:=k5;obtain⟨g3,hw3,hl3,hR3⟩:=hv3 _ _ _ k3;have hP:Pm m' a2 g2.w:=⟨g3,st3,hw3,(hl1.trans k2).trans hl3,hR3,hI2⟩;have hex:∃ m,Pm m a2 g2.w:=⟨m',hP⟩;exact⟨hex,dw ((hpick a2 g2.w hex).2 m' hP) hlt⟩
 | ret=>cases ex<;>first | exact k4.elim | exact⟨g2,_,st2,rfl,hl1.trans k2,k3,k4,k5⟩
 | exit i=>cases ex<;>first | exact k4.elim | exact⟨g2,_,st2,rfl,hl1.trans k2,k3,k4,k5⟩
 | pan t=>cases ex<;>first | exact k4.elim | exact⟨g2,_,st2,rfl,hl1.trans k2,k3,k4,k5⟩
theorem B6S {c:Code} (I:Nat→St→Prop) {m:Nat} {st0:St} (hv:A33 n0 N st st0) (h0:I m st0)
  (h:∀ m st,I m st→SWM P n0 N c (A5w (fun st'=>∃ m' st'',m'<m∧A33 n0 N st' st''∧I m' st'') Q) st):SWM P n0 N (.loop c) Q st:=by
 refine SWM.seen (fun _ _ _ hR=>hv _ _ _ hR) ?_;intro nn db g a df hR hd
 let Pm:Nat→Act→aO→Prop:=fun m a' w'=>∃ g' st' df',g'.w=w'∧LeN n0 g g'∧StR g' N st' a' df'∧A72 db g' df'∧I m st'
 have hex:∃ pick:Act→aO→Nat,∀ a' w',(∃ m,Pm m a' w')→Pm (pick a' w') a' w'∧∀ k,Pm k a' w'→pick a' w'≤k:=by
  have h1:∀ p:Act × aO,∃ m,(∃ m,Pm m p.1 p.2)→Pm m p.1 p.2∧∀ k,Pm k p.1 p.2→m≤k:=fun p=>by
   by_cases h:∃ m,Pm m p.1 p.2
   ·obtain⟨m,hm⟩:=least h;exact⟨m,fun _=>hm⟩
   ·exact⟨0,fun h'=>absurd h' h⟩
  exact⟨fun a' w'=>Classical.choose (h1 (a',w')),fun a' w'=>Classical.choose_spec (h1 (a',w'))⟩
 obtain⟨pick,hpick⟩:=hex;refine wpIn_loop (fun a' w'=>∃ m,Pm m a' w') pick ⟨m,g,st0,df,rfl,.refl n0 g,hR,hd,h0⟩ fun a' w' hI=>?_;obtain⟨⟨g1,st1,df1,rfl,hl1,hR1,hd1,hI1⟩,_⟩:=hpick a' w' hI;refine aW (h _ st1 hI1 nn db g1 a' df1 hR1 hd1) ?_;rintro ex a2 w2 ⟨g2,sx,st2,df2,rfl,k2,k3,k3',k4,k5⟩;cases sx with
 | norm =>
  cases ex<;>first | exact k4.elim | skip
  obtain⟨m',st3,hlt,hv3,hI2⟩:=k5;obtain⟨g3,hw3,hl3,hR3⟩:=hv3 _ _ _ k3;have hP:Pm m' a2 g2.w:=⟨g3,st3,df2,hw3,(hl1.trans k2).trans hl3,hR3,k3'.stepN k3.good hl3,hI2⟩;have hex:∃ m,Pm m a2 g2.w:=⟨m',hP⟩;exact⟨hex,dw ((hpick a2 g2.w hex).2 m' hP) hlt⟩
 | ret=>cases ex<;>first | exact k4.elim | exact⟨g2,_,st2,df2,rfl,hl1.trans k2,k3,k3',k4,k5⟩
 | exit i=>cases ex<;>first | exact k4.elim | exact⟨g2,_,st2,df2,rfl,hl1.trans k2,k3,k3',k4,k5⟩
 | pan t=>cases ex<;>first | exact k4.elim | exact⟨g2,_,st2,df2,rfl,hl1.trans k2,k3,k3',k4,k5⟩
theorem B6W {F:Fence} {n:Nat} {Q:Exit→Act→aO→Prop} {a:Act} {w:aO} {id:Nat} {c:Code} (h:wpR F n P c (Exit.inBlock id Q) a w):wpR F n P (.block id c) Q a w:=by
 intro b k cs hro hb hr;have h0:(lone (b.atR a (.code (.block id c)::k)) cs w).fenced P F:=fenced_calm hb hr rfl;obtain⟨e,a1,w1,hq,harr⟩:=h b (.inBlock id::k) cs hro hb hr;cases e with
 | normal=>exact⟨.normal,a1,w1,hq,.head h0 stepR_block (StepsIn.trans harr (.one (fenced_calm hb hr rfl) stepR_inBlock))⟩
 | panic ch=>obtain⟨todo,t,r⟩:=harr;exact⟨.panic ch,a1,w1,hq,todo,t,.head h0 stepR_block r⟩
 | ret=>exact⟨.ret,a1,w1,hq,fun hn=>let ⟨t,r⟩:=harr.1 hn;⟨t,.head h0 stepR_block r⟩,fun hn=>let ⟨t,r⟩:=harr.2 hn;⟨t,.head h0 stepR_block r⟩⟩
 | exit i =>
  by_cases hid:i=id
  ·simp only[Exit.inBlock,hid,if_true]at hq;exact⟨.normal,a1,w1,hq,.head h0 stepR_block (harr.1 k (by simp[exitTo,hid]))⟩
  ·simp only[Exit.inBlock,hid,if_false]at hq;have hx:exitTo i (.inBlock id::k)=exitTo i k:=by
    have:(id==i)=false:=by simp;exact fun h=>hid h.symm
    simp[exitTo,this]
   exact⟨.exit i,a1,w1,hq,fun k' hk => .head h0 stepR_block (harr.1 k' (by rw[hx];exact hk)),fun hr' hk=>let ⟨k1,h1,h2⟩:=harr.2 hr' (by rw[hx];exact hk);⟨k1,h1,.head h0 stepR_block h2⟩⟩
 | goto l =>
  have hx:gotoIn l (.inBlock id::k)=gotoIn l k:=by simp[gotoIn]
  exact⟨.goto l,a1,w1,hq,fun k' hk => .head h0 stepR_block (harr.1 k' (by rw[hx];exact hk)),fun hr' hk=>let ⟨k1,h1,h2⟩:=harr.2 hr' (by rw[hx];exact hk);⟨k1,h1,.head h0 stepR_block h2⟩⟩
 | outgrown=>exact⟨.outgrown,a1,w1,hq,B07.of (ArrivesIn.of_steps (e := .outgrown) (b:=b) (k:=k) (cs:=cs) (a:=a1) (w:=w1) (.one h0 stepR_block) harr) (fun ch e=>by cases e)⟩
theorem B6U {id:Nat} {c:Code} (h:SWY P n0 N c (A34 id Q) st):SWY P n0 N (.block id c) Q st:=fun F nn hF g a hR=>by
 refine B6W (A6M (h F nn hF g a hR) ?_);rintro ex a' w' ⟨g',sx,st',rfl,h2,h3,h4,h5⟩;cases sx with
 | norm=>cases ex<;>first | exact h4.elim | exact⟨g',.norm,st',rfl,h2,h3,trivial,h5⟩
 | ret=>cases ex<;>first | exact h4.elim | exact⟨g',.ret,st',rfl,h2,h3,trivial,h5⟩
 | exit i =>
  cases ex<;>first | exact h4.elim | skip
  rename_i j;have h4':i=j:=h4;subst h4';simp only[A34]at h5;by_cases hi:i=id
  ·rw[if_pos hi]at h5;simp only[Exit.inBlock,hi,if_true];exact⟨g',.norm,st',rfl,h2,h3,trivial,h5⟩
  ·rw[if_neg hi]at h5;simp only[Exit.inBlock,hi,if_false];exact⟨g',.exit i,st',rfl,h2,h3,rfl,h5⟩
 | pan t=>cases ex<;>first | exact h4.elim | exact⟨g',.pan t,st',rfl,h2,h3,h4,h5⟩
end
section
variable {P:ah} {X:JX} {N:Nat} {Q:SX→SX→St→Prop} {ph:SX} {st:St}
theorem A9Q {c:Code} (I:Nat→SX→St→Prop) {m:Nat} {st0:St} (hv:A33 X.n1 N st st0) (h0:I m ph st0)
  (h:∀ m ph st,I m ph st→SWJ P X N c (B2w (fun ph' st'=>∃ m' st'',m'<m∧A33 X.n1 N st' st''∧I m' ph' st'') Q) ph st):SWJ P X N (.loop c) Q ph st:=by
 refine SWJ.seen (fun _ _ hR=>hv _ _ _ hR) ?_;intro F nn hF r g a hj hR
 let Pm:Nat→Act→aO→Prop:=fun m a' w'=>∃ g' ph' st',g'.w=w'∧LeL X.l X.n1 g g'∧JOk X r ph' g'∧StR g' N st' a' []∧I m ph' st'
 have hex:∃ pick:Act→aO→Nat,∀ a' w',(∃ m,Pm m a' w')→Pm (pick a' w') a' w'∧∀ k,Pm k a' w'→pick a' w'≤k:=by
  have h1:∀ p:Act × aO,∃ m,(∃ m,Pm m p.1 p.2)→Pm m p.1 p.2∧∀ k,Pm k p.1 p.2→m≤k:=fun p=>by
   by_cases h:∃ m,Pm m p.1 p.2
   ·obtain⟨m,hm⟩:=least h;exact⟨m,fun _=>hm⟩
   ·exact⟨0,fun h'=>absurd h' h⟩
  exact⟨fun a' w'=>Classical.choose (h1 (a',w')),fun a' w'=>Classical.choose_spec (h1 (a',w'))⟩
 obtain⟨pick,hpick⟩:=hex;refine wpIn_loop (fun a' w'=>∃ m,Pm m a' w') pick ⟨m,g,ph,st0,rfl,.refl _ _ g,hj,hR,h0⟩ fun a' w' hI=>?_;obtain⟨⟨g1,ph1,st1,rfl,hl1,hj1,hR1,hI1⟩,_⟩:=hpick a' w' hI;refine aW (h _ ph1 st1 hI1 F nn hF r g1 a' hj1 hR1) ?_;rintro ex a2 w2 ⟨g2,ph2,sx,st2,rfl,k3,e2,e1,e4,e5⟩;cases sx with
 | norm =>
  cases ex<;>first | exact e4.elim | skip
  obtain⟨m',st3,hlt,hv3,hI2⟩:=e5;obtain⟨g3,hw3,hl3,hR3⟩:=hv3 _ _ _ e2;have hP:Pm m' a2 g2.w:=⟨g3,ph2,st3,hw3,(hl1.trans k3).trans (hl3.toL _),e1.step e2.good hl3,hR3,hI2⟩;have hex:∃ m,Pm m a2 g2.w:=⟨m',hP⟩;exact⟨hex,dw ((hpick a2 g2.w hex).2 m' hP) hlt⟩
 | ret=>cases ex<;>first | exact e4.elim | exact⟨g2,ph2,_,st2,rfl,hl1.trans k3,e2,e1,e4,e5⟩
 | exit i=>cases ex<;>first | exact e4.elim | exact⟨g2,ph2,_,st2,rfl,hl1.trans k3,e2,e1,e4,e5⟩
 | pan t=>cases ex<;>first | exact e4.elim | exact⟨g2,ph2,_,st2,rfl,hl1.trans k3,e2,e1,e4,e5⟩
end
def A7c (k:aU) (a b:Int):Int:=k.wrap (BitVec.ofInt k.bits a &&& BitVec.ofInt k.bits b).toNat
def A6m (k:aU) (a b:Int):Int:=a.fdiv (2^(min b.toNat k.bits))
def A8w {α:Type} (w:List α) (lo len:Nat) (l:List α):List α:=w.take lo++l.take (min l.length len)++w.drop (lo+min l.length len)
theorem B1O {α β:Type} (f:α→β) (w:List α) (lo len:Nat) (l:List α):A8w (w.map f) lo len (l.map f)=(A8w w lo len l).map f:=by
 simp[A8w,eT,dV]
def B38 {α:Type} (w:List α) (lo len:Nat) (l:List α):Option (List α):=if lo+len≤w.length then some (A8w w lo len l)else none
theorem A77 {α:Type} {w l q:List α} {lo len:Nat} (h:B38 w lo len l=some q):lo+len≤w.length∧A8w w lo len l=q:=by
 unfold B38 at h;split at h
 ·injection h with h;exact⟨by assumption,h⟩
 ·cases h
theorem B1P {α:Type} {w l q:List α} {lo len:Nat} (h:B38 w lo len l=some q):w.length=q.length:=by
 obtain⟨h1,rfl⟩:=A77 h;simp only[A8w,bz,aN,cx];omega
theorem D2n {P:ah} (w:aO) (dT sT ty elem:ab) (g o dLen dCap:Nat) (a:Addr) (sLen sCap:Nat) (cur:Array al) (t:EF cur.size) (cs:List al)
    (hu:P.underlying dT=some (.slice elem)) (hs:(P.info? elem).map (·.size)=some 1)
    (hg:w.heap[g]?=some (.cells cur t.1.1 t.1.2)) (hn:cs.length=Nat.min sLen dLen)
    (hsrc:∀ j v,cs[j]?=some v→w.cell? (a.add j)=some v) (hfit:o+cs.length≤cur.size) (h1:∀ v∈cs,v.oneCell'=true) :
    (Builtin.copy_ #[dT,sT] ty #[.slice (some ⟨g,o,none⟩) dLen dCap,.slice (some a) sLen sCap]).run P w =
      .ok (goInt cs.length) (w.setRow g (cur.toList.take o++cs++cur.toList.drop (o+cs.length)).toArray):=by
 have hl:=run_loadCells_list (P:=P) w a cs hsrc;have hst:=C73 (P:=P) g o t cs 0 cur w rfl hg (by simpa using hfit) h1;cases hq:P.info? elem with
 | none=>simp[hq]at hs
 | some i =>
  have hi:i.size=1:=by simpa[hq]using hs
  simp[Builtin.copy_,aV hu,Builtin.lenOf,Builtin.firstCells,sizeOf,typeInfo,hq,hi,← hn,hl,hst]
section
variable {P:ah} {o:Oper} {fresh:Nat}
theorem B7N {t e:ab} {i ei:TI} {x y:aa} {u:T} {l:List T} {n lo len:Nat} {r:Rw} {rn:List (Nat × Rw)} (hop:o.op = .call { callee := .builtin .copy,args:=#[x,y],argTypes:=#[t,t] }) (ht:TOk P t i) (hsl:i.sl=some e) (he:TOk P e ei)
  (hz':ei.size=1) (hu:B8k u l 1 rn) (hm:(n,r)∈rn) (hs':r.s=1) (hle:lo+len≤r.els.length) (h1:A3f l=true) :
  OpS P o [(x,.row n 1 lo len),(y,u)] rn [(n,some ⟨1,A8w r.els lo len l⟩)] fresh [] (.d (.v (.int .i64 (min l.length len:Nat)))) :=
 .of_run (fun c h=>by rw[hop]at h;cases h) fun g a hg hi hr _=>by
  obtain⟨info,zv,hinf,hz,hsz,hby,hzs,_⟩:=he.info;have hx:=hi (x,.row n 1 lo len) sM;have hy:=hi (y,u) sM;have hnM:=hr (n,r) hm;dsimp only at hx hy hnM;generalize hxv:a.eval x=xv at hx;cases hx with | row _ _ _ _ a0 hnn hs0 hcap ha =>
  obtain⟨A,cap,vs,hv,hs,hvs,hrd⟩:=B41 hg hy hu hr;have hlen:vs.length=l.length:=by rw[← hvs.1,A7B hs,bM]
  have hinf1:(P.info? e).map (·.size)=some 1:=by rw[hinf,bh,hsz,hz']
  obtain⟨m,hm'⟩:∃ m,min l.length len=m:=⟨_,rfl⟩;unfold A8w;rw[hm'];by_cases hm0:m=0
  ·subst hm0;have hrun:=run_copy_none (P:=P) g.w t t o.type e a0 A len ((g.β n).2-lo) l.length cap (ht.slice hsl) hinf1 (by simpa[fm]using hm');refine⟨goInt 0,g,.inl ?_,hg,.refl g,?_,.d (.v _ rfl)⟩
   ·simp[aT,hop,resolve,invoke,builtin,hxv,hv,hrun]
   ·rw[← A8h];have e:(⟨1,r.els.take lo++l.take 0++r.els.drop (lo+0)⟩:Rw)=r:=by
     cases r;simp at hs';subst hs';simp
    rw[e];funext k;by_cases hk:k=n
    ·subst hk;simpa using hnM
    ·simp[hk]
  ·have hc0:¬ (g.β n).2=0:=by omega
   have hl0:0<l.length:=by omega
   obtain⟨ad,rfl,hrda⟩:=hrd hl0;have ha:=ha hc0;subst ha;obtain⟨cells,ety,hh,hcz,hel,hrow⟩:B7i g n r:=by
    rcases hg.rows n r hnM with⟨h1,_⟩ | ⟨_,h1⟩ | ⟨h1,_⟩
    ·exact absurd h1 hc0
    ·exact h1
    ·omega
   rw[hs',bM]at hcz;simp only[hs',bM]at hrow;have hvl:(vs.take m).length=m:=by rw[aN];omega
   have hrun:=D2n (P:=P) g.w t t o.type e (g.β n).1 lo len ((g.β n).2-lo) ad l.length cap cells ety (vs.take m) (ht.slice hsl) hinf1 hh (by rw[hvl];simpa[fm]using hm'.symm)
    (fun j v hj=>hrda j v (by rw[bo]at hj;split at hj;exact hj;cases hj)) (by rw[hvl,hcz];omega) (fun v hv=>B3S hvs h1 v (List.mem_of_mem_take hv))
   rw[hvl]at hrun;obtain⟨cells',hc'⟩:∃ c:Array al,(cells.toList.take lo++vs.take m++cells.toList.drop (lo+m)).toArray=c:=⟨_,rfl⟩;rw[hc']at hrun;have hcl:cells'.size=(g.β n).2*1:=by
    rw[← hc'];simp only[cZ,bz,aN,cx,br];omega
   obtain⟨hG,hL⟩:=P6.put hg hnM hc0 hh (cells:=cells') (by rw[hcl,hcz,bM]) (r':=⟨1,r.els.take lo++l.take m++r.els.drop (lo+m)⟩) sM hcl (by simp only[bz,aN,cx];omega) (by
    intro q z hq;dsimp only at hq;have hold:∀ q z,r.els[q]?=some z→q<lo∨lo+m≤q→z.cells.length=1∧∀ (j:Nat) (y:T),z.cells[j]?=some y→∃ c,cells'[q*1+j]?=some c∧VT g y c:=fun q z hq hql=>by
     obtain⟨k1,k2⟩:=hrow q z hq;refine⟨k1,fun j y hy=>?_⟩;have hj:=(gS hy).1;obtain⟨c,k3,k4⟩:=k2 j y hy;refine⟨c,?_,k4⟩;have hj0:j=0:=by omega
     subst hj0;rw[bM,bj];rw[bj]at k3;rw[← hc',cu];have hqc:=(gA k3).1;rcases hql with h | h
     ·rw[bI,aC (by simp;omega),bo,if_pos h];simpa using k3
     ·rw[aG (by simp;omega),bF];simp only[bz,aN,br,hvl];rw[show lo+m+(q-(min lo cells.size+m))=q by omega];simpa using k3
    by_cases hq1:q<lo
    ·rw[bI,aC (by simp;omega),bo,if_pos hq1]at hq;exact hold q z hq (.inl hq1)
    ·by_cases hq2:q<lo+m
     ·rw[aC (by simp;omega),aG (by simp;omega),aN,bo]at hq;rw[show q-min lo r.els.length=q-lo by omega,if_pos oM]at hq;refine⟨hs z (iM hq),fun j y hy=>?_⟩;have hj:=(gS hy).1;have hj0:j=0:=by have:=hs z (iM hq);omega
      subst hj0;have hf:=B2G hs hq hy;rw[bM,bj]at hf;have hlt:=(gS hf).1;rw[hvs.1]at hlt;refine⟨vs[q-lo],?_,hvs.2 _ _ _ hf (gE hlt)⟩;rw[← hc',cu,bM,bj,aC (by simp;omega),aG (by simp;omega),aN,br,bo];rw[show q-min lo cells.size=q-lo by omega,if_pos oM];exact gE hlt
     ·rw[aG (by simp;omega),bF]at hq;simp only[bz,aN]at hq;rw[show lo+m+(q-(min lo r.els.length+min m l.length))=q by omega]at hq;exact hold q z hq (.inr oM))
   refine⟨goInt m,_,.inl ?_,hG,hL,A8h g.M n _ fresh,.d (.v _ rfl)⟩;simp only[bM]at hxv;simp[aT,hop,resolve,invoke,builtin,hxv,hv,hrun,G.put]
end
def B26 {α:Type} (l m:List α):Option (List α):=if l.length+m.length≤17592186044416 then some (l++m)else none
theorem B87 {α:Type} {l m q:List α} (h:B26 l m=some q):l.length+m.length≤17592186044416∧q=l++m:=by
 unfold B26 at h;split at h
 ·injection h with h;exact⟨by assumption,h.symm⟩
 ·cases h
section
variable {P:ah} {N:Nat} {ops:Array Oper} {l:List Oper} {ts:LT} {L:LR} {tr:List Stp} {d:Nat} {ty:ab} {pos:String} {af:Array Edge} {gd:Option (Nat × Bool)} {K:List Oper→List Stp→St→Prop}
theorem C0A {α:Type} {t e:ab} {i ei:TI} {x y:aa} {n lo len:Nat} {g:α→D} {w v q:List α} (tb:Tab P) (ht:tb.f t=some i) (hsl:i.sl=some e) (he:tb.f e=some ei) (hz:ei.size=1) (hx:O9 ts x = .row n 1 lo len) (hy:O9 ts y = .d (.arr 1 (v.map g))) (hr:L[n]?=some (some ⟨1,w.map fun a => .d (g a)⟩)) (hle:lo+len≤w.length)
  (h1:A3f (v.map fun a => .d (g a))=true) (hq:A8w w lo len v=q) {L':LR} (hL:L.set n (some ⟨1,q.map fun a => .d (g a)⟩)=L')
  (hw:I2 ops ts ⟨some d,.call { callee := .builtin .copy,args:=#[x,y],argTypes:=#[t,t] },ty,pos,af,gd⟩=some true) (hd:aq d N=true)
  (k:L3 P N ops l ⟨(d,.d (.v (.int .i64 (min v.length len:Nat))))::ts,L'⟩ (tr++[.run [n] [n]]) K):L3 P N ops (⟨some d,.call { callee := .builtin .copy,args:=#[x,y],argTypes:=#[t,t] },ty,pos,af,gd⟩::l) ⟨ts,L⟩ tr K:=by
 subst hq hL;refine A2i (.run hw (B7N (fresh:=L.length) (n:=n) (lo:=lo) (len:=len) (r:=⟨1,w.map fun a => .d (g a)⟩) (u := .d (.arr 1 (v.map g))) (rn:=[(n,⟨1,w.map fun a => .d (g a)⟩)]) (l:=v.map fun a => .d (g a)) rfl (tb.ok _ _ ht) hsl (tb.ok _ _ he) hz (.inr (.inl ⟨v.map g,rfl,by rw[ck];rfl⟩)) sM rfl (by simpa using hle) h1) ?_ ?_ ?_ hd) ?_
 ·intro p hp;simp only[ap,ay,or_false]at hp;rcases hp with rfl | rfl
  ·exact⟨hx,by simp[ag,aM]⟩
  ·exact⟨hy,by simp[ag,aM]⟩
 ·intro p hp;simp only[ap,ay,or_false]at hp;subst hp;exact hr
 ·intro p hp;simp only[ap,ay,or_false]at hp;subst hp;exact⟨_,bD.2 rfl,rfl⟩
 ·simpa[St.eff,A5m,A4m,B1O]using k
theorem C0B {α:Type} {t e:ab} {i ei:TI} {x y:aa} {n lo len lo' len':Nat} {g:α→D} {w q:List α} (tb:Tab P) (ht:tb.f t=some i) (hsl:i.sl=some e) (he:tb.f e=some ei) (hz:ei.size=1) (hx:O9 ts x = .row n 1 lo len) (hy:O9 ts y = .row n 1 lo' len') (hr:L[n]?=some (some ⟨1,w.map fun a => .d (g a)⟩)) (hle:lo+len≤w.length) (hle':lo'+len'≤w.length)
  (h1:∀ v:List α,A3f (v.map fun a => .d (g a))=true) (hq:A8w w lo len ((w.drop lo').take len')=q) {L':LR} (hL:L.set n (some ⟨1,q.map fun a => .d (g a)⟩)=L')
  (hw:I2 ops ts ⟨some d,.call { callee := .builtin .copy,args:=#[x,y],argTypes:=#[t,t] },ty,pos,af,gd⟩=some true) (hd:aq d N=true)
  (k:L3 P N ops l ⟨(d,.d (.v (.int .i64 (min len' len:Nat))))::ts,L'⟩ (tr++[.run [n] [n]]) K):L3 P N ops (⟨some d,.call { callee := .builtin .copy,args:=#[x,y],argTypes:=#[t,t] },ty,pos,af,gd⟩::l) ⟨ts,L⟩ tr K:=by
 subst hq hL;have el:((w.drop lo').take len').length=len':=by simp;omega
 refine A2i (.run hw (B7N (fresh:=L.length) (n:=n) (lo:=lo) (len:=len) (r:=⟨1,w.map fun a => .d (g a)⟩) (u := .row n 1 lo' len') (rn:=[(n,⟨1,w.map fun a => .d (g a)⟩)]) (l:=((w.drop lo').take len').map fun a => .d (g a)) rfl (tb.ok _ _ ht) hsl (tb.ok _ _ he) hz (.inr (.inr ⟨n,lo',len',⟨1,w.map fun a => .d (g a)⟩,rfl,by simp,rfl,by simpa using hle',by simp[eT,dV]⟩)) sM rfl (by simpa using hle) (h1 _)) ?_ ?_ ?_ hd) ?_
 ·intro p hp;simp only[ap,ay,or_false]at hp;rcases hp with rfl | rfl
  ·exact⟨hx,by simp[ag,aM]⟩
  ·exact⟨hy,by simp[ag,aM]⟩
 ·intro p hp;simp only[ap,ay,or_false]at hp;subst hp;exact hr
 ·intro p hp;simp only[ap,ay,or_false]at hp;subst hp;exact⟨_,bD.2 rfl,rfl⟩
 ·rw[aS,el];simp only[St.eff,A5m,A4m,B1O,bw,List.map_nil,ct,aH];exact k
theorem B3c {α:Type} {t e:ab} {i ei:TI} {x y:aa} {s n len:Nat} {w v q:List α} {g:α→D} (L':LR) (tb:Tab P) (ht:tb.f t=some i) (hsl:i.sl=some e) (he:tb.f e=some ei) (hz:ei.size=s) (hx:O9 ts x = .row n s 0 len) (hy:O9 ts y = .d (.arr s (v.map g))) (hr:L[n]?=some (some ⟨s,w.map fun a => .d (g a)⟩)) (hlen:w.length=len)
  (h1:∀ a,A4y (T.d (g a)).cells=true) (hq:B26 w v=some q) (hb:bL ei.bytes 8=true) (hL:L.set n none=L') {nn:Nat} {nr:List Nat} (hnn:A4f.drop L.length=nn::nr)
  (hw:I2 ops ts ⟨some d,.call { callee := .builtin .append,args:=#[x,y],argTypes:=#[t,t] },ty,pos,af,gd⟩=some true) (hd:aq d N=true)
  (k:L3 P N ops l ⟨(d,.row nn s 0 q.length)::ts,L'++[some ⟨s,q.map fun a => .d (g a)⟩]⟩ (tr++[.run [n,nn] [n,nn]]) K):L3 P N ops (⟨some d,.call { callee := .builtin .append,args:=#[x,y],argTypes:=#[t,t] },ty,pos,af,gd⟩::l) ⟨ts,L⟩ tr K:=by
 obtain⟨h2,rfl⟩:=B87 hq;have e0:=A21 hnn;subst hlen hL hz e0;have hb':=bg hb;have hnl:n<L.length:=(gS hr).1;refine A2i (.run hw (B3T (fresh:=L.length) (n:=n) (s:=ei.size) (len:=w.length) (r:=⟨ei.size,w.map fun a => .d (g a)⟩) (u := .d (.arr ei.size (v.map g))) (rn:=[(n,⟨ei.size,w.map fun a => .d (g a)⟩)]) (l:=v.map fun a => .d (g a)) rfl (tb.ok _ _ ht) hsl (tb.ok _ _ he) rfl (.inr (.inl ⟨v.map g,rfl,by rw[ck];rfl⟩)) sM rfl sM (B0Y h1) (by simp;omega) (bN (eg (show w.length+(v.map fun a=>T.d (g a)).length≤17592186044416 by simpa using h2) hb') dM) oM) ?_ ?_ ?_ hd) ?_
 ·intro p hp;simp only[ap,ay,or_false]at hp;rcases hp with rfl | rfl
  ·exact⟨hx,by simp[ag,aM]⟩
  ·exact⟨hy,by simp[ag,aM]⟩
 ·intro p hp;simp only[ap,ay,or_false]at hp;subst hp;exact hr
 ·intro p hp;simp only[ap,ay,or_false]at hp;subst hp;exact⟨_,bD.2 rfl,rfl⟩
 ·rw[bz,List.map_append]at k;simpa[St.eff,A5m,A4m]using k
theorem B7Z {t1 t2:ab} {x y:aa} {k:aU} {a b:Int} (hx:O9 ts x = .d (.v (.int k a))) (hy:O9 ts y = .d (.v (.int k b))) (hw:I2 ops ts ⟨some d,.binOp .and t1 x y t2,ty,pos,af,gd⟩=some true) (hd:aq d N=true)
  (kk:L3 P N ops l ⟨(d,.d (.v (.int k (A7c k a b))))::ts,L⟩ (tr++[.run [] []]) K):L3 P N ops (⟨some d,.binOp .and t1 x y t2,ty,pos,af,gd⟩::l) ⟨ts,L⟩ tr K :=
 K0 (ins:=[(x,.d (.v (.int k a))),(y,.d (.v (.int k b)))]) rfl (A3z (p := .int k a) (q := .int k b) (z := .int k (A7c k a b)) rfl rfl (fun w=>by simp[go_sem,Op.intBits,A7c])) hw (by simp[ag,hx,hy]) sM hd kk
theorem B4m {t1 t2:ab} {x y:aa} {k k2:aU} {a b:Int} (hx:O9 ts x = .d (.v (.int k a))) (hy:O9 ts y = .d (.v (.int k2 b))) (hb:¬ b<0) (hw:I2 ops ts ⟨some d,.binOp .shr t1 x y t2,ty,pos,af,gd⟩=some true) (hd:aq d N=true)
  (kk:L3 P N ops l ⟨(d,.d (.v (.int k (A6m k a b))))::ts,L⟩ (tr++[.run [] []]) K):L3 P N ops (⟨some d,.binOp .shr t1 x y t2,ty,pos,af,gd⟩::l) ⟨ts,L⟩ tr K :=
 K0 (ins:=[(x,.d (.v (.int k a))),(y,.d (.v (.int k2 b)))]) rfl (A3z (p := .int k a) (q := .int k2 b) (z := .int k (A6m k a b)) rfl rfl (fun w=>by simp[go_sem,Op.shift,hb,A6m])) hw (by simp[ag,hx,hy]) sM hd kk
end
end Go.Proofs.YtlaogbbcipebgaaGreat.Sh
namespace Go.Proofs.YtlaogbbcipebgaaGreat.Sh
open Go Go.ChangeShapes Go.WideShapes Go.ChangeAt Go.RowKit Go.Joins Go.Deep
section
variable {P:ah} {H:Type} {enc:ab × al→H} {W:aO}
end
end Go.Proofs.YtlaogbbcipebgaaGreat.Sh
namespace Go.Proofs.YtlaogbbcipebgaaGreat.Sh
open Go
theorem B52 {c:al} (n:Nat):(Builtin.zeroCells #[c] n).toList=ak n c:=by
 unfold Builtin.zeroCells;apply dH;intro i;simp only[Array.toList_map,Array.toList_range,gM,bJ,cZ,List.length_cons,ct,aZ,bM];by_cases h:i<n
 ·rw[List.getElem?_range h,if_pos h];simp[Nat.mod_one]
 ·rw[if_neg h,aD (by simpa using h)];rfl
theorem B1I {P:ah} (w:aO) (t ty elem:ab) (g n c:Nat) (cur:Array al) (et:EF cur.size) (zv c0:al) (hu:P.underlying t=some (.slice elem)) (hz:(dU elem).run P w = .ok zv w) (hzc:zv.cells=#[c0]) (hg:w.heap[g]?=some (.cells cur et.1.1 et.1.2)) (hfit:n+1≤cur.size) (h1:c0.oneCell'=true) :
 (Builtin.clear_ #[t] ty #[.slice (some ⟨g,0,none⟩) (n+1) c]).run P w = .ok (.tuple #[]) (w.setRow g (ak (n+1) c0++cur.toList.drop (n+1)).toArray):=by
 have hst:=C73 (P:=P) g 0 et (ak (n+1) c0) 0 cur w rfl hg (by simpa using hfit) (fun v hv=>by rw[(List.mem_replicate.1 hv).2];exact h1);simp only[aL,aZ,List.take_zero,cf]at hst;simp[Builtin.clear_,aV hu,hz,hzc,B52,hst]
def B6t {α:Type} (w:List α) (a0:α):Option (List α):=some (ak w.length a0)
theorem B5B {α:Type} {w q:List α} {a0:α} (h:B6t w a0=some q):w.length=q.length:=by
 injection h with h
 rw[← h,aL]
section
variable {P:ah} {o:Oper} {fresh:Nat}
theorem B8Q {t e:ab} {i ei:TI} {x:aa} {n len:Nat} {r:Rw} {c0:al} (hop:o.op = .call { callee := .builtin .clear,args:=#[x],argTypes:=#[t] }) (ht:TOk P t i) (hsl:i.sl=some e) (he:TOk P e ei) (hz0:ei.z = .d (.v c0)) (hc:c0.cells=#[c0]) (h1:c0.oneCell'=true) (ho:one c0) (hs':r.s=1) (hle:len=r.els.length) :
  OpS P o [(x,.row n 1 0 len)] [(n,r)] [(n,some ⟨1,ak len (.d (.v c0))⟩)] fresh [] (.d (.tup [])) :=
 .of_run (fun c h=>by rw[hop]at h;cases h) fun g a hg hi hr _=>by
  obtain⟨info,zv,hinf,hz,hsz,hby,hzs,hzo,hzl,hz1⟩:=he.info;have hx:=hi (x,.row n 1 0 len) sM;have hnM:=hr (n,r) sM;dsimp only at hx hnM;generalize hxv:a.eval x=xv at hx;cases hx with | row _ _ _ _ a0 hnn hs0 hcap ha =>
  have hzv:(dU e).run P g.w = .ok zv g.w:=by simp[dU,typeInfo,hinf,hz]
  have hzc:zv=c0:=by
   have:=VT.ofV g zv;rw[← hzo,hz0]at this;exact this.v_eq
  subst hzc;cases hl:len with
  | zero =>
   subst hl;have hrun:(Builtin.clear_ #[t] o.type #[.slice a0 0 ((g.β n).2-0)]).run P g.w = .ok (.tuple #[]) g.w:=by
    cases a0<;>simp[Builtin.clear_,aV (ht.slice hsl)]
   refine⟨.tuple #[],g,.inl ?_,hg,.refl g,?_,.d (.tup _ _ rfl (fun i d c h=>by simp at h))⟩
   ·rw[aP]at hrun hxv;simp[aT,hop,resolve,invoke,builtin,hxv,hrun]
   ·rw[← A8h];have e:(⟨1,ak 0 (.d (.v zv))⟩:Rw)=r:=by
     cases r;simp at hs';subst hs';rename_i els;cases els with
     | nil=>rfl
     | cons _ _=>simp at hle
    rw[e];funext k;by_cases hk:k=n
    ·subst hk;simpa using hnM
    ·simp[hk]
  | succ m =>
   subst hl;have hc0:¬ (g.β n).2=0:=by omega
   have ha:=ha hc0;subst ha;obtain⟨cells,ety,hh,hcz,hel,hrow⟩:B7i g n r:=by
    rcases hg.rows n r hnM with⟨h1,_⟩ | ⟨_,h1⟩ | ⟨h1,_⟩
    ·exact absurd h1 hc0
    ·exact h1
    ·omega
   rw[hs',bM]at hcz;have hrun:=B1I (P:=P) g.w t o.type e (g.β n).1 m ((g.β n).2-0) cells ety zv zv (ht.slice hsl) hzv hc hh oM h1;obtain⟨cells',hc'⟩:∃ c:Array al,(ak (m+1) zv++cells.toList.drop (m+1)).toArray=c:=⟨_,rfl⟩;rw[hc']at hrun;have hcl:cells'.size=(g.β n).2*1:=by
    rw[← hc'];simp only[cZ,bz,aL,cx,br];omega
   obtain⟨hG,hL⟩:=P6.put hg hnM hc0 hh (cells:=cells') (by rw[hcl,hcz,bM]) (r':=⟨1,ak (m+1) (.d (.v zv))⟩) sM hcl (by simp only[aL];omega) (by
    intro q z hq;dsimp only at hq;have hlt:=(gS hq).1;rw[aL]at hlt;rw[bJ,if_pos hlt]at hq;injection hq with hq
    subst hq;refine⟨rfl,fun j y hy=>?_⟩;have hj:=(gS hy).1;have hj0:j=0:=by simpa[T.cells]using hj
    subst hj0;have hyy:y = .d (.v zv):=by simpa[T.cells]using hy.symm
    subst hyy;refine⟨zv,?_,.d (.v _ ho)⟩;rw[← hc',cu,bM,aC (by simpa using hlt),bJ,if_pos (by simpa using hlt)])
   refine⟨.tuple #[],_,.inl ?_,hG,hL,A8h g.M n _ fresh,.d (.tup _ _ rfl (fun i d c h=>by simp at h))⟩;rw[aP]at hrun hxv;simp only[da]at hxv;simp[aT,hop,resolve,invoke,builtin,hxv,hrun,G.put]
end
section
variable {P:ah} {N:Nat} {ops:Array Oper} {l:List Oper} {ts:LT} {L:LR} {tr:List Stp} {K:List Oper→List Stp→St→Prop} {d:Nat} {ty:ab} {pos:String} {af:Array Edge} {gd:Option (Nat × Bool)}
theorem A8E {t e kt:ab} {x y z:aa} {n:Nat} {β:Type} {vf:β→D} {m q:List (Int × β)} {k:Int} {v:β} (L':LR) (ht:P.underlying t=some (.map kt e)) (hk:P.underlying kt=some (.int .i64)) (hx:O9 ts x = .mp n) (hy:O9 ts y = .d (.v (.int .i64 k))) (hz:O9 ts z = .d (vf v)) (hr:L[n]?=some (some ⟨0,m.map fun p => .agg [.d (.v (.int .i64 p.1)),.d (vf p.2)]⟩)) (hq:M0 m k v=q) (hL:L.set n (some ⟨0,q.map fun p => .agg [.d (.v (.int .i64 p.1)),.d (vf p.2)]⟩)=L')
  (hw:I2 ops ts ⟨none,.insert t x y z,ty,pos,af,gd⟩=some true)
  (kk:L3 P N ops l ⟨ts,L'⟩ (tr++[.run [n] [n]]) K):L3 P N ops (⟨none,.insert t x y z,ty,pos,af,gd⟩::l) ⟨ts,L⟩ tr K:=by
 subst hq hL;refine A2i (.run hw (B0X (kv:=fun a:Int => .int .i64 a) (vf:=vf) (m:=m) (k:=k) (v:=v) (n:=n) (fresh:=L.length) (.inr rfl) ht (.int hk)) ?_ ?_ ?_ rfl) ?_
 ·intro p hp;simp only[ap,ay,or_false]at hp;rcases hp with rfl | rfl | rfl
  ·exact⟨hx,by simp[ag]⟩
  ·exact⟨hy,by simp[ag]⟩
  ·exact⟨hz,by simp[ag]⟩
 ·intro p hp;simp only[ap,ay,or_false]at hp;subst hp;exact hr
 ·intro p hp;simp only[ap,ay,or_false]at hp;subst hp;exact⟨_,bD.2 rfl,rfl⟩
 ·simpa[St.eff,A5m,A4m,A7d]using kk
theorem C0H {t e kt:ab} {ei:TI} {x y:aa} {n:Nat} {β:Type} {vf:β→D} {m:List (Int × β)} {k:Int} {z0:β} {u:D} {b:Bool} (tb:Tab P) (ht:P.underlying t=some (.map kt e)) (hk:P.underlying kt=some (.int .i64)) (he:tb.f e=some ei) (hx:O9 ts x = .mp n) (hy:O9 ts y = .d (.v (.int .i64 k))) (hr:L[n]?=some (some ⟨0,m.map fun p => .agg [.d (.v (.int .i64 p.1)),.d (vf p.2)]⟩)) (hz:ei.z = .d (vf z0)) (hu:vf ((A2e m k).getD z0)=u) (hb:(A2e m k).isSome=b)
  (hw:I2 ops ts ⟨some d,.lookup t x y true,ty,pos,af,gd⟩=some true) (hd:aq d N=true)
  (kk:L3 P N ops l ⟨(d,.tup [.d u,.d (.v (.bool b))])::ts,L⟩ (tr++[.run [n] []]) K):L3 P N ops (⟨some d,.lookup t x y true,ty,pos,af,gd⟩::l) ⟨ts,L⟩ tr K:=by
 subst hu hb;have h:=B6B (P:=P) (o:=⟨some d,.lookup t x y true,ty,pos,af,gd⟩) (fresh:=L.length) (kv:=fun a:Int => .int .i64 a) (vf:=fun b=>T.d (vf b)) (m:=m) (k:=k) (n:=n) rfl ht (tb.ok _ _ he) (.int hk);cases hm:A2e m k with
 | none =>
  rw[hm]at h kk;dsimp only at h;rw[hz]at h;exact K0 (rn:=[(n,A9d (fun a:Int => .int .i64 a) (fun b=>T.d (vf b)) m)]) rfl h hw (by simp[ag,hx,hy]) (by simp[hr,A9d]) hd kk
 | some v =>
  rw[hm]at h kk;dsimp only at h;exact K0 (rn:=[(n,A9d (fun a:Int => .int .i64 a) (fun b=>T.d (vf b)) m)]) rfl h hw (by simp[ag,hx,hy]) (by simp[hr,A9d]) hd kk
theorem B5R {α:Type} {t e:ab} {i ei:TI} {x:aa} {n len:Nat} {g:α→D} {w q:List α} {a0:α} {c0:al} (tb:Tab P) (ht:tb.f t=some i) (hsl:i.sl=some e) (he:tb.f e=some ei) (hz0:ei.z = .d (.v c0)) (hc:c0.cells=#[c0]) (h1:c0.oneCell'=true) (ho:one c0) (hg:g a0 = .v c0) (hx:O9 ts x = .row n 1 0 len) (hr:L[n]?=some (some ⟨1,w.map fun a => .d (g a)⟩)) (hle:len=w.length) (hq:B6t w a0=some q) {L':LR} (hL:L.set n (some ⟨1,q.map fun a => .d (g a)⟩)=L')
  (hw:I2 ops ts ⟨none,.call { callee := .builtin .clear,args:=#[x],argTypes:=#[t] },ty,pos,af,gd⟩=some true)
  (k:L3 P N ops l ⟨ts,L'⟩ (tr++[.run [n] [n]]) K):L3 P N ops (⟨none,.call { callee := .builtin .clear,args:=#[x],argTypes:=#[t] },ty,pos,af,gd⟩::l) ⟨ts,L⟩ tr K:=by
 subst hL hle;injection hq with hq
 subst hq;have e:((ak w.length a0).map fun a=>T.d (g a))=ak w.length (.d (.v c0)):=by rw[eu,hg]
 rw[e]at k;refine A2i (.run hw (B8Q (fresh:=L.length) (n:=n) (len:=w.length) (r:=⟨1,w.map fun a => .d (g a)⟩) rfl (tb.ok _ _ ht) hsl (tb.ok _ _ he) hz0 hc h1 ho rfl sM) ?_ ?_ ?_ rfl) ?_
 ·intro p hp;simp only[ap,ay,or_false]at hp;subst hp;exact⟨hx,by simp[ag,aM]⟩
 ·intro p hp;simp only[ap,ay,or_false]at hp;subst hp;exact hr
 ·intro p hp;simp only[ap,ay,or_false]at hp;subst hp;exact⟨_,bD.2 rfl,rfl⟩
 ·simpa[St.eff,A5m,A4m]using k
theorem A7n {t e:ab} {i ei:TI} {x y:aa} {n s j c m:Nat} {k:aU} {z:Int} (q:Nat) (tb:Tab P) (ht:tb.f t=some i) (hs:i.ar=some (m,e)) (he:tb.f e=some ei) (hx:O9 ts x = .ref n s j c) (hy:O9 ts y = .d (.v (.int k z))) (hz:z=(q:Int)) (hq:aq q m=true) (hw:I2 ops ts ⟨some d,.indexAddr t x y,ty,pos,af,gd⟩=some true) (hd:aq d N=true) (kk:L3 P N ops l ⟨(d,.ref n s j (c+q*ei.size))::ts,L⟩ (tr++[.run (List.map Prod.fst ([]:List (Nat × Rw))) []]) K):L3 P N ops (⟨some d,.indexAddr t x y,ty,pos,af,gd⟩::l) ⟨ts,L⟩ tr K:=by
 subst hz;have h2:q<m:=by rw[bG]at hq;exact hq
 exact C0D (q:=(q:Int)) tb ht hs he hx hy oM oM hw hd kk
theorem C0J {t1 t2:ab} {x y:aa} {k:aU} {a b:Int} (hx:O9 ts x = .d (.v (.int k a))) (hy:O9 ts y = .d (.v (.int k b))) (hb:b≠0) (hw:I2 ops ts ⟨some d,.binOp .quo t1 x y t2,ty,pos,af,gd⟩=some true) (hd:aq d N=true)
  (kk:L3 P N ops l ⟨(d,.d (.v (.int k (k.wrap (a.tdiv b)))))::ts,L⟩ (tr++[.run [] []]) K):L3 P N ops (⟨some d,.binOp .quo t1 x y t2,ty,pos,af,gd⟩::l) ⟨ts,L⟩ tr K :=
 K0 (ins:=[(x,.d (.v (.int k a))),(y,.d (.v (.int k b)))]) rfl (A3z (p := .int k a) (q := .int k b) (z := .int k (k.wrap (a.tdiv b))) rfl rfl (fun w=>by simp[go_sem,Op.intDiv,hb])) hw (by simp[ag,hx,hy]) sM hd kk
end
end Go.Proofs.YtlaogbbcipebgaaGreat.Sh
