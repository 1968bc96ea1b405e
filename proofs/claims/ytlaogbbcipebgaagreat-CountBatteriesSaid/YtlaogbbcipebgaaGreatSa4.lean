/- Calls to which rows of the caller's are handed, by their lists. Over whatever program. -/
import Derived.Test.YtlaogbbcipebgaaGreatSa3
namespace Go.Proofs.YtlaogbbcipebgaaGreat.Sh
set_option linter.unusedVariables false
set_option linter.unusedSimpArgs false
open Go
inductive RwO (L:List (Option Rw)) (κ:List Nat):List (Option Rw)→List Nat→List Rw→Prop where
 | nil:RwO L κ [] [] []
 | cons {k:Nat} {r:Rw} {l:List (Option Rw)} {m:List Nat} {rs:List Rw} (h:L[k]?=some (some (r.ren (kap κ)))) (hs:r.sc κ.length=true) (q:RwO L κ l m rs):RwO L κ (some r::l) (k::m) (r::rs)
 | map {α:Type} {k:Nat} {w:List α} {kf:α→Value} {vf:α→D} {l:List (Option Rw)} {m:List Nat} {rs:List Rw} (h:L[k]?=some (some ⟨0,w.map fun p => .agg [.d (.v (kf p)),.d (vf p)]⟩)) (q:RwO L κ l m rs):RwO L κ (some ⟨0,w.map fun p => .agg [.d (.v (kf p)),.d (vf p)]⟩::l) (k::m) (⟨0,w.map fun p => .agg [.d (.v (kf p)),.d (vf p)]⟩::rs)
 | row {α:Type} {k s:Nat} {w:List α} {f:α→D} {l:List (Option Rw)} {m:List Nat} {rs:List Rw} (h:L[k]?=some (some ⟨s,w.map fun a => .d (f a)⟩)) (q:RwO L κ l m rs):RwO L κ (some ⟨s,w.map fun a => .d (f a)⟩::l) (k::m) (⟨s,w.map fun a => .d (f a)⟩::rs)
theorem RwO.all {L:List (Option Rw)} {κ:List Nat} {l:List (Option Rw)} {m:List Nat} {rs:List Rw} (h:RwO L κ l m rs):l=rs.map some∧m.length=rs.length∧(∀ q∈rs,q.sc κ.length=true)∧(∀ p∈A5T m (rs.map (Rw.ren (kap κ))),L[p.1]?=some (some p.2))∧∀ n∈m,n<L.length:=by
 have step:∀ {k:Nat} {r:Rw} {l:List (Option Rw)} {m:List Nat} {rs:List Rw},L[k]?=some (some (r.ren (kap κ)))→r.sc κ.length=true→(l=rs.map some∧m.length=rs.length∧(∀ q∈rs,q.sc κ.length=true)∧(∀ p∈A5T m (rs.map (Rw.ren (kap κ))),L[p.1]?=some (some p.2))∧∀ n∈m,n<L.length) →
   (some r::l=(r::rs).map some∧(k::m).length=(r::rs).length∧(∀ q∈r::rs,q.sc κ.length=true)∧(∀ p∈A5T (k::m) ((r::rs).map (Rw.ren (kap κ))),L[p.1]?=some (some p.2))∧∀ n∈k::m,n<L.length):=by
  intro k r l m rs h hs ⟨h1,h2,h3,h4,h5⟩
  refine⟨by rw[h1];rfl,by simp[h2],fun q hq=>?_,fun p hp=>?_,fun n hn=>?_⟩
  ·rcases List.mem_cons.1 hq with rfl | hq
   ·exact hs
   ·exact h3 q hq
  ·simp only[List.map_cons,A5T,List.mem_cons]at hp
   rcases hp with rfl | hp
   ·exact h
   ·exact h4 p hp
  ·rcases List.mem_cons.1 hn with rfl | hn
   ·exact(List.getElem?_eq_some_iff.1 h).1
   ·exact h5 n hn
 induction h with
 | nil=>simp[A5T]
 | cons h hs _ ih=>exact step h hs ih
 | map h _ ih =>
  refine step ?_ B6a ih
  unfold Rw.ren
  rw[A9G]
  exact h
 | row h _ ih =>
  refine step ?_ B5Z ih
  unfold Rw.ren
  rw[A7Z]
  exact h
inductive RnO (σ:Nat→Nat):List (Option Rw)→List (Option Rw)→Prop where
 | nil:RnO σ [] []
 | gone {l l':List (Option Rw)} (q:RnO σ l l'):RnO σ (none::l) (none::l')
 | cons {r r':Rw} {l l':List (Option Rw)} (h:r.ren σ=r') (q:RnO σ l l'):RnO σ (some r::l) (some r'::l')
 | map {α:Type} {w:List α} {kf:α→Value} {vf:α→D} {l l':List (Option Rw)} (q:RnO σ l l'):RnO σ (some ⟨0,w.map fun p => .agg [.d (.v (kf p)),.d (vf p)]⟩::l) (some ⟨0,w.map fun p => .agg [.d (.v (kf p)),.d (vf p)]⟩::l')
 | row {α:Type} {s:Nat} {w:List α} {f:α→D} {l l':List (Option Rw)} (q:RnO σ l l'):RnO σ (some ⟨s,w.map fun a => .d (f a)⟩::l) (some ⟨s,w.map fun a => .d (f a)⟩::l')
theorem RnO.eq {σ:Nat→Nat} {l l':List (Option Rw)} (h:RnO σ l l'):l.map (Option.map (Rw.ren σ))=l':=by
 induction h with
 | nil=>rfl
 | gone _ ih=>rw[List.map_cons,ih];rfl
 | cons h _ ih=>rw[List.map_cons,ih,Option.map_some,h]
 | map _ ih =>
  rw[List.map_cons,ih,Option.map_some]
  unfold Rw.ren
  rw[A9G]
 | row _ ih =>
  rw[List.map_cons,ih,Option.map_some]
  unfold Rw.ren
  rw[A7Z]
def wnO:List Nat→List (Option Rw)→List (Nat × Option Rw)
 | n::ρ,o::os=>(n,o)::wnO ρ os
 | _,_=>[]
theorem B8t (σ:Nat→Nat):∀ (ρ:List Nat) (os:List (Option Rw)),A9x σ ρ os=wnO ρ (os.map (Option.map (Rw.ren σ)))
 | [],_=>by simp[A9x,wnO]
 | n::ρ,[]=>by simp[A9x,wnO]
 | n::ρ,o::os=>by simp[A9x,wnO,B8t σ ρ os]
theorem B6j:∀ (ρ:List Nat) (os:List (Option Rw)),ρ.length=os.length→(wnO ρ os).map (·.1)=ρ
 | [],_,_=>by simp[wnO]
 | n::ρ,[],h=>by simp at h
 | n::ρ,o::os,h=>by simp[wnO];exact B6j ρ os (by simpa using h)
theorem B4r:∀ (ρ:List Nat) (os:List Rw),ρ.length=os.length→(A5T ρ os).map (·.1)=ρ
 | [],_,_=>by simp[A5T]
 | n::ρ,[],h=>by simp at h
 | n::ρ,o::os,h=>by simp[A5T];exact B4r ρ os (by simpa using h)
section
variable {P:Program} {N:Nat} {ops:Array Oper} {l:List Oper} {ts:List (Nat × T)} {L:List (Option Rw)} {tr:List Stp} {K:List Oper→List Stp→St→Prop} {d:Nat} {ty:TypeId} {pos:String} {af:Array Edge} {gd:Option (Nat × Bool)}
theorem B4N {dst:Option Nat} {x:Operand} {xs:Array Operand} {tys:Array TypeId} {f:FuncId} {cT t t':T} {as us fi ca:List T} {Lf Lf' ls ls':List (Option Rw)} {rs news:List Rw} {news':List (Option Rw)} (ρ:List Nat) (L2:List (Option Rw)) (hc:SCR P f as Lf t Lf') (he:Ent P f)
  (hf:O9 ts x=cT) (hcal:B6r cT f fi ca) (hx:xs.toList.map (O9 ts)=us) (hargs:fi++us++ca=A5n (kap ρ) as) (has:scL ρ.length as=true) (hnd:ndK ρ=true) (hrow:RwO L ρ Lf ρ rs) (hsp:Lf'=ls++news.map some) (hls:ls.length=ρ.length)
  {nn:Nat} {nr:List Nat} (hnn:A4f.drop L.length=nn::nr) (hr1:RnO (ext ρ nn) ls ls') (hr2:RnO (ext ρ nn) (news.map some) news') (htr:t.ren (ext ρ nn)=t') (hL:A4m L (wnO ρ ls')++news'=L2)
  (hw:I2 ops ts ⟨dst,.call { callee := .value x,args:=xs,argTypes:=tys },ty,pos,af,gd⟩=some true) (hd:B3B N dst=true)
  (k:L3 P N ops l ⟨A5m ts dst t',L2⟩ (tr++[.run (ρ++List.range' nn news'.length) (ρ++List.range' nn news'.length)]) K) :
  L3 P N ops (⟨dst,.call { callee := .value x,args:=xs,argTypes:=tys },ty,pos,af,gd⟩::l) ⟨ts,L⟩ tr K:=by
 have e0:=A21 hnn
 subst e0
 obtain⟨h1,h2,h3,h4,h5⟩:=hrow.all
 subst h1 hsp htr
 have e1:=hr1.eq
 have e2:=hr2.eq
 have hls':ρ.length=ls'.length:=by rw[← e1];simp[hls]
 refine A2i (.run hw (B2O (P:=P) (fresh:=L.length) (ρ:=ρ) (rs:=rs) (ls:=ls) (news:=news) (fi:=fi) (ca:=ca) (as:=as) (ts:=us) (r:=t) rfl he hcal (by rw[← hx];simp) hc hargs has (B0V hnd) h2 hls h3 h5) ?_ h4 ?_ hd) ?_
 ·intro p hp
  rcases List.mem_cons.1 hp with rfl | hp
  ·exact⟨hf,by simp[Op.operands,Call.operands]⟩
  ·obtain⟨a,b⟩:=A2Z hx p hp
   exact⟨a,by simp only[Op.operands,Call.operands,Array.mem_append];exact .inr (by simpa using b)⟩
 ·intro p hp
  have key:∀ (σ:Nat→Nat) (ρ:List Nat) (os:List (Option Rw)) (rs:List Rw),ρ.length=rs.length→∀ p∈A9x σ ρ os,∃ q∈A5T ρ rs,q.1=p.1:=by
   intro σ ρ
   induction ρ with
   | nil=>intro os rs _ p hp;cases os<;>simp[A9x]at hp
   | cons n ρ ih =>
    intro os rs hl p hp
    cases rs with
    | nil=>simp at hl
    | cons r rs =>
     cases os with
     | nil=>simp[A9x]at hp
     | cons o os =>
      simp only[A9x,List.mem_cons]at hp
      rcases hp with rfl | hp
      ·exact⟨(n,r),by simp[A5T],rfl⟩
      ·obtain⟨q,hq,e⟩:=ih os rs (by simpa using hl) p hp
       exact⟨q,by simp[A5T,hq],e⟩
  exact key _ ρ _ _ (by simpa using h2) p hp
 ·have e3:(news.map (Rw.ren (ext ρ L.length))).map some=news':=by rw[← e2];simp
  have e4:(news.map (Rw.ren (ext ρ L.length))).length=news'.length:=by rw[← e3];simp
  rw[B8t,e1,B6j _ _ hls',B4r _ _ (by simpa using h2),e4]
  unfold St.eff
  dsimp only
  rw[e3,hL]
  exact k
theorem G7 {x:Operand} {xs:Array Operand} {tys:Array TypeId} {f:FuncId} {cT t t':T} {as us fi ca:List T} {Lf Lf' ls ls':List (Option Rw)} {rs news:List Rw} {news':List (Option Rw)} (ρ:List Nat) (L2:List (Option Rw)) (hc:SCR P f as Lf t Lf') (he:Ent P f)
  (hf:O9 ts x=cT) (hcal:B6r cT f fi ca) (hx:xs.toList.map (O9 ts)=us) (hargs:fi++us++ca=A5n (kap ρ) as) (has:scL ρ.length as=true) (hnd:ndK ρ=true) (hrow:RwO L ρ Lf ρ rs) (hsp:Lf'=ls++news.map some) (hls:ls.length=ρ.length)
  {nn:Nat} {nr:List Nat} (hnn:A4f.drop L.length=nn::nr) (hr1:RnO (ext ρ nn) ls ls') (hr2:RnO (ext ρ nn) (news.map some) news') (htr:t.ren (ext ρ nn)=t') (hL:A4m L (wnO ρ ls')++news'=L2)
  (hw:I2 ops ts ⟨some d,.call { callee := .value x,args:=xs,argTypes:=tys },ty,pos,af,gd⟩=some true) (hd:Nat.blt d N=true)
  (k:L3 P N ops l ⟨(d,t')::ts,L2⟩ (tr++[.run (ρ++List.range' nn news'.length) (ρ++List.range' nn news'.length)]) K) :
  L3 P N ops (⟨some d,.call { callee := .value x,args:=xs,argTypes:=tys },ty,pos,af,gd⟩::l) ⟨ts,L⟩ tr K :=
 B4N ρ L2 hc he hf hcal hx hargs has hnd hrow hsp hls hnn hr1 hr2 htr hL hw hd k
end
end Go.Proofs.YtlaogbbcipebgaaGreat.Sh
