/- What one operation does to a plain picture of the machine. Over whatever program. -/
import Derived.Test.YtlaogbbcipebgaaGreatSh1
namespace Go.Proofs.YtlaogbbcipebgaaGreat.Sh
set_option linter.unusedVariables false
set_option linter.unusedSimpArgs false
open Go
def Wd (F:Fence):Prop:=∃ r:Option Nat,F={ Fence.wide with round:=r }
theorem Wd.fn {F:Fence} (h:Wd F) (f:FuncId):F.fn f:=by obtain⟨r,rfl⟩:=h;trivial
theorem Wd.dep {F:Fence} (h:Wd F):F.depth=none:=by obtain⟨r,rfl⟩:=h;rfl
theorem Wd.calls {F:Fence} (h:Wd F) {n:Nat} {P:Program} {f:FuncId} {args:Array Value} {w:World} {R:Ending→World→Prop} (k:Calls P f args w R):CallsIn F n P f args w R:=by
 obtain⟨r,rfl⟩:=h
 exact(callsIn_wide (n:=n)).2 k
theorem Wd.wide:Wd Fence.wide:=⟨none,rfl⟩
def upd (M:Nat→Option (Option Rw)) (wn:List (Nat × Option Rw)) (fresh:Nat) (new:List Rw):Nat→Option (Option Rw):=fun n =>
 match wn.find? (fun p=>p.1==n)with
 | some p=>some p.2
 | none=>if fresh≤n∧n<fresh+new.length then(new[n-fresh]?).map some else M n
theorem B3o (M:Nat→Option (Option Rw)) (fresh:Nat):upd M [] fresh []=M:=by
 funext n;simp[upd];intro h1 h2;omega
def OpS (P:Program) (o:Oper) (ins:List (Operand × T)) (rn:List (Nat × Rw)) (wn:List (Nat × Option Rw)) (fresh:Nat) (new:List Rw) (v:T):Prop :=
 ∀ (F:Fence) (nn:Nat),Wd F→∀ (g:G) (a:Act),P6 g→(∀ p∈ins,VT g p.2 (a.eval p.1))→(∀ p∈rn,g.M p.1=some (some p.2))→(∀ k,k<new.length→g.M (fresh+k)=none) →
 ∀ (next:Act→World→Prop) (Q:Exit→Act→World→Prop),(∀ (g':G) (c:Value),P6 g'→Le g g'→g'.M=upd g.M wn fresh new→VT g' v c→next (a.put o.dst c) g'.w)→o.wpIn F nn P a g.w next Q
section
variable {P:Program} {o:Oper} {ins:List (Operand × T)} {rn:List (Nat × Rw)} {wn:List (Nat × Option Rw)} {fresh:Nat} {new:List Rw} {v:T}
theorem OpS.of_run (hnd:∀ c,o.op ≠ .defer c)
  (h:∀ (g:G) (a:Act),P6 g→(∀ p∈ins,VT g p.2 (a.eval p.1))→(∀ p∈rn,g.M p.1=some (some p.2))→(∀ k,k<new.length→g.M (fresh+k)=none) →
   ∃ c g',((execOp a.eval o).run P g.w = .ok (.value c) g'.w∨((execOp a.eval o).run P g.w = .ok .skip g'.w∧c=undef))∧P6 g'∧Le g g'∧g'.M=upd g.M wn fresh new∧VT g' v c):OpS P o ins rn wn fresh new v:=by
 intro F nn hF g a hg hi hr hn next Q k
 obtain⟨c,g',hrun,h1,h2,h3,h4⟩:=h g a hg hi hr hn
 refine⟨fun f _=>hF.fn f,?_⟩
 rw[Oper.semAt_eq _ _ _ hnd]
 rcases hrun with hrun | ⟨hrun,rfl⟩
 ·rw[hrun];exact k g' c h1 h2 h3 h4
 ·rw[hrun];exact k g' undef h1 h2 h3 h4
theorem OpS.of_pure (hnd:∀ c,o.op ≠ .defer c)
  (h:∀ (g:G) (a:Act),P6 g→(∀ p∈ins,VT g p.2 (a.eval p.1))→(∀ p∈rn,g.M p.1=some (some p.2))→∃ c,(execOp a.eval o).run P g.w = .ok (.value c) g.w∧VT g v c):OpS P o ins rn [] fresh [] v :=
 .of_run hnd fun g a hg hi hr _=>by
  obtain⟨c,h1,h2⟩:=h g a hg hi hr
  exact⟨c,g,.inl h1,hg,.refl g,(B3o _ _).symm,h2⟩
end
def G.grow (g:G) (n:Nat) (r:Rw) (cap:Nat) (w:World):G :=
 ⟨fun k=>if k=n then some (some r)else g.M k,fun k=>if k=n then(g.w.heap.size,cap)else g.β k,g.K,w⟩
theorem A9w (M:Nat→Option (Option Rw)) (n:Nat) (r:Rw):(fun k=>if k=n then some (some r)else M k)=upd M [] n [r]:=by
 funext k
 simp only[upd,List.find?_nil,List.length_singleton]
 by_cases h:k=n
 ·subst h;simp
 ·have:¬ (n≤k∧k<n+1):=by omega
  simp[h,this]
theorem Le.grow {g:G} {n:Nat} (hn:g.M n=none) (r:Rw) (cap:Nat) {w:World} {o:Obj} (hw:w=g.w.alloc o∨w=g.w.drew.alloc o):Le g (g.grow n r cap w):=by
 have hh:w.heap=g.w.heap.push o:=by rcases hw with rfl | rfl<;>rfl
 refine⟨fun k hk=>?_,by show _≤w.heap.size;rw[hh];simp,?_,?_,?_,fun b hb _=>?_,fun b hb=>hb,fun b _ hb => .inl hb,fun k q hq h0 hlt=>?_⟩
 ·have:k≠n:=fun e=>hk (e▸hn)
  simp[G.grow,this,hk]
 ·rcases hw with rfl | rfl<;>rfl
 ·rcases hw with rfl | rfl<;>rfl
 ·rcases hw with rfl | rfl<;>rfl
 ·show w.heap[b]?=_
  rw[hh,Array.getElem?_push]
  have:b≠g.w.heap.size:=by omega
  simp[this]
 ·by_cases hk:k=n
  ·subst hk;simp[G.grow]at hlt
  ·simp only[G.grow,hk,if_false]at hq h0 ⊢
   exact fun hn=>hn k q hq h0 rfl
theorem P6.growR {g:G} (hg:P6 g) {n:Nat} (hn:g.M n=none) {r:Rw} {cap:Nat} {w:World} {o:Obj}
  (hw:w=g.w.alloc o∨w=g.w.drew.alloc o) (hR:A4q (g.grow n r cap w) n r):P6 (g.grow n r cap w):=by
 have hle:=Le.grow hn r cap hw
 have hh:w.heap=g.w.heap.push o:=by rcases hw with rfl | rfl<;>rfl
 refine⟨fun k q hk=>?_,fun k m q q' hk hm hk0 hm0 he=>?_,fun b hb=>Nat.lt_of_lt_of_le (hg.kd b hb) hle.size,fun b hb k q hk h0=>?_⟩
 ·by_cases hkn:k=n
  ·subst hkn
   simp only[G.grow,if_true,Option.some.injEq]at hk
   subst hk
   exact hR
  ·have hk':g.M k=some (some q):=by simpa[G.grow,hkn]using hk
   have hr:=hg.rows k q hk'
   refine hr.keep hg hle (by simp[G.grow,hkn]) fun h0=>?_
   show w.heap[_]?=_
   rw[hh,Array.getElem?_push]
   have:=hr.lt h0
   rw[if_neg (by omega)]
 ·by_cases hkn:k=n<;>by_cases hmn:m=n
  ·rw[hkn,hmn]
  ·have hm':g.M m=some (some q'):=by simpa[G.grow,hmn]using hm
   have:=(hg.rows m q' hm').lt (by simpa[G.grow,hmn]using hm0)
   simp[G.grow,hkn,hmn]at he
   omega
  ·have hk':g.M k=some (some q):=by simpa[G.grow,hkn]using hk
   have:=(hg.rows k q hk').lt (by simpa[G.grow,hkn]using hk0)
   simp[G.grow,hkn,hmn]at he
   omega
  ·have hm':g.M m=some (some q'):=by simpa[G.grow,hmn]using hm
   have hk':g.M k=some (some q):=by simpa[G.grow,hkn]using hk
   exact hg.inj k m q q' hk' hm' (by simpa[G.grow,hkn]using hk0) (by simpa[G.grow,hmn]using hm0) (by simpa[G.grow,hkn,hmn]using he)
 ·by_cases hkn:k=n
  ·have:=hg.kd b hb
   simp[G.grow,hkn]
   omega
  ·have hk':g.M k=some (some q):=by simpa[G.grow,hkn]using hk
   simpa[G.grow,hkn]using hg.kl b hb k q hk' (by simpa[G.grow,hkn]using h0)
theorem P6.grow {g:G} (hg:P6 g) {n:Nat} (hn:g.M n=none) {r:Rw} {cap:Nat} {w:World} {cells:Array Value} {e:TypeId}
  (hw:w=g.w.alloc (.cells cells e)∨w=g.w.drew.alloc (.cells cells e)) (hs0:r.s≠0) (hs:cells.size=cap*r.s) (hl:r.els.length≤cap)
  (hc:∀ (i:Nat) (x:T),r.els[i]?=some x→x.cells.length=r.s∧∀ (j:Nat) (y:T),x.cells[j]?=some y→∃ c,cells[i*r.s+j]?=some c∧VT g y c):P6 (g.grow n r cap w):=by
 have hle:=Le.grow hn r cap hw
 have hh:w.heap=g.w.heap.push (.cells cells e):=by rcases hw with rfl | rfl<;>rfl
 refine P6.growR hg hn hw (.inr (.inl ⟨hs0,cells,e,by simp[G.grow,hh],by simpa[G.grow]using hs,by simpa[G.grow]using hl,fun i x hx=>⟨(hc i x hx).1,fun j y hy=>?_⟩⟩))
 obtain⟨c,h1,h2⟩:=(hc i x hx).2 j y hy
 exact⟨c,h1,h2.mono hg hle⟩
def G.put (g:G) (n:Nat) (r:Rw) (w:World):G:=⟨fun k=>if k=n then some (some r)else g.M k,g.β,g.K,w⟩
theorem A8h (M:Nat→Option (Option Rw)) (n:Nat) (r:Rw) (fresh:Nat):(fun k=>if k=n then some (some r)else M k)=upd M [(n,some r)] fresh []:=by
 funext k
 simp only[upd,List.find?_cons,List.find?_nil]
 by_cases h:k=n
 ·subst h;simp
 ·have:(n==k)=false:=by simpa using fun e=>h e.symm
  simp[h,this]
  intro h1 h2;omega
theorem Le.put {g:G} {n:Nat} {r r':Rw} (hn:g.M n=some (some r)) (h0:(g.β n).2≠0) {w:World} (hsz:w.heap.size=g.w.heap.size) (hos:w.os=g.w.os) (htape:w.tape=g.w.tape) (hout:w.output=g.w.output) (hfr:∀ b,b≠(g.β n).1→w.heap[b]?=g.w.heap[b]?):Le g (g.put n r' w):=by
 refine⟨fun k hk=>?_,by simp[G.put,hsz],hos,htape,hout,fun b hb hnl=>hfr b fun e=>hnl n r hn h0 e.symm,fun b hb=>hb,fun b _ hb => .inl hb,fun k q hq hq0 hlt=>?_⟩
 ·by_cases h:k=n
  ·subst h;simp[G.put]
  ·simp[G.put,h,hk]
 ·by_cases h:k=n
  ·subst h;exact fun h2=>h2 k r hn h0 rfl
  ·have:g.M k=some (some q):=by simpa[G.put,h]using hq
   exact fun h2=>h2 k q this hq0 rfl
theorem P6.putR {g:G} (hg:P6 g) {n:Nat} {r r':Rw} (hn:g.M n=some (some r)) (h0:(g.β n).2≠0) {w:World} (hle:Le g (g.put n r' w)) (hsz:w.heap.size=g.w.heap.size) (hfr:∀ b,b≠(g.β n).1→w.heap[b]?=g.w.heap[b]?) (hR:A4q (g.put n r' w) n r'):P6 (g.put n r' w):=by
 have live:∀ k q,(g.put n r' w).M k=some (some q)→∃ q',g.M k=some (some q'):=fun k q hk=>by
  by_cases h:k=n
  ·exact⟨r,h▸hn⟩
  ·exact⟨q,by simpa[G.put,h]using hk⟩
 refine⟨fun k q hk=>?_,fun k m q q' hk hm hk0 hm0 he=>?_,fun b hb=>by simpa[G.put,hsz]using hg.kd b hb,fun b hb k q hk hk0=>?_⟩
 ·by_cases h:k=n
  ·subst h
   simp only[G.put,if_true,Option.some.injEq]at hk
   subst hk
   exact hR
  ·have hk':g.M k=some (some q):=by simpa[G.put,h]using hk
   refine(hg.rows k q hk').keep hg hle rfl fun hk0=>hfr _ fun e'=>h (hg.inj k n q r hk' hn hk0 h0 e')
 ·obtain⟨a,ha⟩:=live k q hk
  obtain⟨b,hb⟩:=live m q' hm
  exact hg.inj k m a b ha hb hk0 hm0 he
 ·obtain⟨a,ha⟩:=live k q hk
  exact hg.kl b hb k a ha hk0
theorem P6.put {g:G} (hg:P6 g) {n:Nat} {r r':Rw} (hn:g.M n=some (some r)) (h0:(g.β n).2≠0) {old cells:Array Value} {e:TypeId} (ho:g.w.heap[(g.β n).1]?=some (.cells old e (0,0)))
  (hs0:r'.s≠0) (hs:cells.size=(g.β n).2*r'.s) (hl:r'.els.length≤(g.β n).2)
  (hc:∀ (i:Nat) (x:T),r'.els[i]?=some x→x.cells.length=r'.s∧∀ (j:Nat) (y:T),x.cells[j]?=some y→∃ c,cells[i*r'.s+j]?=some c∧VT g y c) :
  P6 (g.put n r' (g.w.setRow (g.β n).1 cells))∧Le g (g.put n r' (g.w.setRow (g.β n).1 cells)):=by
 have hfr:∀ b,b≠(g.β n).1→(g.w.setRow (g.β n).1 cells).heap[b]?=g.w.heap[b]?:=fun b hb=>setRow_other _ _ _ _ hb
 have hle:=Le.put (r':=r') hn h0 (w:=g.w.setRow (g.β n).1 cells) (by simp) rfl rfl rfl hfr
 refine⟨P6.putR hg hn h0 hle (by simp) hfr (.inr (.inl ⟨hs0,cells,e,setRow_heap _ _ _ _ _ _ ho,hs,hl,fun i x hx=>⟨(hc i x hx).1,fun j y hy=>?_⟩⟩)),hle⟩
 obtain⟨c,hc,hv⟩:=(hc i x hx).2 j y hy
 exact⟨c,hc,hv.mono hg hle⟩
theorem A4q.get {g:G} {n:Nat} {r:Rw} (h:A4q g n r) (hs:r.s≠0) {i j:Nat} {x y:T} (hx:r.els[i]?=some x) (hy:x.cells[j]?=some y) :
  ∃ c,g.w.cell? ⟨(g.β n).1,i*r.s+j,none⟩=some c∧VT g y c:=by
 obtain⟨_,cells,e,h1,_,_,h4⟩:=h.has hs hx
 obtain⟨c,hc,hv⟩:=(h4 i x hx).2 j y hy
 exact⟨c,by simp[World.cell?,h1,hc],hv⟩
end Go.Proofs.YtlaogbbcipebgaaGreat.Sh
