/- What one operation does to a plain picture of the machine: slices built and appended to. Over whatever program. -/
import Derived.Test.YtlaogbbcipebgaaGreatSh6
namespace Go.Proofs.YtlaogbbcipebgaaGreat.Sh
set_option linter.unusedVariables false
set_option linter.unusedSimpArgs false
open Go
variable {P:Program} {o:Oper} {fresh:Nat}
def A4S (l:List T):List T:=l.flatMap T.cells
theorem A7B {s:Nat}:∀ {l:List T},(∀ x∈l,x.cells.length=s)→(A4S l).length=l.length*s
 | [],_=>by simp[A4S]
 | x::l,h=>by
  have:=A7B (l:=l) fun y hy=>h y (by simp[hy])
  simp only[A4S,List.flatMap_cons,List.length_append,List.length_cons]at this ⊢
  rw[this,h x (by simp),Nat.add_mul]
  omega
theorem B2G {s:Nat}:∀ {l:List T},(∀ x∈l,x.cells.length=s)→∀ {i j:Nat} {x y:T},l[i]?=some x→x.cells[j]?=some y→(A4S l)[i*s+j]?=some y
 | [],_,i,j,x,y,hx,_=>by simp at hx
 | z::l,h,0,j,x,y,hx,hy=>by
  simp at hx;subst hx
  have hj:=(List.getElem?_eq_some_iff.1 hy).1
  simp only[A4S,List.flatMap_cons,Nat.zero_mul,Nat.zero_add]
  rw[List.getElem?_append_left hj,hy]
 | z::l,h,i+1,j,x,y,hx,hy=>by
  have:=B2G (l:=l) (fun y hy=>h y (by simp[hy])) (by simpa using hx) hy
  simp only[A4S,List.flatMap_cons]at this ⊢
  have hz:=h z (by simp)
  rw[List.getElem?_append_right (by rw[hz,Nat.add_mul];omega),hz]
  rw[show(i+1)*s+j-s=i*s+j by rw[Nat.add_mul];omega]
  exact this
theorem A8X {s:Nat}:∀ {l:List T},(∀ x∈l,x.cells.length=s)→∀ {k:Nat} {y:T},(A4S l)[k]?=some y→∃ i j x,k=i*s+j∧l[i]?=some x∧x.cells[j]?=some y
 | [],_,k,y,h=>by simp[A4S]at h
 | z::l,h,k,y,hy=>by
  have hz:=h z (by simp)
  simp only[A4S,List.flatMap_cons]at hy
  by_cases hk:k<s
  ·rw[List.getElem?_append_left (by omega)]at hy
   exact⟨0,k,z,by simp,rfl,hy⟩
  ·rw[List.getElem?_append_right (by omega),hz]at hy
   obtain⟨i,j,x,h1,h2,h3⟩:=A8X (l:=l) (fun y hy=>h y (by simp[hy])) hy
   exact⟨i+1,j,x,by rw[Nat.add_mul];omega,by simpa using h2,h3⟩
theorem VTs.append {g:G} {a b:List T} {c d:List Value} (h:VTs g a c) (k:VTs g b d):VTs g (a++b) (c++d):=by
 refine⟨by simp[h.1,k.1],fun i t v ht hv=>?_⟩
 by_cases hi:i<a.length
 ·rw[List.getElem?_append_left hi]at ht
  rw[List.getElem?_append_left (by rw[← h.1];exact hi)]at hv
  exact h.2 i t v ht hv
 ·rw[List.getElem?_append_right (by omega)]at ht
  rw[List.getElem?_append_right (by rw[← h.1];omega),← h.1]at hv
  exact k.2 _ t v ht hv
theorem A4I {g:G} {s:Nat} {l:List T} (hs:∀ x∈l,x.cells.length=s) {cs:List Value} {cells:Array Value} (h:VTs g (A4S l) cs) (hc:∀ (k:Nat) (c:Value),cs[k]?=some c→cells[k]?=some c) :
  ∀ (i:Nat) (x:T),l[i]?=some x→x.cells.length=s∧∀ (j:Nat) (y:T),x.cells[j]?=some y→∃ c,cells[i*s+j]?=some c∧VT g y c:=fun i x hx =>
 ⟨hs x (List.mem_of_getElem? hx),fun j y hy=>by
  have h1:=B2G hs hx hy
  have hlt:=(List.getElem?_eq_some_iff.1 h1).1
  rw[h.1]at hlt
  have h2:cs[i*s+j]?=some cs[i*s+j]:=List.getElem?_eq_getElem hlt
  exact⟨_,hc _ _ h2,h.2 _ _ _ h1 h2⟩⟩
def A7J:Nat→List (Nat × Operand)→Bool
 | _,[]=>true
 | k,(i,_)::l=>Nat.beq i k&&A7J (k+1) l
def B02 (s:Nat) (ts:List T):Bool:=ts.all fun t=>Nat.beq t.cells.length s
theorem B6P {s:Nat} {ts:List T} (h:B02 s ts=true):∀ x∈ts,x.cells.length=s:=fun x hx=>by
 unfold B02 at h
 rw[List.all_eq_true]at h
 exact Nat.eq_of_beq_eq_true (h x hx)
def A7K (s:Nat):Nat→List T→List (Nat × Nat × T)
 | _,[]=>[]
 | k,t::l=>(k*s,s,t)::A7K s (k+1) l
theorem B2p (s:Nat):∀ (l:List T) (k i:Nat) (t:T),l[i]?=some t→(A7K s k l)[i]?=some ((k+i)*s,s,t)
 | [],k,i,t,h=>by simp at h
 | x::l,k,0,t,h=>by simp at h;subst h;rfl
 | x::l,k,i+1,t,h=>by
  have:=B2p s l (k+1) i t (by simpa using h)
  rw[show k+1+i=k+(i+1) by omega]at this
  simpa[A7K]using this
theorem B2q (s:Nat):∀ (l:List T) (k:Nat),(A7K s k l).length=l.length
 | [],_=>rfl
 | x::l,k=>by simp[A7K,B2q s l]
theorem B4w {s n:Nat}:∀ (l:List T) (k:Nat),(∀ x∈l,x.cells.length=s)→(k+l.length)*s≤n→A6Z n (A7K s k l)=true
 | [],_,_,_=>rfl
 | x::l,k,h,hn=>by
  have h1:=h x (by simp)
  have h2:=B4w (n:=n) l (k+1) (fun y hy=>h y (by simp[hy])) (by simp only[List.length_cons]at hn;rw[show k+1+l.length=k+(l.length+1) by omega];exact hn)
  have h3:k*s+s≤n:=by
   refine Nat.le_trans ?_ hn
   rw[← Nat.succ_mul]
   exact Nat.mul_le_mul_right _ (by simp)
  simp only[A7K,A6Z,Bool.and_eq_true]
  exact⟨⟨by rw[h1];exact Nat.beq_refl s,Nat.ble_eq_true_of_le h3⟩,h2⟩
theorem B1U {s:Nat}:∀ (l A Z:List T) (k:Nat),(∀ x∈l,x.cells.length=s)→A.length=k*s→Z.length=l.length*s→A8W (A++Z) ((A7K s k l).map fun q=>(q.1,q.2.2))=A++A4S l
 | [],A,Z,k,_,_,hz=>by
  have:Z=[]:=List.eq_nil_of_length_eq_zero (by simpa using hz)
  subst this
  simp[A7K,A8W,A4S]
 | x::l,A,Z,k,h,ha,hz=>by
  have h1:=h x (by simp)
  simp only[A7K,List.map_cons,A8W]
  simp only[List.length_cons,Nat.add_mul,Nat.one_mul]at hz
  rw[← ha,List.take_left,List.drop_append,List.drop_eq_nil_of_le (by omega),List.nil_append,show A.length+x.cells.length-A.length=x.cells.length by omega]
  rw[B1U l (A++x.cells) (Z.drop x.cells.length) (k+1) (fun y hy=>h y (by simp[hy])) (by simp[ha,h1,Nat.add_mul]) (by simp[h1,hz])]
  simp[A4S]
theorem B75 {g:G} (hg:P6 g) {n:Nat} (hn:g.M n=none) {s cap:Nat} {l:List T} (hs:∀ x∈l,x.cells.length=s) {cs:List Value} {cells:Array Value} (h:VTs g (A4S l) cs) (hc:∀ (k:Nat) (c:Value),cs[k]?=some c→cells[k]?=some c)
  (h0:s≠0) (hz:cells.size=cap*s) (hl:l.length≤cap) (e:TypeId) {w:World} (hw:w=g.w.alloc (.cells cells e)∨w=g.w.drew.alloc (.cells cells e)):P6 (g.grow n ⟨s,l⟩ cap w) :=
 P6.grow hg hn hw h0 hz hl (A4I hs h hc)
theorem VT.newRow {g:G} {n s cap len:Nat} {r:Rw} {w:World} (h0:s≠0) (h:len≤cap):VT (g.grow n r cap w) (.row n s 0 len) (.slice (some ⟨g.w.heap.size,0,none⟩) len cap):=by
 have:=VT.row (g:=g.grow n r cap w) n s 0 len (some ⟨g.w.heap.size,0,none⟩) (by simp[G.grow]) h0 (by simpa[G.grow]using h) (fun _=>by simp[G.grow])
 simpa[G.grow]using this
theorem B2N {t e:TypeId} {i ei:TI} {len:Nat} {parts:Array (Nat × Operand)} {ts:List T} (hop:o.op = .buildSlice t len parts) (ht:TOk P t i) (hsl:i.sl=some e) (he:TOk P e ei) (hl:parts.toList.length=ts.length) (hlen:ts.length=len)
  (hsq:A7J 0 parts.toList=true) (hs:B02 ei.size ts=true) (h1:A3f ts=true) (hb:len*ei.size≤16777216) (hs0:Nat.beq ei.size 0=false):OpS P o ((parts.toList.map (·.2)).zip ts) [] [] fresh [⟨ei.size,ts⟩] (.row fresh ei.size 0 len) :=
 .of_run (fun c h=>by rw[hop]at h;cases h) fun g a hg hi hr hn=>by
  obtain⟨info,zv,hinf,hz,hsz,_,hzs,_⟩:=he.info
  have hn0:=hn 0 (by simp)
  rw[Nat.add_zero]at hn0
  have hvt:=VTs.of_ins (g:=g) (a:=a) (xs:=parts.toList.map (·.2)) (ts:=ts) (by simpa using hl) (fun p hp=>hi p hp)
  have hsm:=B6P hs
  have hseq:∀ (ps:List (Nat × Operand)) (k:Nat),A7J k ps=true→∀ (j:Nat) (p:Nat × Operand),ps[j]?=some p→p.1=k+j:=by
   intro ps
   induction ps with
   | nil=>intro k _ j p hp;simp at hp
   | cons q ps ih =>
    intro k hk j p hp
    obtain⟨qi,qx⟩:=q
    simp only[A7J,Bool.and_eq_true]at hk
    cases j with
    | zero=>simp at hp;subst hp;exact Nat.eq_of_beq_eq_true hk.1
    | succ j=>rw[ih (k+1) hk.2 j p (by simpa using hp)];omega
  obtain⟨cells0,hc0⟩:∃ c:Array Value,c.size=len*ei.size∧((len*ei.size=0→(Array.range (len*info.size)).map (fun k=>(#[]:Array Value)[k%0]!)=c)∧(len*ei.size≠0→(Array.range (len*info.size)).map (fun k=>zv.cells[k%zv.cells.size]!)=c)):=by
   by_cases h0:len*ei.size=0
   ·exact⟨_,by simp[hsz],fun _=>rfl,fun h=>absurd h0 h⟩
   ·exact⟨_,by simp[hsz],fun h=>absurd h h0,fun _=>rfl⟩
  have hbot:VTs g (List.replicate (len*ei.size) .bot) cells0.toList:=⟨by simp[hc0.1],fun j d c hd _=>by
   rw[List.getElem?_replicate]at hd
   split at hd
   ·injection hd with hd;subst hd;exact .bot _
   ·cases hd⟩
  obtain⟨cs',hf1,hf2⟩:=A7V (g:=g) (fun k=>some (k*info.size,info.size)) (parts.toList.map fun p=>(p.1,a.eval p.2)) (A7K ei.size 0 ts) cells0 (List.replicate (len*ei.size) .bot) (by simp[B2q,← hl]) (fun k p q hp hq=>by
   simp only[List.getElem?_map,Option.map_eq_some_iff]at hp
   obtain⟨⟨n,x⟩,hx,rfl⟩:=hp
   have hlt:k<ts.length:=by rw[← hl];exact(List.getElem?_eq_some_iff.1 hx).1
   have htk:ts[k]?=some ts[k]:=List.getElem?_eq_getElem hlt
   have:=B2p ei.size ts 0 k _ htk
   rw[this]at hq
   injection hq with hq
   subst hq
   have hk:=hseq _ 0 hsq k _ hx
   dsimp only at hk ⊢
   refine⟨by rw[hk,hsz],hvt.2 k _ _ htk (by simp[hx]),B0z h1 (List.getElem_mem hlt)⟩) hbot (B4w ts 0 hsm (by simp[hlen]))
  have hfl:=B1U ts [] (List.replicate (len*ei.size) .bot) 0 hsm (by simp) (by simp[hlen])
  simp only[List.nil_append]at hfl
  rw[hfl]at hf2
  have hcz:cs'.size=len*ei.size:=by have:=hf2.1;rw[A7B hsm,hlen]at this;simpa using this.symm
  have hG:=B75 hg hn0 (cap:=len) hsm hf2 (cells:=cs') (fun k c h=>by simpa using h) (Nat.ne_of_beq_eq_false hs0) hcz (by omega) e (.inl rfl)
  refine⟨.slice (some ⟨g.w.heap.size,0,none⟩) len len,_,.inl ?_,hG,Le.grow hn0 _ _ (.inl rfl),A9w _ _ _,VT.newRow (Nat.ne_of_beq_eq_false hs0) (Nat.le_refl _)⟩
  have hb':¬ (len*info.size>2^24):=by rw[hsz];omega
  by_cases h0:len*ei.size=0
  ·have h0':len*info.size=0:=by rw[hsz];exact h0
   have:=hc0.2.1 h0
   have hcell:cells0=#[]:=by apply Array.eq_empty_of_size_eq_zero;rw[hc0.1,h0]
   have hr0:Array.range 0=#[]:=rfl
   rw[hcell]at hf1
   simp[execOp,hop,Instr.buildSlice,run_underlying (ht.slice hsl),sizeOf,typeInfo,hinf,h0',hr0,hf1,newRow,G.grow]
  ·have h0':len*info.size≠0:=by rw[hsz];exact h0
   have:=hc0.2.2 h0
   rw[← this]at hf1
   simp[execOp,hop,Instr.buildSlice,run_underlying (ht.slice hsl),sizeOf,typeInfo,hinf,zeroValue,hz,h0',hb',hf1,newRow,G.grow]
end Go.Proofs.YtlaogbbcipebgaaGreat.Sh
