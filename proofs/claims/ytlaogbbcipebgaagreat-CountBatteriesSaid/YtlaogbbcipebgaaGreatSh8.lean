/- What one operation does to a plain picture of the machine: make, append. Over whatever program. -/
import Derived.Test.YtlaogbbcipebgaaGreatSh7
namespace Go.Proofs.YtlaogbbcipebgaaGreat.Sh
set_option linter.unusedVariables false
set_option linter.unusedSimpArgs false
open Go
variable {P:Program} {o:Oper} {fresh:Nat}
theorem B3W {t e:TypeId} {i ei:TI} {x y:Operand} {k k':IntKind} {q:Nat} (hop:o.op = .makeSlice t x y) (ht:TOk P t i) (hsl:i.sl=some e) (he:TOk P e ei) (hq:q≤9223372036854775807) (hb:ei.bytes*q≤281474976710656) (hs0:Nat.beq ei.size 0=false) :
  OpS P o [(x,.d (.v (.int k q))),(y,.d (.v (.int k' q)))] [] [] fresh [⟨ei.size,List.replicate q ei.z⟩] (.row fresh ei.size 0 q) :=
 .of_run (fun c h=>by rw[hop]at h;cases h) fun g a hg hi hr hn=>by
  obtain⟨info,zv,hinf,hz,hsz,hby,hzs,hzv,hzl,hz1⟩:=he.info
  have hn0:=hn 0 (by simp)
  rw[Nat.add_zero]at hn0
  have e1:=(hi (x,.d (.v (.int k q))) (by simp)).v_eq
  have e2:=(hi (y,.d (.v (.int k' q))) (by simp)).v_eq
  dsimp only at e1 e2
  have hw:IntKind.i64.wrap (q:Int)=q:=IntWalk.i64_in _ (by omega)
  obtain⟨cells,hcells⟩:∃ cells:Array Value,(Array.range (q*info.size)).map (fun j=>(if q*info.size=0 then(#[]:Array Value)else zv.cells)[j%(if q*info.size=0 then(#[]:Array Value)else zv.cells).size]!)=cells:=⟨_,rfl⟩
  have hzc:VTs g ei.z.cells zv.cells.toList:=VT.cells (by rw[hzv];exact VT.ofV g zv) hz1
  have hcz:cells.size=q*ei.size:=by rw[← hcells];simp[hsz]
  have hG:P6 (g.grow fresh ⟨ei.size,List.replicate q ei.z⟩ q (g.w.alloc (.cells cells e))):=by
   refine P6.grow hg hn0 (.inl rfl) (Nat.ne_of_beq_eq_false hs0) hcz (by simp) fun j u hu=>?_
   rw[List.getElem?_replicate]at hu
   split at hu
   ·rename_i hj
    injection hu with hu
    subst hu
    refine⟨hzl,fun m y hy=>?_⟩
    have hm:m<ei.size:=by rw[← hzl];exact(List.getElem?_eq_some_iff.1 hy).1
    have hlt:j*ei.size+m<q*ei.size:=by
     have:=Nat.mul_le_mul_right ei.size (show j+1≤q by omega)
     rw[Nat.add_mul]at this
     omega
    have h0:¬ q*info.size=0:=by rw[hsz];omega
    have hmod:(j*ei.size+m)%zv.cells.size=m:=by rw[hzs,Nat.mul_comm,Nat.mul_add_mod,Nat.mod_eq_of_lt hm]
    have hmz:m<zv.cells.size:=by omega
    refine⟨zv.cells[m],?_,hzc.2 m y _ hy (by simp[hmz])⟩
    rw[← hcells]
    simp only[h0,if_false]
    rw[Array.getElem?_map,Array.getElem?_range,if_pos (by rw[hsz];exact hlt)]
    simp[hmod,hmz]
   ·cases hu
  refine⟨.slice (some ⟨g.w.heap.size,0,none⟩) q q,_,.inl ?_,hG,Le.grow hn0 _ _ (.inl rfl),A9w _ _ _,VT.newRow (Nat.ne_of_beq_eq_false hs0) (Nat.le_refl _)⟩
  have hbb:¬ (281474976710656<(info.bytes:Int)*(q:Int)):=by
   rw[hby]
   have h2:((ei.bytes*q:Nat):Int)≤281474976710656:=Int.ofNat_le.2 hb
   rw[Int.natCast_mul]at h2
   exact Int.not_lt.2 h2
  have hq0:¬ ((q:Int)<0):=by omega
  by_cases h0:q*info.size=0
  ·simp only[h0,if_true]at hcells
   have hr0:Array.range 0=#[]:=rfl
   rw[hr0]at hcells
   simp at hcells
   subst hcells
   simp[execOp,hop,Instr.makeSlice,run_underlying (ht.slice hsl),e1,e2,asInt,asIntOf,typeInfo,hinf,hw,hbb,hq0,sizeOf,h0,newRow,G.grow,hr0]
  ·simp only[h0,if_false]at hcells
   subst hcells
   simp[execOp,hop,Instr.makeSlice,run_underlying (ht.slice hsl),e1,e2,asInt,asIntOf,typeInfo,hinf,hw,hbb,hq0,sizeOf,h0,zeroValue,hz,newRow,G.grow]
def B8k (u:T) (l:List T) (s:Nat) (rn:List (Nat × Rw)):Prop :=
 (u = .d (.v (.slice none 0 0))∧l=[])∨(∃ l0,u = .d (.arr s l0)∧l=l0.map .d)∨(∃ n lo len r,u = .row n s lo len∧(n,r)∈rn∧r.s=s∧lo+len≤r.els.length∧l=(r.els.drop lo).take len)
theorem B41 {g:G} (hg:P6 g) {u:T} {c:Value} {l:List T} {s:Nat} {rn:List (Nat × Rw)} (h:VT g u c) (hu:B8k u l s rn) (hr:∀ p∈rn,g.M p.1=some (some p.2)) :
  ∃ A cap vs,c = .slice A l.length cap∧(∀ x∈l,x.cells.length=s)∧VTs g (A4S l) vs∧(0<l.length→∃ ad,A=some ad∧∀ (j:Nat) (v:Value),vs[j]?=some v→g.w.cell? (ad.add j)=some v):=by
 rcases hu with⟨rfl,rfl⟩ | ⟨l0,rfl,rfl⟩ | ⟨n,lo,len,r,rfl,hm,hs,hle,rfl⟩
 ·exact⟨none,0,[],h.v_eq,by simp,.nil g,fun h=>by simp at h⟩
 ·cases h with | d h =>
  cases h with
  | arr0 s a cap=>exact⟨a,cap,[],rfl,by simp,.nil g,fun h=>by simp at h⟩
  | arr s l b off cap f hc hK hs hw hv =>
    have hsz:∀ x∈l0.map T.d,x.cells.length=s:=fun x hx=>by
     simp only[List.mem_map]at hx
     obtain⟨d,hd,rfl⟩:=hx
     obtain⟨i,hi⟩:=List.getElem?_of_mem hd
     have:=hs i d hi
     cases d<;>simpa[T.cells,D.cells]using this
    have hdc:∀ d:D,(T.d d).cells=d.cells.map .d:=fun d=>by cases d<;>rfl
    obtain⟨vs,h1,h2⟩:=A5P (g:=g) (A4S (l0.map .d)) (fun k c=>g.w.cell? ((⟨b,off,none⟩:Addr).add k)=some c) (fun k y hy=>by
     obtain⟨i,j,x,rfl,hx,hy'⟩:=A8X hsz hy
     rw[List.getElem?_map,Option.map_eq_some_iff]at hx
     obtain⟨d,hd,rfl⟩:=hx
     rw[hdc,List.getElem?_map,Option.map_eq_some_iff]at hy'
     obtain⟨e,he,rfl⟩:=hy'
     exact⟨f i j,by rw[A5y,← Nat.add_assoc];exact hw i d hd j e he,.d (hv i d hd j e he)⟩)
    exact⟨_,cap,vs,by simp,hsz,h1,fun _=>⟨_,rfl,h2⟩⟩
 ·cases h with | row _ _ _ _ a0 hn hs0 hl ha =>
  have hs0':r.s≠0:=by rw[hs];exact hs0
  by_cases hl0:len=0
  ·subst hl0
   exact⟨a0,(g.β n).2-lo,[],by simp,by simp,by rw[List.take_zero];exact .nil g,fun h=>by simp at h⟩
  have hcap:(g.β n).2≠0:=by omega
  have ha:=ha hcap
  subst ha
  have hlen:((r.els.drop lo).take len).length=len:=by simp;omega
  have hrow:=hg.rows n r (hr (n,r) hm)
  have hx0:r.els[lo]?=some r.els[lo]:=List.getElem?_eq_getElem (by omega)
  obtain⟨_,cells,ety,_,_,_,hcell⟩:=hrow.has hs0' hx0
  have hgl:∀ (i:Nat) (x:T),((r.els.drop lo).take len)[i]?=some x→r.els[lo+i]?=some x:=fun i x hx=>by
   rw[List.getElem?_take]at hx
   split at hx
   ·rwa [List.getElem?_drop]at hx
   ·cases hx
  have hsz:∀ x∈(r.els.drop lo).take len,x.cells.length=s:=fun x hx=>by
   obtain⟨i,hi⟩:=List.getElem?_of_mem hx
   rw[← hs]
   exact(hcell _ x (hgl i x hi)).1
  obtain⟨vs,h1,h2⟩:=A5P (g:=g) (A4S ((r.els.drop lo).take len)) (fun k c=>g.w.cell? ((⟨(g.β n).1,lo*s,none⟩:Addr).add k)=some c) (fun k y hy=>by
   obtain⟨i,j,x,rfl,hx,hy'⟩:=A8X hsz hy
   obtain⟨c,hc,hv⟩:=(hg.rows n r (hr (n,r) hm)).get hs0' (hgl i x hx) hy'
   refine⟨c,?_,hv⟩
   rw[A5y,← hc,hs]
   congr 2
   rw[Nat.add_mul]
   omega)
  exact⟨_,_,vs,by rw[hlen],hsz,h1,fun _=>⟨_,rfl,h2⟩⟩
def G.app (g:G) (n m:Nat) (r:Rw) (bc:Nat × Nat) (w:World):G :=
 ⟨fun k=>if k=m then some (some r)else if k=n then some none else g.M k,fun k=>if k=m then bc else g.β k,g.K,w⟩
theorem B6g (M:Nat→Option (Option Rw)) (n m:Nat) (r:Rw) (h:m≠n):(fun k=>if k=m then some (some r)else if k=n then some none else M k)=upd M [(n,none)] m [r]:=by
 funext k
 simp only[upd,List.find?_cons,List.find?_nil,List.length_singleton]
 by_cases hkm:k=m
 ·subst hkm
  have:(n==k)=false:=by simpa using fun e=>h e.symm
  simp[this]
 ·have h2:¬ (m≤k∧k<m+1):=by omega
  by_cases hkn:k=n
  ·subst hkn;simp[hkm]
  ·have:(n==k)=false:=by simpa using fun e=>hkn e.symm
   simp[this,hkm,hkn,h2]
theorem B1N {g:G} (hg:P6 g) {n m:Nat} {r0 r:Rw} (hn:g.M n=some (some r0)) (hm:g.M m=none) {bc:Nat × Nat} {w:World} (hbc:bc.2=0∨(bc.1=(g.β n).1∧(g.β n).2≠0)∨bc.1=g.w.heap.size)
  (hos:w.os=g.w.os) (htape:w.tape=g.w.tape) (hout:w.output=g.w.output) (hsize:g.w.heap.size≤w.heap.size) (hfr:∀ b,b<g.w.heap.size→(bc.2≠0→b≠bc.1)→w.heap[b]?=g.w.heap[b]?)
  (hR:Le g (g.app n m r bc w)→A4q (g.app n m r bc w) m r) :
  P6 (g.app n m r bc w)∧Le g (g.app n m r bc w):=by
 have hmn:m≠n:=fun h=>by rw[h,hn]at hm;cases hm
 have live:∀ k q,k≠m→(g.app n m r bc w).M k=some (some q)→k≠n∧g.M k=some (some q):=fun k q hk h=>by
  by_cases hkn:k=n
  ·subst hkn;simp[G.app,hk]at h
  ·exact⟨hkn,by simpa[G.app,hk,hkn]using h⟩
 have hβ:∀ k,k≠m→(g.app n m r bc w).β k=g.β k:=fun k hk=>by simp[G.app,hk]
 have hβm:(g.app n m r bc w).β m=bc:=by simp[G.app]
 have hne:∀ k q,k≠n→g.M k=some (some q)→(g.β k).2≠0→bc.2≠0→(g.β k).1≠bc.1:=fun k q hk hq h0 hb0 he=>by
  rcases hbc with hb | ⟨hb,hn0⟩ | hb
  ·exact hb0 hb
  ·exact hk (hg.inj k n q r0 hq hn h0 hn0 (he.trans hb))
  ·have:=(hg.rows k q hq).lt h0;omega
 have hle:Le g (g.app n m r bc w):=by
  refine⟨fun k hk=>?_,hsize,hos,htape,hout,fun b hb hnl=>hfr b hb fun hb0 e=>?_,fun b hb=>hb,fun b _ hb => .inl hb,fun k q hq h0 hlt=>?_⟩
  ·have hkm:k≠m:=fun e=>hk (e▸hm)
   refine⟨?_,hβ k hkm⟩
   by_cases hkn:k=n
   ·subst hkn;simp[G.app,hkm]
   ·simpa[G.app,hkm,hkn]using hk
  ·rcases hbc with h | ⟨h,hn0⟩ | h
   ·exact hb0 h
   ·exact hnl n r0 hn hn0 (by rw[← h,← e])
   ·omega
  ·by_cases hkm:k=m
   ·subst hkm
    rw[hβm]at hlt h0 ⊢
    rcases hbc with h | ⟨h,hn0⟩ | h
    ·exact absurd h h0
    ·rw[h];exact fun hh=>hh n r0 hn hn0 rfl
    ·omega
   ·rw[hβ k hkm]at h0 ⊢
    exact fun hh=>hh k q (live k q hkm hq).2 h0 rfl
 refine⟨⟨fun k q hk=>?_,fun k j q q' hk hj hk0 hj0 he=>?_,fun b hb=>Nat.lt_of_lt_of_le (hg.kd b hb) hsize,fun b hb k q hk h0=>?_⟩,hle⟩
 ·by_cases hkm:k=m
  ·subst hkm
   simp only[G.app,if_true,Option.some.injEq]at hk
   subst hk
   exact hR hle
  ·obtain⟨hkn,hk'⟩:=live k q hkm hk
   exact(hg.rows k q hk').keep hg hle (hβ k hkm) fun h0=>(hfr _ ((hg.rows k q hk').lt h0) (hne k q hkn hk' h0))
 ·by_cases hkm:k=m<;>by_cases hjm:j=m
  ·rw[hkm,hjm]
  ·obtain⟨hjn,hj'⟩:=live j q' hjm hj
   rw[hkm,hβm]at he hk0
   rw[hβ j hjm]at he hj0
   exact absurd he.symm (hne j q' hjn hj' hj0 hk0)
  ·obtain⟨hkn,hk'⟩:=live k q hkm hk
   rw[hjm,hβm]at he hj0
   rw[hβ k hkm]at he hk0
   exact absurd he (hne k q hkn hk' hk0 hj0)
  ·obtain⟨_,hk'⟩:=live k q hkm hk
   obtain⟨_,hj'⟩:=live j q' hjm hj
   rw[hβ k hkm]at he hk0
   rw[hβ j hjm]at he hj0
   exact hg.inj k j q q' hk' hj' hk0 hj0 he
 ·by_cases hkm:k=m
  ·subst hkm
   rw[hβm]at h0 ⊢
   rcases hbc with h | ⟨h,hn0⟩ | h
   ·exact absurd h h0
   ·rw[h];exact hg.kl b hb n r0 hn hn0
   ·have hb':b<g.w.heap.size:=hg.kd b hb
    omega
  ·rw[hβ k hkm]at h0 ⊢
   exact hg.kl b hb k q (live k q hkm hk).2 h0
theorem B0D {g:G} (hg:P6 g) {n m:Nat} {r0 r:Rw} (hn:g.M n=some (some r0)) (hm:g.M m=none) {bc:Nat × Nat} {w:World} (hbc:(bc.1=(g.β n).1∧(g.β n).2≠0)∨bc.1=g.w.heap.size)
  (hos:w.os=g.w.os) (htape:w.tape=g.w.tape) (hout:w.output=g.w.output) (hsize:g.w.heap.size≤w.heap.size) (hfr:∀ b,b<g.w.heap.size→b≠bc.1→w.heap[b]?=g.w.heap[b]?)
  {cells:Array Value} {e:TypeId} (hh:w.heap[bc.1]?=some (.cells cells e (0,0))) (hs0:r.s≠0) (hs:cells.size=bc.2*r.s) (hl:r.els.length≤bc.2)
  (hb0:bc.2≠0) (hc:∀ (i:Nat) (x:T),r.els[i]?=some x→x.cells.length=r.s∧∀ (j:Nat) (y:T),x.cells[j]?=some y→∃ c,cells[i*r.s+j]?=some c∧VT g y c) :
  P6 (g.app n m r bc w)∧Le g (g.app n m r bc w):=by
 have hβm:(g.app n m r bc w).β m=bc:=by simp[G.app]
 refine B1N hg hn hm (.inr hbc) hos htape hout hsize (fun b hb h=>hfr b hb (h hb0)) fun hle => .inr (.inl ⟨hs0,cells,e,by rw[hβm];exact hh,by rw[hβm];exact hs,by rw[hβm];exact hl,fun i x hx=>⟨(hc i x hx).1,fun j y hy=>?_⟩⟩)
 obtain⟨c,h1,h2⟩:=(hc i x hx).2 j y hy
 exact⟨c,h1,h2.mono hg hle⟩
theorem B3S {g:G} {l:List T} {vs:List Value} (h:VTs g (A4S l) vs) (h1:A3f l=true):∀ v∈vs,v.oneCell'=true:=fun v hv=>by
 obtain⟨k,hk⟩:=List.getElem?_of_mem hv
 have hlt:=(List.getElem?_eq_some_iff.1 hk).1
 rw[← h.1]at hlt
 have hf:(A4S l)[k]?=some (A4S l)[k]:=List.getElem?_eq_getElem hlt
 refine(h.2 k _ v hf hk).one ?_
 have hm:(A4S l)[k]∈A4S l:=List.getElem_mem hlt
 unfold A4S at hm
 rw[List.mem_flatMap]at hm
 obtain⟨x,hx,hy⟩:=hm
 exact B0z h1 hx _ hy
theorem A7M {vs:List Value} {cells:Array Value} (h:cells.toList.take vs.length=vs):∀ (k:Nat) (c:Value),vs[k]?=some c→cells[k]?=some c:=fun k c hk=>by
 rw[← h,List.getElem?_take]at hk
 split at hk
 ·simpa using hk
 ·cases hk
theorem B3T {t e:TypeId} {i ei:TI} {x y:Operand} {u:T} {l:List T} {n s len:Nat} {r:Rw} {rn:List (Nat × Rw)} (hop:o.op = .call { callee := .builtin .append,args:=#[x,y],argTypes:=#[t,t] }) (ht:TOk P t i) (hsl:i.sl=some e) (he:TOk P e ei)
  (hz':ei.size=s) (hu:B8k u l s rn) (hm:(n,r)∈rn) (hs':r.s=s) (hlen':r.els.length=len) (h1:A3f l=true) (h63:len+l.length≤9223372036854775807) (hb:(len+l.length)*ei.bytes≤140737488355328) (hnf:n≠fresh) :
  OpS P o [(x,.row n s 0 len),(y,u)] rn [(n,none)] fresh [⟨s,r.els++l⟩] (.row fresh s 0 (len+l.length)) :=
 .of_run (fun c h=>by rw[hop]at h;cases h) fun g a hg hi hr hn=>by
  subst hz' hlen'
  obtain⟨info,zv,hinf,hz,hsz,hby,hzs,_⟩:=he.info
  have hn0:=hn 0 (by simp)
  rw[Nat.add_zero]at hn0
  have hx:=hi (x,.row n ei.size 0 r.els.length) (by simp)
  have hy:=hi (y,u) (by simp)
  have hnM:=hr (n,r) hm
  dsimp only at hx hy hnM
  generalize hxv:a.eval x=xv at hx
  cases hx with | row _ _ _ _ a0 hnn hs0 hcap ha =>
  rw[Nat.zero_add]at hcap
  rw[Nat.sub_zero]at hxv
  rw[Nat.zero_mul]at ha
  have hrs0:r.s≠0:=by rw[hs'];exact hs0
  obtain⟨A,cap,vs,hv,hs,hvs,hrd⟩:=B41 hg hy hu hr
  have hlen:vs.length=l.length*ei.size:=by rw[← hvs.1,A7B hs]
  by_cases hc0:(g.β n).2=0
  · -- nothing is there
   have hr0:r.els=[]:=List.length_eq_zero_iff.1 (by omega)
   rw[hc0,hr0,List.length_nil]at hxv
   rw[hr0,List.nil_append,List.length_nil,Nat.zero_add]
   rw[hr0,List.length_nil,Nat.zero_add]at h63 hb
   have hupd:=B6g g.M n fresh ⟨ei.size,l⟩ (fun h=>hnf h.symm)
   by_cases h0:0<l.length
   ·obtain⟨ad,rfl,hrda⟩:=hrd h0
    have hge:=grownCap_ge g.w l.length 0 e
    have hrun:(Builtin.append_ #[t,t] o.type #[.slice a0 0 0,a.eval y]).run P g.w = .ok (.slice (some ⟨g.w.heap.size,0,none⟩) l.length (grownCap g.w l.length 0 e)) (g.w.drew.alloc (.cells (vs.toArray++Builtin.zeroCells zv.cells (grownCap g.w l.length 0 e-l.length)) e)):=by
     rw[hv]
     cases a0 with
     | none=>exact run_append_nil (P:=P) g.w t o.type e info zv (ht.slice hsl) hinf hz ad l.length cap vs (by rw[hlen,hsz]) hrda h0 (by omega) (by rw[hby];omega)
     | some a1 =>
      have:=run_append_grow (P:=P) g.w t o.type e info zv (ht.slice hsl) hinf hz a1 0 0 [] (by simp) (fun j v hj=>by simp at hj) ad l.length cap vs (by rw[hlen,hsz]) hrda (by omega) (by omega) (by rw[hby];exact growslice_fits (by omega) (by simpa using hb))
      simpa using this
    obtain⟨hG,hL⟩:=B0D hg hnM hn0 (r:=⟨ei.size,l⟩) (bc:=(g.w.heap.size,grownCap g.w l.length 0 e))
     (w:=g.w.drew.alloc (.cells (vs.toArray++Builtin.zeroCells zv.cells (grownCap g.w l.length 0 e-l.length)) e))
     (.inr rfl) rfl rfl rfl (by simp) (fun b hb _=>by
      show(g.w.heap.push _)[b]?=_
      rw[Array.getElem?_push,if_neg (by omega)])
     (heap_alloc_new g.w.drew _) hs0 (by
      simp only[Array.size_append,List.size_toArray,size_zeroCells,hlen,hzs,← Nat.add_mul]
      congr 1
      omega) hge (by omega) (A4I hs hvs (A7M (by simp)))
    refine⟨.slice (some ⟨g.w.heap.size,0,none⟩) l.length (grownCap g.w l.length 0 e),_,.inl ?_,hG,hL,hupd,?_⟩
    ·simp[execOp,hop,resolve,invoke,builtin,hxv,hrun,G.app]
    ·have:=VT.row (g:=g.app n fresh ⟨ei.size,l⟩ (g.w.heap.size,grownCap g.w l.length 0 e) (g.w.drew.alloc (.cells (vs.toArray++Builtin.zeroCells zv.cells (grownCap g.w l.length 0 e-l.length)) e))) fresh ei.size 0 l.length (some ⟨g.w.heap.size,0,none⟩) (by simp[G.app]) hs0 (by simpa[G.app]using hge) (fun _=>by simp[G.app])
     simpa[G.app]using this
   ·have hl0:l=[]:=List.eq_nil_of_length_eq_zero (by omega)
    subst hl0
    have hvs0:vs=[]:=List.eq_nil_of_length_eq_zero (by simpa using hlen)
    subst hvs0
    have hrun:(Builtin.append_ #[t,t] o.type #[.slice a0 0 0,a.eval y]).run P g.w = .ok (.slice a0 0 0) g.w:=by
     cases A<;>cases a0<;>simp[Builtin.append_,run_underlying (ht.slice hsl),sizeOf,typeInfo,hinf,Builtin.lenOf,hv,Builtin.firstCells,loadCells,loadCellsFrom,storeCells]
    obtain⟨hG,hL⟩:=B1N hg hnM hn0 (r:=⟨ei.size,[]⟩) (bc:=(0,0)) (w:=g.w) (.inl rfl) rfl rfl rfl (Nat.le_refl _) (fun _ _ _=>rfl) fun _ => .inl ⟨by simp[G.app],rfl,hs0⟩
    refine⟨.slice a0 0 0,_,.inl ?_,hG,hL,hupd,?_⟩
    ·simp[execOp,hop,resolve,invoke,builtin,hxv,hrun,G.app]
    ·have:=VT.row (g:=g.app n fresh ⟨ei.size,[]⟩ (0,0) g.w) fresh ei.size 0 0 a0 (by simp[G.app]) hs0 (by simp[G.app]) (fun h=>by simp[G.app]at h)
     simpa[G.app]using this
  have ha:=ha hc0
  subst ha
  obtain⟨cells,ety,hh,hcz,_,hrow⟩:B7i g n r:=by
   rcases hg.rows n r hnM with⟨h1,_⟩ | ⟨_,h1⟩ | ⟨h1,_⟩
   ·exact absurd h1 hc0
   ·exact h1
   ·exact absurd h1 hrs0
  rw[hs']at hcz hrow
  have hes:∀ x∈r.els,x.cells.length=ei.size:=fun x hx=>by
   obtain⟨j,hj⟩:=List.getElem?_of_mem hx
   exact(hrow j x hj).1
  have hall:∀ x∈r.els++l,x.cells.length=ei.size:=fun x hx=>by
   rcases List.mem_append.1 hx with h | h
   ·exact hes x h
   ·exact hs x h
  obtain⟨olds,ho1,ho2⟩:=A5P (g:=g) (A4S r.els) (fun k c=>cells[k]?=some c) (fun k z hz=>by
   obtain⟨i',j',w',rfl,hw',hz'⟩:=A8X hes hz
   exact(hrow i' w' hw').2 j' z hz')
  have holen:olds.length=r.els.length*ei.size:=by rw[← ho1.1,A7B hes]
  have hflat:VTs g (A4S (r.els++l)) (olds++vs):=by
   unfold A4S
   rw[List.flatMap_append]
   exact ho1.append hvs
  have htake:cells.toList.take (r.els.length*ei.size)=olds:=by
   apply List.ext_getElem?
   intro k
   rw[List.getElem?_take]
   by_cases hk:k<r.els.length*ei.size
   ·rw[if_pos hk]
    have hk':k<olds.length:=by omega
    have:=ho2 k olds[k] (List.getElem?_eq_getElem hk')
    rw[List.getElem?_eq_getElem hk']
    simpa using this
   ·rw[if_neg hk,List.getElem?_eq_none (by omega)]
  have hupd:=B6g g.M n fresh ⟨ei.size,r.els++l⟩ (fun h=>hnf h.symm)
  by_cases hroom:r.els.length+l.length≤(g.β n).2
  · -- there is room
   obtain⟨cells',hcells'⟩:∃ c:Array Value,(cells.toList.take (r.els.length*ei.size)++vs++cells.toList.drop (r.els.length*ei.size+vs.length)).toArray=c:=⟨_,rfl⟩
   have hle:=Nat.mul_le_mul_right ei.size hroom
   rw[Nat.add_mul]at hle
   have hrun:(Builtin.append_ #[t,t] o.type #[.slice (some ⟨(g.β n).1,0,none⟩) r.els.length (g.β n).2,a.eval y]).run P g.w = .ok (.slice (some ⟨(g.β n).1,0,none⟩) (r.els.length+l.length) (g.β n).2) (g.w.setRow (g.β n).1 cells'):=by
    have hfc:(Builtin.firstCells ei.size l.length (.slice A l.length cap)).run P g.w = .ok vs.toArray g.w:=by
     by_cases h0:0<l.length
     ·obtain⟨ad,rfl,hrda⟩:=hrd h0
      exact run_firstCells_some g.w ei.size l.length ad l.length cap vs hlen hrda
     ·have hl0:l=[]:=List.eq_nil_of_length_eq_zero (by omega)
      subst hl0
      have:vs=[]:=List.eq_nil_of_length_eq_zero (by simpa using hlen)
      subst this
      cases A<;>simp[Builtin.firstCells,loadCells,loadCellsFrom]
    have hst:=run_storeCells_at (P:=P) (g.β n).1 (r.els.length*ei.size) ety vs 0 cells g.w hh (by rw[Nat.add_zero,hlen,hcz];exact hle) (B3S hvs h1)
    rw[Nat.add_zero,hcells']at hst
    simp[Builtin.append_,run_underlying (ht.slice hsl),sizeOf,typeInfo,hinf,hsz,Builtin.lenOf,hroom,hv,hfc,A5y,hst]
   obtain⟨hG,hL⟩:=B0D hg hnM hn0 (r:=⟨ei.size,r.els++l⟩) (bc:=g.β n) (w:=g.w.setRow (g.β n).1 cells') (.inl ⟨rfl,hc0⟩) rfl rfl rfl (by simp) (fun b _ hb=>setRow_other _ _ _ _ hb)
    (setRow_heap _ _ _ _ _ _ hh) hs0 (by rw[← hcells'];simp;rw[hlen,hcz];omega) (by simpa using hroom) hc0
    (A4I hall hflat (A7M (by
     rw[← hcells',htake]
     simp only[List.append_assoc]
     rw[← List.append_assoc,List.take_left])))
   refine⟨.slice (some ⟨(g.β n).1,0,none⟩) (r.els.length+l.length) (g.β n).2,_,.inl ?_,hG,hL,hupd,?_⟩
   ·simp[execOp,hop,resolve,invoke,builtin,hxv,hrun,G.app]
   ·have:=VT.row (g:=g.app n fresh ⟨ei.size,r.els++l⟩ (g.β n) (g.w.setRow (g.β n).1 cells')) fresh ei.size 0 (r.els.length+l.length) (some ⟨(g.β n).1,0,none⟩) (by simp[G.app]) hs0 (by simpa[G.app]using hroom) (fun _=>by simp[G.app])
    simpa[G.app]using this
  · -- a new block
   have h0:0<l.length:=by omega
   obtain⟨ad,rfl,hrda⟩:=hrd h0
   have hrun:=run_append_grow (P:=P) g.w t o.type e info zv (ht.slice hsl) hinf hz ⟨(g.β n).1,0,none⟩ r.els.length (g.β n).2 olds (by rw[holen,hsz]) (fun j v hj=>by
     rw[A5y,Nat.zero_add]
     have:=ho2 j v hj
     simp[World.cell?,hh,this]) ad l.length cap vs (by rw[hlen,hsz]) hrda (by omega) (by omega) (by rw[hby];exact growslice_fits (by omega) hb)
   have hge:=grownCap_ge g.w (r.els.length+l.length) (g.β n).2 e
   have hsz2:(olds.toArray++vs.toArray++Builtin.zeroCells zv.cells (grownCap g.w (r.els.length+l.length) (g.β n).2 e-(r.els.length+l.length))).size=grownCap g.w (r.els.length+l.length) (g.β n).2 e*ei.size:=by
    simp only[Array.size_append,List.size_toArray,size_zeroCells,hlen,holen,hzs,← Nat.add_mul]
    congr 1
    omega
   obtain⟨hG,hL⟩:=B0D hg hnM hn0 (r:=⟨ei.size,r.els++l⟩) (bc:=(g.w.heap.size,grownCap g.w (r.els.length+l.length) (g.β n).2 e))
    (w:=g.w.drew.alloc (.cells (olds.toArray++vs.toArray++Builtin.zeroCells zv.cells (grownCap g.w (r.els.length+l.length) (g.β n).2 e-(r.els.length+l.length))) e))
    (.inr rfl) rfl rfl rfl (by simp) (fun b hb _=>by
     show(g.w.heap.push _)[b]?=_
     rw[Array.getElem?_push,if_neg (by omega)])
    (heap_alloc_new g.w.drew _) hs0 hsz2 (by simpa using hge) (by dsimp only;omega)
    (A4I hall hflat (A7M (by
     simp only[Array.toList_append,List.append_assoc]
     rw[← List.append_assoc,List.take_left])))
   refine⟨.slice (some ⟨g.w.heap.size,0,none⟩) (r.els.length+l.length) (grownCap g.w (r.els.length+l.length) (g.β n).2 e),_,.inl ?_,hG,hL,hupd,?_⟩
   ·simp[execOp,hop,resolve,invoke,builtin,hxv,hv,hrun,G.app]
   ·have:=VT.row (g:=g.app n fresh ⟨ei.size,r.els++l⟩ (g.w.heap.size,grownCap g.w (r.els.length+l.length) (g.β n).2 e) (g.w.drew.alloc (.cells (olds.toArray++vs.toArray++Builtin.zeroCells zv.cells (grownCap g.w (r.els.length+l.length) (g.β n).2 e-(r.els.length+l.length))) e))) fresh ei.size 0 (r.els.length+l.length) (some ⟨g.w.heap.size,0,none⟩) (by simp[G.app]) hs0 (by simpa[G.app]using hge) (fun _=>by simp[G.app])
    simpa[G.app]using this
end Go.Proofs.YtlaogbbcipebgaaGreat.Sh
