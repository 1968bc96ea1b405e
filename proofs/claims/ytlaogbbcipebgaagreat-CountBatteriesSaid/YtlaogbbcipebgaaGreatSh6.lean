/- What one operation does to a plain picture of the machine: structs, arrays and slices built, append. Over whatever program. -/
import Derived.Test.YtlaogbbcipebgaaGreatSh5
namespace Go.Proofs.YtlaogbbcipebgaaGreat.Sh
set_option linter.unusedVariables false
set_option linter.unusedSimpArgs false
open Go
variable {P:Program} {o:Oper} {fresh:Nat}
def A8W:List T→List (Nat × T)→List T
 | cs,[]=>cs
 | cs,(c,t)::l=>A8W (cs.take c++t.cells++cs.drop (c+t.cells.length)) l
def A6Z (n:Nat):List (Nat × Nat × T)→Bool
 | []=>true
 | (c,m,t)::l=>Nat.beq t.cells.length m&&Nat.ble (c+m) n&&A6Z n l
theorem B61 (vs:List Value) (off:Nat):∀ (cs:Array Value) (j:Nat),off+j+vs.length≤cs.size →
  ((vs.zipIdx j).foldl (fun cs (x:Value × Nat)=>cs.setIfInBounds (off+x.2) x.1) cs).toList=cs.toList.take (off+j)++vs++cs.toList.drop (off+j+vs.length):=by
 induction vs with
 | nil=>intro cs j _;simp
 | cons v vs ih =>
  intro cs j h
  simp only[List.zipIdx_cons,List.foldl_cons]
  rw[ih _ _ (by simp at h ⊢;omega),Array.toList_setIfInBounds]
  simp only[List.length_cons]at h
  have hlt:off+j<cs.toList.length:=by simp;omega
  have h1:(cs.toList.set (off+j) v).take (off+(j+1))=cs.toList.take (off+j)++[v]:=by
   rw[← Nat.add_assoc,List.take_succ_eq_append_getElem (by simpa using hlt)]
   rw[List.take_set,List.set_eq_of_length_le (by simp;omega)]
   simp
  have h2:(cs.toList.set (off+j) v).drop (off+(j+1)+vs.length)=cs.toList.drop (off+j+(v::vs).length):=by
   rw[List.drop_set_of_lt (by omega)]
   congr 1
   simp;omega
  rw[h1,h2]
  simp
theorem A7V {g:G} (place:Nat→Option (Nat × Nat)):∀ (parts:List (Nat × Value)) (ps:List (Nat × Nat × T)) (cs:Array Value) (ts:List T),
  parts.length=ps.length→(∀ (k:Nat) (p:Nat × Value) (q:Nat × Nat × T),parts[k]?=some p→ps[k]?=some q→place p.1=some (q.1,q.2.1)∧VT g q.2.2 p.2∧∀ x∈q.2.2.cells,x.one=true) →
  VTs g ts cs.toList→A6Z ts.length ps=true→∃ cs',Instr.fill place cs parts=some cs'∧VTs g (A8W ts (ps.map fun q=>(q.1,q.2.2))) cs'.toList
 | [],[],cs,ts,_,_,h,_=>⟨cs,rfl,h⟩
 | (k,v)::parts,(c,m,t)::ps,cs,ts,hl,hp,h,hk=>by
  obtain⟨h1,h2,h3⟩:=hp 0 _ _ rfl rfl
  dsimp only at h1 h2 h3
  have hc:=h2.cells h3
  simp only[A6Z,Bool.and_eq_true]at hk
  obtain⟨⟨hk1,hk2⟩,hk3⟩:=hk
  have hm:=Nat.eq_of_beq_eq_true hk1
  have hle:=Nat.le_of_ble_eq_true hk2
  have hvs:v.cells.size=m:=by rw[← hm,hc.1];simp
  have hcs:cs.size=ts.length:=by rw[h.1];simp
  have hfold:=B61 v.cells.toList c cs 0 (by simp[hvs,hcs];omega)
  obtain⟨cs1,hcs1⟩:∃ cs1,v.cells.zipIdx.foldl (fun cs (x:Value × Nat)=>cs.setIfInBounds (c+x.2) x.1) cs=cs1:=⟨_,rfl⟩
  have hfold':cs1.toList=cs.toList.take c++v.cells.toList++cs.toList.drop (c+v.cells.toList.length):=by
   rw[← hcs1,← Array.foldl_toList]
   simpa using hfold
  have hts:VTs g (ts.take c++t.cells++ts.drop (c+t.cells.length)) cs1.toList:=by
   rw[hfold']
   refine⟨by simp[h.1,hc.1],fun j d e hd he=>?_⟩
   rw[A7p _ _ _ _ (by omega)]at hd
   rw[A7p _ _ _ _ (by simp[hvs,hcs];omega)]at he
   by_cases a1:j<c
   ·rw[if_pos a1]at hd he;exact h.2 j d e hd he
   ·rw[if_neg a1]at hd he
    by_cases a2:j<c+t.cells.length
    ·rw[if_pos a2]at hd
     rw[if_pos (by rw[← hc.1];exact a2)]at he
     exact hc.2 _ d e hd he
    ·rw[if_neg a2]at hd
     rw[if_neg (by rw[← hc.1];exact a2)]at he
     exact h.2 j d e hd he
  obtain⟨cs',h4,h5⟩:=A7V place parts ps cs1 _ (by simpa using hl) (fun k p q hp' hq=>hp (k+1) p q (by simpa using hp') (by simpa using hq)) hts (by
   have:(ts.take c++t.cells++ts.drop (c+t.cells.length)).length=ts.length:=by simp;omega
   rw[this];exact hk3)
  refine⟨cs',?_,h5⟩
  simp only[Instr.fill,h1,hvs]
  have hcond:¬ (m≠m||c+m>cs.size)=true:=by simp[hcs];omega
  rw[if_neg (by simpa using hcond)]
  rw[← h4,← hcs1]
def A4M (fs:List (Nat × Bool × Nat)):List (Nat × Operand)→List T→List (Nat × Nat × T)
 | (k,_)::ps,t::ts=>(match fs[k]? with | some (c,_,m)=>(c,m,t) | none=>(0,0,.bot))::A4M fs ps ts
 | _,_=>[]
def B2Z (fs:List (Nat × Bool × Nat)) (ps:List (Nat × Operand)):Bool:=ps.all fun p=>Nat.blt p.1 fs.length
def A4y (l:List T):Bool:=l.all T.one
def A3f (ts:List T):Bool:=ts.all fun t=>A4y t.cells
theorem B0e (fs:List (Nat × Bool × Nat)):∀ (ps:List (Nat × Operand)) (ts:List T),ps.length=ts.length→(A4M fs ps ts).length=ps.length ∧
  ∀ (k:Nat) (p:Nat × Operand) (t:T),ps[k]?=some p→ts[k]?=some t→(A4M fs ps ts)[k]?=some (match fs[p.1]? with | some (c,_,m)=>(c,m,t) | none=>(0,0,.bot))
 | [],[],_=>⟨rfl,fun k p t h=>by simp at h⟩
 | p::ps,t::ts,h=>by
  obtain⟨h1,h2⟩:=B0e fs ps ts (by simpa using h)
  refine⟨by simp[A4M,h1],fun k q u hq hu=>?_⟩
  cases k with
  | zero=>simp at hq hu;subst hq;subst hu;rfl
  | succ k=>simpa[A4M]using h2 k q u (by simpa using hq) (by simpa using hu)
theorem B0z {ts:List T} (h:A3f ts=true) {t:T} (ht:t∈ts):∀ x∈t.cells,x.one=true:=by
 unfold A3f at h
 rw[List.all_eq_true]at h
 have:=h t ht
 unfold A4y at this
 rwa [List.all_eq_true]at this
theorem B4v {α β:Type} {w:World} (F:α→Sem β) (k:α→β):∀ (l:List α),(∀ x∈l,(F x).run P w = .ok (k x) w)→(l.mapM F).run P w = .ok (l.map k) w
 | [],_=>rfl
 | x::l,h=>by rw[List.mapM_cons,Sem.run_bind,h x (by simp),Result.andThen_ok,Sem.run_bind,B4v F k l (fun y hy=>h y (by simp[hy])),Result.andThen_ok];rfl
theorem B8M {t:TypeId} {i:TI} {parts:Array (Nat × Operand)} {ts:List T} (hop:o.op = .build t parts) (ht:TOk P t i) (hfs:i.fs≠[]) (hl:parts.toList.length=ts.length) (h1:A3f ts=true) (hin:B2Z i.fs parts.toList=true)
  (hk:A6Z i.z.cells.length (A4M i.fs parts.toList ts)=true):OpS P o ((parts.toList.map (·.2)).zip ts) [] [] fresh [] (mkAgg (A8W i.z.cells ((A4M i.fs parts.toList ts).map fun q=>(q.1,q.2.2)))) :=
 .of_pure (fun c h=>by rw[hop]at h;cases h) fun g a hg hi hr=>by
  obtain⟨info,zv,hinf,hz,hs,hb,hzs,hzv,hzl,hz1⟩:=ht.info
  obtain⟨fs,hd,hm,hall⟩:=ht.struct hfs
  have hvt:=VTs.of_ins (g:=g) (a:=a) (xs:=parts.toList.map (·.2)) (ts:=ts) (by simpa using hl) (fun p hp=>hi p hp)
  have hzc:VTs g i.z.cells zv.cells.toList:=VT.cells (by rw[hzv];exact VT.ofV g zv) hz1
  obtain⟨hpl,hpg⟩:=B0e i.fs parts.toList ts hl
  obtain⟨places,hplaces,hpp⟩:∃ places:Array (Nat × Nat),(fs.mapM fun f=>Functor.map (Prod.mk f.offset) (sizeOf f.type)).run P g.w = .ok places g.w∧∀ (k c m:Nat) (b:Bool),i.fs[k]?=some (c,b,m)→places[k]?=some (c,m):=by
   refine⟨(fs.toList.map fun f=>(f.offset,B1x P f.type)).toArray,?_,fun k c m b hk=>?_⟩
   ·rw[Array.mapM_eq_mapM_toList,Sem.run_map,B4v (P:=P) (w:=g.w) _ (fun f=>(f.offset,B1x P f.type)) fs.toList fun f hf=>?_]
    ·rfl
    ·obtain⟨inf,hinf'⟩:=Option.isSome_iff_exists.1 (hall f (by simpa using hf))
     simp[sizeOf,typeInfo,hinf',B1x]
   ·rw[← hm,List.getElem?_map,Option.map_eq_some_iff]at hk
    obtain⟨fd,h2,h3⟩:=hk
    simp only[Prod.mk.injEq]at h3
    obtain⟨rfl,_,rfl⟩:=h3
    have:fs[k]?=some fd:=by simpa using h2
    simp[this]
  obtain⟨cs',hf1,hf2⟩:=A7V (g:=g) (fun k=>places[k]?) (parts.toList.map fun p=>(p.1,a.eval p.2)) (A4M i.fs parts.toList ts) zv.cells i.z.cells (by simp[hpl]) (fun k p q hp hq=>by
   simp only[List.getElem?_map,Option.map_eq_some_iff]at hp
   obtain⟨⟨n,x⟩,hx,rfl⟩:=hp
   have hlt:k<ts.length:=by rw[← hl];exact(List.getElem?_eq_some_iff.1 hx).1
   have htk:ts[k]?=some ts[k]:=List.getElem?_eq_getElem hlt
   rw[hpg k _ _ hx htk]at hq
   have hn:n<i.fs.length:=by
    unfold B2Z at hin
    rw[List.all_eq_true]at hin
    have:=hin (n,x) (List.mem_of_getElem? hx)
    simpa[Nat.blt_eq]using this
   have hfn:i.fs[n]?=some i.fs[n]:=List.getElem?_eq_getElem hn
   dsimp only at hq ⊢
   rw[hfn]at hq
   obtain⟨c,b,m,hfe⟩:∃ c b m,i.fs[n]=(c,b,m):=⟨_,_,_,rfl⟩
   rw[hfe]at hq hfn
   simp only[Option.some.injEq]at hq
   subst hq
   exact⟨hpp n c m b hfn,hvt.2 k _ _ htk (by simp[hx]),B0z h1 (List.getElem_mem hlt)⟩) hzc hk
  refine⟨.agg cs',?_,?_⟩
  ·simp[execOp,hop,Instr.build,zeroValue,typeInfo,hinf,hz,run_underlying hd,hplaces,hf1]
  ·simpa using VT.mkAgg hf2
end Go.Proofs.YtlaogbbcipebgaaGreat.Sh
