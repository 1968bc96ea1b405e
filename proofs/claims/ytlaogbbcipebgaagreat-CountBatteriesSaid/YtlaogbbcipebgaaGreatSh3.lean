/- What one operation does to a plain picture of the machine: reckoning, boxes, loads, stores. Over whatever program. -/
import Derived.Test.YtlaogbbcipebgaaGreatSh2
namespace Go.Proofs.YtlaogbbcipebgaaGreat.Sh
set_option linter.unusedVariables false
set_option linter.unusedSimpArgs false
open Go
def ofV:Value→T
 | .agg cs=>bif cs.all (·.oneCell')then .d (.agg (cs.toList.map .v))else .bot
 | .tuple _ => .bot
 | x => .d (.v x)
theorem VT.ofV (g:G) (c:Value):VT g (ofV c) c:=by
 cases c with
 | agg cs =>
  have e:Sh.ofV (.agg cs)=bif cs.all (·.oneCell')then .d (.agg (cs.toList.map .v))else .bot:=rfl
  rw[e]
  cases h:cs.all (·.oneCell')with
  | true =>
   simp only[cond_true]
   refine .d (.agg _ _ (by simp) fun i d c hd hc=>?_)
   simp only[List.getElem?_map,Option.map_eq_some_iff]at hd
   obtain⟨x,hx,rfl⟩:=hd
   rw[Array.getElem?_toList,hc]at hx
   injection hx with hx
   subst hx
   exact .v _ (by rw[Array.all_eq_true_iff_forall_mem]at h;exact h _ (Array.mem_of_getElem? hc))
  | false=>exact .bot _
 | tuple=>exact .bot _
 | _=>exact .d (.v _ rfl)
structure TI where
 agg:Bool
 size:Nat
 bytes:Nat
 z:T
 sl:Option TypeId
 fs:List (Nat × Bool × Nat)
 ar:Option (Nat × TypeId)
 nif:Bool
def B1M (P:Program) (t:TypeId):Bool:=match P.underlying t with
 | some (.struct _) | some (.array _ _)=>true
 | _=>false
def B1x (P:Program) (t:TypeId):Nat:=match P.info? t with
 | some i=>i.size
 | none=>0
def C0f:TypeDesc→Option TypeId
 | .slice e=>some e
 | _=>none
def B96:TypeDesc→Option (Nat × TypeId)
 | .array n e=>some (n,e)
 | _=>none
def C05:TypeDesc→Bool
 | .interface _=>false
 | _=>true
def B9J (P:Program):TypeDesc→List (Nat × Bool × Nat)
 | .struct fs=>bif fs.toList.all (fun f=>(P.info? f.type).isSome&&(P.underlying f.type).isSome)then fs.toList.map (fun f=>(f.offset,B1M P f.type,B1x P f.type))else[]
 | _=>[]
def B4S:T→Bool
 | .bot=>false
 | _=>true
def B8q (P:Program) (t:TypeId):Option TI:=match P.info? t,P.underlying t with
 | some i,some d=>match i.zero with
   | some zv=>bif Nat.beq zv.cells.size i.size&&B4S (ofV zv)then some ⟨B1M P t,i.size,i.bytes,ofV zv,C0f d,B9J P d,B96 d,C05 d⟩else none
   | none=>none
 | _,_=>none
structure TOk (P:Program) (t:TypeId) (i:TI):Prop where
 info:∃ info zv,P.info? t=some info∧info.zero=some zv∧info.size=i.size∧info.bytes=i.bytes∧zv.cells.size=i.size∧i.z=ofV zv∧i.z.cells.length=i.size∧∀ x∈i.z.cells,x.one=true
 und:∃ d,P.underlying t=some d∧(i.agg=true↔(∃ fs,d = .struct fs)∨∃ n e,d = .array n e)∧(∀ e,i.sl=some e→d = .slice e)∧(i.fs≠[]→∃ fs,d = .struct fs∧fs.toList.map (fun f=>(f.offset,B1M P f.type,B1x P f.type))=i.fs∧∀ f∈fs,(P.info? f.type).isSome=true∧(P.underlying f.type).isSome=true) ∧
  (∀ n e,i.ar=some (n,e)→d = .array n e)∧(i.nif=true→∀ m,d ≠ .interface m)
theorem B6F {zv:Value} (h:B4S (ofV zv)=true):(ofV zv).cells.length=zv.cells.size∧∀ x∈(ofV zv).cells,x.one=true:=by
 cases zv with
 | agg cs =>
  have e:Sh.ofV (.agg cs)=bif cs.all (·.oneCell')then .d (.agg (cs.toList.map .v))else .bot:=rfl
  rw[e]at h ⊢
  cases hc:cs.all (·.oneCell')with
  | true=>simp only[cond_true];refine⟨by simp[T.cells,Value.cells],fun x hx=>?_⟩;simp only[T.cells,List.map_map,List.mem_map]at hx;obtain⟨y,_,rfl⟩:=hx;rfl
  | false=>rw[hc]at h;cases h
 | tuple=>cases h
 | _=>exact⟨rfl,fun x hx=>by simp[Sh.ofV,T.cells]at hx;subst hx;rfl⟩
theorem TOk.of {P:Program} {t:TypeId} {i:TI} (h:B8q P t=some i):TOk P t i:=by
 unfold B8q at h
 split at h
 ·rename_i info d hi hd
  split at h
  ·rename_i zv hz
   cases hc:(Nat.beq zv.cells.size info.size&&B4S (ofV zv))with
   | false=>rw[hc]at h;cases h
   | true =>
    rw[hc]at h
    simp only[cond_true,Option.some.injEq]at h
    subst h
    rw[Bool.and_eq_true]at hc
    have hs:=Nat.eq_of_beq_eq_true hc.1
    have hk:=B6F hc.2
    refine⟨⟨info,zv,hi,hz,rfl,rfl,hs,rfl,hk.1.trans hs,hk.2⟩,⟨d,hd,?_,?_,?_,?_,?_⟩⟩
    ·unfold B1M;rw[hd];cases d<;>simp
    ·intro e he;cases d<;>first | (simp[C0f]at he;done) | (simp[C0f]at he;subst he;rfl)
    ·intro hf
     cases d<;>first | exact absurd rfl hf | skip
     rename_i fs
     cases hall:fs.toList.all (fun f=>(P.info? f.type).isSome&&(P.underlying f.type).isSome)with
     | false=>simp[B9J,hall]at hf
     | true =>
      refine⟨fs,rfl,by simp[B9J,hall],fun f hfm=>?_⟩
      have:=List.all_eq_true.1 hall f (by simpa using hfm)
      simpa using this
    ·intro n e he;cases d<;>first | (simp[B96]at he;done) | (simp[B96]at he;obtain⟨rfl,rfl⟩:=he;rfl)
    ·intro hn m hm;subst hm;cases hn
  ·cases h
 ·cases h
structure Tab (P:Program) where
 f:TypeId→Option TI
 ok:∀ t i,f t=some i→TOk P t i
section
variable {P:Program} {t:TypeId} {i:TI}
theorem TOk.run_isAgg (h:TOk P t i) (w:World):(isAgg t).run P w = .ok i.agg w:=by
 obtain⟨d,hd,ha,_⟩:=h.und
 unfold isAgg
 rw[Sem.run_bind,run_underlying hd,Result.andThen_ok]
 cases hb:i.agg with
 | true=>rcases ha.1 hb with⟨fs,rfl⟩ | ⟨n,e,rfl⟩<;>rfl
 | false =>
  have:¬ ((∃ fs,d = .struct fs)∨∃ n e,d = .array n e):=fun h=>by rw[ha.2 h]at hb;cases hb
  cases d<;>first | rfl | exact absurd (.inl ⟨_,rfl⟩) this | exact absurd (.inr ⟨_,_,rfl⟩) this
theorem TOk.run_size (h:TOk P t i) (w:World):(sizeOf t).run P w = .ok i.size w:=by
 obtain⟨info,zv,hi,_,hs,_⟩:=h.info
 simp[sizeOf,typeInfo,hi,hs]
end
variable {P:Program} {o:Oper} {fresh:Nat}
theorem A6p {x:Operand} {t:T} (hop:o.op = .move x∨o.op = .assign x):OpS P o [(x,t)] [] [] fresh [] t :=
 .of_pure (fun c h=>by rcases hop with h' | h'<;>(rw[h']at h;cases h)) fun g a _ hi _=>⟨a.eval x,by rcases hop with h | h<;>simp[execOp,h],hi (x,t) (by simp)⟩
theorem VT.v_eq {g:G} {x c:Value} (h:VT g (.d (.v x)) c):c=x:=by cases h with | d h=>cases h;rfl
theorem B7S {c x y:Operand} {b:Bool} {t u:T} (hop:o.op = .pick c x y):OpS P o [(c,.d (.v (.bool b))),(x,t),(y,u)] [] [] fresh [] (bif b then t else u) :=
 .of_pure (fun c h=>by rw[hop]at h;cases h) fun g a _ hi _=>⟨if b then a.eval x else a.eval y,by
  have hc:=hi (c,.d (.v (.bool b))) (by simp)
  have e:=hc.v_eq
  dsimp only at e
  simp[execOp,hop,asBool,e],by
  cases b
  ·exact hi (y,u) (by simp)
  ·exact hi (x,t) (by simp)⟩
theorem A3z {op:BinOp} {ty ty':TypeId} {x y:Operand} {p q z:Value} (hop:o.op = .binOp op ty x y ty') (h1:one z)
  (hz:∀ w,(do eqGuard op ty x y p q;binOp op ty p q:Sem Value).run P w = .ok z w):OpS P o [(x,.d (.v p)),(y,.d (.v q))] [] [] fresh [] (.d (.v z)) :=
 .of_pure (fun c h=>by rw[hop]at h;cases h) fun g a _ hi _=>⟨z,by
  have e1:=(hi (x,.d (.v p)) (by simp)).v_eq
  have e2:=(hi (y,.d (.v q)) (by simp)).v_eq
  dsimp only at e1 e2
  have:=hz g.w
  simp only[execOp,hop,e1,e2,Sem.run_bind]at this ⊢
  rw[this];rfl,.d (.v z h1)⟩
theorem B9P {op:UnOp} {ty:TypeId} {x:Operand} {p z:Value} (hop:o.op = .unOp op ty x) (h1:one z)
  (hz:Op.unary op p=pure z):OpS P o [(x,.d (.v p))] [] [] fresh [] (.d (.v z)) :=
 .of_pure (fun c h=>by rw[hop]at h;cases h) fun g a _ hi _=>⟨z,by
  have e1:=(hi (x,.d (.v p)) (by simp)).v_eq
  dsimp only at e1
  simp only[execOp,hop,e1,hz];rfl,.d (.v z h1)⟩
theorem B9N {src dst:TypeId} {x:Operand} {p z:Value} (hop:o.op = .convert src dst x) (h1:one z)
  (hz:∀ w,(convert src dst p).run P w = .ok z w):OpS P o [(x,.d (.v p))] [] [] fresh [] (.d (.v z)) :=
 .of_pure (fun c h=>by rw[hop]at h;cases h) fun g a _ hi _=>⟨z,by
  have e1:=(hi (x,.d (.v p)) (by simp)).v_eq
  dsimp only at e1
  simp[execOp,hop,e1,hz],.d (.v z h1)⟩
theorem B8R {t:TypeId} {i:TI} {x:Operand} {p:Value} (hop:o.op = .makeInterface t x) (ht:TOk P t i) (hn:i.nif=true):OpS P o [(x,.d (.v p))] [] [] fresh [] (.d (.v (.iface t p))) :=
 .of_pure (fun c h=>by rw[hop]at h;cases h) fun g a _ hi _=>⟨.iface t p,by
  have e1:=(hi (x,.d (.v p)) (by simp)).v_eq
  dsimp only at e1
  obtain⟨d,hd,_,_,_,_,hni⟩:=ht.und
  have hni:=hni hn
  have:(Instr.makeInterface t p).run P g.w = .ok (.iface t p) g.w:=by
   unfold Instr.makeInterface
   rw[Sem.run_bind,run_underlying hd,Result.andThen_ok]
   cases d<;>first | rfl | exact absurd rfl (hni _)
  simp[execOp,hop,e1,this],.d (.v _ rfl)⟩
theorem VTs.of_ins {g:G} {a:Act}:∀ {xs:List Operand} {ts:List T},xs.length=ts.length→(∀ p∈xs.zip ts,VT g p.2 (a.eval p.1))→VTs g ts (xs.map a.eval)
 | [],[],_,_ => .nil g
 | x::xs,t::ts,hl,h => .cons (h (x,t) (by simp)) (VTs.of_ins (by simpa using hl) fun p hp=>h p (by simp[hp]))
theorem B9O {fn:Fn} {first caps:Array Operand} {ts us:List T} (hop:o.op = .makeFunc fn first caps) (h1:first.toList.length=ts.length) (h2:caps.toList.length=us.length) :
  OpS P o (first.toList.zip ts++caps.toList.zip us) [] [] fresh [] (.fn fn ts us) :=
 .of_pure (fun c h=>by rw[hop]at h;cases h) fun g a _ hi _=>⟨.func fn (first.map a.eval) (caps.map a.eval),by simp[execOp,hop,Instr.makeFunc],by
  have k1:=VTs.of_ins (g:=g) (a:=a) h1 fun p hp=>hi p (by simp[hp])
  have k2:=VTs.of_ins (g:=g) (a:=a) h2 fun p hp=>hi p (by simp[hp])
  exact .fn fn ts us _ _ (by simpa using k1.1) (fun i d c hd hc=>k1.2 i d c hd (by simpa using hc)) (by simpa using k2.1) (fun i d c hd hc=>k2.2 i d c hd (by simpa using hc))⟩
theorem B7R {x:Operand} {n s i c:Nat} (hop:o.op = .nilCheck x):OpS P o [(x,.ref n s i c)] [] [] fresh [] (.ref n s i c) :=
 .of_pure (fun c h=>by rw[hop]at h;cases h) fun g a _ hi _=>⟨a.eval x,by
  have:=hi (x,.ref n s i c) (by simp)
  generalize hv:a.eval x=v at this
  cases this
  simp[execOp,hop,hv],hi (x,.ref n s i c) (by simp)⟩
theorem B8T {x:Operand} {l:List D} {s i c:Nat} (hop:o.op = .nilCheck x):OpS P o [(x,.d (.el s l i c))] [] [] fresh [] (.d (.el s l i c)) :=
 .of_pure (fun c h=>by rw[hop]at h;cases h) fun g a _ hi _=>⟨a.eval x,by
  have:=hi (x,.d (.el s l i c)) (by simp)
  generalize hv:a.eval x=v at this
  cases this with | d h =>
  cases h
  simp[execOp,hop,hv],hi (x,.d (.el s l i c)) (by simp)⟩
theorem B69 {x:Operand} {l:List T} {k:Nat} {t:T} (hop:o.op = .extract x k) (hk:l[k]?=some t):OpS P o [(x,.tup l)] [] [] fresh [] t :=
 .of_pure (fun c h=>by rw[hop]at h;cases h) fun g a _ hi _=>by
  have:=hi (x,.tup l) (by simp)
  generalize hv:a.eval x=v at this
  cases this with | tup l cs hl h =>
  have hlt:=(List.getElem?_eq_some_iff.1 hk).1
  have hc:cs[k]?=some cs[k]:=Array.getElem?_eq_getElem (by omega)
  exact⟨cs[k],by simp[execOp,hop,hv,Instr.extract,hc],h k t _ hk hc⟩
theorem B5a {x:Operand} {l:List D} {k:Nat} {t:D} (hop:o.op = .extract x k) (hk:l[k]?=some t):OpS P o [(x,.d (.tup l))] [] [] fresh [] (.d t) :=
 .of_pure (fun c h=>by rw[hop]at h;cases h) fun g a _ hi _=>by
  have:=hi (x,.d (.tup l)) (by simp)
  generalize hv:a.eval x=v at this
  cases this with | d h =>
  cases h with | tup l cs hl h =>
  have hlt:=(List.getElem?_eq_some_iff.1 hk).1
  have hc:cs[k]?=some cs[k]:=Array.getElem?_eq_getElem (by omega)
  exact⟨cs[k],by simp[execOp,hop,hv,Instr.extract,hc],.d (h k t _ hk hc)⟩
theorem B28 {t:T} (h:∀ x∈t.cells,x.one=true):∀ {g:G} {c:Value},VT g t c→∀ v∈c.cells.toList,v.oneCell'=true:=fun {g c} hv v hm=>by
 have hc:=hv.cells h
 obtain⟨i,hi,rfl⟩:=List.mem_iff_getElem.1 hm
 have hi':i<t.cells.length:=by rw[hc.1];exact hi
 exact(hc.2 i t.cells[i] _ (List.getElem?_eq_getElem hi') (List.getElem?_eq_getElem hi)).one (h _ (List.getElem_mem hi'))
theorem B3E {g:G} (hg:P6 g) {n:Nat} (hn:g.M n=none) {t:T} {c:Value} (hv:VT g t c) (ht:∀ x∈t.cells,x.one=true) (h0:t.cells.length≠0) (e:TypeId) :
  P6 (g.grow n ⟨t.cells.length,[t]⟩ 1 (g.w.alloc (.cells c.cells e))):=by
 have hc:=hv.cells ht
 refine P6.grow hg hn (.inl rfl) h0 (by have:=hc.1;simpa using this.symm) (by simp) fun i x hx=>?_
 have hi:i=0:=by have:=(List.getElem?_eq_some_iff.1 hx).1;simp at this;exact this
 subst hi
 simp at hx
 subst hx
 refine⟨rfl,fun j y hy=>?_⟩
 have hj:=(List.getElem?_eq_some_iff.1 hy).1
 have hc':c.cells.toList[j]?=some (c.cells.toList[j]'(by rw[← hc.1];exact hj)):=List.getElem?_eq_getElem _
 exact⟨_,by simp,hc.2 j y _ hy hc'⟩
theorem B8L {t:TypeId} {i:TI} (hop:o.op = .alloc t) (ht:TOk P t i) (h0:Nat.beq i.size 0=false):OpS P o [] [] [] fresh [⟨i.size,[i.z]⟩] (.ref fresh i.size 0 0) :=
 .of_run (fun c h=>by rw[hop]at h;cases h) fun g a hg _ _ hn=>by
  obtain⟨info,zv,hi,hz,hs,hb,hzs,hzv,hzl,hz1⟩:=ht.info
  have hn0:=hn 0 (by simp)
  rw[Nat.add_zero]at hn0
  have hv:VT g i.z zv:=hzv▸VT.ofV g zv
  have hG:=B3E hg hn0 hv hz1 (by rw[hzl];exact Nat.ne_of_beq_eq_false h0) t
  rw[hzl]at hG
  refine⟨.pointer (some ⟨g.w.heap.size,0,none⟩),_,.inl ?_,hG,Le.grow hn0 _ _ (.inl rfl),A9w _ _ _,?_⟩
  ·simp[execOp,hop,Instr.alloc,zeroValue,typeInfo,hi,hz,newVar,newRow,G.grow]
  ·have:=VT.ref (g:=g.grow fresh ⟨i.size,[i.z]⟩ 1 (g.w.alloc (.cells zv.cells t))) fresh i.size 0 0 (by simp[G.grow]) (Nat.ne_of_beq_eq_false h0)
   simpa[G.grow]using this
theorem C06 {t:TypeId} {x:Operand} {u:T} {s:Nat} (hop:o.op = .box t x) (hs:u.cells.length=s) (h0:Nat.beq s 0=false) (hu:∀ y∈u.cells,y.one=true):OpS P o [(x,u)] [] [] fresh [⟨s,[u]⟩] (.ref fresh s 0 0) :=
 .of_run (fun c h=>by rw[hop]at h;cases h) fun g a hg hi _ hn=>by
  have hn0:=hn 0 (by simp)
  rw[Nat.add_zero]at hn0
  have hv:=hi (x,u) (by simp)
  have hG:=B3E hg hn0 hv hu (by rw[hs];exact Nat.ne_of_beq_eq_false h0) t
  rw[hs]at hG
  refine⟨.pointer (some ⟨g.w.heap.size,0,none⟩),_,.inl ?_,hG,Le.grow hn0 _ _ (.inl rfl),A9w _ _ _,?_⟩
  ·simp[execOp,hop,Instr.box,newVar,newRow,G.grow]
  ·have:=VT.ref (g:=g.grow fresh ⟨s,[u]⟩ 1 (g.w.alloc (.cells (a.eval x).cells t))) fresh s 0 0 (by simp[G.grow]) (Nat.ne_of_beq_eq_false h0)
   simpa[G.grow]using this
theorem A5P {g:G}:∀ (l:List T) (p:Nat→Value→Prop),(∀ (j:Nat) (y:T),l[j]?=some y→∃ c,p j c∧VT g y c)→∃ cs,VTs g l cs∧∀ (j:Nat) (c:Value),cs[j]?=some c→p j c
 | [],p,_=>⟨[],.nil g,fun j c h=>by simp at h⟩
 | x::l,p,h=>by
  obtain⟨c,hp,hv⟩:=h 0 x rfl
  obtain⟨cs,h1,h2⟩:=A5P l (fun j=>p (j+1)) (fun j y hy=>h (j+1) y (by simpa using hy))
  refine⟨c::cs,.cons hv h1,fun j d hd=>?_⟩
  cases j with
  | zero=>simp at hd;subst hd;exact hp
  | succ j=>exact h2 j d (by simpa using hd)
theorem A5y (b o j:Nat):(⟨b,o,none⟩:Addr).add j=⟨b,o+j,none⟩:=by unfold Addr.add;split<;>simp_all
theorem B2L {g:G} {t:TypeId} {i:TI} (ht:TOk P t i) {b off:Nat} {l:List T} (hl:l.length=i.size) (h:∀ (j:Nat) (y:T),l[j]?=some y→∃ c,g.w.cell? ⟨b,off+j,none⟩=some c∧VT g y c)
  {v:T} (hv:if i.agg then v=mkAgg l else l=[v]):∃ c,(Instr.loadAt t (.pointer (some ⟨b,off,none⟩))).run P g.w = .ok c g.w∧VT g v c:=by
 obtain⟨cs,h1,h2⟩:=A5P l (fun j c=>g.w.cell? ⟨b,off+j,none⟩=some c) h
 cases ha:i.agg with
 | true =>
  rw[ha]at hv
  simp only[if_true]at hv
  subst hv
  have hlc:=run_loadCells_list (P:=P) g.w ⟨b,off,none⟩ cs (fun j v hv=>by rw[A5y];exact h2 j v hv)
  rw[← h1.1,hl]at hlc
  exact⟨.agg cs.toArray,by simp[Instr.loadAt,Instr.sureAddr,loadVar,ht.run_isAgg,ha,ht.run_size,hlc],VT.mkAgg h1⟩
 | false =>
  rw[ha]at hv
  simp only[Bool.false_eq_true,if_false]at hv
  subst hv
  obtain⟨c,hc,hcv⟩:=h 0 v rfl
  rw[Nat.add_zero]at hc
  exact⟨c,by simp[Instr.loadAt,Instr.sureAddr,loadVar,ht.run_isAgg,ha,hc],hcv⟩
def A29 (i:TI) (cs:List T) (c:Nat):T:=bif i.agg then mkAgg ((cs.drop c).take i.size)else cs.getD c .bot
def A2S (i:TI) (n c:Nat):Bool:=Nat.ble (c+i.size) n&&(i.agg||Nat.beq i.size 1)
theorem A8f {i:TI} {cs:List T} {c:Nat} (h:A2S i cs.length c=true):((cs.drop c).take i.size).length=i.size∧(if i.agg then A29 i cs c=mkAgg ((cs.drop c).take i.size)else(cs.drop c).take i.size=[A29 i cs c]):=by
 unfold A2S at h
 rw[Bool.and_eq_true]at h
 have h1:=Nat.le_of_ble_eq_true h.1
 refine⟨by simp;omega,?_⟩
 unfold A29
 cases ha:i.agg with
 | true=>simp
 | false =>
  have h2:=h.2
  rw[ha,Bool.false_or]at h2
  have h3:=Nat.eq_of_beq_eq_true h2
  rw[h3]
  have hlt:c<cs.length:=by omega
  rw[List.drop_eq_getElem_cons hlt,List.take_succ_cons,List.take_zero]
  simp[List.getD,hlt]
theorem B0W {t:TypeId} {i:TI} {x:Operand} {n s k c:Nat} {r:Rw} {e:T} (hop:o.op = .load t x) (ht:TOk P t i) (hs:r.s=s) (he:r.els[k]?=some e) (hp:A2S i e.cells.length c=true) :
  OpS P o [(x,.ref n s k c)] [(n,r)] [] fresh [] (A29 i e.cells c) :=
 .of_pure (fun c h=>by rw[hop]at h;cases h) fun g a hg hi hr=>by
  subst hs
  have hx:=hi (x,.ref n r.s k c) (by simp)
  generalize hv:a.eval x=v at hx
  cases hx with | ref _ _ _ _ _ hs0 =>
  obtain⟨h1,h2⟩:=A8f hp
  obtain⟨cv,h3,h4⟩:=B2L (g:=g) (b:=(g.β n).1) (off:=k*r.s+c) ht h1 (fun j y hy=>by
   rw[List.getElem?_take]at hy
   split at hy
   ·rw[List.getElem?_drop]at hy
    obtain⟨c',hc',hv'⟩:=(hg.rows n r (hr (n,r) (by simp))).get hs0 he hy
    exact⟨c',by rw[Nat.add_assoc];exact hc',hv'⟩
   ·cases hy) h2
  exact⟨cv,by simp[execOp,hop,hv,h3],h4⟩
theorem B8S {t:TypeId} {i:TI} {x:Operand} {s k c:Nat} {l:List D} {e:D} (hop:o.op = .load t x) (ht:TOk P t i) (he:l[k]?=some e) (hp:A2S i e.cells.length c=true) :
  OpS P o [(x,.d (.el s l k c))] [] [] fresh [] (A29 i (e.cells.map .d) c) :=
 .of_pure (fun c h=>by rw[hop]at h;cases h) fun g a hg hi hr=>by
  have hx:=hi (x,.d (.el s l k c)) (by simp)
  generalize hv:a.eval x=v at hx
  cases hx with | d hx =>
  cases hx with | el s l k c b off f hK hs hw hvv =>
  obtain⟨h1,h2⟩:=A8f (cs:=e.cells.map .d) (c:=c) (i:=i) (by rw[List.length_map];exact hp)
  obtain⟨cv,h3,h4⟩:=B2L (g:=g) (b:=b) (off:=off+k*s+c) ht h1 (fun j y hy=>by
   rw[List.getElem?_take]at hy
   split at hy
   ·rw[List.getElem?_drop,List.getElem?_map,Option.map_eq_some_iff]at hy
    obtain⟨d,hd,rfl⟩:=hy
    exact⟨f k (c+j),by rw[Nat.add_assoc];exact hw k e he (c+j) d hd,.d (hvv k e he (c+j) d hd)⟩
   ·cases hy) h2
  exact⟨cv,by simp[execOp,hop,hv,h3],h4⟩
end Go.Proofs.YtlaogbbcipebgaaGreat.Sh
