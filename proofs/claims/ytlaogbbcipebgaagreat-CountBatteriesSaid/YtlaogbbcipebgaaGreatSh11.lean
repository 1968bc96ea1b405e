/- Calls, in plain pictures: what a function does is told over its own names; at a call they are turned into the caller's. Over whatever program. -/
import Derived.Test.YtlaogbbcipebgaaGreatSh10
namespace Go.Proofs.YtlaogbbcipebgaaGreat.Sh
set_option linter.unusedVariables false
set_option linter.unusedSimpArgs false
open Go
mutual
def T.ren (ρ:Nat→Nat):T→T
 | .d x => .d x
 | .bot => .bot
 | .ref n s i o => .ref (ρ n) s i o
 | .row n s lo len => .row (ρ n) s lo len
 | .agg l => .agg (A5n ρ l)
 | .tup l => .tup (A5n ρ l)
 | .fn f a b => .fn f (A5n ρ a) (A5n ρ b)
 | .iface t x => .iface t (x.ren ρ)
 | .mp n => .mp (ρ n)
def A5n (ρ:Nat→Nat):List T→List T
 | []=>[]
 | x::l=>x.ren ρ::A5n ρ l
end
mutual
def T.sc (k:Nat):T→Bool
 | .d _ | .bot=>true
 | .ref n _ _ _ | .row n _ _ _ | .mp n=>Nat.blt n k
 | .agg l | .tup l=>scL k l
 | .fn _ a b=>scL k a&&scL k b
 | .iface _ x=>x.sc k
def scL (k:Nat):List T→Bool
 | []=>true
 | x::l=>x.sc k&&scL k l
end
theorem A1Z (ρ:Nat→Nat):∀ l,A5n ρ l=l.map (T.ren ρ)
 | []=>rfl
 | x::l=>by rw[A5n,A1Z ρ l];rfl
theorem A3m (k:Nat):∀ l,scL k l=l.all (T.sc k)
 | []=>rfl
 | x::l=>by rw[scL,A3m k l];rfl
theorem B2l (ρ:Nat→Nat) (t:T):(t.ren ρ).cells=t.cells.map (T.ren ρ):=by
 cases t with
 | d x=>cases x<;>simp[T.ren,T.cells]
 | agg l=>simp[T.ren,T.cells,A1Z]
 | _=>simp[T.ren,T.cells]
def Rw.ren (ρ:Nat→Nat) (r:Rw):Rw:=⟨r.s,r.els.map (T.ren ρ)⟩
def Rw.sc (k:Nat) (r:Rw):Bool:=r.els.all (T.sc k)
theorem A4q.unren {g g':G} {ρ:Nat→Nat} {k n n':Nat} {r:Rw} (h:A4q g n (r.ren ρ)) (hb:g'.β n'=g.β n) (hh:(g.β n).2≠0→g'.w.heap[(g.β n).1]?=g.w.heap[(g.β n).1]?) (h2:r.sc k=true)
  (hV:∀ (t:T) (c:Value),t.sc k=true→VT g (t.ren ρ) c→VT g' t c):A4q g' n' r:=by
 unfold Rw.sc at h2
 rw[List.all_eq_true]at h2
 refine h.rel rfl hb hh (by simp[Rw.ren]) (fun x x'=>x=x'.ren ρ∧x'.sc k=true) (fun i x x' hx hx'=>?_) (fun x x' h=>?_) (fun v y x' h=>?_) (fun t t' c h hv=>hV t' c h.2 (h.1▸hv))
 ·simp only[Rw.ren,List.getElem?_map,hx',Option.map_some,Option.some.injEq]at hx
  exact⟨hx.symm,h2 x' (List.mem_of_getElem? hx')⟩
 ·obtain⟨rfl,hx'⟩:=h
  rw[B2l]
  refine⟨by simp,fun j y y' hy hy'=>?_⟩
  rw[List.getElem?_map,hy',Option.map_some,Option.some.injEq]at hy
  refine⟨hy.symm,?_⟩
  cases x' with
  | d d=>cases d<;>simp[T.cells]at hy'<;>first | (obtain⟨z,_,rfl⟩:=hy';rfl) | (have:=List.mem_of_getElem? hy';simp at this;subst this;rfl)
  | agg l =>
   simp only[T.cells]at hy'
   simp only[T.sc,A3m,List.all_eq_true]at hx'
   exact hx' y' (List.mem_of_getElem? hy')
  | _=>simp only[T.cells]at hy';have:=List.mem_of_getElem? hy';simp at this;subst this;exact hx'
 ·obtain⟨h3,h4⟩:=h
  cases x'<;>simp[T.ren]at h3
  rename_i l
  match l,h3,h4 with
  | [],h3,_=>simp[A5n]at h3
  | [a],h3,_=>simp[A5n]at h3
  | [a,b],h3,h4 =>
   simp only[A5n,List.cons.injEq,and_true]at h3
   obtain⟨h5,h6⟩:=h3
   cases a<;>simp[T.ren]at h5
   subst h5
   simp only[T.sc,scL,Bool.and_eq_true]at h4
   exact⟨b,rfl,h6,h4.2.1⟩
  | a::b::c::l,h3,_=>simp[A5n]at h3
theorem VD.same {g g':G} (hw:g'.w=g.w) (hk:∀ b,g.K b→g'.K b) {d:D} {c:Value} (h:VD g d c):VD g' d c:=by
 induction h with
 | v x h=>exact .v x h
 | agg l cs hl h ih=>exact .agg l cs hl ih
 | tup l cs hl h ih=>exact .tup l cs hl ih
 | arr0 s a cap=>exact .arr0 s a cap
 | arr s l b off cap f hcap hK hs hw' hv ih=>exact .arr s l b off cap f hcap (hk b hK) hs (fun i d hd j e he=>by rw[hw];exact hw' i d hd j e he) ih
 | el s l i o b off f hK hs hw' hv ih=>exact .el s l i o b off f (fun h=>hk b (hK h)) hs (fun i d hd j e he=>by rw[hw];exact hw' i d hd j e he) ih
 | mp ks vs b es clock hK hh hl hl2 hky hv ih=>exact .mp ks vs b es clock (hk b hK) (by rw[hw];exact hh) hl hl2 hky ih
theorem VT.ren {g g':G} (hw:g'.w=g.w) (hk:∀ b,g.K b→g'.K b) {ρ:Nat→Nat} (hρ:∀ n,g.M n≠none→g'.M (ρ n)≠none∧g'.β (ρ n)=g.β n) {t:T} {c:Value} (h:VT g t c):VT g' (t.ren ρ) c:=by
 induction h with
 | d h=>exact .d (h.same hw hk)
 | bot c=>exact .bot c
 | ref n s i o hn hs=>obtain⟨h1,h2⟩:=hρ n hn;rw[← h2];exact .ref (ρ n) s i o h1 hs
 | row n s lo len a hn hs hl ha=>obtain⟨h1,h2⟩:=hρ n hn;rw[← h2]at hl ha ⊢;exact .row (ρ n) s lo len a h1 hs hl ha
 | mp n hn=>obtain⟨h1,h2⟩:=hρ n hn;rw[← h2];exact .mp (ρ n) h1
 | agg l cs hl h ih =>
  simp only[T.ren,A1Z]
  refine .agg _ cs (by simpa using hl) fun i d c hd hc=>?_
  rw[List.getElem?_map,Option.map_eq_some_iff]at hd
  obtain⟨d',hd',rfl⟩:=hd
  exact ih i d' c hd' hc
 | tup l cs hl h ih =>
  simp only[T.ren,A1Z]
  refine .tup _ cs (by simpa using hl) fun i d c hd hc=>?_
  rw[List.getElem?_map,Option.map_eq_some_iff]at hd
  obtain⟨d',hd',rfl⟩:=hd
  exact ih i d' c hd' hc
 | fn f l m cs ds hl h hm k ih ik =>
  simp only[T.ren,A1Z]
  refine .fn f _ _ cs ds (by simpa using hl) (fun i d c hd hc=>?_) (by simpa using hm) (fun i d c hd hc=>?_)
  ·rw[List.getElem?_map,Option.map_eq_some_iff]at hd
   obtain⟨d',hd',rfl⟩:=hd
   exact ih i d' c hd' hc
  ·rw[List.getElem?_map,Option.map_eq_some_iff]at hd
   obtain⟨d',hd',rfl⟩:=hd
   exact ik i d' c hd' hc
 | iface t x c h ih=>exact .iface t _ c ih
theorem VT.unren {g g':G} (hw:g.w=g'.w) (hk:∀ b,g'.K b→g.K b) {ρ:Nat→Nat} {k:Nat} (hρ:∀ n,n<k→g.M n≠none∧g'.β (ρ n)=g.β n) :
  ∀ (t:T) (c:Value),t.sc k=true→VT g' (t.ren ρ) c→VT g t c:=by
 have key:∀ {t':T} {c:Value},VT g' t' c→∀ t,t'=t.ren ρ→t.sc k=true→VT g t c:=by
  intro t' c h
  induction h with
  | d h=>intro t ht hs;cases t<;>simp[T.ren]at ht;subst ht;exact .d (h.same hw hk)
  | bot c=>intro t ht hs;cases t<;>simp[T.ren]at ht;exact .bot c
  | mp n hn =>
   intro t ht hs;cases t<;>simp[T.ren]at ht
   subst ht
   rename_i n
   obtain⟨h1,h2⟩:=hρ n (by simpa[T.sc,Nat.blt_eq]using hs)
   rw[h2];exact .mp n h1
  | ref n s i o hn hs0 =>
   intro t ht hs;cases t<;>simp[T.ren]at ht
   obtain⟨rfl,rfl,rfl,rfl⟩:=ht
   rename_i n
   obtain⟨h1,h2⟩:=hρ n (by simpa[T.sc,Nat.blt_eq]using hs)
   rw[h2];exact .ref n s i o h1 hs0
  | row n s lo len a hn hs0 hl ha =>
   intro t ht hs;cases t<;>simp[T.ren]at ht
   obtain⟨rfl,rfl,rfl,rfl⟩:=ht
   rename_i n
   obtain⟨h1,h2⟩:=hρ n (by simpa[T.sc,Nat.blt_eq]using hs)
   rw[h2]at hl ha ⊢;exact .row n s lo len a h1 hs0 hl ha
  | agg l cs hl h ih =>
   intro t ht hs;cases t<;>simp[T.ren,A1Z]at ht
   rename_i l'
   subst ht
   refine .agg _ cs (by simpa using hl) fun i d c hd hc=>ih i (d.ren ρ) c (by simp[hd]) hc d rfl ?_
   simp only[T.sc,A3m,List.all_eq_true]at hs
   exact hs d (List.mem_of_getElem? hd)
  | tup l cs hl h ih =>
   intro t ht hs;cases t<;>simp[T.ren,A1Z]at ht
   rename_i l'
   subst ht
   refine .tup _ cs (by simpa using hl) fun i d c hd hc=>ih i (d.ren ρ) c (by simp[hd]) hc d rfl ?_
   simp only[T.sc,A3m,List.all_eq_true]at hs
   exact hs d (List.mem_of_getElem? hd)
  | fn f l m cs ds hl h hm k' ih ik =>
   intro t ht hs;cases t<;>simp[T.ren,A1Z]at ht
   rename_i f' l' m'
   obtain⟨rfl,rfl,rfl⟩:=ht
   simp only[T.sc,A3m,Bool.and_eq_true,List.all_eq_true]at hs
   refine .fn f _ _ cs ds (by simpa using hl) (fun i d c hd hc=>ih i (d.ren ρ) c (by simp[hd]) hc d rfl (hs.1 d (List.mem_of_getElem? hd))) (by simpa using hm)
    (fun i d c hd hc=>ik i (d.ren ρ) c (by simp[hd]) hc d rfl (hs.2 d (List.mem_of_getElem? hd)))
  | iface t x c h ih =>
   intro u ht hs;cases u<;>simp[T.ren]at ht
   obtain⟨rfl,rfl⟩:=ht
   exact .iface _ _ c (ih _ rfl hs)
 exact fun t c hs h=>key h t rfl hs
inductive SE where
 | ret (t:T)
 | pan (t:T)
def SER (g:G):SE→Ending→Prop
 | .ret t,.returned v=>VT g t v
 | .pan t,.panicked ch=>∃ v,ch=[{ v,recovered:=false }]∧VT g t v
 | _,_=>False
def SC (P:Program) (f:FuncId) (args:List T) (L:List (Option Rw)) (R:SE→List (Option Rw)→Prop):Prop :=
 ∀ g vs,P6 g→g.M=ofL L→VTs g args vs→Calls P f vs.toArray g.w fun e w'=>∃ g' se L',g'.w=w'∧P6 g'∧Le g g'∧g'.M=ofL L'∧SER g' se e∧R se L'
theorem SC.mono {P:Program} {f:FuncId} {args:List T} {L:List (Option Rw)} {R R':SE→List (Option Rw)→Prop} (h:SC P f args L R) (k:∀ se L',R se L'→R' se L'):SC P f args L R' :=
 fun g vs hg hM hv=>(h g vs hg hM hv).mono fun _ _ ⟨g',se,L',h1,h2,h3,h4,h5,h6⟩=>⟨g',se,L',h1,h2,h3,h4,h5,k se L' h6⟩
def Ent (P:Program) (f:FuncId):Prop:=∀ args w,(callFunc f args).run P w = .ok (.enter f args) w
def C0y (P:Program) (f:FuncId):Bool:=match P.funcs[f]? with
 | some fn => fn.name != "runtime.NumGoroutine" && fn.body.isSome
 | none=>false
theorem Ent.of {P:Program} {f:FuncId} (h:C0y P f=true):Ent P f:=by
 intro args w
 unfold C0y at h
 cases hf:P.funcs[f]? with
 | none=>rw[hf]at h;cases h
 | some fn =>
  rw[hf]at h
  simp only[Bool.and_eq_true,bne_iff_ne,ne_eq]at h
  obtain⟨h1,h2⟩:=h
  have h3:fn.body≠none:=by intro hb;rw[hb]at h2;cases h2
  simp[callFunc,hf,h1,h3]
def ext (ρ:List Nat) (fresh:Nat) (n:Nat):Nat:=if n<ρ.length then ρ.getD n 0 else fresh+(n-ρ.length)
def G.back (g gc:G) (ρ:List Nat) (fresh cnt:Nat):G :=
 ⟨fun n=>match ρ.idxOf? n with
   | some k=>(gc.M k).map fun o=>o.map (Rw.ren (ext ρ fresh))
   | none=>if fresh≤n∧n<fresh+cnt then(gc.M (ρ.length+(n-fresh))).map fun o=>o.map (Rw.ren (ext ρ fresh))else g.M n,
  fun n=>if fresh≤n∧n<fresh+cnt then gc.β (ρ.length+(n-fresh))else g.β n,gc.K,gc.w⟩
theorem A64 {ρ:List Nat} {n k:Nat} (h:ρ.idxOf? n=some k):k<ρ.length∧ρ.getD k 0=n:=by
 rw[List.idxOf?,List.findIdx?_eq_some_iff_getElem]at h
 obtain⟨h1,h2,_⟩:=h
 exact⟨h1,by rw[List.getD_eq_getElem?_getD,List.getElem?_eq_getElem h1,Option.getD_some];simpa using h2⟩
theorem B9K {ρ:List Nat} (hnd:ρ.Nodup) {k:Nat} (h:k<ρ.length):ρ.idxOf? (ρ.getD k 0)=some k:=by
 rw[List.idxOf?,List.findIdx?_eq_some_iff_getElem]
 have e:ρ.getD k 0=ρ[k]:=by rw[List.getD_eq_getElem?_getD,List.getElem?_eq_getElem h,Option.getD_some]
 refine⟨h,by rw[e];simp,fun j hj=>?_⟩
 rw[e]
 have:=(List.pairwise_iff_getElem.1 hnd) j k (by omega) h hj
 simpa using this
theorem B76 {ρ:List Nat} {n:Nat} (h:ρ.idxOf? n=none):∀ k,k<ρ.length→ρ.getD k 0≠n:=fun k hk e=>by
 rw[List.idxOf?,List.findIdx?_eq_none_iff]at h
 have e':ρ.getD k 0=ρ[k]:=by rw[List.getD_eq_getElem?_getD,List.getElem?_eq_getElem hk,Option.getD_some]
 have:=h ρ[k] (List.getElem_mem hk)
 rw[← e',e]at this
 simp at this
theorem A7U {g gc gc':G} {ρ:List Nat} {fresh cnt:Nat} {Lf Lf':List (Option Rw)} (hnd:ρ.Nodup) (hg:P6 g) (hlen:Lf.length=ρ.length) (hcnt:Lf'.length=ρ.length+cnt) (hfr:∀ k,k<ρ.length→ρ.getD k 0<fresh)
  (hc:gc=⟨ofL Lf,fun n=>g.β (ext ρ fresh n),g.K,g.w⟩) (hrows:∀ (k:Nat) (o:Option Rw),Lf[k]?=some o→g.M (ρ.getD k 0)=some (o.map (Rw.ren (ext ρ fresh)))) (hnew:∀ k,k<cnt→g.M (fresh+k)=none)
  (hg':P6 gc') (hle:Le gc gc') (hM':gc'.M=ofL Lf'):P6 (g.back gc' ρ fresh cnt)∧Le g (g.back gc' ρ fresh cnt)∧∀ t v,VT gc' t v→VT (g.back gc' ρ fresh cnt) (t.ren (ext ρ fresh)) v:=by
 have hsz:gc.w=g.w:=by rw[hc]
 have hK:gc.K=g.K:=by rw[hc]
 -- names that come in
 have hin:∀ k,k<ρ.length→gc'.β k=g.β (ρ.getD k 0)∧gc'.M k≠none:=fun k hk=>by
  have hne:gc.M k≠none:=by rw[hc];simp[ofL,hlen,hk]
  obtain⟨h1,h2⟩:=hle.e k hne
  refine⟨?_,h1⟩
  rw[h2,hc]
  simp[ext,hk]
 have hfresh:∀ k,k<ρ.length→¬ (fresh≤ρ.getD k 0∧ρ.getD k 0<fresh+cnt):=fun k hk=>by have:=hfr k hk;omega
 have hβin:∀ k,k<ρ.length→(g.back gc' ρ fresh cnt).β (ρ.getD k 0)=gc'.β k:=fun k hk=>by
  simp only[G.back]
  rw[if_neg (hfresh k hk),(hin k hk).1]
 have hMin:∀ k,k<ρ.length→(g.back gc' ρ fresh cnt).M (ρ.getD k 0)=(gc'.M k).map fun o=>o.map (Rw.ren (ext ρ fresh)):=fun k hk=>by
  simp only[G.back]
  rw[B9K hnd hk]
 have hidx:∀ n,fresh≤n→ρ.idxOf? n=none:=fun n hn=>by
  cases h:ρ.idxOf? n with
  | none=>rfl
  | some k=>obtain⟨h1,h2⟩:=A64 h;have:=hfr k h1;omega
 have hnewM:∀ n,fresh≤n→n<fresh+cnt→(g.back gc' ρ fresh cnt).M n=(gc'.M (ρ.length+(n-fresh))).map fun o=>o.map (Rw.ren (ext ρ fresh)):=fun n h1 h2=>by
  simp only[G.back]
  rw[hidx n h1]
  dsimp only
  rw[if_pos ⟨h1,h2⟩]
 have hnewβ:∀ n,fresh≤n→n<fresh+cnt→(g.back gc' ρ fresh cnt).β n=gc'.β (ρ.length+(n-fresh)):=fun n h1 h2=>by
  simp only[G.back]
  rw[if_pos ⟨h1,h2⟩]
 have hold:∀ n,ρ.idxOf? n=none→¬ (fresh≤n∧n<fresh+cnt)→(g.back gc' ρ fresh cnt).M n=g.M n∧(g.back gc' ρ fresh cnt).β n=g.β n:=fun n h1 h2=>by
  simp only[G.back]
  rw[h1]
  dsimp only
  rw[if_neg h2,if_neg h2]
  exact⟨rfl,rfl⟩
 have hext:∀ n,gc'.M n≠none→(g.back gc' ρ fresh cnt).M (ext ρ fresh n)≠none∧(g.back gc' ρ fresh cnt).β (ext ρ fresh n)=gc'.β n:=fun n hn=>by
  unfold ext
  by_cases hk:n<ρ.length
  ·rw[if_pos hk,hMin n hk,hβin n hk]
   exact⟨by simpa using hn,rfl⟩
  ·rw[if_neg hk]
   have hlt:n<ρ.length+cnt:=by
    rw[hM']at hn
    simp only[ofL,ne_eq,List.getElem?_eq_none_iff,Nat.not_le]at hn
    omega
   rw[hnewM _ (by omega) (by omega),hnewβ _ (by omega) (by omega),show ρ.length+(fresh+(n-ρ.length)-fresh)=n by omega]
   exact⟨by simpa using hn,rfl⟩
 have hVT:∀ t v,VT gc' t v→VT (g.back gc' ρ fresh cnt) (t.ren (ext ρ fresh)) v:=fun t v h=>VT.ren (g:=gc') (g':=g.back gc' ρ fresh cnt) (ρ:=ext ρ fresh) rfl (fun b hb=>hb) hext h
 -- where live names come from
 have live:∀ n r,(g.back gc' ρ fresh cnt).M n=some (some r)→(∃ k q,gc'.M k=some (some q)∧r=q.ren (ext ρ fresh)∧(g.back gc' ρ fresh cnt).β n=gc'.β k∧n=ext ρ fresh k)∨(ρ.idxOf? n=none∧¬ (fresh≤n∧n<fresh+cnt)∧g.M n=some (some r)∧(g.back gc' ρ fresh cnt).β n=g.β n):=fun n r h=>by
  cases hi:ρ.idxOf? n with
  | some k =>
   obtain⟨h1,h2⟩:=A64 hi
   rw[← h2,hMin k h1,Option.map_eq_some_iff]at h
   obtain⟨o,ho,hor⟩:=h
   cases o with
   | none=>cases hor
   | some q =>
    simp only[Option.map_some,Option.some.injEq]at hor
    exact .inl ⟨k,q,ho,hor.symm,by rw[← h2];exact hβin k h1,by rw[← h2];simp[ext,h1]⟩
  | none =>
   by_cases hf:fresh≤n∧n<fresh+cnt
   ·rw[hnewM n hf.1 hf.2,Option.map_eq_some_iff]at h
    obtain⟨o,ho,hor⟩:=h
    cases o with
    | none=>cases hor
    | some q =>
     simp only[Option.map_some,Option.some.injEq]at hor
     refine .inl ⟨_,q,ho,hor.symm,hnewβ n hf.1 hf.2,?_⟩
     unfold ext
     rw[if_neg (by omega)]
     omega
   ·obtain⟨h1,h2⟩:=hold n hi hf
    rw[h1]at h
    exact .inr ⟨rfl,hf,h,h2⟩
 -- a block of another name of the caller's
 have hother:∀ n r,ρ.idxOf? n=none→g.M n=some (some r)→(g.β n).2≠0→NL gc (g.β n).1:=fun n r hi hn hn0 k q hk hk0 he=>by
  rw[hc]at hk he hk0
  dsimp only at hk he hk0
  have hkl:k<ρ.length:=by
   rw[← hlen]
   exact(List.getElem?_eq_some_iff.1 hk).1
  have h1:=hrows k (some q) hk
  have e1:ext ρ fresh k=ρ.getD k 0:=by simp only[ext];rw[if_pos hkl]
  rw[e1]at he hk0
  have:=hg.inj _ _ _ _ h1 hn hk0 hn0 he
  exact B76 hi k hkl this
 have hNLc:∀ b,NL g b→NL gc b:=fun b hb k q hk hk0 he=>by
  rw[hc]at hk he hk0
  dsimp only at hk he hk0
  have hkl:k<ρ.length:=by rw[← hlen];exact(List.getElem?_eq_some_iff.1 hk).1
  have h1:=hrows k (some q) hk
  have e1:ext ρ fresh k=ρ.getD k 0:=by simp only[ext];rw[if_pos hkl]
  rw[e1]at he hk0
  exact hb _ _ h1 hk0 he
 have hL:Le g (g.back gc' ρ fresh cnt):=by
  refine⟨fun n hn=>?_,by rw[← hsz];exact hle.size,by rw[← hsz];exact hle.os,by rw[← hsz];exact hle.tape,by rw[← hsz];exact hle.output,fun b hb hnl=>?_,fun b hb=>hle.k b (by rw[hK];exact hb),fun b hb hk=>?_,fun n r hn h0 hlt=>?_⟩
  ·cases hi:ρ.idxOf? n with
   | some k =>
    obtain⟨h1,h2⟩:=A64 hi
    rw[← h2]
    exact⟨by rw[hMin k h1];simpa using (hin k h1).2,by rw[hβin k h1,(hin k h1).1]⟩
   | none =>
    by_cases hf:fresh≤n∧n<fresh+cnt
    ·exact absurd (by have:=hnew (n-fresh) (by omega);rwa [show fresh+(n-fresh)=n by omega]at this) hn
    ·obtain⟨h1,h2⟩:=hold n hi hf
     rw[h1,h2];exact⟨hn,rfl⟩
  ·show gc'.w.heap[b]?=_
   rw[← hsz]
   exact hle.fr b (by rw[hsz];exact hb) (hNLc b hnl)
  ·rcases hle.k' b (by rw[hsz];exact hb) hk with h | h
   ·exact .inl (by rw[← hK];exact h)
   ·exact .inr fun hn=>h (hNLc b hn)
  ·rcases live n r hn with⟨k,q,h1,_,h3,_⟩ | ⟨hi,hf,h1,h2⟩
   ·rw[h3]at hlt h0 ⊢
    exact fun hh=>hle.nl k q h1 h0 (by rw[hsz];exact hlt) (hNLc _ hh)
   ·rw[h2]at h0 ⊢
    exact fun hh=>hh n r h1 h0 rfl
 refine⟨⟨fun n r hn=>?_,fun n m r q hn hm hn0 hm0 he=>?_,fun b hb=>hg'.kd b hb,fun b hb n r hn h0=>?_⟩,hL,hVT⟩
 ·rcases live n r hn with⟨k,q,h1,rfl,h3,_⟩ | ⟨hi,hf,h1,h2⟩
  ·refine(hg'.rows k q h1).rel rfl h3 (fun _=>rfl) (by simp[Rw.ren]) (fun x x'=>x'=x.ren (ext ρ fresh)) (fun i x x' hx hx'=>?_) (fun x x' h=>?_) (fun k y x' h=>⟨y.ren (ext ρ fresh),h,rfl⟩) (fun t t' c h hv=>h▸hVT t c hv)
   ·simp only[Rw.ren,List.getElem?_map,hx,Option.map_some,Option.some.injEq]at hx'
    exact hx'.symm
   ·subst h
    rw[B2l]
    refine⟨by simp,fun j y y' hy hy'=>?_⟩
    rw[List.getElem?_map,hy,Option.map_some,Option.some.injEq]at hy'
    exact hy'.symm
  ·refine(hg.rows n r h1).keep hg hL h2 fun h0=>?_
   show gc'.w.heap[_]?=_
   rw[← hsz]
   exact hle.fr _ (by rw[hsz];exact(hg.rows n r h1).lt h0) (hother n r hi h1 h0)
 ·rcases live n r hn with⟨k,k1,k2,_,k3,k4⟩ | ⟨hi,hf,h1,h2⟩<;>rcases live m q hm with⟨j,j1,j2,_,j3,j4⟩ | ⟨hi',hf',h1',h2'⟩
  ·rw[k3,j3]at he
   rw[k3]at hn0
   rw[j3]at hm0
   rw[k4,j4,hg'.inj k j _ _ k2 j2 hn0 hm0 he]
  ·exfalso
   rw[k3,h2']at he
   rw[k3]at hn0
   rw[h2']at hm0
   have hlt:(gc'.β k).1<gc.w.heap.size:=by rw[he,hsz];exact(hg.rows m q h1').lt hm0
   exact hle.nl k k1 k2 hn0 hlt (by rw[he];exact hother m q hi' h1' hm0)
  ·exfalso
   rw[j3,h2]at he
   rw[j3]at hm0
   rw[h2]at hn0
   have hlt:(gc'.β j).1<gc.w.heap.size:=by rw[← he,hsz];exact(hg.rows n r h1).lt hn0
   exact hle.nl j j1 j2 hm0 hlt (by rw[← he];exact hother n r hi h1 hn0)
  ·rw[h2,h2']at he
   rw[h2]at hn0
   rw[h2']at hm0
   exact hg.inj n m r q h1 h1' hn0 hm0 he
 ·rcases live n r hn with⟨k,q,h1,_,h3,_⟩ | ⟨hi,hf,h1,h2⟩
  ·rw[h3]at h0 ⊢;exact hg'.kl b hb k q h1 h0
  ·rw[h2]at h0 ⊢
   intro e
   have hlt:b<gc.w.heap.size:=by rw[← e,hsz];exact(hg.rows n r h1).lt h0
   rcases hle.k' b hlt hb with h | h
   ·rw[hK]at h;exact hg.kl b h n r h1 h0 e
   ·exact h (by rw[← e];exact hother n r hi h1 h0)
end Go.Proofs.YtlaogbbcipebgaaGreat.Sh
