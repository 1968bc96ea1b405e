/- Functions and calls in plain pictures. Over whatever program. -/
import Derived.Test.YtlaogbbcipebgaaGreatSh12
namespace Go.Proofs.YtlaogbbcipebgaaGreat.Sh
set_option linter.unusedVariables false
set_option linter.unusedSimpArgs false
open Go
def L8:Nat→List T→List (Nat × T)
 | _,[]=>[]
 | k,t::l=>(k,t)::L8 (k+1) l
theorem B0E:∀ (l:List T) (k i:Nat),W8 (L8 k l) i=if k≤i then l.getD (i-k) .bot else .bot
 | [],k,i=>by simp[L8,W8]
 | t::l,k,i=>by
  simp only[L8,W8]
  by_cases hik:i=k
  ·subst hik;simp
  ·have hb:Nat.beq i k=false:=by
    cases h:Nat.beq i k with
    | false=>rfl
    | true=>exact absurd (Nat.eq_of_beq_eq_true h) hik
   rw[hb,cond_false,B0E l (k+1) i]
   by_cases h:k≤i
   ·rw[if_pos (by omega),if_pos h,show i-k=(i-(k+1))+1 by omega];rfl
   ·rw[if_neg (by omega),if_neg h]
inductive B7g (P:Program) (st:St):ResultVar→T→Prop where
 | tmp (i:Nat):B7g P st (.tmp i) (W8 st.ts i)
 | cell {a:Nat} {t:TypeId} {i:TI} {n s k c:Nat} {r:Rw} {e:T} (ht:TOk P t i) (h:W8 st.ts a = .ref n s k c) (hr:st.L[n]?=some (some r)) (hs:r.s=s) (he:r.els[k]?=some e) (hp:A2S i e.cells.length c=true) :
   B7g P st (.cell a t) (A29 i e.cells c)
inductive A8t (P:Program) (st:St):List ResultVar→List T→Prop where
 | nil:A8t P st [] []
 | cons {x:ResultVar} {t:T} {xs:List ResultVar} {ts:List T} (h:B7g P st x t) (k:A8t P st xs ts):A8t P st (x::xs) (t::ts)
def B51:List T→T
 | [t]=>t
 | l=>mkTup l
def B4q (tmps:Array Value):ResultVar→Sem Value
 | .tmp t=>pure (tmps.getD t undef)
 | .cell b t=>do loadVar t (← asAddr (tmps.getD b undef))
theorem B3h {P:Program} {N:Nat} {st:St} {g:G} {a:Act} {df:List Deferred} (hR:StR g N st a df) {rs:List ResultVar} {ts:List T} (h:A8t P st rs ts) :
  ∃ cs,(rs.mapM (B4q a.tmps)).run P g.w = .ok cs g.w∧VTs g ts cs:=by
 induction h with
 | nil=>exact⟨[],rfl,.nil g⟩
 | cons h _ ih =>
  obtain⟨cs,h1,h2⟩:=ih
  cases h with
  | tmp i =>
   refine⟨a.tmps.getD i undef::cs,?_,.cons (hR.ts i) h2⟩
   have h3:(B4q a.tmps (.tmp i)).run P g.w = .ok (a.tmps.getD i undef) g.w:=rfl
   rw[List.mapM_cons,Sem.run_bind,h3,Result.andThen_ok,Sem.run_bind,h1]
   rfl
  | cell ht h hr hs he hp =>
   rename_i b t i n s k c r e
   subst hs
   have hx:=hR.ts b
   rw[h]at hx
   generalize hv:a.tmps.getD b undef=v at hx
   cases hx with | ref _ _ _ _ _ hs0 =>
   obtain⟨p1,p2⟩:=A8f hp
   have hM:g.M n=some (some r):=by rw[hR.M];exact hr
   obtain⟨cv,h3,h4⟩:=B2L (g:=g) (b:=(g.β n).1) (off:=k*r.s+c) ht p1 (fun j y hy=>by
    rw[List.getElem?_take]at hy
    split at hy
    ·rw[List.getElem?_drop]at hy
     obtain⟨c',hc',hv'⟩:=(hR.good.rows n r hM).get hs0 he hy
     exact⟨c',by rw[Nat.add_assoc];exact hc',hv'⟩
    ·cases hy) p2
   refine⟨cv::cs,?_,.cons h4 h2⟩
   have h3':(loadVar t ⟨(g.β n).1,k*r.s+c,none⟩).run P g.w = .ok cv g.w:=by simpa[Instr.loadAt,Instr.sureAddr]using h3
   have h5:(B4q a.tmps (.cell b t)).run P g.w = .ok cv g.w:=by simp[B4q,hv,asAddr,h3']
   rw[List.mapM_cons,Sem.run_bind,h5,Result.andThen_ok,Sem.run_bind,h1]
   rfl
def Fin (P:Program) (fn:Func) (n0:Nat) (R:SE→List (Option Rw)→Prop):SX→St→Prop
 | .ret,st | .norm,st=>∃ ts κ t L,A8t P st fn.results.toList ts∧Vw n0 ⟨[(0,B51 ts)],st.L⟩ ⟨[(0,t)],L⟩ κ∧R (.ret t) L
 | .pan t,st=>∃ κ st',Vw n0 st st' κ∧t.sc κ.length=true∧(∃ t',t=t'.ren (kap κ)∧t'.sc κ.length=true∧R (.pan t') st'.L)
 | _,_=>False
theorem B17 {g:G} {ts:List T} {cs:List Value} (h:VTs g ts cs):VT g (B51 ts) (if h:cs.toArray.size=1 then cs.toArray[0]else .tuple cs.toArray):=by
 cases ts with
 | nil =>
  have:cs=[]:=List.eq_nil_of_length_eq_zero h.1.symm
  subst this
  exact VT.mkTup h
 | cons t l =>
  cases l with
  | nil =>
   obtain⟨c,rfl⟩:∃ c,cs=[c]:=List.length_eq_one_iff.1 h.1.symm
   exact h.2 0 t c rfl rfl
  | cons u l =>
   have:¬ cs.toArray.size=1:=by have:=h.1;simp at this ⊢;omega
   rw[dif_neg this]
   exact VT.mkTup h
theorem B5z {g:G} (hg:P6 g) {L:List (Option Rw)} (hM:g.M=ofL L) {t:T} {v:Value} (h:VT g t v):StR g 1 ⟨[(0,t)],L⟩ { tmps:=#[v],defers:=[] } [] :=
 ⟨hg,hM,rfl,fun i=>by
  cases i with
  | zero=>exact h
  | succ i=>exact .bot _,rfl⟩
theorem SC.of_sw {P:Program} {f:FuncId} {fn:Func} {c:Code} {N:Nat} {args:List T} {L:List (Option Rw)} {R:SE→List (Option Rw)→Prop} (hf:P.funcs[f]?=some fn) (hb:fn.body=some c) (hN:fn.ntmps=N) (hl:Nat.ble args.length N=true)
  (h:SW P L.length N [] c (Fin P fn L.length R) ⟨L8 0 args,L⟩):SC P f args L R:=fun g vs hg hM hv=>by
 refine callsIn_wide.1 (callsIn_of_wp (n:=0) hf hb trivial ?_ rfl)
 have hle:=Nat.le_of_ble_eq_true hl
 have hlen:=hv.1
 have hR:StR g N ⟨L8 0 args,L⟩ { tmps:=vs.toArray++Array.replicate (fn.ntmps-vs.toArray.size) undef,defers:=[] } []:=by
  refine⟨hg,hM,by simp[hN];omega,fun i=>?_,rfl⟩
  dsimp only
  rw[B0E,if_pos (Nat.zero_le i),Nat.sub_zero]
  by_cases hi:i<args.length
  ·have h1:args[i]?=some args[i]:=List.getElem?_eq_getElem hi
   have h2:vs[i]?=some (vs[i]'(by omega)):=List.getElem?_eq_getElem _
   rw[List.getD_eq_getElem?_getD,h1,Option.getD_some,Array.getD_eq_getD_getElem?,Array.getElem?_append_left (by simp;omega),List.getElem?_toArray,h2,Option.getD_some]
   exact hv.2 i _ _ h1 h2
  ·rw[List.getD_eq_getElem?_getD,List.getElem?_eq_none (by omega)]
   exact .bot _
 refine wpIn_mono (h Fence.wide 0 Wd.wide g _ hR) ?_
 rintro ex a' w' ⟨g',sx,st',rfl,h2,h3,h4,h5⟩
 have done:(sx = .ret∨sx = .norm)→∃ g'' t L',g''.w=g'.w∧a'.defers=[]∧P6 g''∧Le g g''∧g''.M=ofL L'∧R (.ret t) L'∧∃ v,(results fn a'.tmps).run P g'.w = .ok v g'.w∧VT g'' t v:=fun hs=>by
  have h6:∃ ts κ t L',A8t P st' fn.results.toList ts∧Vw L.length ⟨[(0,B51 ts)],st'.L⟩ ⟨[(0,t)],L'⟩ κ∧R (.ret t) L':=by rcases hs with rfl | rfl<;>exact h5
  obtain⟨ts,κ,t,L',k1,k2,k4⟩:=h6
  obtain⟨cs,e4,e5⟩:=B3h h3 k1
  obtain⟨g'',e1,e2,e3⟩:=k2.see (B5z h3.good h3.M (B17 e5))
  refine⟨g'',_,L',e1,h3.df,e3.good,(h2.trans e2).toLe hM (Nat.le_refl _),e3.M,k4,_,?_,e3.ts 0⟩
  have e6:results fn a'.tmps=(do let vs ← fn.results.mapM (B4q a'.tmps);pure (if h:vs.size=1 then vs[0]else .tuple vs)):=rfl
  rw[e6,Array.mapM_eq_mapM_toList,Sem.run_bind,Sem.run_map,e4]
  rfl
 cases sx with
 | norm =>
  cases ex<;>first | exact h4.elim | skip
  obtain⟨g'',t,L',e1,e2,e3,e4,e5,e6,v,e7,e8⟩:=done (.inr rfl)
  exact⟨e2,v,e7,g'',.ret t,L',e1,e3,e4,e5,e8,e6⟩
 | ret =>
  cases ex<;>first | exact h4.elim | skip
  obtain⟨g'',t,L',e1,e2,e3,e4,e5,e6,v,e7,e8⟩:=done (.inl rfl)
  exact⟨e2,v,e7,g'',.ret t,L',e1,e3,e4,e5,e8,e6⟩
 | exit i=>exact h5.elim
 | pan t =>
  cases ex<;>first | exact h4.elim | skip
  obtain⟨v,rfl,hv'⟩:=h4
  obtain⟨κ,st'',k1,k2,t',rfl,k3,k4⟩:=h5
  obtain⟨v1,v2⟩:=A9T h3.good h3.M k1.nd k1.len k1.rows
  refine⟨h3.df,⟨ofL st''.L,fun n=>g'.β (kap κ n),g'.K,g'.w⟩,.pan t',st''.L,rfl,v1,?_,rfl,⟨v,rfl,v2 _ _ k3 hv'⟩,k4⟩
  refine LeN.toLe (n0:=L.length) (h2.trans ⟨fun n hn hne=>?_,Nat.le_refl _,rfl,rfl,rfl,fun _ _ _=>rfl,fun _ h=>h,fun _ _ h => .inl h,fun n r hn h0 _ hnl=>?_⟩) hM (Nat.le_refl _)
  ·rw[h3.M]at hne
   simp only[ofL,ne_eq,List.getElem?_eq_none_iff,Nat.not_le]at hne
   obtain⟨e1,e2⟩:=k1.base n hn hne
   exact⟨by simp only[ofL,ne_eq,List.getElem?_eq_none_iff,k1.len];omega,by show g'.β (kap κ n)=_;rw[e2]⟩
  ·obtain⟨o',e1,e2⟩:=A6G k1.rows n (some r) hn
   rw[Nat.zero_add]at e1
   refine hnl (kap κ n) (r.ren (kap κ)) ?_ h0 rfl
   rw[h3.M];unfold ofL;rw[e1,(e2 r rfl).1]
def B6r (t:T) (f:FuncId) (fi ca:List T):Prop:=(t = .d (.v (.func (.func f) #[] #[]))∧fi=[]∧ca=[])∨t = .fn (.func f) fi ca
theorem A8P {g:G} {t:T} {c:Value} {f:FuncId} {fi ca:List T} (h:VT g t c) (ht:B6r t f fi ca):∃ cs ds,c = .func (.func f) cs ds∧VTs g fi cs.toList∧VTs g ca ds.toList:=by
 rcases ht with⟨rfl,rfl,rfl⟩ | rfl
 ·exact⟨#[],#[],h.v_eq,.nil g,.nil g⟩
 ·cases h with | fn _ _ _ cs ds h1 h2 h3 h4 =>
  exact⟨cs,ds,rfl,⟨by simpa using h1,fun i d c hd hc=>h2 i d c hd (by simpa using hc)⟩,⟨by simpa using h3,fun i d c hd hc=>h4 i d c hd (by simpa using hc)⟩⟩
theorem B8C {ρ:List Nat} {fresh n:Nat} (h:n<ρ.length):ext ρ fresh n=kap ρ n:=by unfold ext kap;rw[if_pos h]
mutual
theorem ren_congr {σ τ:Nat→Nat} {k:Nat} (h:∀ n,n<k→σ n=τ n):∀ t:T,t.sc k=true→t.ren σ=t.ren τ
 | .d x,_=>rfl
 | .bot,_=>rfl
 | .ref n s i o,hs=>by simp only[T.ren];rw[h n (by simpa[T.sc,Nat.blt_eq]using hs)]
 | .row n s lo len,hs=>by simp only[T.ren];rw[h n (by simpa[T.sc,Nat.blt_eq]using hs)]
 | .mp n,hs=>by simp only[T.ren];rw[h n (by simpa[T.sc,Nat.blt_eq]using hs)]
 | .agg l,hs=>by simp only[T.ren];rw[A5S h l (by simpa[T.sc]using hs)]
 | .tup l,hs=>by simp only[T.ren];rw[A5S h l (by simpa[T.sc]using hs)]
 | .fn f a b,hs=>by
  simp only[T.sc,Bool.and_eq_true]at hs
  simp only[T.ren];rw[A5S h a hs.1,A5S h b hs.2]
 | .iface t x,hs=>by simp only[T.ren];rw[ren_congr h x (by simpa[T.sc]using hs)]
theorem A5S {σ τ:Nat→Nat} {k:Nat} (h:∀ n,n<k→σ n=τ n):∀ l:List T,scL k l=true→A5n σ l=A5n τ l
 | [],_=>rfl
 | x::l,hs=>by
  simp only[scL,Bool.and_eq_true]at hs
  simp only[A5n];rw[ren_congr h x hs.1,A5S h l hs.2]
end
theorem Rw.ren_congr {σ τ:Nat→Nat} {k:Nat} (h:∀ n,n<k→σ n=τ n) {r:Rw} (hs:r.sc k=true):r.ren σ=r.ren τ:=by
 unfold Rw.ren
 unfold Rw.sc at hs
 rw[List.all_eq_true]at hs
 congr 1
 exact List.map_congr_left fun x hx=>Sh.ren_congr h x (hs x hx)
def A5T:List Nat→List Rw→List (Nat × Rw)
 | n::ρ,r::rs=>(n,r)::A5T ρ rs
 | _,_=>[]
def A9x (σ:Nat→Nat):List Nat→List (Option Rw)→List (Nat × Option Rw)
 | n::ρ,o::os=>(n,o.map (Rw.ren σ))::A9x σ ρ os
 | _,_=>[]
theorem B4s:∀ {ρ:List Nat} {rs:List Rw} {k:Nat} {r:Rw},ρ.length=rs.length→rs[k]?=some r→(ρ.getD k 0,r)∈A5T ρ rs
 | [],[],k,r,_,h=>by simp at h
 | n::ρ,q::rs,0,r,_,h=>by simp at h;subst h;simp[A5T]
 | n::ρ,q::rs,k+1,r,hl,h=>by
  have:=B4s (ρ:=ρ) (rs:=rs) (k:=k) (r:=r) (by simpa using hl) (by simpa using h)
  simpa[A5T]using .inr this
theorem B2y (σ:Nat→Nat):∀ (ρ:List Nat) (os:List (Option Rw)) (n:Nat),ρ.length=os.length→(A9x σ ρ os).find? (fun p=>p.1==n)=(ρ.idxOf? n).bind fun k=>(os[k]?).map fun o=>(n,o.map (Rw.ren σ))
 | [],[],n,_=>rfl
 | m::ρ,o::os,n,hl=>by
  simp only[A9x,List.find?_cons]
  rw[List.idxOf?_cons]
  by_cases h:m=n
  ·subst h;simp
  ·have hb:(m==n)=false:=by simpa using h
   rw[hb]
   simp only[Bool.false_eq_true,if_false]
   rw[B2y σ ρ os n (by simpa using hl)]
   cases ρ.idxOf? n<;>simp
theorem B5A {P:Program} {o:Oper} {fresh:Nat} {x:Operand} {xs:Array Operand} {tys:Array TypeId} {cT:T} {ts as fi ca:List T} {f:FuncId} {ρ:List Nat} {rs:List Rw} {R:SE→List (Option Rw)→Prop}
  (hop:o.op = .call { callee := .value x,args:=xs,argTypes:=tys }) (hent:Ent P f) (hcal:B6r cT f fi ca) (hl:xs.toList.length=ts.length) (hsc:SC P f as (rs.map some) R)
  (hargs:fi++ts++ca=A5n (kap ρ) as) (has:scL ρ.length as=true) (hnd:ρ.Nodup) (hrs:ρ.length=rs.length) (hrsc:∀ q∈rs,q.sc ρ.length=true) (hfr:∀ n∈ρ,n<fresh)
  {F:Fence} {nn:Nat} (hF:Wd F) {g:G} {a:Act} (hg:P6 g) (hi:∀ p∈(x,cT)::xs.toList.zip ts,VT g p.2 (a.eval p.1)) (hr:∀ p∈A5T ρ (rs.map (Rw.ren (kap ρ))),g.M p.1=some (some p.2)) {next:Act→World→Prop} {Q:Exit→Act→World→Prop}
  (k:(∀ k,k<ρ.length→ρ.getD k 0<fresh)→(∀ (k:Nat) (o:Option Rw),(rs.map some)[k]?=some o→g.M (ρ.getD k 0)=some (o.map (Rw.ren (ext ρ fresh)))) →
   ∀ gc' se L' e,P6 gc'→Le ⟨ofL (rs.map some),fun n=>g.β (ext ρ fresh n),g.K,g.w⟩ gc'→gc'.M=ofL L'→SER gc' se e→R se L'→(∀ v,e = .returned v→next (a.put o.dst v) gc'.w)∧∀ ch,e = .panicked ch→Q (.panic ch) a gc'.w):o.wpIn F nn P a g.w next Q:=by
 obtain⟨cs,ds,hc,hfi,hca⟩:=A8P (hi (x,cT) (by simp)) hcal
 dsimp only at hc
 have hvt:=VTs.of_ins (g:=g) (a:=a) (xs:=xs.toList) (ts:=ts) hl (fun p hp=>hi p (by simp[hp]))
 have hall:VTs g (fi++ts++ca) (cs.toList++xs.toList.map a.eval++ds.toList):=(hfi.append hvt).append hca
 have hkl:∀ n,n<ρ.length→ext ρ fresh n=kap ρ n:=fun n h=>B8C h
 have hfr':∀ k,k<ρ.length→ρ.getD k 0<fresh:=fun k hk=>by
  rw[List.getD_eq_getElem?_getD,List.getElem?_eq_getElem hk,Option.getD_some];exact hfr _ (List.getElem_mem hk)
 have hrows:∀ (k:Nat) (o:Option Rw),(rs.map some)[k]?=some o→g.M (ρ.getD k 0)=some (o.map (Rw.ren (ext ρ fresh))):=fun k o ho=>by
  rw[List.getElem?_map,Option.map_eq_some_iff]at ho
  obtain⟨q,hq,rfl⟩:=ho
  have:=hr _ (B4s (ρ:=ρ) (rs:=rs.map (Rw.ren (kap ρ))) (k:=k) (r:=q.ren (kap ρ)) (by simpa using hrs) (by simp[hq]))
  dsimp only at this
  rw[this,Option.map_some,Rw.ren_congr hkl (hrsc q (List.mem_of_getElem? hq))]
 obtain⟨gc,hgc⟩:∃ gc:G,gc=⟨ofL (rs.map some),fun n=>g.β (ext ρ fresh n),g.K,g.w⟩:=⟨_,rfl⟩
 -- the callee's picture
 have hE:∀ n,n<ρ.length→gc.M n≠none∧g.β (ext ρ fresh n)=gc.β n:=fun n hn=>⟨by rw[hgc];simp[ofL];omega,by rw[hgc]⟩
 have hgood:P6 gc:=by
  have live:∀ k q,gc.M k=some (some q)→k<ρ.length∧g.M (ρ.getD k 0)=some (some (q.ren (ext ρ fresh)))∧q.sc ρ.length=true∧gc.β k=g.β (ρ.getD k 0):=fun k q h=>by
   rw[hgc]at h
   dsimp only[ofL]at h
   have hk:k<ρ.length:=by have:=(List.getElem?_eq_some_iff.1 h).1;simp at this;omega
   refine⟨hk,hrows k _ h,?_,?_⟩
   ·rw[List.getElem?_map,Option.map_eq_some_iff]at h
    obtain⟨q',hq',e⟩:=h
    injection e with e
    subst e
    exact hrsc q' (List.mem_of_getElem? hq')
   ·rw[hgc];dsimp only[ext];rw[if_pos hk]
  have hw:gc.w=g.w:=by rw[hgc]
  have hK:gc.K=g.K:=by rw[hgc]
  refine⟨fun n q h=>?_,fun n m q q' h1 h2 hn0 hm0 he=>?_,fun b hb=>by rw[hw];rw[hK]at hb;exact hg.kd b hb,fun b hb n q h h0=>?_⟩
  ·obtain⟨h1,h2,h3,h4⟩:=live n q h
   exact(hg.rows _ _ h2).unren h4 (fun _=>by rw[hw]) h3 (VT.unren (g:=gc) (g':=g) (k:=ρ.length) hw (fun b hb=>by rw[hK];exact hb) hE)
  ·obtain⟨h3,h4,_,h5⟩:=live n q h1
   obtain⟨h6,h7,_,h8⟩:=live m q' h2
   rw[h5]at he hn0
   rw[h8]at he hm0
   have:=hg.inj _ _ _ _ h4 h7 hn0 hm0 he
   rw[List.getD_eq_getElem?_getD,List.getD_eq_getElem?_getD,List.getElem?_eq_getElem h3,List.getElem?_eq_getElem h6,Option.getD_some,Option.getD_some]at this
   rcases Nat.lt_trichotomy n m with h | h | h
   ·exact absurd this ((List.pairwise_iff_getElem.1 hnd) n m h3 h6 h)
   ·exact h
   ·exact absurd this.symm ((List.pairwise_iff_getElem.1 hnd) m n h6 h3 h)
  ·obtain⟨_,h2,_,h4⟩:=live n q h
   rw[h4]at h0 ⊢
   rw[hK]at hb
   exact hg.kl b hb _ _ h2 h0
 have hvs:VTs gc as (cs.toList++xs.toList.map a.eval++ds.toList):=by
  rw[hargs]at hall
  refine⟨by rw[← hall.1];simp[A1Z],fun i d c hd hc=>?_⟩
  have hd':(A5n (kap ρ) as)[i]?=some (d.ren (kap ρ)):=by rw[A1Z];simp[hd]
  have hsc':d.sc ρ.length=true:=by
   rw[A3m,List.all_eq_true]at has
   exact has d (List.mem_of_getElem? hd)
  refine VT.unren (g:=gc) (g':=g) (k:=ρ.length) (by rw[hgc]) (fun b hb=>by rw[hgc];exact hb) hE d c hsc' ?_
  rw[Sh.ren_congr hkl d hsc']
  exact hall.2 i _ c hd' hc
 have hcall:=hsc gc _ hgood (by rw[hgc]) hvs
 have hw:gc.w=g.w:=by rw[hgc]
 rw[hw]at hcall
 refine⟨fun f _=>hF.fn f,?_⟩
 rw[Oper.semAt_eq _ _ _ (fun c h=>by rw[hop]at h;cases h)]
 have hrun:(execOp a.eval o).run P g.w = .ok (.enter f (cs.toList++xs.toList.map a.eval++ds.toList).toArray) g.w:=by
  simp[execOp,hop,resolve,hc,Deferred.ofValue,invoke,hent _ _]
 rw[hrun]
 refine⟨fun h=>(by rw[hF.dep]at h;cases h),hF.calls (hcall.mono ?_)⟩
 rintro e w' ⟨gc',se,L',rfl,h1,h2,h3,h4,h5⟩
 obtain⟨q1,q2⟩:=k hfr' hrows gc' se L' e h1 (hgc▸h2) h3 h4 h5
 cases e with
 | returned v=>exact q1 v rfl
 | panicked ch=>exact q2 ch rfl
 | outgrown=>cases se<;>exact h4.elim
theorem B2O {P:Program} {o:Oper} {fresh:Nat} {x:Operand} {xs:Array Operand} {tys:Array TypeId} {cT:T} {ts as fi ca:List T} {f:FuncId} {ρ:List Nat} {rs:List Rw} {ls:List (Option Rw)} {news:List Rw} {r:T}
  (hop:o.op = .call { callee := .value x,args:=xs,argTypes:=tys }) (hent:Ent P f) (hcal:B6r cT f fi ca) (hl:xs.toList.length=ts.length)
  (hsc:SC P f as (rs.map some) fun se L'=>se = .ret r∧L'=ls++news.map some)
  (hargs:fi++ts++ca=A5n (kap ρ) as) (has:scL ρ.length as=true) (hnd:ρ.Nodup) (hrs:ρ.length=rs.length) (hls:ls.length=ρ.length) (hrsc:∀ q∈rs,q.sc ρ.length=true) (hfr:∀ n∈ρ,n<fresh) :
  OpS P o ((x,cT)::xs.toList.zip ts) (A5T ρ (rs.map (Rw.ren (kap ρ)))) (A9x (ext ρ fresh) ρ ls) fresh (news.map (Rw.ren (ext ρ fresh))) (r.ren (ext ρ fresh)):=by
 intro F nn hF g a hg hi hr hn next Q k
 refine B5A hop hent hcal hl hsc hargs has hnd hrs hrsc hfr hF hg hi hr fun hfr' hrows gc' se L' e h1 h2 h3 h4 h5=>?_
 obtain⟨rfl,rfl⟩:=h5
 obtain⟨v,rfl,hv⟩:∃ v,e = .returned v∧VT gc' r v:=by cases e<;>first | exact h4.elim | exact⟨_,rfl,h4⟩
 refine⟨fun v' e=>?_,fun ch e=>by cases e⟩
 injection e with e
 subst e
 obtain⟨k1,k2,k3⟩:=A7U (fresh:=fresh) (cnt:=news.length) (Lf:=rs.map some) (Lf':=ls++news.map some) hnd hg (by simpa using hrs.symm) (by simp[hls]) hfr' rfl hrows (by simpa using hn) h1 h2 h3
 refine k (g.back gc' ρ fresh news.length) v k1 k2 ?_ (k3 _ _ hv)
 funext n
 simp only[G.back,upd]
 rw[B2y _ ρ ls n hls.symm]
 cases hi':ρ.idxOf? n with
 | some k =>
  obtain⟨hk1,_⟩:=A64 hi'
  have hlk:ls[k]?=some (ls[k]'(by omega)):=List.getElem?_eq_getElem _
  simp only[Option.bind_some,hlk,Option.map_some]
  rw[h3]
  unfold ofL
  rw[List.getElem?_append_left (by omega),hlk,Option.map_some]
 | none =>
  simp only[Option.bind_none,List.length_map]
  by_cases hf:fresh≤n∧n<fresh+news.length
  ·rw[if_pos hf,if_pos hf,h3]
   unfold ofL
   rw[List.getElem?_append_right (by omega),hls,show ρ.length+(n-fresh)-ρ.length=n-fresh by omega]
   simp only[List.getElem?_map,Option.map_map]
   rfl
  ·rw[if_neg hf,if_neg hf]
end Go.Proofs.YtlaogbbcipebgaaGreat.Sh
