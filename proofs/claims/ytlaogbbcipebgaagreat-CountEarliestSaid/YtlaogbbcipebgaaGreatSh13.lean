/- Rules of the walks. -/
import Derived.Test.YtlaogbbcipebgaaGreatSh1
import Derived.Laws.IdiomStrings
import Derived.MapKept
import Derived.LoopNIn
set_option linter.unusedVariables false
set_option linter.unusedSimpArgs false
open Array renaming getElem?_append_left→dN,mem_append→bK,ext'→cS,getElem?_eq_getElem→aE,getElem?_toList→bC,getElem?_push→bS,getElem?_modify→ec
open Bool renaming and_eq_true→aF,false_eq_true→bR,and_true→eR
open Go renaming Program→ah,TypeId→ab,Value→al,Deferred→bp,FuncId→bm,wpIn_mono→aW,Operand→aa,World→aO,execOp→aT,Op.operands→ag,IntKind→aU,Call.operands→aM,MapEntry→dR,run_underlying→aV,typeInfo→bT
open List renaming mapM_cons→eL,getElem?_take→bo,getElem?_drop→bF,getD_eq_getElem?_getD→am,getElem?_eq_none→aD,getElem?_eq_none_iff→aQ,all_eq_true→ax,find?_cons→cc,getElem_mem→aj,pairwise_iff_getElem→cn,getElem?_append_left→aC,length_map→aS,getElem?_append_right→aG,map_cons→bw,cons.injEq→de,range→dh,map→ao,mem_cons→ap,foldlM→fg,not_mem_nil→ay,length_pos_iff→cp,mem_range→cQ,getElem?_set_ne→dp,map_map→ck,all_map→dC,length_eq_zero_iff→bV,mem_singleton→bD,idxOf?_nil→eE,find?_nil→dn,length_nil→ct,range'→az,length_append→bz,map_append→eG,ext_getElem?→dH,getElem?_cons_zero→cq
open Nat renaming beq→aJ,eq_of_beq_eq_true→aA,ble→bL,le_of_ble_eq_true→bg,sub_zero→aP,le_refl→aw,not_le→cD,zero_add→aZ,blt_eq→bG,lt_or_ge→bX,blt→aq,le_trans→bN,mul_le_mul→eg,zero_mul→da,add_mul→bv,add_zero→bj,ne_of_beq_eq_false→ba,not_lt→dl
open Option renaming getD_some→aR,map_eq_some_iff→an,map_some→bh,map_map→dK,some.injEq→aK
open Or renaming inl→fp
open Prod renaming fst→be
namespace Go.Proofs.YtlaogbbcipebgaaGreat.Sh
open Go
def L8:Nat→List T→LT
 | _,[]=>[]
 | k,t::l=>(k,t)::L8 (k+1) l
theorem B0E:∀ (l:List T) (k i:Nat),W8 (L8 k l) i=if k≤i then l.getD (i-k) .bot else .bot
 | [],k,i=>by simp[L8,W8]
 | t::l,k,i=>by
  simp only[L8,W8];by_cases hik:i=k
  ·subst hik;simp
  ·have hb:aJ i k=false:=by
    cases h:aJ i k with
    | false=>rfl
    | true=>exact absurd (aA h) hik
   rw[hb,cond_false,B0E l (k+1) i];by_cases h:k≤i
   ·rw[if_pos oM,if_pos h,show i-k=(i-(k+1))+1 by omega];rfl
   ·rw[if_neg oM,if_neg h]
inductive B7g (P:ah) (st:St):ResultVar→T→Prop where
 | tmp (i:Nat):B7g P st (.tmp i) (W8 st.ts i)
 | cell {a:Nat} {t:ab} {i:TI} {n s k c:Nat} {r:Rw} {e:T} (ht:TOk P t i) (h:W8 st.ts a = .ref n s k c) (hr:st.L[n]?=some (some r)) (hs:r.s=s) (he:r.els[k]?=some e) (hp:A2S i e.cells.length c=true) :
   B7g P st (.cell a t) (A29 i e.cells c)
inductive A8t (P:ah) (st:St):List ResultVar→List T→Prop where
 | nil:A8t P st [] []
 | cons {x:ResultVar} {t:T} {xs:List ResultVar} {ts:List T} (h:B7g P st x t) (k:A8t P st xs ts):A8t P st (x::xs) (t::ts)
def B51:List T→T
 | [t]=>t
 | l=>mkTup l
def B4q (tmps:Array al):ResultVar→Sem al
 | .tmp t=>pure (tmps.getD t undef)
 | .cell b t=>do loadVar t (← asAddr (tmps.getD b undef))
theorem B3h {P:ah} {N:Nat} {st:St} {g:G} {a:Act} {df:List bp} (hR:StR g N st a df) {rs:List ResultVar} {ts:List T} (h:A8t P st rs ts) :
  ∃ cs,(rs.mapM (B4q a.tmps)).run P g.w = .ok cs g.w∧VTs g ts cs:=by
 induction h with
 | nil=>exact⟨[],rfl,.nil g⟩
 | cons h _ ih =>
  obtain⟨cs,h1,h2⟩:=ih;cases h with
  | tmp i =>
   refine⟨a.tmps.getD i undef::cs,?_,.cons (hR.ts i) h2⟩;have h3:(B4q a.tmps (.tmp i)).run P g.w = .ok (a.tmps.getD i undef) g.w:=rfl;rw[eL,Sem.run_bind,h3,Result.andThen_ok,Sem.run_bind,h1];rfl
  | cell ht h hr hs he hp =>
   rename_i b t i n s k c r e;subst hs;have hx:=hR.ts b;rw[h]at hx;generalize hv:a.tmps.getD b undef=v at hx;cases hx with | ref _ _ _ _ _ hs0 =>
   obtain⟨p1,p2⟩:=A8f hp;have hM:g.M n=some (some r):=by rw[hR.M];exact hr
   obtain⟨cv,h3,h4⟩:=B2L (g:=g) (b:=(g.β n).1) (off:=k*r.s+c) ht p1 (fun j y hy=>by
    rw[bo]at hy;split at hy
    ·rw[bF]at hy;obtain⟨c',hc',hv'⟩:=(hR.good.rows n r hM).get hs0 he hy;exact⟨c',by rw[Nat.add_assoc];exact hc',hv'⟩
    ·cases hy) p2
   refine⟨cv::cs,?_,.cons h4 h2⟩;have h3':(loadVar t ⟨(g.β n).1,k*r.s+c,none⟩).run P g.w = .ok cv g.w:=by simpa[Instr.loadAt,Instr.sureAddr]using h3
   have h5:(B4q a.tmps (.cell b t)).run P g.w = .ok cv g.w:=by simp[B4q,hv,asAddr,h3']
   rw[eL,Sem.run_bind,h5,Result.andThen_ok,Sem.run_bind,h1];rfl
def Fin (P:ah) (fn:Func) (n0:Nat) (R:SE→LR→Prop):SX→St→Prop
 | .ret,st | .norm,st=>∃ ts κ t L,A8t P st fn.results.toList ts∧Vw n0 ⟨[(0,B51 ts)],st.L⟩ ⟨[(0,t)],L⟩ κ∧R (.ret t) L
 | .pan t,st=>∃ κ st',Vw n0 st st' κ∧t.sc κ.length=true∧(∃ t',t=t'.ren (kap κ)∧t'.sc κ.length=true∧R (.pan t') st'.L)
 | _,_=>False
theorem B17 {g:G} {ts:List T} {cs:List al} (h:VTs g ts cs):VT g (B51 ts) (if h:cs.toArray.size=1 then cs.toArray[0]else .tuple cs.toArray):=by
 cases ts with
 | nil =>
  have:cs=[]:=List.eq_nil_of_length_eq_zero h.1.symm;subst this;exact VT.mkTup h
 | cons t l =>
  cases l with
  | nil =>
   obtain⟨c,rfl⟩:∃ c,cs=[c]:=List.length_eq_one_iff.1 h.1.symm;exact h.2 0 t c rfl rfl
  | cons u l =>
   have:¬ cs.toArray.size=1:=by have:=h.1;simp at this ⊢;omega
   rw[dif_neg this];exact VT.mkTup h
theorem B5z {g:G} (hg:P6 g) {L:LR} (hM:g.M=ofL L) {t:T} {v:al} (h:VT g t v):StR g 1 ⟨[(0,t)],L⟩ { tmps:=#[v],defers:=[] } [] :=
 ⟨hg,hM,rfl,fun i=>by
  cases i with
  | zero=>exact h
  | succ i=>exact .bot _,rfl⟩
theorem SC.of_sw {P:ah} {f:bm} {fn:Func} {c:Code} {N:Nat} {args:List T} {L:LR} {R:SE→LR→Prop} (hf:P.funcs[f]?=some fn) (hb:fn.body=some c) (hN:fn.ntmps=N) (hl:bL args.length N=true)
  (h:SW P L.length N [] c (Fin P fn L.length R) ⟨L8 0 args,L⟩):SC P f args L R:=fun g vs hg hM hv=>by
 refine callsIn_wide.1 (callsIn_of_wp (n:=0) hf hb trivial ?_ rfl);have hle:=bg hl;have hlen:=hv.1;have hR:StR g N ⟨L8 0 args,L⟩ { tmps:=vs.toArray++Array.replicate (fn.ntmps-vs.toArray.size) undef,defers:=[] } []:=by
  refine⟨hg,hM,by simp[hN];omega,fun i=>?_,rfl⟩;dsimp only;rw[B0E,if_pos (Nat.zero_le i),aP];by_cases hi:i<args.length
  ·have h1:args[i]?=some args[i]:=gE hi;have h2:vs[i]?=some (vs[i]'oM):=gE _;rw[am,h1,aR,Array.getD_eq_getD_getElem?,dN (by simp;omega),List.getElem?_toArray,h2,aR];exact hv.2 i _ _ h1 h2
  ·rw[am,aD oM];exact .bot _
 refine aW (h Fence.wide 0 Wd.wide g _ hR) ?_;rintro ex a' w' ⟨g',sx,st',rfl,h2,h3,h4,h5⟩;have done:(sx = .ret∨sx = .norm)→∃ g'' t L',g''.w=g'.w∧a'.defers=[]∧P6 g''∧Le g g''∧g''.M=ofL L'∧R (.ret t) L'∧∃ v,(results fn a'.tmps).run P g'.w = .ok v g'.w∧VT g'' t v:=fun hs=>by
  have h6:∃ ts κ t L',A8t P st' fn.results.toList ts∧Vw L.length ⟨[(0,B51 ts)],st'.L⟩ ⟨[(0,t)],L'⟩ κ∧R (.ret t) L':=by rcases hs with rfl | rfl<;>exact h5
  obtain⟨ts,κ,t,L',k1,k2,k4⟩:=h6;obtain⟨cs,e4,e5⟩:=B3h h3 k1;obtain⟨g'',e1,e2,e3⟩:=k2.see (B5z h3.good h3.M (B17 e5));refine⟨g'',_,L',e1,h3.df,e3.good,(h2.trans e2).toLe hM (aw _),e3.M,k4,_,?_,e3.ts 0⟩;have e6:results fn a'.tmps=(do let vs ← fn.results.mapM (B4q a'.tmps);pure (if h:vs.size=1 then vs[0]else .tuple vs)):=rfl;rw[e6,Array.mapM_eq_mapM_toList,Sem.run_bind,Sem.run_map,e4];rfl
 cases sx with
 | norm =>
  cases ex<;>first | exact h4.elim | skip
  obtain⟨g'',t,L',e1,e2,e3,e4,e5,e6,v,e7,e8⟩:=done (.inr rfl);exact⟨e2,v,e7,g'',.ret t,L',e1,e3,e4,e5,e8,e6⟩
 | ret =>
  cases ex<;>first | exact h4.elim | skip
  obtain⟨g'',t,L',e1,e2,e3,e4,e5,e6,v,e7,e8⟩:=done (.inl rfl);exact⟨e2,v,e7,g'',.ret t,L',e1,e3,e4,e5,e8,e6⟩
 | exit i=>exact h5.elim
 | pan t =>
  cases ex<;>first | exact h4.elim | skip
  obtain⟨v,rfl,hv'⟩:=h4;obtain⟨κ,st'',k1,k2,t',rfl,k3,k4⟩:=h5;obtain⟨v1,v2⟩:=A9T h3.good h3.M k1.nd k1.len k1.rows;refine⟨h3.df,⟨ofL st''.L,fun n=>g'.β (kap κ n),g'.K,g'.w⟩,.pan t',st''.L,rfl,v1,?_,rfl,⟨v,rfl,v2 _ _ k3 hv'⟩,k4⟩;refine LeN.toLe (n0:=L.length) (h2.trans ⟨fun n hn hne=>?_,aw _,rfl,rfl,rfl,fun _ _ _=>rfl,fun _ h=>h,fun _ _ h => .inl h,fun n r hn h0 _ hnl=>?_⟩) hM (aw _)
  ·rw[h3.M]at hne;simp only[ofL,ne_eq,aQ,cD]at hne;obtain⟨e1,e2⟩:=k1.base n hn hne;exact⟨by simp only[ofL,ne_eq,aQ,k1.len];omega,by show g'.β (kap κ n)=_;rw[e2]⟩
  ·obtain⟨o',e1,e2⟩:=A6G k1.rows n (some r) hn;rw[aZ]at e1;refine hnl (kap κ n) (r.ren (kap κ)) ?_ h0 rfl;rw[h3.M];unfold ofL;rw[e1,(e2 r rfl).1]
def B6r (t:T) (f:bm) (fi ca:List T):Prop:=(t = .d (.v (.func (.func f) #[] #[]))∧fi=[]∧ca=[])∨t = .fn (.func f) fi ca
theorem A8P {g:G} {t:T} {c:al} {f:bm} {fi ca:List T} (h:VT g t c) (ht:B6r t f fi ca):∃ cs ds,c = .func (.func f) cs ds∧VTs g fi cs.toList∧VTs g ca ds.toList:=by
 rcases ht with⟨rfl,rfl,rfl⟩ | rfl
 ·exact⟨#[],#[],h.v_eq,.nil g,.nil g⟩
 ·cases h with | fn _ _ _ cs ds h1 h2 h3 h4 =>
  exact⟨cs,ds,rfl,⟨by simpa using h1,fun i d c hd hc=>h2 i d c hd (by simpa using hc)⟩,⟨by simpa using h3,fun i d c hd hc=>h4 i d c hd (by simpa using hc)⟩⟩
theorem B8C {ρ:List Nat} {fresh n:Nat} (h:n<ρ.length):ext ρ fresh n=kap ρ n:=by unfold ext kap;rw[if_pos h]
mutual
theorem ren_congr {σ τ:Nat→Nat} {k:Nat} (h:∀ n,n<k→σ n=τ n):∀ t:T,t.sc k=true→t.ren σ=t.ren τ
 | .d x,_=>rfl
 | .bot,_=>rfl
 | .ref n s i o,hs=>by simp only[T.ren];rw[h n (by simpa[T.sc,bG]using hs)]
 | .row n s lo len,hs=>by simp only[T.ren];rw[h n (by simpa[T.sc,bG]using hs)]
 | .mp n,hs=>by simp only[T.ren];rw[h n (by simpa[T.sc,bG]using hs)]
 | .agg l,hs=>by simp only[T.ren];rw[A5S h l (by simpa[T.sc]using hs)]
 | .tup l,hs=>by simp only[T.ren];rw[A5S h l (by simpa[T.sc]using hs)]
 | .fn f a b,hs=>by
  simp only[T.sc,aF]at hs;simp only[T.ren];rw[A5S h a hs.1,A5S h b hs.2]
 | .iface t x,hs=>by simp only[T.ren];rw[ren_congr h x (by simpa[T.sc]using hs)]
theorem A5S {σ τ:Nat→Nat} {k:Nat} (h:∀ n,n<k→σ n=τ n):∀ l:List T,scL k l=true→A5n σ l=A5n τ l
 | [],_=>rfl
 | x::l,hs=>by
  simp only[scL,aF]at hs;simp only[A5n];rw[ren_congr h x hs.1,A5S h l hs.2]
end
theorem Rw.ren_congr {σ τ:Nat→Nat} {k:Nat} (h:∀ n,n<k→σ n=τ n) {r:Rw} (hs:r.sc k=true):r.ren σ=r.ren τ:=by
 unfold Rw.ren;unfold Rw.sc at hs;rw[ax]at hs;congr 1;exact List.map_congr_left fun x hx=>Sh.ren_congr h x (hs x hx)
def A5T:List Nat→List Rw→List (Nat × Rw)
 | n::ρ,r::rs=>(n,r)::A5T ρ rs
 | _,_=>[]
def A9x (σ:Nat→Nat):List Nat→LR→List (Nat × Option Rw)
 | n::ρ,o::os=>(n,o.map (Rw.ren σ))::A9x σ ρ os
 | _,_=>[]
theorem B4s:∀ {ρ:List Nat} {rs:List Rw} {k:Nat} {r:Rw},ρ.length=rs.length→rs[k]?=some r→(ρ.getD k 0,r)∈A5T ρ rs
 | [],[],k,r,_,h=>by simp at h
 | n::ρ,q::rs,0,r,_,h=>by simp at h;subst h;simp[A5T]
 | n::ρ,q::rs,k+1,r,hl,h=>by
  have:=B4s (ρ:=ρ) (rs:=rs) (k:=k) (r:=r) (by simpa using hl) (by simpa using h);simpa[A5T]using .inr this
theorem B2y (σ:Nat→Nat):∀ (ρ:List Nat) (os:LR) (n:Nat),ρ.length=os.length→(A9x σ ρ os).find? (fun p=>p.1==n)=(ρ.idxOf? n).bind fun k=>(os[k]?).map fun o=>(n,o.map (Rw.ren σ))
 | [],[],n,_=>rfl
 | m::ρ,o::os,n,hl=>by
  simp only[A9x,cc];rw[List.idxOf?_cons];by_cases h:m=n
  ·subst h;simp
  ·have hb:(m==n)=false:=by simpa using h
   rw[hb];simp only[bR,if_false];rw[B2y σ ρ os n (by simpa using hl)];cases ρ.idxOf? n<;>simp
theorem B5A {P:ah} {o:Oper} {fresh:Nat} {x:aa} {xs:Array aa} {tys:Array ab} {cT:T} {ts as fi ca:List T} {f:bm} {ρ:List Nat} {rs:List Rw} {R:SE→LR→Prop}
  (hop:o.op = .call { callee := .value x,args:=xs,argTypes:=tys }) (hent:Ent P f) (hcal:B6r cT f fi ca) (hl:xs.toList.length=ts.length) (hsc:SC P f as (rs.map some) R)
  (hargs:fi++ts++ca=A5n (kap ρ) as) (has:scL ρ.length as=true) (hnd:ρ.Nodup) (hrs:ρ.length=rs.length) (hrsc:∀ q∈rs,q.sc ρ.length=true) (hfr:∀ n∈ρ,n<fresh)
  {F:Fence} {nn:Nat} (hF:Wd F) {g:G} {a:Act} (hg:P6 g) (hi:∀ p∈(x,cT)::xs.toList.zip ts,VT g p.2 (a.eval p.1)) (hr:∀ p∈A5T ρ (rs.map (Rw.ren (kap ρ))),g.M p.1=some (some p.2)) {next:Act→aO→Prop} {Q:Exit→Act→aO→Prop}
  (k:(∀ k,k<ρ.length→ρ.getD k 0<fresh)→(∀ (k:Nat) (o:Option Rw),(rs.map some)[k]?=some o→g.M (ρ.getD k 0)=some (o.map (Rw.ren (ext ρ fresh)))) →
   ∀ gc' se L' e,P6 gc'→Le ⟨ofL (rs.map some),fun n=>g.β (ext ρ fresh n),g.K,g.w⟩ gc'→gc'.M=ofL L'→SER gc' se e→R se L'→(∀ v,e = .returned v→next (a.put o.dst v) gc'.w)∧∀ ch,e = .panicked ch→Q (.panic ch) a gc'.w):o.wpIn F nn P a g.w next Q:=by
 obtain⟨cs,ds,hc,hfi,hca⟩:=A8P (hi (x,cT) sM) hcal;dsimp only at hc;have hvt:=VTs.of_ins (g:=g) (a:=a) (xs:=xs.toList) (ts:=ts) hl (fun p hp=>hi p (by simp[hp]));have hall:VTs g (fi++ts++ca) (cs.toList++xs.toList.map a.eval++ds.toList):=(hfi.append hvt).append hca;have hkl:∀ n,n<ρ.length→ext ρ fresh n=kap ρ n:=fun n h=>B8C h;have hfr':∀ k,k<ρ.length→ρ.getD k 0<fresh:=fun k hk=>by
  rw[am,gE hk,aR];exact hfr _ (aj hk)
 have hrows:∀ (k:Nat) (o:Option Rw),(rs.map some)[k]?=some o→g.M (ρ.getD k 0)=some (o.map (Rw.ren (ext ρ fresh))):=fun k o ho=>by
  rw[gM,an]at ho;obtain⟨q,hq,rfl⟩:=ho;have:=hr _ (B4s (ρ:=ρ) (rs:=rs.map (Rw.ren (kap ρ))) (k:=k) (r:=q.ren (kap ρ)) (by simpa using hrs) (by simp[hq]));dsimp only at this;rw[this,bh,Rw.ren_congr hkl (hrsc q (iM hq))]
 obtain⟨gc,hgc⟩:∃ gc:G,gc=⟨ofL (rs.map some),fun n=>g.β (ext ρ fresh n),g.K,g.w⟩:=⟨_,rfl⟩
 -- the callee's picture
 have hE:∀ n,n<ρ.length→gc.M n≠none∧g.β (ext ρ fresh n)=gc.β n:=fun n hn=>⟨by rw[hgc];simp[ofL];omega,by rw[hgc]⟩;have hgood:P6 gc:=by
  have live:∀ k q,gc.M k=some (some q)→k<ρ.length∧g.M (ρ.getD k 0)=some (some (q.ren (ext ρ fresh)))∧q.sc ρ.length=true∧gc.β k=g.β (ρ.getD k 0):=fun k q h=>by
   rw[hgc]at h;dsimp only[ofL]at h;have hk:k<ρ.length:=by have:=(gS h).1;simp at this;omega
   refine⟨hk,hrows k _ h,?_,?_⟩
   ·rw[gM,an]at h;obtain⟨q',hq',e⟩:=h;injection e with e
    subst e;exact hrsc q' (iM hq')
   ·rw[hgc];dsimp only[ext];rw[if_pos hk]
  have hw:gc.w=g.w:=by rw[hgc]
  have hK:gc.K=g.K:=by rw[hgc]
  refine⟨fun n q h=>?_,fun n m q q' h1 h2 hn0 hm0 he=>?_,fun b hb=>by rw[hw];rw[hK]at hb;exact hg.kd b hb,fun b hb n q h h0=>?_⟩
  ·obtain⟨h1,h2,h3,h4⟩:=live n q h;exact(hg.rows _ _ h2).unren h4 (fun _=>by rw[hw]) h3 (VT.unren (g:=gc) (g':=g) (k:=ρ.length) hw (fun b hb=>by rw[hK];exact hb) hE)
  ·obtain⟨h3,h4,_,h5⟩:=live n q h1;obtain⟨h6,h7,_,h8⟩:=live m q' h2;rw[h5]at he hn0;rw[h8]at he hm0;have:=hg.inj _ _ _ _ h4 h7 hn0 hm0 he;rw[am,am,gE h3,gE h6,aR,aR]at this;rcases Nat.lt_trichotomy n m with h | h | h
   ·exact absurd this ((cn.1 hnd) n m h3 h6 h)
   ·exact h
   ·exact absurd this.symm ((cn.1 hnd) m n h6 h3 h)
  ·obtain⟨_,h2,_,h4⟩:=live n q h;rw[h4]at h0 ⊢;rw[hK]at hb;exact hg.kl b hb _ _ h2 h0
 have hvs:VTs gc as (cs.toList++xs.toList.map a.eval++ds.toList):=by
  rw[hargs]at hall;refine⟨by rw[← hall.1];simp[A1Z],fun i d c hd hc=>?_⟩;have hd':(A5n (kap ρ) as)[i]?=some (d.ren (kap ρ)):=by rw[A1Z];simp[hd]
  have hsc':d.sc ρ.length=true:=by
   rw[A3m,ax]at has;exact has d (iM hd)
  refine VT.unren (g:=gc) (g':=g) (k:=ρ.length) (by rw[hgc]) (fun b hb=>by rw[hgc];exact hb) hE d c hsc' ?_;rw[Sh.ren_congr hkl d hsc'];exact hall.2 i _ c hd' hc
 have hcall:=hsc gc _ hgood (by rw[hgc]) hvs;have hw:gc.w=g.w:=by rw[hgc]
 rw[hw]at hcall;refine⟨fun f _=>hF.fn f,?_⟩;rw[Oper.semAt_eq _ _ _ (fun c h=>by rw[hop]at h;cases h)];have hrun:(aT a.eval o).run P g.w = .ok (.enter f (cs.toList++xs.toList.map a.eval++ds.toList).toArray) g.w:=by
  simp[aT,hop,resolve,hc,Deferred.ofValue,invoke,hent _ _]
 rw[hrun];refine⟨fun h=>(by rw[hF.dep]at h;cases h),hF.calls (hcall.mono ?_)⟩;rintro e w' ⟨gc',se,L',rfl,h1,h2,h3,h4,h5⟩;obtain⟨q1,q2⟩:=k hfr' hrows gc' se L' e h1 (hgc▸h2) h3 h4 h5;cases e with
 | returned v=>exact q1 v rfl
 | panicked ch=>exact q2 ch rfl
 | outgrown=>cases se<;>exact h4.elim
theorem B2O {P:ah} {o:Oper} {fresh:Nat} {x:aa} {xs:Array aa} {tys:Array ab} {cT:T} {ts as fi ca:List T} {f:bm} {ρ:List Nat} {rs:List Rw} {ls:LR} {news:List Rw} {r:T}
  (hop:o.op = .call { callee := .value x,args:=xs,argTypes:=tys }) (hent:Ent P f) (hcal:B6r cT f fi ca) (hl:xs.toList.length=ts.length)
  (hsc:SC P f as (rs.map some) fun se L'=>se = .ret r∧L'=ls++news.map some)
  (hargs:fi++ts++ca=A5n (kap ρ) as) (has:scL ρ.length as=true) (hnd:ρ.Nodup) (hrs:ρ.length=rs.length) (hls:ls.length=ρ.length) (hrsc:∀ q∈rs,q.sc ρ.length=true) (hfr:∀ n∈ρ,n<fresh) :
  OpS P o ((x,cT)::xs.toList.zip ts) (A5T ρ (rs.map (Rw.ren (kap ρ)))) (A9x (ext ρ fresh) ρ ls) fresh (news.map (Rw.ren (ext ρ fresh))) (r.ren (ext ρ fresh)):=by
 intro F nn hF g a hg hi hr hn next Q k
 refine B5A hop hent hcal hl hsc hargs has hnd hrs hrsc hfr hF hg hi hr fun hfr' hrows gc' se L' e h1 h2 h3 h4 h5=>?_;obtain⟨rfl,rfl⟩:=h5;obtain⟨v,rfl,hv⟩:∃ v,e = .returned v∧VT gc' r v:=by cases e<;>first | exact h4.elim | exact⟨_,rfl,h4⟩
 refine⟨fun v' e=>?_,fun ch e=>by cases e⟩;injection e with e
 subst e;obtain⟨k1,k2,k3⟩:=A7U (fresh:=fresh) (cnt:=news.length) (Lf:=rs.map some) (Lf':=ls++news.map some) hnd hg (by simpa using hrs.symm) (by simp[hls]) hfr' rfl hrows (by simpa using hn) h1 h2 h3;refine k (g.back gc' ρ fresh news.length) v k1 k2 ?_ (k3 _ _ hv);funext n;simp only[G.back,upd];rw[B2y _ ρ ls n hls.symm];cases hi':ρ.idxOf? n with
 | some k =>
  obtain⟨hk1,_⟩:=A64 hi';have hlk:ls[k]?=some (ls[k]'oM):=gE _;simp only[Option.bind_some,hlk,bh];rw[h3];unfold ofL;rw[aC oM,hlk,bh]
 | none =>
  simp only[Option.bind_none,aS];by_cases hf:fresh≤n∧n<fresh+news.length
  ·rw[if_pos hf,if_pos hf,h3];unfold ofL;rw[aG oM,hls,show ρ.length+(n-fresh)-ρ.length=n-fresh by omega];simp only[gM,dK];rfl
  ·rw[if_neg hf,if_neg hf]
section
variable {P:ah} {N:Nat} {ops:Array Oper} {l:List Oper} {ts:LT} {L:LR} {tr:List Stp} {K:List Oper→List Stp→St→Prop} {d:Nat} {ty:ab} {pos:String} {af:Array Edge} {gd:Option (Nat × Bool)}
def B5F:List (Nat × TI)→Nat→Option TI
 | [],_=>none
 | (k,i)::r,t=>bif aJ k t then some i else B5F r t
theorem B3D {P:ah}:∀ (l:List (Nat × TI)),l.map (fun p=>B8q P p.1)=l.map (fun p=>some p.2)→∀ t i,B5F l t=some i→TOk P t i
 | [],_,t,i,h=>by cases h
 | (k,j)::r,hl,t,i,h=>by
  simp only[bw,de]at hl;simp only[B5F]at h;cases hb:aJ k t with
  | true =>
   rw[hb]at h;injection h with h
   subst h;rw[← aA hb];exact .of hl.1
  | false=>rw[hb]at h;exact B3D r hl.2 t i h
def Tab.mk' {P:ah} (l:List (Nat × TI)) (h:l.map (fun p=>B8q P p.1)=l.map (fun p=>some p.2)):Tab P:=⟨B5F l,B3D l h⟩
def A4f:List Nat:=[0,1,2,3,4,5,6,7,8,9,10,11,12,13,14,15,16,17,18,19,20,21,22,23,24,25,26,27,28,29,30,31,32,33,34,35,36,37,38,39,40,41,42,43,44,45,46,47,48,49,50,51,52,53,54,55,56,57,58,59,60,61,62,63]
theorem A21 {k n:Nat} {q:List Nat} (h:A4f.drop k=n::q):k=n:=by
 have h1:A4f=dh 64:=rfl;rw[h1]at h;have hk:k<64:=by
  rcases bX k 64 with h2 | h2
  ·exact h2
  ·rw[List.drop_eq_nil_of_le (by simpa using h2)]at h;cases h
 rw[List.drop_eq_getElem_cons (by simpa using hk)]at h;injection h with h
 simpa using h
theorem K0 {o:Oper} {ins:List (aa × T)} {rn:List (Nat × Rw)} {v:T} (ho:o.dst=some d) (h:OpS P o ins rn [] L.length [] v) (hw:I2 ops ts o=some true) (hi:∀ p∈ins,O9 ts p.1=p.2∧p.1∈o.op.operands)
  (hr:∀ p∈rn,L[p.1]?=some (some p.2)) (hd:aq d N=true) (k:L3 P N ops l ⟨(d,v)::ts,L⟩ (tr++[.run (rn.map (·.1)) []]) K):L3 P N ops (o::l) ⟨ts,L⟩ tr K:=by
 refine A2i (.run hw h hi hr sM (by rw[ho];exact hd)) ?_;simpa[St.eff,A5m,ho,A4m]using k
theorem B0N {o:Oper} {ins:List (aa × T)} {rn:List (Nat × Rw)} {r:Rw} {v:T} (ho:o.dst=some d) (h:OpS P o ins rn [] L.length [r] v) (hw:I2 ops ts o=some true) (hi:∀ p∈ins,O9 ts p.1=p.2∧p.1∈o.op.operands)
  (hr:∀ p∈rn,L[p.1]?=some (some p.2)) (hd:aq d N=true) (k:L3 P N ops l ⟨(d,v)::ts,L++[some r]⟩ (tr++[.run (rn.map (·.1)++[L.length]) [L.length]]) K):L3 P N ops (o::l) ⟨ts,L⟩ tr K:=by
 refine A2i (.run hw h hi hr sM (by rw[ho];exact hd)) ?_;simpa[St.eff,A5m,ho,A4m]using k
theorem A5G {o:Oper} {ins:List (aa × T)} {b:Bool} (ho:o.dst=some d) (h:OpS P o ins [] [] L.length [] (.d (.v (.bool b)))) (hw:I2 ops ts o=some true) (hi:∀ p∈ins,O9 ts p.1=p.2∧p.1∈o.op.operands)
  (hd:aq d N=true) (kt:b=true→L3 P N ops l ⟨(d,.d (.v (.bool true)))::ts,L⟩ (tr++[.run [] []]) K) (kf:b=false→L3 P N ops l ⟨(d,.d (.v (.bool false)))::ts,L⟩ (tr++[.run [] []]) K):L3 P N ops (o::l) ⟨ts,L⟩ tr K:=by
 cases b with
 | true=>exact K0 ho h hw hi sM hd (kt rfl)
 | false=>exact K0 ho h hw hi sM hd (kf rfl)
theorem B8d {o:Oper} (hw:I2 ops ts o=some false) (ho:o.dst=some d) (hd:aq d N=true) (k:L3 P N ops l ⟨(d,.d (.tup []))::ts,L⟩ (tr++[.skip]) K):L3 P N ops (o::l) ⟨ts,L⟩ tr K:=by
 refine A2i (.skip hw (by rw[ho];exact hd)) ?_;simpa[St.eff,A5m,ho,A4m]using k
theorem D38 {o:Oper} (hw:I2 ops ts o=some false) (ho:o.dst=none) (k:L3 P N ops l ⟨ts,L⟩ (tr++[.skip]) K):L3 P N ops (o::l) ⟨ts,L⟩ tr K:=by
 refine A2i (.skip hw (by rw[ho];rfl)) ?_;simpa[St.eff,A5m,ho,A4m]using k
theorem D3U {c x y:aa} {b:Bool} {t u:T} (hc:O9 ts c = .d (.v (.bool b))) (hx:O9 ts x=t) (hy:O9 ts y=u) (hw:I2 ops ts ⟨some d,.pick c x y,ty,pos,af,gd⟩=some true) (hd:aq d N=true) (kk:L3 P N ops l ⟨(d,(bif b then t else u))::ts,L⟩ (tr++[.run (ao be ([]:List (Nat × Rw))) []]) K):L3 P N ops (⟨some d,.pick c x y,ty,pos,af,gd⟩::l) ⟨ts,L⟩ tr K :=
 K0 (ins:=[(c,.d (.v (.bool b))),(x,t),(y,u)]) rfl (B7S rfl) hw (by simp[ag,hc,hx,hy]) sM hd kk
theorem C08 {t1 t2:ab} {x y:aa} {k:aU} {a b:Int} (hx:O9 ts x = .d (.v (.int k a))) (hy:O9 ts y = .d (.v (.int k b))) (hw:I2 ops ts ⟨some d,.binOp .add t1 x y t2,ty,pos,af,gd⟩=some true) (hd:aq d N=true) (kk:L3 P N ops l ⟨(d,.d (.v (.int k (k.wrap (a+b)))))::ts,L⟩ (tr++[.run (ao be ([]:List (Nat × Rw))) []]) K):L3 P N ops (⟨some d,.binOp .add t1 x y t2,ty,pos,af,gd⟩::l) ⟨ts,L⟩ tr K :=
 K0 (ins:=[(x,.d (.v (.int k a))),(y,.d (.v (.int k b)))]) rfl (A3z (p := .int k a) (q := .int k b) (z := .int k (k.wrap (a+b))) rfl rfl (fun w=>by simp[go_sem,Op.intArith])) hw (by simp[ag,hx,hy]) sM hd kk
theorem A1n {t1 t2:ab} {x y:aa} {k:aU} {a b:Int} (hx:O9 ts x = .d (.v (.int k a))) (hy:O9 ts y = .d (.v (.int k b))) (hw:I2 ops ts ⟨some d,.binOp .sub t1 x y t2,ty,pos,af,gd⟩=some true) (hd:aq d N=true) (kk:L3 P N ops l ⟨(d,.d (.v (.int k (k.wrap (a-b)))))::ts,L⟩ (tr++[.run (ao be ([]:List (Nat × Rw))) []]) K):L3 P N ops (⟨some d,.binOp .sub t1 x y t2,ty,pos,af,gd⟩::l) ⟨ts,L⟩ tr K :=
 K0 (ins:=[(x,.d (.v (.int k a))),(y,.d (.v (.int k b)))]) rfl (A3z (p := .int k a) (q := .int k b) (z := .int k (k.wrap (a-b))) rfl rfl (fun w=>by simp[go_sem,Op.intArith])) hw (by simp[ag,hx,hy]) sM hd kk
theorem A5Q {t1 t2:ab} {x y:aa} {k:aU} {a b:Int} (hx:O9 ts x = .d (.v (.int k a))) (hy:O9 ts y = .d (.v (.int k b))) (hw:I2 ops ts ⟨some d,.binOp .mul t1 x y t2,ty,pos,af,gd⟩=some true) (hd:aq d N=true) (kk:L3 P N ops l ⟨(d,.d (.v (.int k (k.wrap (a*b)))))::ts,L⟩ (tr++[.run (ao be ([]:List (Nat × Rw))) []]) K):L3 P N ops (⟨some d,.binOp .mul t1 x y t2,ty,pos,af,gd⟩::l) ⟨ts,L⟩ tr K :=
 K0 (ins:=[(x,.d (.v (.int k a))),(y,.d (.v (.int k b)))]) rfl (A3z (p := .int k a) (q := .int k b) (z := .int k (k.wrap (a*b))) rfl rfl (fun w=>by simp[go_sem,Op.intArith])) hw (by simp[ag,hx,hy]) sM hd kk
theorem Q4 {t1 t2:ab} {x y:aa} {k:aU} {a b:Int} (hx:O9 ts x = .d (.v (.int k a))) (hy:O9 ts y = .d (.v (.int k b))) (hw:I2 ops ts ⟨some d,.binOp .lss t1 x y t2,ty,pos,af,gd⟩=some true) (hd:aq d N=true) (kt:a<b→L3 P N ops l ⟨(d,.d (.v (.bool true)))::ts,L⟩ (tr++[.run [] []]) K) (kf:b≤a→L3 P N ops l ⟨(d,.d (.v (.bool false)))::ts,L⟩ (tr++[.run [] []]) K):L3 P N ops (⟨some d,.binOp .lss t1 x y t2,ty,pos,af,gd⟩::l) ⟨ts,L⟩ tr K :=
 A5G (ins:=[(x,.d (.v (.int k a))),(y,.d (.v (.int k b)))]) rfl (A3z (p := .int k a) (q := .int k b) (z := .bool (decide (a<b))) rfl rfl (fun w=>by simp[go_sem])) hw (by simp[ag,hx,hy]) hd (fun h=>kt (by simpa using h)) (fun h=>kf (by simpa using h))
theorem B1t {t1 t2:ab} {x y:aa} {k:aU} {a b:Int} (hx:O9 ts x = .d (.v (.int k a))) (hy:O9 ts y = .d (.v (.int k b))) (hw:I2 ops ts ⟨some d,.binOp .leq t1 x y t2,ty,pos,af,gd⟩=some true) (hd:aq d N=true) (kt:a≤b→L3 P N ops l ⟨(d,.d (.v (.bool true)))::ts,L⟩ (tr++[.run [] []]) K) (kf:b<a→L3 P N ops l ⟨(d,.d (.v (.bool false)))::ts,L⟩ (tr++[.run [] []]) K):L3 P N ops (⟨some d,.binOp .leq t1 x y t2,ty,pos,af,gd⟩::l) ⟨ts,L⟩ tr K :=
 A5G (ins:=[(x,.d (.v (.int k a))),(y,.d (.v (.int k b)))]) rfl (A3z (p := .int k a) (q := .int k b) (z := .bool (decide (a≤b))) rfl rfl (fun w=>by simp[go_sem])) hw (by simp[ag,hx,hy]) hd (fun h=>kt (by simpa using h)) (fun h=>kf (by simpa using h))
theorem A4l {t1 t2:ab} {x y:aa} {k:aU} {a b:Int} (hx:O9 ts x = .d (.v (.int k a))) (hy:O9 ts y = .d (.v (.int k b))) (hw:I2 ops ts ⟨some d,.binOp .gtr t1 x y t2,ty,pos,af,gd⟩=some true) (hd:aq d N=true) (kt:b<a→L3 P N ops l ⟨(d,.d (.v (.bool true)))::ts,L⟩ (tr++[.run [] []]) K) (kf:a≤b→L3 P N ops l ⟨(d,.d (.v (.bool false)))::ts,L⟩ (tr++[.run [] []]) K):L3 P N ops (⟨some d,.binOp .gtr t1 x y t2,ty,pos,af,gd⟩::l) ⟨ts,L⟩ tr K :=
 A5G (ins:=[(x,.d (.v (.int k a))),(y,.d (.v (.int k b)))]) rfl (A3z (p := .int k a) (q := .int k b) (z := .bool (decide (b<a))) rfl rfl (fun w=>by simp[go_sem])) hw (by simp[ag,hx,hy]) hd (fun h=>kt (by simpa using h)) (fun h=>kf (by simpa using h))
theorem A7I {t1 t2:ab} {x y:aa} {k:aU} {a b:Int} (hx:O9 ts x = .d (.v (.int k a))) (hy:O9 ts y = .d (.v (.int k b))) (hw:I2 ops ts ⟨some d,.binOp .geq t1 x y t2,ty,pos,af,gd⟩=some true) (hd:aq d N=true) (kt:b≤a→L3 P N ops l ⟨(d,.d (.v (.bool true)))::ts,L⟩ (tr++[.run [] []]) K) (kf:a<b→L3 P N ops l ⟨(d,.d (.v (.bool false)))::ts,L⟩ (tr++[.run [] []]) K):L3 P N ops (⟨some d,.binOp .geq t1 x y t2,ty,pos,af,gd⟩::l) ⟨ts,L⟩ tr K :=
 A5G (ins:=[(x,.d (.v (.int k a))),(y,.d (.v (.int k b)))]) rfl (A3z (p := .int k a) (q := .int k b) (z := .bool (decide (b≤a))) rfl rfl (fun w=>by simp[go_sem])) hw (by simp[ag,hx,hy]) hd (fun h=>kt (by simpa using h)) (fun h=>kf (by simpa using h))
theorem Z3 {t1 t2:ab} {x y:aa} {k:aU} {a b:Int} (hx:O9 ts x = .d (.v (.int k a))) (hy:O9 ts y = .d (.v (.int k b))) (hw:I2 ops ts ⟨some d,.binOp .eql t1 x y t2,ty,pos,af,gd⟩=some true) (hd:aq d N=true) (kt:a=b→L3 P N ops l ⟨(d,.d (.v (.bool true)))::ts,L⟩ (tr++[.run [] []]) K) (kf:a≠b→L3 P N ops l ⟨(d,.d (.v (.bool false)))::ts,L⟩ (tr++[.run [] []]) K):L3 P N ops (⟨some d,.binOp .eql t1 x y t2,ty,pos,af,gd⟩::l) ⟨ts,L⟩ tr K :=
 A5G (ins:=[(x,.d (.v (.int k a))),(y,.d (.v (.int k b)))]) rfl (A3z (p := .int k a) (q := .int k b) (z := .bool (a==b)) rfl rfl (fun w=>by simp[go_sem])) hw (by simp[ag,hx,hy]) hd (fun h=>kt (by simpa using h)) (fun h=>kf (by simpa using h))
theorem V5 {t1 t2:ab} {x y:aa} {k:aU} {a b:Int} (hx:O9 ts x = .d (.v (.int k a))) (hy:O9 ts y = .d (.v (.int k b))) (hw:I2 ops ts ⟨some d,.binOp .neq t1 x y t2,ty,pos,af,gd⟩=some true) (hd:aq d N=true) (kt:a≠b→L3 P N ops l ⟨(d,.d (.v (.bool true)))::ts,L⟩ (tr++[.run [] []]) K) (kf:a=b→L3 P N ops l ⟨(d,.d (.v (.bool false)))::ts,L⟩ (tr++[.run [] []]) K):L3 P N ops (⟨some d,.binOp .neq t1 x y t2,ty,pos,af,gd⟩::l) ⟨ts,L⟩ tr K :=
 A5G (ins:=[(x,.d (.v (.int k a))),(y,.d (.v (.int k b)))]) rfl (A3z (p := .int k a) (q := .int k b) (z := .bool (a != b)) rfl rfl (fun w=>by simp[go_sem])) hw (by simp[ag,hx,hy]) hd (fun h=>kt (by simpa using h)) (fun h=>kf (by simpa using h))
theorem B1u {t1 t2:ab} {x y:aa} {a b:ByteArray} (hx:O9 ts x = .d (.v (.string a))) (hy:O9 ts y = .d (.v (.string b))) (hw:I2 ops ts ⟨some d,.binOp .eql t1 x y t2,ty,pos,af,gd⟩=some true) (hd:aq d N=true) (kt:a.toList=b.toList→L3 P N ops l ⟨(d,.d (.v (.bool true)))::ts,L⟩ (tr++[.run [] []]) K) (kf:a.toList≠b.toList→L3 P N ops l ⟨(d,.d (.v (.bool false)))::ts,L⟩ (tr++[.run [] []]) K):L3 P N ops (⟨some d,.binOp .eql t1 x y t2,ty,pos,af,gd⟩::l) ⟨ts,L⟩ tr K :=
 A5G (ins:=[(x,.d (.v (.string a))),(y,.d (.v (.string b)))]) rfl (A3z (p := .string a) (q := .string b) (z := .bool ((a.toList==b.toList))) rfl rfl (fun w=>by simp[go_sem,binOp,Op.stringOp])) hw (by simp[ag,hx,hy]) hd (fun h=>kt (by simpa using h)) (fun h=>kf (by simpa using h))
theorem A5R {t1:ab} {x:aa} {b:Bool} (hx:O9 ts x = .d (.v (.bool b))) (hw:I2 ops ts ⟨some d,.unOp .not t1 x,ty,pos,af,gd⟩=some true) (hd:aq d N=true) (kk:L3 P N ops l ⟨(d,.d (.v (.bool !b)))::ts,L⟩ (tr++[.run (ao be ([]:List (Nat × Rw))) []]) K):L3 P N ops (⟨some d,.unOp .not t1 x,ty,pos,af,gd⟩::l) ⟨ts,L⟩ tr K :=
 K0 (ins:=[(x,.d (.v (.bool b)))]) rfl (B9P (p := .bool b) (z := .bool !b) rfl rfl rfl) hw (by simp[ag,hx]) sM hd kk
theorem B9d {src dst:ab} {x:aa} {p z:al} (hx:O9 ts x = .d (.v p)) (h1:one z) (hz:∀ w,(convert src dst p).run P w = .ok z w) (hw:I2 ops ts ⟨some d,.convert src dst x,ty,pos,af,gd⟩=some true) (hd:aq d N=true) (kk:L3 P N ops l ⟨(d,.d (.v z))::ts,L⟩ (tr++[.run (ao be ([]:List (Nat × Rw))) []]) K):L3 P N ops (⟨some d,.convert src dst x,ty,pos,af,gd⟩::l) ⟨ts,L⟩ tr K :=
 K0 (ins:=[(x,.d (.v p))]) rfl (B9N rfl h1 hz) hw (by simp[ag,hx]) sM hd kk
theorem B5T {t:ab} {i:TI} {x:aa} {p:al} (tb:Tab P) (ht:tb.f t=some i) (hn:i.nif=true) (hx:O9 ts x = .d (.v p)) (hw:I2 ops ts ⟨some d,.makeInterface t x,ty,pos,af,gd⟩=some true) (hd:aq d N=true) (kk:L3 P N ops l ⟨(d,.d (.v (.iface t p)))::ts,L⟩ (tr++[.run (ao be ([]:List (Nat × Rw))) []]) K):L3 P N ops (⟨some d,.makeInterface t x,ty,pos,af,gd⟩::l) ⟨ts,L⟩ tr K :=
 K0 (ins:=[(x,.d (.v p))]) rfl (B8R rfl (tb.ok _ _ ht) hn) hw (by simp[ag,hx]) sM hd kk
theorem A2Z {ts:LT}:∀ {xs:List aa} {us:List T},xs.map (O9 ts)=us→∀ p∈xs.zip us,O9 ts p.1=p.2∧p.1∈xs
 | [],us,h,p,hp=>by simp at hp
 | x::xs,us,h,p,hp=>by
  subst h;simp only[bw,List.zip_cons_cons,ap]at hp;rcases hp with rfl | hp
  ·exact⟨rfl,by simp⟩
  ·have:=A2Z (xs:=xs) rfl p hp;exact⟨this.1,by simp[this.2]⟩
theorem A3E {fn:Fn} {first caps:Array aa} {us vs:List T} (h1:first.toList.map (O9 ts)=us) (h2:caps.toList.map (O9 ts)=vs) (hw:I2 ops ts ⟨some d,.makeFunc fn first caps,ty,pos,af,gd⟩=some true) (hd:aq d N=true) (kk:L3 P N ops l ⟨(d,.fn fn us vs)::ts,L⟩ (tr++[.run (ao be ([]:List (Nat × Rw))) []]) K):L3 P N ops (⟨some d,.makeFunc fn first caps,ty,pos,af,gd⟩::l) ⟨ts,L⟩ tr K :=
 K0 rfl (B9O rfl (by rw[← h1];simp) (by rw[← h2];simp)) hw (fun p hp=>by
  rcases List.mem_append.1 hp with h | h
  ·obtain⟨a,b⟩:=A2Z h1 p h;exact⟨a,by simp only[ag,bK];exact .inl (by simpa using b)⟩
  ·obtain⟨a,b⟩:=A2Z h2 p h;exact⟨a,by simp only[ag,bK];exact .inr (by simpa using b)⟩) sM hd kk
theorem F1 {x:aa} {n s i c:Nat} (hx:O9 ts x = .ref n s i c) (hw:I2 ops ts ⟨some d,.nilCheck x,ty,pos,af,gd⟩=some true) (hd:aq d N=true) (kk:L3 P N ops l ⟨(d,.ref n s i c)::ts,L⟩ (tr++[.run (ao be ([]:List (Nat × Rw))) []]) K):L3 P N ops (⟨some d,.nilCheck x,ty,pos,af,gd⟩::l) ⟨ts,L⟩ tr K :=
 K0 (ins:=[(x,.ref n s i c)]) rfl (B7R rfl) hw (by simp[ag,hx]) sM hd kk
theorem S2 {x:aa} {q:List D} {s i c:Nat} (hx:O9 ts x = .d (.el s q i c)) (hw:I2 ops ts ⟨some d,.nilCheck x,ty,pos,af,gd⟩=some true) (hd:aq d N=true) (kk:L3 P N ops l ⟨(d,.d (.el s q i c))::ts,L⟩ (tr++[.run (ao be ([]:List (Nat × Rw))) []]) K):L3 P N ops (⟨some d,.nilCheck x,ty,pos,af,gd⟩::l) ⟨ts,L⟩ tr K :=
 K0 (ins:=[(x,.d (.el s q i c))]) rfl (B8T rfl) hw (by simp[ag,hx]) sM hd kk
theorem A1B {x:aa} {q:List T} {k:Nat} {t:T} (hx:O9 ts x = .tup q) (hk:q[k]?=some t) (hw:I2 ops ts ⟨some d,.extract x k,ty,pos,af,gd⟩=some true) (hd:aq d N=true) (kk:L3 P N ops l ⟨(d,t)::ts,L⟩ (tr++[.run (ao be ([]:List (Nat × Rw))) []]) K):L3 P N ops (⟨some d,.extract x k,ty,pos,af,gd⟩::l) ⟨ts,L⟩ tr K :=
 K0 (ins:=[(x,.tup q)]) rfl (B69 rfl hk) hw (by simp[ag,hx]) sM hd kk
theorem Q1 {x:aa} {q:List D} {k:Nat} {t:D} (hx:O9 ts x = .d (.tup q)) (hk:q[k]?=some t) (hw:I2 ops ts ⟨some d,.extract x k,ty,pos,af,gd⟩=some true) (hd:aq d N=true) (kk:L3 P N ops l ⟨(d,.d t)::ts,L⟩ (tr++[.run (ao be ([]:List (Nat × Rw))) []]) K):L3 P N ops (⟨some d,.extract x k,ty,pos,af,gd⟩::l) ⟨ts,L⟩ tr K :=
 K0 (ins:=[(x,.d (.tup q))]) rfl (B5a rfl hk) hw (by simp[ag,hx]) sM hd kk
theorem M5 {t:ab} {a0:Bool} {s b0:Nat} {z0:T} {sl0:Option ab} {fs0:List (Nat × Bool × Nat)} {ar0:Option (Nat × ab)} {nf0:Bool} {n:Nat} {nr:List Nat} (tb:Tab P) (ht:tb.f t=some ⟨a0,s,b0,z0,sl0,fs0,ar0,nf0⟩) (h0:aJ s 0=false) (hn:A4f.drop L.length=n::nr) (hw:I2 ops ts ⟨some d,.alloc t,ty,pos,af,gd⟩=some true) (hd:aq d N=true) (kk:L3 P N ops l ⟨(d,.ref n s 0 0)::ts,L++[some ⟨s,[z0]⟩]⟩ (tr++[.run (ao be ([]:List (Nat × Rw))++[n]) [n]]) K):L3 P N ops (⟨some d,.alloc t,ty,pos,af,gd⟩::l) ⟨ts,L⟩ tr K :=
 by have e0:=A21 hn;subst e0;exact B0N (ins:=[]) rfl (B8L (P:=P) (o:=⟨some d,.alloc t,ty,pos,af,gd⟩) (fresh:=L.length) rfl (tb.ok _ _ ht) h0) hw sM sM hd kk
theorem C09 {t:ab} {x:aa} {u:T} {s:Nat} {nr2:List Nat} {n:Nat} {nr:List Nat} (hx:O9 ts x=u) (hs:A4f.drop u.cells.length=s::nr2) (hu:A4y u.cells=true) (h0:aJ s 0=false) (hn:A4f.drop L.length=n::nr) (hw:I2 ops ts ⟨some d,.box t x,ty,pos,af,gd⟩=some true) (hd:aq d N=true) (kk:L3 P N ops l ⟨(d,.ref n s 0 0)::ts,L++[some ⟨s,[u]⟩]⟩ (tr++[.run (ao be ([]:List (Nat × Rw))++[n]) [n]]) K):L3 P N ops (⟨some d,.box t x,ty,pos,af,gd⟩::l) ⟨ts,L⟩ tr K :=
 by have e0:=A21 hn;subst e0;exact B0N (ins:=[(x,u)]) rfl (C06 rfl (A21 hs) h0 (by unfold A4y at hu;rwa [ax]at hu)) hw (by simp[ag,hx]) sM hd kk
theorem A15 {t:ab} {i:TI} {x:aa} {n s q c:Nat} {r:Rw} {e:T} {y:D} (tb:Tab P) (ht:tb.f t=some i) (hx:O9 ts x = .ref n s q c) (hr:L[n]?=some (some r)) (hs:r.s=s) (he:r.els[q]?=some e) (hp:A2S i e.cells.length c=true) (hv:A29 i e.cells c = .d y) (hw:I2 ops ts ⟨some d,.load t x,ty,pos,af,gd⟩=some true) (hd:aq d N=true) (kk:L3 P N ops l ⟨(d,.d y)::ts,L⟩ (tr++[.run (ao be ([(n,r)]:List (Nat × Rw))) []]) K):L3 P N ops (⟨some d,.load t x,ty,pos,af,gd⟩::l) ⟨ts,L⟩ tr K :=
 K0 (ins:=[(x,.ref n s q c)]) rfl (hv▸B0W rfl (tb.ok _ _ ht) hs he hp) hw (by simp[ag,hx]) (by simp[hr]) hd kk
theorem C0G {t:ab} {i:TI} {x:aa} {s q c:Nat} {w:List D} {e y:D} (tb:Tab P) (ht:tb.f t=some i) (hx:O9 ts x = .d (.el s w q c)) (he:w[q]?=some e) (hp:A2S i e.cells.length c=true) (hv:A29 i (e.cells.map .d) c = .d y) (hw:I2 ops ts ⟨some d,.load t x,ty,pos,af,gd⟩=some true) (hd:aq d N=true) (kk:L3 P N ops l ⟨(d,.d y)::ts,L⟩ (tr++[.run (ao be ([]:List (Nat × Rw))) []]) K):L3 P N ops (⟨some d,.load t x,ty,pos,af,gd⟩::l) ⟨ts,L⟩ tr K :=
 K0 (ins:=[(x,.d (.el s w q c))]) rfl (hv▸B8S rfl (tb.ok _ _ ht) he hp) hw (by simp[ag,hx]) sM hd kk
theorem C1b {t:ab} {i:TI} {x:aa} {n s q c f m:Nat} {b:Bool} {c':Nat} (tb:Tab P) (ht:tb.f t=some i) (hx:O9 ts x = .ref n s q c) (hf:i.fs[f]?=some (c',b,m)) (hm:aJ m 0=false) {o2:Nat} {nr:List Nat} (ho:A4f.drop (c+c')=o2::nr) (hw:I2 ops ts ⟨some d,.fieldAddr t x f,ty,pos,af,gd⟩=some true) (hd:aq d N=true) (kk:L3 P N ops l ⟨(d,.ref n s q o2)::ts,L⟩ (tr++[.run (ao be ([]:List (Nat × Rw))) []]) K):L3 P N ops (⟨some d,.fieldAddr t x f,ty,pos,af,gd⟩::l) ⟨ts,L⟩ tr K :=
 K0 (ins:=[(x,.ref n s q c)]) rfl (A21 ho▸B5b rfl (tb.ok _ _ ht) hf hm) hw (by simp[ag,hx]) sM hd kk
theorem C0C {t:ab} {i:TI} {x:aa} {s q c f m:Nat} {w:List D} {b:Bool} {c':Nat} (tb:Tab P) (ht:tb.f t=some i) (hx:O9 ts x = .d (.el s w q c)) (hf:i.fs[f]?=some (c',b,m)) (hm:aJ m 0=false) {o2:Nat} {nr:List Nat} (ho:A4f.drop (c+c')=o2::nr) (hw:I2 ops ts ⟨some d,.fieldAddr t x f,ty,pos,af,gd⟩=some true) (hd:aq d N=true) (kk:L3 P N ops l ⟨(d,.d (.el s w q o2))::ts,L⟩ (tr++[.run (ao be ([]:List (Nat × Rw))) []]) K):L3 P N ops (⟨some d,.fieldAddr t x f,ty,pos,af,gd⟩::l) ⟨ts,L⟩ tr K :=
 K0 (ins:=[(x,.d (.el s w q c))]) rfl (A21 ho▸B6A rfl (tb.ok _ _ ht) hf hm) hw (by simp[ag,hx]) sM hd kk
theorem C0F {t e:ab} {i ei:TI} {x y:aa} {n s lo len:Nat} {k:aU} {q:Int} (tb:Tab P) (ht:tb.f t=some i) (hs:i.sl=some e) (he:tb.f e=some ei) (hx:O9 ts x = .row n s lo len) (hz:ei.size=s) (hy:O9 ts y = .d (.v (.int k q))) (h0:0≤q) (h1:q<len) (hw:I2 ops ts ⟨some d,.indexAddr t x y,ty,pos,af,gd⟩=some true) (hd:aq d N=true) (kk:L3 P N ops l ⟨(d,.ref n s (lo+q.toNat) 0)::ts,L⟩ (tr++[.run (ao be ([]:List (Nat × Rw))) []]) K):L3 P N ops (⟨some d,.indexAddr t x y,ty,pos,af,gd⟩::l) ⟨ts,L⟩ tr K :=
 K0 (ins:=[(x,.row n s lo len),(y,.d (.v (.int k q)))]) rfl (B5e rfl (tb.ok _ _ ht) hs (tb.ok _ _ he) hz h0 h1) hw (by simp[ag,hx,hy]) sM hd kk
theorem C0E {t e:ab} {i ei:TI} {x y:aa} {s:Nat} {w:List D} {k:aU} {q:Int} (tb:Tab P) (ht:tb.f t=some i) (hs:i.sl=some e) (he:tb.f e=some ei) (hx:O9 ts x = .d (.arr s w)) (hz:ei.size=s) (hy:O9 ts y = .d (.v (.int k q))) (h0:0≤q) (h1:q<w.length) (hw:I2 ops ts ⟨some d,.indexAddr t x y,ty,pos,af,gd⟩=some true) (hd:aq d N=true) (kk:L3 P N ops l ⟨(d,.d (.el s w q.toNat 0))::ts,L⟩ (tr++[.run (ao be ([]:List (Nat × Rw))) []]) K):L3 P N ops (⟨some d,.indexAddr t x y,ty,pos,af,gd⟩::l) ⟨ts,L⟩ tr K :=
 K0 (ins:=[(x,.d (.arr s w)),(y,.d (.v (.int k q)))]) rfl (B5d rfl (tb.ok _ _ ht) hs (tb.ok _ _ he) hz h0 h1) hw (by simp[ag,hx,hy]) sM hd kk
theorem C0D {t e:ab} {i ei:TI} {x y:aa} {n s j c m:Nat} {k:aU} {q:Int} (tb:Tab P) (ht:tb.f t=some i) (hs:i.ar=some (m,e)) (he:tb.f e=some ei) (hx:O9 ts x = .ref n s j c) (hy:O9 ts y = .d (.v (.int k q))) (h0:0≤q) (h1:q<m) (hw:I2 ops ts ⟨some d,.indexAddr t x y,ty,pos,af,gd⟩=some true) (hd:aq d N=true) (kk:L3 P N ops l ⟨(d,.ref n s j (c+q.toNat*ei.size))::ts,L⟩ (tr++[.run (ao be ([]:List (Nat × Rw))) []]) K):L3 P N ops (⟨some d,.indexAddr t x y,ty,pos,af,gd⟩::l) ⟨ts,L⟩ tr K :=
 K0 (ins:=[(x,.ref n s j c),(y,.d (.v (.int k q)))]) rfl (B3U rfl (tb.ok _ _ ht) hs (tb.ok _ _ he) h0 h1) hw (by simp[ag,hx,hy]) sM hd kk
theorem D4i {t:ab} {x y:aa} {b:ByteArray} {k:aU} {q:Int} {c:UInt8} (ht:P.underlying t=some .string) (hx:O9 ts x = .d (.v (.string b))) (hy:O9 ts y = .d (.v (.int k q))) (h0:0≤q) (h1:b[q.toNat]?=some c) (hw:I2 ops ts ⟨some d,.index t x y,ty,pos,af,gd⟩=some true) (hd:aq d N=true) (kk:L3 P N ops l ⟨(d,.d (.v (.int .u8 c.toNat)))::ts,L⟩ (tr++[.run (ao be ([]:List (Nat × Rw))) []]) K):L3 P N ops (⟨some d,.index t x y,ty,pos,af,gd⟩::l) ⟨ts,L⟩ tr K :=
 K0 (ins:=[(x,.d (.v (.string b))),(y,.d (.v (.int k q)))]) rfl (D2s rfl ht h0 h1) hw (by simp[ag,hx,hy]) sM hd kk
theorem B9X {α:Type} {t e:ab} {i:TI} {x:aa} {s:Nat} {w:List α} {g:α→D} (tb:Tab P) (ht:tb.f t=some i) (hs:i.sl=some e) (hx:O9 ts x = .d (.arr s (w.map g))) (hw:I2 ops ts ⟨some d,.call { callee := .builtin .len,args:=#[x],argTypes:=#[t] },ty,pos,af,gd⟩=some true) (hd:aq d N=true) (kk:L3 P N ops l ⟨(d,.d (.v (.int .i64 (w.length:Nat))))::ts,L⟩ (tr++[.run (ao be ([]:List (Nat × Rw))) []]) K):L3 P N ops (⟨some d,.call { callee := .builtin .len,args:=#[x],argTypes:=#[t] },ty,pos,af,gd⟩::l) ⟨ts,L⟩ tr K :=
 K0 (ins:=[(x,.d (.arr s (w.map g)))]) rfl (by have:=B9w (P:=P) (o:=⟨some d,.call { callee := .builtin .len,args:=#[x],argTypes:=#[t] },ty,pos,af,gd⟩) (fresh:=L.length) (u := .d (.arr s (w.map g))) rfl (tb.ok _ _ ht) hs (.inl ⟨s,_,rfl,rfl⟩);rw[aS]at this;exact this) hw (by simp[ag,aM,hx]) sM hd kk
theorem A8F {t e:ab} {i:TI} {x:aa} {n s lo len:Nat} (tb:Tab P) (ht:tb.f t=some i) (hs:i.sl=some e) (hx:O9 ts x = .row n s lo len) (hw:I2 ops ts ⟨some d,.call { callee := .builtin .len,args:=#[x],argTypes:=#[t] },ty,pos,af,gd⟩=some true) (hd:aq d N=true) (kk:L3 P N ops l ⟨(d,.d (.v (.int .i64 len)))::ts,L⟩ (tr++[.run (ao be ([]:List (Nat × Rw))) []]) K):L3 P N ops (⟨some d,.call { callee := .builtin .len,args:=#[x],argTypes:=#[t] },ty,pos,af,gd⟩::l) ⟨ts,L⟩ tr K :=
 K0 (ins:=[(x,.row n s lo len)]) rfl (B9w rfl (tb.ok _ _ ht) hs (.inr (.inl ⟨n,s,lo,rfl⟩))) hw (by simp[ag,aM,hx]) sM hd kk
theorem B9Y {t:ab} {x:aa} {b:ByteArray} (ht:P.underlying t=some .string) (hx:O9 ts x = .d (.v (.string b))) (hw:I2 ops ts ⟨some d,.call { callee := .builtin .len,args:=#[x],argTypes:=#[t] },ty,pos,af,gd⟩=some true) (hd:aq d N=true) (kk:L3 P N ops l ⟨(d,.d (.v (.int .i64 b.size)))::ts,L⟩ (tr++[.run (ao be ([]:List (Nat × Rw))) []]) K):L3 P N ops (⟨some d,.call { callee := .builtin .len,args:=#[x],argTypes:=#[t] },ty,pos,af,gd⟩::l) ⟨ts,L⟩ tr K :=
 K0 (ins:=[(x,.d (.v (.string b)))]) rfl (B7P rfl ht) hw (by simp[ag,aM,hx]) sM hd kk
theorem B9g {α:Type} {t e:ab} {i ei:TI} {x z:aa} {s:Nat} {w:List α} {g:α→D} {k2:aU} {q:Nat} (tb:Tab P) (ht:tb.f t=some i) (hs:i.sl=some e) (he:tb.f e=some ei) (hx:O9 ts x = .d (.arr s (w.map g))) (hz:ei.size=s) (hq:O9 ts z = .d (.v (.int k2 (q:Nat)))) (h1:q≤w.length) (hw:I2 ops ts ⟨some d,.slice t x none (some z) none,ty,pos,af,gd⟩=some true) (hd:aq d N=true) (kk:L3 P N ops l ⟨(d,.d (.arr s ((w.take q).map g)))::ts,L⟩ (tr++[.run (ao be ([]:List (Nat × Rw))) []]) K):L3 P N ops (⟨some d,.slice t x none (some z) none,ty,pos,af,gd⟩::l) ⟨ts,L⟩ tr K :=
 K0 (ins:=[(x,.d (.arr s (w.map g))),(z,.d (.v (.int k2 (q:Nat))))]) rfl (List.map_take▸B6D rfl (tb.ok _ _ ht) hs (tb.ok _ _ he) hz (by rw[aS];exact h1)) hw (by simp[ag,hx,hq]) sM hd kk
theorem B3f {tys:Array ab} {x y:aa} {k:aU} {a b:Int} (hx:O9 ts x = .d (.v (.int k a))) (hy:O9 ts y = .d (.v (.int k b))) (hw:I2 ops ts ⟨some d,.call { callee := .builtin .max,args:=#[x,y],argTypes:=tys },ty,pos,af,gd⟩=some true) (hd:aq d N=true) (kk:L3 P N ops l ⟨(d,.d (.v (.int k (max a b))))::ts,L⟩ (tr++[.run (ao be ([]:List (Nat × Rw))) []]) K):L3 P N ops (⟨some d,.call { callee := .builtin .max,args:=#[x,y],argTypes:=tys },ty,pos,af,gd⟩::l) ⟨ts,L⟩ tr K :=
 K0 (ins:=[(x,.d (.v (.int k a))),(y,.d (.v (.int k b)))]) rfl (B4Y (p := .int k a) (q := .int k b) (z := .int k (max a b)) rfl rfl (fun w c=>by simp[builtin,Builtin.max_,Builtin.max2,fg];omega)) hw (by simp[ag,aM,hx,hy]) sM hd kk
theorem A9L {tys:Array ab} {x y u:aa} {k:aU} {a b e:Int} (hx:O9 ts x = .d (.v (.int k a))) (hy:O9 ts y = .d (.v (.int k b))) (hu:O9 ts u = .d (.v (.int k e))) (hw:I2 ops ts ⟨some d,.call { callee := .builtin .max,args:=#[x,y,u],argTypes:=tys },ty,pos,af,gd⟩=some true) (hd:aq d N=true) (kk:L3 P N ops l ⟨(d,.d (.v (.int k (max (max a b) e))))::ts,L⟩ (tr++[.run (ao be ([]:List (Nat × Rw))) []]) K):L3 P N ops (⟨some d,.call { callee := .builtin .max,args:=#[x,y,u],argTypes:=tys },ty,pos,af,gd⟩::l) ⟨ts,L⟩ tr K :=
 K0 (ins:=[(x,.d (.v (.int k a))),(y,.d (.v (.int k b))),(u,.d (.v (.int k e)))]) rfl (B4Z (p := .int k a) (q := .int k b) (r := .int k e) (z := .int k (max (max a b) e)) rfl rfl (fun w c=>by simp[builtin,Builtin.max_,Builtin.max2,fg];omega)) hw (by simp[ag,aM,hx,hy,hu]) sM hd kk
theorem C0c {t e:ab} {i ei:TI} {x y:aa} {s:Nat} {w:List D} {k:aU} {p:Nat} (tb:Tab P) (ht:tb.f t=some i) (hs:i.sl=some e) (he:tb.f e=some ei) (hx:O9 ts x = .d (.arr s w)) (hz:ei.size=s) (hy:O9 ts y = .d (.v (.int k p))) (h1:p≤w.length) (hw:I2 ops ts ⟨some d,.slice t x (some y) none none,ty,pos,af,gd⟩=some true) (hd:aq d N=true) (kk:L3 P N ops l ⟨(d,.d (.arr s (w.drop p)))::ts,L⟩ (tr++[.run (ao be ([]:List (Nat × Rw))) []]) K):L3 P N ops (⟨some d,.slice t x (some y) none none,ty,pos,af,gd⟩::l) ⟨ts,L⟩ tr K :=
 K0 (ins:=[(x,.d (.arr s w)),(y,.d (.v (.int k p)))]) rfl (B6E rfl (tb.ok _ _ ht) hs (tb.ok _ _ he) hz h1) hw (by simp[ag,hx,hy]) sM hd kk
theorem S1 {t:ab} {i:TI} {parts:Array (Nat × aa)} {us:List T} {v:T} (tb:Tab P) (ht:tb.f t=some i) (hx:(parts.toList.map (·.2)).map (O9 ts)=us) (hfs:i.fs≠[]) (h1:A3f us=true) (hin:B2Z i.fs parts.toList=true) (hk:A6Z i.z.cells.length (A4M i.fs parts.toList us)=true) (hv:mkAgg (A8W i.z.cells ((A4M i.fs parts.toList us).map fun q=>(q.1,q.2.2)))=v) (hw:I2 ops ts ⟨some d,.build t parts,ty,pos,af,gd⟩=some true) (hd:aq d N=true) (kk:L3 P N ops l ⟨(d,v)::ts,L⟩ (tr++[.run (ao be ([]:List (Nat × Rw))) []]) K):L3 P N ops (⟨some d,.build t parts,ty,pos,af,gd⟩::l) ⟨ts,L⟩ tr K :=
 K0 rfl (hv▸B8M rfl (tb.ok _ _ ht) hfs (by rw[← hx];simp) h1 hin hk) hw (fun p hp=>by obtain⟨a,b⟩:=A2Z hx p hp;exact⟨a,by simpa[ag]using b⟩) sM hd kk
theorem P7 {t e:ab} {i:TI} {a0:Bool} {s b0:Nat} {z0:T} {sl0:Option ab} {fs0:List (Nat × Bool × Nat)} {ar0:Option (Nat × ab)} {nf0:Bool} {len:Nat} {parts:Array (Nat × aa)} {us:List T} {n:Nat} {nr:List Nat} (tb:Tab P) (ht:tb.f t=some i) (hsl:i.sl=some e) (he:tb.f e=some ⟨a0,s,b0,z0,sl0,fs0,ar0,nf0⟩) (h0:aJ s 0=false) (hx:(parts.toList.map (·.2)).map (O9 ts)=us) (hlen:us.length=len) (hsq:A7J 0 parts.toList=true) (hs:B02 s us=true) (h1:A3f us=true) (hb:bL (len*s) 16777216=true) (hn:A4f.drop L.length=n::nr) (hw:I2 ops ts ⟨some d,.buildSlice t len parts,ty,pos,af,gd⟩=some true) (hd:aq d N=true) (kk:L3 P N ops l ⟨(d,.row n s 0 len)::ts,L++[some ⟨s,us⟩]⟩ (tr++[.run (ao be ([]:List (Nat × Rw))++[n]) [n]]) K):L3 P N ops (⟨some d,.buildSlice t len parts,ty,pos,af,gd⟩::l) ⟨ts,L⟩ tr K :=
 by have e0:=A21 hn;subst e0;exact B0N rfl (B2N rfl (tb.ok _ _ ht) hsl (tb.ok _ _ he) (by rw[← hx];simp) hlen hsq hs h1 (bg hb) h0) hw (fun p hp=>by obtain⟨a,b⟩:=A2Z hx p hp;exact⟨a,by simpa[ag]using b⟩) sM hd kk
theorem B9Z {t e:ab} {i:TI} {a0:Bool} {s b0:Nat} {z0:T} {sl0:Option ab} {fs0:List (Nat × Bool × Nat)} {ar0:Option (Nat × ab)} {nf0:Bool} {x y:aa} {k k':aU} {q:Nat} {n:Nat} {nr:List Nat} (tb:Tab P) (ht:tb.f t=some i) (hsl:i.sl=some e) (he:tb.f e=some ⟨a0,s,b0,z0,sl0,fs0,ar0,nf0⟩) (h0:aJ s 0=false) (hx:O9 ts x = .d (.v (.int k q))) (hy:O9 ts y = .d (.v (.int k' q))) (hq:q≤9223372036854775807) (hb:b0*q≤281474976710656) (hn:A4f.drop L.length=n::nr) (hw:I2 ops ts ⟨some d,.makeSlice t x y,ty,pos,af,gd⟩=some true) (hd:aq d N=true) (kk:L3 P N ops l ⟨(d,.row n s 0 q)::ts,L++[some ⟨s,List.replicate q z0⟩]⟩ (tr++[.run (ao be ([]:List (Nat × Rw))++[n]) [n]]) K):L3 P N ops (⟨some d,.makeSlice t x y,ty,pos,af,gd⟩::l) ⟨ts,L⟩ tr K :=
 by have e0:=A21 hn;subst e0;exact B0N (ins:=[(x,.d (.v (.int k q))),(y,.d (.v (.int k' q)))]) rfl (B3W rfl (tb.ok _ _ ht) hsl (tb.ok _ _ he) hq hb h0) hw (by simp[ag,hx,hy]) sM hd kk

theorem C0L {t:ab} {i:TI} {x y:aa} {n s q c:Nat} {r:Rw} {e u:T} (tb:Tab P) (ht:tb.f t=some i) (hx:O9 ts x = .ref n s q c) (hy:O9 ts y=u) (hr:L[n]?=some (some r)) (hs:r.s=s) (he:r.els[q]?=some e) (hu:u.cells.length=i.size)
  (h1:A4y u.cells=true) (hc:bL (c+i.size) e.cells.length=true) {r':Rw} (hr':(⟨r.s,r.els.set q (A9t e c u)⟩:Rw)=r') {L':LR} (hL:L.set n (some r')=L') (hw:I2 ops ts ⟨none,.store t x y,ty,pos,af,gd⟩=some true)
  (k:L3 P N ops l ⟨ts,L'⟩ (tr++[.run [n] [n]]) K):L3 P N ops (⟨none,.store t x y,ty,pos,af,gd⟩::l) ⟨ts,L⟩ tr K:=by
 refine A2i (.run hw (B8U (fresh:=L.length) (n:=n) (s:=s) (k:=q) (c:=c) (u:=u) rfl (tb.ok _ _ ht) hs he hu (by unfold A4y at h1;rwa [ax]at h1) (bg hc)) ?_ ?_ ?_ rfl) ?_
 ·intro p hp;simp only[ap,ay,or_false]at hp;rcases hp with rfl | rfl
  ·exact⟨hx,by simp[ag]⟩
  ·exact⟨hy,by simp[ag]⟩
 ·intro p hp;simp only[ap,ay,or_false]at hp;subst hp;exact hr
 ·intro p hp;simp only[ap,ay,or_false]at hp;subst hp;exact⟨(n,r),by simp,rfl⟩
 ·subst hr' hL;simpa[St.eff,A5m,A4m]using k
theorem C1a {t e:ab} {i ei:TI} {x y:aa} {s n n' lo len len':Nat} {r r2:Rw} {q:List T} (tb:Tab P) (ht:tb.f t=some i) (hsl:i.sl=some e) (he:tb.f e=some ei) (hz:ei.size=s) (hx:O9 ts x = .row n s 0 len) (hy:O9 ts y = .row n' s lo len') (hr:L[n]?=some (some r)) (hs:r.s=s) (hlen:r.els.length=len)
  (hr2:L[n']?=some (some r2)) (hs2:r2.s=s) (hq:(r2.els.drop lo).take len'=q) (hle:bL (lo+len') r2.els.length=true) (h1:A3f q=true) (hm:len+q.length≤1000000000) (hb:bL ei.bytes 65536=true) {m:Nat} (hqm:q.length=m) {L':LR} (hL:L.set n none=L') {nn:Nat} {nr:List Nat} (hnn:A4f.drop L.length=nn::nr)
  (hw:I2 ops ts ⟨some d,.call { callee := .builtin .append,args:=#[x,y],argTypes:=#[t,t] },ty,pos,af,gd⟩=some true) (hd:aq d N=true)
  (k:L3 P N ops l ⟨(d,.row nn s 0 (len+m))::ts,L'++[some ⟨s,r.els++q⟩]⟩ (tr++[.run [n,n',nn] [n,nn]]) K):L3 P N ops (⟨some d,.call { callee := .builtin .append,args:=#[x,y],argTypes:=#[t,t] },ty,pos,af,gd⟩::l) ⟨ts,L⟩ tr K:=by
 have e0:=A21 hnn;subst hqm hL hz e0;have hb':=bg hb;have hnl:n<L.length:=(gS hr).1;refine A2i (.run hw (B3T (fresh:=L.length) (n:=n) (s:=ei.size) (len:=len) (r:=r) (u := .row n' ei.size lo len') (rn:=[(n,r),(n',r2)]) (l:=q) rfl (tb.ok _ _ ht) hsl (tb.ok _ _ he) rfl (.inr (.inr ⟨n',lo,len',r2,rfl,by simp,hs2,bg hle,hq.symm⟩)) sM hs hlen h1 oM (bN (eg hm hb') dM) oM) ?_ ?_ ?_ hd) ?_
 ·intro p hp;simp only[ap,ay,or_false]at hp;rcases hp with rfl | rfl
  ·exact⟨hx,by simp[ag,aM]⟩
  ·exact⟨hy,by simp[ag,aM]⟩
 ·intro p hp;simp only[ap,ay,or_false]at hp;rcases hp with rfl | rfl<;>assumption
 ·intro p hp;simp only[ap,ay,or_false]at hp;subst hp;exact⟨(n,r),by simp,rfl⟩
 ·simpa[St.eff,A5m,A4m]using k
theorem C3r {t e:ab} {i ei:TI} {x y:aa} {s n len:Nat} {r:Rw} {q:List D} (tb:Tab P) (ht:tb.f t=some i) (hsl:i.sl=some e) (he:tb.f e=some ei) (hz:ei.size=s) (hx:O9 ts x = .row n s 0 len) (hy:O9 ts y = .d (.arr s q)) (hr:L[n]?=some (some r)) (hs:r.s=s) (hlen:r.els.length=len)
  (h1:A3f (q.map .d)=true) (hm:len+q.length≤1000000000) (hb:bL ei.bytes 65536=true) {L':LR} (hL:L.set n none=L') {nn:Nat} {nr:List Nat} (hnn:A4f.drop L.length=nn::nr)
  (hw:I2 ops ts ⟨some d,.call { callee := .builtin .append,args:=#[x,y],argTypes:=#[t,t] },ty,pos,af,gd⟩=some true) (hd:aq d N=true)
  (k:L3 P N ops l ⟨(d,.row nn s 0 (len+q.length))::ts,L'++[some ⟨s,r.els++q.map .d⟩]⟩ (tr++[.run [n,nn] [n,nn]]) K):L3 P N ops (⟨some d,.call { callee := .builtin .append,args:=#[x,y],argTypes:=#[t,t] },ty,pos,af,gd⟩::l) ⟨ts,L⟩ tr K:=by
 have e0:=A21 hnn;subst hL hz e0;have hb':=bg hb;have hnl:n<L.length:=(gS hr).1;refine A2i (.run hw (B3T (fresh:=L.length) (n:=n) (s:=ei.size) (len:=len) (r:=r) (u := .d (.arr ei.size q)) (rn:=[(n,r)]) (l:=q.map .d) rfl (tb.ok _ _ ht) hsl (tb.ok _ _ he) rfl (.inr (.inl ⟨q,rfl,rfl⟩)) sM hs hlen h1 (by simp;omega) (bN (eg (by simpa using hm) hb') dM) oM) ?_ ?_ ?_ hd) ?_
 ·intro p hp;simp only[ap,ay,or_false]at hp;rcases hp with rfl | rfl
  ·exact⟨hx,by simp[ag,aM]⟩
  ·exact⟨hy,by simp[ag,aM]⟩
 ·intro p hp;simp only[ap,ay,or_false]at hp;subst hp;exact hr
 ·intro p hp;simp only[ap,ay,or_false]at hp;subst hp;exact⟨(n,r),by simp,rfl⟩
 ·simpa[St.eff,A5m,A4m]using k
def PC (P:ah) (f:bm) (as:List D) (y:D):Prop:=SC P f (as.map .d) [] fun se L'=>se = .ret (.d y)∧L'=[]
theorem J5 {x:aa} {xs:Array aa} {tys:Array ab} {f:bm} {as:List D} {y:D} (hc:PC P f as y) (he:Ent P f) (hf:O9 ts x = .d (.v (.func (.func f) #[] #[]))) (hx:xs.toList.map (O9 ts)=as.map .d)
  (hw:I2 ops ts ⟨some d,.call { callee := .value x,args:=xs,argTypes:=tys },ty,pos,af,gd⟩=some true) (hd:aq d N=true) (k:L3 P N ops l ⟨(d,.d y)::ts,L⟩ (tr++[.run [] []]) K) :
  L3 P N ops (⟨some d,.call { callee := .value x,args:=xs,argTypes:=tys },ty,pos,af,gd⟩::l) ⟨ts,L⟩ tr K:=by
 have hro:A5n (kap []) (as.map .d)=as.map .d:=by rw[A1Z];simp[T.ren]
 refine K0 rfl (B2O (P:=P) (fresh:=L.length) (ρ:=[]) (rs:=[]) (ls:=[]) (news:=[]) (fi:=[]) (ca:=[]) (as:=as.map .d) (ts:=as.map .d) rfl he (.inl ⟨rfl,rfl,rfl⟩) (by rw[← hx];simp) hc ?_ ?_ sM rfl rfl sM sM) hw ?_ (by simp[A5T]) hd (by simpa[A5T,T.ren]using k)
 ·rw[hro];simp
 ·rw[A3m];simp[T.sc]
 ·intro p hp;rcases ap.1 hp with rfl | hp
  ·exact⟨hf,by simp[ag,aM]⟩
  ·obtain⟨a,b⟩:=A2Z hx p hp;exact⟨a,by simp only[ag,aM,bK];exact .inr (by simpa using b)⟩
theorem M6 {x:aa} {xs:Array aa} {tys:Array ab} {f:bm} {as:List D} {b:Bool} (hc:PC P f as (.v (.bool b))) (he:Ent P f) (hf:O9 ts x = .d (.v (.func (.func f) #[] #[]))) (hx:xs.toList.map (O9 ts)=as.map .d)
  (hw:I2 ops ts ⟨some d,.call { callee := .value x,args:=xs,argTypes:=tys },ty,pos,af,gd⟩=some true) (hd:aq d N=true) (kt:b=true→L3 P N ops l ⟨(d,.d (.v (.bool true)))::ts,L⟩ (tr++[.run [] []]) K)
  (kf:b=false→L3 P N ops l ⟨(d,.d (.v (.bool false)))::ts,L⟩ (tr++[.run [] []]) K):L3 P N ops (⟨some d,.call { callee := .value x,args:=xs,argTypes:=tys },ty,pos,af,gd⟩::l) ⟨ts,L⟩ tr K:=by
 cases b with
 | true=>exact J5 hc he hf hx hw hd (kt rfl)
 | false=>exact J5 hc he hf hx hw hd (kf rfl)
end
mutual
def D.plain:D→Bool
 | .v _=>true
 | .agg l | .tup l=>B3a l
 | .arr _ []=>true
 | .arr _ (_::_) | .el _ _ _ _ | .mp _ _=>false
def B3a:List D→Bool
 | []=>true
 | x::l=>x.plain&&B3a l
end
theorem A7m:∀ l,B3a l=l.all D.plain
 | []=>rfl
 | x::l=>by rw[B3a,A7m l];rfl
theorem VD.plain {g g':G} {d:D} {c:al} (h:VD g d c) (hd:d.plain=true):VD g' d c:=by
 induction h with
 | v x h=>exact .v x h
 | agg l cs hl h ih =>
  simp only[D.plain,A7m,ax]at hd;exact .agg l cs hl fun i d c hd' hc=>ih i d c hd' hc (hd d (iM hd'))
 | tup l cs hl h ih =>
  simp only[D.plain,A7m,ax]at hd;exact .tup l cs hl fun i d c hd' hc=>ih i d c hd' hc (hd d (iM hd'))
 | arr0 s a cap=>exact .arr0 s a cap
 | arr s l b off cap f hc hK hs hw hv =>
  cases l with
  | nil=>exact .arr0 s _ _
  | cons=>cases hd
 | el=>cases hd
 | mp=>cases hd
inductive A2m (L:LR):T→D→Prop where
 | d (x:D):A2m L (.d x) x
 | rowG {n s len:Nat} {els:List T} {es:List D} (h:L[n]?=some (some ⟨s,els⟩)) (hl:es.length=len) (he:els.length=es.length) (hi:∀ (i:Nat) (t:T) (d:D),els[i]?=some t→es[i]?=some d→A2m L t d):A2m L (.row n s 0 len) (.arr s es)
 | rowO {n s lo len:Nat} {els:List T} {es:List D} (h:L[n]?=some (some ⟨s,els⟩)) (hl:es.length=len) (he:els.length=lo+es.length) (hi:∀ (i:Nat) (t:T) (d:D),els[lo+i]?=some t→es[i]?=some d→A2m L t d):A2m L (.row n s lo len) (.arr s es)
 | refG {n s i o:Nat} {els:List T} {es:List D} (h:L[n]?=some (some ⟨s,els⟩)) (he:els.length=es.length) (hi:∀ (i:Nat) (t:T) (d:D),els[i]?=some t→es[i]?=some d→A2m L t d):A2m L (.ref n s i o) (.el s es i o)
 | agg {l:List T} {ds:List D} (hl:l.length=ds.length) (h:∀ (i:Nat) (t:T) (d:D),l[i]?=some t→ds[i]?=some d→A2m L t d):A2m L (.agg l) (.agg ds)
 | mpR {n:Nat} {ks:List al} {ys:List T} {vs:List D} (h:L[n]?=some (some ⟨0,(ks.zip ys).map fun p => .agg [.d (.v p.1),p.2]⟩)) (hl:ks.length=ys.length) (hl2:ys.length=vs.length) (hi:∀ (i:Nat) (t:T) (d:D),ys[i]?=some t→vs[i]?=some d→A2m L t d):A2m L (.mp n) (.mp ks vs)
 | nilA {s:Nat}:A2m L (.d (.v (.slice none 0 0))) (.arr s [])
 | aggD {l:List D} {ds:List D} (hl:l.length=ds.length) (h:∀ (i:Nat) (t:D) (d:D),l[i]?=some t→ds[i]?=some d→A2m L (.d t) d):A2m L (.d (.agg l)) (.agg ds)
 | tupD {l:List D} {ds:List D} (hl:l.length=ds.length) (h:∀ (i:Nat) (t:D) (d:D),l[i]?=some t→ds[i]?=some d→A2m L (.d t) d):A2m L (.d (.tup l)) (.tup ds)
 | tup {l:List T} {ds:List D} (hl:l.length=ds.length) (h:∀ (i:Nat) (t:T) (d:D),l[i]?=some t→ds[i]?=some d→A2m L t d):A2m L (.tup l) (.tup ds)
theorem B7D {α:Type} {L:LR} {w:List α} {f:α→D}:∀ (i:Nat) (t:T) (d:D),(w.map fun a=>T.d (f a))[i]?=some t→(w.map f)[i]?=some d→A2m L t d:=fun i t d h1 h2=>by
 rw[gM,an]at h1 h2;obtain⟨a,ha,rfl⟩:=h1;obtain⟨b,hb,rfl⟩:=h2;rw[ha]at hb;injection hb with hb;subst hb
 exact .d _
theorem A2m.row {α:Type} {L:LR} {n s len:Nat} {w:List α} {f:α→D} (h:L[n]?=some (some ⟨s,w.map fun a => .d (f a)⟩)) (hl:w.length=len):A2m L (.row n s 0 len) (.arr s (w.map f)) :=
 .rowG h (by simpa using hl) sM B7D
theorem A2m.ref {L:LR} {n s i o:Nat} {x:T} {y:D} (h:L[n]?=some (some ⟨s,[x]⟩)) (k:A2m L x y):A2m L (.ref n s i o) (.el s [y] i o) :=
 .refG h rfl fun i t d h1 h2=>by
  cases i with
  | zero=>simp at h1 h2;subst h1;subst h2;exact k
  | succ i=>simp at h1
inductive A5o (L:LR):List T→List D→Prop where
 | nil:A5o L [] []
 | cons {t:T} {d:D} {ts:List T} {ds:List D} (h:A2m L t d) (k:A5o L ts ds):A5o L (t::ts) (d::ds)
def G.all (g:G):G:=⟨ofL [],g.β,fun b=>g.K b∨¬ NL g b,g.w⟩
theorem B9s {g:G}:∀ b,g.K b→g.all.K b:=fun _ hb=>fp hb
theorem A74 {g:G} (hg:P6 g):P6 g.all:=by
 refine⟨fun n r h=>by simp[G.all,ofL]at h,fun n m r q h=>by simp[G.all,ofL]at h,fun b hb=>?_,fun b _ n r h=>by simp[G.all,ofL]at h⟩;rcases hb with hb | hb
 ·exact hg.kd b hb
 ·have:∃ n r,g.M n=some (some r)∧(g.β n).2≠0∧(g.β n).1=b:=by
   apply Classical.byContradiction;intro hc;exact hb fun n r hn h0 he=>hc ⟨n,r,hn,h0,he⟩
  obtain⟨n,r,hn,h0,rfl⟩:=this;exact(hg.rows n r hn).lt h0
theorem B65 {g:G} (hg:P6 g) {L:LR} (hM:∀ (n:Nat) (r:Rw),L[n]?=some (some r)→g.M n=some (some r)) {t:T} {d:D} (h:A2m L t d) :
  (∀ {c:al},VT g t c→VD g.all d c)∧t.cells.length=d.cells.length∧∀ (j:Nat) (t':T) (d':D),t.cells[j]?=some t'→d.cells[j]?=some d'→∀ {c:al},VT g t' c→VD g.all d' c:=by
 have hK:∀ n r,g.M n=some (some r)→(g.β n).2≠0→g.all.K (g.β n).1:=fun n r hn h0 => .inr fun hh=>hh n r hn h0 rfl;have one:∀ {t:T} {d:D},(∀ {c:al},VT g t c→VD g.all d c)→∀ (j:Nat) (t':T) (d':D),[t][j]?=some t'→[d][j]?=some d'→∀ {c:al},VT g t' c→VD g.all d' c:=fun {t d} h j t' d' h1 h2=>by
  cases j with
  | zero=>simp at h1 h2;subst h1;subst h2;exact h
  | succ j=>simp at h1
 have row:∀ {n s:Nat} {els:List T} {es:List D},g.M n=some (some ⟨s,els⟩)→s≠0→es≠[]→els.length=es.length→(∀ (i:Nat) (t:T) (d:D),els[i]?=some t→es[i]?=some d→(∀ {c:al},VT g t c→VD g.all d c)∧t.cells.length=d.cells.length∧∀ (j:Nat) (t':T) (d':D),t.cells[j]?=some t'→d.cells[j]?=some d'→∀ {c:al},VT g t' c→VD g.all d' c) →
   (g.β n).2≠0∧∃ f:Nat→Nat→al,es.length≤(g.β n).2∧(∀ (i:Nat) (d:D),es[i]?=some d→d.cells.length=s) ∧
    (∀ (i:Nat) (d:D),es[i]?=some d→∀ (j:Nat) (e:D),d.cells[j]?=some e→g.all.w.cell? ⟨(g.β n).1,0+i*s+j,none⟩=some (f i j))∧(∀ (i:Nat) (d:D),es[i]?=some d→∀ (j:Nat) (e:D),d.cells[j]?=some e→VD g.all e (f i j)):=fun {n s els es} hn hs0 hes he ih=>by
  have hpos:0<es.length:=cp.2 hes;have hx0:els[0]?=some els[0]:=gE oM;obtain⟨hcap,cells,e,h1,h2,h3,h4⟩:=(hg.rows n _ hn).has hs0 hx0;have hx:∀ (i:Nat) (d:D),es[i]?=some d→∃ t,els[i]?=some t:=fun i d hd=>by
   have:=(gS hd).1;exact⟨_,gE oM⟩
  have hc:∀ (t:T) (d:D) (j:Nat) (y:D),t.cells.length=d.cells.length→d.cells[j]?=some y→∃ t',t.cells[j]?=some t':=fun t d j y hl hy=>by
   have:=(gS hy).1;exact⟨_,gE oM⟩
  refine⟨hcap,fun i j=>(cells[i*s+j]?).getD undef,by simp only at h3;omega,fun i d hd=>?_,fun i d hd j y hy=>?_,fun i d hd j y hy=>?_⟩<;>obtain⟨t,ht⟩:=hx i d hd<;>obtain⟨k1,k2,k3⟩:=ih i t d ht hd
  ·rw[← k2];exact(h4 i t ht).1
  ·obtain⟨t',ht'⟩:=hc t d j y k2 hy;obtain⟨c,q1,_⟩:=(h4 i t ht).2 j t' ht';show g.w.cell? _=_;simp only at q1;simp[World.cell?,h1,q1]
  ·obtain⟨t',ht'⟩:=hc t d j y k2 hy;obtain⟨c,q1,q2⟩:=(h4 i t ht).2 j t' ht';simp only at q1;simp only[q1,aR];exact k3 j t' y ht' hy q2
 induction h with
 | d x =>
  have hc:(T.d x).cells=x.cells.map .d:=by cases x<;>rfl
  refine⟨fun {c} hc=>(by cases hc with | d hc=>exact VD.same (g:=g) (g':=g.all) rfl B9s hc),by rw[hc];simp,fun j t d h1 h2 c hc'=>?_⟩;rw[hc,gM,h2,bh,aK]at h1;subst h1;cases hc' with | d hc'=>exact VD.same (g:=g) (g':=g.all) rfl B9s hc'
 | rowG h hl he hi ih =>
  rename_i n s len els es;have:∀ {c:al},VT g (.row n s 0 len) c→VD g.all (.arr s es) c:=fun {c} hc=>by
   cases hc with | row _ _ _ _ a0 hn hs0 hcap ha =>
   by_cases hes:es=[]
   ·subst hes;subst hl;exact .arr0 s _ _
   obtain⟨q0,f,q1,q3,q4,q5⟩:=row (hM n _ h) hs0 hes he ih;have ha:=ha q0;subst ha;have:=VD.arr (g:=g.all) s es (g.β n).1 0 ((g.β n).2-0) f oM (hK n _ (hM n _ h) q0) q3 q4 q5;rw[da]
   rwa [hl]at this
  exact⟨this,rfl,one this⟩
 | rowO h hl he hi ih =>
  rename_i n s lo len els es;have:∀ {c:al},VT g (.row n s lo len) c→VD g.all (.arr s es) c:=fun {c} hc=>by
   cases hc with | row _ _ _ _ a0 hn hs0 hcap ha =>
   by_cases hes:es=[]
   ·subst hes;subst hl;exact .arr0 s _ _
   have hpos:0<es.length:=cp.2 hes;have hx0:els[lo]?=some els[lo]:=gE oM;obtain⟨q0,cells,e,h1,h2,h3,h4⟩:=(hg.rows n _ (hM n _ h)).has hs0 hx0;have ha:=ha q0;subst ha;have hx:∀ (i:Nat) (d:D),es[i]?=some d→∃ t,els[lo+i]?=some t:=fun i d hd=>by
    have:=(gS hd).1;exact⟨_,gE oM⟩
   have hc:∀ (t:T) (d:D) (j:Nat) (y:D),t.cells.length=d.cells.length→d.cells[j]?=some y→∃ t',t.cells[j]?=some t':=fun t d j y hl hy=>by
    have:=(gS hy).1;exact⟨_,gE oM⟩
   have:=VD.arr (g:=g.all) s es (g.β n).1 (lo*s) ((g.β n).2-lo) (fun i j=>(cells[(lo+i)*s+j]?).getD undef) oM (hK n _ (hM n _ h) q0)
    (fun i d hd=>by obtain⟨t,ht⟩:=hx i d hd;obtain⟨k1,k2,k3⟩:=ih i t d ht hd;rw[← k2];exact(h4 (lo+i) t ht).1)
    (fun i d hd j y hy=>by
     obtain⟨t,ht⟩:=hx i d hd;obtain⟨k1,k2,k3⟩:=ih i t d ht hd;obtain⟨t',ht'⟩:=hc t d j y k2 hy;obtain⟨c,q1,_⟩:=(h4 (lo+i) t ht).2 j t' ht';show g.w.cell? _=_;simp only at q1;rw[bv]at q1;simp[World.cell?,h1,q1,bv])
    (fun i d hd j y hy=>by
     obtain⟨t,ht⟩:=hx i d hd;obtain⟨k1,k2,k3⟩:=ih i t d ht hd;obtain⟨t',ht'⟩:=hc t d j y k2 hy;obtain⟨c,q1,q2⟩:=(h4 (lo+i) t ht).2 j t' ht';simp only at q1;simp only[q1,aR];exact k3 j t' y ht' hy q2)
   rwa [hl]at this
  exact⟨this,rfl,one this⟩
 | refG h he hi ih =>
  rename_i n s i o els es;have:∀ {c:al},VT g (.ref n s i o) c→VD g.all (.el s es i o) c:=fun {c} hc=>by
   cases hc with | ref _ _ _ _ hn hs0 =>
   by_cases hes:es=[]
   ·subst hes;have:=VD.el (g:=g.all) s [] i o (g.β n).1 0 (fun _ _=>undef) (fun h=>absurd rfl h) (fun i d h=>by simp at h) (fun i d h=>by simp at h) (fun i d h=>by simp at h)
    rwa [aZ]at this
   obtain⟨q0,f,q1,q3,q4,q5⟩:=row (hM n _ h) hs0 hes he ih;have:=VD.el (g:=g.all) s es i o (g.β n).1 0 f (fun _=>hK n _ (hM n _ h) q0) q3 q4 q5
   rwa [aZ]at this
  exact⟨this,rfl,one this⟩
 | agg hl h ih =>
  refine⟨fun {c} hc=>?_,hl,fun j t d h1 h2=>(ih j t d h1 h2).1⟩;cases hc with | agg _ cs hl' h' =>
  refine .agg _ cs (hl.symm.trans hl') fun i d c hd hc=>?_;have hlt:i<_:=(hl.symm▸(gS hd).1);exact(ih i _ d (gE hlt) hd).1 (h' i _ c (gE hlt) hc)
 | tup hl h ih =>
  rename_i l ds;have:∀ {c:al},VT g (.tup l) c→VD g.all (.tup ds) c:=fun {c} hc=>by
   cases hc with | tup _ cs hl' h' =>
   refine .tup _ cs (hl.symm.trans hl') fun i d c hd hc=>?_;have hlt:i<l.length:=(hl.symm▸(gS hd).1);exact(ih i _ d (gE hlt) hd).1 (h' i _ c (gE hlt) hc)
  exact⟨this,rfl,one this⟩
 | mpR h hl hl2 hi ih =>
  rename_i n ks ys vs;have:∀ {c:al},VT g (.mp n) c→VD g.all (.mp ks vs) c:=fun {c} hc=>by
   cases hc with | mp _ hn =>
   have hrow:=hg.rows n _ (hM n _ h);rcases hrow with⟨_,_,h3⟩ | ⟨h1,_⟩ | ⟨_,h2,es,clock,h3,h4,h5⟩
   ·exact absurd rfl h3
   ·exact absurd rfl h1
   have hsz:es.size=ks.length:=by rw[h4];simp[← hl]
   have get:∀ i,i<ks.length→∃ k y e,ks[i]?=some k∧ys[i]?=some y∧es[i]?=some e∧e.key=k∧VT g y e.val:=fun i hi=>by
    have k1:ks[i]?=some ks[i]:=gE hi;have hi2:i<ys.length:=by omega
    have k2:ys[i]?=some ys[i]:=gE hi2;obtain⟨k,y,e,q1,q2,q3,q4⟩:=h5 i (.agg [.d (.v ks[i]),ys[i]]) (by
     have k3:(ks.zip ys)[i]?=some (ks[i],ys[i]):=List.getElem?_zip_eq_some.2 ⟨k1,k2⟩;rw[gM,k3];rfl)
    simp only[T.agg.injEq,de,T.d.injEq,D.v.injEq,and_true]at q1;obtain⟨rfl,rfl⟩:=q1;exact⟨_,_,e,k1,k2,q2,q3,q4⟩
   refine .mp ks vs _ es clock (hK n _ (hM n _ h) oM) h3 hsz.symm oM (fun i k e k1 k2=>?_) (fun i d e k1 k2=>?_)
   ·obtain⟨k',y,e',q1,q2,q3,q4,_⟩:=get i (gS k1).1;rw[k1]at q1;injection q1 with q1
    rw[k2]at q3;injection q3 with q3
    rw[q1,q3];exact q4
   ·obtain⟨k',y,e',q1,q2,q3,_,q5⟩:=get i (by have:=(gS k1).1;omega);rw[k2]at q3;injection q3 with q3
    rw[q3];exact(ih i y d q2 k1).1 q5
  exact⟨this,rfl,one this⟩
 | nilA =>
  rename_i s;have:∀ {c:al},VT g (.d (.v (.slice none 0 0))) c→VD g.all (.arr s []) c:=fun {c} hc=>by
   have:=hc.v_eq;subst this;exact .arr0 s _ _
  exact⟨this,rfl,one this⟩
 | aggD hl h ih =>
  rename_i l ds;refine⟨fun {c} hc=>?_,by simpa[T.cells,D.cells]using hl,fun j t d h1 h2=>?_⟩
  ·cases hc with | d hc =>
   cases hc with | agg _ cs hl' h' =>
   refine .agg _ cs (hl.symm.trans hl') fun i d c hd hc=>?_;have hlt:i<l.length:=(hl.symm▸(gS hd).1);exact(ih i _ d (gE hlt) hd).1 (.d (h' i _ c (gE hlt) hc))
  ·simp only[T.cells,gM,an]at h1;obtain⟨x,hx,rfl⟩:=h1;exact(ih j x d hx h2).1
 | tupD hl h ih =>
  rename_i l ds;have:∀ {c:al},VT g (.d (.tup l)) c→VD g.all (.tup ds) c:=fun {c} hc=>by
   cases hc with | d hc =>
   cases hc with | tup _ cs hl' h' =>
   refine .tup _ cs (hl.symm.trans hl') fun i d c hd hc=>?_;have hlt:i<l.length:=(hl.symm▸(gS hd).1);exact(ih i _ d (gE hlt) hd).1 (.d (h' i _ c (gE hlt) hc))
  exact⟨this,rfl,one this⟩
theorem A9b {g:G} (hg:P6 g) {L:LR} (hM:∀ (n:Nat) (r:Rw),L[n]?=some (some r)→g.M n=some (some r)) {t:T} {d:D} (h:A2m L t d) {c:al} (hc:VT g t c):VD g.all d c:=(B65 hg hM h).1 hc
theorem B2a {g:G} (hg:P6 g) {L:LR} (hM:∀ (n:Nat) (r:Rw),L[n]?=some (some r)→g.M n=some (some r)) {ts:List T} {ds:List D} (h:A5o L ts ds):∀ {cs:List al},VTs g ts cs→VTs g.all (ds.map .d) cs:=by
 induction h with
 | nil=>intro cs hc;have:=hc.1;cases cs with | nil=>exact .nil _ | cons=>simp at this
 | cons h _ ih =>
  intro cs hc;cases cs with
  | nil=>have:=hc.1;simp at this
  | cons c cs=>exact .cons (.d (A9b hg hM h (hc.2 0 _ c rfl rfl))) (ih ⟨by simpa using hc.1,fun i t c ht hc'=>hc.2 (i+1) t c (by simpa using ht) (by simpa using hc')⟩)
theorem C0k {g gc':G} (hg:P6 g) (hg':P6 gc') (hl:Le g.all gc'):P6 ⟨g.M,g.β,fun b=>gc'.K b∧NL g b,gc'.w⟩∧Le g ⟨g.M,g.β,fun b=>gc'.K b∧NL g b,gc'.w⟩:=by
 have hfr:∀ b,b<g.w.heap.size→gc'.w.heap[b]?=g.w.heap[b]?:=fun b hb=>hl.fr b hb fun n r h=>by simp[G.all,ofL]at h
 have hle:Le g ⟨g.M,g.β,fun b=>gc'.K b∧NL g b,gc'.w⟩:=by
  refine⟨fun n h=>⟨h,rfl⟩,hl.size,hl.os,hl.tape,hl.output,fun b hb _=>hfr b hb,fun b hb=>⟨hl.k b (.inl hb),hg.kl b hb⟩,fun b hb hk=>?_,fun n r hn h0 _ hh=>hh n r hn h0 rfl⟩;rcases hl.k' b hb hk.1 with h | h
  ·rcases h with h | h
   ·exact .inl h
   ·exact absurd hk.2 h
  ·exact absurd (fun n r h=>by simp[G.all,ofL]at h) h
 exact⟨⟨fun n r hn=>(hg.rows n r hn).keep hg hle rfl fun h0=>hfr _ ((hg.rows n r hn).lt h0),hg.inj,fun b hb=>hg'.kd b hb.1,fun b hb=>hb.2⟩,hle⟩
section
variable {P:ah} {N:Nat} {ops:Array Oper} {l:List Oper} {ts:LT} {L:LR} {tr:List Stp} {K:List Oper→List Stp→St→Prop} {d:Nat} {ty:ab} {pos:String} {af:Array Edge} {gd:Option (Nat × Bool)}
def A8x (L:LR):List (Nat × Rw):=(dh L.length).filterMap fun n=>match L[n]? with | some (some r)=>some (n,r) | _=>none
theorem A54 {L:LR} {p:Nat × Rw}:p∈A8x L↔L[p.1]?=some (some p.2):=by
 unfold A8x;rw[List.mem_filterMap];constructor
 ·rintro⟨n,hn,h⟩;split at h
  ·rename_i r hr;injection h with h;subst h;exact hr
  ·cases h
 ·intro h;refine⟨p.1,cQ.2 (gS h).1,?_⟩;rw[h]
theorem B8O {o:Oper} {fresh:Nat} {x:aa} {xs:Array aa} {tys:Array ab} {f:bm} {us:List T} {as:List D} {y:D} (hop:o.op = .call { callee := .value x,args:=xs,argTypes:=tys }) (he:Ent P f) (hl:xs.toList.length=us.length) (hc:PC P f as y) (hy:y.plain=true) (hx:A5o L us as) :
  OpS P o ((x,.d (.v (.func (.func f) #[] #[])))::xs.toList.zip us) (A8x L) [] fresh [] (.d y):=by
 intro F nn hF g a hg hi hr _ next Q k
 have hcal:=(hi (x,.d (.v (.func (.func f) #[] #[]))) sM).v_eq;dsimp only at hcal;have hvt:=VTs.of_ins (g:=g) (a:=a) (xs:=xs.toList) (ts:=us) hl (fun p hp=>hi p (by simp[hp]));have hM:∀ (n:Nat) (r:Rw),L[n]?=some (some r)→g.M n=some (some r):=fun n r h=>hr (n,r) (A54.2 h);have hcall:=hc g.all _ (A74 hg) rfl (B2a hg hM hx hvt);refine⟨fun f _=>hF.fn f,?_⟩;rw[Oper.semAt_eq _ _ _ (fun c h=>by rw[hop]at h;cases h)];have hrun:(aT a.eval o).run P g.w = .ok (.enter f (xs.toList.map a.eval).toArray) g.w:=by
  have e:xs.map a.eval=(xs.toList.map a.eval).toArray:=by apply cS;simp
  simp[aT,hop,resolve,hcal,Deferred.ofValue,invoke,he _ _,← e]
 rw[hrun];refine⟨fun h=>(by rw[hF.dep]at h;cases h),hF.calls (hcall.mono ?_)⟩;rintro e w' ⟨gc',se,L',rfl,h1,h2,h3,h4,rfl,rfl⟩;cases e with
 | returned v =>
  have hv:VT gc' (.d y) v:=h4;obtain⟨k1,k2⟩:=C0k hg h1 h2;cases hv with | d hv =>
  exact k ⟨g.M,g.β,fun b=>gc'.K b∧NL g b,gc'.w⟩ v k1 k2 (by rw[B3o]) (.d (hv.plain hy))
 | panicked ch=>exact h4.elim
 | outgrown=>exact h4.elim
theorem A19 {x:aa} {xs:Array aa} {tys:Array ab} {f:bm} {us:List T} {as:List D} {y:D} (hc:PC P f as y) (hy:y.plain=true) (he:Ent P f) (hf:O9 ts x = .d (.v (.func (.func f) #[] #[]))) (hx:xs.toList.map (O9 ts)=us) (hlend:A5o L us as)
  (hw:I2 ops ts ⟨some d,.call { callee := .value x,args:=xs,argTypes:=tys },ty,pos,af,gd⟩=some true) (hd:aq d N=true) (k:L3 P N ops l ⟨(d,.d y)::ts,L⟩ (tr++[.run ((A8x L).map (·.1)) []]) K) :
  L3 P N ops (⟨some d,.call { callee := .value x,args:=xs,argTypes:=tys },ty,pos,af,gd⟩::l) ⟨ts,L⟩ tr K:=by
 refine K0 rfl (B8O (fresh:=L.length) rfl he (by rw[← hx];simp) hc hy hlend) hw ?_ (fun p hp=>A54.1 hp) hd k;intro p hp;rcases ap.1 hp with rfl | hp
 ·exact⟨hf,by simp[ag,aM]⟩
 ·obtain⟨a,b⟩:=A2Z hx p hp;exact⟨a,by simp only[ag,aM,bK];exact .inr (by simpa using b)⟩
theorem A4k {x:aa} {xs:Array aa} {tys:Array ab} {f:bm} {us:List T} {as:List D} {b:Bool} (hc:PC P f as (.v (.bool b))) (he:Ent P f) (hf:O9 ts x = .d (.v (.func (.func f) #[] #[]))) (hx:xs.toList.map (O9 ts)=us) (hlend:A5o L us as)
  (hw:I2 ops ts ⟨some d,.call { callee := .value x,args:=xs,argTypes:=tys },ty,pos,af,gd⟩=some true) (hd:aq d N=true) (kt:b=true→L3 P N ops l ⟨(d,.d (.v (.bool true)))::ts,L⟩ (tr++[.run ((A8x L).map (·.1)) []]) K)
  (kf:b=false→L3 P N ops l ⟨(d,.d (.v (.bool false)))::ts,L⟩ (tr++[.run ((A8x L).map (·.1)) []]) K):L3 P N ops (⟨some d,.call { callee := .value x,args:=xs,argTypes:=tys },ty,pos,af,gd⟩::l) ⟨ts,L⟩ tr K:=by
 cases b with
 | true=>exact A19 hc rfl he hf hx hlend hw hd (kt rfl)
 | false=>exact A19 hc rfl he hf hx hlend hw hd (kf rfl)
end
inductive Fzr (n s:Nat) (es:List D):T→T→Prop where
 | same (t:T):Fzr n s es t t
 | all {len:Nat} (h:es.length=len):Fzr n s es (.row n s 0 len) (.d (.arr s es))
 | part {lo len:Nat} (h:lo+len≤es.length):Fzr n s es (.row n s lo len) (.d (.arr s ((es.drop lo).take len)))
 | ref {i o:Nat}:Fzr n s es (.ref n s i o) (.d (.el s es i o))
 | fn {f:Fn} {l m l' m':List T} (hl:l.length=l'.length) (hm:m.length=m'.length) (h:∀ (i:Nat) (x y:T),l[i]?=some x→l'[i]?=some y→Fzr n s es x y) (k:∀ (i:Nat) (x y:T),m[i]?=some x→m'[i]?=some y→Fzr n s es x y):Fzr n s es (.fn f l m) (.fn f l' m')
 | agg {l m:List T} {u:T} (hl:l.length=m.length) (h:∀ (i:Nat) (x y:T),l[i]?=some x→m[i]?=some y→Fzr n s es x y) (hu:mkAgg m=u):Fzr n s es (.agg l) u
 | tup {l m:List T} {u:T} (hl:l.length=m.length) (h:∀ (i:Nat) (x y:T),l[i]?=some x→m[i]?=some y→Fzr n s es x y) (hu:mkTup m=u):Fzr n s es (.tup l) u
def G.freeze (g:G) (n:Nat):G:=⟨fun k=>if k=n then some none else g.M k,g.β,fun b=>g.K b∨(b=(g.β n).1∧(g.β n).2≠0),g.w⟩
theorem B1K {g:G} (hg:P6 g) {n:Nat} {r:Rw} (hn:g.M n=some (some r)) (n0:Nat):P6 (g.freeze n)∧LeN n0 g (g.freeze n)∧∀ t c,VT g t c→VT (g.freeze n) t c:=by
 have live:∀ k q,(g.freeze n).M k=some (some q)→k≠n∧g.M k=some (some q):=fun k q h=>by
  by_cases hk:k=n
  ·subst hk;simp[G.freeze]at h
  ·exact⟨hk,by simpa[G.freeze,hk]using h⟩
 have hE:∀ k,g.M k≠none→(g.freeze n).M k≠none∧(g.freeze n).β k=g.β k:=fun k hk=>⟨by
  by_cases h:k=n
  ·subst h;simp[G.freeze]
  ·simpa[G.freeze,h]using hk,rfl⟩
 have hV:∀ t c,VT g t c→VT (g.freeze n) t c:=fun t c h=>by
  induction h with
  | d h=>exact .d (VD.same (g:=g) (g':=g.freeze n) rfl (fun _ hb=>fp hb) h)
  | bot c=>exact .bot c
  | ref m s i o hn hs=>exact .ref (g:=g.freeze n) m s i o (hE m hn).1 hs
  | row m s lo len a hn hs hle ha=>exact .row (g:=g.freeze n) m s lo len a (hE m hn).1 hs hle ha
  | mp m hn=>exact .mp (g:=g.freeze n) m (hE m hn).1
  | agg l cs hl h ih=>exact .agg l cs hl ih
  | tup l cs hl h ih=>exact .tup l cs hl ih
  | fn f l m cs ds hl h hm k ih ik=>exact .fn f l m cs ds hl ih hm ik
  | iface t x c h ih=>exact .iface t x c ih
 refine⟨⟨fun k q hk=>?_,fun k m q q' h1 h2 hk0 hm0 he=>hg.inj k m q q' (live k q h1).2 (live m q' h2).2 hk0 hm0 he,fun b hb=>?_,fun b hb k q hk hk0=>?_⟩,⟨fun k _ hk=>hE k hk,aw _,rfl,rfl,rfl,fun _ _ _=>rfl,fun _ hb=>fp hb,fun b _ hb=>?_,fun k q hk hk0 _ hh=>hh k q (live k q hk).2 hk0 rfl⟩,hV⟩
 ·exact(hg.rows k q (live k q hk).2).rel rfl rfl (fun _=>rfl) rfl (fun x x'=>x=x') (fun i x x' h1 h2=>by rw[h1]at h2;injection h2) (fun x x' h=>by subst h;exact⟨rfl,fun j y y' h1 h2=>by rw[h1]at h2;injection h2⟩) (fun k y x' h=>⟨y,h.symm,rfl⟩) (fun t t' c h hv=>h▸hV t c hv)
 ·rcases hb with hb | ⟨hb,h0⟩
  ·exact hg.kd b hb
  ·subst hb;exact(hg.rows n r hn).lt h0
 ·obtain⟨hkn,hk'⟩:=live k q hk;rcases hb with hb | ⟨hb,h0⟩
  ·exact hg.kl b hb k q hk' hk0
  ·subst hb;exact fun e=>hkn (hg.inj k n q r hk' hn hk0 h0 e)
 ·rcases hb with hb | ⟨hb,h0⟩
  ·exact .inl hb
  ·subst hb;exact .inr fun hh=>hh n r hn h0 rfl
theorem C1c {g:G} (hg:P6 g) {n s:Nat} {es:List D} (hn:g.M n=some (some ⟨s,es.map .d⟩)) {t u:T} (h:Fzr n s es t u):∀ {c:al},VT g t c→VT (g.freeze n) u c:=by
 obtain⟨_,_,hV⟩:=B1K hg hn 0;have whole:∀ len,es.length=len→∀ {c:al},VT g (.row n s 0 len) c→VD (g.freeze n) (.arr s es) c:=fun len hl c hc=>by
  have h1:A2m [] (.d (.arr s es)) (.arr s es) := .d _;cases hc with | row _ _ _ _ a0 hne hs0 hcap ha =>
  by_cases hes:es=[]
  ·subst hes;subst hl;exact .arr0 s _ _
  have hpos:0<es.length:=cp.2 hes;have hx0:(es.map T.d)[0]?=some (T.d es[0]):=by rw[gM,gE hpos];rfl
  obtain⟨q0,cells,e,k1,k2,k3,k4⟩:=(hg.rows n _ hn).has hs0 hx0;have ha:=ha q0;subst ha;have hdc:∀ x:D,(T.d x).cells=x.cells.map .d:=fun x=>by cases x<;>rfl
  have hx:∀ (i:Nat) (x:D),es[i]?=some x→(es.map T.d)[i]?=some (.d x):=fun i x hx=>by rw[gM,hx];rfl
  have:=VD.arr (g:=g.freeze n) s es (g.β n).1 0 ((g.β n).2-0) (fun i j=>(cells[i*s+j]?).getD undef) oM (Or.inr ⟨rfl,q0⟩) (fun i x hx'=>by
    have:=(k4 i (.d x) (hx i x hx')).1
    rwa [hdc,aS]at this)
   (fun i x hx' j y hy=>by
    obtain⟨c,k5,_⟩:=(k4 i (.d x) (hx i x hx')).2 j (.d y) (by rw[hdc,gM,hy];rfl);show g.w.cell? _=_;simp[World.cell?,k1,k5])
   (fun i x hx' j y hy=>by
    obtain⟨c,k5,k6⟩:=(k4 i (.d x) (hx i x hx')).2 j (.d y) (by rw[hdc,gM,hy];rfl);rw[k5,aR];cases hV _ _ k6 with | d k6=>exact k6)
  rw[da];rw[hl]at this;exact this
 induction h with
 | same t=>intro c hc;exact hV t c hc
 | ref =>
  rename_i i o;intro c hc;cases hc with | ref _ _ _ _ hne hs0 =>
  by_cases hes:es=[]
  ·subst hes;have:=VD.el (g:=g.freeze n) s [] i o (g.β n).1 0 (fun _ _=>undef) (fun h=>absurd rfl h) (fun i d h=>by simp at h) (fun i d h=>by simp at h) (fun i d h=>by simp at h);rw[aZ]at this;exact .d this
  have hle:=(hg.rows n _ hn).le hs0;rw[aS]at hle;have h1:=whole es.length rfl (VT.row n s 0 es.length _ hne hs0 (by simpa using hle) (fun _=>rfl));rw[da]at h1;cases h1 with
  | arr0 _ _ _=>exact absurd rfl hes
  | arr _ _ _ _ _ f h1 h2 h3 h4 h5 =>
   have:=VD.el (g:=g.freeze n) s es i o (g.β n).1 0 f (fun _=>h2) h3 h4 h5;rw[aZ]at this;exact .d this
 | fn hl hm h k ih ik =>
  intro c hc;cases hc with | fn _ _ _ cs ds e1 e2 e3 e4 =>
  refine .fn _ _ _ cs ds (hl▸e1) (fun i y c hy hc=>?_) (hm▸e3) fun i y c hy hc=>?_
  ·have hlt:i<_:=(hl.symm▸(gS hy).1);exact ih i _ y (gE hlt) hy (e2 i _ c (gE hlt) hc)
  ·have hlt:i<_:=(hm.symm▸(gS hy).1);exact ik i _ y (gE hlt) hy (e4 i _ c (gE hlt) hc)
 | all hl=>intro c hc;exact .d (whole _ hl hc)
 | part hle =>
  rename_i lo len;intro c hc;have hc':=hc;cases hc with | row _ _ _ _ a0 hne hs0 hcap ha =>
  by_cases h0:len=0
  ·subst h0;rw[List.take_zero];exact .d (.arr0 s _ _)
  have q0:(g.β n).2≠0:=by omega
  have ha:=ha q0;subst ha;have hle2:=(hg.rows n _ hn).le hs0;rw[aS]at hle2;have h1:=whole es.length rfl (VT.row n s 0 es.length _ hne hs0 (by simpa using hle2) (fun _=>rfl));have h2:=(h1.cut (lo:=lo) (hi:=lo+len) oM hle).2;rw[Nat.add_sub_cancel_left]at h2;have:¬ (g.β n).2-0=lo:=by omega
  rw[if_neg this,bh,A5y]at h2;simp only[da,aZ,aP]at h2;exact .d h2
 | agg hl h hu ih =>
  intro c hc;cases hc with | agg _ cs hl' h' =>
  rw[← hu]
  have:=VT.mkAgg (g:=g.freeze n) (l:=_) (cs:=cs.toList) ⟨by rw[← hl];simpa using hl',fun i y c hy hc=>by
   have hlt:i<_:=(hl.symm▸(gS hy).1);exact ih i _ y (gE hlt) hy (h' i _ c (gE hlt) (by simpa using hc))⟩
  simpa using this
 | tup hl h hu ih =>
  intro c hc;cases hc with | tup _ cs hl' h' =>
  rw[← hu]
  have:=VT.mkTup (g:=g.freeze n) (l:=_) (cs:=cs.toList) ⟨by rw[← hl];simpa using hl',fun i y c hy hc=>by
   have hlt:i<_:=(hl.symm▸(gS hy).1);exact ih i _ y (gE hlt) hy (h' i _ c (gE hlt) (by simpa using hc))⟩
  simpa using this
theorem SW.freeze {P:ah} {n0 N:Nat} {df:List bp} {Q:SX→St→Prop} {c:Code} {st st':St} {n s:Nat} {es:List D} (hr:st.L[n]?=some (some ⟨s,es.map .d⟩)) (hts:∀ p∈st'.ts,Fzr n s es (W8 st.ts p.1) p.2) (hL:st.L.set n none=st'.L) (h:SW P n0 N df c Q st'):SW P n0 N df c Q st:=fun F nn hF g a hR=>by
 have hn:g.M n=some (some ⟨s,es.map .d⟩):=by rw[hR.M];exact hr
 obtain⟨h1,h2,h3⟩:=B1K hR.good hn n0;have hR':StR (g.freeze n) N st' a df:=by
  refine⟨h1,?_,hR.size,fun i=>?_,hR.df⟩
  ·funext k;have hlt:=(gS hr).1;show(if k=n then some none else g.M k)=_;unfold ofL;rw[← hL];by_cases hk:k=n
   ·subst hk;simp[hlt]
   ·rw[if_neg hk,dp (fun e=>hk e.symm),hR.M];rfl
  ·rcases B0P (ts:=st'.ts) (i:=i)with k1 | k1
   ·rw[k1];exact .bot _
   ·exact C1c hR.good hn (hts _ k1) (hR.ts i)
 exact aW (h F nn hF (g.freeze n) a hR') fun _ _ _ ⟨g',sx,st'',k1,k2,k3,k4,k5⟩=>⟨g',sx,st'',k1,h2.trans k2,k3,k4,k5⟩
theorem J1 {P:ah} {n0 N:Nat} {df:List bp} {Q:SX→St→Prop} {st:St} {id:Nat} {l:List Oper} (h:L3 P N l.toArray l st [] (B7w (Q .norm))):SW P n0 N df (.region id l.toArray false) Q st:=B6R h
theorem T1 {P:ah} {n0 N:Nat} {df:List bp} {Q:SX→St→Prop} {st:St} {id:Nat} {l:List Oper} (hm:P.follows .mixedOrders=true) (h:L3 P N l.toArray l st [] (B9E l.toArray (Q .norm))):SW P n0 N df (.region id l.toArray true) Q st:=B9n hm h
theorem Y9 {P:ah} {N:Nat} {K:St→Prop} {ops:Array Oper} {tr:List Stp} {st:St} (h:K st):L3 P N ops [] st tr (B7w K):=A32 ⟨rfl,h⟩
theorem I0 {P:ah} {N:Nat} {K:St→Prop} {ops:Array Oper} {tr:List Stp} {st:St} (ho:B0s ops tr=true) (h:K st):L3 P N ops [] st tr (B9E ops K):=A32 ⟨rfl,ho,h⟩
inductive TsD (ts:LT):LT→Prop where
 | nil:TsD ts []
 | cons {i:Nat} {y:D} {r:LT} (h:W8 ts i = .d y) (k:TsD ts r):TsD ts ((i,.d y)::r)
def vI (x:Int):D := .v (.int .i64 x)
def vB (x:Bool):D := .v (.bool x)
def vS (x:ByteArray):D := .v (.string x)
def v8 (x:Int):D := .v (.int .u8 x)
def W (x:Int):Int:=IntKind.i64.wrap x
def P3 {α:Type} (l:List α) (i:Int):Option α:=if 0≤i then l[i.toNat]? else none
theorem F0 {α:Type} {l:List α} {i:Int} {e:α} (h:P3 l i=some e):0≤i:=by
 unfold P3 at h;split at h
 ·assumption
 ·cases h
theorem U5 {α β:Type} {l:List α} {i:Int} {e:α} {g:α→β} (h:P3 l i=some e):(l.map g)[i.toNat]?=some (g e):=by
 have:=F0 h;unfold P3 at h;rw[if_pos this]at h;rw[gM,h];rfl
theorem ix1 {α:Type} {l:List α} {i:Int} {e:α} (h:P3 l i=some e):i<l.length:=by
 have h0:=F0 h;unfold P3 at h;rw[if_pos h0]at h;have:=(gS h).1;omega
theorem V1 {α β:Type} {l:List α} {i:Int} {e:α} {g:α→β} (h:P3 l i=some e):i<(l.map g).length:=by
 rw[aS];exact ix1 h
def A8i {α:Type} (l m:List α):Option (List α):=if l.length+m.length≤1000000000 then some (l++m)else none
theorem B95 {α:Type} {l m q:List α} (h:A8i l m=some q):l.length+m.length≤1000000000∧q=l++m:=by
 unfold A8i at h;split at h
 ·injection h with h;exact⟨by assumption,h.symm⟩
 ·cases h
def A5g {α:Type} (l:List α) (i:Int) (a:α):Option (List α):=some (l.set i.toNat a)
theorem B8i {α:Type} {l q:List α} {i:Int} {a:α} (h:A5g l i a=some q):q=l.set i.toNat a:=(Option.some.inj h).symm
theorem A2a {α:Type} {l q:List α} {i:Int} {a:α} (h:A5g l i a=some q):l.length=q.length:=by rw[B8i h,List.length_set]
def ixB (b:ByteArray) (i:Int):Option Int:=if 0≤i then(b[i.toNat]?).map (fun c=>(c.toNat:Int))else none
def A7A {α:Type} (l:List α) (lo hi:Int):Option (List α):=if 0≤lo∧lo≤hi∧hi≤l.length then some ((l.drop lo.toNat).take (hi.toNat-lo.toNat))else none
def SCR (P:ah) (f:bm) (as:List T) (L:LR) (r:T) (L':LR):Prop:=SC P f as L fun se X=>se = .ret r∧X=L'
theorem B5I {g0 g:G} (h0:∀ n,g0.M n=none) (hl:Le g0 g):Le g0 g.all:=by
 refine⟨fun n hn=>absurd (h0 n) hn,hl.size,hl.os,hl.tape,hl.output,hl.fr,fun b hb => .inl (hl.k b hb),fun b hb hk=>?_,fun n r h=>by simp[G.all,ofL]at h⟩;rcases hk with h | h
 ·exact hl.k' b hb h
 ·refine .inr fun hn=>h fun n r hr hc he=>?_;exact hl.nl n r hr hc (by rw[he];exact hb) (fun m q hm=>by rw[h0]at hm;cases hm)
theorem SCR.toPC {P:ah} {f:bm} {as:List D} {t:T} {L:LR} {y:D} (h:SCR P f (as.map .d) [] t L) (hl:A2m L t y):PC P f as y:=fun g vs hg hM hv=>by
 refine(h g vs hg hM hv).mono ?_;rintro e w' ⟨g',se,L',rfl,h1,h2,h3,h4,rfl,rfl⟩;cases e with
 | returned v =>
  have hv:VT g' t v:=h4;have:=A9b h1 (L:=L') (fun n r hr=>by rw[h3];exact hr) hl hv;exact⟨g'.all,.ret (.d y),[],rfl,A74 h1,B5I (fun n=>by rw[hM];rfl) h2,rfl,.d this,rfl,rfl⟩
 | panicked ch=>exact h4.elim
 | outgrown=>exact h4.elim
theorem A5o.get {L:LR} {ts:List T} {ds:List D} (h:A5o L ts ds):ts.length=ds.length∧∀ (i:Nat) (t:T) (d:D),ts[i]?=some t→ds[i]?=some d→A2m L t d:=by
 induction h with
 | nil=>exact⟨rfl,fun i t d h=>by simp at h⟩
 | cons h _ ih =>
  refine⟨by simp[ih.1],fun i t d h1 h2=>?_⟩;cases i with
  | zero=>simp at h1 h2;subst h1;subst h2;exact h
  | succ i=>exact ih.2 i t d (by simpa using h1) (by simpa using h2)
theorem A2m.aggL {L:LR} {ts:List T} {ds:List D} (h:A5o L ts ds):A2m L (.agg ts) (.agg ds) := .agg h.get.1 h.get.2
theorem A2m.tupL {L:LR} {ts:List T} {ds:List D} (h:A5o L ts ds):A2m L (.tup ts) (.tup ds) := .tup h.get.1 h.get.2
theorem A2m.aggDL {L:LR} {ts:List D} {ds:List D} (h:A5o L (ts.map .d) ds):A2m L (.d (.agg ts)) (.agg ds) := .aggD (by simpa using h.get.1) fun i t d h1 h2=>h.get.2 i _ d (by simp[h1]) h2
theorem A2m.tupDL {L:LR} {ts:List D} {ds:List D} (h:A5o L (ts.map .d) ds):A2m L (.d (.tup ts)) (.tup ds) := .tupD (by simpa using h.get.1) fun i t d h1 h2=>h.get.2 i _ d (by simp[h1]) h2
theorem A2m.rowL {L:LR} {n s len:Nat} {els:List T} {es:List D} (h:L[n]?=some (some ⟨s,els⟩)) (hl:es.length=len) (k:A5o L els es):A2m L (.row n s 0 len) (.arr s es) := .rowG h hl k.get.1 k.get.2
inductive RwK (L:LR) (κ:List Nat):LR→List Nat→Prop where
 | nil:RwK L κ [] []
 | gone {k:Nat} {l:LR} {m:List Nat} (h:(L[k]?).isSome=true) (q:RwK L κ l m):RwK L κ (none::l) (k::m)
 | cons {k:Nat} {r:Rw} {l:LR} {m:List Nat} (h:L[k]?=some (some (r.ren (kap κ)))) (hs:r.sc κ.length=true) (q:RwK L κ l m):RwK L κ (some r::l) (k::m)
 | map {α:Type} {k:Nat} {w:List α} {kf:α→al} {vf:α→D} {l:LR} {m:List Nat} (h:L[k]?=some (some ⟨0,w.map fun p => .agg [.d (.v (kf p)),.d (vf p)]⟩)) (q:RwK L κ l m):RwK L κ (some ⟨0,w.map fun p => .agg [.d (.v (kf p)),.d (vf p)]⟩::l) (k::m)
 | row {α:Type} {k s:Nat} {w:List α} {f:α→D} {l:LR} {m:List Nat} (h:L[k]?=some (some ⟨s,w.map fun a => .d (f a)⟩)) (q:RwK L κ l m):RwK L κ (some ⟨s,w.map fun a => .d (f a)⟩::l) (k::m)
inductive TsK (ts:LT) (κ:List Nat):LT→Prop where
 | nil:TsK ts κ []
 | cons {i:Nat} {t:T} {r:LT} (h:W8 ts i=t.ren (kap κ)) (hc:t.sc κ.length=true) (q:TsK ts κ r):TsK ts κ ((i,t)::r)
 | hof {i:Nat} {f:Fn} {c:List D} {r:LT} (h:W8 ts i = .fn f [] (c.map .d)) (q:TsK ts κ r):TsK ts κ ((i,.fn f [] (c.map .d))::r)
def ndK:List Nat→Bool
 | []=>true
 | n::l=>!l.any (aJ n)&&ndK l
theorem B0V:∀ {l:List Nat},ndK l=true→l.Nodup
 | [],_=>by simp
 | n::l,h=>by
  simp only[ndK,aF,Bool.not_eq_true']at h;refine List.nodup_cons.2 ⟨fun hm=>?_,B0V h.2⟩;have:=List.any_eq_false.1 h.1 n hm;simp at this
def B33 (n0:Nat) (κ:List Nat):Bool:=(dh n0).all fun n=>aq n κ.length&&aJ (kap κ n) n
theorem A7Z {α:Type} {w:List α} {f:α→D} (ρ:Nat→Nat):(w.map fun a=>T.d (f a)).map (T.ren ρ)=w.map fun a=>T.d (f a):=by
 rw[ck];rfl
theorem B5Z {α:Type} {k s:Nat} {w:List α} {f:α→D}:(⟨s,w.map fun a => .d (f a)⟩:Rw).sc k=true:=by
 unfold Rw.sc;simp[dC,T.sc]
theorem A9G {α:Type} {w:List α} {kf:α→al} {vf:α→D} (ρ:Nat→Nat):(w.map fun p=>T.agg [.d (.v (kf p)),.d (vf p)]).map (T.ren ρ)=w.map fun p=>T.agg [.d (.v (kf p)),.d (vf p)]:=by
 rw[ck];rfl
theorem B6a {α:Type} {k:Nat} {w:List α} {kf:α→al} {vf:α→D}:(⟨0,w.map fun p=>T.agg [.d (.v (kf p)),.d (vf p)]⟩:Rw).sc k=true:=by
 unfold Rw.sc;simp[dC,T.sc,scL]
theorem vwK {n0:Nat} {ts ts':LT} {L L':LR} {κ:List Nat} (hnd:ndK κ=true) (hb:B33 n0 κ=true) (hr:RwK L κ L' κ) (hts:TsK ts κ ts'):Vw n0 ⟨ts,L⟩ ⟨ts',L'⟩ κ:=by
 have hlen:∀ {l:LR} {m:List Nat},RwK L κ l m→l.length=m.length:=fun h=>by
  induction h with
  | nil=>rfl
  | gone _ _ ih=>simp[ih]
  | cons _ _ _ ih=>simp[ih]
  | row _ _ ih=>simp[ih]
  | map _ _ ih=>simp[ih]
 refine⟨B0V hnd,hlen hr,?_,?_,fun n h1 _=>?_⟩
 ·have key:∀ {l:LR} {m:List Nat},RwK L κ l m→∀ k,(∀ j q,m[j]?=some q→kap κ (k+j)=q)→B4t L κ l k:=fun h=>by
   induction h with
   | nil=>intro k _;trivial
   | gone h _ ih =>
    intro k hk;obtain⟨o,ho⟩:=Option.isSome_iff_exists.1 h;have h0:=hk 0 _ rfl;rw[bj]at h0;exact⟨⟨o,by rw[h0];exact ho,fun r hr=>by cases hr⟩,ih (k+1) fun j q hq=>by have:=hk (j+1) q (by simpa using hq);rwa [show k+(j+1)=k+1+j by omega]at this⟩
   | cons h hs _ ih =>
    intro k hk;have h0:=hk 0 _ rfl;rw[bj]at h0;exact⟨⟨_,by rw[h0];exact h,fun r hr=>by injection hr with hr;subst hr;exact⟨rfl,hs⟩⟩,ih (k+1) fun j q hq=>by have:=hk (j+1) q (by simpa using hq);rwa [show k+(j+1)=k+1+j by omega]at this⟩
   | row h _ ih =>
    intro k hk;have h0:=hk 0 _ rfl;rw[bj]at h0;refine⟨⟨_,by rw[h0];exact h,fun r hr=>?_⟩,ih (k+1) fun j q hq=>by have:=hk (j+1) q (by simpa using hq);rwa [show k+(j+1)=k+1+j by omega]at this⟩;injection hr with hr
    subst hr;refine⟨?_,B5Z⟩;unfold Rw.ren;rw[A7Z]
   | map h _ ih =>
    intro k hk;have h0:=hk 0 _ rfl;rw[bj]at h0;refine⟨⟨_,by rw[h0];exact h,fun r hr=>?_⟩,ih (k+1) fun j q hq=>by have:=hk (j+1) q (by simpa using hq);rwa [show k+(j+1)=k+1+j by omega]at this⟩;injection hr with hr
    subst hr;refine⟨?_,B6a⟩;unfold Rw.ren;rw[A9G]
  refine key hr 0 fun j q hq=>?_;unfold kap;rw[aZ,am,hq];rfl
 ·intro p hp;dsimp only at hp ⊢;induction hts with
  | nil=>cases hp
  | cons h hc _ ih =>
   rcases ap.1 hp with rfl | hp
   ·exact⟨h.symm,hc⟩
   ·exact ih hp
  | hof h _ ih =>
   rcases ap.1 hp with rfl | hp
   ·refine⟨?_,by simp[T.sc,A3m,scL]⟩;rw[h];simp only[T.ren,A1Z,List.map_nil,ck];rfl
   ·exact ih hp
 ·unfold B33 at hb;have:=ax.1 hb n (cQ.2 h1);simp only[aF,bG]at this;exact⟨this.1,aA this.2⟩
theorem U0 {P:ah} {fn:Func} {n0:Nat} {rs:List ResultVar} {us:List T} {st:St} {R:SE→LR→Prop} {t:T} {L:LR} {κ:List Nat} (hres:fn.results.toList=rs) (h:A8t P st rs us) (hv:Vw n0 ⟨[(0,B51 us)],st.L⟩ ⟨[(0,t)],L⟩ κ) (hR:R (.ret t) L):Fin P fn n0 R .ret st:=⟨us,κ,t,L,hres▸h,hv,hR⟩
theorem A6F {P:ah} {st:St} {a:Nat} {t:ab} {i:TI} {n s k c:Nat} {r:Rw} {e u:T} (tb:Tab P) (ht:tb.f t=some i) (h:W8 st.ts a = .ref n s k c) (hr:st.L[n]?=some (some r)) (hs:r.s=s) (he:r.els[k]?=some e) (hp:A2S i e.cells.length c=true) (hu:A29 i e.cells c=u):B7g P st (.cell a t) u :=
 hu ▸ .cell (tb.ok _ _ ht) h hr hs he hp
inductive A6w (m s:Nat):T→T→Prop where
 | same (t:T):A6w m s t t
 | nil:A6w m s (.d (.v (.slice none 0 0))) (.row m s 0 0)
 | agg {l l':List T} (hl:l.length=l'.length) (h:∀ (i:Nat) (x y:T),l[i]?=some x→l'[i]?=some y→A6w m s x y):A6w m s (.agg l) (.agg l')
 | aggD {l:List D} {l':List T} (hl:l.length=l'.length) (h:∀ (i:Nat) (x:D) (y:T),l[i]?=some x→l'[i]?=some y→A6w m s (.d x) y):A6w m s (.d (.agg l)) (.agg l')
inductive A8H (m s:Nat):List T→List T→Prop where
 | nil:A8H m s [] []
 | cons {t u:T} {ts us:List T} (h:A6w m s t u) (k:A8H m s ts us):A8H m s (t::ts) (u::us)
theorem A8H.get {m s:Nat} {ts us:List T} (h:A8H m s ts us):ts.length=us.length∧∀ (i:Nat) (x y:T),ts[i]?=some x→us[i]?=some y→A6w m s x y:=by
 induction h with
 | nil=>exact⟨rfl,fun i x y h=>by simp at h⟩
 | cons h _ ih =>
  refine⟨by simp[ih.1],fun i x y h1 h2=>?_⟩;cases i with
  | zero=>simp at h1 h2;subst h1;subst h2;exact h
  | succ i=>exact ih.2 i x y (by simpa using h1) (by simpa using h2)
theorem A6w.aggL {m s:Nat} {ts us:List T} (h:A8H m s ts us):A6w m s (.agg ts) (.agg us) := .agg h.get.1 h.get.2
theorem A6w.aggDL {m s:Nat} {ds:List D} {us:List T} (h:A8H m s (ds.map .d) us):A6w m s (.d (.agg ds)) (.agg us) := .aggD (by simpa using h.get.1) fun i x y h1 h2=>h.get.2 i _ y (by simp[h1]) h2
theorem A6w.cells {m s:Nat} {t u:T} (h:A6w m s t u):t.cells.length=u.cells.length∧∀ (j:Nat) (x y:T),t.cells[j]?=some x→u.cells[j]?=some y→A6w m s x y:=by
 have one:∀ {t u:T},A6w m s t u→∀ (j:Nat) (x y:T),[t][j]?=some x→[u][j]?=some y→A6w m s x y:=fun {t u} h j x y h1 h2=>by
  cases j with
  | zero=>simp at h1 h2;subst h1;subst h2;exact h
  | succ j=>simp at h1
 cases h with
 | same t=>exact⟨rfl,fun j x y h1 h2=>by rw[h1]at h2;injection h2 with h2;exact h2 ▸ .same _⟩
 | nil=>exact⟨rfl,one .nil⟩
 | agg hl h=>exact⟨hl,h⟩
 | aggD hl h =>
  refine⟨by simpa[T.cells]using hl,fun j x y h1 h2=>?_⟩;simp only[T.cells,gM,an]at h1;obtain⟨d,hd,rfl⟩:=h1;exact h j d y hd h2
inductive A92 (m s:Nat):LR→LR→Prop where
 | nil:A92 m s [] []
 | same {o:Option Rw} {l l':LR} (k:A92 m s l l'):A92 m s (o::l) (o::l')
 | cons {c:Nat} {els els':List T} {l l':LR} (hc:aJ c 0=false) (h:A8H m s els els') (k:A92 m s l l'):A92 m s (some ⟨c,els⟩::l) (some ⟨c,els'⟩::l')
theorem A92.get {m s:Nat} {L L':LR} (h:A92 m s L L'):L.length=L'.length∧∀ (n:Nat) (o:Option Rw),L'[n]?=some o→∃ o',L[n]?=some o'∧(o=none→o'=none) ∧
  ∀ r,o=some r→∃ r',o'=some r'∧(r=r'∨(r.s=r'.s∧r.s≠0∧A8H m s r'.els r.els)):=by
 induction h with
 | nil=>exact⟨rfl,fun n o h=>by simp at h⟩
 | same k ih =>
  refine⟨by simp[ih.1],fun n o h=>?_⟩;cases n with
  | zero=>simp at h;subst h;exact⟨_,rfl,id,fun r hr=>⟨r,hr,.inl rfl⟩⟩
  | succ n=>exact ih.2 n o (by simpa using h)
 | cons hc h k ih =>
  refine⟨by simp[ih.1],fun n o ho=>?_⟩;cases n with
  | zero =>
   simp at ho;subst ho;refine⟨_,rfl,(by intro h;cases h),fun r hr=>?_⟩;injection hr with hr
   subst hr;exact⟨_,rfl,.inr ⟨rfl,ba hc,h⟩⟩
  | succ n=>exact ih.2 n o (by simpa using ho)
inductive B21 (m s:Nat) (ts:LT):LT→Prop where
 | nil:B21 m s ts []
 | cons {i:Nat} {t:T} {r:LT} (h:A6w m s (W8 ts i) t) (k:B21 m s ts r):B21 m s ts ((i,t)::r)
theorem A9g (n0:Nat) {N:Nat} {ts ts':LT} {L L':LR} (s:Nat) (hs:aJ s 0=false) {m:Nat} {nr:List Nat} (hm:A4f.drop L.length=m::nr) (hts:B21 m s ts ts') (hL:A92 m s L L') {g:G} {a:Act} {df:List bp} (hR:StR g N ⟨ts,L⟩ a df):∃ g',g'.w=g.w∧LeN n0 g g'∧StR g' N ⟨ts',L'++[some ⟨s,[]⟩]⟩ a df:=by
 have e0:=A21 hm;obtain⟨hlen,hrow⟩:=hL.get;have hM:g.M=ofL L:=hR.M;obtain⟨g',hg'⟩:∃ g':G,g'=⟨ofL (L'++[some ⟨s,[]⟩]),fun n=>if n=m then(0,0)else g.β n,g.K,g.w⟩:=⟨_,rfl⟩;have hMm:g.M m=none:=by rw[hM,← e0];simp[ofL]
 have hw:g'.w=g.w:=by rw[hg']
 have hK:g'.K=g.K:=by rw[hg']
 have hβ:∀ n,n≠m→g'.β n=g.β n:=fun n hn=>by rw[hg'];simp[hn]
 have hβm:g'.β m=(0,0):=by rw[hg'];simp
 have hM':∀ n,n≠m→g'.M n=L'[n]?:=fun n hn=>by
  rw[hg'];show(L'++[some ⟨s,[]⟩])[n]?=_;rcases bX n L'.length with h1 | h1
  ·rw[aC h1]
  ·rw[aG h1,aD (by simp;omega),aD h1]
 have hMm':g'.M m=some (some ⟨s,[]⟩):=by rw[hg'];show(L'++[some ⟨s,[]⟩])[m]?=_;rw[← e0,hlen];simp
 have hne:∀ n,g.M n≠none→n≠m∧g'.M n≠none∧g'.β n=g.β n:=fun n hn=>by
  have h1:n≠m:=fun e=>hn (e▸hMm);refine⟨h1,?_,hβ n h1⟩;rw[hM' n h1];rw[hM]at hn;simp only[ofL,ne_eq,aQ,cD]at hn ⊢;omega
 have hV0:∀ t c,VT g t c→VT g' t c:=fun t c hv=>by
  induction hv with
  | d h=>exact .d (VD.same hw (fun b hb=>by rw[hK];exact hb) h)
  | bot c=>exact .bot c
  | ref n q i o hn hq=>obtain⟨_,h2,h3⟩:=hne n hn;rw[← h3];exact .ref n q i o h2 hq
  | row n q lo len a hn hq hle ha=>obtain⟨_,h2,h3⟩:=hne n hn;rw[← h3]at hle ha ⊢;exact .row n q lo len a h2 hq hle ha
  | mp n hn=>obtain⟨_,h2,h3⟩:=hne n hn;rw[← h3];exact .mp n h2
  | agg l cs hl h ih=>exact .agg l cs hl ih
  | tup l cs hl h ih=>exact .tup l cs hl ih
  | fn f l m cs ds hl h hm k ih ik=>exact .fn f l m cs ds hl ih hm ik
  | iface t x c h ih=>exact .iface t x c ih
 have hV:∀ t u c,A6w m s t u→VT g t c→VT g' u c:=fun t u c ho=>by
  induction ho generalizing c with
  | same t=>exact hV0 t c
  | nil =>
   intro hv;have:=hv.v_eq;subst this;have:=VT.row (g:=g') m s 0 0 none (by rw[hMm'];simp) (ba hs) oM (fun h0=>by rw[hβm]at h0;exact absurd rfl h0)
   rwa [hβm]at this
  | agg hl h ih =>
   intro hv;cases hv with | agg _ cs hl' h' =>
   refine .agg _ cs (hl▸hl') fun i y c hy hc=>?_;have hlt:i<_:=(hl.symm▸(gS hy).1);exact ih i _ y (gE hlt) hy c (h' i _ c (gE hlt) hc)
  | aggD hl h ih =>
   intro hv;cases hv with | d hv =>
   cases hv with | agg _ cs hl' h' =>
   refine .agg _ cs (hl▸hl') fun i y c hy hc=>?_;have hlt:i<_:=(hl.symm▸(gS hy).1);exact ih i _ y (gE hlt) hy c (.d (h' i _ c (gE hlt) hc))
 have live:∀ n r,g'.M n=some (some r)→(g'.β n).2≠0→n≠m∧∃ r',g.M n=some (some r')∧g'.β n=g.β n:=fun n r hn h0=>by
  have h1:n≠m:=fun e=>by rw[e,hβm]at h0;exact h0 rfl
  rw[hM' n h1]at hn;obtain⟨o',h2,_,h3⟩:=hrow n _ hn;obtain⟨r',rfl,_⟩:=h3 r rfl;exact⟨h1,r',by rw[hM];exact h2,hβ n h1⟩
 have hrows:∀ n r,g'.M n=some (some r)→A4q g' n r:=fun n r hn=>by
  by_cases h1:n=m
  ·subst h1;rw[hMm']at hn;injection hn with hn;injection hn with hn
   subst hn;exact .inl ⟨by rw[hβm],rfl,ba hs⟩
  ·rw[hM' n h1]at hn;obtain⟨o',h2,_,h3⟩:=hrow n _ hn;obtain⟨r',rfl,h4⟩:=h3 r rfl;have hR0:=hR.good.rows n r' (by rw[hM];exact h2);rcases h4 with rfl | ⟨h5,h6,h7⟩
   ·exact hR0.rel rfl (hβ n h1) (fun _=>by rw[hw]) rfl (fun x x'=>x=x') (fun i x x' h1 h2=>by rw[h1]at h2;injection h2) (fun x x' h=>by subst h;exact⟨rfl,fun j y y' h1 h2=>by rw[h1]at h2;injection h2⟩) (fun k y x' h=>⟨y,h.symm,rfl⟩) (fun t t' c h hv=>h▸hV0 t c hv)
   ·rcases hR0 with⟨k1,k2,k3⟩ | ⟨k0,cells,e,k1,k2,k3,k4⟩ | ⟨k1,_⟩
    ·refine .inl ⟨by rw[hβ n h1];exact k1,?_,h6⟩;have:=h7.get.1;rw[k2]at this;exact bV.1 this.symm
    ·refine .inr (.inl ⟨h6,cells,e,by rw[hβ n h1,hw];exact k1,by rw[hβ n h1,h5];exact k2,by rw[hβ n h1,← h7.get.1];exact k3,fun i x hx=>?_⟩);have hlt:i<r'.els.length:=by rw[h7.get.1];exact(gS hx).1
     have hx':r'.els[i]?=some r'.els[i]:=gE hlt;obtain⟨q1,q2⟩:=(h7.get.2 i _ x hx' hx).cells;refine⟨by rw[← q1,h5];exact(k4 i _ hx').1,fun j y hy=>?_⟩;have hlt2:j<r'.els[i].cells.length:=by rw[q1];exact(gS hy).1
     have hy':r'.els[i].cells[j]?=some r'.els[i].cells[j]:=gE hlt2;obtain⟨c,q3,q4⟩:=(k4 i _ hx').2 j _ hy';exact⟨c,by rw[h5];exact q3,hV _ _ c (q2 j _ y hy' hy) q4⟩
    ·rw[← h5]at k1;exact absurd k1 h6
 have hgood:P6 g':=⟨hrows,fun n k r q h1 h2 hn0 hk0 he=>by
   obtain⟨_,r1,h3,h4⟩:=live n r h1 hn0;obtain⟨_,r2,h5,h6⟩:=live k q h2 hk0;rw[h4]at he hn0;rw[h6]at he hk0;exact hR.good.inj n k r1 r2 h3 h5 hn0 hk0 he,fun b hb=>by rw[hw];rw[hK]at hb;exact hR.good.kd b hb,fun b hb n r hn h0=>by
   obtain⟨_,r1,h3,h4⟩:=live n r hn h0;rw[h4]at h0 ⊢;rw[hK]at hb;exact hR.good.kl b hb n r1 h3 h0⟩
 have hle:LeN n0 g g':=⟨fun n _ hn=>(hne n hn).2,by rw[hw];exact aw _,by rw[hw],by rw[hw],by rw[hw],fun b _ _=>by rw[hw],fun b hb=>by rw[hK];exact hb,fun b _ hb => .inl (by rwa [hK]at hb),fun n r hn h0 _ hh=>by
   obtain⟨_,r1,h3,h4⟩:=live n r hn h0;rw[h4]at h0 hh;exact hh n r1 h3 h0 rfl⟩
 have hts':∀ i,A6w m s (W8 ts i) (W8 ts' i)∨W8 ts' i = .bot:=fun i=>by
  induction hts with
  | nil=>exact .inr rfl
  | cons h _ ih =>
   rename_i j _ _ _;simp only[W8];cases hb:aJ i j with
   | true=>have:=aA hb;subst this;exact .inl h
   | false=>exact ih
 exact⟨g',hw,hle,⟨hgood,by rw[hg'],hR.size,fun i=>by
  rcases hts' i with h1 | h1
  ·exact hV _ _ _ h1 (hR.ts i)
  ·dsimp only;rw[h1];exact .bot _,hR.df⟩⟩
theorem SW.seen {P:ah} {n0 N:Nat} {df:List bp} {Q:SX→St→Prop} {c:Code} {st st':St} (k:∀ (g:G) (a:Act),StR g N st a df→∃ g',g'.w=g.w∧LeN n0 g g'∧StR g' N st' a df) (h:SW P n0 N df c Q st'):SW P n0 N df c Q st:=fun F nn hF g a hR=>by
 obtain⟨g',hw,hle,hR'⟩:=k g a hR;have:=h F nn hF g' a hR';rw[hw]at this;exact aW this fun _ _ _ ⟨g2,sx,st',h1,h2,h3,h4,h5⟩=>⟨g2,sx,st',h1,hle.trans h2,h3,h4,h5⟩
theorem SW.own {P:ah} {n0 N:Nat} {df:List bp} {Q:SX→St→Prop} {c:Code} {ts ts':LT} {L L':LR} (s:Nat) (hs:aJ s 0=false) {m:Nat} {nr:List Nat} (hm:A4f.drop L.length=m::nr) (hts:B21 m s ts ts') (hL:A92 m s L L') (h:SW P n0 N df c Q ⟨ts',L'++[some ⟨s,[]⟩]⟩):SW P n0 N df c Q ⟨ts,L⟩ :=
 SW.seen (fun _ _ hR=>A9g n0 s hs hm hts hL hR) h
inductive FzT (n s:Nat) (es:List D):T→T→Prop where
 | same (t:T):FzT n s es t t
 | all {len:Nat} (h:es.length=len):FzT n s es (.row n s 0 len) (.d (.arr s es))
 | ref {i o:Nat}:FzT n s es (.ref n s i o) (.d (.el s es i o))
 | agg {l l':List T} (hl:l.length=l'.length) (h:∀ (i:Nat) (x y:T),l[i]?=some x→l'[i]?=some y→FzT n s es x y):FzT n s es (.agg l) (.agg l')
 | aggD {l:List T} {l':List D} (hl:l.length=l'.length) (h:∀ (i:Nat) (x:T) (y:D),l[i]?=some x→l'[i]?=some y→FzT n s es x (.d y)):FzT n s es (.agg l) (.d (.agg l'))
inductive B20 (n s:Nat) (es:List D):List T→List T→Prop where
 | nil:B20 n s es [] []
 | cons {t u:T} {ts us:List T} (h:FzT n s es t u) (k:B20 n s es ts us):B20 n s es (t::ts) (u::us)
theorem B20.get {n s:Nat} {es:List D} {ts us:List T} (h:B20 n s es ts us):ts.length=us.length∧∀ (i:Nat) (x y:T),ts[i]?=some x→us[i]?=some y→FzT n s es x y:=by
 induction h with
 | nil=>exact⟨rfl,fun i x y h=>by simp at h⟩
 | cons h _ ih =>
  refine⟨by simp[ih.1],fun i x y h1 h2=>?_⟩;cases i with
  | zero=>simp at h1 h2;subst h1;subst h2;exact h
  | succ i=>exact ih.2 i x y (by simpa using h1) (by simpa using h2)
theorem FzT.aggL {n s:Nat} {es:List D} {ts us:List T} (h:B20 n s es ts us):FzT n s es (.agg ts) (.agg us) := .agg h.get.1 h.get.2
theorem FzT.aggDL {n s:Nat} {es:List D} {ts:List T} {us:List D} (h:B20 n s es ts (us.map .d)):FzT n s es (.agg ts) (.d (.agg us)) := .aggD (by simpa using h.get.1) fun i x y h1 h2=>h.get.2 i x _ h1 (by simp[h2])
theorem FzT.cells {n s:Nat} {es:List D} {t u:T} (h:FzT n s es t u):t.cells.length=u.cells.length∧∀ (j:Nat) (x y:T),t.cells[j]?=some x→u.cells[j]?=some y→FzT n s es x y:=by
 have one:∀ {t u:T},FzT n s es t u→∀ (j:Nat) (x y:T),[t][j]?=some x→[u][j]?=some y→FzT n s es x y:=fun {t u} h j x y h1 h2=>by
  cases j with
  | zero=>simp at h1 h2;subst h1;subst h2;exact h
  | succ j=>simp at h1
 cases h with
 | same t=>exact⟨rfl,fun j x y h1 h2=>by rw[h1]at h2;injection h2 with h2;exact h2 ▸ .same _⟩
 | all h=>exact⟨rfl,one (.all h)⟩
 | ref=>exact⟨rfl,one .ref⟩
 | agg hl h=>exact⟨hl,h⟩
 | aggD hl h =>
  refine⟨by simpa[T.cells]using hl,fun j x y h1 h2=>?_⟩;simp only[T.cells,gM,an]at h2;obtain⟨d,hd,rfl⟩:=h2;exact h j x d h1 hd
theorem C15 {g:G} (hg:P6 g) {n s:Nat} {es:List D} (hn:g.M n=some (some ⟨s,es.map .d⟩)) {t u:T} (h:FzT n s es t u):∀ {c:al},VT g t c→VT (g.freeze n) u c:=by
 induction h with
 | same t=>intro c hc;exact(B1K hg hn 0).2.2 t c hc
 | all h=>intro c hc;exact C1c hg hn (.all h) hc
 | ref=>intro c hc;exact C1c hg hn .ref hc
 | agg hl h ih =>
  intro c hc;cases hc with | agg _ cs hl' h' =>
  refine .agg _ cs (hl▸hl') fun i y c hy hc=>?_;have hlt:i<_:=(hl.symm▸(gS hy).1);exact ih i _ y (gE hlt) hy (h' i _ c (gE hlt) hc)
 | aggD hl h ih =>
  intro c hc;cases hc with | agg _ cs hl' h' =>
  refine .d (.agg _ cs (hl▸hl') fun i y c hy hc=>?_);have hlt:i<_:=(hl.symm▸(gS hy).1);have:=ih i _ y (gE hlt) hy (h' i _ c (gE hlt) hc);cases this with | d this=>exact this
inductive FzR (n s:Nat) (es:List D):LR→LR→Prop where
 | nil:FzR n s es [] []
 | same {o:Option Rw} {l l':LR} (k:FzR n s es l l'):FzR n s es (o::l) (o::l')
 | cons {c:Nat} {els els':List T} {l l':LR} (hc:aJ c 0=false) (h:B20 n s es els els') (k:FzR n s es l l'):FzR n s es (some ⟨c,els⟩::l) (some ⟨c,els'⟩::l')
theorem FzR.get {n s:Nat} {es:List D} {L L':LR} (h:FzR n s es L L'):L.length=L'.length∧∀ (k:Nat) (o:Option Rw),L'[k]?=some o→∃ o',L[k]?=some o' ∧
  ∀ r,o=some r→∃ r',o'=some r'∧(r=r'∨(r.s=r'.s∧r.s≠0∧B20 n s es r'.els r.els)):=by
 induction h with
 | nil=>exact⟨rfl,fun n o h=>by simp at h⟩
 | same k ih =>
  refine⟨by simp[ih.1],fun n o h=>?_⟩;cases n with
  | zero=>simp at h;subst h;exact⟨_,rfl,fun r hr=>⟨r,hr,.inl rfl⟩⟩
  | succ n=>exact ih.2 n o (by simpa using h)
 | cons hc h k ih =>
  refine⟨by simp[ih.1],fun n o ho=>?_⟩;cases n with
  | zero =>
   simp at ho;subst ho;refine⟨_,rfl,fun r hr=>?_⟩;injection hr with hr
   subst hr;exact⟨_,rfl,.inr ⟨rfl,ba hc,h⟩⟩
  | succ n=>exact ih.2 n o (by simpa using ho)
inductive FzS (n s:Nat) (es:List D) (ts:LT):LT→Prop where
 | nil:FzS n s es ts []
 | cons {i:Nat} {t:T} {r:LT} (h:FzT n s es (W8 ts i) t) (k:FzS n s es ts r):FzS n s es ts ((i,t)::r)
theorem C0l (n0:Nat) {N:Nat} {ts ts':LT} {L L':LR} {α:Type} {w:List α} {f:α→D} (n s:Nat) (hn0:L[n]?=some (some ⟨s,w.map fun a => .d (f a)⟩)) (hts:FzS n s (w.map f) ts ts') (hL:FzR n s (w.map f) (L.set n none) L') {g:G} {a:Act} {df:List bp} (hR:StR g N ⟨ts,L⟩ a df):∃ g',g'.w=g.w∧LeN n0 g g'∧StR g' N ⟨ts',L'⟩ a df:=by
 obtain⟨hlen,hrow⟩:=hL.get;have hM:g.M=ofL L:=hR.M;have hn:g.M n=some (some ⟨s,(w.map f).map .d⟩):=by rw[hM];unfold ofL;rw[hn0,ck];rfl
 obtain⟨k1,k2,k3⟩:=B1K hR.good hn n0;obtain⟨g',hg'⟩:∃ g':G,g'=⟨ofL L',g.β,(g.freeze n).K,g.w⟩:=⟨_,rfl⟩;have hw:g'.w=(g.freeze n).w:=by rw[hg'];rfl
 have hK:g'.K=(g.freeze n).K:=by rw[hg']
 have hβ:g'.β=(g.freeze n).β:=by rw[hg'];rfl
 have old:∀ k,(L.set n none)[k]?=if k=n then some none else L[k]?:=fun k=>by
  by_cases hk:k=n
  ·subst hk;rw[if_pos rfl,List.getElem?_set_self (gS hn0).1]
  ·rw[if_neg hk,dp (fun e=>hk e.symm)]
 have live:∀ k r,g'.M k=some (some r)→k≠n∧∃ r',g.M k=some (some r')∧(r=r'∨(r.s=r'.s∧r.s≠0∧B20 n s (w.map f) r'.els r.els)):=fun k r hk=>by
  rw[hg']at hk;obtain⟨o',h2,h3⟩:=hrow k _ hk;obtain⟨r',rfl,h4⟩:=h3 r rfl;rw[old]at h2;by_cases hkn:k=n
  ·rw[if_pos hkn]at h2;cases h2
  ·rw[if_neg hkn]at h2;exact⟨hkn,r',by rw[hM];exact h2,h4⟩
 have liveF:∀ k r,k≠n→g.M k=some (some r)→(g.freeze n).M k=some (some r):=fun k r hk h=>by simp[G.freeze,hk,h]
 have hne:∀ k,(g.freeze n).M k≠none→g'.M k≠none:=fun k hk=>by
  have:k<L.length:=by
   by_cases h:k=n
   ·subst h;exact(gS hn0).1
   ·simp only[G.freeze,h,if_false]at hk;rw[hM]at hk;simpa only[ofL,ne_eq,aQ,cD]using hk
  rw[hg'];simp only[ofL,ne_eq,aQ,cD];rw[← hlen];simpa using this
 have hle:Le (g.freeze n) g':=⟨fun k hk=>⟨hne k hk,by rw[hβ]⟩,by rw[hw];exact aw _,by rw[hw],by rw[hw],by rw[hw],fun b _ _=>by rw[hw],fun b hb=>by rw[hK];exact hb,fun b _ hb => .inl (by rwa [hK]at hb),fun k r hk h0 _ hh=>by
  obtain⟨hkn,r',h1,_⟩:=live k r hk;rw[hβ]at h0 hh;exact hh k r' (liveF k r' hkn h1) h0 rfl⟩
 have hV:∀ t u c,FzT n s (w.map f) t u→VT g t c→VT g' u c:=fun t u c ho hv=>(C15 hR.good hn ho hv).mono k1 hle;have hgood:P6 g':=by
  refine⟨fun k r hk=>?_,fun k m r q h1 h2 hk0 hm0 he=>?_,fun b hb=>?_,fun b hb k r hk h0=>?_⟩
  ·obtain⟨hkn,r',h1,h2⟩:=live k r hk;have hR0:=hR.good.rows k r' h1;rcases h2 with rfl | ⟨h5,h6,h7⟩
   ·exact hR0.rel rfl (by rw[hβ];rfl) (fun _=>by rw[hw];rfl) rfl (fun x x'=>x=x') (fun i x x' h1 h2=>by rw[h1]at h2;injection h2) (fun x x' h=>by subst h;exact⟨rfl,fun j y y' h1 h2=>by rw[h1]at h2;injection h2⟩) (fun k y x' h=>⟨y,h.symm,rfl⟩) (fun t t' c h hv=>h▸hV t t c (.same t) hv)
   ·rcases hR0 with⟨k1,k2,k3⟩ | ⟨k0,cells,e,k1,k2,k3,k4⟩ | ⟨k1,_⟩
    ·refine .inl ⟨by rw[hβ];exact k1,?_,h6⟩;have:=h7.get.1;rw[k2]at this;exact bV.1 this.symm
    ·refine .inr (.inl ⟨h6,cells,e,by rw[hβ,hw];exact k1,by rw[hβ,h5];exact k2,by rw[hβ,← h7.get.1];exact k3,fun i x hx=>?_⟩);have hlt:i<r'.els.length:=by rw[h7.get.1];exact(gS hx).1
     have hx':r'.els[i]?=some r'.els[i]:=gE hlt;obtain⟨q1,q2⟩:=(h7.get.2 i _ x hx' hx).cells;refine⟨by rw[← q1,h5];exact(k4 i _ hx').1,fun j y hy=>?_⟩;have hlt2:j<r'.els[i].cells.length:=by rw[q1];exact(gS hy).1
     have hy':r'.els[i].cells[j]?=some r'.els[i].cells[j]:=gE hlt2;obtain⟨c,q3,q4⟩:=(k4 i _ hx').2 j _ hy';exact⟨c,by rw[h5];exact q3,hV _ _ c (q2 j _ y hy' hy) q4⟩
    ·rw[← h5]at k1;exact absurd k1 h6
  ·obtain⟨hkn,r1,h3,_⟩:=live k r h1;obtain⟨hmn,r2,h4,_⟩:=live m q h2;rw[hβ]at he hk0 hm0;exact hR.good.inj k m r1 r2 h3 h4 hk0 hm0 he
  ·rw[hK]at hb;rw[hw];exact k1.kd b hb
  ·obtain⟨hkn,r1,h3,_⟩:=live k r hk;rw[hK]at hb;rw[hβ]at h0 ⊢;exact k1.kl b hb k r1 (liveF k r1 hkn h3) h0
 have hts':∀ i,FzT n s (w.map f) (W8 ts i) (W8 ts' i)∨W8 ts' i = .bot:=fun i=>by
  induction hts with
  | nil=>exact .inr rfl
  | cons h _ ih =>
   rename_i j _ _ _;simp only[W8];cases hb:aJ i j with
   | true=>have:=aA hb;subst this;exact .inl h
   | false=>exact ih
 have hww:g'.w=g.w:=hw
 exact⟨g',hww,k2.trans (hle.toN n0),⟨hgood,by rw[hg'],hR.size,fun i=>by
  rcases hts' i with h1 | h1
  ·exact hV _ _ _ h1 (hR.ts i)
  ·dsimp only;rw[h1];exact .bot _,hR.df⟩⟩
theorem SW.fz {P:ah} {n0 N:Nat} {df:List bp} {Q:SX→St→Prop} {c:Code} {ts ts':LT} {L L':LR} {α:Type} {w:List α} {f:α→D} (n s:Nat) (hn0:L[n]?=some (some ⟨s,w.map fun a => .d (f a)⟩)) (hts:FzS n s (w.map f) ts ts') (hL:FzR n s (w.map f) (L.set n none) L') (h:SW P n0 N df c Q ⟨ts',L'⟩):SW P n0 N df c Q ⟨ts,L⟩ :=
 SW.seen (fun _ _ hR=>C0l n0 n s hn0 hts hL hR) h
theorem PC.of_lend {P:ah} {f:bm} {as:List D} {y:D} (h:SC P f (as.map .d) [] fun se X=>∃ t,se = .ret t∧A2m X t y):PC P f as y:=fun g vs hg hM hv=>by
 refine(h g vs hg hM hv).mono ?_;rintro e w' ⟨g',se,L',rfl,h1,h2,h3,h4,t,rfl,hl⟩;cases e with
 | returned v =>
  have hv:VT g' t v:=h4;have:=A9b h1 (L:=L') (fun n r hr=>by rw[h3];exact hr) hl hv;exact⟨g'.all,.ret (.d y),[],rfl,A74 h1,B5I (fun n=>by rw[hM];rfl) h2,rfl,.d this,rfl,rfl⟩
 | panicked ch=>exact h4.elim
 | outgrown=>exact h4.elim
inductive A6v (nn:Nat):List Rw→List Rw→Prop where
 | nil:A6v nn [] []
 | cons {r r':Rw} {l l':List Rw} (h:r.ren (fun n=>nn+n)=r') (q:A6v nn l l'):A6v nn (r::l) (r'::l')
 | row {α:Type} {s:Nat} {w:List α} {f:α→D} {l l':List Rw} (q:A6v nn l l'):A6v nn (⟨s,w.map fun a => .d (f a)⟩::l) (⟨s,w.map fun a => .d (f a)⟩::l')
theorem A6v.eq {nn:Nat} {a b:List Rw} (h:A6v nn a b):a.map (Rw.ren fun n=>nn+n)=b:=by
 induction h with
 | nil=>rfl
 | cons h _ ih=>rw[bw,h,ih]
 | row _ ih =>
  rw[bw,ih];congr 1;unfold Rw.ren;rw[A7Z]
theorem A8V (fresh:Nat):ext [] fresh=fun n=>fresh+n:=by funext n;simp[ext]
mutual
def T.pl:T→Bool
 | .d x=>x.plain
 | .bot | .ref _ _ _ _ | .row _ _ _ _ | .mp _=>true
 | .agg l | .tup l=>plL l
 | .fn _ a b=>plL a&&plL b
 | .iface _ x=>x.pl
def plL:List T→Bool
 | []=>true
 | x::l=>x.pl&&plL l
end
theorem A6k:∀ l,plL l=l.all T.pl
 | []=>rfl
 | x::l=>by rw[plL,List.all_cons,A6k l]
def B9S {α:Type} (f:α→D):Prop:=∀ a,(f a).plain=true
inductive RwP:List Rw→Prop where
 | nil:RwP []
 | cons {r:Rw} {l:List Rw} (h:plL r.els=true) (q:RwP l):RwP (r::l)
 | row {α:Type} {s:Nat} {w:List α} {f:α→D} {l:List Rw} (hf:B9S f) (q:RwP l):RwP (⟨s,w.map fun a => .d (f a)⟩::l)
theorem RwP.all {l:List Rw} (h:RwP l):∀ r∈l,plL r.els=true:=by
 induction h with
 | nil=>intro r hr;cases hr
 | cons h _ ih =>
  intro r hr;rcases ap.1 hr with rfl | hr
  ·exact h
  ·exact ih r hr
 | row hf _ ih =>
  intro r hr;rcases ap.1 hr with rfl | hr
  ·rw[A6k,dC,ax];exact fun a _=>hf a
  ·exact ih r hr
theorem VT.plain {g g':G} (hM:g'.M=g.M) (hβ:g'.β=g.β) {t:T} {c:al} (h:VT g t c):t.pl=true→VT g' t c:=by
 induction h with
 | d h=>intro hp;exact .d (h.plain hp)
 | bot c=>intro _;exact .bot c
 | ref n s i o hn hs=>intro _;rw[← hβ];exact .ref n s i o (by rw[hM];exact hn) hs
 | row n s lo len a hn hs hl ha=>intro _;rw[← hβ]at hl ha ⊢;exact .row n s lo len a (by rw[hM];exact hn) hs hl ha
 | mp n hn=>intro _;rw[← hβ];exact .mp n (by rw[hM];exact hn)
 | agg l cs hl h ih =>
  intro hp;simp only[T.pl,A6k,ax]at hp;exact .agg l cs hl fun i d c hd hc=>ih i d c hd hc (hp d (iM hd))
 | tup l cs hl h ih =>
  intro hp;simp only[T.pl,A6k,ax]at hp;exact .tup l cs hl fun i d c hd hc=>ih i d c hd hc (hp d (iM hd))
 | fn f l m cs ds hl h hm k ih ik =>
  intro hp;simp only[T.pl,A6k,aF,ax]at hp;exact .fn f l m cs ds hl (fun i d c hd hc=>ih i d c hd hc (hp.1 d (iM hd))) hm fun i d c hd hc=>ik i d c hd hc (hp.2 d (iM hd))
 | iface t x c h ih=>intro hp;exact .iface t x c (ih hp)
theorem B4f {t x:T} (h:t.pl=true) (hx:x∈t.cells):x.pl=true:=by
 cases t with
 | d d =>
  cases d with
  | agg l =>
   simp only[T.cells,List.mem_map]at hx;obtain⟨y,hy,rfl⟩:=hx;simp only[T.pl,D.plain,A7m,ax]at h;exact h y hy
  | _=>simp only[T.cells,bD]at hx;subst hx;exact h
 | agg l =>
  simp only[T.cells]at hx;simp only[T.pl,A6k,ax]at h;exact h x hx
 | _=>simp only[T.cells,bD]at hx;subst hx;exact h
inductive A7r (L:LR):T→T→Prop where
 | d {t:T} {y:D} (h:A2m L t y):A7r L t (.d y)
 | fnc {f:Fn}:A7r L (.d (.v (.func f #[] #[]))) (.fn f [] [])
 | fn {f:Fn} {l l' m m':List T} (hl:l.length=l'.length) (hm:m.length=m'.length) (h:∀ (i:Nat) (x y:T),l[i]?=some x→l'[i]?=some y→A7r L x y) (k:∀ (i:Nat) (x y:T),m[i]?=some x→m'[i]?=some y→A7r L x y):A7r L (.fn f l m) (.fn f l' m')
inductive A6O (L:LR):List T→List T→Prop where
 | nil:A6O L [] []
 | cons {t u:T} {ts us:List T} (h:A7r L t u) (k:A6O L ts us):A6O L (t::ts) (u::us)
theorem A6O.get {L:LR} {ts us:List T} (h:A6O L ts us):ts.length=us.length∧∀ (i:Nat) (x y:T),ts[i]?=some x→us[i]?=some y→A7r L x y:=by
 induction h with
 | nil=>exact⟨rfl,fun i x y h=>by simp at h⟩
 | cons h _ ih =>
  refine⟨by simp[ih.1],fun i x y hx hy=>?_⟩;cases i with
  | zero=>simp at hx hy;subst hx;subst hy;exact h
  | succ i=>exact ih.2 i x y (by simpa using hx) (by simpa using hy)
theorem A7r.fnC {L:LR} {f:Fn} {m m':List T} (h:A6O L m m'):A7r L (.fn f [] m) (.fn f [] m') := .fn rfl h.get.1 (fun i x y h=>by simp at h) h.get.2
theorem A7r.hof {L:LR} {f:Fn} {c:List D}:A7r L (.fn f [] (c.map .d)) (.fn f [] (c.map .d)) := .fn rfl rfl (fun i x y h=>by simp at h) (fun i x y h1 h2=>by rw[h1]at h2;injection h2 with h2;subst h2;rw[gM,an]at h1;obtain⟨d,_,rfl⟩:=h1;exact .d (.d d))
theorem B64 {g:G} (hg:P6 g) {L:LR} (hM:∀ (n:Nat) (r:Rw),L[n]?=some (some r)→g.M n=some (some r)) {t u:T} (h:A7r L t u):∀ {c:al},VT g t c→VT g.all u c:=by
 induction h with
 | d h=>intro c hc;exact .d (A9b hg hM h hc)
 | fnc =>
  intro c hc;have:=hc.v_eq;subst this;exact .fn _ _ _ #[] #[] rfl (fun i y c hy _=>by simp at hy) rfl fun i y c hy _=>by simp at hy
 | fn hl hm h k ih ik =>
  intro c hc;cases hc with | fn _ _ _ cs ds e1 e2 e3 e4 =>
  refine .fn _ _ _ cs ds (hl▸e1) (fun i y c hy hc=>?_) (hm▸e3) fun i y c hy hc=>?_
  ·have hlt:i<_:=(hl.symm▸(gS hy).1);exact ih i _ y (gE hlt) hy (e2 i _ c (gE hlt) hc)
  ·have hlt:i<_:=(hm.symm▸(gS hy).1);exact ik i _ y (gE hlt) hy (e4 i _ c (gE hlt) hc)
theorem B4U {g:G} (hg:P6 g) {L:LR} (hM:∀ (n:Nat) (r:Rw),L[n]?=some (some r)→g.M n=some (some r)) {ts us:List T} (h:A6O L ts us) {cs:List al} (hc:VTs g ts cs):VTs g.all us cs :=
 ⟨h.get.1.symm.trans hc.1,fun i u c hu hc'=>by
  have hlt:i<ts.length:=by have:=(gS hu).1;have:=h.get.1;omega
  exact B64 hg hM (h.get.2 i _ u (gE hlt) hu) (hc.2 i _ c (gE hlt) hc')⟩
theorem B7M {P:ah} {o:Oper} {L:LR} {fresh:Nat} {x:aa} {xs:Array aa} {tys:Array ab} {f:bm} {us:List T} {as:List D} {t:T} {news:List Rw} (hop:o.op = .call { callee := .value x,args:=xs,argTypes:=tys }) (he:Ent P f) (hl:xs.toList.length=us.length)
  (hc:SCR P f (as.map .d) [] t (news.map some)) (ht:t.pl=true) (hp:RwP news) (hx:A5o L us as) :
  OpS P o ((x,.d (.v (.func (.func f) #[] #[])))::xs.toList.zip us) (A8x L) [] fresh (news.map (Rw.ren fun n=>fresh+n)) (t.ren fun n=>fresh+n):=by
 intro F nn hF g a hg hi hr hn next Q k
 have hcal:=(hi (x,.d (.v (.func (.func f) #[] #[]))) sM).v_eq;dsimp only at hcal;have hvt:=VTs.of_ins (g:=g) (a:=a) (xs:=xs.toList) (ts:=us) hl (fun p hp=>hi p (by simp[hp]));have hM:∀ (n:Nat) (r:Rw),L[n]?=some (some r)→g.M n=some (some r):=fun n r h=>hr (n,r) (A54.2 h);have hcall:=hc g.all _ (A74 hg) rfl (B2a hg hM hx hvt);refine⟨fun f _=>hF.fn f,?_⟩;rw[Oper.semAt_eq _ _ _ (fun c h=>by rw[hop]at h;cases h)];have hrun:(aT a.eval o).run P g.w = .ok (.enter f (xs.toList.map a.eval).toArray) g.w:=by
  have e:xs.map a.eval=(xs.toList.map a.eval).toArray:=by apply cS;simp
  simp[aT,hop,resolve,hcal,Deferred.ofValue,invoke,he _ _,← e]
 rw[hrun];refine⟨fun h=>(by rw[hF.dep]at h;cases h),hF.calls (hcall.mono ?_)⟩;rintro e w' ⟨gc',se,L',rfl,h1,h2,h3,h4,rfl,rfl⟩;cases e with
 | panicked ch=>exact h4.elim
 | outgrown=>exact h4.elim
 | returned v =>
 have hv:VT gc' t v:=h4;have noAll:∀ b,NL g.all b:=fun b n r h=>by simp[G.all,ofL]at h
 obtain⟨g2,hg2⟩:∃ g2:G,g2=⟨gc'.M,gc'.β,fun b=>gc'.K b∧NL g b,gc'.w⟩:=⟨_,rfl⟩;have hM2:g2.M=gc'.M:=by rw[hg2]
 have hβ2:g2.β=gc'.β:=by rw[hg2]
 have hw2:g2.w=gc'.w:=by rw[hg2]
 have hnews:∀ n r,gc'.M n=some (some r)→plL r.els=true:=fun n r h=>by
  rw[h3]at h;simp only[ofL,gM,an]at h;obtain⟨q,hq,e⟩:=h;injection e with e
  subst e;exact hp.all q (iM hq)
 have good2:P6 g2:=by
  refine⟨fun n r hn'=>?_,fun n m r q k1 k2 k3 k4 k5=>?_,fun b hb=>?_,fun b hb n r hn' h0=>?_⟩
  ·rw[hM2]at hn';have hall:=hnews n r hn';rw[A6k,ax]at hall;refine(h1.rows n r hn').rel (g':=g2) rfl (by rw[hβ2]) (fun _=>by rw[hw2]) rfl (fun x x'=>x=x'∧x.pl=true) (fun i x x' k1 k2=>?_) (fun x x' h=>?_) (fun k y x' h=>⟨y,h.1.symm,rfl,?_⟩) (fun t t' c h hv=>h.1▸hv.plain hM2 hβ2 h.2)
   ·rw[k1]at k2;injection k2 with k2;exact⟨k2,hall x (iM k1)⟩
   ·obtain⟨rfl,h⟩:=h;exact⟨rfl,fun j y y' k1 k2=>by rw[k1]at k2;injection k2 with k2;exact⟨k2,B4f h (iM k1)⟩⟩
   ·have:=h.2;simp only[T.pl,plL,aF,eR]at this;exact this.2
  ·rw[hM2]at k1 k2;rw[hβ2]at k3 k4 k5;exact h1.inj n m r q k1 k2 k3 k4 k5
  ·rw[hg2]at hb ⊢;exact h1.kd b hb.1
  ·rw[hM2]at hn';rw[hβ2]at h0 ⊢;rw[hg2]at hb;exact h1.kl b hb.1 n r hn' h0
 obtain⟨gc,hgc⟩:∃ gc:G,gc=⟨ofL [],fun n=>g.β (ext [] fresh n),g.K,g.w⟩:=⟨_,rfl⟩;have le2:Le gc g2:=by
  refine⟨fun n hn'=>absurd (by rw[hgc];rfl) hn',by rw[hgc,hw2];exact h2.size,by rw[hgc,hw2];exact h2.os,by rw[hgc,hw2];exact h2.tape,by rw[hgc,hw2];exact h2.output,fun b hb _=>?_,fun b hb=>?_,fun b hb hk=>?_,fun n r hn' h0 hlt=>?_⟩
  ·rw[hgc]at hb ⊢;rw[hw2];exact h2.fr b hb (noAll b)
  ·rw[hgc]at hb;rw[hg2];exact⟨h2.k b (.inl hb),hg.kl b hb⟩
  ·rw[hgc]at hb ⊢;rw[hg2]at hk;rcases h2.k' b hb hk.1 with h | h
   ·rcases h with h | h
    ·exact .inl h
    ·exact absurd hk.2 h
   ·exact absurd (noAll b) h
  ·rw[hM2]at hn';rw[hβ2]at h0 hlt;rw[hgc]at hlt;exact absurd (noAll _) (h2.nl n r hn' h0 hlt)
 obtain⟨k1,k2,k3⟩:=A7U (g:=g) (ρ:=[]) (fresh:=fresh) (cnt:=news.length) (Lf:=[]) (Lf':=news.map some) sM hg rfl sM sM hgc (fun k o h=>by simp at h) (by simpa using hn) good2 le2 (by rw[hM2];exact h3);have k4:=k3 _ _ (hv.plain hM2 hβ2 ht);rw[A8V]at k4;have hww:(g.back g2 [] fresh news.length).w=gc'.w:=hw2;rw[← hww];refine k _ v k1 k2 ?_ k4;funext n;simp only[G.back,upd,eE,dn,aS,ct,A8V];by_cases hf:fresh≤n∧n<fresh+news.length
 ·rw[if_pos hf,if_pos hf,hM2,h3];simp only[ofL,gM,dK,aZ];rfl
 ·rw[if_neg hf,if_neg hf]
theorem B8P {P:ah} {o:Oper} {L:LR} {fresh:Nat} {x:aa} {xs:Array aa} {tys:Array ab} {f:bm} {us as:List T} {t:T} {news:List Rw} (hop:o.op = .call { callee := .value x,args:=xs,argTypes:=tys }) (he:Ent P f) (hl:xs.toList.length=us.length)
  (hc:SCR P f as [] t (news.map some)) (ht:t.pl=true) (hp:RwP news) (hx:A6O L us as) :
  OpS P o ((x,.d (.v (.func (.func f) #[] #[])))::xs.toList.zip us) (A8x L) [] fresh (news.map (Rw.ren fun n=>fresh+n)) (t.ren fun n=>fresh+n):=by
 intro F nn hF g a hg hi hr hn next Q k
 have hcal:=(hi (x,.d (.v (.func (.func f) #[] #[]))) sM).v_eq;dsimp only at hcal;have hvt:=VTs.of_ins (g:=g) (a:=a) (xs:=xs.toList) (ts:=us) hl (fun p hp=>hi p (by simp[hp]));have hM:∀ (n:Nat) (r:Rw),L[n]?=some (some r)→g.M n=some (some r):=fun n r h=>hr (n,r) (A54.2 h);have hcall:=hc g.all _ (A74 hg) rfl (B4U hg hM hx hvt);refine⟨fun f _=>hF.fn f,?_⟩;rw[Oper.semAt_eq _ _ _ (fun c h=>by rw[hop]at h;cases h)];have hrun:(aT a.eval o).run P g.w = .ok (.enter f (xs.toList.map a.eval).toArray) g.w:=by
  have e:xs.map a.eval=(xs.toList.map a.eval).toArray:=by apply cS;simp
  simp[aT,hop,resolve,hcal,Deferred.ofValue,invoke,he _ _,← e]
 rw[hrun];refine⟨fun h=>(by rw[hF.dep]at h;cases h),hF.calls (hcall.mono ?_)⟩;rintro e w' ⟨gc',se,L',rfl,h1,h2,h3,h4,rfl,rfl⟩;cases e with
 | panicked ch=>exact h4.elim
 | outgrown=>exact h4.elim
 | returned v =>
 have hv:VT gc' t v:=h4;have noAll:∀ b,NL g.all b:=fun b n r h=>by simp[G.all,ofL]at h
 obtain⟨g2,hg2⟩:∃ g2:G,g2=⟨gc'.M,gc'.β,fun b=>gc'.K b∧NL g b,gc'.w⟩:=⟨_,rfl⟩;have hM2:g2.M=gc'.M:=by rw[hg2]
 have hβ2:g2.β=gc'.β:=by rw[hg2]
 have hw2:g2.w=gc'.w:=by rw[hg2]
 have hnews:∀ n r,gc'.M n=some (some r)→plL r.els=true:=fun n r h=>by
  rw[h3]at h;simp only[ofL,gM,an]at h;obtain⟨q,hq,e⟩:=h;injection e with e
  subst e;exact hp.all q (iM hq)
 have good2:P6 g2:=by
  refine⟨fun n r hn'=>?_,fun n m r q k1 k2 k3 k4 k5=>?_,fun b hb=>?_,fun b hb n r hn' h0=>?_⟩
  ·rw[hM2]at hn';have hall:=hnews n r hn';rw[A6k,ax]at hall;refine(h1.rows n r hn').rel (g':=g2) rfl (by rw[hβ2]) (fun _=>by rw[hw2]) rfl (fun x x'=>x=x'∧x.pl=true) (fun i x x' k1 k2=>?_) (fun x x' h=>?_) (fun k y x' h=>⟨y,h.1.symm,rfl,?_⟩) (fun t t' c h hv=>h.1▸hv.plain hM2 hβ2 h.2)
   ·rw[k1]at k2;injection k2 with k2;exact⟨k2,hall x (iM k1)⟩
   ·obtain⟨rfl,h⟩:=h;exact⟨rfl,fun j y y' k1 k2=>by rw[k1]at k2;injection k2 with k2;exact⟨k2,B4f h (iM k1)⟩⟩
   ·have:=h.2;simp only[T.pl,plL,aF,eR]at this;exact this.2
  ·rw[hM2]at k1 k2;rw[hβ2]at k3 k4 k5;exact h1.inj n m r q k1 k2 k3 k4 k5
  ·rw[hg2]at hb ⊢;exact h1.kd b hb.1
  ·rw[hM2]at hn';rw[hβ2]at h0 ⊢;rw[hg2]at hb;exact h1.kl b hb.1 n r hn' h0
 obtain⟨gc,hgc⟩:∃ gc:G,gc=⟨ofL [],fun n=>g.β (ext [] fresh n),g.K,g.w⟩:=⟨_,rfl⟩;have le2:Le gc g2:=by
  refine⟨fun n hn'=>absurd (by rw[hgc];rfl) hn',by rw[hgc,hw2];exact h2.size,by rw[hgc,hw2];exact h2.os,by rw[hgc,hw2];exact h2.tape,by rw[hgc,hw2];exact h2.output,fun b hb _=>?_,fun b hb=>?_,fun b hb hk=>?_,fun n r hn' h0 hlt=>?_⟩
  ·rw[hgc]at hb ⊢;rw[hw2];exact h2.fr b hb (noAll b)
  ·rw[hgc]at hb;rw[hg2];exact⟨h2.k b (.inl hb),hg.kl b hb⟩
  ·rw[hgc]at hb ⊢;rw[hg2]at hk;rcases h2.k' b hb hk.1 with h | h
   ·rcases h with h | h
    ·exact .inl h
    ·exact absurd hk.2 h
   ·exact absurd (noAll b) h
  ·rw[hM2]at hn';rw[hβ2]at h0 hlt;rw[hgc]at hlt;exact absurd (noAll _) (h2.nl n r hn' h0 hlt)
 obtain⟨k1,k2,k3⟩:=A7U (g:=g) (ρ:=[]) (fresh:=fresh) (cnt:=news.length) (Lf:=[]) (Lf':=news.map some) sM hg rfl sM sM hgc (fun k o h=>by simp at h) (by simpa using hn) good2 le2 (by rw[hM2];exact h3);have k4:=k3 _ _ (hv.plain hM2 hβ2 ht);rw[A8V]at k4;have hww:(g.back g2 [] fresh news.length).w=gc'.w:=hw2;rw[← hww];refine k _ v k1 k2 ?_ k4;funext n;simp only[G.back,upd,eE,dn,aS,ct,A8V];by_cases hf:fresh≤n∧n<fresh+news.length
 ·rw[if_pos hf,if_pos hf,hM2,h3];simp only[ofL,gM,dK,aZ];rfl
 ·rw[if_neg hf,if_neg hf]
section
variable {P:ah} {N:Nat} {ops:Array Oper} {l:List Oper} {ts:LT} {L:LR} {tr:List Stp} {K:List Oper→List Stp→St→Prop} {d:Nat} {ty:ab} {pos:String} {af:Array Edge} {gd:Option (Nat × Bool)}
theorem A3j {x:aa} {xs:Array aa} {tys:Array ab} {f:bm} {us:List T} {as:List D} {t t':T} {news news':List Rw} (hc:SCR P f (as.map .d) [] t (news.map some)) (ht:t.pl=true) (hp:RwP news) (he:Ent P f) (hf:O9 ts x = .d (.v (.func (.func f) #[] #[]))) (hx:xs.toList.map (O9 ts)=us) (hlend:A5o L us as)
  {nn:Nat} {nr:List Nat} (hnn:A4f.drop L.length=nn::nr) (hn:A6v nn news news') (htr:t.ren (fun n=>nn+n)=t')
  (hw:I2 ops ts ⟨some d,.call { callee := .value x,args:=xs,argTypes:=tys },ty,pos,af,gd⟩=some true) (hd:aq d N=true)
  (k:L3 P N ops l ⟨(d,t')::ts,L++news'.map some⟩ (tr++[.run ((A8x L).map (·.1)++az nn news'.length) (az nn news'.length)]) K) :
  L3 P N ops (⟨some d,.call { callee := .value x,args:=xs,argTypes:=tys },ty,pos,af,gd⟩::l) ⟨ts,L⟩ tr K:=by
 have e0:=A21 hnn;subst e0;rw[← htr,← hn.eq]at k;refine A2i (.run hw (B7M (fresh:=L.length) rfl he (by rw[← hx];simp) hc ht hp hlend) ?_ (fun p hp=>A54.1 hp) sM hd) (by simpa[St.eff,A5m,A4m]using k);intro p hp;rcases ap.1 hp with rfl | hp
 ·exact⟨hf,by simp[ag,aM]⟩
 ·obtain⟨a,b⟩:=A2Z hx p hp;exact⟨a,by simp only[ag,aM,bK];exact .inr (by simpa using b)⟩
theorem A0t {x:aa} {xs:Array aa} {tys:Array ab} {f:bm} {us as:List T} {t t':T} {news news':List Rw} (hc:SCR P f as [] t (news.map some)) (ht:t.pl=true) (hp:RwP news) (he:Ent P f) (hf:O9 ts x = .d (.v (.func (.func f) #[] #[]))) (hx:xs.toList.map (O9 ts)=us) (hlend:A6O L us as)
  {nn:Nat} {nr:List Nat} (hnn:A4f.drop L.length=nn::nr) (hn:A6v nn news news') (htr:t.ren (fun n=>nn+n)=t')
  (hw:I2 ops ts ⟨some d,.call { callee := .value x,args:=xs,argTypes:=tys },ty,pos,af,gd⟩=some true) (hd:aq d N=true)
  (k:L3 P N ops l ⟨(d,t')::ts,L++news'.map some⟩ (tr++[.run ((A8x L).map (·.1)++az nn news'.length) (az nn news'.length)]) K) :
  L3 P N ops (⟨some d,.call { callee := .value x,args:=xs,argTypes:=tys },ty,pos,af,gd⟩::l) ⟨ts,L⟩ tr K:=by
 have e0:=A21 hnn;subst e0;rw[← htr,← hn.eq]at k;refine A2i (.run hw (B8P (fresh:=L.length) rfl he (by rw[← hx];simp) hc ht hp hlend) ?_ (fun p hp=>A54.1 hp) sM hd) (by simpa[St.eff,A5m,A4m]using k);intro p hp;rcases ap.1 hp with rfl | hp
 ·exact⟨hf,by simp[ag,aM]⟩
 ·obtain⟨a,b⟩:=A2Z hx p hp;exact⟨a,by simp only[ag,aM,bK];exact .inr (by simpa using b)⟩
theorem A2W {x:aa} {xs:Array aa} {tys:Array ab} {f:bm} {vs fc:List D} {y:D} (hc:PC P f (vs++fc) y) (he:Ent P f) (hf:O9 ts x = .fn (.func f) [] (fc.map .d)) (hx:xs.toList.map (O9 ts)=vs.map .d)
  (hw:I2 ops ts ⟨some d,.call { callee := .value x,args:=xs,argTypes:=tys },ty,pos,af,gd⟩=some true) (hd:aq d N=true) (k:L3 P N ops l ⟨(d,.d y)::ts,L⟩ (tr++[.run [] []]) K) :
  L3 P N ops (⟨some d,.call { callee := .value x,args:=xs,argTypes:=tys },ty,pos,af,gd⟩::l) ⟨ts,L⟩ tr K:=by
 have hro:A5n (kap []) ((vs++fc).map .d)=(vs++fc).map .d:=by rw[A1Z,ck];rfl
 refine K0 rfl (B2O (P:=P) (fresh:=L.length) (ρ:=[]) (rs:=[]) (ls:=[]) (news:=[]) (fi:=[]) (ca:=fc.map .d) (as:=(vs++fc).map .d) (ts:=vs.map .d) rfl he (.inr rfl) (by rw[← hx];simp) hc ?_ ?_ sM rfl rfl sM sM) hw ?_ (by simp[A5T]) hd (by simpa[A5T,T.ren]using k)
 ·rw[hro];simp
 ·rw[A3m];simp[T.sc]
 ·intro p hp;rcases ap.1 hp with rfl | hp
  ·exact⟨hf,by simp[ag,aM]⟩
  ·obtain⟨a,b⟩:=A2Z hx p hp;exact⟨a,by simp only[ag,aM,bK];exact .inr (by simpa using b)⟩
theorem A2X {x:aa} {xs:Array aa} {tys:Array ab} {f:bm} {as:List D} {t t':T} {news news':List Rw} (hc:SCR P f (as.map .d) [] t (news.map some)) (he:Ent P f) (hf:O9 ts x = .d (.v (.func (.func f) #[] #[]))) (hx:xs.toList.map (O9 ts)=as.map .d)
  {nn:Nat} {nr:List Nat} (hnn:A4f.drop L.length=nn::nr) (hn:A6v nn news news') (htr:t.ren (fun n=>nn+n)=t')
  (hw:I2 ops ts ⟨some d,.call { callee := .value x,args:=xs,argTypes:=tys },ty,pos,af,gd⟩=some true) (hd:aq d N=true)
  (k:L3 P N ops l ⟨(d,t')::ts,L++news'.map some⟩ (tr++[.run (az nn news'.length) (az nn news'.length)]) K) :
  L3 P N ops (⟨some d,.call { callee := .value x,args:=xs,argTypes:=tys },ty,pos,af,gd⟩::l) ⟨ts,L⟩ tr K:=by
 have e0:=A21 hnn;subst e0;rw[← htr,← hn.eq]at k;have hro:A5n (kap []) (as.map .d)=as.map .d:=by rw[A1Z];simp[T.ren]
 have h:=B2O (P:=P) (o:=⟨some d,.call { callee := .value x,args:=xs,argTypes:=tys },ty,pos,af,gd⟩) (x:=x) (xs:=xs) (tys:=tys) (cT := .d (.v (.func (.func f) #[] #[]))) (f:=f) (fresh:=L.length) (ρ:=[]) (rs:=[]) (ls:=[]) (news:=news) (fi:=[]) (ca:=[]) (as:=as.map .d) (ts:=as.map .d) (r:=t) rfl he (.inl ⟨rfl,rfl,rfl⟩) (by rw[← hx];simp) hc (by rw[hro];simp) (by rw[A3m];simp[T.sc]) sM rfl rfl sM sM;rw[A8V]at h;refine A2i (.run hw h ?_ (by simp[A5T]) (by simp[A9x]) hd) (by simpa[A5T,A9x,St.eff,A5m,A4m]using k);intro p hp;rcases ap.1 hp with rfl | hp
 ·exact⟨hf,by simp[ag,aM]⟩
 ·obtain⟨a,b⟩:=A2Z hx p hp;exact⟨a,by simp only[ag,aM,bK];exact .inr (by simpa using b)⟩
theorem X8 {b:Bool} (kt:b=true→L3 P N ops l ⟨(d,.d (.v (.bool true)))::ts,L⟩ tr K) (kf:b=false→L3 P N ops l ⟨(d,.d (.v (.bool false)))::ts,L⟩ tr K):L3 P N ops l ⟨(d,.d (.v (.bool b)))::ts,L⟩ tr K:=by
 cases b with
 | true=>exact kt rfl
 | false=>exact kf rfl
theorem B8b {t1 t2:ab} {x y:aa} {k:aU} {a b:Int} (hx:O9 ts x = .d (.v (.int k a))) (hy:O9 ts y = .d (.v (.int k b))) (hw:I2 ops ts ⟨some d,.binOp .lss t1 x y t2,ty,pos,af,gd⟩=some true) (hd:aq d N=true)
  (kk:L3 P N ops l ⟨(d,.d (.v (.bool (decide (a<b)))))::ts,L⟩ (tr++[.run [] []]) K):L3 P N ops (⟨some d,.binOp .lss t1 x y t2,ty,pos,af,gd⟩::l) ⟨ts,L⟩ tr K :=
 K0 (ins:=[(x,.d (.v (.int k a))),(y,.d (.v (.int k b)))]) rfl (A3z (p := .int k a) (q := .int k b) (z := .bool (decide (a<b))) rfl rfl (fun w=>by simp[go_sem])) hw (by simp[ag,hx,hy]) sM hd kk

theorem B8a {t1 t2:ab} {x y:aa} {k:aU} {a b:Int} (hx:O9 ts x = .d (.v (.int k a))) (hy:O9 ts y = .d (.v (.int k b))) (hw:I2 ops ts ⟨some d,.binOp .leq t1 x y t2,ty,pos,af,gd⟩=some true) (hd:aq d N=true)
  (kk:L3 P N ops l ⟨(d,.d (.v (.bool (decide (a≤b)))))::ts,L⟩ (tr++[.run [] []]) K):L3 P N ops (⟨some d,.binOp .leq t1 x y t2,ty,pos,af,gd⟩::l) ⟨ts,L⟩ tr K :=
 K0 (ins:=[(x,.d (.v (.int k a))),(y,.d (.v (.int k b)))]) rfl (A3z (p := .int k a) (q := .int k b) (z := .bool (decide (a≤b))) rfl rfl (fun w=>by simp[go_sem])) hw (by simp[ag,hx,hy]) sM hd kk

theorem B5u {t1 t2:ab} {x y:aa} {k:aU} {a b:Int} (hx:O9 ts x = .d (.v (.int k a))) (hy:O9 ts y = .d (.v (.int k b))) (hw:I2 ops ts ⟨some d,.binOp .gtr t1 x y t2,ty,pos,af,gd⟩=some true) (hd:aq d N=true)
  (kk:L3 P N ops l ⟨(d,.d (.v (.bool (decide (b<a)))))::ts,L⟩ (tr++[.run [] []]) K):L3 P N ops (⟨some d,.binOp .gtr t1 x y t2,ty,pos,af,gd⟩::l) ⟨ts,L⟩ tr K :=
 K0 (ins:=[(x,.d (.v (.int k a))),(y,.d (.v (.int k b)))]) rfl (A3z (p := .int k a) (q := .int k b) (z := .bool (decide (b<a))) rfl rfl (fun w=>by simp[go_sem])) hw (by simp[ag,hx,hy]) sM hd kk

theorem A3k {t1 t2:ab} {x y:aa} {k:aU} {a b:Int} (hx:O9 ts x = .d (.v (.int k a))) (hy:O9 ts y = .d (.v (.int k b))) (hw:I2 ops ts ⟨some d,.binOp .geq t1 x y t2,ty,pos,af,gd⟩=some true) (hd:aq d N=true)
  (kk:L3 P N ops l ⟨(d,.d (.v (.bool (decide (b≤a)))))::ts,L⟩ (tr++[.run [] []]) K):L3 P N ops (⟨some d,.binOp .geq t1 x y t2,ty,pos,af,gd⟩::l) ⟨ts,L⟩ tr K :=
 K0 (ins:=[(x,.d (.v (.int k a))),(y,.d (.v (.int k b)))]) rfl (A3z (p := .int k a) (q := .int k b) (z := .bool (decide (b≤a))) rfl rfl (fun w=>by simp[go_sem])) hw (by simp[ag,hx,hy]) sM hd kk

theorem A3s {t1 t2:ab} {x y:aa} {k:aU} {a b:Int} (hx:O9 ts x = .d (.v (.int k a))) (hy:O9 ts y = .d (.v (.int k b))) (hw:I2 ops ts ⟨some d,.binOp .eql t1 x y t2,ty,pos,af,gd⟩=some true) (hd:aq d N=true)
  (kk:L3 P N ops l ⟨(d,.d (.v (.bool (decide (a=b)))))::ts,L⟩ (tr++[.run [] []]) K):L3 P N ops (⟨some d,.binOp .eql t1 x y t2,ty,pos,af,gd⟩::l) ⟨ts,L⟩ tr K :=
 K0 (ins:=[(x,.d (.v (.int k a))),(y,.d (.v (.int k b)))]) rfl (A3z (p := .int k a) (q := .int k b) (z := .bool (decide (a=b))) rfl rfl (fun w=>by simp[go_sem];rfl)) hw (by simp[ag,hx,hy]) sM hd kk

theorem D3T {t1 t2:ab} {x y:aa} {k:aU} {a b:Int} (hx:O9 ts x = .d (.v (.int k a))) (hy:O9 ts y = .d (.v (.int k b))) (hw:I2 ops ts ⟨some d,.binOp .neq t1 x y t2,ty,pos,af,gd⟩=some true) (hd:aq d N=true)
  (kk:L3 P N ops l ⟨(d,.d (.v (.bool (!decide (a=b)))))::ts,L⟩ (tr++[.run [] []]) K):L3 P N ops (⟨some d,.binOp .neq t1 x y t2,ty,pos,af,gd⟩::l) ⟨ts,L⟩ tr K :=
 K0 (ins:=[(x,.d (.v (.int k a))),(y,.d (.v (.int k b)))]) rfl (A3z (p := .int k a) (q := .int k b) (z := .bool (!decide (a=b))) rfl rfl (fun w=>by simp[go_sem];rfl)) hw (by simp[ag,hx,hy]) sM hd kk

theorem Y1 {t e:ab} {i ei:TI} {x y:aa} {n s len:Nat} {k:aU} {q:Int} (tb:Tab P) (ht:tb.f t=some i) (hs:i.sl=some e) (he:tb.f e=some ei) (hx:O9 ts x = .row n s 0 len) (hz:ei.size=s) (hy:O9 ts y = .d (.v (.int k q))) (h0:0≤q) (h1:q<len) (hw:I2 ops ts ⟨some d,.indexAddr t x y,ty,pos,af,gd⟩=some true) (hd:aq d N=true)
  (kk:L3 P N ops l ⟨(d,.ref n s q.toNat 0)::ts,L⟩ (tr++[.run [] []]) K):L3 P N ops (⟨some d,.indexAddr t x y,ty,pos,af,gd⟩::l) ⟨ts,L⟩ tr K:=by
 refine C0F tb ht hs he hx hz hy h0 h1 hw hd ?_;rw[aZ];exact kk
theorem C0N {α:Type} {t:ab} {i:TI} {x y:aa} {n s c:Nat} {j:Int} {w:List α} {g:α→D} {u:T} {a a':α} (tb:Tab P) (ht:tb.f t=some i) (hx:O9 ts x = .ref n s j.toNat c) (hy:O9 ts y=u) (hr:L[n]?=some (some ⟨s,w.map fun a => .d (g a)⟩)) (hj:P3 w j=some a) (hu:u.cells.length=i.size)
  (h1:A4y u.cells=true) (hc:bL (c+i.size) (T.d (g a)).cells.length=true) (hg:A9t (.d (g a)) c u = .d (g a')) {L':LR} (hL:L.set n (some ⟨s,(w.set j.toNat a').map fun a => .d (g a)⟩)=L') (hw:I2 ops ts ⟨none,.store t x y,ty,pos,af,gd⟩=some true)
  (k:L3 P N ops l ⟨ts,L'⟩ (tr++[.run [n] [n]]) K):L3 P N ops (⟨none,.store t x y,ty,pos,af,gd⟩::l) ⟨ts,L⟩ tr K:=by
 refine C0L tb ht hx hy hr rfl (U5 (g:=fun a=>T.d (g a)) hj) hu h1 hc (r':=⟨s,(w.set j.toNat a').map fun a => .d (g a)⟩) ?_ hL hw k;rw[hg,List.map_set]
theorem A5d {α:Type} {t:ab} {i:TI} {x y:aa} {n s c:Nat} {j:Int} {w q:List α} {g:α→D} {u:T} {a a':α} (tb:Tab P) (ht:tb.f t=some i) (hx:O9 ts x = .ref n s j.toNat c) (hy:O9 ts y=u) (hr:L[n]?=some (some ⟨s,w.map fun a => .d (g a)⟩)) (hj:P3 w j=some a) (hu:u.cells.length=i.size)
  (h1:A4y u.cells=true) (hc:bL (c+i.size) (T.d (g a)).cells.length=true) (hg:A9t (.d (g a)) c u = .d (g a')) (hq:A5g w j a'=some q) {L':LR} (hL:L.set n (some ⟨s,q.map fun a => .d (g a)⟩)=L') (hw:I2 ops ts ⟨none,.store t x y,ty,pos,af,gd⟩=some true)
  (k:L3 P N ops l ⟨ts,L'⟩ (tr++[.run [n] [n]]) K):L3 P N ops (⟨none,.store t x y,ty,pos,af,gd⟩::l) ⟨ts,L⟩ tr K:=by
 have:=B8i hq;subst this;exact C0N tb ht hx hy hr hj hu h1 hc hg hL hw k
theorem C0M {t:ab} {i:TI} {x y:aa} {n s q c:Nat} {r:Rw} {e u:T} (r':Rw) (L':LR) (tb:Tab P) (ht:tb.f t=some i) (hx:O9 ts x = .ref n s q c) (hy:O9 ts y=u) (hr:L[n]?=some (some r)) (hs:r.s=s) (he:r.els[q]?=some e) (hu:u.cells.length=i.size)
  (h1:A4y u.cells=true) (hc:bL (c+i.size) e.cells.length=true) (hr':(⟨r.s,r.els.set q (A9t e c u)⟩:Rw)=r') (hL:L.set n (some r')=L') (hw:I2 ops ts ⟨none,.store t x y,ty,pos,af,gd⟩=some true)
  (k:L3 P N ops l ⟨ts,L'⟩ (tr++[.run [n] [n]]) K):L3 P N ops (⟨none,.store t x y,ty,pos,af,gd⟩::l) ⟨ts,L⟩ tr K :=
 C0L tb ht hx hy hr hs he hu h1 hc hr' hL hw k
theorem B0Y {α:Type} {w:List α} {g:α→D} (h:∀ a,A4y (T.d (g a)).cells=true):A3f (w.map fun a=>T.d (g a))=true:=by
 unfold A3f;rw[dC,ax];exact fun a _=>h a
theorem B2k {α:Type} {t e:ab} {i ei:TI} {x y:aa} {s n n' len len':Nat} {w v q:List α} {g:α→D} (L':LR) (tb:Tab P) (ht:tb.f t=some i) (hsl:i.sl=some e) (he:tb.f e=some ei) (hz:ei.size=s) (hx:O9 ts x = .row n s 0 len) (hy:O9 ts y = .row n' s 0 len') (hr:L[n]?=some (some ⟨s,w.map fun a => .d (g a)⟩)) (hlen:w.length=len)
  (hr2:L[n']?=some (some ⟨s,v.map fun a => .d (g a)⟩)) (hlen2:v.length=len') (h1:A3f (v.map fun a => .d (g a))=true) (hq:A8i w v=some q) (hb:bL ei.bytes 65536=true) (hL:L.set n none=L') {nn:Nat} {nr:List Nat} (hnn:A4f.drop L.length=nn::nr)
  (hw:I2 ops ts ⟨some d,.call { callee := .builtin .append,args:=#[x,y],argTypes:=#[t,t] },ty,pos,af,gd⟩=some true) (hd:aq d N=true)
  (k:L3 P N ops l ⟨(d,.row nn s 0 q.length)::ts,L'++[some ⟨s,q.map fun a => .d (g a)⟩]⟩ (tr++[.run [n,n',nn] [n,nn]]) K):L3 P N ops (⟨some d,.call { callee := .builtin .append,args:=#[x,y],argTypes:=#[t,t] },ty,pos,af,gd⟩::l) ⟨ts,L⟩ tr K:=by
 obtain⟨h2,rfl⟩:=B95 hq;subst hlen hlen2;refine C1a (q:=v.map fun a=>T.d (g a)) (m:=v.length) tb ht hsl he hz hx hy hr rfl sM hr2 rfl (by rw[List.drop_zero,List.take_of_length_le sM]) sM h1 (by simpa using h2) hb sM hL hnn hw hd ?_;rw[bz,eG]at k;exact k
theorem C3k {α:Type} {t e:ab} {i ei:TI} {x y:aa} {s n len:Nat} {w v q:List α} {g:α→D} (L':LR) (tb:Tab P) (ht:tb.f t=some i) (hsl:i.sl=some e) (he:tb.f e=some ei) (hz:ei.size=s) (hx:O9 ts x = .row n s 0 len) (hy:O9 ts y = .d (.arr s (v.map g))) (hr:L[n]?=some (some ⟨s,w.map fun a => .d (g a)⟩)) (hlen:w.length=len)
  (h1:∀ a,A4y (T.d (g a)).cells=true) (hq:A8i w v=some q) (hb:bL ei.bytes 65536=true) (hL:L.set n none=L') {nn:Nat} {nr:List Nat} (hnn:A4f.drop L.length=nn::nr)
  (hw:I2 ops ts ⟨some d,.call { callee := .builtin .append,args:=#[x,y],argTypes:=#[t,t] },ty,pos,af,gd⟩=some true) (hd:aq d N=true)
  (k:L3 P N ops l ⟨(d,.row nn s 0 q.length)::ts,L'++[some ⟨s,q.map fun a => .d (g a)⟩]⟩ (tr++[.run [n,nn] [n,nn]]) K):L3 P N ops (⟨some d,.call { callee := .builtin .append,args:=#[x,y],argTypes:=#[t,t] },ty,pos,af,gd⟩::l) ⟨ts,L⟩ tr K:=by
 obtain⟨h2,rfl⟩:=B95 hq;subst hlen;refine C3r (q:=v.map g) tb ht hsl he hz hx hy hr rfl sM (by rw[ck];exact B0Y h1) (by simpa using h2) hb hL hnn hw hd ?_;rw[bz,eG]at k;rw[ck,aS];exact k
theorem A6E {t e:ab} {i ei:TI} {x z:aa} {s:Nat} {α:Type} {w q:List α} {g:α→D} {k2:aU} {j:Int} (tb:Tab P) (ht:tb.f t=some i) (hs:i.sl=some e) (he:tb.f e=some ei) (hx:O9 ts x = .d (.arr s (w.map g))) (hz:ei.size=s) (hy:O9 ts z = .d (.v (.int k2 j))) (hq:A7A w 0 j=some q) (hw:I2 ops ts ⟨some d,.slice t x none (some z) none,ty,pos,af,gd⟩=some true) (hd:aq d N=true)
  (kk:L3 P N ops l ⟨(d,.d (.arr s (q.map g)))::ts,L⟩ (tr++[.run [] []]) K):L3 P N ops (⟨some d,.slice t x none (some z) none,ty,pos,af,gd⟩::l) ⟨ts,L⟩ tr K:=by
 unfold A7A at hq;split at hq
 ·rename_i h;injection hq with hq
  subst hq;obtain⟨m,rfl⟩:=Int.eq_ofNat_of_zero_le h.2.1;refine B9g tb ht hs he hx hz hy oM hw hd ?_;simpa using kk
 ·cases hq
theorem D4h {t:ab} {x y:aa} {b:ByteArray} {k:aU} {q c:Int} (ht:P.underlying t=some .string) (hx:O9 ts x = .d (.v (.string b))) (hy:O9 ts y = .d (.v (.int k q))) (hc:ixB b q=some c) (hw:I2 ops ts ⟨some d,.index t x y,ty,pos,af,gd⟩=some true) (hd:aq d N=true)
  (kk:L3 P N ops l ⟨(d,.d (.v (.int .u8 c)))::ts,L⟩ (tr++[.run [] []]) K):L3 P N ops (⟨some d,.index t x y,ty,pos,af,gd⟩::l) ⟨ts,L⟩ tr K:=by
 unfold ixB at hc;split at hc
 ·rename_i h0;rw[an]at hc;obtain⟨c',h1,rfl⟩:=hc;exact D4i ht hx hy h0 h1 hw hd kk
 ·cases hc
theorem B6h {g:G}:∀ {p:List al} {c:al},VT g (.d (.agg (p.map .v))) c→c = .agg p.toArray:=fun {p c} h=>by
 cases h with | d h =>
 cases h with | agg _ cs hl h =>
 congr 1;apply cS;apply dH;intro i;simp only[aS]at hl;by_cases hi:i<p.length
 ·have h1:(p.map D.v)[i]?=some (.v p[i]):=by simp[hi]
  have h2:cs[i]?=some cs[i]:=aE oM;have h3:cs[i]=p[i]:=VT.v_eq (.d (h i _ _ h1 h2));rw[bC,h2,h3,gE hi]
 ·rw[aD (by simp;omega),aD (by simp;omega)]
def A1a (s:ByteArray):List Int:=s.data.toList.map fun b=>(b.toNat:Int)
theorem B8N {P:ah} {o:Oper} {fresh:Nat} {src dst e:ab} {x:aa} {b:ByteArray} (hop:o.op = .convert src dst x) (hs:P.underlying src=some .string) (hd:P.underlying dst=some (.slice e)) (he:P.underlying e=some (.int .u8)) :
  OpS P o [(x,.d (.v (.string b)))] [] [] fresh [] (.d (.arr 1 ((A1a b).map v8))) :=
 .of_run (fun c h=>by rw[hop]at h;cases h) fun g a hg hi hr hn=>by
  have e1:=(hi (x,.d (.v (.string b))) sM).v_eq;dsimp only at e1;have hrun:=run_bytes_of_string (P:=P) g.w src dst e b hs hd he;obtain⟨C,hC⟩:∃ C,C=bytesRow b (grownCap g.w b.size 0 e):=⟨_,rfl⟩;rw[← hC]at hrun;obtain⟨w',hw'⟩:∃ w',w'=g.w.drew.alloc (.cells C e (C.size,C.size+1)):=⟨_,rfl⟩;rw[← hw']at hrun;have hh:w'.heap=g.w.heap.push (.cells C e (C.size,C.size+1)):=by rw[hw'];rfl
  have hold:∀ k,k<g.w.heap.size→w'.heap[k]?=g.w.heap[k]?:=fun k hk=>by rw[hh,bS,if_neg oM]
  obtain⟨g',hg'⟩:∃ g':G,g'=⟨g.M,g.β,fun k=>g.K k∨k=g.w.heap.size,w'⟩:=⟨_,rfl⟩;have hle:Le g g':=by
   rw[hg'];exact⟨fun n hn=>⟨hn,rfl⟩,by show _≤w'.heap.size;rw[hh];simp,by rw[hw'];rfl,by rw[hw'];rfl,by rw[hw'];rfl,fun k hk _=>hold k hk,fun k hk => .inl hk,fun k hk h=>by rcases h with h | h;exact .inl h;omega,fun n r hn h0 _ hh=>hh n r hn h0 rfl⟩
  have hgood:P6 g':=by
   rw[hg']at hle ⊢;refine⟨fun n r hn=>(hg.rows n r hn).keep hg hle rfl fun h0=>hold _ ((hg.rows n r hn).lt h0),hg.inj,fun k hk=>?_,fun k hk n r hn h0=>?_⟩
   ·show k<w'.heap.size;rw[hh];simp only[Array.size_push];rcases hk with hk | hk
    ·have:=hg.kd k hk;omega
    ·omega
   ·rcases hk with hk | hk
    ·exact hg.kl k hk n r hn h0
    ·have:=(hg.rows n r hn).lt h0;dsimp only;omega
  have hcap:=grownCap_ge g.w b.size 0 e;refine⟨.slice (some ⟨g.w.heap.size,0,none⟩) b.size (grownCap g.w b.size 0 e),g',.inl ?_,hgood,hle,by rw[hg',B3o],?_⟩
  ·rw[hg'];simp only[aT,hop,e1,Sem.run_bind,hrun];rfl
  ·have hlen:((A1a b).map v8).length=b.size:=by
    rw[aS,A1a,aS,Array.length_toList];rfl
   have:=VD.arr (g:=g') 1 ((A1a b).map v8) g.w.heap.size 0 (grownCap g.w b.size 0 e) (fun i _ => .int .u8 ((A1a b).getD i 0)) (by rw[hlen];exact hcap) (by rw[hg'];exact .inr rfl) (fun i d hd=>?_) (fun i d hd j e' he'=>?_) (fun i d hd j e' he'=>?_)
   ·rw[hlen]at this;exact .d this
   ·rw[gM,an]at hd;obtain⟨c,_,rfl⟩:=hd;rfl
   ·rw[gM,an]at hd;obtain⟨c,hc,rfl⟩:=hd;have hj:j=0:=by have:=(gS he').1;simpa[v8,D.cells]using this
    subst hj;have hi:i<(A1a b).length:=(gS hc).1;have hib:i<b.data.size:=by simpa[A1a]using hi
    have hcell:C[i]?=some (.int .u8 ((A1a b).getD i 0)):=by
     rw[hC];unfold bytesRow;rw[dN (by simpa using hib)];simp only[Array.getElem?_map,A1a,am,gM,bC,aE hib,bh,aR]
    rw[hg'];simp[World.cell?,hh,hcell]
   ·rw[gM,an]at hd;obtain⟨c,hc,rfl⟩:=hd;have hj:j=0:=by have:=(gS he').1;simpa[v8,D.cells]using this
    subst hj;simp only[v8,D.cells,cq,aK]at he';subst he';rw[am,hc];exact .v _ rfl
theorem B9c {src dst e:ab} {x:aa} {b:ByteArray} (hs:P.underlying src=some .string) (hd':P.underlying dst=some (.slice e)) (he:P.underlying e=some (.int .u8)) (hx:O9 ts x = .d (.v (.string b))) (hw:I2 ops ts ⟨some d,.convert src dst x,ty,pos,af,gd⟩=some true) (hd:aq d N=true)
  (kk:L3 P N ops l ⟨(d,.d (.arr 1 ((A1a b).map v8)))::ts,L⟩ (tr++[.run [] []]) K):L3 P N ops (⟨some d,.convert src dst x,ty,pos,af,gd⟩::l) ⟨ts,L⟩ tr K :=
 K0 (ins:=[(x,.d (.v (.string b)))]) rfl (B8N rfl hs hd' he) hw (by simp[ag,hx]) sM hd kk
theorem B7K {P:ah} {o:Oper} {fresh:Nat} {op:BinOp} {ty ty':ab} {x y:aa} {p q:List al} {z:al} (hop:o.op = .binOp op ty x y ty') (h1:one z)
  (hz:∀ w,(do eqGuard op ty x y (.agg p.toArray) (.agg q.toArray);binOp op ty (.agg p.toArray) (.agg q.toArray):Sem al).run P w = .ok z w):OpS P o [(x,.d (.agg (p.map .v))),(y,.d (.agg (q.map .v)))] [] [] fresh [] (.d (.v z)) :=
 .of_pure (fun c h=>by rw[hop]at h;cases h) fun g a _ hi _=>⟨z,by
  have e1:=B6h (hi (x,.d (.agg (p.map .v))) sM);have e2:=B6h (hi (y,.d (.agg (q.map .v))) sM);dsimp only at e1 e2;have:=hz g.w;simp only[aT,hop,e1,e2,Sem.run_bind]at this ⊢;rw[this];rfl,.d (.v z h1)⟩
theorem B9W {t1 t2:ab} {x y:aa} {p q:List al} {b:Bool} (hx:O9 ts x = .d (.agg (p.map .v))) (hy:O9 ts y = .d (.agg (q.map .v))) (hz:∀ (o1 o2:aa) w,(do eqGuard .eql t1 o1 o2 (.agg p.toArray) (.agg q.toArray);binOp .eql t1 (.agg p.toArray) (.agg q.toArray):Sem al).run P w = .ok (.bool (b)) w) (hw:I2 ops ts ⟨some d,.binOp .eql t1 x y t2,ty,pos,af,gd⟩=some true) (hd:aq d N=true)
  (kk:L3 P N ops l ⟨(d,.d (.v (.bool (b))))::ts,L⟩ (tr++[.run [] []]) K):L3 P N ops (⟨some d,.binOp .eql t1 x y t2,ty,pos,af,gd⟩::l) ⟨ts,L⟩ tr K :=
 K0 (ins:=[(x,.d (.agg (p.map .v))),(y,.d (.agg (q.map .v)))]) rfl (B7K (z := .bool (b)) rfl rfl (fun w=>hz x y w)) hw (by simp[ag,hx,hy]) sM hd kk
theorem B8c {t1 t2:ab} {x y:aa} {p q:List al} {b:Bool} (hx:O9 ts x = .d (.agg (p.map .v))) (hy:O9 ts y = .d (.agg (q.map .v))) (hz:∀ (o1 o2:aa) w,(do eqGuard .neq t1 o1 o2 (.agg p.toArray) (.agg q.toArray);binOp .neq t1 (.agg p.toArray) (.agg q.toArray):Sem al).run P w = .ok (.bool (!b)) w) (hw:I2 ops ts ⟨some d,.binOp .neq t1 x y t2,ty,pos,af,gd⟩=some true) (hd:aq d N=true)
  (kk:L3 P N ops l ⟨(d,.d (.v (.bool (!b))))::ts,L⟩ (tr++[.run [] []]) K):L3 P N ops (⟨some d,.binOp .neq t1 x y t2,ty,pos,af,gd⟩::l) ⟨ts,L⟩ tr K :=
 K0 (ins:=[(x,.d (.agg (p.map .v))),(y,.d (.agg (q.map .v)))]) rfl (B7K (z := .bool (!b)) rfl rfl (fun w=>hz x y w)) hw (by simp[ag,hx,hy]) sM hd kk
end
def A2e {α β:Type} [BEq α] (m:List (α × β)) (k:α):Option β:=(m.find? fun p=>k==p.1).map (·.2)
def M0 {α β:Type} [BEq α]:List (α × β)→α→β→List (α × β)
 | [],k,v=>[(k,v)]
 | p::m,k,v=>bif k==p.1 then(k,v)::m else p::M0 m k v
structure A9W (P:ah) (kt:ab) {α:Type} [BEq α] (kv:α→al):Prop where
 desc:∃ desc,P.underlying kt=some desc∧∀ a b,Instr.sameNow desc (kv a) (kv b)=some (a==b)
 check:∀ (e:Bool) (a:α) (w:aO),(Instr.checkKey e 10000 kt (kv a)).run P w = .ok () w
 bits:∀ a b,(a==b)=true→Instr.sameBits 10000 (kv b) (kv a)=true
theorem B3k (a:Int) (n:Nat):Instr.sameBits n (.int .i64 a) (.int .i64 a)=true:=by cases n<;>simp[Instr.sameBits]
theorem A9W.int {P:ah} {kt:ab} (h:P.underlying kt=some (.int .i64)):A9W P kt (fun a:Int => .int .i64 a) where
 desc:=⟨_,h,fun a b=>by simp[Instr.sameNow]⟩
 check e a w:=MapKept.run_checkKey (k := .int .i64 a) h (show MapKept.IsKey (.int .i64) (.int .i64 a)from rfl) e 9999
 bits a b hab:=by
  simp only[beq_iff_eq]at hab;subst hab;exact B3k _ _
theorem B3j {P:ah} (t:ab) (w:aO):(Instr.makeMap t none).run P w = .ok (.map (some w.heap.size)) (w.alloc (.map #[] 0)):=rfl
section
variable {α β:Type} [BEq α] {P:ah} {kt:ab} {kv:α→al}
def A7u:List (α × β)→α→Nat→Option Nat
 | [],_,_=>none
 | p::m,k,i=>bif k==p.1 then some i else A7u m k (i+1)
theorem A9A {desc:TypeDesc} (hs:∀ a b,Instr.sameNow desc (kv a) (kv b)=some (a==b)) (k:α):∀ (l:List dR) (m:List (α × β)) (i:Nat),l.map (·.key)=m.map (fun p=>kv p.1) →
  (A2e m k=none∧A7u m k i=none∧Instr.findNow desc (kv k) l i=some none) ∨
  ∃ j e p,l[j]?=some e∧m[j]?=some p∧(k==p.1)=true∧A2e m k=some p.2∧A7u m k i=some (i+j)∧Instr.findNow desc (kv k) l i=some (some (i+j,e.val))
 | [],m,i,h=>by
  have:m=[]:=by cases m<;>simp at h;rfl
  subst this;exact .inl ⟨rfl,rfl,rfl⟩
 | e::l,[],i,h=>by simp at h
 | e::l,p::m,i,h=>by
  simp only[bw,de]at h;have h1:=hs k p.1;rw[← h.1]at h1;cases hb:k==p.1 with
  | true =>
   rw[hb]at h1;refine .inr ⟨0,e,p,rfl,rfl,hb,by simp[A2e,hb],by simp[A7u,hb],by simp[Instr.findNow,h1]⟩
  | false =>
   rw[hb]at h1;rcases A9A hs k l m (i+1) h.2 with⟨h2,h3,h4⟩ | ⟨j,e',p',h2,h3,h4,h5,h6,h7⟩
   ·refine .inl ⟨?_,by simp[A7u,hb,h3],by simp[Instr.findNow,h1,h4]⟩;unfold A2e at h2 ⊢;rw[cc,hb];exact h2
   ·refine .inr ⟨j+1,e',p',by simpa using h2,by simpa using h3,h4,?_,by simp[A7u,hb,h6];omega,?_⟩
    ·unfold A2e at h5 ⊢;rw[cc,hb];exact h5
    ·simp[Instr.findNow,h1,h7];omega
theorem B2b {m:List (α × β)} {k:α} {v:β} (h:A2e m k=none):M0 m k v=m++[(k,v)]:=by
 induction m with
 | nil=>rfl
 | cons p m ih =>
  unfold A2e at h ih;rw[cc]at h;cases hb:k==p.1 with
  | true=>rw[hb]at h;simp at h
  | false =>
   rw[hb]at h;simp only[M0,hb,cond_false,List.cons_append];rw[ih h]
theorem B3R {m:List (α × β)} {k:α} {v:β}:∀ {i:Nat} {j:Nat},A7u m k i=some (i+j)→∀ n,(M0 m k v)[n]?=if n=j then some (k,v)else m[n]?:=by
 induction m with
 | nil=>intro i j h;simp[A7u]at h
 | cons p m ih =>
  intro i j h n;unfold A7u at h;cases hb:k==p.1 with
  | true =>
   rw[hb]at h;simp only[cond_true,aK]at h;have:j=0:=by omega
   subst this;simp only[M0,hb,cond_true];cases n<;>simp
  | false =>
   rw[hb]at h;simp only[cond_false]at h;obtain⟨j',rfl⟩:∃ j',j=j'+1:=by
    cases j with
    | zero =>
     exfalso;have key:∀ (m:List (α × β)) (i q:Nat),A7u m k i=some q→i≤q:=by
      intro m;induction m with
      | nil=>intro i q h;simp[A7u]at h
      | cons p m ih =>
       intro i q h;unfold A7u at h;cases hb:k==p.1 with
       | true=>rw[hb]at h;simp at h;omega
       | false=>rw[hb]at h;simp at h;have:=ih _ _ h;omega
     have:=key _ _ _ h;omega
    | succ j'=>exact⟨j',rfl⟩
   have:=ih (i:=i+1) (j:=j') (by rw[h];congr 1;omega);simp only[M0,hb,cond_false];cases n with
   | zero=>simp
   | succ n=>simpa using this n
def A7d (kv:α→al) (vf:β→D) (m:List (α × β)):Rw:=⟨0,m.map fun p => .agg [.d (.v (kv p.1)),.d (vf p.2)]⟩
omit [BEq α] in
theorem B1v {g:G} {n:Nat} {vf:β→D} {m:List (α × β)} (h:A4q g n (A7d kv vf m)):(g.β n).2=1∧∃ es clock,g.w.heap[(g.β n).1]?=some (.map es clock)∧es.toList.map (·.key)=m.map (fun p=>kv p.1)∧∀ (i:Nat) (p:α × β) (e:dR),m[i]?=some p→es[i]?=some e→VD g (vf p.2) e.val:=by
 rcases h with⟨_,_,h3⟩ | ⟨h1,_⟩ | ⟨_,h2,es,clock,h3,h4,h5⟩
 ·exact absurd rfl h3
 ·exact absurd rfl h1
 have hlen:es.size=m.length:=by rw[h4];simp[A7d]
 have get:∀ (i:Nat) (p:α × β),m[i]?=some p→∃ e,es[i]?=some e∧e.key=kv p.1∧VD g (vf p.2) e.val:=fun i p hp=>by
  obtain⟨k,y,e,q1,q2,q3,q4⟩:=h5 i (.agg [.d (.v (kv p.1)),.d (vf p.2)]) (by simp[A7d,hp]);simp only[T.agg.injEq,de,T.d.injEq,D.v.injEq,and_true]at q1;obtain⟨rfl,rfl⟩:=q1;cases q4 with | d q4=>exact⟨e,q2,q3,q4⟩
 refine⟨h2,es,clock,h3,?_,fun i p e h6 h7=>?_⟩
 ·apply dH;intro i;rw[gM,gM,bC];by_cases hi:i<m.length
  ·obtain⟨e,q1,q2,_⟩:=get i m[i] (gE hi);rw[q1,gE hi];simp[q2]
  ·rw[aD oM,Array.getElem?_eq_none oM];rfl
 ·obtain⟨e',q1,_,q3⟩:=get i p h6;rw[q1]at h7;injection h7 with h7
  exact h7▸q3
variable {o:Oper} {fresh:Nat}
theorem B6C {t:ab} (hop:o.op = .makeMap t none):OpS P o [] [] [] fresh [⟨0,[]⟩] (.mp fresh) :=
 .of_run (fun c h=>by rw[hop]at h;cases h) fun g a hg _ _ hn=>by
  have hn0:=hn 0 sM;rw[bj]at hn0;refine⟨.map (some g.w.heap.size),g.grow fresh ⟨0,[]⟩ 1 (g.w.alloc (.map #[] 0)),.inl ?_,P6.growR hg hn0 (.inl rfl) (.inr (.inr ⟨rfl,by simp[G.grow],#[],0,?_,rfl,fun i x hx=>by simp at hx⟩)),Le.grow hn0 _ _ (.inl rfl),A9w _ _ _,?_⟩
  ·simp[aT,hop,B3j,G.grow]
  ·simp only[G.grow,if_true];show(g.w.heap.push _)[g.w.heap.size]?=_;simp
  ·have:=VT.mp (g:=g.grow fresh ⟨0,[]⟩ 1 (g.w.alloc (.map #[] 0))) fresh (by simp[G.grow]);simpa[G.grow]using this
theorem A9s {t e:ab} {ei:TI} {w:aO} (ht:P.underlying t=some (.map kt e)) (he:TOk P e ei) (K:A9W P kt kv) {b:Nat} {es:Array dR} {clock:Nat} (hb:w.heap[b]?=some (.map es clock)) {m:List (α × β)} (hk:es.toList.map (·.key)=m.map (fun p=>kv p.1)) (k:α) :
  ∃ zv,ei.z=ofV zv∧((A2e m k=none∧∀ ok,(Instr.lookup t (.map (some b)) (kv k) ok).run P w = .ok (if ok then .tuple #[zv,.bool false]else zv) w) ∨
   ∃ (j:Nat) (p:α × β) (en:dR),m[j]?=some p∧es[j]?=some en∧A2e m k=some p.2∧∀ ok,(Instr.lookup t (.map (some b)) (kv k) ok).run P w = .ok (if ok then .tuple #[en.val,.bool true]else en.val) w):=by
 obtain⟨info,zv,hinf,hz,_,_,_,hzv,_,_⟩:=he.info;obtain⟨desc,hd,hs⟩:=K.desc;refine⟨zv,hzv,?_⟩;rcases A9A hs k es.toList m 0 hk with⟨h1,_,h2⟩ | ⟨j,en,p,h1,h2,_,h4,_,h5⟩
 ·refine .inl ⟨h1,fun ok=>?_⟩;have hf:=MapKept.run_findKey (w:=w) hd h2;cases ok<;>simp[Instr.lookup,aV ht,MapKept.run_getObj_map hb,K.check,hf,zeroValue,bT,hinf,hz,Result.andThen]
 ·refine .inr ⟨j,p,en,h2,by simpa using h1,h4,fun ok=>?_⟩;rw[aZ]at h5;have hf:=MapKept.run_findKey (w:=w) hd h5;cases ok<;>simp[Instr.lookup,aV ht,MapKept.run_getObj_map hb,K.check,hf,Result.andThen]
theorem B3V {t e:ab} {ei:TI} {x y:aa} {n:Nat} {vf:β→D} {m:List (α × β)} {k:α} {z0:β} (hop:o.op = .lookup t x y false) (ht:P.underlying t=some (.map kt e)) (he:TOk P e ei) (K:A9W P kt kv) (hz:ei.z = .d (vf z0)) :
  OpS P o [(x,.mp n),(y,.d (.v (kv k)))] [(n,A7d kv vf m)] [] fresh [] (.d (vf ((A2e m k).getD z0))) :=
 .of_pure (fun c h=>by rw[hop]at h;cases h) fun g a hg hi hr=>by
  have hx:=hi (x,.mp n) sM;have hy:=(hi (y,.d (.v (kv k))) sM).v_eq;generalize hv:a.eval x=v at hx;cases hx with | mp _ hn =>
  dsimp only at hy;obtain⟨_,es,clock,h1,h2,h3⟩:=B1v (hg.rows n _ (hr (n,A7d kv vf m) sM));obtain⟨zv,hzv,h4⟩:=A9s ht he K h1 h2 k;rcases h4 with⟨h5,h6⟩ | ⟨j,p,en,h5,h6,h7,h8⟩
  ·refine⟨zv,by simp[aT,hop,hv,hy,h6 false],?_⟩;rw[h5,Option.getD_none,← hz,hzv];exact VT.ofV g zv
  ·refine⟨en.val,by simp[aT,hop,hv,hy,h8 false],?_⟩;rw[h7,aR];exact .d (h3 j p en h5 h6)
theorem B0X {t e:ab} {x y z:aa} {n:Nat} {vf:β→D} {m:List (α × β)} {k:α} {v:β} (hop:o.op = .mapUpdate t x y z∨o.op = .insert t x y z) (ht:P.underlying t=some (.map kt e)) (K:A9W P kt kv) :
  OpS P o [(x,.mp n),(y,.d (.v (kv k))),(z,.d (vf v))] [(n,A7d kv vf m)] [(n,some (A7d kv vf (M0 m k v)))] fresh [] .bot :=
 .of_run (fun c h=>by rcases hop with hop | hop<;>rw[hop]at h<;>cases h) fun g a hg hi hr _=>by
  have hx:=hi (x,.mp n) sM;have hy:=(hi (y,.d (.v (kv k))) sM).v_eq;have hzv:=hi (z,.d (vf v)) sM;generalize hv:a.eval x=xv at hx;cases hx with | mp _ hn =>
  dsimp only at hy hzv;have hnM:=hr (n,A7d kv vf m) sM;dsimp only at hnM;obtain⟨hcap,es,clock,h1,h2,h3⟩:=B1v (hg.rows n _ hnM);have hc0:(g.β n).2≠0:=by omega
  obtain⟨desc,hd,hs⟩:=K.desc;have hlen:es.size=m.length:=by have:=congrArg List.length h2;simpa using this
  obtain⟨es',clock',hrun,hsz,hent⟩:∃ (es':Array dR) (clock':Nat),(Instr.mapUpdate t (.map (some (g.β n).1)) (kv k) (a.eval z)).run P g.w = .ok () { g.w with heap:=g.w.heap.setIfInBounds (g.β n).1 (.map es' clock') }∧es'.size=(M0 m k v).length ∧
    ∀ (i:Nat) (p:α × β),(M0 m k v)[i]?=some p→∃ en,es'[i]?=some en∧en.key=kv p.1∧VT g (.d (vf p.2)) en.val:=by
   have old:∀ (i:Nat) (p:α × β),m[i]?=some p→∃ en,es[i]?=some en∧en.key=kv p.1∧VT g (.d (vf p.2)) en.val:=fun i p hp=>by
    have hi:i<es.size:=by rw[hlen];exact(gS hp).1
    have q:es[i]?=some es[i]:=aE hi;refine⟨_,q,?_,.d (h3 i p _ hp q)⟩;have:=congrArg (fun l=>l[i]?) h2;simp only[gM,bC,q,hp,bh,aK]at this;exact this
   rcases A9A hs k es.toList m 0 h2 with⟨q1,_,q2⟩ | ⟨j,en,p,q1,q2,q3,q4,q5,q6⟩
   ·have hf:=MapKept.run_findKey (w:=g.w) hd q2;refine⟨es.push { key:=kv k,val:=a.eval z,born:=clock },clock+1,?_,by rw[B2b q1];simp[hlen],fun i p hp=>?_⟩
    ·simp[Instr.mapUpdate,aV ht,MapKept.run_getObj_map h1,K.check,hf,MapKept.run_setObj_map _ h1]
    ·rw[B2b q1]at hp;by_cases him:i<m.length
     ·rw[aC him]at hp;obtain⟨en,w1,w2,w3⟩:=old i p hp;exact⟨en,by rw[bS,if_neg oM];exact w1,w2,w3⟩
     ·rw[aG oM]at hp;have hi0:i-m.length=0:=by
       rcases Nat.eq_zero_or_pos (i-m.length)with h | h
       ·exact h
       ·rw[aD (by simp;omega)]at hp;cases hp
      rw[hi0]at hp;simp at hp;subst hp;refine⟨_,by rw[bS,if_pos oM],rfl,hzv⟩
   ·rw[aZ]at q5 q6;have hf:=MapKept.run_findKey (w:=g.w) hd q6;have hje:es[j]?=some en:=by simpa using q1
    have hkey:en.key=kv p.1:=by
     obtain⟨en',w1,w2,_⟩:=old j p q2;rw[hje]at w1;injection w1 with w1;rw[w1];exact w2
    have hsb:Instr.sameBits 10000 en.key (kv k)=true:=by rw[hkey];exact K.bits k p.1 q3
    refine⟨es.modify j fun e=>{ e with key:=kv k,val:=a.eval z },clock,?_,?_,fun i p' hp=>?_⟩
    ·simp[Instr.mapUpdate,aV ht,MapKept.run_getObj_map h1,K.check,hf,hje,Instr.keyThatStays,hsb,MapKept.run_setObj_map _ h1]
    ·have hg2:=B3R (v:=v) (i:=0) (j:=j) (by rw[aZ];exact q5);rw[Array.size_modify,hlen];have hjm:j<m.length:=(gS q2).1;apply Nat.le_antisymm
     ·apply dl.1;intro hlt;have:=hg2 (M0 m k v).length;rw[aD (aw _)]at this;split at this
      ·cases this
      ·rw[gE hlt]at this;cases this
     ·apply dl.1;intro hlt;have:=hg2 m.length;rw[if_neg oM,aD (aw _),gE hlt]at this;cases this
    ·have hg2:=B3R (v:=v) (i:=0) (j:=j) (by rw[aZ];exact q5) i;rw[hg2]at hp;by_cases hij:i=j
     ·subst hij;rw[if_pos rfl]at hp;injection hp with hp
      subst hp;exact⟨{ en with key:=kv k,val:=a.eval z },by rw[ec,if_pos rfl,hje];rfl,rfl,hzv⟩
     ·rw[if_neg hij]at hp;obtain⟨en',w1,w2,w3⟩:=old i p' hp;exact⟨en',by rw[ec,if_neg (fun e=>hij e.symm)];exact w1,w2,w3⟩
  obtain⟨w',hw'⟩:∃ w':aO,w'={ g.w with heap:=g.w.heap.setIfInBounds (g.β n).1 (.map es' clock') }:=⟨_,rfl⟩;have hlt:(g.β n).1<g.w.heap.size:=(gA h1).1;have hfr:∀ b,b≠(g.β n).1→w'.heap[b]?=g.w.heap[b]?:=fun b hb=>by rw[hw'];simp[Ne.symm hb]
  have hsz':w'.heap.size=g.w.heap.size:=by rw[hw'];simp
  have hle:=Le.put (r':=A7d kv vf (M0 m k v)) hnM hc0 (w:=w') hsz' (by rw[hw']) (by rw[hw']) (by rw[hw']) hfr;refine⟨undef,g.put n (A7d kv vf (M0 m k v)) w',.inr ⟨?_,rfl⟩,P6.putR hg hnM hc0 hle hsz' hfr (.inr (.inr ⟨rfl,hcap,es',clock',?_,by rw[hsz];simp[A7d],fun i x hx=>?_⟩)),hle,A8h _ _ _ _,.bot _⟩
  ·rcases hop with hop | hop<;>simp[aT,hop,hv,hy,hrun,hw',G.put]
  ·show w'.heap[(g.β n).1]?=_;rw[hw'];simp[hlt]
  ·simp only[A7d,gM,an]at hx;obtain⟨p,hp,rfl⟩:=hx;obtain⟨en,w1,w2,w3⟩:=hent i p hp;exact⟨_,_,en,rfl,w1,w2,w3.mono hg hle⟩
end
section
variable {P:ah} {N:Nat} {ops:Array Oper} {l:List Oper} {ts:LT} {L:LR} {tr:List Stp} {K:List Oper→List Stp→St→Prop} {d:Nat} {ty:ab} {pos:String} {af:Array Edge} {gd:Option (Nat × Bool)}
theorem A58 {t:ab} {n:Nat} {nr:List Nat} (hn:A4f.drop L.length=n::nr) (hw:I2 ops ts ⟨some d,.makeMap t none,ty,pos,af,gd⟩=some true) (hd:aq d N=true)
  (kk:L3 P N ops l ⟨(d,.mp n)::ts,L++[some ⟨0,[]⟩]⟩ (tr++[.run [n] [n]]) K):L3 P N ops (⟨some d,.makeMap t none,ty,pos,af,gd⟩::l) ⟨ts,L⟩ tr K:=by
 have e0:=A21 hn;subst e0;exact B0N (ins:=[]) (rn:=[]) rfl (B6C (P:=P) (o:=⟨some d,.makeMap t none,ty,pos,af,gd⟩) (fresh:=L.length) rfl) hw sM sM hd kk
theorem C0I {t e kt:ab} {ei:TI} {x y:aa} {n:Nat} {β:Type} {vf:β→D} {m:List (Int × β)} {k:Int} {z0:β} {u:D} (tb:Tab P) (ht:P.underlying t=some (.map kt e)) (hk:P.underlying kt=some (.int .i64)) (he:tb.f e=some ei) (hx:O9 ts x = .mp n) (hy:O9 ts y = .d (.v (.int .i64 k))) (hr:L[n]?=some (some ⟨0,m.map fun p => .agg [.d (.v (.int .i64 p.1)),.d (vf p.2)]⟩)) (hz:ei.z = .d (vf z0)) (hu:vf ((A2e m k).getD z0)=u)
  (hw:I2 ops ts ⟨some d,.lookup t x y false,ty,pos,af,gd⟩=some true) (hd:aq d N=true)
  (kk:L3 P N ops l ⟨(d,.d u)::ts,L⟩ (tr++[.run [n] []]) K):L3 P N ops (⟨some d,.lookup t x y false,ty,pos,af,gd⟩::l) ⟨ts,L⟩ tr K:=by
 subst hu;exact K0 (ins:=[(x,.mp n),(y,.d (.v (.int .i64 k)))]) (rn:=[(n,A7d (fun a:Int => .int .i64 a) vf m)]) rfl (B3V rfl ht (tb.ok _ _ he) (.int hk) hz) hw (by simp[ag,hx,hy]) (by simp[hr,A7d]) hd kk
theorem C0b {t e kt:ab} {x y z:aa} {n:Nat} {β:Type} {vf:β→D} {m q:List (Int × β)} {k:Int} {v:β} (L':LR) (ht:P.underlying t=some (.map kt e)) (hk:P.underlying kt=some (.int .i64)) (hx:O9 ts x = .mp n) (hy:O9 ts y = .d (.v (.int .i64 k))) (hz:O9 ts z = .d (vf v)) (hr:L[n]?=some (some ⟨0,m.map fun p => .agg [.d (.v (.int .i64 p.1)),.d (vf p.2)]⟩)) (hq:M0 m k v=q) (hL:L.set n (some ⟨0,q.map fun p => .agg [.d (.v (.int .i64 p.1)),.d (vf p.2)]⟩)=L')
  (hw:I2 ops ts ⟨none,.mapUpdate t x y z,ty,pos,af,gd⟩=some true)
  (kk:L3 P N ops l ⟨ts,L'⟩ (tr++[.run [n] [n]]) K):L3 P N ops (⟨none,.mapUpdate t x y z,ty,pos,af,gd⟩::l) ⟨ts,L⟩ tr K:=by
 subst hq hL;refine A2i (.run hw (B0X (kv:=fun a:Int => .int .i64 a) (vf:=vf) (m:=m) (k:=k) (v:=v) (n:=n) (fresh:=L.length) (.inl rfl) ht (.int hk)) ?_ ?_ ?_ rfl) ?_
 ·intro p hp;simp only[ap,ay,or_false]at hp;rcases hp with rfl | rfl | rfl
  ·exact⟨hx,by simp[ag]⟩
  ·exact⟨hy,by simp[ag]⟩
  ·exact⟨hz,by simp[ag]⟩
 ·intro p hp;simp only[ap,ay,or_false]at hp;subst hp;exact hr
 ·intro p hp;simp only[ap,ay,or_false]at hp;subst hp;exact⟨_,bD.2 rfl,rfl⟩
 ·simpa[St.eff,A5m,A4m,A7d]using kk
end
section
variable {P:ah} {N:Nat} {ops:Array Oper} {l:List Oper} {ts:LT} {L:LR} {tr:List Stp} {K:List Oper→List Stp→St→Prop} {d:Nat} {ty:ab} {pos:String} {af:Array Edge} {gd:Option (Nat × Bool)}
theorem A1D {x:aa} (u:T) (hx:O9 ts x=u) (hw:I2 ops ts ⟨some d,.move x,ty,pos,af,gd⟩=some true) (hd:aq d N=true) (kk:L3 P N ops l ⟨(d,u)::ts,L⟩ (tr++[.run [] []]) K):L3 P N ops (⟨some d,.move x,ty,pos,af,gd⟩::l) ⟨ts,L⟩ tr K :=
 K0 (ins:=[(x,u)]) (rn:=[]) rfl (A6p (.inl rfl)) hw (by simp[ag,hx]) sM hd kk
theorem B9z {t:ab} {i:TI} {x:aa} {n s q c:Nat} {r:Rw} {e:T} (u:T) (tb:Tab P) (ht:tb.f t=some i) (hx:O9 ts x = .ref n s q c) (hr:L[n]?=some (some r)) (hs:r.s=s) (he:r.els[q]?=some e) (hp:A2S i e.cells.length c=true) (hv:A29 i e.cells c=u) (hw:I2 ops ts ⟨some d,.load t x,ty,pos,af,gd⟩=some true) (hd:aq d N=true)
  (kk:L3 P N ops l ⟨(d,u)::ts,L⟩ (tr++[.run [n] []]) K):L3 P N ops (⟨some d,.load t x,ty,pos,af,gd⟩::l) ⟨ts,L⟩ tr K :=
 K0 (ins:=[(x,.ref n s q c)]) (rn:=[(n,r)]) rfl (hv▸B0W rfl (tb.ok _ _ ht) hs he hp) hw (by simp[ag,hx]) (by simp[hr]) hd kk
def A7l (s:Nat):List (Nat × aa)→List T→List (Nat × Nat × T)
 | (k,_)::ps,t::us=>(k*s,s,t)::A7l s ps us
 | _,_=>[]
theorem B1q (s:Nat):∀ (ps:List (Nat × aa)) (us:List T),ps.length=us.length→(A7l s ps us).length=ps.length ∧
  ∀ (k:Nat) (p:Nat × aa) (t:T),ps[k]?=some p→us[k]?=some t→(A7l s ps us)[k]?=some (p.1*s,s,t)
 | [],us,h=>⟨rfl,fun k p t h=>by simp at h⟩
 | p::ps,[],h=>by simp at h
 | (n,x)::ps,t::us,h=>by
  obtain⟨h1,h2⟩:=B1q s ps us (by simpa using h);refine⟨by simp[A7l,h1],fun k p t' hp ht=>?_⟩;cases k with
  | zero=>simp at hp ht;subst hp;subst ht;rfl
  | succ k=>exact h2 k p t' (by simpa using hp) (by simpa using ht)
theorem B7L {P:ah} {o:Oper} {fresh:Nat} {t e:ab} {i ei:TI} {m:Nat} {parts:Array (Nat × aa)} {us:List T} (hop:o.op = .build t parts) (ht:TOk P t i) (hs:i.ar=some (m,e)) (he:TOk P e ei) (hl:parts.toList.length=us.length) (h1:A3f us=true)
  (hk:A6Z i.z.cells.length (A7l ei.size parts.toList us)=true):OpS P o ((parts.toList.map (·.2)).zip us) [] [] fresh [] (mkAgg (A8W i.z.cells ((A7l ei.size parts.toList us).map fun q=>(q.1,q.2.2)))) :=
 .of_pure (fun c h=>by rw[hop]at h;cases h) fun g a hg hi hr=>by
  obtain⟨info,zv,hinf,hz,hs',hb,hzs,hzv,hzl,hz1⟩:=ht.info;obtain⟨einfo,_,heinf,_,hes,_⟩:=he.info;have hvt:=VTs.of_ins (g:=g) (a:=a) (xs:=parts.toList.map (·.2)) (ts:=us) (by simpa using hl) (fun p hp=>hi p hp);have hzc:VTs g i.z.cells zv.cells.toList:=VT.cells (by rw[hzv];exact VT.ofV g zv) hz1;obtain⟨hpl,hpg⟩:=B1q ei.size parts.toList us hl
  obtain⟨cs',hf1,hf2⟩:=A7V (g:=g) (fun k=>some (k*ei.size,ei.size)) (parts.toList.map fun p=>(p.1,a.eval p.2)) (A7l ei.size parts.toList us) zv.cells i.z.cells (by simp[hpl]) (fun k p q hp hq=>by
   simp only[gM,an]at hp;obtain⟨⟨n,x⟩,hx,rfl⟩:=hp;have hlt:k<us.length:=by rw[← hl];exact(gS hx).1
   have htk:us[k]?=some us[k]:=gE hlt;rw[hpg k _ _ hx htk]at hq;simp only[aK]at hq;subst hq;exact⟨rfl,hvt.2 k _ _ htk (by simp[hx]),B0z h1 (aj hlt)⟩) hzc hk
  refine⟨.agg cs',?_,?_⟩
  ·simp[aT,hop,Instr.build,zeroValue,bT,hinf,hz,aV (ht.array hs),sizeOf,heinf,hes,hf1]
  ·simpa using VT.mkAgg hf2
theorem B4h {t e:ab} {i ei:TI} {m:Nat} {parts:Array (Nat × aa)} {us:List T} {v:T} (tb:Tab P) (ht:tb.f t=some i) (hs:i.ar=some (m,e)) (he:tb.f e=some ei) (hx:(parts.toList.map (·.2)).map (O9 ts)=us) (h1:A3f us=true)
  (hk:A6Z i.z.cells.length (A7l ei.size parts.toList us)=true) (hv:mkAgg (A8W i.z.cells ((A7l ei.size parts.toList us).map fun q=>(q.1,q.2.2)))=v) (hw:I2 ops ts ⟨some d,.build t parts,ty,pos,af,gd⟩=some true) (hd:aq d N=true)
  (kk:L3 P N ops l ⟨(d,v)::ts,L⟩ (tr++[.run [] []]) K):L3 P N ops (⟨some d,.build t parts,ty,pos,af,gd⟩::l) ⟨ts,L⟩ tr K :=
 K0 (rn:=[]) rfl (hv▸B7L rfl (tb.ok _ _ ht) hs (tb.ok _ _ he) (by rw[← hx];simp) h1 hk) hw (fun p hp=>by obtain⟨a,b⟩:=A2Z hx p hp;exact⟨a,by simpa[ag]using b⟩) sM hd kk
theorem B5c {P:ah} {o:Oper} {fresh:Nat} {t e:ab} {i ei:TI} {x y:aa} {cl:List T} {m:Nat} {k:aU} {q:Nat} (hop:o.op = .index t x y) (ht:TOk P t i) (hs:i.ar=some (m,e)) (he:TOk P e ei) (hq:q<m) (hp:A2S ei cl.length (q*ei.size)=true) :
  OpS P o [(x,.agg cl),(y,.d (.v (.int k q)))] [] [] fresh [] (A29 ei cl (q*ei.size)) :=
 .of_pure (fun c h=>by rw[hop]at h;cases h) fun g a hg hi hr=>by
  obtain⟨info,zv,hinf,hz,hsz,_,_,_⟩:=he.info;have hx:=hi (x,.agg cl) sM;have hy:=(hi (y,.d (.v (.int k q))) sM).v_eq;dsimp only at hy;generalize hv:a.eval x=v at hx;obtain⟨cs,rfl,hcs⟩:∃ cs,v = .agg cs∧VTs g cl cs.toList:=by
   cases hx with | agg _ cs hl h=>exact⟨cs,rfl,by simpa using hl,fun i d c hd hc=>h i d c hd (by simpa using hc)⟩
  obtain⟨h3,h4⟩:=A8f hp;have hagg:=he.run_isAgg g.w;have hidx:∀ r,(part e cs (q*ei.size)).run P g.w = .ok r g.w→(aT a.eval o).run P g.w = .ok (.value r) g.w:=fun r hr=>by
   have h0:(0:Int)≤q∧(q:Int)<m:=by omega
   simp[aT,hop,hv,hy,Instr.index,asIntOf,aV (ht.array hs),hq,sizeOf,bT,hinf,hsz,hr]
  cases hb:ei.agg with
  | true =>
   rw[hb]at h4 hagg;simp only[if_true]at h4;rw[h4];refine⟨.agg (cs.extract (q*ei.size) (q*ei.size+ei.size)),hidx _ (by simp[part,hagg,sizeOf,bT,hinf,hsz]),?_⟩;have he:cs.extract (q*ei.size) (q*ei.size+ei.size)=((cs.toList.drop (q*ei.size)).take ei.size).toArray:=by
    apply cS;simp[Array.toList_extract,List.extract_eq_take_drop]
   rw[he];refine VT.mkAgg ⟨?_,fun j t c ht hc=>?_⟩
   ·simp only[List.length_take,List.length_drop,hcs.1]
   ·rw[bo]at ht hc;split at ht
    ·rename_i hj;rw[if_pos hj]at hc;rw[bF]at ht hc;exact hcs.2 _ t c ht hc
    ·cases ht
  | false =>
   rw[hb]at h4 hagg;simp only[bR,if_false]at h4;have h5:=congrArg (·[0]?) h4;simp only[bo,bF,bj,cq]at h5;split at h5
   ·have hlt:=(gS h5).1;have hlt':q*ei.size<cs.size:=by rw[hcs.1]at hlt;simpa using hlt
    have hc1:cs[q*ei.size]?=some cs[q*ei.size]:=aE hlt';exact⟨cs[q*ei.size],hidx _ (by simp[part,hagg,hc1]),hcs.2 _ _ _ h5 sM⟩
   ·cases h5
end
end Go.Proofs.YtlaogbbcipebgaaGreat.Sh
