/- Code and its plain picture: states seen in other names, control, loops, calls, functions. Over whatever program. -/
import Derived.Test.YtlaogbbcipebgaaGreatSh11
namespace Go.Proofs.YtlaogbbcipebgaaGreat.Sh
set_option linter.unusedVariables false
set_option linter.unusedSimpArgs false
open Go
structure LeN (n0:Nat) (g g':G):Prop where
 e:∀ n,n<n0→g.M n≠none→g'.M n≠none∧g'.β n=g.β n
 size:g.w.heap.size≤g'.w.heap.size
 os:g'.w.os=g.w.os
 tape:g'.w.tape=g.w.tape
 output:g'.w.output=g.w.output
 fr:∀ b,b<g.w.heap.size→NL g b→g'.w.heap[b]?=g.w.heap[b]?
 k:∀ b,g.K b→g'.K b
 k':∀ b,b<g.w.heap.size→g'.K b→g.K b∨¬ NL g b
 nl:∀ n r,g'.M n=some (some r)→(g'.β n).2≠0→(g'.β n).1<g.w.heap.size→¬ NL g (g'.β n).1
theorem Le.toN {g g':G} (h:Le g g') (n0:Nat):LeN n0 g g':=⟨fun n _=>h.e n,h.size,h.os,h.tape,h.output,h.fr,h.k,h.k',h.nl⟩
theorem LeN.refl (n0:Nat) (g:G):LeN n0 g g:=(Le.refl g).toN n0
theorem LeN.keepNL {n0:Nat} {g g':G} (h:LeN n0 g g') {b:Nat} (hb:b<g.w.heap.size) (hn:NL g b):NL g' b:=fun n r hr h0 he=>h.nl n r hr h0 (by rw[he];exact hb) (he▸hn)
theorem LeN.trans {n0:Nat} {a b c:G} (h:LeN n0 a b) (k:LeN n0 b c):LeN n0 a c where
 e n hlt hn:=by
  obtain⟨h1,h2⟩:=h.e n hlt hn
  obtain⟨k1,k2⟩:=k.e n hlt h1
  exact⟨k1,k2.trans h2⟩
 size:=Nat.le_trans h.size k.size
 os:=k.os.trans h.os
 tape:=k.tape.trans h.tape
 output:=k.output.trans h.output
 fr x hx hn:=(k.fr x (Nat.lt_of_lt_of_le hx h.size) (h.keepNL hx hn)).trans (h.fr x hx hn)
 k x hx:=k.k x (h.k x hx)
 k' x hx hk:=by
  rcases k.k' x (Nat.lt_of_lt_of_le hx h.size) hk with h1 | h1
  ·exact h.k' x hx h1
  ·exact .inr fun hn=>h1 (h.keepNL hx hn)
 nl n r hr h0 hlt:=by
  intro hn
  exact k.nl n r hr h0 (Nat.lt_of_lt_of_le hlt h.size) (h.keepNL hlt hn)
theorem LeN.toLe {n0:Nat} {g g':G} (h:LeN n0 g g') {L:List (Option Rw)} (hM:g.M=ofL L) (hl:L.length≤n0):Le g g' :=
 ⟨fun n hn=>h.e n (by rw[hM]at hn;simp only[ofL,ne_eq,List.getElem?_eq_none_iff,Nat.not_le]at hn;omega) hn,h.size,h.os,h.tape,h.output,h.fr,h.k,h.k',h.nl⟩
def kap (κ:List Nat) (n:Nat):Nat:=κ.getD n 0
def B4t (L:List (Option Rw)) (κ:List Nat):List (Option Rw)→Nat→Prop
 | [],_=>True
 | o::l,k=>(∃ o',L[kap κ k]?=some o'∧(∀ r,o=some r→o'=some (r.ren (kap κ))∧r.sc κ.length=true))∧B4t L κ l (k+1)
theorem A6G {L:List (Option Rw)} {κ:List Nat}:∀ {l:List (Option Rw)} {k:Nat},B4t L κ l k→∀ (j:Nat) (o:Option Rw),l[j]?=some o→∃ o',L[kap κ (k+j)]?=some o'∧(∀ r,o=some r→o'=some (r.ren (kap κ))∧r.sc κ.length=true)
 | [],k,_,j,o,h=>by simp at h
 | x::l,k,h,0,o,ho=>by simp at ho;subst ho;exact h.1
 | x::l,k,h,j+1,o,ho=>by
  have:=A6G h.2 j o (by simpa using ho)
  rwa [show k+1+j=k+(j+1) by omega]at this
theorem A9T {g:G} (hg:P6 g) {L Lf:List (Option Rw)} (hM:g.M=ofL L) {κ:List Nat} (hnd:κ.Nodup) (hlen:Lf.length=κ.length) (hr:B4t L κ Lf 0) :
  P6 ⟨ofL Lf,fun n=>g.β (kap κ n),g.K,g.w⟩∧∀ (t:T) (c:Value),t.sc κ.length=true→VT g (t.ren (kap κ)) c→VT ⟨ofL Lf,fun n=>g.β (kap κ n),g.K,g.w⟩ t c:=by
 have hE:∀ n,n<κ.length→(ofL Lf n≠none)∧g.β (kap κ n)=g.β (kap κ n):=fun n hn=>⟨by simp only[ofL,ne_eq,List.getElem?_eq_none_iff];omega,rfl⟩
 have hV:∀ (t:T) (c:Value),t.sc κ.length=true→VT g (t.ren (kap κ)) c→VT ⟨ofL Lf,fun n=>g.β (kap κ n),g.K,g.w⟩ t c :=
  VT.unren (g:=⟨ofL Lf,fun n=>g.β (kap κ n),g.K,g.w⟩) (g':=g) rfl (fun _ h=>h) hE
 have live:∀ k r,ofL Lf k=some (some r)→k<κ.length∧g.M (kap κ k)=some (some (r.ren (kap κ)))∧r.sc κ.length=true:=fun k r h=>by
  obtain⟨o',h1,h2⟩:=A6G hr k (some r) h
  obtain⟨h3,h4⟩:=h2 r rfl
  rw[Nat.zero_add]at h1
  exact⟨by rw[← hlen];exact(List.getElem?_eq_some_iff.1 h).1,by rw[hM];unfold ofL;rw[h1,h3],h4⟩
 refine⟨⟨fun n r hn=>?_,fun n m r q hn hm hn0 hm0 he=>?_,hg.kd,fun b hb n r hn hn0=>hg.kl b hb _ _ (live n r hn).2.1 hn0⟩,hV⟩
 ·obtain⟨_,h1,h2⟩:=live n r hn
  exact(hg.rows _ _ h1).unren rfl (fun _=>rfl) h2 hV
 ·obtain⟨h1,h2,_⟩:=live n r hn
  obtain⟨h3,h4,_⟩:=live m q hm
  have:=hg.inj _ _ _ _ h2 h4 hn0 hm0 he
  unfold kap at this
  rw[List.getD_eq_getElem?_getD,List.getD_eq_getElem?_getD,List.getElem?_eq_getElem h1,List.getElem?_eq_getElem h3,Option.getD_some,Option.getD_some]at this
  rcases Nat.lt_trichotomy n m with h | h | h
  ·exact absurd this ((List.pairwise_iff_getElem.1 hnd) n m h1 h3 h)
  ·exact h
  ·exact absurd this.symm ((List.pairwise_iff_getElem.1 hnd) m n h3 h1 h)
structure Vw (n0:Nat) (st st':St) (κ:List Nat):Prop where
 nd:κ.Nodup
 len:st'.L.length=κ.length
 rows:B4t st.L κ st'.L 0
 ts:∀ p∈st'.ts,p.2.ren (kap κ)=W8 st.ts p.1∧p.2.sc κ.length=true
 base:∀ n,n<n0→n<st.L.length→n<κ.length∧kap κ n=n
mutual
theorem A8G (ρ:Nat→Nat):∀ t:T,t.sc 0=true→t.ren ρ=t
 | .d x,_=>rfl
 | .bot,_=>rfl
 | .ref n s i o,h=>by simp[T.sc,Nat.blt_eq]at h
 | .row n s lo len,h=>by simp[T.sc,Nat.blt_eq]at h
 | .agg l,h=>by simp only[T.ren];rw[A5e ρ l (by simpa[T.sc]using h)]
 | .tup l,h=>by simp only[T.ren];rw[A5e ρ l (by simpa[T.sc]using h)]
 | .fn f a b,h=>by
  simp only[T.sc,Bool.and_eq_true]at h
  simp only[T.ren];rw[A5e ρ a h.1,A5e ρ b h.2]
 | .iface t x,h=>by simp only[T.ren];rw[A8G ρ x (by simpa[T.sc]using h)]
theorem A5e (ρ:Nat→Nat):∀ l:List T,scL 0 l=true→A5n ρ l=l
 | [],_=>rfl
 | x::l,h=>by
  simp only[scL,Bool.and_eq_true]at h
  simp only[A5n];rw[A8G ρ x h.1,A5e ρ l h.2]
end
inductive TsC (ts:List (Nat × T)):List (Nat × T)→Prop where
 | nil:TsC ts []
 | cons {i:Nat} {t:T} {r:List (Nat × T)} (h:W8 ts i=t) (hc:t.sc 0=true) (k:TsC ts r):TsC ts ((i,t)::r)
theorem B0P:∀ {ts:List (Nat × T)} {i:Nat},W8 ts i = .bot∨(i,W8 ts i)∈ts
 | [],i => .inl rfl
 | (j,t)::r,i=>by
  simp only[W8]
  cases hb:Nat.beq i j with
  | true=>have:=Nat.eq_of_beq_eq_true hb;subst this;exact .inr (by simp)
  | false =>
   rcases B0P (ts:=r) (i:=i)with h | h
   ·exact .inl (by simpa using h)
   ·exact .inr (by simp;exact .inr (by simpa using h))
theorem Vw.see {n0 N:Nat} {st st':St} {κ:List Nat} (h:Vw n0 st st' κ) {g:G} {a:Act} {df:List Deferred} (hR:StR g N st a df) :
  ∃ g',g'.w=g.w∧LeN n0 g g'∧StR g' N st' a df:=by
 obtain⟨h1,h2⟩:=A9T hR.good hR.M h.nd h.len h.rows
 refine⟨⟨ofL st'.L,fun n=>g.β (kap κ n),g.K,g.w⟩,rfl,⟨fun n hn hne=>?_,Nat.le_refl _,rfl,rfl,rfl,fun _ _ _=>rfl,fun _ h=>h,fun _ _ h => .inl h,fun n r hn h0 _ hnl=>?_⟩,⟨h1,rfl,hR.size,fun i=>?_,hR.df⟩⟩
 ·rw[hR.M]at hne
  simp only[ofL,ne_eq,List.getElem?_eq_none_iff,Nat.not_le]at hne
  obtain⟨k1,k2⟩:=h.base n hn hne
  exact⟨by simp only[ofL,ne_eq,List.getElem?_eq_none_iff,h.len];omega,by show g.β (kap κ n)=_;rw[k2]⟩
 ·obtain⟨o',k1,k2⟩:=A6G h.rows n (some r) hn
  rw[Nat.zero_add]at k1
  refine hnl (kap κ n) (r.ren (kap κ)) ?_ h0 rfl
  rw[hR.M];unfold ofL;rw[k1,(k2 r rfl).1]
 ·rcases B0P (ts:=st'.ts) (i:=i)with h3 | h3
  ·rw[h3];exact .bot _
  ·obtain⟨k1,k2⟩:=h.ts _ h3
   exact h2 _ _ k2 (by rw[k1];exact hR.ts i)
inductive SX where
 | norm
 | ret
 | exit (id:Nat)
 | pan (t:T)
def XR (g:G):SX→Exit→Prop
 | .norm,.normal=>True
 | .ret,.ret=>True
 | .exit i,.exit j=>i=j
 | .pan t,.panic ch=>∃ v,ch=[{ v,recovered:=false }]∧VT g t v
 | _,_=>False
theorem XR.mono {g g':G} (hg:P6 g) (hl:Le g g') {sx:SX} {ex:Exit} (h:XR g sx ex):XR g' sx ex:=by
 cases sx<;>cases ex<;>first | exact h | skip
 obtain⟨v,h1,h2⟩:=h
 exact⟨v,h1,h2.mono hg hl⟩
def SW (P:Program) (n0 N:Nat) (df:List Deferred) (c:Code) (Q:SX→St→Prop) (st:St):Prop :=
 ∀ (F:Fence) (nn:Nat),Wd F→∀ (g:G) (a:Act),StR g N st a df→c.wpIn F nn P (fun ex a' w'=>∃ g' sx st',g'.w=w'∧LeN n0 g g'∧StR g' N st' a' df∧XR g' sx ex∧Q sx st') a g.w
section
variable {P:Program} {n0 N:Nat} {df:List Deferred} {Q:SX→St→Prop} {st:St}
theorem SW.mono {c:Code} {Q':SX→St→Prop} (h:SW P n0 N df c Q st) (k:∀ sx st,Q sx st→Q' sx st):SW P n0 N df c Q' st:=fun F nn hF g a hR =>
 wpIn_mono (h F nn hF g a hR) fun _ _ _ ⟨g',sx,st',h1,h2,h3,h4,h5⟩=>⟨g',sx,st',h1,h2,h3,h4,k _ _ h5⟩
theorem D7 (h:Q .norm st):SW P n0 N df .skip Q st:=fun _ _ _ g _ hR=>wpIn_skip ⟨g,.norm,st,rfl,.refl n0 g,hR,trivial,h⟩
theorem N5 {i:Nat} (h:Q (.exit i) st):SW P n0 N df (.exit i) Q st:=fun _ _ _ g _ hR=>wpIn_exit ⟨g,.exit i,st,rfl,.refl n0 g,hR,rfl,h⟩
theorem C9 (h:Q .ret st):SW P n0 N df .ret Q st:=fun _ _ _ g _ hR=>wpIn_ret ⟨g,.ret,st,rfl,.refl n0 g,hR,trivial,h⟩
def A5w (K:St→Prop) (Q:SX→St→Prop):SX→St→Prop
 | .norm,st=>K st
 | sx,st=>Q sx st
theorem B8 {x y:Code} (h:SW P n0 N df x (A5w (SW P n0 N df y Q) Q) st):SW P n0 N df (.seq x y) Q st:=fun F nn hF g a hR=>by
 refine wpIn_seq (wpIn_mono (h F nn hF g a hR) ?_)
 rintro ex a' w' ⟨g',sx,st',rfl,h2,h3,h4,h5⟩
 cases sx with
 | norm =>
  cases ex<;>first | exact h4.elim | skip
  exact wpIn_mono (h5 F nn hF g' a' h3) fun _ _ _ ⟨g'',sx',st'',k1,k2,k3,k4,k5⟩=>⟨g'',sx',st'',k1,h2.trans k2,k3,k4,k5⟩
 | ret=>cases ex<;>first | exact h4.elim | exact⟨g',_,st',rfl,h2,h3,h4,h5⟩
 | exit i=>cases ex<;>first | exact h4.elim | exact⟨g',_,st',rfl,h2,h3,h4,h5⟩
 | pan t=>cases ex<;>first | exact h4.elim | exact⟨g',_,st',rfl,h2,h3,h4,h5⟩
def A34 (id:Nat) (Q:SX→St→Prop):SX→St→Prop
 | .exit i,st=>if i=id then Q .norm st else Q (.exit i) st
 | sx,st=>Q sx st
theorem A6 {K:St→Prop} (h:K st):A5w K Q .norm st:=h
theorem B2 {K:St→Prop} (h:Q .ret st):A5w K Q .ret st:=h
theorem E4 {K:St→Prop} {i:Nat} (h:Q (.exit i) st):A5w K Q (.exit i) st:=h
theorem E9 {K:St→Prop} {t:T} (h:Q (.pan t) st):A5w K Q (.pan t) st:=h
theorem D3 {i:Nat} (h:Q .norm st):A34 i Q .norm st:=h
theorem C4 {i:Nat} (h:Q .ret st):A34 i Q .ret st:=h
theorem Q0 {i:Nat} {t:T} (h:Q (.pan t) st):A34 i Q (.pan t) st:=h
theorem I5 {i:Nat} (h:Q .norm st):A34 i Q (.exit i) st:=by show(if i=i then Q .norm st else Q (.exit i) st);rw[if_pos rfl];exact h
theorem E3 {id:Nat} {c:Code} (h:SW P n0 N df c (A34 id Q) st):SW P n0 N df (.block id c) Q st:=fun F nn hF g a hR=>by
 refine wpIn_block (wpIn_mono (h F nn hF g a hR) ?_)
 rintro ex a' w' ⟨g',sx,st',rfl,h2,h3,h4,h5⟩
 cases sx with
 | norm=>cases ex<;>first | exact h4.elim | exact⟨g',.norm,st',rfl,h2,h3,trivial,h5⟩
 | ret=>cases ex<;>first | exact h4.elim | exact⟨g',.ret,st',rfl,h2,h3,trivial,h5⟩
 | exit i =>
  cases ex<;>first | exact h4.elim | skip
  rename_i j
  have h4':i=j:=h4
  subst h4'
  simp only[A34]at h5
  by_cases hi:i=id
  ·rw[if_pos hi]at h5
   simp only[Exit.inBlock,hi,if_true]
   exact⟨g',.norm,st',rfl,h2,h3,trivial,h5⟩
  ·rw[if_neg hi]at h5
   simp only[Exit.inBlock,hi,if_false]
   exact⟨g',.exit i,st',rfl,h2,h3,rfl,h5⟩
 | pan t=>cases ex<;>first | exact h4.elim | exact⟨g',.pan t,st',rfl,h2,h3,h4,h5⟩
theorem B6d {c:Operand} {x y:Code} {b:Bool} (hc:O9 st.ts c = .d (.v (.bool b))) (ht:b=true→SW P n0 N df x Q st) (hf:b=false→SW P n0 N df y Q st):SW P n0 N df (.cond c x y) Q st:=fun F nn hF g a hR=>by
 have h1:=A4G hR.ts c
 rw[hc]at h1
 refine wpIn_cond_split h1.v_eq (fun h=>ht h F nn hF g a hR) (fun h=>hf h F nn hF g a hR)
theorem C0 {c:Operand} {x y:Code} (hc:O9 st.ts c = .d (.v (.bool true))) (h:SW P n0 N df x Q st):SW P n0 N df (.cond c x y) Q st:=B6d hc (fun _=>h) (fun h=>by cases h)
theorem C1 {c:Operand} {x y:Code} (hc:O9 st.ts c = .d (.v (.bool false))) (h:SW P n0 N df y Q st):SW P n0 N df (.cond c x y) Q st:=B6d hc (fun h=>by cases h) (fun _=>h)
def L3 (P:Program) (N:Nat) (ops:Array Oper) (l:List Oper) (st:St) (tr:List Stp) (K:List Oper→List Stp→St→Prop):Prop:=∃ l1 l2 tr' st',l=l1++l2∧Ev P N ops l1 st tr' st'∧K l2 (tr++tr') st'
theorem A32 {ops:Array Oper} {l:List Oper} {tr:List Stp} {K:List Oper→List Stp→St→Prop} (h:K l tr st):L3 P N ops l st tr K:=⟨[],l,[],st,rfl,.nil st,by rwa [List.append_nil]⟩
theorem A2i {ops:Array Oper} {o:Oper} {l:List Oper} {tr:List Stp} {K:List Oper→List Stp→St→Prop} {s:Stp} {st1:St} (h:A7s P N ops o st s st1) (k:L3 P N ops l st1 (tr++[s]) K):L3 P N ops (o::l) st tr K:=by
 obtain⟨l1,l2,tr',st',rfl,h1,h2⟩:=k
 exact⟨o::l1,l2,s::tr',st',rfl,.cons h h1,by rwa [List.append_assoc]at h2⟩
def B7w (K:St→Prop):List Oper→List Stp→St→Prop:=fun l _ st=>l=[]∧K st
def B9E (ops:Array Oper) (K:St→Prop):List Oper→List Stp→St→Prop:=fun l tr st=>l=[]∧B0s ops tr=true∧K st
theorem B6R {id:Nat} {ops:Array Oper} (h:L3 P N ops ops.toList st [] (B7w (Q .norm))):SW P n0 N df (.region id ops false) Q st:=fun F nn hF g a hR=>by
 obtain⟨l1,l2,tr,st',e,h1,rfl,h2⟩:=h
 rw[List.append_nil]at e
 exact B4p hF (e▸h1) hR fun g' a' hl hR'=>⟨g',.norm,st',rfl,hl.toN n0,hR',trivial,h2⟩
theorem B9n (hm:P.follows .mixedOrders=true) {id:Nat} {ops:Array Oper} (h:L3 P N ops ops.toList st [] (B9E ops (Q .norm))):SW P n0 N df (.region id ops true) Q st:=fun F nn hF g a hR=>by
 obtain⟨l1,l2,tr,st',e,h1,rfl,h2,h3⟩:=h
 rw[List.append_nil]at e
 rw[List.nil_append]at h2
 exact B0g hm hF (e▸h1) h2 hR fun g' a' hl hR'=>⟨g',.norm,st',rfl,hl.toN n0,hR',trivial,h3⟩
theorem least {p:Nat→Prop} (h:∃ m,p m):∃ m,p m∧∀ k,p k→m≤k:=by
 obtain⟨m,hm⟩:=h
 induction m using Nat.strongRecOn with
 | _ m ih =>
  by_cases hk:∃ k,k<m∧p k
  ·obtain⟨k,h1,h2⟩:=hk
   exact ih k h1 h2
  ·exact⟨m,hm,fun k hp=>Nat.le_of_not_lt fun h=>hk ⟨k,h,hp⟩⟩
end
end Go.Proofs.YtlaogbbcipebgaaGreat.Sh
