/- A region that draws its order and its plain picture: what is shown in the order of the text holds in every order that the edges allow, if no two operations that are not ordered touch what one of them writes. Over whatever program. -/
import Derived.Test.YtlaogbbcipebgaaGreatSh9
namespace Go.Proofs.YtlaogbbcipebgaaGreat.Sh
set_option linter.unusedVariables false
set_option linter.unusedSimpArgs false
open Go
section
variable {ops:Array Oper}
def A9c (ops:Array Oper):Bool:=(List.range ops.size).all fun j=>match ops[j]? with | some o=>o.after.all (fun e=>!Region.binds .any e||decide (e.on<j)) | none=>true
theorem B30 {listed:Array Bool} (hl:A9c ops=true) (hs:listed.size=ops.size) (hr:Region.ready .any ops listed=[]):∀ j,j<ops.size→listed.getD j false=true:=by
 intro j
 induction j using Nat.strongRecOn with
 | _ j ih =>
   intro hj
   unfold A9c at hl
   rw[List.all_eq_true]at hl
   have h1:=hl j (List.mem_range.2 hj)
   have ho:ops[j]?=some ops[j]:=Array.getElem?_eq_getElem hj
   rw[ho]at h1
   dsimp only at h1
   rw[Array.all_eq_true_iff_forall_mem]at h1
   cases hh:listed.getD j false with
   | true=>rfl
   | false =>
     have hm:j∈Region.ready .any ops listed:=mem_ready.2 ⟨by
      have hj':j<listed.size:=by omega
      simpa[Array.getD,hj']using hh,_,ho,fun e he hb=>by
       have h2:=h1 e he
       rw[hb,Bool.not_true,Bool.false_or]at h2
       have:=of_decide_eq_true h2
       exact ih _ this (by omega)⟩
     rw[hr]at hm
     cases hm
end
inductive Anc (ops:Array Oper):Nat→Nat→Prop where
 | one {k:Nat} {o:Oper} {e:Edge} (ho:ops[k]?=some o) (he:e∈o.after) (hb:Region.binds .any e=true):Anc ops k e.on
 | far {k j:Nat} {o:Oper} {e:Edge} (ho:ops[k]?=some o) (he:e∈o.after) (hb:Region.binds .any e=true) (h:Anc ops e.on j):Anc ops k j
theorem Anc.listed {ops:Array Oper} {listed:Array Bool} (hc:A71 .any ops listed) {k j:Nat} (h:Anc ops k j) (hk:listed.getD k false=true):listed.getD j false=true:=by
 induction h with
 | one ho he hb=>exact hc _ _ ho hk _ he hb
 | far ho he hb _ ih=>exact ih (hc _ _ ho hk _ he hb)
theorem Anc.ready {ops:Array Oper} {listed:Array Bool} (hc:A71 .any ops listed) {k j:Nat} (h:Anc ops k j) (hk:k∈Region.ready .any ops listed):listed.getD j false=true:=by
 obtain⟨_,o,ho,hall⟩:=mem_ready.1 hk
 cases h with
 | one ho' he hb=>rw[ho]at ho';injection ho' with ho';subst ho';exact hall _ he hb
 | far ho' he hb h=>rw[ho]at ho';injection ho' with ho';subst ho';exact h.listed hc (hall _ he hb)
def B7F (acc:List Nat) (s:Nat) (e:Edge):Nat:=bif Region.binds .any e then s ||| 2^e.on ||| acc.getD e.on 0 else s
def B7G (acc:List Nat) (o:Oper):Nat:=o.after.toList.foldl (B7F acc) 0
def B5J:List Oper→List Nat→List Nat
 | [],acc=>acc
 | o::r,acc=>B5J r (acc++[B7G acc o])
theorem B0T (acc:List Nat) (j:Nat):∀ (l:List Edge) (s:Nat),(l.foldl (B7F acc) s).testBit j=true→s.testBit j=true∨∃ e∈l,Region.binds .any e=true∧(e.on=j∨(acc.getD e.on 0).testBit j=true)
 | [],s,h => .inl h
 | e::l,s,h=>by
  rcases B0T acc j l _ h with h | ⟨e',he',h'⟩
  ·unfold B7F at h
   cases hb:Region.binds .any e with
   | false=>rw[hb]at h;exact .inl h
   | true =>
    rw[hb,cond_true,Nat.testBit_or,Nat.testBit_or,Bool.or_eq_true,Bool.or_eq_true]at h
    rcases h with(h | h) | h
    ·exact .inl h
    ·rw[Nat.testBit_two_pow]at h;exact .inr ⟨e,by simp,hb,.inl (by simpa using h)⟩
    ·exact .inr ⟨e,by simp,hb,.inr h⟩
  ·exact .inr ⟨e',by simp[he'],h'⟩
theorem A88 (ops:Array Oper):∀ (l:List Oper) (acc:List Nat),ops.toList.drop acc.length=l→(∀ k j,(acc.getD k 0).testBit j=true→Anc ops k j)→∀ k j,((B5J l acc).getD k 0).testBit j=true→Anc ops k j
 | [],acc,_,h=>h
 | o::l,acc,hd,h=>by
  have hlt:acc.length<ops.toList.length:=by
   rcases Nat.lt_or_ge acc.length ops.toList.length with h | h
   ·exact h
   ·rw[List.drop_eq_nil_of_le h]at hd;cases hd
  rw[List.drop_eq_getElem_cons hlt]at hd
  injection hd with h1 h2
  refine A88 ops l (acc++[B7G acc o]) (by simpa using h2) fun k j hk=>?_
  by_cases hkl:k<acc.length
  ·refine h k j ?_
   rw[List.getD_eq_getElem?_getD,List.getElem?_append_left hkl,← List.getD_eq_getElem?_getD]at hk
   exact hk
  ·by_cases hke:k=acc.length
   ·subst hke
    rw[List.getD_eq_getElem?_getD,List.getElem?_append_right (Nat.le_refl _),Nat.sub_self]at hk
    have ho:ops[acc.length]?=some o:=by rw[← h1];simp[Array.getElem?_eq_getElem (by simpa using hlt:acc.length<ops.size)]
    rcases B0T acc j _ _ hk with h' | ⟨e,he,hb,h'⟩
    ·simp at h'
    ·rcases h' with rfl | h'
     ·exact .one ho (by simpa using he) hb
     ·exact .far ho (by simpa using he) hb (h _ _ h')
   ·rw[List.getD_eq_getElem?_getD,List.getElem?_eq_none (by simp;omega)]at hk
    simp at hk
structure CI where
 d:Option Nat
 rs:List Nat
 rl:List Nat
 wl:List Nat
def A52:List Operand→List Nat
 | []=>[]
 | .tmp t::l=>t::A52 l
 | _::l=>A52 l
theorem A5h {t:Nat}:∀ {l:List Operand},.tmp t∈l→t∈A52 l
 | .tmp u::l,h=>by
  rcases List.mem_cons.1 h with h | h
  ·injection h with h;subst h;simp[A52]
  ·simp[A52,A5h h]
 | .const _::l,h=>by
  rcases List.mem_cons.1 h with h | h
  ·cases h
  ·show t∈A52 l;exact A5h h
 | .global _::l,h=>by
  rcases List.mem_cons.1 h with h | h
  ·cases h
  ·show t∈A52 l;exact A5h h
 | .func _::l,h=>by
  rcases List.mem_cons.1 h with h | h
  ·cases h
  ·show t∈A52 l;exact A5h h
def B1W (ops:Array Oper) (o:Oper):List Nat:=match o.guard with
 | some (k,_)=>((ops[k]?).bind (·.dst)).toList
 | none=>[]
def Stp.rl:Stp→List Nat
 | .run rl _=>rl
 | .skip=>[]
def Stp.wl:Stp→List Nat
 | .run _ wl=>wl
 | .skip=>[]
def A4O (ops:Array Oper) (o:Oper) (s:Stp):CI:=⟨o.dst,A52 o.op.operands.toList++B1W ops o,s.rl,s.wl⟩
def B3F (l:List Nat) (n:Nat):Bool:=l.any (Nat.beq n)
theorem B3G {l:List Nat} {n:Nat} (h:n∈l):B3F l n=true:=by
 unfold B3F
 rw[List.any_eq_true]
 exact⟨n,h,Nat.beq_refl n⟩
def B89:Option Nat→CI→Bool
 | some d,b=>B3F b.rs d||(match b.d with | some e=>Nat.beq d e | none=>false)
 | none,_=>false
def B0o (a b:CI):Bool:=B89 a.d b||B89 b.d a||a.wl.any (B3F b.rl)||b.wl.any (B3F a.rl)
def B5K (ms:List Nat) (cs:List CI):Bool:=(List.range cs.length).all fun k=>(List.range k).all fun j=>!B0o (cs.getD j ⟨none,[],[],[]⟩) (cs.getD k ⟨none,[],[],[]⟩)||(ms.getD k 0).testBit j
def B0s (ops:Array Oper) (tr:List Stp):Bool:=B5K (B5J ops.toList []) (List.zipWith (A4O ops) ops.toList tr)&&A9c ops
theorem B5L {ops:Array Oper} {tr:List Stp} (h:B0s ops tr=true) {j k:Nat} {oj ok:Oper} {sj sk:Stp} (hj:ops[j]?=some oj) (hk:ops[k]?=some ok) (hsj:tr[j]?=some sj) (hsk:tr[k]?=some sk) (hlt:j<k)
  (hc:B0o (A4O ops oj sj) (A4O ops ok sk)=true):Anc ops k j:=by
 unfold B0s at h
 rw[Bool.and_eq_true]at h
 have h1:=h.1
 unfold B5K at h1
 rw[List.all_eq_true]at h1
 have zg:∀ (m:Nat) (o:Oper) (s:Stp),ops[m]?=some o→tr[m]?=some s→(List.zipWith (A4O ops) ops.toList tr)[m]?=some (A4O ops o s):=fun m o s ho hs=>by
  rw[List.getElem?_zipWith,Array.getElem?_toList,ho,hs]
 have hkk:=zg k ok sk hk hsk
 have hjj:=zg j oj sj hj hsj
 have h2:=h1 k (List.mem_range.2 (List.getElem?_eq_some_iff.1 hkk).1)
 rw[List.all_eq_true]at h2
 have h3:=h2 j (List.mem_range.2 hlt)
 rw[List.getD_eq_getElem?_getD,hjj,List.getD_eq_getElem?_getD,hkk,Option.getD_some,Option.getD_some,hc,Bool.not_true,Bool.false_or]at h3
 exact A88 ops ops.toList [] rfl (fun k j h=>by simp at h) k j h3
theorem Ev.seq {P:Program} {N:Nat} {ops:Array Oper} {l:List Oper} {st st':St} {tr:List Stp} (h:Ev P N ops l st tr st') :
  ∃ σ:Nat→St,σ 0=st∧σ l.length=st'∧∀ (k:Nat) (o:Oper),l[k]?=some o→∃ s,tr[k]?=some s∧A7s P N ops o (σ k) s (σ (k+1)):=by
 induction h with
 | nil st=>exact⟨fun _=>st,rfl,rfl,fun k o h=>by simp at h⟩
 | cons hs hk ih =>
  rename_i o l sta st1 st2 s tr
  obtain⟨σ,h0,h1,h2⟩:=ih
  refine⟨fun | 0=>sta | k+1=>σ k,rfl,h1,fun k o' ho=>?_⟩
  cases k with
  | zero=>simp at ho;subst ho;exact⟨s,rfl,by dsimp only;rw[h0];exact hs⟩
  | succ k=>exact h2 k o' (by simpa using ho)
def A5j {α:Type} (W:Nat→Bool) (c:Nat→α) (x0:α) (S:Nat→Bool):Nat→α
 | 0=>x0
 | m+1=>bif S m&&W m then c m else A5j W c x0 S m
theorem A1p {α:Type} {W:Nat→Bool} {c:Nat→α} {x0:α} {S S':Nat→Bool}:∀ {m:Nat},(∀ k,k<m→W k=true→S k=S' k)→A5j W c x0 S m=A5j W c x0 S' m
 | 0,_=>rfl
 | m+1,h=>by
  have ih:=A1p (W:=W) (c:=c) (x0:=x0) (m:=m) fun k hk=>h k (by omega)
  simp only[A5j]
  cases hw:W m with
  | false=>simp[ih]
  | true=>rw[h m (by omega) hw,ih]
theorem A4p {α:Type} {W:Nat→Bool} {x:Nat→α} {n:Nat} (hW:∀ k,k<n→W k=false→x (k+1)=x k) (i:Nat):∀ {m:Nat},m≤n→A5j W (fun k=>x (k+1)) (x 0) (fun k=>decide (k<i)) m=x (min i m)
 | 0,_=>by simp[A5j]
 | m+1,h=>by
  have ih:=A4p hW i (m:=m) (by omega)
  simp only[A5j]
  by_cases hi:m<i
  ·have e1:min i (m+1)=m+1:=by omega
   have e2:min i m=m:=by omega
   rw[e2]at ih
   rw[e1,ih]
   cases hw:W m with
   | true=>simp[hi]
   | false=>simp[hW m (by omega) hw]
  ·have e1:min i (m+1)=min i m:=by omega
   simp[hi,ih,e1]
theorem B7u {P:Program} {N:Nat} {ops:Array Oper} {o:Oper} {st st1:St} {s:Stp} (h:A7s P N ops o st s st1) {t:Nat} (ht:o.dst≠some t):W8 st1.ts t=W8 st.ts t:=by
 cases h<;>simp[St.eff,A2M,ht]
theorem B7t {P:Program} {N:Nat} {ops:Array Oper} {o:Oper} {st st1:St} {s:Stp} (h:A7s P N ops o st s st1) {n:Nat} (hn:n∉s.wl):ofL st1.L n=ofL st.L n:=by
 cases h with
 | run hw hop hi hr hwn hd =>
  rename_i ins rn wn new v
  rw[B0y _ _ _ _ _ fun p hp=>by
   obtain⟨q,hq,he⟩:=hwn p hp
   rw[← he];exact(List.getElem?_eq_some_iff.1 (hr q hq)).1]
  simp only[Stp.wl,List.mem_append,List.mem_map,List.mem_range'_1,not_or]at hn
  unfold upd
  have:wn.find? (fun p=>p.1==n)=none:=by
   rw[List.find?_eq_none]
   intro p hp he
   exact hn.1 ⟨p,hp,by simpa using he⟩
  rw[this]
  dsimp only
  rw[if_neg hn.2]
 | skip hw hd=>simp[St.eff,A4m]
def A9a (ops:Array Oper) (m:Nat):Bool:=(List.range m).all fun j=>((B5J ops.toList []).getD m 0).testBit j
theorem A9q {P:Program} {F:Fence} {nn N:Nat} {id:Nat} {ops:Array Oper} {Q:Exit→Act→World→Prop} {st:St} {tr:List Stp} (hm:P.follows .mixedOrders=true) (hF:Wd F) (σ:Nat→St) (m:Nat) (hmle:m≤ops.size) (h0:σ 0=st)
  (hst:∀ (k:Nat) (o:Oper),k<m→ops[k]?=some o→∃ s,tr[k]?=some s∧A7s P N ops o (σ k) s (σ (k+1))) (hok:B0s ops tr=true) {g:G} {a:Act} {df:List Deferred} (hR:StR g N st a df)
  (hlast:m=ops.size∨(m+1=ops.size∧A9a ops m=true∧∀ g' a' K,Le g g'→StR g' N (σ m) a' df→wpOpIn F nn P ops Q m K a' g'.w))
  (hQ:m=ops.size→∀ g' a',Le g g'→StR g' N (σ m) a' df→Q .normal a' g'.w):(Code.region id ops true).wpIn F nn P Q a g.w:=by
 obtain⟨Ws,hWs⟩:∃ Ws:Nat→Nat→Bool,Ws=fun t k=>match (ops[k]?).bind (·.dst)with | some d=>Nat.beq d t | none=>false:=⟨_,rfl⟩
 obtain⟨Wn,hWn⟩:∃ Wn:Nat→Nat→Bool,Wn=fun n k=>match tr[k]? with | some s=>B3F s.wl n | none=>false:=⟨_,rfl⟩
 have ws_t:∀ {t k o},ops[k]?=some o→(Ws t k=true↔o.dst=some t):=fun {t k o} ho=>by
  rw[hWs];dsimp only;rw[ho,Option.bind_some]
  cases hd:o.dst with
  | none=>simp
  | some d=>dsimp only;rw[Option.some.injEq];exact⟨Nat.eq_of_beq_eq_true,fun h=>h▸Nat.beq_refl d⟩
 have wn_t:∀ {n k s},tr[k]?=some s→(Wn n k=true↔n∈s.wl):=fun {n k s} hs=>by
  rw[hWn];dsimp only;rw[hs]
  unfold B3F
  rw[List.any_eq_true]
  exact⟨fun⟨x,hx,he⟩=>(Nat.eq_of_beq_eq_true he)▸hx,fun h=>⟨n,h,Nat.beq_refl n⟩⟩
 have seqS:∀ t k,k<m→Ws t k=false→W8 (σ (k+1)).ts t=W8 (σ k).ts t:=fun t k hk hw=>by
  have ho:ops[k]?=some (ops[k]'(by omega)):=Array.getElem?_eq_getElem (by omega)
  obtain⟨s,_,h⟩:=hst k _ hk ho
  exact B7u h fun e=>by rw[(ws_t ho).2 e]at hw;cases hw
 have seqN:∀ n k,k<m→Wn n k=false→ofL (σ (k+1)).L n=ofL (σ k).L n:=fun n k hk hw=>by
  have ho:ops[k]?=some (ops[k]'(by omega)):=Array.getElem?_eq_getElem (by omega)
  obtain⟨s,hs,h⟩:=hst k _ hk ho
  exact B7t h fun e=>by rw[(wn_t hs).2 e]at hw;cases hw
 obtain⟨hG0,hL0⟩:=B6x hR.good
 refine B0t hm (fun listed a' w'=>∃ g',g'.w=w'∧P6 g'∧Le g g'∧(∀ n,g'.M n=A5j (Wn n) (fun k=>ofL (σ (k+1)).L n) (ofL (σ 0).L n) (fun k=>listed.getD k false) m) ∧
  a'.tmps.size=N∧(∀ t,VT g' (A5j (Ws t) (fun k=>W8 (σ (k+1)).ts t) (W8 (σ 0).ts t) (fun k=>listed.getD k false) m) (a'.tmps.getD t undef))∧a'.defers=df∧∀ k,m≤k→listed.getD k false=false) ?_ ?_ ?_
 ·refine⟨_,rfl,hG0,hL0,fun n=>?_,hR.size,fun t=>?_,hR.df,fun k _=>A5J _ _⟩
  ·show g.M n=_
   rw[hR.M,A1p (S':=fun k=>decide (k<0)) (fun k _ _=>(A5J _ _).trans (decide_eq_false (Nat.not_lt_zero k)).symm),A4p (x:=fun k=>ofL (σ k).L n) (seqN n) 0 (Nat.le_refl _),Nat.zero_min,h0]
  ·rw[A1p (S':=fun k=>decide (k<0)) (fun k _ _=>(A5J _ _).trans (decide_eq_false (Nat.not_lt_zero k)).symm),A4p (x:=fun k=>W8 (σ k).ts t) (seqS t) 0 (Nat.le_refl _),Nat.zero_min,h0]
   exact(hR.ts t).mono hR.good hL0
 ·rintro listed a' w' i hcl ⟨g',rfl,hg',hle',hM',hs',hts',hdf',hbey⟩ hi
  obtain⟨hun,o,ho,hdep⟩:=mem_ready.1 hi
  have hios:i<ops.size:=(Array.getElem?_eq_some_iff.1 ho).1
  by_cases hil:i<m
  case neg =>
   rcases hlast with hlast | ⟨hl1,hl2,hl3⟩
   ·omega
   have him:i=m:=by omega
   subst him
   have hall:∀ k,k<i→listed.getD k false=true:=fun k hk=>by
    unfold A9a at hl2
    rw[List.all_eq_true]at hl2
    exact(A88 ops ops.toList [] rfl (fun k j h=>by simp at h) i k (hl2 k (List.mem_range.2 hk))).ready hcl hi
   refine hl3 g' a' _ hle' ⟨hg',?_,hs',fun t=>?_,hdf'⟩
   ·funext n
    rw[hM',A1p (S':=fun k=>decide (k<i)) (fun k hk _=>by simp[hall k hk,hk]),A4p (x:=fun k=>ofL (σ k).L n) (seqN n) i (Nat.le_refl _),Nat.min_self]
   ·have:=hts' t
    rwa [A1p (S':=fun k=>decide (k<i)) (fun k hk _=>by simp[hall k hk,hk]),A4p (x:=fun k=>W8 (σ k).ts t) (seqS t) i (Nat.le_refl _),Nat.min_self]at this
  have hbey':∀ k,m≤k→(listed.setIfInBounds i true).getD k false=false:=fun k hk=>by
   rw[A63 hun,if_neg (by omega)];exact hbey k hk
  obtain⟨s,hs,hstep⟩:=hst i o hil ho
  have hunf:listed.getD i false=false:=by
   have hlt:i<listed.size:=by
    rcases Nat.lt_or_ge i listed.size with h | h
    ·exact h
    ·simp[Array.getD,Nat.not_lt.2 h]at hun
   simp[Array.getD,hlt]at hun ⊢
   exact hun
  -- whoever touches what this one writes,or writes what it touches,is ordered
  have ord:∀ (k:Nat) (ok:Oper) (sk:Stp),ops[k]?=some ok→tr[k]?=some sk→k≠i→(B0o (A4O ops ok sk) (A4O ops o s)=true∧B0o (A4O ops o s) (A4O ops ok sk)=true)→listed.getD k false=decide (k<i):=fun k ok sk hk hsk hne hc=>by
   rcases Nat.lt_or_gt_of_ne hne with h | h
   ·rw[(B5L hok hk ho hsk hs h hc.1).ready hcl hi];simp[h]
   ·have ha:=B5L hok ho hk hs hsk h hc.2
    cases hl:listed.getD k false with
    | true=>have:=ha.listed hcl hl;rw[hunf]at this;cases this
    | false => have:¬ k<i:=by omega
               rw[decide_eq_false this]
  have confS:∀ {t:Nat} {ok:Oper} {sk:Stp},ok.dst=some t→(t∈(A4O ops o s).rs∨o.dst=some t)→B0o (A4O ops ok sk) (A4O ops o s)=true∧B0o (A4O ops o s) (A4O ops ok sk)=true:=fun {t ok sk} hk ht=>by
   have hh:B89 (A4O ops ok sk).d (A4O ops o s)=true:=by
    simp only[A4O,hk,B89,Bool.or_eq_true]
    rcases ht with ht | ht
    ·exact .inl (B3G ht)
    ·rw[ht];exact .inr (Nat.beq_refl t)
   exact⟨by simp[B0o,hh],by simp[B0o,hh]⟩
  have confN:∀ {n:Nat} {ok:Oper} {sk:Stp},n∈sk.wl→n∈s.rl→B0o (A4O ops ok sk) (A4O ops o s)=true∧B0o (A4O ops o s) (A4O ops ok sk)=true:=fun {n ok sk} hk hn=>by
   have hh:(A4O ops ok sk).wl.any (B3F (A4O ops o s).rl)=true:=by
    rw[List.any_eq_true]
    exact⟨n,hk,B3G hn⟩
   exact⟨by simp[B0o,hh],by simp[B0o,hh]⟩
  have slotNow:∀ t,(t∈(A4O ops o s).rs∨o.dst=some t)→A5j (Ws t) (fun k=>W8 (σ (k+1)).ts t) (W8 (σ 0).ts t) (fun k=>listed.getD k false) m=W8 (σ i).ts t:=fun t ht=>by
   rw[A1p (S':=fun k=>decide (k<i)) (fun k hk hw=>?_),A4p (x:=fun k=>W8 (σ k).ts t) (seqS t) i (Nat.le_refl _),Nat.min_eq_left (by omega)]
   have hok':ops[k]?=some (ops[k]'(by omega)):=Array.getElem?_eq_getElem (by omega)
   obtain⟨sk,hsk,_⟩:=hst k _ hk hok'
   by_cases hki:k=i
   ·subst hki;rw[hunf];simp
   ·exact ord k _ sk hok' hsk hki (confS ((ws_t hok').1 hw) ht)
  have nameNow:∀ n,n∈s.rl→A5j (Wn n) (fun k=>ofL (σ (k+1)).L n) (ofL (σ 0).L n) (fun k=>listed.getD k false) m=ofL (σ i).L n:=fun n hn=>by
   rw[A1p (S':=fun k=>decide (k<i)) (fun k hk hw=>?_),A4p (x:=fun k=>ofL (σ k).L n) (seqN n) i (Nat.le_refl _),Nat.min_eq_left (by omega)]
   have hok':ops[k]?=some (ops[k]'(by omega)):=Array.getElem?_eq_getElem (by omega)
   obtain⟨sk,hsk,_⟩:=hst k _ hk hok'
   by_cases hki:k=i
   ·subst hki;rw[hunf];simp
   ·exact ord k _ sk hok' hsk hki (confN ((wn_t hsk).1 hw) hn)
  have slotNext:∀ t,o.dst=some t→A5j (Ws t) (fun k=>W8 (σ (k+1)).ts t) (W8 (σ 0).ts t) (fun k=>(listed.setIfInBounds i true).getD k false) m=W8 (σ (i+1)).ts t:=fun t ht=>by
   rw[A1p (S':=fun k=>decide (k<i+1)) (fun k hk hw=>?_),A4p (x:=fun k=>W8 (σ k).ts t) (seqS t) (i+1) (Nat.le_refl _),Nat.min_eq_left (by omega)]
   have hok':ops[k]?=some (ops[k]'(by omega)):=Array.getElem?_eq_getElem (by omega)
   obtain⟨sk,hsk,_⟩:=hst k _ hk hok'
   rw[A63 hun]
   by_cases hki:k=i
   ·subst hki;simp
   ·rw[if_neg hki,ord k _ sk hok' hsk hki (confS ((ws_t hok').1 hw) (.inr ht))]
    have:(k<i)=(k<i+1):=by simp;omega
    simp[this]
  have nameNext:∀ n,n∈s.wl→n∈s.rl→A5j (Wn n) (fun k=>ofL (σ (k+1)).L n) (ofL (σ 0).L n) (fun k=>(listed.setIfInBounds i true).getD k false) m=ofL (σ (i+1)).L n:=fun n hn hn'=>by
   rw[A1p (S':=fun k=>decide (k<i+1)) (fun k hk hw=>?_),A4p (x:=fun k=>ofL (σ k).L n) (seqN n) (i+1) (Nat.le_refl _),Nat.min_eq_left (by omega)]
   have hok':ops[k]?=some (ops[k]'(by omega)):=Array.getElem?_eq_getElem (by omega)
   obtain⟨sk,hsk,_⟩:=hst k _ hk hok'
   rw[A63 hun]
   by_cases hki:k=i
   ·subst hki;simp
   ·rw[if_neg hki,ord k _ sk hok' hsk hki (confN ((wn_t hsk).1 hw) hn')]
    have:(k<i)=(k<i+1):=by simp;omega
    simp[this]
  have slotKeep:∀ t,o.dst≠some t→A5j (Ws t) (fun k=>W8 (σ (k+1)).ts t) (W8 (σ 0).ts t) (fun k=>(listed.setIfInBounds i true).getD k false) m=A5j (Ws t) (fun k=>W8 (σ (k+1)).ts t) (W8 (σ 0).ts t) (fun k=>listed.getD k false) m:=fun t ht=>by
   refine A1p fun k hk hw=>?_
   rw[A63 hun]
   by_cases hki:k=i
   ·subst hki;exact absurd ((ws_t ho).1 hw) ht
   ·rw[if_neg hki]
  have nameKeep:∀ n,n∉s.wl→A5j (Wn n) (fun k=>ofL (σ (k+1)).L n) (ofL (σ 0).L n) (fun k=>(listed.setIfInBounds i true).getD k false) m=A5j (Wn n) (fun k=>ofL (σ (k+1)).L n) (ofL (σ 0).L n) (fun k=>listed.getD k false) m:=fun n hn=>by
   refine A1p fun k hk hw=>?_
   rw[A63 hun]
   by_cases hki:k=i
   ·subst hki;exact absurd ((wn_t hs).1 hw) hn
   ·rw[if_neg hki]
  have hguard:∀ d,(∃ k c,o.guard=some (k,c)∧(ops[k]?).bind (·.dst)=some d)→VT g' (W8 (σ i).ts d) (a'.tmps.getD d undef):=fun d ⟨k,c,h2,h3⟩=>by
   have:=hts' d
   rwa [slotNow d (.inl ?_)]at this
   simp[A4O,B1W,h2,h3]
  unfold wpOpIn
  simp only[ho]
  generalize hσi:σ i=si at hstep slotNow nameNow hguard
  generalize hσj:σ (i+1)=sj at hstep slotNext nameNext
  cases hstep with
  | run hw hop hin hr hwn hd =>
   rename_i ins rn wn new v
   rw[A0W hw hguard]
   simp only[if_true]
   refine hop F nn hF g' a' hg' (fun p hp=>?_) (fun p hp=>?_) (fun k hk=>?_) _ _ fun g'' c k1 k2 k3 k4=>?_
   ·obtain⟨h2,h3⟩:=hin p hp
    rw[← h2]
    cases hx:p.1 with
    | tmp t =>
     have:=hts' t
     rwa [slotNow t (.inl ?_)]at this
     rw[hx]at h3
     simp only[A4O,List.mem_append]
     exact .inl (A5h (by simpa using h3))
    | const v=>exact VT.ofV g' v
    | func f=>exact .d (.v _ rfl)
    | global=>exact .bot _
   ·rw[hM',nameNow p.1 (by simp only[Stp.rl,List.mem_append,List.mem_map];exact .inl ⟨p,hp,rfl⟩)]
    exact hr p hp
   ·rw[hM',nameNow (si.L.length+k) (by simp only[Stp.rl,List.mem_append,List.mem_range'_1];exact .inr ⟨by omega,by omega⟩)]
    exact List.getElem?_eq_none (by omega)
   ·have hwlen:∀ p∈wn,p.1<si.L.length:=fun p hp=>by
     obtain⟨q,hq,he⟩:=hwn p hp
     rw[← he];exact(List.getElem?_eq_some_iff.1 (hr q hq)).1
    refine⟨g'',rfl,k1,hle'.trans k2,fun n=>?_,by rw[A5c];exact hs',fun t=>?_,by rw[A3h];exact hdf',hbey'⟩
    ·by_cases hn:n∈(Stp.run (rn.map (·.1)++List.range' si.L.length new.length) (wn.map (·.1)++List.range' si.L.length new.length)).wl
     ·rw[nameNext n hn (by
       simp only[Stp.wl,Stp.rl,List.mem_append,List.mem_map]at hn ⊢
       rcases hn with⟨p,hp,rfl⟩ | hn
       ·obtain⟨q,hq,he⟩:=hwn p hp;exact .inl ⟨q,hq,he⟩
       ·exact .inr hn),B0y _ _ _ _ _ hwlen,k3]
      simp only[Stp.wl,List.mem_append,List.mem_map,List.mem_range'_1]at hn
      unfold upd
      cases hf:wn.find? (fun p=>p.1==n)with
      | some p=>rfl
      | none =>
       rw[List.find?_eq_none]at hf
       rcases hn with⟨p,hp,rfl⟩ | hn
       ·exact absurd (by simp) (hf p hp)
       ·dsimp only;rw[if_pos hn,if_pos hn]
     ·rw[nameKeep n hn,k3,← hM' n]
      simp only[Stp.wl,List.mem_append,List.mem_map,List.mem_range'_1,not_or]at hn
      unfold upd
      have:wn.find? (fun p=>p.1==n)=none:=by
       rw[List.find?_eq_none]
       intro p hp he
       exact hn.1 ⟨p,hp,by simpa using he⟩
      rw[this]
      dsimp only
      rw[if_neg hn.2]
    ·rw[A5b hs' hd]
     by_cases ht:o.dst=some t
     ·rw[if_pos ht,slotNext t ht]
      simp only[St.eff,A2M,ht,if_true]
      exact k4
     ·rw[if_neg ht,slotKeep t ht]
      exact(hts' t).mono hg' k2
  | skip hw hd =>
   rw[A0W hw hguard]
   simp only[Bool.false_eq_true,if_false]
   refine⟨fun f _=>hF.fn f,g',rfl,hg',hle',fun n=>?_,by rw[A5c];exact hs',fun t=>?_,by rw[A3h];exact hdf',hbey'⟩
   ·rw[nameKeep n (by simp[Stp.wl])];exact hM' n
   ·rw[A5b hs' hd]
    by_cases ht:o.dst=some t
    ·rw[if_pos ht,slotNext t ht]
     simp only[St.eff,A2M,ht,if_true]
     exact .d (.tup [] #[] rfl fun i d c h=>by simp at h)
    ·rw[if_neg ht,slotKeep t ht]
     exact hts' t
 ·rintro listed a' w' hls hr ⟨g',rfl,hg',hle',hM',hs',hts',hdf',hbey⟩
  have hlow:A9c ops=true:=by unfold B0s at hok;rw[Bool.and_eq_true]at hok;exact hok.2
  have hall:=B30 hlow hls hr
  have hms:m=ops.size:=by
   rcases hlast with h | ⟨h,_⟩
   ·exact h
   ·have h1:=hall m (by omega)
    rw[hbey m (Nat.le_refl _)]at h1;cases h1
  refine hQ hms g' a' hle' ⟨hg',?_,hs',fun t=>?_,hdf'⟩
  ·funext n
   rw[hM',A1p (S':=fun k=>decide (k<m)) (fun k hk _=>by simp[hall k (by omega),hk]),A4p (x:=fun k=>ofL (σ k).L n) (seqN n) m (Nat.le_refl _),Nat.min_self]
  ·have:=hts' t
   rwa [A1p (S':=fun k=>decide (k<m)) (fun k hk _=>by simp[hall k (by omega),hk]),A4p (x:=fun k=>W8 (σ k).ts t) (seqS t) m (Nat.le_refl _),Nat.min_self]at this
theorem B0g {P:Program} {F:Fence} {nn N:Nat} {id:Nat} {ops:Array Oper} {Q:Exit→Act→World→Prop} {st st':St} {tr:List Stp} (hm:P.follows .mixedOrders=true) (hF:Wd F) (hev:Ev P N ops ops.toList st tr st') (hok:B0s ops tr=true) {g:G} {a:Act} {df:List Deferred} (hR:StR g N st a df)
  (hQ:∀ g' a',Le g g'→StR g' N st' a' df→Q .normal a' g'.w):(Code.region id ops true).wpIn F nn P Q a g.w:=by
 obtain⟨σ,h0,h1,hst⟩:=hev.seq
 rw[Array.length_toList]at h1
 exact A9q hm hF σ ops.size (Nat.le_refl _) h0 (fun k o _ ho=>hst k o (by rw[Array.getElem?_toList];exact ho)) hok hR (.inl rfl) fun _=>by rw[h1];exact hQ
theorem B3g {P:Program} {F:Fence} {nn N:Nat} {id:Nat} {ops:Array Oper} {l1:List Oper} {o:Oper} {Q:Exit→Act→World→Prop} {st st':St} {tr:List Stp} (hm:P.follows .mixedOrders=true) (hF:Wd F) (hops:ops.toList=l1++[o]) (hev:Ev P N ops l1 st tr st') (hok:B0s ops tr=true) (hl:A9a ops l1.length=true) {g:G} {a:Act} {df:List Deferred} (hR:StR g N st a df)
  (hp:∀ g' a' K,Le g g'→StR g' N st' a' df→wpOpIn F nn P ops Q l1.length K a' g'.w):(Code.region id ops true).wpIn F nn P Q a g.w:=by
 obtain⟨σ,h0,h1,hst⟩:=hev.seq
 have hsz:ops.size=l1.length+1:=by rw[← Array.length_toList,hops];simp
 refine A9q hm hF σ l1.length (by omega) h0 (fun k o' hk ho=>hst k o' ?_) hok hR (.inr ⟨hsz.symm,hl,?_⟩) fun h=>by omega
 ·rw[← Array.getElem?_toList,hops,List.getElem?_append_left hk]at ho;exact ho
 ·rw[h1];exact hp
end Go.Proofs.YtlaogbbcipebgaaGreat.Sh
