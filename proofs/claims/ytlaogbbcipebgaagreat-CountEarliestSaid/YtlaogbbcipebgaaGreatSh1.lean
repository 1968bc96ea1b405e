/- Rules of the walks. -/
import Derived.WalkKit
import Derived.CallsIn
import Derived.OrdersIn
import Derived.Laws.AppendOwn
import Derived.Laws.CopyRow
import Derived.Deep.MidRow
import Derived.Below
set_option linter.unusedVariables false
set_option linter.unusedSimpArgs false
open Array renaming toList_setIfInBounds→cE,getElem?_push→bS,getElem?_toList→bC,all_eq_true_iff_forall_mem→dt,mem_of_getElem?→dY,getElem?_eq_getElem→aE,length_toList→br,range→dg,size_append→er,getD→bH,replicate→bt,getD_eq_getD_getElem?→cb
open Bool renaming and_eq_true→aF,false_eq_true→bR,false_or→bu,not_true→dA,or_eq_true→cd
open Go renaming Value→al,TypeId→ab,World→aO,MapEntry→dR,Program→ah,storeCells→ef,FuncId→bm,Operand→aa,execOp→aT,run_underlying→aV,typeInfo→bT,zeroValue→dU,IntKind→aU,Deferred→bp,wpIn_mono→aW
open Int renaming not_lt→fo
open List renaming append_nil→aH,length_nil→ct,length_eq_zero_iff→bV,find?_nil→dn,length_singleton→ee,find?_cons→cc,mem_map→bZ,all_eq_true→ax,getElem_mem→aj,drop_eq_getElem_cons→cK,take_zero→cM,getElem?_take→bo,getElem?_drop→bF,append_assoc→bI,getElem?_append_left→aC,getElem?_append_right→aG,length_append→bz,getElem?_set_ne→dp,length_cons→cj,flatMap_cons→cP,eq_nil_of_length_eq_zero→bE,take_left→dP,drop_eq_nil_of_le→dc,nil_append→cf,replicate→ak,getElem?_replicate→bJ,getElem?_of_mem→cB,size_toArray→cZ,mem_append→bP,getElem?_eq_none→aD,find?_eq_none→cG,range'→az,range→dh,mem_range→cQ,getD_eq_getElem?_getD→am,mem_cons→ap,any_eq_true→dG,zipWith→eY,mem_range'_1→cR,idxOf?→eh,findIdx?_eq_some_iff_getElem→dv,pairwise_iff_getElem→cn,getElem?_eq_none_iff→aQ
open Nat renaming add_zero→bj,add_assoc→bW,le_refl→aw,le_trans→bN,lt_of_lt_of_le→bq,beq→aJ,eq_of_beq_eq_true→aA,ne_of_beq_eq_false→ba,ble→bL,le_of_ble_eq_true→bg,lt_or_gt_of_ne→ey,mul_le_mul_right→bQ,add_mul→bv,one_mul→fk,zero_le→du,sub_zero→aP,blt→aq,blt_eq→bG,zero_mul→da,zero_add→aZ,beq_refl→dd,lt_or_ge→bX,not_lt→dl,strongRecOn→eI,testBit_or→eQ,not_lt_zero→eJ,zero_min→ff,min_self→dE,min_eq_left→cI,not_le→cD
open Option renaming map_eq_some_iff→an,some.injEq→aK,isSome_iff_exists→cL,map_some→bh,bind_some→dy,getD_some→aR
open Prod renaming mk.injEq→eP
namespace Go.Proofs.YtlaogbbcipebgaaGreat.Sh
open Go
theorem oM {p:Prop} (h:p:=by omega):p:=h
theorem sM {p:Prop} (h:p:=by simp):p:=h
theorem dM {p:Prop} (h:p:=by decide):p:=h
theorem gE {α:Type} {l:List α} {i:Nat} (h:i<l.length):l[i]?=some l[i]:=List.getElem?_eq_getElem h
theorem gS {α:Type} {a:α} {l:List α} {i:Nat} (h:l[i]?=some a):∃ k:i<l.length,l[i]=a:=List.getElem?_eq_some_iff.1 h
theorem gA {α:Type} {a:α} {l:Array α} {i:Nat} (h:l[i]?=some a):∃ k:i<l.size,l[i]=a:=Array.getElem?_eq_some_iff.1 h
theorem gM {α β:Type} {l:List α} {i:Nat} {f:α→β}:(l.map f)[i]?=Option.map f l[i]?:=List.getElem?_map
theorem lS {n:Nat}:n<n+1:=Nat.lt_succ_self n
theorem nL {a b:Int} (h:b≤a):¬ a<b:=fo.2 h
theorem iM {α:Type} {a:α} {l:List α} {i:Nat} (h:l[i]?=some a):a∈l:=List.mem_of_getElem? h

inductive D where
 | v (x:al)
 | agg (l:List D)
 | tup (l:List D)
 | arr (s:Nat) (l:List D)
 | el (s:Nat) (l:List D) (i o:Nat)
 | mp (ks:List al) (vs:List D)
  deriving Inhabited
def D.cells:D→List D
 | .agg l=>l
 | x=>[x]
inductive T where
 | d (x:D)
 | bot
 | ref (n s i o:Nat)
 | row (n s lo len:Nat)
 | agg (l:List T)
 | tup (l:List T)
 | fn (f:Fn) (first caps:List T)
 | iface (t:ab) (x:T)
 | mp (n:Nat)
  deriving Inhabited
def T.cells:T→List T
 | .d (.agg l)=>l.map .d
 | .agg l=>l
 | x=>[x]
def A8N:List T→Option (List D)
 | []=>some []
 | .d x::l=>(A8N l).map (x::·)
 | _=>none
def mkAgg (l:List T):T:=match A8N l with
 | some ds => .d (.agg ds)
 | none => .agg l
def mkTup (l:List T):T:=match A8N l with
 | some ds => .d (.tup ds)
 | none => .tup l
structure Rw where
 s:Nat
 els:List T
abbrev LR:=List (Option Rw)
abbrev LT:=List (Nat × T)
structure G where
 M:Nat→Option (Option Rw)
 β:Nat→Nat × Nat
 K:Nat→Prop
 w:aO
def one (c:al):Prop:=c.oneCell'=true
inductive VD (g:G):D→al→Prop where
 | v (x:al) (h:one x):VD g (.v x) x
 | agg (l:List D) (cs:Array al) (hl:l.length=cs.size) (h:∀ (i:Nat) (d:D) (c:al),l[i]?=some d→cs[i]?=some c→VD g d c):VD g (.agg l) (.agg cs)
 | tup (l:List D) (cs:Array al) (hl:l.length=cs.size) (h:∀ (i:Nat) (d:D) (c:al),l[i]?=some d→cs[i]?=some c→VD g d c):VD g (.tup l) (.tuple cs)
 | arr0 (s:Nat) (a:Option Addr) (cap:Nat):VD g (.arr s []) (.slice a 0 cap)
 | arr (s:Nat) (l:List D) (b off cap:Nat) (f:Nat→Nat→al) (hc:l.length≤cap) (hK:g.K b) (hs:∀ (i:Nat) (d:D),l[i]?=some d→d.cells.length=s)
   (hw:∀ (i:Nat) (d:D),l[i]?=some d→∀ (j:Nat) (e:D),d.cells[j]?=some e→g.w.cell? ⟨b,off+i*s+j,none⟩=some (f i j))
   (hv:∀ (i:Nat) (d:D),l[i]?=some d→∀ (j:Nat) (e:D),d.cells[j]?=some e→VD g e (f i j)):VD g (.arr s l) (.slice (some ⟨b,off,none⟩) l.length cap)
 | el (s:Nat) (l:List D) (i o b off:Nat) (f:Nat→Nat→al) (hK:l≠[]→g.K b) (hs:∀ (i:Nat) (d:D),l[i]?=some d→d.cells.length=s)
   (hw:∀ (i:Nat) (d:D),l[i]?=some d→∀ (j:Nat) (e:D),d.cells[j]?=some e→g.w.cell? ⟨b,off+i*s+j,none⟩=some (f i j))
   (hv:∀ (i:Nat) (d:D),l[i]?=some d→∀ (j:Nat) (e:D),d.cells[j]?=some e→VD g e (f i j)):VD g (.el s l i o) (.pointer (some ⟨b,off+i*s+o,none⟩))
 | mp (ks:List al) (vs:List D) (b:Nat) (es:Array dR) (clock:Nat) (hK:g.K b) (hh:g.w.heap[b]?=some (.map es clock)) (hl:ks.length=es.size) (hl2:vs.length=es.size) (hk:∀ (i:Nat) (k:al) (e:dR),ks[i]?=some k→es[i]?=some e→e.key=k)
   (hv:∀ (i:Nat) (d:D) (e:dR),vs[i]?=some d→es[i]?=some e→VD g d e.val):VD g (.mp ks vs) (.map (some b))
inductive VT (g:G):T→al→Prop where
 | d {x:D} {c:al} (h:VD g x c):VT g (.d x) c
 | bot (c:al):VT g .bot c
 | ref (n s i o:Nat) (hn:g.M n≠none) (hs:s≠0):VT g (.ref n s i o) (.pointer (some ⟨(g.β n).1,i*s+o,none⟩))
 | row (n s lo len:Nat) (a:Option Addr) (hn:g.M n≠none) (hs:s≠0) (hl:lo+len≤(g.β n).2) (ha:(g.β n).2≠0→a=some ⟨(g.β n).1,lo*s,none⟩):VT g (.row n s lo len) (.slice a len ((g.β n).2-lo))
 | mp (n:Nat) (hn:g.M n≠none):VT g (.mp n) (.map (some (g.β n).1))
 | agg (l:List T) (cs:Array al) (hl:l.length=cs.size) (h:∀ (i:Nat) (d:T) (c:al),l[i]?=some d→cs[i]?=some c→VT g d c):VT g (.agg l) (.agg cs)
 | tup (l:List T) (cs:Array al) (hl:l.length=cs.size) (h:∀ (i:Nat) (d:T) (c:al),l[i]?=some d→cs[i]?=some c→VT g d c):VT g (.tup l) (.tuple cs)
 | fn (f:Fn) (l m:List T) (cs ds:Array al) (hl:l.length=cs.size) (h:∀ (i:Nat) (d:T) (c:al),l[i]?=some d→cs[i]?=some c→VT g d c)
   (hm:m.length=ds.size) (k:∀ (i:Nat) (d:T) (c:al),m[i]?=some d→ds[i]?=some c→VT g d c):VT g (.fn f l m) (.func f cs ds)
 | iface (t:ab) (x:T) (c:al) (h:VT g x c):VT g (.iface t x) (.iface t c)
def NL (g:G) (b:Nat):Prop:=∀ n r,g.M n=some (some r)→(g.β n).2≠0→(g.β n).1≠b
abbrev EF (n:Nat):={p:ab × (Nat × Nat) // p.2=(0,0)∨p.2=(n,n+1)}
def EF.z {n:Nat} (e:ab):EF n:=⟨(e,(0,0)),.inl rfl⟩
def EF.to {n m:Nat} (e:EF n) (h:n=m):EF m:=⟨e.1,h▸e.2⟩
theorem EF.free {n:Nat} (e:EF n) {w:aO} {b o:Nat} {c:Array al} (h:w.heap[b]?=some (.cells c e.1.1 e.1.2)) (ho:o<n):w.frozen? ⟨b,o,none⟩=false:=by
 simp only[World.frozen?,h];obtain⟨⟨t,lo,hi⟩,h2⟩:=e;dsimp only at h2 ⊢;rcases h2 with h2 | h2<;>injection h2 with h3 h4<;>subst h3<;>subst h4
 ·simp
 ·have:¬ lo≤o:=by omega
  simp[this]
theorem C73 {P:ah} (g o:Nat) {n:Nat} (t:EF n):∀ (vs:List al) (i:Nat) (cur:Array al) (w:aO),cur.size=n→w.heap[g]?=some (.cells cur t.1.1 t.1.2)→o+i+vs.length≤cur.size→(∀ v∈vs,v.oneCell'=true) →
    (ef ⟨g,o,none⟩ vs i).run P w = .ok () (w.setRow g (cur.toList.take (o+i)++vs++cur.toList.drop (o+i+vs.length)).toArray)
 | [],i,cur,w,hn,hg,_,_=>by
  simp only[ef,aH,ct,bj,List.take_append_drop,Array.toArray_toList];rw[setRow_self w g cur t.1.1 t.1.2 hg];rfl
 | v::rest,i,cur,w,hn,hg,hl,h1=>by
  have hi:o+i<cur.size:=by simp at hl;omega
  have hadd:(⟨g,o,none⟩:Addr).add i=⟨g,o+i,none⟩:=by unfold Addr.add;split<;>simp_all
  have hcell:w.cell? ⟨g,o+i,none⟩=some cur[o+i]:=by simp[World.cell?,hg,hi]
  have hfro:w.frozen? ⟨g,o+i,none⟩=false:=t.free hg oM;have hst:(store ((⟨g,o,none⟩:Addr).add i) v).run P w = .ok () (w.setRow g (cur.setIfInBounds (o+i) v)):=by
   rw[hadd,run_store P w _ v _ (h1 v sM),hcell];simp[hfro,setCell_eq_setRow w g (o+i) cur t.1.1 t.1.2 v hg]
  have ih:=C73 (P:=P) g o t rest (i+1) (cur.setIfInBounds (o+i) v) (w.setRow g (cur.setIfInBounds (o+i) v)) (by simpa using hn) (setRow_heap w g cur _ t.1.1 _ hg) (by simp at hl ⊢;omega) (fun x hx=>h1 x (by simp[hx]));simp only[ef,Sem.run_bind,hst,Result.andThen_ok,ih,setRow_setRow];congr 3;have e:=list_seg_step cur.toList (o+i) v rest (by simp at hl ⊢;omega);simpa[cE,bW]using e
def B7i (g:G) (n:Nat) (r:Rw):Prop :=
 ∃ (cells:Array al) (e:EF cells.size),g.w.heap[(g.β n).1]?=some (.cells cells e.1.1 e.1.2)∧cells.size=(g.β n).2*r.s∧r.els.length≤(g.β n).2 ∧
  ∀ (i:Nat) (x:T),r.els[i]?=some x→x.cells.length=r.s∧∀ (j:Nat) (y:T),x.cells[j]?=some y→∃ c,cells[i*r.s+j]?=some c∧VT g y c
def C0U (g:G) (n:Nat) (r:Rw):Prop :=
 ∃ es clock,g.w.heap[(g.β n).1]?=some (.map es clock)∧es.size=r.els.length∧∀ (i:Nat) (x:T),r.els[i]?=some x→∃ k y e,x = .agg [.d (.v k),y]∧es[i]?=some e∧e.key=k∧VT g y e.val
def A4q (g:G) (n:Nat) (r:Rw):Prop:=((g.β n).2=0∧r.els=[]∧r.s≠0)∨(r.s≠0∧B7i g n r)∨(r.s=0∧(g.β n).2=1∧C0U g n r)
structure P6 (g:G):Prop where
 rows:∀ n r,g.M n=some (some r)→A4q g n r
 inj:∀ n m r q,g.M n=some (some r)→g.M m=some (some q)→(g.β n).2≠0→(g.β m).2≠0→(g.β n).1=(g.β m).1→n=m
 kd:∀ b,g.K b→b<g.w.heap.size
 kl:∀ b,g.K b→NL g b
structure Le (g g':G):Prop where
 e:∀ n,g.M n≠none→g'.M n≠none∧g'.β n=g.β n
 size:g.w.heap.size≤g'.w.heap.size
 os:g'.w.os=g.w.os
 tape:g'.w.tape=g.w.tape
 output:g'.w.output=g.w.output
 fr:∀ b,b<g.w.heap.size→NL g b→g'.w.heap[b]?=g.w.heap[b]?
 k:∀ b,g.K b→g'.K b
 k':∀ b,b<g.w.heap.size→g'.K b→g.K b∨¬ NL g b
 nl:∀ n r,g'.M n=some (some r)→(g'.β n).2≠0→(g'.β n).1<g.w.heap.size→¬ NL g (g'.β n).1
theorem Le.refl (g:G):Le g g:=⟨fun _ h=>⟨h,rfl⟩,aw _,rfl,rfl,rfl,fun _ _ _=>rfl,fun _ h=>h,fun _ _ h => .inl h,fun n r h h0 _ hn=>hn n r h h0 rfl⟩
theorem Le.keepNL {g g':G} (h:Le g g') {b:Nat} (hb:b<g.w.heap.size) (hn:NL g b):NL g' b:=fun n r hr h0 he=>h.nl n r hr h0 (by rw[he];exact hb) (he▸hn)
theorem Le.trans {a b c:G} (h:Le a b) (k:Le b c):Le a c where
 e n hn:=by
  obtain⟨h1,h2⟩:=h.e n hn;obtain⟨k1,k2⟩:=k.e n h1;exact⟨k1,k2.trans h2⟩
 size:=bN h.size k.size
 os:=k.os.trans h.os
 tape:=k.tape.trans h.tape
 output:=k.output.trans h.output
 fr x hx hn:=(k.fr x (bq hx h.size) (h.keepNL hx hn)).trans (h.fr x hx hn)
 k x hx:=k.k x (h.k x hx)
 k' x hx hk:=by
  rcases k.k' x (bq hx h.size) hk with h1 | h1
  ·exact h.k' x hx h1
  ·exact .inr fun hn=>h1 (h.keepNL hx hn)
 nl n r hr h0 hlt:=by
  intro hn;exact k.nl n r hr h0 (bq hlt h.size) (h.keepNL hlt hn)
theorem VD.mono {g g':G} (hg:P6 g) (hl':Le g g') {d:D} {c:al} (h:VD g d c):VD g' d c:=by
 have hc:∀ b o v,g.K b→g.w.cell? ⟨b,o,none⟩=some v→g'.w.cell? ⟨b,o,none⟩=some v:=fun b o v hb hv=>by
  unfold World.cell? at hv ⊢;rw[hl'.fr b (hg.kd b hb) (hg.kl b hb)];exact hv
 induction h with
 | v x h=>exact .v x h
 | agg l cs hl h ih=>exact .agg l cs hl ih
 | tup l cs hl h ih=>exact .tup l cs hl ih
 | arr0 s a cap=>exact .arr0 s a cap
 | arr s l b off cap f hcap hK hs hw hv ih=>exact .arr s l b off cap f hcap (hl'.k b hK) hs (fun i d hd j e he=>hc _ _ _ hK (hw i d hd j e he)) ih
 | el s l i o b off f hK hs hw hv ih=>exact .el s l i o b off f (fun h=>hl'.k b (hK h)) hs (fun i d hd j e he=>hc _ _ _ (hK (by rintro rfl;simp at hd)) (hw i d hd j e he)) ih
 | mp ks vs b es clock hK hh hl hl2 hk hv ih=>exact .mp ks vs b es clock (hl'.k b hK) (by rw[hl'.fr b (hg.kd b hK) (hg.kl b hK)];exact hh) hl hl2 hk ih
theorem VT.mono {g g':G} (hg:P6 g) (hl:Le g g') {t:T} {c:al} (h:VT g t c):VT g' t c:=by
 induction h with
 | d h=>exact .d (h.mono hg hl)
 | bot c=>exact .bot c
 | ref n s i o hn hs=>obtain⟨h1,h2⟩:=hl.e n hn;rw[← h2];exact .ref n s i o h1 hs
 | row n s lo len a hn hs hle ha=>obtain⟨h1,h2⟩:=hl.e n hn;rw[← h2]at ha ⊢;exact .row n s lo len a h1 hs (by rw[h2];exact hle) ha
 | mp n hn=>obtain⟨h1,h2⟩:=hl.e n hn;rw[← h2];exact .mp n h1
 | agg l cs hl h ih=>exact .agg l cs hl ih
 | tup l cs hl h ih=>exact .tup l cs hl ih
 | fn f l m cs ds hl h hm k ih ik=>exact .fn f l m cs ds hl ih hm ik
 | iface t x c h ih=>exact .iface t x c ih
theorem A4q.keep {g g':G} (hg:P6 g) (hl:Le g g') {n:Nat} {r:Rw} (h:A4q g n r) (hb:g'.β n=g.β n) (hh:(g.β n).2≠0→g'.w.heap[(g.β n).1]?=g.w.heap[(g.β n).1]?):A4q g' n r:=by
 by_cases h0:(g.β n).2=0
 ·rcases h with⟨_,h2,h3⟩ | ⟨h2,cells,e,h3,h4,h5,h6⟩ | ⟨_,h2,_⟩
  ·exact .inl ⟨by rw[hb];exact h0,h2,h3⟩
  ·exact .inl ⟨by rw[hb];exact h0,bV.1 oM,h2⟩
  ·omega
 replace hh:=hh h0;rcases h with⟨h1,h2⟩ | ⟨hs,cells,e,h1,h2,h3,h4⟩ | ⟨hs,hc,es,clock,h1,h2,h3⟩
 ·exact .inl ⟨by rw[hb];exact h1,h2⟩
 ·refine .inr (.inl ⟨hs,cells,e,by rw[hb,hh];exact h1,by rw[hb];exact h2,by rw[hb];exact h3,fun i x hx=>⟨(h4 i x hx).1,fun j y hy=>?_⟩⟩);obtain⟨c,hc,hv⟩:=(h4 i x hx).2 j y hy;exact⟨c,hc,hv.mono hg hl⟩
 ·refine .inr (.inr ⟨hs,by rw[hb];exact hc,es,clock,by rw[hb,hh];exact h1,h2,fun i x hx=>?_⟩);obtain⟨k,y,e,h4,h5,h6,h7⟩:=h3 i x hx;exact⟨k,y,e,h4,h5,h6,h7.mono hg hl⟩
theorem A4q.lt {g:G} {n:Nat} {r:Rw} (h:A4q g n r) (h0:(g.β n).2≠0):(g.β n).1<g.w.heap.size:=by
 rcases h with⟨h1,_⟩ | ⟨_,cells,e,h1,_⟩ | ⟨_,_,es,clock,h1,_⟩
 ·exact absurd h1 h0
 ·exact(gA h1).1
 ·exact(gA h1).1
theorem A4q.has {g:G} {n:Nat} {r:Rw} (h:A4q g n r) (hs:r.s≠0) {i:Nat} {x:T} (hx:r.els[i]?=some x):(g.β n).2≠0∧B7i g n r:=by
 rcases h with⟨_,h2,_⟩ | ⟨_,h2⟩ | ⟨h2,_⟩
 ·rw[h2]at hx;simp at hx
 ·obtain⟨cells,e,h3,h4,h5,h6⟩:=h2;have:=(gS hx).1;exact⟨by omega,cells,e,h3,h4,h5,h6⟩
 ·exact absurd h2 hs
theorem A4q.le {g:G} {n:Nat} {r:Rw} (h:A4q g n r) (hs:r.s≠0):r.els.length≤(g.β n).2:=by
 rcases h with⟨_,h2,_⟩ | ⟨_,cells,e,_,_,h5,_⟩ | ⟨h2,_⟩
 ·rw[h2];simp
 ·exact h5
 ·exact absurd h2 hs
theorem A4q.rel {g g':G} {n n':Nat} {r r':Rw} (h:A4q g n r) (hs:r'.s=r.s) (hb:g'.β n'=g.β n) (hh:(g.β n).2≠0→g'.w.heap[(g.β n).1]?=g.w.heap[(g.β n).1]?) (hl:r'.els.length=r.els.length)
  (R:T→T→Prop) (hR:∀ (i:Nat) (x x':T),r.els[i]?=some x→r'.els[i]?=some x'→R x x') (hc:∀ x x',R x x'→x.cells.length=x'.cells.length∧∀ (j:Nat) (y y':T),x.cells[j]?=some y→x'.cells[j]?=some y'→R y y')
  (hm:∀ k y x',R (.agg [.d (.v k),y]) x'→∃ y',x' = .agg [.d (.v k),y']∧R y y') (hv:∀ t t' c,R t t'→VT g t c→VT g' t' c):A4q g' n' r':=by
 by_cases h0:(g.β n).2=0
 ·rcases h with⟨_,h2,h3⟩ | ⟨h2,cells,e,h3,h4,h5,h6⟩ | ⟨_,h2,_⟩
  ·exact .inl ⟨by rw[hb];exact h0,bV.1 (by rw[hl,h2];rfl),by rw[hs];exact h3⟩
  ·exact .inl ⟨by rw[hb];exact h0,bV.1 oM,by rw[hs];exact h2⟩
  ·omega
 replace hh:=hh h0;have get:∀ (i:Nat) (x':T),r'.els[i]?=some x'→∃ x,r.els[i]?=some x:=fun i x' hx=>⟨_,gE (by have:=(gS hx).1;omega)⟩;rcases h with⟨h1,h2⟩ | ⟨hs',cells,e,h1,h2,h3,h4⟩ | ⟨hs',hc',es,clock,h1,h2,h3⟩
 ·exact absurd h1 h0
 ·refine .inr (.inl ⟨by rw[hs];exact hs',cells,e,by rw[hb,hh];exact h1,by rw[hb,hs];exact h2,by rw[hb,hl];exact h3,fun i x' hx'=>?_⟩);obtain⟨x,hx⟩:=get i x' hx';obtain⟨k1,k2⟩:=hc x x' (hR i x x' hx hx');refine⟨by rw[hs,← k1];exact(h4 i x hx).1,fun j y' hy'=>?_⟩;have hj:j<x.cells.length:=by rw[k1];exact(gS hy').1
  have hy:x.cells[j]?=some x.cells[j]:=gE hj;obtain⟨c,k3,k4⟩:=(h4 i x hx).2 j _ hy;exact⟨c,by rw[hs];exact k3,hv _ _ c (k2 j _ y' hy hy') k4⟩
 ·refine .inr (.inr ⟨by rw[hs];exact hs',by rw[hb];exact hc',es,clock,by rw[hb,hh];exact h1,by rw[hl];exact h2,fun i x' hx'=>?_⟩);obtain⟨x,hx⟩:=get i x' hx';obtain⟨k,y,e,rfl,h5,h6,h7⟩:=h3 i x hx;obtain⟨y',rfl,h8⟩:=hm k y x' (hR i _ x' hx hx');exact⟨k,y',e,rfl,h5,h6,hv _ _ _ h8 h7⟩

def VTs (g:G) (l:List T) (cs:List al):Prop:=l.length=cs.length∧∀ (i:Nat) (d:T) (c:al),l[i]?=some d→cs[i]?=some c→VT g d c
theorem VTs.nil (g:G):VTs g [] []:=⟨rfl,fun i d c h=>by simp at h⟩
theorem VTs.cons {g:G} {t:T} {c:al} {l:List T} {cs:List al} (h:VT g t c) (k:VTs g l cs):VTs g (t::l) (c::cs) :=
 ⟨by simp[k.1],fun i d e hd he=>by
  cases i with
  | zero=>simp at hd he;subst hd;subst he;exact h
  | succ i=>exact k.2 i d e (by simpa using hd) (by simpa using he)⟩
theorem VTs.mono {g g':G} (hg:P6 g) (hl:Le g g') {l:List T} {cs:List al} (h:VTs g l cs):VTs g' l cs:=⟨h.1,fun i d c hd hc=>(h.2 i d c hd hc).mono hg hl⟩
def T.one:T→Bool
 | .d (.agg _) | .d (.tup _) | .bot | .agg _ | .tup _=>false
 | _=>true
theorem VD.one {g:G} {d:D} {c:al} (h:VD g d c) (hd:T.one (.d d)=true):Sh.one c:=by
 cases h with
 | v x h'=>exact h'
 | agg=>simp[T.one]at hd
 | tup=>simp[T.one]at hd
 | arr0=>rfl
 | arr=>rfl
 | el=>rfl
 | mp=>rfl
theorem VT.one {g:G} {t:T} {c:al} (h:VT g t c) (ht:t.one=true):Sh.one c:=by
 cases h with
 | d h=>exact h.one ht
 | bot=>simp[T.one]at ht
 | agg=>simp[T.one]at ht
 | tup=>simp[T.one]at ht
 | _=>rfl
theorem B6s {c:al} (h:one c):c.cells=#[c]:=by cases c<;>first | rfl | (simp[Sh.one,Value.oneCell']at h)
theorem VT.cells {g:G} {t:T} {c:al} (h:VT g t c) (ht:∀ x∈t.cells,x.one=true):VTs g t.cells c.cells.toList:=by
 have single:∀ {t:T} {c:al},VT g t c→t.one=true→t.cells=[t]→VTs g t.cells c.cells.toList:=fun {t c} h h1 h2=>by
  rw[h2,B6s (h.one h1)];exact .cons h (.nil g)
 cases h with
 | d h =>
  cases h with
  | v _ h=>exact single (.d (.v _ h)) rfl rfl
  | agg l cs hl h =>
    refine⟨by simp[T.cells,hl,Value.cells],fun i d c hd hc=>?_⟩;simp only[T.cells,gM,an]at hd;obtain⟨d',hd',rfl⟩:=hd;exact .d (h i d' c hd' (by simpa[Value.cells]using hc))
  | tup l cs hl h=>exact absurd (ht (.d (.tup l)) (by simp[T.cells])) (by simp[T.one])
  | arr0 s a cap=>exact single (.d (.arr0 s a cap)) rfl rfl
  | arr s l b off cap f h1 h2 h3 h4 h5=>exact single (.d (.arr s l b off cap f h1 h2 h3 h4 h5)) rfl rfl
  | el s l i o b off f h1 h2 h3 h4=>exact single (.d (.el s l i o b off f h1 h2 h3 h4)) rfl rfl
  | mp ks vs b es clock h1 h2 h3 h4 h5 h6=>exact single (.d (.mp ks vs b es clock h1 h2 h3 h4 h5 h6)) rfl rfl
 | bot=>exact absurd (ht .bot (by simp[T.cells])) (by simp[T.one])
 | ref n s i o hn hs=>exact single (.ref n s i o hn hs) rfl rfl
 | row n s lo len a hn hs hl ha=>exact single (.row n s lo len a hn hs hl ha) rfl rfl
 | mp n hn=>exact single (.mp n hn) rfl rfl
 | agg l cs hl h=>exact⟨by simp[T.cells,hl,Value.cells],fun i d c hd hc=>h i d c hd (by simpa[Value.cells]using hc)⟩
 | tup l cs hl h=>exact absurd (ht (.tup l) (by simp[T.cells])) (by simp[T.one])
 | fn f l m cs ds h1 h2 h3 h4=>exact single (.fn f l m cs ds h1 h2 h3 h4) rfl rfl
 | iface t x c h=>exact single (.iface t x c h) rfl rfl
theorem A7T:∀ {l:List T} {ds:List D},A8N l=some ds→l=ds.map .d
 | [],ds,h=>by simp[A8N]at h;subst h;rfl
 | .d x::l,ds,h=>by
   simp only[A8N,an]at h;obtain⟨r,hr,rfl⟩:=h;simp[A7T hr]
 | .bot::l,ds,h=>by simp[A8N]at h
 | .ref ..::l,ds,h=>by simp[A8N]at h
 | .row ..::l,ds,h=>by simp[A8N]at h
 | .agg _::l,ds,h=>by simp[A8N]at h
 | .tup _::l,ds,h=>by simp[A8N]at h
 | .fn ..::l,ds,h=>by simp[A8N]at h
 | .iface ..::l,ds,h=>by simp[A8N]at h
 | .mp _::l,ds,h=>by simp[A8N]at h
theorem VT.mkAgg {g:G} {l:List T} {cs:List al} (h:VTs g l cs):VT g (mkAgg l) (.agg cs.toArray):=by
 unfold Sh.mkAgg;split
 ·rename_i ds hds;have e:=A7T hds;subst e;refine .d (.agg ds _ (by simpa using h.1) fun i d c hd hc=>?_);have:=h.2 i (.d d) c (by simp[hd]) (by simpa using hc);cases this with
  | d h=>exact h
 ·exact .agg l _ (by simpa using h.1) fun i d c hd hc=>h.2 i d c hd (by simpa using hc)
theorem VT.mkTup {g:G} {l:List T} {cs:List al} (h:VTs g l cs):VT g (mkTup l) (.tuple cs.toArray):=by
 unfold Sh.mkTup;split
 ·rename_i ds hds;have e:=A7T hds;subst e;refine .d (.tup ds _ (by simpa using h.1) fun i d c hd hc=>?_);have:=h.2 i (.d d) c (by simp[hd]) (by simpa using hc);cases this with
  | d h=>exact h
 ·exact .tup l _ (by simpa using h.1) fun i d c hd hc=>h.2 i d c hd (by simpa using hc)
theorem B3P (l:List T):(mkAgg l).cells=l:=by
 unfold mkAgg;split
 ·rename_i ds h;rw[A7T h];rfl
 ·rfl
def Wd (F:Fence):Prop:=∃ r:Option Nat,F={ Fence.wide with round:=r }
theorem Wd.fn {F:Fence} (h:Wd F) (f:bm):F.fn f:=by obtain⟨r,rfl⟩:=h;trivial
theorem Wd.dep {F:Fence} (h:Wd F):F.depth=none:=by obtain⟨r,rfl⟩:=h;rfl
theorem Wd.calls {F:Fence} (h:Wd F) {n:Nat} {P:ah} {f:bm} {args:Array al} {w:aO} {R:Ending→aO→Prop} (k:Calls P f args w R):CallsIn F n P f args w R:=by
 obtain⟨r,rfl⟩:=h;exact(callsIn_wide (n:=n)).2 k
theorem Wd.wide:Wd Fence.wide:=⟨none,rfl⟩
def upd (M:Nat→Option (Option Rw)) (wn:List (Nat × Option Rw)) (fresh:Nat) (new:List Rw):Nat→Option (Option Rw):=fun n =>
 match wn.find? (fun p=>p.1==n)with
 | some p=>some p.2
 | none=>if fresh≤n∧n<fresh+new.length then(new[n-fresh]?).map some else M n
theorem B3o (M:Nat→Option (Option Rw)) (fresh:Nat):upd M [] fresh []=M:=by
 funext n;simp[upd];intro h1 h2;omega
def OpS (P:ah) (o:Oper) (ins:List (aa × T)) (rn:List (Nat × Rw)) (wn:List (Nat × Option Rw)) (fresh:Nat) (new:List Rw) (v:T):Prop :=
 ∀ (F:Fence) (nn:Nat),Wd F→∀ (g:G) (a:Act),P6 g→(∀ p∈ins,VT g p.2 (a.eval p.1))→(∀ p∈rn,g.M p.1=some (some p.2))→(∀ k,k<new.length→g.M (fresh+k)=none) →
 ∀ (next:Act→aO→Prop) (Q:Exit→Act→aO→Prop),(∀ (g':G) (c:al),P6 g'→Le g g'→g'.M=upd g.M wn fresh new→VT g' v c→next (a.put o.dst c) g'.w)→o.wpIn F nn P a g.w next Q
section
variable {P:ah} {o:Oper} {ins:List (aa × T)} {rn:List (Nat × Rw)} {wn:List (Nat × Option Rw)} {fresh:Nat} {new:List Rw} {v:T}
theorem OpS.of_run (hnd:∀ c,o.op ≠ .defer c)
  (h:∀ (g:G) (a:Act),P6 g→(∀ p∈ins,VT g p.2 (a.eval p.1))→(∀ p∈rn,g.M p.1=some (some p.2))→(∀ k,k<new.length→g.M (fresh+k)=none) →
   ∃ c g',((aT a.eval o).run P g.w = .ok (.value c) g'.w∨((aT a.eval o).run P g.w = .ok .skip g'.w∧c=undef))∧P6 g'∧Le g g'∧g'.M=upd g.M wn fresh new∧VT g' v c):OpS P o ins rn wn fresh new v:=by
 intro F nn hF g a hg hi hr hn next Q k
 obtain⟨c,g',hrun,h1,h2,h3,h4⟩:=h g a hg hi hr hn;refine⟨fun f _=>hF.fn f,?_⟩;rw[Oper.semAt_eq _ _ _ hnd];rcases hrun with hrun | ⟨hrun,rfl⟩
 ·rw[hrun];exact k g' c h1 h2 h3 h4
 ·rw[hrun];exact k g' undef h1 h2 h3 h4
theorem OpS.of_pure (hnd:∀ c,o.op ≠ .defer c)
  (h:∀ (g:G) (a:Act),P6 g→(∀ p∈ins,VT g p.2 (a.eval p.1))→(∀ p∈rn,g.M p.1=some (some p.2))→∃ c,(aT a.eval o).run P g.w = .ok (.value c) g.w∧VT g v c):OpS P o ins rn [] fresh [] v :=
 .of_run hnd fun g a hg hi hr _=>by
  obtain⟨c,h1,h2⟩:=h g a hg hi hr;exact⟨c,g,.inl h1,hg,.refl g,(B3o _ _).symm,h2⟩
end
def G.grow (g:G) (n:Nat) (r:Rw) (cap:Nat) (w:aO):G :=
 ⟨fun k=>if k=n then some (some r)else g.M k,fun k=>if k=n then(g.w.heap.size,cap)else g.β k,g.K,w⟩
theorem A9w (M:Nat→Option (Option Rw)) (n:Nat) (r:Rw):(fun k=>if k=n then some (some r)else M k)=upd M [] n [r]:=by
 funext k;simp only[upd,dn,ee];by_cases h:k=n
 ·subst h;simp
 ·have:¬ (n≤k∧k<n+1):=by omega
  simp[h,this]
theorem Le.grow {g:G} {n:Nat} (hn:g.M n=none) (r:Rw) (cap:Nat) {w:aO} {o:Obj} (hw:w=g.w.alloc o∨w=g.w.drew.alloc o):Le g (g.grow n r cap w):=by
 have hh:w.heap=g.w.heap.push o:=by rcases hw with rfl | rfl<;>rfl
 refine⟨fun k hk=>?_,by show _≤w.heap.size;rw[hh];simp,?_,?_,?_,fun b hb _=>?_,fun b hb=>hb,fun b _ hb => .inl hb,fun k q hq h0 hlt=>?_⟩
 ·have:k≠n:=fun e=>hk (e▸hn);simp[G.grow,this,hk]
 ·rcases hw with rfl | rfl<;>rfl
 ·rcases hw with rfl | rfl<;>rfl
 ·rcases hw with rfl | rfl<;>rfl
 ·show w.heap[b]?=_;rw[hh,bS];have:b≠g.w.heap.size:=by omega
  simp[this]
 ·by_cases hk:k=n
  ·subst hk;simp[G.grow]at hlt
  ·simp only[G.grow,hk,if_false]at hq h0 ⊢;exact fun hn=>hn k q hq h0 rfl
theorem P6.growR {g:G} (hg:P6 g) {n:Nat} (hn:g.M n=none) {r:Rw} {cap:Nat} {w:aO} {o:Obj}
  (hw:w=g.w.alloc o∨w=g.w.drew.alloc o) (hR:A4q (g.grow n r cap w) n r):P6 (g.grow n r cap w):=by
 have hle:=Le.grow hn r cap hw;have hh:w.heap=g.w.heap.push o:=by rcases hw with rfl | rfl<;>rfl
 refine⟨fun k q hk=>?_,fun k m q q' hk hm hk0 hm0 he=>?_,fun b hb=>bq (hg.kd b hb) hle.size,fun b hb k q hk h0=>?_⟩
 ·by_cases hkn:k=n
  ·subst hkn;simp only[G.grow,if_true,aK]at hk;subst hk;exact hR
  ·have hk':g.M k=some (some q):=by simpa[G.grow,hkn]using hk
   have hr:=hg.rows k q hk';refine hr.keep hg hle (by simp[G.grow,hkn]) fun h0=>?_;show w.heap[_]?=_;rw[hh,bS];have:=hr.lt h0;rw[if_neg oM]
 ·by_cases hkn:k=n<;>by_cases hmn:m=n
  ·rw[hkn,hmn]
  ·have hm':g.M m=some (some q'):=by simpa[G.grow,hmn]using hm
   have:=(hg.rows m q' hm').lt (by simpa[G.grow,hmn]using hm0);simp[G.grow,hkn,hmn]at he;omega
  ·have hk':g.M k=some (some q):=by simpa[G.grow,hkn]using hk
   have:=(hg.rows k q hk').lt (by simpa[G.grow,hkn]using hk0);simp[G.grow,hkn,hmn]at he;omega
  ·have hm':g.M m=some (some q'):=by simpa[G.grow,hmn]using hm
   have hk':g.M k=some (some q):=by simpa[G.grow,hkn]using hk
   exact hg.inj k m q q' hk' hm' (by simpa[G.grow,hkn]using hk0) (by simpa[G.grow,hmn]using hm0) (by simpa[G.grow,hkn,hmn]using he)
 ·by_cases hkn:k=n
  ·have:=hg.kd b hb;simp[G.grow,hkn];omega
  ·have hk':g.M k=some (some q):=by simpa[G.grow,hkn]using hk
   simpa[G.grow,hkn]using hg.kl b hb k q hk' (by simpa[G.grow,hkn]using h0)
theorem P6.grow {g:G} (hg:P6 g) {n:Nat} (hn:g.M n=none) {r:Rw} {cap:Nat} {w:aO} {cells:Array al} {e:ab}
  (hw:w=g.w.alloc (.cells cells e)∨w=g.w.drew.alloc (.cells cells e)) (hs0:r.s≠0) (hs:cells.size=cap*r.s) (hl:r.els.length≤cap)
  (hc:∀ (i:Nat) (x:T),r.els[i]?=some x→x.cells.length=r.s∧∀ (j:Nat) (y:T),x.cells[j]?=some y→∃ c,cells[i*r.s+j]?=some c∧VT g y c):P6 (g.grow n r cap w):=by
 have hle:=Le.grow hn r cap hw;have hh:w.heap=g.w.heap.push (.cells cells e):=by rcases hw with rfl | rfl<;>rfl
 refine P6.growR hg hn hw (.inr (.inl ⟨hs0,cells,EF.z e,by simp[G.grow,hh,EF.z],by simpa[G.grow]using hs,by simpa[G.grow]using hl,fun i x hx=>⟨(hc i x hx).1,fun j y hy=>?_⟩⟩));obtain⟨c,h1,h2⟩:=(hc i x hx).2 j y hy;exact⟨c,h1,h2.mono hg hle⟩
def G.put (g:G) (n:Nat) (r:Rw) (w:aO):G:=⟨fun k=>if k=n then some (some r)else g.M k,g.β,g.K,w⟩
theorem A8h (M:Nat→Option (Option Rw)) (n:Nat) (r:Rw) (fresh:Nat):(fun k=>if k=n then some (some r)else M k)=upd M [(n,some r)] fresh []:=by
 funext k;simp only[upd,cc,dn];by_cases h:k=n
 ·subst h;simp
 ·have:(n==k)=false:=by simpa using fun e=>h e.symm
  simp[h,this];intro h1 h2;omega
theorem Le.put {g:G} {n:Nat} {r r':Rw} (hn:g.M n=some (some r)) (h0:(g.β n).2≠0) {w:aO} (hsz:w.heap.size=g.w.heap.size) (hos:w.os=g.w.os) (htape:w.tape=g.w.tape) (hout:w.output=g.w.output) (hfr:∀ b,b≠(g.β n).1→w.heap[b]?=g.w.heap[b]?):Le g (g.put n r' w):=by
 refine⟨fun k hk=>?_,by simp[G.put,hsz],hos,htape,hout,fun b hb hnl=>hfr b fun e=>hnl n r hn h0 e.symm,fun b hb=>hb,fun b _ hb => .inl hb,fun k q hq hq0 hlt=>?_⟩
 ·by_cases h:k=n
  ·subst h;simp[G.put]
  ·simp[G.put,h,hk]
 ·by_cases h:k=n
  ·subst h;exact fun h2=>h2 k r hn h0 rfl
  ·have:g.M k=some (some q):=by simpa[G.put,h]using hq
   exact fun h2=>h2 k q this hq0 rfl
theorem P6.putR {g:G} (hg:P6 g) {n:Nat} {r r':Rw} (hn:g.M n=some (some r)) (h0:(g.β n).2≠0) {w:aO} (hle:Le g (g.put n r' w)) (hsz:w.heap.size=g.w.heap.size) (hfr:∀ b,b≠(g.β n).1→w.heap[b]?=g.w.heap[b]?) (hR:A4q (g.put n r' w) n r'):P6 (g.put n r' w):=by
 have live:∀ k q,(g.put n r' w).M k=some (some q)→∃ q',g.M k=some (some q'):=fun k q hk=>by
  by_cases h:k=n
  ·exact⟨r,h▸hn⟩
  ·exact⟨q,by simpa[G.put,h]using hk⟩
 refine⟨fun k q hk=>?_,fun k m q q' hk hm hk0 hm0 he=>?_,fun b hb=>by simpa[G.put,hsz]using hg.kd b hb,fun b hb k q hk hk0=>?_⟩
 ·by_cases h:k=n
  ·subst h;simp only[G.put,if_true,aK]at hk;subst hk;exact hR
  ·have hk':g.M k=some (some q):=by simpa[G.put,h]using hk
   refine(hg.rows k q hk').keep hg hle rfl fun hk0=>hfr _ fun e'=>h (hg.inj k n q r hk' hn hk0 h0 e')
 ·obtain⟨a,ha⟩:=live k q hk;obtain⟨b,hb⟩:=live m q' hm;exact hg.inj k m a b ha hb hk0 hm0 he
 ·obtain⟨a,ha⟩:=live k q hk;exact hg.kl b hb k a ha hk0
theorem P6.put {g:G} (hg:P6 g) {n:Nat} {r r':Rw} (hn:g.M n=some (some r)) (h0:(g.β n).2≠0) {old cells:Array al} {e:EF old.size} (ho:g.w.heap[(g.β n).1]?=some (.cells old e.1.1 e.1.2)) (hoc:old.size=cells.size)
  (hs0:r'.s≠0) (hs:cells.size=(g.β n).2*r'.s) (hl:r'.els.length≤(g.β n).2)
  (hc:∀ (i:Nat) (x:T),r'.els[i]?=some x→x.cells.length=r'.s∧∀ (j:Nat) (y:T),x.cells[j]?=some y→∃ c,cells[i*r'.s+j]?=some c∧VT g y c) :
  P6 (g.put n r' (g.w.setRow (g.β n).1 cells))∧Le g (g.put n r' (g.w.setRow (g.β n).1 cells)):=by
 have hfr:∀ b,b≠(g.β n).1→(g.w.setRow (g.β n).1 cells).heap[b]?=g.w.heap[b]?:=fun b hb=>setRow_other _ _ _ _ hb;have hle:=Le.put (r':=r') hn h0 (w:=g.w.setRow (g.β n).1 cells) sM rfl rfl rfl hfr;refine⟨P6.putR hg hn h0 hle sM hfr (.inr (.inl ⟨hs0,cells,e.to hoc,setRow_heap _ _ _ _ _ _ ho,hs,hl,fun i x hx=>⟨(hc i x hx).1,fun j y hy=>?_⟩⟩)),hle⟩;obtain⟨c,hc,hv⟩:=(hc i x hx).2 j y hy;exact⟨c,hc,hv.mono hg hle⟩
theorem A4q.get {g:G} {n:Nat} {r:Rw} (h:A4q g n r) (hs:r.s≠0) {i j:Nat} {x y:T} (hx:r.els[i]?=some x) (hy:x.cells[j]?=some y) :
  ∃ c,g.w.cell? ⟨(g.β n).1,i*r.s+j,none⟩=some c∧VT g y c:=by
 obtain⟨_,cells,e,h1,_,_,h4⟩:=h.has hs hx;obtain⟨c,hc,hv⟩:=(h4 i x hx).2 j y hy;exact⟨c,by simp[World.cell?,h1,hc],hv⟩
def ofV:al→T
 | .agg cs=>bif cs.all (·.oneCell')then .d (.agg (cs.toList.map .v))else .bot
 | .tuple _ => .bot
 | x => .d (.v x)
theorem VT.ofV (g:G) (c:al):VT g (ofV c) c:=by
 cases c with
 | agg cs =>
  have e:Sh.ofV (.agg cs)=bif cs.all (·.oneCell')then .d (.agg (cs.toList.map .v))else .bot:=rfl;rw[e];cases h:cs.all (·.oneCell')with
  | true =>
   simp only[cond_true];refine .d (.agg _ _ sM fun i d c hd hc=>?_);simp only[gM,an]at hd;obtain⟨x,hx,rfl⟩:=hd;rw[bC,hc]at hx;injection hx with hx
   subst hx;exact .v _ (by rw[dt]at h;exact h _ (dY hc))
  | false=>exact .bot _
 | tuple=>exact .bot _
 | _=>exact .d (.v _ rfl)
structure TI where
 agg:Bool
 size:Nat
 bytes:Nat
 z:T
 sl:Option ab
 fs:List (Nat × Bool × Nat)
 ar:Option (Nat × ab)
 nif:Bool
def B1M (P:ah) (t:ab):Bool:=match P.underlying t with
 | some (.struct _) | some (.array _ _)=>true
 | _=>false
def B1x (P:ah) (t:ab):Nat:=match P.info? t with
 | some i=>i.size
 | none=>0
def C0f:TypeDesc→Option ab
 | .slice e=>some e
 | _=>none
def B96:TypeDesc→Option (Nat × ab)
 | .array n e=>some (n,e)
 | _=>none
def C05:TypeDesc→Bool
 | .interface _=>false
 | _=>true
def B9J (P:ah):TypeDesc→List (Nat × Bool × Nat)
 | .struct fs=>bif fs.toList.all (fun f=>(P.info? f.type).isSome&&(P.underlying f.type).isSome)then fs.toList.map (fun f=>(f.offset,B1M P f.type,B1x P f.type))else[]
 | _=>[]
def B4S:T→Bool
 | .bot=>false
 | _=>true
def B8q (P:ah) (t:ab):Option TI:=match P.info? t,P.underlying t with
 | some i,some d=>match i.zero with
   | some zv=>bif aJ zv.cells.size i.size&&B4S (ofV zv)then some ⟨B1M P t,i.size,i.bytes,ofV zv,C0f d,B9J P d,B96 d,C05 d⟩else none
   | none=>none
 | _,_=>none
structure TOk (P:ah) (t:ab) (i:TI):Prop where
 info:∃ info zv,P.info? t=some info∧info.zero=some zv∧info.size=i.size∧info.bytes=i.bytes∧zv.cells.size=i.size∧i.z=ofV zv∧i.z.cells.length=i.size∧∀ x∈i.z.cells,x.one=true
 und:∃ d,P.underlying t=some d∧(i.agg=true↔(∃ fs,d = .struct fs)∨∃ n e,d = .array n e)∧(∀ e,i.sl=some e→d = .slice e)∧(i.fs≠[]→∃ fs,d = .struct fs∧fs.toList.map (fun f=>(f.offset,B1M P f.type,B1x P f.type))=i.fs∧∀ f∈fs,(P.info? f.type).isSome=true∧(P.underlying f.type).isSome=true) ∧
  (∀ n e,i.ar=some (n,e)→d = .array n e)∧(i.nif=true→∀ m,d ≠ .interface m)
theorem B6F {zv:al} (h:B4S (ofV zv)=true):(ofV zv).cells.length=zv.cells.size∧∀ x∈(ofV zv).cells,x.one=true:=by
 cases zv with
 | agg cs =>
  have e:Sh.ofV (.agg cs)=bif cs.all (·.oneCell')then .d (.agg (cs.toList.map .v))else .bot:=rfl;rw[e]at h ⊢;cases hc:cs.all (·.oneCell')with
  | true=>simp only[cond_true];refine⟨by simp[T.cells,Value.cells],fun x hx=>?_⟩;simp only[T.cells,List.map_map,bZ]at hx;obtain⟨y,_,rfl⟩:=hx;rfl
  | false=>rw[hc]at h;cases h
 | tuple=>cases h
 | _=>exact⟨rfl,fun x hx=>by simp[Sh.ofV,T.cells]at hx;subst hx;rfl⟩
theorem TOk.of {P:ah} {t:ab} {i:TI} (h:B8q P t=some i):TOk P t i:=by
 unfold B8q at h;split at h
 ·rename_i info d hi hd;split at h
  ·rename_i zv hz;cases hc:(aJ zv.cells.size info.size&&B4S (ofV zv))with
   | false=>rw[hc]at h;cases h
   | true =>
    rw[hc]at h;simp only[cond_true,aK]at h;subst h;rw[aF]at hc;have hs:=aA hc.1;have hk:=B6F hc.2;refine⟨⟨info,zv,hi,hz,rfl,rfl,hs,rfl,hk.1.trans hs,hk.2⟩,⟨d,hd,?_,?_,?_,?_,?_⟩⟩
    ·unfold B1M;rw[hd];cases d<;>simp
    ·intro e he;cases d<;>first | (simp[C0f]at he;done) | (simp[C0f]at he;subst he;rfl)
    ·intro hf;cases d<;>first | exact absurd rfl hf | skip
     rename_i fs;cases hall:fs.toList.all (fun f=>(P.info? f.type).isSome&&(P.underlying f.type).isSome)with
     | false=>simp[B9J,hall]at hf
     | true =>
      refine⟨fs,rfl,by simp[B9J,hall],fun f hfm=>?_⟩;have:=ax.1 hall f (by simpa using hfm);simpa using this
    ·intro n e he;cases d<;>first | (simp[B96]at he;done) | (simp[B96]at he;obtain⟨rfl,rfl⟩:=he;rfl)
    ·intro hn m hm;subst hm;cases hn
  ·cases h
 ·cases h
structure Tab (P:ah) where
 f:ab→Option TI
 ok:∀ t i,f t=some i→TOk P t i
section
variable {P:ah} {t:ab} {i:TI}
theorem TOk.run_isAgg (h:TOk P t i) (w:aO):(isAgg t).run P w = .ok i.agg w:=by
 obtain⟨d,hd,ha,_⟩:=h.und;unfold isAgg;rw[Sem.run_bind,aV hd,Result.andThen_ok];cases hb:i.agg with
 | true=>rcases ha.1 hb with⟨fs,rfl⟩ | ⟨n,e,rfl⟩<;>rfl
 | false =>
  have:¬ ((∃ fs,d = .struct fs)∨∃ n e,d = .array n e):=fun h=>by rw[ha.2 h]at hb;cases hb
  cases d<;>first | rfl | exact absurd (.inl ⟨_,rfl⟩) this | exact absurd (.inr ⟨_,_,rfl⟩) this
theorem TOk.run_size (h:TOk P t i) (w:aO):(sizeOf t).run P w = .ok i.size w:=by
 obtain⟨info,zv,hi,_,hs,_⟩:=h.info;simp[sizeOf,bT,hi,hs]
end
variable {P:ah} {o:Oper} {fresh:Nat}
theorem A6p {x:aa} {t:T} (hop:o.op = .move x∨o.op = .assign x):OpS P o [(x,t)] [] [] fresh [] t :=
 .of_pure (fun c h=>by rcases hop with h' | h'<;>(rw[h']at h;cases h)) fun g a _ hi _=>⟨a.eval x,by rcases hop with h | h<;>simp[aT,h],hi (x,t) sM⟩
theorem VT.v_eq {g:G} {x c:al} (h:VT g (.d (.v x)) c):c=x:=by cases h with | d h=>cases h;rfl
theorem B7S {c x y:aa} {b:Bool} {t u:T} (hop:o.op = .pick c x y):OpS P o [(c,.d (.v (.bool b))),(x,t),(y,u)] [] [] fresh [] (bif b then t else u) :=
 .of_pure (fun c h=>by rw[hop]at h;cases h) fun g a _ hi _=>⟨if b then a.eval x else a.eval y,by
  have hc:=hi (c,.d (.v (.bool b))) sM;have e:=hc.v_eq;dsimp only at e;simp[aT,hop,asBool,e],by
  cases b
  ·exact hi (y,u) sM
  ·exact hi (x,t) sM⟩
theorem A3z {op:BinOp} {ty ty':ab} {x y:aa} {p q z:al} (hop:o.op = .binOp op ty x y ty') (h1:one z)
  (hz:∀ w,(do eqGuard op ty x y p q;binOp op ty p q:Sem al).run P w = .ok z w):OpS P o [(x,.d (.v p)),(y,.d (.v q))] [] [] fresh [] (.d (.v z)) :=
 .of_pure (fun c h=>by rw[hop]at h;cases h) fun g a _ hi _=>⟨z,by
  have e1:=(hi (x,.d (.v p)) sM).v_eq;have e2:=(hi (y,.d (.v q)) sM).v_eq;dsimp only at e1 e2;have:=hz g.w;simp only[aT,hop,e1,e2,Sem.run_bind]at this ⊢;rw[this];rfl,.d (.v z h1)⟩
theorem B9P {op:UnOp} {ty:ab} {x:aa} {p z:al} (hop:o.op = .unOp op ty x) (h1:one z)
  (hz:Op.unary op p=pure z):OpS P o [(x,.d (.v p))] [] [] fresh [] (.d (.v z)) :=
 .of_pure (fun c h=>by rw[hop]at h;cases h) fun g a _ hi _=>⟨z,by
  have e1:=(hi (x,.d (.v p)) sM).v_eq;dsimp only at e1;simp only[aT,hop,e1,hz];rfl,.d (.v z h1)⟩
theorem B9N {src dst:ab} {x:aa} {p z:al} (hop:o.op = .convert src dst x) (h1:one z)
  (hz:∀ w,(convert src dst p).run P w = .ok z w):OpS P o [(x,.d (.v p))] [] [] fresh [] (.d (.v z)) :=
 .of_pure (fun c h=>by rw[hop]at h;cases h) fun g a _ hi _=>⟨z,by
  have e1:=(hi (x,.d (.v p)) sM).v_eq;dsimp only at e1;simp[aT,hop,e1,hz],.d (.v z h1)⟩
theorem B8R {t:ab} {i:TI} {x:aa} {p:al} (hop:o.op = .makeInterface t x) (ht:TOk P t i) (hn:i.nif=true):OpS P o [(x,.d (.v p))] [] [] fresh [] (.d (.v (.iface t p))) :=
 .of_pure (fun c h=>by rw[hop]at h;cases h) fun g a _ hi _=>⟨.iface t p,by
  have e1:=(hi (x,.d (.v p)) sM).v_eq;dsimp only at e1;obtain⟨d,hd,_,_,_,_,hni⟩:=ht.und;have hni:=hni hn;have:(Instr.makeInterface t p).run P g.w = .ok (.iface t p) g.w:=by
   unfold Instr.makeInterface;rw[Sem.run_bind,aV hd,Result.andThen_ok];cases d<;>first | rfl | exact absurd rfl (hni _)
  simp[aT,hop,e1,this],.d (.v _ rfl)⟩
theorem VTs.of_ins {g:G} {a:Act}:∀ {xs:List aa} {ts:List T},xs.length=ts.length→(∀ p∈xs.zip ts,VT g p.2 (a.eval p.1))→VTs g ts (xs.map a.eval)
 | [],[],_,_ => .nil g
 | x::xs,t::ts,hl,h => .cons (h (x,t) sM) (VTs.of_ins (by simpa using hl) fun p hp=>h p (by simp[hp]))
theorem B9O {fn:Fn} {first caps:Array aa} {ts us:List T} (hop:o.op = .makeFunc fn first caps) (h1:first.toList.length=ts.length) (h2:caps.toList.length=us.length) :
  OpS P o (first.toList.zip ts++caps.toList.zip us) [] [] fresh [] (.fn fn ts us) :=
 .of_pure (fun c h=>by rw[hop]at h;cases h) fun g a _ hi _=>⟨.func fn (first.map a.eval) (caps.map a.eval),by simp[aT,hop,Instr.makeFunc],by
  have k1:=VTs.of_ins (g:=g) (a:=a) h1 fun p hp=>hi p (by simp[hp]);have k2:=VTs.of_ins (g:=g) (a:=a) h2 fun p hp=>hi p (by simp[hp]);exact .fn fn ts us _ _ (by simpa using k1.1) (fun i d c hd hc=>k1.2 i d c hd (by simpa using hc)) (by simpa using k2.1) (fun i d c hd hc=>k2.2 i d c hd (by simpa using hc))⟩
theorem B7R {x:aa} {n s i c:Nat} (hop:o.op = .nilCheck x):OpS P o [(x,.ref n s i c)] [] [] fresh [] (.ref n s i c) :=
 .of_pure (fun c h=>by rw[hop]at h;cases h) fun g a _ hi _=>⟨a.eval x,by
  have:=hi (x,.ref n s i c) sM;generalize hv:a.eval x=v at this;cases this;simp[aT,hop,hv],hi (x,.ref n s i c) sM⟩
theorem B8T {x:aa} {l:List D} {s i c:Nat} (hop:o.op = .nilCheck x):OpS P o [(x,.d (.el s l i c))] [] [] fresh [] (.d (.el s l i c)) :=
 .of_pure (fun c h=>by rw[hop]at h;cases h) fun g a _ hi _=>⟨a.eval x,by
  have:=hi (x,.d (.el s l i c)) sM;generalize hv:a.eval x=v at this;cases this with | d h =>
  cases h;simp[aT,hop,hv],hi (x,.d (.el s l i c)) sM⟩
theorem B69 {x:aa} {l:List T} {k:Nat} {t:T} (hop:o.op = .extract x k) (hk:l[k]?=some t):OpS P o [(x,.tup l)] [] [] fresh [] t :=
 .of_pure (fun c h=>by rw[hop]at h;cases h) fun g a _ hi _=>by
  have:=hi (x,.tup l) sM;generalize hv:a.eval x=v at this;cases this with | tup l cs hl h =>
  have hlt:=(gS hk).1;have hc:cs[k]?=some cs[k]:=aE oM;exact⟨cs[k],by simp[aT,hop,hv,Instr.extract,hc],h k t _ hk hc⟩
theorem B5a {x:aa} {l:List D} {k:Nat} {t:D} (hop:o.op = .extract x k) (hk:l[k]?=some t):OpS P o [(x,.d (.tup l))] [] [] fresh [] (.d t) :=
 .of_pure (fun c h=>by rw[hop]at h;cases h) fun g a _ hi _=>by
  have:=hi (x,.d (.tup l)) sM;generalize hv:a.eval x=v at this;cases this with | d h =>
  cases h with | tup l cs hl h =>
  have hlt:=(gS hk).1;have hc:cs[k]?=some cs[k]:=aE oM;exact⟨cs[k],by simp[aT,hop,hv,Instr.extract,hc],.d (h k t _ hk hc)⟩
theorem B28 {t:T} (h:∀ x∈t.cells,x.one=true):∀ {g:G} {c:al},VT g t c→∀ v∈c.cells.toList,v.oneCell'=true:=fun {g c} hv v hm=>by
 have hc:=hv.cells h;obtain⟨i,hi,rfl⟩:=List.mem_iff_getElem.1 hm;have hi':i<t.cells.length:=by rw[hc.1];exact hi
 exact(hc.2 i t.cells[i] _ (gE hi') (gE hi)).one (h _ (aj hi'))
theorem B3E {g:G} (hg:P6 g) {n:Nat} (hn:g.M n=none) {t:T} {c:al} (hv:VT g t c) (ht:∀ x∈t.cells,x.one=true) (h0:t.cells.length≠0) (e:ab) :
  P6 (g.grow n ⟨t.cells.length,[t]⟩ 1 (g.w.alloc (.cells c.cells e))):=by
 have hc:=hv.cells ht;refine P6.grow hg hn (.inl rfl) h0 (by have:=hc.1;simpa using this.symm) sM fun i x hx=>?_;have hi:i=0:=by have:=(gS hx).1;simp at this;exact this
 subst hi;simp at hx;subst hx;refine⟨rfl,fun j y hy=>?_⟩;have hj:=(gS hy).1;have hc':c.cells.toList[j]?=some (c.cells.toList[j]'(by rw[← hc.1];exact hj)):=gE _;exact⟨_,by simp,hc.2 j y _ hy hc'⟩
theorem B8L {t:ab} {i:TI} (hop:o.op = .alloc t) (ht:TOk P t i) (h0:aJ i.size 0=false):OpS P o [] [] [] fresh [⟨i.size,[i.z]⟩] (.ref fresh i.size 0 0) :=
 .of_run (fun c h=>by rw[hop]at h;cases h) fun g a hg _ _ hn=>by
  obtain⟨info,zv,hi,hz,hs,hb,hzs,hzv,hzl,hz1⟩:=ht.info;have hn0:=hn 0 sM;rw[bj]at hn0;have hv:VT g i.z zv:=hzv▸VT.ofV g zv;have hG:=B3E hg hn0 hv hz1 (by rw[hzl];exact ba h0) t;rw[hzl]at hG;refine⟨.pointer (some ⟨g.w.heap.size,0,none⟩),_,.inl ?_,hG,Le.grow hn0 _ _ (.inl rfl),A9w _ _ _,?_⟩
  ·simp[aT,hop,Instr.alloc,dU,bT,hi,hz,newVar,newRow,G.grow]
  ·have:=VT.ref (g:=g.grow fresh ⟨i.size,[i.z]⟩ 1 (g.w.alloc (.cells zv.cells t))) fresh i.size 0 0 (by simp[G.grow]) (ba h0);simpa[G.grow]using this
theorem C06 {t:ab} {x:aa} {u:T} {s:Nat} (hop:o.op = .box t x) (hs:u.cells.length=s) (h0:aJ s 0=false) (hu:∀ y∈u.cells,y.one=true):OpS P o [(x,u)] [] [] fresh [⟨s,[u]⟩] (.ref fresh s 0 0) :=
 .of_run (fun c h=>by rw[hop]at h;cases h) fun g a hg hi _ hn=>by
  have hn0:=hn 0 sM;rw[bj]at hn0;have hv:=hi (x,u) sM;have hG:=B3E hg hn0 hv hu (by rw[hs];exact ba h0) t;rw[hs]at hG;refine⟨.pointer (some ⟨g.w.heap.size,0,none⟩),_,.inl ?_,hG,Le.grow hn0 _ _ (.inl rfl),A9w _ _ _,?_⟩
  ·simp[aT,hop,Instr.box,newVar,newRow,G.grow]
  ·have:=VT.ref (g:=g.grow fresh ⟨s,[u]⟩ 1 (g.w.alloc (.cells (a.eval x).cells t))) fresh s 0 0 (by simp[G.grow]) (ba h0);simpa[G.grow]using this
theorem A5P {g:G}:∀ (l:List T) (p:Nat→al→Prop),(∀ (j:Nat) (y:T),l[j]?=some y→∃ c,p j c∧VT g y c)→∃ cs,VTs g l cs∧∀ (j:Nat) (c:al),cs[j]?=some c→p j c
 | [],p,_=>⟨[],.nil g,fun j c h=>by simp at h⟩
 | x::l,p,h=>by
  obtain⟨c,hp,hv⟩:=h 0 x rfl;obtain⟨cs,h1,h2⟩:=A5P l (fun j=>p (j+1)) (fun j y hy=>h (j+1) y (by simpa using hy));refine⟨c::cs,.cons hv h1,fun j d hd=>?_⟩;cases j with
  | zero=>simp at hd;subst hd;exact hp
  | succ j=>exact h2 j d (by simpa using hd)
theorem A5y (b o j:Nat):(⟨b,o,none⟩:Addr).add j=⟨b,o+j,none⟩:=by unfold Addr.add;split<;>simp_all
theorem B2L {g:G} {t:ab} {i:TI} (ht:TOk P t i) {b off:Nat} {l:List T} (hl:l.length=i.size) (h:∀ (j:Nat) (y:T),l[j]?=some y→∃ c,g.w.cell? ⟨b,off+j,none⟩=some c∧VT g y c)
  {v:T} (hv:if i.agg then v=mkAgg l else l=[v]):∃ c,(Instr.loadAt t (.pointer (some ⟨b,off,none⟩))).run P g.w = .ok c g.w∧VT g v c:=by
 obtain⟨cs,h1,h2⟩:=A5P l (fun j c=>g.w.cell? ⟨b,off+j,none⟩=some c) h;cases ha:i.agg with
 | true =>
  rw[ha]at hv;simp only[if_true]at hv;subst hv;have hlc:=run_loadCells_list (P:=P) g.w ⟨b,off,none⟩ cs (fun j v hv=>by rw[A5y];exact h2 j v hv);rw[← h1.1,hl]at hlc;exact⟨.agg cs.toArray,by simp[Instr.loadAt,Instr.sureAddr,loadVar,ht.run_isAgg,ha,ht.run_size,hlc],VT.mkAgg h1⟩
 | false =>
  rw[ha]at hv;simp only[bR,if_false]at hv;subst hv;obtain⟨c,hc,hcv⟩:=h 0 v rfl;rw[bj]at hc;exact⟨c,by simp[Instr.loadAt,Instr.sureAddr,loadVar,ht.run_isAgg,ha,hc],hcv⟩
def A29 (i:TI) (cs:List T) (c:Nat):T:=bif i.agg then mkAgg ((cs.drop c).take i.size)else cs.getD c .bot
def A2S (i:TI) (n c:Nat):Bool:=bL (c+i.size) n&&(i.agg||aJ i.size 1)
theorem A8f {i:TI} {cs:List T} {c:Nat} (h:A2S i cs.length c=true):((cs.drop c).take i.size).length=i.size∧(if i.agg then A29 i cs c=mkAgg ((cs.drop c).take i.size)else(cs.drop c).take i.size=[A29 i cs c]):=by
 unfold A2S at h;rw[aF]at h;have h1:=bg h.1;refine⟨by simp;omega,?_⟩;unfold A29;cases ha:i.agg with
 | true=>simp
 | false =>
  have h2:=h.2;rw[ha,bu]at h2;have h3:=aA h2;rw[h3];have hlt:c<cs.length:=by omega
  rw[cK hlt,List.take_succ_cons,cM];simp[List.getD,hlt]
theorem B0W {t:ab} {i:TI} {x:aa} {n s k c:Nat} {r:Rw} {e:T} (hop:o.op = .load t x) (ht:TOk P t i) (hs:r.s=s) (he:r.els[k]?=some e) (hp:A2S i e.cells.length c=true) :
  OpS P o [(x,.ref n s k c)] [(n,r)] [] fresh [] (A29 i e.cells c) :=
 .of_pure (fun c h=>by rw[hop]at h;cases h) fun g a hg hi hr=>by
  subst hs;have hx:=hi (x,.ref n r.s k c) sM;generalize hv:a.eval x=v at hx;cases hx with | ref _ _ _ _ _ hs0 =>
  obtain⟨h1,h2⟩:=A8f hp;obtain⟨cv,h3,h4⟩:=B2L (g:=g) (b:=(g.β n).1) (off:=k*r.s+c) ht h1 (fun j y hy=>by
   rw[bo]at hy;split at hy
   ·rw[bF]at hy;obtain⟨c',hc',hv'⟩:=(hg.rows n r (hr (n,r) sM)).get hs0 he hy;exact⟨c',by rw[bW];exact hc',hv'⟩
   ·cases hy) h2
  exact⟨cv,by simp[aT,hop,hv,h3],h4⟩
theorem B8S {t:ab} {i:TI} {x:aa} {s k c:Nat} {l:List D} {e:D} (hop:o.op = .load t x) (ht:TOk P t i) (he:l[k]?=some e) (hp:A2S i e.cells.length c=true) :
  OpS P o [(x,.d (.el s l k c))] [] [] fresh [] (A29 i (e.cells.map .d) c) :=
 .of_pure (fun c h=>by rw[hop]at h;cases h) fun g a hg hi hr=>by
  have hx:=hi (x,.d (.el s l k c)) sM;generalize hv:a.eval x=v at hx;cases hx with | d hx =>
  cases hx with | el s l k c b off f hK hs hw hvv =>
  obtain⟨h1,h2⟩:=A8f (cs:=e.cells.map .d) (c:=c) (i:=i) (by rw[List.length_map];exact hp);obtain⟨cv,h3,h4⟩:=B2L (g:=g) (b:=b) (off:=off+k*s+c) ht h1 (fun j y hy=>by
   rw[bo]at hy;split at hy
   ·rw[bF,gM,an]at hy;obtain⟨d,hd,rfl⟩:=hy;exact⟨f k (c+j),by rw[bW];exact hw k e he (c+j) d hd,.d (hvv k e he (c+j) d hd)⟩
   ·cases hy) h2
  exact⟨cv,by simp[aT,hop,hv,h3],h4⟩
variable {P:ah} {o:Oper} {fresh:Nat}
theorem A7p {α:Type} (old vs:List α) (p k:Nat) (hp:p+vs.length≤old.length) :
  (old.take p++vs++old.drop (p+vs.length))[k]?=if k<p then old[k]? else if k<p+vs.length then vs[k-p]? else old[k]?:=by
 have h1:(old.take p).length=p:=by simp;omega
 by_cases h2:k<p
 ·rw[if_pos h2,bI,aC oM,bo,if_pos h2]
 ·rw[if_neg h2];by_cases h3:k<p+vs.length
  ·rw[if_pos h3,bI,aG oM,h1,aC oM]
  ·rw[if_neg h3,aG (by simp;omega),bF,bz,h1];congr 1;omega
def A9t (x:T) (c:Nat) (t:T):T:=bif aJ t.cells.length x.cells.length then t else mkAgg (x.cells.take c++t.cells++x.cells.drop (c+t.cells.length))
theorem B4x {x t:T} {c:Nat} (h:c+t.cells.length≤x.cells.length):(A9t x c t).cells=x.cells.take c++t.cells++x.cells.drop (c+t.cells.length):=by
 unfold A9t;cases hb:aJ t.cells.length x.cells.length with
 | true =>
  have e:=aA hb;have:c=0:=by omega
  subst this;simp[e]
 | false=>exact B3P _
theorem B6l {i i' s j k:Nat} (h:i'≠i) (hj:j<s) (hk:k<s):i'*s+j≠i*s+k:=by
 rcases ey h with h | h
 ·have:=bQ s (show i'+1≤i from h);rw[bv]at this;omega
 ·have:=bQ s (show i+1≤i' from h);rw[bv]at this;omega
theorem B8U {t:ab} {i:TI} {x y:aa} {n s k c:Nat} {r:Rw} {e u:T} (hop:o.op = .store t x y) (ht:TOk P t i) (hs:r.s=s) (he:r.els[k]?=some e) (hu:u.cells.length=i.size) (h1:∀ z∈u.cells,z.one=true)
  (hc:c+i.size≤e.cells.length):OpS P o [(x,.ref n s k c),(y,u)] [(n,r)] [(n,some ⟨r.s,r.els.set k (A9t e c u)⟩)] fresh [] .bot :=
 .of_run (fun c h=>by rw[hop]at h;cases h) fun g a hg hi hr _=>by
  subst hs;have hx:=hi (x,.ref n r.s k c) sM;have hy:=hi (y,u) sM;have hn:=hr (n,r) sM;dsimp only at hx hy hn;generalize hv:a.eval x=v at hx;cases hx with | ref _ _ _ _ _ hs0 =>
  obtain⟨hcap,old,ety,ho,hos,hl,hrow⟩:=(hg.rows n r hn).has hs0 he;have hcs:=hy.cells h1;have hk:k<r.els.length:=(gS he).1;obtain⟨hes,hecells⟩:=hrow k e he;have hkcap:(k+1)*r.s≤(g.β n).2*r.s:=bQ _ oM;rw[bv,fk]at hkcap;have hfit:k*r.s+c+(a.eval y).cells.toList.length≤old.size:=by rw[← hcs.1,hu,hos];omega
  have hst:=C73 (P:=P) (g.β n).1 (k*r.s+c) ety (a.eval y).cells.toList 0 old g.w rfl ho (by rw[bj];exact hfit) (B28 h1 hy);rw[bj]at hst;have hsz:(a.eval y).cells.size=i.size:=by rw[← br,← hcs.1,hu]
  have hel:=B4x (x:=e) (t:=u) (c:=c) (by rw[hu];exact hc);have hput:=P6.put hg hn hcap ho (cells:=(old.toList.take (k*r.s+c)++(a.eval y).cells.toList++old.toList.drop (k*r.s+c+(a.eval y).cells.toList.length)).toArray) (r':=⟨r.s,r.els.set k (A9t e c u)⟩) (by simp at hfit ⊢;omega) hs0 ?_ (by simpa using hl) ?_;refine⟨undef,_,.inr ⟨?_,rfl⟩,hput.1,hput.2,A8h _ _ _ _,.bot _⟩
  ·simp[aT,hop,hv,Instr.storeAt,Instr.sureAddr,storeVar,ht.run_size,hsz,hst,G.put]
  ·simp at hfit ⊢;rw[← hos];omega
  ·intro i' x' hx';have hget:∀ m,(old.toList.take (k*r.s+c)++(a.eval y).cells.toList++old.toList.drop (k*r.s+c+(a.eval y).cells.toList.length)).toArray[m]?=if m<k*r.s+c then old.toList[m]? else if m<k*r.s+c+(a.eval y).cells.toList.length then(a.eval y).cells.toList[m-(k*r.s+c)]? else old.toList[m]?:=fun m=>by
    rw[List.getElem?_toArray];exact A7p _ _ _ m (by simpa using hfit)
   by_cases hik:i'=k
   ·subst hik;rw[List.getElem?_set_self hk]at hx';injection hx' with hx'
    subst hx';rw[hel];refine⟨by simp[hu];omega,fun j z hz=>?_⟩;dsimp only;rw[A7p _ _ _ _ (by rw[hu];exact hc)]at hz;rw[hget];by_cases h2:j<c
    ·rw[if_pos h2]at hz;rw[if_pos (show i'*r.s+j<i'*r.s+c by omega)];obtain⟨cv,h3,h4⟩:=hecells j z hz;exact⟨cv,by simpa using h3,h4⟩
    ·rw[if_neg h2]at hz;rw[if_neg (show ¬ i'*r.s+j<i'*r.s+c by omega)];by_cases h3:j<c+u.cells.length
     ·rw[if_pos h3]at hz;rw[if_pos (show i'*r.s+j<i'*r.s+c+(a.eval y).cells.toList.length by rw[← hcs.1];omega)];have hlt:j-c<(a.eval y).cells.toList.length:=by rw[← hcs.1];omega
      refine⟨(a.eval y).cells.toList[j-c],?_,hcs.2 (j-c) z _ hz (gE hlt)⟩;rw[show i'*r.s+j-(i'*r.s+c)=j-c by omega,gE hlt]
     ·rw[if_neg h3]at hz;rw[if_neg (show ¬ i'*r.s+j<i'*r.s+c+(a.eval y).cells.toList.length by rw[← hcs.1];omega)];obtain⟨cv,h4,h5⟩:=hecells j z hz;exact⟨cv,by simpa using h4,h5⟩
   ·rw[dp (fun h=>hik h.symm)]at hx';obtain⟨h2,h3⟩:=hrow i' x' hx';refine⟨h2,fun j z hz=>?_⟩;have hj:j<r.s:=by rw[← h2];exact(gS hz).1
    obtain⟨cv,h4,h5⟩:=h3 j z hz;refine⟨cv,?_,h5⟩;dsimp only;rw[hget];have hlen:(a.eval y).cells.toList.length=i.size:=by rw[← hcs.1,hu]
    by_cases h6:i'*r.s+j<k*r.s+c
    ·rw[if_pos h6];simpa using h4
    ·rw[if_neg h6];by_cases h7:i'*r.s+j<k*r.s+c+(a.eval y).cells.toList.length
     ·exfalso;rw[hlen]at h7;exact B6l (i:=k) (i':=i') (s:=r.s) (j:=j) (k:=i'*r.s+j-k*r.s) hik hj oM oM
     ·rw[if_neg h7];simpa using h4
theorem B8E {t:ab} {i:TI} (ht:TOk P t i) {f c m:Nat} {b:Bool} (hf:i.fs[f]?=some (c,b,m)) :
  ∃ fs fd info d,P.underlying t=some (.struct fs)∧fs[f]?=some fd∧fd.offset=c∧P.info? fd.type=some info∧info.size=m∧P.underlying fd.type=some d∧∀ w,(isAgg fd.type).run P w = .ok b w:=by
 obtain⟨d,hd,_,_,hfs,_⟩:=ht.und;obtain⟨fs,rfl,hm,hall⟩:=hfs (fun h=>by rw[h]at hf;simp at hf);rw[← hm,gM,an]at hf;obtain⟨fd,h1,h2⟩:=hf;have h1':fs[f]?=some fd:=by simpa using h1
 obtain⟨h3,h4⟩:=hall fd (dY h1');obtain⟨info,h3⟩:=cL.1 h3;obtain⟨d',h4⟩:=cL.1 h4;simp only[eP]at h2;obtain⟨h5,h6,h7⟩:=h2;refine⟨fs,fd,info,d',hd,h1',h5,h3,by rw[← h7];unfold B1x;rw[h3],h4,fun w=>?_⟩;rw[← h6];unfold isAgg B1M;rw[Sem.run_bind,aV h4,Result.andThen_ok,h4];cases d'<;>rfl
theorem B0h {t:ab} {i:TI} (ht:TOk P t i) {f c:Nat} {b:Bool} {m:Nat} (hf:i.fs[f]?=some (c,b,m)) (hm:aJ m 0=false) (bl off:Nat) (w:aO) :
  (Instr.fieldAt t (.pointer (some ⟨bl,off,none⟩)) f).run P w = .ok (.pointer (some ⟨bl,off+c,none⟩)) w:=by
 obtain⟨fs,fd,info,d,h1,h2,h3,h4,h5,_⟩:=B8E ht hf;have hm':info.size≠0:=by rw[h5];exact ba hm
 simp[Instr.fieldAt,aV h1,h2,Instr.sureAddr,fieldPlace,sizeOf,bT,h4,hm',A5y,h3]
theorem B5b {t:ab} {i:TI} {x:aa} {n s k q f c m:Nat} {b:Bool} (hop:o.op = .fieldAddr t x f) (ht:TOk P t i) (hf:i.fs[f]?=some (c,b,m)) (hm:aJ m 0=false):OpS P o [(x,.ref n s k q)] [] [] fresh [] (.ref n s k (q+c)) :=
 .of_pure (fun c h=>by rw[hop]at h;cases h) fun g a hg hi hr=>by
  have hx:=hi (x,.ref n s k q) sM;generalize hv:a.eval x=v at hx;cases hx with | ref _ _ _ _ hn hs0 =>
  exact⟨.pointer (some ⟨(g.β n).1,k*s+q+c,none⟩),by simp[aT,hop,hv,B0h ht hf hm],by rw[bW];exact .ref n s k (q+c) hn hs0⟩
theorem B6A {t:ab} {i:TI} {x:aa} {l:List D} {s k q f c m:Nat} {b:Bool} (hop:o.op = .fieldAddr t x f) (ht:TOk P t i) (hf:i.fs[f]?=some (c,b,m)) (hm:aJ m 0=false):OpS P o [(x,.d (.el s l k q))] [] [] fresh [] (.d (.el s l k (q+c))) :=
 .of_pure (fun c h=>by rw[hop]at h;cases h) fun g a hg hi hr=>by
  have hx:=hi (x,.d (.el s l k q)) sM;generalize hv:a.eval x=v at hx;cases hx with | d hx =>
  cases hx with | el _ _ _ _ bl off f' hK hs hw hvv =>
  exact⟨.pointer (some ⟨bl,off+k*s+q+c,none⟩),by simp[aT,hop,hv,B0h ht hf hm],.d (by rw[bW];exact .el s l k (q+c) bl off f' hK hs hw hvv)⟩
variable {P:ah} {o:Oper} {fresh:Nat}
theorem TOk.slice {t e:ab} {i:TI} (h:TOk P t i) (hs:i.sl=some e):P.underlying t=some (.slice e):=by
 obtain⟨d,hd,_,h1,_⟩:=h.und;rw[hd,h1 e hs]
theorem TOk.array {t e:ab} {i:TI} {n:Nat} (h:TOk P t i) (hs:i.ar=some (n,e)):P.underlying t=some (.array n e):=by
 obtain⟨d,hd,_,_,_,h1,_⟩:=h.und;rw[hd,h1 n e hs]
theorem TOk.struct {t:ab} {i:TI} (h:TOk P t i) (hs:i.fs≠[]):∃ fs,P.underlying t=some (.struct fs)∧fs.toList.map (fun f=>(f.offset,B1M P f.type,B1x P f.type))=i.fs∧∀ f∈fs,(P.info? f.type).isSome=true:=by
 obtain⟨d,hd,_,_,h1,_⟩:=h.und;obtain⟨fs,rfl,h2,h3⟩:=h1 hs;exact⟨fs,hd,h2,fun f hf=>(h3 f hf).1⟩
theorem B0i {t e:ab} {i ei:TI} (ht:TOk P t i) (hs:i.sl=some e) (he:TOk P e ei) {b off len cap:Nat} {k:aU} {x:Int} (h0:0≤x) (h1:x<len) (w:aO) :
  (Instr.indexAt t (.slice (some ⟨b,off,none⟩) len cap) (.int k x)).run P w = .ok (.pointer (some ⟨b,off+x.toNat*ei.size,none⟩)) w:=by
 obtain⟨info,zv,hi,_,hsz,_⟩:=he.info;simp[Instr.indexAt,asIntOf,aV (ht.slice hs),h0,h1,sizeOf,bT,hi,hsz,A5y]
theorem B5e {t e:ab} {i ei:TI} {x y:aa} {n s lo len:Nat} {k:aU} {q:Int} (hop:o.op = .indexAddr t x y) (ht:TOk P t i) (hs:i.sl=some e) (he:TOk P e ei) (hz:ei.size=s) (h0:0≤q) (h1:q<len) :
  OpS P o [(x,.row n s lo len),(y,.d (.v (.int k q)))] [] [] fresh [] (.ref n s (lo+q.toNat) 0) :=
 .of_pure (fun c h=>by rw[hop]at h;cases h) fun g a hg hi hr=>by
  have hx:=hi (x,.row n s lo len) sM;have hy:=(hi (y,.d (.v (.int k q))) sM).v_eq;dsimp only at hy;generalize hv:a.eval x=v at hx;cases hx with | row _ _ _ _ a0 hn hs0 hl ha =>
  have ha:=ha oM;subst ha;refine⟨.pointer (some ⟨(g.β n).1,lo*s+q.toNat*s,none⟩),by subst hz;simp[aT,hop,hv,hy,B0i ht hs he h0 h1],?_⟩;have:=VT.ref n s (lo+q.toNat) 0 hn hs0
  rwa [bv,bj]at this
theorem B5d {t e:ab} {i ei:TI} {x y:aa} {s:Nat} {l:List D} {k:aU} {q:Int} (hop:o.op = .indexAddr t x y) (ht:TOk P t i) (hs:i.sl=some e) (he:TOk P e ei) (hz:ei.size=s) (h0:0≤q) (h1:q<l.length) :
  OpS P o [(x,.d (.arr s l)),(y,.d (.v (.int k q)))] [] [] fresh [] (.d (.el s l q.toNat 0)) :=
 .of_pure (fun c h=>by rw[hop]at h;cases h) fun g a hg hi hr=>by
  have hx:=hi (x,.d (.arr s l)) sM;have hy:=(hi (y,.d (.v (.int k q))) sM).v_eq;dsimp only at hy;generalize hv:a.eval x=v at hx;cases hx with | d hx =>
  cases hx with
  | arr0=>simp at h1;omega
  | arr _ _ b off cap f hc hK hs' hw hvv =>
  refine⟨.pointer (some ⟨b,off+q.toNat*s,none⟩),by subst hz;simp[aT,hop,hv,hy,B0i ht hs he h0 h1],.d ?_⟩;have:=VD.el s l q.toNat 0 b off f (fun _=>hK) hs' hw hvv
  rwa [bj]at this
theorem B3U {t e:ab} {i ei:TI} {x y:aa} {n s j c m:Nat} {k:aU} {q:Int} (hop:o.op = .indexAddr t x y) (ht:TOk P t i) (hs:i.ar=some (m,e)) (he:TOk P e ei) (h0:0≤q) (h1:q<m) :
  OpS P o [(x,.ref n s j c),(y,.d (.v (.int k q)))] [] [] fresh [] (.ref n s j (c+q.toNat*ei.size)) :=
 .of_pure (fun c h=>by rw[hop]at h;cases h) fun g a hg hi hr=>by
  have hx:=hi (x,.ref n s j c) sM;have hy:=(hi (y,.d (.v (.int k q))) sM).v_eq;dsimp only at hy;generalize hv:a.eval x=v at hx;cases hx with | ref _ _ _ _ hn hs0 =>
  obtain⟨info,zv,hi,_,hsz,_⟩:=he.info;refine⟨.pointer (some ⟨(g.β n).1,j*s+c+q.toNat*ei.size,none⟩),by simp[aT,hop,hv,hy,Instr.indexAt,asIntOf,aV (ht.array hs),Instr.sureAddr,h0,h1,sizeOf,bT,hi,hsz,A5y],?_⟩;have:=VT.ref n s j (c+q.toNat*ei.size) hn hs0
  rwa [← bW]at this
theorem D2s {t:ab} {x y:aa} {b:ByteArray} {k:aU} {q:Int} {c:UInt8} (hop:o.op = .index t x y) (ht:P.underlying t=some .string) (h0:0≤q) (h1:b[q.toNat]?=some c) :
  OpS P o [(x,.d (.v (.string b))),(y,.d (.v (.int k q)))] [] [] fresh [] (.d (.v (.int .u8 c.toNat))) :=
 .of_pure (fun c h=>by rw[hop]at h;cases h) fun g a hg hi hr=>by
  have hx:=(hi (x,.d (.v (.string b))) sM).v_eq;have hy:=(hi (y,.d (.v (.int k q))) sM).v_eq;dsimp only at hx hy;exact⟨.int .u8 c.toNat,by simp[aT,hop,hx,hy,Instr.index,asIntOf,aV ht,h0,h1],.d (.v _ rfl)⟩
theorem VT.slice_form {g:G} {u:T} {c:al} {n:Nat} (h:VT g u c) (hu:(∃ s l,u = .d (.arr s l)∧l.length=n)∨(∃ m s lo,u = .row m s lo n)∨(u = .d (.v (.slice none 0 0))∧n=0)):∃ A cap,c = .slice A n cap:=by
 rcases hu with⟨s,l,rfl,rfl⟩ | ⟨m,s,lo,rfl⟩ | ⟨rfl,rfl⟩
 ·cases h with | d h=>cases h with
  | arr0 s a cap=>exact⟨_,_,rfl⟩
  | arr=>exact⟨_,_,rfl⟩
 ·cases h;exact⟨_,_,rfl⟩
 ·exact⟨none,0,h.v_eq⟩
theorem B9w {t e:ab} {i:TI} {x:aa} {u:T} {n:Nat} (hop:o.op = .call { callee := .builtin .len,args:=#[x],argTypes:=#[t] }) (ht:TOk P t i) (hs:i.sl=some e)
  (hu:(∃ s l,u = .d (.arr s l)∧l.length=n)∨(∃ m s lo,u = .row m s lo n)∨(u = .d (.v (.slice none 0 0))∧n=0)):OpS P o [(x,u)] [] [] fresh [] (.d (.v (.int .i64 n))) :=
 .of_pure (fun c h=>by rw[hop]at h;cases h) fun g a hg hi hr=>by
  obtain⟨A,cap,hv⟩:=(hi (x,u) sM).slice_form hu;dsimp only at hv;exact⟨.int .i64 n,by simp[aT,hop,resolve,invoke,builtin,Builtin.len_,hv,aV (ht.slice hs),goInt],.d (.v _ rfl)⟩
theorem B7P {t:ab} {x:aa} {b:ByteArray} (hop:o.op = .call { callee := .builtin .len,args:=#[x],argTypes:=#[t] }) (ht:P.underlying t=some .string):OpS P o [(x,.d (.v (.string b)))] [] [] fresh [] (.d (.v (.int .i64 b.size))) :=
 .of_pure (fun c h=>by rw[hop]at h;cases h) fun g a hg hi hr=>by
  have hx:=(hi (x,.d (.v (.string b))) sM).v_eq;dsimp only at hx;exact⟨.int .i64 b.size,by simp[aT,hop,resolve,invoke,builtin,Builtin.len_,hx,aV ht,goInt],.d (.v _ rfl)⟩
theorem B4Y {bi:Builtin} {ts:Array ab} {x y:aa} {p q z:al} (hop:o.op = .call { callee := .builtin bi,args:=#[x,y],argTypes:=ts }) (h1:one z)
  (hz:∀ w c,(builtin bi ts o.type c #[p,q]).run P w = .ok (.value z) w):OpS P o [(x,.d (.v p)),(y,.d (.v q))] [] [] fresh [] (.d (.v z)) :=
 .of_pure (fun c h=>by rw[hop]at h;cases h) fun g a hg hi hr=>by
  have e1:=(hi (x,.d (.v p)) sM).v_eq;have e2:=(hi (y,.d (.v q)) sM).v_eq;dsimp only at e1 e2;exact⟨z,by simp[aT,hop,resolve,invoke,e1,e2,hz],.d (.v z h1)⟩
theorem B4Z {bi:Builtin} {ts:Array ab} {x y u:aa} {p q r z:al} (hop:o.op = .call { callee := .builtin bi,args:=#[x,y,u],argTypes:=ts }) (h1:one z)
  (hz:∀ w c,(builtin bi ts o.type c #[p,q,r]).run P w = .ok (.value z) w):OpS P o [(x,.d (.v p)),(y,.d (.v q)),(u,.d (.v r))] [] [] fresh [] (.d (.v z)) :=
 .of_pure (fun c h=>by rw[hop]at h;cases h) fun g a hg hi hr=>by
  have e1:=(hi (x,.d (.v p)) sM).v_eq;have e2:=(hi (y,.d (.v q)) sM).v_eq;have e3:=(hi (u,.d (.v r)) sM).v_eq;dsimp only at e1 e2 e3;exact⟨z,by simp[aT,hop,resolve,invoke,e1,e2,e3,hz],.d (.v z h1)⟩
theorem A5f {t e:ab} {i ei:TI} (ht:TOk P t i) (hs:i.sl=some e) (he:TOk P e ei) {A:Option Addr} {len cap:Nat} {lo hi:Option al} {l h:Nat}
  (hh:hi=none∧h=len∨∃ k,hi=some (.int k h)) (hl:lo=none∧l=0∨∃ k,lo=some (.int k l)) (h1:l≤h) (h2:h≤len) (h3:len≤cap) (w:aO) :
  (Instr.sliceAt t (.slice A len cap) lo hi none).run P w = .ok (.slice (if cap=l then A else A.map (·.add (l*ei.size))) (h-l) (cap-l)) w:=by
 obtain⟨info,zv,hinf,_,hsz,_⟩:=he.info;have hb1:(h:Int)≤cap:=by omega
 have hb2:(l:Int)≤h:=by omega
 have hb3:h≤cap:=by omega
 rcases hh with⟨rfl,rfl⟩ | ⟨k,rfl⟩<;>rcases hl with⟨rfl,rfl⟩ | ⟨k',rfl⟩ <;>
  simp[Instr.sliceAt,aV (ht.slice hs),Instr.slice,Instr.sliceBounds,Instr.sliceBound,asIntOf,sizeOf,bT,hinf,hsz,h1,hb3]
theorem VD.cut {g:G} {s:Nat} {l:List D} {A:Option Addr} {len cap lo hi:Nat} (h:VD g (.arr s l) (.slice A len cap)) (h1:lo≤hi) (h2:hi≤len):len≤cap ∧
  VD g (.arr s ((l.drop lo).take (hi-lo))) (.slice (if cap=lo then A else A.map (·.add (lo*s))) (hi-lo) (cap-lo)):=by
 cases h with
 | arr0 s a cap =>
  obtain rfl:hi=0:=by omega
  obtain rfl:lo=0:=by omega
  refine⟨du _,?_⟩;simp only[List.drop_nil,List.take_nil];exact .arr0 s _ _
 | arr s l b off cap f hc hK hs hw hv =>
  refine⟨hc,?_⟩;by_cases he:hi-lo=0
  ·rw[he,cM];exact .arr0 s _ _
  ·have hne:cap≠lo:=by omega
   rw[if_neg hne,bh,A5y];have hlen:hi-lo=((l.drop lo).take (hi-lo)).length:=by simp;omega
   have hget:∀ (k:Nat) (d:D),((l.drop lo).take (hi-lo))[k]?=some d→l[lo+k]?=some d:=fun k d hd=>by
    rw[bo]at hd;split at hd
    ·rwa [bF]at hd
    ·cases hd
   have:=VD.arr (g:=g) s ((l.drop lo).take (hi-lo)) b (off+lo*s) (cap-lo) (fun k j=>f (lo+k) j) oM hK (fun k d hd=>hs _ d (hget k d hd))
    (fun k d hd j e he=>by
     have:=hw _ d (hget k d hd) j e he;rw[bv]at this;rw[← this];congr 2;omega) (fun k d hd j e he=>hv _ d (hget k d hd) j e he)
   rwa [← hlen]at this
def H1 (d:Nat):Option aa→Option (aa × aU × Nat)→Nat
 | none,_=>d
 | some _,some p=>p.2.2
 | some _,none=>d
theorem B6D {t e:ab} {i ei:TI} {x z:aa} {s:Nat} {l:List D} {k':aU} {q:Nat} (hop:o.op = .slice t x none (some z) none) (ht:TOk P t i) (hs:i.sl=some e) (he:TOk P e ei) (hz:ei.size=s) (h1:q≤l.length) :
  OpS P o [(x,.d (.arr s l)),(z,.d (.v (.int k' q)))] [] [] fresh [] (.d (.arr s (l.take q))) :=
 .of_pure (fun c h=>by rw[hop]at h;cases h) fun g a hg hi hr=>by
  have hx:=hi (x,.d (.arr s l)) sM;have hz':=(hi (z,.d (.v (.int k' q))) sM).v_eq;dsimp only at hx hz';obtain⟨A,cap,hv⟩:=hx.slice_form (.inl ⟨s,l,rfl,rfl⟩);rw[hv]at hx;cases hx with | d hx =>
  obtain⟨h2,h3⟩:=hx.cut (du q) h1;subst hz;rw[List.drop_zero,aP]at h3;exact⟨_,by simp[aT,hop,hv,hz',A5f ht hs he (.inr ⟨k',rfl⟩) (.inl ⟨rfl,rfl⟩) (du q) h1 h2]<;>rfl,.d (by simpa using h3)⟩
theorem B6E {t e:ab} {i ei:TI} {x y:aa} {s:Nat} {l:List D} {k:aU} {p:Nat} (hop:o.op = .slice t x (some y) none none) (ht:TOk P t i) (hs:i.sl=some e) (he:TOk P e ei) (hz:ei.size=s) (h1:p≤l.length) :
  OpS P o [(x,.d (.arr s l)),(y,.d (.v (.int k p)))] [] [] fresh [] (.d (.arr s (l.drop p))) :=
 .of_pure (fun c h=>by rw[hop]at h;cases h) fun g a hg hi hr=>by
  have hx:=hi (x,.d (.arr s l)) sM;have hy:=(hi (y,.d (.v (.int k p))) sM).v_eq;dsimp only at hx hy;obtain⟨A,cap,hv⟩:=hx.slice_form (.inl ⟨s,l,rfl,rfl⟩);rw[hv]at hx;cases hx with | d hx =>
  obtain⟨h2,h3⟩:=hx.cut h1 (aw _);subst hz;rw[List.take_of_length_le sM]at h3;exact⟨_,by simp[aT,hop,hv,hy,A5f ht hs he (.inl ⟨rfl,rfl⟩) (.inr ⟨k,rfl⟩) h1 (aw _) h2]<;>rfl,.d h3⟩
variable {P:ah} {o:Oper} {fresh:Nat}
def A8W:List T→LT→List T
 | cs,[]=>cs
 | cs,(c,t)::l=>A8W (cs.take c++t.cells++cs.drop (c+t.cells.length)) l
def A6Z (n:Nat):List (Nat × Nat × T)→Bool
 | []=>true
 | (c,m,t)::l=>aJ t.cells.length m&&bL (c+m) n&&A6Z n l
theorem B61 (vs:List al) (off:Nat):∀ (cs:Array al) (j:Nat),off+j+vs.length≤cs.size →
  ((vs.zipIdx j).foldl (fun cs (x:al × Nat)=>cs.setIfInBounds (off+x.2) x.1) cs).toList=cs.toList.take (off+j)++vs++cs.toList.drop (off+j+vs.length):=by
 induction vs with
 | nil=>intro cs j _;simp
 | cons v vs ih =>
  intro cs j h;simp only[List.zipIdx_cons,List.foldl_cons];rw[ih _ _ (by simp at h ⊢;omega),cE];simp only[cj]at h;have hlt:off+j<cs.toList.length:=by simp;omega
  have h1:(cs.toList.set (off+j) v).take (off+(j+1))=cs.toList.take (off+j)++[v]:=by
   rw[← bW,List.take_succ_eq_append_getElem (by simpa using hlt)];rw[List.take_set,List.set_eq_of_length_le (by simp;omega)];simp
  have h2:(cs.toList.set (off+j) v).drop (off+(j+1)+vs.length)=cs.toList.drop (off+j+(v::vs).length):=by
   rw[List.drop_set_of_lt oM];congr 1;simp;omega
  rw[h1,h2];simp
theorem A7V {g:G} (place:Nat→Option (Nat × Nat)):∀ (parts:List (Nat × al)) (ps:List (Nat × Nat × T)) (cs:Array al) (ts:List T),
  parts.length=ps.length→(∀ (k:Nat) (p:Nat × al) (q:Nat × Nat × T),parts[k]?=some p→ps[k]?=some q→place p.1=some (q.1,q.2.1)∧VT g q.2.2 p.2∧∀ x∈q.2.2.cells,x.one=true) →
  VTs g ts cs.toList→A6Z ts.length ps=true→∃ cs',Instr.fill place cs parts=some cs'∧VTs g (A8W ts (ps.map fun q=>(q.1,q.2.2))) cs'.toList
 | [],[],cs,ts,_,_,h,_=>⟨cs,rfl,h⟩
 | (k,v)::parts,(c,m,t)::ps,cs,ts,hl,hp,h,hk=>by
  obtain⟨h1,h2,h3⟩:=hp 0 _ _ rfl rfl;dsimp only at h1 h2 h3;have hc:=h2.cells h3;simp only[A6Z,aF]at hk;obtain⟨⟨hk1,hk2⟩,hk3⟩:=hk;have hm:=aA hk1;have hle:=bg hk2;have hvs:v.cells.size=m:=by rw[← hm,hc.1];simp
  have hcs:cs.size=ts.length:=by rw[h.1];simp
  have hfold:=B61 v.cells.toList c cs 0 (by simp[hvs,hcs];omega);obtain⟨cs1,hcs1⟩:∃ cs1,v.cells.zipIdx.foldl (fun cs (x:al × Nat)=>cs.setIfInBounds (c+x.2) x.1) cs=cs1:=⟨_,rfl⟩;have hfold':cs1.toList=cs.toList.take c++v.cells.toList++cs.toList.drop (c+v.cells.toList.length):=by
   rw[← hcs1,← Array.foldl_toList];simpa using hfold
  have hts:VTs g (ts.take c++t.cells++ts.drop (c+t.cells.length)) cs1.toList:=by
   rw[hfold'];refine⟨by simp[h.1,hc.1],fun j d e hd he=>?_⟩;rw[A7p _ _ _ _ oM]at hd;rw[A7p _ _ _ _ (by simp[hvs,hcs];omega)]at he;by_cases a1:j<c
   ·rw[if_pos a1]at hd he;exact h.2 j d e hd he
   ·rw[if_neg a1]at hd he;by_cases a2:j<c+t.cells.length
    ·rw[if_pos a2]at hd;rw[if_pos (by rw[← hc.1];exact a2)]at he;exact hc.2 _ d e hd he
    ·rw[if_neg a2]at hd;rw[if_neg (by rw[← hc.1];exact a2)]at he;exact h.2 j d e hd he
  obtain⟨cs',h4,h5⟩:=A7V place parts ps cs1 _ (by simpa using hl) (fun k p q hp' hq=>hp (k+1) p q (by simpa using hp') (by simpa using hq)) hts (by
   have:(ts.take c++t.cells++ts.drop (c+t.cells.length)).length=ts.length:=by simp;omega
   rw[this];exact hk3)
  refine⟨cs',?_,h5⟩;simp only[Instr.fill,h1,hvs];have hcond:¬ (m≠m||c+m>cs.size)=true:=by simp[hcs];omega
  rw[if_neg (by simpa using hcond)];rw[← h4,← hcs1]
def A4M (fs:List (Nat × Bool × Nat)):List (Nat × aa)→List T→List (Nat × Nat × T)
 | (k,_)::ps,t::ts=>(match fs[k]? with | some (c,_,m)=>(c,m,t) | none=>(0,0,.bot))::A4M fs ps ts
 | _,_=>[]
def B2Z (fs:List (Nat × Bool × Nat)) (ps:List (Nat × aa)):Bool:=ps.all fun p=>aq p.1 fs.length
def A4y (l:List T):Bool:=l.all T.one
def A3f (ts:List T):Bool:=ts.all fun t=>A4y t.cells
theorem B0e (fs:List (Nat × Bool × Nat)):∀ (ps:List (Nat × aa)) (ts:List T),ps.length=ts.length→(A4M fs ps ts).length=ps.length ∧
  ∀ (k:Nat) (p:Nat × aa) (t:T),ps[k]?=some p→ts[k]?=some t→(A4M fs ps ts)[k]?=some (match fs[p.1]? with | some (c,_,m)=>(c,m,t) | none=>(0,0,.bot))
 | [],[],_=>⟨rfl,fun k p t h=>by simp at h⟩
 | p::ps,t::ts,h=>by
  obtain⟨h1,h2⟩:=B0e fs ps ts (by simpa using h);refine⟨by simp[A4M,h1],fun k q u hq hu=>?_⟩;cases k with
  | zero=>simp at hq hu;subst hq;subst hu;rfl
  | succ k=>simpa[A4M]using h2 k q u (by simpa using hq) (by simpa using hu)
theorem B0z {ts:List T} (h:A3f ts=true) {t:T} (ht:t∈ts):∀ x∈t.cells,x.one=true:=by
 unfold A3f at h;rw[ax]at h;have:=h t ht;unfold A4y at this
 rwa [ax]at this
theorem B4v {α β:Type} {w:aO} (F:α→Sem β) (k:α→β):∀ (l:List α),(∀ x∈l,(F x).run P w = .ok (k x) w)→(l.mapM F).run P w = .ok (l.map k) w
 | [],_=>rfl
 | x::l,h=>by rw[List.mapM_cons,Sem.run_bind,h x sM,Result.andThen_ok,Sem.run_bind,B4v F k l (fun y hy=>h y (by simp[hy])),Result.andThen_ok];rfl
theorem B8M {t:ab} {i:TI} {parts:Array (Nat × aa)} {ts:List T} (hop:o.op = .build t parts) (ht:TOk P t i) (hfs:i.fs≠[]) (hl:parts.toList.length=ts.length) (h1:A3f ts=true) (hin:B2Z i.fs parts.toList=true)
  (hk:A6Z i.z.cells.length (A4M i.fs parts.toList ts)=true):OpS P o ((parts.toList.map (·.2)).zip ts) [] [] fresh [] (mkAgg (A8W i.z.cells ((A4M i.fs parts.toList ts).map fun q=>(q.1,q.2.2)))) :=
 .of_pure (fun c h=>by rw[hop]at h;cases h) fun g a hg hi hr=>by
  obtain⟨info,zv,hinf,hz,hs,hb,hzs,hzv,hzl,hz1⟩:=ht.info;obtain⟨fs,hd,hm,hall⟩:=ht.struct hfs;have hvt:=VTs.of_ins (g:=g) (a:=a) (xs:=parts.toList.map (·.2)) (ts:=ts) (by simpa using hl) (fun p hp=>hi p hp);have hzc:VTs g i.z.cells zv.cells.toList:=VT.cells (by rw[hzv];exact VT.ofV g zv) hz1;obtain⟨hpl,hpg⟩:=B0e i.fs parts.toList ts hl;obtain⟨places,hplaces,hpp⟩:∃ places:Array (Nat × Nat),(fs.mapM fun f=>Functor.map (Prod.mk f.offset) (sizeOf f.type)).run P g.w = .ok places g.w∧∀ (k c m:Nat) (b:Bool),i.fs[k]?=some (c,b,m)→places[k]?=some (c,m):=by
   refine⟨(fs.toList.map fun f=>(f.offset,B1x P f.type)).toArray,?_,fun k c m b hk=>?_⟩
   ·rw[Array.mapM_eq_mapM_toList,Sem.run_map,B4v (P:=P) (w:=g.w) _ (fun f=>(f.offset,B1x P f.type)) fs.toList fun f hf=>?_]
    ·rfl
    ·obtain⟨inf,hinf'⟩:=cL.1 (hall f (by simpa using hf));simp[sizeOf,bT,hinf',B1x]
   ·rw[← hm,gM,an]at hk;obtain⟨fd,h2,h3⟩:=hk;simp only[eP]at h3;obtain⟨rfl,_,rfl⟩:=h3;have:fs[k]?=some fd:=by simpa using h2
    simp[this]
  obtain⟨cs',hf1,hf2⟩:=A7V (g:=g) (fun k=>places[k]?) (parts.toList.map fun p=>(p.1,a.eval p.2)) (A4M i.fs parts.toList ts) zv.cells i.z.cells (by simp[hpl]) (fun k p q hp hq=>by
   simp only[gM,an]at hp;obtain⟨⟨n,x⟩,hx,rfl⟩:=hp;have hlt:k<ts.length:=by rw[← hl];exact(gS hx).1
   have htk:ts[k]?=some ts[k]:=gE hlt;rw[hpg k _ _ hx htk]at hq;have hn:n<i.fs.length:=by
    unfold B2Z at hin;rw[ax]at hin;have:=hin (n,x) (iM hx);simpa[bG]using this
   have hfn:i.fs[n]?=some i.fs[n]:=gE hn;dsimp only at hq ⊢;rw[hfn]at hq;obtain⟨c,b,m,hfe⟩:∃ c b m,i.fs[n]=(c,b,m):=⟨_,_,_,rfl⟩;rw[hfe]at hq hfn;simp only[aK]at hq;subst hq;exact⟨hpp n c m b hfn,hvt.2 k _ _ htk (by simp[hx]),B0z h1 (aj hlt)⟩) hzc hk
  refine⟨.agg cs',?_,?_⟩
  ·simp[aT,hop,Instr.build,dU,bT,hinf,hz,aV hd,hplaces,hf1]
  ·simpa using VT.mkAgg hf2
variable {P:ah} {o:Oper} {fresh:Nat}
def A4S (l:List T):List T:=l.flatMap T.cells
theorem A7B {s:Nat}:∀ {l:List T},(∀ x∈l,x.cells.length=s)→(A4S l).length=l.length*s
 | [],_=>by simp[A4S]
 | x::l,h=>by
  have:=A7B (l:=l) fun y hy=>h y (by simp[hy]);simp only[A4S,cP,bz,cj]at this ⊢;rw[this,h x sM,bv];omega
theorem B2G {s:Nat}:∀ {l:List T},(∀ x∈l,x.cells.length=s)→∀ {i j:Nat} {x y:T},l[i]?=some x→x.cells[j]?=some y→(A4S l)[i*s+j]?=some y
 | [],_,i,j,x,y,hx,_=>by simp at hx
 | z::l,h,0,j,x,y,hx,hy=>by
  simp at hx;subst hx;have hj:=(gS hy).1;simp only[A4S,cP,da,aZ];rw[aC hj,hy]
 | z::l,h,i+1,j,x,y,hx,hy=>by
  have:=B2G (l:=l) (fun y hy=>h y (by simp[hy])) (by simpa using hx) hy;simp only[A4S,cP]at this ⊢;have hz:=h z sM;rw[aG (by rw[hz,bv];omega),hz];rw[show(i+1)*s+j-s=i*s+j by rw[bv];omega];exact this
theorem A8X {s:Nat}:∀ {l:List T},(∀ x∈l,x.cells.length=s)→∀ {k:Nat} {y:T},(A4S l)[k]?=some y→∃ i j x,k=i*s+j∧l[i]?=some x∧x.cells[j]?=some y
 | [],_,k,y,h=>by simp[A4S]at h
 | z::l,h,k,y,hy=>by
  have hz:=h z sM;simp only[A4S,cP]at hy;by_cases hk:k<s
  ·rw[aC oM]at hy;exact⟨0,k,z,by simp,rfl,hy⟩
  ·rw[aG oM,hz]at hy;obtain⟨i,j,x,h1,h2,h3⟩:=A8X (l:=l) (fun y hy=>h y (by simp[hy])) hy;exact⟨i+1,j,x,by rw[bv];omega,by simpa using h2,h3⟩
theorem VTs.append {g:G} {a b:List T} {c d:List al} (h:VTs g a c) (k:VTs g b d):VTs g (a++b) (c++d):=by
 refine⟨by simp[h.1,k.1],fun i t v ht hv=>?_⟩;by_cases hi:i<a.length
 ·rw[aC hi]at ht;rw[aC (by rw[← h.1];exact hi)]at hv;exact h.2 i t v ht hv
 ·rw[aG oM]at ht;rw[aG (by rw[← h.1];omega),← h.1]at hv;exact k.2 _ t v ht hv
theorem A4I {g:G} {s:Nat} {l:List T} (hs:∀ x∈l,x.cells.length=s) {cs:List al} {cells:Array al} (h:VTs g (A4S l) cs) (hc:∀ (k:Nat) (c:al),cs[k]?=some c→cells[k]?=some c) :
  ∀ (i:Nat) (x:T),l[i]?=some x→x.cells.length=s∧∀ (j:Nat) (y:T),x.cells[j]?=some y→∃ c,cells[i*s+j]?=some c∧VT g y c:=fun i x hx =>
 ⟨hs x (iM hx),fun j y hy=>by
  have h1:=B2G hs hx hy;have hlt:=(gS h1).1;rw[h.1]at hlt;have h2:cs[i*s+j]?=some cs[i*s+j]:=gE hlt;exact⟨_,hc _ _ h2,h.2 _ _ _ h1 h2⟩⟩
def A7J:Nat→List (Nat × aa)→Bool
 | _,[]=>true
 | k,(i,_)::l=>aJ i k&&A7J (k+1) l
def B02 (s:Nat) (ts:List T):Bool:=ts.all fun t=>aJ t.cells.length s
theorem B6P {s:Nat} {ts:List T} (h:B02 s ts=true):∀ x∈ts,x.cells.length=s:=fun x hx=>by
 unfold B02 at h;rw[ax]at h;exact aA (h x hx)
def A7K (s:Nat):Nat→List T→List (Nat × Nat × T)
 | _,[]=>[]
 | k,t::l=>(k*s,s,t)::A7K s (k+1) l
theorem B2p (s:Nat):∀ (l:List T) (k i:Nat) (t:T),l[i]?=some t→(A7K s k l)[i]?=some ((k+i)*s,s,t)
 | [],k,i,t,h=>by simp at h
 | x::l,k,0,t,h=>by simp at h;subst h;rfl
 | x::l,k,i+1,t,h=>by
  have:=B2p s l (k+1) i t (by simpa using h);rw[show k+1+i=k+(i+1) by omega]at this;simpa[A7K]using this
theorem B2q (s:Nat):∀ (l:List T) (k:Nat),(A7K s k l).length=l.length
 | [],_=>rfl
 | x::l,k=>by simp[A7K,B2q s l]
theorem B4w {s n:Nat}:∀ (l:List T) (k:Nat),(∀ x∈l,x.cells.length=s)→(k+l.length)*s≤n→A6Z n (A7K s k l)=true
 | [],_,_,_=>rfl
 | x::l,k,h,hn=>by
  have h1:=h x sM;have h2:=B4w (n:=n) l (k+1) (fun y hy=>h y (by simp[hy])) (by simp only[cj]at hn;rw[show k+1+l.length=k+(l.length+1) by omega];exact hn);have h3:k*s+s≤n:=by
   refine bN ?_ hn;rw[← Nat.succ_mul];exact bQ _ sM
  simp only[A7K,A6Z,aF];exact⟨⟨by rw[h1];exact dd s,Nat.ble_eq_true_of_le h3⟩,h2⟩
theorem B1U {s:Nat}:∀ (l A Z:List T) (k:Nat),(∀ x∈l,x.cells.length=s)→A.length=k*s→Z.length=l.length*s→A8W (A++Z) ((A7K s k l).map fun q=>(q.1,q.2.2))=A++A4S l
 | [],A,Z,k,_,_,hz=>by
  have:Z=[]:=bE (by simpa using hz);subst this;simp[A7K,A8W,A4S]
 | x::l,A,Z,k,h,ha,hz=>by
  have h1:=h x sM;simp only[A7K,List.map_cons,A8W];simp only[cj,bv,fk]at hz;rw[← ha,dP,List.drop_append,dc oM,cf,show A.length+x.cells.length-A.length=x.cells.length by omega];rw[B1U l (A++x.cells) (Z.drop x.cells.length) (k+1) (fun y hy=>h y (by simp[hy])) (by simp[ha,h1,bv]) (by simp[h1,hz])];simp[A4S]
theorem B75 {g:G} (hg:P6 g) {n:Nat} (hn:g.M n=none) {s cap:Nat} {l:List T} (hs:∀ x∈l,x.cells.length=s) {cs:List al} {cells:Array al} (h:VTs g (A4S l) cs) (hc:∀ (k:Nat) (c:al),cs[k]?=some c→cells[k]?=some c)
  (h0:s≠0) (hz:cells.size=cap*s) (hl:l.length≤cap) (e:ab) {w:aO} (hw:w=g.w.alloc (.cells cells e)∨w=g.w.drew.alloc (.cells cells e)):P6 (g.grow n ⟨s,l⟩ cap w) :=
 P6.grow hg hn hw h0 hz hl (A4I hs h hc)
theorem VT.newRow {g:G} {n s cap len:Nat} {r:Rw} {w:aO} (h0:s≠0) (h:len≤cap):VT (g.grow n r cap w) (.row n s 0 len) (.slice (some ⟨g.w.heap.size,0,none⟩) len cap):=by
 have:=VT.row (g:=g.grow n r cap w) n s 0 len (some ⟨g.w.heap.size,0,none⟩) (by simp[G.grow]) h0 (by simpa[G.grow]using h) (fun _=>by simp[G.grow]);simpa[G.grow]using this
theorem B2N {t e:ab} {i ei:TI} {len:Nat} {parts:Array (Nat × aa)} {ts:List T} (hop:o.op = .buildSlice t len parts) (ht:TOk P t i) (hsl:i.sl=some e) (he:TOk P e ei) (hl:parts.toList.length=ts.length) (hlen:ts.length=len)
  (hsq:A7J 0 parts.toList=true) (hs:B02 ei.size ts=true) (h1:A3f ts=true) (hb:len*ei.size≤16777216) (hs0:aJ ei.size 0=false):OpS P o ((parts.toList.map (·.2)).zip ts) [] [] fresh [⟨ei.size,ts⟩] (.row fresh ei.size 0 len) :=
 .of_run (fun c h=>by rw[hop]at h;cases h) fun g a hg hi hr hn=>by
  obtain⟨info,zv,hinf,hz,hsz,_,hzs,_⟩:=he.info;have hn0:=hn 0 sM;rw[bj]at hn0;have hvt:=VTs.of_ins (g:=g) (a:=a) (xs:=parts.toList.map (·.2)) (ts:=ts) (by simpa using hl) (fun p hp=>hi p hp);have hsm:=B6P hs;have hseq:∀ (ps:List (Nat × aa)) (k:Nat),A7J k ps=true→∀ (j:Nat) (p:Nat × aa),ps[j]?=some p→p.1=k+j:=by
   intro ps;induction ps with
   | nil=>intro k _ j p hp;simp at hp
   | cons q ps ih =>
    intro k hk j p hp;obtain⟨qi,qx⟩:=q;simp only[A7J,aF]at hk;cases j with
    | zero=>simp at hp;subst hp;exact aA hk.1
    | succ j=>rw[ih (k+1) hk.2 j p (by simpa using hp)];omega
  obtain⟨cells0,hc0⟩:∃ c:Array al,c.size=len*ei.size∧((len*ei.size=0→(dg (len*info.size)).map (fun k=>(#[]:Array al)[k%0]!)=c)∧(len*ei.size≠0→(dg (len*info.size)).map (fun k=>zv.cells[k%zv.cells.size]!)=c)):=by
   by_cases h0:len*ei.size=0
   ·exact⟨_,by simp[hsz],fun _=>rfl,fun h=>absurd h0 h⟩
   ·exact⟨_,by simp[hsz],fun h=>absurd h h0,fun _=>rfl⟩
  have hbot:VTs g (ak (len*ei.size) .bot) cells0.toList:=⟨by simp[hc0.1],fun j d c hd _=>by
   rw[bJ]at hd;split at hd
   ·injection hd with hd;subst hd;exact .bot _
   ·cases hd⟩
  obtain⟨cs',hf1,hf2⟩:=A7V (g:=g) (fun k=>some (k*info.size,info.size)) (parts.toList.map fun p=>(p.1,a.eval p.2)) (A7K ei.size 0 ts) cells0 (ak (len*ei.size) .bot) (by simp[B2q,← hl]) (fun k p q hp hq=>by
   simp only[gM,an]at hp;obtain⟨⟨n,x⟩,hx,rfl⟩:=hp;have hlt:k<ts.length:=by rw[← hl];exact(gS hx).1
   have htk:ts[k]?=some ts[k]:=gE hlt;have:=B2p ei.size ts 0 k _ htk;rw[this]at hq;injection hq with hq
   subst hq;have hk:=hseq _ 0 hsq k _ hx;dsimp only at hk ⊢;refine⟨by rw[hk,hsz],hvt.2 k _ _ htk (by simp[hx]),B0z h1 (aj hlt)⟩) hbot (B4w ts 0 hsm (by simp[hlen]))
  have hfl:=B1U ts [] (ak (len*ei.size) .bot) 0 hsm sM (by simp[hlen]);simp only[cf]at hfl;rw[hfl]at hf2;have hcz:cs'.size=len*ei.size:=by have:=hf2.1;rw[A7B hsm,hlen]at this;simpa using this.symm
  have hG:=B75 hg hn0 (cap:=len) hsm hf2 (cells:=cs') (fun k c h=>by simpa using h) (ba hs0) hcz oM e (.inl rfl);refine⟨.slice (some ⟨g.w.heap.size,0,none⟩) len len,_,.inl ?_,hG,Le.grow hn0 _ _ (.inl rfl),A9w _ _ _,VT.newRow (ba hs0) (aw _)⟩;have hb':¬ (len*info.size>2^24):=by rw[hsz];omega
  by_cases h0:len*ei.size=0
  ·have h0':len*info.size=0:=by rw[hsz];exact h0
   have:=hc0.2.1 h0;have hcell:cells0=#[]:=by apply Array.eq_empty_of_size_eq_zero;rw[hc0.1,h0]
   have hr0:dg 0=#[]:=rfl;rw[hcell]at hf1;simp[aT,hop,Instr.buildSlice,aV (ht.slice hsl),sizeOf,bT,hinf,h0',hr0,hf1,newRow,G.grow]
  ·have h0':len*info.size≠0:=by rw[hsz];exact h0
   have:=hc0.2.2 h0;rw[← this]at hf1;simp[aT,hop,Instr.buildSlice,aV (ht.slice hsl),sizeOf,bT,hinf,dU,hz,h0',hb',hf1,newRow,G.grow]
variable {P:ah} {o:Oper} {fresh:Nat}
theorem B3W {t e:ab} {i ei:TI} {x y:aa} {k k':aU} {q:Nat} (hop:o.op = .makeSlice t x y) (ht:TOk P t i) (hsl:i.sl=some e) (he:TOk P e ei) (hq:q≤9223372036854775807) (hb:ei.bytes*q≤281474976710656) (hs0:aJ ei.size 0=false) :
  OpS P o [(x,.d (.v (.int k q))),(y,.d (.v (.int k' q)))] [] [] fresh [⟨ei.size,ak q ei.z⟩] (.row fresh ei.size 0 q) :=
 .of_run (fun c h=>by rw[hop]at h;cases h) fun g a hg hi hr hn=>by
  obtain⟨info,zv,hinf,hz,hsz,hby,hzs,hzv,hzl,hz1⟩:=he.info;have hn0:=hn 0 sM;rw[bj]at hn0;have e1:=(hi (x,.d (.v (.int k q))) sM).v_eq;have e2:=(hi (y,.d (.v (.int k' q))) sM).v_eq;dsimp only at e1 e2;have hw:IntKind.i64.wrap (q:Int)=q:=IntWalk.i64_in _ oM;obtain⟨cells,hcells⟩:∃ cells:Array al,(dg (q*info.size)).map (fun j=>(if q*info.size=0 then(#[]:Array al)else zv.cells)[j%(if q*info.size=0 then(#[]:Array al)else zv.cells).size]!)=cells:=⟨_,rfl⟩;have hzc:VTs g ei.z.cells zv.cells.toList:=VT.cells (by rw[hzv];exact VT.ofV g zv) hz1;have hcz:cells.size=q*ei.size:=by rw[← hcells];simp[hsz]
  have hG:P6 (g.grow fresh ⟨ei.size,ak q ei.z⟩ q (g.w.alloc (.cells cells e))):=by
   refine P6.grow hg hn0 (.inl rfl) (ba hs0) hcz sM fun j u hu=>?_;rw[bJ]at hu;split at hu
   ·rename_i hj;injection hu with hu
    subst hu;refine⟨hzl,fun m y hy=>?_⟩;have hm:m<ei.size:=by rw[← hzl];exact(gS hy).1
    have hlt:j*ei.size+m<q*ei.size:=by
     have:=bQ ei.size (show j+1≤q by omega);rw[bv]at this;omega
    have h0:¬ q*info.size=0:=by rw[hsz];omega
    have hmod:(j*ei.size+m)%zv.cells.size=m:=by rw[hzs,Nat.mul_comm,Nat.mul_add_mod,Nat.mod_eq_of_lt hm]
    have hmz:m<zv.cells.size:=by omega
    refine⟨zv.cells[m],?_,hzc.2 m y _ hy (by simp[hmz])⟩;rw[← hcells];simp only[h0,if_false];rw[Array.getElem?_map,Array.getElem?_range,if_pos (by rw[hsz];exact hlt)];simp[hmod,hmz]
   ·cases hu
  refine⟨.slice (some ⟨g.w.heap.size,0,none⟩) q q,_,.inl ?_,hG,Le.grow hn0 _ _ (.inl rfl),A9w _ _ _,VT.newRow (ba hs0) (aw _)⟩;have hbb:¬ (281474976710656<(info.bytes:Int)*(q:Int)):=by
   rw[hby];have h2:((ei.bytes*q:Nat):Int)≤281474976710656:=Int.ofNat_le.2 hb;rw[Int.natCast_mul]at h2;exact fo.2 h2
  have hq0:¬ ((q:Int)<0):=by omega
  by_cases h0:q*info.size=0
  ·simp only[h0,if_true]at hcells;have hr0:dg 0=#[]:=rfl;rw[hr0]at hcells;simp at hcells;subst hcells;simp[aT,hop,Instr.makeSlice,aV (ht.slice hsl),e1,e2,asInt,asIntOf,bT,hinf,hw,hbb,hq0,sizeOf,h0,newRow,G.grow,hr0]
  ·simp only[h0,if_false]at hcells;subst hcells;simp[aT,hop,Instr.makeSlice,aV (ht.slice hsl),e1,e2,asInt,asIntOf,bT,hinf,hw,hbb,hq0,sizeOf,h0,dU,hz,newRow,G.grow]
def B8k (u:T) (l:List T) (s:Nat) (rn:List (Nat × Rw)):Prop :=
 (u = .d (.v (.slice none 0 0))∧l=[])∨(∃ l0,u = .d (.arr s l0)∧l=l0.map .d)∨(∃ n lo len r,u = .row n s lo len∧(n,r)∈rn∧r.s=s∧lo+len≤r.els.length∧l=(r.els.drop lo).take len)
theorem B41 {g:G} (hg:P6 g) {u:T} {c:al} {l:List T} {s:Nat} {rn:List (Nat × Rw)} (h:VT g u c) (hu:B8k u l s rn) (hr:∀ p∈rn,g.M p.1=some (some p.2)) :
  ∃ A cap vs,c = .slice A l.length cap∧(∀ x∈l,x.cells.length=s)∧VTs g (A4S l) vs∧(0<l.length→∃ ad,A=some ad∧∀ (j:Nat) (v:al),vs[j]?=some v→g.w.cell? (ad.add j)=some v):=by
 rcases hu with⟨rfl,rfl⟩ | ⟨l0,rfl,rfl⟩ | ⟨n,lo,len,r,rfl,hm,hs,hle,rfl⟩
 ·exact⟨none,0,[],h.v_eq,by simp,.nil g,fun h=>by simp at h⟩
 ·cases h with | d h =>
  cases h with
  | arr0 s a cap=>exact⟨a,cap,[],rfl,by simp,.nil g,fun h=>by simp at h⟩
  | arr s l b off cap f hc hK hs hw hv =>
    have hsz:∀ x∈l0.map T.d,x.cells.length=s:=fun x hx=>by
     simp only[bZ]at hx;obtain⟨d,hd,rfl⟩:=hx;obtain⟨i,hi⟩:=cB hd;have:=hs i d hi;cases d<;>simpa[T.cells,D.cells]using this
    have hdc:∀ d:D,(T.d d).cells=d.cells.map .d:=fun d=>by cases d<;>rfl
    obtain⟨vs,h1,h2⟩:=A5P (g:=g) (A4S (l0.map .d)) (fun k c=>g.w.cell? ((⟨b,off,none⟩:Addr).add k)=some c) (fun k y hy=>by
     obtain⟨i,j,x,rfl,hx,hy'⟩:=A8X hsz hy;rw[gM,an]at hx;obtain⟨d,hd,rfl⟩:=hx;rw[hdc,gM,an]at hy';obtain⟨e,he,rfl⟩:=hy';exact⟨f i j,by rw[A5y,← bW];exact hw i d hd j e he,.d (hv i d hd j e he)⟩)
    exact⟨_,cap,vs,by simp,hsz,h1,fun _=>⟨_,rfl,h2⟩⟩
 ·cases h with | row _ _ _ _ a0 hn hs0 hl ha =>
  have hs0':r.s≠0:=by rw[hs];exact hs0
  by_cases hl0:len=0
  ·subst hl0;exact⟨a0,(g.β n).2-lo,[],by simp,by simp,by rw[cM];exact .nil g,fun h=>by simp at h⟩
  have hcap:(g.β n).2≠0:=by omega
  have ha:=ha hcap;subst ha;have hlen:((r.els.drop lo).take len).length=len:=by simp;omega
  have hrow:=hg.rows n r (hr (n,r) hm);have hx0:r.els[lo]?=some r.els[lo]:=gE oM;obtain⟨_,cells,ety,_,_,_,hcell⟩:=hrow.has hs0' hx0;have hgl:∀ (i:Nat) (x:T),((r.els.drop lo).take len)[i]?=some x→r.els[lo+i]?=some x:=fun i x hx=>by
   rw[bo]at hx;split at hx
   ·rwa [bF]at hx
   ·cases hx
  have hsz:∀ x∈(r.els.drop lo).take len,x.cells.length=s:=fun x hx=>by
   obtain⟨i,hi⟩:=cB hx;rw[← hs];exact(hcell _ x (hgl i x hi)).1
  obtain⟨vs,h1,h2⟩:=A5P (g:=g) (A4S ((r.els.drop lo).take len)) (fun k c=>g.w.cell? ((⟨(g.β n).1,lo*s,none⟩:Addr).add k)=some c) (fun k y hy=>by
   obtain⟨i,j,x,rfl,hx,hy'⟩:=A8X hsz hy;obtain⟨c,hc,hv⟩:=(hg.rows n r (hr (n,r) hm)).get hs0' (hgl i x hx) hy';refine⟨c,?_,hv⟩;rw[A5y,← hc,hs];congr 2;rw[bv];omega)
  exact⟨_,_,vs,by rw[hlen],hsz,h1,fun _=>⟨_,rfl,h2⟩⟩
def G.app (g:G) (n m:Nat) (r:Rw) (bc:Nat × Nat) (w:aO):G :=
 ⟨fun k=>if k=m then some (some r)else if k=n then some none else g.M k,fun k=>if k=m then bc else g.β k,g.K,w⟩
theorem B6g (M:Nat→Option (Option Rw)) (n m:Nat) (r:Rw) (h:m≠n):(fun k=>if k=m then some (some r)else if k=n then some none else M k)=upd M [(n,none)] m [r]:=by
 funext k;simp only[upd,cc,dn,ee];by_cases hkm:k=m
 ·subst hkm;have:(n==k)=false:=by simpa using fun e=>h e.symm
  simp[this]
 ·have h2:¬ (m≤k∧k<m+1):=by omega
  by_cases hkn:k=n
  ·subst hkn;simp[hkm]
  ·have:(n==k)=false:=by simpa using fun e=>hkn e.symm
   simp[this,hkm,hkn,h2]
theorem B1N {g:G} (hg:P6 g) {n m:Nat} {r0 r:Rw} (hn:g.M n=some (some r0)) (hm:g.M m=none) {bc:Nat × Nat} {w:aO} (hbc:bc.2=0∨(bc.1=(g.β n).1∧(g.β n).2≠0)∨bc.1=g.w.heap.size)
  (hos:w.os=g.w.os) (htape:w.tape=g.w.tape) (hout:w.output=g.w.output) (hsize:g.w.heap.size≤w.heap.size) (hfr:∀ b,b<g.w.heap.size→(bc.2≠0→b≠bc.1)→w.heap[b]?=g.w.heap[b]?)
  (hR:Le g (g.app n m r bc w)→A4q (g.app n m r bc w) m r) :
  P6 (g.app n m r bc w)∧Le g (g.app n m r bc w):=by
 have hmn:m≠n:=fun h=>by rw[h,hn]at hm;cases hm
 have live:∀ k q,k≠m→(g.app n m r bc w).M k=some (some q)→k≠n∧g.M k=some (some q):=fun k q hk h=>by
  by_cases hkn:k=n
  ·subst hkn;simp[G.app,hk]at h
  ·exact⟨hkn,by simpa[G.app,hk,hkn]using h⟩
 have hβ:∀ k,k≠m→(g.app n m r bc w).β k=g.β k:=fun k hk=>by simp[G.app,hk]
 have hβm:(g.app n m r bc w).β m=bc:=by simp[G.app]
 have hne:∀ k q,k≠n→g.M k=some (some q)→(g.β k).2≠0→bc.2≠0→(g.β k).1≠bc.1:=fun k q hk hq h0 hb0 he=>by
  rcases hbc with hb | ⟨hb,hn0⟩ | hb
  ·exact hb0 hb
  ·exact hk (hg.inj k n q r0 hq hn h0 hn0 (he.trans hb))
  ·have:=(hg.rows k q hq).lt h0;omega
 have hle:Le g (g.app n m r bc w):=by
  refine⟨fun k hk=>?_,hsize,hos,htape,hout,fun b hb hnl=>hfr b hb fun hb0 e=>?_,fun b hb=>hb,fun b _ hb => .inl hb,fun k q hq h0 hlt=>?_⟩
  ·have hkm:k≠m:=fun e=>hk (e▸hm);refine⟨?_,hβ k hkm⟩;by_cases hkn:k=n
   ·subst hkn;simp[G.app,hkm]
   ·simpa[G.app,hkm,hkn]using hk
  ·rcases hbc with h | ⟨h,hn0⟩ | h
   ·exact hb0 h
   ·exact hnl n r0 hn hn0 (by rw[← h,← e])
   ·omega
  ·by_cases hkm:k=m
   ·subst hkm;rw[hβm]at hlt h0 ⊢;rcases hbc with h | ⟨h,hn0⟩ | h
    ·exact absurd h h0
    ·rw[h];exact fun hh=>hh n r0 hn hn0 rfl
    ·omega
   ·rw[hβ k hkm]at h0 ⊢;exact fun hh=>hh k q (live k q hkm hq).2 h0 rfl
 refine⟨⟨fun k q hk=>?_,fun k j q q' hk hj hk0 hj0 he=>?_,fun b hb=>bq (hg.kd b hb) hsize,fun b hb k q hk h0=>?_⟩,hle⟩
 ·by_cases hkm:k=m
  ·subst hkm;simp only[G.app,if_true,aK]at hk;subst hk;exact hR hle
  ·obtain⟨hkn,hk'⟩:=live k q hkm hk;exact(hg.rows k q hk').keep hg hle (hβ k hkm) fun h0=>(hfr _ ((hg.rows k q hk').lt h0) (hne k q hkn hk' h0))
 ·by_cases hkm:k=m<;>by_cases hjm:j=m
  ·rw[hkm,hjm]
  ·obtain⟨hjn,hj'⟩:=live j q' hjm hj;rw[hkm,hβm]at he hk0;rw[hβ j hjm]at he hj0;exact absurd he.symm (hne j q' hjn hj' hj0 hk0)
  ·obtain⟨hkn,hk'⟩:=live k q hkm hk;rw[hjm,hβm]at he hj0;rw[hβ k hkm]at he hk0;exact absurd he (hne k q hkn hk' hk0 hj0)
  ·obtain⟨_,hk'⟩:=live k q hkm hk;obtain⟨_,hj'⟩:=live j q' hjm hj;rw[hβ k hkm]at he hk0;rw[hβ j hjm]at he hj0;exact hg.inj k j q q' hk' hj' hk0 hj0 he
 ·by_cases hkm:k=m
  ·subst hkm;rw[hβm]at h0 ⊢;rcases hbc with h | ⟨h,hn0⟩ | h
   ·exact absurd h h0
   ·rw[h];exact hg.kl b hb n r0 hn hn0
   ·have hb':b<g.w.heap.size:=hg.kd b hb;omega
  ·rw[hβ k hkm]at h0 ⊢;exact hg.kl b hb k q (live k q hkm hk).2 h0
theorem B0D {g:G} (hg:P6 g) {n m:Nat} {r0 r:Rw} (hn:g.M n=some (some r0)) (hm:g.M m=none) {bc:Nat × Nat} {w:aO} (hbc:(bc.1=(g.β n).1∧(g.β n).2≠0)∨bc.1=g.w.heap.size)
  (hos:w.os=g.w.os) (htape:w.tape=g.w.tape) (hout:w.output=g.w.output) (hsize:g.w.heap.size≤w.heap.size) (hfr:∀ b,b<g.w.heap.size→b≠bc.1→w.heap[b]?=g.w.heap[b]?)
  {cells:Array al} {e:EF cells.size} (hh:w.heap[bc.1]?=some (.cells cells e.1.1 e.1.2)) (hs0:r.s≠0) (hs:cells.size=bc.2*r.s) (hl:r.els.length≤bc.2)
  (hb0:bc.2≠0) (hc:∀ (i:Nat) (x:T),r.els[i]?=some x→x.cells.length=r.s∧∀ (j:Nat) (y:T),x.cells[j]?=some y→∃ c,cells[i*r.s+j]?=some c∧VT g y c) :
  P6 (g.app n m r bc w)∧Le g (g.app n m r bc w):=by
 have hβm:(g.app n m r bc w).β m=bc:=by simp[G.app]
 refine B1N hg hn hm (.inr hbc) hos htape hout hsize (fun b hb h=>hfr b hb (h hb0)) fun hle => .inr (.inl ⟨hs0,cells,e,by rw[hβm];exact hh,by rw[hβm];exact hs,by rw[hβm];exact hl,fun i x hx=>⟨(hc i x hx).1,fun j y hy=>?_⟩⟩);obtain⟨c,h1,h2⟩:=(hc i x hx).2 j y hy;exact⟨c,h1,h2.mono hg hle⟩
theorem B3S {g:G} {l:List T} {vs:List al} (h:VTs g (A4S l) vs) (h1:A3f l=true):∀ v∈vs,v.oneCell'=true:=fun v hv=>by
 obtain⟨k,hk⟩:=cB hv;have hlt:=(gS hk).1;rw[← h.1]at hlt;have hf:(A4S l)[k]?=some (A4S l)[k]:=gE hlt;refine(h.2 k _ v hf hk).one ?_;have hm:(A4S l)[k]∈A4S l:=aj hlt;unfold A4S at hm;rw[List.mem_flatMap]at hm;obtain⟨x,hx,hy⟩:=hm;exact B0z h1 hx _ hy
theorem A7M {vs:List al} {cells:Array al} (h:cells.toList.take vs.length=vs):∀ (k:Nat) (c:al),vs[k]?=some c→cells[k]?=some c:=fun k c hk=>by
 rw[← h,bo]at hk;split at hk
 ·simpa using hk
 ·cases hk
theorem B3T {t e:ab} {i ei:TI} {x y:aa} {u:T} {l:List T} {n s len:Nat} {r:Rw} {rn:List (Nat × Rw)} (hop:o.op = .call { callee := .builtin .append,args:=#[x,y],argTypes:=#[t,t] }) (ht:TOk P t i) (hsl:i.sl=some e) (he:TOk P e ei)
  (hz':ei.size=s) (hu:B8k u l s rn) (hm:(n,r)∈rn) (hs':r.s=s) (hlen':r.els.length=len) (h1:A3f l=true) (h63:len+l.length≤9223372036854775807) (hb:(len+l.length)*ei.bytes≤140737488355328) (hnf:n≠fresh) :
  OpS P o [(x,.row n s 0 len),(y,u)] rn [(n,none)] fresh [⟨s,r.els++l⟩] (.row fresh s 0 (len+l.length)) :=
 .of_run (fun c h=>by rw[hop]at h;cases h) fun g a hg hi hr hn=>by
  subst hz' hlen';obtain⟨info,zv,hinf,hz,hsz,hby,hzs,_⟩:=he.info;have hn0:=hn 0 sM;rw[bj]at hn0;have hx:=hi (x,.row n ei.size 0 r.els.length) sM;have hy:=hi (y,u) sM;have hnM:=hr (n,r) hm;dsimp only at hx hy hnM;generalize hxv:a.eval x=xv at hx;cases hx with | row _ _ _ _ a0 hnn hs0 hcap ha =>
  rw[aZ]at hcap;rw[aP]at hxv;rw[da]at ha;have hrs0:r.s≠0:=by rw[hs'];exact hs0
  obtain⟨A,cap,vs,hv,hs,hvs,hrd⟩:=B41 hg hy hu hr;have hlen:vs.length=l.length*ei.size:=by rw[← hvs.1,A7B hs]
  by_cases hc0:(g.β n).2=0
  · -- nothing is there
   have hr0:r.els=[]:=bV.1 oM;rw[hc0,hr0,ct]at hxv;rw[hr0,cf,ct,aZ];rw[hr0,ct,aZ]at h63 hb;have hupd:=B6g g.M n fresh ⟨ei.size,l⟩ (fun h=>hnf h.symm);by_cases h0:0<l.length
   ·obtain⟨ad,rfl,hrda⟩:=hrd h0;have hge:=grownCap_ge g.w l.length 0 e;have hrun:(Builtin.append_ #[t,t] o.type #[.slice a0 0 0,a.eval y]).run P g.w = .ok (.slice (some ⟨g.w.heap.size,0,none⟩) l.length (grownCap g.w l.length 0 e)) (g.w.drew.alloc (.cells (vs.toArray++Builtin.zeroCells zv.cells (grownCap g.w l.length 0 e-l.length)) e)):=by
     rw[hv];cases a0 with
     | none=>exact run_append_nil (P:=P) g.w t o.type e info zv (ht.slice hsl) hinf hz ad l.length cap vs (by rw[hlen,hsz]) hrda h0 oM (by rw[hby];omega)
     | some a1 =>
      have:=run_append_grow (P:=P) g.w t o.type e info zv (ht.slice hsl) hinf hz a1 0 0 [] sM (fun j v hj=>by simp at hj) ad l.length cap vs (by rw[hlen,hsz]) hrda oM oM (by rw[hby];exact growslice_fits oM (by simpa using hb));simpa using this
    obtain⟨hG,hL⟩:=B0D hg hnM hn0 (r:=⟨ei.size,l⟩) (bc:=(g.w.heap.size,grownCap g.w l.length 0 e)) (e:=EF.z e)
     (w:=g.w.drew.alloc (.cells (vs.toArray++Builtin.zeroCells zv.cells (grownCap g.w l.length 0 e-l.length)) e))
     (.inr rfl) rfl rfl rfl sM (fun b hb _=>by
      show(g.w.heap.push _)[b]?=_;rw[bS,if_neg oM])
     (heap_alloc_new g.w.drew _) hs0 (by
      simp only[er,cZ,size_zeroCells,hlen,hzs,← bv];congr 1;omega) hge oM (A4I hs hvs (A7M sM))
    refine⟨.slice (some ⟨g.w.heap.size,0,none⟩) l.length (grownCap g.w l.length 0 e),_,.inl ?_,hG,hL,hupd,?_⟩
    ·simp[aT,hop,resolve,invoke,builtin,hxv,hrun,G.app]
    ·have:=VT.row (g:=g.app n fresh ⟨ei.size,l⟩ (g.w.heap.size,grownCap g.w l.length 0 e) (g.w.drew.alloc (.cells (vs.toArray++Builtin.zeroCells zv.cells (grownCap g.w l.length 0 e-l.length)) e))) fresh ei.size 0 l.length (some ⟨g.w.heap.size,0,none⟩) (by simp[G.app]) hs0 (by simpa[G.app]using hge) (fun _=>by simp[G.app]);simpa[G.app]using this
   ·have hl0:l=[]:=bE oM;subst hl0;have hvs0:vs=[]:=bE (by simpa using hlen);subst hvs0;have hrun:(Builtin.append_ #[t,t] o.type #[.slice a0 0 0,a.eval y]).run P g.w = .ok (.slice a0 0 0) g.w:=by
     cases A<;>cases a0<;>simp[Builtin.append_,aV (ht.slice hsl),sizeOf,bT,hinf,Builtin.lenOf,hv,Builtin.firstCells,loadCells,loadCellsFrom,ef]
    obtain⟨hG,hL⟩:=B1N hg hnM hn0 (r:=⟨ei.size,[]⟩) (bc:=(0,0)) (w:=g.w) (.inl rfl) rfl rfl rfl (aw _) (fun _ _ _=>rfl) fun _ => .inl ⟨by simp[G.app],rfl,hs0⟩;refine⟨.slice a0 0 0,_,.inl ?_,hG,hL,hupd,?_⟩
    ·simp[aT,hop,resolve,invoke,builtin,hxv,hrun,G.app]
    ·have:=VT.row (g:=g.app n fresh ⟨ei.size,[]⟩ (0,0) g.w) fresh ei.size 0 0 a0 (by simp[G.app]) hs0 (by simp[G.app]) (fun h=>by simp[G.app]at h);simpa[G.app]using this
  have ha:=ha hc0;subst ha;obtain⟨cells,ety,hh,hcz,_,hrow⟩:B7i g n r:=by
   rcases hg.rows n r hnM with⟨h1,_⟩ | ⟨_,h1⟩ | ⟨h1,_⟩
   ·exact absurd h1 hc0
   ·exact h1
   ·exact absurd h1 hrs0
  rw[hs']at hcz hrow;have hes:∀ x∈r.els,x.cells.length=ei.size:=fun x hx=>by
   obtain⟨j,hj⟩:=cB hx;exact(hrow j x hj).1
  have hall:∀ x∈r.els++l,x.cells.length=ei.size:=fun x hx=>by
   rcases bP.1 hx with h | h
   ·exact hes x h
   ·exact hs x h
  obtain⟨olds,ho1,ho2⟩:=A5P (g:=g) (A4S r.els) (fun k c=>cells[k]?=some c) (fun k z hz=>by
   obtain⟨i',j',w',rfl,hw',hz'⟩:=A8X hes hz;exact(hrow i' w' hw').2 j' z hz')
  have holen:olds.length=r.els.length*ei.size:=by rw[← ho1.1,A7B hes]
  have hflat:VTs g (A4S (r.els++l)) (olds++vs):=by
   unfold A4S;rw[List.flatMap_append];exact ho1.append hvs
  have htake:cells.toList.take (r.els.length*ei.size)=olds:=by
   apply List.ext_getElem?;intro k;rw[bo];by_cases hk:k<r.els.length*ei.size
   ·rw[if_pos hk];have hk':k<olds.length:=by omega
    have:=ho2 k olds[k] (gE hk');rw[gE hk'];simpa using this
   ·rw[if_neg hk,aD oM]
  have hupd:=B6g g.M n fresh ⟨ei.size,r.els++l⟩ (fun h=>hnf h.symm);by_cases hroom:r.els.length+l.length≤(g.β n).2
  · -- there is room
   obtain⟨cells',hcells'⟩:∃ c:Array al,(cells.toList.take (r.els.length*ei.size)++vs++cells.toList.drop (r.els.length*ei.size+vs.length)).toArray=c:=⟨_,rfl⟩;have hle:=bQ ei.size hroom;rw[bv]at hle;have hrun:(Builtin.append_ #[t,t] o.type #[.slice (some ⟨(g.β n).1,0,none⟩) r.els.length (g.β n).2,a.eval y]).run P g.w = .ok (.slice (some ⟨(g.β n).1,0,none⟩) (r.els.length+l.length) (g.β n).2) (g.w.setRow (g.β n).1 cells'):=by
    have hfc:(Builtin.firstCells ei.size l.length (.slice A l.length cap)).run P g.w = .ok vs.toArray g.w:=by
     by_cases h0:0<l.length
     ·obtain⟨ad,rfl,hrda⟩:=hrd h0;exact run_firstCells_some g.w ei.size l.length ad l.length cap vs hlen hrda
     ·have hl0:l=[]:=bE oM;subst hl0;have:vs=[]:=bE (by simpa using hlen);subst this;cases A<;>simp[Builtin.firstCells,loadCells,loadCellsFrom]
    have hst:=C73 (P:=P) (g.β n).1 (r.els.length*ei.size) ety vs 0 cells g.w rfl hh (by rw[bj,hlen,hcz];exact hle) (B3S hvs h1);rw[bj,hcells']at hst;simp[Builtin.append_,aV (ht.slice hsl),sizeOf,bT,hinf,hsz,Builtin.lenOf,hroom,hv,hfc,A5y,hst]
   obtain⟨hG,hL⟩:=B0D hg hnM hn0 (r:=⟨ei.size,r.els++l⟩) (bc:=g.β n) (e:=ety.to (m:=cells'.size) (by rw[← hcells'];simp;rw[hlen,hcz];omega)) (w:=g.w.setRow (g.β n).1 cells') (.inl ⟨rfl,hc0⟩) rfl rfl rfl sM (fun b _ hb=>setRow_other _ _ _ _ hb)
    (setRow_heap _ _ _ _ _ _ hh) hs0 (by rw[← hcells'];simp;rw[hlen,hcz];omega) (by simpa using hroom) hc0
    (A4I hall hflat (A7M (by
     rw[← hcells',htake];simp only[bI];rw[← bI,dP])))
   refine⟨.slice (some ⟨(g.β n).1,0,none⟩) (r.els.length+l.length) (g.β n).2,_,.inl ?_,hG,hL,hupd,?_⟩
   ·simp[aT,hop,resolve,invoke,builtin,hxv,hrun,G.app]
   ·have:=VT.row (g:=g.app n fresh ⟨ei.size,r.els++l⟩ (g.β n) (g.w.setRow (g.β n).1 cells')) fresh ei.size 0 (r.els.length+l.length) (some ⟨(g.β n).1,0,none⟩) (by simp[G.app]) hs0 (by simpa[G.app]using hroom) (fun _=>by simp[G.app]);simpa[G.app]using this
  · -- a new block
   have h0:0<l.length:=by omega
   obtain⟨ad,rfl,hrda⟩:=hrd h0
   have hrun:=run_append_grow (P:=P) g.w t o.type e info zv (ht.slice hsl) hinf hz ⟨(g.β n).1,0,none⟩ r.els.length (g.β n).2 olds (by rw[holen,hsz]) (fun j v hj=>by
     rw[A5y,aZ];have:=ho2 j v hj;simp[World.cell?,hh,this]) ad l.length cap vs (by rw[hlen,hsz]) hrda oM oM (by rw[hby];exact growslice_fits oM hb)
   have hge:=grownCap_ge g.w (r.els.length+l.length) (g.β n).2 e;have hsz2:(olds.toArray++vs.toArray++Builtin.zeroCells zv.cells (grownCap g.w (r.els.length+l.length) (g.β n).2 e-(r.els.length+l.length))).size=grownCap g.w (r.els.length+l.length) (g.β n).2 e*ei.size:=by
    simp only[er,cZ,size_zeroCells,hlen,holen,hzs,← bv];congr 1;omega
   obtain⟨hG,hL⟩:=B0D hg hnM hn0 (r:=⟨ei.size,r.els++l⟩) (bc:=(g.w.heap.size,grownCap g.w (r.els.length+l.length) (g.β n).2 e)) (e:=EF.z e)
    (w:=g.w.drew.alloc (.cells (olds.toArray++vs.toArray++Builtin.zeroCells zv.cells (grownCap g.w (r.els.length+l.length) (g.β n).2 e-(r.els.length+l.length))) e))
    (.inr rfl) rfl rfl rfl sM (fun b hb _=>by
     show(g.w.heap.push _)[b]?=_;rw[bS,if_neg oM])
    (heap_alloc_new g.w.drew _) hs0 hsz2 (by simpa using hge) (by dsimp only;omega)
    (A4I hall hflat (A7M (by
     simp only[Array.toList_append,bI];rw[← bI,dP])))
   refine⟨.slice (some ⟨g.w.heap.size,0,none⟩) (r.els.length+l.length) (grownCap g.w (r.els.length+l.length) (g.β n).2 e),_,.inl ?_,hG,hL,hupd,?_⟩
   ·simp[aT,hop,resolve,invoke,builtin,hxv,hv,hrun,G.app]
   ·have:=VT.row (g:=g.app n fresh ⟨ei.size,r.els++l⟩ (g.w.heap.size,grownCap g.w (r.els.length+l.length) (g.β n).2 e) (g.w.drew.alloc (.cells (olds.toArray++vs.toArray++Builtin.zeroCells zv.cells (grownCap g.w (r.els.length+l.length) (g.β n).2 e-(r.els.length+l.length))) e))) fresh ei.size 0 (r.els.length+l.length) (some ⟨g.w.heap.size,0,none⟩) (by simp[G.app]) hs0 (by simpa[G.app]using hge) (fun _=>by simp[G.app]);simpa[G.app]using this
section
variable {F:Fence} {n:Nat} {P:ah} {md:Region.Mode} {ops:Array Oper} {Q:Exit→Act→aO→Prop}
theorem B2A {listed:Array Bool} {i:Nat} (h:listed.getD i true=false):(listed.setIfInBounds i true).toList.count false+1=listed.toList.count false:=by
 have hi:i<listed.toList.length:=by
  rw[br];rcases bX i listed.size with h' | h'
  ·exact h'
  ·simp[bH,dl.2 h']at h
 have hv:listed.toList[i]=false:=by
  rw[br]at hi;simpa[bH,hi]using h
 rw[cE,List.count_set hi,hv];have:0<listed.toList.count false:=List.count_pos_iff.2 (hv▸aj hi);rw[if_pos (show(false==false)=true from rfl),if_neg (show ¬ (true==false)=true by decide)];omega
theorem A9X {listed:Array Bool} {i:Nat} (h:i∈Region.ready md ops listed):(listed.setIfInBounds i true).toList.count false+1=listed.toList.count false :=
 B2A (mem_ready.1 h).1
theorem B0j (Inv:Array Bool→Act→aO→Prop)
 (hstep:∀ listed a w i,Inv listed a w→i∈Region.ready md ops listed→wpOpIn F n P ops Q i (Inv (listed.setIfInBounds i true)) a w)
 (hend:∀ listed a w,Region.ready md ops listed=[]→Inv listed a w→Q .normal a w) :
 ∀ (fuel:Nat) (listed:Array Bool) (a:Act) (w:aO),listed.toList.count false≤fuel→Inv listed a w→wpAnyIn F n P md ops Q fuel listed a w
 | 0,listed,a,w,hc,h=>by
   have hr:Region.ready md ops listed=[]:=by
    rw[List.eq_nil_iff_forall_not_mem];intro i hi;have:=A9X hi;omega
   exact⟨hr,hend _ _ _ hr h⟩
 | fuel+1,listed,a,w,hc,h =>
   ⟨fun hr=>hend _ _ _ hr h,fun i hi=>wpOpIn_mono (fun a' w' h'=>B0j Inv hstep hend fuel _ a' w' (by have:=A9X hi;omega) h') (hstep listed a w i h hi)⟩
def A71 (md:Region.Mode) (ops:Array Oper) (listed:Array Bool):Prop :=
 ∀ (j:Nat) (o:Oper),ops[j]?=some o→listed.getD j false=true→∀ e∈o.after,Region.binds md e=true→listed.getD e.on false=true
theorem A5J (m j:Nat):(bt m false).getD j false=false:=by
 unfold bH;split
 ·simp
 ·rfl
theorem A63 {listed:Array Bool} {i:Nat} (h:listed.getD i true=false) (j:Nat):(listed.setIfInBounds i true).getD j false=if j=i then true else listed.getD j false:=by
 have hi:i<listed.size:=by
  rcases bX i listed.size with h' | h'
  ·exact h'
  ·simp[bH,dl.2 h']at h
 simp only[cb,Array.getElem?_setIfInBounds];by_cases hj:j=i
 ·subst hj;simp[hi]
 ·rw[if_neg hj,if_neg (fun e=>hj e.symm)]
theorem A71.step {listed:Array Bool} {i:Nat} (h:A71 md ops listed) (hi:i∈Region.ready md ops listed):A71 md ops (listed.setIfInBounds i true):=by
 obtain⟨hun,oi,hoi,hall⟩:=mem_ready.1 hi;intro j o ho hj e he hb;rw[A63 hun]at hj ⊢;by_cases hei:e.on=i
 ·rw[if_pos hei]
 ·rw[if_neg hei];by_cases hji:j=i
  ·subst hji;rw[hoi]at ho;injection ho with ho
   subst ho;exact hall e he hb
  ·rw[if_neg hji]at hj;exact h j o ho hj e he hb
theorem B0t {id:Nat} {ops:Array Oper} {a:Act} {w:aO} (hm:P.follows .mixedOrders=true) (Inv:Array Bool→Act→aO→Prop)
 (h0:Inv (bt ops.size false) a w.drew)
 (hstep:∀ listed a w i,A71 .any ops listed→Inv listed a w→i∈Region.ready .any ops listed→wpOpIn F n P ops Q i (Inv (listed.setIfInBounds i true)) a w)
 (hend:∀ listed a w,listed.size=ops.size→Region.ready .any ops listed=[]→Inv listed a w→Q .normal a w):(Code.region id ops true).wpIn F n P Q a w :=
 wpIn_region_any hm (B0j (fun listed a w=>listed.size=ops.size∧A71 .any ops listed∧Inv listed a w)
  (fun listed a w i h hi=>wpOpIn_mono (fun a' w' h'=>⟨by rw[Array.size_setIfInBounds];exact h.1,h.2.1.step hi,h'⟩) (hstep listed a w i h.2.1 h.2.2 hi))
  (fun listed a w hr h=>hend listed a w h.1 hr h.2.2) _ _ _ _ (by rw[Array.toList_replicate,List.count_replicate_self];exact aw _)
  ⟨by simp,(fun j o _ hj=>(by rw[A5J]at hj;cases hj):A71 .any ops (bt ops.size false)),h0⟩)
end
structure St where
 ts:LT
 L:LR
def W8:LT→Nat→T
 | [],_ => .bot
 | (j,t)::r,i=>bif aJ i j then t else W8 r i
def O9 (ts:LT):aa→T
 | .tmp t=>W8 ts t
 | .const v=>ofV v
 | .func f => .d (.v (.func (.func f) #[] #[]))
 | .global _ => .bot
def ofL (L:LR):Nat→Option (Option Rw):=fun n=>L[n]?
def A5m (ts:LT):Option Tmp→T→LT
 | some d,v=>(d,v)::ts
 | none,_=>ts
def A4m (L:LR):List (Nat × Option Rw)→LR
 | []=>L
 | p::r=>(A4m L r).set p.1 p.2
theorem A6H (L:LR):∀ wn,(A4m L wn).length=L.length
 | []=>rfl
 | p::r=>by simp[A4m,A6H L r]
def St.eff (st:St) (dst:Option Tmp) (v:T) (wn:List (Nat × Option Rw)) (new:List Rw):St:=⟨A5m st.ts dst v,A4m st.L wn++new.map some⟩
theorem B1w (L:LR):∀ (wn:List (Nat × Option Rw)) (n:Nat),(∀ p∈wn,p.1<L.length)→(A4m L wn)[n]?=match wn.find? (fun p=>p.1==n)with | some p=>some p.2 | none=>L[n]?
 | [],n,_=>rfl
 | p::r,n,h=>by
  simp only[A4m,cc];by_cases hn:p.1=n
  ·subst hn;have:=h p sM;simp[A6H,this]
  ·have h2:(p.1==n)=false:=by simpa using hn
   rw[dp hn,h2];exact B1w L r n fun q hq=>h q (by simp[hq])
theorem B0y (st:St) (dst:Option Tmp) (v:T) (wn:List (Nat × Option Rw)) (new:List Rw) (h:∀ p∈wn,p.1<st.L.length):ofL (st.eff dst v wn new).L=upd (ofL st.L) wn st.L.length new:=by
 funext n;simp only[ofL,St.eff,upd];by_cases hn:n<st.L.length
 ·rw[aC (by rw[A6H];exact hn),B1w _ _ _ h];cases wn.find? (fun p=>p.1==n)with
  | some p=>rfl
  | none=>dsimp only;rw[if_neg oM]
 ·rw[aG (by rw[A6H];omega),A6H];have:wn.find? (fun p=>p.1==n)=none:=by
   rw[cG];intro p hp;have:=h p hp;simp;omega
  rw[this];dsimp only;by_cases h2:n<st.L.length+new.length
  ·rw[if_pos ⟨by omega,h2⟩,gM]
  ·rw[if_neg oM,aD (by simp;omega),aD oM]
inductive Stp where
 | run (rl wl:List Nat)
 | skip
def I2 (ops:Array Oper) (ts:LT) (o:Oper):Option Bool:=match o.guard with
 | none=>some true
 | some (g,b)=>match (ops[g]?).bind (·.dst)with
  | some d=>match W8 ts d with
   | .d (.v (.bool c))=>some (c==b)
   | .d (.tup [])=>some false
   | _=>none
  | none=>none
def B3B (N:Nat):Option Tmp→Bool
 | some d=>aq d N
 | none=>true
inductive A7s (P:ah) (N:Nat) (ops:Array Oper) (o:Oper) (st:St):Stp→St→Prop where
 | run {ins:List (aa × T)} {rn:List (Nat × Rw)} {wn:List (Nat × Option Rw)} {new:List Rw} {v:T} (hw:I2 ops st.ts o=some true) (hop:OpS P o ins rn wn st.L.length new v)
   (hi:∀ p∈ins,O9 st.ts p.1=p.2∧p.1∈o.op.operands) (hr:∀ p∈rn,st.L[p.1]?=some (some p.2)) (hwn:∀ p∈wn,∃ q∈rn,q.1=p.1) (hd:B3B N o.dst=true) :
   A7s P N ops o st (.run (rn.map (·.1)++az st.L.length new.length) (wn.map (·.1)++az st.L.length new.length)) (st.eff o.dst v wn new)
 | skip (hw:I2 ops st.ts o=some false) (hd:B3B N o.dst=true):A7s P N ops o st .skip (st.eff o.dst (.d (.tup [])) [] [])
inductive Ev (P:ah) (N:Nat) (ops:Array Oper):List Oper→St→List Stp→St→Prop where
 | nil (st:St):Ev P N ops [] st [] st
 | cons {o:Oper} {l:List Oper} {st st1 st2:St} {s:Stp} {tr:List Stp} (h:A7s P N ops o st s st1) (k:Ev P N ops l st1 tr st2):Ev P N ops (o::l) st (s::tr) st2
structure StR (g:G) (N:Nat) (st:St) (a:Act) (df:List bp):Prop where
 good:P6 g
 M:g.M=ofL st.L
 size:a.tmps.size=N
 ts:∀ i,VT g (W8 st.ts i) (a.tmps.getD i undef)
 df:a.defers=df
theorem A4G {g:G} {ts:LT} {a:Act} (h:∀ i,VT g (W8 ts i) (a.tmps.getD i undef)) (x:aa):VT g (O9 ts x) (a.eval x):=by
 cases x with
 | tmp t=>exact h t
 | const v=>exact VT.ofV g v
 | func f=>exact .d (.v _ rfl)
 | global=>exact .bot _
theorem A0W {g:G} {ops:Array Oper} {ts:LT} {a:Act} {o:Oper} {b:Bool} (hw:I2 ops ts o=some b)
  (h:∀ d,(∃ k c,o.guard=some (k,c)∧(ops[k]?).bind (·.dst)=some d)→VT g (W8 ts d) (a.tmps.getD d undef)):Region.wanted o (yielded ops a.tmps)=b:=by
 unfold I2 at hw;unfold Region.wanted;cases hg:o.guard with
 | none=>rw[hg]at hw;simpa using hw
 | some p =>
  obtain⟨k,c⟩:=p;rw[hg]at hw;dsimp only at hw ⊢;cases hd:(ops[k]?).bind (·.dst)with
  | none=>rw[hd]at hw;cases hw
  | some d =>
   rw[hd]at hw;dsimp only at hw;have hv:=h d ⟨k,c,hg,hd⟩;generalize ht:W8 ts d=t at hw hv;split at hw
   ·rename_i x;have e:=hv.v_eq;injection hw with hw
    have hy:yielded ops a.tmps k=some x:=by
     unfold yielded;rw[hd,dy];have hlt:d<a.tmps.size:=by
      rcases bX d a.tmps.size with h | h
      ·exact h
      ·exfalso;simp[bH,dl.2 h,undef]at e
     simp[bH,hlt]at e;rw[aE hlt,e]
    rw[hy,← hw];cases x<;>cases c<;>rfl
   ·injection hw with hw
    subst hw;cases hv with | d hv =>
    generalize hcv:a.tmps.getD d undef=cv at hv;cases hv with | tup _ cs hl _ =>
    have hy:yielded ops a.tmps k=none:=by
     unfold yielded;rw[hd,dy];rcases bX d a.tmps.size with h | h
     ·simp[bH,h]at hcv;rw[aE h,hcv]
     ·rw[Array.getElem?_eq_none h]
    rw[hy];rfl
   ·cases hw
theorem A2M {ts:LT} {dst:Option Tmp} {v:T} (i:Nat):W8 (A5m ts dst v) i=if dst=some i then v else W8 ts i:=by
 cases dst with
 | none=>simp[A5m]
 | some d =>
  simp only[A5m,W8,aK];by_cases h:d=i
  ·subst h;simp
  ·have:aJ i d=false:=by
    cases hb:aJ i d with
    | false=>rfl
    | true=>exact absurd (aA hb).symm h
   simp[this,h]
theorem A5b {a:Act} {dst:Option Tmp} {c:al} {N:Nat} (hs:a.tmps.size=N) (hd:B3B N dst=true) (i:Nat):(a.put dst c).tmps.getD i undef=if dst=some i then c else a.tmps.getD i undef:=by
 cases dst with
 | none=>simp[Act.put]
 | some d =>
  have hlt:d<a.tmps.size:=by rw[hs];simpa[B3B,bG]using hd
  simp only[Act.put,aK];by_cases h:d=i
  ·subst h;simp[bH,hlt]
  ·simp only[h,if_false,cb,Array.getElem?_setIfInBounds_ne h]
theorem A5c (a:Act) (dst:Option Tmp) (c:al):(a.put dst c).tmps.size=a.tmps.size:=by cases dst<;>simp[Act.put]
theorem A3h (a:Act) (dst:Option Tmp) (c:al):(a.put dst c).defers=a.defers:=by cases dst<;>rfl
theorem B6x {g:G} (h:P6 g):P6 { g with w:=g.w.drew }∧Le g { g with w:=g.w.drew } :=
 have hle:Le g { g with w:=g.w.drew }:=⟨fun _ h=>⟨h,rfl⟩,aw _,rfl,rfl,rfl,fun _ _ _=>rfl,fun _ h=>h,fun _ _ h => .inl h,fun n r h h0 _ hn=>hn n r h h0 rfl⟩
 ⟨⟨fun n r hr=>(h.rows n r hr).keep h hle rfl fun _=>rfl,h.inj,h.kd,h.kl⟩,hle⟩
theorem A7s.sound {P:ah} {F:Fence} {nn N:Nat} {ops:Array Oper} {Q:Exit→Act→aO→Prop} {o:Oper} {st st1:St} {s:Stp} (hF:Wd F) (h:A7s P N ops o st s st1) {g:G} {a:Act} {df:List bp} (hR:StR g N st a df)
  {i:Nat} (ho:ops[i]?=some o) {K:Act→aO→Prop} (k:∀ g' a',Le g g'→StR g' N st1 a' df→K a' g'.w):wpOpIn F nn P ops Q i K a g.w:=by
 unfold wpOpIn;simp only[ho];cases h with
 | run hw hop hi hr hwn hd =>
  rename_i ins rn wn new v;rw[A0W hw fun d _=>hR.ts d];simp only[if_true];refine hop F nn hF g a hR.good (fun p hp=>(hi p hp).1▸A4G hR.ts p.1) (fun p hp=>by rw[hR.M];exact hr p hp) (fun k hk=>by rw[hR.M];exact aD oM) _ _ fun g' c h1 h2 h3 h4=>?_;refine k g' _ h2 ⟨h1,?_,by rw[A5c];exact hR.size,fun j=>?_,by rw[A3h];exact hR.df⟩
  ·rw[h3,hR.M,B0y];intro p hp;obtain⟨q,hq,he⟩:=hwn p hp;have:=hr q hq;rw[← he];exact(gS this).1
  ·rw[A5b hR.size hd];simp only[St.eff,A2M];split
   ·exact h4
   ·exact(hR.ts j).mono hR.good h2
 | skip hw hd =>
  rw[A0W hw fun d _=>hR.ts d];simp only[bR,if_false];refine⟨fun f _=>hF.fn f,k g _ (.refl g) ⟨hR.good,?_,by rw[A5c];exact hR.size,fun j=>?_,by rw[A3h];exact hR.df⟩⟩
  ·rw[hR.M];simp[St.eff,A4m]
  ·rw[A5b hR.size hd];simp only[St.eff,A2M];split
   ·exact .d (.tup [] #[] rfl fun i d c h=>by simp at h)
   ·exact hR.ts j
theorem B4p {P:ah} {F:Fence} {nn N:Nat} {id:Nat} {ops:Array Oper} {Q:Exit→Act→aO→Prop} {st st':St} {tr:List Stp} (hF:Wd F) (hev:Ev P N ops ops.toList st tr st') {g:G} {a:Act} {df:List bp} (hR:StR g N st a df)
  (hQ:∀ g' a',Le g g'→StR g' N st' a' df→Q .normal a' g'.w):(Code.region id ops false).wpIn F nn P Q a g.w:=by
 refine wpIn_region ?_;have key:∀ (l:List Oper) (st:St) (tr:List Stp) (st2:St),Ev P N ops l st tr st2→(∀ g' a',Le g g'→StR g' N st2 a' df→Q .normal a' g'.w)→∀ (k:Nat) (g1:G) (a:Act),ops.toList.drop k=l→Le g g1→StR g1 N st a df→wpOpsIn F nn P ops Q (az k l.length) a g1.w:=by
  clear hQ hR hev;intro l st tr st2 h;induction h with
  | nil st=>intro hQ k g1 a _ hl hR;exact hQ g1 a hl hR
  | cons hs hev ih =>
   rename_i o l st1 st2' st3 s tr;intro hQ k g1 a hk hl hR;have hlt:k<ops.toList.length:=by
    rcases bX k ops.toList.length with h | h
    ·exact h
    ·rw[dc h]at hk;cases hk
   rw[cK hlt]at hk;injection hk with h1 h2
   rw[cj,List.range'_succ,wpOpsIn_cons];exact hs.sound hF hR (by rw[← h1];simp[aE (by simpa using hlt:k<ops.size)]) fun g' a' h3 h4=>ih hQ (k+1) g' a' h2 (hl.trans h3) h4
 have:=key ops.toList st tr st' hev hQ 0 g a sM (.refl g) hR
 rwa [br,← List.range_eq_range']at this
section
variable {ops:Array Oper}
def A9c (ops:Array Oper):Bool:=(dh ops.size).all fun j=>match ops[j]? with | some o=>o.after.all (fun e=>!Region.binds .any e||decide (e.on<j)) | none=>true
theorem B30 {listed:Array Bool} (hl:A9c ops=true) (hs:listed.size=ops.size) (hr:Region.ready .any ops listed=[]):∀ j,j<ops.size→listed.getD j false=true:=by
 intro j;induction j using eI with
 | _ j ih =>
   intro hj;unfold A9c at hl;rw[ax]at hl;have h1:=hl j (cQ.2 hj);have ho:ops[j]?=some ops[j]:=aE hj;rw[ho]at h1;dsimp only at h1;rw[dt]at h1;cases hh:listed.getD j false with
   | true=>rfl
   | false =>
     have hm:j∈Region.ready .any ops listed:=mem_ready.2 ⟨by
      have hj':j<listed.size:=by omega
      simpa[bH,hj']using hh,_,ho,fun e he hb=>by
       have h2:=h1 e he;rw[hb,dA,bu]at h2;have:=of_decide_eq_true h2;exact ih _ this oM⟩
     rw[hr]at hm;cases hm
end
inductive Anc (ops:Array Oper):Nat→Nat→Prop where
 | one {k:Nat} {o:Oper} {e:Edge} (ho:ops[k]?=some o) (he:e∈o.after) (hb:Region.binds .any e=true):Anc ops k e.on
 | far {k j:Nat} {o:Oper} {e:Edge} (ho:ops[k]?=some o) (he:e∈o.after) (hb:Region.binds .any e=true) (h:Anc ops e.on j):Anc ops k j
theorem Anc.listed {ops:Array Oper} {listed:Array Bool} (hc:A71 .any ops listed) {k j:Nat} (h:Anc ops k j) (hk:listed.getD k false=true):listed.getD j false=true:=by
 induction h with
 | one ho he hb=>exact hc _ _ ho hk _ he hb
 | far ho he hb _ ih=>exact ih (hc _ _ ho hk _ he hb)
theorem Anc.ready {ops:Array Oper} {listed:Array Bool} (hc:A71 .any ops listed) {k j:Nat} (h:Anc ops k j) (hk:k∈Region.ready .any ops listed):listed.getD j false=true:=by
 obtain⟨_,o,ho,hall⟩:=mem_ready.1 hk;cases h with
 | one ho' he hb=>rw[ho]at ho';injection ho' with ho';subst ho';exact hall _ he hb
 | far ho' he hb h=>rw[ho]at ho';injection ho' with ho';subst ho';exact h.listed hc (hall _ he hb)
def B7F (acc:List Nat) (s:Nat) (e:Edge):Nat:=bif Region.binds .any e then s ||| 2^e.on ||| acc.getD e.on 0 else s
def B7G (acc:List Nat) (o:Oper):Nat:=o.after.toList.foldl (B7F acc) 0
def B5J:List Oper→List Nat→List Nat
 | [],acc=>acc
 | o::r,acc=>B5J r (acc++[B7G acc o])
theorem B0T (acc:List Nat) (j:Nat):∀ (l:List Edge) (s:Nat),(l.foldl (B7F acc) s).testBit j=true→s.testBit j=true∨∃ e∈l,Region.binds .any e=true∧(e.on=j∨(acc.getD e.on 0).testBit j=true)
 | [],s,h => .inl h
 | e::l,s,h=>by
  rcases B0T acc j l _ h with h | ⟨e',he',h'⟩
  ·unfold B7F at h;cases hb:Region.binds .any e with
   | false=>rw[hb]at h;exact .inl h
   | true =>
    rw[hb,cond_true,eQ,eQ,cd,cd]at h;rcases h with(h | h) | h
    ·exact .inl h
    ·rw[Nat.testBit_two_pow]at h;exact .inr ⟨e,by simp,hb,.inl (by simpa using h)⟩
    ·exact .inr ⟨e,by simp,hb,.inr h⟩
  ·exact .inr ⟨e',by simp[he'],h'⟩
theorem A88 (ops:Array Oper):∀ (l:List Oper) (acc:List Nat),ops.toList.drop acc.length=l→(∀ k j,(acc.getD k 0).testBit j=true→Anc ops k j)→∀ k j,((B5J l acc).getD k 0).testBit j=true→Anc ops k j
 | [],acc,_,h=>h
 | o::l,acc,hd,h=>by
  have hlt:acc.length<ops.toList.length:=by
   rcases bX acc.length ops.toList.length with h | h
   ·exact h
   ·rw[dc h]at hd;cases hd
  rw[cK hlt]at hd;injection hd with h1 h2
  refine A88 ops l (acc++[B7G acc o]) (by simpa using h2) fun k j hk=>?_;by_cases hkl:k<acc.length
  ·refine h k j ?_;rw[am,aC hkl,← am]at hk;exact hk
  ·by_cases hke:k=acc.length
   ·subst hke;rw[am,aG (aw _),Nat.sub_self]at hk;have ho:ops[acc.length]?=some o:=by rw[← h1];simp[aE (by simpa using hlt:acc.length<ops.size)]
    rcases B0T acc j _ _ hk with h' | ⟨e,he,hb,h'⟩
    ·simp at h'
    ·rcases h' with rfl | h'
     ·exact .one ho (by simpa using he) hb
     ·exact .far ho (by simpa using he) hb (h _ _ h')
   ·rw[am,aD (by simp;omega)]at hk;simp at hk
structure CI where
 d:Option Nat
 rs:List Nat
 rl:List Nat
 wl:List Nat
def A52:List aa→List Nat
 | []=>[]
 | .tmp t::l=>t::A52 l
 | _::l=>A52 l
theorem A5h {t:Nat}:∀ {l:List aa},.tmp t∈l→t∈A52 l
 | .tmp u::l,h=>by
  rcases ap.1 h with h | h
  ·injection h with h;subst h;simp[A52]
  ·simp[A52,A5h h]
 | .const _::l,h=>by
  rcases ap.1 h with h | h
  ·cases h
  ·show t∈A52 l;exact A5h h
 | .global _::l,h=>by
  rcases ap.1 h with h | h
  ·cases h
  ·show t∈A52 l;exact A5h h
 | .func _::l,h=>by
  rcases ap.1 h with h | h
  ·cases h
  ·show t∈A52 l;exact A5h h
def B1W (ops:Array Oper) (o:Oper):List Nat:=match o.guard with
 | some (k,_)=>((ops[k]?).bind (·.dst)).toList
 | none=>[]
def Stp.rl:Stp→List Nat
 | .run rl _=>rl
 | .skip=>[]
def Stp.wl:Stp→List Nat
 | .run _ wl=>wl
 | .skip=>[]
def A4O (ops:Array Oper) (o:Oper) (s:Stp):CI:=⟨o.dst,A52 o.op.operands.toList++B1W ops o,s.rl,s.wl⟩
def B3F (l:List Nat) (n:Nat):Bool:=l.any (aJ n)
theorem B3G {l:List Nat} {n:Nat} (h:n∈l):B3F l n=true:=by
 unfold B3F;rw[dG];exact⟨n,h,dd n⟩
def B89:Option Nat→CI→Bool
 | some d,b=>B3F b.rs d||(match b.d with | some e=>aJ d e | none=>false)
 | none,_=>false
def B0o (a b:CI):Bool:=B89 a.d b||B89 b.d a||a.wl.any (B3F b.rl)||b.wl.any (B3F a.rl)
def B5K (ms:List Nat) (cs:List CI):Bool:=(dh cs.length).all fun k=>(dh k).all fun j=>!B0o (cs.getD j ⟨none,[],[],[]⟩) (cs.getD k ⟨none,[],[],[]⟩)||(ms.getD k 0).testBit j
def B0s (ops:Array Oper) (tr:List Stp):Bool:=B5K (B5J ops.toList []) (eY (A4O ops) ops.toList tr)&&A9c ops
theorem B5L {ops:Array Oper} {tr:List Stp} (h:B0s ops tr=true) {j k:Nat} {oj ok:Oper} {sj sk:Stp} (hj:ops[j]?=some oj) (hk:ops[k]?=some ok) (hsj:tr[j]?=some sj) (hsk:tr[k]?=some sk) (hlt:j<k)
  (hc:B0o (A4O ops oj sj) (A4O ops ok sk)=true):Anc ops k j:=by
 unfold B0s at h;rw[aF]at h;have h1:=h.1;unfold B5K at h1;rw[ax]at h1;have zg:∀ (m:Nat) (o:Oper) (s:Stp),ops[m]?=some o→tr[m]?=some s→(eY (A4O ops) ops.toList tr)[m]?=some (A4O ops o s):=fun m o s ho hs=>by
  rw[List.getElem?_zipWith,bC,ho,hs]
 have hkk:=zg k ok sk hk hsk;have hjj:=zg j oj sj hj hsj;have h2:=h1 k (cQ.2 (gS hkk).1);rw[ax]at h2;have h3:=h2 j (cQ.2 hlt);rw[am,hjj,am,hkk,aR,aR,hc,dA,bu]at h3;exact A88 ops ops.toList [] rfl (fun k j h=>by simp at h) k j h3
theorem Ev.seq {P:ah} {N:Nat} {ops:Array Oper} {l:List Oper} {st st':St} {tr:List Stp} (h:Ev P N ops l st tr st') :
  ∃ σ:Nat→St,σ 0=st∧σ l.length=st'∧∀ (k:Nat) (o:Oper),l[k]?=some o→∃ s,tr[k]?=some s∧A7s P N ops o (σ k) s (σ (k+1)):=by
 induction h with
 | nil st=>exact⟨fun _=>st,rfl,rfl,fun k o h=>by simp at h⟩
 | cons hs hk ih =>
  rename_i o l sta st1 st2 s tr;obtain⟨σ,h0,h1,h2⟩:=ih;refine⟨fun | 0=>sta | k+1=>σ k,rfl,h1,fun k o' ho=>?_⟩;cases k with
  | zero=>simp at ho;subst ho;exact⟨s,rfl,by dsimp only;rw[h0];exact hs⟩
  | succ k=>exact h2 k o' (by simpa using ho)
def A5j {α:Type} (W:Nat→Bool) (c:Nat→α) (x0:α) (S:Nat→Bool):Nat→α
 | 0=>x0
 | m+1=>bif S m&&W m then c m else A5j W c x0 S m
theorem A1p {α:Type} {W:Nat→Bool} {c:Nat→α} {x0:α} {S S':Nat→Bool}:∀ {m:Nat},(∀ k,k<m→W k=true→S k=S' k)→A5j W c x0 S m=A5j W c x0 S' m
 | 0,_=>rfl
 | m+1,h=>by
  have ih:=A1p (W:=W) (c:=c) (x0:=x0) (m:=m) fun k hk=>h k oM;simp only[A5j];cases hw:W m with
  | false=>simp[ih]
  | true=>rw[h m oM hw,ih]
theorem A4p {α:Type} {W:Nat→Bool} {x:Nat→α} {n:Nat} (hW:∀ k,k<n→W k=false→x (k+1)=x k) (i:Nat):∀ {m:Nat},m≤n→A5j W (fun k=>x (k+1)) (x 0) (fun k=>decide (k<i)) m=x (min i m)
 | 0,_=>by simp[A5j]
 | m+1,h=>by
  have ih:=A4p hW i (m:=m) oM;simp only[A5j];by_cases hi:m<i
  ·have e1:min i (m+1)=m+1:=by omega
   have e2:min i m=m:=by omega
   rw[e2]at ih;rw[e1,ih];cases hw:W m with
   | true=>simp[hi]
   | false=>simp[hW m oM hw]
  ·have e1:min i (m+1)=min i m:=by omega
   simp[hi,ih,e1]
theorem B7u {P:ah} {N:Nat} {ops:Array Oper} {o:Oper} {st st1:St} {s:Stp} (h:A7s P N ops o st s st1) {t:Nat} (ht:o.dst≠some t):W8 st1.ts t=W8 st.ts t:=by
 cases h<;>simp[St.eff,A2M,ht]
theorem B7t {P:ah} {N:Nat} {ops:Array Oper} {o:Oper} {st st1:St} {s:Stp} (h:A7s P N ops o st s st1) {n:Nat} (hn:n∉s.wl):ofL st1.L n=ofL st.L n:=by
 cases h with
 | run hw hop hi hr hwn hd =>
  rename_i ins rn wn new v;rw[B0y _ _ _ _ _ fun p hp=>by
   obtain⟨q,hq,he⟩:=hwn p hp;rw[← he];exact(gS (hr q hq)).1]
  simp only[Stp.wl,bP,bZ,cR,not_or]at hn;unfold upd;have:wn.find? (fun p=>p.1==n)=none:=by
   rw[cG];intro p hp he;exact hn.1 ⟨p,hp,by simpa using he⟩
  rw[this];dsimp only;rw[if_neg hn.2]
 | skip hw hd=>simp[St.eff,A4m]
def A9a (ops:Array Oper) (m:Nat):Bool:=(dh m).all fun j=>((B5J ops.toList []).getD m 0).testBit j
theorem A9q {P:ah} {F:Fence} {nn N:Nat} {id:Nat} {ops:Array Oper} {Q:Exit→Act→aO→Prop} {st:St} {tr:List Stp} (hm:P.follows .mixedOrders=true) (hF:Wd F) (σ:Nat→St) (m:Nat) (hmle:m≤ops.size) (h0:σ 0=st)
  (hst:∀ (k:Nat) (o:Oper),k<m→ops[k]?=some o→∃ s,tr[k]?=some s∧A7s P N ops o (σ k) s (σ (k+1))) (hok:B0s ops tr=true) {g:G} {a:Act} {df:List bp} (hR:StR g N st a df)
  (hlast:m=ops.size∨(m+1=ops.size∧A9a ops m=true∧∀ (g':G) (a':Act) (K:Act→aO→Prop),(∀ a w,Q .normal a w→K a w)→Le g g'→StR g' N (σ m) a' df→wpOpIn F nn P ops Q m K a' g'.w))
  (hQ:m=ops.size→∀ g' a',Le g g'→StR g' N (σ m) a' df→Q .normal a' g'.w):(Code.region id ops true).wpIn F nn P Q a g.w:=by
 obtain⟨Ws,hWs⟩:∃ Ws:Nat→Nat→Bool,Ws=fun t k=>match (ops[k]?).bind (·.dst)with | some d=>aJ d t | none=>false:=⟨_,rfl⟩
 obtain⟨Wn,hWn⟩:∃ Wn:Nat→Nat→Bool,Wn=fun n k=>match tr[k]? with | some s=>B3F s.wl n | none=>false:=⟨_,rfl⟩
 have ws_t:∀ {t k o},ops[k]?=some o→(Ws t k=true↔o.dst=some t):=fun {t k o} ho=>by
  rw[hWs];dsimp only;rw[ho,dy];cases hd:o.dst with
  | none=>simp
  | some d=>dsimp only;rw[aK];exact⟨aA,fun h=>h▸dd d⟩
 have wn_t:∀ {n k s},tr[k]?=some s→(Wn n k=true↔n∈s.wl):=fun {n k s} hs=>by
  rw[hWn];dsimp only;rw[hs];unfold B3F;rw[dG];exact⟨fun⟨x,hx,he⟩=>(aA he)▸hx,fun h=>⟨n,h,dd n⟩⟩
 have seqS:∀ t k,k<m→Ws t k=false→W8 (σ (k+1)).ts t=W8 (σ k).ts t:=fun t k hk hw=>by
  have ho:ops[k]?=some (ops[k]'oM):=aE oM;obtain⟨s,_,h⟩:=hst k _ hk ho;exact B7u h fun e=>by rw[(ws_t ho).2 e]at hw;cases hw
 have seqN:∀ n k,k<m→Wn n k=false→ofL (σ (k+1)).L n=ofL (σ k).L n:=fun n k hk hw=>by
  have ho:ops[k]?=some (ops[k]'oM):=aE oM;obtain⟨s,hs,h⟩:=hst k _ hk ho;exact B7t h fun e=>by rw[(wn_t hs).2 e]at hw;cases hw
 obtain⟨hG0,hL0⟩:=B6x hR.good;refine B0t hm (fun listed a' w'=>(∃ g',g'.w=w'∧P6 g'∧Le g g'∧(∀ n,g'.M n=A5j (Wn n) (fun k=>ofL (σ (k+1)).L n) (ofL (σ 0).L n) (fun k=>listed.getD k false) m) ∧
  a'.tmps.size=N∧(∀ t,VT g' (A5j (Ws t) (fun k=>W8 (σ (k+1)).ts t) (W8 (σ 0).ts t) (fun k=>listed.getD k false) m) (a'.tmps.getD t undef))∧a'.defers=df∧∀ k,m≤k→listed.getD k false=false)∨((∀ k,k<ops.size→listed.getD k false=true)∧Q .normal a' w')) ?_ ?_ ?_
 ·refine .inl ⟨_,rfl,hG0,hL0,fun n=>?_,hR.size,fun t=>?_,hR.df,fun k _=>A5J _ _⟩
  ·show g.M n=_;rw[hR.M,A1p (S':=fun k=>decide (k<0)) (fun k _ _=>(A5J _ _).trans (decide_eq_false (eJ k)).symm),A4p (x:=fun k=>ofL (σ k).L n) (seqN n) 0 (aw _),ff,h0]
  ·rw[A1p (S':=fun k=>decide (k<0)) (fun k _ _=>(A5J _ _).trans (decide_eq_false (eJ k)).symm),A4p (x:=fun k=>W8 (σ k).ts t) (seqS t) 0 (aw _),ff,h0];exact(hR.ts t).mono hR.good hL0
 ·rintro listed a' w' i hcl (⟨g',rfl,hg',hle',hM',hs',hts',hdf',hbey⟩ | ⟨hfull,_⟩) hi
  case inr =>
   obtain⟨hun,o,ho,_⟩:=mem_ready.1 hi;have h1:=hfull i (gA ho).1;have hlt:i<listed.size:=by
    rcases bX i listed.size with h | h
    ·exact h
    ·simp[bH,dl.2 h]at hun
   simp[bH,hlt]at hun h1;rw[hun]at h1;cases h1
  obtain⟨hun,o,ho,hdep⟩:=mem_ready.1 hi;have hios:i<ops.size:=(gA ho).1;by_cases hil:i<m
  case neg =>
   rcases hlast with hlast | ⟨hl1,hl2,hl3⟩
   ·omega
   have him:i=m:=by omega
   subst him;have hall:∀ k,k<i→listed.getD k false=true:=fun k hk=>by
    unfold A9a at hl2;rw[ax]at hl2;exact(A88 ops ops.toList [] rfl (fun k j h=>by simp at h) i k (hl2 k (cQ.2 hk))).ready hcl hi
   refine hl3 g' a' _ (fun a w hq => .inr ⟨fun k hk=>?_,hq⟩) hle' ⟨hg',?_,hs',fun t=>?_,hdf'⟩
   ·rw[A63 hun];by_cases hki:k=i
    ·rw[if_pos hki]
    ·rw[if_neg hki];exact hall k oM
   ·funext n;rw[hM',A1p (S':=fun k=>decide (k<i)) (fun k hk _=>by simp[hall k hk,hk]),A4p (x:=fun k=>ofL (σ k).L n) (seqN n) i (aw _),dE]
   ·have:=hts' t
    rwa [A1p (S':=fun k=>decide (k<i)) (fun k hk _=>by simp[hall k hk,hk]),A4p (x:=fun k=>W8 (σ k).ts t) (seqS t) i (aw _),dE]at this
  have hbey':∀ k,m≤k→(listed.setIfInBounds i true).getD k false=false:=fun k hk=>by
   rw[A63 hun,if_neg oM];exact hbey k hk
  obtain⟨s,hs,hstep⟩:=hst i o hil ho;have hunf:listed.getD i false=false:=by
   have hlt:i<listed.size:=by
    rcases bX i listed.size with h | h
    ·exact h
    ·simp[bH,dl.2 h]at hun
   simp[bH,hlt]at hun ⊢;exact hun
  -- whoever touches what this one writes,or writes what it touches,is ordered
  have ord:∀ (k:Nat) (ok:Oper) (sk:Stp),ops[k]?=some ok→tr[k]?=some sk→k≠i→(B0o (A4O ops ok sk) (A4O ops o s)=true∧B0o (A4O ops o s) (A4O ops ok sk)=true)→listed.getD k false=decide (k<i):=fun k ok sk hk hsk hne hc=>by
   rcases ey hne with h | h
   ·rw[(B5L hok hk ho hsk hs h hc.1).ready hcl hi];simp[h]
   ·have ha:=B5L hok ho hk hs hsk h hc.2;cases hl:listed.getD k false with
    | true=>have:=ha.listed hcl hl;rw[hunf]at this;cases this
    | false => have:¬ k<i:=by omega
               rw[decide_eq_false this]
  have confS:∀ {t:Nat} {ok:Oper} {sk:Stp},ok.dst=some t→(t∈(A4O ops o s).rs∨o.dst=some t)→B0o (A4O ops ok sk) (A4O ops o s)=true∧B0o (A4O ops o s) (A4O ops ok sk)=true:=fun {t ok sk} hk ht=>by
   have hh:B89 (A4O ops ok sk).d (A4O ops o s)=true:=by
    simp only[A4O,hk,B89,cd];rcases ht with ht | ht
    ·exact .inl (B3G ht)
    ·rw[ht];exact .inr (dd t)
   exact⟨by simp[B0o,hh],by simp[B0o,hh]⟩
  have confN:∀ {n:Nat} {ok:Oper} {sk:Stp},n∈sk.wl→n∈s.rl→B0o (A4O ops ok sk) (A4O ops o s)=true∧B0o (A4O ops o s) (A4O ops ok sk)=true:=fun {n ok sk} hk hn=>by
   have hh:(A4O ops ok sk).wl.any (B3F (A4O ops o s).rl)=true:=by
    rw[dG];exact⟨n,hk,B3G hn⟩
   exact⟨by simp[B0o,hh],by simp[B0o,hh]⟩
  have slotNow:∀ t,(t∈(A4O ops o s).rs∨o.dst=some t)→A5j (Ws t) (fun k=>W8 (σ (k+1)).ts t) (W8 (σ 0).ts t) (fun k=>listed.getD k false) m=W8 (σ i).ts t:=fun t ht=>by
   rw[A1p (S':=fun k=>decide (k<i)) (fun k hk hw=>?_),A4p (x:=fun k=>W8 (σ k).ts t) (seqS t) i (aw _),cI oM];have hok':ops[k]?=some (ops[k]'oM):=aE oM;obtain⟨sk,hsk,_⟩:=hst k _ hk hok';by_cases hki:k=i
   ·subst hki;rw[hunf];simp
   ·exact ord k _ sk hok' hsk hki (confS ((ws_t hok').1 hw) ht)
  have nameNow:∀ n,n∈s.rl→A5j (Wn n) (fun k=>ofL (σ (k+1)).L n) (ofL (σ 0).L n) (fun k=>listed.getD k false) m=ofL (σ i).L n:=fun n hn=>by
   rw[A1p (S':=fun k=>decide (k<i)) (fun k hk hw=>?_),A4p (x:=fun k=>ofL (σ k).L n) (seqN n) i (aw _),cI oM];have hok':ops[k]?=some (ops[k]'oM):=aE oM;obtain⟨sk,hsk,_⟩:=hst k _ hk hok';by_cases hki:k=i
   ·subst hki;rw[hunf];simp
   ·exact ord k _ sk hok' hsk hki (confN ((wn_t hsk).1 hw) hn)
  have slotNext:∀ t,o.dst=some t→A5j (Ws t) (fun k=>W8 (σ (k+1)).ts t) (W8 (σ 0).ts t) (fun k=>(listed.setIfInBounds i true).getD k false) m=W8 (σ (i+1)).ts t:=fun t ht=>by
   rw[A1p (S':=fun k=>decide (k<i+1)) (fun k hk hw=>?_),A4p (x:=fun k=>W8 (σ k).ts t) (seqS t) (i+1) (aw _),cI oM];have hok':ops[k]?=some (ops[k]'oM):=aE oM;obtain⟨sk,hsk,_⟩:=hst k _ hk hok';rw[A63 hun];by_cases hki:k=i
   ·subst hki;simp
   ·rw[if_neg hki,ord k _ sk hok' hsk hki (confS ((ws_t hok').1 hw) (.inr ht))];have:(k<i)=(k<i+1):=by simp;omega
    simp[this]
  have nameNext:∀ n,n∈s.wl→n∈s.rl→A5j (Wn n) (fun k=>ofL (σ (k+1)).L n) (ofL (σ 0).L n) (fun k=>(listed.setIfInBounds i true).getD k false) m=ofL (σ (i+1)).L n:=fun n hn hn'=>by
   rw[A1p (S':=fun k=>decide (k<i+1)) (fun k hk hw=>?_),A4p (x:=fun k=>ofL (σ k).L n) (seqN n) (i+1) (aw _),cI oM];have hok':ops[k]?=some (ops[k]'oM):=aE oM;obtain⟨sk,hsk,_⟩:=hst k _ hk hok';rw[A63 hun];by_cases hki:k=i
   ·subst hki;simp
   ·rw[if_neg hki,ord k _ sk hok' hsk hki (confN ((wn_t hsk).1 hw) hn')];have:(k<i)=(k<i+1):=by simp;omega
    simp[this]
  have slotKeep:∀ t,o.dst≠some t→A5j (Ws t) (fun k=>W8 (σ (k+1)).ts t) (W8 (σ 0).ts t) (fun k=>(listed.setIfInBounds i true).getD k false) m=A5j (Ws t) (fun k=>W8 (σ (k+1)).ts t) (W8 (σ 0).ts t) (fun k=>listed.getD k false) m:=fun t ht=>by
   refine A1p fun k hk hw=>?_;rw[A63 hun];by_cases hki:k=i
   ·subst hki;exact absurd ((ws_t ho).1 hw) ht
   ·rw[if_neg hki]
  have nameKeep:∀ n,n∉s.wl→A5j (Wn n) (fun k=>ofL (σ (k+1)).L n) (ofL (σ 0).L n) (fun k=>(listed.setIfInBounds i true).getD k false) m=A5j (Wn n) (fun k=>ofL (σ (k+1)).L n) (ofL (σ 0).L n) (fun k=>listed.getD k false) m:=fun n hn=>by
   refine A1p fun k hk hw=>?_;rw[A63 hun];by_cases hki:k=i
   ·subst hki;exact absurd ((wn_t hs).1 hw) hn
   ·rw[if_neg hki]
  have hguard:∀ d,(∃ k c,o.guard=some (k,c)∧(ops[k]?).bind (·.dst)=some d)→VT g' (W8 (σ i).ts d) (a'.tmps.getD d undef):=fun d ⟨k,c,h2,h3⟩=>by
   have:=hts' d
   rwa [slotNow d (.inl ?_)]at this
   simp[A4O,B1W,h2,h3]
  unfold wpOpIn;simp only[ho];generalize hσi:σ i=si at hstep slotNow nameNow hguard;generalize hσj:σ (i+1)=sj at hstep slotNext nameNext;cases hstep with
  | run hw hop hin hr hwn hd =>
   rename_i ins rn wn new v;rw[A0W hw hguard];simp only[if_true];refine hop F nn hF g' a' hg' (fun p hp=>?_) (fun p hp=>?_) (fun k hk=>?_) _ _ fun g'' c k1 k2 k3 k4=>?_
   ·obtain⟨h2,h3⟩:=hin p hp;rw[← h2];cases hx:p.1 with
    | tmp t =>
     have:=hts' t
     rwa [slotNow t (.inl ?_)]at this
     rw[hx]at h3;simp only[A4O,bP];exact .inl (A5h (by simpa using h3))
    | const v=>exact VT.ofV g' v
    | func f=>exact .d (.v _ rfl)
    | global=>exact .bot _
   ·rw[hM',nameNow p.1 (by simp only[Stp.rl,bP,bZ];exact .inl ⟨p,hp,rfl⟩)];exact hr p hp
   ·rw[hM',nameNow (si.L.length+k) (by simp only[Stp.rl,bP,cR];exact .inr ⟨by omega,by omega⟩)];exact aD oM
   ·have hwlen:∀ p∈wn,p.1<si.L.length:=fun p hp=>by
     obtain⟨q,hq,he⟩:=hwn p hp;rw[← he];exact(gS (hr q hq)).1
    refine .inl ⟨g'',rfl,k1,hle'.trans k2,fun n=>?_,by rw[A5c];exact hs',fun t=>?_,by rw[A3h];exact hdf',hbey'⟩
    ·by_cases hn:n∈(Stp.run (rn.map (·.1)++az si.L.length new.length) (wn.map (·.1)++az si.L.length new.length)).wl
     ·rw[nameNext n hn (by
       simp only[Stp.wl,Stp.rl,bP,bZ]at hn ⊢;rcases hn with⟨p,hp,rfl⟩ | hn
       ·obtain⟨q,hq,he⟩:=hwn p hp;exact .inl ⟨q,hq,he⟩
       ·exact .inr hn),B0y _ _ _ _ _ hwlen,k3]
      simp only[Stp.wl,bP,bZ,cR]at hn;unfold upd;cases hf:wn.find? (fun p=>p.1==n)with
      | some p=>rfl
      | none =>
       rw[cG]at hf;rcases hn with⟨p,hp,rfl⟩ | hn
       ·exact absurd sM (hf p hp)
       ·dsimp only;rw[if_pos hn,if_pos hn]
     ·rw[nameKeep n hn,k3,← hM' n];simp only[Stp.wl,bP,bZ,cR,not_or]at hn;unfold upd;have:wn.find? (fun p=>p.1==n)=none:=by
       rw[cG];intro p hp he;exact hn.1 ⟨p,hp,by simpa using he⟩
      rw[this];dsimp only;rw[if_neg hn.2]
    ·rw[A5b hs' hd];by_cases ht:o.dst=some t
     ·rw[if_pos ht,slotNext t ht];simp only[St.eff,A2M,ht,if_true];exact k4
     ·rw[if_neg ht,slotKeep t ht];exact(hts' t).mono hg' k2
  | skip hw hd =>
   rw[A0W hw hguard];simp only[bR,if_false];refine⟨fun f _=>hF.fn f,.inl ⟨g',rfl,hg',hle',fun n=>?_,by rw[A5c];exact hs',fun t=>?_,by rw[A3h];exact hdf',hbey'⟩⟩
   ·rw[nameKeep n (by simp[Stp.wl])];exact hM' n
   ·rw[A5b hs' hd];by_cases ht:o.dst=some t
    ·rw[if_pos ht,slotNext t ht];simp only[St.eff,A2M,ht,if_true];exact .d (.tup [] #[] rfl fun i d c h=>by simp at h)
    ·rw[if_neg ht,slotKeep t ht];exact hts' t
 ·rintro listed a' w' hls hr (⟨g',rfl,hg',hle',hM',hs',hts',hdf',hbey⟩ | ⟨_,hq⟩)
  case inr=>exact hq
  have hlow:A9c ops=true:=by unfold B0s at hok;rw[aF]at hok;exact hok.2
  have hall:=B30 hlow hls hr;have hms:m=ops.size:=by
   rcases hlast with h | ⟨h,_⟩
   ·exact h
   ·have h1:=hall m oM;rw[hbey m (aw _)]at h1;cases h1
  refine hQ hms g' a' hle' ⟨hg',?_,hs',fun t=>?_,hdf'⟩
  ·funext n;rw[hM',A1p (S':=fun k=>decide (k<m)) (fun k hk _=>by simp[hall k oM,hk]),A4p (x:=fun k=>ofL (σ k).L n) (seqN n) m (aw _),dE]
  ·have:=hts' t
   rwa [A1p (S':=fun k=>decide (k<m)) (fun k hk _=>by simp[hall k oM,hk]),A4p (x:=fun k=>W8 (σ k).ts t) (seqS t) m (aw _),dE]at this
theorem B0g {P:ah} {F:Fence} {nn N:Nat} {id:Nat} {ops:Array Oper} {Q:Exit→Act→aO→Prop} {st st':St} {tr:List Stp} (hm:P.follows .mixedOrders=true) (hF:Wd F) (hev:Ev P N ops ops.toList st tr st') (hok:B0s ops tr=true) {g:G} {a:Act} {df:List bp} (hR:StR g N st a df)
  (hQ:∀ g' a',Le g g'→StR g' N st' a' df→Q .normal a' g'.w):(Code.region id ops true).wpIn F nn P Q a g.w:=by
 obtain⟨σ,h0,h1,hst⟩:=hev.seq;rw[br]at h1;exact A9q hm hF σ ops.size (aw _) h0 (fun k o _ ho=>hst k o (by rw[bC];exact ho)) hok hR (.inl rfl) fun _=>by rw[h1];exact hQ
theorem B3g {P:ah} {F:Fence} {nn N:Nat} {id:Nat} {ops:Array Oper} {l1:List Oper} {o:Oper} {Q:Exit→Act→aO→Prop} {st st':St} {tr:List Stp} (hm:P.follows .mixedOrders=true) (hF:Wd F) (hops:ops.toList=l1++[o]) (hev:Ev P N ops l1 st tr st') (hok:B0s ops tr=true) (hl:A9a ops l1.length=true) {g:G} {a:Act} {df:List bp} (hR:StR g N st a df)
  (hp:∀ g' a' K,Le g g'→StR g' N st' a' df→wpOpIn F nn P ops Q l1.length K a' g'.w):(Code.region id ops true).wpIn F nn P Q a g.w:=by
 obtain⟨σ,h0,h1,hst⟩:=hev.seq;have hsz:ops.size=l1.length+1:=by rw[← br,hops];simp
 refine A9q hm hF σ l1.length oM h0 (fun k o' hk ho=>hst k o' ?_) hok hR (.inr ⟨hsz.symm,hl,?_⟩) fun h=>by omega
 ·rw[← bC,hops,aC hk]at ho;exact ho
 ·rw[h1];exact fun g' a' K _=>hp g' a' K
mutual
def T.ren (ρ:Nat→Nat):T→T
 | .d x => .d x
 | .bot => .bot
 | .ref n s i o => .ref (ρ n) s i o
 | .row n s lo len => .row (ρ n) s lo len
 | .agg l => .agg (A5n ρ l)
 | .tup l => .tup (A5n ρ l)
 | .fn f a b => .fn f (A5n ρ a) (A5n ρ b)
 | .iface t x => .iface t (x.ren ρ)
 | .mp n => .mp (ρ n)
def A5n (ρ:Nat→Nat):List T→List T
 | []=>[]
 | x::l=>x.ren ρ::A5n ρ l
end
mutual
def T.sc (k:Nat):T→Bool
 | .d _ | .bot=>true
 | .ref n _ _ _ | .row n _ _ _ | .mp n=>aq n k
 | .agg l | .tup l=>scL k l
 | .fn _ a b=>scL k a&&scL k b
 | .iface _ x=>x.sc k
def scL (k:Nat):List T→Bool
 | []=>true
 | x::l=>x.sc k&&scL k l
end
theorem A1Z (ρ:Nat→Nat):∀ l,A5n ρ l=l.map (T.ren ρ)
 | []=>rfl
 | x::l=>by rw[A5n,A1Z ρ l];rfl
theorem A3m (k:Nat):∀ l,scL k l=l.all (T.sc k)
 | []=>rfl
 | x::l=>by rw[scL,A3m k l];rfl
theorem B2l (ρ:Nat→Nat) (t:T):(t.ren ρ).cells=t.cells.map (T.ren ρ):=by
 cases t with
 | d x=>cases x<;>simp[T.ren,T.cells]
 | agg l=>simp[T.ren,T.cells,A1Z]
 | _=>simp[T.ren,T.cells]
def Rw.ren (ρ:Nat→Nat) (r:Rw):Rw:=⟨r.s,r.els.map (T.ren ρ)⟩
def Rw.sc (k:Nat) (r:Rw):Bool:=r.els.all (T.sc k)
theorem A4q.unren {g g':G} {ρ:Nat→Nat} {k n n':Nat} {r:Rw} (h:A4q g n (r.ren ρ)) (hb:g'.β n'=g.β n) (hh:(g.β n).2≠0→g'.w.heap[(g.β n).1]?=g.w.heap[(g.β n).1]?) (h2:r.sc k=true)
  (hV:∀ (t:T) (c:al),t.sc k=true→VT g (t.ren ρ) c→VT g' t c):A4q g' n' r:=by
 unfold Rw.sc at h2;rw[ax]at h2;refine h.rel rfl hb hh (by simp[Rw.ren]) (fun x x'=>x=x'.ren ρ∧x'.sc k=true) (fun i x x' hx hx'=>?_) (fun x x' h=>?_) (fun v y x' h=>?_) (fun t t' c h hv=>hV t' c h.2 (h.1▸hv))
 ·simp only[Rw.ren,gM,hx',bh,aK]at hx;exact⟨hx.symm,h2 x' (iM hx')⟩
 ·obtain⟨rfl,hx'⟩:=h;rw[B2l];refine⟨by simp,fun j y y' hy hy'=>?_⟩;rw[gM,hy',bh,aK]at hy;refine⟨hy.symm,?_⟩;cases x' with
  | d d=>cases d<;>simp[T.cells]at hy'<;>first | (obtain⟨z,_,rfl⟩:=hy';rfl) | (have:=iM hy';simp at this;subst this;rfl)
  | agg l =>
   simp only[T.cells]at hy';simp only[T.sc,A3m,ax]at hx';exact hx' y' (iM hy')
  | _=>simp only[T.cells]at hy';have:=iM hy';simp at this;subst this;exact hx'
 ·obtain⟨h3,h4⟩:=h;cases x'<;>simp[T.ren]at h3;rename_i l
  match l,h3,h4 with
  | [],h3,_=>simp[A5n]at h3
  | [a],h3,_=>simp[A5n]at h3
  | [a,b],h3,h4 =>
   simp only[A5n,List.cons.injEq,and_true]at h3;obtain⟨h5,h6⟩:=h3;cases a<;>simp[T.ren]at h5;subst h5;simp only[T.sc,scL,aF]at h4;exact⟨b,rfl,h6,h4.2.1⟩
  | a::b::c::l,h3,_=>simp[A5n]at h3
theorem VD.same {g g':G} (hw:g'.w=g.w) (hk:∀ b,g.K b→g'.K b) {d:D} {c:al} (h:VD g d c):VD g' d c:=by
 induction h with
 | v x h=>exact .v x h
 | agg l cs hl h ih=>exact .agg l cs hl ih
 | tup l cs hl h ih=>exact .tup l cs hl ih
 | arr0 s a cap=>exact .arr0 s a cap
 | arr s l b off cap f hcap hK hs hw' hv ih=>exact .arr s l b off cap f hcap (hk b hK) hs (fun i d hd j e he=>by rw[hw];exact hw' i d hd j e he) ih
 | el s l i o b off f hK hs hw' hv ih=>exact .el s l i o b off f (fun h=>hk b (hK h)) hs (fun i d hd j e he=>by rw[hw];exact hw' i d hd j e he) ih
 | mp ks vs b es clock hK hh hl hl2 hky hv ih=>exact .mp ks vs b es clock (hk b hK) (by rw[hw];exact hh) hl hl2 hky ih
theorem VT.ren {g g':G} (hw:g'.w=g.w) (hk:∀ b,g.K b→g'.K b) {ρ:Nat→Nat} (hρ:∀ n,g.M n≠none→g'.M (ρ n)≠none∧g'.β (ρ n)=g.β n) {t:T} {c:al} (h:VT g t c):VT g' (t.ren ρ) c:=by
 induction h with
 | d h=>exact .d (h.same hw hk)
 | bot c=>exact .bot c
 | ref n s i o hn hs=>obtain⟨h1,h2⟩:=hρ n hn;rw[← h2];exact .ref (ρ n) s i o h1 hs
 | row n s lo len a hn hs hl ha=>obtain⟨h1,h2⟩:=hρ n hn;rw[← h2]at hl ha ⊢;exact .row (ρ n) s lo len a h1 hs hl ha
 | mp n hn=>obtain⟨h1,h2⟩:=hρ n hn;rw[← h2];exact .mp (ρ n) h1
 | agg l cs hl h ih =>
  simp only[T.ren,A1Z];refine .agg _ cs (by simpa using hl) fun i d c hd hc=>?_;rw[gM,an]at hd;obtain⟨d',hd',rfl⟩:=hd;exact ih i d' c hd' hc
 | tup l cs hl h ih =>
  simp only[T.ren,A1Z];refine .tup _ cs (by simpa using hl) fun i d c hd hc=>?_;rw[gM,an]at hd;obtain⟨d',hd',rfl⟩:=hd;exact ih i d' c hd' hc
 | fn f l m cs ds hl h hm k ih ik =>
  simp only[T.ren,A1Z];refine .fn f _ _ cs ds (by simpa using hl) (fun i d c hd hc=>?_) (by simpa using hm) (fun i d c hd hc=>?_)
  ·rw[gM,an]at hd;obtain⟨d',hd',rfl⟩:=hd;exact ih i d' c hd' hc
  ·rw[gM,an]at hd;obtain⟨d',hd',rfl⟩:=hd;exact ik i d' c hd' hc
 | iface t x c h ih=>exact .iface t _ c ih
theorem VT.unren {g g':G} (hw:g.w=g'.w) (hk:∀ b,g'.K b→g.K b) {ρ:Nat→Nat} {k:Nat} (hρ:∀ n,n<k→g.M n≠none∧g'.β (ρ n)=g.β n) :
  ∀ (t:T) (c:al),t.sc k=true→VT g' (t.ren ρ) c→VT g t c:=by
 have key:∀ {t':T} {c:al},VT g' t' c→∀ t,t'=t.ren ρ→t.sc k=true→VT g t c:=by
  intro t' c h;induction h with
  | d h=>intro t ht hs;cases t<;>simp[T.ren]at ht;subst ht;exact .d (h.same hw hk)
  | bot c=>intro t ht hs;cases t<;>simp[T.ren]at ht;exact .bot c
  | mp n hn =>
   intro t ht hs;cases t<;>simp[T.ren]at ht;subst ht;rename_i n;obtain⟨h1,h2⟩:=hρ n (by simpa[T.sc,bG]using hs);rw[h2];exact .mp n h1
  | ref n s i o hn hs0 =>
   intro t ht hs;cases t<;>simp[T.ren]at ht;obtain⟨rfl,rfl,rfl,rfl⟩:=ht;rename_i n;obtain⟨h1,h2⟩:=hρ n (by simpa[T.sc,bG]using hs);rw[h2];exact .ref n s i o h1 hs0
  | row n s lo len a hn hs0 hl ha =>
   intro t ht hs;cases t<;>simp[T.ren]at ht;obtain⟨rfl,rfl,rfl,rfl⟩:=ht;rename_i n;obtain⟨h1,h2⟩:=hρ n (by simpa[T.sc,bG]using hs);rw[h2]at hl ha ⊢;exact .row n s lo len a h1 hs0 hl ha
  | agg l cs hl h ih =>
   intro t ht hs;cases t<;>simp[T.ren,A1Z]at ht;rename_i l';subst ht;refine .agg _ cs (by simpa using hl) fun i d c hd hc=>ih i (d.ren ρ) c (by simp[hd]) hc d rfl ?_;simp only[T.sc,A3m,ax]at hs;exact hs d (iM hd)
  | tup l cs hl h ih =>
   intro t ht hs;cases t<;>simp[T.ren,A1Z]at ht;rename_i l';subst ht;refine .tup _ cs (by simpa using hl) fun i d c hd hc=>ih i (d.ren ρ) c (by simp[hd]) hc d rfl ?_;simp only[T.sc,A3m,ax]at hs;exact hs d (iM hd)
  | fn f l m cs ds hl h hm k' ih ik =>
   intro t ht hs;cases t<;>simp[T.ren,A1Z]at ht;rename_i f' l' m';obtain⟨rfl,rfl,rfl⟩:=ht;simp only[T.sc,A3m,aF,ax]at hs
   refine .fn f _ _ cs ds (by simpa using hl) (fun i d c hd hc=>ih i (d.ren ρ) c (by simp[hd]) hc d rfl (hs.1 d (iM hd))) (by simpa using hm)
    (fun i d c hd hc=>ik i (d.ren ρ) c (by simp[hd]) hc d rfl (hs.2 d (iM hd)))
  | iface t x c h ih =>
   intro u ht hs;cases u<;>simp[T.ren]at ht;obtain⟨rfl,rfl⟩:=ht;exact .iface _ _ c (ih _ rfl hs)
 exact fun t c hs h=>key h t rfl hs
inductive SE where
 | ret (t:T)
 | pan (t:T)
def SER (g:G):SE→Ending→Prop
 | .ret t,.returned v=>VT g t v
 | .pan t,.panicked ch=>∃ v,ch=[{ v,recovered:=false }]∧VT g t v
 | _,_=>False
def SC (P:ah) (f:bm) (args:List T) (L:LR) (R:SE→LR→Prop):Prop :=
 ∀ g vs,P6 g→g.M=ofL L→VTs g args vs→Calls P f vs.toArray g.w fun e w'=>∃ g' se L',g'.w=w'∧P6 g'∧Le g g'∧g'.M=ofL L'∧SER g' se e∧R se L'
theorem SC.mono {P:ah} {f:bm} {args:List T} {L:LR} {R R':SE→LR→Prop} (h:SC P f args L R) (k:∀ se L',R se L'→R' se L'):SC P f args L R' :=
 fun g vs hg hM hv=>(h g vs hg hM hv).mono fun _ _ ⟨g',se,L',h1,h2,h3,h4,h5,h6⟩=>⟨g',se,L',h1,h2,h3,h4,h5,k se L' h6⟩
def Ent (P:ah) (f:bm):Prop:=∀ args w,(callFunc f args).run P w = .ok (.enter f args) w
def C0y (P:ah) (f:bm):Bool:=match P.funcs[f]? with
 | some fn => fn.name != "runtime.NumGoroutine" && fn.body.isSome
 | none=>false
theorem Ent.of {P:ah} {f:bm} (h:C0y P f=true):Ent P f:=by
 intro args w;unfold C0y at h;cases hf:P.funcs[f]? with
 | none=>rw[hf]at h;cases h
 | some fn =>
  rw[hf]at h;simp only[aF,bne_iff_ne,ne_eq]at h;obtain⟨h1,h2⟩:=h;have h3:fn.body≠none:=by intro hb;rw[hb]at h2;cases h2
  simp[callFunc,hf,h1,h3]
def ext (ρ:List Nat) (fresh:Nat) (n:Nat):Nat:=if n<ρ.length then ρ.getD n 0 else fresh+(n-ρ.length)
def G.back (g gc:G) (ρ:List Nat) (fresh cnt:Nat):G :=
 ⟨fun n=>match ρ.idxOf? n with
   | some k=>(gc.M k).map fun o=>o.map (Rw.ren (ext ρ fresh))
   | none=>if fresh≤n∧n<fresh+cnt then(gc.M (ρ.length+(n-fresh))).map fun o=>o.map (Rw.ren (ext ρ fresh))else g.M n,
  fun n=>if fresh≤n∧n<fresh+cnt then gc.β (ρ.length+(n-fresh))else g.β n,gc.K,gc.w⟩
theorem A64 {ρ:List Nat} {n k:Nat} (h:ρ.idxOf? n=some k):k<ρ.length∧ρ.getD k 0=n:=by
 rw[eh,dv]at h;obtain⟨h1,h2,_⟩:=h;exact⟨h1,by rw[am,gE h1,aR];simpa using h2⟩
theorem B9K {ρ:List Nat} (hnd:ρ.Nodup) {k:Nat} (h:k<ρ.length):ρ.idxOf? (ρ.getD k 0)=some k:=by
 rw[eh,dv];have e:ρ.getD k 0=ρ[k]:=by rw[am,gE h,aR]
 refine⟨h,by rw[e];simp,fun j hj=>?_⟩;rw[e];have:=(cn.1 hnd) j k oM h hj;simpa using this
theorem B76 {ρ:List Nat} {n:Nat} (h:ρ.idxOf? n=none):∀ k,k<ρ.length→ρ.getD k 0≠n:=fun k hk e=>by
 rw[eh,List.findIdx?_eq_none_iff]at h;have e':ρ.getD k 0=ρ[k]:=by rw[am,gE hk,aR]
 have:=h ρ[k] (aj hk);rw[← e',e]at this;simp at this
theorem A7U {g gc gc':G} {ρ:List Nat} {fresh cnt:Nat} {Lf Lf':LR} (hnd:ρ.Nodup) (hg:P6 g) (hlen:Lf.length=ρ.length) (hcnt:Lf'.length=ρ.length+cnt) (hfr:∀ k,k<ρ.length→ρ.getD k 0<fresh)
  (hc:gc=⟨ofL Lf,fun n=>g.β (ext ρ fresh n),g.K,g.w⟩) (hrows:∀ (k:Nat) (o:Option Rw),Lf[k]?=some o→g.M (ρ.getD k 0)=some (o.map (Rw.ren (ext ρ fresh)))) (hnew:∀ k,k<cnt→g.M (fresh+k)=none)
  (hg':P6 gc') (hle:Le gc gc') (hM':gc'.M=ofL Lf'):P6 (g.back gc' ρ fresh cnt)∧Le g (g.back gc' ρ fresh cnt)∧∀ t v,VT gc' t v→VT (g.back gc' ρ fresh cnt) (t.ren (ext ρ fresh)) v:=by
 have hsz:gc.w=g.w:=by rw[hc]
 have hK:gc.K=g.K:=by rw[hc]
 -- names that come in
 have hin:∀ k,k<ρ.length→gc'.β k=g.β (ρ.getD k 0)∧gc'.M k≠none:=fun k hk=>by
  have hne:gc.M k≠none:=by rw[hc];simp[ofL,hlen,hk]
  obtain⟨h1,h2⟩:=hle.e k hne;refine⟨?_,h1⟩;rw[h2,hc];simp[ext,hk]
 have hfresh:∀ k,k<ρ.length→¬ (fresh≤ρ.getD k 0∧ρ.getD k 0<fresh+cnt):=fun k hk=>by have:=hfr k hk;omega
 have hβin:∀ k,k<ρ.length→(g.back gc' ρ fresh cnt).β (ρ.getD k 0)=gc'.β k:=fun k hk=>by
  simp only[G.back];rw[if_neg (hfresh k hk),(hin k hk).1]
 have hMin:∀ k,k<ρ.length→(g.back gc' ρ fresh cnt).M (ρ.getD k 0)=(gc'.M k).map fun o=>o.map (Rw.ren (ext ρ fresh)):=fun k hk=>by
  simp only[G.back];rw[B9K hnd hk]
 have hidx:∀ n,fresh≤n→ρ.idxOf? n=none:=fun n hn=>by
  cases h:ρ.idxOf? n with
  | none=>rfl
  | some k=>obtain⟨h1,h2⟩:=A64 h;have:=hfr k h1;omega
 have hnewM:∀ n,fresh≤n→n<fresh+cnt→(g.back gc' ρ fresh cnt).M n=(gc'.M (ρ.length+(n-fresh))).map fun o=>o.map (Rw.ren (ext ρ fresh)):=fun n h1 h2=>by
  simp only[G.back];rw[hidx n h1];dsimp only;rw[if_pos ⟨h1,h2⟩]
 have hnewβ:∀ n,fresh≤n→n<fresh+cnt→(g.back gc' ρ fresh cnt).β n=gc'.β (ρ.length+(n-fresh)):=fun n h1 h2=>by
  simp only[G.back];rw[if_pos ⟨h1,h2⟩]
 have hold:∀ n,ρ.idxOf? n=none→¬ (fresh≤n∧n<fresh+cnt)→(g.back gc' ρ fresh cnt).M n=g.M n∧(g.back gc' ρ fresh cnt).β n=g.β n:=fun n h1 h2=>by
  simp only[G.back];rw[h1];dsimp only;rw[if_neg h2,if_neg h2];exact⟨rfl,rfl⟩
 have hext:∀ n,gc'.M n≠none→(g.back gc' ρ fresh cnt).M (ext ρ fresh n)≠none∧(g.back gc' ρ fresh cnt).β (ext ρ fresh n)=gc'.β n:=fun n hn=>by
  unfold ext;by_cases hk:n<ρ.length
  ·rw[if_pos hk,hMin n hk,hβin n hk];exact⟨by simpa using hn,rfl⟩
  ·rw[if_neg hk];have hlt:n<ρ.length+cnt:=by
    rw[hM']at hn;simp only[ofL,ne_eq,aQ,cD]at hn;omega
   rw[hnewM _ oM oM,hnewβ _ oM oM,show ρ.length+(fresh+(n-ρ.length)-fresh)=n by omega];exact⟨by simpa using hn,rfl⟩
 have hVT:∀ t v,VT gc' t v→VT (g.back gc' ρ fresh cnt) (t.ren (ext ρ fresh)) v:=fun t v h=>VT.ren (g:=gc') (g':=g.back gc' ρ fresh cnt) (ρ:=ext ρ fresh) rfl (fun b hb=>hb) hext h
 -- where live names come from
 have live:∀ n r,(g.back gc' ρ fresh cnt).M n=some (some r)→(∃ k q,gc'.M k=some (some q)∧r=q.ren (ext ρ fresh)∧(g.back gc' ρ fresh cnt).β n=gc'.β k∧n=ext ρ fresh k)∨(ρ.idxOf? n=none∧¬ (fresh≤n∧n<fresh+cnt)∧g.M n=some (some r)∧(g.back gc' ρ fresh cnt).β n=g.β n):=fun n r h=>by
  cases hi:ρ.idxOf? n with
  | some k =>
   obtain⟨h1,h2⟩:=A64 hi;rw[← h2,hMin k h1,an]at h;obtain⟨o,ho,hor⟩:=h;cases o with
   | none=>cases hor
   | some q =>
    simp only[bh,aK]at hor;exact .inl ⟨k,q,ho,hor.symm,by rw[← h2];exact hβin k h1,by rw[← h2];simp[ext,h1]⟩
  | none =>
   by_cases hf:fresh≤n∧n<fresh+cnt
   ·rw[hnewM n hf.1 hf.2,an]at h;obtain⟨o,ho,hor⟩:=h;cases o with
    | none=>cases hor
    | some q =>
     simp only[bh,aK]at hor;refine .inl ⟨_,q,ho,hor.symm,hnewβ n hf.1 hf.2,?_⟩;unfold ext;rw[if_neg oM];omega
   ·obtain⟨h1,h2⟩:=hold n hi hf;rw[h1]at h;exact .inr ⟨rfl,hf,h,h2⟩
 -- a block of another name of the caller's
 have hother:∀ n r,ρ.idxOf? n=none→g.M n=some (some r)→(g.β n).2≠0→NL gc (g.β n).1:=fun n r hi hn hn0 k q hk hk0 he=>by
  rw[hc]at hk he hk0;dsimp only at hk he hk0;have hkl:k<ρ.length:=by
   rw[← hlen];exact(gS hk).1
  have h1:=hrows k (some q) hk;have e1:ext ρ fresh k=ρ.getD k 0:=by simp only[ext];rw[if_pos hkl]
  rw[e1]at he hk0;have:=hg.inj _ _ _ _ h1 hn hk0 hn0 he;exact B76 hi k hkl this
 have hNLc:∀ b,NL g b→NL gc b:=fun b hb k q hk hk0 he=>by
  rw[hc]at hk he hk0;dsimp only at hk he hk0;have hkl:k<ρ.length:=by rw[← hlen];exact(gS hk).1
  have h1:=hrows k (some q) hk;have e1:ext ρ fresh k=ρ.getD k 0:=by simp only[ext];rw[if_pos hkl]
  rw[e1]at he hk0;exact hb _ _ h1 hk0 he
 have hL:Le g (g.back gc' ρ fresh cnt):=by
  refine⟨fun n hn=>?_,by rw[← hsz];exact hle.size,by rw[← hsz];exact hle.os,by rw[← hsz];exact hle.tape,by rw[← hsz];exact hle.output,fun b hb hnl=>?_,fun b hb=>hle.k b (by rw[hK];exact hb),fun b hb hk=>?_,fun n r hn h0 hlt=>?_⟩
  ·cases hi:ρ.idxOf? n with
   | some k =>
    obtain⟨h1,h2⟩:=A64 hi;rw[← h2];exact⟨by rw[hMin k h1];simpa using (hin k h1).2,by rw[hβin k h1,(hin k h1).1]⟩
   | none =>
    by_cases hf:fresh≤n∧n<fresh+cnt
    ·exact absurd (by have:=hnew (n-fresh) oM;rwa [show fresh+(n-fresh)=n by omega]at this) hn
    ·obtain⟨h1,h2⟩:=hold n hi hf;rw[h1,h2];exact⟨hn,rfl⟩
  ·show gc'.w.heap[b]?=_;rw[← hsz];exact hle.fr b (by rw[hsz];exact hb) (hNLc b hnl)
  ·rcases hle.k' b (by rw[hsz];exact hb) hk with h | h
   ·exact .inl (by rw[← hK];exact h)
   ·exact .inr fun hn=>h (hNLc b hn)
  ·rcases live n r hn with⟨k,q,h1,_,h3,_⟩ | ⟨hi,hf,h1,h2⟩
   ·rw[h3]at hlt h0 ⊢;exact fun hh=>hle.nl k q h1 h0 (by rw[hsz];exact hlt) (hNLc _ hh)
   ·rw[h2]at h0 ⊢;exact fun hh=>hh n r h1 h0 rfl
 refine⟨⟨fun n r hn=>?_,fun n m r q hn hm hn0 hm0 he=>?_,fun b hb=>hg'.kd b hb,fun b hb n r hn h0=>?_⟩,hL,hVT⟩
 ·rcases live n r hn with⟨k,q,h1,rfl,h3,_⟩ | ⟨hi,hf,h1,h2⟩
  ·refine(hg'.rows k q h1).rel rfl h3 (fun _=>rfl) (by simp[Rw.ren]) (fun x x'=>x'=x.ren (ext ρ fresh)) (fun i x x' hx hx'=>?_) (fun x x' h=>?_) (fun k y x' h=>⟨y.ren (ext ρ fresh),h,rfl⟩) (fun t t' c h hv=>h▸hVT t c hv)
   ·simp only[Rw.ren,gM,hx,bh,aK]at hx';exact hx'.symm
   ·subst h;rw[B2l];refine⟨by simp,fun j y y' hy hy'=>?_⟩;rw[gM,hy,bh,aK]at hy';exact hy'.symm
  ·refine(hg.rows n r h1).keep hg hL h2 fun h0=>?_;show gc'.w.heap[_]?=_;rw[← hsz];exact hle.fr _ (by rw[hsz];exact(hg.rows n r h1).lt h0) (hother n r hi h1 h0)
 ·rcases live n r hn with⟨k,k1,k2,_,k3,k4⟩ | ⟨hi,hf,h1,h2⟩<;>rcases live m q hm with⟨j,j1,j2,_,j3,j4⟩ | ⟨hi',hf',h1',h2'⟩
  ·rw[k3,j3]at he;rw[k3]at hn0;rw[j3]at hm0;rw[k4,j4,hg'.inj k j _ _ k2 j2 hn0 hm0 he]
  ·exfalso;rw[k3,h2']at he;rw[k3]at hn0;rw[h2']at hm0;have hlt:(gc'.β k).1<gc.w.heap.size:=by rw[he,hsz];exact(hg.rows m q h1').lt hm0
   exact hle.nl k k1 k2 hn0 hlt (by rw[he];exact hother m q hi' h1' hm0)
  ·exfalso;rw[j3,h2]at he;rw[j3]at hm0;rw[h2]at hn0;have hlt:(gc'.β j).1<gc.w.heap.size:=by rw[← he,hsz];exact(hg.rows n r h1).lt hn0
   exact hle.nl j j1 j2 hm0 hlt (by rw[← he];exact hother n r hi h1 hn0)
  ·rw[h2,h2']at he;rw[h2]at hn0;rw[h2']at hm0;exact hg.inj n m r q h1 h1' hn0 hm0 he
 ·rcases live n r hn with⟨k,q,h1,_,h3,_⟩ | ⟨hi,hf,h1,h2⟩
  ·rw[h3]at h0 ⊢;exact hg'.kl b hb k q h1 h0
  ·rw[h2]at h0 ⊢;intro e;have hlt:b<gc.w.heap.size:=by rw[← e,hsz];exact(hg.rows n r h1).lt h0
   rcases hle.k' b hlt hb with h | h
   ·rw[hK]at h;exact hg.kl b h n r h1 h0 e
   ·exact h (by rw[← e];exact hother n r hi h1 h0)
structure LeN (n0:Nat) (g g':G):Prop where
 e:∀ n,n<n0→g.M n≠none→g'.M n≠none∧g'.β n=g.β n
 size:g.w.heap.size≤g'.w.heap.size
 os:g'.w.os=g.w.os
 tape:g'.w.tape=g.w.tape
 output:g'.w.output=g.w.output
 fr:∀ b,b<g.w.heap.size→NL g b→g'.w.heap[b]?=g.w.heap[b]?
 k:∀ b,g.K b→g'.K b
 k':∀ b,b<g.w.heap.size→g'.K b→g.K b∨¬ NL g b
 nl:∀ n r,g'.M n=some (some r)→(g'.β n).2≠0→(g'.β n).1<g.w.heap.size→¬ NL g (g'.β n).1
theorem Le.toN {g g':G} (h:Le g g') (n0:Nat):LeN n0 g g':=⟨fun n _=>h.e n,h.size,h.os,h.tape,h.output,h.fr,h.k,h.k',h.nl⟩
theorem LeN.refl (n0:Nat) (g:G):LeN n0 g g:=(Le.refl g).toN n0
theorem LeN.keepNL {n0:Nat} {g g':G} (h:LeN n0 g g') {b:Nat} (hb:b<g.w.heap.size) (hn:NL g b):NL g' b:=fun n r hr h0 he=>h.nl n r hr h0 (by rw[he];exact hb) (he▸hn)
theorem LeN.trans {n0:Nat} {a b c:G} (h:LeN n0 a b) (k:LeN n0 b c):LeN n0 a c where
 e n hlt hn:=by
  obtain⟨h1,h2⟩:=h.e n hlt hn;obtain⟨k1,k2⟩:=k.e n hlt h1;exact⟨k1,k2.trans h2⟩
 size:=bN h.size k.size
 os:=k.os.trans h.os
 tape:=k.tape.trans h.tape
 output:=k.output.trans h.output
 fr x hx hn:=(k.fr x (bq hx h.size) (h.keepNL hx hn)).trans (h.fr x hx hn)
 k x hx:=k.k x (h.k x hx)
 k' x hx hk:=by
  rcases k.k' x (bq hx h.size) hk with h1 | h1
  ·exact h.k' x hx h1
  ·exact .inr fun hn=>h1 (h.keepNL hx hn)
 nl n r hr h0 hlt:=by
  intro hn;exact k.nl n r hr h0 (bq hlt h.size) (h.keepNL hlt hn)
theorem LeN.toLe {n0:Nat} {g g':G} (h:LeN n0 g g') {L:LR} (hM:g.M=ofL L) (hl:L.length≤n0):Le g g' :=
 ⟨fun n hn=>h.e n (by rw[hM]at hn;simp only[ofL,ne_eq,aQ,cD]at hn;omega) hn,h.size,h.os,h.tape,h.output,h.fr,h.k,h.k',h.nl⟩
def kap (κ:List Nat) (n:Nat):Nat:=κ.getD n 0
def B4t (L:LR) (κ:List Nat):LR→Nat→Prop
 | [],_=>True
 | o::l,k=>(∃ o',L[kap κ k]?=some o'∧(∀ r,o=some r→o'=some (r.ren (kap κ))∧r.sc κ.length=true))∧B4t L κ l (k+1)
theorem A6G {L:LR} {κ:List Nat}:∀ {l:LR} {k:Nat},B4t L κ l k→∀ (j:Nat) (o:Option Rw),l[j]?=some o→∃ o',L[kap κ (k+j)]?=some o'∧(∀ r,o=some r→o'=some (r.ren (kap κ))∧r.sc κ.length=true)
 | [],k,_,j,o,h=>by simp at h
 | x::l,k,h,0,o,ho=>by simp at ho;subst ho;exact h.1
 | x::l,k,h,j+1,o,ho=>by
  have:=A6G h.2 j o (by simpa using ho)
  rwa [show k+1+j=k+(j+1) by omega]at this
theorem A9T {g:G} (hg:P6 g) {L Lf:LR} (hM:g.M=ofL L) {κ:List Nat} (hnd:κ.Nodup) (hlen:Lf.length=κ.length) (hr:B4t L κ Lf 0) :
  P6 ⟨ofL Lf,fun n=>g.β (kap κ n),g.K,g.w⟩∧∀ (t:T) (c:al),t.sc κ.length=true→VT g (t.ren (kap κ)) c→VT ⟨ofL Lf,fun n=>g.β (kap κ n),g.K,g.w⟩ t c:=by
 have hE:∀ n,n<κ.length→(ofL Lf n≠none)∧g.β (kap κ n)=g.β (kap κ n):=fun n hn=>⟨by simp only[ofL,ne_eq,aQ];omega,rfl⟩;have hV:∀ (t:T) (c:al),t.sc κ.length=true→VT g (t.ren (kap κ)) c→VT ⟨ofL Lf,fun n=>g.β (kap κ n),g.K,g.w⟩ t c :=
  VT.unren (g:=⟨ofL Lf,fun n=>g.β (kap κ n),g.K,g.w⟩) (g':=g) rfl (fun _ h=>h) hE
 have live:∀ k r,ofL Lf k=some (some r)→k<κ.length∧g.M (kap κ k)=some (some (r.ren (kap κ)))∧r.sc κ.length=true:=fun k r h=>by
  obtain⟨o',h1,h2⟩:=A6G hr k (some r) h;obtain⟨h3,h4⟩:=h2 r rfl;rw[aZ]at h1;exact⟨by rw[← hlen];exact(gS h).1,by rw[hM];unfold ofL;rw[h1,h3],h4⟩
 refine⟨⟨fun n r hn=>?_,fun n m r q hn hm hn0 hm0 he=>?_,hg.kd,fun b hb n r hn hn0=>hg.kl b hb _ _ (live n r hn).2.1 hn0⟩,hV⟩
 ·obtain⟨_,h1,h2⟩:=live n r hn;exact(hg.rows _ _ h1).unren rfl (fun _=>rfl) h2 hV
 ·obtain⟨h1,h2,_⟩:=live n r hn;obtain⟨h3,h4,_⟩:=live m q hm;have:=hg.inj _ _ _ _ h2 h4 hn0 hm0 he;unfold kap at this;rw[am,am,gE h1,gE h3,aR,aR]at this;rcases Nat.lt_trichotomy n m with h | h | h
  ·exact absurd this ((cn.1 hnd) n m h1 h3 h)
  ·exact h
  ·exact absurd this.symm ((cn.1 hnd) m n h3 h1 h)
structure Vw (n0:Nat) (st st':St) (κ:List Nat):Prop where
 nd:κ.Nodup
 len:st'.L.length=κ.length
 rows:B4t st.L κ st'.L 0
 ts:∀ p∈st'.ts,p.2.ren (kap κ)=W8 st.ts p.1∧p.2.sc κ.length=true
 base:∀ n,n<n0→n<st.L.length→n<κ.length∧kap κ n=n
mutual
theorem A8G (ρ:Nat→Nat):∀ t:T,t.sc 0=true→t.ren ρ=t
 | .d x,_=>rfl
 | .bot,_=>rfl
 | .ref n s i o,h=>by simp[T.sc,bG]at h
 | .row n s lo len,h=>by simp[T.sc,bG]at h
 | .agg l,h=>by simp only[T.ren];rw[A5e ρ l (by simpa[T.sc]using h)]
 | .tup l,h=>by simp only[T.ren];rw[A5e ρ l (by simpa[T.sc]using h)]
 | .fn f a b,h=>by
  simp only[T.sc,aF]at h;simp only[T.ren];rw[A5e ρ a h.1,A5e ρ b h.2]
 | .iface t x,h=>by simp only[T.ren];rw[A8G ρ x (by simpa[T.sc]using h)]
theorem A5e (ρ:Nat→Nat):∀ l:List T,scL 0 l=true→A5n ρ l=l
 | [],_=>rfl
 | x::l,h=>by
  simp only[scL,aF]at h;simp only[A5n];rw[A8G ρ x h.1,A5e ρ l h.2]
end
inductive TsC (ts:LT):LT→Prop where
 | nil:TsC ts []
 | cons {i:Nat} {t:T} {r:LT} (h:W8 ts i=t) (hc:t.sc 0=true) (k:TsC ts r):TsC ts ((i,t)::r)
theorem B0P:∀ {ts:LT} {i:Nat},W8 ts i = .bot∨(i,W8 ts i)∈ts
 | [],i => .inl rfl
 | (j,t)::r,i=>by
  simp only[W8];cases hb:aJ i j with
  | true=>have:=aA hb;subst this;exact .inr sM
  | false =>
   rcases B0P (ts:=r) (i:=i)with h | h
   ·exact .inl (by simpa using h)
   ·exact .inr (by simp;exact .inr (by simpa using h))
theorem Vw.see {n0 N:Nat} {st st':St} {κ:List Nat} (h:Vw n0 st st' κ) {g:G} {a:Act} {df:List bp} (hR:StR g N st a df) :
  ∃ g',g'.w=g.w∧LeN n0 g g'∧StR g' N st' a df:=by
 obtain⟨h1,h2⟩:=A9T hR.good hR.M h.nd h.len h.rows;refine⟨⟨ofL st'.L,fun n=>g.β (kap κ n),g.K,g.w⟩,rfl,⟨fun n hn hne=>?_,aw _,rfl,rfl,rfl,fun _ _ _=>rfl,fun _ h=>h,fun _ _ h => .inl h,fun n r hn h0 _ hnl=>?_⟩,⟨h1,rfl,hR.size,fun i=>?_,hR.df⟩⟩
 ·rw[hR.M]at hne;simp only[ofL,ne_eq,aQ,cD]at hne;obtain⟨k1,k2⟩:=h.base n hn hne;exact⟨by simp only[ofL,ne_eq,aQ,h.len];omega,by show g.β (kap κ n)=_;rw[k2]⟩
 ·obtain⟨o',k1,k2⟩:=A6G h.rows n (some r) hn;rw[aZ]at k1;refine hnl (kap κ n) (r.ren (kap κ)) ?_ h0 rfl;rw[hR.M];unfold ofL;rw[k1,(k2 r rfl).1]
 ·rcases B0P (ts:=st'.ts) (i:=i)with h3 | h3
  ·rw[h3];exact .bot _
  ·obtain⟨k1,k2⟩:=h.ts _ h3;exact h2 _ _ k2 (by rw[k1];exact hR.ts i)
inductive SX where
 | norm
 | ret
 | exit (id:Nat)
 | pan (t:T)
def XR (g:G):SX→Exit→Prop
 | .norm,.normal=>True
 | .ret,.ret=>True
 | .exit i,.exit j=>i=j
 | .pan t,.panic ch=>∃ v,ch=[{ v,recovered:=false }]∧VT g t v
 | _,_=>False
theorem XR.mono {g g':G} (hg:P6 g) (hl:Le g g') {sx:SX} {ex:Exit} (h:XR g sx ex):XR g' sx ex:=by
 cases sx<;>cases ex<;>first | exact h | skip
 obtain⟨v,h1,h2⟩:=h;exact⟨v,h1,h2.mono hg hl⟩
def SW (P:ah) (n0 N:Nat) (df:List bp) (c:Code) (Q:SX→St→Prop) (st:St):Prop :=
 ∀ (F:Fence) (nn:Nat),Wd F→∀ (g:G) (a:Act),StR g N st a df→c.wpIn F nn P (fun ex a' w'=>∃ g' sx st',g'.w=w'∧LeN n0 g g'∧StR g' N st' a' df∧XR g' sx ex∧Q sx st') a g.w
section
variable {P:ah} {n0 N:Nat} {df:List bp} {Q:SX→St→Prop} {st:St}
theorem SW.mono {c:Code} {Q':SX→St→Prop} (h:SW P n0 N df c Q st) (k:∀ sx st,Q sx st→Q' sx st):SW P n0 N df c Q' st:=fun F nn hF g a hR =>
 aW (h F nn hF g a hR) fun _ _ _ ⟨g',sx,st',h1,h2,h3,h4,h5⟩=>⟨g',sx,st',h1,h2,h3,h4,k _ _ h5⟩
theorem D7 (h:Q .norm st):SW P n0 N df .skip Q st:=fun _ _ _ g _ hR=>wpIn_skip ⟨g,.norm,st,rfl,.refl n0 g,hR,trivial,h⟩
theorem N5 {i:Nat} (h:Q (.exit i) st):SW P n0 N df (.exit i) Q st:=fun _ _ _ g _ hR=>wpIn_exit ⟨g,.exit i,st,rfl,.refl n0 g,hR,rfl,h⟩
theorem C9 (h:Q .ret st):SW P n0 N df .ret Q st:=fun _ _ _ g _ hR=>wpIn_ret ⟨g,.ret,st,rfl,.refl n0 g,hR,trivial,h⟩
def A5w (K:St→Prop) (Q:SX→St→Prop):SX→St→Prop
 | .norm,st=>K st
 | sx,st=>Q sx st
theorem B8 {x y:Code} (h:SW P n0 N df x (A5w (SW P n0 N df y Q) Q) st):SW P n0 N df (.seq x y) Q st:=fun F nn hF g a hR=>by
 refine wpIn_seq (aW (h F nn hF g a hR) ?_);rintro ex a' w' ⟨g',sx,st',rfl,h2,h3,h4,h5⟩;cases sx with
 | norm =>
  cases ex<;>first | exact h4.elim | skip
  exact aW (h5 F nn hF g' a' h3) fun _ _ _ ⟨g'',sx',st'',k1,k2,k3,k4,k5⟩=>⟨g'',sx',st'',k1,h2.trans k2,k3,k4,k5⟩
 | ret=>cases ex<;>first | exact h4.elim | exact⟨g',_,st',rfl,h2,h3,h4,h5⟩
 | exit i=>cases ex<;>first | exact h4.elim | exact⟨g',_,st',rfl,h2,h3,h4,h5⟩
 | pan t=>cases ex<;>first | exact h4.elim | exact⟨g',_,st',rfl,h2,h3,h4,h5⟩
def A34 (id:Nat) (Q:SX→St→Prop):SX→St→Prop
 | .exit i,st=>if i=id then Q .norm st else Q (.exit i) st
 | sx,st=>Q sx st
theorem A6 {K:St→Prop} (h:K st):A5w K Q .norm st:=h
theorem B2 {K:St→Prop} (h:Q .ret st):A5w K Q .ret st:=h
theorem E9 {K:St→Prop} {t:T} (h:Q (.pan t) st):A5w K Q (.pan t) st:=h
theorem D3 {i:Nat} (h:Q .norm st):A34 i Q .norm st:=h
theorem C4 {i:Nat} (h:Q .ret st):A34 i Q .ret st:=h
theorem Q0 {i:Nat} {t:T} (h:Q (.pan t) st):A34 i Q (.pan t) st:=h
theorem I5 {i:Nat} (h:Q .norm st):A34 i Q (.exit i) st:=by show(if i=i then Q .norm st else Q (.exit i) st);rw[if_pos rfl];exact h
theorem E3 {id:Nat} {c:Code} (h:SW P n0 N df c (A34 id Q) st):SW P n0 N df (.block id c) Q st:=fun F nn hF g a hR=>by
 refine wpIn_block (aW (h F nn hF g a hR) ?_);rintro ex a' w' ⟨g',sx,st',rfl,h2,h3,h4,h5⟩;cases sx with
 | norm=>cases ex<;>first | exact h4.elim | exact⟨g',.norm,st',rfl,h2,h3,trivial,h5⟩
 | ret=>cases ex<;>first | exact h4.elim | exact⟨g',.ret,st',rfl,h2,h3,trivial,h5⟩
 | exit i =>
  cases ex<;>first | exact h4.elim | skip
  rename_i j;have h4':i=j:=h4;subst h4';simp only[A34]at h5;by_cases hi:i=id
  ·rw[if_pos hi]at h5;simp only[Exit.inBlock,hi,if_true];exact⟨g',.norm,st',rfl,h2,h3,trivial,h5⟩
  ·rw[if_neg hi]at h5;simp only[Exit.inBlock,hi,if_false];exact⟨g',.exit i,st',rfl,h2,h3,rfl,h5⟩
 | pan t=>cases ex<;>first | exact h4.elim | exact⟨g',.pan t,st',rfl,h2,h3,h4,h5⟩
theorem B6d {c:aa} {x y:Code} {b:Bool} (hc:O9 st.ts c = .d (.v (.bool b))) (ht:b=true→SW P n0 N df x Q st) (hf:b=false→SW P n0 N df y Q st):SW P n0 N df (.cond c x y) Q st:=fun F nn hF g a hR=>by
 have h1:=A4G hR.ts c;rw[hc]at h1;refine wpIn_cond_split h1.v_eq (fun h=>ht h F nn hF g a hR) (fun h=>hf h F nn hF g a hR)
theorem C0 {c:aa} {x y:Code} (hc:O9 st.ts c = .d (.v (.bool true))) (h:SW P n0 N df x Q st):SW P n0 N df (.cond c x y) Q st:=B6d hc (fun _=>h) (fun h=>by cases h)
theorem C1 {c:aa} {x y:Code} (hc:O9 st.ts c = .d (.v (.bool false))) (h:SW P n0 N df y Q st):SW P n0 N df (.cond c x y) Q st:=B6d hc (fun h=>by cases h) (fun _=>h)
def L3 (P:ah) (N:Nat) (ops:Array Oper) (l:List Oper) (st:St) (tr:List Stp) (K:List Oper→List Stp→St→Prop):Prop:=∃ l1 l2 tr' st',l=l1++l2∧Ev P N ops l1 st tr' st'∧K l2 (tr++tr') st'
theorem A32 {ops:Array Oper} {l:List Oper} {tr:List Stp} {K:List Oper→List Stp→St→Prop} (h:K l tr st):L3 P N ops l st tr K:=⟨[],l,[],st,rfl,.nil st,by rwa [aH]⟩
theorem A2i {ops:Array Oper} {o:Oper} {l:List Oper} {tr:List Stp} {K:List Oper→List Stp→St→Prop} {s:Stp} {st1:St} (h:A7s P N ops o st s st1) (k:L3 P N ops l st1 (tr++[s]) K):L3 P N ops (o::l) st tr K:=by
 obtain⟨l1,l2,tr',st',rfl,h1,h2⟩:=k;exact⟨o::l1,l2,s::tr',st',rfl,.cons h h1,by rwa [bI]at h2⟩
def B7w (K:St→Prop):List Oper→List Stp→St→Prop:=fun l _ st=>l=[]∧K st
def B9E (ops:Array Oper) (K:St→Prop):List Oper→List Stp→St→Prop:=fun l tr st=>l=[]∧B0s ops tr=true∧K st
theorem B6R {id:Nat} {ops:Array Oper} (h:L3 P N ops ops.toList st [] (B7w (Q .norm))):SW P n0 N df (.region id ops false) Q st:=fun F nn hF g a hR=>by
 obtain⟨l1,l2,tr,st',e,h1,rfl,h2⟩:=h;rw[aH]at e;exact B4p hF (e▸h1) hR fun g' a' hl hR'=>⟨g',.norm,st',rfl,hl.toN n0,hR',trivial,h2⟩
theorem B9n (hm:P.follows .mixedOrders=true) {id:Nat} {ops:Array Oper} (h:L3 P N ops ops.toList st [] (B9E ops (Q .norm))):SW P n0 N df (.region id ops true) Q st:=fun F nn hF g a hR=>by
 obtain⟨l1,l2,tr,st',e,h1,rfl,h2,h3⟩:=h;rw[aH]at e;rw[cf]at h2;exact B0g hm hF (e▸h1) h2 hR fun g' a' hl hR'=>⟨g',.norm,st',rfl,hl.toN n0,hR',trivial,h3⟩
theorem least {p:Nat→Prop} (h:∃ m,p m):∃ m,p m∧∀ k,p k→m≤k:=by
 obtain⟨m,hm⟩:=h;induction m using eI with
 | _ m ih =>
  by_cases hk:∃ k,k<m∧p k
  ·obtain⟨k,h1,h2⟩:=hk;exact ih k h1 h2
  ·exact⟨m,hm,fun k hp=>Nat.le_of_not_lt fun h=>hk ⟨k,h,hp⟩⟩
end
end Go.Proofs.YtlaogbbcipebgaaGreat.Sh
