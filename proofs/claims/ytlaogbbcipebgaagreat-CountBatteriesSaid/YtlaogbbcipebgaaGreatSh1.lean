/- A plainer picture of the machine: values as trees, blocks of the call's own under names; what a world and a value have to do with such a picture. Over whatever program. -/
import Derived.WalkKit
import Derived.CallsIn
import Derived.OrdersIn
import Derived.Laws.AppendOwn
import Derived.Laws.CopyRow
import Derived.Deep.MidRow
import Derived.Below
namespace Go.Proofs.YtlaogbbcipebgaaGreat.Sh
set_option linter.unusedVariables false
set_option linter.unusedSimpArgs false
open Go

inductive D where
 | v (x:Value)
 | agg (l:List D)
 | tup (l:List D)
 | arr (s:Nat) (l:List D)
 | el (s:Nat) (l:List D) (i o:Nat)
 | mp (ks:List Value) (vs:List D)
  deriving Inhabited
def D.cells:D→List D
 | .agg l=>l
 | x=>[x]
inductive T where
 | d (x:D)
 | bot
 | ref (n s i o:Nat)
 | row (n s lo len:Nat)
 | agg (l:List T)
 | tup (l:List T)
 | fn (f:Fn) (first caps:List T)
 | iface (t:TypeId) (x:T)
 | mp (n:Nat)
  deriving Inhabited
def T.cells:T→List T
 | .d (.agg l)=>l.map .d
 | .agg l=>l
 | x=>[x]
def A8N:List T→Option (List D)
 | []=>some []
 | .d x::l=>(A8N l).map (x::·)
 | _=>none
def mkAgg (l:List T):T:=match A8N l with
 | some ds => .d (.agg ds)
 | none => .agg l
def mkTup (l:List T):T:=match A8N l with
 | some ds => .d (.tup ds)
 | none => .tup l
structure Rw where
 s:Nat
 els:List T
structure G where
 M:Nat→Option (Option Rw)
 β:Nat→Nat × Nat
 K:Nat→Prop
 w:World
def one (c:Value):Prop:=c.oneCell'=true
inductive VD (g:G):D→Value→Prop where
 | v (x:Value) (h:one x):VD g (.v x) x
 | agg (l:List D) (cs:Array Value) (hl:l.length=cs.size) (h:∀ (i:Nat) (d:D) (c:Value),l[i]?=some d→cs[i]?=some c→VD g d c):VD g (.agg l) (.agg cs)
 | tup (l:List D) (cs:Array Value) (hl:l.length=cs.size) (h:∀ (i:Nat) (d:D) (c:Value),l[i]?=some d→cs[i]?=some c→VD g d c):VD g (.tup l) (.tuple cs)
 | arr0 (s:Nat) (a:Option Addr) (cap:Nat):VD g (.arr s []) (.slice a 0 cap)
 | arr (s:Nat) (l:List D) (b off cap:Nat) (f:Nat→Nat→Value) (hc:l.length≤cap) (hK:g.K b) (hs:∀ (i:Nat) (d:D),l[i]?=some d→d.cells.length=s)
   (hw:∀ (i:Nat) (d:D),l[i]?=some d→∀ (j:Nat) (e:D),d.cells[j]?=some e→g.w.cell? ⟨b,off+i*s+j,none⟩=some (f i j))
   (hv:∀ (i:Nat) (d:D),l[i]?=some d→∀ (j:Nat) (e:D),d.cells[j]?=some e→VD g e (f i j)):VD g (.arr s l) (.slice (some ⟨b,off,none⟩) l.length cap)
 | el (s:Nat) (l:List D) (i o b off:Nat) (f:Nat→Nat→Value) (hK:l≠[]→g.K b) (hs:∀ (i:Nat) (d:D),l[i]?=some d→d.cells.length=s)
   (hw:∀ (i:Nat) (d:D),l[i]?=some d→∀ (j:Nat) (e:D),d.cells[j]?=some e→g.w.cell? ⟨b,off+i*s+j,none⟩=some (f i j))
   (hv:∀ (i:Nat) (d:D),l[i]?=some d→∀ (j:Nat) (e:D),d.cells[j]?=some e→VD g e (f i j)):VD g (.el s l i o) (.pointer (some ⟨b,off+i*s+o,none⟩))
 | mp (ks:List Value) (vs:List D) (b:Nat) (es:Array MapEntry) (clock:Nat) (hK:g.K b) (hh:g.w.heap[b]?=some (.map es clock)) (hl:ks.length=es.size) (hl2:vs.length=es.size) (hk:∀ (i:Nat) (k:Value) (e:MapEntry),ks[i]?=some k→es[i]?=some e→e.key=k)
   (hv:∀ (i:Nat) (d:D) (e:MapEntry),vs[i]?=some d→es[i]?=some e→VD g d e.val):VD g (.mp ks vs) (.map (some b))
inductive VT (g:G):T→Value→Prop where
 | d {x:D} {c:Value} (h:VD g x c):VT g (.d x) c
 | bot (c:Value):VT g .bot c
 | ref (n s i o:Nat) (hn:g.M n≠none) (hs:s≠0):VT g (.ref n s i o) (.pointer (some ⟨(g.β n).1,i*s+o,none⟩))
 | row (n s lo len:Nat) (a:Option Addr) (hn:g.M n≠none) (hs:s≠0) (hl:lo+len≤(g.β n).2) (ha:(g.β n).2≠0→a=some ⟨(g.β n).1,lo*s,none⟩):VT g (.row n s lo len) (.slice a len ((g.β n).2-lo))
 | mp (n:Nat) (hn:g.M n≠none):VT g (.mp n) (.map (some (g.β n).1))
 | agg (l:List T) (cs:Array Value) (hl:l.length=cs.size) (h:∀ (i:Nat) (d:T) (c:Value),l[i]?=some d→cs[i]?=some c→VT g d c):VT g (.agg l) (.agg cs)
 | tup (l:List T) (cs:Array Value) (hl:l.length=cs.size) (h:∀ (i:Nat) (d:T) (c:Value),l[i]?=some d→cs[i]?=some c→VT g d c):VT g (.tup l) (.tuple cs)
 | fn (f:Fn) (l m:List T) (cs ds:Array Value) (hl:l.length=cs.size) (h:∀ (i:Nat) (d:T) (c:Value),l[i]?=some d→cs[i]?=some c→VT g d c)
   (hm:m.length=ds.size) (k:∀ (i:Nat) (d:T) (c:Value),m[i]?=some d→ds[i]?=some c→VT g d c):VT g (.fn f l m) (.func f cs ds)
 | iface (t:TypeId) (x:T) (c:Value) (h:VT g x c):VT g (.iface t x) (.iface t c)
def NL (g:G) (b:Nat):Prop:=∀ n r,g.M n=some (some r)→(g.β n).2≠0→(g.β n).1≠b
def B7i (g:G) (n:Nat) (r:Rw):Prop :=
 ∃ cells e,g.w.heap[(g.β n).1]?=some (.cells cells e (0,0))∧cells.size=(g.β n).2*r.s∧r.els.length≤(g.β n).2 ∧
  ∀ (i:Nat) (x:T),r.els[i]?=some x→x.cells.length=r.s∧∀ (j:Nat) (y:T),x.cells[j]?=some y→∃ c,cells[i*r.s+j]?=some c∧VT g y c
def C0U (g:G) (n:Nat) (r:Rw):Prop :=
 ∃ es clock,g.w.heap[(g.β n).1]?=some (.map es clock)∧es.size=r.els.length∧∀ (i:Nat) (x:T),r.els[i]?=some x→∃ k y e,x = .agg [.d (.v k),y]∧es[i]?=some e∧e.key=k∧VT g y e.val
def A4q (g:G) (n:Nat) (r:Rw):Prop:=((g.β n).2=0∧r.els=[]∧r.s≠0)∨(r.s≠0∧B7i g n r)∨(r.s=0∧(g.β n).2=1∧C0U g n r)
structure P6 (g:G):Prop where
 rows:∀ n r,g.M n=some (some r)→A4q g n r
 inj:∀ n m r q,g.M n=some (some r)→g.M m=some (some q)→(g.β n).2≠0→(g.β m).2≠0→(g.β n).1=(g.β m).1→n=m
 kd:∀ b,g.K b→b<g.w.heap.size
 kl:∀ b,g.K b→NL g b
structure Le (g g':G):Prop where
 e:∀ n,g.M n≠none→g'.M n≠none∧g'.β n=g.β n
 size:g.w.heap.size≤g'.w.heap.size
 os:g'.w.os=g.w.os
 tape:g'.w.tape=g.w.tape
 output:g'.w.output=g.w.output
 fr:∀ b,b<g.w.heap.size→NL g b→g'.w.heap[b]?=g.w.heap[b]?
 k:∀ b,g.K b→g'.K b
 k':∀ b,b<g.w.heap.size→g'.K b→g.K b∨¬ NL g b
 nl:∀ n r,g'.M n=some (some r)→(g'.β n).2≠0→(g'.β n).1<g.w.heap.size→¬ NL g (g'.β n).1
theorem Le.refl (g:G):Le g g:=⟨fun _ h=>⟨h,rfl⟩,Nat.le_refl _,rfl,rfl,rfl,fun _ _ _=>rfl,fun _ h=>h,fun _ _ h => .inl h,fun n r h h0 _ hn=>hn n r h h0 rfl⟩
theorem Le.keepNL {g g':G} (h:Le g g') {b:Nat} (hb:b<g.w.heap.size) (hn:NL g b):NL g' b:=fun n r hr h0 he=>h.nl n r hr h0 (by rw[he];exact hb) (he▸hn)
theorem Le.trans {a b c:G} (h:Le a b) (k:Le b c):Le a c where
 e n hn:=by
  obtain⟨h1,h2⟩:=h.e n hn
  obtain⟨k1,k2⟩:=k.e n h1
  exact⟨k1,k2.trans h2⟩
 size:=Nat.le_trans h.size k.size
 os:=k.os.trans h.os
 tape:=k.tape.trans h.tape
 output:=k.output.trans h.output
 fr x hx hn:=(k.fr x (Nat.lt_of_lt_of_le hx h.size) (h.keepNL hx hn)).trans (h.fr x hx hn)
 k x hx:=k.k x (h.k x hx)
 k' x hx hk:=by
  rcases k.k' x (Nat.lt_of_lt_of_le hx h.size) hk with h1 | h1
  ·exact h.k' x hx h1
  ·exact .inr fun hn=>h1 (h.keepNL hx hn)
 nl n r hr h0 hlt:=by
  intro hn
  exact k.nl n r hr h0 (Nat.lt_of_lt_of_le hlt h.size) (h.keepNL hlt hn)
theorem VD.mono {g g':G} (hg:P6 g) (hl':Le g g') {d:D} {c:Value} (h:VD g d c):VD g' d c:=by
 have hc:∀ b o v,g.K b→g.w.cell? ⟨b,o,none⟩=some v→g'.w.cell? ⟨b,o,none⟩=some v:=fun b o v hb hv=>by
  unfold World.cell? at hv ⊢
  rw[hl'.fr b (hg.kd b hb) (hg.kl b hb)]
  exact hv
 induction h with
 | v x h=>exact .v x h
 | agg l cs hl h ih=>exact .agg l cs hl ih
 | tup l cs hl h ih=>exact .tup l cs hl ih
 | arr0 s a cap=>exact .arr0 s a cap
 | arr s l b off cap f hcap hK hs hw hv ih=>exact .arr s l b off cap f hcap (hl'.k b hK) hs (fun i d hd j e he=>hc _ _ _ hK (hw i d hd j e he)) ih
 | el s l i o b off f hK hs hw hv ih=>exact .el s l i o b off f (fun h=>hl'.k b (hK h)) hs (fun i d hd j e he=>hc _ _ _ (hK (by rintro rfl;simp at hd)) (hw i d hd j e he)) ih
 | mp ks vs b es clock hK hh hl hl2 hk hv ih=>exact .mp ks vs b es clock (hl'.k b hK) (by rw[hl'.fr b (hg.kd b hK) (hg.kl b hK)];exact hh) hl hl2 hk ih
theorem VT.mono {g g':G} (hg:P6 g) (hl:Le g g') {t:T} {c:Value} (h:VT g t c):VT g' t c:=by
 induction h with
 | d h=>exact .d (h.mono hg hl)
 | bot c=>exact .bot c
 | ref n s i o hn hs=>obtain⟨h1,h2⟩:=hl.e n hn;rw[← h2];exact .ref n s i o h1 hs
 | row n s lo len a hn hs hle ha=>obtain⟨h1,h2⟩:=hl.e n hn;rw[← h2]at ha ⊢;exact .row n s lo len a h1 hs (by rw[h2];exact hle) ha
 | mp n hn=>obtain⟨h1,h2⟩:=hl.e n hn;rw[← h2];exact .mp n h1
 | agg l cs hl h ih=>exact .agg l cs hl ih
 | tup l cs hl h ih=>exact .tup l cs hl ih
 | fn f l m cs ds hl h hm k ih ik=>exact .fn f l m cs ds hl ih hm ik
 | iface t x c h ih=>exact .iface t x c ih
theorem A4q.keep {g g':G} (hg:P6 g) (hl:Le g g') {n:Nat} {r:Rw} (h:A4q g n r) (hb:g'.β n=g.β n) (hh:(g.β n).2≠0→g'.w.heap[(g.β n).1]?=g.w.heap[(g.β n).1]?):A4q g' n r:=by
 by_cases h0:(g.β n).2=0
 ·rcases h with⟨_,h2,h3⟩ | ⟨h2,cells,e,h3,h4,h5,h6⟩ | ⟨_,h2,_⟩
  ·exact .inl ⟨by rw[hb];exact h0,h2,h3⟩
  ·exact .inl ⟨by rw[hb];exact h0,List.length_eq_zero_iff.1 (by omega),h2⟩
  ·omega
 replace hh:=hh h0
 rcases h with⟨h1,h2⟩ | ⟨hs,cells,e,h1,h2,h3,h4⟩ | ⟨hs,hc,es,clock,h1,h2,h3⟩
 ·exact .inl ⟨by rw[hb];exact h1,h2⟩
 ·refine .inr (.inl ⟨hs,cells,e,by rw[hb,hh];exact h1,by rw[hb];exact h2,by rw[hb];exact h3,fun i x hx=>⟨(h4 i x hx).1,fun j y hy=>?_⟩⟩)
  obtain⟨c,hc,hv⟩:=(h4 i x hx).2 j y hy
  exact⟨c,hc,hv.mono hg hl⟩
 ·refine .inr (.inr ⟨hs,by rw[hb];exact hc,es,clock,by rw[hb,hh];exact h1,h2,fun i x hx=>?_⟩)
  obtain⟨k,y,e,h4,h5,h6,h7⟩:=h3 i x hx
  exact⟨k,y,e,h4,h5,h6,h7.mono hg hl⟩
theorem A4q.lt {g:G} {n:Nat} {r:Rw} (h:A4q g n r) (h0:(g.β n).2≠0):(g.β n).1<g.w.heap.size:=by
 rcases h with⟨h1,_⟩ | ⟨_,cells,e,h1,_⟩ | ⟨_,_,es,clock,h1,_⟩
 ·exact absurd h1 h0
 ·exact(Array.getElem?_eq_some_iff.1 h1).1
 ·exact(Array.getElem?_eq_some_iff.1 h1).1
theorem A4q.has {g:G} {n:Nat} {r:Rw} (h:A4q g n r) (hs:r.s≠0) {i:Nat} {x:T} (hx:r.els[i]?=some x):(g.β n).2≠0∧B7i g n r:=by
 rcases h with⟨_,h2,_⟩ | ⟨_,h2⟩ | ⟨h2,_⟩
 ·rw[h2]at hx;simp at hx
 ·obtain⟨cells,e,h3,h4,h5,h6⟩:=h2
  have:=(List.getElem?_eq_some_iff.1 hx).1
  exact⟨by omega,cells,e,h3,h4,h5,h6⟩
 ·exact absurd h2 hs
theorem A4q.le {g:G} {n:Nat} {r:Rw} (h:A4q g n r) (hs:r.s≠0):r.els.length≤(g.β n).2:=by
 rcases h with⟨_,h2,_⟩ | ⟨_,cells,e,_,_,h5,_⟩ | ⟨h2,_⟩
 ·rw[h2];simp
 ·exact h5
 ·exact absurd h2 hs
theorem A4q.rel {g g':G} {n n':Nat} {r r':Rw} (h:A4q g n r) (hs:r'.s=r.s) (hb:g'.β n'=g.β n) (hh:(g.β n).2≠0→g'.w.heap[(g.β n).1]?=g.w.heap[(g.β n).1]?) (hl:r'.els.length=r.els.length)
  (R:T→T→Prop) (hR:∀ (i:Nat) (x x':T),r.els[i]?=some x→r'.els[i]?=some x'→R x x') (hc:∀ x x',R x x'→x.cells.length=x'.cells.length∧∀ (j:Nat) (y y':T),x.cells[j]?=some y→x'.cells[j]?=some y'→R y y')
  (hm:∀ k y x',R (.agg [.d (.v k),y]) x'→∃ y',x' = .agg [.d (.v k),y']∧R y y') (hv:∀ t t' c,R t t'→VT g t c→VT g' t' c):A4q g' n' r':=by
 by_cases h0:(g.β n).2=0
 ·rcases h with⟨_,h2,h3⟩ | ⟨h2,cells,e,h3,h4,h5,h6⟩ | ⟨_,h2,_⟩
  ·exact .inl ⟨by rw[hb];exact h0,List.length_eq_zero_iff.1 (by rw[hl,h2];rfl),by rw[hs];exact h3⟩
  ·exact .inl ⟨by rw[hb];exact h0,List.length_eq_zero_iff.1 (by omega),by rw[hs];exact h2⟩
  ·omega
 replace hh:=hh h0
 have get:∀ (i:Nat) (x':T),r'.els[i]?=some x'→∃ x,r.els[i]?=some x:=fun i x' hx=>⟨_,List.getElem?_eq_getElem (by have:=(List.getElem?_eq_some_iff.1 hx).1;omega)⟩
 rcases h with⟨h1,h2⟩ | ⟨hs',cells,e,h1,h2,h3,h4⟩ | ⟨hs',hc',es,clock,h1,h2,h3⟩
 ·exact absurd h1 h0
 ·refine .inr (.inl ⟨by rw[hs];exact hs',cells,e,by rw[hb,hh];exact h1,by rw[hb,hs];exact h2,by rw[hb,hl];exact h3,fun i x' hx'=>?_⟩)
  obtain⟨x,hx⟩:=get i x' hx'
  obtain⟨k1,k2⟩:=hc x x' (hR i x x' hx hx')
  refine⟨by rw[hs,← k1];exact(h4 i x hx).1,fun j y' hy'=>?_⟩
  have hj:j<x.cells.length:=by rw[k1];exact(List.getElem?_eq_some_iff.1 hy').1
  have hy:x.cells[j]?=some x.cells[j]:=List.getElem?_eq_getElem hj
  obtain⟨c,k3,k4⟩:=(h4 i x hx).2 j _ hy
  exact⟨c,by rw[hs];exact k3,hv _ _ c (k2 j _ y' hy hy') k4⟩
 ·refine .inr (.inr ⟨by rw[hs];exact hs',by rw[hb];exact hc',es,clock,by rw[hb,hh];exact h1,by rw[hl];exact h2,fun i x' hx'=>?_⟩)
  obtain⟨x,hx⟩:=get i x' hx'
  obtain⟨k,y,e,rfl,h5,h6,h7⟩:=h3 i x hx
  obtain⟨y',rfl,h8⟩:=hm k y x' (hR i _ x' hx hx')
  exact⟨k,y',e,rfl,h5,h6,hv _ _ _ h8 h7⟩

def VTs (g:G) (l:List T) (cs:List Value):Prop:=l.length=cs.length∧∀ (i:Nat) (d:T) (c:Value),l[i]?=some d→cs[i]?=some c→VT g d c
theorem VTs.nil (g:G):VTs g [] []:=⟨rfl,fun i d c h=>by simp at h⟩
theorem VTs.cons {g:G} {t:T} {c:Value} {l:List T} {cs:List Value} (h:VT g t c) (k:VTs g l cs):VTs g (t::l) (c::cs) :=
 ⟨by simp[k.1],fun i d e hd he=>by
  cases i with
  | zero=>simp at hd he;subst hd;subst he;exact h
  | succ i=>exact k.2 i d e (by simpa using hd) (by simpa using he)⟩
theorem VTs.mono {g g':G} (hg:P6 g) (hl:Le g g') {l:List T} {cs:List Value} (h:VTs g l cs):VTs g' l cs:=⟨h.1,fun i d c hd hc=>(h.2 i d c hd hc).mono hg hl⟩
def T.one:T→Bool
 | .d (.agg _) | .d (.tup _) | .bot | .agg _ | .tup _=>false
 | _=>true
theorem VD.one {g:G} {d:D} {c:Value} (h:VD g d c) (hd:T.one (.d d)=true):Sh.one c:=by
 cases h with
 | v x h'=>exact h'
 | agg=>simp[T.one]at hd
 | tup=>simp[T.one]at hd
 | arr0=>rfl
 | arr=>rfl
 | el=>rfl
 | mp=>rfl
theorem VT.one {g:G} {t:T} {c:Value} (h:VT g t c) (ht:t.one=true):Sh.one c:=by
 cases h with
 | d h=>exact h.one ht
 | bot=>simp[T.one]at ht
 | agg=>simp[T.one]at ht
 | tup=>simp[T.one]at ht
 | _=>rfl
theorem B6s {c:Value} (h:one c):c.cells=#[c]:=by cases c<;>first | rfl | (simp[Sh.one,Value.oneCell']at h)
theorem VT.cells {g:G} {t:T} {c:Value} (h:VT g t c) (ht:∀ x∈t.cells,x.one=true):VTs g t.cells c.cells.toList:=by
 have single:∀ {t:T} {c:Value},VT g t c→t.one=true→t.cells=[t]→VTs g t.cells c.cells.toList:=fun {t c} h h1 h2=>by
  rw[h2,B6s (h.one h1)]
  exact .cons h (.nil g)
 cases h with
 | d h =>
  cases h with
  | v _ h=>exact single (.d (.v _ h)) rfl rfl
  | agg l cs hl h =>
    refine⟨by simp[T.cells,hl,Value.cells],fun i d c hd hc=>?_⟩
    simp only[T.cells,List.getElem?_map,Option.map_eq_some_iff]at hd
    obtain⟨d',hd',rfl⟩:=hd
    exact .d (h i d' c hd' (by simpa[Value.cells]using hc))
  | tup l cs hl h=>exact absurd (ht (.d (.tup l)) (by simp[T.cells])) (by simp[T.one])
  | arr0 s a cap=>exact single (.d (.arr0 s a cap)) rfl rfl
  | arr s l b off cap f h1 h2 h3 h4 h5=>exact single (.d (.arr s l b off cap f h1 h2 h3 h4 h5)) rfl rfl
  | el s l i o b off f h1 h2 h3 h4=>exact single (.d (.el s l i o b off f h1 h2 h3 h4)) rfl rfl
  | mp ks vs b es clock h1 h2 h3 h4 h5 h6=>exact single (.d (.mp ks vs b es clock h1 h2 h3 h4 h5 h6)) rfl rfl
 | bot=>exact absurd (ht .bot (by simp[T.cells])) (by simp[T.one])
 | ref n s i o hn hs=>exact single (.ref n s i o hn hs) rfl rfl
 | row n s lo len a hn hs hl ha=>exact single (.row n s lo len a hn hs hl ha) rfl rfl
 | mp n hn=>exact single (.mp n hn) rfl rfl
 | agg l cs hl h=>exact⟨by simp[T.cells,hl,Value.cells],fun i d c hd hc=>h i d c hd (by simpa[Value.cells]using hc)⟩
 | tup l cs hl h=>exact absurd (ht (.tup l) (by simp[T.cells])) (by simp[T.one])
 | fn f l m cs ds h1 h2 h3 h4=>exact single (.fn f l m cs ds h1 h2 h3 h4) rfl rfl
 | iface t x c h=>exact single (.iface t x c h) rfl rfl
theorem A7T:∀ {l:List T} {ds:List D},A8N l=some ds→l=ds.map .d
 | [],ds,h=>by simp[A8N]at h;subst h;rfl
 | .d x::l,ds,h=>by
   simp only[A8N,Option.map_eq_some_iff]at h
   obtain⟨r,hr,rfl⟩:=h
   simp[A7T hr]
 | .bot::l,ds,h=>by simp[A8N]at h
 | .ref ..::l,ds,h=>by simp[A8N]at h
 | .row ..::l,ds,h=>by simp[A8N]at h
 | .agg _::l,ds,h=>by simp[A8N]at h
 | .tup _::l,ds,h=>by simp[A8N]at h
 | .fn ..::l,ds,h=>by simp[A8N]at h
 | .iface ..::l,ds,h=>by simp[A8N]at h
 | .mp _::l,ds,h=>by simp[A8N]at h
theorem VT.mkAgg {g:G} {l:List T} {cs:List Value} (h:VTs g l cs):VT g (mkAgg l) (.agg cs.toArray):=by
 unfold Sh.mkAgg
 split
 ·rename_i ds hds
  have e:=A7T hds
  subst e
  refine .d (.agg ds _ (by simpa using h.1) fun i d c hd hc=>?_)
  have:=h.2 i (.d d) c (by simp[hd]) (by simpa using hc)
  cases this with
  | d h=>exact h
 ·exact .agg l _ (by simpa using h.1) fun i d c hd hc=>h.2 i d c hd (by simpa using hc)
theorem VT.mkTup {g:G} {l:List T} {cs:List Value} (h:VTs g l cs):VT g (mkTup l) (.tuple cs.toArray):=by
 unfold Sh.mkTup
 split
 ·rename_i ds hds
  have e:=A7T hds
  subst e
  refine .d (.tup ds _ (by simpa using h.1) fun i d c hd hc=>?_)
  have:=h.2 i (.d d) c (by simp[hd]) (by simpa using hc)
  cases this with
  | d h=>exact h
 ·exact .tup l _ (by simpa using h.1) fun i d c hd hc=>h.2 i d c hd (by simpa using hc)
theorem B3P (l:List T):(mkAgg l).cells=l:=by
 unfold mkAgg
 split
 ·rename_i ds h;rw[A7T h];rfl
 ·rfl
end Go.Proofs.YtlaogbbcipebgaaGreat.Sh
