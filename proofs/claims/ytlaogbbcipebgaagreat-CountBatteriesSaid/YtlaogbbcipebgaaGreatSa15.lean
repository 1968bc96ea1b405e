/- What comes in, as data in a plain picture; a function over data that is called from outside. Over whatever program. -/
import Derived.Test.YtlaogbbcipebgaaGreatSa14
import Derived.ProofKit
import Derived.OpenShut
import Derived.ShutString
import Derived.ChangeOld
import Derived.Below
import Derived.Lib.SmallJoins
import Derived.Deep.Slices
namespace Go.Proofs.YtlaogbbcipebgaaGreat.Sh
set_option linter.unusedVariables false
set_option linter.unusedSimpArgs false
open Go Go.ChangeShapes Go.WideShapes Go.ChangeAt Go.RowKit Go.Joins Go.Deep
def gW (w:World):G:=⟨fun _=>none,fun _=>(0,0),fun b=>b<w.heap.size,w⟩
theorem B8F (w:World):P6 (gW w):=⟨fun _ _ h=>(by cases h),fun _ _ _ _ h=>(by cases h),fun _ h=>h,fun _ _ _ _ h=>(by cases h)⟩
theorem PC.below {P:Program} {f:FuncId} {ds:List D} {y:Value} {vs:List Value} {w:World} (h:PC P f ds (.v y)) (hl:ds.length=vs.length) (hv:∀ (i:Nat) (d:D) (c:Value),ds[i]?=some d→vs[i]?=some c→VD (gW w) d c) :
  Calls P f vs.toArray w fun e w'=>e = .returned y∧Below w.heap.size w w':=by
 refine(h (gW w) vs (B8F w) (by funext n;simp[gW,ofL]) ⟨by simpa using hl,fun i t c ht hc=>?_⟩).mono ?_
 ·rw[List.getElem?_map]at ht
  obtain⟨d,hd,rfl⟩:=Option.map_eq_some_iff.1 ht
  exact .d (hv i d c hd hc)
 ·rintro e w' ⟨g',se,L',rfl,hg,hle,hM,hse,rfl,rfl⟩
  refine⟨?_,hle.os,hle.tape,hle.output,hle.size,fun k hk=>hle.fr k hk fun _ _ h=>(by cases h)⟩
  cases e with
  | returned v =>
   cases hse with | d h=>cases h with | v=>rfl
  | _=>cases hse
def CV (w:World) (cs:List Value) (d:D):Prop:=cs.length=d.cells.length∧∀ (j:Nat) (e:D) (c:Value),d.cells[j]?=some e→cs[j]?=some c→VD (gW w) e c
section
variable {P:Program} {H:Type} {enc:TypeId × Value→H} {W:World}
theorem J8 {t:TypeId} {fs:Array Field} {fuel:Nat} {cs:List Value} {x:DataW H × List MemPlace} (hs:P.underlying t=some (.struct fs)) (h:DataW.trod enc P W 0 (fun _=>true) true fuel t cs=some x) (i:Nat) (f:Field) (hf:fs[i]?=some f) (ds:List Value) (hd:(cs.drop f.offset).take (P.cellsOf f.type)=ds) :
  ∃ n y,DataW.trod enc P W 0 (fun _=>true) true n f.type ds=some y:=by
 obtain⟨xs,n,_,_,_,hlen,hg⟩:=DataW.trod_struct hs h
 have hi:i<xs.length:=by
  have:=(Array.getElem?_eq_some_iff.1 hf).1
  omega
 refine⟨n,xs[i],?_⟩
 rw[← hd,hg i f hf,List.getElem?_eq_getElem hi]
theorem A3n {t:TypeId} {fs:Array Field} {fuel:Nat} {cs:List Value} {x:DataW H × List MemPlace} (hs:P.underlying t=some (.struct fs)) (h:DataW.trod enc P W 0 (fun _=>true) true fuel t cs=some x):cs.length=P.cellsOf t:=by
 obtain⟨xs,n,_,_,hl,_,_⟩:=DataW.trod_struct hs h
 exact hl
theorem T8 {k:IntKind} {t:TypeId} {n:Nat} {c:Value} {y:DataW H × List MemPlace} (ht:P.underlying t=some (.int k)) (h:DataW.trod enc P W 0 (fun _=>true) true n t [c]=some y):∃ a:Int,VD (gW W) (.v (.int k a)) c∧(Lit.int k a).wf=true:=by
 obtain⟨a,e,_,hw⟩:=DataW.trod_int ht h
 injection e with e
 subst e
 exact⟨a,.v _ rfl,hw⟩
theorem B5N {t:TypeId} {n:Nat} {c:Value} {y:DataW H × List MemPlace} (ht:P.underlying t=some .bool) (h:DataW.trod enc P W 0 (fun _=>true) true n t [c]=some y):∃ a:Bool,VD (gW W) (.v (.bool a)) c∧True:=by
 obtain⟨a,e,_⟩:=DataW.trod_bool ht h
 injection e with e
 subst e
 exact⟨a,.v _ rfl,trivial⟩
theorem B0Z {t:TypeId} {n:Nat} {c:Value} {y:DataW H × List MemPlace} (ht:P.underlying t=some .string) (h:DataW.trod enc P W 0 (fun _=>true) true n t [c]=some y):∃ a:ByteArray,VD (gW W) (.v (.string a)) c∧a.size≤9223372036854775807:=by
 obtain⟨a,e,_,hs⟩:=DataW.trod_string ht h
 injection e with e
 subst e
 refine⟨a,.v _ rfl,?_⟩
 unfold maxLen at hs
 exact hs
theorem CV.one {cs:List Value} {d:D} {c:Value} (hc:cs=[c]) (hd:d.cells=[d]) (h:VD (gW W) d c):CV W cs d:=by
 subst hc
 refine⟨by rw[hd];rfl,fun j e c' he hc=>?_⟩
 rw[hd]at he
 cases j with
 | zero=>cases he;cases hc;exact h
 | succ j=>cases he
theorem A7S (b off k:Nat):(⟨b,off,none⟩:Addr).add k=⟨b,off+k,none⟩:=by
 unfold Addr.add
 by_cases h:k=0
 ·subst h;rfl
 ·simp[h]
theorem A2f {α:Type} (en:α→D) (good:α→Prop) {t e:TypeId} {size:Nat} {n:Nat} {c:Value} {y:DataW H × List MemPlace} (ht:P.underlying t=some (.slice e)) (hc:P.cellsOf e=size) (hs:0<size) (hz:∀ a:α,(en a).cells.length=size)
  (hread:∀ n cs (y:DataW H × List MemPlace),DataW.trod enc P W 0 (fun _=>true) true n e cs=some y→∃ a:α,CV W cs (en a)∧good a)
  (h:DataW.trod enc P W 0 (fun _=>true) true n t [c]=some y):∃ l:List α,VD (gW W) (.arr size (l.map en)) c∧l.length≤9223372036854775807∧∀ a∈l,good a:=by
 rcases open_slice ht h with⟨e1,_⟩ | ⟨a,len,cap,m,n',D',Pl,e1,_,hlc,hcm,hm,_,hel⟩
 ·injection e1 with e1
  subst e1
  exact⟨[],.arr0 _ _ _,by simp,by simp⟩
 ·injection e1 with e1
  subst e1
  rw[if_pos rfl]at hm
  subst m
  unfold maxLen at hcm
  have key:∀ i:_root_.Fin len,∃ x:α,good x∧∃ cs,cs.length=size∧CV W cs (en x)∧∀ k,k<size→W.cell? ((a.add (i.1*size)).add k)=cs[k]?:=by
   intro i
   obtain⟨cs',h1,h2⟩:=hel i.1 (by have:=i.2;omega)
   rw[hc]at h1
   obtain⟨x,hcs,hg⟩:=hread _ _ _ h2
   exact⟨x,hg,cs',hcs.1.trans (hz x),hcs,(World.cells?_some h1).2.2⟩
  obtain⟨g,hg⟩:=Classical.skolem.1 key
  by_cases hpos:len=0
  ·subst hpos
   exact⟨[],.arr0 _ _ _,by simp,by simp⟩
  obtain⟨b,off,spot⟩:=a
  obtain⟨cs0,l0,_,h0⟩:=(hg ⟨0,by omega⟩).2
  have h0':=h0 0 hs
  rw[List.getElem?_eq_getElem (by omega)]at h0'
  have hspot:spot=none:=by simpa[Addr.add]using World.cell?_spot h0'
  subst hspot
  have hblk:b<W.heap.size:=by simpa[Addr.add]using World.block_lt_of_cell? W _ h0'
  have hlen:((List.finRange len).map g).length=len:=by simp
  have hat:∀ (i:Nat) (hi:i<len),(((List.finRange len).map g).map en)[i]?=some (en (g ⟨i,hi⟩)):=fun i hi=>by
   rw[List.getElem?_map,List.getElem?_map,List.getElem?_eq_getElem (by simpa using hi)]
   simp
  have lt:∀ (i:Nat) (d:D),(((List.finRange len).map g).map en)[i]?=some d→i<len:=fun i d h=>by
   have:=(List.getElem?_eq_some_iff.1 h).1
   simpa using this
  refine⟨(List.finRange len).map g,?_,by rw[hlen];omega,fun x hx=>?_⟩
  ·have hv:=VD.arr (g:=gW W) size (((List.finRange len).map g).map en) b off cap (fun i j=>(W.cell? ⟨b,off+i*size+j,none⟩).getD default) (by rw[List.length_map,hlen];exact hlc) hblk ?_ ?_ ?_
   ·rwa [List.length_map,hlen]at hv
   ·intro i d hd
    have hi:=lt i d hd
    rw[hat i hi]at hd
    injection hd with hd
    subst hd
    exact hz _
   ·intro i d hd j e hj
    have hi:=lt i d hd
    rw[hat i hi]at hd
    injection hd with hd
    subst hd
    obtain⟨cs,l1,c1,c2⟩:=(hg ⟨i,hi⟩).2
    have hjs:j<size:=by rw[← hz (g ⟨i,hi⟩)];exact(List.getElem?_eq_some_iff.1 hj).1
    have:=c2 j hjs
    rw[List.getElem?_eq_getElem (by omega)]at this
    rw[A7S,A7S]at this
    show W.cell? _=some (Option.getD (W.cell? _) _)
    rw[this]
    rfl
   ·intro i d hd j e hj
    have hi:=lt i d hd
    rw[hat i hi]at hd
    injection hd with hd
    subst hd
    obtain⟨cs,l1,c1,c2⟩:=(hg ⟨i,hi⟩).2
    have hjs:j<size:=by rw[← hz (g ⟨i,hi⟩)];exact(List.getElem?_eq_some_iff.1 hj).1
    have:=c2 j hjs
    rw[List.getElem?_eq_getElem (by omega)]at this
    rw[A7S,A7S]at this
    show VD _ e (Option.getD (W.cell? _) _)
    rw[this]
    exact c1.2 j e _ hj (List.getElem?_eq_getElem (by omega))
  ·obtain⟨i,_,rfl⟩:=List.mem_map.1 hx
   exact(hg i).1
def CVs (W:World):List D→List Value→Prop
 | [],[]=>True
 | d::ds,c::cs=>VD (gW W) d c∧CVs W ds cs
 | _,_=>False
theorem CVs.at:∀ {ds:List D} {cs:List Value},CVs W ds cs→cs.length=ds.length∧∀ (j:Nat) (e:D) (c:Value),ds[j]?=some e→cs[j]?=some c→VD (gW W) e c
 | [],[],_=>⟨rfl,fun j e c h=>by cases h⟩
 | d::ds,c::cs,h=>by
  obtain⟨h1,h2⟩:=CVs.at h.2
  refine⟨by simp[h1],fun j e c' hj hc=>?_⟩
  cases j with
  | zero=>cases hj;cases hc;exact h.1
  | succ j=>exact h2 j e c' hj hc
 | [],_::_,h=>h.elim
 | _::_,[],h=>h.elim
theorem CVs.cv {cs:List Value} {l:List D} (h:CVs W l cs):CV W cs (.agg l):=h.at
theorem A8c {k:IntKind} {t:TypeId} {n:Nat} {cs:List Value} {y:DataW H × List MemPlace} (ht:P.underlying t=some (.int k)) (h:DataW.trod enc P W 0 (fun _=>true) true n t cs=some y):∃ a:Int,CV W cs (.v (.int k a))∧(Lit.int k a).wf=true:=by
 obtain⟨a,e,_,hw⟩:=DataW.trod_int ht h
 subst e
 exact⟨a,.one rfl rfl (.v _ rfl),hw⟩
theorem B2Q {t:TypeId} {n:Nat} {cs:List Value} {y:DataW H × List MemPlace} (ht:P.underlying t=some .string) (h:DataW.trod enc P W 0 (fun _=>true) true n t cs=some y):∃ a:ByteArray,CV W cs (.v (.string a))∧a.size≤9223372036854775807:=by
 obtain⟨a,e,_,hs⟩:=DataW.trod_string ht h
 subst e
 refine⟨a,.one rfl rfl (.v _ rfl),?_⟩
 unfold maxLen at hs
 exact hs
theorem B8W {w0:Nat} {t e:TypeId} {v:Value} {d:DataW H} {p:List MemPlace} {r:Reach} (ht:P.underlying t=some (.slice e)) (hval:Value.okWide P W r w0 t v) (h:DataW.Trod enc P W 0 (fun _=>true) true t v d p):∃ n x,DataW.trod enc P W 0 (fun _=>true) true n t [v]=some x:=by
 obtain⟨a,l,c,rfl⟩:=okWide_slice ht hval
 obtain⟨fuel,hf⟩:=h
 exact⟨fuel,_,hf⟩
theorem B8V {k:IntKind} {w0:Nat} {t:TypeId} {v:Value} {d:DataW H} {p:List MemPlace} (ht:P.underlying t=some (.int k)) (hval:Value.okWide P W .any w0 t v) (h:DataW.Trod enc P W 0 (fun _=>true) true t v d p):∃ a:Int,VD (gW W) (.v (.int k a)) v∧(Lit.int k a).wf=true:=by
 obtain⟨x,rfl,_,_,wx⟩:=open_int ht hval h
 exact⟨x,.v _ rfl,wx⟩
theorem CV.agg {cs:Array Value} {l:List D} (h:CV W cs.toList (.agg l)):VD (gW W) (.agg l) (.agg cs) :=
 .agg l cs (by have:=h.1;simp[D.cells]at this;omega) fun i d c hd hc=>h.2 i d c hd (by simpa using hc)
theorem B6G {w0:Nat} {t:TypeId} {fs:Array Field} {v:Value} {d:DataW H} {p:List MemPlace} {r:Reach} (hs:P.underlying t=some (.struct fs)) (hval:Value.okWide P W r w0 t v) (h:DataW.Trod enc P W 0 (fun _=>true) true t v d p) :
  ∃ cs:Array Value,v = .agg cs∧∃ n x,DataW.trod enc P W 0 (fun _=>true) true n t cs.toList=some x:=by
 obtain⟨cs,rfl,_⟩:=okWide_struct hs hval
 obtain⟨fuel,hf⟩:=h
 exact⟨cs,rfl,fuel,_,hf⟩
end
end Go.Proofs.YtlaogbbcipebgaaGreat.Sh
