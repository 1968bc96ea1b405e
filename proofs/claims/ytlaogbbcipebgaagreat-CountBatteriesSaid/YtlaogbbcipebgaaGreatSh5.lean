/- What one operation does to a plain picture of the machine: elements, slices, lengths, append. Over whatever program. -/
import Derived.Test.YtlaogbbcipebgaaGreatSh4
namespace Go.Proofs.YtlaogbbcipebgaaGreat.Sh
set_option linter.unusedVariables false
set_option linter.unusedSimpArgs false
open Go
variable {P:Program} {o:Oper} {fresh:Nat}
theorem TOk.slice {t e:TypeId} {i:TI} (h:TOk P t i) (hs:i.sl=some e):P.underlying t=some (.slice e):=by
 obtain⟨d,hd,_,h1,_⟩:=h.und
 rw[hd,h1 e hs]
theorem TOk.array {t e:TypeId} {i:TI} {n:Nat} (h:TOk P t i) (hs:i.ar=some (n,e)):P.underlying t=some (.array n e):=by
 obtain⟨d,hd,_,_,_,h1,_⟩:=h.und
 rw[hd,h1 n e hs]
theorem TOk.struct {t:TypeId} {i:TI} (h:TOk P t i) (hs:i.fs≠[]):∃ fs,P.underlying t=some (.struct fs)∧fs.toList.map (fun f=>(f.offset,B1M P f.type,B1x P f.type))=i.fs∧∀ f∈fs,(P.info? f.type).isSome=true:=by
 obtain⟨d,hd,_,_,h1,_⟩:=h.und
 obtain⟨fs,rfl,h2,h3⟩:=h1 hs
 exact⟨fs,hd,h2,fun f hf=>(h3 f hf).1⟩
theorem B0i {t e:TypeId} {i ei:TI} (ht:TOk P t i) (hs:i.sl=some e) (he:TOk P e ei) {b off len cap:Nat} {k:IntKind} {x:Int} (h0:0≤x) (h1:x<len) (w:World) :
  (Instr.indexAt t (.slice (some ⟨b,off,none⟩) len cap) (.int k x)).run P w = .ok (.pointer (some ⟨b,off+x.toNat*ei.size,none⟩)) w:=by
 obtain⟨info,zv,hi,_,hsz,_⟩:=he.info
 simp[Instr.indexAt,asIntOf,run_underlying (ht.slice hs),h0,h1,sizeOf,typeInfo,hi,hsz,A5y]
theorem B5e {t e:TypeId} {i ei:TI} {x y:Operand} {n s lo len:Nat} {k:IntKind} {q:Int} (hop:o.op = .indexAddr t x y) (ht:TOk P t i) (hs:i.sl=some e) (he:TOk P e ei) (hz:ei.size=s) (h0:0≤q) (h1:q<len) :
  OpS P o [(x,.row n s lo len),(y,.d (.v (.int k q)))] [] [] fresh [] (.ref n s (lo+q.toNat) 0) :=
 .of_pure (fun c h=>by rw[hop]at h;cases h) fun g a hg hi hr=>by
  have hx:=hi (x,.row n s lo len) (by simp)
  have hy:=(hi (y,.d (.v (.int k q))) (by simp)).v_eq
  dsimp only at hy
  generalize hv:a.eval x=v at hx
  cases hx with | row _ _ _ _ a0 hn hs0 hl ha =>
  have ha:=ha (by omega)
  subst ha
  refine⟨.pointer (some ⟨(g.β n).1,lo*s+q.toNat*s,none⟩),by subst hz;simp[execOp,hop,hv,hy,B0i ht hs he h0 h1],?_⟩
  have:=VT.ref n s (lo+q.toNat) 0 hn hs0
  rwa [Nat.add_mul,Nat.add_zero]at this
theorem B5d {t e:TypeId} {i ei:TI} {x y:Operand} {s:Nat} {l:List D} {k:IntKind} {q:Int} (hop:o.op = .indexAddr t x y) (ht:TOk P t i) (hs:i.sl=some e) (he:TOk P e ei) (hz:ei.size=s) (h0:0≤q) (h1:q<l.length) :
  OpS P o [(x,.d (.arr s l)),(y,.d (.v (.int k q)))] [] [] fresh [] (.d (.el s l q.toNat 0)) :=
 .of_pure (fun c h=>by rw[hop]at h;cases h) fun g a hg hi hr=>by
  have hx:=hi (x,.d (.arr s l)) (by simp)
  have hy:=(hi (y,.d (.v (.int k q))) (by simp)).v_eq
  dsimp only at hy
  generalize hv:a.eval x=v at hx
  cases hx with | d hx =>
  cases hx with
  | arr0=>simp at h1;omega
  | arr _ _ b off cap f hc hK hs' hw hvv =>
  refine⟨.pointer (some ⟨b,off+q.toNat*s,none⟩),by subst hz;simp[execOp,hop,hv,hy,B0i ht hs he h0 h1],.d ?_⟩
  have:=VD.el s l q.toNat 0 b off f (fun _=>hK) hs' hw hvv
  rwa [Nat.add_zero]at this
theorem B3U {t e:TypeId} {i ei:TI} {x y:Operand} {n s j c m:Nat} {k:IntKind} {q:Int} (hop:o.op = .indexAddr t x y) (ht:TOk P t i) (hs:i.ar=some (m,e)) (he:TOk P e ei) (h0:0≤q) (h1:q<m) :
  OpS P o [(x,.ref n s j c),(y,.d (.v (.int k q)))] [] [] fresh [] (.ref n s j (c+q.toNat*ei.size)) :=
 .of_pure (fun c h=>by rw[hop]at h;cases h) fun g a hg hi hr=>by
  have hx:=hi (x,.ref n s j c) (by simp)
  have hy:=(hi (y,.d (.v (.int k q))) (by simp)).v_eq
  dsimp only at hy
  generalize hv:a.eval x=v at hx
  cases hx with | ref _ _ _ _ hn hs0 =>
  obtain⟨info,zv,hi,_,hsz,_⟩:=he.info
  refine⟨.pointer (some ⟨(g.β n).1,j*s+c+q.toNat*ei.size,none⟩),by simp[execOp,hop,hv,hy,Instr.indexAt,asIntOf,run_underlying (ht.array hs),Instr.sureAddr,h0,h1,sizeOf,typeInfo,hi,hsz,A5y],?_⟩
  have:=VT.ref n s j (c+q.toNat*ei.size) hn hs0
  rwa [← Nat.add_assoc]at this
theorem VT.slice_form {g:G} {u:T} {c:Value} {n:Nat} (h:VT g u c) (hu:(∃ s l,u = .d (.arr s l)∧l.length=n)∨(∃ m s lo,u = .row m s lo n)∨(u = .d (.v (.slice none 0 0))∧n=0)):∃ A cap,c = .slice A n cap:=by
 rcases hu with⟨s,l,rfl,rfl⟩ | ⟨m,s,lo,rfl⟩ | ⟨rfl,rfl⟩
 ·cases h with | d h=>cases h with
  | arr0 s a cap=>exact⟨_,_,rfl⟩
  | arr=>exact⟨_,_,rfl⟩
 ·cases h;exact⟨_,_,rfl⟩
 ·exact⟨none,0,h.v_eq⟩
theorem B9w {t e:TypeId} {i:TI} {x:Operand} {u:T} {n:Nat} (hop:o.op = .call { callee := .builtin .len,args:=#[x],argTypes:=#[t] }) (ht:TOk P t i) (hs:i.sl=some e)
  (hu:(∃ s l,u = .d (.arr s l)∧l.length=n)∨(∃ m s lo,u = .row m s lo n)∨(u = .d (.v (.slice none 0 0))∧n=0)):OpS P o [(x,u)] [] [] fresh [] (.d (.v (.int .i64 n))) :=
 .of_pure (fun c h=>by rw[hop]at h;cases h) fun g a hg hi hr=>by
  obtain⟨A,cap,hv⟩:=(hi (x,u) (by simp)).slice_form hu
  dsimp only at hv
  exact⟨.int .i64 n,by simp[execOp,hop,resolve,invoke,builtin,Builtin.len_,hv,run_underlying (ht.slice hs),goInt],.d (.v _ rfl)⟩
theorem B7P {t:TypeId} {x:Operand} {b:ByteArray} (hop:o.op = .call { callee := .builtin .len,args:=#[x],argTypes:=#[t] }) (ht:P.underlying t=some .string):OpS P o [(x,.d (.v (.string b)))] [] [] fresh [] (.d (.v (.int .i64 b.size))) :=
 .of_pure (fun c h=>by rw[hop]at h;cases h) fun g a hg hi hr=>by
  have hx:=(hi (x,.d (.v (.string b))) (by simp)).v_eq
  dsimp only at hx
  exact⟨.int .i64 b.size,by simp[execOp,hop,resolve,invoke,builtin,Builtin.len_,hx,run_underlying ht,goInt],.d (.v _ rfl)⟩
theorem B4Y {bi:Builtin} {ts:Array TypeId} {x y:Operand} {p q z:Value} (hop:o.op = .call { callee := .builtin bi,args:=#[x,y],argTypes:=ts }) (h1:one z)
  (hz:∀ w c,(builtin bi ts o.type c #[p,q]).run P w = .ok (.value z) w):OpS P o [(x,.d (.v p)),(y,.d (.v q))] [] [] fresh [] (.d (.v z)) :=
 .of_pure (fun c h=>by rw[hop]at h;cases h) fun g a hg hi hr=>by
  have e1:=(hi (x,.d (.v p)) (by simp)).v_eq
  have e2:=(hi (y,.d (.v q)) (by simp)).v_eq
  dsimp only at e1 e2
  exact⟨z,by simp[execOp,hop,resolve,invoke,e1,e2,hz],.d (.v z h1)⟩
theorem B4Z {bi:Builtin} {ts:Array TypeId} {x y u:Operand} {p q r z:Value} (hop:o.op = .call { callee := .builtin bi,args:=#[x,y,u],argTypes:=ts }) (h1:one z)
  (hz:∀ w c,(builtin bi ts o.type c #[p,q,r]).run P w = .ok (.value z) w):OpS P o [(x,.d (.v p)),(y,.d (.v q)),(u,.d (.v r))] [] [] fresh [] (.d (.v z)) :=
 .of_pure (fun c h=>by rw[hop]at h;cases h) fun g a hg hi hr=>by
  have e1:=(hi (x,.d (.v p)) (by simp)).v_eq
  have e2:=(hi (y,.d (.v q)) (by simp)).v_eq
  have e3:=(hi (u,.d (.v r)) (by simp)).v_eq
  dsimp only at e1 e2 e3
  exact⟨z,by simp[execOp,hop,resolve,invoke,e1,e2,e3,hz],.d (.v z h1)⟩
theorem A5f {t e:TypeId} {i ei:TI} (ht:TOk P t i) (hs:i.sl=some e) (he:TOk P e ei) {A:Option Addr} {len cap:Nat} {lo hi:Option Value} {l h:Nat}
  (hh:hi=none∧h=len∨∃ k,hi=some (.int k h)) (hl:lo=none∧l=0∨∃ k,lo=some (.int k l)) (h1:l≤h) (h2:h≤len) (h3:len≤cap) (w:World) :
  (Instr.sliceAt t (.slice A len cap) lo hi none).run P w = .ok (.slice (if cap=l then A else A.map (·.add (l*ei.size))) (h-l) (cap-l)) w:=by
 obtain⟨info,zv,hinf,_,hsz,_⟩:=he.info
 have hb1:(h:Int)≤cap:=by omega
 have hb2:(l:Int)≤h:=by omega
 have hb3:h≤cap:=by omega
 rcases hh with⟨rfl,rfl⟩ | ⟨k,rfl⟩<;>rcases hl with⟨rfl,rfl⟩ | ⟨k',rfl⟩ <;>
  simp[Instr.sliceAt,run_underlying (ht.slice hs),Instr.slice,Instr.sliceBounds,Instr.sliceBound,asIntOf,sizeOf,typeInfo,hinf,hsz,h1,hb3]
theorem VD.cut {g:G} {s:Nat} {l:List D} {A:Option Addr} {len cap lo hi:Nat} (h:VD g (.arr s l) (.slice A len cap)) (h1:lo≤hi) (h2:hi≤len):len≤cap ∧
  VD g (.arr s ((l.drop lo).take (hi-lo))) (.slice (if cap=lo then A else A.map (·.add (lo*s))) (hi-lo) (cap-lo)):=by
 cases h with
 | arr0 s a cap =>
  obtain rfl:hi=0:=by omega
  obtain rfl:lo=0:=by omega
  refine⟨Nat.zero_le _,?_⟩
  simp only[List.drop_nil,List.take_nil]
  exact .arr0 s _ _
 | arr s l b off cap f hc hK hs hw hv =>
  refine⟨hc,?_⟩
  by_cases he:hi-lo=0
  ·rw[he,List.take_zero]
   exact .arr0 s _ _
  ·have hne:cap≠lo:=by omega
   rw[if_neg hne,Option.map_some,A5y]
   have hlen:hi-lo=((l.drop lo).take (hi-lo)).length:=by simp;omega
   have hget:∀ (k:Nat) (d:D),((l.drop lo).take (hi-lo))[k]?=some d→l[lo+k]?=some d:=fun k d hd=>by
    rw[List.getElem?_take]at hd
    split at hd
    ·rwa [List.getElem?_drop]at hd
    ·cases hd
   have:=VD.arr (g:=g) s ((l.drop lo).take (hi-lo)) b (off+lo*s) (cap-lo) (fun k j=>f (lo+k) j) (by omega) hK (fun k d hd=>hs _ d (hget k d hd))
    (fun k d hd j e he=>by
     have:=hw _ d (hget k d hd) j e he
     rw[Nat.add_mul]at this
     rw[← this]
     congr 2
     omega) (fun k d hd j e he=>hv _ d (hget k d hd) j e he)
   rwa [← hlen]at this
def H1 (d:Nat):Option Operand→Option (Operand × IntKind × Nat)→Nat
 | none,_=>d
 | some _,some p=>p.2.2
 | some _,none=>d
theorem B6D {t e:TypeId} {i ei:TI} {x z:Operand} {s:Nat} {l:List D} {k':IntKind} {q:Nat} (hop:o.op = .slice t x none (some z) none) (ht:TOk P t i) (hs:i.sl=some e) (he:TOk P e ei) (hz:ei.size=s) (h1:q≤l.length) :
  OpS P o [(x,.d (.arr s l)),(z,.d (.v (.int k' q)))] [] [] fresh [] (.d (.arr s (l.take q))) :=
 .of_pure (fun c h=>by rw[hop]at h;cases h) fun g a hg hi hr=>by
  have hx:=hi (x,.d (.arr s l)) (by simp)
  have hz':=(hi (z,.d (.v (.int k' q))) (by simp)).v_eq
  dsimp only at hx hz'
  obtain⟨A,cap,hv⟩:=hx.slice_form (.inl ⟨s,l,rfl,rfl⟩)
  rw[hv]at hx
  cases hx with | d hx =>
  obtain⟨h2,h3⟩:=hx.cut (Nat.zero_le q) h1
  subst hz
  rw[List.drop_zero,Nat.sub_zero]at h3
  exact⟨_,by simp[execOp,hop,hv,hz',A5f ht hs he (.inr ⟨k',rfl⟩) (.inl ⟨rfl,rfl⟩) (Nat.zero_le q) h1 h2]<;>rfl,.d (by simpa using h3)⟩
theorem B6E {t e:TypeId} {i ei:TI} {x y:Operand} {s:Nat} {l:List D} {k:IntKind} {p:Nat} (hop:o.op = .slice t x (some y) none none) (ht:TOk P t i) (hs:i.sl=some e) (he:TOk P e ei) (hz:ei.size=s) (h1:p≤l.length) :
  OpS P o [(x,.d (.arr s l)),(y,.d (.v (.int k p)))] [] [] fresh [] (.d (.arr s (l.drop p))) :=
 .of_pure (fun c h=>by rw[hop]at h;cases h) fun g a hg hi hr=>by
  have hx:=hi (x,.d (.arr s l)) (by simp)
  have hy:=(hi (y,.d (.v (.int k p))) (by simp)).v_eq
  dsimp only at hx hy
  obtain⟨A,cap,hv⟩:=hx.slice_form (.inl ⟨s,l,rfl,rfl⟩)
  rw[hv]at hx
  cases hx with | d hx =>
  obtain⟨h2,h3⟩:=hx.cut h1 (Nat.le_refl _)
  subst hz
  rw[List.take_of_length_le (by simp)]at h3
  exact⟨_,by simp[execOp,hop,hv,hy,A5f ht hs he (.inl ⟨rfl,rfl⟩) (.inr ⟨k,rfl⟩) h1 (Nat.le_refl _) h2]<;>rfl,.d h3⟩
end Go.Proofs.YtlaogbbcipebgaaGreat.Sh
