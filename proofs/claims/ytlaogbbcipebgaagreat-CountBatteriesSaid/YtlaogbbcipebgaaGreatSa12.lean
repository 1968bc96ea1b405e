/- Functions that defer a closure that recovers. Over whatever program. -/
import Derived.Test.YtlaogbbcipebgaaGreatSa11
import Derived.RecoverIn
namespace Go.Proofs.YtlaogbbcipebgaaGreat.Sh
set_option linter.unusedVariables false
set_option linter.unusedSimpArgs false
open Go
structure DfC (P:Program) (fd:FuncId) (tyE:TypeId):Prop where
 idle:∀ (b:Nat) (w:World),CallsDIn Fence.wide 0 P fd #[.pointer (some ⟨b,0,none⟩)] .returning w fun e u' w'=>e = .returned (.tuple #[])∧u' = .returning∧w'=w
 caught:∀ (b:Nat) (E:Int) (older:List PanicEntry) (w:World) (v:Value) (cells:Array Value) (e:TypeId),w.heap[b]?=some (.cells cells e (0,0))→cells[0]?=some v →
  CallsDIn Fence.wide 0 P fd #[.pointer (some ⟨b,0,none⟩)] (.panicking ({ v := .iface tyE (.int .i64 E),recovered:=false }::older)) w fun e u' w'=>e = .returned (.tuple #[])∧u' = .panicking ({ v := .iface tyE (.int .i64 E),recovered:=true }::older)∧w'=w.setCell ⟨b,0,none⟩ (.int .i64 E)
def C0x (fn:Func) (P:Program) (g0:G) (R:SE→List (Option Rw)→Prop):Exit→Act→World→Prop:=bodyPostDIn Fence.wide 0 P fn fun e w'=>∃ g' se L',g'.w=w'∧P6 g'∧Le g0 g'∧g'.M=ofL L'∧SER g' se e∧R se L'
def SWD (P:Program) (fn:Func) (n0:Nat) (R:SE→List (Option Rw)→Prop) (N:Nat) (c:Code) (st:St):Prop :=
 ∀ (g0 g:G) (a:Act),(∀ n,g0.M n≠none→n<n0)→LeN n0 g0 g→StR g N st a []→c.wpIn Fence.wide 0 P (C0x fn P g0 R) a g.w
theorem LeN.full {n0:Nat} {g g':G} (h:LeN n0 g g') (hM:∀ n,g.M n≠none→n<n0):Le g g':=⟨fun n hn=>h.e n (hM n hn) hn,h.size,h.os,h.tape,h.output,h.fr,h.k,h.k',h.nl⟩
section
variable {P:Program} {fn:Func} {n0 N:Nat} {R:SE→List (Option Rw)→Prop} {st:St}
theorem B3n {x y:Code} (h:SW P n0 N [] x (fun sx st'=>sx = .norm∧SWD P fn n0 R N y st') st):SWD P fn n0 R N (.seq x y) st:=fun g0 g a hM hl hR=>by
 refine wpIn_seq (wpIn_mono (h Fence.wide 0 Wd.wide g a hR) ?_)
 rintro ex a' w' ⟨g',sx,st',rfl,h2,h3,h4,rfl,h5⟩
 cases ex<;>first | exact h4.elim | skip
 exact h5 g0 g' a' hM (hl.trans h2) h3
theorem B5D {g0 g:G} {a:Act} {df:List Deferred} (hM:∀ n,g0.M n≠none→n<n0) (hl:LeN n0 g0 g) (hR:StR g N st a df) (h:Fin P fn n0 R .ret st) :
  ∃ v,(results fn a.tmps).run P g.w = .ok v g.w∧∃ g' se L',g'.w=g.w∧P6 g'∧Le g0 g'∧g'.M=ofL L'∧SER g' se (.returned v)∧R se L':=by
 obtain⟨ts,κ,t,L',e1,e2,e4⟩:=h
 obtain⟨cs,f4,f5⟩:=B3h hR e1
 obtain⟨g'',f1,f2,f3⟩:=e2.see (B5z hR.good hR.M (B17 f5))
 have f6:results fn a.tmps=(do let vs ← fn.results.mapM (B4q a.tmps);pure (if h:vs.size=1 then vs[0]else .tuple vs)):=rfl
 refine⟨if h:cs.toArray.size=1 then cs.toArray[0]else .tuple cs.toArray,?_,g'',.ret t,L',f1,f3.good,(hl.trans f2).full hM,f3.M,f3.ts 0,e4⟩
 rw[f6,Array.mapM_eq_mapM_toList,Sem.run_bind,Sem.run_map,f4]
 rfl
theorem SC.of_swd {f:FuncId} {c:Code} {args:List T} {L:List (Option Rw)} (hf:P.funcs[f]?=some fn) (hb:fn.body=some c) (hN:fn.ntmps=N) (hl:Nat.ble args.length N=true) (h:SWD P fn L.length R N c ⟨L8 0 args,L⟩):SC P f args L R:=fun g vs hg hM hv=>by
 refine callsIn_wide.1 (callsIn_of_wp_defers (n:=0) hf hb trivial ?_ rfl)
 obtain⟨s1,s2⟩:=A6y hv hl fn.ntmps hN
 exact h g g _ (fun n hn=>by rw[hM]at hn;simpa only[ofL,ne_eq,List.getElem?_eq_none_iff,Nat.not_le]using hn) (.refl _ g) ⟨hg,hM,s1,s2,rfl⟩
end
end Go.Proofs.YtlaogbbcipebgaaGreat.Sh
