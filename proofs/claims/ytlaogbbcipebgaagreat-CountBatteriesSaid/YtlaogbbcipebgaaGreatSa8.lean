/- Ranges over functions, in one picture: yield, the range, functions that range. Over whatever program. -/
import Derived.Test.YtlaogbbcipebgaaGreatSa18
namespace Go.Proofs.YtlaogbbcipebgaaGreat.Sh
set_option linter.unusedVariables false
set_option linter.unusedSimpArgs false
open Go
theorem VT.turnL {l n0:Nat} {g g':G} (hg:P6 g) (h:LeL l n0 g g') (hk:¬ g.K l) {t:T} {c:Value} (hv:VT g t c) (hs:t.sc n0=true):VT g' t c :=
 hv.turnN (fun b hb=>⟨h.k b hb,h.fr b (hg.kd b hb) (hg.kl b hb) fun e=>hk (e▸hb)⟩) h.e hs
section
variable {P:Program} {X:JX} {N:Nat} {Q:SX→SX→St→Prop}
def B3s (P:Program) (X:JX) (N:Nat) (ops:Array Oper) (Q:SX→SX→St→Prop) (l:List Oper) (d:Nat) (ts:List (Nat × T)):SX→List (Option Rw)→Prop
 | .pan t,L'=>Q (.pan t) (.pan t) ⟨ts,L'⟩
 | ph,L'=>RgJ P X N ops Q l ph ⟨(d,.d (.v (.bool (isN ph))))::ts,L'⟩
theorem B3t {P:Program} {X:JX} {N:Nat} {ops:Array Oper} {Q:SX→SX→St→Prop} {l:List Oper} {d:Nat} {ts:List (Nat × T)} {L':List (Option Rw)} (h:RgJ P X N ops Q l .norm ⟨(d,.d (.v (.bool true)))::ts,L'⟩):B3s P X N ops Q l d ts .norm L':=h
theorem B8w {P:Program} {X:JX} {N:Nat} {ops:Array Oper} {Q:SX→SX→St→Prop} {l:List Oper} {d:Nat} {ts:List (Nat × T)} {L':List (Option Rw)} (h:RgJ P X N ops Q l .ret ⟨(d,.d (.v (.bool false)))::ts,L'⟩):B3s P X N ops Q l d ts .ret L':=h
theorem B8v {P:Program} {X:JX} {N:Nat} {ops:Array Oper} {Q:SX→SX→St→Prop} {l:List Oper} {d:Nat} {ts:List (Nat × T)} {t:T} {L':List (Option Rw)} (h:Q (.pan t) (.pan t) ⟨ts,L'⟩):B3s P X N ops Q l d ts (.pan t) L':=h
theorem A9M {ops:Array Oper} {l:List Oper} {d:Nat} {ty:TypeId} {pos:String} {af:Array Edge} {gd:Option (Nat × Bool)} {x:Operand} {xs:Array Operand} {tys:Array TypeId} {ys:List D} {ts:List (Nat × T)} {L:List (Option Rw)}
  (hf:O9 ts x = .d (.v (.func (.yield X.l) #[] #[]))) (hx:xs.toList.map (O9 ts)=ys.map .d) (hps:X.ps.toList.length=ys.length) (hpN:X.ps.toList.all (Nat.blt · X.N)=true) (hn1:Nat.ble X.n1 L.length=true)
  (hw:I2 ops ts ⟨some d,.call { callee := .value x,args:=xs,argTypes:=tys },ty,pos,af,gd⟩=some true) (hd:Nat.blt d N=true)
  (h:SW P L.length X.N [] X.asg (B99 fun st1=>SWY P L.length X.N X.body (rdP L.length (B3s P X N ops Q l d ts)) st1) ⟨B1H X.ps.toList ys X.ts,L⟩) :
  RgJ P X N ops Q (⟨some d,.call { callee := .value x,args:=xs,argTypes:=tys },ty,pos,af,gd⟩::l) .norm ⟨ts,L⟩:=by
 intro F nn hF r g a R hj hR hk
 have hn1:=Nat.le_of_ble_eq_true hn1
 have hcal:=A4G hR.ts x
 dsimp only at hcal
 rw[hf]at hcal
 have hcal:=hcal.v_eq
 have hvs:VTs g (ys.map .d) (xs.toList.map a.eval):=by
  rw[← hx]
  refine⟨by simp,fun i t c h1 h2=>?_⟩
  rw[List.getElem?_map,Option.map_eq_some_iff]at h1 h2
  obtain⟨y,hy1,rfl⟩:=h1
  obtain⟨z,hz1,rfl⟩:=h2
  rw[hy1]at hz1;injection hz1 with hz1;subst hz1
  exact A4G hR.ts y
 obtain⟨vs,hvsE⟩:∃ vs,xs.toList.map a.eval=vs:=⟨_,rfl⟩
 rw[hvsE]at hvs
 have hvl:vs.length=ys.length:=by have:=hvs.1;simp at this;exact this.symm
 have h5:g.w.heap[X.l]?=some (.loop (X.lp r .ready none)):=hj.lrec
 have hyr:=run_yield (P:=P) (args:=vs.toArray) h5 (by simp[JX.lp]at hps ⊢;omega)
 obtain⟨p1,p2⟩:=B5p X.ps.toList ys vs X.ts r.tmps hj.sz (fun p hp=>List.all_eq_true.1 hpN p hp) hps hvs hj.ts
 have e0:(X.ps.zip vs.toArray).foldl (fun t (p,v)=>t.setIfInBounds p v) r.tmps=(X.ps.toList.zip vs).foldl (fun t (p,v)=>t.setIfInBounds p v) r.tmps:=by rw[← Array.foldl_toList];simp
 have leOf:∀ {ga gb:G},ga.M=g.M→LeN L.length ga gb→LeN X.n1 ga gb:=fun {ga gb} e h=>⟨fun n hn=>h.e n (by omega),h.size,h.os,h.tape,h.output,h.fr,h.k,h.k',h.nl⟩
 have all:∀ {g':G} {t:T} {c:Value},LeL X.l L.length g g'→VT g t c→VT g' t c:=fun k3 hv=>hv.turn (fun b hb=>⟨k3.k b hb,k3.fr b (hR.good.kd b hb) (hR.good.kl b hb) fun e=>hj.kl (e▸hb)⟩) fun n hn=>k3.e n (by rw[hR.M]at hn;simpa only[ofL,ne_eq,List.getElem?_eq_none_iff,Nat.not_le]using hn) hn
 have hround:RoundIn Fence.wide 0 P X.l r.fn ((X.ps.zip vs.toArray).foldl (fun t (p,v)=>t.setIfInBounds p v) r.tmps) X.asg X.body g.w fun e W' =>
   (∃ g' ph' L',g'.w=W'∧P6 g'∧g'.M=ofL L'∧LeL X.l L.length g g'∧JOk X r ph' g'∧e = .returned (.bool (isN ph'))∧RgJ P X N ops Q l ph' ⟨(d,.d (.v (.bool (isN ph'))))::ts,L'⟩) ∨
   ∃ g' t v L',g'.w=W'∧P6 g'∧g'.M=ofL L'∧LeL X.l L.length g g'∧JOk X r (.pan t) g'∧e = .panicked [{ v,recovered:=false }]∧VT g' t v∧Q (.pan t) (.pan t) ⟨ts,L'⟩:=by
  refine B6N trivial (wpIn_mono (h (Fence.wide.inRound X.l) 0 ⟨some X.l,rfl⟩ g _ ⟨hR.good,hR.M,?_,?_,rfl⟩) ?_)
  ·show((X.ps.zip vs.toArray).foldl _ r.tmps).size=X.N
   rw[e0];exact p1
  ·intro i
   show VT g _ (((X.ps.zip vs.toArray).foldl _ r.tmps).getD i undef)
   rw[e0];exact p2 i
  rintro ex a1 w1 ⟨g2,sx,st1,rfl,q2,q3,q4,rfl,q5⟩
  cases ex<;>first | exact q4.elim | skip
  have j2:=hj.step hR.good (leOf rfl q2)
  have b1:g2.w.heap[X.l]?=some (.loop (X.lp r .ready none)):=j2.lrec
  have hlt2:=(Array.getElem?_eq_some_iff.1 b1).1
  have hne:r.D≠X.l:=fun e=>by have:=j2.mark;rw[e,b1]at this;cases this
  obtain⟨c1,c2,c3⟩:=A6D q3.good (A3l q3.good b1) j2.kl (.loop { X.lp r .ready none with state := .busy }) L.length
  refine⟨_,run_beginRound b1 rfl,?_⟩
  obtain⟨g3,hg3⟩:∃ g3:G,g3=⟨g2.M,g2.β,g2.K,g2.w.putObj X.l (.loop { X.lp r .ready none with state := .busy })⟩:=⟨_,rfl⟩
  rw[← hg3]at c1 c2
  have hR3:StR g3 X.N st1 a1 []:=⟨c1,by rw[hg3];exact q3.M,q3.size,fun i=>by rw[hg3];exact c3 _ _ (q3.ts i),q3.df⟩
  have d1:g3.w.heap[X.l]?=some (.loop { X.lp r .ready none with state := .busy }):=by rw[hg3];exact World.putObj_heap_same hlt2
  have d2:g3.w.heap[r.D]?=some (.deferred (some [])):=by rw[hg3];exact(World.putObj_heap_other hne).trans j2.mark
  have hw3:g3.w=g2.w.putObj X.l (.loop { X.lp r .ready none with state := .busy }):=by rw[hg3]
  have hK3:g3.K=g2.K:=by rw[hg3]
  rw[← hw3]
  refine A6M (q5 (Fence.wide.inRound X.l) 0 ⟨some X.l,rfl⟩ g3 a1 hR3) ?_
  rintro ex a2 w2 ⟨g4,sx,st2,rfl,r2,r3,r4,r5⟩
  obtain⟨f1,f3⟩:=A6q r2 (Array.getElem?_eq_some_iff.1 d1).1 (A3l c1 d1) (by rw[hK3];exact j2.kl)
  obtain⟨f2,f4⟩:=A6q r2 (Array.getElem?_eq_some_iff.1 d2).1 (A5L c1 d2) (by rw[hK3];exact j2.kD)
  rw[d1]at f1
  rw[d2]at f2
  have fin:∀ (ph':SX) (L':List (Option Rw)) (κ:List Nat),(isN ph'=(A3p ph').isNone)→(A5v ph'=if(A3p ph').isNone then .ready else .done)→Vw L.length st2 ⟨[],L'⟩ κ →
    ∃ g5:G,(Instr.endRound X.l (A3p ph')).run P g4.w = .ok (.bool (isN ph')) g5.w∧g5.M=ofL L'∧P6 g5∧LeL X.l L.length g g5∧JOk X r ph' g5:=fun ph' L' κ hp1 hp2 hvw=>by
   obtain⟨g5,s1,s2,s3⟩:=hvw.see r3
   obtain⟨t1,t3⟩:=A6q s2 (Array.getElem?_eq_some_iff.1 f1).1 (A3l r3.good f1) f3
   obtain⟨t2,t4⟩:=A6q s2 (Array.getElem?_eq_some_iff.1 f2).1 (A5L r3.good f2) f4
   rw[f1]at t1
   rw[f2]at t2
   obtain⟨u1,u2,_⟩:=A6D s3.good (A3l s3.good t1) t3 (.loop (X.lp r (A5v ph') (A3p ph'))) L.length
   have hr:=run_endRound (P:=P) (A3p ph') t1
   have hL:LeL X.l L.length g ⟨g5.M,g5.β,g5.K,g5.w.putObj X.l (.loop (X.lp r (A5v ph') (A3p ph')))⟩:=(((q2.toL _).trans c2).trans (r2.toL _)).trans ((s2.toL _).trans u2)
   refine⟨⟨g5.M,g5.β,g5.K,g5.w.putObj X.l (.loop (X.lp r (A5v ph') (A3p ph')))⟩,?_,s3.M,u1,hL,⟨World.putObj_heap_same (Array.getElem?_eq_some_iff.1 t1).1,(World.putObj_heap_other hne).trans t2,t3,t4,hj.sz,fun i=>(hj.ts i).turnL hR.good (hL.less hn1) hj.kl (hj.sc i),hj.sc⟩⟩
   rw[← s1,hr,hp1,hp2]
   rfl
  cases sx with
  | norm =>
   cases ex<;>first | exact r4.elim | skip
   obtain⟨L',κ,hvw,hI⟩:=r5
   obtain⟨g5,z1,z2,z3,z4,z5⟩:=fin .norm L' κ rfl rfl hvw
   exact⟨r3.df,_,_,z1,.inl ⟨g5,.norm,L',rfl,z3,z2,z4,z5,rfl,hI⟩⟩
  | ret =>
   cases ex<;>first | exact r4.elim | skip
   obtain⟨L',κ,hvw,hI⟩:=r5
   obtain⟨g5,z1,z2,z3,z4,z5⟩:=fin .ret L' κ rfl rfl hvw
   exact⟨r3.df,_,_,z1,.inl ⟨g5,.ret,L',rfl,z3,z2,z4,z5,rfl,hI⟩⟩
  | exit i =>
   cases ex<;>first | exact r4.elim | skip
   obtain⟨L',κ,hvw,hI⟩:=r5
   have r4':i=_:=r4
   subst r4'
   obtain⟨g5,z1,z2,z3,z4,z5⟩:=fin (.exit i) L' κ rfl rfl hvw
   exact⟨r3.df,_,_,z1,.inl ⟨g5,.exit i,L',rfl,z3,z2,z4,z5,rfl,hI⟩⟩
  | pan t =>
   cases ex<;>first | exact r4.elim | skip
   obtain⟨v,rfl,hv'⟩:=r4
   obtain⟨L',κ,hvw,hsc,hI⟩:=r5
   obtain⟨g5,s1,s2,s3⟩:=hvw.see r3
   obtain⟨t1,t3⟩:=A6q s2 (Array.getElem?_eq_some_iff.1 f1).1 (A3l r3.good f1) f3
   obtain⟨t2,t4⟩:=A6q s2 (Array.getElem?_eq_some_iff.1 f2).1 (A5L r3.good f2) f4
   rw[f1]at t1
   rw[f2]at t2
   have hL:LeL X.l L.length g g5:=((q2.toL _).trans c2).trans ((r2.toL _).trans (s2.toL _))
   exact⟨r3.df,.inr ⟨g5,t,v,L',s1,s3.good,s3.M,hL,⟨t1,t2,t3,t4,hj.sz,fun i=>(hj.ts i).turnL hR.good (hL.less hn1) hj.kl (hj.sc i),hj.sc⟩,rfl,hv'.turnN (k:=0) (fun b hb=>⟨s2.k b hb,s2.fr b (r3.good.kd b hb) (r3.good.kl b hb)⟩) (fun n hn=>by omega) hsc,hI⟩⟩
 unfold wpListIn
 rw[A0W hw fun d _=>hR.ts d]
 simp only[if_true]
 refine⟨fun f _=>hF.fn f,?_⟩
 rw[Oper.semAt_eq _ _ _ (fun c h=>by cases h)]
 have e:xs.map a.eval=vs.toArray:=by rw[← hvsE];apply Array.ext';simp
 have hrun':(execOp a.eval ⟨some d,.call { callee := .value x,args:=xs,argTypes:=tys },ty,pos,af,gd⟩).run P g.w = .ok (.round X.l r.fn ((X.ps.zip vs.toArray).foldl (fun t (p,v)=>t.setIfInBounds p v) r.tmps) X.asg X.body) g.w:=by
  simp[execOp,resolve,hcal,Deferred.ofValue,invoke,e,hyr,JX.lp]
 rw[hrun']
 obtain⟨rr,rfl⟩:=hF
 refine⟨(fun h=>by cases h),?_⟩
 refine(A9r rr (nn-1) hround).mono ?_
 rintro e w' (⟨g',ph',L',rfl,k1,k2,k3,k4,rfl,k6⟩ | ⟨g',t,v,L',rfl,k1,k2,k3,k4,rfl,k5,k6⟩)
 ·refine k6 { Fence.wide with round:=rr } nn ⟨rr,rfl⟩ r g' _ R k4 ⟨k1,k2,by rw[A5c];exact hR.size,fun i=>?_,by rw[A3h];exact hR.df⟩ fun _ _ _ hq=>hk _ _ _ (hq.trans (k3.less hn1))
  rw[A5b hR.size (by exact hd)]
  have e:=A2M (ts:=ts) (dst:=some d) (v := .d (.v (.bool (isN ph')))) i
  simp only[A5m]at e
  rw[e]
  split
  ·exact .d (.v _ rfl)
  ·exact all k3 (hR.ts i)
 ·exact hk _ _ _ ⟨g',.pan t,.pan t,⟨ts,L'⟩,rfl,k3.less hn1,⟨k1,k2,hR.size,fun i=>all k3 (hR.ts i),hR.df⟩,k4,⟨v,rfl,k5⟩,k6⟩
end
def SWM (P:Program) (n0 N:Nat) (c:Code) (Q:SX→St→Prop) (st:St):Prop :=
 ∀ (nn:Nat) (db:Nat) (g:G) (a:Act) (df:List Deferred),StR g N st a df→A72 db g df→c.wpIn Fence.wide nn P (fun ex a' w'=>∃ g' sx st' df',g'.w=w'∧LeN n0 g g'∧StR g' N st' a' df'∧A72 db g' df'∧XR g' sx ex∧Q sx st') a g.w
section
variable {P:Program} {n0 N:Nat} {Q:SX→St→Prop} {st:St}
theorem W3 {c:Code} (h:∀ df,SW P n0 N df c Q st):SWM P n0 N c Q st:=fun nn db g a df hR hd =>
 wpIn_mono (h df Fence.wide nn Wd.wide g a hR) fun ex a' w' ⟨g',sx,st',h1,h2,h3,h4,h5⟩=>⟨g',sx,st',df,h1,h2,h3,hd.stepN hR.good h2,h4,h5⟩
theorem S3 {x y:Code} (h:SWM P n0 N x (A5w (SWM P n0 N y Q) Q) st):SWM P n0 N (.seq x y) Q st:=fun nn db g a df hR hd=>by
 refine wpIn_seq (wpIn_mono (h nn db g a df hR hd) ?_)
 rintro ex a' w' ⟨g',sx,st',df',rfl,h2,h3,h3',h4,h5⟩
 cases sx with
 | norm =>
  cases ex<;>first | exact h4.elim | skip
  exact wpIn_mono (h5 nn db g' a' df' h3 h3') fun _ _ _ ⟨g'',sx',st'',df'',k1,k2,k3⟩=>⟨g'',sx',st'',df'',k1,h2.trans k2,k3⟩
 | ret=>cases ex<;>first | exact h4.elim | exact⟨g',_,st',df',rfl,h2,h3,h3',h4,h5⟩
 | exit i=>cases ex<;>first | exact h4.elim | exact⟨g',_,st',df',rfl,h2,h3,h3',h4,h5⟩
 | pan t=>cases ex<;>first | exact h4.elim | exact⟨g',_,st',df',rfl,h2,h3,h3',h4,h5⟩
theorem A5A {id:Nat} {c:Code} (h:SWM P n0 N c (A34 id Q) st):SWM P n0 N (.block id c) Q st:=fun nn db g a df hR hd=>by
 refine wpIn_block (wpIn_mono (h nn db g a df hR hd) ?_)
 rintro ex a' w' ⟨g',sx,st',df',rfl,h2,h3,h3',h4,h5⟩
 cases sx with
 | norm=>cases ex<;>first | exact h4.elim | exact⟨g',.norm,st',df',rfl,h2,h3,h3',trivial,h5⟩
 | ret=>cases ex<;>first | exact h4.elim | exact⟨g',.ret,st',df',rfl,h2,h3,h3',trivial,h5⟩
 | exit i =>
  cases ex<;>first | exact h4.elim | skip
  rename_i j
  have h4':i=j:=h4
  subst h4'
  simp only[A34]at h5
  by_cases hi:i=id
  ·rw[if_pos hi]at h5
   simp only[Exit.inBlock,hi,if_true]
   exact⟨g',.norm,st',df',rfl,h2,h3,h3',trivial,h5⟩
  ·rw[if_neg hi]at h5
   simp only[Exit.inBlock,hi,if_false]
   exact⟨g',.exit i,st',df',rfl,h2,h3,h3',rfl,h5⟩
 | pan t=>cases ex<;>first | exact h4.elim | exact⟨g',.pan t,st',df',rfl,h2,h3,h3',h4,h5⟩
def A65:SX→Bool
 | .pan _=>true
 | _=>false
def C0Z (n1:Nat) (K:SX→List (Option Rw)→Prop):SX→SX→St→Prop:=fun ph sx st=>match sx with
 | .ret | .norm=>A65 ph=false∧∃ L κ,Vw n1 st ⟨[],L⟩ κ∧K ph L
 | .pan t=>ph = .pan t∧t.sc 0=true∧∃ L κ,Vw n1 st ⟨[],L⟩ κ∧K (.pan t) L
 | .exit _=>False
def scS (ts:List (Nat × T)) (n:Nat):Bool:=ts.all fun p=>p.2.sc n
theorem B5Y {ts:List (Nat × T)} {n:Nat} (h:scS ts n=true) (i:Nat):(W8 ts i).sc n=true:=by
 rcases B0P (ts:=ts) (i:=i)with h1 | h1
 ·rw[h1];rfl
 ·exact List.all_eq_true.1 h _ h1
theorem A9S {x:Operand} {ps:Array Tmp} {asg body c1:Code} {f:FuncId} {fn1:Func} {N1:Nat} {ca:List T} {ts:List (Nat × T)} {L:List (Option Rw)} (he:Ent P f) (hf:P.funcs[f]?=some fn1) (hb:fn1.body=some c1) (hN:fn1.ntmps=N1) (hres:fn1.results=#[]) (hx:O9 ts x = .fn (.func f) [] ca) (hl:Nat.ble (ca.length+1) N1=true) (hsc:scS ts L.length=true)
  (h:∀ lb,SWJ P ⟨lb,ps,asg,body,N,ts,L.length⟩ N1 c1 (C0Z L.length fun ph L'=>Q ph ⟨ts,L'⟩) .norm ⟨L8 0 (.d (.v (.func (.yield lb) #[] #[]))::ca),L⟩):SWM P n0 N (.rangeFunc x ps asg body) Q ⟨ts,L⟩:=by
 intro nn db g a df hR hdf
 have hv:=A4G hR.ts x
 dsimp only at hv
 rw[hx]at hv
 obtain⟨cs,ds,hc,hfi,hca⟩:=A8P hv (.inr rfl)
 have hcs:cs=#[]:=by have:=hfi.1;simp at this;exact Array.size_eq_zero_iff.1 this.symm
 subst hcs
 refine wpIn_rangeFunc fun fn _=>?_
 obtain⟨X,hX⟩:∃ X:JX,X=⟨g.w.heap.size+1,ps,asg,body,N,ts,L.length⟩:=⟨_,rfl⟩
 obtain⟨r,hr⟩:∃ r:JR,r=⟨fn,a.tmps,g.w.heap.size⟩:=⟨_,rfl⟩
 obtain⟨W1,hW1⟩:∃ W1,(g.w.alloc (.deferred (some []))).alloc (.loop (X.lp r .ready none))=W1:=⟨_,rfl⟩
 have hsz:W1.heap.size=g.w.heap.size+2:=by rw[← hW1];simp
 have hL1:W1.heap[g.w.heap.size+1]?=some (.loop (X.lp r .ready none)):=by
  rw[← hW1];have:=World.alloc_heap_new (g.w.alloc (.deferred (some []))) (.loop (X.lp r .ready none));rwa [World.size_alloc]at this
 have hK1:W1.heap[g.w.heap.size]?=some (.deferred (some [])):=by
  rw[← hW1];exact(Go.RowKit.Below.heap_alloc _ _ _ (by simp)).trans (World.alloc_heap_new g.w _)
 have hlow1:∀ b,b<g.w.heap.size→W1.heap[b]?=g.w.heap[b]?:=fun b hb=>by
  rw[← hW1];exact(Go.RowKit.Below.heap_alloc _ _ _ (by simp;omega)).trans (Go.RowKit.Below.heap_alloc _ _ _ hb)
 obtain⟨g1,hg1⟩:∃ g1:G,g1=⟨g.M,g.β,g.K,W1⟩:=⟨_,rfl⟩
 have hKlt:∀ b,g.K b→b<g.w.heap.size:=hR.good.kd
 have hk1:∀ b,g.K b→g1.K b∧g1.w.heap[b]?=g.w.heap[b]?:=fun b hb=>by rw[hg1];exact⟨hb,hlow1 b (hKlt b hb)⟩
 have he1:∀ n,g.M n≠none→g1.M n≠none∧g1.β n=g.β n:=fun n hn=>by rw[hg1];exact⟨hn,rfl⟩
 have hgood1:P6 g1:=by
  refine⟨fun n r hn=>?_,fun n m r q=>?_,fun b hb=>?_,fun b hb=>?_⟩
  ·have hn':g.M n=some (some r):=by rw[hg1]at hn;exact hn
   exact(hR.good.rows n r hn').turn hk1 he1 (by rw[hg1]) (fun h0=>by rw[hg1];exact hlow1 _ ((hR.good.rows n r hn').lt h0))
  ·rw[hg1];exact hR.good.inj n m r q
  ·rw[hg1]at hb ⊢;have:=hKlt b hb;show b<W1.heap.size;omega
  ·rw[hg1]at hb ⊢;exact hR.good.kl b hb
 have hle1:LeN L.length g g1:=by
  rw[hg1]
  exact⟨fun n _ hn=>⟨hn,rfl⟩,by show _≤W1.heap.size;omega,by rw[← hW1];rfl,by rw[← hW1];rfl,by rw[← hW1];rfl,fun b hb _=>hlow1 b hb,fun b hb=>hb,fun b _ hb => .inl hb,fun n r hn h0 _ hh=>hh n r hn h0 rfl⟩
 have hbl:∀ b,¬ g.K (g.w.heap.size+b):=fun b h=>by have:=hKlt _ h;omega
 have hj1:JOk X r .norm g1:=by
  refine⟨by rw[hg1,hX];rw[hX]at hL1;exact hL1,by rw[hg1,hr];exact hK1,by rw[hg1,hX];exact hbl 1,by rw[hg1,hr];exact hbl 0,by rw[hr,hX];exact hR.size,fun i=>?_,fun i=>?_⟩
  ·rw[hX,hr];exact(hR.ts i).turn hk1 he1
  ·rw[hX];exact B5Y hsc i
 have hw1:g1.w=W1:=by rw[hg1]
 have hvs:VTs g1 (.d (.v (.func (.yield (g.w.heap.size+1)) #[] #[]))::ca) (.func (.yield (g.w.heap.size+1)) #[] #[]::ds.toList) := .cons (.d (.v _ rfl)) ⟨hca.1,fun i t c h1 h2=>(hca.2 i t c h1 h2).turn hk1 he1⟩
 have hcall:CallsIn Fence.wide 0 P f (Value.func (.yield (g.w.heap.size+1)) #[] #[]::ds.toList).toArray g1.w fun e W'=>∃ g' ph L',g'.w=W'∧P6 g'∧g'.M=ofL L'∧LeL X.l L.length g1 g'∧JOk X r ph g'∧((A65 ph=false∧∃ v,e = .returned v)∨∃ t v,ph = .pan t∧e = .panicked [{ v,recovered:=false }]∧VT g' t v)∧Q ph ⟨ts,L'⟩:=by
  refine callsIn_of_wp hf hb trivial ?_ rfl
  obtain⟨s1,s2⟩:=A6y hvs (N:=N1) (by simpa using hl) fn1.ntmps hN
  have:=h (g.w.heap.size+1) Fence.wide 0 Wd.wide r g1 { tmps:=(Value.func (.yield (g.w.heap.size+1)) #[] #[]::ds.toList).toArray++Array.replicate (fn1.ntmps-(Value.func (.yield (g.w.heap.size+1)) #[] #[]::ds.toList).toArray.size) undef,defers:=[] } (hX▸hj1) ⟨hgood1,by rw[hg1];exact hR.M,s1,s2,rfl⟩
  refine wpIn_mono this ?_
  rintro ex a' w' ⟨g',ph,sx,st',rfl,h2,h3,h4,h5,h6⟩
  have done:(A65 ph=false∧∃ L1 κ,Vw L.length st' ⟨[],L1⟩ κ∧Q ph ⟨ts,L1⟩)→a'.defers=[]∧∃ v,(results fn1 a'.tmps).run P g'.w = .ok v g'.w∧∃ g'' ph L',g''.w=g'.w∧P6 g''∧g''.M=ofL L'∧LeL X.l L.length g1 g''∧JOk X r ph g''∧((A65 ph=false∧∃ v',Ending.returned v = .returned v')∨∃ t v',ph = .pan t∧Ending.returned v = .panicked [{ v:=v',recovered:=false }]∧VT g'' t v')∧Q ph ⟨ts,L'⟩:=by
   rintro⟨hp,L',κ,h7,h8⟩
   obtain⟨g2,e1,e2,e3⟩:=h7.see h3
   have hj2:=h4.step h3.good e2
   exact⟨h3.df,.tuple #[],by simp[results,hres],g2,ph,L',e1,e3.good,e3.M,by rw[hX];exact h2.trans (e2.toL _),hX▸hj2,.inl ⟨hp,_,rfl⟩,h8⟩
  cases sx with
  | norm=>cases ex<;>first | exact h5.elim | exact done h6
  | ret=>cases ex<;>first | exact h5.elim | exact done h6
  | exit i=>exact h6.elim
  | pan t =>
   cases ex<;>first | exact h5.elim | skip
   obtain⟨v,rfl,hv'⟩:=h5
   obtain⟨rfl,hsc0,L',κ,h7,h8⟩:=h6
   obtain⟨g2,e1,e2,e3⟩:=h7.see h3
   have hj2:=h4.step h3.good e2
   exact⟨h3.df,g2,.pan t,L',e1,e3.good,e3.M,by rw[hX];exact h2.trans (e2.toL _),hX▸hj2,.inr ⟨t,v,rfl,rfl,hv'.turnN (k:=0) (fun b hb=>⟨e2.k b hb,e2.fr b (h3.good.kd b hb) (h3.good.kl b hb)⟩) (fun n hn=>by omega) hsc0⟩,h8⟩
 rw[hw1]at hcall
 refine⟨g.w.heap.size+1,[{ target := .collected g.w.heap.size,args:=#[] }],W1,{ target := .fn (.func f) ds,args:=#[.func (.yield (g.w.heap.size+1)) #[] #[]] },W1,f,
  #[.func (.yield (g.w.heap.size+1)) #[] #[]]++ds,W1,?_,?_,fun _ _=>trivial,?_,(fun h=>by cases h),?_⟩
 ·rw[← hW1,hX,hr];exact run_enterLoop_outer _ _ _ _ _
 ·simp only[resolve,hc]
  simp[go_sem]
 ·simp[invoke,go_sem,he _ _]
 ·have e:(Value.func (.yield (g.w.heap.size+1)) #[] #[]::ds.toList).toArray=#[.func (.yield (g.w.heap.size+1)) #[] #[]]++ds:=by apply Array.ext';simp
  rw[e]at hcall
  refine((callsIn_wide (n:=nn-1)).2 (callsIn_wide.1 hcall)).mono ?_
  rintro e W2 ⟨gx,ph,L',rfl,e2,e1,e3,e4,hend,hQ⟩
  have hXl:X.l=g.w.heap.size+1:=by rw[hX]
  have hrD:r.D=g.w.heap.size:=by rw[hr]
  have hlrec:=e4.lrec
  have hmark:=e4.mark
  have hkl:=e4.kl
  have hkD:=e4.kD
  rw[hXl]at hlrec hkl
  rw[hrD]at hmark hkD
  have hle3:LeL (g.w.heap.size+1) L.length g1 gx:=hXl▸e3
  have fin:∀ g':G,P6 g'→g'.M=ofL L'→LeL (g.w.heap.size+1) L.length gx g'→g'.w.heap[g.w.heap.size]?=some (.deferred (some []))→¬ g'.K g.w.heap.size →
    LeN n0 g g'∧StR g' N ⟨ts,L'⟩ { a with defers:=[{ target := .collected g.w.heap.size,args:=#[] }]++a.defers } ({ target := .collected g.w.heap.size,args:=#[] }::df)∧A72 db g' ({ target := .collected g.w.heap.size,args:=#[] }::df):=fun g' u1 e1' u2 m1 m2=>by
   have hle:LeN L.length g g':=((hle1.toL (g.w.heap.size+1)).trans (hle3.trans u2)).toN (by omega)
   have hLe:=hle.toLe hR.M (Nat.le_refl _)
   refine⟨hLe.toN n0,⟨u1,e1',hR.size,fun i=>(hR.ts i).mono hR.good hLe,by simp[hR.df]⟩,?_⟩
   have hd2:=hdf.stepN hR.good hle
   refine⟨List.nodup_cons.2 ⟨fun hm=>?_,hd2.nd⟩,hd2.sz,fun d hd=>?_⟩
   ·obtain⟨D,d1,_,d3,_⟩:=hdf.all _ hm
    injection d1 with d1
    injection d1 with d1
    subst d1
    have:=(Array.getElem?_eq_some_iff.1 d3).1
    omega
   ·rcases List.mem_cons.1 hd with rfl | hd
    ·exact⟨g.w.heap.size,rfl,hdf.sz,m1,m2⟩
    ·exact hd2.all d hd
  rcases hend with⟨hp,v,rfl⟩ | ⟨t,v,rfl,rfl,hv'⟩
  ·obtain⟨u1,u2,u3⟩:=A6D e2 (A3l e2 hlrec) hkl (.loop { X.lp r (A5v ph) (A3p ph)with state := .exhausted }) L.length
   have hrun:=run_endLoop (P:=P) hlrec (by cases ph<;>simp[A5v,JX.lp,A65]at hp ⊢)
   obtain⟨g',hg'⟩:∃ g':G,g'=⟨gx.M,gx.β,gx.K,gx.w.putObj (g.w.heap.size+1) (.loop { X.lp r (A5v ph) (A3p ph)with state := .exhausted })⟩:=⟨_,rfl⟩
   rw[← hg']at u1 u2
   obtain⟨hl0,hSt,hDf⟩:=fin g' u1 (by rw[hg'];exact e1) u2 (by rw[hg'];exact(World.putObj_heap_other (by omega)).trans hmark) (by rw[hg'];exact hkD)
   have hrun':(Instr.endLoop (g.w.heap.size+1)).run P gx.w = .ok (A3p ph) g'.w:=by rw[hg',hrun];rfl
   cases ph with
   | norm=>exact⟨none,g'.w,hrun',g',.norm,_,_,rfl,hl0,hSt,hDf,trivial,hQ⟩
   | ret=>exact⟨some .ret,g'.w,hrun',wpIn_ret ⟨g',.ret,_,_,rfl,hl0,hSt,hDf,trivial,hQ⟩⟩
   | exit i=>exact⟨some (.exit i),g'.w,hrun',wpIn_exit ⟨g',.exit i,_,_,rfl,hl0,hSt,hDf,rfl,hQ⟩⟩
   | pan t=>cases hp
  ·obtain⟨hl0,hSt,hDf⟩:=fin gx e2 e1 (.refl _ _ _) hmark hkD
   exact⟨gx,.pan t,_,_,rfl,hl0,hSt,hDf,⟨v,rfl,hv'⟩,hQ⟩
end
end Go.Proofs.YtlaogbbcipebgaaGreat.Sh
