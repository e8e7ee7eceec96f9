import Derived.Test.YtjcbpfhlgebgdaaDoorR18
noncomputable section
namespace Go.Run
open Go.RowKit
def BodyR (P:Program) (G:Nat) (L:Lam) (H:AH) (af:AFr) (a:Act) (todo:List Item):Prop :=
 match af.dr with
 | none=>IR L af.todo todo∧TR L af.tm a.tmps
 | some d=>d.cur = none∧∃ rest listed k,todo = .inRegion d.ops rest :: k∧IR L af.todo k∧DrR G L af d a rest listed∧(∀ p ∈ rest,p ∉ d.left→Stands P H d.ops af.tm d.al p)∧AlR L af.lo H.nx d rest
def TopR (P:Program) (G:Nat) (L:Lam) (H:AH) (af:AFr) (cf:Frame):Prop :=
 ∃ b a,FB L af b a∧((af.ret = false∧∃ todo,cf = b.atR a todo∧BodyR P G L H af a todo) ∨ (af.ret = true∧b.roundOf = none∧TR L af.tm a.tmps∧∃ todo,cf = { b.atR a todo with mode:=.returning }))
def WaitR (G:Nat) (L:Lam) (hi:Nat) (af:AFr) (cf:Frame):Prop :=
 af.ret = false∧∃ b a todo,FB L af b a∧cf = b.atR a todo∧match af.dr with
 | none=>IR L af.todo todo∧TR L af.tm a.tmps
 | some d=>∃ x,d.cur = some x∧x ∈ d.left∧(∃ o,d.ops[x]? = some o∧depsIn o d.left = true)∧∃ rest listed k,todo = .inRegion d.ops (x :: rest) :: k∧IR L af.todo k∧DrR G L af d a (x :: rest) listed∧AlR L af.lo hi d (x :: rest)
def RetR (L:Lam) (af:AFr) (cf:Frame):Prop:=af.ret = true∧∃ b a todo,FB L af b a∧b.roundOf = none∧TR L af.tm a.tmps∧cf = { b.atR a todo with mode:=.returning }
theorem RetR.mono {L L':Lam} (hl:L.le L') {af:AFr} {cf:Frame} (h:RetR L af cf):RetR L' af cf:=by
 obtain ⟨h0,b,a,todo,h1,h2,h3,h4⟩:=h
 exact ⟨h0,b,a,todo,h1.mono hl,h2,h3.mono hl,h4⟩
inductive CR (G:Nat) (L:Lam):Nat→List AFr→List Frame→Prop where
 | nil {hi:Nat}:CR G L hi [] []
 | cons {hi:Nat} {af:AFr} {cf:Frame} {afs:List AFr} {cfs:List Frame} (h:WaitR G L hi af cf ∨ RetR L af cf) (h1:af.lo ≤ hi) (h2:G ≤ af.lo) (k:CR G L af.lo afs cfs):CR G L hi (af :: afs) (cf :: cfs)
def botFn:AFr→List AFr→FuncId
 | af,[]=>af.fn
 | _,c :: cs=>botFn c cs
def Sim (P:Program) (w0:World) (G:Nat) (cs0:List Frame) (f0:FuncId) (c:Cfg) (m:Machine):Prop :=
 ∃ L cf cfs w,m = lone cf (cfs++cs0) w∧HRel w0 G L c.H w∧TopR P G L c.H c.fr cf∧CR G L c.fr.lo c.cs cfs∧c.fr.lo ≤ c.H.nx∧G ≤ c.fr.lo∧botFn c.fr c.cs = f0
section
variable {P:Program} {F:T Func} {w0:World} {G:Nat} {L:Lam} {H:AH} {w:World} {cs0:List Frame} {f0:FuncId}
theorem DrR.mono {af:AFr} {d:Dr} {a:Act} {rest:List Nat} {listed:Array Bool} (h:DrR G L af d a rest listed) {L':Lam} (hl:L.le L'):DrR G L' af d a rest listed :=
 ⟨h.ord,h.size,h.cl,h.left,h.nd,h.up,h.ok,h.pin,fun s hs=>(h.slots s hs).mono hl⟩
theorem AlR.ext {lo hi:Nat} {d:Dr} {rest:List Nat} (h:AlR L lo hi d rest) {L':Lam} {n:Nat} (he:Lam.ext n L L') (hn:hi ≤ n) {hi':Nat} (hh:hi ≤ hi'):AlR L' lo hi' d rest :=
 ⟨h.keys,fun p b hp hl hk=>by
  obtain ⟨a1,a2,a3⟩:=h.free p b hp hl hk
  exact ⟨by rw [he.2 b (by omega)]; exact a1,a2,by omega⟩,h.dist⟩
theorem WaitR.ext {hi:Nat} {af:AFr} {cf:Frame} (h:WaitR G L hi af cf) {L':Lam} (he:Lam.ext hi L L'):WaitR G L' hi af cf:=by
 obtain ⟨h0,b,a,todo,h1,h2,h3⟩:=h
 refine ⟨h0,b,a,todo,h1.mono he.1,h2,?_⟩
 cases hd:af.dr with
 | none=>rw [hd] at h3; exact ⟨h3.1.mono he.1,h3.2.mono he.1⟩
 | some d =>
  rw [hd] at h3
  obtain ⟨x,q1,q2,q3,rest,listed,k,q4,q5,q6,q7⟩:=h3
  exact ⟨x,q1,q2,q3,rest,listed,k,q4,q5.mono he.1,q6.mono he.1,q7.ext he (Nat.le_refl _) (Nat.le_refl _)⟩
theorem CR.ext {hi:Nat} {afs:List AFr} {cfs:List Frame} (h:CR G L hi afs cfs):∀ {L':Lam},Lam.ext hi L L'→CR G L' hi afs cfs:=by
 induction h with
 | nil=>intro L' _; exact .nil
 | cons h h1 h2 _ ih=>intro L' he; exact .cons (h.imp (fun h=>h.ext he) (fun h=>h.mono he.1)) h1 h2 (ih (Lam.ext_mono he h1))
theorem opnds_rel (hH:HRel w0 G L H w) {tm:T Value} {a:Act} (ht:TR L tm a.tmps) {o:Oper} (hok:opsOK G o = true):∀ x ∈ o.op.operands,VR L (aev tm x) (a.eval x):=by
 intro x hx
 unfold opsOK at hok
 rw [List.all_eq_true] at hok
 have hx1:=hok x (by simpa using hx)
 cases x with
 | tmp s=>exact ht s
 | const v=>exact VR.refl_flat hx1
 | global g =>
  have hg:g + 1 < G:=by simpa using hx1
  have:=VR.ptr (L:=L) (o:=0) (hH.glob g hg)
  simpa [aev,Act.eval] using this
 | func f=>exact VR.refl_flat (by rfl)
theorem TR.put {tm:T Value} {a:Act} {nt:Nat} (ht:TR L tm a.tmps) (hsz:a.tmps.size = nt) {o:Oper} (hd:dstOKA nt o = true) {v x:Value} (hv:VR L v x):TR L (putA tm o.dst v) (a.put o.dst x).tmps:=by
 intro s
 by_cases h:o.dst = some s
 ·have:=dst_lt hd h
  rw [h,getD_putS (by rw [hsz]; exact this.1),tget_putS this.2]
  exact hv
 ·rw [getD_putR h,tget_putR (fun s' hs'=>(dst_lt hd hs').2) h]
  exact ht s
theorem wanted_rel {tm:T Value} {a:Act} (ht:TR L tm a.tmps) {ops:Array Oper} {o:Oper}:Region.wanted o (yielded ops a.tmps) = Region.wanted o (yieldedA ops tm):=by
 unfold Region.wanted
 cases hg:o.guard with
 | none=>rfl
 | some gw =>
  obtain ⟨g,want⟩:=gw
  simp only
  rw [yielded_rel fun s _=>ht s]
theorem resOneA_run (hH:HRel w0 G L H w) {tm:T Value} {tmps:Array Value} (ht:TR L tm tmps) {g:ResultVar→Sem Value} (g1:∀ t,g (.tmp t) = pure (tmps.getD t undef)) (g2:∀ p t,g (.cell p t) = do loadVar t (← asAddr (tmps.getD p undef)))
  {r:ResultVar} {v:Value} (hv:resOneA P H tm r = some v):∃ x,(g r).run P w = .ok x w∧VR L v x:=by
 cases r with
 | tmp t =>
  simp only [resOneA,Option.some.injEq] at hv
  subst hv
  rw [g1]
  exact ⟨_,rfl,ht t⟩
 | cell p t =>
  rw [g2]
  simp only [resOneA] at hv
  obtain ⟨ad,e,y,q1,q2⟩:=loadA_spec hH hv (ht p)
  exact ⟨y,by rw [e]; simp only [asAddr,Sem.run_bind,Sem.run_pure,Result.andThen_ok]; exact q1,q2⟩
theorem resListA_run (hH:HRel w0 G L H w) {tm:T Value} {tmps:Array Value} (ht:TR L tm tmps) {g:ResultVar→Sem Value} (g1:∀ t,g (.tmp t) = pure (tmps.getD t undef)) (g2:∀ p t,g (.cell p t) = do loadVar t (← asAddr (tmps.getD p undef))) :
  ∀ (rs:List ResultVar) (vs:List Value),resListA P H tm rs = some vs→∃ xs:List Value,(rs.mapM g).run P w = .ok xs w∧LR L vs xs
 | [],vs,hv=>by
  simp only [resListA,Option.some.injEq] at hv; subst hv
  exact ⟨[],by simp,LR.nil L⟩
 | r :: rs,vs,hv=>by
  simp only [resListA] at hv
  split at hv
  ·rename_i v vs' h1 h2
   simp only [Option.some.injEq] at hv; subst hv
   obtain ⟨x,q1,q2⟩:=resOneA_run hH ht g1 g2 h1
   obtain ⟨xs,q3,q4⟩:=resListA_run hH ht g1 g2 rs vs' h2
   refine ⟨x :: xs,?_,q4.cons q2⟩
   simp only [List.mapM_cons,Sem.run_bind,q1,q3,Result.andThen_ok,Sem.run_pure]
  ·cases hv
theorem resA_run (hH:HRel w0 G L H w) {tm:T Value} {tmps:Array Value} (ht:TR L tm tmps) {fn:Func} {v:Value} (hv:resA P H tm fn.results.toList = some v):∃ x,(results fn tmps).run P w = .ok x w∧VR L v x:=by
 have key:∀ vs,resListA P H tm fn.results.toList = some vs→∃ xs:List Value,(results fn tmps).run P w = .ok (if h:xs.toArray.size = 1 then xs.toArray[0] else .tuple xs.toArray) w∧LR L vs xs:=by
  intro vs hvs
  have inner:∀ g:ResultVar→Sem Value,(∀ t,g (.tmp t) = pure (tmps.getD t undef))→(∀ p t,g (.cell p t) = do loadVar t (← asAddr (tmps.getD p undef))) →
    ∃ xs:List Value,(do let vs ← fn.results.mapM g; pure (if h:vs.size = 1 then vs[0] else .tuple vs):Sem Value).run P w = .ok (if h:xs.toArray.size = 1 then xs.toArray[0] else .tuple xs.toArray) w∧LR L vs xs:=by
   intro g g1 g2
   obtain ⟨xs,q1,q2⟩:=resListA_run hH ht g1 g2 _ vs hvs
   refine ⟨xs,?_,q2⟩
   have hmm:(fn.results.mapM g).run P w = .ok xs.toArray w:=by
    rw [← Array.toArray_toList (xs:=fn.results),List.mapM_toArray]
    simp [q1]
   simp only [Sem.run_bind,hmm,Result.andThen_ok,Sem.run_pure]
  exact inner (fun r=>match r with | .tmp t=>pure (tmps.getD t undef) | .cell p t=>do loadVar t (← asAddr (tmps.getD p undef))) (fun _=>rfl) (fun _ _=>rfl)
 unfold resA at hv
 split at hv
 ·rename_i u hvs
  cases hv
  obtain ⟨xs,q1,q2⟩:=key _ hvs
  obtain ⟨x,xs',rfl,h1,h2⟩:=q2.cons_inv
  have:=h2.nil_inv; subst this
  exact ⟨x,by simpa using q1,h1⟩
 ·rename_i vs hn hvs
  cases hv
  obtain ⟨xs,q1,q2⟩:=key _ hvs
  have hlen:¬ xs.toArray.size = 1:=by
   intro h
   have:vs.length = 1:=by rw [q2.1]; simpa using h
   match vs,this with
   | [u],_=>exact hn u rfl
  rw [dif_neg hlen] at q1
  exact ⟨_,q1,.tuple q2.toArray.1 q2.toArray.2⟩
 ·cases hv
theorem enter_rel (hF:FunOK P F) {f:FuncId} {fn:Func} {body:Code} (hf:F.get f = some fn) (hb:fn.body = some body) {args args':List Value} (hr:LR L args args') (hlen:args.length ≤ fn.ntmps) (_hsm:small fn.ntmps = true) :
  TopR P G L H { fn:=f,nt:=fn.ntmps,tm:=T.setRow .nil 0 args,todo:=[.code body],dr:=none,defers:=[],ret:=false,rnd:=none,lo:=H.nx } (Frame.enter P f args'.toArray .normal):=by
 obtain ⟨h1,h2,h3⟩:=hF f fn hf
 let b:Frame:={ (default:Frame) with fn:=f,kind:=.normal,roundOf:=none }
 have hal:args'.length ≤ fn.ntmps:=by rw [← hr.1]; exact hlen
 refine ⟨b,{ tmps:=args'.toArray++Array.replicate (fn.ntmps - args'.toArray.size) undef,defers:=[] },⟨rfl,rfl,?_,.nil,.none⟩,.inl ⟨rfl,[.code body],?_,?_,?_⟩⟩
 ·show (args'.toArray++Array.replicate (fn.ntmps - args'.toArray.size) undef).size = fn.ntmps
  simp; omega
 ·simp [Frame.enter,Frame.atR,h1,hb,b]
 ·exact .same rfl .nil
 ·intro s
  show VR L (tget (T.setRow .nil 0 args) s) _
  unfold tget
  rw [T.get_setRow args .nil 0 rfl]
  rw [Array.getD_eq_getD_getElem?,Array.getElem?_append]
  by_cases hs:s < args.length
  ·rw [if_pos ⟨Nat.zero_le _,by omega⟩,if_pos (by rw [List.size_toArray,← hr.1]; exact hs)]
   obtain ⟨x,q1,q2⟩:=hr.get (List.getElem?_eq_getElem hs)
   simp only [Nat.sub_zero,List.getElem?_toArray,q1,List.getElem?_eq_getElem hs,Option.getD_some]
   exact q2
  ·rw [if_neg (by omega),if_neg (by rw [List.size_toArray,← hr.1]; exact hs),T.get_nil]
   simp only [Option.getD_none,Array.getElem?_replicate]
   split <;> exact VR.undef L
end
end Go.Run
