import Derived.Test.YtjcbpfhlgebgdaaDoorR20
import Derived.RangeFuncRecord
noncomputable section
namespace Go.Run
open Go.RowKit
section
variable {P:Program} {F:T Func} {w0:World} {G:Nat} {L:Lam} {H:AH} {w:World} {cs0:List Frame} {f0:FuncId}
theorem HRel.fresh (h:HRel w0 G L H w) {o:AObj} (hs:small H.nx = true) {w':World} (hw:Grew w w') (ho:ORel (L.upd H.nx ⟨w.heap.size,0,0⟩) w' ⟨w.heap.size,0,0⟩ o):HRel w0 G (L.upd H.nx ⟨w.heap.size,0,0⟩) (H.push o) w' :=
 (h.push hs).real (by rw [AH.get_push hs]; exact if_pos rfl) h.none_nx h.gnx (Nat.lt_succ_self _) hw ho
theorem HRel.put (h:HRel w0 G L H w) {b:Nat} {o o':AObj} {p:Pl} (hb:H.get b = some o) (ha:o.alive = true) (hp:L b = some p) (hG:G ≤ b) (hs:small b = true) {ob:Obj} (ho:ORel L (w.putObj p.b ob) p o'):HRel w0 G L (H.set b o') (w.putObj p.b ob) :=
 h.upd hb ha hp hG hs (fun _ hk=>World.putObj_heap_other hk) World.putObj_size rfl rfl rfl ho
theorem stepR_toRound {b:Frame} {a:Act} {k:List Item} {cs:List Frame} {ops:Array Oper} {i:Nat} {rest:List Nat} {o:Oper} {l:Nat} {f:FuncId} {tmps:Array Value} {assign body:Code} {w':World} (ho:ops[i]? = some o) (hw:Region.wanted o (yielded ops a.tmps) = true) (hnd:∀ c,o.op ≠ .defer c)
  (hr:(execOp a.eval o).run P w = .ok (.round l f tmps assign body) w') :
  step P (lone (b.atR a (.inRegion ops (i :: rest) :: k)) cs w) = .next (lone (Frame.round l f tmps assign body .normal) (b.atR a (.inRegion ops (i :: rest) :: k) :: cs) w'):=by
 have hg:=stepGR_op (P:=P) (b:=b) (k:=k) (cs:=cs) (w:=w) (rest:=rest) ho hw
 rw [Oper.semAt_eq _ _ _ hnd] at hg
 refine step_lone_go ?_
 rw [hg]
 simp [stepG.apply,hr,Frame.atR]
theorem TR.set1 {tm:T Value} {tmps:Array Value} (h:TR L tm tmps) {t:Nat} (ht:t < tmps.size) (hs:small t = true) {v x:Value} (hv:VR L v x):TR L (tm.set t v) (tmps.setIfInBounds t x):=by
 intro s
 unfold tget
 rw [T.get_set hs,Array.getD_eq_getD_getElem?,Array.getElem?_setIfInBounds]
 by_cases e:s = t
 ·subst e
  rw [if_pos rfl,if_pos rfl,if_pos ht]
  exact hv
 ·rw [if_neg e,if_neg (fun q=>e q.symm),← Array.getD_eq_getD_getElem?]
  exact h s
theorem TR.sets:∀ (ps:List Nat) {args args':List Value} {tm:T Value} {tmps:Array Value},TR L tm tmps→(∀ t ∈ ps,t < tmps.size∧small t = true)→LR L args args' →
  TR L ((ps.zip args).foldl (fun tm x=>tm.set x.1 x.2) tm) ((ps.zip args').foldl (fun tmps (x:Nat × Value)=>tmps.setIfInBounds x.1 x.2) tmps)∧((ps.zip args').foldl (fun tmps (x:Nat × Value)=>tmps.setIfInBounds x.1 x.2) tmps).size = tmps.size
 | [],_,_,_,_,h,_,_=>⟨h,rfl⟩
 | t :: ps,[],args',tm,tmps,h,_,hr=>by
  have:args' = []:=List.eq_nil_of_length_eq_zero (by rw [← hr.1]; rfl)
  subst this
  exact ⟨h,rfl⟩
 | t :: ps,v :: args,args',tm,tmps,h,hp,hr=>by
  obtain ⟨x,args'',rfl,h1,h2⟩:=hr.cons_inv
  have ht:=hp t (by simp)
  have:=TR.sets ps (h.set1 ht.1 ht.2 h1) (fun s hs=>by rw [Array.size_setIfInBounds]; exact hp s (by simp [hs])) h2
  rw [Array.size_setIfInBounds] at this
  exact this
theorem condL {α:Type} {c:Bool} {x l:List α} (h:(bif c then x else []) = l) (hne:l ≠ []):c = true∧x = l:=by
 cases c
 ·exact absurd h.symm hne
 ·exact ⟨rfl,h⟩
theorem round_met {c:AFr} {cs:List AFr} {cf:Frame} {cfs:List Frame} {args args':List Value} {l:Nat} {p:Pl} (hH:HRel w0 G L H w) (hW:WaitR G L H.nx c cf) (hlo:c.lo ≤ H.nx) (hG:G ≤ c.lo) (hC:CR G L c.lo cs cfs) (hr:LR L args args')
  (hp:L l = some p) (hb:botFn c cs = f0) {ls:List Cfg} (hq:roundA c cs H l args = ls) (hne:ls ≠ []) :
  ∃ f tmps assign body,(Instr.yield p.b args'.toArray).run P w = .ok (.round p.b f tmps assign body) w∧∃ c' ∈ ls,Sim P w0 G cs0 f0 c' (lone (Frame.round p.b f tmps assign body .normal) (cf :: cfs++cs0) w):=by
 unfold roundA at hq
 split at hq
 ·rename_i st pend fn nt tm params assign body d hl
  obtain ⟨c0,hq⟩:=condL hq hne
  simp only [Bool.and_eq_true] at c0
  have c1:args.length = params.size:=Nat.eq_of_beq_eq_true c0.1
  obtain ⟨tmps,d',h1,h2,h3,q,h4,h5⟩:=hH.obj l _ p hl hp
  have hall:∀ t ∈ params.toList,t < tmps.size∧small t = true:=fun t ht=>by
   have:=List.all_eq_true.1 c0.2 t ht
   simp only [Bool.and_eq_true] at this
   rw [h2]
   exact ⟨by simpa using this.1,this.2⟩
  have hy:=run_yield (P:=P) (args:=args'.toArray) h1 (by simp; rw [← hr.1]; exact c1)
  obtain ⟨s1,s2⟩:=TR.sets params.toList h3 hall hr
  have hfold:(params.zip args'.toArray).foldl (fun tmps (x:Tmp × Value)=>tmps.setIfInBounds x.1 x.2) tmps = (params.toList.zip args').foldl (fun tmps (x:Nat × Value)=>tmps.setIfInBounds x.1 x.2) tmps:=by
   rw [← Array.foldl_toList,Array.toList_zip]
  simp only at hy
  have hy':(Instr.yield p.b args'.toArray).run P w = .ok (.round p.b fn ((params.toList.zip args').foldl (fun tmps (x:Nat × Value)=>tmps.setIfInBounds x.1 x.2) tmps) assign body) w:=by
   rw [← hfold]; exact hy
  refine ⟨_,_,_,_,hy',?_⟩
  subst hq
  let b:Frame:={ (default:Frame) with fn:=fn,kind:=.normal,roundOf:=some p.b }
  refine ⟨_,List.mem_singleton.2 rfl,L,_,cf :: cfs,w,rfl,hH,⟨b,{ tmps:=(params.toList.zip args').foldl (fun tmps (x:Nat × Value)=>tmps.setIfInBounds x.1 x.2) tmps,defers:=[] },⟨rfl,rfl,?_,.nil,.some hp⟩,.inl ⟨rfl,[.code assign,.beginRound,.code body],?_,?_,?_⟩⟩,.cons (.inl hW) hlo hG hC,Nat.le_refl _,Nat.le_trans hG hlo,hb⟩
  ·rw [s2,h2]
  ·simp [Frame.round,Frame.atR,b]
  ·exact .same rfl (.same rfl (.same rfl .nil))
  ·exact s1
 ·exact absurd hq.symm hne
theorem endRound_met {c:Cfg} {cfs:List Frame} {l:Nat} {p:Pl} {jump:Option Code} (hH:HRel w0 G L c.H w) (hC:CR G L c.fr.lo c.cs cfs) (hlo:c.fr.lo ≤ c.H.nx) (_hG:G ≤ c.fr.lo) (hb:botFn c.fr c.cs = f0) (hp:L l = some p)
  {ls:List Cfg} (hq:endRoundA P G c l jump = ls) (hne:ls ≠ []) :
  ∃ cf cfs' v w',cfs = cf :: cfs'∧(Instr.endRound p.b jump).run P w = .ok v w'∧∃ c' ∈ ls,Sim P w0 G cs0 f0 c' (lone (cf.finish v) (cfs'++cs0) w'):=by
 unfold endRoundA at hq
 split at hq
 ·rename_i k cs hcs
  rw [hcs] at hC hb
  split at hq
  ·rename_i st pend fn nt tm params assign body d hl
   obtain ⟨c0,hq⟩:=condL hq hne
   simp only [Bool.and_eq_true] at c0
   obtain ⟨tmps,d',h1,h2,h3,q,h4,h5⟩:=hH.obj l _ p hl hp
   have hrun:=run_endRound (P:=P) jump h1
   cases hC with
   | cons hW r1 r2 hC' =>
    rename_i cf cfs'
    have hkr:k.ret = false:=by simpa using c0.1.2
    replace hW:=hW.resolve_right fun q=>by rw [q.1] at hkr; cases hkr
    have main:∀ (st':LoopState) (vb:Bool),(if jump.isNone = true then LoopState.ready else .done) = st'→jump.isNone = vb→finishA P k cs (c.H.set l (.loop st' jump fn nt tm params assign body d)) (.bool vb) = ls →
      ∃ cf' cfs'' v w',cf :: cfs' = cf' :: cfs''∧(Instr.endRound p.b jump).run P w = .ok v w'∧∃ c' ∈ ls,Sim P w0 G cs0 f0 c' (lone (cf'.finish v) (cfs''++cs0) w'):=by
     intro st' vb hst hvb hfi
     rw [hst,hvb] at hrun
     have hH':HRel w0 G L (c.H.set l (.loop st' jump fn nt tm params assign body d)) _:=hH.put hl rfl hp (ble c0.1.1.1) c0.1.1.2
      (ob:=.loop { state:=st',pending:=jump,fn:=fn,tmps:=tmps,params:=params,assign:=assign,body:=body,defers:=d' })
      (o':=.loop st' jump fn nt tm params assign body d) ⟨tmps,d',by rw [World.putObj_heap_same (hH.lt l p hp)],h2,h3,q,h4,h5⟩
     subst hfi
     obtain ⟨c',m1,hs⟩:=finish_met (P:=P) (cs0:=cs0) (f0:=f0) hH' hW r1 hlo r2 hC' (.bool vb) hb hne
     exact ⟨cf,cfs',_,_,rfl,hrun,c',m1,hs⟩
    cases jump with
    | none=>exact main _ _ rfl rfl hq
    | some j=>exact main _ _ rfl rfl hq
  ·exact absurd hq.symm hne
 ·exact absurd hq.symm hne
theorem enterLoop_met (hF:FunOK P F) {c:Cfg} {b:Frame} {a:Act} {k k':List Item} {cfs:List Frame} (hH:HRel w0 G L c.H w) (hB:FB L c.fr b a) (hret:c.fr.ret = false) (hd:c.fr.dr = none) (hI:IR L k k') (hT:TR L c.fr.tm a.tmps)
  (hC:CR G L c.fr.lo c.cs cfs) (hlo:c.fr.lo ≤ c.H.nx) (hG:G ≤ c.fr.lo) (hb:botFn c.fr c.cs = f0) {g:Operand} {ps:Array Tmp} {assign body:Code} {ls:List Cfg} (hq:enterLoopA F c g ps assign body k = ls) (hne:ls ≠ []) :
  Met P w0 G cs0 f0 ls (lone (b.atR a (.code (.rangeFunc g ps assign body) :: k')) (cfs++cs0) w):=by
 unfold enterLoopA at hq
 obtain ⟨cg,hq⟩:=condL hq hne
 split at hq
 ·rename_i f first captured hg
  have hval:VR L (aev c.fr.tm g) (a.eval g):=by
   cases g with
   | tmp s=>exact hT s
   | const v=>cases cg
   | global x=>cases cg
   | func x=>exact VR.refl_flat (by rfl)
  rw [hg] at hval
  generalize hev:a.eval g = ev at hval
  cases hval with
  | func hfr a1 a2 b1 b2 =>
  rename_i f2 first' captured'
  cases hfr with
  | same _ =>
  have hfi:AR L first first':=⟨a1,b1⟩
  have hca:AR L captured captured':=⟨a2,b2⟩
  have key:∀ {la:Nat} {q:Pl} {mark:List Deferred} {w2:World} {L2:Lam} {H2:AH} {c2:AFr} {dbs:List DfA},(Instr.enterLoop b.fn a.tmps ps assign body b.roundOf).run P w = .ok (q.b,mark) w2→L2 la = some q→HRel w0 G L2 H2 w2→Lam.ext c.H.nx L L2→c.H.nx ≤ H2.nx →
    c2 = { c.fr with todo:=.inRangeFunc la :: k,defers:=dbs }→DF L2 dbs (mark++a.defers)→rangeIn F c2 c.cs H2 f (first.toList++[.func (.yield la) #[] #[]]++captured.toList) = ls →
    Met P w0 G cs0 f0 ls (lone (b.atR a (.code (.rangeFunc g ps assign body) :: k')) (cfs++cs0) w):=by
   intro la q mark w2 L2 H2 c2 dbs he hla hH2 hext hnx hc2 hdf hri
   subst hc2
   unfold rangeIn at hri
   split at hri
   ·rename_i fn hfn
    obtain ⟨cl,hri⟩:=condL hri hne
    simp only [Bool.and_eq_true] at cl
    have hy:VR L2 (.func (.yield la) #[] #[]) (.func (.yield q.b) #[] #[]):=.func (.yield hla) rfl rfl (fun i v x h=>by simp at h) (fun i v x h=>by simp at h)
    have hl:LR L2 (first.toList++[.func (.yield la) #[] #[]]++captured.toList) (first'.toList++[.func (.yield q.b) #[] #[]]++captured'.toList) :=
     ((AR.toList (hfi.mono hext.1)).append ((LR.nil L2).cons hy)).append (AR.toList (hca.mono hext.1))
    have hres:∃ d,(resolve a.eval (rangeCall g q.b) 0).run P w2 = .ok d w2∧(invoke d.target d.args).run P w2 = (callFunc f (first'++#[.func (.yield q.b) #[] #[]]++captured')).run P w2:=by
     simp only [resolve,hev,Deferred.ofValue,Sem.run_pure]
     refine ⟨_,rfl,?_⟩
     have e:Array.map a.eval #[Operand.const (.func (.yield q.b) #[] #[])] = #[.func (.yield q.b) #[] #[]]:=by apply Array.ext'; simp [Act.eval]
     simp only [invoke,e]
    obtain ⟨dd,hr1,hr2⟩:=hres
    have hinv:=run_callFunc (P:=P) hF hfn (first'++#[.func (.yield q.b) #[] #[]]++captured') w2
    rw [← hr2] at hinv
    have hstep:=stepR_rangeFunc (P:=P) (b:=b) (a:=a) (k:=k') (cs:=cfs++cs0) he hr1 hinv
    have hW:WaitR G L2 H2.nx { c.fr with todo:=.inRangeFunc la :: k,defers:=dbs } (b.atR { a with defers:=mark++a.defers } (.inRangeFunc q.b :: k')):=by
     refine ⟨hret,b,{ a with defers:=mark++a.defers },.inRangeFunc q.b :: k',⟨hB.fn,hB.kind,hB.size,hdf,hB.rnd.mono hext.1⟩,rfl,?_⟩
     simp only [hd]
     exact ⟨.inR hla (hI.mono hext.1),hT.mono hext.1⟩
    subst hri
    have e:(first'.toList++[Value.func (.yield q.b) #[] #[]]++captured'.toList).toArray = first'++#[Value.func (.yield q.b) #[] #[]]++captured':=by apply Array.ext'; simp
    obtain ⟨c',m1,hs⟩:=enter_met (cs0:=cs0) (f0:=f0) hF hH2 hW (Nat.le_trans hlo hnx) hG (hC.ext (Lam.ext_mono hext hlo)) hl hfn (ble cl.1) cl.2 (botFn_same (fr:=c.fr) rfl hb) hne
    rw [e] at hs
    exact ⟨c',m1,_,.one hstep,hs⟩
   ·exact absurd hri.symm hne
  have hfnn:=hB.fn
  have hrnd:=hB.rnd
  split at hq
  ·rename_i hrn
   obtain ⟨cs1,hq⟩:=condL hq hne
   simp only [Bool.and_eq_true] at cs1
   rw [hrn] at hrnd
   generalize hbr:b.roundOf = br at hrnd
   cases hrnd
   have he:=run_enterLoop_outer (P:=P) (w:=w) b.fn a.tmps ps assign body
   have h1:=hH.fresh (o:=.dfr true) cs1.1 (Grew.alloc w (.deferred (some []))) (by show _ = _; exact World.alloc_heap_new w _)
   have hsz1:(w.alloc (.deferred (some []))).heap.size = w.heap.size + 1:=(Grew.alloc w _).size
   have hnx1:L.upd c.H.nx ⟨w.heap.size,0,0⟩ (c.H.nx + 1) = none:=by
    have:=h1.none_nx
    exact this
   have hle1:L.le (L.upd c.H.nx ⟨w.heap.size,0,0⟩):=Lam.le_upd hH.none_nx
   have hle2:=Lam.le_upd (p:=⟨(w.alloc (.deferred (some []))).heap.size,0,0⟩) hnx1
   have h2:=h1.fresh (o:=.loop .ready none c.fr.fn c.fr.nt c.fr.tm ps assign body c.H.nx) cs1.2 (Grew.alloc _ (.loop { state:=.ready,pending:=none,fn:=b.fn,tmps:=a.tmps,params:=ps,assign:=assign,body:=body,defers:=w.heap.size }))
    ⟨a.tmps,w.heap.size,by rw [World.alloc_heap_new,hfnn],hB.size,hT.mono (Lam.le_trans hle1 hle2),⟨w.heap.size,0,0⟩,hle2 _ _ (by unfold Lam.upd; rw [if_pos rfl]),rfl⟩
   refine key (la:=c.H.nx + 1) (q:=⟨(w.alloc (.deferred (some []))).heap.size,0,0⟩) (by rw [hbr,hsz1]; exact he) (by show Lam.upd _ (c.H.nx + 1) _ (c.H.nx + 1) = _; unfold Lam.upd; rw [if_pos rfl]) h2 ?_ (by show _ ≤ c.H.nx + 1 + 1; omega) rfl ?_ hq
   ·have e1:=Lam.ext_upd (p:=⟨w.heap.size,0,0⟩) hH.none_nx
    have e2:=Lam.ext_upd (p:=⟨(w.alloc (.deferred (some []))).heap.size,0,0⟩) hnx1
    exact ⟨Lam.le_trans e1.1 e2.1,fun x hx=>(e2.2 x (Nat.lt_succ_of_lt hx)).trans (e1.2 x hx)⟩
   ·exact .cons (p:=⟨w.heap.size,0,0⟩) (hle2 _ _ (by unfold Lam.upd; rw [if_pos rfl])) (hB.defers.mono (Lam.le_trans hle1 hle2))
  ·rename_i lr hrn
   split at hq
   ·rename_i st pend fn nt tm params assign' body' d hl
    obtain ⟨cs1,hq⟩:=condL hq hne
    rw [hrn] at hrnd
    generalize hbr:b.roundOf = br at hrnd
    cases hrnd with
    | some hp =>
    rename_i p
    obtain ⟨tmps,d',g1,g2,g3,q,g4,g5⟩:=hH.obj lr _ p hl hp
    have he:(Instr.enterLoop b.fn a.tmps ps assign body (some p.b)).run P w = .ok (w.heap.size,[]) (w.alloc (.loop { state:=.ready,pending:=none,fn:=b.fn,tmps:=a.tmps,params:=ps,assign:=assign,body:=body,defers:=d' })):=by
     unfold Instr.enterLoop
     simp only [Sem.run_bind,run_getLoop g1,run_newObj_alloc,Result.andThen,Sem.run_pure]
    have hle1:L.le (L.upd c.H.nx ⟨w.heap.size,0,0⟩):=Lam.le_upd hH.none_nx
    have h1:=hH.fresh (o:=.loop .ready none c.fr.fn c.fr.nt c.fr.tm ps assign body d) cs1 (Grew.alloc w (.loop { state:=.ready,pending:=none,fn:=b.fn,tmps:=a.tmps,params:=ps,assign:=assign,body:=body,defers:=d' }))
     ⟨a.tmps,d',by rw [World.alloc_heap_new,hfnn],hB.size,hT.mono hle1,q,hle1 _ _ g4,g5⟩
    exact key (la:=c.H.nx) (q:=⟨w.heap.size,0,0⟩) (by rw [hbr]; exact he) (by unfold Lam.upd; rw [if_pos rfl]) h1 (Lam.ext_upd hH.none_nx) (Nat.le_succ _) rfl (hB.defers.mono hle1) hq
   ·exact absurd hq.symm hne
 ·exact absurd hq.symm hne
end
end Go.Run
