import Derived.Test.YtgpccllhdcggdaaGreatDoorR20
import Derived.RangeFuncRecord
open Bool renaming and_eq_true -> zyL
set_option linter.unusedSimpArgs false
set_option linter.unusedVariables false
noncomputable section
namespace Go.Run
open Go.RowKit
section
variable {P:Program} {F:T Func} {w0:World} {G:Nat} {L:Lam} {H:AH} {w:World} {cs0:List Frame} {f0:FuncId}
theorem zH.fresh (h:zH w0 G L H w) {o:AObj} (hs:zq H.nx = true) {w':World} (hw:zdJ w w') (ho:Y7 (L.upd H.nx ⟨w.heap.size,0,0⟩) w' ⟨w.heap.size,0,0⟩ o):zH w0 G (L.upd H.nx ⟨w.heap.size,0,0⟩) (H.push o) w' :=
 (h.push hs).real (by rw [AH.get_push hs]; exact if_pos rfl) h.none_nx h.gnx (Nat.lt_succ_self _) hw ho
theorem zH.put (h:zH w0 G L H w) {b:Nat} {o o':AObj} {p:Pl} (hb:H.get b = some o) (ha:o.alive = true) (hp:L b = some p) (hG:G <= b) (hs:zq b = true) {ob:Obj} (ho:Y7 L (w.putObj p.b ob) p o'):zH w0 G L (H.set b o') (w.putObj p.b ob) :=
 h.upd hb ha hp hG hs (fun _ hk=>World.putObj_heap_other hk) World.putObj_size rfl rfl rfl ho
theorem zcA {b:Frame} {a:Act} {k:List Item} {cs:List Frame} {ops:Array Oper} {i:Nat} {rest:List Nat} {o:Oper} {l:Nat} {f:FuncId} {tmps:Array Value} {assign body:Code} {w':World} (ho:ops[i]? = some o) (hw:Region.wanted o (yielded ops a.tmps) = true) (hnd:∀ c,o.op ≠ .defer c)
  (hr:(execOp a.eval o).run P w = .ok (.round l f tmps assign body) w') :
  step P (lone (b.atR a (.inRegion ops (i :: rest) :: k)) cs w) = .next (lone (Frame.round l f tmps assign body .normal) (b.atR a (.inRegion ops (i :: rest) :: k) :: cs) w'):=by
 have hg:=stepGR_op (P:=P) (b:=b) (k:=k) (cs:=cs) (w:=w) (rest:=rest) ho hw
 rw [Oper.semAt_eq _ _ _ hnd] at hg
 refine step_lone_go ?_
 rw [hg]
 simp [stepG.apply,hr,Frame.atR]
theorem TR.set1 {tm:T Value} {tmps:Array Value} (h:TR L tm tmps) {t:Nat} (ht:t < tmps.size) (hs:zq t = true) {v x:Value} (hv:VR L v x):TR L (tm.set t v) (tmps.setIfInBounds t x):=by
 intro s
 unfold ZB
 rw [T.get_set hs,Array.getD_eq_getD_getElem?,Array.getElem?_setIfInBounds]
 by_cases e:s = t
 ·subst e
  rw [if_pos rfl,if_pos rfl,if_pos ht]
  exact hv
 ·rw [if_neg e,if_neg (fun q=>e q.symm),<- Array.getD_eq_getD_getElem?]
  exact h s
theorem TR.sets:∀ (ps:List Nat) {args args':List Value} {tm:T Value} {tmps:Array Value},TR L tm tmps->(∀ t ∈ ps,t < tmps.size/\zq t = true)->LR L args args' ->
  TR L ((ps.zip args).foldl (fun tm x=>tm.set x.1 x.2) tm) ((ps.zip args').foldl (fun tmps (x:Nat × Value)=>tmps.setIfInBounds x.1 x.2) tmps)/\((ps.zip args').foldl (fun tmps (x:Nat × Value)=>tmps.setIfInBounds x.1 x.2) tmps).size = tmps.size
 | [],_,_,_,_,h,_,_=>⟨h,rfl⟩
 | t :: ps,[],args',tm,tmps,h,_,hr=>by
  have:args' = []:=List.eq_nil_of_length_eq_zero (by rw [<- hr.1]; rfl)
  subst this
  exact ⟨h,rfl⟩
 | t :: ps,v :: args,args',tm,tmps,h,hp,hr=>by
  obtain ⟨x,args'',rfl,h1,h2⟩:=hr.cons_inv
  have ht:=hp t (by simp)
  have:=TR.sets ps (h.set1 ht.1 ht.2 h1) (fun s hs=>by rw [Array.size_setIfInBounds]; exact hp s (by simp [hs])) h2
  rw [Array.size_setIfInBounds] at this
  exact this
theorem zfq {α:Type} {c:Bool} {x l:List α} (h:(bif c then x else []) = l) (hne:l ≠ []):c = true/\x = l:=by
 cases c
 ·exact absurd h.symm hne
 ·exact ⟨rfl,h⟩
theorem zjq {c:AFr} {cs:List AFr} {cf:Frame} {cfs:List Frame} {args args':List Value} {l:Nat} {p:Pl} (hH:zH w0 G L H w) (hW:zbr G L H.nx c cf) (hlo:c.lo <= H.nx) (hG:G <= c.lo) (hC:CR G L c.lo cs cfs) (hr:LR L args args')
  (hp:L l = some p) (hb:Qc c cs = f0) {ls:List Cfg} (hq:zev c cs H l args = ls) (hne:ls ≠ []) :
  ∃ f tmps assign body,(Instr.yield p.b args'.toArray).run P w = .ok (.round p.b f tmps assign body) w/\∃ c' ∈ ls,Sim P w0 G cs0 f0 c' (lone (Frame.round p.b f tmps assign body .normal) (cf :: cfs++cs0) w):=by
 unfold zev at hq
 split at hq
 ·rename_i st pend fn nt tm params assign body d hl
  obtain ⟨c0,hq⟩:=zfq hq hne
  simp only [zyL] at c0
  have c1:args.length = params.size:=Nat.eq_of_beq_eq_true c0.1
  obtain ⟨tmps,d',h1,h2,h3,q,h4,h5⟩:=hH.obj l _ p hl hp
  have hall:∀ t ∈ params.toList,t < tmps.size/\zq t = true:=fun t ht=>by
   have:=List.all_eq_true.1 c0.2 t ht
   simp only [zyL] at this
   rw [h2]
   exact ⟨by simpa using this.1,this.2⟩
  have hy:=run_yield (P:=P) (args:=args'.toArray) h1 (by simp; rw [<- hr.1]; exact c1)
  obtain ⟨s1,s2⟩:=TR.sets params.toList h3 hall hr
  have hfold:(params.zip args'.toArray).foldl (fun tmps (x:Tmp × Value)=>tmps.setIfInBounds x.1 x.2) tmps = (params.toList.zip args').foldl (fun tmps (x:Nat × Value)=>tmps.setIfInBounds x.1 x.2) tmps:=by
   rw [<- Array.foldl_toList,Array.toList_zip]
  simp only at hy
  have hy':(Instr.yield p.b args'.toArray).run P w = .ok (.round p.b fn ((params.toList.zip args').foldl (fun tmps (x:Nat × Value)=>tmps.setIfInBounds x.1 x.2) tmps) assign body) w:=by
   rw [<- hfold]; exact hy
  refine ⟨_,_,_,_,hy',?_⟩
  subst hq
  let b:Frame:={ (default:Frame) with fn:=fn,kind:=.normal,roundOf:=some p.b }
  refine ⟨_,List.mem_singleton.2 rfl,L,_,cf :: cfs,w,rfl,hH,⟨b,{ tmps:=(params.toList.zip args').foldl (fun tmps (x:Nat × Value)=>tmps.setIfInBounds x.1 x.2) tmps,defers:=[] },⟨rfl,rfl,?_,.nil,.some hp⟩,.inl ⟨rfl,[.code assign,.beginRound,.code body],?_,?_,?_⟩⟩,.cons (.inl hW) hlo hG hC,Nat.le_refl _,Nat.le_trans hG hlo,hb⟩
  ·rw [s2,h2]
  ·simp [Frame.round,Frame.atR,b]
  ·exact .same rfl (.same rfl (.same rfl .nil))
  ·exact s1
 ·exact absurd hq.symm hne
theorem zkE {c:Cfg} {cfs:List Frame} {l:Nat} {p:Pl} {jump:Option Code} (hH:zH w0 G L c.H w) (hC:CR G L c.fr.lo c.cs cfs) (hlo:c.fr.lo <= c.H.nx) (_hG:G <= c.fr.lo) (hb:Qc c.fr c.cs = f0) (hp:L l = some p)
  {ls:List Cfg} (hq:Zv P G c l jump = ls) (hne:ls ≠ []) :
  ∃ cf cfs' v w',cfs = cf :: cfs'/\(Instr.endRound p.b jump).run P w = .ok v w'/\∃ c' ∈ ls,Sim P w0 G cs0 f0 c' (lone (cf.finish v) (cfs'++cs0) w'):=by
 unfold Zv at hq
 split at hq
 ·rename_i k cs hcs
  rw [hcs] at hC hb
  split at hq
  ·rename_i st pend fn nt tm params assign body d hl
   obtain ⟨c0,hq⟩:=zfq hq hne
   simp only [zyL] at c0
   obtain ⟨tmps,d',h1,h2,h3,q,h4,h5⟩:=hH.obj l _ p hl hp
   have hrun:=run_endRound (P:=P) jump h1
   cases hC with
   | cons hW r1 r2 hC' =>
    rename_i cf cfs'
    have hkr:k.ret = false:=by simpa using c0.1.2
    replace hW:=hW.resolve_right fun q=>by rw [q.1] at hkr; cases hkr
    have main:∀ (st':LoopState) (vb:Bool),(if jump.isNone = true then LoopState.ready else .done) = st'->jump.isNone = vb->Q0 P k cs (c.H.set l (.loop st' jump fn nt tm params assign body d)) (.bool vb) = ls ->
      ∃ cf' cfs'' v w',cf :: cfs' = cf' :: cfs''/\(Instr.endRound p.b jump).run P w = .ok v w'/\∃ c' ∈ ls,Sim P w0 G cs0 f0 c' (lone (cf'.finish v) (cfs''++cs0) w'):=by
     intro st' vb hst hvb hfi
     rw [hst,hvb] at hrun
     have hH':zH w0 G L (c.H.set l (.loop st' jump fn nt tm params assign body d)) _:=hH.put hl rfl hp (ble c0.1.1.1) c0.1.1.2
      (ob:=.loop { state:=st',pending:=jump,fn:=fn,tmps:=tmps,params:=params,assign:=assign,body:=body,defers:=d' })
      (o':=.loop st' jump fn nt tm params assign body d) ⟨tmps,d',by rw [World.putObj_heap_same (hH.lt l p hp)],h2,h3,q,h4,h5⟩
     subst hfi
     obtain ⟨c',m1,hs⟩:=zg9 (P:=P) (cs0:=cs0) (f0:=f0) hH' hW r1 hlo r2 hC' (.bool vb) hb hne
     exact ⟨cf,cfs',_,_,rfl,hrun,c',m1,hs⟩
    cases jump with
    | none=>exact main _ _ rfl rfl hq
    | some j=>exact main _ _ rfl rfl hq
  ·exact absurd hq.symm hne
 ·exact absurd hq.symm hne
theorem ziC (hF:Yn P F) {c:Cfg} {b:Frame} {a:Act} {k k':List Item} {cfs:List Frame} (hH:zH w0 G L c.H w) (hB:FB L c.fr b a) (hret:c.fr.ret = false) (hd:c.fr.dr = none) (hI:IR L k k') (hT:TR L c.fr.tm a.tmps)
  (hC:CR G L c.fr.lo c.cs cfs) (hlo:c.fr.lo <= c.H.nx) (hG:G <= c.fr.lo) (hb:Qc c.fr c.cs = f0) {g:Operand} {ps:Array Tmp} {assign body:Code} {ls:List Cfg} (hq:zaP F c g ps assign body k = ls) (hne:ls ≠ []) :
  Met P w0 G cs0 f0 ls (lone (b.atR a (.code (.rangeFunc g ps assign body) :: k')) (cfs++cs0) w):=by
 unfold zaP at hq
 obtain ⟨cg,hq⟩:=zfq hq hne
 split at hq
 ·rename_i f first captured hg
  have hval:VR L (aev c.fr.tm g) (a.eval g):=by
   cases g with
   | tmp s=>exact hT s
   | const v=>cases cg
   | global x=>cases cg
   | func x=>exact VR.refl_flat (by rfl)
  rw [hg] at hval
  generalize hev:a.eval g = ev at hval
  cases hval with
  | func hfr a1 a2 b1 b2 =>
  rename_i f2 first' captured'
  cases hfr with
  | same _ =>
  have hfi:AR L first first':=⟨a1,b1⟩
  have hca:AR L captured captured':=⟨a2,b2⟩
  have key:∀ {la:Nat} {q:Pl} {mark:List Deferred} {w2:World} {L2:Lam} {H2:AH} {c2:AFr} {dbs:List DfA},(Instr.enterLoop b.fn a.tmps ps assign body b.roundOf).run P w = .ok (q.b,mark) w2->L2 la = some q->zH w0 G L2 H2 w2->Lam.ext c.H.nx L L2->c.H.nx <= H2.nx ->
    c2 = { c.fr with todo:=.inRangeFunc la :: k,defers:=dbs }->DF L2 dbs (mark++a.defers)->zgk F c2 c.cs H2 f (first.toList++[.func (.yield la) #[] #[]]++captured.toList) = ls ->
    Met P w0 G cs0 f0 ls (lone (b.atR a (.code (.rangeFunc g ps assign body) :: k')) (cfs++cs0) w):=by
   intro la q mark w2 L2 H2 c2 dbs he hla hH2 hext hnx hc2 hdf hri
   subst hc2
   unfold zgk at hri
   split at hri
   ·rename_i fn hfn
    obtain ⟨cl,hri⟩:=zfq hri hne
    simp only [zyL] at cl
    have hy:VR L2 (.func (.yield la) #[] #[]) (.func (.yield q.b) #[] #[]):=.func (.yield hla) rfl rfl (fun i v x h=>by simp at h) (fun i v x h=>by simp at h)
    have hl:LR L2 (first.toList++[.func (.yield la) #[] #[]]++captured.toList) (first'.toList++[.func (.yield q.b) #[] #[]]++captured'.toList) :=
     ((AR.toList (hfi.mono hext.1)).append ((LR.nil L2).cons hy)).append (AR.toList (hca.mono hext.1))
    have hres:∃ d,(resolve a.eval (rangeCall g q.b) 0).run P w2 = .ok d w2/\(invoke d.target d.args).run P w2 = (callFunc f (first'++#[.func (.yield q.b) #[] #[]]++captured')).run P w2:=by
     simp only [resolve,hev,Deferred.ofValue,Sem.run_pure]
     refine ⟨_,rfl,?_⟩
     have e:Array.map a.eval #[Operand.const (.func (.yield q.b) #[] #[])] = #[.func (.yield q.b) #[] #[]]:=by apply Array.ext'; simp [Act.eval]
     simp only [invoke,e]
    obtain ⟨dd,hr1,hr2⟩:=hres
    have hinv:=run_callFunc (P:=P) hF hfn (first'++#[.func (.yield q.b) #[] #[]]++captured') w2
    rw [<- hr2] at hinv
    have hstep:=stepR_rangeFunc (P:=P) (b:=b) (a:=a) (k:=k') (cs:=cfs++cs0) he hr1 hinv
    have hW:zbr G L2 H2.nx { c.fr with todo:=.inRangeFunc la :: k,defers:=dbs } (b.atR { a with defers:=mark++a.defers } (.inRangeFunc q.b :: k')):=by
     refine ⟨hret,b,{ a with defers:=mark++a.defers },.inRangeFunc q.b :: k',⟨hB.fn,hB.kind,hB.size,hdf,hB.rnd.mono hext.1⟩,rfl,?_⟩
     simp only [hd]
     exact ⟨.inR hla (hI.mono hext.1),hT.mono hext.1⟩
    subst hri
    have e:(first'.toList++[Value.func (.yield q.b) #[] #[]]++captured'.toList).toArray = first'++#[Value.func (.yield q.b) #[] #[]]++captured':=by apply Array.ext'; simp
    obtain ⟨c',m1,hs⟩:=zeC (cs0:=cs0) (f0:=f0) hF hH2 hW (Nat.le_trans hlo hnx) hG (hC.ext (Lam.ext_mono hext hlo)) hl hfn (ble cl.1) cl.2 (qm (fr:=c.fr) rfl hb) hne
    rw [e] at hs
    exact ⟨c',m1,_,.one hstep,hs⟩
   ·exact absurd hri.symm hne
  have hfnn:=hB.fn
  have hrnd:=hB.rnd
  split at hq
  ·rename_i hrn
   obtain ⟨cs1,hq⟩:=zfq hq hne
   simp only [zyL] at cs1
   rw [hrn] at hrnd
   generalize hbr:b.roundOf = br at hrnd
   cases hrnd
   have he:=run_enterLoop_outer (P:=P) (w:=w) b.fn a.tmps ps assign body
   have h1:=hH.fresh (o:=.dfr true) cs1.1 (zdJ.alloc w (.deferred (some []))) (by show _ = _; exact World.alloc_heap_new w _)
   have hsz1:(w.alloc (.deferred (some []))).heap.size = w.heap.size + 1:=(zdJ.alloc w _).size
   have hnx1:L.upd c.H.nx ⟨w.heap.size,0,0⟩ (c.H.nx + 1) = none:=by
    have:=h1.none_nx
    exact this
   have hle1:L.le (L.upd c.H.nx ⟨w.heap.size,0,0⟩):=Lam.le_upd hH.none_nx
   have hle2:=Lam.le_upd (p:=⟨(w.alloc (.deferred (some []))).heap.size,0,0⟩) hnx1
   have h2:=h1.fresh (o:=.loop .ready none c.fr.fn c.fr.nt c.fr.tm ps assign body c.H.nx) cs1.2 (zdJ.alloc _ (.loop { state:=.ready,pending:=none,fn:=b.fn,tmps:=a.tmps,params:=ps,assign:=assign,body:=body,defers:=w.heap.size }))
    ⟨a.tmps,w.heap.size,by rw [World.alloc_heap_new,hfnn],hB.size,hT.mono (Lam.le_trans hle1 hle2),⟨w.heap.size,0,0⟩,hle2 _ _ (by unfold Lam.upd; rw [if_pos rfl]),rfl⟩
   refine key (la:=c.H.nx + 1) (q:=⟨(w.alloc (.deferred (some []))).heap.size,0,0⟩) (by rw [hbr,hsz1]; exact he) (by show Lam.upd _ (c.H.nx + 1) _ (c.H.nx + 1) = _; unfold Lam.upd; rw [if_pos rfl]) h2 ?_ (by show _ <= c.H.nx + 1 + 1; omega) rfl ?_ hq
   ·have e1:=Lam.ext_upd (p:=⟨w.heap.size,0,0⟩) hH.none_nx
    have e2:=Lam.ext_upd (p:=⟨(w.alloc (.deferred (some []))).heap.size,0,0⟩) hnx1
    exact ⟨Lam.le_trans e1.1 e2.1,fun x hx=>(e2.2 x (Nat.lt_succ_of_lt hx)).trans (e1.2 x hx)⟩
   ·exact .cons (p:=⟨w.heap.size,0,0⟩) (hle2 _ _ (by unfold Lam.upd; rw [if_pos rfl])) (hB.defers.mono (Lam.le_trans hle1 hle2))
  ·rename_i lr hrn
   split at hq
   ·rename_i st pend fn nt tm params assign' body' d hl
    obtain ⟨cs1,hq⟩:=zfq hq hne
    rw [hrn] at hrnd
    generalize hbr:b.roundOf = br at hrnd
    cases hrnd with
    | some hp =>
    rename_i p
    obtain ⟨tmps,d',g1,g2,g3,q,g4,g5⟩:=hH.obj lr _ p hl hp
    have he:(Instr.enterLoop b.fn a.tmps ps assign body (some p.b)).run P w = .ok (w.heap.size,[]) (w.alloc (.loop { state:=.ready,pending:=none,fn:=b.fn,tmps:=a.tmps,params:=ps,assign:=assign,body:=body,defers:=d' })):=by
     unfold Instr.enterLoop
     simp only [Sem.run_bind,run_getLoop g1,run_newObj_alloc,Result.andThen,Sem.run_pure]
    have hle1:L.le (L.upd c.H.nx ⟨w.heap.size,0,0⟩):=Lam.le_upd hH.none_nx
    have h1:=hH.fresh (o:=.loop .ready none c.fr.fn c.fr.nt c.fr.tm ps assign body d) cs1 (zdJ.alloc w (.loop { state:=.ready,pending:=none,fn:=b.fn,tmps:=a.tmps,params:=ps,assign:=assign,body:=body,defers:=d' }))
     ⟨a.tmps,d',by rw [World.alloc_heap_new,hfnn],hB.size,hT.mono hle1,q,hle1 _ _ g4,g5⟩
    exact key (la:=c.H.nx) (q:=⟨w.heap.size,0,0⟩) (by rw [hbr]; exact he) (by unfold Lam.upd; rw [if_pos rfl]) h1 (Lam.ext_upd hH.none_nx) (Nat.le_succ _) rfl (hB.defers.mono hle1) hq
   ·exact absurd hq.symm hne
 ·exact absurd hq.symm hne
end
end Go.Run
noncomputable section
namespace Go.Run
open Go.RowKit
section
variable {P:Program} {F:T Func} {w0:World} {G:Nat} {L:Lam} {H:AH} {w:World} {cs0:List Frame} {f0:FuncId}
theorem zbs {c:Bool} {x:Out} {l:List Cfg} (h:(bif c then x else Out.go []) = Out.go l) (hne:l ≠ []):c = true/\x = .go l:=by
 cases c
 ·simp only [cond_false,Out.go.injEq] at h; exact absurd h.symm hne
 ·exact ⟨rfl,h⟩
theorem ziD {ops:Array Oper} {tm:T Value} {al:List (Nat × Nat)} {p:Nat} (h:QG P H ops tm al p) (he:zvn P H ops tm p = true):False:=by
 unfold zvn at he
 split at he
 ·cases he
 ·rename_i o ho
  have:=h o ho
  split at he
  ·rename_i hk; rw [hk] at this; exact this
  ·cases he
theorem zs9 (hF:Yn P F) {c:Cfg} {d:Dr} {b:Frame} {a:Act} {todo:List Item} {cfs:List Frame} (hH:zH w0 G L c.H w) (hB:FB L c.fr b a) (hret:c.fr.ret = false) (hd:c.fr.dr = some d) (hbody:QJ P G L c.H c.fr a todo)
  (hC:CR G L c.fr.lo c.cs cfs) (hlo:c.fr.lo <= c.H.nx) (hG:G <= c.fr.lo) (hb:Qc c.fr c.cs = f0) {l:List Cfg} (ha:zaw P F G c = .go l) (hne:l ≠ []):Met P w0 G cs0 f0 l (lone (b.atR a todo) (cfs++cs0) w):=by
 unfold QJ at hbody
 rw [hd] at hbody
 obtain ⟨hcur,rest,listed,k,rfl,hI,hD,hst,hA⟩:=hbody
 replace ha:=zqf hret ha hne
 unfold zq9 at ha
 simp only [hret,hd] at ha
 cases hl:d.left with
 | nil =>
  rw [hl] at ha
  simp only [Out.go.injEq] at ha
  subst ha
  obtain ⟨a',w',L',s1,h1,e1,b1,t1⟩:=zjo (P:=P) (k:=k) (cs:=cfs++cs0) hG (Nat.le_refl _) hl rest listed L a w hH hB hD hA hst
  refine ⟨_,List.mem_singleton.2 rfl,_,s1,L',_,cfs,w',rfl,h1,⟨b,a',⟨b1.fn,b1.kind,b1.size,b1.defers,b1.rnd⟩,.inl ⟨rfl,k,rfl,?_⟩⟩,hC.ext e1,hlo,hG,qm (fr:=c.fr) rfl hb⟩
  unfold QJ
  exact ⟨hI.mono e1.1,t1⟩
 | cons i0 left0 =>
  rw [hl] at ha
  simp only at ha
  rw [<- hl] at ha
  cases hq:Za P c.H c.fr.tm d.ops d.left d.left with
  | some r =>
   obtain ⟨i,o,kd⟩:=r
   obtain ⟨q1,q2,q3,q4,q5⟩:=zbq _ hq
   have hnp:zkz d.ops o = false:=zoG (by rw [q4]; exact q5)
   rw [hq] at ha
   cases kd with
   | skip =>
    simp only [Out.go.injEq] at ha
    subst ha
    refine ⟨_,List.mem_singleton.2 rfl,_,Steps.refl _ _,L,_,cfs,w,rfl,hH,⟨b,a,⟨hB.fn,hB.kind,hB.size,hB.defers,hB.rnd⟩,.inl ⟨rfl,_,rfl,?_⟩⟩,hC,hlo,hG,qm (fr:=c.fr) rfl hb⟩
    unfold QJ
    refine ⟨hcur,rest,listed,k,rfl,hI,?_,fun p hp hpl=>?_,?_⟩
    ·have:=hD.quick q1 q2 q3 hnp undef d.al
     exact ⟨this.ord,this.size,this.cl,this.left,this.nd,this.up,this.ok,this.pin,this.slots⟩
    ·by_cases e:p = i
     ·subst e; exact zfp hD q2 (.inl ⟨q4,rfl⟩)
     ·have hpl':p ∉ d.left:=fun hx=>hpl ((List.mem_erase_of_ne e).2 hx)
      exact zdD hD q1 q2 hnp undef hpl' (hst p hp hpl')
    ·have key:∀ p,p ∈ rest->p ∉ d.left.erase i->∀ bb,d.al.lookup p = some bb->p ∉ d.left:=fun p _ hpl bb hlk=>hA.keys p bb hlk
     exact ⟨fun p bb hlk hm=>hA.keys p bb hlk (List.mem_of_mem_erase hm),fun p bb hp hpl hlk=>hA.free p bb hp (key p hp hpl bb hlk) hlk,fun p r bb hp hpl hr hrl h1 h2=>hA.dist p r bb hp (key p hp hpl bb h1) hr (key r hr hrl bb h2) h1 h2⟩
   | val v =>
    simp only [Out.go.injEq] at ha
    subst ha
    refine ⟨_,List.mem_singleton.2 rfl,_,Steps.refl _ _,L,_,cfs,w,rfl,hH,⟨b,a,⟨hB.fn,hB.kind,hB.size,hB.defers,hB.rnd⟩,.inl ⟨rfl,_,rfl,?_⟩⟩,hC,hlo,hG,qm (fr:=c.fr) rfl hb⟩
    unfold QJ
    refine ⟨hcur,rest,listed,k,rfl,hI,?_,fun p hp hpl=>?_,?_⟩
    ·have:=hD.quick q1 q2 q3 hnp v d.al
     exact ⟨this.ord,this.size,this.cl,this.left,this.nd,this.up,this.ok,this.pin,this.slots⟩
    ·by_cases e:p = i
     ·subst e; exact zfp hD q2 (.inr q4)
     ·have hpl':p ∉ d.left:=fun hx=>hpl ((List.mem_erase_of_ne e).2 hx)
      exact zdD hD q1 q2 hnp v hpl' (hst p hp hpl')
    ·have key:∀ p,p ∈ rest->p ∉ d.left.erase i->∀ bb,d.al.lookup p = some bb->p ∉ d.left:=fun p _ hpl bb hlk=>hA.keys p bb hlk
     exact ⟨fun p bb hlk hm=>hA.keys p bb hlk (List.mem_of_mem_erase hm),fun p bb hp hpl hlk=>hA.free p bb hp (key p hp hpl bb hlk) hlk,fun p r bb hp hpl hr hrl h1 h2=>hA.dist p r bb hp (key p hp hpl bb h1) hr (key r hr hrl bb h2) h1 h2⟩
   | lay ob mk =>
    simp only at ha
    obtain ⟨hcond,ha⟩:=zbs ha hne
    simp only [Out.go.injEq] at ha
    subst ha
    simp only [zyL] at hcond
    obtain ⟨c1,c2⟩:=hcond
    refine ⟨_,List.mem_singleton.2 rfl,_,Steps.refl _ _,L,_,cfs,w,rfl,hH.push c1,⟨b,a,⟨hB.fn,hB.kind,hB.size,hB.defers,hB.rnd⟩,.inl ⟨rfl,_,rfl,?_⟩⟩,hC,Nat.le_succ_of_le hlo,hG,qm (fr:=c.fr) rfl hb⟩
    unfold QJ
    have hnx:=hH.none_nx
    refine ⟨hcur,rest,listed,k,rfl,hI,?_,fun p hp hpl=>?_,?_⟩
    ·have:=hD.quick q1 q2 q3 hnp (mk c.H.nx) ((i,c.H.nx) :: d.al)
     exact ⟨this.ord,this.size,this.cl,this.left,this.nd,this.up,this.ok,this.pin,this.slots⟩
    ·rw [List.all_eq_true] at c2
     rcases Nat.lt_or_ge p d.ops.size with hlt | hge
     ·have:=c2 p (by simpa using hlt)
      simp only [Bool.or_eq_true] at this
      rcases this with (q | q) | q
      ·exact absurd (by simpa using q) hpl
      ·simp only [zyL,Bool.not_eq_true',beq_eq_false_iff_ne] at q
       have hpl':p ∉ d.left:=fun hx=>hpl ((List.mem_erase_of_ne q.1).2 hx)
       exact (ziD (hst p hp hpl') q.2).elim
      ·exact zjm q
     ·intro o' ho'
      rw [Array.getElem?_eq_none hge] at ho'; cases ho'
    ·have hold:∀ p bb,d.al.lookup p = some bb->p ≠ i:=fun p bb hlk e=>hA.keys p bb hlk (e ▸ q1)
     have hlook:∀ p bb,List.lookup p ((i,c.H.nx) :: d.al) = some bb->(p = i/\bb = c.H.nx) ∨ (p ≠ i/\d.al.lookup p = some bb):=fun p bb hlk=>by
      rw [List.lookup_cons] at hlk
      by_cases e:p = i
      ·subst e; simp at hlk; exact .inl ⟨rfl,hlk.symm⟩
      ·have:(p == i) = false:=by simpa using e
       rw [this] at hlk; exact .inr ⟨e,hlk⟩
     have hlt:∀ p bb,p ∈ rest->p ∉ d.left.erase i->p ≠ i->d.al.lookup p = some bb->L bb = none/\c.fr.lo <= bb/\bb < c.H.nx:=fun p bb hp hpl e hlk=>hA.free p bb hp (fun hx=>hpl ((List.mem_erase_of_ne e).2 hx)) hlk
     refine ⟨fun p bb hlk hm=>?_,fun p bb hp hpl hlk=>?_,fun p r bb hp hpl hr hrl h1 h2=>?_⟩
     ·rcases hlook p bb hlk with ⟨rfl,_⟩ | ⟨_,h⟩
      ·exact List.Nodup.not_mem_erase hD.nd hm
      ·exact hA.keys p bb h (List.mem_of_mem_erase hm)
     ·rcases hlook p bb hlk with ⟨rfl,rfl⟩ | ⟨e,h⟩
      ·exact ⟨hnx,hlo,Nat.lt_succ_self _⟩
      ·obtain ⟨f1,f2,f3⟩:=hlt p bb hp hpl e h
       exact ⟨f1,f2,Nat.lt_succ_of_lt f3⟩
     ·rcases hlook p bb h1 with ⟨e1,f1⟩ | ⟨e1,h1⟩ <;> rcases hlook r bb h2 with ⟨e2,f2⟩ | ⟨e2,h2⟩
      ·rw [e1,e2]
      ·have:=(hlt r bb hr hrl e2 h2).2.2
       rw [f1] at this; exact absurd this (Nat.lt_irrefl _)
      ·have:=(hlt p bb hp hpl e1 h1).2.2
       rw [f2] at this; exact absurd this (Nat.lt_irrefl _)
      ·exact hA.dist p r bb hp (fun hx=>hpl ((List.mem_erase_of_ne e1).2 hx)) hr (fun hx=>hrl ((List.mem_erase_of_ne e2).2 hx)) h1 h2
   | eff=>exact absurd rfl q5
  | none =>
   rw [hq] at ha
   simp only at ha
   split at ha
   case h_1=>simp only [Out.go.injEq] at ha; exact absurd ha.symm hne
   rename_i x o hx
   obtain ⟨q1,q2,q3⟩:=Y5 _ hx
   obtain ⟨hafter,ha⟩:=zbs ha hne
   obtain ⟨hwt,ha⟩:=zbs ha hne
   have hafter':∀ j ∈ d.left,j = x ∨ anc d.ops j x = true:=fun j hj=>by
    rw [List.all_eq_true] at hafter
    have:=hafter j hj
    simp only [Bool.or_eq_true,beq_iff_eq] at this
    exact this.imp id zce
   obtain ⟨a1,w1,L1,rest1,listed1,s1,h1,e1,b1,d1,al1,st1⟩:=zmA (P:=P) (k:=k) (cs:=cfs++cs0) hG (Nat.le_refl _) q1 hafter' rest listed L a w hH hB hD hA hst
   cases hord:d1.ord with
   | cons hr hk =>
   have hwant:Region.wanted o (yielded d.ops a1.tmps) = true:=by rw [d1.wanted q2 hr]; exact hwt
   have hnd:=(yU hD.ok q2).2.2.1
   have hspec:=zfl (G:=G) hF h1 (ρ:=aev c.fr.tm) (ρ':=a1.eval) (d1.opnds h1 q2 hr)
   cases hX:zbK P F G c.H (aev c.fr.tm) o with
   | vals lv =>
    rw [hX] at ha hspec
    simp only at ha
    obtain ⟨hre,ha⟩:=zbs ha hne
    simp only [Out.go.injEq] at ha
    subst ha
    have hlv:lv ≠ []:=by rintro rfl; exact hne rfl
    obtain ⟨v,H',m1,m2,y,w2,L2,e2,h2,v2,x2⟩:=hspec hlv
    have hstep:=zdC (P:=P) (b:=b) (k:=k) (cs:=cfs++cs0) (rest:=rest1) q2 hwant hnd x2
    rw [List.all_eq_true] at hre
    have hre':=hre _ m1
    refine ⟨_,List.mem_map.2 ⟨(v,H'),m1,rfl⟩,_,s1.trans (.one hstep),L2,_,cfs,w2,rfl,h2,⟨b,a1.put o.dst y,?_,.inl ⟨rfl,_,rfl,?_⟩⟩,(hC.ext e1).ext (Lam.ext_mono e2 hlo),Nat.le_trans hlo m2,hG,qm (fr:=c.fr) rfl hb⟩
    ·have:=(b1.mono e2.1).put o.dst y
     exact ⟨this.fn,this.kind,this.size,this.defers,this.rnd⟩
    ·have he:=d1.effect b1.size e2.1 q1 q2 v2 q3 none
     unfold QJ
     refine ⟨hcur,rest1,_,k,rfl,hI.mono (Lam.le_trans e1.1 e2.1),⟨he.ord,he.size,he.cl,he.left,he.nd,he.up,he.ok,he.pin,he.slots⟩,zdE hre' rfl d1.cl hr hk,?_⟩
     have key:∀ p,p ∈ rest1->p ∉ d.left.erase x->p ∉ d.left:=fun p hp hpl hq=>by
      have hne':p ≠ x:=by
       rintro rfl
       exact zaR.head_not_mem hr hk hp
      exact hpl ((List.mem_erase_of_ne hne').2 hq)
     refine ⟨fun p bb hlk hm=>al1.keys p bb hlk (List.mem_of_mem_erase hm),fun p bb hp hpl hlk=>?_,fun p r bb hp hpl hr' hrl h1' h2'=>al1.dist p r bb (List.mem_cons_of_mem _ hp) (key p hp hpl) (List.mem_cons_of_mem _ hr') (key r hr' hrl) h1' h2'⟩
     obtain ⟨f1,f2,f3⟩:=al1.free p bb (List.mem_cons_of_mem _ hp) (key p hp hpl) hlk
     exact ⟨by rw [e2.2 bb f3]; exact f1,f2,Nat.lt_of_lt_of_le f3 m2⟩
   | call f args =>
    rw [hX] at ha hspec
    simp only [Out.go.injEq] at ha
    subst ha
    obtain ⟨args',fn,r1,r2,r3,r4,r5⟩:=hspec
    have hstep:=zfn (P:=P) (b:=b) (k:=k) (cs:=cfs++cs0) (rest:=rest1) q2 hwant hnd r1
    have hW:zbr G L1 c.H.nx { c.fr with dr:=some { d with cur:=some x },ret:=false } (b.atR a1 (.inRegion d.ops (x :: rest1) :: k)):=by
     refine ⟨rfl,b,a1,_,⟨b1.fn,b1.kind,b1.size,b1.defers,b1.rnd⟩,rfl,?_⟩
     exact ⟨x,rfl,q1,⟨o,q2,q3⟩,rest1,listed1,k,rfl,hI.mono e1.1,⟨d1.ord,d1.size,d1.cl,d1.left,d1.nd,d1.up,d1.ok,d1.pin,d1.slots⟩,⟨al1.keys,al1.free,al1.dist⟩⟩
    obtain ⟨c',m1,hs⟩:=zeC (cs0:=cs0) (f0:=f0) hF h1 hW hlo hG (hC.ext e1) r2 r3 r4 r5 (qm (fr:=c.fr) rfl hb) hne
    exact ⟨c',m1,_,s1.trans (.one hstep),hs⟩
   | round lp args =>
    rw [hX] at ha hspec
    simp only [Out.go.injEq] at ha
    obtain ⟨args',p,r1,r2,r3⟩:=hspec
    have hW:zbr G L1 c.H.nx { c.fr with dr:=some { d with cur:=some x },ret:=false } (b.atR a1 (.inRegion d.ops (x :: rest1) :: k)):=by
     refine ⟨rfl,b,a1,_,⟨b1.fn,b1.kind,b1.size,b1.defers,b1.rnd⟩,rfl,?_⟩
     exact ⟨x,rfl,q1,⟨o,q2,q3⟩,rest1,listed1,k,rfl,hI.mono e1.1,⟨d1.ord,d1.size,d1.cl,d1.left,d1.nd,d1.up,d1.ok,d1.pin,d1.slots⟩,⟨al1.keys,al1.free,al1.dist⟩⟩
    obtain ⟨f,tmps,asg,bdy,y1,c',m1,hs⟩:=zjq (P:=P) (cs0:=cs0) (f0:=f0) h1 hW hlo hG (hC.ext e1) r3 r2 (qm (fr:=c.fr) rfl hb) ha hne
    rw [y1] at r1
    have hstep:=zcA (P:=P) (b:=b) (k:=k) (cs:=cfs++cs0) (rest:=rest1) q2 hwant hnd r1
    exact ⟨c',m1,_,s1.trans (.one hstep),hs⟩
end
end Go.Run
noncomputable section
namespace Go.Run
open Go.RowKit
section
variable {P:Program} {F:T Func} {w0:World} {G:Nat} {L:Lam} {H:AH} {w:World} {cs0:List Frame} {f0:FuncId}
theorem zkF {c:Cfg} {l:Nat} {jump:Option Code} {ls:List Cfg} (hq:Zv P G c l jump = ls) (hne:ls ≠ []):c.fr.dfd = false:=by
 unfold Zv at hq
 split at hq
 ·split at hq
  ·obtain ⟨c0,_⟩:=zfq hq hne
   simp only [zyL,Bool.not_eq_true'] at c0
   exact c0.2
  ·exact absurd hq.symm hne
 ·exact absurd hq.symm hne
theorem zmD {b:Frame} {a:Act} {k:List Item} {cs:List Frame} {ops:Array Oper} {i:Nat} {rest:List Nat} {o:Oper} {d:Deferred} (hro:b.roundOf = none) (ho:ops[i]? = some o) (hw:Region.wanted o (yielded ops a.tmps) = true) (hr:(execOp a.eval o).run P w = .ok (.defer d) w) :
  step P (lone (b.atR a (.inRegion ops (i :: rest) :: k)) cs w) = .next (lone (b.atR { a.put o.dst undef with defers:=d :: a.defers } (.inRegion ops rest :: k)) cs w):=by
 have hg:=stepGR_op (P:=P) (b:=b) (k:=k) (cs:=cs) (w:=w) (rest:=rest) ho hw
 rw [hro,Oper.semAt_none] at hg
 refine step_lone_go ?_
 rw [hg]
 have e:({ b.atR a (.inRegion ops (i :: rest) :: k) with defers:=d :: (b.atR a (.inRegion ops (i :: rest) :: k)).defers }:Frame) = b.atR { a with defers:=d :: a.defers } (.inRegion ops (i :: rest) :: k):=rfl
 simp only [stepG.apply,if_true,Sem.runT_eq,hr]
 simp only [GStep.after,e,QH ho]
 cases o.dst <;> rfl
theorem ziE {b:Frame} {a:Act} {k:List Item} {cs:List Frame} {ops:Array Oper} {i:Nat} {rest:List Nat} {o:Oper} (hro:b.roundOf = none) (ho:ops[i]? = some o) (hw:Region.wanted o (yielded ops a.tmps) = true) (hr:(execOp a.eval o).run P w = .ok .recover w)
  (ht:tryRecover (b.atR a (.inRegion ops (i :: rest) :: k)) cs = none) :
  step P (lone (b.atR a (.inRegion ops (i :: rest) :: k)) cs w) = .next (lone (b.atR (a.put o.dst .nilIface) (.inRegion ops rest :: k)) cs w):=by
 have hg:=stepGR_op (P:=P) (b:=b) (k:=k) (cs:=cs) (w:=w) (rest:=rest) ho hw
 rw [hro,Oper.semAt_none] at hg
 refine step_lone_go ?_
 rw [hg]
 have e:(b.atR a (.inRegion ops (i :: rest) :: k)).roundOf = none:=hro
 simp only [stepG.apply,if_true,Sem.runT_eq,hr,e,ht]
 simp only [GStep.after,QH ho]
 rfl
theorem zvr {c:Cfg} {b:Frame} {a:Act} {k k':List Item} {ops:Array Oper} {i:Nat} {rest:List Nat} {o:Oper} {cfs:List Frame} (hH:zH w0 G L c.H w) (hB:FB L c.fr b a) (hret:c.fr.ret = false) (hd:c.fr.dr = none) (hT:TR L c.fr.tm a.tmps) (hk:IR L k k') (ho:ops[i]? = some o)
  (hC:CR G L c.fr.lo c.cs cfs) (hlo:c.fr.lo <= c.H.nx) (hG:G <= c.fr.lo) (hb:Qc c.fr c.cs = f0) {l:List Cfg} (hq:zkA G c o ops rest k = .go l) (hne:l ≠ []) :
  Met P w0 G cs0 f0 l (lone (b.atR a (.inRegion ops (i :: rest) :: k')) (cfs++cs0) w):=by
 unfold zkA at hq
 obtain ⟨c0,hq⟩:=zbs hq hne
 simp only [zyL] at c0
 obtain ⟨⟨c1,c2⟩,c3⟩:=c0
 have hwant:=zg8 (a:=a) hT (ops:=ops) (o:=o)
 rw [c3] at hwant
 have hop:=zjp hH hT c2
 split at hq
 ·simp only [Out.go.injEq] at hq; exact absurd hq.symm hne
 ·rename_i hrnd
  have hro:b.roundOf = none:=by
   have:=hB.rnd
   rw [hrnd] at this
   cases hbr:b.roundOf with
   | none=>rfl
   | some x=>rw [hbr] at this; cases this
  split at hq
  ·rename_i cl hop1
   split at hq
   ·rename_i f hcal
    split at hq
    ·rename_i g first captured hf
     simp only [Out.go.injEq] at hq
     subst hq
     have hfr:=hop f (by simp [hop1,Op.operands,Call.operands,hcal])
     rw [hf] at hfr
     generalize hf':a.eval f = f' at hfr
     cases hfr with
     | func hfr a1 a2 b1 b2 =>
      rename_i f2 first' captured'
      cases hfr
      have hargs:=zaY (ρ:=aev c.fr.tm) (ρ':=a.eval) (L:=L) cl.args.toList fun x hx=>hop x (by
       rw [hop1]; simp only [Op.operands,Call.operands,Array.mem_append]; exact .inr (by simpa using hx))
      have hrun:(execOp a.eval o).run P w = .ok (.defer { target:=.fn (.func g) captured',args:=first'++cl.args.map a.eval }) w:=by
       simp only [execOp,hop1,resolve,hcal,hf',Deferred.ofValue,Sem.run_bind,Sem.run_pure,Result.andThen_ok]
      have hstep:=zmD (P:=P) (k:=k') (cs:=cfs++cs0) (rest:=rest) hro ho hwant hrun
      have hput:=hB.put o.dst undef
      refine ⟨_,List.mem_singleton.2 rfl,_,.one hstep,L,_,cfs,w,rfl,hH,⟨b,{ a.put o.dst undef with defers:={ target:=.fn (.func g) captured',args:=first'++cl.args.map a.eval } :: a.defers },⟨hput.fn,hput.kind,hput.size,?_,hput.rnd⟩,.inl ⟨hret,_,rfl,?_⟩⟩,hC,hlo,hG,qm (fr:=c.fr) rfl hb⟩
      ·refine .clo ?_ (AR.toList ⟨a2,b2⟩) hB.defers
       have:=(AR.toList (L:=L) ⟨a1,b1⟩).append hargs
       simpa using this
      ·unfold QJ
       simp only [hd]
       exact ⟨.same rfl hk,hT.put hB.size c1 (VR.undef L)⟩
    ·simp only [Out.go.injEq] at hq; exact absurd hq.symm hne
   ·simp only [Out.go.injEq] at hq; exact absurd hq.symm hne
  ·rename_i args tys hop1
   obtain ⟨cr,hq⟩:=zbs hq hne
   simp only [Out.go.injEq] at hq
   subst hq
   have hrun:(execOp a.eval o).run P w = .ok .recover w:=by
    simp only [execOp,hop1,resolve,Sem.run_bind,Sem.run_pure,Result.andThen_ok,invoke]
    rfl
   have ht:tryRecover (b.atR a (.inRegion ops (i :: rest) :: k')) (cfs++cs0) = none:=by
    have hkd:(b.atR a (.inRegion ops (i :: rest) :: k')).kind = zvW c.fr.dfd:=hB.kind
    unfold zs3 at cr
    split at cr
    ·rename_i hf
     rw [hf] at hkd
     unfold tryRecover
     rw [hkd]
     rfl
    ·rename_i hf
     rw [hf] at hkd
     split at cr
     ·rename_i kf ks hcs
      rw [hcs] at hC
      cases hC with
      | cons hW r1 r2 hC' =>
       rcases hW with hW | hW
       ·rw [hW.1] at cr; cases cr
       ·obtain ⟨_,b2,a2,todo2,_,_,_,rfl⟩:=hW
        unfold tryRecover
        rw [hkd]
        rfl
     ·cases cr
   have hstep:=ziE (P:=P) (k:=k') (cs:=cfs++cs0) (rest:=rest) hro ho hwant hrun ht
   have hput:=hB.put o.dst .nilIface
   refine ⟨_,List.mem_singleton.2 rfl,_,.one hstep,L,_,cfs,w,rfl,hH,⟨b,_,⟨hput.fn,hput.kind,hput.size,hput.defers,hput.rnd⟩,.inl ⟨hret,_,rfl,?_⟩⟩,hC,hlo,hG,qm (fr:=c.fr) rfl hb⟩
   unfold QJ
   simp only [hd]
   exact ⟨.same rfl hk,hT.put hB.size c1 .nili⟩
  ·simp only [Out.go.injEq] at hq; exact absurd hq.symm hne
end
end Go.Run
noncomputable section
namespace Go.Run
open Go.RowKit
section
variable {P:Program} {F:T Func} {w0:World} {G:Nat} {L:Lam} {H:AH} {w:World} {cs0:List Frame} {f0:FuncId}
theorem QK {l:List Cfg} (h:Out.go [] = Out.go l) (hne:l ≠ []):False:=by
 simp only [Out.go.injEq] at h; exact hne h.symm
theorem IR.exit_none {id:Nat} {k k':List Item} (h:IR L k k'):exitTo id k = none->exitTo id k' = none:=by
 induction h with
 | nil=>exact fun h=>h
 | @same i k k' h hk ih =>
  intro hr
  cases i with
  | inBlock id' =>
   simp only [exitTo] at hr ⊢
   split at hr
   ·cases hr
   ·rename_i hc; rw [if_neg hc]; exact ih hr
  | _=>first | (simp [plainI] at h; done) | (simp only [exitTo] at hr ⊢; exact ih hr)
 | inR h hk ih=>intro hr; simp only [exitTo] at hr ⊢; exact ih hr
 | endR h hk ih=>intro hr; simp only [exitTo] at hr ⊢; exact ih hr
theorem zre (hF:Yn P F) (hm:P.follows .mixedOrders = true) {c:Cfg} {b:Frame} {a:Act} {todo:List Item} {cfs:List Frame} (hH:zH w0 G L c.H w) (hB:FB L c.fr b a) (hret:c.fr.ret = false) (hd:c.fr.dr = none) (hI:IR L c.fr.todo todo) (hT:TR L c.fr.tm a.tmps)
  (hC:CR G L c.fr.lo c.cs cfs) (hlo:c.fr.lo <= c.H.nx) (hG:G <= c.fr.lo) (hb:Qc c.fr c.cs = f0) {l:List Cfg} (ha:zaw P F G c = .go l) (hne:l ≠ []):Met P w0 G cs0 f0 l (lone (b.atR a todo) (cfs++cs0) w):=by
 obtain ⟨⟨fn,nt,tm,td,dr,df,rt,rnd,lo,dfd⟩,cs,H⟩:=c
 simp only at hret hd
 subst hret; subst hd
 simp only at hH hB hI hT hC hlo hG hb
 replace ha:=zqf rfl ha hne
 unfold zq9 at ha
 simp only at ha
 have hbf:∀ fr':AFr,fr'.fn = fn->Qc fr' cs = f0:=fun fr' h=>qm (fr:=⟨fn,nt,tm,td,none,df,false,rnd,lo,dfd⟩) h hb
 have tm1:∀ {todo1:List Item} {todo':List Item},step P (lone (b.atR a todo) (cfs++cs0) w) = .next (lone (b.atR a todo1) (cfs++cs0) w)->IR L todo' todo1->Met P w0 G cs0 f0 [⟨{ fn:=fn,nt:=nt,tm:=tm,todo:=todo',dr:=none,defers:=df,ret:=false,rnd:=rnd,lo:=lo,dfd:=dfd },cs,H⟩] (lone (b.atR a todo) (cfs++cs0) w) :=
  fun hs hI'=>zs8 (c:=⟨⟨fn,nt,tm,td,none,df,false,rnd,lo,dfd⟩,cs,H⟩) hH hB rfl rfl hT hC hlo hG hb hs hI'
 have retd:rnd = none->step P (lone (b.atR a todo) (cfs++cs0) w) = .next (lone { b.atR a todo with mode:=.returning } (cfs++cs0) w)->Met P w0 G cs0 f0 [⟨{ fn:=fn,nt:=nt,tm:=tm,todo:=td,dr:=none,defers:=df,ret:=true,rnd:=rnd,lo:=lo,dfd:=dfd },cs,H⟩] (lone (b.atR a todo) (cfs++cs0) w):=fun hr hs=>by
  refine ⟨_,List.mem_singleton.2 rfl,_,.one hs,L,_,cfs,w,rfl,hH,⟨b,a,⟨hB.fn,hB.kind,hB.size,hB.defers,hB.rnd⟩,.inr ⟨rfl,?_,hT,todo,rfl⟩⟩,hC,hlo,hG,hbf _ rfl⟩
  have:=hB.rnd
  simp only [hr] at this
  cases hbr:b.roundOf with
  | none=>rfl
  | some x=>rw [hbr] at this; cases this
 have rnone:rnd = none->b.roundOf = none:=fun hr=>by
  have:=hB.rnd
  simp only [hr] at this
  cases hbr:b.roundOf with
  | none=>rfl
  | some x=>rw [hbr] at this; cases this
 have ro:∀ lr,rnd = some lr->∃ p,L lr = some p/\b.roundOf = some p.b:=fun lr hr=>by
  have:=hB.rnd
  simp only [hr] at this
  generalize hbr:b.roundOf = br at this
  cases this with
  | some hp=>exact ⟨_,hp,rfl⟩
 have hp1:∀ {todo1 todo':List Item} {H':AH} {w':World},step P (lone (b.atR a todo) (cfs++cs0) w) = .next (lone (b.atR a todo1) (cfs++cs0) w')->zH w0 G L H' w'->lo <= H'.nx->IR L todo' todo1 ->
   Met P w0 G cs0 f0 [⟨{ fn:=fn,nt:=nt,tm:=tm,todo:=todo',dr:=none,defers:=df,ret:=false,rnd:=rnd,lo:=lo,dfd:=dfd },cs,H'⟩] (lone (b.atR a todo) (cfs++cs0) w) :=
  fun hs h' hn hI'=>⟨_,List.mem_singleton.2 rfl,_,.one hs,L,_,cfs,_,rfl,h',⟨b,a,⟨hB.fn,hB.kind,hB.size,hB.defers,hB.rnd⟩,.inl ⟨rfl,_,rfl,⟨hI',hT⟩⟩⟩,hC,hn,hG,hbf _ rfl⟩
 have ender:∀ {lr:Nat} {jump:Option Code},rnd = some lr->(b.kind = .normal->∀ {p:Pl} {c:Frame} {cs':List Frame} {v:Value} {w':World},b.roundOf = some p.b->(Instr.endRound p.b jump).run P w = .ok v w'->step P (lone (b.atR a todo) (c :: cs') w) = .next (lone (c.finish v) cs' w')) ->
   Zv P G ⟨⟨fn,nt,tm,td,none,df,false,rnd,lo,dfd⟩,cs,H⟩ lr jump = l->Met P w0 G cs0 f0 l (lone (b.atR a todo) (cfs++cs0) w):=by
  intro lr jump hr hst hq
  obtain ⟨p,hp,hbr⟩:=ro lr hr
  obtain ⟨cf,cfs',v,w',rfl,e1,c',m1,hs⟩:=zkE (P:=P) (cs0:=cs0) (f0:=f0) (c:=⟨⟨fn,nt,tm,td,none,df,false,rnd,lo,dfd⟩,cs,H⟩) hH hC hlo hG hb hp hq hne
  have hkn:b.kind = .normal:=by
   have h0:dfd = false:=zkF hq hne
   have:=hB.kind
   simp only [h0] at this
   exact this
  exact ⟨c',m1,_,.one (hst hkn hbr e1),hs⟩
 split at ha
 ·-- []
  cases hI
  split at ha
  ·simp only [Out.go.injEq] at ha; subst ha
   exact retd rfl (stepR_end (rnone rfl))
  ·simp only [Out.go.injEq] at ha
   exact ender rfl (fun hkn _ _ _ _ _ hbr e=>stepR_round_end hbr hkn e) ha
 ·-- ret
  cases hI with
  | same hp hk =>
   split at ha
   ·simp only [Out.go.injEq] at ha; subst ha
    exact retd rfl (stepR_ret (rnone rfl))
   ·simp only [Out.go.injEq] at ha
    exact ender rfl (fun hkn _ _ _ _ _ hbr e=>stepR_round_ret hbr hkn e) ha
 ·-- a range over a function
  cases hI with
  | same hp hk =>
   simp only [Out.go.injEq] at ha
   exact ziC (cs0:=cs0) (f0:=f0) hF (c:=⟨⟨fn,nt,tm,_,none,df,false,rnd,lo,dfd⟩,cs,H⟩) hH hB rfl rfl hk hT hC hlo hG hb ha hne
 ·-- its end
  rename_i lr k
  cases hI with
  | same hp hk=>cases hp
  | endR hp hk =>
   rename_i p k'
   split at ha
   ·rename_i st pend fn' nt' tm' params assign body d hl
    obtain ⟨tmps,d',h1,h2,h3,q,h4,h5⟩:=hH.obj _ _ p hl hp
    have go:∀ {st':LoopState},st = st'->st' ≠ .busy->(bif Nat.ble G lr && zq lr then Out.go [⟨{ fn:=fn,nt:=nt,tm:=tm,todo:=zs1 pend k,dr:=none,defers:=df,ret:=false,rnd:=rnd,lo:=lo,dfd:=dfd },cs,H.set lr (.loop .exhausted pend fn' nt' tm' params assign body d)⟩] else Out.go []) = Out.go l->Met P w0 G cs0 f0 l (lone (b.atR a (.endRangeFunc p.b :: k')) (cfs++cs0) w):=by
     intro st' hst hnb ha
     subst hst
     obtain ⟨c0,ha⟩:=zbs ha hne
     simp only [zyL] at c0
     simp only [Out.go.injEq] at ha; subst ha
     have hrun:=run_endLoop (P:=P) h1 hnb
     have hH':=hH.put hl rfl hp (ble c0.1) c0.2 (ob:=.loop { state:=.exhausted,pending:=pend,fn:=fn',tmps:=tmps,params:=params,assign:=assign,body:=body,defers:=d' })
      (o':=.loop .exhausted pend fn' nt' tm' params assign body d) ⟨tmps,d',by rw [World.putObj_heap_same (hH.lt _ p hp)],h2,h3,q,h4,h5⟩
     refine hp1 (stepR_endRangeFunc hrun) hH' hlo ?_
     cases pend with
     | none=>exact hk
     | some j=>exact .same rfl hk
    split at ha
    ·exact (QK ha hne).elim
    ·rename_i hnb
     exact go rfl (fun e=>hnb e) ha
   ·exact (QK ha hne).elim
 ·-- a round begins
  cases hI with
  | same hp hk =>
   split at ha
   ·rename_i lr
    obtain ⟨p,hpl,hbr⟩:=ro lr rfl
    split at ha
    ·rename_i pend fn' nt' tm' params assign body d hl
     obtain ⟨c0,ha⟩:=zbs ha hne
     simp only [zyL] at c0
     simp only [Out.go.injEq] at ha; subst ha
     obtain ⟨tmps,d',h1,h2,h3,q,h4,h5⟩:=hH.obj _ _ p hl hpl
     have hrun:=run_beginRound (P:=P) h1 rfl
     have hH':=hH.put hl rfl hpl (ble c0.1) c0.2 (ob:=.loop { state:=.busy,pending:=pend,fn:=fn',tmps:=tmps,params:=params,assign:=assign,body:=body,defers:=d' })
      (o':=.loop .busy pend fn' nt' tm' params assign body d) ⟨tmps,d',by rw [World.putObj_heap_same (hH.lt _ p hpl)],h2,h3,q,h4,h5⟩
     exact hp1 (stepR_beginRound hbr hrun) hH' hlo hk
    ·exact (QK ha hne).elim
   ·exact (QK ha hne).elim
 ·cases hI with
  | same hp hk=>simp only [Out.go.injEq] at ha; subst ha; exact tm1 stepR_skip hk
 ·cases hI with
  | same hp hk=>simp only [Out.go.injEq] at ha; subst ha; exact tm1 stepR_label hk
 ·cases hI with
  | same hp hk=>simp only [Out.go.injEq] at ha; subst ha; exact tm1 stepR_inBlock hk
 ·cases hI with
  | same hp hk=>simp only [Out.go.injEq] at ha; subst ha; exact tm1 (step_lone_go (by simp [stepG,stepG.exec,Frame.atR])) hk
 ·cases hI with
  | same hp hk=>simp only [Out.go.injEq] at ha; subst ha; exact tm1 stepR_seq (.same rfl (.same rfl hk))
 ·-- cond
  rename_i x y z k
  cases hI with
  | same hp hk =>
   rename_i k'
   split at ha
   ·rename_i t hx
    obtain ⟨hc,ha⟩:=zbs ha hne
    simp only [Out.go.injEq] at ha; subst ha
    have hval:a.eval x = .bool t:=by
     cases x with
     | tmp s =>
      have:=hT s
      change aev tm (.tmp s) = _ at hx
      simp only [aev] at hx
      rw [hx] at this
      generalize hq:a.tmps.getD s undef = q at this
      cases this
      exact hq
     | const v=>exact hx
     | global g=>cases hc
     | func f=>cases hc
    have hs:=stepR_cond (P:=P) (b:=b) (k:=k') (cs:=cfs++cs0) (w:=w) (x:=y) (y:=z) hval
    have e:(bif t then y else z) = if t = true then y else z:=by cases t <;> rfl
    rw [e]
    exact tm1 hs (.same rfl hk)
   ·exact (QK ha hne).elim
 ·cases hI with
  | same hp hk=>simp only [Out.go.injEq] at ha; subst ha; exact tm1 stepR_block (.same rfl (.same rfl hk))
 ·cases hI with
  | same hp hk=>simp only [Out.go.injEq] at ha; subst ha; exact tm1 stepR_loop (.same rfl (.same rfl hk))
 ·cases hI with
  | same hp hk=>simp only [Out.go.injEq] at ha; subst ha; exact tm1 stepR_inLoop (.same rfl (.same rfl hk))
 ·cases hI with
  | same hp hk=>simp only [Out.go.injEq] at ha; subst ha; exact tm1 (step_lone_go (by simp [stepG,stepG.exec,Frame.atR])) (.same rfl (.same rfl hk))
 ·cases hI with
  | same hp hk =>
   split at ha
   ·rename_i k' hx
    simp only [Out.go.injEq] at ha; subst ha
    obtain ⟨r',q1,q2⟩:=hk.exit hx
    exact tm1 (stepR_exit q1) q2
   ·rename_i hx
    split at ha
    ·simp only [Out.go.injEq] at ha
     exact ender rfl (fun hkn _ _ _ _ _ hbr e=>stepR_round_exit hbr hkn (IR.exit_none hk hx) e) ha
    ·exact (QK ha hne).elim
 ·cases hI with
  | same hp hk =>
   split at ha
   ·rename_i k' hx
    simp only [Out.go.injEq] at ha; subst ha
    obtain ⟨r',q1,q2⟩:=hk.goto hx
    exact tm1 (stepR_goto q1) q2
   ·exact (QK ha hne).elim
 ·cases hI with
  | same hp hk=>simp only [Out.go.injEq] at ha; subst ha; exact tm1 stepR_region (.same rfl hk)
 ·-- a region that draws
  rename_i id ops k
  cases hI with
  | same hp hk =>
   rename_i k'
   obtain ⟨hok,ha⟩:=zbs ha hne
   simp only [Out.go.injEq] at ha; subst ha
   have hs:=stepR_region_draw (P:=P) (b:=b) (a:=a) (k:=k') (cs:=cfs++cs0) (w:=w) (ops:=ops) (id:=id)
   have hsch:∀ t,Region.schedule (P.follows .mixedOrders) ops t = Region.linearise.go .any ops ops.size t (Array.replicate ops.size false) []:=fun t=>by
    simp only [Region.schedule,hm,Bool.true_or,if_true]; rfl
   rw [hsch] at hs
   have hord:=zqh (ops:=ops) ops.size (w.tape w.drawn (.order b.fn id)) (Array.replicate ops.size false) (by
    unfold unl
    have:=List.length_filter_le (fun i=>!(Array.replicate ops.size false).getD i true) (List.range ops.size)
    simpa using this)
   refine ⟨_,List.mem_singleton.2 rfl,_,.one hs,L,_,cfs,_,rfl,hH.same rfl rfl rfl rfl,⟨b,a,⟨hB.fn,hB.kind,hB.size,hB.defers,hB.rnd⟩,.inl ⟨rfl,_,rfl,?_⟩⟩,hC,hlo,hG,hbf _ rfl⟩
   have hall:∀ i,i < ops.size->i ∈ Region.linearise.go .any ops ops.size (w.tape w.drawn (.order b.fn id)) (Array.replicate ops.size false) []:=fun i hi =>
    hord.all (fun j o ho=>(yU hok ho).2.2.2.1) (by simp) i hi (by simp [hi])
   refine ⟨rfl,_,_,k',rfl,hk,⟨hord,by simp,?_,fun i hi=>hall i (by simpa using hi),List.nodup_range,fun p o hp hpl=>?_,hok,fun q hq hql o ho=>absurd (List.mem_range.2 (Array.getElem?_eq_some_iff.1 ho).1) hql,fun s _=>hT s⟩,fun p hp hpl=>?_,⟨fun p bb h=>by simp at h,fun p bb _ _ h=>by simp at h,fun p q bb _ _ _ _ h=>by simp at h⟩⟩
   ·intro j oj _ hj
    rcases Nat.lt_or_ge j ops.size with q | q
    ·simp [q] at hj
    ·simp [q] at hj
   ·exact absurd (List.mem_range.2 (Array.getElem?_eq_some_iff.1 hp).1) hpl
   ·intro o ho
    exact absurd (List.mem_range.2 (Array.getElem?_eq_some_iff.1 ho).1) hpl
 ·cases hI with
  | same hp hk=>simp only [Out.go.injEq] at ha; subst ha; exact tm1 stepR_region_end hk
 ·-- an operation
  rename_i ops i rest k
  cases hI with
  | same hp hk =>
   rename_i k'
   split at ha
   ·exact (QK ha hne).elim
   ·rename_i o ho
    cases hdf:zs2 o with
    | true =>
     rw [hdf] at ha
     simp only [cond_true] at ha
     exact zvr (c:=⟨⟨fn,nt,tm,_,none,df,false,rnd,lo,dfd⟩,cs,H⟩) hH hB rfl rfl hT hk ho hC hlo hG hb ha hne
    | false =>
    rw [hdf] at ha
    simp only [cond_false] at ha
    obtain ⟨hc,ha⟩:=zbs ha hne
    simp only [zyL] at hc
    obtain ⟨⟨c1,c2⟩,c3⟩:=hc
    have hnd:∀ q,o.op ≠ .defer q:=fun q hq=>by rw [hq] at c3; cases c3
    have hwant:=zg8 (a:=a) hT (ops:=ops) (o:=o)
    cases hw:Region.wanted o (qh ops tm) with
    | false =>
     rw [hw] at ha
     simp only [cond_false,Out.go.injEq] at ha
     subst ha
     have hs:=stepR_op_skip (P:=P) (b:=b) (a:=a) (k:=k') (cs:=cfs++cs0) (w:=w) (ops:=ops) (i:=i) (rest:=rest) (by rw [ho]; simpa [hw] using hwant)
     rw [ho] at hs
     refine ⟨_,List.mem_singleton.2 rfl,_,.one hs,L,_,cfs,w,rfl,hH,⟨b,a.put o.dst undef,?_,.inl ⟨rfl,_,rfl,?_⟩⟩,hC,hlo,hG,hbf _ rfl⟩
     ·have:=hB.put o.dst undef
      exact ⟨this.fn,this.kind,this.size,this.defers,this.rnd⟩
     ·exact ⟨.same rfl hk,hT.put hB.size c1 (VR.undef L)⟩
    | true =>
     rw [hw] at ha
     simp only [cond_true] at ha
     have hspec:=zfl (G:=G) hF hH (ρ:=aev tm) (ρ':=a.eval) (zjp hH hT c2)
     cases hX:zbK P F G H (aev tm) o with
     | vals lv =>
      rw [hX] at ha hspec
      simp only [Out.go.injEq] at ha
      subst ha
      have hlv:lv ≠ []:=by rintro rfl; exact hne rfl
      obtain ⟨v,H',m1,m2,y,w2,L2,e2,h2,v2,x2⟩:=hspec hlv
      have hstep:=zdC (P:=P) (b:=b) (k:=k') (cs:=cfs++cs0) (rest:=rest) ho (by rw [hwant]; exact hw) hnd x2
      refine ⟨_,List.mem_map.2 ⟨(v,H'),m1,rfl⟩,_,.one hstep,L2,_,cfs,w2,rfl,h2,⟨b,a.put o.dst y,?_,.inl ⟨rfl,_,rfl,?_⟩⟩,hC.ext (Lam.ext_mono e2 hlo),Nat.le_trans hlo m2,hG,hbf _ rfl⟩
      ·have:=(hB.mono e2.1).put o.dst y
       exact ⟨this.fn,this.kind,this.size,this.defers,this.rnd⟩
      ·exact ⟨.same rfl (hk.mono e2.1),(hT.mono e2.1).put hB.size c1 v2⟩
     | call f args =>
      rw [hX] at ha hspec
      simp only [Out.go.injEq] at ha
      subst ha
      obtain ⟨args',fn',r1,r2,r3,r4,r5⟩:=hspec
      have hstep:=zfn (P:=P) (b:=b) (k:=k') (cs:=cfs++cs0) (rest:=rest) ho (by rw [hwant]; exact hw) hnd r1
      have hW:zbr G L H.nx ⟨fn,nt,tm,.inRegion ops (i :: rest) :: k,none,df,false,rnd,lo,dfd⟩ (b.atR a (.inRegion ops (i :: rest) :: k')) :=
       ⟨rfl,b,a,_,⟨hB.fn,hB.kind,hB.size,hB.defers,hB.rnd⟩,rfl,.same rfl hk,hT⟩
      obtain ⟨c',m1,hs⟩:=zeC (cs0:=cs0) (f0:=f0) hF hH hW hlo hG hC r2 r3 r4 r5 (hbf _ rfl) hne
      exact ⟨c',m1,_,.one hstep,hs⟩
     | round lp args =>
      rw [hX] at ha hspec
      simp only [Out.go.injEq] at ha
      obtain ⟨args',p,r1,r2,r3⟩:=hspec
      have hW:zbr G L H.nx ⟨fn,nt,tm,.inRegion ops (i :: rest) :: k,none,df,false,rnd,lo,dfd⟩ (b.atR a (.inRegion ops (i :: rest) :: k')) :=
       ⟨rfl,b,a,_,⟨hB.fn,hB.kind,hB.size,hB.defers,hB.rnd⟩,rfl,.same rfl hk,hT⟩
      obtain ⟨f,tmps,asg,bdy,y1,c',m1,hs⟩:=zjq (P:=P) (cs0:=cs0) (f0:=f0) hH hW hlo hG hC r3 r2 (hbf _ rfl) ha hne
      rw [y1] at r1
      exact ⟨c',m1,_,.one (zcA (P:=P) (b:=b) (k:=k') (cs:=cfs++cs0) (rest:=rest) ho (by rw [hwant]; exact hw) hnd r1),hs⟩
 ·exact (QK ha hne).elim
end
end Go.Run
noncomputable section
namespace Go.Run
open Go.RowKit
section
variable {P:Program} {F:T Func} {w0:World} {G:Nat} {L:Lam} {H:AH} {w:World} {cs0:List Frame} {f0:FuncId}
theorem DF.cons_inv {b:Nat} {bs:List DfA} {ds:List Deferred} (h:DF L (.coll b :: bs) ds):∃ p ds',L b = some p/\ds = { target:=.collected p.b,args:=#[] } :: ds'/\DF L bs ds':=by
 cases h with
 | cons h k=>exact ⟨_,_,h,rfl,k⟩
theorem DF.nil_inv {ds:List Deferred} (h:DF L [] ds):ds = []:=by
 cases h; rfl
theorem DF.clo_inv {f:FuncId} {args cap:List Value} {bs:List DfA} {ds:List Deferred} (h:DF L (.clo f args cap :: bs) ds):∃ args' cap' ds',ds = { target:=.fn (.func f) cap',args:=args' } :: ds'/\LR L args args'.toList/\LR L cap cap'.toList/\DF L bs ds':=by
 cases h with
 | clo h1 h2 k=>exact ⟨_,_,_,rfl,h1,h2,k⟩
theorem ziF {b:Frame} {a:Act} {todo:List Item} {cs:List Frame} {f:FuncId} {args cap:Array Value} {ds:List Deferred} (hd:a.defers = { target:=.fn (.func f) cap,args:=args } :: ds) (hc:(callFunc f (args++cap)).run P w = .ok (.enter f (args++cap)) w) :
  step P (lone { b.atR a todo with mode:=.returning } cs w) = .next (lone (Frame.enter P f (args++cap) .deferred) ({ b.atR { a with defers:=ds } todo with mode:=.returning } :: cs) w):=by
 refine step_lone_go ?_
 simp [stepG,unwind,Frame.atR,hd,callDeferred,invoke,Sem.runT_eq,hc,GStep.after,GStep.bare]
theorem zrf {fr cf:Frame} {cs:List Frame} {x:Value} {fnn:Func} (h1:fr.mode = .returning) (h2:fr.defers = []) (h3:fr.kind = .deferred) (h4:P.funcs[fr.fn]? = some fnn) (h5:(results fnn fr.tmps).run P w = .ok x w) (hm:cf.mode = .returning) :
  step P (lone fr (cf :: cs) w) = .next (lone cf cs w):=by
 refine step_lone_go ?_
 simp [stepG,unwind,h1,h2,h3,h4,doReturn,Sem.runT_eq,h5,GStep.after,GStep.bare,hm]
theorem zoH (hF:Yn P F) {f:FuncId} {fn:Func} {body:Code} (hf:F.get f = some fn) (hb:fn.body = some body) {args args':List Value} (hr:LR L args args') (hlen:args.length <= fn.ntmps) (hsm:zq fn.ntmps = true) :
  zwE P G L H { fn:=f,nt:=fn.ntmps,tm:=T.setRow .nil 0 args,todo:=[.code body],dr:=none,defers:=[],ret:=false,rnd:=none,lo:=H.nx,dfd:=true } (Frame.enter P f args'.toArray .deferred):=by
 obtain ⟨b,a,hB,ht⟩:=zeB (P:=P) (G:=G) (L:=L) (H:=H) hF hf hb hr hlen hsm
 rcases ht with ⟨h1,todo,e,hbody⟩ | ⟨h1,_⟩
 ·refine ⟨{ b with kind:=.deferred },a,⟨hB.fn,rfl,hB.size,hB.defers,hB.rnd⟩,.inl ⟨rfl,todo,?_,hbody⟩⟩
  have e2:Frame.enter P f args'.toArray .deferred = { Frame.enter P f args'.toArray .normal with kind:=.deferred }:=rfl
  rw [e2,e]; rfl
 ·cases h1
theorem step_collected {b:Frame} {a:Act} {todo:List Item} {cs:List Frame} {c:Nat} {ds:List Deferred} (hd:a.defers = { target:=.collected c,args:=#[] } :: ds) (hc:w.heap[c]? = some (.deferred (some []))) :
  step P (lone { b.atR a todo with mode:=.returning } cs w) = .next (lone { b.atR { a with defers:=ds } todo with mode:=.returning } cs { w with heap:=w.heap.setIfInBounds c (.deferred none) }):=by
 have hrun:(Instr.takeDeferred c).run P w = .ok [] { w with heap:=w.heap.setIfInBounds c (.deferred none) }:=by
  simp [Instr.takeDeferred,yz hc rfl,qF hc rfl]
 refine step_lone_go ?_
 simp [stepG,unwind,Frame.atR,hd,Sem.runT_eq,hrun]
theorem zmE (hF:Yn P F) (hm:P.follows .mixedOrders = true) {c:Cfg} {m:Machine} (hs:Sim P w0 G cs0 f0 c m) {l:List Cfg} (ha:zaw P F G c = .go l) (hne:l ≠ []):Met P w0 G cs0 f0 l m:=by
 obtain ⟨L,cf,cfs,w,rfl,hH,⟨b,a,hB,ht⟩,hC,hlo,hG,hb⟩:=hs
 rcases ht with ⟨hret,todo,rfl,hbody⟩ | ⟨hret,hro,hT,todo,rfl⟩
 ·cases hd:c.fr.dr with
  | some d=>exact zs9 hF hH hB hret hd hbody hC hlo hG hb ha hne
  | none =>
   unfold QJ at hbody
   rw [hd] at hbody
   exact zre hF hm hH hB hret hd hbody.1 hbody.2 hC hlo hG hb ha hne
 ·obtain ⟨⟨fn,nt,tm,td,dr,df,rt,rnd,lo,dfd⟩,cs,H⟩:=c
  simp only at hret
  subst hret
  simp only at hH hB hT hC hlo hG hb
  unfold zaw at ha
  simp only at ha
  cases df with
  | cons dd ds =>
   cases dd with
   | clo f args cap =>
    simp only [Out.go.injEq] at ha
    obtain ⟨args',cap',ds',hdef,q1,q2,hk⟩:=DF.clo_inv hB.defers
    unfold zoy at ha
    split at ha
    ·rename_i fn' hfn
     obtain ⟨c0,ha⟩:=zfq ha hne
     simp only [zyL] at c0
     split at ha
     ·rename_i body hbody
      subst ha
      have hcall:=run_callFunc (P:=P) hF hfn (args'++cap') w
      have hstep:=ziF (P:=P) (b:=b) (a:=a) (todo:=todo) (cs:=cfs++cs0) hdef hcall
      have hl:=q1.append q2
      have e:(args'.toList++cap'.toList).toArray = args'++cap':=by apply Array.ext'; simp
      have htop:=zoH (P:=P) (G:=G) (H:=H) hF hfn hbody hl (ble c0.1) c0.2
      rw [e] at htop
      refine ⟨_,List.mem_singleton.2 rfl,_,.one hstep,L,_,_ :: cfs,w,rfl,hH,htop,.cons (.inr ⟨rfl,b,{ a with defers:=ds' },todo,⟨hB.fn,hB.kind,hB.size,hk,hB.rnd⟩,hro,hT,rfl⟩) hlo hG hC,Nat.le_refl _,Nat.le_trans hG hlo,?_⟩
      exact qm (fr:=⟨fn,nt,tm,td,dr,.clo f args cap :: ds,true,rnd,lo,dfd⟩) (fr':=⟨fn,nt,tm,td,dr,ds,true,rnd,lo,dfd⟩) rfl hb
     ·exact absurd ha.symm hne
    ·exact absurd ha.symm hne
   | coll bb =>
   simp only at ha
   split at ha
   ·rename_i hg
    obtain ⟨hc,ha⟩:=zbs ha hne
    simp only [Out.go.injEq] at ha
    subst ha
    simp only [zyL] at hc
    ·obtain ⟨p,ds',hp,hdef,hk⟩:=DF.cons_inv hB.defers
     have ho:=hH.obj bb _ p hg hp
     have hw:=Q3.setObj w p.b (.deferred none)
     have hstep:=step_collected (P:=P) (w:=w) (b:=b) (a:=a) (todo:=todo) (cs:=cfs++cs0) hdef (by simpa [Y7] using ho)
     refine ⟨_,List.mem_singleton.2 rfl,_,.one hstep,L,_,cfs,_,rfl,hH.upd (o':=.dfr false) hg rfl hp (ble hc.1) hc.2 hw.block hw.size hw.os hw.tape hw.output (zaz (by simpa [Y7] using ho)),⟨b,{ a with defers:=ds' },⟨hB.fn,hB.kind,hB.size,hk,hB.rnd⟩,.inr ⟨rfl,hro,hT,todo,rfl⟩⟩,hC,hlo,hG,?_⟩
     exact qm (fr:=⟨fn,nt,tm,td,dr,.coll bb :: ds,true,rnd,lo,dfd⟩) rfl hb
   ·exact (QK ha hne).elim
  | nil =>
   simp only at ha
   split at ha
   ·rename_i fnn hfn
    split at ha
    ·rename_i v hv
     cases cs with
     | nil =>
      cases dfd with
      | true=>exact (QK ha hne).elim
      | false=>simp at ha
     | cons k cs =>
      obtain ⟨h1,_,_⟩:=hF fn fnn hfn
      obtain ⟨x,r1,r2⟩:=zmC hH hT hv
      cases dfd with
      | true =>
       simp only [cond_true] at ha
       cases hkr:k.ret with
       | false=>rw [hkr] at ha; exact (QK ha hne).elim
       | true =>
       rw [hkr] at ha
       simp only [cond_true,Out.go.injEq] at ha
       subst ha
       cases hC with
       | cons hW h2 h3 hC' =>
        rename_i cf' cfs'
        replace hW:=hW.resolve_left fun q=>by rw [q.1] at hkr; cases hkr
        obtain ⟨_,b2,a2,todo2,hB2,hro2,hT2,rfl⟩:=hW
        have hstep:=zrf (P:=P) (w:=w) (fr:={ b.atR a todo with mode:=.returning }) (cf:={ b2.atR a2 todo2 with mode:=.returning }) (cs:=cfs'++cs0) rfl (by have:=DF.nil_inv hB.defers; simpa [Frame.atR] using this) hB.kind (by show P.funcs[b.fn]? = _; rw [hB.fn]; exact h1) r1 rfl
        exact ⟨_,List.mem_singleton.2 rfl,_,.one hstep,L,_,cfs',w,rfl,hH,⟨b2,a2,hB2,.inr ⟨hkr,hro2,hT2,todo2,rfl⟩⟩,hC',Nat.le_trans h2 hlo,h3,hb⟩
      | false =>
      simp only [cond_false] at ha
      cases hkr:k.ret with
      | true=>rw [hkr] at ha; exact (QK ha hne).elim
      | false =>
      rw [hkr] at ha
      simp only [cond_false,Out.go.injEq] at ha
      subst ha
      have hleave:({ b.atR a todo with mode:=.returning }:Frame).leaving P w (.returned x):=by
       refine ⟨rfl,?_,hB.kind,fnn,?_,r1⟩
       ·have:=DF.nil_inv hB.defers; simpa [Frame.atR] using this
       ·show P.funcs[b.fn]? = _
        rw [hB.fn]; exact h1
      cases hC with
      | cons hW h2 h3 hC' =>
       replace hW:=hW.resolve_right fun q=>by rw [q.1] at hkr; cases hkr
       obtain ⟨c',m1,hs⟩:=zg9 (P:=P) (cs0:=cs0) (f0:=f0) hH hW h2 hlo h3 hC' r2 hb hne
       exact ⟨c',m1,_,.one (step_leave_returned hleave),hs⟩
    ·exact (QK ha hne).elim
   ·exact (QK ha hne).elim
theorem zta (hF:Yn P F) {c:Cfg} {m:Machine} (hs:Sim P w0 G cs0 f0 c m) {v:Value} {H':AH} (ha:zaw P F G c = .done v H') :
  ∃ L x fr w',m = lone fr cs0 w'/\fr.fn = f0/\fr.leaving P w' (.returned x)/\zH w0 G L H' w'/\VR L v x:=by
 obtain ⟨L,cf,cfs,w,rfl,hH,⟨b,a,hB,ht⟩,hC,hlo,hG,hb⟩:=hs
 rcases ht with ⟨hret,todo,rfl,hbody⟩ | ⟨hret,hro,hT,todo,rfl⟩
 ·exfalso
  unfold zaw at ha
  simp only [hret] at ha
  cases ha
 ·obtain ⟨⟨fn,nt,tm,td,dr,df,rt,rnd,lo,dfd⟩,cs,H⟩:=c
  simp only at hret
  subst hret
  simp only at hH hB hT hC hlo hG hb
  unfold zaw at ha
  simp only at ha
  cases df with
  | cons dd ds =>
   cases dd with
   | clo f args cap=>simp at ha
   | coll bb =>
   simp only at ha
   split at ha
   ·cases hq:(Nat.ble G bb && zq bb) <;> rw [hq] at ha <;> cases ha
   ·cases ha
  | nil =>
   simp only at ha
   split at ha
   ·rename_i fnn hfn
    split at ha
    ·rename_i u hv
     cases cs with
     | cons k cs=>cases dfd <;> cases hkr:k.ret <;> simp [hkr] at ha
     | nil =>
      cases dfd with
      | true=>simp at ha
      | false =>
      cases ha
      cases hC
      obtain ⟨h1,_,_⟩:=hF fn fnn hfn
      obtain ⟨x,r1,r2⟩:=zmC hH hT hv
      refine ⟨L,x,_,w,rfl,?_,⟨rfl,?_,hB.kind,fnn,?_,r1⟩,hH,r2⟩
      ·show b.fn = f0
       rw [hB.fn]; exact hb
      ·have:=DF.nil_inv hB.defers; simpa [Frame.atR] using this
      ·show P.funcs[b.fn]? = _
       rw [hB.fn]; exact h1
    ·cases ha
   ·cases ha
theorem zmF (hF:Yn P F) (hm:P.follows .mixedOrders = true) {test:Value->AH->Bool}:∀ (n:Nat) (c:Cfg) (m:Machine),Sim P w0 G cs0 f0 c m->zoz P F G test n c = true ->
  ∃ L v H' x fr w',test v H' = true/\Steps P m (lone fr cs0 w')/\fr.fn = f0/\fr.leaving P w' (.returned x)/\zH w0 G L H' w'/\VR L v x
 | 0,_,_,_,h=>by simp [zoz] at h
 | n + 1,c,m,hs,h=>by
  simp only [zoz] at h
  cases ha:zaw P F G c with
  | done v H' =>
   rw [ha] at h
   obtain ⟨L,x,fr,w',rfl,q1,q2,q3,q4⟩:=zta hF hs ha
   exact ⟨L,v,H',x,fr,w',h,Steps.refl _ _,q1,q2,q3,q4⟩
  | go l =>
   rw [ha] at h
   simp only [zyL,Bool.not_eq_true',List.isEmpty_eq_false_iff,List.all_eq_true] at h
   obtain ⟨c',m1,m',s1,hs'⟩:=zmE hF hm hs ha h.1
   obtain ⟨L,v,H',x,fr,w',q0,q1,q2⟩:=zmF hF hm n c' m' hs' (h.2 c' m1)
   exact ⟨L,v,H',x,fr,w',q0,s1.trans q1,q2⟩
def start (fn:Func) (f:FuncId) (G:Nat) (args:List Value) (m:T AObj):Cfg :=
 ⟨{ fn:=f,nt:=fn.ntmps,tm:=T.setRow .nil 0 args,todo:=[.code (fn.body.getD .skip)],dr:=none,defers:=[],ret:=false,rnd:=none,lo:=G },[],⟨G,m⟩⟩
end
end Go.Run
noncomputable section
namespace Go.Run
open Go.RowKit
def ztb (P:Program):Nat->Nat->T Func->Prop
 | _,_,.nil=>True
 | b,s,.node l v r=>(match v with | some f=>P.funcs[b]? = some f | none=>True)/\ztb P (b + s) (2 * s) l/\ztb P (b + 2 * s) (2 * s) r
def chkF:T Func->Bool
 | .nil=>true
 | .node l v r => (match v with | some f => f.body.isSome && !(f.name == "runtime.NumGoroutine") | none => true) && chkF l && chkF r
theorem zha {P : Program} : ∀ (t : T Func) (b s : Nat), ztb P b s t -> chkF t = true -> ∀ (n : Nat) (fn : Func), t.get n = some fn -> P.funcs[b + s * n]? = some fn /\ fn.body.isSome = true /\ fn.name ≠ "runtime.NumGoroutine"
 | .nil,_,_,_,_,n,fn,h=>by simp [T.get_nil] at h
 | .node l v r,b,s,ha,hc,n,fn,h=>by
  obtain ⟨h1,h2,h3⟩:=ha
  simp only [chkF,zyL] at hc
  obtain ⟨⟨c1,c2⟩,c3⟩:=hc
  rw [T.get_node] at h
  by_cases hn:n = 0
  ·rw [if_pos hn] at h
   subst hn
   subst h
   simp only [zyL,Bool.not_eq_true',beq_eq_false_iff_ne] at c1
   exact ⟨by simpa using h1,c1.1,c1.2⟩
  ·rw [if_neg hn] at h
   by_cases ho:n % 2 = 1
   ·rw [if_pos ho] at h
    have:=zha l _ _ h2 c2 _ _ h
    have e:b + s + 2 * s * (n / 2) = b + s * n:=by
     have e1:n = 2 * (n / 2) + 1:=by omega
     generalize n / 2 = k at e1 ⊢
     subst e1
     rw [Nat.mul_add,Nat.mul_one,<- Nat.mul_assoc,Nat.mul_comm s 2]; omega
    rw [e] at this
    exact this
   ·rw [if_neg ho] at h
    have:=zha r _ _ h3 c3 _ _ h
    have e:b + 2 * s + 2 * s * (n / 2 - 1) = b + s * n:=by
     have e1:n = 2 * (n / 2 - 1) + 2:=by omega
     generalize n / 2 - 1 = k at e1 ⊢
     subst e1
     rw [Nat.mul_add,<- Nat.mul_assoc,Nat.mul_comm s 2]; omega
    rw [e] at this
    exact this
theorem ztc {P:Program} {F:T Func} (h:ztb P 0 1 F) (hc:chkF F = true):Yn P F:=fun f fn hf=>by
 have:=zha F 0 1 h hc f fn hf
 simpa using this
end Go.Run
