import Derived.Test.YtjcbpfhlgebgdaaDoorRX
noncomputable section
namespace Go.Run
open Go.RowKit
section
variable {P:Program} {F:T Func} {w0:World} {G:Nat} {L:Lam} {H:AH} {w:World} {cs0:List Frame} {f0:FuncId}
theorem goNil {l:List Cfg} (h:Out.go [] = Out.go l) (hne:l ≠ []):False:=by
 simp only [Out.go.injEq] at h; exact hne h.symm
theorem IR.exit_none {id:Nat} {k k':List Item} (h:IR L k k'):exitTo id k = none→exitTo id k' = none:=by
 induction h with
 | nil=>exact fun h=>h
 | @same i k k' h hk ih =>
  intro hr
  cases i with
  | inBlock id' =>
   simp only [exitTo] at hr ⊢
   split at hr
   ·cases hr
   ·rename_i hc; rw [if_neg hc]; exact ih hr
  | _=>first | (simp [plainI] at h; done) | (simp only [exitTo] at hr ⊢; exact ih hr)
 | inR h hk ih=>intro hr; simp only [exitTo] at hr ⊢; exact ih hr
 | endR h hk ih=>intro hr; simp only [exitTo] at hr ⊢; exact ih hr
theorem todo_step (hF:FunOK P F) (hm:P.follows .mixedOrders = true) {c:Cfg} {b:Frame} {a:Act} {todo:List Item} {cfs:List Frame} (hH:HRel w0 G L c.H w) (hB:FB L c.fr b a) (hret:c.fr.ret = false) (hd:c.fr.dr = none) (hI:IR L c.fr.todo todo) (hT:TR L c.fr.tm a.tmps)
  (hC:CR G L c.fr.lo c.cs cfs) (hlo:c.fr.lo ≤ c.H.nx) (hG:G ≤ c.fr.lo) (hb:botFn c.fr c.cs = f0) {l:List Cfg} (ha:astep P F G c = .go l) (hne:l ≠ []):Met P w0 G cs0 f0 l (lone (b.atR a todo) (cfs++cs0) w):=by
 obtain ⟨⟨fn,nt,tm,td,dr,df,rt,rnd,lo,dfd⟩,cs,H⟩:=c
 simp only at hret hd
 subst hret; subst hd
 simp only at hH hB hI hT hC hlo hG hb
 replace ha:=arun_of rfl ha hne
 unfold arun at ha
 simp only at ha
 have hbf:∀ fr':AFr,fr'.fn = fn→botFn fr' cs = f0:=fun fr' h=>botFn_same (fr:=⟨fn,nt,tm,td,none,df,false,rnd,lo,dfd⟩) h hb
 have tm1:∀ {todo1:List Item} {todo':List Item},step P (lone (b.atR a todo) (cfs++cs0) w) = .next (lone (b.atR a todo1) (cfs++cs0) w)→IR L todo' todo1→Met P w0 G cs0 f0 [⟨{ fn:=fn,nt:=nt,tm:=tm,todo:=todo',dr:=none,defers:=df,ret:=false,rnd:=rnd,lo:=lo,dfd:=dfd },cs,H⟩] (lone (b.atR a todo) (cfs++cs0) w) :=
  fun hs hI'=>todo_met (c:=⟨⟨fn,nt,tm,td,none,df,false,rnd,lo,dfd⟩,cs,H⟩) hH hB rfl rfl hT hC hlo hG hb hs hI'
 have retd:rnd = none→step P (lone (b.atR a todo) (cfs++cs0) w) = .next (lone { b.atR a todo with mode:=.returning } (cfs++cs0) w)→Met P w0 G cs0 f0 [⟨{ fn:=fn,nt:=nt,tm:=tm,todo:=td,dr:=none,defers:=df,ret:=true,rnd:=rnd,lo:=lo,dfd:=dfd },cs,H⟩] (lone (b.atR a todo) (cfs++cs0) w):=fun hr hs=>by
  refine ⟨_,List.mem_singleton.2 rfl,_,.one hs,L,_,cfs,w,rfl,hH,⟨b,a,⟨hB.fn,hB.kind,hB.size,hB.defers,hB.rnd⟩,.inr ⟨rfl,?_,hT,todo,rfl⟩⟩,hC,hlo,hG,hbf _ rfl⟩
  have:=hB.rnd
  simp only [hr] at this
  cases hbr:b.roundOf with
  | none=>rfl
  | some x=>rw [hbr] at this; cases this
 have rnone:rnd = none→b.roundOf = none:=fun hr=>by
  have:=hB.rnd
  simp only [hr] at this
  cases hbr:b.roundOf with
  | none=>rfl
  | some x=>rw [hbr] at this; cases this
 have ro:∀ lr,rnd = some lr→∃ p,L lr = some p∧b.roundOf = some p.b:=fun lr hr=>by
  have:=hB.rnd
  simp only [hr] at this
  generalize hbr:b.roundOf = br at this
  cases this with
  | some hp=>exact ⟨_,hp,rfl⟩
 have hp1:∀ {todo1 todo':List Item} {H':AH} {w':World},step P (lone (b.atR a todo) (cfs++cs0) w) = .next (lone (b.atR a todo1) (cfs++cs0) w')→HRel w0 G L H' w'→lo ≤ H'.nx→IR L todo' todo1 →
   Met P w0 G cs0 f0 [⟨{ fn:=fn,nt:=nt,tm:=tm,todo:=todo',dr:=none,defers:=df,ret:=false,rnd:=rnd,lo:=lo,dfd:=dfd },cs,H'⟩] (lone (b.atR a todo) (cfs++cs0) w) :=
  fun hs h' hn hI'=>⟨_,List.mem_singleton.2 rfl,_,.one hs,L,_,cfs,_,rfl,h',⟨b,a,⟨hB.fn,hB.kind,hB.size,hB.defers,hB.rnd⟩,.inl ⟨rfl,_,rfl,⟨hI',hT⟩⟩⟩,hC,hn,hG,hbf _ rfl⟩
 have ender:∀ {lr:Nat} {jump:Option Code},rnd = some lr→(b.kind = .normal→∀ {p:Pl} {c:Frame} {cs':List Frame} {v:Value} {w':World},b.roundOf = some p.b→(Instr.endRound p.b jump).run P w = .ok v w'→step P (lone (b.atR a todo) (c :: cs') w) = .next (lone (c.finish v) cs' w')) →
   endRoundA P G ⟨⟨fn,nt,tm,td,none,df,false,rnd,lo,dfd⟩,cs,H⟩ lr jump = l→Met P w0 G cs0 f0 l (lone (b.atR a todo) (cfs++cs0) w):=by
  intro lr jump hr hst hq
  obtain ⟨p,hp,hbr⟩:=ro lr hr
  obtain ⟨cf,cfs',v,w',rfl,e1,c',m1,hs⟩:=endRound_met (P:=P) (cs0:=cs0) (f0:=f0) (c:=⟨⟨fn,nt,tm,td,none,df,false,rnd,lo,dfd⟩,cs,H⟩) hH hC hlo hG hb hp hq hne
  have hkn:b.kind = .normal:=by
   have h0:dfd = false:=endRound_dfd hq hne
   have:=hB.kind
   simp only [h0] at this
   exact this
  exact ⟨c',m1,_,.one (hst hkn hbr e1),hs⟩
 split at ha
 ·-- []
  cases hI
  split at ha
  ·simp only [Out.go.injEq] at ha; subst ha
   exact retd rfl (stepR_end (rnone rfl))
  ·simp only [Out.go.injEq] at ha
   exact ender rfl (fun hkn _ _ _ _ _ hbr e=>stepR_round_end hbr hkn e) ha
 ·-- ret
  cases hI with
  | same hp hk =>
   split at ha
   ·simp only [Out.go.injEq] at ha; subst ha
    exact retd rfl (stepR_ret (rnone rfl))
   ·simp only [Out.go.injEq] at ha
    exact ender rfl (fun hkn _ _ _ _ _ hbr e=>stepR_round_ret hbr hkn e) ha
 ·-- a range over a function
  cases hI with
  | same hp hk =>
   simp only [Out.go.injEq] at ha
   exact enterLoop_met (cs0:=cs0) (f0:=f0) hF (c:=⟨⟨fn,nt,tm,_,none,df,false,rnd,lo,dfd⟩,cs,H⟩) hH hB rfl rfl hk hT hC hlo hG hb ha hne
 ·-- its end
  rename_i lr k
  cases hI with
  | same hp hk=>cases hp
  | endR hp hk =>
   rename_i p k'
   split at ha
   ·rename_i st pend fn' nt' tm' params assign body d hl
    obtain ⟨tmps,d',h1,h2,h3,q,h4,h5⟩:=hH.obj _ _ p hl hp
    have go:∀ {st':LoopState},st = st'→st' ≠ .busy→(bif Nat.ble G lr && small lr then Out.go [⟨{ fn:=fn,nt:=nt,tm:=tm,todo:=pendK pend k,dr:=none,defers:=df,ret:=false,rnd:=rnd,lo:=lo,dfd:=dfd },cs,H.set lr (.loop .exhausted pend fn' nt' tm' params assign body d)⟩] else Out.go []) = Out.go l→Met P w0 G cs0 f0 l (lone (b.atR a (.endRangeFunc p.b :: k')) (cfs++cs0) w):=by
     intro st' hst hnb ha
     subst hst
     obtain ⟨c0,ha⟩:=condO ha hne
     simp only [Bool.and_eq_true] at c0
     simp only [Out.go.injEq] at ha; subst ha
     have hrun:=run_endLoop (P:=P) h1 hnb
     have hH':=hH.put hl rfl hp (ble c0.1) c0.2 (ob:=.loop { state:=.exhausted,pending:=pend,fn:=fn',tmps:=tmps,params:=params,assign:=assign,body:=body,defers:=d' })
      (o':=.loop .exhausted pend fn' nt' tm' params assign body d) ⟨tmps,d',by rw [World.putObj_heap_same (hH.lt _ p hp)],h2,h3,q,h4,h5⟩
     refine hp1 (stepR_endRangeFunc hrun) hH' hlo ?_
     cases pend with
     | none=>exact hk
     | some j=>exact .same rfl hk
    split at ha
    ·exact (goNil ha hne).elim
    ·rename_i hnb
     exact go rfl (fun e=>hnb e) ha
   ·exact (goNil ha hne).elim
 ·-- a round begins
  cases hI with
  | same hp hk =>
   split at ha
   ·rename_i lr
    obtain ⟨p,hpl,hbr⟩:=ro lr rfl
    split at ha
    ·rename_i pend fn' nt' tm' params assign body d hl
     obtain ⟨c0,ha⟩:=condO ha hne
     simp only [Bool.and_eq_true] at c0
     simp only [Out.go.injEq] at ha; subst ha
     obtain ⟨tmps,d',h1,h2,h3,q,h4,h5⟩:=hH.obj _ _ p hl hpl
     have hrun:=run_beginRound (P:=P) h1 rfl
     have hH':=hH.put hl rfl hpl (ble c0.1) c0.2 (ob:=.loop { state:=.busy,pending:=pend,fn:=fn',tmps:=tmps,params:=params,assign:=assign,body:=body,defers:=d' })
      (o':=.loop .busy pend fn' nt' tm' params assign body d) ⟨tmps,d',by rw [World.putObj_heap_same (hH.lt _ p hpl)],h2,h3,q,h4,h5⟩
     exact hp1 (stepR_beginRound hbr hrun) hH' hlo hk
    ·exact (goNil ha hne).elim
   ·exact (goNil ha hne).elim
 ·cases hI with
  | same hp hk=>simp only [Out.go.injEq] at ha; subst ha; exact tm1 stepR_skip hk
 ·cases hI with
  | same hp hk=>simp only [Out.go.injEq] at ha; subst ha; exact tm1 stepR_label hk
 ·cases hI with
  | same hp hk=>simp only [Out.go.injEq] at ha; subst ha; exact tm1 stepR_inBlock hk
 ·cases hI with
  | same hp hk=>simp only [Out.go.injEq] at ha; subst ha; exact tm1 (step_lone_go (by simp [stepG,stepG.exec,Frame.atR])) hk
 ·cases hI with
  | same hp hk=>simp only [Out.go.injEq] at ha; subst ha; exact tm1 stepR_seq (.same rfl (.same rfl hk))
 ·-- cond
  rename_i x y z k
  cases hI with
  | same hp hk =>
   rename_i k'
   split at ha
   ·rename_i t hx
    obtain ⟨hc,ha⟩:=condO ha hne
    simp only [Out.go.injEq] at ha; subst ha
    have hval:a.eval x = .bool t:=by
     cases x with
     | tmp s =>
      have:=hT s
      change aev tm (.tmp s) = _ at hx
      simp only [aev] at hx
      rw [hx] at this
      generalize hq:a.tmps.getD s undef = q at this
      cases this
      exact hq
     | const v=>exact hx
     | global g=>cases hc
     | func f=>cases hc
    have hs:=stepR_cond (P:=P) (b:=b) (k:=k') (cs:=cfs++cs0) (w:=w) (x:=y) (y:=z) hval
    have e:(bif t then y else z) = if t = true then y else z:=by cases t <;> rfl
    rw [e]
    exact tm1 hs (.same rfl hk)
   ·exact (goNil ha hne).elim
 ·cases hI with
  | same hp hk=>simp only [Out.go.injEq] at ha; subst ha; exact tm1 stepR_block (.same rfl (.same rfl hk))
 ·cases hI with
  | same hp hk=>simp only [Out.go.injEq] at ha; subst ha; exact tm1 stepR_loop (.same rfl (.same rfl hk))
 ·cases hI with
  | same hp hk=>simp only [Out.go.injEq] at ha; subst ha; exact tm1 stepR_inLoop (.same rfl (.same rfl hk))
 ·cases hI with
  | same hp hk=>simp only [Out.go.injEq] at ha; subst ha; exact tm1 (step_lone_go (by simp [stepG,stepG.exec,Frame.atR])) (.same rfl (.same rfl hk))
 ·cases hI with
  | same hp hk =>
   split at ha
   ·rename_i k' hx
    simp only [Out.go.injEq] at ha; subst ha
    obtain ⟨r',q1,q2⟩:=hk.exit hx
    exact tm1 (stepR_exit q1) q2
   ·rename_i hx
    split at ha
    ·simp only [Out.go.injEq] at ha
     exact ender rfl (fun hkn _ _ _ _ _ hbr e=>stepR_round_exit hbr hkn (IR.exit_none hk hx) e) ha
    ·exact (goNil ha hne).elim
 ·cases hI with
  | same hp hk =>
   split at ha
   ·rename_i k' hx
    simp only [Out.go.injEq] at ha; subst ha
    obtain ⟨r',q1,q2⟩:=hk.goto hx
    exact tm1 (stepR_goto q1) q2
   ·exact (goNil ha hne).elim
 ·cases hI with
  | same hp hk=>simp only [Out.go.injEq] at ha; subst ha; exact tm1 stepR_region (.same rfl hk)
 ·-- a region that draws
  rename_i id ops k
  cases hI with
  | same hp hk =>
   rename_i k'
   obtain ⟨hok,ha⟩:=condO ha hne
   simp only [Out.go.injEq] at ha; subst ha
   have hs:=stepR_region_draw (P:=P) (b:=b) (a:=a) (k:=k') (cs:=cfs++cs0) (w:=w) (ops:=ops) (id:=id)
   have hsch:∀ t,Region.schedule (P.follows .mixedOrders) ops t = Region.linearise.go .any ops ops.size t (Array.replicate ops.size false) []:=fun t=>by
    simp only [Region.schedule,hm,Bool.true_or,if_true]; rfl
   rw [hsch] at hs
   have hord:=ord_lin (ops:=ops) ops.size (w.tape w.drawn (.order b.fn id)) (Array.replicate ops.size false) (by
    unfold unl
    have:=List.length_filter_le (fun i=>!(Array.replicate ops.size false).getD i true) (List.range ops.size)
    simpa using this)
   refine ⟨_,List.mem_singleton.2 rfl,_,.one hs,L,_,cfs,_,rfl,hH.same rfl rfl rfl rfl,⟨b,a,⟨hB.fn,hB.kind,hB.size,hB.defers,hB.rnd⟩,.inl ⟨rfl,_,rfl,?_⟩⟩,hC,hlo,hG,hbf _ rfl⟩
   have hall:∀ i,i < ops.size→i ∈ Region.linearise.go .any ops ops.size (w.tape w.drawn (.order b.fn id)) (Array.replicate ops.size false) []:=fun i hi =>
    hord.all (fun j o ho=>(regOK_spec hok ho).2.2.2.1) (by simp) i hi (by simp [hi])
   refine ⟨rfl,_,_,k',rfl,hk,⟨hord,by simp,?_,fun i hi=>hall i (by simpa using hi),List.nodup_range,fun p o hp hpl=>?_,hok,fun q hq hql o ho=>absurd (List.mem_range.2 (Array.getElem?_eq_some_iff.1 ho).1) hql,fun s _=>hT s⟩,fun p hp hpl=>?_,⟨fun p bb h=>by simp at h,fun p bb _ _ h=>by simp at h,fun p q bb _ _ _ _ h=>by simp at h⟩⟩
   ·intro j oj _ hj
    rcases Nat.lt_or_ge j ops.size with q | q
    ·simp [q] at hj
    ·simp [q] at hj
   ·exact absurd (List.mem_range.2 (Array.getElem?_eq_some_iff.1 hp).1) hpl
   ·intro o ho
    exact absurd (List.mem_range.2 (Array.getElem?_eq_some_iff.1 ho).1) hpl
 ·cases hI with
  | same hp hk=>simp only [Out.go.injEq] at ha; subst ha; exact tm1 stepR_region_end hk
 ·-- an operation
  rename_i ops i rest k
  cases hI with
  | same hp hk =>
   rename_i k'
   split at ha
   ·exact (goNil ha hne).elim
   ·rename_i o ho
    cases hdf:isDfr o with
    | true =>
     rw [hdf] at ha
     simp only [cond_true] at ha
     exact dfr_met (c:=⟨⟨fn,nt,tm,_,none,df,false,rnd,lo,dfd⟩,cs,H⟩) hH hB rfl rfl hT hk ho hC hlo hG hb ha hne
    | false =>
    rw [hdf] at ha
    simp only [cond_false] at ha
    obtain ⟨hc,ha⟩:=condO ha hne
    simp only [Bool.and_eq_true] at hc
    obtain ⟨⟨c1,c2⟩,c3⟩:=hc
    have hnd:∀ q,o.op ≠ .defer q:=fun q hq=>by rw [hq] at c3; cases c3
    have hwant:=wanted_rel (a:=a) hT (ops:=ops) (o:=o)
    cases hw:Region.wanted o (yieldedA ops tm) with
    | false =>
     rw [hw] at ha
     simp only [cond_false,Out.go.injEq] at ha
     subst ha
     have hs:=stepR_op_skip (P:=P) (b:=b) (a:=a) (k:=k') (cs:=cfs++cs0) (w:=w) (ops:=ops) (i:=i) (rest:=rest) (by rw [ho]; simpa [hw] using hwant)
     rw [ho] at hs
     refine ⟨_,List.mem_singleton.2 rfl,_,.one hs,L,_,cfs,w,rfl,hH,⟨b,a.put o.dst undef,?_,.inl ⟨rfl,_,rfl,?_⟩⟩,hC,hlo,hG,hbf _ rfl⟩
     ·have:=hB.put o.dst undef
      exact ⟨this.fn,this.kind,this.size,this.defers,this.rnd⟩
     ·exact ⟨.same rfl hk,hT.put hB.size c1 (VR.undef L)⟩
    | true =>
     rw [hw] at ha
     simp only [cond_true] at ha
     have hspec:=evalOp_spec (G:=G) hF hH (ρ:=aev tm) (ρ':=a.eval) (opnds_rel hH hT c2)
     cases hX:evalOp P F G H (aev tm) o with
     | vals lv =>
      rw [hX] at ha hspec
      simp only [Out.go.injEq] at ha
      subst ha
      have hlv:lv ≠ []:=by rintro rfl; exact hne rfl
      obtain ⟨v,H',m1,m2,y,w2,L2,e2,h2,v2,x2⟩:=hspec hlv
      have hstep:=stepR_ok (P:=P) (b:=b) (k:=k') (cs:=cfs++cs0) (rest:=rest) ho (by rw [hwant]; exact hw) hnd x2
      refine ⟨_,List.mem_map.2 ⟨(v,H'),m1,rfl⟩,_,.one hstep,L2,_,cfs,w2,rfl,h2,⟨b,a.put o.dst y,?_,.inl ⟨rfl,_,rfl,?_⟩⟩,hC.ext (Lam.ext_mono e2 hlo),Nat.le_trans hlo m2,hG,hbf _ rfl⟩
      ·have:=(hB.mono e2.1).put o.dst y
       exact ⟨this.fn,this.kind,this.size,this.defers,this.rnd⟩
      ·exact ⟨.same rfl (hk.mono e2.1),(hT.mono e2.1).put hB.size c1 v2⟩
     | call f args =>
      rw [hX] at ha hspec
      simp only [Out.go.injEq] at ha
      subst ha
      obtain ⟨args',fn',r1,r2,r3,r4,r5⟩:=hspec
      have hstep:=stepR_enter (P:=P) (b:=b) (k:=k') (cs:=cfs++cs0) (rest:=rest) ho (by rw [hwant]; exact hw) hnd r1
      have hW:WaitR G L H.nx ⟨fn,nt,tm,.inRegion ops (i :: rest) :: k,none,df,false,rnd,lo,dfd⟩ (b.atR a (.inRegion ops (i :: rest) :: k')) :=
       ⟨rfl,b,a,_,⟨hB.fn,hB.kind,hB.size,hB.defers,hB.rnd⟩,rfl,.same rfl hk,hT⟩
      obtain ⟨c',m1,hs⟩:=enter_met (cs0:=cs0) (f0:=f0) hF hH hW hlo hG hC r2 r3 r4 r5 (hbf _ rfl) hne
      exact ⟨c',m1,_,.one hstep,hs⟩
     | round lp args =>
      rw [hX] at ha hspec
      simp only [Out.go.injEq] at ha
      obtain ⟨args',p,r1,r2,r3⟩:=hspec
      have hW:WaitR G L H.nx ⟨fn,nt,tm,.inRegion ops (i :: rest) :: k,none,df,false,rnd,lo,dfd⟩ (b.atR a (.inRegion ops (i :: rest) :: k')) :=
       ⟨rfl,b,a,_,⟨hB.fn,hB.kind,hB.size,hB.defers,hB.rnd⟩,rfl,.same rfl hk,hT⟩
      obtain ⟨f,tmps,asg,bdy,y1,c',m1,hs⟩:=round_met (P:=P) (cs0:=cs0) (f0:=f0) hH hW hlo hG hC r3 r2 (hbf _ rfl) ha hne
      rw [y1] at r1
      exact ⟨c',m1,_,.one (stepR_toRound (P:=P) (b:=b) (k:=k') (cs:=cfs++cs0) (rest:=rest) ho (by rw [hwant]; exact hw) hnd r1),hs⟩
 ·exact (goNil ha hne).elim
end
end Go.Run
