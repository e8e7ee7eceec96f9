import Derived.Test.YtjcbpfhlgebgdaaDoorR22
noncomputable section
namespace Go.Run
open Go.RowKit
section
variable {P:Program} {F:T Func} {w0:World} {G:Nat} {L:Lam} {H:AH} {w:World} {cs0:List Frame} {f0:FuncId}
theorem DF.cons_inv {b:Nat} {bs:List DfA} {ds:List Deferred} (h:DF L (.coll b :: bs) ds):∃ p ds',L b = some p∧ds = { target:=.collected p.b,args:=#[] } :: ds'∧DF L bs ds':=by
 cases h with
 | cons h k=>exact ⟨_,_,h,rfl,k⟩
theorem DF.nil_inv {ds:List Deferred} (h:DF L [] ds):ds = []:=by
 cases h; rfl
theorem DF.clo_inv {f:FuncId} {args cap:List Value} {bs:List DfA} {ds:List Deferred} (h:DF L (.clo f args cap :: bs) ds):∃ args' cap' ds',ds = { target:=.fn (.func f) cap',args:=args' } :: ds'∧LR L args args'.toList∧LR L cap cap'.toList∧DF L bs ds':=by
 cases h with
 | clo h1 h2 k=>exact ⟨_,_,_,rfl,h1,h2,k⟩
theorem step_deferred {b:Frame} {a:Act} {todo:List Item} {cs:List Frame} {f:FuncId} {args cap:Array Value} {ds:List Deferred} (hd:a.defers = { target:=.fn (.func f) cap,args:=args } :: ds) (hc:(callFunc f (args++cap)).run P w = .ok (.enter f (args++cap)) w) :
  step P (lone { b.atR a todo with mode:=.returning } cs w) = .next (lone (Frame.enter P f (args++cap) .deferred) ({ b.atR { a with defers:=ds } todo with mode:=.returning } :: cs) w):=by
 refine step_lone_go ?_
 simp [stepG,unwind,Frame.atR,hd,callDeferred,invoke,Sem.runT_eq,hc,GStep.after,GStep.bare]
theorem step_back {fr cf:Frame} {cs:List Frame} {x:Value} {fnn:Func} (h1:fr.mode = .returning) (h2:fr.defers = []) (h3:fr.kind = .deferred) (h4:P.funcs[fr.fn]? = some fnn) (h5:(results fnn fr.tmps).run P w = .ok x w) (hm:cf.mode = .returning) :
  step P (lone fr (cf :: cs) w) = .next (lone cf cs w):=by
 refine step_lone_go ?_
 simp [stepG,unwind,h1,h2,h3,h4,doReturn,Sem.runT_eq,h5,GStep.after,GStep.bare,hm]
theorem enterD_rel (hF:FunOK P F) {f:FuncId} {fn:Func} {body:Code} (hf:F.get f = some fn) (hb:fn.body = some body) {args args':List Value} (hr:LR L args args') (hlen:args.length ≤ fn.ntmps) (hsm:small fn.ntmps = true) :
  TopR P G L H { fn:=f,nt:=fn.ntmps,tm:=T.setRow .nil 0 args,todo:=[.code body],dr:=none,defers:=[],ret:=false,rnd:=none,lo:=H.nx,dfd:=true } (Frame.enter P f args'.toArray .deferred):=by
 obtain ⟨b,a,hB,ht⟩:=enter_rel (P:=P) (G:=G) (L:=L) (H:=H) hF hf hb hr hlen hsm
 rcases ht with ⟨h1,todo,e,hbody⟩ | ⟨h1,_⟩
 ·refine ⟨{ b with kind:=.deferred },a,⟨hB.fn,rfl,hB.size,hB.defers,hB.rnd⟩,.inl ⟨rfl,todo,?_,hbody⟩⟩
  have e2:Frame.enter P f args'.toArray .deferred = { Frame.enter P f args'.toArray .normal with kind:=.deferred }:=rfl
  rw [e2,e]; rfl
 ·cases h1
theorem step_collected {b:Frame} {a:Act} {todo:List Item} {cs:List Frame} {c:Nat} {ds:List Deferred} (hd:a.defers = { target:=.collected c,args:=#[] } :: ds) (hc:w.heap[c]? = some (.deferred (some []))) :
  step P (lone { b.atR a todo with mode:=.returning } cs w) = .next (lone { b.atR { a with defers:=ds } todo with mode:=.returning } cs { w with heap:=w.heap.setIfInBounds c (.deferred none) }):=by
 have hrun:(Instr.takeDeferred c).run P w = .ok [] { w with heap:=w.heap.setIfInBounds c (.deferred none) }:=by
  simp [Instr.takeDeferred,run_getObj hc rfl,run_setObj' hc rfl]
 refine step_lone_go ?_
 simp [stepG,unwind,Frame.atR,hd,Sem.runT_eq,hrun]
theorem sim_step (hF:FunOK P F) (hm:P.follows .mixedOrders = true) {c:Cfg} {m:Machine} (hs:Sim P w0 G cs0 f0 c m) {l:List Cfg} (ha:astep P F G c = .go l) (hne:l ≠ []):Met P w0 G cs0 f0 l m:=by
 obtain ⟨L,cf,cfs,w,rfl,hH,⟨b,a,hB,ht⟩,hC,hlo,hG,hb⟩:=hs
 rcases ht with ⟨hret,todo,rfl,hbody⟩ | ⟨hret,hro,hT,todo,rfl⟩
 ·cases hd:c.fr.dr with
  | some d=>exact draw_met hF hH hB hret hd hbody hC hlo hG hb ha hne
  | none =>
   unfold BodyR at hbody
   rw [hd] at hbody
   exact todo_step hF hm hH hB hret hd hbody.1 hbody.2 hC hlo hG hb ha hne
 ·obtain ⟨⟨fn,nt,tm,td,dr,df,rt,rnd,lo,dfd⟩,cs,H⟩:=c
  simp only at hret
  subst hret
  simp only at hH hB hT hC hlo hG hb
  unfold astep at ha
  simp only at ha
  cases df with
  | cons dd ds =>
   cases dd with
   | clo f args cap =>
    simp only [Out.go.injEq] at ha
    obtain ⟨args',cap',ds',hdef,q1,q2,hk⟩:=DF.clo_inv hB.defers
    unfold enterD at ha
    split at ha
    ·rename_i fn' hfn
     obtain ⟨c0,ha⟩:=condL ha hne
     simp only [Bool.and_eq_true] at c0
     split at ha
     ·rename_i body hbody
      subst ha
      have hcall:=run_callFunc (P:=P) hF hfn (args'++cap') w
      have hstep:=step_deferred (P:=P) (b:=b) (a:=a) (todo:=todo) (cs:=cfs++cs0) hdef hcall
      have hl:=q1.append q2
      have e:(args'.toList++cap'.toList).toArray = args'++cap':=by apply Array.ext'; simp
      have htop:=enterD_rel (P:=P) (G:=G) (H:=H) hF hfn hbody hl (ble c0.1) c0.2
      rw [e] at htop
      refine ⟨_,List.mem_singleton.2 rfl,_,.one hstep,L,_,_ :: cfs,w,rfl,hH,htop,.cons (.inr ⟨rfl,b,{ a with defers:=ds' },todo,⟨hB.fn,hB.kind,hB.size,hk,hB.rnd⟩,hro,hT,rfl⟩) hlo hG hC,Nat.le_refl _,Nat.le_trans hG hlo,?_⟩
      exact botFn_same (fr:=⟨fn,nt,tm,td,dr,.clo f args cap :: ds,true,rnd,lo,dfd⟩) (fr':=⟨fn,nt,tm,td,dr,ds,true,rnd,lo,dfd⟩) rfl hb
     ·exact absurd ha.symm hne
    ·exact absurd ha.symm hne
   | coll bb =>
   simp only at ha
   split at ha
   ·rename_i hg
    obtain ⟨hc,ha⟩:=condO ha hne
    simp only [Out.go.injEq] at ha
    subst ha
    simp only [Bool.and_eq_true] at hc
    ·obtain ⟨p,ds',hp,hdef,hk⟩:=DF.cons_inv hB.defers
     have ho:=hH.obj bb _ p hg hp
     have hw:=Wrote.setObj w p.b (.deferred none)
     have hstep:=step_collected (P:=P) (w:=w) (b:=b) (a:=a) (todo:=todo) (cs:=cfs++cs0) hdef (by simpa [ORel] using ho)
     refine ⟨_,List.mem_singleton.2 rfl,_,.one hstep,L,_,cfs,_,rfl,hH.upd (o':=.dfr false) hg rfl hp (ble hc.1) hc.2 hw.block hw.size hw.os hw.tape hw.output (at_setObj (by simpa [ORel] using ho)),⟨b,{ a with defers:=ds' },⟨hB.fn,hB.kind,hB.size,hk,hB.rnd⟩,.inr ⟨rfl,hro,hT,todo,rfl⟩⟩,hC,hlo,hG,?_⟩
     exact botFn_same (fr:=⟨fn,nt,tm,td,dr,.coll bb :: ds,true,rnd,lo,dfd⟩) rfl hb
   ·exact (goNil ha hne).elim
  | nil =>
   simp only at ha
   split at ha
   ·rename_i fnn hfn
    split at ha
    ·rename_i v hv
     cases cs with
     | nil =>
      cases dfd with
      | true=>exact (goNil ha hne).elim
      | false=>simp at ha
     | cons k cs =>
      obtain ⟨h1,_,_⟩:=hF fn fnn hfn
      obtain ⟨x,r1,r2⟩:=resA_run hH hT hv
      cases dfd with
      | true =>
       simp only [cond_true] at ha
       cases hkr:k.ret with
       | false=>rw [hkr] at ha; exact (goNil ha hne).elim
       | true =>
       rw [hkr] at ha
       simp only [cond_true,Out.go.injEq] at ha
       subst ha
       cases hC with
       | cons hW h2 h3 hC' =>
        rename_i cf' cfs'
        replace hW:=hW.resolve_left fun q=>by rw [q.1] at hkr; cases hkr
        obtain ⟨_,b2,a2,todo2,hB2,hro2,hT2,rfl⟩:=hW
        have hstep:=step_back (P:=P) (w:=w) (fr:={ b.atR a todo with mode:=.returning }) (cf:={ b2.atR a2 todo2 with mode:=.returning }) (cs:=cfs'++cs0) rfl (by have:=DF.nil_inv hB.defers; simpa [Frame.atR] using this) hB.kind (by show P.funcs[b.fn]? = _; rw [hB.fn]; exact h1) r1 rfl
        exact ⟨_,List.mem_singleton.2 rfl,_,.one hstep,L,_,cfs',w,rfl,hH,⟨b2,a2,hB2,.inr ⟨hkr,hro2,hT2,todo2,rfl⟩⟩,hC',Nat.le_trans h2 hlo,h3,hb⟩
      | false =>
      simp only [cond_false] at ha
      cases hkr:k.ret with
      | true=>rw [hkr] at ha; exact (goNil ha hne).elim
      | false =>
      rw [hkr] at ha
      simp only [cond_false,Out.go.injEq] at ha
      subst ha
      have hleave:({ b.atR a todo with mode:=.returning }:Frame).leaving P w (.returned x):=by
       refine ⟨rfl,?_,hB.kind,fnn,?_,r1⟩
       ·have:=DF.nil_inv hB.defers; simpa [Frame.atR] using this
       ·show P.funcs[b.fn]? = _
        rw [hB.fn]; exact h1
      cases hC with
      | cons hW h2 h3 hC' =>
       replace hW:=hW.resolve_right fun q=>by rw [q.1] at hkr; cases hkr
       obtain ⟨c',m1,hs⟩:=finish_met (P:=P) (cs0:=cs0) (f0:=f0) hH hW h2 hlo h3 hC' r2 hb hne
       exact ⟨c',m1,_,.one (step_leave_returned hleave),hs⟩
    ·exact (goNil ha hne).elim
   ·exact (goNil ha hne).elim
theorem sim_done (hF:FunOK P F) {c:Cfg} {m:Machine} (hs:Sim P w0 G cs0 f0 c m) {v:Value} {H':AH} (ha:astep P F G c = .done v H') :
  ∃ L x fr w',m = lone fr cs0 w'∧fr.fn = f0∧fr.leaving P w' (.returned x)∧HRel w0 G L H' w'∧VR L v x:=by
 obtain ⟨L,cf,cfs,w,rfl,hH,⟨b,a,hB,ht⟩,hC,hlo,hG,hb⟩:=hs
 rcases ht with ⟨hret,todo,rfl,hbody⟩ | ⟨hret,hro,hT,todo,rfl⟩
 ·exfalso
  unfold astep at ha
  simp only [hret] at ha
  cases ha
 ·obtain ⟨⟨fn,nt,tm,td,dr,df,rt,rnd,lo,dfd⟩,cs,H⟩:=c
  simp only at hret
  subst hret
  simp only at hH hB hT hC hlo hG hb
  unfold astep at ha
  simp only at ha
  cases df with
  | cons dd ds =>
   cases dd with
   | clo f args cap=>simp at ha
   | coll bb =>
   simp only at ha
   split at ha
   ·cases hq:(Nat.ble G bb && small bb) <;> rw [hq] at ha <;> cases ha
   ·cases ha
  | nil =>
   simp only at ha
   split at ha
   ·rename_i fnn hfn
    split at ha
    ·rename_i u hv
     cases cs with
     | cons k cs=>cases dfd <;> cases hkr:k.ret <;> simp [hkr] at ha
     | nil =>
      cases dfd with
      | true=>simp at ha
      | false =>
      cases ha
      cases hC
      obtain ⟨h1,_,_⟩:=hF fn fnn hfn
      obtain ⟨x,r1,r2⟩:=resA_run hH hT hv
      refine ⟨L,x,_,w,rfl,?_,⟨rfl,?_,hB.kind,fnn,?_,r1⟩,hH,r2⟩
      ·show b.fn = f0
       rw [hB.fn]; exact hb
      ·have:=DF.nil_inv hB.defers; simpa [Frame.atR] using this
      ·show P.funcs[b.fn]? = _
       rw [hB.fn]; exact h1
    ·cases ha
   ·cases ha
theorem run_spec (hF:FunOK P F) (hm:P.follows .mixedOrders = true) {test:Value→AH→Bool}:∀ (n:Nat) (c:Cfg) (m:Machine),Sim P w0 G cs0 f0 c m→runA P F G test n c = true →
  ∃ L v H' x fr w',test v H' = true∧Steps P m (lone fr cs0 w')∧fr.fn = f0∧fr.leaving P w' (.returned x)∧HRel w0 G L H' w'∧VR L v x
 | 0,_,_,_,h=>by simp [runA] at h
 | n + 1,c,m,hs,h=>by
  simp only [runA] at h
  cases ha:astep P F G c with
  | done v H' =>
   rw [ha] at h
   obtain ⟨L,x,fr,w',rfl,q1,q2,q3,q4⟩:=sim_done hF hs ha
   exact ⟨L,v,H',x,fr,w',h,Steps.refl _ _,q1,q2,q3,q4⟩
  | go l =>
   rw [ha] at h
   simp only [Bool.and_eq_true,Bool.not_eq_true',List.isEmpty_eq_false_iff,List.all_eq_true] at h
   obtain ⟨c',m1,m',s1,hs'⟩:=sim_step hF hm hs ha h.1
   obtain ⟨L,v,H',x,fr,w',q0,q1,q2⟩:=run_spec hF hm n c' m' hs' (h.2 c' m1)
   exact ⟨L,v,H',x,fr,w',q0,s1.trans q1,q2⟩
def GlobOK (G:Nat) (w0:World) (m:T AObj):Prop:=∀ b o,m.get b = some o→b < G∧ORel (fun c=>if c < G then some ⟨c,0,0⟩ else none) w0 ⟨b,0,0⟩ o
def start (fn:Func) (f:FuncId) (G:Nat) (args:List Value) (m:T AObj):Cfg :=
 ⟨{ fn:=f,nt:=fn.ntmps,tm:=T.setRow .nil 0 args,todo:=[.code (fn.body.getD .skip)],dr:=none,defers:=[],ret:=false,rnd:=none,lo:=G },[],⟨G,m⟩⟩
theorem start_rel {m:T AObj} (hg:GlobOK G w0 m) (hsz:G ≤ w0.heap.size):HRel w0 G (fun c=>if c < G then some ⟨c,0,0⟩ else none) ⟨G,m⟩ w0:=by
 have hl:∀ b p,(fun c=>if c < G then some (⟨c,0,0⟩:Pl) else none) b = some p→b < G∧p = ⟨b,0,0⟩:=fun b p h=>by
  simp only at h
  split at h
  ·cases h; exact ⟨by assumption,rfl⟩
  ·cases h
 refine ⟨fun b o p h1 h2=>?_,fun b b' o o' p p' _ _ _ _ h1 h2 he=>?_,fun b p h=>(hl b p h).1,fun b p hG h=>?_,fun b p h=>?_,⟨rfl,rfl,rfl,Nat.le_refl _,fun _ _=>rfl⟩,fun g hg=>if_pos (by omega),Nat.le_refl _⟩
 ·obtain ⟨_,rfl⟩:=hl b p h2
  exact (hg b o h1).2
 ·obtain ⟨_,rfl⟩:=hl b p h1
  obtain ⟨_,rfl⟩:=hl b' p' h2
  exact he
 ·have:=(hl b p h).1; omega
 ·obtain ⟨h1,rfl⟩:=hl b p h; show b < _; omega
end
end Go.Run
