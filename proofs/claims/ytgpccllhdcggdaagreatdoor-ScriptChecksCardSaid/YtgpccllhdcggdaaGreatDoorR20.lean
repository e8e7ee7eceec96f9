import Derived.Test.YtgpccllhdcggdaaGreatDoorR15
open List renaming mem_cons_of_mem -> zyx
open Bool renaming and_eq_true -> zyL
open Option.some renaming injEq -> zyO
open List renaming all_eq_true -> zyS
set_option linter.unusedSimpArgs false
set_option linter.unusedVariables false
noncomputable section
namespace Go.Run
open Go.RowKit
inductive DF (L:Lam):List DfA->List Deferred->Prop where
 | nil:DF L [] []
 | cons {b:Nat} {p:Pl} {bs:List DfA} {ds:List Deferred} (h:L b = some p) (k:DF L bs ds):DF L (.coll b :: bs) ({ target:=.collected p.b,args:=#[] } :: ds)
 | clo {f:FuncId} {args cap:List Value} {args' cap':Array Value} {bs:List DfA} {ds:List Deferred} (h1:LR L args args'.toList) (h2:LR L cap cap'.toList) (k:DF L bs ds):DF L (.clo f args cap :: bs) ({ target:=.fn (.func f) cap',args:=args' } :: ds)
theorem DF.mono {L L':Lam} (hl:L.le L') {bs:List DfA} {ds:List Deferred} (h:DF L bs ds):DF L' bs ds:=by
 induction h with
 | nil=>exact .nil
 | cons h _ ih=>exact .cons (hl _ _ h) ih
 | clo h1 h2 _ ih=>exact .clo (h1.mono hl) (h2.mono hl) ih
def zvW (d:Bool):CallKind:=match d with
 | true=>.deferred
 | false=>.normal
inductive RO (L:Lam):Option Nat->Option Nat->Prop where
 | none:RO L none none
 | some {l:Nat} {p:Pl} (h:L l = some p):RO L (some l) (some p.b)
theorem RO.mono {L L':Lam} (hl:L.le L') {a b:Option Nat} (h:RO L a b):RO L' a b:=by
 cases h with
 | none=>exact .none
 | some h=>exact .some (hl _ _ h)
def plainI:Item->Bool
 | .code _ | .inBlock _ | .inLoop _ | .inScope _ | .inRegion _ _ | .beginRound=>true
 | _=>false
inductive IR (L:Lam):List Item->List Item->Prop where
 | nil:IR L [] []
 | same {i:Item} {k k':List Item} (h:plainI i = true) (hk:IR L k k'):IR L (i :: k) (i :: k')
 | inR {l:Nat} {p:Pl} {k k':List Item} (h:L l = some p) (hk:IR L k k'):IR L (.inRangeFunc l :: k) (.inRangeFunc p.b :: k')
 | endR {l:Nat} {p:Pl} {k k':List Item} (h:L l = some p) (hk:IR L k k'):IR L (.endRangeFunc l :: k) (.endRangeFunc p.b :: k')
theorem IR.mono {L L':Lam} (hl:L.le L') {k k':List Item} (h:IR L k k'):IR L' k k':=by
 induction h with
 | nil=>exact .nil
 | same h _ ih=>exact .same h ih
 | inR h _ ih=>exact .inR (hl _ _ h) ih
 | endR h _ ih=>exact .endR (hl _ _ h) ih
theorem IR.exit {L:Lam} {id:Nat} {k k':List Item} (h:IR L k k'):∀ {r:List Item},exitTo id k = some r->∃ r',exitTo id k' = some r'/\IR L r r':=by
 induction h with
 | nil=>intro r hr; simp [exitTo] at hr
 | @same i k k' h hk ih =>
  intro r hr
  cases i with
  | inBlock id' =>
   simp only [exitTo] at hr ⊢
   split at hr
   ·rename_i hc; cases hr; exact ⟨k',by rw [if_pos hc],hk⟩
   ·rename_i hc; rw [if_neg hc]; exact ih hr
  | _=>first | (simp [plainI] at h; done) | (simp only [exitTo] at hr ⊢; exact ih hr)
 | inR h hk ih=>intro r hr; simp only [exitTo] at hr ⊢; exact ih hr
 | endR h hk ih=>intro r hr; simp only [exitTo] at hr ⊢; exact ih hr
theorem IR.goto {L:Lam} {l:Nat} {k k':List Item} (h:IR L k k'):∀ {r:List Item},gotoIn l k = some r->∃ r',gotoIn l k' = some r'/\IR L r r':=by
 induction h with
 | nil=>intro r hr; simp [gotoIn] at hr
 | @same i k k' h hk ih =>
  intro r hr
  cases i with
  | inScope body =>
   simp only [gotoIn] at hr ⊢
   split at hr
   ·rename_i rest hf
    cases hr
    exact ⟨_,rfl,.same rfl (.same rfl hk)⟩
   ·exact ih hr
  | _=>first | (simp [plainI] at h; done) | (simp only [gotoIn] at hr ⊢; exact ih hr)
 | inR h hk ih=>intro r hr; simp only [gotoIn] at hr ⊢; exact ih hr
 | endR h hk ih=>intro r hr; simp only [gotoIn] at hr ⊢; exact ih hr
structure FB (L:Lam) (af:AFr) (b:Frame) (a:Act):Prop where
 fn:b.fn = af.fn
 kind:b.kind = zvW af.dfd
 size:a.tmps.size = af.nt
 defers:DF L af.defers a.defers
 rnd:RO L af.rnd b.roundOf
theorem FB.mono {L L':Lam} (hl:L.le L') {af:AFr} {b:Frame} {a:Act} (h:FB L af b a):FB L' af b a:=⟨h.fn,h.kind,h.size,h.defers.mono hl,h.rnd.mono hl⟩
structure DrR (G:Nat) (L:Lam) (af:AFr) (d:Dr) (a:Act) (rest:List Nat) (listed:Array Bool):Prop where
 ord:zaR d.ops listed rest
 size:listed.size = d.ops.size
 cl:Cl d.ops listed
 left:∀ i ∈ d.left,i ∈ rest
 nd:d.left.Nodup
 up:∀ (p:Nat) (o:Oper),d.ops[p]? = some o->p ∉ d.left->∀ e ∈ o.after,Region.binds .any e = true->e.on ∉ d.left
 ok:zmt G af.nt d.ops = true
 pin:∀ q ∈ rest,q ∉ d.left->∀ oq,d.ops[q]? = some oq->zkz d.ops oq = false
 slots:∀ s,(∀ (p:Nat) (o:Oper),p ∈ rest->p ∉ d.left->d.ops[p]? = some o->o.dst ≠ some s)->VR L (ZB af.tm s) (a.tmps.getD s undef)
def QG (P:Program) (H:AH) (ops:Array Oper) (tm:T Value) (al:List (Nat × Nat)) (p:Nat):Prop :=
 ∀ o,ops[p]? = some o->match qZ P H ops tm o with
  | .skip=>∀ d,o.dst = some d->ZB tm d = undef
  | .val v=>∀ d,o.dst = some d->ZB tm d = v
  | .lay ob mk=>∃ b ob',al.lookup p = some b/\H.get b = some ob'/\oeq ob' ob = true/\∀ d,o.dst = some d->ZB tm d = mk b
  | .eff=>False
theorem zjm {P:Program} {H:AH} {ops:Array Oper} {tm:T Value} {al:List (Nat × Nat)} {p:Nat} (h:zdA P H ops tm al p = true):QG P H ops tm al p:=by
 intro o ho
 unfold zdA at h
 rw [ho] at h
 simp only at h
 split at h
 ·rename_i hk
  rw [hk]
  intro d hd
  rw [hd] at h
  exact zhc h
 ·rename_i v hk
  rw [hk]
  intro d hd
  rw [hd] at h
  exact zhc h
 ·rename_i ob mk hk
  rw [hk]
  simp only
  split at h
  ·rename_i b hb
   simp only [zyL] at h
   obtain ⟨h1,h2⟩:=h
   split at h1
   ·rename_i ob' hob
    refine ⟨b,ob',hb,hob,h1,fun d hd=>?_⟩
    rw [hd] at h2
    exact zhc h2
   ·cases h1
  ·cases h
 ·cases h
structure AlR (L:Lam) (lo hi:Nat) (d:Dr) (rest:List Nat):Prop where
 keys:∀ p b,d.al.lookup p = some b->p ∉ d.left
 free:∀ p b,p ∈ rest->p ∉ d.left->d.al.lookup p = some b->L b = none/\lo <= b/\b < hi
 dist:∀ p q b,p ∈ rest->p ∉ d.left->q ∈ rest->q ∉ d.left->d.al.lookup p = some b->d.al.lookup q = some b->p = q
section
variable {P:Program} {F:T Func} {w0:World} {G:Nat} {L:Lam} {H:AH} {w:World} {af:AFr} {d:Dr} {a:Act} {rest:List Nat} {listed:Array Bool}
theorem yU {nt:Nat} {ops:Array Oper} (h:zmt G nt ops = true) {i:Nat} {o:Oper} (ho:ops[i]? = some o):zfi G o = true/\Y4 nt o = true/\(∀ c,o.op ≠ .defer c)/\(∀ e ∈ o.after,Region.binds .any e = true->e.on < i) /\
  ∀ j o' s,ops[j]? = some o'->o'.dst = some s->(i ≠ j->o.dst ≠ some s)/\(s ∈ looks ops o->i ≠ j/\(anc ops i j = true ∨ (zkz ops o' = true/\anc ops j i = true))):=by
 unfold zmt at h
 simp only at h
 unfold zsZ at h
 rw [zyS] at h
 have hlt:i < ops.size:=(Array.getElem?_eq_some_iff.1 ho).1
 have h1:=h i (by simpa using hlt)
 rw [ho] at h1
 simp only [zyL] at h1
 obtain ⟨⟨⟨⟨h1,h2⟩,h3⟩,h4⟩,h5⟩:=h1
 refine ⟨h1,h2,?_,?_,?_⟩
 ·intro c hc
  rw [hc] at h3; cases h3
 ·intro e he hb
  rw [zyS] at h4
  have:=h4 e (by simpa using he)
  rw [hb] at this
  simpa using this
 ·intro j o' s hj hs
  rw [zyS] at h5
  have hjl:j < ops.size:=(Array.getElem?_eq_some_iff.1 hj).1
  have:=h5 j (by simpa using hjl)
  rw [hj] at this
  simp only [hs,zyL,Bool.or_eq_true,beq_iff_eq,Bool.not_eq_true'] at this
  obtain ⟨a1,a2⟩:=this
  refine ⟨fun hne hd=>?_,fun hm=>?_⟩
  ·rcases a1 with a1 | a1
   ·exact hne a1
   ·rw [hd] at a1; simp at a1
  ·rcases a2 with a2 | a2
   ·have:(looks ops o).contains s = true:=by simpa using hm
    rw [a2] at this; cases this
   ·exact ⟨by simpa using a2.1,a2.2.imp zce fun q=>⟨q.1,zce q.2⟩⟩
theorem DrR.looks (h:DrR G L af d a rest listed) {p:Nat} {o:Oper} (ho:d.ops[p]? = some o) (hr:p ∈ Region.ready .any d.ops listed):∀ s ∈ looks d.ops o,VR L (ZB af.tm s) (a.tmps.getD s undef):=by
 intro s hs
 refine h.slots s fun q oq hq hql hoq hd=>?_
 obtain ⟨hne,ha⟩:=(yU h.ok ho).2.2.2.2 q oq s hoq hd |>.2 hs
 rcases ha with ha | ⟨hp,_⟩
 ·have h1:=zex h.cl hr ha
  have h2:=unlisted_of (h.ord.unlisted q hq)
  rw [h1] at h2; cases h2
 ·rw [h.pin q hq hql oq hoq] at hp; cases hp
theorem DrR.opnds (h:DrR G L af d a rest listed) (hH:zH w0 G L H w) {p:Nat} {o:Oper} (ho:d.ops[p]? = some o) (hr:p ∈ Region.ready .any d.ops listed):∀ x ∈ o.op.operands,VR L (aev af.tm x) (a.eval x):=by
 intro x hx
 have hok:=(yU h.ok ho).1
 unfold zfi at hok
 rw [zyS] at hok
 have hx1:=hok x (by simpa using hx)
 cases x with
 | tmp s =>
  refine h.looks ho hr s ?_
  unfold Go.Run.looks
  rw [List.mem_append]
  left
  rw [List.mem_filterMap]
  exact ⟨.tmp s,by simpa using hx,rfl⟩
 | const v=>exact VR.refl_flat hx1
 | global g =>
  have hg:g + 1 < G:=by simpa using hx1
  have:=VR.ptr (L:=L) (o:=0) (hH.glob g hg)
  simpa [aev,Act.eval] using this
 | func f=>exact VR.refl_flat (by rfl)
theorem zfm {ops:Array Oper} {tm:T Value} {tmps:Array Value} {j:Nat} (h:∀ s,(ops[j]?).bind (·.dst) = some s->VR L (ZB tm s) (tmps.getD s undef)):yielded ops tmps j = qh ops tm j:=by
 unfold yielded qh
 cases hd:(ops[j]?).bind (·.dst) with
 | none=>rfl
 | some s =>
  have:=h s hd
  simp only [Option.bind_some]
  rw [Array.getD_eq_getD_getElem?] at this
  cases hq:tmps[s]? with
  | none =>
   rw [hq] at this
   simp only [Option.getD_none] at this
   generalize hv:ZB tm s = v at this
   cases this with
   | tuple _ _=>rfl
  | some x =>
   rw [hq] at this
   simp only [Option.getD_some] at this
   generalize hv:ZB tm s = v at this
   cases this <;> rfl
theorem DrR.wanted (h:DrR G L af d a rest listed) {p:Nat} {o:Oper} (ho:d.ops[p]? = some o) (hr:p ∈ Region.ready .any d.ops listed):Region.wanted o (yielded d.ops a.tmps) = Region.wanted o (qh d.ops af.tm):=by
 unfold Region.wanted
 cases hg:o.guard with
 | none=>rfl
 | some gw =>
  obtain ⟨g,want⟩:=gw
  simp only
  rw [zfm fun s hs=>h.looks ho hr s (by unfold Go.Run.looks; rw [List.mem_append]; right; rw [hg]; simp [hs])]
theorem zey {x:Value} {dst:Option Nat} {s:Nat} (h:dst ≠ some s):(a.put dst x).tmps.getD s undef = a.tmps.getD s undef:=by
 cases dst with
 | none=>rfl
 | some e =>
  have hne:e ≠ s:=fun q=>h (by rw [q])
  show (a.tmps.setIfInBounds e x).getD s undef = _
  simp only [Array.getD_eq_getD_getElem?]
  rw [Array.getElem?_setIfInBounds_ne hne]
theorem zez {x:Value} {s:Nat} (h:s < a.tmps.size):(a.put (some s) x).tmps.getD s undef = x:=by
 show (a.tmps.setIfInBounds s x).getD s undef = _
 simp [Array.getD_eq_getD_getElem?,h]
theorem FB.put {b:Frame} (h:FB L af b a) (dst:Option Nat) (x:Value):FB L af b (a.put dst x):=by
 cases dst with
 | none=>exact h
 | some e=>exact ⟨h.fn,h.kind,by show (a.tmps.setIfInBounds e x).size = _; rw [Array.size_setIfInBounds]; exact h.size,h.defers,h.rnd⟩
theorem zaS {nt:Nat} {o:Oper} (h:Y4 nt o = true) {s:Nat} (hs:o.dst = some s):s < nt/\zq s = true:=by
 unfold Y4 at h
 rw [hs] at h
 simp only [zyL] at h
 exact ⟨by simpa using h.1,h.2⟩
theorem DrR.done (h:DrR G L af d a rest listed) (hsz:a.tmps.size = af.nt) {L':Lam} (hl:L.le L') {p:Nat} {o:Oper} {rest':List Nat} (ho:d.ops[p]? = some o) (hrest:rest = p :: rest') (hpl:p ∉ d.left) {x:Value} (hx:∀ s,o.dst = some s->VR L' (ZB af.tm s) x) :
  DrR G L' af d (a.put o.dst x) rest' (listed.setIfInBounds p true):=by
 subst hrest
 cases hord:h.ord with
 | cons hr k =>
  refine ⟨k,by simpa using h.size,h.cl.step hr,fun i hi=>?_,h.nd,h.up,h.ok,fun q hq hql=>h.pin q (zyx _ hq) hql,fun s hs=>?_⟩
  ·rcases List.mem_cons.1 (h.left i hi) with rfl | q
   ·exact absurd hi hpl
   ·exact q
  ·by_cases hd:o.dst = some s
   ·have:=zaS (yU h.ok ho).2.1 hd
    rw [hd,zez (by rw [hsz]; exact this.1)]
    exact hx s hd
   ·rw [zey hd]
    refine (h.slots s fun q oq hq hql hoq=>?_).mono hl
    rcases List.mem_cons.1 hq with rfl | hq
    ·rw [ho] at hoq; cases hoq; exact hd
    ·exact hs q oq hq hql hoq
end
end Go.Run
noncomputable section
namespace Go.Run
open Go.RowKit
section
variable {P:Program} {F:T Func} {w0:World} {G:Nat} {L:Lam} {H:AH} {w:World} {af:AFr} {d:Dr} {a:Act} {rest:List Nat} {listed:Array Bool} {b:Frame} {k:List Item} {cs:List Frame} {ops:Array Oper}
theorem QH {i:Nat} {rest:List Nat} {o:Oper} (ho:ops[i]? = some o) (v:Value):(b.atR a (.inRegion ops (i :: rest) :: k)).finish v = b.atR (a.put o.dst v) (.inRegion ops rest :: k):=by
 rw [Frame.finish_atR,ho]; rfl
theorem zdC {i:Nat} {rest:List Nat} {o:Oper} {x:Value} {w':World} (ho:ops[i]? = some o) (hw:Region.wanted o (yielded ops a.tmps) = true) (hnd:∀ c,o.op ≠ .defer c) (hr:XOK ((execOp a.eval o).run P w) x w') :
  step P (lone (b.atR a (.inRegion ops (i :: rest) :: k)) cs w) = .next (lone (b.atR (a.put o.dst x) (.inRegion ops rest :: k)) cs w'):=by
 have hg:=stepGR_op (P:=P) (b:=b) (k:=k) (cs:=cs) (w:=w) (rest:=rest) ho hw
 rw [Oper.semAt_eq _ _ _ hnd] at hg
 rw [<- QH ho]
 refine step_lone_go ?_
 rw [hg]
 rcases hr with hr | ⟨rfl,hr⟩ <;> simp [stepG.apply,hr]
theorem zfn {i:Nat} {rest:List Nat} {o:Oper} {f:FuncId} {args:Array Value} {w':World} (ho:ops[i]? = some o) (hw:Region.wanted o (yielded ops a.tmps) = true) (hnd:∀ c,o.op ≠ .defer c) (hr:(execOp a.eval o).run P w = .ok (.enter f args) w') :
  step P (lone (b.atR a (.inRegion ops (i :: rest) :: k)) cs w) = .next (lone (Frame.enter P f args .normal) (b.atR a (.inRegion ops (i :: rest) :: k) :: cs) w'):=by
 have hg:=stepGR_op (P:=P) (b:=b) (k:=k) (cs:=cs) (w:=w) (rest:=rest) ho hw
 rw [Oper.semAt_eq _ _ _ hnd] at hg
 refine step_lone_go ?_
 rw [hg]
 simp [stepG.apply,hr,Frame.atR]
theorem zjn (hH:zH w0 G L H w) (hB:FB L af b a) {lo hi:Nat} (hD:DrR G L af d a rest listed) (hA:AlR L lo hi d rest) (hG:G <= lo) (hhi:hi <= H.nx) {p:Nat} {rest':List Nat} (hrest:rest = p :: rest') (hpl:p ∉ d.left) (hst:QG P H d.ops af.tm d.al p) :
  ∃ a' w' L' listed',step P (lone (b.atR a (.inRegion d.ops rest :: k)) cs w) = .next (lone (b.atR a' (.inRegion d.ops rest' :: k)) cs w')/\zH w0 G L' H w'/\Lam.ext lo L L'/\FB L' af b a'/\DrR G L' af d a' rest' listed'/\AlR L' lo hi d rest':=by
 subst hrest
 cases hord:hD.ord with
 | cons hr hk =>
 obtain ⟨hu,o,ho,_⟩:=mem_ready.1 hr
 have hwant:=hD.wanted ho hr
 have hdst:=(yU hD.ok ho).2.1
 have hnd:=(yU hD.ok ho).2.2.1
 have hAsub:∀ L',(∀ q bq,q ∈ rest'->q ∉ d.left->d.al.lookup q = some bq->L' bq = none)->AlR L' lo hi d rest':=fun L' hfree =>
  ⟨hA.keys,fun q bq hq hql hlk=>⟨hfree q bq hq hql hlk,(hA.free q bq (zyx _ hq) hql hlk).2⟩,fun q r bq hq hql hr' hrl h1 h2=>hA.dist q r bq (zyx _ hq) hql (zyx _ hr') hrl h1 h2⟩
 have hstand:=hst o ho
 have hpin:=hD.pin p (by simp) hpl o ho
 cases hkd:qZ P H d.ops af.tm o with
 | skip =>
  rw [hkd] at hstand
  simp only at hstand
  have hw:Region.wanted o (yielded d.ops a.tmps) = false:=by
   rw [hwant]
   cases hq:Region.wanted o (qh d.ops af.tm) with
   | false=>rfl
   | true =>
    unfold qZ at hkd
    rw [hpin,hq] at hkd
    simp only [cond_true,cond_false] at hkd
    split at hkd
    ·cases hkd
    ·split at hkd <;> cases hkd
  refine ⟨a.put o.dst undef,w,L,listed.setIfInBounds p true,?_,hH,Lam.ext_refl _ _,hB.put _ _,hD.done hB.size (Lam.le_refl L) ho rfl hpl fun s hs=>by rw [hstand s hs]; exact VR.undef L,hAsub L fun q bq hq hql hlk=>(hA.free q bq (zyx _ hq) hql hlk).1⟩
  have:=stepR_op_skip (P:=P) (b:=b) (a:=a) (k:=k) (cs:=cs) (w:=w) (ops:=d.ops) (i:=p) (rest:=rest') (by rw [ho]; simpa using hw)
  rw [ho] at this
  exact this
 | val v =>
  rw [hkd] at hstand
  simp only at hstand
  have hq:Region.wanted o (qh d.ops af.tm) = true/\zdO P H (aev af.tm) o = some v:=by
   unfold qZ at hkd
   cases hq:Region.wanted o (qh d.ops af.tm) with
   | false=>rw [hpin,hq] at hkd; cases hkd
   | true =>
    rw [hpin,hq] at hkd
    simp only [cond_true,cond_false] at hkd
    split at hkd
    ·rename_i v' hv; cases hkd; exact ⟨rfl,hv⟩
    ·split at hkd <;> cases hkd
  obtain ⟨x,q1,q2⟩:=zhj hH hq.2 (hD.opnds hH ho hr)
  refine ⟨a.put o.dst x,w,L,listed.setIfInBounds p true,zdC ho (by rw [hwant]; exact hq.1) hnd (.inl q1),hH,Lam.ext_refl _ _,hB.put _ _,hD.done hB.size (Lam.le_refl L) ho rfl hpl fun s hs=>by rw [hstand s hs]; exact q2,
   hAsub L fun q bq hq hql hlk=>(hA.free q bq (zyx _ hq) hql hlk).1⟩
 | lay ob mk =>
  rw [hkd] at hstand
  simp only at hstand
  obtain ⟨bb,ob',hlk,hob,heq,hslot⟩:=hstand
  have hq:Region.wanted o (qh d.ops af.tm) = true/\zdP P H (aev af.tm) o = some (ob,mk):=by
   unfold qZ at hkd
   cases hq:Region.wanted o (qh d.ops af.tm) with
   | false=>rw [hpin,hq] at hkd; cases hkd
   | true =>
    rw [hpin,hq] at hkd
    simp only [cond_true,cond_false] at hkd
    split at hkd
    ·cases hkd
    ·split at hkd
     ·rename_i ob1 mk1 hv; cases hkd; exact ⟨rfl,hv⟩
     ·cases hkd
  obtain ⟨x,w',q1,q2,e,q3⟩:=zho hH hq.2 (hD.opnds hH ho hr)
  obtain ⟨f1,f2,f3⟩:=hA.free p bb (by simp) hpl hlk
  have hat:(L.upd bb ⟨w.heap.size,0,e⟩) bb = some ⟨w.heap.size,0,e⟩:=by unfold Lam.upd; rw [if_pos rfl]
  obtain ⟨r1,r2⟩:=q3 (L.upd bb ⟨w.heap.size,0,e⟩) bb (Lam.le_upd f1) hat
  have hext:Lam.ext lo L (L.upd bb ⟨w.heap.size,0,e⟩):=⟨Lam.le_upd f1,fun c hc=>by unfold Lam.upd; rw [if_neg (by omega)]⟩
  refine ⟨a.put o.dst x,w',L.upd bb ⟨w.heap.size,0,e⟩,listed.setIfInBounds p true,zdC ho (by rw [hwant]; exact hq.1) hnd (.inl q1),hH.real hob f1 (by omega) (by omega) q2 (zvp heq r1),hext,(hB.mono hext.1).put _ _,
   hD.done hB.size hext.1 ho rfl hpl fun s hs=>by rw [hslot s hs]; exact r2,hAsub _ fun q bq hqr hql hlk'=>?_⟩
  have hne:bq ≠ bb:=by
   intro e1
   subst e1
   have:=hA.dist q p bq (zyx _ hqr) hql (by simp) hpl hlk' hlk
   subst this
   exact zaR.head_not_mem hr hk hqr
  unfold Lam.upd
  rw [if_neg hne]
  exact (hA.free q bq (zyx _ hqr) hql hlk').1
 | eff =>
  rw [hkd] at hstand
  exact hstand.elim
theorem zmA {lo hi:Nat} (hG:G <= lo) (hhi:hi <= H.nx) {x:Nat} (hxl:x ∈ d.left) (hafter:∀ j ∈ d.left,j = x ∨ anc d.ops j x = true) :
  ∀ (rest:List Nat) (listed:Array Bool) (L:Lam) (a:Act) (w:World),zH w0 G L H w->FB L af b a->DrR G L af d a rest listed->AlR L lo hi d rest->(∀ p ∈ rest,p ∉ d.left->QG P H d.ops af.tm d.al p) ->
  ∃ a' w' L' rest' listed',Steps P (lone (b.atR a (.inRegion d.ops rest :: k)) cs w) (lone (b.atR a' (.inRegion d.ops (x :: rest') :: k)) cs w')/\zH w0 G L' H w'/\Lam.ext lo L L'/\FB L' af b a'/\DrR G L' af d a' (x :: rest') listed'/\AlR L' lo hi d (x :: rest')/\(∀ p ∈ rest',p ∉ d.left->QG P H d.ops af.tm d.al p)
 | [],_,_,_,_,_,_,hD,_,_=>by have:=hD.left x hxl; cases this
 | h :: rest',listed,L,a,w,hH,hB,hD,hA,hst=>by
  by_cases e:h = x
  ·subst e
   exact ⟨a,w,L,rest',listed,Steps.refl _ _,hH,Lam.ext_refl _ _,hB,hD,hA,fun p hp hpl=>hst p (zyx _ hp) hpl⟩
  ·have hpl:h ∉ d.left:=by
    intro hl
    rcases hafter h hl with q | q
    ·exact e q
    ·cases hord:hD.ord with
     | cons hr hk =>
      have h1:=zex hD.cl hr q
      have h2:=unlisted_of (hD.ord.unlisted x (hD.left x hxl))
      rw [h1] at h2; cases h2
   obtain ⟨a1,w1,L1,l1,s1,h1,e1,b1,d1,al1⟩:=zjn (P:=P) (k:=k) (cs:=cs) hH hB hD hA hG hhi rfl hpl (hst h (by simp) hpl)
   obtain ⟨a',w',L',r',l',s2,h2,e2,b2,d2,al2,st2⟩:=zmA hG hhi hxl hafter rest' l1 L1 a1 w1 h1 b1 d1 al1 fun p hp=>hst p (zyx _ hp)
   exact ⟨a',w',L',r',l',Steps.head s1 s2,h2,Lam.ext_trans e1 e2,b2,d2,al2,st2⟩
theorem zjo {lo hi:Nat} (hG:G <= lo) (hhi:hi <= H.nx) (hnil:d.left = []) :
  ∀ (rest:List Nat) (listed:Array Bool) (L:Lam) (a:Act) (w:World),zH w0 G L H w->FB L af b a->DrR G L af d a rest listed->AlR L lo hi d rest->(∀ p ∈ rest,p ∉ d.left->QG P H d.ops af.tm d.al p) ->
  ∃ a' w' L',Steps P (lone (b.atR a (.inRegion d.ops rest :: k)) cs w) (lone (b.atR a' k) cs w')/\zH w0 G L' H w'/\Lam.ext lo L L'/\FB L' af b a'/\TR L' af.tm a'.tmps
 | [],_,L,a,w,hH,hB,hD,_,_=>⟨a,w,L,.one stepR_region_end,hH,Lam.ext_refl _ _,hB,fun s=>hD.slots s fun p o hp=>by cases hp⟩
 | h :: rest',listed,L,a,w,hH,hB,hD,hA,hst=>by
  have hpl:h ∉ d.left:=by rw [hnil]; simp
  obtain ⟨a1,w1,L1,l1,s1,h1,e1,b1,d1,al1⟩:=zjn (P:=P) (k:=k) (cs:=cs) hH hB hD hA hG hhi rfl hpl (hst h (by simp) hpl)
  obtain ⟨a',w',L',s2,h2,e2,b2,t2⟩:=zjo hG hhi hnil rest' l1 L1 a1 w1 h1 b1 d1 al1 fun p hp=>hst p (zyx _ hp)
  exact ⟨a',w',L',Steps.head s1 s2,h2,Lam.ext_trans e1 e2,b2,t2⟩
end
end Go.Run
noncomputable section
namespace Go.Run
open Go.RowKit
section
variable {P:Program} {F:T Func} {w0:World} {G:Nat} {L:Lam} {H:AH} {w:World} {af:AFr} {d:Dr} {a:Act} {rest:List Nat} {listed:Array Bool}
theorem zeA {tm:T Value} {s:Nat} {v:Value} (h:zq s = true):ZB (putA tm (some s) v) s = v:=by
 unfold ZB putA
 rw [T.get_set h,if_pos rfl]; rfl
theorem Qm {tm:T Value} {o:Option Nat} {s:Nat} {v:Value} (hsm:∀ s',o = some s'->zq s' = true) (h:o ≠ some s):ZB (putA tm o v) s = ZB tm s:=by
 cases o with
 | none=>rfl
 | some e =>
  unfold ZB putA
  rw [T.get_set (hsm e rfl),if_neg (fun q=>h (by rw [q]))]
theorem zs7 {ops:Array Oper} {left:List Nat} (hup:∀ (p:Nat) (o:Oper),ops[p]? = some o->p ∉ left->∀ e ∈ o.after,Region.binds .any e = true->e.on ∉ left) {i:Nat}:∀ (fuel j:Nat),ancB ops fuel j i = true->j ∉ left->i ∉ left
 | 0,_,h,_=>by simp [ancB] at h
 | fuel + 1,j,h,hj=>by
  simp only [ancB] at h
  split at h
  ·rename_i o ho
   rw [List.any_eq_true] at h
   obtain ⟨e,he,h⟩:=h
   simp only [zyL,Bool.or_eq_true,beq_iff_eq] at h
   have hl:=hup j o ho hj e (by simpa using he) h.1
   rcases h.2 with h2 | h2
   ·rw [<- h2]; exact hl
   ·exact zs7 hup fuel e.on h2 hl
  ·cases h
theorem zfo {o:Oper} {left:List Nat} (h:QF o left = true):∀ e ∈ o.after,Region.binds .any e = true->e.on ∉ left:=by
 intro e he hb
 unfold QF at h
 rw [zyS] at h
 have:=h e (by simpa using he)
 rw [hb] at this
 simpa using this
theorem DrR.quick (h:DrR G L af d a rest listed) {i:Nat} {o:Oper} (hi:i ∈ d.left) (ho:d.ops[i]? = some o) (hdep:QF o d.left = true) (hnp:zkz d.ops o = false) (v:Value) (al:List (Nat × Nat)) :
  DrR G L { af with tm:=putA af.tm o.dst v,dr:=some { d with left:=d.left.erase i,al:=al } } { d with left:=d.left.erase i,al:=al } a rest listed:=by
 refine ⟨h.ord,h.size,h.cl,fun j hj=>h.left j (List.mem_of_mem_erase hj),h.nd.erase i,fun p op hp hpl e he hb=>?_,h.ok,fun q hq hql oq hoq=>?_,fun s hs=>?_⟩
 ·intro hm
  have hm':=List.mem_of_mem_erase hm
  by_cases q:p = i
  ·subst q
   rw [ho] at hp; cases hp
   exact zfo hdep e he hb hm'
  ·refine h.up p op hp (fun hq=>hpl ?_) e he hb hm'
   exact (List.mem_erase_of_ne q).2 hq
 ·by_cases e:q = i
  ·subst e; rw [ho] at hoq; cases hoq; exact hnp
  ·exact h.pin q hq (fun hx=>hql ((List.mem_erase_of_ne e).2 hx)) oq hoq
 ·have hsm:∀ s',o.dst = some s'->zq s' = true:=fun s' hs'=>(zaS (yU h.ok ho).2.1 hs').2
  have hne:o.dst ≠ some s:=hs i o (h.left i hi) (by
   intro hq
   exact (List.Nodup.not_mem_erase h.nd) hq) ho
  show VR L (ZB (putA af.tm o.dst v) s) _
  rw [Qm hsm hne]
  refine h.slots s fun p op hp hpl hop=>hs p op hp (fun hq=>hpl (List.mem_of_mem_erase hq)) hop
theorem zdD (h:DrR G L af d a rest listed) {i:Nat} {o:Oper} (hi:i ∈ d.left) (ho:d.ops[i]? = some o) (hnp:zkz d.ops o = false) (v:Value) {al:List (Nat × Nat)} {p:Nat} (hpl:p ∉ d.left) (hst:QG P H d.ops af.tm al p):QG P H d.ops (putA af.tm o.dst v) al p:=by
 intro op hop
 have hsm:∀ s',o.dst = some s'->zq s' = true:=fun s' hs'=>(zaS (yU h.ok ho).2.1 hs').2
 have hpi:p ≠ i:=fun q=>hpl (q ▸ hi)
 have hk:qZ P H d.ops (putA af.tm o.dst v) op = qZ P H d.ops af.tm op:=zdB fun s hs=>by
  refine Qm hsm fun hd=>?_
  obtain ⟨_,ha⟩:=((yU h.ok hop).2.2.2.2 i o s ho hd).2 hs
  rcases ha with ha | ⟨hp,_⟩
  ·exact zs7 h.up _ p ha hpl hi
  ·rw [hnp] at hp; cases hp
 have hdst:∀ s,op.dst = some s->ZB (putA af.tm o.dst v) s = ZB af.tm s:=fun s hs=>Qm hsm fun hd=>((yU h.ok hop).2.2.2.2 i o s ho hd).1 hpi hs
 have:=hst op hop
 rw [hk]
 cases hq:qZ P H d.ops af.tm op with
 | skip=>rw [hq] at this; exact fun s hs=>by rw [hdst s hs]; exact this s hs
 | val u=>rw [hq] at this; exact fun s hs=>by rw [hdst s hs]; exact this s hs
 | lay ob mk =>
  rw [hq] at this
  obtain ⟨b,ob',q1,q2,q3,q4⟩:=this
  exact ⟨b,ob',q1,q2,q3,fun s hs=>by rw [hdst s hs]; exact q4 s hs⟩
 | eff=>rw [hq] at this; exact this.elim
theorem zrd (h:DrR G L af d a rest listed) {i:Nat} {o:Oper} (ho:d.ops[i]? = some o) (v:Value):qZ P H d.ops (putA af.tm o.dst v) o = qZ P H d.ops af.tm o:=by
 have hsm:∀ s',o.dst = some s'->zq s' = true:=fun s' hs'=>(zaS (yU h.ok ho).2.1 hs').2
 refine zdB fun s hs=>Qm hsm fun hd=>?_
 exact ((yU h.ok ho).2.2.2.2 i o s ho hd).2 hs |>.1 rfl
theorem zfp (h:DrR G L af d a rest listed) {i:Nat} {o:Oper} (ho:d.ops[i]? = some o) {v:Value} {al:List (Nat × Nat)} (hk:(qZ P H d.ops af.tm o = .skip/\v = undef) ∨ qZ P H d.ops af.tm o = .val v):QG P H d.ops (putA af.tm o.dst v) al i:=by
 intro op hop
 rw [ho] at hop; cases hop
 rw [zrd h ho v]
 have hd:∀ s,o.dst = some s->ZB (putA af.tm o.dst v) s = v:=fun s hs=>by
  rw [hs]; exact zeA (zaS (yU h.ok ho).2.1 hs).2
 rcases hk with ⟨hk,rfl⟩ | hk
 ·rw [hk]; exact fun s hs=>by rw [hd s hs]
 ·rw [hk]; exact fun s hs=>by rw [hd s hs]
theorem zbq {all:List Nat} {tm:T Value} {ops:Array Oper}:∀ (l:List Nat) {i:Nat} {o:Oper} {k:Kind},Za P H tm ops all l = some (i,o,k)->i ∈ l/\ops[i]? = some o/\QF o all = true/\qZ P H ops tm o = k/\k ≠ .eff
 | [],_,_,_,h=>by simp [Za] at h
 | j :: l,i,o,k,h=>by
  simp only [Za] at h
  have ih:=fun (h:Za P H tm ops all l = some (i,o,k))=>zbq l h
  split at h
  ·obtain ⟨q1,q2⟩:=ih h; exact ⟨zyx _ q1,q2⟩
  ·rename_i o' ho'
   cases hd:QF o' all with
   | false=>rw [hd] at h; obtain ⟨q1,q2⟩:=ih h; exact ⟨zyx _ q1,q2⟩
   | true =>
    rw [hd] at h
    simp only [cond_true] at h
    split at h
    ·obtain ⟨q1,q2⟩:=ih h; exact ⟨zyx _ q1,q2⟩
    ·rename_i hne
     simp only [zyO,Prod.mk.injEq] at h
     obtain ⟨rfl,rfl,rfl⟩:=h
     exact ⟨by simp,ho',hd,rfl,hne⟩
theorem Y5 {all:List Nat} {ops:Array Oper}:∀ (l:List Nat) {i:Nat} {o:Oper},Z8 ops all l = some (i,o)->i ∈ l/\ops[i]? = some o/\QF o all = true
 | [],_,_,h=>by simp [Z8] at h
 | j :: l,i,o,h=>by
  simp only [Z8] at h
  split at h
  ·obtain ⟨q1,q2⟩:=Y5 l h; exact ⟨zyx _ q1,q2⟩
  ·rename_i o' ho'
   cases hd:QF o' all with
   | false=>rw [hd] at h; obtain ⟨q1,q2⟩:=Y5 l h; exact ⟨zyx _ q1,q2⟩
   | true =>
    rw [hd] at h
    simp only [cond_true,zyO,Prod.mk.injEq] at h
    obtain ⟨rfl,rfl⟩:=h
    exact ⟨by simp,ho',hd⟩
theorem DrR.effect {x:Nat} (h:DrR G L af d a (x :: rest) listed) (hsz:a.tmps.size = af.nt) {L':Lam} (hl:L.le L') {o:Oper} (hx:x ∈ d.left) (ho:d.ops[x]? = some o) {v y:Value} (hv:VR L' v y) (hdep:QF o d.left = true) (c:Option Nat) :
  DrR G L' { af with tm:=putA af.tm o.dst v,dr:=some { d with left:=d.left.erase x,cur:=c } } { d with left:=d.left.erase x,cur:=c } (a.put o.dst y) rest (listed.setIfInBounds x true):=by
 cases hord:h.ord with
 | cons hr hk =>
 have hxr:=zaR.head_not_mem hr hk
 have hsm:∀ s',o.dst = some s'->zq s' = true:=fun s' hs'=>(zaS (yU h.ok ho).2.1 hs').2
 refine ⟨hk,by simpa using h.size,h.cl.step hr,fun i hi=>?_,h.nd.erase x,fun p op hp hpl e he hb=>?_,h.ok,fun q hq hql=>h.pin q (zyx _ hq) (fun hx=>hql ((List.mem_erase_of_ne (fun (e:q = x)=>hxr (by rw [<- e]; exact hq))).2 hx)),fun s hs=>?_⟩
 ·have hne:i ≠ x:=fun q=>List.Nodup.not_mem_erase h.nd (q ▸ hi)
  rcases List.mem_cons.1 (h.left i (List.mem_of_mem_erase hi)) with q | q
  ·exact absurd q hne
  ·exact q
 ·intro hm
  have hm':=List.mem_of_mem_erase hm
  by_cases q:p = x
  ·subst q
   rw [ho] at hp; cases hp
   exact zfo hdep e he hb hm'
  ·exact h.up p op hp (fun hq=>hpl ((List.mem_erase_of_ne q).2 hq)) e he hb hm'
 ·show VR L' (ZB (putA af.tm o.dst v) s) _
  by_cases hd:o.dst = some s
  ·have:=zaS (yU h.ok ho).2.1 hd
   rw [hd,zez (by rw [hsz]; exact this.1),zeA this.2]
   exact hv
  ·rw [zey hd,Qm hsm hd]
   refine (h.slots s fun p op hp hpl hop=>?_).mono hl
   rcases List.mem_cons.1 hp with rfl | hp
   ·exact absurd hx hpl
   ·exact hs p op hp (fun hq=>hpl (List.mem_of_mem_erase hq)) hop
theorem zdE {tm:T Value} {d':Dr} {x:Nat} (h:zcf P H tm d' x = true) {listed:Array Bool} {rest:List Nat} {ops:Array Oper} (hops:d'.ops = ops) (hcl:Cl ops listed) (hr:x ∈ Region.ready .any ops listed) (hk:zaR ops (listed.setIfInBounds x true) rest) :
  ∀ p ∈ rest,p ∉ d'.left->QG P H d'.ops tm d'.al p:=by
 subst hops
 intro p hp hpl
 unfold zcf at h
 simp only at h
 rw [zyS] at h
 rcases Nat.lt_or_ge p d'.ops.size with hlt | hge
 ·have:=h p (by simpa using hlt)
  simp only [Bool.or_eq_true,beq_iff_eq] at this
  rcases this with ((q | q) | q) | q
  ·exact absurd (by simpa using q) hpl
  ·subst q; exact absurd hp (zaR.head_not_mem hr hk)
  ·have h1:=zex hcl hr (zce q)
   have h2:=hk.unlisted p hp
   have h3:=unlisted_of h2
   rw [getD_set_true h1] at h3; cases h3
  ·exact zjm q
 ·intro o ho
  rw [Array.getElem?_eq_none hge] at ho; cases ho
end
end Go.Run
noncomputable section
namespace Go.Run
open Go.RowKit
def QJ (P:Program) (G:Nat) (L:Lam) (H:AH) (af:AFr) (a:Act) (todo:List Item):Prop :=
 match af.dr with
 | none=>IR L af.todo todo/\TR L af.tm a.tmps
 | some d=>d.cur = none/\∃ rest listed k,todo = .inRegion d.ops rest :: k/\IR L af.todo k/\DrR G L af d a rest listed/\(∀ p ∈ rest,p ∉ d.left->QG P H d.ops af.tm d.al p)/\AlR L af.lo H.nx d rest
def zwE (P:Program) (G:Nat) (L:Lam) (H:AH) (af:AFr) (cf:Frame):Prop :=
 ∃ b a,FB L af b a/\((af.ret = false/\∃ todo,cf = b.atR a todo/\QJ P G L H af a todo) ∨ (af.ret = true/\b.roundOf = none/\TR L af.tm a.tmps/\∃ todo,cf = { b.atR a todo with mode:=.returning }))
def zbr (G:Nat) (L:Lam) (hi:Nat) (af:AFr) (cf:Frame):Prop :=
 af.ret = false/\∃ b a todo,FB L af b a/\cf = b.atR a todo/\match af.dr with
 | none=>IR L af.todo todo/\TR L af.tm a.tmps
 | some d=>∃ x,d.cur = some x/\x ∈ d.left/\(∃ o,d.ops[x]? = some o/\QF o d.left = true)/\∃ rest listed k,todo = .inRegion d.ops (x :: rest) :: k/\IR L af.todo k/\DrR G L af d a (x :: rest) listed/\AlR L af.lo hi d (x :: rest)
def zvq (L:Lam) (af:AFr) (cf:Frame):Prop:=af.ret = true/\∃ b a todo,FB L af b a/\b.roundOf = none/\TR L af.tm a.tmps/\cf = { b.atR a todo with mode:=.returning }
theorem zvq.mono {L L':Lam} (hl:L.le L') {af:AFr} {cf:Frame} (h:zvq L af cf):zvq L' af cf:=by
 obtain ⟨h0,b,a,todo,h1,h2,h3,h4⟩:=h
 exact ⟨h0,b,a,todo,h1.mono hl,h2,h3.mono hl,h4⟩
inductive CR (G:Nat) (L:Lam):Nat->List AFr->List Frame->Prop where
 | nil {hi:Nat}:CR G L hi [] []
 | cons {hi:Nat} {af:AFr} {cf:Frame} {afs:List AFr} {cfs:List Frame} (h:zbr G L hi af cf ∨ zvq L af cf) (h1:af.lo <= hi) (h2:G <= af.lo) (k:CR G L af.lo afs cfs):CR G L hi (af :: afs) (cf :: cfs)
def Qc:AFr->List AFr->FuncId
 | af,[]=>af.fn
 | _,c :: cs=>Qc c cs
def Sim (P:Program) (w0:World) (G:Nat) (cs0:List Frame) (f0:FuncId) (c:Cfg) (m:Machine):Prop :=
 ∃ L cf cfs w,m = lone cf (cfs++cs0) w/\zH w0 G L c.H w/\zwE P G L c.H c.fr cf/\CR G L c.fr.lo c.cs cfs/\c.fr.lo <= c.H.nx/\G <= c.fr.lo/\Qc c.fr c.cs = f0
section
variable {P:Program} {F:T Func} {w0:World} {G:Nat} {L:Lam} {H:AH} {w:World} {cs0:List Frame} {f0:FuncId}
theorem DrR.mono {af:AFr} {d:Dr} {a:Act} {rest:List Nat} {listed:Array Bool} (h:DrR G L af d a rest listed) {L':Lam} (hl:L.le L'):DrR G L' af d a rest listed :=
 ⟨h.ord,h.size,h.cl,h.left,h.nd,h.up,h.ok,h.pin,fun s hs=>(h.slots s hs).mono hl⟩
theorem AlR.ext {lo hi:Nat} {d:Dr} {rest:List Nat} (h:AlR L lo hi d rest) {L':Lam} {n:Nat} (he:Lam.ext n L L') (hn:hi <= n) {hi':Nat} (hh:hi <= hi'):AlR L' lo hi' d rest :=
 ⟨h.keys,fun p b hp hl hk=>by
  obtain ⟨a1,a2,a3⟩:=h.free p b hp hl hk
  exact ⟨by rw [he.2 b (by omega)]; exact a1,a2,by omega⟩,h.dist⟩
theorem zbr.ext {hi:Nat} {af:AFr} {cf:Frame} (h:zbr G L hi af cf) {L':Lam} (he:Lam.ext hi L L'):zbr G L' hi af cf:=by
 obtain ⟨h0,b,a,todo,h1,h2,h3⟩:=h
 refine ⟨h0,b,a,todo,h1.mono he.1,h2,?_⟩
 cases hd:af.dr with
 | none=>rw [hd] at h3; exact ⟨h3.1.mono he.1,h3.2.mono he.1⟩
 | some d =>
  rw [hd] at h3
  obtain ⟨x,q1,q2,q3,rest,listed,k,q4,q5,q6,q7⟩:=h3
  exact ⟨x,q1,q2,q3,rest,listed,k,q4,q5.mono he.1,q6.mono he.1,q7.ext he (Nat.le_refl _) (Nat.le_refl _)⟩
theorem CR.ext {hi:Nat} {afs:List AFr} {cfs:List Frame} (h:CR G L hi afs cfs):∀ {L':Lam},Lam.ext hi L L'->CR G L' hi afs cfs:=by
 induction h with
 | nil=>intro L' _; exact .nil
 | cons h h1 h2 _ ih=>intro L' he; exact .cons (h.imp (fun h=>h.ext he) (fun h=>h.mono he.1)) h1 h2 (ih (Lam.ext_mono he h1))
theorem zjp (hH:zH w0 G L H w) {tm:T Value} {a:Act} (ht:TR L tm a.tmps) {o:Oper} (hok:zfi G o = true):∀ x ∈ o.op.operands,VR L (aev tm x) (a.eval x):=by
 intro x hx
 unfold zfi at hok
 rw [zyS] at hok
 have hx1:=hok x (by simpa using hx)
 cases x with
 | tmp s=>exact ht s
 | const v=>exact VR.refl_flat hx1
 | global g =>
  have hg:g + 1 < G:=by simpa using hx1
  have:=VR.ptr (L:=L) (o:=0) (hH.glob g hg)
  simpa [aev,Act.eval] using this
 | func f=>exact VR.refl_flat (by rfl)
theorem TR.put {tm:T Value} {a:Act} {nt:Nat} (ht:TR L tm a.tmps) (hsz:a.tmps.size = nt) {o:Oper} (hd:Y4 nt o = true) {v x:Value} (hv:VR L v x):TR L (putA tm o.dst v) (a.put o.dst x).tmps:=by
 intro s
 by_cases h:o.dst = some s
 ·have:=zaS hd h
  rw [h,zez (by rw [hsz]; exact this.1),zeA this.2]
  exact hv
 ·rw [zey h,Qm (fun s' hs'=>(zaS hd hs').2) h]
  exact ht s
theorem zg8 {tm:T Value} {a:Act} (ht:TR L tm a.tmps) {ops:Array Oper} {o:Oper}:Region.wanted o (yielded ops a.tmps) = Region.wanted o (qh ops tm):=by
 unfold Region.wanted
 cases hg:o.guard with
 | none=>rfl
 | some gw =>
  obtain ⟨g,want⟩:=gw
  simp only
  rw [zfm fun s _=>ht s]
theorem zmB (hH:zH w0 G L H w) {tm:T Value} {tmps:Array Value} (ht:TR L tm tmps) {g:ResultVar->Sem Value} (g1:∀ t,g (.tmp t) = pure (tmps.getD t undef)) (g2:∀ p t,g (.cell p t) = do loadVar t (<- asAddr (tmps.getD p undef)))
  {r:ResultVar} {v:Value} (hv:zgj P H tm r = some v):∃ x,(g r).run P w = .ok x w/\VR L v x:=by
 cases r with
 | tmp t =>
  simp only [zgj,zyO] at hv
  subst hv
  rw [g1]
  exact ⟨_,rfl,ht t⟩
 | cell p t =>
  rw [g2]
  simp only [zgj] at hv
  obtain ⟨ad,e,y,q1,q2⟩:=zcO hH hv (ht p)
  exact ⟨y,by rw [e]; simp only [asAddr,Sem.run_bind,Sem.run_pure,Result.andThen_ok]; exact q1,q2⟩
theorem zdF (hH:zH w0 G L H w) {tm:T Value} {tmps:Array Value} (ht:TR L tm tmps) {g:ResultVar->Sem Value} (g1:∀ t,g (.tmp t) = pure (tmps.getD t undef)) (g2:∀ p t,g (.cell p t) = do loadVar t (<- asAddr (tmps.getD p undef))) :
  ∀ (rs:List ResultVar) (vs:List Value),zav P H tm rs = some vs->∃ xs:List Value,(rs.mapM g).run P w = .ok xs w/\LR L vs xs
 | [],vs,hv=>by
  simp only [zav,zyO] at hv; subst hv
  exact ⟨[],by simp,LR.nil L⟩
 | r :: rs,vs,hv=>by
  simp only [zav] at hv
  split at hv
  ·rename_i v vs' h1 h2
   simp only [zyO] at hv; subst hv
   obtain ⟨x,q1,q2⟩:=zmB hH ht g1 g2 h1
   obtain ⟨xs,q3,q4⟩:=zdF hH ht g1 g2 rs vs' h2
   refine ⟨x :: xs,?_,q4.cons q2⟩
   simp only [List.mapM_cons,Sem.run_bind,q1,q3,Result.andThen_ok,Sem.run_pure]
  ·cases hv
theorem zmC (hH:zH w0 G L H w) {tm:T Value} {tmps:Array Value} (ht:TR L tm tmps) {fn:Func} {v:Value} (hv:zvo P H tm fn.results.toList = some v):∃ x,(results fn tmps).run P w = .ok x w/\VR L v x:=by
 have key:∀ vs,zav P H tm fn.results.toList = some vs->∃ xs:List Value,(results fn tmps).run P w = .ok (if h:xs.toArray.size = 1 then xs.toArray[0] else .tuple xs.toArray) w/\LR L vs xs:=by
  intro vs hvs
  have yR:∀ g:ResultVar->Sem Value,(∀ t,g (.tmp t) = pure (tmps.getD t undef))->(∀ p t,g (.cell p t) = do loadVar t (<- asAddr (tmps.getD p undef))) ->
    ∃ xs:List Value,(do let vs <- fn.results.mapM g; pure (if h:vs.size = 1 then vs[0] else .tuple vs):Sem Value).run P w = .ok (if h:xs.toArray.size = 1 then xs.toArray[0] else .tuple xs.toArray) w/\LR L vs xs:=by
   intro g g1 g2
   obtain ⟨xs,q1,q2⟩:=zdF hH ht g1 g2 _ vs hvs
   refine ⟨xs,?_,q2⟩
   have hmm:(fn.results.mapM g).run P w = .ok xs.toArray w:=by
    rw [<- Array.toArray_toList (xs:=fn.results),List.mapM_toArray]
    simp [q1]
   simp only [Sem.run_bind,hmm,Result.andThen_ok,Sem.run_pure]
  exact yR (fun r=>match r with | .tmp t=>pure (tmps.getD t undef) | .cell p t=>do loadVar t (<- asAddr (tmps.getD p undef))) (fun _=>rfl) (fun _ _=>rfl)
 unfold zvo at hv
 split at hv
 ·rename_i u hvs
  cases hv
  obtain ⟨xs,q1,q2⟩:=key _ hvs
  obtain ⟨x,xs',rfl,h1,h2⟩:=q2.cons_inv
  have:=h2.nil_inv; subst this
  exact ⟨x,by simpa using q1,h1⟩
 ·rename_i vs hn hvs
  cases hv
  obtain ⟨xs,q1,q2⟩:=key _ hvs
  have hlen:¬ xs.toArray.size = 1:=by
   intro h
   have:vs.length = 1:=by rw [q2.1]; simpa using h
   match vs,this with
   | [u],_=>exact hn u rfl
  rw [dif_neg hlen] at q1
  exact ⟨_,q1,.tuple q2.toArray.1 q2.toArray.2⟩
 ·cases hv
theorem zeB (hF:Yn P F) {f:FuncId} {fn:Func} {body:Code} (hf:F.get f = some fn) (hb:fn.body = some body) {args args':List Value} (hr:LR L args args') (hlen:args.length <= fn.ntmps) (_hsm:zq fn.ntmps = true) :
  zwE P G L H { fn:=f,nt:=fn.ntmps,tm:=T.setRow .nil 0 args,todo:=[.code body],dr:=none,defers:=[],ret:=false,rnd:=none,lo:=H.nx } (Frame.enter P f args'.toArray .normal):=by
 obtain ⟨h1,h2,h3⟩:=hF f fn hf
 let b:Frame:={ (default:Frame) with fn:=f,kind:=.normal,roundOf:=none }
 have hal:args'.length <= fn.ntmps:=by rw [<- hr.1]; exact hlen
 refine ⟨b,{ tmps:=args'.toArray++Array.replicate (fn.ntmps - args'.toArray.size) undef,defers:=[] },⟨rfl,rfl,?_,.nil,.none⟩,.inl ⟨rfl,[.code body],?_,?_,?_⟩⟩
 ·show (args'.toArray++Array.replicate (fn.ntmps - args'.toArray.size) undef).size = fn.ntmps
  simp; omega
 ·simp [Frame.enter,Frame.atR,h1,hb,b]
 ·exact .same rfl .nil
 ·intro s
  show VR L (ZB (T.setRow .nil 0 args) s) _
  unfold ZB
  rw [T.get_setRow args .nil 0 rfl]
  rw [Array.getD_eq_getD_getElem?,Array.getElem?_append]
  by_cases hs:s < args.length
  ·rw [if_pos ⟨Nat.zero_le _,by omega⟩,if_pos (by rw [List.size_toArray,<- hr.1]; exact hs)]
   obtain ⟨x,q1,q2⟩:=hr.get (List.getElem?_eq_getElem hs)
   simp only [Nat.sub_zero,List.getElem?_toArray,q1,List.getElem?_eq_getElem hs,Option.getD_some]
   exact q2
  ·rw [if_neg (by omega),if_neg (by rw [List.size_toArray,<- hr.1]; exact hs),T.get_nil]
   simp only [Option.getD_none,Array.getElem?_replicate]
   split <;> exact VR.undef L
end
end Go.Run
noncomputable section
namespace Go.Run
open Go.RowKit
section
variable {P:Program} {F:T Func} {w0:World} {G:Nat} {L:Lam} {H:AH} {w:World} {cs0:List Frame} {f0:FuncId}
def Met (P:Program) (w0:World) (G:Nat) (cs0:List Frame) (f0:FuncId) (l:List Cfg) (m:Machine):Prop:=∃ c' ∈ l,∃ m',Steps P m m'/\Sim P w0 G cs0 f0 c' m'
theorem zg9 {c:AFr} {cs:List AFr} {cf:Frame} {cfs:List Frame} {hi:Nat} {v x:Value} (hH:zH w0 G L H w) (hW:zbr G L hi c cf) (hlo:c.lo <= hi) (hhi:hi <= H.nx) (hG:G <= c.lo) (hC:CR G L c.lo cs cfs) (hv:VR L v x) (hb:Qc c cs = f0) (hne:Q0 P c cs H v ≠ []) :
  ∃ c' ∈ Q0 P c cs H v,Sim P w0 G cs0 f0 c' (lone (cf.finish x) (cfs++cs0) w):=by
 obtain ⟨hret,b,a,todo,hB,rfl,hm⟩:=hW
 generalize hq:Q0 P c cs H v = l at hne
 unfold Q0 at hq
 cases hd:c.dr with
 | some d =>
  rw [hd] at hm hq
  obtain ⟨y,q1,q2,⟨o,q3,q4⟩,rest,listed,k,rfl,q5,q6,q7⟩:=hm
  simp only [q1,q3] at hq
  cases hcond:(Y4 c.nt o && zcf P H (putA c.tm o.dst v) { d with left:=d.left.erase y,cur:=none } y) with
  | false=>rw [hcond] at hq; exact absurd hq.symm hne
  | true =>
   rw [hcond] at hq
   simp only [cond_true] at hq
   subst hq
   simp only [zyL] at hcond
   refine ⟨_,List.mem_singleton.2 rfl,L,_,cfs,w,rfl,hH,?_,hC,Nat.le_trans hlo hhi,hG,?_⟩
   ·rw [QH q3]
    have he:=q6.effect hB.size (Lam.le_refl L) q2 q3 hv q4 none
    refine ⟨b,a.put o.dst x,⟨hB.fn,hB.kind,(hB.put o.dst x).size,(hB.put o.dst x).defers,hB.rnd⟩,.inl ⟨hret,_,rfl,?_⟩⟩
    refine ⟨rfl,rest,_,k,rfl,q5,⟨he.ord,he.size,he.cl,he.left,he.nd,he.up,he.ok,he.pin,he.slots⟩,?_,?_⟩
    ·cases hord:q6.ord with
     | cons hr hk=>exact zdE hcond.2 rfl q6.cl hr hk
    ·refine ⟨fun p bb hlk hm=>q7.keys p bb hlk (List.mem_of_mem_erase hm),fun p bb hp hpl hlk=>?_,fun p r bb hp hpl hr hrl h1 h2=>?_⟩
     ·have hne':p ≠ y:=by
       rintro rfl
       cases hord:q6.ord with
       | cons hr hk=>exact zaR.head_not_mem hr hk hp
      obtain ⟨f1,f2,f3⟩:=q7.free p bb (zyx _ hp) (fun hq=>hpl ((List.mem_erase_of_ne hne').2 hq)) hlk
      exact ⟨f1,f2,Nat.lt_of_lt_of_le f3 hhi⟩
     ·have key:∀ p,p ∈ rest->p ∉ d.left.erase y->p ∉ d.left:=fun p hp hpl hq=>by
       have hne':p ≠ y:=by
        rintro rfl
        cases hord:q6.ord with
        | cons hr hk=>exact zaR.head_not_mem hr hk hp
       exact hpl ((List.mem_erase_of_ne hne').2 hq)
      exact q7.dist p r bb (zyx _ hp) (key p hp hpl) (zyx _ hr) (key r hr hrl) h1 h2
   ·cases cs <;> exact hb
 | none =>
  rw [hd] at hm hq
  obtain ⟨hI,hT⟩:=hm
  simp only at hq
  split at hq
  ·rename_i ops i rest k htodo
   split at hq
   ·rename_i o ho
    cases hc:Y4 c.nt o with
    | false=>rw [hc] at hq; exact absurd hq.symm hne
    | true =>
     rw [hc] at hq
     simp only [cond_true] at hq
     subst hq
     rw [htodo] at hI
     cases hI with
     | same hp hk =>
      rename_i k'
      refine ⟨_,List.mem_singleton.2 rfl,L,_,cfs,w,rfl,hH,?_,hC,Nat.le_trans hlo hhi,hG,?_⟩
      ·rw [QH ho]
       refine ⟨b,a.put o.dst x,⟨hB.fn,hB.kind,(hB.put o.dst x).size,(hB.put o.dst x).defers,hB.rnd⟩,.inl ⟨hret,_,rfl,?_⟩⟩
       unfold QJ
       simp only
       exact ⟨.same rfl hk,hT.put hB.size hc hv⟩
      ·cases cs <;> exact hb
   ·exact absurd hq.symm hne
  ·rename_i lp k htodo
   subst hq
   rw [htodo] at hI
   cases hI with
   | same hp hk=>simp [plainI] at hp
   | inR hp hk =>
    rename_i p k'
    refine ⟨_,List.mem_singleton.2 rfl,L,_,cfs,w,rfl,hH,?_,hC,Nat.le_trans hlo hhi,hG,?_⟩
    ·rw [finish_atR_inRangeFunc]
     refine ⟨b,a,⟨hB.fn,hB.kind,hB.size,hB.defers,hB.rnd⟩,.inl ⟨hret,_,rfl,?_⟩⟩
     unfold QJ
     simp only
     exact ⟨.endR hp hk,hT⟩
    ·cases cs <;> exact hb
  ·exact absurd hq.symm hne
theorem zeC (hF:Yn P F) {c:AFr} {cs:List AFr} {cf:Frame} {cfs:List Frame} {args args':List Value} {f:FuncId} {fn:Func} (hH:zH w0 G L H w) (hW:zbr G L H.nx c cf) (hlo:c.lo <= H.nx) (hG:G <= c.lo) (hC:CR G L c.lo cs cfs) (hr:LR L args args')
  (hf:F.get f = some fn) (hlen:args.length <= fn.ntmps) (hsm:zq fn.ntmps = true) (hb:Qc c cs = f0) (hne:zbL F c cs H f args ≠ []) :
  ∃ c' ∈ zbL F c cs H f args,Sim P w0 G cs0 f0 c' (lone (Frame.enter P f args'.toArray .normal) (cf :: cfs++cs0) w):=by
 unfold zbL at hne ⊢
 rw [hf] at hne ⊢
 simp only at hne ⊢
 cases hbody:fn.body with
 | none=>rw [hbody] at hne; exact absurd rfl hne
 | some body =>
  simp only
  refine ⟨_,List.mem_singleton.2 rfl,L,_,cf :: cfs,w,rfl,hH,zeB hF hf hbody hr hlen hsm,.cons (.inl hW) hlo hG hC,Nat.le_refl _,Nat.le_trans hG hlo,hb⟩
theorem zs8 {c:Cfg} {b:Frame} {a:Act} {cfs:List Frame} {todo0 todo1:List Item} {todo':List Item} (hH:zH w0 G L c.H w) (hB:FB L c.fr b a) (hret:c.fr.ret = false) (hd:c.fr.dr = none) (hT:TR L c.fr.tm a.tmps) (hC:CR G L c.fr.lo c.cs cfs) (hlo:c.fr.lo <= c.H.nx) (hG:G <= c.fr.lo) (hb:Qc c.fr c.cs = f0)
  (hs:step P (lone (b.atR a todo0) (cfs++cs0) w) = .next (lone (b.atR a todo1) (cfs++cs0) w)) (hI:IR L todo' todo1):Met P w0 G cs0 f0 [⟨{ c.fr with todo:=todo' },c.cs,c.H⟩] (lone (b.atR a todo0) (cfs++cs0) w):=by
 refine ⟨_,List.mem_singleton.2 rfl,_,.one hs,L,_,cfs,w,rfl,hH,⟨b,a,⟨hB.fn,hB.kind,hB.size,hB.defers,hB.rnd⟩,.inl ⟨hret,todo1,rfl,?_⟩⟩,hC,hlo,hG,?_⟩
 ·unfold QJ
  simp only [hd]
  exact ⟨hI,hT⟩
 ·show Qc { c.fr with todo:=todo' } c.cs = f0
  cases hcs:c.cs with
  | nil=>rw [hcs] at hb; exact hb
  | cons x xs=>rw [hcs] at hb; exact hb
theorem qm {fr fr':AFr} {cs:List AFr} (h:fr'.fn = fr.fn) (hb:Qc fr cs = f0):Qc fr' cs = f0:=by
 cases cs with
 | nil=>simp only [Qc] at hb ⊢; rw [h]; exact hb
 | cons x xs=>exact hb
end
end Go.Run
