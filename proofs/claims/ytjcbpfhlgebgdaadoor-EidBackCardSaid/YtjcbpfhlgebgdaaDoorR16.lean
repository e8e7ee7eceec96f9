import Derived.Test.YtjcbpfhlgebgdaaDoorR15
noncomputable section
namespace Go.Run
open Go.RowKit
inductive DF (L:Lam):List DfA→List Deferred→Prop where
 | nil:DF L [] []
 | cons {b:Nat} {p:Pl} {bs:List DfA} {ds:List Deferred} (h:L b = some p) (k:DF L bs ds):DF L (.coll b :: bs) ({ target:=.collected p.b,args:=#[] } :: ds)
 | clo {f:FuncId} {args cap:List Value} {args' cap':Array Value} {bs:List DfA} {ds:List Deferred} (h1:LR L args args'.toList) (h2:LR L cap cap'.toList) (k:DF L bs ds):DF L (.clo f args cap :: bs) ({ target:=.fn (.func f) cap',args:=args' } :: ds)
theorem DF.mono {L L':Lam} (hl:L.le L') {bs:List DfA} {ds:List Deferred} (h:DF L bs ds):DF L' bs ds:=by
 induction h with
 | nil=>exact .nil
 | cons h _ ih=>exact .cons (hl _ _ h) ih
 | clo h1 h2 _ ih=>exact .clo (h1.mono hl) (h2.mono hl) ih
def kindD (d:Bool):CallKind:=match d with
 | true=>.deferred
 | false=>.normal
inductive RO (L:Lam):Option Nat→Option Nat→Prop where
 | none:RO L none none
 | some {l:Nat} {p:Pl} (h:L l = some p):RO L (some l) (some p.b)
theorem RO.mono {L L':Lam} (hl:L.le L') {a b:Option Nat} (h:RO L a b):RO L' a b:=by
 cases h with
 | none=>exact .none
 | some h=>exact .some (hl _ _ h)
def plainI:Item→Bool
 | .code _ | .inBlock _ | .inLoop _ | .inScope _ | .inRegion _ _ | .beginRound=>true
 | _=>false
inductive IR (L:Lam):List Item→List Item→Prop where
 | nil:IR L [] []
 | same {i:Item} {k k':List Item} (h:plainI i = true) (hk:IR L k k'):IR L (i :: k) (i :: k')
 | inR {l:Nat} {p:Pl} {k k':List Item} (h:L l = some p) (hk:IR L k k'):IR L (.inRangeFunc l :: k) (.inRangeFunc p.b :: k')
 | endR {l:Nat} {p:Pl} {k k':List Item} (h:L l = some p) (hk:IR L k k'):IR L (.endRangeFunc l :: k) (.endRangeFunc p.b :: k')
theorem IR.mono {L L':Lam} (hl:L.le L') {k k':List Item} (h:IR L k k'):IR L' k k':=by
 induction h with
 | nil=>exact .nil
 | same h _ ih=>exact .same h ih
 | inR h _ ih=>exact .inR (hl _ _ h) ih
 | endR h _ ih=>exact .endR (hl _ _ h) ih
theorem IR.exit {L:Lam} {id:Nat} {k k':List Item} (h:IR L k k'):∀ {r:List Item},exitTo id k = some r→∃ r',exitTo id k' = some r'∧IR L r r':=by
 induction h with
 | nil=>intro r hr; simp [exitTo] at hr
 | @same i k k' h hk ih =>
  intro r hr
  cases i with
  | inBlock id' =>
   simp only [exitTo] at hr ⊢
   split at hr
   ·rename_i hc; cases hr; exact ⟨k',by rw [if_pos hc],hk⟩
   ·rename_i hc; rw [if_neg hc]; exact ih hr
  | _=>first | (simp [plainI] at h; done) | (simp only [exitTo] at hr ⊢; exact ih hr)
 | inR h hk ih=>intro r hr; simp only [exitTo] at hr ⊢; exact ih hr
 | endR h hk ih=>intro r hr; simp only [exitTo] at hr ⊢; exact ih hr
theorem IR.goto {L:Lam} {l:Nat} {k k':List Item} (h:IR L k k'):∀ {r:List Item},gotoIn l k = some r→∃ r',gotoIn l k' = some r'∧IR L r r':=by
 induction h with
 | nil=>intro r hr; simp [gotoIn] at hr
 | @same i k k' h hk ih =>
  intro r hr
  cases i with
  | inScope body =>
   simp only [gotoIn] at hr ⊢
   split at hr
   ·rename_i rest hf
    cases hr
    exact ⟨_,rfl,.same rfl (.same rfl hk)⟩
   ·exact ih hr
  | _=>first | (simp [plainI] at h; done) | (simp only [gotoIn] at hr ⊢; exact ih hr)
 | inR h hk ih=>intro r hr; simp only [gotoIn] at hr ⊢; exact ih hr
 | endR h hk ih=>intro r hr; simp only [gotoIn] at hr ⊢; exact ih hr
structure FB (L:Lam) (af:AFr) (b:Frame) (a:Act):Prop where
 fn:b.fn = af.fn
 kind:b.kind = kindD af.dfd
 size:a.tmps.size = af.nt
 defers:DF L af.defers a.defers
 rnd:RO L af.rnd b.roundOf
theorem FB.mono {L L':Lam} (hl:L.le L') {af:AFr} {b:Frame} {a:Act} (h:FB L af b a):FB L' af b a:=⟨h.fn,h.kind,h.size,h.defers.mono hl,h.rnd.mono hl⟩
structure DrR (G:Nat) (L:Lam) (af:AFr) (d:Dr) (a:Act) (rest:List Nat) (listed:Array Bool):Prop where
 ord:OrdR d.ops listed rest
 size:listed.size = d.ops.size
 cl:Cl d.ops listed
 left:∀ i ∈ d.left,i ∈ rest
 nd:d.left.Nodup
 up:∀ (p:Nat) (o:Oper),d.ops[p]? = some o→p ∉ d.left→∀ e ∈ o.after,Region.binds .any e = true→e.on ∉ d.left
 ok:regOK G af.nt d.ops = true
 pin:∀ q ∈ rest,q ∉ d.left→∀ oq,d.ops[q]? = some oq→pinO d.ops oq = false
 slots:∀ s,(∀ (p:Nat) (o:Oper),p ∈ rest→p ∉ d.left→d.ops[p]? = some o→o.dst ≠ some s)→VR L (tget af.tm s) (a.tmps.getD s undef)
def Stands (P:Program) (H:AH) (ops:Array Oper) (tm:T Value) (al:List (Nat × Nat)) (p:Nat):Prop :=
 ∀ o,ops[p]? = some o→match kindOf P H ops tm o with
  | .skip=>∀ d,o.dst = some d→tget tm d = undef
  | .val v=>∀ d,o.dst = some d→tget tm d = v
  | .lay ob mk=>∃ b ob',al.lookup p = some b∧H.get b = some ob'∧oeq ob' ob = true∧∀ d,o.dst = some d→tget tm d = mk b
  | .eff=>False
theorem stands_of {P:Program} {H:AH} {ops:Array Oper} {tm:T Value} {al:List (Nat × Nat)} {p:Nat} (h:standsA P H ops tm al p = true):Stands P H ops tm al p:=by
 intro o ho
 unfold standsA at h
 rw [ho] at h
 simp only at h
 split at h
 ·rename_i hk
  rw [hk]
  intro d hd
  rw [hd] at h
  exact veq_eq h
 ·rename_i v hk
  rw [hk]
  intro d hd
  rw [hd] at h
  exact veq_eq h
 ·rename_i ob mk hk
  rw [hk]
  simp only
  split at h
  ·rename_i b hb
   simp only [Bool.and_eq_true] at h
   obtain ⟨h1,h2⟩:=h
   split at h1
   ·rename_i ob' hob
    refine ⟨b,ob',hb,hob,h1,fun d hd=>?_⟩
    rw [hd] at h2
    exact veq_eq h2
   ·cases h1
  ·cases h
 ·cases h
structure AlR (L:Lam) (lo hi:Nat) (d:Dr) (rest:List Nat):Prop where
 keys:∀ p b,d.al.lookup p = some b→p ∉ d.left
 free:∀ p b,p ∈ rest→p ∉ d.left→d.al.lookup p = some b→L b = none∧lo ≤ b∧b < hi
 dist:∀ p q b,p ∈ rest→p ∉ d.left→q ∈ rest→q ∉ d.left→d.al.lookup p = some b→d.al.lookup q = some b→p = q
section
variable {P:Program} {F:T Func} {w0:World} {G:Nat} {L:Lam} {H:AH} {w:World} {af:AFr} {d:Dr} {a:Act} {rest:List Nat} {listed:Array Bool}
theorem regOK_spec {nt:Nat} {ops:Array Oper} (h:regOK G nt ops = true) {i:Nat} {o:Oper} (ho:ops[i]? = some o):opsOK G o = true∧dstOKA nt o = true∧(∀ c,o.op ≠ .defer c)∧(∀ e ∈ o.after,Region.binds .any e = true→e.on < i) ∧
  ∀ j o' s,ops[j]? = some o'→o'.dst = some s→(i ≠ j→o.dst ≠ some s)∧(s ∈ looks ops o→i ≠ j∧(anc ops i j = true ∨ (pinO ops o' = true∧anc ops j i = true))):=by
 unfold regOK at h
 simp only at h
 unfold regOKs at h
 rw [List.all_eq_true] at h
 have hlt:i < ops.size:=(Array.getElem?_eq_some_iff.1 ho).1
 have h1:=h i (by simpa using hlt)
 rw [ho] at h1
 simp only [Bool.and_eq_true] at h1
 obtain ⟨⟨⟨⟨h1,h2⟩,h3⟩,h4⟩,h5⟩:=h1
 refine ⟨h1,h2,?_,?_,?_⟩
 ·intro c hc
  rw [hc] at h3; cases h3
 ·intro e he hb
  rw [List.all_eq_true] at h4
  have:=h4 e (by simpa using he)
  rw [hb] at this
  simpa using this
 ·intro j o' s hj hs
  rw [List.all_eq_true] at h5
  have hjl:j < ops.size:=(Array.getElem?_eq_some_iff.1 hj).1
  have:=h5 j (by simpa using hjl)
  rw [hj] at this
  simp only [hs,Bool.and_eq_true,Bool.or_eq_true,beq_iff_eq,Bool.not_eq_true'] at this
  obtain ⟨a1,a2⟩:=this
  refine ⟨fun hne hd=>?_,fun hm=>?_⟩
  ·rcases a1 with a1 | a1
   ·exact hne a1
   ·rw [hd] at a1; simp at a1
  ·rcases a2 with a2 | a2
   ·have:(looks ops o).contains s = true:=by simpa using hm
    rw [a2] at this; cases this
   ·exact ⟨by simpa using a2.1,a2.2.imp ancM_spec fun q=>⟨q.1,ancM_spec q.2⟩⟩
theorem DrR.looks (h:DrR G L af d a rest listed) {p:Nat} {o:Oper} (ho:d.ops[p]? = some o) (hr:p ∈ Region.ready .any d.ops listed):∀ s ∈ looks d.ops o,VR L (tget af.tm s) (a.tmps.getD s undef):=by
 intro s hs
 refine h.slots s fun q oq hq hql hoq hd=>?_
 obtain ⟨hne,ha⟩:=(regOK_spec h.ok ho).2.2.2.2 q oq s hoq hd |>.2 hs
 rcases ha with ha | ⟨hp,_⟩
 ·have h1:=anc_ready h.cl hr ha
  have h2:=unlisted_of (h.ord.unlisted q hq)
  rw [h1] at h2; cases h2
 ·rw [h.pin q hq hql oq hoq] at hp; cases hp
theorem DrR.opnds (h:DrR G L af d a rest listed) (hH:HRel w0 G L H w) {p:Nat} {o:Oper} (ho:d.ops[p]? = some o) (hr:p ∈ Region.ready .any d.ops listed):∀ x ∈ o.op.operands,VR L (aev af.tm x) (a.eval x):=by
 intro x hx
 have hok:=(regOK_spec h.ok ho).1
 unfold opsOK at hok
 rw [List.all_eq_true] at hok
 have hx1:=hok x (by simpa using hx)
 cases x with
 | tmp s =>
  refine h.looks ho hr s ?_
  unfold Go.Run.looks
  rw [List.mem_append]
  left
  rw [List.mem_filterMap]
  exact ⟨.tmp s,by simpa using hx,rfl⟩
 | const v=>exact VR.refl_flat hx1
 | global g =>
  have hg:g + 1 < G:=by simpa using hx1
  have:=VR.ptr (L:=L) (o:=0) (hH.glob g hg)
  simpa [aev,Act.eval] using this
 | func f=>exact VR.refl_flat (by rfl)
theorem yielded_rel {ops:Array Oper} {tm:T Value} {tmps:Array Value} {j:Nat} (h:∀ s,(ops[j]?).bind (·.dst) = some s→VR L (tget tm s) (tmps.getD s undef)):yielded ops tmps j = yieldedA ops tm j:=by
 unfold yielded yieldedA
 cases hd:(ops[j]?).bind (·.dst) with
 | none=>rfl
 | some s =>
  have:=h s hd
  simp only [Option.bind_some]
  rw [Array.getD_eq_getD_getElem?] at this
  cases hq:tmps[s]? with
  | none =>
   rw [hq] at this
   simp only [Option.getD_none] at this
   generalize hv:tget tm s = v at this
   cases this with
   | tuple _ _=>rfl
  | some x =>
   rw [hq] at this
   simp only [Option.getD_some] at this
   generalize hv:tget tm s = v at this
   cases this <;> rfl
theorem DrR.wanted (h:DrR G L af d a rest listed) {p:Nat} {o:Oper} (ho:d.ops[p]? = some o) (hr:p ∈ Region.ready .any d.ops listed):Region.wanted o (yielded d.ops a.tmps) = Region.wanted o (yieldedA d.ops af.tm):=by
 unfold Region.wanted
 cases hg:o.guard with
 | none=>rfl
 | some gw =>
  obtain ⟨g,want⟩:=gw
  simp only
  rw [yielded_rel fun s hs=>h.looks ho hr s (by unfold Go.Run.looks; rw [List.mem_append]; right; rw [hg]; simp [hs])]
theorem getD_putR {x:Value} {dst:Option Nat} {s:Nat} (h:dst ≠ some s):(a.put dst x).tmps.getD s undef = a.tmps.getD s undef:=by
 cases dst with
 | none=>rfl
 | some e =>
  have hne:e ≠ s:=fun q=>h (by rw [q])
  show (a.tmps.setIfInBounds e x).getD s undef = _
  simp only [Array.getD_eq_getD_getElem?]
  rw [Array.getElem?_setIfInBounds_ne hne]
theorem getD_putS {x:Value} {s:Nat} (h:s < a.tmps.size):(a.put (some s) x).tmps.getD s undef = x:=by
 show (a.tmps.setIfInBounds s x).getD s undef = _
 simp [Array.getD_eq_getD_getElem?,h]
theorem FB.put {b:Frame} (h:FB L af b a) (dst:Option Nat) (x:Value):FB L af b (a.put dst x):=by
 cases dst with
 | none=>exact h
 | some e=>exact ⟨h.fn,h.kind,by show (a.tmps.setIfInBounds e x).size = _; rw [Array.size_setIfInBounds]; exact h.size,h.defers,h.rnd⟩
theorem dst_lt {nt:Nat} {o:Oper} (h:dstOKA nt o = true) {s:Nat} (hs:o.dst = some s):s < nt∧small s = true:=by
 unfold dstOKA at h
 rw [hs] at h
 simp only [Bool.and_eq_true] at h
 exact ⟨by simpa using h.1,h.2⟩
theorem DrR.done (h:DrR G L af d a rest listed) (hsz:a.tmps.size = af.nt) {L':Lam} (hl:L.le L') {p:Nat} {o:Oper} {rest':List Nat} (ho:d.ops[p]? = some o) (hrest:rest = p :: rest') (hpl:p ∉ d.left) {x:Value} (hx:∀ s,o.dst = some s→VR L' (tget af.tm s) x) :
  DrR G L' af d (a.put o.dst x) rest' (listed.setIfInBounds p true):=by
 subst hrest
 cases hord:h.ord with
 | cons hr k =>
  refine ⟨k,by simpa using h.size,h.cl.step hr,fun i hi=>?_,h.nd,h.up,h.ok,fun q hq hql=>h.pin q (List.mem_cons_of_mem _ hq) hql,fun s hs=>?_⟩
  ·rcases List.mem_cons.1 (h.left i hi) with rfl | q
   ·exact absurd hi hpl
   ·exact q
  ·by_cases hd:o.dst = some s
   ·have:=dst_lt (regOK_spec h.ok ho).2.1 hd
    rw [hd,getD_putS (by rw [hsz]; exact this.1)]
    exact hx s hd
   ·rw [getD_putR hd]
    refine (h.slots s fun q oq hq hql hoq=>?_).mono hl
    rcases List.mem_cons.1 hq with rfl | hq
    ·rw [ho] at hoq; cases hoq; exact hd
    ·exact hs q oq hq hql hoq
end
end Go.Run
