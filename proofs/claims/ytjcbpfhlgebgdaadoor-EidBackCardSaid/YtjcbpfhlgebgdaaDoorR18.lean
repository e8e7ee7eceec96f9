import Derived.Test.YtjcbpfhlgebgdaaDoorR17
noncomputable section
namespace Go.Run
open Go.RowKit
section
variable {P:Program} {F:T Func} {w0:World} {G:Nat} {L:Lam} {H:AH} {w:World} {af:AFr} {d:Dr} {a:Act} {rest:List Nat} {listed:Array Bool}
theorem tget_putS {tm:T Value} {s:Nat} {v:Value} (h:small s = true):tget (putA tm (some s) v) s = v:=by
 unfold tget putA
 rw [T.get_set h,if_pos rfl]; rfl
theorem tget_putR {tm:T Value} {o:Option Nat} {s:Nat} {v:Value} (hsm:∀ s',o = some s'→small s' = true) (h:o ≠ some s):tget (putA tm o v) s = tget tm s:=by
 cases o with
 | none=>rfl
 | some e =>
  unfold tget putA
  rw [T.get_set (hsm e rfl),if_neg (fun q=>h (by rw [q]))]
theorem anc_up {ops:Array Oper} {left:List Nat} (hup:∀ (p:Nat) (o:Oper),ops[p]? = some o→p ∉ left→∀ e ∈ o.after,Region.binds .any e = true→e.on ∉ left) {i:Nat}:∀ (fuel j:Nat),ancB ops fuel j i = true→j ∉ left→i ∉ left
 | 0,_,h,_=>by simp [ancB] at h
 | fuel + 1,j,h,hj=>by
  simp only [ancB] at h
  split at h
  ·rename_i o ho
   rw [List.any_eq_true] at h
   obtain ⟨e,he,h⟩:=h
   simp only [Bool.and_eq_true,Bool.or_eq_true,beq_iff_eq] at h
   have hl:=hup j o ho hj e (by simpa using he) h.1
   rcases h.2 with h2 | h2
   ·rw [← h2]; exact hl
   ·exact anc_up hup fuel e.on h2 hl
  ·cases h
theorem depsIn_spec {o:Oper} {left:List Nat} (h:depsIn o left = true):∀ e ∈ o.after,Region.binds .any e = true→e.on ∉ left:=by
 intro e he hb
 unfold depsIn at h
 rw [List.all_eq_true] at h
 have:=h e (by simpa using he)
 rw [hb] at this
 simpa using this
theorem DrR.quick (h:DrR G L af d a rest listed) {i:Nat} {o:Oper} (hi:i ∈ d.left) (ho:d.ops[i]? = some o) (hdep:depsIn o d.left = true) (hnp:pinO d.ops o = false) (v:Value) (al:List (Nat × Nat)) :
  DrR G L { af with tm:=putA af.tm o.dst v,dr:=some { d with left:=d.left.erase i,al:=al } } { d with left:=d.left.erase i,al:=al } a rest listed:=by
 refine ⟨h.ord,h.size,h.cl,fun j hj=>h.left j (List.mem_of_mem_erase hj),h.nd.erase i,fun p op hp hpl e he hb=>?_,h.ok,fun q hq hql oq hoq=>?_,fun s hs=>?_⟩
 ·intro hm
  have hm':=List.mem_of_mem_erase hm
  by_cases q:p = i
  ·subst q
   rw [ho] at hp; cases hp
   exact depsIn_spec hdep e he hb hm'
  ·refine h.up p op hp (fun hq=>hpl ?_) e he hb hm'
   exact (List.mem_erase_of_ne q).2 hq
 ·by_cases e:q = i
  ·subst e; rw [ho] at hoq; cases hoq; exact hnp
  ·exact h.pin q hq (fun hx=>hql ((List.mem_erase_of_ne e).2 hx)) oq hoq
 ·have hsm:∀ s',o.dst = some s'→small s' = true:=fun s' hs'=>(dst_lt (regOK_spec h.ok ho).2.1 hs').2
  have hne:o.dst ≠ some s:=hs i o (h.left i hi) (by
   intro hq
   exact (List.Nodup.not_mem_erase h.nd) hq) ho
  show VR L (tget (putA af.tm o.dst v) s) _
  rw [tget_putR hsm hne]
  refine h.slots s fun p op hp hpl hop=>hs p op hp (fun hq=>hpl (List.mem_of_mem_erase hq)) hop
theorem stands_quick (h:DrR G L af d a rest listed) {i:Nat} {o:Oper} (hi:i ∈ d.left) (ho:d.ops[i]? = some o) (hnp:pinO d.ops o = false) (v:Value) {al:List (Nat × Nat)} {p:Nat} (hpl:p ∉ d.left) (hst:Stands P H d.ops af.tm al p):Stands P H d.ops (putA af.tm o.dst v) al p:=by
 intro op hop
 have hsm:∀ s',o.dst = some s'→small s' = true:=fun s' hs'=>(dst_lt (regOK_spec h.ok ho).2.1 hs').2
 have hpi:p ≠ i:=fun q=>hpl (q ▸ hi)
 have hk:kindOf P H d.ops (putA af.tm o.dst v) op = kindOf P H d.ops af.tm op:=kindOf_congr fun s hs=>by
  refine tget_putR hsm fun hd=>?_
  obtain ⟨_,ha⟩:=((regOK_spec h.ok hop).2.2.2.2 i o s ho hd).2 hs
  rcases ha with ha | ⟨hp,_⟩
  ·exact anc_up h.up _ p ha hpl hi
  ·rw [hnp] at hp; cases hp
 have hdst:∀ s,op.dst = some s→tget (putA af.tm o.dst v) s = tget af.tm s:=fun s hs=>tget_putR hsm fun hd=>((regOK_spec h.ok hop).2.2.2.2 i o s ho hd).1 hpi hs
 have:=hst op hop
 rw [hk]
 cases hq:kindOf P H d.ops af.tm op with
 | skip=>rw [hq] at this; exact fun s hs=>by rw [hdst s hs]; exact this s hs
 | val u=>rw [hq] at this; exact fun s hs=>by rw [hdst s hs]; exact this s hs
 | lay ob mk =>
  rw [hq] at this
  obtain ⟨b,ob',q1,q2,q3,q4⟩:=this
  exact ⟨b,ob',q1,q2,q3,fun s hs=>by rw [hdst s hs]; exact q4 s hs⟩
 | eff=>rw [hq] at this; exact this.elim
theorem kind_self (h:DrR G L af d a rest listed) {i:Nat} {o:Oper} (ho:d.ops[i]? = some o) (v:Value):kindOf P H d.ops (putA af.tm o.dst v) o = kindOf P H d.ops af.tm o:=by
 have hsm:∀ s',o.dst = some s'→small s' = true:=fun s' hs'=>(dst_lt (regOK_spec h.ok ho).2.1 hs').2
 refine kindOf_congr fun s hs=>tget_putR hsm fun hd=>?_
 exact ((regOK_spec h.ok ho).2.2.2.2 i o s ho hd).2 hs |>.1 rfl
theorem stands_self (h:DrR G L af d a rest listed) {i:Nat} {o:Oper} (ho:d.ops[i]? = some o) {v:Value} {al:List (Nat × Nat)} (hk:(kindOf P H d.ops af.tm o = .skip∧v = undef) ∨ kindOf P H d.ops af.tm o = .val v):Stands P H d.ops (putA af.tm o.dst v) al i:=by
 intro op hop
 rw [ho] at hop; cases hop
 rw [kind_self h ho v]
 have hd:∀ s,o.dst = some s→tget (putA af.tm o.dst v) s = v:=fun s hs=>by
  rw [hs]; exact tget_putS (dst_lt (regOK_spec h.ok ho).2.1 hs).2
 rcases hk with ⟨hk,rfl⟩ | hk
 ·rw [hk]; exact fun s hs=>by rw [hd s hs]
 ·rw [hk]; exact fun s hs=>by rw [hd s hs]
theorem firstQuick_spec {all:List Nat} {tm:T Value} {ops:Array Oper}:∀ (l:List Nat) {i:Nat} {o:Oper} {k:Kind},firstQuick P H tm ops all l = some (i,o,k)→i ∈ l∧ops[i]? = some o∧depsIn o all = true∧kindOf P H ops tm o = k∧k ≠ .eff
 | [],_,_,_,h=>by simp [firstQuick] at h
 | j :: l,i,o,k,h=>by
  simp only [firstQuick] at h
  have ih:=fun (h:firstQuick P H tm ops all l = some (i,o,k))=>firstQuick_spec l h
  split at h
  ·obtain ⟨q1,q2⟩:=ih h; exact ⟨List.mem_cons_of_mem _ q1,q2⟩
  ·rename_i o' ho'
   cases hd:depsIn o' all with
   | false=>rw [hd] at h; obtain ⟨q1,q2⟩:=ih h; exact ⟨List.mem_cons_of_mem _ q1,q2⟩
   | true =>
    rw [hd] at h
    simp only [cond_true] at h
    split at h
    ·obtain ⟨q1,q2⟩:=ih h; exact ⟨List.mem_cons_of_mem _ q1,q2⟩
    ·rename_i hne
     simp only [Option.some.injEq,Prod.mk.injEq] at h
     obtain ⟨rfl,rfl,rfl⟩:=h
     exact ⟨by simp,ho',hd,rfl,hne⟩
theorem firstReady_spec {all:List Nat} {ops:Array Oper}:∀ (l:List Nat) {i:Nat} {o:Oper},firstReady ops all l = some (i,o)→i ∈ l∧ops[i]? = some o∧depsIn o all = true
 | [],_,_,h=>by simp [firstReady] at h
 | j :: l,i,o,h=>by
  simp only [firstReady] at h
  split at h
  ·obtain ⟨q1,q2⟩:=firstReady_spec l h; exact ⟨List.mem_cons_of_mem _ q1,q2⟩
  ·rename_i o' ho'
   cases hd:depsIn o' all with
   | false=>rw [hd] at h; obtain ⟨q1,q2⟩:=firstReady_spec l h; exact ⟨List.mem_cons_of_mem _ q1,q2⟩
   | true =>
    rw [hd] at h
    simp only [cond_true,Option.some.injEq,Prod.mk.injEq] at h
    obtain ⟨rfl,rfl⟩:=h
    exact ⟨by simp,ho',hd⟩
theorem DrR.effect {x:Nat} (h:DrR G L af d a (x :: rest) listed) (hsz:a.tmps.size = af.nt) {L':Lam} (hl:L.le L') {o:Oper} (hx:x ∈ d.left) (ho:d.ops[x]? = some o) {v y:Value} (hv:VR L' v y) (hdep:depsIn o d.left = true) (c:Option Nat) :
  DrR G L' { af with tm:=putA af.tm o.dst v,dr:=some { d with left:=d.left.erase x,cur:=c } } { d with left:=d.left.erase x,cur:=c } (a.put o.dst y) rest (listed.setIfInBounds x true):=by
 cases hord:h.ord with
 | cons hr hk =>
 have hxr:=OrdR.head_not_mem hr hk
 have hsm:∀ s',o.dst = some s'→small s' = true:=fun s' hs'=>(dst_lt (regOK_spec h.ok ho).2.1 hs').2
 refine ⟨hk,by simpa using h.size,h.cl.step hr,fun i hi=>?_,h.nd.erase x,fun p op hp hpl e he hb=>?_,h.ok,fun q hq hql=>h.pin q (List.mem_cons_of_mem _ hq) (fun hx=>hql ((List.mem_erase_of_ne (fun (e:q = x)=>hxr (by rw [← e]; exact hq))).2 hx)),fun s hs=>?_⟩
 ·have hne:i ≠ x:=fun q=>List.Nodup.not_mem_erase h.nd (q ▸ hi)
  rcases List.mem_cons.1 (h.left i (List.mem_of_mem_erase hi)) with q | q
  ·exact absurd q hne
  ·exact q
 ·intro hm
  have hm':=List.mem_of_mem_erase hm
  by_cases q:p = x
  ·subst q
   rw [ho] at hp; cases hp
   exact depsIn_spec hdep e he hb hm'
  ·exact h.up p op hp (fun hq=>hpl ((List.mem_erase_of_ne q).2 hq)) e he hb hm'
 ·show VR L' (tget (putA af.tm o.dst v) s) _
  by_cases hd:o.dst = some s
  ·have:=dst_lt (regOK_spec h.ok ho).2.1 hd
   rw [hd,getD_putS (by rw [hsz]; exact this.1),tget_putS this.2]
   exact hv
  ·rw [getD_putR hd,tget_putR hsm hd]
   refine (h.slots s fun p op hp hpl hop=>?_).mono hl
   rcases List.mem_cons.1 hp with rfl | hp
   ·exact absurd hx hpl
   ·exact hs p op hp (fun hq=>hpl (List.mem_of_mem_erase hq)) hop
theorem recheck_spec {tm:T Value} {d':Dr} {x:Nat} (h:recheck P H tm d' x = true) {listed:Array Bool} {rest:List Nat} {ops:Array Oper} (hops:d'.ops = ops) (hcl:Cl ops listed) (hr:x ∈ Region.ready .any ops listed) (hk:OrdR ops (listed.setIfInBounds x true) rest) :
  ∀ p ∈ rest,p ∉ d'.left→Stands P H d'.ops tm d'.al p:=by
 subst hops
 intro p hp hpl
 unfold recheck at h
 simp only at h
 rw [List.all_eq_true] at h
 rcases Nat.lt_or_ge p d'.ops.size with hlt | hge
 ·have:=h p (by simpa using hlt)
  simp only [Bool.or_eq_true,beq_iff_eq] at this
  rcases this with ((q | q) | q) | q
  ·exact absurd (by simpa using q) hpl
  ·subst q; exact absurd hp (OrdR.head_not_mem hr hk)
  ·have h1:=anc_ready hcl hr (ancM_spec q)
   have h2:=hk.unlisted p hp
   have h3:=unlisted_of h2
   rw [getD_set_true h1] at h3; cases h3
  ·exact stands_of q
 ·intro o ho
  rw [Array.getElem?_eq_none hge] at ho; cases ho
end
end Go.Run
