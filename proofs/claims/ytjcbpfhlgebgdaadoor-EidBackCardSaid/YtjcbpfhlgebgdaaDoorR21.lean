import Derived.Test.YtjcbpfhlgebgdaaDoorRY
noncomputable section
namespace Go.Run
open Go.RowKit
section
variable {P:Program} {F:T Func} {w0:World} {G:Nat} {L:Lam} {H:AH} {w:World} {cs0:List Frame} {f0:FuncId}
theorem condO {c:Bool} {x:Out} {l:List Cfg} (h:(bif c then x else Out.go []) = Out.go l) (hne:l ≠ []):c = true∧x = .go l:=by
 cases c
 ·simp only [cond_false,Out.go.injEq] at h; exact absurd h.symm hne
 ·exact ⟨rfl,h⟩
theorem stands_no_eff {ops:Array Oper} {tm:T Value} {al:List (Nat × Nat)} {p:Nat} (h:Stands P H ops tm al p) (he:effB P H ops tm p = true):False:=by
 unfold effB at he
 split at he
 ·cases he
 ·rename_i o ho
  have:=h o ho
  split at he
  ·rename_i hk; rw [hk] at this; exact this
  ·cases he
theorem draw_met (hF:FunOK P F) {c:Cfg} {d:Dr} {b:Frame} {a:Act} {todo:List Item} {cfs:List Frame} (hH:HRel w0 G L c.H w) (hB:FB L c.fr b a) (hret:c.fr.ret = false) (hd:c.fr.dr = some d) (hbody:BodyR P G L c.H c.fr a todo)
  (hC:CR G L c.fr.lo c.cs cfs) (hlo:c.fr.lo ≤ c.H.nx) (hG:G ≤ c.fr.lo) (hb:botFn c.fr c.cs = f0) {l:List Cfg} (ha:astep P F G c = .go l) (hne:l ≠ []):Met P w0 G cs0 f0 l (lone (b.atR a todo) (cfs++cs0) w):=by
 unfold BodyR at hbody
 rw [hd] at hbody
 obtain ⟨hcur,rest,listed,k,rfl,hI,hD,hst,hA⟩:=hbody
 replace ha:=arun_of hret ha hne
 unfold arun at ha
 simp only [hret,hd] at ha
 cases hl:d.left with
 | nil =>
  rw [hl] at ha
  simp only [Out.go.injEq] at ha
  subst ha
  obtain ⟨a',w',L',s1,h1,e1,b1,t1⟩:=catch_all (P:=P) (k:=k) (cs:=cfs++cs0) hG (Nat.le_refl _) hl rest listed L a w hH hB hD hA hst
  refine ⟨_,List.mem_singleton.2 rfl,_,s1,L',_,cfs,w',rfl,h1,⟨b,a',⟨b1.fn,b1.kind,b1.size,b1.defers,b1.rnd⟩,.inl ⟨rfl,k,rfl,?_⟩⟩,hC.ext e1,hlo,hG,botFn_same (fr:=c.fr) rfl hb⟩
  unfold BodyR
  exact ⟨hI.mono e1.1,t1⟩
 | cons i0 left0 =>
  rw [hl] at ha
  simp only at ha
  rw [← hl] at ha
  cases hq:firstQuick P c.H c.fr.tm d.ops d.left d.left with
  | some r =>
   obtain ⟨i,o,kd⟩:=r
   obtain ⟨q1,q2,q3,q4,q5⟩:=firstQuick_spec _ hq
   have hnp:pinO d.ops o = false:=kindOf_pin (by rw [q4]; exact q5)
   rw [hq] at ha
   cases kd with
   | skip =>
    simp only [Out.go.injEq] at ha
    subst ha
    refine ⟨_,List.mem_singleton.2 rfl,_,Steps.refl _ _,L,_,cfs,w,rfl,hH,⟨b,a,⟨hB.fn,hB.kind,hB.size,hB.defers,hB.rnd⟩,.inl ⟨rfl,_,rfl,?_⟩⟩,hC,hlo,hG,botFn_same (fr:=c.fr) rfl hb⟩
    unfold BodyR
    refine ⟨hcur,rest,listed,k,rfl,hI,?_,fun p hp hpl=>?_,?_⟩
    ·have:=hD.quick q1 q2 q3 hnp undef d.al
     exact ⟨this.ord,this.size,this.cl,this.left,this.nd,this.up,this.ok,this.pin,this.slots⟩
    ·by_cases e:p = i
     ·subst e; exact stands_self hD q2 (.inl ⟨q4,rfl⟩)
     ·have hpl':p ∉ d.left:=fun hx=>hpl ((List.mem_erase_of_ne e).2 hx)
      exact stands_quick hD q1 q2 hnp undef hpl' (hst p hp hpl')
    ·have key:∀ p,p ∈ rest→p ∉ d.left.erase i→∀ bb,d.al.lookup p = some bb→p ∉ d.left:=fun p _ hpl bb hlk=>hA.keys p bb hlk
     exact ⟨fun p bb hlk hm=>hA.keys p bb hlk (List.mem_of_mem_erase hm),fun p bb hp hpl hlk=>hA.free p bb hp (key p hp hpl bb hlk) hlk,fun p r bb hp hpl hr hrl h1 h2=>hA.dist p r bb hp (key p hp hpl bb h1) hr (key r hr hrl bb h2) h1 h2⟩
   | val v =>
    simp only [Out.go.injEq] at ha
    subst ha
    refine ⟨_,List.mem_singleton.2 rfl,_,Steps.refl _ _,L,_,cfs,w,rfl,hH,⟨b,a,⟨hB.fn,hB.kind,hB.size,hB.defers,hB.rnd⟩,.inl ⟨rfl,_,rfl,?_⟩⟩,hC,hlo,hG,botFn_same (fr:=c.fr) rfl hb⟩
    unfold BodyR
    refine ⟨hcur,rest,listed,k,rfl,hI,?_,fun p hp hpl=>?_,?_⟩
    ·have:=hD.quick q1 q2 q3 hnp v d.al
     exact ⟨this.ord,this.size,this.cl,this.left,this.nd,this.up,this.ok,this.pin,this.slots⟩
    ·by_cases e:p = i
     ·subst e; exact stands_self hD q2 (.inr q4)
     ·have hpl':p ∉ d.left:=fun hx=>hpl ((List.mem_erase_of_ne e).2 hx)
      exact stands_quick hD q1 q2 hnp v hpl' (hst p hp hpl')
    ·have key:∀ p,p ∈ rest→p ∉ d.left.erase i→∀ bb,d.al.lookup p = some bb→p ∉ d.left:=fun p _ hpl bb hlk=>hA.keys p bb hlk
     exact ⟨fun p bb hlk hm=>hA.keys p bb hlk (List.mem_of_mem_erase hm),fun p bb hp hpl hlk=>hA.free p bb hp (key p hp hpl bb hlk) hlk,fun p r bb hp hpl hr hrl h1 h2=>hA.dist p r bb hp (key p hp hpl bb h1) hr (key r hr hrl bb h2) h1 h2⟩
   | lay ob mk =>
    simp only at ha
    obtain ⟨hcond,ha⟩:=condO ha hne
    simp only [Out.go.injEq] at ha
    subst ha
    simp only [Bool.and_eq_true] at hcond
    obtain ⟨c1,c2⟩:=hcond
    refine ⟨_,List.mem_singleton.2 rfl,_,Steps.refl _ _,L,_,cfs,w,rfl,hH.push c1,⟨b,a,⟨hB.fn,hB.kind,hB.size,hB.defers,hB.rnd⟩,.inl ⟨rfl,_,rfl,?_⟩⟩,hC,Nat.le_succ_of_le hlo,hG,botFn_same (fr:=c.fr) rfl hb⟩
    unfold BodyR
    have hnx:=hH.none_nx
    refine ⟨hcur,rest,listed,k,rfl,hI,?_,fun p hp hpl=>?_,?_⟩
    ·have:=hD.quick q1 q2 q3 hnp (mk c.H.nx) ((i,c.H.nx) :: d.al)
     exact ⟨this.ord,this.size,this.cl,this.left,this.nd,this.up,this.ok,this.pin,this.slots⟩
    ·rw [List.all_eq_true] at c2
     rcases Nat.lt_or_ge p d.ops.size with hlt | hge
     ·have:=c2 p (by simpa using hlt)
      simp only [Bool.or_eq_true] at this
      rcases this with (q | q) | q
      ·exact absurd (by simpa using q) hpl
      ·simp only [Bool.and_eq_true,Bool.not_eq_true',beq_eq_false_iff_ne] at q
       have hpl':p ∉ d.left:=fun hx=>hpl ((List.mem_erase_of_ne q.1).2 hx)
       exact (stands_no_eff (hst p hp hpl') q.2).elim
      ·exact stands_of q
     ·intro o' ho'
      rw [Array.getElem?_eq_none hge] at ho'; cases ho'
    ·have hold:∀ p bb,d.al.lookup p = some bb→p ≠ i:=fun p bb hlk e=>hA.keys p bb hlk (e ▸ q1)
     have hlook:∀ p bb,List.lookup p ((i,c.H.nx) :: d.al) = some bb→(p = i∧bb = c.H.nx) ∨ (p ≠ i∧d.al.lookup p = some bb):=fun p bb hlk=>by
      rw [List.lookup_cons] at hlk
      by_cases e:p = i
      ·subst e; simp at hlk; exact .inl ⟨rfl,hlk.symm⟩
      ·have:(p == i) = false:=by simpa using e
       rw [this] at hlk; exact .inr ⟨e,hlk⟩
     have hlt:∀ p bb,p ∈ rest→p ∉ d.left.erase i→p ≠ i→d.al.lookup p = some bb→L bb = none∧c.fr.lo ≤ bb∧bb < c.H.nx:=fun p bb hp hpl e hlk=>hA.free p bb hp (fun hx=>hpl ((List.mem_erase_of_ne e).2 hx)) hlk
     refine ⟨fun p bb hlk hm=>?_,fun p bb hp hpl hlk=>?_,fun p r bb hp hpl hr hrl h1 h2=>?_⟩
     ·rcases hlook p bb hlk with ⟨rfl,_⟩ | ⟨_,h⟩
      ·exact List.Nodup.not_mem_erase hD.nd hm
      ·exact hA.keys p bb h (List.mem_of_mem_erase hm)
     ·rcases hlook p bb hlk with ⟨rfl,rfl⟩ | ⟨e,h⟩
      ·exact ⟨hnx,hlo,Nat.lt_succ_self _⟩
      ·obtain ⟨f1,f2,f3⟩:=hlt p bb hp hpl e h
       exact ⟨f1,f2,Nat.lt_succ_of_lt f3⟩
     ·rcases hlook p bb h1 with ⟨e1,f1⟩ | ⟨e1,h1⟩ <;> rcases hlook r bb h2 with ⟨e2,f2⟩ | ⟨e2,h2⟩
      ·rw [e1,e2]
      ·have:=(hlt r bb hr hrl e2 h2).2.2
       rw [f1] at this; exact absurd this (Nat.lt_irrefl _)
      ·have:=(hlt p bb hp hpl e1 h1).2.2
       rw [f2] at this; exact absurd this (Nat.lt_irrefl _)
      ·exact hA.dist p r bb hp (fun hx=>hpl ((List.mem_erase_of_ne e1).2 hx)) hr (fun hx=>hrl ((List.mem_erase_of_ne e2).2 hx)) h1 h2
   | eff=>exact absurd rfl q5
  | none =>
   rw [hq] at ha
   simp only at ha
   split at ha
   case h_1=>simp only [Out.go.injEq] at ha; exact absurd ha.symm hne
   rename_i x o hx
   obtain ⟨q1,q2,q3⟩:=firstReady_spec _ hx
   obtain ⟨hafter,ha⟩:=condO ha hne
   obtain ⟨hwt,ha⟩:=condO ha hne
   have hafter':∀ j ∈ d.left,j = x ∨ anc d.ops j x = true:=fun j hj=>by
    rw [List.all_eq_true] at hafter
    have:=hafter j hj
    simp only [Bool.or_eq_true,beq_iff_eq] at this
    exact this.imp id ancM_spec
   obtain ⟨a1,w1,L1,rest1,listed1,s1,h1,e1,b1,d1,al1,st1⟩:=catch_up (P:=P) (k:=k) (cs:=cfs++cs0) hG (Nat.le_refl _) q1 hafter' rest listed L a w hH hB hD hA hst
   cases hord:d1.ord with
   | cons hr hk =>
   have hwant:Region.wanted o (yielded d.ops a1.tmps) = true:=by rw [d1.wanted q2 hr]; exact hwt
   have hnd:=(regOK_spec hD.ok q2).2.2.1
   have hspec:=evalOp_spec (G:=G) hF h1 (ρ:=aev c.fr.tm) (ρ':=a1.eval) (d1.opnds h1 q2 hr)
   cases hX:evalOp P F G c.H (aev c.fr.tm) o with
   | vals lv =>
    rw [hX] at ha hspec
    simp only at ha
    obtain ⟨hre,ha⟩:=condO ha hne
    simp only [Out.go.injEq] at ha
    subst ha
    have hlv:lv ≠ []:=by rintro rfl; exact hne rfl
    obtain ⟨v,H',m1,m2,y,w2,L2,e2,h2,v2,x2⟩:=hspec hlv
    have hstep:=stepR_ok (P:=P) (b:=b) (k:=k) (cs:=cfs++cs0) (rest:=rest1) q2 hwant hnd x2
    rw [List.all_eq_true] at hre
    have hre':=hre _ m1
    refine ⟨_,List.mem_map.2 ⟨(v,H'),m1,rfl⟩,_,s1.trans (.one hstep),L2,_,cfs,w2,rfl,h2,⟨b,a1.put o.dst y,?_,.inl ⟨rfl,_,rfl,?_⟩⟩,(hC.ext e1).ext (Lam.ext_mono e2 hlo),Nat.le_trans hlo m2,hG,botFn_same (fr:=c.fr) rfl hb⟩
    ·have:=(b1.mono e2.1).put o.dst y
     exact ⟨this.fn,this.kind,this.size,this.defers,this.rnd⟩
    ·have he:=d1.effect b1.size e2.1 q1 q2 v2 q3 none
     unfold BodyR
     refine ⟨hcur,rest1,_,k,rfl,hI.mono (Lam.le_trans e1.1 e2.1),⟨he.ord,he.size,he.cl,he.left,he.nd,he.up,he.ok,he.pin,he.slots⟩,recheck_spec hre' rfl d1.cl hr hk,?_⟩
     have key:∀ p,p ∈ rest1→p ∉ d.left.erase x→p ∉ d.left:=fun p hp hpl hq=>by
      have hne':p ≠ x:=by
       rintro rfl
       exact OrdR.head_not_mem hr hk hp
      exact hpl ((List.mem_erase_of_ne hne').2 hq)
     refine ⟨fun p bb hlk hm=>al1.keys p bb hlk (List.mem_of_mem_erase hm),fun p bb hp hpl hlk=>?_,fun p r bb hp hpl hr' hrl h1' h2'=>al1.dist p r bb (List.mem_cons_of_mem _ hp) (key p hp hpl) (List.mem_cons_of_mem _ hr') (key r hr' hrl) h1' h2'⟩
     obtain ⟨f1,f2,f3⟩:=al1.free p bb (List.mem_cons_of_mem _ hp) (key p hp hpl) hlk
     exact ⟨by rw [e2.2 bb f3]; exact f1,f2,Nat.lt_of_lt_of_le f3 m2⟩
   | call f args =>
    rw [hX] at ha hspec
    simp only [Out.go.injEq] at ha
    subst ha
    obtain ⟨args',fn,r1,r2,r3,r4,r5⟩:=hspec
    have hstep:=stepR_enter (P:=P) (b:=b) (k:=k) (cs:=cfs++cs0) (rest:=rest1) q2 hwant hnd r1
    have hW:WaitR G L1 c.H.nx { c.fr with dr:=some { d with cur:=some x },ret:=false } (b.atR a1 (.inRegion d.ops (x :: rest1) :: k)):=by
     refine ⟨rfl,b,a1,_,⟨b1.fn,b1.kind,b1.size,b1.defers,b1.rnd⟩,rfl,?_⟩
     exact ⟨x,rfl,q1,⟨o,q2,q3⟩,rest1,listed1,k,rfl,hI.mono e1.1,⟨d1.ord,d1.size,d1.cl,d1.left,d1.nd,d1.up,d1.ok,d1.pin,d1.slots⟩,⟨al1.keys,al1.free,al1.dist⟩⟩
    obtain ⟨c',m1,hs⟩:=enter_met (cs0:=cs0) (f0:=f0) hF h1 hW hlo hG (hC.ext e1) r2 r3 r4 r5 (botFn_same (fr:=c.fr) rfl hb) hne
    exact ⟨c',m1,_,s1.trans (.one hstep),hs⟩
   | round lp args =>
    rw [hX] at ha hspec
    simp only [Out.go.injEq] at ha
    obtain ⟨args',p,r1,r2,r3⟩:=hspec
    have hW:WaitR G L1 c.H.nx { c.fr with dr:=some { d with cur:=some x },ret:=false } (b.atR a1 (.inRegion d.ops (x :: rest1) :: k)):=by
     refine ⟨rfl,b,a1,_,⟨b1.fn,b1.kind,b1.size,b1.defers,b1.rnd⟩,rfl,?_⟩
     exact ⟨x,rfl,q1,⟨o,q2,q3⟩,rest1,listed1,k,rfl,hI.mono e1.1,⟨d1.ord,d1.size,d1.cl,d1.left,d1.nd,d1.up,d1.ok,d1.pin,d1.slots⟩,⟨al1.keys,al1.free,al1.dist⟩⟩
    obtain ⟨f,tmps,asg,bdy,y1,c',m1,hs⟩:=round_met (P:=P) (cs0:=cs0) (f0:=f0) h1 hW hlo hG (hC.ext e1) r3 r2 (botFn_same (fr:=c.fr) rfl hb) ha hne
    rw [y1] at r1
    have hstep:=stepR_toRound (P:=P) (b:=b) (k:=k) (cs:=cfs++cs0) (rest:=rest1) q2 hwant hnd r1
    exact ⟨c',m1,_,s1.trans (.one hstep),hs⟩
end
end Go.Run
