import Derived.Test.YtjcbpfhlgebgdaaDoorR19
noncomputable section
namespace Go.Run
open Go.RowKit
section
variable {P:Program} {F:T Func} {w0:World} {G:Nat} {L:Lam} {H:AH} {w:World} {cs0:List Frame} {f0:FuncId}
def Met (P:Program) (w0:World) (G:Nat) (cs0:List Frame) (f0:FuncId) (l:List Cfg) (m:Machine):Prop:=∃ c' ∈ l,∃ m',Steps P m m'∧Sim P w0 G cs0 f0 c' m'
theorem finish_met {c:AFr} {cs:List AFr} {cf:Frame} {cfs:List Frame} {hi:Nat} {v x:Value} (hH:HRel w0 G L H w) (hW:WaitR G L hi c cf) (hlo:c.lo ≤ hi) (hhi:hi ≤ H.nx) (hG:G ≤ c.lo) (hC:CR G L c.lo cs cfs) (hv:VR L v x) (hb:botFn c cs = f0) (hne:finishA P c cs H v ≠ []) :
  ∃ c' ∈ finishA P c cs H v,Sim P w0 G cs0 f0 c' (lone (cf.finish x) (cfs++cs0) w):=by
 obtain ⟨hret,b,a,todo,hB,rfl,hm⟩:=hW
 generalize hq:finishA P c cs H v = l at hne
 unfold finishA at hq
 cases hd:c.dr with
 | some d =>
  rw [hd] at hm hq
  obtain ⟨y,q1,q2,⟨o,q3,q4⟩,rest,listed,k,rfl,q5,q6,q7⟩:=hm
  simp only [q1,q3] at hq
  cases hcond:(dstOKA c.nt o && recheck P H (putA c.tm o.dst v) { d with left:=d.left.erase y,cur:=none } y) with
  | false=>rw [hcond] at hq; exact absurd hq.symm hne
  | true =>
   rw [hcond] at hq
   simp only [cond_true] at hq
   subst hq
   simp only [Bool.and_eq_true] at hcond
   refine ⟨_,List.mem_singleton.2 rfl,L,_,cfs,w,rfl,hH,?_,hC,Nat.le_trans hlo hhi,hG,?_⟩
   ·rw [finish_inR q3]
    have he:=q6.effect hB.size (Lam.le_refl L) q2 q3 hv q4 none
    refine ⟨b,a.put o.dst x,⟨hB.fn,hB.kind,(hB.put o.dst x).size,(hB.put o.dst x).defers,hB.rnd⟩,.inl ⟨hret,_,rfl,?_⟩⟩
    refine ⟨rfl,rest,_,k,rfl,q5,⟨he.ord,he.size,he.cl,he.left,he.nd,he.up,he.ok,he.pin,he.slots⟩,?_,?_⟩
    ·cases hord:q6.ord with
     | cons hr hk=>exact recheck_spec hcond.2 rfl q6.cl hr hk
    ·refine ⟨fun p bb hlk hm=>q7.keys p bb hlk (List.mem_of_mem_erase hm),fun p bb hp hpl hlk=>?_,fun p r bb hp hpl hr hrl h1 h2=>?_⟩
     ·have hne':p ≠ y:=by
       rintro rfl
       cases hord:q6.ord with
       | cons hr hk=>exact OrdR.head_not_mem hr hk hp
      obtain ⟨f1,f2,f3⟩:=q7.free p bb (List.mem_cons_of_mem _ hp) (fun hq=>hpl ((List.mem_erase_of_ne hne').2 hq)) hlk
      exact ⟨f1,f2,Nat.lt_of_lt_of_le f3 hhi⟩
     ·have key:∀ p,p ∈ rest→p ∉ d.left.erase y→p ∉ d.left:=fun p hp hpl hq=>by
       have hne':p ≠ y:=by
        rintro rfl
        cases hord:q6.ord with
        | cons hr hk=>exact OrdR.head_not_mem hr hk hp
       exact hpl ((List.mem_erase_of_ne hne').2 hq)
      exact q7.dist p r bb (List.mem_cons_of_mem _ hp) (key p hp hpl) (List.mem_cons_of_mem _ hr) (key r hr hrl) h1 h2
   ·cases cs <;> exact hb
 | none =>
  rw [hd] at hm hq
  obtain ⟨hI,hT⟩:=hm
  simp only at hq
  split at hq
  ·rename_i ops i rest k htodo
   split at hq
   ·rename_i o ho
    cases hc:dstOKA c.nt o with
    | false=>rw [hc] at hq; exact absurd hq.symm hne
    | true =>
     rw [hc] at hq
     simp only [cond_true] at hq
     subst hq
     rw [htodo] at hI
     cases hI with
     | same hp hk =>
      rename_i k'
      refine ⟨_,List.mem_singleton.2 rfl,L,_,cfs,w,rfl,hH,?_,hC,Nat.le_trans hlo hhi,hG,?_⟩
      ·rw [finish_inR ho]
       refine ⟨b,a.put o.dst x,⟨hB.fn,hB.kind,(hB.put o.dst x).size,(hB.put o.dst x).defers,hB.rnd⟩,.inl ⟨hret,_,rfl,?_⟩⟩
       unfold BodyR
       simp only
       exact ⟨.same rfl hk,hT.put hB.size hc hv⟩
      ·cases cs <;> exact hb
   ·exact absurd hq.symm hne
  ·rename_i lp k htodo
   subst hq
   rw [htodo] at hI
   cases hI with
   | same hp hk=>simp [plainI] at hp
   | inR hp hk =>
    rename_i p k'
    refine ⟨_,List.mem_singleton.2 rfl,L,_,cfs,w,rfl,hH,?_,hC,Nat.le_trans hlo hhi,hG,?_⟩
    ·rw [finish_atR_inRangeFunc]
     refine ⟨b,a,⟨hB.fn,hB.kind,hB.size,hB.defers,hB.rnd⟩,.inl ⟨hret,_,rfl,?_⟩⟩
     unfold BodyR
     simp only
     exact ⟨.endR hp hk,hT⟩
    ·cases cs <;> exact hb
  ·exact absurd hq.symm hne
theorem enter_met (hF:FunOK P F) {c:AFr} {cs:List AFr} {cf:Frame} {cfs:List Frame} {args args':List Value} {f:FuncId} {fn:Func} (hH:HRel w0 G L H w) (hW:WaitR G L H.nx c cf) (hlo:c.lo ≤ H.nx) (hG:G ≤ c.lo) (hC:CR G L c.lo cs cfs) (hr:LR L args args')
  (hf:F.get f = some fn) (hlen:args.length ≤ fn.ntmps) (hsm:small fn.ntmps = true) (hb:botFn c cs = f0) (hne:enterA F c cs H f args ≠ []) :
  ∃ c' ∈ enterA F c cs H f args,Sim P w0 G cs0 f0 c' (lone (Frame.enter P f args'.toArray .normal) (cf :: cfs++cs0) w):=by
 unfold enterA at hne ⊢
 rw [hf] at hne ⊢
 simp only at hne ⊢
 cases hbody:fn.body with
 | none=>rw [hbody] at hne; exact absurd rfl hne
 | some body =>
  simp only
  refine ⟨_,List.mem_singleton.2 rfl,L,_,cf :: cfs,w,rfl,hH,enter_rel hF hf hbody hr hlen hsm,.cons (.inl hW) hlo hG hC,Nat.le_refl _,Nat.le_trans hG hlo,hb⟩
theorem todo_met {c:Cfg} {b:Frame} {a:Act} {cfs:List Frame} {todo0 todo1:List Item} {todo':List Item} (hH:HRel w0 G L c.H w) (hB:FB L c.fr b a) (hret:c.fr.ret = false) (hd:c.fr.dr = none) (hT:TR L c.fr.tm a.tmps) (hC:CR G L c.fr.lo c.cs cfs) (hlo:c.fr.lo ≤ c.H.nx) (hG:G ≤ c.fr.lo) (hb:botFn c.fr c.cs = f0)
  (hs:step P (lone (b.atR a todo0) (cfs++cs0) w) = .next (lone (b.atR a todo1) (cfs++cs0) w)) (hI:IR L todo' todo1):Met P w0 G cs0 f0 [⟨{ c.fr with todo:=todo' },c.cs,c.H⟩] (lone (b.atR a todo0) (cfs++cs0) w):=by
 refine ⟨_,List.mem_singleton.2 rfl,_,.one hs,L,_,cfs,w,rfl,hH,⟨b,a,⟨hB.fn,hB.kind,hB.size,hB.defers,hB.rnd⟩,.inl ⟨hret,todo1,rfl,?_⟩⟩,hC,hlo,hG,?_⟩
 ·unfold BodyR
  simp only [hd]
  exact ⟨hI,hT⟩
 ·show botFn { c.fr with todo:=todo' } c.cs = f0
  cases hcs:c.cs with
  | nil=>rw [hcs] at hb; exact hb
  | cons x xs=>rw [hcs] at hb; exact hb
theorem botFn_same {fr fr':AFr} {cs:List AFr} (h:fr'.fn = fr.fn) (hb:botFn fr cs = f0):botFn fr' cs = f0:=by
 cases cs with
 | nil=>simp only [botFn] at hb ⊢; rw [h]; exact hb
 | cons x xs=>exact hb
end
end Go.Run
