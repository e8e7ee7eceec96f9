import Derived.Test.YtjcbpfhlgebgdaaDoorR16
noncomputable section
namespace Go.Run
open Go.RowKit
section
variable {P:Program} {F:T Func} {w0:World} {G:Nat} {L:Lam} {H:AH} {w:World} {af:AFr} {d:Dr} {a:Act} {rest:List Nat} {listed:Array Bool} {b:Frame} {k:List Item} {cs:List Frame} {ops:Array Oper}
theorem finish_inR {i:Nat} {rest:List Nat} {o:Oper} (ho:ops[i]? = some o) (v:Value):(b.atR a (.inRegion ops (i :: rest) :: k)).finish v = b.atR (a.put o.dst v) (.inRegion ops rest :: k):=by
 rw [Frame.finish_atR,ho]; rfl
theorem stepR_ok {i:Nat} {rest:List Nat} {o:Oper} {x:Value} {w':World} (ho:ops[i]? = some o) (hw:Region.wanted o (yielded ops a.tmps) = true) (hnd:∀ c,o.op ≠ .defer c) (hr:XOK ((execOp a.eval o).run P w) x w') :
  step P (lone (b.atR a (.inRegion ops (i :: rest) :: k)) cs w) = .next (lone (b.atR (a.put o.dst x) (.inRegion ops rest :: k)) cs w'):=by
 have hg:=stepGR_op (P:=P) (b:=b) (k:=k) (cs:=cs) (w:=w) (rest:=rest) ho hw
 rw [Oper.semAt_eq _ _ _ hnd] at hg
 rw [← finish_inR ho]
 refine step_lone_go ?_
 rw [hg]
 rcases hr with hr | ⟨rfl,hr⟩ <;> simp [stepG.apply,hr]
theorem stepR_enter {i:Nat} {rest:List Nat} {o:Oper} {f:FuncId} {args:Array Value} {w':World} (ho:ops[i]? = some o) (hw:Region.wanted o (yielded ops a.tmps) = true) (hnd:∀ c,o.op ≠ .defer c) (hr:(execOp a.eval o).run P w = .ok (.enter f args) w') :
  step P (lone (b.atR a (.inRegion ops (i :: rest) :: k)) cs w) = .next (lone (Frame.enter P f args .normal) (b.atR a (.inRegion ops (i :: rest) :: k) :: cs) w'):=by
 have hg:=stepGR_op (P:=P) (b:=b) (k:=k) (cs:=cs) (w:=w) (rest:=rest) ho hw
 rw [Oper.semAt_eq _ _ _ hnd] at hg
 refine step_lone_go ?_
 rw [hg]
 simp [stepG.apply,hr,Frame.atR]
theorem pend_step (hH:HRel w0 G L H w) (hB:FB L af b a) {lo hi:Nat} (hD:DrR G L af d a rest listed) (hA:AlR L lo hi d rest) (hG:G ≤ lo) (hhi:hi ≤ H.nx) {p:Nat} {rest':List Nat} (hrest:rest = p :: rest') (hpl:p ∉ d.left) (hst:Stands P H d.ops af.tm d.al p) :
  ∃ a' w' L' listed',step P (lone (b.atR a (.inRegion d.ops rest :: k)) cs w) = .next (lone (b.atR a' (.inRegion d.ops rest' :: k)) cs w')∧HRel w0 G L' H w'∧Lam.ext lo L L'∧FB L' af b a'∧DrR G L' af d a' rest' listed'∧AlR L' lo hi d rest':=by
 subst hrest
 cases hord:hD.ord with
 | cons hr hk =>
 obtain ⟨hu,o,ho,_⟩:=mem_ready.1 hr
 have hwant:=hD.wanted ho hr
 have hdst:=(regOK_spec hD.ok ho).2.1
 have hnd:=(regOK_spec hD.ok ho).2.2.1
 have hAsub:∀ L',(∀ q bq,q ∈ rest'→q ∉ d.left→d.al.lookup q = some bq→L' bq = none)→AlR L' lo hi d rest':=fun L' hfree =>
  ⟨hA.keys,fun q bq hq hql hlk=>⟨hfree q bq hq hql hlk,(hA.free q bq (List.mem_cons_of_mem _ hq) hql hlk).2⟩,fun q r bq hq hql hr' hrl h1 h2=>hA.dist q r bq (List.mem_cons_of_mem _ hq) hql (List.mem_cons_of_mem _ hr') hrl h1 h2⟩
 have hstand:=hst o ho
 have hpin:=hD.pin p (by simp) hpl o ho
 cases hkd:kindOf P H d.ops af.tm o with
 | skip =>
  rw [hkd] at hstand
  simp only at hstand
  have hw:Region.wanted o (yielded d.ops a.tmps) = false:=by
   rw [hwant]
   cases hq:Region.wanted o (yieldedA d.ops af.tm) with
   | false=>rfl
   | true =>
    unfold kindOf at hkd
    rw [hpin,hq] at hkd
    simp only [cond_true,cond_false] at hkd
    split at hkd
    ·cases hkd
    ·split at hkd <;> cases hkd
  refine ⟨a.put o.dst undef,w,L,listed.setIfInBounds p true,?_,hH,Lam.ext_refl _ _,hB.put _ _,hD.done hB.size (Lam.le_refl L) ho rfl hpl fun s hs=>by rw [hstand s hs]; exact VR.undef L,hAsub L fun q bq hq hql hlk=>(hA.free q bq (List.mem_cons_of_mem _ hq) hql hlk).1⟩
  have:=stepR_op_skip (P:=P) (b:=b) (a:=a) (k:=k) (cs:=cs) (w:=w) (ops:=d.ops) (i:=p) (rest:=rest') (by rw [ho]; simpa using hw)
  rw [ho] at this
  exact this
 | val v =>
  rw [hkd] at hstand
  simp only at hstand
  have hq:Region.wanted o (yieldedA d.ops af.tm) = true∧evalQ P H (aev af.tm) o = some v:=by
   unfold kindOf at hkd
   cases hq:Region.wanted o (yieldedA d.ops af.tm) with
   | false=>rw [hpin,hq] at hkd; cases hkd
   | true =>
    rw [hpin,hq] at hkd
    simp only [cond_true,cond_false] at hkd
    split at hkd
    ·rename_i v' hv; cases hkd; exact ⟨rfl,hv⟩
    ·split at hkd <;> cases hkd
  obtain ⟨x,q1,q2⟩:=evalQ_spec hH hq.2 (hD.opnds hH ho hr)
  refine ⟨a.put o.dst x,w,L,listed.setIfInBounds p true,stepR_ok ho (by rw [hwant]; exact hq.1) hnd (.inl q1),hH,Lam.ext_refl _ _,hB.put _ _,hD.done hB.size (Lam.le_refl L) ho rfl hpl fun s hs=>by rw [hstand s hs]; exact q2,
   hAsub L fun q bq hq hql hlk=>(hA.free q bq (List.mem_cons_of_mem _ hq) hql hlk).1⟩
 | lay ob mk =>
  rw [hkd] at hstand
  simp only at hstand
  obtain ⟨bb,ob',hlk,hob,heq,hslot⟩:=hstand
  have hq:Region.wanted o (yieldedA d.ops af.tm) = true∧evalA P H (aev af.tm) o = some (ob,mk):=by
   unfold kindOf at hkd
   cases hq:Region.wanted o (yieldedA d.ops af.tm) with
   | false=>rw [hpin,hq] at hkd; cases hkd
   | true =>
    rw [hpin,hq] at hkd
    simp only [cond_true,cond_false] at hkd
    split at hkd
    ·cases hkd
    ·split at hkd
     ·rename_i ob1 mk1 hv; cases hkd; exact ⟨rfl,hv⟩
     ·cases hkd
  obtain ⟨x,w',q1,q2,e,q3⟩:=evalA_spec hH hq.2 (hD.opnds hH ho hr)
  obtain ⟨f1,f2,f3⟩:=hA.free p bb (by simp) hpl hlk
  have hat:(L.upd bb ⟨w.heap.size,0,e⟩) bb = some ⟨w.heap.size,0,e⟩:=by unfold Lam.upd; rw [if_pos rfl]
  obtain ⟨r1,r2⟩:=q3 (L.upd bb ⟨w.heap.size,0,e⟩) bb (Lam.le_upd f1) hat
  have hext:Lam.ext lo L (L.upd bb ⟨w.heap.size,0,e⟩):=⟨Lam.le_upd f1,fun c hc=>by unfold Lam.upd; rw [if_neg (by omega)]⟩
  refine ⟨a.put o.dst x,w',L.upd bb ⟨w.heap.size,0,e⟩,listed.setIfInBounds p true,stepR_ok ho (by rw [hwant]; exact hq.1) hnd (.inl q1),hH.real hob f1 (by omega) (by omega) q2 (oeq_rel heq r1),hext,(hB.mono hext.1).put _ _,
   hD.done hB.size hext.1 ho rfl hpl fun s hs=>by rw [hslot s hs]; exact r2,hAsub _ fun q bq hqr hql hlk'=>?_⟩
  have hne:bq ≠ bb:=by
   intro e1
   subst e1
   have:=hA.dist q p bq (List.mem_cons_of_mem _ hqr) hql (by simp) hpl hlk' hlk
   subst this
   exact OrdR.head_not_mem hr hk hqr
  unfold Lam.upd
  rw [if_neg hne]
  exact (hA.free q bq (List.mem_cons_of_mem _ hqr) hql hlk').1
 | eff =>
  rw [hkd] at hstand
  exact hstand.elim
theorem catch_up {lo hi:Nat} (hG:G ≤ lo) (hhi:hi ≤ H.nx) {x:Nat} (hxl:x ∈ d.left) (hafter:∀ j ∈ d.left,j = x ∨ anc d.ops j x = true) :
  ∀ (rest:List Nat) (listed:Array Bool) (L:Lam) (a:Act) (w:World),HRel w0 G L H w→FB L af b a→DrR G L af d a rest listed→AlR L lo hi d rest→(∀ p ∈ rest,p ∉ d.left→Stands P H d.ops af.tm d.al p) →
  ∃ a' w' L' rest' listed',Steps P (lone (b.atR a (.inRegion d.ops rest :: k)) cs w) (lone (b.atR a' (.inRegion d.ops (x :: rest') :: k)) cs w')∧HRel w0 G L' H w'∧Lam.ext lo L L'∧FB L' af b a'∧DrR G L' af d a' (x :: rest') listed'∧AlR L' lo hi d (x :: rest')∧(∀ p ∈ rest',p ∉ d.left→Stands P H d.ops af.tm d.al p)
 | [],_,_,_,_,_,_,hD,_,_=>by have:=hD.left x hxl; cases this
 | h :: rest',listed,L,a,w,hH,hB,hD,hA,hst=>by
  by_cases e:h = x
  ·subst e
   exact ⟨a,w,L,rest',listed,Steps.refl _ _,hH,Lam.ext_refl _ _,hB,hD,hA,fun p hp hpl=>hst p (List.mem_cons_of_mem _ hp) hpl⟩
  ·have hpl:h ∉ d.left:=by
    intro hl
    rcases hafter h hl with q | q
    ·exact e q
    ·cases hord:hD.ord with
     | cons hr hk =>
      have h1:=anc_ready hD.cl hr q
      have h2:=unlisted_of (hD.ord.unlisted x (hD.left x hxl))
      rw [h1] at h2; cases h2
   obtain ⟨a1,w1,L1,l1,s1,h1,e1,b1,d1,al1⟩:=pend_step (P:=P) (k:=k) (cs:=cs) hH hB hD hA hG hhi rfl hpl (hst h (by simp) hpl)
   obtain ⟨a',w',L',r',l',s2,h2,e2,b2,d2,al2,st2⟩:=catch_up hG hhi hxl hafter rest' l1 L1 a1 w1 h1 b1 d1 al1 fun p hp=>hst p (List.mem_cons_of_mem _ hp)
   exact ⟨a',w',L',r',l',Steps.head s1 s2,h2,Lam.ext_trans e1 e2,b2,d2,al2,st2⟩
theorem catch_all {lo hi:Nat} (hG:G ≤ lo) (hhi:hi ≤ H.nx) (hnil:d.left = []) :
  ∀ (rest:List Nat) (listed:Array Bool) (L:Lam) (a:Act) (w:World),HRel w0 G L H w→FB L af b a→DrR G L af d a rest listed→AlR L lo hi d rest→(∀ p ∈ rest,p ∉ d.left→Stands P H d.ops af.tm d.al p) →
  ∃ a' w' L',Steps P (lone (b.atR a (.inRegion d.ops rest :: k)) cs w) (lone (b.atR a' k) cs w')∧HRel w0 G L' H w'∧Lam.ext lo L L'∧FB L' af b a'∧TR L' af.tm a'.tmps
 | [],_,L,a,w,hH,hB,hD,_,_=>⟨a,w,L,.one stepR_region_end,hH,Lam.ext_refl _ _,hB,fun s=>hD.slots s fun p o hp=>by cases hp⟩
 | h :: rest',listed,L,a,w,hH,hB,hD,hA,hst=>by
  have hpl:h ∉ d.left:=by rw [hnil]; simp
  obtain ⟨a1,w1,L1,l1,s1,h1,e1,b1,d1,al1⟩:=pend_step (P:=P) (k:=k) (cs:=cs) hH hB hD hA hG hhi rfl hpl (hst h (by simp) hpl)
  obtain ⟨a',w',L',s2,h2,e2,b2,t2⟩:=catch_all hG hhi hnil rest' l1 L1 a1 w1 h1 b1 d1 al1 fun p hp=>hst p (List.mem_cons_of_mem _ hp)
  exact ⟨a',w',L',Steps.head s1 s2,h2,Lam.ext_trans e1 e2,b2,t2⟩
end
end Go.Run
