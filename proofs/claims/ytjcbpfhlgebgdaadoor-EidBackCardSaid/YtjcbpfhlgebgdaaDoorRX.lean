import Derived.Test.YtjcbpfhlgebgdaaDoorR21
noncomputable section
namespace Go.Run
open Go.RowKit
section
variable {P:Program} {F:T Func} {w0:World} {G:Nat} {L:Lam} {H:AH} {w:World} {cs0:List Frame} {f0:FuncId}
theorem endRound_dfd {c:Cfg} {l:Nat} {jump:Option Code} {ls:List Cfg} (hq:endRoundA P G c l jump = ls) (hne:ls ≠ []):c.fr.dfd = false:=by
 unfold endRoundA at hq
 split at hq
 ·split at hq
  ·obtain ⟨c0,_⟩:=condL hq hne
   simp only [Bool.and_eq_true,Bool.not_eq_true'] at c0
   exact c0.2
  ·exact absurd hq.symm hne
 ·exact absurd hq.symm hne
theorem stepR_defer {b:Frame} {a:Act} {k:List Item} {cs:List Frame} {ops:Array Oper} {i:Nat} {rest:List Nat} {o:Oper} {d:Deferred} (hro:b.roundOf = none) (ho:ops[i]? = some o) (hw:Region.wanted o (yielded ops a.tmps) = true) (hr:(execOp a.eval o).run P w = .ok (.defer d) w) :
  step P (lone (b.atR a (.inRegion ops (i :: rest) :: k)) cs w) = .next (lone (b.atR { a.put o.dst undef with defers:=d :: a.defers } (.inRegion ops rest :: k)) cs w):=by
 have hg:=stepGR_op (P:=P) (b:=b) (k:=k) (cs:=cs) (w:=w) (rest:=rest) ho hw
 rw [hro,Oper.semAt_none] at hg
 refine step_lone_go ?_
 rw [hg]
 have e:({ b.atR a (.inRegion ops (i :: rest) :: k) with defers:=d :: (b.atR a (.inRegion ops (i :: rest) :: k)).defers }:Frame) = b.atR { a with defers:=d :: a.defers } (.inRegion ops (i :: rest) :: k):=rfl
 simp only [stepG.apply,if_true,Sem.runT_eq,hr]
 simp only [GStep.after,e,finish_inR ho]
 cases o.dst <;> rfl
theorem stepR_recover {b:Frame} {a:Act} {k:List Item} {cs:List Frame} {ops:Array Oper} {i:Nat} {rest:List Nat} {o:Oper} (hro:b.roundOf = none) (ho:ops[i]? = some o) (hw:Region.wanted o (yielded ops a.tmps) = true) (hr:(execOp a.eval o).run P w = .ok .recover w)
  (ht:tryRecover (b.atR a (.inRegion ops (i :: rest) :: k)) cs = none) :
  step P (lone (b.atR a (.inRegion ops (i :: rest) :: k)) cs w) = .next (lone (b.atR (a.put o.dst .nilIface) (.inRegion ops rest :: k)) cs w):=by
 have hg:=stepGR_op (P:=P) (b:=b) (k:=k) (cs:=cs) (w:=w) (rest:=rest) ho hw
 rw [hro,Oper.semAt_none] at hg
 refine step_lone_go ?_
 rw [hg]
 have e:(b.atR a (.inRegion ops (i :: rest) :: k)).roundOf = none:=hro
 simp only [stepG.apply,if_true,Sem.runT_eq,hr,e,ht]
 simp only [GStep.after,finish_inR ho]
 rfl
theorem dfr_met {c:Cfg} {b:Frame} {a:Act} {k k':List Item} {ops:Array Oper} {i:Nat} {rest:List Nat} {o:Oper} {cfs:List Frame} (hH:HRel w0 G L c.H w) (hB:FB L c.fr b a) (hret:c.fr.ret = false) (hd:c.fr.dr = none) (hT:TR L c.fr.tm a.tmps) (hk:IR L k k') (ho:ops[i]? = some o)
  (hC:CR G L c.fr.lo c.cs cfs) (hlo:c.fr.lo ≤ c.H.nx) (hG:G ≤ c.fr.lo) (hb:botFn c.fr c.cs = f0) {l:List Cfg} (hq:dfrOut G c o ops rest k = .go l) (hne:l ≠ []) :
  Met P w0 G cs0 f0 l (lone (b.atR a (.inRegion ops (i :: rest) :: k')) (cfs++cs0) w):=by
 unfold dfrOut at hq
 obtain ⟨c0,hq⟩:=condO hq hne
 simp only [Bool.and_eq_true] at c0
 obtain ⟨⟨c1,c2⟩,c3⟩:=c0
 have hwant:=wanted_rel (a:=a) hT (ops:=ops) (o:=o)
 rw [c3] at hwant
 have hop:=opnds_rel hH hT c2
 split at hq
 ·simp only [Out.go.injEq] at hq; exact absurd hq.symm hne
 ·rename_i hrnd
  have hro:b.roundOf = none:=by
   have:=hB.rnd
   rw [hrnd] at this
   cases hbr:b.roundOf with
   | none=>rfl
   | some x=>rw [hbr] at this; cases this
  split at hq
  ·rename_i cl hop1
   split at hq
   ·rename_i f hcal
    split at hq
    ·rename_i g first captured hf
     simp only [Out.go.injEq] at hq
     subst hq
     have hfr:=hop f (by simp [hop1,Op.operands,Call.operands,hcal])
     rw [hf] at hfr
     generalize hf':a.eval f = f' at hfr
     cases hfr with
     | func hfr a1 a2 b1 b2 =>
      rename_i f2 first' captured'
      cases hfr
      have hargs:=LR_map (ρ:=aev c.fr.tm) (ρ':=a.eval) (L:=L) cl.args.toList fun x hx=>hop x (by
       rw [hop1]; simp only [Op.operands,Call.operands,Array.mem_append]; exact .inr (by simpa using hx))
      have hrun:(execOp a.eval o).run P w = .ok (.defer { target:=.fn (.func g) captured',args:=first'++cl.args.map a.eval }) w:=by
       simp only [execOp,hop1,resolve,hcal,hf',Deferred.ofValue,Sem.run_bind,Sem.run_pure,Result.andThen_ok]
      have hstep:=stepR_defer (P:=P) (k:=k') (cs:=cfs++cs0) (rest:=rest) hro ho hwant hrun
      have hput:=hB.put o.dst undef
      refine ⟨_,List.mem_singleton.2 rfl,_,.one hstep,L,_,cfs,w,rfl,hH,⟨b,{ a.put o.dst undef with defers:={ target:=.fn (.func g) captured',args:=first'++cl.args.map a.eval } :: a.defers },⟨hput.fn,hput.kind,hput.size,?_,hput.rnd⟩,.inl ⟨hret,_,rfl,?_⟩⟩,hC,hlo,hG,botFn_same (fr:=c.fr) rfl hb⟩
      ·refine .clo ?_ (AR.toList ⟨a2,b2⟩) hB.defers
       have:=(AR.toList (L:=L) ⟨a1,b1⟩).append hargs
       simpa using this
      ·unfold BodyR
       simp only [hd]
       exact ⟨.same rfl hk,hT.put hB.size c1 (VR.undef L)⟩
    ·simp only [Out.go.injEq] at hq; exact absurd hq.symm hne
   ·simp only [Out.go.injEq] at hq; exact absurd hq.symm hne
  ·rename_i args tys hop1
   obtain ⟨cr,hq⟩:=condO hq hne
   simp only [Out.go.injEq] at hq
   subst hq
   have hrun:(execOp a.eval o).run P w = .ok .recover w:=by
    simp only [execOp,hop1,resolve,Sem.run_bind,Sem.run_pure,Result.andThen_ok,invoke]
    rfl
   have ht:tryRecover (b.atR a (.inRegion ops (i :: rest) :: k')) (cfs++cs0) = none:=by
    have hkd:(b.atR a (.inRegion ops (i :: rest) :: k')).kind = kindD c.fr.dfd:=hB.kind
    unfold canRec at cr
    split at cr
    ·rename_i hf
     rw [hf] at hkd
     unfold tryRecover
     rw [hkd]
     rfl
    ·rename_i hf
     rw [hf] at hkd
     split at cr
     ·rename_i kf ks hcs
      rw [hcs] at hC
      cases hC with
      | cons hW r1 r2 hC' =>
       rcases hW with hW | hW
       ·rw [hW.1] at cr; cases cr
       ·obtain ⟨_,b2,a2,todo2,_,_,_,rfl⟩:=hW
        unfold tryRecover
        rw [hkd]
        rfl
     ·cases cr
   have hstep:=stepR_recover (P:=P) (k:=k') (cs:=cfs++cs0) (rest:=rest) hro ho hwant hrun ht
   have hput:=hB.put o.dst .nilIface
   refine ⟨_,List.mem_singleton.2 rfl,_,.one hstep,L,_,cfs,w,rfl,hH,⟨b,_,⟨hput.fn,hput.kind,hput.size,hput.defers,hput.rnd⟩,.inl ⟨hret,_,rfl,?_⟩⟩,hC,hlo,hG,botFn_same (fr:=c.fr) rfl hb⟩
   unfold BodyR
   simp only [hd]
   exact ⟨.same rfl hk,hT.put hB.size c1 .nili⟩
  ·simp only [Out.go.injEq] at hq; exact absurd hq.symm hne
end
end Go.Run
