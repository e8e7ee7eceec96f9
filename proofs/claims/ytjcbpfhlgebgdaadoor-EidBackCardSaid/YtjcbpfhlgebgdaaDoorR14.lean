import Derived.Test.YtjcbpfhlgebgdaaDoorRZ
noncomputable section
namespace Go.Run
open Go.RowKit
def FunOK (P : Program) (F : T Func) : Prop := ∀ f fn, F.get f = some fn → P.funcs[f]? = some fn ∧ fn.body.isSome = true ∧ fn.name ≠ "runtime.NumGoroutine"
section
variable {P:Program} {F:T Func} {w0:World} {G:Nat} {L:Lam} {H:AH} {w:World}
theorem run_callFunc (hF:FunOK P F) {f:FuncId} {fn:Func} (h:F.get f = some fn) (args:Array Value) (w:World):(callFunc f args).run P w = .ok (.enter f args) w:=by
 obtain ⟨h1,h2,h3⟩:=hF f fn h
 have h4:¬ fn.body = none:=by intro q; rw [q] at h2; cases h2
 simp [callFunc,program,Sem.run,h1,h4,h3]
theorem noEscA_cases (f:FuncId) (args:List Value):noEscA P H f args = .vals [] ∨ ∃ x,args = [x]∧noEscB P f = true∧noEscA P H f args = .vals [(x,H)]:=by
 unfold noEscA
 split
 ·rename_i x
  cases hb:noEscB P f with
  | false=>exact .inl rfl
  | true=>exact .inr ⟨x,rfl,rfl,rfl⟩
 ·exact .inl rfl
theorem callA_spec (_hF:FunOK P F) {f:FuncId} {args:List Value} {g:FuncId} {as:List Value} (h:callA P H F f args = .call g as):g = f∧as = args∧∃ fn,F.get f = some fn∧args.length ≤ fn.ntmps∧small fn.ntmps = true:=by
 unfold callA at h
 split at h
 ·rename_i fn hf
  cases hc:(Nat.ble args.length fn.ntmps && small fn.ntmps) with
  | false=>rw [hc] at h; cases h
  | true =>
   rw [hc] at h
   cases h
   simp only [Bool.and_eq_true] at hc
   exact ⟨rfl,rfl,fn,hf,ble hc.1,hc.2⟩
 ·cases hc:args.all flat with
  | false =>
   rw [hc] at h
   simp only [cond_false] at h
   rcases noEscA_cases (P:=P) (H:=H) f args with e | ⟨x,_,_,e⟩ <;> rw [e] at h <;> cases h
  | true =>
   rw [hc] at h
   simp only [cond_true] at h
   split at h
   ·rename_i v _
    cases hv:flat v <;> rw [hv] at h <;> cases h
   ·cases h
theorem callA_vals {f:FuncId} {args:List Value} {l:List (Value × AH)} (h:callA P H F f args = .vals l):l = [] ∨ ∃ v,l = [(v,H)]∧∀ (L:Lam) (args':List Value),LR L args args'→∀ w,∃ x,(callFunc f args'.toArray).run P w = .ok (.value x) w∧VR L v x:=by
 unfold callA at h
 split at h
 ·rename_i fn hf
  cases hc:(Nat.ble args.length fn.ntmps && small fn.ntmps) with
  | false=>rw [hc] at h; cases h; exact .inl rfl
  | true=>rw [hc] at h; cases h
 ·cases hc:args.all flat with
  | false =>
   rw [hc] at h
   simp only [cond_false] at h
   rcases noEscA_cases (P:=P) (H:=H) f args with e | ⟨x,rfl,hb,e⟩
   ·rw [e] at h; cases h; exact .inl rfl
   ·rw [e] at h; cases h
    refine .inr ⟨x,rfl,fun L args' hl w=>?_⟩
    obtain ⟨y,ys,rfl,h1,h2⟩:=hl.cons_inv
    have:=h2.nil_inv; subst this
    exact ⟨y,noEscB_spec hb y w,h1⟩
  | true =>
   rw [hc] at h
   simp only [cond_true] at h
   split at h
   ·rename_i v hv0
    cases hv:flat v with
    | false=>rw [hv] at h; cases h; exact .inl rfl
    | true =>
     rw [hv] at h; cases h
     exact .inr ⟨v,rfl,fun L args' hl w=>⟨v,externV_spec hc hl hv0 w,VR.refl_flat hv⟩⟩
   ·cases h; exact .inl rfl
theorem callA_round {f:FuncId} {args:List Value} {l:Nat} {as:List Value} (h:callA P H F f args = .round l as):False:=by
 unfold callA at h
 split at h
 ·rename_i fn hf
  cases hc:(Nat.ble args.length fn.ntmps && small fn.ntmps) with
  | false=>rw [hc] at h; cases h
  | true=>rw [hc] at h; cases h
 ·cases hc:args.all flat with
  | false =>
   rw [hc] at h
   simp only [cond_false] at h
   rcases noEscA_cases (P:=P) (H:=H) f args with e | ⟨x,_,_,e⟩ <;> rw [e] at h <;> cases h
  | true =>
   rw [hc] at h
   simp only [cond_true] at h
   split at h
   ·rename_i v _
    cases hv:flat v <;> rw [hv] at h <;> cases h
   ·cases h
theorem run_wrapNil (xt:TypeId) (a:Addr) (s m:String) (w:World):(Builtin.ssaWrapNilChk_ #[xt] xt #[.pointer (some a),strVal s,strVal m]).run P w = .ok (.pointer (some a)) w:=rfl
theorem methodA_spec (h:HRel w0 G L H w) {t:TypeId} {v x:Value} {name:String} {f:FuncId} {r:Value} (hr:methodA P H t v name = some (f,r)) (hx:VR L v x):∃ y,VR L r y∧∀ n,(method (n + 1) t x name).run P w = .ok (f,y) w:=by
 unfold methodA at hr
 split at hr
 ·rename_i ti hti
  split at hr
  ·rename_i m hm
   have c0:=(cc hr).1
   replace hr:=(cc hr).2
   have hp:m.path.toList = []:=by simpa using c0
   have hp':m.path = #[]:=by simpa using c0
   split at hr
   ·rename_i f' e hf hu
    cases hr
    exact ⟨x,hx,fun n=>by simp [method,typeInfo,hti,hm,hp,follow,hf,receiverAt,run_underlying hu,Place.get]⟩
   ·rename_i f' e hf hu
    split at hr
    ·rename_i u hl
     cases hr
     obtain ⟨ad,rfl,y,q1,q2⟩:=loadA_spec h hl hx
     exact ⟨y,q2,fun n=>by simp [method,typeInfo,hti,hm,hp',follow,hf,receiverAt,run_underlying hu,Place.get,run_wrapNil,asAddr,q1]⟩
    ·cases hr
   ·rename_i f' d hn hf hu
    cases hr
    refine ⟨x,hx,fun n=>?_⟩
    cases d <;> first | (exact (hn _ rfl).elim) | simp [method,typeInfo,hti,hm,hp,follow,hf,receiverAt,run_underlying hu,Place.get]
   ·cases hr
  ·cases hr
 ·cases hr
def XSpec (P:Program) (F:T Func) (w0:World) (G:Nat) (L:Lam) (n:Nat) (w:World) (ρ':Ev) (o:Oper):XR→Prop
 | .vals l=>l ≠ []→XRel w0 G L n l ((execOp ρ' o).run P w)
 | .call f args=>∃ args' fn,(execOp ρ' o).run P w = .ok (.enter f args'.toArray) w∧LR L args args'∧F.get f = some fn∧args.length ≤ fn.ntmps∧small fn.ntmps = true
 | .round l args=>∃ args' p,(execOp ρ' o).run P w = (Instr.yield p.b args'.toArray).run P w∧L l = some p∧LR L args args'
theorem storeA_nx {t:TypeId} {x y:Value} {H':AH} (h:storeA P G H t x y = some H'):H.nx ≤ H'.nx:=by
 unfold storeA at h
 split at h
 ·split at h
  ·have:=(cc h).2; cases this; exact Nat.le_refl _
  ·cases h
 ·cases h
theorem mapPutA_nx {t:TypeId} {m k v:Value} {H':AH} (h:mapPutA P G H t m k v = some H'):H.nx ≤ H'.nx:=by
 unfold mapPutA at h
 split at h
 ·cases h
 ·split at h
  ·split at h
   ·replace h:=(cc h).2
    split at h
    ·split at h
     ·have:=(cc h).2; cases this; exact Nat.le_refl _
     ·cases h
    ·cases h; exact Nat.le_refl _
    ·cases h
   ·cases h
  ·cases h
theorem nextA_nx {it v:Value} {s:Bool} {H':AH} (h:(v,H') ∈ nextA G H it s):H.nx ≤ H'.nx:=by
 unfold nextA at h
 split at h
 ·rename_i b
  split at h
  ·rename_i str pos hb
   cases hc:(Nat.ble G b && small b) with
   | false=>rw [hc] at h; simp at h
   | true =>
    rw [hc] at h
    cases hl:Nat.blt pos str.size with
    | true=>rw [hl] at h; simp at h; rw [h.2]; exact Nat.le_refl _
    | false=>rw [hl] at h; simp at h; rw [h.2]; exact Nat.le_refl _
  ·simp at h; rw [h.2]; exact Nat.le_refl _
  ·split at h
   ·rename_i m since seen last hb _ es clock hm
    cases hc:(Nat.ble G b && small b && !(!seen.isEmpty && !es.isEmpty && es.all (fun e=>Nat.ble last e.born))) with
    | false=>rw [hc] at h; simp at h
    | true =>
     rw [hc] at h
     simp only [cond_true,List.mem_append,List.mem_map] at h
     rcases h with h | ⟨e,_,h⟩
     ·cases ho:(List.filter (fun e=>Nat.blt e.born since) (List.filter (fun e=>!seen.toList.contains e.born) es)).isEmpty with
      | true=>rw [ho] at h; simp at h; rw [h.2]; exact Nat.le_refl _
      | false=>rw [ho] at h; simp at h
     ·cases h; exact Nat.le_refl _
   ·simp at h
  ·simp at h
 ·simp at h
theorem evalX_spec (hF:FunOK P F) (h:HRel w0 G L H w) {ρ ρ':Ev} {o:Oper} (hop:∀ x ∈ o.op.operands,VR L (ρ x) (ρ' x)):XSpec P F w0 G L H.nx w ρ' o (evalX P F G H ρ o):=by
 have nope:∀ {l:List (Value × AH)},l = []→XSpec P F w0 G L H.nx w ρ' o (.vals l):=fun hl hne=>absurd hl hne
 generalize hq:evalX P F G H ρ o = q
 unfold evalX at hq
 split at hq
 ·rename_i s d x ho
  cases hs:markA P G H s d (ρ x) with
  | none=>rw [hs] at hq; subst hq; exact nope rfl
  | some r =>
   obtain ⟨v,H'⟩:=r
   rw [hs] at hq; subst hq
   obtain ⟨y,w',q1,q2,q3⟩:=markA_spec h hs (hop x (by simp [ho,Op.operands]))
   exact fun _=>⟨_,_,List.mem_singleton.2 rfl,markA_nx hs,y,w',L,Lam.ext_refl _ L,q2,q3,.inl (by simp [execOp,ho,q1])⟩
 ·rename_i t a x ho
  cases hs:storeA P G H t (ρ a) (ρ x) with
  | none=>rw [hs] at hq; subst hq; exact nope rfl
  | some H' =>
   rw [hs] at hq; subst hq
   have HNX:H.nx ≤ H'.nx:=storeA_nx hs
   obtain ⟨w',q1,q2⟩:=storeA_spec h hs (hop a (by simp [ho,Op.operands])) (hop x (by simp [ho,Op.operands]))
   exact fun _=>⟨_,_,List.mem_singleton.2 rfl,HNX,undef,w',L,Lam.ext_refl _ L,q2,VR.undef L,.inr ⟨rfl,by simp [execOp,ho,q1]⟩⟩
 ·rename_i t m k v ho
  cases hs:mapPutA P G H t (ρ m) (ρ k) (ρ v) with
  | none=>rw [hs] at hq; subst hq; exact nope rfl
  | some H' =>
   rw [hs] at hq; subst hq
   have HNX:H.nx ≤ H'.nx:=mapPutA_nx hs
   obtain ⟨w',q1,q2⟩:=mapPutA_spec h hs (hop m (by simp [ho,Op.operands])) (hop k (by simp [ho,Op.operands])) (hop v (by simp [ho,Op.operands]))
   exact fun _=>⟨_,_,List.mem_singleton.2 rfl,HNX,undef,w',L,Lam.ext_refl _ L,q2,VR.undef L,.inr ⟨rfl,by simp [execOp,ho,q1]⟩⟩
 ·rename_i t m k v ho
  cases hs:mapPutA P G H t (ρ m) (ρ k) (ρ v) with
  | none=>rw [hs] at hq; subst hq; exact nope rfl
  | some H' =>
   rw [hs] at hq; subst hq
   have HNX:H.nx ≤ H'.nx:=mapPutA_nx hs
   obtain ⟨w',q1,q2⟩:=mapPutA_spec h hs (hop m (by simp [ho,Op.operands])) (hop k (by simp [ho,Op.operands])) (hop v (by simp [ho,Op.operands]))
   exact fun _=>⟨_,_,List.mem_singleton.2 rfl,HNX,undef,w',L,Lam.ext_refl _ L,q2,VR.undef L,.inr ⟨rfl,by simp [execOp,ho,q1]⟩⟩
 ·rename_i t m k ho
  cases hs:mapEntryA P G H t (ρ m) (ρ k) with
  | none=>rw [hs] at hq; subst hq; exact nope rfl
  | some r =>
   obtain ⟨v,H'⟩:=r
   rw [hs] at hq; subst hq
   obtain ⟨x,w',q1,q2,q3⟩:=mapEntryA_spec h hs (hop m (by simp [ho,Op.operands])) (hop k (by simp [ho,Op.operands]))
   exact fun _=>⟨_,_,List.mem_singleton.2 rfl,mapEntryA_nx hs,x,w',L,Lam.ext_refl _ L,q3,q2,.inl (by simp [execOp,ho,q1])⟩
 ·rename_i t m s x ho
  cases hs:entryStoreA G H (ρ m) (ρ s) (ρ x) with
  | none=>rw [hs] at hq; subst hq; exact nope rfl
  | some H' =>
   rw [hs] at hq; subst hq
   have HNX:H.nx ≤ H'.nx:=entryStoreA_nx hs
   obtain ⟨w',q1,q2⟩:=entryStoreA_spec (P:=P) (t:=t) h hs (hop m (by simp [ho,Op.operands])) (hop s (by simp [ho,Op.operands])) (hop x (by simp [ho,Op.operands]))
   exact fun _=>⟨_,_,List.mem_singleton.2 rfl,HNX,undef,w',L,Lam.ext_refl _ L,q2,VR.undef L,.inr ⟨rfl,by simp [execOp,ho,q1]⟩⟩
 ·rename_i it s ho
  subst hq
  intro hne
  obtain ⟨v,H',q0,x,w',q1,q2,q3⟩:=nextA_spec (P:=P) (ty:=o.type) h hne (hop it (by simp [ho,Op.operands]))
  exact ⟨v,H',q0,nextA_nx q0,x,w',L,Lam.ext_refl _ L,q2,q3,.inl (by simp [execOp,ho,q1])⟩
 ·rename_i it ho
  cases hs:entryA H (ρ it) with
  | none=>rw [hs] at hq; subst hq; exact nope rfl
  | some v =>
   rw [hs] at hq; subst hq
   obtain ⟨x,q1,q2⟩:=entryA_spec (P:=P) h hs (hop it (by simp [ho,Op.operands]))
   exact fun _=>⟨_,_,List.mem_singleton.2 rfl,Nat.le_refl _,x,w,L,Lam.ext_refl _ L,h,q2,.inl (by simp [execOp,ho,q1])⟩
 ·rename_i args tys ho
  split at hq
  ·rename_i s x t u ha ht
   cases hs:appendA P G H t u (ρ s) (ρ x) with
   | none =>
    rw [hs] at hq
    simp only at hq
    cases hz:appendZ P H t u (ρ s) (ρ x) with
    | none=>rw [hz] at hq; subst hq; exact nope rfl
    | some r =>
     obtain ⟨v,H'⟩:=r
     rw [hz] at hq; subst hq
     have hea:args = #[s,x]:=by apply Array.ext'; simp [ha]
     have het:tys = #[t,u]:=by apply Array.ext'; simp [ht]
     obtain ⟨y,w',L',q1,q2,q3,q4⟩:=appendZ_spec (ty:=o.type) h hz (hop s (by simp [ho,Op.operands,Call.operands,hea])) (hop x (by simp [ho,Op.operands,Call.operands,hea]))
     refine fun _=>⟨_,_,List.mem_singleton.2 rfl,appendZ_nx hz,y,w',L',q2,q3,q4,.inl ?_⟩
     simp [execOp,ho,resolve,invoke,builtin,hea,het,q1]
   | some r =>
    obtain ⟨v,H'⟩:=r
    rw [hs] at hq; subst hq
    have hea:args = #[s,x]:=by apply Array.ext'; simp [ha]
    have het:tys = #[t,u]:=by apply Array.ext'; simp [ht]
    obtain ⟨q0,y,w',L',q1,q2,q3,q4⟩:=appendA_spec (ty:=o.type) h hs (hop s (by simp [ho,Op.operands,Call.operands,hea])) (hop x (by simp [ho,Op.operands,Call.operands,hea]))
    refine fun _=>⟨_,_,List.mem_singleton.2 rfl,q0,y,w',L',q2,q3,q4,.inl ?_⟩
    simp [execOp,ho,resolve,invoke,builtin,hea,het,q1]
  ·subst hq; exact nope rfl
 ·rename_i args tys ho
  split at hq
  ·rename_i x t ha ht
   cases hs:clearA P G H t (ρ x) with
   | none=>rw [hs] at hq; subst hq; exact nope rfl
   | some r =>
    obtain ⟨v,H'⟩:=r
    rw [hs] at hq; subst hq
    have hea:args = #[x]:=by apply Array.ext'; simp [ha]
    have het:tys = #[t]:=by apply Array.ext'; simp [ht]
    obtain ⟨w',q1,q2,rfl⟩:=clearA_spec (ty:=o.type) h hs (hop x (by simp [ho,Op.operands,Call.operands,hea]))
    refine fun _=>⟨_,_,List.mem_singleton.2 rfl,clearA_nx hs,_,w',L,Lam.ext_refl _ L,q2,VR.refl_flat (by rfl),.inl ?_⟩
    simp [execOp,ho,resolve,invoke,builtin,hea,het,q1]
  ·subst hq; exact nope rfl
 ·rename_i args tys ho
  split at hq
  ·rename_i p l t u ha ht
   cases hs:ustrA P G H t (ρ p) (ρ l) with
   | none=>rw [hs] at hq; subst hq; exact nope rfl
   | some r =>
    obtain ⟨v,H'⟩:=r
    rw [hs] at hq; subst hq
    have hea:args = #[p,l]:=by apply Array.ext'; simp [ha]
    have het:tys = #[t,u]:=by apply Array.ext'; simp [ht]
    obtain ⟨w',q1,q2,q3⟩:=ustrA_spec (it:=u) (ty:=o.type) h hs (hop p (by simp [ho,Op.operands,Call.operands,hea])) (hop l (by simp [ho,Op.operands,Call.operands,hea]))
    refine fun _=>⟨_,_,List.mem_singleton.2 rfl,ustrA_nx hs,v,w',L,Lam.ext_refl _ L,q3,VR.refl_flat q2,.inl ?_⟩
    simp [execOp,ho,resolve,invoke,builtin,hea,het,q1]
  ·subst hq; exact nope rfl
 ·rename_i args tys ho
  split at hq
  ·rename_i m k t u ha ht
   cases hs:deleteA P G H t (ρ m) (ρ k) with
   | none=>rw [hs] at hq; subst hq; exact nope rfl
   | some H' =>
    rw [hs] at hq; subst hq
    have hea:args = #[m,k]:=by apply Array.ext'; simp [ha]
    have het:tys = #[t,u]:=by apply Array.ext'; simp [ht]
    obtain ⟨w',q1,q2⟩:=deleteA_spec (t2:=u) (ty:=o.type) h hs (hop m (by simp [ho,Op.operands,Call.operands,hea])) (hop k (by simp [ho,Op.operands,Call.operands,hea]))
    refine fun _=>⟨_,_,List.mem_singleton.2 rfl,deleteA_nx hs,_,w',L,Lam.ext_refl _ L,q2,VR.refl_flat (by rfl),.inl ?_⟩
    simp [execOp,ho,resolve,invoke,builtin,hea,het,q1,undef]
  ·subst hq; exact nope rfl
 ·rename_i f args tys ho
  have hf:=hop f (by simp [ho,Op.operands,Call.operands])
  have hm:∀ x ∈ args.toList,x ∈ o.op.operands:=fun x hx=>by
   rw [ho]; exact Array.mem_append.2 (.inr (by simpa using hx))
  have hrel:=LR_map (ρ:=ρ) (ρ':=ρ') (L:=L) args.toList fun x hx=>hop x (hm x hx)
  split at hq
  ·rename_i g first captured hρ
   rw [hρ] at hf
   generalize hf':ρ' f = f' at hf
   cases hf with
   | func hfr a1 a2 b1 b2 =>
    rename_i f2 first' captured'
    cases hfr
    have hl:LR L (first.toList++args.toList.map ρ++captured.toList) (first'.toList++args.toList.map ρ'++captured'.toList) :=
     ((AR.toList ⟨a1,b1⟩).append hrel).append (AR.toList ⟨a2,b2⟩)
    cases q with
    | vals l =>
     rcases callA_vals hq with hv | ⟨v,rfl,hext⟩
     ·exact nope hv
     ·obtain ⟨x,hx,hvx⟩:=hext L _ hl w
      have e:(first'.toList++args.toList.map ρ'++captured'.toList).toArray = first'++args.map ρ'++captured':=by apply Array.ext'; simp
      rw [e] at hx
      refine fun _=>⟨_,_,List.mem_singleton.2 rfl,Nat.le_refl _,x,w,L,Lam.ext_refl _ L,h,hvx,.inl ?_⟩
      simp only [execOp,ho,resolve,hf',Deferred.ofValue,Sem.run_bind,Sem.run_pure,Result.andThen_ok,invoke]
      exact hx
    | round l as=>exact (callA_round hq).elim
    | call g' as =>
     obtain ⟨rfl,rfl,fn,c1,c2,c3⟩:=callA_spec hF hq
     refine ⟨first'.toList++args.toList.map ρ'++captured'.toList,fn,?_,hl,c1,c2,c3⟩
     have hcall:=run_callFunc (P:=P) hF c1 (first'++args.map ρ'++captured') w
     have e:(first'.toList++args.toList.map ρ'++captured'.toList).toArray = first'++args.map ρ'++captured':=by apply Array.ext'; simp
     rw [e]
     simp only [execOp,ho,resolve,hf',Deferred.ofValue,Sem.run_bind,Sem.run_pure,Result.andThen_ok,invoke]
     exact hcall
  ·rename_i l first yc hρ
   rw [hρ] at hf
   generalize hf':ρ' f = f' at hf
   cases hf with
   | func hfr a1 a2 b1 b2 =>
    rename_i f2 first' captured'
    cases hfr with
    | same hff=>simp [fnFlat] at hff
    | yield hp =>
     rename_i p
     subst hq
     have hl:LR L (first.toList++args.toList.map ρ) (first'.toList++args.toList.map ρ'):=(AR.toList ⟨a1,b1⟩).append hrel
     refine ⟨_,p,?_,hp,hl⟩
     have e:(first'.toList++args.toList.map ρ').toArray = first'++args.map ρ':=by apply Array.ext'; simp
     rw [e]
     simp only [execOp,ho,resolve,hf',Deferred.ofValue,Sem.run_bind,Sem.run_pure,Result.andThen_ok,invoke]
  ·subst hq; exact nope rfl
 ·rename_i r name args tys ho
  have hr:=hop r (by simp [ho,Op.operands,Call.operands])
  have hm:∀ x ∈ args.toList,x ∈ o.op.operands:=fun x hx=>by
   rw [ho]; exact Array.mem_append.2 (.inr (by simpa using hx))
  have hrel:=LR_map (ρ:=ρ) (ρ':=ρ') (L:=L) args.toList fun x hx=>hop x (hm x hx)
  split at hq
  ·rename_i t v hρ
   rw [hρ] at hr
   generalize hr':ρ' r = r' at hr
   cases hr with
   | iface hv =>
    rename_i x
    split at hq
    ·rename_i f recv hmeth
     obtain ⟨y,hy,hrun⟩:=methodA_spec h hmeth hv
     cases q with
     | vals l =>
      rcases callA_vals hq with hv | ⟨v,rfl,hext⟩
      ·exact nope hv
      ·obtain ⟨x2,hx,hvx⟩:=hext L _ (hrel.cons hy) w
       have e:(y :: args.toList.map ρ').toArray = #[y]++args.map ρ':=by apply Array.ext'; simp
       rw [e] at hx
       refine fun _=>⟨_,_,List.mem_singleton.2 rfl,Nat.le_refl _,x2,w,L,Lam.ext_refl _ L,h,hvx,.inl ?_⟩
       have hdep:∃ n,P.types.size + Made.depth = n + 1:=by
        have:0 < Made.depth:=by decide
        exact ⟨P.types.size + Made.depth - 1,by omega⟩
       obtain ⟨n,hn⟩:=hdep
       have hmr:=hrun n
       have e0:(#[Value.iface t x]++args.map ρ')[0]? = some (.iface t x):=by
        rw [Array.getElem?_append_left (by exact Nat.zero_lt_one)]; rfl
       have e1:(#[Value.iface t x]++args.map ρ').extract 1 (#[Value.iface t x]++args.map ρ').size = args.map ρ':=by
        apply Array.ext'; simp
        exact List.take_of_length_le (by simp)
       have e2:program.run P w = .ok P w:=rfl
       simp only [execOp,ho,resolve,hr',Sem.run_bind,Sem.run_pure,Result.andThen_ok,invoke,e0,e1,callMethod,e2,hn,hmr]
       exact hx
     | round l as=>exact (callA_round hq).elim
     | call g' as =>
      obtain ⟨rfl,rfl,fn,c1,c2,c3⟩:=callA_spec hF hq
      refine ⟨y :: args.toList.map ρ',fn,?_,hrel.cons hy,c1,c2,c3⟩
      have hcall:=run_callFunc (P:=P) hF c1 (#[y]++args.map ρ') w
      have e:(y :: args.toList.map ρ').toArray = #[y]++args.map ρ':=by apply Array.ext'; simp
      rw [e]
      have hdep:∃ n,P.types.size + Made.depth = n + 1:=by
       have:0 < Made.depth:=by decide
       exact ⟨P.types.size + Made.depth - 1,by omega⟩
      obtain ⟨n,hn⟩:=hdep
      have hmr:=hrun n
      have e0:(#[Value.iface t x]++args.map ρ')[0]? = some (.iface t x):=by
       rw [Array.getElem?_append_left (by exact Nat.zero_lt_one)]; rfl
      have e1:(#[Value.iface t x]++args.map ρ').extract 1 (#[Value.iface t x]++args.map ρ').size = args.map ρ':=by
       apply Array.ext'; simp
       exact List.take_of_length_le (by simp)
      have e2:program.run P w = .ok P w:=rfl
      simp only [execOp,ho,resolve,hr',Sem.run_bind,Sem.run_pure,Result.andThen_ok,invoke,e0,e1,callMethod,e2,hn,hmr]
      exact hcall
    ·subst hq; exact nope rfl
  ·subst hq; exact nope rfl
 ·subst hq; exact nope rfl
theorem evalOp_spec (hF:FunOK P F) (h:HRel w0 G L H w) {ρ ρ':Ev} {o:Oper} (hop:∀ x ∈ o.op.operands,VR L (ρ x) (ρ' x)):XSpec P F w0 G L H.nx w ρ' o (evalOp P F G H ρ o):=by
 unfold evalOp
 cases hQ:evalQ P H ρ o with
 | some v =>
  obtain ⟨x,q1,q2⟩:=evalQ_spec h hQ hop
  exact fun _=>⟨v,H,List.mem_singleton.2 rfl,Nat.le_refl _,x,w,L,Lam.ext_refl _ L,h,q2,.inl q1⟩
 | none =>
  cases hA:evalA P H ρ o with
  | some r =>
   obtain ⟨ob,mk⟩:=r
   simp only
   cases hs:small H.nx with
   | false=>exact fun hne=>absurd rfl hne
   | true =>
    obtain ⟨x,w',q1,q2⟩:=evalA_spec h hA hop
    obtain ⟨L',l1,l2,l3⟩:=h.laid q2 hs
    exact fun _=>⟨_,_,List.mem_singleton.2 rfl,Nat.le_succ _,x,w',L',l1,l2,l3,.inl q1⟩
  | none=>exact evalX_spec hF h hop
end
end Go.Run
