import Derived.Test.YtecpknddocikaaaGreatDoorRZ
noncomputable section
namespace Go.Run
open Go.RowKit
def FunOK (P : Program) (F : T Func) : Prop := ∀ f fn, F.get f = some fn → P.funcs[f]? = some fn ∧ fn.body.isSome = true ∧ fn.name ≠ "runtime.NumGoroutine"
section
variable {P : Program} {F : T Func} {w0 : World} {G : Nat} {L : Lam} {H : AH} {w : World}
theorem run_callFunc (hF : FunOK P F) {f : FuncId} {fn : Func} (h : F.get f = some fn) (args : Array Value) (w : World) : (callFunc f args).run P w = .ok (.enter f args) w := by
  obtain ⟨h1, h2, h3⟩ := hF f fn h
  have h4 : ¬ fn.body = none := by intro q; rw [q] at h2; cases h2
  simp [callFunc, program, Sem.run, h1, h4, h3]
theorem noEscA_cases (f : FuncId) (args : List Value) : noEscA P H f args = .vals [] ∨ ∃ x, args = [x] ∧ noEscB P f = true ∧ noEscA P H f args = .vals [(x, H)] := by
  unfold noEscA
  split
  · rename_i x
    cases hb : noEscB P f with
    | false => exact .inl rfl
    | true => exact .inr ⟨x, rfl, rfl, rfl⟩
  · exact .inl rfl
theorem callA_spec (_hF : FunOK P F) {f : FuncId} {args : List Value} {g : FuncId} {as : List Value} (h : callA P H F f args = .call g as) : g = f ∧ as = args ∧ ∃ fn, F.get f = some fn ∧ args.length ≤ fn.ntmps ∧ small fn.ntmps = true := by
  unfold callA at h
  split at h
  · rename_i fn hf
    cases hc : (Nat.ble args.length fn.ntmps && small fn.ntmps) with
    | false => rw [hc] at h; cases h
    | true =>
      rw [hc] at h
      cases h
      simp only [Bool.and_eq_true] at hc
      exact ⟨rfl, rfl, fn, hf, ble hc.1, hc.2⟩
  · cases hc : args.all flat with
    | false =>
      rw [hc] at h
      simp only [cond_false] at h
      rcases noEscA_cases (P := P) (H := H) f args with e | ⟨x, _, _, e⟩ <;> rw [e] at h <;> cases h
    | true =>
      rw [hc] at h
      simp only [cond_true] at h
      split at h
      · rename_i v _
        cases hv : flat v <;> rw [hv] at h <;> cases h
      · cases h
theorem callA_vals {f : FuncId} {args : List Value} {l : List (Value × AH)} (h : callA P H F f args = .vals l) : l = [] ∨ ∃ v, l = [(v, H)] ∧ ∀ (L : Lam) (args' : List Value), LR L args args' → ∀ w, ∃ x, (callFunc f args'.toArray).run P w = .ok (.value x) w ∧ VR L v x := by
  unfold callA at h
  split at h
  · rename_i fn hf
    cases hc : (Nat.ble args.length fn.ntmps && small fn.ntmps) with
    | false => rw [hc] at h; cases h; exact .inl rfl
    | true => rw [hc] at h; cases h
  · cases hc : args.all flat with
    | false =>
      rw [hc] at h
      simp only [cond_false] at h
      rcases noEscA_cases (P := P) (H := H) f args with e | ⟨x, rfl, hb, e⟩
      · rw [e] at h; cases h; exact .inl rfl
      · rw [e] at h; cases h
        refine .inr ⟨x, rfl, fun L args' hl w => ?_⟩
        obtain ⟨y, ys, rfl, h1, h2⟩ := hl.cons_inv
        have := h2.nil_inv; subst this
        exact ⟨y, noEscB_spec hb y w, h1⟩
    | true =>
      rw [hc] at h
      simp only [cond_true] at h
      split at h
      · rename_i v hv0
        cases hv : flat v with
        | false => rw [hv] at h; cases h; exact .inl rfl
        | true =>
          rw [hv] at h; cases h
          exact .inr ⟨v, rfl, fun L args' hl w => ⟨v, externV_spec hc hl hv0 w, VR.refl_flat hv⟩⟩
      · cases h; exact .inl rfl
theorem callA_round {f : FuncId} {args : List Value} {l : Nat} {as : List Value} (h : callA P H F f args = .round l as) : False := by
  unfold callA at h
  split at h
  · rename_i fn hf
    cases hc : (Nat.ble args.length fn.ntmps && small fn.ntmps) with
    | false => rw [hc] at h; cases h
    | true => rw [hc] at h; cases h
  · cases hc : args.all flat with
    | false =>
      rw [hc] at h
      simp only [cond_false] at h
      rcases noEscA_cases (P := P) (H := H) f args with e | ⟨x, _, _, e⟩ <;> rw [e] at h <;> cases h
    | true =>
      rw [hc] at h
      simp only [cond_true] at h
      split at h
      · rename_i v _
        cases hv : flat v <;> rw [hv] at h <;> cases h
      · cases h
theorem run_wrapNil (xt : TypeId) (a : Addr) (s m : String) (w : World) : (Builtin.ssaWrapNilChk_ #[xt] xt #[.pointer (some a), strVal s, strVal m]).run P w = .ok (.pointer (some a)) w := rfl
theorem methodA_spec (h : HRel w0 G L H w) {t : TypeId} {v x : Value} {name : String} {f : FuncId} {r : Value} (hr : methodA P H t v name = some (f, r)) (hx : VR L v x) : ∃ y, VR L r y ∧ ∀ n, (method (n + 1) t x name).run P w = .ok (f, y) w := by
  unfold methodA at hr
  split at hr
  · rename_i ti hti
    split at hr
    · rename_i m hm
      have c0 := (cc hr).1
      replace hr := (cc hr).2
      have hp : m.path.toList = [] := by simpa using c0
      have hp' : m.path = #[] := by simpa using c0
      split at hr
      · rename_i f' e hf hu
        cases hr
        exact ⟨x, hx, fun n => by simp [method, typeInfo, hti, hm, hp, follow, hf, receiverAt, run_underlying hu, Place.get]⟩
      · rename_i f' e hf hu
        split at hr
        · rename_i u hl
          cases hr
          obtain ⟨ad, rfl, y, q1, q2⟩ := loadA_spec h hl hx
          exact ⟨y, q2, fun n => by simp [method, typeInfo, hti, hm, hp', follow, hf, receiverAt, run_underlying hu, Place.get, run_wrapNil, asAddr, q1]⟩
        · cases hr
      · rename_i f' d hn hf hu
        cases hr
        refine ⟨x, hx, fun n => ?_⟩
        cases d <;> first | (exact (hn _ rfl).elim) | simp [method, typeInfo, hti, hm, hp, follow, hf, receiverAt, run_underlying hu, Place.get]
      · cases hr
    · cases hr
  · cases hr
def XSpec (P : Program) (F : T Func) (w0 : World) (G : Nat) (L : Lam) (n : Nat) (w : World) (ρ' : Ev) (o : Oper) : XR → Prop
  | .vals l => l ≠ [] → XRel w0 G L n l ((execOp ρ' o).run P w)
  | .call f args => ∃ args' fn, (execOp ρ' o).run P w = .ok (.enter f args'.toArray) w ∧ LR L args args' ∧ F.get f = some fn ∧ args.length ≤ fn.ntmps ∧ small fn.ntmps = true
  | .round l args => ∃ args' p, (execOp ρ' o).run P w = (Instr.yield p.b args'.toArray).run P w ∧ L l = some p ∧ LR L args args'
theorem storeA_nx {t : TypeId} {x y : Value} {H' : AH} (h : storeA P G H t x y = some H') : H.nx ≤ H'.nx := by
  unfold storeA at h
  split at h
  · split at h
    · have := (cc h).2; cases this; exact Nat.le_refl _
    · cases h
  · cases h
theorem mapPutA_nx {t : TypeId} {m k v : Value} {H' : AH} (h : mapPutA P G H t m k v = some H') : H.nx ≤ H'.nx := by
  unfold mapPutA at h
  split at h
  · cases h
  · split at h
    · split at h
      · replace h := (cc h).2
        split at h
        · split at h
          · have := (cc h).2; cases this; exact Nat.le_refl _
          · cases h
        · cases h; exact Nat.le_refl _
        · cases h
      · cases h
    · cases h
theorem nextA_nx {it v : Value} {s : Bool} {H' : AH} (h : (v, H') ∈ nextA G H it s) : H.nx ≤ H'.nx := by
  unfold nextA at h
  split at h
  · rename_i b
    split at h
    · rename_i str pos hb
      cases hc : (Nat.ble G b && small b) with
      | false => rw [hc] at h; simp at h
      | true =>
        rw [hc] at h
        cases hl : Nat.blt pos str.size with
        | true => rw [hl] at h; simp at h; rw [h.2]; exact Nat.le_refl _
        | false => rw [hl] at h; simp at h; rw [h.2]; exact Nat.le_refl _
    · simp at h; rw [h.2]; exact Nat.le_refl _
    · split at h
      · rename_i m since seen last hb _ es clock hm
        cases hc : (Nat.ble G b && small b && !(!seen.isEmpty && !es.isEmpty && es.all (fun e => Nat.ble last e.born))) with
        | false => rw [hc] at h; simp at h
        | true =>
          rw [hc] at h
          simp only [cond_true, List.mem_append, List.mem_map] at h
          rcases h with h | ⟨e, _, h⟩
          · cases ho : (List.filter (fun e => Nat.blt e.born since) (List.filter (fun e => !seen.toList.contains e.born) es)).isEmpty with
            | true => rw [ho] at h; simp at h; rw [h.2]; exact Nat.le_refl _
            | false => rw [ho] at h; simp at h
          · cases h; exact Nat.le_refl _
      · simp at h
    · simp at h
  · simp at h
theorem evalX_spec (hF : FunOK P F) (h : HRel w0 G L H w) {ρ ρ' : Ev} {o : Oper} (hop : ∀ x ∈ o.op.operands, VR L (ρ x) (ρ' x)) : XSpec P F w0 G L H.nx w ρ' o (evalX P F G H ρ o) := by
  have nope : ∀ {l : List (Value × AH)}, l = [] → XSpec P F w0 G L H.nx w ρ' o (.vals l) := fun hl hne => absurd hl hne
  generalize hq : evalX P F G H ρ o = q
  unfold evalX at hq
  split at hq
  · rename_i s d x ho
    cases hs : markA P G H s d (ρ x) with
    | none => rw [hs] at hq; subst hq; exact nope rfl
    | some r =>
      obtain ⟨v, H'⟩ := r
      rw [hs] at hq; subst hq
      obtain ⟨y, w', q1, q2, q3⟩ := markA_spec h hs (hop x (by simp [ho, Op.operands]))
      exact fun _ => ⟨_, _, List.mem_singleton.2 rfl, markA_nx hs, y, w', L, Lam.ext_refl _ L, q2, q3, .inl (by simp [execOp, ho, q1])⟩
  · rename_i t a x ho
    cases hs : storeA P G H t (ρ a) (ρ x) with
    | none => rw [hs] at hq; subst hq; exact nope rfl
    | some H' =>
      rw [hs] at hq; subst hq
      have HNX : H.nx ≤ H'.nx := storeA_nx hs
      obtain ⟨w', q1, q2⟩ := storeA_spec h hs (hop a (by simp [ho, Op.operands])) (hop x (by simp [ho, Op.operands]))
      exact fun _ => ⟨_, _, List.mem_singleton.2 rfl, HNX, undef, w', L, Lam.ext_refl _ L, q2, VR.undef L, .inr ⟨rfl, by simp [execOp, ho, q1]⟩⟩
  · rename_i t m k v ho
    cases hs : mapPutA P G H t (ρ m) (ρ k) (ρ v) with
    | none => rw [hs] at hq; subst hq; exact nope rfl
    | some H' =>
      rw [hs] at hq; subst hq
      have HNX : H.nx ≤ H'.nx := mapPutA_nx hs
      obtain ⟨w', q1, q2⟩ := mapPutA_spec h hs (hop m (by simp [ho, Op.operands])) (hop k (by simp [ho, Op.operands])) (hop v (by simp [ho, Op.operands]))
      exact fun _ => ⟨_, _, List.mem_singleton.2 rfl, HNX, undef, w', L, Lam.ext_refl _ L, q2, VR.undef L, .inr ⟨rfl, by simp [execOp, ho, q1]⟩⟩
  · rename_i t m k v ho
    cases hs : mapPutA P G H t (ρ m) (ρ k) (ρ v) with
    | none => rw [hs] at hq; subst hq; exact nope rfl
    | some H' =>
      rw [hs] at hq; subst hq
      have HNX : H.nx ≤ H'.nx := mapPutA_nx hs
      obtain ⟨w', q1, q2⟩ := mapPutA_spec h hs (hop m (by simp [ho, Op.operands])) (hop k (by simp [ho, Op.operands])) (hop v (by simp [ho, Op.operands]))
      exact fun _ => ⟨_, _, List.mem_singleton.2 rfl, HNX, undef, w', L, Lam.ext_refl _ L, q2, VR.undef L, .inr ⟨rfl, by simp [execOp, ho, q1]⟩⟩
  · rename_i t m k ho
    cases hs : mapEntryA P G H t (ρ m) (ρ k) with
    | none => rw [hs] at hq; subst hq; exact nope rfl
    | some r =>
      obtain ⟨v, H'⟩ := r
      rw [hs] at hq; subst hq
      obtain ⟨x, w', q1, q2, q3⟩ := mapEntryA_spec h hs (hop m (by simp [ho, Op.operands])) (hop k (by simp [ho, Op.operands]))
      exact fun _ => ⟨_, _, List.mem_singleton.2 rfl, mapEntryA_nx hs, x, w', L, Lam.ext_refl _ L, q3, q2, .inl (by simp [execOp, ho, q1])⟩
  · rename_i t m s x ho
    cases hs : entryStoreA G H (ρ m) (ρ s) (ρ x) with
    | none => rw [hs] at hq; subst hq; exact nope rfl
    | some H' =>
      rw [hs] at hq; subst hq
      have HNX : H.nx ≤ H'.nx := entryStoreA_nx hs
      obtain ⟨w', q1, q2⟩ := entryStoreA_spec (P := P) (t := t) h hs (hop m (by simp [ho, Op.operands])) (hop s (by simp [ho, Op.operands])) (hop x (by simp [ho, Op.operands]))
      exact fun _ => ⟨_, _, List.mem_singleton.2 rfl, HNX, undef, w', L, Lam.ext_refl _ L, q2, VR.undef L, .inr ⟨rfl, by simp [execOp, ho, q1]⟩⟩
  · rename_i it s ho
    subst hq
    intro hne
    obtain ⟨v, H', q0, x, w', q1, q2, q3⟩ := nextA_spec (P := P) (ty := o.type) h hne (hop it (by simp [ho, Op.operands]))
    exact ⟨v, H', q0, nextA_nx q0, x, w', L, Lam.ext_refl _ L, q2, q3, .inl (by simp [execOp, ho, q1])⟩
  · rename_i it ho
    cases hs : entryA H (ρ it) with
    | none => rw [hs] at hq; subst hq; exact nope rfl
    | some v =>
      rw [hs] at hq; subst hq
      obtain ⟨x, q1, q2⟩ := entryA_spec (P := P) h hs (hop it (by simp [ho, Op.operands]))
      exact fun _ => ⟨_, _, List.mem_singleton.2 rfl, Nat.le_refl _, x, w, L, Lam.ext_refl _ L, h, q2, .inl (by simp [execOp, ho, q1])⟩
  · rename_i args tys ho
    split at hq
    · rename_i s x t u ha ht
      cases hs : appendA P G H t u (ρ s) (ρ x) with
      | none =>
        rw [hs] at hq
        simp only at hq
        cases hz : appendZ P H t u (ρ s) (ρ x) with
        | none => rw [hz] at hq; subst hq; exact nope rfl
        | some r =>
          obtain ⟨v, H'⟩ := r
          rw [hz] at hq; subst hq
          have hea : args = #[s, x] := by apply Array.ext'; simp [ha]
          have het : tys = #[t, u] := by apply Array.ext'; simp [ht]
          obtain ⟨y, w', L', q1, q2, q3, q4⟩ := appendZ_spec (ty := o.type) h hz (hop s (by simp [ho, Op.operands, Call.operands, hea])) (hop x (by simp [ho, Op.operands, Call.operands, hea]))
          refine fun _ => ⟨_, _, List.mem_singleton.2 rfl, appendZ_nx hz, y, w', L', q2, q3, q4, .inl ?_⟩
          simp [execOp, ho, resolve, invoke, builtin, hea, het, q1]
      | some r =>
        obtain ⟨v, H'⟩ := r
        rw [hs] at hq; subst hq
        have hea : args = #[s, x] := by apply Array.ext'; simp [ha]
        have het : tys = #[t, u] := by apply Array.ext'; simp [ht]
        obtain ⟨q0, y, w', L', q1, q2, q3, q4⟩ := appendA_spec (ty := o.type) h hs (hop s (by simp [ho, Op.operands, Call.operands, hea])) (hop x (by simp [ho, Op.operands, Call.operands, hea]))
        refine fun _ => ⟨_, _, List.mem_singleton.2 rfl, q0, y, w', L', q2, q3, q4, .inl ?_⟩
        simp [execOp, ho, resolve, invoke, builtin, hea, het, q1]
    · subst hq; exact nope rfl
  · rename_i args tys ho
    split at hq
    · rename_i x t ha ht
      cases hs : clearA P G H t (ρ x) with
      | none => rw [hs] at hq; subst hq; exact nope rfl
      | some r =>
        obtain ⟨v, H'⟩ := r
        rw [hs] at hq; subst hq
        have hea : args = #[x] := by apply Array.ext'; simp [ha]
        have het : tys = #[t] := by apply Array.ext'; simp [ht]
        obtain ⟨w', q1, q2, rfl⟩ := clearA_spec (ty := o.type) h hs (hop x (by simp [ho, Op.operands, Call.operands, hea]))
        refine fun _ => ⟨_, _, List.mem_singleton.2 rfl, clearA_nx hs, _, w', L, Lam.ext_refl _ L, q2, VR.refl_flat (by rfl), .inl ?_⟩
        simp [execOp, ho, resolve, invoke, builtin, hea, het, q1]
    · subst hq; exact nope rfl
  · rename_i args tys ho
    split at hq
    · rename_i p l t u ha ht
      cases hs : ustrA P G H t (ρ p) (ρ l) with
      | none => rw [hs] at hq; subst hq; exact nope rfl
      | some r =>
        obtain ⟨v, H'⟩ := r
        rw [hs] at hq; subst hq
        have hea : args = #[p, l] := by apply Array.ext'; simp [ha]
        have het : tys = #[t, u] := by apply Array.ext'; simp [ht]
        obtain ⟨w', q1, q2, q3⟩ := ustrA_spec (it := u) (ty := o.type) h hs (hop p (by simp [ho, Op.operands, Call.operands, hea])) (hop l (by simp [ho, Op.operands, Call.operands, hea]))
        refine fun _ => ⟨_, _, List.mem_singleton.2 rfl, ustrA_nx hs, v, w', L, Lam.ext_refl _ L, q3, VR.refl_flat q2, .inl ?_⟩
        simp [execOp, ho, resolve, invoke, builtin, hea, het, q1]
    · subst hq; exact nope rfl
  · rename_i args tys ho
    split at hq
    · rename_i m k t u ha ht
      cases hs : deleteA P G H t (ρ m) (ρ k) with
      | none => rw [hs] at hq; subst hq; exact nope rfl
      | some H' =>
        rw [hs] at hq; subst hq
        have hea : args = #[m, k] := by apply Array.ext'; simp [ha]
        have het : tys = #[t, u] := by apply Array.ext'; simp [ht]
        obtain ⟨w', q1, q2⟩ := deleteA_spec (t2 := u) (ty := o.type) h hs (hop m (by simp [ho, Op.operands, Call.operands, hea])) (hop k (by simp [ho, Op.operands, Call.operands, hea]))
        refine fun _ => ⟨_, _, List.mem_singleton.2 rfl, deleteA_nx hs, _, w', L, Lam.ext_refl _ L, q2, VR.refl_flat (by rfl), .inl ?_⟩
        simp [execOp, ho, resolve, invoke, builtin, hea, het, q1, undef]
    · subst hq; exact nope rfl
  · rename_i f args tys ho
    have hf := hop f (by simp [ho, Op.operands, Call.operands])
    have hm : ∀ x ∈ args.toList, x ∈ o.op.operands := fun x hx => by
      rw [ho]; exact Array.mem_append.2 (.inr (by simpa using hx))
    have hrel := LR_map (ρ := ρ) (ρ' := ρ') (L := L) args.toList fun x hx => hop x (hm x hx)
    split at hq
    · rename_i g first captured hρ
      rw [hρ] at hf
      generalize hf' : ρ' f = f' at hf
      cases hf with
      | func hfr a1 a2 b1 b2 =>
        rename_i f2 first' captured'
        cases hfr
        have hl : LR L (first.toList ++ args.toList.map ρ ++ captured.toList) (first'.toList ++ args.toList.map ρ' ++ captured'.toList) :=
          ((AR.toList ⟨a1, b1⟩).append hrel).append (AR.toList ⟨a2, b2⟩)
        cases q with
        | vals l =>
          rcases callA_vals hq with hv | ⟨v, rfl, hext⟩
          · exact nope hv
          · obtain ⟨x, hx, hvx⟩ := hext L _ hl w
            have e : (first'.toList ++ args.toList.map ρ' ++ captured'.toList).toArray = first' ++ args.map ρ' ++ captured' := by apply Array.ext'; simp
            rw [e] at hx
            refine fun _ => ⟨_, _, List.mem_singleton.2 rfl, Nat.le_refl _, x, w, L, Lam.ext_refl _ L, h, hvx, .inl ?_⟩
            simp only [execOp, ho, resolve, hf', Deferred.ofValue, Sem.run_bind, Sem.run_pure, Result.andThen_ok, invoke]
            exact hx
        | round l as => exact (callA_round hq).elim
        | call g' as =>
          obtain ⟨rfl, rfl, fn, c1, c2, c3⟩ := callA_spec hF hq
          refine ⟨first'.toList ++ args.toList.map ρ' ++ captured'.toList, fn, ?_, hl, c1, c2, c3⟩
          have hcall := run_callFunc (P := P) hF c1 (first' ++ args.map ρ' ++ captured') w
          have e : (first'.toList ++ args.toList.map ρ' ++ captured'.toList).toArray = first' ++ args.map ρ' ++ captured' := by apply Array.ext'; simp
          rw [e]
          simp only [execOp, ho, resolve, hf', Deferred.ofValue, Sem.run_bind, Sem.run_pure, Result.andThen_ok, invoke]
          exact hcall
    · rename_i l first yc hρ
      rw [hρ] at hf
      generalize hf' : ρ' f = f' at hf
      cases hf with
      | func hfr a1 a2 b1 b2 =>
        rename_i f2 first' captured'
        cases hfr with
        | same hff => simp [fnFlat] at hff
        | yield hp =>
          rename_i p
          subst hq
          have hl : LR L (first.toList ++ args.toList.map ρ) (first'.toList ++ args.toList.map ρ') := (AR.toList ⟨a1, b1⟩).append hrel
          refine ⟨_, p, ?_, hp, hl⟩
          have e : (first'.toList ++ args.toList.map ρ').toArray = first' ++ args.map ρ' := by apply Array.ext'; simp
          rw [e]
          simp only [execOp, ho, resolve, hf', Deferred.ofValue, Sem.run_bind, Sem.run_pure, Result.andThen_ok, invoke]
    · subst hq; exact nope rfl
  · rename_i r name args tys ho
    have hr := hop r (by simp [ho, Op.operands, Call.operands])
    have hm : ∀ x ∈ args.toList, x ∈ o.op.operands := fun x hx => by
      rw [ho]; exact Array.mem_append.2 (.inr (by simpa using hx))
    have hrel := LR_map (ρ := ρ) (ρ' := ρ') (L := L) args.toList fun x hx => hop x (hm x hx)
    split at hq
    · rename_i t v hρ
      rw [hρ] at hr
      generalize hr' : ρ' r = r' at hr
      cases hr with
      | iface hv =>
        rename_i x
        split at hq
        · rename_i f recv hmeth
          obtain ⟨y, hy, hrun⟩ := methodA_spec h hmeth hv
          cases q with
          | vals l =>
            rcases callA_vals hq with hv | ⟨v, rfl, hext⟩
            · exact nope hv
            · obtain ⟨x2, hx, hvx⟩ := hext L _ (hrel.cons hy) w
              have e : (y :: args.toList.map ρ').toArray = #[y] ++ args.map ρ' := by apply Array.ext'; simp
              rw [e] at hx
              refine fun _ => ⟨_, _, List.mem_singleton.2 rfl, Nat.le_refl _, x2, w, L, Lam.ext_refl _ L, h, hvx, .inl ?_⟩
              have hdep : ∃ n, P.types.size + Made.depth = n + 1 := by
                have : 0 < Made.depth := by decide
                exact ⟨P.types.size + Made.depth - 1, by omega⟩
              obtain ⟨n, hn⟩ := hdep
              have hmr := hrun n
              have e0 : (#[Value.iface t x] ++ args.map ρ')[0]? = some (.iface t x) := by
                rw [Array.getElem?_append_left (by exact Nat.zero_lt_one)]; rfl
              have e1 : (#[Value.iface t x] ++ args.map ρ').extract 1 (#[Value.iface t x] ++ args.map ρ').size = args.map ρ' := by
                apply Array.ext'; simp
                exact List.take_of_length_le (by simp)
              have e2 : program.run P w = .ok P w := rfl
              simp only [execOp, ho, resolve, hr', Sem.run_bind, Sem.run_pure, Result.andThen_ok, invoke, e0, e1, callMethod, e2, hn, hmr]
              exact hx
          | round l as => exact (callA_round hq).elim
          | call g' as =>
            obtain ⟨rfl, rfl, fn, c1, c2, c3⟩ := callA_spec hF hq
            refine ⟨y :: args.toList.map ρ', fn, ?_, hrel.cons hy, c1, c2, c3⟩
            have hcall := run_callFunc (P := P) hF c1 (#[y] ++ args.map ρ') w
            have e : (y :: args.toList.map ρ').toArray = #[y] ++ args.map ρ' := by apply Array.ext'; simp
            rw [e]
            have hdep : ∃ n, P.types.size + Made.depth = n + 1 := by
              have : 0 < Made.depth := by decide
              exact ⟨P.types.size + Made.depth - 1, by omega⟩
            obtain ⟨n, hn⟩ := hdep
            have hmr := hrun n
            have e0 : (#[Value.iface t x] ++ args.map ρ')[0]? = some (.iface t x) := by
              rw [Array.getElem?_append_left (by exact Nat.zero_lt_one)]; rfl
            have e1 : (#[Value.iface t x] ++ args.map ρ').extract 1 (#[Value.iface t x] ++ args.map ρ').size = args.map ρ' := by
              apply Array.ext'; simp
              exact List.take_of_length_le (by simp)
            have e2 : program.run P w = .ok P w := rfl
            simp only [execOp, ho, resolve, hr', Sem.run_bind, Sem.run_pure, Result.andThen_ok, invoke, e0, e1, callMethod, e2, hn, hmr]
            exact hcall
        · subst hq; exact nope rfl
    · subst hq; exact nope rfl
  · subst hq; exact nope rfl
theorem evalOp_spec (hF : FunOK P F) (h : HRel w0 G L H w) {ρ ρ' : Ev} {o : Oper} (hop : ∀ x ∈ o.op.operands, VR L (ρ x) (ρ' x)) : XSpec P F w0 G L H.nx w ρ' o (evalOp P F G H ρ o) := by
  unfold evalOp
  cases hQ : evalQ P H ρ o with
  | some v =>
    obtain ⟨x, q1, q2⟩ := evalQ_spec h hQ hop
    exact fun _ => ⟨v, H, List.mem_singleton.2 rfl, Nat.le_refl _, x, w, L, Lam.ext_refl _ L, h, q2, .inl q1⟩
  | none =>
    cases hA : evalA P H ρ o with
    | some r =>
      obtain ⟨ob, mk⟩ := r
      simp only
      cases hs : small H.nx with
      | false => exact fun hne => absurd rfl hne
      | true =>
        obtain ⟨x, w', q1, q2⟩ := evalA_spec h hA hop
        obtain ⟨L', l1, l2, l3⟩ := h.laid q2 hs
        exact fun _ => ⟨_, _, List.mem_singleton.2 rfl, Nat.le_succ _, x, w', L', l1, l2, l3, .inl q1⟩
    | none => exact evalX_spec hF h hop
end
end Go.Run
noncomputable section
namespace Go.Run
open Go.RowKit
inductive OrdR (ops : Array Oper) : Array Bool → List Nat → Prop where
  | nil {l : Array Bool} (h : Region.ready .any ops l = []) : OrdR ops l []
  | cons {l : Array Bool} {i : Nat} {rest : List Nat} (h : i ∈ Region.ready .any ops l) (k : OrdR ops (l.setIfInBounds i true) rest) : OrdR ops l (i :: rest)
theorem filter_lt {α : Type} {p q : α → Bool} : ∀ (l : List α), (∀ x, q x = true → p x = true) → (∃ x ∈ l, p x = true ∧ q x = false) → (l.filter q).length < (l.filter p).length
  | [], _, h => by obtain ⟨x, hx, _⟩ := h; cases hx
  | a :: l, hs, h => by
    have hle : ∀ l : List α, (l.filter q).length ≤ (l.filter p).length := by
      intro l
      induction l with
      | nil => simp
      | cons b l ih =>
        simp only [List.filter_cons]
        cases hq : q b with
        | true => rw [hs b hq]; simp; exact ih
        | false => cases hp : p b <;> simp <;> omega
    obtain ⟨x, hx, h1, h2⟩ := h
    simp only [List.filter_cons]
    rcases List.mem_cons.1 hx with rfl | hx
    · rw [h1, h2]; simp
      have := hle l; omega
    · have ih := filter_lt l hs ⟨x, hx, h1, h2⟩
      cases hq : q a with
      | true => rw [hs a hq]; simp; exact ih
      | false => cases hp : p a <;> simp <;> omega
def unl (ops : Array Oper) (l : Array Bool) : Nat := ((List.range ops.size).filter fun i => !l.getD i true).length
theorem unl_set {ops : Array Oper} {l : Array Bool} {i : Nat} (h : i ∈ Region.ready .any ops l) : unl ops (l.setIfInBounds i true) < unl ops l := by
  obtain ⟨h1, o, ho, _⟩ := mem_ready.1 h
  have hlt : i < ops.size := (Array.getElem?_eq_some_iff.1 ho).1
  have hil : i < l.size := by
    rcases Nat.lt_or_ge i l.size with q | q
    · exact q
    · rw [Array.getD_eq_getD_getElem?, Array.getElem?_eq_none q] at h1; cases h1
  refine filter_lt _ (fun x hx => ?_) ⟨i, by simpa using hlt, by simpa using h1, ?_⟩
  · by_cases e : i = x
    · subst e
      exfalso
      rw [Array.getD_eq_getD_getElem?, Array.getElem?_setIfInBounds_self_of_lt hil] at hx
      simp at hx
    · rwa [getD_set_ne true e] at hx
  · rw [Array.getD_eq_getD_getElem?, Array.getElem?_setIfInBounds_self_of_lt hil]; rfl
theorem ord_lin {ops : Array Oper} : ∀ (fuel t : Nat) (l : Array Bool), unl ops l ≤ fuel → OrdR ops l (Region.linearise.go .any ops fuel t l [])
  | 0, t, l, h => by
    refine .nil ?_
    cases hr : Region.ready .any ops l with
    | nil => rfl
    | cons i rest =>
      have := unl_set (ops := ops) (l := l) (i := i) (by rw [hr]; simp)
      omega
  | fuel + 1, t, l, h => by
    simp only [Region.linearise.go]
    change OrdR ops l (match (Region.ready .any ops l)[t % (Region.ready .any ops l).length]? with
      | some i => Region.linearise.go .any ops fuel (t / (Region.ready .any ops l).length) (l.setIfInBounds i true) [i]
      | none => [].reverse)
    cases hi : (Region.ready .any ops l)[t % (Region.ready .any ops l).length]? with
    | none =>
      refine .nil ?_
      cases hr : Region.ready .any ops l with
      | nil => rfl
      | cons x xs =>
        rw [hr] at hi
        have hlt : t % (x :: xs).length < (x :: xs).length := Nat.mod_lt _ (by simp)
        simp at hi
        simp at hlt
        omega
    | some i =>
      simp only []
      rw [linearise_go_acc, List.reverse_singleton, List.singleton_append]
      have hm := List.mem_of_getElem? hi
      exact .cons hm (ord_lin fuel _ _ (by have := unl_set hm; omega))
def Cl (ops : Array Oper) (listed : Array Bool) : Prop :=
  ∀ (j : Nat) (oj : Oper), ops[j]? = some oj → listed.getD j false = true → ∀ e ∈ oj.after, Region.binds .any e = true → listed.getD e.on false = true
theorem anc_listed {ops : Array Oper} {listed : Array Bool} (hc : Cl ops listed) {i : Nat} : ∀ (fuel j : Nat), ancB ops fuel j i = true →
    (∀ oj, ops[j]? = some oj → ∀ e ∈ oj.after, Region.binds .any e = true → listed.getD e.on false = true) → listed.getD i false = true
  | 0, _, h, _ => by simp [ancB] at h
  | fuel + 1, j, h, hj => by
    simp only [ancB] at h
    split at h
    · rename_i o ho
      rw [List.any_eq_true] at h
      obtain ⟨e, he, h⟩ := h
      simp only [Bool.and_eq_true, Bool.or_eq_true, beq_iff_eq] at h
      have hl := hj o ho e (by simpa using he) h.1
      rcases h.2 with h2 | h2
      · rw [← h2]; exact hl
      · exact anc_listed hc fuel e.on h2 fun oj hoj e' he' hb' => hc e.on oj hoj hl e' he' hb'
    · cases h
theorem unlisted_of {listed : Array Bool} {i : Nat} (h : listed.getD i true = false) : listed.getD i false = false := by
  rcases Nat.lt_or_ge i listed.size with h' | h'
  · simpa [h'] using h
  · simp [Array.getElem?_eq_none h'] at h
theorem Cl.step {ops : Array Oper} {listed : Array Bool} (hc : Cl ops listed) {i : Nat} (hi : i ∈ Region.ready .any ops listed) : Cl ops (listed.setIfInBounds i true) := by
  intro j oj hoj hl e he hb
  obtain ⟨ui, oi, hoi, ai⟩ := mem_ready.1 hi
  by_cases hji : j = i
  · subst hji
    rw [hoi] at hoj; cases hoj
    exact getD_set_true (ai e he hb)
  · rw [getD_set_ne false (Ne.symm hji)] at hl
    exact getD_set_true (hc j oj hoj hl e he hb)
theorem anc_ready {ops : Array Oper} {listed : Array Bool} (hc : Cl ops listed) {i j : Nat} (hi : i ∈ Region.ready .any ops listed) (ha : anc ops i j = true) : listed.getD j false = true := by
  obtain ⟨_, oi, hoi, ai⟩ := mem_ready.1 hi
  exact anc_listed hc _ i ha fun oj hoj => by rw [hoi] at hoj; cases hoj; exact ai
theorem OrdR.unlisted {ops : Array Oper} {l : Array Bool} {rest : List Nat} (h : OrdR ops l rest) : ∀ i ∈ rest, l.getD i true = false := by
  induction h with
  | nil _ => intro i hi; cases hi
  | @cons l j rest hj _ ih =>
    intro i hi
    rcases List.mem_cons.1 hi with rfl | hi
    · exact (mem_ready.1 hj).1
    · have := ih i hi
      by_cases e : j = i
      · subst e; exact (mem_ready.1 hj).1
      · rwa [getD_set_ne true e] at this
theorem OrdR.head_not_mem {ops : Array Oper} {l : Array Bool} {i : Nat} {rest : List Nat} (hi : i ∈ Region.ready .any ops l) (h : OrdR ops (l.setIfInBounds i true) rest) : i ∉ rest := by
  intro hm
  have := h.unlisted i hm
  obtain ⟨h1, o, ho, _⟩ := mem_ready.1 hi
  have hil : i < l.size := by
    rcases Nat.lt_or_ge i l.size with q | q
    · exact q
    · rw [Array.getD_eq_getD_getElem?, Array.getElem?_eq_none q] at h1; cases h1
  rw [Array.getD_eq_getD_getElem?, Array.getElem?_setIfInBounds_self_of_lt hil] at this
  simp at this
theorem OrdR.all {ops : Array Oper} (hd : ∀ (i : Nat) (o : Oper), ops[i]? = some o → ∀ e ∈ o.after, Region.binds .any e = true → e.on < i) {l : Array Bool} {rest : List Nat} (h : OrdR ops l rest) (hs : l.size = ops.size) :
    ∀ i, i < ops.size → l.getD i true = false → i ∈ rest := by
  induction h with
  | @nil l h =>
    intro i
    induction i using Nat.strongRecOn with
    | _ i ih =>
      intro hi hu
      exfalso
      have : i ∈ Region.ready .any ops l := by
        refine mem_ready.2 ⟨hu, ops[i], Array.getElem?_eq_getElem hi, fun e he hb => ?_⟩
        have hlt := hd i _ (Array.getElem?_eq_getElem hi) e he hb
        cases hl : l.getD e.on true with
        | false => exact absurd (ih e.on hlt (by omega) hl) (by simp)
        | true =>
          have : e.on < l.size := by omega
          simpa [this] using hl
      rw [h] at this; cases this
  | @cons l j rest hj _ ih =>
    intro i hi hu
    by_cases e : j = i
    · subst e; simp
    · refine List.mem_cons_of_mem _ (ih (by simpa using hs) i hi ?_)
      rwa [getD_set_ne true e]
theorem map_congr {ρ ρ' : Ev} {l : List Operand} (h : ∀ x ∈ l, ρ x = ρ' x) : l.map ρ = l.map ρ' := List.map_congr_left h
theorem evalQ_congr {P : Program} {H : AH} {ρ ρ' : Ev} {o : Oper} (h : ∀ x ∈ o.op.operands, ρ x = ρ' x) : evalQ P H ρ o = evalQ P H ρ' o := by
  have om : ∀ {x : Option Operand}, (∀ y, x = some y → ρ y = ρ' y) → omapA ρ x = omapA ρ' x := by
    intro x hx
    cases x with
    | none => rfl
    | some y => simp only [omapA, hx y rfl]
  unfold evalQ
  cases ho : o.op with
  | move x => simp only [h x (by simp [ho, Op.operands])]
  | assign x => simp only [h x (by simp [ho, Op.operands])]
  | pick c a b => simp only [h c (by simp [ho, Op.operands]), h a (by simp [ho, Op.operands]), h b (by simp [ho, Op.operands])]
  | load t a => simp only [h a (by simp [ho, Op.operands])]
  | nilCheck x => simp only [h x (by simp [ho, Op.operands])]
  | binOp op t x y yt => simp only [h x (by simp [ho, Op.operands]), h y (by simp [ho, Op.operands])]
  | unOp op t x => simp only [h x (by simp [ho, Op.operands])]
  | convert s d x => simp only [h x (by simp [ho, Op.operands])]
  | makeInterface t x => simp only [h x (by simp [ho, Op.operands])]
  | makeFunc f a b =>
    have h1 : a.toList.map ρ = a.toList.map ρ' := map_congr fun x hx => h x (by rw [ho]; exact Array.mem_append.2 (.inl (by simpa using hx)))
    have h2 : b.toList.map ρ = b.toList.map ρ' := map_congr fun x hx => h x (by rw [ho]; exact Array.mem_append.2 (.inr (by simpa using hx)))
    simp only [h1, h2]
  | slice t x lo hi mx =>
    have h1 : omapA ρ lo = omapA ρ' lo := om fun y hy => h y (by simp [ho, Op.operands, hy])
    have h2 : omapA ρ hi = omapA ρ' hi := om fun y hy => h y (by simp [ho, Op.operands, hy])
    have h3 : omapA ρ mx = omapA ρ' mx := om fun y hy => h y (by simp [ho, Op.operands, hy])
    simp only [h x (by simp [ho, Op.operands]), h1, h2, h3]
  | fieldAddr s x f => simp only [h x (by simp [ho, Op.operands])]
  | field t x f => simp only [h x (by simp [ho, Op.operands])]
  | indexAddr t x i => simp only [h x (by simp [ho, Op.operands]), h i (by simp [ho, Op.operands])]
  | index t x i => simp only [h x (by simp [ho, Op.operands]), h i (by simp [ho, Op.operands])]
  | lookup t m k ok => simp only [h m (by simp [ho, Op.operands]), h k (by simp [ho, Op.operands])]
  | typeAssert x xt a ok => simp only [h x (by simp [ho, Op.operands])]
  | extract x i => simp only [h x (by simp [ho, Op.operands])]
  | build t ps =>
    have : (ps.toList.map fun x => (x.1, ρ x.2)) = ps.toList.map fun x => (x.1, ρ' x.2) := List.map_congr_left fun x hx => by
      rw [h x.2 (by simp [ho, Op.operands]; exact ⟨x.1, by simpa using hx⟩)]
    simp only [this]
  | call c =>
    obtain ⟨callee, args, tys⟩ := c
    cases callee with
    | builtin b =>
      have : args.toList.map ρ = args.toList.map ρ' := map_congr fun x hx => h x (by rw [ho]; exact Array.mem_append.2 (.inr (by simpa using hx)))
      simp only [this]
    | value f => rfl
    | invoke r n => rfl
  | _ => rfl
theorem evalA_congr {P : Program} {H : AH} {ρ ρ' : Ev} {o : Oper} (h : ∀ x ∈ o.op.operands, ρ x = ρ' x) : evalA P H ρ o = evalA P H ρ' o := by
  unfold evalA
  cases ho : o.op with
  | box t x => simp only [h x (by simp [ho, Op.operands])]
  | buildSlice t len ps =>
    have : (ps.toList.map fun x => (x.1, ρ x.2)) = ps.toList.map fun x => (x.1, ρ' x.2) := List.map_congr_left fun x hx => by
      rw [h x.2 (by simp [ho, Op.operands]; exact ⟨x.1, by simpa using hx⟩)]
    simp only [this]
  | makeMap t r => cases r <;> rfl
  | makeSlice t l c => simp only [h l (by simp [ho, Op.operands]), h c (by simp [ho, Op.operands])]
  | range t x => simp only [h x (by simp [ho, Op.operands])]
  | convert s d x => simp only [h x (by simp [ho, Op.operands])]
  | _ => rfl
theorem aev_congr {tm tm' : T Value} {ops : Array Oper} {o : Oper} (h : ∀ s ∈ looks ops o, tget tm s = tget tm' s) : ∀ x ∈ o.op.operands, aev tm x = aev tm' x := by
  intro x hx
  cases x with
  | tmp t =>
    refine h t ?_
    unfold looks
    rw [List.mem_append]
    left
    rw [List.mem_filterMap]
    exact ⟨.tmp t, by simpa using hx, rfl⟩
  | _ => rfl
theorem yielded_congr {tm tm' : T Value} {ops : Array Oper} {o : Oper} (h : ∀ s ∈ looks ops o, tget tm s = tget tm' s) : Region.wanted o (yieldedA ops tm) = Region.wanted o (yieldedA ops tm') := by
  unfold Region.wanted
  cases hg : o.guard with
  | none => rfl
  | some gw =>
    obtain ⟨g, want⟩ := gw
    simp only [yieldedA]
    cases hd : (ops[g]?).bind (·.dst) with
    | none => rfl
    | some d =>
      simp only
      rw [h d (by unfold looks; rw [List.mem_append]; right; rw [hg]; simp [hd])]
theorem kindOf_congr {P : Program} {H : AH} {tm tm' : T Value} {ops : Array Oper} {o : Oper} (h : ∀ s ∈ looks ops o, tget tm s = tget tm' s) : kindOf P H ops tm o = kindOf P H ops tm' o := by
  unfold kindOf
  rw [yielded_congr h, evalQ_congr (aev_congr h), evalA_congr (aev_congr h)]
theorem kindOf_pin {P : Program} {H : AH} {tm : T Value} {ops : Array Oper} {o : Oper} (h : kindOf P H ops tm o ≠ .eff) : pinO ops o = false := by
  unfold kindOf at h
  cases hp : pinO ops o with
  | false => rfl
  | true => rw [hp] at h; exact absurd rfl h
theorem oeq_rel {L : Lam} {w : World} {p : Pl} {ob ob' : AObj} (h : oeq ob' ob = true) (k : ORel L w p ob) : ORel L w p ob' := by
  unfold oeq at h
  split at h
  · rename_i n t ty op fz n' t' ty' op' fz'
    simp only [Bool.and_eq_true] at h
    obtain ⟨⟨⟨⟨⟨h1, h2⟩, h3⟩, h4⟩, h5⟩, h6⟩ := h
    have h1 : n = n' := Nat.eq_of_beq_eq_true h1
    have h2 : ty = ty' := Nat.eq_of_beq_eq_true h2
    have h4 : fz.1 = fz'.1 := Nat.eq_of_beq_eq_true h4
    have h5 : fz.2 = fz'.2 := Nat.eq_of_beq_eq_true h5
    have h45 : fz = fz' := by
      obtain ⟨a, b⟩ := fz; obtain ⟨c, d⟩ := fz'
      simp only at h4 h5; rw [h4, h5]
    have h3 : op = op' := by
      cases op <;> cases op' <;> first | rfl | (cases h3; done) | (rw [Nat.eq_of_beq_eq_true h3])
    subst h1; subst h2; subst h3; subst h45
    obtain ⟨cur, fr, q1, q2, q3, q4⟩ := k
    refine ⟨cur, fr, q1, q2, q3, fun i hi => ?_⟩
    obtain ⟨v, x, r1, r2, r3, r4⟩ := q4 i hi
    refine ⟨v, x, ?_, r2, r3, r4⟩
    unfold rowsEq at h6
    split at h6
    · rename_i a b ha hb
      have := allEq_eq (fun x y => veq_eq) h6
      subst this
      obtain ⟨_, a2⟩ := T.row_spec n 0 a ha
      obtain ⟨_, b2⟩ := T.row_spec n 0 a hb
      have e1 := a2 i hi
      have e2 := b2 i hi
      rw [Nat.zero_add] at e1 e2
      rw [e1, ← e2]; exact r1
    · cases h6
  · have : _ = _ := Nat.eq_of_beq_eq_true h
    subst this
    exact k
  · cases h
end Go.Run
