import Derived.Test.YtjcbpfhlgebgdaaE1
set_option linter.unusedSimpArgs false
set_option linter.unusedVariables false
namespace Go.Eng
open Go.RowKit
def BRel (E : Env) (bx : Nat → Option Box) : Prop :=
  ∀ i B, bx i = some B → ∃ b, E.lam i = some b ∧ BoxAt E b B
theorem SRel.brel {P : Program} {F : Fr} {st : St} {a : Act} {w : World} {pr : Nat → Nat → Prop} {lam : Nat → Option Nat} (h : SRel P F st a w pr lam) : BRel ⟨w, pr, lam⟩ st.box := by
  intro i B hB
  obtain ⟨b, h1, h2, _⟩ := h.box i B hB
  exact ⟨b, h1, h2⟩
def QV (P : Program) (o : Oper) (ρ : Operand → V) (bx : Nat → Option Box) (v : V) (fr : Option (Nat × TypeId)) : Prop :=
  ∀ (a : Act) (w : World) (pr : Nat → Nat → Prop) (lam : Nat → Option Nat), HL w pr →
    (∀ x ∈ o.op.operands, R ⟨w, pr, lam⟩ (ρ x) (a.eval x)) → BRel ⟨w, pr, lam⟩ bx →
    ∀ (next : Act → World → Prop) (Q : Exit → Act → World → Prop),
      (∀ x w' pr', Ext w pr w' pr' → R ⟨w', pr', lam⟩ v x → (∀ c e, fr = some (c, e) → c < 2 ∧ Own P (fun g => w.heap.size ≤ g) ⟨w', pr', lam⟩ c e x) → next (a.put o.dst x) w') → o.wp P a w next Q
theorem QV.of_run {P : Program} {o : Oper} {ρ : Operand → V} {bx : Nat → Option Box} {v : V} {fr : Option (Nat × TypeId)}
    (h : ∀ (a : Act) (w : World) (pr : Nat → Nat → Prop) (lam : Nat → Option Nat), HL w pr →
      (∀ x ∈ o.op.operands, R ⟨w, pr, lam⟩ (ρ x) (a.eval x)) → BRel ⟨w, pr, lam⟩ bx →
      ∃ x w' pr', (execOp a.eval o).run P w = .ok (.value x) w' ∧ Ext w pr w' pr' ∧ R ⟨w', pr', lam⟩ v x ∧ (∀ c e, fr = some (c, e) → c < 2 ∧ Own P (fun g => w.heap.size ≤ g) ⟨w', pr', lam⟩ c e x)) :
    QV P o ρ bx v fr := by
  intro a w pr lam h1 h2 h3 next Q hn
  obtain ⟨x, w', pr', hr, he, hx, ho⟩ := h a w pr lam h1 h2 h3
  unfold Oper.wp
  rw [hr, Oper.upon_value]
  exact hn x w' pr' he hx ho
theorem QV.pure {P : Program} {o : Oper} {ρ : Operand → V} {bx : Nat → Option Box} {v : V}
    (h : ∀ (a : Act) (w : World) (pr : Nat → Nat → Prop) (lam : Nat → Option Nat),
      (∀ x ∈ o.op.operands, R ⟨w, pr, lam⟩ (ρ x) (a.eval x)) → BRel ⟨w, pr, lam⟩ bx →
      ∃ x, (execOp a.eval o).run P w = .ok (.value x) w ∧ R ⟨w, pr, lam⟩ v x) :
    QV P o ρ bx v none :=
  QV.of_run fun a w pr lam _ h2 h3 => by
    obtain ⟨x, hr, hx⟩ := h a w pr lam h2 h3
    exact ⟨x, w, pr, hr, Ext.refl w pr, hx, fun c e he => by cases he⟩
section
variable {P : Program} {o : Oper} {ρ : Operand → V} {bx : Nat → Option Box}
theorem qv_pick {c x y : Operand} {t : Bool} (ho : o.op = .pick c x y) (hc : ρ c = .bool t) : QV P o ρ bx (if t then ρ x else ρ y) none :=
  QV.pure fun a w pr lam h _ => by
    have h1 := h c (by simp [ho, Op.operands])
    have h2 := h x (by simp [ho, Op.operands])
    have h3 := h y (by simp [ho, Op.operands])
    rw [hc] at h1
    simp only [R] at h1
    refine ⟨if t then a.eval x else a.eval y, by simp [execOp, ho, h1, asBool], ?_⟩
    cases t
    · simpa using h3
    · simpa using h2
theorem RL.length {E : Env} : ∀ {cs : List V} {xs : List Value}, RL E cs xs → cs.length = xs.length
  | [], xs, h => by simp only [RL] at h; simp [h]
  | c :: cs, xs, h => by
    simp only [RL] at h
    obtain ⟨y, ys, rfl, _, h⟩ := h
    simp [RL.length h]
theorem RL.get {E : Env} : ∀ {cs : List V} {xs : List Value}, RL E cs xs → ∀ (i : Nat) (c : V), cs[i]? = some c → ∃ x, xs[i]? = some x ∧ R E c x
  | [], xs, _, i, c, hc => by simp at hc
  | c :: cs, xs, h, i, d, hd => by
    simp only [RL] at h
    obtain ⟨y, ys, rfl, h1, h⟩ := h
    cases i with
    | zero => simp at hd; subst hd; exact ⟨y, by simp, h1⟩
    | succ i => simp at hd; simpa using RL.get h i d hd
theorem RL.of_get {E : Env} : ∀ {cs : List V} {xs : List Value}, cs.length = xs.length → (∀ (i : Nat) (c : V) (x : Value), cs[i]? = some c → xs[i]? = some x → R E c x) → RL E cs xs
  | [], xs, hl, _ => by simp only [RL]; exact List.eq_nil_of_length_eq_zero (by simpa using hl.symm)
  | c :: cs, [], hl, _ => by simp at hl
  | c :: cs, x :: xs, hl, h => by
    simp only [RL]
    exact ⟨x, xs, rfl, h 0 c x (by simp) (by simp), RL.of_get (by simpa using hl) fun i d y hd hy => h (i + 1) d y (by simpa using hd) (by simpa using hy)⟩
theorem RL.drop {E : Env} {cs : List V} {xs : List Value} (h : RL E cs xs) (n : Nat) : RL E (cs.drop n) (xs.drop n) := by
  refine RL.of_get (by simp [h.length]) fun i c x hc hx => ?_
  rw [List.getElem?_drop] at hc hx
  obtain ⟨x', hx', hr⟩ := h.get _ _ hc
  rw [hx] at hx'
  cases hx'
  exact hr
theorem RL.take {E : Env} {cs : List V} {xs : List Value} (h : RL E cs xs) (n : Nat) : RL E (cs.take n) (xs.take n) := by
  refine RL.of_get (by simp [h.length]) fun i c x hc hx => ?_
  rw [List.getElem?_take] at hc hx
  split at hc
  · rename_i hi
    rw [if_pos hi] at hx
    obtain ⟨x', hx', hr⟩ := h.get _ _ hc
    rw [hx] at hx'
    cases hx'
    exact hr
  · cases hc
theorem RL.append {E : Env} {cs ds : List V} {xs ys : List Value} (h : RL E cs xs) (k : RL E ds ys) : RL E (cs ++ ds) (xs ++ ys) := by
  refine RL.of_get (by simp [h.length, k.length]) fun i c x hc hx => ?_
  rw [List.getElem?_append] at hc hx
  rw [h.length] at hc
  split at hc
  · rename_i hi
    rw [if_pos hi] at hx
    obtain ⟨x', hx', hr⟩ := h.get _ _ hc
    rw [hx] at hx'; cases hx'; exact hr
  · rename_i hi
    rw [if_neg hi] at hx
    obtain ⟨x', hx', hr⟩ := k.get _ _ hc
    rw [hx] at hx'; cases hx'; exact hr
theorem RC.get {E : Env} {b : Nat} : ∀ {cs : List V} {o : Nat}, RC E b o cs → ∀ (i : Nat) (c : V), cs[i]? = some c → ∃ x, E.at b (o + i) x ∧ x.oneCell' = true ∧ R E c x
  | [], _, _, i, c, hc => by simp at hc
  | c :: cs, o, h, i, d, hd => by
    simp only [RC] at h
    obtain ⟨⟨y, h1, h3, h2⟩, h⟩ := h
    cases i with
    | zero => simp at hd; subst hd; exact ⟨y, h1, h3, h2⟩
    | succ i =>
      simp at hd
      obtain ⟨x, q1, q2, q3⟩ := RC.get h i d hd
      exact ⟨x, by rwa [show o + (i + 1) = o + 1 + i from by omega], q2, q3⟩
theorem RC.vals {E : Env} {b : Nat} : ∀ {cs : List V} {o : Nat}, RC E b o cs → ∃ xs : List Value, RL E cs xs ∧ (∀ j x, xs[j]? = some x → E.at b (o + j) x ∧ x.oneCell' = true)
  | [], _, _ => ⟨[], by simp [RL], by simp⟩
  | c :: cs, o, h => by
    simp only [RC] at h
    obtain ⟨⟨y, h1, h3, h2⟩, h⟩ := h
    obtain ⟨xs, q1, q2⟩ := RC.vals h
    refine ⟨y :: xs, by simp only [RL]; exact ⟨y, xs, rfl, h2, q1⟩, fun j x hx => ?_⟩
    cases j with
    | zero => simp at hx; subst hx; exact ⟨h1, h3⟩
    | succ j =>
      simp at hx
      have := q2 j x hx
      rwa [show o + (j + 1) = o + 1 + j from by omega]
theorem RC.of_vals {E : Env} {b : Nat} : ∀ {cs : List V} {xs : List Value} {o : Nat}, RL E cs xs → (∀ j x, xs[j]? = some x → E.at b (o + j) x ∧ x.oneCell' = true) → RC E b o cs
  | [], _, _, _, _ => by simp [RC]
  | c :: cs, xs, o, h, k => by
    simp only [RL] at h
    obtain ⟨y, ys, rfl, h1, h⟩ := h
    have k0 := k 0 y (by simp)
    simp only [RC]
    refine ⟨⟨y, by simpa using k0.1, k0.2, h1⟩, RC.of_vals h fun j x hx => ?_⟩
    have := k (j + 1) x (by simpa using hx)
    rwa [show o + 1 + j = o + (j + 1) from by omega]
theorem Addr.add_none (b off n : Nat) : (⟨b, off, none⟩ : Addr).add n = ⟨b, off + n, none⟩ := by
  unfold Addr.add; split <;> simp_all
def aggT (P : Program) (t : TypeId) : Option Bool := match P.underlying t with
  | some (.struct _) | some (.array _ _) => some true
  | some _ => some false
  | none => none
def sizeT (P : Program) (t : TypeId) : Option Nat := (P.info? t).map (·.size)
theorem run_isAgg {t : TypeId} {b : Bool} (h : aggT P t = some b) (w : World) : (isAgg t).run P w = .ok b w := by
  unfold aggT at h
  unfold isAgg
  cases hu : P.underlying t with
  | none => rw [hu] at h; simp at h
  | some d =>
    rw [hu] at h
    rw [Sem.run_bind, run_underlying hu w]
    cases d <;> simp_all
theorem run_sizeOf {t : TypeId} {n : Nat} (h : sizeT P t = some n) (w : World) : (sizeOf t).run P w = .ok n w := by
  unfold sizeT at h
  cases hi : P.info? t with
  | none => simp [hi] at h
  | some i => simp [hi] at h; simp [sizeOf, typeInfo, hi, h]
theorem run_loadVar_agg {t : TypeId} {b off : Nat} {w : World} {xs : List Value} (ha : aggT P t = some true) (hs : sizeT P t = some xs.length)
    (hc : ∀ j x, xs[j]? = some x → w.cell? ⟨b, off + j, none⟩ = some x) : (loadVar t ⟨b, off, none⟩).run P w = .ok (.agg xs.toArray) w := by
  have hl : (loadCells ⟨b, off, none⟩ xs.length).run P w = .ok xs.toArray w :=
    run_loadCells_list (P := P) w ⟨b, off, none⟩ xs (fun j v hv => by rw [Addr.add_none]; exact hc j v hv)
  simp [loadVar, Sem.run_bind, run_isAgg ha, run_sizeOf hs, hl]
theorem run_loadVar_one {t : TypeId} {b off : Nat} {w : World} {x : Value} (ha : aggT P t = some false)
    (hc : w.cell? ⟨b, off, none⟩ = some x) : (loadVar t ⟨b, off, none⟩).run P w = .ok x w := by
  simp [loadVar, Sem.run_bind, run_isAgg ha, run_load, hc]
theorem qv_load_elt_agg {t : TypeId} {x : Operand} {cs : List V} {off n : Nat} (ho : o.op = .load t x) (hx : ρ x = .elt cs off) (ha : aggT P t = some true) (hs : sizeT P t = some n)
    (hn : off + n ≤ cs.length) : QV P o ρ bx (.agg ((cs.drop off).take n)) none :=
  QV.pure fun a w pr lam h _ => by
    have h1 := h x (by simp [ho, Op.operands])
    rw [hx] at h1
    simp only [R] at h1
    obtain ⟨b, o', e, hc⟩ := h1
    obtain ⟨xs, q1, q2⟩ := hc.vals
    have hlen : ((xs.drop off).take n).length = n := by
      have := q1.length
      simp; omega
    have hrun : (loadVar t ⟨b, o' + off, none⟩).run P w = .ok (.agg ((xs.drop off).take n).toArray) w :=
      run_loadVar_agg ha (by rw [hlen]; exact hs) (fun j y hy => by
        rw [List.getElem?_take] at hy
        split at hy
        · rw [List.getElem?_drop] at hy
          have := (q2 _ _ hy).1.1
          rwa [show o' + off + j = o' + (off + j) from by omega]
        · cases hy)
    refine ⟨.agg ((xs.drop off).take n).toArray, by simp [execOp, ho, Instr.loadAt, Instr.sureAddr, e, hrun], ?_⟩
    simp only [R]
    refine ⟨_, rfl, (q1.drop off).take n, fun y hy => ?_⟩
    obtain ⟨j, hj⟩ := List.mem_iff_getElem?.1 (List.mem_of_mem_drop (List.mem_of_mem_take hy))
    exact (q2 j y hj).2
theorem qv_load_elt_one {t : TypeId} {x : Operand} {cs : List V} {off : Nat} {c : V} (ho : o.op = .load t x) (hx : ρ x = .elt cs off) (ha : aggT P t = some false)
    (hc : cs[off]? = some c) : QV P o ρ bx c none :=
  QV.pure fun a w pr lam h _ => by
    have h1 := h x (by simp [ho, Op.operands])
    rw [hx] at h1
    simp only [R] at h1
    obtain ⟨b, o', e, hr⟩ := h1
    obtain ⟨y, q1, _, q2⟩ := hr.get off c hc
    exact ⟨y, by simp [execOp, ho, Instr.loadAt, Instr.sureAddr, e, run_loadVar_one ha q1.1], q2⟩
theorem qv_load_loc_agg {t : TypeId} {x : Operand} {i off n : Nat} {B : Box} (ho : o.op = .load t x) (hx : ρ x = .loc i off) (hb : bx i = some B) (ha : aggT P t = some true) (hs : sizeT P t = some n)
    (hn : off + n ≤ B.cells.length) (hpl : B.ty < mapTy) : QV P o ρ bx (.agg ((B.cells.drop off).take n)) none :=
  QV.pure fun a w pr lam h hB => by
    have h1 := h x (by simp [ho, Op.operands])
    rw [hx] at h1
    simp only [R] at h1
    obtain ⟨b, hl, e⟩ := h1
    obtain ⟨b', hl', hat⟩ := hB i B hb
    obtain ⟨cur, hg, q1, q2⟩ := hat.cells hpl
    obtain rfl : b = b' := by simpa [hl] using hl'
    change w.heap[b]? = _ at hg
    have hlen : ((cur.toList.drop off).take n).length = n := by
      have := q1.length
      simp at this ⊢; omega
    have hrun : (loadVar t ⟨b, off, none⟩).run P w = .ok (.agg ((cur.toList.drop off).take n).toArray) w :=
      run_loadVar_agg ha (by rw [hlen]; exact hs) (fun j y hy => by
        rw [List.getElem?_take] at hy
        split at hy
        · rw [List.getElem?_drop] at hy
          simpa [World.cell?, hg] using hy
        · cases hy)
    refine ⟨.agg ((cur.toList.drop off).take n).toArray, by simp only [execOp, ho, e]; simp [Instr.loadAt, Instr.sureAddr, hrun], ?_⟩
    simp only [R]
    exact ⟨_, rfl, (q1.drop off).take n, fun y hy => q2 y (List.mem_of_mem_drop (List.mem_of_mem_take hy))⟩
theorem qv_load_loc_one {t : TypeId} {x : Operand} {i off : Nat} {B : Box} {c : V} (ho : o.op = .load t x) (hx : ρ x = .loc i off) (hb : bx i = some B) (ha : aggT P t = some false)
    (hc : B.cells[off]? = some c) (hpl : B.ty < mapTy) : QV P o ρ bx c none :=
  QV.pure fun a w pr lam h hB => by
    have h1 := h x (by simp [ho, Op.operands])
    rw [hx] at h1
    simp only [R] at h1
    obtain ⟨b, hl, e⟩ := h1
    obtain ⟨b', hl', hat⟩ := hB i B hb
    obtain ⟨cur, hg, q1, q2⟩ := hat.cells hpl
    obtain rfl : b = b' := by simpa [hl] using hl'
    change w.heap[b]? = _ at hg
    obtain ⟨y, hy, hr⟩ := q1.get off c hc
    have hcell : w.cell? ⟨b, off, none⟩ = some y := by simpa [World.cell?, hg] using hy
    exact ⟨y, by simp [execOp, ho, Instr.loadAt, Instr.sureAddr, e, run_loadVar_one ha hcell], hr⟩
end
end Go.Eng
