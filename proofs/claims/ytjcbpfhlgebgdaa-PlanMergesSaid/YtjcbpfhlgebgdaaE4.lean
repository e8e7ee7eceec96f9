import Derived.Test.YtjcbpfhlgebgdaaE3
set_option linter.unusedSimpArgs false
set_option linter.unusedVariables false
namespace Go.Eng
open Go.RowKit
section
variable {P : Program} {o : Oper} {ρ : Operand → V} {bx : Nat → Option Box}
theorem RR.slice {E : Env} {b k o l h : Nat} {rows : List V} (hr : RR E b k o rows) : RR E b k (o + l * k) ((rows.take h).drop l) := by
  refine RR.of_get fun i r hi => ?_
  rw [List.getElem?_drop, List.getElem?_take] at hi
  split at hi
  · obtain ⟨y, h1, h2, h3⟩ := hr.get _ r hi
    refine ⟨y, h1, h2, fun j z hz => ?_⟩
    have := h3 j z hz
    rwa [show o + (l + i) * k + j = o + l * k + i * k + j from by rw [Nat.add_mul]; omega] at this
  · cases hi
def bndV (ρ : Operand → V) (x : Option Operand) (d : Nat) : Option Nat :=
  match x with
  | none => some d
  | some x => match ρ x with
    | .int _ i => if 0 ≤ i then some i.toNat else none
    | _ => none
theorem run_sliceBound {v : Value} {k : IntKind} {i : Int} {y n : Nat} (hv : v = .int k i) (h0 : 0 ≤ i) (hn : i.toNat = n) (hy : n ≤ y) (c : BoundsCode) (w : World) : (Instr.sliceBound v y c).run P w = .ok n w := by
  subst hv
  have : 0 ≤ i ∧ i ≤ (y : Int) := ⟨h0, by omega⟩
  simp [Instr.sliceBound, asIntOf, this, hn]
theorem bndV_some {x : Operand} {d n : Nat} (h : bndV ρ (some x) d = some n) : ∃ k i, ρ x = .int k i ∧ 0 ≤ i ∧ i.toNat = n := by
  simp only [bndV] at h
  split at h
  · rename_i k i hx
    split at h
    · rename_i h0; simp at h; exact ⟨k, i, hx, h0, h⟩
    · cases h
  · cases h
theorem qv_slice_list {t e : TypeId} {x : Operand} {lo hi : Option Operand} {rows : List V} {l h n : Nat} (ho : o.op = .slice t x lo hi none) (hx : ρ x = .list rows)
    (ht : P.underlying t = some (.slice e)) (hs : sizeT P e = some n) (hrows : rowsOK n rows) (hl : bndV ρ lo 0 = some l) (hh : bndV ρ hi rows.length = some h) (hlh : l ≤ h) (hhl : h ≤ rows.length) :
    QV P o ρ bx (.list ((rows.take h).drop l)) none :=
  QV.pure fun ac w pr lam hop _ => by
    have q1 := hop x (by simp [ho, Op.operands])
    rw [hx] at q1
    simp only [R] at q1
    obtain ⟨base, cap, e1, hc, hm, hb⟩ := q1
    have hb1 : (match lo.map ac.eval with | some v => Instr.sliceBound v h .sliceB | none => Pure.pure 0).run P w = .ok l w := by
      cases lo with
      | none => simp only [bndV, Option.some.injEq] at hl; subst hl; simp
      | some y =>
        obtain ⟨k, i, hy, h0, hn⟩ := bndV_some hl
        have q := hop y (by simp [ho, Op.operands])
        rw [hy] at q; simp only [R] at q
        exact run_sliceBound q h0 hn hlh _ w
    have hb2 : (match hi.map ac.eval with | some v => Instr.sliceBound v cap .sliceAcap | none => Pure.pure rows.length).run P w = .ok h w := by
      cases hi with
      | none => simp only [bndV, Option.some.injEq] at hh; subst hh; simp
      | some y =>
        obtain ⟨k, i, hy, h0, hn⟩ := bndV_some hh
        have q := hop y (by simp [ho, Op.operands])
        rw [hy] at q; simp only [R] at q
        exact run_sliceBound q h0 hn (Nat.le_trans hhl hc) _ w
    have hbs : (Instr.sliceBounds true rows.length cap (lo.map ac.eval) (hi.map ac.eval) none).run P w = .ok (l, h, cap) w := by
      cases lo <;> cases hi <;> simp only [Option.map_some, Option.map_none, Sem.run_pure, Result.ok.injEq, and_true] at hb1 hb2 <;>
        simp [Instr.sliceBounds, hb1, hb2]
    refine ⟨.slice (if cap = l then base else base.map (·.add (l * n))) (h - l) (cap - l), ?_, ?_⟩
    · simp only [execOp, ho, e1]
      simp [Instr.sliceAt, run_underlying ht, Instr.slice, hbs, run_sizeOf hs]
    · simp only [R]
      have hlen : ((rows.take h).drop l).length = h - l := by simp; omega
      refine ⟨_, cap - l, by rw [hlen], by rw [hlen]; omega, by omega, ?_⟩
      rcases hb with ⟨rfl, rfl⟩ | ⟨b, o', k, rfl, hb⟩
      · left
        simp at hhl; subst hhl
        simp at hlh; subst hlh
        simp
      · right
        by_cases hcl : cap = l
        · have : (rows.take h).drop l = [] := by
            apply List.eq_nil_of_length_eq_zero
            rw [hlen]; omega
          rw [this, if_pos hcl]
          exact ⟨b, o', k, rfl, by simp [RR]⟩
        · rw [if_neg hcl]
          refine ⟨b, o' + l * n, k, by simp [Addr.add_none], ?_⟩
          rcases rows with _ | ⟨r, rs⟩
          · simp [RR]
          · obtain rfl := hb.size hrows (r := r) (by simp)
            exact hb.slice
def chunkV (n : Nat) : Nat → List V → List V
  | 0, _ => []
  | k + 1, cs => .agg (cs.take n) :: chunkV n k (cs.drop n)
theorem chunkV_length (n : Nat) : ∀ (k : Nat) (cs : List V), (chunkV n k cs).length = k
  | 0, _ => rfl
  | k + 1, cs => by simp [chunkV, chunkV_length n k]
theorem chunkV_get {n : Nat} : ∀ {k : Nat} {cs : List V} {i : Nat} {r : V}, (chunkV n k cs)[i]? = some r → i < k ∧ r = .agg ((cs.drop (i * n)).take n)
  | 0, _, i, r, h => by simp [chunkV] at h
  | k + 1, cs, 0, r, h => by simp [chunkV] at h; exact ⟨by omega, by simp [h]⟩
  | k + 1, cs, i + 1, r, h => by
    simp only [chunkV, List.getElem?_cons_succ] at h
    obtain ⟨h1, h2⟩ := chunkV_get h
    rw [List.drop_drop] at h2
    exact ⟨by omega, by rw [h2]; congr 2; rw [Nat.add_mul]; congr 1; omega⟩
theorem qv_slice_elt {t e : TypeId} {x : Operand} {cs : List V} {off k n : Nat} (ho : o.op = .slice t x none none none) (hx : ρ x = .elt cs off)
    (ht : P.underlying t = some (.array k e)) (hs : sizeT P e = some n) (hk : off + k * n ≤ cs.length) (hm : k ≤ maxLen) (hk0 : 0 < k) : QV P o ρ bx (.list (chunkV n k (cs.drop off))) none :=
  QV.pure fun ac w pr lam hop _ => by
    have q1 := hop x (by simp [ho, Op.operands])
    rw [hx] at q1
    simp only [R] at q1
    obtain ⟨b, o', e1, hc⟩ := q1
    refine ⟨.slice (some ⟨b, o' + off, none⟩) k k, ?_, ?_⟩
    · have hk1 : ¬ k = 0 := by omega
      simp only [execOp, ho, e1]
      simp [Instr.sliceAt, run_underlying ht, Instr.sureAddr, Instr.sliceBounds, run_sizeOf hs, hk1, Addr.add_none]
    · simp only [R]
      refine ⟨_, k, by rw [chunkV_length], by rw [chunkV_length]; exact Nat.le_refl _, hm, .inr ⟨b, o' + off, n, rfl, ?_⟩⟩
      obtain ⟨xs, v1, v2⟩ := hc.vals
      have hl := v1.length
      refine RR.of_get fun i r hi => ?_
      obtain ⟨h1, rfl⟩ := chunkV_get hi
      have hin : i * n + n ≤ k * n := by
        have := Nat.mul_le_mul_right n (show i + 1 ≤ k from h1)
        rw [Nat.add_mul] at this
        omega
      have hrl : RL _ (((cs.drop off).drop (i * n)).take n) (((xs.drop off).drop (i * n)).take n) := ((v1.drop off).drop (i * n)).take n
      have hone : ∀ y ∈ ((xs.drop off).drop (i * n)).take n, y.oneCell' = true := fun y hy => by
        have h2 := List.mem_of_mem_drop (List.mem_of_mem_drop (List.mem_of_mem_take hy))
        obtain ⟨j, hj, rfl⟩ := List.mem_iff_getElem.1 h2
        exact (v2 j _ (List.getElem?_eq_getElem hj)).2
      refine ⟨.agg (((xs.drop off).drop (i * n)).take n).toArray, by simp only [R]; exact ⟨_, rfl, hrl, hone⟩, ?_, fun j z hz => ?_⟩
      · simp only [Value.cells, List.size_toArray, List.length_take, List.length_drop]
        omega
      · simp only [Value.cells, List.getElem?_toArray, List.getElem?_take] at hz
        split at hz
        · rw [List.drop_drop, List.getElem?_drop] at hz
          have := v2 _ z hz
          rw [show o' + (off + i * n + j) = o' + off + i * n + j from by omega] at this
          exact this
        · cases hz
theorem qv_slice3_list {t e e' : TypeId} {x : Operand} {lo : Option Operand} {hi mx : Operand} {rows : List V} {l h n : Nat} {c0 : Nat} (hc0 : c0 = 1 ∨ (c0 = 0 ∧ h = 0)) (ho : o.op = .slice t x lo (some hi) (some mx)) (hx : ρ x = .list rows)
    (ht : P.underlying t = some (.slice e)) (hs : sizeT P e = some n) (hrows : rowsOK n rows) (hl : bndV ρ lo 0 = some l) (hh : bndV ρ (some hi) rows.length = some h) (hm' : bndV ρ (some mx) rows.length = some h) (hlh : l ≤ h) (hhl : h ≤ rows.length) :
    QV P o ρ bx (.list ((rows.take h).drop l)) (some (c0, e')) :=
  QV.of_run fun ac w pr lam hlt hop _ => by
    have q1 := hop x (by simp [ho, Op.operands])
    rw [hx] at q1
    simp only [R] at q1
    obtain ⟨base, cap, e1, hc, hm, hb⟩ := q1
    obtain ⟨k2, i2, hy2, h02, hn2⟩ := bndV_some hh
    obtain ⟨k3, i3, hy3, h03, hn3⟩ := bndV_some hm'
    have q2 := hop hi (by simp [ho, Op.operands])
    have q3 := hop mx (by simp [ho, Op.operands])
    rw [hy2] at q2; rw [hy3] at q3
    simp only [R] at q2 q3
    have hb1 : (match lo.map ac.eval with | some v => Instr.sliceBound v h .slice3C | none => Pure.pure 0).run P w = .ok l w := by
      cases lo with
      | none => simp only [bndV, Option.some.injEq] at hl; subst hl; simp
      | some y =>
        obtain ⟨k, i, hy, h0, hn⟩ := bndV_some hl
        have q := hop y (by simp [ho, Op.operands])
        rw [hy] at q; simp only [R] at q
        exact run_sliceBound q h0 hn hlh _ w
    have hb2 := run_sliceBound (P := P) q2 h02 hn2 (Nat.le_refl h) .slice3B w
    have hb3 := run_sliceBound (P := P) q3 h03 hn3 (Nat.le_trans hhl hc) .slice3Acap w
    have hbs : (Instr.sliceBounds true rows.length cap (lo.map ac.eval) (some (ac.eval hi)) (some (ac.eval mx))).run P w = .ok (l, h, h) w := by
      cases lo <;> simp only [Option.map_some, Option.map_none, Sem.run_pure, Result.ok.injEq, and_true] at hb1 <;>
        simp [Instr.sliceBounds, hb1, hb2, hb3]
    refine ⟨.slice (if h = l then base else base.map (·.add (l * n))) (h - l) (h - l), w, pr, ?_, Ext.refl w pr, ?_, ?_⟩
    · simp only [execOp, ho, e1]
      simp [Instr.sliceAt, run_underlying ht, Instr.slice, hbs, run_sizeOf hs]
    · simp only [R]
      have hlen : ((rows.take h).drop l).length = h - l := by simp; omega
      refine ⟨_, h - l, by rw [hlen], by rw [hlen]; omega, by omega, ?_⟩
      rcases hb with ⟨rfl, rfl⟩ | ⟨b, o', k, rfl, hb⟩
      · left
        simp at hhl; subst hhl
        simp at hlh; subst hlh
        simp
      · right
        by_cases hcl : h = l
        · have : (rows.take h).drop l = [] := by
            apply List.eq_nil_of_length_eq_zero
            rw [hlen]; omega
          rw [this, if_pos hcl]
          exact ⟨b, o', k, rfl, by simp [RR]⟩
        · rw [if_neg hcl]
          refine ⟨b, o' + l * n, k, by simp [Addr.add_none], ?_⟩
          rcases rows with _ | ⟨r, rs⟩
          · simp [RR]
          · obtain rfl := hb.size hrows (r := r) (by simp)
            exact hb.slice
    · intro c e'' hce
      simp only [Option.some.injEq, Prod.mk.injEq] at hce
      obtain ⟨hce, rfl⟩ := hce
      subst hce
      refine ⟨by omega, fun g hg => ?_⟩
      exfalso
      have : gblock c0 (.slice (if h = l then base else base.map (·.add (l * n))) (h - l) (h - l)) = none := by
        cases hq : (if h = l then base else base.map (·.add (l * n))) <;> simp [gblock]
        rcases hc0 with rfl | ⟨rfl, rfl⟩ <;> simp
      rw [this] at hg; cases hg
theorem qv_slice_str {t : TypeId} {x : Operand} {lo hi : Option Operand} {s : List UInt8} {l h : Nat} (ho : o.op = .slice t x lo hi none) (hx : ρ x = .str s)
    (ht : P.underlying t = some .string) (hl : bndV ρ lo 0 = some l) (hh : bndV ρ hi s.length = some h) (hlh : l ≤ h) (hhl : h ≤ s.length) :
    QV P o ρ bx (.str ((s.take h).drop l)) none :=
  QV.pure fun ac w pr lam hop _ => by
    have q1 := hop x (by simp [ho, Op.operands])
    rw [hx] at q1
    simp only [R] at q1
    obtain ⟨e1, hm⟩ := q1
    have hb1 : (match lo.map ac.eval with | some v => Instr.sliceBound v h .sliceB | none => Pure.pure 0).run P w = .ok l w := by
      cases lo with
      | none => simp only [bndV, Option.some.injEq] at hl; subst hl; simp
      | some y =>
        obtain ⟨k, i, hy, h0, hn⟩ := bndV_some hl
        have q := hop y (by simp [ho, Op.operands])
        rw [hy] at q; simp only [R] at q
        exact run_sliceBound q h0 hn hlh _ w
    have hb2 : (match hi.map ac.eval with | some v => Instr.sliceBound v s.length .sliceAlen | none => Pure.pure s.length).run P w = .ok h w := by
      cases hi with
      | none => simp only [bndV, Option.some.injEq] at hh; subst hh; simp
      | some y =>
        obtain ⟨k, i, hy, h0, hn⟩ := bndV_some hh
        have q := hop y (by simp [ho, Op.operands])
        rw [hy] at q; simp only [R] at q
        exact run_sliceBound q h0 hn hhl _ w
    have hbs : (Instr.sliceBounds false s.length s.length (lo.map ac.eval) (hi.map ac.eval) none).run P w = .ok (l, h, s.length) w := by
      cases lo <;> cases hi <;> simp only [Option.map_some, Option.map_none, Sem.run_pure, Result.ok.injEq, and_true] at hb1 hb2 <;>
        simp [Instr.sliceBounds, hb1, hb2]
    have hsz : (ByteArray.mk s.toArray).size = s.length := by simp [ByteArray.size]
    refine ⟨.string ((ByteArray.mk s.toArray).extract l h), ?_, ?_⟩
    · simp only [execOp, ho, e1]
      simp [Instr.sliceAt, run_underlying ht, Instr.slice, hsz, hbs]
    · simp only [R]
      refine ⟨?_, by simp; omega⟩
      congr 1
      apply ByteArray.ext
      apply Array.ext'
      simp [ByteArray.data_extract, List.drop_take]
theorem qv_len_list {t e : TypeId} {x : Operand} {rows : List V} (ho : o.op = .call { callee := .builtin .len, args := #[x], argTypes := #[t] }) (hx : ρ x = .list rows)
    (ht : P.underlying t = some (.slice e)) : QV P o ρ bx (.int .i64 rows.length) none :=
  QV.pure fun ac w pr lam hop _ => by
    have q1 := hop x (by simp [ho, Op.operands, Call.operands])
    rw [hx] at q1
    simp only [R] at q1
    obtain ⟨base, cap, e1, _⟩ := q1
    refine ⟨.int .i64 rows.length, ?_, by simp [R]⟩
    simp only [execOp, ho, resolve, invoke, builtin, Sem.run_bind, Sem.run_pure, Result.andThen_ok, List.map_toArray, List.map_cons, List.map_nil, e1]
    simp [Builtin.len_, run_underlying ht, goInt]
theorem qv_len_str {t : TypeId} {x : Operand} {s : List UInt8} (ho : o.op = .call { callee := .builtin .len, args := #[x], argTypes := #[t] }) (hx : ρ x = .str s)
    (ht : P.underlying t = some .string) : QV P o ρ bx (.int .i64 s.length) none :=
  QV.pure fun ac w pr lam hop _ => by
    have q1 := hop x (by simp [ho, Op.operands, Call.operands])
    rw [hx] at q1
    simp only [R] at q1
    obtain ⟨e1, _⟩ := q1
    refine ⟨.int .i64 s.length, ?_, by simp [R]⟩
    simp only [execOp, ho, resolve, invoke, builtin, Sem.run_bind, Sem.run_pure, Result.andThen_ok, List.map_toArray, List.map_cons, List.map_nil, e1]
    have hsz : (ByteArray.mk s.toArray).size = s.length := by simp [ByteArray.size]
    simp [Builtin.len_, run_underlying ht, goInt, hsz]
theorem qv_max {t u : TypeId} {x y : Operand} {k : IntKind} {a b : Int} (ho : o.op = .call { callee := .builtin .max, args := #[x, y], argTypes := #[t, u] }) (hx : ρ x = .int k a) (hy : ρ y = .int k b) :
    QV P o ρ bx (.int k (max a b)) none :=
  QV.pure fun ac w pr lam hop _ => by
    have q1 := hop x (by simp [ho, Op.operands, Call.operands])
    have q2 := hop y (by simp [ho, Op.operands, Call.operands])
    rw [hx] at q1; rw [hy] at q2
    simp only [R] at q1 q2
    refine ⟨.int k (max a b), ?_, by simp [R]⟩
    simp only [execOp, ho, resolve, invoke, builtin, Sem.run_bind, Sem.run_pure, Result.andThen_ok, List.map_toArray, List.map_cons, List.map_nil, q1, q2]
    simp [Builtin.max_, Builtin.max2]
    split <;> omega
theorem qv_min {t u : TypeId} {x y : Operand} {k : IntKind} {a b : Int} (ho : o.op = .call { callee := .builtin .min, args := #[x, y], argTypes := #[t, u] }) (hx : ρ x = .int k a) (hy : ρ y = .int k b) :
    QV P o ρ bx (.int k (min a b)) none :=
  QV.pure fun ac w pr lam hop _ => by
    have q1 := hop x (by simp [ho, Op.operands, Call.operands])
    have q2 := hop y (by simp [ho, Op.operands, Call.operands])
    rw [hx] at q1; rw [hy] at q2
    simp only [R] at q1 q2
    refine ⟨.int k (min a b), ?_, by simp [R]⟩
    simp only [execOp, ho, resolve, invoke, builtin, Sem.run_bind, Sem.run_pure, Result.andThen_ok, List.map_toArray, List.map_cons, List.map_nil, q1, q2]
    simp [Builtin.min_, Builtin.min2]
    split <;> omega
theorem run_part_agg {t : TypeId} {n off : Nat} {xs : List Value} (ha : aggT P t = some true) (hs : sizeT P t = some n) (w : World) :
    (part t xs.toArray off).run P w = .ok (.agg ((xs.drop off).take n).toArray) w := by
  simp [part, run_isAgg ha, run_sizeOf hs]
theorem run_part_one {t : TypeId} {off : Nat} {xs : List Value} {x : Value} (ha : aggT P t = some false) (hx : xs[off]? = some x) (w : World) :
    (part t xs.toArray off).run P w = .ok x w := by
  simp [part, run_isAgg ha, hx]
theorem qv_field_agg {s t : TypeId} {x : Operand} {fi off n : Nat} {cs : List V} (ho : o.op = .field s x fi) (hx : ρ x = .agg cs) (hf : fieldT P s fi = some (off, t)) (ha : aggT P t = some true) (hs : sizeT P t = some n) :
    QV P o ρ bx (.agg ((cs.drop off).take n)) none :=
  QV.pure fun ac w pr lam hop _ => by
    have q1 := hop x (by simp [ho, Op.operands])
    rw [hx] at q1
    simp only [R] at q1
    obtain ⟨xs, e1, q1, q2⟩ := q1
    obtain ⟨fs, f, h1, h2, rfl, rfl⟩ := fieldT_spec hf
    refine ⟨.agg ((xs.drop f.offset).take n).toArray, ?_, ?_⟩
    · simp only [execOp, ho, e1]
      simp [Instr.field, run_underlying h1, h2, asAgg, run_part_agg ha hs]
    · simp only [R]
      exact ⟨_, rfl, (q1.drop _).take _, fun y hy => q2 y (List.mem_of_mem_drop (List.mem_of_mem_take hy))⟩
theorem qv_field_one {s t : TypeId} {x : Operand} {fi off : Nat} {cs : List V} {c : V} (ho : o.op = .field s x fi) (hx : ρ x = .agg cs) (hf : fieldT P s fi = some (off, t)) (ha : aggT P t = some false) (hc : cs[off]? = some c) :
    QV P o ρ bx c none :=
  QV.pure fun ac w pr lam hop _ => by
    have q1 := hop x (by simp [ho, Op.operands])
    rw [hx] at q1
    simp only [R] at q1
    obtain ⟨xs, e1, q1, q2⟩ := q1
    obtain ⟨fs, f, h1, h2, rfl, rfl⟩ := fieldT_spec hf
    obtain ⟨y, hy, hr⟩ := q1.get _ c hc
    refine ⟨y, ?_, hr⟩
    simp only [execOp, ho, e1]
    simp [Instr.field, run_underlying h1, h2, asAgg, run_part_one ha hy]
theorem qv_index_arr_one {t e : TypeId} {x ix : Operand} {cs : List V} {c : V} {k : IntKind} {i : Int} {len n : Nat} (ho : o.op = .index t x ix) (hx : ρ x = .agg cs) (hi : ρ ix = .int k i)
    (ht : P.underlying t = some (.array len e)) (ha : aggT P e = some false) (hs : sizeT P e = some n) (h0 : 0 ≤ i) (h1 : i < len) (hc : cs[i.toNat * n]? = some c) : QV P o ρ bx c none :=
  QV.pure fun ac w pr lam hop _ => by
    have q1 := hop x (by simp [ho, Op.operands])
    have q2 := hop ix (by simp [ho, Op.operands])
    rw [hx] at q1; rw [hi] at q2
    simp only [R] at q1 q2
    obtain ⟨xs, e1, q1, _⟩ := q1
    obtain ⟨y, hy, hr⟩ := q1.get _ c hc
    refine ⟨y, ?_, hr⟩
    simp only [execOp, ho, e1, q2]
    simp [Instr.index, asIntOf, run_underlying ht, h0, h1, run_sizeOf hs, run_part_one ha hy]
def bytesV (s : List UInt8) : List V := s.map fun b => .int .u8 b.toNat
end
end Go.Eng
