import Derived.Test.YtjcpgiicdppkcaaDoorW39e
namespace Go.Proofs.YtjcpgiicdppkcaaDoor
open Go Go.Eng
set_option linter.unusedSimpArgs false
set_option linter.unusedVariables false

/-! LAYER 39: TraceLatency's body -/

set_option maxRecDepth 100000 in
set_option maxHeartbeats 4000000 in
theorem fn_traceLatency (hkn : Go.Eng.Fn Tryd.prog 4 [] [] (.bool true) []) (nums : List Int) : Go.Eng.Fn Tryd.prog 8 [.list (nums.map encI)] [] (.bool true) [] := by
  refine Fn.of_body Tryd.mixed (hd := []) Tryd.func8 rfl (by kernel_rfl) (Nat.le_of_ble_eq_true rfl) rfl (by simp) (by simp) ?_
  refine codeW_of ?_
  simp only [core, ↓core0, Tryd.facts, ↓reduceIte, ↓List.getElem?_map, ↓List.getElem?_cons_zero, ↓List.getElem?_cons_succ, List.map_cons, List.map_nil, Option.map_some, List.getElem?_nil, resOne, pickV, List.getD_cons_zero, List.getD_cons_succ, List.getD_nil, List.length_cons, List.length_nil, List.length_map, Option.isSome_some, Nat.reduceAdd, Nat.reduceEqDiff, Nat.reduceLeDiff, Nat.reduceLT, Int.reduceBNe, Int.reduceBEq, Int.reduceLT, Int.reduceLE, Int.reduceAdd, Int.reduceSub, decide_true, decide_false, Nat.zero_add, Nat.add_zero, ne_eq, not_false_eq_true, not_true_eq_false, true_and, and_true, reduceCtorEq, List.drop_zero, List.drop_succ_cons, List.take_succ_cons, List.take_zero, and_self, BEq.rfl, Bool.true_eq_false, Bool.false_eq_true, cond_true, cond_false, Bool.not_true, Bool.not_false, Nat.one_ne_zero, Nat.zero_ne_one, List.nil_append, List.append_nil, List.cons_append, Bool.true_and, Bool.and_true, Bool.false_and, Bool.and_false, Bool.true_or, Bool.or_true, Bool.false_or, Bool.or_false, beq_self_eq_true, beq_true, beq_false, implies_true, false_implies, false_or, or_false, gt_iff_lt, Nat.mul_one, Nat.reduceMul, Nat.not_lt_zero, List.toList_toArray, Option.some.injEq]
  refine callW_of Tryd.go4 rfl hkn ?_
  simp only [core, ↓core0, Tryd.facts, ↓reduceIte, ↓List.getElem?_map, ↓List.getElem?_cons_zero, ↓List.getElem?_cons_succ, List.map_cons, List.map_nil, Option.map_some, List.getElem?_nil, resOne, pickV, List.getD_cons_zero, List.getD_cons_succ, List.getD_nil, List.length_cons, List.length_nil, List.length_map, Option.isSome_some, Nat.reduceAdd, Nat.reduceEqDiff, Nat.reduceLeDiff, Nat.reduceLT, Int.reduceBNe, Int.reduceBEq, Int.reduceLT, Int.reduceLE, Int.reduceAdd, Int.reduceSub, decide_true, decide_false, Nat.zero_add, Nat.add_zero, ne_eq, not_false_eq_true, not_true_eq_false, true_and, and_true, reduceCtorEq, List.drop_zero, List.drop_succ_cons, List.take_succ_cons, List.take_zero, and_self, BEq.rfl, Bool.true_eq_false, Bool.false_eq_true, cond_true, cond_false, Bool.not_true, Bool.not_false, Nat.one_ne_zero, Nat.zero_ne_one, List.nil_append, List.append_nil, List.cons_append, Bool.true_and, Bool.and_true, Bool.false_and, Bool.and_false, Bool.true_or, Bool.or_true, Bool.false_or, Bool.or_false, beq_self_eq_true, beq_true, beq_false, implies_true, false_implies, false_or, or_false, gt_iff_lt, Nat.mul_one, Nat.reduceMul, Nat.not_lt_zero, List.toList_toArray, Option.some.injEq]
  refine callW_of Tryd.go21 (by simp [V.noLocL, V.noLoc, noLoc_encI]) (fn_made nums) ?_
  obtain ⟨l, hlm⟩ : ∃ l, (made (nums.take 30)).1 = l := ⟨_, rfl⟩
  rw [hlm]
  have hinv : Inv (made (nums.take 30)) := by
    rcases Nat.lt_or_ge nums.length 30 with q | q
    · rw [List.take_of_length_le (by omega), ← List.take_length (l := nums)]
      exact made_inv nums _ (Nat.le_refl _) (by omega)
    · exact made_inv nums 30 q (Nat.le_refl _)
  have hlen : l.length ≤ 30 := by
    rw [← hlm]
    rcases Nat.lt_or_ge nums.length 30 with q | q
    · rw [List.take_of_length_le (by omega), ← List.take_length (l := nums), (made_len nums _ (Nat.le_refl _)).1]; omega
    · rw [(made_len nums 30 q).1]; omega
  have hone : ∀ x ∈ l, oneE x = 0 := hlm ▸ hinv.one
  have hasc : l.Pairwise (fun x y => x.t ≤ y.t) := hlm ▸ hinv.asc
  have htick : ∀ x ∈ l, -4611686018427387903 ≤ x.t ∧ x.t ≤ 4611686018427387903 := fun x hx => by
    have h1 := hone x hx
    unfold oneE at h1
    split at h1
    · cases h1
    split at h1
    · rename_i hg
      have := hg.1
      have := hg.2.1
      omega
    · cases h1
  simp only [core, ↓core0, Tryd.facts, ↓reduceIte, ↓List.getElem?_map, ↓List.getElem?_cons_zero, ↓List.getElem?_cons_succ, List.map_cons, List.map_nil, Option.map_some, List.getElem?_nil, resOne, pickV, List.getD_cons_zero, List.getD_cons_succ, List.getD_nil, List.length_cons, List.length_nil, List.length_map, Option.isSome_some, Nat.reduceAdd, Nat.reduceEqDiff, Nat.reduceLeDiff, Nat.reduceLT, Int.reduceBNe, Int.reduceBEq, Int.reduceLT, Int.reduceLE, Int.reduceAdd, Int.reduceSub, decide_true, decide_false, Nat.zero_add, Nat.add_zero, ne_eq, not_false_eq_true, not_true_eq_false, true_and, and_true, reduceCtorEq, List.drop_zero, List.drop_succ_cons, List.take_succ_cons, List.take_zero, and_self, BEq.rfl, Bool.true_eq_false, Bool.false_eq_true, cond_true, cond_false, Bool.not_true, Bool.not_false, Nat.one_ne_zero, Nat.zero_ne_one, List.nil_append, List.append_nil, List.cons_append, Bool.true_and, Bool.and_true, Bool.false_and, Bool.and_false, Bool.true_or, Bool.or_true, Bool.false_or, Bool.or_false, beq_self_eq_true, beq_true, beq_false, implies_true, false_implies, false_or, or_false, gt_iff_lt, Nat.mul_one, Nat.reduceMul, Nat.not_lt_zero, List.toList_toArray, Option.some.injEq]
  refine loopW_of Tryd.mixed (fun k st => ∃ (i nb : Nat) (sl : Nat → V × Option (Nat × TypeId)) (bx : Nat → Option Box), st = ⟨nb, sl, bx⟩ ∧ k + i = 6 ∧ sl 5 = (.int .i64 i, none) ∧ sl 4 = (.list (l.map encO), none) ∧ sl 3 = (.bool true, none) ∧ (∀ n, nb ≤ n → bx n = none)) (by kernel_rfl) ?_ (k := 6) ?_
  · rintro k st ⟨i, nb, sl, bx, rfl, hk, h5, h4, h3, hnb⟩
    simp only [core, ↓core0, Tryd.facts, ↓reduceIte, ↓List.getElem?_map, ↓List.getElem?_cons_zero, ↓List.getElem?_cons_succ, List.map_cons, List.map_nil, Option.map_some, List.getElem?_nil, resOne, pickV, List.getD_cons_zero, List.getD_cons_succ, List.getD_nil, List.length_cons, List.length_nil, List.length_map, Option.isSome_some, Nat.reduceAdd, Nat.reduceEqDiff, Nat.reduceLeDiff, Nat.reduceLT, Int.reduceBNe, Int.reduceBEq, Int.reduceLT, Int.reduceLE, Int.reduceAdd, Int.reduceSub, decide_true, decide_false, Nat.zero_add, Nat.add_zero, ne_eq, not_false_eq_true, not_true_eq_false, true_and, and_true, reduceCtorEq, List.drop_zero, List.drop_succ_cons, List.take_succ_cons, List.take_zero, and_self, BEq.rfl, Bool.true_eq_false, Bool.false_eq_true, cond_true, cond_false, Bool.not_true, Bool.not_false, Nat.one_ne_zero, Nat.zero_ne_one, List.nil_append, List.append_nil, List.cons_append, Bool.true_and, Bool.and_true, Bool.false_and, Bool.and_false, Bool.true_or, Bool.or_true, Bool.false_or, Bool.or_false, beq_self_eq_true, beq_true, beq_false, implies_true, false_implies, false_or, or_false, gt_iff_lt, Nat.mul_one, Nat.reduceMul, Nat.not_lt_zero, List.toList_toArray, Option.some.injEq, h5, h4, h3]
    refine brW_of (fun h2 => ?_) (fun h2 => ?_)
    · have hi : i < 6 := by simp at h2; omega
      have hnn : bx nb = none := hnb nb (Nat.le_refl _)
      have q1 := tmd (n := (i : Int)) (c := 2) (by omega) (by omega)
      have q2 := tdv (n := (i : Int)) (c := 2) (by omega) (by omega)
      obtain ⟨ia, hia⟩ : ∃ ia, 1 + (i : Int).tmod 2 = ia := ⟨_, rfl⟩
      obtain ⟨is, his⟩ : ∃ is, (i : Int).tdiv 2 = is := ⟨_, rfl⟩
      have hid : idOK ⟨ia, is, 0⟩ = true := by simp only [idOK, decide_eq_true_eq]; omega
      obtain ⟨a1, a2, a3⟩ := lat_law hone hasc (by omega) hid
      have hsub : ∀ x ∈ (ofE l ⟨ia, is, 0⟩).1, x ∈ l := by
        unfold ofE
        split
        · simp
        split
        · simp
        · intro x hx; exact (List.mem_filter.1 hx).1
      have hll : (ofE l ⟨ia, is, 0⟩).1.length ≤ 100000 := by
        unfold ofE
        split
        · simp
        split
        · simp
        · exact Nat.le_trans (List.length_filter_le _ _) (by omega)
      simp only [core, ↓core0, Tryd.facts, ↓reduceIte, ↓List.getElem?_map, ↓List.getElem?_cons_zero, ↓List.getElem?_cons_succ, List.map_cons, List.map_nil, Option.map_some, List.getElem?_nil, resOne, pickV, List.getD_cons_zero, List.getD_cons_succ, List.getD_nil, List.length_cons, List.length_nil, List.length_map, Option.isSome_some, Nat.reduceAdd, Nat.reduceEqDiff, Nat.reduceLeDiff, Nat.reduceLT, Int.reduceBNe, Int.reduceBEq, Int.reduceLT, Int.reduceLE, Int.reduceAdd, Int.reduceSub, decide_true, decide_false, Nat.zero_add, Nat.add_zero, ne_eq, not_false_eq_true, not_true_eq_false, true_and, and_true, reduceCtorEq, List.drop_zero, List.drop_succ_cons, List.take_succ_cons, List.take_zero, and_self, BEq.rfl, Bool.true_eq_false, Bool.false_eq_true, cond_true, cond_false, Bool.not_true, Bool.not_false, Nat.one_ne_zero, Nat.zero_ne_one, List.nil_append, List.append_nil, List.cons_append, Bool.true_and, Bool.and_true, Bool.false_and, Bool.and_false, Bool.true_or, Bool.or_true, Bool.false_or, Bool.or_false, beq_self_eq_true, beq_true, beq_false, implies_true, false_implies, false_or, or_false, gt_iff_lt, Nat.mul_one, Nat.reduceMul, Nat.not_lt_zero, List.toList_toArray, Option.some.injEq, h5, h4, h3, hnn, hia, his]
      refine ⟨by decide, inR64 (by omega) (by omega), by decide, inR64 (by omega) (by omega), InR_u64 _ ⟨by omega, by omega⟩, ?_⟩
      refine callW_of Tryd.go18 (by simp [V.noLocL, V.noLoc, noLoc_encO]) (fn_latency l ⟨ia, is, 0⟩ (by omega) htick) ?_
      simp only [core, ↓core0, Tryd.facts, ↓reduceIte, ↓List.getElem?_map, ↓List.getElem?_cons_zero, ↓List.getElem?_cons_succ, List.map_cons, List.map_nil, Option.map_some, List.getElem?_nil, resOne, pickV, List.getD_cons_zero, List.getD_cons_succ, List.getD_nil, List.length_cons, List.length_nil, List.length_map, Option.isSome_some, Nat.reduceAdd, Nat.reduceEqDiff, Nat.reduceLeDiff, Nat.reduceLT, Int.reduceBNe, Int.reduceBEq, Int.reduceLT, Int.reduceLE, Int.reduceAdd, Int.reduceSub, decide_true, decide_false, Nat.zero_add, Nat.add_zero, ne_eq, not_false_eq_true, not_true_eq_false, true_and, and_true, reduceCtorEq, List.drop_zero, List.drop_succ_cons, List.take_succ_cons, List.take_zero, and_self, BEq.rfl, Bool.true_eq_false, Bool.false_eq_true, cond_true, cond_false, Bool.not_true, Bool.not_false, Nat.one_ne_zero, Nat.zero_ne_one, List.nil_append, List.append_nil, List.cons_append, Bool.true_and, Bool.and_true, Bool.false_and, Bool.and_false, Bool.true_or, Bool.or_true, Bool.false_or, Bool.or_false, beq_self_eq_true, beq_true, beq_false, implies_true, false_implies, false_or, or_false, gt_iff_lt, Nat.mul_one, Nat.reduceMul, Nat.not_lt_zero, List.toList_toArray, Option.some.injEq, chkV, h5, h4, h3, hnn]
      refine callW_of Tryd.go14 (by simp [V.noLocL, V.noLoc, noLoc_encO]) (fn_of l ⟨ia, is, 0⟩ (by omega)) ?_
      simp only [core, ↓core0, Tryd.facts, ↓reduceIte, ↓List.getElem?_map, ↓List.getElem?_cons_zero, ↓List.getElem?_cons_succ, List.map_cons, List.map_nil, Option.map_some, List.getElem?_nil, resOne, pickV, List.getD_cons_zero, List.getD_cons_succ, List.getD_nil, List.length_cons, List.length_nil, List.length_map, Option.isSome_some, Nat.reduceAdd, Nat.reduceEqDiff, Nat.reduceLeDiff, Nat.reduceLT, Int.reduceBNe, Int.reduceBEq, Int.reduceLT, Int.reduceLE, Int.reduceAdd, Int.reduceSub, decide_true, decide_false, Nat.zero_add, Nat.add_zero, ne_eq, not_false_eq_true, not_true_eq_false, true_and, and_true, reduceCtorEq, List.drop_zero, List.drop_succ_cons, List.take_succ_cons, List.take_zero, and_self, BEq.rfl, Bool.true_eq_false, Bool.false_eq_true, cond_true, cond_false, Bool.not_true, Bool.not_false, Nat.one_ne_zero, Nat.zero_ne_one, List.nil_append, List.append_nil, List.cons_append, Bool.true_and, Bool.and_true, Bool.false_and, Bool.and_false, Bool.true_or, Bool.or_true, Bool.false_or, Bool.or_false, beq_self_eq_true, beq_true, beq_false, implies_true, false_implies, false_or, or_false, gt_iff_lt, Nat.mul_one, Nat.reduceMul, Nat.not_lt_zero, List.toList_toArray, Option.some.injEq, listV, h5, h4, h3, hnn, a1]
      refine callW_of Tryd.go18 (by simp [V.noLocL, V.noLoc, noLoc_encO]) (fn_latency (ofE l ⟨ia, is, 0⟩).1 ⟨ia, is, 0⟩ hll (fun x hx => htick x (hsub x hx))) ?_
      rw [a2]
      generalize latE l ⟨ia, is, 0⟩ = r at a3
      have hrr : (r.1 != r.1) = false := by simp
      have hrr2 : (r.2 != r.2) = false := by simp
      rcases a3 with ⟨a3, a4⟩ | a3
      · have hneg : decide (r.1 < 0) = false := by simp only [decide_eq_false_iff_not]; omega
        simp only [core, ↓core0, Tryd.facts, ↓reduceIte, ↓List.getElem?_map, ↓List.getElem?_cons_zero, ↓List.getElem?_cons_succ, List.map_cons, List.map_nil, Option.map_some, List.getElem?_nil, resOne, pickV, List.getD_cons_zero, List.getD_cons_succ, List.getD_nil, List.length_cons, List.length_nil, List.length_map, Option.isSome_some, Nat.reduceAdd, Nat.reduceEqDiff, Nat.reduceLeDiff, Nat.reduceLT, Int.reduceBNe, Int.reduceBEq, Int.reduceLT, Int.reduceLE, Int.reduceAdd, Int.reduceSub, decide_true, decide_false, Nat.zero_add, Nat.add_zero, ne_eq, not_false_eq_true, not_true_eq_false, true_and, and_true, reduceCtorEq, List.drop_zero, List.drop_succ_cons, List.take_succ_cons, List.take_zero, and_self, BEq.rfl, Bool.true_eq_false, Bool.false_eq_true, cond_true, cond_false, Bool.not_true, Bool.not_false, Nat.one_ne_zero, Nat.zero_ne_one, List.nil_append, List.append_nil, List.cons_append, Bool.true_and, Bool.and_true, Bool.false_and, Bool.and_false, Bool.true_or, Bool.or_true, Bool.false_or, Bool.or_false, beq_self_eq_true, beq_true, beq_false, implies_true, false_implies, false_or, or_false, gt_iff_lt, Nat.mul_one, Nat.reduceMul, Nat.not_lt_zero, List.toList_toArray, Option.some.injEq, chkV, h5, h4, h3, hnn, a1, hrr, hrr2, a3, hneg]
        refine ⟨inR64 (by omega) (by omega), k - 1, by omega, i + 1, _, _, _, rfl, by omega, (by first | rfl | (simp only [upd_apply, Nat.reduceEqDiff, ↓reduceIte, h5]; done) | (simp only [upd_apply, Nat.reduceEqDiff, ↓reduceIte, h5]; rfl)), (by first | rfl | (simp only [upd_apply, Nat.reduceEqDiff, ↓reduceIte, h4]; done) | (simp only [upd_apply, Nat.reduceEqDiff, ↓reduceIte, h4]; rfl)), (by first | rfl | (simp only [upd_apply, Nat.reduceEqDiff, ↓reduceIte, h3]; done) | (simp only [upd_apply, Nat.reduceEqDiff, ↓reduceIte, h3]; rfl)), ?_⟩
        intro b hb
        simp only [upd_apply]
        (repeat rw [if_neg (by omega)])
        exact hnb b (by omega)
      · simp only [core, ↓core0, Tryd.facts, ↓reduceIte, ↓List.getElem?_map, ↓List.getElem?_cons_zero, ↓List.getElem?_cons_succ, List.map_cons, List.map_nil, Option.map_some, List.getElem?_nil, resOne, pickV, List.getD_cons_zero, List.getD_cons_succ, List.getD_nil, List.length_cons, List.length_nil, List.length_map, Option.isSome_some, Nat.reduceAdd, Nat.reduceEqDiff, Nat.reduceLeDiff, Nat.reduceLT, Int.reduceBNe, Int.reduceBEq, Int.reduceLT, Int.reduceLE, Int.reduceAdd, Int.reduceSub, decide_true, decide_false, Nat.zero_add, Nat.add_zero, ne_eq, not_false_eq_true, not_true_eq_false, true_and, and_true, reduceCtorEq, List.drop_zero, List.drop_succ_cons, List.take_succ_cons, List.take_zero, and_self, BEq.rfl, Bool.true_eq_false, Bool.false_eq_true, cond_true, cond_false, Bool.not_true, Bool.not_false, Nat.one_ne_zero, Nat.zero_ne_one, List.nil_append, List.append_nil, List.cons_append, Bool.true_and, Bool.and_true, Bool.false_and, Bool.and_false, Bool.true_or, Bool.or_true, Bool.false_or, Bool.or_false, beq_self_eq_true, beq_true, beq_false, implies_true, false_implies, false_or, or_false, gt_iff_lt, Nat.mul_one, Nat.reduceMul, Nat.not_lt_zero, List.toList_toArray, Option.some.injEq, chkV, h5, h4, h3, hnn, a1, hrr, hrr2, a3]
        refine ⟨inR64 (by omega) (by omega), k - 1, by omega, i + 1, _, _, _, rfl, by omega, (by first | rfl | (simp only [upd_apply, Nat.reduceEqDiff, ↓reduceIte, h5]; done) | (simp only [upd_apply, Nat.reduceEqDiff, ↓reduceIte, h5]; rfl)), (by first | rfl | (simp only [upd_apply, Nat.reduceEqDiff, ↓reduceIte, h4]; done) | (simp only [upd_apply, Nat.reduceEqDiff, ↓reduceIte, h4]; rfl)), (by first | rfl | (simp only [upd_apply, Nat.reduceEqDiff, ↓reduceIte, h3]; done) | (simp only [upd_apply, Nat.reduceEqDiff, ↓reduceIte, h3]; rfl)), ?_⟩
        intro b hb
        simp only [upd_apply]
        (repeat rw [if_neg (by omega)])
        exact hnb b (by omega)
    · simp only [core, ↓core0, Tryd.facts, ↓reduceIte, ↓List.getElem?_map, ↓List.getElem?_cons_zero, ↓List.getElem?_cons_succ, List.map_cons, List.map_nil, Option.map_some, List.getElem?_nil, resOne, pickV, List.getD_cons_zero, List.getD_cons_succ, List.getD_nil, List.length_cons, List.length_nil, List.length_map, Option.isSome_some, Nat.reduceAdd, Nat.reduceEqDiff, Nat.reduceLeDiff, Nat.reduceLT, Int.reduceBNe, Int.reduceBEq, Int.reduceLT, Int.reduceLE, Int.reduceAdd, Int.reduceSub, decide_true, decide_false, Nat.zero_add, Nat.add_zero, ne_eq, not_false_eq_true, not_true_eq_false, true_and, and_true, reduceCtorEq, List.drop_zero, List.drop_succ_cons, List.take_succ_cons, List.take_zero, and_self, BEq.rfl, Bool.true_eq_false, Bool.false_eq_true, cond_true, cond_false, Bool.not_true, Bool.not_false, Nat.one_ne_zero, Nat.zero_ne_one, List.nil_append, List.append_nil, List.cons_append, Bool.true_and, Bool.and_true, Bool.false_and, Bool.and_false, Bool.true_or, Bool.or_true, Bool.false_or, Bool.or_false, beq_self_eq_true, beq_true, beq_false, implies_true, false_implies, false_or, or_false, gt_iff_lt, Nat.mul_one, Nat.reduceMul, Nat.not_lt_zero, List.toList_toArray, Option.some.injEq, h3, Tryd.f8]
  · exact ⟨0, _, _, _, rfl, by omega, (by first | rfl | (simp only [upd_apply, Nat.reduceEqDiff, ↓reduceIte, upd_apply]; done) | (simp only [upd_apply, Nat.reduceEqDiff, ↓reduceIte, upd_apply]; rfl)), (by first | rfl | (simp only [upd_apply, Nat.reduceEqDiff, ↓reduceIte, upd_apply]; done) | (simp only [upd_apply, Nat.reduceEqDiff, ↓reduceIte, upd_apply]; rfl)), (by first | rfl | (simp only [upd_apply, Nat.reduceEqDiff, ↓reduceIte, upd_apply]; done) | (simp only [upd_apply, Nat.reduceEqDiff, ↓reduceIte, upd_apply]; rfl)), fun _ _ => rfl⟩
end Go.Proofs.YtjcpgiicdppkcaaDoor
