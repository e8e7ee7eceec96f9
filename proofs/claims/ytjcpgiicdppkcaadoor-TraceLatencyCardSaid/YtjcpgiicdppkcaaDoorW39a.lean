import Derived.Test.YtjcpgiicdppkcaaDoorFacts
import Derived.KernelRfl
namespace Go.Proofs.YtjcpgiicdppkcaaDoor
open Go Go.Eng
set_option linter.unusedSimpArgs false
set_option linter.unusedVariables false

/-! LAYER 39: outcomes, and the small functions -/

theorem inR64 {n : Int} (h : -9223372036854775808 ≤ n) (k : n ≤ 9223372036854775807) : InR .i64 n := InR_i64 n ⟨h, k⟩
def encI (n : Int) : V := .int .i64 n
theorem cells_encI (n : Int) : (encI n).cellsL = [.int .i64 n] := (rfl)
theorem rows_encI (l : List Int) : rowsOK 1 (l.map encI) := rowsOK_map (fun _ => rfl) l
theorem noLoc_encI (l : List Int) : V.noLocL (l.map encI) = true := noLocL_map (fun _ => rfl) l

/-- An outcome: tick, node, kind, the ID's node, number and offset, the other node. -/
structure O where
  t : Int
  n : Int
  k : Int
  a : Int
  s : Int
  f : Int
  o : Int
  deriving DecidableEq, Inhabited

def encO (x : O) : V := .agg [.int .i64 x.t, .int .i64 x.n, .int .i64 x.k, .int .i64 x.a, .int .u64 x.s, .int .i64 x.f, .int .i64 x.o]
theorem cells_encO (x : O) : (encO x).cellsL = [.int .i64 x.t, .int .i64 x.n, .int .i64 x.k, .int .i64 x.a, .int .u64 x.s, .int .i64 x.f, .int .i64 x.o] := (rfl)
theorem csize_encO (x : O) : (encO x).csize = some 7 := (rfl)
theorem rows_encO (l : List O) : rowsOK 7 (l.map encO) := rowsOK_map (fun _ => rfl) l
theorem noLoc_encO (l : List O) : V.noLocL (l.map encO) = true := noLocL_map (fun _ => rfl) l

/-- An ID. -/
structure I where
  a : Int
  s : Int
  f : Int
  deriving DecidableEq, Inhabited
def O.id (x : O) : I := ⟨x.a, x.s, x.f⟩
def encID (x : I) : V := .agg [.int .i64 x.a, .int .u64 x.s, .int .i64 x.f]
theorem eq_ID (a s f b t g : Int) : eqV [.int .i64 a, .int .u64 s, .int .i64 f] [.int .i64 b, .int .u64 t, .int .i64 g] = decide ((⟨a, s, f⟩ : I) = ⟨b, t, g⟩) := by
  simp [eqV, cellEq]
  rfl
theorem kinds_ID (a s f : Int) : kindsOK [.int .i64, .int .u64, .int .i64] [.int .i64 a, .int .u64 s, .int .i64 f] := by simp [kindsOK, kindV]

def modI (a n : Int) : Int := if n < 1 then 0 else if a.tmod n < 0 then a.tmod n + n else a.tmod n

theorem modI_range {a n : Int} (h : 1 ≤ n) : 0 ≤ modI a n ∧ modI a n < n := by
  unfold modI
  rw [if_neg (by omega)]
  have h1 : a.tmod n < n := Int.tmod_lt_of_pos a (by omega)
  have h2 : -n < a.tmod n := by
    have := Int.lt_tmod_of_pos a (b := n) (by omega)
    exact this
  split <;> omega

set_option maxRecDepth 100000 in
theorem fn_mod (a n : Int) (hn : n ≤ 1000000000000) : Go.Eng.Fn Tryd.prog 25 [.int .i64 a, .int .i64 n] [] (.int .i64 (modI a n)) [] := by
  refine Fn.of_body Tryd.mixed (hd := []) Tryd.func25 rfl (by kernel_rfl) (Nat.le_of_ble_eq_true rfl) rfl (by simp) (by simp) ?_
  refine codeW_of ?_
  simp only [core, ↓core0, Tryd.facts, ↓reduceIte, ↓List.getElem?_map, ↓List.getElem?_cons_zero, ↓List.getElem?_cons_succ, List.map_cons, List.map_nil, Option.map_some, List.getElem?_nil, resOne, pickV, List.getD_cons_zero, List.getD_cons_succ, List.getD_nil, List.length_cons, List.length_nil, List.length_map, Option.isSome_some, Nat.reduceAdd, Nat.reduceEqDiff, Nat.reduceLeDiff, Nat.reduceLT, Int.reduceBNe, Int.reduceBEq, Int.reduceLT, Int.reduceLE, Int.reduceAdd, Int.reduceSub, decide_true, decide_false, Nat.zero_add, Nat.add_zero, ne_eq, not_false_eq_true, not_true_eq_false, true_and, and_true, reduceCtorEq, List.drop_zero, List.drop_succ_cons, List.take_succ_cons, List.take_zero, and_self, BEq.rfl, Bool.true_eq_false, Bool.false_eq_true, cond_true, cond_false, Bool.not_true, Bool.not_false, Nat.one_ne_zero, Nat.zero_ne_one, List.nil_append, List.append_nil, List.cons_append, Bool.true_and, Bool.and_true, Bool.false_and, Bool.and_false, Bool.true_or, Bool.or_true, Bool.false_or, Bool.or_false, beq_self_eq_true, beq_true, beq_false, implies_true, false_implies, false_or, or_false, gt_iff_lt, Nat.mul_one, Nat.reduceMul, Nat.not_lt_zero, List.toList_toArray, Option.some.injEq]
  refine brW_of (fun h => ?_) (fun h => ?_)
  · simp only [core, ↓core0, Tryd.facts, ↓reduceIte, ↓List.getElem?_map, ↓List.getElem?_cons_zero, ↓List.getElem?_cons_succ, List.map_cons, List.map_nil, Option.map_some, List.getElem?_nil, resOne, pickV, List.getD_cons_zero, List.getD_cons_succ, List.getD_nil, List.length_cons, List.length_nil, List.length_map, Option.isSome_some, Nat.reduceAdd, Nat.reduceEqDiff, Nat.reduceLeDiff, Nat.reduceLT, Int.reduceBNe, Int.reduceBEq, Int.reduceLT, Int.reduceLE, Int.reduceAdd, Int.reduceSub, decide_true, decide_false, Nat.zero_add, Nat.add_zero, ne_eq, not_false_eq_true, not_true_eq_false, true_and, and_true, reduceCtorEq, List.drop_zero, List.drop_succ_cons, List.take_succ_cons, List.take_zero, and_self, BEq.rfl, Bool.true_eq_false, Bool.false_eq_true, cond_true, cond_false, Bool.not_true, Bool.not_false, Nat.one_ne_zero, Nat.zero_ne_one, List.nil_append, List.append_nil, List.cons_append, Bool.true_and, Bool.and_true, Bool.false_and, Bool.and_false, Bool.true_or, Bool.or_true, Bool.false_or, Bool.or_false, beq_self_eq_true, beq_true, beq_false, implies_true, false_implies, false_or, or_false, gt_iff_lt, Nat.mul_one, Nat.reduceMul, Nat.not_lt_zero, List.toList_toArray, Option.some.injEq, Tryd.f25]
    simp only [decide_eq_true_eq] at h
    rw [modI, if_pos h]
  simp only [decide_eq_false_iff_not] at h
  simp only [core, ↓core0, Tryd.facts, ↓reduceIte, ↓List.getElem?_map, ↓List.getElem?_cons_zero, ↓List.getElem?_cons_succ, List.map_cons, List.map_nil, Option.map_some, List.getElem?_nil, resOne, pickV, List.getD_cons_zero, List.getD_cons_succ, List.getD_nil, List.length_cons, List.length_nil, List.length_map, Option.isSome_some, Nat.reduceAdd, Nat.reduceEqDiff, Nat.reduceLeDiff, Nat.reduceLT, Int.reduceBNe, Int.reduceBEq, Int.reduceLT, Int.reduceLE, Int.reduceAdd, Int.reduceSub, decide_true, decide_false, Nat.zero_add, Nat.add_zero, ne_eq, not_false_eq_true, not_true_eq_false, true_and, and_true, reduceCtorEq, List.drop_zero, List.drop_succ_cons, List.take_succ_cons, List.take_zero, and_self, BEq.rfl, Bool.true_eq_false, Bool.false_eq_true, cond_true, cond_false, Bool.not_true, Bool.not_false, Nat.one_ne_zero, Nat.zero_ne_one, List.nil_append, List.append_nil, List.cons_append, Bool.true_and, Bool.and_true, Bool.false_and, Bool.and_false, Bool.true_or, Bool.or_true, Bool.false_or, Bool.or_false, beq_self_eq_true, beq_true, beq_false, implies_true, false_implies, false_or, or_false, gt_iff_lt, Nat.mul_one, Nat.reduceMul, Nat.not_lt_zero, List.toList_toArray, Option.some.injEq]
  refine ⟨by omega, ?_⟩
  refine brW_of (fun h1 => ?_) (fun h1 => ?_)
  · simp only [core, ↓core0, Tryd.facts, ↓reduceIte, ↓List.getElem?_map, ↓List.getElem?_cons_zero, ↓List.getElem?_cons_succ, List.map_cons, List.map_nil, Option.map_some, List.getElem?_nil, resOne, pickV, List.getD_cons_zero, List.getD_cons_succ, List.getD_nil, List.length_cons, List.length_nil, List.length_map, Option.isSome_some, Nat.reduceAdd, Nat.reduceEqDiff, Nat.reduceLeDiff, Nat.reduceLT, Int.reduceBNe, Int.reduceBEq, Int.reduceLT, Int.reduceLE, Int.reduceAdd, Int.reduceSub, decide_true, decide_false, Nat.zero_add, Nat.add_zero, ne_eq, not_false_eq_true, not_true_eq_false, true_and, and_true, reduceCtorEq, List.drop_zero, List.drop_succ_cons, List.take_succ_cons, List.take_zero, and_self, BEq.rfl, Bool.true_eq_false, Bool.false_eq_true, cond_true, cond_false, Bool.not_true, Bool.not_false, Nat.one_ne_zero, Nat.zero_ne_one, List.nil_append, List.append_nil, List.cons_append, Bool.true_and, Bool.and_true, Bool.false_and, Bool.and_false, Bool.true_or, Bool.or_true, Bool.false_or, Bool.or_false, beq_self_eq_true, beq_true, beq_false, implies_true, false_implies, false_or, or_false, gt_iff_lt, Nat.mul_one, Nat.reduceMul, Nat.not_lt_zero, List.toList_toArray, Option.some.injEq, Tryd.f25]
    simp only [decide_eq_true_eq] at h1
    have := modI_range (a := a) (n := n) (by omega)
    rw [modI, if_neg h, if_pos h1] at *
    exact ⟨inR64 (by omega) (by omega), rfl⟩
  · simp only [core, ↓core0, Tryd.facts, ↓reduceIte, ↓List.getElem?_map, ↓List.getElem?_cons_zero, ↓List.getElem?_cons_succ, List.map_cons, List.map_nil, Option.map_some, List.getElem?_nil, resOne, pickV, List.getD_cons_zero, List.getD_cons_succ, List.getD_nil, List.length_cons, List.length_nil, List.length_map, Option.isSome_some, Nat.reduceAdd, Nat.reduceEqDiff, Nat.reduceLeDiff, Nat.reduceLT, Int.reduceBNe, Int.reduceBEq, Int.reduceLT, Int.reduceLE, Int.reduceAdd, Int.reduceSub, decide_true, decide_false, Nat.zero_add, Nat.add_zero, ne_eq, not_false_eq_true, not_true_eq_false, true_and, and_true, reduceCtorEq, List.drop_zero, List.drop_succ_cons, List.take_succ_cons, List.take_zero, and_self, BEq.rfl, Bool.true_eq_false, Bool.false_eq_true, cond_true, cond_false, Bool.not_true, Bool.not_false, Nat.one_ne_zero, Nat.zero_ne_one, List.nil_append, List.append_nil, List.cons_append, Bool.true_and, Bool.and_true, Bool.false_and, Bool.and_false, Bool.true_or, Bool.or_true, Bool.false_or, Bool.or_false, beq_self_eq_true, beq_true, beq_false, implies_true, false_implies, false_or, or_false, gt_iff_lt, Nat.mul_one, Nat.reduceMul, Nat.not_lt_zero, List.toList_toArray, Option.some.injEq, Tryd.f25]
    simp only [decide_eq_false_iff_not] at h1
    rw [modI, if_neg h, if_neg h1]

def usesID (k : Int) : Bool := decide (1 ≤ k ∧ k ≤ 10 ∧ k ≠ 5)

set_option maxRecDepth 100000 in
theorem fn_usesID (k : Int) : Go.Eng.Fn Tryd.prog 34 [.int .i64 k] [] (.bool (usesID k)) [] := by
  refine Fn.of_body Tryd.mixed (hd := []) Tryd.func34 rfl (by kernel_rfl) (Nat.le_of_ble_eq_true rfl) rfl (by simp) (by simp) ?_
  refine codeW_of ?_
  simp only [core, ↓core0, Tryd.facts, ↓reduceIte, ↓List.getElem?_map, ↓List.getElem?_cons_zero, ↓List.getElem?_cons_succ, List.map_cons, List.map_nil, Option.map_some, List.getElem?_nil, resOne, pickV, List.getD_cons_zero, List.getD_cons_succ, List.getD_nil, List.length_cons, List.length_nil, List.length_map, Option.isSome_some, Nat.reduceAdd, Nat.reduceEqDiff, Nat.reduceLeDiff, Nat.reduceLT, Int.reduceBNe, Int.reduceBEq, Int.reduceLT, Int.reduceLE, Int.reduceAdd, Int.reduceSub, decide_true, decide_false, Nat.zero_add, Nat.add_zero, ne_eq, not_false_eq_true, not_true_eq_false, true_and, and_true, reduceCtorEq, List.drop_zero, List.drop_succ_cons, List.take_succ_cons, List.take_zero, and_self, BEq.rfl, Bool.true_eq_false, Bool.false_eq_true, cond_true, cond_false, Bool.not_true, Bool.not_false, Nat.one_ne_zero, Nat.zero_ne_one, List.nil_append, List.append_nil, List.cons_append, Bool.true_and, Bool.and_true, Bool.false_and, Bool.and_false, Bool.true_or, Bool.or_true, Bool.false_or, Bool.or_false, beq_self_eq_true, beq_true, beq_false, implies_true, false_implies, false_or, or_false, gt_iff_lt, Nat.mul_one, Nat.reduceMul, Nat.not_lt_zero, List.toList_toArray, Option.some.injEq]
  repeat' (refine brW_of (fun h => ?_) (fun h => ?_) <;> simp only [core, ↓core0, Tryd.facts, ↓reduceIte, ↓List.getElem?_map, ↓List.getElem?_cons_zero, ↓List.getElem?_cons_succ, List.map_cons, List.map_nil, Option.map_some, List.getElem?_nil, resOne, pickV, List.getD_cons_zero, List.getD_cons_succ, List.getD_nil, List.length_cons, List.length_nil, List.length_map, Option.isSome_some, Nat.reduceAdd, Nat.reduceEqDiff, Nat.reduceLeDiff, Nat.reduceLT, Int.reduceBNe, Int.reduceBEq, Int.reduceLT, Int.reduceLE, Int.reduceAdd, Int.reduceSub, decide_true, decide_false, Nat.zero_add, Nat.add_zero, ne_eq, not_false_eq_true, not_true_eq_false, true_and, and_true, reduceCtorEq, List.drop_zero, List.drop_succ_cons, List.take_succ_cons, List.take_zero, and_self, BEq.rfl, Bool.true_eq_false, Bool.false_eq_true, cond_true, cond_false, Bool.not_true, Bool.not_false, Nat.one_ne_zero, Nat.zero_ne_one, List.nil_append, List.append_nil, List.cons_append, Bool.true_and, Bool.and_true, Bool.false_and, Bool.and_false, Bool.true_or, Bool.or_true, Bool.false_or, Bool.or_false, beq_self_eq_true, beq_true, beq_false, implies_true, false_implies, false_or, or_false, gt_iff_lt, Nat.mul_one, Nat.reduceMul, Nat.not_lt_zero, List.toList_toArray, Option.some.injEq, h, Tryd.f34])
  all_goals simp only [decide_eq_true_eq, decide_eq_false_iff_not, bne_iff_ne, beq_iff_eq, bne_eq_false_iff_eq, ne_eq] at *
  all_goals first
    | (rw [show usesID k = false by (simp only [usesID, decide_eq_false_iff_not]; omega)]; done)
    | (rw [show usesID k = true by (simp only [usesID, decide_eq_true_eq]; omega)]; done)
    | (rw [show usesID k = (k != 5) by (rw [Bool.eq_iff_iff]; simp only [usesID, decide_eq_true_eq, bne_iff_ne, ne_eq]; omega)]; done)

/-! Numbers within limits; IDs -/

def encT (x : Int × Int × Int) : V := .agg [.int .i64 x.1, .int .i64 x.2.1, .int .i64 x.2.2]
theorem cells_encT (x : Int × Int × Int) : (encT x).cellsL = [.int .i64 x.1, .int .i64 x.2.1, .int .i64 x.2.2] := (rfl)
theorem rows_encT (l : List (Int × Int × Int)) : rowsOK 3 (l.map encT) := rowsOK_map (fun _ => rfl) l
theorem noLoc_encT (l : List (Int × Int × Int)) : V.noLocL (l.map encT) = true := noLocL_map (fun _ => rfl) l
def inT (x : Int × Int × Int) : Bool := decide (x.2.1 ≤ x.1 ∧ x.1 ≤ x.2.2)

set_option maxRecDepth 100000 in
theorem fn_within (l : List (Int × Int × Int)) (hl : l.length ≤ 1000) : Go.Eng.Fn Tryd.prog 47 [.list (l.map encT)] [] (.bool (l.all inT)) [] := by
  refine Fn.of_body Tryd.mixed (hd := []) Tryd.func47 rfl (by kernel_rfl) (Nat.le_of_ble_eq_true rfl) rfl (by simp) (by simp) ?_
  refine codeW_of ?_
  simp only [core, ↓core0, Tryd.facts, ↓reduceIte, ↓List.getElem?_map, ↓List.getElem?_cons_zero, ↓List.getElem?_cons_succ, List.map_cons, List.map_nil, Option.map_some, List.getElem?_nil, resOne, pickV, List.getD_cons_zero, List.getD_cons_succ, List.getD_nil, List.length_cons, List.length_nil, List.length_map, Option.isSome_some, Nat.reduceAdd, Nat.reduceEqDiff, Nat.reduceLeDiff, Nat.reduceLT, Int.reduceBNe, Int.reduceBEq, Int.reduceLT, Int.reduceLE, Int.reduceAdd, Int.reduceSub, decide_true, decide_false, Nat.zero_add, Nat.add_zero, ne_eq, not_false_eq_true, not_true_eq_false, true_and, and_true, reduceCtorEq, List.drop_zero, List.drop_succ_cons, List.take_succ_cons, List.take_zero, and_self, BEq.rfl, Bool.true_eq_false, Bool.false_eq_true, cond_true, cond_false, Bool.not_true, Bool.not_false, Nat.one_ne_zero, Nat.zero_ne_one, List.nil_append, List.append_nil, List.cons_append, Bool.true_and, Bool.and_true, Bool.false_and, Bool.and_false, Bool.true_or, Bool.or_true, Bool.false_or, Bool.or_false, beq_self_eq_true, beq_true, beq_false, implies_true, false_implies, false_or, or_false, gt_iff_lt, Nat.mul_one, Nat.reduceMul, Nat.not_lt_zero, List.toList_toArray, Option.some.injEq]
  refine loopW_of Tryd.mixed (fun k st => ∃ (i nb : Nat) (sl : Nat → V × Option (Nat × TypeId)) (bx : Nat → Option Box), st = ⟨nb, sl, bx⟩ ∧ k + i = l.length ∧ sl 7 = (.int .i64 i, none) ∧ sl 6 = (.int .i64 l.length, none) ∧ sl 5 = (.list (l.map encT), none) ∧
      (∀ n, nb ≤ n → bx n = none) ∧ ∀ j, j < i → inT (l.getD j default) = true) (by kernel_rfl) ?_ (k := l.length) ?_
  · rintro k st ⟨i, nb, sl, bx, rfl, hk, h7, h6, h5, hnb, hp⟩
    simp only [core, ↓core0, Tryd.facts, ↓reduceIte, ↓List.getElem?_map, ↓List.getElem?_cons_zero, ↓List.getElem?_cons_succ, List.map_cons, List.map_nil, Option.map_some, List.getElem?_nil, resOne, pickV, List.getD_cons_zero, List.getD_cons_succ, List.getD_nil, List.length_cons, List.length_nil, List.length_map, Option.isSome_some, Nat.reduceAdd, Nat.reduceEqDiff, Nat.reduceLeDiff, Nat.reduceLT, Int.reduceBNe, Int.reduceBEq, Int.reduceLT, Int.reduceLE, Int.reduceAdd, Int.reduceSub, decide_true, decide_false, Nat.zero_add, Nat.add_zero, ne_eq, not_false_eq_true, not_true_eq_false, true_and, and_true, reduceCtorEq, List.drop_zero, List.drop_succ_cons, List.take_succ_cons, List.take_zero, and_self, BEq.rfl, Bool.true_eq_false, Bool.false_eq_true, cond_true, cond_false, Bool.not_true, Bool.not_false, Nat.one_ne_zero, Nat.zero_ne_one, List.nil_append, List.append_nil, List.cons_append, Bool.true_and, Bool.and_true, Bool.false_and, Bool.and_false, Bool.true_or, Bool.or_true, Bool.false_or, Bool.or_false, beq_self_eq_true, beq_true, beq_false, implies_true, false_implies, false_or, or_false, gt_iff_lt, Nat.mul_one, Nat.reduceMul, Nat.not_lt_zero, List.toList_toArray, Option.some.injEq, h7, h6, h5]
    refine brW_of (fun h2 => ?_) (fun h2 => ?_)
    · have hi : i < l.length := by simp at h2; omega
      have hz : ((i : Int) < l.length) = True := by simp; omega
      have hnn : bx nb = none := hnb nb (Nat.le_refl _)
      have bad : inT (l.getD i default) = false → l.all inT = false := fun hb => by
        rw [List.all_eq_false]
        refine ⟨l.getD i default, ?_, by rw [hb]; simp⟩
        rw [List.getD_eq_getElem?_getD, List.getElem?_eq_getElem hi]
        exact List.getElem_mem hi
      simp only [core, ↓core0, Tryd.facts, ↓reduceIte, ↓List.getElem?_map, ↓List.getElem?_cons_zero, ↓List.getElem?_cons_succ, List.map_cons, List.map_nil, Option.map_some, List.getElem?_nil, resOne, pickV, List.getD_cons_zero, List.getD_cons_succ, List.getD_nil, List.length_cons, List.length_nil, List.length_map, Option.isSome_some, Nat.reduceAdd, Nat.reduceEqDiff, Nat.reduceLeDiff, Nat.reduceLT, Int.reduceBNe, Int.reduceBEq, Int.reduceLT, Int.reduceLE, Int.reduceAdd, Int.reduceSub, decide_true, decide_false, Nat.zero_add, Nat.add_zero, ne_eq, not_false_eq_true, not_true_eq_false, true_and, and_true, reduceCtorEq, List.drop_zero, List.drop_succ_cons, List.take_succ_cons, List.take_zero, and_self, BEq.rfl, Bool.true_eq_false, Bool.false_eq_true, cond_true, cond_false, Bool.not_true, Bool.not_false, Nat.one_ne_zero, Nat.zero_ne_one, List.nil_append, List.append_nil, List.cons_append, Bool.true_and, Bool.and_true, Bool.false_and, Bool.and_false, Bool.true_or, Bool.or_true, Bool.false_or, Bool.or_false, beq_self_eq_true, beq_true, beq_false, implies_true, false_implies, false_or, or_false, gt_iff_lt, Nat.mul_one, Nat.reduceMul, Nat.not_lt_zero, List.toList_toArray, Option.some.injEq, h7, h6, h5, hz, rows_encT, Int.natCast_nonneg, Int.toNat_natCast, getD_map_any (d := default) hi, cells_encT, hnn]
      refine brW_of (fun h4 => ?_) (fun h4 => ?_)
      · simp only [core, ↓core0, Tryd.facts, ↓reduceIte, ↓List.getElem?_map, ↓List.getElem?_cons_zero, ↓List.getElem?_cons_succ, List.map_cons, List.map_nil, Option.map_some, List.getElem?_nil, resOne, pickV, List.getD_cons_zero, List.getD_cons_succ, List.getD_nil, List.length_cons, List.length_nil, List.length_map, Option.isSome_some, Nat.reduceAdd, Nat.reduceEqDiff, Nat.reduceLeDiff, Nat.reduceLT, Int.reduceBNe, Int.reduceBEq, Int.reduceLT, Int.reduceLE, Int.reduceAdd, Int.reduceSub, decide_true, decide_false, Nat.zero_add, Nat.add_zero, ne_eq, not_false_eq_true, not_true_eq_false, true_and, and_true, reduceCtorEq, List.drop_zero, List.drop_succ_cons, List.take_succ_cons, List.take_zero, and_self, BEq.rfl, Bool.true_eq_false, Bool.false_eq_true, cond_true, cond_false, Bool.not_true, Bool.not_false, Nat.one_ne_zero, Nat.zero_ne_one, List.nil_append, List.append_nil, List.cons_append, Bool.true_and, Bool.and_true, Bool.false_and, Bool.and_false, Bool.true_or, Bool.or_true, Bool.false_or, Bool.or_false, beq_self_eq_true, beq_true, beq_false, implies_true, false_implies, false_or, or_false, gt_iff_lt, Nat.mul_one, Nat.reduceMul, Nat.not_lt_zero, List.toList_toArray, Option.some.injEq, h4, Tryd.f47]
        simp only [decide_eq_true_eq] at h4
        rw [bad (by simp only [inT, decide_eq_false_iff_not]; omega)]
      · simp only [core, ↓core0, Tryd.facts, ↓reduceIte, ↓List.getElem?_map, ↓List.getElem?_cons_zero, ↓List.getElem?_cons_succ, List.map_cons, List.map_nil, Option.map_some, List.getElem?_nil, resOne, pickV, List.getD_cons_zero, List.getD_cons_succ, List.getD_nil, List.length_cons, List.length_nil, List.length_map, Option.isSome_some, Nat.reduceAdd, Nat.reduceEqDiff, Nat.reduceLeDiff, Nat.reduceLT, Int.reduceBNe, Int.reduceBEq, Int.reduceLT, Int.reduceLE, Int.reduceAdd, Int.reduceSub, decide_true, decide_false, Nat.zero_add, Nat.add_zero, ne_eq, not_false_eq_true, not_true_eq_false, true_and, and_true, reduceCtorEq, List.drop_zero, List.drop_succ_cons, List.take_succ_cons, List.take_zero, and_self, BEq.rfl, Bool.true_eq_false, Bool.false_eq_true, cond_true, cond_false, Bool.not_true, Bool.not_false, Nat.one_ne_zero, Nat.zero_ne_one, List.nil_append, List.append_nil, List.cons_append, Bool.true_and, Bool.and_true, Bool.false_and, Bool.and_false, Bool.true_or, Bool.or_true, Bool.false_or, Bool.or_false, beq_self_eq_true, beq_true, beq_false, implies_true, false_implies, false_or, or_false, gt_iff_lt, Nat.mul_one, Nat.reduceMul, Nat.not_lt_zero, List.toList_toArray, Option.some.injEq, h4, h7, h6, h5]
        refine brW_of (fun h9 => ?_) (fun h9 => ?_)
        · simp only [core, ↓core0, Tryd.facts, ↓reduceIte, ↓List.getElem?_map, ↓List.getElem?_cons_zero, ↓List.getElem?_cons_succ, List.map_cons, List.map_nil, Option.map_some, List.getElem?_nil, resOne, pickV, List.getD_cons_zero, List.getD_cons_succ, List.getD_nil, List.length_cons, List.length_nil, List.length_map, Option.isSome_some, Nat.reduceAdd, Nat.reduceEqDiff, Nat.reduceLeDiff, Nat.reduceLT, Int.reduceBNe, Int.reduceBEq, Int.reduceLT, Int.reduceLE, Int.reduceAdd, Int.reduceSub, decide_true, decide_false, Nat.zero_add, Nat.add_zero, ne_eq, not_false_eq_true, not_true_eq_false, true_and, and_true, reduceCtorEq, List.drop_zero, List.drop_succ_cons, List.take_succ_cons, List.take_zero, and_self, BEq.rfl, Bool.true_eq_false, Bool.false_eq_true, cond_true, cond_false, Bool.not_true, Bool.not_false, Nat.one_ne_zero, Nat.zero_ne_one, List.nil_append, List.append_nil, List.cons_append, Bool.true_and, Bool.and_true, Bool.false_and, Bool.and_false, Bool.true_or, Bool.or_true, Bool.false_or, Bool.or_false, beq_self_eq_true, beq_true, beq_false, implies_true, false_implies, false_or, or_false, gt_iff_lt, Nat.mul_one, Nat.reduceMul, Nat.not_lt_zero, List.toList_toArray, Option.some.injEq, h4, h9, Tryd.f47]
          simp only [decide_eq_true_eq, decide_eq_false_iff_not] at h4 h9
          rw [bad (by simp only [inT, decide_eq_false_iff_not]; omega)]
        · simp only [core, ↓core0, Tryd.facts, ↓reduceIte, ↓List.getElem?_map, ↓List.getElem?_cons_zero, ↓List.getElem?_cons_succ, List.map_cons, List.map_nil, Option.map_some, List.getElem?_nil, resOne, pickV, List.getD_cons_zero, List.getD_cons_succ, List.getD_nil, List.length_cons, List.length_nil, List.length_map, Option.isSome_some, Nat.reduceAdd, Nat.reduceEqDiff, Nat.reduceLeDiff, Nat.reduceLT, Int.reduceBNe, Int.reduceBEq, Int.reduceLT, Int.reduceLE, Int.reduceAdd, Int.reduceSub, decide_true, decide_false, Nat.zero_add, Nat.add_zero, ne_eq, not_false_eq_true, not_true_eq_false, true_and, and_true, reduceCtorEq, List.drop_zero, List.drop_succ_cons, List.take_succ_cons, List.take_zero, and_self, BEq.rfl, Bool.true_eq_false, Bool.false_eq_true, cond_true, cond_false, Bool.not_true, Bool.not_false, Nat.one_ne_zero, Nat.zero_ne_one, List.nil_append, List.append_nil, List.cons_append, Bool.true_and, Bool.and_true, Bool.false_and, Bool.and_false, Bool.true_or, Bool.or_true, Bool.false_or, Bool.or_false, beq_self_eq_true, beq_true, beq_false, implies_true, false_implies, false_or, or_false, gt_iff_lt, Nat.mul_one, Nat.reduceMul, Nat.not_lt_zero, List.toList_toArray, Option.some.injEq, h7, h6, h5, h4, h9]
          simp only [decide_eq_true_eq, decide_eq_false_iff_not] at h4 h9
          refine ⟨inR64 (by omega) (by omega), k - 1, by omega, i + 1, _, _, _, rfl, by omega, (by first | rfl | (simp only [upd_apply, Nat.reduceEqDiff, ↓reduceIte, h7]; done) | (simp only [upd_apply, Nat.reduceEqDiff, ↓reduceIte, h7]; rfl)), (by first | rfl | (simp only [upd_apply, Nat.reduceEqDiff, ↓reduceIte, h6]; done) | (simp only [upd_apply, Nat.reduceEqDiff, ↓reduceIte, h6]; rfl)), (by first | rfl | (simp only [upd_apply, Nat.reduceEqDiff, ↓reduceIte, h5]; done) | (simp only [upd_apply, Nat.reduceEqDiff, ↓reduceIte, h5]; rfl)), ?_, fun j hj => ?_⟩
          · intro n hn; simp only [upd_apply]; repeat rw [if_neg (by omega)]
            exact hnb n (by omega)
          rcases Nat.lt_succ_iff_lt_or_eq.1 hj with hj | rfl
          · exact hp j hj
          · simp only [inT, decide_eq_true_eq]; omega
    · simp only [core, ↓core0, Tryd.facts, ↓reduceIte, ↓List.getElem?_map, ↓List.getElem?_cons_zero, ↓List.getElem?_cons_succ, List.map_cons, List.map_nil, Option.map_some, List.getElem?_nil, resOne, pickV, List.getD_cons_zero, List.getD_cons_succ, List.getD_nil, List.length_cons, List.length_nil, List.length_map, Option.isSome_some, Nat.reduceAdd, Nat.reduceEqDiff, Nat.reduceLeDiff, Nat.reduceLT, Int.reduceBNe, Int.reduceBEq, Int.reduceLT, Int.reduceLE, Int.reduceAdd, Int.reduceSub, decide_true, decide_false, Nat.zero_add, Nat.add_zero, ne_eq, not_false_eq_true, not_true_eq_false, true_and, and_true, reduceCtorEq, List.drop_zero, List.drop_succ_cons, List.take_succ_cons, List.take_zero, and_self, BEq.rfl, Bool.true_eq_false, Bool.false_eq_true, cond_true, cond_false, Bool.not_true, Bool.not_false, Nat.one_ne_zero, Nat.zero_ne_one, List.nil_append, List.append_nil, List.cons_append, Bool.true_and, Bool.and_true, Bool.false_and, Bool.and_false, Bool.true_or, Bool.or_true, Bool.false_or, Bool.or_false, beq_self_eq_true, beq_true, beq_false, implies_true, false_implies, false_or, or_false, gt_iff_lt, Nat.mul_one, Nat.reduceMul, Nat.not_lt_zero, List.toList_toArray, Option.some.injEq, Tryd.f47]
      have hi : i = l.length := by simp at h2; omega
      subst hi
      have : l.all inT = true := by
        rw [List.all_eq_true]
        intro x hx
        obtain ⟨j, hj, rfl⟩ := List.getElem_of_mem hx
        have := hp j hj
        rwa [List.getD_eq_getElem?_getD, List.getElem?_eq_getElem hj] at this
      rw [this]
  · exact ⟨0, _, _, _, rfl, by omega, (by first | rfl | (simp only [upd_apply, Nat.reduceEqDiff, ↓reduceIte, upd_apply]; done) | (simp only [upd_apply, Nat.reduceEqDiff, ↓reduceIte, upd_apply]; rfl)), (by first | rfl | (simp only [upd_apply, Nat.reduceEqDiff, ↓reduceIte, upd_apply]; done) | (simp only [upd_apply, Nat.reduceEqDiff, ↓reduceIte, upd_apply]; rfl)), (by first | rfl | (simp only [upd_apply, Nat.reduceEqDiff, ↓reduceIte, upd_apply]; done) | (simp only [upd_apply, Nat.reduceEqDiff, ↓reduceIte, upd_apply]; rfl)), fun _ _ => rfl, by omega⟩

def idOK (x : I) : Bool := decide (1 ≤ x.a ∧ x.a ≤ 16 ∧ x.s ≤ 1099511627776 ∧ 0 ≤ x.f ∧ x.f < 20000)
def errV (b : Bool) : V := .int .i64 (if b then 0 else 2)

set_option maxRecDepth 100000 in
theorem fn_checkID (x : I) : Go.Eng.Fn Tryd.prog 29 [encID x] [] (errV (idOK x)) [] := by
  refine Fn.of_body Tryd.mixed (hd := []) Tryd.func29 rfl (by kernel_rfl) (Nat.le_of_ble_eq_true rfl) rfl (by simp) (by simp) ?_
  refine codeW_of ?_
  unfold encID
  simp only [core, ↓core0, Tryd.facts, ↓reduceIte, ↓List.getElem?_map, ↓List.getElem?_cons_zero, ↓List.getElem?_cons_succ, List.map_cons, List.map_nil, Option.map_some, List.getElem?_nil, resOne, pickV, List.getD_cons_zero, List.getD_cons_succ, List.getD_nil, List.length_cons, List.length_nil, List.length_map, Option.isSome_some, Nat.reduceAdd, Nat.reduceEqDiff, Nat.reduceLeDiff, Nat.reduceLT, Int.reduceBNe, Int.reduceBEq, Int.reduceLT, Int.reduceLE, Int.reduceAdd, Int.reduceSub, decide_true, decide_false, Nat.zero_add, Nat.add_zero, ne_eq, not_false_eq_true, not_true_eq_false, true_and, and_true, reduceCtorEq, List.drop_zero, List.drop_succ_cons, List.take_succ_cons, List.take_zero, and_self, BEq.rfl, Bool.true_eq_false, Bool.false_eq_true, cond_true, cond_false, Bool.not_true, Bool.not_false, Nat.one_ne_zero, Nat.zero_ne_one, List.nil_append, List.append_nil, List.cons_append, Bool.true_and, Bool.and_true, Bool.false_and, Bool.and_false, Bool.true_or, Bool.or_true, Bool.false_or, Bool.or_false, beq_self_eq_true, beq_true, beq_false, implies_true, false_implies, false_or, or_false, gt_iff_lt, Nat.mul_one, Nat.reduceMul, Nat.not_lt_zero, List.toList_toArray, Option.some.injEq]
  refine callW_of Tryd.go47 rfl (fn_within [(x.a, 1, 16), (x.f, 0, 19999)] (by simp)) ?_
  simp only [core, ↓core0, Tryd.facts, ↓reduceIte, ↓List.getElem?_map, ↓List.getElem?_cons_zero, ↓List.getElem?_cons_succ, List.map_cons, List.map_nil, Option.map_some, List.getElem?_nil, resOne, pickV, List.getD_cons_zero, List.getD_cons_succ, List.getD_nil, List.length_cons, List.length_nil, List.length_map, Option.isSome_some, Nat.reduceAdd, Nat.reduceEqDiff, Nat.reduceLeDiff, Nat.reduceLT, Int.reduceBNe, Int.reduceBEq, Int.reduceLT, Int.reduceLE, Int.reduceAdd, Int.reduceSub, decide_true, decide_false, Nat.zero_add, Nat.add_zero, ne_eq, not_false_eq_true, not_true_eq_false, true_and, and_true, reduceCtorEq, List.drop_zero, List.drop_succ_cons, List.take_succ_cons, List.take_zero, and_self, BEq.rfl, Bool.true_eq_false, Bool.false_eq_true, cond_true, cond_false, Bool.not_true, Bool.not_false, Nat.one_ne_zero, Nat.zero_ne_one, List.nil_append, List.append_nil, List.cons_append, Bool.true_and, Bool.and_true, Bool.false_and, Bool.and_false, Bool.true_or, Bool.or_true, Bool.false_or, Bool.or_false, beq_self_eq_true, beq_true, beq_false, implies_true, false_implies, false_or, or_false, gt_iff_lt, Nat.mul_one, Nat.reduceMul, Nat.not_lt_zero, List.toList_toArray, Option.some.injEq, List.all_cons, List.all_nil]
  repeat' (refine brW_of (fun h => ?_) (fun h => ?_) <;> simp only [core, ↓core0, Tryd.facts, ↓reduceIte, ↓List.getElem?_map, ↓List.getElem?_cons_zero, ↓List.getElem?_cons_succ, List.map_cons, List.map_nil, Option.map_some, List.getElem?_nil, resOne, pickV, List.getD_cons_zero, List.getD_cons_succ, List.getD_nil, List.length_cons, List.length_nil, List.length_map, Option.isSome_some, Nat.reduceAdd, Nat.reduceEqDiff, Nat.reduceLeDiff, Nat.reduceLT, Int.reduceBNe, Int.reduceBEq, Int.reduceLT, Int.reduceLE, Int.reduceAdd, Int.reduceSub, decide_true, decide_false, Nat.zero_add, Nat.add_zero, ne_eq, not_false_eq_true, not_true_eq_false, true_and, and_true, reduceCtorEq, List.drop_zero, List.drop_succ_cons, List.take_succ_cons, List.take_zero, and_self, BEq.rfl, Bool.true_eq_false, Bool.false_eq_true, cond_true, cond_false, Bool.not_true, Bool.not_false, Nat.one_ne_zero, Nat.zero_ne_one, List.nil_append, List.append_nil, List.cons_append, Bool.true_and, Bool.and_true, Bool.false_and, Bool.and_false, Bool.true_or, Bool.or_true, Bool.false_or, Bool.or_false, beq_self_eq_true, beq_true, beq_false, implies_true, false_implies, false_or, or_false, gt_iff_lt, Nat.mul_one, Nat.reduceMul, Nat.not_lt_zero, List.toList_toArray, Option.some.injEq, h, Tryd.f29])
  all_goals simp only [decide_eq_true_eq, decide_eq_false_iff_not, beq_iff_eq, beq_eq_false_iff_ne, inT, Bool.and_eq_true, Bool.and_eq_false_iff, Bool.not_eq_true', Bool.not_eq_false'] at *
  all_goals first
    | (rw [show idOK x = false by (simp only [idOK, decide_eq_false_iff_not]; omega)]; rfl)
    | (rw [show idOK x = true by (simp only [idOK, decide_eq_true_eq]; omega)]; rfl)

/-! What is wrong with an outcome -/

def usesI (k : Nat) : Int := ([0, 1, 1, 1, 1, 0, 3, 3, 1, 1, 3, 2, 6, 2, 0, 0] : List Int).getD k 0
def facesV : List V := G0.map constV
theorem gval0 : gvalV 0 = .elt facesV 0 := rfl
def isI : Option Value → Int → Bool
  | some (.int .i64 n), m => n == m
  | _, _ => false
theorem isI_eq {o : Option Value} {m : Int} (h : isI o m = true) : o = some (.int .i64 m) := by
  unfold isI at h
  split at h
  · simp at h; rw [h]
  · cases h
theorem face_uses (k : Nat) (h : k < 16) : facesV[k * 2 + 1]? = some (.int .i64 (usesI k)) := by
  have h1 : ((List.range 16).all fun k => isI G0[k * 2 + 1]? (usesI k)) = true := by kernel_rfl
  have := isI_eq (List.all_eq_true.1 h1 k (by simpa using h))
  unfold facesV
  rw [List.getElem?_map, this]; rfl
theorem bit1 (k : Nat) (h : k < 16) : (bitI .and .i64 (usesI k) 1 != 0) = decide (k = 1 ∨ k = 2 ∨ k = 3 ∨ k = 4 ∨ k = 6 ∨ k = 7 ∨ k = 8 ∨ k = 9 ∨ k = 10) := by
  have : ∀ k : Fin 16, (bitI .and .i64 (usesI k.val) 1 != 0) = decide (k.val = 1 ∨ k.val = 2 ∨ k.val = 3 ∨ k.val = 4 ∨ k.val = 6 ∨ k.val = 7 ∨ k.val = 8 ∨ k.val = 9 ∨ k.val = 10) := by decide +kernel
  exact this ⟨k, h⟩
theorem bit2 (k : Nat) (h : k < 16) : (bitI .and .i64 (usesI k) 2 != 0) = decide (k = 6 ∨ k = 7 ∨ k = 10 ∨ k = 11 ∨ k = 12 ∨ k = 13) := by
  have : ∀ k : Fin 16, (bitI .and .i64 (usesI k.val) 2 != 0) = decide (k.val = 6 ∨ k.val = 7 ∨ k.val = 10 ∨ k.val = 11 ∨ k.val = 12 ∨ k.val = 13) := by decide +kernel
  exact this ⟨k, h⟩
theorem bit4 (k : Nat) (h : k < 16) : (bitI .and .i64 (usesI k) 4 != 0) = decide (k = 12) := by
  have : ∀ k : Fin 16, (bitI .and .i64 (usesI k.val) 4 != 0) = decide (k.val = 12) := by decide +kernel
  exact this ⟨k, h⟩

/-- An outcome in itself is as it should be. -/
def good (x : O) : Prop := 0 ≤ x.t ∧ x.t ≤ 1099511627776 ∧ 1 ≤ x.n ∧ x.n ≤ 16 ∧
  (((x.k = 6 ∨ x.k = 7 ∨ x.k = 10 ∨ x.k = 11 ∨ x.k = 13) ∧ 1 ≤ x.o ∧ x.o ≤ 16 ∧ x.o ≠ x.n) ∨ (x.k = 12 ∧ (x.o = 0 ∨ (1 ≤ x.o ∧ x.o ≤ 16 ∧ x.o ≠ x.n))) ∨ (¬ (x.k = 6 ∨ x.k = 7 ∨ 10 ≤ x.k ∧ x.k ≤ 13) ∧ x.o = 0)) ∧
  (((1 ≤ x.k ∧ x.k ≤ 10 ∧ x.k ≠ 5) ∧ 1 ≤ x.a ∧ x.a ≤ 16 ∧ x.s ≤ 1099511627776 ∧ 0 ≤ x.f ∧ x.f < 20000) ∨ (¬ (1 ≤ x.k ∧ x.k ≤ 10 ∧ x.k ≠ 5) ∧ x.a = 0 ∧ x.s = 0 ∧ x.f = 0))
instance (x : O) : Decidable (good x) := by unfold good; infer_instance
def oneE (x : O) : Int := if x.k < 1 ∨ 15 < x.k then 7 else if good x then 0 else 2

set_option maxRecDepth 100000 in
set_option maxHeartbeats 4000000 in
theorem fn_one (x : O) : Go.Eng.Fn Tryd.prog 42 [encO x] [] (.int .i64 (oneE x)) [] := by
  refine Fn.of_body Tryd.mixed (hd := []) Tryd.func42 rfl (by kernel_rfl) (Nat.le_of_ble_eq_true rfl) rfl (by simp) (by simp) ?_
  refine codeW_of ?_
  unfold encO
  simp only [core, ↓core0, Tryd.facts, ↓reduceIte, ↓List.getElem?_map, ↓List.getElem?_cons_zero, ↓List.getElem?_cons_succ, List.map_cons, List.map_nil, Option.map_some, List.getElem?_nil, resOne, pickV, List.getD_cons_zero, List.getD_cons_succ, List.getD_nil, List.length_cons, List.length_nil, List.length_map, Option.isSome_some, Nat.reduceAdd, Nat.reduceEqDiff, Nat.reduceLeDiff, Nat.reduceLT, Int.reduceBNe, Int.reduceBEq, Int.reduceLT, Int.reduceLE, Int.reduceAdd, Int.reduceSub, decide_true, decide_false, Nat.zero_add, Nat.add_zero, ne_eq, not_false_eq_true, not_true_eq_false, true_and, and_true, reduceCtorEq, List.drop_zero, List.drop_succ_cons, List.take_succ_cons, List.take_zero, and_self, BEq.rfl, Bool.true_eq_false, Bool.false_eq_true, cond_true, cond_false, Bool.not_true, Bool.not_false, Nat.one_ne_zero, Nat.zero_ne_one, List.nil_append, List.append_nil, List.cons_append, Bool.true_and, Bool.and_true, Bool.false_and, Bool.and_false, Bool.true_or, Bool.or_true, Bool.false_or, Bool.or_false, beq_self_eq_true, beq_true, beq_false, implies_true, false_implies, false_or, or_false, gt_iff_lt, Nat.mul_one, Nat.reduceMul, Nat.not_lt_zero, List.toList_toArray, Option.some.injEq]
  refine brW_of (fun h1 => ?_) (fun h1 => ?_)
  · simp only [core, ↓core0, Tryd.facts, ↓reduceIte, ↓List.getElem?_map, ↓List.getElem?_cons_zero, ↓List.getElem?_cons_succ, List.map_cons, List.map_nil, Option.map_some, List.getElem?_nil, resOne, pickV, List.getD_cons_zero, List.getD_cons_succ, List.getD_nil, List.length_cons, List.length_nil, List.length_map, Option.isSome_some, Nat.reduceAdd, Nat.reduceEqDiff, Nat.reduceLeDiff, Nat.reduceLT, Int.reduceBNe, Int.reduceBEq, Int.reduceLT, Int.reduceLE, Int.reduceAdd, Int.reduceSub, decide_true, decide_false, Nat.zero_add, Nat.add_zero, ne_eq, not_false_eq_true, not_true_eq_false, true_and, and_true, reduceCtorEq, List.drop_zero, List.drop_succ_cons, List.take_succ_cons, List.take_zero, and_self, BEq.rfl, Bool.true_eq_false, Bool.false_eq_true, cond_true, cond_false, Bool.not_true, Bool.not_false, Nat.one_ne_zero, Nat.zero_ne_one, List.nil_append, List.append_nil, List.cons_append, Bool.true_and, Bool.and_true, Bool.false_and, Bool.and_false, Bool.true_or, Bool.or_true, Bool.false_or, Bool.or_false, beq_self_eq_true, beq_true, beq_false, implies_true, false_implies, false_or, or_false, gt_iff_lt, Nat.mul_one, Nat.reduceMul, Nat.not_lt_zero, List.toList_toArray, Option.some.injEq, h1, Tryd.f42]
    simp only [decide_eq_true_eq] at h1
    rw [oneE, if_pos (by omega)]
  simp only [core, ↓core0, Tryd.facts, ↓reduceIte, ↓List.getElem?_map, ↓List.getElem?_cons_zero, ↓List.getElem?_cons_succ, List.map_cons, List.map_nil, Option.map_some, List.getElem?_nil, resOne, pickV, List.getD_cons_zero, List.getD_cons_succ, List.getD_nil, List.length_cons, List.length_nil, List.length_map, Option.isSome_some, Nat.reduceAdd, Nat.reduceEqDiff, Nat.reduceLeDiff, Nat.reduceLT, Int.reduceBNe, Int.reduceBEq, Int.reduceLT, Int.reduceLE, Int.reduceAdd, Int.reduceSub, decide_true, decide_false, Nat.zero_add, Nat.add_zero, ne_eq, not_false_eq_true, not_true_eq_false, true_and, and_true, reduceCtorEq, List.drop_zero, List.drop_succ_cons, List.take_succ_cons, List.take_zero, and_self, BEq.rfl, Bool.true_eq_false, Bool.false_eq_true, cond_true, cond_false, Bool.not_true, Bool.not_false, Nat.one_ne_zero, Nat.zero_ne_one, List.nil_append, List.append_nil, List.cons_append, Bool.true_and, Bool.and_true, Bool.false_and, Bool.and_false, Bool.true_or, Bool.or_true, Bool.false_or, Bool.or_false, beq_self_eq_true, beq_true, beq_false, implies_true, false_implies, false_or, or_false, gt_iff_lt, Nat.mul_one, Nat.reduceMul, Nat.not_lt_zero, List.toList_toArray, Option.some.injEq, h1]
  refine brW_of (fun h2 => ?_) (fun h2 => ?_)
  · simp only [core, ↓core0, Tryd.facts, ↓reduceIte, ↓List.getElem?_map, ↓List.getElem?_cons_zero, ↓List.getElem?_cons_succ, List.map_cons, List.map_nil, Option.map_some, List.getElem?_nil, resOne, pickV, List.getD_cons_zero, List.getD_cons_succ, List.getD_nil, List.length_cons, List.length_nil, List.length_map, Option.isSome_some, Nat.reduceAdd, Nat.reduceEqDiff, Nat.reduceLeDiff, Nat.reduceLT, Int.reduceBNe, Int.reduceBEq, Int.reduceLT, Int.reduceLE, Int.reduceAdd, Int.reduceSub, decide_true, decide_false, Nat.zero_add, Nat.add_zero, ne_eq, not_false_eq_true, not_true_eq_false, true_and, and_true, reduceCtorEq, List.drop_zero, List.drop_succ_cons, List.take_succ_cons, List.take_zero, and_self, BEq.rfl, Bool.true_eq_false, Bool.false_eq_true, cond_true, cond_false, Bool.not_true, Bool.not_false, Nat.one_ne_zero, Nat.zero_ne_one, List.nil_append, List.append_nil, List.cons_append, Bool.true_and, Bool.and_true, Bool.false_and, Bool.and_false, Bool.true_or, Bool.or_true, Bool.false_or, Bool.or_false, beq_self_eq_true, beq_true, beq_false, implies_true, false_implies, false_or, or_false, gt_iff_lt, Nat.mul_one, Nat.reduceMul, Nat.not_lt_zero, List.toList_toArray, Option.some.injEq, h1, h2, Tryd.f42]
    simp only [decide_eq_true_eq] at h2
    rw [oneE, if_pos (by omega)]
  simp only [decide_eq_false_iff_not] at h1 h2
  have hk0 : (0 ≤ x.k) = True := by simp; omega
  have hk1 : (x.k < (16 : Nat)) = True := by simp; omega
  simp only [core, ↓core0, Tryd.facts, ↓reduceIte, ↓List.getElem?_map, ↓List.getElem?_cons_zero, ↓List.getElem?_cons_succ, List.map_cons, List.map_nil, Option.map_some, List.getElem?_nil, resOne, pickV, List.getD_cons_zero, List.getD_cons_succ, List.getD_nil, List.length_cons, List.length_nil, List.length_map, Option.isSome_some, Nat.reduceAdd, Nat.reduceEqDiff, Nat.reduceLeDiff, Nat.reduceLT, Int.reduceBNe, Int.reduceBEq, Int.reduceLT, Int.reduceLE, Int.reduceAdd, Int.reduceSub, decide_true, decide_false, Nat.zero_add, Nat.add_zero, ne_eq, not_false_eq_true, not_true_eq_false, true_and, and_true, reduceCtorEq, List.drop_zero, List.drop_succ_cons, List.take_succ_cons, List.take_zero, and_self, BEq.rfl, Bool.true_eq_false, Bool.false_eq_true, cond_true, cond_false, Bool.not_true, Bool.not_false, Nat.one_ne_zero, Nat.zero_ne_one, List.nil_append, List.append_nil, List.cons_append, Bool.true_and, Bool.and_true, Bool.false_and, Bool.and_false, Bool.true_or, Bool.or_true, Bool.false_or, Bool.or_false, beq_self_eq_true, beq_true, beq_false, implies_true, false_implies, false_or, or_false, gt_iff_lt, Nat.mul_one, Nat.reduceMul, Nat.not_lt_zero, List.toList_toArray, Option.some.injEq, h1, h2, gval0, hk0, hk1, face_uses x.k.toNat (by omega), eq_ID, kinds_ID, bit1 x.k.toNat (by omega), bit2 x.k.toNat (by omega), bit4 x.k.toNat (by omega)]
  have hb2 := bit2 x.k.toNat (by omega)
  have hb4 := bit4 x.k.toNat (by omega)
  refine brW_of (fun h3 => ?_) (fun h3 => ?_)
  · simp only [core, ↓core0, Tryd.facts, ↓reduceIte, ↓List.getElem?_map, ↓List.getElem?_cons_zero, ↓List.getElem?_cons_succ, List.map_cons, List.map_nil, Option.map_some, List.getElem?_nil, resOne, pickV, List.getD_cons_zero, List.getD_cons_succ, List.getD_nil, List.length_cons, List.length_nil, List.length_map, Option.isSome_some, Nat.reduceAdd, Nat.reduceEqDiff, Nat.reduceLeDiff, Nat.reduceLT, Int.reduceBNe, Int.reduceBEq, Int.reduceLT, Int.reduceLE, Int.reduceAdd, Int.reduceSub, decide_true, decide_false, Nat.zero_add, Nat.add_zero, ne_eq, not_false_eq_true, not_true_eq_false, true_and, and_true, reduceCtorEq, List.drop_zero, List.drop_succ_cons, List.take_succ_cons, List.take_zero, and_self, BEq.rfl, Bool.true_eq_false, Bool.false_eq_true, cond_true, cond_false, Bool.not_true, Bool.not_false, Nat.one_ne_zero, Nat.zero_ne_one, List.nil_append, List.append_nil, List.cons_append, Bool.true_and, Bool.and_true, Bool.false_and, Bool.and_false, Bool.true_or, Bool.or_true, Bool.false_or, Bool.or_false, beq_self_eq_true, beq_true, beq_false, implies_true, false_implies, false_or, or_false, gt_iff_lt, Nat.mul_one, Nat.reduceMul, Nat.not_lt_zero, List.toList_toArray, Option.some.injEq, h3]
    refine callW_of Tryd.go29 rfl (fn_checkID ⟨x.a, x.s, x.f⟩) ?_
    cases hid : idOK ⟨x.a, x.s, x.f⟩
    all_goals simp only [core, ↓core0, Tryd.facts, ↓reduceIte, ↓List.getElem?_map, ↓List.getElem?_cons_zero, ↓List.getElem?_cons_succ, List.map_cons, List.map_nil, Option.map_some, List.getElem?_nil, resOne, pickV, List.getD_cons_zero, List.getD_cons_succ, List.getD_nil, List.length_cons, List.length_nil, List.length_map, Option.isSome_some, Nat.reduceAdd, Nat.reduceEqDiff, Nat.reduceLeDiff, Nat.reduceLT, Int.reduceBNe, Int.reduceBEq, Int.reduceLT, Int.reduceLE, Int.reduceAdd, Int.reduceSub, decide_true, decide_false, Nat.zero_add, Nat.add_zero, ne_eq, not_false_eq_true, not_true_eq_false, true_and, and_true, reduceCtorEq, List.drop_zero, List.drop_succ_cons, List.take_succ_cons, List.take_zero, and_self, BEq.rfl, Bool.true_eq_false, Bool.false_eq_true, cond_true, cond_false, Bool.not_true, Bool.not_false, Nat.one_ne_zero, Nat.zero_ne_one, List.nil_append, List.append_nil, List.cons_append, Bool.true_and, Bool.and_true, Bool.false_and, Bool.and_false, Bool.true_or, Bool.or_true, Bool.false_or, Bool.or_false, beq_self_eq_true, beq_true, beq_false, implies_true, false_implies, false_or, or_false, gt_iff_lt, Nat.mul_one, Nat.reduceMul, Nat.not_lt_zero, List.toList_toArray, Option.some.injEq, errV, hb2, hb4]
    all_goals repeat' (refine brW_of (fun h => ?_) (fun h => ?_) <;> simp only [core, ↓core0, Tryd.facts, ↓reduceIte, ↓List.getElem?_map, ↓List.getElem?_cons_zero, ↓List.getElem?_cons_succ, List.map_cons, List.map_nil, Option.map_some, List.getElem?_nil, resOne, pickV, List.getD_cons_zero, List.getD_cons_succ, List.getD_nil, List.length_cons, List.length_nil, List.length_map, Option.isSome_some, Nat.reduceAdd, Nat.reduceEqDiff, Nat.reduceLeDiff, Nat.reduceLT, Int.reduceBNe, Int.reduceBEq, Int.reduceLT, Int.reduceLE, Int.reduceAdd, Int.reduceSub, decide_true, decide_false, Nat.zero_add, Nat.add_zero, ne_eq, not_false_eq_true, not_true_eq_false, true_and, and_true, reduceCtorEq, List.drop_zero, List.drop_succ_cons, List.take_succ_cons, List.take_zero, and_self, BEq.rfl, Bool.true_eq_false, Bool.false_eq_true, cond_true, cond_false, Bool.not_true, Bool.not_false, Nat.one_ne_zero, Nat.zero_ne_one, List.nil_append, List.append_nil, List.cons_append, Bool.true_and, Bool.and_true, Bool.false_and, Bool.and_false, Bool.true_or, Bool.or_true, Bool.false_or, Bool.or_false, beq_self_eq_true, beq_true, beq_false, implies_true, false_implies, false_or, or_false, gt_iff_lt, Nat.mul_one, Nat.reduceMul, Nat.not_lt_zero, List.toList_toArray, Option.some.injEq, h, hb2, hb4, Tryd.f42])
    all_goals clear hb2 hb4 hk0 hk1
    all_goals simp only [decide_eq_true_eq, decide_eq_false_iff_not, bne_iff_ne, ne_eq, bne_eq_false_iff_eq, beq_iff_eq, beq_eq_false_iff_ne, idOK] at *
    all_goals first
      | (rw [oneE, if_neg (by omega), if_neg (by unfold good; omega)]; done)
      | (rw [oneE, if_neg (by omega), if_pos (by unfold good; omega)]; done)
      | (exfalso; omega)
  · simp only [core, ↓core0, Tryd.facts, ↓reduceIte, ↓List.getElem?_map, ↓List.getElem?_cons_zero, ↓List.getElem?_cons_succ, List.map_cons, List.map_nil, Option.map_some, List.getElem?_nil, resOne, pickV, List.getD_cons_zero, List.getD_cons_succ, List.getD_nil, List.length_cons, List.length_nil, List.length_map, Option.isSome_some, Nat.reduceAdd, Nat.reduceEqDiff, Nat.reduceLeDiff, Nat.reduceLT, Int.reduceBNe, Int.reduceBEq, Int.reduceLT, Int.reduceLE, Int.reduceAdd, Int.reduceSub, decide_true, decide_false, Nat.zero_add, Nat.add_zero, ne_eq, not_false_eq_true, not_true_eq_false, true_and, and_true, reduceCtorEq, List.drop_zero, List.drop_succ_cons, List.take_succ_cons, List.take_zero, and_self, BEq.rfl, Bool.true_eq_false, Bool.false_eq_true, cond_true, cond_false, Bool.not_true, Bool.not_false, Nat.one_ne_zero, Nat.zero_ne_one, List.nil_append, List.append_nil, List.cons_append, Bool.true_and, Bool.and_true, Bool.false_and, Bool.and_false, Bool.true_or, Bool.or_true, Bool.false_or, Bool.or_false, beq_self_eq_true, beq_true, beq_false, implies_true, false_implies, false_or, or_false, gt_iff_lt, Nat.mul_one, Nat.reduceMul, Nat.not_lt_zero, List.toList_toArray, Option.some.injEq, h3, hb2, hb4]
    have hz : decide ((⟨x.a, x.s, x.f⟩ : I) = ⟨0, 0, 0⟩) = decide (x.a = 0 ∧ x.s = 0 ∧ x.f = 0) := by simp
    cases hid : decide (x.a = 0 ∧ x.s = 0 ∧ x.f = 0)
    all_goals rw [hid] at hz
    all_goals repeat' (refine brW_of (fun h => ?_) (fun h => ?_) <;> simp only [core, ↓core0, Tryd.facts, ↓reduceIte, ↓List.getElem?_map, ↓List.getElem?_cons_zero, ↓List.getElem?_cons_succ, List.map_cons, List.map_nil, Option.map_some, List.getElem?_nil, resOne, pickV, List.getD_cons_zero, List.getD_cons_succ, List.getD_nil, List.length_cons, List.length_nil, List.length_map, Option.isSome_some, Nat.reduceAdd, Nat.reduceEqDiff, Nat.reduceLeDiff, Nat.reduceLT, Int.reduceBNe, Int.reduceBEq, Int.reduceLT, Int.reduceLE, Int.reduceAdd, Int.reduceSub, decide_true, decide_false, Nat.zero_add, Nat.add_zero, ne_eq, not_false_eq_true, not_true_eq_false, true_and, and_true, reduceCtorEq, List.drop_zero, List.drop_succ_cons, List.take_succ_cons, List.take_zero, and_self, BEq.rfl, Bool.true_eq_false, Bool.false_eq_true, cond_true, cond_false, Bool.not_true, Bool.not_false, Nat.one_ne_zero, Nat.zero_ne_one, List.nil_append, List.append_nil, List.cons_append, Bool.true_and, Bool.and_true, Bool.false_and, Bool.and_false, Bool.true_or, Bool.or_true, Bool.false_or, Bool.or_false, beq_self_eq_true, beq_true, beq_false, implies_true, false_implies, false_or, or_false, gt_iff_lt, Nat.mul_one, Nat.reduceMul, Nat.not_lt_zero, List.toList_toArray, Option.some.injEq, h, hb2, hb4, hz, Tryd.f42])
    all_goals clear hb2 hb4 hk0 hk1 hz
    all_goals simp only [decide_eq_true_eq, decide_eq_false_iff_not, bne_iff_ne, ne_eq, bne_eq_false_iff_eq, beq_iff_eq, beq_eq_false_iff_ne] at *
    all_goals first
      | (rw [oneE, if_neg (by omega), if_neg (by unfold good; omega)]; done)
      | (rw [oneE, if_neg (by omega), if_pos (by unfold good; omega)]; done)
      | (exfalso; omega)
end Go.Proofs.YtjcpgiicdppkcaaDoor
