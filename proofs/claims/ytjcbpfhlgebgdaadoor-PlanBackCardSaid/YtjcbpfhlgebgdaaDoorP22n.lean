import Derived.Test.YtjcbpfhlgebgdaaDoorP3r
import Derived.Test.YtjcbpfhlgebgdaaDoorP3p
import Derived.Test.YtjcbpfhlgebgdaaDoorXGPn
set_option linter.unusedSimpArgs false
set_option linter.unusedVariables false
/- Numbers in texts: the program's and the reference's. -/
namespace Go.Proofs.YtjcbpfhlgebgdaaDoor
open Go Go.Eng Go.RowKit Go.X Go.Seq
/-- The number that digits are, behind a number. -/
def numL : Int → List UInt8 → Int × Bool
  | n, [] => (n, true)
  | n, c :: l => if c.toNat < 48 ∨ 57 < c.toNat then (0, false) else if 1125899906842624 < 10 * n + ((c.toNat : Int) - 48) then (0, false) else numL (10 * n + ((c.toNat : Int) - 48)) l
def numB (s : List UInt8) : Int × Bool := if s = [] ∨ (s.head? = some 48 ∧ 1 < s.length) then (0, false) else numL 0 s
theorem numL_bad : ∀ {l : List UInt8} {n : Int}, (numL n l).2 = false → (numL n l).1 = 0
  | [], n, h => by cases h
  | c :: l, n, h => by
    unfold numL at h ⊢
    split at h
    · rename_i h1; rw [if_pos h1]
    · rename_i h1
      rw [if_neg h1]
      split at h
      · rename_i h2; rw [if_pos h2]
      · rename_i h2; rw [if_neg h2]; exact numL_bad h
theorem num_loop {s : List UInt8} (F : Int × Int → Option (Step (Int × Int) ((Int × Bool) ⊕ Int)))
    (hF : ∀ (n : Int) (i : Nat) (h : i < s.length), 0 ≤ n → n ≤ 1125899906842624 → F (n, (i : Int)) = some (if s[i].toNat < 48 ∨ 57 < s[i].toNat then .done (.inl (0, false)) else if 1125899906842624 < 10 * n + ((s[i].toNat : Int) - 48) then .done (.inl (0, false)) else .next (10 * n + ((s[i].toNat : Int) - 48), (i : Int) + 1)))
    (hE : ∀ n, F (n, (s.length : Int)) = some (.done (.inr n))) :
    ∀ (k i : Nat) (n : Int), i + k = s.length → 0 ≤ n → n ≤ 1125899906842624 → iter F (n, (i : Int)) = some (if (numL n (s.drop i)).2 then .inr (numL n (s.drop i)).1 else .inl (0, false))
  | 0, i, n, hi, h0, h1 => by
    have : i = s.length := by omega
    subst this
    rw [iter_eq, hE, List.drop_eq_nil_of_le (Nat.le_refl _)]
    rfl
  | k + 1, i, n, hi, h0, h1 => by
    have hlt : i < s.length := by omega
    rw [iter_eq, hF n i hlt h0 h1, List.drop_eq_getElem_cons hlt]
    unfold numL
    by_cases c1 : s[i].toNat < 48 ∨ 57 < s[i].toNat
    · rw [if_pos c1, if_pos c1]; rfl
    · rw [if_neg c1, if_neg c1]
      by_cases c2 : 1125899906842624 < 10 * n + ((s[i].toNat : Int) - 48)
      · rw [if_pos c2, if_pos c2]; rfl
      · rw [if_neg c2, if_neg c2]
        have := num_loop F hF hE k (i + 1) (10 * n + ((s[i].toNat : Int) - 48)) (by omega) (by omega) (by omega)
        dsimp only
        rw [show (i : Int) + 1 = ((i + 1 : Nat) : Int) by omega, this]
theorem inr_u64 {n : Int} (h0 : 0 ≤ n) (h1 : n < 18446744073709551616) : InR .u64 n := by
  show IntKind.wrap .u64 n = n
  rw [IntKind.wrap_u64]; omega
theorem mul_u64 {a b : Int} (h0 : 0 ≤ a * b) (h1 : a * b < 18446744073709551616) : mulI .u64 a b = some (a * b) := by
  unfold mulI; rw [if_pos (inr_u64 h0 h1)]
theorem add_u64 {a b : Int} (h0 : 0 ≤ a + b) (h1 : a + b < 18446744073709551616) : addI .u64 a b = some (a + b) := by
  unfold addI; rw [if_pos (inr_u64 h0 h1)]
theorem sub_u8 {a b : Int} (h0 : 0 ≤ a - b) (h1 : a - b < 256) : subI .u8 a b = some (a - b) := by
  unfold subI
  rw [if_pos]
  show IntKind.wrap .u8 (a - b) = a - b
  rw [IntKind.wrap_u8]; omega
/-- One step of both. -/
theorem num_step {n : Int} {c : Nat} {i : Nat} (h0 : 0 ≤ n) (h1 : n ≤ 1125899906842624) (hi : i < 1000000) {α : Type} (x : α) (y : Int × Int → α) :
    (bif decide ((c : Int) < (48 : Int)) then some x else bif decide ((57 : Int) < (c : Int)) then some x else
      (mulI .u64 (10 : Int) n).bind fun x_6 => (subI .u8 (c : Int) (48 : Int)).bind fun x_7 => (addI .u64 x_6 (Go.IntKind.wrap .u64 x_7)).bind fun x_8 => bif decide ((1125899906842624 : Int) < x_8) then some x else (addI .i64 (i : Int) (1 : Int)).bind fun x_9 => some (y (x_8, x_9))) =
    some (if c < 48 ∨ 57 < c then x else if 1125899906842624 < 10 * n + ((c : Int) - 48) then x else y (10 * n + ((c : Int) - 48), (i : Int) + 1)) := by
  by_cases c1 : c < 48
  · rw [decide_eq_true (show (c : Int) < 48 by omega), if_pos (.inl c1)]; rfl
  · rw [decide_eq_false (show ¬ (c : Int) < 48 by omega)]
    by_cases c2 : 57 < c
    · rw [decide_eq_true (show (57 : Int) < (c : Int) by omega), if_pos (.inr c2)]; rfl
    · rw [decide_eq_false (show ¬ (57 : Int) < (c : Int) by omega), if_neg (by omega)]
      have w1 : IntKind.wrap .u64 ((c : Int) - 48) = (c : Int) - 48 := by rw [IntKind.wrap_u64]; omega
      simp only [cond_false]
      rw [mul_u64 (by omega) (by omega), sub_u8 (by omega) (by omega)]
      simp only [Option.bind_some, w1]
      rw [add_u64 (by omega) (by omega)]
      simp only [Option.bind_some, addI_ok (a := (i : Int)) (b := 1) (by omega)]
      by_cases c3 : 1125899906842624 < 10 * n + ((c : Int) - 48)
      · rw [decide_eq_true c3, if_pos c3]; rfl
      · rw [decide_eq_false c3, if_neg c3]; rfl
theorem num_fin {s : List UInt8} {z : Int × Bool} (hz : z = numL 0 s) (hb : z.2 = false → z.1 = 0) :
    ((some (if z.2 then (.inr z.1 : (Int × Bool) ⊕ Int) else .inl (0, false))).bind fun x_13 => Sum.elim (fun r : Int × Bool => some (r.1, r.2)) (fun n_12 : Int => some (n_12, true)) x_13) = some (numL 0 s) := by
  subst hz
  cases h : (numL 0 s).2 with
  | true => rw [if_pos rfl]; show some ((numL 0 s).1, true) = _; rw [← h]
  | false => rw [if_neg (by simp), show numL 0 s = (0, false) from Prod.ext (hb h) h]; rfl
theorem words_num {s : List UInt8} (hs : s.length < 1000000) : words_Number s = some (numB s) := by
  have hlen : (bytesI s).length = s.length := by simp [bytesI]
  have hl := num_loop (s := s) (fun p => br (decide (p.2 < ((bytesI s).length : Int))) ((idx (bytesI s) p.2).bind fun x_5 => br (decide (x_5 < (48 : Int))) (some (.done (.inl ((0 : Int), false)))) (br (decide ((57 : Int) < x_5)) (some (.done (.inl ((0 : Int), false))))
      ((mulI .u64 (10 : Int) p.1).bind fun x_6 => (subI .u8 x_5 (48 : Int)).bind fun x_7 => (addI .u64 x_6 (Go.IntKind.wrap .u64 x_7)).bind fun x_8 => br (decide ((1125899906842624 : Int) < x_8)) (some (.done (.inl ((0 : Int), false)))) ((addI .i64 p.2 (1 : Int)).bind fun x_9 => some (.next (x_8, x_9)))))) (some (.done (.inr p.1))))
    (fun n i hi h0 h1 => by
      have hidx : idx (bytesI s) (i : Int) = some ((s[i].toNat : Int)) := by rw [idxS_bytes, idxS_nat, List.getElem?_eq_getElem hi]; rfl
      simp only [hlen, hidx, decide_eq_true (show (i : Int) < (s.length : Int) by omega), br, cond_true, Option.bind_some]
      exact num_step h0 h1 (by omega) _ (fun p => Step.next p))
    (fun n => by simp only [hlen, decide_eq_false (show ¬ (s.length : Int) < (s.length : Int) by omega), br, cond_false]) s.length 0 0 (by omega) (by omega) (by omega)
  rw [List.drop_zero] at hl
  unfold words_Number numB
  cases s with
  | nil => rfl
  | cons c s =>
    have e1 : (c :: s == ([] : List UInt8)) = false := rfl
    have e2 : idxS (c :: s) 0 = some ((c.toNat : Int)) := rfl
    rw [e1, e2]
    have fin := num_fin (s := c :: s) rfl (numL_bad (l := c :: s) (n := 0))
    simp only [br, cond_false, Option.bind_some] at hl fin ⊢
    by_cases hc : c = 48
    · subst hc
      rw [show (((48 : UInt8).toNat : Int) == (48 : Int)) = true from rfl]
      by_cases hlt : 1 < (48 :: s).length
      · rw [decide_eq_true (by omega), if_pos (.inr ⟨rfl, hlt⟩)]; rfl
      · rw [decide_eq_false (by omega), if_neg (by simp at hlt ⊢; omega)]
        simp only [cond_true, cond_false]
        refine Eq.trans ?_ fin
        exact congrArg (fun z : Option ((Int × Bool) ⊕ Int) => z.bind fun x_13 => Sum.elim (fun r : Int × Bool => some (r.1, r.2)) (fun n_12 : Int => some (n_12, true)) x_13) hl
    · rw [show ((c.toNat : Int) == (48 : Int)) = false from beq_eq_false_iff_ne.2 (u8_ne (n := 48) (by omega) hc), if_neg (by simp [hc])]
      simp only [cond_false]
      refine Eq.trans ?_ fin
      exact congrArg (fun z : Option ((Int × Bool) ⊕ Int) => z.bind fun x_13 => Sum.elim (fun r : Int × Bool => some (r.1, r.2)) (fun n_12 : Int => some (n_12, true)) x_13) hl
end Go.Proofs.YtjcbpfhlgebgdaaDoor
