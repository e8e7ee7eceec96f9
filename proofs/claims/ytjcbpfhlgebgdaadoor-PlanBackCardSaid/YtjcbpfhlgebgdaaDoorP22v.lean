import Derived.Test.YtjcbpfhlgebgdaaDoorP22n
import Derived.Test.YtjcbpfhlgebgdaaDoorP3r
import Derived.Lib.ItoaNum
/- Decimal numbers as words. -/
namespace Go.Proofs.YtjcbpfhlgebgdaaDoor
open Go Go.Eng Go.RowKit Go.X Go.Seq
set_option linter.unusedSimpArgs false
set_option linter.unusedVariables false
def dec (n : Int) : List UInt8 := Go.Lib.decDigits n.toNat
theorem dd_lt {n : Nat} (h : n < 10) : Go.Lib.decDigits n = [UInt8.ofNat (48 + n)] := by rw [Go.Lib.decDigits, dif_pos h]
theorem dd_ge {n : Nat} (h : ¬ n < 10) : Go.Lib.decDigits n = Go.Lib.decDigits (n / 10) ++ [UInt8.ofNat (48 + n % 10)] := by rw [Go.Lib.decDigits, dif_neg h]
theorem digit_plain {d : Nat} (h : d < 10) : plainI ((UInt8.ofNat (48 + d)).toNat : Int) = true ∧ UInt8.ofNat (48 + d) ≠ 35 := by
  rcases (by omega : d = 0 ∨ d = 1 ∨ d = 2 ∨ d = 3 ∨ d = 4 ∨ d = 5 ∨ d = 6 ∨ d = 7 ∨ d = 8 ∨ d = 9) with rfl | rfl | rfl | rfl | rfl | rfl | rfl | rfl | rfl | rfl <;> exact ⟨by decide, by decide⟩
theorem dd_bare : ∀ (k n : Nat), n < k → ((Go.Lib.decDigits n).all fun c => plainI (c.toNat : Int)) = true ∧ ∃ c l, Go.Lib.decDigits n = c :: l ∧ c ≠ 35 ∧ (1 ≤ n → c ≠ 48)
  | 0, n, h => by omega
  | k + 1, n, h => by
    by_cases hn : n < 10
    · rw [dd_lt hn]
      obtain ⟨h1, h2⟩ := digit_plain hn
      refine ⟨by rw [List.all_cons, h1]; rfl, _, _, rfl, h2, fun h0 => ?_⟩
      rcases (by omega : n = 1 ∨ n = 2 ∨ n = 3 ∨ n = 4 ∨ n = 5 ∨ n = 6 ∨ n = 7 ∨ n = 8 ∨ n = 9) with rfl | rfl | rfl | rfl | rfl | rfl | rfl | rfl | rfl <;> decide
    · rw [dd_ge hn]
      obtain ⟨h1, c, l, h2, h3, h4⟩ := dd_bare k (n / 10) (by omega)
      obtain ⟨h5, _⟩ := digit_plain (d := n % 10) (by omega)
      refine ⟨by rw [List.all_append, h1, List.all_cons, h5]; rfl, c, l ++ [UInt8.ofNat (48 + n % 10)], by rw [h2]; rfl, h3, fun _ => h4 (by omega)⟩
theorem bare_dec (n : Int) : bareB (dec n) = true := by
  obtain ⟨h1, c, l, h2, h3, _⟩ := dd_bare (n.toNat + 1) n.toNat (by omega)
  unfold bareB dec
  rw [h1, h2]
  simp [h3]
theorem numL_app : ∀ (a b : List UInt8) (m : Int), numL m (a ++ b) = if (numL m a).2 then numL (numL m a).1 b else (0, false)
  | [], b, m => rfl
  | c :: a, b, m => by
    have e : ∀ l : List UInt8, numL m (c :: l) = if c.toNat < 48 ∨ 57 < c.toNat then (0, false) else if 1125899906842624 < 10 * m + ((c.toNat : Int) - 48) then (0, false) else numL (10 * m + ((c.toNat : Int) - 48)) l := fun _ => rfl
    rw [List.cons_append, e, e]
    split
    · rfl
    · split
      · rfl
      · exact numL_app a b _
theorem numL_digit {m : Int} {d : Nat} (hd : d < 10) (h : 10 * m + d ≤ 1125899906842624) : numL m [UInt8.ofNat (48 + d)] = (10 * m + d, true) := by
  have e : (UInt8.ofNat (48 + d)).toNat = 48 + d := by rw [UInt8.toNat_ofNat']; omega
  unfold numL
  rw [e, if_neg (by omega), if_neg (by omega)]
  unfold numL
  simp only [Prod.mk.injEq, and_true]
  omega
theorem numL_dd : ∀ (k n : Nat), n < k → (n : Int) ≤ 1125899906842624 → numL 0 (Go.Lib.decDigits n) = ((n : Int), true)
  | 0, n, h, _ => by omega
  | k + 1, n, h, hn => by
    by_cases h10 : n < 10
    · rw [dd_lt h10, numL_digit h10 (by omega)]
      simp
    · rw [dd_ge h10, numL_app, numL_dd k (n / 10) (by omega) (by omega)]
      simp only [if_true]
      rw [numL_digit (by omega) (by omega)]
      simp only [Prod.mk.injEq, and_true]
      omega
theorem numB_dec {n : Int} (h0 : 0 ≤ n) (h1 : n ≤ 1125899906842624) : numB (dec n) = (n, true) := by
  obtain ⟨_, c, l, h2, h3, h4⟩ := dd_bare (n.toNat + 1) n.toNat (by omega)
  have hl := numL_dd (n.toNat + 1) n.toNat (by omega) (by omega)
  rw [Int.toNat_of_nonneg h0] at hl
  unfold numB dec
  rw [if_neg, hl]
  rw [h2]
  rintro (h | ⟨h, h5⟩)
  · cases h
  · simp only [List.head?_cons, Option.some.injEq] at h
    by_cases hn : 1 ≤ n.toNat
    · exact h4 hn h
    · have hz : n.toNat = 0 := by omega
      rw [hz, dd_lt (by omega)] at h2
      simp only [List.cons.injEq] at h2
      rw [← h2.2] at h5
      simp at h5
end Go.Proofs.YtjcbpfhlgebgdaaDoor
