import Derived.Test.YtgihkmmcddhajaaXL
import Derived.Test.YtgihkmmcddhajaaX4K
import Derived.Test.YtgihkmmcddhajaaXGCmp
namespace Go.Proofs.Ytgihkmmcddhajaa
open Go.X Go.Eng
set_option linter.unusedSimpArgs false
set_option linter.unusedVariables false

/-! LAYER 22: the order of contacts -/

def cmpI (a b : Int) : Int := if a < b then -1 else if b < a then 1 else 0

theorem cmpI_w (a b : Int) : cmp_Compare (a, b) = some (cmpI a b) := by
  have hn : ∀ x, cmp_isNaN x = some false := fun x => by unfold cmp_isNaN; simp
  unfold cmp_Compare cmpI
  simp only [hn, Option.bind_some, br, cond_false]
  by_cases h1 : a < b
  · simp [h1]
  · by_cases h2 : b < a <;> simp [h1, h2]

def orI (a b c : Int) : Int := if a ≠ 0 then a else if b ≠ 0 then b else c

theorem or_w (a b c : Int) : cmp_Or [a, b, c] = some (orI a b c) := by
  refine W.eq ?_
  unfold cmp_Or
  refine W_loop (fun i : Int => i = 0 ∨ (i = 1 ∧ a = 0) ∨ (i = 2 ∧ a = 0 ∧ b = 0) ∨ (i = 3 ∧ a = 0 ∧ b = 0 ∧ c = 0)) (fun i => 3 - i.toNat) ?_ (by omega)
  intro i hi
  refine W_if (fun h1 => ?_) (fun h1 => ?_)
  · rcases hi with rfl | ⟨rfl, h⟩ | ⟨rfl, h, h'⟩ | ⟨rfl, _⟩
    · refine W_eq (a := a) rfl ?_
      refine W_if (fun h2 => W_done (W_ret ?_)) (fun h2 => ?_)
      · unfold orI; rw [if_pos h2]
      · refine W_op fun c hc => W_next (by dsimp only; omega)
    · refine W_eq (a := b) rfl ?_
      refine W_if (fun h2 => W_done (W_ret ?_)) (fun h2 => ?_)
      · unfold orI; rw [if_neg (by omega), if_pos h2]
      · refine W_op fun c hc => W_next (by dsimp only; omega)
    · refine W_eq (a := c) rfl ?_
      refine W_if (fun h2 => W_done (W_ret ?_)) (fun h2 => ?_)
      · unfold orI; rw [if_neg (by omega), if_neg (by omega)]
      · refine W_op fun c hc => W_next (by dsimp only; omega)
    · simp at h1
  · simp only [List.length_cons, List.length_nil] at h1
    refine W_done (W_ret ?_)
    unfold orI
    rw [if_neg (by omega), if_neg (by omega)]
    omega

/-- The order: by start, by the nodes. -/
def cmpC (a b : Contact) : Int := orI (cmpI a.Start b.Start) (cmpI a.From b.From) (cmpI a.To b.To)

theorem compare_w (a b : Contact) : plan_compare (a, b) = some (cmpC a b) := by
  unfold plan_compare
  simp only [cmpI_w, Option.bind_some, or_w]
  rfl

theorem cmpC_lt (a b : Contact) : cmpC a b < 0 ↔ a.Start < b.Start ∨ (a.Start = b.Start ∧ (a.From < b.From ∨ (a.From = b.From ∧ a.To < b.To))) := by
  unfold cmpC orI cmpI
  (repeat' split) <;> omega

theorem swo : Go.Sort.SWO (Go.Proofs.ltOf cmpC) where
  irrefl x := by simp [Go.Proofs.ltOf, cmpC_lt]
  trans x y z h1 h2 := by simp only [Go.Proofs.ltOf, decide_eq_true_eq, cmpC_lt] at *; omega
  ntrans x y z h1 h2 := by simp only [Go.Proofs.ltOf, decide_eq_false_iff_not, cmpC_lt] at *; omega
end Go.Proofs.Ytgihkmmcddhajaa
