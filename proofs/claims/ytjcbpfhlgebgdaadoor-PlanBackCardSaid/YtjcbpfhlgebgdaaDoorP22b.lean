import Derived.Test.YtjcbpfhlgebgdaaDoorP22w
/- PlanBack. -/
namespace Go.Proofs.YtjcbpfhlgebgdaaDoor
open Go Go.Eng Go.RowKit Go.X Go.Seq
set_option linter.unusedSimpArgs false
set_option linter.unusedVariables false
theorem same_w (a : List Contact) (h : a.length ≤ 10000) : packhorsekit_SamePlan (a, a) = some true := by
  refine W.eq ?_
  unfold packhorsekit_SamePlan
  dsimp only
  refine W_if (fun h => absurd rfl h) fun _ => ?_
  refine W_loop (fun i : Int => 0 ≤ i ∧ i ≤ (a.length : Int)) (fun i => a.length - i.toNat) ?_ (by omega)
  rintro i ⟨i1, i2⟩
  refine W_if (fun hi => ?_) fun hi => W_done (W_ret rfl)
  refine W_idx (by omega) (by omega) fun x hx => ?_
  refine W_idx (by omega) (by omega) fun x' hx' => ?_
  rw [hx] at hx'; cases hx'
  simp only [beq_self_eq_true, Bool.and_self, Bool.not_true]
  refine W_brF ?_
  exact W_op fun j hj => W_next ⟨by omega, by omega⟩
theorem planBack_w {nums : List Int} (hnl : nums.length ≤ 9223372036854775807) : packhorselaw22_PlanBack nums = some true := by
  obtain ⟨l, h1, hv, hl⟩ := plan_w hnl (most := 20) ⟨by decide, by decide⟩
  have h60 : l.length ≤ 60 := by omega
  obtain ⟨r, h2, rfl⟩ := text_s hv.ok h60 (check_w hv (by omega))
  unfold packhorselaw22_PlanBack
  rw [h1]
  simp only [Option.bind_some, h2, parse_back hv h60, awake_w, same_w l (by omega)]
  rfl
end Go.Proofs.YtjcbpfhlgebgdaaDoor
