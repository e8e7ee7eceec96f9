import Derived.Test.YtjcbpfhlgebgdaaDoorP22n
import Derived.Test.YtjcbpfhlgebgdaaDoorXCn
/- Rows of words: keys. -/
namespace Go.Proofs.YtjcbpfhlgebgdaaDoor
open Go Go.Eng Go.RowKit Go.X Go.Seq
set_option linter.unusedSimpArgs false
set_option linter.unusedVariables false
theorem wrap_small {n : Int} (h0 : 0 ≤ n) (h1 : n ≤ 1125899906842624) : wrap64 n = n := IntWalk.wrap64_in _ (by omega)
theorem index_any {ws : List Word} (hl : ws.length ≤ 1000) : ∃ i, slices_IndexFunc_f121 ws = some i ∧ (decide ((0 : Int) ≤ i) = ws.any fun x => !decide (x.Key = [])) := by
  have hk : ∀ x : Word, (!(x.Key == ([] : List UInt8))) = !decide (x.Key = []) := fun x => by
    cases hx : x.Key with
    | nil => rfl
    | cons c k => rfl
  have loop : ∀ (F : Int → Option (Step Int (Int ⊕ Unit))), (∀ i : Nat, (h : i < ws.length) → F (i : Int) = some (if (!decide (ws[i].Key = [])) = true then .done (.inl (i : Int)) else .next ((i : Int) + 1))) → F (ws.length : Int) = some (.done (.inr ())) →
      ∀ (k i : Nat), i + k = ws.length → ∃ z, iter F (i : Int) = some z ∧ (((ws.drop i).any fun x => !decide (x.Key = [])) = true ∧ (∃ j : Int, z = .inl j ∧ 0 ≤ j) ∨ ((ws.drop i).any fun x => !decide (x.Key = [])) = false ∧ z = .inr ()) := by
    intro F hF hE k
    induction k with
    | zero =>
      intro i hi
      have : i = ws.length := by omega
      subst this
      rw [iter_eq, hE, List.drop_eq_nil_of_le (Nat.le_refl _)]
      exact ⟨_, rfl, .inr ⟨rfl, rfl⟩⟩
    | succ k ih =>
      intro i hi
      have hlt : i < ws.length := by omega
      rw [iter_eq, hF i hlt, List.drop_eq_getElem_cons hlt, List.any_cons]
      cases hx : (!decide (ws[i].Key = [])) with
      | true => exact ⟨_, rfl, .inl ⟨rfl, (i : Int), rfl, by omega⟩⟩
      | false =>
        obtain ⟨z, h1, h2⟩ := ih (i + 1) (by omega)
        refine ⟨z, ?_, ?_⟩
        · simp only [Bool.false_eq_true, if_false]
          rw [show (i : Int) + 1 = ((i + 1 : Nat) : Int) by omega, h1]
        · simpa using h2
  obtain ⟨z, h1, h2⟩ := loop (fun x_2 => br (decide (x_2 < (ws.length : Int))) ((idx ws x_2).bind fun x_3 => (plan_contact_1 x_3).bind fun x_4 => br x_4 (some (.done (.inl x_2))) ((addI .i64 x_2 (1 : Int)).bind fun x_5 => some (.next x_5))) (some (.done (.inr ()))))
    (fun i hi => by
      have hidx : idx ws (i : Int) = some ws[i] := by unfold idx; rw [if_pos (by omega)]; exact List.getElem?_eq_getElem hi
      have e : plan_contact_1 ws[i] = some (!decide (ws[i].Key = [])) := by unfold plan_contact_1; rw [hk]
      simp only [decide_eq_true (show (i : Int) < (ws.length : Int) by omega), hidx, br, cond_true, Option.bind_some, e, addI_ok (a := (i : Int)) (b := 1) (by omega)]
      cases (!decide (ws[i].Key = [])) <;> rfl)
    (by simp only [decide_eq_false (show ¬ (ws.length : Int) < (ws.length : Int) by omega), br, cond_false]) ws.length 0 (by omega)
  rw [List.drop_zero] at h2
  simp only [Int.natCast_zero] at h1
  unfold slices_IndexFunc_f121
  rw [h1]
  simp only [Option.bind_some]
  rcases h2 with ⟨a1, j, rfl, a2⟩ | ⟨a1, rfl⟩
  · exact ⟨j, rfl, by rw [a1]; exact decide_eq_true a2⟩
  · exact ⟨-1, rfl, by rw [a1]; rfl⟩
theorem contains_any {ws : List Word} (hl : ws.length ≤ 1000) : slices_ContainsFunc_f121 ws = some (ws.any fun x => !decide (x.Key = [])) := by
  obtain ⟨i, h1, h2⟩ := index_any hl
  unfold slices_ContainsFunc_f121
  rw [h1]
  simp only [Option.bind_some, h2]
end Go.Proofs.YtjcbpfhlgebgdaaDoor
