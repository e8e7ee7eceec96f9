import Derived.Test.YtgihkmmcddhajaaPW
namespace Go.Proofs.Ytgihkmmcddhajaa
open Go.X Go.Eng
set_option linter.unusedSimpArgs false
set_option linter.unusedVariables false

/-! LAYER 22: PlanCut in plain terms -/

theorem mod_w (x : Int) : W (packhorsekit_Mod (x, 121)) fun r => 0 ≤ r ∧ r < 121 := by
  unfold packhorsekit_Mod
  dsimp only
  refine W_if (fun h => absurd h (by decide)) (fun _ => ?_)
  refine W_remt (by decide) fun c hc => ?_
  have h1 := Int.tmod_lt_of_pos x (b := 121) (by decide)
  have h2 := Int.lt_tmod_of_pos x (b := 121) (by decide)
  rw [← hc] at h1 h2
  (first | refine W_op fun _ _ => ?_ | refine W_if ?_ ?_ <;> intro _ <;> try (exfalso; omega))
  · (first | refine W_op fun _ _ => ?_ | refine W_if ?_ ?_ <;> intro _ <;> try (exfalso; omega))
    exact W_ret (by omega)
  · exact W_ret (by omega)

theorem own_w {l : List Contact} (hl : l.length ≤ 200) : packhorsekit_OwnPlan l = some l := by
  refine W.eq ?_
  unfold packhorsekit_OwnPlan
  refine W_app (by simp; omega) (W_ret rfl)

/-- Of a pair one contact at most is active. -/
theorem act_one {l : List Contact} {f t now : Int} (h : Valid l) {a b : Contact} (ha : a ∈ l) (hb : b ∈ l) (h1 : actv f t now a) (h2 : actv f t now b) : a = b := by
  obtain ⟨i, hi⟩ := List.mem_iff_getElem?.1 ha
  obtain ⟨j, hj⟩ := List.mem_iff_getElem?.1 hb
  obtain ⟨hil, hiv⟩ := List.getElem?_eq_some_iff.1 hi
  obtain ⟨hjl, hjv⟩ := List.getElem?_eq_some_iff.1 hj
  obtain ⟨p1, p2, p3, p4⟩ := h1
  obtain ⟨q1, q2, q3, q4⟩ := h2
  rcases Nat.lt_trichotomy i j with q | q | q
  · have := List.pairwise_iff_getElem.1 h.ap i j hil hjl q
    rw [hiv, hjv] at this
    have := this (by omega) (by omega)
    omega
  · subst q; rw [hi] at hj; cases hj; rfl
  · have := List.pairwise_iff_getElem.1 h.ap j i hjl hil q
    rw [hiv, hjv] at this
    have := this (by omega) (by omega)
    omega

set_option maxHeartbeats 1000000 in
theorem planCut_w {nums : List Int} (hnl : nums.length ≤ 9223372036854775807) (x y : Int) : packhorselaw22_PlanCut (nums, x, y) = some true := by
  refine W.eq ?_
  unfold packhorselaw22_PlanCut
  dsimp only
  refine W_call (plan_w hnl (by decide)) fun a ⟨ha, hal⟩ => ?_
  have hal' : a.length ≤ 200 := by omega
  refine W_call (mod_w x) fun now hnow => ?_
  refine W_call (mod_w y) fun at' hat => ?_
  refine W_eq (own_w hal') ?_
  refine W_eq (cut_w ha hal' (by omega)) ?_
  dsimp only
  obtain ⟨k1, k2⟩ := cutL_ok (now := now) ha (by omega)
  have hb := srt_valid k1 k2
  have hp := (srt_spec (cutL now a)).1
  have hbl : (plan_compare.srt (cutL now a)).length ≤ 200 := by
    rw [hp.length_eq]; unfold cutL
    rw [List.length_map]
    exact Nat.le_trans (List.length_filter_le _ _) hal'
  have hmem : ∀ c, c ∈ plan_compare.srt (cutL now a) ↔ ∃ d ∈ a, now < d.End ∧ cutC now d = c := by
    intro c
    rw [hp.mem_iff]
    unfold cutL
    simp only [List.mem_map, List.mem_filter, decide_eq_true_eq, and_assoc]
  generalize plan_compare.srt (cutL now a) = b at hb hbl hmem
  refine W_eq (check_w hb hbl) ?_
  dsimp only
  refine W_brne (fun h => absurd rfl h) fun _ => ?_
  refine W_brne (fun h => absurd rfl h) fun _ => ?_
  refine W_loop (fun f : Int => 1 ≤ f ∧ f ≤ 6) (fun f => 6 - f.toNat) ?_ (by decide)
  intro f hf
  (first | refine W_op fun _ _ => ?_ | refine W_if ?_ ?_ <;> intro _ <;> try (exfalso; omega))
  · refine W_loop (fun t : Int => 1 ≤ t ∧ t ≤ 6) (fun t => 6 - t.toNat) ?_ (by decide)
    intro t ht
    (first | refine W_op fun _ _ => ?_ | refine W_if ?_ ?_ <;> intro _ <;> try (exfalso; omega))
    · refine W_call (act_w ha hal' (by omega) (by omega) (by omega)) ?_
      rintro ⟨is, rate, e⟩ ⟨e1, hA⟩
      dsimp only at e1 hA ⊢
      subst e1
      refine W_call (act_w hb hbl (by omega) (by omega) (by omega)) ?_
      rintro ⟨are, other, g⟩ ⟨g1, hB⟩
      dsimp only at g1 hB ⊢
      subst g1
      refine W_brne (fun h => absurd rfl h) fun _ => ?_
      refine W_brne (fun h => absurd rfl h) fun _ => ?_
      rcases hA with ⟨rfl, c, hc, hca, rfl⟩ | ⟨rfl, hno⟩
      · refine W_brT ?_
        rcases hB with ⟨rfl, d, hd, hda, rfl⟩ | ⟨rfl, hno⟩
        · obtain ⟨d0, hd0, hde, rfl⟩ := (hmem d).1 hd
          have hm : max d0.Start now ≤ at' := hda.2.2.1
          have : d0 = c := act_one ha hd0 hc ⟨hda.1, hda.2.1, by omega, hda.2.2.2⟩ hca
          subst this
          have e1 : (decide (now ≤ at')) = true := by simp; omega
          rw [e1]
          refine W_brnot (W_brT ?_)
          refine W_brT ?_
          refine W_brne (fun h => absurd rfl h) fun _ => ?_
          refine W_op fun j hj => W_next ⟨by omega, by omega⟩
        · have e1 : (decide (now ≤ at')) = false := by
            simp only [decide_eq_false_iff_not]
            intro hle
            refine hno (cutC now c) ((hmem _).2 ⟨c, hc, ?_, rfl⟩) ⟨hca.1, hca.2.1, ?_, hca.2.2.2⟩
            · have := hca.2.2.2; omega
            · have := hca.2.2.1
              show max c.Start now ≤ at'
              omega
          rw [e1]
          refine W_brnot (W_brT (W_brF ?_))
          refine W_op fun j hj => W_next ⟨by omega, by omega⟩
      · refine W_brF ?_
        rcases hB with ⟨rfl, d, hd, hda, rfl⟩ | ⟨rfl, hno2⟩
        · exfalso
          obtain ⟨d0, hd0, hde, rfl⟩ := (hmem d).1 hd
          have hm : max d0.Start now ≤ at' := hda.2.2.1
          exact hno d0 hd0 ⟨hda.1, hda.2.1, by omega, hda.2.2.2⟩
        · refine W_brnot (W_brT (W_brF ?_))
          refine W_op fun j hj => W_next ⟨by omega, by omega⟩
    · refine W_done ?_
      dsimp only [Sum.elim]
      refine W_op fun j hj => W_next ⟨by omega, by omega⟩
  · refine W_done ?_
    dsimp only [Sum.elim]
    refine W_eq awake_w (W_ret rfl)
end Go.Proofs.Ytgihkmmcddhajaa
