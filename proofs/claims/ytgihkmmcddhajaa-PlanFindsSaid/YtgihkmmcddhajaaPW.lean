import Derived.Test.YtgihkmmcddhajaaPC
namespace Go.Proofs.Ytgihkmmcddhajaa
open Go.X Go.Eng
set_option linter.unusedSimpArgs false
set_option linter.unusedVariables false

/-! LAYER 22: awake -/

theorem active_w {l : List Contact} {f t now : Int} (h : Valid l) (hl : l.length ≤ 200) (hn : 0 ≤ now ∧ now ≤ 1099511627776) (hf : 1 ≤ f ∧ f ≤ 16) (ht : 1 ≤ t ∧ t ≤ 16) :
    W (plan_Active (l, f, t, now)) fun r => r.2.2 = 0 ∧ ((r.2.1 = true ∧ r.1 ∈ l ∧ actv f t now r.1) ∨ (r.2.1 = false ∧ ∀ c ∈ l, ¬ actv f t now c)) := by
  unfold plan_Active plan_Next
  dsimp only
  refine W_bind (W_eq (asks_w h hl hn (by simp; omega) (by simp)) ?_)
  refine W_brne (fun h => absurd rfl h) fun _ => ?_
  refine W_call (index_w hl) ?_
  rintro ⟨i, a, b, n⟩ ⟨e, hi⟩
  cases e
  rcases hi with ⟨rfl, hno⟩ | ⟨c, h0, hc, hcn, hlo⟩
  · dsimp only
    (first | refine W_op fun _ _ => ?_ | refine W_if ?_ ?_ <;> intro _ <;> try (exfalso; omega))
    refine W_ret ?_
    dsimp only
    refine W_brT (W_ret ⟨rfl, .inr ⟨rfl, fun c hc ha => hno c hc ⟨ha.1, ha.2.1, ha.2.2.2⟩⟩⟩)
  · dsimp only
    (first | refine W_op fun _ _ => ?_ | refine W_if ?_ ?_ <;> intro _ <;> try (exfalso; omega))
    refine W_eq (a := c) (by unfold idx; rw [if_pos h0]; exact hc) ?_
    refine W_ret ?_
    dsimp only
    refine W_brF ?_
    refine W_if (fun hlt => W_ret ⟨rfl, .inr ⟨rfl, fun d hd ha => ?_⟩⟩) (fun hge => W_ret ⟨rfl, .inl ⟨rfl, List.mem_of_getElem? hc, ⟨hcn.1, hcn.2.1, by dsimp only; omega, hcn.2.2⟩⟩⟩)
    obtain ⟨j, hj⟩ := List.mem_iff_getElem?.1 hd
    obtain ⟨hjl, hjv⟩ := List.getElem?_eq_some_iff.1 hj
    obtain ⟨hil, hiv⟩ := List.getElem?_eq_some_iff.1 hc
    rcases Nat.lt_trichotomy j i.toNat with q | q | q
    · exact hlo j d q hj ⟨ha.1, ha.2.1, ha.2.2.2⟩
    · subst q; rw [hc] at hj; cases hj
      have := ha.2.2.1; omega
    · have := List.pairwise_iff_getElem.1 h.asc i.toNat j hil hjl q
      rw [hiv, hjv, cmpC_lt] at this
      have := ha.2.2.1
      omega

def ex1 : Contact := ⟨1, 2, 0, 10, 5, 0⟩
def ex2 : Contact := ⟨2, 1, 0, 10, 5, 0⟩
def ex3 : Contact := ⟨1, 2, 10, 20, 5, 0⟩
def ex4 : Contact := ⟨1, 2, 9, 20, 5, 0⟩

theorem c_w (a b c d e : Int) : packhorselaw22_c (a, b, c, d, e) = some ⟨a, b, c, d, e, 0⟩ := rfl
theorem example_w : packhorselaw22_example () = some [ex1, ex2, ex3] := rfl

theorem ex_valid : Valid [ex1, ex2, ex3] := by
  refine ⟨fun c hc => ?_, ?_, ?_⟩
  · simp only [List.mem_cons, List.not_mem_nil, or_false] at hc
    rcases hc with rfl | rfl | rfl <;> exact ⟨by decide, by decide, by decide, by decide, by decide, by decide⟩
  · simp only [List.pairwise_cons, List.mem_cons, List.not_mem_nil, or_false, forall_eq_or_imp, forall_eq, cmpC_lt, false_imp_iff, implies_true, List.Pairwise.nil, and_true]
    simp [ex1, ex2, ex3]
  · simp only [List.pairwise_cons, List.mem_cons, List.not_mem_nil, or_false, forall_eq_or_imp, forall_eq, apartC, false_imp_iff, implies_true, List.Pairwise.nil, and_true]
    simp [ex1, ex2, ex3]

theorem check_ex : plan_Check [ex1, ex4] = some (12, 1) := by
  refine W.eq ?_
  unfold plan_Check
  refine W_if (fun h => absurd h (by decide)) (fun _ => ?_)
  refine W_loop (fun s : Int × List (Pair × Int) => s = (0, []) ∨ s = (1, [((⟨1, 2⟩ : Pair), 10)])) (fun s => 2 - s.1.toNat) ?_ (.inl rfl)
  have o1 : OKC ex1 := ⟨by decide, by decide, by decide, by decide, by decide, by decide⟩
  have o4 : OKC ex4 := ⟨by decide, by decide, by decide, by decide, by decide, by decide⟩
  intro s hs
  rcases hs with rfl | rfl
  · dsimp only
    refine W_if (fun _ => ?_) (fun h => absurd (by decide) h)
    refine W_eq (a := ex1) rfl ?_
    refine W_eq (one_w o1) ?_
    refine W_brne (fun h => absurd rfl h) fun _ => ?_
    refine W_if (fun h => absurd h (by decide)) (fun _ => ?_)
    refine W_eq (a := (⟨1, 2⟩ : Pair)) rfl ?_
    refine W_eq (mget_w (by decide) (by simp)) ?_
    refine W_if (fun h => absurd h (by decide)) (fun _ => ?_)
    refine W_eq (a := (⟨1, 2⟩ : Pair)) rfl ?_
    refine W_eq (mput_w (by decide) (by simp)) ?_
    refine W_op fun j hj => W_next ⟨.inr (by subst hj; rfl), by subst hj; decide⟩
  · dsimp only
    refine W_if (fun _ => ?_) (fun h => absurd (by decide) h)
    refine W_eq (a := ex4) rfl ?_
    refine W_eq (one_w o4) ?_
    refine W_brne (fun h => absurd rfl h) fun _ => ?_
    refine W_if (fun _ => ?_) (fun h => absurd (by decide) h)
    refine W_op fun j hj => ?_
    subst hj
    refine W_eq (a := ex1) rfl ?_
    refine W_eq (compare_w ex1 ex4) ?_
    refine W_if (fun h => absurd h (by decide)) (fun _ => ?_)
    refine W_eq (a := (⟨1, 2⟩ : Pair)) rfl ?_
    refine W_eq (mget_w (by decide) (by decide)) ?_
    refine W_if (fun _ => ?_) (fun h => absurd (by decide) h)
    exact W_done (W_ret rfl)

theorem awake_w : packhorselaw22_awake () = some true := by
  refine W.eq ?_
  unfold packhorselaw22_awake
  refine W_eq (c_w _ _ _ _ _) ?_
  refine W_eq (c_w _ _ _ _ _) ?_
  refine W_eq check_ex ?_
  refine W_eq example_w ?_
  refine W_call (active_w ex_valid (by decide) (by decide) (by decide) (by decide)) ?_
  rintro ⟨c, is, e⟩ ⟨h1, h2⟩
  dsimp only at h1 h2 ⊢
  subst h1
  rcases h2 with ⟨rfl, h3, h4⟩ | ⟨rfl, h3⟩
  · refine W_if (fun _ => ?_) (fun h => absurd rfl h)
    refine W_if (fun _ => ?_) (fun h => absurd rfl h)
    refine W_if (fun _ => ?_) (fun h => absurd rfl h)
    refine W_brT ?_
    refine W_eq example_w ?_
    refine W_eq (a := ex3) rfl ?_
    simp only [List.mem_cons, List.not_mem_nil, or_false] at h3
    rcases h3 with rfl | rfl | rfl
    · exact absurd h4 (by unfold actv; decide)
    · exact absurd h4 (by unfold actv; decide)
    · exact W_ret (by simp)
  · exact absurd (show actv 1 2 10 ex3 by unfold actv; decide) (h3 ex3 (by simp))
end Go.Proofs.Ytgihkmmcddhajaa
