import Derived.Test.YtgihkmmcddhajaaPL
namespace Go.Proofs.Ytgihkmmcddhajaa
open Go.X Go.Eng
set_option linter.unusedSimpArgs false
set_option linter.unusedVariables false

/-! LAYER 22: the active contact of a pair -/

theorem asks_w {l : List Contact} {now : Int} {ns : List Int} (h : Valid l) (hl : l.length ≤ 200) (hn : 0 ≤ now ∧ now ≤ 1099511627776) (hs : ∀ x ∈ ns, 1 ≤ x ∧ x ≤ 16) (hns : ns.length ≤ 100) : plan_asks (l, now, ns) = some 0 := by
  refine W.eq ?_
  unfold plan_asks
  dsimp only
  refine W_eq (check_w h hl) ?_
  refine W_brne (fun h => absurd rfl h) fun _ => ?_
  refine W_eq (nodes_w hs hns) ?_
  refine W_brnot (W_brT ?_)
  iterate 2 (first | refine W_op fun _ _ => ?_ | refine W_if ?_ ?_ <;> intro _ <;> try (exfalso; omega))
  exact W_ret rfl

/-- Of the pair, and not over. -/
def nxt (f t now : Int) (c : Contact) : Prop := c.From = f ∧ c.To = t ∧ now < c.End
instance (f t now : Int) (c : Contact) : Decidable (nxt f t now c) := by unfold nxt; infer_instance

theorem index_w {l : List Contact} {f t now : Int} (hl : l.length ≤ 200) : W (slices_IndexFunc_f49 l (f, t, now)) fun r => r.2 = (f, t, now) ∧
    ((r.1 = -1 ∧ ∀ c ∈ l, ¬ nxt f t now c) ∨ ∃ c, 0 ≤ r.1 ∧ l[r.1.toNat]? = some c ∧ nxt f t now c ∧ ∀ (j : Nat) d, j < r.1.toNat → l[j]? = some d → ¬ nxt f t now d) := by
  unfold slices_IndexFunc_f49
  refine W_loop (fun s => 0 ≤ s.1 ∧ s.1 ≤ (l.length : Int) ∧ s.2 = (f, t, now) ∧ ∀ (j : Nat) d, j < s.1.toNat → l[j]? = some d → ¬ nxt f t now d) (fun s => l.length - s.1.toNat) ?_ ⟨by simp, by simp, rfl, by simp⟩
  rintro ⟨i, a, b, n⟩ ⟨i1, i2, i3, i4⟩
  dsimp only at i1 i2 i3 i4 ⊢
  cases i3
  (first | refine W_op fun _ _ => ?_ | refine W_if ?_ ?_ <;> intro _ <;> try (exfalso; omega))
  · refine W_idx (by omega) (by omega) fun x hx => ?_
    have hq : plan_Next_1 x (f, t, now) = some (decide (nxt f t now x), (f, t, now)) := by
      unfold plan_Next_1 plan_of nxt
      simp only [Option.bind_some]
      have e1 : (x.From == f) = decide (x.From = f) := rfl
      have e2 : (x.To == t) = decide (x.To = t) := rfl
      rw [e1, e2]
      by_cases h1 : x.From = f <;> by_cases h2 : x.To = t <;> simp [br, h1, h2]
    refine W_eq hq ?_
    dsimp only
    refine W_brd (fun hn => W_done (W_ret ?_)) (fun hn => ?_)
    · exact ⟨rfl, .inr ⟨x, i1, hx, hn, i4⟩⟩
    · refine W_op fun j hj => W_next ⟨⟨by dsimp only; omega, by dsimp only; omega, rfl, fun k d hk hd => ?_⟩, by dsimp only; omega⟩
      dsimp only at hk
      by_cases hki : k = i.toNat
      · subst hki; rw [hx] at hd; cases hd; exact hn
      · exact i4 k d (by omega) hd
  · refine W_done (W_ret ⟨rfl, .inl ⟨rfl, fun c hc => ?_⟩⟩)
    obtain ⟨j, hj⟩ := List.mem_iff_getElem?.1 hc
    exact i4 j c (by have := (List.getElem?_eq_some_iff.1 hj).1; omega) hj

/-- Active at a tick. -/
def actv (f t now : Int) (c : Contact) : Prop := c.From = f ∧ c.To = t ∧ c.Start ≤ now ∧ now < c.End

theorem act_w {l : List Contact} {f t now : Int} (h : Valid l) (hl : l.length ≤ 200) (hn : 0 ≤ now ∧ now ≤ 1099511627776) (hf : 1 ≤ f ∧ f ≤ 16) (ht : 1 ≤ t ∧ t ≤ 16) :
    W (packhorselaw22_active (l, f, t, now)) fun r => r.2.2 = 0 ∧ ((r.1 = true ∧ ∃ c ∈ l, actv f t now c ∧ r.2.1 = c.Rate) ∨ (r.1 = false ∧ ∀ c ∈ l, ¬ actv f t now c)) := by
  unfold packhorselaw22_active plan_Active plan_Next
  dsimp only
  refine W_bind (W_bind (W_eq (asks_w h hl hn (by simp; omega) (by simp)) ?_))
  refine W_brne (fun h => absurd rfl h) fun _ => ?_
  refine W_call (index_w hl) ?_
  rintro ⟨i, a, b, n⟩ ⟨e, hi⟩
  cases e
  rcases hi with ⟨rfl, hno⟩ | ⟨c, h0, hc, hcn, hlo⟩
  · dsimp only
    (first | refine W_op fun _ _ => ?_ | refine W_if ?_ ?_ <;> intro _ <;> try (exfalso; omega))
    refine W_ret ?_
    dsimp only
    refine W_brT (W_ret (W_ret ⟨rfl, .inr ⟨rfl, fun c hc ha => hno c hc ⟨ha.1, ha.2.1, ha.2.2.2⟩⟩⟩))
  · dsimp only
    (first | refine W_op fun _ _ => ?_ | refine W_if ?_ ?_ <;> intro _ <;> try (exfalso; omega))
    refine W_eq (a := c) (by unfold idx; rw [if_pos h0]; exact hc) ?_
    refine W_ret ?_
    dsimp only
    refine W_brF ?_
    refine W_if (fun hlt => W_ret (W_ret ⟨rfl, .inr ⟨rfl, fun d hd ha => ?_⟩⟩)) (fun hge => W_ret (W_ret ⟨rfl, .inl ⟨rfl, c, List.mem_of_getElem? hc, ⟨hcn.1, hcn.2.1, by omega, hcn.2.2⟩, rfl⟩⟩))
    obtain ⟨j, hj⟩ := List.mem_iff_getElem?.1 hd
    obtain ⟨hjl, hjv⟩ := List.getElem?_eq_some_iff.1 hj
    obtain ⟨hil, hiv⟩ := List.getElem?_eq_some_iff.1 hc
    rcases Nat.lt_trichotomy j i.toNat with q | q | q
    · exact hlo j d q hj ⟨ha.1, ha.2.1, ha.2.2.2⟩
    · subst q; rw [hc] at hj; cases hj
      have := ha.2.2.1; omega
    · have := List.pairwise_iff_getElem.1 h.asc i.toNat j hil hjl q
      rw [hiv, hjv, cmpC_lt] at this
      have := ha.2.2.1
      omega
end Go.Proofs.Ytgihkmmcddhajaa
