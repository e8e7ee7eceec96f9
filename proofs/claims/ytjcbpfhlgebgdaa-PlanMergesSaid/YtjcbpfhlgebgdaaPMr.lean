import Derived.Test.YtjcbpfhlgebgdaaPMs
import Derived.Test.YtjcbpfhlgebgdaaXGMh
set_option linter.unusedSimpArgs false
set_option linter.unusedVariables false
namespace Go.Proofs.Ytjcbpfhlgebgdaa
open Go.X Go.Eng Go.Seq
def MR (a b : List Contact) (r : List Contact × Int) : Prop :=
  (∃ n, CR a (r.2, n) ∧ r.2 ≠ 0 ∧ r.1 = []) ∨ (Valid a ∧ a.length ≤ 200 ∧ ∃ n, CR b (r.2, n) ∧ r.2 ≠ 0 ∧ r.1 = []) ∨ (Valid a ∧ a.length ≤ 200 ∧ Valid b ∧ b.length ≤ 200 ∧ ∃ F, GoodF (a ++ b) F ∧ SRF F r)
theorem CR.bad {l : List Contact} {e n : Int} (h : CR l (e, n)) (he : e ≠ 0) : ¬ (Valid l ∧ l.length ≤ 200) := by
  rintro ⟨hv, hl⟩
  have := h.det (.inr (.inl ⟨hl, hv, rfl⟩))
  cases this
  exact he rfl
theorem CR.good {l : List Contact} {n : Int} (h : CR l (0, n)) : Valid l ∧ l.length ≤ 200 := by
  rcases h with ⟨_, h⟩ | ⟨h1, h2, h3⟩ | ⟨h1, i, hi, x, hx, hv, hb⟩
  · cases h
  · exact ⟨h2, h1⟩
  · dsimp only at hb
    rcases hb with ⟨h, _⟩ | ⟨h, _⟩ | ⟨h, _⟩ <;> cases h
theorem MR.det {a b : List Contact} {r r' : List Contact × Int} (h : MR a b r) (h' : MR a b r') : r = r' := by
  rcases h with ⟨n, h1, h2, h3⟩ | ⟨v1, l1, n, h1, h2, h3⟩ | ⟨v1, l1, v2, l2, F, h1, h2⟩ <;> rcases h' with ⟨n', k1, k2, k3⟩ | ⟨_, _, n', k1, k2, k3⟩ | ⟨w1, m1, w2, m2, F', k1, k2⟩
  · have := h1.det k1
    simp only [Prod.mk.injEq] at this
    exact Prod.ext (h3.trans k3.symm) this.1
  · exact absurd ⟨by assumption, by assumption⟩ (h1.bad h2)
  · exact absurd ⟨w1, m1⟩ (h1.bad h2)
  · exact absurd ⟨v1, l1⟩ (k1.bad k2)
  · have := h1.det k1
    simp only [Prod.mk.injEq] at this
    exact Prod.ext (h3.trans k3.symm) this.1
  · exact absurd ⟨w2, m2⟩ (h1.bad h2)
  · exact absurd ⟨v1, l1⟩ (k1.bad k2)
  · exact absurd ⟨v2, l2⟩ (k1.bad k2)
  · exact SRF.det (h1.perm k1) h2 k2
theorem cov_join {A B D : List Contact} {x y : Contact} (hs : sameC x y) (h1 : y.Start ≤ x.End) (h2 : x.Start ≤ y.End) (hx : x.Start < x.End) (hy : y.Start < y.End) (k : Contact) (t : Int) :
    Cov (A ++ B ++ D ++ [joinC x y]) k t ↔ Cov (A ++ x :: (B ++ y :: D)) k t := by
  have e1 : sameC (joinC x y) x := ⟨rfl, rfl, rfl, rfl⟩
  have e2 : (joinC x y).Start = min x.Start y.Start ∧ (joinC x y).End = max x.End y.End := ⟨rfl, rfl⟩
  constructor
  · rintro ⟨z, hz, q1, q2, q3⟩
    simp only [List.mem_append, List.mem_singleton] at hz
    rcases hz with ((hz | hz) | hz) | rfl
    · exact ⟨z, by simp [hz], q1, q2, q3⟩
    · exact ⟨z, by simp [hz], q1, q2, q3⟩
    · exact ⟨z, by simp [hz], q1, q2, q3⟩
    · rw [e2.1] at q2
      rw [e2.2] at q3
      by_cases hin : x.Start ≤ t ∧ t < x.End
      · exact ⟨x, by simp, e1.symm.trans q1, hin.1, hin.2⟩
      · exact ⟨y, by simp, hs.symm.trans (e1.symm.trans q1), by omega, by omega⟩
  · rintro ⟨z, hz, q1, q2, q3⟩
    simp only [List.mem_append, List.mem_cons] at hz
    rcases hz with hz | rfl | hz | rfl | hz
    · exact ⟨z, by simp [hz], q1, q2, q3⟩
    · exact ⟨joinC z y, by simp, e1.trans q1, by rw [e2.1]; omega, by rw [e2.2]; omega⟩
    · exact ⟨z, by simp [hz], q1, q2, q3⟩
    · exact ⟨joinC x z, by simp, e1.trans (hs.trans q1), by rw [e2.1]; omega, by rw [e2.2]; omega⟩
    · exact ⟨z, by simp [hz], q1, q2, q3⟩
theorem split2 {l : List Contact} {k i : Nat} {x y : Contact} (hki : k < i) (hx : l[k]? = some x) (hy : l[i]? = some y) : l = l.take k ++ x :: ((l.drop (k + 1)).take (i - (k + 1)) ++ y :: l.drop (i + 1)) := by
  obtain ⟨h1, h2⟩ := List.getElem?_eq_some_iff.1 hx
  obtain ⟨h3, h4⟩ := List.getElem?_eq_some_iff.1 hy
  have a1 : l.drop i = y :: l.drop (i + 1) := by rw [List.drop_eq_getElem_cons h3, h4]
  have a2 : l.drop k = x :: l.drop (k + 1) := by rw [List.drop_eq_getElem_cons h1, h2]
  have a3 : (l.drop (k + 1)).drop (i - (k + 1)) = l.drop i := by rw [List.drop_drop]; congr 1; omega
  rw [← a1, ← a3, List.take_append_drop, ← a2, List.take_append_drop]
theorem least {P : Nat → Prop} : ∀ n, P n → ∃ m, P m ∧ ∀ j, j < m → ¬ P j := by
  intro n
  induction n using Nat.strongRecOn with
  | _ n ih =>
    intro h
    by_cases hj : ∃ j, j < n ∧ P j
    · obtain ⟨j, h1, h2⟩ := hj
      exact ih j h1 h2
    · exact ⟨n, h, fun j h1 h2 => hj ⟨j, h1, h2⟩⟩
theorem jd_ex (l : List Contact) : ∃ r, JD l r := by
  by_cases h : ∃ (i k : Nat) (x y : Contact), k < i ∧ l[k]? = some x ∧ l[i]? = some y ∧ okJ x y
  · obtain ⟨i0, hi0⟩ := h
    obtain ⟨i, hi, hlo⟩ := least (P := fun i => ∃ (k : Nat) (x y : Contact), k < i ∧ l[k]? = some x ∧ l[i]? = some y ∧ okJ x y) i0 hi0
    obtain ⟨k0, hk0⟩ := hi
    obtain ⟨k, hk, hlk⟩ := least (P := fun k => ∃ (x y : Contact), k < i ∧ l[k]? = some x ∧ l[i]? = some y ∧ okJ x y) k0 hk0
    obtain ⟨x, y, h1, h2, h3, h4⟩ := hk
    refine ⟨_, .inr ⟨k, i, x, y, h1, h2, h3, h4, fun k' i' x' y' q1 q2 q3 q4 q5 => ?_, rfl⟩⟩
    rcases q2 with q2 | ⟨rfl, q2⟩
    · exact hlo i' q2 ⟨k', x', y', q1, q3, q4, q5⟩
    · exact hlk k' q2 ⟨x', y', q1, q3, q4, q5⟩
  · exact ⟨_, .inl ⟨rfl, fun k i x y q1 q2 q3 q4 => h ⟨i, k, x, y, q1, q2, q3, q4⟩⟩⟩
theorem joined_s {l : List Contact} (hv : ValC l) (hl : l.length ≤ 1000) : W (packhorseref22_joined l) fun r => (r = (l, false) ∧ l.Pairwise sepC) ∨ (r.2 = true ∧ r.1.length < l.length ∧ ValC r.1 ∧ ∀ k t, Cov r.1 k t ↔ Cov l k t) := by
  obtain ⟨r, hr⟩ := jd_ex l
  refine ⟨r, joined_of hr hl, ?_⟩
  rcases hr with ⟨rfl, h1⟩ | ⟨k, i, x, y, h1, h2, h3, h4, _, rfl⟩
  · refine .inl ⟨rfl, ?_⟩
    rw [List.pairwise_iff_getElem]
    intro a b ha hb hab hs
    have := h1 a b _ _ hab (List.getElem?_eq_getElem ha) (List.getElem?_eq_getElem hb)
    by_cases q1 : l[a].End < l[b].Start
    · exact .inl q1
    · by_cases q2 : l[b].End < l[a].Start
      · exact .inr q2
      · exact absurd ⟨hs, by omega, by omega⟩ this
  · have hsp := split2 h1 h2 h3
    have vx := hv x (List.mem_of_getElem? h2)
    have vy := hv y (List.mem_of_getElem? h3)
    have hil := (List.getElem?_eq_some_iff.1 h3).1
    refine .inr ⟨rfl, ?_, ?_, ?_⟩
    · simp; omega
    · intro c hc
      simp only [List.mem_append, List.mem_singleton] at hc
      rcases hc with ((hc | hc) | hc) | rfl
      · exact hv c (List.mem_of_mem_take hc)
      · exact hv c (List.mem_of_mem_drop (List.mem_of_mem_take hc))
      · exact hv c (List.mem_of_mem_drop hc)
      · show min x.Start y.Start < max x.End y.End
        omega
    · intro k' t
      have := cov_join (A := l.take k) (B := (l.drop (k + 1)).take (i - (k + 1))) (D := l.drop (i + 1)) h4.1 h4.2.1 h4.2.2 vx vy k' t
      rw [← hsp] at this
      exact this
theorem pmerge_s (a b : List Contact) : W (plan_Merge (a, b)) (MR a b) := by
  obtain ⟨⟨e, n⟩, h1, h2⟩ := check_s a
  by_cases he : e = 0
  · subst he
    obtain ⟨va, la⟩ := h2.good
    obtain ⟨⟨e', n'⟩, h3, h4⟩ := check_s b
    by_cases he' : e' = 0
    · subst he'
      obtain ⟨vb, lb⟩ := h4.good
      obtain ⟨r, q1, F, q2, q3, _⟩ := merge_w va la vb lb
      exact ⟨r, q1, .inr (.inr ⟨va, la, vb, lb, F, q2, q3⟩)⟩
    · refine ⟨([], e'), plan_Merge_of (.inr (.inl ⟨⟨n, h1⟩, e', n', h3, he', rfl⟩)) fun _ ⟨m, hm⟩ => ?_, .inr (.inl ⟨va, la, n', h4, he', rfl⟩)⟩
      rw [h3] at hm; cases hm; exact absurd rfl he'
  · refine ⟨([], e), plan_Merge_of (.inl ⟨e, n, h1, he, rfl⟩) fun ⟨m, hm⟩ _ => ?_, .inl ⟨n, h2, he, rfl⟩⟩
    rw [h1] at hm; cases hm; exact absurd rfl he
set_option maxHeartbeats 1000000 in
theorem rmerge_s (a b : List Contact) : W (packhorseref22_Merge (a, b)) (MR a b) := by
  unfold packhorseref22_Merge
  dsimp only
  refine W_call (rcheck_s a) ?_
  rintro ⟨e, n⟩ hr
  dsimp only
  refine W_if (fun he => ?_) fun he => ?_
  rotate_left
  · refine W_if (fun _ => W_ret (.inl ⟨n, hr, he, rfl⟩)) fun h => absurd he h
  subst he
  obtain ⟨va, la⟩ := hr.good
  refine W_call (rcheck_s b) ?_
  rintro ⟨e, m⟩ hr'
  dsimp only
  refine W_if (fun he => W_ret (.inr (.inl ⟨va, la, m, hr', he, rfl⟩))) fun he => ?_
  have he' : e = 0 := Classical.not_not.1 he
  subst he'
  obtain ⟨vb, lb⟩ := hr'.good
  refine W_app (by simp; omega) ?_
  refine W_app (by simp; omega) ?_
  rw [List.nil_append]
  have hok : ∀ c ∈ a ++ b, OKC c := fun c hc => by
    rcases List.mem_append.1 hc with hc | hc
    · exact va.ok c hc
    · exact vb.ok c hc
  refine W_loop (fun l => l.length ≤ 400 ∧ ValC l ∧ ∀ k t, Cov l k t ↔ Cov (a ++ b) k t) (fun l => l.length) ?_ ⟨by simp; omega, fun c hc => (hok c hc).s.2.1, fun _ _ => Iff.rfl⟩
  rintro l ⟨l1, l2, l3⟩
  refine W_call (joined_s l2 (by omega)) ?_
  rintro ⟨l', is⟩ hj
  dsimp only at hj ⊢
  rcases hj with ⟨hj, hsep⟩ | ⟨hj, q1, q2, q3⟩
  rotate_left
  · subst hj
    refine W_brnot (W_brT (W_next ⟨⟨by omega, q2, fun k t => (q3 k t).trans (l3 k t)⟩, q1⟩))
  cases hj
  refine W_brnot (W_brF (W_done ?_))
  have hg : GoodF (a ++ b) l := ⟨l2, hsep, l3⟩
  have hoko := hg.ok hok
  refine W_loop (fun i : Int => 0 ≤ i ∧ i ≤ (l.length : Int) ∧ (l.take i.toNat).Pairwise apartC) (fun i => l.length - i.toNat) ?_ ⟨by omega, by omega, by simp⟩
  rintro i ⟨j1, j2, j3⟩
  refine W_if (fun hi => ?_) fun hi => ?_
  rotate_left
  · rw [List.take_of_length_le (by omega)] at j3
    refine W_done ?_
    dsimp only [Sum.elim]
    refine W_call (rsort_s l) ?_
    rintro ⟨r1, r2⟩ hs
    refine W_ret (.inr (.inr ⟨va, la, vb, lb, l, hg, ?_⟩))
    rcases hs with ⟨h1, h2⟩ | ⟨h1, h2, h3⟩ | ⟨h1, h2, h3, h4⟩ | ⟨h1, h2, h3, h4, h5, h6⟩
    · exact .inr (.inl ⟨j3, h1, h2⟩)
    · exact absurd hoko h2
    · exact absurd j3 h3
    · exact .inr (.inr ⟨j3, h1, h4, h5, h6⟩)
  have hil : i.toNat < l.length := by omega
  have hx : l[i.toNat]? = some l[i.toNat] := List.getElem?_eq_getElem hil
  generalize hxx : l[i.toNat] = x at hx
  have vx := l2 x (List.mem_of_getElem? hx)
  refine W_loop (fun k : Int => 0 ≤ k ∧ k ≤ i ∧ ∀ c ∈ l.take k.toNat, apartC c x) (fun k => i.toNat - k.toNat) ?_ ⟨by omega, by omega, by simp⟩
  rintro k ⟨k1, k2, k3⟩
  refine W_if (fun hk => ?_) fun hk => ?_
  rotate_left
  · refine W_done ?_
    have hki : k = i := by omega
    subst hki
    refine W_op fun j hj => W_next ⟨⟨by omega, by omega, ?_⟩, by omega⟩
    rw [show j.toNat = k.toNat + 1 from by omega, List.take_add_one, hx]
    simp only [Option.toList_some, List.pairwise_append, List.pairwise_cons, List.not_mem_nil, false_imp_iff, implies_true, List.Pairwise.nil, and_self, List.mem_singleton, forall_eq, true_and]
    exact ⟨j3, k3⟩
  have hnext : ∀ y, l[k.toNat]? = some y → apartC y x → ∀ j : Int, j = k + 1 → (0 ≤ j ∧ j ≤ i ∧ ∀ c ∈ l.take j.toNat, apartC c x) ∧ i.toNat - j.toNat < i.toNat - k.toNat := by
    intro y hy h j hj
    refine ⟨⟨by omega, by omega, fun c hc => ?_⟩, by omega⟩
    rw [show j.toNat = k.toNat + 1 from by omega, List.take_add_one, hy] at hc
    rcases List.mem_append.1 hc with hc | hc
    · exact k3 c hc
    · simp at hc; subst hc; exact h
  refine W_idx (by omega) (by omega) fun y hy => ?_
  refine W_idx (by omega) (by omega) fun x' hx' => ?_
  rw [hx] at hx'; cases hx'
  have vy := l2 y (List.mem_of_getElem? hy)
  refine W_eq (pair_s y x) ?_
  refine W_if (fun hp => ?_) (fun hp => W_op fun j hj => W_next (hnext y hy (fun e1 e2 => absurd ⟨e1, e2⟩ hp) j hj))
  refine W_idx (by omega) (by omega) fun y' hy' => ?_
  rw [hy] at hy'; cases hy'
  refine W_idx (by omega) (by omega) fun x' hx' => ?_
  rw [hx] at hx'; cases hx'
  refine W_if (fun h1 => ?_) (fun h1 => W_op fun j hj => W_next (hnext y hy (fun _ _ => .inr (by omega)) j hj))
  refine W_idx (by omega) (by omega) fun x' hx' => ?_
  rw [hx] at hx'; cases hx'
  refine W_idx (by omega) (by omega) fun y' hy' => ?_
  rw [hy] at hy'; cases hy'
  refine W_if (fun h2 => ?_) (fun h2 => W_op fun j hj => W_next (hnext y hy (fun _ _ => .inl (by omega)) j hj))
  refine W_done (W_done (W_ret (.inr (.inr ⟨va, la, vb, lb, l, hg, .inl ⟨fun hap => ?_, rfl⟩⟩))))
  obtain ⟨h3, h4⟩ := List.getElem?_eq_some_iff.1 hy
  have := List.pairwise_iff_getElem.1 hap k.toNat i.toNat h3 hil (by omega)
  rw [h4, hxx] at this
  have := this hp.1 hp.2
  omega
theorem MR.len {a b : List Contact} {r : List Contact × Int} (h : MR a b r) : r.1.length ≤ 200 := by
  rcases h with ⟨_, _, _, h⟩ | ⟨_, _, _, _, _, h⟩ | ⟨_, _, _, _, F, _, h⟩
  · rw [h]; simp
  · rw [h]; simp
  · exact h.len
set_option maxHeartbeats 2000000 in
theorem planMerges_w (a b : List Contact) : packhorselaw22_PlanMerges (a, b) = some true := by
  refine W.eq ?_
  unfold packhorselaw22_PlanMerges
  dsimp only
  repeat' (first
    | exact W_eq awake_w (W_ret rfl)
    | (refine W_if (fun h => ?_) (fun h => ?_))
    | (refine W_add (by omega) (by omega) fun j hj => ?_))
  all_goals
    refine W_eq (own_w (by omega)) ?_
    refine W_eq (own_w (by omega)) ?_
    refine W_call (pmerge_s a b) ?_
    rintro ⟨p, f⟩ h1
    refine W_call (rmerge_s a b) ?_
    rintro ⟨q, g⟩ h2
    have hpq := h1.det h2
    cases hpq
    dsimp only
    have hlen := h1.len
    refine W_eq (same_w p (by dsimp only at hlen; omega)) ?_
    refine W_brT ?_
    refine W_if (fun _ => W_eq awake_w (W_ret rfl)) fun h => absurd rfl h
end Go.Proofs.Ytjcbpfhlgebgdaa
