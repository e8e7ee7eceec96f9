import Derived.Test.YtgihkmmcddhajaaPK
namespace Go.Proofs.Ytgihkmmcddhajaa
open Go.X Go.Eng
set_option linter.unusedSimpArgs false
set_option linter.unusedVariables false

/-! LAYER 22: what Sort gives, in the program and in the reference; PlanChecks -/

/-- What Sort gives. -/
def SR (l : List Contact) (r : List Contact × Int) : Prop :=
  (200 < l.length ∧ r = ([], 5)) ∨ (l.length ≤ 200 ∧ (¬ ∀ c ∈ l, OKC c) ∧ r = ([], 2)) ∨
  (l.length ≤ 200 ∧ (∀ c ∈ l, OKC c) ∧ ¬ l.Pairwise apartC ∧ r = ([], 12)) ∨ (l.length ≤ 200 ∧ (∀ c ∈ l, OKC c) ∧ l.Pairwise apartC ∧ Valid r.1 ∧ r.1.Perm l ∧ r.2 = 0)

theorem valid_perm {a b : List Contact} (ha : Valid a) (hb : Valid b) (hp : a.Perm b) : a = b :=
  hp.eq_of_pairwise (fun x y _ _ h1 h2 => by rw [cmpC_lt] at *; omega) ha.asc hb.asc

theorem SR.det {l : List Contact} {r r' : List Contact × Int} (h : SR l r) (h' : SR l r') : r = r' := by
  rcases h with ⟨h1, rfl⟩ | ⟨h1, h2, rfl⟩ | ⟨h1, h2, h3, rfl⟩ | ⟨h1, h2, h3, h4, h5, h6⟩ <;> rcases h' with ⟨k1, rfl⟩ | ⟨k1, k2, rfl⟩ | ⟨k1, k2, k3, rfl⟩ | ⟨k1, k2, k3, k4, k5, k6⟩ <;>
    first
    | rfl
    | (exfalso; omega)
    | exact absurd h2 k2
    | exact absurd k2 h2
    | exact absurd h3 k3
    | exact absurd k3 h3
    | exact Prod.ext (valid_perm h4 k4 (h5.trans k5.symm)) (h6.trans k6.symm)

theorem apart_perm {a b : List Contact} (hp : a.Perm b) : a.Pairwise apartC ↔ b.Pairwise apartC := hp.pairwise_iff (R := apartC) (fun h => apartC_symm h)

theorem clone_w (l : List Contact) (hl : l.length ≤ 1000) : slices_Clone l = some l := by
  unfold slices_Clone
  have : app 48 ([] : List Contact) l = some l := by unfold app; rw [if_pos (by simp; omega)]; rfl
  rw [this]
  cases l with
  | nil => unfold nilq both; simp
  | cons c l => rfl

theorem sort_s (l : List Contact) : W (plan_Sort l) (SR l) := by
  unfold plan_Sort
  refine W_if (fun h => W_ret (.inl ⟨by omega, rfl⟩)) fun hlen => ?_
  have hlen' : l.length ≤ 200 := by omega
  refine W_loop (fun i : Int => 0 ≤ i ∧ i ≤ (l.length : Int) ∧ ∀ c ∈ l.take i.toNat, OKC c) (fun i => l.length - i.toNat) ?_ ⟨by omega, by omega, by simp⟩
  rintro i ⟨i1, i2, i3⟩
  refine W_if (fun hi => ?_) fun hi => ?_
  · refine W_idx (by omega) (by omega) fun x hx => ?_
    refine W_call (one_s x) fun r hr => ?_
    rcases hr with ⟨rfl, hok⟩ | ⟨rfl, hok⟩
    · refine W_if (fun h => absurd rfl h) fun _ => ?_
      refine W_op fun j hj => W_next ⟨⟨by omega, by omega, fun c hc => ?_⟩, by omega⟩
      rw [show j.toNat = i.toNat + 1 from by omega, List.take_add_one, hx] at hc
      rcases List.mem_append.1 hc with hc | hc
      · exact i3 c hc
      · simp at hc; subst hc; exact hok
    · refine W_if (fun _ => W_done (W_ret (.inr (.inl ⟨hlen', fun h => hok (h x (List.mem_of_getElem? hx)), rfl⟩)))) fun h => absurd (by decide) h
  · refine W_done ?_
    dsimp only [Sum.elim]
    rw [List.take_of_length_le (by omega)] at i3
    refine W_eq (clone_w l (by omega)) ?_
    have hs : srtG plan_compare.srt l = some (plan_compare.srt l) := by unfold srtG; rw [if_pos (by omega)]
    refine W_eq hs ?_
    obtain ⟨p1, p2⟩ := srt_spec l
    refine W_call (check_s _) ?_
    rintro ⟨e, n⟩ hr
    dsimp only
    have hl2 : (plan_compare.srt l).length = l.length := p1.length_eq
    by_cases hap : l.Pairwise apartC
    · have hv := srt_valid i3 hap
      have : (e, n) = (0, 0) := hr.det (.inr (.inl ⟨by omega, hv, rfl⟩))
      cases this
      refine W_if (fun h => absurd rfl h) fun _ => W_ret ?_
      exact .inr (.inr (.inr ⟨hlen', i3, hap, hv, p1, rfl⟩))
    · have hne : e ≠ 0 := by
        rcases hr with ⟨h1, h2⟩ | ⟨h1, h2, h3⟩ | ⟨h1, i, hi, x, hx, hv, hb⟩
        · cases h2; decide
        · exact absurd ((apart_perm p1).1 h2.ap) hap
        · dsimp only at hb
          rcases hb with ⟨rfl, _⟩ | ⟨rfl, _⟩ | ⟨rfl, _⟩ <;> decide
      refine W_if (fun _ => W_ret ?_) fun h => absurd hne h
      exact .inr (.inr (.inl ⟨hlen', i3, hap, rfl⟩))

/-- Ordered, equal ones among them. -/
def Asc (l : List Contact) : Prop := l.Pairwise fun a b => ¬ cmpC b a < 0

theorem insert_s {l : List Contact} {c : Contact} (h : Asc l) (hl : l.length ≤ 1000) : W (packhorseref22_insert (l, c)) fun r => Asc r ∧ r.Perm (c :: l) := by
  unfold packhorseref22_insert
  dsimp only
  refine W_loop (fun a : Int => 0 ≤ a ∧ a ≤ (l.length : Int) ∧ ∀ (j : Nat) x, a.toNat ≤ j → l[j]? = some x → cmpC c x < 0) (fun a => a.toNat) ?_ ⟨by omega, by omega, fun j x hj hx => by
    have := (List.getElem?_eq_some_iff.1 hx).1; omega⟩
  rintro a ⟨a1, a2, a3⟩
  have fin : (∀ (j : Nat) x, j < a.toNat → l[j]? = some x → ¬ cmpC c x < 0) → W ((slc l (0 : Int) a).bind fun x_9 => (app 48 ([] : List Contact) x_9).bind fun x_10 => (app 48 x_10 ([c] : List Contact)).bind fun x_11 => (slc l a (l.length : Int)).bind fun x_12 => (app 48 x_11 x_12).bind fun x_13 => some x_13)
      (fun r => Asc r ∧ r.Perm (c :: l)) := by
    intro low
    have e1 : slc l (0 : Int) a = some (l.take a.toNat) := by unfold slc; rw [if_pos (by omega)]; simp
    have e2 : slc l a (l.length : Int) = some (l.drop a.toNat) := by unfold slc; rw [if_pos (by omega)]; simp
    refine W_eq e1 ?_
    refine W_app (by simp; omega) ?_
    refine W_app (by simp; omega) ?_
    refine W_eq e2 ?_
    refine W_app (by simp; omega) (W_ret ?_)
    rw [List.nil_append]
    have hsplit := List.take_append_drop a.toNat l
    have hp : (l.take a.toNat ++ [c] ++ l.drop a.toNat).Perm (c :: l) := by
      have q : (l.take a.toNat ++ c :: l.drop a.toNat).Perm (c :: (l.take a.toNat ++ l.drop a.toNat)) := List.perm_middle
      rw [hsplit] at q
      simpa using q
    refine ⟨?_, hp⟩
    unfold Asc at h ⊢
    rw [← hsplit, List.pairwise_append] at h
    obtain ⟨q1, q2, q3⟩ := h
    have lo : ∀ x ∈ l.take a.toNat, ¬ cmpC c x < 0 := by
      intro x hx
      obtain ⟨j, hj⟩ := List.mem_iff_getElem?.1 hx
      rw [List.getElem?_take] at hj
      split at hj
      · exact low j x (by assumption) hj
      · cases hj
    have hi : ∀ x ∈ l.drop a.toNat, cmpC c x < 0 := by
      intro x hx
      obtain ⟨j, hj⟩ := List.mem_iff_getElem?.1 hx
      rw [List.getElem?_drop] at hj
      exact a3 _ x (by omega) hj
    rw [List.pairwise_append, List.pairwise_append]
    refine ⟨⟨q1, by simp, fun x hx y hy => by simp at hy; subst hy; exact lo x hx⟩, q2, fun x hx y hy => ?_⟩
    rcases List.mem_append.1 hx with hx | hx
    · exact q3 x hx y hy
    · simp at hx; subst hx
      have := hi y hy
      rw [cmpC_lt] at *
      omega
  refine W_if (fun h0 => ?_) fun h0 => ?_
  · refine W_op fun k hk => ?_
    refine W_idx (by omega) (by omega) fun x hx => ?_
    refine W_eq (before_s c x) ?_
    have hx' : l[a.toNat - 1]? = some x := by rw [← hx]; congr 1; omega
    refine W_if (fun hb => ?_) fun hb => ?_
    · refine W_op fun j hj => W_next ⟨⟨by omega, by omega, fun m y hm hy => ?_⟩, by omega⟩
      by_cases hma : m = a.toNat - 1
      · subst hma; rw [hx'] at hy; cases hy; exact hb
      · exact a3 m y (by omega) hy
    · refine W_done (fin fun j y hj hy => ?_)
      by_cases hja : j = a.toNat - 1
      · subst hja; rw [hx'] at hy; cases hy; exact hb
      · obtain ⟨h1, h2⟩ := List.getElem?_eq_some_iff.1 hx'
        obtain ⟨h3, h4⟩ := List.getElem?_eq_some_iff.1 hy
        have := List.pairwise_iff_getElem.1 h j (a.toNat - 1) h3 h1 (by omega)
        rw [h2, h4] at this
        rw [cmpC_lt] at *
        omega
  · exact W_done (fin fun j y hj hy => by omega)

theorem rsort_s (l : List Contact) : W (packhorseref22_Sort l) (SR l) := by
  unfold packhorseref22_Sort
  refine W_if (fun h => W_ret (.inl ⟨by omega, rfl⟩)) fun hlen => ?_
  have hlen' : l.length ≤ 200 := by omega
  refine W_loop (fun s => 0 ≤ s.2 ∧ s.2 ≤ (l.length : Int) ∧ (∀ c ∈ l.take s.2.toNat, OKC c) ∧ Asc s.1 ∧ s.1.Perm (l.take s.2.toNat)) (fun s => l.length - s.2.toNat) ?_ ⟨by simp, by simp, by simp, by simp [Asc], by simp⟩
  rintro ⟨out, i⟩ ⟨i1, i2, i3, i4, i5⟩
  dsimp only at i1 i2 i3 i4 i5 ⊢
  have hol : out.length ≤ 200 := by rw [i5.length_eq, List.length_take]; omega
  refine W_if (fun hi => ?_) fun hi => ?_
  · refine W_idx (by omega) (by omega) fun x hx => ?_
    refine W_call (rone_s x) fun r hr => ?_
    rcases hr with ⟨rfl, hok⟩ | ⟨rfl, hok⟩
    · refine W_if (fun h => absurd rfl h) fun _ => ?_
      refine W_idx (by omega) (by omega) fun x' hx' => ?_
      rw [hx] at hx'; cases hx'
      refine W_call (insert_s i4 (by omega)) ?_
      rintro r ⟨r1, r2⟩
      have ht : l.take (i.toNat + 1) = l.take i.toNat ++ [x] := by rw [List.take_add_one, hx]; rfl
      refine W_op fun j hj => W_next ⟨⟨by dsimp only; omega, by dsimp only; omega, fun c hc => ?_, r1, ?_⟩, by dsimp only; omega⟩
      · dsimp only at hc
        rw [show j.toNat = i.toNat + 1 from by omega, ht] at hc
        rcases List.mem_append.1 hc with hc | hc
        · exact i3 c hc
        · simp at hc; subst hc; exact hok
      · dsimp only
        rw [show j.toNat = i.toNat + 1 from by omega, ht]
        exact (r2.trans (i5.cons x)).trans (List.perm_append_singleton x _).symm
    · refine W_if (fun _ => W_done (W_ret (.inr (.inl ⟨hlen', fun h => hok (h x (List.mem_of_getElem? hx)), rfl⟩)))) fun h => absurd (by decide) h
  · refine W_done ?_
    dsimp only [Sum.elim]
    rw [List.take_of_length_le (by omega)] at i3 i5
    have hoko : ∀ c ∈ out, OKC c := fun c hc => i3 c (i5.mem_iff.1 hc)
    -- an overlap of two contacts
    refine W_loop (fun i : Int => 0 ≤ i ∧ i ≤ (out.length : Int) ∧ (out.take i.toNat).Pairwise apartC) (fun i => out.length - i.toNat) ?_ ⟨by omega, by omega, by simp⟩
    rintro i ⟨j1, j2, j3⟩
    refine W_if (fun hi => ?_) fun hi => ?_
    rotate_left
    · refine W_done (W_ret ?_)
      rw [List.take_of_length_le (by omega)] at j3
      have hap : l.Pairwise apartC := (apart_perm i5).1 j3
      refine .inr (.inr (.inr ⟨hlen', i3, hap, ⟨hoko, ?_, j3⟩, i5, rfl⟩))
      rw [List.pairwise_iff_getElem]
      intro a b ha hb hab
      have q1 := List.pairwise_iff_getElem.1 i4 a b ha hb hab
      have q2 := List.pairwise_iff_getElem.1 j3 a b ha hb hab
      have o1 := (hoko _ (List.getElem_mem ha)).s
      have o2 := (hoko _ (List.getElem_mem hb)).s
      generalize out[a] = u at *
      generalize out[b] = v at *
      rw [cmpC_lt] at *
      by_cases e : u.From = v.From ∧ u.To = v.To
      · have := q2 e.1 e.2
        omega
      · omega
    have hil : i.toNat < out.length := by omega
    have hx : out[i.toNat]? = some out[i.toNat] := List.getElem?_eq_getElem hil
    generalize hxx : out[i.toNat] = x at hx
    have ox := (hoko x (List.mem_of_getElem? hx)).s
    have before : ∀ (k : Nat) y, k < i.toNat → out[k]? = some y → ¬ cmpC x y < 0 := by
      intro k y hk hy
      obtain ⟨h3, h4⟩ := List.getElem?_eq_some_iff.1 hy
      have := List.pairwise_iff_getElem.1 i4 k i.toNat h3 hil hk
      rw [h4, hxx] at this
      exact this
    refine W_loop (fun k : Int => 0 ≤ k ∧ k ≤ i ∧ ∀ c ∈ out.take k.toNat, apartC c x) (fun k => i.toNat - k.toNat) ?_ ⟨by omega, by omega, by simp⟩
    rintro k ⟨k1, k2, k3⟩
    refine W_if (fun hk => ?_) fun hk => ?_
    rotate_left
    · refine W_done ?_
      have hki : k = i := by omega
      subst hki
      refine W_op fun j hj => W_next ⟨⟨by omega, by omega, ?_⟩, by omega⟩
      rw [show j.toNat = k.toNat + 1 from by omega, List.take_add_one, hx]
      simp only [Option.toList_some, List.pairwise_append, List.pairwise_cons, List.not_mem_nil, false_imp_iff, implies_true, List.Pairwise.nil, and_self, List.mem_singleton, forall_eq, true_and]
      exact ⟨j3, k3⟩
    refine W_idx (by omega) (by omega) fun y hy => ?_
    refine W_idx (by omega) (by omega) fun x' hx' => ?_
    rw [hx] at hx'; cases hx'
    refine W_eq (pair_s y x) ?_
    have hby := before k.toNat y (by omega) hy
    have hmy : y ∈ out := List.mem_of_getElem? hy
    have oy := (hoko y hmy).s
    have hnext : apartC y x → ∀ c ∈ out.take (k.toNat + 1), apartC c x := by
      intro h c hc
      rw [List.take_add_one, hy] at hc
      rcases List.mem_append.1 hc with hc | hc
      · exact k3 c hc
      · simp at hc; subst hc; exact h
    refine W_if (fun hp => ?_) (fun hp => ?_)
    · refine W_idx (by omega) (by omega) fun y' hy' => ?_
      rw [hy] at hy'; cases hy'
      refine W_idx (by omega) (by omega) fun x' hx' => ?_
      rw [hx] at hx'; cases hx'
      refine W_if (fun hlt => ?_) (fun hlt => ?_)
      · refine W_done (W_done (W_ret (.inr (.inr (.inl ⟨hlen', i3, fun hap => ?_, rfl⟩)))))
        have hap' := (apart_perm i5).2 hap
        obtain ⟨h3, h4⟩ := List.getElem?_eq_some_iff.1 hy
        have := List.pairwise_iff_getElem.1 hap' k.toNat i.toNat h3 hil (by omega)
        rw [h4, hxx] at this
        have := this hp.1 hp.2
        rw [cmpC_lt] at hby
        omega
      · refine W_op fun j hj => W_next ⟨⟨by omega, by omega, ?_⟩, by omega⟩
        rw [show j.toNat = k.toNat + 1 from by omega]
        exact hnext fun _ _ => .inl (by omega)
    · refine W_op fun j hj => W_next ⟨⟨by omega, by omega, ?_⟩, by omega⟩
      rw [show j.toNat = k.toNat + 1 from by omega]
      exact hnext fun p1 p2 => absurd ⟨p1, p2⟩ hp

theorem same_w (a : List Contact) (h : a.length ≤ 1000) : packhorsekit_SamePlan (a, a) = some true := by
  refine W.eq ?_
  unfold packhorsekit_SamePlan
  dsimp only
  refine W_if (fun h => absurd rfl h) fun _ => ?_
  refine W_loop (fun i : Int => 0 ≤ i ∧ i ≤ (a.length : Int)) (fun i => a.length - i.toNat) ?_ (by omega)
  rintro i ⟨i1, i2⟩
  refine W_if (fun hi => ?_) fun hi => W_done (W_ret rfl)
  refine W_idx (by omega) (by omega) fun x hx => ?_
  refine W_idx (by omega) (by omega) fun x' hx' => ?_
  rw [hx] at hx'; cases hx'
  simp only [beq_self_eq_true, Bool.and_self, Bool.not_true]
  refine W_brF ?_
  exact W_op fun j hj => W_next ⟨by omega, by omega⟩

theorem planChecks_w (l : List Contact) : packhorselaw22_PlanChecks l = some true := by
  refine W.eq ?_
  unfold packhorselaw22_PlanChecks
  refine W_if (fun h1 => ?_) fun h1 => ?_
  · refine W_if (fun h2 => W_eq awake_w (W_ret rfl)) fun h2 => ?_
    refine W_if (fun h3 => W_eq awake_w (W_ret rfl)) fun h3 => ?_
    have ho : packhorsekit_OwnPlan l = some l := by
      unfold packhorsekit_OwnPlan
      have : app 48 ([] : List Contact) l = some l := by unfold app; rw [if_pos (by simp; omega)]; rfl
      rw [this]; rfl
    refine W_eq ho ?_
    refine W_call (check_s l) fun r hr => ?_
    obtain ⟨e, n⟩ := r
    refine W_call (rcheck_s l) fun r' hr' => ?_
    obtain ⟨f, m⟩ := r'
    cases hr.det hr'
    refine W_call (sort_s l) fun r hr => ?_
    obtain ⟨a, g⟩ := r
    refine W_call (rsort_s l) fun r' hr' => ?_
    obtain ⟨b, h⟩ := r'
    cases hr.det hr'
    dsimp only
    have hal : a.length ≤ 1000 := by
      rcases hr with ⟨_, h⟩ | ⟨_, _, h⟩ | ⟨_, _, _, h⟩ | ⟨h1, _, _, _, h, _⟩
      · cases h; simp
      · cases h; simp
      · cases h; simp
      · have := h.length_eq; dsimp only at this; omega
    refine W_if (fun h => absurd rfl h) fun _ => ?_
    refine W_if (fun h => absurd rfl h) fun _ => ?_
    refine W_if (fun h => absurd rfl h) fun _ => ?_
    refine W_eq (same_w a hal) ?_
    refine W_brnot (W_brT ?_)
    refine W_eq (same_w l (by omega)) ?_
    refine W_brnot (W_brT ?_)
    refine W_loop (fun i : Int => 0 ≤ i ∧ i ≤ (l.length : Int)) (fun i => l.length - i.toNat) ?_ (by omega)
    rintro i ⟨i1, i2⟩
    refine W_if (fun hi => ?_) fun hi => ?_
    · refine W_idx (by omega) (by omega) fun x hx => ?_
      refine W_call (one_s x) fun r hr => ?_
      refine W_idx (by omega) (by omega) fun x' hx' => ?_
      rw [hx] at hx'; cases hx'
      refine W_call (rone_s x) fun r' hr' => ?_
      have : r = r' := by
        rcases hr with ⟨rfl, q⟩ | ⟨rfl, q⟩ <;> rcases hr' with ⟨rfl, q'⟩ | ⟨rfl, q'⟩ <;> first | rfl | exact absurd q q' | exact absurd q' q
      subst this
      refine W_if (fun h => absurd rfl h) fun _ => ?_
      exact W_op fun j hj => W_next ⟨by omega, by omega⟩
    · refine W_done ?_
      dsimp only [Sum.elim]
      exact W_eq awake_w (W_ret rfl)
  · refine W_if (fun h3 => W_eq awake_w (W_ret rfl)) fun h3 => ?_
    have ho : packhorsekit_OwnPlan l = some l := by
      unfold packhorsekit_OwnPlan
      have : app 48 ([] : List Contact) l = some l := by unfold app; rw [if_pos (by simp; omega)]; rfl
      rw [this]; rfl
    refine W_eq ho ?_
    refine W_call (check_s l) fun r hr => ?_
    obtain ⟨e, n⟩ := r
    refine W_call (rcheck_s l) fun r' hr' => ?_
    obtain ⟨f, m⟩ := r'
    cases hr.det hr'
    refine W_call (sort_s l) fun r hr => ?_
    obtain ⟨a, g⟩ := r
    refine W_call (rsort_s l) fun r' hr' => ?_
    obtain ⟨b, h⟩ := r'
    cases hr.det hr'
    dsimp only
    have hal : a.length ≤ 1000 := by
      rcases hr with ⟨_, h⟩ | ⟨_, _, h⟩ | ⟨_, _, _, h⟩ | ⟨h1, _, _, _, h, _⟩
      · cases h; simp
      · cases h; simp
      · cases h; simp
      · have := h.length_eq; dsimp only at this; omega
    refine W_if (fun h => absurd rfl h) fun _ => ?_
    refine W_if (fun h => absurd rfl h) fun _ => ?_
    refine W_if (fun h => absurd rfl h) fun _ => ?_
    refine W_eq (same_w a hal) ?_
    refine W_brnot (W_brT ?_)
    refine W_eq (same_w l (by omega)) ?_
    refine W_brnot (W_brT ?_)
    refine W_loop (fun i : Int => 0 ≤ i ∧ i ≤ (l.length : Int)) (fun i => l.length - i.toNat) ?_ (by omega)
    rintro i ⟨i1, i2⟩
    refine W_if (fun hi => ?_) fun hi => ?_
    · refine W_idx (by omega) (by omega) fun x hx => ?_
      refine W_call (one_s x) fun r hr => ?_
      refine W_idx (by omega) (by omega) fun x' hx' => ?_
      rw [hx] at hx'; cases hx'
      refine W_call (rone_s x) fun r' hr' => ?_
      have : r = r' := by
        rcases hr with ⟨rfl, q⟩ | ⟨rfl, q⟩ <;> rcases hr' with ⟨rfl, q'⟩ | ⟨rfl, q'⟩ <;> first | rfl | exact absurd q q' | exact absurd q' q
      subst this
      refine W_if (fun h => absurd rfl h) fun _ => ?_
      exact W_op fun j hj => W_next ⟨by omega, by omega⟩
    · refine W_done ?_
      dsimp only [Sum.elim]
      exact W_eq awake_w (W_ret rfl)
end Go.Proofs.Ytgihkmmcddhajaa
