import Derived.Test.YtjcbpfhlgebgdaaPMs
namespace Go.Proofs.Ytjcbpfhlgebgdaa
open Go.X Go.Eng Go.Seq
set_option linter.unusedSimpArgs false
set_option linter.unusedVariables false

/-! LAYER 22: PlanActive -/

instance (f t now : Int) (c : Contact) : Decidable (actv f t now c) := by unfold actv; infer_instance

theorem next_w {l : List Contact} {f t now : Int} (h : Valid l) (hl : l.length ≤ 200) (hn : 0 ≤ now ∧ now ≤ 1099511627776) (hf : 1 ≤ f ∧ f ≤ 16) (ht : 1 ≤ t ∧ t ≤ 16) :
    W (plan_Next (l, f, t, now)) fun r => r.2.2 = 0 ∧ ((r.2.1 = false ∧ ∀ c ∈ l, ¬ nxt f t now c) ∨ (r.2.1 = true ∧ r.1 ∈ l ∧ nxt f t now r.1 ∧ ∀ d ∈ l, actv f t now d → r.1.Start ≤ now)) := by
  unfold plan_Next
  dsimp only
  refine W_eq (asks_w h hl hn (by simp; omega) (by simp)) ?_
  refine W_brne (fun h => absurd rfl h) fun _ => ?_
  refine W_call (index_w hl) ?_
  rintro ⟨i, a, b, n⟩ ⟨e, hi⟩
  cases e
  rcases hi with ⟨rfl, hno⟩ | ⟨c, h0, hc, hcn, hlo⟩
  · dsimp only
    refine W_if (fun _ => W_ret ⟨rfl, .inl ⟨rfl, hno⟩⟩) fun h => absurd (by decide) h
  · dsimp only
    refine W_if (fun h => by dsimp only at h0; omega) fun _ => ?_
    refine W_eq (a := c) (by unfold idx; rw [if_pos h0]; exact hc) ?_
    refine W_ret ⟨rfl, .inr ⟨rfl, List.mem_of_getElem? hc, hcn, fun d hd ha => ?_⟩⟩
    obtain ⟨j, hj⟩ := List.mem_iff_getElem?.1 hd
    obtain ⟨hjl, hjv⟩ := List.getElem?_eq_some_iff.1 hj
    obtain ⟨hil, hiv⟩ := List.getElem?_eq_some_iff.1 hc
    dsimp only at hlo hc hil hiv ⊢
    rcases Nat.lt_trichotomy j i.toNat with q | q | q
    · exact absurd ⟨ha.1, ha.2.1, ha.2.2.2⟩ (hlo j d q hj)
    · subst q; rw [hc] at hj; cases hj
      exact ha.2.2.1
    · have := List.pairwise_iff_getElem.1 h.asc i.toNat j hil hjl q
      rw [hiv, hjv, cmpC_lt] at this
      have := ha.2.2.1
      omega

/-- What the law's active gives: the one active contact, if there is one. -/
theorem act_eq {l : List Contact} {f t now : Int} {c : Contact} {ok : Bool} (h : plan_Next (l, f, t, now) = some (c, ok, 0)) :
    packhorselaw22_active (l, f, t, now) = some (if ok = true ∧ c.Start ≤ now then (true, c.Rate, 0) else (false, 0, 0)) := by
  unfold packhorselaw22_active plan_Active
  dsimp only
  rw [h]
  cases ok with
  | false => simp [br]
  | true =>
    by_cases hs : now < c.Start
    · have : ¬ c.Start ≤ now := by omega
      simp [br, hs, this]
    · have : c.Start ≤ now := by omega
      simp [br, hs, this]

structure ActR (l : List Contact) (f t now : Int) (c : Contact) (ok is : Bool) (rate : Int) : Prop where
  n : plan_Next (l, f, t, now) = some (c, ok, 0)
  a : packhorselaw22_active (l, f, t, now) = some (is, rate, 0)
  y : is = true → ok = true ∧ c.Start ≤ now ∧ rate = c.Rate ∧ c ∈ l ∧ actv f t now c
  no : is = false → ∀ d ∈ l, ¬ actv f t now d

theorem act_r {l : List Contact} {f t now : Int} (h : Valid l) (hl : l.length ≤ 200) (hn : 0 ≤ now ∧ now ≤ 1099511627776) (hf : 1 ≤ f ∧ f ≤ 16) (ht : 1 ≤ t ∧ t ≤ 16) : ∃ c ok is rate, ActR l f t now c ok is rate := by
  obtain ⟨⟨c, ok, e⟩, h1, h2, h3⟩ := next_w h hl hn hf ht
  dsimp only at h2 h3
  subst h2
  have ha := act_eq h1
  by_cases hk : ok = true ∧ c.Start ≤ now
  · rw [if_pos hk] at ha
    refine ⟨c, ok, true, c.Rate, h1, ha, fun _ => ?_, fun h => by cases h⟩
    rcases h3 with ⟨h3, _⟩ | ⟨_, h4, h5, _⟩
    · rw [hk.1] at h3; cases h3
    · exact ⟨hk.1, hk.2, rfl, h4, h5.1, h5.2.1, hk.2, h5.2.2⟩
  · rw [if_neg hk] at ha
    refine ⟨c, ok, false, 0, h1, ha, fun h => by (cases h), fun _ d hd had => ?_⟩
    rcases h3 with ⟨_, h4⟩ | ⟨h4, _, _, h5⟩
    · exact h4 d hd ⟨had.1, had.2.1, had.2.2.2⟩
    · exact hk ⟨h4, h5 d hd had⟩

theorem act_cnt {l : List Contact} (h : Valid l) (f t now : Int) : ((∀ d ∈ l, ¬ actv f t now d) → (l.filter fun d => decide (actv f t now d)).length = 0) ∧ (∀ c ∈ l, actv f t now c → (l.filter fun d => decide (actv f t now d)).length = 1) := by
  constructor
  · intro hno
    rw [List.length_eq_zero_iff, List.filter_eq_nil_iff]
    intro d hd
    simpa using hno d hd
  · intro c hc ha
    have hm : ∀ d ∈ l.filter (fun d => decide (actv f t now d)), d = c := fun d hd => by
      obtain ⟨h1, h2⟩ := List.mem_filter.1 hd
      exact act_one h h1 hc (by simpa using h2) ha
    have hp := h.asc.filter fun d => decide (actv f t now d)
    have hcm : c ∈ l.filter (fun d => decide (actv f t now d)) := List.mem_filter.2 ⟨hc, by simpa using ha⟩
    generalize l.filter (fun d => decide (actv f t now d)) = m at hm hp hcm
    match m, hm, hp, hcm with
    | [], _, _, h => simp at h
    | [x], _, _, _ => rfl
    | x :: y :: m, hm, hp, _ =>
      have e1 := hm x (by simp)
      have e2 := hm y (by simp)
      have := (List.pairwise_cons.1 hp).1 y (by simp)
      rw [e1, e2, cmpC_lt] at this
      omega

set_option maxHeartbeats 2000000 in
theorem planActive_w {nums more : List Int} (hnl : nums.length ≤ 9223372036854775807) (hml : more.length ≤ 9223372036854775807) (tk : Int) : packhorselaw22_PlanActive (nums, more, tk) = some true := by
  refine W.eq ?_
  unfold packhorselaw22_PlanActive
  dsimp only
  refine W_call (plan_w hnl (by decide)) fun a ⟨ha, hal⟩ => ?_
  refine W_call (plan_w hml (by decide)) fun b ⟨hb, hbl⟩ => ?_
  have hal' : a.length ≤ 200 := by omega
  have hbl' : b.length ≤ 200 := by omega
  refine W_call (mod_w tk) fun now hnow => ?_
  refine W_eq (own_w hal') ?_
  refine W_eq (own_w hbl') ?_
  refine W_call (merge_w ha hal' hb hbl') ?_
  rintro ⟨u, fe⟩ ⟨F, f1, f2, _⟩
  dsimp only
  have hFl := f1.len
  have hfe : fe = 12 ∨ (fe = 0 ∧ Valid u ∧ u.length ≤ 200 ∧ u.Perm F) := by
    rcases f2 with ⟨_, h⟩ | ⟨_, h, _⟩ | ⟨_, h1, h2, h3, h4⟩
    · cases h; exact .inl rfl
    · simp at hFl; omega
    · exact .inr ⟨h4, h2, by rw [h3.length_eq]; exact h1, h3⟩
  clear f2
  refine W_loop (fun f : Int => 1 ≤ f ∧ f ≤ 6) (fun f => 6 - f.toNat) ?_ (by decide)
  intro f hf
  refine W_if (fun hf5 => ?_) fun hf5 => ?_
  rotate_left
  · refine W_done ?_
    dsimp only [Sum.elim]
    rcases hfe with rfl | ⟨rfl, _⟩
    · refine W_if (fun h => absurd h (by decide)) fun _ => ?_
      exact W_if (fun _ => W_eq awake_w (W_ret rfl)) fun h => absurd rfl h
    · exact W_if (fun _ => W_eq awake_w (W_ret rfl)) fun h => absurd rfl h
  refine W_loop (fun t : Int => 1 ≤ t ∧ t ≤ 6) (fun t => 6 - t.toNat) ?_ (by decide)
  intro t ht
  refine W_if (fun ht5 => ?_) fun ht5 => ?_
  rotate_left
  · refine W_done ?_
    dsimp only [Sum.elim]
    exact W_op fun j hj => W_next ⟨by omega, by omega⟩
  obtain ⟨c, ok, is, rate, hA⟩ := act_r ha hal' (now := now) (f := f) (t := t) (by omega) (by omega) (by omega)
  obtain ⟨d, ok2, are, other, hB⟩ := act_r hb hbl' (now := now) (f := f) (t := t) (by omega) (by omega) (by omega)
  refine W_eq hA.a ?_
  refine W_eq hB.a ?_
  dsimp only
  refine W_if (fun h => absurd rfl h) fun _ => ?_
  refine W_if (fun h => absurd rfl h) fun _ => ?_
  refine W_loop (fun s => 0 ≤ s.2 ∧ s.2 ≤ (a.length : Int) ∧ s.1 = (((a.take s.2.toNat).filter fun d => decide (actv f t now d)).length : Int)) (fun s => a.length - s.2.toNat) ?_ ⟨by simp, by simp, by simp⟩
  rintro ⟨m, i⟩ ⟨i1, i2, i3⟩
  dsimp only at i1 i2 i3 ⊢
  refine W_if (fun hi => ?_) fun hi => ?_
  · have hx : a[i.toNat]? = some (a[i.toNat]'(by omega)) := List.getElem?_eq_getElem (by omega)
    generalize a[i.toNat]'(by omega) = x at hx
    have hml2 : m ≤ 200 := by
      rw [i3]
      have := List.length_filter_le (fun d => decide (actv f t now d)) (a.take i.toNat)
      rw [List.length_take] at this
      omega
    have hm0 : 0 ≤ m := by omega
    have ht1 : a.take (i.toNat + 1) = a.take i.toNat ++ [x] := by rw [List.take_add_one, hx]; rfl
    have hyes : actv f t now x → ∀ j : Int, j = i + 1 → (((a.take j.toNat).filter fun d => decide (actv f t now d)).length : Int) = m + 1 := fun h j hj => by
      rw [show j.toNat = i.toNat + 1 by omega, ht1, List.filter_append, i3]
      simp [h]
    have hno : ¬ actv f t now x → ∀ j : Int, j = i + 1 → (((a.take j.toNat).filter fun d => decide (actv f t now d)).length : Int) = m := fun h j hj => by
      rw [show j.toNat = i.toNat + 1 by omega, ht1, List.filter_append, i3]
      simp [h]
    have hi' : idx a i = some x := by unfold idx; rw [if_pos i1]; exact hx
    have nx : ¬ actv f t now x → ∀ j : Int, j = i + 1 → (0 ≤ j ∧ j ≤ (a.length : Int) ∧ m = (((a.take j.toNat).filter fun d => decide (actv f t now d)).length : Int)) ∧ a.length - j.toNat < a.length - i.toNat := fun h j hj => ⟨⟨by omega, by omega, (hno h j hj).symm⟩, by omega⟩
    refine W_eq hi' ?_
    refine W_if (fun h1 => ?_) (fun h1 => W_op fun j hj => W_next (nx (fun h => h1 h.1) j hj))
    refine W_eq hi' ?_
    refine W_if (fun h2 => ?_) (fun h2 => W_op fun j hj => W_next (nx (fun h => h2 h.2.1) j hj))
    refine W_eq hi' ?_
    refine W_if (fun h3 => ?_) (fun h3 => W_op fun j hj => W_next (nx (fun h => h3 h.2.2.1) j hj))
    refine W_eq hi' ?_
    refine W_if (fun h4 => ?_) (fun h4 => W_op fun j hj => W_next (nx (fun h => h4 h.2.2.2) j hj))
    refine W_op fun m' hm' => W_op fun j hj => W_next ⟨⟨by dsimp only; omega, by dsimp only; omega, ?_⟩, by dsimp only; omega⟩
    dsimp only
    rw [hyes ⟨h1, h2, h3, h4⟩ j hj, hm']
  · refine W_done ?_
    rw [List.take_of_length_le (by omega)] at i3
    obtain ⟨k1, k2⟩ := act_cnt ha f t now
    refine W_eq hA.n ?_
    dsimp only
    refine W_if (fun h => absurd rfl h) fun _ => ?_
    have hstep : ∀ j : Int, j = t + 1 → (1 ≤ j ∧ j ≤ 6) ∧ 6 - j.toNat < 6 - t.toNat := fun j hj => ⟨by omega, by omega⟩
    -- what the union has
    have hu : fe = 0 → ∃ c' ok' both most, ActR u f t now c' ok' both most ∧ both = (is || are) ∧ (both = true → most = rate ∧ is = true ∨ most = other ∧ are = true) := by
      intro h0
      rcases hfe with h | ⟨_, hv, hlu, hp⟩
      · rw [h0] at h; cases h
      obtain ⟨c', ok', both, most, hU⟩ := act_r hv hlu (now := now) (f := f) (t := t) (by omega) (by omega) (by omega)
      refine ⟨c', ok', both, most, hU, ?_, fun hb' => ?_⟩
      · rw [Bool.eq_iff_iff, Bool.or_eq_true]
        constructor
        · intro hb'
          obtain ⟨_, _, _, hm, hac⟩ := hU.y hb'
          obtain ⟨z, hz, zs, z1, z2⟩ := (f1.cov c' now).1 ⟨c', hp.mem_iff.1 hm, sameC_refl _, hac.2.2.1, hac.2.2.2⟩
          have hza : actv f t now z := ⟨zs.1.trans hac.1, zs.2.1.trans hac.2.1, z1, z2⟩
          rcases List.mem_append.1 hz with hz | hz
          · left
            cases his : is with
            | true => rfl
            | false => exact absurd hza (hA.no his z hz)
          · right
            cases his : are with
            | true => rfl
            | false => exact absurd hza (hB.no his z hz)
        · intro hor
          have : ∃ z ∈ a ++ b, actv f t now z := by
            rcases hor with h | h
            · obtain ⟨_, _, _, hm, hac⟩ := hA.y h
              exact ⟨c, by simp [hm], hac⟩
            · obtain ⟨_, _, _, hm, hac⟩ := hB.y h
              exact ⟨d, by simp [hm], hac⟩
          obtain ⟨z, hz, hza⟩ := this
          obtain ⟨y, hy, ys, y1, y2⟩ := (f1.cov z now).2 ⟨z, hz, sameC_refl _, hza.2.2.1, hza.2.2.2⟩
          cases his : both with
          | true => rfl
          | false => exact absurd (show actv f t now y from ⟨ys.1.trans hza.1, ys.2.1.trans hza.2.1, y1, y2⟩) (hU.no his y (hp.mem_iff.2 hy))
      · obtain ⟨_, _, hr, hm, hac⟩ := hU.y hb'
        obtain ⟨z, hz, zs, z1, z2⟩ := (f1.cov c' now).1 ⟨c', hp.mem_iff.1 hm, sameC_refl _, hac.2.2.1, hac.2.2.2⟩
        have hza : actv f t now z := ⟨zs.1.trans hac.1, zs.2.1.trans hac.2.1, z1, z2⟩
        rcases List.mem_append.1 hz with hz | hz
        · left
          cases his : is with
          | false => exact absurd hza (hA.no his z hz)
          | true =>
            obtain ⟨_, _, hr2, hm2, hac2⟩ := hA.y his
            have := act_one ha hz hm2 hza hac2
            subst this
            exact ⟨by rw [hr, hr2]; exact zs.2.2.1.symm, rfl⟩
        · right
          cases his : are with
          | false => exact absurd hza (hB.no his z hz)
          | true =>
            obtain ⟨_, _, hr2, hm2, hac2⟩ := hB.y his
            have := act_one hb hz hm2 hza hac2
            subst this
            exact ⟨by rw [hr, hr2]; exact zs.2.2.1.symm, rfl⟩
    cases his : is with
    | true =>
      obtain ⟨hok, hst, hrt, hcm, hca⟩ := hA.y his
      have hm1 : m = 1 := by rw [i3, k2 c hcm hca]; rfl
      subst hm1
      refine W_if (fun h => absurd h (by decide)) fun _ => ?_
      refine W_brnot (W_brT ?_)
      refine W_brT ?_
      rw [hok]
      refine W_brnot (W_brT ?_)
      refine W_if (fun h => by omega) fun _ => ?_
      refine W_if (fun h => absurd hrt.symm h) fun _ => ?_
      refine W_if (fun h0 => W_op fun j hj => W_next (hstep j hj)) fun h0 => ?_
      obtain ⟨c', ok', both, most, hU, hbo, hmo⟩ := hu (Classical.not_not.1 h0)
      rw [his, Bool.true_or] at hbo
      subst hbo
      refine W_eq hU.a ?_
      dsimp only
      refine W_if (fun h => absurd rfl h) fun _ => ?_
      refine W_brT ?_
      refine W_brnot (W_brT ?_)
      refine W_brT ?_
      refine W_if (fun h1 => ?_) fun _ => W_op fun j hj => W_next (hstep j hj)
      refine W_if (fun h2 => ?_) fun _ => W_op fun j hj => W_next (hstep j hj)
      rcases hmo rfl with ⟨h, _⟩ | ⟨h, _⟩
      · exact absurd h h1
      · exact absurd h h2
    | false =>
      have hm1 : m = 0 := by rw [i3, k1 (hA.no his)]; rfl
      subst hm1
      refine W_if (fun h => absurd h (by decide)) fun _ => ?_
      refine W_brnot (W_brT ?_)
      refine W_brF ?_
      refine W_if (fun h0 => W_op fun j hj => W_next (hstep j hj)) fun h0 => ?_
      obtain ⟨c', ok', both, most, hU, hbo, hmo⟩ := hu (Classical.not_not.1 h0)
      rw [his, Bool.false_or] at hbo
      subst hbo
      refine W_eq hU.a ?_
      dsimp only
      refine W_if (fun h => absurd rfl h) fun _ => ?_
      refine W_brF ?_
      have hself : (both == both) = true := by simp
      rw [hself]
      refine W_brnot (W_brT ?_)
      cases hbt : both with
      | false => exact W_brF (W_op fun j hj => W_next (hstep j hj))
      | true =>
        refine W_brT ?_
        refine W_if (fun h1 => ?_) fun _ => W_op fun j hj => W_next (hstep j hj)
        refine W_if (fun h2 => ?_) fun _ => W_op fun j hj => W_next (hstep j hj)
        rcases hmo hbt with ⟨h, _⟩ | ⟨h, _⟩
        · exact absurd h h1
        · exact absurd h h2
end Go.Proofs.Ytjcbpfhlgebgdaa
