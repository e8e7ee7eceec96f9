import Derived.Test.YtjcbpfhlgebgdaaPX
set_option linter.unusedSimpArgs false
set_option linter.unusedVariables false
namespace Go.Proofs.Ytjcbpfhlgebgdaa
open Go.X Go.Eng
theorem nodes_s (l : List Int) (hl : l.length ≤ 100) : W (plan_nodes l) fun r => (r = true ∧ ∀ x ∈ l, 1 ≤ x ∧ x ≤ 16) ∨ (r = false ∧ ¬ ∀ x ∈ l, 1 ≤ x ∧ x ≤ 16) := by
  unfold plan_nodes
  refine W_loop (fun i : Int => 0 ≤ i ∧ i ≤ (l.length : Int) ∧ ∀ x ∈ l.take i.toNat, 1 ≤ x ∧ x ≤ 16) (fun i => l.length - i.toNat) ?_ ⟨by omega, by omega, by simp⟩
  intro i hi
  (first | refine W_op fun _ _ => ?_ | refine W_if ?_ ?_ <;> intro _ <;> try (exfalso; omega))
  · refine W_idx (by omega) (by omega) fun x hx => ?_
    have hm := List.mem_of_getElem? hx
    refine W_if (fun h => W_done (W_ret (.inr ⟨rfl, fun q => ?_⟩))) fun h => ?_
    · have := q x hm; omega
    refine W_if (fun h => W_done (W_ret (.inr ⟨rfl, fun q => ?_⟩))) fun h2 => ?_
    · have := q x hm; omega
    refine W_op fun j hj => W_next ⟨⟨by omega, by omega, fun y hy => ?_⟩, by omega⟩
    rw [show j.toNat = i.toNat + 1 from by omega, List.take_add_one, hx] at hy
    rcases List.mem_append.1 hy with hy | hy
    · exact hi.2.2 y hy
    · simp at hy; subst hy; omega
  · refine W_done (W_ret (.inl ⟨rfl, ?_⟩))
    have := hi.2.2
    rwa [List.take_of_length_le (by omega)] at this
theorem one_s (c : Contact) : W (plan_One c) fun r => (r = 0 ∧ OKC c) ∨ (r = 2 ∧ ¬ OKC c) := by
  unfold plan_One
  refine W_call (nodes_s _ (by simp)) fun r hr => ?_
  have no : ¬ OKC c → W (some (2 : Int)) fun r => (r = 0 ∧ OKC c) ∨ (r = 2 ∧ ¬ OKC c) := fun h => W_ret (.inr ⟨rfl, h⟩)
  rcases hr with ⟨rfl, hr⟩ | ⟨rfl, hr⟩
  · refine W_brnot (W_brT ?_)
    have h1 := hr c.From (by simp); have h2 := hr c.To (by simp)
    refine W_if (fun h => no fun k => k.ne h) fun q1 => ?_
    refine W_if (fun h => no fun k => by have := k.s; omega) fun q2 => ?_
    refine W_if (fun h => no fun k => by have := k.s; omega) fun q3 => ?_
    refine W_if (fun h => no fun k => by have := k.s; omega) fun q4 => ?_
    refine W_if (fun h => no fun k => by have := k.r; omega) fun q5 => ?_
    refine W_if (fun h => no fun k => by have := k.r; omega) fun q6 => ?_
    refine W_if (fun h => no fun k => by have := k.d; omega) fun q7 => ?_
    refine W_if (fun h => no fun k => by have := k.d; omega) fun q8 => ?_
    exact W_ret (.inl ⟨rfl, ⟨h1, h2, q1, by omega, by omega, by omega⟩⟩)
  · refine W_brnot (W_brF ?_)
    refine no fun k => hr fun x hx => ?_
    simp at hx
    rcases hx with rfl | rfl
    · exact k.f
    · exact k.t
theorem rone_s (c : Contact) : W (packhorseref22_One c) fun r => (r = 0 ∧ OKC c) ∨ (r = 2 ∧ ¬ OKC c) := by
  unfold packhorseref22_One
  have no : ¬ OKC c → W (some (2 : Int)) fun r => (r = 0 ∧ OKC c) ∨ (r = 2 ∧ ¬ OKC c) := fun h => W_ret (.inr ⟨rfl, h⟩)
  refine W_if (fun h => no fun k => by have := k.f; omega) fun q1 => ?_
  refine W_if (fun h => no fun k => by have := k.f; omega) fun q2 => ?_
  refine W_if (fun h => no fun k => by have := k.t; omega) fun q3 => ?_
  refine W_if (fun h => no fun k => by have := k.t; omega) fun q4 => ?_
  refine W_if (fun h => no fun k => k.ne h) fun q5 => ?_
  refine W_if (fun h => no fun k => by have := k.s; omega) fun q6 => ?_
  refine W_if (fun h => no fun k => by have := k.s; omega) fun q7 => ?_
  refine W_if (fun h => no fun k => by have := k.s; omega) fun q8 => ?_
  refine W_if (fun h => no fun k => by have := k.r; omega) fun q9 => ?_
  refine W_if (fun h => no fun k => by have := k.r; omega) fun q10 => ?_
  refine W_if (fun h => no fun k => by have := k.d; omega) fun q11 => ?_
  refine W_if (fun h => no fun k => by have := k.d; omega) fun q12 => ?_
  exact W_ret (.inl ⟨rfl, ⟨by omega, by omega, q5, by omega, by omega, by omega⟩⟩)
theorem before_s (a b : Contact) : packhorseref22_before (a, b) = some (decide (cmpC a b < 0)) := by
  refine W.eq ?_
  unfold packhorseref22_before
  refine W_if (fun h => W_ret ?_) fun h => W_if (fun h2 => W_ret ?_) fun h2 => W_ret ?_
  all_goals
    rw [Bool.eq_iff_iff]
    simp only [decide_eq_true_eq, cmpC_lt]
    omega
theorem pair_s (a b : Contact) : packhorseref22_pair (a, b) = some (decide (a.From = b.From ∧ a.To = b.To)) := by
  refine W.eq ?_
  unfold packhorseref22_pair
  refine W_if (fun h => W_ret ?_) fun h => W_ret ?_
  · simp [h]; rfl
  · simp [h]
def BadAt (l : List Contact) (i : Nat) (e : Int) : Prop := ∃ x, l[i]? = some x ∧ Valid (l.take i) ∧
  ((e = 2 ∧ ¬ OKC x) ∨ (e = 19 ∧ OKC x ∧ ∃ y, 0 < i ∧ l[i - 1]? = some y ∧ ¬ cmpC y x < 0) ∨
    (e = 12 ∧ OKC x ∧ (∀ y, 0 < i → l[i - 1]? = some y → cmpC y x < 0) ∧ ∃ c ∈ l.take i, c.From = x.From ∧ c.To = x.To ∧ x.Start < c.End))
def CR (l : List Contact) (r : Int × Int) : Prop :=
  (200 < l.length ∧ r = (5, 0)) ∨ (l.length ≤ 200 ∧ Valid l ∧ r = (0, 0)) ∨ (l.length ≤ 200 ∧ ∃ i : Nat, r.2 = i ∧ BadAt l i r.1)
theorem Valid.take {l : List Contact} (h : Valid l) (i : Nat) : Valid (l.take i) :=
  ⟨fun c hc => h.ok c (List.mem_of_mem_take hc), h.asc.sublist (List.take_sublist i l), h.ap.sublist (List.take_sublist i l)⟩
theorem valid_snoc {l : List Contact} {i : Nat} {x : Contact} (hx : l[i]? = some x) : Valid (l.take (i + 1)) ↔ Valid (l.take i) ∧ OKC x ∧ (∀ y, 0 < i → l[i - 1]? = some y → cmpC y x < 0) ∧ ∀ c ∈ l.take i, c.From = x.From → c.To = x.To → c.End ≤ x.Start := by
  have e : l.take (i + 1) = l.take i ++ [x] := by rw [List.take_add_one, hx]; rfl
  have hil := (List.getElem?_eq_some_iff.1 hx).1
  rw [e]
  constructor
  · rintro ⟨h1, h2, h3⟩
    rw [List.pairwise_append] at h2 h3
    have hox : OKC x := h1 x (by simp)
    refine ⟨⟨fun c hc => h1 c (by simp [hc]), h2.1, h3.1⟩, hox, fun y hi hy => ?_, fun c hc p1 p2 => ?_⟩
    · refine h2.2.2 y ?_ x (by simp)
      refine List.mem_iff_getElem?.2 ⟨i - 1, ?_⟩
      rw [List.getElem?_take, if_pos (by omega)]; exact hy
    · have q1 := h2.2.2 c hc x (by simp)
      have q2 := h3.2.2 c hc x (by simp) p1 p2
      have q3 := hox.s
      have q4 := (h1 c (by simp [hc])).s
      rw [cmpC_lt] at q1
      omega
  · rintro ⟨⟨h1, h2, h3⟩, h4, h5, h6⟩
    have low : ∀ c ∈ l.take i, cmpC c x < 0 := by
      intro c hc
      obtain ⟨j, hj⟩ := List.mem_iff_getElem?.1 hc
      rw [List.getElem?_take] at hj
      split at hj
      case isFalse => cases hj
      rename_i hji
      have hl1 : i - 1 < l.length := by omega
      have q := h5 l[i - 1] (by omega) (List.getElem?_eq_getElem hl1)
      by_cases hj1 : j = i - 1
      · subst hj1
        rw [List.getElem?_eq_getElem hl1] at hj
        cases hj
        exact q
      · have hjl : j < (l.take i).length := by simp; omega
        have hil' : i - 1 < (l.take i).length := by simp; omega
        have := List.pairwise_iff_getElem.1 h2 j (i - 1) hjl hil' (by omega)
        rw [List.getElem_take, List.getElem_take] at this
        have hc' : l[j] = c := (List.getElem?_eq_some_iff.1 hj).2
        rw [hc'] at this
        exact cmpC_trans this q
    refine ⟨fun c hc => ?_, ?_, ?_⟩
    · rcases List.mem_append.1 hc with hc | hc
      · exact h1 c hc
      · simp at hc; subst hc; exact h4
    · rw [List.pairwise_append]
      exact ⟨h2, by simp, fun a ha b hb => by simp at hb; subst hb; exact low a ha⟩
    · rw [List.pairwise_append]
      exact ⟨h3, by simp, fun a ha b hb => by simp at hb; subst hb; exact fun p1 p2 => .inl (h6 a ha p1 p2)⟩
theorem BadAt.no {l : List Contact} {i : Nat} {e : Int} (h : BadAt l i e) {k : Nat} (hk : i < k) : ¬ Valid (l.take k) := by
  obtain ⟨x, hx, _, h⟩ := h
  intro hv
  have hv' := hv.take (i + 1)
  rw [List.take_take, Nat.min_eq_left (by omega)] at hv'
  obtain ⟨h1, h2, h3, h4⟩ := (valid_snoc hx).1 hv'
  rcases h with ⟨_, h⟩ | ⟨_, _, y, h, hy, hc⟩ | ⟨_, _, _, c, hc, p1, p2, p3⟩
  · exact h h2
  · exact hc (h3 y h hy)
  · have := h4 c hc p1 p2; omega
theorem CR.det {l : List Contact} {r r' : Int × Int} (h : CR l r) (h' : CR l r') : r = r' := by
  have bad : ∀ {i : Nat} {e : Int}, BadAt l i e → ¬ Valid l := fun {i e} hb hv => by
    obtain ⟨x, hx, _⟩ := id hb
    have hil := (List.getElem?_eq_some_iff.1 hx).1
    exact hb.no (k := l.length) hil (by rw [List.take_length]; exact hv)
  rcases h with ⟨h1, rfl⟩ | ⟨h1, h2, rfl⟩ | ⟨h1, i, hi, hb⟩ <;> rcases h' with ⟨k1, rfl⟩ | ⟨k1, k2, rfl⟩ | ⟨k1, j, hj, kb⟩
  · rfl
  · omega
  · omega
  · omega
  · rfl
  · exact absurd h2 (bad kb)
  · omega
  · exact absurd k2 (bad hb)
  · have hij : i = j := by
      rcases Nat.lt_trichotomy i j with q | q | q
      · obtain ⟨x, _, hv, _⟩ := id kb; exact absurd hv (hb.no q)
      · exact q
      · obtain ⟨x, _, hv, _⟩ := id hb; exact absurd hv (kb.no q)
    subst hij
    obtain ⟨x, hx, _, h⟩ := hb
    obtain ⟨x', hx', _, k⟩ := kb
    rw [hx] at hx'; cases hx'
    have he : r.1 = r'.1 := by
      rcases h with ⟨a1, a2⟩ | ⟨a1, a2, y, a3, a4, a5⟩ | ⟨a1, a2, a3, _⟩ <;> rcases k with ⟨b1, b2⟩ | ⟨b1, b2, z, b3, b4, b5⟩ | ⟨b1, b2, b3, _⟩
      · omega
      · exact absurd b2 a2
      · exact absurd b2 a2
      · exact absurd a2 b2
      · omega
      · exact absurd (b3 y a3 a4) a5
      · exact absurd a2 b2
      · exact absurd (a3 z b3 b4) b5
      · omega
    exact Prod.ext he (hi.trans hj.symm)
structure MInv (d : List Contact) (m : List (Pair × Int)) : Prop where
  key : ∀ e ∈ m, kinC .Pair e.1 = true
  up : ∀ c ∈ d, ∃ e, aget m (⟨c.From, c.To⟩ : Pair) = some e ∧ c.End ≤ e
  of : ∀ p e, aget m p = some e → ∃ c ∈ d, (⟨c.From, c.To⟩ : Pair) = p ∧ c.End = e
theorem check_s (l : List Contact) : W (plan_Check l) (CR l) := by
  unfold plan_Check
  refine W_if (fun h => W_ret (.inl ⟨by omega, rfl⟩)) fun hlen => ?_
  refine W_loop (fun s => 0 ≤ s.1 ∧ s.1 ≤ (l.length : Int) ∧ Valid (l.take s.1.toNat) ∧ MInv (l.take s.1.toNat) s.2) (fun s => l.length - s.1.toNat) ?_
    ⟨by simp, by simp, ⟨by simp, by simp, by simp⟩, ⟨by simp, by simp, fun p e h => by simp [aget] at h⟩⟩
  rintro ⟨i, m⟩ ⟨i1, i2, i3, i4⟩
  dsimp only at i1 i2 i3 i4 ⊢
  have hlen' : l.length ≤ 200 := by omega
  refine W_if (fun hi => ?_) fun hi => ?_
  rotate_left
  · refine W_done (W_ret (.inr (.inl ⟨hlen', ?_, rfl⟩)))
    rwa [List.take_of_length_le (by omega)] at i3
  refine W_idx (by omega) (by omega) fun x hx => ?_
  refine W_call (one_s x) fun r hr => ?_
  rcases hr with ⟨rfl, hok⟩ | ⟨rfl, hok⟩
  rotate_left
  · refine W_if (fun _ => W_done (W_ret (.inr (.inr ⟨hlen', i.toNat, by dsimp only; omega, x, hx, i3, .inl ⟨rfl, hok⟩⟩)))) fun h => absurd (by decide) h
  refine W_if (fun h => absurd rfl h) fun _ => ?_
  have hs := hok.s
  have fin : (∀ y, 0 < i.toNat → l[i.toNat - 1]? = some y → cmpC y x < 0) → W ((plan_of x).bind fun x_9 => (mget (α := Pair) (β := Int) (kinC .Pair) m x_9).bind fun x_10 => br (decide (x.Start < (x_10.getD (0 : Int)))) (some (.done (.inl ((12 : Int), i, m))))
        ((plan_of x).bind fun x_11 => (mput (α := Pair) (β := Int) (kinC .Pair) m x_11 x.End).bind fun x_12 => (addI .i64 i (1 : Int)).bind fun x_13 => some (.next (x_13, x_12)))) (fun (r : Step (Int × List (Pair × Int)) ((Int × Int × List (Pair × Int)) ⊕ List (Pair × Int))) => match r with
        | .next s => (0 ≤ s.1 ∧ s.1 ≤ (l.length : Int) ∧ Valid (l.take s.1.toNat) ∧ MInv (l.take s.1.toNat) s.2) ∧ l.length - s.1.toNat < l.length - i.toNat
        | .done r => r = .inl ((12 : Int), i, m) ∧ CR l (12, i)) := by
    intro hasc
    have hp : plan_of x = some (⟨x.From, x.To⟩ : Pair) := rfl
    refine W_eq hp ?_
    refine W_eq (mget_w (kin_pair hok) i4.key) ?_
    refine W_if (fun hlt => ?_) (fun hlt => ?_)
    · refine W_done ⟨rfl, .inr (.inr ⟨hlen', i.toNat, by dsimp only; omega, x, hx, i3, .inr (.inr ⟨rfl, hok, hasc, ?_⟩)⟩)⟩
      cases hq : aget m (⟨x.From, x.To⟩ : Pair) with
      | none => rw [hq] at hlt; simp at hlt; omega
      | some e =>
        rw [hq] at hlt
        obtain ⟨c, hc, hcp, hce⟩ := i4.of _ e hq
        simp only [Pair.mk.injEq] at hcp
        simp at hlt
        exact ⟨c, hc, hcp.1, hcp.2, by omega⟩
    · refine W_eq hp ?_
      refine W_eq (mput_w (kin_pair hok) i4.key) ?_
      have hle : ∀ c ∈ l.take i.toNat, c.From = x.From → c.To = x.To → c.End ≤ x.Start := by
        intro c hc p1 p2
        obtain ⟨e, he, hce⟩ := i4.up c hc
        rw [p1, p2] at he
        rw [he] at hlt
        simp at hlt
        omega
      have hval := (valid_snoc hx).2 ⟨i3, hok, hasc, hle⟩
      refine W_op fun j hj => W_next ⟨⟨by dsimp only; omega, by dsimp only; omega, ?_, ?_⟩, by dsimp only; omega⟩
      · dsimp only
        rw [show j.toNat = i.toNat + 1 from by omega]
        exact hval
      · dsimp only
        have ht : l.take (i.toNat + 1) = l.take i.toNat ++ [x] := by rw [List.take_add_one, hx]; rfl
        rw [show j.toNat = i.toNat + 1 from by omega, ht]
        refine ⟨fun e he => ?_, fun c hc => ?_, fun p e he => ?_⟩
        · rcases mem_aput he with he | rfl
          · exact i4.key e he
          · exact kin_pair hok
        · rw [aget_aput]
          rcases List.mem_append.1 hc with hc | hc
          · split
            · rename_i heq
              simp only [Pair.mk.injEq] at heq
              exact ⟨_, rfl, by have := hle c hc heq.1.symm heq.2.symm; omega⟩
            · exact i4.up c hc
          · simp at hc; subst hc
            rw [if_pos rfl]
            exact ⟨_, rfl, Int.le_refl _⟩
        · rw [aget_aput] at he
          split at he
          · rename_i heq
            cases he
            exact ⟨x, by simp, heq, rfl⟩
          · obtain ⟨c, hc, q⟩ := i4.of p e he
            exact ⟨c, by simp [hc], q⟩
  refine W_if (fun h0 => ?_) fun h0 => ?_
  · refine W_op fun k hk => ?_
    refine W_idx (by omega) (by omega) fun y hy => ?_
    have hy' : l[i.toNat - 1]? = some y := by rw [← hy]; congr 1; omega
    refine W_eq (compare_w y x) ?_
    refine W_if (fun hge => ?_) (fun hge => ?_)
    · exact W_done (W_ret (.inr (.inr ⟨hlen', i.toNat, by dsimp only; omega, x, hx, i3, .inr (.inl ⟨rfl, hok, y, by omega, hy', by omega⟩)⟩)))
    · refine (fin fun z _ hz => by rw [hy'] at hz; cases hz; omega).mono fun r hr => ?_
      cases r with
      | next s => exact hr
      | done r =>
        obtain ⟨rfl, hc⟩ := hr
        exact W_ret hc
  · refine (fin fun z hz => by omega).mono fun r hr => ?_
    cases r with
    | next s => exact hr
    | done r =>
      obtain ⟨rfl, hc⟩ := hr
      exact W_ret hc
theorem rcheck_s (l : List Contact) : W (packhorseref22_Check l) (CR l) := by
  unfold packhorseref22_Check
  refine W_if (fun h => W_ret (.inl ⟨by omega, rfl⟩)) fun hlen => ?_
  refine W_loop (fun s : Int => 0 ≤ s ∧ s ≤ (l.length : Int) ∧ Valid (l.take s.toNat)) (fun s => l.length - s.toNat) ?_ ⟨by simp, by simp, ⟨by simp, by simp, by simp⟩⟩
  rintro i ⟨i1, i2, i3⟩
  have hlen' : l.length ≤ 200 := by omega
  refine W_if (fun hi => ?_) fun hi => ?_
  rotate_left
  · refine W_done (W_ret (.inr (.inl ⟨hlen', ?_, rfl⟩)))
    rwa [List.take_of_length_le (by omega)] at i3
  refine W_idx (by omega) (by omega) fun x hx => ?_
  refine W_call (rone_s x) fun r hr => ?_
  rcases hr with ⟨rfl, hok⟩ | ⟨rfl, hok⟩
  rotate_left
  · refine W_if (fun _ => W_done (W_ret (.inr (.inr ⟨hlen', i.toNat, by dsimp only; omega, x, hx, i3, .inl ⟨rfl, hok⟩⟩)))) fun h => absurd (by decide) h
  refine W_if (fun h => absurd rfl h) fun _ => ?_
  refine W_if (fun h0 => ?_) fun h0 => ?_
  · refine W_op fun k hk => ?_
    refine W_idx (by omega) (by omega) fun y hy => ?_
    have hy' : l[i.toNat - 1]? = some y := by rw [← hy]; congr 1; omega
    refine W_idx (by omega) (by omega) fun x' hx' => ?_
    rw [hx] at hx'; cases hx'
    refine W_eq (before_s y x) ?_
    refine W_if (fun hge => ?_) (fun hge => ?_)
    · exact W_done (W_ret (.inr (.inr ⟨hlen', i.toNat, by dsimp only; omega, x, hx, i3, .inr (.inl ⟨rfl, hok, y, by omega, hy', by omega⟩)⟩)))
    · have hasc : ∀ z, 0 < i.toNat → l[i.toNat - 1]? = some z → cmpC z x < 0 := fun z _ hz => by rw [hy'] at hz; cases hz; omega
      refine W_loop (fun k : Int => 0 ≤ k ∧ k ≤ i ∧ ∀ c ∈ l.take k.toNat, c.From = x.From → c.To = x.To → c.End ≤ x.Start) (fun k => i.toNat - k.toNat) ?_ ⟨by simp, by omega, by simp⟩
      rintro k ⟨k1, k2, k3⟩
      refine W_if (fun hk => ?_) fun hk => ?_
      rotate_left
      · refine W_done ?_
        have hki : k = i := by omega
        subst hki
        refine W_op fun j hj => W_next ⟨⟨by omega, by omega, ?_⟩, by omega⟩
        rw [show j.toNat = k.toNat + 1 from by omega]
        exact (valid_snoc hx).2 ⟨i3, hok, hasc, k3⟩
      refine W_idx (by omega) (by omega) fun y hy => ?_
      refine W_idx (by omega) (by omega) fun x' hx' => ?_
      rw [hx] at hx'; cases hx'
      refine W_eq (pair_s y x) ?_
      have hyt : y ∈ l.take i.toNat := List.mem_iff_getElem?.2 ⟨k.toNat, by rw [List.getElem?_take, if_pos (by omega)]; exact hy⟩
      have hnext : (y.From = x.From → y.To = x.To → y.End ≤ x.Start) → ∀ c ∈ l.take (k.toNat + 1), c.From = x.From → c.To = x.To → c.End ≤ x.Start := by
        intro h c hc
        rw [List.take_add_one, hy] at hc
        rcases List.mem_append.1 hc with hc | hc
        · exact k3 c hc
        · simp at hc; subst hc; exact h
      refine W_if (fun hp => ?_) (fun hp => ?_)
      · refine W_idx (by omega) (by omega) fun y' hy' => ?_
        rw [hy] at hy'; cases hy'
        refine W_idx (by omega) (by omega) fun x' hx' => ?_
        rw [hx] at hx'; cases hx'
        refine W_if (fun hlt => ?_) (fun hlt => ?_)
        · exact W_done (W_done (W_ret (.inr (.inr ⟨hlen', i.toNat, by dsimp only; omega, x, hx, i3, .inr (.inr ⟨rfl, hok, hasc, y, hyt, hp.1, hp.2, hlt⟩)⟩))))
        · refine W_op fun j hj => W_next ⟨⟨by omega, by omega, ?_⟩, by omega⟩
          rw [show j.toNat = k.toNat + 1 from by omega]
          exact hnext fun _ _ => by omega
      · refine W_op fun j hj => W_next ⟨⟨by omega, by omega, ?_⟩, by omega⟩
        rw [show j.toNat = k.toNat + 1 from by omega]
        exact hnext fun p1 p2 => absurd ⟨p1, p2⟩ hp
  · have hasc : ∀ z, 0 < i.toNat → l[i.toNat - 1]? = some z → cmpC z x < 0 := fun z hz => by omega
    refine W_loop (fun k : Int => 0 ≤ k ∧ k ≤ i ∧ ∀ c ∈ l.take k.toNat, c.From = x.From → c.To = x.To → c.End ≤ x.Start) (fun k => i.toNat - k.toNat) ?_ ⟨by simp, by omega, by simp⟩
    rintro k ⟨k1, k2, k3⟩
    refine W_if (fun hk => ?_) fun hk => ?_
    rotate_left
    · refine W_done ?_
      have hki : k = i := by omega
      subst hki
      refine W_op fun j hj => W_next ⟨⟨by omega, by omega, ?_⟩, by omega⟩
      rw [show j.toNat = k.toNat + 1 from by omega]
      exact (valid_snoc hx).2 ⟨i3, hok, hasc, k3⟩
    refine W_idx (by omega) (by omega) fun y hy => ?_
    refine W_idx (by omega) (by omega) fun x' hx' => ?_
    rw [hx] at hx'; cases hx'
    refine W_eq (pair_s y x) ?_
    have hyt : y ∈ l.take i.toNat := List.mem_iff_getElem?.2 ⟨k.toNat, by rw [List.getElem?_take, if_pos (by omega)]; exact hy⟩
    have hnext : (y.From = x.From → y.To = x.To → y.End ≤ x.Start) → ∀ c ∈ l.take (k.toNat + 1), c.From = x.From → c.To = x.To → c.End ≤ x.Start := by
      intro h c hc
      rw [List.take_add_one, hy] at hc
      rcases List.mem_append.1 hc with hc | hc
      · exact k3 c hc
      · simp at hc; subst hc; exact h
    refine W_if (fun hp => ?_) (fun hp => ?_)
    · refine W_idx (by omega) (by omega) fun y' hy' => ?_
      rw [hy] at hy'; cases hy'
      refine W_idx (by omega) (by omega) fun x' hx' => ?_
      rw [hx] at hx'; cases hx'
      refine W_if (fun hlt => ?_) (fun hlt => ?_)
      · exact W_done (W_done (W_ret (.inr (.inr ⟨hlen', i.toNat, by dsimp only; omega, x, hx, i3, .inr (.inr ⟨rfl, hok, hasc, y, hyt, hp.1, hp.2, hlt⟩)⟩))))
      · refine W_op fun j hj => W_next ⟨⟨by omega, by omega, ?_⟩, by omega⟩
        rw [show j.toNat = k.toNat + 1 from by omega]
        exact hnext fun _ _ => by omega
    · refine W_op fun j hj => W_next ⟨⟨by omega, by omega, ?_⟩, by omega⟩
      rw [show j.toNat = k.toNat + 1 from by omega]
      exact hnext fun p1 p2 => absurd ⟨p1, p2⟩ hp
end Go.Proofs.Ytjcbpfhlgebgdaa
namespace Go.Proofs.Ytjcbpfhlgebgdaa
open Go.X Go.Eng
def SR (l : List Contact) (r : List Contact × Int) : Prop :=
  (200 < l.length ∧ r = ([], 5)) ∨ (l.length ≤ 200 ∧ (¬ ∀ c ∈ l, OKC c) ∧ r = ([], 2)) ∨
  (l.length ≤ 200 ∧ (∀ c ∈ l, OKC c) ∧ ¬ l.Pairwise apartC ∧ r = ([], 12)) ∨ (l.length ≤ 200 ∧ (∀ c ∈ l, OKC c) ∧ l.Pairwise apartC ∧ Valid r.1 ∧ r.1.Perm l ∧ r.2 = 0)
def Asc (l : List Contact) : Prop := l.Pairwise fun a b => ¬ cmpC b a < 0
theorem insert_s {l : List Contact} {c : Contact} (h : Asc l) (hl : l.length ≤ 1000) : W (packhorseref22_insert (l, c)) fun r => Asc r ∧ r.Perm (c :: l) := by
  unfold packhorseref22_insert
  dsimp only
  refine W_loop (fun a : Int => 0 ≤ a ∧ a ≤ (l.length : Int) ∧ ∀ (j : Nat) x, a.toNat ≤ j → l[j]? = some x → cmpC c x < 0) (fun a => a.toNat) ?_ ⟨by omega, by omega, fun j x hj hx => by
    have := (List.getElem?_eq_some_iff.1 hx).1; omega⟩
  rintro a ⟨a1, a2, a3⟩
  have fin : (∀ (j : Nat) x, j < a.toNat → l[j]? = some x → ¬ cmpC c x < 0) → W ((slc l (0 : Int) a).bind fun x_9 => (app 48 ([] : List Contact) x_9).bind fun x_10 => (app 48 x_10 ([c] : List Contact)).bind fun x_11 => (slc l a (l.length : Int)).bind fun x_12 => (app 48 x_11 x_12).bind fun x_13 => some x_13)
      (fun r => Asc r ∧ r.Perm (c :: l)) := by
    intro low
    have e1 : slc l (0 : Int) a = some (l.take a.toNat) := by unfold slc; rw [if_pos (by omega)]; simp
    have e2 : slc l a (l.length : Int) = some (l.drop a.toNat) := by unfold slc; rw [if_pos (by omega)]; simp
    refine W_eq e1 ?_
    refine W_app (by simp; omega) ?_
    refine W_app (by simp; omega) ?_
    refine W_eq e2 ?_
    refine W_app (by simp; omega) (W_ret ?_)
    rw [List.nil_append]
    have hsplit := List.take_append_drop a.toNat l
    have hp : (l.take a.toNat ++ [c] ++ l.drop a.toNat).Perm (c :: l) := by
      have q : (l.take a.toNat ++ c :: l.drop a.toNat).Perm (c :: (l.take a.toNat ++ l.drop a.toNat)) := List.perm_middle
      rw [hsplit] at q
      simpa using q
    refine ⟨?_, hp⟩
    unfold Asc at h ⊢
    rw [← hsplit, List.pairwise_append] at h
    obtain ⟨q1, q2, q3⟩ := h
    have lo : ∀ x ∈ l.take a.toNat, ¬ cmpC c x < 0 := by
      intro x hx
      obtain ⟨j, hj⟩ := List.mem_iff_getElem?.1 hx
      rw [List.getElem?_take] at hj
      split at hj
      · exact low j x (by assumption) hj
      · cases hj
    have hi : ∀ x ∈ l.drop a.toNat, cmpC c x < 0 := by
      intro x hx
      obtain ⟨j, hj⟩ := List.mem_iff_getElem?.1 hx
      rw [List.getElem?_drop] at hj
      exact a3 _ x (by omega) hj
    rw [List.pairwise_append, List.pairwise_append]
    refine ⟨⟨q1, by simp, fun x hx y hy => by simp at hy; subst hy; exact lo x hx⟩, q2, fun x hx y hy => ?_⟩
    rcases List.mem_append.1 hx with hx | hx
    · exact q3 x hx y hy
    · simp at hx; subst hx
      have := hi y hy
      rw [cmpC_lt] at *
      omega
  refine W_if (fun h0 => ?_) fun h0 => ?_
  · refine W_op fun k hk => ?_
    refine W_idx (by omega) (by omega) fun x hx => ?_
    refine W_eq (before_s c x) ?_
    have hx' : l[a.toNat - 1]? = some x := by rw [← hx]; congr 1; omega
    refine W_if (fun hb => ?_) fun hb => ?_
    · refine W_op fun j hj => W_next ⟨⟨by omega, by omega, fun m y hm hy => ?_⟩, by omega⟩
      by_cases hma : m = a.toNat - 1
      · subst hma; rw [hx'] at hy; cases hy; exact hb
      · exact a3 m y (by omega) hy
    · refine W_done (fin fun j y hj hy => ?_)
      by_cases hja : j = a.toNat - 1
      · subst hja; rw [hx'] at hy; cases hy; exact hb
      · obtain ⟨h1, h2⟩ := List.getElem?_eq_some_iff.1 hx'
        obtain ⟨h3, h4⟩ := List.getElem?_eq_some_iff.1 hy
        have := List.pairwise_iff_getElem.1 h j (a.toNat - 1) h3 h1 (by omega)
        rw [h2, h4] at this
        rw [cmpC_lt] at *
        omega
  · exact W_done (fin fun j y hj hy => by omega)
theorem rsort_s (l : List Contact) : W (packhorseref22_Sort l) (SR l) := by
  unfold packhorseref22_Sort
  refine W_if (fun h => W_ret (.inl ⟨by omega, rfl⟩)) fun hlen => ?_
  have hlen' : l.length ≤ 200 := by omega
  refine W_loop (fun s => 0 ≤ s.2 ∧ s.2 ≤ (l.length : Int) ∧ (∀ c ∈ l.take s.2.toNat, OKC c) ∧ Asc s.1 ∧ s.1.Perm (l.take s.2.toNat)) (fun s => l.length - s.2.toNat) ?_ ⟨by simp, by simp, by simp, by simp [Asc], by simp⟩
  rintro ⟨out, i⟩ ⟨i1, i2, i3, i4, i5⟩
  dsimp only at i1 i2 i3 i4 i5 ⊢
  have hol : out.length ≤ 200 := by rw [i5.length_eq, List.length_take]; omega
  refine W_if (fun hi => ?_) fun hi => ?_
  · refine W_idx (by omega) (by omega) fun x hx => ?_
    refine W_call (rone_s x) fun r hr => ?_
    rcases hr with ⟨rfl, hok⟩ | ⟨rfl, hok⟩
    · refine W_if (fun h => absurd rfl h) fun _ => ?_
      refine W_idx (by omega) (by omega) fun x' hx' => ?_
      rw [hx] at hx'; cases hx'
      refine W_call (insert_s i4 (by omega)) ?_
      rintro r ⟨r1, r2⟩
      have ht : l.take (i.toNat + 1) = l.take i.toNat ++ [x] := by rw [List.take_add_one, hx]; rfl
      refine W_op fun j hj => W_next ⟨⟨by dsimp only; omega, by dsimp only; omega, fun c hc => ?_, r1, ?_⟩, by dsimp only; omega⟩
      · dsimp only at hc
        rw [show j.toNat = i.toNat + 1 from by omega, ht] at hc
        rcases List.mem_append.1 hc with hc | hc
        · exact i3 c hc
        · simp at hc; subst hc; exact hok
      · dsimp only
        rw [show j.toNat = i.toNat + 1 from by omega, ht]
        exact (r2.trans (i5.cons x)).trans (List.perm_append_singleton x _).symm
    · refine W_if (fun _ => W_done (W_ret (.inr (.inl ⟨hlen', fun h => hok (h x (List.mem_of_getElem? hx)), rfl⟩)))) fun h => absurd (by decide) h
  · refine W_done ?_
    dsimp only [Sum.elim]
    rw [List.take_of_length_le (by omega)] at i3 i5
    have hoko : ∀ c ∈ out, OKC c := fun c hc => i3 c (i5.mem_iff.1 hc)
    refine W_loop (fun i : Int => 0 ≤ i ∧ i ≤ (out.length : Int) ∧ (out.take i.toNat).Pairwise apartC) (fun i => out.length - i.toNat) ?_ ⟨by omega, by omega, by simp⟩
    rintro i ⟨j1, j2, j3⟩
    refine W_if (fun hi => ?_) fun hi => ?_
    rotate_left
    · refine W_done (W_ret ?_)
      rw [List.take_of_length_le (by omega)] at j3
      have hap : l.Pairwise apartC := (apart_perm i5).1 j3
      refine .inr (.inr (.inr ⟨hlen', i3, hap, ⟨hoko, ?_, j3⟩, i5, rfl⟩))
      rw [List.pairwise_iff_getElem]
      intro a b ha hb hab
      have q1 := List.pairwise_iff_getElem.1 i4 a b ha hb hab
      have q2 := List.pairwise_iff_getElem.1 j3 a b ha hb hab
      have o1 := (hoko _ (List.getElem_mem ha)).s
      have o2 := (hoko _ (List.getElem_mem hb)).s
      generalize out[a] = u at *
      generalize out[b] = v at *
      rw [cmpC_lt] at *
      by_cases e : u.From = v.From ∧ u.To = v.To
      · have := q2 e.1 e.2
        omega
      · omega
    have hil : i.toNat < out.length := by omega
    have hx : out[i.toNat]? = some out[i.toNat] := List.getElem?_eq_getElem hil
    generalize hxx : out[i.toNat] = x at hx
    have ox := (hoko x (List.mem_of_getElem? hx)).s
    have before : ∀ (k : Nat) y, k < i.toNat → out[k]? = some y → ¬ cmpC x y < 0 := by
      intro k y hk hy
      obtain ⟨h3, h4⟩ := List.getElem?_eq_some_iff.1 hy
      have := List.pairwise_iff_getElem.1 i4 k i.toNat h3 hil hk
      rw [h4, hxx] at this
      exact this
    refine W_loop (fun k : Int => 0 ≤ k ∧ k ≤ i ∧ ∀ c ∈ out.take k.toNat, apartC c x) (fun k => i.toNat - k.toNat) ?_ ⟨by omega, by omega, by simp⟩
    rintro k ⟨k1, k2, k3⟩
    refine W_if (fun hk => ?_) fun hk => ?_
    rotate_left
    · refine W_done ?_
      have hki : k = i := by omega
      subst hki
      refine W_op fun j hj => W_next ⟨⟨by omega, by omega, ?_⟩, by omega⟩
      rw [show j.toNat = k.toNat + 1 from by omega, List.take_add_one, hx]
      simp only [Option.toList_some, List.pairwise_append, List.pairwise_cons, List.not_mem_nil, false_imp_iff, implies_true, List.Pairwise.nil, and_self, List.mem_singleton, forall_eq, true_and]
      exact ⟨j3, k3⟩
    refine W_idx (by omega) (by omega) fun y hy => ?_
    refine W_idx (by omega) (by omega) fun x' hx' => ?_
    rw [hx] at hx'; cases hx'
    refine W_eq (pair_s y x) ?_
    have hby := before k.toNat y (by omega) hy
    have hmy : y ∈ out := List.mem_of_getElem? hy
    have oy := (hoko y hmy).s
    have hnext : apartC y x → ∀ c ∈ out.take (k.toNat + 1), apartC c x := by
      intro h c hc
      rw [List.take_add_one, hy] at hc
      rcases List.mem_append.1 hc with hc | hc
      · exact k3 c hc
      · simp at hc; subst hc; exact h
    refine W_if (fun hp => ?_) (fun hp => ?_)
    · refine W_idx (by omega) (by omega) fun y' hy' => ?_
      rw [hy] at hy'; cases hy'
      refine W_idx (by omega) (by omega) fun x' hx' => ?_
      rw [hx] at hx'; cases hx'
      refine W_if (fun hlt => ?_) (fun hlt => ?_)
      · refine W_done (W_done (W_ret (.inr (.inr (.inl ⟨hlen', i3, fun hap => ?_, rfl⟩)))))
        have hap' := (apart_perm i5).2 hap
        obtain ⟨h3, h4⟩ := List.getElem?_eq_some_iff.1 hy
        have := List.pairwise_iff_getElem.1 hap' k.toNat i.toNat h3 hil (by omega)
        rw [h4, hxx] at this
        have := this hp.1 hp.2
        rw [cmpC_lt] at hby
        omega
      · refine W_op fun j hj => W_next ⟨⟨by omega, by omega, ?_⟩, by omega⟩
        rw [show j.toNat = k.toNat + 1 from by omega]
        exact hnext fun _ _ => .inl (by omega)
    · refine W_op fun j hj => W_next ⟨⟨by omega, by omega, ?_⟩, by omega⟩
      rw [show j.toNat = k.toNat + 1 from by omega]
      exact hnext fun p1 p2 => absurd ⟨p1, p2⟩ hp
theorem same_w (a : List Contact) (h : a.length ≤ 1000) : packhorsekit_SamePlan (a, a) = some true := by
  refine W.eq ?_
  unfold packhorsekit_SamePlan
  dsimp only
  refine W_if (fun h => absurd rfl h) fun _ => ?_
  refine W_loop (fun i : Int => 0 ≤ i ∧ i ≤ (a.length : Int)) (fun i => a.length - i.toNat) ?_ (by omega)
  rintro i ⟨i1, i2⟩
  refine W_if (fun hi => ?_) fun hi => W_done (W_ret rfl)
  refine W_idx (by omega) (by omega) fun x hx => ?_
  refine W_idx (by omega) (by omega) fun x' hx' => ?_
  rw [hx] at hx'; cases hx'
  simp only [beq_self_eq_true, Bool.and_self, Bool.not_true]
  refine W_brF ?_
  exact W_op fun j hj => W_next ⟨by omega, by omega⟩
end Go.Proofs.Ytjcbpfhlgebgdaa
