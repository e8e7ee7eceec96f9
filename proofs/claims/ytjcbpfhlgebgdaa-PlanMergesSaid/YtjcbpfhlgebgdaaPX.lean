import Derived.Test.YtjcbpfhlgebgdaaPD
import Derived.Test.YtjcbpfhlgebgdaaXGMg
set_option linter.unusedSimpArgs false
set_option linter.unusedVariables false
namespace Go.Proofs.Ytjcbpfhlgebgdaa
open Go.X Go.Eng
theorem nodes_w {l : List Int} (h : ∀ x ∈ l, 1 ≤ x ∧ x ≤ 16) (hl : l.length ≤ 100) : plan_nodes l = some true := by
  refine W.eq ?_
  unfold plan_nodes
  refine W_loop (fun i : Int => 0 ≤ i ∧ i ≤ (l.length : Int)) (fun i => l.length - i.toNat) ?_ (by omega)
  intro i hi
  (first | refine W_op fun _ _ => ?_ | refine W_if ?_ ?_ <;> intro _ <;> try (exfalso; omega))
  · refine W_idx (by omega) (by omega) fun x hx => ?_
    have := h x (List.mem_of_getElem? hx)
    iterate 3 (first | refine W_op fun _ _ => ?_ | refine W_if ?_ ?_ <;> intro _ <;> try (exfalso; omega))
    exact W_next (by dsimp only; omega)
  · exact W_done (W_ret rfl)
theorem one_w {c : Contact} (h : OKC c) : plan_One c = some 0 := by
  obtain ⟨h1, h2, h3, h4, h5, h6⟩ := h
  refine W.eq ?_
  unfold plan_One
  refine W_eq (nodes_w (by simp; omega) (by simp)) ?_
  refine W_brnot (W_brT ?_)
  iterate 8 (first | refine W_op fun _ _ => ?_ | refine W_if ?_ ?_ <;> intro _ <;> try (exfalso; omega))
  exact W_ret rfl
theorem kin_pair {c : Contact} (h : OKC c) : kinC .Pair (⟨c.From, c.To⟩ : Pair) = true := by
  obtain ⟨h1, h2, h3, h4, h5, h6⟩ := h
  simp only [kinC, Bool.and_eq_true, decide_eq_true_eq]
  exact ⟨InR_i64 _ (by omega), InR_i64 _ (by omega)⟩
theorem mget_w {l : List (Pair × Int)} {k : Pair} (hk : kinC .Pair k = true) (hl : ∀ e ∈ l, kinC .Pair e.1 = true) : mget (α := Pair) (β := Int) (kinC .Pair) l k = some (aget l k) := by
  unfold mget
  rw [hk, List.all_eq_true.2 hl]; rfl
theorem mput_w {l : List (Pair × Int)} {k : Pair} {v : Int} (hk : kinC .Pair k = true) (hl : ∀ e ∈ l, kinC .Pair e.1 = true) : mput (α := Pair) (β := Int) (kinC .Pair) l k v = some (aput l k v) := by
  unfold mput
  rw [hk, List.all_eq_true.2 hl]; rfl
theorem check_w {l : List Contact} (h : Valid l) (hl : l.length ≤ 200) : plan_Check l = some (0, 0) := by
  refine W.eq ?_
  unfold plan_Check
  (first | refine W_op fun _ _ => ?_ | refine W_if ?_ ?_ <;> intro _ <;> try (exfalso; omega))
  refine W_loop (fun s => 0 ≤ s.1 ∧ s.1 ≤ (l.length : Int) ∧ (∀ e ∈ s.2, kinC .Pair e.1 = true) ∧ ∀ (j : Nat) c e, s.1.toNat ≤ j → l[j]? = some c → aget s.2 (⟨c.From, c.To⟩ : Pair) = some e → e ≤ c.Start) (fun s => l.length - s.1.toNat) ?_
    ⟨by simp, by simp, by simp, fun j c e _ _ he => by simp [aget] at he⟩
  rintro ⟨i, m⟩ ⟨i1, i2, i3, i4⟩
  dsimp only at i1 i2 i3 i4 ⊢
  (first | refine W_op fun _ _ => ?_ | refine W_if ?_ ?_ <;> intro _ <;> try (exfalso; omega))
  · refine W_idx (by omega) (by omega) fun x hx => ?_
    have hx1 := h.ok x (List.mem_of_getElem? hx)
    obtain ⟨hxi, hxv⟩ := List.getElem?_eq_some_iff.1 hx
    have later : ∀ (j : Nat) c, i.toNat < j → l[j]? = some c → cmpC x c < 0 ∧ apartC x c := by
      intro j c hj hc
      obtain ⟨h2, h3⟩ := List.getElem?_eq_some_iff.1 hc
      have q1 := List.pairwise_iff_getElem.1 h.asc i.toNat j hxi h2 hj
      have q2 := List.pairwise_iff_getElem.1 h.ap i.toNat j hxi h2 hj
      rw [hxv, h3] at q1 q2
      exact ⟨q1, q2⟩
    refine W_eq (one_w hx1) ?_
    refine W_brne (fun h => absurd rfl h) fun _ => ?_
    have fin : W ((plan_of x).bind fun x_9 => (mget (α := Pair) (β := Int) (kinC .Pair) m x_9).bind fun x_10 => br (decide (x.Start < (x_10.getD (0 : Int)))) (some (.done (.inl ((12 : Int), i, m))))
        ((plan_of x).bind fun x_11 => (mput (α := Pair) (β := Int) (kinC .Pair) m x_11 x.End).bind fun x_12 => (addI .i64 i (1 : Int)).bind fun x_13 => some (.next (x_13, x_12)))) (fun (r : Step (Int × List (Pair × Int)) ((Int × Int × List (Pair × Int)) ⊕ List (Pair × Int))) => match r with
        | .next s' => (0 ≤ s'.1 ∧ s'.1 ≤ (l.length : Int) ∧ (∀ e ∈ s'.2, kinC .Pair e.1 = true) ∧ ∀ (j : Nat) c e, s'.1.toNat ≤ j → l[j]? = some c → aget s'.2 (⟨c.From, c.To⟩ : Pair) = some e → e ≤ c.Start) ∧ l.length - s'.1.toNat < l.length - i.toNat
        | .done r => False) := by
      have hp : plan_of x = some (⟨x.From, x.To⟩ : Pair) := rfl
      refine W_eq hp ?_
      refine W_eq (mget_w (kin_pair hx1) i3) ?_
      refine W_if (fun hlt => ?_) (fun _ => ?_)
      · exfalso
        have hs := hx1.s
        cases hq : aget m (⟨x.From, x.To⟩ : Pair) with
        | none => rw [hq] at hlt; simp at hlt; omega
        | some e =>
          rw [hq] at hlt
          have := i4 i.toNat x e (Nat.le_refl _) hx hq
          simp at hlt; omega
      · refine W_eq hp ?_
        refine W_eq (mput_w (kin_pair hx1) i3) ?_
        refine W_op fun j hj => W_next ⟨⟨by dsimp only; omega, by dsimp only; omega, fun e he => ?_, fun k c e hk hc he => ?_⟩, by dsimp only; omega⟩
        · rcases mem_aput he with he | rfl
          · exact i3 e he
          · exact kin_pair hx1
        · dsimp only at hk he
          rw [aget_aput] at he
          split at he
          · rename_i heq
            cases he
            obtain ⟨q1, q2⟩ := later k c (by omega) hc
            have hc1 := (h.ok c (List.mem_of_getElem? hc)).s
            rw [cmpC_lt] at q1
            simp only [Pair.mk.injEq] at heq
            rcases q2 heq.1 heq.2 with q | q
            · exact q
            · have := hx1.s
              omega
          · exact i4 k c e (by omega) hc he
    (first | refine W_op fun _ _ => ?_ | refine W_if ?_ ?_ <;> intro _ <;> try (exfalso; omega))
    · (first | refine W_op fun _ _ => ?_ | refine W_if ?_ ?_ <;> intro _ <;> try (exfalso; omega))
      rename_i k hk
      refine W_idx (by omega) (by omega) fun y hy => ?_
      obtain ⟨h2, h3⟩ := List.getElem?_eq_some_iff.1 hy
      have q1 := List.pairwise_iff_getElem.1 h.asc k.toNat i.toNat h2 hxi (by omega)
      rw [h3, hxv] at q1
      refine W_eq (compare_w y x) ?_
      refine W_if (fun hge => by omega) (fun _ => ?_)
      refine fin.mono fun r hr => ?_
      cases r with
      | next s => exact hr
      | done r => exact hr.elim
    · refine fin.mono fun r hr => ?_
      cases r with
      | next s => exact hr
      | done r => exact hr.elim
  · exact W_done (W_ret rfl)
end Go.Proofs.Ytjcbpfhlgebgdaa
namespace Go.Proofs.Ytjcbpfhlgebgdaa
open Go.X Go.Eng
theorem cmpC_trans {a b c : Contact} (h1 : cmpC a b < 0) (h2 : cmpC b c < 0) : cmpC a c < 0 := by
  rw [cmpC_lt] at *; omega
end Go.Proofs.Ytjcbpfhlgebgdaa
namespace Go.Proofs.Ytjcbpfhlgebgdaa
open Go.X Go.Eng
theorem asks_w {l : List Contact} {now : Int} {ns : List Int} (h : Valid l) (hl : l.length ≤ 200) (hn : 0 ≤ now ∧ now ≤ 1099511627776) (hs : ∀ x ∈ ns, 1 ≤ x ∧ x ≤ 16) (hns : ns.length ≤ 100) : plan_asks (l, now, ns) = some 0 := by
  refine W.eq ?_
  unfold plan_asks
  dsimp only
  refine W_eq (check_w h hl) ?_
  refine W_brne (fun h => absurd rfl h) fun _ => ?_
  refine W_eq (nodes_w hs hns) ?_
  refine W_brnot (W_brT ?_)
  iterate 2 (first | refine W_op fun _ _ => ?_ | refine W_if ?_ ?_ <;> intro _ <;> try (exfalso; omega))
  exact W_ret rfl
def nxt (f t now : Int) (c : Contact) : Prop := c.From = f ∧ c.To = t ∧ now < c.End
instance (f t now : Int) (c : Contact) : Decidable (nxt f t now c) := by unfold nxt; infer_instance
theorem index_w {l : List Contact} {f t now : Int} (hl : l.length ≤ 200) : W (slices_IndexFunc_f32 l (f, t, now)) fun r => r.2 = (f, t, now) ∧
    ((r.1 = -1 ∧ ∀ c ∈ l, ¬ nxt f t now c) ∨ ∃ c, 0 ≤ r.1 ∧ l[r.1.toNat]? = some c ∧ nxt f t now c ∧ ∀ (j : Nat) d, j < r.1.toNat → l[j]? = some d → ¬ nxt f t now d) := by
  unfold slices_IndexFunc_f32
  refine W_loop (fun s => 0 ≤ s.1 ∧ s.1 ≤ (l.length : Int) ∧ s.2 = (f, t, now) ∧ ∀ (j : Nat) d, j < s.1.toNat → l[j]? = some d → ¬ nxt f t now d) (fun s => l.length - s.1.toNat) ?_ ⟨by simp, by simp, rfl, by simp⟩
  rintro ⟨i, a, b, n⟩ ⟨i1, i2, i3, i4⟩
  dsimp only at i1 i2 i3 i4 ⊢
  cases i3
  (first | refine W_op fun _ _ => ?_ | refine W_if ?_ ?_ <;> intro _ <;> try (exfalso; omega))
  · refine W_idx (by omega) (by omega) fun x hx => ?_
    have hq : plan_Next_1 x (f, t, now) = some (decide (nxt f t now x), (f, t, now)) := by
      unfold plan_Next_1 plan_of nxt
      simp only [Option.bind_some]
      have e1 : (x.From == f) = decide (x.From = f) := rfl
      have e2 : (x.To == t) = decide (x.To = t) := rfl
      rw [e1, e2]
      by_cases h1 : x.From = f <;> by_cases h2 : x.To = t <;> simp [br, h1, h2]
    refine W_eq hq ?_
    dsimp only
    refine W_brd (fun hn => W_done (W_ret ?_)) (fun hn => ?_)
    · exact ⟨rfl, .inr ⟨x, i1, hx, hn, i4⟩⟩
    · refine W_op fun j hj => W_next ⟨⟨by dsimp only; omega, by dsimp only; omega, rfl, fun k d hk hd => ?_⟩, by dsimp only; omega⟩
      dsimp only at hk
      by_cases hki : k = i.toNat
      · subst hki; rw [hx] at hd; cases hd; exact hn
      · exact i4 k d (by omega) hd
  · refine W_done (W_ret ⟨rfl, .inl ⟨rfl, fun c hc => ?_⟩⟩)
    obtain ⟨j, hj⟩ := List.mem_iff_getElem?.1 hc
    exact i4 j c (by have := (List.getElem?_eq_some_iff.1 hj).1; omega) hj
def actv (f t now : Int) (c : Contact) : Prop := c.From = f ∧ c.To = t ∧ c.Start ≤ now ∧ now < c.End
theorem act_w {l : List Contact} {f t now : Int} (h : Valid l) (hl : l.length ≤ 200) (hn : 0 ≤ now ∧ now ≤ 1099511627776) (hf : 1 ≤ f ∧ f ≤ 16) (ht : 1 ≤ t ∧ t ≤ 16) :
    W (packhorselaw22_active (l, f, t, now)) fun r => r.2.2 = 0 ∧ ((r.1 = true ∧ ∃ c ∈ l, actv f t now c ∧ r.2.1 = c.Rate) ∨ (r.1 = false ∧ ∀ c ∈ l, ¬ actv f t now c)) := by
  unfold packhorselaw22_active plan_Active plan_Next
  dsimp only
  refine W_bind (W_bind (W_eq (asks_w h hl hn (by simp; omega) (by simp)) ?_))
  refine W_brne (fun h => absurd rfl h) fun _ => ?_
  refine W_call (index_w hl) ?_
  rintro ⟨i, a, b, n⟩ ⟨e, hi⟩
  cases e
  rcases hi with ⟨rfl, hno⟩ | ⟨c, h0, hc, hcn, hlo⟩
  · dsimp only
    (first | refine W_op fun _ _ => ?_ | refine W_if ?_ ?_ <;> intro _ <;> try (exfalso; omega))
    refine W_ret ?_
    dsimp only
    refine W_brT (W_ret (W_ret ⟨rfl, .inr ⟨rfl, fun c hc ha => hno c hc ⟨ha.1, ha.2.1, ha.2.2.2⟩⟩⟩))
  · dsimp only
    (first | refine W_op fun _ _ => ?_ | refine W_if ?_ ?_ <;> intro _ <;> try (exfalso; omega))
    refine W_eq (a := c) (by unfold idx; rw [if_pos h0]; exact hc) ?_
    refine W_ret ?_
    dsimp only
    refine W_brF ?_
    refine W_if (fun hlt => W_ret (W_ret ⟨rfl, .inr ⟨rfl, fun d hd ha => ?_⟩⟩)) (fun hge => W_ret (W_ret ⟨rfl, .inl ⟨rfl, c, List.mem_of_getElem? hc, ⟨hcn.1, hcn.2.1, by omega, hcn.2.2⟩, rfl⟩⟩))
    obtain ⟨j, hj⟩ := List.mem_iff_getElem?.1 hd
    obtain ⟨hjl, hjv⟩ := List.getElem?_eq_some_iff.1 hj
    obtain ⟨hil, hiv⟩ := List.getElem?_eq_some_iff.1 hc
    rcases Nat.lt_trichotomy j i.toNat with q | q | q
    · exact hlo j d q hj ⟨ha.1, ha.2.1, ha.2.2.2⟩
    · subst q; rw [hc] at hj; cases hj
      have := ha.2.2.1; omega
    · have := List.pairwise_iff_getElem.1 h.asc i.toNat j hil hjl q
      rw [hiv, hjv, cmpC_lt] at this
      have := ha.2.2.1
      omega
end Go.Proofs.Ytjcbpfhlgebgdaa
namespace Go.Proofs.Ytjcbpfhlgebgdaa
open Go.X Go.Eng
end Go.Proofs.Ytjcbpfhlgebgdaa
namespace Go.Proofs.Ytjcbpfhlgebgdaa
open Go.X Go.Eng
theorem active_w {l : List Contact} {f t now : Int} (h : Valid l) (hl : l.length ≤ 200) (hn : 0 ≤ now ∧ now ≤ 1099511627776) (hf : 1 ≤ f ∧ f ≤ 16) (ht : 1 ≤ t ∧ t ≤ 16) :
    W (plan_Active (l, f, t, now)) fun r => r.2.2 = 0 ∧ ((r.2.1 = true ∧ r.1 ∈ l ∧ actv f t now r.1) ∨ (r.2.1 = false ∧ ∀ c ∈ l, ¬ actv f t now c)) := by
  unfold plan_Active plan_Next
  dsimp only
  refine W_bind (W_eq (asks_w h hl hn (by simp; omega) (by simp)) ?_)
  refine W_brne (fun h => absurd rfl h) fun _ => ?_
  refine W_call (index_w hl) ?_
  rintro ⟨i, a, b, n⟩ ⟨e, hi⟩
  cases e
  rcases hi with ⟨rfl, hno⟩ | ⟨c, h0, hc, hcn, hlo⟩
  · dsimp only
    (first | refine W_op fun _ _ => ?_ | refine W_if ?_ ?_ <;> intro _ <;> try (exfalso; omega))
    refine W_ret ?_
    dsimp only
    refine W_brT (W_ret ⟨rfl, .inr ⟨rfl, fun c hc ha => hno c hc ⟨ha.1, ha.2.1, ha.2.2.2⟩⟩⟩)
  · dsimp only
    (first | refine W_op fun _ _ => ?_ | refine W_if ?_ ?_ <;> intro _ <;> try (exfalso; omega))
    refine W_eq (a := c) (by unfold idx; rw [if_pos h0]; exact hc) ?_
    refine W_ret ?_
    dsimp only
    refine W_brF ?_
    refine W_if (fun hlt => W_ret ⟨rfl, .inr ⟨rfl, fun d hd ha => ?_⟩⟩) (fun hge => W_ret ⟨rfl, .inl ⟨rfl, List.mem_of_getElem? hc, ⟨hcn.1, hcn.2.1, by dsimp only; omega, hcn.2.2⟩⟩⟩)
    obtain ⟨j, hj⟩ := List.mem_iff_getElem?.1 hd
    obtain ⟨hjl, hjv⟩ := List.getElem?_eq_some_iff.1 hj
    obtain ⟨hil, hiv⟩ := List.getElem?_eq_some_iff.1 hc
    rcases Nat.lt_trichotomy j i.toNat with q | q | q
    · exact hlo j d q hj ⟨ha.1, ha.2.1, ha.2.2.2⟩
    · subst q; rw [hc] at hj; cases hj
      have := ha.2.2.1; omega
    · have := List.pairwise_iff_getElem.1 h.asc i.toNat j hil hjl q
      rw [hiv, hjv, cmpC_lt] at this
      have := ha.2.2.1
      omega
def ex1 : Contact := ⟨1, 2, 0, 10, 5, 0⟩
def ex2 : Contact := ⟨2, 1, 0, 10, 5, 0⟩
def ex3 : Contact := ⟨1, 2, 10, 20, 5, 0⟩
def ex4 : Contact := ⟨1, 2, 9, 20, 5, 0⟩
theorem c_w (a b c d e : Int) : packhorselaw22_c (a, b, c, d, e) = some ⟨a, b, c, d, e, 0⟩ := rfl
theorem example_w : packhorselaw22_example () = some [ex1, ex2, ex3] := rfl
theorem ex_valid : Valid [ex1, ex2, ex3] := by
  refine ⟨fun c hc => ?_, ?_, ?_⟩
  · simp only [List.mem_cons, List.not_mem_nil, or_false] at hc
    rcases hc with rfl | rfl | rfl <;> exact ⟨by decide, by decide, by decide, by decide, by decide, by decide⟩
  · simp only [List.pairwise_cons, List.mem_cons, List.not_mem_nil, or_false, forall_eq_or_imp, forall_eq, cmpC_lt, false_imp_iff, implies_true, List.Pairwise.nil, and_true]
    simp [ex1, ex2, ex3]
  · simp only [List.pairwise_cons, List.mem_cons, List.not_mem_nil, or_false, forall_eq_or_imp, forall_eq, apartC, false_imp_iff, implies_true, List.Pairwise.nil, and_true]
    simp [ex1, ex2, ex3]
theorem check_ex : plan_Check [ex1, ex4] = some (12, 1) := by
  refine W.eq ?_
  unfold plan_Check
  refine W_if (fun h => absurd h (by decide)) (fun _ => ?_)
  refine W_loop (fun s : Int × List (Pair × Int) => s = (0, []) ∨ s = (1, [((⟨1, 2⟩ : Pair), 10)])) (fun s => 2 - s.1.toNat) ?_ (.inl rfl)
  have o1 : OKC ex1 := ⟨by decide, by decide, by decide, by decide, by decide, by decide⟩
  have o4 : OKC ex4 := ⟨by decide, by decide, by decide, by decide, by decide, by decide⟩
  intro s hs
  rcases hs with rfl | rfl
  · dsimp only
    refine W_if (fun _ => ?_) (fun h => absurd (by decide) h)
    refine W_eq (a := ex1) rfl ?_
    refine W_eq (one_w o1) ?_
    refine W_brne (fun h => absurd rfl h) fun _ => ?_
    refine W_if (fun h => absurd h (by decide)) (fun _ => ?_)
    refine W_eq (a := (⟨1, 2⟩ : Pair)) rfl ?_
    refine W_eq (mget_w (by decide) (by simp)) ?_
    refine W_if (fun h => absurd h (by decide)) (fun _ => ?_)
    refine W_eq (a := (⟨1, 2⟩ : Pair)) rfl ?_
    refine W_eq (mput_w (by decide) (by simp)) ?_
    refine W_op fun j hj => W_next ⟨.inr (by subst hj; rfl), by subst hj; decide⟩
  · dsimp only
    refine W_if (fun _ => ?_) (fun h => absurd (by decide) h)
    refine W_eq (a := ex4) rfl ?_
    refine W_eq (one_w o4) ?_
    refine W_brne (fun h => absurd rfl h) fun _ => ?_
    refine W_if (fun _ => ?_) (fun h => absurd (by decide) h)
    refine W_op fun j hj => ?_
    subst hj
    refine W_eq (a := ex1) rfl ?_
    refine W_eq (compare_w ex1 ex4) ?_
    refine W_if (fun h => absurd h (by decide)) (fun _ => ?_)
    refine W_eq (a := (⟨1, 2⟩ : Pair)) rfl ?_
    refine W_eq (mget_w (by decide) (by decide)) ?_
    refine W_if (fun _ => ?_) (fun h => absurd (by decide) h)
    exact W_done (W_ret rfl)
theorem awake_w : packhorselaw22_awake () = some true := by
  refine W.eq ?_
  unfold packhorselaw22_awake
  refine W_eq (c_w _ _ _ _ _) ?_
  refine W_eq (c_w _ _ _ _ _) ?_
  refine W_eq check_ex ?_
  refine W_eq example_w ?_
  refine W_call (active_w ex_valid (by decide) (by decide) (by decide) (by decide)) ?_
  rintro ⟨c, is, e⟩ ⟨h1, h2⟩
  dsimp only at h1 h2 ⊢
  subst h1
  rcases h2 with ⟨rfl, h3, h4⟩ | ⟨rfl, h3⟩
  · refine W_if (fun _ => ?_) (fun h => absurd rfl h)
    refine W_if (fun _ => ?_) (fun h => absurd rfl h)
    refine W_if (fun _ => ?_) (fun h => absurd rfl h)
    refine W_brT ?_
    refine W_eq example_w ?_
    refine W_eq (a := ex3) rfl ?_
    simp only [List.mem_cons, List.not_mem_nil, or_false] at h3
    rcases h3 with rfl | rfl | rfl
    · exact absurd h4 (by unfold actv; decide)
    · exact absurd h4 (by unfold actv; decide)
    · exact W_ret (by simp)
  · exact absurd (show actv 1 2 10 ex3 by unfold actv; decide) (h3 ex3 (by simp))
end Go.Proofs.Ytjcbpfhlgebgdaa
namespace Go.Proofs.Ytjcbpfhlgebgdaa
open Go.X Go.Eng
theorem own_w {l : List Contact} (hl : l.length ≤ 200) : packhorsekit_OwnPlan l = some l := by
  refine W.eq ?_
  unfold packhorsekit_OwnPlan
  refine W_app (by simp; omega) (W_ret rfl)
end Go.Proofs.Ytjcbpfhlgebgdaa
