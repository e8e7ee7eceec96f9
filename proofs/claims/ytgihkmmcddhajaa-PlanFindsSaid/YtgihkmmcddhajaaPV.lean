import Derived.Test.YtgihkmmcddhajaaPSort
import Derived.Test.YtgihkmmcddhajaaXGCut
namespace Go.Proofs.Ytgihkmmcddhajaa
open Go.X Go.Eng
set_option linter.unusedSimpArgs false
set_option linter.unusedVariables false

/-! LAYER 22: valid plans, and Check on them -/

/-- A contact as it is to be. -/
structure OKC (c : Contact) : Prop where
  f : 1 ≤ c.From ∧ c.From ≤ 16
  t : 1 ≤ c.To ∧ c.To ≤ 16
  ne : c.From ≠ c.To
  s : 0 ≤ c.Start ∧ c.Start < c.End ∧ c.End ≤ 1099511627776
  r : 1 ≤ c.Rate ∧ c.Rate ≤ 1048576
  d : 0 ≤ c.Delay ∧ c.Delay ≤ 1048576

/-- No two contacts of a pair at a time. -/
def apartC (a b : Contact) : Prop := a.From = b.From → a.To = b.To → a.End ≤ b.Start ∨ b.End ≤ a.Start

structure Valid (l : List Contact) : Prop where
  ok : ∀ c ∈ l, OKC c
  asc : l.Pairwise (fun a b => cmpC a b < 0)
  ap : l.Pairwise apartC

theorem nodes_w {l : List Int} (h : ∀ x ∈ l, 1 ≤ x ∧ x ≤ 16) (hl : l.length ≤ 100) : plan_nodes l = some true := by
  refine W.eq ?_
  unfold plan_nodes
  refine W_loop (fun i : Int => 0 ≤ i ∧ i ≤ (l.length : Int)) (fun i => l.length - i.toNat) ?_ (by omega)
  intro i hi
  (first | refine W_op fun _ _ => ?_ | refine W_if ?_ ?_ <;> intro _ <;> try (exfalso; omega))
  · refine W_idx (by omega) (by omega) fun x hx => ?_
    have := h x (List.mem_of_getElem? hx)
    iterate 3 (first | refine W_op fun _ _ => ?_ | refine W_if ?_ ?_ <;> intro _ <;> try (exfalso; omega))
    exact W_next (by dsimp only; omega)
  · exact W_done (W_ret rfl)

theorem one_w {c : Contact} (h : OKC c) : plan_One c = some 0 := by
  obtain ⟨h1, h2, h3, h4, h5, h6⟩ := h
  refine W.eq ?_
  unfold plan_One
  refine W_eq (nodes_w (by simp; omega) (by simp)) ?_
  refine W_brnot (W_brT ?_)
  iterate 8 (first | refine W_op fun _ _ => ?_ | refine W_if ?_ ?_ <;> intro _ <;> try (exfalso; omega))
  exact W_ret rfl

theorem kin_pair {c : Contact} (h : OKC c) : kinC .Pair (⟨c.From, c.To⟩ : Pair) = true := by
  obtain ⟨h1, h2, h3, h4, h5, h6⟩ := h
  simp only [kinC, Bool.and_eq_true, decide_eq_true_eq]
  exact ⟨InR_i64 _ (by omega), InR_i64 _ (by omega)⟩

theorem mget_w {l : List (Pair × Int)} {k : Pair} (hk : kinC .Pair k = true) (hl : ∀ e ∈ l, kinC .Pair e.1 = true) : mget (α := Pair) (β := Int) (kinC .Pair) l k = some (aget l k) := by
  unfold mget
  rw [hk, List.all_eq_true.2 hl]; rfl
theorem mput_w {l : List (Pair × Int)} {k : Pair} {v : Int} (hk : kinC .Pair k = true) (hl : ∀ e ∈ l, kinC .Pair e.1 = true) : mput (α := Pair) (β := Int) (kinC .Pair) l k v = some (aput l k v) := by
  unfold mput
  rw [hk, List.all_eq_true.2 hl]; rfl

theorem check_w {l : List Contact} (h : Valid l) (hl : l.length ≤ 200) : plan_Check l = some (0, 0) := by
  refine W.eq ?_
  unfold plan_Check
  (first | refine W_op fun _ _ => ?_ | refine W_if ?_ ?_ <;> intro _ <;> try (exfalso; omega))
  refine W_loop (fun s => 0 ≤ s.1 ∧ s.1 ≤ (l.length : Int) ∧ (∀ e ∈ s.2, kinC .Pair e.1 = true) ∧ ∀ (j : Nat) c e, s.1.toNat ≤ j → l[j]? = some c → aget s.2 (⟨c.From, c.To⟩ : Pair) = some e → e ≤ c.Start) (fun s => l.length - s.1.toNat) ?_
    ⟨by simp, by simp, by simp, fun j c e _ _ he => by simp [aget] at he⟩
  rintro ⟨i, m⟩ ⟨i1, i2, i3, i4⟩
  dsimp only at i1 i2 i3 i4 ⊢
  (first | refine W_op fun _ _ => ?_ | refine W_if ?_ ?_ <;> intro _ <;> try (exfalso; omega))
  · refine W_idx (by omega) (by omega) fun x hx => ?_
    have hx1 := h.ok x (List.mem_of_getElem? hx)
    obtain ⟨hxi, hxv⟩ := List.getElem?_eq_some_iff.1 hx
    have later : ∀ (j : Nat) c, i.toNat < j → l[j]? = some c → cmpC x c < 0 ∧ apartC x c := by
      intro j c hj hc
      obtain ⟨h2, h3⟩ := List.getElem?_eq_some_iff.1 hc
      have q1 := List.pairwise_iff_getElem.1 h.asc i.toNat j hxi h2 hj
      have q2 := List.pairwise_iff_getElem.1 h.ap i.toNat j hxi h2 hj
      rw [hxv, h3] at q1 q2
      exact ⟨q1, q2⟩
    refine W_eq (one_w hx1) ?_
    refine W_brne (fun h => absurd rfl h) fun _ => ?_
    have fin : W ((plan_of x).bind fun x_9 => (mget (α := Pair) (β := Int) (kinC .Pair) m x_9).bind fun x_10 => br (decide (x.Start < (x_10.getD (0 : Int)))) (some (.done (.inl ((12 : Int), i, m))))
        ((plan_of x).bind fun x_11 => (mput (α := Pair) (β := Int) (kinC .Pair) m x_11 x.End).bind fun x_12 => (addI .i64 i (1 : Int)).bind fun x_13 => some (.next (x_13, x_12)))) (fun (r : Step (Int × List (Pair × Int)) ((Int × Int × List (Pair × Int)) ⊕ List (Pair × Int))) => match r with
        | .next s' => (0 ≤ s'.1 ∧ s'.1 ≤ (l.length : Int) ∧ (∀ e ∈ s'.2, kinC .Pair e.1 = true) ∧ ∀ (j : Nat) c e, s'.1.toNat ≤ j → l[j]? = some c → aget s'.2 (⟨c.From, c.To⟩ : Pair) = some e → e ≤ c.Start) ∧ l.length - s'.1.toNat < l.length - i.toNat
        | .done r => False) := by
      have hp : plan_of x = some (⟨x.From, x.To⟩ : Pair) := rfl
      refine W_eq hp ?_
      refine W_eq (mget_w (kin_pair hx1) i3) ?_
      refine W_if (fun hlt => ?_) (fun _ => ?_)
      · exfalso
        have hs := hx1.s
        cases hq : aget m (⟨x.From, x.To⟩ : Pair) with
        | none => rw [hq] at hlt; simp at hlt; omega
        | some e =>
          rw [hq] at hlt
          have := i4 i.toNat x e (Nat.le_refl _) hx hq
          simp at hlt; omega
      · refine W_eq hp ?_
        refine W_eq (mput_w (kin_pair hx1) i3) ?_
        refine W_op fun j hj => W_next ⟨⟨by dsimp only; omega, by dsimp only; omega, fun e he => ?_, fun k c e hk hc he => ?_⟩, by dsimp only; omega⟩
        · rcases mem_aput he with he | rfl
          · exact i3 e he
          · exact kin_pair hx1
        · dsimp only at hk he
          rw [aget_aput] at he
          split at he
          · rename_i heq
            cases he
            obtain ⟨q1, q2⟩ := later k c (by omega) hc
            have hc1 := (h.ok c (List.mem_of_getElem? hc)).s
            rw [cmpC_lt] at q1
            simp only [Pair.mk.injEq] at heq
            rcases q2 heq.1 heq.2 with q | q
            · exact q
            · have := hx1.s
              omega
          · exact i4 k c e (by omega) hc he
    (first | refine W_op fun _ _ => ?_ | refine W_if ?_ ?_ <;> intro _ <;> try (exfalso; omega))
    · (first | refine W_op fun _ _ => ?_ | refine W_if ?_ ?_ <;> intro _ <;> try (exfalso; omega))
      rename_i k hk
      refine W_idx (by omega) (by omega) fun y hy => ?_
      obtain ⟨h2, h3⟩ := List.getElem?_eq_some_iff.1 hy
      have q1 := List.pairwise_iff_getElem.1 h.asc k.toNat i.toNat h2 hxi (by omega)
      rw [h3, hxv] at q1
      refine W_eq (compare_w y x) ?_
      refine W_if (fun hge => by omega) (fun _ => ?_)
      refine fin.mono fun r hr => ?_
      cases r with
      | next s => exact hr
      | done r => exact hr.elim
    · refine fin.mono fun r hr => ?_
      cases r with
      | next s => exact hr
      | done r => exact hr.elim
  · exact W_done (W_ret rfl)
end Go.Proofs.Ytgihkmmcddhajaa
