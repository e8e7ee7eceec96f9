import Derived.Test.YtgihkmmcddhajaaPI
import Derived.Test.YtgihkmmcddhajaaXGFinds
namespace Go.Proofs.Ytgihkmmcddhajaa
open Go.X Go.Eng
set_option linter.unusedSimpArgs false
set_option linter.unusedVariables false

/-! LAYER 22: PlanFinds -/

/-- What is given of a plan, and of more that is to hold. -/
def AR (l : List Contact) (good : Prop) (r : Int) : Prop := (∃ n, CR l (r, n) ∧ r ≠ 0) ∨ (l.length ≤ 200 ∧ Valid l ∧ ((r = 0 ∧ good) ∨ (r = 2 ∧ ¬ good)))

theorem AR.det {l : List Contact} {g : Prop} {r r' : Int} (h : AR l g r) (h' : AR l g r') : r = r' := by
  rcases h with ⟨n, h1, h2⟩ | ⟨h1, h2, h3⟩ <;> rcases h' with ⟨m, k1, k2⟩ | ⟨k1, k2, k3⟩
  · have := h1.det k1; simp only [Prod.mk.injEq] at this; exact this.1
  · have := h1.det (.inr (.inl ⟨k1, k2, rfl⟩)); simp only [Prod.mk.injEq] at this; exact absurd this.1 h2
  · have := k1.det (.inr (.inl ⟨h1, h2, rfl⟩)); simp only [Prod.mk.injEq] at this; exact absurd this.1 k2
  · rcases h3 with ⟨rfl, a⟩ | ⟨rfl, a⟩ <;> rcases k3 with ⟨rfl, b⟩ | ⟨rfl, b⟩
    · rfl
    · exact absurd a b
    · exact absurd b a
    · rfl

theorem AR.congr {l : List Contact} {g g' : Prop} {r : Int} (h : AR l g r) (hg : g ↔ g') : AR l g' r := by
  rcases h with h | ⟨h1, h2, h3⟩
  · exact .inl h
  · refine .inr ⟨h1, h2, ?_⟩
    rcases h3 with ⟨rfl, a⟩ | ⟨rfl, a⟩
    · exact .inl ⟨rfl, hg.1 a⟩
    · exact .inr ⟨rfl, fun b => a (hg.2 b)⟩

theorem AR.ok {l : List Contact} {g : Prop} (h : AR l g 0) : l.length ≤ 200 ∧ Valid l ∧ g := by
  rcases h with ⟨n, h1, h2⟩ | ⟨h1, h2, ⟨_, a⟩ | ⟨h, _⟩⟩
  · exact absurd rfl h2
  · exact ⟨h1, h2, a⟩
  · cases h

def tickOK (now : Int) : Prop := 0 ≤ now ∧ now ≤ 1099511627776
def nodeOK (n : Int) : Prop := 1 ≤ n ∧ n ≤ 16

theorem asks_s (l : List Contact) (now : Int) (ns : List Int) (hns : ns.length ≤ 100) : W (plan_asks (l, now, ns)) (AR l ((∀ x ∈ ns, nodeOK x) ∧ tickOK now)) := by
  unfold plan_asks
  dsimp only
  refine W_call (check_s l) ?_
  rintro ⟨e, n⟩ hr
  dsimp only
  refine W_if (fun h => W_ret (.inl ⟨n, hr, h⟩)) fun h => ?_
  have h0 : e = 0 := Classical.byContradiction fun q => h q
  subst h0
  have hv : l.length ≤ 200 ∧ Valid l := by
    rcases hr with ⟨_, h2⟩ | ⟨h1, h2, _⟩ | ⟨h1, i, hi, x, hx, hv, hb⟩
    · cases h2
    · exact ⟨h1, h2⟩
    · dsimp only at hb
      rcases hb with ⟨h, _⟩ | ⟨h, _⟩ | ⟨h, _⟩ <;> cases h
  have bad : ¬ ((∀ x ∈ ns, nodeOK x) ∧ tickOK now) → W (some (2 : Int)) (AR l ((∀ x ∈ ns, nodeOK x) ∧ tickOK now)) := fun h => W_ret (.inr ⟨hv.1, hv.2, .inr ⟨rfl, h⟩⟩)
  refine W_call (nodes_s ns hns) fun r hr => ?_
  rcases hr with ⟨rfl, hr⟩ | ⟨rfl, hr⟩
  · refine W_brnot (W_brT ?_)
    refine W_if (fun h => bad fun k => by have := k.2.1; omega) fun h1 => ?_
    refine W_if (fun h => bad fun k => by have := k.2.2; omega) fun h2 => ?_
    exact W_ret (.inr ⟨hv.1, hv.2, .inl ⟨rfl, hr, by omega, by omega⟩⟩)
  · exact W_brnot (W_brF (bad fun k => hr k.1))

theorem rasks_s (l : List Contact) (a b now : Int) : W (packhorseref22_asks (l, a, b, now)) (AR l (nodeOK a ∧ nodeOK b ∧ tickOK now)) := by
  unfold packhorseref22_asks
  dsimp only
  refine W_call (rcheck_s l) ?_
  rintro ⟨e, n⟩ hr
  dsimp only
  refine W_if (fun h => W_ret (.inl ⟨n, hr, h⟩)) fun h => ?_
  have h0 : e = 0 := Classical.byContradiction fun q => h q
  subst h0
  have hv : l.length ≤ 200 ∧ Valid l := by
    rcases hr with ⟨_, h2⟩ | ⟨h1, h2, _⟩ | ⟨h1, i, hi, x, hx, hv, hb⟩
    · cases h2
    · exact ⟨h1, h2⟩
    · dsimp only at hb
      rcases hb with ⟨h, _⟩ | ⟨h, _⟩ | ⟨h, _⟩ <;> cases h
  have bad : ¬ (nodeOK a ∧ nodeOK b ∧ tickOK now) → W (some (2 : Int)) (AR l (nodeOK a ∧ nodeOK b ∧ tickOK now)) := fun h => W_ret (.inr ⟨hv.1, hv.2, .inr ⟨rfl, h⟩⟩)
  refine W_if (fun h => bad fun k => by have := k.1.1; omega) fun h1 => ?_
  refine W_if (fun h => bad fun k => by have := k.1.2; omega) fun h2 => ?_
  refine W_if (fun h => bad fun k => by have := k.2.1.1; omega) fun h3 => ?_
  refine W_if (fun h => bad fun k => by have := k.2.1.2; omega) fun h4 => ?_
  refine W_if (fun h => bad fun k => by have := k.2.2.1; omega) fun h5 => ?_
  refine W_if (fun h => bad fun k => by have := k.2.2.2; omega) fun h6 => ?_
  exact W_ret (.inr ⟨hv.1, hv.2, .inl ⟨rfl, ⟨by omega, by omega⟩, ⟨by omega, by omega⟩, by omega, by omega⟩⟩)

def zeroC : Contact := ⟨0, 0, 0, 0, 0, 0⟩

/-- What Next gives. -/
def NR (l : List Contact) (f t now : Int) (r : Contact × Bool × Int) : Prop := AR l (nodeOK f ∧ nodeOK t ∧ tickOK now) r.2.2 ∧
  ((r.2.2 ≠ 0 ∧ r.1 = zeroC ∧ r.2.1 = false) ∨ (r.2.2 = 0 ∧ ((r.2.1 = false ∧ r.1 = zeroC ∧ ∀ c ∈ l, ¬ nxt f t now c) ∨
    (r.2.1 = true ∧ ∃ i : Nat, l[i]? = some r.1 ∧ nxt f t now r.1 ∧ ∀ (j : Nat) d, j < i → l[j]? = some d → ¬ nxt f t now d))))

theorem NR.det {l : List Contact} {f t now : Int} {r r' : Contact × Bool × Int} (h : NR l f t now r) (h' : NR l f t now r') : r = r' := by
  obtain ⟨c, b, e⟩ := r
  obtain ⟨c', b', e'⟩ := r'
  obtain ⟨h1, h2⟩ := h
  obtain ⟨k1, k2⟩ := h'
  have he : e = e' := h1.det k1
  dsimp only at h1 h2 k1 k2
  subst he
  rcases h2 with ⟨a1, rfl, rfl⟩ | ⟨a1, h2⟩ <;> rcases k2 with ⟨b1, rfl, rfl⟩ | ⟨b1, k2⟩
  · rfl
  · exact absurd b1 a1
  · exact absurd a1 b1
  · rcases h2 with ⟨rfl, rfl, hn⟩ | ⟨rfl, i, hi, hc, hlo⟩ <;> rcases k2 with ⟨rfl, rfl, kn⟩ | ⟨rfl, j, kj, kc, klo⟩
    · rfl
    · exact absurd kc (hn _ (List.mem_of_getElem? kj))
    · exact absurd hc (kn _ (List.mem_of_getElem? hi))
    · have : i = j := by
        rcases Nat.lt_trichotomy i j with q | q | q
        · exact absurd hc (klo i _ q hi)
        · exact q
        · exact absurd kc (hlo j _ q kj)
      subst this
      rw [hi] at kj
      cases kj
      rfl

theorem next_s (l : List Contact) (f t now : Int) : W (plan_Next (l, f, t, now)) (NR l f t now) := by
  unfold plan_Next
  dsimp only
  refine W_call (asks_s l now [f, t] (by simp)) fun e he => ?_
  have he' : AR l (nodeOK f ∧ nodeOK t ∧ tickOK now) e := he.congr (by simp [and_assoc])
  refine W_if (fun h => W_ret ⟨he', .inl ⟨h, rfl, rfl⟩⟩) fun h => ?_
  have h0 : e = 0 := Classical.byContradiction fun q => h q
  subst h0
  obtain ⟨hl, hv, hg⟩ := he'.ok
  refine W_call (index_w hl) ?_
  rintro ⟨i, a, b, n⟩ ⟨e, hi⟩
  cases e
  dsimp only
  rcases hi with ⟨rfl, hno⟩ | ⟨c, h0, hc, hcn, hlo⟩
  · refine W_if (fun _ => W_ret ⟨he', .inr ⟨rfl, .inl ⟨rfl, rfl, hno⟩⟩⟩) fun h => absurd (by decide) h
  · refine W_if (fun h => by dsimp only at h0; omega) fun _ => ?_
    refine W_eq (a := c) (by unfold idx; rw [if_pos h0]; exact hc) ?_
    exact W_ret ⟨he', .inr ⟨rfl, .inr ⟨rfl, i.toNat, hc, hcn, hlo⟩⟩⟩

theorem rnext_s (l : List Contact) (f t now : Int) : W (packhorseref22_Next (l, f, t, now)) (NR l f t now) := by
  unfold packhorseref22_Next
  dsimp only
  refine W_call (rasks_s l f t now) fun e he => ?_
  refine W_if (fun h => W_ret ⟨he, .inl ⟨h, rfl, rfl⟩⟩) fun h => ?_
  have h0 : e = 0 := Classical.byContradiction fun q => h q
  subst h0
  obtain ⟨hl, hv, hg⟩ := he.ok
  refine W_loop (fun s => 0 ≤ s.1 ∧ s.1 ≤ (l.length : Int) ∧ ∀ (j : Nat) d, j < s.1.toNat → l[j]? = some d → ¬ nxt f t now d) (fun s => l.length - s.1.toNat) ?_ ⟨by simp, by simp, by simp⟩
  rintro ⟨i, z⟩ ⟨i1, i2, i3⟩
  dsimp only at i1 i2 i3 ⊢
  refine W_if (fun hi => ?_) fun hi => ?_
  rotate_left
  · refine W_done (W_ret ⟨he, .inr ⟨rfl, .inl ⟨rfl, rfl, fun c hc => ?_⟩⟩⟩)
    obtain ⟨j, hj⟩ := List.mem_iff_getElem?.1 hc
    exact i3 j c (by have := (List.getElem?_eq_some_iff.1 hj).1; omega) hj
  refine W_idx (by omega) (by omega) fun x hx => ?_
  have go : ¬ nxt f t now x → ∀ {j : Int}, j = i + 1 → ∀ (k : Nat) d, k < j.toNat → l[k]? = some d → ¬ nxt f t now d := by
    intro hn j hj k d hk hd
    by_cases hki : k = i.toNat
    · subst hki; rw [hx] at hd; cases hd; exact hn
    · exact i3 k d (by omega) hd
  refine W_if (fun h1 => ?_) fun h1 => ?_
  · refine W_idx (by omega) (by omega) fun x' hx' => ?_
    rw [hx] at hx'; cases hx'
    refine W_if (fun h2 => ?_) fun h2 => ?_
    · refine W_idx (by omega) (by omega) fun x' hx' => ?_
      rw [hx] at hx'; cases hx'
      refine W_if (fun h3 => ?_) fun h3 => ?_
      · refine W_idx (by omega) (by omega) fun x' hx' => ?_
        rw [hx] at hx'; cases hx'
        exact W_done (W_ret ⟨he, .inr ⟨rfl, .inr ⟨rfl, i.toNat, hx, ⟨h1, h2, h3⟩, i3⟩⟩⟩)
      · exact W_op fun j hj => W_next ⟨⟨by dsimp only; omega, by dsimp only; omega, go (fun k => h3 k.2.2) hj⟩, by dsimp only; omega⟩
    · exact W_op fun j hj => W_next ⟨⟨by dsimp only; omega, by dsimp only; omega, go (fun k => h2 k.2.1) hj⟩, by dsimp only; omega⟩
  · exact W_op fun j hj => W_next ⟨⟨by dsimp only; omega, by dsimp only; omega, go (fun k => h1 k.1) hj⟩, by dsimp only; omega⟩

/-- What is active, of what is next. -/
def actf (now : Int) (r : Contact × Bool × Int) : Contact × Bool × Int := if r.2.1 = true ∧ ¬ now < r.1.Start then (r.1, true, 0) else (zeroC, false, r.2.2)

theorem active_s (l : List Contact) (f t now : Int) : W (plan_Active (l, f, t, now)) fun r => ∃ q, NR l f t now q ∧ r = actf now q := by
  unfold plan_Active
  dsimp only
  refine W_call (next_s l f t now) ?_
  rintro ⟨c, b, e⟩ hr
  dsimp only
  cases b with
  | false => exact W_brnot (W_brF (W_ret ⟨_, hr, by simp [actf, zeroC]⟩))
  | true =>
    refine W_brnot (W_brT ?_)
    refine W_if (fun h => W_ret ⟨_, hr, by simp [actf, zeroC, h]⟩) fun h => W_ret ⟨_, hr, by simp [actf, h]⟩

theorem ractive_s (l : List Contact) (f t now : Int) : W (packhorseref22_Active (l, f, t, now)) fun r => ∃ q, NR l f t now q ∧ r = actf now q := by
  unfold packhorseref22_Active
  dsimp only
  refine W_call (rnext_s l f t now) ?_
  rintro ⟨c, b, e⟩ hr
  dsimp only
  cases b with
  | false => exact W_brnot (W_brF (W_ret ⟨_, hr, by simp [actf, zeroC]⟩))
  | true =>
    refine W_brnot (W_brT ?_)
    refine W_if (fun h => W_ret ⟨_, hr, by simp [actf, zeroC, h]⟩) fun h => W_ret ⟨_, hr, by simp [actf, h]⟩

theorem act_iff {l : List Contact} {f t now : Int} {q : Contact × Bool × Int} (h : NR l f t now q) (hv : Valid l) (he : q.2.2 = 0) : (actf now q).2.1 = true ↔ ∃ c ∈ l, actv f t now c := by
  obtain ⟨c, b, e⟩ := q
  obtain ⟨_, h⟩ := h
  dsimp only at h he
  subst he
  rcases h with ⟨h, _⟩ | ⟨_, h⟩
  · exact absurd rfl h
  rcases h with ⟨rfl, rfl, hno⟩ | ⟨rfl, i, hi, hcn, hlo⟩
  · simp only [actf, Bool.false_eq_true, false_and, if_false, false_iff]
    rintro ⟨c, hc, ha⟩
    exact hno c hc ⟨ha.1, ha.2.1, ha.2.2.2⟩
  · simp only [actf, true_and]
    split
    · rename_i hs
      simp only [true_iff]
      exact ⟨c, List.mem_of_getElem? hi, hcn.1, hcn.2.1, by omega, hcn.2.2⟩
    · rename_i hs
      simp only [Bool.false_eq_true, false_iff]
      rintro ⟨d, hd, ha⟩
      obtain ⟨j, hj⟩ := List.mem_iff_getElem?.1 hd
      obtain ⟨hjl, hjv⟩ := List.getElem?_eq_some_iff.1 hj
      obtain ⟨hil, hiv⟩ := List.getElem?_eq_some_iff.1 hi
      rcases Nat.lt_trichotomy j i with q | q | q
      · exact hlo j d q hj ⟨ha.1, ha.2.1, ha.2.2.2⟩
      · subst q; rw [hi] at hj; cases hj
        have := ha.2.2.1; omega
      · have := List.pairwise_iff_getElem.1 hv.asc i j hil hjl q
        rw [hiv, hjv, cmpC_lt] at this
        have := ha.2.2.1
        omega

/-- Two ascending lists of the same numbers are one. -/
theorem asc_eq : ∀ {a b : List Int}, a.Pairwise (· < ·) → b.Pairwise (· < ·) → (∀ x, x ∈ a ↔ x ∈ b) → a = b
  | [], [], _, _, _ => rfl
  | [], y :: b, _, _, h => by have := (h y).2 (by simp); cases this
  | x :: a, [], _, _, h => by have := (h x).1 (by simp); cases this
  | x :: a, y :: b, ha, hb, h => by
    rw [List.pairwise_cons] at ha hb
    have hxy : x = y := by
      have h1 := (h x).1 (by simp)
      have h2 := (h y).2 (by simp)
      rcases List.mem_cons.1 h1 with h1 | h1
      · exact h1
      · rcases List.mem_cons.1 h2 with h2 | h2
        · exact h2.symm
        · have := hb.1 x h1
          have := ha.1 y h2
          omega
    subst hxy
    congr 1
    refine asc_eq ha.2 hb.2 fun z => ⟨fun hz => ?_, fun hz => ?_⟩
    · have := ha.1 z hz
      rcases List.mem_cons.1 ((h z).1 (by simp [hz])) with q | q
      · omega
      · exact q
    · have := hb.1 z hz
      rcases List.mem_cons.1 ((h z).2 (by simp [hz])) with q | q
      · omega
      · exact q

/-- What Neighbours gives. -/
def BR (l : List Contact) (node now : Int) (r : List Int × Int) : Prop := AR l (nodeOK node ∧ tickOK now) r.2 ∧
  ((r.2 ≠ 0 ∧ r.1 = []) ∨ (r.2 = 0 ∧ r.1.Pairwise (· < ·) ∧ ∀ n, n ∈ r.1 ↔ ∃ c ∈ l, actv node n now c))

theorem BR.det {l : List Contact} {node now : Int} {r r' : List Int × Int} (h : BR l node now r) (h' : BR l node now r') : r = r' := by
  obtain ⟨a, e⟩ := r
  obtain ⟨b, e'⟩ := r'
  obtain ⟨h1, h2⟩ := h
  obtain ⟨k1, k2⟩ := h'
  have he : e = e' := h1.det k1
  dsimp only at h2 k2
  subst he
  rcases h2 with ⟨a1, rfl⟩ | ⟨a1, a2, a3⟩ <;> rcases k2 with ⟨b1, rfl⟩ | ⟨b1, b2, b3⟩
  · rfl
  · exact absurd b1 a1
  · exact absurd a1 b1
  · rw [asc_eq a2 b2 fun x => (a3 x).trans (b3 x).symm]

def isN (node now : Int) (c : Contact) : Bool := decide (c.From = node ∧ c.Start ≤ now ∧ now < c.End)

theorem neigh_s (l : List Contact) (node now : Int) : W (plan_Neighbours (l, node, now)) (BR l node now) := by
  unfold plan_Neighbours
  dsimp only
  refine W_call (asks_s l now [node] (by simp)) fun e he => ?_
  have he' : AR l (nodeOK node ∧ tickOK now) e := he.congr (by simp)
  refine W_if (fun h => W_ret ⟨he', .inl ⟨h, rfl⟩⟩) fun h => ?_
  have h0 : e = 0 := Classical.byContradiction fun q => h q
  subst h0
  obtain ⟨hl, hv, hg⟩ := he'.ok
  refine W_loop (fun s => 0 ≤ s.2 ∧ s.2 ≤ (l.length : Int) ∧ s.1 = ((l.take s.2.toNat).filter (isN node now)).map (·.To)) (fun s => l.length - s.2.toNat) ?_ ⟨by simp, by simp, by simp⟩
  rintro ⟨out, i⟩ ⟨i1, i2, i3⟩
  dsimp only at i1 i2 i3 ⊢
  have hol : out.length ≤ 200 := by
    rw [i3, List.length_map]
    exact Nat.le_trans (List.length_filter_le _ _) (by simp; omega)
  refine W_if (fun hi => ?_) fun hi => ?_
  · refine W_idx (by omega) (by omega) fun x hx => ?_
    have ht : l.take (i.toNat + 1) = l.take i.toNat ++ [x] := by rw [List.take_add_one, hx]; rfl
    have no : isN node now x = false → ∀ {j : Int}, j = i + 1 → out = ((l.take j.toNat).filter (isN node now)).map (·.To) := by
      intro hn j hj
      rw [show j.toNat = i.toNat + 1 from by omega, ht, i3]
      simp [hn]
    refine W_if (fun h1 => ?_) fun h1 => ?_
    · refine W_if (fun h2 => ?_) fun h2 => ?_
      · refine W_if (fun h3 => ?_) fun h3 => ?_
        · refine W_app (by simp only [List.length_cons, List.length_nil]; omega) ?_
          refine W_op fun j hj => W_next ⟨⟨by dsimp only; omega, by dsimp only; omega, ?_⟩, by dsimp only; omega⟩
          dsimp only
          have hy : isN node now x = true := by simp [isN, h1, h2, h3]
          rw [show j.toNat = i.toNat + 1 from by omega, ht, i3]
          simp [hy]
        · exact W_op fun j hj => W_next ⟨⟨by dsimp only; omega, by dsimp only; omega, no (by simp [isN]; omega) hj⟩, by dsimp only; omega⟩
      · exact W_op fun j hj => W_next ⟨⟨by dsimp only; omega, by dsimp only; omega, no (by simp [isN]; omega) hj⟩, by dsimp only; omega⟩
    · exact W_op fun j hj => W_next ⟨⟨by dsimp only; omega, by dsimp only; omega, no (by simp [isN]; omega) hj⟩, by dsimp only; omega⟩
  · refine W_done ?_
    rw [List.take_of_length_le (by omega)] at i3
    have hs : srtG slices_Sort_int_int.srt out = some (srtI out) := by unfold srtG; rw [if_pos (by omega)]; rfl
    refine W_eq hs (W_ret ⟨he', .inr ⟨rfl, ?_, fun n => ?_⟩⟩)
    · dsimp only
      have hp : (srtI out).Perm out := List.mergeSort_perm _ _
      have hle : (srtI out).Pairwise (fun a b => decide (a ≤ b) = true) := List.pairwise_mergeSort (fun a b c h1 h2 => by simp only [decide_eq_true_eq] at *; omega) (fun a b => by simp only [Bool.or_eq_true, decide_eq_true_eq]; omega) _
      have hne : out.Pairwise (· ≠ ·) := by
        rw [i3, List.pairwise_map]
        have hpl : (l.filter (isN node now)).Pairwise fun a b => apartC a b := hv.ap.filter _
        refine List.Pairwise.imp_of_mem (fun {a b} ha hb hab heq => ?_) hpl
        have qa := (List.mem_filter.1 ha).2
        have qb := (List.mem_filter.1 hb).2
        simp only [isN, decide_eq_true_eq] at qa qb
        have := hab (qa.1.trans qb.1.symm) heq
        omega
      have hne' : (srtI out).Pairwise (· ≠ ·) := (hp.pairwise_iff (R := fun a b => a ≠ b) (fun h => Ne.symm h)).2 hne
      exact (hle.and hne').imp fun {a b} h => by
        have := h.1; have := h.2
        simp only [decide_eq_true_eq] at *
        omega
    · dsimp only
      have hp : (srtI out).Perm out := List.mergeSort_perm _ _
      rw [hp.mem_iff, i3]
      simp only [List.mem_map, List.mem_filter, isN, decide_eq_true_eq]
      constructor
      · rintro ⟨c, ⟨hc, h1, h2, h3⟩, rfl⟩
        exact ⟨c, hc, h1, rfl, h2, h3⟩
      · rintro ⟨c, hc, h1, h2, h3, h4⟩
        exact ⟨c, ⟨hc, h1, h3, h4⟩, h2⟩

theorem rneigh_s (l : List Contact) (node now : Int) : W (packhorseref22_Neighbours (l, node, now)) (BR l node now) := by
  unfold packhorseref22_Neighbours
  dsimp only
  refine W_call (rasks_s l node node now) fun e he => ?_
  have he' : AR l (nodeOK node ∧ tickOK now) e := he.congr ⟨fun h => ⟨h.1, h.2.2⟩, fun h => ⟨h.1, h.1, h.2⟩⟩
  refine W_if (fun h => W_ret ⟨he', .inl ⟨h, rfl⟩⟩) fun h => ?_
  have h0 : e = 0 := Classical.byContradiction fun q => h q
  subst h0
  obtain ⟨hl, hv, hg⟩ := he'.ok
  refine W_loop (fun s => 1 ≤ s.2 ∧ s.2 ≤ 17 ∧ s.1.length ≤ s.2.toNat ∧ s.1.Pairwise (· < ·) ∧ ∀ n, n ∈ s.1 ↔ n < s.2 ∧ ∃ c ∈ l, actv node n now c) (fun s => 17 - s.2.toNat) ?_
    ⟨by simp, by simp, by simp, by simp, fun n => ?_⟩
  rotate_left
  · simp only [List.not_mem_nil, false_iff]
    rintro ⟨hn, c, hc, ha⟩
    have := (hv.ok c hc).t
    have := ha.2.1
    omega
  rintro ⟨out, n⟩ ⟨i1, i2, i3, i4, i5⟩
  dsimp only at i1 i2 i3 i4 i5 ⊢
  refine W_if (fun hn => ?_) fun hn => ?_
  · refine W_call (ractive_s l node n now) ?_
    rintro ⟨c, b, e⟩ ⟨q, hq, hqe⟩
    have hq0 : q.2.2 = 0 := hq.1.det (.inr ⟨hl, hv, .inl ⟨rfl, hg.1, ⟨by omega, by omega⟩, hg.2⟩⟩)
    have hiff := act_iff hq hv hq0
    rw [← hqe] at hiff
    dsimp only at hiff ⊢
    cases b with
    | true =>
      have hex := hiff.1 rfl
      refine W_brT ?_
      refine W_app (by simp only [List.length_cons, List.length_nil]; omega) ?_
      refine W_op fun j hj => W_next ⟨⟨by dsimp only; omega, by dsimp only; omega, by simp; omega, ?_, fun m => ?_⟩, by dsimp only; omega⟩
      · dsimp only
        rw [List.pairwise_append]
        exact ⟨i4, by simp, fun a ha b hb => by simp at hb; subst hb; exact ((i5 a).1 ha).1⟩
      · dsimp only
        rw [List.mem_append, i5]
        simp only [List.mem_singleton]
        constructor
        · rintro (⟨h1, h2⟩ | rfl)
          · exact ⟨by omega, h2⟩
          · exact ⟨by omega, hex⟩
        · rintro ⟨h1, h2⟩
          by_cases hmn : m = n
          · exact .inr hmn
          · exact .inl ⟨by omega, h2⟩
    | false =>
      have hno : ¬ ∃ c ∈ l, actv node n now c := fun h => by have := hiff.2 h; cases this
      refine W_brF ?_
      refine W_op fun j hj => W_next ⟨⟨by dsimp only; omega, by dsimp only; omega, by dsimp only; omega, i4, fun m => ?_⟩, by dsimp only; omega⟩
      dsimp only
      rw [i5]
      constructor
      · rintro ⟨h1, h2⟩
        exact ⟨by omega, h2⟩
      · rintro ⟨h1, h2⟩
        by_cases hmn : m = n
        · subst hmn; exact absurd h2 hno
        · exact ⟨by omega, h2⟩
  · refine W_done (W_ret ⟨he', .inr ⟨rfl, i4, fun m => ?_⟩⟩)
    dsimp only
    rw [i5]
    constructor
    · exact fun h => h.2
    · rintro ⟨c, hc, ha⟩
      have := (hv.ok c hc).t
      have := ha.2.1
      exact ⟨by omega, c, hc, ha⟩

/-- What Cut gives. -/
def UR (l : List Contact) (now : Int) (r : List Contact × Int) : Prop := AR l (tickOK now) r.2 ∧ ((r.2 ≠ 0 ∧ r.1 = []) ∨ (r.2 = 0 ∧ Valid r.1 ∧ r.1.Perm (cutL now l)))

theorem UR.det {l : List Contact} {now : Int} {r r' : List Contact × Int} (h : UR l now r) (h' : UR l now r') : r = r' := by
  obtain ⟨a, e⟩ := r
  obtain ⟨b, e'⟩ := r'
  obtain ⟨h1, h2⟩ := h
  obtain ⟨k1, k2⟩ := h'
  have he : e = e' := h1.det k1
  dsimp only at h2 k2
  subst he
  rcases h2 with ⟨a1, rfl⟩ | ⟨a1, a2, a3⟩ <;> rcases k2 with ⟨b1, rfl⟩ | ⟨b1, b2, b3⟩
  · rfl
  · exact absurd b1 a1
  · exact absurd a1 b1
  · rw [valid_perm a2 b2 (a3.trans b3.symm)]

theorem ucut_s (l : List Contact) (now : Int) : W (plan_Cut (l, now)) (UR l now) := by
  by_cases hg : l.length ≤ 200 ∧ Valid l ∧ tickOK now
  · obtain ⟨hl, hv, hn⟩ := hg
    obtain ⟨c1, c2⟩ := cutL_ok hv hn
    exact ⟨_, cut_w hv hl hn, .inr ⟨hl, hv, .inl ⟨rfl, hn⟩⟩, .inr ⟨rfl, srt_valid c1 c2, (srt_spec _).1⟩⟩
  · unfold plan_Cut
    dsimp only
    refine W_call (asks_s l now [] (by simp)) fun e he => ?_
    have he' : AR l (tickOK now) e := he.congr (by simp)
    refine W_if (fun h => W_ret ⟨he', .inl ⟨h, rfl⟩⟩) fun h => ?_
    have h0 : e = 0 := Classical.byContradiction fun q => h q
    subst h0
    exact absurd he'.ok hg

theorem asc_valid {l : List Contact} (h : Asc l) (h1 : ∀ c ∈ l, OKC c) (h2 : l.Pairwise apartC) : Valid l := by
  refine ⟨h1, ?_, h2⟩
  rw [List.pairwise_iff_getElem]
  intro a b ha hb hab
  have q1 := List.pairwise_iff_getElem.1 h a b ha hb hab
  have q2 := List.pairwise_iff_getElem.1 h2 a b ha hb hab
  have o1 := (h1 _ (List.getElem_mem ha)).s
  have o2 := (h1 _ (List.getElem_mem hb)).s
  generalize l[a] = u at *
  generalize l[b] = v at *
  rw [cmpC_lt] at *
  by_cases e : u.From = v.From ∧ u.To = v.To
  · have := q2 e.1 e.2
    omega
  · omega

theorem rcut_s (l : List Contact) (now : Int) : W (packhorseref22_Cut (l, now)) (UR l now) := by
  unfold packhorseref22_Cut
  dsimp only
  refine W_call (rasks_s l 1 1 now) fun e he => ?_
  have he' : AR l (tickOK now) e := he.congr (by simp [nodeOK])
  refine W_if (fun h => W_ret ⟨he', .inl ⟨h, rfl⟩⟩) fun h => ?_
  have h0 : e = 0 := Classical.byContradiction fun q => h q
  subst h0
  obtain ⟨hl, hv, hg⟩ := he'.ok
  obtain ⟨c1, c2⟩ := cutL_ok hv hg
  refine W_loop (fun s => 0 ≤ s.2 ∧ s.2 ≤ (l.length : Int) ∧ Asc s.1 ∧ s.1.Perm (cutL now (l.take s.2.toNat))) (fun s => l.length - s.2.toNat) ?_ ⟨by simp, by simp, by simp [Asc], by simp [cutL]⟩
  rintro ⟨out, i⟩ ⟨i1, i2, i3, i4⟩
  dsimp only at i1 i2 i3 i4 ⊢
  have hol : out.length ≤ 200 := by
    rw [i4.length_eq]; unfold cutL
    rw [List.length_map]
    exact Nat.le_trans (List.length_filter_le _ _) (by simp; omega)
  refine W_if (fun hi => ?_) fun hi => ?_
  · refine W_idx (by omega) (by omega) fun x hx => ?_
    have ht : l.take (i.toNat + 1) = l.take i.toNat ++ [x] := by rw [List.take_add_one, hx]; rfl
    refine W_if (fun hb => ?_) fun hb => ?_
    · refine W_call (insert_s i3 (by omega)) ?_
      rintro r ⟨r1, r2⟩
      refine W_op fun j hj => W_next ⟨⟨by dsimp only; omega, by dsimp only; omega, r1, ?_⟩, by dsimp only; omega⟩
      dsimp only
      have e1 : cutL now (l.take j.toNat) = cutL now (l.take i.toNat) ++ [cutC now x] := by
        rw [show j.toNat = i.toNat + 1 from by omega, ht]
        simp [cutL, hb]
      rw [e1]
      exact (r2.trans (i4.cons _)).trans (List.perm_append_singleton _ _).symm
    · refine W_op fun j hj => W_next ⟨⟨by dsimp only; omega, by dsimp only; omega, i3, ?_⟩, by dsimp only; omega⟩
      dsimp only
      have e1 : cutL now (l.take j.toNat) = cutL now (l.take i.toNat) := by
        rw [show j.toNat = i.toNat + 1 from by omega, ht]
        simp [cutL, hb]
      rw [e1]
      exact i4
  · refine W_done (W_ret ⟨he', .inr ⟨rfl, ?_, ?_⟩⟩)
    · dsimp only
      rw [List.take_of_length_le (by omega)] at i4
      exact asc_valid i3 (fun c hc => c1 c (i4.mem_iff.1 hc)) ((apart_perm i4).2 c2)
    · dsimp only
      rwa [List.take_of_length_le (by omega)] at i4

theorem at_s (l : List Int) (i : Int) : W (packhorsekit_At (l, i)) fun _ => True := by
  unfold packhorsekit_At
  dsimp only
  refine W_if (fun h => W_ret trivial) fun h => W_if (fun h2 => W_ret trivial) fun h2 => ?_
  exact W_idx (by omega) (by omega) fun x hx => W_ret trivial

theorem sameI_w (a : List Int) (h : a.length ≤ 1000) : packhorsekit_SameInts (a, a) = some true := by
  refine W.eq ?_
  unfold packhorsekit_SameInts
  dsimp only
  refine W_if (fun h => absurd rfl h) fun _ => ?_
  refine W_loop (fun i : Int => 0 ≤ i ∧ i ≤ (a.length : Int)) (fun i => a.length - i.toNat) ?_ (by omega)
  rintro i ⟨i1, i2⟩
  refine W_if (fun hi => ?_) fun hi => W_done (W_ret rfl)
  refine W_idx (by omega) (by omega) fun x hx => ?_
  refine W_idx (by omega) (by omega) fun x' hx' => ?_
  rw [hx] at hx'; cases hx'
  refine W_if (fun h => absurd rfl h) fun _ => ?_
  exact W_op fun j hj => W_next ⟨by omega, by omega⟩

theorem BR.len {l : List Contact} {node now : Int} {r : List Int × Int} (h : BR l node now r) : r.1.length ≤ 1000 := by
  obtain ⟨h1, h2⟩ := h
  rcases h2 with ⟨_, h⟩ | ⟨h0, h2, h3⟩
  · rw [h]; simp
  · have hv := (AR.ok (g := nodeOK node ∧ tickOK now) (by rw [h0] at h1; exact h1)).2.1
    have hb : ∀ n ∈ r.1, 1 ≤ n ∧ n ≤ 16 := fun n hn => by
      obtain ⟨c, hc, ha⟩ := (h3 n).1 hn
      have := (hv.ok c hc).t
      rw [ha.2.1] at this
      exact this
    have key : ∀ (d : List Int) (k : Nat), d.Pairwise (· < ·) → (∀ n ∈ d, (k : Int) ≤ n ∧ n ≤ 16) → d.length + k ≤ 17 ∨ d = [] := by
      intro d
      induction d with
      | nil => intro k _ _; exact .inr rfl
      | cons x d ih =>
        intro k hd hk
        rw [List.pairwise_cons] at hd
        have hx := hk x (by simp)
        left
        rcases ih (x.toNat + 1) hd.2 (fun n hn => ⟨by have := hd.1 n hn; omega, (hk n (by simp [hn])).2⟩) with q | q
        · simp only [List.length_cons]; omega
        · subst q; simp; omega
    rcases key r.1 1 h2 (fun n hn => by have := hb n hn; omega) with q | q
    · omega
    · rw [q]; simp

theorem planFinds_w (l : List Contact) (q : List Int) : packhorselaw22_PlanFinds (l, q) = some true := by
  refine W.eq ?_
  unfold packhorselaw22_PlanFinds
  dsimp only
  refine W_if (fun h => W_eq awake_w (W_ret rfl)) fun hlen => ?_
  refine W_call (at_s q 0) fun f _ => W_call (at_s q 1) fun t _ => W_call (at_s q 2) fun now _ => ?_
  have ho : packhorsekit_OwnPlan l = some l := by
    unfold packhorsekit_OwnPlan
    have : app 48 ([] : List Contact) l = some l := by unfold app; rw [if_pos (by simp; omega)]; rfl
    rw [this]; rfl
  refine W_eq ho ?_
  refine W_call (active_s l f t now) ?_
  rintro r ⟨p, hp, rfl⟩
  refine W_call (ractive_s l f t now) ?_
  rintro r ⟨p', hp', rfl⟩
  obtain rfl := hp.det hp'
  generalize actf now p = r
  obtain ⟨c, b, e⟩ := r
  dsimp only
  simp only [beq_self_eq_true, Bool.and_self, Bool.not_true]
  refine W_brF (W_brF ?_)
  refine W_if (fun h => absurd rfl h) fun _ => ?_
  refine W_call (next_s l f t now) fun r hr => ?_
  refine W_call (rnext_s l f t now) fun r' hr' => ?_
  obtain rfl := hr.det hr'
  obtain ⟨c, b, e⟩ := r
  dsimp only
  simp only [beq_self_eq_true, Bool.and_self, Bool.not_true]
  refine W_brF (W_brF ?_)
  refine W_if (fun h => absurd rfl h) fun _ => ?_
  refine W_call (neigh_s l f now) fun r hr => ?_
  refine W_call (rneigh_s l f now) fun r' hr' => ?_
  obtain rfl := hr.det hr'
  have hil := hr.len
  obtain ⟨a, e⟩ := r
  dsimp only at hil ⊢
  refine W_call (ucut_s l now) fun r hr => ?_
  refine W_call (rcut_s l now) fun r' hr' => ?_
  obtain rfl := hr.det hr'
  have hul : r.1.length ≤ 1000 := by
    rcases hr.2 with ⟨_, h⟩ | ⟨_, _, h⟩
    · rw [h]; simp
    · rw [h.length_eq]; unfold cutL
      rw [List.length_map]
      exact Nat.le_trans (List.length_filter_le _ _) (by omega)
  obtain ⟨u, e⟩ := r
  dsimp only at hul ⊢
  refine W_eq (sameI_w a hil) ?_
  simp only [beq_self_eq_true]
  refine W_brT (W_brT ?_)
  refine W_eq (same_w u hul) ?_
  refine W_brT (W_brT ?_)
  refine W_eq (same_w l (by omega)) ?_
  refine W_brT ?_
  exact W_eq awake_w (W_ret rfl)
end Go.Proofs.Ytgihkmmcddhajaa
