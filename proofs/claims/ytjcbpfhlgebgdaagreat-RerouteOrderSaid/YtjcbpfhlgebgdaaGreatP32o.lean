import Derived.Test.YtjcbpfhlgebgdaaGreatXL
import Derived.Test.YtjcbpfhlgebgdaaGreatXGRo
import Derived.Test.YtjcbpfhlgebgdaaGreatXO
set_option linter.unusedSimpArgs false
set_option linter.unusedVariables false
namespace Go.Proofs.YtjcbpfhlgebgdaaGreat
open Go.X Go.Eng
def KD (d : Denial) : Int := d.ID.Node * 1000 + d.ID.Seq * 100 + d.Node
def okD (d : Denial) : Prop := (1 ≤ d.ID.Node ∧ d.ID.Node ≤ 2) ∧ (0 ≤ d.ID.Seq ∧ d.ID.Seq ≤ 2) ∧ d.ID.Off = 0 ∧ (1 ≤ d.Node ∧ d.Node ≤ 6) ∧ 0 ≤ d.Until ∧ d.Until ≤ 100
theorem K_inj {a b : Denial} (ha : okD a) (hb : okD b) (h : KD a = KD b) : a.ID = b.ID ∧ a.Node = b.Node := by
 unfold okD at ha hb
 unfold KD at h
 rcases a with ⟨⟨a1, a2, a3⟩, a4, a5⟩
 rcases b with ⟨⟨b1, b2, b3⟩, b4, b5⟩
 dsimp only at *
 have h1 : a1 = b1 := by omega
 have h2 : a2 = b2 := by omega
 have h3 : a3 = b3 := by omega
 subst h1 h2 h3
 exact ⟨rfl, by omega⟩
def ins (d : Denial) : List Denial → List Denial
 | [] => [d]
 | x :: xs => if KD x < KD d then x :: ins d xs else if KD x = KD d then ⟨x.ID, x.Node, max x.Until d.Until⟩ :: xs else d :: x :: xs
theorem ins_lt {d x : Denial} {xs : List Denial} (h : KD x < KD d) : ins d (x :: xs) = x :: ins d xs := by
 show (if _ then _ else _) = _
 rw [if_pos h]
theorem ins_eq {d x : Denial} {xs : List Denial} (h : KD x = KD d) : ins d (x :: xs) = ⟨x.ID, x.Node, max x.Until d.Until⟩ :: xs := by
 show (if _ then _ else _) = _
 rw [if_neg (by omega), if_pos h]
theorem ins_gt {d x : Denial} {xs : List Denial} (h : KD d < KD x) : ins d (x :: xs) = d :: x :: xs := by
 show (if _ then _ else _) = _
 rw [if_neg (by omega), if_neg (by omega)]
theorem ins_app {d : Denial} : ∀ {A : List Denial} (B : List Denial), (∀ x ∈ A, KD x < KD d) → ins d (A ++ B) = A ++ ins d B
 | [], B, _ => rfl
 | a :: A, B, h => by
  rw [List.cons_append, ins_lt (h a (by simp)), ins_app B fun x hx => h x (by simp [hx])]
  rfl
theorem ins_comm {a b : Denial} (ha : okD a) (hb : okD b) : ∀ l : List Denial, ins a (ins b l) = ins b (ins a l) := by
 have e2 : KD a = KD b → (⟨b.ID, b.Node, max b.Until a.Until⟩ : Denial) = ⟨a.ID, a.Node, max a.Until b.Until⟩ := fun h => by
  obtain ⟨h1, h2⟩ := K_inj ha hb h
  rw [h1, h2, Int.max_comm]
 intro l
 induction l with
 | nil =>
  show ins a [b] = ins b [a]
  rcases Int.lt_trichotomy (KD a) (KD b) with h | h | h
  ·rw [ins_gt h, ins_lt h]; rfl
  ·rw [ins_eq h.symm, ins_eq h, e2 h]
  ·rw [ins_lt h, ins_gt h]; rfl
 | cons x xs ih =>
  rcases Int.lt_trichotomy (KD x) (KD a) with h | h | h <;> rcases Int.lt_trichotomy (KD x) (KD b) with g | g | g
  ·rw [ins_lt h, ins_lt g, ins_lt h, ins_lt g, ih]
  ·rw [ins_lt h, ins_eq g, ins_lt (x := ⟨x.ID, x.Node, max x.Until b.Until⟩) h, ins_eq g]
  ·rw [ins_lt h, ins_gt g, ins_lt (by omega), ins_lt h, ins_gt g]
  ·rw [ins_eq h, ins_lt g, ins_eq h, ins_lt (x := ⟨x.ID, x.Node, max x.Until a.Until⟩) g]
  ·rw [ins_eq h, ins_eq g, ins_eq (x := ⟨x.ID, x.Node, max x.Until b.Until⟩) h, ins_eq (x := ⟨x.ID, x.Node, max x.Until a.Until⟩) g]
   congr 2
   dsimp only
   omega
  ·rw [ins_eq h, ins_gt g, ins_lt (by omega), ins_eq h, ins_gt (x := ⟨x.ID, x.Node, max x.Until a.Until⟩) g]
  ·rw [ins_gt h, ins_lt g, ins_gt h, ins_lt (by omega), ins_lt g]
  ·rw [ins_gt h, ins_eq g, ins_gt (x := ⟨x.ID, x.Node, max x.Until b.Until⟩) h, ins_lt (by omega), ins_eq g]
  ·rw [ins_gt h, ins_gt g]
   rcases Int.lt_trichotomy (KD a) (KD b) with q | q | q
   ·rw [ins_gt q, ins_lt q, ins_gt g]
   ·rw [ins_eq q.symm, ins_eq q, e2 q]
   ·rw [ins_lt q, ins_gt q, ins_gt h]
structure Ok (l : List Denial) : Prop where
 one : ∀ x ∈ l, okD x
 asc : l.Pairwise fun x y => KD x < KD y
theorem Ok.get {l : List Denial} (h : Ok l) {i j : Nat} {x y : Denial} (hx : l[i]? = some x) (hy : l[j]? = some y) (hij : i < j) : KD x < KD y := by
 obtain ⟨h1, rfl⟩ := List.getElem?_eq_some_iff.1 hx
 obtain ⟨h2, rfl⟩ := List.getElem?_eq_some_iff.1 hy
 exact List.pairwise_iff_getElem.1 h.asc i j h1 h2 hij
theorem ins_mem {d : Denial} : ∀ {l : List Denial} {x : Denial}, x ∈ ins d l → KD x = KD d ∨ ∃ y ∈ l, KD x = KD y
 | [], x, h => by
  simp [ins] at h
  exact .inl (by rw [h])
 | y :: l, x, h => by
  rcases Int.lt_trichotomy (KD y) (KD d) with q | q | q
  ·rw [ins_lt q] at h
   rcases List.mem_cons.1 h with rfl | h
   ·exact .inr ⟨_, by simp, rfl⟩
   ·rcases ins_mem h with h | ⟨z, hz, h⟩
    ·exact .inl h
    ·exact .inr ⟨z, by simp [hz], h⟩
  ·rw [ins_eq q] at h
   rcases List.mem_cons.1 h with rfl | h
   ·exact .inl q
   ·exact .inr ⟨x, by simp [h], rfl⟩
  ·rw [ins_gt q] at h
   rcases List.mem_cons.1 h with rfl | h
   ·exact .inl rfl
   ·exact .inr ⟨x, h, rfl⟩
theorem ins_ok {d : Denial} (hd : okD d) : ∀ {l : List Denial}, Ok l → Ok (ins d l)
 | [], _ => ⟨fun x hx => by simp [ins] at hx; subst hx; exact hd, by simp [ins]⟩
 | y :: l, h => by
  have h1 := h.one
  have h2 := List.pairwise_cons.1 h.asc
  have hl : Ok l := ⟨fun x hx => h1 x (by simp [hx]), h2.2⟩
  rcases Int.lt_trichotomy (KD y) (KD d) with q | q | q
  ·rw [ins_lt q]
   have ih := ins_ok hd hl
   refine ⟨fun x hx => ?_, List.pairwise_cons.2 ⟨fun x hx => ?_, ih.asc⟩⟩
   ·rcases List.mem_cons.1 hx with rfl | hx
    ·exact h1 _ (by simp)
    ·exact ih.one x hx
   ·rcases ins_mem hx with h | ⟨z, hz, h⟩
    ·omega
    ·have := h2.1 z hz; omega
  ·rw [ins_eq q]
   refine ⟨fun x hx => ?_, List.pairwise_cons.2 ⟨fun x hx => h2.1 x hx, h2.2⟩⟩
   rcases List.mem_cons.1 hx with rfl | hx
   ·have := h1 y (by simp)
    unfold okD at this hd ⊢
    dsimp only
    omega
   ·exact h1 x (by simp [hx])
  ·rw [ins_gt q]
   refine ⟨fun x hx => ?_, List.pairwise_cons.2 ⟨fun x hx => ?_, h.asc⟩⟩
   ·rcases List.mem_cons.1 hx with rfl | hx
    ·exact hd
    ·exact h1 x hx
   ·rcases List.mem_cons.1 hx with rfl | hx
    ·exact q
    ·have := h2.1 x hx; omega
theorem ins_length (d : Denial) : ∀ l : List Denial, (ins d l).length ≤ l.length + 1
 | [] => by simp [ins]
 | x :: l => by
  have := ins_length d l
  unfold ins
  (repeat' split) <;> simp <;> omega
def cmpI (a b : Int) : Int := if a < b then -1 else if b < a then 1 else 0
theorem cmpI_w (a b : Int) : cmp_Compare (a, b) = some (cmpI a b) := by
 have hn : ∀ x, cmp_isNaN x = some false := fun x => by unfold cmp_isNaN; simp
 unfold cmp_Compare cmpI
 simp only [hn, Option.bind_some, br, cond_false]
 by_cases h1 : a < b
 ·simp [h1]
 ·by_cases h2 : b < a <;> simp [h1, h2]
theorem cmpU_w (a b : Int) : cmp_Compare_2 (a, b) = some (cmpI a b) := by
 have hn : ∀ x, cmp_isNaN_2 x = some false := fun x => by unfold cmp_isNaN_2; simp
 unfold cmp_Compare_2 cmpI
 simp only [hn, Option.bind_some, br, cond_false]
 by_cases h1 : a < b
 ·simp [h1]
 ·by_cases h2 : b < a <;> simp [h1, h2]
def orL : List Int → Int
 | [] => 0
 | x :: l => if x ≠ 0 then x else orL l
theorem or_w (l : List Int) (hl : l.length ≤ 1000) : cmp_Or l = some (orL l) := by
 refine W.eq ?_
 unfold cmp_Or
 refine W_loop (fun i : Int => 0 ≤ i ∧ i ≤ l.length ∧ orL l = orL (l.drop i.toNat)) (fun i => l.length - i.toNat) ?_ ⟨by omega, by omega, rfl⟩
 rintro i ⟨h0, h1, h2⟩
 refine W_if (fun h => ?_) fun h => ?_
 ·refine W_idx h0 h fun x hx => ?_
  have hd : l.drop i.toNat = x :: l.drop (i.toNat + 1) := by
   obtain ⟨q, rfl⟩ := List.getElem?_eq_some_iff.1 hx
   exact List.drop_eq_getElem_cons q
  rw [hd] at h2
  refine W_if (fun h3 => W_done (W_ret ?_)) fun h3 => ?_
  ·rw [h2]; unfold orL; rw [if_pos h3]
  ·refine W_op fun j hj => W_next ⟨⟨by omega, by omega, ?_⟩, by omega⟩
   rw [h2, show j.toNat = i.toNat + 1 from by omega]
   show (if _ then _ else _) = _
   rw [if_neg h3]
 ·refine W_done (W_ret ?_)
  rw [h2, List.drop_eq_nil_of_le (by omega)]
  rfl
theorem cmpI_or (a b : Int) : (a < b ∧ cmpI a b = -1) ∨ (a = b ∧ cmpI a b = 0) ∨ (b < a ∧ cmpI a b = 1) := by
 unfold cmpI
 (repeat' split) <;> omega
theorem orL_ne {x : Int} {l : List Int} (h : x ≠ 0) : orL (x :: l) = x := by
 show (if _ then _ else _) = _
 rw [if_pos h]
theorem orL_z {l : List Int} : orL (0 :: l) = orL l := by
 show (if _ then _ else _) = _
 rw [if_neg (by simp)]
theorem compare_s {x d : Denial} (hx : okD x) (hd : okD d) : W (reroute_compare (x, ⟨d.ID, d.Node⟩)) fun r => (r < 0 ∧ KD x < KD d) ∨ (r = 0 ∧ KD x = KD d) ∨ (0 < r ∧ KD d < KD x) := by
 unfold reroute_compare bundle_Compare
 simp only [cmpI_w, cmpU_w, Option.bind_some, or_w _ (show [_, _, _].length ≤ 1000 by simp), or_w _ (show [_, _].length ≤ 1000 by simp)]
 refine W_ret ?_
 unfold okD at hx hd
 unfold KD
 have h3 : cmpI x.ID.Off d.ID.Off = 0 := by
  rcases cmpI_or x.ID.Off d.ID.Off with ⟨h, _⟩ | ⟨_, h⟩ | ⟨h, _⟩
  ·omega
  ·exact h
  ·omega
 rw [h3]
 rcases cmpI_or x.ID.Node d.ID.Node with ⟨h, e⟩ | ⟨h, e⟩ | ⟨h, e⟩
 ·rw [e, orL_ne (x := -1) (by decide), orL_ne (x := -1) (by decide)]; omega
 ·rw [e, orL_z]
  rcases cmpI_or x.ID.Seq d.ID.Seq with ⟨h', e⟩ | ⟨h', e⟩ | ⟨h', e⟩
  ·rw [e, orL_ne (x := -1) (by decide), orL_ne (x := -1) (by decide)]; omega
  ·rw [e, orL_z, orL_z]
   show _ ∧ _ ∨ _ ∧ _ ∨ _ ∧ _
   have e0 : orL [] = 0 := rfl
   rw [e0, orL_z]
   rcases cmpI_or x.Node d.Node with ⟨h'', e⟩ | ⟨h'', e⟩ | ⟨h'', e⟩
   ·rw [e, orL_ne (by decide)]; omega
   ·rw [e, orL_z, e0]; omega
   ·rw [e, orL_ne (by decide)]; omega
  ·rw [e, orL_ne (x := 1) (by decide), orL_ne (x := 1) (by decide)]; omega
 ·rw [e, orL_ne (x := 1) (by decide), orL_ne (x := 1) (by decide)]; omega
theorem one_s {d : Denial} (hd : okD d) : W (reroute_one d) fun r => r = 0 := by
 unfold okD at hd
 unfold reroute_one
 refine W_if (fun h => absurd h (by omega)) fun _ => W_if (fun h => absurd h (by omega)) fun _ => W_if (fun h => absurd h (by omega)) fun _ => W_if (fun h => absurd h (by omega)) fun _ => W_ret rfl
theorem check_s {l : List Denial} (h : Ok l) (hl : l.length ≤ 1000) : W (reroute_Check l) fun r => r = (0, 0) := by
 unfold reroute_Check
 refine W_loop (fun i : Int => 0 ≤ i ∧ i ≤ l.length) (fun i => l.length - i.toNat) ?_ ⟨by omega, by omega⟩
 rintro i ⟨h0, h1⟩
 refine W_if (fun hi => ?_) fun hi => W_done (W_ret rfl)
 refine W_idx h0 hi fun x hx => ?_
 have hox := h.one x (List.mem_of_getElem? hx)
 refine W_call (one_s hox) fun r hr => ?_
 subst hr
 refine W_if (fun h => absurd rfl h) fun _ => ?_
 refine W_if (fun hp => ?_) fun hp => ?_
 ·refine W_op fun j hj => ?_
  refine W_idx (by omega) (by omega) fun y hy => ?_
  refine W_call (compare_s (h.one y (List.mem_of_getElem? hy)) hox) fun r hr => ?_
  have := h.get hy hx (by omega)
  refine W_if (fun h => absurd h (by omega)) fun _ => ?_
  refine W_op fun j' hj' => W_next ⟨⟨by omega, by omega⟩, by omega⟩
 ·refine W_op fun j' hj' => W_next ⟨⟨by omega, by omega⟩, by omega⟩
theorem clone_w (l : List Denial) (hl : l.length ≤ 1000) : slices_Clone l = some l := by
 unfold slices_Clone
 have : app 40 ([] : List Denial) l = some l := by unfold app; rw [if_pos (by simp; omega)]; rfl
 rw [this]
 cases l with
 | nil => unfold nilq both; simp
 | cons c l => rfl
theorem wrapU {a : Int} (h0 : 0 ≤ a) (h1 : a ≤ 4000) : IntKind.wrap .u64 a = a := InR_u64 a ⟨h0, by omega⟩
theorem wrapI {a : Int} (h0 : 0 ≤ a) (h1 : a ≤ 4000) : IntKind.wrap .i64 a = a := InR_i64 a ⟨by omega, by omega⟩
theorem shr1 {a : Int} (h0 : 0 ≤ a) : shrI .u64 a 1 = some (a / 2) := by
 unfold shrI
 rw [if_pos (by omega), Int.fdiv_eq_ediv_of_nonneg _ (by decide)]
 rfl
theorem search_s {l : List Denial} {d : Denial} (h : Ok l) (hd : okD d) (hl : l.length ≤ 1000) : W (slices_BinarySearchFunc_f27 (l, ⟨d.ID, d.Node⟩)) fun r =>
  ∃ p : Nat, r.1 = p ∧ (∀ k x, k < p → l[k]? = some x → KD x < KD d) ∧ (∀ k x, p ≤ k → l[k]? = some x → KD d ≤ KD x) ∧ p ≤ l.length ∧ ((r.2 = true ∧ ∃ x, l[p]? = some x ∧ KD x = KD d) ∨ (r.2 = false ∧ ∀ x, l[p]? = some x → KD x ≠ KD d)) := by
 unfold slices_BinarySearchFunc_f27
 refine W_loop (fun s : Int × Int => (0 ≤ s.1 ∧ s.1 ≤ s.2 ∧ s.2 ≤ l.length) ∧ (∀ k x, k < s.1.toNat → l[k]? = some x → KD x < KD d) ∧ (∀ k x, s.2.toNat ≤ k → l[k]? = some x → KD d ≤ KD x)) (fun s => s.2.toNat - s.1.toNat) ?_ ⟨⟨by simp, by simp, by simp⟩, fun k x hk => by simp at hk, fun k x hk hx => by
  have := (List.getElem?_eq_some_iff.1 hx).1
  simp at hk
  omega⟩
 rintro ⟨i, j⟩ ⟨⟨h0, h1, h2⟩, h3, h4⟩
 dsimp only at h0 h1 h2 h3 h4 ⊢
 refine W_if (fun hij => ?_) fun hij => ?_
 ·refine W_op fun c hc => ?_
  rw [wrapU (a := c) (by omega) (by omega)]
  refine W_eq (shr1 (a := c) (by omega)) ?_
  have hb : 0 ≤ c / 2 ∧ i ≤ c / 2 ∧ c / 2 < j := by omega
  generalize c / 2 = m at hb ⊢
  rw [wrapI (a := m) (by omega) (by omega)]
  refine W_idx (by omega) (by omega) fun x hx => ?_
  refine W_call (compare_s (h.one x (List.mem_of_getElem? hx)) hd) fun r hr => ?_
  refine W_if (fun hlt => ?_) fun hlt => ?_
  ·refine W_op fun m' hm' => W_next ⟨⟨⟨by dsimp only; omega, by dsimp only; omega, h2⟩, fun k y hk hy => ?_, h4⟩, by dsimp only; omega⟩
   dsimp only at hk
   rcases Nat.lt_or_ge k m.toNat with q | q
   ·have := h.get hy hx q; omega
   ·have : k = m.toNat := by omega
    subst this
    rw [hy] at hx
    cases hx
    omega
  ·refine W_next ⟨⟨⟨h0, by dsimp only; omega, by dsimp only; omega⟩, h3, fun k y hk hy => ?_⟩, by dsimp only; omega⟩
   dsimp only at hk
   rcases Nat.lt_or_ge m.toNat k with q | q
   ·have := h.get hx hy q; omega
   ·have : k = m.toNat := by omega
    subst this
    rw [hy] at hx
    cases hx
    omega
 ·have hji : j = i := by omega
  subst hji
  refine W_done ?_
  refine W_if (fun hlt => ?_) fun hlt => ?_
  ·refine W_idx (by omega) (by omega) fun x hx => ?_
   refine W_call (compare_s (h.one x (List.mem_of_getElem? hx)) hd) fun r hr => W_ret ⟨j.toNat, by dsimp only; omega, h3, h4, by omega, ?_⟩
   by_cases hr0 : r = 0
   ·subst hr0
    exact .inl ⟨rfl, x, hx, by omega⟩
   ·refine .inr ⟨by simpa using hr0, fun y hy => ?_⟩
    rw [hy] at hx
    cases hx
    omega
  ·refine W_ret ⟨j.toNat, by dsimp only; omega, h3, h4, by omega, .inr ⟨rfl, fun y hy => ?_⟩⟩
   have := (List.getElem?_eq_some_iff.1 hy).1
   omega
theorem add_s {l : List Denial} {d : Denial} (h : Ok l) (hd : okD d) (hl : l.length ≤ 1000) : W (reroute_Add (l, d.ID, d.Node, d.Until)) fun r => r = (ins d l, 0) := by
 unfold reroute_Add
 refine W_call (check_s h hl) fun r hr => ?_
 subst hr
 refine W_if (fun h => absurd rfl h) fun _ => ?_
 refine W_call (one_s (d := ⟨d.ID, d.Node, d.Until⟩) hd) fun r hr => ?_
 subst hr
 refine W_if (fun h => absurd rfl h) fun _ => ?_
 refine W_eq (clone_w l hl) ?_
 refine W_call (search_s h hd hl) fun r hr => ?_
 obtain ⟨r1, r2⟩ := r
 obtain ⟨p, hp, h3, h4, h5, hr⟩ := hr
 dsimp only at hp hr ⊢
 subst hp
 have hA : ∀ x ∈ l.take p, KD x < KD d := fun x hx => by
  obtain ⟨k, hk⟩ := List.mem_iff_getElem?.1 hx
  rw [List.getElem?_take] at hk
  split at hk
  ·rename_i q; exact h3 k x q hk
  ·cases hk
 have he : ins d l = l.take p ++ ins d (l.drop p) := by
  conv => lhs; rw [← List.take_append_drop p l]
  exact ins_app _ hA
 rcases hr with ⟨rfl, x, hx, hk⟩ | ⟨rfl, hr⟩
 ·refine W_brT ?_
  have hlt := (List.getElem?_eq_some_iff.1 hx).1
  refine W_idx (by omega) (by omega) fun y hy => ?_
  have : y = x := by simpa [hx] using hy.symm
  subst this
  refine W_brin (by omega) (by omega) ?_
  refine W_idx (by omega) (by omega) fun z hz => ?_
  have : z = y := by simpa [hx] using hz.symm
  subst this
  refine W_ret ?_
  have hdr : l.drop p = z :: l.drop (p + 1) := by
   obtain ⟨q, rfl⟩ := List.getElem?_eq_some_iff.1 hx
   exact List.drop_eq_getElem_cons q
  rw [he, hdr, ins_eq hk]
  unfold setI
  have : (p : Int).toNat = p := by omega
  rw [this, List.set_eq_take_append_cons_drop, if_pos hlt]
 ·refine W_brF ?_
  have hi : insertX l (p : Int) [⟨d.ID, d.Node, d.Until⟩] = some (l.take p ++ [d] ++ l.drop p) := by
   unfold insertX
   dsimp only
   rw [if_pos (by omega)]
   rfl
  refine W_eq hi (W_ret ?_)
  rw [he]
  cases hdr : l.drop p with
  | nil => simp [ins]
  | cons y ys =>
   have hy : l[p]? = some y := by
    have : (l.drop p)[0]? = some y := by rw [hdr]; rfl
    simpa [List.getElem?_drop] using this
   have h6 := h4 p y (Nat.le_refl _) hy
   have h7 := hr y hy
   rw [ins_gt (by omega)]
   simp
theorem mod_s (a m : Int) (hm : 0 < m) (hm2 : m ≤ 4611686018427387904) : W (packhorsekit_Mod (a, m)) fun r => 0 ≤ r ∧ r < m := by
 unfold packhorsekit_Mod
 refine W_if (fun h => absurd h (by omega)) fun _ => ?_
 refine W_remt (by omega) fun c hc => ?_
 have h1 := Int.tmod_lt_of_pos a hm
 have h2 := Int.lt_tmod_of_pos a hm
 rw [← hc] at h1 h2
 refine W_if (fun h => ?_) fun h => W_ret ⟨by omega, h1⟩
 refine W_op fun e he => W_ret ⟨by omega, by omega⟩
theorem known_s (n : Int) : W (packhorselaw32_known n) fun r => okD ⟨r.1, r.2.1, r.2.2⟩ := by
 unfold packhorselaw32_known
 refine W_call (mod_s n _ (by decide) (by decide)) fun r hr => ?_
 iterate 9 refine W_op fun _ _ => ?_
 refine W_ret ?_
 unfold okD
 dsimp only
 rw [wrapU (by omega) (by omega)]
 omega
noncomputable def kn (n : Int) : Denial := match packhorselaw32_known n with
 | some r => ⟨r.1, r.2.1, r.2.2⟩
 | none => ⟨⟨1, 0, 0⟩, 1, 0⟩
theorem kn_w (n : Int) : ∃ a b c, packhorselaw32_known n = some (a, b, c) ∧ kn n = ⟨a, b, c⟩ ∧ okD (kn n) := by
 obtain ⟨⟨a, b, c⟩, h1, h2⟩ := known_s n
 refine ⟨a, b, c, h1, ?_, ?_⟩ <;> unfold kn <;> rw [h1]
 exact h2
noncomputable def made (l : List Denial) (ns : List Int) : List Denial := ns.foldl (fun l n => ins (kn n) l) l
theorem made_ins (a : Int) : ∀ (ns : List Int) (l : List Denial), made (ins (kn a) l) ns = ins (kn a) (made l ns)
 | [], _ => rfl
 | n :: ns, l => by
  show made (ins (kn n) (ins (kn a) l)) ns = _
  obtain ⟨_, _, _, _, _, ha⟩ := kn_w a
  obtain ⟨_, _, _, _, _, hn⟩ := kn_w n
  rw [ins_comm hn ha, made_ins a ns]
  rfl
theorem made_comm : ∀ (xs ys : List Int) (l : List Denial), made (made l xs) ys = made (made l ys) xs
 | [], _, _ => rfl
 | x :: xs, ys, l => by
  show made (made (ins (kn x) l) xs) ys = made (ins (kn x) (made l ys)) xs
  rw [made_comm xs ys, made_ins]
theorem made_app (xs ys : List Int) (l : List Denial) : made l (xs ++ ys) = made (made l xs) ys := by
 unfold made; rw [List.foldl_append]
theorem made_ok : ∀ (ns : List Int) {l : List Denial}, Ok l → Ok (made l ns)
 | [], _, h => h
 | n :: ns, l, h => by
  obtain ⟨_, _, _, _, _, hn⟩ := kn_w n
  exact made_ok ns (ins_ok hn h)
theorem made_length : ∀ (ns : List Int) (l : List Denial), (made l ns).length ≤ l.length + ns.length
 | [], l => by simp [made]
 | n :: ns, l => by
  have h1 := made_length ns (ins (kn n) l)
  have h2 := ins_length (kn n) l
  show (made (ins (kn n) l) ns).length ≤ _
  rw [List.length_cons]
  omega
theorem nil_ok : Ok [] := ⟨fun x hx => by simp at hx, by simp⟩
theorem made_s (ns : List Int) (hn : ns.length ≤ 30) : W (packhorselaw32_made ns) fun r => r = (made [] ns, true) := by
 unfold packhorselaw32_made
 refine W_loop (fun s : List Denial × Int => 0 ≤ s.2 ∧ s.2 ≤ ns.length ∧ s.1 = made [] (ns.take s.2.toNat)) (fun s => ns.length - s.2.toNat) ?_ ⟨by simp, by simp, by simp [made]⟩
 rintro ⟨l, i⟩ ⟨h0, h1, h2⟩
 dsimp only at h0 h1 h2 ⊢
 subst h2
 have hok := made_ok (ns.take i.toNat) nil_ok
 have hlen := made_length (ns.take i.toNat) []
 simp only [List.length_nil, List.length_take] at hlen
 refine W_if (fun hi => ?_) fun hi => ?_
 ·refine W_if (fun h30 => ?_) fun h30 => absurd h30 (by omega)
  refine W_idx h0 hi fun n hx => ?_
  obtain ⟨a, b, c, e1, e2, hn⟩ := kn_w n
  refine W_eq e1 ?_
  dsimp only
  have ha := add_s hok hn (by omega)
  rw [e2] at ha
  refine W_call ha fun r hr => ?_
  subst hr
  dsimp only
  refine W_if (fun h => absurd rfl h) fun _ => ?_
  refine W_op fun j hj => W_next ⟨⟨by dsimp only; omega, by dsimp only; omega, ?_⟩, by dsimp only; omega⟩
  dsimp only
  rw [show j.toNat = i.toNat + 1 from by omega, List.take_add_one, hx, made_app, ← e2]
  rfl
 ·refine W_done ?_
  dsimp only [Sum.elim]
  rw [List.take_of_length_le (by omega)] at hok hlen ⊢
  refine W_call (check_s hok (by omega)) fun r hr => ?_
  subst hr
  exact W_ret rfl
theorem same_s (a : List Denial) (ha : a.length ≤ 1000) : W (packhorsekit_SameDenials (a, a)) fun r => r = true := by
 unfold packhorsekit_SameDenials
 refine W_if (fun h => absurd rfl h) fun _ => ?_
 refine W_loop (fun i : Int => 0 ≤ i ∧ i ≤ a.length) (fun i => a.length - i.toNat) ?_ ⟨by omega, by omega⟩
 rintro i ⟨h0, h1⟩
 refine W_if (fun hi => ?_) fun hi => W_done (W_ret rfl)
 refine W_idx h0 hi fun x hx => ?_
 refine W_idx h0 hi fun y hy => ?_
 have : y = x := by simpa [hx] using hy.symm
 subst this
 simp only [beq_self_eq_true, Bool.and_self]
 refine W_brnot (W_brT ?_)
 refine W_op fun j hj => W_next ⟨⟨by omega, by omega⟩, by omega⟩
theorem slc_w {α : Type} {l : List α} {lo hi : Int} (h : 0 ≤ lo ∧ lo ≤ hi ∧ hi ≤ l.length) : slc l lo hi = some ((l.take hi.toNat).drop lo.toNat) := by
 unfold slc; rw [if_pos h]
theorem rerouteOrder_w (nums : List Int) (at' : Int) : W (packhorselaw32_RerouteOrder (nums, at')) fun r => r = true := by
 unfold packhorselaw32_RerouteOrder
 refine W_eq (a := true) rfl ?_
 refine W_op (fun c hc => ?_) (by omega)
 have hn : ∃ n : Nat, min (nums.length : Int) 30 = n ∧ n ≤ 30 ∧ n ≤ nums.length := ⟨(min (nums.length : Int) 30).toNat, by omega, by omega, by omega⟩
 obtain ⟨n, hn, h30, hnl⟩ := hn
 rw [hn] at hc ⊢
 refine W_call (mod_s at' c (by omega) (by omega)) fun p hp => ?_
 refine W_eq (slc_w (by omega)) ?_
 refine W_eq (slc_w (by omega)) ?_
 have e0 : (n : Int).toNat = n := by omega
 rw [e0]
 have hl1 : ((nums.take n).drop p.toNat).length ≤ 30 := by simp; omega
 have hl2 : ((nums.take p.toNat).drop (0 : Int).toNat).length ≤ 30 := by simp; omega
 have ho : packhorsekit_OwnInts ((nums.take n).drop p.toNat) = some ((nums.take n).drop p.toNat) := by
  unfold packhorsekit_OwnInts app
  rw [if_pos (by simp; omega)]
  rfl
 refine W_eq ho ?_
 refine W_app (by omega) ?_
 refine W_eq (slc_w (by omega)) ?_
 rw [e0]
 have ex : (nums.take n).drop (0 : Int).toNat = (nums.take n).take p.toNat ++ (nums.take n).drop p.toNat := by simp
 have ey : (nums.take p.toNat).drop (0 : Int).toNat = (nums.take n).take p.toNat := by
  rw [List.take_take, Nat.min_eq_left (by omega)]
  rfl
 rw [ex, ey]
 have hlx : ((nums.take n).take p.toNat ++ (nums.take n).drop p.toNat).length ≤ 30 := by rw [List.take_append_drop]; simp; omega
 have hly : ((nums.take n).drop p.toNat ++ (nums.take n).take p.toNat).length ≤ 30 := by rw [List.length_append] at hlx ⊢; omega
 refine W_call (made_s _ hlx) fun r hr => ?_
 subst hr
 dsimp only
 refine W_call (made_s _ hly) fun r hr => ?_
 subst hr
 dsimp only
 refine W_brT (W_brT (W_brT ?_))
 rw [made_app, made_app, made_comm]
 refine W_call (same_s _ ?_) fun r hr => W_ret hr
 have h1 := made_length ((nums.take n).take p.toNat) (made [] ((nums.take n).drop p.toNat))
 have h2 := made_length ((nums.take n).drop p.toNat) []
 rw [List.length_append] at hlx
 simp only [List.length_nil] at h2
 omega
end Go.Proofs.YtjcbpfhlgebgdaaGreat
