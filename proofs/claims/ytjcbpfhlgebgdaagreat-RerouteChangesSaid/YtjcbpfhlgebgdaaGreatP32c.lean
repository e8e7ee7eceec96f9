import Derived.Test.YtjcbpfhlgebgdaaGreatXL
import Derived.Test.YtjcbpfhlgebgdaaGreatPDel
import Derived.Test.YtjcbpfhlgebgdaaGreatXGRc
import Derived.Test.YtjcbpfhlgebgdaaGreatXO
set_option linter.unusedSimpArgs false
set_option linter.unusedVariables false
namespace Go.Proofs.YtjcbpfhlgebgdaaGreat
open Go.X Go.Eng
def cmpI (a b : Int) : Int := if a < b then -1 else if b < a then 1 else 0
theorem cmpI_w (a b : Int) : cmp_Compare (a, b) = some (cmpI a b) := by
 have hn : ∀ x, cmp_isNaN x = some false := fun x => by unfold cmp_isNaN; simp
 unfold cmp_Compare cmpI
 simp only [hn, Option.bind_some, br, cond_false]
 by_cases h1 : a < b
 ·simp [h1]
 ·by_cases h2 : b < a <;> simp [h1, h2]
theorem cmpU_w (a b : Int) : cmp_Compare_2 (a, b) = some (cmpI a b) := by
 have hn : ∀ x, cmp_isNaN_2 x = some false := fun x => by unfold cmp_isNaN_2; simp
 unfold cmp_Compare_2 cmpI
 simp only [hn, Option.bind_some, br, cond_false]
 by_cases h1 : a < b
 ·simp [h1]
 ·by_cases h2 : b < a <;> simp [h1, h2]
theorem cmpR_w (a b : Int) : packhorseref06_order (a, b) = some (cmpI a b) := by
 unfold packhorseref06_order cmpI
 simp only [br]
 by_cases h1 : a < b
 ·simp [h1]
 ·by_cases h2 : b < a <;> simp [h1, h2]
def orL : List Int → Int
 | [] => 0
 | x :: l => if x ≠ 0 then x else orL l
theorem or_w (l : List Int) (hl : l.length ≤ 1000) : cmp_Or l = some (orL l) := by
 refine W.eq ?_
 unfold cmp_Or
 refine W_loop (fun i : Int => 0 ≤ i ∧ i ≤ l.length ∧ orL l = orL (l.drop i.toNat)) (fun i => l.length - i.toNat) ?_ ⟨by omega, by omega, rfl⟩
 rintro i ⟨h0, h1, h2⟩
 refine W_if (fun h => ?_) fun h => ?_
 ·refine W_idx h0 h fun x hx => ?_
  have hd : l.drop i.toNat = x :: l.drop (i.toNat + 1) := by
   obtain ⟨q, rfl⟩ := List.getElem?_eq_some_iff.1 hx
   exact List.drop_eq_getElem_cons q
  rw [hd] at h2
  refine W_if (fun h3 => W_done (W_ret ?_)) fun h3 => ?_
  ·rw [h2]; unfold orL; rw [if_pos h3]
  ·refine W_op fun j hj => W_next ⟨⟨by omega, by omega, ?_⟩, by omega⟩
   rw [h2, show j.toNat = i.toNat + 1 from by omega]
   show (if _ then _ else _) = _
   rw [if_neg h3]
 ·refine W_done (W_ret ?_)
  rw [h2, List.drop_eq_nil_of_le (by omega)]
  rfl
theorem cmpI_or (a b : Int) : (a < b ∧ cmpI a b = -1) ∨ (a = b ∧ cmpI a b = 0) ∨ (b < a ∧ cmpI a b = 1) := by
 unfold cmpI
 (repeat' split) <;> omega
theorem orL_ne {x : Int} {l : List Int} (h : x ≠ 0) : orL (x :: l) = x := by
 show (if _ then _ else _) = _
 rw [if_pos h]
theorem orL_z {l : List Int} : orL (0 :: l) = orL l := by
 show (if _ then _ else _) = _
 rw [if_neg (by simp)]
def cmpID (a b : ID) : Int := orL [cmpI a.Node b.Node, cmpI a.Seq b.Seq, cmpI a.Off b.Off]
def cmpD (a b : Denial) : Int := orL [cmpID a.ID b.ID, cmpI a.Node b.Node]
theorem compare_w (x d : Denial) : reroute_compare (x, ⟨d.ID, d.Node⟩) = some (cmpD x d) := by
 unfold reroute_compare bundle_Compare
 simp only [cmpI_w, cmpU_w, Option.bind_some, or_w _ (show [_, _, _].length ≤ 1000 by simp), or_w _ (show [_, _].length ≤ 1000 by simp)]
 rfl
theorem cmpID_w (a b : ID) : packhorseref06_Compare (a, b) = some (cmpID a b) := by
 unfold packhorseref06_Compare cmpID
 simp only [cmpR_w, Option.bind_some, br]
 rcases cmpI_or a.Node b.Node with ⟨h, e⟩ | ⟨h, e⟩ | ⟨h, e⟩
 ·have : (a.Node != b.Node) = true := by simp; omega
  rw [e, this, orL_ne (by decide)]; rfl
 ·have : (a.Node != b.Node) = false := by simp; omega
  rw [e, this, orL_z]
  rcases cmpI_or a.Seq b.Seq with ⟨h', e⟩ | ⟨h', e⟩ | ⟨h', e⟩
  ·rw [e, orL_ne (by decide)]; simp [h']
  ·rw [e, orL_z]
   have h1 : ¬ a.Seq < b.Seq := by omega
   have h2 : ¬ b.Seq < a.Seq := by omega
   simp only [h1, h2, decide_false, cond_false]
   unfold orL orL
   split <;> simp_all
  ·rw [e, orL_ne (by decide)]
   have h1 : ¬ a.Seq < b.Seq := by omega
   simp [h', h1]
 ·have : (a.Node != b.Node) = true := by simp; omega
  rw [e, this, orL_ne (by decide)]; rfl
theorem order_w (x d : Denial) : packhorseref32_order (x, d) = some (cmpD x d) := by
 unfold packhorseref32_order cmpD
 simp only [cmpID_w, Option.bind_some, br]
 by_cases h : cmpID x.ID d.ID = 0
 ·rw [h, orL_z]
  rcases cmpI_or x.Node d.Node with ⟨h', e⟩ | ⟨h', e⟩ | ⟨h', e⟩
  ·rw [e, orL_ne (by decide)]; simp [h']
  ·have h1 : ¬ x.Node < d.Node := by omega
   have h2 : ¬ d.Node < x.Node := by omega
   rw [e, orL_z]; simp [h1, h2]; rfl
  ·have h1 : ¬ x.Node < d.Node := by omega
   rw [e, orL_ne (by decide)]; simp [h', h1]
 ·rw [orL_ne h]
  have : (cmpID x.ID d.ID != 0) = true := by simpa using h
  rw [this]; rfl
theorem cmpID_cases (a b : ID) : (cmpID a b < 0 ↔ a.Node < b.Node ∨ (a.Node = b.Node ∧ (a.Seq < b.Seq ∨ (a.Seq = b.Seq ∧ a.Off < b.Off)))) ∧ (cmpID a b = 0 ↔ a.Node = b.Node ∧ a.Seq = b.Seq ∧ a.Off = b.Off) := by
 unfold cmpID
 have e0 : orL [] = 0 := rfl
 rcases cmpI_or a.Node b.Node with ⟨h, e⟩ | ⟨h, e⟩ | ⟨h, e⟩
 ·rw [e, orL_ne (by decide)]; omega
 ·rw [e, orL_z]
  rcases cmpI_or a.Seq b.Seq with ⟨h', e⟩ | ⟨h', e⟩ | ⟨h', e⟩
  ·rw [e, orL_ne (by decide)]; omega
  ·rw [e, orL_z]
   rcases cmpI_or a.Off b.Off with ⟨h'', e⟩ | ⟨h'', e⟩ | ⟨h'', e⟩
   ·rw [e, orL_ne (by decide)]; omega
   ·rw [e, orL_z, e0]; omega
   ·rw [e, orL_ne (by decide)]; omega
  ·rw [e, orL_ne (by decide)]; omega
 ·rw [e, orL_ne (by decide)]; omega
theorem cmpD_cases (a b : Denial) : (cmpD a b < 0 ↔ cmpID a.ID b.ID < 0 ∨ (cmpID a.ID b.ID = 0 ∧ a.Node < b.Node)) := by
 unfold cmpD
 have e0 : orL [] = 0 := rfl
 by_cases h : cmpID a.ID b.ID = 0
 ·rw [h, orL_z]
  rcases cmpI_or a.Node b.Node with ⟨h'', e⟩ | ⟨h'', e⟩ | ⟨h'', e⟩
  ·rw [e, orL_ne (by decide)]; omega
  ·rw [e, orL_z, e0]; omega
  ·rw [e, orL_ne (by decide)]; omega
 ·rw [orL_ne h]; omega
theorem cmpD_trans {a b c : Denial} (h1 : cmpD a b < 0) (h2 : cmpD b c < 0) : cmpD a c < 0 := by
 rw [cmpD_cases] at h1 h2 ⊢
 have a1 := cmpID_cases a.ID b.ID
 have a2 := cmpID_cases b.ID c.ID
 have a3 := cmpID_cases a.ID c.ID
 rw [a1.1, a1.2] at h1
 rw [a2.1, a2.2] at h2
 rw [a3.1, a3.2]
 clear a1 a2 a3
 omega
def okD (d : Denial) : Prop := (1 ≤ d.Node ∧ d.Node ≤ 16) ∧ 0 ≤ d.Until ∧ d.Until ≤ 2199023255552
instance (d : Denial) : Decidable (okD d) := by unfold okD; infer_instance
theorem one_w (d : Denial) : reroute_one d = some (if okD d then 0 else 2) := by
 unfold reroute_one okD
 simp only [br]
 by_cases h1 : d.Node < 1
 ·simp [h1, show ¬ 1 ≤ d.Node by omega]
 by_cases h2 : 16 < d.Node
 ·simp [h1, h2, show ¬ d.Node ≤ 16 by omega]
 by_cases h3 : d.Until < 0
 ·simp [h1, h2, h3, show ¬ 0 ≤ d.Until by omega]
 by_cases h4 : 2199023255552 < d.Until
 ·simp [h1, h2, h3, h4, show ¬ d.Until ≤ 2199023255552 by omega]
 ·simp [h1, h2, h3, h4, show 1 ≤ d.Node by omega, show d.Node ≤ 16 by omega, show 0 ≤ d.Until by omega, show d.Until ≤ 2199023255552 by omega]
theorem fits_w (d : Denial) : packhorseref32_fits (d.Node, d.Until) = some (decide (okD d)) := by
 unfold packhorseref32_fits okD
 simp only [br]
 by_cases h1 : 1 ≤ d.Node <;> by_cases h2 : d.Node ≤ 16 <;> by_cases h3 : 0 ≤ d.Until <;> simp [h1, h2, h3]
theorem check_eq (l : List Denial) : packhorseref32_Check l = reroute_Check l := by
 unfold packhorseref32_Check reroute_Check
 congr 1
 congr 1
 funext i
 cases hx : idx l i with
 | none => simp only [Option.bind_none]
 | some x =>
  simp only [Option.bind_some, one_w, fits_w]
  by_cases ho : okD x
  ·simp only [ho, if_true, decide_true, Bool.not_true, br, cond_false, bne_self_eq_false]
   cases hj : subI .i64 i 1 with
   | none => simp only [Option.bind_none]
   | some j =>
    simp only [Option.bind_some]
    cases hy : idx l j with
    | none => simp only [Option.bind_none]
    | some y => simp only [Option.bind_some, order_w, compare_w]
  ·simp [ho, br]
structure Ok (l : List Denial) : Prop where
 get : ∀ {i j : Nat} {x y : Denial}, l[i]? = some x → l[j]? = some y → i < j → cmpD x y < 0
theorem Ok.of {l : List Denial} (h : ∀ (i : Nat) x y, l[i]? = some x → l[i + 1]? = some y → cmpD x y < 0) : Ok l := by
 refine ⟨fun {i j x y} hx hy hij => ?_⟩
 obtain ⟨k, rfl⟩ : ∃ k, j = i + 1 + k := ⟨j - (i + 1), by omega⟩
 clear hij
 induction k generalizing y with
 | zero => exact h i x y hx hy
 | succ k ih =>
  have hlt := (List.getElem?_eq_some_iff.1 hy).1
  have hz := List.getElem?_eq_getElem (show i + 1 + k < l.length by omega)
  exact cmpD_trans (ih hz) (h (i + 1 + k) _ y hz hy)
theorem check_s {l : List Denial} (hl : l.length ≤ 1000) : W (reroute_Check l) fun r => r.1 ≠ 0 ∨ (r = (0, 0) ∧ Ok l) := by
 unfold reroute_Check
 refine W_loop (fun i : Int => (0 ≤ i ∧ i ≤ l.length) ∧ ∀ (k : Nat) x y, k + 1 < i.toNat → l[k]? = some x → l[k + 1]? = some y → cmpD x y < 0) (fun i => l.length - i.toNat) ?_ ⟨⟨by omega, by omega⟩, fun k x y hk => by simp at hk⟩
 rintro i ⟨⟨h0, h1⟩, h2⟩
 refine W_if (fun hi => ?_) fun hi => W_done (W_ret (.inr ⟨rfl, Ok.of fun k x y hx hy => h2 k x y ?_ hx hy⟩))
 ·refine W_idx h0 hi fun x hx => ?_
  rw [one_w]
  refine W_some ?_
  by_cases ho : okD x
  ·rw [if_pos ho]
   refine W_if (fun h => absurd rfl h) fun _ => ?_
   refine W_if (fun hp => ?_) fun hp => ?_
   ·refine W_op fun j hj => ?_
    refine W_idx (by omega) (by omega) fun y hy => ?_
    rw [compare_w]
    refine W_some ?_
    refine W_if (fun h => W_done (W_ret (.inl (by simp)))) fun hc => ?_
    refine W_op fun j' hj' => W_next ⟨⟨⟨by omega, by omega⟩, fun k u v hk hu hv => ?_⟩, by omega⟩
    by_cases hkk : k + 1 < i.toNat
    ·exact h2 k u v hkk hu hv
    ·have e1 : k + 1 = i.toNat := by omega
     have e2 : k = j.toNat := by omega
     rw [e1, hx] at hv
     rw [e2, hy] at hu
     cases hv
     cases hu
     omega
   ·refine W_op fun j' hj' => W_next ⟨⟨⟨by omega, by omega⟩, fun k u v hk hu hv => ?_⟩, by omega⟩
    omega
  ·rw [if_neg ho]
   refine W_if (fun _ => W_done (W_ret (.inl (by simp)))) fun h => absurd (by decide) h
 ·have := (List.getElem?_eq_some_iff.1 hy).1
  omega
theorem clone_w (l : List Denial) (hl : l.length ≤ 1000) : slices_Clone l = some l := by
 unfold slices_Clone
 have : app 40 ([] : List Denial) l = some l := by unfold app; rw [if_pos (by simp; omega)]; rfl
 rw [this]
 cases l with
 | nil => unfold nilq both; simp
 | cons c l => rfl
theorem wrapU {a : Int} (h0 : 0 ≤ a) (h1 : a ≤ 4000) : IntKind.wrap .u64 a = a := InR_u64 a ⟨h0, by omega⟩
theorem wrapI {a : Int} (h0 : 0 ≤ a) (h1 : a ≤ 4000) : IntKind.wrap .i64 a = a := InR_i64 a ⟨by omega, by omega⟩
theorem shr1 {a : Int} (h0 : 0 ≤ a) : shrI .u64 a 1 = some (a / 2) := by
 unfold shrI
 rw [if_pos (by omega), Int.fdiv_eq_ediv_of_nonneg _ (by decide)]
 rfl
def At (l : List Denial) (d : Denial) (p : Nat) : Prop := p ≤ l.length ∧ (∀ k x, k < p → l[k]? = some x → cmpD x d < 0) ∧ (∀ k x, p ≤ k → l[k]? = some x → ¬ cmpD x d < 0)
theorem At.uniq {l : List Denial} {d : Denial} {p q : Nat} (hp : At l d p) (hq : At l d q) : p = q := by
 obtain ⟨p1, p2, p3⟩ := hp
 obtain ⟨q1, q2, q3⟩ := hq
 rcases Nat.lt_trichotomy p q with h | h | h
 ·have hx := List.getElem?_eq_getElem (show p < l.length by omega)
  exact absurd (q2 p _ h hx) (p3 p _ (Nat.le_refl _) hx)
 ·exact h
 ·have hx := List.getElem?_eq_getElem (show q < l.length by omega)
  exact absurd (p2 q _ h hx) (q3 q _ (Nat.le_refl _) hx)
theorem search_s {l : List Denial} {d : Denial} (h : Ok l) (hl : l.length ≤ 1000) : W (slices_BinarySearchFunc_f27 (l, ⟨d.ID, d.Node⟩)) fun r =>
  ∃ p : Nat, r.1 = p ∧ At l d p ∧ ((r.2 = true ∧ ∃ x, l[p]? = some x ∧ cmpD x d = 0) ∨ (r.2 = false ∧ ∀ x, l[p]? = some x → cmpD x d ≠ 0)) := by
 unfold slices_BinarySearchFunc_f27
 refine W_loop (fun s : Int × Int => (0 ≤ s.1 ∧ s.1 ≤ s.2 ∧ s.2 ≤ l.length) ∧ (∀ k x, k < s.1.toNat → l[k]? = some x → cmpD x d < 0) ∧ (∀ k x, s.2.toNat ≤ k → l[k]? = some x → ¬ cmpD x d < 0)) (fun s => s.2.toNat - s.1.toNat) ?_ ⟨⟨by simp, by simp, by simp⟩, fun k x hk => by simp at hk, fun k x hk hx => by
  have := (List.getElem?_eq_some_iff.1 hx).1
  simp at hk
  omega⟩
 rintro ⟨i, j⟩ ⟨⟨h0, h1, h2⟩, h3, h4⟩
 dsimp only at h0 h1 h2 h3 h4 ⊢
 refine W_if (fun hij => ?_) fun hij => ?_
 ·refine W_op fun c hc => ?_
  rw [wrapU (a := c) (by omega) (by omega)]
  refine W_eq (shr1 (a := c) (by omega)) ?_
  have hb : 0 ≤ c / 2 ∧ i ≤ c / 2 ∧ c / 2 < j := by omega
  generalize c / 2 = m at hb ⊢
  rw [wrapI (a := m) (by omega) (by omega)]
  refine W_idx (by omega) (by omega) fun x hx => ?_
  refine W_eq (compare_w x d) ?_
  refine W_if (fun hlt => ?_) fun hlt => ?_
  ·refine W_op fun m' hm' => W_next ⟨⟨⟨by dsimp only; omega, by dsimp only; omega, h2⟩, fun k y hk hy => ?_, h4⟩, by dsimp only; omega⟩
   dsimp only at hk
   rcases Nat.lt_or_ge k m.toNat with q | q
   ·exact cmpD_trans (h.get hy hx q) hlt
   ·have : k = m.toNat := by omega
    subst this
    rw [hy] at hx
    cases hx
    exact hlt
  ·refine W_next ⟨⟨⟨h0, by dsimp only; omega, by dsimp only; omega⟩, h3, fun k y hk hy => ?_⟩, by dsimp only; omega⟩
   dsimp only at hk
   rcases Nat.lt_or_ge m.toNat k with q | q
   ·exact fun hc => hlt (cmpD_trans (h.get hx hy q) hc)
   ·have : k = m.toNat := by omega
    subst this
    rw [hy] at hx
    cases hx
    exact hlt
 ·have hji : j = i := by omega
  subst hji
  refine W_done ?_
  refine W_if (fun hlt => ?_) fun hlt => ?_
  ·refine W_idx (by omega) (by omega) fun x hx => ?_
   refine W_eq (compare_w x d) (W_ret ⟨j.toNat, by dsimp only; omega, ⟨by omega, h3, h4⟩, ?_⟩)
   by_cases hr0 : cmpD x d = 0
   ·exact .inl ⟨by simp [hr0], x, hx, hr0⟩
   ·refine .inr ⟨by simpa using hr0, fun y hy => ?_⟩
    rw [hy] at hx
    cases hx
    exact hr0
  ·refine W_ret ⟨j.toNat, by dsimp only; omega, ⟨by omega, h3, h4⟩, .inr ⟨rfl, fun y hy => ?_⟩⟩
   have := (List.getElem?_eq_some_iff.1 hy).1
   omega
def ADD (l : List Denial) (d : Denial) (r : List Denial × Int) : Prop := ∃ p, At l d p ∧ r.2 = 0 ∧
 ((∃ x, l[p]? = some x ∧ cmpD x d = 0 ∧ r.1 = l.set p ⟨x.ID, x.Node, max x.Until d.Until⟩) ∨ ((∀ x, l[p]? = some x → cmpD x d ≠ 0) ∧ r.1 = l.take p ++ [d] ++ l.drop p))
theorem ADD.det {l : List Denial} {d : Denial} {r r' : List Denial × Int} (h : ADD l d r) (h' : ADD l d r') : r = r' := by
 obtain ⟨p, h1, h2, h3⟩ := h
 obtain ⟨q, k1, k2, k3⟩ := h'
 have := h1.uniq k1
 subst this
 refine Prod.ext ?_ (by rw [h2, k2])
 rcases h3 with ⟨x, a1, a2, a3⟩ | ⟨a1, a2⟩ <;> rcases k3 with ⟨y, b1, b2, b3⟩ | ⟨b1, b2⟩
 ·rw [a1] at b1; cases b1; rw [a3, b3]
 ·exact absurd a2 (b1 x a1)
 ·exact absurd b2 (a1 y b1)
 ·rw [a2, b2]
def ADDR (l : List Denial) (d : Denial) (r : List Denial × Int) : Prop := (∃ c, W (reroute_Check l) (fun q => q = c) ∧ c.1 ≠ 0 ∧ r = ([], c.1)) ∨ (W (reroute_Check l) (fun q => q = (0, 0)) ∧ ¬ okD d ∧ r = ([], 2)) ∨ (W (reroute_Check l) (fun q => q = (0, 0)) ∧ okD d ∧ ADD l d r)
theorem W.det {α : Type} {o : Option α} {a b : α} (h : W o fun x => x = a) (h' : W o fun x => x = b) : a = b := by
 have := h.eq
 rw [h'.eq] at this
 cases this; rfl
theorem ADDR.det {l : List Denial} {d : Denial} {r r' : List Denial × Int} (h : ADDR l d r) (h' : ADDR l d r') : r = r' := by
 rcases h with ⟨c, a1, a2, a3⟩ | ⟨a1, a2, a3⟩ | ⟨a1, a2, a3⟩ <;> rcases h' with ⟨c', b1, b2, b3⟩ | ⟨b1, b2, b3⟩ | ⟨b1, b2, b3⟩
 ·have := W.det a1 b1; subst this; rw [a3, b3]
 ·have := W.det a1 b1; subst this; exact absurd rfl a2
 ·have := W.det a1 b1; subst this; exact absurd rfl a2
 ·have := W.det a1 b1; subst this; exact absurd rfl b2
 ·rw [a3, b3]
 ·exact absurd b2 a2
 ·have := W.det a1 b1; subst this; exact absurd rfl b2
 ·exact absurd a2 b2
 ·exact a3.det b3
theorem check_k {l : List Denial} (hl : l.length ≤ 1000) : ∃ c : Int × Int, reroute_Check l = some c ∧ (c.1 ≠ 0 ∨ (c = (0, 0) ∧ Ok l)) := by
 obtain ⟨c, h1, h2⟩ := check_s hl
 exact ⟨c, h1, h2⟩
theorem add_s {l : List Denial} {d : Denial} (hl : l.length ≤ 1000) : W (reroute_Add (l, d.ID, d.Node, d.Until)) (ADDR l d) := by
 unfold reroute_Add
 obtain ⟨c, hc, hk⟩ := check_k hl
 refine W_eq hc ?_
 obtain ⟨c1, c2⟩ := c
 dsimp only
 refine W_if (fun hne => W_ret (.inl ⟨_, ⟨_, hc, rfl⟩, hne, rfl⟩)) fun heq => ?_
 have hz : (c1, c2) = ((0 : Int), (0 : Int)) ∧ Ok l := hk.resolve_left (fun q => q (by simpa using heq))
 have hok := hz.2
 have hc0 : W (reroute_Check l) (fun q => q = (0, 0)) := ⟨_, hc, hz.1⟩
 rw [one_w]
 refine W_some ?_
 by_cases ho : okD d
 ·have ho' : okD ⟨d.ID, d.Node, d.Until⟩ := ho
  rw [if_pos ho']
  refine W_if (fun h => absurd rfl h) fun _ => ?_
  refine W_eq (clone_w l hl) ?_
  refine W_call (search_s (d := d) hok hl) fun r hr => ?_
  obtain ⟨r1, r2⟩ := r
  obtain ⟨p, hp, hat, hr⟩ := hr
  dsimp only at hp hr ⊢
  subst hp
  have hpl := hat.1
  rcases hr with ⟨rfl, x, hx, hk⟩ | ⟨rfl, hr⟩
  ·refine W_brT ?_
   have hlt := (List.getElem?_eq_some_iff.1 hx).1
   refine W_idx (by omega) (by omega) fun y hy => ?_
   have : y = x := by simpa [hx] using hy.symm
   subst this
   refine W_brin (by omega) (by omega) ?_
   refine W_idx (by omega) (by omega) fun z hz => ?_
   have : z = y := by simpa [hx] using hz.symm
   subst this
   exact W_ret (.inr (.inr ⟨hc0, ho, p, hat, rfl, .inl ⟨z, hx, hk, by unfold setI; rw [show (p : Int).toNat = p from by omega]⟩⟩))
  ·refine W_brF ?_
   have hi : insertX l (p : Int) [⟨d.ID, d.Node, d.Until⟩] = some (l.take p ++ [d] ++ l.drop p) := by
    unfold insertX
    dsimp only
    rw [if_pos (by omega)]
    rfl
   exact W_eq hi (W_ret (.inr (.inr ⟨hc0, ho, p, hat, rfl, .inr ⟨hr, rfl⟩⟩)))
 ·have ho' : ¬ okD ⟨d.ID, d.Node, d.Until⟩ := ho
  rw [if_neg ho']
  exact W_if (fun _ => W_ret (.inr (.inl ⟨hc0, ho, rfl⟩))) fun h => absurd (by decide) h
theorem app_w {α : Type} {n : Nat} {l m : List α} (h : (l.length + m.length) * n ≤ 140737488355328) : app n l m = some (l ++ m) := by unfold app; rw [if_pos h]
theorem slc_w {α : Type} {l : List α} {lo hi : Int} (h : 0 ≤ lo ∧ lo ≤ hi ∧ hi ≤ l.length) : slc l lo hi = some ((l.take hi.toNat).drop lo.toNat) := by
 unfold slc; rw [if_pos h]
theorem refAdd_s {l : List Denial} {d : Denial} (hl : l.length ≤ 1000) : W (packhorseref32_Add (l, d.ID, d.Node, d.Until)) (ADDR l d) := by
 unfold packhorseref32_Add
 obtain ⟨c, hc, hk⟩ := check_k hl
 refine W_eq ((check_eq l).trans hc) ?_
 obtain ⟨c1, c2⟩ := c
 dsimp only
 refine W_if (fun hne => W_ret (.inl ⟨_, ⟨_, hc, rfl⟩, hne, rfl⟩)) fun heq => ?_
 have hz : (c1, c2) = ((0 : Int), (0 : Int)) ∧ Ok l := hk.resolve_left (fun q => q (by simpa using heq))
 have hok := hz.2
 have hc0 : W (reroute_Check l) (fun q => q = (0, 0)) := ⟨_, hc, hz.1⟩
 refine W_eq (fits_w d) ?_
 by_cases ho : okD d
 ·rw [decide_eq_true ho]
  refine W_brnot (W_brT ?_)
  refine W_loop (fun i : Int => (0 ≤ i ∧ i ≤ l.length) ∧ ∀ k x, k < i.toNat → l[k]? = some x → cmpD x d < 0) (fun i => l.length - i.toNat) ?_ ⟨⟨by omega, by omega⟩, fun k x hk => by simp at hk⟩
  rintro i ⟨⟨h0, h1⟩, h2⟩
  have fin : (∀ x, l[i.toNat]? = some x → ¬ cmpD x d < 0) → At l d i.toNat := fun hge => ⟨by omega, h2, fun k x hk hx => by
   rcases Nat.eq_or_lt_of_le hk with q | q
   ·subst q; exact hge x hx
   ·have hlt := (List.getElem?_eq_some_iff.1 hx).1
    have hy := List.getElem?_eq_getElem (show i.toNat < l.length by omega)
    exact fun hc => hge _ hy (cmpD_trans (hok.get hy hx q) hc)⟩
  have ins : (∀ x, l[i.toNat]? = some x → ¬ cmpD x d < 0) → (∀ x, l[i.toNat]? = some x → cmpD x d ≠ 0) → W ((slc l (0 : Int) i).bind fun x_18 =>
     (app 40 ([] : List Denial) x_18).bind fun x_19 =>
     (app 40 x_19 ([(⟨d.ID, d.Node, d.Until⟩ : Denial)] : List Denial)).bind fun x_20 =>
     (slc l i (l.length : Int)).bind fun x_21 =>
     (app 40 x_20 x_21).bind fun x_22 =>
     some (x_22, (0 : Int))) (ADDR l d) := fun hge hne => by
   refine W_eq (slc_w (by omega)) ?_
   refine W_eq (app_w (by simp; omega)) ?_
   refine W_eq (app_w (by simp; omega)) ?_
   refine W_eq (slc_w (by omega)) ?_
   refine W_eq (app_w (by simp; omega)) ?_
   refine W_ret (.inr (.inr ⟨hc0, ho, i.toNat, fin hge, rfl, .inr ⟨hne, ?_⟩⟩))
   dsimp only
   rw [show (l.length : Int).toNat = l.length from by omega, List.take_length]
   simp
  refine W_if (fun hi => ?_) fun hi => ?_
  ·refine W_idx h0 hi fun x hx => ?_
   rw [show (⟨d.ID, d.Node, d.Until⟩ : Denial) = d from rfl]
   refine W_eq (order_w x d) ?_
   refine W_if (fun hlt => ?_) fun hlt => ?_
   ·refine W_op fun j hj => W_next ⟨⟨⟨by omega, by omega⟩, fun k y hk hy => ?_⟩, by omega⟩
    by_cases hkk : k < i.toNat
    ·exact h2 k y hkk hy
    ·have : k = i.toNat := by omega
     subst this
     rw [hx] at hy; cases hy; exact hlt
   ·refine W_done ?_
    have hge : ∀ y, l[i.toNat]? = some y → ¬ cmpD y d < 0 := fun y hy => by rw [hx] at hy; cases hy; exact hlt
    refine W_eq (app_w (by simp; omega)) ?_
    refine W_if (fun _ => ?_) fun h => absurd hi h
    refine W_idx h0 hi fun y hy => ?_
    have : y = x := by simpa [hx] using hy.symm
    subst this
    refine W_eq (order_w y d) ?_
    refine W_if (fun he => ?_) fun he => ?_
    ·simp only [List.nil_append]
     refine W_idx h0 hi fun z hz => ?_
     have : z = y := by simpa [hx] using hz.symm
     subst this
     refine W_brin h0 hi ?_
     refine W_idx h0 hi fun u hu => ?_
     have : u = z := by simpa [hx] using hu.symm
     subst this
     exact W_ret (.inr (.inr ⟨hc0, ho, i.toNat, fin hge, rfl, .inl ⟨u, hx, he, rfl⟩⟩))
    ·exact ins hge fun z hz => by rw [hx] at hz; cases hz; exact he
  ·refine W_done ?_
   have hnone : ∀ y, l[i.toNat]? = some y → False := fun y hy => by
    have := (List.getElem?_eq_some_iff.1 hy).1
    omega
   refine W_eq (app_w (by simp; omega)) ?_
   refine W_if (fun h => absurd h hi) fun _ => ?_
   exact ins (fun y hy => (hnone y hy).elim) fun y hy => (hnone y hy).elim
 ·rw [decide_eq_false ho]
  exact W_brnot (W_brF (W_ret (.inr (.inl ⟨hc0, ho, rfl⟩))))
theorem same_s (a : List Denial) (ha : a.length ≤ 1001) : W (packhorsekit_SameDenials (a, a)) fun r => r = true := by
 unfold packhorsekit_SameDenials
 refine W_if (fun h => absurd rfl h) fun _ => ?_
 refine W_loop (fun i : Int => 0 ≤ i ∧ i ≤ a.length) (fun i => a.length - i.toNat) ?_ ⟨by omega, by omega⟩
 rintro i ⟨h0, h1⟩
 refine W_if (fun hi => ?_) fun hi => W_done (W_ret rfl)
 refine W_idx h0 hi fun x hx => ?_
 refine W_idx h0 hi fun y hy => ?_
 have : y = x := by simpa [hx] using hy.symm
 subst this
 simp only [beq_self_eq_true, Bool.and_self]
 refine W_brnot (W_brT ?_)
 refine W_op fun j hj => W_next ⟨⟨by omega, by omega⟩, by omega⟩
theorem sameI_s (a : List Int) (ha : a.length ≤ 1001) : W (packhorsekit_SameInts (a, a)) fun r => r = true := by
 unfold packhorsekit_SameInts
 refine W_if (fun h => absurd rfl h) fun _ => ?_
 refine W_loop (fun i : Int => 0 ≤ i ∧ i ≤ a.length) (fun i => a.length - i.toNat) ?_ ⟨by omega, by omega⟩
 rintro i ⟨h0, h1⟩
 refine W_if (fun hi => ?_) fun hi => W_done (W_ret rfl)
 refine W_idx h0 hi fun x hx => ?_
 refine W_idx h0 hi fun y hy => ?_
 have : y = x := by simpa [hx] using hy.symm
 subst this
 refine W_if (fun h => absurd rfl h) fun _ => ?_
 refine W_op fun j hj => W_next ⟨⟨by omega, by omega⟩, by omega⟩
def eqID (a b : ID) : Bool := (a.Node == b.Node) && ((a.Seq == b.Seq) && (a.Off == b.Off))
theorem delF_w (l : List Denial) (now : Int) (hl : l.length ≤ 1000) : W (slices_DeleteFunc_f34 l now) fun r => r = (l.filter (fun d => !decide (d.Until ≤ now)), now) :=
 delG_s (F := reroute_Forget_1) (p := fun d => decide (d.Until ≤ now)) (fun d => rfl) _ l hl
theorem delD_w (l : List Denial) (id : ID) (hl : l.length ≤ 1000) : W (slices_DeleteFunc_f35 l id) fun r => r = (l.filter (fun d => !eqID d.ID id), id) :=
 delG_s (F := reroute_Drop_1) (p := fun d => eqID d.ID id) (fun d => rfl) _ l hl
theorem filter_snoc {α : Type} {l : List α} {p : α → Bool} {i : Nat} {x : α} (hx : l[i]? = some x) : (l.take (i + 1)).filter p = (l.take i).filter p ++ (if p x then [x] else []) := by
 rw [List.take_add_one, hx, List.filter_append]
 cases h : p x <;> simp [h]
theorem filter_len {α : Type} (l : List α) (p : α → Bool) (i : Nat) : ((l.take i).filter p).length ≤ l.length :=
 Nat.le_trans (List.length_filter_le _ _) (by simp; omega)
theorem forget_s {l : List Denial} {now : Int} (hl : l.length ≤ 1000) {c1 c2 : Int} (hc : reroute_Check l = some (c1, c2)) : W (reroute_Forget (l, now)) fun r => r = if c1 ≠ 0 then ([], c1) else (l.filter (fun d => !decide (d.Until ≤ now)), 0) := by
 unfold reroute_Forget
 refine W_eq hc ?_
 dsimp only
 refine W_if (fun h => W_ret (by rw [if_pos h])) fun h => ?_
 refine W_eq (clone_w l hl) ?_
 refine W_call (delF_w l now hl) fun r hr => ?_
 subst hr
 exact W_ret (by rw [if_neg h])
theorem refForget_s {l : List Denial} {now : Int} (hl : l.length ≤ 1000) {c1 c2 : Int} (hc : reroute_Check l = some (c1, c2)) : W (packhorseref32_Forget (l, now)) fun r => r = if c1 ≠ 0 then ([], c1) else (l.filter (fun d => !decide (d.Until ≤ now)), 0) := by
 unfold packhorseref32_Forget
 refine W_eq ((check_eq l).trans hc) ?_
 dsimp only
 refine W_if (fun h => W_ret (by rw [if_pos h])) fun h => ?_
 rw [if_neg h]
 refine W_loop (fun s : List Denial × Int => (0 ≤ s.2 ∧ s.2 ≤ l.length) ∧ s.1 = (l.take s.2.toNat).filter (fun d => !decide (d.Until ≤ now))) (fun s => l.length - s.2.toNat) ?_ ⟨⟨by simp, by simp⟩, by simp⟩
 rintro ⟨s, i⟩ ⟨⟨h0, h1⟩, h2⟩
 dsimp only at h0 h1 h2 ⊢
 have hfl := filter_len l (fun d => !decide (d.Until ≤ now)) i.toNat
 rw [← h2] at hfl
 refine W_if (fun hi => ?_) fun hi => ?_
 ·refine W_idx h0 hi fun x hx => ?_
  have hsn := filter_snoc (p := fun d : Denial => !decide (d.Until ≤ now)) hx
  rw [← h2] at hsn
  refine W_if (fun hlt => ?_) fun hlt => ?_
  ·refine W_idx h0 hi fun y hy => ?_
   have : y = x := by simpa [hx] using hy.symm
   subst this
   refine W_eq (app_w (by simp; omega)) ?_
   refine W_op fun j hj => W_next ⟨⟨⟨by dsimp only; omega, by dsimp only; omega⟩, ?_⟩, by dsimp only; omega⟩
   dsimp only
   rw [show j.toNat = i.toNat + 1 from by omega, hsn, if_pos (by simp; omega)]
  ·refine W_op fun j hj => W_next ⟨⟨⟨by dsimp only; omega, by dsimp only; omega⟩, ?_⟩, by dsimp only; omega⟩
   dsimp only
   rw [show j.toNat = i.toNat + 1 from by omega, hsn, if_neg (by simp; omega)]; simp
 ·refine W_done (W_ret ?_)
  rw [h2, List.take_of_length_le (by omega)]
theorem drop_s {l : List Denial} {id : ID} (hl : l.length ≤ 1000) {c1 c2 : Int} (hc : reroute_Check l = some (c1, c2)) : W (reroute_Drop (l, id)) fun r => r = if c1 ≠ 0 then ([], c1) else (l.filter (fun d => !eqID d.ID id), 0) := by
 unfold reroute_Drop
 refine W_eq hc ?_
 dsimp only
 refine W_if (fun h => W_ret (by rw [if_pos h])) fun h => ?_
 refine W_eq (clone_w l hl) ?_
 refine W_call (delD_w l id hl) fun r hr => ?_
 subst hr
 exact W_ret (by rw [if_neg h])
theorem refDrop_s {l : List Denial} {id : ID} (hl : l.length ≤ 1000) {c1 c2 : Int} (hc : reroute_Check l = some (c1, c2)) : W (packhorseref32_Drop (l, id)) fun r => r = if c1 ≠ 0 then ([], c1) else (l.filter (fun d => !eqID d.ID id), 0) := by
 unfold packhorseref32_Drop
 refine W_eq ((check_eq l).trans hc) ?_
 dsimp only
 refine W_if (fun h => W_ret (by rw [if_pos h])) fun h => ?_
 rw [if_neg h]
 refine W_loop (fun s : List Denial × Int => (0 ≤ s.2 ∧ s.2 ≤ l.length) ∧ s.1 = (l.take s.2.toNat).filter (fun d => !eqID d.ID id)) (fun s => l.length - s.2.toNat) ?_ ⟨⟨by simp, by simp⟩, by simp⟩
 rintro ⟨s, i⟩ ⟨⟨h0, h1⟩, h2⟩
 dsimp only at h0 h1 h2 ⊢
 have hfl := filter_len l (fun d => !eqID d.ID id) i.toNat
 rw [← h2] at hfl
 refine W_if (fun hi => ?_) fun hi => ?_
 ·refine W_idx h0 hi fun x hx => ?_
  have hsn := filter_snoc (p := fun d : Denial => !eqID d.ID id) hx
  rw [← h2] at hsn
  have he : ((x.ID.Node == id.Node) && ((x.ID.Seq == id.Seq) && (x.ID.Off == id.Off))) = eqID x.ID id := rfl
  rw [he]
  cases hq : eqID x.ID id with
  | false =>
   rw [hq] at hsn
   refine W_brnot (W_brF ?_)
   refine W_idx h0 hi fun y hy => ?_
   have : y = x := by simpa [hx] using hy.symm
   subst this
   refine W_eq (app_w (by simp; omega)) ?_
   refine W_op fun j hj => W_next ⟨⟨⟨by dsimp only; omega, by dsimp only; omega⟩, ?_⟩, by dsimp only; omega⟩
   dsimp only
   rw [show j.toNat = i.toNat + 1 from by omega, hsn]; rfl
  | true =>
   rw [hq] at hsn
   refine W_brnot (W_brT ?_)
   refine W_op fun j hj => W_next ⟨⟨⟨by dsimp only; omega, by dsimp only; omega⟩, ?_⟩, by dsimp only; omega⟩
   dsimp only
   rw [show j.toNat = i.toNat + 1 from by omega, hsn]; simp
 ·refine W_done (W_ret ?_)
  rw [h2, List.take_of_length_le (by omega)]
theorem denied_eq (l : List Denial) (id : ID) (now : Int) : packhorseref32_Denied (l, id, now) = reroute_Denied (l, id, now) := by
 unfold packhorseref32_Denied reroute_Denied reroute_denied
 dsimp only
 rw [check_eq]
 cases reroute_Check l with
 | none => rfl
 | some c =>
  simp only [Option.bind_some, Option.bind_assoc]
  congr 1
  congr 1
  congr 1
  funext s
  cases hx : idx l s.2 with
  | none => simp only [Option.bind_none, hx]
  | some x => simp only [Option.bind_some, hx]
theorem denied_s {l : List Denial} {id : ID} {now : Int} (hl : l.length ≤ 1000) : W (reroute_Denied (l, id, now)) fun r => r.1.length ≤ 1000 := by
 unfold reroute_Denied
 obtain ⟨c, hc, hk⟩ := check_k hl
 refine W_eq hc ?_
 obtain ⟨c1, c2⟩ := c
 dsimp only
 refine W_if (fun hne => W_ret (by simp)) fun heq => ?_
 have : W (reroute_denied (l, id, now)) fun r => r.length ≤ 1000 := by
  unfold reroute_denied
  refine W_loop (fun s : List Int × Int => (0 ≤ s.2 ∧ s.2 ≤ l.length) ∧ s.1.length ≤ s.2.toNat) (fun s => l.length - s.2.toNat) ?_ ⟨⟨by simp, by simp⟩, by simp⟩
  rintro ⟨s, i⟩ ⟨⟨h0, h1⟩, h2⟩
  dsimp only at h0 h1 h2 ⊢
  refine W_if (fun hi => ?_) fun hi => W_done (W_ret (by omega))
  refine W_idx h0 hi fun x hx => ?_
  refine W_br (fun _ => ?_) fun _ => ?_
  ·refine W_if (fun _ => ?_) fun _ => ?_
   ·refine W_eq (app_w (by simp; omega)) ?_
    refine W_op fun j hj => W_next ⟨⟨⟨by dsimp only; omega, by dsimp only; omega⟩, by simp; omega⟩, by dsimp only; omega⟩
   ·refine W_op fun j hj => W_next ⟨⟨⟨by dsimp only; omega, by dsimp only; omega⟩, by dsimp only; omega⟩, by dsimp only; omega⟩
  ·refine W_op fun j hj => W_next ⟨⟨⟨by dsimp only; omega, by dsimp only; omega⟩, by dsimp only; omega⟩, by dsimp only; omega⟩
 exact W_call this fun r hr => W_ret hr
theorem ADDR.len {l : List Denial} {d : Denial} {r : List Denial × Int} (h : ADDR l d r) (hl : l.length ≤ 1000) : r.1.length ≤ 1001 := by
 rcases h with ⟨c, _, _, rfl⟩ | ⟨_, _, rfl⟩ | ⟨_, _, p, hp, _, ⟨x, _, _, e⟩ | ⟨_, e⟩⟩
 ·simp
 ·simp
 ·rw [e]; simp; omega
 ·have := hp.1
  rw [e]; simp; omega
theorem rerouteChanges_w (l : List Denial) (id : ID) (node until' now : Int) : W (packhorselaw32_RerouteChanges (l, id, node, until', now)) fun r => r = true := by
 unfold packhorselaw32_RerouteChanges
 refine W_if (fun h => W_eq (a := true) rfl (W_ret rfl)) fun hlen => ?_
 have hl : l.length ≤ 1000 := by omega
 have ho : packhorsekit_OwnDenials l = some l := by
  unfold packhorsekit_OwnDenials
  rw [app_w (by simp; omega)]
  rfl
 refine W_eq ho ?_
 obtain ⟨c, hc, _⟩ := check_k hl
 obtain ⟨c1, c2⟩ := c
 refine W_eq hc ?_
 dsimp only
 refine W_eq ((check_eq l).trans hc) ?_
 dsimp only
 refine W_if (fun h => absurd rfl h) fun _ => W_if (fun h => absurd rfl h) fun _ => ?_
 refine W_call (add_s (d := ⟨id, node, until'⟩) hl) fun r hr => ?_
 refine W_call (refAdd_s (d := ⟨id, node, until'⟩) hl) fun r' hr' => ?_
 have := hr.det hr'
 subst this
 obtain ⟨r1, r2⟩ := r
 dsimp only
 refine W_call (same_s r1 (hr.len hl)) fun b hb => ?_
 subst hb
 refine W_brnot (W_brT ?_)
 refine W_if (fun h => absurd rfl h) fun _ => ?_
 have hf1 : ((if c1 ≠ 0 then (([] : List Denial), c1) else (l.filter (fun d => !decide (d.Until ≤ now)), 0)) : List Denial × Int).1.length ≤ 1001 := by
  split
  ·simp
  ·exact Nat.le_trans (List.length_filter_le _ _) (by omega)
 have hf2 : ((if c1 ≠ 0 then (([] : List Denial), c1) else (l.filter (fun d => !eqID d.ID id), 0)) : List Denial × Int).1.length ≤ 1001 := by
  split
  ·simp
  ·exact Nat.le_trans (List.length_filter_le _ _) (by omega)
 refine W_call (forget_s (now := now) hl hc) fun r hr => ?_
 refine W_call (refForget_s (now := now) hl hc) fun r' hr' => ?_
 rw [← hr] at hr' hf1
 subst hr'
 clear hr
 obtain ⟨r1, r2⟩ := r'
 dsimp only at hf1 ⊢
 refine W_call (same_s r1 hf1) fun b hb => ?_
 subst hb
 refine W_brnot (W_brT ?_)
 refine W_if (fun h => absurd rfl h) fun _ => ?_
 refine W_call (drop_s (id := id) hl hc) fun r hr => ?_
 refine W_call (refDrop_s (id := id) hl hc) fun r' hr' => ?_
 rw [← hr] at hr' hf2
 subst hr'
 clear hr
 obtain ⟨r1, r2⟩ := r'
 dsimp only at hf2 ⊢
 obtain ⟨⟨v1, v2⟩, hv, hvl⟩ := denied_s (id := id) (now := now) hl
 refine W_eq hv ?_
 dsimp only
 refine W_eq ((denied_eq l id now).trans hv) ?_
 dsimp only at hvl ⊢
 refine W_call (same_s r1 hf2) fun b hb => ?_
 subst hb
 refine W_brT ?_
 refine W_if (fun _ => ?_) fun h => absurd rfl h
 refine W_call (sameI_s v1 (by omega)) fun b hb => ?_
 subst hb
 refine W_brT ?_
 refine W_if (fun _ => ?_) fun h => absurd rfl h
 refine W_call (same_s l (by omega)) fun b hb => ?_
 subst hb
 exact W_brT (W_eq (a := true) rfl (W_ret rfl))
end Go.Proofs.YtjcbpfhlgebgdaaGreat
